/- What the drawn laws share: an argument that is a slice of bytes, and the laws' own helpers. No condition. -/
import Derived.Test.YtjcggcefmpaieaaDoorDraw4
import Derived.Test.YtjcggcefmpaieaaDoorL04a
set_option linter.unusedVariables false
namespace Go.Proofs
open Go.Sx Go.RowKit Go.ChangeShapes Go.WideShapes
theorem open_RB {H : Type} {enc : TypeId × Value → H} {P : Program} {w : World} {base : Nat} {spare : Nat → Bool} {held : Bool} {r : Reach} {b0 : Nat} {t e : TypeId} {v : Value} {d : DataW H} {ps : List MemPlace}
    (ht : P.underlying t = some (.slice e)) (he : P.underlying e = some (.int .u8)) (hc : P.cellsOf e = 1) (hv : Value.okWide P w r b0 t v) (h : DataW.Trod enc P w base spare held t v d ps) :
    ∃ zs : List Int, RB w v zs := by
  obtain ⟨a, len, cap, rfl⟩ := okWide_slice ht hv
  obtain ⟨fuel, hf⟩ := h
  rcases open_ints ht he hc hf with ⟨h0, _⟩ | ⟨a', len', cap', zs, h0, hb, hl, hm, hlen, _, hcell, hwf⟩
  · simp only [Value.cells, List.cons.injEq, and_true, Value.slice.injEq] at h0
    obtain ⟨rfl, rfl, rfl⟩ := h0
    exact ⟨[], Rd.nil_ w 0 (Nat.zero_le _), by simp⟩
  · simp only [Value.cells, List.cons.injEq, and_true, Value.slice.injEq] at h0
    obtain ⟨rfl, rfl, rfl⟩ := h0
    have hle : len ≤ zs.length := by rw [hlen]; split <;> omega
    have e1 : ((zs.take len).map (Value.int .u8)).length = len := by simp; omega
    refine ⟨zs.take len, ⟨some a', cap, by rw [e1], by omega, hm, fun _ => ⟨a', rfl, fun j u hu => ?_⟩⟩, fun z hz => ?_⟩
    · have hj : j < len := by
        have := (List.getElem?_eq_some_iff.1 hu).1
        omega
      rw [hcell j (by omega)]
      rw [List.getElem?_map, List.getElem?_take_of_lt hj, List.getElem?_eq_getElem (by omega)] at hu
      simp only [Option.map_some, Option.some.injEq] at hu
      rw [← hu, List.getD, List.getElem?_eq_getElem (by omega)]
      rfl
    · have := hwf z (List.mem_of_mem_take hz)
      simp only [Lit.wf] at this
      revert this
      simp [IntKind.min, IntKind.max, IntKind.bits, IntKind.signed]
def laws_big_vc (v : Value) (w : World) (Post : Value → World → Prop) : Prop :=
  LenV v (fun n1 => Post (Value.bool (decide ((4096 : Int) < n1))) w)
theorem laws_big_eq (v : Value) (w : World) (Post : Value → World → Prop) : denF Tryd.prog [] noAnn 10 [v] w Post = laws_big_vc v w Post := by kernel_rfl
set_option maxRecDepth 100000 in
theorem laws_big_calls (v : Value) (w : World) (Post : Value → World → Prop) (hvc : laws_big_vc v w Post) : Ret Tryd.prog 10 #[v] w Post :=
  Ret.of (denF_sound mixed (Eq.mpr (laws_big_eq v w Post) hvc))

theorem laws_big_ret (v : Value) (zs : List Int) (w : World) (h : RB w v zs) : Ret Tryd.prog 10 #[v] w fun r w' => (∃ b, r = .bool b) ∧ Ext w w' :=
  laws_big_calls v w _ (by
    unfold laws_big_vc
    exact h.len ⟨⟨_, rfl⟩, .refl w⟩)
def laws_likeInts_A (a : Value) (b : Value) (xs ys : List Int) (w : World) : Nat → Ann := fun κ => match κ with
  | 0 => { σ := Nat, sli := [5], slc := fun s => [SV.v (Value.int .i64 (s : Int))], bxi := [], bxc := fun s => [], inv := fun s W => s ≤ xs.length ∧ Ext w W ∧ xs.take s = ys.take s, μ := fun s W => xs.length - s }
  | _ => { σ := Unit, sli := [], slc := fun _ => [], bxi := [], bxc := fun _ => [], inv := fun _ _ => False, μ := fun _ _ => 0 }
def laws_likeInts_vc (a : Value) (b : Value) (xs ys : List Int) (w : World) (Post : Value → World → Prop) : Prop :=
  LenV a (fun n1 => LenV b (fun n2 => (((n1 ≠ n2) → Post (Value.bool false) w) ∧ (¬ (n1 ≠ n2) → ((∃ s3 : Nat, (Value.int .i64 0) = (Value.int .i64 (s3 : Int)) ∧ (s3 ≤ xs.length ∧ Ext w w ∧ xs.take s3 = ys.take s3)) ∧ ∀ (s4 : Nat) (w5 : World), (s4 ≤ xs.length ∧ Ext w w5 ∧ xs.take s4 = ys.take s4) → LenV a (fun n6 => ((((s4 : Int) < n6) → IxV 1 a (s4 : Int) (fun ad7 => ∃ n8 : Int, LdV w5 (Value.pointer (some ad7)) (Value.int .i64 n8) ∧ IxV 1 b (s4 : Int) (fun ad9 => ∃ n10 : Int, LdV w5 (Value.pointer (some ad9)) (Value.int .i64 n10) ∧ ∀ w11 : World, Ext w5 w11 → (((n8 ≠ n10) → Post (Value.bool false) w11) ∧ (¬ (n8 ≠ n10) → I64 ((s4 : Int) + 1) ∧ ∃ s12 : Nat, (Value.int .i64 ((s4 : Int) + 1)) = (Value.int .i64 (s12 : Int)) ∧ (s12 ≤ xs.length ∧ Ext w w11 ∧ xs.take s12 = ys.take s12) ∧ (xs.length - s12) < (xs.length - s4)))))) ∧ (¬ ((s4 : Int) < n6) → Post (Value.bool true) w5))))))))
theorem laws_likeInts_eq (a : Value) (b : Value) (xs ys : List Int) (w : World) (Post : Value → World → Prop) : denF Tryd.prog [] (laws_likeInts_A a b xs ys w) 17 [a, b] w Post = laws_likeInts_vc a b xs ys w Post := by kernel_rfl
set_option maxRecDepth 100000 in
theorem laws_likeInts_calls (a : Value) (b : Value) (xs ys : List Int) (w : World) (Post : Value → World → Prop) (hvc : laws_likeInts_vc a b xs ys w Post) : Ret Tryd.prog 17 #[a, b] w Post :=
  Ret.of (denF_sound mixed (Eq.mpr (laws_likeInts_eq a b xs ys w Post) hvc))

theorem laws_likeInts_val (a b : Value) (xs ys : List Int) (w : World) (ha : RI w a xs) (hb : RI w b ys) :
    Val Tryd.prog 17 #[a, b] w (.bool (decide (xs = ys))) :=
  Ret.val (laws_likeInts_calls a b xs ys w _ (by
    unfold laws_likeInts_vc
    have hbd := ha.bound
    refine ha.len (hb.len ⟨fun hne => ⟨?_, .refl w⟩, fun heq => ?_⟩)
    · have : xs ≠ ys := fun e => hne (by rw [e])
      simp [this]
    · have hll : xs.length = ys.length := by omega
      refine ⟨⟨0, rfl, Nat.zero_le _, .refl w, by simp⟩, ?_⟩
      rintro k w1 ⟨hk, h1, hpre⟩
      refine (ha.ext h1).len ⟨fun hlt => ?_, fun hge => ?_⟩
      · have hlt' : k < xs.length := by omega
        refine (ha.ext h1).get k rfl hlt' ((hb.ext h1).get k rfl (by omega) ?_)
        intro w2 h2
        refine ⟨fun hne => ⟨?_, h1.trans h2⟩, fun heq => ⟨by unfold I64; omega, k + 1, rfl, ⟨hlt', h1.trans h2, ?_⟩, by omega⟩⟩
        · have : xs ≠ ys := by
            rintro rfl
            exact hne rfl
          simp [this]
        · have e : xs[k] = ys[k] := by
            have : ¬ (xs[k] ≠ ys[k]) := heq
            exact Classical.not_not.1 this
          rw [take_snoc xs k hlt', take_snoc ys k (by omega), hpre, e]
      · have hkl : k = xs.length := by omega
        refine ⟨?_, h1⟩
        have : xs = ys := by
          rw [hkl] at hpre
          rw [List.take_of_length_le (Nat.le_refl _), List.take_of_length_le (by omega)] at hpre
          exact hpre
        simp [this]))
end Go.Proofs
