/- What the drawn laws share: an argument that is a slice of bytes, and the laws' own helpers. No condition. -/
import Derived.Test.YteolgidmaklbkaaDraw4
import Derived.Test.YteolgidmaklbkaaL04a
set_option linter.unusedVariables false
namespace Go.Proofs
open Go.Sx Go.RowKit Go.ChangeShapes Go.WideShapes
theorem open_RB {H : Type} {enc : TypeId × Value → H} {P : Program} {w : World} {base : Nat} {spare : Nat → Bool} {held : Bool} {r : Reach} {b0 : Nat} {t e : TypeId} {v : Value} {d : DataW H} {ps : List MemPlace}
    (ht : P.underlying t = some (.slice e)) (he : P.underlying e = some (.int .u8)) (hc : P.cellsOf e = 1) (hv : Value.okWide P w r b0 t v) (h : DataW.Trod enc P w base spare held t v d ps) :
    ∃ zs : List Int, RB w v zs := by
  obtain ⟨a, len, cap, rfl⟩ := okWide_slice ht hv
  obtain ⟨fuel, hf⟩ := h
  rcases open_ints ht he hc hf with ⟨h0, _⟩ | ⟨a', len', cap', zs, h0, hb, hl, hm, hlen, _, hcell, hwf⟩
  · simp only [Value.cells, List.cons.injEq, and_true, Value.slice.injEq] at h0
    obtain ⟨rfl, rfl, rfl⟩ := h0
    exact ⟨[], Rd.nil_ w 0 (Nat.zero_le _), by simp⟩
  · simp only [Value.cells, List.cons.injEq, and_true, Value.slice.injEq] at h0
    obtain ⟨rfl, rfl, rfl⟩ := h0
    have hle : len ≤ zs.length := by rw [hlen]; split <;> omega
    have e1 : ((zs.take len).map (Value.int .u8)).length = len := by simp; omega
    refine ⟨zs.take len, ⟨some a', cap, by rw [e1], by omega, hm, fun _ => ⟨a', rfl, fun j u hu => ?_⟩⟩, fun z hz => ?_⟩
    · have hj : j < len := by
        have := (List.getElem?_eq_some_iff.1 hu).1
        omega
      rw [hcell j (by omega)]
      rw [List.getElem?_map, List.getElem?_take_of_lt hj, List.getElem?_eq_getElem (by omega)] at hu
      simp only [Option.map_some, Option.some.injEq] at hu
      rw [← hu, List.getD, List.getElem?_eq_getElem (by omega)]
      rfl
    · have := hwf z (List.mem_of_mem_take hz)
      simp only [Lit.wf] at this
      revert this
      simp [IntKind.min, IntKind.max, IntKind.bits, IntKind.signed]
def laws_big_vc (v : Value) (w : World) (Post : Value → World → Prop) : Prop :=
  LenV v (fun n1 => Post (Value.bool (decide ((4096 : Int) < n1))) w)
theorem laws_big_eq (v : Value) (w : World) (Post : Value → World → Prop) : denF Try.prog [] noAnn 21 [v] w Post = laws_big_vc v w Post := by kernel_rfl
set_option maxRecDepth 100000 in
theorem laws_big_calls (v : Value) (w : World) (Post : Value → World → Prop) (hvc : laws_big_vc v w Post) : Ret Try.prog 21 #[v] w Post :=
  Ret.of (denF_sound mixed (Eq.mpr (laws_big_eq v w Post) hvc))

theorem laws_big_ret (v : Value) (zs : List Int) (w : World) (h : RB w v zs) : Ret Try.prog 21 #[v] w fun r w' => (∃ b, r = .bool b) ∧ Ext w w' :=
  laws_big_calls v w _ (by
    unfold laws_big_vc
    exact h.len ⟨⟨_, rfl⟩, .refl w⟩)
def laws_likeInts_A (a : Value) (b : Value) (xs ys : List Int) (w : World) : Nat → Ann := fun κ => match κ with
  | 0 => { σ := Nat, sli := [5], slc := fun s => [SV.v (Value.int .i64 (s : Int))], bxi := [], bxc := fun s => [], inv := fun s W => s ≤ xs.length ∧ Ext w W ∧ xs.take s = ys.take s, μ := fun s W => xs.length - s }
  | _ => { σ := Unit, sli := [], slc := fun _ => [], bxi := [], bxc := fun _ => [], inv := fun _ _ => False, μ := fun _ _ => 0 }
def laws_likeInts_vc (a : Value) (b : Value) (xs ys : List Int) (w : World) (Post : Value → World → Prop) : Prop :=
  LenV a (fun n1 => LenV b (fun n2 => (((n1 ≠ n2) → Post (Value.bool false) w) ∧ (¬ (n1 ≠ n2) → ((∃ s3 : Nat, (Value.int .i64 0) = (Value.int .i64 (s3 : Int)) ∧ (s3 ≤ xs.length ∧ Ext w w ∧ xs.take s3 = ys.take s3)) ∧ ∀ (s4 : Nat) (w5 : World), (s4 ≤ xs.length ∧ Ext w w5 ∧ xs.take s4 = ys.take s4) → LenV a (fun n6 => ((((s4 : Int) < n6) → IxV 1 a (s4 : Int) (fun ad7 => ∃ n8 : Int, LdV w5 (Value.pointer (some ad7)) (Value.int .i64 n8) ∧ IxV 1 b (s4 : Int) (fun ad9 => ∃ n10 : Int, LdV w5 (Value.pointer (some ad9)) (Value.int .i64 n10) ∧ ∀ w11 : World, Ext w5 w11 → (((n8 ≠ n10) → Post (Value.bool false) w11) ∧ (¬ (n8 ≠ n10) → I64 ((s4 : Int) + 1) ∧ ∃ s12 : Nat, (Value.int .i64 ((s4 : Int) + 1)) = (Value.int .i64 (s12 : Int)) ∧ (s12 ≤ xs.length ∧ Ext w w11 ∧ xs.take s12 = ys.take s12) ∧ (xs.length - s12) < (xs.length - s4)))))) ∧ (¬ ((s4 : Int) < n6) → Post (Value.bool true) w5))))))))
theorem laws_likeInts_eq (a : Value) (b : Value) (xs ys : List Int) (w : World) (Post : Value → World → Prop) : denF Try.prog [] (laws_likeInts_A a b xs ys w) 32 [a, b] w Post = laws_likeInts_vc a b xs ys w Post := by kernel_rfl
set_option maxRecDepth 100000 in
theorem laws_likeInts_calls (a : Value) (b : Value) (xs ys : List Int) (w : World) (Post : Value → World → Prop) (hvc : laws_likeInts_vc a b xs ys w Post) : Ret Try.prog 32 #[a, b] w Post :=
  Ret.of (denF_sound mixed (Eq.mpr (laws_likeInts_eq a b xs ys w Post) hvc))

theorem laws_likeInts_val (a b : Value) (xs ys : List Int) (w : World) (ha : RI w a xs) (hb : RI w b ys) :
    Val Try.prog 32 #[a, b] w (.bool (decide (xs = ys))) :=
  Ret.val (laws_likeInts_calls a b xs ys w _ (by
    unfold laws_likeInts_vc
    have hbd := ha.bound
    refine ha.len (hb.len ⟨fun hne => ⟨?_, .refl w⟩, fun heq => ?_⟩)
    · have : xs ≠ ys := fun e => hne (by rw [e])
      simp [this]
    · have hll : xs.length = ys.length := by omega
      refine ⟨⟨0, rfl, Nat.zero_le _, .refl w, by simp⟩, ?_⟩
      rintro k w1 ⟨hk, h1, hpre⟩
      refine (ha.ext h1).len ⟨fun hlt => ?_, fun hge => ?_⟩
      · have hlt' : k < xs.length := by omega
        refine (ha.ext h1).get k rfl hlt' ((hb.ext h1).get k rfl (by omega) ?_)
        intro w2 h2
        refine ⟨fun hne => ⟨?_, h1.trans h2⟩, fun heq => ⟨by unfold I64; omega, k + 1, rfl, ⟨hlt', h1.trans h2, ?_⟩, by omega⟩⟩
        · have : xs ≠ ys := by
            rintro rfl
            exact hne rfl
          simp [this]
        · have e : xs[k] = ys[k] := by
            have : ¬ (xs[k] ≠ ys[k]) := heq
            exact Classical.not_not.1 this
          rw [take_snoc xs k hlt', take_snoc ys k (by omega), hpre, e]
      · have hkl : k = xs.length := by omega
        refine ⟨?_, h1⟩
        have : xs = ys := by
          rw [hkl] at hpre
          rw [List.take_of_length_le (Nat.le_refl _), List.take_of_length_le (by omega)] at hpre
          exact hpre
        simp [this]))
def laws_likeLists_A (a : Value) (b : Value) (w : World) : Nat → Ann := fun κ => match κ with
  | 0 => { σ := Nat, sli := [5], slc := fun s => [SV.v (Value.int .i64 (s : Int))], bxi := [], bxc := fun s => [], inv := fun s W => True, μ := fun s W => 0, free := true }
  | _ => { σ := Unit, sli := [], slc := fun _ => [], bxi := [], bxc := fun _ => [], inv := fun _ _ => False, μ := fun _ _ => 0 }
abbrev laws_likeLists_k0 (s11 : Nat) (w12 : World) (J13 : Nat → World → Prop) (m14 : Nat → World → Nat) (x30 : Int) (w44 : World) : Prop :=
  I64 (x30 + 1) ∧ ∃ s45 : Nat, (Value.int .i64 (x30 + 1)) = (Value.int .i64 (s45 : Int)) ∧ (J13 s45 w44) ∧ (m14 s45 w44) < (m14 s11 w12)
abbrev laws_likeLists_k1 (Post : Value → World → Prop) (x3 : Value) (x4 : Value) (s11 : Nat) (w12 : World) (J13 : Nat → World → Prop) (m14 : Nat → World → Nat) (x16 : Int) (w20 : World) : Prop :=
  IxV 1 x3 x16 (fun ad21 => ∃ u22 : Value, LdV w20 (Value.pointer (some ad21)) u22 ∧ IxV 1 x4 x16 (fun ad23 => ∃ u24 : Value, LdV w20 (Value.pointer (some ad23)) u24 ∧ ∃ b28 : Bool, (∀ w25 : World, Ext w20 w25 → Calls Try.prog 32 #[u22, u24] w25 (fun e26 w27 => e26 = .returned (Value.bool b28) ∧ Ext w25 w27)) ∧ ∀ w29 : World, Ext w20 w29 → (((!b28) = true → Post (Value.bool false) w29) ∧ ((!b28) = false → (laws_likeLists_k0 s11 w12 J13 m14 x16 w29)))))
abbrev laws_likeLists_k2 (Post : Value → World → Prop) (x3 : Value) (x4 : Value) (w9 : World) : Prop :=
  (∃ (J13 : Nat → World → Prop) (m14 : Nat → World → Nat), ((∃ s10 : Nat, (Value.int .i64 0) = (Value.int .i64 (s10 : Int)) ∧ (J13 s10 w9)) ∧ ∀ (s11 : Nat) (w12 : World), (J13 s11 w12) → LenV x3 (fun n15 => ((((s11 : Int) < n15) → (laws_likeLists_k1 Post x3 x4 s11 w12 J13 m14 (s11 : Int) w12)) ∧ (¬ ((s11 : Int) < n15) → Post (Value.bool true) w12)))))
def laws_likeLists_vc (a : Value) (b : Value) (w : World) (Post : Value → World → Prop) : Prop :=
  LenV a (fun n1 => LenV b (fun n2 => (((n1 ≠ n2) → Post (Value.bool false) w) ∧ (¬ (n1 ≠ n2) → (laws_likeLists_k2 Post a b w)))))
theorem laws_likeLists_eq (a : Value) (b : Value) (w : World) (Post : Value → World → Prop) : denF Try.prog [] (laws_likeLists_A a b w) 74 [a, b] w Post = laws_likeLists_vc a b w Post := by kernel_rfl
set_option maxRecDepth 100000 in
theorem laws_likeLists_calls (a : Value) (b : Value) (w : World) (Post : Value → World → Prop) (hvc : laws_likeLists_vc a b w Post) : Ret Try.prog 74 #[a, b] w Post :=
  Ret.of (denF_sound mixed (Eq.mpr (laws_likeLists_eq a b w Post) hvc))

theorem laws_likeLists_val (a b : Value) (xs ys : List (List Int)) (w : World) (ha : RR w a xs) (hb : RR w b ys) : Val Try.prog 74 #[a, b] w (.bool (decide (xs = ys))) :=
  Ret.val (laws_likeLists_calls a b w _ (by
    unfold laws_likeLists_vc
    have hbd := ha.bound
    refine ha.len (hb.len ⟨fun hne => ⟨beq_val (decide_eq_false fun e => hne (by rw [e])).symm, .refl w⟩, fun heq => ?_⟩)
    have hll : xs.length = ys.length := by omega
    refine ⟨fun s W => s ≤ xs.length ∧ Ext w W ∧ xs.take s = ys.take s, fun s _ => xs.length - s, ⟨0, rfl, Nat.zero_le _, .refl w, rfl⟩, ?_⟩
    rintro k w1 ⟨hk, h1, hpre⟩
    refine (ha.ext h1).len ⟨fun hlt => ?_, fun hge => ?_⟩
    · have hlt' : k < xs.length := by omega
      refine (ha.ext h1).get k rfl hlt' fun x hx => (hb.ext h1).get k rfl (by omega) fun y hy => ?_
      refine ⟨decide (xs[k] = ys[k]), fun w2 h2 => (laws_likeInts_val x y _ _ w2 (hx.ext h2) (hy.ext h2)).calls, fun w2 h2 => ⟨fun hno => ⟨?_, h1.trans h2⟩, fun hyes => ⟨by unfold I64; omega, k + 1, rfl, ⟨hlt', h1.trans h2, ?_⟩, by simp only; omega⟩⟩⟩
      · have hne := nd_t hno
        refine beq_val (decide_eq_false fun e => hne ?_).symm
        subst e; rfl
      · have he := nd_f hyes
        rw [take_snoc xs k hlt', take_snoc ys k (by omega), hpre, he]
    · have hkl : k = xs.length := by omega
      refine ⟨beq_val (decide_eq_true ?_).symm, h1⟩
      rw [hkl] at hpre
      rw [List.take_of_length_le (Nat.le_refl _), List.take_of_length_le (by omega)] at hpre
      exact hpre))
end Go.Proofs
