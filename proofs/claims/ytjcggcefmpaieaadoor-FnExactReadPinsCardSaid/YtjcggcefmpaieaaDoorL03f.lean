/- Contracts: the nearest other key. No condition. -/
import Derived.Test.YtjcggcefmpaieaaDoorL03d
set_option linter.unusedVariables false
namespace Go.Proofs
open Go.Sx Go.RowKit
theorem farTo_comm (a b : List Int) : ∀ k, farTo a b k = farTo b a k
  | 0 => rfl
  | k + 1 => by
    unfold farTo
    rw [farTo_comm a b k]
    omega
theorem farTo_nonneg (a b : List Int) : ∀ k, 0 ≤ farTo a b k
  | 0 => Int.le_refl _
  | k + 1 => by
    have := farTo_nonneg a b k
    unfold farTo
    omega
theorem farTo_same (a : List Int) : ∀ k, farTo a a k = 0
  | 0 => rfl
  | k + 1 => by
    unfold farTo
    rw [farTo_same a k]
    omega
theorem farTo_eq {a b : List Int} : ∀ k, farTo a b k ≤ 0 → ∀ i, i < k → a.getD i 0 = b.getD i 0
  | 0, _, i, hi => absurd hi (Nat.not_lt_zero i)
  | k + 1, h, i, hi => by
    have h0 := farTo_nonneg a b k
    unfold farTo at h
    rcases Nat.lt_or_ge i k with h1 | h1
    · exact farTo_eq k (by omega) i h1
    · have : i = k := by omega
      subst this
      omega
theorem far_pos {a b : List Int} (hl : a.length = b.length) : 0 < farTo a b a.length ↔ b ≠ a := by
  constructor
  · rintro h rfl
    rw [farTo_same] at h
    omega
  · intro h
    rcases Int.lt_or_le 0 (farTo a b a.length) with h1 | h1
    · exact h1
    · refine absurd (List.ext_getElem hl.symm fun i h2 h3 => ?_) h
      have := farTo_eq _ h1 i h3
      rw [getD_get h3, getD_get h2] at this
      exact this.symm
def farOf (ks k : List Int) : Int := farTo ks k ks.length
def nearS (ks best k : List Int) : List Int := if k ≠ ks ∧ (best = [] ∨ farOf ks k < farOf ks best) then k else best
def nearF (ks : List Int) (l : List (List Int)) : List Int := l.foldl (nearS ks) []
theorem nearF_snoc (ks : List Int) (l : List (List Int)) (k : List Int) : nearF ks (l ++ [k]) = nearS ks (nearF ks l) k := by
  unfold nearF
  rw [List.foldl_append]
  rfl
theorem nearF_mem (ks : List Int) (l : List (List Int)) : nearF ks l = [] ∨ nearF ks l ∈ l := by
  have gen : ∀ (l : List (List Int)) (a : List Int), l.foldl (nearS ks) a = a ∨ l.foldl (nearS ks) a ∈ l := by
    intro l
    induction l with
    | nil => intro a; exact .inl rfl
    | cons k l ih =>
      intro a
      rw [List.foldl_cons]
      rcases ih (nearS ks a k) with h | h
      · rw [h]
        unfold nearS
        split
        · exact .inr (List.mem_cons_self ..)
        · exact .inl rfl
      · exact .inr (List.mem_cons_of_mem _ h)
  exact gen l []
def nearestR (M : Mk) (ks : List Int) : List Int := if kCode M [ks] = 0 then nearF ks (keys M) else []
theorem nearestR_len (M : Mk) (ks : List Int) : (nearestR M ks).length ≤ 1000 := by
  unfold nearestR
  split
  · rename_i h
    have hm := (kCode_zero h).1
    have hc := hm.1
    rcases nearF_mem ks (keys M) with h1 | h1
    · rw [h1]; simp
    · have := keys_length (M := M) (by omega) h1
      omega
  · simp
def spec_l01Same_A (a : Value) (b : Value) (w : World) : Nat → Ann := fun κ => match κ with
  | 0 => { σ := Nat, sli := [5], slc := fun s => [SV.v (Value.int .i64 (s : Int))], bxi := [], bxc := fun s => [], inv := fun s W => True, μ := fun s W => 0, free := true }
  | _ => { σ := Unit, sli := [], slc := fun _ => [], bxi := [], bxc := fun _ => [], inv := fun _ _ => False, μ := fun _ _ => 0 }
abbrev spec_l01Same_k0 (s11 : Nat) (w12 : World) (J13 : Nat → World → Prop) (m14 : Nat → World → Nat) (x26 : Int) (w38 : World) : Prop :=
  I64 (x26 + 1) ∧ ∃ s39 : Nat, (Value.int .i64 (x26 + 1)) = (Value.int .i64 (s39 : Int)) ∧ (J13 s39 w38) ∧ (m14 s39 w38) < (m14 s11 w12)
abbrev spec_l01Same_k1 (Post : Value → World → Prop) (x3 : Value) (x4 : Value) (s11 : Nat) (w12 : World) (J13 : Nat → World → Prop) (m14 : Nat → World → Nat) (x16 : Int) (w20 : World) : Prop :=
  IxV 1 x3 x16 (fun ad21 => ∃ n22 : Int, LdV w20 (Value.pointer (some ad21)) (Value.int .i64 n22) ∧ IxV 1 x4 x16 (fun ad23 => ∃ n24 : Int, LdV w20 (Value.pointer (some ad23)) (Value.int .i64 n24) ∧ ∀ w25 : World, Ext w20 w25 → (((n22 ≠ n24) → Post (Value.bool false) w25) ∧ (¬ (n22 ≠ n24) → (spec_l01Same_k0 s11 w12 J13 m14 x16 w25)))))
abbrev spec_l01Same_k2 (Post : Value → World → Prop) (x3 : Value) (x4 : Value) (w9 : World) : Prop :=
  (∃ (J13 : Nat → World → Prop) (m14 : Nat → World → Nat), ((∃ s10 : Nat, (Value.int .i64 0) = (Value.int .i64 (s10 : Int)) ∧ (J13 s10 w9)) ∧ ∀ (s11 : Nat) (w12 : World), (J13 s11 w12) → LenV x3 (fun n15 => ((((s11 : Int) < n15) → (spec_l01Same_k1 Post x3 x4 s11 w12 J13 m14 (s11 : Int) w12)) ∧ (¬ ((s11 : Int) < n15) → Post (Value.bool true) w12)))))
def spec_l01Same_vc (a : Value) (b : Value) (w : World) (Post : Value → World → Prop) : Prop :=
  LenV a (fun n1 => LenV b (fun n2 => (((n1 ≠ n2) → Post (Value.bool false) w) ∧ (¬ (n1 ≠ n2) → (spec_l01Same_k2 Post a b w)))))
theorem spec_l01Same_eq (a : Value) (b : Value) (w : World) (Post : Value → World → Prop) : denF Tryd.prog [] (spec_l01Same_A a b w) 106 [a, b] w Post = spec_l01Same_vc a b w Post := by kernel_rfl
set_option maxRecDepth 100000 in
theorem spec_l01Same_calls (a : Value) (b : Value) (w : World) (Post : Value → World → Prop) (hvc : spec_l01Same_vc a b w Post) : Ret Tryd.prog 106 #[a, b] w Post :=
  Ret.of (denF_sound mixed (Eq.mpr (spec_l01Same_eq a b w Post) hvc))

theorem spec_l01Same_val (a b : Value) (xs ys : List Int) (w : World) (ha : RI w a xs) (hb : RI w b ys) : Val Tryd.prog 106 #[a, b] w (.bool (decide (xs = ys))) :=
  Ret.val (spec_l01Same_calls a b w _ (by
    unfold spec_l01Same_vc
    have hbd := ha.bound
    refine ha.len (hb.len ⟨fun hne => ⟨?_, .refl w⟩, fun heq => ?_⟩)
    · have : xs ≠ ys := fun e => hne (by rw [e])
      simp [this]
    · have hll : xs.length = ys.length := by omega
      refine ⟨fun k W => k ≤ xs.length ∧ Ext w W ∧ xs.take k = ys.take k, fun k _ => xs.length - k, ⟨0, rfl, Nat.zero_le _, .refl w, by simp⟩, ?_⟩
      rintro k w1 ⟨hk, h1, hpre⟩
      refine (ha.ext h1).len ⟨fun hlt => ?_, fun hge => ?_⟩
      · have hlt' : k < xs.length := by omega
        refine (ha.ext h1).get k rfl hlt' ((hb.ext h1).get k rfl (by omega) ?_)
        intro w2 h2
        refine ⟨fun hne => ⟨?_, h1.trans h2⟩, fun heq => ⟨by unfold I64; omega, k + 1, rfl, ⟨hlt', h1.trans h2, ?_⟩, by simp only; omega⟩⟩
        · have : xs ≠ ys := by
            rintro rfl
            exact hne rfl
          simp [this]
        · have e : xs[k] = ys[k] := Classical.not_not.1 heq
          rw [take_snoc xs k hlt', take_snoc ys k (by omega), hpre, e]
      · have hkl : k = xs.length := by omega
        refine ⟨?_, h1⟩
        have : xs = ys := by
          rw [hkl] at hpre
          rw [List.take_of_length_le (Nat.le_refl _), List.take_of_length_le (by omega)] at hpre
          exact hpre
        simp [this]))
/-- the reference's loop -/
def nearLoop (M : Mk) (ks : List Int) (w : World) : (Nat × Bool × Value × Value) → World → Prop := fun s W =>
  Ext w W ∧ s.1 ≤ (keys M).length ∧ Own w.heap.size W 2 s.2.2.1 (ints (nearF ks ((keys M).take s.1))) ∧
    (s.2.1 = true → ∃ hj : s.1 < (keys M).length, Own w.heap.size W 2 s.2.2.2 (ints (keys M)[s.1])) ∧ (s.2.1 = false → (keys M).length ≤ s.1)
/-! ### the program -/
def nearestJ (wb : World) (b0 b1 b2 : Nat) (kv : Value) (ks : List Int) : (Nat → Prop) → List (List Int) → World → Prop := fun K done w =>
  ¬ K b0 ∧ ¬ K b1 ∧ ¬ K b2 ∧ (∀ b, b < wb.heap.size → ¬ K b) ∧ Ext wb w ∧ w.heap[b0]? = some (.cells #[kv] 24 (0, 0)) ∧ w.heap[b1]? = some (.cells #[.int .i64 (if nearF ks done = [] then -1 else farOf ks (nearF ks done))] 2 (0, 0)) ∧
    ∃ nv, w.heap[b2]? = some (.cells #[nv] 24 (0, 0)) ∧ Own wb.heap.size w 2 nv (ints (nearF ks done)) ∧ (∀ g, nv.ownBlock = some g → ¬ K g) ∧ nv.ownBlock ≠ some b1
end Go.Proofs
