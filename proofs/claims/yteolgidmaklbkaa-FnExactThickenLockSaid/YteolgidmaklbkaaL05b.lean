/- Contracts: the thin chambers of a lock. No condition. -/
import Derived.Test.YteolgidmaklbkaaL05a
set_option linter.unusedVariables false
namespace Go.Proofs
open Go.Sx Go.RowKit
theorem OwnM.pres {B N : Nat} {w w' : World} {v : Value} {zss : List (List Int)} (h : OwnM B N w v zss) {K : Nat → Prop} (p : Pres K w w') (hK : ∀ b, B ≤ b → b < N → K b) : OwnM B N w' v zss := let ⟨us, h1, h2, h3⟩ := h; ⟨us, h1.pres p hK, h2.map fun u z hr => hr.pres p hK, h3⟩
def thinB (n : Int) (z : List Int) : Nat → Bool
  | 0 => false
  | 1 => false
  | k + 2 => thinB n z (k + 1) || decide (z.getD (k + 1) 0 - z.getD k 0 < n)
def thin (n : Int) (z : List Int) : Bool := thinB n z z.length
def thinsTo (n : Int) (zss : List (List Int)) : Nat → List Int
  | 0 => []
  | k + 1 => if thin n (zss.getD k []) then thinsTo n zss k ++ [(k : Int)] else thinsTo n zss k
theorem thinsTo_length (n : Int) (zss : List (List Int)) : ∀ k, (thinsTo n zss k).length ≤ k
  | 0 => Nat.le_refl _
  | k + 1 => by
    have := thinsTo_length n zss k
    unfold thinsTo
    split
    · simp; omega
    · omega
theorem thinB_false {n : Int} {z : List Int} : ∀ k, thinB n z k = false ↔ ∀ j, j + 1 < k → n ≤ z.getD (j + 1) 0 - z.getD j 0
  | 0 => by simp [thinB]
  | 1 => by
    simp only [thinB, true_iff]
    intro j hj
    omega
  | k + 2 => by
    simp only [thinB, Bool.or_eq_false_iff, decide_eq_false_iff_not]
    rw [thinB_false (k + 1)]
    constructor
    · rintro ⟨h1, h2⟩ j hj
      rcases Nat.lt_or_ge (j + 1) (k + 1) with h | h
      · exact h1 j h
      · have : j = k := by omega
        subst this
        omega
    · intro h
      exact ⟨fun j hj => h j (by omega), by have := h k (by omega); omega⟩
theorem thin_iff {n d : Int} {z : List Int} (hz : ∀ x ∈ z, 0 ≤ x ∧ x ≤ d) : decide (∀ x ∈ (steps z).drop 1, n ≤ x ∧ x ≤ d) = !thin n z := by
  have key : (∀ x ∈ (steps z).drop 1, n ≤ x ∧ x ≤ d) ↔ thin n z = false := by
    unfold thin
    rw [thinB_false]
    constructor
    · intro h j hj
      have hs : j + 1 < (steps z).length := by rw [steps_length]; exact hj
      have hm : (steps z)[j + 1] ∈ (steps z).drop 1 := by
        rw [List.mem_iff_getElem]
        refine ⟨j, by rw [List.length_drop]; omega, ?_⟩
        rw [List.getElem_drop]
        congr 1
        omega
      have := (h _ hm).1
      rw [steps_get hs, if_neg (by omega), Nat.add_sub_cancel] at this
      exact this
    · intro h x hx
      obtain ⟨j, hj, rfl⟩ := List.mem_iff_getElem.1 hx
      rw [List.length_drop, steps_length] at hj
      have hs : 1 + j < (steps z).length := by rw [steps_length]; omega
      rw [List.getElem_drop, steps_get hs, if_neg (by omega)]
      have h1 := h j (by omega)
      have e1 : 1 + j = j + 1 := by omega
      have e2 : 1 + j - 1 = j := by omega
      rw [e2, e1]
      have a1 := hz _ (List.getElem_mem (show j + 1 < z.length by omega))
      have a2 := hz _ (List.getElem_mem (show j < z.length by omega))
      rw [getD_get (show j + 1 < z.length by omega), getD_get (show j < z.length by omega)] at h1 ⊢
      omega
  cases ht : thin n z
  · exact decide_eq_true (key.2 ht)
  · refine decide_eq_false fun h => ?_
    rw [key.1 h] at ht
    cases ht
def thinCode (c d s m l : Int) (zss : List (List Int)) (n : Int) : Int := if LkOk c d s m l zss then (if 1 ≤ n ∧ n ≤ d then 0 else 2) else 1
def thinR (c d s m l : Int) (zss : List (List Int)) (n : Int) : List Int := if thinCode c d s m l zss n = 0 then thinsTo n zss zss.length else []
theorem thinCode_zero {c d s m l : Int} {zss : List (List Int)} {n : Int} (h : thinCode c d s m l zss n = 0) : LkOk c d s m l zss ∧ 1 ≤ n ∧ n ≤ d := by
  unfold thinCode at h
  split at h
  · split at h
    · exact ⟨by assumption, by assumption⟩
    · cases h
  · cases h
theorem thinR_len (c d s m l : Int) (zss : List (List Int)) (n : Int) : (thinR c d s m l zss n).length ≤ 1000 := by
  unfold thinR
  split
  · rename_i h
    have h1 := (lk_small (thinCode_zero h).1).2.1
    have := thinsTo_length n zss zss.length
    omega
  · simp
abbrev spec_l05Code_k0 (w : World) (Post : Value → World → Prop) (x12 : Int) (x23 : Int) (w28 : World) : Prop :=
  Calls Try.prog 103 #[(Value.int .i64 x12), (Value.int .i64 1), (Value.int .i64 x23)] w28 (fun e29 w30 => ∃ b31 : Bool, e29 = .returned (Value.bool b31) ∧ Keeps w.heap.size [56, 53] w28 w30 ∧ (((!b31) = true → Post (Value.int .i64 2) w30) ∧ ((!b31) = false → Post (Value.int .i64 0) w30)))
def spec_l05Code_vc (m_Chambers : Int) (m_Depths : Int) (m_Step : Int) (m_Same : Int) (m_Least : Int) (l_Sets : Value) (n : Int) (w : World) (Post : Value → World → Prop) : Prop :=
  ∀ w1 : World, Ext w w1 → oneC l_Sets (∀ w2 : World, Ext w1 w2 → Calls Try.prog 120 #[(Value.agg #[(Value.int .i64 m_Chambers), (Value.int .i64 m_Depths), (Value.int .i64 m_Step), (Value.int .i64 m_Same), (Value.int .i64 m_Least)]), (Value.agg #[l_Sets])] w2 (fun e3 w4 => ∃ b5 : Bool, e3 = .returned (Value.bool b5) ∧ Keeps w.heap.size [56, 53] w2 w4 ∧ (((!b5) = true → Post (Value.int .i64 1) w4) ∧ ((!b5) = false → (spec_l05Code_k0 w Post n m_Depths w4)))))
theorem spec_l05Code_eq (m_Chambers : Int) (m_Depths : Int) (m_Step : Int) (m_Same : Int) (m_Least : Int) (l_Sets : Value) (n : Int) (w : World) (Post : Value → World → Prop) : denF Try.prog [] noAnn 117 [(Value.agg #[(Value.int .i64 m_Chambers), (Value.int .i64 m_Depths), (Value.int .i64 m_Step), (Value.int .i64 m_Same), (Value.int .i64 m_Least)]), (Value.agg #[l_Sets]), (Value.int .i64 n)] w Post = spec_l05Code_vc m_Chambers m_Depths m_Step m_Same m_Least l_Sets n w Post := by kernel_rfl
set_option maxRecDepth 100000 in
theorem spec_l05Code_calls (m_Chambers : Int) (m_Depths : Int) (m_Step : Int) (m_Same : Int) (m_Least : Int) (l_Sets : Value) (n : Int) (w : World) (Post : Value → World → Prop) (hvc : spec_l05Code_vc m_Chambers m_Depths m_Step m_Same m_Least l_Sets n w Post) : Ret Try.prog 117 #[(Value.agg #[(Value.int .i64 m_Chambers), (Value.int .i64 m_Depths), (Value.int .i64 m_Step), (Value.int .i64 m_Same), (Value.int .i64 m_Least)]), (Value.agg #[l_Sets]), (Value.int .i64 n)] w Post :=
  Ret.of (denF_sound mixed (Eq.mpr (spec_l05Code_eq m_Chambers m_Depths m_Step m_Same m_Least l_Sets n w Post) hvc))

theorem spec_l05Code_val (c d s m l : Int) (v : Value) (zss : List (List Int)) (n : Int) (w : World) (h : RR w v zss) : Val Try.prog 117 #[mkV c d s m l, lkV v, .int .i64 n] w (.int .i64 (thinCode c d s m l zss n)) :=
  Ret.val (spec_l05Code_calls c d s m l v n w _ (by
    unfold spec_l05Code_vc
    intro w1 h1
    refine h.oneC fun w2 h2 => ?_
    have k2 := h1.trans h2
    refine (spec_IsLock_val c d s m l v zss w2 (h.ext k2)).call fun w5 h5 => ⟨_, rfl, h5.keeps, fun hb => ⟨?_, k2.trans h5⟩, fun hb => ?_⟩
    · unfold thinCode; rw [if_neg (nd_t hb)]
    have hk := nd_f hb
    refine (spec_l01In_val ..).call fun w6 h6 => ⟨_, rfl, h6.keeps, fun hb => ⟨?_, (k2.trans h5).trans h6⟩, fun hb => ⟨?_, (k2.trans h5).trans h6⟩⟩
    · unfold thinCode; rw [if_pos hk, if_neg (nd_t hb)]
    · unfold thinCode; rw [if_pos hk, if_pos (nd_f hb)]))
abbrev impl_thinCode_k0 (w : World) (Post : Value → World → Prop) (x14 : Int) (x27 : Int) (w32 : World) : Prop :=
  Calls Try.prog 96 #[(Value.int .i64 x14), (Value.int .i64 1), (Value.int .i64 x27)] w32 (fun e33 w34 => ∃ b35 : Bool, e33 = .returned (Value.bool b35) ∧ Keeps w.heap.size [56, 53] w32 w34 ∧ (((!b35) = true → Post (Value.int .i64 2) w34) ∧ ((!b35) = false → Post (Value.int .i64 0) w34)))
def impl_thinCode_vc (m_Chambers : Int) (m_Depths : Int) (m_Step : Int) (m_Same : Int) (m_Least : Int) (l_Sets : Value) (n : Int) (w : World) (Post : Value → World → Prop) : Prop :=
  ∀ w1 : World, Ext w w1 → oneC l_Sets (∀ w2 : World, Ext w1 w2 → oneC l_Sets (∀ (v3 : Value) (w4 : World), Own w2.heap.size w4 53 v3 [l_Sets] → Ext w2 w4 → Calls Try.prog 121 #[(Value.agg #[(Value.int .i64 m_Chambers), (Value.int .i64 m_Depths), (Value.int .i64 m_Step), (Value.int .i64 m_Same), (Value.int .i64 m_Least)]), v3] w4 (fun e5 w6 => ∃ n7 : Int, e5 = .returned (Value.int .i64 n7) ∧ Keeps w.heap.size [56, 53] w4 w6 ∧ (((n7 ≠ (0 : Int)) → Post (Value.int .i64 n7) w6) ∧ (¬ (n7 ≠ (0 : Int)) → (impl_thinCode_k0 w Post n m_Depths w6))))))
theorem impl_thinCode_eq (m_Chambers : Int) (m_Depths : Int) (m_Step : Int) (m_Same : Int) (m_Least : Int) (l_Sets : Value) (n : Int) (w : World) (Post : Value → World → Prop) : denF Try.prog [] noAnn 118 [(Value.agg #[(Value.int .i64 m_Chambers), (Value.int .i64 m_Depths), (Value.int .i64 m_Step), (Value.int .i64 m_Same), (Value.int .i64 m_Least)]), (Value.agg #[l_Sets]), (Value.int .i64 n)] w Post = impl_thinCode_vc m_Chambers m_Depths m_Step m_Same m_Least l_Sets n w Post := by kernel_rfl
set_option maxRecDepth 100000 in
theorem impl_thinCode_calls (m_Chambers : Int) (m_Depths : Int) (m_Step : Int) (m_Same : Int) (m_Least : Int) (l_Sets : Value) (n : Int) (w : World) (Post : Value → World → Prop) (hvc : impl_thinCode_vc m_Chambers m_Depths m_Step m_Same m_Least l_Sets n w Post) : Ret Try.prog 118 #[(Value.agg #[(Value.int .i64 m_Chambers), (Value.int .i64 m_Depths), (Value.int .i64 m_Step), (Value.int .i64 m_Same), (Value.int .i64 m_Least)]), (Value.agg #[l_Sets]), (Value.int .i64 n)] w Post :=
  Ret.of (denF_sound mixed (Eq.mpr (impl_thinCode_eq m_Chambers m_Depths m_Step m_Same m_Least l_Sets n w Post) hvc))

theorem impl_thinCode_val (c d s m l : Int) (v : Value) (zss : List (List Int)) (n : Int) (w : World) (h : RR w v zss) : Val Try.prog 118 #[mkV c d s m l, lkV v, .int .i64 n] w (.int .i64 (thinCode c d s m l zss n)) :=
  Ret.val (impl_thinCode_calls c d s m l v n w _ (by
    unfold impl_thinCode_vc
    intro w1 h1
    refine h.oneC fun w2 h2 => h.oneC fun v3 w4 o4 h4 => ?_
    have k4 := (h1.trans h2).trans h4
    refine (impl_locksCode_val c d s m l v3 [zss] w4 (RLs.one o4 (h.ext k4))).call fun w5 h5 => ⟨_, rfl, h5.keeps, ?_⟩
    rw [locksR_one]
    have k5 := k4.trans h5
    by_cases hk : LkOk c d s m l zss
    · rw [if_pos hk]
      refine ⟨fun hne => absurd rfl hne, fun _ => ?_⟩
      refine (impl_within_val ..).call fun w6 h6 => ⟨_, rfl, h6.keeps, fun hb => ⟨?_, k5.trans h6⟩, fun hb => ⟨?_, k5.trans h6⟩⟩
      · unfold thinCode; rw [if_pos hk, if_neg (nd_t hb)]
      · unfold thinCode; rw [if_pos hk, if_pos (nd_f hb)]
    · rw [if_neg hk]
      refine ⟨fun _ => ⟨?_, k5⟩, fun hn => absurd (by decide) hn⟩
      unfold thinCode; rw [if_neg hk]))
end Go.Proofs
