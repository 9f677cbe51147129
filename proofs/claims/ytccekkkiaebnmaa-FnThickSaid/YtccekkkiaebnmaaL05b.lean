/- Contracts: the thin chambers of a lock. No condition. -/
import Derived.Test.YtccekkkiaebnmaaL05a
set_option linter.unusedVariables false
namespace Go.Proofs
open Go.Sx Go.RowKit
theorem OwnM.pres {B N : Nat} {w w' : World} {v : Value} {zss : List (List Int)} (h : OwnM B N w v zss) {K : Nat → Prop} (p : Pres K w w') (hK : ∀ b, B ≤ b → b < N → K b) : OwnM B N w' v zss := let ⟨us, h1, h2, h3⟩ := h; ⟨us, h1.pres p hK, h2.map fun u z hr => hr.pres p hK, h3⟩
def thinB (n : Int) (z : List Int) : Nat → Bool
  | 0 => false
  | 1 => false
  | k + 2 => thinB n z (k + 1) || decide (z.getD (k + 1) 0 - z.getD k 0 < n)
def thin (n : Int) (z : List Int) : Bool := thinB n z z.length
def thinsTo (n : Int) (zss : List (List Int)) : Nat → List Int
  | 0 => []
  | k + 1 => if thin n (zss.getD k []) then thinsTo n zss k ++ [(k : Int)] else thinsTo n zss k
theorem thinsTo_length (n : Int) (zss : List (List Int)) : ∀ k, (thinsTo n zss k).length ≤ k
  | 0 => Nat.le_refl _
  | k + 1 => by
    have := thinsTo_length n zss k
    unfold thinsTo
    split
    · simp; omega
    · omega
theorem thinB_false {n : Int} {z : List Int} : ∀ k, thinB n z k = false ↔ ∀ j, j + 1 < k → n ≤ z.getD (j + 1) 0 - z.getD j 0
  | 0 => by simp [thinB]
  | 1 => by
    simp only [thinB, true_iff]
    intro j hj
    omega
  | k + 2 => by
    simp only [thinB, Bool.or_eq_false_iff, decide_eq_false_iff_not]
    rw [thinB_false (k + 1)]
    constructor
    · rintro ⟨h1, h2⟩ j hj
      rcases Nat.lt_or_ge (j + 1) (k + 1) with h | h
      · exact h1 j h
      · have : j = k := by omega
        subst this
        omega
    · intro h
      exact ⟨fun j hj => h j (by omega), by have := h k (by omega); omega⟩
theorem thin_iff {n d : Int} {z : List Int} (hz : ∀ x ∈ z, 0 ≤ x ∧ x ≤ d) : decide (∀ x ∈ (steps z).drop 1, n ≤ x ∧ x ≤ d) = !thin n z := by
  have key : (∀ x ∈ (steps z).drop 1, n ≤ x ∧ x ≤ d) ↔ thin n z = false := by
    unfold thin
    rw [thinB_false]
    constructor
    · intro h j hj
      have hs : j + 1 < (steps z).length := by rw [steps_length]; exact hj
      have hm : (steps z)[j + 1] ∈ (steps z).drop 1 := by
        rw [List.mem_iff_getElem]
        refine ⟨j, by rw [List.length_drop]; omega, ?_⟩
        rw [List.getElem_drop]
        congr 1
        omega
      have := (h _ hm).1
      rw [steps_get hs, if_neg (by omega), Nat.add_sub_cancel] at this
      exact this
    · intro h x hx
      obtain ⟨j, hj, rfl⟩ := List.mem_iff_getElem.1 hx
      rw [List.length_drop, steps_length] at hj
      have hs : 1 + j < (steps z).length := by rw [steps_length]; omega
      rw [List.getElem_drop, steps_get hs, if_neg (by omega)]
      have h1 := h j (by omega)
      have e1 : 1 + j = j + 1 := by omega
      have e2 : 1 + j - 1 = j := by omega
      rw [e2, e1]
      have a1 := hz _ (List.getElem_mem (show j + 1 < z.length by omega))
      have a2 := hz _ (List.getElem_mem (show j < z.length by omega))
      rw [getD_get (show j + 1 < z.length by omega), getD_get (show j < z.length by omega)] at h1 ⊢
      omega
  cases ht : thin n z
  · exact decide_eq_true (key.2 ht)
  · refine decide_eq_false fun h => ?_
    rw [key.1 h] at ht
    cases ht
def thinCode (c d s m l : Int) (zss : List (List Int)) (n : Int) : Int := if LkOk c d s m l zss then (if 1 ≤ n ∧ n ≤ d then 0 else 2) else 1
def thinR (c d s m l : Int) (zss : List (List Int)) (n : Int) : List Int := if thinCode c d s m l zss n = 0 then thinsTo n zss zss.length else []
theorem thinCode_zero {c d s m l : Int} {zss : List (List Int)} {n : Int} (h : thinCode c d s m l zss n = 0) : LkOk c d s m l zss ∧ 1 ≤ n ∧ n ≤ d := by
  unfold thinCode at h
  split at h
  · split at h
    · exact ⟨by assumption, by assumption⟩
    · cases h
  · cases h
theorem thinR_len (c d s m l : Int) (zss : List (List Int)) (n : Int) : (thinR c d s m l zss n).length ≤ 1000 := by
  unfold thinR
  split
  · rename_i h
    have h1 := (lk_small (thinCode_zero h).1).2.1
    have := thinsTo_length n zss zss.length
    omega
  · simp
abbrev spec_l05Code_k0 (w : World) (Post : Value → World → Prop) (x12 : Int) (x23 : Int) (w28 : World) : Prop :=
  Calls Try.prog 107 #[(Value.int .i64 x12), (Value.int .i64 1), (Value.int .i64 x23)] w28 (fun e29 w30 => ∃ b31 : Bool, e29 = .returned (Value.bool b31) ∧ Keeps w.heap.size [25, 28] w28 w30 ∧ (((!b31) = true → Post (Value.int .i64 2) w30) ∧ ((!b31) = false → Post (Value.int .i64 0) w30)))
def spec_l05Code_vc (m_Chambers : Int) (m_Depths : Int) (m_Step : Int) (m_Same : Int) (m_Least : Int) (l_Sets : Value) (n : Int) (w : World) (Post : Value → World → Prop) : Prop :=
  ∀ w1 : World, Ext w w1 → oneC l_Sets (∀ w2 : World, Ext w1 w2 → Calls Try.prog 69 #[(Value.agg #[(Value.int .i64 m_Chambers), (Value.int .i64 m_Depths), (Value.int .i64 m_Step), (Value.int .i64 m_Same), (Value.int .i64 m_Least)]), (Value.agg #[l_Sets])] w2 (fun e3 w4 => ∃ b5 : Bool, e3 = .returned (Value.bool b5) ∧ Keeps w.heap.size [25, 28] w2 w4 ∧ (((!b5) = true → Post (Value.int .i64 1) w4) ∧ ((!b5) = false → (spec_l05Code_k0 w Post n m_Depths w4)))))
theorem spec_l05Code_eq (m_Chambers : Int) (m_Depths : Int) (m_Step : Int) (m_Same : Int) (m_Least : Int) (l_Sets : Value) (n : Int) (w : World) (Post : Value → World → Prop) : denF Try.prog [] noAnn 100 [(Value.agg #[(Value.int .i64 m_Chambers), (Value.int .i64 m_Depths), (Value.int .i64 m_Step), (Value.int .i64 m_Same), (Value.int .i64 m_Least)]), (Value.agg #[l_Sets]), (Value.int .i64 n)] w Post = spec_l05Code_vc m_Chambers m_Depths m_Step m_Same m_Least l_Sets n w Post := by kernel_rfl
set_option maxRecDepth 100000 in
theorem spec_l05Code_calls (m_Chambers : Int) (m_Depths : Int) (m_Step : Int) (m_Same : Int) (m_Least : Int) (l_Sets : Value) (n : Int) (w : World) (Post : Value → World → Prop) (hvc : spec_l05Code_vc m_Chambers m_Depths m_Step m_Same m_Least l_Sets n w Post) : Ret Try.prog 100 #[(Value.agg #[(Value.int .i64 m_Chambers), (Value.int .i64 m_Depths), (Value.int .i64 m_Step), (Value.int .i64 m_Same), (Value.int .i64 m_Least)]), (Value.agg #[l_Sets]), (Value.int .i64 n)] w Post :=
  Ret.of (denF_sound mixed (Eq.mpr (spec_l05Code_eq m_Chambers m_Depths m_Step m_Same m_Least l_Sets n w Post) hvc))

theorem spec_l05Code_val (c d s m l : Int) (v : Value) (zss : List (List Int)) (n : Int) (w : World) (h : RR w v zss) : Val Try.prog 100 #[mkV c d s m l, lkV v, .int .i64 n] w (.int .i64 (thinCode c d s m l zss n)) :=
  Ret.val (spec_l05Code_calls c d s m l v n w _ (by
    unfold spec_l05Code_vc
    intro w1 h1
    refine h.oneC fun w2 h2 => ?_
    have k2 := h1.trans h2
    refine (spec_IsLock_val c d s m l v zss w2 (h.ext k2)).call fun w5 h5 => ⟨_, rfl, h5.keeps, fun hb => ⟨?_, k2.trans h5⟩, fun hb => ?_⟩
    · unfold thinCode; rw [if_neg (nd_t hb)]
    have hk := nd_f hb
    refine (spec_l01In_val ..).call fun w6 h6 => ⟨_, rfl, h6.keeps, fun hb => ⟨?_, (k2.trans h5).trans h6⟩, fun hb => ⟨?_, (k2.trans h5).trans h6⟩⟩
    · unfold thinCode; rw [if_pos hk, if_neg (nd_t hb)]
    · unfold thinCode; rw [if_pos hk, if_pos (nd_f hb)]))
abbrev impl_thinCode_k0 (w : World) (Post : Value → World → Prop) (x14 : Int) (x27 : Int) (w32 : World) : Prop :=
  Calls Try.prog 104 #[(Value.int .i64 x14), (Value.int .i64 1), (Value.int .i64 x27)] w32 (fun e33 w34 => ∃ b35 : Bool, e33 = .returned (Value.bool b35) ∧ Keeps w.heap.size [25, 28] w32 w34 ∧ (((!b35) = true → Post (Value.int .i64 2) w34) ∧ ((!b35) = false → Post (Value.int .i64 0) w34)))
def impl_thinCode_vc (m_Chambers : Int) (m_Depths : Int) (m_Step : Int) (m_Same : Int) (m_Least : Int) (l_Sets : Value) (n : Int) (w : World) (Post : Value → World → Prop) : Prop :=
  ∀ w1 : World, Ext w w1 → oneC l_Sets (∀ w2 : World, Ext w1 w2 → oneC l_Sets (∀ (v3 : Value) (w4 : World), Own w2.heap.size w4 28 v3 [l_Sets] → Ext w2 w4 → Calls Try.prog 75 #[(Value.agg #[(Value.int .i64 m_Chambers), (Value.int .i64 m_Depths), (Value.int .i64 m_Step), (Value.int .i64 m_Same), (Value.int .i64 m_Least)]), v3] w4 (fun e5 w6 => ∃ n7 : Int, e5 = .returned (Value.int .i64 n7) ∧ Keeps w.heap.size [25, 28] w4 w6 ∧ (((n7 ≠ (0 : Int)) → Post (Value.int .i64 n7) w6) ∧ (¬ (n7 ≠ (0 : Int)) → (impl_thinCode_k0 w Post n m_Depths w6))))))
theorem impl_thinCode_eq (m_Chambers : Int) (m_Depths : Int) (m_Step : Int) (m_Same : Int) (m_Least : Int) (l_Sets : Value) (n : Int) (w : World) (Post : Value → World → Prop) : denF Try.prog [] noAnn 99 [(Value.agg #[(Value.int .i64 m_Chambers), (Value.int .i64 m_Depths), (Value.int .i64 m_Step), (Value.int .i64 m_Same), (Value.int .i64 m_Least)]), (Value.agg #[l_Sets]), (Value.int .i64 n)] w Post = impl_thinCode_vc m_Chambers m_Depths m_Step m_Same m_Least l_Sets n w Post := by kernel_rfl
set_option maxRecDepth 100000 in
theorem impl_thinCode_calls (m_Chambers : Int) (m_Depths : Int) (m_Step : Int) (m_Same : Int) (m_Least : Int) (l_Sets : Value) (n : Int) (w : World) (Post : Value → World → Prop) (hvc : impl_thinCode_vc m_Chambers m_Depths m_Step m_Same m_Least l_Sets n w Post) : Ret Try.prog 99 #[(Value.agg #[(Value.int .i64 m_Chambers), (Value.int .i64 m_Depths), (Value.int .i64 m_Step), (Value.int .i64 m_Same), (Value.int .i64 m_Least)]), (Value.agg #[l_Sets]), (Value.int .i64 n)] w Post :=
  Ret.of (denF_sound mixed (Eq.mpr (impl_thinCode_eq m_Chambers m_Depths m_Step m_Same m_Least l_Sets n w Post) hvc))

theorem impl_thinCode_val (c d s m l : Int) (v : Value) (zss : List (List Int)) (n : Int) (w : World) (h : RR w v zss) : Val Try.prog 99 #[mkV c d s m l, lkV v, .int .i64 n] w (.int .i64 (thinCode c d s m l zss n)) :=
  Ret.val (impl_thinCode_calls c d s m l v n w _ (by
    unfold impl_thinCode_vc
    intro w1 h1
    refine h.oneC fun w2 h2 => h.oneC fun v3 w4 o4 h4 => ?_
    have k4 := (h1.trans h2).trans h4
    refine (impl_locksCode_val c d s m l v3 [zss] w4 (RLs.one o4 (h.ext k4))).call fun w5 h5 => ⟨_, rfl, h5.keeps, ?_⟩
    rw [locksR_one]
    have k5 := k4.trans h5
    by_cases hk : LkOk c d s m l zss
    · rw [if_pos hk]
      refine ⟨fun hne => absurd rfl hne, fun _ => ?_⟩
      refine (impl_within_val ..).call fun w6 h6 => ⟨_, rfl, h6.keeps, fun hb => ⟨?_, k5.trans h6⟩, fun hb => ⟨?_, k5.trans h6⟩⟩
      · unfold thinCode; rw [if_pos hk, if_neg (nd_t hb)]
      · unfold thinCode; rw [if_pos hk, if_pos (nd_f hb)]
    · rw [if_neg hk]
      refine ⟨fun _ => ⟨?_, k5⟩, fun hn => absurd (by decide) hn⟩
      unfold thinCode; rw [if_neg hk]))
def spec_ThinChambers_A (m_Chambers : Int) (m_Depths : Int) (m_Step : Int) (m_Same : Int) (m_Least : Int) (l_Sets : Value) (n : Int) (w : World) : Nat → Ann := fun κ => match κ with
  | 0 => { σ := Nat × Value, sli := [10, 9], slc := fun s => [SV.v (Value.int .i64 (s.1 : Int)), SV.v s.2], bxi := [], bxc := fun s => [], inv := fun s W => True, μ := fun s W => 0, free := true }
  | 1 => { σ := Nat × Bool, sli := [12, 11], slc := fun s => [SV.v (Value.int .i64 (s.1 : Int)), SV.v (Value.bool s.2)], bxi := [], bxc := fun s => [], inv := fun s W => True, μ := fun s W => 0, free := true }
  | _ => { σ := Unit, sli := [], slc := fun _ => [], bxi := [], bxc := fun _ => [], inv := fun _ _ => False, μ := fun _ _ => 0 }
abbrev spec_ThinChambers_k0 (s46 : Nat × Bool) (w47 : World) (J48 : (Nat × Bool) → World → Prop) (m49 : (Nat × Bool) → World → Nat) (x63 : Int) (w71 : World) : Prop :=
  I64 (x63 + 1) ∧ ∃ s72 : (Nat × Bool), (Value.int .i64 (x63 + 1)) = (Value.int .i64 (s72.1 : Int)) ∧ (Value.bool true) = (Value.bool s72.2) ∧ (J48 s72 w71) ∧ (m49 s72 w71) < (m49 s46 w47)
abbrev spec_ThinChambers_k1 (x12 : Int) (s46 : Nat × Bool) (w47 : World) (J48 : (Nat × Bool) → World → Prop) (m49 : (Nat × Bool) → World → Nat) (n76 : Int) (n80 : Int) (x82 : Int) (w107 : World) : Prop :=
  I64 (x82 + 1) ∧ ∃ s108 : (Nat × Bool), (Value.int .i64 (x82 + 1)) = (Value.int .i64 (s108.1 : Int)) ∧ (Value.bool (decide ((n76 - n80) < x12))) = (Value.bool s108.2) ∧ (J48 s108 w107) ∧ (m49 s108 w107) < (m49 s46 w47)
abbrev spec_ThinChambers_k2 (x12 : Int) (x29 : Value) (x40 : Int) (s46 : Nat × Bool) (w47 : World) (J48 : (Nat × Bool) → World → Prop) (m49 : (Nat × Bool) → World → Nat) (x53 : Bool) (x54 : Int) (w61 : World) : Prop :=
  ((x53 = true → ∀ w62 : World, Ext w61 w62 → (spec_ThinChambers_k0 s46 w47 J48 m49 x54 w62)) ∧ (x53 = false → IxV 1 x29 x40 (fun ad73 => ∃ u74 : Value, LdV w61 (Value.pointer (some ad73)) u74 ∧ IxV 1 u74 x54 (fun ad75 => ∃ n76 : Int, LdV w61 (Value.pointer (some ad75)) (Value.int .i64 n76) ∧ IxV 1 x29 x40 (fun ad77 => ∃ u78 : Value, LdV w61 (Value.pointer (some ad77)) u78 ∧ I64 (x54 - 1) ∧ IxV 1 u78 (x54 - 1) (fun ad79 => ∃ n80 : Int, LdV w61 (Value.pointer (some ad79)) (Value.int .i64 n80) ∧ I64 (n76 - n80) ∧ ∀ w81 : World, Ext w61 w81 → (spec_ThinChambers_k1 x12 s46 w47 J48 m49 n76 n80 x54 w81)))))))
abbrev spec_ThinChambers_k3 (s34 : Nat × Value) (w35 : World) (J36 : (Nat × Value) → World → Prop) (m37 : (Nat × Value) → World → Nat) (x127 : Value) (x128 : Int) (w145 : World) : Prop :=
  I64 (x128 + 1) ∧ ∃ s146 : (Nat × Value), (Value.int .i64 (x128 + 1)) = (Value.int .i64 (s146.1 : Int)) ∧ x127 = s146.2 ∧ (J36 s146 w145) ∧ (m37 s146 w145) < (m37 s34 w35)
abbrev spec_ThinChambers_k4 (s34 : Nat × Value) (w35 : World) (J36 : (Nat × Value) → World → Prop) (m37 : (Nat × Value) → World → Nat) (x109 : Value) (x110 : Int) (x111 : Bool) (w122 : World) : Prop :=
  ((x111 = true → ∀ (v123 : Value) (w124 : World), Own w122.heap.size w124 2 v123 [(Value.int .i64 x110)] → Ext w122 w124 → AppV w124 2 x109 v123 (fun v125 w126 => (spec_ThinChambers_k3 s34 w35 J36 m37 v125 x110 w126))) ∧ (x111 = false → (spec_ThinChambers_k3 s34 w35 J36 m37 x109 x110 w122)))
abbrev spec_ThinChambers_k5 (x12 : Int) (x29 : Value) (s34 : Nat × Value) (w35 : World) (J36 : (Nat × Value) → World → Prop) (m37 : (Nat × Value) → World → Nat) (x39 : Value) (x40 : Int) (w44 : World) : Prop :=
  (∃ (J48 : (Nat × Bool) → World → Prop) (m49 : (Nat × Bool) → World → Nat), ((∃ s45 : (Nat × Bool), (Value.int .i64 1) = (Value.int .i64 (s45.1 : Int)) ∧ (Value.bool false) = (Value.bool s45.2) ∧ (J48 s45 w44)) ∧ ∀ (s46 : (Nat × Bool)) (w47 : World), (J48 s46 w47) → IxV 1 x29 x40 (fun ad50 => ∃ u51 : Value, LdV w47 (Value.pointer (some ad50)) u51 ∧ LenV u51 (fun n52 => ((((s46.1 : Int) < n52) → (spec_ThinChambers_k2 x12 x29 x40 s46 w47 J48 m49 s46.2 (s46.1 : Int) w47)) ∧ (¬ ((s46.1 : Int) < n52) → (spec_ThinChambers_k4 s34 w35 J36 m37 x39 x40 s46.2 w47)))))))
abbrev spec_ThinChambers_k6 (Post : Value → World → Prop) (x12 : Int) (x29 : Value) (w30 : World) : Prop :=
  ∀ (v31 : Value) (w32 : World), Own w30.heap.size w32 2 v31 [] → Ext w30 w32 → (∃ (J36 : (Nat × Value) → World → Prop) (m37 : (Nat × Value) → World → Nat), ((∃ s33 : (Nat × Value), (Value.int .i64 0) = (Value.int .i64 (s33.1 : Int)) ∧ v31 = s33.2 ∧ (J36 s33 w32)) ∧ ∀ (s34 : (Nat × Value)) (w35 : World), (J36 s34 w35) → LenV x29 (fun n38 => ((((s34.1 : Int) < n38) → (spec_ThinChambers_k5 x12 x29 s34 w35 J36 m37 s34.2 (s34.1 : Int) w35)) ∧ (¬ ((s34.1 : Int) < n38) → Post (Value.tuple #[s34.2, (Value.int .i64 0)]) w35)))))
def spec_ThinChambers_vc (m_Chambers : Int) (m_Depths : Int) (m_Step : Int) (m_Same : Int) (m_Least : Int) (l_Sets : Value) (n : Int) (w : World) (Post : Value → World → Prop) : Prop :=
  ∀ w1 : World, Ext w w1 → oneC l_Sets (∀ w2 : World, Ext w1 w2 → Calls Try.prog 100 #[(Value.agg #[(Value.int .i64 m_Chambers), (Value.int .i64 m_Depths), (Value.int .i64 m_Step), (Value.int .i64 m_Same), (Value.int .i64 m_Least)]), (Value.agg #[l_Sets]), (Value.int .i64 n)] w2 (fun e3 w4 => ∃ n5 : Int, e3 = .returned (Value.int .i64 n5) ∧ Keeps w.heap.size [25, 28] w2 w4 ∧ (((n5 ≠ (0 : Int)) → Post (Value.tuple #[(Value.slice none 0 0), (Value.int .i64 n5)]) w4) ∧ (¬ (n5 ≠ (0 : Int)) → (spec_ThinChambers_k6 Post n l_Sets w4)))))
theorem spec_ThinChambers_eq (m_Chambers : Int) (m_Depths : Int) (m_Step : Int) (m_Same : Int) (m_Least : Int) (l_Sets : Value) (n : Int) (w : World) (Post : Value → World → Prop) : denF Try.prog [] (spec_ThinChambers_A m_Chambers m_Depths m_Step m_Same m_Least l_Sets n w) 30 [(Value.agg #[(Value.int .i64 m_Chambers), (Value.int .i64 m_Depths), (Value.int .i64 m_Step), (Value.int .i64 m_Same), (Value.int .i64 m_Least)]), (Value.agg #[l_Sets]), (Value.int .i64 n)] w Post = spec_ThinChambers_vc m_Chambers m_Depths m_Step m_Same m_Least l_Sets n w Post := by kernel_rfl
set_option maxRecDepth 100000 in
theorem spec_ThinChambers_calls (m_Chambers : Int) (m_Depths : Int) (m_Step : Int) (m_Same : Int) (m_Least : Int) (l_Sets : Value) (n : Int) (w : World) (Post : Value → World → Prop) (hvc : spec_ThinChambers_vc m_Chambers m_Depths m_Step m_Same m_Least l_Sets n w Post) : Ret Try.prog 30 #[(Value.agg #[(Value.int .i64 m_Chambers), (Value.int .i64 m_Depths), (Value.int .i64 m_Step), (Value.int .i64 m_Same), (Value.int .i64 m_Least)]), (Value.agg #[l_Sets]), (Value.int .i64 n)] w Post :=
  Ret.of (denF_sound mixed (Eq.mpr (spec_ThinChambers_eq m_Chambers m_Depths m_Step m_Same m_Least l_Sets n w Post) hvc))

theorem spec_ThinChambers_ret (c d s m l : Int) (v : Value) (zss : List (List Int)) (n : Int) (w : World) (h : RR w v zss) : SlR 30 #[mkV c d s m l, lkV v, .int .i64 n] w (thinR c d s m l zss n) (thinCode c d s m l zss n) :=
  spec_ThinChambers_calls c d s m l v n w _ (by
    unfold spec_ThinChambers_vc
    intro w1 h1
    refine h.oneC fun w2 h2 => ?_
    have k2 := h1.trans h2
    refine (spec_l05Code_val c d s m l v zss n w2 (h.ext k2)).call fun w3 h3 => ⟨_, rfl, h3.keeps, fun hne => ?_, fun he => ?_⟩
    · unfold thinR; rw [if_neg hne]
      exact ⟨_, rfl, Own.nil_ _ _ _, k2.trans h3⟩
    have he := Classical.not_not.1 he
    have k3 := k2.trans h3
    obtain ⟨hk, hn1, hn2⟩ := thinCode_zero he
    obtain ⟨p1, p2, p3⟩ := lk_small hk
    intro out w4 o4 h4
    have k4 := k3.trans h4
    refine ⟨fun s W => s.1 ≤ zss.length ∧ Ext w W ∧ Own w.heap.size W 2 s.2 (ints (thinsTo n zss s.1)), fun s _ => zss.length - s.1, ⟨(0, out), rfl, rfl, Nat.zero_le _, k4, o4.mono k3.size⟩, ?_⟩
    rintro ⟨k, out⟩ w5 ⟨hk5, k5, o5⟩
    simp only at hk5 o5
    refine (h.ext k5).len ⟨fun hlt => ?_, fun hge => ?_⟩
    · have hlt' : k < zss.length := by simp only at hlt; omega
      obtain ⟨z0, z1, z2⟩ := p3 _ (List.getElem_mem hlt')
      have hlen := thinsTo_length n zss k
      have eD : zss.getD k [] = zss[k] := by rw [List.getD, List.getElem?_eq_getElem hlt']; rfl
      refine ⟨fun t W => 1 ≤ t.1 ∧ t.1 ≤ (zss[k]).length ∧ t.2 = thinB n zss[k] t.1 ∧ Ext w5 W, fun t _ => (zss[k]).length - t.1, ⟨(1, false), rfl, rfl, Nat.le_refl _, z0, rfl, .refl _⟩, ?_⟩
      rintro ⟨j, b⟩ w6 ⟨hj1, hj, hb, x6⟩
      simp only at hj1 hj hb
      have k6 := k5.trans x6
      refine (h.ext k6).get k rfl hlt' fun u hu => hu.len ⟨fun hjl => ?_, fun hjg => ?_⟩
      · have hjl' : j < (zss[k]).length := by simp only at hjl; omega
        obtain ⟨i, rfl⟩ : ∃ i, j = i + 1 := ⟨j - 1, by omega⟩
        have a1 := z2 _ (List.getElem_mem hjl')
        have a2 := z2 _ (List.getElem_mem (show i < (zss[k]).length by omega))
        refine ⟨fun ht w7 h7 => ⟨by unfold I64; simp only; omega, (i + 1 + 1, true), rfl, rfl, ⟨by simp only; omega, hjl', ?_, x6.trans h7⟩, by simp only; omega⟩, fun hf => ?_⟩
        · simp only at ht ⊢
          simp only [thinB]
          rw [← hb, ht]
          rfl
        · simp only at hf
          refine (h.ext k6).get k rfl hlt' fun u1 hu1 => hu1.get (i + 1) rfl hjl' ((h.ext k6).get k rfl hlt' fun u2 hu2 => ⟨by unfold I64; simp only; omega, hu2.get i (by simp only; omega) (by omega) ⟨by unfold I64; omega, fun w7 h7 => ⟨by unfold I64; simp only; omega, (i + 1 + 1, _), rfl, rfl, ⟨by simp only; omega, hjl', ?_, x6.trans h7⟩, by simp only; omega⟩⟩⟩)
          simp only [thinB]
          rw [← hb, hf, getD_get hjl', getD_get (show i < (zss[k]).length by omega)]
          rfl
      · have hjl : j = (zss[k]).length := by simp only at hjg; omega
        have hbt : b = thin n (zss.getD k []) := by rw [hb, hjl, eD]; rfl
        refine ⟨fun ht => ?_, fun hf => ?_⟩
        · simp only at ht
          intro r w7 o7 h7
          have o67 := (o5.ext x6).ext h7
          refine o67.app1 o7 rfl (by rw [ints_length]; omega) (k6.trans h7).size fun u' w8 o8 g8 _ => ⟨by unfold I64; simp only; omega, (k + 1, u'), rfl, rfl, ⟨hlt', (k6.trans h7).grown o67 (Nat.le_refl _) g8, ?_⟩, by simp only; omega⟩
          simp only [thinsTo]
          rw [if_pos (by rw [← hbt]; exact ht), ints_append]
          exact o8
        · simp only at hf
          refine ⟨by unfold I64; simp only; omega, (k + 1, out), rfl, rfl, ⟨hlt', k6, ?_⟩, by simp only; omega⟩
          simp only [thinsTo]
          rw [if_neg (by rw [← hbt, hf]; simp)]
          exact o5.ext x6
    · have hke : k = zss.length := by simp only at hge; omega
      rw [hke] at o5
      exact ⟨out, by rw [he], by unfold thinR; rw [if_pos he]; exact o5, k5⟩)
def impl_ThinChambers_A (m_Chambers : Int) (m_Depths : Int) (m_Step : Int) (m_Same : Int) (m_Least : Int) (l_Sets : Value) (n : Int) (w : World) : Nat → Ann := fun κ => match κ with
  | 0 => { σ := Nat × Value, sli := [24, 9], slc := fun s => [SV.v (Value.int .i64 (s.1 : Int)), SV.v s.2], bxi := [], bxc := fun s => [], inv := fun s W => True, μ := fun s W => 0, free := true }
  | _ => { σ := Unit, sli := [], slc := fun _ => [], bxi := [], bxc := fun _ => [], inv := fun _ _ => False, μ := fun _ _ => 0 }
abbrev impl_ThinChambers_k0 (s38 : Nat × Value) (w39 : World) (J40 : (Nat × Value) → World → Prop) (m41 : (Nat × Value) → World → Nat) (x58 : Value) (x61 : Int) (w78 : World) : Prop :=
  I64 (x61 + 1) ∧ ∃ s79 : (Nat × Value), (Value.int .i64 (x61 + 1)) = (Value.int .i64 (s79.1 : Int)) ∧ x58 = s79.2 ∧ (J40 s79 w78) ∧ (m41 s79 w78) < (m41 s38 w39)
abbrev impl_ThinChambers_k1 (x12 : Int) (x25 : Int) (u35 : Value) (s38 : Nat × Value) (w39 : World) (J40 : (Nat × Value) → World → Prop) (m41 : (Nat × Value) → World → Nat) (x42 : Value) (x43 : Int) (w44 : World) : Prop :=
  IxV 1 u35 x43 (fun ad45 => ∃ u46 : Value, LdV w44 (Value.pointer (some ad45)) u46 ∧ LenV u46 (fun n47 => I64 (n47 - 1) ∧ SlV 1 u46 (some 1) (some (n47 - 1)) none (fun u48 => ∃ b52 : Bool, (∀ w49 : World, Ext w44 w49 → Calls Try.prog 102 #[u48, (Value.int .i64 x12), (Value.int .i64 x25)] w49 (fun e50 w51 => e50 = .returned (Value.bool b52) ∧ Ext w49 w51)) ∧ ∀ w53 : World, Ext w44 w53 → (((!b52) = true → ∀ (v54 : Value) (w55 : World), Own w53.heap.size w55 2 v54 [(Value.int .i64 x43)] → Ext w53 w55 → AppV w55 2 x42 v54 (fun v56 w57 => (impl_ThinChambers_k0 s38 w39 J40 m41 v56 x43 w57))) ∧ ((!b52) = false → (impl_ThinChambers_k0 s38 w39 J40 m41 x42 x43 w53))))))
abbrev impl_ThinChambers_k2 (w : World) (Post : Value → World → Prop) (x12 : Int) (x24 : Int) (x25 : Int) (x26 : Int) (x27 : Int) (x28 : Int) (x29 : Value) (w30 : World) : Prop :=
  ∀ (v31 : Value) (w32 : World), Own w30.heap.size w32 2 v31 [] → Ext w30 w32 → Calls Try.prog 101 #[(Value.agg #[(Value.int .i64 x24), (Value.int .i64 x25), (Value.int .i64 x26), (Value.int .i64 x27), (Value.int .i64 x28)]), (Value.agg #[x29])] w32 (fun e33 w34 => ∃ u35 : Value, e33 = .returned u35 ∧ Keeps w.heap.size [25, 28] w32 w34 ∧ LenV u35 (fun n36 => (∃ (J40 : (Nat × Value) → World → Prop) (m41 : (Nat × Value) → World → Nat), ((∃ s37 : (Nat × Value), (Value.int .i64 0) = (Value.int .i64 (s37.1 : Int)) ∧ v31 = s37.2 ∧ (J40 s37 w34)) ∧ ∀ (s38 : (Nat × Value)) (w39 : World), (J40 s38 w39) → ((((s38.1 : Int) < n36) → (impl_ThinChambers_k1 x12 x25 u35 s38 w39 J40 m41 s38.2 (s38.1 : Int) w39)) ∧ (¬ ((s38.1 : Int) < n36) → Post (Value.tuple #[s38.2, (Value.int .i64 0)]) w39))))))
def impl_ThinChambers_vc (m_Chambers : Int) (m_Depths : Int) (m_Step : Int) (m_Same : Int) (m_Least : Int) (l_Sets : Value) (n : Int) (w : World) (Post : Value → World → Prop) : Prop :=
  ∀ w1 : World, Ext w w1 → oneC l_Sets (∀ w2 : World, Ext w1 w2 → Calls Try.prog 99 #[(Value.agg #[(Value.int .i64 m_Chambers), (Value.int .i64 m_Depths), (Value.int .i64 m_Step), (Value.int .i64 m_Same), (Value.int .i64 m_Least)]), (Value.agg #[l_Sets]), (Value.int .i64 n)] w2 (fun e3 w4 => ∃ n5 : Int, e3 = .returned (Value.int .i64 n5) ∧ Keeps w.heap.size [25, 28] w2 w4 ∧ (((n5 ≠ (0 : Int)) → Post (Value.tuple #[(Value.slice none 0 0), (Value.int .i64 n5)]) w4) ∧ (¬ (n5 ≠ (0 : Int)) → (impl_ThinChambers_k2 w Post n m_Chambers m_Depths m_Step m_Same m_Least l_Sets w4)))))
theorem impl_ThinChambers_eq (m_Chambers : Int) (m_Depths : Int) (m_Step : Int) (m_Same : Int) (m_Least : Int) (l_Sets : Value) (n : Int) (w : World) (Post : Value → World → Prop) : denF Try.prog [] (impl_ThinChambers_A m_Chambers m_Depths m_Step m_Same m_Least l_Sets n w) 29 [(Value.agg #[(Value.int .i64 m_Chambers), (Value.int .i64 m_Depths), (Value.int .i64 m_Step), (Value.int .i64 m_Same), (Value.int .i64 m_Least)]), (Value.agg #[l_Sets]), (Value.int .i64 n)] w Post = impl_ThinChambers_vc m_Chambers m_Depths m_Step m_Same m_Least l_Sets n w Post := by kernel_rfl
set_option maxRecDepth 100000 in
theorem impl_ThinChambers_calls (m_Chambers : Int) (m_Depths : Int) (m_Step : Int) (m_Same : Int) (m_Least : Int) (l_Sets : Value) (n : Int) (w : World) (Post : Value → World → Prop) (hvc : impl_ThinChambers_vc m_Chambers m_Depths m_Step m_Same m_Least l_Sets n w Post) : Ret Try.prog 29 #[(Value.agg #[(Value.int .i64 m_Chambers), (Value.int .i64 m_Depths), (Value.int .i64 m_Step), (Value.int .i64 m_Same), (Value.int .i64 m_Least)]), (Value.agg #[l_Sets]), (Value.int .i64 n)] w Post :=
  Ret.of (denF_sound mixed (Eq.mpr (impl_ThinChambers_eq m_Chambers m_Depths m_Step m_Same m_Least l_Sets n w Post) hvc))

theorem impl_ThinChambers_ret (c d s m l : Int) (v : Value) (zss : List (List Int)) (n : Int) (w : World) (h : RR w v zss) : SlR 29 #[mkV c d s m l, lkV v, .int .i64 n] w (thinR c d s m l zss n) (thinCode c d s m l zss n) :=
  impl_ThinChambers_calls c d s m l v n w _ (by
    unfold impl_ThinChambers_vc
    intro w1 h1
    refine h.oneC fun w2 h2 => ?_
    have k2 := h1.trans h2
    refine (impl_thinCode_val c d s m l v zss n w2 (h.ext k2)).call fun w3 h3 => ⟨_, rfl, h3.keeps, fun hne => ?_, fun he => ?_⟩
    · unfold thinR; rw [if_neg hne]
      exact ⟨_, rfl, Own.nil_ _ _ _, k2.trans h3⟩
    have he := Classical.not_not.1 he
    have k3 := k2.trans h3
    obtain ⟨hk, hn1, hn2⟩ := thinCode_zero he
    obtain ⟨p1, p2, p3⟩ := lk_small hk
    intro out w4 o4 h4
    have k4 := k3.trans h4
    refine (impl_pinsOf_ret c d s m l v zss w4 (h.ext k4) p1 p2 p3).call ?_
    rintro ps w5 ⟨op, h5⟩
    have k5 := k4.trans h5
    refine ⟨ps, rfl, h5.keeps, op.rr.len ?_⟩
    rw [List.length_map]
    refine ⟨fun s W => s.1 ≤ zss.length ∧ Ext w W ∧ OwnM w4.heap.size w5.heap.size W ps (zss.map (stack d)) ∧ Own w.heap.size W 2 s.2 (ints (thinsTo n zss s.1)) ∧ (∀ g, s.2.ownBlock = some g → g < w4.heap.size ∨ w5.heap.size ≤ g) ∧ w5.heap.size ≤ W.heap.size, fun s _ => zss.length - s.1, ⟨(0, out), rfl, rfl, Nat.zero_le _, k5, op.m, (o4.ext h5).mono k3.size, fun g hg => .inl (o4.lt hg).2, Nat.le_refl _⟩, ?_⟩
    rintro ⟨k, out⟩ w6 ⟨hk6, k6, om, o6, hbl, hsz⟩
    simp only at hk6 o6 hbl
    refine ⟨fun hlt => ?_, fun hge => ?_⟩
    · have hlt' : k < zss.length := by simp only at hlt; omega
      obtain ⟨z0, z1, z2⟩ := p3 _ (List.getElem_mem hlt')
      have hlen := thinsTo_length n zss k
      have eD : zss.getD k [] = zss[k] := by rw [List.getD, List.getElem?_eq_getElem hlt']; rfl
      have hin := rises_in (hk.2.2 _ (List.getElem_mem hlt')).2
      refine om.rr.get k rfl (by rw [List.length_map]; exact hlt') fun u hu => ?_
      rw [List.getElem_map] at hu
      refine hu.len ?_
      rw [stack_length]
      refine ⟨by unfold I64; omega, hu.sl 1 (zss[k]).length rfl (by simp) z0 (by rw [stack_length]; omega) fun t ht => ?_⟩
      have e1 : ((stack d zss[k]).take (zss[k]).length).drop 1 = (steps zss[k]).drop 1 := by
        unfold stack
        rw [List.take_left' (steps_length _)]
      rw [e1] at ht
      refine ⟨_, fun w7 h7 => (impl_allWithin_val t n d _ w7 (ht.ext h7)).call fun _ hx => ⟨rfl, hx⟩, fun w7 h7 => ?_⟩
      have hthin := thin_iff (n := n) (d := d) (z := zss[k]) fun x hx => by have := hin x hx; omega
      have k7 := k6.trans h7
      have z7 := h7.size
      refine ⟨fun hb => ?_, fun hb => ?_⟩
      · intro r w8 o8 h8
        have z8 := h8.size
        have o68 := (o6.ext h7).ext h8
        refine o68.app1 o8 rfl (by rw [ints_length]; omega) (k7.trans h8).size fun u' w9 o9 g9 hb9 => ⟨by unfold I64; simp only; omega, (k + 1, u'), rfl, rfl, ⟨hlt', (k7.trans h8).grown o68 (Nat.le_refl _) g9, ?_, ?_, ?_, ?_⟩, by simp only; omega⟩
        · refine ((om.ext h7).ext h8).pres (K := fun b => out.ownBlock ≠ some b) (grown_pres g9 fun b hb hK => hK hb) fun b b1 b2 hb => ?_
          have := hbl b hb
          omega
        · simp only [thinsTo]
          rw [hthin, Bool.not_not] at hb
          rw [if_pos (by rw [eD]; exact hb), ints_append]
          exact o9
        · intro g hg
          simp only at hg
          rcases hb9 with hb9 | hb9
          · rw [hb9] at hg
            exact hbl g hg
          · rw [hb9] at hg
            injection hg with hg
            omega
        · have := g9.size
          omega
      · refine ⟨by unfold I64; simp only; omega, (k + 1, out), rfl, rfl, ⟨hlt', k7, om.ext h7, ?_, hbl, by omega⟩, by simp only; omega⟩
        simp only [thinsTo]
        rw [hthin, Bool.not_not] at hb
        rw [if_neg (by rw [eD, hb]; simp)]
        exact o6.ext h7
    · have hke : k = zss.length := by simp only at hge; omega
      rw [hke] at o6
      exact ⟨out, by rw [he], by unfold thinR; rw [if_pos he]; exact o6, k6⟩)
end Go.Proofs
