/- Thickened locks and the stock of locks, in plain Lean. No condition. -/
import Derived.Test.YtccekkkiaebnmaaL05c
import Derived.Test.YtccekkkiaebnmaaL05e
import Derived.Test.YtccekkkiaebnmaaP04
set_option linter.unusedVariables false
namespace Go.Proofs
open Go.Sx Go.RowKit
/-! ### thickened sets -/
theorem app_getD_l (a b : List Int) {i : Nat} (h : i < a.length) : (a ++ b).getD i 0 = a.getD i 0 := by simp [List.getD, List.getElem?_append_left h]
theorem app_getD_end (a : List Int) (x : Int) : (a ++ [x]).getD a.length 0 = x := by simp [List.getD]
theorem thick_in {n : Int} {z : List Int} : ∀ k, k < z.length → ∀ x ∈ thick n z k, x ∈ z
  | 0, hk, x, hx => by
    simp only [thick, List.mem_singleton] at hx
    rw [hx, getD_get hk]
    exact List.getElem_mem hk
  | k + 1, hk, x, hx => by
    unfold thick at hx
    split at hx
    · rcases List.mem_append.1 hx with hx | hx
      · exact thick_in k (by omega) x hx
      · simp only [List.mem_singleton] at hx
        rw [hx, getD_get hk]
        exact List.getElem_mem hk
    · exact thick_in k (by omega) x hx
theorem thick_gap {n : Int} {z : List Int} : ∀ k j, j + 1 < (thick n z k).length → n ≤ (thick n z k).getD (j + 1) 0 - (thick n z k).getD j 0
  | 0, j, hj => by simp [thick] at hj
  | k + 1, j, hj => by
    unfold thick at hj ⊢
    split at hj
    · rename_i hc
      rw [if_pos hc]
      rw [List.length_append, List.length_singleton] at hj
      rcases Nat.lt_or_ge (j + 1) (thick n z k).length with h | h
      · rw [app_getD_l _ _ h, app_getD_l _ _ (by omega)]
        exact thick_gap k j h
      · have hl := (thick_len n z k).1
        have e : j + 1 = (thick n z k).length := by omega
        have e2 : j = (thick n z k).length - 1 := by omega
        rw [e, app_getD_end, app_getD_l _ _ (by omega), e2]
        exact hc
    · rename_i hc
      rw [if_neg hc]
      exact thick_gap k j hj
theorem thickS_ne {n : Int} {z : List Int} : thickS n z ≠ [] := fun e => by
  have := (thick_len n z (z.length - 1)).1
  unfold thickS at e
  rw [e] at this
  simp at this
theorem thickS_in {n : Int} {z : List Int} (hz : z ≠ []) : ∀ x ∈ thickS n z, x ∈ z := thick_in _ (by have := List.length_pos_iff.2 hz; omega)
theorem thickS_thin {n : Int} {z : List Int} : thin n (thickS n z) = false := by
  unfold thin
  rw [thinB_false]
  exact fun j hj => thick_gap _ j hj
theorem thickS_rises {n d : Int} (hn : 1 ≤ n) {z : List Int} (hz : z ≠ []) (hr : Rises d z z.length) : Rises d (thickS n z) (thickS n z).length := by
  intro i hi
  have hm := rises_in hr _ (thickS_in hz _ (List.getElem_mem hi))
  unfold RiseAt
  rw [getD_get hi]
  refine ⟨hm.1, hm.2, fun h0 => ?_⟩
  have := thick_gap (n := n) (z := z) (z.length - 1) (i - 1) (by unfold thickS at hi; omega)
  rw [show i - 1 + 1 = i by omega] at this
  have e := getD_get hi
  unfold thickS at *
  omega
theorem thick_take {n : Int} {z : List Int} (h : thin n z = false) : ∀ k, k < z.length → thick n z k = z.take (k + 1)
  | 0, hk => by
    cases z with
    | nil => simp at hk
    | cons x r => simp [thick]
  | k + 1, hk => by
    have ih := thick_take h k (by omega)
    unfold thin at h
    rw [thinB_false] at h
    have hg := h k hk
    have hl : (z.take (k + 1)).length = k + 1 := by rw [List.length_take]; omega
    unfold thick
    rw [ih, hl, Nat.add_sub_cancel, take_getD z (k + 1) k (by omega), if_pos hg, take_snoc z (k + 1) hk, getD_get hk]
theorem thickS_same {n : Int} {z : List Int} (hz : z ≠ []) : thickS n z = z ↔ thin n z = false := by
  constructor
  · intro h
    have := thickS_thin (n := n) (z := z)
    rwa [h] at this
  · intro h
    have hl := List.length_pos_iff.2 hz
    unfold thickS
    rw [thick_take h _ (by omega), List.take_of_length_le (by omega)]
theorem thick_lk {M : Mk} {zss : List (List Int)} (h : LkOk M.c M.d M.s M.m M.l zss) {n : Int} (hn : 1 ≤ n) : LkOk M.c M.d M.s M.m M.l (zss.map (thickS n)) := by
  refine ⟨h.1, by rw [List.length_map]; exact h.2.1, fun y hy => ?_⟩
  obtain ⟨z, hz, rfl⟩ := List.mem_map.1 hy
  obtain ⟨h1, h2⟩ := h.2.2 z hz
  exact ⟨thickS_ne, thickS_rises hn h1 h2⟩
theorem thinsTo_nil {n : Int} {zss : List (List Int)} : ∀ k, k ≤ zss.length → ((thinsTo n zss k = []) ↔ ∀ z ∈ zss.take k, thin n z = false)
  | 0, _ => by simp [thinsTo]
  | k + 1, hk => by
    have ih := thinsTo_nil k (n := n) (zss := zss) (by omega)
    have hk' : k < zss.length := by omega
    unfold thinsTo
    rw [show zss.getD k [] = zss[k] by rw [List.getD, List.getElem?_eq_getElem hk']; rfl, take_snoc zss k hk']
    constructor
    · intro h z hz
      split at h
      · simp at h
      · rename_i hf
        rcases List.mem_append.1 hz with hz | hz
        · exact ih.1 h z hz
        · have : z = zss[k] := by simpa using hz
          rw [this]
          simpa using hf
    · intro h
      rw [if_neg (by rw [h zss[k] (List.mem_append_right _ (List.mem_singleton.2 rfl))]; decide)]
      exact ih.2 fun z hz => h z (List.mem_append_left _ hz)
/-- thickening twice -/
theorem thinR_thick {M : Mk} {zss : List (List Int)} {n : Int} : thinsTo n (zss.map (thickS n)) (zss.map (thickS n)).length = [] := by
  rw [thinsTo_nil _ (Nat.le_refl _), List.take_of_length_le (Nat.le_refl _)]
  intro y hy
  obtain ⟨z, _, rfl⟩ := List.mem_map.1 hy
  exact thickS_thin
/-- the common lock of a thickened lock and the lock -/
theorem meet_thick {M : Mk} {zss : List (List Int)} (h : LkOk M.c M.d M.s M.m M.l zss) {n : Int} (hn : 1 ≤ n) : meetOk M (zss.map (thickS n)) zss ∧ rowsOf (pM (zss.map (thickS n)) zss) M.d M.c.toNat = zss.map (thickS n) := by
  have hx := thick_lk h hn
  have hl := h.2.1
  have hc := h.1.1
  have key : ∀ i (hi : i < (zss.map (thickS n)).length), filt (pM (zss.map (thickS n)) zss i) M.d.toNat = (zss.map (thickS n))[i] := by
    intro i hi
    have hi' : i < zss.length := by rw [List.length_map] at hi; exact hi
    have := filter_set hx.2.2 hi (Al zss i)
    unfold pM
    rw [← this]
    refine List.filter_eq_self.2 fun x hxm => ?_
    rw [al_get hi']
    refine decide_eq_true ?_
    rw [List.getElem_map] at hxm
    exact thickS_in (h.2.2 _ (List.getElem_mem hi')).1 x hxm
  refine ⟨fun i hi he => ?_, ?_⟩
  · have hi' : i < (zss.map (thickS n)).length := by rw [List.length_map]; omega
    rw [key i hi', List.getElem_map] at he
    exact thickS_ne he
  · apply List.ext_getElem
    · rw [rowsOf_length, List.length_map]; omega
    · intro i h1 h2
      have := key i h2
      rw [← this]
      simp [rowsOf]
/-- some chamber is thin exactly if thickening changes the lock -/
theorem thin_changes {M : Mk} {zss : List (List Int)} (h : LkOk M.c M.d M.s M.m M.l zss) {n : Int} : (0 < (thinsTo n zss zss.length).length) ↔ zss.map (thickS n) ≠ zss := by
  have h0 := thinsTo_nil (n := n) zss.length (Nat.le_refl _)
  rw [List.take_of_length_le (Nat.le_refl _)] at h0
  have h1 : zss.map (thickS n) = zss ↔ ∀ z ∈ zss, thin n z = false := by
    constructor
    · intro e z hz
      obtain ⟨i, hi, rfl⟩ := List.getElem_of_mem hz
      have : (zss.map (thickS n))[i]? = zss[i]? := by rw [e]
      rw [List.getElem?_map, List.getElem?_eq_getElem hi] at this
      exact (thickS_same (h.2.2 _ hz).1).1 (by simpa using this)
    · intro hall
      conv => rhs; rw [← List.map_id zss]
      exact List.map_congr_left fun z hz => (thickS_same (h.2.2 z hz).1).2 (hall z hz)
  rw [Ne, h1, ← h0, List.length_pos_iff]
/-! ### sums of stocks -/
theorem sum_set {xs : List Int} : ∀ {k : Nat}, k < xs.length → (xs.set k (xs.getD k 0 + 1)).sum = xs.sum + 1 := by
  induction xs with
  | nil => intro k hk; simp at hk
  | cons x xs ih =>
    intro k hk
    cases k with
    | zero => simp [List.getD]; omega
    | succ k =>
      have := ih (k := k) (by simpa using hk)
      simp only [List.set_cons_succ, List.sum_cons]
      rw [show (x :: xs).getD (k + 1) 0 = xs.getD k 0 from rfl, this]
      omega
theorem bump_sum {xs : List Int} {k : Int} (h0 : 0 ≤ k) (h1 : k < (xs.length : Int)) : (bump xs k).sum = xs.sum + 1 := sum_set (by omega)
theorem adds_sum {D : Nat} : ∀ (sts : List (List Int)) (T : Tri), T.b.length = D → T.d.length = D → (∀ st ∈ sts, 2 ≤ st.length ∧ ∀ x ∈ st, 0 ≤ x ∧ x < (D : Int)) →
    (T.adds sts).b.length = D ∧ (T.adds sts).d.length = D ∧ (T.adds sts).b.sum = T.b.sum + sts.length ∧ (T.adds sts).d.sum = T.d.sum + sts.length
  | [], T, h1, h2, _ => ⟨h1, h2, by simp [Tri.adds], by simp [Tri.adds]⟩
  | st :: sts, T, h1, h2, hs => by
    obtain ⟨s1, s2⟩ := hs st (List.mem_cons_self ..)
    have a0 := s2 _ (List.getElem_mem (show 0 < st.length by omega))
    have a1 := s2 _ (List.getElem_mem (show st.length - 1 < st.length by omega))
    have e0 := getD_get (show 0 < st.length by omega)
    have e1 := getD_get (show st.length - 1 < st.length by omega)
    have ih := adds_sum sts (T.add st) ((bump_length _ _).trans h1) ((bump_length _ _).trans h2) fun x hx => hs x (List.mem_cons_of_mem _ hx)
    have hb : (T.add st).b.sum = T.b.sum + 1 := bump_sum (by omega) (by omega)
    have hd : (T.add st).d.sum = T.d.sum + 1 := bump_sum (by omega) (by omega)
    refine ⟨ih.1, ih.2.1, ?_, ?_⟩
    · rw [show T.adds (st :: sts) = (T.add st).adds sts from rfl, ih.2.2.1, hb, List.length_cons]
      omega
    · rw [show T.adds (st :: sts) = (T.add st).adds sts from rfl, ih.2.2.2, hd, List.length_cons]
      omega
theorem stock_sum {M : Mk} {lss : List (List (List Int))} (hL : LksOk M.c M.d M.s M.m M.l lss) : ∀ i, i ≤ lss.length → (stock M.d (lss.take i)).b.length = M.d.toNat ∧ (stock M.d (lss.take i)).d.length = M.d.toNat ∧ (stock M.d (lss.take i)).b.sum = i * M.c ∧ (stock M.d (lss.take i)).d.sum = i * M.c
  | 0, _ => by
    have hz : ∀ k : Nat, (List.replicate k (0 : Int)).sum = 0 := fun k => by
      induction k with
      | zero => rfl
      | succ k ih => rw [List.replicate_succ, List.sum_cons, ih]; rfl
    refine ⟨by simp [stock, tri0, zeros], by simp [stock, tri0, zeros], ?_, ?_⟩
    · simp only [List.take_zero, stock, List.foldl_nil, tri0, zeros, hz]; simp
    · simp only [List.take_zero, stock, List.foldl_nil, tri0, zeros, hz]; simp
  | i + 1, hi => by
    have hi' : i < lss.length := by omega
    obtain ⟨h1, h2, h3, h4⟩ := stock_sum hL i (by omega)
    have hall := hL.2 _ (List.getElem_mem hi')
    have hd := hL.1.2.1
    have := adds_sum (lss[i].map (stack M.d)) (stock M.d (lss.take i)) h1 h2 fun st hst => by
      obtain ⟨p1, _, p3⟩ := pins_in hL.1 hall hst
      exact ⟨p1, fun x hx => by have := p3 x hx; omega⟩
    rw [stock_snoc M.d hi']
    obtain ⟨g1, g2, g3, g4⟩ := this
    have hc := hall.1
    refine ⟨g1, g2, ?_, ?_⟩
    · rw [g3, h3, List.length_map, hc, Int.natCast_add, Int.add_mul]; simp
    · rw [g4, h4, List.length_map, hc, Int.natCast_add, Int.add_mul]; simp
end Go.Proofs
