/- Keys that locks open for, counted: joined and met locks, combinations. Plain Lean. No condition. -/
import Derived.Test.YtccekkkiaebnmaaL04e
import Derived.Test.YtccekkkiaebnmaaL02f
set_option linter.unusedVariables false
namespace Go.Proofs
open Go.Sx Go.RowKit
theorem sorted_ext : ∀ {a b : List (List Int)}, a.Pairwise (fun x y => llt x y = true) → b.Pairwise (fun x y => llt x y = true) → (∀ x, x ∈ a ↔ x ∈ b) → a = b
  | [], [], _, _, _ => rfl
  | [], y :: b, _, _, h => absurd ((h y).2 (List.mem_cons_self ..)) (by simp)
  | x :: a, [], _, _, h => absurd ((h x).1 (List.mem_cons_self ..)) (by simp)
  | x :: a, y :: b, ha, hb, h => by
    have ha' := List.pairwise_cons.1 ha
    have hb' := List.pairwise_cons.1 hb
    have hxy : x = y := by
      rcases List.mem_cons.1 ((h x).1 (List.mem_cons_self ..)) with e | hx
      · exact e
      · rcases List.mem_cons.1 ((h y).2 (List.mem_cons_self ..)) with e | hy
        · exact e.symm
        · have h1 := hb'.1 x hx
          have h2 := ha'.1 y hy
          rw [llt_asymm h1] at h2
          cases h2
    subst hxy
    congr 1
    refine sorted_ext ha'.2 hb'.2 fun z => ?_
    have hz := h z
    have nx : ∀ w, llt x w = true → w ≠ x := fun w hw e => by rw [e, llt_irrefl] at hw; cases hw
    constructor
    · intro hz1
      rcases List.mem_cons.1 (hz.1 (List.mem_cons_of_mem _ hz1)) with e | hz2
      · exact absurd e (nx z (ha'.1 z hz1))
      · exact hz2
    · intro hz1
      rcases List.mem_cons.1 (hz.2 (List.mem_cons_of_mem _ hz1)) with e | hz2
      · exact absurd e (nx z (hb'.1 z hz1))
      · exact hz2
/-- the keys that a lock opens for -/
def qO (c : Nat) (za : List (List Int)) (k : List Int) : Bool := (List.range c).all fun i => Al za i (k.getD i 0)
theorem qO_iff {c : Nat} {za : List (List Int)} {k : List Int} : qO c za k = true ↔ ∀ i, i < c → Al za i (k.getD i 0) = true := by
  unfold qO
  rw [List.all_eq_true]
  simp only [List.mem_range]
theorem openers_eq (M : Mk) (za : List (List Int)) : openersOf M za = (keys M).filter (qO M.c.toNat za) := by
  refine sorted_ext (G_sorted _ _) ((keys_sorted M).filter _) fun k => ?_
  rw [List.mem_filter, qO_iff]
  unfold openersOf keys GA
  rw [mem_G, mem_G]
  constructor
  · rintro ⟨t, rfl, h1, h2, h3, h4⟩
    refine ⟨⟨k, rfl, h1, h2, fun _ _ => rfl, h4⟩, fun i hi => ?_⟩
    have := h3 i hi
    simpa using this
  · rintro ⟨⟨t, rfl, h1, h2, _, h4⟩, h5⟩
    refine ⟨k, rfl, h1, h2, fun i hi => ?_, h4⟩
    have := h5 i hi
    simpa using this
theorem mem_openers {M : Mk} (hc : 0 ≤ M.c) {za : List (List Int)} {k : List Int} : k ∈ openersOf M za ↔ IsK M k ∧ ∀ i, i < M.c.toNat → Al za i (k.getD i 0) = true := by
  rw [openers_eq, List.mem_filter, mem_keys hc, qO_iff]
theorem count_two {α : Type} (p q : α → Bool) : ∀ l : List α, (l.filter p).length + (l.filter q).length = (l.filter fun x => p x || q x).length + (l.filter fun x => p x && q x).length
  | [] => rfl
  | x :: l => by
    have ih := count_two p q l
    cases hp : p x <;> cases hq : q x <;> simp [hp, hq] <;> omega
theorem count_imp {α : Type} {p q : α → Bool} : ∀ {l : List α}, (∀ x ∈ l, p x = true → q x = true) → (l.filter p).length ≤ (l.filter q).length
  | [], _ => Nat.le_refl _
  | x :: l, h => by
    have ih := count_imp (l := l) fun y hy => h y (List.mem_cons_of_mem _ hy)
    have hx := h x (List.mem_cons_self ..)
    cases hp : p x
    · cases hq : q x <;> simp [hp, hq] <;> omega
    · simp [hp, hx hp]; omega
theorem al_rows {p : Nat → Int → Bool} {d : Int} {n i : Nat} (hi : i < n) {x : Int} (hx : 0 ≤ x ∧ x ≤ d - 1) : Al (rowsOf p d n) i x = p i x := by
  rw [al_get (by rw [rowsOf_length]; exact hi)]
  have e : (rowsOf p d n)[i]'(by rw [rowsOf_length]; exact hi) = filt (p i) d.toNat := by simp [rowsOf]
  rw [e]
  unfold filt
  cases hp : p i x
  · exact decide_eq_false fun h => by rw [(List.mem_filter.1 h).2] at hp; cases hp
  · exact decide_eq_true (List.mem_filter.2 ⟨mem_upFrom.2 (by omega), hp⟩)
theorem isK_at {M : Mk} {k : List Int} (h : IsK M k) {i : Nat} (hi : i < M.c.toNat) : 0 ≤ k.getD i 0 ∧ k.getD i 0 ≤ M.d - 1 := by
  have hl := h.1
  rw [getD_get (show i < k.length by omega)]
  exact h.2.1 _ (List.getElem_mem _)
/-- joined locks: inclusion -/
theorem join_count {M : Mk} (hc : 0 ≤ M.c) (za zb : List (List Int)) : ((keys M).filter fun k => qO M.c.toNat za k || qO M.c.toNat zb k).length ≤ (openersOf M (rowsOf (pJ za zb) M.d M.c.toNat)).length := by
  rw [openers_eq]
  refine count_imp fun k hk h => qO_iff.2 fun i hi => ?_
  have hK := (mem_keys hc).1 hk
  rw [al_rows hi (isK_at hK hi)]
  unfold pJ
  rcases Bool.or_eq_true_iff.1 h with h | h
  · rw [qO_iff.1 h i hi]; rfl
  · rw [qO_iff.1 h i hi, Bool.or_true]
/-- met locks: the keys that open both -/
theorem meet_count {M : Mk} (hc : 0 ≤ M.c) (za zb : List (List Int)) : openersOf M (rowsOf (pM za zb) M.d M.c.toNat) = (keys M).filter fun k => qO M.c.toNat za k && qO M.c.toNat zb k := by
  rw [openers_eq]
  refine List.filter_congr fun k hk => ?_
  have hK := (mem_keys hc).1 hk
  rw [Bool.eq_iff_iff, Bool.and_eq_true, qO_iff, qO_iff, qO_iff]
  constructor
  · intro h
    have := fun i hi => h i hi
    refine ⟨fun i hi => ?_, fun i hi => ?_⟩
    · have := h i hi
      rw [al_rows hi (isK_at hK hi)] at this
      exact (Bool.and_eq_true_iff.1 this).1
    · have := h i hi
      rw [al_rows hi (isK_at hK hi)] at this
      exact (Bool.and_eq_true_iff.1 this).2
  · rintro ⟨h1, h2⟩ i hi
    rw [al_rows hi (isK_at hK hi)]
    exact Bool.and_eq_true_iff.2 ⟨h1 i hi, h2 i hi⟩
/-- no key opens both where a chamber has no common depth -/
theorem meet_none {M : Mk} (hc : 0 ≤ M.c) {za zb : List (List Int)} (h : ¬ meetOk M za zb) : ((keys M).filter fun k => qO M.c.toNat za k && qO M.c.toNat zb k) = [] := by
  refine filter_none fun k hk => ?_
  cases hq : qO M.c.toNat za k && qO M.c.toNat zb k
  · rfl
  · exfalso
    apply h
    intro i hi he
    have hK := (mem_keys hc).1 hk
    obtain ⟨h1, h2⟩ := Bool.and_eq_true_iff.1 hq
    have hx := isK_at hK hi
    have : k.getD i 0 ∈ filt (pM za zb i) M.d.toNat := by
      unfold filt
      refine List.mem_filter.2 ⟨mem_upFrom.2 (by omega), ?_⟩
      unfold pM
      rw [qO_iff.1 h1 i hi, qO_iff.1 h2 i hi]; rfl
    rw [he] at this
    cases this
theorem meet_law {M : Mk} (hc : 0 ≤ M.c) (za zb : List (List Int)) : (openersOf M za).length + (openersOf M zb).length ≤ (openersOf M (rowsOf (pJ za zb) M.d M.c.toNat)).length + ((keys M).filter fun k => qO M.c.toNat za k && qO M.c.toNat zb k).length ∧
    ((keys M).filter fun k => qO M.c.toNat za k && qO M.c.toNat zb k).length ≤ (openersOf M za).length ∧ ((keys M).filter fun k => qO M.c.toNat za k && qO M.c.toNat zb k).length ≤ (openersOf M zb).length := by
  have h1 := join_count hc za zb
  have h2 := count_two (qO M.c.toNat za) (qO M.c.toNat zb) (keys M)
  rw [openers_eq M za, openers_eq M zb]
  refine ⟨by omega, count_imp fun k _ h => (Bool.and_eq_true_iff.1 h).1, count_imp fun k _ h => (Bool.and_eq_true_iff.1 h).2⟩
/-! ### combinations -/
def prodL : List (List Int) → Nat
  | [] => 1
  | z :: zss => z.length * prodL zss
theorem prodL_snoc (zss : List (List Int)) (z : List Int) : prodL (zss ++ [z]) = prodL zss * z.length := by
  induction zss with
  | nil => simp [prodL]
  | cons y zss ih => simp only [List.cons_append, prodL, ih, Nat.mul_assoc]
theorem comb_prod (zss : List (List Int)) : ∀ k, k ≤ zss.length → comb (zss.take k) = (prodL (zss.take k) : Int)
  | 0, _ => rfl
  | k + 1, hk => by
    rw [comb_snoc zss k (by omega), take_snoc zss k (by omega), prodL_snoc, comb_prod zss k (by omega)]
    rfl
theorem sum_le_mul : ∀ {l : List Nat} {b : Nat}, (∀ x ∈ l, x ≤ b) → l.sum ≤ l.length * b
  | [], b, _ => by simp
  | x :: l, b, h => by
    have h1 := h x (List.mem_cons_self ..)
    have h2 := sum_le_mul (l := l) fun y hy => h y (List.mem_cons_of_mem _ hy)
    simp only [List.sum_cons, List.length_cons, Nat.succ_mul]
    omega
theorem G_prod {M : Mk} {zss : List (List Int)} (hs : SetsOk M.d zss) : ∀ (n : Nat) (p : List Int), p.length + n = zss.length → (G M (Al zss) n p).length ≤ prodL (zss.drop p.length)
  | 0, p, hp => by
    rw [List.drop_of_length_le (by omega)]
    simp only [G, prodL]
    split <;> simp
  | n + 1, p, hp => by
    have hl : p.length < zss.length := by omega
    rw [G_succ, set_ups hs hl, List.drop_eq_getElem_cons hl, List.length_flatMap]
    simp only [prodL]
    refine Nat.le_trans (sum_le_mul (b := prodL (zss.drop (p.length + 1))) fun x hx => ?_) (by simp)
    obtain ⟨y, _, rfl⟩ := List.mem_map.1 hx
    have := G_prod hs n (p ++ [y]) (by simp; omega)
    simpa using this
theorem openers_comb {M : Mk} {zss : List (List Int)} (hs : SetsOk M.d zss) (hl : (zss.length : Int) = M.c) : ((openersOf M zss).length : Int) ≤ comb zss := by
  have h1 := G_prod hs M.c.toNat [] (by simp; omega)
  have h2 := comb_prod zss zss.length (Nat.le_refl _)
  rw [List.take_length] at h2
  rw [h2]
  have : (openersOf M zss).length ≤ prodL zss := h1
  omega
end Go.Proofs
