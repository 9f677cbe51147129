/- Keys in plain Lean: there is a key, visits one behind the other, and where a key stands among all. No condition. -/
import Derived.Test.YtjcggcefmpaieaaDoorKeys
set_option linter.unusedVariables false
namespace Go.Proofs
open Go.Sx Go.RowKit

/-! ### what a key is -/
def IsK (M : Mk) (zs : List Int) : Prop := (zs.length : Int) = M.c ∧ CutsOk M.d zs ∧ Begins M zs ∧ M.l ≤ (kinds zs : Int)
instance (M : Mk) (zs : List Int) : Decidable (IsK M zs) := inferInstanceAs (Decidable (_ ∧ _))
abbrev Mk.fault (M : Mk) (zs : List Int) : Int := Go.Proofs.fault M.c M.d M.s M.m M.l zs
theorem fault_zero {M : Mk} {zs : List Int} : M.fault zs = 0 ↔ IsK M zs := by
  unfold Mk.fault fault IsK
  rw [Begins.iff]
  by_cases h1 : (zs.length : Int) = M.c
  · rw [if_pos h1]
    by_cases h2 : CutsOk M.d zs
    · rw [if_pos h2]
      by_cases h3 : StepsOk M.s zs
      · rw [if_pos h3]
        by_cases h4 : RunsOk M.m zs
        · rw [if_pos h4]
          split
          · exact ⟨fun h => absurd h (by decide), fun h => absurd h.2.2.2 (by omega)⟩
          · exact ⟨fun _ => ⟨h1, h2, ⟨h3, h4⟩, by omega⟩, fun _ => rfl⟩
        · rw [if_neg h4]
          exact ⟨fun h => absurd h (by decide), fun h => absurd h.2.2.1.2 h4⟩
      · rw [if_neg h3]
        exact ⟨fun h => absurd h (by decide), fun h => absurd h.2.2.1.1 h3⟩
    · rw [if_neg h2]
      exact ⟨fun h => absurd h (by decide), fun h => absurd h.2.1 h2⟩
  · rw [if_neg h1]
    exact ⟨fun h => absurd h (by decide), fun h => absurd h.1 h1⟩
theorem mem_keys {M : Mk} (hc : 0 ≤ M.c) {k : List Int} : k ∈ keys M ↔ IsK M k := by
  unfold keys GA IsK
  rw [mem_G]
  constructor
  · rintro ⟨t, rfl, h1, h2, _, h3, h4⟩
    exact ⟨by omega, h2, h3, h4⟩
  · rintro ⟨h1, h2, h3, h4⟩
    exact ⟨k, rfl, by omega, h2, fun _ _ => rfl, h3, h4⟩
theorem keys_length {M : Mk} (hc : 0 ≤ M.c) {k : List Int} (h : k ∈ keys M) : (k.length : Int) = M.c := ((mem_keys hc).1 h).1
theorem keys_cuts {M : Mk} (hc : 0 ≤ M.c) {k : List Int} (h : k ∈ keys M) : CutsOk M.d k := ((mem_keys hc).1 h).2.1
theorem keys_sorted (M : Mk) : (keys M).Pairwise (fun a b => llt a b = true) := G_sorted _ _

/-! ### there is a key -/
def zig (l n : Nat) : List Int := (List.range n).map fun i => if i < max l 2 then (i : Int) else if (i - max l 2) % 2 = 0 then (max l 2 : Nat) - 2 else (max l 2 : Nat) - 1
def zigOk (c d l : Nat) : Bool := decide (IsK ⟨c, d, 1, 1, l⟩ (zig l c))
theorem zig_all : ((List.range 7).all fun c => (List.range 9).all fun d => (List.range 7).all fun l => if 2 ≤ c ∧ 2 ≤ d ∧ 1 ≤ l ∧ l ≤ c ∧ l ≤ d then zigOk c d l else true) = true := by decide +kernel
theorem keys_ne {M : Mk} (h : M.Ok) : keys M ≠ [] := by
  obtain ⟨h1, h2, h3, h4, h5⟩ := h
  have hz := List.all_eq_true.1 (List.all_eq_true.1 (List.all_eq_true.1 zig_all M.c.toNat (List.mem_range.2 (by omega))) M.d.toNat (List.mem_range.2 (by omega))) M.l.toNat (List.mem_range.2 (by omega))
  rw [if_pos (by omega)] at hz
  have hz : IsK ⟨(M.c.toNat : Nat), (M.d.toNat : Nat), 1, 1, (M.l.toNat : Nat)⟩ (zig M.l.toNat M.c.toNat) := of_decide_eq_true hz
  have e1 : ((M.c.toNat : Nat) : Int) = M.c := by omega
  have e2 : ((M.d.toNat : Nat) : Int) = M.d := by omega
  have e3 : ((M.l.toNat : Nat) : Int) = M.l := by omega
  rw [e1, e2, e3] at hz
  obtain ⟨k1, k2, k3, k4⟩ := hz
  refine List.ne_nil_of_mem ((mem_keys (by omega)).2 ⟨k1, k2, fun i hi => ?_, k4⟩)
  obtain ⟨k5, k6⟩ := k3 i hi
  simp only at k5 k6
  refine ⟨fun h0 => ?_, by omega⟩
  have := k5 h0
  omega

/-! ### visits one behind the other -/
def vis {α : Type} (go : List α → α → Bool) : List α → List α → List α × Bool
  | done, [] => (done, true)
  | done, k :: l => if go done k = true then vis go (done ++ [k]) l else (done ++ [k], false)
section
variable {α : Type} {go : List α → α → Bool}
theorem vis_append (l1 l2 : List α) (done : List α) : vis go done (l1 ++ l2) = if (vis go done l1).2 = true then vis go (vis go done l1).1 l2 else vis go done l1 := by
  induction l1 generalizing done with
  | nil => simp [vis]
  | cons k l ih =>
    simp only [List.cons_append, vis]
    split
    · exact ih _
    · simp
theorem vis_all (l done : List α) : vis (fun _ _ => true) done l = (done ++ l, true) := by
  induction l generalizing done with
  | nil => simp [vis]
  | cons k l ih => simp [vis, ih]
theorem vis_most (n : Nat) (l done : List α) (h : done.length < n) : (vis (fun d _ => decide (d.length + 1 < n)) done l).1 = done ++ l.take (n - done.length) := by
  induction l generalizing done with
  | nil => simp [vis]
  | cons k l ih =>
    simp only [vis, decide_eq_true_eq]
    split
    · rename_i h1
      rw [ih _ (by simpa using h1), List.length_append, List.length_singleton, show n - done.length = (n - (done.length + 1)) + 1 by omega, List.take_succ_cons]
      simp
    · rw [show n - done.length = 0 + 1 by omega, List.take_succ_cons]
      simp
theorem vis_to [DecidableEq α] (k : α) (a b done : List α) (h : k ∉ a) : (vis (fun _ x => !decide (x = k)) done (a ++ k :: b)).1 = done ++ a ++ [k] := by
  induction a generalizing done with
  | nil => simp [vis]
  | cons x a ih =>
    have hx : x ≠ k := fun e => h (by rw [e]; exact List.mem_cons_self ..)
    have hk : k ∉ a := fun e => h (List.mem_cons_of_mem _ e)
    simp only [List.cons_append, vis]
    rw [if_pos (by simp [hx]), ih _ hk]
    simp
end

/-! ### where a key stands -/
section
variable {l a b : List (List Int)} {k : List Int}
theorem mid_above (h : (a ++ k :: b).Pairwise fun x y => llt x y = true) : (a ++ k :: b).filter (llt k) = b := by
  rw [List.pairwise_append, List.pairwise_cons] at h
  obtain ⟨_, ⟨h2, _⟩, h3⟩ := h
  rw [List.filter_append, List.filter_cons, if_neg (by simp [llt_irrefl]), filter_none fun x hx => llt_asymm (h3 x hx k (List.mem_cons_self ..)), filter_all fun x hx => h2 x hx]
  rfl
theorem mid_below (h : (a ++ k :: b).Pairwise fun x y => llt x y = true) : (a ++ k :: b).filter (fun x => llt x k) = a := by
  rw [List.pairwise_append, List.pairwise_cons] at h
  obtain ⟨_, ⟨h2, _⟩, h3⟩ := h
  rw [List.filter_append, List.filter_cons, if_neg (by simp [llt_irrefl]), filter_none (l := b) fun x hx => llt_asymm (h2 x hx), filter_all fun x hx => h3 x hx k (List.mem_cons_self ..)]
  simp
theorem mid_not (h : (a ++ k :: b).Pairwise fun x y => llt x y = true) : k ∉ a := by
  rw [List.pairwise_append] at h
  intro hk
  have := h.2.2 k hk k (List.mem_cons_self ..)
  rw [llt_irrefl] at this
  cases this
theorem mem_split (hk : k ∈ l) : ∃ a b, l = a ++ k :: b := List.append_of_mem hk
theorem get_split {n : Nat} (h : l[n]? = some k) : l = l.take n ++ k :: l.drop (n + 1) := by
  obtain ⟨hn, rfl⟩ := List.getElem?_eq_some_iff.1 h
  rw [List.getElem_cons_drop, List.take_append_drop]
/-- from a key on: itself, and the keys above -/
theorem from_filter (hs : l.Pairwise fun x y => llt x y = true) (hl : ∀ x ∈ l, x.length = k.length) : l.filter (fun x => !llt x k) = (if k ∈ l then [k] else []) ++ l.filter (llt k) := by
  by_cases h : k ∈ l
  · rw [if_pos h]
    obtain ⟨a, b, rfl⟩ := mem_split h
    rw [mid_above hs]
    rw [List.pairwise_append, List.pairwise_cons] at hs
    obtain ⟨_, ⟨h2, _⟩, h3⟩ := hs
    rw [List.filter_append, List.filter_cons, if_pos (by simp [llt_irrefl]), filter_none (l := a) fun x hx => by simp [h3 x hx k (List.mem_cons_self ..)], filter_all fun x hx => by simp [llt_asymm (h2 x hx)]]
    rfl
  · rw [if_neg h, List.nil_append]
    refine List.filter_congr fun x hx => ?_
    have hne : x ≠ k := fun e => h (e ▸ hx)
    cases hx1 : llt x k
    · rw [llt_total (hl x hx) hx1 hne]; rfl
    · rw [llt_asymm hx1]; rfl
end
end Go.Proofs
