/- Keys in plain Lean: a key read backwards is a key, the nearest key is another one, and the keys by their difference. No condition. -/
import Derived.Test.YtccekkkiaebnmaaL03e
import Derived.Test.YtccekkkiaebnmaaL03f
set_option linter.unusedVariables false
namespace Go.Proofs
open Go.Sx Go.RowKit
/-! ### runs -/
theorem runAt_all : ∀ (zs : List Int) (i r : Nat), r ≤ runAt zs i → ∀ j, j < r → zs.getD (i - j) 0 = zs.getD i 0
  | zs, 0, r, h, j, hj => by rw [Nat.zero_sub]
  | zs, i + 1, r, h, j, hj => by
    simp only [runAt] at h
    split at h
    · rename_i he
      cases j with
      | zero => rfl
      | succ j =>
        have := runAt_all zs i (r - 1) (by omega) j (by omega)
        rw [show i + 1 - (j + 1) = i - j by omega, this, he]
    · have : j = 0 := by omega
      subst this
      rfl
theorem runAt_of : ∀ (zs : List Int) (i r : Nat), r ≤ i + 1 → (∀ j, j < r → zs.getD (i - j) 0 = zs.getD i 0) → r ≤ runAt zs i
  | zs, 0, r, h, _ => by simp only [runAt]; omega
  | zs, i + 1, r, h, hw => by
    simp only [runAt]
    rcases Nat.lt_or_ge 1 r with h1 | h1
    · have e1 := hw 1 h1
      rw [show i + 1 - 1 = i by omega] at e1
      rw [if_pos e1.symm]
      have := runAt_of zs i (r - 1) (by omega) fun j hj => by
        have := hw (j + 1) (by omega)
        rw [show i + 1 - (j + 1) = i - j by omega] at this
        rw [this, e1]
      omega
    · split
      · have := runAt_pos zs i; omega
      · omega
theorem rev_getD {zs : List Int} {i : Nat} (h : i < zs.length) : zs.reverse.getD i 0 = zs.getD (zs.length - 1 - i) 0 := by
  rw [getD_get (by simpa using h), getD_get (by omega), List.getElem_reverse]
theorem runAt_rev {zs : List Int} {m : Nat} (h : ∀ i, i < zs.length → runAt zs i ≤ m) : ∀ i, i < zs.reverse.length → runAt zs.reverse i ≤ m := by
  intro i hi
  rw [List.length_reverse] at hi
  rcases Nat.lt_or_ge m (runAt zs.reverse i) with h1 | h1
  · exfalso
    have hle := runAt_le zs.reverse i
    have hall := runAt_all zs.reverse i (m + 1) (by omega)
    -- the window ends at n - 1 - i + m
    have hk : zs.length - 1 - i + m < zs.length := by omega
    have key : ∀ j, j ≤ m → zs.getD (zs.length - 1 - i + j) 0 = zs.getD (zs.length - 1 - i) 0 := by
      intro j hj
      have := hall j (by omega)
      rw [rev_getD (by omega), rev_getD hi] at this
      rwa [show zs.length - 1 - (i - j) = zs.length - 1 - i + j by omega] at this
    have := runAt_of zs (zs.length - 1 - i + m) (m + 1) (by omega) fun j hj => by
      rw [show zs.length - 1 - i + m - j = zs.length - 1 - i + (m - j) by omega, key _ (by omega), key m (by omega)]
    have := h _ hk
    omega
  · exact h1
/-! ### kinds -/
theorem count_one {p : Int → Bool} {x : Int} (hp : p x = false) : ∀ {l : List Int}, l.Nodup → x ∈ l → (l.filter fun y => p y || y == x).length = (l.filter p).length + 1
  | [], _, hx => absurd hx (by simp)
  | y :: l, hn, hx => by
    rw [List.nodup_cons] at hn
    by_cases hy : y = x
    · subst hy
      have e : l.filter (fun z => p z || z == y) = l.filter p := by
        apply List.filter_congr
        intro z hz
        have : (z == y) = false := by
          have : z ≠ y := fun e => hn.1 (e ▸ hz)
          simpa using this
        rw [this, Bool.or_false]
      rw [List.filter_cons_of_pos (by simp), List.filter_cons_of_neg (by simp [hp]), e]
      rfl
    · have hx' : x ∈ l := by
        rcases List.mem_cons.1 hx with h | h
        · exact absurd h.symm hy
        · exact h
      have ih := count_one hp hn.2 hx'
      cases hpy : p y
      · rw [List.filter_cons_of_neg (by simp [hpy, hy]), List.filter_cons_of_neg (by simp [hpy])]
        exact ih
      · rw [List.filter_cons_of_pos (by simp [hpy]), List.filter_cons_of_pos (by simp [hpy])]
        simp only [List.length_cons]
        omega
theorem kindsTo_count {d : Int} {zs : List Int} (h : CutsOk d zs) : ∀ k, k ≤ zs.length → kindsTo zs k = ((ups d).filter fun y => decide (y ∈ zs.take k)).length
  | 0, _ => by
    have : (ups d).filter (fun y => decide (y ∈ zs.take 0)) = [] := List.filter_eq_nil_iff.2 (by simp)
    rw [this]; rfl
  | k + 1, hk => by
    have hz := h.get (k := k) (by omega)
    simp only [kindsTo]
    rw [kindsTo_count h k (by omega), getD_get (by omega)]
    have hm : zs[k] ∈ ups d := mem_upFrom.2 (by omega)
    have hnd : (ups d).Nodup := (upFrom_sorted 0 d.toNat).imp fun h => by omega
    have e : ∀ y, y ∈ zs.take (k + 1) ↔ (y ∈ zs.take k ∨ y = zs[k]) := fun y => by rw [take_snoc zs k (by omega), List.mem_append, List.mem_singleton]
    by_cases hin : zs[k] ∈ zs.take k
    · rw [if_pos hin, Nat.add_zero]
      congr 1
      apply List.filter_congr
      intro y _
      simp only [e]
      by_cases hy : y ∈ zs.take k
      · simp [hy]
      · have : y ≠ zs[k] := fun e => hy (e ▸ hin)
        simp [hy, this]
    · rw [if_neg hin, ← count_one (p := fun y => decide (y ∈ zs.take k)) (by simpa using hin) hnd hm]
      congr 1
      apply List.filter_congr
      intro y _
      simp only [e]
      by_cases hy : y ∈ zs.take k
      · simp [hy]
      · by_cases he : y = zs[k]
        · simp [he]
        · simp [hy, he]
theorem kinds_rev {d : Int} {zs : List Int} (h : CutsOk d zs) : kinds zs.reverse = kinds zs := by
  have h' : CutsOk d zs.reverse := fun z hz => h z (List.mem_reverse.1 hz)
  unfold kinds
  rw [kindsTo_count h _ (Nat.le_refl _), kindsTo_count h' _ (Nat.le_refl _), List.take_of_length_le (Nat.le_refl _), List.take_of_length_le (Nat.le_refl _)]
  congr 1
  apply List.filter_congr
  intro y _
  simp
theorem rev_isK {M : Mk} (hm : M.Ok) {zs : List Int} (h : IsK M zs) : IsK M zs.reverse := by
  obtain ⟨h1, h2, h3, h4⟩ := h
  have hmm := hm.2.2.2.1
  have hr := runAt_rev (zs := zs) (m := M.m.toNat) fun i hi => by have := (h3 i hi).2; omega
  refine ⟨by rw [List.length_reverse]; exact h1, fun z hz => h2 z (List.mem_reverse.1 hz), fun i hi => ⟨fun h0 => ?_, by have := hr i hi; omega⟩, by rw [kinds_rev h2]; exact h4⟩
  rw [List.length_reverse] at hi
  rw [rev_getD hi, rev_getD (by omega)]
  have := (h3 (zs.length - 1 - (i - 1)) (by omega)).1 (by omega)
  rw [show zs.length - 1 - (i - 1) - 1 = zs.length - 1 - i by omega] at this
  omega
/-! ### the nearest key -/
theorem nearF_ne {ks : List Int} (h : ks ≠ []) (l : List (List Int)) : nearF ks l ≠ ks := by
  have gen : ∀ (l : List (List Int)) (a : List Int), a ≠ ks → l.foldl (nearS ks) a ≠ ks := by
    intro l
    induction l with
    | nil => intro a ha; exact ha
    | cons k l ih =>
      intro a ha
      rw [List.foldl_cons]
      refine ih _ ?_
      unfold nearS
      split
      · rename_i hk; exact hk.1
      · exact ha
  exact gen l [] (Ne.symm h)
/-! ### keys by their difference -/
def nearTo (ks : List Int) (d : Int) (l : List (List Int)) : Int := ((l.filter fun k => decide (dOf ks k < d)).length : Int)
theorem nearTo_succ (ks : List Int) (d : Int) : ∀ l, nearTo ks (d + 1) l = nearTo ks d l + near ks d l
  | [] => by simp [nearTo, near]
  | k :: l => by
    have ih := nearTo_succ ks d l
    unfold nearTo near at *
    rcases Int.lt_trichotomy (dOf ks k) d with h | h | h
    · rw [List.filter_cons_of_pos (by simp; omega), List.filter_cons_of_pos (by simpa using h), List.filter_cons_of_neg (by simp; omega)]
      simp only [List.length_cons]
      omega
    · rw [List.filter_cons_of_pos (by simp; omega), List.filter_cons_of_neg (by simp; omega), List.filter_cons_of_pos (by simpa using h)]
      simp only [List.length_cons]
      omega
    · rw [List.filter_cons_of_neg (by simp; omega), List.filter_cons_of_neg (by simp; omega), List.filter_cons_of_neg (by simp; omega)]
      exact ih
theorem dOf_range (ks k : List Int) : 0 ≤ dOf ks k ∧ dOf ks k ≤ ks.length := diffTo_range ks k ks.length
theorem nearTo_zero (ks : List Int) (l : List (List Int)) : nearTo ks 0 l = 0 := by
  unfold nearTo
  rw [List.filter_eq_nil_iff.2]
  · rfl
  · intro k _
    have := (dOf_range ks k).1
    simp; omega
theorem nearTo_all {ks : List Int} {d : Int} (h : (ks.length : Int) < d) (l : List (List Int)) : nearTo ks d l = l.length := by
  unfold nearTo
  rw [List.filter_eq_self.2]
  intro k _
  have := (dOf_range ks k).2
  simp; omega
theorem nearTo_le (ks : List Int) (d : Int) (l : List (List Int)) : 0 ≤ nearTo ks d l ∧ nearTo ks d l ≤ l.length := by
  have := List.length_filter_le (fun k => decide (dOf ks k < d)) l
  unfold nearTo
  omega
end Go.Proofs
