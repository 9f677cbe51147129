/- Keys and distances in plain Lean: mirrored keys are keys, distances are symmetric and kept by mirroring. No condition. -/
import Derived.Test.YteolgidmaklbkaaL03a
set_option linter.unusedVariables false
namespace Go.Proofs
open Go.Sx Go.RowKit
theorem getD_map {f : Int → Int} {zs : List Int} {k : Nat} (h : k < zs.length) : (zs.map f).getD k 0 = f (zs.getD k 0) := by
  simp [List.getD, List.getElem?_eq_getElem h]
theorem kindsTo_map {f : Int → Int} (hf : ∀ a b, f a = f b → a = b) (zs : List Int) : ∀ k, k ≤ zs.length → kindsTo (zs.map f) k = kindsTo zs k
  | 0, _ => rfl
  | k + 1, h => by
    simp only [kindsTo]
    rw [kindsTo_map hf zs k (by omega), getD_map (by omega), ← List.map_take]
    congr 1
    by_cases hm : zs.getD k 0 ∈ zs.take k
    · rw [if_pos hm, if_pos (List.mem_map_of_mem hm)]
    · rw [if_neg hm, if_neg]
      intro hm'
      obtain ⟨a, ha, he⟩ := List.mem_map.1 hm'
      exact hm (hf _ _ he ▸ ha)
theorem runAt_map {f : Int → Int} (hf : ∀ a b, f a = f b → a = b) (zs : List Int) : ∀ i, i < zs.length → runAt (zs.map f) i = runAt zs i
  | 0, _ => rfl
  | i + 1, h => by
    simp only [runAt]
    rw [runAt_map hf zs i (by omega), getD_map (by omega), getD_map (by omega)]
    by_cases he : zs.getD (i + 1) 0 = zs.getD i 0
    · rw [if_pos he, if_pos (by rw [he])]
    · rw [if_neg he, if_neg fun h => he (hf _ _ h)]
theorem mirror_inj (d a b : Int) (h : d - 1 - a = d - 1 - b) : a = b := by omega
theorem mirror_length (d : Int) (zs : List Int) : (mirror d zs).length = zs.length := by simp [mirror]
theorem mirror_isK {M : Mk} {zs : List Int} (h : IsK M zs) : IsK M (mirror M.d zs) := by
  obtain ⟨h1, h2, h3, h4⟩ := h
  refine ⟨by rw [mirror_length]; exact h1, fun z hz => ?_, fun i hi => ?_, ?_⟩
  · obtain ⟨x, hx, rfl⟩ := List.mem_map.1 hz
    have := h2 x hx
    omega
  · rw [mirror_length] at hi
    obtain ⟨h5, h6⟩ := h3 i hi
    refine ⟨fun h0 => ?_, ?_⟩
    · have := h5 h0
      unfold mirror
      rw [getD_map hi, getD_map (by omega)]
      omega
    · unfold mirror
      rw [runAt_map (mirror_inj M.d) zs i hi]
      exact h6
  · unfold kinds
    rw [mirror_length]
    unfold mirror
    rw [kindsTo_map (mirror_inj M.d) zs _ (Nat.le_refl _)]
    exact h4
theorem farTo_symm (a b : List Int) : ∀ k, farTo a b k = farTo b a k
  | 0 => rfl
  | k + 1 => by
    simp only [farTo]
    rw [farTo_symm a b k]
    omega
theorem farTo_mirror (d : Int) (a b : List Int) : ∀ k, k ≤ a.length → k ≤ b.length → farTo (mirror d a) (mirror d b) k = farTo a b k
  | 0, _, _ => rfl
  | k + 1, h1, h2 => by
    simp only [farTo]
    rw [farTo_mirror d a b k (by omega) (by omega)]
    unfold mirror
    rw [getD_map (by omega), getD_map (by omega)]
    omega
theorem diff_le_far (a b : List Int) : ∀ k, diffTo a b k ≤ farTo a b k
  | 0 => Int.le_refl _
  | k + 1 => by
    have := diff_le_far a b k
    simp only [diffTo, farTo]
    split <;> omega
theorem diff_zero (a b : List Int) : ∀ k, diffTo a b k = 0 ↔ ∀ i, i < k → a.getD i 0 = b.getD i 0
  | 0 => ⟨fun _ i hi => absurd hi (Nat.not_lt_zero i), fun _ => rfl⟩
  | k + 1 => by
    have ih := diff_zero a b k
    have := (diffTo_range a b k).1
    simp only [diffTo]
    constructor
    · intro h i hi
      by_cases he : a.getD k 0 = b.getD k 0
      · rw [if_neg (by simpa using he)] at h
        rcases Nat.lt_or_ge i k with h1 | h1
        · exact ih.1 h i h1
        · have : i = k := by omega
          subst this; exact he
      · rw [if_pos he] at h
        omega
    · intro h
      rw [if_neg (by simpa using h k (by omega))]
      exact ih.2 fun i hi => h i (by omega)
theorem diff_same {a b : List Int} (hl : a.length = b.length) : diffTo a b a.length = 0 ↔ a = b := by
  rw [diff_zero]
  constructor
  · intro h
    apply List.ext_getElem hl
    intro i h1 h2
    have := h i h1
    rwa [getD_get h1, getD_get h2] at this
  · rintro rfl i _
    rfl
theorem kCode_swap (M : Mk) (a b : List Int) (h : kCode M [a, b] = 0) : kCode M [b, a] = 0 := by
  obtain ⟨hm, hk⟩ := kCode_zero h
  exact kCode_ok hm (by simp only [List.mem_cons, List.not_mem_nil, or_false, forall_eq_or_imp, forall_eq]; exact ⟨hk b (by simp), hk a (by simp)⟩)
theorem kCode_both {M : Mk} {a b : List Int} (h : kCode M [a, b] = 0) : kCode M [a] = 0 ∧ kCode M [b] = 0 := by
  obtain ⟨hm, hk⟩ := kCode_zero h
  exact ⟨kCode_ok hm (by simp only [List.mem_cons, List.not_mem_nil, or_false, forall_eq]; exact hk a (by simp)), kCode_ok hm (by simp only [List.mem_cons, List.not_mem_nil, or_false, forall_eq]; exact hk b (by simp))⟩
theorem kCode_mirror {M : Mk} {a b : List Int} (h : kCode M [a, b] = 0) : kCode M [mirror M.d a, mirror M.d b] = 0 := by
  obtain ⟨hm, hk⟩ := kCode_zero h
  exact kCode_ok hm (by simp only [List.mem_cons, List.not_mem_nil, or_false, forall_eq_or_imp, forall_eq]; exact ⟨mirror_isK (hk a (by simp)), mirror_isK (hk b (by simp))⟩)
end Go.Proofs
