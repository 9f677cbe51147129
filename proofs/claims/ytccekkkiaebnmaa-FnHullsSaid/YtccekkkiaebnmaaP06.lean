/- A column sorted and compacted is the set of its numbers. Plain Lean. No condition. -/
import Derived.Test.YtccekkkiaebnmaaL04h
import Derived.Lib.SlicesCompact
set_option linter.unusedVariables false
namespace Go.Proofs
open Go.Sx Go.RowKit Go.Lib
theorem comp_mem (d : Array Int) : ∀ m x, x ∈ compactUpTo d m ↔ ∃ j, j < m ∧ d[j]! = x
  | 0, x => by simp [compactUpTo]
  | m + 1, x => by
    rw [compactUpTo_succ, List.mem_append, comp_mem d m x]
    constructor
    · rintro (⟨j, hj, h⟩ | h)
      · exact ⟨j, by omega, h⟩
      · split at h
        · exact ⟨m, by omega, (List.mem_singleton.1 h).symm⟩
        · cases h
    · rintro ⟨j, hj, h⟩
      rcases Nat.lt_or_ge j m with hjm | hjm
      · exact .inl ⟨j, hjm, h⟩
      · have : j = m := by omega
        subst this
        by_cases hk : keeps d j = true
        · right
          rw [if_pos hk]
          exact List.mem_singleton.2 h.symm
        · left
          have hk' : ¬ (j = 0 ∨ d[j]! ≠ d[j - 1]!) := fun hh => hk (decide_eq_true hh)
          refine ⟨j - 1, by omega, ?_⟩
          rw [← h]
          exact (Classical.not_not.1 fun hne => hk' (.inr hne)).symm
theorem comp_sorted {d : Array Int} (hs : ∀ i j, i ≤ j → j < d.size → d[i]! ≤ d[j]!) : ∀ m, m ≤ d.size → (compactUpTo d m).Pairwise (· < ·)
  | 0, _ => by simp [compactUpTo]
  | m + 1, hm => by
    rw [compactUpTo_succ, List.pairwise_append]
    refine ⟨comp_sorted hs m (by omega), by split <;> simp, fun x hx y hy => ?_⟩
    split at hy
    · rename_i hk
      have hy := List.mem_singleton.1 hy
      subst hy
      obtain ⟨j, hj, rfl⟩ := (comp_mem d m x).1 hx
      have hk : m = 0 ∨ d[m]! ≠ d[m - 1]! := of_decide_eq_true hk
      have h1 := hs j (m - 1) (by omega) (by omega)
      have h2 := hs (m - 1) m (by omega) (by omega)
      rcases hk with hk | hk
      · omega
      · omega
    · cases hy
/-- sorted -/
def srt (zs : List Int) : List Int := zs.mergeSort fun x y => decide (x ≤ y)
theorem srt_length (zs : List Int) : (srt zs).length = zs.length := List.length_mergeSort _
theorem srt_mem (zs : List Int) (x : Int) : x ∈ srt zs ↔ x ∈ zs := List.mem_mergeSort
theorem srt_sorted (zs : List Int) : (srt zs).Pairwise fun x y => x ≤ y := by
  have := List.pairwise_mergeSort (le := fun x y : Int => decide (x ≤ y)) (fun a b c h1 h2 => by simp only [decide_eq_true_iff] at *; omega) (fun a b => by simp only [Bool.or_eq_true, decide_eq_true_iff]; omega) zs
  exact this.imp fun h => of_decide_eq_true h
/-- sorted and compacted -/
def cset (zs : List Int) : List Int := compactUpTo (srt zs).toArray (srt zs).length
theorem cset_mem (zs : List Int) (x : Int) : x ∈ cset zs ↔ x ∈ zs := by
  unfold cset
  rw [comp_mem, ← srt_mem zs x]
  constructor
  · rintro ⟨j, hj, rfl⟩
    rw [getElem!_pos _ j (by simpa using hj)]
    exact List.getElem_mem _
  · intro h
    obtain ⟨j, hj, rfl⟩ := List.getElem_of_mem h
    exact ⟨j, hj, by rw [getElem!_pos _ j (by simpa using hj)]; rfl⟩
theorem cset_sorted (zs : List Int) : (cset zs).Pairwise (· < ·) := by
  refine comp_sorted (fun i j hij hj => ?_) _ (by simp)
  have hj' : j < (srt zs).length := by simpa using hj
  have hi' : i < (srt zs).length := by omega
  rw [getElem!_pos _ i (by simpa using hi'), getElem!_pos _ j (by simpa using hj')]
  rcases Nat.lt_or_ge i j with h | h
  · exact List.pairwise_iff_getElem.1 (srt_sorted zs) i j hi' hj' h
  · have : i = j := by omega
    subst this
    exact Int.le_refl _
/-- the set of a column -/
theorem cset_col {d : Int} {zss : List (List Int)} {i : Nat} (h : ∀ z ∈ zss, 0 ≤ z.getD i 0 ∧ z.getD i 0 ≤ d - 1) : cset (zss.map fun z => z.getD i 0) = filt (pH zss i) d.toNat := by
  have hm : ∀ x, x ∈ cset (zss.map fun z => z.getD i 0) ↔ pH zss i x = true := by
    intro x
    rw [cset_mem, List.mem_map]
    unfold pH
    rw [List.any_eq_true]
    constructor
    · rintro ⟨z, hz, rfl⟩
      exact ⟨z, hz, by simp⟩
    · rintro ⟨z, hz, hx⟩
      exact ⟨z, hz, of_decide_eq_true hx⟩
  have := up_filter d.toNat 0 (cset (zss.map fun z => z.getD i 0)) (cset_sorted _) fun x hx => by
    rw [cset_mem, List.mem_map] at hx
    obtain ⟨z, hz, rfl⟩ := hx
    have := h z hz
    omega
  rw [← this]
  unfold filt
  refine List.filter_congr fun x _ => ?_
  rw [Bool.eq_iff_iff, decide_eq_true_iff, hm]
end Go.Proofs
