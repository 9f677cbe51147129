/- Keys in order, in plain Lean: what follows a key, and its rank. No condition. -/
import Derived.Test.YtccekkkiaebnmaaL03c
import Derived.Test.YtccekkkiaebnmaaL03d
import Derived.Test.YtccekkkiaebnmaaL02e
set_option linter.unusedVariables false
namespace Go.Proofs
open Go.Sx Go.RowKit
theorem knext_last {M : Mk} (hm : MkOk M.c M.d M.s M.m M.l) {j : Nat} (hj : j < (keys M).length) (hl : (keys M).length ≤ j + 1) : nextCode M (keys M)[j] = 4 := by
  have hmem : (keys M)[j] ∈ keys M := List.getElem_mem _
  have hc := hm.1
  have hlen := keys_length (M := M) (by omega) hmem
  have hcut := keys_cuts (M := M) (by omega) hmem
  have e := keys_next (M := M) (j := j) (by omega) (by omega)
  rw [above_zero M _ hlen, List.drop_eq_nil_of_le hl] at e
  unfold nextCode
  rw [if_pos hm, if_pos ⟨hlen, hcut⟩, if_pos e]
theorem knext_more {M : Mk} (hm : MkOk M.c M.d M.s M.m M.l) {j : Nat} (hj : j + 1 < (keys M).length) : nextR M (keys M)[j] = (keys M)[j + 1] ∧ nextCode M (keys M)[j] = 0 := by
  have hmem : (keys M)[j] ∈ keys M := List.getElem_mem _
  have hc := hm.1
  have hlen := keys_length (M := M) (by omega) hmem
  have hcut := keys_cuts (M := M) (by omega) hmem
  have e := keys_next (M := M) (j := j) (by omega) (by omega)
  rw [above_zero M _ hlen, List.drop_eq_getElem_cons hj] at e
  unfold nextR nextCode
  rw [if_pos hm, if_pos hm, if_pos ⟨hlen, hcut⟩, if_pos ⟨hlen, hcut⟩, e]
  exact ⟨rfl, if_neg (List.cons_ne_nil _ _)⟩
theorem rank_at {M : Mk} {j : Nat} (hj : j < (keys M).length) : rankOf M (keys M)[j] = j := by
  have hs := get_split (List.getElem?_eq_getElem hj)
  have hp := keys_sorted M
  rw [hs] at hp
  have e := mid_below hp
  rw [← hs] at e
  unfold rankOf
  rw [e]
  simp
  omega
theorem rankR_at {M : Mk} (hm : MkOk M.c M.d M.s M.m M.l) {j : Nat} (hj : j < (keys M).length) : rankR M (keys M)[j] = .tuple #[.int .i64 (j : Int), .int .i64 0] := by
  have hmem : (keys M)[j] ∈ keys M := List.getElem_mem _
  have hc := hm.1
  have hk : kCode M [(keys M)[j]] = 0 := kCode_ok hm (by simp only [List.mem_cons, List.not_mem_nil, or_false, forall_eq]; exact (mem_keys (by omega)).1 hmem)
  unfold rankR
  rw [if_pos hk, rank_at hj]
theorem keyAt_at {M : Mk} (hm : MkOk M.c M.d M.s M.m M.l) {j : Nat} (hj : j < (keys M).length) : keyAt M j = (keys M)[j] ∧ keyAtCode M j = 0 := by
  have e : keyAtO M j = some (keys M)[j] := by
    unfold keyAtO
    rw [if_pos (by omega), Int.toNat_natCast, List.getElem?_eq_getElem hj]
  unfold keyAt keyAtCode
  rw [if_pos hm, if_pos hm, e]
  exact ⟨rfl, rfl⟩
theorem keyAt_ok {M : Mk} {n : Int} (h : keyAtCode M n = 0) : MkOk M.c M.d M.s M.m M.l ∧ ∃ j : Nat, n = j ∧ j < (keys M).length := by
  unfold keyAtCode at h
  split at h
  · rename_i hm
    split at h
    · rename_i hs
      unfold keyAtO at hs
      split at hs
      · refine ⟨hm, n.toNat, by omega, ?_⟩
        rcases Nat.lt_or_ge n.toNat (keys M).length with h1 | h1
        · exact h1
        · rw [List.getElem?_eq_none h1] at hs; cases hs
      · cases hs
    · cases h
  · cases h
end Go.Proofs
