/- Contracts: equal rows, the key behind given cuts. No condition. -/
import Derived.Test.YtjcggcefmpaieaaDoorL03b
set_option linter.unusedVariables false
namespace Go.Proofs
open Go.Sx Go.RowKit
def nextR (M : Mk) (zs : List Int) : List Int := if MkOk M.c M.d M.s M.m M.l then (if (zs.length : Int) = M.c ∧ CutsOk M.d zs then ((keys M).filter (llt zs)).headD [] else []) else []
def nextCode (M : Mk) (zs : List Int) : Int := if MkOk M.c M.d M.s M.m M.l then (if (zs.length : Int) = M.c ∧ CutsOk M.d zs then (if (keys M).filter (llt zs) = [] then 4 else 0) else 2) else 1
theorem nextR_len (M : Mk) (zs : List Int) : (nextR M zs).length ≤ 1000 := by
  unfold nextR
  split
  · rename_i hm
    split
    · cases hk : (keys M).filter (llt zs) with
      | nil => simp
      | cons k r =>
        have hmem : k ∈ (keys M).filter (llt zs) := by rw [hk]; exact List.mem_cons_self ..
        have := keys_length (M := M) (by have := hm.1; omega) (List.mem_filter.1 hmem).1
        have := hm.1
        simp only [List.headD_cons]
        omega
    · simp
  · simp
section
variable {P F : List (List Int)} {zs : List Int}
theorem next_found (hP : P = [] ∨ P = [zs]) (hF : zs ∉ F) {k : Nat} (hk : k < ((P ++ F).take 2).length) (hpre : ∀ (i : Nat) (hi : i < ((P ++ F).take 2).length), i < k → ((P ++ F).take 2)[i] = zs) (hne : ((P ++ F).take 2)[k] ≠ zs) : ∃ r, F = ((P ++ F).take 2)[k] :: r := by
  rcases hP with rfl | rfl
  · cases F with
    | nil => simp at hk
    | cons f F =>
      match k, hk, hpre, hne with
      | 0, _, _, _ => exact ⟨F, rfl⟩
      | k + 1, hk, hpre, hne =>
        have := hpre 0 (by omega) (by omega)
        exact absurd (by rw [← this]; exact List.mem_cons_self ..) hF
  · match k, hk, hpre, hne with
    | 0, _, _, hne => exact absurd rfl hne
    | k + 1, hk, hpre, hne =>
      cases F with
      | nil => simp at hk
      | cons f F =>
        match k, hk with
        | 0, _ => exact ⟨F, rfl⟩
        | k + 1, hk => simp at hk; omega
theorem next_none (hP : P = [] ∨ P = [zs]) (hF : zs ∉ F) (hall : ∀ (i : Nat) (hi : i < ((P ++ F).take 2).length), ((P ++ F).take 2)[i] = zs) : F = [] := by
  cases F with
  | nil => rfl
  | cons f F =>
    rcases hP with rfl | rfl
    · have : f = zs := hall 0 (by simp)
      exact absurd (by rw [← this]; exact List.mem_cons_self ..) hF
    · have : f = zs := hall 1 (by simp)
      exact absurd (by rw [← this]; exact List.mem_cons_self ..) hF
end
end Go.Proofs
