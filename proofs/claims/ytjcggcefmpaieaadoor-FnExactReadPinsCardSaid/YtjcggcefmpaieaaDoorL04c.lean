/- Contracts: what a lock opens for. No condition. -/
import Derived.Test.YtjcggcefmpaieaaDoorL05a
import Derived.Test.YtjcggcefmpaieaaDoorL03a
set_option linter.unusedVariables false
namespace Go.Proofs
open Go.Sx Go.RowKit
def Opn (zss : List (List Int)) (ks : List Int) (k : Nat) : Prop := ∀ i, i < k → ks.getD i 0 ∈ zss.getD i []
instance (zss : List (List Int)) (ks : List Int) (k : Nat) : Decidable (Opn zss ks k) := inferInstanceAs (Decidable (∀ i, i < k → _))
theorem Opn.succ {zss : List (List Int)} {ks : List Int} {k : Nat} (h : Opn zss ks k) (hk : k < ks.length) (hz : k < zss.length) (h1 : ks[k] ∈ zss[k]) : Opn zss ks (k + 1) := by
  intro i hi
  rcases Nat.lt_or_ge i k with h2 | h2
  · exact h i h2
  · have : i = k := by omega
    subst this
    rw [getD_get hk, List.getD, List.getElem?_eq_getElem hz]
    exact h1
theorem Opn.at {zss : List (List Int)} {ks : List Int} {k n : Nat} (h : Opn zss ks n) (hn : k < n) (hk : k < ks.length) (hz : k < zss.length) : ks[k] ∈ zss[k] := by
  have := h k hn
  rwa [getD_get hk, List.getD, List.getElem?_eq_getElem hz] at this
def opCode (c d s m l : Int) (zss : List (List Int)) (ks : List Int) : Int := if LkOk c d s m l zss then (if IsK ⟨c, d, s, m, l⟩ ks then 0 else 2) else 1
def opensR (c d s m l : Int) (zss : List (List Int)) (ks : List Int) : Value := if opCode c d s m l zss ks = 0 then .tuple #[.bool (decide (Opn zss ks ks.length)), .int .i64 0] else .tuple #[.bool false, .int .i64 (opCode c d s m l zss ks)]
theorem opensR_pair (c d s m l : Int) (zss : List (List Int)) (ks : List Int) : ∃ x y, opensR c d s m l zss ks = .tuple #[.bool x, .int .i64 y] := by unfold opensR; split <;> exact ⟨_, _, rfl⟩
theorem opCode_zero {c d s m l : Int} {zss : List (List Int)} {ks : List Int} (h : opCode c d s m l zss ks = 0) : LkOk c d s m l zss ∧ IsK ⟨c, d, s, m, l⟩ ks := by
  unfold opCode at h
  split at h
  · split at h
    · exact ⟨by assumption, by assumption⟩
    · cases h
  · cases h
end Go.Proofs
