/- Contracts: what a lock opens for. No condition. -/
import Derived.Test.YteolgidmaklbkaaL05a
import Derived.Test.YteolgidmaklbkaaL03a
set_option linter.unusedVariables false
namespace Go.Proofs
open Go.Sx Go.RowKit
def Opn (zss : List (List Int)) (ks : List Int) (k : Nat) : Prop := ∀ i, i < k → ks.getD i 0 ∈ zss.getD i []
instance (zss : List (List Int)) (ks : List Int) (k : Nat) : Decidable (Opn zss ks k) := inferInstanceAs (Decidable (∀ i, i < k → _))
theorem Opn.succ {zss : List (List Int)} {ks : List Int} {k : Nat} (h : Opn zss ks k) (hk : k < ks.length) (hz : k < zss.length) (h1 : ks[k] ∈ zss[k]) : Opn zss ks (k + 1) := by
  intro i hi
  rcases Nat.lt_or_ge i k with h2 | h2
  · exact h i h2
  · have : i = k := by omega
    subst this
    rw [getD_get hk, List.getD, List.getElem?_eq_getElem hz]
    exact h1
theorem Opn.at {zss : List (List Int)} {ks : List Int} {k n : Nat} (h : Opn zss ks n) (hn : k < n) (hk : k < ks.length) (hz : k < zss.length) : ks[k] ∈ zss[k] := by
  have := h k hn
  rwa [getD_get hk, List.getD, List.getElem?_eq_getElem hz] at this
end Go.Proofs
