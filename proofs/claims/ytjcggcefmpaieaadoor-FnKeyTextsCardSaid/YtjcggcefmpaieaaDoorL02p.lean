/- Keys in plain Lean: the rules, and what the program and the reference count. No condition. -/
import Derived.Test.YtjcggcefmpaieaaDoorL01s
set_option linter.unusedVariables false
namespace Go.Proofs
open Go.Sx Go.RowKit
/-- the numbers are depths -/
def CutsOk (d : Int) (zs : List Int) : Prop := ∀ z ∈ zs, 0 ≤ z ∧ z ≤ d - 1
instance (d : Int) (zs : List Int) : Decidable (CutsOk d zs) := inferInstanceAs (Decidable (∀ z ∈ zs, _ ∧ _))
/-- how many of the first k numbers are new where they stand -/
def kindsTo (zs : List Int) : Nat → Nat
  | 0 => 0
  | k + 1 => kindsTo zs k + if zs.getD k 0 ∈ zs.take k then 0 else 1
def kinds (zs : List Int) : Nat := kindsTo zs zs.length
theorem kindsTo_le (zs : List Int) : ∀ k, kindsTo zs k ≤ k
  | 0 => Nat.le_refl _
  | k + 1 => by have := kindsTo_le zs k; simp only [kindsTo]; split <;> omega
/-- how many numbers up to place i are equal to the one there, without a gap -/
def runAt (zs : List Int) : Nat → Nat
  | 0 => 1
  | i + 1 => if zs.getD (i + 1) 0 = zs.getD i 0 then runAt zs i + 1 else 1
theorem runAt_pos (zs : List Int) (i : Nat) : 1 ≤ runAt zs i := by
  cases i with
  | zero => exact Nat.le_refl _
  | succ i => simp only [runAt]; split <;> omega
theorem runAt_le (zs : List Int) : ∀ i, runAt zs i ≤ i + 1
  | 0 => Nat.le_refl _
  | i + 1 => by have := runAt_le zs i; simp only [runAt]; split <;> omega
theorem runAt_eq (zs : List Int) : ∀ (i r : Nat), 1 ≤ r → r ≤ i + 1 → (∀ j, j < r → zs.getD (i - j) 0 = zs.getD i 0) → (r = i + 1 ∨ zs.getD (i - r) 0 ≠ zs.getD i 0) → runAt zs i = r
  | 0, r, h1, h2, _, _ => by simp only [runAt]; omega
  | i + 1, r, h1, h2, h3, h4 => by
    simp only [runAt]
    rcases Nat.lt_or_ge 1 r with h | h
    · have e1 := h3 1 h
      rw [show i + 1 - 1 = i by omega] at e1
      rw [if_pos e1.symm]
      have := runAt_eq zs i (r - 1) (by omega) (by omega) (fun j hj => ?_) ?_
      · omega
      · have := h3 (j + 1) (by omega)
        rw [show i + 1 - (j + 1) = i - j by omega] at this
        rw [this, e1]
      · rcases h4 with h4 | h4
        · exact .inl (by omega)
        · refine .inr ?_
          rw [show i + 1 - r = i - (r - 1) by omega] at h4
          rw [e1]
          exact h4
    · have hr : r = 1 := by omega
      subst hr
      rcases h4 with h4 | h4
      · omega
      · rw [show i + 1 - 1 = i by omega] at h4
        rw [if_neg (Ne.symm h4)]
theorem runAt_take (zs : List Int) : ∀ (i n : Nat), i < n → runAt (zs.take n) i = runAt zs i
  | 0, n, _ => rfl
  | i + 1, n, h => by
    simp only [runAt]
    rw [runAt_take zs i n (by omega)]
    have e : ∀ j, j < n → (zs.take n).getD j 0 = zs.getD j 0 := fun j hj => by simp [List.getD, List.getElem?_take_of_lt hj]
    rw [e (i + 1) h, e i (by omega)]
def StepAt (s : Int) (zs : List Int) (i : Nat) : Prop := 0 < i → zs.getD i 0 - zs.getD (i - 1) 0 ≤ s ∧ zs.getD (i - 1) 0 - zs.getD i 0 ≤ s
instance (s : Int) (zs : List Int) (i : Nat) : Decidable (StepAt s zs i) := inferInstanceAs (Decidable (_ → _))
def StepsOk (s : Int) (zs : List Int) : Prop := ∀ i, i < zs.length → StepAt s zs i
instance (s : Int) (zs : List Int) : Decidable (StepsOk s zs) := inferInstanceAs (Decidable (∀ i, i < zs.length → _))
def RunsOk (m : Int) (zs : List Int) : Prop := ∀ i, i < zs.length → (runAt zs i : Int) ≤ m
instance (m : Int) (zs : List Int) : Decidable (RunsOk m zs) := inferInstanceAs (Decidable (∀ i, i < zs.length → _))
/-- the first rule that a list does not keep -/
def fault (c d s m l : Int) (zs : List Int) : Int :=
  if (zs.length : Int) = c then if CutsOk d zs then if StepsOk s zs then if RunsOk m zs then if (kinds zs : Int) < l then 5 else 0 else 4 else 3 else 2 else 1
end Go.Proofs
