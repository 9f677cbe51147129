/- Contracts: the key with a rank, the key with a text. No condition. -/
import Derived.Test.YtjcggcefmpaieaaDoorL02d
set_option linter.unusedVariables false
namespace Go.Proofs
open Go.Sx Go.RowKit
def vlen : Value → Nat
  | .slice _ n _ => n
  | _ => 0
theorem Rd.vlen {w : World} {v : Value} {xs : List Value} (h : Rd w v xs) : Go.Proofs.vlen v = xs.length := by
  obtain ⟨a, c, rfl, _⟩ := h
  rfl
def keyAtO (M : Mk) (r : Int) : Option (List Int) := if 0 ≤ r then (keys M)[r.toNat]? else none
def keyAt (M : Mk) (r : Int) : List Int := if MkOk M.c M.d M.s M.m M.l then (keyAtO M r).getD [] else []
def keyAtCode (M : Mk) (r : Int) : Int := if MkOk M.c M.d M.s M.m M.l then (if (keyAtO M r).isSome then 0 else 4) else 1
theorem keyAt_len (M : Mk) (r : Int) : (keyAt M r).length ≤ 1000 := by
  unfold keyAt
  split
  · rename_i hm
    cases hk : keyAtO M r with
    | none => simp
    | some k =>
      unfold keyAtO at hk
      split at hk
      · have := keys_length (M := M) (by have := hm.1; omega) (List.mem_of_getElem? hk)
        have := hm.1
        simp only [Option.getD_some]
        omega
      · cases hk
  · simp

/-! ### the reference -/
/-- the keys of the cuts from x on of the next chamber -/
def onward (M : Mk) (n : Nat) (p : List Int) (x : Int) : List (List Int) := (upFrom x (M.d - x).toNat).flatMap fun y => GA M n (p ++ [y])
theorem onward_zero (M : Mk) (n : Nat) (p : List Int) : onward M n p 0 = GA M (n + 1) p := by
  rw [GA_succ]
  unfold onward ups
  rw [Int.sub_zero]
theorem onward_step {M : Mk} {n : Nat} {p : List Int} {x : Int} (h : x < M.d) : onward M n p x = GA M n (p ++ [x]) ++ onward M n p (x + 1) := by
  unfold onward
  rw [show (M.d - x).toNat = (M.d - (x + 1)).toNat + 1 by omega, upFrom_cons, List.flatMap_cons]
theorem onward_end {M : Mk} {n : Nat} {p : List Int} {x : Int} (h : M.d ≤ x) : onward M n p x = [] := by
  unfold onward
  rw [show (M.d - x).toNat = 0 by omega]
  rfl
end Go.Proofs
