/- Contracts: the rank of a key. No condition. -/
import Derived.Test.YtjcggcefmpaieaaDoorL03c
set_option linter.unusedVariables false
namespace Go.Proofs
open Go.Sx Go.RowKit
def rankOf (M : Mk) (ks : List Int) : Int := (((keys M).filter fun k => llt k ks).length : Int)
def rankR (M : Mk) (ks : List Int) : Value := if kCode M [ks] = 0 then .tuple #[.int .i64 (rankOf M ks), .int .i64 0] else .tuple #[.int .i64 0, .int .i64 (kCode M [ks])]
theorem rankR_pair (M : Mk) (ks : List Int) : ∃ x y, rankR M ks = .tuple #[.int .i64 x, .int .i64 y] := by unfold rankR; split <;> exact ⟨_, _, rfl⟩
/-! ### the program -/
def cnt (ks : List Int) (done : List (List Int)) : Int := ((done.filter fun k => decide (k ≠ ks)).length : Int)
theorem cnt_same {ks : List Int} (done : List (List Int)) : cnt ks (done ++ [ks]) = cnt ks done := by simp [cnt]
theorem cnt_other {ks k : List Int} (h : k ≠ ks) (done : List (List Int)) : cnt ks (done ++ [k]) = cnt ks done + 1 := by simp [cnt, h]
theorem cnt_le (ks : List Int) (done : List (List Int)) : 0 ≤ cnt ks done ∧ cnt ks done ≤ done.length := by
  have := List.length_filter_le (fun k => decide (k ≠ ks)) done
  unfold cnt
  omega
theorem cnt_not {ks : List Int} {a : List (List Int)} (h : ks ∉ a) : cnt ks a = a.length := by
  unfold cnt
  rw [List.filter_eq_self.2]
  intro k hk
  exact decide_eq_true fun e => h (e ▸ hk)
def rankJ (wb : World) (b0 b1 : Nat) (kv : Value) (ks : List Int) : (Nat → Prop) → List (List Int) → World → Prop := fun K done w =>
  ¬ K b0 ∧ ¬ K b1 ∧ (∀ b, b < wb.heap.size → ¬ K b) ∧ Ext wb w ∧ w.heap[b0]? = some (.cells #[kv] 24 (0, 0)) ∧ w.heap[b1]? = some (.cells #[.int .i64 (cnt ks done)] 2 (0, 0))
end Go.Proofs
