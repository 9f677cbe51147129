/-
  No cell of these rows narrows 'for every input' (looked for: loops, veiled, ifaces, maps, wideKeys, modest, calm, conditions, laid).
  DERIVED. THE GIVEN ROWS OF THIS SEAT. 12 by the template 'for every input the law returns true; each argument reads behind the call as it read before'; 0 by the template 'total and deterministic' (their statements: YteolgidmaklbkaaTotals.lean).
  GIVEN WITH THE SEED: the statements are not yours to turn. If you find one false, say at which input.
  Laid BY PROGRAM, IN A SANDBOX (cutbox-rows.mjs): the forced cells as the released guide's own fill.sh prints them over the translation 688fae2de0e8c22f… (all of the seat's roots in one cut). By AI agents, Wed Nov 11 2026. No macro, syntax, notation, axiom, sorry.
-/
import Derived.Test.YteolgidmaklbkaaChecked
import GoSem.Claim
import GoSem.ClaimJoined
import GoSem.ClaimMapViews
import Derived.JoinedTies
import Derived.KernelRfl
namespace Go.Proofs.Yteolgidmaklbkaa
/- THE CELL 'sum', in the pinned program and in every row, IS THE sha256 OF THE DUMP (.gsa) THAT YteolgidmaklbkaaProg.lean LOADS. Nothing in Lean hashes anything: it is a label: what it is worth is what the hold of that sum in a sandbox is worth. -/
noncomputable def Try.pinned : Pinned := { name := "yteolgidmaklbkaa", sum := "688fae2de0e8c22f62e96f94a0f5c4660aaadb55a42fa402b503f5a2d1fbddac", checked := Try.checked }
namespace Rows
def none {H : Type} : Left H := { results := [], args := [] }

/-- 'laws.FnExactDigitsOf': WHATEVER THE INPUT: true; the input reads as it did. -/
def fnExactDigitsOfSpec : ChangeSpec := { name := "fnExactDigitsOf", fn := fun _ => fun
  | [d1, d2] => { results := [.lit (.bool true)], args := [d1, d2] }
  | _ => none }
def fnExactDigitsOfRow : OpenClaim := { program := "yteolgidmaklbkaa", sum := "688fae2de0e8c22f62e96f94a0f5c4660aaadb55a42fa402b503f5a2d1fbddac", func := "loop.example/g00947/laws.FnExactDigitsOf", spec := "fnExactDigitsOf", unfollowed := true, recurses := true, apart := false }
def FnExactDigitsOfSaid : Prop := fnExactDigitsOfRow.holds Try.pinned (OpenSpec.ofChange fnExactDigitsOfSpec)

/-- ITS FALSE NEIGHBOUR: 'it returns false'. Refute it at one input. -/
def fnExactDigitsOfWrong : ChangeSpec := { name := "fnExactDigitsOf", fn := fun _ => fun
  | [d1, d2] => { results := [.lit (.bool false)], args := [d1, d2] }
  | _ => none }
def FnExactDigitsOfWrongFalsely : Prop := fnExactDigitsOfRow.holds Try.pinned (OpenSpec.ofChange fnExactDigitsOfWrong)

/-- 'laws.FnChoices': WHATEVER THE INPUT: true; the input reads as it did. -/
def fnChoicesSpec : ChangeSpec := { name := "fnChoices", fn := fun _ => fun
  | [d] => { results := [.lit (.bool true)], args := [d] }
  | _ => none }
def fnChoicesRow : OpenClaim := { program := "yteolgidmaklbkaa", sum := "688fae2de0e8c22f62e96f94a0f5c4660aaadb55a42fa402b503f5a2d1fbddac", func := "loop.example/g00947/laws.FnChoices", spec := "fnChoices", apart := false }
def FnChoicesSaid : Prop := fnChoicesRow.holds Try.pinned (OpenSpec.ofChange fnChoicesSpec)

/-- ITS FALSE NEIGHBOUR: 'it returns false'. Refute it at one input. -/
def fnChoicesWrong : ChangeSpec := { name := "fnChoices", fn := fun _ => fun
  | [d] => { results := [.lit (.bool false)], args := [d] }
  | _ => none }
def FnChoicesWrongFalsely : Prop := fnChoicesRow.holds Try.pinned (OpenSpec.ofChange fnChoicesWrong)

/-- 'laws.FnDigits': WHATEVER THE INPUT: true; the input reads as it did. -/
def fnDigitsSpec : ChangeSpec := { name := "fnDigits", fn := fun _ => fun
  | [d] => { results := [.lit (.bool true)], args := [d] }
  | _ => none }
def fnDigitsRow : OpenClaim := { program := "yteolgidmaklbkaa", sum := "688fae2de0e8c22f62e96f94a0f5c4660aaadb55a42fa402b503f5a2d1fbddac", func := "loop.example/g00947/laws.FnDigits", spec := "fnDigits", unfollowed := true, recurses := true, apart := false }
def FnDigitsSaid : Prop := fnDigitsRow.holds Try.pinned (OpenSpec.ofChange fnDigitsSpec)

/-- ITS FALSE NEIGHBOUR: 'it returns false'. Refute it at one input. -/
def fnDigitsWrong : ChangeSpec := { name := "fnDigits", fn := fun _ => fun
  | [d] => { results := [.lit (.bool false)], args := [d] }
  | _ => none }
def FnDigitsWrongFalsely : Prop := fnDigitsRow.holds Try.pinned (OpenSpec.ofChange fnDigitsWrong)

/-- 'laws.FnProducts': WHATEVER THE INPUT: true; the input reads as it did. -/
def fnProductsSpec : ChangeSpec := { name := "fnProducts", fn := fun _ => fun
  | [d] => { results := [.lit (.bool true)], args := [d] }
  | _ => none }
def fnProductsRow : OpenClaim := { program := "yteolgidmaklbkaa", sum := "688fae2de0e8c22f62e96f94a0f5c4660aaadb55a42fa402b503f5a2d1fbddac", func := "loop.example/g00947/laws.FnProducts", spec := "fnProducts", apart := false }
def FnProductsSaid : Prop := fnProductsRow.holds Try.pinned (OpenSpec.ofChange fnProductsSpec)

/-- ITS FALSE NEIGHBOUR: 'it returns false'. Refute it at one input. -/
def fnProductsWrong : ChangeSpec := { name := "fnProducts", fn := fun _ => fun
  | [d] => { results := [.lit (.bool false)], args := [d] }
  | _ => none }
def FnProductsWrongFalsely : Prop := fnProductsRow.holds Try.pinned (OpenSpec.ofChange fnProductsWrong)

/-- 'laws.FnExactThickenLock': WHATEVER THE INPUT: true; the input reads as it did. -/
def fnExactThickenLockSpec : ChangeSpec := { name := "fnExactThickenLock", fn := fun _ => fun
  | [d1, d2, d3] => { results := [.lit (.bool true)], args := [d1, d2, d3] }
  | _ => none }
def fnExactThickenLockRow : OpenClaim := { program := "yteolgidmaklbkaa", sum := "688fae2de0e8c22f62e96f94a0f5c4660aaadb55a42fa402b503f5a2d1fbddac", func := "loop.example/g00947/laws.FnExactThickenLock", spec := "fnExactThickenLock", apart := false }
def FnExactThickenLockSaid : Prop := fnExactThickenLockRow.holds Try.pinned (OpenSpec.ofChange fnExactThickenLockSpec)

/-- ITS FALSE NEIGHBOUR: 'it returns false'. Refute it at one input. -/
def fnExactThickenLockWrong : ChangeSpec := { name := "fnExactThickenLock", fn := fun _ => fun
  | [d1, d2, d3] => { results := [.lit (.bool false)], args := [d1, d2, d3] }
  | _ => none }
def FnExactThickenLockWrongFalsely : Prop := fnExactThickenLockRow.holds Try.pinned (OpenSpec.ofChange fnExactThickenLockWrong)

/-- 'laws.FnExactJoinLocks': WHATEVER THE INPUT: true; the input reads as it did. -/
def fnExactJoinLocksSpec : ChangeSpec := { name := "fnExactJoinLocks", fn := fun _ => fun
  | [d1, d2, d3] => { results := [.lit (.bool true)], args := [d1, d2, d3] }
  | _ => none }
def fnExactJoinLocksRow : OpenClaim := { program := "yteolgidmaklbkaa", sum := "688fae2de0e8c22f62e96f94a0f5c4660aaadb55a42fa402b503f5a2d1fbddac", func := "loop.example/g00947/laws.FnExactJoinLocks", spec := "fnExactJoinLocks", unfollowed := true, recurses := true, apart := false }
def FnExactJoinLocksSaid : Prop := fnExactJoinLocksRow.holds Try.pinned (OpenSpec.ofChange fnExactJoinLocksSpec)

/-- ITS FALSE NEIGHBOUR: 'it returns false'. Refute it at one input. -/
def fnExactJoinLocksWrong : ChangeSpec := { name := "fnExactJoinLocks", fn := fun _ => fun
  | [d1, d2, d3] => { results := [.lit (.bool false)], args := [d1, d2, d3] }
  | _ => none }
def FnExactJoinLocksWrongFalsely : Prop := fnExactJoinLocksRow.holds Try.pinned (OpenSpec.ofChange fnExactJoinLocksWrong)

/-- 'laws.FnExactMeetLocks': WHATEVER THE INPUT: true; the input reads as it did. -/
def fnExactMeetLocksSpec : ChangeSpec := { name := "fnExactMeetLocks", fn := fun _ => fun
  | [d1, d2, d3] => { results := [.lit (.bool true)], args := [d1, d2, d3] }
  | _ => none }
def fnExactMeetLocksRow : OpenClaim := { program := "yteolgidmaklbkaa", sum := "688fae2de0e8c22f62e96f94a0f5c4660aaadb55a42fa402b503f5a2d1fbddac", func := "loop.example/g00947/laws.FnExactMeetLocks", spec := "fnExactMeetLocks", unfollowed := true, recurses := true, apart := false }
def FnExactMeetLocksSaid : Prop := fnExactMeetLocksRow.holds Try.pinned (OpenSpec.ofChange fnExactMeetLocksSpec)

/-- ITS FALSE NEIGHBOUR: 'it returns false'. Refute it at one input. -/
def fnExactMeetLocksWrong : ChangeSpec := { name := "fnExactMeetLocks", fn := fun _ => fun
  | [d1, d2, d3] => { results := [.lit (.bool false)], args := [d1, d2, d3] }
  | _ => none }
def FnExactMeetLocksWrongFalsely : Prop := fnExactMeetLocksRow.holds Try.pinned (OpenSpec.ofChange fnExactMeetLocksWrong)

/-- 'laws.FnExactLockOfPins': WHATEVER THE INPUT: true; the input reads as it did. -/
def fnExactLockOfPinsSpec : ChangeSpec := { name := "fnExactLockOfPins", fn := fun _ => fun
  | [d1, d2] => { results := [.lit (.bool true)], args := [d1, d2] }
  | _ => none }
def fnExactLockOfPinsRow : OpenClaim := { program := "yteolgidmaklbkaa", sum := "688fae2de0e8c22f62e96f94a0f5c4660aaadb55a42fa402b503f5a2d1fbddac", func := "loop.example/g00947/laws.FnExactLockOfPins", spec := "fnExactLockOfPins", apart := false }
def FnExactLockOfPinsSaid : Prop := fnExactLockOfPinsRow.holds Try.pinned (OpenSpec.ofChange fnExactLockOfPinsSpec)

/-- ITS FALSE NEIGHBOUR: 'it returns false'. Refute it at one input. -/
def fnExactLockOfPinsWrong : ChangeSpec := { name := "fnExactLockOfPins", fn := fun _ => fun
  | [d1, d2] => { results := [.lit (.bool false)], args := [d1, d2] }
  | _ => none }
def FnExactLockOfPinsWrongFalsely : Prop := fnExactLockOfPinsRow.holds Try.pinned (OpenSpec.ofChange fnExactLockOfPinsWrong)

/-- 'laws.FnExactStockOf': WHATEVER THE INPUT: true; the input reads as it did. -/
def fnExactStockOfSpec : ChangeSpec := { name := "fnExactStockOf", fn := fun _ => fun
  | [d1, d2] => { results := [.lit (.bool true)], args := [d1, d2] }
  | _ => none }
def fnExactStockOfRow : OpenClaim := { program := "yteolgidmaklbkaa", sum := "688fae2de0e8c22f62e96f94a0f5c4660aaadb55a42fa402b503f5a2d1fbddac", func := "loop.example/g00947/laws.FnExactStockOf", spec := "fnExactStockOf", apart := false }
def FnExactStockOfSaid : Prop := fnExactStockOfRow.holds Try.pinned (OpenSpec.ofChange fnExactStockOfSpec)

/-- ITS FALSE NEIGHBOUR: 'it returns false'. Refute it at one input. -/
def fnExactStockOfWrong : ChangeSpec := { name := "fnExactStockOf", fn := fun _ => fun
  | [d1, d2] => { results := [.lit (.bool false)], args := [d1, d2] }
  | _ => none }
def FnExactStockOfWrongFalsely : Prop := fnExactStockOfRow.holds Try.pinned (OpenSpec.ofChange fnExactStockOfWrong)

/-- 'laws.FnFaults': WHATEVER THE INPUT: true; the input reads as it did. -/
def fnFaultsSpec : ChangeSpec := { name := "fnFaults", fn := fun _ => fun
  | [d] => { results := [.lit (.bool true)], args := [d] }
  | _ => none }
def fnFaultsRow : OpenClaim := { program := "yteolgidmaklbkaa", sum := "688fae2de0e8c22f62e96f94a0f5c4660aaadb55a42fa402b503f5a2d1fbddac", func := "loop.example/g00947/laws.FnFaults", spec := "fnFaults", unfollowed := true, recurses := true, apart := false }
def FnFaultsSaid : Prop := fnFaultsRow.holds Try.pinned (OpenSpec.ofChange fnFaultsSpec)

/-- ITS FALSE NEIGHBOUR: 'it returns false'. Refute it at one input. -/
def fnFaultsWrong : ChangeSpec := { name := "fnFaults", fn := fun _ => fun
  | [d] => { results := [.lit (.bool false)], args := [d] }
  | _ => none }
def FnFaultsWrongFalsely : Prop := fnFaultsRow.holds Try.pinned (OpenSpec.ofChange fnFaultsWrong)

/-- 'laws.FnKeys': WHATEVER THE INPUT: true; the input reads as it did. -/
def fnKeysSpec : ChangeSpec := { name := "fnKeys", fn := fun _ => fun
  | [d] => { results := [.lit (.bool true)], args := [d] }
  | _ => none }
def fnKeysRow : OpenClaim := { program := "yteolgidmaklbkaa", sum := "688fae2de0e8c22f62e96f94a0f5c4660aaadb55a42fa402b503f5a2d1fbddac", func := "loop.example/g00947/laws.FnKeys", spec := "fnKeys", unfollowed := true, recurses := true, apart := false }
def FnKeysSaid : Prop := fnKeysRow.holds Try.pinned (OpenSpec.ofChange fnKeysSpec)

/-- ITS FALSE NEIGHBOUR: 'it returns false'. Refute it at one input. -/
def fnKeysWrong : ChangeSpec := { name := "fnKeys", fn := fun _ => fun
  | [d] => { results := [.lit (.bool false)], args := [d] }
  | _ => none }
def FnKeysWrongFalsely : Prop := fnKeysRow.holds Try.pinned (OpenSpec.ofChange fnKeysWrong)

/-- 'laws.FnDistances': WHATEVER THE INPUT: true; the input reads as it did. -/
def fnDistancesSpec : ChangeSpec := { name := "fnDistances", fn := fun _ => fun
  | [d] => { results := [.lit (.bool true)], args := [d] }
  | _ => none }
def fnDistancesRow : OpenClaim := { program := "yteolgidmaklbkaa", sum := "688fae2de0e8c22f62e96f94a0f5c4660aaadb55a42fa402b503f5a2d1fbddac", func := "loop.example/g00947/laws.FnDistances", spec := "fnDistances", recurses := true, apart := false }
def FnDistancesSaid : Prop := fnDistancesRow.holds Try.pinned (OpenSpec.ofChange fnDistancesSpec)

/-- ITS FALSE NEIGHBOUR: 'it returns false'. Refute it at one input. -/
def fnDistancesWrong : ChangeSpec := { name := "fnDistances", fn := fun _ => fun
  | [d] => { results := [.lit (.bool false)], args := [d] }
  | _ => none }
def FnDistancesWrongFalsely : Prop := fnDistancesRow.holds Try.pinned (OpenSpec.ofChange fnDistancesWrong)

/- THE SECOND FORM. 'bulk': how many values and letters a reading holds, each counted each time it is reached (what is shared counts as often as it is met; a slice's spare places count too). A statement '..UptoSaid' is the law's where the arguments, and the package variables that the reading takes, are together of bulk at most 1048576: NARROWER than '..Said'. Prove '..Said' where nothing that the law and all that it calls make is longer than what came in: it says more and counts as full. Else prove '..UptoSaid'. A law counts once. -/
mutual
def uptoBulk {H : Type} : DataW H → Nat
  | .lit (.string bytes) => bytes.length + 1
  | .lit _ => 1
  | .nil => 1
  | .ptr d => uptoBulk d + 1
  | .slice elems spare => uptoBulkAll elems + uptoBulkAll spare + 1
  | .agg parts => uptoBulkAll parts + 1
  | .iface _ d => uptoBulk d + 1
  | .map entries => uptoBulkEntries entries + 1
  | .held _ => 1
def uptoBulkAll {H : Type} : List (DataW H) → Nat
  | [] => 0
  | d :: r => uptoBulk d + uptoBulkAll r
def uptoBulkEntries {H : Type} : List (Lit × DataW H) → Nat
  | [] => 0
  | x :: r => uptoBulkEntry x + uptoBulkEntries r
def uptoBulkEntry {H : Type} : Lit × DataW H → Nat
  | (.string bytes, d) => bytes.length + uptoBulk d + 1
  | (_, d) => uptoBulk d + 1
 end
def uptoSmall : (H : Type) → List (DataW H) → Bool := fun _ ds => decide (uptoBulkAll ds ≤ 1048576)
def OpenSpec.upto (s : _root_.Go.ChangeSpec) : _root_.Go.OpenSpec := { _root_.Go.OpenSpec.ofChange s with cond := some uptoSmall }

/-- 'laws.FnExactDigitsOf', WHERE WHAT IT READS IS OF BULK AT MOST 1048576: true; the input reads as it did. -/
def fnExactDigitsOfUptoRow : OpenClaim := { program := "yteolgidmaklbkaa", sum := "688fae2de0e8c22f62e96f94a0f5c4660aaadb55a42fa402b503f5a2d1fbddac", func := "loop.example/g00947/laws.FnExactDigitsOf", spec := "fnExactDigitsOf", unfollowed := true, recurses := true, apart := false, narrowed := true }
def FnExactDigitsOfUptoSaid : Prop := fnExactDigitsOfUptoRow.holds Try.pinned (OpenSpec.upto fnExactDigitsOfSpec)

/-- 'laws.FnChoices', WHERE WHAT IT READS IS OF BULK AT MOST 1048576: true; the input reads as it did. -/
def fnChoicesUptoRow : OpenClaim := { program := "yteolgidmaklbkaa", sum := "688fae2de0e8c22f62e96f94a0f5c4660aaadb55a42fa402b503f5a2d1fbddac", func := "loop.example/g00947/laws.FnChoices", spec := "fnChoices", apart := false, narrowed := true }
def FnChoicesUptoSaid : Prop := fnChoicesUptoRow.holds Try.pinned (OpenSpec.upto fnChoicesSpec)

/-- 'laws.FnDigits', WHERE WHAT IT READS IS OF BULK AT MOST 1048576: true; the input reads as it did. -/
def fnDigitsUptoRow : OpenClaim := { program := "yteolgidmaklbkaa", sum := "688fae2de0e8c22f62e96f94a0f5c4660aaadb55a42fa402b503f5a2d1fbddac", func := "loop.example/g00947/laws.FnDigits", spec := "fnDigits", unfollowed := true, recurses := true, apart := false, narrowed := true }
def FnDigitsUptoSaid : Prop := fnDigitsUptoRow.holds Try.pinned (OpenSpec.upto fnDigitsSpec)

/-- 'laws.FnProducts', WHERE WHAT IT READS IS OF BULK AT MOST 1048576: true; the input reads as it did. -/
def fnProductsUptoRow : OpenClaim := { program := "yteolgidmaklbkaa", sum := "688fae2de0e8c22f62e96f94a0f5c4660aaadb55a42fa402b503f5a2d1fbddac", func := "loop.example/g00947/laws.FnProducts", spec := "fnProducts", apart := false, narrowed := true }
def FnProductsUptoSaid : Prop := fnProductsUptoRow.holds Try.pinned (OpenSpec.upto fnProductsSpec)

/-- 'laws.FnExactThickenLock', WHERE WHAT IT READS IS OF BULK AT MOST 1048576: true; the input reads as it did. -/
def fnExactThickenLockUptoRow : OpenClaim := { program := "yteolgidmaklbkaa", sum := "688fae2de0e8c22f62e96f94a0f5c4660aaadb55a42fa402b503f5a2d1fbddac", func := "loop.example/g00947/laws.FnExactThickenLock", spec := "fnExactThickenLock", apart := false, narrowed := true }
def FnExactThickenLockUptoSaid : Prop := fnExactThickenLockUptoRow.holds Try.pinned (OpenSpec.upto fnExactThickenLockSpec)

/-- 'laws.FnExactJoinLocks', WHERE WHAT IT READS IS OF BULK AT MOST 1048576: true; the input reads as it did. -/
def fnExactJoinLocksUptoRow : OpenClaim := { program := "yteolgidmaklbkaa", sum := "688fae2de0e8c22f62e96f94a0f5c4660aaadb55a42fa402b503f5a2d1fbddac", func := "loop.example/g00947/laws.FnExactJoinLocks", spec := "fnExactJoinLocks", unfollowed := true, recurses := true, apart := false, narrowed := true }
def FnExactJoinLocksUptoSaid : Prop := fnExactJoinLocksUptoRow.holds Try.pinned (OpenSpec.upto fnExactJoinLocksSpec)

/-- 'laws.FnExactMeetLocks', WHERE WHAT IT READS IS OF BULK AT MOST 1048576: true; the input reads as it did. -/
def fnExactMeetLocksUptoRow : OpenClaim := { program := "yteolgidmaklbkaa", sum := "688fae2de0e8c22f62e96f94a0f5c4660aaadb55a42fa402b503f5a2d1fbddac", func := "loop.example/g00947/laws.FnExactMeetLocks", spec := "fnExactMeetLocks", unfollowed := true, recurses := true, apart := false, narrowed := true }
def FnExactMeetLocksUptoSaid : Prop := fnExactMeetLocksUptoRow.holds Try.pinned (OpenSpec.upto fnExactMeetLocksSpec)

/-- 'laws.FnExactLockOfPins', WHERE WHAT IT READS IS OF BULK AT MOST 1048576: true; the input reads as it did. -/
def fnExactLockOfPinsUptoRow : OpenClaim := { program := "yteolgidmaklbkaa", sum := "688fae2de0e8c22f62e96f94a0f5c4660aaadb55a42fa402b503f5a2d1fbddac", func := "loop.example/g00947/laws.FnExactLockOfPins", spec := "fnExactLockOfPins", apart := false, narrowed := true }
def FnExactLockOfPinsUptoSaid : Prop := fnExactLockOfPinsUptoRow.holds Try.pinned (OpenSpec.upto fnExactLockOfPinsSpec)

/-- 'laws.FnExactStockOf', WHERE WHAT IT READS IS OF BULK AT MOST 1048576: true; the input reads as it did. -/
def fnExactStockOfUptoRow : OpenClaim := { program := "yteolgidmaklbkaa", sum := "688fae2de0e8c22f62e96f94a0f5c4660aaadb55a42fa402b503f5a2d1fbddac", func := "loop.example/g00947/laws.FnExactStockOf", spec := "fnExactStockOf", apart := false, narrowed := true }
def FnExactStockOfUptoSaid : Prop := fnExactStockOfUptoRow.holds Try.pinned (OpenSpec.upto fnExactStockOfSpec)

/-- 'laws.FnFaults', WHERE WHAT IT READS IS OF BULK AT MOST 1048576: true; the input reads as it did. -/
def fnFaultsUptoRow : OpenClaim := { program := "yteolgidmaklbkaa", sum := "688fae2de0e8c22f62e96f94a0f5c4660aaadb55a42fa402b503f5a2d1fbddac", func := "loop.example/g00947/laws.FnFaults", spec := "fnFaults", unfollowed := true, recurses := true, apart := false, narrowed := true }
def FnFaultsUptoSaid : Prop := fnFaultsUptoRow.holds Try.pinned (OpenSpec.upto fnFaultsSpec)

/-- 'laws.FnKeys', WHERE WHAT IT READS IS OF BULK AT MOST 1048576: true; the input reads as it did. -/
def fnKeysUptoRow : OpenClaim := { program := "yteolgidmaklbkaa", sum := "688fae2de0e8c22f62e96f94a0f5c4660aaadb55a42fa402b503f5a2d1fbddac", func := "loop.example/g00947/laws.FnKeys", spec := "fnKeys", unfollowed := true, recurses := true, apart := false, narrowed := true }
def FnKeysUptoSaid : Prop := fnKeysUptoRow.holds Try.pinned (OpenSpec.upto fnKeysSpec)

/-- 'laws.FnDistances', WHERE WHAT IT READS IS OF BULK AT MOST 1048576: true; the input reads as it did. -/
def fnDistancesUptoRow : OpenClaim := { program := "yteolgidmaklbkaa", sum := "688fae2de0e8c22f62e96f94a0f5c4660aaadb55a42fa402b503f5a2d1fbddac", func := "loop.example/g00947/laws.FnDistances", spec := "fnDistances", recurses := true, apart := false, narrowed := true }
def FnDistancesUptoSaid : Prop := fnDistancesUptoRow.holds Try.pinned (OpenSpec.upto fnDistancesSpec)

end Rows
end Go.Proofs.Yteolgidmaklbkaa
