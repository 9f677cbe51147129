/-
  No cell of these rows narrows 'for every input' (looked for: loops, veiled, ifaces, maps, wideKeys, modest, calm, conditions, laid).
  DERIVED. THE GIVEN ROWS OF THIS SEAT. 10 by the template 'for every input the law returns true; each argument reads behind the call as it read before'; 0 by the template 'total and deterministic' (their statements: YtlppnjnimjbloaaTotals.lean).
  GIVEN WITH THE SEED: the statements are not yours to turn. If you find one false, say at which input.
  Laid BY PROGRAM, IN A SANDBOX (cutbox-rows.mjs): the forced cells as the released guide's own fill.sh prints them over the translation ac7705e114ae3182… (all of the seat's roots in one cut). By AI agents, Wed Nov 11 2026. No macro, syntax, notation, axiom, sorry.
-/
import Derived.Test.YtlppnjnimjbloaaChecked
import GoSem.Claim
import GoSem.ClaimJoined
import GoSem.ClaimMapViews
import Derived.JoinedTies
import Derived.KernelRfl
namespace Go.Proofs.Ytlppnjnimjbloaa
/- THE CELL 'sum', in the pinned program and in every row, IS THE sha256 OF THE DUMP (.gsa) THAT YtlppnjnimjbloaaProg.lean LOADS. Nothing in Lean hashes anything: it is a label: what it is worth is what the hold of that sum in a sandbox is worth. -/
noncomputable def Try.pinned : Pinned := { name := "ytlppnjnimjbloaa", sum := "ac7705e114ae3182e36bdae33f0ca3dd27497342b7b2e92829dc5b79895f9f73", checked := Try.checked }
namespace Rows
def none {H : Type} : Left H := { results := [], args := [] }

/-- 'laws.FnExactCountKeys': WHATEVER THE INPUT: true; the input reads as it did. -/
def fnExactCountKeysSpec : ChangeSpec := { name := "fnExactCountKeys", fn := fun _ => fun
  | [d] => { results := [.lit (.bool true)], args := [d] }
  | _ => none }
def fnExactCountKeysRow : OpenClaim := { program := "ytlppnjnimjbloaa", sum := "ac7705e114ae3182e36bdae33f0ca3dd27497342b7b2e92829dc5b79895f9f73", func := "loop.example/g00947/laws.FnExactCountKeys", spec := "fnExactCountKeys", unfollowed := true, recurses := true, apart := false }
def FnExactCountKeysSaid : Prop := fnExactCountKeysRow.holds Try.pinned (OpenSpec.ofChange fnExactCountKeysSpec)

/-- ITS FALSE NEIGHBOUR: 'it returns false'. Refute it at one input. -/
def fnExactCountKeysWrong : ChangeSpec := { name := "fnExactCountKeys", fn := fun _ => fun
  | [d] => { results := [.lit (.bool false)], args := [d] }
  | _ => none }
def FnExactCountKeysWrongFalsely : Prop := fnExactCountKeysRow.holds Try.pinned (OpenSpec.ofChange fnExactCountKeysWrong)

/-- 'laws.FnExactIsKey': WHATEVER THE INPUT: true; the input reads as it did. -/
def fnExactIsKeySpec : ChangeSpec := { name := "fnExactIsKey", fn := fun _ => fun
  | [d1, d2] => { results := [.lit (.bool true)], args := [d1, d2] }
  | _ => none }
def fnExactIsKeyRow : OpenClaim := { program := "ytlppnjnimjbloaa", sum := "ac7705e114ae3182e36bdae33f0ca3dd27497342b7b2e92829dc5b79895f9f73", func := "loop.example/g00947/laws.FnExactIsKey", spec := "fnExactIsKey", apart := false }
def FnExactIsKeySaid : Prop := fnExactIsKeyRow.holds Try.pinned (OpenSpec.ofChange fnExactIsKeySpec)

/-- ITS FALSE NEIGHBOUR: 'it returns false'. Refute it at one input. -/
def fnExactIsKeyWrong : ChangeSpec := { name := "fnExactIsKey", fn := fun _ => fun
  | [d1, d2] => { results := [.lit (.bool false)], args := [d1, d2] }
  | _ => none }
def FnExactIsKeyWrongFalsely : Prop := fnExactIsKeyRow.holds Try.pinned (OpenSpec.ofChange fnExactIsKeyWrong)

/-- 'laws.FnExactCountCombinations': WHATEVER THE INPUT: true; the input reads as it did. -/
def fnExactCountCombinationsSpec : ChangeSpec := { name := "fnExactCountCombinations", fn := fun _ => fun
  | [d1, d2] => { results := [.lit (.bool true)], args := [d1, d2] }
  | _ => none }
def fnExactCountCombinationsRow : OpenClaim := { program := "ytlppnjnimjbloaa", sum := "ac7705e114ae3182e36bdae33f0ca3dd27497342b7b2e92829dc5b79895f9f73", func := "loop.example/g00947/laws.FnExactCountCombinations", spec := "fnExactCountCombinations", apart := false }
def FnExactCountCombinationsSaid : Prop := fnExactCountCombinationsRow.holds Try.pinned (OpenSpec.ofChange fnExactCountCombinationsSpec)

/-- ITS FALSE NEIGHBOUR: 'it returns false'. Refute it at one input. -/
def fnExactCountCombinationsWrong : ChangeSpec := { name := "fnExactCountCombinations", fn := fun _ => fun
  | [d1, d2] => { results := [.lit (.bool false)], args := [d1, d2] }
  | _ => none }
def FnExactCountCombinationsWrongFalsely : Prop := fnExactCountCombinationsRow.holds Try.pinned (OpenSpec.ofChange fnExactCountCombinationsWrong)

/-- 'laws.FnExactKeyFault': WHATEVER THE INPUT: true; the input reads as it did. -/
def fnExactKeyFaultSpec : ChangeSpec := { name := "fnExactKeyFault", fn := fun _ => fun
  | [d1, d2] => { results := [.lit (.bool true)], args := [d1, d2] }
  | _ => none }
def fnExactKeyFaultRow : OpenClaim := { program := "ytlppnjnimjbloaa", sum := "ac7705e114ae3182e36bdae33f0ca3dd27497342b7b2e92829dc5b79895f9f73", func := "loop.example/g00947/laws.FnExactKeyFault", spec := "fnExactKeyFault", apart := false }
def FnExactKeyFaultSaid : Prop := fnExactKeyFaultRow.holds Try.pinned (OpenSpec.ofChange fnExactKeyFaultSpec)

/-- ITS FALSE NEIGHBOUR: 'it returns false'. Refute it at one input. -/
def fnExactKeyFaultWrong : ChangeSpec := { name := "fnExactKeyFault", fn := fun _ => fun
  | [d1, d2] => { results := [.lit (.bool false)], args := [d1, d2] }
  | _ => none }
def FnExactKeyFaultWrongFalsely : Prop := fnExactKeyFaultRow.holds Try.pinned (OpenSpec.ofChange fnExactKeyFaultWrong)

/-- 'laws.FnExactCountWafers': WHATEVER THE INPUT: true; the input reads as it did. -/
def fnExactCountWafersSpec : ChangeSpec := { name := "fnExactCountWafers", fn := fun _ => fun
  | [d1, d2] => { results := [.lit (.bool true)], args := [d1, d2] }
  | _ => none }
def fnExactCountWafersRow : OpenClaim := { program := "ytlppnjnimjbloaa", sum := "ac7705e114ae3182e36bdae33f0ca3dd27497342b7b2e92829dc5b79895f9f73", func := "loop.example/g00947/laws.FnExactCountWafers", spec := "fnExactCountWafers", apart := false }
def FnExactCountWafersSaid : Prop := fnExactCountWafersRow.holds Try.pinned (OpenSpec.ofChange fnExactCountWafersSpec)

/-- ITS FALSE NEIGHBOUR: 'it returns false'. Refute it at one input. -/
def fnExactCountWafersWrong : ChangeSpec := { name := "fnExactCountWafers", fn := fun _ => fun
  | [d1, d2] => { results := [.lit (.bool false)], args := [d1, d2] }
  | _ => none }
def FnExactCountWafersWrongFalsely : Prop := fnExactCountWafersRow.holds Try.pinned (OpenSpec.ofChange fnExactCountWafersWrong)

/-- 'laws.FnDigits': WHATEVER THE INPUT: true; the input reads as it did. -/
def fnDigitsSpec : ChangeSpec := { name := "fnDigits", fn := fun _ => fun
  | [d] => { results := [.lit (.bool true)], args := [d] }
  | _ => none }
def fnDigitsRow : OpenClaim := { program := "ytlppnjnimjbloaa", sum := "ac7705e114ae3182e36bdae33f0ca3dd27497342b7b2e92829dc5b79895f9f73", func := "loop.example/g00947/laws.FnDigits", spec := "fnDigits", unfollowed := true, recurses := true, apart := false }
def FnDigitsSaid : Prop := fnDigitsRow.holds Try.pinned (OpenSpec.ofChange fnDigitsSpec)

/-- ITS FALSE NEIGHBOUR: 'it returns false'. Refute it at one input. -/
def fnDigitsWrong : ChangeSpec := { name := "fnDigits", fn := fun _ => fun
  | [d] => { results := [.lit (.bool false)], args := [d] }
  | _ => none }
def FnDigitsWrongFalsely : Prop := fnDigitsRow.holds Try.pinned (OpenSpec.ofChange fnDigitsWrong)

/-- 'laws.FnExactFirstKey': WHATEVER THE INPUT: true; the input reads as it did. -/
def fnExactFirstKeySpec : ChangeSpec := { name := "fnExactFirstKey", fn := fun _ => fun
  | [d] => { results := [.lit (.bool true)], args := [d] }
  | _ => none }
def fnExactFirstKeyRow : OpenClaim := { program := "ytlppnjnimjbloaa", sum := "ac7705e114ae3182e36bdae33f0ca3dd27497342b7b2e92829dc5b79895f9f73", func := "loop.example/g00947/laws.FnExactFirstKey", spec := "fnExactFirstKey", unfollowed := true, recurses := true, apart := false }
def FnExactFirstKeySaid : Prop := fnExactFirstKeyRow.holds Try.pinned (OpenSpec.ofChange fnExactFirstKeySpec)

/-- ITS FALSE NEIGHBOUR: 'it returns false'. Refute it at one input. -/
def fnExactFirstKeyWrong : ChangeSpec := { name := "fnExactFirstKey", fn := fun _ => fun
  | [d] => { results := [.lit (.bool false)], args := [d] }
  | _ => none }
def FnExactFirstKeyWrongFalsely : Prop := fnExactFirstKeyRow.holds Try.pinned (OpenSpec.ofChange fnExactFirstKeyWrong)

/-- 'laws.FnExactKeyAt': WHATEVER THE INPUT: true; the input reads as it did. -/
def fnExactKeyAtSpec : ChangeSpec := { name := "fnExactKeyAt", fn := fun _ => fun
  | [d1, d2] => { results := [.lit (.bool true)], args := [d1, d2] }
  | _ => none }
def fnExactKeyAtRow : OpenClaim := { program := "ytlppnjnimjbloaa", sum := "ac7705e114ae3182e36bdae33f0ca3dd27497342b7b2e92829dc5b79895f9f73", func := "loop.example/g00947/laws.FnExactKeyAt", spec := "fnExactKeyAt", unfollowed := true, recurses := true, apart := false }
def FnExactKeyAtSaid : Prop := fnExactKeyAtRow.holds Try.pinned (OpenSpec.ofChange fnExactKeyAtSpec)

/-- ITS FALSE NEIGHBOUR: 'it returns false'. Refute it at one input. -/
def fnExactKeyAtWrong : ChangeSpec := { name := "fnExactKeyAt", fn := fun _ => fun
  | [d1, d2] => { results := [.lit (.bool false)], args := [d1, d2] }
  | _ => none }
def FnExactKeyAtWrongFalsely : Prop := fnExactKeyAtRow.holds Try.pinned (OpenSpec.ofChange fnExactKeyAtWrong)

/-- 'laws.FnExactReadKey': WHATEVER THE INPUT: true; the input reads as it did. -/
def fnExactReadKeySpec : ChangeSpec := { name := "fnExactReadKey", fn := fun _ => fun
  | [d1, d2] => { results := [.lit (.bool true)], args := [d1, d2] }
  | _ => none }
def fnExactReadKeyRow : OpenClaim := { program := "ytlppnjnimjbloaa", sum := "ac7705e114ae3182e36bdae33f0ca3dd27497342b7b2e92829dc5b79895f9f73", func := "loop.example/g00947/laws.FnExactReadKey", spec := "fnExactReadKey", apart := false }
def FnExactReadKeySaid : Prop := fnExactReadKeyRow.holds Try.pinned (OpenSpec.ofChange fnExactReadKeySpec)

/-- ITS FALSE NEIGHBOUR: 'it returns false'. Refute it at one input. -/
def fnExactReadKeyWrong : ChangeSpec := { name := "fnExactReadKey", fn := fun _ => fun
  | [d1, d2] => { results := [.lit (.bool false)], args := [d1, d2] }
  | _ => none }
def FnExactReadKeyWrongFalsely : Prop := fnExactReadKeyRow.holds Try.pinned (OpenSpec.ofChange fnExactReadKeyWrong)

/-- 'laws.FnProducts': WHATEVER THE INPUT: true; the input reads as it did. -/
def fnProductsSpec : ChangeSpec := { name := "fnProducts", fn := fun _ => fun
  | [d] => { results := [.lit (.bool true)], args := [d] }
  | _ => none }
def fnProductsRow : OpenClaim := { program := "ytlppnjnimjbloaa", sum := "ac7705e114ae3182e36bdae33f0ca3dd27497342b7b2e92829dc5b79895f9f73", func := "loop.example/g00947/laws.FnProducts", spec := "fnProducts", apart := false }
def FnProductsSaid : Prop := fnProductsRow.holds Try.pinned (OpenSpec.ofChange fnProductsSpec)

/-- ITS FALSE NEIGHBOUR: 'it returns false'. Refute it at one input. -/
def fnProductsWrong : ChangeSpec := { name := "fnProducts", fn := fun _ => fun
  | [d] => { results := [.lit (.bool false)], args := [d] }
  | _ => none }
def FnProductsWrongFalsely : Prop := fnProductsRow.holds Try.pinned (OpenSpec.ofChange fnProductsWrong)

/- THE SECOND FORM. 'bulk': how many values and letters a reading holds, each counted each time it is reached (what is shared counts as often as it is met; a slice's spare places count too). A statement '..UptoSaid' is the law's where the arguments, and the package variables that the reading takes, are together of bulk at most 1048576: NARROWER than '..Said'. Prove '..Said' where nothing that the law and all that it calls make is longer than what came in: it says more and counts as full. Else prove '..UptoSaid'. A law counts once. -/
mutual
def uptoBulk {H : Type} : DataW H → Nat
  | .lit (.string bytes) => bytes.length + 1
  | .lit _ => 1
  | .nil => 1
  | .ptr d => uptoBulk d + 1
  | .slice elems spare => uptoBulkAll elems + uptoBulkAll spare + 1
  | .agg parts => uptoBulkAll parts + 1
  | .iface _ d => uptoBulk d + 1
  | .map entries => uptoBulkEntries entries + 1
  | .held _ => 1
def uptoBulkAll {H : Type} : List (DataW H) → Nat
  | [] => 0
  | d :: r => uptoBulk d + uptoBulkAll r
def uptoBulkEntries {H : Type} : List (Lit × DataW H) → Nat
  | [] => 0
  | x :: r => uptoBulkEntry x + uptoBulkEntries r
def uptoBulkEntry {H : Type} : Lit × DataW H → Nat
  | (.string bytes, d) => bytes.length + uptoBulk d + 1
  | (_, d) => uptoBulk d + 1
 end
def uptoSmall : (H : Type) → List (DataW H) → Bool := fun _ ds => decide (uptoBulkAll ds ≤ 1048576)
def OpenSpec.upto (s : _root_.Go.ChangeSpec) : _root_.Go.OpenSpec := { _root_.Go.OpenSpec.ofChange s with cond := some uptoSmall }

/-- 'laws.FnExactCountKeys', WHERE WHAT IT READS IS OF BULK AT MOST 1048576: true; the input reads as it did. -/
def fnExactCountKeysUptoRow : OpenClaim := { program := "ytlppnjnimjbloaa", sum := "ac7705e114ae3182e36bdae33f0ca3dd27497342b7b2e92829dc5b79895f9f73", func := "loop.example/g00947/laws.FnExactCountKeys", spec := "fnExactCountKeys", unfollowed := true, recurses := true, apart := false, narrowed := true }
def FnExactCountKeysUptoSaid : Prop := fnExactCountKeysUptoRow.holds Try.pinned (OpenSpec.upto fnExactCountKeysSpec)

/-- 'laws.FnExactIsKey', WHERE WHAT IT READS IS OF BULK AT MOST 1048576: true; the input reads as it did. -/
def fnExactIsKeyUptoRow : OpenClaim := { program := "ytlppnjnimjbloaa", sum := "ac7705e114ae3182e36bdae33f0ca3dd27497342b7b2e92829dc5b79895f9f73", func := "loop.example/g00947/laws.FnExactIsKey", spec := "fnExactIsKey", apart := false, narrowed := true }
def FnExactIsKeyUptoSaid : Prop := fnExactIsKeyUptoRow.holds Try.pinned (OpenSpec.upto fnExactIsKeySpec)

/-- 'laws.FnExactCountCombinations', WHERE WHAT IT READS IS OF BULK AT MOST 1048576: true; the input reads as it did. -/
def fnExactCountCombinationsUptoRow : OpenClaim := { program := "ytlppnjnimjbloaa", sum := "ac7705e114ae3182e36bdae33f0ca3dd27497342b7b2e92829dc5b79895f9f73", func := "loop.example/g00947/laws.FnExactCountCombinations", spec := "fnExactCountCombinations", apart := false, narrowed := true }
def FnExactCountCombinationsUptoSaid : Prop := fnExactCountCombinationsUptoRow.holds Try.pinned (OpenSpec.upto fnExactCountCombinationsSpec)

/-- 'laws.FnExactKeyFault', WHERE WHAT IT READS IS OF BULK AT MOST 1048576: true; the input reads as it did. -/
def fnExactKeyFaultUptoRow : OpenClaim := { program := "ytlppnjnimjbloaa", sum := "ac7705e114ae3182e36bdae33f0ca3dd27497342b7b2e92829dc5b79895f9f73", func := "loop.example/g00947/laws.FnExactKeyFault", spec := "fnExactKeyFault", apart := false, narrowed := true }
def FnExactKeyFaultUptoSaid : Prop := fnExactKeyFaultUptoRow.holds Try.pinned (OpenSpec.upto fnExactKeyFaultSpec)

/-- 'laws.FnExactCountWafers', WHERE WHAT IT READS IS OF BULK AT MOST 1048576: true; the input reads as it did. -/
def fnExactCountWafersUptoRow : OpenClaim := { program := "ytlppnjnimjbloaa", sum := "ac7705e114ae3182e36bdae33f0ca3dd27497342b7b2e92829dc5b79895f9f73", func := "loop.example/g00947/laws.FnExactCountWafers", spec := "fnExactCountWafers", apart := false, narrowed := true }
def FnExactCountWafersUptoSaid : Prop := fnExactCountWafersUptoRow.holds Try.pinned (OpenSpec.upto fnExactCountWafersSpec)

/-- 'laws.FnDigits', WHERE WHAT IT READS IS OF BULK AT MOST 1048576: true; the input reads as it did. -/
def fnDigitsUptoRow : OpenClaim := { program := "ytlppnjnimjbloaa", sum := "ac7705e114ae3182e36bdae33f0ca3dd27497342b7b2e92829dc5b79895f9f73", func := "loop.example/g00947/laws.FnDigits", spec := "fnDigits", unfollowed := true, recurses := true, apart := false, narrowed := true }
def FnDigitsUptoSaid : Prop := fnDigitsUptoRow.holds Try.pinned (OpenSpec.upto fnDigitsSpec)

/-- 'laws.FnExactFirstKey', WHERE WHAT IT READS IS OF BULK AT MOST 1048576: true; the input reads as it did. -/
def fnExactFirstKeyUptoRow : OpenClaim := { program := "ytlppnjnimjbloaa", sum := "ac7705e114ae3182e36bdae33f0ca3dd27497342b7b2e92829dc5b79895f9f73", func := "loop.example/g00947/laws.FnExactFirstKey", spec := "fnExactFirstKey", unfollowed := true, recurses := true, apart := false, narrowed := true }
def FnExactFirstKeyUptoSaid : Prop := fnExactFirstKeyUptoRow.holds Try.pinned (OpenSpec.upto fnExactFirstKeySpec)

/-- 'laws.FnExactKeyAt', WHERE WHAT IT READS IS OF BULK AT MOST 1048576: true; the input reads as it did. -/
def fnExactKeyAtUptoRow : OpenClaim := { program := "ytlppnjnimjbloaa", sum := "ac7705e114ae3182e36bdae33f0ca3dd27497342b7b2e92829dc5b79895f9f73", func := "loop.example/g00947/laws.FnExactKeyAt", spec := "fnExactKeyAt", unfollowed := true, recurses := true, apart := false, narrowed := true }
def FnExactKeyAtUptoSaid : Prop := fnExactKeyAtUptoRow.holds Try.pinned (OpenSpec.upto fnExactKeyAtSpec)

/-- 'laws.FnExactReadKey', WHERE WHAT IT READS IS OF BULK AT MOST 1048576: true; the input reads as it did. -/
def fnExactReadKeyUptoRow : OpenClaim := { program := "ytlppnjnimjbloaa", sum := "ac7705e114ae3182e36bdae33f0ca3dd27497342b7b2e92829dc5b79895f9f73", func := "loop.example/g00947/laws.FnExactReadKey", spec := "fnExactReadKey", apart := false, narrowed := true }
def FnExactReadKeyUptoSaid : Prop := fnExactReadKeyUptoRow.holds Try.pinned (OpenSpec.upto fnExactReadKeySpec)

/-- 'laws.FnProducts', WHERE WHAT IT READS IS OF BULK AT MOST 1048576: true; the input reads as it did. -/
def fnProductsUptoRow : OpenClaim := { program := "ytlppnjnimjbloaa", sum := "ac7705e114ae3182e36bdae33f0ca3dd27497342b7b2e92829dc5b79895f9f73", func := "loop.example/g00947/laws.FnProducts", spec := "fnProducts", apart := false, narrowed := true }
def FnProductsUptoSaid : Prop := fnProductsUptoRow.holds Try.pinned (OpenSpec.upto fnProductsSpec)

end Rows
end Go.Proofs.Ytlppnjnimjbloaa
