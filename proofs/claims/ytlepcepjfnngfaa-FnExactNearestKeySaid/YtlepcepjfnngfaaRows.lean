/-
  No cell of these rows narrows 'for every input' (looked for: loops, veiled, ifaces, maps, wideKeys, modest, calm, conditions, laid).
  DERIVED. THE GIVEN ROWS OF THIS SEAT. 11 by the template 'for every input the law returns true; each argument reads behind the call as it read before'; 0 by the template 'total and deterministic' (their statements: YtlepcepjfnngfaaTotals.lean).
  GIVEN WITH THE SEED: the statements are not yours to turn. If you find one false, say at which input.
  Laid BY PROGRAM, IN A SANDBOX (cutbox-rows.mjs): the forced cells as the released guide's own fill.sh prints them over the translation 191632659c75b2d3… (all of the seat's roots in one cut). By AI agents, Wed Nov 11 2026. No macro, syntax, notation, axiom, sorry.
-/
import Derived.Test.YtlepcepjfnngfaaChecked
import GoSem.Claim
import GoSem.ClaimJoined
import GoSem.ClaimMapViews
import Derived.JoinedTies
import Derived.KernelRfl
namespace Go.Proofs.Ytlepcepjfnngfaa
/- THE CELL 'sum', in the pinned program and in every row, IS THE sha256 OF THE DUMP (.gsa) THAT YtlepcepjfnngfaaProg.lean LOADS. Nothing in Lean hashes anything: it is a label: what it is worth is what the hold of that sum in a sandbox is worth. -/
noncomputable def Try.pinned : Pinned := { name := "ytlepcepjfnngfaa", sum := "191632659c75b2d3e709699f889785ee2332f1e0709f5e0ed85b04a7af3ebd88", checked := Try.checked }
namespace Rows
def none {H : Type} : Left H := { results := [], args := [] }

/-- 'laws.FnExactKeysNear': WHATEVER THE INPUT: true; the input reads as it did. -/
def fnExactKeysNearSpec : ChangeSpec := { name := "fnExactKeysNear", fn := fun _ => fun
  | [d1, d2, d3] => { results := [.lit (.bool true)], args := [d1, d2, d3] }
  | _ => none }
def fnExactKeysNearRow : OpenClaim := { program := "ytlepcepjfnngfaa", sum := "191632659c75b2d3e709699f889785ee2332f1e0709f5e0ed85b04a7af3ebd88", func := "loop.example/g00947/laws.FnExactKeysNear", spec := "fnExactKeysNear", unfollowed := true, recurses := true, apart := false }
def FnExactKeysNearSaid : Prop := fnExactKeysNearRow.holds Try.pinned (OpenSpec.ofChange fnExactKeysNearSpec)

/-- ITS FALSE NEIGHBOUR: 'it returns false'. Refute it at one input. -/
def fnExactKeysNearWrong : ChangeSpec := { name := "fnExactKeysNear", fn := fun _ => fun
  | [d1, d2, d3] => { results := [.lit (.bool false)], args := [d1, d2, d3] }
  | _ => none }
def FnExactKeysNearWrongFalsely : Prop := fnExactKeysNearRow.holds Try.pinned (OpenSpec.ofChange fnExactKeysNearWrong)

/-- 'laws.FnExactRankOf': WHATEVER THE INPUT: true; the input reads as it did. -/
def fnExactRankOfSpec : ChangeSpec := { name := "fnExactRankOf", fn := fun _ => fun
  | [d1, d2] => { results := [.lit (.bool true)], args := [d1, d2] }
  | _ => none }
def fnExactRankOfRow : OpenClaim := { program := "ytlepcepjfnngfaa", sum := "191632659c75b2d3e709699f889785ee2332f1e0709f5e0ed85b04a7af3ebd88", func := "loop.example/g00947/laws.FnExactRankOf", spec := "fnExactRankOf", unfollowed := true, recurses := true, apart := false }
def FnExactRankOfSaid : Prop := fnExactRankOfRow.holds Try.pinned (OpenSpec.ofChange fnExactRankOfSpec)

/-- ITS FALSE NEIGHBOUR: 'it returns false'. Refute it at one input. -/
def fnExactRankOfWrong : ChangeSpec := { name := "fnExactRankOf", fn := fun _ => fun
  | [d1, d2] => { results := [.lit (.bool false)], args := [d1, d2] }
  | _ => none }
def FnExactRankOfWrongFalsely : Prop := fnExactRankOfRow.holds Try.pinned (OpenSpec.ofChange fnExactRankOfWrong)

/-- 'laws.FnExactLockOfPins': WHATEVER THE INPUT: true; the input reads as it did. -/
def fnExactLockOfPinsSpec : ChangeSpec := { name := "fnExactLockOfPins", fn := fun _ => fun
  | [d1, d2] => { results := [.lit (.bool true)], args := [d1, d2] }
  | _ => none }
def fnExactLockOfPinsRow : OpenClaim := { program := "ytlepcepjfnngfaa", sum := "191632659c75b2d3e709699f889785ee2332f1e0709f5e0ed85b04a7af3ebd88", func := "loop.example/g00947/laws.FnExactLockOfPins", spec := "fnExactLockOfPins", apart := false }
def FnExactLockOfPinsSaid : Prop := fnExactLockOfPinsRow.holds Try.pinned (OpenSpec.ofChange fnExactLockOfPinsSpec)

/-- ITS FALSE NEIGHBOUR: 'it returns false'. Refute it at one input. -/
def fnExactLockOfPinsWrong : ChangeSpec := { name := "fnExactLockOfPins", fn := fun _ => fun
  | [d1, d2] => { results := [.lit (.bool false)], args := [d1, d2] }
  | _ => none }
def FnExactLockOfPinsWrongFalsely : Prop := fnExactLockOfPinsRow.holds Try.pinned (OpenSpec.ofChange fnExactLockOfPinsWrong)

/-- 'laws.FnExactStockOf': WHATEVER THE INPUT: true; the input reads as it did. -/
def fnExactStockOfSpec : ChangeSpec := { name := "fnExactStockOf", fn := fun _ => fun
  | [d1, d2] => { results := [.lit (.bool true)], args := [d1, d2] }
  | _ => none }
def fnExactStockOfRow : OpenClaim := { program := "ytlepcepjfnngfaa", sum := "191632659c75b2d3e709699f889785ee2332f1e0709f5e0ed85b04a7af3ebd88", func := "loop.example/g00947/laws.FnExactStockOf", spec := "fnExactStockOf", apart := false }
def FnExactStockOfSaid : Prop := fnExactStockOfRow.holds Try.pinned (OpenSpec.ofChange fnExactStockOfSpec)

/-- ITS FALSE NEIGHBOUR: 'it returns false'. Refute it at one input. -/
def fnExactStockOfWrong : ChangeSpec := { name := "fnExactStockOf", fn := fun _ => fun
  | [d1, d2] => { results := [.lit (.bool false)], args := [d1, d2] }
  | _ => none }
def FnExactStockOfWrongFalsely : Prop := fnExactStockOfRow.holds Try.pinned (OpenSpec.ofChange fnExactStockOfWrong)

/-- 'laws.FnExactOpens': WHATEVER THE INPUT: true; the input reads as it did. -/
def fnExactOpensSpec : ChangeSpec := { name := "fnExactOpens", fn := fun _ => fun
  | [d1, d2, d3] => { results := [.lit (.bool true)], args := [d1, d2, d3] }
  | _ => none }
def fnExactOpensRow : OpenClaim := { program := "ytlepcepjfnngfaa", sum := "191632659c75b2d3e709699f889785ee2332f1e0709f5e0ed85b04a7af3ebd88", func := "loop.example/g00947/laws.FnExactOpens", spec := "fnExactOpens", apart := false }
def FnExactOpensSaid : Prop := fnExactOpensRow.holds Try.pinned (OpenSpec.ofChange fnExactOpensSpec)

/-- ITS FALSE NEIGHBOUR: 'it returns false'. Refute it at one input. -/
def fnExactOpensWrong : ChangeSpec := { name := "fnExactOpens", fn := fun _ => fun
  | [d1, d2, d3] => { results := [.lit (.bool false)], args := [d1, d2, d3] }
  | _ => none }
def FnExactOpensWrongFalsely : Prop := fnExactOpensRow.holds Try.pinned (OpenSpec.ofChange fnExactOpensWrong)

/-- 'laws.FnExactNearestKey': WHATEVER THE INPUT: true; the input reads as it did. -/
def fnExactNearestKeySpec : ChangeSpec := { name := "fnExactNearestKey", fn := fun _ => fun
  | [d1, d2] => { results := [.lit (.bool true)], args := [d1, d2] }
  | _ => none }
def fnExactNearestKeyRow : OpenClaim := { program := "ytlepcepjfnngfaa", sum := "191632659c75b2d3e709699f889785ee2332f1e0709f5e0ed85b04a7af3ebd88", func := "loop.example/g00947/laws.FnExactNearestKey", spec := "fnExactNearestKey", unfollowed := true, recurses := true, apart := false }
def FnExactNearestKeySaid : Prop := fnExactNearestKeyRow.holds Try.pinned (OpenSpec.ofChange fnExactNearestKeySpec)

/-- ITS FALSE NEIGHBOUR: 'it returns false'. Refute it at one input. -/
def fnExactNearestKeyWrong : ChangeSpec := { name := "fnExactNearestKey", fn := fun _ => fun
  | [d1, d2] => { results := [.lit (.bool false)], args := [d1, d2] }
  | _ => none }
def FnExactNearestKeyWrongFalsely : Prop := fnExactNearestKeyRow.holds Try.pinned (OpenSpec.ofChange fnExactNearestKeyWrong)

/-- 'laws.FnExactOpenersOf': WHATEVER THE INPUT: true; the input reads as it did. -/
def fnExactOpenersOfSpec : ChangeSpec := { name := "fnExactOpenersOf", fn := fun _ => fun
  | [d1, d2, d3] => { results := [.lit (.bool true)], args := [d1, d2, d3] }
  | _ => none }
def fnExactOpenersOfRow : OpenClaim := { program := "ytlepcepjfnngfaa", sum := "191632659c75b2d3e709699f889785ee2332f1e0709f5e0ed85b04a7af3ebd88", func := "loop.example/g00947/laws.FnExactOpenersOf", spec := "fnExactOpenersOf", unfollowed := true, recurses := true, apart := false }
def FnExactOpenersOfSaid : Prop := fnExactOpenersOfRow.holds Try.pinned (OpenSpec.ofChange fnExactOpenersOfSpec)

/-- ITS FALSE NEIGHBOUR: 'it returns false'. Refute it at one input. -/
def fnExactOpenersOfWrong : ChangeSpec := { name := "fnExactOpenersOf", fn := fun _ => fun
  | [d1, d2, d3] => { results := [.lit (.bool false)], args := [d1, d2, d3] }
  | _ => none }
def FnExactOpenersOfWrongFalsely : Prop := fnExactOpenersOfRow.holds Try.pinned (OpenSpec.ofChange fnExactOpenersOfWrong)

/-- 'laws.FnFaults': WHATEVER THE INPUT: true; the input reads as it did. -/
def fnFaultsSpec : ChangeSpec := { name := "fnFaults", fn := fun _ => fun
  | [d] => { results := [.lit (.bool true)], args := [d] }
  | _ => none }
def fnFaultsRow : OpenClaim := { program := "ytlepcepjfnngfaa", sum := "191632659c75b2d3e709699f889785ee2332f1e0709f5e0ed85b04a7af3ebd88", func := "loop.example/g00947/laws.FnFaults", spec := "fnFaults", unfollowed := true, recurses := true, apart := false }
def FnFaultsSaid : Prop := fnFaultsRow.holds Try.pinned (OpenSpec.ofChange fnFaultsSpec)

/-- ITS FALSE NEIGHBOUR: 'it returns false'. Refute it at one input. -/
def fnFaultsWrong : ChangeSpec := { name := "fnFaults", fn := fun _ => fun
  | [d] => { results := [.lit (.bool false)], args := [d] }
  | _ => none }
def FnFaultsWrongFalsely : Prop := fnFaultsRow.holds Try.pinned (OpenSpec.ofChange fnFaultsWrong)

/-- 'laws.FnKeys': WHATEVER THE INPUT: true; the input reads as it did. -/
def fnKeysSpec : ChangeSpec := { name := "fnKeys", fn := fun _ => fun
  | [d] => { results := [.lit (.bool true)], args := [d] }
  | _ => none }
def fnKeysRow : OpenClaim := { program := "ytlepcepjfnngfaa", sum := "191632659c75b2d3e709699f889785ee2332f1e0709f5e0ed85b04a7af3ebd88", func := "loop.example/g00947/laws.FnKeys", spec := "fnKeys", unfollowed := true, recurses := true, apart := false }
def FnKeysSaid : Prop := fnKeysRow.holds Try.pinned (OpenSpec.ofChange fnKeysSpec)

/-- ITS FALSE NEIGHBOUR: 'it returns false'. Refute it at one input. -/
def fnKeysWrong : ChangeSpec := { name := "fnKeys", fn := fun _ => fun
  | [d] => { results := [.lit (.bool false)], args := [d] }
  | _ => none }
def FnKeysWrongFalsely : Prop := fnKeysRow.holds Try.pinned (OpenSpec.ofChange fnKeysWrong)

/-- 'laws.FnDistances': WHATEVER THE INPUT: true; the input reads as it did. -/
def fnDistancesSpec : ChangeSpec := { name := "fnDistances", fn := fun _ => fun
  | [d] => { results := [.lit (.bool true)], args := [d] }
  | _ => none }
def fnDistancesRow : OpenClaim := { program := "ytlepcepjfnngfaa", sum := "191632659c75b2d3e709699f889785ee2332f1e0709f5e0ed85b04a7af3ebd88", func := "loop.example/g00947/laws.FnDistances", spec := "fnDistances", recurses := true, apart := false }
def FnDistancesSaid : Prop := fnDistancesRow.holds Try.pinned (OpenSpec.ofChange fnDistancesSpec)

/-- ITS FALSE NEIGHBOUR: 'it returns false'. Refute it at one input. -/
def fnDistancesWrong : ChangeSpec := { name := "fnDistances", fn := fun _ => fun
  | [d] => { results := [.lit (.bool false)], args := [d] }
  | _ => none }
def FnDistancesWrongFalsely : Prop := fnDistancesRow.holds Try.pinned (OpenSpec.ofChange fnDistancesWrong)

/-- 'laws.FnMeetings': WHATEVER THE INPUT: true; the input reads as it did. -/
def fnMeetingsSpec : ChangeSpec := { name := "fnMeetings", fn := fun _ => fun
  | [d] => { results := [.lit (.bool true)], args := [d] }
  | _ => none }
def fnMeetingsRow : OpenClaim := { program := "ytlepcepjfnngfaa", sum := "191632659c75b2d3e709699f889785ee2332f1e0709f5e0ed85b04a7af3ebd88", func := "loop.example/g00947/laws.FnMeetings", spec := "fnMeetings", unfollowed := true, recurses := true, apart := false }
def FnMeetingsSaid : Prop := fnMeetingsRow.holds Try.pinned (OpenSpec.ofChange fnMeetingsSpec)

/-- ITS FALSE NEIGHBOUR: 'it returns false'. Refute it at one input. -/
def fnMeetingsWrong : ChangeSpec := { name := "fnMeetings", fn := fun _ => fun
  | [d] => { results := [.lit (.bool false)], args := [d] }
  | _ => none }
def FnMeetingsWrongFalsely : Prop := fnMeetingsRow.holds Try.pinned (OpenSpec.ofChange fnMeetingsWrong)

/- THE SECOND FORM. 'bulk': how many values and letters a reading holds, each counted each time it is reached (what is shared counts as often as it is met; a slice's spare places count too). A statement '..UptoSaid' is the law's where the arguments, and the package variables that the reading takes, are together of bulk at most 1048576: NARROWER than '..Said'. Prove '..Said' where nothing that the law and all that it calls make is longer than what came in: it says more and counts as full. Else prove '..UptoSaid'. A law counts once. -/
mutual
def uptoBulk {H : Type} : DataW H → Nat
  | .lit (.string bytes) => bytes.length + 1
  | .lit _ => 1
  | .nil => 1
  | .ptr d => uptoBulk d + 1
  | .slice elems spare => uptoBulkAll elems + uptoBulkAll spare + 1
  | .agg parts => uptoBulkAll parts + 1
  | .iface _ d => uptoBulk d + 1
  | .map entries => uptoBulkEntries entries + 1
  | .held _ => 1
def uptoBulkAll {H : Type} : List (DataW H) → Nat
  | [] => 0
  | d :: r => uptoBulk d + uptoBulkAll r
def uptoBulkEntries {H : Type} : List (Lit × DataW H) → Nat
  | [] => 0
  | x :: r => uptoBulkEntry x + uptoBulkEntries r
def uptoBulkEntry {H : Type} : Lit × DataW H → Nat
  | (.string bytes, d) => bytes.length + uptoBulk d + 1
  | (_, d) => uptoBulk d + 1
 end
def uptoSmall : (H : Type) → List (DataW H) → Bool := fun _ ds => decide (uptoBulkAll ds ≤ 1048576)
def OpenSpec.upto (s : _root_.Go.ChangeSpec) : _root_.Go.OpenSpec := { _root_.Go.OpenSpec.ofChange s with cond := some uptoSmall }

/-- 'laws.FnExactKeysNear', WHERE WHAT IT READS IS OF BULK AT MOST 1048576: true; the input reads as it did. -/
def fnExactKeysNearUptoRow : OpenClaim := { program := "ytlepcepjfnngfaa", sum := "191632659c75b2d3e709699f889785ee2332f1e0709f5e0ed85b04a7af3ebd88", func := "loop.example/g00947/laws.FnExactKeysNear", spec := "fnExactKeysNear", unfollowed := true, recurses := true, apart := false, narrowed := true }
def FnExactKeysNearUptoSaid : Prop := fnExactKeysNearUptoRow.holds Try.pinned (OpenSpec.upto fnExactKeysNearSpec)

/-- 'laws.FnExactRankOf', WHERE WHAT IT READS IS OF BULK AT MOST 1048576: true; the input reads as it did. -/
def fnExactRankOfUptoRow : OpenClaim := { program := "ytlepcepjfnngfaa", sum := "191632659c75b2d3e709699f889785ee2332f1e0709f5e0ed85b04a7af3ebd88", func := "loop.example/g00947/laws.FnExactRankOf", spec := "fnExactRankOf", unfollowed := true, recurses := true, apart := false, narrowed := true }
def FnExactRankOfUptoSaid : Prop := fnExactRankOfUptoRow.holds Try.pinned (OpenSpec.upto fnExactRankOfSpec)

/-- 'laws.FnExactLockOfPins', WHERE WHAT IT READS IS OF BULK AT MOST 1048576: true; the input reads as it did. -/
def fnExactLockOfPinsUptoRow : OpenClaim := { program := "ytlepcepjfnngfaa", sum := "191632659c75b2d3e709699f889785ee2332f1e0709f5e0ed85b04a7af3ebd88", func := "loop.example/g00947/laws.FnExactLockOfPins", spec := "fnExactLockOfPins", apart := false, narrowed := true }
def FnExactLockOfPinsUptoSaid : Prop := fnExactLockOfPinsUptoRow.holds Try.pinned (OpenSpec.upto fnExactLockOfPinsSpec)

/-- 'laws.FnExactStockOf', WHERE WHAT IT READS IS OF BULK AT MOST 1048576: true; the input reads as it did. -/
def fnExactStockOfUptoRow : OpenClaim := { program := "ytlepcepjfnngfaa", sum := "191632659c75b2d3e709699f889785ee2332f1e0709f5e0ed85b04a7af3ebd88", func := "loop.example/g00947/laws.FnExactStockOf", spec := "fnExactStockOf", apart := false, narrowed := true }
def FnExactStockOfUptoSaid : Prop := fnExactStockOfUptoRow.holds Try.pinned (OpenSpec.upto fnExactStockOfSpec)

/-- 'laws.FnExactOpens', WHERE WHAT IT READS IS OF BULK AT MOST 1048576: true; the input reads as it did. -/
def fnExactOpensUptoRow : OpenClaim := { program := "ytlepcepjfnngfaa", sum := "191632659c75b2d3e709699f889785ee2332f1e0709f5e0ed85b04a7af3ebd88", func := "loop.example/g00947/laws.FnExactOpens", spec := "fnExactOpens", apart := false, narrowed := true }
def FnExactOpensUptoSaid : Prop := fnExactOpensUptoRow.holds Try.pinned (OpenSpec.upto fnExactOpensSpec)

/-- 'laws.FnExactNearestKey', WHERE WHAT IT READS IS OF BULK AT MOST 1048576: true; the input reads as it did. -/
def fnExactNearestKeyUptoRow : OpenClaim := { program := "ytlepcepjfnngfaa", sum := "191632659c75b2d3e709699f889785ee2332f1e0709f5e0ed85b04a7af3ebd88", func := "loop.example/g00947/laws.FnExactNearestKey", spec := "fnExactNearestKey", unfollowed := true, recurses := true, apart := false, narrowed := true }
def FnExactNearestKeyUptoSaid : Prop := fnExactNearestKeyUptoRow.holds Try.pinned (OpenSpec.upto fnExactNearestKeySpec)

/-- 'laws.FnExactOpenersOf', WHERE WHAT IT READS IS OF BULK AT MOST 1048576: true; the input reads as it did. -/
def fnExactOpenersOfUptoRow : OpenClaim := { program := "ytlepcepjfnngfaa", sum := "191632659c75b2d3e709699f889785ee2332f1e0709f5e0ed85b04a7af3ebd88", func := "loop.example/g00947/laws.FnExactOpenersOf", spec := "fnExactOpenersOf", unfollowed := true, recurses := true, apart := false, narrowed := true }
def FnExactOpenersOfUptoSaid : Prop := fnExactOpenersOfUptoRow.holds Try.pinned (OpenSpec.upto fnExactOpenersOfSpec)

/-- 'laws.FnFaults', WHERE WHAT IT READS IS OF BULK AT MOST 1048576: true; the input reads as it did. -/
def fnFaultsUptoRow : OpenClaim := { program := "ytlepcepjfnngfaa", sum := "191632659c75b2d3e709699f889785ee2332f1e0709f5e0ed85b04a7af3ebd88", func := "loop.example/g00947/laws.FnFaults", spec := "fnFaults", unfollowed := true, recurses := true, apart := false, narrowed := true }
def FnFaultsUptoSaid : Prop := fnFaultsUptoRow.holds Try.pinned (OpenSpec.upto fnFaultsSpec)

/-- 'laws.FnKeys', WHERE WHAT IT READS IS OF BULK AT MOST 1048576: true; the input reads as it did. -/
def fnKeysUptoRow : OpenClaim := { program := "ytlepcepjfnngfaa", sum := "191632659c75b2d3e709699f889785ee2332f1e0709f5e0ed85b04a7af3ebd88", func := "loop.example/g00947/laws.FnKeys", spec := "fnKeys", unfollowed := true, recurses := true, apart := false, narrowed := true }
def FnKeysUptoSaid : Prop := fnKeysUptoRow.holds Try.pinned (OpenSpec.upto fnKeysSpec)

/-- 'laws.FnDistances', WHERE WHAT IT READS IS OF BULK AT MOST 1048576: true; the input reads as it did. -/
def fnDistancesUptoRow : OpenClaim := { program := "ytlepcepjfnngfaa", sum := "191632659c75b2d3e709699f889785ee2332f1e0709f5e0ed85b04a7af3ebd88", func := "loop.example/g00947/laws.FnDistances", spec := "fnDistances", recurses := true, apart := false, narrowed := true }
def FnDistancesUptoSaid : Prop := fnDistancesUptoRow.holds Try.pinned (OpenSpec.upto fnDistancesSpec)

/-- 'laws.FnMeetings', WHERE WHAT IT READS IS OF BULK AT MOST 1048576: true; the input reads as it did. -/
def fnMeetingsUptoRow : OpenClaim := { program := "ytlepcepjfnngfaa", sum := "191632659c75b2d3e709699f889785ee2332f1e0709f5e0ed85b04a7af3ebd88", func := "loop.example/g00947/laws.FnMeetings", spec := "fnMeetings", unfollowed := true, recurses := true, apart := false, narrowed := true }
def FnMeetingsUptoSaid : Prop := fnMeetingsUptoRow.holds Try.pinned (OpenSpec.upto fnMeetingsSpec)

end Rows
end Go.Proofs.Ytlepcepjfnngfaa
