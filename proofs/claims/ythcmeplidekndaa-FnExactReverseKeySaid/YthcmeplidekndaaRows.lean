/-
  No cell of these rows narrows 'for every input' (looked for: loops, veiled, ifaces, maps, wideKeys, modest, calm, conditions, laid).
  DERIVED. THE GIVEN ROWS OF THIS SEAT. 12 by the template 'for every input the law returns true; each argument reads behind the call as it read before'; 0 by the template 'total and deterministic' (their statements: YthcmeplidekndaaTotals.lean).
  GIVEN WITH THE SEED: the statements are not yours to turn. If you find one false, say at which input.
  Laid BY PROGRAM, IN A SANDBOX (cutbox-rows.mjs): the forced cells as the released guide's own fill.sh prints them over the translation c2ffd69156f2ba24… (all of the seat's roots in one cut). By AI agents, Wed Nov 11 2026. No macro, syntax, notation, axiom, sorry.
-/
import Derived.Test.YthcmeplidekndaaChecked
import GoSem.Claim
import GoSem.ClaimJoined
import GoSem.ClaimMapViews
import Derived.JoinedTies
import Derived.KernelRfl
namespace Go.Proofs.Ythcmeplidekndaa
/- THE CELL 'sum', in the pinned program and in every row, IS THE sha256 OF THE DUMP (.gsa) THAT YthcmeplidekndaaProg.lean LOADS. Nothing in Lean hashes anything: it is a label: what it is worth is what the hold of that sum in a sandbox is worth. -/
noncomputable def Try.pinned : Pinned := { name := "ythcmeplidekndaa", sum := "c2ffd69156f2ba24528c832371718ead94c4e91055886640533740e98d09423f", checked := Try.checked }
namespace Rows
def none {H : Type} : Left H := { results := [], args := [] }

/-- 'laws.FnExactDistanceOf': WHATEVER THE INPUT: true; the input reads as it did. -/
def fnExactDistanceOfSpec : ChangeSpec := { name := "fnExactDistanceOf", fn := fun _ => fun
  | [d1, d2, d3] => { results := [.lit (.bool true)], args := [d1, d2, d3] }
  | _ => none }
def fnExactDistanceOfRow : OpenClaim := { program := "ythcmeplidekndaa", sum := "c2ffd69156f2ba24528c832371718ead94c4e91055886640533740e98d09423f", func := "loop.example/g00947/laws.FnExactDistanceOf", spec := "fnExactDistanceOf", apart := false }
def FnExactDistanceOfSaid : Prop := fnExactDistanceOfRow.holds Try.pinned (OpenSpec.ofChange fnExactDistanceOfSpec)

/-- ITS FALSE NEIGHBOUR: 'it returns false'. Refute it at one input. -/
def fnExactDistanceOfWrong : ChangeSpec := { name := "fnExactDistanceOf", fn := fun _ => fun
  | [d1, d2, d3] => { results := [.lit (.bool false)], args := [d1, d2, d3] }
  | _ => none }
def FnExactDistanceOfWrongFalsely : Prop := fnExactDistanceOfRow.holds Try.pinned (OpenSpec.ofChange fnExactDistanceOfWrong)

/-- 'laws.FnExactMirrorKey': WHATEVER THE INPUT: true; the input reads as it did. -/
def fnExactMirrorKeySpec : ChangeSpec := { name := "fnExactMirrorKey", fn := fun _ => fun
  | [d1, d2] => { results := [.lit (.bool true)], args := [d1, d2] }
  | _ => none }
def fnExactMirrorKeyRow : OpenClaim := { program := "ythcmeplidekndaa", sum := "c2ffd69156f2ba24528c832371718ead94c4e91055886640533740e98d09423f", func := "loop.example/g00947/laws.FnExactMirrorKey", spec := "fnExactMirrorKey", apart := false }
def FnExactMirrorKeySaid : Prop := fnExactMirrorKeyRow.holds Try.pinned (OpenSpec.ofChange fnExactMirrorKeySpec)

/-- ITS FALSE NEIGHBOUR: 'it returns false'. Refute it at one input. -/
def fnExactMirrorKeyWrong : ChangeSpec := { name := "fnExactMirrorKey", fn := fun _ => fun
  | [d1, d2] => { results := [.lit (.bool false)], args := [d1, d2] }
  | _ => none }
def FnExactMirrorKeyWrongFalsely : Prop := fnExactMirrorKeyRow.holds Try.pinned (OpenSpec.ofChange fnExactMirrorKeyWrong)

/-- 'laws.FnExactDifferenceOf': WHATEVER THE INPUT: true; the input reads as it did. -/
def fnExactDifferenceOfSpec : ChangeSpec := { name := "fnExactDifferenceOf", fn := fun _ => fun
  | [d1, d2, d3] => { results := [.lit (.bool true)], args := [d1, d2, d3] }
  | _ => none }
def fnExactDifferenceOfRow : OpenClaim := { program := "ythcmeplidekndaa", sum := "c2ffd69156f2ba24528c832371718ead94c4e91055886640533740e98d09423f", func := "loop.example/g00947/laws.FnExactDifferenceOf", spec := "fnExactDifferenceOf", apart := false }
def FnExactDifferenceOfSaid : Prop := fnExactDifferenceOfRow.holds Try.pinned (OpenSpec.ofChange fnExactDifferenceOfSpec)

/-- ITS FALSE NEIGHBOUR: 'it returns false'. Refute it at one input. -/
def fnExactDifferenceOfWrong : ChangeSpec := { name := "fnExactDifferenceOf", fn := fun _ => fun
  | [d1, d2, d3] => { results := [.lit (.bool false)], args := [d1, d2, d3] }
  | _ => none }
def FnExactDifferenceOfWrongFalsely : Prop := fnExactDifferenceOfRow.holds Try.pinned (OpenSpec.ofChange fnExactDifferenceOfWrong)

/-- 'laws.FnExactPinsOf': WHATEVER THE INPUT: true; the input reads as it did. -/
def fnExactPinsOfSpec : ChangeSpec := { name := "fnExactPinsOf", fn := fun _ => fun
  | [d1, d2] => { results := [.lit (.bool true)], args := [d1, d2] }
  | _ => none }
def fnExactPinsOfRow : OpenClaim := { program := "ythcmeplidekndaa", sum := "c2ffd69156f2ba24528c832371718ead94c4e91055886640533740e98d09423f", func := "loop.example/g00947/laws.FnExactPinsOf", spec := "fnExactPinsOf", apart := false }
def FnExactPinsOfSaid : Prop := fnExactPinsOfRow.holds Try.pinned (OpenSpec.ofChange fnExactPinsOfSpec)

/-- ITS FALSE NEIGHBOUR: 'it returns false'. Refute it at one input. -/
def fnExactPinsOfWrong : ChangeSpec := { name := "fnExactPinsOf", fn := fun _ => fun
  | [d1, d2] => { results := [.lit (.bool false)], args := [d1, d2] }
  | _ => none }
def FnExactPinsOfWrongFalsely : Prop := fnExactPinsOfRow.holds Try.pinned (OpenSpec.ofChange fnExactPinsOfWrong)

/-- 'laws.FnExactReverseKey': WHATEVER THE INPUT: true; the input reads as it did. -/
def fnExactReverseKeySpec : ChangeSpec := { name := "fnExactReverseKey", fn := fun _ => fun
  | [d1, d2] => { results := [.lit (.bool true)], args := [d1, d2] }
  | _ => none }
def fnExactReverseKeyRow : OpenClaim := { program := "ythcmeplidekndaa", sum := "c2ffd69156f2ba24528c832371718ead94c4e91055886640533740e98d09423f", func := "loop.example/g00947/laws.FnExactReverseKey", spec := "fnExactReverseKey", apart := false }
def FnExactReverseKeySaid : Prop := fnExactReverseKeyRow.holds Try.pinned (OpenSpec.ofChange fnExactReverseKeySpec)

/-- ITS FALSE NEIGHBOUR: 'it returns false'. Refute it at one input. -/
def fnExactReverseKeyWrong : ChangeSpec := { name := "fnExactReverseKey", fn := fun _ => fun
  | [d1, d2] => { results := [.lit (.bool false)], args := [d1, d2] }
  | _ => none }
def FnExactReverseKeyWrongFalsely : Prop := fnExactReverseKeyRow.holds Try.pinned (OpenSpec.ofChange fnExactReverseKeyWrong)

/-- 'laws.FnExactFirstKeys': WHATEVER THE INPUT: true; the input reads as it did. -/
def fnExactFirstKeysSpec : ChangeSpec := { name := "fnExactFirstKeys", fn := fun _ => fun
  | [d1, d2] => { results := [.lit (.bool true)], args := [d1, d2] }
  | _ => none }
def fnExactFirstKeysRow : OpenClaim := { program := "ythcmeplidekndaa", sum := "c2ffd69156f2ba24528c832371718ead94c4e91055886640533740e98d09423f", func := "loop.example/g00947/laws.FnExactFirstKeys", spec := "fnExactFirstKeys", unfollowed := true, recurses := true, apart := false }
def FnExactFirstKeysSaid : Prop := fnExactFirstKeysRow.holds Try.pinned (OpenSpec.ofChange fnExactFirstKeysSpec)

/-- ITS FALSE NEIGHBOUR: 'it returns false'. Refute it at one input. -/
def fnExactFirstKeysWrong : ChangeSpec := { name := "fnExactFirstKeys", fn := fun _ => fun
  | [d1, d2] => { results := [.lit (.bool false)], args := [d1, d2] }
  | _ => none }
def FnExactFirstKeysWrongFalsely : Prop := fnExactFirstKeysRow.holds Try.pinned (OpenSpec.ofChange fnExactFirstKeysWrong)

/-- 'laws.FnExactThickenLock': WHATEVER THE INPUT: true; the input reads as it did. -/
def fnExactThickenLockSpec : ChangeSpec := { name := "fnExactThickenLock", fn := fun _ => fun
  | [d1, d2, d3] => { results := [.lit (.bool true)], args := [d1, d2, d3] }
  | _ => none }
def fnExactThickenLockRow : OpenClaim := { program := "ythcmeplidekndaa", sum := "c2ffd69156f2ba24528c832371718ead94c4e91055886640533740e98d09423f", func := "loop.example/g00947/laws.FnExactThickenLock", spec := "fnExactThickenLock", apart := false }
def FnExactThickenLockSaid : Prop := fnExactThickenLockRow.holds Try.pinned (OpenSpec.ofChange fnExactThickenLockSpec)

/-- ITS FALSE NEIGHBOUR: 'it returns false'. Refute it at one input. -/
def fnExactThickenLockWrong : ChangeSpec := { name := "fnExactThickenLock", fn := fun _ => fun
  | [d1, d2, d3] => { results := [.lit (.bool false)], args := [d1, d2, d3] }
  | _ => none }
def FnExactThickenLockWrongFalsely : Prop := fnExactThickenLockRow.holds Try.pinned (OpenSpec.ofChange fnExactThickenLockWrong)

/-- 'laws.FnExactThinChambers': WHATEVER THE INPUT: true; the input reads as it did. -/
def fnExactThinChambersSpec : ChangeSpec := { name := "fnExactThinChambers", fn := fun _ => fun
  | [d1, d2, d3] => { results := [.lit (.bool true)], args := [d1, d2, d3] }
  | _ => none }
def fnExactThinChambersRow : OpenClaim := { program := "ythcmeplidekndaa", sum := "c2ffd69156f2ba24528c832371718ead94c4e91055886640533740e98d09423f", func := "loop.example/g00947/laws.FnExactThinChambers", spec := "fnExactThinChambers", apart := false }
def FnExactThinChambersSaid : Prop := fnExactThinChambersRow.holds Try.pinned (OpenSpec.ofChange fnExactThinChambersSpec)

/-- ITS FALSE NEIGHBOUR: 'it returns false'. Refute it at one input. -/
def fnExactThinChambersWrong : ChangeSpec := { name := "fnExactThinChambers", fn := fun _ => fun
  | [d1, d2, d3] => { results := [.lit (.bool false)], args := [d1, d2, d3] }
  | _ => none }
def FnExactThinChambersWrongFalsely : Prop := fnExactThinChambersRow.holds Try.pinned (OpenSpec.ofChange fnExactThinChambersWrong)

/-- 'laws.FnExactJoinLocks': WHATEVER THE INPUT: true; the input reads as it did. -/
def fnExactJoinLocksSpec : ChangeSpec := { name := "fnExactJoinLocks", fn := fun _ => fun
  | [d1, d2, d3] => { results := [.lit (.bool true)], args := [d1, d2, d3] }
  | _ => none }
def fnExactJoinLocksRow : OpenClaim := { program := "ythcmeplidekndaa", sum := "c2ffd69156f2ba24528c832371718ead94c4e91055886640533740e98d09423f", func := "loop.example/g00947/laws.FnExactJoinLocks", spec := "fnExactJoinLocks", unfollowed := true, recurses := true, apart := false }
def FnExactJoinLocksSaid : Prop := fnExactJoinLocksRow.holds Try.pinned (OpenSpec.ofChange fnExactJoinLocksSpec)

/-- ITS FALSE NEIGHBOUR: 'it returns false'. Refute it at one input. -/
def fnExactJoinLocksWrong : ChangeSpec := { name := "fnExactJoinLocks", fn := fun _ => fun
  | [d1, d2, d3] => { results := [.lit (.bool false)], args := [d1, d2, d3] }
  | _ => none }
def FnExactJoinLocksWrongFalsely : Prop := fnExactJoinLocksRow.holds Try.pinned (OpenSpec.ofChange fnExactJoinLocksWrong)

/-- 'laws.FnExactNextKey': WHATEVER THE INPUT: true; the input reads as it did. -/
def fnExactNextKeySpec : ChangeSpec := { name := "fnExactNextKey", fn := fun _ => fun
  | [d1, d2] => { results := [.lit (.bool true)], args := [d1, d2] }
  | _ => none }
def fnExactNextKeyRow : OpenClaim := { program := "ythcmeplidekndaa", sum := "c2ffd69156f2ba24528c832371718ead94c4e91055886640533740e98d09423f", func := "loop.example/g00947/laws.FnExactNextKey", spec := "fnExactNextKey", unfollowed := true, recurses := true, apart := false }
def FnExactNextKeySaid : Prop := fnExactNextKeyRow.holds Try.pinned (OpenSpec.ofChange fnExactNextKeySpec)

/-- ITS FALSE NEIGHBOUR: 'it returns false'. Refute it at one input. -/
def fnExactNextKeyWrong : ChangeSpec := { name := "fnExactNextKey", fn := fun _ => fun
  | [d1, d2] => { results := [.lit (.bool false)], args := [d1, d2] }
  | _ => none }
def FnExactNextKeyWrongFalsely : Prop := fnExactNextKeyRow.holds Try.pinned (OpenSpec.ofChange fnExactNextKeyWrong)

/-- 'laws.FnExactMeetLocks': WHATEVER THE INPUT: true; the input reads as it did. -/
def fnExactMeetLocksSpec : ChangeSpec := { name := "fnExactMeetLocks", fn := fun _ => fun
  | [d1, d2, d3] => { results := [.lit (.bool true)], args := [d1, d2, d3] }
  | _ => none }
def fnExactMeetLocksRow : OpenClaim := { program := "ythcmeplidekndaa", sum := "c2ffd69156f2ba24528c832371718ead94c4e91055886640533740e98d09423f", func := "loop.example/g00947/laws.FnExactMeetLocks", spec := "fnExactMeetLocks", unfollowed := true, recurses := true, apart := false }
def FnExactMeetLocksSaid : Prop := fnExactMeetLocksRow.holds Try.pinned (OpenSpec.ofChange fnExactMeetLocksSpec)

/-- ITS FALSE NEIGHBOUR: 'it returns false'. Refute it at one input. -/
def fnExactMeetLocksWrong : ChangeSpec := { name := "fnExactMeetLocks", fn := fun _ => fun
  | [d1, d2, d3] => { results := [.lit (.bool false)], args := [d1, d2, d3] }
  | _ => none }
def FnExactMeetLocksWrongFalsely : Prop := fnExactMeetLocksRow.holds Try.pinned (OpenSpec.ofChange fnExactMeetLocksWrong)

/-- 'laws.FnExactCountOpeners': WHATEVER THE INPUT: true; the input reads as it did. -/
def fnExactCountOpenersSpec : ChangeSpec := { name := "fnExactCountOpeners", fn := fun _ => fun
  | [d1, d2] => { results := [.lit (.bool true)], args := [d1, d2] }
  | _ => none }
def fnExactCountOpenersRow : OpenClaim := { program := "ythcmeplidekndaa", sum := "c2ffd69156f2ba24528c832371718ead94c4e91055886640533740e98d09423f", func := "loop.example/g00947/laws.FnExactCountOpeners", spec := "fnExactCountOpeners", unfollowed := true, recurses := true, apart := false }
def FnExactCountOpenersSaid : Prop := fnExactCountOpenersRow.holds Try.pinned (OpenSpec.ofChange fnExactCountOpenersSpec)

/-- ITS FALSE NEIGHBOUR: 'it returns false'. Refute it at one input. -/
def fnExactCountOpenersWrong : ChangeSpec := { name := "fnExactCountOpeners", fn := fun _ => fun
  | [d1, d2] => { results := [.lit (.bool false)], args := [d1, d2] }
  | _ => none }
def FnExactCountOpenersWrongFalsely : Prop := fnExactCountOpenersRow.holds Try.pinned (OpenSpec.ofChange fnExactCountOpenersWrong)

/- THE SECOND FORM. 'bulk': how many values and letters a reading holds, each counted each time it is reached (what is shared counts as often as it is met; a slice's spare places count too). A statement '..UptoSaid' is the law's where the arguments, and the package variables that the reading takes, are together of bulk at most 1048576: NARROWER than '..Said'. Prove '..Said' where nothing that the law and all that it calls make is longer than what came in: it says more and counts as full. Else prove '..UptoSaid'. A law counts once. -/
mutual
def uptoBulk {H : Type} : DataW H → Nat
  | .lit (.string bytes) => bytes.length + 1
  | .lit _ => 1
  | .nil => 1
  | .ptr d => uptoBulk d + 1
  | .slice elems spare => uptoBulkAll elems + uptoBulkAll spare + 1
  | .agg parts => uptoBulkAll parts + 1
  | .iface _ d => uptoBulk d + 1
  | .map entries => uptoBulkEntries entries + 1
  | .held _ => 1
def uptoBulkAll {H : Type} : List (DataW H) → Nat
  | [] => 0
  | d :: r => uptoBulk d + uptoBulkAll r
def uptoBulkEntries {H : Type} : List (Lit × DataW H) → Nat
  | [] => 0
  | x :: r => uptoBulkEntry x + uptoBulkEntries r
def uptoBulkEntry {H : Type} : Lit × DataW H → Nat
  | (.string bytes, d) => bytes.length + uptoBulk d + 1
  | (_, d) => uptoBulk d + 1
 end
def uptoSmall : (H : Type) → List (DataW H) → Bool := fun _ ds => decide (uptoBulkAll ds ≤ 1048576)
def OpenSpec.upto (s : _root_.Go.ChangeSpec) : _root_.Go.OpenSpec := { _root_.Go.OpenSpec.ofChange s with cond := some uptoSmall }

/-- 'laws.FnExactDistanceOf', WHERE WHAT IT READS IS OF BULK AT MOST 1048576: true; the input reads as it did. -/
def fnExactDistanceOfUptoRow : OpenClaim := { program := "ythcmeplidekndaa", sum := "c2ffd69156f2ba24528c832371718ead94c4e91055886640533740e98d09423f", func := "loop.example/g00947/laws.FnExactDistanceOf", spec := "fnExactDistanceOf", apart := false, narrowed := true }
def FnExactDistanceOfUptoSaid : Prop := fnExactDistanceOfUptoRow.holds Try.pinned (OpenSpec.upto fnExactDistanceOfSpec)

/-- 'laws.FnExactMirrorKey', WHERE WHAT IT READS IS OF BULK AT MOST 1048576: true; the input reads as it did. -/
def fnExactMirrorKeyUptoRow : OpenClaim := { program := "ythcmeplidekndaa", sum := "c2ffd69156f2ba24528c832371718ead94c4e91055886640533740e98d09423f", func := "loop.example/g00947/laws.FnExactMirrorKey", spec := "fnExactMirrorKey", apart := false, narrowed := true }
def FnExactMirrorKeyUptoSaid : Prop := fnExactMirrorKeyUptoRow.holds Try.pinned (OpenSpec.upto fnExactMirrorKeySpec)

/-- 'laws.FnExactDifferenceOf', WHERE WHAT IT READS IS OF BULK AT MOST 1048576: true; the input reads as it did. -/
def fnExactDifferenceOfUptoRow : OpenClaim := { program := "ythcmeplidekndaa", sum := "c2ffd69156f2ba24528c832371718ead94c4e91055886640533740e98d09423f", func := "loop.example/g00947/laws.FnExactDifferenceOf", spec := "fnExactDifferenceOf", apart := false, narrowed := true }
def FnExactDifferenceOfUptoSaid : Prop := fnExactDifferenceOfUptoRow.holds Try.pinned (OpenSpec.upto fnExactDifferenceOfSpec)

/-- 'laws.FnExactPinsOf', WHERE WHAT IT READS IS OF BULK AT MOST 1048576: true; the input reads as it did. -/
def fnExactPinsOfUptoRow : OpenClaim := { program := "ythcmeplidekndaa", sum := "c2ffd69156f2ba24528c832371718ead94c4e91055886640533740e98d09423f", func := "loop.example/g00947/laws.FnExactPinsOf", spec := "fnExactPinsOf", apart := false, narrowed := true }
def FnExactPinsOfUptoSaid : Prop := fnExactPinsOfUptoRow.holds Try.pinned (OpenSpec.upto fnExactPinsOfSpec)

/-- 'laws.FnExactReverseKey', WHERE WHAT IT READS IS OF BULK AT MOST 1048576: true; the input reads as it did. -/
def fnExactReverseKeyUptoRow : OpenClaim := { program := "ythcmeplidekndaa", sum := "c2ffd69156f2ba24528c832371718ead94c4e91055886640533740e98d09423f", func := "loop.example/g00947/laws.FnExactReverseKey", spec := "fnExactReverseKey", apart := false, narrowed := true }
def FnExactReverseKeyUptoSaid : Prop := fnExactReverseKeyUptoRow.holds Try.pinned (OpenSpec.upto fnExactReverseKeySpec)

/-- 'laws.FnExactFirstKeys', WHERE WHAT IT READS IS OF BULK AT MOST 1048576: true; the input reads as it did. -/
def fnExactFirstKeysUptoRow : OpenClaim := { program := "ythcmeplidekndaa", sum := "c2ffd69156f2ba24528c832371718ead94c4e91055886640533740e98d09423f", func := "loop.example/g00947/laws.FnExactFirstKeys", spec := "fnExactFirstKeys", unfollowed := true, recurses := true, apart := false, narrowed := true }
def FnExactFirstKeysUptoSaid : Prop := fnExactFirstKeysUptoRow.holds Try.pinned (OpenSpec.upto fnExactFirstKeysSpec)

/-- 'laws.FnExactThickenLock', WHERE WHAT IT READS IS OF BULK AT MOST 1048576: true; the input reads as it did. -/
def fnExactThickenLockUptoRow : OpenClaim := { program := "ythcmeplidekndaa", sum := "c2ffd69156f2ba24528c832371718ead94c4e91055886640533740e98d09423f", func := "loop.example/g00947/laws.FnExactThickenLock", spec := "fnExactThickenLock", apart := false, narrowed := true }
def FnExactThickenLockUptoSaid : Prop := fnExactThickenLockUptoRow.holds Try.pinned (OpenSpec.upto fnExactThickenLockSpec)

/-- 'laws.FnExactThinChambers', WHERE WHAT IT READS IS OF BULK AT MOST 1048576: true; the input reads as it did. -/
def fnExactThinChambersUptoRow : OpenClaim := { program := "ythcmeplidekndaa", sum := "c2ffd69156f2ba24528c832371718ead94c4e91055886640533740e98d09423f", func := "loop.example/g00947/laws.FnExactThinChambers", spec := "fnExactThinChambers", apart := false, narrowed := true }
def FnExactThinChambersUptoSaid : Prop := fnExactThinChambersUptoRow.holds Try.pinned (OpenSpec.upto fnExactThinChambersSpec)

/-- 'laws.FnExactJoinLocks', WHERE WHAT IT READS IS OF BULK AT MOST 1048576: true; the input reads as it did. -/
def fnExactJoinLocksUptoRow : OpenClaim := { program := "ythcmeplidekndaa", sum := "c2ffd69156f2ba24528c832371718ead94c4e91055886640533740e98d09423f", func := "loop.example/g00947/laws.FnExactJoinLocks", spec := "fnExactJoinLocks", unfollowed := true, recurses := true, apart := false, narrowed := true }
def FnExactJoinLocksUptoSaid : Prop := fnExactJoinLocksUptoRow.holds Try.pinned (OpenSpec.upto fnExactJoinLocksSpec)

/-- 'laws.FnExactNextKey', WHERE WHAT IT READS IS OF BULK AT MOST 1048576: true; the input reads as it did. -/
def fnExactNextKeyUptoRow : OpenClaim := { program := "ythcmeplidekndaa", sum := "c2ffd69156f2ba24528c832371718ead94c4e91055886640533740e98d09423f", func := "loop.example/g00947/laws.FnExactNextKey", spec := "fnExactNextKey", unfollowed := true, recurses := true, apart := false, narrowed := true }
def FnExactNextKeyUptoSaid : Prop := fnExactNextKeyUptoRow.holds Try.pinned (OpenSpec.upto fnExactNextKeySpec)

/-- 'laws.FnExactMeetLocks', WHERE WHAT IT READS IS OF BULK AT MOST 1048576: true; the input reads as it did. -/
def fnExactMeetLocksUptoRow : OpenClaim := { program := "ythcmeplidekndaa", sum := "c2ffd69156f2ba24528c832371718ead94c4e91055886640533740e98d09423f", func := "loop.example/g00947/laws.FnExactMeetLocks", spec := "fnExactMeetLocks", unfollowed := true, recurses := true, apart := false, narrowed := true }
def FnExactMeetLocksUptoSaid : Prop := fnExactMeetLocksUptoRow.holds Try.pinned (OpenSpec.upto fnExactMeetLocksSpec)

/-- 'laws.FnExactCountOpeners', WHERE WHAT IT READS IS OF BULK AT MOST 1048576: true; the input reads as it did. -/
def fnExactCountOpenersUptoRow : OpenClaim := { program := "ythcmeplidekndaa", sum := "c2ffd69156f2ba24528c832371718ead94c4e91055886640533740e98d09423f", func := "loop.example/g00947/laws.FnExactCountOpeners", spec := "fnExactCountOpeners", unfollowed := true, recurses := true, apart := false, narrowed := true }
def FnExactCountOpenersUptoSaid : Prop := fnExactCountOpenersUptoRow.holds Try.pinned (OpenSpec.upto fnExactCountOpenersSpec)

end Rows
end Go.Proofs.Ythcmeplidekndaa
