/-
  No cell of these rows narrows 'for every input' (looked for: loops, veiled, ifaces, maps, wideKeys, modest, calm, conditions, laid).
  DERIVED. THE GIVEN ROWS OF THIS SEAT. 7 by the template 'for every input the law returns true; each argument reads behind the call as it read before'; 0 by the template 'total and deterministic' (their statements: YtccekkkiaebnmaaTotals.lean).
  GIVEN WITH THE SEED: the statements are not yours to turn. If you find one false, say at which input.
  Laid BY PROGRAM, IN A SANDBOX (cutbox-rows.mjs): the forced cells as the released guide's own fill.sh prints them over the translation 0ce5de47f0654695… (all of the seat's roots in one cut). By AI agents, Wed Nov 11 2026. No macro, syntax, notation, axiom, sorry.
-/
import Derived.Test.YtccekkkiaebnmaaChecked
import GoSem.Claim
import GoSem.ClaimJoined
import GoSem.ClaimMapViews
import Derived.JoinedTies
import Derived.KernelRfl
namespace Go.Proofs.Ytccekkkiaebnmaa
/- THE CELL 'sum', in the pinned program and in every row, IS THE sha256 OF THE DUMP (.gsa) THAT YtccekkkiaebnmaaProg.lean LOADS. Nothing in Lean hashes anything: it is a label: what it is worth is what the hold of that sum in a sandbox is worth. -/
noncomputable def Try.pinned : Pinned := { name := "ytccekkkiaebnmaa", sum := "0ce5de47f0654695dde9b4e31867e5ec29e19313d92bc835a0782b05f7ee8e42", checked := Try.checked }
namespace Rows
def none {H : Type} : Left H := { results := [], args := [] }

/-- 'laws.FnMeetings': WHATEVER THE INPUT: true; the input reads as it did. -/
def fnMeetingsSpec : ChangeSpec := { name := "fnMeetings", fn := fun _ => fun
  | [d] => { results := [.lit (.bool true)], args := [d] }
  | _ => none }
def fnMeetingsRow : OpenClaim := { program := "ytccekkkiaebnmaa", sum := "0ce5de47f0654695dde9b4e31867e5ec29e19313d92bc835a0782b05f7ee8e42", func := "loop.example/g00947/laws.FnMeetings", spec := "fnMeetings", unfollowed := true, recurses := true, apart := false }
def FnMeetingsSaid : Prop := fnMeetingsRow.holds Try.pinned (OpenSpec.ofChange fnMeetingsSpec)

/-- ITS FALSE NEIGHBOUR: 'it returns false'. Refute it at one input. -/
def fnMeetingsWrong : ChangeSpec := { name := "fnMeetings", fn := fun _ => fun
  | [d] => { results := [.lit (.bool false)], args := [d] }
  | _ => none }
def FnMeetingsWrongFalsely : Prop := fnMeetingsRow.holds Try.pinned (OpenSpec.ofChange fnMeetingsWrong)

/-- 'laws.FnRanks': WHATEVER THE INPUT: true; the input reads as it did. -/
def fnRanksSpec : ChangeSpec := { name := "fnRanks", fn := fun _ => fun
  | [d] => { results := [.lit (.bool true)], args := [d] }
  | _ => none }
def fnRanksRow : OpenClaim := { program := "ytccekkkiaebnmaa", sum := "0ce5de47f0654695dde9b4e31867e5ec29e19313d92bc835a0782b05f7ee8e42", func := "loop.example/g00947/laws.FnRanks", spec := "fnRanks", unfollowed := true, recurses := true, apart := false }
def FnRanksSaid : Prop := fnRanksRow.holds Try.pinned (OpenSpec.ofChange fnRanksSpec)

/-- ITS FALSE NEIGHBOUR: 'it returns false'. Refute it at one input. -/
def fnRanksWrong : ChangeSpec := { name := "fnRanks", fn := fun _ => fun
  | [d] => { results := [.lit (.bool false)], args := [d] }
  | _ => none }
def FnRanksWrongFalsely : Prop := fnRanksRow.holds Try.pinned (OpenSpec.ofChange fnRanksWrong)

/-- 'laws.FnThick': WHATEVER THE INPUT: true; the input reads as it did. -/
def fnThickSpec : ChangeSpec := { name := "fnThick", fn := fun _ => fun
  | [d] => { results := [.lit (.bool true)], args := [d] }
  | _ => none }
def fnThickRow : OpenClaim := { program := "ytccekkkiaebnmaa", sum := "0ce5de47f0654695dde9b4e31867e5ec29e19313d92bc835a0782b05f7ee8e42", func := "loop.example/g00947/laws.FnThick", spec := "fnThick", unfollowed := true, recurses := true, apart := false }
def FnThickSaid : Prop := fnThickRow.holds Try.pinned (OpenSpec.ofChange fnThickSpec)

/-- ITS FALSE NEIGHBOUR: 'it returns false'. Refute it at one input. -/
def fnThickWrong : ChangeSpec := { name := "fnThick", fn := fun _ => fun
  | [d] => { results := [.lit (.bool false)], args := [d] }
  | _ => none }
def FnThickWrongFalsely : Prop := fnThickRow.holds Try.pinned (OpenSpec.ofChange fnThickWrong)

/-- 'laws.FnNeighbours': WHATEVER THE INPUT: true; the input reads as it did. -/
def fnNeighboursSpec : ChangeSpec := { name := "fnNeighbours", fn := fun _ => fun
  | [d] => { results := [.lit (.bool true)], args := [d] }
  | _ => none }
def fnNeighboursRow : OpenClaim := { program := "ytccekkkiaebnmaa", sum := "0ce5de47f0654695dde9b4e31867e5ec29e19313d92bc835a0782b05f7ee8e42", func := "loop.example/g00947/laws.FnNeighbours", spec := "fnNeighbours", unfollowed := true, recurses := true, apart := false }
def FnNeighboursSaid : Prop := fnNeighboursRow.holds Try.pinned (OpenSpec.ofChange fnNeighboursSpec)

/-- ITS FALSE NEIGHBOUR: 'it returns false'. Refute it at one input. -/
def fnNeighboursWrong : ChangeSpec := { name := "fnNeighbours", fn := fun _ => fun
  | [d] => { results := [.lit (.bool false)], args := [d] }
  | _ => none }
def FnNeighboursWrongFalsely : Prop := fnNeighboursRow.holds Try.pinned (OpenSpec.ofChange fnNeighboursWrong)

/-- 'laws.FnOpeners': WHATEVER THE INPUT: true; the input reads as it did. -/
def fnOpenersSpec : ChangeSpec := { name := "fnOpeners", fn := fun _ => fun
  | [d] => { results := [.lit (.bool true)], args := [d] }
  | _ => none }
def fnOpenersRow : OpenClaim := { program := "ytccekkkiaebnmaa", sum := "0ce5de47f0654695dde9b4e31867e5ec29e19313d92bc835a0782b05f7ee8e42", func := "loop.example/g00947/laws.FnOpeners", spec := "fnOpeners", unfollowed := true, recurses := true, apart := false }
def FnOpenersSaid : Prop := fnOpenersRow.holds Try.pinned (OpenSpec.ofChange fnOpenersSpec)

/-- ITS FALSE NEIGHBOUR: 'it returns false'. Refute it at one input. -/
def fnOpenersWrong : ChangeSpec := { name := "fnOpeners", fn := fun _ => fun
  | [d] => { results := [.lit (.bool false)], args := [d] }
  | _ => none }
def FnOpenersWrongFalsely : Prop := fnOpenersRow.holds Try.pinned (OpenSpec.ofChange fnOpenersWrong)

/-- 'laws.FnExactHullOf': WHATEVER THE INPUT: true; the input reads as it did. -/
def fnExactHullOfSpec : ChangeSpec := { name := "fnExactHullOf", fn := fun _ => fun
  | [d1, d2] => { results := [.lit (.bool true)], args := [d1, d2] }
  | _ => none }
def fnExactHullOfRow : OpenClaim := { program := "ytccekkkiaebnmaa", sum := "0ce5de47f0654695dde9b4e31867e5ec29e19313d92bc835a0782b05f7ee8e42", func := "loop.example/g00947/laws.FnExactHullOf", spec := "fnExactHullOf", recurses := true, apart := false }
def FnExactHullOfSaid : Prop := fnExactHullOfRow.holds Try.pinned (OpenSpec.ofChange fnExactHullOfSpec)

/-- ITS FALSE NEIGHBOUR: 'it returns false'. Refute it at one input. -/
def fnExactHullOfWrong : ChangeSpec := { name := "fnExactHullOf", fn := fun _ => fun
  | [d1, d2] => { results := [.lit (.bool false)], args := [d1, d2] }
  | _ => none }
def FnExactHullOfWrongFalsely : Prop := fnExactHullOfRow.holds Try.pinned (OpenSpec.ofChange fnExactHullOfWrong)

/-- 'laws.FnHulls': WHATEVER THE INPUT: true; the input reads as it did. -/
def fnHullsSpec : ChangeSpec := { name := "fnHulls", fn := fun _ => fun
  | [d] => { results := [.lit (.bool true)], args := [d] }
  | _ => none }
def fnHullsRow : OpenClaim := { program := "ytccekkkiaebnmaa", sum := "0ce5de47f0654695dde9b4e31867e5ec29e19313d92bc835a0782b05f7ee8e42", func := "loop.example/g00947/laws.FnHulls", spec := "fnHulls", recurses := true, apart := false }
def FnHullsSaid : Prop := fnHullsRow.holds Try.pinned (OpenSpec.ofChange fnHullsSpec)

/-- ITS FALSE NEIGHBOUR: 'it returns false'. Refute it at one input. -/
def fnHullsWrong : ChangeSpec := { name := "fnHulls", fn := fun _ => fun
  | [d] => { results := [.lit (.bool false)], args := [d] }
  | _ => none }
def FnHullsWrongFalsely : Prop := fnHullsRow.holds Try.pinned (OpenSpec.ofChange fnHullsWrong)

/- THE SECOND FORM. 'bulk': how many values and letters a reading holds, each counted each time it is reached (what is shared counts as often as it is met; a slice's spare places count too). A statement '..UptoSaid' is the law's where the arguments, and the package variables that the reading takes, are together of bulk at most 1048576: NARROWER than '..Said'. Prove '..Said' where nothing that the law and all that it calls make is longer than what came in: it says more and counts as full. Else prove '..UptoSaid'. A law counts once. -/
mutual
def uptoBulk {H : Type} : DataW H → Nat
  | .lit (.string bytes) => bytes.length + 1
  | .lit _ => 1
  | .nil => 1
  | .ptr d => uptoBulk d + 1
  | .slice elems spare => uptoBulkAll elems + uptoBulkAll spare + 1
  | .agg parts => uptoBulkAll parts + 1
  | .iface _ d => uptoBulk d + 1
  | .map entries => uptoBulkEntries entries + 1
  | .held _ => 1
def uptoBulkAll {H : Type} : List (DataW H) → Nat
  | [] => 0
  | d :: r => uptoBulk d + uptoBulkAll r
def uptoBulkEntries {H : Type} : List (Lit × DataW H) → Nat
  | [] => 0
  | x :: r => uptoBulkEntry x + uptoBulkEntries r
def uptoBulkEntry {H : Type} : Lit × DataW H → Nat
  | (.string bytes, d) => bytes.length + uptoBulk d + 1
  | (_, d) => uptoBulk d + 1
 end
def uptoSmall : (H : Type) → List (DataW H) → Bool := fun _ ds => decide (uptoBulkAll ds ≤ 1048576)
def OpenSpec.upto (s : _root_.Go.ChangeSpec) : _root_.Go.OpenSpec := { _root_.Go.OpenSpec.ofChange s with cond := some uptoSmall }

/-- 'laws.FnMeetings', WHERE WHAT IT READS IS OF BULK AT MOST 1048576: true; the input reads as it did. -/
def fnMeetingsUptoRow : OpenClaim := { program := "ytccekkkiaebnmaa", sum := "0ce5de47f0654695dde9b4e31867e5ec29e19313d92bc835a0782b05f7ee8e42", func := "loop.example/g00947/laws.FnMeetings", spec := "fnMeetings", unfollowed := true, recurses := true, apart := false, narrowed := true }
def FnMeetingsUptoSaid : Prop := fnMeetingsUptoRow.holds Try.pinned (OpenSpec.upto fnMeetingsSpec)

/-- 'laws.FnRanks', WHERE WHAT IT READS IS OF BULK AT MOST 1048576: true; the input reads as it did. -/
def fnRanksUptoRow : OpenClaim := { program := "ytccekkkiaebnmaa", sum := "0ce5de47f0654695dde9b4e31867e5ec29e19313d92bc835a0782b05f7ee8e42", func := "loop.example/g00947/laws.FnRanks", spec := "fnRanks", unfollowed := true, recurses := true, apart := false, narrowed := true }
def FnRanksUptoSaid : Prop := fnRanksUptoRow.holds Try.pinned (OpenSpec.upto fnRanksSpec)

/-- 'laws.FnThick', WHERE WHAT IT READS IS OF BULK AT MOST 1048576: true; the input reads as it did. -/
def fnThickUptoRow : OpenClaim := { program := "ytccekkkiaebnmaa", sum := "0ce5de47f0654695dde9b4e31867e5ec29e19313d92bc835a0782b05f7ee8e42", func := "loop.example/g00947/laws.FnThick", spec := "fnThick", unfollowed := true, recurses := true, apart := false, narrowed := true }
def FnThickUptoSaid : Prop := fnThickUptoRow.holds Try.pinned (OpenSpec.upto fnThickSpec)

/-- 'laws.FnNeighbours', WHERE WHAT IT READS IS OF BULK AT MOST 1048576: true; the input reads as it did. -/
def fnNeighboursUptoRow : OpenClaim := { program := "ytccekkkiaebnmaa", sum := "0ce5de47f0654695dde9b4e31867e5ec29e19313d92bc835a0782b05f7ee8e42", func := "loop.example/g00947/laws.FnNeighbours", spec := "fnNeighbours", unfollowed := true, recurses := true, apart := false, narrowed := true }
def FnNeighboursUptoSaid : Prop := fnNeighboursUptoRow.holds Try.pinned (OpenSpec.upto fnNeighboursSpec)

/-- 'laws.FnOpeners', WHERE WHAT IT READS IS OF BULK AT MOST 1048576: true; the input reads as it did. -/
def fnOpenersUptoRow : OpenClaim := { program := "ytccekkkiaebnmaa", sum := "0ce5de47f0654695dde9b4e31867e5ec29e19313d92bc835a0782b05f7ee8e42", func := "loop.example/g00947/laws.FnOpeners", spec := "fnOpeners", unfollowed := true, recurses := true, apart := false, narrowed := true }
def FnOpenersUptoSaid : Prop := fnOpenersUptoRow.holds Try.pinned (OpenSpec.upto fnOpenersSpec)

/-- 'laws.FnExactHullOf', WHERE WHAT IT READS IS OF BULK AT MOST 1048576: true; the input reads as it did. -/
def fnExactHullOfUptoRow : OpenClaim := { program := "ytccekkkiaebnmaa", sum := "0ce5de47f0654695dde9b4e31867e5ec29e19313d92bc835a0782b05f7ee8e42", func := "loop.example/g00947/laws.FnExactHullOf", spec := "fnExactHullOf", recurses := true, apart := false, narrowed := true }
def FnExactHullOfUptoSaid : Prop := fnExactHullOfUptoRow.holds Try.pinned (OpenSpec.upto fnExactHullOfSpec)

/-- 'laws.FnHulls', WHERE WHAT IT READS IS OF BULK AT MOST 1048576: true; the input reads as it did. -/
def fnHullsUptoRow : OpenClaim := { program := "ytccekkkiaebnmaa", sum := "0ce5de47f0654695dde9b4e31867e5ec29e19313d92bc835a0782b05f7ee8e42", func := "loop.example/g00947/laws.FnHulls", spec := "fnHulls", recurses := true, apart := false, narrowed := true }
def FnHullsUptoSaid : Prop := fnHullsUptoRow.holds Try.pinned (OpenSpec.upto fnHullsSpec)

end Rows
end Go.Proofs.Ytccekkkiaebnmaa
