/-
  No cell of these rows narrows 'for every input' (looked for: loops, veiled, ifaces, maps, wideKeys, modest, calm, conditions, laid).
  DERIVED. THE GIVEN ROWS OF THIS SEAT. 5 by the template 'for every input the law returns true; each argument reads behind the call as it read before'; 0 by the template 'total and deterministic' (their statements: YtalnipjaekpbhaaTotals.lean).
  GIVEN WITH THE SEED: the statements are not yours to turn. If you find one false, say at which input.
  Laid BY PROGRAM, IN A SANDBOX (cutbox-rows.mjs): the forced cells as the released guide's own fill.sh prints them over the translation c43ba02b44821aaf… (all of the seat's roots in one cut). By AI agents, Wed Nov 11 2026. No macro, syntax, notation, axiom, sorry.
-/
import Derived.Test.YtalnipjaekpbhaaChecked
import GoSem.Claim
import GoSem.ClaimJoined
import GoSem.ClaimMapViews
import Derived.JoinedTies
import Derived.KernelRfl
namespace Go.Proofs.Ytalnipjaekpbhaa
/- THE CELL 'sum', in the pinned program and in every row, IS THE sha256 OF THE DUMP (.gsa) THAT YtalnipjaekpbhaaProg.lean LOADS. Nothing in Lean hashes anything: it is a label: what it is worth is what the hold of that sum in a sandbox is worth. -/
noncomputable def Try.pinned : Pinned := { name := "ytalnipjaekpbhaa", sum := "c43ba02b44821aaf60ebc7ecf78ba7b623b1c01e0815fae4d86240bbd53f5016", checked := Try.checked }
namespace Rows
def none {H : Type} : Left H := { results := [], args := [] }

/-- 'gavellaw23.LogForms': WHATEVER THE INPUT: true; the input reads as it did. -/
def logFormsSpec : ChangeSpec := { name := "logForms", fn := fun _ => fun
  | [d1, d2] => { results := [.lit (.bool true)], args := [d1, d2] }
  | _ => none }
def logFormsRow : OpenClaim := { program := "ytalnipjaekpbhaa", sum := "c43ba02b44821aaf60ebc7ecf78ba7b623b1c01e0815fae4d86240bbd53f5016", func := "gavel/gavellaw23.LogForms", spec := "logForms", unfollowed := true, recurses := true, apart := false }
def LogFormsSaid : Prop := logFormsRow.holds Try.pinned (OpenSpec.ofChange logFormsSpec)

/-- ITS FALSE NEIGHBOUR: 'it returns false'. Refute it at one input. -/
def logFormsWrong : ChangeSpec := { name := "logForms", fn := fun _ => fun
  | [d1, d2] => { results := [.lit (.bool false)], args := [d1, d2] }
  | _ => none }
def LogFormsWrongFalsely : Prop := logFormsRow.holds Try.pinned (OpenSpec.ofChange logFormsWrong)

/-- 'gavellaw23.LogApart': WHATEVER THE INPUT: true; the input reads as it did. -/
def logApartSpec : ChangeSpec := { name := "logApart", fn := fun _ => fun
  | [d1, d2] => { results := [.lit (.bool true)], args := [d1, d2] }
  | _ => none }
def logApartRow : OpenClaim := { program := "ytalnipjaekpbhaa", sum := "c43ba02b44821aaf60ebc7ecf78ba7b623b1c01e0815fae4d86240bbd53f5016", func := "gavel/gavellaw23.LogApart", spec := "logApart", unfollowed := true, recurses := true, apart := false }
def LogApartSaid : Prop := logApartRow.holds Try.pinned (OpenSpec.ofChange logApartSpec)

/-- ITS FALSE NEIGHBOUR: 'it returns false'. Refute it at one input. -/
def logApartWrong : ChangeSpec := { name := "logApart", fn := fun _ => fun
  | [d1, d2] => { results := [.lit (.bool false)], args := [d1, d2] }
  | _ => none }
def LogApartWrongFalsely : Prop := logApartRow.holds Try.pinned (OpenSpec.ofChange logApartWrong)

/-- 'gavellaw23.LogReads': WHATEVER THE INPUT: true; the input reads as it did. -/
def logReadsSpec : ChangeSpec := { name := "logReads", fn := fun _ => fun
  | [d1, d2] => { results := [.lit (.bool true)], args := [d1, d2] }
  | _ => none }
def logReadsRow : OpenClaim := { program := "ytalnipjaekpbhaa", sum := "c43ba02b44821aaf60ebc7ecf78ba7b623b1c01e0815fae4d86240bbd53f5016", func := "gavel/gavellaw23.LogReads", spec := "logReads", unfollowed := true, recurses := true, apart := false }
def LogReadsSaid : Prop := logReadsRow.holds Try.pinned (OpenSpec.ofChange logReadsSpec)

/-- ITS FALSE NEIGHBOUR: 'it returns false'. Refute it at one input. -/
def logReadsWrong : ChangeSpec := { name := "logReads", fn := fun _ => fun
  | [d1, d2] => { results := [.lit (.bool false)], args := [d1, d2] }
  | _ => none }
def LogReadsWrongFalsely : Prop := logReadsRow.holds Try.pinned (OpenSpec.ofChange logReadsWrong)

/-- 'gavellaw23.LogStops': WHATEVER THE INPUT: true; the input reads as it did. -/
def logStopsSpec : ChangeSpec := { name := "logStops", fn := fun _ => fun
  | [d] => { results := [.lit (.bool true)], args := [d] }
  | _ => none }
def logStopsRow : OpenClaim := { program := "ytalnipjaekpbhaa", sum := "c43ba02b44821aaf60ebc7ecf78ba7b623b1c01e0815fae4d86240bbd53f5016", func := "gavel/gavellaw23.LogStops", spec := "logStops", unfollowed := true, recurses := true, apart := false }
def LogStopsSaid : Prop := logStopsRow.holds Try.pinned (OpenSpec.ofChange logStopsSpec)

/-- ITS FALSE NEIGHBOUR: 'it returns false'. Refute it at one input. -/
def logStopsWrong : ChangeSpec := { name := "logStops", fn := fun _ => fun
  | [d] => { results := [.lit (.bool false)], args := [d] }
  | _ => none }
def LogStopsWrongFalsely : Prop := logStopsRow.holds Try.pinned (OpenSpec.ofChange logStopsWrong)

/-- 'gavellaw23.LogPlays': WHATEVER THE INPUT: true; the input reads as it did. -/
def logPlaysSpec : ChangeSpec := { name := "logPlays", fn := fun _ => fun
  | [d] => { results := [.lit (.bool true)], args := [d] }
  | _ => none }
def logPlaysRow : OpenClaim := { program := "ytalnipjaekpbhaa", sum := "c43ba02b44821aaf60ebc7ecf78ba7b623b1c01e0815fae4d86240bbd53f5016", func := "gavel/gavellaw23.LogPlays", spec := "logPlays", unfollowed := true, recurses := true, apart := false }
def LogPlaysSaid : Prop := logPlaysRow.holds Try.pinned (OpenSpec.ofChange logPlaysSpec)

/-- ITS FALSE NEIGHBOUR: 'it returns false'. Refute it at one input. -/
def logPlaysWrong : ChangeSpec := { name := "logPlays", fn := fun _ => fun
  | [d] => { results := [.lit (.bool false)], args := [d] }
  | _ => none }
def LogPlaysWrongFalsely : Prop := logPlaysRow.holds Try.pinned (OpenSpec.ofChange logPlaysWrong)

/- THE SECOND FORM. 'bulk': how many values and letters a reading holds, each counted each time it is reached (what is shared counts as often as it is met; a slice's spare places count too). A statement '..UptoSaid' is the law's where the arguments, and the package variables that the reading takes, are together of bulk at most 1048576: NARROWER than '..Said'. Prove '..Said' where nothing that the law and all that it calls make is longer than what came in: it says more and counts as full. Else prove '..UptoSaid'. A law counts once. -/
mutual
def uptoBulk {H : Type} : DataW H → Nat
  | .lit (.string bytes) => bytes.length + 1
  | .lit _ => 1
  | .nil => 1
  | .ptr d => uptoBulk d + 1
  | .slice elems spare => uptoBulkAll elems + uptoBulkAll spare + 1
  | .agg parts => uptoBulkAll parts + 1
  | .iface _ d => uptoBulk d + 1
  | .map entries => uptoBulkEntries entries + 1
  | .held _ => 1
def uptoBulkAll {H : Type} : List (DataW H) → Nat
  | [] => 0
  | d :: r => uptoBulk d + uptoBulkAll r
def uptoBulkEntries {H : Type} : List (Lit × DataW H) → Nat
  | [] => 0
  | x :: r => uptoBulkEntry x + uptoBulkEntries r
def uptoBulkEntry {H : Type} : Lit × DataW H → Nat
  | (.string bytes, d) => bytes.length + uptoBulk d + 1
  | (_, d) => uptoBulk d + 1
 end
def uptoSmall : (H : Type) → List (DataW H) → Bool := fun _ ds => decide (uptoBulkAll ds ≤ 1048576)
def OpenSpec.upto (s : _root_.Go.ChangeSpec) : _root_.Go.OpenSpec := { _root_.Go.OpenSpec.ofChange s with cond := some uptoSmall }

/-- 'gavellaw23.LogForms', WHERE WHAT IT READS IS OF BULK AT MOST 1048576: true; the input reads as it did. -/
def logFormsUptoRow : OpenClaim := { program := "ytalnipjaekpbhaa", sum := "c43ba02b44821aaf60ebc7ecf78ba7b623b1c01e0815fae4d86240bbd53f5016", func := "gavel/gavellaw23.LogForms", spec := "logForms", unfollowed := true, recurses := true, apart := false, narrowed := true }
def LogFormsUptoSaid : Prop := logFormsUptoRow.holds Try.pinned (OpenSpec.upto logFormsSpec)

/-- 'gavellaw23.LogApart', WHERE WHAT IT READS IS OF BULK AT MOST 1048576: true; the input reads as it did. -/
def logApartUptoRow : OpenClaim := { program := "ytalnipjaekpbhaa", sum := "c43ba02b44821aaf60ebc7ecf78ba7b623b1c01e0815fae4d86240bbd53f5016", func := "gavel/gavellaw23.LogApart", spec := "logApart", unfollowed := true, recurses := true, apart := false, narrowed := true }
def LogApartUptoSaid : Prop := logApartUptoRow.holds Try.pinned (OpenSpec.upto logApartSpec)

/-- 'gavellaw23.LogReads', WHERE WHAT IT READS IS OF BULK AT MOST 1048576: true; the input reads as it did. -/
def logReadsUptoRow : OpenClaim := { program := "ytalnipjaekpbhaa", sum := "c43ba02b44821aaf60ebc7ecf78ba7b623b1c01e0815fae4d86240bbd53f5016", func := "gavel/gavellaw23.LogReads", spec := "logReads", unfollowed := true, recurses := true, apart := false, narrowed := true }
def LogReadsUptoSaid : Prop := logReadsUptoRow.holds Try.pinned (OpenSpec.upto logReadsSpec)

/-- 'gavellaw23.LogStops', WHERE WHAT IT READS IS OF BULK AT MOST 1048576: true; the input reads as it did. -/
def logStopsUptoRow : OpenClaim := { program := "ytalnipjaekpbhaa", sum := "c43ba02b44821aaf60ebc7ecf78ba7b623b1c01e0815fae4d86240bbd53f5016", func := "gavel/gavellaw23.LogStops", spec := "logStops", unfollowed := true, recurses := true, apart := false, narrowed := true }
def LogStopsUptoSaid : Prop := logStopsUptoRow.holds Try.pinned (OpenSpec.upto logStopsSpec)

/-- 'gavellaw23.LogPlays', WHERE WHAT IT READS IS OF BULK AT MOST 1048576: true; the input reads as it did. -/
def logPlaysUptoRow : OpenClaim := { program := "ytalnipjaekpbhaa", sum := "c43ba02b44821aaf60ebc7ecf78ba7b623b1c01e0815fae4d86240bbd53f5016", func := "gavel/gavellaw23.LogPlays", spec := "logPlays", unfollowed := true, recurses := true, apart := false, narrowed := true }
def LogPlaysUptoSaid : Prop := logPlaysUptoRow.holds Try.pinned (OpenSpec.upto logPlaysSpec)

end Rows
end Go.Proofs.Ytalnipjaekpbhaa
