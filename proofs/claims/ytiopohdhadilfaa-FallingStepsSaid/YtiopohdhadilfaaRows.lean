/-
  No cell of these rows narrows 'for every input' (looked for: loops, veiled, ifaces, maps, wideKeys, modest, calm, conditions, laid).
  DERIVED. THE GIVEN ROWS OF THIS SEAT. 5 by the template 'for every input the law returns true; each argument reads behind the call as it read before'; 0 by the template 'total and deterministic' (their statements: YtiopohdhadilfaaTotals.lean).
  GIVEN WITH THE SEED: the statements are not yours to turn. If you find one false, say at which input.
  Laid BY PROGRAM, IN A SANDBOX (cutbox-rows.mjs): the forced cells as the released guide's own fill.sh prints them over the translation 84732f24ed19bc12… (all of the seat's roots in one cut). By AI agents, Wed Nov 11 2026. No macro, syntax, notation, axiom, sorry.
-/
import Derived.Test.YtiopohdhadilfaaChecked
import GoSem.Claim
import GoSem.ClaimJoined
import GoSem.ClaimMapViews
import Derived.JoinedTies
import Derived.KernelRfl
namespace Go.Proofs.Ytiopohdhadilfaa
/- THE CELL 'sum', in the pinned program and in every row, IS THE sha256 OF THE DUMP (.gsa) THAT YtiopohdhadilfaaProg.lean LOADS. Nothing in Lean hashes anything: it is a label: what it is worth is what the hold of that sum in a sandbox is worth. -/
noncomputable def Try.pinned : Pinned := { name := "ytiopohdhadilfaa", sum := "84732f24ed19bc126fdff67f08d15435571a380e3ace72d78ea9676bde433085", checked := Try.checked }
namespace Rows
def none {H : Type} : Left H := { results := [], args := [] }

/-- 'gavellaw10.FallingTakes': WHATEVER THE INPUT: true; the input reads as it did. -/
def fallingTakesSpec : ChangeSpec := { name := "fallingTakes", fn := fun _ => fun
  | [d1, d2] => { results := [.lit (.bool true)], args := [d1, d2] }
  | _ => none }
def fallingTakesRow : OpenClaim := { program := "ytiopohdhadilfaa", sum := "84732f24ed19bc126fdff67f08d15435571a380e3ace72d78ea9676bde433085", func := "gavel/gavellaw10.FallingTakes", spec := "fallingTakes", apart := false }
def FallingTakesSaid : Prop := fallingTakesRow.holds Try.pinned (OpenSpec.ofChange fallingTakesSpec)

/-- ITS FALSE NEIGHBOUR: 'it returns false'. Refute it at one input. -/
def fallingTakesWrong : ChangeSpec := { name := "fallingTakes", fn := fun _ => fun
  | [d1, d2] => { results := [.lit (.bool false)], args := [d1, d2] }
  | _ => none }
def FallingTakesWrongFalsely : Prop := fallingTakesRow.holds Try.pinned (OpenSpec.ofChange fallingTakesWrong)

/-- 'gavellaw10.FallingMeans': WHATEVER THE INPUT: true; the input reads as it did. -/
def fallingMeansSpec : ChangeSpec := { name := "fallingMeans", fn := fun _ => fun
  | [d1, d2, d3] => { results := [.lit (.bool true)], args := [d1, d2, d3] }
  | _ => none }
def fallingMeansRow : OpenClaim := { program := "ytiopohdhadilfaa", sum := "84732f24ed19bc126fdff67f08d15435571a380e3ace72d78ea9676bde433085", func := "gavel/gavellaw10.FallingMeans", spec := "fallingMeans", apart := false }
def FallingMeansSaid : Prop := fallingMeansRow.holds Try.pinned (OpenSpec.ofChange fallingMeansSpec)

/-- ITS FALSE NEIGHBOUR: 'it returns false'. Refute it at one input. -/
def fallingMeansWrong : ChangeSpec := { name := "fallingMeans", fn := fun _ => fun
  | [d1, d2, d3] => { results := [.lit (.bool false)], args := [d1, d2, d3] }
  | _ => none }
def FallingMeansWrongFalsely : Prop := fallingMeansRow.holds Try.pinned (OpenSpec.ofChange fallingMeansWrong)

/-- 'gavellaw10.FallingSteps': WHATEVER THE INPUT: true; the input reads as it did. -/
def fallingStepsSpec : ChangeSpec := { name := "fallingSteps", fn := fun _ => fun
  | [d1, d2] => { results := [.lit (.bool true)], args := [d1, d2] }
  | _ => none }
def fallingStepsRow : OpenClaim := { program := "ytiopohdhadilfaa", sum := "84732f24ed19bc126fdff67f08d15435571a380e3ace72d78ea9676bde433085", func := "gavel/gavellaw10.FallingSteps", spec := "fallingSteps", unfollowed := true, recurses := true, apart := false }
def FallingStepsSaid : Prop := fallingStepsRow.holds Try.pinned (OpenSpec.ofChange fallingStepsSpec)

/-- ITS FALSE NEIGHBOUR: 'it returns false'. Refute it at one input. -/
def fallingStepsWrong : ChangeSpec := { name := "fallingSteps", fn := fun _ => fun
  | [d1, d2] => { results := [.lit (.bool false)], args := [d1, d2] }
  | _ => none }
def FallingStepsWrongFalsely : Prop := fallingStepsRow.holds Try.pinned (OpenSpec.ofChange fallingStepsWrong)

/-- 'gavellaw10.FallingPlays': WHATEVER THE INPUT: true; the input reads as it did. -/
def fallingPlaysSpec : ChangeSpec := { name := "fallingPlays", fn := fun _ => fun
  | [d1, d2] => { results := [.lit (.bool true)], args := [d1, d2] }
  | _ => none }
def fallingPlaysRow : OpenClaim := { program := "ytiopohdhadilfaa", sum := "84732f24ed19bc126fdff67f08d15435571a380e3ace72d78ea9676bde433085", func := "gavel/gavellaw10.FallingPlays", spec := "fallingPlays", apart := false }
def FallingPlaysSaid : Prop := fallingPlaysRow.holds Try.pinned (OpenSpec.ofChange fallingPlaysSpec)

/-- ITS FALSE NEIGHBOUR: 'it returns false'. Refute it at one input. -/
def fallingPlaysWrong : ChangeSpec := { name := "fallingPlays", fn := fun _ => fun
  | [d1, d2] => { results := [.lit (.bool false)], args := [d1, d2] }
  | _ => none }
def FallingPlaysWrongFalsely : Prop := fallingPlaysRow.holds Try.pinned (OpenSpec.ofChange fallingPlaysWrong)

/-- 'gavellaw10.FallingNames': WHATEVER THE INPUT: true; the input reads as it did. -/
def fallingNamesSpec : ChangeSpec := { name := "fallingNames", fn := fun _ => fun
  | [] => { results := [.lit (.bool true)], args := [] }
  | _ => none }
def fallingNamesRow : OpenClaim := { program := "ytiopohdhadilfaa", sum := "84732f24ed19bc126fdff67f08d15435571a380e3ace72d78ea9676bde433085", func := "gavel/gavellaw10.FallingNames", spec := "fallingNames", apart := false }
def FallingNamesSaid : Prop := fallingNamesRow.holds Try.pinned (OpenSpec.ofChange fallingNamesSpec)

/-- ITS FALSE NEIGHBOUR: 'it returns false'. Refute it at one input. -/
def fallingNamesWrong : ChangeSpec := { name := "fallingNames", fn := fun _ => fun
  | [] => { results := [.lit (.bool false)], args := [] }
  | _ => none }
def FallingNamesWrongFalsely : Prop := fallingNamesRow.holds Try.pinned (OpenSpec.ofChange fallingNamesWrong)

/- THE SECOND FORM. 'bulk': how many values and letters a reading holds, each counted each time it is reached (what is shared counts as often as it is met; a slice's spare places count too). A statement '..UptoSaid' is the law's where the arguments, and the package variables that the reading takes, are together of bulk at most 1048576: NARROWER than '..Said'. Prove '..Said' where nothing that the law and all that it calls make is longer than what came in: it says more and counts as full. Else prove '..UptoSaid'. A law counts once. -/
mutual
def uptoBulk {H : Type} : DataW H → Nat
  | .lit (.string bytes) => bytes.length + 1
  | .lit _ => 1
  | .nil => 1
  | .ptr d => uptoBulk d + 1
  | .slice elems spare => uptoBulkAll elems + uptoBulkAll spare + 1
  | .agg parts => uptoBulkAll parts + 1
  | .iface _ d => uptoBulk d + 1
  | .map entries => uptoBulkEntries entries + 1
  | .held _ => 1
def uptoBulkAll {H : Type} : List (DataW H) → Nat
  | [] => 0
  | d :: r => uptoBulk d + uptoBulkAll r
def uptoBulkEntries {H : Type} : List (Lit × DataW H) → Nat
  | [] => 0
  | x :: r => uptoBulkEntry x + uptoBulkEntries r
def uptoBulkEntry {H : Type} : Lit × DataW H → Nat
  | (.string bytes, d) => bytes.length + uptoBulk d + 1
  | (_, d) => uptoBulk d + 1
 end
def uptoSmall : (H : Type) → List (DataW H) → Bool := fun _ ds => decide (uptoBulkAll ds ≤ 1048576)
def OpenSpec.upto (s : _root_.Go.ChangeSpec) : _root_.Go.OpenSpec := { _root_.Go.OpenSpec.ofChange s with cond := some uptoSmall }

/-- 'gavellaw10.FallingTakes', WHERE WHAT IT READS IS OF BULK AT MOST 1048576: true; the input reads as it did. -/
def fallingTakesUptoRow : OpenClaim := { program := "ytiopohdhadilfaa", sum := "84732f24ed19bc126fdff67f08d15435571a380e3ace72d78ea9676bde433085", func := "gavel/gavellaw10.FallingTakes", spec := "fallingTakes", apart := false, narrowed := true }
def FallingTakesUptoSaid : Prop := fallingTakesUptoRow.holds Try.pinned (OpenSpec.upto fallingTakesSpec)

/-- 'gavellaw10.FallingMeans', WHERE WHAT IT READS IS OF BULK AT MOST 1048576: true; the input reads as it did. -/
def fallingMeansUptoRow : OpenClaim := { program := "ytiopohdhadilfaa", sum := "84732f24ed19bc126fdff67f08d15435571a380e3ace72d78ea9676bde433085", func := "gavel/gavellaw10.FallingMeans", spec := "fallingMeans", apart := false, narrowed := true }
def FallingMeansUptoSaid : Prop := fallingMeansUptoRow.holds Try.pinned (OpenSpec.upto fallingMeansSpec)

/-- 'gavellaw10.FallingSteps', WHERE WHAT IT READS IS OF BULK AT MOST 1048576: true; the input reads as it did. -/
def fallingStepsUptoRow : OpenClaim := { program := "ytiopohdhadilfaa", sum := "84732f24ed19bc126fdff67f08d15435571a380e3ace72d78ea9676bde433085", func := "gavel/gavellaw10.FallingSteps", spec := "fallingSteps", unfollowed := true, recurses := true, apart := false, narrowed := true }
def FallingStepsUptoSaid : Prop := fallingStepsUptoRow.holds Try.pinned (OpenSpec.upto fallingStepsSpec)

/-- 'gavellaw10.FallingPlays', WHERE WHAT IT READS IS OF BULK AT MOST 1048576: true; the input reads as it did. -/
def fallingPlaysUptoRow : OpenClaim := { program := "ytiopohdhadilfaa", sum := "84732f24ed19bc126fdff67f08d15435571a380e3ace72d78ea9676bde433085", func := "gavel/gavellaw10.FallingPlays", spec := "fallingPlays", apart := false, narrowed := true }
def FallingPlaysUptoSaid : Prop := fallingPlaysUptoRow.holds Try.pinned (OpenSpec.upto fallingPlaysSpec)

/-- 'gavellaw10.FallingNames', WHERE WHAT IT READS IS OF BULK AT MOST 1048576: true; the input reads as it did. -/
def fallingNamesUptoRow : OpenClaim := { program := "ytiopohdhadilfaa", sum := "84732f24ed19bc126fdff67f08d15435571a380e3ace72d78ea9676bde433085", func := "gavel/gavellaw10.FallingNames", spec := "fallingNames", apart := false, narrowed := true }
def FallingNamesUptoSaid : Prop := fallingNamesUptoRow.holds Try.pinned (OpenSpec.upto fallingNamesSpec)

end Rows
end Go.Proofs.Ytiopohdhadilfaa
