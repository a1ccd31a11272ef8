/-
  No cell of these rows narrows 'for every input' (looked for: loops, veiled, ifaces, maps, wideKeys, modest, calm, conditions, laid).
  DERIVED. THE GIVEN ROWS OF THIS SEAT. 6 by the template 'for every input the law returns true; each argument reads behind the call as it read before'; 0 by the template 'total and deterministic' (their statements: YtehpjipmlpaflaaTotals.lean).
  GIVEN WITH THE SEED: the statements are not yours to turn. If you find one false, say at which input.
  Laid BY PROGRAM, IN A SANDBOX (cutbox-rows.mjs): the forced cells as the released guide's own fill.sh prints them over the translation 08c3b52d3d4b5b62… (all of the seat's roots in one cut). By AI agents, Wed Nov 11 2026. No macro, syntax, notation, axiom, sorry.
-/
import Derived.Test.YtehpjipmlpaflaaChecked
import GoSem.Claim
import GoSem.ClaimJoined
import GoSem.ClaimMapViews
import Derived.JoinedTies
import Derived.KernelRfl
namespace Go.Proofs.Ytehpjipmlpaflaa
/- THE CELL 'sum', in the pinned program and in every row, IS THE sha256 OF THE DUMP (.gsa) THAT YtehpjipmlpaflaaProg.lean LOADS. Nothing in Lean hashes anything: it is a label: what it is worth is what the hold of that sum in a sandbox is worth. -/
noncomputable def Try.pinned : Pinned := { name := "ytehpjipmlpaflaa", sum := "08c3b52d3d4b5b62ac0839402918dd16c42e6cd0b70073d0ce33203935297482", checked := Try.checked }
namespace Rows
def none {H : Type} : Left H := { results := [], args := [] }

/-- 'gavellaw12.UnitsSell': WHATEVER THE INPUT: true; the input reads as it did. -/
def unitsSellSpec : ChangeSpec := { name := "unitsSell", fn := fun _ => fun
  | [d1, d2] => { results := [.lit (.bool true)], args := [d1, d2] }
  | _ => none }
def unitsSellRow : OpenClaim := { program := "ytehpjipmlpaflaa", sum := "08c3b52d3d4b5b62ac0839402918dd16c42e6cd0b70073d0ce33203935297482", func := "gavel/gavellaw12.UnitsSell", spec := "unitsSell", unfollowed := true, recurses := true, apart := false }
def UnitsSellSaid : Prop := unitsSellRow.holds Try.pinned (OpenSpec.ofChange unitsSellSpec)

/-- ITS FALSE NEIGHBOUR: 'it returns false'. Refute it at one input. -/
def unitsSellWrong : ChangeSpec := { name := "unitsSell", fn := fun _ => fun
  | [d1, d2] => { results := [.lit (.bool false)], args := [d1, d2] }
  | _ => none }
def UnitsSellWrongFalsely : Prop := unitsSellRow.holds Try.pinned (OpenSpec.ofChange unitsSellWrong)

/-- 'gavellaw12.UnitsOrder': WHATEVER THE INPUT: true; the input reads as it did. -/
def unitsOrderSpec : ChangeSpec := { name := "unitsOrder", fn := fun _ => fun
  | [d1, d2] => { results := [.lit (.bool true)], args := [d1, d2] }
  | _ => none }
def unitsOrderRow : OpenClaim := { program := "ytehpjipmlpaflaa", sum := "08c3b52d3d4b5b62ac0839402918dd16c42e6cd0b70073d0ce33203935297482", func := "gavel/gavellaw12.UnitsOrder", spec := "unitsOrder", unfollowed := true, recurses := true, apart := false }
def UnitsOrderSaid : Prop := unitsOrderRow.holds Try.pinned (OpenSpec.ofChange unitsOrderSpec)

/-- ITS FALSE NEIGHBOUR: 'it returns false'. Refute it at one input. -/
def unitsOrderWrong : ChangeSpec := { name := "unitsOrder", fn := fun _ => fun
  | [d1, d2] => { results := [.lit (.bool false)], args := [d1, d2] }
  | _ => none }
def UnitsOrderWrongFalsely : Prop := unitsOrderRow.holds Try.pinned (OpenSpec.ofChange unitsOrderWrong)

/-- 'gavellaw12.UnitsCheck': WHATEVER THE INPUT: true; the input reads as it did. -/
def unitsCheckSpec : ChangeSpec := { name := "unitsCheck", fn := fun _ => fun
  | [d1, d2, d3] => { results := [.lit (.bool true)], args := [d1, d2, d3] }
  | _ => none }
def unitsCheckRow : OpenClaim := { program := "ytehpjipmlpaflaa", sum := "08c3b52d3d4b5b62ac0839402918dd16c42e6cd0b70073d0ce33203935297482", func := "gavel/gavellaw12.UnitsCheck", spec := "unitsCheck", unfollowed := true, recurses := true, apart := false }
def UnitsCheckSaid : Prop := unitsCheckRow.holds Try.pinned (OpenSpec.ofChange unitsCheckSpec)

/-- ITS FALSE NEIGHBOUR: 'it returns false'. Refute it at one input. -/
def unitsCheckWrong : ChangeSpec := { name := "unitsCheck", fn := fun _ => fun
  | [d1, d2, d3] => { results := [.lit (.bool false)], args := [d1, d2, d3] }
  | _ => none }
def UnitsCheckWrongFalsely : Prop := unitsCheckRow.holds Try.pinned (OpenSpec.ofChange unitsCheckWrong)

/-- 'gavellaw12.UnitsRight': WHATEVER THE INPUT: true; the input reads as it did. -/
def unitsRightSpec : ChangeSpec := { name := "unitsRight", fn := fun _ => fun
  | [d] => { results := [.lit (.bool true)], args := [d] }
  | _ => none }
def unitsRightRow : OpenClaim := { program := "ytehpjipmlpaflaa", sum := "08c3b52d3d4b5b62ac0839402918dd16c42e6cd0b70073d0ce33203935297482", func := "gavel/gavellaw12.UnitsRight", spec := "unitsRight", unfollowed := true, recurses := true, apart := false }
def UnitsRightSaid : Prop := unitsRightRow.holds Try.pinned (OpenSpec.ofChange unitsRightSpec)

/-- ITS FALSE NEIGHBOUR: 'it returns false'. Refute it at one input. -/
def unitsRightWrong : ChangeSpec := { name := "unitsRight", fn := fun _ => fun
  | [d] => { results := [.lit (.bool false)], args := [d] }
  | _ => none }
def UnitsRightWrongFalsely : Prop := unitsRightRow.holds Try.pinned (OpenSpec.ofChange unitsRightWrong)

/-- 'gavellaw12.UnitsBetter': WHATEVER THE INPUT: true; the input reads as it did. -/
def unitsBetterSpec : ChangeSpec := { name := "unitsBetter", fn := fun _ => fun
  | [d1, d2, d3] => { results := [.lit (.bool true)], args := [d1, d2, d3] }
  | _ => none }
def unitsBetterRow : OpenClaim := { program := "ytehpjipmlpaflaa", sum := "08c3b52d3d4b5b62ac0839402918dd16c42e6cd0b70073d0ce33203935297482", func := "gavel/gavellaw12.UnitsBetter", spec := "unitsBetter", unfollowed := true, recurses := true, apart := false }
def UnitsBetterSaid : Prop := unitsBetterRow.holds Try.pinned (OpenSpec.ofChange unitsBetterSpec)

/-- ITS FALSE NEIGHBOUR: 'it returns false'. Refute it at one input. -/
def unitsBetterWrong : ChangeSpec := { name := "unitsBetter", fn := fun _ => fun
  | [d1, d2, d3] => { results := [.lit (.bool false)], args := [d1, d2, d3] }
  | _ => none }
def UnitsBetterWrongFalsely : Prop := unitsBetterRow.holds Try.pinned (OpenSpec.ofChange unitsBetterWrong)

/-- 'gavellaw12.UnitsTruth': WHATEVER THE INPUT: true; the input reads as it did. -/
def unitsTruthSpec : ChangeSpec := { name := "unitsTruth", fn := fun _ => fun
  | [d1, d2, d3] => { results := [.lit (.bool true)], args := [d1, d2, d3] }
  | _ => none }
def unitsTruthRow : OpenClaim := { program := "ytehpjipmlpaflaa", sum := "08c3b52d3d4b5b62ac0839402918dd16c42e6cd0b70073d0ce33203935297482", func := "gavel/gavellaw12.UnitsTruth", spec := "unitsTruth", unfollowed := true, recurses := true, apart := false }
def UnitsTruthSaid : Prop := unitsTruthRow.holds Try.pinned (OpenSpec.ofChange unitsTruthSpec)

/-- ITS FALSE NEIGHBOUR: 'it returns false'. Refute it at one input. -/
def unitsTruthWrong : ChangeSpec := { name := "unitsTruth", fn := fun _ => fun
  | [d1, d2, d3] => { results := [.lit (.bool false)], args := [d1, d2, d3] }
  | _ => none }
def UnitsTruthWrongFalsely : Prop := unitsTruthRow.holds Try.pinned (OpenSpec.ofChange unitsTruthWrong)

/- THE SECOND FORM. 'bulk': how many values and letters a reading holds, each counted each time it is reached (what is shared counts as often as it is met; a slice's spare places count too). A statement '..UptoSaid' is the law's where the arguments, and the package variables that the reading takes, are together of bulk at most 1048576: NARROWER than '..Said'. Prove '..Said' where nothing that the law and all that it calls make is longer than what came in: it says more and counts as full. Else prove '..UptoSaid'. A law counts once. -/
mutual
def uptoBulk {H : Type} : DataW H → Nat
  | .lit (.string bytes) => bytes.length + 1
  | .lit _ => 1
  | .nil => 1
  | .ptr d => uptoBulk d + 1
  | .slice elems spare => uptoBulkAll elems + uptoBulkAll spare + 1
  | .agg parts => uptoBulkAll parts + 1
  | .iface _ d => uptoBulk d + 1
  | .map entries => uptoBulkEntries entries + 1
  | .held _ => 1
def uptoBulkAll {H : Type} : List (DataW H) → Nat
  | [] => 0
  | d :: r => uptoBulk d + uptoBulkAll r
def uptoBulkEntries {H : Type} : List (Lit × DataW H) → Nat
  | [] => 0
  | x :: r => uptoBulkEntry x + uptoBulkEntries r
def uptoBulkEntry {H : Type} : Lit × DataW H → Nat
  | (.string bytes, d) => bytes.length + uptoBulk d + 1
  | (_, d) => uptoBulk d + 1
 end
def uptoSmall : (H : Type) → List (DataW H) → Bool := fun _ ds => decide (uptoBulkAll ds ≤ 1048576)
def OpenSpec.upto (s : _root_.Go.ChangeSpec) : _root_.Go.OpenSpec := { _root_.Go.OpenSpec.ofChange s with cond := some uptoSmall }

/-- 'gavellaw12.UnitsSell', WHERE WHAT IT READS IS OF BULK AT MOST 1048576: true; the input reads as it did. -/
def unitsSellUptoRow : OpenClaim := { program := "ytehpjipmlpaflaa", sum := "08c3b52d3d4b5b62ac0839402918dd16c42e6cd0b70073d0ce33203935297482", func := "gavel/gavellaw12.UnitsSell", spec := "unitsSell", unfollowed := true, recurses := true, apart := false, narrowed := true }
def UnitsSellUptoSaid : Prop := unitsSellUptoRow.holds Try.pinned (OpenSpec.upto unitsSellSpec)

/-- 'gavellaw12.UnitsOrder', WHERE WHAT IT READS IS OF BULK AT MOST 1048576: true; the input reads as it did. -/
def unitsOrderUptoRow : OpenClaim := { program := "ytehpjipmlpaflaa", sum := "08c3b52d3d4b5b62ac0839402918dd16c42e6cd0b70073d0ce33203935297482", func := "gavel/gavellaw12.UnitsOrder", spec := "unitsOrder", unfollowed := true, recurses := true, apart := false, narrowed := true }
def UnitsOrderUptoSaid : Prop := unitsOrderUptoRow.holds Try.pinned (OpenSpec.upto unitsOrderSpec)

/-- 'gavellaw12.UnitsCheck', WHERE WHAT IT READS IS OF BULK AT MOST 1048576: true; the input reads as it did. -/
def unitsCheckUptoRow : OpenClaim := { program := "ytehpjipmlpaflaa", sum := "08c3b52d3d4b5b62ac0839402918dd16c42e6cd0b70073d0ce33203935297482", func := "gavel/gavellaw12.UnitsCheck", spec := "unitsCheck", unfollowed := true, recurses := true, apart := false, narrowed := true }
def UnitsCheckUptoSaid : Prop := unitsCheckUptoRow.holds Try.pinned (OpenSpec.upto unitsCheckSpec)

/-- 'gavellaw12.UnitsRight', WHERE WHAT IT READS IS OF BULK AT MOST 1048576: true; the input reads as it did. -/
def unitsRightUptoRow : OpenClaim := { program := "ytehpjipmlpaflaa", sum := "08c3b52d3d4b5b62ac0839402918dd16c42e6cd0b70073d0ce33203935297482", func := "gavel/gavellaw12.UnitsRight", spec := "unitsRight", unfollowed := true, recurses := true, apart := false, narrowed := true }
def UnitsRightUptoSaid : Prop := unitsRightUptoRow.holds Try.pinned (OpenSpec.upto unitsRightSpec)

/-- 'gavellaw12.UnitsBetter', WHERE WHAT IT READS IS OF BULK AT MOST 1048576: true; the input reads as it did. -/
def unitsBetterUptoRow : OpenClaim := { program := "ytehpjipmlpaflaa", sum := "08c3b52d3d4b5b62ac0839402918dd16c42e6cd0b70073d0ce33203935297482", func := "gavel/gavellaw12.UnitsBetter", spec := "unitsBetter", unfollowed := true, recurses := true, apart := false, narrowed := true }
def UnitsBetterUptoSaid : Prop := unitsBetterUptoRow.holds Try.pinned (OpenSpec.upto unitsBetterSpec)

/-- 'gavellaw12.UnitsTruth', WHERE WHAT IT READS IS OF BULK AT MOST 1048576: true; the input reads as it did. -/
def unitsTruthUptoRow : OpenClaim := { program := "ytehpjipmlpaflaa", sum := "08c3b52d3d4b5b62ac0839402918dd16c42e6cd0b70073d0ce33203935297482", func := "gavel/gavellaw12.UnitsTruth", spec := "unitsTruth", unfollowed := true, recurses := true, apart := false, narrowed := true }
def UnitsTruthUptoSaid : Prop := unitsTruthUptoRow.holds Try.pinned (OpenSpec.upto unitsTruthSpec)

end Rows
end Go.Proofs.Ytehpjipmlpaflaa
