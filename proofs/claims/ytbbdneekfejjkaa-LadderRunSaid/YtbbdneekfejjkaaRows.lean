/-
  No cell of these rows narrows 'for every input' (looked for: loops, veiled, ifaces, maps, wideKeys, modest, calm, conditions, laid).
  DERIVED. THE GIVEN ROWS OF THIS SEAT. 4 by the template 'for every input the law returns true; each argument reads behind the call as it read before'; 0 by the template 'total and deterministic' (their statements: YtbbdneekfejjkaaTotals.lean).
  GIVEN WITH THE SEED: the statements are not yours to turn. If you find one false, say at which input.
  Laid BY PROGRAM, IN A SANDBOX (cutbox-rows.mjs): the forced cells as the released guide's own fill.sh prints them over the translation 164608eac43b3ea7… (all of the seat's roots in one cut). By AI agents, Wed Nov 11 2026. No macro, syntax, notation, axiom, sorry.
-/
import Derived.Test.YtbbdneekfejjkaaChecked
import GoSem.Claim
import GoSem.ClaimJoined
import GoSem.ClaimMapViews
import Derived.JoinedTies
import Derived.KernelRfl
namespace Go.Proofs.Ytbbdneekfejjkaa
/- THE CELL 'sum', in the pinned program and in every row, IS THE sha256 OF THE DUMP (.gsa) THAT YtbbdneekfejjkaaProg.lean LOADS. Nothing in Lean hashes anything: it is a label: what it is worth is what the hold of that sum in a sandbox is worth. -/
noncomputable def Try.pinned : Pinned := { name := "ytbbdneekfejjkaa", sum := "164608eac43b3ea7c5ba24a9184435556d9c8351ca5804bfcbb55bcb65bbbd98", checked := Try.checked }
namespace Rows
def none {H : Type} : Left H := { results := [], args := [] }

/-- 'gavellaw09.LadderBest': WHATEVER THE INPUT: true; the input reads as it did. -/
def ladderBestSpec : ChangeSpec := { name := "ladderBest", fn := fun _ => fun
  | [d1, d2, d3] => { results := [.lit (.bool true)], args := [d1, d2, d3] }
  | _ => none }
def ladderBestRow : OpenClaim := { program := "ytbbdneekfejjkaa", sum := "164608eac43b3ea7c5ba24a9184435556d9c8351ca5804bfcbb55bcb65bbbd98", func := "gavel/gavellaw09.LadderBest", spec := "ladderBest", unfollowed := true, recurses := true, apart := false }
def LadderBestSaid : Prop := ladderBestRow.holds Try.pinned (OpenSpec.ofChange ladderBestSpec)

/-- ITS FALSE NEIGHBOUR: 'it returns false'. Refute it at one input. -/
def ladderBestWrong : ChangeSpec := { name := "ladderBest", fn := fun _ => fun
  | [d1, d2, d3] => { results := [.lit (.bool false)], args := [d1, d2, d3] }
  | _ => none }
def LadderBestWrongFalsely : Prop := ladderBestRow.holds Try.pinned (OpenSpec.ofChange ladderBestWrong)

/-- 'gavellaw09.LadderBid': WHATEVER THE INPUT: true; the input reads as it did. -/
def ladderBidSpec : ChangeSpec := { name := "ladderBid", fn := fun _ => fun
  | [d1, d2, d3] => { results := [.lit (.bool true)], args := [d1, d2, d3] }
  | _ => none }
def ladderBidRow : OpenClaim := { program := "ytbbdneekfejjkaa", sum := "164608eac43b3ea7c5ba24a9184435556d9c8351ca5804bfcbb55bcb65bbbd98", func := "gavel/gavellaw09.LadderBid", spec := "ladderBid", unfollowed := true, recurses := true, apart := false }
def LadderBidSaid : Prop := ladderBidRow.holds Try.pinned (OpenSpec.ofChange ladderBidSpec)

/-- ITS FALSE NEIGHBOUR: 'it returns false'. Refute it at one input. -/
def ladderBidWrong : ChangeSpec := { name := "ladderBid", fn := fun _ => fun
  | [d1, d2, d3] => { results := [.lit (.bool false)], args := [d1, d2, d3] }
  | _ => none }
def LadderBidWrongFalsely : Prop := ladderBidRow.holds Try.pinned (OpenSpec.ofChange ladderBidWrong)

/-- 'gavellaw09.LadderStays': WHATEVER THE INPUT: true; the input reads as it did. -/
def ladderStaysSpec : ChangeSpec := { name := "ladderStays", fn := fun _ => fun
  | [d1, d2] => { results := [.lit (.bool true)], args := [d1, d2] }
  | _ => none }
def ladderStaysRow : OpenClaim := { program := "ytbbdneekfejjkaa", sum := "164608eac43b3ea7c5ba24a9184435556d9c8351ca5804bfcbb55bcb65bbbd98", func := "gavel/gavellaw09.LadderStays", spec := "ladderStays", unfollowed := true, recurses := true, apart := false }
def LadderStaysSaid : Prop := ladderStaysRow.holds Try.pinned (OpenSpec.ofChange ladderStaysSpec)

/-- ITS FALSE NEIGHBOUR: 'it returns false'. Refute it at one input. -/
def ladderStaysWrong : ChangeSpec := { name := "ladderStays", fn := fun _ => fun
  | [d1, d2] => { results := [.lit (.bool false)], args := [d1, d2] }
  | _ => none }
def LadderStaysWrongFalsely : Prop := ladderStaysRow.holds Try.pinned (OpenSpec.ofChange ladderStaysWrong)

/-- 'gavellaw09.LadderRun': WHATEVER THE INPUT: true; the input reads as it did. -/
def ladderRunSpec : ChangeSpec := { name := "ladderRun", fn := fun _ => fun
  | [d1, d2, d3] => { results := [.lit (.bool true)], args := [d1, d2, d3] }
  | _ => none }
def ladderRunRow : OpenClaim := { program := "ytbbdneekfejjkaa", sum := "164608eac43b3ea7c5ba24a9184435556d9c8351ca5804bfcbb55bcb65bbbd98", func := "gavel/gavellaw09.LadderRun", spec := "ladderRun", unfollowed := true, recurses := true, apart := false }
def LadderRunSaid : Prop := ladderRunRow.holds Try.pinned (OpenSpec.ofChange ladderRunSpec)

/-- ITS FALSE NEIGHBOUR: 'it returns false'. Refute it at one input. -/
def ladderRunWrong : ChangeSpec := { name := "ladderRun", fn := fun _ => fun
  | [d1, d2, d3] => { results := [.lit (.bool false)], args := [d1, d2, d3] }
  | _ => none }
def LadderRunWrongFalsely : Prop := ladderRunRow.holds Try.pinned (OpenSpec.ofChange ladderRunWrong)

/- THE SECOND FORM. 'bulk': how many values and letters a reading holds, each counted each time it is reached (what is shared counts as often as it is met; a slice's spare places count too). A statement '..UptoSaid' is the law's where the arguments, and the package variables that the reading takes, are together of bulk at most 1048576: NARROWER than '..Said'. Prove '..Said' where nothing that the law and all that it calls make is longer than what came in: it says more and counts as full. Else prove '..UptoSaid'. A law counts once. -/
mutual
def uptoBulk {H : Type} : DataW H → Nat
  | .lit (.string bytes) => bytes.length + 1
  | .lit _ => 1
  | .nil => 1
  | .ptr d => uptoBulk d + 1
  | .slice elems spare => uptoBulkAll elems + uptoBulkAll spare + 1
  | .agg parts => uptoBulkAll parts + 1
  | .iface _ d => uptoBulk d + 1
  | .map entries => uptoBulkEntries entries + 1
  | .held _ => 1
def uptoBulkAll {H : Type} : List (DataW H) → Nat
  | [] => 0
  | d :: r => uptoBulk d + uptoBulkAll r
def uptoBulkEntries {H : Type} : List (Lit × DataW H) → Nat
  | [] => 0
  | x :: r => uptoBulkEntry x + uptoBulkEntries r
def uptoBulkEntry {H : Type} : Lit × DataW H → Nat
  | (.string bytes, d) => bytes.length + uptoBulk d + 1
  | (_, d) => uptoBulk d + 1
 end
def uptoSmall : (H : Type) → List (DataW H) → Bool := fun _ ds => decide (uptoBulkAll ds ≤ 1048576)
def OpenSpec.upto (s : _root_.Go.ChangeSpec) : _root_.Go.OpenSpec := { _root_.Go.OpenSpec.ofChange s with cond := some uptoSmall }

/-- 'gavellaw09.LadderBest', WHERE WHAT IT READS IS OF BULK AT MOST 1048576: true; the input reads as it did. -/
def ladderBestUptoRow : OpenClaim := { program := "ytbbdneekfejjkaa", sum := "164608eac43b3ea7c5ba24a9184435556d9c8351ca5804bfcbb55bcb65bbbd98", func := "gavel/gavellaw09.LadderBest", spec := "ladderBest", unfollowed := true, recurses := true, apart := false, narrowed := true }
def LadderBestUptoSaid : Prop := ladderBestUptoRow.holds Try.pinned (OpenSpec.upto ladderBestSpec)

/-- 'gavellaw09.LadderBid', WHERE WHAT IT READS IS OF BULK AT MOST 1048576: true; the input reads as it did. -/
def ladderBidUptoRow : OpenClaim := { program := "ytbbdneekfejjkaa", sum := "164608eac43b3ea7c5ba24a9184435556d9c8351ca5804bfcbb55bcb65bbbd98", func := "gavel/gavellaw09.LadderBid", spec := "ladderBid", unfollowed := true, recurses := true, apart := false, narrowed := true }
def LadderBidUptoSaid : Prop := ladderBidUptoRow.holds Try.pinned (OpenSpec.upto ladderBidSpec)

/-- 'gavellaw09.LadderStays', WHERE WHAT IT READS IS OF BULK AT MOST 1048576: true; the input reads as it did. -/
def ladderStaysUptoRow : OpenClaim := { program := "ytbbdneekfejjkaa", sum := "164608eac43b3ea7c5ba24a9184435556d9c8351ca5804bfcbb55bcb65bbbd98", func := "gavel/gavellaw09.LadderStays", spec := "ladderStays", unfollowed := true, recurses := true, apart := false, narrowed := true }
def LadderStaysUptoSaid : Prop := ladderStaysUptoRow.holds Try.pinned (OpenSpec.upto ladderStaysSpec)

/-- 'gavellaw09.LadderRun', WHERE WHAT IT READS IS OF BULK AT MOST 1048576: true; the input reads as it did. -/
def ladderRunUptoRow : OpenClaim := { program := "ytbbdneekfejjkaa", sum := "164608eac43b3ea7c5ba24a9184435556d9c8351ca5804bfcbb55bcb65bbbd98", func := "gavel/gavellaw09.LadderRun", spec := "ladderRun", unfollowed := true, recurses := true, apart := false, narrowed := true }
def LadderRunUptoSaid : Prop := ladderRunUptoRow.holds Try.pinned (OpenSpec.upto ladderRunSpec)

end Rows
end Go.Proofs.Ytbbdneekfejjkaa
