import Derived.Test.YtimabgakemgldaaT35
import Derived.Test.YtimabgakemgldaaT11
import Derived.Laws.LoneSync
import Derived.WalkKit
import Derived.StillTailTactics
import Derived.Deep.RegionLaw
import Derived.Deep.RegionHeld3
import Derived.Laws.OwnMore
import Derived.Deep.Matrix
import Derived.BigQuiet
import Derived.Deep.QuietTactic
import Derived.Laws.EntriesVeiled
namespace Go.Proofs.Ytimabgakemgldaa
open Go.ChangeShapes Go.WideShapes Go.ChangeAt Go.RowKit Go.Deep
set_option linter.unusedSimpArgs false
set_option linter.unusedVariables false

set_option maxRecDepth 100000 in
set_option maxHeartbeats 1000000 in
theorem step_hit (kb tb wp fb : Nat) (cb : Array Value) (w : World) (Q : World → Prop) (eb : ∀ w, (callFunc fb cb).run Try.prog w = .ok (.enter fb cb) w)
    (c3 : w.cell? ⟨kb, 3, none⟩ = some (.pointer (some ⟨tb, 0, none⟩))) (c4 : w.cell? ⟨kb, 4, none⟩ = some (.bool true)) (p1 : w.cell? ⟨tb, 1, none⟩ = some (.func (.func fb) #[] cb))
    (hp : Calls Try.prog fb cb w fun e w' => e = .returned (.bool true) ∧ Q w') :
    Calls Try.prog 43 #[.pointer (some ⟨kb, 0, none⟩), .pointer (some ⟨wp, 0, none⟩)] w fun e w' => e = .returned (.bool true) ∧ Q w' := by
  have HP := hide hp
  clear hp
  go_enter Try.func43, Try.ntmps43
  go_wp2_with fail
  refine HP.out.mono ?_
  rintro e w' ⟨rfl, hq⟩
  have HQ := hide hq
  clear hq
  go_wp2
  go_ret
  exact ⟨rfl, HQ.out⟩
set_option maxRecDepth 100000 in
set_option maxHeartbeats 1000000 in
theorem step_miss (kb tb wp fa fb : Nat) (ca cb : Array Value) (w : World) (b : Bool) (Q : World → Prop) (ea : ∀ w, (callFunc fa ca).run Try.prog w = .ok (.enter fa ca) w) (eb : ∀ w, (callFunc fb cb).run Try.prog w = .ok (.enter fb cb) w)
    (c3 : w.cell? ⟨kb, 3, none⟩ = some (.pointer (some ⟨tb, 0, none⟩))) (c4 : w.cell? ⟨kb, 4, none⟩ = some (.bool true)) (p1 : w.cell? ⟨tb, 1, none⟩ = some (.func (.func fb) #[] cb)) (hne : tb ≠ kb)
    (hp : Calls Try.prog fb cb w fun e w1 => e = .returned (.bool false) ∧ w1.cell? ⟨kb, 3, none⟩ = some (.pointer (some ⟨tb, 0, none⟩)) ∧ w1.cell? ⟨kb, 4, none⟩ = some (.bool true) ∧ w1.frozen? ⟨kb, 4, none⟩ = false ∧ w1.cell? ⟨tb, 0, none⟩ = some (.func (.func fa) #[] ca) ∧ Calls Try.prog fa ca (w1.setCell ⟨kb, 4, none⟩ (.bool true)) fun e w' => e = .returned (.bool b) ∧ Q w') :
    Calls Try.prog 43 #[.pointer (some ⟨kb, 0, none⟩), .pointer (some ⟨wp, 0, none⟩)] w fun e w' => e = .returned (.bool b) ∧ Q w' := by
  have HP := hide hp
  have hne2 := Ne.symm hne
  clear hp
  go_enter Try.func43, Try.ntmps43
  go_wp2_with fail
  refine HP.out.mono ?_
  rintro e w1 ⟨rfl, d3, d4, df, p0, hq⟩
  have HQ := hide hq
  clear hq
  go_wp2_with fail
  refine HQ.out.mono ?_
  rintro e w' ⟨rfl, hq⟩
  have HQ := hide hq
  clear hq
  go_wp2
  go_ret
  exact ⟨rfl, HQ.out⟩
end Go.Proofs.Ytimabgakemgldaa
