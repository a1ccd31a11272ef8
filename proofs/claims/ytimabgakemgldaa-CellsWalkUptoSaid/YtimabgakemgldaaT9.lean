import Derived.Test.YtimabgakemgldaaT8
import Derived.Laws.LoneSync
import Derived.WalkKit
import Derived.StillTailTactics
import Derived.Deep.RegionLaw
import Derived.Deep.RegionHeld3
import Derived.Laws.OwnMore
import Derived.Deep.Matrix
import Derived.BigQuiet
import Derived.Deep.QuietTactic
import Derived.Laws.EntriesVeiled
namespace Go.Proofs.Ytimabgakemgldaa
open Go.ChangeShapes Go.WideShapes Go.ChangeAt Go.RowKit Go.Deep
set_option linter.unusedSimpArgs false
set_option linter.unusedVariables false

def turnV (fa fb : Nat) (ca cb : Array Value) : Value := .agg #[.func (.func fa) #[] ca, .func (.func fb) #[] cb]
set_option maxRecDepth 100000 in
set_option maxHeartbeats 1000000 in
theorem whole_look (fa fb : Nat) (ca cb : Array Value) (w : World) (Q : World → Prop)
    (ea : ∀ w, (callFunc fa ca).run Try.prog w = .ok (.enter fa ca) w) (eb : ∀ w, (callFunc fb cb).run Try.prog w = .ok (.enter fb cb) w)
    (hl : ∀ W, Below w.heap.size w W → Calls Try.prog fa ca W fun e w' => e = .returned (.bool true) ∧ Q w') :
    Calls Try.prog 50 #[.agg #[.func (.func fa) #[] ca, .func (.func fb) #[] cb]] w fun e w' => e = .returned (.tuple #[]) ∧ Q w' := by
  have HL := hide hl
  clear hl
  go_enter Try.func50, Try.ntmps50
  go_wp2_with fail
  go_step3
  go_wp2_with fail
  go_step3
  go_wp2_with fail
  refine (HL.out _ ((Below.refl _ _).alloc (Nat.le_refl _) _)).mono ?_
  rintro e w1 ⟨rfl, hw1⟩
  have H1 := hide hw1
  clear hw1
  go_wp2_with fail
  rw [Exit.noGoto_ret]
  exact bodyPost_ret (v := .tuple #[]) (by simp [results, Try.f50, go_sem]) rfl ⟨rfl, H1.out⟩
set_option maxRecDepth 100000 in
set_option maxHeartbeats 1000000 in
theorem whole_put (fa fb : Nat) (ca cb : Array Value) (w : World) (Q : World → Prop)
    (ea : ∀ w, (callFunc fa ca).run Try.prog w = .ok (.enter fa ca) w) (eb : ∀ w, (callFunc fb cb).run Try.prog w = .ok (.enter fb cb) w)
    (hl : ∀ W, Below w.heap.size w W → Calls Try.prog fa ca W fun e w1 => e = .returned (.bool false) ∧ w1.cell? ⟨w.heap.size, 1, none⟩ = W.cell? ⟨w.heap.size, 1, none⟩ ∧ Calls Try.prog fb cb w1 fun e w' => e = .returned (.bool true) ∧ Q w') :
    Calls Try.prog 50 #[.agg #[.func (.func fa) #[] ca, .func (.func fb) #[] cb]] w fun e w' => e = .returned (.tuple #[]) ∧ Q w' := by
  have HL := hide hl
  clear hl
  go_enter Try.func50, Try.ntmps50
  go_wp2_with fail
  go_step3
  go_wp2_with fail
  go_step3
  go_wp2_with fail
  refine (HL.out _ ((Below.refl _ _).alloc (Nat.le_refl _) _)).mono ?_
  rintro e w1 ⟨rfl, hc, hw1⟩
  have H1 := hide hw1
  have hc : w1.cell? ⟨w.heap.size, 1, none⟩ = some (.func (.func fb) #[] cb) := hc.trans (by simp [go_sem])
  clear hw1
  go_wp2_with fail
  refine H1.out.mono ?_
  rintro e w2 ⟨rfl, hw2⟩
  have H2 := hide hw2
  clear hw2
  go_wp2_with fail
  rw [Exit.noGoto_ret]
  exact bodyPost_ret (v := .tuple #[]) (by simp [results, Try.f50, go_sem]) rfl ⟨rfl, H2.out⟩
end Go.Proofs.Ytimabgakemgldaa
