import Derived.Test.YtimabgakemgldaaT46
import Derived.Test.YtimabgakemgldaaT54
import Derived.Laws.LoneSync
import Derived.WalkKit
import Derived.StillTailTactics
import Derived.Deep.RegionLaw
import Derived.Deep.RegionHeld3
import Derived.Laws.OwnMore
import Derived.Deep.Matrix
import Derived.BigQuiet
import Derived.Deep.QuietTactic
import Derived.Laws.EntriesVeiled
namespace Go.Proofs.Ytimabgakemgldaa
open Go.ChangeShapes Go.WideShapes Go.ChangeAt Go.RowKit Go.Deep
set_option linter.unusedSimpArgs false
set_option linter.unusedVariables false

theorem Do_any (r rs : Nat) (A : Ab) (i n : Nat) (k x c : Int) (w : World) (h : RObj w r rs A) (hA : AbOk A n c) (hc : c ≤ 4611686018427387904) (hi : i < n) : Calls Try.prog 17 #[.pointer (some ⟨r, 0, none⟩), .int .i64 (i : Int), .agg #[.int .i64 k, .int .i64 x]] w (DoPost r rs A (i : Int) k x w) := by
  have t1 := hA.tk
  have t2 := hA.tk2
  have t3 := hA.tt
  have t4 := hA.ar
  have t5 := hA.ar2
  have t6 := hA.tk3
  by_cases k1 : k = 1
  · subst k1; exact Do1 r rs A (i : Int) x w h i rfl (by rw [hA.S]; exact hi)
  by_cases k2 : k = 2
  · subst k2; exact Do2 r rs A (i : Int) x w h
  by_cases k3 : k = 3
  · subst k3; exact Do3 r rs A (i : Int) x w h
  by_cases k4 : k = 4
  · subst k4; exact Do4 r rs A (i : Int) x w h ⟨by omega, by omega⟩
  by_cases k5 : k = 5
  · subst k5; exact Do5 r rs A (i : Int) x w h ⟨by omega, by omega⟩
  exact DoX r rs A (i : Int) x w k h k1 k2 k3 k4 k5
set_option maxRecDepth 100000 in
set_option maxHeartbeats 8000000 in
theorem Order_bad (mark gate tick : Int) (n oc : Nat) (pa : Option Addr) (pv : Value) (w : World) (h : (n : Int) < 1 ∨ 64 < (n : Int) ∨ gate < 1 ∨ tick < 0) : Calls Try.prog 5 #[.agg #[.int .i64 mark, .int .i64 gate, .int .i64 tick], .slice pa n oc, pv] w fun e w' => e = .returned (.bool true) ∧ Below w.heap.size w w' := by
  obtain ⟨W, hW⟩ : ∃ W, W = w.alloc (.cells #[.int .i64 mark, .int .i64 gate, .int .i64 tick] 23) := ⟨_, rfl⟩
  have hb0 : Below w.heap.size w W := by rw [hW]; (focus repeat' (first | (with_reducible exact Below.refl _ _) | (with_reducible assumption) | (with_reducible refine Below.alloc ?_ ?_ _) | (with_reducible refine Below.drew ?_) | (with_reducible refine bdrewN ?_ _) | (with_reducible refine Below.setCell ?_ ?_ _) | (first | (with_reducible exact Nat.le_refl _) | (with_reducible assumption) | omega | (simp; omega) | (simp; done))))
  have b0 : W.cell? ⟨w.heap.size, 0, none⟩ = some (.int .i64 mark) := by rw [hW]; simp [go_sem]
  have b1 : W.cell? ⟨w.heap.size, 1, none⟩ = some (.int .i64 gate) := by rw [hW]; simp [go_sem]
  have b2 : W.cell? ⟨w.heap.size, 2, none⟩ = some (.int .i64 tick) := by rw [hW]; simp [go_sem]
  have l0 := World.block_lt_of_cell? W _ b0
  simp only at l0
  have HB0 := hide hb0
  have HW := hide hW
  have C22 := hide (fun V => Walk_bad mark gate tick n oc pa pv V h)
  have C11 := hide (fun V => RNew_bad mark gate tick (n : Int) V h)
  clear hW hb0 h
  go_enter Try.func5, Try.ntmps5
  go_upto_region 1 with fail
  rw [← HW.out]
  go_wp2_with fail
  refine (known_c W).mono ?_
  rintro e w1 ⟨rfl, hb⟩
  have b0 := cell_stay b0 (hb.block _ l0)
  have b1 := cell_stay b1 (hb.block _ l0)
  have b2 := cell_stay b2 (hb.block _ l0)
  have HB1 := hide (show Below w.heap.size w w1 from bstep HB0.out hb)
  have l1 : w.heap.size < w1.heap.size := Nat.lt_of_lt_of_le l0 hb.size
  clear hb l0
  go_wp2_with fail
  refine (C22.out w1).mono ?_
  rintro e w2 ⟨rfl, hb⟩
  have b0 := cell_stay b0 (hb.block _ l1)
  have b1 := cell_stay b1 (hb.block _ l1)
  have b2 := cell_stay b2 (hb.block _ l1)
  have HB2 := hide (show Below w.heap.size w w2 from bstep HB1.out hb)
  have l2 : w.heap.size < w2.heap.size := Nat.lt_of_lt_of_le l1 hb.size
  clear hb l1
  unfold zeroEnd
  go_wp2_with fail
  refine (C11.out _).mono ?_
  rintro e w3 ⟨rfl, hb⟩
  have HB3 := hide (bstep (show Below w.heap.size w (w2.alloc (.cells #[.int .i64 0, .int .i64 0, .int .i64 0, .int .i64 0, .bool false, .int .i64 0, .bool false, .int .i64 0] 63)) from HB2.out.alloc HB2.out.size _) hb)
  clear hb
  go_wp2_with (go_at_call 10; (apply Calls.mono; focus (exact num_c _ _)); rintro e w' ⟨rfl, rfl⟩)
  all_goals
    go_ret
    exact ⟨rfl, HB3.out⟩
end Go.Proofs.Ytimabgakemgldaa
