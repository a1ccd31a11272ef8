import Derived.Test.YtimabgakemgldaaT16
import Derived.Laws.LoneSync
import Derived.WalkKit
import Derived.StillTailTactics
import Derived.Deep.RegionLaw
import Derived.Deep.RegionHeld3
import Derived.Laws.OwnMore
import Derived.Deep.Matrix
import Derived.BigQuiet
import Derived.Deep.QuietTactic
import Derived.Laws.EntriesVeiled
namespace Go.Proofs.Ytimabgakemgldaa
open Go.ChangeShapes Go.WideShapes Go.ChangeAt Go.RowKit Go.Deep
set_option linter.unusedSimpArgs false
set_option linter.unusedVariables false

theorem RNew_a (mark gate tick n : Int) (w : World) (h : n < 1) : Calls Try.prog 11 #[.agg #[.int .i64 mark, .int .i64 gate, .int .i64 tick], .int .i64 n] w fun e w' => e = .returned (.tuple #[.pointer none, .int .i64 2]) ∧ Below w.heap.size w w' := by
  have g1 : decide (n < 1) = true := by simp [h]
  go_enter Try.func11, Try.ntmps11
  go_wp2
  go_ret2
  exact ⟨rfl, by (focus repeat' (first | (with_reducible exact Below.refl _ _) | (with_reducible assumption) | (with_reducible refine Below.alloc ?_ ?_ _) | (with_reducible refine Below.drew ?_) | (with_reducible refine bdrewN ?_ _) | (with_reducible refine Below.setCell ?_ ?_ _) | (first | (with_reducible exact Nat.le_refl _) | (with_reducible assumption) | omega | (simp; omega) | (simp; done))))⟩

theorem RNew_b (mark gate tick n : Int) (w : World) (h : 64 < n) : Calls Try.prog 11 #[.agg #[.int .i64 mark, .int .i64 gate, .int .i64 tick], .int .i64 n] w fun e w' => e = .returned (.tuple #[.pointer none, .int .i64 2]) ∧ Below w.heap.size w w' := by
  have g1 : decide (n < 1) = false := by (rw [decide_eq_false_iff_not]; omega)
  have g2 : decide (64 < n) = true := by simp [h]
  have g3 : ¬ n < 1 := by omega
  go_enter Try.func11, Try.ntmps11
  go_wp2
  go_ret2
  exact ⟨rfl, by (focus repeat' (first | (with_reducible exact Below.refl _ _) | (with_reducible assumption) | (with_reducible refine Below.alloc ?_ ?_ _) | (with_reducible refine Below.drew ?_) | (with_reducible refine bdrewN ?_ _) | (with_reducible refine Below.setCell ?_ ?_ _) | (first | (with_reducible exact Nat.le_refl _) | (with_reducible assumption) | omega | (simp; omega) | (simp; done))))⟩

theorem RNew_c (mark gate tick n : Int) (w : World) (h1 : 1 ≤ n) (h2 : n ≤ 64) (h : gate < 1) : Calls Try.prog 11 #[.agg #[.int .i64 mark, .int .i64 gate, .int .i64 tick], .int .i64 n] w fun e w' => e = .returned (.tuple #[.pointer none, .int .i64 2]) ∧ Below w.heap.size w w' := by
  have g1 : decide (n < 1) = false := by (rw [decide_eq_false_iff_not]; omega)
  have g2 : decide (64 < n) = false := by (rw [decide_eq_false_iff_not]; omega)
  have g3 : ¬ n < 1 := by omega
  have g4 : ¬ 64 < n := by omega
  go_enter Try.func11, Try.ntmps11
  go_wp2
  go_ret2
  exact ⟨rfl, by (focus repeat' (first | (with_reducible exact Below.refl _ _) | (with_reducible assumption) | (with_reducible refine Below.alloc ?_ ?_ _) | (with_reducible refine Below.drew ?_) | (with_reducible refine bdrewN ?_ _) | (with_reducible refine Below.setCell ?_ ?_ _) | (first | (with_reducible exact Nat.le_refl _) | (with_reducible assumption) | omega | (simp; omega) | (simp; done))))⟩

theorem RNew_d (mark gate tick n : Int) (w : World) (h1 : 1 ≤ n) (h2 : n ≤ 64) (h3 : 1 ≤ gate) (h : tick < 0) : Calls Try.prog 11 #[.agg #[.int .i64 mark, .int .i64 gate, .int .i64 tick], .int .i64 n] w fun e w' => e = .returned (.tuple #[.pointer none, .int .i64 2]) ∧ Below w.heap.size w w' := by
  have g1 : decide (n < 1) = false := by (rw [decide_eq_false_iff_not]; omega)
  have g2 : decide (64 < n) = false := by (rw [decide_eq_false_iff_not]; omega)
  have g3 : ¬ n < 1 := by omega
  have g4 : ¬ 64 < n := by omega
  have g5 : ¬ gate < 1 := by omega
  go_enter Try.func11, Try.ntmps11
  go_wp2
  go_ret2
  exact ⟨rfl, by (focus repeat' (first | (with_reducible exact Below.refl _ _) | (with_reducible assumption) | (with_reducible refine Below.alloc ?_ ?_ _) | (with_reducible refine Below.drew ?_) | (with_reducible refine bdrewN ?_ _) | (with_reducible refine Below.setCell ?_ ?_ _) | (first | (with_reducible exact Nat.le_refl _) | (with_reducible assumption) | omega | (simp; omega) | (simp; done))))⟩

theorem RNew_bad (mark gate tick n : Int) (w : World) (h : n < 1 ∨ 64 < n ∨ gate < 1 ∨ tick < 0) : Calls Try.prog 11 #[.agg #[.int .i64 mark, .int .i64 gate, .int .i64 tick], .int .i64 n] w fun e w' => e = .returned (.tuple #[.pointer none, .int .i64 2]) ∧ Below w.heap.size w w' := by
  by_cases h1 : n < 1
  · exact RNew_a mark gate tick n w h1
  by_cases h2 : 64 < n
  · exact RNew_b mark gate tick n w h2
  by_cases h3 : gate < 1
  · exact RNew_c mark gate tick n w (by omega) (by omega) h3
  · exact RNew_d mark gate tick n w (by omega) (by omega) (by omega) (by omega)
def endV (A : Ab) : Value := .agg #[.int .i64 (sumI A.S), .int .i64 A.mark, .int .i64 (bWho A.bs), .int .i64 (bX A.bs), .bool A.bs.isSome, .int .i64 A.ar, .bool (decide (A.gt ≤ A.ar)), .int .i64 A.tk]
def ab0 (n : Nat) (mark gate tick : Int) : Ab := { S := List.replicate n 0, mark := mark, bs := none, ar := 0, gt := gate, tk := 0, tt := tick }
theorem info2 : (Try.prog.info? 2).map (fun i => (i.zero, i.size, i.bytes)) = some (some (.int .i64 0), 1, 8) := by kernel_rfl
theorem made_i64 (n : Nat) : (madeCells (Value.int .i64 0).cells (n * 1)).toList = ints (List.replicate n 0) := by
  rw [Nat.mul_one]
  show (madeCells #[Value.int .i64 0] n).toList = _
  apply List.ext_getElem
  · simp [madeCells, ints]
  · intro i h1 h2
    simp [madeCells, ints, Nat.mod_one]
def RNewPost (A : Ab) (w : World) (e : Ending) (w' : World) : Prop := ∃ r rs, e = .returned (.tuple #[.pointer (some ⟨r, 0, none⟩), .int .i64 0]) ∧ RObj w' r rs A ∧ w.heap.size ≤ r ∧ w.heap.size ≤ rs ∧ Below w.heap.size w w'
set_option maxHeartbeats 1000000 in
theorem RNew_ok (mark gate tick : Int) (n : Nat) (w : World) (h : 1 ≤ n) (h2 : n ≤ 64) (hg : 1 ≤ gate) (ht : 0 ≤ tick) : Calls Try.prog 11 #[.agg #[.int .i64 mark, .int .i64 gate, .int .i64 tick], .int .i64 (n : Int)] w (RNewPost (ab0 n mark gate tick) w) := by
  obtain ⟨W, hW⟩ : ∃ W, W = w.alloc (.cells #[.int .i64 mark, .int .i64 gate, .int .i64 tick] 23) := ⟨_, rfl⟩
  have hb : Below w.heap.size w W := by rw [hW]; (focus repeat' (first | (with_reducible exact Below.refl _ _) | (with_reducible assumption) | (with_reducible refine Below.alloc ?_ ?_ _) | (with_reducible refine Below.drew ?_) | (with_reducible refine bdrewN ?_ _) | (with_reducible refine Below.setCell ?_ ?_ _) | (first | (with_reducible exact Nat.le_refl _) | (with_reducible assumption) | omega | (simp; omega) | (simp; done))))
  obtain ⟨i0, hi0, hz0, hz1, hz2⟩ := info_parts info2
  obtain ⟨wm, hrun, hown, hgr⟩ := (run_make_full (P := Try.prog) W.drew W.drew.heap.size 59 2 i0 _ 1 Try.underlying59 hi0 hz0 hz1 .i64 .i64 n (by rw [hz2]; omega) (by unfold maxLen; omega) (Nat.le_refl _))
  have hrun' : Sem.run Try.prog (Instr.makeSlice 59 (Value.int .i64 (n : Int)) (Value.int .i64 (n : Int))) W.drew = .ok (.slice (some ⟨W.heap.size, 0, none⟩) n n) wm := hrun
  have HO := hide hown
  have HG := hide hgr
  clear hrun hown hgr
  have g1 : decide ((n : Int) < 1) = false := by (rw [decide_eq_false_iff_not]; omega)
  have g2 : decide (64 < (n : Int)) = false := by (rw [decide_eq_false_iff_not]; omega)
  have g3 : ¬ (n : Int) < 1 := by omega
  have g4 : ¬ 64 < (n : Int) := by omega
  have g5 : ¬ gate < 1 := by omega
  have g6 : ¬ tick < 0 := by omega
  have b0 : W.cell? ⟨w.heap.size, 0, none⟩ = some (.int .i64 mark) := by rw [hW]; simp [go_sem]
  have b1 : W.cell? ⟨w.heap.size, 1, none⟩ = some (.int .i64 gate) := by rw [hW]; simp [go_sem]
  have b2 : W.cell? ⟨w.heap.size, 2, none⟩ = some (.int .i64 tick) := by rw [hW]; simp [go_sem]
  have l0 := World.block_lt_of_cell? W _ b0
  simp only at l0
  have HW := hide hW
  clear hW
  go_enter Try.func11, Try.ntmps11
  go_upto_region 2 with fail
  rw [← HW.out]
  go_upto_region 3 with fail
  have b0m : wm.cell? ⟨w.heap.size, 0, none⟩ = some (.int .i64 mark) := HG.out.cell (a := ⟨w.heap.size, 0, none⟩) b0 (by simp)
  have b1m : wm.cell? ⟨w.heap.size, 1, none⟩ = some (.int .i64 gate) := HG.out.cell (a := ⟨w.heap.size, 1, none⟩) b1 (by simp)
  have b2m : wm.cell? ⟨w.heap.size, 2, none⟩ = some (.int .i64 tick) := HG.out.cell (a := ⟨w.heap.size, 2, none⟩) b2 (by simp)
  go_region
  have zm : W.heap.size ≤ wm.heap.size := HG.out.size
  have lr := (HO.out.lt W.heap.size rfl).2
  have zb := hb.size
  clear b0m b1m b2m
  go_wp2
  go_ret2
  refine ⟨wm.heap.size, W.heap.size, rfl, ⟨by simp [go_sem, ab0], by simp [go_sem, ab0], by simp [go_sem, ab0, bWho], by simp [go_sem, ab0, bX], by simp [go_sem, ab0], by simp [go_sem, ab0], by simp [go_sem, ab0], by simp [go_sem, ab0], by simp [go_sem, ab0], fun o => by simp [go_sem], ?_, by omega⟩, by omega, zb, ?_⟩
  · have q := HO.out
    rw [made_i64] at q
    have q2 : wm.ownsRow 0 2 1 (.slice (some ⟨W.heap.size, 0, none⟩) n n) n (ints (List.replicate n 0)) := by
      refine ⟨q.1, q.2.imp id ?_⟩
      rintro ⟨g, cap, cur, e, q, r⟩
      exact ⟨g, cap, cur, e, Nat.zero_le _, r⟩
    have q3 := q2.alloc (.cells #[.slice (some ⟨W.heap.size, 0, none⟩) n n, .int .i64 mark, .int .i64 0, .int .i64 0, .bool false, .int .i64 0, .int .i64 gate, .int .i64 0, .int .i64 tick] 61)
    simpa [ab0] using q3
  · have hbm : Below w.heap.size w wm := (hb.drew).grown HG.out zb (fun q e => by cases e)
    exact hbm.alloc hbm.size _
end Go.Proofs.Ytimabgakemgldaa
