/- Contracts of the layer's functions, each proved once, in the order in which they are used. No condition beyond each theorem's own. -/
import Derived.Test.YtimabgakemgldaaX1
import Derived.Laws.LoneSync
import Derived.WalkKit
import Derived.StillTailTactics
import Derived.Deep.RegionLaw
import Derived.Deep.RegionHeld3
import Derived.Laws.OwnMore
import Derived.Deep.Matrix
import Derived.BigQuiet
import Derived.Deep.QuietTactic
import Derived.Laws.EntriesVeiled
namespace Go.Proofs.Ytimabgakemgldaa
open Go.ChangeShapes Go.WideShapes Go.ChangeAt Go.RowKit Go.Deep
set_option linter.unusedSimpArgs false
set_option linter.unusedVariables false

def snL : Sn → Bool
  | .no => false
  | _ => true
def snX : Sn → Int
  | .no => 0
  | .num v => v
  | .off o => bX o
def snW : Sn → Int
  | .off o => bWho o
  | _ => 0
def snA : Sn → Bool
  | .off o => o.isSome
  | _ => false
def snV (s : Sn) : Value := .agg #[.bool (snL s), .int .i64 (snX s), .int .i64 (snW s), .bool (snA s)]
set_option maxRecDepth 100000 in
set_option maxHeartbeats 2000000 in
theorem look_2 (r rs : Nat) (A : Ab) (w : World) (h : RObj w r rs A) : Calls Try.prog 64 #[.pointer (some ⟨r, 0, none⟩), .int .i64 2] w fun e w' => e = .returned (.agg #[.bool true, .int .i64 A.mark, .int .i64 0, .bool false]) ∧ Below w.heap.size w w' := by
  have c1 := h.c1
  have l0 := h.lt.1
  clear h
  go_enter Try.func64, Try.ntmps64
  go_wp2
  refine bodyPost_ret (v := .agg #[.bool true, .int .i64 A.mark, .int .i64 0, .bool false]) (by simp [results, Try.f64, go_sem]) rfl ⟨rfl, by (focus repeat' (first | (with_reducible exact Below.refl _ _) | (with_reducible assumption) | (with_reducible refine Below.alloc ?_ ?_ _) | (with_reducible refine Below.drew ?_) | (with_reducible refine bdrewN ?_ _) | (with_reducible refine Below.setCell ?_ ?_ _) | (first | (with_reducible exact Nat.le_refl _) | (with_reducible assumption) | omega | (simp; omega) | (simp; done))))⟩
set_option maxRecDepth 100000 in
set_option maxHeartbeats 2000000 in
theorem look_5 (r rs : Nat) (A : Ab) (w : World) (h : RObj w r rs A) : Calls Try.prog 64 #[.pointer (some ⟨r, 0, none⟩), .int .i64 5] w fun e w' => e = .returned (.agg #[.bool true, .int .i64 A.tk, .int .i64 0, .bool false]) ∧ Below w.heap.size w w' := by
  have c7 := h.c7
  have l0 := h.lt.1
  clear h
  go_enter Try.func64, Try.ntmps64
  go_wp2
  refine bodyPost_ret (v := .agg #[.bool true, .int .i64 A.tk, .int .i64 0, .bool false]) (by simp [results, Try.f64, go_sem]) rfl ⟨rfl, by (focus repeat' (first | (with_reducible exact Below.refl _ _) | (with_reducible assumption) | (with_reducible refine Below.alloc ?_ ?_ _) | (with_reducible refine Below.drew ?_) | (with_reducible refine bdrewN ?_ _) | (with_reducible refine Below.setCell ?_ ?_ _) | (first | (with_reducible exact Nat.le_refl _) | (with_reducible assumption) | omega | (simp; omega) | (simp; done))))⟩
set_option maxRecDepth 100000 in
set_option maxHeartbeats 2000000 in
theorem look_3 (r rs : Nat) (A : Ab) (w : World) (h : RObj w r rs A) : Calls Try.prog 64 #[.pointer (some ⟨r, 0, none⟩), .int .i64 3] w fun e w' => e = .returned (.agg #[.bool true, .int .i64 (bX A.bs), .int .i64 (bWho A.bs), .bool A.bs.isSome]) ∧ Below w.heap.size w w' := by
  have c2 := h.c2
  have c3 := h.c3
  have c4 := h.c4
  have l0 := h.lt.1
  clear h
  go_enter Try.func64, Try.ntmps64
  go_upto_region 5 with fail
  obtain ⟨W, hW⟩ : ∃ W, W = w.alloc (.cells #[.bool false, .int .i64 0, .int .i64 0, .bool false] 131) := ⟨_, rfl⟩
  rw [← hW]
  have c2 := c_al c2 (.cells #[.bool false, .int .i64 0, .int .i64 0, .bool false] 131)
  have c3 := c_al c3 (.cells #[.bool false, .int .i64 0, .int .i64 0, .bool false] 131)
  have c4 := c_al c4 (.cells #[.bool false, .int .i64 0, .int .i64 0, .bool false] 131)
  rw [← hW] at c2 c3 c4
  have x0 : W.cell? ⟨w.heap.size, 0, none⟩ = some (.bool false) := by rw [hW]; simp [go_sem]
  have x1 : W.cell? ⟨w.heap.size, 1, none⟩ = some (.int .i64 0) := by rw [hW]; simp [go_sem]
  have x2 : W.cell? ⟨w.heap.size, 2, none⟩ = some (.int .i64 0) := by rw [hW]; simp [go_sem]
  have x3 : W.cell? ⟨w.heap.size, 3, none⟩ = some (.bool false) := by rw [hW]; simp [go_sem]
  have y0 : W.frozen? ⟨w.heap.size, 0, none⟩ = false := by rw [hW]; simp [go_sem]
  have y1 : W.frozen? ⟨w.heap.size, 1, none⟩ = false := by rw [hW]; simp [go_sem]
  have y2 : W.frozen? ⟨w.heap.size, 2, none⟩ = false := by rw [hW]; simp [go_sem]
  have y3 : W.frozen? ⟨w.heap.size, 3, none⟩ = false := by rw [hW]; simp [go_sem]
  have hb : Below w.heap.size w W := by rw [hW]; (focus repeat' (first | (with_reducible exact Below.refl _ _) | (with_reducible assumption) | (with_reducible refine Below.alloc ?_ ?_ _) | (with_reducible refine Below.drew ?_) | (with_reducible refine bdrewN ?_ _) | (with_reducible refine Below.setCell ?_ ?_ _) | (first | (with_reducible exact Nat.le_refl _) | (with_reducible assumption) | omega | (simp; omega) | (simp; done))))
  have HB := hide hb
  clear hW hb l0
  go_still_tail 13, (by kernel_rfl)
  go_wp2
  refine bodyPost_ret (v := .agg #[.bool true, .int .i64 (bX A.bs), .int .i64 (bWho A.bs), .bool A.bs.isSome]) (by simp [results, Try.f64, go_sem, x0, x1, x2, x3]) rfl ⟨rfl, ?_⟩
  (repeat (first | with_reducible refine Below.drew ?_ | with_reducible refine below_set (Nat.le_refl _) ?_ _ _ | with_reducible refine bdrewN ?_ _))
  exact HB.out
end Go.Proofs.Ytimabgakemgldaa

namespace Go.Proofs.Ytimabgakemgldaa
open Go.ChangeShapes Go.WideShapes Go.ChangeAt Go.RowKit Go.Deep
set_option linter.unusedSimpArgs false
set_option linter.unusedVariables false

set_option maxRecDepth 100000 in
set_option maxHeartbeats 2000000 in
theorem idle_2 (r who : Int) (pr : Value) (x v : Int) (w : World) : Calls Try.prog 65 #[pr, .int .i64 who, .agg #[.int .i64 2, .int .i64 x], .agg #[.bool true, .int .i64 v, .int .i64 0, .bool false]] w fun e w' => e = .returned (.tuple #[.agg #[.int .i64 v, .bool false, .int .i64 0], .bool (decide (x ≤ v))]) ∧ Below w.heap.size w w' := by
  go_enter Try.func65, Try.ntmps65
  go_upto_region 1 with fail
  obtain ⟨W, hW⟩ : ∃ W, W = ((w.alloc (.cells #[.int .i64 2, .int .i64 x] 57)).alloc (.cells #[.bool true, .int .i64 (v), .int .i64 (0), .bool false] 131)).alloc (.cells #[.int .i64 0, .bool false, .int .i64 0] 52) := ⟨_, rfl⟩
  rw [← hW]
  obtain ⟨B, hB⟩ : ∃ B, B = w.heap.size := ⟨_, rfl⟩
  rw [← hB]
  have z00 : W.cell? ⟨B, 0, none⟩ = some (.int .i64 2) := by rw [hW, hB]; simp [go_sem]
  have z01 : W.cell? ⟨B, 1, none⟩ = some (.int .i64 x) := by rw [hW, hB]; simp [go_sem]
  have z40 : W.cell? ⟨B + 1, 0, none⟩ = some (.bool true) := by rw [hW, hB]; simp [go_sem]
  have z41 : W.cell? ⟨B + 1, 1, none⟩ = some (.int .i64 (v)) := by rw [hW, hB]; simp [go_sem]
  have z42 : W.cell? ⟨B + 1, 2, none⟩ = some (.int .i64 (0)) := by rw [hW, hB]; simp [go_sem]
  have z43 : W.cell? ⟨B + 1, 3, none⟩ = some (.bool false) := by rw [hW, hB]; simp [go_sem]
  have z80 : W.cell? ⟨B + 1 + 1, 0, none⟩ = some (.int .i64 0) := by rw [hW, hB]; simp [go_sem]
  have z81 : W.cell? ⟨B + 1 + 1, 1, none⟩ = some (.bool false) := by rw [hW, hB]; simp [go_sem]
  have z82 : W.cell? ⟨B + 1 + 1, 2, none⟩ = some (.int .i64 0) := by rw [hW, hB]; simp [go_sem]
  have f0 : W.frozen? ⟨B + 1 + 1, 0, none⟩ = false := by rw [hW, hB]; simp [go_sem]
  have f1 : W.frozen? ⟨B + 1 + 1, 1, none⟩ = false := by rw [hW, hB]; simp [go_sem]
  have f2 : W.frozen? ⟨B + 1 + 1, 2, none⟩ = false := by rw [hW, hB]; simp [go_sem]
  have hb : Below B w W := by rw [hW, hB]; (focus repeat' (first | (with_reducible exact Below.refl _ _) | (with_reducible assumption) | (with_reducible refine Below.alloc ?_ ?_ _) | (with_reducible refine Below.drew ?_) | (with_reducible refine bdrewN ?_ _) | (with_reducible refine Below.setCell ?_ ?_ _) | (first | (with_reducible exact Nat.le_refl _) | (with_reducible assumption) | omega | (simp; omega) | (simp; done))))
  have HB := hide hb
  have n1 : B ≠ B + 1 + 1 := by omega
  have n2 : B + 1 ≠ B + 1 + 1 := by omega
  have HBB := hide hB
  clear hW hb hB
  go_wp2_with fail
  go_region
  go_wp2
  refine bodyPost_ret (v := .tuple #[.agg #[.int .i64 v, .bool false, .int .i64 0], .bool (decide (x ≤ v))]) (by simp [results, Try.f65, go_sem, z80, z81, z82]) rfl ⟨rfl, ?_⟩
  rw [← HBB.out]
  (repeat (first | with_reducible refine Below.drew ?_ | with_reducible refine below_set (by omega) ?_ _ _ | with_reducible refine bdrewN ?_ _))
  exact HB.out

set_option maxRecDepth 100000 in
set_option maxHeartbeats 2000000 in
theorem idle_5 (r rs : Nat) (A : Ab) (who x v : Int) (w : World) (h : RObj w r rs A) : Calls Try.prog 65 #[.pointer (some ⟨r, 0, none⟩), .int .i64 who, .agg #[.int .i64 5, .int .i64 x], .agg #[.bool true, .int .i64 v, .int .i64 0, .bool false]] w fun e w' => e = .returned (.tuple #[.agg #[.int .i64 0, .bool false, .int .i64 0], .bool (decide (A.tt ≤ v))]) ∧ Below w.heap.size w w' := by
  have c8 := h.c8
  have l0 := h.lt.1
  clear h
  go_enter Try.func65, Try.ntmps65
  go_upto_region 1 with fail
  obtain ⟨W, hW⟩ : ∃ W, W = ((w.alloc (.cells #[.int .i64 5, .int .i64 x] 57)).alloc (.cells #[.bool true, .int .i64 (v), .int .i64 (0), .bool false] 131)).alloc (.cells #[.int .i64 0, .bool false, .int .i64 0] 52) := ⟨_, rfl⟩
  rw [← hW]
  obtain ⟨B, hB⟩ : ∃ B, B = w.heap.size := ⟨_, rfl⟩
  rw [← hB]
  have z00 : W.cell? ⟨B, 0, none⟩ = some (.int .i64 5) := by rw [hW, hB]; simp [go_sem]
  have z01 : W.cell? ⟨B, 1, none⟩ = some (.int .i64 x) := by rw [hW, hB]; simp [go_sem]
  have z40 : W.cell? ⟨B + 1, 0, none⟩ = some (.bool true) := by rw [hW, hB]; simp [go_sem]
  have z41 : W.cell? ⟨B + 1, 1, none⟩ = some (.int .i64 (v)) := by rw [hW, hB]; simp [go_sem]
  have z42 : W.cell? ⟨B + 1, 2, none⟩ = some (.int .i64 (0)) := by rw [hW, hB]; simp [go_sem]
  have z43 : W.cell? ⟨B + 1, 3, none⟩ = some (.bool false) := by rw [hW, hB]; simp [go_sem]
  have z80 : W.cell? ⟨B + 1 + 1, 0, none⟩ = some (.int .i64 0) := by rw [hW, hB]; simp [go_sem]
  have z81 : W.cell? ⟨B + 1 + 1, 1, none⟩ = some (.bool false) := by rw [hW, hB]; simp [go_sem]
  have z82 : W.cell? ⟨B + 1 + 1, 2, none⟩ = some (.int .i64 0) := by rw [hW, hB]; simp [go_sem]
  have f0 : W.frozen? ⟨B + 1 + 1, 0, none⟩ = false := by rw [hW, hB]; simp [go_sem]
  have f1 : W.frozen? ⟨B + 1 + 1, 1, none⟩ = false := by rw [hW, hB]; simp [go_sem]
  have f2 : W.frozen? ⟨B + 1 + 1, 2, none⟩ = false := by rw [hW, hB]; simp [go_sem]
  have hb : Below B w W := by rw [hW, hB]; (focus repeat' (first | (with_reducible exact Below.refl _ _) | (with_reducible assumption) | (with_reducible refine Below.alloc ?_ ?_ _) | (with_reducible refine Below.drew ?_) | (with_reducible refine bdrewN ?_ _) | (with_reducible refine Below.setCell ?_ ?_ _) | (first | (with_reducible exact Nat.le_refl _) | (with_reducible assumption) | omega | (simp; omega) | (simp; done))))
  have HB := hide hb
  have n1 : B ≠ B + 1 + 1 := by omega
  have n2 : B + 1 ≠ B + 1 + 1 := by omega
  have c8 : W.cell? ⟨r, 8, none⟩ = some (.int .i64 A.tt) := cell_stay c8 (hb.block r (by omega))
  have nr : r ≠ B + 1 + 1 := by omega
  have HBB := hide hB
  clear hW hb hB
  go_wp2_with fail
  go_region
  go_wp2
  refine bodyPost_ret (v := .tuple #[.agg #[.int .i64 0, .bool false, .int .i64 0], .bool (decide (A.tt ≤ v))]) (by simp [results, Try.f65, go_sem, z80, z81, z82]) rfl ⟨rfl, ?_⟩
  rw [← HBB.out]
  (repeat (first | with_reducible refine Below.drew ?_ | with_reducible refine below_set (by omega) ?_ _ _ | with_reducible refine bdrewN ?_ _))
  exact HB.out

set_option maxRecDepth 100000 in
set_option maxHeartbeats 2000000 in
theorem idle_3n (who x : Int) (pr : Value) (w : World) : Calls Try.prog 65 #[pr, .int .i64 who, .agg #[.int .i64 3, .int .i64 x], .agg #[.bool true, .int .i64 0, .int .i64 0, .bool false]] w fun e w' => e = .returned (.tuple #[.agg #[.int .i64 x, .bool false, .int .i64 0], .bool false]) ∧ Below w.heap.size w w' := by
  go_enter Try.func65, Try.ntmps65
  go_upto_region 1 with fail
  obtain ⟨W, hW⟩ : ∃ W, W = ((w.alloc (.cells #[.int .i64 3, .int .i64 x] 57)).alloc (.cells #[.bool true, .int .i64 (0), .int .i64 (0), .bool false] 131)).alloc (.cells #[.int .i64 0, .bool false, .int .i64 0] 52) := ⟨_, rfl⟩
  rw [← hW]
  obtain ⟨B, hB⟩ : ∃ B, B = w.heap.size := ⟨_, rfl⟩
  rw [← hB]
  have z00 : W.cell? ⟨B, 0, none⟩ = some (.int .i64 3) := by rw [hW, hB]; simp [go_sem]
  have z01 : W.cell? ⟨B, 1, none⟩ = some (.int .i64 x) := by rw [hW, hB]; simp [go_sem]
  have z40 : W.cell? ⟨B + 1, 0, none⟩ = some (.bool true) := by rw [hW, hB]; simp [go_sem]
  have z41 : W.cell? ⟨B + 1, 1, none⟩ = some (.int .i64 (0)) := by rw [hW, hB]; simp [go_sem]
  have z42 : W.cell? ⟨B + 1, 2, none⟩ = some (.int .i64 (0)) := by rw [hW, hB]; simp [go_sem]
  have z43 : W.cell? ⟨B + 1, 3, none⟩ = some (.bool false) := by rw [hW, hB]; simp [go_sem]
  have z80 : W.cell? ⟨B + 1 + 1, 0, none⟩ = some (.int .i64 0) := by rw [hW, hB]; simp [go_sem]
  have z81 : W.cell? ⟨B + 1 + 1, 1, none⟩ = some (.bool false) := by rw [hW, hB]; simp [go_sem]
  have z82 : W.cell? ⟨B + 1 + 1, 2, none⟩ = some (.int .i64 0) := by rw [hW, hB]; simp [go_sem]
  have f0 : W.frozen? ⟨B + 1 + 1, 0, none⟩ = false := by rw [hW, hB]; simp [go_sem]
  have f1 : W.frozen? ⟨B + 1 + 1, 1, none⟩ = false := by rw [hW, hB]; simp [go_sem]
  have f2 : W.frozen? ⟨B + 1 + 1, 2, none⟩ = false := by rw [hW, hB]; simp [go_sem]
  have hb : Below B w W := by rw [hW, hB]; (focus repeat' (first | (with_reducible exact Below.refl _ _) | (with_reducible assumption) | (with_reducible refine Below.alloc ?_ ?_ _) | (with_reducible refine Below.drew ?_) | (with_reducible refine bdrewN ?_ _) | (with_reducible refine Below.setCell ?_ ?_ _) | (first | (with_reducible exact Nat.le_refl _) | (with_reducible assumption) | omega | (simp; omega) | (simp; done))))
  have HB := hide hb
  have n1 : B ≠ B + 1 + 1 := by omega
  have n2 : B + 1 ≠ B + 1 + 1 := by omega
  have HBB := hide hB
  clear hW hb hB
  go_wp2
  refine bodyPost_ret (v := .tuple #[.agg #[.int .i64 x, .bool false, .int .i64 0], .bool false]) (by simp [results, Try.f65, go_sem, z80, z81, z82]) rfl ⟨rfl, ?_⟩
  rw [← HBB.out]
  (repeat (first | with_reducible refine Below.drew ?_ | with_reducible refine below_set (by omega) ?_ _ _ | with_reducible refine bdrewN ?_ _))
  exact HB.out

set_option maxRecDepth 100000 in
set_option maxHeartbeats 2000000 in
theorem idle_3a (who x v wh : Int) (pr : Value) (w : World) (h : v < x) : Calls Try.prog 65 #[pr, .int .i64 who, .agg #[.int .i64 3, .int .i64 x], .agg #[.bool true, .int .i64 v, .int .i64 wh, .bool true]] w fun e w' => e = .returned (.tuple #[.agg #[.int .i64 x, .bool false, .int .i64 0], .bool false]) ∧ Below w.heap.size w w' := by
  have d1 : decide (v < x) = true := decide_eq_true (by omega)
  go_enter Try.func65, Try.ntmps65
  go_upto_region 1 with fail
  obtain ⟨W, hW⟩ : ∃ W, W = ((w.alloc (.cells #[.int .i64 3, .int .i64 x] 57)).alloc (.cells #[.bool true, .int .i64 (v), .int .i64 (wh), .bool true] 131)).alloc (.cells #[.int .i64 0, .bool false, .int .i64 0] 52) := ⟨_, rfl⟩
  rw [← hW]
  obtain ⟨B, hB⟩ : ∃ B, B = w.heap.size := ⟨_, rfl⟩
  rw [← hB]
  have z00 : W.cell? ⟨B, 0, none⟩ = some (.int .i64 3) := by rw [hW, hB]; simp [go_sem]
  have z01 : W.cell? ⟨B, 1, none⟩ = some (.int .i64 x) := by rw [hW, hB]; simp [go_sem]
  have z40 : W.cell? ⟨B + 1, 0, none⟩ = some (.bool true) := by rw [hW, hB]; simp [go_sem]
  have z41 : W.cell? ⟨B + 1, 1, none⟩ = some (.int .i64 (v)) := by rw [hW, hB]; simp [go_sem]
  have z42 : W.cell? ⟨B + 1, 2, none⟩ = some (.int .i64 (wh)) := by rw [hW, hB]; simp [go_sem]
  have z43 : W.cell? ⟨B + 1, 3, none⟩ = some (.bool true) := by rw [hW, hB]; simp [go_sem]
  have z80 : W.cell? ⟨B + 1 + 1, 0, none⟩ = some (.int .i64 0) := by rw [hW, hB]; simp [go_sem]
  have z81 : W.cell? ⟨B + 1 + 1, 1, none⟩ = some (.bool false) := by rw [hW, hB]; simp [go_sem]
  have z82 : W.cell? ⟨B + 1 + 1, 2, none⟩ = some (.int .i64 0) := by rw [hW, hB]; simp [go_sem]
  have f0 : W.frozen? ⟨B + 1 + 1, 0, none⟩ = false := by rw [hW, hB]; simp [go_sem]
  have f1 : W.frozen? ⟨B + 1 + 1, 1, none⟩ = false := by rw [hW, hB]; simp [go_sem]
  have f2 : W.frozen? ⟨B + 1 + 1, 2, none⟩ = false := by rw [hW, hB]; simp [go_sem]
  have hb : Below B w W := by rw [hW, hB]; (focus repeat' (first | (with_reducible exact Below.refl _ _) | (with_reducible assumption) | (with_reducible refine Below.alloc ?_ ?_ _) | (with_reducible refine Below.drew ?_) | (with_reducible refine bdrewN ?_ _) | (with_reducible refine Below.setCell ?_ ?_ _) | (first | (with_reducible exact Nat.le_refl _) | (with_reducible assumption) | omega | (simp; omega) | (simp; done))))
  have HB := hide hb
  have n1 : B ≠ B + 1 + 1 := by omega
  have n2 : B + 1 ≠ B + 1 + 1 := by omega
  have HBB := hide hB
  clear hW hb hB
  go_wp2
  refine bodyPost_ret (v := .tuple #[.agg #[.int .i64 x, .bool false, .int .i64 0], .bool false]) (by simp [results, Try.f65, go_sem, z80, z81, z82]) rfl ⟨rfl, ?_⟩
  rw [← HBB.out]
  (repeat (first | with_reducible refine Below.drew ?_ | with_reducible refine below_set (by omega) ?_ _ _ | with_reducible refine bdrewN ?_ _))
  exact HB.out

set_option maxRecDepth 100000 in
set_option maxHeartbeats 2000000 in
theorem idle_3b (who x v wh : Int) (pr : Value) (w : World) (h : x < v) : Calls Try.prog 65 #[pr, .int .i64 who, .agg #[.int .i64 3, .int .i64 x], .agg #[.bool true, .int .i64 v, .int .i64 wh, .bool true]] w fun e w' => e = .returned (.tuple #[.agg #[.int .i64 x, .bool false, .int .i64 0], .bool true]) ∧ Below w.heap.size w w' := by
  have d1 : decide (v < x) = false := decide_eq_false (by omega)
  have d2 : decide (x = v) = false := decide_eq_false (by omega)
  have d3 : (x == v) = false := by rw [beq_eq_false_iff_ne]; omega
  go_enter Try.func65, Try.ntmps65
  go_upto_region 1 with fail
  obtain ⟨W, hW⟩ : ∃ W, W = ((w.alloc (.cells #[.int .i64 3, .int .i64 x] 57)).alloc (.cells #[.bool true, .int .i64 (v), .int .i64 (wh), .bool true] 131)).alloc (.cells #[.int .i64 0, .bool false, .int .i64 0] 52) := ⟨_, rfl⟩
  rw [← hW]
  obtain ⟨B, hB⟩ : ∃ B, B = w.heap.size := ⟨_, rfl⟩
  rw [← hB]
  have z00 : W.cell? ⟨B, 0, none⟩ = some (.int .i64 3) := by rw [hW, hB]; simp [go_sem]
  have z01 : W.cell? ⟨B, 1, none⟩ = some (.int .i64 x) := by rw [hW, hB]; simp [go_sem]
  have z40 : W.cell? ⟨B + 1, 0, none⟩ = some (.bool true) := by rw [hW, hB]; simp [go_sem]
  have z41 : W.cell? ⟨B + 1, 1, none⟩ = some (.int .i64 (v)) := by rw [hW, hB]; simp [go_sem]
  have z42 : W.cell? ⟨B + 1, 2, none⟩ = some (.int .i64 (wh)) := by rw [hW, hB]; simp [go_sem]
  have z43 : W.cell? ⟨B + 1, 3, none⟩ = some (.bool true) := by rw [hW, hB]; simp [go_sem]
  have z80 : W.cell? ⟨B + 1 + 1, 0, none⟩ = some (.int .i64 0) := by rw [hW, hB]; simp [go_sem]
  have z81 : W.cell? ⟨B + 1 + 1, 1, none⟩ = some (.bool false) := by rw [hW, hB]; simp [go_sem]
  have z82 : W.cell? ⟨B + 1 + 1, 2, none⟩ = some (.int .i64 0) := by rw [hW, hB]; simp [go_sem]
  have f0 : W.frozen? ⟨B + 1 + 1, 0, none⟩ = false := by rw [hW, hB]; simp [go_sem]
  have f1 : W.frozen? ⟨B + 1 + 1, 1, none⟩ = false := by rw [hW, hB]; simp [go_sem]
  have f2 : W.frozen? ⟨B + 1 + 1, 2, none⟩ = false := by rw [hW, hB]; simp [go_sem]
  have hb : Below B w W := by rw [hW, hB]; (focus repeat' (first | (with_reducible exact Below.refl _ _) | (with_reducible assumption) | (with_reducible refine Below.alloc ?_ ?_ _) | (with_reducible refine Below.drew ?_) | (with_reducible refine bdrewN ?_ _) | (with_reducible refine Below.setCell ?_ ?_ _) | (first | (with_reducible exact Nat.le_refl _) | (with_reducible assumption) | omega | (simp; omega) | (simp; done))))
  have HB := hide hb
  have n1 : B ≠ B + 1 + 1 := by omega
  have n2 : B + 1 ≠ B + 1 + 1 := by omega
  have HBB := hide hB
  clear hW hb hB
  go_wp2
  refine bodyPost_ret (v := .tuple #[.agg #[.int .i64 x, .bool false, .int .i64 0], .bool true]) (by simp [results, Try.f65, go_sem, z80, z81, z82]) rfl ⟨rfl, ?_⟩
  rw [← HBB.out]
  (repeat (first | with_reducible refine Below.drew ?_ | with_reducible refine below_set (by omega) ?_ _ _ | with_reducible refine bdrewN ?_ _))
  exact HB.out

set_option maxRecDepth 100000 in
set_option maxHeartbeats 2000000 in
theorem idle_3c (who x v wh : Int) (pr : Value) (w : World) (h : x = v) (h2 : who < wh) : Calls Try.prog 65 #[pr, .int .i64 who, .agg #[.int .i64 3, .int .i64 x], .agg #[.bool true, .int .i64 v, .int .i64 wh, .bool true]] w fun e w' => e = .returned (.tuple #[.agg #[.int .i64 x, .bool false, .int .i64 0], .bool false]) ∧ Below w.heap.size w w' := by
  have d1 : decide (v < x) = false := decide_eq_false (by omega)
  have d2 : decide (x = v) = true := decide_eq_true (by omega)
  have d3 : (x == v) = true := by rw [beq_iff_eq]; exact h
  have d4 : decide (who < wh) = true := decide_eq_true (by omega)
  clear h
  go_enter Try.func65, Try.ntmps65
  go_upto_region 1 with fail
  obtain ⟨W, hW⟩ : ∃ W, W = ((w.alloc (.cells #[.int .i64 3, .int .i64 x] 57)).alloc (.cells #[.bool true, .int .i64 (v), .int .i64 (wh), .bool true] 131)).alloc (.cells #[.int .i64 0, .bool false, .int .i64 0] 52) := ⟨_, rfl⟩
  rw [← hW]
  obtain ⟨B, hB⟩ : ∃ B, B = w.heap.size := ⟨_, rfl⟩
  rw [← hB]
  have z00 : W.cell? ⟨B, 0, none⟩ = some (.int .i64 3) := by rw [hW, hB]; simp [go_sem]
  have z01 : W.cell? ⟨B, 1, none⟩ = some (.int .i64 x) := by rw [hW, hB]; simp [go_sem]
  have z40 : W.cell? ⟨B + 1, 0, none⟩ = some (.bool true) := by rw [hW, hB]; simp [go_sem]
  have z41 : W.cell? ⟨B + 1, 1, none⟩ = some (.int .i64 (v)) := by rw [hW, hB]; simp [go_sem]
  have z42 : W.cell? ⟨B + 1, 2, none⟩ = some (.int .i64 (wh)) := by rw [hW, hB]; simp [go_sem]
  have z43 : W.cell? ⟨B + 1, 3, none⟩ = some (.bool true) := by rw [hW, hB]; simp [go_sem]
  have z80 : W.cell? ⟨B + 1 + 1, 0, none⟩ = some (.int .i64 0) := by rw [hW, hB]; simp [go_sem]
  have z81 : W.cell? ⟨B + 1 + 1, 1, none⟩ = some (.bool false) := by rw [hW, hB]; simp [go_sem]
  have z82 : W.cell? ⟨B + 1 + 1, 2, none⟩ = some (.int .i64 0) := by rw [hW, hB]; simp [go_sem]
  have f0 : W.frozen? ⟨B + 1 + 1, 0, none⟩ = false := by rw [hW, hB]; simp [go_sem]
  have f1 : W.frozen? ⟨B + 1 + 1, 1, none⟩ = false := by rw [hW, hB]; simp [go_sem]
  have f2 : W.frozen? ⟨B + 1 + 1, 2, none⟩ = false := by rw [hW, hB]; simp [go_sem]
  have hb : Below B w W := by rw [hW, hB]; (focus repeat' (first | (with_reducible exact Below.refl _ _) | (with_reducible assumption) | (with_reducible refine Below.alloc ?_ ?_ _) | (with_reducible refine Below.drew ?_) | (with_reducible refine bdrewN ?_ _) | (with_reducible refine Below.setCell ?_ ?_ _) | (first | (with_reducible exact Nat.le_refl _) | (with_reducible assumption) | omega | (simp; omega) | (simp; done))))
  have HB := hide hb
  have n1 : B ≠ B + 1 + 1 := by omega
  have n2 : B + 1 ≠ B + 1 + 1 := by omega
  have HBB := hide hB
  clear hW hb hB
  go_wp2
  refine bodyPost_ret (v := .tuple #[.agg #[.int .i64 x, .bool false, .int .i64 0], .bool false]) (by simp [results, Try.f65, go_sem, z80, z81, z82]) rfl ⟨rfl, ?_⟩
  rw [← HBB.out]
  (repeat (first | with_reducible refine Below.drew ?_ | with_reducible refine below_set (by omega) ?_ _ _ | with_reducible refine bdrewN ?_ _))
  exact HB.out

set_option maxRecDepth 100000 in
set_option maxHeartbeats 2000000 in
theorem idle_3d (who x v wh : Int) (pr : Value) (w : World) (h : x = v) (h2 : wh ≤ who) : Calls Try.prog 65 #[pr, .int .i64 who, .agg #[.int .i64 3, .int .i64 x], .agg #[.bool true, .int .i64 v, .int .i64 wh, .bool true]] w fun e w' => e = .returned (.tuple #[.agg #[.int .i64 x, .bool false, .int .i64 0], .bool true]) ∧ Below w.heap.size w w' := by
  have d1 : decide (v < x) = false := decide_eq_false (by omega)
  have d2 : decide (x = v) = true := decide_eq_true (by omega)
  have d3 : (x == v) = true := by rw [beq_iff_eq]; exact h
  have d4 : decide (who < wh) = false := decide_eq_false (by omega)
  clear h
  go_enter Try.func65, Try.ntmps65
  go_upto_region 1 with fail
  obtain ⟨W, hW⟩ : ∃ W, W = ((w.alloc (.cells #[.int .i64 3, .int .i64 x] 57)).alloc (.cells #[.bool true, .int .i64 (v), .int .i64 (wh), .bool true] 131)).alloc (.cells #[.int .i64 0, .bool false, .int .i64 0] 52) := ⟨_, rfl⟩
  rw [← hW]
  obtain ⟨B, hB⟩ : ∃ B, B = w.heap.size := ⟨_, rfl⟩
  rw [← hB]
  have z00 : W.cell? ⟨B, 0, none⟩ = some (.int .i64 3) := by rw [hW, hB]; simp [go_sem]
  have z01 : W.cell? ⟨B, 1, none⟩ = some (.int .i64 x) := by rw [hW, hB]; simp [go_sem]
  have z40 : W.cell? ⟨B + 1, 0, none⟩ = some (.bool true) := by rw [hW, hB]; simp [go_sem]
  have z41 : W.cell? ⟨B + 1, 1, none⟩ = some (.int .i64 (v)) := by rw [hW, hB]; simp [go_sem]
  have z42 : W.cell? ⟨B + 1, 2, none⟩ = some (.int .i64 (wh)) := by rw [hW, hB]; simp [go_sem]
  have z43 : W.cell? ⟨B + 1, 3, none⟩ = some (.bool true) := by rw [hW, hB]; simp [go_sem]
  have z80 : W.cell? ⟨B + 1 + 1, 0, none⟩ = some (.int .i64 0) := by rw [hW, hB]; simp [go_sem]
  have z81 : W.cell? ⟨B + 1 + 1, 1, none⟩ = some (.bool false) := by rw [hW, hB]; simp [go_sem]
  have z82 : W.cell? ⟨B + 1 + 1, 2, none⟩ = some (.int .i64 0) := by rw [hW, hB]; simp [go_sem]
  have f0 : W.frozen? ⟨B + 1 + 1, 0, none⟩ = false := by rw [hW, hB]; simp [go_sem]
  have f1 : W.frozen? ⟨B + 1 + 1, 1, none⟩ = false := by rw [hW, hB]; simp [go_sem]
  have f2 : W.frozen? ⟨B + 1 + 1, 2, none⟩ = false := by rw [hW, hB]; simp [go_sem]
  have hb : Below B w W := by rw [hW, hB]; (focus repeat' (first | (with_reducible exact Below.refl _ _) | (with_reducible assumption) | (with_reducible refine Below.alloc ?_ ?_ _) | (with_reducible refine Below.drew ?_) | (with_reducible refine bdrewN ?_ _) | (with_reducible refine Below.setCell ?_ ?_ _) | (first | (with_reducible exact Nat.le_refl _) | (with_reducible assumption) | omega | (simp; omega) | (simp; done))))
  have HB := hide hb
  have n1 : B ≠ B + 1 + 1 := by omega
  have n2 : B + 1 ≠ B + 1 + 1 := by omega
  have HBB := hide hB
  clear hW hb hB
  go_wp2
  refine bodyPost_ret (v := .tuple #[.agg #[.int .i64 x, .bool false, .int .i64 0], .bool true]) (by simp [results, Try.f65, go_sem, z80, z81, z82]) rfl ⟨rfl, ?_⟩
  rw [← HBB.out]
  (repeat (first | with_reducible refine Below.drew ?_ | with_reducible refine below_set (by omega) ?_ _ _ | with_reducible refine bdrewN ?_ _))
  exact HB.out

theorem idle_3 (o : Option (Int × Int)) (who x : Int) (pr : Value) (w : World) : Calls Try.prog 65 #[pr, .int .i64 who, .agg #[.int .i64 3, .int .i64 x], .agg #[.bool true, .int .i64 (bX o), .int .i64 (bWho o), .bool o.isSome]] w fun e w' => e = .returned (.tuple #[.agg #[.int .i64 x, .bool false, .int .i64 0], .bool (idleB o who x)]) ∧ Below w.heap.size w w' := by
  cases o with
  | none => exact idle_3n who x pr w
  | some z =>
    obtain ⟨w2, x2⟩ := z
    show Calls Try.prog 65 #[pr, .int .i64 who, .agg #[.int .i64 3, .int .i64 x], .agg #[.bool true, .int .i64 x2, .int .i64 w2, .bool true]] w fun e w' => e = .returned (.tuple #[.agg #[.int .i64 x, .bool false, .int .i64 0], .bool (decide (x < x2) || (decide (x = x2) && decide (w2 ≤ who)))]) ∧ Below w.heap.size w w'
    by_cases h1 : x2 < x
    · rw [decide_eq_false (show ¬ x < x2 by omega), decide_eq_false (show ¬ x = x2 by omega)]
      exact idle_3a who x x2 w2 pr w h1
    · by_cases h2 : x < x2
      · rw [decide_eq_true h2]
        exact idle_3b who x x2 w2 pr w h2
      · rw [decide_eq_false h2, decide_eq_true (show x = x2 by omega)]
        by_cases h3 : who < w2
        · rw [decide_eq_false (show ¬ w2 ≤ who by omega)]
          exact idle_3c who x x2 w2 pr w (by omega) h3
        · rw [decide_eq_true (show w2 ≤ who by omega)]
          exact idle_3d who x x2 w2 pr w (by omega) (by omega)
end Go.Proofs.Ytimabgakemgldaa

