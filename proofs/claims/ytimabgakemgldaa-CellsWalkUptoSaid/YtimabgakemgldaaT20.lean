import Derived.Test.YtimabgakemgldaaT19
import Derived.Laws.LoneSync
import Derived.WalkKit
import Derived.StillTailTactics
import Derived.Deep.RegionLaw
import Derived.Deep.RegionHeld3
import Derived.Laws.OwnMore
import Derived.Deep.Matrix
import Derived.BigQuiet
import Derived.Deep.QuietTactic
import Derived.Laws.EntriesVeiled
namespace Go.Proofs.Ytimabgakemgldaa
open Go.ChangeShapes Go.WideShapes Go.ChangeAt Go.RowKit Go.Deep
set_option linter.unusedSimpArgs false
set_option linter.unusedVariables false

theorem num_c (e : Int) (w : World) : Calls Try.prog 10 #[.int .i64 e] w fun e' w' => e' = .returned (.int .i64 e) ∧ w = w' := by
  go_enter Try.func10, Try.ntmps10
  go_wp2
  go_ret
  exact ⟨rfl, rfl⟩
/-- the law's names for the program's cells -/
structure LW (w : World) (wp : Nat) (L : Nat → Nat) : Prop where
  c0 : w.cell? ⟨wp, 0, none⟩ = some (.pointer (some ⟨L 4, 0, none⟩))
  c1 : w.cell? ⟨wp, 1, none⟩ = some (.pointer (some ⟨L 0, 0, none⟩))
  c2 : w.cell? ⟨wp, 2, none⟩ = some (.pointer (some ⟨L 2, 0, none⟩))
  c3 : w.cell? ⟨wp, 3, none⟩ = some (.pointer (some ⟨L 6, 0, none⟩))
  c4 : w.cell? ⟨wp, 4, none⟩ = some (.pointer (some ⟨L 7, 0, none⟩))
theorem LW.stays {w w' : World} {wp : Nat} {L : Nat → Nat} (h : LW w wp L) (hb : w'.heap[wp]? = w.heap[wp]?) : LW w' wp L := ⟨cell_stay h.c0 hb, cell_stay h.c1 hb, cell_stay h.c2 hb, cell_stay h.c3 hb, cell_stay h.c4 hb⟩
theorem LW.lt {w : World} {wp : Nat} {L : Nat → Nat} (h : LW w wp L) : wp < w.heap.size := World.block_lt_of_cell? w _ h.c0
/-- the law's op's boxes: the step, the result, the answer -/
structure DsB (W : World) (n : Nat) (kind who x a : Int) (y : Bool) : Prop where
  b0 : W.cell? ⟨n, 0, none⟩ = some (.int .i64 kind)
  b1 : W.cell? ⟨n, 1, none⟩ = some (.int .i64 who)
  b2 : W.cell? ⟨n, 2, none⟩ = some (.int .i64 x)
  d0 : W.cell? ⟨n + 1, 0, none⟩ = some (.int .i64 0)
  d1 : W.cell? ⟨n + 1, 1, none⟩ = some (.bool false)
  d2 : W.cell? ⟨n + 1, 2, none⟩ = some (.int .i64 0)
  df : ∀ o, W.frozen? ⟨n + 1, o, none⟩ = false
  e0 : W.cell? ⟨n + 1 + 1, 0, none⟩ = some (.int .i64 a)
  e1 : W.cell? ⟨n + 1 + 1, 1, none⟩ = some (.bool y)
  e2 : W.cell? ⟨n + 1 + 1, 2, none⟩ = some (.int .i64 0)
  ef : ∀ o, W.frozen? ⟨n + 1 + 1, o, none⟩ = false
theorem DsB.made (w : World) (k who x : Int) : DsB (((w.alloc (.cells #[.int .i64 k, .int .i64 who, .int .i64 x] 48)).alloc (.cells #[.int .i64 0, .bool false, .int .i64 0] 52)).alloc (.cells #[.int .i64 0, .bool false, .int .i64 0] 52)) w.heap.size k who x 0 false :=
  ⟨by simp [go_sem], by simp [go_sem], by simp [go_sem], by simp [go_sem], by simp [go_sem], by simp [go_sem], fun o => by simp [go_sem], by simp [go_sem], by simp [go_sem], by simp [go_sem], fun o => by simp [go_sem]⟩
theorem DsB.stays {W V : World} {n : Nat} {k who x a : Int} {y : Bool} (h : DsB W n k who x a y) (h0 : V.heap[n]? = W.heap[n]?) (h1 : V.heap[n + 1]? = W.heap[n + 1]?) (h2 : V.heap[n + 1 + 1]? = W.heap[n + 1 + 1]?) : DsB V n k who x a y :=
  ⟨cell_stay h.b0 h0, cell_stay h.b1 h0, cell_stay h.b2 h0, cell_stay h.d0 h1, cell_stay h.d1 h1, cell_stay h.d2 h1, fun o => fro_stay (h.df o) h1, cell_stay h.e0 h2, cell_stay h.e1 h2, cell_stay h.e2 h2, fun o => fro_stay (h.ef o) h2⟩
theorem DsB.wr {W V : World} {n : Nat} {k who x a : Int} {y : Bool} (h : DsB W n k who x a y) {b o : Nat} {u : Value} (hb : b < n) (hw : WrN W b o u V) : DsB V n k who x a y := by
  have l0 := World.block_lt_of_cell? W _ h.b0
  have l1 := World.block_lt_of_cell? W _ h.d0
  have l2 := World.block_lt_of_cell? W _ h.e0
  exact h.stays (hw.heap _ l0 (by omega)) (hw.heap _ l1 (by omega)) (hw.heap _ l2 (by omega))
/-- the end: the answer is copied -/
def DoesPost (L : Nat → Nat) (A : Ab) (who k x : Int) (w : World) (e : Ending) (w' : World) : Prop := e = .returned (.agg #[.int .i64 (doA A who k x).1, .bool (doA A who k x).2, .int .i64 0]) ∧ ∃ po, CObj w' L po (doS A who k x) ∧ Tch (CW L) w w'
theorem DsB.fin {w V V' : World} {L : Nat → Nat} {po : Option Addr} {A A' : Ab} {who k x a : Int} {y : Bool} (hC : CObj V L po A') (hT : Tch (CW L) w V) (hlt : ∀ i, i < 9 → L i < w.heap.size) (hpo : ∀ b, po = some ⟨b, 0, none⟩ → b ≠ w.heap.size + 1 ∧ b ≠ w.heap.size + 1 + 1) (hA : (doA A who k x) = (a, y)) (hS : doS A who k x = A')
    (hV : ∀ b, b ≠ w.heap.size + 1 → b ≠ w.heap.size + 1 + 1 → V'.heap[b]? = V.heap[b]?) (ho : V'.os = V.os ∧ V'.tape = V.tape ∧ V'.output = V.output ∧ V.heap.size ≤ V'.heap.size) :
    DoesPost L A who k x w (.returned (.agg #[.int .i64 a, .bool y, .int .i64 0])) V' := by
  refine ⟨by rw [hA], po, ?_, ho.1.trans hT.os, ho.2.1.trans hT.tape, ho.2.2.1.trans hT.output, Nat.le_trans hT.size ho.2.2.2, fun b hb hn => (hV b (by omega) (by omega)).trans (hT.heap b hb hn)⟩
  rw [hS]
  exact hC.keep (fun i hi => hV _ (by have := hlt i hi; omega) (by have := hlt i hi; omega)) (fun b e => hV b (hpo b e).1 (hpo b e).2)

set_option maxRecDepth 100000 in
set_option maxHeartbeats 2000000 in
theorem does4 (wp : Nat) (L : Nat → Nat) (po : Option Addr) (A : Ab) (who x : Int) (w : World) (h : CObj w L po A) (hL : LW w wp L)(g1 : 1 ≤ A.gt) (h0 : 0 ≤ A.ar) (h1 : A.ar ≤ 4611686018427387904) : Calls Try.prog 16 #[.pointer (some ⟨wp, 0, none⟩), .agg #[.int .i64 4, .int .i64 who, .int .i64 x]] w (DoesPost L A who 4 x w) := by
  obtain ⟨W, hW⟩ : ∃ W, W = ((w.alloc (.cells #[.int .i64 4, .int .i64 who, .int .i64 x] 48)).alloc (.cells #[.int .i64 0, .bool false, .int .i64 0] 52)).alloc (.cells #[.int .i64 0, .bool false, .int .i64 0] 52) := ⟨_, rfl⟩
  have hb : Below w.heap.size w W := by rw [hW]; (focus repeat' (first | (with_reducible exact Below.refl _ _) | (with_reducible assumption) | (with_reducible refine Below.alloc ?_ ?_ _) | (with_reducible refine Below.drew ?_) | (with_reducible refine bdrewN ?_ _) | (with_reducible refine Below.setCell ?_ ?_ _) | (first | (with_reducible exact Nat.le_refl _) | (with_reducible assumption) | omega | (simp; omega) | (simp; done))))
  have H := hide (h.below hb)
  have HLW := hide (hL.stays (hb.block _ hL.lt))
  have lw := hL.lt
  have LT := hide h.lt
  have PO := hide (show ∀ b, po = some ⟨b, 0, none⟩ → b < w.heap.size from fun b e => h.best.o.lt e)
  have DB : DsB W w.heap.size 4 who x 0 false := by rw [hW]; exact DsB.made w 4 who x
  have HT := hide (show Tch (CW L) w W from Tch.of hb)
  have zW : Hid (W.heap.size = w.heap.size + 3) := by rw [hW]; exact hide (by simp)
  have HW := hide hW
  clear h hL hW
  have b0 := DB.b0
  have b1 := DB.b1
  have b2 := DB.b2
  have d0 := DB.d0
  have d1 := DB.d1
  have d2 := DB.d2
  have df0 := DB.df 0
  have df1 := DB.df 1
  have df2 := DB.df 2
  have e0 := DB.e0
  have e1 := DB.e1
  have e2 := DB.e2
  have ef0 := DB.ef 0
  have ef1 := DB.ef 1
  have c3 := HLW.out.c3
  have g3 : wrap64 (A.ar + 1) = A.ar + 1 := IntWalk.wrap64_in _ (by omega)
  have QA := hide (show doA A who 4 x = (A.ar, decide (A.gt ≤ A.ar + 1)) by simp [doA, g3])
  have QS := hide (show doS A who 4 x = { A with ar := A.ar + 1 } by simp [doS, g3])
  have C := hide (H.out.gate.arrive g1 h0 h1)
  have HD := hide DB
  clear DB g1 h0 h1 g3 hb
  go_enter Try.func16, Try.ntmps16
  go_upto_region 6 with fail
  rw [← HW.out]
  go_wp2_with fail
  refine C.out.mono ?_
  rintro e w1 ⟨rfl, kk, hw1⟩
  have hwr : WrN W (L 6) 1 (.int .i64 (A.ar + 1)) w1 := by rw [hw1]; exact (WrN.set H.out.gate.a).drew kk
  clear hw1
  have HT2 := hide (show Tch (CW L) w w1 from HT.out.trans (hwr.tch.imp (fun k _ e => by rw [e]; simp [CW])))
  have HC := hide (show CObj w1 L po { A with ar := A.ar + 1 } from H.out.came _ hwr)
  have HP := hide (show ∀ b, po = some ⟨b, 0, none⟩ → b ≠ w.heap.size + 1 ∧ b ≠ w.heap.size + 1 + 1 from fun b e => by have := PO.out b e; omega)
  have HD2 := hide (HD.out.wr (LT.out 6 (by decide)) hwr)
  clear hwr
  clear b0 b1 b2 d0 d1 d2 df0 df1 df2 e0 e1 e2 ef0 ef1
  have b0 := HD2.out.b0
  have b1 := HD2.out.b1
  have b2 := HD2.out.b2
  have d0 := HD2.out.d0
  have d1 := HD2.out.d1
  have d2 := HD2.out.d2
  have df0 := HD2.out.df 0
  have df1 := HD2.out.df 1
  have df2 := HD2.out.df 2
  have e0 := HD2.out.e0
  have e1 := HD2.out.e1
  have e2 := HD2.out.e2
  have ef0 := HD2.out.ef 0
  have ef1 := HD2.out.ef 1
  go_wp2
  refine bodyPost_ret (v := .agg #[.int .i64 A.ar, .bool (decide (A.gt ≤ A.ar + 1)), .int .i64 0]) (by simp [results, Try.f16, go_sem, *]) rfl ?_
  refine DsB.fin (A' := { A with ar := A.ar + 1 }) HC.out HT2.out LT.out HP.out QA.out QS.out (fun b p1 p2 => ?_) ⟨rfl, rfl, rfl, ?_⟩
  · exact (heap_setCell_other _ _ _ _ p1).trans ((heap_setCell_other _ _ _ _ p1).trans ((heap_setCell_other _ _ _ _ p1).trans ((heap_setCell_other _ _ _ _ p2).trans (heap_setCell_other _ _ _ _ p2))))
  · (simp only [World.size_setCell]; exact Nat.le_refl _)
end Go.Proofs.Ytimabgakemgldaa
