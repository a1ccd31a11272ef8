import Derived.Test.YtimabgakemgldaaT20
import Derived.Laws.LoneSync
import Derived.WalkKit
import Derived.StillTailTactics
import Derived.Deep.RegionLaw
import Derived.Deep.RegionHeld3
import Derived.Laws.OwnMore
import Derived.Deep.Matrix
import Derived.BigQuiet
import Derived.Deep.QuietTactic
import Derived.Laws.EntriesVeiled
namespace Go.Proofs.Ytimabgakemgldaa
open Go.ChangeShapes Go.WideShapes Go.ChangeAt Go.RowKit Go.Deep
set_option linter.unusedSimpArgs false
set_option linter.unusedVariables false

theorem WrN.undrew {w w' : World} {b o n : Nat} {u : Value} (h : WrN (w.drewN n) b o u w') : WrN w b o u w' := ⟨h.os, h.tape, h.output, h.size, h.heap, h.at_, h.oth, h.fro⟩
theorem OffR.undrew {w w' : World} {bc n : Nat} {p : Option Addr} {o : Option (Int × Int)} {who x : Int} (h : OffR (w.drewN n) bc p o who x w') : OffR w bc p o who x w' := by
  obtain ⟨p', h1, h2, h3⟩ := h
  exact ⟨p', h1, h2, h3.undrew⟩

set_option maxRecDepth 100000 in
set_option maxHeartbeats 2000000 in
theorem does5 (wp : Nat) (L : Nat → Nat) (po : Option Addr) (A : Ab) (who x : Int) (w : World) (h : CObj w L po A) (hL : LW w wp L)(h1 : -9223372036854775808 ≤ A.tk + 1 ∧ A.tk + 1 ≤ 9223372036854775807) : Calls Try.prog 16 #[.pointer (some ⟨wp, 0, none⟩), .agg #[.int .i64 5, .int .i64 who, .int .i64 x]] w (DoesPost L A who 5 x w) := by
  obtain ⟨W, hW⟩ : ∃ W, W = ((w.alloc (.cells #[.int .i64 5, .int .i64 who, .int .i64 x] 48)).alloc (.cells #[.int .i64 0, .bool false, .int .i64 0] 52)).alloc (.cells #[.int .i64 0, .bool false, .int .i64 0] 52) := ⟨_, rfl⟩
  have hb : Below w.heap.size w W := by rw [hW]; (focus repeat' (first | (with_reducible exact Below.refl _ _) | (with_reducible assumption) | (with_reducible refine Below.alloc ?_ ?_ _) | (with_reducible refine Below.drew ?_) | (with_reducible refine bdrewN ?_ _) | (with_reducible refine Below.setCell ?_ ?_ _) | (first | (with_reducible exact Nat.le_refl _) | (with_reducible assumption) | omega | (simp; omega) | (simp; done))))
  have H := hide (h.below hb)
  have HLW := hide (hL.stays (hb.block _ hL.lt))
  have lw := hL.lt
  have LT := hide h.lt
  have PO := hide (show ∀ b, po = some ⟨b, 0, none⟩ → b < w.heap.size from fun b e => h.best.o.lt e)
  have DB : DsB W w.heap.size 5 who x 0 false := by rw [hW]; exact DsB.made w 5 who x
  have HT := hide (show Tch (CW L) w W from Tch.of hb)
  have zW : Hid (W.heap.size = w.heap.size + 3) := by rw [hW]; exact hide (by simp)
  have HW := hide hW
  clear h hL hW
  have b0 := DB.b0
  have b1 := DB.b1
  have b2 := DB.b2
  have d0 := DB.d0
  have d1 := DB.d1
  have d2 := DB.d2
  have df0 := DB.df 0
  have df1 := DB.df 1
  have df2 := DB.df 2
  have e0 := DB.e0
  have e1 := DB.e1
  have e2 := DB.e2
  have ef0 := DB.ef 0
  have ef1 := DB.ef 1
  have c4 := HLW.out.c4
  have QA := hide (show doA A who 5 x = (takeA A.tt A.tk, decide (A.tk < A.tt)) by simp [doA])
  have QS := hide (show doS A who 5 x = { A with tk := takeN A.tt A.tk } by simp [doS])
  have C := hide (Take_c (L 7) (L 8) A.tt A.tk W H.out.tick (H.out.ne 8 7 (by decide) (by decide) (by decide)) h1)
  have HD := hide DB
  clear DB h1 hb
  go_enter Try.func16, Try.ntmps16
  go_upto_region 6 with fail
  rw [← HW.out]
  go_wp2_with fail
  refine C.out.mono ?_
  rintro e w1 ⟨rfl, hwr⟩
  have HT2 := hide (show Tch (CW L) w w1 from HT.out.trans (hwr.tch.imp (fun k _ e => by rw [e]; simp [CW])))
  have HC := hide (show CObj w1 L po { A with tk := takeN A.tt A.tk } from H.out.took _ hwr)
  have HP := hide (show ∀ b, po = some ⟨b, 0, none⟩ → b ≠ w.heap.size + 1 ∧ b ≠ w.heap.size + 1 + 1 from fun b e => by have := PO.out b e; omega)
  have HD2 := hide (HD.out.wr (LT.out 8 (by decide)) hwr)
  clear hwr
  clear b0 b1 b2 d0 d1 d2 df0 df1 df2 e0 e1 e2 ef0 ef1
  have b0 := HD2.out.b0
  have b1 := HD2.out.b1
  have b2 := HD2.out.b2
  have d0 := HD2.out.d0
  have d1 := HD2.out.d1
  have d2 := HD2.out.d2
  have df0 := HD2.out.df 0
  have df1 := HD2.out.df 1
  have df2 := HD2.out.df 2
  have e0 := HD2.out.e0
  have e1 := HD2.out.e1
  have e2 := HD2.out.e2
  have ef0 := HD2.out.ef 0
  have ef1 := HD2.out.ef 1
  go_wp2
  refine bodyPost_ret (v := .agg #[.int .i64 (takeA A.tt A.tk), .bool (decide (A.tk < A.tt)), .int .i64 0]) (by simp [results, Try.f16, go_sem, *]) rfl ?_
  refine DsB.fin (A' := { A with tk := takeN A.tt A.tk }) HC.out HT2.out LT.out HP.out QA.out QS.out (fun b p1 p2 => ?_) ⟨rfl, rfl, rfl, ?_⟩
  · exact (heap_setCell_other _ _ _ _ p1).trans ((heap_setCell_other _ _ _ _ p1).trans ((heap_setCell_other _ _ _ _ p1).trans ((heap_setCell_other _ _ _ _ p2).trans (heap_setCell_other _ _ _ _ p2))))
  · (simp only [World.size_setCell]; exact Nat.le_refl _)

set_option maxRecDepth 100000 in
set_option maxHeartbeats 2000000 in
theorem doesX (wp : Nat) (L : Nat → Nat) (po : Option Addr) (A : Ab) (who x : Int) (w : World) (h : CObj w L po A) (hL : LW w wp L) (k : Int) (k1 : ¬ k = 1) (k2 : ¬ k = 2) (k3 : ¬ k = 3) (k4 : ¬ k = 4) (k5 : ¬ k = 5) : Calls Try.prog 16 #[.pointer (some ⟨wp, 0, none⟩), .agg #[.int .i64 k, .int .i64 who, .int .i64 x]] w (DoesPost L A who k x w) := by
  obtain ⟨W, hW⟩ : ∃ W, W = ((w.alloc (.cells #[.int .i64 k, .int .i64 who, .int .i64 x] 48)).alloc (.cells #[.int .i64 0, .bool false, .int .i64 0] 52)).alloc (.cells #[.int .i64 0, .bool false, .int .i64 0] 52) := ⟨_, rfl⟩
  have hb : Below w.heap.size w W := by rw [hW]; (focus repeat' (first | (with_reducible exact Below.refl _ _) | (with_reducible assumption) | (with_reducible refine Below.alloc ?_ ?_ _) | (with_reducible refine Below.drew ?_) | (with_reducible refine bdrewN ?_ _) | (with_reducible refine Below.setCell ?_ ?_ _) | (first | (with_reducible exact Nat.le_refl _) | (with_reducible assumption) | omega | (simp; omega) | (simp; done))))
  have H := hide (h.below hb)
  have HLW := hide (hL.stays (hb.block _ hL.lt))
  have lw := hL.lt
  have LT := hide h.lt
  have PO := hide (show ∀ b, po = some ⟨b, 0, none⟩ → b < w.heap.size from fun b e => h.best.o.lt e)
  have DB : DsB W w.heap.size k who x 0 false := by rw [hW]; exact DsB.made w k who x
  have HT := hide (show Tch (CW L) w W from Tch.of hb)
  have zW : Hid (W.heap.size = w.heap.size + 3) := by rw [hW]; exact hide (by simp)
  have HW := hide hW
  clear h hL hW
  have b0 := DB.b0
  have b1 := DB.b1
  have b2 := DB.b2
  have d0 := DB.d0
  have d1 := DB.d1
  have d2 := DB.d2
  have df0 := DB.df 0
  have df1 := DB.df 1
  have df2 := DB.df 2
  have e0 := DB.e0
  have e1 := DB.e1
  have e2 := DB.e2
  have ef0 := DB.ef 0
  have ef1 := DB.ef 1
  have QA := hide (show doA A who k x = (0, false) by simp [doA, k1, k2, k3, k4, k5])
  have QS := hide (show doS A who k x = A by simp [doS, k1, k2, k3, k4, k5])
  have p1 : decide (k = 1) = false := by simp [k1]
  have r1 : (k == 1) = false := by simp [k1]
  have p2 : decide (k = 2) = false := by simp [k2]
  have r2 : (k == 2) = false := by simp [k2]
  have p3 : decide (k = 3) = false := by simp [k3]
  have r3 : (k == 3) = false := by simp [k3]
  have p4 : decide (k = 4) = false := by simp [k4]
  have r4 : (k == 4) = false := by simp [k4]
  have p5 : decide (k = 5) = false := by simp [k5]
  have r5 : (k == 5) = false := by simp [k5]
  clear DB hb k1 k2 k3 k4 k5
  have HC := hide H.out
  have HT2 := hide HT.out
  have HP := hide (show ∀ b, po = some ⟨b, 0, none⟩ → b ≠ w.heap.size + 1 ∧ b ≠ w.heap.size + 1 + 1 from fun b e => by have := PO.out b e; omega)
  go_enter Try.func16, Try.ntmps16
  go_upto_region 3 with fail
  rw [← HW.out]
  go_wp2
  refine bodyPost_ret (v := .agg #[.int .i64 0, .bool false, .int .i64 0]) (by simp [results, Try.f16, go_sem, *]) rfl ?_
  refine DsB.fin (A' := A) HC.out HT2.out LT.out HP.out QA.out QS.out (fun b p1 p2 => ?_) ⟨rfl, rfl, rfl, ?_⟩
  · exact (heap_setCell_other _ _ _ _ p1).trans ((heap_setCell_other _ _ _ _ p1).trans (heap_setCell_other _ _ _ _ p1))
  · (simp only [World.size_setCell]; exact Nat.le_refl _)

set_option maxRecDepth 100000 in
set_option maxHeartbeats 2000000 in
theorem does2 (wp : Nat) (L : Nat → Nat) (po : Option Addr) (A : Ab) (who x : Int) (w : World) (h : CObj w L po A) (hL : LW w wp L)(hw : ∀ i, i < 9 → wp ≠ L i) : Calls Try.prog 16 #[.pointer (some ⟨wp, 0, none⟩), .agg #[.int .i64 2, .int .i64 who, .int .i64 x]] w (DoesPost L A who 2 x w) := by
  obtain ⟨W, hW⟩ : ∃ W, W = ((w.alloc (.cells #[.int .i64 2, .int .i64 who, .int .i64 x] 48)).alloc (.cells #[.int .i64 0, .bool false, .int .i64 0] 52)).alloc (.cells #[.int .i64 0, .bool false, .int .i64 0] 52) := ⟨_, rfl⟩
  have hb : Below w.heap.size w W := by rw [hW]; (focus repeat' (first | (with_reducible exact Below.refl _ _) | (with_reducible assumption) | (with_reducible refine Below.alloc ?_ ?_ _) | (with_reducible refine Below.drew ?_) | (with_reducible refine bdrewN ?_ _) | (with_reducible refine Below.setCell ?_ ?_ _) | (first | (with_reducible exact Nat.le_refl _) | (with_reducible assumption) | omega | (simp; omega) | (simp; done))))
  have H := hide (h.below hb)
  have HLW := hide (hL.stays (hb.block _ hL.lt))
  have lw := hL.lt
  have LT := hide h.lt
  have PO := hide (show ∀ b, po = some ⟨b, 0, none⟩ → b < w.heap.size from fun b e => h.best.o.lt e)
  have DB : DsB W w.heap.size 2 who x 0 false := by rw [hW]; exact DsB.made w 2 who x
  have HT := hide (show Tch (CW L) w W from Tch.of hb)
  have zW : Hid (W.heap.size = w.heap.size + 3) := by rw [hW]; exact hide (by simp)
  have HW := hide hW
  clear h hL hW
  have b0 := DB.b0
  have b1 := DB.b1
  have b2 := DB.b2
  have d0 := DB.d0
  have d1 := DB.d1
  have d2 := DB.d2
  have df0 := DB.df 0
  have df1 := DB.df 1
  have df2 := DB.df 2
  have e0 := DB.e0
  have e1 := DB.e1
  have e2 := DB.e2
  have ef0 := DB.ef 0
  have ef1 := DB.ef 1
  have c1 := HLW.out.c1
  have QA := hide (show doA A who 2 x = (A.mark, decide (A.mark < x)) by simp [doA])
  have QS := hide (show doS A who 2 x = { A with mark := max A.mark x } by simp [doS])
  have C := hide (fun n => Raise_c (L 0) (L 1) A.mark x (W.drewN n) (H.out.drew n).mark (H.out.ne 1 0 (by decide) (by decide) (by decide)))
  have HD := hide DB
  have NW := hide hw
  clear DB hb hw
  go_enter Try.func16, Try.ntmps16
  go_upto_region 4 with fail
  rw [← HW.out]
  go_region_held3 (fun w' => w'.cell? ⟨wp, 1, none⟩ = some (.pointer (some ⟨L 0, 0, none⟩)) ∧ w'.cell? ⟨w.heap.size, 2, none⟩ = some (.int .i64 x))
    (((try go_split_ands); refine ⟨?_, ?_⟩; (focus (first | (with_reducible assumption) | (simp [go_sem, *]; done))); (focus (first | (with_reducible assumption) | (simp [go_sem, *]; done)))))
    (first | (go_at_call 28; (apply Calls.mono; focus (exact C.out _)); rintro e w1 ⟨rfl, hw1⟩; have hwr := hw1.undrew; have HT2 := hide (show Tch (CW L) w w1 from HT.out.trans (hwr.tch.imp (fun k _ e => by rw [e]; simp [CW]))); have HDD := hide (HD.out.wr (LT.out 1 (by decide)) hwr); have LW1 := hide (HLW.out.stays (hwr.heap wp (by have := zW.out; omega) (NW.out 1 (by decide)))); have c01 := LW1.out.c0; have c11 := LW1.out.c1; have c21 := LW1.out.c2; have b11 := HDD.out.b1; have b21 := HDD.out.b2; have e01 := HDD.out.e0; have e11 := HDD.out.e1; have e21 := HDD.out.e2; have ef01 := HDD.out.ef 0; have ef11 := HDD.out.ef 1; have d01 := HDD.out.d0; have d11 := HDD.out.d1; have d21 := HDD.out.d2; have df01 := HDD.out.df 0; have df11 := HDD.out.df 1; have df21 := HDD.out.df 2; have HC := hide (show CObj w1 L po { A with mark := max A.mark x } from H.out.raised _ hwr); have HP := hide (show ∀ b, po = some ⟨b, 0, none⟩ → b ≠ w.heap.size + 1 ∧ b ≠ w.heap.size + 1 + 1 from fun b e => by have := PO.out b e; omega); clear hwr hw1))
  all_goals
    go_wp2
    refine bodyPost_ret (v := .agg #[.int .i64 A.mark, .bool (decide (A.mark < x)), .int .i64 0]) (by simp [results, Try.f16, go_sem, *]) rfl ?_
    refine DsB.fin (A' := { A with mark := max A.mark x }) HC.out HT2.out LT.out HP.out QA.out QS.out (fun b p1 p2 => ?_) ⟨rfl, rfl, rfl, ?_⟩
    · exact (heap_setCell_other _ _ _ _ p1).trans ((heap_setCell_other _ _ _ _ p1).trans ((heap_setCell_other _ _ _ _ p1).trans ((heap_setCell_other _ _ _ _ p2).trans (heap_setCell_other _ _ _ _ p2))))
    · (simp only [World.size_setCell]; exact Nat.le_refl _)
end Go.Proofs.Ytimabgakemgldaa
