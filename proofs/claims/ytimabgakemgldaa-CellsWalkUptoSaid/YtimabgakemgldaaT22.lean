import Derived.Test.YtimabgakemgldaaT21
import Derived.Laws.LoneSync
import Derived.WalkKit
import Derived.StillTailTactics
import Derived.Deep.RegionLaw
import Derived.Deep.RegionHeld3
import Derived.Laws.OwnMore
import Derived.Deep.Matrix
import Derived.BigQuiet
import Derived.Deep.QuietTactic
import Derived.Laws.EntriesVeiled
namespace Go.Proofs.Ytimabgakemgldaa
open Go.ChangeShapes Go.WideShapes Go.ChangeAt Go.RowKit Go.Deep
set_option linter.unusedSimpArgs false
set_option linter.unusedVariables false

set_option maxRecDepth 100000 in
set_option maxHeartbeats 2000000 in
theorem does3 (wp : Nat) (L : Nat → Nat) (po : Option Addr) (A : Ab) (who x : Int) (w : World) (h : CObj w L po A) (hL : LW w wp L)(hw : ∀ i, i < 9 → wp ≠ L i) : Calls Try.prog 16 #[.pointer (some ⟨wp, 0, none⟩), .agg #[.int .i64 3, .int .i64 who, .int .i64 x]] w (DoesPost L A who 3 x w) := by
  obtain ⟨W, hW⟩ : ∃ W, W = ((w.alloc (.cells #[.int .i64 3, .int .i64 who, .int .i64 x] 48)).alloc (.cells #[.int .i64 0, .bool false, .int .i64 0] 52)).alloc (.cells #[.int .i64 0, .bool false, .int .i64 0] 52) := ⟨_, rfl⟩
  have hb : Below w.heap.size w W := by rw [hW]; (focus repeat' (first | (with_reducible exact Below.refl _ _) | (with_reducible assumption) | (with_reducible refine Below.alloc ?_ ?_ _) | (with_reducible refine Below.drew ?_) | (with_reducible refine bdrewN ?_ _) | (with_reducible refine Below.setCell ?_ ?_ _) | (first | (with_reducible exact Nat.le_refl _) | (with_reducible assumption) | omega | (simp; omega) | (simp; done))))
  have H := hide (h.below hb)
  have HLW := hide (hL.stays (hb.block _ hL.lt))
  have lw := hL.lt
  have LT := hide h.lt
  have PO := hide (show ∀ b, po = some ⟨b, 0, none⟩ → b < w.heap.size from fun b e => h.best.o.lt e)
  have DB : DsB W w.heap.size 3 who x 0 false := by rw [hW]; exact DsB.made w 3 who x
  have HT := hide (show Tch (CW L) w W from Tch.of hb)
  have zW : Hid (W.heap.size = w.heap.size + 3) := by rw [hW]; exact hide (by simp)
  have HW := hide hW
  clear h hL hW
  have b0 := DB.b0
  have b1 := DB.b1
  have b2 := DB.b2
  have d0 := DB.d0
  have d1 := DB.d1
  have d2 := DB.d2
  have df0 := DB.df 0
  have df1 := DB.df 1
  have df2 := DB.df 2
  have e0 := DB.e0
  have e1 := DB.e1
  have e2 := DB.e2
  have ef0 := DB.ef 0
  have ef1 := DB.ef 1
  have c2 := HLW.out.c2
  have QA := hide (show doA A who 3 x = (x, !(idleB A.bs who x)) by simp [doA])
  have QS := hide (show doS A who 3 x = { A with bs := offerO A.bs who x } by simp [doS])
  have C := hide (fun n => Offer_c (L 2) (L 3) po A.bs who x (W.drewN n) (H.out.drew n).best (H.out.ne 3 2 (by decide) (by decide) (by decide)) (fun k e => H.out.pn k 3 e (by decide)))
  have HD := hide DB
  have NW := hide hw
  clear DB hb hw
  go_enter Try.func16, Try.ntmps16
  go_upto_region 5 with fail
  rw [← HW.out]
  go_region_held3 (fun w' => w'.cell? ⟨wp, 2, none⟩ = some (.pointer (some ⟨L 2, 0, none⟩)) ∧ w'.cell? ⟨w.heap.size, 1, none⟩ = some (.int .i64 who) ∧ w'.cell? ⟨w.heap.size, 2, none⟩ = some (.int .i64 x))
    (((try go_split_ands); refine ⟨?_, ?_, ?_⟩; (focus (first | (with_reducible assumption) | (simp [go_sem, *]; done))); (focus (first | (with_reducible assumption) | (simp [go_sem, *]; done))); (focus (first | (with_reducible assumption) | (simp [go_sem, *]; done)))))
    (first | (go_at_call 32; (apply Calls.mono; focus (exact C.out _)); rintro e w1 ⟨rfl, hw1⟩; obtain ⟨p', hC, hwr, hq⟩ := H.out.offered who x hw1.undrew; have HT2 := hide (show Tch (CW L) w w1 from HT.out.trans (hwr.tch.imp (fun k _ e => by rw [e]; simp [CW]))); have HDD := hide (HD.out.wr (LT.out 3 (by decide)) hwr); have LW1 := hide (HLW.out.stays (hwr.heap wp (by have := zW.out; omega) (NW.out 3 (by decide)))); have c01 := LW1.out.c0; have c11 := LW1.out.c1; have c21 := LW1.out.c2; have b11 := HDD.out.b1; have b21 := HDD.out.b2; have e01 := HDD.out.e0; have e11 := HDD.out.e1; have e21 := HDD.out.e2; have ef01 := HDD.out.ef 0; have ef11 := HDD.out.ef 1; have d01 := HDD.out.d0; have d11 := HDD.out.d1; have d21 := HDD.out.d2; have df01 := HDD.out.df 0; have df11 := HDD.out.df 1; have df21 := HDD.out.df 2; have HC := hide hC; have hq2 : ∀ k, p' = some ⟨k, 0, none⟩ → p' = po ∨ W.heap.size ≤ k := hq; have HP := hide (show ∀ b, p' = some ⟨b, 0, none⟩ → b ≠ w.heap.size + 1 ∧ b ≠ w.heap.size + 1 + 1 from fun b e => by (rcases hq2 b e with q | q; (have := PO.out b (q ▸ e); omega); (have := zW.out; omega))); clear hwr hw1 hC hq hq2))
  all_goals
    go_wp2
    refine bodyPost_ret (v := .agg #[.int .i64 x, .bool (!(idleB A.bs who x)), .int .i64 0]) (by simp [results, Try.f16, go_sem, *]) rfl ?_
    refine DsB.fin (A' := { A with bs := offerO A.bs who x }) HC.out HT2.out LT.out HP.out QA.out QS.out (fun b p1 p2 => ?_) ⟨rfl, rfl, rfl, ?_⟩
    · exact (heap_setCell_other _ _ _ _ p1).trans ((heap_setCell_other _ _ _ _ p1).trans ((heap_setCell_other _ _ _ _ p1).trans ((heap_setCell_other _ _ _ _ p2).trans (heap_setCell_other _ _ _ _ p2))))
    · (simp only [World.size_setCell]; exact Nat.le_refl _)

set_option maxRecDepth 100000 in
set_option maxHeartbeats 2000000 in
theorem does1 (wp : Nat) (L : Nat → Nat) (po : Option Addr) (A : Ab) (who x : Int) (w : World) (h : CObj w L po A) (hL : LW w wp L)(i : Nat) (hw : who = (i : Int)) (hi : i < A.S.length) (nw : ∀ i, i < 9 → wp ≠ L i) : Calls Try.prog 16 #[.pointer (some ⟨wp, 0, none⟩), .agg #[.int .i64 1, .int .i64 who, .int .i64 x]] w (DoesPost L A who 1 x w) := by
  obtain ⟨W, hW⟩ : ∃ W, W = ((w.alloc (.cells #[.int .i64 1, .int .i64 who, .int .i64 x] 48)).alloc (.cells #[.int .i64 0, .bool false, .int .i64 0] 52)).alloc (.cells #[.int .i64 0, .bool false, .int .i64 0] 52) := ⟨_, rfl⟩
  have hb : Below w.heap.size w W := by rw [hW]; (focus repeat' (first | (with_reducible exact Below.refl _ _) | (with_reducible assumption) | (with_reducible refine Below.alloc ?_ ?_ _) | (with_reducible refine Below.drew ?_) | (with_reducible refine bdrewN ?_ _) | (with_reducible refine Below.setCell ?_ ?_ _) | (first | (with_reducible exact Nat.le_refl _) | (with_reducible assumption) | omega | (simp; omega) | (simp; done))))
  have H := hide (h.below hb)
  have HLW := hide (hL.stays (hb.block _ hL.lt))
  have lw := hL.lt
  have LT := hide h.lt
  have PO := hide (show ∀ b, po = some ⟨b, 0, none⟩ → b < w.heap.size from fun b e => h.best.o.lt e)
  have DB : DsB W w.heap.size 1 who x 0 false := by rw [hW]; exact DsB.made w 1 who x
  have HT := hide (show Tch (CW L) w W from Tch.of hb)
  have zW : Hid (W.heap.size = w.heap.size + 3) := by rw [hW]; exact hide (by simp)
  have HW := hide hW
  clear h hL hW
  have b0 := DB.b0
  have b1 := DB.b1
  have b2 := DB.b2
  have d0 := DB.d0
  have d1 := DB.d1
  have d2 := DB.d2
  have df0 := DB.df 0
  have df1 := DB.df 1
  have df2 := DB.df 2
  have e0 := DB.e0
  have e1 := DB.e1
  have e2 := DB.e2
  have ef0 := DB.ef 0
  have ef1 := DB.ef 1
  have c0 := HLW.out.c0
  have ht : who.toNat = i := by omega
  obtain ⟨z, hz⟩ : ∃ z, z = wrap64 (A.S.getD i 0 + x) := ⟨_, rfl⟩
  have QA := hide (show doA A who 1 x = (z, true) by simp [doA, ht, hz])
  have QS := hide (show doS A who 1 x = { A with S := A.S.set i z } by simp [doS, ht, hz])
  have cz : W.cell? ⟨L 5, i, none⟩ = some (.int .i64 (A.S.getD i 0)) := (H.out.cnt.r.cellAt i (by omega) : W.cell? ⟨L 5, i, none⟩ = (ints A.S)[i]?).trans (ints_at hi)
  have C := hide (show ∀ n, Calls Try.prog 15 #[.pointer (some ⟨L 4, 0, none⟩), .int .i64 (i : Int), .int .i64 x] (W.drewN n) fun e w' => e = .returned (.tuple #[.int .i64 z, .int .i64 0]) ∧ WrN W (L 5) i (.int .i64 z) w' ∧ CObj w' L po { A with S := A.S.set i z } from fun n => ((H.out.drew n).cnt.add_ok (H.out.ne 4 5 (by decide) (by decide) (by decide)) i hi x).mono (fun e w' q => ⟨by rw [hz]; exact q.1, by rw [q.2, hz]; exact (WrN.set (w := W.drewN n) cz).undrew, by rw [hz]; exact (H.out.drew n).added i _ q.2⟩))
  subst hw
  have HD := hide DB
  have NW := hide nw
  clear nw DB hb hz ht cz
  go_enter Try.func16, Try.ntmps16
  go_upto_region 4 with fail
  rw [← HW.out]
  go_region_held3 (fun w' => w'.cell? ⟨wp, 0, none⟩ = some (.pointer (some ⟨L 4, 0, none⟩)) ∧ w'.cell? ⟨w.heap.size, 1, none⟩ = some (.int .i64 (i : Int)) ∧ w'.cell? ⟨w.heap.size, 2, none⟩ = some (.int .i64 x))
    (((try go_split_ands); refine ⟨?_, ?_, ?_⟩; (focus (first | (with_reducible assumption) | (simp [go_sem, *]; done))); (focus (first | (with_reducible assumption) | (simp [go_sem, *]; done))); (focus (first | (with_reducible assumption) | (simp [go_sem, *]; done)))))
    (first | (go_at_call 15; (apply Calls.mono; focus (exact C.out _)); rintro e w1 ⟨rfl, hwr, hC⟩; have HT2 := hide (show Tch (CW L) w w1 from HT.out.trans (hwr.tch.imp (fun k _ e => by rw [e]; simp [CW]))); have HDD := hide (HD.out.wr (LT.out 5 (by decide)) hwr); have LW1 := hide (HLW.out.stays (hwr.heap wp (by have := zW.out; omega) (NW.out 5 (by decide)))); have c01 := LW1.out.c0; have c11 := LW1.out.c1; have c21 := LW1.out.c2; have b11 := HDD.out.b1; have b21 := HDD.out.b2; have e01 := HDD.out.e0; have e11 := HDD.out.e1; have e21 := HDD.out.e2; have ef01 := HDD.out.ef 0; have ef11 := HDD.out.ef 1; have d01 := HDD.out.d0; have d11 := HDD.out.d1; have d21 := HDD.out.d2; have df01 := HDD.out.df 0; have df11 := HDD.out.df 1; have df21 := HDD.out.df 2; have HC := hide hC; have HP := hide (show ∀ b, po = some ⟨b, 0, none⟩ → b ≠ w.heap.size + 1 ∧ b ≠ w.heap.size + 1 + 1 from fun b e => by have := PO.out b e; omega); clear hwr hC))
  all_goals
    go_wp2_with (go_at_call 10; refine (num_c 0 _).mono ?_; rintro e w2 ⟨rfl, rfl⟩)
    refine bodyPost_ret (v := .agg #[.int .i64 z, .bool true, .int .i64 0]) (by simp [results, Try.f16, go_sem, *]) rfl ?_
    refine DsB.fin (A' := { A with S := A.S.set i z }) HC.out HT2.out LT.out HP.out QA.out QS.out (fun b p1 p2 => ?_) ⟨rfl, rfl, rfl, ?_⟩
    · exact (heap_setCell_other _ _ _ _ p1).trans ((heap_setCell_other _ _ _ _ p1).trans ((heap_setCell_other _ _ _ _ p1).trans ((heap_setCell_other _ _ _ _ p2).trans (heap_setCell_other _ _ _ _ p2))))
    · (simp only [World.size_setCell]; exact Nat.le_refl _)
end Go.Proofs.Ytimabgakemgldaa
