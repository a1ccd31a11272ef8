import Derived.Test.YtimabgakemgldaaT15
import Derived.Laws.LoneSync
import Derived.WalkKit
import Derived.StillTailTactics
import Derived.Deep.RegionLaw
import Derived.Deep.RegionHeld3
import Derived.Laws.OwnMore
import Derived.Deep.Matrix
import Derived.BigQuiet
import Derived.Deep.QuietTactic
import Derived.Laws.EntriesVeiled
namespace Go.Proofs.Ytimabgakemgldaa
open Go.ChangeShapes Go.WideShapes Go.ChangeAt Go.RowKit Go.Deep
set_option linter.unusedSimpArgs false
set_option linter.unusedVariables false

/-- a stripe written -/
theorem RObj.put {w : World} {r rs : Nat} {A : Ab} (h : RObj w r rs A) (i : Nat) (v : Int) : RObj (w.setCell ⟨rs, i, none⟩ (.int .i64 v)) r rs { A with S := A.S.set i v } := by
  have k : (w.setCell ⟨rs, i, none⟩ (.int .i64 v)).heap[r]? = w.heap[r]? := heap_setCell_other _ _ _ _ h.ne
  refine ⟨by simp only [List.length_set]; exact cell_stay h.c0 k, cell_stay h.c1 k, cell_stay h.c2 k, cell_stay h.c3 k, cell_stay h.c4 k, cell_stay h.c5 k, cell_stay h.c6 k, cell_stay h.c7 k, cell_stay h.c8 k, fun o => fro_stay (h.f o) k, ?_, h.ne⟩
  simp only [List.length_set]
  rw [ints_set]
  exact (h.row.stored i (.int .i64 v)).1

theorem RObj.off {w : World} {r rs : Nat} {A : Ab} (h : RObj w r rs A) (who x : Int) : RObj (((w.setCell ⟨r, 2, none⟩ (.int .i64 who)).setCell ⟨r, 3, none⟩ (.int .i64 x)).setCell ⟨r, 4, none⟩ (.bool true)) r rs { A with bs := some (who, x) } := by
  have k2 : (w.setCell ⟨r, 2, none⟩ (.int .i64 who)).cell? ⟨r, 2, none⟩ = some (.int .i64 who) := World.cell?_setCell_same' _ _ _ (by rw [h.c2]; rfl)
  have k3 : ((w.setCell ⟨r, 2, none⟩ (.int .i64 who)).setCell ⟨r, 3, none⟩ (.int .i64 x)).cell? ⟨r, 3, none⟩ = some (.int .i64 x) := World.cell?_setCell_same' _ _ _ (by rw [(cell_ne (by decide)).trans h.c3]; rfl)
  have k4 : (((w.setCell ⟨r, 2, none⟩ (.int .i64 who)).setCell ⟨r, 3, none⟩ (.int .i64 x)).setCell ⟨r, 4, none⟩ (.bool true)).cell? ⟨r, 4, none⟩ = some (.bool true) := World.cell?_setCell_same' _ _ _ (by rw [(cell_ne (by decide)).trans ((cell_ne (by decide)).trans h.c4)]; rfl)
  have kr : (((w.setCell ⟨r, 2, none⟩ (.int .i64 who)).setCell ⟨r, 3, none⟩ (.int .i64 x)).setCell ⟨r, 4, none⟩ (.bool true)).heap[rs]? = w.heap[rs]? := (heap_setCell_other _ _ _ _ (Ne.symm h.ne)).trans ((heap_setCell_other _ _ _ _ (Ne.symm h.ne)).trans (heap_setCell_other _ _ _ _ (Ne.symm h.ne)))
  exact ⟨(cell_ne (by decide)).trans ((cell_ne (by decide)).trans ((cell_ne (by decide)).trans h.c0)), (cell_ne (by decide)).trans ((cell_ne (by decide)).trans ((cell_ne (by decide)).trans h.c1)), (cell_ne (by decide)).trans ((cell_ne (by decide)).trans k2), (cell_ne (by decide)).trans k3, k4, (cell_ne (by decide)).trans ((cell_ne (by decide)).trans ((cell_ne (by decide)).trans h.c5)), (cell_ne (by decide)).trans ((cell_ne (by decide)).trans ((cell_ne (by decide)).trans h.c6)), (cell_ne (by decide)).trans ((cell_ne (by decide)).trans ((cell_ne (by decide)).trans h.c7)), (cell_ne (by decide)).trans ((cell_ne (by decide)).trans ((cell_ne (by decide)).trans h.c8)), fun o => (World.frozen?_setCell _ _ _ _).trans ((World.frozen?_setCell _ _ _ _).trans ((World.frozen?_setCell _ _ _ _).trans (h.f o))), own_stays h.row (fun k e => by cases e; exact kr), h.ne⟩

set_option maxRecDepth 100000 in
set_option maxHeartbeats 2000000 in
theorem Do1 (r rs : Nat) (A : Ab) (who x : Int) (w : World) (h : RObj w r rs A)(i : Nat) (hw : who = (i : Int)) (hi : i < A.S.length) : Calls Try.prog 17 #[.pointer (some ⟨r, 0, none⟩), .int .i64 who, .agg #[.int .i64 1, .int .i64 x]] w (DoPost r rs A who 1 x w) := by
  obtain ⟨W, hW⟩ : ∃ W, W = ((w.alloc (.cells #[.int .i64 1, .int .i64 x] 57)).alloc (.cells #[.int .i64 0, .bool false, .int .i64 0] 52)).alloc (.cells #[.int .i64 0, .bool false, .int .i64 0] 52) := ⟨_, rfl⟩
  have hb : Below w.heap.size w W := by rw [hW]; (focus repeat' (first | (with_reducible exact Below.refl _ _) | (with_reducible assumption) | (with_reducible refine Below.alloc ?_ ?_ _) | (with_reducible refine Below.drew ?_) | (with_reducible refine bdrewN ?_ _) | (with_reducible refine Below.setCell ?_ ?_ _) | (first | (with_reducible exact Nat.le_refl _) | (with_reducible assumption) | omega | (simp; omega) | (simp; done))))
  have H := hide (h.below hb)
  have l1 := h.lt.1
  have l2 := h.lt.2
  have m0 : r ≠ rs := h.ne
  have n1 : r ≠ w.heap.size := by omega
  have n2 : r ≠ w.heap.size + 1 := by omega
  have n3 : r ≠ w.heap.size + 1 + 1 := by omega
  have m1 := Ne.symm n1
  have m2 := Ne.symm n2
  have m3 := Ne.symm n3
  have DB : DoB W w.heap.size 1 x 0 false := by rw [hW]; exact DoB.made w 1 x
  have HW := hide hW
  clear h hW
  have b0 := DB.b0
  have b1 := DB.b1
  have d0 := DB.d0
  have d1 := DB.d1
  have d2 := DB.d2
  have df0 := DB.df 0
  have df1 := DB.df 1
  have df2 := DB.df 2
  have e0 := DB.e0
  have e1 := DB.e1
  have e2 := DB.e2
  have ef0 := DB.ef 0
  have ef1 := DB.ef 1
  have c0 := H.out.c0
  obtain ⟨z, hz⟩ : ∃ z, z = A.S.getD i 0 := ⟨_, rfl⟩
  have cz : W.cell? ⟨rs, i, none⟩ = some (.int .i64 z) := by rw [H.out.row.cellAt i (by omega), hz]; exact ints_at hi
  have fz : W.frozen? ⟨rs, i, none⟩ = false := H.out.row.frozenAt i
  have HDB := hide DB
  have HT := hide (show Tch (fun k => k = r ∨ k = rs) w W from Tch.of hb)
  have q3 : rs ≠ w.heap.size + 1 + 1 := by omega
  have ht : who.toNat = i := by omega
  have QA := hide (show doA A who 1 x = (wrap64 (z + x), true) by simp [doA, ht, hz])
  have QS := hide (show doS A who 1 x = { A with S := A.S.set i (wrap64 (z + x)) } by simp [doS, ht, hz])
  subst hw
  have hi0 : (0 : Int) ≤ (i : Int) := by omega
  have hi2 : (i : Int) < (A.S.length : Int) := by omega
  clear DB hb hz ht
  go_enter Try.func17, Try.ntmps17
  go_upto_region 4 with fail
  rw [← HW.out]
  go_region
  obtain ⟨V, hV⟩ : ∃ V, V = (W.setCell ⟨rs, i, none⟩ (.int .i64 (wrap64 (z + x)))).drew := ⟨_, rfl⟩
  rw [← hV]
  have HT2 := hide (show Tch (fun k => k = r ∨ k = rs) w V by rw [hV]; exact (HT.out.set (.inr rfl) _ _).drew 1)
  have HV := hide (show DoB V w.heap.size 1 x 0 false by rw [hV]; exact (HDB.out.setr l2 _ _).drew 1)
  have HR := hide (show RObj V r rs { A with S := A.S.set i (wrap64 (z + x)) } by rw [hV]; exact (H.out.put i _).drew 1)
  have cz : V.cell? ⟨rs, i, none⟩ = some (.int .i64 (wrap64 (z + x))) := by rw [hV]; exact World.cell?_setCell_same' W ⟨rs, i, none⟩ _ (by rw [cz]; rfl)
  have c0 : V.cell? ⟨r, 0, none⟩ = some (.slice (some ⟨rs, 0, none⟩) A.S.length A.S.length) := by have q := HR.out.c0; simp only [List.length_set] at q; exact q
  clear hV fz
  clear b0 b1 d0 d1 d2 df0 df1 df2 e0 e1 e2 ef0 ef1
  have b0 := HV.out.b0
  have b1 := HV.out.b1
  have d0 := HV.out.d0
  have d1 := HV.out.d1
  have d2 := HV.out.d2
  have df0 := HV.out.df 0
  have df1 := HV.out.df 1
  have df2 := HV.out.df 2
  have e0 := HV.out.e0
  have e1 := HV.out.e1
  have e2 := HV.out.e2
  have ef0 := HV.out.ef 0
  have ef1 := HV.out.ef 1
  go_wp2
  refine bodyPost_ret (v := .agg #[.int .i64 (wrap64 (z + x)), .bool true, .int .i64 0]) (by simp [results, Try.f17, go_sem, *]) rfl ?_
  refine DoB.fin (A' := { A with S := A.S.set i (wrap64 (z + x)) }) ?_ ?_ l1 l2 ?_ ?_ _ _ _
  · exact (HR.out.aside n3 q3 _ _).aside n3 q3 _ _
  · exact (HT2.out.setN (by omega) _ _).setN (by omega) _ _
  · exact QA.out
  · exact QS.out

set_option maxRecDepth 100000 in
set_option maxHeartbeats 2000000 in
theorem Do3 (r rs : Nat) (A : Ab) (who x : Int) (w : World) (h : RObj w r rs A) : Calls Try.prog 17 #[.pointer (some ⟨r, 0, none⟩), .int .i64 who, .agg #[.int .i64 3, .int .i64 x]] w (DoPost r rs A who 3 x w) := by
  obtain ⟨W, hW⟩ : ∃ W, W = ((w.alloc (.cells #[.int .i64 3, .int .i64 x] 57)).alloc (.cells #[.int .i64 0, .bool false, .int .i64 0] 52)).alloc (.cells #[.int .i64 0, .bool false, .int .i64 0] 52) := ⟨_, rfl⟩
  have hb : Below w.heap.size w W := by rw [hW]; (focus repeat' (first | (with_reducible exact Below.refl _ _) | (with_reducible assumption) | (with_reducible refine Below.alloc ?_ ?_ _) | (with_reducible refine Below.drew ?_) | (with_reducible refine bdrewN ?_ _) | (with_reducible refine Below.setCell ?_ ?_ _) | (first | (with_reducible exact Nat.le_refl _) | (with_reducible assumption) | omega | (simp; omega) | (simp; done))))
  have H := hide (h.below hb)
  have l1 := h.lt.1
  have l2 := h.lt.2
  have m0 : r ≠ rs := h.ne
  have n1 : r ≠ w.heap.size := by omega
  have n2 : r ≠ w.heap.size + 1 := by omega
  have n3 : r ≠ w.heap.size + 1 + 1 := by omega
  have m1 := Ne.symm n1
  have m2 := Ne.symm n2
  have m3 := Ne.symm n3
  have DB : DoB W w.heap.size 3 x 0 false := by rw [hW]; exact DoB.made w 3 x
  have HW := hide hW
  clear h hW
  have b0 := DB.b0
  have b1 := DB.b1
  have d0 := DB.d0
  have d1 := DB.d1
  have d2 := DB.d2
  have df0 := DB.df 0
  have df1 := DB.df 1
  have df2 := DB.df 2
  have e0 := DB.e0
  have e1 := DB.e1
  have e2 := DB.e2
  have ef0 := DB.ef 0
  have ef1 := DB.ef 1
  have HDB := hide DB
  have HT := hide (show Tch (fun k => k = r ∨ k = rs) w W from Tch.of hb)
  have q3 : rs ≠ w.heap.size + 1 + 1 := by omega
  have C := hide (fun n => Better_c r rs A who x (W.drewN n) (H.out.drew n))
  have f2 := H.out.f 2
  have f3 := H.out.f 3
  have f4 := H.out.f 4
  have QA := hide (show doA A who 3 x = (x, !(idleB A.bs who x)) by simp [doA])
  have QS := hide (show doS A who 3 x = { A with bs := offerO A.bs who x } by simp [doS])
  clear DB hb
  go_enter Try.func17, Try.ntmps17
  go_upto_region 5 with fail
  rw [← HW.out]
  go_region_law (go_simp; go_at_call 35; (apply Calls.mono; focus (exact C.out _)); rintro e w1 ⟨rfl, rfl⟩)
  all_goals
    obtain ⟨V, hV⟩ : ∃ V, V = ((W.drewN 1).setCell ⟨w.heap.size + 1 + 1, 0, none⟩ (.int .i64 x)).setCell ⟨w.heap.size + 1 + 1, 1, none⟩ (.bool (!(idleB A.bs who x))) := ⟨_, rfl⟩
    rw [← hV]
    have HT2 := hide (show Tch (fun k => k = r ∨ k = rs) w V by rw [hV]; exact ((HT.out.drew 1).setN (by omega) _ _).setN (by omega) _ _)
    have HV := hide (show DoB V w.heap.size 3 x x (!(idleB A.bs who x)) by rw [hV]; exact ((HDB.out.drew 1).seta _).sety _)
    have HR := hide (show RObj V r rs A by rw [hV]; exact ((H.out.drew 1).aside n3 q3 _ _).aside n3 q3 _ _)
    clear hV f2 f3 f4
    clear b0 b1 d0 d1 d2 df0 df1 df2 e0 e1 e2 ef0 ef1
    have b0 := HV.out.b0
    have b1 := HV.out.b1
    have d0 := HV.out.d0
    have d1 := HV.out.d1
    have d2 := HV.out.d2
    have df0 := HV.out.df 0
    have df1 := HV.out.df 1
    have df2 := HV.out.df 2
    have e0 := HV.out.e0
    have e1 := HV.out.e1
    have e2 := HV.out.e2
    have ef0 := HV.out.ef 0
    have ef1 := HV.out.ef 1
    have c2 := HR.out.c2
    have c3 := HR.out.c3
    have c4 := HR.out.c4
    have f2 := HR.out.f 2
    have f3 := HR.out.f 3
    have f4 := HR.out.f 4
    cases hi : idleB A.bs who x with
    | true =>
      rw [hi] at QA e1 HV
      have QT := hide (show doS A who 3 x = A by rw [QS.out]; unfold offerO; rw [hi]; rfl)
      have e1 : V.cell? ⟨w.heap.size + 1 + 1, 1, none⟩ = some (.bool false) := e1
      clear hi QS
      go_wp2
      refine bodyPost_ret (v := .agg #[.int .i64 x, .bool false, .int .i64 0]) (by simp [results, Try.f17, go_sem, *]) rfl ?_
      refine DoB.fin (A' := A) ?_ ?_ l1 l2 ?_ ?_ _ _ _
      · exact HR.out
      · exact HT2.out
      · exact QA.out
      · exact QT.out
    | false =>
      rw [hi] at QA e1 HV
      have QT := hide (show doS A who 3 x = { A with bs := some (who, x) } by rw [QS.out]; unfold offerO; rw [hi]; rfl)
      have e1 : V.cell? ⟨w.heap.size + 1 + 1, 1, none⟩ = some (.bool true) := e1
      clear hi QS
      go_upto_region 9 with fail
      go_region
      obtain ⟨U, hU⟩ : ∃ U, U = (((V.setCell ⟨r, 2, none⟩ (.int .i64 who)).setCell ⟨r, 3, none⟩ (.int .i64 x)).setCell ⟨r, 4, none⟩ (.bool true)).drew := ⟨_, rfl⟩
      rw [← hU]
      have HT3 := hide (show Tch (fun k => k = r ∨ k = rs) w U by rw [hU]; exact (((HT2.out.set (.inl rfl) _ _).set (.inl rfl) _ _).set (.inl rfl) _ _).drew 1)
      have HV3 := hide (show DoB U w.heap.size 3 x x true by rw [hU]; exact (((HV.out.setr l1 _ _).setr l1 _ _).setr l1 _ _).drew 1)
      have HR3 := hide (show RObj U r rs { A with bs := some (who, x) } by rw [hU]; exact (HR.out.off who x).drew 1)
      clear hU f2 f3 f4 c2 c3 c4
      clear b0 b1 d0 d1 d2 df0 df1 df2 e0 e1 e2 ef0 ef1
      have b0 := HV3.out.b0
      have b1 := HV3.out.b1
      have d0 := HV3.out.d0
      have d1 := HV3.out.d1
      have d2 := HV3.out.d2
      have df0 := HV3.out.df 0
      have df1 := HV3.out.df 1
      have df2 := HV3.out.df 2
      have e0 := HV3.out.e0
      have e1 := HV3.out.e1
      have e2 := HV3.out.e2
      have ef0 := HV3.out.ef 0
      have ef1 := HV3.out.ef 1
      go_wp2
      refine bodyPost_ret (v := .agg #[.int .i64 x, .bool true, .int .i64 0]) (by simp [results, Try.f17, go_sem, *]) rfl ?_
      refine DoB.fin (A' := { A with bs := some (who, x) }) ?_ ?_ l1 l2 ?_ ?_ _ _ _
      · exact HR3.out
      · exact HT3.out
      · exact QA.out
      · exact QT.out

set_option maxRecDepth 100000 in
set_option maxHeartbeats 2000000 in
theorem DoX (r rs : Nat) (A : Ab) (who x : Int) (w : World) (k : Int) (h : RObj w r rs A) (k1 : ¬ k = 1) (k2 : ¬ k = 2) (k3 : ¬ k = 3) (k4 : ¬ k = 4) (k5 : ¬ k = 5) : Calls Try.prog 17 #[.pointer (some ⟨r, 0, none⟩), .int .i64 who, .agg #[.int .i64 k, .int .i64 x]] w (DoPost r rs A who k x w) := by
  obtain ⟨W, hW⟩ : ∃ W, W = ((w.alloc (.cells #[.int .i64 k, .int .i64 x] 57)).alloc (.cells #[.int .i64 0, .bool false, .int .i64 0] 52)).alloc (.cells #[.int .i64 0, .bool false, .int .i64 0] 52) := ⟨_, rfl⟩
  have hb : Below w.heap.size w W := by rw [hW]; (focus repeat' (first | (with_reducible exact Below.refl _ _) | (with_reducible assumption) | (with_reducible refine Below.alloc ?_ ?_ _) | (with_reducible refine Below.drew ?_) | (with_reducible refine bdrewN ?_ _) | (with_reducible refine Below.setCell ?_ ?_ _) | (first | (with_reducible exact Nat.le_refl _) | (with_reducible assumption) | omega | (simp; omega) | (simp; done))))
  have H := hide (h.below hb)
  have l1 := h.lt.1
  have l2 := h.lt.2
  have m0 : r ≠ rs := h.ne
  have n1 : r ≠ w.heap.size := by omega
  have n2 : r ≠ w.heap.size + 1 := by omega
  have n3 : r ≠ w.heap.size + 1 + 1 := by omega
  have m1 := Ne.symm n1
  have m2 := Ne.symm n2
  have m3 := Ne.symm n3
  have DB : DoB W w.heap.size k x 0 false := by rw [hW]; exact DoB.made w k x
  have HW := hide hW
  clear h hW
  have b0 := DB.b0
  have b1 := DB.b1
  have d0 := DB.d0
  have d1 := DB.d1
  have d2 := DB.d2
  have df0 := DB.df 0
  have df1 := DB.df 1
  have df2 := DB.df 2
  have e0 := DB.e0
  have e1 := DB.e1
  have e2 := DB.e2
  have ef0 := DB.ef 0
  have ef1 := DB.ef 1
  have HT := hide (show Tch (fun k => k = r ∨ k = rs) w W from Tch.of hb)
  have QA := hide (show doA A who k x = (0, false) by simp [doA, k1, k2, k3, k4, k5])
  have QS := hide (show doS A who k x = A by simp [doS, k1, k2, k3, k4, k5])
  have p1 : decide (k = 1) = false := by simp [k1]
  have r1 : (k == 1) = false := by simp [k1]
  have p2 : decide (k = 2) = false := by simp [k2]
  have r2 : (k == 2) = false := by simp [k2]
  have p3 : decide (k = 3) = false := by simp [k3]
  have r3 : (k == 3) = false := by simp [k3]
  have p4 : decide (k = 4) = false := by simp [k4]
  have r4 : (k == 4) = false := by simp [k4]
  have p5 : decide (k = 5) = false := by simp [k5]
  have r5 : (k == 5) = false := by simp [k5]
  clear DB hb k1 k2 k3 k4 k5
  go_enter Try.func17, Try.ntmps17
  go_upto_region 2 with fail
  rw [← HW.out]
  go_wp2
  refine bodyPost_ret (v := .agg #[.int .i64 0, .bool false, .int .i64 0]) (by simp [results, Try.f17, go_sem, *]) rfl ?_
  refine DoB.fin (A' := A) ?_ ?_ l1 l2 ?_ ?_ _ _ _
  · exact H.out
  · exact HT.out
  · exact QA.out
  · exact QS.out
end Go.Proofs.Ytimabgakemgldaa
