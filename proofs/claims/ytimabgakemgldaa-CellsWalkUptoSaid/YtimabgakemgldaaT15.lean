import Derived.Test.YtimabgakemgldaaT14
import Derived.Laws.LoneSync
import Derived.WalkKit
import Derived.StillTailTactics
import Derived.Deep.RegionLaw
import Derived.Deep.RegionHeld3
import Derived.Laws.OwnMore
import Derived.Deep.Matrix
import Derived.BigQuiet
import Derived.Deep.QuietTactic
import Derived.Laws.EntriesVeiled
namespace Go.Proofs.Ytimabgakemgldaa
open Go.ChangeShapes Go.WideShapes Go.ChangeAt Go.RowKit Go.Deep
set_option linter.unusedSimpArgs false
set_option linter.unusedVariables false

theorem RObj.drew {w : World} {r rs : Nat} {A : Ab} (h : RObj w r rs A) (n : Nat) : RObj (w.drewN n) r rs A := h.stays rfl rfl
theorem RObj.aside {w : World} {r rs : Nat} {A : Ab} (h : RObj w r rs A) {b : Nat} (h1 : r ≠ b) (h2 : rs ≠ b) (o : Nat) (u : Value) : RObj (w.setCell ⟨b, o, none⟩ u) r rs A := h.stays (heap_setCell_other _ _ _ _ h1) (heap_setCell_other _ _ _ _ h2)
theorem DoPost.drew {w V : World} {r rs : Nat} {A : Ab} {who k x : Int} {e : Ending} (h : DoPost r rs A who k x w e V) (n : Nat) : DoPost r rs A who k x w e (V.drewN n) := ⟨h.1, h.2.1.drew n, h.2.2.drew n⟩

set_option maxHeartbeats 1000000 in
theorem Better_c (r rs : Nat) (A : Ab) (who x : Int) (w : World) (h : RObj w r rs A) : Calls Try.prog 35 #[.pointer (some ⟨r, 0, none⟩), .int .i64 who, .int .i64 x] w fun e w' => e = .returned (.bool (!(idleB A.bs who x))) ∧ w = w' := by
  have c2 := h.c2
  have c3 := h.c3
  have c4 := h.c4
  clear h
  cases hb : A.bs with
  | none =>
    rw [hb] at c2 c3 c4
    simp only [bWho, bX, Option.isSome] at c2 c3 c4
    clear hb
    go_enter Try.func35, Try.ntmps35
    go_wp2
    go_ret
    exact ⟨rfl, rfl⟩
  | some z =>
    obtain ⟨w2, x2⟩ := z
    rw [hb] at c2 c3 c4
    simp only [bWho, bX, Option.isSome] at c2 c3 c4
    clear hb
    by_cases h1 : x2 < x
    · have e : (!(idleB (some (w2, x2)) who x)) = true := by simp [idleB]; omega
      have d1 : decide (x2 < x) = true := by simp [h1]
      have HE := hide e
      clear e
      go_enter Try.func35, Try.ntmps35
      go_wp2
      go_ret
      exact ⟨by (rw [HE.out]; first | rfl | (simp [*]; done)), rfl⟩
    · have d1 : decide (x2 < x) = false := by simp [h1]
      by_cases h2 : x = x2
      · have d2 : decide (x = x2) = true := by simp [h2]
        have d3 : (x == x2) = true := by simp [h2]
        have e : (!(idleB (some (w2, x2)) who x)) = decide (who < w2) := by (rw [Bool.eq_iff_iff]; simp [idleB, h2])
        have HE := hide e
        clear e
        subst h2
        go_enter Try.func35, Try.ntmps35
        go_wp2
        go_ret
        exact ⟨by (rw [HE.out]; first | rfl | (simp [*]; done)), rfl⟩
      · have d2 : decide (x = x2) = false := by simp [h2]
        have d3 : (x == x2) = false := by simp [h2]
        have e : (!(idleB (some (w2, x2)) who x)) = false := by simp [idleB]; omega
        have HE := hide e
        clear e
        go_enter Try.func35, Try.ntmps35
        go_wp2
        go_ret
        exact ⟨by (rw [HE.out]; first | rfl | (simp [*]; done)), rfl⟩

set_option maxRecDepth 100000 in
set_option maxHeartbeats 2000000 in
theorem Do5 (r rs : Nat) (A : Ab) (who x : Int) (w : World) (h : RObj w r rs A)(hk : -9223372036854775808 ≤ A.tk + 1 ∧ A.tk + 1 ≤ 9223372036854775807) : Calls Try.prog 17 #[.pointer (some ⟨r, 0, none⟩), .int .i64 who, .agg #[.int .i64 5, .int .i64 x]] w (DoPost r rs A who 5 x w) := by
  obtain ⟨W, hW⟩ : ∃ W, W = ((w.alloc (.cells #[.int .i64 5, .int .i64 x] 57)).alloc (.cells #[.int .i64 0, .bool false, .int .i64 0] 52)).alloc (.cells #[.int .i64 0, .bool false, .int .i64 0] 52) := ⟨_, rfl⟩
  have hb : Below w.heap.size w W := by rw [hW]; (focus repeat' (first | (with_reducible exact Below.refl _ _) | (with_reducible assumption) | (with_reducible refine Below.alloc ?_ ?_ _) | (with_reducible refine Below.drew ?_) | (with_reducible refine bdrewN ?_ _) | (with_reducible refine Below.setCell ?_ ?_ _) | (first | (with_reducible exact Nat.le_refl _) | (with_reducible assumption) | omega | (simp; omega) | (simp; done))))
  have H := hide (h.below hb)
  have l1 := h.lt.1
  have l2 := h.lt.2
  have m0 : r ≠ rs := h.ne
  have n1 : r ≠ w.heap.size := by omega
  have n2 : r ≠ w.heap.size + 1 := by omega
  have n3 : r ≠ w.heap.size + 1 + 1 := by omega
  have m1 := Ne.symm n1
  have m2 := Ne.symm n2
  have m3 := Ne.symm n3
  have DB : DoB W w.heap.size 5 x 0 false := by rw [hW]; exact DoB.made w 5 x
  have HW := hide hW
  clear h hW
  have b0 := DB.b0
  have b1 := DB.b1
  have d0 := DB.d0
  have d1 := DB.d1
  have d2 := DB.d2
  have df0 := DB.df 0
  have df1 := DB.df 1
  have df2 := DB.df 2
  have e0 := DB.e0
  have e1 := DB.e1
  have e2 := DB.e2
  have ef0 := DB.ef 0
  have ef1 := DB.ef 1
  have c7 := H.out.c7
  have c8 := H.out.c8
  have f7 := H.out.f 7
  have HDB := hide DB
  have HT := hide (show Tch (fun k => k = r ∨ k = rs) w W from Tch.of hb)
  clear DB
  have g2 : IntKind.i64.wrap (A.tk + 1) = A.tk + 1 := IntWalk.i64_in _ hk
  have g3 : wrap64 (A.tk + 1) = A.tk + 1 := IntWalk.wrap64_in _ hk
  have q3 : rs ≠ w.heap.size + 1 + 1 := by omega
  clear hk hb
  by_cases hx : A.tk < A.tt
  · have g1 : decide (A.tk < A.tt) = true := by simp [hx]
    have QA := hide (show doA A who 5 x = (A.tk, true) by simp [doA, takeA, hx])
    have QS := hide (show doS A who 5 x = { A with tk := A.tk + 1 } by simp [doS, takeN, hx])
    go_enter Try.func17, Try.ntmps17
    go_upto_region 9 with fail
    rw [← HW.out]
    go_quiet (fail)
    go_wp2
    refine bodyPost_ret (v := .agg #[.int .i64 A.tk, .bool true, .int .i64 0]) (by simp [results, Try.f17, go_sem, *]) rfl ?_
    refine DoB.fin (A' := { A with tk := A.tk + 1 }) ?_ ?_ l1 l2 ?_ ?_ _ _ _
    · exact RObj.set (A := A) (((H.out.drew nq).aside n3 q3 _ _).aside n3 q3 _ _) { A with tk := A.tk + 1 } 7 _ rfl rfl rfl rfl rfl rfl rfl rfl rfl (by decide)
    · exact (((HT.out.drew nq).setN (by omega) _ _).setN (by omega) _ _).set (.inl rfl) _ _
    · exact QA.out
    · exact QS.out
  · have g1 : decide (A.tk < A.tt) = false := by simp [hx]
    have QA := hide (show doA A who 5 x = (0, false) by simp [doA, takeA, hx])
    have QS := hide (show doS A who 5 x = A by simp [doS, takeN, hx])
    go_enter Try.func17, Try.ntmps17
    go_upto_region 9 with fail
    rw [← HW.out]
    go_quiet (fail)
    go_wp2
    refine bodyPost_ret (v := .agg #[.int .i64 0, .bool false, .int .i64 0]) (by simp [results, Try.f17, go_sem, *]) rfl ?_
    refine DoB.fin (A' := A) ?_ ?_ l1 l2 ?_ ?_ _ _ _
    · exact H.out.drew nq
    · exact HT.out.drew nq
    · exact QA.out
    · exact QS.out

set_option maxRecDepth 100000 in
set_option maxHeartbeats 2000000 in
theorem Do4 (r rs : Nat) (A : Ab) (who x : Int) (w : World) (h : RObj w r rs A)(hk : -9223372036854775808 ≤ A.ar + 1 ∧ A.ar + 1 ≤ 9223372036854775807) : Calls Try.prog 17 #[.pointer (some ⟨r, 0, none⟩), .int .i64 who, .agg #[.int .i64 4, .int .i64 x]] w (DoPost r rs A who 4 x w) := by
  obtain ⟨W, hW⟩ : ∃ W, W = ((w.alloc (.cells #[.int .i64 4, .int .i64 x] 57)).alloc (.cells #[.int .i64 0, .bool false, .int .i64 0] 52)).alloc (.cells #[.int .i64 0, .bool false, .int .i64 0] 52) := ⟨_, rfl⟩
  have hb : Below w.heap.size w W := by rw [hW]; (focus repeat' (first | (with_reducible exact Below.refl _ _) | (with_reducible assumption) | (with_reducible refine Below.alloc ?_ ?_ _) | (with_reducible refine Below.drew ?_) | (with_reducible refine bdrewN ?_ _) | (with_reducible refine Below.setCell ?_ ?_ _) | (first | (with_reducible exact Nat.le_refl _) | (with_reducible assumption) | omega | (simp; omega) | (simp; done))))
  have H := hide (h.below hb)
  have l1 := h.lt.1
  have l2 := h.lt.2
  have m0 : r ≠ rs := h.ne
  have n1 : r ≠ w.heap.size := by omega
  have n2 : r ≠ w.heap.size + 1 := by omega
  have n3 : r ≠ w.heap.size + 1 + 1 := by omega
  have m1 := Ne.symm n1
  have m2 := Ne.symm n2
  have m3 := Ne.symm n3
  have DB : DoB W w.heap.size 4 x 0 false := by rw [hW]; exact DoB.made w 4 x
  have HW := hide hW
  clear h hW
  have b0 := DB.b0
  have b1 := DB.b1
  have d0 := DB.d0
  have d1 := DB.d1
  have d2 := DB.d2
  have df0 := DB.df 0
  have df1 := DB.df 1
  have df2 := DB.df 2
  have e0 := DB.e0
  have e1 := DB.e1
  have e2 := DB.e2
  have ef0 := DB.ef 0
  have ef1 := DB.ef 1
  have c5 := H.out.c5
  have c6 := H.out.c6
  have f5 := H.out.f 5
  have HDB := hide DB
  have HT := hide (show Tch (fun k => k = r ∨ k = rs) w W from Tch.of hb)
  clear DB
  have g2 : IntKind.i64.wrap (A.ar + 1) = A.ar + 1 := IntWalk.i64_in _ hk
  have g3 : wrap64 (A.ar + 1) = A.ar + 1 := IntWalk.wrap64_in _ hk
  have q3 : rs ≠ w.heap.size + 1 + 1 := by omega
  have QA := hide (show doA A who 4 x = (A.ar, decide (A.gt ≤ A.ar + 1)) by simp [doA, g3])
  have QS := hide (show doS A who 4 x = { A with ar := A.ar + 1 } by simp [doS, g3])
  clear hb
  go_enter Try.func17, Try.ntmps17
  go_upto_region 6 with fail
  rw [← HW.out]
  go_upto_region 3 with fail
  obtain ⟨V, hV⟩ : ∃ V, V = (W.setCell ⟨w.heap.size + 1 + 1, 0, none⟩ (.int .i64 A.ar)).setCell ⟨r, 5, none⟩ (.int .i64 (A.ar + 1)) := ⟨_, rfl⟩
  rw [← hV]
  have HT2 := hide (show Tch (fun k => k = r ∨ k = rs) w V by rw [hV]; exact (HT.out.setN (by omega) _ _).set (.inl rfl) _ _)
  have HV := hide (show DoB V w.heap.size 4 x A.ar false by rw [hV]; exact (HDB.out.seta _).setr l1 _ _)
  have HR := hide (show RObj V r rs { A with ar := A.ar + 1 } by rw [hV]; exact RObj.set (A := A) (H.out.aside n3 q3 _ _) { A with ar := A.ar + 1 } 5 _ rfl rfl rfl rfl rfl rfl rfl rfl rfl (by decide))
  clear hV c5 c6 f5 hk
  clear b0 b1 d0 d1 d2 df0 df1 df2 e0 e1 e2 ef0 ef1
  have b0 := HV.out.b0
  have b1 := HV.out.b1
  have d0 := HV.out.d0
  have d1 := HV.out.d1
  have d2 := HV.out.d2
  have df0 := HV.out.df 0
  have df1 := HV.out.df 1
  have df2 := HV.out.df 2
  have e0 := HV.out.e0
  have e1 := HV.out.e1
  have e2 := HV.out.e2
  have ef0 := HV.out.ef 0
  have ef1 := HV.out.ef 1
  have c5 := HR.out.c5
  have c6 := HR.out.c6
  simp only at c5 c6
  go_region
  go_wp2
  refine bodyPost_ret (v := .agg #[.int .i64 A.ar, .bool (decide (A.gt ≤ A.ar + 1)), .int .i64 0]) (by simp [results, Try.f17, go_sem, *]) rfl ?_
  refine DoPost.drew (DoB.fin (A' := { A with ar := A.ar + 1 }) ?_ ?_ l1 l2 ?_ ?_ _ _ _) 1
  · exact HR.out.aside n3 q3 _ _
  · exact HT2.out.setN (by omega) _ _
  · exact QA.out
  · exact QS.out
end Go.Proofs.Ytimabgakemgldaa
