import Derived.Test.YtimabgakemgldaaT25
import Derived.Test.YtimabgakemgldaaT23
import Derived.Laws.LoneSync
import Derived.WalkKit
import Derived.StillTailTactics
import Derived.Deep.RegionLaw
import Derived.Deep.RegionHeld3
import Derived.Laws.OwnMore
import Derived.Deep.Matrix
import Derived.BigQuiet
import Derived.Deep.QuietTactic
import Derived.Laws.EntriesVeiled
namespace Go.Proofs.Ytimabgakemgldaa
open Go.ChangeShapes Go.WideShapes Go.ChangeAt Go.RowKit Go.Deep
set_option linter.unusedSimpArgs false
set_option linter.unusedVariables false

/-- nine places -/
def LL (m mc b bc c cs g t tn : Nat) : Nat → Nat := fun i => [m, mc, b, bc, c, cs, g, t, tn].getD i 0
theorem mkCObj {w : World} {m mc b bc c cs g t tn : Nat} {A : Ab} (h1 : MarkIs w m mc A.mark) (h2 : BestIs w b bc none A.bs) (h3 : CntIs w c cs A.S) (h4 : GateIs w g A.gt A.ar) (h5 : TickIs w t tn A.tt A.tk) (nd : [m, mc, b, bc, c, cs, g, t, tn].Nodup) : CObj w (LL m mc b bc c cs g t tn) none A := by
  refine ⟨h1, h2, h3, h4, h5, fun i j hi hj e => ?_, fun k i e => by cases e⟩
  unfold LL at e
  rw [List.getD_eq_getElem?_getD, List.getD_eq_getElem?_getD, List.getElem?_eq_getElem (by simpa using hi), List.getElem?_eq_getElem (by simpa using hj)] at e
  exact (List.getElem_inj nd).1 e
def StartPost (n : Nat) (mark gate tick : Int) (w : World) (e : Ending) (w' : World) : Prop := ∃ wp L, e = .returned (.tuple #[.pointer (some ⟨wp, 0, none⟩), .int .i64 0]) ∧ CObj w' L none (ab0 n mark gate tick) ∧ LW w' wp L ∧ (∀ i, i < 9 → wp ≠ L i) ∧ w.heap.size ≤ wp ∧ (∀ i, i < 9 → w.heap.size ≤ L i) ∧ Below w.heap.size w w'
set_option maxHeartbeats 2000000 in
theorem Start_ok (mark gate tick : Int) (n : Nat) (w : World) (h : 1 ≤ n) (h2 : n ≤ 64) (hg : 1 ≤ gate) (ht : 0 ≤ tick) : Calls Try.prog 42 #[.agg #[.int .i64 mark, .int .i64 gate, .int .i64 tick], .int .i64 (n : Int)] w (StartPost n mark gate tick w) := by
  obtain ⟨W, hW⟩ : ∃ W, W = w.alloc (.cells #[.int .i64 mark, .int .i64 gate, .int .i64 tick] 23) := ⟨_, rfl⟩
  have hb : Below w.heap.size w W := by rw [hW]; (focus repeat' (first | (with_reducible exact Below.refl _ _) | (with_reducible assumption) | (with_reducible refine Below.alloc ?_ ?_ _) | (with_reducible refine Below.drew ?_) | (with_reducible refine bdrewN ?_ _) | (with_reducible refine Below.setCell ?_ ?_ _) | (first | (with_reducible exact Nat.le_refl _) | (with_reducible assumption) | omega | (simp; omega) | (simp; done))))
  have b0 : W.cell? ⟨w.heap.size, 0, none⟩ = some (.int .i64 mark) := by rw [hW]; simp [go_sem]
  have b1 := hide (show W.cell? ⟨w.heap.size, 1, none⟩ = some (.int .i64 gate) by rw [hW]; simp [go_sem])
  have b2 := hide (show W.cell? ⟨w.heap.size, 2, none⟩ = some (.int .i64 tick) by rw [hW]; simp [go_sem])
  have l0 := World.block_lt_of_cell? W _ b0
  simp only at l0
  have HW := hide hW
  clear hW
  go_enter Try.func42, Try.ntmps42
  go_upto_region 1 with fail
  rw [← HW.out]
  go_wp2_with fail
  refine (NewMark_c mark W).mono ?_
  rintro e w1 ⟨rfl, hm, hb1⟩
  have HM := hide hm
  have HB1 := hide hb1
  clear hm hb1
  go_wp2_with fail
  refine (NewBest_c w1).mono ?_
  rintro e w2 ⟨rfl, hbs, hb2⟩
  have HBS := hide hbs
  have HB2 := hide hb2
  clear hbs hb2
  go_upto_region 2 with fail
  obtain ⟨W3, hW3⟩ : ∃ W3, W3 = w2.alloc (.cells #[.pointer none, .pointer (some ⟨W.heap.size + 1, 0, none⟩), .pointer (some ⟨w1.heap.size + 1, 0, none⟩), .pointer none, .pointer none] 156) := ⟨_, rfl⟩
  rw [← hW3]
  have z1 := HB1.out.size
  have z2 := HB2.out.size
  have lm := World.block_lt_of_cell? w1 _ HM.out.c
  have lb := World.block_lt_of_cell? w2 _ HBS.out.c
  simp only at lm lb
  obtain ⟨wp, hwp⟩ : ∃ wp, wp = w2.heap.size := ⟨_, rfl⟩
  have zp := hide hwp
  have z3 : Hid (W3.heap.size = wp + 1) := by rw [hW3, hwp]; exact hide (by simp)
  have hb3 : Below w2.heap.size w2 W3 := by rw [hW3]; (focus repeat' (first | (with_reducible exact Below.refl _ _) | (with_reducible assumption) | (with_reducible refine Below.alloc ?_ ?_ _) | (with_reducible refine Below.drew ?_) | (with_reducible refine bdrewN ?_ _) | (with_reducible refine Below.setCell ?_ ?_ _) | (first | (with_reducible exact Nat.le_refl _) | (with_reducible assumption) | omega | (simp; omega) | (simp; done))))
  have HB3 := hide hb3
  have PP := hide (show W3.cell? ⟨wp, 0, none⟩ = some (.pointer none) ∧ W3.cell? ⟨wp, 1, none⟩ = some (.pointer (some ⟨W.heap.size + 1, 0, none⟩)) ∧ W3.cell? ⟨wp, 2, none⟩ = some (.pointer (some ⟨w1.heap.size + 1, 0, none⟩)) ∧ W3.cell? ⟨wp, 3, none⟩ = some (.pointer none) ∧ W3.cell? ⟨wp, 4, none⟩ = some (.pointer none) ∧ (∀ o, W3.frozen? ⟨wp, o, none⟩ = false) by rw [hW3, hwp]; exact ⟨by simp [go_sem], by simp [go_sem], by simp [go_sem], by simp [go_sem], by simp [go_sem], fun o => by simp [go_sem]⟩)
  rw [← hwp]
  obtain ⟨m, hm⟩ : ∃ m, m = W.heap.size := ⟨_, rfl⟩
  obtain ⟨bc, hbc⟩ : ∃ bc, bc = w1.heap.size := ⟨_, rfl⟩
  rw [← hm] at HM PP lm ⊢
  rw [← hbc] at HBS PP lb ⊢
  have zm := hide hm
  have zb := hide hbc
  have BW3 : Below W.heap.size W W3 := HB1.out.trans ((HB2.out.mono z1).trans (hb3.mono (by omega)))
  have BB := hide (And.intro (cell_stay b1.out (BW3.block _ l0)) (cell_stay b2.out (BW3.block _ l0)))
  have HM3 := hide ((HM.out.below HB2.out).below hb3)
  have HBS3 := hide (HBS.out.below hb3)
  have HBW3 := hide (hb.trans (BW3.mono hb.size))
  clear hW3 hwp hm hbc hb3 BW3 b0 HM HBS
  go_wp2_with fail
  refine (NewCount_ok n W3 h h2).mono ?_
  rintro e w4 ⟨c, cs, rfl, hc, hne, l4c, l4s, hb4⟩
  have zw4 := hb4.size
  have p0 := cell_stay PP.out.1 (hb4.block wp (by have := z3.out; omega))
  have f0 := fro_stay (PP.out.2.2.2.2.2 0) (hb4.block wp (by have := z3.out; omega))
  have b14 := cell_stay BB.out.1 (hb4.block w.heap.size (by have := z3.out; have := zp.out; have := zm.out; omega))
  have nwb : wp ≠ w.heap.size := by have := zp.out; omega
  have hwlt : w.heap.size < wp := by have := zp.out; omega
  have nbw := Ne.symm nwb
  have P4 := hide (And.intro (cell_stay PP.out.2.1 (hb4.block wp (by have := z3.out; omega))) (And.intro (cell_stay PP.out.2.2.1 (hb4.block wp (by have := z3.out; omega))) (And.intro (cell_stay PP.out.2.2.2.1 (hb4.block wp (by have := z3.out; omega))) (And.intro (cell_stay PP.out.2.2.2.2.1 (hb4.block wp (by have := z3.out; omega))) (show ∀ o, w4.frozen? ⟨wp, o, none⟩ = false from fun o => fro_stay (PP.out.2.2.2.2.2 o) (hb4.block wp (by have := z3.out; omega)))))))
  have B4 := hide (cell_stay BB.out.2 (hb4.block w.heap.size (by have := z3.out; have := zp.out; have := zm.out; omega)))
  have HC4 := hide hc
  have HB4 := hide hb4
  have HNE := hide hne
  have T4 := hide (show Tch (fun k => k = wp) W3 w4 from .of hb4)
  have lc4 := World.block_lt_of_cell? w4 _ hc.c
  have lcs4 := (hc.r.lt cs rfl).2
  simp only at lc4
  clear hc hb4 hne
  go_wp2_with fail
  obtain ⟨V4, hV4⟩ : ∃ V4, V4 = w4.setCell ⟨wp, 0, none⟩ (.pointer (some ⟨c, 0, none⟩)) := ⟨_, rfl⟩
  rw [← hV4]
  have hwr4 : WrN w4 wp 0 (.pointer (some ⟨c, 0, none⟩)) V4 := by rw [hV4]; exact WrN.set p0
  have HW4 := hide hwr4
  have z4 : Hid (V4.heap.size = w4.heap.size) := by rw [hV4]; exact hide (World.size_setCell _ _ _)
  clear hV4 hwr4 p0 f0 b14
  refine (NewGate_ok gate V4 hg).mono ?_
  rintro e w5 ⟨rfl, hgt, hb5⟩
  obtain ⟨g, hgg⟩ : ∃ g, g = V4.heap.size := ⟨_, rfl⟩
  rw [← hgg] at hgt ⊢
  have zg := hide hgg
  have zw5 := hb5.size
  have lg := World.block_lt_of_cell? w5 _ hgt.n
  simp only at lg
  have lwp : wp < V4.heap.size := by have := z3.out; have := z4.out; omega
  have k5 := hb5.block wp lwp
  have p3 := cell_stay ((HW4.out.oth 3 (by decide)).trans P4.out.2.2.1) k5
  have f3 := fro_stay ((HW4.out.fro 3).trans (P4.out.2.2.2.2 3)) k5
  have b25 := cell_stay B4.out ((hb5.block w.heap.size (by omega)).trans (HW4.out.heap _ (by have := z4.out; omega) nbw))
  have P5 := hide (And.intro (cell_stay HW4.out.at_ k5) (And.intro (cell_stay ((HW4.out.oth 1 (by decide)).trans P4.out.1) k5) (And.intro (cell_stay ((HW4.out.oth 2 (by decide)).trans P4.out.2.1) k5) (And.intro (cell_stay ((HW4.out.oth 4 (by decide)).trans P4.out.2.2.2.1) k5) (show ∀ o, w5.frozen? ⟨wp, o, none⟩ = false from fun o => fro_stay ((HW4.out.fro o).trans (P4.out.2.2.2.2 o)) k5)))))
  have T5 := hide (show Tch (fun k => k = wp) w4 w5 from HW4.out.tch.trans (.of hb5))
  have HG5 := hide hgt
  clear hgg hgt hb5 k5
  go_wp2_with fail
  obtain ⟨V5, hV5⟩ : ∃ V5, V5 = w5.setCell ⟨wp, 3, none⟩ (.pointer (some ⟨g, 0, none⟩)) := ⟨_, rfl⟩
  rw [← hV5]
  have hwr5 : WrN w5 wp 3 (.pointer (some ⟨g, 0, none⟩)) V5 := by rw [hV5]; exact WrN.set p3
  have HW5 := hide hwr5
  have z5 : Hid (V5.heap.size = w5.heap.size) := by rw [hV5]; exact hide (World.size_setCell _ _ _)
  clear hV5 hwr5 p3 f3 b25
  refine (NewTickets_ok tick V5 ht).mono ?_
  rintro e w6 ⟨rfl, htk, hb6⟩
  obtain ⟨tn, htn⟩ : ∃ tn, tn = V5.heap.size := ⟨_, rfl⟩
  rw [← htn] at htk ⊢
  have zt := hide htn
  have zw6 := hb6.size
  have lwp5 : wp < V5.heap.size := by have := z5.out; have := z4.out; omega
  have k6 := hb6.block wp lwp5
  have p4 := cell_stay ((HW5.out.oth 4 (by decide)).trans P5.out.2.2.2.1) k6
  have f4 := fro_stay ((HW5.out.fro 4).trans (P5.out.2.2.2.2 4)) k6
  have P6 := hide (And.intro (cell_stay ((HW5.out.oth 0 (by decide)).trans P5.out.1) k6) (And.intro (cell_stay ((HW5.out.oth 1 (by decide)).trans P5.out.2.1) k6) (And.intro (cell_stay ((HW5.out.oth 2 (by decide)).trans P5.out.2.2.1) k6) (cell_stay HW5.out.at_ k6))))
  have T6 := hide (show Tch (fun k => k = wp) w5 w6 from HW5.out.tch.trans (.of hb6))
  have HT6 := hide htk
  clear htn htk hb6 k6
  go_wp2
  have hwr6 : WrN w6 wp 4 (.pointer (some ⟨tn + 1, 0, none⟩)) (w6.setCell ⟨wp, 4, none⟩ (.pointer (some ⟨tn + 1, 0, none⟩))) := WrN.set p4
  have t6 : Tch (fun k => k = wp) w6 (w6.setCell ⟨wp, 4, none⟩ (.pointer (some ⟨tn + 1, 0, none⟩))) := hwr6.tch
  have t5 := T6.out.trans t6
  have t4 := T5.out.trans t5
  have t3 := T4.out.trans t4
  have e1 := zp.out
  have e2 := z3.out
  have e3 := zm.out
  have e4 := zb.out
  have e5 := z4.out
  have e6 := zg.out
  have e7 := z5.out
  have e8 := zt.out
  have l6 := World.block_lt_of_cell? w6 _ HT6.out.m
  have e9 := HNE.out
  have ez := hb.size
  simp only at l6
  go_ret2
  refine ⟨wp, LL (m + 1) m (bc + 1) bc c cs g (tn + 1) tn, rfl, mkCObj ?_ ?_ ?_ ?_ ?_ ?_, ⟨?_, ?_, ?_, ?_, ?_⟩, ?_, ?_, ?_, ?_⟩
  · exact HM3.out.stays (t3.heap _ (by omega) (by omega)) (t3.heap _ (by omega) (by omega))
  · exact HBS3.out.stays (t3.heap _ (by omega) (by omega)) (t3.heap _ (by omega) (by omega)) (fun k e => by cases e)
  · exact HC4.out.stays (t4.heap _ (by omega) (by omega)) (t4.heap _ (by omega) (by omega))
  · exact HG5.out.stays (t5.heap _ (by omega) (by omega))
  · exact HT6.out.stays (t6.heap _ (by omega) (by omega)) (t6.heap _ (by omega) (by omega))
  · simp only [List.nodup_cons, List.mem_cons, List.not_mem_nil, or_false, not_or, List.nodup_nil, and_true, not_false_eq_true]
    refine ⟨⟨?_, ?_, ?_, ?_, ?_, ?_, ?_, ?_⟩, ⟨?_, ?_, ?_, ?_, ?_, ?_, ?_⟩, ⟨?_, ?_, ?_, ?_, ?_, ?_⟩, ⟨?_, ?_, ?_, ?_, ?_⟩, ⟨?_, ?_, ?_, ?_⟩, ⟨?_, ?_, ?_⟩, ⟨?_, ?_⟩, ?_⟩ <;> omega
  · exact (hwr6.oth 0 (by decide)).trans P6.out.1
  · exact (hwr6.oth 1 (by decide)).trans P6.out.2.1
  · exact (hwr6.oth 2 (by decide)).trans P6.out.2.2.1
  · exact (hwr6.oth 3 (by decide)).trans P6.out.2.2.2
  · exact hwr6.at_
  · intro i hi
    obtain rfl | rfl | rfl | rfl | rfl | rfl | rfl | rfl | rfl : i = 0 ∨ i = 1 ∨ i = 2 ∨ i = 3 ∨ i = 4 ∨ i = 5 ∨ i = 6 ∨ i = 7 ∨ i = 8 := by omega
    all_goals (simp [LL]; omega)
  · omega
  · intro i hi
    obtain rfl | rfl | rfl | rfl | rfl | rfl | rfl | rfl | rfl : i = 0 ∨ i = 1 ∨ i = 2 ∨ i = 3 ∨ i = 4 ∨ i = 5 ∨ i = 6 ∨ i = 7 ∨ i = 8 := by omega
    all_goals (simp [LL]; omega)
  · have q := HBW3.out
    exact ⟨t3.os.trans q.os, t3.tape.trans q.tape, t3.output.trans q.output, Nat.le_trans q.size t3.size, fun k hk => (t3.heap k (Nat.lt_of_lt_of_le hk q.size) (by omega)).trans (q.block k hk)⟩
end Go.Proofs.Ytimabgakemgldaa
