import Derived.Test.YtimabgakemgldaaT26
import Derived.Laws.LoneSync
import Derived.WalkKit
import Derived.StillTailTactics
import Derived.Deep.RegionLaw
import Derived.Deep.RegionHeld3
import Derived.Laws.OwnMore
import Derived.Deep.Matrix
import Derived.BigQuiet
import Derived.Deep.QuietTactic
import Derived.Laws.EntriesVeiled
namespace Go.Proofs.Ytimabgakemgldaa
open Go.ChangeShapes Go.WideShapes Go.ChangeAt Go.RowKit Go.Deep
set_option linter.unusedSimpArgs false
set_option linter.unusedVariables false

def AnyPost (bad : Prop) (w : World) (e : Ending) (w' : World) : Prop := ∃ (pv : Option Addr) (k : Int), e = .returned (.tuple #[.pointer pv, .int .i64 k]) ∧ (k = 0 ∨ k = 2) ∧ (bad → k = 2) ∧ Below w.heap.size w w'
theorem NewCount_any (n : Int) (w : World) : Calls Try.prog 7 #[.int .i64 n] w (AnyPost (n < 1 ∨ 64 < n) w) := by
  by_cases h : n < 1 ∨ 64 < n
  · exact (NewCount_bad n w h).mono fun e w' q => ⟨none, 2, q.1, .inr rfl, fun _ => rfl, by rw [← q.2]; exact Below.refl _ _⟩
  · obtain ⟨k, rfl⟩ : ∃ k : Nat, n = (k : Int) := ⟨n.toNat, by omega⟩
    exact (NewCount_ok k w (by omega) (by omega)).mono fun e w' q => by
      obtain ⟨c, cs, e1, _, _, _, _, hb⟩ := q
      exact ⟨_, 0, e1, .inl rfl, fun q => (h q).elim, hb⟩
theorem NewGate_any (n : Int) (w : World) : Calls Try.prog 8 #[.int .i64 n] w (AnyPost (n < 1) w) := by
  by_cases h : n < 1
  · exact (NewGate_bad n w h).mono fun e w' q => ⟨none, 2, q.1, .inr rfl, fun _ => rfl, by rw [← q.2]; exact Below.refl _ _⟩
  · exact (NewGate_ok n w (by omega)).mono fun e w' q => ⟨_, 0, q.1, .inl rfl, fun q => (h q).elim, q.2.2⟩
theorem NewTickets_any (n : Int) (w : World) : Calls Try.prog 9 #[.int .i64 n] w (AnyPost (n < 0) w) := by
  by_cases h : n < 0
  · exact (NewTickets_bad n w h).mono fun e w' q => ⟨none, 2, q.1, .inr rfl, fun _ => rfl, by rw [← q.2]; exact Below.refl _ _⟩
  · exact (NewTickets_ok n w (by omega)).mono fun e w' q => ⟨_, 0, q.1, .inl rfl, fun q => (h q).elim, q.2.2⟩
set_option maxHeartbeats 2000000 in
theorem Start_bad (mark gate tick n : Int) (w : World) (h : n < 1 ∨ 64 < n ∨ gate < 1 ∨ tick < 0) : Calls Try.prog 42 #[.agg #[.int .i64 mark, .int .i64 gate, .int .i64 tick], .int .i64 n] w fun e w' => e = .returned (.tuple #[.pointer none, .int .i64 2]) ∧ Below w.heap.size w w' := by
  obtain ⟨W, hW⟩ : ∃ W, W = w.alloc (.cells #[.int .i64 mark, .int .i64 gate, .int .i64 tick] 23) := ⟨_, rfl⟩
  have hb : Below w.heap.size w W := by rw [hW]; (focus repeat' (first | (with_reducible exact Below.refl _ _) | (with_reducible assumption) | (with_reducible refine Below.alloc ?_ ?_ _) | (with_reducible refine Below.drew ?_) | (with_reducible refine bdrewN ?_ _) | (with_reducible refine Below.setCell ?_ ?_ _) | (first | (with_reducible exact Nat.le_refl _) | (with_reducible assumption) | omega | (simp; omega) | (simp; done))))
  have b0 : W.cell? ⟨w.heap.size, 0, none⟩ = some (.int .i64 mark) := by rw [hW]; simp [go_sem]
  have b1 := hide (show W.cell? ⟨w.heap.size, 1, none⟩ = some (.int .i64 gate) by rw [hW]; simp [go_sem])
  have b2 := hide (show W.cell? ⟨w.heap.size, 2, none⟩ = some (.int .i64 tick) by rw [hW]; simp [go_sem])
  have l0 := World.block_lt_of_cell? W _ b0
  simp only at l0
  have HW := hide hW
  have HH := hide h
  clear hW h
  go_enter Try.func42, Try.ntmps42
  go_upto_region 1 with fail
  rw [← HW.out]
  go_wp2_with fail
  refine (NewMark_c mark W).mono ?_
  rintro e w1 ⟨rfl, hm, hb1⟩
  have HB1 := hide hb1
  clear hm hb1
  go_wp2_with fail
  refine (NewBest_c w1).mono ?_
  rintro e w2 ⟨rfl, hbs, hb2⟩
  have HB2 := hide hb2
  clear hbs hb2
  go_upto_region 2 with fail
  obtain ⟨W3, hW3⟩ : ∃ W3, W3 = w2.alloc (.cells #[.pointer none, .pointer (some ⟨W.heap.size + 1, 0, none⟩), .pointer (some ⟨w1.heap.size + 1, 0, none⟩), .pointer none, .pointer none] 156) := ⟨_, rfl⟩
  rw [← hW3]
  have z1 := HB1.out.size
  have z2 := HB2.out.size
  obtain ⟨wp, hwp⟩ : ∃ wp, wp = w2.heap.size := ⟨_, rfl⟩
  have zp := hide hwp
  have z3 : Hid (W3.heap.size = wp + 1) := by rw [hW3, hwp]; exact hide (by simp)
  have hb3 : Below w2.heap.size w2 W3 := by rw [hW3]; (focus repeat' (first | (with_reducible exact Below.refl _ _) | (with_reducible assumption) | (with_reducible refine Below.alloc ?_ ?_ _) | (with_reducible refine Below.drew ?_) | (with_reducible refine bdrewN ?_ _) | (with_reducible refine Below.setCell ?_ ?_ _) | (first | (with_reducible exact Nat.le_refl _) | (with_reducible assumption) | omega | (simp; omega) | (simp; done))))
  have PP := hide (show W3.cell? ⟨wp, 0, none⟩ = some (.pointer none) ∧ W3.cell? ⟨wp, 3, none⟩ = some (.pointer none) ∧ W3.cell? ⟨wp, 4, none⟩ = some (.pointer none) ∧ (∀ o, W3.frozen? ⟨wp, o, none⟩ = false) by rw [hW3, hwp]; exact ⟨by simp [go_sem], by simp [go_sem], by simp [go_sem], fun o => by simp [go_sem]⟩)
  rw [← hwp]
  have BW3 : Below W.heap.size W W3 := HB1.out.trans ((HB2.out.mono z1).trans (hb3.mono (by omega)))
  have BB := hide (And.intro (cell_stay b1.out (BW3.block _ l0)) (cell_stay b2.out (BW3.block _ l0)))
  have HBW3 := hide (hb.trans (BW3.mono hb.size))
  have nwb : wp ≠ w.heap.size := by omega
  have hwlt : w.heap.size < wp := by omega
  have nbw := Ne.symm nwb
  clear hW3 hwp hb3 BW3 b0
  go_wp2_with fail
  refine (NewCount_any n W3).mono ?_
  rintro e w4 ⟨pv1, k1, rfl, hk1, hkb1, hb4⟩
  have zw4 := hb4.size
  have q4 := hb4.block wp (by have := z3.out; omega)
  have r4 := hb4.block w.heap.size (by have := z3.out; omega)
  have p0 := cell_stay PP.out.1 q4
  have f0 := fro_stay (PP.out.2.2.2 0) q4
  have b14 := cell_stay BB.out.1 r4
  have P4 := hide (And.intro (cell_stay PP.out.2.1 q4) (And.intro (cell_stay PP.out.2.2.1 q4) (show ∀ o, w4.frozen? ⟨wp, o, none⟩ = false from fun o => fro_stay (PP.out.2.2.2 o) q4)))
  have B4 := hide (cell_stay BB.out.2 r4)
  have K1 := hide (And.intro hk1 hkb1)
  have T4 := hide (show Tch (fun k => k = wp) W3 w4 from .of hb4)
  clear hb4 q4 r4 hk1 hkb1
  go_wp2_with fail
  obtain ⟨V4, hV4⟩ : ∃ V4, V4 = w4.setCell ⟨wp, 0, none⟩ (.pointer pv1) := ⟨_, rfl⟩
  rw [← hV4]
  have hwr4 : WrN w4 wp 0 (.pointer pv1) V4 := by rw [hV4]; exact WrN.set p0
  have HW4 := hide hwr4
  have z4 : Hid (V4.heap.size = w4.heap.size) := by rw [hV4]; exact hide (World.size_setCell _ _ _)
  clear hV4 hwr4 p0 f0 b14
  refine (NewGate_any gate V4).mono ?_
  rintro e w5 ⟨pv2, k2, rfl, hk2, hkb2, hb5⟩
  have zw5 := hb5.size
  have lwp : wp < V4.heap.size := by have := z3.out; have := z4.out; omega
  have k5 := hb5.block wp lwp
  have p3 := cell_stay ((HW4.out.oth 3 (by decide)).trans P4.out.1) k5
  have f3 := fro_stay ((HW4.out.fro 3).trans (P4.out.2.2 3)) k5
  have b25 := cell_stay B4.out ((hb5.block w.heap.size (by omega)).trans (HW4.out.heap _ (by have := z4.out; omega) nbw))
  have P5 := hide (And.intro (cell_stay ((HW4.out.oth 4 (by decide)).trans P4.out.2.1) k5) (show ∀ o, w5.frozen? ⟨wp, o, none⟩ = false from fun o => fro_stay ((HW4.out.fro o).trans (P4.out.2.2 o)) k5))
  have T5 := hide (show Tch (fun k => k = wp) w4 w5 from HW4.out.tch.trans (.of hb5))
  have K2 := hide (And.intro hk2 hkb2)
  clear hb5 k5 hk2 hkb2
  go_wp2_with fail
  obtain ⟨V5, hV5⟩ : ∃ V5, V5 = w5.setCell ⟨wp, 3, none⟩ (.pointer pv2) := ⟨_, rfl⟩
  rw [← hV5]
  have hwr5 : WrN w5 wp 3 (.pointer pv2) V5 := by rw [hV5]; exact WrN.set p3
  have HW5 := hide hwr5
  have z5 : Hid (V5.heap.size = w5.heap.size) := by rw [hV5]; exact hide (World.size_setCell _ _ _)
  clear hV5 hwr5 p3 f3 b25
  refine (NewTickets_any tick V5).mono ?_
  rintro e w6 ⟨pv3, k3, rfl, hk3, hkb3, hb6⟩
  have zw6 := hb6.size
  have lwp5 : wp < V5.heap.size := by have := z5.out; have := z4.out; omega
  have k6 := hb6.block wp lwp5
  have p4 := cell_stay ((HW5.out.oth 4 (by decide)).trans P5.out.1) k6
  have f4 := fro_stay ((HW5.out.fro 4).trans (P5.out.2 4)) k6
  have T6 := hide (show Tch (fun k => k = wp) w5 w6 from HW5.out.tch.trans (.of hb6))
  have t3 := hide (show Tch (fun k => k = wp) W3 (w6.setCell ⟨wp, 4, none⟩ (.pointer pv3)) from ((T4.out.trans T5.out).trans T6.out).set rfl _ _)
  have FIN := hide (show Below w.heap.size w (w6.setCell ⟨wp, 4, none⟩ (.pointer pv3)) from by
    have q := HBW3.out
    exact ⟨t3.out.os.trans q.os, t3.out.tape.trans q.tape, t3.out.output.trans q.output, Nat.le_trans q.size t3.out.size, fun k hk => (t3.out.heap k (Nat.lt_of_lt_of_le hk q.size) (by omega)).trans (q.block k hk)⟩)
  clear hb6 k6
  have hbad : k1 = 2 ∨ (k1 = 0 ∧ k2 = 2) ∨ (k1 = 0 ∧ k2 = 0 ∧ k3 = 2) := by
    rcases K1.out.1 with h1 | h1
    · rcases K2.out.1 with h2 | h2
      · refine .inr (.inr ⟨h1, h2, hkb3 ?_⟩)
        rcases HH.out with q | q | q | q
        · have := K1.out.2 (.inl q); omega
        · have := K1.out.2 (.inr q); omega
        · have := K2.out.2 q; omega
        · exact q
      · exact .inr (.inl ⟨h1, h2⟩)
    · exact .inl h1
  clear hk3 hkb3
  rcases hbad with rfl | ⟨rfl, rfl⟩ | ⟨rfl, rfl, rfl⟩
  all_goals
    go_wp2
    go_ret2
    exact ⟨rfl, FIN.out⟩
end Go.Proofs.Ytimabgakemgldaa
