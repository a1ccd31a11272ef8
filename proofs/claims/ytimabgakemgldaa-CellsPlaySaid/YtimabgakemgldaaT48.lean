import Derived.Test.YtimabgakemgldaaT46
import Derived.Laws.LoneSync
import Derived.WalkKit
import Derived.StillTailTactics
import Derived.Deep.RegionLaw
import Derived.Deep.RegionHeld3
import Derived.Laws.OwnMore
import Derived.Deep.Matrix
import Derived.BigQuiet
import Derived.Deep.QuietTactic
import Derived.Laws.EntriesVeiled
namespace Go.Proofs.Ytimabgakemgldaa
open Go.ChangeShapes Go.WideShapes Go.ChangeAt Go.RowKit Go.Deep
set_option linter.unusedSimpArgs false
set_option linter.unusedVariables false

set_option maxRecDepth 100000 in
set_option maxHeartbeats 8000000 in
theorem Play_hi_b_b (mark gate tick stripes : Int) (sv : Value) (w : World) (h : 64 < stripes) (hg : gate < 1) (ht : tick < 0) : Calls Try.prog 3 #[.agg #[.int .i64 mark, .int .i64 gate, .int .i64 tick], .int .i64 stripes, sv] w fun e w' => e = .returned (.bool true) ∧ Below w.heap.size w w' := by
  obtain ⟨W, hW⟩ : ∃ W, W = w.alloc (.cells #[.int .i64 mark, .int .i64 gate, .int .i64 tick] 23) := ⟨_, rfl⟩
  have hb0 : Below w.heap.size w W := by rw [hW]; (focus repeat' (first | (with_reducible exact Below.refl _ _) | (with_reducible assumption) | (with_reducible refine Below.alloc ?_ ?_ _) | (with_reducible refine Below.drew ?_) | (with_reducible refine bdrewN ?_ _) | (with_reducible refine Below.setCell ?_ ?_ _) | (first | (with_reducible exact Nat.le_refl _) | (with_reducible assumption) | omega | (simp; omega) | (simp; done))))
  have b0 : W.cell? ⟨w.heap.size, 0, none⟩ = some (.int .i64 mark) := by rw [hW]; simp [go_sem]
  have b1 : W.cell? ⟨w.heap.size, 1, none⟩ = some (.int .i64 gate) := by rw [hW]; simp [go_sem]
  have b2 : W.cell? ⟨w.heap.size, 2, none⟩ = some (.int .i64 tick) := by rw [hW]; simp [go_sem]
  have l0 := World.block_lt_of_cell? W _ b0
  simp only at l0
  have HB0 := hide hb0
  have HW := hide hW
  have C7 := hide (fun V => NewCount_bad stripes V (.inr h))
  have C8 := hide (fun V => NewGate_bad gate V hg)
  have C9 := hide (fun V => NewTickets_bad tick V ht)
  have C11 := hide (fun V => RNew_bad mark gate tick stripes V (.inr (.inl h)))
  have h' : ¬ stripes < 1 := by omega
  clear hW hb0
  go_enter Try.func3, Try.ntmps3
  go_upto_region 1 with fail
  rw [← HW.out]
  go_wp2_with fail
  refine (C7.out W).mono ?_
  rintro e w' ⟨rfl, rfl⟩
  go_wp2_with fail
  refine (C8.out W).mono ?_
  rintro e w' ⟨rfl, rfl⟩
  go_wp2_with fail
  refine (C9.out W).mono ?_
  rintro e w' ⟨rfl, rfl⟩
  go_wp2_with fail
  go_quiet ((go_at_call 10; exact Calls.quiet_of_same ((num_c _ _).mono (fun e w' q => ⟨q.1, q.2.symm⟩))))
  go_wp2_with fail
  refine (C11.out _).mono ?_
  rintro e w5 ⟨rfl, hb⟩
  have HB5 := hide (show Below w.heap.size w w5 from (bdrewN HB0.out _).trans (hb.mono HB0.out.size))
  clear hb
  go_wp2_with (go_at_call 10; (apply Calls.mono; focus (exact num_c _ _)); rintro e w' ⟨rfl, rfl⟩)
  refine (known_c _).mono ?_
  rintro e w6 ⟨rfl, hb⟩
  have HB6 := hide (show Below w.heap.size w w6 from HB5.out.trans (hb.mono HB5.out.size))
  clear hb
  go_wp2
  go_ret
  exact ⟨rfl, HB6.out⟩

set_option maxRecDepth 100000 in
set_option maxHeartbeats 8000000 in
theorem Play_hi_b_o (mark gate tick stripes : Int) (sv : Value) (w : World) (h : 64 < stripes) (hg : gate < 1) (ht : 0 ≤ tick) : Calls Try.prog 3 #[.agg #[.int .i64 mark, .int .i64 gate, .int .i64 tick], .int .i64 stripes, sv] w fun e w' => e = .returned (.bool true) ∧ Below w.heap.size w w' := by
  obtain ⟨W, hW⟩ : ∃ W, W = w.alloc (.cells #[.int .i64 mark, .int .i64 gate, .int .i64 tick] 23) := ⟨_, rfl⟩
  have hb0 : Below w.heap.size w W := by rw [hW]; (focus repeat' (first | (with_reducible exact Below.refl _ _) | (with_reducible assumption) | (with_reducible refine Below.alloc ?_ ?_ _) | (with_reducible refine Below.drew ?_) | (with_reducible refine bdrewN ?_ _) | (with_reducible refine Below.setCell ?_ ?_ _) | (first | (with_reducible exact Nat.le_refl _) | (with_reducible assumption) | omega | (simp; omega) | (simp; done))))
  have b0 : W.cell? ⟨w.heap.size, 0, none⟩ = some (.int .i64 mark) := by rw [hW]; simp [go_sem]
  have b1 : W.cell? ⟨w.heap.size, 1, none⟩ = some (.int .i64 gate) := by rw [hW]; simp [go_sem]
  have b2 : W.cell? ⟨w.heap.size, 2, none⟩ = some (.int .i64 tick) := by rw [hW]; simp [go_sem]
  have l0 := World.block_lt_of_cell? W _ b0
  simp only at l0
  have HB0 := hide hb0
  have HW := hide hW
  have C7 := hide (fun V => NewCount_bad stripes V (.inr h))
  have C8 := hide (fun V => NewGate_bad gate V hg)
  have C9 := hide (fun V => NewTickets_f tick V ht)
  have C11 := hide (fun V => RNew_bad mark gate tick stripes V (.inr (.inl h)))
  have h' : ¬ stripes < 1 := by omega
  have ht' : ¬ tick < 0 := by omega
  clear hW hb0
  go_enter Try.func3, Try.ntmps3
  go_upto_region 1 with fail
  rw [← HW.out]
  go_wp2_with fail
  refine (C7.out W).mono ?_
  rintro e w' ⟨rfl, rfl⟩
  go_wp2_with fail
  refine (C8.out W).mono ?_
  rintro e w' ⟨rfl, rfl⟩
  go_wp2_with fail
  refine (C9.out W).mono ?_
  rintro e w3 ⟨tk, tn, rfl, hc, f1, f2, f3, f4, f5, hb⟩
  have HB3 := hide (show Below w.heap.size w w3 from HB0.out.trans (hb.mono HB0.out.size))
  have b0 := cell_stay b0 (hb.block _ l0)
  have b1 := cell_stay b1 (hb.block _ l0)
  have b2 := cell_stay b2 (hb.block _ l0)
  have l0 : w.heap.size < w3.heap.size := Nat.lt_of_lt_of_le l0 hb.size
  clear hc f1 f2 f3 f4 f5 hb
  go_wp2_with fail
  go_quiet ((go_at_call 10; exact Calls.quiet_of_same ((num_c _ _).mono (fun e w' q => ⟨q.1, q.2.symm⟩))))
  go_wp2_with fail
  refine (C11.out _).mono ?_
  rintro e w5 ⟨rfl, hb⟩
  have HB5 := hide (show Below w.heap.size w w5 from (bdrewN HB3.out _).trans (hb.mono HB3.out.size))
  clear hb
  go_wp2_with (go_at_call 10; (apply Calls.mono; focus (exact num_c _ _)); rintro e w' ⟨rfl, rfl⟩)
  refine (known_c _).mono ?_
  rintro e w6 ⟨rfl, hb⟩
  have HB6 := hide (show Below w.heap.size w w6 from HB5.out.trans (hb.mono HB5.out.size))
  clear hb
  go_wp2
  go_ret
  exact ⟨rfl, HB6.out⟩

set_option maxRecDepth 100000 in
set_option maxHeartbeats 8000000 in
theorem Play_hi_o_b (mark gate tick stripes : Int) (sv : Value) (w : World) (h : 64 < stripes) (hg : 1 ≤ gate) (ht : tick < 0) : Calls Try.prog 3 #[.agg #[.int .i64 mark, .int .i64 gate, .int .i64 tick], .int .i64 stripes, sv] w fun e w' => e = .returned (.bool true) ∧ Below w.heap.size w w' := by
  obtain ⟨W, hW⟩ : ∃ W, W = w.alloc (.cells #[.int .i64 mark, .int .i64 gate, .int .i64 tick] 23) := ⟨_, rfl⟩
  have hb0 : Below w.heap.size w W := by rw [hW]; (focus repeat' (first | (with_reducible exact Below.refl _ _) | (with_reducible assumption) | (with_reducible refine Below.alloc ?_ ?_ _) | (with_reducible refine Below.drew ?_) | (with_reducible refine bdrewN ?_ _) | (with_reducible refine Below.setCell ?_ ?_ _) | (first | (with_reducible exact Nat.le_refl _) | (with_reducible assumption) | omega | (simp; omega) | (simp; done))))
  have b0 : W.cell? ⟨w.heap.size, 0, none⟩ = some (.int .i64 mark) := by rw [hW]; simp [go_sem]
  have b1 : W.cell? ⟨w.heap.size, 1, none⟩ = some (.int .i64 gate) := by rw [hW]; simp [go_sem]
  have b2 : W.cell? ⟨w.heap.size, 2, none⟩ = some (.int .i64 tick) := by rw [hW]; simp [go_sem]
  have l0 := World.block_lt_of_cell? W _ b0
  simp only at l0
  have HB0 := hide hb0
  have HW := hide hW
  have C7 := hide (fun V => NewCount_bad stripes V (.inr h))
  have C8 := hide (fun V => NewGate_f gate V hg)
  have C9 := hide (fun V => NewTickets_bad tick V ht)
  have C11 := hide (fun V => RNew_bad mark gate tick stripes V (.inr (.inl h)))
  have h' : ¬ stripes < 1 := by omega
  have hg' : ¬ gate < 1 := by omega
  clear hW hb0
  go_enter Try.func3, Try.ntmps3
  go_upto_region 1 with fail
  rw [← HW.out]
  go_wp2_with fail
  refine (C7.out W).mono ?_
  rintro e w' ⟨rfl, rfl⟩
  go_wp2_with fail
  refine (C8.out W).mono ?_
  rintro e w2 ⟨g, rfl, hc, f1, f2, hb⟩
  have HB2 := hide (show Below w.heap.size w w2 from HB0.out.trans (hb.mono HB0.out.size))
  have b0 := cell_stay b0 (hb.block _ l0)
  have b1 := cell_stay b1 (hb.block _ l0)
  have b2 := cell_stay b2 (hb.block _ l0)
  have l0 : w.heap.size < w2.heap.size := Nat.lt_of_lt_of_le l0 hb.size
  clear hc f1 f2 hb
  go_wp2_with fail
  refine (C9.out w2).mono ?_
  rintro e w' ⟨rfl, rfl⟩
  go_wp2_with fail
  go_quiet ((go_at_call 10; exact Calls.quiet_of_same ((num_c _ _).mono (fun e w' q => ⟨q.1, q.2.symm⟩))))
  go_wp2_with fail
  refine (C11.out _).mono ?_
  rintro e w5 ⟨rfl, hb⟩
  have HB5 := hide (show Below w.heap.size w w5 from (bdrewN HB2.out _).trans (hb.mono HB2.out.size))
  clear hb
  go_wp2_with (go_at_call 10; (apply Calls.mono; focus (exact num_c _ _)); rintro e w' ⟨rfl, rfl⟩)
  refine (known_c _).mono ?_
  rintro e w6 ⟨rfl, hb⟩
  have HB6 := hide (show Below w.heap.size w w6 from HB5.out.trans (hb.mono HB5.out.size))
  clear hb
  go_wp2
  go_ret
  exact ⟨rfl, HB6.out⟩

set_option maxRecDepth 100000 in
set_option maxHeartbeats 8000000 in
theorem Play_hi_o_o (mark gate tick stripes : Int) (sv : Value) (w : World) (h : 64 < stripes) (hg : 1 ≤ gate) (ht : 0 ≤ tick) : Calls Try.prog 3 #[.agg #[.int .i64 mark, .int .i64 gate, .int .i64 tick], .int .i64 stripes, sv] w fun e w' => e = .returned (.bool true) ∧ Below w.heap.size w w' := by
  obtain ⟨W, hW⟩ : ∃ W, W = w.alloc (.cells #[.int .i64 mark, .int .i64 gate, .int .i64 tick] 23) := ⟨_, rfl⟩
  have hb0 : Below w.heap.size w W := by rw [hW]; (focus repeat' (first | (with_reducible exact Below.refl _ _) | (with_reducible assumption) | (with_reducible refine Below.alloc ?_ ?_ _) | (with_reducible refine Below.drew ?_) | (with_reducible refine bdrewN ?_ _) | (with_reducible refine Below.setCell ?_ ?_ _) | (first | (with_reducible exact Nat.le_refl _) | (with_reducible assumption) | omega | (simp; omega) | (simp; done))))
  have b0 : W.cell? ⟨w.heap.size, 0, none⟩ = some (.int .i64 mark) := by rw [hW]; simp [go_sem]
  have b1 : W.cell? ⟨w.heap.size, 1, none⟩ = some (.int .i64 gate) := by rw [hW]; simp [go_sem]
  have b2 : W.cell? ⟨w.heap.size, 2, none⟩ = some (.int .i64 tick) := by rw [hW]; simp [go_sem]
  have l0 := World.block_lt_of_cell? W _ b0
  simp only at l0
  have HB0 := hide hb0
  have HW := hide hW
  have C7 := hide (fun V => NewCount_bad stripes V (.inr h))
  have C8 := hide (fun V => NewGate_f gate V hg)
  have C9 := hide (fun V => NewTickets_f tick V ht)
  have C11 := hide (fun V => RNew_bad mark gate tick stripes V (.inr (.inl h)))
  have h' : ¬ stripes < 1 := by omega
  have hg' : ¬ gate < 1 := by omega
  have ht' : ¬ tick < 0 := by omega
  clear hW hb0
  go_enter Try.func3, Try.ntmps3
  go_upto_region 1 with fail
  rw [← HW.out]
  go_wp2_with fail
  refine (C7.out W).mono ?_
  rintro e w' ⟨rfl, rfl⟩
  go_wp2_with fail
  refine (C8.out W).mono ?_
  rintro e w2 ⟨g, rfl, hc, f1, f2, hb⟩
  have HB2 := hide (show Below w.heap.size w w2 from HB0.out.trans (hb.mono HB0.out.size))
  have b0 := cell_stay b0 (hb.block _ l0)
  have b1 := cell_stay b1 (hb.block _ l0)
  have b2 := cell_stay b2 (hb.block _ l0)
  have l0 : w.heap.size < w2.heap.size := Nat.lt_of_lt_of_le l0 hb.size
  clear hc f1 f2 hb
  go_wp2_with fail
  refine (C9.out w2).mono ?_
  rintro e w3 ⟨tk, tn, rfl, hc, f1, f2, f3, f4, f5, hb⟩
  have HB3 := hide (show Below w.heap.size w w3 from HB2.out.trans (hb.mono HB2.out.size))
  have b0 := cell_stay b0 (hb.block _ l0)
  have b1 := cell_stay b1 (hb.block _ l0)
  have b2 := cell_stay b2 (hb.block _ l0)
  have l0 : w.heap.size < w3.heap.size := Nat.lt_of_lt_of_le l0 hb.size
  clear hc f1 f2 f3 f4 f5 hb
  go_wp2_with fail
  go_quiet ((go_at_call 10; exact Calls.quiet_of_same ((num_c _ _).mono (fun e w' q => ⟨q.1, q.2.symm⟩))))
  go_wp2_with fail
  refine (C11.out _).mono ?_
  rintro e w5 ⟨rfl, hb⟩
  have HB5 := hide (show Below w.heap.size w w5 from (bdrewN HB3.out _).trans (hb.mono HB3.out.size))
  clear hb
  go_wp2_with (go_at_call 10; (apply Calls.mono; focus (exact num_c _ _)); rintro e w' ⟨rfl, rfl⟩)
  refine (known_c _).mono ?_
  rintro e w6 ⟨rfl, hb⟩
  have HB6 := hide (show Below w.heap.size w w6 from HB5.out.trans (hb.mono HB5.out.size))
  clear hb
  go_wp2
  go_ret
  exact ⟨rfl, HB6.out⟩
end Go.Proofs.Ytimabgakemgldaa
