import Derived.Test.YtimabgakemgldaaT32
import Derived.Laws.LoneSync
import Derived.WalkKit
import Derived.StillTailTactics
import Derived.Deep.RegionLaw
import Derived.Deep.RegionHeld3
import Derived.Laws.OwnMore
import Derived.Deep.Matrix
import Derived.BigQuiet
import Derived.Deep.QuietTactic
import Derived.Laws.EntriesVeiled
namespace Go.Proofs.Ytimabgakemgldaa
open Go.Maps Go.ChangeMaps Go.WideElems Go.WideMaps Go.ChangeShapes Go.WideShapes Go.ChangeAt Go.RowKit Go.Deep
set_option linter.unusedSimpArgs false
set_option linter.unusedVariables false
theorem opF_X (wp : Nat) (k : Int) (k1 : ¬ k = 1) (k2 : ¬ k = 2) (k3 : ¬ k = 3) (k4 : ¬ k = 4) (k5 : ¬ k = 5) : opF wp (.int .i64 k) = none := by
  unfold opF
  rw [setAt_other _ _ (lit_ne k5), setAt_other _ _ (lit_ne k4), setAt_other _ _ (lit_ne k3), setAt_other _ _ (lit_ne k2), setAt_other _ _ (lit_ne k1)]

set_option maxRecDepth 100000 in
set_option maxHeartbeats 2000000 in
theorem op_1 (wp ab ao : Nat) (L : Nat → Nat) (who x : Int) (w : World) (hL : LW w wp L) : Calls Try.prog 49 #[.pointer (some ⟨wp, 0, none⟩), .int .i64 who, .agg #[.int .i64 1, .int .i64 x], .pointer (some ⟨ab, ao, none⟩)] w fun e w' => ∃ n, w.heap.size ≤ n ∧ e = .returned (oneV (n + 5)) ∧ w'.cell? ⟨n + 5, 0, none⟩ = some (addF n) ∧ AddT w' n (n + 1) (n + 1 + 1) (n + 1 + 1 + 1) wp ab ao who x ∧ Below w.heap.size w w' := by
  obtain ⟨W, hW⟩ : ∃ W, W = (w.alloc (.cells #[.int .i64 1, .int .i64 x] 57)).alloc (.cells #[.nilFunc, .nilFunc] 143) := ⟨_, rfl⟩
  have hb : Below w.heap.size w W := by rw [hW]; (focus repeat' (first | (with_reducible exact Below.refl _ _) | (with_reducible assumption) | (with_reducible refine Below.alloc ?_ ?_ _) | (with_reducible refine Below.drew ?_) | (with_reducible refine bdrewN ?_ _) | (with_reducible refine Below.setCell ?_ ?_ _) | (first | (with_reducible exact Nat.le_refl _) | (with_reducible assumption) | omega | (simp; omega) | (simp; done))))
  have zW : Hid (W.heap.size = w.heap.size + 2) := by rw [hW]; exact hide (by simp)
  have b0 : W.cell? ⟨w.heap.size, 0, none⟩ = some (.int .i64 1) := by rw [hW]; simp [go_sem]
  have b1 : W.cell? ⟨w.heap.size, 1, none⟩ = some (.int .i64 x) := by rw [hW]; simp [go_sem]
  have k0 := hide (show W.cell? ⟨w.heap.size + 1, 0, none⟩ = some .nilFunc ∧ W.cell? ⟨w.heap.size + 1, 1, none⟩ = some .nilFunc ∧ (∀ o, W.frozen? ⟨w.heap.size + 1, o, none⟩ = false) by rw [hW]; exact ⟨by simp [go_sem], by simp [go_sem], fun o => by simp [go_sem]⟩)
  have l0 := World.block_lt_of_cell? W _ b0
  have lk := World.block_lt_of_cell? W _ k0.out.1
  simp only at l0 lk
  obtain ⟨w1, w2, w3, w4, w5, r1, r2, r3, r4, r5, hm, hb5⟩ := op_map wp W
  have zw5 := hb5.size
  have b05 := cell_stay b0 (hb5.block _ l0)
  have b15 := cell_stay b1 (hb5.block _ l0)
  have K5 := hide (And.intro (cell_stay k0.out.1 (hb5.block _ lk)) (And.intro (cell_stay k0.out.2.1 (hb5.block _ lk)) (show ∀ o, w5.frozen? ⟨w.heap.size + 1, o, none⟩ = false from fun o => fro_stay (k0.out.2.2 o) (hb5.block _ lk))))
  have B5 := hide (hb.trans (hb5.mono hb.size))
  have HL5 := hide (hL.stays (B5.out.block _ hL.lt))
  have HW := hide hW
  have LK : Sem.run Try.prog (Instr.lookup 172 (.map (some W.heap.size)) (.int .i64 1) true) w5 = .ok (.tuple #[.func (.func 79) #[.pointer (some ⟨wp, 0, none⟩)] #[], .bool true]) w5 := by
    rw [hm.look_ok law55 Try.underlying172 (zero148 w5) (keyOf_int_mk Try.underlying55 (by decide)), opF_1]; rfl
  have lk5 : w.heap.size + 1 < w5.heap.size := by omega
  clear hW hb hL b0 b1 k0 hb5
  have hmm := @run_makeMap Try.prog
  go_enter Try.func49, Try.ntmps49
  go_upto_region 1 with fail
  rw [← HW.out]
  go_wp2_with fail
  refine (add_c wp ab ao who x w5).mono ?_
  rintro e w6 ⟨rfl, ho, ht, hb6⟩
  obtain ⟨n, hn⟩ : ∃ n, n = w5.heap.size := ⟨_, rfl⟩
  rw [← hn] at ho ht ⊢
  have hnn := hide hn
  have k6 := hb6.block _ lk5
  have HO := hide ho
  have HT := hide ht
  have HB6 := hide hb6
  clear ho ht hb6 hn
  have q0 := cell_stay K5.out.1 k6
  have q1 := cell_stay K5.out.2.1 k6
  have g0 := fro_stay (K5.out.2.2 0) k6
  have g1 := fro_stay (K5.out.2.2 1) k6
  clear k6 r1 r2 r3 r4 r5 hm LK b05 b15
  unfold oneV
  go_wp2
  have hz := zW.out
  have s : ∀ b, b ≠ w.heap.size + 1 → ((w6.setCell ⟨w.heap.size + 1, 0, none⟩ (.func (.func 107) #[] #[.pointer (some ⟨n + 5, 0, none⟩)])).setCell ⟨w.heap.size + 1, 1, none⟩ (.nilFunc)).heap[b]? = w6.heap[b]? := fun b hb => (heap_setCell_other _ _ _ _ hb).trans (heap_setCell_other _ _ _ _ hb)
  refine bodyPost_ret (v := oneV (n + 5)) (by simp [results, Try.f49, go_sem, oneV, q0, q1]) rfl ⟨n, by have := hnn.out; omega, rfl, ?_, ?_, ?_⟩
  · have hnn := hnn.out
    exact (World.cell?_of_block (a := ⟨n + 5, 0, none⟩) (s (n + 5) (by omega))).trans HO.out
  · have hnn := hnn.out
    exact HT.out.stays (s _ (by omega)) (s _ (by omega)) (s _ (by omega)) (s _ (by omega))
  · exact ((B5.out.trans (HB6.out.mono (by omega))).setCell (p := ⟨w.heap.size + 1, 0, none⟩) (by simp) _).setCell (p := ⟨w.heap.size + 1, 1, none⟩) (by simp) _

set_option maxRecDepth 100000 in
set_option maxHeartbeats 2000000 in
theorem op_4 (wp ab ao : Nat) (L : Nat → Nat) (who x : Int) (w : World) (hL : LW w wp L) : Calls Try.prog 49 #[.pointer (some ⟨wp, 0, none⟩), .int .i64 who, .agg #[.int .i64 4, .int .i64 x], .pointer (some ⟨ab, ao, none⟩)] w fun e w' => ∃ n, w.heap.size ≤ n ∧ e = .returned (oneV (n + 3)) ∧ w'.cell? ⟨n + 3, 0, none⟩ = some (arrF n) ∧ ArrT w' n (n + 1) wp ab ao ∧ Below w.heap.size w w' := by
  obtain ⟨W, hW⟩ : ∃ W, W = (w.alloc (.cells #[.int .i64 4, .int .i64 x] 57)).alloc (.cells #[.nilFunc, .nilFunc] 143) := ⟨_, rfl⟩
  have hb : Below w.heap.size w W := by rw [hW]; (focus repeat' (first | (with_reducible exact Below.refl _ _) | (with_reducible assumption) | (with_reducible refine Below.alloc ?_ ?_ _) | (with_reducible refine Below.drew ?_) | (with_reducible refine bdrewN ?_ _) | (with_reducible refine Below.setCell ?_ ?_ _) | (first | (with_reducible exact Nat.le_refl _) | (with_reducible assumption) | omega | (simp; omega) | (simp; done))))
  have zW : Hid (W.heap.size = w.heap.size + 2) := by rw [hW]; exact hide (by simp)
  have b0 : W.cell? ⟨w.heap.size, 0, none⟩ = some (.int .i64 4) := by rw [hW]; simp [go_sem]
  have b1 : W.cell? ⟨w.heap.size, 1, none⟩ = some (.int .i64 x) := by rw [hW]; simp [go_sem]
  have k0 := hide (show W.cell? ⟨w.heap.size + 1, 0, none⟩ = some .nilFunc ∧ W.cell? ⟨w.heap.size + 1, 1, none⟩ = some .nilFunc ∧ (∀ o, W.frozen? ⟨w.heap.size + 1, o, none⟩ = false) by rw [hW]; exact ⟨by simp [go_sem], by simp [go_sem], fun o => by simp [go_sem]⟩)
  have l0 := World.block_lt_of_cell? W _ b0
  have lk := World.block_lt_of_cell? W _ k0.out.1
  simp only at l0 lk
  obtain ⟨w1, w2, w3, w4, w5, r1, r2, r3, r4, r5, hm, hb5⟩ := op_map wp W
  have zw5 := hb5.size
  have b05 := cell_stay b0 (hb5.block _ l0)
  have b15 := cell_stay b1 (hb5.block _ l0)
  have K5 := hide (And.intro (cell_stay k0.out.1 (hb5.block _ lk)) (And.intro (cell_stay k0.out.2.1 (hb5.block _ lk)) (show ∀ o, w5.frozen? ⟨w.heap.size + 1, o, none⟩ = false from fun o => fro_stay (k0.out.2.2 o) (hb5.block _ lk))))
  have B5 := hide (hb.trans (hb5.mono hb.size))
  have HL5 := hide (hL.stays (B5.out.block _ hL.lt))
  have HW := hide hW
  have LK : Sem.run Try.prog (Instr.lookup 172 (.map (some W.heap.size)) (.int .i64 4) true) w5 = .ok (.tuple #[.func (.func 82) #[.pointer (some ⟨wp, 0, none⟩)] #[], .bool true]) w5 := by
    rw [hm.look_ok law55 Try.underlying172 (zero148 w5) (keyOf_int_mk Try.underlying55 (by decide)), opF_4]; rfl
  have lk5 : w.heap.size + 1 < w5.heap.size := by omega
  clear hW hb hL b0 b1 k0 hb5
  have hmm := @run_makeMap Try.prog
  go_enter Try.func49, Try.ntmps49
  go_upto_region 1 with fail
  rw [← HW.out]
  go_wp2_with fail
  refine (arrive_c wp ab ao who x w5).mono ?_
  rintro e w6 ⟨rfl, ho, ht, hb6⟩
  obtain ⟨n, hn⟩ : ∃ n, n = w5.heap.size := ⟨_, rfl⟩
  rw [← hn] at ho ht ⊢
  have hnn := hide hn
  have k6 := hb6.block _ lk5
  have HO := hide ho
  have HT := hide ht
  have HB6 := hide hb6
  clear ho ht hb6 hn
  have q0 := cell_stay K5.out.1 k6
  have q1 := cell_stay K5.out.2.1 k6
  have g0 := fro_stay (K5.out.2.2 0) k6
  have g1 := fro_stay (K5.out.2.2 1) k6
  clear k6 r1 r2 r3 r4 r5 hm LK b05 b15
  unfold oneV
  go_wp2
  have hz := zW.out
  have s : ∀ b, b ≠ w.heap.size + 1 → ((w6.setCell ⟨w.heap.size + 1, 0, none⟩ (.func (.func 107) #[] #[.pointer (some ⟨n + 3, 0, none⟩)])).setCell ⟨w.heap.size + 1, 1, none⟩ (.nilFunc)).heap[b]? = w6.heap[b]? := fun b hb => (heap_setCell_other _ _ _ _ hb).trans (heap_setCell_other _ _ _ _ hb)
  refine bodyPost_ret (v := oneV (n + 3)) (by simp [results, Try.f49, go_sem, oneV, q0, q1]) rfl ⟨n, by have := hnn.out; omega, rfl, ?_, ?_, ?_⟩
  · have hnn := hnn.out
    exact (World.cell?_of_block (a := ⟨n + 3, 0, none⟩) (s (n + 3) (by omega))).trans HO.out
  · have hnn := hnn.out
    exact HT.out.stays (s _ (by omega)) (s _ (by omega))
  · exact ((B5.out.trans (HB6.out.mono (by omega))).setCell (p := ⟨w.heap.size + 1, 0, none⟩) (by simp) _).setCell (p := ⟨w.heap.size + 1, 1, none⟩) (by simp) _

set_option maxRecDepth 100000 in
set_option maxHeartbeats 2000000 in
theorem op_X (wp ab ao : Nat) (L : Nat → Nat) (who x : Int) (w : World) (hL : LW w wp L) (k : Int) (hk : (Lit.int .i64 k).wf = true) (k1 : ¬ k = 1) (k2 : ¬ k = 2) (k3 : ¬ k = 3) (k4 : ¬ k = 4) (k5 : ¬ k = 5) : Calls Try.prog 49 #[.pointer (some ⟨wp, 0, none⟩), .int .i64 who, .agg #[.int .i64 k, .int .i64 x], .pointer (some ⟨ab, ao, none⟩)] w fun e w' => ∃ n, w.heap.size ≤ n ∧ e = .returned (oneV n) ∧ w'.cell? ⟨n, 0, none⟩ = some (.func (.func 85) #[] #[]) ∧ Below w.heap.size w w' := by
  obtain ⟨W, hW⟩ : ∃ W, W = (w.alloc (.cells #[.int .i64 k, .int .i64 x] 57)).alloc (.cells #[.nilFunc, .nilFunc] 143) := ⟨_, rfl⟩
  have hb : Below w.heap.size w W := by rw [hW]; (focus repeat' (first | (with_reducible exact Below.refl _ _) | (with_reducible assumption) | (with_reducible refine Below.alloc ?_ ?_ _) | (with_reducible refine Below.drew ?_) | (with_reducible refine bdrewN ?_ _) | (with_reducible refine Below.setCell ?_ ?_ _) | (first | (with_reducible exact Nat.le_refl _) | (with_reducible assumption) | omega | (simp; omega) | (simp; done))))
  have zW : Hid (W.heap.size = w.heap.size + 2) := by rw [hW]; exact hide (by simp)
  have b0 : W.cell? ⟨w.heap.size, 0, none⟩ = some (.int .i64 k) := by rw [hW]; simp [go_sem]
  have b1 : W.cell? ⟨w.heap.size, 1, none⟩ = some (.int .i64 x) := by rw [hW]; simp [go_sem]
  have k0 := hide (show W.cell? ⟨w.heap.size + 1, 0, none⟩ = some .nilFunc ∧ W.cell? ⟨w.heap.size + 1, 1, none⟩ = some .nilFunc ∧ (∀ o, W.frozen? ⟨w.heap.size + 1, o, none⟩ = false) by rw [hW]; exact ⟨by simp [go_sem], by simp [go_sem], fun o => by simp [go_sem]⟩)
  have l0 := World.block_lt_of_cell? W _ b0
  have lk := World.block_lt_of_cell? W _ k0.out.1
  simp only at l0 lk
  obtain ⟨w1, w2, w3, w4, w5, r1, r2, r3, r4, r5, hm, hb5⟩ := op_map wp W
  have zw5 := hb5.size
  have b05 := cell_stay b0 (hb5.block _ l0)
  have b15 := cell_stay b1 (hb5.block _ l0)
  have K5 := hide (And.intro (cell_stay k0.out.1 (hb5.block _ lk)) (And.intro (cell_stay k0.out.2.1 (hb5.block _ lk)) (show ∀ o, w5.frozen? ⟨w.heap.size + 1, o, none⟩ = false from fun o => fro_stay (k0.out.2.2 o) (hb5.block _ lk))))
  have B5 := hide (hb.trans (hb5.mono hb.size))
  have HL5 := hide (hL.stays (B5.out.block _ hL.lt))
  have HW := hide hW
  have LK : Sem.run Try.prog (Instr.lookup 172 (.map (some W.heap.size)) (.int .i64 k) true) w5 = .ok (.tuple #[.nilFunc, .bool false]) w5 := by
    rw [hm.look_ok law55 Try.underlying172 (zero148 w5) (keyOf_int_mk Try.underlying55 hk), opF_X wp k k1 k2 k3 k4 k5]; rfl
  clear hk k1 k2 k3 k4 k5
  have lk5 : w.heap.size + 1 < w5.heap.size := by omega
  clear hW hb hL b0 b1 k0 hb5
  have hmm := @run_makeMap Try.prog
  go_enter Try.func49, Try.ntmps49
  go_upto_region 1 with fail
  rw [← HW.out]
  go_wp2_with fail
  refine (one_c 85 #[] w5).mono ?_
  rintro e w6 ⟨rfl, ho, hb6⟩
  obtain ⟨n, hn⟩ : ∃ n, n = w5.heap.size := ⟨_, rfl⟩
  rw [← hn] at ho ⊢
  have hnn := hide hn
  have k6 := hb6.block _ lk5
  have HO := hide ho
  have HB6 := hide hb6
  clear ho hb6 hn
  have q0 := cell_stay K5.out.1 k6
  have q1 := cell_stay K5.out.2.1 k6
  have g0 := fro_stay (K5.out.2.2 0) k6
  have g1 := fro_stay (K5.out.2.2 1) k6
  clear k6 r1 r2 r3 r4 r5 hm LK b05 b15
  go_wp2
  have hz := zW.out
  have s : ∀ b, b ≠ w.heap.size + 1 → ((w6.setCell ⟨w.heap.size + 1, 0, none⟩ (.func (.func 107) #[] #[.pointer (some ⟨n, 0, none⟩)])).setCell ⟨w.heap.size + 1, 1, none⟩ (.nilFunc)).heap[b]? = w6.heap[b]? := fun b hb => (heap_setCell_other _ _ _ _ hb).trans (heap_setCell_other _ _ _ _ hb)
  refine bodyPost_ret (v := oneV n) (by simp [results, Try.f49, go_sem, oneV, q0, q1]) rfl ⟨n, by have := hnn.out; omega, rfl, ?_, ?_⟩
  · have hnn := hnn.out
    exact (World.cell?_of_block (a := ⟨n, 0, none⟩) (s n (by omega))).trans HO.out
  · exact ((B5.out.trans (HB6.out.mono (by omega))).setCell (p := ⟨w.heap.size + 1, 0, none⟩) (by simp) _).setCell (p := ⟨w.heap.size + 1, 1, none⟩) (by simp) _

set_option maxRecDepth 100000 in
set_option maxHeartbeats 2000000 in
theorem op_3 (wp ab ao : Nat) (L : Nat → Nat) (who x : Int) (w : World) (hL : LW w wp L) (ha : (w.cell? ⟨ab, ao, none⟩).isSome = true) (hf : w.frozen? ⟨ab, ao, none⟩ = false) : Calls Try.prog 49 #[.pointer (some ⟨wp, 0, none⟩), .int .i64 who, .agg #[.int .i64 3, .int .i64 x], .pointer (some ⟨ab, ao, none⟩)] w fun e w' => ∃ n, w.heap.size ≤ n ∧ e = .returned (offerV n (n + 5) (n + 1) (n + 2) (n + 3)) ∧ OfferT w' n (n + 5) (n + 1) (n + 2) (n + 3) (L 2) ab ao none who x ∧ WrN w ab ao (.int .i64 x) w' := by
  obtain ⟨W, hW⟩ : ∃ W, W = (w.alloc (.cells #[.int .i64 3, .int .i64 x] 57)).alloc (.cells #[.nilFunc, .nilFunc] 143) := ⟨_, rfl⟩
  have hb : Below w.heap.size w W := by rw [hW]; (focus repeat' (first | (with_reducible exact Below.refl _ _) | (with_reducible assumption) | (with_reducible refine Below.alloc ?_ ?_ _) | (with_reducible refine Below.drew ?_) | (with_reducible refine bdrewN ?_ _) | (with_reducible refine Below.setCell ?_ ?_ _) | (first | (with_reducible exact Nat.le_refl _) | (with_reducible assumption) | omega | (simp; omega) | (simp; done))))
  have zW : Hid (W.heap.size = w.heap.size + 2) := by rw [hW]; exact hide (by simp)
  have b0 : W.cell? ⟨w.heap.size, 0, none⟩ = some (.int .i64 3) := by rw [hW]; simp [go_sem]
  have b1 : W.cell? ⟨w.heap.size, 1, none⟩ = some (.int .i64 x) := by rw [hW]; simp [go_sem]
  have k0 := hide (show W.cell? ⟨w.heap.size + 1, 0, none⟩ = some .nilFunc ∧ W.cell? ⟨w.heap.size + 1, 1, none⟩ = some .nilFunc ∧ (∀ o, W.frozen? ⟨w.heap.size + 1, o, none⟩ = false) by rw [hW]; exact ⟨by simp [go_sem], by simp [go_sem], fun o => by simp [go_sem]⟩)
  have l0 := World.block_lt_of_cell? W _ b0
  have lk := World.block_lt_of_cell? W _ k0.out.1
  simp only at l0 lk
  obtain ⟨w1, w2, w3, w4, w5, r1, r2, r3, r4, r5, hm, hb5⟩ := op_map wp W
  have zw5 := hb5.size
  have b05 := cell_stay b0 (hb5.block _ l0)
  have b15 := cell_stay b1 (hb5.block _ l0)
  have K5 := hide (And.intro (cell_stay k0.out.1 (hb5.block _ lk)) (And.intro (cell_stay k0.out.2.1 (hb5.block _ lk)) (show ∀ o, w5.frozen? ⟨w.heap.size + 1, o, none⟩ = false from fun o => fro_stay (k0.out.2.2 o) (hb5.block _ lk))))
  have B5 := hide (hb.trans (hb5.mono hb.size))
  have HL5 := hide (hL.stays (B5.out.block _ hL.lt))
  have HW := hide hW
  have LK : Sem.run Try.prog (Instr.lookup 172 (.map (some W.heap.size)) (.int .i64 3) true) w5 = .ok (.tuple #[.func (.func 81) #[.pointer (some ⟨wp, 0, none⟩)] #[], .bool true]) w5 := by
    rw [hm.look_ok law55 Try.underlying172 (zero148 w5) (keyOf_int_mk Try.underlying55 (by decide)), opF_3]; rfl
  have lk5 : w.heap.size + 1 < w5.heap.size := by omega
  obtain ⟨u, hu⟩ := Option.isSome_iff_exists.1 ha
  have la := World.block_lt_of_cell? w _ hu
  simp only at la
  have C := hide (offer_m wp ab ao L who x w5 HL5.out (by rw [cell_stay hu (B5.out.block _ la)]; rfl) (fro_stay hf (B5.out.block _ la)))
  clear ha hf hu
  clear hW hb hL b0 b1 k0 hb5
  have hmm := @run_makeMap Try.prog
  go_enter Try.func49, Try.ntmps49
  go_upto_region 1 with fail
  rw [← HW.out]
  go_wp2_with fail
  refine C.out.mono ?_
  rintro e w6 ⟨n, hn, rfl, ht, hw6⟩
  have k6 := hw6.heap _ lk5 (by omega)
  have HT := hide ht
  have HW6 := hide hw6
  clear ht hw6
  have q0 := cell_stay K5.out.1 k6
  have q1 := cell_stay K5.out.2.1 k6
  have g0 := fro_stay (K5.out.2.2 0) k6
  have g1 := fro_stay (K5.out.2.2 1) k6
  clear k6 r1 r2 r3 r4 r5 hm LK b05 b15
  unfold offerV
  go_wp2
  have hz := zW.out
  have s : ∀ b, b ≠ w.heap.size + 1 → ((w6.setCell ⟨w.heap.size + 1, 0, none⟩ (.func (.func 96) #[] #[.pointer (some ⟨n, 0, none⟩), .pointer (some ⟨n + 5, 0, none⟩), .pointer (some ⟨n + 2, 0, none⟩), .pointer (some ⟨n + 1, 0, none⟩)])).setCell ⟨w.heap.size + 1, 1, none⟩ (.func (.func 97) #[] #[.pointer (some ⟨n, 0, none⟩), .pointer (some ⟨n + 5, 0, none⟩), .pointer (some ⟨n + 1, 0, none⟩), .pointer (some ⟨n + 2, 0, none⟩), .pointer (some ⟨n + 3, 0, none⟩)])).heap[b]? = w6.heap[b]? := fun b hb => (heap_setCell_other _ _ _ _ hb).trans (heap_setCell_other _ _ _ _ hb)
  refine bodyPost_ret (v := offerV n (n + 5) (n + 1) (n + 2) (n + 3)) (by simp [results, Try.f49, go_sem, offerV, q0, q1]) rfl ⟨n, by omega, rfl, HT.out.stays (s _ (by omega)) (s _ (by omega)) (s _ (by omega)) (s _ (by omega)) (s _ (by omega)), ?_⟩
  have sa := s ab (by omega)
  have lt1 := HW6.out.size
  exact ⟨HW6.out.os.trans B5.out.os, HW6.out.tape.trans B5.out.tape, HW6.out.output.trans B5.out.output, by rw [World.size_setCell, World.size_setCell]; omega, fun k hk hn => (s k (by omega)).trans ((HW6.out.heap k (by omega) hn).trans (B5.out.block k hk)), cell_stay HW6.out.at_ sa, fun p hp => (World.cell?_of_block (a := ⟨ab, p, none⟩) sa).trans ((HW6.out.oth p hp).trans (World.cell?_of_block (a := ⟨ab, p, none⟩) (B5.out.block ab la))), fun p => (World.frozen?_of_block (a := ⟨ab, p, none⟩) sa).trans ((HW6.out.fro p).trans (World.frozen?_of_block (a := ⟨ab, p, none⟩) (B5.out.block ab la)))⟩
end Go.Proofs.Ytimabgakemgldaa
