import Derived.Test.YtimabgakemgldaaT31
import Derived.Laws.LoneSync
import Derived.WalkKit
import Derived.StillTailTactics
import Derived.Deep.RegionLaw
import Derived.Deep.RegionHeld3
import Derived.Laws.OwnMore
import Derived.Deep.Matrix
import Derived.BigQuiet
import Derived.Deep.QuietTactic
import Derived.Laws.EntriesVeiled
namespace Go.Proofs.Ytimabgakemgldaa
open Go.Maps Go.ChangeMaps Go.WideElems Go.WideMaps Go.ChangeShapes Go.WideShapes Go.ChangeAt Go.RowKit Go.Deep
set_option linter.unusedSimpArgs false
set_option linter.unusedVariables false
theorem zero148 (w : World) : (zeroValue 148).run Try.prog w = .ok .nilFunc w := by kernel_rfl
theorem opF_1 (wp : Nat) : opF wp (.int .i64 1) = some (.func (.func 79) #[.pointer (some ⟨wp, 0, none⟩)] #[]) := by unfold opF; rw [setAt_other _ _ (lit_ne (by decide))]; rw [setAt_other _ _ (lit_ne (by decide))]; rw [setAt_other _ _ (lit_ne (by decide))]; rw [setAt_other _ _ (lit_ne (by decide))]; exact setAt_same _ _ _
theorem opF_2 (wp : Nat) : opF wp (.int .i64 2) = some (.func (.func 80) #[.pointer (some ⟨wp, 0, none⟩)] #[]) := by unfold opF; rw [setAt_other _ _ (lit_ne (by decide))]; rw [setAt_other _ _ (lit_ne (by decide))]; rw [setAt_other _ _ (lit_ne (by decide))]; exact setAt_same _ _ _
theorem opF_3 (wp : Nat) : opF wp (.int .i64 3) = some (.func (.func 81) #[.pointer (some ⟨wp, 0, none⟩)] #[]) := by unfold opF; rw [setAt_other _ _ (lit_ne (by decide))]; rw [setAt_other _ _ (lit_ne (by decide))]; exact setAt_same _ _ _
theorem opF_4 (wp : Nat) : opF wp (.int .i64 4) = some (.func (.func 82) #[.pointer (some ⟨wp, 0, none⟩)] #[]) := by unfold opF; rw [setAt_other _ _ (lit_ne (by decide))]; exact setAt_same _ _ _
theorem opF_5 (wp : Nat) : opF wp (.int .i64 5) = some (.func (.func 83) #[.pointer (some ⟨wp, 0, none⟩)] #[]) := by unfold opF; exact setAt_same _ _ _

set_option maxRecDepth 100000 in
set_option maxHeartbeats 2000000 in
theorem op_2 (wp ab ao : Nat) (L : Nat → Nat) (who x : Int) (w : World) (hL : LW w wp L) : Calls Try.prog 49 #[.pointer (some ⟨wp, 0, none⟩), .int .i64 who, .agg #[.int .i64 2, .int .i64 x], .pointer (some ⟨ab, ao, none⟩)] w fun e w' => ∃ n, w.heap.size ≤ n ∧ e = .returned (raiseV n (n + 2) (n + 1)) ∧ RaiseT w' n (n + 2) (n + 1) (L 0) ab ao x ∧ Below w.heap.size w w' := by
  obtain ⟨W, hW⟩ : ∃ W, W = (w.alloc (.cells #[.int .i64 2, .int .i64 x] 57)).alloc (.cells #[.nilFunc, .nilFunc] 143) := ⟨_, rfl⟩
  have hb : Below w.heap.size w W := by rw [hW]; (focus repeat' (first | (with_reducible exact Below.refl _ _) | (with_reducible assumption) | (with_reducible refine Below.alloc ?_ ?_ _) | (with_reducible refine Below.drew ?_) | (with_reducible refine bdrewN ?_ _) | (with_reducible refine Below.setCell ?_ ?_ _) | (first | (with_reducible exact Nat.le_refl _) | (with_reducible assumption) | omega | (simp; omega) | (simp; done))))
  have zW : Hid (W.heap.size = w.heap.size + 2) := by rw [hW]; exact hide (by simp)
  have b0 : W.cell? ⟨w.heap.size, 0, none⟩ = some (.int .i64 2) := by rw [hW]; simp [go_sem]
  have b1 : W.cell? ⟨w.heap.size, 1, none⟩ = some (.int .i64 x) := by rw [hW]; simp [go_sem]
  have k0 := hide (show W.cell? ⟨w.heap.size + 1, 0, none⟩ = some .nilFunc ∧ W.cell? ⟨w.heap.size + 1, 1, none⟩ = some .nilFunc ∧ (∀ o, W.frozen? ⟨w.heap.size + 1, o, none⟩ = false) by rw [hW]; exact ⟨by simp [go_sem], by simp [go_sem], fun o => by simp [go_sem]⟩)
  have l0 := World.block_lt_of_cell? W _ b0
  have lk := World.block_lt_of_cell? W _ k0.out.1
  simp only at l0 lk
  obtain ⟨w1, w2, w3, w4, w5, r1, r2, r3, r4, r5, hm, hb5⟩ := op_map wp W
  have zw5 := hb5.size
  have b05 := cell_stay b0 (hb5.block _ l0)
  have b15 := cell_stay b1 (hb5.block _ l0)
  have K5 := hide (And.intro (cell_stay k0.out.1 (hb5.block _ lk)) (And.intro (cell_stay k0.out.2.1 (hb5.block _ lk)) (show ∀ o, w5.frozen? ⟨w.heap.size + 1, o, none⟩ = false from fun o => fro_stay (k0.out.2.2 o) (hb5.block _ lk))))
  have B5 := hide (hb.trans (hb5.mono hb.size))
  have HL5 := hide (hL.stays (B5.out.block _ hL.lt))
  have HW := hide hW
  have LK : Sem.run Try.prog (Instr.lookup 172 (.map (some W.heap.size)) (.int .i64 2) true) w5 = .ok (.tuple #[.func (.func 80) #[.pointer (some ⟨wp, 0, none⟩)] #[], .bool true]) w5 := by
    rw [hm.look_ok law55 Try.underlying172 (zero148 w5) (keyOf_int_mk Try.underlying55 (by decide)), opF_2]; rfl
  have lk5 : w.heap.size + 1 < w5.heap.size := by omega
  clear hW hb hL b0 b1 k0 hb5
  have hmm := @run_makeMap Try.prog
  go_enter Try.func49, Try.ntmps49
  go_upto_region 1 with fail
  rw [← HW.out]
  go_wp2_with fail
  refine (raise_m wp ab ao L who x w5 HL5.out).mono ?_
  rintro e w6 ⟨n, hn, rfl, ht, hb6⟩
  have k6 := hb6.block _ lk5
  have HT := hide ht
  have HB6 := hide hb6
  clear ht hb6
  have q0 := cell_stay K5.out.1 k6
  have q1 := cell_stay K5.out.2.1 k6
  have g0 := fro_stay (K5.out.2.2 0) k6
  have g1 := fro_stay (K5.out.2.2 1) k6
  clear k6 r1 r2 r3 r4 r5 hm LK b05 b15
  unfold raiseV
  go_wp2
  have hz := zW.out
  have s : ∀ b, b ≠ w.heap.size + 1 → ((w6.setCell ⟨w.heap.size + 1, 0, none⟩ (.func (.func 91) #[] #[.pointer (some ⟨n, 0, none⟩), .pointer (some ⟨n + 2, 0, none⟩), .pointer (some ⟨n + 1, 0, none⟩)])).setCell ⟨w.heap.size + 1, 1, none⟩ (.func (.func 92) #[] #[.pointer (some ⟨n, 0, none⟩), .pointer (some ⟨n + 2, 0, none⟩), .pointer (some ⟨n + 1, 0, none⟩)])).heap[b]? = w6.heap[b]? := fun b hb => (heap_setCell_other _ _ _ _ hb).trans (heap_setCell_other _ _ _ _ hb)
  refine bodyPost_ret (v := raiseV n (n + 2) (n + 1)) (by simp [results, Try.f49, go_sem, raiseV, q0, q1]) rfl ⟨n, by omega, rfl, HT.out.stays (s _ (by omega)) (s _ (by omega)) (s _ (by omega)), ?_⟩
  exact ((B5.out.trans (HB6.out.mono (by omega))).setCell (p := ⟨w.heap.size + 1, 0, none⟩) (by simp) _).setCell (p := ⟨w.heap.size + 1, 1, none⟩) (by simp) _

set_option maxRecDepth 100000 in
set_option maxHeartbeats 2000000 in
theorem op_5 (wp ab ao : Nat) (L : Nat → Nat) (who x : Int) (w : World) (hL : LW w wp L) : Calls Try.prog 49 #[.pointer (some ⟨wp, 0, none⟩), .int .i64 who, .agg #[.int .i64 5, .int .i64 x], .pointer (some ⟨ab, ao, none⟩)] w fun e w' => ∃ n, w.heap.size ≤ n ∧ e = .returned (takeV n (n + 3) (n + 1)) ∧ TakeT w' n (n + 3) (n + 1) (L 7) ab ao 0 ∧ Below w.heap.size w w' := by
  obtain ⟨W, hW⟩ : ∃ W, W = (w.alloc (.cells #[.int .i64 5, .int .i64 x] 57)).alloc (.cells #[.nilFunc, .nilFunc] 143) := ⟨_, rfl⟩
  have hb : Below w.heap.size w W := by rw [hW]; (focus repeat' (first | (with_reducible exact Below.refl _ _) | (with_reducible assumption) | (with_reducible refine Below.alloc ?_ ?_ _) | (with_reducible refine Below.drew ?_) | (with_reducible refine bdrewN ?_ _) | (with_reducible refine Below.setCell ?_ ?_ _) | (first | (with_reducible exact Nat.le_refl _) | (with_reducible assumption) | omega | (simp; omega) | (simp; done))))
  have zW : Hid (W.heap.size = w.heap.size + 2) := by rw [hW]; exact hide (by simp)
  have b0 : W.cell? ⟨w.heap.size, 0, none⟩ = some (.int .i64 5) := by rw [hW]; simp [go_sem]
  have b1 : W.cell? ⟨w.heap.size, 1, none⟩ = some (.int .i64 x) := by rw [hW]; simp [go_sem]
  have k0 := hide (show W.cell? ⟨w.heap.size + 1, 0, none⟩ = some .nilFunc ∧ W.cell? ⟨w.heap.size + 1, 1, none⟩ = some .nilFunc ∧ (∀ o, W.frozen? ⟨w.heap.size + 1, o, none⟩ = false) by rw [hW]; exact ⟨by simp [go_sem], by simp [go_sem], fun o => by simp [go_sem]⟩)
  have l0 := World.block_lt_of_cell? W _ b0
  have lk := World.block_lt_of_cell? W _ k0.out.1
  simp only at l0 lk
  obtain ⟨w1, w2, w3, w4, w5, r1, r2, r3, r4, r5, hm, hb5⟩ := op_map wp W
  have zw5 := hb5.size
  have b05 := cell_stay b0 (hb5.block _ l0)
  have b15 := cell_stay b1 (hb5.block _ l0)
  have K5 := hide (And.intro (cell_stay k0.out.1 (hb5.block _ lk)) (And.intro (cell_stay k0.out.2.1 (hb5.block _ lk)) (show ∀ o, w5.frozen? ⟨w.heap.size + 1, o, none⟩ = false from fun o => fro_stay (k0.out.2.2 o) (hb5.block _ lk))))
  have B5 := hide (hb.trans (hb5.mono hb.size))
  have HL5 := hide (hL.stays (B5.out.block _ hL.lt))
  have HW := hide hW
  have LK : Sem.run Try.prog (Instr.lookup 172 (.map (some W.heap.size)) (.int .i64 5) true) w5 = .ok (.tuple #[.func (.func 83) #[.pointer (some ⟨wp, 0, none⟩)] #[], .bool true]) w5 := by
    rw [hm.look_ok law55 Try.underlying172 (zero148 w5) (keyOf_int_mk Try.underlying55 (by decide)), opF_5]; rfl
  have lk5 : w.heap.size + 1 < w5.heap.size := by omega
  clear hW hb hL b0 b1 k0 hb5
  have hmm := @run_makeMap Try.prog
  go_enter Try.func49, Try.ntmps49
  go_upto_region 1 with fail
  rw [← HW.out]
  go_wp2_with fail
  refine (take_m wp ab ao L who x w5 HL5.out).mono ?_
  rintro e w6 ⟨n, hn, rfl, ht, hb6⟩
  have k6 := hb6.block _ lk5
  have HT := hide ht
  have HB6 := hide hb6
  clear ht hb6
  have q0 := cell_stay K5.out.1 k6
  have q1 := cell_stay K5.out.2.1 k6
  have g0 := fro_stay (K5.out.2.2 0) k6
  have g1 := fro_stay (K5.out.2.2 1) k6
  clear k6 r1 r2 r3 r4 r5 hm LK b05 b15
  unfold takeV
  go_wp2
  have hz := zW.out
  have s : ∀ b, b ≠ w.heap.size + 1 → ((w6.setCell ⟨w.heap.size + 1, 0, none⟩ (.func (.func 94) #[] #[.pointer (some ⟨n, 0, none⟩), .pointer (some ⟨n + 3, 0, none⟩)])).setCell ⟨w.heap.size + 1, 1, none⟩ (.func (.func 95) #[] #[.pointer (some ⟨n, 0, none⟩), .pointer (some ⟨n + 3, 0, none⟩), .pointer (some ⟨n + 1, 0, none⟩)])).heap[b]? = w6.heap[b]? := fun b hb => (heap_setCell_other _ _ _ _ hb).trans (heap_setCell_other _ _ _ _ hb)
  refine bodyPost_ret (v := takeV n (n + 3) (n + 1)) (by simp [results, Try.f49, go_sem, takeV, q0, q1]) rfl ⟨n, by omega, rfl, HT.out.stays (s _ (by omega)) (s _ (by omega)) (s _ (by omega)), ?_⟩
  exact ((B5.out.trans (HB6.out.mono (by omega))).setCell (p := ⟨w.heap.size + 1, 0, none⟩) (by simp) _).setCell (p := ⟨w.heap.size + 1, 1, none⟩) (by simp) _
end Go.Proofs.Ytimabgakemgldaa
