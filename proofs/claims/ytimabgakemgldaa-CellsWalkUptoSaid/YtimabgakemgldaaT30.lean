import Derived.Test.YtimabgakemgldaaT29
import Derived.Laws.LoneSync
import Derived.WalkKit
import Derived.StillTailTactics
import Derived.Deep.RegionLaw
import Derived.Deep.RegionHeld3
import Derived.Laws.OwnMore
import Derived.Deep.Matrix
import Derived.BigQuiet
import Derived.Deep.QuietTactic
import Derived.Laws.EntriesVeiled
namespace Go.Proofs.Ytimabgakemgldaa
open Go.ChangeShapes Go.WideShapes Go.ChangeAt Go.RowKit Go.Deep
set_option linter.unusedSimpArgs false
set_option linter.unusedVariables false

set_option maxRecDepth 100000 in
set_option maxHeartbeats 2000000 in
theorem arrive_1 (b0 b3 wp ab ao : Nat) (L : Nat → Nat) (po : Option Addr) (A : Ab) (who x a : Int) (y : Bool) (w : World) (h : CObj w L po A) (hL : LW w wp L) (hT : ArrT w b0 b3 wp ab ao) (hA : AnsAt w ab ao a y) (h1 : 1 ≤ A.gt) (h0 : 0 ≤ A.ar) (h2 : A.ar ≤ 4611686018427387904)
    (nw : ∀ j, j < 9 → wp ≠ L j) (na : ∀ j, j < 9 → ab ≠ L j) (n0 : ∀ j, j < 9 → b0 ≠ L j) (n3 : ∀ j, j < 9 → b3 ≠ L j) (m : ab ≠ b3) (hp : ∀ k, po = some ⟨k, 0, none⟩ → k ≠ ab) :
    Calls Try.prog 106 #[.pointer (some ⟨b0, 0, none⟩), .pointer (some ⟨b3, 0, none⟩)] w fun e w' => (∃ v, e = .returned v) ∧ CObj w' L po (doS A who 4 x) ∧ StepR L ab ao w w' (doA A who 4 x).1 (doA A who 4 x).2 := by
  have t0 := hT.c0
  have t3 := hT.c3
  have c3 := hL.c3
  have g3 : wrap64 (A.ar + 1) = A.ar + 1 := IntWalk.wrap64_in _ (by omega)
  have QA := hide (show doA A who 4 x = (A.ar, decide (A.gt ≤ A.ar + 1)) by simp [doA, g3])
  have QS := hide (show doS A who 4 x = { A with ar := A.ar + 1 } by simp [doS, g3])
  have l3 := World.block_lt_of_cell? w _ t3
  have la := World.block_lt_of_cell? w _ hA.a
  simp only at l3 la
  have C := hide (h.gate.arrive h1 h0 h2)
  have ga := h.gate.a
  have H := hide h
  have HA := hide hA
  have N6 := hide (And.intro (n3 6 (by decide)) (na 6 (by decide)))
  have m1 := Ne.symm m
  have NA := hide na
  have HP := hide hp
  clear h hL hT hA g3 h1 h0 h2 nw na n0 n3 hp
  go_enter Try.func106, Try.ntmps106
  go_wp2_with fail
  refine C.out.mono ?_
  rintro e w1 ⟨rfl, kk, hw1⟩
  have hwr : WrN w (L 6) 1 (.int .i64 (A.ar + 1)) w1 := by rw [hw1]; exact (WrN.set ga).drew kk
  clear hw1
  have k1 := hwr.heap _ l3 N6.out.1
  have k2 := hwr.heap _ la N6.out.2
  have t3 := cell_stay t3 k1
  have a0 := cell_stay HA.out.a k2
  have a1 := cell_stay HA.out.y k2
  have f0 := fro_stay (HA.out.f ao) k2
  have f1 := fro_stay (HA.out.f (ao + 1)) k2
  have HC := hide (H.out.came _ hwr)
  have HWR := hide hwr
  clear hwr k1 k2 t0 c3 ga
  go_wp2_with fail
  go_region
  all_goals
    go_end0
    refine ⟨⟨_, rfl⟩, ?_⟩
    rw [QA.out, QS.out]
    have a1' := (cell_ne (w := w1) (b := ab) (o := ao) (p := ao + 1) (u := .int .i64 A.ar) (by omega)).trans a1
    exact StepR.of HC.out (HWR.out.tch.imp (fun k _ e => .inr (.inr (.inr (.inl e))))) la NA.out HP.out (WrN.set a0) ((WrN.set a1').drew 1)

set_option maxRecDepth 100000 in
set_option maxHeartbeats 1000000 in
theorem raise_m (wp ab ao : Nat) (L : Nat → Nat) (who x : Int) (w : World) (hL : LW w wp L) : Calls Try.prog 80 #[.pointer (some ⟨wp, 0, none⟩), .int .i64 who, .int .i64 x, .pointer (some ⟨ab, ao, none⟩)] w fun e w' => ∃ n, w.heap.size ≤ n ∧ e = .returned (raiseV n (n + 2) (n + 1)) ∧ RaiseT w' n (n + 2) (n + 1) (L 0) ab ao x ∧ Below w.heap.size w w' := by
  obtain ⟨W, hW⟩ : ∃ W, W = w.alloc (.cells #[.nilFunc, .nilFunc] 143) := ⟨_, rfl⟩
  have hb : Below w.heap.size w W := by rw [hW]; (focus repeat' (first | (with_reducible exact Below.refl _ _) | (with_reducible assumption) | (with_reducible refine Below.alloc ?_ ?_ _) | (with_reducible refine Below.drew ?_) | (with_reducible refine bdrewN ?_ _) | (with_reducible refine Below.setCell ?_ ?_ _) | (first | (with_reducible exact Nat.le_refl _) | (with_reducible assumption) | omega | (simp; omega) | (simp; done))))
  have zW : Hid (W.heap.size = w.heap.size + 1) := by rw [hW]; exact hide (by simp)
  have HL := hide (hL.stays (hb.block _ hL.lt))
  have lw := hL.lt
  have k0 := hide (show W.cell? ⟨w.heap.size, 0, none⟩ = some .nilFunc ∧ W.cell? ⟨w.heap.size, 1, none⟩ = some .nilFunc ∧ (∀ o, W.frozen? ⟨w.heap.size, o, none⟩ = false) by rw [hW]; exact ⟨by simp [go_sem], by simp [go_sem], fun o => by simp [go_sem]⟩)
  have cc := HL.out.c1
  have lk := World.block_lt_of_cell? W _ k0.out.1
  simp only at lk
  have HW := hide hW
  have HB := hide hb
  clear hW hb hL
  go_enter Try.func80, Try.ntmps80
  go_upto_region 1 with fail
  rw [← HW.out]
  go_wp2_with fail
  refine (raise_c (L 0) ab ao x W).mono ?_
  rintro e w1 ⟨rfl, ht, hb1⟩
  have q0 := cell_stay k0.out.1 (hb1.block _ lk)
  have q1 := cell_stay k0.out.2.1 (hb1.block _ lk)
  have g0 := fro_stay (k0.out.2.2 0) (hb1.block _ lk)
  have g1 := fro_stay (k0.out.2.2 1) (hb1.block _ lk)
  have HT := hide ht
  have HB1 := hide hb1
  clear ht hb1
  unfold raiseV
  go_wp2
  have hz := zW.out
  have s : ∀ b, b ≠ w.heap.size → ((w1.setCell ⟨w.heap.size, 0, none⟩ (.func (.func 91) #[] #[.pointer (some ⟨W.heap.size, 0, none⟩), .pointer (some ⟨W.heap.size + 2, 0, none⟩), .pointer (some ⟨W.heap.size + 1, 0, none⟩)])).setCell ⟨w.heap.size, 1, none⟩ (.func (.func 92) #[] #[.pointer (some ⟨W.heap.size, 0, none⟩), .pointer (some ⟨W.heap.size + 2, 0, none⟩), .pointer (some ⟨W.heap.size + 1, 0, none⟩)])).heap[b]? = w1.heap[b]? := fun b hb => (heap_setCell_other _ _ _ _ hb).trans (heap_setCell_other _ _ _ _ hb)
  refine bodyPost_ret (v := raiseV W.heap.size (W.heap.size + 2) (W.heap.size + 1)) (by simp [results, Try.f80, go_sem, raiseV, q0, q1]) rfl ⟨W.heap.size, by omega, rfl, HT.out.stays (s _ (by omega)) (s _ (by omega)) (s _ (by omega)), ?_⟩
  exact ((HB.out.trans (HB1.out.mono (by omega))).setCell (p := ⟨w.heap.size, 0, none⟩) (Nat.le_refl _) _).setCell (p := ⟨w.heap.size, 1, none⟩) (Nat.le_refl _) _

set_option maxRecDepth 100000 in
set_option maxHeartbeats 1000000 in
theorem take_m (wp ab ao : Nat) (L : Nat → Nat) (who x : Int) (w : World) (hL : LW w wp L) : Calls Try.prog 83 #[.pointer (some ⟨wp, 0, none⟩), .int .i64 who, .int .i64 x, .pointer (some ⟨ab, ao, none⟩)] w fun e w' => ∃ n, w.heap.size ≤ n ∧ e = .returned (takeV n (n + 3) (n + 1)) ∧ TakeT w' n (n + 3) (n + 1) (L 7) ab ao 0 ∧ Below w.heap.size w w' := by
  obtain ⟨W, hW⟩ : ∃ W, W = w.alloc (.cells #[.nilFunc, .nilFunc] 143) := ⟨_, rfl⟩
  have hb : Below w.heap.size w W := by rw [hW]; (focus repeat' (first | (with_reducible exact Below.refl _ _) | (with_reducible assumption) | (with_reducible refine Below.alloc ?_ ?_ _) | (with_reducible refine Below.drew ?_) | (with_reducible refine bdrewN ?_ _) | (with_reducible refine Below.setCell ?_ ?_ _) | (first | (with_reducible exact Nat.le_refl _) | (with_reducible assumption) | omega | (simp; omega) | (simp; done))))
  have zW : Hid (W.heap.size = w.heap.size + 1) := by rw [hW]; exact hide (by simp)
  have HL := hide (hL.stays (hb.block _ hL.lt))
  have lw := hL.lt
  have k0 := hide (show W.cell? ⟨w.heap.size, 0, none⟩ = some .nilFunc ∧ W.cell? ⟨w.heap.size, 1, none⟩ = some .nilFunc ∧ (∀ o, W.frozen? ⟨w.heap.size, o, none⟩ = false) by rw [hW]; exact ⟨by simp [go_sem], by simp [go_sem], fun o => by simp [go_sem]⟩)
  have cc := HL.out.c4
  have lk := World.block_lt_of_cell? W _ k0.out.1
  simp only at lk
  have HW := hide hW
  have HB := hide hb
  clear hW hb hL
  go_enter Try.func83, Try.ntmps83
  go_upto_region 1 with fail
  rw [← HW.out]
  go_wp2_with fail
  refine (take_c (L 7) ab ao W).mono ?_
  rintro e w1 ⟨rfl, ht, hb1⟩
  have q0 := cell_stay k0.out.1 (hb1.block _ lk)
  have q1 := cell_stay k0.out.2.1 (hb1.block _ lk)
  have g0 := fro_stay (k0.out.2.2 0) (hb1.block _ lk)
  have g1 := fro_stay (k0.out.2.2 1) (hb1.block _ lk)
  have HT := hide ht
  have HB1 := hide hb1
  clear ht hb1
  unfold takeV
  go_wp2
  have hz := zW.out
  have s : ∀ b, b ≠ w.heap.size → ((w1.setCell ⟨w.heap.size, 0, none⟩ (.func (.func 94) #[] #[.pointer (some ⟨W.heap.size, 0, none⟩), .pointer (some ⟨W.heap.size + 3, 0, none⟩)])).setCell ⟨w.heap.size, 1, none⟩ (.func (.func 95) #[] #[.pointer (some ⟨W.heap.size, 0, none⟩), .pointer (some ⟨W.heap.size + 3, 0, none⟩), .pointer (some ⟨W.heap.size + 1, 0, none⟩)])).heap[b]? = w1.heap[b]? := fun b hb => (heap_setCell_other _ _ _ _ hb).trans (heap_setCell_other _ _ _ _ hb)
  refine bodyPost_ret (v := takeV W.heap.size (W.heap.size + 3) (W.heap.size + 1)) (by simp [results, Try.f83, go_sem, takeV, q0, q1]) rfl ⟨W.heap.size, by omega, rfl, HT.out.stays (s _ (by omega)) (s _ (by omega)) (s _ (by omega)), ?_⟩
  exact ((HB.out.trans (HB1.out.mono (by omega))).setCell (p := ⟨w.heap.size, 0, none⟩) (Nat.le_refl _) _).setCell (p := ⟨w.heap.size, 1, none⟩) (Nat.le_refl _) _

set_option maxRecDepth 100000 in
set_option maxHeartbeats 1000000 in
theorem offer_m (wp ab ao : Nat) (L : Nat → Nat) (who x : Int) (w : World) (hL : LW w wp L) (ha : (w.cell? ⟨ab, ao, none⟩).isSome = true) (hf : w.frozen? ⟨ab, ao, none⟩ = false) : Calls Try.prog 81 #[.pointer (some ⟨wp, 0, none⟩), .int .i64 who, .int .i64 x, .pointer (some ⟨ab, ao, none⟩)] w fun e w' => ∃ n, w.heap.size ≤ n ∧ e = .returned (offerV n (n + 5) (n + 1) (n + 2) (n + 3)) ∧ OfferT w' n (n + 5) (n + 1) (n + 2) (n + 3) (L 2) ab ao none who x ∧ WrN w ab ao (.int .i64 x) w' := by
  obtain ⟨W, hW⟩ : ∃ W, W = w.alloc (.cells #[.nilFunc, .nilFunc] 143) := ⟨_, rfl⟩
  have hb : Below w.heap.size w W := by rw [hW]; (focus repeat' (first | (with_reducible exact Below.refl _ _) | (with_reducible assumption) | (with_reducible refine Below.alloc ?_ ?_ _) | (with_reducible refine Below.drew ?_) | (with_reducible refine bdrewN ?_ _) | (with_reducible refine Below.setCell ?_ ?_ _) | (first | (with_reducible exact Nat.le_refl _) | (with_reducible assumption) | omega | (simp; omega) | (simp; done))))
  have zW : Hid (W.heap.size = w.heap.size + 1) := by rw [hW]; exact hide (by simp)
  have HL := hide (hL.stays (hb.block _ hL.lt))
  have lw := hL.lt
  have k0 := hide (show W.cell? ⟨w.heap.size, 0, none⟩ = some .nilFunc ∧ W.cell? ⟨w.heap.size, 1, none⟩ = some .nilFunc ∧ (∀ o, W.frozen? ⟨w.heap.size, o, none⟩ = false) by rw [hW]; exact ⟨by simp [go_sem], by simp [go_sem], fun o => by simp [go_sem]⟩)
  have cc := HL.out.c2
  have lk := World.block_lt_of_cell? W _ k0.out.1
  simp only at lk
  have HW := hide hW
  have HB := hide hb
  obtain ⟨u, hu⟩ := Option.isSome_iff_exists.1 ha
  have la := World.block_lt_of_cell? w _ hu
  simp only at la
  have C := hide (offer_c (L 2) ab ao who x W (by rw [cell_stay hu (hb.block _ la)]; rfl) (fro_stay hf (hb.block _ la)))
  clear ha hf hu
  clear hW hb hL
  go_enter Try.func81, Try.ntmps81
  go_upto_region 1 with fail
  rw [← HW.out]
  go_wp2_with fail
  refine C.out.mono ?_
  rintro e w1 ⟨rfl, ht, hw1⟩
  have hk : w1.heap[w.heap.size]? = W.heap[w.heap.size]? := hw1.heap _ lk (by omega)
  have q0 := cell_stay k0.out.1 hk
  have q1 := cell_stay k0.out.2.1 hk
  have g0 := fro_stay (k0.out.2.2 0) hk
  have g1 := fro_stay (k0.out.2.2 1) hk
  have HT := hide ht
  have HW1 := hide hw1
  clear ht hw1 hk
  unfold offerV
  go_wp2
  have hz := zW.out
  have s : ∀ b, b ≠ w.heap.size → ((w1.setCell ⟨w.heap.size, 0, none⟩ (.func (.func 96) #[] #[.pointer (some ⟨W.heap.size, 0, none⟩), .pointer (some ⟨W.heap.size + 5, 0, none⟩), .pointer (some ⟨W.heap.size + 2, 0, none⟩), .pointer (some ⟨W.heap.size + 1, 0, none⟩)])).setCell ⟨w.heap.size, 1, none⟩ (.func (.func 97) #[] #[.pointer (some ⟨W.heap.size, 0, none⟩), .pointer (some ⟨W.heap.size + 5, 0, none⟩), .pointer (some ⟨W.heap.size + 1, 0, none⟩), .pointer (some ⟨W.heap.size + 2, 0, none⟩), .pointer (some ⟨W.heap.size + 3, 0, none⟩)])).heap[b]? = w1.heap[b]? := fun b hb => (heap_setCell_other _ _ _ _ hb).trans (heap_setCell_other _ _ _ _ hb)
  have lt1 := HW1.out.size
  refine bodyPost_ret (v := offerV W.heap.size (W.heap.size + 5) (W.heap.size + 1) (W.heap.size + 2) (W.heap.size + 3)) (by simp [results, Try.f81, go_sem, offerV, q0, q1]) rfl ⟨W.heap.size, by omega, rfl, HT.out.stays (s _ (by omega)) (s _ (by omega)) (s _ (by omega)) (s _ (by omega)) (s _ (by omega)), ?_⟩
  have sa := s ab (by omega)
  exact ⟨HW1.out.os.trans HB.out.os, HW1.out.tape.trans HB.out.tape, HW1.out.output.trans HB.out.output, by rw [World.size_setCell, World.size_setCell]; omega, fun k hk hn => (s k (by omega)).trans ((HW1.out.heap k (by omega) hn).trans (HB.out.block k hk)), cell_stay HW1.out.at_ sa, fun p hp => (World.cell?_of_block (a := ⟨ab, p, none⟩) sa).trans ((HW1.out.oth p hp).trans (World.cell?_of_block (a := ⟨ab, p, none⟩) (HB.out.block ab la))), fun p => (World.frozen?_of_block (a := ⟨ab, p, none⟩) sa).trans ((HW1.out.fro p).trans (World.frozen?_of_block (a := ⟨ab, p, none⟩) (HB.out.block ab la)))⟩
end Go.Proofs.Ytimabgakemgldaa
