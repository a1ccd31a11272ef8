import Derived.Test.YtimabgakemgldaaT27
import Derived.Laws.LoneSync
import Derived.WalkKit
import Derived.StillTailTactics
import Derived.Deep.RegionLaw
import Derived.Deep.RegionHeld3
import Derived.Laws.OwnMore
import Derived.Deep.Matrix
import Derived.BigQuiet
import Derived.Conc.MuLone
import Derived.Deep.QuietTactic
import Derived.Laws.EntriesVeiled
namespace Go.Proofs.Ytimabgakemgldaa
open Go.ChangeShapes Go.WideShapes Go.ChangeAt Go.RowKit Go.Deep
set_option linter.unusedSimpArgs false
set_option linter.unusedVariables false
theorem ent85 (cs : Array Value) (w : World) : (callFunc 85 cs).run Try.prog w = .ok (.enter 85 cs) w := Go.MuLone.run_callFunc_enter Try.func85 (by kernel_rfl) rfl cs w
theorem ent105 (cs : Array Value) (w : World) : (callFunc 105 cs).run Try.prog w = .ok (.enter 105 cs) w := Go.MuLone.run_callFunc_enter Try.func105 (by kernel_rfl) rfl cs w
theorem ent106 (cs : Array Value) (w : World) : (callFunc 106 cs).run Try.prog w = .ok (.enter 106 cs) w := Go.MuLone.run_callFunc_enter Try.func106 (by kernel_rfl) rfl cs w
theorem ent107 (cs : Array Value) (w : World) : (callFunc 107 cs).run Try.prog w = .ok (.enter 107 cs) w := Go.MuLone.run_callFunc_enter Try.func107 (by kernel_rfl) rfl cs w

theorem one_c (f : Nat) (cs : Array Value) (w : World) : Calls Try.prog 84 #[.func (.func f) #[] cs] w fun e w' => e = .returned (.agg #[.func (.func 107) #[] #[.pointer (some ⟨w.heap.size, 0, none⟩)], .nilFunc]) ∧ w'.cell? ⟨w.heap.size, 0, none⟩ = some (.func (.func f) #[] cs) ∧ Below w.heap.size w w' := by
  go_enter Try.func84, Try.ntmps84
  go_wp2
  refine bodyPost_ret (v := .agg #[.func (.func 107) #[] #[.pointer (some ⟨w.heap.size, 0, none⟩)], .nilFunc]) (by simp [results, Try.f84, go_sem]) rfl ⟨rfl, by simp [go_sem], by (focus repeat' (first | (with_reducible exact Below.refl _ _) | (with_reducible assumption) | (with_reducible refine Below.alloc ?_ ?_ _) | (with_reducible refine Below.drew ?_) | (with_reducible refine bdrewN ?_ _) | (with_reducible refine Below.setCell ?_ ?_ _) | (first | (with_reducible exact Nat.le_refl _) | (with_reducible assumption) | omega | (simp; omega) | (simp; done))))⟩
theorem one_1 (f b : Nat) (cs : Array Value) (w : World) (Q : World → Prop) (hb : w.cell? ⟨b, 0, none⟩ = some (.func (.func f) #[] cs)) (ef : ∀ w, (callFunc f cs).run Try.prog w = .ok (.enter f cs) w) (hl : Calls Try.prog f cs w fun e w' => (∃ v, e = .returned v) ∧ Q w') :
    Calls Try.prog 107 #[.pointer (some ⟨b, 0, none⟩)] w fun e w' => e = .returned (.bool true) ∧ Q w' := by
  have HL := hide hl
  clear hl
  go_enter Try.func107, Try.ntmps107
  go_wp2_with fail
  refine HL.out.mono ?_
  rintro e w1 ⟨⟨v, rfl⟩, hq⟩
  have HQ := hide hq
  clear hq
  go_wp2
  go_ret
  exact ⟨rfl, HQ.out⟩
theorem nop_c (w : World) : Calls Try.prog 85 #[] w fun e w' => (∃ v, e = .returned v) ∧ w' = w := by
  go_enter Try.func85, Try.ntmps85
  go_wp2
  go_end0
  exact ⟨⟨_, rfl⟩, rfl⟩
/-- an adding's boxes -/
structure AddT (w : World) (b0 b1 b2 b3 wp ab ao : Nat) (who x : Int) : Prop where
  c0 : w.cell? ⟨b0, 0, none⟩ = some (.pointer (some ⟨wp, 0, none⟩))
  c1 : w.cell? ⟨b1, 0, none⟩ = some (.int .i64 who)
  c2 : w.cell? ⟨b2, 0, none⟩ = some (.int .i64 x)
  c3 : w.cell? ⟨b3, 0, none⟩ = some (.pointer (some ⟨ab, ao, none⟩))
theorem AddT.stays {w w' : World} {b0 b1 b2 b3 wp ab ao : Nat} {who x : Int} (h : AddT w b0 b1 b2 b3 wp ab ao who x) (h0 : w'.heap[b0]? = w.heap[b0]?) (h1 : w'.heap[b1]? = w.heap[b1]?) (h2 : w'.heap[b2]? = w.heap[b2]?) (h3 : w'.heap[b3]? = w.heap[b3]?) : AddT w' b0 b1 b2 b3 wp ab ao who x := ⟨cell_stay h.c0 h0, cell_stay h.c1 h1, cell_stay h.c2 h2, cell_stay h.c3 h3⟩
def oneV (b : Nat) : Value := .agg #[.func (.func 107) #[] #[.pointer (some ⟨b, 0, none⟩)], .nilFunc]
def addF (n : Nat) : Value := .func (.func 105) #[] #[.pointer (some ⟨n, 0, none⟩), .pointer (some ⟨(n + 1), 0, none⟩), .pointer (some ⟨(n + 1 + 1), 0, none⟩), .pointer (some ⟨(n + 1 + 1 + 1), 0, none⟩)]
set_option maxRecDepth 100000 in
set_option maxHeartbeats 1000000 in
theorem add_c (wp ab ao : Nat) (who x : Int) (w : World) : Calls Try.prog 79 #[.pointer (some ⟨wp, 0, none⟩), .int .i64 who, .int .i64 x, .pointer (some ⟨ab, ao, none⟩)] w fun e w' => e = .returned (oneV (w.heap.size + 5)) ∧ w'.cell? ⟨w.heap.size + 5, 0, none⟩ = some (addF w.heap.size) ∧ AddT w' w.heap.size (w.heap.size + 1) (w.heap.size + 1 + 1) (w.heap.size + 1 + 1 + 1) wp ab ao who x ∧ Below w.heap.size w w' := by
  obtain ⟨W, hW⟩ : ∃ W, W = ((((w.alloc (.cells #[.pointer (some ⟨wp, 0, none⟩)] 120)).alloc (.cells #[.int .i64 who] 3)).alloc (.cells #[.int .i64 x] 2)).alloc (.cells #[.pointer (some ⟨ab, ao, none⟩)] 145)).alloc (.cells #[.nilFunc, .nilFunc] 143) := ⟨_, rfl⟩
  have hb : Below w.heap.size w W := by rw [hW]; (focus repeat' (first | (with_reducible exact Below.refl _ _) | (with_reducible assumption) | (with_reducible refine Below.alloc ?_ ?_ _) | (with_reducible refine Below.drew ?_) | (with_reducible refine bdrewN ?_ _) | (with_reducible refine Below.setCell ?_ ?_ _) | (first | (with_reducible exact Nat.le_refl _) | (with_reducible assumption) | omega | (simp; omega) | (simp; done))))
  have zW : Hid (W.heap.size = w.heap.size + 5) := by rw [hW]; exact hide (by simp)
  have hA : AddT W w.heap.size (w.heap.size + 1) (w.heap.size + 1 + 1) (w.heap.size + 1 + 1 + 1) wp ab ao who x := by rw [hW]; exact ⟨by simp [go_sem], by simp [go_sem], by simp [go_sem], by simp [go_sem]⟩
  have k0 := hide (show W.cell? ⟨w.heap.size + 1 + 1 + 1 + 1, 0, none⟩ = some .nilFunc ∧ W.cell? ⟨w.heap.size + 1 + 1 + 1 + 1, 1, none⟩ = some .nilFunc ∧ (∀ o, W.frozen? ⟨w.heap.size + 1 + 1 + 1 + 1, o, none⟩ = false) by rw [hW]; exact ⟨by simp [go_sem], by simp [go_sem], fun o => by simp [go_sem]⟩)
  have HW := hide hW
  have HB := hide hb
  have HA := hide hA
  clear hW hb hA
  go_enter Try.func79, Try.ntmps79
  go_upto_region 1 with fail
  rw [← HW.out]
  go_wp2_with fail
  refine (one_c 105 _ W).mono ?_
  rintro e w1 ⟨rfl, ho, hb1⟩
  have zw1 := hb1.size
  have lk := World.block_lt_of_cell? W _ k0.out.1
  simp only at lk
  have q0 := cell_stay k0.out.1 (hb1.block _ lk)
  have q1 := cell_stay k0.out.2.1 (hb1.block _ lk)
  have g0 := fro_stay (k0.out.2.2 0) (hb1.block _ lk)
  have g1 := fro_stay (k0.out.2.2 1) (hb1.block _ lk)
  have HO := hide ho
  have HB1 := hide hb1
  clear ho hb1
  go_wp2
  have hz := zW.out
  refine bodyPost_ret (v := oneV W.heap.size) (by simp [results, Try.f79, go_sem, oneV, q0, q1]) rfl ⟨by rw [hz], ?_, ?_, ?_⟩
  · rw [← hz]
    exact (World.cell?_of_block (a := ⟨W.heap.size, 0, none⟩) ((heap_setCell_other _ _ _ _ (show W.heap.size ≠ w.heap.size + 1 + 1 + 1 + 1 by omega)).trans (heap_setCell_other _ _ _ _ (show W.heap.size ≠ w.heap.size + 1 + 1 + 1 + 1 by omega)))).trans HO.out
  · have s : ∀ b, b < w.heap.size + 4 → b < W.heap.size → ((w1.setCell ⟨w.heap.size + 1 + 1 + 1 + 1, 0, none⟩ (.func (.func 107) #[] #[.pointer (some ⟨W.heap.size, 0, none⟩)])).setCell ⟨w.heap.size + 1 + 1 + 1 + 1, 1, none⟩ .nilFunc).heap[b]? = W.heap[b]? := fun b hb hb2 => (heap_setCell_other _ _ _ _ (show b ≠ w.heap.size + 1 + 1 + 1 + 1 by omega)).trans ((heap_setCell_other _ _ _ _ (show b ≠ w.heap.size + 1 + 1 + 1 + 1 by omega)).trans (HB1.out.block b hb2))
    exact HA.out.stays (s _ (by omega) (by omega)) (s _ (by omega) (by omega)) (s _ (by omega) (by omega)) (s _ (by omega) (by omega))
  · exact ((HB.out.trans (HB1.out.mono (by omega))).setCell (p := ⟨w.heap.size + 1 + 1 + 1 + 1, 0, none⟩) (by simp; omega) _).setCell (p := ⟨w.heap.size + 1 + 1 + 1 + 1, 1, none⟩) (by simp; omega) _
/-- an arriving's boxes -/
structure ArrT (w : World) (b0 b3 wp ab ao : Nat) : Prop where
  c0 : w.cell? ⟨b0, 0, none⟩ = some (.pointer (some ⟨wp, 0, none⟩))
  c3 : w.cell? ⟨b3, 0, none⟩ = some (.pointer (some ⟨ab, ao, none⟩))
theorem ArrT.stays {w w' : World} {b0 b3 wp ab ao : Nat} (h : ArrT w b0 b3 wp ab ao) (h0 : w'.heap[b0]? = w.heap[b0]?) (h3 : w'.heap[b3]? = w.heap[b3]?) : ArrT w' b0 b3 wp ab ao := ⟨cell_stay h.c0 h0, cell_stay h.c3 h3⟩
def arrF (n : Nat) : Value := .func (.func 106) #[] #[.pointer (some ⟨n, 0, none⟩), .pointer (some ⟨(n + 1), 0, none⟩)]
set_option maxRecDepth 100000 in
set_option maxHeartbeats 1000000 in
theorem arrive_c (wp ab ao : Nat) (who x : Int) (w : World) : Calls Try.prog 82 #[.pointer (some ⟨wp, 0, none⟩), .int .i64 who, .int .i64 x, .pointer (some ⟨ab, ao, none⟩)] w fun e w' => e = .returned (oneV (w.heap.size + 3)) ∧ w'.cell? ⟨w.heap.size + 3, 0, none⟩ = some (arrF w.heap.size) ∧ ArrT w' w.heap.size (w.heap.size + 1) wp ab ao ∧ Below w.heap.size w w' := by
  obtain ⟨W, hW⟩ : ∃ W, W = ((w.alloc (.cells #[.pointer (some ⟨wp, 0, none⟩)] 120)).alloc (.cells #[.pointer (some ⟨ab, ao, none⟩)] 145)).alloc (.cells #[.nilFunc, .nilFunc] 143) := ⟨_, rfl⟩
  have hb : Below w.heap.size w W := by rw [hW]; (focus repeat' (first | (with_reducible exact Below.refl _ _) | (with_reducible assumption) | (with_reducible refine Below.alloc ?_ ?_ _) | (with_reducible refine Below.drew ?_) | (with_reducible refine bdrewN ?_ _) | (with_reducible refine Below.setCell ?_ ?_ _) | (first | (with_reducible exact Nat.le_refl _) | (with_reducible assumption) | omega | (simp; omega) | (simp; done))))
  have zW : Hid (W.heap.size = w.heap.size + 3) := by rw [hW]; exact hide (by simp)
  have hA : ArrT W w.heap.size (w.heap.size + 1) wp ab ao := by rw [hW]; exact ⟨by simp [go_sem], by simp [go_sem]⟩
  have k0 := hide (show W.cell? ⟨w.heap.size + 1 + 1, 0, none⟩ = some .nilFunc ∧ W.cell? ⟨w.heap.size + 1 + 1, 1, none⟩ = some .nilFunc ∧ (∀ o, W.frozen? ⟨w.heap.size + 1 + 1, o, none⟩ = false) by rw [hW]; exact ⟨by simp [go_sem], by simp [go_sem], fun o => by simp [go_sem]⟩)
  have HW := hide hW
  have HB := hide hb
  have HA := hide hA
  clear hW hb hA
  go_enter Try.func82, Try.ntmps82
  go_upto_region 1 with fail
  rw [← HW.out]
  go_wp2_with fail
  refine (one_c 106 _ W).mono ?_
  rintro e w1 ⟨rfl, ho, hb1⟩
  have zw1 := hb1.size
  have lk := World.block_lt_of_cell? W _ k0.out.1
  simp only at lk
  have q0 := cell_stay k0.out.1 (hb1.block _ lk)
  have q1 := cell_stay k0.out.2.1 (hb1.block _ lk)
  have g0 := fro_stay (k0.out.2.2 0) (hb1.block _ lk)
  have g1 := fro_stay (k0.out.2.2 1) (hb1.block _ lk)
  have HO := hide ho
  have HB1 := hide hb1
  clear ho hb1
  go_wp2
  have hz := zW.out
  refine bodyPost_ret (v := oneV W.heap.size) (by simp [results, Try.f82, go_sem, oneV, q0, q1]) rfl ⟨by rw [hz], ?_, ?_, ?_⟩
  · rw [← hz]
    exact (World.cell?_of_block (a := ⟨W.heap.size, 0, none⟩) ((heap_setCell_other _ _ _ _ (show W.heap.size ≠ w.heap.size + 1 + 1 by omega)).trans (heap_setCell_other _ _ _ _ (show W.heap.size ≠ w.heap.size + 1 + 1 by omega)))).trans HO.out
  · have s : ∀ b, b < w.heap.size + 2 → b < W.heap.size → ((w1.setCell ⟨w.heap.size + 1 + 1, 0, none⟩ (.func (.func 107) #[] #[.pointer (some ⟨W.heap.size, 0, none⟩)])).setCell ⟨w.heap.size + 1 + 1, 1, none⟩ .nilFunc).heap[b]? = W.heap[b]? := fun b hb hb2 => (heap_setCell_other _ _ _ _ (show b ≠ w.heap.size + 1 + 1 by omega)).trans ((heap_setCell_other _ _ _ _ (show b ≠ w.heap.size + 1 + 1 by omega)).trans (HB1.out.block b hb2))
    exact HA.out.stays (s _ (by omega) (by omega)) (s _ (by omega) (by omega))
  · exact ((HB.out.trans (HB1.out.mono (by omega))).setCell (p := ⟨w.heap.size + 1 + 1, 0, none⟩) (by simp; omega) _).setCell (p := ⟨w.heap.size + 1 + 1, 1, none⟩) (by simp; omega) _
end Go.Proofs.Ytimabgakemgldaa
