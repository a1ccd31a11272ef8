import Derived.Test.YtbbdneekfejjkaaT3
namespace Go.Proofs.Ytbbdneekfejjkaa
open Go.ChangeShapes Go.WideShapes Go.ChangeAt Go.RowKit
set_option linter.unusedSimpArgs false
set_option linter.unusedVariables false

theorem eql29 (a0 a1 a2 a3 b0 b1 b2 b3 : Int) (w : World) : (binOp .eql 29 (.agg #[.int .i64 a0, .int .i64 a1, .int .i64 a2, .int .i64 a3]) (.agg #[.int .i64 b0, .int .i64 b1, .int .i64 b2, .int .i64 b3])).run Try.prog w = .ok (.bool (decide (a0 = b0) && (decide (a1 = b1) && (decide (a2 = b2) && decide (a3 = b3))))) w := by
  go_simp
  repeat' split
  all_goals simp [*]
theorem neq29 (a0 a1 a2 a3 b0 b1 b2 b3 : Int) (w : World) : (binOp .neq 29 (.agg #[.int .i64 a0, .int .i64 a1, .int .i64 a2, .int .i64 a3]) (.agg #[.int .i64 b0, .int .i64 b1, .int .i64 b2, .int .i64 b3])).run Try.prog w = .ok (.bool (!(decide (a0 = b0) && (decide (a1 = b1) && (decide (a2 = b2) && decide (a3 = b3)))))) w := by
  go_simp
  repeat' split
  all_goals simp [*]
theorem undraw {B : Nat} {W w w' : World} (h : Below W.heap.size W w') (e : W.heap = w.heap) (e1 : W.os = w.os) (e2 : W.tape = w.tape) (e3 : W.output = w.output) (hB : B ≤ w.heap.size) : Below B w w' := by
  have h2 := h.mono (B' := B) (by rw [e]; exact hB)
  exact ⟨h2.os.trans e1, h2.tape.trans e2, h2.output.trans e3, by rw [← e]; exact h2.size, by rw [← e]; exact h2.block⟩

set_option maxHeartbeats 1000000 in
theorem right_no (k op cl st sp ex la fl fa co ru ld li pr rc : Int) (w : World) (h : ¬ LotOK k op cl st sp ex la fl fa co ru) : Calls Try.prog 18 #[.agg #[.int .i64 k, .int .i64 op, .int .i64 cl, .int .i64 st, .int .i64 sp, .int .i64 ex, .int .i64 la, .int .i64 fl, .int .i64 fa, .int .i64 co, .int .i64 ru], .agg #[.int .i64 ld, .int .i64 li, .int .i64 pr, .int .i64 rc]] w fun e w' => e = .returned (.bool false) ∧ Below w.heap.size w w' := by
  go_enter Try.func18, Try.ntmps18
  go_wp2_with fail
  (apply Calls.mono; focus ((apply check_no <;> (first | (with_reducible assumption) | (with_reducible rfl) | omega)); done)); rintro e w1 ⟨rfl, hb1⟩
  have B1 : Below w.heap.size w w1 := (((Below.refl w.heap.size w).alloc (Nat.le_refl _) _).alloc (by (first | (with_reducible exact Nat.le_refl _) | (with_reducible assumption) | omega | (simp only [World.size_alloc, World.size_setCell, World.size_drew]; omega) | (simp; omega) | (simp; done))) _).trans (hb1.mono (by simp; omega))
  have hz1_1 : w.heap.size + 1 < w1.heap.size := by have := hb1.size; simp at this; omega
  have hz1_0 : w.heap.size < w1.heap.size := by have := hb1.size; simp at this; omega
  obtain ⟨hc1, hf1⟩ := bcell hb1
  clear hb1
  go_wp2
  go_ret
  exact ⟨rfl, by (repeat' (first | (with_reducible exact Below.refl _ _) | (with_reducible assumption) | (with_reducible refine Below.alloc ?_ ?_ _) | (with_reducible refine Below.drew ?_) | (with_reducible refine Below.setCell ?_ ?_ _) | (first | (with_reducible exact Nat.le_refl _) | (with_reducible assumption) | omega | (simp only [World.size_alloc, World.size_setCell, World.size_drew]; omega) | (simp; omega) | (simp; done))))⟩

set_option maxHeartbeats 1000000 in
theorem right_lead (k op cl st sp ex la fl fa co ru ld li pr rc : Int) (w : World) (h : LotOK k op cl st sp ex la fl fa co ru) (hl : ld < 0) : Calls Try.prog 18 #[.agg #[.int .i64 k, .int .i64 op, .int .i64 cl, .int .i64 st, .int .i64 sp, .int .i64 ex, .int .i64 la, .int .i64 fl, .int .i64 fa, .int .i64 co, .int .i64 ru], .agg #[.int .i64 ld, .int .i64 li, .int .i64 pr, .int .i64 rc]] w fun e w' => e = .returned (.bool (decide (RiseOK st cl la ld li pr rc))) ∧ Below w.heap.size w w' := by
  go_enter Try.func18, Try.ntmps18
  go_wp2_with fail
  (apply Calls.mono; focus ((apply check_ok <;> (first | (with_reducible assumption) | (with_reducible rfl) | omega)); done)); rintro e w1 ⟨rfl, hb1⟩
  have B1 : Below w.heap.size w w1 := (((Below.refl w.heap.size w).alloc (Nat.le_refl _) _).alloc (by (first | (with_reducible exact Nat.le_refl _) | (with_reducible assumption) | omega | (simp only [World.size_alloc, World.size_setCell, World.size_drew]; omega) | (simp; omega) | (simp; done))) _).trans (hb1.mono (by simp; omega))
  have hz1_1 : w.heap.size + 1 < w1.heap.size := by have := hb1.size; simp at this; omega
  have hz1_0 : w.heap.size < w1.heap.size := by have := hb1.size; simp at this; omega
  obtain ⟨hc1, hf1⟩ := bcell hb1
  clear hb1
  go_wp2_with fail
  have E := eql29
  go_region_with ((apply Calls.mono; focus ((apply begun_any <;> (first | (with_reducible assumption) | (with_reducible rfl) | omega)); done)); rintro e w2 ⟨rfl, hb2⟩; have hc2 : ∀ b o, b < w1.heap.size → w2.cell? ⟨b, o, none⟩ = w1.cell? ⟨b, o, none⟩ := (bcell hb2).1; have B2 : Below w.heap.size w w2 := B1.trans (undraw hb2 rfl rfl rfl rfl (by omega)))
  all_goals
    go_wp2
    go_ret
    refine ⟨ret_bool ?_, by (repeat' (first | (with_reducible exact Below.refl _ _) | (with_reducible assumption) | (with_reducible refine Below.alloc ?_ ?_ _) | (with_reducible refine Below.drew ?_) | (with_reducible refine Below.setCell ?_ ?_ _) | (first | (with_reducible exact Nat.le_refl _) | (with_reducible assumption) | omega | (simp only [World.size_alloc, World.size_setCell, World.size_drew]; omega) | (simp; omega) | (simp; done))))⟩
    rw [Bool.eq_iff_iff]
    simp only [Bool.and_eq_true, decide_eq_true_eq]
    unfold RiseOK
    omega

set_option maxHeartbeats 1000000 in
theorem right_led (k op cl st sp ex la fl fa co ru ld li pr rc : Int) (w : World) (h : LotOK k op cl st sp ex la fl fa co ru) (hl : ¬ ld < 0) : Calls Try.prog 18 #[.agg #[.int .i64 k, .int .i64 op, .int .i64 cl, .int .i64 st, .int .i64 sp, .int .i64 ex, .int .i64 la, .int .i64 fl, .int .i64 fa, .int .i64 co, .int .i64 ru], .agg #[.int .i64 ld, .int .i64 li, .int .i64 pr, .int .i64 rc]] w fun e w' => e = .returned (.bool (decide (RiseOK st cl la ld li pr rc))) ∧ Below w.heap.size w w' := by
  go_enter Try.func18, Try.ntmps18
  go_wp2_with fail
  (apply Calls.mono; focus ((apply check_ok <;> (first | (with_reducible assumption) | (with_reducible rfl) | omega)); done)); rintro e w1 ⟨rfl, hb1⟩
  have B1 : Below w.heap.size w w1 := (((Below.refl w.heap.size w).alloc (Nat.le_refl _) _).alloc (by (first | (with_reducible exact Nat.le_refl _) | (with_reducible assumption) | omega | (simp only [World.size_alloc, World.size_setCell, World.size_drew]; omega) | (simp; omega) | (simp; done))) _).trans (hb1.mono (by simp; omega))
  have hz1_1 : w.heap.size + 1 < w1.heap.size := by have := hb1.size; simp at this; omega
  have hz1_0 : w.heap.size < w1.heap.size := by have := hb1.size; simp at this; omega
  obtain ⟨hc1, hf1⟩ := bcell hb1
  clear hb1
  go_wp2
  all_goals
    go_ret
    refine ⟨ret_bool ?_, by (repeat' (first | (with_reducible exact Below.refl _ _) | (with_reducible assumption) | (with_reducible refine Below.alloc ?_ ?_ _) | (with_reducible refine Below.drew ?_) | (with_reducible refine Below.setCell ?_ ?_ _) | (first | (with_reducible exact Nat.le_refl _) | (with_reducible assumption) | omega | (simp only [World.size_alloc, World.size_setCell, World.size_drew]; omega) | (simp; omega) | (simp; done))))⟩
    rw [Bool.eq_iff_iff]
    simp only [Bool.and_eq_true, decide_eq_true_eq, Bool.false_eq_true, false_iff, true_iff]
    unfold RiseOK
    omega

theorem right_yes (k op cl st sp ex la fl fa co ru ld li pr rc : Int) (w : World) (h : LotOK k op cl st sp ex la fl fa co ru) (hr : RiseOK st cl la ld li pr rc) : Calls Try.prog 18 #[.agg #[.int .i64 k, .int .i64 op, .int .i64 cl, .int .i64 st, .int .i64 sp, .int .i64 ex, .int .i64 la, .int .i64 fl, .int .i64 fa, .int .i64 co, .int .i64 ru], .agg #[.int .i64 ld, .int .i64 li, .int .i64 pr, .int .i64 rc]] w fun e w' => e = .returned (.bool true) ∧ Below w.heap.size w w' := by
  by_cases hl : ld < 0
  · exact (right_lead k op cl st sp ex la fl fa co ru ld li pr rc w h hl).mono fun _ _ ⟨he, hb⟩ => ⟨by rw [he, decide_eq_true hr], hb⟩
  · exact (right_led k op cl st sp ex la fl fa co ru ld li pr rc w h hl).mono fun _ _ ⟨he, hb⟩ => ⟨by rw [he, decide_eq_true hr], hb⟩
theorem right_wrong (k op cl st sp ex la fl fa co ru ld li pr rc : Int) (w : World) (h : ¬ (LotOK k op cl st sp ex la fl fa co ru ∧ RiseOK st cl la ld li pr rc)) : Calls Try.prog 18 #[.agg #[.int .i64 k, .int .i64 op, .int .i64 cl, .int .i64 st, .int .i64 sp, .int .i64 ex, .int .i64 la, .int .i64 fl, .int .i64 fa, .int .i64 co, .int .i64 ru], .agg #[.int .i64 ld, .int .i64 li, .int .i64 pr, .int .i64 rc]] w fun e w' => e = .returned (.bool false) ∧ Below w.heap.size w w' := by
  by_cases hL : LotOK k op cl st sp ex la fl fa co ru
  · have hr : ¬ RiseOK st cl la ld li pr rc := fun hr => h ⟨hL, hr⟩
    by_cases hl : ld < 0
    · exact (right_lead k op cl st sp ex la fl fa co ru ld li pr rc w hL hl).mono fun _ _ ⟨he, hb⟩ => ⟨by rw [he, decide_eq_false hr], hb⟩
    · exact (right_led k op cl st sp ex la fl fa co ru ld li pr rc w hL hl).mono fun _ _ ⟨he, hb⟩ => ⟨by rw [he, decide_eq_false hr], hb⟩
  · exact right_no k op cl st sp ex la fl fa co ru ld li pr rc w hL

set_option maxHeartbeats 1000000 in
theorem rright_no (k op cl st sp ex la fl fa co ru ld li pr rc : Int) (w : World) (h : ¬ LotOK k op cl st sp ex la fl fa co ru) : Calls Try.prog 16 #[.agg #[.int .i64 k, .int .i64 op, .int .i64 cl, .int .i64 st, .int .i64 sp, .int .i64 ex, .int .i64 la, .int .i64 fl, .int .i64 fa, .int .i64 co, .int .i64 ru], .agg #[.int .i64 ld, .int .i64 li, .int .i64 pr, .int .i64 rc]] w fun e w' => e = .returned (.bool false) ∧ Below w.heap.size w w' := by
  go_enter Try.func16, Try.ntmps16
  go_wp2_with fail
  (apply Calls.mono; focus ((apply rbegin_no <;> (first | (with_reducible assumption) | (with_reducible rfl) | omega)); done)); rintro e w1 ⟨rfl, hb1⟩
  have B1 : Below w.heap.size w w1 := (((Below.refl w.heap.size w).alloc (Nat.le_refl _) _).alloc (by (first | (with_reducible exact Nat.le_refl _) | (with_reducible assumption) | omega | (simp only [World.size_alloc, World.size_setCell, World.size_drew]; omega) | (simp; omega) | (simp; done))) _).trans (hb1.mono (by simp; omega))
  have hz1_1 : w.heap.size + 1 < w1.heap.size := by have := hb1.size; simp at this; omega
  have hz1_0 : w.heap.size < w1.heap.size := by have := hb1.size; simp at this; omega
  obtain ⟨hc1, hf1⟩ := bcell hb1
  clear hb1
  go_wp2
  go_ret
  exact ⟨rfl, by (repeat' (first | (with_reducible exact Below.refl _ _) | (with_reducible assumption) | (with_reducible refine Below.alloc ?_ ?_ _) | (with_reducible refine Below.drew ?_) | (with_reducible refine Below.setCell ?_ ?_ _) | (first | (with_reducible exact Nat.le_refl _) | (with_reducible assumption) | omega | (simp only [World.size_alloc, World.size_setCell, World.size_drew]; omega) | (simp; omega) | (simp; done))))⟩

set_option maxHeartbeats 1000000 in
theorem rright_ok (k op cl st sp ex la fl fa co ru ld li pr rc : Int) (w : World) (h : LotOK k op cl st sp ex la fl fa co ru) : Calls Try.prog 16 #[.agg #[.int .i64 k, .int .i64 op, .int .i64 cl, .int .i64 st, .int .i64 sp, .int .i64 ex, .int .i64 la, .int .i64 fl, .int .i64 fa, .int .i64 co, .int .i64 ru], .agg #[.int .i64 ld, .int .i64 li, .int .i64 pr, .int .i64 rc]] w fun e w' => e = .returned (.bool (decide (RiseOK st cl la ld li pr rc))) ∧ Below w.heap.size w w' := by
  go_enter Try.func16, Try.ntmps16
  go_wp2_with fail
  (apply Calls.mono; focus ((apply rbegin_ok <;> (first | (with_reducible assumption) | (with_reducible rfl) | omega)); done)); rintro e w1 ⟨rfl, hb1⟩
  have B1 : Below w.heap.size w w1 := (((Below.refl w.heap.size w).alloc (Nat.le_refl _) _).alloc (by (first | (with_reducible exact Nat.le_refl _) | (with_reducible assumption) | omega | (simp only [World.size_alloc, World.size_setCell, World.size_drew]; omega) | (simp; omega) | (simp; done))) _).trans (hb1.mono (by simp; omega))
  have hz1_1 : w.heap.size + 1 < w1.heap.size := by have := hb1.size; simp at this; omega
  have hz1_0 : w.heap.size < w1.heap.size := by have := hb1.size; simp at this; omega
  obtain ⟨hc1, hf1⟩ := bcell hb1
  clear hb1
  go_wp2
  all_goals
    go_ret
    refine ⟨ret_bool ?_, by (repeat' (first | (with_reducible exact Below.refl _ _) | (with_reducible assumption) | (with_reducible refine Below.alloc ?_ ?_ _) | (with_reducible refine Below.drew ?_) | (with_reducible refine Below.setCell ?_ ?_ _) | (first | (with_reducible exact Nat.le_refl _) | (with_reducible assumption) | omega | (simp only [World.size_alloc, World.size_setCell, World.size_drew]; omega) | (simp; omega) | (simp; done))))⟩
    rw [Bool.eq_iff_iff]
    simp only [Bool.and_eq_true, decide_eq_true_eq, Bool.false_eq_true, false_iff, true_iff]
    unfold RiseOK
    omega

theorem rright_yes (k op cl st sp ex la fl fa co ru ld li pr rc : Int) (w : World) (h : LotOK k op cl st sp ex la fl fa co ru) (hr : RiseOK st cl la ld li pr rc) : Calls Try.prog 16 #[.agg #[.int .i64 k, .int .i64 op, .int .i64 cl, .int .i64 st, .int .i64 sp, .int .i64 ex, .int .i64 la, .int .i64 fl, .int .i64 fa, .int .i64 co, .int .i64 ru], .agg #[.int .i64 ld, .int .i64 li, .int .i64 pr, .int .i64 rc]] w fun e w' => e = .returned (.bool true) ∧ Below w.heap.size w w' :=
  (rright_ok k op cl st sp ex la fl fa co ru ld li pr rc w h).mono fun _ _ ⟨he, hb⟩ => ⟨by rw [he, decide_eq_true hr], hb⟩
theorem rright_wrong (k op cl st sp ex la fl fa co ru ld li pr rc : Int) (w : World) (h : ¬ (LotOK k op cl st sp ex la fl fa co ru ∧ RiseOK st cl la ld li pr rc)) : Calls Try.prog 16 #[.agg #[.int .i64 k, .int .i64 op, .int .i64 cl, .int .i64 st, .int .i64 sp, .int .i64 ex, .int .i64 la, .int .i64 fl, .int .i64 fa, .int .i64 co, .int .i64 ru], .agg #[.int .i64 ld, .int .i64 li, .int .i64 pr, .int .i64 rc]] w fun e w' => e = .returned (.bool false) ∧ Below w.heap.size w w' := by
  by_cases hL : LotOK k op cl st sp ex la fl fa co ru
  · have hr : ¬ RiseOK st cl la ld li pr rc := fun hr => h ⟨hL, hr⟩
    exact (rright_ok k op cl st sp ex la fl fa co ru ld li pr rc w hL).mono fun _ _ ⟨he, hb⟩ => ⟨by rw [he, decide_eq_false hr], hb⟩
  · exact rright_no k op cl st sp ex la fl fa co ru ld li pr rc w hL
end Go.Proofs.Ytbbdneekfejjkaa
