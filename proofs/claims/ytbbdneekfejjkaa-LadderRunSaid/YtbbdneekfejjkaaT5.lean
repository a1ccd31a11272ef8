import Derived.Test.YtbbdneekfejjkaaT4
namespace Go.Proofs.Ytbbdneekfejjkaa
open Go.ChangeShapes Go.WideShapes Go.ChangeAt Go.RowKit
set_option linter.unusedSimpArgs false
set_option linter.unusedVariables false

theorem ret_two {k k2 : IntKind} {a b c : Int} (h : a = b) : Ending.returned (.tuple #[.int k a, .int k2 c]) = .returned (.tuple #[.int k b, .int k2 c]) := by rw [h]
/-- what a limit must be at least -/
def leastI (st sp ld li pr bd : Int) : Int := if ld < 0 then st else if ld = bd then li + 1 else pr + sp

set_option maxHeartbeats 1000000 in
theorem least_any (k op cl st sp ex la fl fa co ru ld li pr rc bd : Int) (w : World) (h1 : 0 ≤ li) (h2 : li ≤ 1099511627776) (h3 : 0 ≤ pr) (h4 : pr ≤ 1099511627776) (h5 : 0 ≤ sp) (h6 : sp ≤ 1099511627776) : Calls Try.prog 25 #[.agg #[.int .i64 k, .int .i64 op, .int .i64 cl, .int .i64 st, .int .i64 sp, .int .i64 ex, .int .i64 la, .int .i64 fl, .int .i64 fa, .int .i64 co, .int .i64 ru], .agg #[.int .i64 ld, .int .i64 li, .int .i64 pr, .int .i64 rc], .int .i64 bd] w fun e w' => e = .returned (.int .i64 (leastI st sp ld li pr bd)) ∧ Below w.heap.size w w' := by
  have tri_ldbd : ld < bd ∨ ld = bd ∨ bd < ld := by omega
  rcases tri_ldbd with tri_ldbd | rfl | tri_ldbd
  · have ne_ldbd : (ld == bd) = false := by rw [beq_eq_false_iff_ne]; omega
    go_enter Try.func25, Try.ntmps25
    go_wp2
    all_goals
      go_ret
      refine ⟨ret_int ?_, by (repeat' (first | (with_reducible exact Below.refl _ _) | (with_reducible assumption) | (with_reducible refine Below.alloc ?_ ?_ _) | (with_reducible refine Below.drew ?_) | (with_reducible refine Below.setCell ?_ ?_ _) | (first | (with_reducible exact Nat.le_refl _) | (with_reducible assumption) | omega | (simp only [World.size_alloc, World.size_setCell, World.size_drew]; omega) | (simp; omega) | (simp; done))))⟩
      unfold leastI
      repeat' (first | rfl | omega | split)
  · go_enter Try.func25, Try.ntmps25
    go_wp2
    all_goals
      go_ret
      refine ⟨ret_int ?_, by (repeat' (first | (with_reducible exact Below.refl _ _) | (with_reducible assumption) | (with_reducible refine Below.alloc ?_ ?_ _) | (with_reducible refine Below.drew ?_) | (with_reducible refine Below.setCell ?_ ?_ _) | (first | (with_reducible exact Nat.le_refl _) | (with_reducible assumption) | omega | (simp only [World.size_alloc, World.size_setCell, World.size_drew]; omega) | (simp; omega) | (simp; done))))⟩
      unfold leastI
      repeat' (first | rfl | omega | split)
  · have ne_ldbd : (ld == bd) = false := by rw [beq_eq_false_iff_ne]; omega
    go_enter Try.func25, Try.ntmps25
    go_wp2
    all_goals
      go_ret
      refine ⟨ret_int ?_, by (repeat' (first | (with_reducible exact Below.refl _ _) | (with_reducible assumption) | (with_reducible refine Below.alloc ?_ ?_ _) | (with_reducible refine Below.drew ?_) | (with_reducible refine Below.setCell ?_ ?_ _) | (first | (with_reducible exact Nat.le_refl _) | (with_reducible assumption) | omega | (simp only [World.size_alloc, World.size_setCell, World.size_drew]; omega) | (simp; omega) | (simp; done))))⟩
      unfold leastI
      repeat' (first | rfl | omega | split)

theorem bounds (k op cl st sp ex la fl fa co ru ld li pr rc : Int) (h : LotOK k op cl st sp ex la fl fa co ru) (hr : RiseOK st cl la ld li pr rc) : 0 ≤ li ∧ li ≤ 1099511627776 ∧ 0 ≤ pr ∧ pr ≤ 1099511627776 ∧ 0 ≤ sp ∧ sp ≤ 1099511627776 := by
  unfold LotOK at h
  unfold RiseOK at hr
  omega

set_option maxHeartbeats 1000000 in
theorem Least_no (k op cl st sp ex la fl fa co ru ld li pr rc bd : Int) (w : World) (h : ¬ ((LotOK k op cl st sp ex la fl fa co ru ∧ RiseOK st cl la ld li pr rc) ∧ 0 ≤ bd)) : Calls Try.prog 11 #[.agg #[.int .i64 k, .int .i64 op, .int .i64 cl, .int .i64 st, .int .i64 sp, .int .i64 ex, .int .i64 la, .int .i64 fl, .int .i64 fa, .int .i64 co, .int .i64 ru], .agg #[.int .i64 ld, .int .i64 li, .int .i64 pr, .int .i64 rc], .int .i64 bd] w fun e w' => e = .returned (.tuple #[.int .i64 0, .int .i64 2]) ∧ Below w.heap.size w w' := by
  by_cases hr : LotOK k op cl st sp ex la fl fa co ru ∧ RiseOK st cl la ld li pr rc
  · have hb : bd < 0 := by have : ¬ 0 ≤ bd := fun x => h ⟨hr, x⟩; omega
    have hL := hr.1
    have hR := hr.2
    clear h hr
    go_enter Try.func11, Try.ntmps11
    go_wp2_with fail
    (apply Calls.mono; focus ((apply right_yes <;> (first | (with_reducible assumption) | (with_reducible rfl) | omega)); done)); rintro e w1 ⟨rfl, hb1⟩
    have B1 : Below w.heap.size w w1 := (((Below.refl w.heap.size w).alloc (Nat.le_refl _) _).alloc (by (first | (with_reducible exact Nat.le_refl _) | (with_reducible assumption) | omega | (simp only [World.size_alloc, World.size_setCell, World.size_drew]; omega) | (simp; omega) | (simp; done))) _).trans (hb1.mono (by simp; omega))
    have hz1_1 : w.heap.size + 1 < w1.heap.size := by have := hb1.size; simp at this; omega
    have hz1_0 : w.heap.size < w1.heap.size := by have := hb1.size; simp at this; omega
    obtain ⟨hc1, hf1⟩ := bcell hb1
    clear hb1
    go_wp2
    go_ret2
    exact ⟨rfl, by (repeat' (first | (with_reducible exact Below.refl _ _) | (with_reducible assumption) | (with_reducible refine Below.alloc ?_ ?_ _) | (with_reducible refine Below.drew ?_) | (with_reducible refine Below.setCell ?_ ?_ _) | (first | (with_reducible exact Nat.le_refl _) | (with_reducible assumption) | omega | (simp only [World.size_alloc, World.size_setCell, World.size_drew]; omega) | (simp; omega) | (simp; done))))⟩
  · clear h
    go_enter Try.func11, Try.ntmps11
    go_wp2_with fail
    (apply Calls.mono; focus ((apply right_wrong <;> (first | (with_reducible assumption) | (with_reducible rfl) | omega)); done)); rintro e w1 ⟨rfl, hb1⟩
    have B1 : Below w.heap.size w w1 := (((Below.refl w.heap.size w).alloc (Nat.le_refl _) _).alloc (by (first | (with_reducible exact Nat.le_refl _) | (with_reducible assumption) | omega | (simp only [World.size_alloc, World.size_setCell, World.size_drew]; omega) | (simp; omega) | (simp; done))) _).trans (hb1.mono (by simp; omega))
    have hz1_1 : w.heap.size + 1 < w1.heap.size := by have := hb1.size; simp at this; omega
    have hz1_0 : w.heap.size < w1.heap.size := by have := hb1.size; simp at this; omega
    obtain ⟨hc1, hf1⟩ := bcell hb1
    clear hb1
    go_wp2
    go_ret2
    exact ⟨rfl, by (repeat' (first | (with_reducible exact Below.refl _ _) | (with_reducible assumption) | (with_reducible refine Below.alloc ?_ ?_ _) | (with_reducible refine Below.drew ?_) | (with_reducible refine Below.setCell ?_ ?_ _) | (first | (with_reducible exact Nat.le_refl _) | (with_reducible assumption) | omega | (simp only [World.size_alloc, World.size_setCell, World.size_drew]; omega) | (simp; omega) | (simp; done))))⟩

set_option maxHeartbeats 1000000 in
theorem Least_ok (k op cl st sp ex la fl fa co ru ld li pr rc bd : Int) (w : World) (h : LotOK k op cl st sp ex la fl fa co ru) (hr : RiseOK st cl la ld li pr rc) (hb : 0 ≤ bd) : Calls Try.prog 11 #[.agg #[.int .i64 k, .int .i64 op, .int .i64 cl, .int .i64 st, .int .i64 sp, .int .i64 ex, .int .i64 la, .int .i64 fl, .int .i64 fa, .int .i64 co, .int .i64 ru], .agg #[.int .i64 ld, .int .i64 li, .int .i64 pr, .int .i64 rc], .int .i64 bd] w fun e w' => e = .returned (.tuple #[.int .i64 (leastI st sp ld li pr bd), .int .i64 0]) ∧ Below w.heap.size w w' := by
  obtain ⟨h1, h2, h3, h4, h5, h6⟩ := bounds k op cl st sp ex la fl fa co ru ld li pr rc h hr
  go_enter Try.func11, Try.ntmps11
  go_wp2_with fail
  (apply Calls.mono; focus ((apply right_yes <;> (first | (with_reducible assumption) | (with_reducible rfl) | omega)); done)); rintro e w1 ⟨rfl, hb1⟩
  have B1 : Below w.heap.size w w1 := (((Below.refl w.heap.size w).alloc (Nat.le_refl _) _).alloc (by (first | (with_reducible exact Nat.le_refl _) | (with_reducible assumption) | omega | (simp only [World.size_alloc, World.size_setCell, World.size_drew]; omega) | (simp; omega) | (simp; done))) _).trans (hb1.mono (by simp; omega))
  have hz1_1 : w.heap.size + 1 < w1.heap.size := by have := hb1.size; simp at this; omega
  have hz1_0 : w.heap.size < w1.heap.size := by have := hb1.size; simp at this; omega
  obtain ⟨hc1, hf1⟩ := bcell hb1
  clear hb1
  go_wp2_with fail
  (apply Calls.mono; focus ((apply least_any <;> (first | (with_reducible assumption) | (with_reducible rfl) | omega)); done)); rintro e w2 ⟨rfl, hb2⟩
  have B2 : Below w.heap.size w w2 := B1.trans (hb2.mono (by omega))
  go_wp2
  go_ret2
  exact ⟨rfl, by (repeat' (first | (with_reducible exact Below.refl _ _) | (with_reducible assumption) | (with_reducible refine Below.alloc ?_ ?_ _) | (with_reducible refine Below.drew ?_) | (with_reducible refine Below.setCell ?_ ?_ _) | (first | (with_reducible exact Nat.le_refl _) | (with_reducible assumption) | omega | (simp only [World.size_alloc, World.size_setCell, World.size_drew]; omega) | (simp; omega) | (simp; done))))⟩

set_option maxHeartbeats 1000000 in
theorem rLeast_no (k op cl st sp ex la fl fa co ru ld li pr rc bd : Int) (w : World) (h : ¬ ((LotOK k op cl st sp ex la fl fa co ru ∧ RiseOK st cl la ld li pr rc) ∧ 0 ≤ bd)) : Calls Try.prog 12 #[.agg #[.int .i64 k, .int .i64 op, .int .i64 cl, .int .i64 st, .int .i64 sp, .int .i64 ex, .int .i64 la, .int .i64 fl, .int .i64 fa, .int .i64 co, .int .i64 ru], .agg #[.int .i64 ld, .int .i64 li, .int .i64 pr, .int .i64 rc], .int .i64 bd] w fun e w' => e = .returned (.tuple #[.int .i64 0, .int .i64 2]) ∧ Below w.heap.size w w' := by
  by_cases hr : LotOK k op cl st sp ex la fl fa co ru ∧ RiseOK st cl la ld li pr rc
  · have hb : bd < 0 := by have : ¬ 0 ≤ bd := fun x => h ⟨hr, x⟩; omega
    have hL := hr.1
    have hR := hr.2
    clear h hr
    go_enter Try.func12, Try.ntmps12
    go_wp2_with fail
    (apply Calls.mono; focus ((apply rright_yes <;> (first | (with_reducible assumption) | (with_reducible rfl) | omega)); done)); rintro e w1 ⟨rfl, hb1⟩
    have B1 : Below w.heap.size w w1 := (((Below.refl w.heap.size w).alloc (Nat.le_refl _) _).alloc (by (first | (with_reducible exact Nat.le_refl _) | (with_reducible assumption) | omega | (simp only [World.size_alloc, World.size_setCell, World.size_drew]; omega) | (simp; omega) | (simp; done))) _).trans (hb1.mono (by simp; omega))
    have hz1_1 : w.heap.size + 1 < w1.heap.size := by have := hb1.size; simp at this; omega
    have hz1_0 : w.heap.size < w1.heap.size := by have := hb1.size; simp at this; omega
    obtain ⟨hc1, hf1⟩ := bcell hb1
    clear hb1
    go_wp2
    go_ret2
    exact ⟨rfl, by (repeat' (first | (with_reducible exact Below.refl _ _) | (with_reducible assumption) | (with_reducible refine Below.alloc ?_ ?_ _) | (with_reducible refine Below.drew ?_) | (with_reducible refine Below.setCell ?_ ?_ _) | (first | (with_reducible exact Nat.le_refl _) | (with_reducible assumption) | omega | (simp only [World.size_alloc, World.size_setCell, World.size_drew]; omega) | (simp; omega) | (simp; done))))⟩
  · clear h
    go_enter Try.func12, Try.ntmps12
    go_wp2_with fail
    (apply Calls.mono; focus ((apply rright_wrong <;> (first | (with_reducible assumption) | (with_reducible rfl) | omega)); done)); rintro e w1 ⟨rfl, hb1⟩
    have B1 : Below w.heap.size w w1 := (((Below.refl w.heap.size w).alloc (Nat.le_refl _) _).alloc (by (first | (with_reducible exact Nat.le_refl _) | (with_reducible assumption) | omega | (simp only [World.size_alloc, World.size_setCell, World.size_drew]; omega) | (simp; omega) | (simp; done))) _).trans (hb1.mono (by simp; omega))
    have hz1_1 : w.heap.size + 1 < w1.heap.size := by have := hb1.size; simp at this; omega
    have hz1_0 : w.heap.size < w1.heap.size := by have := hb1.size; simp at this; omega
    obtain ⟨hc1, hf1⟩ := bcell hb1
    clear hb1
    go_wp2
    go_ret2
    exact ⟨rfl, by (repeat' (first | (with_reducible exact Below.refl _ _) | (with_reducible assumption) | (with_reducible refine Below.alloc ?_ ?_ _) | (with_reducible refine Below.drew ?_) | (with_reducible refine Below.setCell ?_ ?_ _) | (first | (with_reducible exact Nat.le_refl _) | (with_reducible assumption) | omega | (simp only [World.size_alloc, World.size_setCell, World.size_drew]; omega) | (simp; omega) | (simp; done))))⟩

set_option maxHeartbeats 1000000 in
theorem rLeast_ok (k op cl st sp ex la fl fa co ru ld li pr rc bd : Int) (w : World) (h : LotOK k op cl st sp ex la fl fa co ru) (hr : RiseOK st cl la ld li pr rc) (hb : 0 ≤ bd) : Calls Try.prog 12 #[.agg #[.int .i64 k, .int .i64 op, .int .i64 cl, .int .i64 st, .int .i64 sp, .int .i64 ex, .int .i64 la, .int .i64 fl, .int .i64 fa, .int .i64 co, .int .i64 ru], .agg #[.int .i64 ld, .int .i64 li, .int .i64 pr, .int .i64 rc], .int .i64 bd] w fun e w' => e = .returned (.tuple #[.int .i64 (leastI st sp ld li pr bd), .int .i64 0]) ∧ Below w.heap.size w w' := by
  obtain ⟨h1, h2, h3, h4, h5, h6⟩ := bounds k op cl st sp ex la fl fa co ru ld li pr rc h hr
  have tri_ldbd : ld < bd ∨ ld = bd ∨ bd < ld := by omega
  rcases tri_ldbd with tri_ldbd | rfl | tri_ldbd
  · have ne_ldbd : (ld == bd) = false := by rw [beq_eq_false_iff_ne]; omega
    go_enter Try.func12, Try.ntmps12
    go_wp2_with fail
    (apply Calls.mono; focus ((apply rright_yes <;> (first | (with_reducible assumption) | (with_reducible rfl) | omega)); done)); rintro e w1 ⟨rfl, hb1⟩
    have B1 : Below w.heap.size w w1 := (((Below.refl w.heap.size w).alloc (Nat.le_refl _) _).alloc (by (first | (with_reducible exact Nat.le_refl _) | (with_reducible assumption) | omega | (simp only [World.size_alloc, World.size_setCell, World.size_drew]; omega) | (simp; omega) | (simp; done))) _).trans (hb1.mono (by simp; omega))
    have hz1_1 : w.heap.size + 1 < w1.heap.size := by have := hb1.size; simp at this; omega
    have hz1_0 : w.heap.size < w1.heap.size := by have := hb1.size; simp at this; omega
    obtain ⟨hc1, hf1⟩ := bcell hb1
    clear hb1
    go_wp2
    all_goals
      go_ret2
      refine ⟨ret_two ?_, by (repeat' (first | (with_reducible exact Below.refl _ _) | (with_reducible assumption) | (with_reducible refine Below.alloc ?_ ?_ _) | (with_reducible refine Below.drew ?_) | (with_reducible refine Below.setCell ?_ ?_ _) | (first | (with_reducible exact Nat.le_refl _) | (with_reducible assumption) | omega | (simp only [World.size_alloc, World.size_setCell, World.size_drew]; omega) | (simp; omega) | (simp; done))))⟩
      unfold leastI
      repeat' (first | rfl | omega | split)
  · go_enter Try.func12, Try.ntmps12
    go_wp2_with fail
    (apply Calls.mono; focus ((apply rright_yes <;> (first | (with_reducible assumption) | (with_reducible rfl) | omega)); done)); rintro e w1 ⟨rfl, hb1⟩
    have B1 : Below w.heap.size w w1 := (((Below.refl w.heap.size w).alloc (Nat.le_refl _) _).alloc (by (first | (with_reducible exact Nat.le_refl _) | (with_reducible assumption) | omega | (simp only [World.size_alloc, World.size_setCell, World.size_drew]; omega) | (simp; omega) | (simp; done))) _).trans (hb1.mono (by simp; omega))
    have hz1_1 : w.heap.size + 1 < w1.heap.size := by have := hb1.size; simp at this; omega
    have hz1_0 : w.heap.size < w1.heap.size := by have := hb1.size; simp at this; omega
    obtain ⟨hc1, hf1⟩ := bcell hb1
    clear hb1
    go_wp2
    all_goals
      go_ret2
      refine ⟨ret_two ?_, by (repeat' (first | (with_reducible exact Below.refl _ _) | (with_reducible assumption) | (with_reducible refine Below.alloc ?_ ?_ _) | (with_reducible refine Below.drew ?_) | (with_reducible refine Below.setCell ?_ ?_ _) | (first | (with_reducible exact Nat.le_refl _) | (with_reducible assumption) | omega | (simp only [World.size_alloc, World.size_setCell, World.size_drew]; omega) | (simp; omega) | (simp; done))))⟩
      unfold leastI
      repeat' (first | rfl | omega | split)
  · have ne_ldbd : (ld == bd) = false := by rw [beq_eq_false_iff_ne]; omega
    go_enter Try.func12, Try.ntmps12
    go_wp2_with fail
    (apply Calls.mono; focus ((apply rright_yes <;> (first | (with_reducible assumption) | (with_reducible rfl) | omega)); done)); rintro e w1 ⟨rfl, hb1⟩
    have B1 : Below w.heap.size w w1 := (((Below.refl w.heap.size w).alloc (Nat.le_refl _) _).alloc (by (first | (with_reducible exact Nat.le_refl _) | (with_reducible assumption) | omega | (simp only [World.size_alloc, World.size_setCell, World.size_drew]; omega) | (simp; omega) | (simp; done))) _).trans (hb1.mono (by simp; omega))
    have hz1_1 : w.heap.size + 1 < w1.heap.size := by have := hb1.size; simp at this; omega
    have hz1_0 : w.heap.size < w1.heap.size := by have := hb1.size; simp at this; omega
    obtain ⟨hc1, hf1⟩ := bcell hb1
    clear hb1
    go_wp2
    all_goals
      go_ret2
      refine ⟨ret_two ?_, by (repeat' (first | (with_reducible exact Below.refl _ _) | (with_reducible assumption) | (with_reducible refine Below.alloc ?_ ?_ _) | (with_reducible refine Below.drew ?_) | (with_reducible refine Below.setCell ?_ ?_ _) | (first | (with_reducible exact Nat.le_refl _) | (with_reducible assumption) | omega | (simp only [World.size_alloc, World.size_setCell, World.size_drew]; omega) | (simp; omega) | (simp; done))))⟩
      unfold leastI
      repeat' (first | rfl | omega | split)
end Go.Proofs.Ytbbdneekfejjkaa
