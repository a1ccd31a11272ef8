import Derived.Test.YtbbdneekfejjkaaT9
namespace Go.Proofs.Ytbbdneekfejjkaa
open Go.ChangeShapes Go.WideShapes Go.ChangeAt Go.RowKit
set_option linter.unusedSimpArgs false
set_option linter.unusedVariables false

set_option maxHeartbeats 1000000 in
theorem rBid_none (k op cl st sp ex la fl fa co ru ld li pr rc bd bl bf bn : Int) (w : World) (h : ¬ ((LotOK k op cl st sp ex la fl fa co ru ∧ RiseOK st cl la ld li pr rc) ∧ 0 ≤ bd)) : Calls Try.prog 13 #[.agg #[.int .i64 k, .int .i64 op, .int .i64 cl, .int .i64 st, .int .i64 sp, .int .i64 ex, .int .i64 la, .int .i64 fl, .int .i64 fa, .int .i64 co, .int .i64 ru], .agg #[.int .i64 ld, .int .i64 li, .int .i64 pr, .int .i64 rc], .agg #[.int .i64 bd, .int .i64 bl, .int .i64 bf, .int .i64 bn]] w fun e w' => e = .returned (.tuple #[.agg #[.int .i64 0, .int .i64 0, .int .i64 0, .int .i64 0], .int .i64 2]) ∧ Below w.heap.size w w' := by
  go_enter Try.func13, Try.ntmps13
  go_wp2_with fail
  (apply Calls.mono; focus ((apply rLeast_no <;> (first | (with_reducible assumption) | (with_reducible rfl) | omega)); done)); rintro e w1 ⟨rfl, hb1⟩
  have B1 : Below w.heap.size w w1 := (((((Below.refl w.heap.size w).alloc (Nat.le_refl _) _).alloc (by (first | (with_reducible exact Nat.le_refl _) | (with_reducible assumption) | omega | (simp; omega) | (simp; done))) _).alloc (by (first | (with_reducible exact Nat.le_refl _) | (with_reducible assumption) | omega | (simp; omega) | (simp; done))) _).alloc (by (first | (with_reducible exact Nat.le_refl _) | (with_reducible assumption) | omega | (simp; omega) | (simp; done))) _).trans (hb1.mono (by simp; omega))
  have hz1_3 : w.heap.size + 3 < w1.heap.size := by have := hb1.size; simp at this; omega
  have hz1_2 : w.heap.size + 2 < w1.heap.size := by have := hb1.size; simp at this; omega
  have hz1_1 : w.heap.size + 1 < w1.heap.size := by have := hb1.size; simp at this; omega
  have hz1_0 : w.heap.size < w1.heap.size := by have := hb1.size; simp at this; omega
  obtain ⟨hc1, hf1⟩ := bcell hb1
  clear hb1
  go_wp2
  refine bodyPost_ret (v := .tuple #[.agg #[.int .i64 0, .int .i64 0, .int .i64 0, .int .i64 0], .int .i64 2]) (by simp [results, Try.results13, go_sem, *]) rfl ⟨rfl, by (focus repeat' (first | (with_reducible exact Below.refl _ _) | (with_reducible assumption) | (with_reducible refine Below.alloc ?_ ?_ _) | (with_reducible refine Below.drew ?_) | (with_reducible refine Below.setCell ?_ ?_ _) | (first | (with_reducible exact Nat.le_refl _) | (with_reducible assumption) | omega | (simp; omega) | (simp; done))))⟩

set_option maxHeartbeats 1000000 in
theorem rBid_A (k op cl st sp ex la fl fa co ru ld li pr rc bd bl bf bn : Int) (w : World) (h : LotOK k op cl st sp ex la fl fa co ru) (hr : RiseOK st cl la ld li pr rc) (hf : bf ≤ 9223372036854775807) (hb : 0 ≤ bd) (q : bl < 0 ∨ 1099511627776 < bl ∨ bf < 0 ∨ bn < 0 ∨ 1099511627776 < bn) : Calls Try.prog 13 #[.agg #[.int .i64 k, .int .i64 op, .int .i64 cl, .int .i64 st, .int .i64 sp, .int .i64 ex, .int .i64 la, .int .i64 fl, .int .i64 fa, .int .i64 co, .int .i64 ru], .agg #[.int .i64 ld, .int .i64 li, .int .i64 pr, .int .i64 rc], .agg #[.int .i64 bd, .int .i64 bl, .int .i64 bf, .int .i64 bn]] w fun e w' => e = .returned (.tuple #[.agg #[.int .i64 0, .int .i64 0, .int .i64 0, .int .i64 0], .int .i64 2]) ∧ Below w.heap.size w w' := by
  obtain ⟨h1, h2, h3, h4, h5, h6⟩ := bounds k op cl st sp ex la fl fa co ru ld li pr rc h hr
  have q' : bl < 0 ∨ 1099511627776 < bl ∨ (0 ≤ bl ∧ bl ≤ 1099511627776 ∧ bf < 0) ∨ (0 ≤ bl ∧ bl ≤ 1099511627776 ∧ 0 ≤ bf ∧ bn < 0) ∨ (0 ≤ bl ∧ bl ≤ 1099511627776 ∧ 0 ≤ bf ∧ 1099511627776 < bn) := by omega
  clear q
  rcases q' with q | q | ⟨u1, u2, q⟩ | ⟨u1, u2, u3, q⟩ | ⟨u1, u2, u3, q⟩
  all_goals
    try have hd : decide (bn ≤ 1099511627776) = false := by (rw [decide_eq_false_iff_not]; omega)
    go_enter Try.func13, Try.ntmps13
    go_wp2_with fail
    (apply Calls.mono; focus ((apply rLeast_ok <;> (first | (with_reducible assumption) | (with_reducible rfl) | omega)); done)); rintro e w1 ⟨rfl, hb1⟩
    have B1 : Below w.heap.size w w1 := (((((Below.refl w.heap.size w).alloc (Nat.le_refl _) _).alloc (by (first | (with_reducible exact Nat.le_refl _) | (with_reducible assumption) | omega | (simp; omega) | (simp; done))) _).alloc (by (first | (with_reducible exact Nat.le_refl _) | (with_reducible assumption) | omega | (simp; omega) | (simp; done))) _).alloc (by (first | (with_reducible exact Nat.le_refl _) | (with_reducible assumption) | omega | (simp; omega) | (simp; done))) _).trans (hb1.mono (by simp; omega))
    have hz1_3 : w.heap.size + 3 < w1.heap.size := by have := hb1.size; simp at this; omega
    have hz1_2 : w.heap.size + 2 < w1.heap.size := by have := hb1.size; simp at this; omega
    have hz1_1 : w.heap.size + 1 < w1.heap.size := by have := hb1.size; simp at this; omega
    have hz1_0 : w.heap.size < w1.heap.size := by have := hb1.size; simp at this; omega
    obtain ⟨hc1, hf1⟩ := bcell hb1
    clear hb1
    go_wp2
    all_goals
      refine bodyPost_ret (v := .tuple #[.agg #[.int .i64 0, .int .i64 0, .int .i64 0, .int .i64 0], .int .i64 2]) (by simp [results, Try.results13, go_sem, *]) rfl ⟨rfl, by (focus repeat' (first | (with_reducible exact Below.refl _ _) | (with_reducible assumption) | (with_reducible refine Below.alloc ?_ ?_ _) | (with_reducible refine Below.drew ?_) | (with_reducible refine Below.setCell ?_ ?_ _) | (first | (with_reducible exact Nat.le_refl _) | (with_reducible assumption) | omega | (simp; omega) | (simp; done))))⟩

set_option maxHeartbeats 1000000 in
theorem rBid_B (k op cl st sp ex la fl fa co ru ld li pr rc bd bl bf bn : Int) (w : World) (h : LotOK k op cl st sp ex la fl fa co ru) (hr : RiseOK st cl la ld li pr rc) (hf : bf ≤ 9223372036854775807) (hb : 0 ≤ bd) (v1 : 0 ≤ bl) (v2 : bl ≤ 1099511627776) (v3 : 0 ≤ bf) (v4 : 0 ≤ bn) (v5 : bn ≤ 1099511627776) (q : bn < op ∨ rc ≤ bn) : Calls Try.prog 13 #[.agg #[.int .i64 k, .int .i64 op, .int .i64 cl, .int .i64 st, .int .i64 sp, .int .i64 ex, .int .i64 la, .int .i64 fl, .int .i64 fa, .int .i64 co, .int .i64 ru], .agg #[.int .i64 ld, .int .i64 li, .int .i64 pr, .int .i64 rc], .agg #[.int .i64 bd, .int .i64 bl, .int .i64 bf, .int .i64 bn]] w fun e w' => e = .returned (.tuple #[.agg #[.int .i64 0, .int .i64 0, .int .i64 0, .int .i64 0], .int .i64 6]) ∧ Below w.heap.size w w' := by
  obtain ⟨h1, h2, h3, h4, h5, h6⟩ := bounds k op cl st sp ex la fl fa co ru ld li pr rc h hr
  go_enter Try.func13, Try.ntmps13
  go_wp2_with fail
  (apply Calls.mono; focus ((apply rLeast_ok <;> (first | (with_reducible assumption) | (with_reducible rfl) | omega)); done)); rintro e w1 ⟨rfl, hb1⟩
  have B1 : Below w.heap.size w w1 := (((((Below.refl w.heap.size w).alloc (Nat.le_refl _) _).alloc (by (first | (with_reducible exact Nat.le_refl _) | (with_reducible assumption) | omega | (simp; omega) | (simp; done))) _).alloc (by (first | (with_reducible exact Nat.le_refl _) | (with_reducible assumption) | omega | (simp; omega) | (simp; done))) _).alloc (by (first | (with_reducible exact Nat.le_refl _) | (with_reducible assumption) | omega | (simp; omega) | (simp; done))) _).trans (hb1.mono (by simp; omega))
  have hz1_3 : w.heap.size + 3 < w1.heap.size := by have := hb1.size; simp at this; omega
  have hz1_2 : w.heap.size + 2 < w1.heap.size := by have := hb1.size; simp at this; omega
  have hz1_1 : w.heap.size + 1 < w1.heap.size := by have := hb1.size; simp at this; omega
  have hz1_0 : w.heap.size < w1.heap.size := by have := hb1.size; simp at this; omega
  obtain ⟨hc1, hf1⟩ := bcell hb1
  clear hb1
  go_wp2
  all_goals
    refine bodyPost_ret (v := .tuple #[.agg #[.int .i64 0, .int .i64 0, .int .i64 0, .int .i64 0], .int .i64 6]) (by simp [results, Try.results13, go_sem, *]) rfl ⟨rfl, by (focus repeat' (first | (with_reducible exact Below.refl _ _) | (with_reducible assumption) | (with_reducible refine Below.alloc ?_ ?_ _) | (with_reducible refine Below.drew ?_) | (with_reducible refine Below.setCell ?_ ?_ _) | (first | (with_reducible exact Nat.le_refl _) | (with_reducible assumption) | omega | (simp; omega) | (simp; done))))⟩

set_option maxHeartbeats 1000000 in
theorem rBid_C (k op cl st sp ex la fl fa co ru ld li pr rc bd bl bf bn : Int) (w : World) (h : LotOK k op cl st sp ex la fl fa co ru) (hr : RiseOK st cl la ld li pr rc) (hf : bf ≤ 9223372036854775807) (hb : 0 ≤ bd) (v1 : 0 ≤ bl) (v2 : bl ≤ 1099511627776) (v3 : 0 ≤ bf) (v4 : 0 ≤ bn) (v5 : bn ≤ 1099511627776) (v6 : op ≤ bn) (v7 : bn < rc) (q : bl < leastI st sp ld li pr bd) : Calls Try.prog 13 #[.agg #[.int .i64 k, .int .i64 op, .int .i64 cl, .int .i64 st, .int .i64 sp, .int .i64 ex, .int .i64 la, .int .i64 fl, .int .i64 fa, .int .i64 co, .int .i64 ru], .agg #[.int .i64 ld, .int .i64 li, .int .i64 pr, .int .i64 rc], .agg #[.int .i64 bd, .int .i64 bl, .int .i64 bf, .int .i64 bn]] w fun e w' => e = .returned (.tuple #[.agg #[.int .i64 0, .int .i64 0, .int .i64 0, .int .i64 0], .int .i64 7]) ∧ Below w.heap.size w w' := by
  obtain ⟨h1, h2, h3, h4, h5, h6⟩ := bounds k op cl st sp ex la fl fa co ru ld li pr rc h hr
  go_enter Try.func13, Try.ntmps13
  go_wp2_with fail
  (apply Calls.mono; focus ((apply rLeast_ok <;> (first | (with_reducible assumption) | (with_reducible rfl) | omega)); done)); rintro e w1 ⟨rfl, hb1⟩
  have B1 : Below w.heap.size w w1 := (((((Below.refl w.heap.size w).alloc (Nat.le_refl _) _).alloc (by (first | (with_reducible exact Nat.le_refl _) | (with_reducible assumption) | omega | (simp; omega) | (simp; done))) _).alloc (by (first | (with_reducible exact Nat.le_refl _) | (with_reducible assumption) | omega | (simp; omega) | (simp; done))) _).alloc (by (first | (with_reducible exact Nat.le_refl _) | (with_reducible assumption) | omega | (simp; omega) | (simp; done))) _).trans (hb1.mono (by simp; omega))
  have hz1_3 : w.heap.size + 3 < w1.heap.size := by have := hb1.size; simp at this; omega
  have hz1_2 : w.heap.size + 2 < w1.heap.size := by have := hb1.size; simp at this; omega
  have hz1_1 : w.heap.size + 1 < w1.heap.size := by have := hb1.size; simp at this; omega
  have hz1_0 : w.heap.size < w1.heap.size := by have := hb1.size; simp at this; omega
  obtain ⟨hc1, hf1⟩ := bcell hb1
  clear hb1
  go_wp2
  all_goals
    refine bodyPost_ret (v := .tuple #[.agg #[.int .i64 0, .int .i64 0, .int .i64 0, .int .i64 0], .int .i64 7]) (by simp [results, Try.results13, go_sem, *]) rfl ⟨rfl, by (focus repeat' (first | (with_reducible exact Below.refl _ _) | (with_reducible assumption) | (with_reducible refine Below.alloc ?_ ?_ _) | (with_reducible refine Below.drew ?_) | (with_reducible refine Below.setCell ?_ ?_ _) | (first | (with_reducible exact Nat.le_refl _) | (with_reducible assumption) | omega | (simp; omega) | (simp; done))))⟩

set_option maxHeartbeats 1000000 in
theorem rBid_D (k op cl st sp ex la fl fa co ru ld li pr rc bd bl bf bn : Int) (w : World) (h : LotOK k op cl st sp ex la fl fa co ru) (hr : RiseOK st cl la ld li pr rc) (hf : bf ≤ 9223372036854775807) (hb : 0 ≤ bd) (v1 : 0 ≤ bl) (v2 : bl ≤ 1099511627776) (v3 : 0 ≤ bf) (v4 : 0 ≤ bn) (v5 : bn ≤ 1099511627776) (v6 : op ≤ bn) (v7 : bn < rc) (v8 : leastI st sp ld li pr bd ≤ bl) (n : (ld == bd) = false) (q : bf < bl) : Calls Try.prog 13 #[.agg #[.int .i64 k, .int .i64 op, .int .i64 cl, .int .i64 st, .int .i64 sp, .int .i64 ex, .int .i64 la, .int .i64 fl, .int .i64 fa, .int .i64 co, .int .i64 ru], .agg #[.int .i64 ld, .int .i64 li, .int .i64 pr, .int .i64 rc], .agg #[.int .i64 bd, .int .i64 bl, .int .i64 bf, .int .i64 bn]] w fun e w' => e = .returned (.tuple #[.agg #[.int .i64 0, .int .i64 0, .int .i64 0, .int .i64 0], .int .i64 8]) ∧ Below w.heap.size w w' := by
  obtain ⟨h1, h2, h3, h4, h5, h6⟩ := bounds k op cl st sp ex la fl fa co ru ld li pr rc h hr
  go_enter Try.func13, Try.ntmps13
  go_wp2_with fail
  (apply Calls.mono; focus ((apply rLeast_ok <;> (first | (with_reducible assumption) | (with_reducible rfl) | omega)); done)); rintro e w1 ⟨rfl, hb1⟩
  have B1 : Below w.heap.size w w1 := (((((Below.refl w.heap.size w).alloc (Nat.le_refl _) _).alloc (by (first | (with_reducible exact Nat.le_refl _) | (with_reducible assumption) | omega | (simp; omega) | (simp; done))) _).alloc (by (first | (with_reducible exact Nat.le_refl _) | (with_reducible assumption) | omega | (simp; omega) | (simp; done))) _).alloc (by (first | (with_reducible exact Nat.le_refl _) | (with_reducible assumption) | omega | (simp; omega) | (simp; done))) _).trans (hb1.mono (by simp; omega))
  have hz1_3 : w.heap.size + 3 < w1.heap.size := by have := hb1.size; simp at this; omega
  have hz1_2 : w.heap.size + 2 < w1.heap.size := by have := hb1.size; simp at this; omega
  have hz1_1 : w.heap.size + 1 < w1.heap.size := by have := hb1.size; simp at this; omega
  have hz1_0 : w.heap.size < w1.heap.size := by have := hb1.size; simp at this; omega
  obtain ⟨hc1, hf1⟩ := bcell hb1
  clear hb1
  go_wp2
  all_goals
    refine bodyPost_ret (v := .tuple #[.agg #[.int .i64 0, .int .i64 0, .int .i64 0, .int .i64 0], .int .i64 8]) (by simp [results, Try.results13, go_sem, *]) rfl ⟨rfl, by (focus repeat' (first | (with_reducible exact Below.refl _ _) | (with_reducible assumption) | (with_reducible refine Below.alloc ?_ ?_ _) | (with_reducible refine Below.drew ?_) | (with_reducible refine Below.setCell ?_ ?_ _) | (first | (with_reducible exact Nat.le_refl _) | (with_reducible assumption) | omega | (simp; omega) | (simp; done))))⟩

set_option maxHeartbeats 1000000 in
theorem rBid_E (k op cl st sp ex la fl fa co ru li pr rc bd bl bf bn : Int) (w : World) (h : LotOK k op cl st sp ex la fl fa co ru) (hr : RiseOK st cl la bd li pr rc) (hf : bf ≤ 9223372036854775807) (hb : 0 ≤ bd) (v1 : 0 ≤ bl) (v2 : bl ≤ 1099511627776) (v3 : 0 ≤ bf) (v4 : 0 ≤ bn) (v5 : bn ≤ 1099511627776) (v6 : op ≤ bn) (v7 : bn < rc) (v8 : leastI st sp bd li pr bd ≤ bl) (q : bf + li < bl) : Calls Try.prog 13 #[.agg #[.int .i64 k, .int .i64 op, .int .i64 cl, .int .i64 st, .int .i64 sp, .int .i64 ex, .int .i64 la, .int .i64 fl, .int .i64 fa, .int .i64 co, .int .i64 ru], .agg #[.int .i64 bd, .int .i64 li, .int .i64 pr, .int .i64 rc], .agg #[.int .i64 bd, .int .i64 bl, .int .i64 bf, .int .i64 bn]] w fun e w' => e = .returned (.tuple #[.agg #[.int .i64 0, .int .i64 0, .int .i64 0, .int .i64 0], .int .i64 8]) ∧ Below w.heap.size w w' := by
  obtain ⟨h1, h2, h3, h4, h5, h6⟩ := bounds k op cl st sp ex la fl fa co ru bd li pr rc h hr
  go_enter Try.func13, Try.ntmps13
  go_wp2_with fail
  (apply Calls.mono; focus ((apply rLeast_ok <;> (first | (with_reducible assumption) | (with_reducible rfl) | omega)); done)); rintro e w1 ⟨rfl, hb1⟩
  have B1 : Below w.heap.size w w1 := (((((Below.refl w.heap.size w).alloc (Nat.le_refl _) _).alloc (by (first | (with_reducible exact Nat.le_refl _) | (with_reducible assumption) | omega | (simp; omega) | (simp; done))) _).alloc (by (first | (with_reducible exact Nat.le_refl _) | (with_reducible assumption) | omega | (simp; omega) | (simp; done))) _).alloc (by (first | (with_reducible exact Nat.le_refl _) | (with_reducible assumption) | omega | (simp; omega) | (simp; done))) _).trans (hb1.mono (by simp; omega))
  have hz1_3 : w.heap.size + 3 < w1.heap.size := by have := hb1.size; simp at this; omega
  have hz1_2 : w.heap.size + 2 < w1.heap.size := by have := hb1.size; simp at this; omega
  have hz1_1 : w.heap.size + 1 < w1.heap.size := by have := hb1.size; simp at this; omega
  have hz1_0 : w.heap.size < w1.heap.size := by have := hb1.size; simp at this; omega
  obtain ⟨hc1, hf1⟩ := bcell hb1
  clear hb1
  go_wp2
  all_goals
    refine bodyPost_ret (v := .tuple #[.agg #[.int .i64 0, .int .i64 0, .int .i64 0, .int .i64 0], .int .i64 8]) (by simp [results, Try.results13, go_sem, *]) rfl ⟨rfl, by (focus repeat' (first | (with_reducible exact Below.refl _ _) | (with_reducible assumption) | (with_reducible refine Below.alloc ?_ ?_ _) | (with_reducible refine Below.drew ?_) | (with_reducible refine Below.setCell ?_ ?_ _) | (first | (with_reducible exact Nat.le_refl _) | (with_reducible assumption) | omega | (simp; omega) | (simp; done))))⟩

theorem rBid_bad (k op cl st sp ex la fl fa co ru ld li pr rc bd bl bf bn : Int) (w : World) (h : LotOK k op cl st sp ex la fl fa co ru) (hr : RiseOK st cl la ld li pr rc) (hf : bf ≤ 9223372036854775807) (he : bidErr op st sp ld li pr rc bd bl bf bn ≠ 0) : Calls Try.prog 13 #[.agg #[.int .i64 k, .int .i64 op, .int .i64 cl, .int .i64 st, .int .i64 sp, .int .i64 ex, .int .i64 la, .int .i64 fl, .int .i64 fa, .int .i64 co, .int .i64 ru], .agg #[.int .i64 ld, .int .i64 li, .int .i64 pr, .int .i64 rc], .agg #[.int .i64 bd, .int .i64 bl, .int .i64 bf, .int .i64 bn]] w fun e w' => e = .returned (.tuple #[.agg #[.int .i64 0, .int .i64 0, .int .i64 0, .int .i64 0], .int .i64 (bidErr op st sp ld li pr rc bd bl bf bn)]) ∧ Below w.heap.size w w' := by
  by_cases hb : 0 ≤ bd
  · by_cases qa : bl < 0 ∨ 1099511627776 < bl ∨ bf < 0 ∨ bn < 0 ∨ 1099511627776 < bn
    · rw [show bidErr op st sp ld li pr rc bd bl bf bn = 2 from by unfold bidErr; rw [if_pos (by omega)]]
      exact rBid_A _ _ _ _ _ _ _ _ _ _ _ _ _ _ _ _ _ _ _ w h hr hf hb qa
    · have na : ¬ (bd < 0 ∨ bl < 0 ∨ 1099511627776 < bl ∨ bf < 0 ∨ bn < 0 ∨ 1099511627776 < bn) := by omega
      by_cases qb : bn < op ∨ rc ≤ bn
      · rw [show bidErr op st sp ld li pr rc bd bl bf bn = 6 from by unfold bidErr; rw [if_neg na, if_pos qb]]
        exact rBid_B _ _ _ _ _ _ _ _ _ _ _ _ _ _ _ _ _ _ _ w h hr hf hb (by omega) (by omega) (by omega) (by omega) (by omega) qb
      · by_cases qc : bl < leastI st sp ld li pr bd
        · rw [show bidErr op st sp ld li pr rc bd bl bf bn = 7 from by unfold bidErr; rw [if_neg na, if_neg qb, if_pos qc]]
          exact rBid_C _ _ _ _ _ _ _ _ _ _ _ _ _ _ _ _ _ _ _ w h hr hf hb (by omega) (by omega) (by omega) (by omega) (by omega) (by omega) (by omega) qc
        · by_cases qd : (bd = ld ∧ bf + li < bl) ∨ (bd ≠ ld ∧ bf < bl)
          · rw [show bidErr op st sp ld li pr rc bd bl bf bn = 8 from by unfold bidErr; rw [if_neg na, if_neg qb, if_neg qc, if_pos qd]]
            rcases qd with ⟨e, q⟩ | ⟨e, q⟩
            · subst e
              exact rBid_E _ _ _ _ _ _ _ _ _ _ _ _ _ _ _ _ _ _ w h hr hf hb (by omega) (by omega) (by omega) (by omega) (by omega) (by omega) (by omega) (by omega) q
            · exact rBid_D _ _ _ _ _ _ _ _ _ _ _ _ _ _ _ _ _ _ _ w h hr hf hb (by omega) (by omega) (by omega) (by omega) (by omega) (by omega) (by omega) (by omega) (by rw [beq_eq_false_iff_ne]; exact fun x => e x.symm) q
          · exact absurd (by unfold bidErr; rw [if_neg na, if_neg qb, if_neg qc, if_neg qd]) he
  · rw [show bidErr op st sp ld li pr rc bd bl bf bn = 2 from by unfold bidErr; rw [if_pos (by omega)]]
    exact rBid_none _ _ _ _ _ _ _ _ _ _ _ _ _ _ _ _ _ _ _ w (fun x => hb x.2)
theorem rBid_no (k op cl st sp ex la fl fa co ru ld li pr rc bd bl bf bn : Int) (w : World) (h : ¬ (LotOK k op cl st sp ex la fl fa co ru ∧ RiseOK st cl la ld li pr rc)) : Calls Try.prog 13 #[.agg #[.int .i64 k, .int .i64 op, .int .i64 cl, .int .i64 st, .int .i64 sp, .int .i64 ex, .int .i64 la, .int .i64 fl, .int .i64 fa, .int .i64 co, .int .i64 ru], .agg #[.int .i64 ld, .int .i64 li, .int .i64 pr, .int .i64 rc], .agg #[.int .i64 bd, .int .i64 bl, .int .i64 bf, .int .i64 bn]] w fun e w' => e = .returned (.tuple #[.agg #[.int .i64 0, .int .i64 0, .int .i64 0, .int .i64 0], .int .i64 2]) ∧ Below w.heap.size w w' :=
  rBid_none _ _ _ _ _ _ _ _ _ _ _ _ _ _ _ _ _ _ _ w (fun x => h x.1)
end Go.Proofs.Ytbbdneekfejjkaa
