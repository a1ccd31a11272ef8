import Derived.Test.YtbbdneekfejjkaaU1
namespace Go.Proofs.Ytbbdneekfejjkaa
open Go.ChangeShapes Go.WideShapes Go.ChangeAt Go.RowKit
set_option linter.unusedSimpArgs false
set_option linter.unusedVariables false

theorem leastOf (k op cl st sp ex la fl fa co ru ld li pr rc bd bl bf bn : Int) (he : bidErr op st sp ld li pr rc bd bl bf bn = 0) : leastI st sp ld li pr bd ≤ bl := by
  unfold bidErr at he
  by_cases a : bd < 0 ∨ bl < 0 ∨ 1099511627776 < bl ∨ bf < 0 ∨ bn < 0 ∨ 1099511627776 < bn
  · rw [if_pos a] at he; omega
  · rw [if_neg a] at he
    by_cases b : bn < op ∨ rc ≤ bn
    · rw [if_pos b] at he; omega
    · rw [if_neg b] at he
      by_cases c : bl < leastI st sp ld li pr bd
      · rw [if_pos c] at he; omega
      · omega
theorem budgetOf (k op cl st sp ex la fl fa co ru ld li pr rc bd bl bf bn : Int) (he : bidErr op st sp ld li pr rc bd bl bf bn = 0) : ¬ ((bd = ld ∧ bf + li < bl) ∨ (bd ≠ ld ∧ bf < bl)) := by
  unfold bidErr at he
  by_cases a : bd < 0 ∨ bl < 0 ∨ 1099511627776 < bl ∨ bf < 0 ∨ bn < 0 ∨ 1099511627776 < bn
  · rw [if_pos a] at he; omega
  · rw [if_neg a] at he
    by_cases b : bn < op ∨ rc ≤ bn
    · rw [if_pos b] at he; omega
    · rw [if_neg b] at he
      by_cases c : bl < leastI st sp ld li pr bd
      · rw [if_pos c] at he; omega
      · rw [if_neg c] at he
        intro d
        rw [if_pos d] at he; omega

set_option maxHeartbeats 1000000 in
theorem rBid_lead_s (k op cl st sp ex la fl fa co ru ld li pr rc bd bl bf bn : Int) (w : World) (h : LotOK k op cl st sp ex la fl fa co ru) (hr : RiseOK st cl la ld li pr rc) (hf : bf ≤ 9223372036854775807) (he : bidErr op st sp ld li pr rc bd bl bf bn = 0) (c : ld < 0) (d : rc - bn < ex) (cx : la < bn + ex) : Calls Try.prog 13 #[.agg #[.int .i64 k, .int .i64 op, .int .i64 cl, .int .i64 st, .int .i64 sp, .int .i64 ex, .int .i64 la, .int .i64 fl, .int .i64 fa, .int .i64 co, .int .i64 ru], .agg #[.int .i64 ld, .int .i64 li, .int .i64 pr, .int .i64 rc], .agg #[.int .i64 bd, .int .i64 bl, .int .i64 bf, .int .i64 bn]] w fun e w' => e = .returned (.tuple #[.agg #[.int .i64 (nLd ld li bd bl), .int .i64 (nLi ld li bd bl), .int .i64 (nPr st sp ld li pr bd bl), .int .i64 (nCl ex la rc bn)], .int .i64 0]) ∧ Below w.heap.size w w' := by
  obtain ⟨h1, h2, h3, h4, h5, h6⟩ := bounds k op cl st sp ex la fl fa co ru ld li pr rc h hr
  obtain ⟨g1, g2, g3, g4, g5, g6, g7, g8, g9, g10, g11, g12, g13, g14⟩ := goodBid k op cl st sp ex la fl fa co ru ld li pr rc bd bl bf bn h hr he
  have q1 := leastOf k op cl st sp ex la fl fa co ru ld li pr rc bd bl bf bn he
  have q2 := budgetOf k op cl st sp ex la fl fa co ru ld li pr rc bd bl bf bn he
  have q3 : bl ≤ bf := by omega
  have n : (ld == bd) = false := by rw [beq_eq_false_iff_ne]; omega
  clear q2 he
  go_enter Try.func13, Try.ntmps13
  go_wp2_with fail
  (apply Calls.mono; focus ((apply rLeast_ok <;> (first | (with_reducible assumption) | (with_reducible rfl) | omega)); done)); rintro e w1 ⟨rfl, hb1⟩
  have B1 : Below w.heap.size w w1 := (((((Below.refl w.heap.size w).alloc (Nat.le_refl _) _).alloc (by (first | (with_reducible exact Nat.le_refl _) | (with_reducible assumption) | omega | (simp; omega) | (simp; done))) _).alloc (by (first | (with_reducible exact Nat.le_refl _) | (with_reducible assumption) | omega | (simp; omega) | (simp; done))) _).alloc (by (first | (with_reducible exact Nat.le_refl _) | (with_reducible assumption) | omega | (simp; omega) | (simp; done))) _).trans (hb1.mono (by simp; omega))
  have hz1_3 : w.heap.size + 3 < w1.heap.size := by have := hb1.size; simp at this; omega
  have hz1_2 : w.heap.size + 2 < w1.heap.size := by have := hb1.size; simp at this; omega
  have hz1_1 : w.heap.size + 1 < w1.heap.size := by have := hb1.size; simp at this; omega
  have hz1_0 : w.heap.size < w1.heap.size := by have := hb1.size; simp at this; omega
  obtain ⟨hc1, hf1⟩ := bcell hb1
  clear hb1
  go_wp2
  go_region
  go_wp2
  refine bodyPost_ret (v := .tuple #[.agg #[.int .i64 (bd), .int .i64 (bl), .int .i64 (st), .int .i64 (la)], .int .i64 0]) (by simp [results, Try.results13, go_sem, *]) rfl ⟨ret_rise (eLd_lead c) (eLi_lead c) (ePr_lead c) (eCl_s d cx), by (focus repeat' (first | (with_reducible exact Below.refl _ _) | (with_reducible assumption) | (with_reducible refine Below.alloc ?_ ?_ _) | (with_reducible refine Below.drew ?_) | (with_reducible refine Below.setCell ?_ ?_ _) | (first | (with_reducible exact Nat.le_refl _) | (with_reducible assumption) | omega | (simp; omega) | (simp; done))))⟩

set_option maxHeartbeats 1000000 in
theorem rBid_lead_x (k op cl st sp ex la fl fa co ru ld li pr rc bd bl bf bn : Int) (w : World) (h : LotOK k op cl st sp ex la fl fa co ru) (hr : RiseOK st cl la ld li pr rc) (hf : bf ≤ 9223372036854775807) (he : bidErr op st sp ld li pr rc bd bl bf bn = 0) (c : ld < 0) (d : rc - bn < ex) (cx : bn + ex ≤ la) : Calls Try.prog 13 #[.agg #[.int .i64 k, .int .i64 op, .int .i64 cl, .int .i64 st, .int .i64 sp, .int .i64 ex, .int .i64 la, .int .i64 fl, .int .i64 fa, .int .i64 co, .int .i64 ru], .agg #[.int .i64 ld, .int .i64 li, .int .i64 pr, .int .i64 rc], .agg #[.int .i64 bd, .int .i64 bl, .int .i64 bf, .int .i64 bn]] w fun e w' => e = .returned (.tuple #[.agg #[.int .i64 (nLd ld li bd bl), .int .i64 (nLi ld li bd bl), .int .i64 (nPr st sp ld li pr bd bl), .int .i64 (nCl ex la rc bn)], .int .i64 0]) ∧ Below w.heap.size w w' := by
  obtain ⟨h1, h2, h3, h4, h5, h6⟩ := bounds k op cl st sp ex la fl fa co ru ld li pr rc h hr
  obtain ⟨g1, g2, g3, g4, g5, g6, g7, g8, g9, g10, g11, g12, g13, g14⟩ := goodBid k op cl st sp ex la fl fa co ru ld li pr rc bd bl bf bn h hr he
  have q1 := leastOf k op cl st sp ex la fl fa co ru ld li pr rc bd bl bf bn he
  have q2 := budgetOf k op cl st sp ex la fl fa co ru ld li pr rc bd bl bf bn he
  have q3 : bl ≤ bf := by omega
  have n : (ld == bd) = false := by rw [beq_eq_false_iff_ne]; omega
  clear q2 he
  go_enter Try.func13, Try.ntmps13
  go_wp2_with fail
  (apply Calls.mono; focus ((apply rLeast_ok <;> (first | (with_reducible assumption) | (with_reducible rfl) | omega)); done)); rintro e w1 ⟨rfl, hb1⟩
  have B1 : Below w.heap.size w w1 := (((((Below.refl w.heap.size w).alloc (Nat.le_refl _) _).alloc (by (first | (with_reducible exact Nat.le_refl _) | (with_reducible assumption) | omega | (simp; omega) | (simp; done))) _).alloc (by (first | (with_reducible exact Nat.le_refl _) | (with_reducible assumption) | omega | (simp; omega) | (simp; done))) _).alloc (by (first | (with_reducible exact Nat.le_refl _) | (with_reducible assumption) | omega | (simp; omega) | (simp; done))) _).trans (hb1.mono (by simp; omega))
  have hz1_3 : w.heap.size + 3 < w1.heap.size := by have := hb1.size; simp at this; omega
  have hz1_2 : w.heap.size + 2 < w1.heap.size := by have := hb1.size; simp at this; omega
  have hz1_1 : w.heap.size + 1 < w1.heap.size := by have := hb1.size; simp at this; omega
  have hz1_0 : w.heap.size < w1.heap.size := by have := hb1.size; simp at this; omega
  obtain ⟨hc1, hf1⟩ := bcell hb1
  clear hb1
  go_wp2
  go_region
  go_wp2
  refine bodyPost_ret (v := .tuple #[.agg #[.int .i64 (bd), .int .i64 (bl), .int .i64 (st), .int .i64 (bn + ex)], .int .i64 0]) (by simp [results, Try.results13, go_sem, *]) rfl ⟨ret_rise (eLd_lead c) (eLi_lead c) (ePr_lead c) (eCl_x d cx), by (focus repeat' (first | (with_reducible exact Below.refl _ _) | (with_reducible assumption) | (with_reducible refine Below.alloc ?_ ?_ _) | (with_reducible refine Below.drew ?_) | (with_reducible refine Below.setCell ?_ ?_ _) | (first | (with_reducible exact Nat.le_refl _) | (with_reducible assumption) | omega | (simp; omega) | (simp; done))))⟩

set_option maxHeartbeats 1000000 in
theorem rBid_lead_k (k op cl st sp ex la fl fa co ru ld li pr rc bd bl bf bn : Int) (w : World) (h : LotOK k op cl st sp ex la fl fa co ru) (hr : RiseOK st cl la ld li pr rc) (hf : bf ≤ 9223372036854775807) (he : bidErr op st sp ld li pr rc bd bl bf bn = 0) (c : ld < 0) (d : ex ≤ rc - bn) : Calls Try.prog 13 #[.agg #[.int .i64 k, .int .i64 op, .int .i64 cl, .int .i64 st, .int .i64 sp, .int .i64 ex, .int .i64 la, .int .i64 fl, .int .i64 fa, .int .i64 co, .int .i64 ru], .agg #[.int .i64 ld, .int .i64 li, .int .i64 pr, .int .i64 rc], .agg #[.int .i64 bd, .int .i64 bl, .int .i64 bf, .int .i64 bn]] w fun e w' => e = .returned (.tuple #[.agg #[.int .i64 (nLd ld li bd bl), .int .i64 (nLi ld li bd bl), .int .i64 (nPr st sp ld li pr bd bl), .int .i64 (nCl ex la rc bn)], .int .i64 0]) ∧ Below w.heap.size w w' := by
  obtain ⟨h1, h2, h3, h4, h5, h6⟩ := bounds k op cl st sp ex la fl fa co ru ld li pr rc h hr
  obtain ⟨g1, g2, g3, g4, g5, g6, g7, g8, g9, g10, g11, g12, g13, g14⟩ := goodBid k op cl st sp ex la fl fa co ru ld li pr rc bd bl bf bn h hr he
  have q1 := leastOf k op cl st sp ex la fl fa co ru ld li pr rc bd bl bf bn he
  have q2 := budgetOf k op cl st sp ex la fl fa co ru ld li pr rc bd bl bf bn he
  have q3 : bl ≤ bf := by omega
  have n : (ld == bd) = false := by rw [beq_eq_false_iff_ne]; omega
  clear q2 he
  go_enter Try.func13, Try.ntmps13
  go_wp2_with fail
  (apply Calls.mono; focus ((apply rLeast_ok <;> (first | (with_reducible assumption) | (with_reducible rfl) | omega)); done)); rintro e w1 ⟨rfl, hb1⟩
  have B1 : Below w.heap.size w w1 := (((((Below.refl w.heap.size w).alloc (Nat.le_refl _) _).alloc (by (first | (with_reducible exact Nat.le_refl _) | (with_reducible assumption) | omega | (simp; omega) | (simp; done))) _).alloc (by (first | (with_reducible exact Nat.le_refl _) | (with_reducible assumption) | omega | (simp; omega) | (simp; done))) _).alloc (by (first | (with_reducible exact Nat.le_refl _) | (with_reducible assumption) | omega | (simp; omega) | (simp; done))) _).trans (hb1.mono (by simp; omega))
  have hz1_3 : w.heap.size + 3 < w1.heap.size := by have := hb1.size; simp at this; omega
  have hz1_2 : w.heap.size + 2 < w1.heap.size := by have := hb1.size; simp at this; omega
  have hz1_1 : w.heap.size + 1 < w1.heap.size := by have := hb1.size; simp at this; omega
  have hz1_0 : w.heap.size < w1.heap.size := by have := hb1.size; simp at this; omega
  obtain ⟨hc1, hf1⟩ := bcell hb1
  clear hb1
  go_wp2
  go_region
  go_wp2
  refine bodyPost_ret (v := .tuple #[.agg #[.int .i64 (bd), .int .i64 (bl), .int .i64 (st), .int .i64 (rc)], .int .i64 0]) (by simp [results, Try.results13, go_sem, *]) rfl ⟨ret_rise (eLd_lead c) (eLi_lead c) (ePr_lead c) (eCl_k d), by (focus repeat' (first | (with_reducible exact Below.refl _ _) | (with_reducible assumption) | (with_reducible refine Below.alloc ?_ ?_ _) | (with_reducible refine Below.drew ?_) | (with_reducible refine Below.setCell ?_ ?_ _) | (first | (with_reducible exact Nat.le_refl _) | (with_reducible assumption) | omega | (simp; omega) | (simp; done))))⟩

set_option maxHeartbeats 1000000 in
theorem rBid_own_s (k op cl st sp ex la fl fa co ru li pr rc bd bl bf bn : Int) (w : World) (h : LotOK k op cl st sp ex la fl fa co ru) (hr : RiseOK st cl la bd li pr rc) (hf : bf ≤ 9223372036854775807) (he : bidErr op st sp bd li pr rc bd bl bf bn = 0) (c : 0 ≤ bd) (d : rc - bn < ex) (cx : la < bn + ex) : Calls Try.prog 13 #[.agg #[.int .i64 k, .int .i64 op, .int .i64 cl, .int .i64 st, .int .i64 sp, .int .i64 ex, .int .i64 la, .int .i64 fl, .int .i64 fa, .int .i64 co, .int .i64 ru], .agg #[.int .i64 bd, .int .i64 li, .int .i64 pr, .int .i64 rc], .agg #[.int .i64 bd, .int .i64 bl, .int .i64 bf, .int .i64 bn]] w fun e w' => e = .returned (.tuple #[.agg #[.int .i64 (nLd bd li bd bl), .int .i64 (nLi bd li bd bl), .int .i64 (nPr st sp bd li pr bd bl), .int .i64 (nCl ex la rc bn)], .int .i64 0]) ∧ Below w.heap.size w w' := by
  obtain ⟨h1, h2, h3, h4, h5, h6⟩ := bounds k op cl st sp ex la fl fa co ru bd li pr rc h hr
  obtain ⟨g1, g2, g3, g4, g5, g6, g7, g8, g9, g10, g11, g12, g13, g14⟩ := goodBid k op cl st sp ex la fl fa co ru bd li pr rc bd bl bf bn h hr he
  have q1 := leastOf k op cl st sp ex la fl fa co ru bd li pr rc bd bl bf bn he
  have q2 := budgetOf k op cl st sp ex la fl fa co ru bd li pr rc bd bl bf bn he
  have q3 : bl - li ≤ bf := by omega
  clear q2 he
  go_enter Try.func13, Try.ntmps13
  go_wp2_with fail
  (apply Calls.mono; focus ((apply rLeast_ok <;> (first | (with_reducible assumption) | (with_reducible rfl) | omega)); done)); rintro e w1 ⟨rfl, hb1⟩
  have B1 : Below w.heap.size w w1 := (((((Below.refl w.heap.size w).alloc (Nat.le_refl _) _).alloc (by (first | (with_reducible exact Nat.le_refl _) | (with_reducible assumption) | omega | (simp; omega) | (simp; done))) _).alloc (by (first | (with_reducible exact Nat.le_refl _) | (with_reducible assumption) | omega | (simp; omega) | (simp; done))) _).alloc (by (first | (with_reducible exact Nat.le_refl _) | (with_reducible assumption) | omega | (simp; omega) | (simp; done))) _).trans (hb1.mono (by simp; omega))
  have hz1_3 : w.heap.size + 3 < w1.heap.size := by have := hb1.size; simp at this; omega
  have hz1_2 : w.heap.size + 2 < w1.heap.size := by have := hb1.size; simp at this; omega
  have hz1_1 : w.heap.size + 1 < w1.heap.size := by have := hb1.size; simp at this; omega
  have hz1_0 : w.heap.size < w1.heap.size := by have := hb1.size; simp at this; omega
  obtain ⟨hc1, hf1⟩ := bcell hb1
  clear hb1
  go_wp2
  refine bodyPost_ret (v := .tuple #[.agg #[.int .i64 (bd), .int .i64 (bl), .int .i64 (pr), .int .i64 (la)], .int .i64 0]) (by simp [results, Try.results13, go_sem, *]) rfl ⟨ret_rise (eLd_own c) (eLi_own c) (ePr_own c) (eCl_s d cx), by (focus repeat' (first | (with_reducible exact Below.refl _ _) | (with_reducible assumption) | (with_reducible refine Below.alloc ?_ ?_ _) | (with_reducible refine Below.drew ?_) | (with_reducible refine Below.setCell ?_ ?_ _) | (first | (with_reducible exact Nat.le_refl _) | (with_reducible assumption) | omega | (simp; omega) | (simp; done))))⟩

set_option maxHeartbeats 1000000 in
theorem rBid_own_x (k op cl st sp ex la fl fa co ru li pr rc bd bl bf bn : Int) (w : World) (h : LotOK k op cl st sp ex la fl fa co ru) (hr : RiseOK st cl la bd li pr rc) (hf : bf ≤ 9223372036854775807) (he : bidErr op st sp bd li pr rc bd bl bf bn = 0) (c : 0 ≤ bd) (d : rc - bn < ex) (cx : bn + ex ≤ la) : Calls Try.prog 13 #[.agg #[.int .i64 k, .int .i64 op, .int .i64 cl, .int .i64 st, .int .i64 sp, .int .i64 ex, .int .i64 la, .int .i64 fl, .int .i64 fa, .int .i64 co, .int .i64 ru], .agg #[.int .i64 bd, .int .i64 li, .int .i64 pr, .int .i64 rc], .agg #[.int .i64 bd, .int .i64 bl, .int .i64 bf, .int .i64 bn]] w fun e w' => e = .returned (.tuple #[.agg #[.int .i64 (nLd bd li bd bl), .int .i64 (nLi bd li bd bl), .int .i64 (nPr st sp bd li pr bd bl), .int .i64 (nCl ex la rc bn)], .int .i64 0]) ∧ Below w.heap.size w w' := by
  obtain ⟨h1, h2, h3, h4, h5, h6⟩ := bounds k op cl st sp ex la fl fa co ru bd li pr rc h hr
  obtain ⟨g1, g2, g3, g4, g5, g6, g7, g8, g9, g10, g11, g12, g13, g14⟩ := goodBid k op cl st sp ex la fl fa co ru bd li pr rc bd bl bf bn h hr he
  have q1 := leastOf k op cl st sp ex la fl fa co ru bd li pr rc bd bl bf bn he
  have q2 := budgetOf k op cl st sp ex la fl fa co ru bd li pr rc bd bl bf bn he
  have q3 : bl - li ≤ bf := by omega
  clear q2 he
  go_enter Try.func13, Try.ntmps13
  go_wp2_with fail
  (apply Calls.mono; focus ((apply rLeast_ok <;> (first | (with_reducible assumption) | (with_reducible rfl) | omega)); done)); rintro e w1 ⟨rfl, hb1⟩
  have B1 : Below w.heap.size w w1 := (((((Below.refl w.heap.size w).alloc (Nat.le_refl _) _).alloc (by (first | (with_reducible exact Nat.le_refl _) | (with_reducible assumption) | omega | (simp; omega) | (simp; done))) _).alloc (by (first | (with_reducible exact Nat.le_refl _) | (with_reducible assumption) | omega | (simp; omega) | (simp; done))) _).alloc (by (first | (with_reducible exact Nat.le_refl _) | (with_reducible assumption) | omega | (simp; omega) | (simp; done))) _).trans (hb1.mono (by simp; omega))
  have hz1_3 : w.heap.size + 3 < w1.heap.size := by have := hb1.size; simp at this; omega
  have hz1_2 : w.heap.size + 2 < w1.heap.size := by have := hb1.size; simp at this; omega
  have hz1_1 : w.heap.size + 1 < w1.heap.size := by have := hb1.size; simp at this; omega
  have hz1_0 : w.heap.size < w1.heap.size := by have := hb1.size; simp at this; omega
  obtain ⟨hc1, hf1⟩ := bcell hb1
  clear hb1
  go_wp2
  refine bodyPost_ret (v := .tuple #[.agg #[.int .i64 (bd), .int .i64 (bl), .int .i64 (pr), .int .i64 (bn + ex)], .int .i64 0]) (by simp [results, Try.results13, go_sem, *]) rfl ⟨ret_rise (eLd_own c) (eLi_own c) (ePr_own c) (eCl_x d cx), by (focus repeat' (first | (with_reducible exact Below.refl _ _) | (with_reducible assumption) | (with_reducible refine Below.alloc ?_ ?_ _) | (with_reducible refine Below.drew ?_) | (with_reducible refine Below.setCell ?_ ?_ _) | (first | (with_reducible exact Nat.le_refl _) | (with_reducible assumption) | omega | (simp; omega) | (simp; done))))⟩

set_option maxHeartbeats 1000000 in
theorem rBid_own_k (k op cl st sp ex la fl fa co ru li pr rc bd bl bf bn : Int) (w : World) (h : LotOK k op cl st sp ex la fl fa co ru) (hr : RiseOK st cl la bd li pr rc) (hf : bf ≤ 9223372036854775807) (he : bidErr op st sp bd li pr rc bd bl bf bn = 0) (c : 0 ≤ bd) (d : ex ≤ rc - bn) : Calls Try.prog 13 #[.agg #[.int .i64 k, .int .i64 op, .int .i64 cl, .int .i64 st, .int .i64 sp, .int .i64 ex, .int .i64 la, .int .i64 fl, .int .i64 fa, .int .i64 co, .int .i64 ru], .agg #[.int .i64 bd, .int .i64 li, .int .i64 pr, .int .i64 rc], .agg #[.int .i64 bd, .int .i64 bl, .int .i64 bf, .int .i64 bn]] w fun e w' => e = .returned (.tuple #[.agg #[.int .i64 (nLd bd li bd bl), .int .i64 (nLi bd li bd bl), .int .i64 (nPr st sp bd li pr bd bl), .int .i64 (nCl ex la rc bn)], .int .i64 0]) ∧ Below w.heap.size w w' := by
  obtain ⟨h1, h2, h3, h4, h5, h6⟩ := bounds k op cl st sp ex la fl fa co ru bd li pr rc h hr
  obtain ⟨g1, g2, g3, g4, g5, g6, g7, g8, g9, g10, g11, g12, g13, g14⟩ := goodBid k op cl st sp ex la fl fa co ru bd li pr rc bd bl bf bn h hr he
  have q1 := leastOf k op cl st sp ex la fl fa co ru bd li pr rc bd bl bf bn he
  have q2 := budgetOf k op cl st sp ex la fl fa co ru bd li pr rc bd bl bf bn he
  have q3 : bl - li ≤ bf := by omega
  clear q2 he
  go_enter Try.func13, Try.ntmps13
  go_wp2_with fail
  (apply Calls.mono; focus ((apply rLeast_ok <;> (first | (with_reducible assumption) | (with_reducible rfl) | omega)); done)); rintro e w1 ⟨rfl, hb1⟩
  have B1 : Below w.heap.size w w1 := (((((Below.refl w.heap.size w).alloc (Nat.le_refl _) _).alloc (by (first | (with_reducible exact Nat.le_refl _) | (with_reducible assumption) | omega | (simp; omega) | (simp; done))) _).alloc (by (first | (with_reducible exact Nat.le_refl _) | (with_reducible assumption) | omega | (simp; omega) | (simp; done))) _).alloc (by (first | (with_reducible exact Nat.le_refl _) | (with_reducible assumption) | omega | (simp; omega) | (simp; done))) _).trans (hb1.mono (by simp; omega))
  have hz1_3 : w.heap.size + 3 < w1.heap.size := by have := hb1.size; simp at this; omega
  have hz1_2 : w.heap.size + 2 < w1.heap.size := by have := hb1.size; simp at this; omega
  have hz1_1 : w.heap.size + 1 < w1.heap.size := by have := hb1.size; simp at this; omega
  have hz1_0 : w.heap.size < w1.heap.size := by have := hb1.size; simp at this; omega
  obtain ⟨hc1, hf1⟩ := bcell hb1
  clear hb1
  go_wp2
  refine bodyPost_ret (v := .tuple #[.agg #[.int .i64 (bd), .int .i64 (bl), .int .i64 (pr), .int .i64 (rc)], .int .i64 0]) (by simp [results, Try.results13, go_sem, *]) rfl ⟨ret_rise (eLd_own c) (eLi_own c) (ePr_own c) (eCl_k d), by (focus repeat' (first | (with_reducible exact Below.refl _ _) | (with_reducible assumption) | (with_reducible refine Below.alloc ?_ ?_ _) | (with_reducible refine Below.drew ?_) | (with_reducible refine Below.setCell ?_ ?_ _) | (first | (with_reducible exact Nat.le_refl _) | (with_reducible assumption) | omega | (simp; omega) | (simp; done))))⟩

set_option maxHeartbeats 1000000 in
theorem rBid_over1_s (k op cl st sp ex la fl fa co ru ld li pr rc bd bl bf bn : Int) (w : World) (h : LotOK k op cl st sp ex la fl fa co ru) (hr : RiseOK st cl la ld li pr rc) (hf : bf ≤ 9223372036854775807) (he : bidErr op st sp ld li pr rc bd bl bf bn = 0) (c : 0 ≤ ld) (n : (ld == bd) = false) (o : li < bl) (q : bl < li + sp) (d : rc - bn < ex) (cx : la < bn + ex) : Calls Try.prog 13 #[.agg #[.int .i64 k, .int .i64 op, .int .i64 cl, .int .i64 st, .int .i64 sp, .int .i64 ex, .int .i64 la, .int .i64 fl, .int .i64 fa, .int .i64 co, .int .i64 ru], .agg #[.int .i64 ld, .int .i64 li, .int .i64 pr, .int .i64 rc], .agg #[.int .i64 bd, .int .i64 bl, .int .i64 bf, .int .i64 bn]] w fun e w' => e = .returned (.tuple #[.agg #[.int .i64 (nLd ld li bd bl), .int .i64 (nLi ld li bd bl), .int .i64 (nPr st sp ld li pr bd bl), .int .i64 (nCl ex la rc bn)], .int .i64 0]) ∧ Below w.heap.size w w' := by
  obtain ⟨h1, h2, h3, h4, h5, h6⟩ := bounds k op cl st sp ex la fl fa co ru ld li pr rc h hr
  obtain ⟨g1, g2, g3, g4, g5, g6, g7, g8, g9, g10, g11, g12, g13, g14⟩ := goodBid k op cl st sp ex la fl fa co ru ld li pr rc bd bl bf bn h hr he
  have q1 := leastOf k op cl st sp ex la fl fa co ru ld li pr rc bd bl bf bn he
  have q2 := budgetOf k op cl st sp ex la fl fa co ru ld li pr rc bd bl bf bn he
  have q3 : bl ≤ bf := by have e : ld ≠ bd := by simpa using n
                          omega
  clear q2 he
  go_enter Try.func13, Try.ntmps13
  go_wp2_with fail
  (apply Calls.mono; focus ((apply rLeast_ok <;> (first | (with_reducible assumption) | (with_reducible rfl) | omega)); done)); rintro e w1 ⟨rfl, hb1⟩
  have B1 : Below w.heap.size w w1 := (((((Below.refl w.heap.size w).alloc (Nat.le_refl _) _).alloc (by (first | (with_reducible exact Nat.le_refl _) | (with_reducible assumption) | omega | (simp; omega) | (simp; done))) _).alloc (by (first | (with_reducible exact Nat.le_refl _) | (with_reducible assumption) | omega | (simp; omega) | (simp; done))) _).alloc (by (first | (with_reducible exact Nat.le_refl _) | (with_reducible assumption) | omega | (simp; omega) | (simp; done))) _).trans (hb1.mono (by simp; omega))
  have hz1_3 : w.heap.size + 3 < w1.heap.size := by have := hb1.size; simp at this; omega
  have hz1_2 : w.heap.size + 2 < w1.heap.size := by have := hb1.size; simp at this; omega
  have hz1_1 : w.heap.size + 1 < w1.heap.size := by have := hb1.size; simp at this; omega
  have hz1_0 : w.heap.size < w1.heap.size := by have := hb1.size; simp at this; omega
  obtain ⟨hc1, hf1⟩ := bcell hb1
  clear hb1
  go_wp2
  go_region
  go_wp2
  refine bodyPost_ret (v := .tuple #[.agg #[.int .i64 (bd), .int .i64 (bl), .int .i64 (bl), .int .i64 (la)], .int .i64 0]) (by simp [results, Try.results13, go_sem, *]) rfl ⟨ret_rise (eLd_over c n o) (eLi_over c n o) (ePr_over1 c n o q) (eCl_s d cx), by (focus repeat' (first | (with_reducible exact Below.refl _ _) | (with_reducible assumption) | (with_reducible refine Below.alloc ?_ ?_ _) | (with_reducible refine Below.drew ?_) | (with_reducible refine Below.setCell ?_ ?_ _) | (first | (with_reducible exact Nat.le_refl _) | (with_reducible assumption) | omega | (simp; omega) | (simp; done))))⟩

set_option maxHeartbeats 1000000 in
theorem rBid_over1_x (k op cl st sp ex la fl fa co ru ld li pr rc bd bl bf bn : Int) (w : World) (h : LotOK k op cl st sp ex la fl fa co ru) (hr : RiseOK st cl la ld li pr rc) (hf : bf ≤ 9223372036854775807) (he : bidErr op st sp ld li pr rc bd bl bf bn = 0) (c : 0 ≤ ld) (n : (ld == bd) = false) (o : li < bl) (q : bl < li + sp) (d : rc - bn < ex) (cx : bn + ex ≤ la) : Calls Try.prog 13 #[.agg #[.int .i64 k, .int .i64 op, .int .i64 cl, .int .i64 st, .int .i64 sp, .int .i64 ex, .int .i64 la, .int .i64 fl, .int .i64 fa, .int .i64 co, .int .i64 ru], .agg #[.int .i64 ld, .int .i64 li, .int .i64 pr, .int .i64 rc], .agg #[.int .i64 bd, .int .i64 bl, .int .i64 bf, .int .i64 bn]] w fun e w' => e = .returned (.tuple #[.agg #[.int .i64 (nLd ld li bd bl), .int .i64 (nLi ld li bd bl), .int .i64 (nPr st sp ld li pr bd bl), .int .i64 (nCl ex la rc bn)], .int .i64 0]) ∧ Below w.heap.size w w' := by
  obtain ⟨h1, h2, h3, h4, h5, h6⟩ := bounds k op cl st sp ex la fl fa co ru ld li pr rc h hr
  obtain ⟨g1, g2, g3, g4, g5, g6, g7, g8, g9, g10, g11, g12, g13, g14⟩ := goodBid k op cl st sp ex la fl fa co ru ld li pr rc bd bl bf bn h hr he
  have q1 := leastOf k op cl st sp ex la fl fa co ru ld li pr rc bd bl bf bn he
  have q2 := budgetOf k op cl st sp ex la fl fa co ru ld li pr rc bd bl bf bn he
  have q3 : bl ≤ bf := by have e : ld ≠ bd := by simpa using n
                          omega
  clear q2 he
  go_enter Try.func13, Try.ntmps13
  go_wp2_with fail
  (apply Calls.mono; focus ((apply rLeast_ok <;> (first | (with_reducible assumption) | (with_reducible rfl) | omega)); done)); rintro e w1 ⟨rfl, hb1⟩
  have B1 : Below w.heap.size w w1 := (((((Below.refl w.heap.size w).alloc (Nat.le_refl _) _).alloc (by (first | (with_reducible exact Nat.le_refl _) | (with_reducible assumption) | omega | (simp; omega) | (simp; done))) _).alloc (by (first | (with_reducible exact Nat.le_refl _) | (with_reducible assumption) | omega | (simp; omega) | (simp; done))) _).alloc (by (first | (with_reducible exact Nat.le_refl _) | (with_reducible assumption) | omega | (simp; omega) | (simp; done))) _).trans (hb1.mono (by simp; omega))
  have hz1_3 : w.heap.size + 3 < w1.heap.size := by have := hb1.size; simp at this; omega
  have hz1_2 : w.heap.size + 2 < w1.heap.size := by have := hb1.size; simp at this; omega
  have hz1_1 : w.heap.size + 1 < w1.heap.size := by have := hb1.size; simp at this; omega
  have hz1_0 : w.heap.size < w1.heap.size := by have := hb1.size; simp at this; omega
  obtain ⟨hc1, hf1⟩ := bcell hb1
  clear hb1
  go_wp2
  go_region
  go_wp2
  refine bodyPost_ret (v := .tuple #[.agg #[.int .i64 (bd), .int .i64 (bl), .int .i64 (bl), .int .i64 (bn + ex)], .int .i64 0]) (by simp [results, Try.results13, go_sem, *]) rfl ⟨ret_rise (eLd_over c n o) (eLi_over c n o) (ePr_over1 c n o q) (eCl_x d cx), by (focus repeat' (first | (with_reducible exact Below.refl _ _) | (with_reducible assumption) | (with_reducible refine Below.alloc ?_ ?_ _) | (with_reducible refine Below.drew ?_) | (with_reducible refine Below.setCell ?_ ?_ _) | (first | (with_reducible exact Nat.le_refl _) | (with_reducible assumption) | omega | (simp; omega) | (simp; done))))⟩

set_option maxHeartbeats 1000000 in
theorem rBid_over1_k (k op cl st sp ex la fl fa co ru ld li pr rc bd bl bf bn : Int) (w : World) (h : LotOK k op cl st sp ex la fl fa co ru) (hr : RiseOK st cl la ld li pr rc) (hf : bf ≤ 9223372036854775807) (he : bidErr op st sp ld li pr rc bd bl bf bn = 0) (c : 0 ≤ ld) (n : (ld == bd) = false) (o : li < bl) (q : bl < li + sp) (d : ex ≤ rc - bn) : Calls Try.prog 13 #[.agg #[.int .i64 k, .int .i64 op, .int .i64 cl, .int .i64 st, .int .i64 sp, .int .i64 ex, .int .i64 la, .int .i64 fl, .int .i64 fa, .int .i64 co, .int .i64 ru], .agg #[.int .i64 ld, .int .i64 li, .int .i64 pr, .int .i64 rc], .agg #[.int .i64 bd, .int .i64 bl, .int .i64 bf, .int .i64 bn]] w fun e w' => e = .returned (.tuple #[.agg #[.int .i64 (nLd ld li bd bl), .int .i64 (nLi ld li bd bl), .int .i64 (nPr st sp ld li pr bd bl), .int .i64 (nCl ex la rc bn)], .int .i64 0]) ∧ Below w.heap.size w w' := by
  obtain ⟨h1, h2, h3, h4, h5, h6⟩ := bounds k op cl st sp ex la fl fa co ru ld li pr rc h hr
  obtain ⟨g1, g2, g3, g4, g5, g6, g7, g8, g9, g10, g11, g12, g13, g14⟩ := goodBid k op cl st sp ex la fl fa co ru ld li pr rc bd bl bf bn h hr he
  have q1 := leastOf k op cl st sp ex la fl fa co ru ld li pr rc bd bl bf bn he
  have q2 := budgetOf k op cl st sp ex la fl fa co ru ld li pr rc bd bl bf bn he
  have q3 : bl ≤ bf := by have e : ld ≠ bd := by simpa using n
                          omega
  clear q2 he
  go_enter Try.func13, Try.ntmps13
  go_wp2_with fail
  (apply Calls.mono; focus ((apply rLeast_ok <;> (first | (with_reducible assumption) | (with_reducible rfl) | omega)); done)); rintro e w1 ⟨rfl, hb1⟩
  have B1 : Below w.heap.size w w1 := (((((Below.refl w.heap.size w).alloc (Nat.le_refl _) _).alloc (by (first | (with_reducible exact Nat.le_refl _) | (with_reducible assumption) | omega | (simp; omega) | (simp; done))) _).alloc (by (first | (with_reducible exact Nat.le_refl _) | (with_reducible assumption) | omega | (simp; omega) | (simp; done))) _).alloc (by (first | (with_reducible exact Nat.le_refl _) | (with_reducible assumption) | omega | (simp; omega) | (simp; done))) _).trans (hb1.mono (by simp; omega))
  have hz1_3 : w.heap.size + 3 < w1.heap.size := by have := hb1.size; simp at this; omega
  have hz1_2 : w.heap.size + 2 < w1.heap.size := by have := hb1.size; simp at this; omega
  have hz1_1 : w.heap.size + 1 < w1.heap.size := by have := hb1.size; simp at this; omega
  have hz1_0 : w.heap.size < w1.heap.size := by have := hb1.size; simp at this; omega
  obtain ⟨hc1, hf1⟩ := bcell hb1
  clear hb1
  go_wp2
  go_region
  go_wp2
  refine bodyPost_ret (v := .tuple #[.agg #[.int .i64 (bd), .int .i64 (bl), .int .i64 (bl), .int .i64 (rc)], .int .i64 0]) (by simp [results, Try.results13, go_sem, *]) rfl ⟨ret_rise (eLd_over c n o) (eLi_over c n o) (ePr_over1 c n o q) (eCl_k d), by (focus repeat' (first | (with_reducible exact Below.refl _ _) | (with_reducible assumption) | (with_reducible refine Below.alloc ?_ ?_ _) | (with_reducible refine Below.drew ?_) | (with_reducible refine Below.setCell ?_ ?_ _) | (first | (with_reducible exact Nat.le_refl _) | (with_reducible assumption) | omega | (simp; omega) | (simp; done))))⟩

set_option maxHeartbeats 1000000 in
theorem rBid_over2_s (k op cl st sp ex la fl fa co ru ld li pr rc bd bl bf bn : Int) (w : World) (h : LotOK k op cl st sp ex la fl fa co ru) (hr : RiseOK st cl la ld li pr rc) (hf : bf ≤ 9223372036854775807) (he : bidErr op st sp ld li pr rc bd bl bf bn = 0) (c : 0 ≤ ld) (n : (ld == bd) = false) (o : li < bl) (q : li + sp ≤ bl) (d : rc - bn < ex) (cx : la < bn + ex) : Calls Try.prog 13 #[.agg #[.int .i64 k, .int .i64 op, .int .i64 cl, .int .i64 st, .int .i64 sp, .int .i64 ex, .int .i64 la, .int .i64 fl, .int .i64 fa, .int .i64 co, .int .i64 ru], .agg #[.int .i64 ld, .int .i64 li, .int .i64 pr, .int .i64 rc], .agg #[.int .i64 bd, .int .i64 bl, .int .i64 bf, .int .i64 bn]] w fun e w' => e = .returned (.tuple #[.agg #[.int .i64 (nLd ld li bd bl), .int .i64 (nLi ld li bd bl), .int .i64 (nPr st sp ld li pr bd bl), .int .i64 (nCl ex la rc bn)], .int .i64 0]) ∧ Below w.heap.size w w' := by
  obtain ⟨h1, h2, h3, h4, h5, h6⟩ := bounds k op cl st sp ex la fl fa co ru ld li pr rc h hr
  obtain ⟨g1, g2, g3, g4, g5, g6, g7, g8, g9, g10, g11, g12, g13, g14⟩ := goodBid k op cl st sp ex la fl fa co ru ld li pr rc bd bl bf bn h hr he
  have q1 := leastOf k op cl st sp ex la fl fa co ru ld li pr rc bd bl bf bn he
  have q2 := budgetOf k op cl st sp ex la fl fa co ru ld li pr rc bd bl bf bn he
  have q3 : bl ≤ bf := by have e : ld ≠ bd := by simpa using n
                          omega
  clear q2 he
  go_enter Try.func13, Try.ntmps13
  go_wp2_with fail
  (apply Calls.mono; focus ((apply rLeast_ok <;> (first | (with_reducible assumption) | (with_reducible rfl) | omega)); done)); rintro e w1 ⟨rfl, hb1⟩
  have B1 : Below w.heap.size w w1 := (((((Below.refl w.heap.size w).alloc (Nat.le_refl _) _).alloc (by (first | (with_reducible exact Nat.le_refl _) | (with_reducible assumption) | omega | (simp; omega) | (simp; done))) _).alloc (by (first | (with_reducible exact Nat.le_refl _) | (with_reducible assumption) | omega | (simp; omega) | (simp; done))) _).alloc (by (first | (with_reducible exact Nat.le_refl _) | (with_reducible assumption) | omega | (simp; omega) | (simp; done))) _).trans (hb1.mono (by simp; omega))
  have hz1_3 : w.heap.size + 3 < w1.heap.size := by have := hb1.size; simp at this; omega
  have hz1_2 : w.heap.size + 2 < w1.heap.size := by have := hb1.size; simp at this; omega
  have hz1_1 : w.heap.size + 1 < w1.heap.size := by have := hb1.size; simp at this; omega
  have hz1_0 : w.heap.size < w1.heap.size := by have := hb1.size; simp at this; omega
  obtain ⟨hc1, hf1⟩ := bcell hb1
  clear hb1
  go_wp2
  go_region
  go_wp2
  refine bodyPost_ret (v := .tuple #[.agg #[.int .i64 (bd), .int .i64 (bl), .int .i64 (li + sp), .int .i64 (la)], .int .i64 0]) (by simp [results, Try.results13, go_sem, *]) rfl ⟨ret_rise (eLd_over c n o) (eLi_over c n o) (ePr_over2 c n o q) (eCl_s d cx), by (focus repeat' (first | (with_reducible exact Below.refl _ _) | (with_reducible assumption) | (with_reducible refine Below.alloc ?_ ?_ _) | (with_reducible refine Below.drew ?_) | (with_reducible refine Below.setCell ?_ ?_ _) | (first | (with_reducible exact Nat.le_refl _) | (with_reducible assumption) | omega | (simp; omega) | (simp; done))))⟩

set_option maxHeartbeats 1000000 in
theorem rBid_over2_x (k op cl st sp ex la fl fa co ru ld li pr rc bd bl bf bn : Int) (w : World) (h : LotOK k op cl st sp ex la fl fa co ru) (hr : RiseOK st cl la ld li pr rc) (hf : bf ≤ 9223372036854775807) (he : bidErr op st sp ld li pr rc bd bl bf bn = 0) (c : 0 ≤ ld) (n : (ld == bd) = false) (o : li < bl) (q : li + sp ≤ bl) (d : rc - bn < ex) (cx : bn + ex ≤ la) : Calls Try.prog 13 #[.agg #[.int .i64 k, .int .i64 op, .int .i64 cl, .int .i64 st, .int .i64 sp, .int .i64 ex, .int .i64 la, .int .i64 fl, .int .i64 fa, .int .i64 co, .int .i64 ru], .agg #[.int .i64 ld, .int .i64 li, .int .i64 pr, .int .i64 rc], .agg #[.int .i64 bd, .int .i64 bl, .int .i64 bf, .int .i64 bn]] w fun e w' => e = .returned (.tuple #[.agg #[.int .i64 (nLd ld li bd bl), .int .i64 (nLi ld li bd bl), .int .i64 (nPr st sp ld li pr bd bl), .int .i64 (nCl ex la rc bn)], .int .i64 0]) ∧ Below w.heap.size w w' := by
  obtain ⟨h1, h2, h3, h4, h5, h6⟩ := bounds k op cl st sp ex la fl fa co ru ld li pr rc h hr
  obtain ⟨g1, g2, g3, g4, g5, g6, g7, g8, g9, g10, g11, g12, g13, g14⟩ := goodBid k op cl st sp ex la fl fa co ru ld li pr rc bd bl bf bn h hr he
  have q1 := leastOf k op cl st sp ex la fl fa co ru ld li pr rc bd bl bf bn he
  have q2 := budgetOf k op cl st sp ex la fl fa co ru ld li pr rc bd bl bf bn he
  have q3 : bl ≤ bf := by have e : ld ≠ bd := by simpa using n
                          omega
  clear q2 he
  go_enter Try.func13, Try.ntmps13
  go_wp2_with fail
  (apply Calls.mono; focus ((apply rLeast_ok <;> (first | (with_reducible assumption) | (with_reducible rfl) | omega)); done)); rintro e w1 ⟨rfl, hb1⟩
  have B1 : Below w.heap.size w w1 := (((((Below.refl w.heap.size w).alloc (Nat.le_refl _) _).alloc (by (first | (with_reducible exact Nat.le_refl _) | (with_reducible assumption) | omega | (simp; omega) | (simp; done))) _).alloc (by (first | (with_reducible exact Nat.le_refl _) | (with_reducible assumption) | omega | (simp; omega) | (simp; done))) _).alloc (by (first | (with_reducible exact Nat.le_refl _) | (with_reducible assumption) | omega | (simp; omega) | (simp; done))) _).trans (hb1.mono (by simp; omega))
  have hz1_3 : w.heap.size + 3 < w1.heap.size := by have := hb1.size; simp at this; omega
  have hz1_2 : w.heap.size + 2 < w1.heap.size := by have := hb1.size; simp at this; omega
  have hz1_1 : w.heap.size + 1 < w1.heap.size := by have := hb1.size; simp at this; omega
  have hz1_0 : w.heap.size < w1.heap.size := by have := hb1.size; simp at this; omega
  obtain ⟨hc1, hf1⟩ := bcell hb1
  clear hb1
  go_wp2
  go_region
  go_wp2
  refine bodyPost_ret (v := .tuple #[.agg #[.int .i64 (bd), .int .i64 (bl), .int .i64 (li + sp), .int .i64 (bn + ex)], .int .i64 0]) (by simp [results, Try.results13, go_sem, *]) rfl ⟨ret_rise (eLd_over c n o) (eLi_over c n o) (ePr_over2 c n o q) (eCl_x d cx), by (focus repeat' (first | (with_reducible exact Below.refl _ _) | (with_reducible assumption) | (with_reducible refine Below.alloc ?_ ?_ _) | (with_reducible refine Below.drew ?_) | (with_reducible refine Below.setCell ?_ ?_ _) | (first | (with_reducible exact Nat.le_refl _) | (with_reducible assumption) | omega | (simp; omega) | (simp; done))))⟩

set_option maxHeartbeats 1000000 in
theorem rBid_over2_k (k op cl st sp ex la fl fa co ru ld li pr rc bd bl bf bn : Int) (w : World) (h : LotOK k op cl st sp ex la fl fa co ru) (hr : RiseOK st cl la ld li pr rc) (hf : bf ≤ 9223372036854775807) (he : bidErr op st sp ld li pr rc bd bl bf bn = 0) (c : 0 ≤ ld) (n : (ld == bd) = false) (o : li < bl) (q : li + sp ≤ bl) (d : ex ≤ rc - bn) : Calls Try.prog 13 #[.agg #[.int .i64 k, .int .i64 op, .int .i64 cl, .int .i64 st, .int .i64 sp, .int .i64 ex, .int .i64 la, .int .i64 fl, .int .i64 fa, .int .i64 co, .int .i64 ru], .agg #[.int .i64 ld, .int .i64 li, .int .i64 pr, .int .i64 rc], .agg #[.int .i64 bd, .int .i64 bl, .int .i64 bf, .int .i64 bn]] w fun e w' => e = .returned (.tuple #[.agg #[.int .i64 (nLd ld li bd bl), .int .i64 (nLi ld li bd bl), .int .i64 (nPr st sp ld li pr bd bl), .int .i64 (nCl ex la rc bn)], .int .i64 0]) ∧ Below w.heap.size w w' := by
  obtain ⟨h1, h2, h3, h4, h5, h6⟩ := bounds k op cl st sp ex la fl fa co ru ld li pr rc h hr
  obtain ⟨g1, g2, g3, g4, g5, g6, g7, g8, g9, g10, g11, g12, g13, g14⟩ := goodBid k op cl st sp ex la fl fa co ru ld li pr rc bd bl bf bn h hr he
  have q1 := leastOf k op cl st sp ex la fl fa co ru ld li pr rc bd bl bf bn he
  have q2 := budgetOf k op cl st sp ex la fl fa co ru ld li pr rc bd bl bf bn he
  have q3 : bl ≤ bf := by have e : ld ≠ bd := by simpa using n
                          omega
  clear q2 he
  go_enter Try.func13, Try.ntmps13
  go_wp2_with fail
  (apply Calls.mono; focus ((apply rLeast_ok <;> (first | (with_reducible assumption) | (with_reducible rfl) | omega)); done)); rintro e w1 ⟨rfl, hb1⟩
  have B1 : Below w.heap.size w w1 := (((((Below.refl w.heap.size w).alloc (Nat.le_refl _) _).alloc (by (first | (with_reducible exact Nat.le_refl _) | (with_reducible assumption) | omega | (simp; omega) | (simp; done))) _).alloc (by (first | (with_reducible exact Nat.le_refl _) | (with_reducible assumption) | omega | (simp; omega) | (simp; done))) _).alloc (by (first | (with_reducible exact Nat.le_refl _) | (with_reducible assumption) | omega | (simp; omega) | (simp; done))) _).trans (hb1.mono (by simp; omega))
  have hz1_3 : w.heap.size + 3 < w1.heap.size := by have := hb1.size; simp at this; omega
  have hz1_2 : w.heap.size + 2 < w1.heap.size := by have := hb1.size; simp at this; omega
  have hz1_1 : w.heap.size + 1 < w1.heap.size := by have := hb1.size; simp at this; omega
  have hz1_0 : w.heap.size < w1.heap.size := by have := hb1.size; simp at this; omega
  obtain ⟨hc1, hf1⟩ := bcell hb1
  clear hb1
  go_wp2
  go_region
  go_wp2
  refine bodyPost_ret (v := .tuple #[.agg #[.int .i64 (bd), .int .i64 (bl), .int .i64 (li + sp), .int .i64 (rc)], .int .i64 0]) (by simp [results, Try.results13, go_sem, *]) rfl ⟨ret_rise (eLd_over c n o) (eLi_over c n o) (ePr_over2 c n o q) (eCl_k d), by (focus repeat' (first | (with_reducible exact Below.refl _ _) | (with_reducible assumption) | (with_reducible refine Below.alloc ?_ ?_ _) | (with_reducible refine Below.drew ?_) | (with_reducible refine Below.setCell ?_ ?_ _) | (first | (with_reducible exact Nat.le_refl _) | (with_reducible assumption) | omega | (simp; omega) | (simp; done))))⟩

set_option maxHeartbeats 1000000 in
theorem rBid_under1_s (k op cl st sp ex la fl fa co ru ld li pr rc bd bl bf bn : Int) (w : World) (h : LotOK k op cl st sp ex la fl fa co ru) (hr : RiseOK st cl la ld li pr rc) (hf : bf ≤ 9223372036854775807) (he : bidErr op st sp ld li pr rc bd bl bf bn = 0) (c : 0 ≤ ld) (n : (ld == bd) = false) (o : bl ≤ li) (q : li < bl + sp) (d : rc - bn < ex) (cx : la < bn + ex) : Calls Try.prog 13 #[.agg #[.int .i64 k, .int .i64 op, .int .i64 cl, .int .i64 st, .int .i64 sp, .int .i64 ex, .int .i64 la, .int .i64 fl, .int .i64 fa, .int .i64 co, .int .i64 ru], .agg #[.int .i64 ld, .int .i64 li, .int .i64 pr, .int .i64 rc], .agg #[.int .i64 bd, .int .i64 bl, .int .i64 bf, .int .i64 bn]] w fun e w' => e = .returned (.tuple #[.agg #[.int .i64 (nLd ld li bd bl), .int .i64 (nLi ld li bd bl), .int .i64 (nPr st sp ld li pr bd bl), .int .i64 (nCl ex la rc bn)], .int .i64 0]) ∧ Below w.heap.size w w' := by
  obtain ⟨h1, h2, h3, h4, h5, h6⟩ := bounds k op cl st sp ex la fl fa co ru ld li pr rc h hr
  obtain ⟨g1, g2, g3, g4, g5, g6, g7, g8, g9, g10, g11, g12, g13, g14⟩ := goodBid k op cl st sp ex la fl fa co ru ld li pr rc bd bl bf bn h hr he
  have q1 := leastOf k op cl st sp ex la fl fa co ru ld li pr rc bd bl bf bn he
  have q2 := budgetOf k op cl st sp ex la fl fa co ru ld li pr rc bd bl bf bn he
  have q3 : bl ≤ bf := by have e : ld ≠ bd := by simpa using n
                          omega
  clear q2 he
  go_enter Try.func13, Try.ntmps13
  go_wp2_with fail
  (apply Calls.mono; focus ((apply rLeast_ok <;> (first | (with_reducible assumption) | (with_reducible rfl) | omega)); done)); rintro e w1 ⟨rfl, hb1⟩
  have B1 : Below w.heap.size w w1 := (((((Below.refl w.heap.size w).alloc (Nat.le_refl _) _).alloc (by (first | (with_reducible exact Nat.le_refl _) | (with_reducible assumption) | omega | (simp; omega) | (simp; done))) _).alloc (by (first | (with_reducible exact Nat.le_refl _) | (with_reducible assumption) | omega | (simp; omega) | (simp; done))) _).alloc (by (first | (with_reducible exact Nat.le_refl _) | (with_reducible assumption) | omega | (simp; omega) | (simp; done))) _).trans (hb1.mono (by simp; omega))
  have hz1_3 : w.heap.size + 3 < w1.heap.size := by have := hb1.size; simp at this; omega
  have hz1_2 : w.heap.size + 2 < w1.heap.size := by have := hb1.size; simp at this; omega
  have hz1_1 : w.heap.size + 1 < w1.heap.size := by have := hb1.size; simp at this; omega
  have hz1_0 : w.heap.size < w1.heap.size := by have := hb1.size; simp at this; omega
  obtain ⟨hc1, hf1⟩ := bcell hb1
  clear hb1
  go_wp2
  refine bodyPost_ret (v := .tuple #[.agg #[.int .i64 (ld), .int .i64 (li), .int .i64 (li), .int .i64 (la)], .int .i64 0]) (by simp [results, Try.results13, go_sem, *]) rfl ⟨ret_rise (eLd_under c n o) (eLi_under c n o) (ePr_under1 c n o q) (eCl_s d cx), by (focus repeat' (first | (with_reducible exact Below.refl _ _) | (with_reducible assumption) | (with_reducible refine Below.alloc ?_ ?_ _) | (with_reducible refine Below.drew ?_) | (with_reducible refine Below.setCell ?_ ?_ _) | (first | (with_reducible exact Nat.le_refl _) | (with_reducible assumption) | omega | (simp; omega) | (simp; done))))⟩

set_option maxHeartbeats 1000000 in
theorem rBid_under1_x (k op cl st sp ex la fl fa co ru ld li pr rc bd bl bf bn : Int) (w : World) (h : LotOK k op cl st sp ex la fl fa co ru) (hr : RiseOK st cl la ld li pr rc) (hf : bf ≤ 9223372036854775807) (he : bidErr op st sp ld li pr rc bd bl bf bn = 0) (c : 0 ≤ ld) (n : (ld == bd) = false) (o : bl ≤ li) (q : li < bl + sp) (d : rc - bn < ex) (cx : bn + ex ≤ la) : Calls Try.prog 13 #[.agg #[.int .i64 k, .int .i64 op, .int .i64 cl, .int .i64 st, .int .i64 sp, .int .i64 ex, .int .i64 la, .int .i64 fl, .int .i64 fa, .int .i64 co, .int .i64 ru], .agg #[.int .i64 ld, .int .i64 li, .int .i64 pr, .int .i64 rc], .agg #[.int .i64 bd, .int .i64 bl, .int .i64 bf, .int .i64 bn]] w fun e w' => e = .returned (.tuple #[.agg #[.int .i64 (nLd ld li bd bl), .int .i64 (nLi ld li bd bl), .int .i64 (nPr st sp ld li pr bd bl), .int .i64 (nCl ex la rc bn)], .int .i64 0]) ∧ Below w.heap.size w w' := by
  obtain ⟨h1, h2, h3, h4, h5, h6⟩ := bounds k op cl st sp ex la fl fa co ru ld li pr rc h hr
  obtain ⟨g1, g2, g3, g4, g5, g6, g7, g8, g9, g10, g11, g12, g13, g14⟩ := goodBid k op cl st sp ex la fl fa co ru ld li pr rc bd bl bf bn h hr he
  have q1 := leastOf k op cl st sp ex la fl fa co ru ld li pr rc bd bl bf bn he
  have q2 := budgetOf k op cl st sp ex la fl fa co ru ld li pr rc bd bl bf bn he
  have q3 : bl ≤ bf := by have e : ld ≠ bd := by simpa using n
                          omega
  clear q2 he
  go_enter Try.func13, Try.ntmps13
  go_wp2_with fail
  (apply Calls.mono; focus ((apply rLeast_ok <;> (first | (with_reducible assumption) | (with_reducible rfl) | omega)); done)); rintro e w1 ⟨rfl, hb1⟩
  have B1 : Below w.heap.size w w1 := (((((Below.refl w.heap.size w).alloc (Nat.le_refl _) _).alloc (by (first | (with_reducible exact Nat.le_refl _) | (with_reducible assumption) | omega | (simp; omega) | (simp; done))) _).alloc (by (first | (with_reducible exact Nat.le_refl _) | (with_reducible assumption) | omega | (simp; omega) | (simp; done))) _).alloc (by (first | (with_reducible exact Nat.le_refl _) | (with_reducible assumption) | omega | (simp; omega) | (simp; done))) _).trans (hb1.mono (by simp; omega))
  have hz1_3 : w.heap.size + 3 < w1.heap.size := by have := hb1.size; simp at this; omega
  have hz1_2 : w.heap.size + 2 < w1.heap.size := by have := hb1.size; simp at this; omega
  have hz1_1 : w.heap.size + 1 < w1.heap.size := by have := hb1.size; simp at this; omega
  have hz1_0 : w.heap.size < w1.heap.size := by have := hb1.size; simp at this; omega
  obtain ⟨hc1, hf1⟩ := bcell hb1
  clear hb1
  go_wp2
  refine bodyPost_ret (v := .tuple #[.agg #[.int .i64 (ld), .int .i64 (li), .int .i64 (li), .int .i64 (bn + ex)], .int .i64 0]) (by simp [results, Try.results13, go_sem, *]) rfl ⟨ret_rise (eLd_under c n o) (eLi_under c n o) (ePr_under1 c n o q) (eCl_x d cx), by (focus repeat' (first | (with_reducible exact Below.refl _ _) | (with_reducible assumption) | (with_reducible refine Below.alloc ?_ ?_ _) | (with_reducible refine Below.drew ?_) | (with_reducible refine Below.setCell ?_ ?_ _) | (first | (with_reducible exact Nat.le_refl _) | (with_reducible assumption) | omega | (simp; omega) | (simp; done))))⟩

set_option maxHeartbeats 1000000 in
theorem rBid_under1_k (k op cl st sp ex la fl fa co ru ld li pr rc bd bl bf bn : Int) (w : World) (h : LotOK k op cl st sp ex la fl fa co ru) (hr : RiseOK st cl la ld li pr rc) (hf : bf ≤ 9223372036854775807) (he : bidErr op st sp ld li pr rc bd bl bf bn = 0) (c : 0 ≤ ld) (n : (ld == bd) = false) (o : bl ≤ li) (q : li < bl + sp) (d : ex ≤ rc - bn) : Calls Try.prog 13 #[.agg #[.int .i64 k, .int .i64 op, .int .i64 cl, .int .i64 st, .int .i64 sp, .int .i64 ex, .int .i64 la, .int .i64 fl, .int .i64 fa, .int .i64 co, .int .i64 ru], .agg #[.int .i64 ld, .int .i64 li, .int .i64 pr, .int .i64 rc], .agg #[.int .i64 bd, .int .i64 bl, .int .i64 bf, .int .i64 bn]] w fun e w' => e = .returned (.tuple #[.agg #[.int .i64 (nLd ld li bd bl), .int .i64 (nLi ld li bd bl), .int .i64 (nPr st sp ld li pr bd bl), .int .i64 (nCl ex la rc bn)], .int .i64 0]) ∧ Below w.heap.size w w' := by
  obtain ⟨h1, h2, h3, h4, h5, h6⟩ := bounds k op cl st sp ex la fl fa co ru ld li pr rc h hr
  obtain ⟨g1, g2, g3, g4, g5, g6, g7, g8, g9, g10, g11, g12, g13, g14⟩ := goodBid k op cl st sp ex la fl fa co ru ld li pr rc bd bl bf bn h hr he
  have q1 := leastOf k op cl st sp ex la fl fa co ru ld li pr rc bd bl bf bn he
  have q2 := budgetOf k op cl st sp ex la fl fa co ru ld li pr rc bd bl bf bn he
  have q3 : bl ≤ bf := by have e : ld ≠ bd := by simpa using n
                          omega
  clear q2 he
  go_enter Try.func13, Try.ntmps13
  go_wp2_with fail
  (apply Calls.mono; focus ((apply rLeast_ok <;> (first | (with_reducible assumption) | (with_reducible rfl) | omega)); done)); rintro e w1 ⟨rfl, hb1⟩
  have B1 : Below w.heap.size w w1 := (((((Below.refl w.heap.size w).alloc (Nat.le_refl _) _).alloc (by (first | (with_reducible exact Nat.le_refl _) | (with_reducible assumption) | omega | (simp; omega) | (simp; done))) _).alloc (by (first | (with_reducible exact Nat.le_refl _) | (with_reducible assumption) | omega | (simp; omega) | (simp; done))) _).alloc (by (first | (with_reducible exact Nat.le_refl _) | (with_reducible assumption) | omega | (simp; omega) | (simp; done))) _).trans (hb1.mono (by simp; omega))
  have hz1_3 : w.heap.size + 3 < w1.heap.size := by have := hb1.size; simp at this; omega
  have hz1_2 : w.heap.size + 2 < w1.heap.size := by have := hb1.size; simp at this; omega
  have hz1_1 : w.heap.size + 1 < w1.heap.size := by have := hb1.size; simp at this; omega
  have hz1_0 : w.heap.size < w1.heap.size := by have := hb1.size; simp at this; omega
  obtain ⟨hc1, hf1⟩ := bcell hb1
  clear hb1
  go_wp2
  refine bodyPost_ret (v := .tuple #[.agg #[.int .i64 (ld), .int .i64 (li), .int .i64 (li), .int .i64 (rc)], .int .i64 0]) (by simp [results, Try.results13, go_sem, *]) rfl ⟨ret_rise (eLd_under c n o) (eLi_under c n o) (ePr_under1 c n o q) (eCl_k d), by (focus repeat' (first | (with_reducible exact Below.refl _ _) | (with_reducible assumption) | (with_reducible refine Below.alloc ?_ ?_ _) | (with_reducible refine Below.drew ?_) | (with_reducible refine Below.setCell ?_ ?_ _) | (first | (with_reducible exact Nat.le_refl _) | (with_reducible assumption) | omega | (simp; omega) | (simp; done))))⟩

set_option maxHeartbeats 1000000 in
theorem rBid_under2_s (k op cl st sp ex la fl fa co ru ld li pr rc bd bl bf bn : Int) (w : World) (h : LotOK k op cl st sp ex la fl fa co ru) (hr : RiseOK st cl la ld li pr rc) (hf : bf ≤ 9223372036854775807) (he : bidErr op st sp ld li pr rc bd bl bf bn = 0) (c : 0 ≤ ld) (n : (ld == bd) = false) (o : bl ≤ li) (q : bl + sp ≤ li) (d : rc - bn < ex) (cx : la < bn + ex) : Calls Try.prog 13 #[.agg #[.int .i64 k, .int .i64 op, .int .i64 cl, .int .i64 st, .int .i64 sp, .int .i64 ex, .int .i64 la, .int .i64 fl, .int .i64 fa, .int .i64 co, .int .i64 ru], .agg #[.int .i64 ld, .int .i64 li, .int .i64 pr, .int .i64 rc], .agg #[.int .i64 bd, .int .i64 bl, .int .i64 bf, .int .i64 bn]] w fun e w' => e = .returned (.tuple #[.agg #[.int .i64 (nLd ld li bd bl), .int .i64 (nLi ld li bd bl), .int .i64 (nPr st sp ld li pr bd bl), .int .i64 (nCl ex la rc bn)], .int .i64 0]) ∧ Below w.heap.size w w' := by
  obtain ⟨h1, h2, h3, h4, h5, h6⟩ := bounds k op cl st sp ex la fl fa co ru ld li pr rc h hr
  obtain ⟨g1, g2, g3, g4, g5, g6, g7, g8, g9, g10, g11, g12, g13, g14⟩ := goodBid k op cl st sp ex la fl fa co ru ld li pr rc bd bl bf bn h hr he
  have q1 := leastOf k op cl st sp ex la fl fa co ru ld li pr rc bd bl bf bn he
  have q2 := budgetOf k op cl st sp ex la fl fa co ru ld li pr rc bd bl bf bn he
  have q3 : bl ≤ bf := by have e : ld ≠ bd := by simpa using n
                          omega
  clear q2 he
  go_enter Try.func13, Try.ntmps13
  go_wp2_with fail
  (apply Calls.mono; focus ((apply rLeast_ok <;> (first | (with_reducible assumption) | (with_reducible rfl) | omega)); done)); rintro e w1 ⟨rfl, hb1⟩
  have B1 : Below w.heap.size w w1 := (((((Below.refl w.heap.size w).alloc (Nat.le_refl _) _).alloc (by (first | (with_reducible exact Nat.le_refl _) | (with_reducible assumption) | omega | (simp; omega) | (simp; done))) _).alloc (by (first | (with_reducible exact Nat.le_refl _) | (with_reducible assumption) | omega | (simp; omega) | (simp; done))) _).alloc (by (first | (with_reducible exact Nat.le_refl _) | (with_reducible assumption) | omega | (simp; omega) | (simp; done))) _).trans (hb1.mono (by simp; omega))
  have hz1_3 : w.heap.size + 3 < w1.heap.size := by have := hb1.size; simp at this; omega
  have hz1_2 : w.heap.size + 2 < w1.heap.size := by have := hb1.size; simp at this; omega
  have hz1_1 : w.heap.size + 1 < w1.heap.size := by have := hb1.size; simp at this; omega
  have hz1_0 : w.heap.size < w1.heap.size := by have := hb1.size; simp at this; omega
  obtain ⟨hc1, hf1⟩ := bcell hb1
  clear hb1
  go_wp2
  refine bodyPost_ret (v := .tuple #[.agg #[.int .i64 (ld), .int .i64 (li), .int .i64 (bl + sp), .int .i64 (la)], .int .i64 0]) (by simp [results, Try.results13, go_sem, *]) rfl ⟨ret_rise (eLd_under c n o) (eLi_under c n o) (ePr_under2 c n o q) (eCl_s d cx), by (focus repeat' (first | (with_reducible exact Below.refl _ _) | (with_reducible assumption) | (with_reducible refine Below.alloc ?_ ?_ _) | (with_reducible refine Below.drew ?_) | (with_reducible refine Below.setCell ?_ ?_ _) | (first | (with_reducible exact Nat.le_refl _) | (with_reducible assumption) | omega | (simp; omega) | (simp; done))))⟩

set_option maxHeartbeats 1000000 in
theorem rBid_under2_x (k op cl st sp ex la fl fa co ru ld li pr rc bd bl bf bn : Int) (w : World) (h : LotOK k op cl st sp ex la fl fa co ru) (hr : RiseOK st cl la ld li pr rc) (hf : bf ≤ 9223372036854775807) (he : bidErr op st sp ld li pr rc bd bl bf bn = 0) (c : 0 ≤ ld) (n : (ld == bd) = false) (o : bl ≤ li) (q : bl + sp ≤ li) (d : rc - bn < ex) (cx : bn + ex ≤ la) : Calls Try.prog 13 #[.agg #[.int .i64 k, .int .i64 op, .int .i64 cl, .int .i64 st, .int .i64 sp, .int .i64 ex, .int .i64 la, .int .i64 fl, .int .i64 fa, .int .i64 co, .int .i64 ru], .agg #[.int .i64 ld, .int .i64 li, .int .i64 pr, .int .i64 rc], .agg #[.int .i64 bd, .int .i64 bl, .int .i64 bf, .int .i64 bn]] w fun e w' => e = .returned (.tuple #[.agg #[.int .i64 (nLd ld li bd bl), .int .i64 (nLi ld li bd bl), .int .i64 (nPr st sp ld li pr bd bl), .int .i64 (nCl ex la rc bn)], .int .i64 0]) ∧ Below w.heap.size w w' := by
  obtain ⟨h1, h2, h3, h4, h5, h6⟩ := bounds k op cl st sp ex la fl fa co ru ld li pr rc h hr
  obtain ⟨g1, g2, g3, g4, g5, g6, g7, g8, g9, g10, g11, g12, g13, g14⟩ := goodBid k op cl st sp ex la fl fa co ru ld li pr rc bd bl bf bn h hr he
  have q1 := leastOf k op cl st sp ex la fl fa co ru ld li pr rc bd bl bf bn he
  have q2 := budgetOf k op cl st sp ex la fl fa co ru ld li pr rc bd bl bf bn he
  have q3 : bl ≤ bf := by have e : ld ≠ bd := by simpa using n
                          omega
  clear q2 he
  go_enter Try.func13, Try.ntmps13
  go_wp2_with fail
  (apply Calls.mono; focus ((apply rLeast_ok <;> (first | (with_reducible assumption) | (with_reducible rfl) | omega)); done)); rintro e w1 ⟨rfl, hb1⟩
  have B1 : Below w.heap.size w w1 := (((((Below.refl w.heap.size w).alloc (Nat.le_refl _) _).alloc (by (first | (with_reducible exact Nat.le_refl _) | (with_reducible assumption) | omega | (simp; omega) | (simp; done))) _).alloc (by (first | (with_reducible exact Nat.le_refl _) | (with_reducible assumption) | omega | (simp; omega) | (simp; done))) _).alloc (by (first | (with_reducible exact Nat.le_refl _) | (with_reducible assumption) | omega | (simp; omega) | (simp; done))) _).trans (hb1.mono (by simp; omega))
  have hz1_3 : w.heap.size + 3 < w1.heap.size := by have := hb1.size; simp at this; omega
  have hz1_2 : w.heap.size + 2 < w1.heap.size := by have := hb1.size; simp at this; omega
  have hz1_1 : w.heap.size + 1 < w1.heap.size := by have := hb1.size; simp at this; omega
  have hz1_0 : w.heap.size < w1.heap.size := by have := hb1.size; simp at this; omega
  obtain ⟨hc1, hf1⟩ := bcell hb1
  clear hb1
  go_wp2
  refine bodyPost_ret (v := .tuple #[.agg #[.int .i64 (ld), .int .i64 (li), .int .i64 (bl + sp), .int .i64 (bn + ex)], .int .i64 0]) (by simp [results, Try.results13, go_sem, *]) rfl ⟨ret_rise (eLd_under c n o) (eLi_under c n o) (ePr_under2 c n o q) (eCl_x d cx), by (focus repeat' (first | (with_reducible exact Below.refl _ _) | (with_reducible assumption) | (with_reducible refine Below.alloc ?_ ?_ _) | (with_reducible refine Below.drew ?_) | (with_reducible refine Below.setCell ?_ ?_ _) | (first | (with_reducible exact Nat.le_refl _) | (with_reducible assumption) | omega | (simp; omega) | (simp; done))))⟩

set_option maxHeartbeats 1000000 in
theorem rBid_under2_k (k op cl st sp ex la fl fa co ru ld li pr rc bd bl bf bn : Int) (w : World) (h : LotOK k op cl st sp ex la fl fa co ru) (hr : RiseOK st cl la ld li pr rc) (hf : bf ≤ 9223372036854775807) (he : bidErr op st sp ld li pr rc bd bl bf bn = 0) (c : 0 ≤ ld) (n : (ld == bd) = false) (o : bl ≤ li) (q : bl + sp ≤ li) (d : ex ≤ rc - bn) : Calls Try.prog 13 #[.agg #[.int .i64 k, .int .i64 op, .int .i64 cl, .int .i64 st, .int .i64 sp, .int .i64 ex, .int .i64 la, .int .i64 fl, .int .i64 fa, .int .i64 co, .int .i64 ru], .agg #[.int .i64 ld, .int .i64 li, .int .i64 pr, .int .i64 rc], .agg #[.int .i64 bd, .int .i64 bl, .int .i64 bf, .int .i64 bn]] w fun e w' => e = .returned (.tuple #[.agg #[.int .i64 (nLd ld li bd bl), .int .i64 (nLi ld li bd bl), .int .i64 (nPr st sp ld li pr bd bl), .int .i64 (nCl ex la rc bn)], .int .i64 0]) ∧ Below w.heap.size w w' := by
  obtain ⟨h1, h2, h3, h4, h5, h6⟩ := bounds k op cl st sp ex la fl fa co ru ld li pr rc h hr
  obtain ⟨g1, g2, g3, g4, g5, g6, g7, g8, g9, g10, g11, g12, g13, g14⟩ := goodBid k op cl st sp ex la fl fa co ru ld li pr rc bd bl bf bn h hr he
  have q1 := leastOf k op cl st sp ex la fl fa co ru ld li pr rc bd bl bf bn he
  have q2 := budgetOf k op cl st sp ex la fl fa co ru ld li pr rc bd bl bf bn he
  have q3 : bl ≤ bf := by have e : ld ≠ bd := by simpa using n
                          omega
  clear q2 he
  go_enter Try.func13, Try.ntmps13
  go_wp2_with fail
  (apply Calls.mono; focus ((apply rLeast_ok <;> (first | (with_reducible assumption) | (with_reducible rfl) | omega)); done)); rintro e w1 ⟨rfl, hb1⟩
  have B1 : Below w.heap.size w w1 := (((((Below.refl w.heap.size w).alloc (Nat.le_refl _) _).alloc (by (first | (with_reducible exact Nat.le_refl _) | (with_reducible assumption) | omega | (simp; omega) | (simp; done))) _).alloc (by (first | (with_reducible exact Nat.le_refl _) | (with_reducible assumption) | omega | (simp; omega) | (simp; done))) _).alloc (by (first | (with_reducible exact Nat.le_refl _) | (with_reducible assumption) | omega | (simp; omega) | (simp; done))) _).trans (hb1.mono (by simp; omega))
  have hz1_3 : w.heap.size + 3 < w1.heap.size := by have := hb1.size; simp at this; omega
  have hz1_2 : w.heap.size + 2 < w1.heap.size := by have := hb1.size; simp at this; omega
  have hz1_1 : w.heap.size + 1 < w1.heap.size := by have := hb1.size; simp at this; omega
  have hz1_0 : w.heap.size < w1.heap.size := by have := hb1.size; simp at this; omega
  obtain ⟨hc1, hf1⟩ := bcell hb1
  clear hb1
  go_wp2
  refine bodyPost_ret (v := .tuple #[.agg #[.int .i64 (ld), .int .i64 (li), .int .i64 (bl + sp), .int .i64 (rc)], .int .i64 0]) (by simp [results, Try.results13, go_sem, *]) rfl ⟨ret_rise (eLd_under c n o) (eLi_under c n o) (ePr_under2 c n o q) (eCl_k d), by (focus repeat' (first | (with_reducible exact Below.refl _ _) | (with_reducible assumption) | (with_reducible refine Below.alloc ?_ ?_ _) | (with_reducible refine Below.drew ?_) | (with_reducible refine Below.setCell ?_ ?_ _) | (first | (with_reducible exact Nat.le_refl _) | (with_reducible assumption) | omega | (simp; omega) | (simp; done))))⟩

theorem rBid_ok (k op cl st sp ex la fl fa co ru ld li pr rc bd bl bf bn : Int) (w : World) (h : LotOK k op cl st sp ex la fl fa co ru) (hr : RiseOK st cl la ld li pr rc) (hf : bf ≤ 9223372036854775807) (he : bidErr op st sp ld li pr rc bd bl bf bn = 0) : Calls Try.prog 13 #[.agg #[.int .i64 k, .int .i64 op, .int .i64 cl, .int .i64 st, .int .i64 sp, .int .i64 ex, .int .i64 la, .int .i64 fl, .int .i64 fa, .int .i64 co, .int .i64 ru], .agg #[.int .i64 ld, .int .i64 li, .int .i64 pr, .int .i64 rc], .agg #[.int .i64 bd, .int .i64 bl, .int .i64 bf, .int .i64 bn]] w fun e w' => e = .returned (.tuple #[.agg #[.int .i64 (nLd ld li bd bl), .int .i64 (nLi ld li bd bl), .int .i64 (nPr st sp ld li pr bd bl), .int .i64 (nCl ex la rc bn)], .int .i64 0]) ∧ Below w.heap.size w w' := by
  obtain ⟨h1, h2, h3, h4, h5, h6⟩ := bounds k op cl st sp ex la fl fa co ru ld li pr rc h hr
  obtain ⟨g1, g2, g3, g4, g5, g6, g7, g8, g9, g10, g11, g12, g13, g14⟩ := goodBid k op cl st sp ex la fl fa co ru ld li pr rc bd bl bf bn h hr he
  have ways : (rc - bn < ex ∧ la < bn + ex) ∨ (rc - bn < ex ∧ bn + ex ≤ la) ∨ ex ≤ rc - bn := by omega
  by_cases c : ld < 0
  · rcases ways with ⟨d, cx⟩ | ⟨d, cx⟩ | d
    · exact rBid_lead_s _ _ _ _ _ _ _ _ _ _ _ _ _ _ _ _ _ _ _ w h hr hf he c d cx
    · exact rBid_lead_x _ _ _ _ _ _ _ _ _ _ _ _ _ _ _ _ _ _ _ w h hr hf he c d cx
    · exact rBid_lead_k _ _ _ _ _ _ _ _ _ _ _ _ _ _ _ _ _ _ _ w h hr hf he c d
  · by_cases e : ld = bd
    · subst e
      rcases ways with ⟨d, cx⟩ | ⟨d, cx⟩ | d
      · exact rBid_own_s _ _ _ _ _ _ _ _ _ _ _ _ _ _ _ _ _ _ w h hr hf he g1 d cx
      · exact rBid_own_x _ _ _ _ _ _ _ _ _ _ _ _ _ _ _ _ _ _ w h hr hf he g1 d cx
      · exact rBid_own_k _ _ _ _ _ _ _ _ _ _ _ _ _ _ _ _ _ _ w h hr hf he g1 d
    · have n : (ld == bd) = false := by rw [beq_eq_false_iff_ne]; exact e
      have c' : 0 ≤ ld := by omega
      have qs : (li < bl ∧ bl < li + sp) ∨ (li < bl ∧ li + sp ≤ bl) ∨ (bl ≤ li ∧ li < bl + sp) ∨ (bl ≤ li ∧ bl + sp ≤ li) := by omega
      rcases qs with ⟨o, q⟩ | ⟨o, q⟩ | ⟨o, q⟩ | ⟨o, q⟩
      · rcases ways with ⟨d, cx⟩ | ⟨d, cx⟩ | d
        · exact rBid_over1_s _ _ _ _ _ _ _ _ _ _ _ _ _ _ _ _ _ _ _ w h hr hf he c' n o q d cx
        · exact rBid_over1_x _ _ _ _ _ _ _ _ _ _ _ _ _ _ _ _ _ _ _ w h hr hf he c' n o q d cx
        · exact rBid_over1_k _ _ _ _ _ _ _ _ _ _ _ _ _ _ _ _ _ _ _ w h hr hf he c' n o q d
      · rcases ways with ⟨d, cx⟩ | ⟨d, cx⟩ | d
        · exact rBid_over2_s _ _ _ _ _ _ _ _ _ _ _ _ _ _ _ _ _ _ _ w h hr hf he c' n o q d cx
        · exact rBid_over2_x _ _ _ _ _ _ _ _ _ _ _ _ _ _ _ _ _ _ _ w h hr hf he c' n o q d cx
        · exact rBid_over2_k _ _ _ _ _ _ _ _ _ _ _ _ _ _ _ _ _ _ _ w h hr hf he c' n o q d
      · rcases ways with ⟨d, cx⟩ | ⟨d, cx⟩ | d
        · exact rBid_under1_s _ _ _ _ _ _ _ _ _ _ _ _ _ _ _ _ _ _ _ w h hr hf he c' n o q d cx
        · exact rBid_under1_x _ _ _ _ _ _ _ _ _ _ _ _ _ _ _ _ _ _ _ w h hr hf he c' n o q d cx
        · exact rBid_under1_k _ _ _ _ _ _ _ _ _ _ _ _ _ _ _ _ _ _ _ w h hr hf he c' n o q d
      · rcases ways with ⟨d, cx⟩ | ⟨d, cx⟩ | d
        · exact rBid_under2_s _ _ _ _ _ _ _ _ _ _ _ _ _ _ _ _ _ _ _ w h hr hf he c' n o q d cx
        · exact rBid_under2_x _ _ _ _ _ _ _ _ _ _ _ _ _ _ _ _ _ _ _ w h hr hf he c' n o q d cx
        · exact rBid_under2_k _ _ _ _ _ _ _ _ _ _ _ _ _ _ _ _ _ _ _ w h hr hf he c' n o q d
end Go.Proofs.Ytbbdneekfejjkaa
