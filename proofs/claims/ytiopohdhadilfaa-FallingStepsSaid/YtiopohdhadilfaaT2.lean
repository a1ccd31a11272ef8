import Derived.Test.YtiopohdhadilfaaT1
import Derived.Test.YtiopohdhadilfaaP1
namespace Go.Proofs.Ytiopohdhadilfaa
open Go.ChangeShapes Go.WideShapes Go.ChangeAt Go.RowKit Go.Deep
set_option linter.unusedSimpArgs false
set_option linter.unusedVariables false

set_option maxHeartbeats 1000000 in
theorem last_zero (k op cl st sp ex la fl fa co ru : Int) (w : World) (h : LotOK k op cl st sp ex la fl fa co ru) (hz : fa = 0) : Calls Try.prog 39 #[.agg #[.int .i64 k, .int .i64 op, .int .i64 cl, .int .i64 st, .int .i64 sp, .int .i64 ex, .int .i64 la, .int .i64 fl, .int .i64 fa, .int .i64 co, .int .i64 ru]] w fun e w' => e = .returned (.tuple #[.int .i64 0, .bool false]) ∧ Below w.heap.size w w' := by
  obtain ⟨b1, b2, b3, b4, b5, b6, b7, b8, b9, b10, b11⟩ := bnd k op cl st sp ex la fl fa co ru h
  subst hz
  go_enter Try.func39, Try.ntmps39
  go_wp2
  go_ret2
  exact ⟨rfl, by (focus repeat' (first | (with_reducible exact Below.refl _ _) | (with_reducible assumption) | (with_reducible refine Below.alloc ?_ ?_ _) | (with_reducible refine Below.drew ?_) | (with_reducible refine bdrewN ?_ _) | (with_reducible refine Below.setCell ?_ ?_ _) | (first | (with_reducible exact Nat.le_refl _) | (with_reducible assumption) | omega | (simp; omega) | (simp; done))))⟩

set_option maxHeartbeats 1000000 in
theorem last_pos (k op cl st sp ex la fl fa co ru : Int) (w : World) (h : LotOK k op cl st sp ex la fl fa co ru) (hp : 0 < fa) : Calls Try.prog 39 #[.agg #[.int .i64 k, .int .i64 op, .int .i64 cl, .int .i64 st, .int .i64 sp, .int .i64 ex, .int .i64 la, .int .i64 fl, .int .i64 fa, .int .i64 co, .int .i64 ru]] w fun e w' => e = .returned (.tuple #[.int .i64 (op + (st - fl + fa - 1) / fa), .bool true]) ∧ Below w.heap.size w w' := by
  obtain ⟨b1, b2, b3, b4, b5, b6, b7, b8, b9, b10, b11⟩ := bnd k op cl st sp ex la fl fa co ru h
  have d0 : 0 ≤ (st - fl + fa - 1) / fa := Int.ediv_nonneg (by omega) (by omega)
  have d1 : (st - fl + fa - 1) / fa ≤ st - fl + fa - 1 := Int.ediv_le_self _ (by omega)
  have hne : (fa == 0) = false := by rw [beq_eq_false_iff_ne]; omega
  go_enter Try.func39, Try.ntmps39
  go_wp2
  go_quiet (fail)
  go_wp2
  go_ret2
  exact ⟨rfl, by (focus repeat' (first | (with_reducible exact Below.refl _ _) | (with_reducible assumption) | (with_reducible refine Below.alloc ?_ ?_ _) | (with_reducible refine Below.drew ?_) | (with_reducible refine bdrewN ?_ _) | (with_reducible refine Below.setCell ?_ ?_ _) | (first | (with_reducible exact Nat.le_refl _) | (with_reducible assumption) | omega | (simp; omega) | (simp; done))))⟩

set_option maxHeartbeats 1000000 in
theorem price_zero (k op cl st sp ex la fl fa co ru t : Int) (w : World) (h : LotOK k op cl st sp ex la fl fa co ru) (hz : fa = 0) (h1 : op ≤ t) (h2 : t ≤ 1099511627776) : Calls Try.prog 27 #[.agg #[.int .i64 k, .int .i64 op, .int .i64 cl, .int .i64 st, .int .i64 sp, .int .i64 ex, .int .i64 la, .int .i64 fl, .int .i64 fa, .int .i64 co, .int .i64 ru], .int .i64 t] w fun e w' => e = .returned (.int .i64 (priceI op st fl fa t)) ∧ Below w.heap.size w w' := by
  obtain ⟨b1, b2, b3, b4, b5, b6, b7, b8, b9, b10, b11⟩ := bnd k op cl st sp ex la fl fa co ru h
  have e0 := price_flat (op := op) (st := st) (fl := fl) (t := t) hz
  subst hz
  have E0 := hide e0
  clear e0
  go_enter Try.func27, Try.ntmps27
  go_wp2_with fail
  (apply Calls.mono; focus ((apply last_zero <;> (first | (with_reducible assumption) | (with_reducible rfl) | omega)); done)); rintro e w1 ⟨rfl, hb1⟩
  have HB1 : Below w.heap.size w w1 := bstep (by (focus repeat' (first | (with_reducible exact Below.refl _ _) | (with_reducible assumption) | (with_reducible refine Below.alloc ?_ ?_ _) | (with_reducible refine Below.drew ?_) | (with_reducible refine bdrewN ?_ _) | (with_reducible refine Below.setCell ?_ ?_ _) | (first | (with_reducible exact Nat.le_refl _) | (with_reducible assumption) | omega | (simp; omega) | (simp; done))))) hb1
  have hz1 := hb1.size
  (try simp only [World.size_drew, World.size_alloc] at hz1)
  have hz1_0 : w.heap.size < w1.heap.size := by omega
  have HC1_0 : ∀ o, w1.cell? ⟨w.heap.size, o, none⟩ = (#[Value.int .i64 k, Value.int .i64 op, Value.int .i64 cl, Value.int .i64 st, Value.int .i64 sp, Value.int .i64 ex, Value.int .i64 la, Value.int .i64 fl, Value.int .i64 0, Value.int .i64 co, Value.int .i64 ru] : Array Value)[o]? := fun o => (hb1.cell (p := ⟨w.heap.size, o, none⟩) (by first | (simp; done) | omega | (simp; omega))).trans (by simp [go_sem, *])
  clear hb1 hz1
  go_wp2
  go_ret
  exact ⟨ret_int (by have := E0.out; omega), by (focus repeat' (first | (with_reducible exact Below.refl _ _) | (with_reducible assumption) | (with_reducible refine Below.alloc ?_ ?_ _) | (with_reducible refine Below.drew ?_) | (with_reducible refine bdrewN ?_ _) | (with_reducible refine Below.setCell ?_ ?_ _) | (first | (with_reducible exact Nat.le_refl _) | (with_reducible assumption) | omega | (simp; omega) | (simp; done))))⟩

set_option maxHeartbeats 1000000 in
theorem price_early (k op cl st sp ex la fl fa co ru t : Int) (w : World) (h : LotOK k op cl st sp ex la fl fa co ru) (hp : 0 < fa) (h1 : op ≤ t) (h2 : t ≤ 1099511627776) (he : t < op + (st - fl + fa - 1) / fa) : Calls Try.prog 27 #[.agg #[.int .i64 k, .int .i64 op, .int .i64 cl, .int .i64 st, .int .i64 sp, .int .i64 ex, .int .i64 la, .int .i64 fl, .int .i64 fa, .int .i64 co, .int .i64 ru], .int .i64 t] w fun e w' => e = .returned (.int .i64 (priceI op st fl fa t)) ∧ Below w.heap.size w w' := by
  obtain ⟨b1, b2, b3, b4, b5, b6, b7, b8, b9, b10, b11⟩ := bnd k op cl st sp ex la fl fa co ru h
  obtain ⟨m0, m1, _⟩ := below_end (d := st - fl) (fa := fa) (s := t - op) hp (by omega) (by omega)
  have E0 := hide (price_below hp h1 he)
  go_enter Try.func27, Try.ntmps27
  go_wp2_with fail
  (apply Calls.mono; focus ((apply last_pos <;> (first | (with_reducible assumption) | (with_reducible rfl) | omega)); done)); rintro e w1 ⟨rfl, hb1⟩
  have HB1 : Below w.heap.size w w1 := bstep (by (focus repeat' (first | (with_reducible exact Below.refl _ _) | (with_reducible assumption) | (with_reducible refine Below.alloc ?_ ?_ _) | (with_reducible refine Below.drew ?_) | (with_reducible refine bdrewN ?_ _) | (with_reducible refine Below.setCell ?_ ?_ _) | (first | (with_reducible exact Nat.le_refl _) | (with_reducible assumption) | omega | (simp; omega) | (simp; done))))) hb1
  have hz1 := hb1.size
  (try simp only [World.size_drew, World.size_alloc] at hz1)
  have hz1_0 : w.heap.size < w1.heap.size := by omega
  have HC1_0 : ∀ o, w1.cell? ⟨w.heap.size, o, none⟩ = (#[Value.int .i64 k, Value.int .i64 op, Value.int .i64 cl, Value.int .i64 st, Value.int .i64 sp, Value.int .i64 ex, Value.int .i64 la, Value.int .i64 fl, Value.int .i64 fa, Value.int .i64 co, Value.int .i64 ru] : Array Value)[o]? := fun o => (hb1.cell (p := ⟨w.heap.size, o, none⟩) (by first | (simp; done) | omega | (simp; omega))).trans (by simp [go_sem, *])
  clear hb1 hz1
  go_wp2
  go_ret
  exact ⟨ret_int E0.out, by (focus repeat' (first | (with_reducible exact Below.refl _ _) | (with_reducible assumption) | (with_reducible refine Below.alloc ?_ ?_ _) | (with_reducible refine Below.drew ?_) | (with_reducible refine bdrewN ?_ _) | (with_reducible refine Below.setCell ?_ ?_ _) | (first | (with_reducible exact Nat.le_refl _) | (with_reducible assumption) | omega | (simp; omega) | (simp; done))))⟩

set_option maxHeartbeats 1000000 in
theorem price_late (k op cl st sp ex la fl fa co ru t : Int) (w : World) (h : LotOK k op cl st sp ex la fl fa co ru) (hp : 0 < fa) (h1 : op ≤ t) (h2 : t ≤ 1099511627776) (he : op + (st - fl + fa - 1) / fa ≤ t) : Calls Try.prog 27 #[.agg #[.int .i64 k, .int .i64 op, .int .i64 cl, .int .i64 st, .int .i64 sp, .int .i64 ex, .int .i64 la, .int .i64 fl, .int .i64 fa, .int .i64 co, .int .i64 ru], .int .i64 t] w fun e w' => e = .returned (.int .i64 (priceI op st fl fa t)) ∧ Below w.heap.size w w' := by
  obtain ⟨b1, b2, b3, b4, b5, b6, b7, b8, b9, b10, b11⟩ := bnd k op cl st sp ex la fl fa co ru h
  have E0 := hide (price_above hp he)
  go_enter Try.func27, Try.ntmps27
  go_wp2_with fail
  (apply Calls.mono; focus ((apply last_pos <;> (first | (with_reducible assumption) | (with_reducible rfl) | omega)); done)); rintro e w1 ⟨rfl, hb1⟩
  have HB1 : Below w.heap.size w w1 := bstep (by (focus repeat' (first | (with_reducible exact Below.refl _ _) | (with_reducible assumption) | (with_reducible refine Below.alloc ?_ ?_ _) | (with_reducible refine Below.drew ?_) | (with_reducible refine bdrewN ?_ _) | (with_reducible refine Below.setCell ?_ ?_ _) | (first | (with_reducible exact Nat.le_refl _) | (with_reducible assumption) | omega | (simp; omega) | (simp; done))))) hb1
  have hz1 := hb1.size
  (try simp only [World.size_drew, World.size_alloc] at hz1)
  have hz1_0 : w.heap.size < w1.heap.size := by omega
  have HC1_0 : ∀ o, w1.cell? ⟨w.heap.size, o, none⟩ = (#[Value.int .i64 k, Value.int .i64 op, Value.int .i64 cl, Value.int .i64 st, Value.int .i64 sp, Value.int .i64 ex, Value.int .i64 la, Value.int .i64 fl, Value.int .i64 fa, Value.int .i64 co, Value.int .i64 ru] : Array Value)[o]? := fun o => (hb1.cell (p := ⟨w.heap.size, o, none⟩) (by first | (simp; done) | omega | (simp; omega))).trans (by simp [go_sem, *])
  clear hb1 hz1
  go_wp2
  go_ret
  exact ⟨ret_int E0.out, by (focus repeat' (first | (with_reducible exact Below.refl _ _) | (with_reducible assumption) | (with_reducible refine Below.alloc ?_ ?_ _) | (with_reducible refine Below.drew ?_) | (with_reducible refine bdrewN ?_ _) | (with_reducible refine Below.setCell ?_ ?_ _) | (first | (with_reducible exact Nat.le_refl _) | (with_reducible assumption) | omega | (simp; omega) | (simp; done))))⟩

theorem price_any (k op cl st sp ex la fl fa co ru t : Int) (w : World) (h : LotOK k op cl st sp ex la fl fa co ru) (h1 : op ≤ t) (h2 : t ≤ 1099511627776) : Calls Try.prog 27 #[.agg #[.int .i64 k, .int .i64 op, .int .i64 cl, .int .i64 st, .int .i64 sp, .int .i64 ex, .int .i64 la, .int .i64 fl, .int .i64 fa, .int .i64 co, .int .i64 ru], .int .i64 t] w fun e w' => e = .returned (.int .i64 (priceI op st fl fa t)) ∧ Below w.heap.size w w' := by
  have b := bnd k op cl st sp ex la fl fa co ru h
  by_cases hz : fa = 0
  · exact price_zero k op cl st sp ex la fl fa co ru t w h hz h1 h2
  · by_cases he : t < op + (st - fl + fa - 1) / fa
    · exact price_early k op cl st sp ex la fl fa co ru t w h (by omega) h1 h2 he
    · exact price_late k op cl st sp ex la fl fa co ru t w h (by omega) h1 h2 (by omega)

set_option maxHeartbeats 1000000 in
theorem rprice_zero (k op cl st sp ex la fl fa co ru t : Int) (w : World) (h : LotOK k op cl st sp ex la fl fa co ru) (hz : fa = 0) (h1 : op ≤ t) (h2 : t ≤ 1099511627776) : Calls Try.prog 30 #[.agg #[.int .i64 k, .int .i64 op, .int .i64 cl, .int .i64 st, .int .i64 sp, .int .i64 ex, .int .i64 la, .int .i64 fl, .int .i64 fa, .int .i64 co, .int .i64 ru], .int .i64 t] w fun e w' => e = .returned (.int .i64 (priceI op st fl fa t)) ∧ Below w.heap.size w w' := by
  obtain ⟨b1, b2, b3, b4, b5, b6, b7, b8, b9, b10, b11⟩ := bnd k op cl st sp ex la fl fa co ru h
  have e0 := price_flat (op := op) (st := st) (fl := fl) (t := t) hz
  subst hz
  have E0 := hide e0
  clear e0
  go_enter Try.func30, Try.ntmps30
  go_wp2
  go_ret
  exact ⟨ret_int (by have := E0.out; omega), by (focus repeat' (first | (with_reducible exact Below.refl _ _) | (with_reducible assumption) | (with_reducible refine Below.alloc ?_ ?_ _) | (with_reducible refine Below.drew ?_) | (with_reducible refine bdrewN ?_ _) | (with_reducible refine Below.setCell ?_ ?_ _) | (first | (with_reducible exact Nat.le_refl _) | (with_reducible assumption) | omega | (simp; omega) | (simp; done))))⟩

set_option maxHeartbeats 1000000 in
theorem rprice_late (k op cl st sp ex la fl fa co ru t : Int) (w : World) (h : LotOK k op cl st sp ex la fl fa co ru) (hp : 0 < fa) (h1 : op ≤ t) (h2 : t ≤ 1099511627776) (he : (st - fl) / fa < t - op) : Calls Try.prog 30 #[.agg #[.int .i64 k, .int .i64 op, .int .i64 cl, .int .i64 st, .int .i64 sp, .int .i64 ex, .int .i64 la, .int .i64 fl, .int .i64 fa, .int .i64 co, .int .i64 ru], .int .i64 t] w fun e w' => e = .returned (.int .i64 (priceI op st fl fa t)) ∧ Below w.heap.size w w' := by
  obtain ⟨b1, b2, b3, b4, b5, b6, b7, b8, b9, b10, b11⟩ := bnd k op cl st sp ex la fl fa co ru h
  have d0 : 0 ≤ (st - fl) / fa := Int.ediv_nonneg (by omega) (by omega)
  have d1 : (st - fl) / fa ≤ st - fl := Int.ediv_le_self _ (by omega)
  have e0 : fl = priceI op st fl fa t := by unfold priceI; rw [if_pos ⟨hp, he⟩]
  have E0 := hide e0
  clear e0
  go_enter Try.func30, Try.ntmps30
  go_wp2
  go_ret
  exact ⟨ret_int E0.out, by (focus repeat' (first | (with_reducible exact Below.refl _ _) | (with_reducible assumption) | (with_reducible refine Below.alloc ?_ ?_ _) | (with_reducible refine Below.drew ?_) | (with_reducible refine bdrewN ?_ _) | (with_reducible refine Below.setCell ?_ ?_ _) | (first | (with_reducible exact Nat.le_refl _) | (with_reducible assumption) | omega | (simp; omega) | (simp; done))))⟩

set_option maxHeartbeats 1000000 in
theorem rprice_early (k op cl st sp ex la fl fa co ru t : Int) (w : World) (h : LotOK k op cl st sp ex la fl fa co ru) (hp : 0 < fa) (h1 : op ≤ t) (h2 : t ≤ 1099511627776) (he : t - op ≤ (st - fl) / fa) : Calls Try.prog 30 #[.agg #[.int .i64 k, .int .i64 op, .int .i64 cl, .int .i64 st, .int .i64 sp, .int .i64 ex, .int .i64 la, .int .i64 fl, .int .i64 fa, .int .i64 co, .int .i64 ru], .int .i64 t] w fun e w' => e = .returned (.int .i64 (priceI op st fl fa t)) ∧ Below w.heap.size w w' := by
  obtain ⟨b1, b2, b3, b4, b5, b6, b7, b8, b9, b10, b11⟩ := bnd k op cl st sp ex la fl fa co ru h
  have d0 : 0 ≤ (st - fl) / fa := Int.ediv_nonneg (by omega) (by omega)
  have d1 : (st - fl) / fa ≤ st - fl := Int.ediv_le_self _ (by omega)
  obtain ⟨m0, m1⟩ := mul_small (d := st - fl) (fa := fa) (s := t - op) hp (by omega) (by omega) (by omega)
  have e0 : st - fa * (t - op) = priceI op st fl fa t := by unfold priceI; rw [if_neg (fun x => by omega)]
  have E0 := hide e0
  clear e0
  go_enter Try.func30, Try.ntmps30
  go_wp2
  go_ret
  exact ⟨ret_int E0.out, by (focus repeat' (first | (with_reducible exact Below.refl _ _) | (with_reducible assumption) | (with_reducible refine Below.alloc ?_ ?_ _) | (with_reducible refine Below.drew ?_) | (with_reducible refine bdrewN ?_ _) | (with_reducible refine Below.setCell ?_ ?_ _) | (first | (with_reducible exact Nat.le_refl _) | (with_reducible assumption) | omega | (simp; omega) | (simp; done))))⟩

theorem rprice_any (k op cl st sp ex la fl fa co ru t : Int) (w : World) (h : LotOK k op cl st sp ex la fl fa co ru) (h1 : op ≤ t) (h2 : t ≤ 1099511627776) : Calls Try.prog 30 #[.agg #[.int .i64 k, .int .i64 op, .int .i64 cl, .int .i64 st, .int .i64 sp, .int .i64 ex, .int .i64 la, .int .i64 fl, .int .i64 fa, .int .i64 co, .int .i64 ru], .int .i64 t] w fun e w' => e = .returned (.int .i64 (priceI op st fl fa t)) ∧ Below w.heap.size w w' := by
  have b := bnd k op cl st sp ex la fl fa co ru h
  by_cases hz : fa = 0
  · exact rprice_zero k op cl st sp ex la fl fa co ru t w h hz h1 h2
  · by_cases he : (st - fl) / fa < t - op
    · exact rprice_late k op cl st sp ex la fl fa co ru t w h (by omega) h1 h2 he
    · exact rprice_early k op cl st sp ex la fl fa co ru t w h (by omega) h1 h2 (by omega)
end Go.Proofs.Ytiopohdhadilfaa
