import Derived.Test.YtiopohdhadilfaaT2
namespace Go.Proofs.Ytiopohdhadilfaa
open Go.ChangeShapes Go.WideShapes Go.ChangeAt Go.RowKit Go.Deep
set_option linter.unusedSimpArgs false
set_option linter.unusedVariables false

def fT (o : Option Int) : Int := o.getD 0
def fB (o : Option Int) : Bool := o.isSome

set_option maxHeartbeats 1000000 in
theorem First_no (k op cl st sp ex la fl fa co ru c : Int) (w : World) (h : ¬ LotOK k op cl st sp ex la fl fa co ru) : Calls Try.prog 13 #[.agg #[.int .i64 k, .int .i64 op, .int .i64 cl, .int .i64 st, .int .i64 sp, .int .i64 ex, .int .i64 la, .int .i64 fl, .int .i64 fa, .int .i64 co, .int .i64 ru], .int .i64 c] w fun e w' => e = .returned (.tuple #[.int .i64 0, .bool false]) ∧ Below w.heap.size w w' := by
  go_enter Try.func13, Try.ntmps13
  go_wp2_with fail
  (apply Calls.mono; focus ((apply check_no <;> (first | (with_reducible assumption) | (with_reducible rfl) | omega)); done)); rintro e w1 ⟨rfl, hb1⟩
  have HB1 : Below w.heap.size w w1 := bstep (by (focus repeat' (first | (with_reducible exact Below.refl _ _) | (with_reducible assumption) | (with_reducible refine Below.alloc ?_ ?_ _) | (with_reducible refine Below.drew ?_) | (with_reducible refine bdrewN ?_ _) | (with_reducible refine Below.setCell ?_ ?_ _) | (first | (with_reducible exact Nat.le_refl _) | (with_reducible assumption) | omega | (simp; omega) | (simp; done))))) hb1
  have hz1 := hb1.size
  (try simp only [World.size_drew, World.size_alloc] at hz1)
  have hz1_0 : w.heap.size < w1.heap.size := by omega
  have HC1_0 : ∀ o, w1.cell? ⟨w.heap.size, o, none⟩ = (#[Value.int .i64 k, Value.int .i64 op, Value.int .i64 cl, Value.int .i64 st, Value.int .i64 sp, Value.int .i64 ex, Value.int .i64 la, Value.int .i64 fl, Value.int .i64 fa, Value.int .i64 co, Value.int .i64 ru] : Array Value)[o]? := fun o => (hb1.cell (p := ⟨w.heap.size, o, none⟩) (by first | (simp; done) | omega | (simp; omega))).trans (by simp [go_sem, *])
  clear hb1 hz1
  go_wp2
  go_ret2
  exact ⟨rfl, by (focus repeat' (first | (with_reducible exact Below.refl _ _) | (with_reducible assumption) | (with_reducible refine Below.alloc ?_ ?_ _) | (with_reducible refine Below.drew ?_) | (with_reducible refine bdrewN ?_ _) | (with_reducible refine Below.setCell ?_ ?_ _) | (first | (with_reducible exact Nat.le_refl _) | (with_reducible assumption) | omega | (simp; omega) | (simp; done))))⟩

set_option maxHeartbeats 1000000 in
theorem First_high (k op cl st sp ex la fl fa co ru c : Int) (w : World) (h : LotOK k op cl st sp ex la fl fa co ru) (hc : st ≤ c) : Calls Try.prog 13 #[.agg #[.int .i64 k, .int .i64 op, .int .i64 cl, .int .i64 st, .int .i64 sp, .int .i64 ex, .int .i64 la, .int .i64 fl, .int .i64 fa, .int .i64 co, .int .i64 ru], .int .i64 c] w fun e w' => e = .returned (.tuple #[.int .i64 (fT (firstI op cl st fl fa c)), .bool (fB (firstI op cl st fl fa c))]) ∧ Below w.heap.size w w' := by
  obtain ⟨b1, b2, b3, b4, b5, b6, b7, b8, b9, b10, b11⟩ := bnd k op cl st sp ex la fl fa co ru h
  have e0 : firstI op cl st fl fa c = some op := by unfold firstI; rw [if_pos hc]
  have E0 := hide e0
  clear e0
  go_enter Try.func13, Try.ntmps13
  go_wp2_with fail
  (apply Calls.mono; focus ((apply check_ok <;> (first | (with_reducible assumption) | (with_reducible rfl) | omega)); done)); rintro e w1 ⟨rfl, hb1⟩
  have HB1 : Below w.heap.size w w1 := bstep (by (focus repeat' (first | (with_reducible exact Below.refl _ _) | (with_reducible assumption) | (with_reducible refine Below.alloc ?_ ?_ _) | (with_reducible refine Below.drew ?_) | (with_reducible refine bdrewN ?_ _) | (with_reducible refine Below.setCell ?_ ?_ _) | (first | (with_reducible exact Nat.le_refl _) | (with_reducible assumption) | omega | (simp; omega) | (simp; done))))) hb1
  have hz1 := hb1.size
  (try simp only [World.size_drew, World.size_alloc] at hz1)
  have hz1_0 : w.heap.size < w1.heap.size := by omega
  have HC1_0 : ∀ o, w1.cell? ⟨w.heap.size, o, none⟩ = (#[Value.int .i64 k, Value.int .i64 op, Value.int .i64 cl, Value.int .i64 st, Value.int .i64 sp, Value.int .i64 ex, Value.int .i64 la, Value.int .i64 fl, Value.int .i64 fa, Value.int .i64 co, Value.int .i64 ru] : Array Value)[o]? := fun o => (hb1.cell (p := ⟨w.heap.size, o, none⟩) (by first | (simp; done) | omega | (simp; omega))).trans (by simp [go_sem, *])
  clear hb1 hz1
  go_wp2
  go_ret2
  exact ⟨ret_ib (by rw [E0.out]; rfl) (by rw [E0.out]; rfl), by (focus repeat' (first | (with_reducible exact Below.refl _ _) | (with_reducible assumption) | (with_reducible refine Below.alloc ?_ ?_ _) | (with_reducible refine Below.drew ?_) | (with_reducible refine bdrewN ?_ _) | (with_reducible refine Below.setCell ?_ ?_ _) | (first | (with_reducible exact Nat.le_refl _) | (with_reducible assumption) | omega | (simp; omega) | (simp; done))))⟩

set_option maxHeartbeats 1000000 in
theorem First_low (k op cl st sp ex la fl fa co ru c : Int) (w : World) (h : LotOK k op cl st sp ex la fl fa co ru) (hc : c < st) (hd : c < fl) : Calls Try.prog 13 #[.agg #[.int .i64 k, .int .i64 op, .int .i64 cl, .int .i64 st, .int .i64 sp, .int .i64 ex, .int .i64 la, .int .i64 fl, .int .i64 fa, .int .i64 co, .int .i64 ru], .int .i64 c] w fun e w' => e = .returned (.tuple #[.int .i64 (fT (firstI op cl st fl fa c)), .bool (fB (firstI op cl st fl fa c))]) ∧ Below w.heap.size w w' := by
  obtain ⟨b1, b2, b3, b4, b5, b6, b7, b8, b9, b10, b11⟩ := bnd k op cl st sp ex la fl fa co ru h
  have e0 : firstI op cl st fl fa c = none := by unfold firstI; rw [if_neg (by omega), if_pos (.inl hd)]
  have E0 := hide e0
  clear e0
  go_enter Try.func13, Try.ntmps13
  go_wp2_with fail
  (apply Calls.mono; focus ((apply check_ok <;> (first | (with_reducible assumption) | (with_reducible rfl) | omega)); done)); rintro e w1 ⟨rfl, hb1⟩
  have HB1 : Below w.heap.size w w1 := bstep (by (focus repeat' (first | (with_reducible exact Below.refl _ _) | (with_reducible assumption) | (with_reducible refine Below.alloc ?_ ?_ _) | (with_reducible refine Below.drew ?_) | (with_reducible refine bdrewN ?_ _) | (with_reducible refine Below.setCell ?_ ?_ _) | (first | (with_reducible exact Nat.le_refl _) | (with_reducible assumption) | omega | (simp; omega) | (simp; done))))) hb1
  have hz1 := hb1.size
  (try simp only [World.size_drew, World.size_alloc] at hz1)
  have hz1_0 : w.heap.size < w1.heap.size := by omega
  have HC1_0 : ∀ o, w1.cell? ⟨w.heap.size, o, none⟩ = (#[Value.int .i64 k, Value.int .i64 op, Value.int .i64 cl, Value.int .i64 st, Value.int .i64 sp, Value.int .i64 ex, Value.int .i64 la, Value.int .i64 fl, Value.int .i64 fa, Value.int .i64 co, Value.int .i64 ru] : Array Value)[o]? := fun o => (hb1.cell (p := ⟨w.heap.size, o, none⟩) (by first | (simp; done) | omega | (simp; omega))).trans (by simp [go_sem, *])
  clear hb1 hz1
  go_wp2
  go_ret2
  exact ⟨ret_ib (by rw [E0.out]; rfl) (by rw [E0.out]; rfl), by (focus repeat' (first | (with_reducible exact Below.refl _ _) | (with_reducible assumption) | (with_reducible refine Below.alloc ?_ ?_ _) | (with_reducible refine Below.drew ?_) | (with_reducible refine bdrewN ?_ _) | (with_reducible refine Below.setCell ?_ ?_ _) | (first | (with_reducible exact Nat.le_refl _) | (with_reducible assumption) | omega | (simp; omega) | (simp; done))))⟩

set_option maxHeartbeats 1000000 in
theorem First_flat (k op cl st sp ex la fl fa co ru c : Int) (w : World) (h : LotOK k op cl st sp ex la fl fa co ru) (hc : c < st) (hd : fl ≤ c) (hz : fa = 0) : Calls Try.prog 13 #[.agg #[.int .i64 k, .int .i64 op, .int .i64 cl, .int .i64 st, .int .i64 sp, .int .i64 ex, .int .i64 la, .int .i64 fl, .int .i64 fa, .int .i64 co, .int .i64 ru], .int .i64 c] w fun e w' => e = .returned (.tuple #[.int .i64 (fT (firstI op cl st fl fa c)), .bool (fB (firstI op cl st fl fa c))]) ∧ Below w.heap.size w w' := by
  obtain ⟨b1, b2, b3, b4, b5, b6, b7, b8, b9, b10, b11⟩ := bnd k op cl st sp ex la fl fa co ru h
  have e0 : firstI op cl st fl fa c = none := by unfold firstI; rw [if_neg (by omega), if_pos (.inr hz)]
  subst hz
  have E0 := hide e0
  clear e0
  go_enter Try.func13, Try.ntmps13
  go_wp2_with fail
  (apply Calls.mono; focus ((apply check_ok <;> (first | (with_reducible assumption) | (with_reducible rfl) | omega)); done)); rintro e w1 ⟨rfl, hb1⟩
  have HB1 : Below w.heap.size w w1 := bstep (by (focus repeat' (first | (with_reducible exact Below.refl _ _) | (with_reducible assumption) | (with_reducible refine Below.alloc ?_ ?_ _) | (with_reducible refine Below.drew ?_) | (with_reducible refine bdrewN ?_ _) | (with_reducible refine Below.setCell ?_ ?_ _) | (first | (with_reducible exact Nat.le_refl _) | (with_reducible assumption) | omega | (simp; omega) | (simp; done))))) hb1
  have hz1 := hb1.size
  (try simp only [World.size_drew, World.size_alloc] at hz1)
  have hz1_0 : w.heap.size < w1.heap.size := by omega
  have HC1_0 : ∀ o, w1.cell? ⟨w.heap.size, o, none⟩ = (#[Value.int .i64 k, Value.int .i64 op, Value.int .i64 cl, Value.int .i64 st, Value.int .i64 sp, Value.int .i64 ex, Value.int .i64 la, Value.int .i64 fl, Value.int .i64 0, Value.int .i64 co, Value.int .i64 ru] : Array Value)[o]? := fun o => (hb1.cell (p := ⟨w.heap.size, o, none⟩) (by first | (simp; done) | omega | (simp; omega))).trans (by simp [go_sem, *])
  clear hb1 hz1
  go_wp2
  go_ret2
  exact ⟨ret_ib (by rw [E0.out]; rfl) (by rw [E0.out]; rfl), by (focus repeat' (first | (with_reducible exact Below.refl _ _) | (with_reducible assumption) | (with_reducible refine Below.alloc ?_ ?_ _) | (with_reducible refine Below.drew ?_) | (with_reducible refine bdrewN ?_ _) | (with_reducible refine Below.setCell ?_ ?_ _) | (first | (with_reducible exact Nat.le_refl _) | (with_reducible assumption) | omega | (simp; omega) | (simp; done))))⟩

set_option maxHeartbeats 1000000 in
theorem First_late (k op cl st sp ex la fl fa co ru c : Int) (w : World) (h : LotOK k op cl st sp ex la fl fa co ru) (hc : c < st) (hd : fl ≤ c) (hp : 0 < fa) (he : cl ≤ op + (st - c + fa - 1) / fa) : Calls Try.prog 13 #[.agg #[.int .i64 k, .int .i64 op, .int .i64 cl, .int .i64 st, .int .i64 sp, .int .i64 ex, .int .i64 la, .int .i64 fl, .int .i64 fa, .int .i64 co, .int .i64 ru], .int .i64 c] w fun e w' => e = .returned (.tuple #[.int .i64 (fT (firstI op cl st fl fa c)), .bool (fB (firstI op cl st fl fa c))]) ∧ Below w.heap.size w w' := by
  obtain ⟨b1, b2, b3, b4, b5, b6, b7, b8, b9, b10, b11⟩ := bnd k op cl st sp ex la fl fa co ru h
  have e0 : firstI op cl st fl fa c = none := by unfold firstI; rw [if_neg (by omega), if_neg (by omega), if_pos he]
  have d0 : 0 ≤ (st - c + fa - 1) / fa := Int.ediv_nonneg (by omega) (by omega)
  have d1 : (st - c + fa - 1) / fa ≤ st - c + fa - 1 := Int.ediv_le_self _ (by omega)
  have hne : (fa == 0) = false := by rw [beq_eq_false_iff_ne]; omega
  have E0 := hide e0
  clear e0
  go_enter Try.func13, Try.ntmps13
  go_wp2_with fail
  (apply Calls.mono; focus ((apply check_ok <;> (first | (with_reducible assumption) | (with_reducible rfl) | omega)); done)); rintro e w1 ⟨rfl, hb1⟩
  have HB1 : Below w.heap.size w w1 := bstep (by (focus repeat' (first | (with_reducible exact Below.refl _ _) | (with_reducible assumption) | (with_reducible refine Below.alloc ?_ ?_ _) | (with_reducible refine Below.drew ?_) | (with_reducible refine bdrewN ?_ _) | (with_reducible refine Below.setCell ?_ ?_ _) | (first | (with_reducible exact Nat.le_refl _) | (with_reducible assumption) | omega | (simp; omega) | (simp; done))))) hb1
  have hz1 := hb1.size
  (try simp only [World.size_drew, World.size_alloc] at hz1)
  have hz1_0 : w.heap.size < w1.heap.size := by omega
  have HC1_0 : ∀ o, w1.cell? ⟨w.heap.size, o, none⟩ = (#[Value.int .i64 k, Value.int .i64 op, Value.int .i64 cl, Value.int .i64 st, Value.int .i64 sp, Value.int .i64 ex, Value.int .i64 la, Value.int .i64 fl, Value.int .i64 fa, Value.int .i64 co, Value.int .i64 ru] : Array Value)[o]? := fun o => (hb1.cell (p := ⟨w.heap.size, o, none⟩) (by first | (simp; done) | omega | (simp; omega))).trans (by simp [go_sem, *])
  clear hb1 hz1
  go_wp2
  go_ret2
  exact ⟨ret_ib (by rw [E0.out]; rfl) (by rw [E0.out]; rfl), by (focus repeat' (first | (with_reducible exact Below.refl _ _) | (with_reducible assumption) | (with_reducible refine Below.alloc ?_ ?_ _) | (with_reducible refine Below.drew ?_) | (with_reducible refine bdrewN ?_ _) | (with_reducible refine Below.setCell ?_ ?_ _) | (first | (with_reducible exact Nat.le_refl _) | (with_reducible assumption) | omega | (simp; omega) | (simp; done))))⟩

set_option maxHeartbeats 1000000 in
theorem First_mid (k op cl st sp ex la fl fa co ru c : Int) (w : World) (h : LotOK k op cl st sp ex la fl fa co ru) (hc : c < st) (hd : fl ≤ c) (hp : 0 < fa) (he : op + (st - c + fa - 1) / fa < cl) : Calls Try.prog 13 #[.agg #[.int .i64 k, .int .i64 op, .int .i64 cl, .int .i64 st, .int .i64 sp, .int .i64 ex, .int .i64 la, .int .i64 fl, .int .i64 fa, .int .i64 co, .int .i64 ru], .int .i64 c] w fun e w' => e = .returned (.tuple #[.int .i64 (fT (firstI op cl st fl fa c)), .bool (fB (firstI op cl st fl fa c))]) ∧ Below w.heap.size w w' := by
  obtain ⟨b1, b2, b3, b4, b5, b6, b7, b8, b9, b10, b11⟩ := bnd k op cl st sp ex la fl fa co ru h
  have e0 : firstI op cl st fl fa c = some (op + (st - c + fa - 1) / fa) := by unfold firstI; rw [if_neg (by omega), if_neg (by omega), if_neg (by omega)]
  have d0 : 0 ≤ (st - c + fa - 1) / fa := Int.ediv_nonneg (by omega) (by omega)
  have d1 : (st - c + fa - 1) / fa ≤ st - c + fa - 1 := Int.ediv_le_self _ (by omega)
  have hne : (fa == 0) = false := by rw [beq_eq_false_iff_ne]; omega
  have E0 := hide e0
  clear e0
  go_enter Try.func13, Try.ntmps13
  go_wp2_with fail
  (apply Calls.mono; focus ((apply check_ok <;> (first | (with_reducible assumption) | (with_reducible rfl) | omega)); done)); rintro e w1 ⟨rfl, hb1⟩
  have HB1 : Below w.heap.size w w1 := bstep (by (focus repeat' (first | (with_reducible exact Below.refl _ _) | (with_reducible assumption) | (with_reducible refine Below.alloc ?_ ?_ _) | (with_reducible refine Below.drew ?_) | (with_reducible refine bdrewN ?_ _) | (with_reducible refine Below.setCell ?_ ?_ _) | (first | (with_reducible exact Nat.le_refl _) | (with_reducible assumption) | omega | (simp; omega) | (simp; done))))) hb1
  have hz1 := hb1.size
  (try simp only [World.size_drew, World.size_alloc] at hz1)
  have hz1_0 : w.heap.size < w1.heap.size := by omega
  have HC1_0 : ∀ o, w1.cell? ⟨w.heap.size, o, none⟩ = (#[Value.int .i64 k, Value.int .i64 op, Value.int .i64 cl, Value.int .i64 st, Value.int .i64 sp, Value.int .i64 ex, Value.int .i64 la, Value.int .i64 fl, Value.int .i64 fa, Value.int .i64 co, Value.int .i64 ru] : Array Value)[o]? := fun o => (hb1.cell (p := ⟨w.heap.size, o, none⟩) (by first | (simp; done) | omega | (simp; omega))).trans (by simp [go_sem, *])
  clear hb1 hz1
  go_wp2
  go_ret2
  exact ⟨ret_ib (by rw [E0.out]; rfl) (by rw [E0.out]; rfl), by (focus repeat' (first | (with_reducible exact Below.refl _ _) | (with_reducible assumption) | (with_reducible refine Below.alloc ?_ ?_ _) | (with_reducible refine Below.drew ?_) | (with_reducible refine bdrewN ?_ _) | (with_reducible refine Below.setCell ?_ ?_ _) | (first | (with_reducible exact Nat.le_refl _) | (with_reducible assumption) | omega | (simp; omega) | (simp; done))))⟩

theorem First_ok (k op cl st sp ex la fl fa co ru c : Int) (w : World) (h : LotOK k op cl st sp ex la fl fa co ru) : Calls Try.prog 13 #[.agg #[.int .i64 k, .int .i64 op, .int .i64 cl, .int .i64 st, .int .i64 sp, .int .i64 ex, .int .i64 la, .int .i64 fl, .int .i64 fa, .int .i64 co, .int .i64 ru], .int .i64 c] w fun e w' => e = .returned (.tuple #[.int .i64 (fT (firstI op cl st fl fa c)), .bool (fB (firstI op cl st fl fa c))]) ∧ Below w.heap.size w w' := by
  have b := bnd k op cl st sp ex la fl fa co ru h
  by_cases hc : st ≤ c
  · exact First_high k op cl st sp ex la fl fa co ru c w h hc
  · by_cases hd : c < fl
    · exact First_low k op cl st sp ex la fl fa co ru c w h (by omega) hd
    · by_cases hz : fa = 0
      · exact First_flat k op cl st sp ex la fl fa co ru c w h (by omega) (by omega) hz
      · by_cases he : cl ≤ op + (st - c + fa - 1) / fa
        · exact First_late k op cl st sp ex la fl fa co ru c w h (by omega) (by omega) (by omega) he
        · exact First_mid k op cl st sp ex la fl fa co ru c w h (by omega) (by omega) (by omega) (by omega)

set_option maxHeartbeats 1000000 in
theorem rFirst_no (k op cl st sp ex la fl fa co ru c : Int) (w : World) (h : ¬ LotOK k op cl st sp ex la fl fa co ru) : Calls Try.prog 29 #[.agg #[.int .i64 k, .int .i64 op, .int .i64 cl, .int .i64 st, .int .i64 sp, .int .i64 ex, .int .i64 la, .int .i64 fl, .int .i64 fa, .int .i64 co, .int .i64 ru], .int .i64 c] w fun e w' => e = .returned (.tuple #[.int .i64 0, .bool false]) ∧ Below w.heap.size w w' := by
  go_enter Try.func29, Try.ntmps29
  go_wp2_with fail
  (apply Calls.mono; focus ((apply rcheck_no <;> (first | (with_reducible assumption) | (with_reducible rfl) | omega)); done)); rintro e w1 ⟨rfl, hb1⟩
  have HB1 : Below w.heap.size w w1 := bstep (by (focus repeat' (first | (with_reducible exact Below.refl _ _) | (with_reducible assumption) | (with_reducible refine Below.alloc ?_ ?_ _) | (with_reducible refine Below.drew ?_) | (with_reducible refine bdrewN ?_ _) | (with_reducible refine Below.setCell ?_ ?_ _) | (first | (with_reducible exact Nat.le_refl _) | (with_reducible assumption) | omega | (simp; omega) | (simp; done))))) hb1
  have hz1 := hb1.size
  (try simp only [World.size_drew, World.size_alloc] at hz1)
  have hz1_0 : w.heap.size < w1.heap.size := by omega
  have HC1_0 : ∀ o, w1.cell? ⟨w.heap.size, o, none⟩ = (#[Value.int .i64 k, Value.int .i64 op, Value.int .i64 cl, Value.int .i64 st, Value.int .i64 sp, Value.int .i64 ex, Value.int .i64 la, Value.int .i64 fl, Value.int .i64 fa, Value.int .i64 co, Value.int .i64 ru] : Array Value)[o]? := fun o => (hb1.cell (p := ⟨w.heap.size, o, none⟩) (by first | (simp; done) | omega | (simp; omega))).trans (by simp [go_sem, *])
  clear hb1 hz1
  go_wp2
  go_ret2
  exact ⟨rfl, by (focus repeat' (first | (with_reducible exact Below.refl _ _) | (with_reducible assumption) | (with_reducible refine Below.alloc ?_ ?_ _) | (with_reducible refine Below.drew ?_) | (with_reducible refine bdrewN ?_ _) | (with_reducible refine Below.setCell ?_ ?_ _) | (first | (with_reducible exact Nat.le_refl _) | (with_reducible assumption) | omega | (simp; omega) | (simp; done))))⟩

theorem none_of (k op cl st sp ex la fl fa co ru c : Int) (h : LotOK k op cl st sp ex la fl fa co ru) (hc : c < priceI op st fl fa (cl - 1)) : firstI op cl st fl fa c = none := by
  have b := bnd k op cl st sp ex la fl fa co ru h
  cases e : firstI op cl st fl fa c with
  | none => rfl
  | some t =>
    obtain ⟨a1, a2, a3, _⟩ := first_some (by omega) (by omega) (by omega) e
    have := price_falls (op := op) (st := st) (fl := fl) (fa := fa) (t := t) (u := cl - 1) (by omega) (by omega) a1 (by omega)
    omega

set_option maxHeartbeats 1000000 in
theorem rFirst_none (k op cl st sp ex la fl fa co ru c : Int) (w : World) (h : LotOK k op cl st sp ex la fl fa co ru) (hc : c < priceI op st fl fa (cl - 1)) : Calls Try.prog 29 #[.agg #[.int .i64 k, .int .i64 op, .int .i64 cl, .int .i64 st, .int .i64 sp, .int .i64 ex, .int .i64 la, .int .i64 fl, .int .i64 fa, .int .i64 co, .int .i64 ru], .int .i64 c] w fun e w' => e = .returned (.tuple #[.int .i64 (fT (firstI op cl st fl fa c)), .bool (fB (firstI op cl st fl fa c))]) ∧ Below w.heap.size w w' := by
  obtain ⟨b1, b2, b3, b4, b5, b6, b7, b8, b9, b10, b11⟩ := bnd k op cl st sp ex la fl fa co ru h
  have E0 := hide (none_of k op cl st sp ex la fl fa co ru c h hc)
  go_enter Try.func29, Try.ntmps29
  go_wp2_with fail
  (apply Calls.mono; focus ((apply rcheck_ok <;> (first | (with_reducible assumption) | (with_reducible rfl) | omega)); done)); rintro e w1 ⟨rfl, hb1⟩
  have HB1 : Below w.heap.size w w1 := bstep (by (focus repeat' (first | (with_reducible exact Below.refl _ _) | (with_reducible assumption) | (with_reducible refine Below.alloc ?_ ?_ _) | (with_reducible refine Below.drew ?_) | (with_reducible refine bdrewN ?_ _) | (with_reducible refine Below.setCell ?_ ?_ _) | (first | (with_reducible exact Nat.le_refl _) | (with_reducible assumption) | omega | (simp; omega) | (simp; done))))) hb1
  have hz1 := hb1.size
  (try simp only [World.size_drew, World.size_alloc] at hz1)
  have hz1_0 : w.heap.size < w1.heap.size := by omega
  have HC1_0 : ∀ o, w1.cell? ⟨w.heap.size, o, none⟩ = (#[Value.int .i64 k, Value.int .i64 op, Value.int .i64 cl, Value.int .i64 st, Value.int .i64 sp, Value.int .i64 ex, Value.int .i64 la, Value.int .i64 fl, Value.int .i64 fa, Value.int .i64 co, Value.int .i64 ru] : Array Value)[o]? := fun o => (hb1.cell (p := ⟨w.heap.size, o, none⟩) (by first | (simp; done) | omega | (simp; omega))).trans (by simp [go_sem, *])
  clear hb1 hz1
  go_wp2_with fail
  (apply Calls.mono; focus ((apply rprice_any <;> (first | (with_reducible assumption) | (with_reducible rfl) | omega)); done)); rintro e w2 ⟨rfl, hb2⟩
  have HB2 : Below w.heap.size w w2 := bstep (by (focus repeat' (first | (with_reducible exact Below.refl _ _) | (with_reducible assumption) | (with_reducible refine Below.alloc ?_ ?_ _) | (with_reducible refine Below.drew ?_) | (with_reducible refine bdrewN ?_ _) | (with_reducible refine Below.setCell ?_ ?_ _) | (first | (with_reducible exact Nat.le_refl _) | (with_reducible assumption) | omega | (simp; omega) | (simp; done))))) hb2
  have hz2 := hb2.size
  (try simp only [World.size_drew, World.size_alloc] at hz2)
  have hz2_0 : w.heap.size < w2.heap.size := by omega
  have HC2_0 : ∀ o, w2.cell? ⟨w.heap.size, o, none⟩ = (#[Value.int .i64 k, Value.int .i64 op, Value.int .i64 cl, Value.int .i64 st, Value.int .i64 sp, Value.int .i64 ex, Value.int .i64 la, Value.int .i64 fl, Value.int .i64 fa, Value.int .i64 co, Value.int .i64 ru] : Array Value)[o]? := fun o => (hb2.cell (p := ⟨w.heap.size, o, none⟩) (by first | (simp; done) | omega | (simp; omega))).trans (by simp [go_sem, *])
  clear hb2 hz2 HB1 hz1_0 HC1_0
  go_wp2
  go_ret2
  exact ⟨ret_ib (by rw [E0.out]; rfl) (by rw [E0.out]; rfl), by (focus repeat' (first | (with_reducible exact Below.refl _ _) | (with_reducible assumption) | (with_reducible refine Below.alloc ?_ ?_ _) | (with_reducible refine Below.drew ?_) | (with_reducible refine bdrewN ?_ _) | (with_reducible refine Below.setCell ?_ ?_ _) | (first | (with_reducible exact Nat.le_refl _) | (with_reducible assumption) | omega | (simp; omega) | (simp; done))))⟩

set_option maxHeartbeats 1000000 in
theorem rFirst_some (k op cl st sp ex la fl fa co ru c : Int) (w : World) (h : LotOK k op cl st sp ex la fl fa co ru) (hc : priceI op st fl fa (cl - 1) ≤ c) : Calls Try.prog 29 #[.agg #[.int .i64 k, .int .i64 op, .int .i64 cl, .int .i64 st, .int .i64 sp, .int .i64 ex, .int .i64 la, .int .i64 fl, .int .i64 fa, .int .i64 co, .int .i64 ru], .int .i64 c] w fun e w' => e = .returned (.tuple #[.int .i64 (fT (firstI op cl st fl fa c)), .bool (fB (firstI op cl st fl fa c))]) ∧ Below w.heap.size w w' := by
  obtain ⟨b1, b2, b3, b4, b5, b6, b7, b8, b9, b10, b11⟩ := bnd k op cl st sp ex la fl fa co ru h
  go_enter Try.func29, Try.ntmps29
  go_wp2_with fail
  (apply Calls.mono; focus ((apply rcheck_ok <;> (first | (with_reducible assumption) | (with_reducible rfl) | omega)); done)); rintro e w1 ⟨rfl, hb1⟩
  have HB1 : Below w.heap.size w w1 := bstep (by (focus repeat' (first | (with_reducible exact Below.refl _ _) | (with_reducible assumption) | (with_reducible refine Below.alloc ?_ ?_ _) | (with_reducible refine Below.drew ?_) | (with_reducible refine bdrewN ?_ _) | (with_reducible refine Below.setCell ?_ ?_ _) | (first | (with_reducible exact Nat.le_refl _) | (with_reducible assumption) | omega | (simp; omega) | (simp; done))))) hb1
  have hz1 := hb1.size
  (try simp only [World.size_drew, World.size_alloc] at hz1)
  have hz1_0 : w.heap.size < w1.heap.size := by omega
  have HC1_0 : ∀ o, w1.cell? ⟨w.heap.size, o, none⟩ = (#[Value.int .i64 k, Value.int .i64 op, Value.int .i64 cl, Value.int .i64 st, Value.int .i64 sp, Value.int .i64 ex, Value.int .i64 la, Value.int .i64 fl, Value.int .i64 fa, Value.int .i64 co, Value.int .i64 ru] : Array Value)[o]? := fun o => (hb1.cell (p := ⟨w.heap.size, o, none⟩) (by first | (simp; done) | omega | (simp; omega))).trans (by simp [go_sem, *])
  clear hb1 hz1
  go_wp2_with fail
  (apply Calls.mono; focus ((apply rprice_any <;> (first | (with_reducible assumption) | (with_reducible rfl) | omega)); done)); rintro e w2 ⟨rfl, hb2⟩
  have HB2 : Below w.heap.size w w2 := bstep (by (focus repeat' (first | (with_reducible exact Below.refl _ _) | (with_reducible assumption) | (with_reducible refine Below.alloc ?_ ?_ _) | (with_reducible refine Below.drew ?_) | (with_reducible refine bdrewN ?_ _) | (with_reducible refine Below.setCell ?_ ?_ _) | (first | (with_reducible exact Nat.le_refl _) | (with_reducible assumption) | omega | (simp; omega) | (simp; done))))) hb2
  have hz2 := hb2.size
  (try simp only [World.size_drew, World.size_alloc] at hz2)
  have hz2_0 : w.heap.size < w2.heap.size := by omega
  have HC2_0 : ∀ o, w2.cell? ⟨w.heap.size, o, none⟩ = (#[Value.int .i64 k, Value.int .i64 op, Value.int .i64 cl, Value.int .i64 st, Value.int .i64 sp, Value.int .i64 ex, Value.int .i64 la, Value.int .i64 fl, Value.int .i64 fa, Value.int .i64 co, Value.int .i64 ru] : Array Value)[o]? := fun o => (hb2.cell (p := ⟨w.heap.size, o, none⟩) (by first | (simp; done) | omega | (simp; omega))).trans (by simp [go_sem, *])
  clear hb2 hz2 HB1 hz1_0 HC1_0
  go_wp2
  go_quiet (fail)
  go_wp2
  go_loopw [6, 7] (fun lo hi wr => ∃ a b : Int, lo = .int .i64 a ∧ hi = .int .i64 b ∧ op ≤ a ∧ a ≤ b ∧ b < cl ∧ priceI op st fl fa b ≤ c ∧ (a = op ∨ c < priceI op st fl fa (a - 1)) ∧ Below w.heap.size w wr ∧ (w.heap.size < wr.heap.size ∧ ∀ o, wr.cell? ⟨w.heap.size, o, none⟩ = (#[Value.int .i64 k, Value.int .i64 op, Value.int .i64 cl, Value.int .i64 st, Value.int .i64 sp, Value.int .i64 ex, Value.int .i64 la, Value.int .i64 fl, Value.int .i64 fa, Value.int .i64 co, Value.int .i64 ru] : Array Value)[o]?)) (fun lo hi _ => (intOf hi - intOf lo).toNat)
  case atStart =>
    exact ⟨op, cl - 1, rfl, rfl, by omega, by omega, by omega, hc, .inl rfl, bdrewN HB2 _, by simpa using hz2_0, by intro o; simpa using HC2_0 o⟩
  case round =>
    obtain ⟨a, b, rfl, rfl, r1, r2, r3, r4, r5, rB, rz, rc⟩ := hrel
    clear HB2 hz2_0 HC2_0
    by_cases hlt : a < b
    · go_wp2_with fail
      (apply Calls.mono; focus ((apply rprice_any <;> (first | (with_reducible assumption) | (with_reducible rfl) | omega)); done)); rintro e w3 ⟨rfl, hb3⟩
      have HB3 : Below w.heap.size w w3 := bstep (by (focus repeat' (first | (with_reducible exact Below.refl _ _) | (with_reducible assumption) | (with_reducible refine Below.alloc ?_ ?_ _) | (with_reducible refine Below.drew ?_) | (with_reducible refine bdrewN ?_ _) | (with_reducible refine Below.setCell ?_ ?_ _) | (first | (with_reducible exact Nat.le_refl _) | (with_reducible assumption) | omega | (simp; omega) | (simp; done))))) hb3
      have hz3 := hb3.size
      (try simp only [World.size_drew, World.size_alloc] at hz3)
      have hz3_0 : w.heap.size < w3.heap.size := by omega
      have HC3_0 : ∀ o, w3.cell? ⟨w.heap.size, o, none⟩ = (#[Value.int .i64 k, Value.int .i64 op, Value.int .i64 cl, Value.int .i64 st, Value.int .i64 sp, Value.int .i64 ex, Value.int .i64 la, Value.int .i64 fl, Value.int .i64 fa, Value.int .i64 co, Value.int .i64 ru] : Array Value)[o]? := fun o => (hb3.cell (p := ⟨w.heap.size, o, none⟩) (by first | (simp; done) | omega | (simp; omega))).trans (by simp [go_sem, *])
      clear hb3 hz3
      by_cases hp : priceI op st fl fa (a + (b - a) / 2) ≤ c
      · go_wp2
        go_roundw
        case rel => exact ⟨a, a + (b - a) / 2, rfl, rfl, r1, by omega, by omega, hp, r5, HB3, hz3_0, HC3_0⟩
        case measure => simp [intOf]; omega
      · have hp' : c < priceI op st fl fa (a + (b - a) / 2) := by omega
        go_wp2
        go_roundw
        case rel => exact ⟨a + (b - a) / 2 + 1, b, rfl, rfl, by omega, by omega, r3, r4, .inr (by rw [show a + (b - a) / 2 + 1 - 1 = a + (b - a) / 2 by omega]; exact hp'), HB3, hz3_0, HC3_0⟩
        case measure => simp [intOf]; omega
    · have hab : b = a := by omega
      subst hab
      have e0 := first_of (op := op) (cl := cl) (st := st) (fl := fl) (fa := fa) (c := c) (t := b) (by omega) (by omega) b5 ⟨r1, r3, r4, r5⟩
      have E0 := hide e0
      clear e0
      go_wp2
      go_ret2
      exact ⟨ret_ib (by rw [E0.out]; rfl) (by rw [E0.out]; rfl), rB⟩

theorem rFirst_ok (k op cl st sp ex la fl fa co ru c : Int) (w : World) (h : LotOK k op cl st sp ex la fl fa co ru) : Calls Try.prog 29 #[.agg #[.int .i64 k, .int .i64 op, .int .i64 cl, .int .i64 st, .int .i64 sp, .int .i64 ex, .int .i64 la, .int .i64 fl, .int .i64 fa, .int .i64 co, .int .i64 ru], .int .i64 c] w fun e w' => e = .returned (.tuple #[.int .i64 (fT (firstI op cl st fl fa c)), .bool (fB (firstI op cl st fl fa c))]) ∧ Below w.heap.size w w' := by
  by_cases hc : c < priceI op st fl fa (cl - 1)
  · exact rFirst_none k op cl st sp ex la fl fa co ru c w h hc
  · exact rFirst_some k op cl st sp ex la fl fa co ru c w h (by omega)
end Go.Proofs.Ytiopohdhadilfaa
