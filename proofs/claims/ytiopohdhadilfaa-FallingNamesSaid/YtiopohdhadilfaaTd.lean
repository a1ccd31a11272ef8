import Derived.Test.YtiopohdhadilfaaTc
namespace Go.Proofs.Ytiopohdhadilfaa
open Go.ChangeShapes Go.WideShapes Go.ChangeAt Go.RowKit Go.Deep
set_option linter.unusedSimpArgs false
set_option linter.unusedVariables false
theorem ck1 (w : World) : Calls Try.prog 12 #[.agg #[.int .i64 2, .int .i64 0, .int .i64 1099511627776, .int .i64 1099511627776, .int .i64 0, .int .i64 0, .int .i64 0, .int .i64 1099511627776, .int .i64 1099511627776, .int .i64 0, .int .i64 0]] w fun e w' => e = .returned (.int .i64 0) ∧ Below w.heap.size w w' := check_ok 2 0 1099511627776 1099511627776 0 0 0 1099511627776 1099511627776 0 0 w (by unfold LotOK; omega)
theorem ck2 (w : World) : Calls Try.prog 12 #[.agg #[.int .i64 2, .int .i64 0, .int .i64 1099511627776, .int .i64 1099511627777, .int .i64 0, .int .i64 0, .int .i64 0, .int .i64 1099511627776, .int .i64 1099511627776, .int .i64 0, .int .i64 0]] w fun e w' => e = .returned (.int .i64 2) ∧ Below w.heap.size w w' := check_no 2 0 1099511627776 1099511627777 0 0 0 1099511627776 1099511627776 0 0 w (by unfold LotOK; omega)
theorem ck3 (w : World) : Calls Try.prog 12 #[.agg #[.int .i64 2, .int .i64 1099511627776, .int .i64 1099511627776, .int .i64 1099511627776, .int .i64 0, .int .i64 0, .int .i64 0, .int .i64 1099511627776, .int .i64 1099511627776, .int .i64 0, .int .i64 0]] w fun e w' => e = .returned (.int .i64 2) ∧ Below w.heap.size w w' := check_no 2 1099511627776 1099511627776 1099511627776 0 0 0 1099511627776 1099511627776 0 0 w (by unfold LotOK; omega)

set_option maxRecDepth 100000 in
set_option maxHeartbeats 2000000 in
theorem names_walk  (w : World) : Calls Try.prog 7 #[] w fun e w' => e = .returned (.bool true) ∧ Below w.heap.size w w' := by
  go_enter Try.func7, Try.ntmps7
  go_wp2_with fail
  (apply Calls.mono; focus ((apply Bid_nil <;> (first | (with_reducible assumption) | (with_reducible rfl) | omega)); done)); rintro e w1 ⟨rfl, hb1⟩
  have HB1 : Below w.heap.size w w1 := bstep (by (focus repeat' (first | (with_reducible exact Below.refl _ _) | (with_reducible assumption) | (with_reducible refine Below.alloc ?_ ?_ _) | (with_reducible refine Below.drew ?_) | (with_reducible refine bdrewN ?_ _) | (with_reducible refine Below.setCell ?_ ?_ _) | (first | (with_reducible exact Nat.le_refl _) | (with_reducible assumption) | omega | (simp; omega) | (simp; done))))) hb1
  have h1 : w1.cell? ⟨w.heap.size, 0, none⟩ = some (.int .i64 0) := (hb1.cell (p := ⟨w.heap.size, 0, none⟩) (by simp)).trans (by simp)
  have s1 := hb1.size
  clear hb1
  go_wp2_with fail
  have s1' : w.heap.size < w1.heap.size := by (simp at s1; omega)
  clear s1
  have s1 := s1'
  clear s1'
  refine (Bid_zero 0 w.heap.size _ _ _ _ _ h1 rfl).mono ?_
  rintro e w2 ⟨rfl, hb2⟩
  have HB2 : Below w.heap.size w w2 := bstep (by (focus repeat' (first | (with_reducible exact Below.refl _ _) | (with_reducible assumption) | (with_reducible refine Below.alloc ?_ ?_ _) | (with_reducible refine Below.drew ?_) | (with_reducible refine bdrewN ?_ _) | (with_reducible refine Below.setCell ?_ ?_ _) | (first | (with_reducible exact Nat.le_refl _) | (with_reducible assumption) | omega | (simp; omega) | (simp; done))))) hb2
  have h2 : w2.cell? ⟨w.heap.size, 0, none⟩ = some (.int .i64 0) := (hb2.cell (p := ⟨w.heap.size, 0, none⟩) (by first | (simp; done) | omega | (simp; omega))).trans (by simp [go_sem, *])
  have s2 : w.heap.size < w2.heap.size := by have := hb2.size; (try simp at this); omega
  clear hb2 HB1 h1 s1
  go_wp2_with (go_at_call 11; go_in)
  refine (Sold_zero 0 w.heap.size _ h2 rfl).mono ?_
  rintro e w3 ⟨rfl, hb3⟩
  have HB3 : Below w.heap.size w w3 := bstep (by (focus repeat' (first | (with_reducible exact Below.refl _ _) | (with_reducible assumption) | (with_reducible refine Below.alloc ?_ ?_ _) | (with_reducible refine Below.drew ?_) | (with_reducible refine bdrewN ?_ _) | (with_reducible refine Below.setCell ?_ ?_ _) | (first | (with_reducible exact Nat.le_refl _) | (with_reducible assumption) | omega | (simp; omega) | (simp; done))))) hb3
  have h3 : w3.cell? ⟨w.heap.size, 0, none⟩ = some (.int .i64 0) := (hb3.cell (p := ⟨w.heap.size, 0, none⟩) (by first | (simp; done) | omega | (simp; omega))).trans (by simp [go_sem, *])
  have s3 : w.heap.size < w3.heap.size := by have := hb3.size; (try simp at this); omega
  clear hb3 HB2 h2 s2
  go_wp2_with (go_at_call 11; go_in)
  refine (At_zero 0 w.heap.size _ _ h3 rfl).mono ?_
  rintro e w4 ⟨rfl, hb4⟩
  have HB4 : Below w.heap.size w w4 := bstep (by (focus repeat' (first | (with_reducible exact Below.refl _ _) | (with_reducible assumption) | (with_reducible refine Below.alloc ?_ ?_ _) | (with_reducible refine Below.drew ?_) | (with_reducible refine bdrewN ?_ _) | (with_reducible refine Below.setCell ?_ ?_ _) | (first | (with_reducible exact Nat.le_refl _) | (with_reducible assumption) | omega | (simp; omega) | (simp; done))))) hb4
  have h4 : w4.cell? ⟨w.heap.size, 0, none⟩ = some (.int .i64 0) := (hb4.cell (p := ⟨w.heap.size, 0, none⟩) (by first | (simp; done) | omega | (simp; omega))).trans (by simp [go_sem, *])
  have s4 : w.heap.size < w4.heap.size := by have := hb4.size; (try simp at this); omega
  clear hb4 HB3 h3 s3
  go_wp2_with (go_at_call 11; go_in)
  have s4a : w.heap.size < w4.heap.size + 1 := by omega
  have s4b : w.heap.size < w4.heap.size + 1 + 1 := by omega
  refine (Copy_nil _).mono ?_
  rintro e w5 ⟨rfl, hb5⟩
  have HB5 : Below w.heap.size w w5 := bstep (by (focus repeat' (first | (with_reducible exact Below.refl _ _) | (with_reducible assumption) | (with_reducible refine Below.alloc ?_ ?_ _) | (with_reducible refine Below.drew ?_) | (with_reducible refine bdrewN ?_ _) | (with_reducible refine Below.setCell ?_ ?_ _) | (first | (with_reducible exact Nat.le_refl _) | (with_reducible assumption) | omega | (simp; omega) | (simp; done))))) hb5
  have hz5 := hb5.size
  (try simp only [World.size_drew, World.size_alloc] at hz5)
  have hz5_0 : w4.heap.size < w5.heap.size := by omega
  have hz5_1 : w4.heap.size + 1 < w5.heap.size := by omega
  have hz5_2 : w4.heap.size + 2 < w5.heap.size := by omega
  have HC5_0 : ∀ o, w5.cell? ⟨w4.heap.size, o, none⟩ = (#[Value.int .i64 2, Value.int .i64 0, Value.int .i64 1099511627776, Value.int .i64 1099511627776, Value.int .i64 0, Value.int .i64 0, Value.int .i64 0, Value.int .i64 1099511627776, Value.int .i64 1099511627776, Value.int .i64 0, Value.int .i64 0] : Array Value)[o]? := fun o => (hb5.cell (p := ⟨w4.heap.size, o, none⟩) (by first | (simp; done) | omega | (simp; omega))).trans (by first | (with_reducible assumption) | (simp [go_sem, *]; done))
  have HC5_1 : ∀ o, w5.cell? ⟨w4.heap.size + 1, o, none⟩ = (#[Value.int .i64 2, Value.int .i64 0, Value.int .i64 1099511627776, Value.int .i64 1099511627777, Value.int .i64 0, Value.int .i64 0, Value.int .i64 0, Value.int .i64 1099511627776, Value.int .i64 1099511627776, Value.int .i64 0, Value.int .i64 0] : Array Value)[o]? := fun o => (hb5.cell (p := ⟨w4.heap.size + 1, o, none⟩) (by first | (simp; done) | omega | (simp; omega))).trans (by first | (with_reducible assumption) | (simp [go_sem, *]; done))
  have HC5_2 : ∀ o, w5.cell? ⟨w4.heap.size + 2, o, none⟩ = (#[Value.int .i64 2, Value.int .i64 1099511627776, Value.int .i64 1099511627776, Value.int .i64 1099511627776, Value.int .i64 0, Value.int .i64 0, Value.int .i64 0, Value.int .i64 1099511627776, Value.int .i64 1099511627776, Value.int .i64 0, Value.int .i64 0] : Array Value)[o]? := fun o => (hb5.cell (p := ⟨w4.heap.size + 2, o, none⟩) (by first | (simp; done) | omega | (simp; omega))).trans (by first | (with_reducible assumption) | (simp [go_sem, *]; done))
  have h5 : w5.cell? ⟨w.heap.size, 0, none⟩ = some (.int .i64 0) := (hb5.cell (p := ⟨w.heap.size, 0, none⟩) (by first | (simp; done) | omega | (simp; omega))).trans (by first | assumption | simp [go_sem, *])
  have s5 : w.heap.size < w5.heap.size := by omega
  clear hb5 hz5 HB4
  go_wp2_with (go_at_call 11; go_in)
  refine (Copy_zero 0 w.heap.size _ (by first | exact h5 | (simp [go_sem, *]; done)) rfl).mono ?_
  rintro e w6 ⟨rfl, hb6⟩
  have HB6 : Below w.heap.size w w6 := bstep (by (focus repeat' (first | (with_reducible exact Below.refl _ _) | (with_reducible assumption) | (with_reducible refine Below.alloc ?_ ?_ _) | (with_reducible refine Below.drew ?_) | (with_reducible refine bdrewN ?_ _) | (with_reducible refine Below.setCell ?_ ?_ _) | (first | (with_reducible exact Nat.le_refl _) | (with_reducible assumption) | omega | (simp; omega) | (simp; done))))) hb6
  have hz6 := hb6.size
  (try simp only [World.size_drew, World.size_alloc] at hz6)
  have hz6_0 : w4.heap.size < w6.heap.size := by omega
  have hz6_1 : w4.heap.size + 1 < w6.heap.size := by omega
  have hz6_2 : w4.heap.size + 2 < w6.heap.size := by omega
  have HC6_0 : ∀ o, w6.cell? ⟨w4.heap.size, o, none⟩ = (#[Value.int .i64 2, Value.int .i64 0, Value.int .i64 1099511627776, Value.int .i64 1099511627776, Value.int .i64 0, Value.int .i64 0, Value.int .i64 0, Value.int .i64 1099511627776, Value.int .i64 1099511627776, Value.int .i64 0, Value.int .i64 0] : Array Value)[o]? := fun o => (hb6.cell (p := ⟨w4.heap.size, o, none⟩) (by first | (simp; done) | omega | (simp; omega))).trans (by first | (with_reducible assumption) | (simp [go_sem, *]; done))
  have HC6_1 : ∀ o, w6.cell? ⟨w4.heap.size + 1, o, none⟩ = (#[Value.int .i64 2, Value.int .i64 0, Value.int .i64 1099511627776, Value.int .i64 1099511627777, Value.int .i64 0, Value.int .i64 0, Value.int .i64 0, Value.int .i64 1099511627776, Value.int .i64 1099511627776, Value.int .i64 0, Value.int .i64 0] : Array Value)[o]? := fun o => (hb6.cell (p := ⟨w4.heap.size + 1, o, none⟩) (by first | (simp; done) | omega | (simp; omega))).trans (by first | (with_reducible assumption) | (simp [go_sem, *]; done))
  have HC6_2 : ∀ o, w6.cell? ⟨w4.heap.size + 2, o, none⟩ = (#[Value.int .i64 2, Value.int .i64 1099511627776, Value.int .i64 1099511627776, Value.int .i64 1099511627776, Value.int .i64 0, Value.int .i64 0, Value.int .i64 0, Value.int .i64 1099511627776, Value.int .i64 1099511627776, Value.int .i64 0, Value.int .i64 0] : Array Value)[o]? := fun o => (hb6.cell (p := ⟨w4.heap.size + 2, o, none⟩) (by first | (simp; done) | omega | (simp; omega))).trans (by first | (with_reducible assumption) | (simp [go_sem, *]; done))
  have h6 : w6.cell? ⟨w.heap.size, 0, none⟩ = some (.int .i64 0) := (hb6.cell (p := ⟨w.heap.size, 0, none⟩) (by first | (simp; done) | omega | (simp; omega))).trans (by first | assumption | simp [go_sem, *])
  have s6 : w.heap.size < w6.heap.size := by omega
  clear hb6 hz6 HB5 hz5_0 hz5_1 hz5_2 HC5_0 HC5_1 HC5_2
  go_wp2_with (go_at_call 11; go_in)
  refine (ck1 _).mono ?_
  rintro e w7 ⟨rfl, hb7⟩
  have HB7 : Below w.heap.size w w7 := bstep (by (focus repeat' (first | (with_reducible exact Below.refl _ _) | (with_reducible assumption) | (with_reducible refine Below.alloc ?_ ?_ _) | (with_reducible refine Below.drew ?_) | (with_reducible refine bdrewN ?_ _) | (with_reducible refine Below.setCell ?_ ?_ _) | (first | (with_reducible exact Nat.le_refl _) | (with_reducible assumption) | omega | (simp; omega) | (simp; done))))) hb7
  have hz7 := hb7.size
  (try simp only [World.size_drew, World.size_alloc] at hz7)
  have hz7_0 : w4.heap.size < w7.heap.size := by omega
  have hz7_1 : w4.heap.size + 1 < w7.heap.size := by omega
  have hz7_2 : w4.heap.size + 2 < w7.heap.size := by omega
  have HC7_0 : ∀ o, w7.cell? ⟨w4.heap.size, o, none⟩ = (#[Value.int .i64 2, Value.int .i64 0, Value.int .i64 1099511627776, Value.int .i64 1099511627776, Value.int .i64 0, Value.int .i64 0, Value.int .i64 0, Value.int .i64 1099511627776, Value.int .i64 1099511627776, Value.int .i64 0, Value.int .i64 0] : Array Value)[o]? := fun o => (hb7.cell (p := ⟨w4.heap.size, o, none⟩) (by first | (simp; done) | omega | (simp; omega))).trans (by first | (with_reducible assumption) | (simp [go_sem, *]; done))
  have HC7_1 : ∀ o, w7.cell? ⟨w4.heap.size + 1, o, none⟩ = (#[Value.int .i64 2, Value.int .i64 0, Value.int .i64 1099511627776, Value.int .i64 1099511627777, Value.int .i64 0, Value.int .i64 0, Value.int .i64 0, Value.int .i64 1099511627776, Value.int .i64 1099511627776, Value.int .i64 0, Value.int .i64 0] : Array Value)[o]? := fun o => (hb7.cell (p := ⟨w4.heap.size + 1, o, none⟩) (by first | (simp; done) | omega | (simp; omega))).trans (by first | (with_reducible assumption) | (simp [go_sem, *]; done))
  have HC7_2 : ∀ o, w7.cell? ⟨w4.heap.size + 2, o, none⟩ = (#[Value.int .i64 2, Value.int .i64 1099511627776, Value.int .i64 1099511627776, Value.int .i64 1099511627776, Value.int .i64 0, Value.int .i64 0, Value.int .i64 0, Value.int .i64 1099511627776, Value.int .i64 1099511627776, Value.int .i64 0, Value.int .i64 0] : Array Value)[o]? := fun o => (hb7.cell (p := ⟨w4.heap.size + 2, o, none⟩) (by first | (simp; done) | omega | (simp; omega))).trans (by first | (with_reducible assumption) | (simp [go_sem, *]; done))
  have h7 : w7.cell? ⟨w.heap.size, 0, none⟩ = some (.int .i64 0) := (hb7.cell (p := ⟨w.heap.size, 0, none⟩) (by first | (simp; done) | omega | (simp; omega))).trans (by first | assumption | simp [go_sem, *])
  have s7 : w.heap.size < w7.heap.size := by omega
  clear hb7 hz7 HB6 hz6_0 hz6_1 hz6_2 HC6_0 HC6_1 HC6_2
  go_wp2_with (go_at_call 11; go_in)
  refine (ck2 _).mono ?_
  rintro e w8 ⟨rfl, hb8⟩
  have HB8 : Below w.heap.size w w8 := bstep (by (focus repeat' (first | (with_reducible exact Below.refl _ _) | (with_reducible assumption) | (with_reducible refine Below.alloc ?_ ?_ _) | (with_reducible refine Below.drew ?_) | (with_reducible refine bdrewN ?_ _) | (with_reducible refine Below.setCell ?_ ?_ _) | (first | (with_reducible exact Nat.le_refl _) | (with_reducible assumption) | omega | (simp; omega) | (simp; done))))) hb8
  have hz8 := hb8.size
  (try simp only [World.size_drew, World.size_alloc] at hz8)
  have hz8_0 : w4.heap.size < w8.heap.size := by omega
  have hz8_1 : w4.heap.size + 1 < w8.heap.size := by omega
  have hz8_2 : w4.heap.size + 2 < w8.heap.size := by omega
  have HC8_0 : ∀ o, w8.cell? ⟨w4.heap.size, o, none⟩ = (#[Value.int .i64 2, Value.int .i64 0, Value.int .i64 1099511627776, Value.int .i64 1099511627776, Value.int .i64 0, Value.int .i64 0, Value.int .i64 0, Value.int .i64 1099511627776, Value.int .i64 1099511627776, Value.int .i64 0, Value.int .i64 0] : Array Value)[o]? := fun o => (hb8.cell (p := ⟨w4.heap.size, o, none⟩) (by first | (simp; done) | omega | (simp; omega))).trans (by first | (with_reducible assumption) | (simp [go_sem, *]; done))
  have HC8_1 : ∀ o, w8.cell? ⟨w4.heap.size + 1, o, none⟩ = (#[Value.int .i64 2, Value.int .i64 0, Value.int .i64 1099511627776, Value.int .i64 1099511627777, Value.int .i64 0, Value.int .i64 0, Value.int .i64 0, Value.int .i64 1099511627776, Value.int .i64 1099511627776, Value.int .i64 0, Value.int .i64 0] : Array Value)[o]? := fun o => (hb8.cell (p := ⟨w4.heap.size + 1, o, none⟩) (by first | (simp; done) | omega | (simp; omega))).trans (by first | (with_reducible assumption) | (simp [go_sem, *]; done))
  have HC8_2 : ∀ o, w8.cell? ⟨w4.heap.size + 2, o, none⟩ = (#[Value.int .i64 2, Value.int .i64 1099511627776, Value.int .i64 1099511627776, Value.int .i64 1099511627776, Value.int .i64 0, Value.int .i64 0, Value.int .i64 0, Value.int .i64 1099511627776, Value.int .i64 1099511627776, Value.int .i64 0, Value.int .i64 0] : Array Value)[o]? := fun o => (hb8.cell (p := ⟨w4.heap.size + 2, o, none⟩) (by first | (simp; done) | omega | (simp; omega))).trans (by first | (with_reducible assumption) | (simp [go_sem, *]; done))
  have h8 : w8.cell? ⟨w.heap.size, 0, none⟩ = some (.int .i64 0) := (hb8.cell (p := ⟨w.heap.size, 0, none⟩) (by first | (simp; done) | omega | (simp; omega))).trans (by first | assumption | simp [go_sem, *])
  have s8 : w.heap.size < w8.heap.size := by omega
  clear hb8 hz8 HB7 hz7_0 hz7_1 hz7_2 HC7_0 HC7_1 HC7_2
  go_wp2_with (go_at_call 11; go_in)
  refine (ck3 _).mono ?_
  rintro e w9 ⟨rfl, hb9⟩
  have HB9 : Below w.heap.size w w9 := bstep (by (focus repeat' (first | (with_reducible exact Below.refl _ _) | (with_reducible assumption) | (with_reducible refine Below.alloc ?_ ?_ _) | (with_reducible refine Below.drew ?_) | (with_reducible refine bdrewN ?_ _) | (with_reducible refine Below.setCell ?_ ?_ _) | (first | (with_reducible exact Nat.le_refl _) | (with_reducible assumption) | omega | (simp; omega) | (simp; done))))) hb9
  have hz9 := hb9.size
  (try simp only [World.size_drew, World.size_alloc] at hz9)
  have hz9_0 : w4.heap.size < w9.heap.size := by omega
  have hz9_1 : w4.heap.size + 1 < w9.heap.size := by omega
  have hz9_2 : w4.heap.size + 2 < w9.heap.size := by omega
  have HC9_0 : ∀ o, w9.cell? ⟨w4.heap.size, o, none⟩ = (#[Value.int .i64 2, Value.int .i64 0, Value.int .i64 1099511627776, Value.int .i64 1099511627776, Value.int .i64 0, Value.int .i64 0, Value.int .i64 0, Value.int .i64 1099511627776, Value.int .i64 1099511627776, Value.int .i64 0, Value.int .i64 0] : Array Value)[o]? := fun o => (hb9.cell (p := ⟨w4.heap.size, o, none⟩) (by first | (simp; done) | omega | (simp; omega))).trans (by first | (with_reducible assumption) | (simp [go_sem, *]; done))
  have HC9_1 : ∀ o, w9.cell? ⟨w4.heap.size + 1, o, none⟩ = (#[Value.int .i64 2, Value.int .i64 0, Value.int .i64 1099511627776, Value.int .i64 1099511627777, Value.int .i64 0, Value.int .i64 0, Value.int .i64 0, Value.int .i64 1099511627776, Value.int .i64 1099511627776, Value.int .i64 0, Value.int .i64 0] : Array Value)[o]? := fun o => (hb9.cell (p := ⟨w4.heap.size + 1, o, none⟩) (by first | (simp; done) | omega | (simp; omega))).trans (by first | (with_reducible assumption) | (simp [go_sem, *]; done))
  have HC9_2 : ∀ o, w9.cell? ⟨w4.heap.size + 2, o, none⟩ = (#[Value.int .i64 2, Value.int .i64 1099511627776, Value.int .i64 1099511627776, Value.int .i64 1099511627776, Value.int .i64 0, Value.int .i64 0, Value.int .i64 0, Value.int .i64 1099511627776, Value.int .i64 1099511627776, Value.int .i64 0, Value.int .i64 0] : Array Value)[o]? := fun o => (hb9.cell (p := ⟨w4.heap.size + 2, o, none⟩) (by first | (simp; done) | omega | (simp; omega))).trans (by first | (with_reducible assumption) | (simp [go_sem, *]; done))
  have h9 : w9.cell? ⟨w.heap.size, 0, none⟩ = some (.int .i64 0) := (hb9.cell (p := ⟨w.heap.size, 0, none⟩) (by first | (simp; done) | omega | (simp; omega))).trans (by first | assumption | simp [go_sem, *])
  have s9 : w.heap.size < w9.heap.size := by omega
  clear hb9 hz9 HB8 hz8_0 hz8_1 hz8_2 HC8_0 HC8_1 HC8_2
  go_wp2_with (go_at_call 11; go_in)
  refine (known_any _).mono ?_
  rintro e w10 ⟨rfl, hb10⟩
  have HB10 : Below w.heap.size w w10 := bstep (by (focus repeat' (first | (with_reducible exact Below.refl _ _) | (with_reducible assumption) | (with_reducible refine Below.alloc ?_ ?_ _) | (with_reducible refine Below.drew ?_) | (with_reducible refine bdrewN ?_ _) | (with_reducible refine Below.setCell ?_ ?_ _) | (first | (with_reducible exact Nat.le_refl _) | (with_reducible assumption) | omega | (simp; omega) | (simp; done))))) hb10
  have hz10 := hb10.size
  (try simp only [World.size_drew, World.size_alloc] at hz10)
  have hz10_0 : w4.heap.size < w10.heap.size := by omega
  have hz10_1 : w4.heap.size + 1 < w10.heap.size := by omega
  have hz10_2 : w4.heap.size + 2 < w10.heap.size := by omega
  have HC10_0 : ∀ o, w10.cell? ⟨w4.heap.size, o, none⟩ = (#[Value.int .i64 2, Value.int .i64 0, Value.int .i64 1099511627776, Value.int .i64 1099511627776, Value.int .i64 0, Value.int .i64 0, Value.int .i64 0, Value.int .i64 1099511627776, Value.int .i64 1099511627776, Value.int .i64 0, Value.int .i64 0] : Array Value)[o]? := fun o => (hb10.cell (p := ⟨w4.heap.size, o, none⟩) (by first | (simp; done) | omega | (simp; omega))).trans (by first | (with_reducible assumption) | (simp [go_sem, *]; done))
  have HC10_1 : ∀ o, w10.cell? ⟨w4.heap.size + 1, o, none⟩ = (#[Value.int .i64 2, Value.int .i64 0, Value.int .i64 1099511627776, Value.int .i64 1099511627777, Value.int .i64 0, Value.int .i64 0, Value.int .i64 0, Value.int .i64 1099511627776, Value.int .i64 1099511627776, Value.int .i64 0, Value.int .i64 0] : Array Value)[o]? := fun o => (hb10.cell (p := ⟨w4.heap.size + 1, o, none⟩) (by first | (simp; done) | omega | (simp; omega))).trans (by first | (with_reducible assumption) | (simp [go_sem, *]; done))
  have HC10_2 : ∀ o, w10.cell? ⟨w4.heap.size + 2, o, none⟩ = (#[Value.int .i64 2, Value.int .i64 1099511627776, Value.int .i64 1099511627776, Value.int .i64 1099511627776, Value.int .i64 0, Value.int .i64 0, Value.int .i64 0, Value.int .i64 1099511627776, Value.int .i64 1099511627776, Value.int .i64 0, Value.int .i64 0] : Array Value)[o]? := fun o => (hb10.cell (p := ⟨w4.heap.size + 2, o, none⟩) (by first | (simp; done) | omega | (simp; omega))).trans (by first | (with_reducible assumption) | (simp [go_sem, *]; done))
  have h10 : w10.cell? ⟨w.heap.size, 0, none⟩ = some (.int .i64 0) := (hb10.cell (p := ⟨w.heap.size, 0, none⟩) (by first | (simp; done) | omega | (simp; omega))).trans (by first | assumption | simp [go_sem, *])
  have s10 : w.heap.size < w10.heap.size := by omega
  clear hb10 hz10 HB9 hz9_0 hz9_1 hz9_2 HC9_0 HC9_1 HC9_2
  go_wp2
  go_ret
  exact ⟨rfl, HB10⟩
end Go.Proofs.Ytiopohdhadilfaa
