import Derived.Test.YtiopohdhadilfaaTa
namespace Go.Proofs.Ytiopohdhadilfaa
open Go.ChangeShapes Go.WideShapes Go.ChangeAt Go.RowKit Go.Deep
set_option linter.unusedSimpArgs false
set_option linter.unusedVariables false

theorem lotE : LotOK 2 10 20 100 0 0 0 30 25 0 0 := by unfold LotOK; omega
theorem lotF : LotOK 2 0 1099511627776 1099511627776 0 0 0 0 1099511627776 0 0 := by unfold LotOK; omega

set_option maxHeartbeats 1000000 in
theorem lot_any  (w : World) : Calls Try.prog 31 #[] w fun e w' => e = .returned (.agg #[.int .i64 2, .int .i64 10, .int .i64 20, .int .i64 100, .int .i64 0, .int .i64 0, .int .i64 0, .int .i64 30, .int .i64 25, .int .i64 0, .int .i64 0]) ∧ Below w.heap.size w w' := by
  go_enter Try.func31, Try.ntmps31
  go_wp2
  refine bodyPost_ret (v := .agg #[.int .i64 2, .int .i64 10, .int .i64 20, .int .i64 100, .int .i64 0, .int .i64 0, .int .i64 0, .int .i64 30, .int .i64 25, .int .i64 0, .int .i64 0]) (by simp [results, Try.results31, go_sem]) rfl ⟨rfl, by (focus repeat' (first | (with_reducible exact Below.refl _ _) | (with_reducible assumption) | (with_reducible refine Below.alloc ?_ ?_ _) | (with_reducible refine Below.drew ?_) | (with_reducible refine bdrewN ?_ _) | (with_reducible refine Below.setCell ?_ ?_ _) | (first | (with_reducible exact Nat.le_refl _) | (with_reducible assumption) | omega | (simp; omega) | (simp; done))))⟩
theorem price12 (w : World) : Calls Try.prog 14 #[.agg #[.int .i64 2, .int .i64 10, .int .i64 20, .int .i64 100, .int .i64 0, .int .i64 0, .int .i64 0, .int .i64 30, .int .i64 25, .int .i64 0, .int .i64 0], .int .i64 12] w fun e w' => e = .returned (.tuple #[.int .i64 50, .int .i64 0]) ∧ Below w.heap.size w w' :=
  (Price_ok 2 10 20 100 0 0 0 30 25 0 0 12 w lotE (by omega) (by omega)).mono fun _ _ ⟨h, b⟩ => ⟨by rw [h, show priceI 10 100 30 25 12 = 50 from by decide], b⟩
theorem price20 (w : World) : Calls Try.prog 14 #[.agg #[.int .i64 2, .int .i64 10, .int .i64 20, .int .i64 100, .int .i64 0, .int .i64 0, .int .i64 0, .int .i64 30, .int .i64 25, .int .i64 0, .int .i64 0], .int .i64 20] w fun e w' => e = .returned (.tuple #[.int .i64 0, .int .i64 6]) ∧ Below w.heap.size w w' :=
  Price_time 2 10 20 100 0 0 0 30 25 0 0 20 w lotE (by omega)
theorem priceF (w : World) : Calls Try.prog 14 #[.agg #[.int .i64 2, .int .i64 0, .int .i64 1099511627776, .int .i64 1099511627776, .int .i64 0, .int .i64 0, .int .i64 0, .int .i64 0, .int .i64 1099511627776, .int .i64 0, .int .i64 0], .int .i64 1099511627775] w fun e w' => e = .returned (.tuple #[.int .i64 0, .int .i64 0]) ∧ Below w.heap.size w w' :=
  (Price_ok 2 0 1099511627776 1099511627776 0 0 0 0 1099511627776 0 0 1099511627775 w lotF (by omega) (by omega)).mono fun _ _ ⟨h, b⟩ => ⟨by rw [h, show priceI 0 1099511627776 0 1099511627776 1099511627775 = 0 from by decide], b⟩
theorem first60 (w : World) : Calls Try.prog 13 #[.agg #[.int .i64 2, .int .i64 10, .int .i64 20, .int .i64 100, .int .i64 0, .int .i64 0, .int .i64 0, .int .i64 30, .int .i64 25, .int .i64 0, .int .i64 0], .int .i64 60] w fun e w' => e = .returned (.tuple #[.int .i64 12, .bool true]) ∧ Below w.heap.size w w' :=
  (First_ok 2 10 20 100 0 0 0 30 25 0 0 60 w lotE).mono fun _ _ ⟨h, b⟩ => ⟨by rw [h, show fT (firstI 10 20 100 30 25 60) = 12 from by decide, show fB (firstI 10 20 100 30 25 60) = true from by decide], b⟩
theorem takesE (w : World) (b off cap : Nat) (hb : b < w.heap.size) (h0 : w.cell? ⟨b, off, none⟩ = some (.int .i64 50)) (h1 : w.cell? ⟨b, off + 1, none⟩ = some (.int .i64 80)) (h2 : w.cell? ⟨b, off + 2, none⟩ = some (.int .i64 60)) : Calls Try.prog 8 #[.agg #[.int .i64 2, .int .i64 10, .int .i64 20, .int .i64 100, .int .i64 0, .int .i64 0, .int .i64 0, .int .i64 30, .int .i64 25, .int .i64 0, .int .i64 0], .slice (some ⟨b, off, none⟩) 3 cap] w fun e w' => e = .returned (.tuple #[.int .i64 1, .int .i64 75, .bool true]) ∧ Below w.heap.size w w' :=
  (Takes_row 2 10 20 100 0 0 0 30 25 0 0 b off cap [50, 80, 60] w hb (by decide) (by decide) (fun j hj => by
    match j, hj with
    | 0, _ => exact h0
    | 1, _ => exact h1
    | 2, _ => exact h2)).mono fun _ _ ⟨h, b⟩ => ⟨by rw [h, show Fin3 2 10 20 100 0 0 0 30 25 0 0 [50, 80, 60] = .tuple #[.int .i64 1, .int .i64 75, .bool true] from by (unfold Fin3; rw [show tk 2 10 20 100 0 0 0 30 25 0 0 [50, 80, 60] ([50, 80, 60] : List Int).length = (1, 11) from by decide]; rfl)], b⟩
theorem p11 : priceI 10 100 30 25 11 = 75 := by decide
theorem bid1 (w : World) (g : Nat) (hg : g < w.heap.size) (hc : ∀ o, w.cell? ⟨g, o, none⟩ = (#[Value.int .i64 2, Value.int .i64 10, Value.int .i64 20, Value.int .i64 100, Value.int .i64 0, Value.int .i64 0, Value.int .i64 0, Value.int .i64 30, Value.int .i64 25, Value.int .i64 0, Value.int .i64 0, Value.pointer none] : Array Value)[o]?) (hfz : ∀ o, w.frozen? ⟨g, o, none⟩ = false) : Calls Try.prog 16 #[.pointer (some ⟨g, 0, none⟩), .int .i64 1, .int .i64 11, .int .i64 74, .int .i64 99] w fun e w' => e = .returned (.tuple #[.int .i64 0, .int .i64 7]) ∧ Below w.heap.size w w' :=
  Bid_low 2 10 20 100 0 0 0 30 25 0 0 1 11 74 99 g w lotE hg hc hfz (by omega) (by omega) (by omega) (by omega) (by omega) (by omega) (by omega) (by omega) (by omega) (by rw [p11]; omega)
theorem bid2 (w : World) (g : Nat) (hg : g < w.heap.size) (hc : ∀ o, w.cell? ⟨g, o, none⟩ = (#[Value.int .i64 2, Value.int .i64 10, Value.int .i64 20, Value.int .i64 100, Value.int .i64 0, Value.int .i64 0, Value.int .i64 0, Value.int .i64 30, Value.int .i64 25, Value.int .i64 0, Value.int .i64 0, Value.pointer none] : Array Value)[o]?) (hfz : ∀ o, w.frozen? ⟨g, o, none⟩ = false) : Calls Try.prog 16 #[.pointer (some ⟨g, 0, none⟩), .int .i64 1, .int .i64 11, .int .i64 75, .int .i64 74] w fun e w' => e = .returned (.tuple #[.int .i64 0, .int .i64 8]) ∧ Below w.heap.size w w' :=
  Bid_over 2 10 20 100 0 0 0 30 25 0 0 1 11 75 74 g w lotE hg hc hfz (by omega) (by omega) (by omega) (by omega) (by omega) (by omega) (by omega) (by omega) (by omega) (by rw [p11]; omega) (by rw [p11]; omega)
theorem bid3 (w : World) (g : Nat) (hg : g < w.heap.size) (hc : ∀ o, w.cell? ⟨g, o, none⟩ = (#[Value.int .i64 2, Value.int .i64 10, Value.int .i64 20, Value.int .i64 100, Value.int .i64 0, Value.int .i64 0, Value.int .i64 0, Value.int .i64 30, Value.int .i64 25, Value.int .i64 0, Value.int .i64 0, Value.pointer none] : Array Value)[o]?) (hfz : ∀ o, w.frozen? ⟨g, o, none⟩ = false) : Calls Try.prog 16 #[.pointer (some ⟨g, 0, none⟩), .int .i64 1, .int .i64 11, .int .i64 80, .int .i64 75] w (SoldPost 2 10 20 100 0 0 0 30 25 0 0 1 11 g w) :=
  Bid_ok 2 10 20 100 0 0 0 30 25 0 0 1 11 80 75 g w lotE hg hc hfz (by omega) (by omega) (by omega) (by omega) (by omega) (by omega) (by omega) (by omega) (by omega) (by rw [p11]; omega) (by rw [p11]; omega)
theorem bid4 (w : World) (g : Nat) (a : Addr) (hg : g < w.heap.size) (hc : ∀ o, w.cell? ⟨g, o, none⟩ = (#[Value.int .i64 2, Value.int .i64 10, Value.int .i64 20, Value.int .i64 100, Value.int .i64 0, Value.int .i64 0, Value.int .i64 0, Value.int .i64 30, Value.int .i64 25, Value.int .i64 0, Value.int .i64 0, Value.pointer (some a)] : Array Value)[o]?) (hfz : ∀ o, w.frozen? ⟨g, o, none⟩ = false) : Calls Try.prog 16 #[.pointer (some ⟨g, 0, none⟩), .int .i64 2, .int .i64 11, .int .i64 99, .int .i64 99] w fun e w' => e = .returned (.tuple #[.int .i64 0, .int .i64 6]) ∧ Below w.heap.size w w' :=
  Bid_sold 2 10 20 100 0 0 0 30 25 0 0 2 11 99 99 g a w lotE hg hc hfz (by omega) (by omega) (by omega) (by omega) (by omega) (by omega) (by omega)

set_option maxRecDepth 100000 in
set_option maxHeartbeats 2000000 in
theorem known_any  (w : World) : Calls Try.prog 10 #[] w fun e w' => e = .returned (.bool true) ∧ Below w.heap.size w w' := by
  go_enter Try.func10, Try.ntmps10
  go_wp2_with fail
  (apply Calls.mono; focus ((apply lot_any <;> (first | (with_reducible assumption) | (with_reducible rfl) | omega)); done)); rintro e w1 ⟨rfl, hb1⟩
  have HB1 : Below w.heap.size w w1 := bstep (by (focus repeat' (first | (with_reducible exact Below.refl _ _) | (with_reducible assumption) | (with_reducible refine Below.alloc ?_ ?_ _) | (with_reducible refine Below.drew ?_) | (with_reducible refine bdrewN ?_ _) | (with_reducible refine Below.setCell ?_ ?_ _) | (first | (with_reducible exact Nat.le_refl _) | (with_reducible assumption) | omega | (simp; omega) | (simp; done))))) hb1
  clear hb1
  go_wp2_with fail
  (apply Calls.mono; focus ((apply price12 <;> (first | (with_reducible assumption) | (with_reducible rfl) | omega)); done)); rintro e w2 ⟨rfl, hb2⟩
  have HB2 : Below w.heap.size w w2 := bstep (by (focus repeat' (first | (with_reducible exact Below.refl _ _) | (with_reducible assumption) | (with_reducible refine Below.alloc ?_ ?_ _) | (with_reducible refine Below.drew ?_) | (with_reducible refine bdrewN ?_ _) | (with_reducible refine Below.setCell ?_ ?_ _) | (first | (with_reducible exact Nat.le_refl _) | (with_reducible assumption) | omega | (simp; omega) | (simp; done))))) hb2
  clear hb2 HB1
  go_wp2_with fail
  (apply Calls.mono; focus ((apply lot_any <;> (first | (with_reducible assumption) | (with_reducible rfl) | omega)); done)); rintro e w3 ⟨rfl, hb3⟩
  have HB3 : Below w.heap.size w w3 := bstep (by (focus repeat' (first | (with_reducible exact Below.refl _ _) | (with_reducible assumption) | (with_reducible refine Below.alloc ?_ ?_ _) | (with_reducible refine Below.drew ?_) | (with_reducible refine bdrewN ?_ _) | (with_reducible refine Below.setCell ?_ ?_ _) | (first | (with_reducible exact Nat.le_refl _) | (with_reducible assumption) | omega | (simp; omega) | (simp; done))))) hb3
  clear hb3 HB2
  go_wp2_with fail
  (apply Calls.mono; focus ((apply price20 <;> (first | (with_reducible assumption) | (with_reducible rfl) | omega)); done)); rintro e w4 ⟨rfl, hb4⟩
  have HB4 : Below w.heap.size w w4 := bstep (by (focus repeat' (first | (with_reducible exact Below.refl _ _) | (with_reducible assumption) | (with_reducible refine Below.alloc ?_ ?_ _) | (with_reducible refine Below.drew ?_) | (with_reducible refine bdrewN ?_ _) | (with_reducible refine Below.setCell ?_ ?_ _) | (first | (with_reducible exact Nat.le_refl _) | (with_reducible assumption) | omega | (simp; omega) | (simp; done))))) hb4
  clear hb4 HB3
  go_wp2_with fail
  (apply Calls.mono; focus ((apply lot_any <;> (first | (with_reducible assumption) | (with_reducible rfl) | omega)); done)); rintro e w5 ⟨rfl, hb5⟩
  have HB5 : Below w.heap.size w w5 := bstep (by (focus repeat' (first | (with_reducible exact Below.refl _ _) | (with_reducible assumption) | (with_reducible refine Below.alloc ?_ ?_ _) | (with_reducible refine Below.drew ?_) | (with_reducible refine bdrewN ?_ _) | (with_reducible refine Below.setCell ?_ ?_ _) | (first | (with_reducible exact Nat.le_refl _) | (with_reducible assumption) | omega | (simp; omega) | (simp; done))))) hb5
  clear hb5 HB4
  go_wp2_with fail
  (apply Calls.mono; focus ((apply first60 <;> (first | (with_reducible assumption) | (with_reducible rfl) | omega)); done)); rintro e w6 ⟨rfl, hb6⟩
  have HB6 : Below w.heap.size w w6 := bstep (by (focus repeat' (first | (with_reducible exact Below.refl _ _) | (with_reducible assumption) | (with_reducible refine Below.alloc ?_ ?_ _) | (with_reducible refine Below.drew ?_) | (with_reducible refine bdrewN ?_ _) | (with_reducible refine Below.setCell ?_ ?_ _) | (first | (with_reducible exact Nat.le_refl _) | (with_reducible assumption) | omega | (simp; omega) | (simp; done))))) hb6
  clear hb6 HB5
  go_wp2_with fail
  (apply Calls.mono; focus ((apply lot_any <;> (first | (with_reducible assumption) | (with_reducible rfl) | omega)); done)); rintro e w7 ⟨rfl, hb7⟩
  have HB7 : Below w.heap.size w w7 := bstep (by (focus repeat' (first | (with_reducible exact Below.refl _ _) | (with_reducible assumption) | (with_reducible refine Below.alloc ?_ ?_ _) | (with_reducible refine Below.drew ?_) | (with_reducible refine bdrewN ?_ _) | (with_reducible refine Below.setCell ?_ ?_ _) | (first | (with_reducible exact Nat.le_refl _) | (with_reducible assumption) | omega | (simp; omega) | (simp; done))))) hb7
  clear hb7 HB6
  go_wp2_with fail
  refine (takesE _ w7.heap.size 0 _ (by first | (simp; done) | omega | (simp; omega)) (by simp [go_sem]) (by simp [go_sem]) (by simp [go_sem])).mono ?_
  rintro e w8 ⟨rfl, hb8⟩
  have hs7 := HB7.size
  have HB8 : Below w.heap.size w w8 := bstep (by (focus repeat' (first | (with_reducible exact Below.refl _ _) | (with_reducible assumption) | (with_reducible refine Below.alloc ?_ ?_ _) | (with_reducible refine Below.drew ?_) | (with_reducible refine bdrewN ?_ _) | (with_reducible refine Below.setCell ?_ ?_ _) | (first | (with_reducible exact Nat.le_refl _) | (with_reducible assumption) | omega | (simp; omega) | (simp; done))))) hb8
  clear hb8 HB7
  go_wp2_with fail
  (apply Calls.mono; focus ((apply lot_any <;> (first | (with_reducible assumption) | (with_reducible rfl) | omega)); done)); rintro e w9 ⟨rfl, hb9⟩
  have HB9 : Below w.heap.size w w9 := bstep (by (focus repeat' (first | (with_reducible exact Below.refl _ _) | (with_reducible assumption) | (with_reducible refine Below.alloc ?_ ?_ _) | (with_reducible refine Below.drew ?_) | (with_reducible refine bdrewN ?_ _) | (with_reducible refine Below.setCell ?_ ?_ _) | (first | (with_reducible exact Nat.le_refl _) | (with_reducible assumption) | omega | (simp; omega) | (simp; done))))) hb9
  clear hb9 HB8
  go_wp2_with fail
  refine (New_ok 2 10 20 100 0 0 0 30 25 0 0 _ lotE).mono ?_
  rintro e w10 ⟨g, rfl, gb, hb10, gg, gc, gf⟩
  have HB10 : Below w.heap.size w w10 := bstep (by (focus repeat' (first | (with_reducible exact Below.refl _ _) | (with_reducible assumption) | (with_reducible refine Below.alloc ?_ ?_ _) | (with_reducible refine Below.drew ?_) | (with_reducible refine bdrewN ?_ _) | (with_reducible refine Below.setCell ?_ ?_ _) | (first | (with_reducible exact Nat.le_refl _) | (with_reducible assumption) | omega | (simp; omega) | (simp; done))))) hb10
  have hgw : w.heap.size ≤ g := by have := HB9.size; omega
  clear hb10 HB9 gb
  go_wp2_with fail
  (apply Calls.mono; focus ((apply priceF <;> (first | (with_reducible assumption) | (with_reducible rfl) | omega)); done)); rintro e w11 ⟨rfl, hb11⟩
  have HB11 : Below w.heap.size w w11 := bstep (by (focus repeat' (first | (with_reducible exact Below.refl _ _) | (with_reducible assumption) | (with_reducible refine Below.alloc ?_ ?_ _) | (with_reducible refine Below.drew ?_) | (with_reducible refine bdrewN ?_ _) | (with_reducible refine Below.setCell ?_ ?_ _) | (first | (with_reducible exact Nat.le_refl _) | (with_reducible assumption) | omega | (simp; omega) | (simp; done))))) hb11
  have g11 : g < w11.heap.size := by have := hb11.size; omega
  have c11 : ∀ o, w11.cell? ⟨g, o, none⟩ = (#[Value.int .i64 2, Value.int .i64 10, Value.int .i64 20, Value.int .i64 100, Value.int .i64 0, Value.int .i64 0, Value.int .i64 0, Value.int .i64 30, Value.int .i64 25, Value.int .i64 0, Value.int .i64 0, Value.pointer none] : Array Value)[o]? := fun o => (hb11.cell (p := ⟨g, o, none⟩) gg).trans (gc o)
  have f11 : ∀ o, w11.frozen? ⟨g, o, none⟩ = false := fun o => (hb11.frozen (p := ⟨g, o, none⟩) gg).trans (gf o)
  clear hb11 HB10 gg gc gf
  go_wp2_with (go_at_call 11; go_in)
  (apply Calls.mono; focus ((apply bid1 <;> (first | (with_reducible assumption) | (with_reducible rfl) | omega)); done)); rintro e w12 ⟨rfl, hb12⟩
  have HB12 : Below w.heap.size w w12 := bstep (by (focus repeat' (first | (with_reducible exact Below.refl _ _) | (with_reducible assumption) | (with_reducible refine Below.alloc ?_ ?_ _) | (with_reducible refine Below.drew ?_) | (with_reducible refine bdrewN ?_ _) | (with_reducible refine Below.setCell ?_ ?_ _) | (first | (with_reducible exact Nat.le_refl _) | (with_reducible assumption) | omega | (simp; omega) | (simp; done))))) hb12
  have g12 : g < w12.heap.size := by have := hb12.size; omega
  have c12 : ∀ o, w12.cell? ⟨g, o, none⟩ = (#[Value.int .i64 2, Value.int .i64 10, Value.int .i64 20, Value.int .i64 100, Value.int .i64 0, Value.int .i64 0, Value.int .i64 0, Value.int .i64 30, Value.int .i64 25, Value.int .i64 0, Value.int .i64 0, Value.pointer none] : Array Value)[o]? := fun o => (hb12.cell (p := ⟨g, o, none⟩) g11).trans (c11 o)
  have f12 : ∀ o, w12.frozen? ⟨g, o, none⟩ = false := fun o => (hb12.frozen (p := ⟨g, o, none⟩) g11).trans (f11 o)
  clear hb12 HB11 g11 c11 f11
  go_wp2_with (go_at_call 11; go_in)
  (apply Calls.mono; focus ((apply bid2 <;> (first | (with_reducible assumption) | (with_reducible rfl) | omega)); done)); rintro e w13 ⟨rfl, hb13⟩
  have HB13 : Below w.heap.size w w13 := bstep (by (focus repeat' (first | (with_reducible exact Below.refl _ _) | (with_reducible assumption) | (with_reducible refine Below.alloc ?_ ?_ _) | (with_reducible refine Below.drew ?_) | (with_reducible refine bdrewN ?_ _) | (with_reducible refine Below.setCell ?_ ?_ _) | (first | (with_reducible exact Nat.le_refl _) | (with_reducible assumption) | omega | (simp; omega) | (simp; done))))) hb13
  have g13 : g < w13.heap.size := by have := hb13.size; omega
  have c13 : ∀ o, w13.cell? ⟨g, o, none⟩ = (#[Value.int .i64 2, Value.int .i64 10, Value.int .i64 20, Value.int .i64 100, Value.int .i64 0, Value.int .i64 0, Value.int .i64 0, Value.int .i64 30, Value.int .i64 25, Value.int .i64 0, Value.int .i64 0, Value.pointer none] : Array Value)[o]? := fun o => (hb13.cell (p := ⟨g, o, none⟩) g12).trans (c12 o)
  have f13 : ∀ o, w13.frozen? ⟨g, o, none⟩ = false := fun o => (hb13.frozen (p := ⟨g, o, none⟩) g12).trans (f12 o)
  clear hb13 HB12 g12 c12 f12
  go_wp2_with (go_at_call 11; go_in)
  refine (bid3 _ g g13 c13 f13).mono ?_
  rintro e w14 ⟨a, rfl, ho, ha1, ha2, ca, g14, c14, f14⟩
  have HB14 : Below w.heap.size w w14 := ho.below HB13 hgw HB13.size
  clear ho HB13 g13 c13 f13 ca ha1 ha2
  rw [p11]
  go_wp2_with (go_at_call 11; go_in)
  (apply Calls.mono; focus ((apply bid4 <;> (first | (with_reducible assumption) | (with_reducible rfl) | omega)); done)); rintro e w15 ⟨rfl, hb15⟩
  have HB15 : Below w.heap.size w w15 := bstep (by (focus repeat' (first | (with_reducible exact Below.refl _ _) | (with_reducible assumption) | (with_reducible refine Below.alloc ?_ ?_ _) | (with_reducible refine Below.drew ?_) | (with_reducible refine bdrewN ?_ _) | (with_reducible refine Below.setCell ?_ ?_ _) | (first | (with_reducible exact Nat.le_refl _) | (with_reducible assumption) | omega | (simp; omega) | (simp; done))))) hb15
  clear hb15 g14 c14 f14
  go_wp2
  go_ret
  exact ⟨rfl, HB15⟩
end Go.Proofs.Ytiopohdhadilfaa
