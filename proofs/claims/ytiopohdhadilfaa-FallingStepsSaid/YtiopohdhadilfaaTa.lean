import Derived.Test.YtiopohdhadilfaaT9
namespace Go.Proofs.Ytiopohdhadilfaa
open Go.ChangeShapes Go.WideShapes Go.ChangeAt Go.RowKit Go.Deep
set_option linter.unusedSimpArgs false
set_option linter.unusedVariables false

set_option maxHeartbeats 2000000 in
theorem Bid_sold (k op cl st sp ex la fl fa co ru bd tk co2 fr : Int) (g : Nat) (a : Addr) (w : World) (h : LotOK k op cl st sp ex la fl fa co ru) (hg : g < w.heap.size) (hc : ∀ o, w.cell? ⟨g, o, none⟩ = (#[Value.int .i64 k, Value.int .i64 op, Value.int .i64 cl, Value.int .i64 st, Value.int .i64 sp, Value.int .i64 ex, Value.int .i64 la, Value.int .i64 fl, Value.int .i64 fa, Value.int .i64 co, Value.int .i64 ru, Value.pointer (some a)] : Array Value)[o]?) (hfz : ∀ o, w.frozen? ⟨g, o, none⟩ = false) (v1 : 0 ≤ bd) (v2 : 0 ≤ tk) (v3 : tk ≤ 1099511627776) (v4 : 0 ≤ co2) (v5 : co2 ≤ 1099511627776) (v6 : 0 ≤ fr) (v7 : fr ≤ 1099511627776) : Calls Try.prog 16 #[.pointer (some ⟨g, 0, none⟩), .int .i64 bd, .int .i64 tk, .int .i64 co2, .int .i64 fr] w fun e w' => e = .returned (.tuple #[.int .i64 0, .int .i64 6]) ∧ Below w.heap.size w w' := by
  have hk : k = 2 := h.1
  subst hk
  have e1 : decide (tk ≤ 1099511627776) = true := by rw [decide_eq_true_eq]; exact v3
  have e2 : decide (co2 ≤ 1099511627776) = true := by rw [decide_eq_true_eq]; exact v5
  have e3 : decide (fr ≤ 1099511627776) = true := by rw [decide_eq_true_eq]; exact v7
  go_enter Try.func16, Try.ntmps16
  go_wp2
  go_ret2
  exact ⟨rfl, by (focus repeat' (first | (with_reducible exact Below.refl _ _) | (with_reducible assumption) | (with_reducible refine Below.alloc ?_ ?_ _) | (with_reducible refine Below.drew ?_) | (with_reducible refine bdrewN ?_ _) | (with_reducible refine Below.setCell ?_ ?_ _) | (first | (with_reducible exact Nat.le_refl _) | (with_reducible assumption) | omega | (simp; omega) | (simp; done))))⟩

set_option maxHeartbeats 2000000 in
theorem Bid_time (k op cl st sp ex la fl fa co ru bd tk co2 fr : Int) (g : Nat) (w : World) (h : LotOK k op cl st sp ex la fl fa co ru) (hg : g < w.heap.size) (hc : ∀ o, w.cell? ⟨g, o, none⟩ = (#[Value.int .i64 k, Value.int .i64 op, Value.int .i64 cl, Value.int .i64 st, Value.int .i64 sp, Value.int .i64 ex, Value.int .i64 la, Value.int .i64 fl, Value.int .i64 fa, Value.int .i64 co, Value.int .i64 ru, Value.pointer none] : Array Value)[o]?) (hfz : ∀ o, w.frozen? ⟨g, o, none⟩ = false) (v1 : 0 ≤ bd) (v2 : 0 ≤ tk) (v3 : tk ≤ 1099511627776) (v4 : 0 ≤ co2) (v5 : co2 ≤ 1099511627776) (v6 : 0 ≤ fr) (v7 : fr ≤ 1099511627776) (r : tk < op ∨ cl ≤ tk) : Calls Try.prog 16 #[.pointer (some ⟨g, 0, none⟩), .int .i64 bd, .int .i64 tk, .int .i64 co2, .int .i64 fr] w fun e w' => e = .returned (.tuple #[.int .i64 0, .int .i64 6]) ∧ Below w.heap.size w w' := by
  have hk : k = 2 := h.1
  subst hk
  have e1 : decide (tk ≤ 1099511627776) = true := by rw [decide_eq_true_eq]; exact v3
  have e2 : decide (co2 ≤ 1099511627776) = true := by rw [decide_eq_true_eq]; exact v5
  have e3 : decide (fr ≤ 1099511627776) = true := by rw [decide_eq_true_eq]; exact v7
  go_enter Try.func16, Try.ntmps16
  go_wp2_with (first | (go_at_call 33; go_in) | (go_at_call 26; go_in))
  (apply Calls.mono; focus ((apply runs_no <;> (first | (with_reducible assumption) | (with_reducible rfl) | omega)); done)); rintro e w1 ⟨rfl, hb1⟩
  have HB1 : Below w.heap.size w w1 := bstep (by (focus repeat' (first | (with_reducible exact Below.refl _ _) | (with_reducible assumption) | (with_reducible refine Below.alloc ?_ ?_ _) | (with_reducible refine Below.drew ?_) | (with_reducible refine bdrewN ?_ _) | (with_reducible refine Below.setCell ?_ ?_ _) | (first | (with_reducible exact Nat.le_refl _) | (with_reducible assumption) | omega | (simp; omega) | (simp; done))))) hb1
  have hz1 := hb1.size
  have hg1 : g < w1.heap.size := by omega
  have HC1 : ∀ o, w1.cell? ⟨g, o, none⟩ = (#[Value.int .i64 2, Value.int .i64 op, Value.int .i64 cl, Value.int .i64 st, Value.int .i64 sp, Value.int .i64 ex, Value.int .i64 la, Value.int .i64 fl, Value.int .i64 fa, Value.int .i64 co, Value.int .i64 ru, Value.pointer none] : Array Value)[o]? := fun o => (hb1.cell (p := ⟨g, o, none⟩) (by omega)).trans (by simp [go_sem, *])
  have HF1 : ∀ o, w1.frozen? ⟨g, o, none⟩ = false := fun o => (hb1.frozen (p := ⟨g, o, none⟩) (by omega)).trans (by simp [go_sem, *])
  go_wp2
  go_ret2
  exact ⟨rfl, by (focus repeat' (first | (with_reducible exact Below.refl _ _) | (with_reducible assumption) | (with_reducible refine Below.alloc ?_ ?_ _) | (with_reducible refine Below.drew ?_) | (with_reducible refine bdrewN ?_ _) | (with_reducible refine Below.setCell ?_ ?_ _) | (first | (with_reducible exact Nat.le_refl _) | (with_reducible assumption) | omega | (simp; omega) | (simp; done))))⟩

set_option maxHeartbeats 2000000 in
theorem Bid_low (k op cl st sp ex la fl fa co ru bd tk co2 fr : Int) (g : Nat) (w : World) (h : LotOK k op cl st sp ex la fl fa co ru) (hg : g < w.heap.size) (hc : ∀ o, w.cell? ⟨g, o, none⟩ = (#[Value.int .i64 k, Value.int .i64 op, Value.int .i64 cl, Value.int .i64 st, Value.int .i64 sp, Value.int .i64 ex, Value.int .i64 la, Value.int .i64 fl, Value.int .i64 fa, Value.int .i64 co, Value.int .i64 ru, Value.pointer none] : Array Value)[o]?) (hfz : ∀ o, w.frozen? ⟨g, o, none⟩ = false) (v1 : 0 ≤ bd) (v2 : 0 ≤ tk) (v3 : tk ≤ 1099511627776) (v4 : 0 ≤ co2) (v5 : co2 ≤ 1099511627776) (v6 : 0 ≤ fr) (v7 : fr ≤ 1099511627776) (r1 : op ≤ tk) (r2 : tk < cl) (q : co2 < priceI op st fl fa tk) : Calls Try.prog 16 #[.pointer (some ⟨g, 0, none⟩), .int .i64 bd, .int .i64 tk, .int .i64 co2, .int .i64 fr] w fun e w' => e = .returned (.tuple #[.int .i64 0, .int .i64 7]) ∧ Below w.heap.size w w' := by
  have hk : k = 2 := h.1
  subst hk
  have e1 : decide (tk ≤ 1099511627776) = true := by rw [decide_eq_true_eq]; exact v3
  have e2 : decide (co2 ≤ 1099511627776) = true := by rw [decide_eq_true_eq]; exact v5
  have e3 : decide (fr ≤ 1099511627776) = true := by rw [decide_eq_true_eq]; exact v7
  go_enter Try.func16, Try.ntmps16
  go_wp2_with (first | (go_at_call 33; go_in) | (go_at_call 26; go_in))
  (apply Calls.mono; focus ((apply runs_yes <;> (first | (with_reducible assumption) | (with_reducible rfl) | omega)); done)); rintro e w1 ⟨rfl, hb1⟩
  have HB1 : Below w.heap.size w w1 := bstep (by (focus repeat' (first | (with_reducible exact Below.refl _ _) | (with_reducible assumption) | (with_reducible refine Below.alloc ?_ ?_ _) | (with_reducible refine Below.drew ?_) | (with_reducible refine bdrewN ?_ _) | (with_reducible refine Below.setCell ?_ ?_ _) | (first | (with_reducible exact Nat.le_refl _) | (with_reducible assumption) | omega | (simp; omega) | (simp; done))))) hb1
  have hz1 := hb1.size
  have hg1 : g < w1.heap.size := by omega
  have HC1 : ∀ o, w1.cell? ⟨g, o, none⟩ = (#[Value.int .i64 2, Value.int .i64 op, Value.int .i64 cl, Value.int .i64 st, Value.int .i64 sp, Value.int .i64 ex, Value.int .i64 la, Value.int .i64 fl, Value.int .i64 fa, Value.int .i64 co, Value.int .i64 ru, Value.pointer none] : Array Value)[o]? := fun o => (hb1.cell (p := ⟨g, o, none⟩) (by omega)).trans (by simp [go_sem, *])
  have HF1 : ∀ o, w1.frozen? ⟨g, o, none⟩ = false := fun o => (hb1.frozen (p := ⟨g, o, none⟩) (by omega)).trans (by simp [go_sem, *])
  go_wp2_with fail
  (apply Calls.mono; focus ((apply price_any <;> (first | (with_reducible assumption) | (with_reducible rfl) | omega)); done)); rintro e w2 ⟨rfl, hb2⟩
  have HB2 : Below w.heap.size w w2 := bstep (by (focus repeat' (first | (with_reducible exact Below.refl _ _) | (with_reducible assumption) | (with_reducible refine Below.alloc ?_ ?_ _) | (with_reducible refine Below.drew ?_) | (with_reducible refine bdrewN ?_ _) | (with_reducible refine Below.setCell ?_ ?_ _) | (first | (with_reducible exact Nat.le_refl _) | (with_reducible assumption) | omega | (simp; omega) | (simp; done))))) hb2
  have hz2 := hb2.size
  have hg2 : g < w2.heap.size := by omega
  have HC2 : ∀ o, w2.cell? ⟨g, o, none⟩ = (#[Value.int .i64 2, Value.int .i64 op, Value.int .i64 cl, Value.int .i64 st, Value.int .i64 sp, Value.int .i64 ex, Value.int .i64 la, Value.int .i64 fl, Value.int .i64 fa, Value.int .i64 co, Value.int .i64 ru, Value.pointer none] : Array Value)[o]? := fun o => (hb2.cell (p := ⟨g, o, none⟩) (by omega)).trans (by simp [go_sem, *])
  have HF2 : ∀ o, w2.frozen? ⟨g, o, none⟩ = false := fun o => (hb2.frozen (p := ⟨g, o, none⟩) (by omega)).trans (by simp [go_sem, *])
  go_wp2
  go_ret2
  exact ⟨rfl, by (focus repeat' (first | (with_reducible exact Below.refl _ _) | (with_reducible assumption) | (with_reducible refine Below.alloc ?_ ?_ _) | (with_reducible refine Below.drew ?_) | (with_reducible refine bdrewN ?_ _) | (with_reducible refine Below.setCell ?_ ?_ _) | (first | (with_reducible exact Nat.le_refl _) | (with_reducible assumption) | omega | (simp; omega) | (simp; done))))⟩

set_option maxHeartbeats 2000000 in
theorem Bid_over (k op cl st sp ex la fl fa co ru bd tk co2 fr : Int) (g : Nat) (w : World) (h : LotOK k op cl st sp ex la fl fa co ru) (hg : g < w.heap.size) (hc : ∀ o, w.cell? ⟨g, o, none⟩ = (#[Value.int .i64 k, Value.int .i64 op, Value.int .i64 cl, Value.int .i64 st, Value.int .i64 sp, Value.int .i64 ex, Value.int .i64 la, Value.int .i64 fl, Value.int .i64 fa, Value.int .i64 co, Value.int .i64 ru, Value.pointer none] : Array Value)[o]?) (hfz : ∀ o, w.frozen? ⟨g, o, none⟩ = false) (v1 : 0 ≤ bd) (v2 : 0 ≤ tk) (v3 : tk ≤ 1099511627776) (v4 : 0 ≤ co2) (v5 : co2 ≤ 1099511627776) (v6 : 0 ≤ fr) (v7 : fr ≤ 1099511627776) (r1 : op ≤ tk) (r2 : tk < cl) (q : priceI op st fl fa tk ≤ co2) (q2 : fr < priceI op st fl fa tk) : Calls Try.prog 16 #[.pointer (some ⟨g, 0, none⟩), .int .i64 bd, .int .i64 tk, .int .i64 co2, .int .i64 fr] w fun e w' => e = .returned (.tuple #[.int .i64 0, .int .i64 8]) ∧ Below w.heap.size w w' := by
  have hk : k = 2 := h.1
  subst hk
  have e1 : decide (tk ≤ 1099511627776) = true := by rw [decide_eq_true_eq]; exact v3
  have e2 : decide (co2 ≤ 1099511627776) = true := by rw [decide_eq_true_eq]; exact v5
  have e3 : decide (fr ≤ 1099511627776) = true := by rw [decide_eq_true_eq]; exact v7
  go_enter Try.func16, Try.ntmps16
  go_wp2_with (first | (go_at_call 33; go_in) | (go_at_call 26; go_in))
  (apply Calls.mono; focus ((apply runs_yes <;> (first | (with_reducible assumption) | (with_reducible rfl) | omega)); done)); rintro e w1 ⟨rfl, hb1⟩
  have HB1 : Below w.heap.size w w1 := bstep (by (focus repeat' (first | (with_reducible exact Below.refl _ _) | (with_reducible assumption) | (with_reducible refine Below.alloc ?_ ?_ _) | (with_reducible refine Below.drew ?_) | (with_reducible refine bdrewN ?_ _) | (with_reducible refine Below.setCell ?_ ?_ _) | (first | (with_reducible exact Nat.le_refl _) | (with_reducible assumption) | omega | (simp; omega) | (simp; done))))) hb1
  have hz1 := hb1.size
  have hg1 : g < w1.heap.size := by omega
  have HC1 : ∀ o, w1.cell? ⟨g, o, none⟩ = (#[Value.int .i64 2, Value.int .i64 op, Value.int .i64 cl, Value.int .i64 st, Value.int .i64 sp, Value.int .i64 ex, Value.int .i64 la, Value.int .i64 fl, Value.int .i64 fa, Value.int .i64 co, Value.int .i64 ru, Value.pointer none] : Array Value)[o]? := fun o => (hb1.cell (p := ⟨g, o, none⟩) (by omega)).trans (by simp [go_sem, *])
  have HF1 : ∀ o, w1.frozen? ⟨g, o, none⟩ = false := fun o => (hb1.frozen (p := ⟨g, o, none⟩) (by omega)).trans (by simp [go_sem, *])
  go_wp2_with fail
  (apply Calls.mono; focus ((apply price_any <;> (first | (with_reducible assumption) | (with_reducible rfl) | omega)); done)); rintro e w2 ⟨rfl, hb2⟩
  have HB2 : Below w.heap.size w w2 := bstep (by (focus repeat' (first | (with_reducible exact Below.refl _ _) | (with_reducible assumption) | (with_reducible refine Below.alloc ?_ ?_ _) | (with_reducible refine Below.drew ?_) | (with_reducible refine bdrewN ?_ _) | (with_reducible refine Below.setCell ?_ ?_ _) | (first | (with_reducible exact Nat.le_refl _) | (with_reducible assumption) | omega | (simp; omega) | (simp; done))))) hb2
  have hz2 := hb2.size
  have hg2 : g < w2.heap.size := by omega
  have HC2 : ∀ o, w2.cell? ⟨g, o, none⟩ = (#[Value.int .i64 2, Value.int .i64 op, Value.int .i64 cl, Value.int .i64 st, Value.int .i64 sp, Value.int .i64 ex, Value.int .i64 la, Value.int .i64 fl, Value.int .i64 fa, Value.int .i64 co, Value.int .i64 ru, Value.pointer none] : Array Value)[o]? := fun o => (hb2.cell (p := ⟨g, o, none⟩) (by omega)).trans (by simp [go_sem, *])
  have HF2 : ∀ o, w2.frozen? ⟨g, o, none⟩ = false := fun o => (hb2.frozen (p := ⟨g, o, none⟩) (by omega)).trans (by simp [go_sem, *])
  go_wp2
  go_ret2
  exact ⟨rfl, by (focus repeat' (first | (with_reducible exact Below.refl _ _) | (with_reducible assumption) | (with_reducible refine Below.alloc ?_ ?_ _) | (with_reducible refine Below.drew ?_) | (with_reducible refine bdrewN ?_ _) | (with_reducible refine Below.setCell ?_ ?_ _) | (first | (with_reducible exact Nat.le_refl _) | (with_reducible assumption) | omega | (simp; omega) | (simp; done))))⟩

/-- it is sold: the price; the lot points to the sale -/
def SoldPost (k op cl st sp ex la fl fa co ru bd tk : Int) (g : Nat) (w : World) (e : Ending) (w' : World) : Prop := ∃ a : Nat, e = .returned (.tuple #[.int .i64 (priceI op st fl fa tk), .int .i64 0]) ∧ Only g w w' ∧ w.heap.size ≤ a ∧ a < w'.heap.size ∧ (∀ o, w'.cell? ⟨a, o, none⟩ = (#[Value.int .i64 bd, Value.int .i64 (priceI op st fl fa tk), Value.int .i64 tk] : Array Value)[o]?) ∧ (g < w'.heap.size ∧ (∀ o, w'.cell? ⟨g, o, none⟩ = (#[Value.int .i64 k, Value.int .i64 op, Value.int .i64 cl, Value.int .i64 st, Value.int .i64 sp, Value.int .i64 ex, Value.int .i64 la, Value.int .i64 fl, Value.int .i64 fa, Value.int .i64 co, Value.int .i64 ru, Value.pointer (some ⟨a, 0, none⟩)] : Array Value)[o]?) ∧ ∀ o, w'.frozen? ⟨g, o, none⟩ = false)
theorem set11 {w : World} {g : Nat} {c0 c1 c2 c3 c4 c5 c6 c7 c8 c9 c10 c11 v : Value} (hg : g < w.heap.size) (h : ∀ o, w.cell? ⟨g, o, none⟩ = (#[c0, c1, c2, c3, c4, c5, c6, c7, c8, c9, c10, c11] : Array Value)[o]?) : ∀ o, (w.setCell ⟨g, 11, none⟩ v).cell? ⟨g, o, none⟩ = (#[c0, c1, c2, c3, c4, c5, c6, c7, c8, c9, c10, v] : Array Value)[o]? := by
  intro o
  rcases o with _ | _ | _ | _ | _ | _ | _ | _ | _ | _ | _ | _ | o
  all_goals simp [go_sem, h]

set_option maxHeartbeats 2000000 in
theorem Bid_ok (k op cl st sp ex la fl fa co ru bd tk co2 fr : Int) (g : Nat) (w : World) (h : LotOK k op cl st sp ex la fl fa co ru) (hg : g < w.heap.size) (hc : ∀ o, w.cell? ⟨g, o, none⟩ = (#[Value.int .i64 k, Value.int .i64 op, Value.int .i64 cl, Value.int .i64 st, Value.int .i64 sp, Value.int .i64 ex, Value.int .i64 la, Value.int .i64 fl, Value.int .i64 fa, Value.int .i64 co, Value.int .i64 ru, Value.pointer none] : Array Value)[o]?) (hfz : ∀ o, w.frozen? ⟨g, o, none⟩ = false) (v1 : 0 ≤ bd) (v2 : 0 ≤ tk) (v3 : tk ≤ 1099511627776) (v4 : 0 ≤ co2) (v5 : co2 ≤ 1099511627776) (v6 : 0 ≤ fr) (v7 : fr ≤ 1099511627776) (r1 : op ≤ tk) (r2 : tk < cl) (q : priceI op st fl fa tk ≤ co2) (q2 : priceI op st fl fa tk ≤ fr) : Calls Try.prog 16 #[.pointer (some ⟨g, 0, none⟩), .int .i64 bd, .int .i64 tk, .int .i64 co2, .int .i64 fr] w (SoldPost k op cl st sp ex la fl fa co ru bd tk g w) := by
  have hk : k = 2 := h.1
  subst hk
  have e1 : decide (tk ≤ 1099511627776) = true := by rw [decide_eq_true_eq]; exact v3
  have e2 : decide (co2 ≤ 1099511627776) = true := by rw [decide_eq_true_eq]; exact v5
  have e3 : decide (fr ≤ 1099511627776) = true := by rw [decide_eq_true_eq]; exact v7
  go_enter Try.func16, Try.ntmps16
  go_wp2_with (first | (go_at_call 33; go_in) | (go_at_call 26; go_in))
  (apply Calls.mono; focus ((apply runs_yes <;> (first | (with_reducible assumption) | (with_reducible rfl) | omega)); done)); rintro e w1 ⟨rfl, hb1⟩
  have HB1 : Below w.heap.size w w1 := bstep (by (focus repeat' (first | (with_reducible exact Below.refl _ _) | (with_reducible assumption) | (with_reducible refine Below.alloc ?_ ?_ _) | (with_reducible refine Below.drew ?_) | (with_reducible refine bdrewN ?_ _) | (with_reducible refine Below.setCell ?_ ?_ _) | (first | (with_reducible exact Nat.le_refl _) | (with_reducible assumption) | omega | (simp; omega) | (simp; done))))) hb1
  have hz1 := hb1.size
  have hg1 : g < w1.heap.size := by omega
  have HC1 : ∀ o, w1.cell? ⟨g, o, none⟩ = (#[Value.int .i64 2, Value.int .i64 op, Value.int .i64 cl, Value.int .i64 st, Value.int .i64 sp, Value.int .i64 ex, Value.int .i64 la, Value.int .i64 fl, Value.int .i64 fa, Value.int .i64 co, Value.int .i64 ru, Value.pointer none] : Array Value)[o]? := fun o => (hb1.cell (p := ⟨g, o, none⟩) (by omega)).trans (by simp [go_sem, *])
  have HF1 : ∀ o, w1.frozen? ⟨g, o, none⟩ = false := fun o => (hb1.frozen (p := ⟨g, o, none⟩) (by omega)).trans (by simp [go_sem, *])
  go_wp2_with fail
  (apply Calls.mono; focus ((apply price_any <;> (first | (with_reducible assumption) | (with_reducible rfl) | omega)); done)); rintro e w2 ⟨rfl, hb2⟩
  have HB2 : Below w.heap.size w w2 := bstep (by (focus repeat' (first | (with_reducible exact Below.refl _ _) | (with_reducible assumption) | (with_reducible refine Below.alloc ?_ ?_ _) | (with_reducible refine Below.drew ?_) | (with_reducible refine bdrewN ?_ _) | (with_reducible refine Below.setCell ?_ ?_ _) | (first | (with_reducible exact Nat.le_refl _) | (with_reducible assumption) | omega | (simp; omega) | (simp; done))))) hb2
  have hz2 := hb2.size
  have hg2 : g < w2.heap.size := by omega
  have HC2 : ∀ o, w2.cell? ⟨g, o, none⟩ = (#[Value.int .i64 2, Value.int .i64 op, Value.int .i64 cl, Value.int .i64 st, Value.int .i64 sp, Value.int .i64 ex, Value.int .i64 la, Value.int .i64 fl, Value.int .i64 fa, Value.int .i64 co, Value.int .i64 ru, Value.pointer none] : Array Value)[o]? := fun o => (hb2.cell (p := ⟨g, o, none⟩) (by omega)).trans (by simp [go_sem, *])
  have HF2 : ∀ o, w2.frozen? ⟨g, o, none⟩ = false := fun o => (hb2.frozen (p := ⟨g, o, none⟩) (by omega)).trans (by simp [go_sem, *])
  go_wp2
  go_ret2
  have z1 : w.heap.size ≤ w2.heap.size := HB2.size
  refine ⟨w2.heap.size, rfl, ((Only.of_below (g := g) HB2).setCell (p := ⟨g, 11, none⟩) (.inl rfl) _).alloc _, z1, by simp, by (intro o; simp [go_sem]), by (simp; omega), ?_, ?_⟩
  · intro o
    have := set11 (v := .pointer (some ⟨w2.heap.size, 0, none⟩)) hg2 HC2 o
    rw [World.cell?_alloc_past _ _ _ (by simp; omega)]
    exact this
  · intro o
    rw [World.frozen?_alloc_past _ _ _ (by simp; omega), World.frozen?_setCell]
    exact HF2 o
end Go.Proofs.Ytiopohdhadilfaa
