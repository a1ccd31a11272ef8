import Derived.Test.YtiopohdhadilfaaY1
namespace Go.Proofs.Ytiopohdhadilfaa
open Go.ChangeShapes Go.WideShapes Go.ChangeAt Go.RowKit Go.Deep
set_option linter.unusedSimpArgs false
set_option linter.unusedVariables false

set_option maxHeartbeats 1000000 in
theorem rruns_yes (k op cl st sp ex la fl fa co ru t : Int) (w : World) (h1 : op ≤ t) (h2 : t < cl) : Calls Try.prog 37 #[.agg #[.int .i64 k, .int .i64 op, .int .i64 cl, .int .i64 st, .int .i64 sp, .int .i64 ex, .int .i64 la, .int .i64 fl, .int .i64 fa, .int .i64 co, .int .i64 ru], .int .i64 t] w fun e w' => e = .returned (.bool true) ∧ Below w.heap.size w w' := by
  go_enter Try.func37, Try.ntmps37
  go_wp2
  go_ret
  exact ⟨ret_bool (by first | (simp; done) | (simp; omega)), by (focus repeat' (first | (with_reducible exact Below.refl _ _) | (with_reducible assumption) | (with_reducible refine Below.alloc ?_ ?_ _) | (with_reducible refine Below.drew ?_) | (with_reducible refine bdrewN ?_ _) | (with_reducible refine Below.setCell ?_ ?_ _) | (first | (with_reducible exact Nat.le_refl _) | (with_reducible assumption) | omega | (simp; omega) | (simp; done))))⟩

set_option maxHeartbeats 1000000 in
theorem rruns_no (k op cl st sp ex la fl fa co ru t : Int) (w : World) (h : t < op ∨ cl ≤ t) : Calls Try.prog 37 #[.agg #[.int .i64 k, .int .i64 op, .int .i64 cl, .int .i64 st, .int .i64 sp, .int .i64 ex, .int .i64 la, .int .i64 fl, .int .i64 fa, .int .i64 co, .int .i64 ru], .int .i64 t] w fun e w' => e = .returned (.bool false) ∧ Below w.heap.size w w' := by
  rcases h with h | h
  · go_enter Try.func37, Try.ntmps37
    go_wp2
    go_ret
    exact ⟨ret_bool (by first | (simp; done) | (simp; omega)), by (focus repeat' (first | (with_reducible exact Below.refl _ _) | (with_reducible assumption) | (with_reducible refine Below.alloc ?_ ?_ _) | (with_reducible refine Below.drew ?_) | (with_reducible refine bdrewN ?_ _) | (with_reducible refine Below.setCell ?_ ?_ _) | (first | (with_reducible exact Nat.le_refl _) | (with_reducible assumption) | omega | (simp; omega) | (simp; done))))⟩
  · by_cases h0 : t < op
    · go_enter Try.func37, Try.ntmps37
      go_wp2
      go_ret
      exact ⟨ret_bool (by first | (simp; done) | (simp; omega)), by (focus repeat' (first | (with_reducible exact Below.refl _ _) | (with_reducible assumption) | (with_reducible refine Below.alloc ?_ ?_ _) | (with_reducible refine Below.drew ?_) | (with_reducible refine bdrewN ?_ _) | (with_reducible refine Below.setCell ?_ ?_ _) | (first | (with_reducible exact Nat.le_refl _) | (with_reducible assumption) | omega | (simp; omega) | (simp; done))))⟩
    · have h1 : op ≤ t := by omega
      go_enter Try.func37, Try.ntmps37
      go_wp2
      go_ret
      exact ⟨ret_bool (by first | (simp; done) | (simp; omega)), by (focus repeat' (first | (with_reducible exact Below.refl _ _) | (with_reducible assumption) | (with_reducible refine Below.alloc ?_ ?_ _) | (with_reducible refine Below.drew ?_) | (with_reducible refine bdrewN ?_ _) | (with_reducible refine Below.setCell ?_ ?_ _) | (first | (with_reducible exact Nat.le_refl _) | (with_reducible assumption) | omega | (simp; omega) | (simp; done))))⟩

def rNewPost (k op cl st sp ex la fl fa co ru : Int) (w : World) (e : Ending) (w' : World) : Prop := ∃ g, e = .returned (.tuple #[.pointer (some ⟨g, 0, none⟩), .int .i64 0]) ∧ w.heap.size ≤ g ∧ Below w.heap.size w w' ∧ (g < w'.heap.size ∧ (∀ o, w'.cell? ⟨g, o, none⟩ = (#[Value.int .i64 k, Value.int .i64 op, Value.int .i64 cl, Value.int .i64 st, Value.int .i64 sp, Value.int .i64 ex, Value.int .i64 la, Value.int .i64 fl, Value.int .i64 fa, Value.int .i64 co, Value.int .i64 ru, Value.bool false, Value.int .i64 0, Value.int .i64 0, Value.int .i64 0] : Array Value)[o]?) ∧ ∀ o, w'.frozen? ⟨g, o, none⟩ = false)

set_option maxHeartbeats 1000000 in
theorem rNew_ok (k op cl st sp ex la fl fa co ru : Int) (w : World) (h : LotOK k op cl st sp ex la fl fa co ru) : Calls Try.prog 19 #[.agg #[.int .i64 k, .int .i64 op, .int .i64 cl, .int .i64 st, .int .i64 sp, .int .i64 ex, .int .i64 la, .int .i64 fl, .int .i64 fa, .int .i64 co, .int .i64 ru]] w (rNewPost k op cl st sp ex la fl fa co ru w) := by
  go_enter Try.func19, Try.ntmps19
  go_wp2_with fail
  (apply Calls.mono; focus ((apply rcheck_ok <;> (first | (with_reducible assumption) | (with_reducible rfl) | omega)); done)); rintro e w1 ⟨rfl, hb1⟩
  have HB1 : Below w.heap.size w w1 := bstep (by (focus repeat' (first | (with_reducible exact Below.refl _ _) | (with_reducible assumption) | (with_reducible refine Below.alloc ?_ ?_ _) | (with_reducible refine Below.drew ?_) | (with_reducible refine bdrewN ?_ _) | (with_reducible refine Below.setCell ?_ ?_ _) | (first | (with_reducible exact Nat.le_refl _) | (with_reducible assumption) | omega | (simp; omega) | (simp; done))))) hb1
  have hz1 := hb1.size
  (try simp only [World.size_drew, World.size_alloc] at hz1)
  have hz1_0 : w.heap.size < w1.heap.size := by omega
  have HC1_0 : ∀ o, w1.cell? ⟨w.heap.size, o, none⟩ = (#[Value.int .i64 k, Value.int .i64 op, Value.int .i64 cl, Value.int .i64 st, Value.int .i64 sp, Value.int .i64 ex, Value.int .i64 la, Value.int .i64 fl, Value.int .i64 fa, Value.int .i64 co, Value.int .i64 ru] : Array Value)[o]? := fun o => (hb1.cell (p := ⟨w.heap.size, o, none⟩) (by first | (simp; done) | omega | (simp; omega))).trans (by first | (with_reducible assumption) | (simp [go_sem, *]; done))
  clear hb1 hz1
  go_wp2
  go_ret2
  exact ⟨w1.heap.size, rfl, by omega, by (focus repeat' (first | (with_reducible exact Below.refl _ _) | (with_reducible assumption) | (with_reducible refine Below.alloc ?_ ?_ _) | (with_reducible refine Below.drew ?_) | (with_reducible refine bdrewN ?_ _) | (with_reducible refine Below.setCell ?_ ?_ _) | (first | (with_reducible exact Nat.le_refl _) | (with_reducible assumption) | omega | (simp; omega) | (simp; done)))), by simp, by (intro o; simp [go_sem]), by (intro o; simp [go_sem])⟩

set_option maxHeartbeats 1000000 in
theorem rNew_no (k op cl st sp ex la fl fa co ru : Int) (w : World) (h : ¬ LotOK k op cl st sp ex la fl fa co ru) : Calls Try.prog 19 #[.agg #[.int .i64 k, .int .i64 op, .int .i64 cl, .int .i64 st, .int .i64 sp, .int .i64 ex, .int .i64 la, .int .i64 fl, .int .i64 fa, .int .i64 co, .int .i64 ru]] w fun e w' => e = .returned (.tuple #[.pointer none, .int .i64 2]) ∧ Below w.heap.size w w' := by
  go_enter Try.func19, Try.ntmps19
  go_wp2_with fail
  (apply Calls.mono; focus ((apply rcheck_no <;> (first | (with_reducible assumption) | (with_reducible rfl) | omega)); done)); rintro e w1 ⟨rfl, hb1⟩
  have HB1 : Below w.heap.size w w1 := bstep (by (focus repeat' (first | (with_reducible exact Below.refl _ _) | (with_reducible assumption) | (with_reducible refine Below.alloc ?_ ?_ _) | (with_reducible refine Below.drew ?_) | (with_reducible refine bdrewN ?_ _) | (with_reducible refine Below.setCell ?_ ?_ _) | (first | (with_reducible exact Nat.le_refl _) | (with_reducible assumption) | omega | (simp; omega) | (simp; done))))) hb1
  have hz1 := hb1.size
  (try simp only [World.size_drew, World.size_alloc] at hz1)
  have hz1_0 : w.heap.size < w1.heap.size := by omega
  have HC1_0 : ∀ o, w1.cell? ⟨w.heap.size, o, none⟩ = (#[Value.int .i64 k, Value.int .i64 op, Value.int .i64 cl, Value.int .i64 st, Value.int .i64 sp, Value.int .i64 ex, Value.int .i64 la, Value.int .i64 fl, Value.int .i64 fa, Value.int .i64 co, Value.int .i64 ru] : Array Value)[o]? := fun o => (hb1.cell (p := ⟨w.heap.size, o, none⟩) (by first | (simp; done) | omega | (simp; omega))).trans (by first | (with_reducible assumption) | (simp [go_sem, *]; done))
  clear hb1 hz1
  go_wp2
  go_ret2
  exact ⟨rfl, by (focus repeat' (first | (with_reducible exact Below.refl _ _) | (with_reducible assumption) | (with_reducible refine Below.alloc ?_ ?_ _) | (with_reducible refine Below.drew ?_) | (with_reducible refine bdrewN ?_ _) | (with_reducible refine Below.setCell ?_ ?_ _) | (first | (with_reducible exact Nat.le_refl _) | (with_reducible assumption) | omega | (simp; omega) | (simp; done))))⟩

set_option maxHeartbeats 1000000 in
theorem rBid_nil (bd tk co2 fr : Int) (w : World) : Calls Try.prog 20 #[.pointer none, .int .i64 bd, .int .i64 tk, .int .i64 co2, .int .i64 fr] w fun e w' => e = .returned (.tuple #[.int .i64 0, .int .i64 1]) ∧ Below w.heap.size w w' := by
  go_enter Try.func20, Try.ntmps20
  go_wp2
  go_ret2
  exact ⟨rfl, by (focus repeat' (first | (with_reducible exact Below.refl _ _) | (with_reducible assumption) | (with_reducible refine Below.alloc ?_ ?_ _) | (with_reducible refine Below.drew ?_) | (with_reducible refine bdrewN ?_ _) | (with_reducible refine Below.setCell ?_ ?_ _) | (first | (with_reducible exact Nat.le_refl _) | (with_reducible assumption) | omega | (simp; omega) | (simp; done))))⟩

set_option maxHeartbeats 2000000 in
theorem rBid_A (g : Nat) (bd tk co2 fr : Int) (w : World) (q : bd < 0 ∨ tk < 0 ∨ 1099511627776 < tk ∨ co2 < 0 ∨ 1099511627776 < co2 ∨ fr < 0 ∨ 1099511627776 < fr) : Calls Try.prog 20 #[.pointer (some ⟨g, 0, none⟩), .int .i64 bd, .int .i64 tk, .int .i64 co2, .int .i64 fr] w fun e w' => e = .returned (.tuple #[.int .i64 0, .int .i64 2]) ∧ Below w.heap.size w w' := by
  by_cases c0 : bd < 0
  · clear q
    have dn : decide (bd < 0) = true := by rw [decide_eq_true_eq]; exact c0
    have dz : decide (0 ≤ bd) = false := by rw [decide_eq_false_iff_not]; omega
    go_enter Try.func20, Try.ntmps20
    go_wp2_with (first | (go_at_call 28; go_in) | (go_at_call 36; go_in))
    go_ret2
    exact ⟨rfl, by (focus repeat' (first | (with_reducible exact Below.refl _ _) | (with_reducible assumption) | (with_reducible refine Below.alloc ?_ ?_ _) | (with_reducible refine Below.drew ?_) | (with_reducible refine bdrewN ?_ _) | (with_reducible refine Below.setCell ?_ ?_ _) | (first | (with_reducible exact Nat.le_refl _) | (with_reducible assumption) | omega | (simp; omega) | (simp; done))))⟩
  · skip
    by_cases c1 : co2 < 0
    · clear q
      have p0 : 0 ≤ bd := by omega
      have d0 : decide (0 ≤ bd) = true := by rw [decide_eq_true_eq]; exact p0
      have dn : decide (co2 < 0) = true := by rw [decide_eq_true_eq]; exact c1
      have dz : decide (0 ≤ co2) = false := by rw [decide_eq_false_iff_not]; omega
      clear c0
      go_enter Try.func20, Try.ntmps20
      go_wp2_with (first | (go_at_call 28; go_in) | (go_at_call 36; go_in))
      go_ret2
      exact ⟨rfl, by (focus repeat' (first | (with_reducible exact Below.refl _ _) | (with_reducible assumption) | (with_reducible refine Below.alloc ?_ ?_ _) | (with_reducible refine Below.drew ?_) | (with_reducible refine bdrewN ?_ _) | (with_reducible refine Below.setCell ?_ ?_ _) | (first | (with_reducible exact Nat.le_refl _) | (with_reducible assumption) | omega | (simp; omega) | (simp; done))))⟩
    · skip
      by_cases c2 : 1099511627776 < co2
      · clear q
        have p0 : 0 ≤ bd := by omega
        have d0 : decide (0 ≤ bd) = true := by rw [decide_eq_true_eq]; exact p0
        have p1 : 0 ≤ co2 := by omega
        have d1 : decide (0 ≤ co2) = true := by rw [decide_eq_true_eq]; exact p1
        have dn : decide (1099511627776 < co2) = true := by rw [decide_eq_true_eq]; exact c2
        have dz : decide (co2 ≤ 1099511627776) = false := by rw [decide_eq_false_iff_not]; omega
        clear c0
        clear c1
        go_enter Try.func20, Try.ntmps20
        go_wp2_with (first | (go_at_call 28; go_in) | (go_at_call 36; go_in))
        go_ret2
        exact ⟨rfl, by (focus repeat' (first | (with_reducible exact Below.refl _ _) | (with_reducible assumption) | (with_reducible refine Below.alloc ?_ ?_ _) | (with_reducible refine Below.drew ?_) | (with_reducible refine bdrewN ?_ _) | (with_reducible refine Below.setCell ?_ ?_ _) | (first | (with_reducible exact Nat.le_refl _) | (with_reducible assumption) | omega | (simp; omega) | (simp; done))))⟩
      · skip
        by_cases c3 : fr < 0
        · clear q
          have p0 : 0 ≤ bd := by omega
          have d0 : decide (0 ≤ bd) = true := by rw [decide_eq_true_eq]; exact p0
          have p1 : 0 ≤ co2 := by omega
          have d1 : decide (0 ≤ co2) = true := by rw [decide_eq_true_eq]; exact p1
          have p2 : co2 ≤ 1099511627776 := by omega
          have d2 : decide (co2 ≤ 1099511627776) = true := by rw [decide_eq_true_eq]; exact p2
          have dn : decide (fr < 0) = true := by rw [decide_eq_true_eq]; exact c3
          have dz : decide (0 ≤ fr) = false := by rw [decide_eq_false_iff_not]; omega
          clear c0
          clear c1
          clear c2
          go_enter Try.func20, Try.ntmps20
          go_wp2_with (first | (go_at_call 28; go_in) | (go_at_call 36; go_in))
          go_ret2
          exact ⟨rfl, by (focus repeat' (first | (with_reducible exact Below.refl _ _) | (with_reducible assumption) | (with_reducible refine Below.alloc ?_ ?_ _) | (with_reducible refine Below.drew ?_) | (with_reducible refine bdrewN ?_ _) | (with_reducible refine Below.setCell ?_ ?_ _) | (first | (with_reducible exact Nat.le_refl _) | (with_reducible assumption) | omega | (simp; omega) | (simp; done))))⟩
        · skip
          by_cases c4 : 1099511627776 < fr
          · clear q
            have p0 : 0 ≤ bd := by omega
            have d0 : decide (0 ≤ bd) = true := by rw [decide_eq_true_eq]; exact p0
            have p1 : 0 ≤ co2 := by omega
            have d1 : decide (0 ≤ co2) = true := by rw [decide_eq_true_eq]; exact p1
            have p2 : co2 ≤ 1099511627776 := by omega
            have d2 : decide (co2 ≤ 1099511627776) = true := by rw [decide_eq_true_eq]; exact p2
            have p3 : 0 ≤ fr := by omega
            have d3 : decide (0 ≤ fr) = true := by rw [decide_eq_true_eq]; exact p3
            have dn : decide (1099511627776 < fr) = true := by rw [decide_eq_true_eq]; exact c4
            have dz : decide (fr ≤ 1099511627776) = false := by rw [decide_eq_false_iff_not]; omega
            clear c0
            clear c1
            clear c2
            clear c3
            go_enter Try.func20, Try.ntmps20
            go_wp2_with (first | (go_at_call 28; go_in) | (go_at_call 36; go_in))
            go_ret2
            exact ⟨rfl, by (focus repeat' (first | (with_reducible exact Below.refl _ _) | (with_reducible assumption) | (with_reducible refine Below.alloc ?_ ?_ _) | (with_reducible refine Below.drew ?_) | (with_reducible refine bdrewN ?_ _) | (with_reducible refine Below.setCell ?_ ?_ _) | (first | (with_reducible exact Nat.le_refl _) | (with_reducible assumption) | omega | (simp; omega) | (simp; done))))⟩
          · skip
            by_cases c5 : tk < 0
            · clear q
              have p0 : 0 ≤ bd := by omega
              have d0 : decide (0 ≤ bd) = true := by rw [decide_eq_true_eq]; exact p0
              have p1 : 0 ≤ co2 := by omega
              have d1 : decide (0 ≤ co2) = true := by rw [decide_eq_true_eq]; exact p1
              have p2 : co2 ≤ 1099511627776 := by omega
              have d2 : decide (co2 ≤ 1099511627776) = true := by rw [decide_eq_true_eq]; exact p2
              have p3 : 0 ≤ fr := by omega
              have d3 : decide (0 ≤ fr) = true := by rw [decide_eq_true_eq]; exact p3
              have p4 : fr ≤ 1099511627776 := by omega
              have d4 : decide (fr ≤ 1099511627776) = true := by rw [decide_eq_true_eq]; exact p4
              have dn : decide (tk < 0) = true := by rw [decide_eq_true_eq]; exact c5
              have dz : decide (0 ≤ tk) = false := by rw [decide_eq_false_iff_not]; omega
              clear c0
              clear c1
              clear c2
              clear c3
              clear c4
              go_enter Try.func20, Try.ntmps20
              go_wp2_with (first | (go_at_call 28; go_in) | (go_at_call 36; go_in))
              go_ret2
              exact ⟨rfl, by (focus repeat' (first | (with_reducible exact Below.refl _ _) | (with_reducible assumption) | (with_reducible refine Below.alloc ?_ ?_ _) | (with_reducible refine Below.drew ?_) | (with_reducible refine bdrewN ?_ _) | (with_reducible refine Below.setCell ?_ ?_ _) | (first | (with_reducible exact Nat.le_refl _) | (with_reducible assumption) | omega | (simp; omega) | (simp; done))))⟩
            · skip
              have c6 : 1099511627776 < tk := by omega
              clear q
              have p0 : 0 ≤ bd := by omega
              have d0 : decide (0 ≤ bd) = true := by rw [decide_eq_true_eq]; exact p0
              have p1 : 0 ≤ co2 := by omega
              have d1 : decide (0 ≤ co2) = true := by rw [decide_eq_true_eq]; exact p1
              have p2 : co2 ≤ 1099511627776 := by omega
              have d2 : decide (co2 ≤ 1099511627776) = true := by rw [decide_eq_true_eq]; exact p2
              have p3 : 0 ≤ fr := by omega
              have d3 : decide (0 ≤ fr) = true := by rw [decide_eq_true_eq]; exact p3
              have p4 : fr ≤ 1099511627776 := by omega
              have d4 : decide (fr ≤ 1099511627776) = true := by rw [decide_eq_true_eq]; exact p4
              have p5 : 0 ≤ tk := by omega
              have d5 : decide (0 ≤ tk) = true := by rw [decide_eq_true_eq]; exact p5
              have dn : decide (1099511627776 < tk) = true := by rw [decide_eq_true_eq]; exact c6
              have dz : decide (tk ≤ 1099511627776) = false := by rw [decide_eq_false_iff_not]; omega
              clear c0
              clear c1
              clear c2
              clear c3
              clear c4
              clear c5
              go_enter Try.func20, Try.ntmps20
              go_wp2_with (first | (go_at_call 28; go_in) | (go_at_call 36; go_in))
              go_ret2
              exact ⟨rfl, by (focus repeat' (first | (with_reducible exact Below.refl _ _) | (with_reducible assumption) | (with_reducible refine Below.alloc ?_ ?_ _) | (with_reducible refine Below.drew ?_) | (with_reducible refine bdrewN ?_ _) | (with_reducible refine Below.setCell ?_ ?_ _) | (first | (with_reducible exact Nat.le_refl _) | (with_reducible assumption) | omega | (simp; omega) | (simp; done))))⟩

set_option maxHeartbeats 2000000 in
theorem rBid_sold (k op cl st sp ex la fl fa co ru rb rp rt bd tk co2 fr : Int) (g : Nat) (w : World) (hg : g < w.heap.size) (hc : ∀ o, w.cell? ⟨g, o, none⟩ = (#[Value.int .i64 k, Value.int .i64 op, Value.int .i64 cl, Value.int .i64 st, Value.int .i64 sp, Value.int .i64 ex, Value.int .i64 la, Value.int .i64 fl, Value.int .i64 fa, Value.int .i64 co, Value.int .i64 ru, Value.bool true, Value.int .i64 rb, Value.int .i64 rp, Value.int .i64 rt] : Array Value)[o]?) (hfz : ∀ o, w.frozen? ⟨g, o, none⟩ = false) (v1 : 0 ≤ bd) (v2 : 0 ≤ tk) (v3 : tk ≤ 1099511627776) (v4 : 0 ≤ co2) (v5 : co2 ≤ 1099511627776) (v6 : 0 ≤ fr) (v7 : fr ≤ 1099511627776) : Calls Try.prog 20 #[.pointer (some ⟨g, 0, none⟩), .int .i64 bd, .int .i64 tk, .int .i64 co2, .int .i64 fr] w fun e w' => e = .returned (.tuple #[.int .i64 0, .int .i64 6]) ∧ Below w.heap.size w w' := by
  have e1 : decide (tk ≤ 1099511627776) = true := by rw [decide_eq_true_eq]; exact v3
  have e2 : decide (co2 ≤ 1099511627776) = true := by rw [decide_eq_true_eq]; exact v5
  have e3 : decide (fr ≤ 1099511627776) = true := by rw [decide_eq_true_eq]; exact v7
  go_enter Try.func20, Try.ntmps20
  go_wp2_with (first | (go_at_call 28; go_in) | (go_at_call 36; go_in))
  go_ret2
  exact ⟨rfl, by (focus repeat' (first | (with_reducible exact Below.refl _ _) | (with_reducible assumption) | (with_reducible refine Below.alloc ?_ ?_ _) | (with_reducible refine Below.drew ?_) | (with_reducible refine bdrewN ?_ _) | (with_reducible refine Below.setCell ?_ ?_ _) | (first | (with_reducible exact Nat.le_refl _) | (with_reducible assumption) | omega | (simp; omega) | (simp; done))))⟩

set_option maxHeartbeats 2000000 in
theorem rBid_time (k op cl st sp ex la fl fa co ru rb rp rt bd tk co2 fr : Int) (g : Nat) (w : World) (hg : g < w.heap.size) (hc : ∀ o, w.cell? ⟨g, o, none⟩ = (#[Value.int .i64 k, Value.int .i64 op, Value.int .i64 cl, Value.int .i64 st, Value.int .i64 sp, Value.int .i64 ex, Value.int .i64 la, Value.int .i64 fl, Value.int .i64 fa, Value.int .i64 co, Value.int .i64 ru, Value.bool false, Value.int .i64 rb, Value.int .i64 rp, Value.int .i64 rt] : Array Value)[o]?) (hfz : ∀ o, w.frozen? ⟨g, o, none⟩ = false) (v1 : 0 ≤ bd) (v2 : 0 ≤ tk) (v3 : tk ≤ 1099511627776) (v4 : 0 ≤ co2) (v5 : co2 ≤ 1099511627776) (v6 : 0 ≤ fr) (v7 : fr ≤ 1099511627776) (r : tk < op ∨ cl ≤ tk) : Calls Try.prog 20 #[.pointer (some ⟨g, 0, none⟩), .int .i64 bd, .int .i64 tk, .int .i64 co2, .int .i64 fr] w fun e w' => e = .returned (.tuple #[.int .i64 0, .int .i64 6]) ∧ Below w.heap.size w w' := by
  have e1 : decide (tk ≤ 1099511627776) = true := by rw [decide_eq_true_eq]; exact v3
  have e2 : decide (co2 ≤ 1099511627776) = true := by rw [decide_eq_true_eq]; exact v5
  have e3 : decide (fr ≤ 1099511627776) = true := by rw [decide_eq_true_eq]; exact v7
  go_enter Try.func20, Try.ntmps20
  go_wp2_with (first | (go_at_call 28; go_in) | (go_at_call 36; go_in))
  (apply Calls.mono; focus ((apply rruns_no <;> (first | (with_reducible assumption) | (with_reducible rfl) | omega)); done)); rintro e w1 ⟨rfl, hb1⟩
  have HB1 : Below w.heap.size w w1 := bstep (by (focus repeat' (first | (with_reducible exact Below.refl _ _) | (with_reducible assumption) | (with_reducible refine Below.alloc ?_ ?_ _) | (with_reducible refine Below.drew ?_) | (with_reducible refine bdrewN ?_ _) | (with_reducible refine Below.setCell ?_ ?_ _) | (first | (with_reducible exact Nat.le_refl _) | (with_reducible assumption) | omega | (simp; omega) | (simp; done))))) hb1
  have hz1 := hb1.size
  have hg1 : g < w1.heap.size := by omega
  have HC1 : ∀ o, w1.cell? ⟨g, o, none⟩ = (#[Value.int .i64 k, Value.int .i64 op, Value.int .i64 cl, Value.int .i64 st, Value.int .i64 sp, Value.int .i64 ex, Value.int .i64 la, Value.int .i64 fl, Value.int .i64 fa, Value.int .i64 co, Value.int .i64 ru, Value.bool false, Value.int .i64 rb, Value.int .i64 rp, Value.int .i64 rt] : Array Value)[o]? := fun o => (hb1.cell (p := ⟨g, o, none⟩) (by omega)).trans (by simp [go_sem, *])
  have HF1 : ∀ o, w1.frozen? ⟨g, o, none⟩ = false := fun o => (hb1.frozen (p := ⟨g, o, none⟩) (by omega)).trans (by simp [go_sem, *])
  go_wp2
  go_ret2
  exact ⟨rfl, by (focus repeat' (first | (with_reducible exact Below.refl _ _) | (with_reducible assumption) | (with_reducible refine Below.alloc ?_ ?_ _) | (with_reducible refine Below.drew ?_) | (with_reducible refine bdrewN ?_ _) | (with_reducible refine Below.setCell ?_ ?_ _) | (first | (with_reducible exact Nat.le_refl _) | (with_reducible assumption) | omega | (simp; omega) | (simp; done))))⟩

set_option maxHeartbeats 2000000 in
theorem rBid_low (k op cl st sp ex la fl fa co ru rb rp rt bd tk co2 fr : Int) (g : Nat) (w : World) (h : LotOK k op cl st sp ex la fl fa co ru) (hg : g < w.heap.size) (hc : ∀ o, w.cell? ⟨g, o, none⟩ = (#[Value.int .i64 k, Value.int .i64 op, Value.int .i64 cl, Value.int .i64 st, Value.int .i64 sp, Value.int .i64 ex, Value.int .i64 la, Value.int .i64 fl, Value.int .i64 fa, Value.int .i64 co, Value.int .i64 ru, Value.bool false, Value.int .i64 rb, Value.int .i64 rp, Value.int .i64 rt] : Array Value)[o]?) (hfz : ∀ o, w.frozen? ⟨g, o, none⟩ = false) (v1 : 0 ≤ bd) (v2 : 0 ≤ tk) (v3 : tk ≤ 1099511627776) (v4 : 0 ≤ co2) (v5 : co2 ≤ 1099511627776) (v6 : 0 ≤ fr) (v7 : fr ≤ 1099511627776) (r1 : op ≤ tk) (r2 : tk < cl) (q : co2 < priceI op st fl fa tk) : Calls Try.prog 20 #[.pointer (some ⟨g, 0, none⟩), .int .i64 bd, .int .i64 tk, .int .i64 co2, .int .i64 fr] w fun e w' => e = .returned (.tuple #[.int .i64 0, .int .i64 7]) ∧ Below w.heap.size w w' := by
  have e1 : decide (tk ≤ 1099511627776) = true := by rw [decide_eq_true_eq]; exact v3
  have e2 : decide (co2 ≤ 1099511627776) = true := by rw [decide_eq_true_eq]; exact v5
  have e3 : decide (fr ≤ 1099511627776) = true := by rw [decide_eq_true_eq]; exact v7
  go_enter Try.func20, Try.ntmps20
  go_wp2_with (first | (go_at_call 28; go_in) | (go_at_call 36; go_in))
  (apply Calls.mono; focus ((apply rruns_yes <;> (first | (with_reducible assumption) | (with_reducible rfl) | omega)); done)); rintro e w1 ⟨rfl, hb1⟩
  have HB1 : Below w.heap.size w w1 := bstep (by (focus repeat' (first | (with_reducible exact Below.refl _ _) | (with_reducible assumption) | (with_reducible refine Below.alloc ?_ ?_ _) | (with_reducible refine Below.drew ?_) | (with_reducible refine bdrewN ?_ _) | (with_reducible refine Below.setCell ?_ ?_ _) | (first | (with_reducible exact Nat.le_refl _) | (with_reducible assumption) | omega | (simp; omega) | (simp; done))))) hb1
  have hz1 := hb1.size
  have hg1 : g < w1.heap.size := by omega
  have HC1 : ∀ o, w1.cell? ⟨g, o, none⟩ = (#[Value.int .i64 k, Value.int .i64 op, Value.int .i64 cl, Value.int .i64 st, Value.int .i64 sp, Value.int .i64 ex, Value.int .i64 la, Value.int .i64 fl, Value.int .i64 fa, Value.int .i64 co, Value.int .i64 ru, Value.bool false, Value.int .i64 rb, Value.int .i64 rp, Value.int .i64 rt] : Array Value)[o]? := fun o => (hb1.cell (p := ⟨g, o, none⟩) (by omega)).trans (by simp [go_sem, *])
  have HF1 : ∀ o, w1.frozen? ⟨g, o, none⟩ = false := fun o => (hb1.frozen (p := ⟨g, o, none⟩) (by omega)).trans (by simp [go_sem, *])
  go_wp2_with fail
  (apply Calls.mono; focus ((apply rprice_any <;> (first | (with_reducible assumption) | (with_reducible rfl) | omega)); done)); rintro e w2 ⟨rfl, hb2⟩
  have HB2 : Below w.heap.size w w2 := bstep (by (focus repeat' (first | (with_reducible exact Below.refl _ _) | (with_reducible assumption) | (with_reducible refine Below.alloc ?_ ?_ _) | (with_reducible refine Below.drew ?_) | (with_reducible refine bdrewN ?_ _) | (with_reducible refine Below.setCell ?_ ?_ _) | (first | (with_reducible exact Nat.le_refl _) | (with_reducible assumption) | omega | (simp; omega) | (simp; done))))) hb2
  have hz2 := hb2.size
  have hg2 : g < w2.heap.size := by omega
  have HC2 : ∀ o, w2.cell? ⟨g, o, none⟩ = (#[Value.int .i64 k, Value.int .i64 op, Value.int .i64 cl, Value.int .i64 st, Value.int .i64 sp, Value.int .i64 ex, Value.int .i64 la, Value.int .i64 fl, Value.int .i64 fa, Value.int .i64 co, Value.int .i64 ru, Value.bool false, Value.int .i64 rb, Value.int .i64 rp, Value.int .i64 rt] : Array Value)[o]? := fun o => (hb2.cell (p := ⟨g, o, none⟩) (by omega)).trans (by simp [go_sem, *])
  have HF2 : ∀ o, w2.frozen? ⟨g, o, none⟩ = false := fun o => (hb2.frozen (p := ⟨g, o, none⟩) (by omega)).trans (by simp [go_sem, *])
  go_wp2
  go_ret2
  exact ⟨rfl, by (focus repeat' (first | (with_reducible exact Below.refl _ _) | (with_reducible assumption) | (with_reducible refine Below.alloc ?_ ?_ _) | (with_reducible refine Below.drew ?_) | (with_reducible refine bdrewN ?_ _) | (with_reducible refine Below.setCell ?_ ?_ _) | (first | (with_reducible exact Nat.le_refl _) | (with_reducible assumption) | omega | (simp; omega) | (simp; done))))⟩

set_option maxHeartbeats 2000000 in
theorem rBid_over (k op cl st sp ex la fl fa co ru rb rp rt bd tk co2 fr : Int) (g : Nat) (w : World) (h : LotOK k op cl st sp ex la fl fa co ru) (hg : g < w.heap.size) (hc : ∀ o, w.cell? ⟨g, o, none⟩ = (#[Value.int .i64 k, Value.int .i64 op, Value.int .i64 cl, Value.int .i64 st, Value.int .i64 sp, Value.int .i64 ex, Value.int .i64 la, Value.int .i64 fl, Value.int .i64 fa, Value.int .i64 co, Value.int .i64 ru, Value.bool false, Value.int .i64 rb, Value.int .i64 rp, Value.int .i64 rt] : Array Value)[o]?) (hfz : ∀ o, w.frozen? ⟨g, o, none⟩ = false) (v1 : 0 ≤ bd) (v2 : 0 ≤ tk) (v3 : tk ≤ 1099511627776) (v4 : 0 ≤ co2) (v5 : co2 ≤ 1099511627776) (v6 : 0 ≤ fr) (v7 : fr ≤ 1099511627776) (r1 : op ≤ tk) (r2 : tk < cl) (q : priceI op st fl fa tk ≤ co2) (q2 : fr < priceI op st fl fa tk) : Calls Try.prog 20 #[.pointer (some ⟨g, 0, none⟩), .int .i64 bd, .int .i64 tk, .int .i64 co2, .int .i64 fr] w fun e w' => e = .returned (.tuple #[.int .i64 0, .int .i64 8]) ∧ Below w.heap.size w w' := by
  have e1 : decide (tk ≤ 1099511627776) = true := by rw [decide_eq_true_eq]; exact v3
  have e2 : decide (co2 ≤ 1099511627776) = true := by rw [decide_eq_true_eq]; exact v5
  have e3 : decide (fr ≤ 1099511627776) = true := by rw [decide_eq_true_eq]; exact v7
  go_enter Try.func20, Try.ntmps20
  go_wp2_with (first | (go_at_call 28; go_in) | (go_at_call 36; go_in))
  (apply Calls.mono; focus ((apply rruns_yes <;> (first | (with_reducible assumption) | (with_reducible rfl) | omega)); done)); rintro e w1 ⟨rfl, hb1⟩
  have HB1 : Below w.heap.size w w1 := bstep (by (focus repeat' (first | (with_reducible exact Below.refl _ _) | (with_reducible assumption) | (with_reducible refine Below.alloc ?_ ?_ _) | (with_reducible refine Below.drew ?_) | (with_reducible refine bdrewN ?_ _) | (with_reducible refine Below.setCell ?_ ?_ _) | (first | (with_reducible exact Nat.le_refl _) | (with_reducible assumption) | omega | (simp; omega) | (simp; done))))) hb1
  have hz1 := hb1.size
  have hg1 : g < w1.heap.size := by omega
  have HC1 : ∀ o, w1.cell? ⟨g, o, none⟩ = (#[Value.int .i64 k, Value.int .i64 op, Value.int .i64 cl, Value.int .i64 st, Value.int .i64 sp, Value.int .i64 ex, Value.int .i64 la, Value.int .i64 fl, Value.int .i64 fa, Value.int .i64 co, Value.int .i64 ru, Value.bool false, Value.int .i64 rb, Value.int .i64 rp, Value.int .i64 rt] : Array Value)[o]? := fun o => (hb1.cell (p := ⟨g, o, none⟩) (by omega)).trans (by simp [go_sem, *])
  have HF1 : ∀ o, w1.frozen? ⟨g, o, none⟩ = false := fun o => (hb1.frozen (p := ⟨g, o, none⟩) (by omega)).trans (by simp [go_sem, *])
  go_wp2_with fail
  (apply Calls.mono; focus ((apply rprice_any <;> (first | (with_reducible assumption) | (with_reducible rfl) | omega)); done)); rintro e w2 ⟨rfl, hb2⟩
  have HB2 : Below w.heap.size w w2 := bstep (by (focus repeat' (first | (with_reducible exact Below.refl _ _) | (with_reducible assumption) | (with_reducible refine Below.alloc ?_ ?_ _) | (with_reducible refine Below.drew ?_) | (with_reducible refine bdrewN ?_ _) | (with_reducible refine Below.setCell ?_ ?_ _) | (first | (with_reducible exact Nat.le_refl _) | (with_reducible assumption) | omega | (simp; omega) | (simp; done))))) hb2
  have hz2 := hb2.size
  have hg2 : g < w2.heap.size := by omega
  have HC2 : ∀ o, w2.cell? ⟨g, o, none⟩ = (#[Value.int .i64 k, Value.int .i64 op, Value.int .i64 cl, Value.int .i64 st, Value.int .i64 sp, Value.int .i64 ex, Value.int .i64 la, Value.int .i64 fl, Value.int .i64 fa, Value.int .i64 co, Value.int .i64 ru, Value.bool false, Value.int .i64 rb, Value.int .i64 rp, Value.int .i64 rt] : Array Value)[o]? := fun o => (hb2.cell (p := ⟨g, o, none⟩) (by omega)).trans (by simp [go_sem, *])
  have HF2 : ∀ o, w2.frozen? ⟨g, o, none⟩ = false := fun o => (hb2.frozen (p := ⟨g, o, none⟩) (by omega)).trans (by simp [go_sem, *])
  go_wp2
  go_ret2
  exact ⟨rfl, by (focus repeat' (first | (with_reducible exact Below.refl _ _) | (with_reducible assumption) | (with_reducible refine Below.alloc ?_ ?_ _) | (with_reducible refine Below.drew ?_) | (with_reducible refine bdrewN ?_ _) | (with_reducible refine Below.setCell ?_ ?_ _) | (first | (with_reducible exact Nat.le_refl _) | (with_reducible assumption) | omega | (simp; omega) | (simp; done))))⟩

theorem set15 {w : World} {g : Nat} {c0 c1 c2 c3 c4 c5 c6 c7 c8 c9 c10 c11 c12 c13 c14 v1 v2 v3 v4 : Value} (h : ∀ o, w.cell? ⟨g, o, none⟩ = (#[c0, c1, c2, c3, c4, c5, c6, c7, c8, c9, c10, c11, c12, c13, c14] : Array Value)[o]?) : ∀ o, ((((w.setCell ⟨g, 11, none⟩ v1).setCell ⟨g, 12, none⟩ v2).setCell ⟨g, 13, none⟩ v3).setCell ⟨g, 14, none⟩ v4).cell? ⟨g, o, none⟩ = (#[c0, c1, c2, c3, c4, c5, c6, c7, c8, c9, c10, v1, v2, v3, v4] : Array Value)[o]? := by
  intro o
  rcases o with _ | _ | _ | _ | _ | _ | _ | _ | _ | _ | _ | _ | _ | _ | _ | o
  all_goals simp [go_sem, h]
def rSoldPost (k op cl st sp ex la fl fa co ru bd tk : Int) (g : Nat) (w : World) (e : Ending) (w' : World) : Prop := e = .returned (.tuple #[.int .i64 (priceI op st fl fa tk), .int .i64 0]) ∧ Only g w w' ∧ (g < w'.heap.size ∧ (∀ o, w'.cell? ⟨g, o, none⟩ = (#[Value.int .i64 k, Value.int .i64 op, Value.int .i64 cl, Value.int .i64 st, Value.int .i64 sp, Value.int .i64 ex, Value.int .i64 la, Value.int .i64 fl, Value.int .i64 fa, Value.int .i64 co, Value.int .i64 ru, Value.bool true, Value.int .i64 bd, Value.int .i64 (priceI op st fl fa tk), Value.int .i64 tk] : Array Value)[o]?) ∧ ∀ o, w'.frozen? ⟨g, o, none⟩ = false)

set_option maxHeartbeats 2000000 in
theorem rBid_ok (k op cl st sp ex la fl fa co ru rb rp rt bd tk co2 fr : Int) (g : Nat) (w : World) (h : LotOK k op cl st sp ex la fl fa co ru) (hg : g < w.heap.size) (hc : ∀ o, w.cell? ⟨g, o, none⟩ = (#[Value.int .i64 k, Value.int .i64 op, Value.int .i64 cl, Value.int .i64 st, Value.int .i64 sp, Value.int .i64 ex, Value.int .i64 la, Value.int .i64 fl, Value.int .i64 fa, Value.int .i64 co, Value.int .i64 ru, Value.bool false, Value.int .i64 rb, Value.int .i64 rp, Value.int .i64 rt] : Array Value)[o]?) (hfz : ∀ o, w.frozen? ⟨g, o, none⟩ = false) (v1 : 0 ≤ bd) (v2 : 0 ≤ tk) (v3 : tk ≤ 1099511627776) (v4 : 0 ≤ co2) (v5 : co2 ≤ 1099511627776) (v6 : 0 ≤ fr) (v7 : fr ≤ 1099511627776) (r1 : op ≤ tk) (r2 : tk < cl) (q : priceI op st fl fa tk ≤ co2) (q2 : priceI op st fl fa tk ≤ fr) : Calls Try.prog 20 #[.pointer (some ⟨g, 0, none⟩), .int .i64 bd, .int .i64 tk, .int .i64 co2, .int .i64 fr] w (rSoldPost k op cl st sp ex la fl fa co ru bd tk g w) := by
  have e1 : decide (tk ≤ 1099511627776) = true := by rw [decide_eq_true_eq]; exact v3
  have e2 : decide (co2 ≤ 1099511627776) = true := by rw [decide_eq_true_eq]; exact v5
  have e3 : decide (fr ≤ 1099511627776) = true := by rw [decide_eq_true_eq]; exact v7
  go_enter Try.func20, Try.ntmps20
  go_wp2_with (first | (go_at_call 28; go_in) | (go_at_call 36; go_in))
  (apply Calls.mono; focus ((apply rruns_yes <;> (first | (with_reducible assumption) | (with_reducible rfl) | omega)); done)); rintro e w1 ⟨rfl, hb1⟩
  have HB1 : Below w.heap.size w w1 := bstep (by (focus repeat' (first | (with_reducible exact Below.refl _ _) | (with_reducible assumption) | (with_reducible refine Below.alloc ?_ ?_ _) | (with_reducible refine Below.drew ?_) | (with_reducible refine bdrewN ?_ _) | (with_reducible refine Below.setCell ?_ ?_ _) | (first | (with_reducible exact Nat.le_refl _) | (with_reducible assumption) | omega | (simp; omega) | (simp; done))))) hb1
  have hz1 := hb1.size
  have hg1 : g < w1.heap.size := by omega
  have HC1 : ∀ o, w1.cell? ⟨g, o, none⟩ = (#[Value.int .i64 k, Value.int .i64 op, Value.int .i64 cl, Value.int .i64 st, Value.int .i64 sp, Value.int .i64 ex, Value.int .i64 la, Value.int .i64 fl, Value.int .i64 fa, Value.int .i64 co, Value.int .i64 ru, Value.bool false, Value.int .i64 rb, Value.int .i64 rp, Value.int .i64 rt] : Array Value)[o]? := fun o => (hb1.cell (p := ⟨g, o, none⟩) (by omega)).trans (by simp [go_sem, *])
  have HF1 : ∀ o, w1.frozen? ⟨g, o, none⟩ = false := fun o => (hb1.frozen (p := ⟨g, o, none⟩) (by omega)).trans (by simp [go_sem, *])
  go_wp2_with fail
  (apply Calls.mono; focus ((apply rprice_any <;> (first | (with_reducible assumption) | (with_reducible rfl) | omega)); done)); rintro e w2 ⟨rfl, hb2⟩
  have HB2 : Below w.heap.size w w2 := bstep (by (focus repeat' (first | (with_reducible exact Below.refl _ _) | (with_reducible assumption) | (with_reducible refine Below.alloc ?_ ?_ _) | (with_reducible refine Below.drew ?_) | (with_reducible refine bdrewN ?_ _) | (with_reducible refine Below.setCell ?_ ?_ _) | (first | (with_reducible exact Nat.le_refl _) | (with_reducible assumption) | omega | (simp; omega) | (simp; done))))) hb2
  have hz2 := hb2.size
  have hg2 : g < w2.heap.size := by omega
  have HC2 : ∀ o, w2.cell? ⟨g, o, none⟩ = (#[Value.int .i64 k, Value.int .i64 op, Value.int .i64 cl, Value.int .i64 st, Value.int .i64 sp, Value.int .i64 ex, Value.int .i64 la, Value.int .i64 fl, Value.int .i64 fa, Value.int .i64 co, Value.int .i64 ru, Value.bool false, Value.int .i64 rb, Value.int .i64 rp, Value.int .i64 rt] : Array Value)[o]? := fun o => (hb2.cell (p := ⟨g, o, none⟩) (by omega)).trans (by simp [go_sem, *])
  have HF2 : ∀ o, w2.frozen? ⟨g, o, none⟩ = false := fun o => (hb2.frozen (p := ⟨g, o, none⟩) (by omega)).trans (by simp [go_sem, *])
  go_wp2
  go_ret2
  have z1 : w.heap.size ≤ w2.heap.size := HB2.size
  refine ⟨rfl, ((((Only.of_below (g := g) HB2).setCell (p := ⟨g, 11, none⟩) (.inl rfl) _).setCell (p := ⟨g, 12, none⟩) (.inl rfl) _).setCell (p := ⟨g, 13, none⟩) (.inl rfl) _).setCell (p := ⟨g, 14, none⟩) (.inl rfl) _, by (simp; omega), set15 HC2, ?_⟩
  · intro o
    simp only [World.frozen?_setCell]
    exact HF2 o

set_option maxHeartbeats 1000000 in
theorem rAt_nil (tk : Int) (w : World) : Calls Try.prog 38 #[.pointer none, .int .i64 tk] w fun e w' => e = .returned (.tuple #[.int .i64 0, .bool false]) ∧ Below w.heap.size w w' := by
  go_enter Try.func38, Try.ntmps38
  go_wp2
  go_ret2
  exact ⟨rfl, by (focus repeat' (first | (with_reducible exact Below.refl _ _) | (with_reducible assumption) | (with_reducible refine Below.alloc ?_ ?_ _) | (with_reducible refine Below.drew ?_) | (with_reducible refine bdrewN ?_ _) | (with_reducible refine Below.setCell ?_ ?_ _) | (first | (with_reducible exact Nat.le_refl _) | (with_reducible assumption) | omega | (simp; omega) | (simp; done))))⟩

set_option maxHeartbeats 1000000 in
theorem rAt_sold (k op cl st sp ex la fl fa co ru rb rp rt tk : Int) (g : Nat) (w : World) (hg : g < w.heap.size) (hc : ∀ o, w.cell? ⟨g, o, none⟩ = (#[Value.int .i64 k, Value.int .i64 op, Value.int .i64 cl, Value.int .i64 st, Value.int .i64 sp, Value.int .i64 ex, Value.int .i64 la, Value.int .i64 fl, Value.int .i64 fa, Value.int .i64 co, Value.int .i64 ru, Value.bool true, Value.int .i64 rb, Value.int .i64 rp, Value.int .i64 rt] : Array Value)[o]?) (hfz : ∀ o, w.frozen? ⟨g, o, none⟩ = false) : Calls Try.prog 38 #[.pointer (some ⟨g, 0, none⟩), .int .i64 tk] w fun e w' => e = .returned (.tuple #[.int .i64 0, .bool false]) ∧ Below w.heap.size w w' := by
  go_enter Try.func38, Try.ntmps38
  go_wp2
  go_ret2
  exact ⟨rfl, by (focus repeat' (first | (with_reducible exact Below.refl _ _) | (with_reducible assumption) | (with_reducible refine Below.alloc ?_ ?_ _) | (with_reducible refine Below.drew ?_) | (with_reducible refine bdrewN ?_ _) | (with_reducible refine Below.setCell ?_ ?_ _) | (first | (with_reducible exact Nat.le_refl _) | (with_reducible assumption) | omega | (simp; omega) | (simp; done))))⟩

set_option maxHeartbeats 1000000 in
theorem rAt_time (k op cl st sp ex la fl fa co ru rb rp rt tk : Int) (g : Nat) (w : World) (hg : g < w.heap.size) (hc : ∀ o, w.cell? ⟨g, o, none⟩ = (#[Value.int .i64 k, Value.int .i64 op, Value.int .i64 cl, Value.int .i64 st, Value.int .i64 sp, Value.int .i64 ex, Value.int .i64 la, Value.int .i64 fl, Value.int .i64 fa, Value.int .i64 co, Value.int .i64 ru, Value.bool false, Value.int .i64 rb, Value.int .i64 rp, Value.int .i64 rt] : Array Value)[o]?) (hfz : ∀ o, w.frozen? ⟨g, o, none⟩ = false) (r : tk < op ∨ cl ≤ tk) : Calls Try.prog 38 #[.pointer (some ⟨g, 0, none⟩), .int .i64 tk] w fun e w' => e = .returned (.tuple #[.int .i64 0, .bool false]) ∧ Below w.heap.size w w' := by
  go_enter Try.func38, Try.ntmps38
  go_wp2_with fail
  (apply Calls.mono; focus ((apply rruns_no <;> (first | (with_reducible assumption) | (with_reducible rfl) | omega)); done)); rintro e w1 ⟨rfl, hb1⟩
  have HB1 : Below w.heap.size w w1 := bstep (by (focus repeat' (first | (with_reducible exact Below.refl _ _) | (with_reducible assumption) | (with_reducible refine Below.alloc ?_ ?_ _) | (with_reducible refine Below.drew ?_) | (with_reducible refine bdrewN ?_ _) | (with_reducible refine Below.setCell ?_ ?_ _) | (first | (with_reducible exact Nat.le_refl _) | (with_reducible assumption) | omega | (simp; omega) | (simp; done))))) hb1
  have hz1 := hb1.size
  have hg1 : g < w1.heap.size := by omega
  have HC1 : ∀ o, w1.cell? ⟨g, o, none⟩ = (#[Value.int .i64 k, Value.int .i64 op, Value.int .i64 cl, Value.int .i64 st, Value.int .i64 sp, Value.int .i64 ex, Value.int .i64 la, Value.int .i64 fl, Value.int .i64 fa, Value.int .i64 co, Value.int .i64 ru, Value.bool false, Value.int .i64 rb, Value.int .i64 rp, Value.int .i64 rt] : Array Value)[o]? := fun o => (hb1.cell (p := ⟨g, o, none⟩) (by omega)).trans (by simp [go_sem, *])
  have HF1 : ∀ o, w1.frozen? ⟨g, o, none⟩ = false := fun o => (hb1.frozen (p := ⟨g, o, none⟩) (by omega)).trans (by simp [go_sem, *])
  go_wp2
  go_ret2
  exact ⟨rfl, by (focus repeat' (first | (with_reducible exact Below.refl _ _) | (with_reducible assumption) | (with_reducible refine Below.alloc ?_ ?_ _) | (with_reducible refine Below.drew ?_) | (with_reducible refine bdrewN ?_ _) | (with_reducible refine Below.setCell ?_ ?_ _) | (first | (with_reducible exact Nat.le_refl _) | (with_reducible assumption) | omega | (simp; omega) | (simp; done))))⟩

set_option maxHeartbeats 1000000 in
theorem rAt_ok (k op cl st sp ex la fl fa co ru rb rp rt tk : Int) (g : Nat) (w : World) (h : LotOK k op cl st sp ex la fl fa co ru) (hg : g < w.heap.size) (hc : ∀ o, w.cell? ⟨g, o, none⟩ = (#[Value.int .i64 k, Value.int .i64 op, Value.int .i64 cl, Value.int .i64 st, Value.int .i64 sp, Value.int .i64 ex, Value.int .i64 la, Value.int .i64 fl, Value.int .i64 fa, Value.int .i64 co, Value.int .i64 ru, Value.bool false, Value.int .i64 rb, Value.int .i64 rp, Value.int .i64 rt] : Array Value)[o]?) (hfz : ∀ o, w.frozen? ⟨g, o, none⟩ = false) (r1 : op ≤ tk) (r2 : tk < cl) : Calls Try.prog 38 #[.pointer (some ⟨g, 0, none⟩), .int .i64 tk] w fun e w' => e = .returned (.tuple #[.int .i64 (priceI op st fl fa tk), .bool true]) ∧ Below w.heap.size w w' := by
  have q := bnd k op cl st sp ex la fl fa co ru h
  have hm : tk ≤ 1099511627776 := by omega
  go_enter Try.func38, Try.ntmps38
  go_wp2_with fail
  (apply Calls.mono; focus ((apply rruns_yes <;> (first | (with_reducible assumption) | (with_reducible rfl) | omega)); done)); rintro e w1 ⟨rfl, hb1⟩
  have HB1 : Below w.heap.size w w1 := bstep (by (focus repeat' (first | (with_reducible exact Below.refl _ _) | (with_reducible assumption) | (with_reducible refine Below.alloc ?_ ?_ _) | (with_reducible refine Below.drew ?_) | (with_reducible refine bdrewN ?_ _) | (with_reducible refine Below.setCell ?_ ?_ _) | (first | (with_reducible exact Nat.le_refl _) | (with_reducible assumption) | omega | (simp; omega) | (simp; done))))) hb1
  have hz1 := hb1.size
  have hg1 : g < w1.heap.size := by omega
  have HC1 : ∀ o, w1.cell? ⟨g, o, none⟩ = (#[Value.int .i64 k, Value.int .i64 op, Value.int .i64 cl, Value.int .i64 st, Value.int .i64 sp, Value.int .i64 ex, Value.int .i64 la, Value.int .i64 fl, Value.int .i64 fa, Value.int .i64 co, Value.int .i64 ru, Value.bool false, Value.int .i64 rb, Value.int .i64 rp, Value.int .i64 rt] : Array Value)[o]? := fun o => (hb1.cell (p := ⟨g, o, none⟩) (by omega)).trans (by simp [go_sem, *])
  have HF1 : ∀ o, w1.frozen? ⟨g, o, none⟩ = false := fun o => (hb1.frozen (p := ⟨g, o, none⟩) (by omega)).trans (by simp [go_sem, *])
  go_wp2_with fail
  (apply Calls.mono; focus ((apply rprice_any <;> (first | (with_reducible assumption) | (with_reducible rfl) | omega)); done)); rintro e w2 ⟨rfl, hb2⟩
  have HB2 : Below w.heap.size w w2 := bstep (by (focus repeat' (first | (with_reducible exact Below.refl _ _) | (with_reducible assumption) | (with_reducible refine Below.alloc ?_ ?_ _) | (with_reducible refine Below.drew ?_) | (with_reducible refine bdrewN ?_ _) | (with_reducible refine Below.setCell ?_ ?_ _) | (first | (with_reducible exact Nat.le_refl _) | (with_reducible assumption) | omega | (simp; omega) | (simp; done))))) hb2
  have hz2 := hb2.size
  have hg2 : g < w2.heap.size := by omega
  have HC2 : ∀ o, w2.cell? ⟨g, o, none⟩ = (#[Value.int .i64 k, Value.int .i64 op, Value.int .i64 cl, Value.int .i64 st, Value.int .i64 sp, Value.int .i64 ex, Value.int .i64 la, Value.int .i64 fl, Value.int .i64 fa, Value.int .i64 co, Value.int .i64 ru, Value.bool false, Value.int .i64 rb, Value.int .i64 rp, Value.int .i64 rt] : Array Value)[o]? := fun o => (hb2.cell (p := ⟨g, o, none⟩) (by omega)).trans (by simp [go_sem, *])
  have HF2 : ∀ o, w2.frozen? ⟨g, o, none⟩ = false := fun o => (hb2.frozen (p := ⟨g, o, none⟩) (by omega)).trans (by simp [go_sem, *])
  go_wp2
  go_ret2
  exact ⟨rfl, by (focus repeat' (first | (with_reducible exact Below.refl _ _) | (with_reducible assumption) | (with_reducible refine Below.alloc ?_ ?_ _) | (with_reducible refine Below.drew ?_) | (with_reducible refine bdrewN ?_ _) | (with_reducible refine Below.setCell ?_ ?_ _) | (first | (with_reducible exact Nat.le_refl _) | (with_reducible assumption) | omega | (simp; omega) | (simp; done))))⟩

set_option maxHeartbeats 1000000 in
theorem rCopy_nil  (w : World) : Calls Try.prog 22 #[.pointer none] w fun e w' => e = .returned (.pointer none) ∧ Below w.heap.size w w' := by
  go_enter Try.func22, Try.ntmps22
  go_wp2
  go_ret
  exact ⟨rfl, by (focus repeat' (first | (with_reducible exact Below.refl _ _) | (with_reducible assumption) | (with_reducible refine Below.alloc ?_ ?_ _) | (with_reducible refine Below.drew ?_) | (with_reducible refine bdrewN ?_ _) | (with_reducible refine Below.setCell ?_ ?_ _) | (first | (with_reducible exact Nat.le_refl _) | (with_reducible assumption) | omega | (simp; omega) | (simp; done))))⟩

def rCopyPost (k op cl st sp ex la fl fa co ru : Int) (rs : Bool) (rb rp rt : Int) (w : World) (e : Ending) (w' : World) : Prop := ∃ g, e = .returned (.pointer (some ⟨g, 0, none⟩)) ∧ w.heap.size ≤ g ∧ Below w.heap.size w w' ∧ (g < w'.heap.size ∧ (∀ o, w'.cell? ⟨g, o, none⟩ = (#[Value.int .i64 k, Value.int .i64 op, Value.int .i64 cl, Value.int .i64 st, Value.int .i64 sp, Value.int .i64 ex, Value.int .i64 la, Value.int .i64 fl, Value.int .i64 fa, Value.int .i64 co, Value.int .i64 ru, Value.bool rs, Value.int .i64 rb, Value.int .i64 rp, Value.int .i64 rt] : Array Value)[o]?) ∧ ∀ o, w'.frozen? ⟨g, o, none⟩ = false)

set_option maxHeartbeats 2000000 in
theorem rCopy_obj (k op cl st sp ex la fl fa co ru : Int) (rs : Bool) (rb rp rt : Int) (g : Nat) (w : World) (hg : g < w.heap.size) (hc : ∀ o, w.cell? ⟨g, o, none⟩ = (#[Value.int .i64 k, Value.int .i64 op, Value.int .i64 cl, Value.int .i64 st, Value.int .i64 sp, Value.int .i64 ex, Value.int .i64 la, Value.int .i64 fl, Value.int .i64 fa, Value.int .i64 co, Value.int .i64 ru, Value.bool rs, Value.int .i64 rb, Value.int .i64 rp, Value.int .i64 rt] : Array Value)[o]?) (hfz : ∀ o, w.frozen? ⟨g, o, none⟩ = false) : Calls Try.prog 22 #[.pointer (some ⟨g, 0, none⟩)] w (rCopyPost k op cl st sp ex la fl fa co ru rs rb rp rt w) := by
  go_enter Try.func22, Try.ntmps22
  go_wp2
  go_ret
  exact ⟨w.heap.size, rfl, Nat.le_refl _, by (focus repeat' (first | (with_reducible exact Below.refl _ _) | (with_reducible assumption) | (with_reducible refine Below.alloc ?_ ?_ _) | (with_reducible refine Below.drew ?_) | (with_reducible refine bdrewN ?_ _) | (with_reducible refine Below.setCell ?_ ?_ _) | (first | (with_reducible exact Nat.le_refl _) | (with_reducible assumption) | omega | (simp; omega) | (simp; done)))), by simp, by (intro o; (first | (simp [go_sem, *]; done) | (rcases o with _ | _ | _ | _ | _ | _ | _ | _ | _ | _ | _ | _ | _ | _ | _ | o <;> (simp [go_sem, *]; done)))), by (intro o; simp [go_sem])⟩
end Go.Proofs.Ytiopohdhadilfaa
