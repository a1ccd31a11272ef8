import Derived.Test.YtiopohdhadilfaaTc
namespace Go.Proofs.Ytiopohdhadilfaa
open Go.ChangeShapes Go.WideShapes Go.ChangeAt Go.RowKit Go.Deep
set_option linter.unusedSimpArgs false
set_option linter.unusedVariables false

set_option maxHeartbeats 1000000 in
theorem Sold_no (k op cl st sp ex la fl fa co ru : Int) (g : Nat) (w : World) (h : LotOK k op cl st sp ex la fl fa co ru) (hg : g < w.heap.size) (hc : ∀ o, w.cell? ⟨g, o, none⟩ = (#[Value.int .i64 k, Value.int .i64 op, Value.int .i64 cl, Value.int .i64 st, Value.int .i64 sp, Value.int .i64 ex, Value.int .i64 la, Value.int .i64 fl, Value.int .i64 fa, Value.int .i64 co, Value.int .i64 ru, Value.pointer none] : Array Value)[o]?) (hfz : ∀ o, w.frozen? ⟨g, o, none⟩ = false) : Calls Try.prog 24 #[.pointer (some ⟨g, 0, none⟩)] w fun e w' => e = .returned (.tuple #[.int .i64 0, .int .i64 0, .int .i64 0, .bool false]) ∧ Below w.heap.size w w' := by
  have hk : k = 2 := h.1
  subst hk
  go_enter Try.func24, Try.ntmps24
  go_wp2_with (go_at_call 33; go_in)
  refine bodyPost_ret (results_tmp4 rfl _ _ _) rfl ?_
  exact ⟨rfl, by (focus repeat' (first | (with_reducible exact Below.refl _ _) | (with_reducible assumption) | (with_reducible refine Below.alloc ?_ ?_ _) | (with_reducible refine Below.drew ?_) | (with_reducible refine bdrewN ?_ _) | (with_reducible refine Below.setCell ?_ ?_ _) | (first | (with_reducible exact Nat.le_refl _) | (with_reducible assumption) | omega | (simp; omega) | (simp; done))))⟩

set_option maxHeartbeats 1000000 in
theorem Sold_yes (k op cl st sp ex la fl fa co ru bd pr tk : Int) (g a : Nat) (w : World) (h : LotOK k op cl st sp ex la fl fa co ru) (hg : g < w.heap.size) (hc : ∀ o, w.cell? ⟨g, o, none⟩ = (#[Value.int .i64 k, Value.int .i64 op, Value.int .i64 cl, Value.int .i64 st, Value.int .i64 sp, Value.int .i64 ex, Value.int .i64 la, Value.int .i64 fl, Value.int .i64 fa, Value.int .i64 co, Value.int .i64 ru, Value.pointer (some ⟨a, 0, none⟩)] : Array Value)[o]?) (hfz : ∀ o, w.frozen? ⟨g, o, none⟩ = false) (ca : ∀ o, w.cell? ⟨a, o, none⟩ = (#[Value.int .i64 bd, Value.int .i64 pr, Value.int .i64 tk] : Array Value)[o]?) : Calls Try.prog 24 #[.pointer (some ⟨g, 0, none⟩)] w fun e w' => e = .returned (.tuple #[.int .i64 bd, .int .i64 pr, .int .i64 tk, .bool true]) ∧ Below w.heap.size w w' := by
  have hk : k = 2 := h.1
  subst hk
  go_enter Try.func24, Try.ntmps24
  go_wp2_with (go_at_call 33; go_in)
  go_quiet (fail)
  go_wp2
  refine bodyPost_ret (results_tmp4 rfl _ _ _) rfl ?_
  exact ⟨rfl, by (focus repeat' (first | (with_reducible exact Below.refl _ _) | (with_reducible assumption) | (with_reducible refine Below.alloc ?_ ?_ _) | (with_reducible refine Below.drew ?_) | (with_reducible refine bdrewN ?_ _) | (with_reducible refine Below.setCell ?_ ?_ _) | (first | (with_reducible exact Nat.le_refl _) | (with_reducible assumption) | omega | (simp; omega) | (simp; done))))⟩

set_option maxHeartbeats 1000000 in
theorem At_sold (k op cl st sp ex la fl fa co ru tk : Int) (g a : Nat) (w : World) (h : LotOK k op cl st sp ex la fl fa co ru) (hg : g < w.heap.size) (hc : ∀ o, w.cell? ⟨g, o, none⟩ = (#[Value.int .i64 k, Value.int .i64 op, Value.int .i64 cl, Value.int .i64 st, Value.int .i64 sp, Value.int .i64 ex, Value.int .i64 la, Value.int .i64 fl, Value.int .i64 fa, Value.int .i64 co, Value.int .i64 ru, Value.pointer (some ⟨a, 0, none⟩)] : Array Value)[o]?) (hfz : ∀ o, w.frozen? ⟨g, o, none⟩ = false) : Calls Try.prog 25 #[.pointer (some ⟨g, 0, none⟩), .int .i64 tk] w fun e w' => e = .returned (.tuple #[.int .i64 0, .bool false]) ∧ Below w.heap.size w w' := by
  have hk : k = 2 := h.1
  subst hk
  go_enter Try.func25, Try.ntmps25
  go_wp2_with (go_at_call 33; go_in)
  go_ret2
  exact ⟨rfl, by (focus repeat' (first | (with_reducible exact Below.refl _ _) | (with_reducible assumption) | (with_reducible refine Below.alloc ?_ ?_ _) | (with_reducible refine Below.drew ?_) | (with_reducible refine bdrewN ?_ _) | (with_reducible refine Below.setCell ?_ ?_ _) | (first | (with_reducible exact Nat.le_refl _) | (with_reducible assumption) | omega | (simp; omega) | (simp; done))))⟩

set_option maxHeartbeats 1000000 in
theorem At_time (k op cl st sp ex la fl fa co ru tk : Int) (g : Nat) (w : World) (h : LotOK k op cl st sp ex la fl fa co ru) (hg : g < w.heap.size) (hc : ∀ o, w.cell? ⟨g, o, none⟩ = (#[Value.int .i64 k, Value.int .i64 op, Value.int .i64 cl, Value.int .i64 st, Value.int .i64 sp, Value.int .i64 ex, Value.int .i64 la, Value.int .i64 fl, Value.int .i64 fa, Value.int .i64 co, Value.int .i64 ru, Value.pointer none] : Array Value)[o]?) (hfz : ∀ o, w.frozen? ⟨g, o, none⟩ = false) (r : tk < op ∨ cl ≤ tk) : Calls Try.prog 25 #[.pointer (some ⟨g, 0, none⟩), .int .i64 tk] w fun e w' => e = .returned (.tuple #[.int .i64 0, .bool false]) ∧ Below w.heap.size w w' := by
  have hk : k = 2 := h.1
  subst hk
  go_enter Try.func25, Try.ntmps25
  go_wp2_with (go_at_call 33; go_in)
  (apply Calls.mono; focus ((apply runs_no <;> (first | (with_reducible assumption) | (with_reducible rfl) | omega)); done)); rintro e w1 ⟨rfl, hb1⟩
  have HB1 : Below w.heap.size w w1 := bstep (by (focus repeat' (first | (with_reducible exact Below.refl _ _) | (with_reducible assumption) | (with_reducible refine Below.alloc ?_ ?_ _) | (with_reducible refine Below.drew ?_) | (with_reducible refine bdrewN ?_ _) | (with_reducible refine Below.setCell ?_ ?_ _) | (first | (with_reducible exact Nat.le_refl _) | (with_reducible assumption) | omega | (simp; omega) | (simp; done))))) hb1
  have hz1 := hb1.size
  have hg1 : g < w1.heap.size := by omega
  have HC1 : ∀ o, w1.cell? ⟨g, o, none⟩ = (#[Value.int .i64 2, Value.int .i64 op, Value.int .i64 cl, Value.int .i64 st, Value.int .i64 sp, Value.int .i64 ex, Value.int .i64 la, Value.int .i64 fl, Value.int .i64 fa, Value.int .i64 co, Value.int .i64 ru, Value.pointer none] : Array Value)[o]? := fun o => (hb1.cell (p := ⟨g, o, none⟩) (by omega)).trans (by simp [go_sem, *])
  go_wp2
  go_ret2
  exact ⟨rfl, by (focus repeat' (first | (with_reducible exact Below.refl _ _) | (with_reducible assumption) | (with_reducible refine Below.alloc ?_ ?_ _) | (with_reducible refine Below.drew ?_) | (with_reducible refine bdrewN ?_ _) | (with_reducible refine Below.setCell ?_ ?_ _) | (first | (with_reducible exact Nat.le_refl _) | (with_reducible assumption) | omega | (simp; omega) | (simp; done))))⟩

set_option maxHeartbeats 1000000 in
theorem At_ok (k op cl st sp ex la fl fa co ru tk : Int) (g : Nat) (w : World) (h : LotOK k op cl st sp ex la fl fa co ru) (hg : g < w.heap.size) (hc : ∀ o, w.cell? ⟨g, o, none⟩ = (#[Value.int .i64 k, Value.int .i64 op, Value.int .i64 cl, Value.int .i64 st, Value.int .i64 sp, Value.int .i64 ex, Value.int .i64 la, Value.int .i64 fl, Value.int .i64 fa, Value.int .i64 co, Value.int .i64 ru, Value.pointer none] : Array Value)[o]?) (hfz : ∀ o, w.frozen? ⟨g, o, none⟩ = false) (r1 : op ≤ tk) (r2 : tk < cl) : Calls Try.prog 25 #[.pointer (some ⟨g, 0, none⟩), .int .i64 tk] w fun e w' => e = .returned (.tuple #[.int .i64 (priceI op st fl fa tk), .bool true]) ∧ Below w.heap.size w w' := by
  have hk : k = 2 := h.1
  subst hk
  have q := bnd 2 op cl st sp ex la fl fa co ru h
  have hm : tk ≤ 1099511627776 := by omega
  go_enter Try.func25, Try.ntmps25
  go_wp2_with (go_at_call 33; go_in)
  (apply Calls.mono; focus ((apply runs_yes <;> (first | (with_reducible assumption) | (with_reducible rfl) | omega)); done)); rintro e w1 ⟨rfl, hb1⟩
  have HB1 : Below w.heap.size w w1 := bstep (by (focus repeat' (first | (with_reducible exact Below.refl _ _) | (with_reducible assumption) | (with_reducible refine Below.alloc ?_ ?_ _) | (with_reducible refine Below.drew ?_) | (with_reducible refine bdrewN ?_ _) | (with_reducible refine Below.setCell ?_ ?_ _) | (first | (with_reducible exact Nat.le_refl _) | (with_reducible assumption) | omega | (simp; omega) | (simp; done))))) hb1
  have hz1 := hb1.size
  have hg1 : g < w1.heap.size := by omega
  have HC1 : ∀ o, w1.cell? ⟨g, o, none⟩ = (#[Value.int .i64 2, Value.int .i64 op, Value.int .i64 cl, Value.int .i64 st, Value.int .i64 sp, Value.int .i64 ex, Value.int .i64 la, Value.int .i64 fl, Value.int .i64 fa, Value.int .i64 co, Value.int .i64 ru, Value.pointer none] : Array Value)[o]? := fun o => (hb1.cell (p := ⟨g, o, none⟩) (by omega)).trans (by simp [go_sem, *])
  go_wp2_with fail
  (apply Calls.mono; focus ((apply price_any <;> (first | (with_reducible assumption) | (with_reducible rfl) | omega)); done)); rintro e w2 ⟨rfl, hb2⟩
  have HB2 : Below w.heap.size w w2 := bstep (by (focus repeat' (first | (with_reducible exact Below.refl _ _) | (with_reducible assumption) | (with_reducible refine Below.alloc ?_ ?_ _) | (with_reducible refine Below.drew ?_) | (with_reducible refine bdrewN ?_ _) | (with_reducible refine Below.setCell ?_ ?_ _) | (first | (with_reducible exact Nat.le_refl _) | (with_reducible assumption) | omega | (simp; omega) | (simp; done))))) hb2
  have hz2 := hb2.size
  have hg2 : g < w2.heap.size := by omega
  have HC2 : ∀ o, w2.cell? ⟨g, o, none⟩ = (#[Value.int .i64 2, Value.int .i64 op, Value.int .i64 cl, Value.int .i64 st, Value.int .i64 sp, Value.int .i64 ex, Value.int .i64 la, Value.int .i64 fl, Value.int .i64 fa, Value.int .i64 co, Value.int .i64 ru, Value.pointer none] : Array Value)[o]? := fun o => (hb2.cell (p := ⟨g, o, none⟩) (by omega)).trans (by simp [go_sem, *])
  go_wp2
  go_ret2
  exact ⟨rfl, by (focus repeat' (first | (with_reducible exact Below.refl _ _) | (with_reducible assumption) | (with_reducible refine Below.alloc ?_ ?_ _) | (with_reducible refine Below.drew ?_) | (with_reducible refine bdrewN ?_ _) | (with_reducible refine Below.setCell ?_ ?_ _) | (first | (with_reducible exact Nat.le_refl _) | (with_reducible assumption) | omega | (simp; omega) | (simp; done))))⟩

/-- a copy of a lot -/
def CopyPost (k op cl st sp ex la fl fa co ru : Int) (s : Option Addr) (w : World) (e : Ending) (w' : World) : Prop := ∃ g, e = .returned (.pointer (some ⟨g, 0, none⟩)) ∧ w.heap.size ≤ g ∧ Below w.heap.size w w' ∧ (g < w'.heap.size ∧ (∀ o, w'.cell? ⟨g, o, none⟩ = (#[Value.int .i64 k, Value.int .i64 op, Value.int .i64 cl, Value.int .i64 st, Value.int .i64 sp, Value.int .i64 ex, Value.int .i64 la, Value.int .i64 fl, Value.int .i64 fa, Value.int .i64 co, Value.int .i64 ru, Value.pointer s] : Array Value)[o]?) ∧ ∀ o, w'.frozen? ⟨g, o, none⟩ = false)

set_option maxHeartbeats 2000000 in
theorem Copy_obj (k op cl st sp ex la fl fa co ru : Int) (g : Nat) (s : Option Addr) (w : World) (h : LotOK k op cl st sp ex la fl fa co ru) (hg : g < w.heap.size) (hc : ∀ o, w.cell? ⟨g, o, none⟩ = (#[Value.int .i64 k, Value.int .i64 op, Value.int .i64 cl, Value.int .i64 st, Value.int .i64 sp, Value.int .i64 ex, Value.int .i64 la, Value.int .i64 fl, Value.int .i64 fa, Value.int .i64 co, Value.int .i64 ru, Value.pointer s] : Array Value)[o]?) (hfz : ∀ o, w.frozen? ⟨g, o, none⟩ = false) : Calls Try.prog 21 #[.pointer (some ⟨g, 0, none⟩)] w (CopyPost k op cl st sp ex la fl fa co ru s w) := by
  have hk : k = 2 := h.1
  subst hk
  go_enter Try.func21, Try.ntmps21
  go_wp2_with (go_at_call 33; go_in)
  go_ret
  exact ⟨w.heap.size, rfl, Nat.le_refl _, by (focus repeat' (first | (with_reducible exact Below.refl _ _) | (with_reducible assumption) | (with_reducible refine Below.alloc ?_ ?_ _) | (with_reducible refine Below.drew ?_) | (with_reducible refine bdrewN ?_ _) | (with_reducible refine Below.setCell ?_ ?_ _) | (first | (with_reducible exact Nat.le_refl _) | (with_reducible assumption) | omega | (simp; omega) | (simp; done)))), by simp, by (intro o; (first | (simp [go_sem, *]; done) | (rcases o with _ | _ | _ | _ | _ | _ | _ | _ | _ | _ | _ | _ | o <;> (simp [go_sem, *]; done)))), by (intro o; simp [go_sem])⟩
end Go.Proofs.Ytiopohdhadilfaa
