import Derived.Test.YtiopohdhadilfaaT8
namespace Go.Proofs.Ytiopohdhadilfaa
open Go.ChangeShapes Go.WideShapes Go.ChangeAt Go.RowKit Go.Deep
set_option linter.unusedSimpArgs false
set_option linter.unusedVariables false

/-- but for block g (and what is new) the world is as it was -/
structure Only (g : Nat) (w w' : World) : Prop where
  os : w'.os = w.os
  tape : w'.tape = w.tape
  output : w'.output = w.output
  size : w.heap.size ≤ w'.heap.size
  block : ∀ i, i < w.heap.size → i ≠ g → w'.heap[i]? = w.heap[i]?
theorem Only.below {g B : Nat} {w0 w w' : World} (h : Below B w0 w) (k : Only g w w') (hg : B ≤ g) (hB : B ≤ w.heap.size) : Below B w0 w' :=
  ⟨k.os.trans h.os, k.tape.trans h.tape, k.output.trans h.output, Nat.le_trans h.size k.size, fun i hi => (k.block i (by omega) (by omega)).trans (h.block i hi)⟩
theorem Only.of_below {g : Nat} {w w' : World} (h : Below w.heap.size w w') : Only g w w' := ⟨h.os, h.tape, h.output, h.size, fun i hi _ => h.block i hi⟩
theorem Only.setCell {g : Nat} {a w : World} (h : Only g a w) {p : Addr} (hp : p.block = g ∨ a.heap.size ≤ p.block) (u : Value) : Only g a (w.setCell p u) :=
  ⟨h.os, h.tape, h.output, by simpa [World.setCell] using h.size, fun i hi hne => (Below.heap_setCell w p u i (by rcases hp with hp | hp <;> omega)).trans (h.block i hi hne)⟩
theorem Only.alloc {g : Nat} {a w : World} (h : Only g a w) (o : Obj) : Only g a (w.alloc o) :=
  ⟨h.os, h.tape, h.output, Nat.le_trans h.size (by simp), fun i hi hne => (Below.heap_alloc w o i (Nat.lt_of_lt_of_le hi h.size)).trans (h.block i hi hne)⟩
theorem Only.drew {g : Nat} {a w : World} (h : Only g a w) : Only g a w.drew := ⟨h.os, h.tape, h.output, h.size, h.block⟩
theorem Only.cell {g : Nat} {w w' : World} (h : Only g w w') {p : Addr} (hp : p.block < w.heap.size) (hne : p.block ≠ g) : w'.cell? p = w.cell? p := World.cell?_of_block (w := w) (h.block p.block hp hne)
theorem Only.frozen {g : Nat} {w w' : World} (h : Only g w w') {p : Addr} (hp : p.block < w.heap.size) (hne : p.block ≠ g) : w'.frozen? p = w.frozen? p := World.frozen?_of_block (w := w) (h.block p.block hp hne)

set_option maxHeartbeats 2000000 in
theorem Bid_A (k op cl st sp ex la fl fa co ru bd tk co2 fr : Int) (g : Nat) (s : Option Addr) (w : World) (h : LotOK k op cl st sp ex la fl fa co ru) (hg : g < w.heap.size) (hc : ∀ o, w.cell? ⟨g, o, none⟩ = (#[Value.int .i64 k, Value.int .i64 op, Value.int .i64 cl, Value.int .i64 st, Value.int .i64 sp, Value.int .i64 ex, Value.int .i64 la, Value.int .i64 fl, Value.int .i64 fa, Value.int .i64 co, Value.int .i64 ru, Value.pointer s] : Array Value)[o]?) (hfz : ∀ o, w.frozen? ⟨g, o, none⟩ = false) (q : bd < 0 ∨ tk < 0 ∨ 1099511627776 < tk ∨ co2 < 0 ∨ 1099511627776 < co2 ∨ fr < 0 ∨ 1099511627776 < fr) : Calls Try.prog 16 #[.pointer (some ⟨g, 0, none⟩), .int .i64 bd, .int .i64 tk, .int .i64 co2, .int .i64 fr] w fun e w' => e = .returned (.tuple #[.int .i64 0, .int .i64 2]) ∧ Below w.heap.size w w' := by
  have hk : k = 2 := h.1
  subst hk
  have q' : bd < 0 ∨ (0 ≤ bd ∧ tk < 0) ∨ (0 ≤ bd ∧ 0 ≤ tk ∧ 1099511627776 < tk) ∨ (0 ≤ bd ∧ 0 ≤ tk ∧ tk ≤ 1099511627776 ∧ co2 < 0) ∨ (0 ≤ bd ∧ 0 ≤ tk ∧ tk ≤ 1099511627776 ∧ 0 ≤ co2 ∧ 1099511627776 < co2) ∨ (0 ≤ bd ∧ 0 ≤ tk ∧ tk ≤ 1099511627776 ∧ 0 ≤ co2 ∧ co2 ≤ 1099511627776 ∧ fr < 0) ∨ (0 ≤ bd ∧ 0 ≤ tk ∧ tk ≤ 1099511627776 ∧ 0 ≤ co2 ∧ co2 ≤ 1099511627776 ∧ 0 ≤ fr ∧ 1099511627776 < fr) := by omega
  clear q
  rcases q' with q | ⟨u1, q⟩ | ⟨u1, u2, q⟩ | ⟨u1, u2, u3, q⟩ | ⟨u1, u2, u3, u4, q⟩ | ⟨u1, u2, u3, u4, u5, q⟩ | ⟨u1, u2, u3, u4, u5, u6, q⟩
  all_goals
    try have hd : decide (fr ≤ 1099511627776) = false := by (rw [decide_eq_false_iff_not]; omega)
    go_enter Try.func16, Try.ntmps16
    go_wp2
    go_ret2
    exact ⟨rfl, by (focus repeat' (first | (with_reducible exact Below.refl _ _) | (with_reducible assumption) | (with_reducible refine Below.alloc ?_ ?_ _) | (with_reducible refine Below.drew ?_) | (with_reducible refine bdrewN ?_ _) | (with_reducible refine Below.setCell ?_ ?_ _) | (first | (with_reducible exact Nat.le_refl _) | (with_reducible assumption) | omega | (simp; omega) | (simp; done))))⟩
end Go.Proofs.Ytiopohdhadilfaa
