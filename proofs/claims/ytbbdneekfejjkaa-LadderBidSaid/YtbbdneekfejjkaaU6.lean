import Derived.Test.YtbbdneekfejjkaaU3
import Derived.Test.YtbbdneekfejjkaaU1
import Derived.Deep.DeepCutAuto
namespace Go.Proofs.Ytbbdneekfejjkaa
open Go.ChangeShapes Go.WideShapes Go.ChangeAt Go.RowKit
set_option linter.unusedSimpArgs false
set_option linter.unusedVariables false

set_option maxRecDepth 100000 in
set_option maxHeartbeats 4000000 in
theorem LadderBid_5 (k op cl st sp ex la fl fa co ru ld li pr rc bd bl bf bn : Int) (w : World) (hL : LotOK k op cl st sp ex la fl fa co ru) (hR : RiseOK st cl la ld li pr rc) (hf : bf ≤ 9223372036854775807) (he : bidErr op st sp ld li pr rc bd bl bf bn ≠ 0) (hb : 0 ≤ bd) (hl : ld < 0) : Calls Try.prog 4 #[.agg #[.int .i64 k, .int .i64 op, .int .i64 cl, .int .i64 st, .int .i64 sp, .int .i64 ex, .int .i64 la, .int .i64 fl, .int .i64 fa, .int .i64 co, .int .i64 ru], .agg #[.int .i64 ld, .int .i64 li, .int .i64 pr, .int .i64 rc], .agg #[.int .i64 bd, .int .i64 bl, .int .i64 bf, .int .i64 bn]] w fun e w' => e = .returned (.bool true) ∧ Below w.heap.size w w' := by
  go_enter Try.func4, Try.ntmps4
  go_wp2_with fail
  (apply Calls.mono; focus ((apply begin_ok <;> (first | (with_reducible assumption) | (with_reducible rfl) | omega)); done)); rintro e w1 ⟨rfl, hb1⟩
  have HB1 : Below w.heap.size w w1 := bstep (by (focus repeat' (first | (with_reducible exact Below.refl _ _) | (with_reducible assumption) | (with_reducible refine Below.alloc ?_ ?_ _) | (with_reducible refine Below.drew ?_) | (with_reducible refine Below.setCell ?_ ?_ _) | (first | (with_reducible exact Nat.le_refl _) | (with_reducible assumption) | omega | (simp; omega) | (simp; done))))) hb1
  have hz1 := hb1.size
  (try simp only [World.size_drew, World.size_alloc] at hz1)
  have hz1_0 : w.heap.size < w1.heap.size := by omega
  have hz1_1 : w.heap.size + 1 < w1.heap.size := by omega
  have hz1_2 : w.heap.size + 2 < w1.heap.size := by omega
  have HC1_0 : ∀ o, w1.cell? ⟨w.heap.size, o, none⟩ = (#[Value.int .i64 k, Value.int .i64 op, Value.int .i64 cl, Value.int .i64 st, Value.int .i64 sp, Value.int .i64 ex, Value.int .i64 la, Value.int .i64 fl, Value.int .i64 fa, Value.int .i64 co, Value.int .i64 ru] : Array Value)[o]? := fun o => (hb1.cell (p := ⟨w.heap.size, o, none⟩) (by first | (simp; done) | omega | (simp; omega))).trans (by simp [go_sem, *])
  have HC1_1 : ∀ o, w1.cell? ⟨w.heap.size + 1, o, none⟩ = (#[Value.int .i64 ld, Value.int .i64 li, Value.int .i64 pr, Value.int .i64 rc] : Array Value)[o]? := fun o => (hb1.cell (p := ⟨w.heap.size + 1, o, none⟩) (by first | (simp; done) | omega | (simp; omega))).trans (by simp [go_sem, *])
  have HC1_2 : ∀ o, w1.cell? ⟨w.heap.size + 2, o, none⟩ = (#[Value.int .i64 bd, Value.int .i64 bl, Value.int .i64 bf, Value.int .i64 bn] : Array Value)[o]? := fun o => (hb1.cell (p := ⟨w.heap.size + 2, o, none⟩) (by first | (simp; done) | omega | (simp; omega))).trans (by simp [go_sem, *])
  clear hb1 hz1
  go_wp2_with fail
  (apply Calls.mono; focus ((apply rbegin_ok <;> (first | (with_reducible assumption) | (with_reducible rfl) | omega)); done)); rintro e w2 ⟨rfl, hb2⟩
  have HB2 : Below w.heap.size w w2 := bstep (by (focus repeat' (first | (with_reducible exact Below.refl _ _) | (with_reducible assumption) | (with_reducible refine Below.alloc ?_ ?_ _) | (with_reducible refine Below.drew ?_) | (with_reducible refine Below.setCell ?_ ?_ _) | (first | (with_reducible exact Nat.le_refl _) | (with_reducible assumption) | omega | (simp; omega) | (simp; done))))) hb2
  have hz2 := hb2.size
  (try simp only [World.size_drew, World.size_alloc] at hz2)
  have hz2_0 : w.heap.size < w2.heap.size := by omega
  have hz2_1 : w.heap.size + 1 < w2.heap.size := by omega
  have hz2_2 : w.heap.size + 2 < w2.heap.size := by omega
  have hz2_3 : w1.heap.size < w2.heap.size := by omega
  have HC2_0 : ∀ o, w2.cell? ⟨w.heap.size, o, none⟩ = (#[Value.int .i64 k, Value.int .i64 op, Value.int .i64 cl, Value.int .i64 st, Value.int .i64 sp, Value.int .i64 ex, Value.int .i64 la, Value.int .i64 fl, Value.int .i64 fa, Value.int .i64 co, Value.int .i64 ru] : Array Value)[o]? := fun o => (hb2.cell (p := ⟨w.heap.size, o, none⟩) (by first | (simp; done) | omega | (simp; omega))).trans (by simp [go_sem, *])
  have HC2_1 : ∀ o, w2.cell? ⟨w.heap.size + 1, o, none⟩ = (#[Value.int .i64 ld, Value.int .i64 li, Value.int .i64 pr, Value.int .i64 rc] : Array Value)[o]? := fun o => (hb2.cell (p := ⟨w.heap.size + 1, o, none⟩) (by first | (simp; done) | omega | (simp; omega))).trans (by simp [go_sem, *])
  have HC2_2 : ∀ o, w2.cell? ⟨w.heap.size + 2, o, none⟩ = (#[Value.int .i64 bd, Value.int .i64 bl, Value.int .i64 bf, Value.int .i64 bn] : Array Value)[o]? := fun o => (hb2.cell (p := ⟨w.heap.size + 2, o, none⟩) (by first | (simp; done) | omega | (simp; omega))).trans (by simp [go_sem, *])
  have HC2_3 : ∀ o, w2.cell? ⟨w1.heap.size, o, none⟩ = (#[Value.int .i64 (-1), Value.int .i64 0, Value.int .i64 0, Value.int .i64 cl] : Array Value)[o]? := fun o => (hb2.cell (p := ⟨w1.heap.size, o, none⟩) (by first | (simp; done) | omega | (simp; omega))).trans (by simp [go_sem, *])
  clear hb2 hz2
  clear HB1 hz1_0 HC1_0 hz1_1 HC1_1 hz1_2 HC1_2
  go_wp2_with fail
  (apply Calls.mono; focus ((apply Least_ok <;> (first | (with_reducible assumption) | (with_reducible rfl) | omega)); done)); rintro e w3 ⟨rfl, hb3⟩
  have HB3 : Below w.heap.size w w3 := bstep (by (focus repeat' (first | (with_reducible exact Below.refl _ _) | (with_reducible assumption) | (with_reducible refine Below.alloc ?_ ?_ _) | (with_reducible refine Below.drew ?_) | (with_reducible refine Below.setCell ?_ ?_ _) | (first | (with_reducible exact Nat.le_refl _) | (with_reducible assumption) | omega | (simp; omega) | (simp; done))))) hb3
  have hz3 := hb3.size
  (try simp only [World.size_drew, World.size_alloc] at hz3)
  have hz3_0 : w.heap.size < w3.heap.size := by omega
  have hz3_1 : w.heap.size + 1 < w3.heap.size := by omega
  have hz3_2 : w.heap.size + 2 < w3.heap.size := by omega
  have hz3_3 : w1.heap.size < w3.heap.size := by omega
  have hz3_4 : w2.heap.size < w3.heap.size := by omega
  have HC3_0 : ∀ o, w3.cell? ⟨w.heap.size, o, none⟩ = (#[Value.int .i64 k, Value.int .i64 op, Value.int .i64 cl, Value.int .i64 st, Value.int .i64 sp, Value.int .i64 ex, Value.int .i64 la, Value.int .i64 fl, Value.int .i64 fa, Value.int .i64 co, Value.int .i64 ru] : Array Value)[o]? := fun o => (hb3.cell (p := ⟨w.heap.size, o, none⟩) (by first | (simp; done) | omega | (simp; omega))).trans (by simp [go_sem, *])
  have HC3_1 : ∀ o, w3.cell? ⟨w.heap.size + 1, o, none⟩ = (#[Value.int .i64 ld, Value.int .i64 li, Value.int .i64 pr, Value.int .i64 rc] : Array Value)[o]? := fun o => (hb3.cell (p := ⟨w.heap.size + 1, o, none⟩) (by first | (simp; done) | omega | (simp; omega))).trans (by simp [go_sem, *])
  have HC3_2 : ∀ o, w3.cell? ⟨w.heap.size + 2, o, none⟩ = (#[Value.int .i64 bd, Value.int .i64 bl, Value.int .i64 bf, Value.int .i64 bn] : Array Value)[o]? := fun o => (hb3.cell (p := ⟨w.heap.size + 2, o, none⟩) (by first | (simp; done) | omega | (simp; omega))).trans (by simp [go_sem, *])
  have HC3_3 : ∀ o, w3.cell? ⟨w1.heap.size, o, none⟩ = (#[Value.int .i64 (-1), Value.int .i64 0, Value.int .i64 0, Value.int .i64 cl] : Array Value)[o]? := fun o => (hb3.cell (p := ⟨w1.heap.size, o, none⟩) (by first | (simp; done) | omega | (simp; omega))).trans (by simp [go_sem, *])
  have HC3_4 : ∀ o, w3.cell? ⟨w2.heap.size, o, none⟩ = (#[Value.int .i64 (-1), Value.int .i64 0, Value.int .i64 0, Value.int .i64 cl] : Array Value)[o]? := fun o => (hb3.cell (p := ⟨w2.heap.size, o, none⟩) (by first | (simp; done) | omega | (simp; omega))).trans (by simp [go_sem, *])
  clear hb3 hz3
  clear HB2 hz2_0 HC2_0 hz2_1 HC2_1 hz2_2 HC2_2 hz2_3 HC2_3
  go_wp2_with fail
  (apply Calls.mono; focus ((apply rLeast_ok <;> (first | (with_reducible assumption) | (with_reducible rfl) | omega)); done)); rintro e w4 ⟨rfl, hb4⟩
  have HB4 : Below w.heap.size w w4 := bstep (by (focus repeat' (first | (with_reducible exact Below.refl _ _) | (with_reducible assumption) | (with_reducible refine Below.alloc ?_ ?_ _) | (with_reducible refine Below.drew ?_) | (with_reducible refine Below.setCell ?_ ?_ _) | (first | (with_reducible exact Nat.le_refl _) | (with_reducible assumption) | omega | (simp; omega) | (simp; done))))) hb4
  have hz4 := hb4.size
  (try simp only [World.size_drew, World.size_alloc] at hz4)
  have hz4_0 : w.heap.size < w4.heap.size := by omega
  have hz4_1 : w.heap.size + 1 < w4.heap.size := by omega
  have hz4_2 : w.heap.size + 2 < w4.heap.size := by omega
  have hz4_3 : w1.heap.size < w4.heap.size := by omega
  have hz4_4 : w2.heap.size < w4.heap.size := by omega
  have HC4_0 : ∀ o, w4.cell? ⟨w.heap.size, o, none⟩ = (#[Value.int .i64 k, Value.int .i64 op, Value.int .i64 cl, Value.int .i64 st, Value.int .i64 sp, Value.int .i64 ex, Value.int .i64 la, Value.int .i64 fl, Value.int .i64 fa, Value.int .i64 co, Value.int .i64 ru] : Array Value)[o]? := fun o => (hb4.cell (p := ⟨w.heap.size, o, none⟩) (by first | (simp; done) | omega | (simp; omega))).trans (by simp [go_sem, *])
  have HC4_1 : ∀ o, w4.cell? ⟨w.heap.size + 1, o, none⟩ = (#[Value.int .i64 ld, Value.int .i64 li, Value.int .i64 pr, Value.int .i64 rc] : Array Value)[o]? := fun o => (hb4.cell (p := ⟨w.heap.size + 1, o, none⟩) (by first | (simp; done) | omega | (simp; omega))).trans (by simp [go_sem, *])
  have HC4_2 : ∀ o, w4.cell? ⟨w.heap.size + 2, o, none⟩ = (#[Value.int .i64 bd, Value.int .i64 bl, Value.int .i64 bf, Value.int .i64 bn] : Array Value)[o]? := fun o => (hb4.cell (p := ⟨w.heap.size + 2, o, none⟩) (by first | (simp; done) | omega | (simp; omega))).trans (by simp [go_sem, *])
  have HC4_3 : ∀ o, w4.cell? ⟨w1.heap.size, o, none⟩ = (#[Value.int .i64 (-1), Value.int .i64 0, Value.int .i64 0, Value.int .i64 cl] : Array Value)[o]? := fun o => (hb4.cell (p := ⟨w1.heap.size, o, none⟩) (by first | (simp; done) | omega | (simp; omega))).trans (by simp [go_sem, *])
  have HC4_4 : ∀ o, w4.cell? ⟨w2.heap.size, o, none⟩ = (#[Value.int .i64 (-1), Value.int .i64 0, Value.int .i64 0, Value.int .i64 cl] : Array Value)[o]? := fun o => (hb4.cell (p := ⟨w2.heap.size, o, none⟩) (by first | (simp; done) | omega | (simp; omega))).trans (by simp [go_sem, *])
  clear hb4 hz4
  clear HB3 hz3_0 HC3_0 hz3_1 HC3_1 hz3_2 HC3_2 hz3_3 HC3_3 hz3_4 HC3_4
  go_wp2_with fail
  (apply Calls.mono; focus ((apply Bid_bad <;> (first | (with_reducible assumption) | (with_reducible rfl) | omega)); done)); rintro e w5 ⟨rfl, hb5⟩
  have HB5 : Below w.heap.size w w5 := bstep (by (focus repeat' (first | (with_reducible exact Below.refl _ _) | (with_reducible assumption) | (with_reducible refine Below.alloc ?_ ?_ _) | (with_reducible refine Below.drew ?_) | (with_reducible refine Below.setCell ?_ ?_ _) | (first | (with_reducible exact Nat.le_refl _) | (with_reducible assumption) | omega | (simp; omega) | (simp; done))))) hb5
  have hz5 := hb5.size
  (try simp only [World.size_drew, World.size_alloc] at hz5)
  have hz5_0 : w.heap.size < w5.heap.size := by omega
  have hz5_1 : w.heap.size + 1 < w5.heap.size := by omega
  have hz5_2 : w.heap.size + 2 < w5.heap.size := by omega
  have hz5_3 : w1.heap.size < w5.heap.size := by omega
  have hz5_4 : w2.heap.size < w5.heap.size := by omega
  have HC5_0 : ∀ o, w5.cell? ⟨w.heap.size, o, none⟩ = (#[Value.int .i64 k, Value.int .i64 op, Value.int .i64 cl, Value.int .i64 st, Value.int .i64 sp, Value.int .i64 ex, Value.int .i64 la, Value.int .i64 fl, Value.int .i64 fa, Value.int .i64 co, Value.int .i64 ru] : Array Value)[o]? := fun o => (hb5.cell (p := ⟨w.heap.size, o, none⟩) (by first | (simp; done) | omega | (simp; omega))).trans (by simp [go_sem, *])
  have HC5_1 : ∀ o, w5.cell? ⟨w.heap.size + 1, o, none⟩ = (#[Value.int .i64 ld, Value.int .i64 li, Value.int .i64 pr, Value.int .i64 rc] : Array Value)[o]? := fun o => (hb5.cell (p := ⟨w.heap.size + 1, o, none⟩) (by first | (simp; done) | omega | (simp; omega))).trans (by simp [go_sem, *])
  have HC5_2 : ∀ o, w5.cell? ⟨w.heap.size + 2, o, none⟩ = (#[Value.int .i64 bd, Value.int .i64 bl, Value.int .i64 bf, Value.int .i64 bn] : Array Value)[o]? := fun o => (hb5.cell (p := ⟨w.heap.size + 2, o, none⟩) (by first | (simp; done) | omega | (simp; omega))).trans (by simp [go_sem, *])
  have HC5_3 : ∀ o, w5.cell? ⟨w1.heap.size, o, none⟩ = (#[Value.int .i64 (-1), Value.int .i64 0, Value.int .i64 0, Value.int .i64 cl] : Array Value)[o]? := fun o => (hb5.cell (p := ⟨w1.heap.size, o, none⟩) (by first | (simp; done) | omega | (simp; omega))).trans (by simp [go_sem, *])
  have HC5_4 : ∀ o, w5.cell? ⟨w2.heap.size, o, none⟩ = (#[Value.int .i64 (-1), Value.int .i64 0, Value.int .i64 0, Value.int .i64 cl] : Array Value)[o]? := fun o => (hb5.cell (p := ⟨w2.heap.size, o, none⟩) (by first | (simp; done) | omega | (simp; omega))).trans (by simp [go_sem, *])
  clear hb5 hz5
  clear HB4 hz4_0 HC4_0 hz4_1 HC4_1 hz4_2 HC4_2 hz4_3 HC4_3 hz4_4 HC4_4
  go_wp2_with fail
  (apply Calls.mono; focus ((apply rBid_bad <;> (first | (with_reducible assumption) | (with_reducible rfl) | omega)); done)); rintro e w6 ⟨rfl, hb6⟩
  have HB6 : Below w.heap.size w w6 := bstep (by (focus repeat' (first | (with_reducible exact Below.refl _ _) | (with_reducible assumption) | (with_reducible refine Below.alloc ?_ ?_ _) | (with_reducible refine Below.drew ?_) | (with_reducible refine Below.setCell ?_ ?_ _) | (first | (with_reducible exact Nat.le_refl _) | (with_reducible assumption) | omega | (simp; omega) | (simp; done))))) hb6
  have hz6 := hb6.size
  (try simp only [World.size_drew, World.size_alloc] at hz6)
  have hz6_0 : w.heap.size < w6.heap.size := by omega
  have hz6_1 : w.heap.size + 1 < w6.heap.size := by omega
  have hz6_2 : w.heap.size + 2 < w6.heap.size := by omega
  have hz6_3 : w1.heap.size < w6.heap.size := by omega
  have hz6_4 : w2.heap.size < w6.heap.size := by omega
  have hz6_5 : w5.heap.size < w6.heap.size := by omega
  have HC6_0 : ∀ o, w6.cell? ⟨w.heap.size, o, none⟩ = (#[Value.int .i64 k, Value.int .i64 op, Value.int .i64 cl, Value.int .i64 st, Value.int .i64 sp, Value.int .i64 ex, Value.int .i64 la, Value.int .i64 fl, Value.int .i64 fa, Value.int .i64 co, Value.int .i64 ru] : Array Value)[o]? := fun o => (hb6.cell (p := ⟨w.heap.size, o, none⟩) (by first | (simp; done) | omega | (simp; omega))).trans (by simp [go_sem, *])
  have HC6_1 : ∀ o, w6.cell? ⟨w.heap.size + 1, o, none⟩ = (#[Value.int .i64 ld, Value.int .i64 li, Value.int .i64 pr, Value.int .i64 rc] : Array Value)[o]? := fun o => (hb6.cell (p := ⟨w.heap.size + 1, o, none⟩) (by first | (simp; done) | omega | (simp; omega))).trans (by simp [go_sem, *])
  have HC6_2 : ∀ o, w6.cell? ⟨w.heap.size + 2, o, none⟩ = (#[Value.int .i64 bd, Value.int .i64 bl, Value.int .i64 bf, Value.int .i64 bn] : Array Value)[o]? := fun o => (hb6.cell (p := ⟨w.heap.size + 2, o, none⟩) (by first | (simp; done) | omega | (simp; omega))).trans (by simp [go_sem, *])
  have HC6_3 : ∀ o, w6.cell? ⟨w1.heap.size, o, none⟩ = (#[Value.int .i64 (-1), Value.int .i64 0, Value.int .i64 0, Value.int .i64 cl] : Array Value)[o]? := fun o => (hb6.cell (p := ⟨w1.heap.size, o, none⟩) (by first | (simp; done) | omega | (simp; omega))).trans (by simp [go_sem, *])
  have HC6_4 : ∀ o, w6.cell? ⟨w2.heap.size, o, none⟩ = (#[Value.int .i64 (-1), Value.int .i64 0, Value.int .i64 0, Value.int .i64 cl] : Array Value)[o]? := fun o => (hb6.cell (p := ⟨w2.heap.size, o, none⟩) (by first | (simp; done) | omega | (simp; omega))).trans (by simp [go_sem, *])
  have HC6_5 : ∀ o, w6.cell? ⟨w5.heap.size, o, none⟩ = (#[Value.int .i64 0, Value.int .i64 0, Value.int .i64 0, Value.int .i64 0] : Array Value)[o]? := fun o => (hb6.cell (p := ⟨w5.heap.size, o, none⟩) (by first | (simp; done) | omega | (simp; omega))).trans (by simp [go_sem, *])
  clear hb6 hz6
  clear HB5 hz5_0 HC5_0 hz5_1 HC5_1 hz5_2 HC5_2 hz5_3 HC5_3 hz5_4 HC5_4
  go_upto_region 7 with fail
  go_region_held3 (fun w' => Below w.heap.size w w' ∧ (w.heap.size < w'.heap.size ∧ ∀ o, w'.cell? ⟨w.heap.size, o, none⟩ = (#[Value.int .i64 k, Value.int .i64 op, Value.int .i64 cl, Value.int .i64 st, Value.int .i64 sp, Value.int .i64 ex, Value.int .i64 la, Value.int .i64 fl, Value.int .i64 fa, Value.int .i64 co, Value.int .i64 ru] : Array Value)[o]?) ∧ (w.heap.size + 1 < w'.heap.size ∧ ∀ o, w'.cell? ⟨w.heap.size + 1, o, none⟩ = (#[Value.int .i64 ld, Value.int .i64 li, Value.int .i64 pr, Value.int .i64 rc] : Array Value)[o]?) ∧ (w1.heap.size < w'.heap.size ∧ ∀ o, w'.cell? ⟨w1.heap.size, o, none⟩ = (#[Value.int .i64 (-1), Value.int .i64 0, Value.int .i64 0, Value.int .i64 cl] : Array Value)[o]?) ∧ (w2.heap.size < w'.heap.size ∧ ∀ o, w'.cell? ⟨w2.heap.size, o, none⟩ = (#[Value.int .i64 (-1), Value.int .i64 0, Value.int .i64 0, Value.int .i64 cl] : Array Value)[o]?) ∧ (w5.heap.size < w'.heap.size ∧ ∀ o, w'.cell? ⟨w5.heap.size, o, none⟩ = (#[Value.int .i64 0, Value.int .i64 0, Value.int .i64 0, Value.int .i64 0] : Array Value)[o]?) ∧ (w6.heap.size < w'.heap.size ∧ ∀ o, w'.cell? ⟨w6.heap.size, o, none⟩ = (#[Value.int .i64 0, Value.int .i64 0, Value.int .i64 0, Value.int .i64 0] : Array Value)[o]?)) (((try go_split_ands); refine ⟨?_, ⟨?_, ?_⟩, ⟨?_, ?_⟩, ⟨?_, ?_⟩, ⟨?_, ?_⟩, ⟨?_, ?_⟩, ⟨?_, ?_⟩⟩; (focus (first | (focus repeat' (first | (with_reducible exact Below.refl _ _) | (with_reducible assumption) | (with_reducible refine Below.alloc ?_ ?_ _) | (with_reducible refine Below.drew ?_) | (with_reducible refine Below.setCell ?_ ?_ _) | (first | (with_reducible exact Nat.le_refl _) | (with_reducible assumption) | omega | (simp; omega) | (simp; done)))))); (focus (first | (with_reducible assumption) | (simp; done) | omega | (simp; omega))); (focus (first | (with_reducible assumption) | (intro o; simp [go_sem, *]; done))); (focus (first | (with_reducible assumption) | (simp; done) | omega | (simp; omega))); (focus (first | (with_reducible assumption) | (intro o; simp [go_sem, *]; done))); (focus (first | (with_reducible assumption) | (simp; done) | omega | (simp; omega))); (focus (first | (with_reducible assumption) | (intro o; simp [go_sem, *]; done))); (focus (first | (with_reducible assumption) | (simp; done) | omega | (simp; omega))); (focus (first | (with_reducible assumption) | (intro o; simp [go_sem, *]; done))); (focus (first | (with_reducible assumption) | (simp; done) | omega | (simp; omega))); (focus (first | (with_reducible assumption) | (intro o; simp [go_sem, *]; done))); (focus (first | (with_reducible assumption) | (simp; done) | omega | (simp; omega))); (focus (first | (with_reducible assumption) | (intro o; simp [go_sem, *]; done)))))
      (first | (go_at_call 14; (apply Calls.mono; focus ((apply check_ok <;> (first | (with_reducible assumption) | (with_reducible rfl) | omega)); done)); rintro e w7 ⟨rfl, hb7⟩; (try go_split_ands); have HB7 : Below w.heap.size w w7 := bstep (by with_reducible assumption) hb7; have hz7 := hb7.size; (try simp only [World.size_drew, World.size_alloc] at hz7); (have hz7_0 : w.heap.size < w7.heap.size := by omega); (have hz7_1 : w.heap.size + 1 < w7.heap.size := by omega); (have hz7_2 : w1.heap.size < w7.heap.size := by omega); (have hz7_3 : w2.heap.size < w7.heap.size := by omega); (have hz7_4 : w5.heap.size < w7.heap.size := by omega); (have hz7_5 : w6.heap.size < w7.heap.size := by omega); obtain ⟨hc7, hf7⟩ := bcell hb7; (try simp only [World.size_drew, World.size_alloc, World.cell?_drew, World.frozen?_drew] at hc7 hf7); (have HC7_0 : ∀ o, w7.cell? ⟨w.heap.size, o, none⟩ = (#[Value.int .i64 k, Value.int .i64 op, Value.int .i64 cl, Value.int .i64 st, Value.int .i64 sp, Value.int .i64 ex, Value.int .i64 la, Value.int .i64 fl, Value.int .i64 fa, Value.int .i64 co, Value.int .i64 ru] : Array Value)[o]? := by (intro o; simp [go_sem, *])); (have HC7_1 : ∀ o, w7.cell? ⟨w.heap.size + 1, o, none⟩ = (#[Value.int .i64 ld, Value.int .i64 li, Value.int .i64 pr, Value.int .i64 rc] : Array Value)[o]? := by (intro o; simp [go_sem, *])); (have HC7_2 : ∀ o, w7.cell? ⟨w1.heap.size, o, none⟩ = (#[Value.int .i64 (-1), Value.int .i64 0, Value.int .i64 0, Value.int .i64 cl] : Array Value)[o]? := by (intro o; simp [go_sem, *])); (have HC7_3 : ∀ o, w7.cell? ⟨w2.heap.size, o, none⟩ = (#[Value.int .i64 (-1), Value.int .i64 0, Value.int .i64 0, Value.int .i64 cl] : Array Value)[o]? := by (intro o; simp [go_sem, *])); (have HC7_4 : ∀ o, w7.cell? ⟨w5.heap.size, o, none⟩ = (#[Value.int .i64 0, Value.int .i64 0, Value.int .i64 0, Value.int .i64 0] : Array Value)[o]? := by (intro o; simp [go_sem, *])); (have HC7_5 : ∀ o, w7.cell? ⟨w6.heap.size, o, none⟩ = (#[Value.int .i64 0, Value.int .i64 0, Value.int .i64 0, Value.int .i64 0] : Array Value)[o]? := by (intro o; simp [go_sem, *]))) | (go_at_call 15; (apply Calls.mono; focus ((apply rcheck_ok <;> (first | (with_reducible assumption) | (with_reducible rfl) | omega)); done)); rintro e w8 ⟨rfl, hb8⟩; (try go_split_ands); have HB8 : Below w.heap.size w w8 := bstep (by with_reducible assumption) hb8; have hz8 := hb8.size; (try simp only [World.size_drew, World.size_alloc] at hz8); (have hz8_0 : w.heap.size < w8.heap.size := by omega); (have hz8_1 : w.heap.size + 1 < w8.heap.size := by omega); (have hz8_2 : w1.heap.size < w8.heap.size := by omega); (have hz8_3 : w2.heap.size < w8.heap.size := by omega); (have hz8_4 : w5.heap.size < w8.heap.size := by omega); (have hz8_5 : w6.heap.size < w8.heap.size := by omega); obtain ⟨hc8, hf8⟩ := bcell hb8; (try simp only [World.size_drew, World.size_alloc, World.cell?_drew, World.frozen?_drew] at hc8 hf8); (have HC8_0 : ∀ o, w8.cell? ⟨w.heap.size, o, none⟩ = (#[Value.int .i64 k, Value.int .i64 op, Value.int .i64 cl, Value.int .i64 st, Value.int .i64 sp, Value.int .i64 ex, Value.int .i64 la, Value.int .i64 fl, Value.int .i64 fa, Value.int .i64 co, Value.int .i64 ru] : Array Value)[o]? := by (intro o; simp [go_sem, *])); (have HC8_1 : ∀ o, w8.cell? ⟨w.heap.size + 1, o, none⟩ = (#[Value.int .i64 ld, Value.int .i64 li, Value.int .i64 pr, Value.int .i64 rc] : Array Value)[o]? := by (intro o; simp [go_sem, *])); (have HC8_2 : ∀ o, w8.cell? ⟨w1.heap.size, o, none⟩ = (#[Value.int .i64 (-1), Value.int .i64 0, Value.int .i64 0, Value.int .i64 cl] : Array Value)[o]? := by (intro o; simp [go_sem, *])); (have HC8_3 : ∀ o, w8.cell? ⟨w2.heap.size, o, none⟩ = (#[Value.int .i64 (-1), Value.int .i64 0, Value.int .i64 0, Value.int .i64 cl] : Array Value)[o]? := by (intro o; simp [go_sem, *])); (have HC8_4 : ∀ o, w8.cell? ⟨w5.heap.size, o, none⟩ = (#[Value.int .i64 0, Value.int .i64 0, Value.int .i64 0, Value.int .i64 0] : Array Value)[o]? := by (intro o; simp [go_sem, *])); (have HC8_5 : ∀ o, w8.cell? ⟨w6.heap.size, o, none⟩ = (#[Value.int .i64 0, Value.int .i64 0, Value.int .i64 0, Value.int .i64 0] : Array Value)[o]? := by (intro o; simp [go_sem, *]))))
  clear HB6 hz6_0 HC6_0 hz6_1 HC6_1 hz6_2 HC6_2 hz6_3 HC6_3 hz6_4 HC6_4 hz6_5 HC6_5
  clear hb7 hc7 hf7 hb8 hc8 hf8
  go_wp2_with fail
  (apply Calls.mono; focus ((apply rright_yes <;> (first | (with_reducible assumption) | (with_reducible rfl) | omega)); done)); rintro e w9 ⟨rfl, hb9⟩
  have HB9 : Below w.heap.size w w9 := bstep (by (focus repeat' (first | (with_reducible exact Below.refl _ _) | (with_reducible assumption) | (with_reducible refine Below.alloc ?_ ?_ _) | (with_reducible refine Below.drew ?_) | (with_reducible refine Below.setCell ?_ ?_ _) | (first | (with_reducible exact Nat.le_refl _) | (with_reducible assumption) | omega | (simp; omega) | (simp; done))))) hb9
  have hz9 := hb9.size
  (try simp only [World.size_drew, World.size_alloc] at hz9)
  have hz9_0 : w.heap.size < w9.heap.size := by omega
  have hz9_1 : w.heap.size + 1 < w9.heap.size := by omega
  have HC9_0 : ∀ o, w9.cell? ⟨w.heap.size, o, none⟩ = (#[Value.int .i64 k, Value.int .i64 op, Value.int .i64 cl, Value.int .i64 st, Value.int .i64 sp, Value.int .i64 ex, Value.int .i64 la, Value.int .i64 fl, Value.int .i64 fa, Value.int .i64 co, Value.int .i64 ru] : Array Value)[o]? := fun o => (hb9.cell (p := ⟨w.heap.size, o, none⟩) (by first | (simp; done) | omega | (simp; omega))).trans (by simp [go_sem, *])
  have HC9_1 : ∀ o, w9.cell? ⟨w.heap.size + 1, o, none⟩ = (#[Value.int .i64 ld, Value.int .i64 li, Value.int .i64 pr, Value.int .i64 rc] : Array Value)[o]? := fun o => (hb9.cell (p := ⟨w.heap.size + 1, o, none⟩) (by first | (simp; done) | omega | (simp; omega))).trans (by simp [go_sem, *])
  clear hb9 hz9
  clear HB8 hz8_0 HC8_0 hz8_1 HC8_1 hz8_2 HC8_2 hz8_3 HC8_3 hz8_4 HC8_4 hz8_5 HC8_5
  go_wp2_with fail
  (apply Calls.mono; focus ((apply End_none <;> (first | (with_reducible assumption) | (with_reducible rfl) | omega)); done)); rintro e w10 ⟨rfl, hb10⟩
  have HB10 : Below w.heap.size w w10 := bstep (by (focus repeat' (first | (with_reducible exact Below.refl _ _) | (with_reducible assumption) | (with_reducible refine Below.alloc ?_ ?_ _) | (with_reducible refine Below.drew ?_) | (with_reducible refine Below.setCell ?_ ?_ _) | (first | (with_reducible exact Nat.le_refl _) | (with_reducible assumption) | omega | (simp; omega) | (simp; done))))) hb10
  have hz10 := hb10.size
  (try simp only [World.size_drew, World.size_alloc] at hz10)
  have hz10_0 : w.heap.size < w10.heap.size := by omega
  have hz10_1 : w.heap.size + 1 < w10.heap.size := by omega
  have HC10_0 : ∀ o, w10.cell? ⟨w.heap.size, o, none⟩ = (#[Value.int .i64 k, Value.int .i64 op, Value.int .i64 cl, Value.int .i64 st, Value.int .i64 sp, Value.int .i64 ex, Value.int .i64 la, Value.int .i64 fl, Value.int .i64 fa, Value.int .i64 co, Value.int .i64 ru] : Array Value)[o]? := fun o => (hb10.cell (p := ⟨w.heap.size, o, none⟩) (by first | (simp; done) | omega | (simp; omega))).trans (by simp [go_sem, *])
  have HC10_1 : ∀ o, w10.cell? ⟨w.heap.size + 1, o, none⟩ = (#[Value.int .i64 ld, Value.int .i64 li, Value.int .i64 pr, Value.int .i64 rc] : Array Value)[o]? := fun o => (hb10.cell (p := ⟨w.heap.size + 1, o, none⟩) (by first | (simp; done) | omega | (simp; omega))).trans (by simp [go_sem, *])
  clear hb10 hz10
  clear HB9 hz9_0 HC9_0 hz9_1 HC9_1
  go_wp2_with fail
  (apply Calls.mono; focus ((apply right_yes <;> (first | (with_reducible assumption) | (with_reducible rfl) | omega)); done)); rintro e w11 ⟨rfl, hb11⟩
  have HB11 : Below w.heap.size w w11 := bstep (by (focus repeat' (first | (with_reducible exact Below.refl _ _) | (with_reducible assumption) | (with_reducible refine Below.alloc ?_ ?_ _) | (with_reducible refine Below.drew ?_) | (with_reducible refine Below.setCell ?_ ?_ _) | (first | (with_reducible exact Nat.le_refl _) | (with_reducible assumption) | omega | (simp; omega) | (simp; done))))) hb11
  have hz11 := hb11.size
  (try simp only [World.size_drew, World.size_alloc] at hz11)
  have hz11_0 : w.heap.size < w11.heap.size := by omega
  have hz11_1 : w.heap.size + 1 < w11.heap.size := by omega
  have HC11_0 : ∀ o, w11.cell? ⟨w.heap.size, o, none⟩ = (#[Value.int .i64 k, Value.int .i64 op, Value.int .i64 cl, Value.int .i64 st, Value.int .i64 sp, Value.int .i64 ex, Value.int .i64 la, Value.int .i64 fl, Value.int .i64 fa, Value.int .i64 co, Value.int .i64 ru] : Array Value)[o]? := fun o => (hb11.cell (p := ⟨w.heap.size, o, none⟩) (by first | (simp; done) | omega | (simp; omega))).trans (by simp [go_sem, *])
  have HC11_1 : ∀ o, w11.cell? ⟨w.heap.size + 1, o, none⟩ = (#[Value.int .i64 ld, Value.int .i64 li, Value.int .i64 pr, Value.int .i64 rc] : Array Value)[o]? := fun o => (hb11.cell (p := ⟨w.heap.size + 1, o, none⟩) (by first | (simp; done) | omega | (simp; omega))).trans (by simp [go_sem, *])
  clear hb11 hz11
  clear HB10 hz10_0 HC10_0 hz10_1 HC10_1
  go_wp2_with fail
  (apply Calls.mono; focus ((apply known_any <;> (first | (with_reducible assumption) | (with_reducible rfl) | omega)); done)); rintro e w12 ⟨rfl, hb12⟩
  have HB12 : Below w.heap.size w w12 := bstep (by (focus repeat' (first | (with_reducible exact Below.refl _ _) | (with_reducible assumption) | (with_reducible refine Below.alloc ?_ ?_ _) | (with_reducible refine Below.drew ?_) | (with_reducible refine Below.setCell ?_ ?_ _) | (first | (with_reducible exact Nat.le_refl _) | (with_reducible assumption) | omega | (simp; omega) | (simp; done))))) hb12
  have hz12 := hb12.size
  (try simp only [World.size_drew, World.size_alloc] at hz12)
  have hz12_0 : w.heap.size < w12.heap.size := by omega
  have hz12_1 : w.heap.size + 1 < w12.heap.size := by omega
  have HC12_0 : ∀ o, w12.cell? ⟨w.heap.size, o, none⟩ = (#[Value.int .i64 k, Value.int .i64 op, Value.int .i64 cl, Value.int .i64 st, Value.int .i64 sp, Value.int .i64 ex, Value.int .i64 la, Value.int .i64 fl, Value.int .i64 fa, Value.int .i64 co, Value.int .i64 ru] : Array Value)[o]? := fun o => (hb12.cell (p := ⟨w.heap.size, o, none⟩) (by first | (simp; done) | omega | (simp; omega))).trans (by simp [go_sem, *])
  have HC12_1 : ∀ o, w12.cell? ⟨w.heap.size + 1, o, none⟩ = (#[Value.int .i64 ld, Value.int .i64 li, Value.int .i64 pr, Value.int .i64 rc] : Array Value)[o]? := fun o => (hb12.cell (p := ⟨w.heap.size + 1, o, none⟩) (by first | (simp; done) | omega | (simp; omega))).trans (by simp [go_sem, *])
  clear hb12 hz12
  clear HB11 hz11_0 HC11_0 hz11_1 HC11_1
  go_wp2
  go_ret
  exact ⟨rfl, HB12⟩

set_option maxRecDepth 100000 in
set_option maxHeartbeats 4000000 in
theorem LadderBid_6 (k op cl st sp ex la fl fa co ru ld li pr rc bd bl bf bn : Int) (w : World) (hL : LotOK k op cl st sp ex la fl fa co ru) (hR : RiseOK st cl la ld li pr rc) (hf : bf ≤ 9223372036854775807) (he : bidErr op st sp ld li pr rc bd bl bf bn ≠ 0) (hb : 0 ≤ bd) (hl : 0 ≤ ld) : Calls Try.prog 4 #[.agg #[.int .i64 k, .int .i64 op, .int .i64 cl, .int .i64 st, .int .i64 sp, .int .i64 ex, .int .i64 la, .int .i64 fl, .int .i64 fa, .int .i64 co, .int .i64 ru], .agg #[.int .i64 ld, .int .i64 li, .int .i64 pr, .int .i64 rc], .agg #[.int .i64 bd, .int .i64 bl, .int .i64 bf, .int .i64 bn]] w fun e w' => e = .returned (.bool true) ∧ Below w.heap.size w w' := by
  go_enter Try.func4, Try.ntmps4
  go_wp2_with fail
  (apply Calls.mono; focus ((apply begin_ok <;> (first | (with_reducible assumption) | (with_reducible rfl) | omega)); done)); rintro e w1 ⟨rfl, hb1⟩
  have HB1 : Below w.heap.size w w1 := bstep (by (focus repeat' (first | (with_reducible exact Below.refl _ _) | (with_reducible assumption) | (with_reducible refine Below.alloc ?_ ?_ _) | (with_reducible refine Below.drew ?_) | (with_reducible refine Below.setCell ?_ ?_ _) | (first | (with_reducible exact Nat.le_refl _) | (with_reducible assumption) | omega | (simp; omega) | (simp; done))))) hb1
  have hz1 := hb1.size
  (try simp only [World.size_drew, World.size_alloc] at hz1)
  have hz1_0 : w.heap.size < w1.heap.size := by omega
  have hz1_1 : w.heap.size + 1 < w1.heap.size := by omega
  have hz1_2 : w.heap.size + 2 < w1.heap.size := by omega
  have HC1_0 : ∀ o, w1.cell? ⟨w.heap.size, o, none⟩ = (#[Value.int .i64 k, Value.int .i64 op, Value.int .i64 cl, Value.int .i64 st, Value.int .i64 sp, Value.int .i64 ex, Value.int .i64 la, Value.int .i64 fl, Value.int .i64 fa, Value.int .i64 co, Value.int .i64 ru] : Array Value)[o]? := fun o => (hb1.cell (p := ⟨w.heap.size, o, none⟩) (by first | (simp; done) | omega | (simp; omega))).trans (by simp [go_sem, *])
  have HC1_1 : ∀ o, w1.cell? ⟨w.heap.size + 1, o, none⟩ = (#[Value.int .i64 ld, Value.int .i64 li, Value.int .i64 pr, Value.int .i64 rc] : Array Value)[o]? := fun o => (hb1.cell (p := ⟨w.heap.size + 1, o, none⟩) (by first | (simp; done) | omega | (simp; omega))).trans (by simp [go_sem, *])
  have HC1_2 : ∀ o, w1.cell? ⟨w.heap.size + 2, o, none⟩ = (#[Value.int .i64 bd, Value.int .i64 bl, Value.int .i64 bf, Value.int .i64 bn] : Array Value)[o]? := fun o => (hb1.cell (p := ⟨w.heap.size + 2, o, none⟩) (by first | (simp; done) | omega | (simp; omega))).trans (by simp [go_sem, *])
  clear hb1 hz1
  go_wp2_with fail
  (apply Calls.mono; focus ((apply rbegin_ok <;> (first | (with_reducible assumption) | (with_reducible rfl) | omega)); done)); rintro e w2 ⟨rfl, hb2⟩
  have HB2 : Below w.heap.size w w2 := bstep (by (focus repeat' (first | (with_reducible exact Below.refl _ _) | (with_reducible assumption) | (with_reducible refine Below.alloc ?_ ?_ _) | (with_reducible refine Below.drew ?_) | (with_reducible refine Below.setCell ?_ ?_ _) | (first | (with_reducible exact Nat.le_refl _) | (with_reducible assumption) | omega | (simp; omega) | (simp; done))))) hb2
  have hz2 := hb2.size
  (try simp only [World.size_drew, World.size_alloc] at hz2)
  have hz2_0 : w.heap.size < w2.heap.size := by omega
  have hz2_1 : w.heap.size + 1 < w2.heap.size := by omega
  have hz2_2 : w.heap.size + 2 < w2.heap.size := by omega
  have hz2_3 : w1.heap.size < w2.heap.size := by omega
  have HC2_0 : ∀ o, w2.cell? ⟨w.heap.size, o, none⟩ = (#[Value.int .i64 k, Value.int .i64 op, Value.int .i64 cl, Value.int .i64 st, Value.int .i64 sp, Value.int .i64 ex, Value.int .i64 la, Value.int .i64 fl, Value.int .i64 fa, Value.int .i64 co, Value.int .i64 ru] : Array Value)[o]? := fun o => (hb2.cell (p := ⟨w.heap.size, o, none⟩) (by first | (simp; done) | omega | (simp; omega))).trans (by simp [go_sem, *])
  have HC2_1 : ∀ o, w2.cell? ⟨w.heap.size + 1, o, none⟩ = (#[Value.int .i64 ld, Value.int .i64 li, Value.int .i64 pr, Value.int .i64 rc] : Array Value)[o]? := fun o => (hb2.cell (p := ⟨w.heap.size + 1, o, none⟩) (by first | (simp; done) | omega | (simp; omega))).trans (by simp [go_sem, *])
  have HC2_2 : ∀ o, w2.cell? ⟨w.heap.size + 2, o, none⟩ = (#[Value.int .i64 bd, Value.int .i64 bl, Value.int .i64 bf, Value.int .i64 bn] : Array Value)[o]? := fun o => (hb2.cell (p := ⟨w.heap.size + 2, o, none⟩) (by first | (simp; done) | omega | (simp; omega))).trans (by simp [go_sem, *])
  have HC2_3 : ∀ o, w2.cell? ⟨w1.heap.size, o, none⟩ = (#[Value.int .i64 (-1), Value.int .i64 0, Value.int .i64 0, Value.int .i64 cl] : Array Value)[o]? := fun o => (hb2.cell (p := ⟨w1.heap.size, o, none⟩) (by first | (simp; done) | omega | (simp; omega))).trans (by simp [go_sem, *])
  clear hb2 hz2
  clear HB1 hz1_0 HC1_0 hz1_1 HC1_1 hz1_2 HC1_2
  go_wp2_with fail
  (apply Calls.mono; focus ((apply Least_ok <;> (first | (with_reducible assumption) | (with_reducible rfl) | omega)); done)); rintro e w3 ⟨rfl, hb3⟩
  have HB3 : Below w.heap.size w w3 := bstep (by (focus repeat' (first | (with_reducible exact Below.refl _ _) | (with_reducible assumption) | (with_reducible refine Below.alloc ?_ ?_ _) | (with_reducible refine Below.drew ?_) | (with_reducible refine Below.setCell ?_ ?_ _) | (first | (with_reducible exact Nat.le_refl _) | (with_reducible assumption) | omega | (simp; omega) | (simp; done))))) hb3
  have hz3 := hb3.size
  (try simp only [World.size_drew, World.size_alloc] at hz3)
  have hz3_0 : w.heap.size < w3.heap.size := by omega
  have hz3_1 : w.heap.size + 1 < w3.heap.size := by omega
  have hz3_2 : w.heap.size + 2 < w3.heap.size := by omega
  have hz3_3 : w1.heap.size < w3.heap.size := by omega
  have hz3_4 : w2.heap.size < w3.heap.size := by omega
  have HC3_0 : ∀ o, w3.cell? ⟨w.heap.size, o, none⟩ = (#[Value.int .i64 k, Value.int .i64 op, Value.int .i64 cl, Value.int .i64 st, Value.int .i64 sp, Value.int .i64 ex, Value.int .i64 la, Value.int .i64 fl, Value.int .i64 fa, Value.int .i64 co, Value.int .i64 ru] : Array Value)[o]? := fun o => (hb3.cell (p := ⟨w.heap.size, o, none⟩) (by first | (simp; done) | omega | (simp; omega))).trans (by simp [go_sem, *])
  have HC3_1 : ∀ o, w3.cell? ⟨w.heap.size + 1, o, none⟩ = (#[Value.int .i64 ld, Value.int .i64 li, Value.int .i64 pr, Value.int .i64 rc] : Array Value)[o]? := fun o => (hb3.cell (p := ⟨w.heap.size + 1, o, none⟩) (by first | (simp; done) | omega | (simp; omega))).trans (by simp [go_sem, *])
  have HC3_2 : ∀ o, w3.cell? ⟨w.heap.size + 2, o, none⟩ = (#[Value.int .i64 bd, Value.int .i64 bl, Value.int .i64 bf, Value.int .i64 bn] : Array Value)[o]? := fun o => (hb3.cell (p := ⟨w.heap.size + 2, o, none⟩) (by first | (simp; done) | omega | (simp; omega))).trans (by simp [go_sem, *])
  have HC3_3 : ∀ o, w3.cell? ⟨w1.heap.size, o, none⟩ = (#[Value.int .i64 (-1), Value.int .i64 0, Value.int .i64 0, Value.int .i64 cl] : Array Value)[o]? := fun o => (hb3.cell (p := ⟨w1.heap.size, o, none⟩) (by first | (simp; done) | omega | (simp; omega))).trans (by simp [go_sem, *])
  have HC3_4 : ∀ o, w3.cell? ⟨w2.heap.size, o, none⟩ = (#[Value.int .i64 (-1), Value.int .i64 0, Value.int .i64 0, Value.int .i64 cl] : Array Value)[o]? := fun o => (hb3.cell (p := ⟨w2.heap.size, o, none⟩) (by first | (simp; done) | omega | (simp; omega))).trans (by simp [go_sem, *])
  clear hb3 hz3
  clear HB2 hz2_0 HC2_0 hz2_1 HC2_1 hz2_2 HC2_2 hz2_3 HC2_3
  go_wp2_with fail
  (apply Calls.mono; focus ((apply rLeast_ok <;> (first | (with_reducible assumption) | (with_reducible rfl) | omega)); done)); rintro e w4 ⟨rfl, hb4⟩
  have HB4 : Below w.heap.size w w4 := bstep (by (focus repeat' (first | (with_reducible exact Below.refl _ _) | (with_reducible assumption) | (with_reducible refine Below.alloc ?_ ?_ _) | (with_reducible refine Below.drew ?_) | (with_reducible refine Below.setCell ?_ ?_ _) | (first | (with_reducible exact Nat.le_refl _) | (with_reducible assumption) | omega | (simp; omega) | (simp; done))))) hb4
  have hz4 := hb4.size
  (try simp only [World.size_drew, World.size_alloc] at hz4)
  have hz4_0 : w.heap.size < w4.heap.size := by omega
  have hz4_1 : w.heap.size + 1 < w4.heap.size := by omega
  have hz4_2 : w.heap.size + 2 < w4.heap.size := by omega
  have hz4_3 : w1.heap.size < w4.heap.size := by omega
  have hz4_4 : w2.heap.size < w4.heap.size := by omega
  have HC4_0 : ∀ o, w4.cell? ⟨w.heap.size, o, none⟩ = (#[Value.int .i64 k, Value.int .i64 op, Value.int .i64 cl, Value.int .i64 st, Value.int .i64 sp, Value.int .i64 ex, Value.int .i64 la, Value.int .i64 fl, Value.int .i64 fa, Value.int .i64 co, Value.int .i64 ru] : Array Value)[o]? := fun o => (hb4.cell (p := ⟨w.heap.size, o, none⟩) (by first | (simp; done) | omega | (simp; omega))).trans (by simp [go_sem, *])
  have HC4_1 : ∀ o, w4.cell? ⟨w.heap.size + 1, o, none⟩ = (#[Value.int .i64 ld, Value.int .i64 li, Value.int .i64 pr, Value.int .i64 rc] : Array Value)[o]? := fun o => (hb4.cell (p := ⟨w.heap.size + 1, o, none⟩) (by first | (simp; done) | omega | (simp; omega))).trans (by simp [go_sem, *])
  have HC4_2 : ∀ o, w4.cell? ⟨w.heap.size + 2, o, none⟩ = (#[Value.int .i64 bd, Value.int .i64 bl, Value.int .i64 bf, Value.int .i64 bn] : Array Value)[o]? := fun o => (hb4.cell (p := ⟨w.heap.size + 2, o, none⟩) (by first | (simp; done) | omega | (simp; omega))).trans (by simp [go_sem, *])
  have HC4_3 : ∀ o, w4.cell? ⟨w1.heap.size, o, none⟩ = (#[Value.int .i64 (-1), Value.int .i64 0, Value.int .i64 0, Value.int .i64 cl] : Array Value)[o]? := fun o => (hb4.cell (p := ⟨w1.heap.size, o, none⟩) (by first | (simp; done) | omega | (simp; omega))).trans (by simp [go_sem, *])
  have HC4_4 : ∀ o, w4.cell? ⟨w2.heap.size, o, none⟩ = (#[Value.int .i64 (-1), Value.int .i64 0, Value.int .i64 0, Value.int .i64 cl] : Array Value)[o]? := fun o => (hb4.cell (p := ⟨w2.heap.size, o, none⟩) (by first | (simp; done) | omega | (simp; omega))).trans (by simp [go_sem, *])
  clear hb4 hz4
  clear HB3 hz3_0 HC3_0 hz3_1 HC3_1 hz3_2 HC3_2 hz3_3 HC3_3 hz3_4 HC3_4
  go_wp2_with fail
  (apply Calls.mono; focus ((apply Bid_bad <;> (first | (with_reducible assumption) | (with_reducible rfl) | omega)); done)); rintro e w5 ⟨rfl, hb5⟩
  have HB5 : Below w.heap.size w w5 := bstep (by (focus repeat' (first | (with_reducible exact Below.refl _ _) | (with_reducible assumption) | (with_reducible refine Below.alloc ?_ ?_ _) | (with_reducible refine Below.drew ?_) | (with_reducible refine Below.setCell ?_ ?_ _) | (first | (with_reducible exact Nat.le_refl _) | (with_reducible assumption) | omega | (simp; omega) | (simp; done))))) hb5
  have hz5 := hb5.size
  (try simp only [World.size_drew, World.size_alloc] at hz5)
  have hz5_0 : w.heap.size < w5.heap.size := by omega
  have hz5_1 : w.heap.size + 1 < w5.heap.size := by omega
  have hz5_2 : w.heap.size + 2 < w5.heap.size := by omega
  have hz5_3 : w1.heap.size < w5.heap.size := by omega
  have hz5_4 : w2.heap.size < w5.heap.size := by omega
  have HC5_0 : ∀ o, w5.cell? ⟨w.heap.size, o, none⟩ = (#[Value.int .i64 k, Value.int .i64 op, Value.int .i64 cl, Value.int .i64 st, Value.int .i64 sp, Value.int .i64 ex, Value.int .i64 la, Value.int .i64 fl, Value.int .i64 fa, Value.int .i64 co, Value.int .i64 ru] : Array Value)[o]? := fun o => (hb5.cell (p := ⟨w.heap.size, o, none⟩) (by first | (simp; done) | omega | (simp; omega))).trans (by simp [go_sem, *])
  have HC5_1 : ∀ o, w5.cell? ⟨w.heap.size + 1, o, none⟩ = (#[Value.int .i64 ld, Value.int .i64 li, Value.int .i64 pr, Value.int .i64 rc] : Array Value)[o]? := fun o => (hb5.cell (p := ⟨w.heap.size + 1, o, none⟩) (by first | (simp; done) | omega | (simp; omega))).trans (by simp [go_sem, *])
  have HC5_2 : ∀ o, w5.cell? ⟨w.heap.size + 2, o, none⟩ = (#[Value.int .i64 bd, Value.int .i64 bl, Value.int .i64 bf, Value.int .i64 bn] : Array Value)[o]? := fun o => (hb5.cell (p := ⟨w.heap.size + 2, o, none⟩) (by first | (simp; done) | omega | (simp; omega))).trans (by simp [go_sem, *])
  have HC5_3 : ∀ o, w5.cell? ⟨w1.heap.size, o, none⟩ = (#[Value.int .i64 (-1), Value.int .i64 0, Value.int .i64 0, Value.int .i64 cl] : Array Value)[o]? := fun o => (hb5.cell (p := ⟨w1.heap.size, o, none⟩) (by first | (simp; done) | omega | (simp; omega))).trans (by simp [go_sem, *])
  have HC5_4 : ∀ o, w5.cell? ⟨w2.heap.size, o, none⟩ = (#[Value.int .i64 (-1), Value.int .i64 0, Value.int .i64 0, Value.int .i64 cl] : Array Value)[o]? := fun o => (hb5.cell (p := ⟨w2.heap.size, o, none⟩) (by first | (simp; done) | omega | (simp; omega))).trans (by simp [go_sem, *])
  clear hb5 hz5
  clear HB4 hz4_0 HC4_0 hz4_1 HC4_1 hz4_2 HC4_2 hz4_3 HC4_3 hz4_4 HC4_4
  go_wp2_with fail
  (apply Calls.mono; focus ((apply rBid_bad <;> (first | (with_reducible assumption) | (with_reducible rfl) | omega)); done)); rintro e w6 ⟨rfl, hb6⟩
  have HB6 : Below w.heap.size w w6 := bstep (by (focus repeat' (first | (with_reducible exact Below.refl _ _) | (with_reducible assumption) | (with_reducible refine Below.alloc ?_ ?_ _) | (with_reducible refine Below.drew ?_) | (with_reducible refine Below.setCell ?_ ?_ _) | (first | (with_reducible exact Nat.le_refl _) | (with_reducible assumption) | omega | (simp; omega) | (simp; done))))) hb6
  have hz6 := hb6.size
  (try simp only [World.size_drew, World.size_alloc] at hz6)
  have hz6_0 : w.heap.size < w6.heap.size := by omega
  have hz6_1 : w.heap.size + 1 < w6.heap.size := by omega
  have hz6_2 : w.heap.size + 2 < w6.heap.size := by omega
  have hz6_3 : w1.heap.size < w6.heap.size := by omega
  have hz6_4 : w2.heap.size < w6.heap.size := by omega
  have hz6_5 : w5.heap.size < w6.heap.size := by omega
  have HC6_0 : ∀ o, w6.cell? ⟨w.heap.size, o, none⟩ = (#[Value.int .i64 k, Value.int .i64 op, Value.int .i64 cl, Value.int .i64 st, Value.int .i64 sp, Value.int .i64 ex, Value.int .i64 la, Value.int .i64 fl, Value.int .i64 fa, Value.int .i64 co, Value.int .i64 ru] : Array Value)[o]? := fun o => (hb6.cell (p := ⟨w.heap.size, o, none⟩) (by first | (simp; done) | omega | (simp; omega))).trans (by simp [go_sem, *])
  have HC6_1 : ∀ o, w6.cell? ⟨w.heap.size + 1, o, none⟩ = (#[Value.int .i64 ld, Value.int .i64 li, Value.int .i64 pr, Value.int .i64 rc] : Array Value)[o]? := fun o => (hb6.cell (p := ⟨w.heap.size + 1, o, none⟩) (by first | (simp; done) | omega | (simp; omega))).trans (by simp [go_sem, *])
  have HC6_2 : ∀ o, w6.cell? ⟨w.heap.size + 2, o, none⟩ = (#[Value.int .i64 bd, Value.int .i64 bl, Value.int .i64 bf, Value.int .i64 bn] : Array Value)[o]? := fun o => (hb6.cell (p := ⟨w.heap.size + 2, o, none⟩) (by first | (simp; done) | omega | (simp; omega))).trans (by simp [go_sem, *])
  have HC6_3 : ∀ o, w6.cell? ⟨w1.heap.size, o, none⟩ = (#[Value.int .i64 (-1), Value.int .i64 0, Value.int .i64 0, Value.int .i64 cl] : Array Value)[o]? := fun o => (hb6.cell (p := ⟨w1.heap.size, o, none⟩) (by first | (simp; done) | omega | (simp; omega))).trans (by simp [go_sem, *])
  have HC6_4 : ∀ o, w6.cell? ⟨w2.heap.size, o, none⟩ = (#[Value.int .i64 (-1), Value.int .i64 0, Value.int .i64 0, Value.int .i64 cl] : Array Value)[o]? := fun o => (hb6.cell (p := ⟨w2.heap.size, o, none⟩) (by first | (simp; done) | omega | (simp; omega))).trans (by simp [go_sem, *])
  have HC6_5 : ∀ o, w6.cell? ⟨w5.heap.size, o, none⟩ = (#[Value.int .i64 0, Value.int .i64 0, Value.int .i64 0, Value.int .i64 0] : Array Value)[o]? := fun o => (hb6.cell (p := ⟨w5.heap.size, o, none⟩) (by first | (simp; done) | omega | (simp; omega))).trans (by simp [go_sem, *])
  clear hb6 hz6
  clear HB5 hz5_0 HC5_0 hz5_1 HC5_1 hz5_2 HC5_2 hz5_3 HC5_3 hz5_4 HC5_4
  go_upto_region 7 with fail
  go_region_held3 (fun w' => Below w.heap.size w w' ∧ (w.heap.size < w'.heap.size ∧ ∀ o, w'.cell? ⟨w.heap.size, o, none⟩ = (#[Value.int .i64 k, Value.int .i64 op, Value.int .i64 cl, Value.int .i64 st, Value.int .i64 sp, Value.int .i64 ex, Value.int .i64 la, Value.int .i64 fl, Value.int .i64 fa, Value.int .i64 co, Value.int .i64 ru] : Array Value)[o]?) ∧ (w.heap.size + 1 < w'.heap.size ∧ ∀ o, w'.cell? ⟨w.heap.size + 1, o, none⟩ = (#[Value.int .i64 ld, Value.int .i64 li, Value.int .i64 pr, Value.int .i64 rc] : Array Value)[o]?) ∧ (w1.heap.size < w'.heap.size ∧ ∀ o, w'.cell? ⟨w1.heap.size, o, none⟩ = (#[Value.int .i64 (-1), Value.int .i64 0, Value.int .i64 0, Value.int .i64 cl] : Array Value)[o]?) ∧ (w2.heap.size < w'.heap.size ∧ ∀ o, w'.cell? ⟨w2.heap.size, o, none⟩ = (#[Value.int .i64 (-1), Value.int .i64 0, Value.int .i64 0, Value.int .i64 cl] : Array Value)[o]?) ∧ (w5.heap.size < w'.heap.size ∧ ∀ o, w'.cell? ⟨w5.heap.size, o, none⟩ = (#[Value.int .i64 0, Value.int .i64 0, Value.int .i64 0, Value.int .i64 0] : Array Value)[o]?) ∧ (w6.heap.size < w'.heap.size ∧ ∀ o, w'.cell? ⟨w6.heap.size, o, none⟩ = (#[Value.int .i64 0, Value.int .i64 0, Value.int .i64 0, Value.int .i64 0] : Array Value)[o]?)) (((try go_split_ands); refine ⟨?_, ⟨?_, ?_⟩, ⟨?_, ?_⟩, ⟨?_, ?_⟩, ⟨?_, ?_⟩, ⟨?_, ?_⟩, ⟨?_, ?_⟩⟩; (focus (first | (focus repeat' (first | (with_reducible exact Below.refl _ _) | (with_reducible assumption) | (with_reducible refine Below.alloc ?_ ?_ _) | (with_reducible refine Below.drew ?_) | (with_reducible refine Below.setCell ?_ ?_ _) | (first | (with_reducible exact Nat.le_refl _) | (with_reducible assumption) | omega | (simp; omega) | (simp; done)))))); (focus (first | (with_reducible assumption) | (simp; done) | omega | (simp; omega))); (focus (first | (with_reducible assumption) | (intro o; simp [go_sem, *]; done))); (focus (first | (with_reducible assumption) | (simp; done) | omega | (simp; omega))); (focus (first | (with_reducible assumption) | (intro o; simp [go_sem, *]; done))); (focus (first | (with_reducible assumption) | (simp; done) | omega | (simp; omega))); (focus (first | (with_reducible assumption) | (intro o; simp [go_sem, *]; done))); (focus (first | (with_reducible assumption) | (simp; done) | omega | (simp; omega))); (focus (first | (with_reducible assumption) | (intro o; simp [go_sem, *]; done))); (focus (first | (with_reducible assumption) | (simp; done) | omega | (simp; omega))); (focus (first | (with_reducible assumption) | (intro o; simp [go_sem, *]; done))); (focus (first | (with_reducible assumption) | (simp; done) | omega | (simp; omega))); (focus (first | (with_reducible assumption) | (intro o; simp [go_sem, *]; done)))))
      (first | (go_at_call 14; (apply Calls.mono; focus ((apply check_ok <;> (first | (with_reducible assumption) | (with_reducible rfl) | omega)); done)); rintro e w7 ⟨rfl, hb7⟩; (try go_split_ands); have HB7 : Below w.heap.size w w7 := bstep (by with_reducible assumption) hb7; have hz7 := hb7.size; (try simp only [World.size_drew, World.size_alloc] at hz7); (have hz7_0 : w.heap.size < w7.heap.size := by omega); (have hz7_1 : w.heap.size + 1 < w7.heap.size := by omega); (have hz7_2 : w1.heap.size < w7.heap.size := by omega); (have hz7_3 : w2.heap.size < w7.heap.size := by omega); (have hz7_4 : w5.heap.size < w7.heap.size := by omega); (have hz7_5 : w6.heap.size < w7.heap.size := by omega); obtain ⟨hc7, hf7⟩ := bcell hb7; (try simp only [World.size_drew, World.size_alloc, World.cell?_drew, World.frozen?_drew] at hc7 hf7); (have HC7_0 : ∀ o, w7.cell? ⟨w.heap.size, o, none⟩ = (#[Value.int .i64 k, Value.int .i64 op, Value.int .i64 cl, Value.int .i64 st, Value.int .i64 sp, Value.int .i64 ex, Value.int .i64 la, Value.int .i64 fl, Value.int .i64 fa, Value.int .i64 co, Value.int .i64 ru] : Array Value)[o]? := by (intro o; simp [go_sem, *])); (have HC7_1 : ∀ o, w7.cell? ⟨w.heap.size + 1, o, none⟩ = (#[Value.int .i64 ld, Value.int .i64 li, Value.int .i64 pr, Value.int .i64 rc] : Array Value)[o]? := by (intro o; simp [go_sem, *])); (have HC7_2 : ∀ o, w7.cell? ⟨w1.heap.size, o, none⟩ = (#[Value.int .i64 (-1), Value.int .i64 0, Value.int .i64 0, Value.int .i64 cl] : Array Value)[o]? := by (intro o; simp [go_sem, *])); (have HC7_3 : ∀ o, w7.cell? ⟨w2.heap.size, o, none⟩ = (#[Value.int .i64 (-1), Value.int .i64 0, Value.int .i64 0, Value.int .i64 cl] : Array Value)[o]? := by (intro o; simp [go_sem, *])); (have HC7_4 : ∀ o, w7.cell? ⟨w5.heap.size, o, none⟩ = (#[Value.int .i64 0, Value.int .i64 0, Value.int .i64 0, Value.int .i64 0] : Array Value)[o]? := by (intro o; simp [go_sem, *])); (have HC7_5 : ∀ o, w7.cell? ⟨w6.heap.size, o, none⟩ = (#[Value.int .i64 0, Value.int .i64 0, Value.int .i64 0, Value.int .i64 0] : Array Value)[o]? := by (intro o; simp [go_sem, *]))) | (go_at_call 15; (apply Calls.mono; focus ((apply rcheck_ok <;> (first | (with_reducible assumption) | (with_reducible rfl) | omega)); done)); rintro e w8 ⟨rfl, hb8⟩; (try go_split_ands); have HB8 : Below w.heap.size w w8 := bstep (by with_reducible assumption) hb8; have hz8 := hb8.size; (try simp only [World.size_drew, World.size_alloc] at hz8); (have hz8_0 : w.heap.size < w8.heap.size := by omega); (have hz8_1 : w.heap.size + 1 < w8.heap.size := by omega); (have hz8_2 : w1.heap.size < w8.heap.size := by omega); (have hz8_3 : w2.heap.size < w8.heap.size := by omega); (have hz8_4 : w5.heap.size < w8.heap.size := by omega); (have hz8_5 : w6.heap.size < w8.heap.size := by omega); obtain ⟨hc8, hf8⟩ := bcell hb8; (try simp only [World.size_drew, World.size_alloc, World.cell?_drew, World.frozen?_drew] at hc8 hf8); (have HC8_0 : ∀ o, w8.cell? ⟨w.heap.size, o, none⟩ = (#[Value.int .i64 k, Value.int .i64 op, Value.int .i64 cl, Value.int .i64 st, Value.int .i64 sp, Value.int .i64 ex, Value.int .i64 la, Value.int .i64 fl, Value.int .i64 fa, Value.int .i64 co, Value.int .i64 ru] : Array Value)[o]? := by (intro o; simp [go_sem, *])); (have HC8_1 : ∀ o, w8.cell? ⟨w.heap.size + 1, o, none⟩ = (#[Value.int .i64 ld, Value.int .i64 li, Value.int .i64 pr, Value.int .i64 rc] : Array Value)[o]? := by (intro o; simp [go_sem, *])); (have HC8_2 : ∀ o, w8.cell? ⟨w1.heap.size, o, none⟩ = (#[Value.int .i64 (-1), Value.int .i64 0, Value.int .i64 0, Value.int .i64 cl] : Array Value)[o]? := by (intro o; simp [go_sem, *])); (have HC8_3 : ∀ o, w8.cell? ⟨w2.heap.size, o, none⟩ = (#[Value.int .i64 (-1), Value.int .i64 0, Value.int .i64 0, Value.int .i64 cl] : Array Value)[o]? := by (intro o; simp [go_sem, *])); (have HC8_4 : ∀ o, w8.cell? ⟨w5.heap.size, o, none⟩ = (#[Value.int .i64 0, Value.int .i64 0, Value.int .i64 0, Value.int .i64 0] : Array Value)[o]? := by (intro o; simp [go_sem, *])); (have HC8_5 : ∀ o, w8.cell? ⟨w6.heap.size, o, none⟩ = (#[Value.int .i64 0, Value.int .i64 0, Value.int .i64 0, Value.int .i64 0] : Array Value)[o]? := by (intro o; simp [go_sem, *]))))
  clear HB6 hz6_0 HC6_0 hz6_1 HC6_1 hz6_2 HC6_2 hz6_3 HC6_3 hz6_4 HC6_4 hz6_5 HC6_5
  clear hb7 hc7 hf7 hb8 hc8 hf8
  go_wp2_with fail
  (apply Calls.mono; focus ((apply rright_yes <;> (first | (with_reducible assumption) | (with_reducible rfl) | omega)); done)); rintro e w9 ⟨rfl, hb9⟩
  have HB9 : Below w.heap.size w w9 := bstep (by (focus repeat' (first | (with_reducible exact Below.refl _ _) | (with_reducible assumption) | (with_reducible refine Below.alloc ?_ ?_ _) | (with_reducible refine Below.drew ?_) | (with_reducible refine Below.setCell ?_ ?_ _) | (first | (with_reducible exact Nat.le_refl _) | (with_reducible assumption) | omega | (simp; omega) | (simp; done))))) hb9
  have hz9 := hb9.size
  (try simp only [World.size_drew, World.size_alloc] at hz9)
  have hz9_0 : w.heap.size < w9.heap.size := by omega
  have hz9_1 : w.heap.size + 1 < w9.heap.size := by omega
  have HC9_0 : ∀ o, w9.cell? ⟨w.heap.size, o, none⟩ = (#[Value.int .i64 k, Value.int .i64 op, Value.int .i64 cl, Value.int .i64 st, Value.int .i64 sp, Value.int .i64 ex, Value.int .i64 la, Value.int .i64 fl, Value.int .i64 fa, Value.int .i64 co, Value.int .i64 ru] : Array Value)[o]? := fun o => (hb9.cell (p := ⟨w.heap.size, o, none⟩) (by first | (simp; done) | omega | (simp; omega))).trans (by simp [go_sem, *])
  have HC9_1 : ∀ o, w9.cell? ⟨w.heap.size + 1, o, none⟩ = (#[Value.int .i64 ld, Value.int .i64 li, Value.int .i64 pr, Value.int .i64 rc] : Array Value)[o]? := fun o => (hb9.cell (p := ⟨w.heap.size + 1, o, none⟩) (by first | (simp; done) | omega | (simp; omega))).trans (by simp [go_sem, *])
  clear hb9 hz9
  clear HB8 hz8_0 HC8_0 hz8_1 HC8_1 hz8_2 HC8_2 hz8_3 HC8_3 hz8_4 HC8_4 hz8_5 HC8_5
  go_wp2_with fail
  (apply Calls.mono; focus ((apply End_yes <;> (first | (with_reducible assumption) | (with_reducible rfl) | omega)); done)); rintro e w10 ⟨rfl, hb10⟩
  have HB10 : Below w.heap.size w w10 := bstep (by (focus repeat' (first | (with_reducible exact Below.refl _ _) | (with_reducible assumption) | (with_reducible refine Below.alloc ?_ ?_ _) | (with_reducible refine Below.drew ?_) | (with_reducible refine Below.setCell ?_ ?_ _) | (first | (with_reducible exact Nat.le_refl _) | (with_reducible assumption) | omega | (simp; omega) | (simp; done))))) hb10
  have hz10 := hb10.size
  (try simp only [World.size_drew, World.size_alloc] at hz10)
  have hz10_0 : w.heap.size < w10.heap.size := by omega
  have hz10_1 : w.heap.size + 1 < w10.heap.size := by omega
  have HC10_0 : ∀ o, w10.cell? ⟨w.heap.size, o, none⟩ = (#[Value.int .i64 k, Value.int .i64 op, Value.int .i64 cl, Value.int .i64 st, Value.int .i64 sp, Value.int .i64 ex, Value.int .i64 la, Value.int .i64 fl, Value.int .i64 fa, Value.int .i64 co, Value.int .i64 ru] : Array Value)[o]? := fun o => (hb10.cell (p := ⟨w.heap.size, o, none⟩) (by first | (simp; done) | omega | (simp; omega))).trans (by simp [go_sem, *])
  have HC10_1 : ∀ o, w10.cell? ⟨w.heap.size + 1, o, none⟩ = (#[Value.int .i64 ld, Value.int .i64 li, Value.int .i64 pr, Value.int .i64 rc] : Array Value)[o]? := fun o => (hb10.cell (p := ⟨w.heap.size + 1, o, none⟩) (by first | (simp; done) | omega | (simp; omega))).trans (by simp [go_sem, *])
  clear hb10 hz10
  clear HB9 hz9_0 HC9_0 hz9_1 HC9_1
  go_wp2_with fail
  (apply Calls.mono; focus ((apply right_yes <;> (first | (with_reducible assumption) | (with_reducible rfl) | omega)); done)); rintro e w11 ⟨rfl, hb11⟩
  have HB11 : Below w.heap.size w w11 := bstep (by (focus repeat' (first | (with_reducible exact Below.refl _ _) | (with_reducible assumption) | (with_reducible refine Below.alloc ?_ ?_ _) | (with_reducible refine Below.drew ?_) | (with_reducible refine Below.setCell ?_ ?_ _) | (first | (with_reducible exact Nat.le_refl _) | (with_reducible assumption) | omega | (simp; omega) | (simp; done))))) hb11
  have hz11 := hb11.size
  (try simp only [World.size_drew, World.size_alloc] at hz11)
  have hz11_0 : w.heap.size < w11.heap.size := by omega
  have hz11_1 : w.heap.size + 1 < w11.heap.size := by omega
  have HC11_0 : ∀ o, w11.cell? ⟨w.heap.size, o, none⟩ = (#[Value.int .i64 k, Value.int .i64 op, Value.int .i64 cl, Value.int .i64 st, Value.int .i64 sp, Value.int .i64 ex, Value.int .i64 la, Value.int .i64 fl, Value.int .i64 fa, Value.int .i64 co, Value.int .i64 ru] : Array Value)[o]? := fun o => (hb11.cell (p := ⟨w.heap.size, o, none⟩) (by first | (simp; done) | omega | (simp; omega))).trans (by simp [go_sem, *])
  have HC11_1 : ∀ o, w11.cell? ⟨w.heap.size + 1, o, none⟩ = (#[Value.int .i64 ld, Value.int .i64 li, Value.int .i64 pr, Value.int .i64 rc] : Array Value)[o]? := fun o => (hb11.cell (p := ⟨w.heap.size + 1, o, none⟩) (by first | (simp; done) | omega | (simp; omega))).trans (by simp [go_sem, *])
  clear hb11 hz11
  clear HB10 hz10_0 HC10_0 hz10_1 HC10_1
  go_wp2_with fail
  (apply Calls.mono; focus ((apply known_any <;> (first | (with_reducible assumption) | (with_reducible rfl) | omega)); done)); rintro e w12 ⟨rfl, hb12⟩
  have HB12 : Below w.heap.size w w12 := bstep (by (focus repeat' (first | (with_reducible exact Below.refl _ _) | (with_reducible assumption) | (with_reducible refine Below.alloc ?_ ?_ _) | (with_reducible refine Below.drew ?_) | (with_reducible refine Below.setCell ?_ ?_ _) | (first | (with_reducible exact Nat.le_refl _) | (with_reducible assumption) | omega | (simp; omega) | (simp; done))))) hb12
  have hz12 := hb12.size
  (try simp only [World.size_drew, World.size_alloc] at hz12)
  have hz12_0 : w.heap.size < w12.heap.size := by omega
  have hz12_1 : w.heap.size + 1 < w12.heap.size := by omega
  have HC12_0 : ∀ o, w12.cell? ⟨w.heap.size, o, none⟩ = (#[Value.int .i64 k, Value.int .i64 op, Value.int .i64 cl, Value.int .i64 st, Value.int .i64 sp, Value.int .i64 ex, Value.int .i64 la, Value.int .i64 fl, Value.int .i64 fa, Value.int .i64 co, Value.int .i64 ru] : Array Value)[o]? := fun o => (hb12.cell (p := ⟨w.heap.size, o, none⟩) (by first | (simp; done) | omega | (simp; omega))).trans (by simp [go_sem, *])
  have HC12_1 : ∀ o, w12.cell? ⟨w.heap.size + 1, o, none⟩ = (#[Value.int .i64 ld, Value.int .i64 li, Value.int .i64 pr, Value.int .i64 rc] : Array Value)[o]? := fun o => (hb12.cell (p := ⟨w.heap.size + 1, o, none⟩) (by first | (simp; done) | omega | (simp; omega))).trans (by simp [go_sem, *])
  clear hb12 hz12
  clear HB11 hz11_0 HC11_0 hz11_1 HC11_1
  go_wp2
  go_ret
  exact ⟨rfl, HB12⟩
end Go.Proofs.Ytbbdneekfejjkaa
