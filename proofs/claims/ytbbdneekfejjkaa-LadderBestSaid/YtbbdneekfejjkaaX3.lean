import Derived.Test.YtbbdneekfejjkaaX2
namespace Go.Proofs.Ytbbdneekfejjkaa.best
open Go.ChangeShapes Go.WideShapes Go.ChangeAt Go.RowKit Go.Deep
set_option linter.unusedSimpArgs false
set_option linter.unusedVariables false

set_option maxRecDepth 100000 in
set_option maxHeartbeats 2000000 in
theorem Best_empty (ao : Option Addr) (n0 cap : Nat) (st sp : Int) (w : World) (hL : 0 ≤ st ∧ st ≤ 1099511627776 ∧ 1 ≤ sp ∧ sp ≤ 1099511627776) (hn0 : n0 = 0) : Calls Try.prog 3 #[.slice ao n0 cap, .int .i64 st, .int .i64 sp] w fun e w' => e = .returned (.bool true) ∧ Below w.heap.size w w' := by
  have HN := hide hn0
  obtain ⟨hl1, hl2, hl3, hl4⟩ := hL
  have hL : 0 ≤ st ∧ st ≤ 1099511627776 ∧ 1 ≤ sp ∧ sp ≤ 1099511627776 := ⟨hl1, hl2, hl3, hl4⟩
  have h100' : ¬ (100 < (n0 : Int)) := by omega
  have hlt : ¬ ((0 : Int) < (n0 : Int)) := by omega
  clear hn0
  go_enter Try.func3, Try.ntmps3
  go_wp2_with fail
  refine (begin_b st sp _ hL).mono ?_
  rintro e w1 ⟨rfl, hb1⟩
  have HB1 : Below w.heap.size w w1 := bstep (by (focus repeat' (first | (with_reducible exact Below.refl _ _) | (with_reducible assumption) | (with_reducible refine Below.alloc ?_ ?_ _) | (with_reducible refine Below.drew ?_) | (with_reducible refine bdrewN ?_ _) | (with_reducible refine Below.setCell ?_ ?_ _) | (first | (with_reducible exact Nat.le_refl _) | (with_reducible assumption) | omega | (simp; omega) | (simp; done))))) hb1
  have hz1 := hb1.size
  (try simp only [World.size_drew, World.size_alloc] at hz1)
  have hz1_0 : w.heap.size < w1.heap.size := by omega
  have HC1_0 : ∀ o, w1.cell? ⟨w.heap.size, o, none⟩ = (#[Value.int .i64 1, Value.int .i64 0, Value.int .i64 10, Value.int .i64 st, Value.int .i64 sp, Value.int .i64 0, Value.int .i64 10, Value.int .i64 0, Value.int .i64 0, Value.int .i64 0, Value.int .i64 0] : Array Value)[o]? := fun o => (hb1.cell (p := ⟨w.heap.size, o, none⟩) (by first | (simp; done) | omega | (simp; omega))).trans (by first | (with_reducible assumption) | (simp [go_sem, *]; done))
  clear hb1 hz1
  go_wp2
  go_loop [10, 11, 12] (fun v10 v11 v12 => v10 = .slice none 0 0 ∧ v11 = .int .i64 (-1) ∧ v12 = .int .i64 0) (fun _ _ _ => 0)
  case atStart => exact ⟨rfl, rfl, rfl⟩
  case round =>
    obtain ⟨rfl, rfl, rfl⟩ := hrel
    go_wp2_with fail
    refine (known_b _).mono ?_
    rintro e w5 ⟨rfl, hb5⟩
    have HB5 : Below w.heap.size w w5 := bstep (by (focus repeat' (first | (with_reducible exact Below.refl _ _) | (with_reducible assumption) | (with_reducible refine Below.alloc ?_ ?_ _) | (with_reducible refine Below.drew ?_) | (with_reducible refine bdrewN ?_ _) | (with_reducible refine Below.setCell ?_ ?_ _) | (first | (with_reducible exact Nat.le_refl _) | (with_reducible assumption) | omega | (simp; omega) | (simp; done))))) hb5
    go_wp2
    go_ret
    exact ⟨by first | rfl | (simp; done), HB5⟩
end Go.Proofs.Ytbbdneekfejjkaa.best
