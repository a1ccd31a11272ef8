import Derived.Test.YtehpjipmlpaflaaUx
import Derived.Test.YtehpjipmlpaflaaVx
namespace Go.Proofs.Ytehpjipmlpaflaa.un
open Go.ChangeShapes Go.WideShapes Go.ChangeAt Go.RowKit Go.Deep Go.Shelf
set_option linter.unusedSimpArgs false
set_option linter.unusedVariables false

attribute [local go_sem] Oper.semAt_some

set_option maxHeartbeats 2000000 in
theorem UOrder_long (count floor leave : Int) (so : Option Addr) (cap : Nat) (L : List (List Int)) (w : World) (hb : BRows so L w) (hl : isLong L) : Calls Try.prog 4 #[.agg #[.int .i64 count, .int .i64 floor, .slice so L.length cap], .int .i64 leave] w fun e w' => e = .returned (.bool true) ∧ Below w.heap.size w w' := by
  refine (callsIn_wide (n := 3)).1 ?_
  refine callsIn_of_wp_marks Try.func4 rfl trivial ?_ rfl
  simp only [Try.ntmps4, List.size_toArray, List.length_cons, List.length_nil, Nat.reduceAdd, Nat.reduceSub, Array.replicate_succ, Array.replicate_zero, List.push_toArray, List.append_toArray, List.nil_append, List.cons_append]
  have HB := hide hb
  have HL := hide hl
  clear hb hl
  gi_wp2_with fail
  obtain ⟨W0, hW0⟩ : ∃ W0, W0 = ((w.alloc (.cells #[.int .i64 count, .int .i64 floor, .slice so L.length cap] 24)).alloc (.cells #[.int .i64 leave] 3)).alloc (.cells #[.bool false] 4) := ⟨_, rfl⟩
  rw [← hW0]
  have hb0 : Below w.heap.size w W0 := by rw [hW0]; (focus repeat' (first | (with_reducible exact Below.refl _ _) | (with_reducible assumption) | (with_reducible refine Below.alloc ?_ ?_ _) | (with_reducible refine Below.drew ?_) | (with_reducible refine bdrewN ?_ _) | (with_reducible refine Below.setCell ?_ ?_ _) | (first | (with_reducible exact Nat.le_refl _) | (with_reducible assumption) | omega | (simp; omega) | (simp; done))))
  have hz0 : W0.heap.size = w.heap.size + 3 := by rw [hW0]; simp
  have HR0 := hide (show W0.cell? ⟨w.heap.size + 2, 0, none⟩ = some (.bool false) from by rw [hW0]; simp [go_sem])
  have FR0 := hide (show W0.frozen? ⟨w.heap.size + 2, 0, none⟩ = false from by rw [hW0]; simp [go_sem])
  have HB0 := hide hb0
  clear hW0 hb0
  refine (callsIn_wide.2 (long_yes count floor so cap L _ (HB.out.below HB0.out) HL.out)).mono ?_
  rintro e w1 ⟨rfl, hb1⟩
  have HB1 := hide hb1
  have hz1 := hb1.size
  clear hb1
  gi_wp2_with fail
  refine (callsIn_wide.2 (known_c _)).mono ?_
  rintro e w9 ⟨rfl, hb9⟩
  have HB9 := hide (bstep HB0.out (bstep HB1.out hb9))
  have c9 := ((bstep HB1.out hb9).cell (p := ⟨w.heap.size + 2, 0, none⟩) (show w.heap.size + 2 < W0.heap.size by omega)).trans HR0.out
  have f9 := ((bstep HB1.out hb9).frozen (p := ⟨w.heap.size + 2, 0, none⟩) (show w.heap.size + 2 < W0.heap.size by omega)).trans FR0.out
  clear hb9
  gi_wp2
  have hc5 := World.cell?_setCell_same' w9 ⟨w.heap.size + 2, 0, none⟩ (.bool true) (by rw [c9]; rfl)
  refine ⟨.bool true, ?_, rfl, HB9.out.setCell (p := ⟨w.heap.size + 2, 0, none⟩) (by simp) _⟩
  simp [results, Try.f4, go_sem, hc5]
theorem UnitsOrder_c (count floor leave : Int) (so : Option Addr) (cap : Nat) (L : List (List Int)) (w : World) (hb : BRows so L w) : Calls Try.prog 4 #[.agg #[.int .i64 count, .int .i64 floor, .slice so L.length cap], .int .i64 leave] w fun e w' => e = .returned (.bool true) ∧ Below w.heap.size w w' := by
  rcases long_one L with h | h
  · exact UOrder_long count floor leave so cap L w hb h
  · obtain ⟨v, hw⟩ := wrong_one count floor L
    by_cases hv : v = 0
    · subst hv
      exact UOrder_yes count floor leave so cap L w hb h hw
    · exact UOrder_no count floor leave so cap L w hb h v hw hv
end Go.Proofs.Ytehpjipmlpaflaa.un
