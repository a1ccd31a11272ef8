import Derived.Test.YtajkgecegefnmaaV2
namespace Go.Proofs.Ytajkgecegefnmaa
open Go.ChangeShapes Go.WideShapes Go.ChangeAt Go.RowKit Go.Deep
set_option linter.unusedSimpArgs false
set_option linter.unusedVariables false

/-- what 'pair' answers -/
def pa (ns : List Nat) (a : Nat) : Nat := if (rd ns a).2.1 ≠ 0 then 0 else (rd ns a).1
def pb (ns : List Nat) (a : Nat) : Nat := if (rd ns a).2.1 ≠ 0 then 0 else (rd ns (rd ns a).2.2).1
def pe (ns : List Nat) (a : Nat) : Nat := if (rd ns a).2.1 ≠ 0 then (rd ns a).2.1 else (rd ns (rd ns a).2.2).2.1
def pp (ns : List Nat) (a : Nat) : Nat := if (rd ns a).2.1 ≠ 0 then (rd ns a).2.2 else (rd ns (rd ns a).2.2).2.2
theorem eql44 (a b : Array Value) (w : World) : Sem.run Try.prog (binOp .eql 44 (.func (.func 21) a b) Value.nilFunc) w = .ok (.bool false) w := by kernel_rfl
theorem info43 : (Try.prog.info? 43).map (fun i => (i.zero, i.size, i.bytes)) = some (some (.agg #[.int .u64 0, .int .u64 0]), 2, 16) := by kernel_rfl

theorem Only.trans_b {g : Nat} {w w1 w2 : World} (h : Below w.heap.size w w1) (k : Only g w1 w2) : Only g w w2 :=
  ⟨k.os.trans h.os, k.tape.trans h.tape, k.output.trans h.output, Nat.le_trans h.size k.size, fun i hi h1 => (k.block i (Nat.lt_of_lt_of_le hi h.size) h1).trans (h.block i hi)⟩
theorem Only.trans {g : Nat} {w w1 w2 : World} (h : Only g w w1) (k : Only g w1 w2) : Only g w w2 :=
  ⟨k.os.trans h.os, k.tape.trans h.tape, k.output.trans h.output, Nat.le_trans h.size k.size, fun i hi h1 => (k.block i (Nat.lt_of_lt_of_le hi h.size) h1).trans (h.block i hi h1)⟩
theorem Only.set_new {g h : Nat} {w w1 : World} (k : Only g w w1) (hh : w.heap.size ≤ h) (o : Nat) (u : Value) : Only g w (w1.setCell ⟨h, o, none⟩ u) :=
  ⟨k.os, k.tape, k.output, by simp; exact k.size, fun i hi h1 => (Below.heap_setCell _ _ _ _ (by show i ≠ h; omega)).trans (k.block i hi h1)⟩

set_option maxRecDepth 100000 in
set_option maxHeartbeats 1000000 in
theorem pair_bad (g B : Nat) (ns : List Nat) (a : Nat) (w : World) (hR : RAny w g B ns a) (hE : (rd ns a).2.1 ≠ 0) : Calls Try.prog 21 #[.pointer (some ⟨g, 0, none⟩)] w (fun e w' => e = .returned (.tuple #[.agg #[.int .u64 (0 : Int), .int .u64 (0 : Int)], .int .i64 ((rd ns a).2.1 : Int)]) ∧ Only g w w' ∧ RAny w' g B ns (rd ns a).2.2) := by
  have hE2 : ((rd ns a).2.1 : Int) ≠ 0 := by omega
  have hB0 : Below w.heap.size w (w.alloc (.cells #[.int .u64 0, .int .u64 0] 43)) := by (focus repeat' (first | (with_reducible exact Below.refl _ _) | (with_reducible assumption) | (with_reducible refine Below.alloc ?_ ?_ _) | (with_reducible refine Below.drew ?_) | (with_reducible refine bdrewN ?_ _) | (with_reducible refine Below.setCell ?_ ?_ _) | (first | (with_reducible exact Nat.le_refl _) | (with_reducible assumption) | omega | (simp; omega) | (simp; done))))
  have HR0 := hide (hR.below hB0)
  have HB0 := hide hB0
  have hg : g < w.heap.size := hR.cells.1
  have hb : B ≤ w.heap.size := hR.1
  clear hR hB0
  go_enter Try.func21, Try.ntmps21
  go_wp2_with fail
  refine (RNum_any g B ns a _ HR0.out).mono ?_
  rintro e w1 ⟨rfl, ho1, hR1⟩
  have HR1 := hide hR1
  have hO1 := hide (Only.trans_b HB0.out ho1)
  have x1 : ∀ o, w1.cell? ⟨w.heap.size, o, none⟩ = (#[Value.int .u64 0, Value.int .u64 0] : Array Value)[o]? := fun o => (World.cell?_of_block (ho1.block w.heap.size (by simp) (by omega))).trans (by simp [go_sem])
  have x2 : ∀ o, w1.frozen? ⟨w.heap.size, o, none⟩ = false := fun o => (World.frozen?_of_block (ho1.block w.heap.size (by simp) (by omega))).trans (by simp [go_sem])
  have x3 : w.heap.size < w1.heap.size := Nat.lt_of_lt_of_le (by simp) ho1.size
  clear ho1 hR1 HR0 HB0
  go_wp2_with (go_at_call 23; go_in)
  refine bodyPost_ret (v := .tuple #[.agg #[.int .u64 0, .int .u64 0], .int .i64 ((rd ns a).2.1 : Int)]) (by simp [results, Try.results21, go_sem, *]) rfl ⟨rfl, ?_, ?_⟩
  · exact (hO1.out.set_new (Nat.le_refl _) 0 _).set_new (Nat.le_refl _) 1 _
  · exact (HR1.out.set (by omega) hb 0 _).set (by omega) hb 1 _

set_option maxRecDepth 100000 in
set_option maxHeartbeats 1000000 in
theorem pair_ok (g B : Nat) (ns : List Nat) (a : Nat) (w : World) (hR : RAny w g B ns a) (hE : (rd ns a).2.1 = 0) : Calls Try.prog 21 #[.pointer (some ⟨g, 0, none⟩)] w (fun e w' => e = .returned (.tuple #[.agg #[.int .u64 ((rd ns a).1 : Int), .int .u64 ((rd ns (rd ns a).2.2).1 : Int)], .int .i64 ((rd ns (rd ns a).2.2).2.1 : Int)]) ∧ Only g w w' ∧ RAny w' g B ns (rd ns (rd ns a).2.2).2.2) := by
  have hB0 : Below w.heap.size w (w.alloc (.cells #[.int .u64 0, .int .u64 0] 43)) := by (focus repeat' (first | (with_reducible exact Below.refl _ _) | (with_reducible assumption) | (with_reducible refine Below.alloc ?_ ?_ _) | (with_reducible refine Below.drew ?_) | (with_reducible refine bdrewN ?_ _) | (with_reducible refine Below.setCell ?_ ?_ _) | (first | (with_reducible exact Nat.le_refl _) | (with_reducible assumption) | omega | (simp; omega) | (simp; done))))
  have HR0 := hide (hR.below hB0)
  have HB0 := hide hB0
  have hg : g < w.heap.size := hR.cells.1
  have hb : B ≤ w.heap.size := hR.1
  clear hR hB0
  go_enter Try.func21, Try.ntmps21
  go_wp2_with fail
  refine (RNum_any g B ns a _ HR0.out).mono ?_
  rw [hE]
  rintro e w1 ⟨rfl, ho1, hR1⟩
  have HR1 := hide hR1
  have hO1 := hide (Only.trans_b HB0.out ho1)
  have x1 : ∀ o, w1.cell? ⟨w.heap.size, o, none⟩ = (#[Value.int .u64 0, Value.int .u64 0] : Array Value)[o]? := fun o => (World.cell?_of_block (ho1.block w.heap.size (by simp) (by omega))).trans (by simp [go_sem])
  have x2 : ∀ o, w1.frozen? ⟨w.heap.size, o, none⟩ = false := fun o => (World.frozen?_of_block (ho1.block w.heap.size (by simp) (by omega))).trans (by simp [go_sem])
  have x3 : w.heap.size < w1.heap.size := Nat.lt_of_lt_of_le (by simp) ho1.size
  clear ho1 hR1 HR0 HB0
  go_wp2_with (first | (go_at_call 23; go_in) | (go_at_call 40; refine (RNum_any g B ns _ _ HR1.out).mono ?_; rintro e w2 ⟨rfl, ho2, hR2⟩; have HR2 := hide hR2; have hO2 := hide (hO1.out.trans ho2); have y1 : ∀ o, w2.cell? ⟨w.heap.size, o, none⟩ = (#[Value.int .u64 0, Value.int .u64 0] : Array Value)[o]? := fun o => (World.cell?_of_block (ho2.block w.heap.size x3 (by omega))).trans (x1 o); have y2 : ∀ o, w2.frozen? ⟨w.heap.size, o, none⟩ = false := fun o => (World.frozen?_of_block (ho2.block w.heap.size x3 (by omega))).trans (x2 o); have y3 : w.heap.size < w2.heap.size := Nat.lt_of_lt_of_le x3 ho2.size; clear x1 x2 ho2 hR2 HR1 hO1))
  refine bodyPost_ret (v := .tuple #[.agg #[.int .u64 ((rd ns a).1 : Int), .int .u64 ((rd ns (rd ns a).2.2).1 : Int)], .int .i64 ((rd ns (rd ns a).2.2).2.1 : Int)]) (by simp [results, Try.results21, go_sem, *]) rfl ⟨rfl, ?_, ?_⟩
  · exact (hO2.out.set_new (Nat.le_refl _) 0 _).set_new (Nat.le_refl _) 1 _
  · exact (HR2.out.set (by omega) hb 0 _).set (by omega) hb 1 _

theorem elt_P (g B : Nat) (ns : List Nat) (a : Nat) (w : World) (hR : RAny w g B ns a) : Calls Try.prog 21 #[.pointer (some ⟨g, 0, none⟩)] w (fun e w' => e = .returned (.tuple #[.agg #[.int .u64 (pa ns a : Int), .int .u64 (pb ns a : Int)], .int .i64 (pe ns a : Int)]) ∧ Only g w w' ∧ RAny w' g B ns (pp ns a)) := by
  by_cases hE : (rd ns a).2.1 = 0
  · have e1 : pa ns a = (rd ns a).1 := by unfold pa; rw [if_neg (by omega)]
    have e2 : pb ns a = (rd ns (rd ns a).2.2).1 := by unfold pb; rw [if_neg (by omega)]
    have e3 : pe ns a = (rd ns (rd ns a).2.2).2.1 := by unfold pe; rw [if_neg (by omega)]
    have e4 : pp ns a = (rd ns (rd ns a).2.2).2.2 := by unfold pp; rw [if_neg (by omega)]
    rw [e1, e2, e3, e4]; exact pair_ok g B ns a w hR hE
  · have e1 : pa ns a = 0 := by unfold pa; rw [if_pos hE]
    have e2 : pb ns a = 0 := by unfold pb; rw [if_pos hE]
    have e3 : pe ns a = (rd ns a).2.1 := by unfold pe; rw [if_pos hE]
    have e4 : pp ns a = (rd ns a).2.2 := by unfold pp; rw [if_pos hE]
    rw [e1, e2, e3, e4]; exact pair_bad g B ns a w hR hE
end Go.Proofs.Ytajkgecegefnmaa
