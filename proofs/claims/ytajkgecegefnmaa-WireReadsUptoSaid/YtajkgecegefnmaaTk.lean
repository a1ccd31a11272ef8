import Derived.Test.YtajkgecegefnmaaTj
namespace Go.Proofs.Ytajkgecegefnmaa
open Go.ChangeShapes Go.WideShapes Go.ChangeAt Go.RowKit Go.Deep
set_option linter.unusedSimpArgs false
set_option linter.unusedVariables false
theorem run56 (x : Nat) (w : World) : Sem.run Try.prog (callFunc 56 #[.int .u64 (x : Int)]) w = .ok (.value (.float .f64 x)) w := by kernel_rfl

set_option maxRecDepth 100000 in
set_option maxHeartbeats 1000000 in
theorem re1 (g B Br Bx : Nat) (ns : List Nat) (a : Nat) (w : World) (hR : RAny w g B ns a) (hB : ∀ o, w.cell? ⟨Br, o, none⟩ = (#[Value.pointer (some ⟨g, 0, none⟩)] : Array Value)[o]?) (hBz : Br < w.heap.size) (hXz : Bx < w.heap.size) (hX : ∀ o, w.cell? ⟨Bx, o, none⟩ = (#[Value.int .u64 0] : Array Value)[o]?) (hXf : ∀ o, w.frozen? ⟨Bx, o, none⟩ = false) (d1 : Br ≠ g) (d2 : Bx ≠ g) (d3 : Bx ≠ Br) (d4 : B ≤ Bx) : Calls Try.prog 74 #[.pointer (some ⟨Br, 0, none⟩), .pointer (some ⟨Bx, 0, none⟩)] w (fun e w' => e = .returned (.int .i64 ((nx ns a 8).2.1 : Int)) ∧ Only2 g Bx w w' ∧ RAny w' g B ns (nx ns a 8).2.2 ∧ w'.cell? ⟨Bx, 0, none⟩ = some (.int .u64 ((nx ns a 8).1 : Int))) := by
  have HR := hide hR
  have HX := hide hX
  have HXF := hide hXf
  clear hR hX hXf
  go_enter Try.func74, Try.ntmps74
  go_wp2_with fail
  refine (next_any g B ns a 8 _ HR.out (by omega) (by omega)).mono ?_
  rw [show nx ns a 8 = nx ns a 8 from rfl]
  rintro e w1 ⟨rfl, ho1, hR1⟩
  have HR1 := hide hR1
  have k1 : Only2 g Bx w w1 := Only2.of_only ho1
  have XC : ∀ o, w1.cell? ⟨Bx, o, none⟩ = (#[Value.int .u64 0] : Array Value)[o]? := fun o => (World.cell?_of_block (ho1.block Bx hXz d2)).trans (HX.out o)
  have XF : ∀ o, w1.frozen? ⟨Bx, o, none⟩ = false := fun o => (World.frozen?_of_block (ho1.block Bx hXz d2)).trans (HXF.out o)
  have BC : ∀ o, w1.cell? ⟨Br, o, none⟩ = (#[Value.pointer (some ⟨g, 0, none⟩)] : Array Value)[o]? := fun o => (World.cell?_of_block (ho1.block Br hBz d1)).trans (hB o)
  have hXz1 : Bx < w1.heap.size := Nat.lt_of_lt_of_le hXz ho1.size
  have hBz1 : Br < w1.heap.size := Nat.lt_of_lt_of_le hBz ho1.size
  clear hR1 ho1 hB
  go_wp2
  go_ret
  exact ⟨rfl, k1.set 0 _, HR1.out.set d2 d4 0 _, by simp [go_sem, XC]⟩

set_option maxRecDepth 100000 in
set_option maxHeartbeats 2000000 in
theorem RReal_ok (g B : Nat) (ns : List Nat) (a : Nat) (w : World) (hR : RAny w g B ns a) (hE : (nx ns a 8).2.1 = 0) : Calls Try.prog 43 #[.pointer (some ⟨g, 0, none⟩)] w (fun e w' => e = .returned (.tuple #[.float .f64 (nx ns a 8).1, .int .i64 ((nx ns a 8).2.1 : Int)]) ∧ Only g w w' ∧ RAny w' g B ns (nx ns a 8).2.2) := by
  have hB0 : Below w.heap.size w ((w.alloc (.cells #[Value.pointer (some ⟨g, 0, none⟩)] 35)).alloc (.cells #[Value.int .u64 0] 22)) := by (focus repeat' (first | (with_reducible exact Below.refl _ _) | (with_reducible assumption) | (with_reducible refine Below.alloc ?_ ?_ _) | (with_reducible refine Below.drew ?_) | (with_reducible refine bdrewN ?_ _) | (with_reducible refine Below.setCell ?_ ?_ _) | (first | (with_reducible exact Nat.le_refl _) | (with_reducible assumption) | omega | (simp; omega) | (simp; done))))
  have HR0 := hide (hR.below hB0)
  have HB0 := hide hB0
  have cB : ∀ o, ((w.alloc (.cells #[Value.pointer (some ⟨g, 0, none⟩)] 35)).alloc (.cells #[Value.int .u64 0] 22)).cell? ⟨w.heap.size, o, none⟩ = (#[Value.pointer (some ⟨g, 0, none⟩)] : Array Value)[o]? := fun o => by simp [go_sem]
  have cX : ∀ o, ((w.alloc (.cells #[Value.pointer (some ⟨g, 0, none⟩)] 35)).alloc (.cells #[Value.int .u64 0] 22)).cell? ⟨w.heap.size + 1, o, none⟩ = (#[Value.int .u64 0] : Array Value)[o]? := fun o => by simp [go_sem]
  have fX : ∀ o, ((w.alloc (.cells #[Value.pointer (some ⟨g, 0, none⟩)] 35)).alloc (.cells #[Value.int .u64 0] 22)).frozen? ⟨w.heap.size + 1, o, none⟩ = false := fun o => by simp [go_sem]
  have zB : w.heap.size < ((w.alloc (.cells #[Value.pointer (some ⟨g, 0, none⟩)] 35)).alloc (.cells #[Value.int .u64 0] 22)).heap.size := by (simp; omega)
  have zX : w.heap.size + 1 < ((w.alloc (.cells #[Value.pointer (some ⟨g, 0, none⟩)] 35)).alloc (.cells #[Value.int .u64 0] 22)).heap.size := by simp
  have hg : g < w.heap.size := hR.cells.1
  have hb : B ≤ w.heap.size := hR.1
  have hle : a ≤ ns.length := hR.more.1
  obtain ⟨r1, r2, r3⟩ := HR0.out.cells
  clear hR hB0
  go_enter Try.func43, Try.ntmps43
  go_wp2_with (go_at_call 52; go_in)
  refine (re1 g B w.heap.size (w.heap.size + 1) ns a _ HR0.out cB zB zX cX fX (by omega) (by omega) (by omega) (by omega)).mono ?_
  rw [hE]
  rintro e w1 ⟨rfl, ho, hR1, hx⟩
  have hE' := hide hE
  clear hE
  have HO := hide ho
  have HR1 := hide hR1
  obtain ⟨t1, t2, t3⟩ := hR1.cells
  clear ho hR1 r1 r2 r3 cB cX fX zB zX
  go_wp2_with fail
  rw [run56]
  go_wp2
  go_ret2
  exact ⟨by (rw [hE'.out]; rfl), Only2.only HB0.out HO.out (by omega), HR1.out⟩

set_option maxRecDepth 100000 in
set_option maxHeartbeats 2000000 in
theorem RReal_bad (g B : Nat) (ns : List Nat) (a : Nat) (w : World) (hR : RAny w g B ns a) (hE : ns.length < a + 8) : Calls Try.prog 43 #[.pointer (some ⟨g, 0, none⟩)] w (fun e w' => e = .returned (.tuple #[.float .f64 (nx ns a 8).1, .int .i64 ((nx ns a 8).2.1 : Int)]) ∧ Only g w w' ∧ RAny w' g B ns (nx ns a 8).2.2) := by
  have hB0 : Below w.heap.size w ((w.alloc (.cells #[Value.pointer (some ⟨g, 0, none⟩)] 35)).alloc (.cells #[Value.int .u64 0] 22)) := by (focus repeat' (first | (with_reducible exact Below.refl _ _) | (with_reducible assumption) | (with_reducible refine Below.alloc ?_ ?_ _) | (with_reducible refine Below.drew ?_) | (with_reducible refine bdrewN ?_ _) | (with_reducible refine Below.setCell ?_ ?_ _) | (first | (with_reducible exact Nat.le_refl _) | (with_reducible assumption) | omega | (simp; omega) | (simp; done))))
  have HR0 := hide (hR.below hB0)
  have HB0 := hide hB0
  have cB : ∀ o, ((w.alloc (.cells #[Value.pointer (some ⟨g, 0, none⟩)] 35)).alloc (.cells #[Value.int .u64 0] 22)).cell? ⟨w.heap.size, o, none⟩ = (#[Value.pointer (some ⟨g, 0, none⟩)] : Array Value)[o]? := fun o => by simp [go_sem]
  have cX : ∀ o, ((w.alloc (.cells #[Value.pointer (some ⟨g, 0, none⟩)] 35)).alloc (.cells #[Value.int .u64 0] 22)).cell? ⟨w.heap.size + 1, o, none⟩ = (#[Value.int .u64 0] : Array Value)[o]? := fun o => by simp [go_sem]
  have fX : ∀ o, ((w.alloc (.cells #[Value.pointer (some ⟨g, 0, none⟩)] 35)).alloc (.cells #[Value.int .u64 0] 22)).frozen? ⟨w.heap.size + 1, o, none⟩ = false := fun o => by simp [go_sem]
  have zB : w.heap.size < ((w.alloc (.cells #[Value.pointer (some ⟨g, 0, none⟩)] 35)).alloc (.cells #[Value.int .u64 0] 22)).heap.size := by (simp; omega)
  have zX : w.heap.size + 1 < ((w.alloc (.cells #[Value.pointer (some ⟨g, 0, none⟩)] 35)).alloc (.cells #[Value.int .u64 0] 22)).heap.size := by simp
  have hg : g < w.heap.size := hR.cells.1
  have hb : B ≤ w.heap.size := hR.1
  have hle : a ≤ ns.length := hR.more.1
  obtain ⟨r1, r2, r3⟩ := HR0.out.cells
  clear hR hB0
  go_enter Try.func43, Try.ntmps43
  go_wp2_with (go_at_call 52; go_in)
  refine (re1 g B w.heap.size (w.heap.size + 1) ns a _ HR0.out cB zB zX cX fX (by omega) (by omega) (by omega) (by omega)).mono ?_
  rw [nx_end hE]
  rintro e w1 ⟨rfl, ho, hR1, hx⟩
  have hE' := hide (nx_end hE)
  clear hE
  have HO := hide ho
  have HR1 := hide hR1
  obtain ⟨t1, t2, t3⟩ := hR1.cells
  clear ho hR1 r1 r2 r3 cB cX fX zB zX
  go_wp2_with fail
  rw [show ((0 : Nat) : Int) = 0 from rfl] at *
  rw [show (Value.int .u64 (0 : Int)) = .int .u64 ((0 : Nat) : Int) from rfl, run56]
  go_wp2
  go_ret2
  exact ⟨by (rw [hE'.out]; rfl), (Only2.only HB0.out HO.out (by omega)).set 1 _, by (rw [hE'.out]; exact HR1.out.reset hle)⟩

theorem RReal_c (g B : Nat) (ns : List Nat) (a : Nat) (w : World) (hR : RAny w g B ns a) : Calls Try.prog 43 #[.pointer (some ⟨g, 0, none⟩)] w (fun e w' => e = .returned (.tuple #[.float .f64 (nx ns a 8).1, .int .i64 ((nx ns a 8).2.1 : Int)]) ∧ Only g w w' ∧ RAny w' g B ns (nx ns a 8).2.2) := by
  by_cases hE : ns.length < a + 8
  · exact RReal_bad g B ns a w hR hE
  · exact RReal_ok g B ns a w hR (by rw [nx_ok (by omega)])
end Go.Proofs.Ytajkgecegefnmaa
