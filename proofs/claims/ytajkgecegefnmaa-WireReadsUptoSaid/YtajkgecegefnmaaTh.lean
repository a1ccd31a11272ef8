import Derived.Test.YtajkgecegefnmaaTg
namespace Go.Proofs.Ytajkgecegefnmaa
open Go.ChangeShapes Go.WideShapes Go.ChangeAt Go.RowKit Go.Deep
set_option linter.unusedSimpArgs false
set_option linter.unusedVariables false

/-- the reader at g has the bytes nil -/
def RNil (w : World) (g : Nat) : Prop :=
  g < w.heap.size ∧ (∀ o, w.cell? ⟨g, o, none⟩ = (#[Value.slice none 0 0, Value.int .i64 0] : Array Value)[o]?) ∧ (∀ o, w.frozen? ⟨g, o, none⟩ = false)
theorem RNil.below {w w' : World} {g : Nat} (h : RNil w g) (hb : Below w.heap.size w w') : RNil w' g :=
  ⟨Nat.lt_of_lt_of_le h.1 hb.size, fun o => (hb.cell (p := ⟨g, o, none⟩) h.1).trans (h.2.1 o), fun o => (hb.frozen (p := ⟨g, o, none⟩) h.1).trans (h.2.2 o)⟩
theorem RNil.set {w : World} {g h : Nat} (k : RNil w g) (h1 : h ≠ g) (o : Nat) (u : Value) : RNil (w.setCell ⟨h, o, none⟩ u) g := by
  obtain ⟨r1, r2, r3⟩ := k
  exact ⟨by simpa using r1, fun i => (World.cell?_of_block (Below.heap_setCell _ _ _ _ (fun e => h1 e.symm))).trans (r2 i), fun i => by simp only [World.frozen?_setCell]; exact r3 i⟩
theorem RNil.reset {w : World} {g : Nat} (k : RNil w g) : RNil (w.setCell ⟨g, 1, none⟩ (.int .i64 0)) g := by
  obtain ⟨r1, r2, r3⟩ := k
  refine ⟨by simpa using r1, ?_, fun i => by simp only [World.frozen?_setCell]; exact r3 i⟩
  intro o
  rcases o with _ | _ | o
  · simp [go_sem, r2]
  · simp [go_sem, r2]
  · simp [go_sem, r2]
/-- the reader at g has the bytes ns, in a block below B, and has read a of them -/
def RAny (w : World) (g B : Nat) (ns : List Nat) (a : Nat) : Prop := B ≤ w.heap.size ∧ ((∃ b off cap, b < B ∧ RObj w g b off cap ns a) ∨ (RNil w g ∧ ns = [] ∧ a = 0))
theorem RAny.below {w w' : World} {g B : Nat} {ns : List Nat} {a : Nat} (h : RAny w g B ns a) (hb : Below w.heap.size w w') : RAny w' g B ns a := by
  obtain ⟨hB, ⟨b, off, cap, hb2, h⟩ | ⟨h, h2⟩⟩ := h
  · exact ⟨Nat.le_trans hB hb.size, .inl ⟨b, off, cap, hb2, h.below hb⟩⟩
  · exact ⟨Nat.le_trans hB hb.size, .inr ⟨h.below hb, h2⟩⟩
theorem RAny.set {w : World} {g B : Nat} {ns : List Nat} {a h : Nat} (k : RAny w g B ns a) (h1 : h ≠ g) (h2 : B ≤ h) (o : Nat) (u : Value) : RAny (w.setCell ⟨h, o, none⟩ u) g B ns a := by
  obtain ⟨hB, ⟨b, off, cap, hb2, k⟩ | ⟨k, k2⟩⟩ := k
  · exact ⟨by simpa using hB, .inl ⟨b, off, cap, hb2, k.set h1 (by omega) o u⟩⟩
  · exact ⟨by simpa using hB, .inr ⟨k.set h1 o u, k2⟩⟩
theorem RAny.reset {w : World} {g B : Nat} {ns : List Nat} {a a0 : Nat} (k : RAny w g B ns a) (h : a0 ≤ ns.length) : RAny (w.setCell ⟨g, 1, none⟩ (.int .i64 (a0 : Int))) g B ns a0 := by
  obtain ⟨hB, ⟨b, off, cap, hb2, k⟩ | ⟨k, rfl, rfl⟩⟩ := k
  · exact ⟨by simpa using hB, .inl ⟨b, off, cap, hb2, k.reset h⟩⟩
  · obtain rfl : a0 = 0 := by simpa using h
    exact ⟨by simpa using hB, .inr ⟨k.reset, rfl, rfl⟩⟩
theorem RAny.cells {w : World} {g B : Nat} {ns : List Nat} {a : Nat} (k : RAny w g B ns a) : g < w.heap.size ∧ w.cell? ⟨g, 1, none⟩ = some (.int .i64 (a : Int)) ∧ (∀ o, w.frozen? ⟨g, o, none⟩ = false) := by
  obtain ⟨hB, ⟨b, off, cap, hb2, k⟩ | ⟨k, rfl, rfl⟩⟩ := k
  · exact ⟨k.1, by simpa using k.2.1 1, k.2.2.1⟩
  · exact ⟨k.1, by simpa using k.2.1 1, k.2.2⟩
theorem RAny.more {w : World} {g B : Nat} {ns : List Nat} {a : Nat} (k : RAny w g B ns a) : a ≤ ns.length ∧ ns.length ≤ 1152921504606846976 ∧ (∀ x ∈ ns, x < 256) := by
  obtain ⟨hB, ⟨b, off, cap, hb2, k⟩ | ⟨k, rfl, rfl⟩⟩ := k
  · exact ⟨k.2.2.2.2.2.2.2.1, k.2.2.2.2.2.2.2.2.1, k.2.2.2.2.2.2.1⟩
  · exact ⟨Nat.le_refl _, by simp, by simp⟩
theorem RAny.obj {w : World} {g B : Nat} {ns : List Nat} {a : Nat} (k : RAny w g B ns a) (h : ns ≠ []) : ∃ b off cap, b < B ∧ RObj w g b off cap ns a := by
  obtain ⟨hB, ⟨b, off, cap, hb2, k⟩ | ⟨k, rfl, rfl⟩⟩ := k
  · exact ⟨b, off, cap, hb2, k⟩
  · exact absurd rfl h

set_option maxRecDepth 100000 in
set_option maxHeartbeats 1000000 in
theorem Left_nil (g : Nat) (w : World) (hR : RNil w g) : Calls Try.prog 31 #[.pointer (some ⟨g, 0, none⟩)] w fun e w' => e = .returned (.int .i64 0) ∧ Below w.heap.size w w' := by
  obtain ⟨h1, h2, h3⟩ := hR
  go_enter Try.func31, Try.ntmps31
  go_wp2
  go_quiet (fail)
  go_wp2
  go_ret
  exact ⟨rfl, by (focus repeat' (first | (with_reducible exact Below.refl _ _) | (with_reducible assumption) | (with_reducible refine Below.alloc ?_ ?_ _) | (with_reducible refine Below.drew ?_) | (with_reducible refine bdrewN ?_ _) | (with_reducible refine Below.setCell ?_ ?_ _) | (first | (with_reducible exact Nat.le_refl _) | (with_reducible assumption) | omega | (simp; omega) | (simp; done))))⟩

set_option maxRecDepth 100000 in
set_option maxHeartbeats 1000000 in
theorem Place_nil (g : Nat) (w : World) (hR : RNil w g) : Calls Try.prog 24 #[.pointer (some ⟨g, 0, none⟩)] w fun e w' => e = .returned (.int .i64 0) ∧ Below w.heap.size w w' := by
  obtain ⟨h1, h2, h3⟩ := hR
  go_enter Try.func24, Try.ntmps24
  go_wp2
  go_ret
  exact ⟨rfl, by (focus repeat' (first | (with_reducible exact Below.refl _ _) | (with_reducible assumption) | (with_reducible refine Below.alloc ?_ ?_ _) | (with_reducible refine Below.drew ?_) | (with_reducible refine bdrewN ?_ _) | (with_reducible refine Below.setCell ?_ ?_ _) | (first | (with_reducible exact Nat.le_refl _) | (with_reducible assumption) | omega | (simp; omega) | (simp; done))))⟩

set_option maxRecDepth 100000 in
set_option maxHeartbeats 1000000 in
theorem next_nil (g : Nat) (n : Nat) (w : World) (hR : RNil w g) (h1n : 1 ≤ n) (hnn : n ≤ 8) : Calls Try.prog 72 #[.pointer (some ⟨g, 0, none⟩), .int .i64 (n : Int)] w fun e w' => e = .returned (.tuple #[.int .u64 0, .int .i64 110]) ∧ Below w.heap.size w w' := by
  have hR' := hide hR
  obtain ⟨h1, h2, h3⟩ := hR
  go_enter Try.func72, Try.ntmps72
  go_wp2_with fail
  refine (Left_nil g _ hR'.out).mono ?_
  rintro e w1 ⟨rfl, hb1⟩
  go_wp2
  go_ret2
  exact ⟨rfl, by (focus repeat' (first | (with_reducible exact Below.refl _ _) | (with_reducible assumption) | (with_reducible refine Below.alloc ?_ ?_ _) | (with_reducible refine Below.drew ?_) | (with_reducible refine bdrewN ?_ _) | (with_reducible refine Below.setCell ?_ ?_ _) | (first | (with_reducible exact Nat.le_refl _) | (with_reducible assumption) | omega | (simp; omega) | (simp; done))))⟩

set_option maxRecDepth 100000 in
set_option maxHeartbeats 1000000 in
theorem num1_nil (g Br Bx : Nat) (w : World) (hR : RNil w g) (hB : ∀ o, w.cell? ⟨Br, o, none⟩ = (#[Value.pointer (some ⟨g, 0, none⟩)] : Array Value)[o]?) (hBz : Br < w.heap.size) (hXz : Bx < w.heap.size) (hX : ∀ o, w.cell? ⟨Bx, o, none⟩ = (#[Value.int .u64 0] : Array Value)[o]?) (hXf : ∀ o, w.frozen? ⟨Bx, o, none⟩ = false) (d1 : Br ≠ g) (d2 : Bx ≠ g) (d3 : Bx ≠ Br) : Calls Try.prog 71 #[.pointer (some ⟨Br, 0, none⟩), .pointer (some ⟨Bx, 0, none⟩)] w (fun e w' => e = .returned (.int .i64 110) ∧ Only2 g Bx w w' ∧ RNil w' g) := by
  have HR := hide hR
  have HX := hide hX
  have HXF := hide hXf
  clear hR hX hXf
  go_enter Try.func71, Try.ntmps71
  go_wp2_with fail
  refine (next_nil g 1 _ HR.out (by omega) (by omega)).mono ?_
  rintro e w1 ⟨rfl, hb1⟩
  have XC : ∀ o, w1.cell? ⟨Bx, o, none⟩ = (#[Value.int .u64 0] : Array Value)[o]? := fun o => (hb1.cell (p := ⟨Bx, o, none⟩) hXz).trans (HX.out o)
  have XF : ∀ o, w1.frozen? ⟨Bx, o, none⟩ = false := fun o => (hb1.frozen (p := ⟨Bx, o, none⟩) hXz).trans (HXF.out o)
  have hR1 := hide (HR.out.below hb1)
  go_wp2
  go_ret
  exact ⟨rfl, (Only2.of_below hb1).set 0 _, hR1.out.set d2 0 _⟩

set_option maxRecDepth 100000 in
set_option maxHeartbeats 2000000 in
theorem RNum_nil (g : Nat) (w : World) (hR : RNil w g) : Calls Try.prog 40 #[.pointer (some ⟨g, 0, none⟩)] w (fun e w' => e = .returned (.tuple #[.int .u64 0, .int .i64 110]) ∧ Only g w w' ∧ RNil w' g) := by
  have hB0 : Below w.heap.size w ((w.alloc (.cells #[Value.pointer (some ⟨g, 0, none⟩)] 35)).alloc (.cells #[Value.int .u64 0] 22)) := by (focus repeat' (first | (with_reducible exact Below.refl _ _) | (with_reducible assumption) | (with_reducible refine Below.alloc ?_ ?_ _) | (with_reducible refine Below.drew ?_) | (with_reducible refine bdrewN ?_ _) | (with_reducible refine Below.setCell ?_ ?_ _) | (first | (with_reducible exact Nat.le_refl _) | (with_reducible assumption) | omega | (simp; omega) | (simp; done))))
  have HR0 := hide (hR.below hB0)
  have HB0 := hide hB0
  have cB : ∀ o, ((w.alloc (.cells #[Value.pointer (some ⟨g, 0, none⟩)] 35)).alloc (.cells #[Value.int .u64 0] 22)).cell? ⟨w.heap.size, o, none⟩ = (#[Value.pointer (some ⟨g, 0, none⟩)] : Array Value)[o]? := fun o => by simp [go_sem]
  have cX : ∀ o, ((w.alloc (.cells #[Value.pointer (some ⟨g, 0, none⟩)] 35)).alloc (.cells #[Value.int .u64 0] 22)).cell? ⟨w.heap.size + 1, o, none⟩ = (#[Value.int .u64 0] : Array Value)[o]? := fun o => by simp [go_sem]
  have fX : ∀ o, ((w.alloc (.cells #[Value.pointer (some ⟨g, 0, none⟩)] 35)).alloc (.cells #[Value.int .u64 0] 22)).frozen? ⟨w.heap.size + 1, o, none⟩ = false := fun o => by simp [go_sem]
  have zB : w.heap.size < ((w.alloc (.cells #[Value.pointer (some ⟨g, 0, none⟩)] 35)).alloc (.cells #[Value.int .u64 0] 22)).heap.size := by (simp; omega)
  have zX : w.heap.size + 1 < ((w.alloc (.cells #[Value.pointer (some ⟨g, 0, none⟩)] 35)).alloc (.cells #[Value.int .u64 0] 22)).heap.size := by simp
  have hg : g < w.heap.size := hR.1
  obtain ⟨r1, r2, r3⟩ := HR0.out
  clear hR hB0
  go_enter Try.func40, Try.ntmps40
  go_wp2_with (go_at_call 52; go_in)
  refine (num1_nil g w.heap.size (w.heap.size + 1) _ HR0.out cB zB zX cX fX (by omega) (by omega) (by omega)).mono ?_
  rintro e w1 ⟨rfl, ho, hR1⟩
  have HO := hide ho
  have HR1 := hide hR1
  obtain ⟨t1, t2, t3⟩ := hR1
  clear ho r1 r2 r3 cB cX fX zB zX
  go_wp2
  go_ret2
  exact ⟨rfl, (Only2.only HB0.out HO.out (by omega)).set 1 _, HR1.out.reset⟩

theorem Only.size' {g : Nat} {w w' : World} (k : Only g w w') {B : Nat} (h : B ≤ w.heap.size) : B ≤ w'.heap.size := Nat.le_trans h k.size
theorem Left_any (g B : Nat) (ns : List Nat) (a : Nat) (w : World) (hR : RAny w g B ns a) : Calls Try.prog 31 #[.pointer (some ⟨g, 0, none⟩)] w fun e w' => e = .returned (.int .i64 ((ns.length : Int) - (a : Int))) ∧ Below w.heap.size w w' := by
  obtain ⟨hB, ⟨b, off, cap, hb2, k⟩ | ⟨k, rfl, rfl⟩⟩ := hR
  · exact Left_c g b off cap ns a w k
  · exact Left_nil g w k
theorem Place_any (g B : Nat) (ns : List Nat) (a : Nat) (w : World) (hR : RAny w g B ns a) : Calls Try.prog 24 #[.pointer (some ⟨g, 0, none⟩)] w fun e w' => e = .returned (.int .i64 (a : Int)) ∧ Below w.heap.size w w' := by
  obtain ⟨hB, ⟨b, off, cap, hb2, k⟩ | ⟨k, rfl, rfl⟩⟩ := hR
  · exact Place_c g b off cap ns a w k
  · exact Place_nil g w k
theorem rd_nil : rd [] 0 = (0, 110, 0) := rfl
theorem RNum_any (g B : Nat) (ns : List Nat) (a : Nat) (w : World) (hR : RAny w g B ns a) : Calls Try.prog 40 #[.pointer (some ⟨g, 0, none⟩)] w fun e w' => e = .returned (.tuple #[.int .u64 ((rd ns a).1 : Int), .int .i64 ((rd ns a).2.1 : Int)]) ∧ Only g w w' ∧ RAny w' g B ns (rd ns a).2.2 := by
  obtain ⟨hB, ⟨b, off, cap, hb2, k⟩ | ⟨k, rfl, rfl⟩⟩ := hR
  · exact (RNum_c g b off cap ns a w k).mono (fun e w' h => ⟨h.1, h.2.1, h.2.1.size' hB, .inl ⟨b, off, cap, hb2, h.2.2⟩⟩)
  · exact (RNum_nil g w k).mono (fun e w' h => ⟨h.1, h.2.1, h.2.1.size' hB, .inr ⟨h.2.2, rfl, rfl⟩⟩)

set_option maxRecDepth 100000 in
set_option maxHeartbeats 1000000 in
theorem End_yes (g B : Nat) (ns : List Nat) (a : Nat) (w : World) (hR : RAny w g B ns a) (hlt : a < ns.length) : Calls Try.prog 33 #[.pointer (some ⟨g, 0, none⟩)] w fun e w' => e = .returned (.int .i64 112) ∧ Below w.heap.size w w' := by
  have hR' := hide hR
  obtain ⟨h1, h2, h3⟩ := hR.cells
  have hle := hR.more.1
  have hx : (0 : Int) < (ns.length : Int) - (a : Int) := by omega
  clear hR
  go_enter Try.func33, Try.ntmps33
  go_wp2_with fail
  refine (Left_any g B ns a _ hR'.out).mono ?_
  rintro e w1 ⟨rfl, hb1⟩
  go_wp2
  go_ret
  exact ⟨rfl, by (focus repeat' (first | (with_reducible exact Below.refl _ _) | (with_reducible assumption) | (with_reducible refine Below.alloc ?_ ?_ _) | (with_reducible refine Below.drew ?_) | (with_reducible refine bdrewN ?_ _) | (with_reducible refine Below.setCell ?_ ?_ _) | (first | (with_reducible exact Nat.le_refl _) | (with_reducible assumption) | omega | (simp; omega) | (simp; done))))⟩

set_option maxRecDepth 100000 in
set_option maxHeartbeats 1000000 in
theorem End_no (g B : Nat) (ns : List Nat) (a : Nat) (w : World) (hR : RAny w g B ns a) (hlt : ¬ a < ns.length) : Calls Try.prog 33 #[.pointer (some ⟨g, 0, none⟩)] w fun e w' => e = .returned (.int .i64 0) ∧ Below w.heap.size w w' := by
  have hR' := hide hR
  obtain ⟨h1, h2, h3⟩ := hR.cells
  have hle := hR.more.1
  have hx : ¬ (0 : Int) < (ns.length : Int) - (a : Int) := by omega
  clear hR
  go_enter Try.func33, Try.ntmps33
  go_wp2_with fail
  refine (Left_any g B ns a _ hR'.out).mono ?_
  rintro e w1 ⟨rfl, hb1⟩
  go_wp2
  go_ret
  exact ⟨rfl, by (focus repeat' (first | (with_reducible exact Below.refl _ _) | (with_reducible assumption) | (with_reducible refine Below.alloc ?_ ?_ _) | (with_reducible refine Below.drew ?_) | (with_reducible refine bdrewN ?_ _) | (with_reducible refine Below.setCell ?_ ?_ _) | (first | (with_reducible exact Nat.le_refl _) | (with_reducible assumption) | omega | (simp; omega) | (simp; done))))⟩

theorem End_c (g B : Nat) (ns : List Nat) (a : Nat) (w : World) (hR : RAny w g B ns a) : Calls Try.prog 33 #[.pointer (some ⟨g, 0, none⟩)] w fun e w' => e = .returned (.int .i64 (if a < ns.length then 112 else 0)) ∧ Below w.heap.size w w' := by
  by_cases h : a < ns.length
  · rw [if_pos h]; exact End_yes g B ns a w hR h
  · rw [if_neg h]; exact End_no g B ns a w hR h
end Go.Proofs.Ytajkgecegefnmaa
