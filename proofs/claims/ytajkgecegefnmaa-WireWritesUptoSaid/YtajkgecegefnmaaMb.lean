/- Contracts of the layer's functions, each proved once, in the order in which they are used. No condition beyond each theorem's own. -/
import Derived.Test.YtajkgecegefnmaaMa
import Derived.Laws.BitsAllLaws
import Derived.Laws.BytesArg
import Derived.Deep.AppendLies
namespace Go.Proofs.Ytajkgecegefnmaa
open Go.ChangeShapes Go.WideShapes Go.ChangeAt Go.RowKit Go.Deep
set_option linter.unusedSimpArgs false
set_option linter.unusedVariables false

/-- what the reader answers to Number: the number, the error, the place behind it -/
def rd (ns : List Nat) (a : Nat) : Nat × Nat × Nat :=
  if ns.length ≤ a then (0, 110, a)
  else if ns.getD a 0 ≤ 247 then (ns.getD a 0, 0, a + 1)
  else if ns.length < a + 1 + (ns.getD a 0 - 247) then (0, 110, a)
  else if (form (num ((ns.drop (a + 1)).take (ns.getD a 0 - 247)))).length = 1 + (ns.getD a 0 - 247) then (num ((ns.drop (a + 1)).take (ns.getD a 0 - 247)), 0, a + 1 + (ns.getD a 0 - 247))
  else (0, 111, a)
theorem Only2.only {W w w' : World} {g h : Nat} (hB : Below w.heap.size w W) (k : Only2 g h W w') (hh : w.heap.size ≤ h) : Only g w w' :=
  ⟨k.1.trans hB.os, k.2.1.trans hB.tape, k.2.2.1.trans hB.output, Nat.le_trans hB.size k.2.2.2.1, fun i hi h1 => (k.2.2.2.2 i (Nat.lt_of_lt_of_le hi hB.size) h1 (by omega)).trans (hB.block i hi)⟩
theorem Only.set {w w' : World} {g : Nat} (k : Only g w w') (o : Nat) (u : Value) : Only g w (w'.setCell ⟨g, o, none⟩ u) :=
  ⟨k.os, k.tape, k.output, by simp; exact k.size, fun i hi h1 => (Below.heap_setCell _ _ _ _ h1).trans (k.block i hi h1)⟩
theorem RObj.reset {w : World} {g b off cap : Nat} {ns : List Nat} {a a0 : Nat} (k : RObj w g b off cap ns a) (h : a0 ≤ ns.length) : RObj (w.setCell ⟨g, 1, none⟩ (.int .i64 (a0 : Int))) g b off cap ns a0 := by
  obtain ⟨r1, r2, r3, r4, r5, r6, r7, r8, r9, r10⟩ := k
  refine ⟨by simpa using r1, ?_, fun i => by simp only [World.frozen?_setCell]; exact r3 i, by simpa using r4, r5, fun j hj => (World.cell?_of_block (Below.heap_setCell _ _ _ _ r5)).trans (r6 j hj), r7, h, r9, r10⟩
  intro o
  rcases o with _ | _ | o
  · simp [go_sem, r2]
  · simp [go_sem, r2]
  · simp [go_sem, r2]
theorem rd_place (ns : List Nat) (a : Nat) (h : a ≤ ns.length) : (rd ns a).2.2 ≤ ns.length := by unfold rd; split <;> (try split) <;> (try split) <;> (try split) <;> dsimp only <;> omega
theorem rd_err (ns : List Nat) (a : Nat) : (rd ns a).2.1 = 0 ∨ (rd ns a).2.1 = 110 ∨ (rd ns a).2.1 = 111 := by unfold rd; split <;> (try split) <;> (try split) <;> (try split) <;> simp
theorem rd_zero (ns : List Nat) (a : Nat) (h : (rd ns a).2.1 ≠ 0) : (rd ns a).1 = 0 ∧ (rd ns a).2.2 = a := by revert h; unfold rd; split <;> (try split) <;> (try split) <;> (try split) <;> simp
set_option maxRecDepth 100000 in
theorem rd_lt (ns : List Nat) (a : Nat) (h7 : ∀ x ∈ ns, x < 256) : (rd ns a).1 < 18446744073709551616 := by
  unfold rd
  split
  · simp
  split
  · dsimp only; omega
  split
  · simp
  split
  · have hn : a < ns.length := by omega
    have hfl : ns.getD a 0 < 256 := h7 _ (by (have e : ns.getD a 0 = ns[a] := by simp [List.getD, hn]); rw [e]; exact List.getElem_mem hn)
    generalize ns.getD a 0 = f at *
    have q := num_lt (f - 247) ((ns.drop (a + 1)).take (f - 247)) (by rw [List.length_take, List.length_drop]; omega) (fun x hx => h7 x (List.mem_of_mem_drop (List.mem_of_mem_take hx)))
    have p : 256 ^ (f - 247) ≤ 256 ^ 8 := Nat.pow_le_pow_right (by decide) (by omega)
    have p8 : (256 : Nat) ^ 8 = 18446744073709551616 := by decide
    show num _ < _
    omega
  · simp
theorem rd_grows (ns : List Nat) (a : Nat) (h : (rd ns a).2.1 = 0) : a + 1 ≤ (rd ns a).2.2 := by
  revert h; unfold rd; split <;> (try split) <;> (try split) <;> (try split) <;> dsimp only <;> omega
set_option maxRecDepth 100000 in
theorem num1_all (g b off cap Br Bx : Nat) (ns : List Nat) (at_ : Nat) (w : World) (hR : RObj w g b off cap ns at_) (hB : ∀ o, w.cell? ⟨Br, o, none⟩ = (#[Value.pointer (some ⟨g, 0, none⟩)] : Array Value)[o]?) (hBz : Br < w.heap.size) (hXz : Bx < w.heap.size) (hX : ∀ o, w.cell? ⟨Bx, o, none⟩ = (#[Value.int .u64 0] : Array Value)[o]?) (hXf : ∀ o, w.frozen? ⟨Bx, o, none⟩ = false) (d1 : Br ≠ g) (d2 : Bx ≠ g) (d3 : Bx ≠ Br) (d4 : Bx ≠ b) : Calls Try.prog 71 #[.pointer (some ⟨Br, 0, none⟩), .pointer (some ⟨Bx, 0, none⟩)] w (fun e w' => ∃ x a', e = .returned (.int .i64 ((rd ns at_).2.1 : Int)) ∧ Only2 g Bx w w' ∧ RObj w' g b off cap ns a' ∧ w'.cell? ⟨Bx, 0, none⟩ = some (.int .u64 (x : Int)) ∧ ((rd ns at_).2.1 = 0 → x = (rd ns at_).1 ∧ a' = (rd ns at_).2.2)) := by
  by_cases c1 : ns.length ≤ at_
  · have q : rd ns at_ = (0, 110, at_) := by unfold rd; rw [if_pos c1]
    exact (num1_end g b off cap Br Bx ns at_ w hR hB hBz hXz hX hXf d1 d2 d3 d4 c1).mono (fun e w' h => by obtain ⟨h1, h2, h3, h4⟩ := h; exact ⟨_, _, by rw [q]; exact h1, h2, h3, h4, fun c => by rw [q] at c; cases c⟩)
  by_cases c2 : ns.getD at_ 0 ≤ 247
  · have q : rd ns at_ = (ns.getD at_ 0, 0, at_ + 1) := by unfold rd; rw [if_neg c1, if_pos c2]
    exact (num1_short g b off cap Br Bx ns at_ w hR hB hBz hXz hX hXf d1 d2 d3 d4 (by omega) c2).mono (fun e w' h => by obtain ⟨h1, h2, h3, h4⟩ := h; exact ⟨_, _, by rw [q]; exact h1, h2, h3, h4, fun _ => by rw [q]; exact ⟨rfl, rfl⟩⟩)
  by_cases c3 : ns.length < at_ + 1 + (ns.getD at_ 0 - 247)
  · have q : rd ns at_ = (0, 110, at_) := by unfold rd; rw [if_neg c1, if_neg c2, if_pos c3]
    exact (num1_cut g b off cap Br Bx ns at_ w hR hB hBz hXz hX hXf d1 d2 d3 d4 (by omega) (by omega) c3).mono (fun e w' h => by obtain ⟨h1, h2, h3, h4⟩ := h; exact ⟨_, _, by rw [q]; exact h1, h2, h3, h4, fun c => by rw [q] at c; cases c⟩)
  by_cases c4 : (form (num ((ns.drop (at_ + 1)).take (ns.getD at_ 0 - 247)))).length = 1 + (ns.getD at_ 0 - 247)
  · have q : rd ns at_ = (num ((ns.drop (at_ + 1)).take (ns.getD at_ 0 - 247)), 0, at_ + 1 + (ns.getD at_ 0 - 247)) := by unfold rd; rw [if_neg c1, if_neg c2, if_neg c3, if_pos c4]
    exact (num1_ok g b off cap Br Bx ns at_ w hR hB hBz hXz hX hXf d1 d2 d3 d4 (by omega) (by omega) (by omega) c4).mono (fun e w' h => by obtain ⟨h1, h2, h3, h4⟩ := h; exact ⟨_, _, by rw [q]; exact h1, h2, h3, h4, fun _ => by rw [q]; exact ⟨rfl, rfl⟩⟩)
  · have q : rd ns at_ = (0, 111, at_) := by unfold rd; rw [if_neg c1, if_neg c2, if_neg c3, if_neg c4]
    exact (num1_form g b off cap Br Bx ns at_ w hR hB hBz hXz hX hXf d1 d2 d3 d4 (by omega) (by omega) (by omega) c4).mono (fun e w' h => by obtain ⟨h1, h2, h3, h4⟩ := h; exact ⟨_, _, by rw [q]; exact h1, h2, h3, h4, fun c => by rw [q] at c; cases c⟩)

set_option maxRecDepth 100000 in
set_option maxHeartbeats 2000000 in
theorem RNum_ok (g b off cap : Nat) (ns : List Nat) (at_ : Nat) (w : World) (hR : RObj w g b off cap ns at_) (hE : (rd ns at_).2.1 = 0) : Calls Try.prog 40 #[.pointer (some ⟨g, 0, none⟩)] w (fun e w' => e = .returned (.tuple #[.int .u64 ((rd ns at_).1 : Int), .int .i64 ((rd ns at_).2.1 : Int)]) ∧ Only g w w' ∧ RObj w' g b off cap ns (rd ns at_).2.2) := by
  have hB0 : Below w.heap.size w ((w.alloc (.cells #[Value.pointer (some ⟨g, 0, none⟩)] 35)).alloc (.cells #[Value.int .u64 0] 22)) := by (focus repeat' (first | (with_reducible exact Below.refl _ _) | (with_reducible assumption) | (with_reducible refine Below.alloc ?_ ?_ _) | (with_reducible refine Below.drew ?_) | (with_reducible refine bdrewN ?_ _) | (with_reducible refine Below.setCell ?_ ?_ _) | (first | (with_reducible exact Nat.le_refl _) | (with_reducible assumption) | omega | (simp; omega) | (simp; done))))
  have HR0 := hide (hR.below hB0)
  have HB0 := hide hB0
  have cB : ∀ o, ((w.alloc (.cells #[Value.pointer (some ⟨g, 0, none⟩)] 35)).alloc (.cells #[Value.int .u64 0] 22)).cell? ⟨w.heap.size, o, none⟩ = (#[Value.pointer (some ⟨g, 0, none⟩)] : Array Value)[o]? := fun o => by simp [go_sem]
  have cX : ∀ o, ((w.alloc (.cells #[Value.pointer (some ⟨g, 0, none⟩)] 35)).alloc (.cells #[Value.int .u64 0] 22)).cell? ⟨w.heap.size + 1, o, none⟩ = (#[Value.int .u64 0] : Array Value)[o]? := fun o => by simp [go_sem]
  have fX : ∀ o, ((w.alloc (.cells #[Value.pointer (some ⟨g, 0, none⟩)] 35)).alloc (.cells #[Value.int .u64 0] 22)).frozen? ⟨w.heap.size + 1, o, none⟩ = false := fun o => by simp [go_sem]
  have zB : w.heap.size < ((w.alloc (.cells #[Value.pointer (some ⟨g, 0, none⟩)] 35)).alloc (.cells #[Value.int .u64 0] 22)).heap.size := by (simp; omega)
  have zX : w.heap.size + 1 < ((w.alloc (.cells #[Value.pointer (some ⟨g, 0, none⟩)] 35)).alloc (.cells #[Value.int .u64 0] 22)).heap.size := by simp
  have hg : g < w.heap.size := hR.1
  have hb : b < w.heap.size := hR.2.2.2.1
  have hle : at_ ≤ ns.length := hR.2.2.2.2.2.2.2.1
  obtain ⟨r1, r2, r3, _⟩ := HR0.out
  clear hR hB0
  go_enter Try.func40, Try.ntmps40
  go_wp2_with (go_at_call 52; go_in)
  refine (num1_all g b off cap w.heap.size (w.heap.size + 1) ns at_ _ HR0.out cB zB zX cX fX (by omega) (by omega) (by omega) (by omega)).mono ?_
  rintro e w1 ⟨x, a', rfl, ho, hR1, hx, hq⟩
  obtain ⟨rfl, rfl⟩ := hq hE
  rw [hE]
  have hE' := hide hE
  clear hq
  have HO := hide ho
  have HR1 := hide hR1
  obtain ⟨t1, t2, t3, _⟩ := hR1
  clear ho r1 r2 r3 cB cX fX zB zX
  go_wp2
  go_ret2
  exact ⟨by (rw [hE'.out]; rfl), Only2.only HB0.out HO.out (by omega), HR1.out⟩

set_option maxRecDepth 100000 in
set_option maxHeartbeats 2000000 in
theorem RNum_bad (g b off cap : Nat) (ns : List Nat) (at_ : Nat) (w : World) (hR : RObj w g b off cap ns at_) (hE : (rd ns at_).2.1 ≠ 0) : Calls Try.prog 40 #[.pointer (some ⟨g, 0, none⟩)] w (fun e w' => e = .returned (.tuple #[.int .u64 ((rd ns at_).1 : Int), .int .i64 ((rd ns at_).2.1 : Int)]) ∧ Only g w w' ∧ RObj w' g b off cap ns (rd ns at_).2.2) := by
  have hB0 : Below w.heap.size w ((w.alloc (.cells #[Value.pointer (some ⟨g, 0, none⟩)] 35)).alloc (.cells #[Value.int .u64 0] 22)) := by (focus repeat' (first | (with_reducible exact Below.refl _ _) | (with_reducible assumption) | (with_reducible refine Below.alloc ?_ ?_ _) | (with_reducible refine Below.drew ?_) | (with_reducible refine bdrewN ?_ _) | (with_reducible refine Below.setCell ?_ ?_ _) | (first | (with_reducible exact Nat.le_refl _) | (with_reducible assumption) | omega | (simp; omega) | (simp; done))))
  have HR0 := hide (hR.below hB0)
  have HB0 := hide hB0
  have cB : ∀ o, ((w.alloc (.cells #[Value.pointer (some ⟨g, 0, none⟩)] 35)).alloc (.cells #[Value.int .u64 0] 22)).cell? ⟨w.heap.size, o, none⟩ = (#[Value.pointer (some ⟨g, 0, none⟩)] : Array Value)[o]? := fun o => by simp [go_sem]
  have cX : ∀ o, ((w.alloc (.cells #[Value.pointer (some ⟨g, 0, none⟩)] 35)).alloc (.cells #[Value.int .u64 0] 22)).cell? ⟨w.heap.size + 1, o, none⟩ = (#[Value.int .u64 0] : Array Value)[o]? := fun o => by simp [go_sem]
  have fX : ∀ o, ((w.alloc (.cells #[Value.pointer (some ⟨g, 0, none⟩)] 35)).alloc (.cells #[Value.int .u64 0] 22)).frozen? ⟨w.heap.size + 1, o, none⟩ = false := fun o => by simp [go_sem]
  have zB : w.heap.size < ((w.alloc (.cells #[Value.pointer (some ⟨g, 0, none⟩)] 35)).alloc (.cells #[Value.int .u64 0] 22)).heap.size := by (simp; omega)
  have zX : w.heap.size + 1 < ((w.alloc (.cells #[Value.pointer (some ⟨g, 0, none⟩)] 35)).alloc (.cells #[Value.int .u64 0] 22)).heap.size := by simp
  have hg : g < w.heap.size := hR.1
  have hb : b < w.heap.size := hR.2.2.2.1
  have hle : at_ ≤ ns.length := hR.2.2.2.2.2.2.2.1
  obtain ⟨r1, r2, r3, _⟩ := HR0.out
  clear hR hB0
  obtain ⟨hz1, hz2⟩ := rd_zero ns at_ hE
  go_enter Try.func40, Try.ntmps40
  go_wp2_with (go_at_call 52; go_in)
  refine (num1_all g b off cap w.heap.size (w.heap.size + 1) ns at_ _ HR0.out cB zB zX cX fX (by omega) (by omega) (by omega) (by omega)).mono ?_
  rintro e w1 ⟨x, a', rfl, ho, hR1, hx, hq⟩
  have HO := hide ho
  have HR1 := hide hR1
  obtain ⟨t1, t2, t3, _⟩ := hR1
  have hE2 : ((rd ns at_).2.1 : Int) ≠ 0 := by omega
  have Hz1 := hide hz1
  have Hz2 := hide hz2
  clear hq hz1 hz2 ho r1 r2 r3 cB cX fX zB zX
  go_wp2
  go_ret2
  exact ⟨by (rw [Hz1.out]; rfl), (Only2.only HB0.out HO.out (by omega)).set 1 _, by (rw [Hz2.out]; exact HR1.out.reset hle)⟩

theorem RNum_c (g b off cap : Nat) (ns : List Nat) (at_ : Nat) (w : World) (hR : RObj w g b off cap ns at_) : Calls Try.prog 40 #[.pointer (some ⟨g, 0, none⟩)] w (fun e w' => e = .returned (.tuple #[.int .u64 ((rd ns at_).1 : Int), .int .i64 ((rd ns at_).2.1 : Int)]) ∧ Only g w w' ∧ RObj w' g b off cap ns (rd ns at_).2.2) := by
  by_cases hE : (rd ns at_).2.1 = 0
  · exact RNum_ok g b off cap ns at_ w hR hE
  · exact RNum_bad g b off cap ns at_ w hR hE
end Go.Proofs.Ytajkgecegefnmaa

namespace Go.Proofs.Ytajkgecegefnmaa
open Go.ChangeShapes Go.WideShapes Go.ChangeAt Go.RowKit Go.Deep
set_option linter.unusedSimpArgs false
set_option linter.unusedVariables false

/-- the reader at g has the bytes nil -/
def RNil (w : World) (g : Nat) : Prop :=
  g < w.heap.size ∧ (∀ o, w.cell? ⟨g, o, none⟩ = (#[Value.slice none 0 0, Value.int .i64 0] : Array Value)[o]?) ∧ (∀ o, w.frozen? ⟨g, o, none⟩ = false)
theorem RNil.below {w w' : World} {g : Nat} (h : RNil w g) (hb : Below w.heap.size w w') : RNil w' g :=
  ⟨Nat.lt_of_lt_of_le h.1 hb.size, fun o => (hb.cell (p := ⟨g, o, none⟩) h.1).trans (h.2.1 o), fun o => (hb.frozen (p := ⟨g, o, none⟩) h.1).trans (h.2.2 o)⟩
theorem RNil.set {w : World} {g h : Nat} (k : RNil w g) (h1 : h ≠ g) (o : Nat) (u : Value) : RNil (w.setCell ⟨h, o, none⟩ u) g := by
  obtain ⟨r1, r2, r3⟩ := k
  exact ⟨by simpa using r1, fun i => (World.cell?_of_block (Below.heap_setCell _ _ _ _ (fun e => h1 e.symm))).trans (r2 i), fun i => by simp only [World.frozen?_setCell]; exact r3 i⟩
theorem RNil.reset {w : World} {g : Nat} (k : RNil w g) : RNil (w.setCell ⟨g, 1, none⟩ (.int .i64 0)) g := by
  obtain ⟨r1, r2, r3⟩ := k
  refine ⟨by simpa using r1, ?_, fun i => by simp only [World.frozen?_setCell]; exact r3 i⟩
  intro o
  rcases o with _ | _ | o
  · simp [go_sem, r2]
  · simp [go_sem, r2]
  · simp [go_sem, r2]
/-- the reader at g has the bytes ns, in a block below B, and has read a of them -/
def RAny (w : World) (g B : Nat) (ns : List Nat) (a : Nat) : Prop := B ≤ w.heap.size ∧ ((∃ b off cap, b < B ∧ RObj w g b off cap ns a) ∨ (RNil w g ∧ ns = [] ∧ a = 0))
theorem RAny.below {w w' : World} {g B : Nat} {ns : List Nat} {a : Nat} (h : RAny w g B ns a) (hb : Below w.heap.size w w') : RAny w' g B ns a := by
  obtain ⟨hB, ⟨b, off, cap, hb2, h⟩ | ⟨h, h2⟩⟩ := h
  · exact ⟨Nat.le_trans hB hb.size, .inl ⟨b, off, cap, hb2, h.below hb⟩⟩
  · exact ⟨Nat.le_trans hB hb.size, .inr ⟨h.below hb, h2⟩⟩
theorem RAny.set {w : World} {g B : Nat} {ns : List Nat} {a h : Nat} (k : RAny w g B ns a) (h1 : h ≠ g) (h2 : B ≤ h) (o : Nat) (u : Value) : RAny (w.setCell ⟨h, o, none⟩ u) g B ns a := by
  obtain ⟨hB, ⟨b, off, cap, hb2, k⟩ | ⟨k, k2⟩⟩ := k
  · exact ⟨by simpa using hB, .inl ⟨b, off, cap, hb2, k.set h1 (by omega) o u⟩⟩
  · exact ⟨by simpa using hB, .inr ⟨k.set h1 o u, k2⟩⟩
theorem RAny.reset {w : World} {g B : Nat} {ns : List Nat} {a a0 : Nat} (k : RAny w g B ns a) (h : a0 ≤ ns.length) : RAny (w.setCell ⟨g, 1, none⟩ (.int .i64 (a0 : Int))) g B ns a0 := by
  obtain ⟨hB, ⟨b, off, cap, hb2, k⟩ | ⟨k, rfl, rfl⟩⟩ := k
  · exact ⟨by simpa using hB, .inl ⟨b, off, cap, hb2, k.reset h⟩⟩
  · obtain rfl : a0 = 0 := by simpa using h
    exact ⟨by simpa using hB, .inr ⟨k.reset, rfl, rfl⟩⟩
theorem RAny.cells {w : World} {g B : Nat} {ns : List Nat} {a : Nat} (k : RAny w g B ns a) : g < w.heap.size ∧ w.cell? ⟨g, 1, none⟩ = some (.int .i64 (a : Int)) ∧ (∀ o, w.frozen? ⟨g, o, none⟩ = false) := by
  obtain ⟨hB, ⟨b, off, cap, hb2, k⟩ | ⟨k, rfl, rfl⟩⟩ := k
  · exact ⟨k.1, by simpa using k.2.1 1, k.2.2.1⟩
  · exact ⟨k.1, by simpa using k.2.1 1, k.2.2⟩
theorem RAny.more {w : World} {g B : Nat} {ns : List Nat} {a : Nat} (k : RAny w g B ns a) : a ≤ ns.length ∧ ns.length ≤ 1152921504606846976 ∧ (∀ x ∈ ns, x < 256) := by
  obtain ⟨hB, ⟨b, off, cap, hb2, k⟩ | ⟨k, rfl, rfl⟩⟩ := k
  · exact ⟨k.2.2.2.2.2.2.2.1, k.2.2.2.2.2.2.2.2.1, k.2.2.2.2.2.2.1⟩
  · exact ⟨Nat.le_refl _, by simp, by simp⟩
theorem RAny.obj {w : World} {g B : Nat} {ns : List Nat} {a : Nat} (k : RAny w g B ns a) (h : ns ≠ []) : ∃ b off cap, b < B ∧ RObj w g b off cap ns a := by
  obtain ⟨hB, ⟨b, off, cap, hb2, k⟩ | ⟨k, rfl, rfl⟩⟩ := k
  · exact ⟨b, off, cap, hb2, k⟩
  · exact absurd rfl h

set_option maxRecDepth 100000 in
set_option maxHeartbeats 1000000 in
theorem Left_nil (g : Nat) (w : World) (hR : RNil w g) : Calls Try.prog 31 #[.pointer (some ⟨g, 0, none⟩)] w fun e w' => e = .returned (.int .i64 0) ∧ Below w.heap.size w w' := by
  obtain ⟨h1, h2, h3⟩ := hR
  go_enter Try.func31, Try.ntmps31
  go_wp2
  go_quiet (fail)
  go_wp2
  go_ret
  exact ⟨rfl, by (focus repeat' (first | (with_reducible exact Below.refl _ _) | (with_reducible assumption) | (with_reducible refine Below.alloc ?_ ?_ _) | (with_reducible refine Below.drew ?_) | (with_reducible refine bdrewN ?_ _) | (with_reducible refine Below.setCell ?_ ?_ _) | (first | (with_reducible exact Nat.le_refl _) | (with_reducible assumption) | omega | (simp; omega) | (simp; done))))⟩

set_option maxRecDepth 100000 in
set_option maxHeartbeats 1000000 in
theorem Place_nil (g : Nat) (w : World) (hR : RNil w g) : Calls Try.prog 24 #[.pointer (some ⟨g, 0, none⟩)] w fun e w' => e = .returned (.int .i64 0) ∧ Below w.heap.size w w' := by
  obtain ⟨h1, h2, h3⟩ := hR
  go_enter Try.func24, Try.ntmps24
  go_wp2
  go_ret
  exact ⟨rfl, by (focus repeat' (first | (with_reducible exact Below.refl _ _) | (with_reducible assumption) | (with_reducible refine Below.alloc ?_ ?_ _) | (with_reducible refine Below.drew ?_) | (with_reducible refine bdrewN ?_ _) | (with_reducible refine Below.setCell ?_ ?_ _) | (first | (with_reducible exact Nat.le_refl _) | (with_reducible assumption) | omega | (simp; omega) | (simp; done))))⟩

set_option maxRecDepth 100000 in
set_option maxHeartbeats 1000000 in
theorem next_nil (g : Nat) (n : Nat) (w : World) (hR : RNil w g) (h1n : 1 ≤ n) (hnn : n ≤ 8) : Calls Try.prog 72 #[.pointer (some ⟨g, 0, none⟩), .int .i64 (n : Int)] w fun e w' => e = .returned (.tuple #[.int .u64 0, .int .i64 110]) ∧ Below w.heap.size w w' := by
  have hR' := hide hR
  obtain ⟨h1, h2, h3⟩ := hR
  go_enter Try.func72, Try.ntmps72
  go_wp2_with fail
  refine (Left_nil g _ hR'.out).mono ?_
  rintro e w1 ⟨rfl, hb1⟩
  go_wp2
  go_ret2
  exact ⟨rfl, by (focus repeat' (first | (with_reducible exact Below.refl _ _) | (with_reducible assumption) | (with_reducible refine Below.alloc ?_ ?_ _) | (with_reducible refine Below.drew ?_) | (with_reducible refine bdrewN ?_ _) | (with_reducible refine Below.setCell ?_ ?_ _) | (first | (with_reducible exact Nat.le_refl _) | (with_reducible assumption) | omega | (simp; omega) | (simp; done))))⟩

set_option maxRecDepth 100000 in
set_option maxHeartbeats 1000000 in
theorem num1_nil (g Br Bx : Nat) (w : World) (hR : RNil w g) (hB : ∀ o, w.cell? ⟨Br, o, none⟩ = (#[Value.pointer (some ⟨g, 0, none⟩)] : Array Value)[o]?) (hBz : Br < w.heap.size) (hXz : Bx < w.heap.size) (hX : ∀ o, w.cell? ⟨Bx, o, none⟩ = (#[Value.int .u64 0] : Array Value)[o]?) (hXf : ∀ o, w.frozen? ⟨Bx, o, none⟩ = false) (d1 : Br ≠ g) (d2 : Bx ≠ g) (d3 : Bx ≠ Br) : Calls Try.prog 71 #[.pointer (some ⟨Br, 0, none⟩), .pointer (some ⟨Bx, 0, none⟩)] w (fun e w' => e = .returned (.int .i64 110) ∧ Only2 g Bx w w' ∧ RNil w' g) := by
  have HR := hide hR
  have HX := hide hX
  have HXF := hide hXf
  clear hR hX hXf
  go_enter Try.func71, Try.ntmps71
  go_wp2_with fail
  refine (next_nil g 1 _ HR.out (by omega) (by omega)).mono ?_
  rintro e w1 ⟨rfl, hb1⟩
  have XC : ∀ o, w1.cell? ⟨Bx, o, none⟩ = (#[Value.int .u64 0] : Array Value)[o]? := fun o => (hb1.cell (p := ⟨Bx, o, none⟩) hXz).trans (HX.out o)
  have XF : ∀ o, w1.frozen? ⟨Bx, o, none⟩ = false := fun o => (hb1.frozen (p := ⟨Bx, o, none⟩) hXz).trans (HXF.out o)
  have hR1 := hide (HR.out.below hb1)
  go_wp2
  go_ret
  exact ⟨rfl, (Only2.of_below hb1).set 0 _, hR1.out.set d2 0 _⟩

set_option maxRecDepth 100000 in
set_option maxHeartbeats 2000000 in
theorem RNum_nil (g : Nat) (w : World) (hR : RNil w g) : Calls Try.prog 40 #[.pointer (some ⟨g, 0, none⟩)] w (fun e w' => e = .returned (.tuple #[.int .u64 0, .int .i64 110]) ∧ Only g w w' ∧ RNil w' g) := by
  have hB0 : Below w.heap.size w ((w.alloc (.cells #[Value.pointer (some ⟨g, 0, none⟩)] 35)).alloc (.cells #[Value.int .u64 0] 22)) := by (focus repeat' (first | (with_reducible exact Below.refl _ _) | (with_reducible assumption) | (with_reducible refine Below.alloc ?_ ?_ _) | (with_reducible refine Below.drew ?_) | (with_reducible refine bdrewN ?_ _) | (with_reducible refine Below.setCell ?_ ?_ _) | (first | (with_reducible exact Nat.le_refl _) | (with_reducible assumption) | omega | (simp; omega) | (simp; done))))
  have HR0 := hide (hR.below hB0)
  have HB0 := hide hB0
  have cB : ∀ o, ((w.alloc (.cells #[Value.pointer (some ⟨g, 0, none⟩)] 35)).alloc (.cells #[Value.int .u64 0] 22)).cell? ⟨w.heap.size, o, none⟩ = (#[Value.pointer (some ⟨g, 0, none⟩)] : Array Value)[o]? := fun o => by simp [go_sem]
  have cX : ∀ o, ((w.alloc (.cells #[Value.pointer (some ⟨g, 0, none⟩)] 35)).alloc (.cells #[Value.int .u64 0] 22)).cell? ⟨w.heap.size + 1, o, none⟩ = (#[Value.int .u64 0] : Array Value)[o]? := fun o => by simp [go_sem]
  have fX : ∀ o, ((w.alloc (.cells #[Value.pointer (some ⟨g, 0, none⟩)] 35)).alloc (.cells #[Value.int .u64 0] 22)).frozen? ⟨w.heap.size + 1, o, none⟩ = false := fun o => by simp [go_sem]
  have zB : w.heap.size < ((w.alloc (.cells #[Value.pointer (some ⟨g, 0, none⟩)] 35)).alloc (.cells #[Value.int .u64 0] 22)).heap.size := by (simp; omega)
  have zX : w.heap.size + 1 < ((w.alloc (.cells #[Value.pointer (some ⟨g, 0, none⟩)] 35)).alloc (.cells #[Value.int .u64 0] 22)).heap.size := by simp
  have hg : g < w.heap.size := hR.1
  obtain ⟨r1, r2, r3⟩ := HR0.out
  clear hR hB0
  go_enter Try.func40, Try.ntmps40
  go_wp2_with (go_at_call 52; go_in)
  refine (num1_nil g w.heap.size (w.heap.size + 1) _ HR0.out cB zB zX cX fX (by omega) (by omega) (by omega)).mono ?_
  rintro e w1 ⟨rfl, ho, hR1⟩
  have HO := hide ho
  have HR1 := hide hR1
  obtain ⟨t1, t2, t3⟩ := hR1
  clear ho r1 r2 r3 cB cX fX zB zX
  go_wp2
  go_ret2
  exact ⟨rfl, (Only2.only HB0.out HO.out (by omega)).set 1 _, HR1.out.reset⟩

theorem Only.size' {g : Nat} {w w' : World} (k : Only g w w') {B : Nat} (h : B ≤ w.heap.size) : B ≤ w'.heap.size := Nat.le_trans h k.size
theorem Left_any (g B : Nat) (ns : List Nat) (a : Nat) (w : World) (hR : RAny w g B ns a) : Calls Try.prog 31 #[.pointer (some ⟨g, 0, none⟩)] w fun e w' => e = .returned (.int .i64 ((ns.length : Int) - (a : Int))) ∧ Below w.heap.size w w' := by
  obtain ⟨hB, ⟨b, off, cap, hb2, k⟩ | ⟨k, rfl, rfl⟩⟩ := hR
  · exact Left_c g b off cap ns a w k
  · exact Left_nil g w k
theorem Place_any (g B : Nat) (ns : List Nat) (a : Nat) (w : World) (hR : RAny w g B ns a) : Calls Try.prog 24 #[.pointer (some ⟨g, 0, none⟩)] w fun e w' => e = .returned (.int .i64 (a : Int)) ∧ Below w.heap.size w w' := by
  obtain ⟨hB, ⟨b, off, cap, hb2, k⟩ | ⟨k, rfl, rfl⟩⟩ := hR
  · exact Place_c g b off cap ns a w k
  · exact Place_nil g w k
theorem rd_nil : rd [] 0 = (0, 110, 0) := rfl
theorem RNum_any (g B : Nat) (ns : List Nat) (a : Nat) (w : World) (hR : RAny w g B ns a) : Calls Try.prog 40 #[.pointer (some ⟨g, 0, none⟩)] w fun e w' => e = .returned (.tuple #[.int .u64 ((rd ns a).1 : Int), .int .i64 ((rd ns a).2.1 : Int)]) ∧ Only g w w' ∧ RAny w' g B ns (rd ns a).2.2 := by
  obtain ⟨hB, ⟨b, off, cap, hb2, k⟩ | ⟨k, rfl, rfl⟩⟩ := hR
  · exact (RNum_c g b off cap ns a w k).mono (fun e w' h => ⟨h.1, h.2.1, h.2.1.size' hB, .inl ⟨b, off, cap, hb2, h.2.2⟩⟩)
  · exact (RNum_nil g w k).mono (fun e w' h => ⟨h.1, h.2.1, h.2.1.size' hB, .inr ⟨h.2.2, rfl, rfl⟩⟩)

set_option maxRecDepth 100000 in
set_option maxHeartbeats 1000000 in
theorem End_yes (g B : Nat) (ns : List Nat) (a : Nat) (w : World) (hR : RAny w g B ns a) (hlt : a < ns.length) : Calls Try.prog 33 #[.pointer (some ⟨g, 0, none⟩)] w fun e w' => e = .returned (.int .i64 112) ∧ Below w.heap.size w w' := by
  have hR' := hide hR
  obtain ⟨h1, h2, h3⟩ := hR.cells
  have hle := hR.more.1
  have hx : (0 : Int) < (ns.length : Int) - (a : Int) := by omega
  clear hR
  go_enter Try.func33, Try.ntmps33
  go_wp2_with fail
  refine (Left_any g B ns a _ hR'.out).mono ?_
  rintro e w1 ⟨rfl, hb1⟩
  go_wp2
  go_ret
  exact ⟨rfl, by (focus repeat' (first | (with_reducible exact Below.refl _ _) | (with_reducible assumption) | (with_reducible refine Below.alloc ?_ ?_ _) | (with_reducible refine Below.drew ?_) | (with_reducible refine bdrewN ?_ _) | (with_reducible refine Below.setCell ?_ ?_ _) | (first | (with_reducible exact Nat.le_refl _) | (with_reducible assumption) | omega | (simp; omega) | (simp; done))))⟩

set_option maxRecDepth 100000 in
set_option maxHeartbeats 1000000 in
theorem End_no (g B : Nat) (ns : List Nat) (a : Nat) (w : World) (hR : RAny w g B ns a) (hlt : ¬ a < ns.length) : Calls Try.prog 33 #[.pointer (some ⟨g, 0, none⟩)] w fun e w' => e = .returned (.int .i64 0) ∧ Below w.heap.size w w' := by
  have hR' := hide hR
  obtain ⟨h1, h2, h3⟩ := hR.cells
  have hle := hR.more.1
  have hx : ¬ (0 : Int) < (ns.length : Int) - (a : Int) := by omega
  clear hR
  go_enter Try.func33, Try.ntmps33
  go_wp2_with fail
  refine (Left_any g B ns a _ hR'.out).mono ?_
  rintro e w1 ⟨rfl, hb1⟩
  go_wp2
  go_ret
  exact ⟨rfl, by (focus repeat' (first | (with_reducible exact Below.refl _ _) | (with_reducible assumption) | (with_reducible refine Below.alloc ?_ ?_ _) | (with_reducible refine Below.drew ?_) | (with_reducible refine bdrewN ?_ _) | (with_reducible refine Below.setCell ?_ ?_ _) | (first | (with_reducible exact Nat.le_refl _) | (with_reducible assumption) | omega | (simp; omega) | (simp; done))))⟩

theorem End_c (g B : Nat) (ns : List Nat) (a : Nat) (w : World) (hR : RAny w g B ns a) : Calls Try.prog 33 #[.pointer (some ⟨g, 0, none⟩)] w fun e w' => e = .returned (.int .i64 (if a < ns.length then 112 else 0)) ∧ Below w.heap.size w w' := by
  by_cases h : a < ns.length
  · rw [if_pos h]; exact End_yes g B ns a w hR h
  · rw [if_neg h]; exact End_no g B ns a w hR h
end Go.Proofs.Ytajkgecegefnmaa

namespace Go.Proofs.Ytajkgecegefnmaa
open Go.ChangeShapes Go.WideShapes Go.ChangeAt Go.RowKit Go.Deep
set_option linter.unusedSimpArgs false
set_option linter.unusedVariables false

/-- what the reader answers to long: how many, the error, the place -/
def lg (ns : List Nat) (a m : Nat) : Nat × Nat × Nat :=
  if (rd ns a).2.1 ≠ 0 then (0, (rd ns a).2.1, (rd ns a).2.2)
  else if m < (rd ns a).1 then (0, 3, (rd ns a).2.2)
  else if ns.length - (rd ns a).2.2 < (rd ns a).1 then (0, 110, (rd ns a).2.2)
  else ((rd ns a).1, 0, (rd ns a).2.2)
theorem lg_err (ns : List Nat) (a m : Nat) : (lg ns a m).2.1 = 0 ∨ (lg ns a m).2.1 = 3 ∨ (lg ns a m).2.1 = 110 ∨ (lg ns a m).2.1 = 111 := by
  have h := rd_err ns a
  unfold lg; split
  · simp only; omega
  split
  · simp
  split <;> simp
theorem lg_fits (ns : List Nat) (a m : Nat) (h : (lg ns a m).2.1 = 0) : (lg ns a m).1 ≤ m ∧ (lg ns a m).2.2 + (lg ns a m).1 ≤ ns.length ∨ (lg ns a m).1 = 0 := by
  revert h; unfold lg; split
  · intro h; exact .inr rfl
  split
  · intro h; cases h
  split
  · intro h; cases h
  · intro h; simp only; omega
theorem lg_ok (ns : List Nat) (a m : Nat) (h : (lg ns a m).2.1 = 0) : (rd ns a).2.1 = 0 ∧ (rd ns a).1 ≤ m ∧ (rd ns a).1 ≤ ns.length - (rd ns a).2.2 ∧ lg ns a m = ((rd ns a).1, 0, (rd ns a).2.2) := by
  revert h; unfold lg; split
  · intro h; simp only at h; omega
  split
  · intro h; cases h
  split
  · intro h; cases h
  · intro h; exact ⟨by omega, by omega, by omega, rfl⟩

set_option maxRecDepth 100000 in
set_option maxHeartbeats 2000000 in
theorem long_bad (g B : Nat) (ns : List Nat) (a : Nat) (m : Nat) (w : World) (hR : RAny w g B ns a) (hm : m ≤ 9223372036854775807) (hE : (rd ns a).2.1 ≠ 0) : Calls Try.prog 54 #[.pointer (some ⟨g, 0, none⟩), .int .i64 (m : Int)] w (fun e w' => e = .returned (.tuple #[.int .i64 ((lg ns a m).1 : Int), .int .i64 ((lg ns a m).2.1 : Int)]) ∧ Only g w w' ∧ RAny w' g B ns (lg ns a m).2.2) := by
  have eq : lg ns a m = (0, (rd ns a).2.1, (rd ns a).2.2) := by unfold lg; rw [if_pos hE]
  have hle := hR.more
  have hle2 := rd_place ns a hle.1
  have hlt := rd_lt ns a hle.2.2
  have hcl := hide hR.cells
  have hR' := hide hR
  clear hR
  rw [eq]
  clear eq
  go_enter Try.func54, Try.ntmps54
  go_wp2_with fail
  refine (RNum_any g B ns a _ hR'.out).mono ?_
  rintro e w1 ⟨rfl, ho1, hR1⟩
  have HR1 := hide hR1
  clear hR1
  have HO1 := hide ho1
  clear ho1
  have hE' : ¬ ((rd ns a).2.1 : Int) = 0 := by omega
  go_wp2
  go_ret2
  exact ⟨rfl, HO1.out, HR1.out⟩

set_option maxRecDepth 100000 in
set_option maxHeartbeats 2000000 in
theorem long_many (g B : Nat) (ns : List Nat) (a : Nat) (m : Nat) (w : World) (hR : RAny w g B ns a) (hm : m ≤ 9223372036854775807) (hE : (rd ns a).2.1 = 0) (hM : m < (rd ns a).1) : Calls Try.prog 54 #[.pointer (some ⟨g, 0, none⟩), .int .i64 (m : Int)] w (fun e w' => e = .returned (.tuple #[.int .i64 ((lg ns a m).1 : Int), .int .i64 ((lg ns a m).2.1 : Int)]) ∧ Only g w w' ∧ RAny w' g B ns (lg ns a m).2.2) := by
  have eq : lg ns a m = (0, 3, (rd ns a).2.2) := by unfold lg; rw [if_neg (by omega), if_pos hM]
  have hle := hR.more
  have hle2 := rd_place ns a hle.1
  have hlt := rd_lt ns a hle.2.2
  have hcl := hide hR.cells
  have hR' := hide hR
  clear hR
  rw [eq]
  clear eq
  go_enter Try.func54, Try.ntmps54
  go_wp2_with fail
  refine (RNum_any g B ns a _ hR'.out).mono ?_
  rintro e w1 ⟨rfl, ho1, hR1⟩
  have HR1 := hide hR1
  clear hR1
  have HO1 := hide ho1
  clear ho1
  have hE' : ((rd ns a).2.1 : Int) = 0 := by omega
  have hM' : (m : Int) < ((rd ns a).1 : Int) := by omega
  go_wp2
  go_ret2
  exact ⟨rfl, HO1.out, HR1.out⟩

theorem Only.trans_below {g : Nat} {w w1 w2 : World} (k : Only g w w1) (h : Below w1.heap.size w1 w2) : Only g w w2 :=
  ⟨h.os.trans k.os, h.tape.trans k.tape, h.output.trans k.output, Nat.le_trans k.size h.size, fun i hi h1 => (h.block i (Nat.lt_of_lt_of_le hi k.size)).trans (k.block i hi h1)⟩

set_option maxRecDepth 100000 in
set_option maxHeartbeats 2000000 in
theorem long_end (g B : Nat) (ns : List Nat) (a : Nat) (m : Nat) (w : World) (hR : RAny w g B ns a) (hm : m ≤ 9223372036854775807) (hE : (rd ns a).2.1 = 0) (hM : ¬ m < (rd ns a).1) (hL : ns.length - (rd ns a).2.2 < (rd ns a).1) : Calls Try.prog 54 #[.pointer (some ⟨g, 0, none⟩), .int .i64 (m : Int)] w (fun e w' => e = .returned (.tuple #[.int .i64 ((lg ns a m).1 : Int), .int .i64 ((lg ns a m).2.1 : Int)]) ∧ Only g w w' ∧ RAny w' g B ns (lg ns a m).2.2) := by
  have eq : lg ns a m = (0, 110, (rd ns a).2.2) := by unfold lg; rw [if_neg (by omega), if_neg hM, if_pos hL]
  have hle := hR.more
  have hle2 := rd_place ns a hle.1
  have hlt := rd_lt ns a hle.2.2
  have hcl := hide hR.cells
  have hR' := hide hR
  clear hR
  rw [eq]
  clear eq
  go_enter Try.func54, Try.ntmps54
  go_wp2_with fail
  refine (RNum_any g B ns a _ hR'.out).mono ?_
  rintro e w1 ⟨rfl, ho1, hR1⟩
  have HR1 := hide hR1
  clear hR1
  have HO1 := hide ho1
  clear ho1
  have hE' : ((rd ns a).2.1 : Int) = 0 := by omega
  have hM' : ¬ (m : Int) < ((rd ns a).1 : Int) := by omega
  have hL' : ((ns.length - (rd ns a).2.2 : Nat) : Int) < ((rd ns a).1 : Int) := by omega
  go_wp2_with fail
  refine (Left_any g B ns (rd ns a).2.2 _ HR1.out).mono ?_
  rintro e w2 ⟨rfl, hb2⟩
  have HR2 := hide (HR1.out.below hb2)
  have HB2 := hide hb2
  clear hb2
  have hk : ((ns.length : Int) - ((rd ns a).2.2 : Int)) = ((ns.length - (rd ns a).2.2 : Nat) : Int) := by omega
  rw [hk]
  go_wp2
  go_ret2
  exact ⟨rfl, HO1.out.trans_below HB2.out, HR2.out⟩

set_option maxRecDepth 100000 in
set_option maxHeartbeats 2000000 in
theorem long_ok (g B : Nat) (ns : List Nat) (a : Nat) (m : Nat) (w : World) (hR : RAny w g B ns a) (hm : m ≤ 9223372036854775807) (hE : (rd ns a).2.1 = 0) (hM : ¬ m < (rd ns a).1) (hL : ¬ ns.length - (rd ns a).2.2 < (rd ns a).1) : Calls Try.prog 54 #[.pointer (some ⟨g, 0, none⟩), .int .i64 (m : Int)] w (fun e w' => e = .returned (.tuple #[.int .i64 ((lg ns a m).1 : Int), .int .i64 ((lg ns a m).2.1 : Int)]) ∧ Only g w w' ∧ RAny w' g B ns (lg ns a m).2.2) := by
  have eq : lg ns a m = ((rd ns a).1, 0, (rd ns a).2.2) := by unfold lg; rw [if_neg (by omega), if_neg hM, if_neg hL]
  have hle := hR.more
  have hle2 := rd_place ns a hle.1
  have hlt := rd_lt ns a hle.2.2
  have hcl := hide hR.cells
  have hR' := hide hR
  clear hR
  rw [eq]
  clear eq
  go_enter Try.func54, Try.ntmps54
  go_wp2_with fail
  refine (RNum_any g B ns a _ hR'.out).mono ?_
  rintro e w1 ⟨rfl, ho1, hR1⟩
  have HR1 := hide hR1
  clear hR1
  have HO1 := hide ho1
  clear ho1
  have hE' : ((rd ns a).2.1 : Int) = 0 := by omega
  have hM' : ¬ (m : Int) < ((rd ns a).1 : Int) := by omega
  have hL' : ¬ ((ns.length - (rd ns a).2.2 : Nat) : Int) < ((rd ns a).1 : Int) := by omega
  go_wp2_with fail
  refine (Left_any g B ns (rd ns a).2.2 _ HR1.out).mono ?_
  rintro e w2 ⟨rfl, hb2⟩
  have HR2 := hide (HR1.out.below hb2)
  have HB2 := hide hb2
  clear hb2
  have hk : ((ns.length : Int) - ((rd ns a).2.2 : Int)) = ((ns.length - (rd ns a).2.2 : Nat) : Int) := by omega
  rw [hk]
  go_wp2
  go_ret2
  exact ⟨rfl, HO1.out.trans_below HB2.out, HR2.out⟩

theorem long_c (g B : Nat) (ns : List Nat) (a : Nat) (m : Nat) (w : World) (hR : RAny w g B ns a) (hm : m ≤ 9223372036854775807) : Calls Try.prog 54 #[.pointer (some ⟨g, 0, none⟩), .int .i64 (m : Int)] w (fun e w' => e = .returned (.tuple #[.int .i64 ((lg ns a m).1 : Int), .int .i64 ((lg ns a m).2.1 : Int)]) ∧ Only g w w' ∧ RAny w' g B ns (lg ns a m).2.2) := by
  by_cases hE : (rd ns a).2.1 = 0
  · by_cases hM : m < (rd ns a).1
    · exact long_many g B ns a m w hR hm hE hM
    · by_cases hL : ns.length - (rd ns a).2.2 < (rd ns a).1
      · exact long_end g B ns a m w hR hm hE hM hL
      · exact long_ok g B ns a m w hR hm hE hM hL
  · exact long_bad g B ns a m w hR hm hE
end Go.Proofs.Ytajkgecegefnmaa

namespace Go.Proofs.Ytajkgecegefnmaa
open Go.ChangeShapes Go.WideShapes Go.ChangeAt Go.RowKit Go.Deep
set_option linter.unusedSimpArgs false
set_option linter.unusedVariables false

/-- what the reader answers to next -/
def nx (ns : List Nat) (a n : Nat) : Nat × Nat × Nat := if ns.length < a + n then (0, 110, a) else (num ((ns.drop a).take n), 0, a + n)
theorem Only.of_below {g : Nat} {w w' : World} (k : Below w.heap.size w w') : Only g w w' := ⟨k.os, k.tape, k.output, k.size, fun i hi _ => k.block i hi⟩
theorem nx_one {ns : List Nat} {a : Nat} (hn : a < ns.length) : nx ns a 1 = (ns.getD a 0, 0, a + 1) := by
  have e : (ns.drop a).take 1 = [ns.getD a 0] := by
    rw [List.drop_eq_getElem_cons hn, List.take_succ_cons, List.take_zero]
    simp [List.getD, hn]
  unfold nx; rw [if_neg (by omega), e, num1]
theorem nx_end {ns : List Nat} {a n : Nat} (hn : ns.length < a + n) : nx ns a n = (0, 110, a) := by unfold nx; rw [if_pos hn]
theorem nx_ok {ns : List Nat} {a n : Nat} (hn : a + n ≤ ns.length) : nx ns a n = (num ((ns.drop a).take n), 0, a + n) := by unfold nx; rw [if_neg (by omega)]
/-- what the reader answers to Flag, to Real -/
def fl (ns : List Nat) (a : Nat) : Bool × Nat × Nat := if ns.length ≤ a then (false, 110, a) else if 1 < ns.getD a 0 then (false, 111, a) else (decide (ns.getD a 0 = 1), 0, a + 1)
theorem getD_lt {ns : List Nat} (h : ∀ x ∈ ns, x < 256) (a : Nat) : ns.getD a 0 < 256 := by
  by_cases hn : a < ns.length
  · have e : ns.getD a 0 = ns[a] := by simp [List.getD, hn]
    rw [e]; exact h _ (List.getElem_mem hn)
  · simp [List.getD, List.getElem?_eq_none (show ns.length ≤ a by omega)]

theorem next_any (g B : Nat) (ns : List Nat) (a n : Nat) (w : World) (hR : RAny w g B ns a) (hn1 : 1 ≤ n) (hnn : n ≤ 8) : Calls Try.prog 72 #[.pointer (some ⟨g, 0, none⟩), .int .i64 (n : Int)] w fun e w' => e = .returned (.tuple #[.int .u64 ((nx ns a n).1 : Int), .int .i64 ((nx ns a n).2.1 : Int)]) ∧ Only g w w' ∧ RAny w' g B ns (nx ns a n).2.2 := by
  by_cases hn : ns.length < a + n
  · rw [nx_end hn]
    obtain ⟨hB, ⟨b, off, cap, hb2, k⟩ | ⟨k, rfl, rfl⟩⟩ := hR
    · exact (next_end g b off cap ns a n w k hn hnn).mono (fun e w' h => ⟨h.1, .of_below h.2, Nat.le_trans hB h.2.size, .inl ⟨b, off, cap, hb2, k.below h.2⟩⟩)
    · exact (next_nil g n w k hn1 hnn).mono (fun e w' h => ⟨h.1, .of_below h.2, Nat.le_trans hB h.2.size, .inr ⟨k.below h.2, rfl, rfl⟩⟩)
  · rw [nx_ok (by omega)]
    obtain ⟨hB, ⟨b, off, cap, hb2, k⟩ | ⟨k, rfl, rfl⟩⟩ := hR
    · exact (next_c g b off cap ns a n w k (by omega) hn1 hnn).mono (fun e w' h => ⟨h.1, h.2.1, Nat.le_trans hB h.2.1.size, .inl ⟨b, off, cap, hb2, h.2.2⟩⟩)
    · simp at hn; omega

set_option maxRecDepth 100000 in
set_option maxHeartbeats 1000000 in
theorem fl1_end (g B Br Bx : Nat) (ns : List Nat) (a : Nat) (w : World) (hR : RAny w g B ns a) (hB : ∀ o, w.cell? ⟨Br, o, none⟩ = (#[Value.pointer (some ⟨g, 0, none⟩)] : Array Value)[o]?) (hBz : Br < w.heap.size) (hXz : Bx < w.heap.size) (hX : ∀ o, w.cell? ⟨Bx, o, none⟩ = (#[Value.bool false] : Array Value)[o]?) (hXf : ∀ o, w.frozen? ⟨Bx, o, none⟩ = false) (d1 : Br ≠ g) (d2 : Bx ≠ g) (d3 : Bx ≠ Br) (d4 : B ≤ Bx) (hn : ns.length ≤ a) : Calls Try.prog 73 #[.pointer (some ⟨Br, 0, none⟩), .pointer (some ⟨Bx, 0, none⟩)] w (fun e w' => e = .returned (.int .i64 110) ∧ Only2 g Bx w w' ∧ RAny w' g B ns a ∧ w'.cell? ⟨Bx, 0, none⟩ = some (.bool false)) := by
  have hq : nx ns a 1 = (0, 110, a) := nx_end (by omega)
  have HR := hide hR
  have HX := hide hX
  have HXF := hide hXf
  clear hR hX hXf
  go_enter Try.func73, Try.ntmps73
  go_wp2_with fail
  refine (next_any g B ns a 1 _ HR.out (by omega) (by omega)).mono ?_
  rw [hq]
  rintro e w1 ⟨rfl, ho1, hR1⟩
  have HR1 := hide hR1
  have k1 : Only2 g Bx w w1 := Only2.of_only ho1
  have XC : ∀ o, w1.cell? ⟨Bx, o, none⟩ = (#[Value.bool false] : Array Value)[o]? := fun o => (World.cell?_of_block (ho1.block Bx hXz d2)).trans (HX.out o)
  have XF : ∀ o, w1.frozen? ⟨Bx, o, none⟩ = false := fun o => (World.frozen?_of_block (ho1.block Bx hXz d2)).trans (HXF.out o)
  have BC : ∀ o, w1.cell? ⟨Br, o, none⟩ = (#[Value.pointer (some ⟨g, 0, none⟩)] : Array Value)[o]? := fun o => (World.cell?_of_block (ho1.block Br hBz d1)).trans (hB o)
  have hXz1 : Bx < w1.heap.size := Nat.lt_of_lt_of_le hXz ho1.size
  have hBz1 : Br < w1.heap.size := Nat.lt_of_lt_of_le hBz ho1.size
  clear hR1 ho1 hB
  go_wp2
  go_ret
  exact ⟨rfl, k1.set 0 _, HR1.out.set d2 d4 0 _, by simp [go_sem, XC]⟩

set_option maxRecDepth 100000 in
set_option maxHeartbeats 1000000 in
theorem fl1_form (g B Br Bx : Nat) (ns : List Nat) (a : Nat) (w : World) (hR : RAny w g B ns a) (hB : ∀ o, w.cell? ⟨Br, o, none⟩ = (#[Value.pointer (some ⟨g, 0, none⟩)] : Array Value)[o]?) (hBz : Br < w.heap.size) (hXz : Bx < w.heap.size) (hX : ∀ o, w.cell? ⟨Bx, o, none⟩ = (#[Value.bool false] : Array Value)[o]?) (hXf : ∀ o, w.frozen? ⟨Bx, o, none⟩ = false) (d1 : Br ≠ g) (d2 : Bx ≠ g) (d3 : Bx ≠ Br) (d4 : B ≤ Bx) (hn : a < ns.length) (hf : 1 < ns.getD a 0) : Calls Try.prog 73 #[.pointer (some ⟨Br, 0, none⟩), .pointer (some ⟨Bx, 0, none⟩)] w (fun e w' => e = .returned (.int .i64 111) ∧ Only2 g Bx w w' ∧ RAny w' g B ns (a + 1) ∧ w'.cell? ⟨Bx, 0, none⟩ = some (.bool false)) := by
  have hx256 : ns.getD a 0 < 256 := getD_lt hR.more.2.2 a
  have hq : nx ns a 1 = (ns.getD a 0, 0, a + 1) := nx_one hn
  generalize ns.getD a 0 = x at *
  have hf' : (1 : Int) < (x : Int) := by omega
  have HR := hide hR
  have HX := hide hX
  have HXF := hide hXf
  clear hR hX hXf
  go_enter Try.func73, Try.ntmps73
  go_wp2_with fail
  refine (next_any g B ns a 1 _ HR.out (by omega) (by omega)).mono ?_
  rw [hq]
  rintro e w1 ⟨rfl, ho1, hR1⟩
  have HR1 := hide hR1
  have k1 : Only2 g Bx w w1 := Only2.of_only ho1
  have XC : ∀ o, w1.cell? ⟨Bx, o, none⟩ = (#[Value.bool false] : Array Value)[o]? := fun o => (World.cell?_of_block (ho1.block Bx hXz d2)).trans (HX.out o)
  have XF : ∀ o, w1.frozen? ⟨Bx, o, none⟩ = false := fun o => (World.frozen?_of_block (ho1.block Bx hXz d2)).trans (HXF.out o)
  have BC : ∀ o, w1.cell? ⟨Br, o, none⟩ = (#[Value.pointer (some ⟨g, 0, none⟩)] : Array Value)[o]? := fun o => (World.cell?_of_block (ho1.block Br hBz d1)).trans (hB o)
  have hXz1 : Bx < w1.heap.size := Nat.lt_of_lt_of_le hXz ho1.size
  have hBz1 : Br < w1.heap.size := Nat.lt_of_lt_of_le hBz ho1.size
  clear hR1 ho1 hB
  go_wp2
  go_ret
  exact ⟨rfl, k1, HR1.out, by simp [XC]⟩

set_option maxRecDepth 100000 in
set_option maxHeartbeats 1000000 in
theorem fl1_one (g B Br Bx : Nat) (ns : List Nat) (a : Nat) (w : World) (hR : RAny w g B ns a) (hB : ∀ o, w.cell? ⟨Br, o, none⟩ = (#[Value.pointer (some ⟨g, 0, none⟩)] : Array Value)[o]?) (hBz : Br < w.heap.size) (hXz : Bx < w.heap.size) (hX : ∀ o, w.cell? ⟨Bx, o, none⟩ = (#[Value.bool false] : Array Value)[o]?) (hXf : ∀ o, w.frozen? ⟨Bx, o, none⟩ = false) (d1 : Br ≠ g) (d2 : Bx ≠ g) (d3 : Bx ≠ Br) (d4 : B ≤ Bx) (hn : a < ns.length) (hf : ns.getD a 0 = 1) : Calls Try.prog 73 #[.pointer (some ⟨Br, 0, none⟩), .pointer (some ⟨Bx, 0, none⟩)] w (fun e w' => e = .returned (.int .i64 0) ∧ Only2 g Bx w w' ∧ RAny w' g B ns (a + 1) ∧ w'.cell? ⟨Bx, 0, none⟩ = some (.bool true)) := by
  have hx256 : ns.getD a 0 < 256 := getD_lt hR.more.2.2 a
  have hq : nx ns a 1 = (ns.getD a 0, 0, a + 1) := nx_one hn
  rw [hf] at hq
  have HR := hide hR
  have HX := hide hX
  have HXF := hide hXf
  clear hR hX hXf
  go_enter Try.func73, Try.ntmps73
  go_wp2_with fail
  refine (next_any g B ns a 1 _ HR.out (by omega) (by omega)).mono ?_
  rw [hq]
  rintro e w1 ⟨rfl, ho1, hR1⟩
  have HR1 := hide hR1
  have k1 : Only2 g Bx w w1 := Only2.of_only ho1
  have XC : ∀ o, w1.cell? ⟨Bx, o, none⟩ = (#[Value.bool false] : Array Value)[o]? := fun o => (World.cell?_of_block (ho1.block Bx hXz d2)).trans (HX.out o)
  have XF : ∀ o, w1.frozen? ⟨Bx, o, none⟩ = false := fun o => (World.frozen?_of_block (ho1.block Bx hXz d2)).trans (HXF.out o)
  have BC : ∀ o, w1.cell? ⟨Br, o, none⟩ = (#[Value.pointer (some ⟨g, 0, none⟩)] : Array Value)[o]? := fun o => (World.cell?_of_block (ho1.block Br hBz d1)).trans (hB o)
  have hXz1 : Bx < w1.heap.size := Nat.lt_of_lt_of_le hXz ho1.size
  have hBz1 : Br < w1.heap.size := Nat.lt_of_lt_of_le hBz ho1.size
  clear hR1 ho1 hB
  go_wp2
  go_ret
  exact ⟨rfl, k1.set 0 _, HR1.out.set d2 d4 0 _, by simp [go_sem, XC]⟩

set_option maxRecDepth 100000 in
set_option maxHeartbeats 1000000 in
theorem fl1_no (g B Br Bx : Nat) (ns : List Nat) (a : Nat) (w : World) (hR : RAny w g B ns a) (hB : ∀ o, w.cell? ⟨Br, o, none⟩ = (#[Value.pointer (some ⟨g, 0, none⟩)] : Array Value)[o]?) (hBz : Br < w.heap.size) (hXz : Bx < w.heap.size) (hX : ∀ o, w.cell? ⟨Bx, o, none⟩ = (#[Value.bool false] : Array Value)[o]?) (hXf : ∀ o, w.frozen? ⟨Bx, o, none⟩ = false) (d1 : Br ≠ g) (d2 : Bx ≠ g) (d3 : Bx ≠ Br) (d4 : B ≤ Bx) (hn : a < ns.length) (hf : ns.getD a 0 = 0) : Calls Try.prog 73 #[.pointer (some ⟨Br, 0, none⟩), .pointer (some ⟨Bx, 0, none⟩)] w (fun e w' => e = .returned (.int .i64 0) ∧ Only2 g Bx w w' ∧ RAny w' g B ns (a + 1) ∧ w'.cell? ⟨Bx, 0, none⟩ = some (.bool false)) := by
  have hx256 : ns.getD a 0 < 256 := getD_lt hR.more.2.2 a
  have hq : nx ns a 1 = (ns.getD a 0, 0, a + 1) := nx_one hn
  rw [hf] at hq
  have HR := hide hR
  have HX := hide hX
  have HXF := hide hXf
  clear hR hX hXf
  go_enter Try.func73, Try.ntmps73
  go_wp2_with fail
  refine (next_any g B ns a 1 _ HR.out (by omega) (by omega)).mono ?_
  rw [hq]
  rintro e w1 ⟨rfl, ho1, hR1⟩
  have HR1 := hide hR1
  have k1 : Only2 g Bx w w1 := Only2.of_only ho1
  have XC : ∀ o, w1.cell? ⟨Bx, o, none⟩ = (#[Value.bool false] : Array Value)[o]? := fun o => (World.cell?_of_block (ho1.block Bx hXz d2)).trans (HX.out o)
  have XF : ∀ o, w1.frozen? ⟨Bx, o, none⟩ = false := fun o => (World.frozen?_of_block (ho1.block Bx hXz d2)).trans (HXF.out o)
  have BC : ∀ o, w1.cell? ⟨Br, o, none⟩ = (#[Value.pointer (some ⟨g, 0, none⟩)] : Array Value)[o]? := fun o => (World.cell?_of_block (ho1.block Br hBz d1)).trans (hB o)
  have hXz1 : Bx < w1.heap.size := Nat.lt_of_lt_of_le hXz ho1.size
  have hBz1 : Br < w1.heap.size := Nat.lt_of_lt_of_le hBz ho1.size
  clear hR1 ho1 hB
  go_wp2
  go_ret
  exact ⟨rfl, k1.set 0 _, HR1.out.set d2 d4 0 _, by simp [go_sem, XC]⟩

theorem fl_err (ns : List Nat) (a : Nat) (h : (fl ns a).2.1 ≠ 0) : (fl ns a).2.2 = a := by revert h; unfold fl; split <;> (try split) <;> simp
set_option maxRecDepth 100000 in
theorem fl1_all (g B Br Bx : Nat) (ns : List Nat) (a : Nat) (w : World) (hR : RAny w g B ns a) (hB : ∀ o, w.cell? ⟨Br, o, none⟩ = (#[Value.pointer (some ⟨g, 0, none⟩)] : Array Value)[o]?) (hBz : Br < w.heap.size) (hXz : Bx < w.heap.size) (hX : ∀ o, w.cell? ⟨Bx, o, none⟩ = (#[Value.bool false] : Array Value)[o]?) (hXf : ∀ o, w.frozen? ⟨Bx, o, none⟩ = false) (d1 : Br ≠ g) (d2 : Bx ≠ g) (d3 : Bx ≠ Br) (d4 : B ≤ Bx) : Calls Try.prog 73 #[.pointer (some ⟨Br, 0, none⟩), .pointer (some ⟨Bx, 0, none⟩)] w (fun e w' => ∃ a', e = .returned (.int .i64 ((fl ns a).2.1 : Int)) ∧ Only2 g Bx w w' ∧ RAny w' g B ns a' ∧ w'.cell? ⟨Bx, 0, none⟩ = some (.bool (fl ns a).1) ∧ ((fl ns a).2.1 = 0 → a' = (fl ns a).2.2)) := by
  by_cases c1 : ns.length ≤ a
  · have q : fl ns a = (false, 110, a) := by unfold fl; rw [if_pos c1]
    exact (fl1_end g B Br Bx ns a w hR hB hBz hXz hX hXf d1 d2 d3 d4 c1).mono (fun e w' h => by obtain ⟨h1, h2, h3, h4⟩ := h; exact ⟨_, by rw [q]; exact h1, h2, h3, by rw [q]; exact h4, fun c => by rw [q]⟩)
  by_cases c2 : 1 < ns.getD a 0
  · have q : fl ns a = (false, 111, a) := by unfold fl; rw [if_neg c1, if_pos c2]
    exact (fl1_form g B Br Bx ns a w hR hB hBz hXz hX hXf d1 d2 d3 d4 (by omega) c2).mono (fun e w' h => by obtain ⟨h1, h2, h3, h4⟩ := h; exact ⟨_, by rw [q]; exact h1, h2, h3, by rw [q]; exact h4, fun c => by rw [q] at c; cases c⟩)
  by_cases c3 : ns.getD a 0 = 1
  · have q : fl ns a = (true, 0, a + 1) := by unfold fl; rw [if_neg c1, if_neg c2, c3]; rfl
    exact (fl1_one g B Br Bx ns a w hR hB hBz hXz hX hXf d1 d2 d3 d4 (by omega) c3).mono (fun e w' h => by obtain ⟨h1, h2, h3, h4⟩ := h; exact ⟨_, by rw [q]; exact h1, h2, h3, by rw [q]; exact h4, fun c => by rw [q]⟩)
  · have c4 : ns.getD a 0 = 0 := by omega
    have q : fl ns a = (false, 0, a + 1) := by unfold fl; rw [if_neg c1, if_neg c2, c4]; rfl
    exact (fl1_no g B Br Bx ns a w hR hB hBz hXz hX hXf d1 d2 d3 d4 (by omega) c4).mono (fun e w' h => by obtain ⟨h1, h2, h3, h4⟩ := h; exact ⟨_, by rw [q]; exact h1, h2, h3, by rw [q]; exact h4, fun c => by rw [q]⟩)

set_option maxRecDepth 100000 in
set_option maxHeartbeats 2000000 in
theorem RFlag_ok (g B : Nat) (ns : List Nat) (a : Nat) (w : World) (hR : RAny w g B ns a) (hE : (fl ns a).2.1 = 0) : Calls Try.prog 42 #[.pointer (some ⟨g, 0, none⟩)] w (fun e w' => e = .returned (.tuple #[.bool (fl ns a).1, .int .i64 ((fl ns a).2.1 : Int)]) ∧ Only g w w' ∧ RAny w' g B ns (fl ns a).2.2) := by
  have hB0 : Below w.heap.size w ((w.alloc (.cells #[Value.pointer (some ⟨g, 0, none⟩)] 35)).alloc (.cells #[Value.bool false] 4)) := by (focus repeat' (first | (with_reducible exact Below.refl _ _) | (with_reducible assumption) | (with_reducible refine Below.alloc ?_ ?_ _) | (with_reducible refine Below.drew ?_) | (with_reducible refine bdrewN ?_ _) | (with_reducible refine Below.setCell ?_ ?_ _) | (first | (with_reducible exact Nat.le_refl _) | (with_reducible assumption) | omega | (simp; omega) | (simp; done))))
  have HR0 := hide (hR.below hB0)
  have HB0 := hide hB0
  have cB : ∀ o, ((w.alloc (.cells #[Value.pointer (some ⟨g, 0, none⟩)] 35)).alloc (.cells #[Value.bool false] 4)).cell? ⟨w.heap.size, o, none⟩ = (#[Value.pointer (some ⟨g, 0, none⟩)] : Array Value)[o]? := fun o => by simp [go_sem]
  have cX : ∀ o, ((w.alloc (.cells #[Value.pointer (some ⟨g, 0, none⟩)] 35)).alloc (.cells #[Value.bool false] 4)).cell? ⟨w.heap.size + 1, o, none⟩ = (#[Value.bool false] : Array Value)[o]? := fun o => by simp [go_sem]
  have fX : ∀ o, ((w.alloc (.cells #[Value.pointer (some ⟨g, 0, none⟩)] 35)).alloc (.cells #[Value.bool false] 4)).frozen? ⟨w.heap.size + 1, o, none⟩ = false := fun o => by simp [go_sem]
  have zB : w.heap.size < ((w.alloc (.cells #[Value.pointer (some ⟨g, 0, none⟩)] 35)).alloc (.cells #[Value.bool false] 4)).heap.size := by (simp; omega)
  have zX : w.heap.size + 1 < ((w.alloc (.cells #[Value.pointer (some ⟨g, 0, none⟩)] 35)).alloc (.cells #[Value.bool false] 4)).heap.size := by simp
  have hg : g < w.heap.size := hR.cells.1
  have hb : B ≤ w.heap.size := hR.1
  have hle : a ≤ ns.length := hR.more.1
  obtain ⟨r1, r2, r3⟩ := HR0.out.cells
  clear hR hB0
  go_enter Try.func42, Try.ntmps42
  go_wp2_with (go_at_call 52; go_in)
  refine (fl1_all g B w.heap.size (w.heap.size + 1) ns a _ HR0.out cB zB zX cX fX (by omega) (by omega) (by omega) (by omega)).mono ?_
  rintro e w1 ⟨a', rfl, ho, hR1, hx, hq⟩
  obtain rfl := hq hE
  rw [hE]
  have hE' := hide hE
  clear hq
  have HO := hide ho
  have HR1 := hide hR1
  obtain ⟨t1, t2, t3⟩ := hR1.cells
  clear ho hR1 r1 r2 r3 cB cX fX zB zX
  go_wp2
  go_ret2
  exact ⟨by (rw [hE'.out]; rfl), Only2.only HB0.out HO.out (by omega), HR1.out⟩

set_option maxRecDepth 100000 in
set_option maxHeartbeats 2000000 in
theorem RFlag_bad (g B : Nat) (ns : List Nat) (a : Nat) (w : World) (hR : RAny w g B ns a) (hE : (fl ns a).2.1 ≠ 0) : Calls Try.prog 42 #[.pointer (some ⟨g, 0, none⟩)] w (fun e w' => e = .returned (.tuple #[.bool (fl ns a).1, .int .i64 ((fl ns a).2.1 : Int)]) ∧ Only g w w' ∧ RAny w' g B ns (fl ns a).2.2) := by
  have hB0 : Below w.heap.size w ((w.alloc (.cells #[Value.pointer (some ⟨g, 0, none⟩)] 35)).alloc (.cells #[Value.bool false] 4)) := by (focus repeat' (first | (with_reducible exact Below.refl _ _) | (with_reducible assumption) | (with_reducible refine Below.alloc ?_ ?_ _) | (with_reducible refine Below.drew ?_) | (with_reducible refine bdrewN ?_ _) | (with_reducible refine Below.setCell ?_ ?_ _) | (first | (with_reducible exact Nat.le_refl _) | (with_reducible assumption) | omega | (simp; omega) | (simp; done))))
  have HR0 := hide (hR.below hB0)
  have HB0 := hide hB0
  have cB : ∀ o, ((w.alloc (.cells #[Value.pointer (some ⟨g, 0, none⟩)] 35)).alloc (.cells #[Value.bool false] 4)).cell? ⟨w.heap.size, o, none⟩ = (#[Value.pointer (some ⟨g, 0, none⟩)] : Array Value)[o]? := fun o => by simp [go_sem]
  have cX : ∀ o, ((w.alloc (.cells #[Value.pointer (some ⟨g, 0, none⟩)] 35)).alloc (.cells #[Value.bool false] 4)).cell? ⟨w.heap.size + 1, o, none⟩ = (#[Value.bool false] : Array Value)[o]? := fun o => by simp [go_sem]
  have fX : ∀ o, ((w.alloc (.cells #[Value.pointer (some ⟨g, 0, none⟩)] 35)).alloc (.cells #[Value.bool false] 4)).frozen? ⟨w.heap.size + 1, o, none⟩ = false := fun o => by simp [go_sem]
  have zB : w.heap.size < ((w.alloc (.cells #[Value.pointer (some ⟨g, 0, none⟩)] 35)).alloc (.cells #[Value.bool false] 4)).heap.size := by (simp; omega)
  have zX : w.heap.size + 1 < ((w.alloc (.cells #[Value.pointer (some ⟨g, 0, none⟩)] 35)).alloc (.cells #[Value.bool false] 4)).heap.size := by simp
  have hg : g < w.heap.size := hR.cells.1
  have hb : B ≤ w.heap.size := hR.1
  have hle : a ≤ ns.length := hR.more.1
  obtain ⟨r1, r2, r3⟩ := HR0.out.cells
  clear hR hB0
  go_enter Try.func42, Try.ntmps42
  go_wp2_with (go_at_call 52; go_in)
  refine (fl1_all g B w.heap.size (w.heap.size + 1) ns a _ HR0.out cB zB zX cX fX (by omega) (by omega) (by omega) (by omega)).mono ?_
  rintro e w1 ⟨a', rfl, ho, hR1, hx, hq⟩
  have Hz2 := hide (fl_err ns a hE)
  have hE2 : ((fl ns a).2.1 : Int) ≠ 0 := by omega
  clear hq
  have HO := hide ho
  have HR1 := hide hR1
  obtain ⟨t1, t2, t3⟩ := hR1.cells
  clear ho hR1 r1 r2 r3 cB cX fX zB zX
  go_wp2
  go_ret2
  exact ⟨rfl, (Only2.only HB0.out HO.out (by omega)).set 1 _, by (rw [Hz2.out]; exact HR1.out.reset hle)⟩

theorem RFlag_c (g B : Nat) (ns : List Nat) (a : Nat) (w : World) (hR : RAny w g B ns a) : Calls Try.prog 42 #[.pointer (some ⟨g, 0, none⟩)] w (fun e w' => e = .returned (.tuple #[.bool (fl ns a).1, .int .i64 ((fl ns a).2.1 : Int)]) ∧ Only g w w' ∧ RAny w' g B ns (fl ns a).2.2) := by
  by_cases hE : (fl ns a).2.1 = 0
  · exact RFlag_ok g B ns a w hR hE
  · exact RFlag_bad g B ns a w hR hE
end Go.Proofs.Ytajkgecegefnmaa

namespace Go.Proofs.Ytajkgecegefnmaa
open Go.ChangeShapes Go.WideShapes Go.ChangeAt Go.RowKit Go.Deep
set_option linter.unusedSimpArgs false
set_option linter.unusedVariables false
theorem run56 (x : Nat) (w : World) : Sem.run Try.prog (callFunc 56 #[.int .u64 (x : Int)]) w = .ok (.value (.float .f64 x)) w := by kernel_rfl

set_option maxRecDepth 100000 in
set_option maxHeartbeats 1000000 in
theorem re1 (g B Br Bx : Nat) (ns : List Nat) (a : Nat) (w : World) (hR : RAny w g B ns a) (hB : ∀ o, w.cell? ⟨Br, o, none⟩ = (#[Value.pointer (some ⟨g, 0, none⟩)] : Array Value)[o]?) (hBz : Br < w.heap.size) (hXz : Bx < w.heap.size) (hX : ∀ o, w.cell? ⟨Bx, o, none⟩ = (#[Value.int .u64 0] : Array Value)[o]?) (hXf : ∀ o, w.frozen? ⟨Bx, o, none⟩ = false) (d1 : Br ≠ g) (d2 : Bx ≠ g) (d3 : Bx ≠ Br) (d4 : B ≤ Bx) : Calls Try.prog 74 #[.pointer (some ⟨Br, 0, none⟩), .pointer (some ⟨Bx, 0, none⟩)] w (fun e w' => e = .returned (.int .i64 ((nx ns a 8).2.1 : Int)) ∧ Only2 g Bx w w' ∧ RAny w' g B ns (nx ns a 8).2.2 ∧ w'.cell? ⟨Bx, 0, none⟩ = some (.int .u64 ((nx ns a 8).1 : Int))) := by
  have HR := hide hR
  have HX := hide hX
  have HXF := hide hXf
  clear hR hX hXf
  go_enter Try.func74, Try.ntmps74
  go_wp2_with fail
  refine (next_any g B ns a 8 _ HR.out (by omega) (by omega)).mono ?_
  rw [show nx ns a 8 = nx ns a 8 from rfl]
  rintro e w1 ⟨rfl, ho1, hR1⟩
  have HR1 := hide hR1
  have k1 : Only2 g Bx w w1 := Only2.of_only ho1
  have XC : ∀ o, w1.cell? ⟨Bx, o, none⟩ = (#[Value.int .u64 0] : Array Value)[o]? := fun o => (World.cell?_of_block (ho1.block Bx hXz d2)).trans (HX.out o)
  have XF : ∀ o, w1.frozen? ⟨Bx, o, none⟩ = false := fun o => (World.frozen?_of_block (ho1.block Bx hXz d2)).trans (HXF.out o)
  have BC : ∀ o, w1.cell? ⟨Br, o, none⟩ = (#[Value.pointer (some ⟨g, 0, none⟩)] : Array Value)[o]? := fun o => (World.cell?_of_block (ho1.block Br hBz d1)).trans (hB o)
  have hXz1 : Bx < w1.heap.size := Nat.lt_of_lt_of_le hXz ho1.size
  have hBz1 : Br < w1.heap.size := Nat.lt_of_lt_of_le hBz ho1.size
  clear hR1 ho1 hB
  go_wp2
  go_ret
  exact ⟨rfl, k1.set 0 _, HR1.out.set d2 d4 0 _, by simp [go_sem, XC]⟩

set_option maxRecDepth 100000 in
set_option maxHeartbeats 2000000 in
theorem RReal_ok (g B : Nat) (ns : List Nat) (a : Nat) (w : World) (hR : RAny w g B ns a) (hE : (nx ns a 8).2.1 = 0) : Calls Try.prog 43 #[.pointer (some ⟨g, 0, none⟩)] w (fun e w' => e = .returned (.tuple #[.float .f64 (nx ns a 8).1, .int .i64 ((nx ns a 8).2.1 : Int)]) ∧ Only g w w' ∧ RAny w' g B ns (nx ns a 8).2.2) := by
  have hB0 : Below w.heap.size w ((w.alloc (.cells #[Value.pointer (some ⟨g, 0, none⟩)] 35)).alloc (.cells #[Value.int .u64 0] 22)) := by (focus repeat' (first | (with_reducible exact Below.refl _ _) | (with_reducible assumption) | (with_reducible refine Below.alloc ?_ ?_ _) | (with_reducible refine Below.drew ?_) | (with_reducible refine bdrewN ?_ _) | (with_reducible refine Below.setCell ?_ ?_ _) | (first | (with_reducible exact Nat.le_refl _) | (with_reducible assumption) | omega | (simp; omega) | (simp; done))))
  have HR0 := hide (hR.below hB0)
  have HB0 := hide hB0
  have cB : ∀ o, ((w.alloc (.cells #[Value.pointer (some ⟨g, 0, none⟩)] 35)).alloc (.cells #[Value.int .u64 0] 22)).cell? ⟨w.heap.size, o, none⟩ = (#[Value.pointer (some ⟨g, 0, none⟩)] : Array Value)[o]? := fun o => by simp [go_sem]
  have cX : ∀ o, ((w.alloc (.cells #[Value.pointer (some ⟨g, 0, none⟩)] 35)).alloc (.cells #[Value.int .u64 0] 22)).cell? ⟨w.heap.size + 1, o, none⟩ = (#[Value.int .u64 0] : Array Value)[o]? := fun o => by simp [go_sem]
  have fX : ∀ o, ((w.alloc (.cells #[Value.pointer (some ⟨g, 0, none⟩)] 35)).alloc (.cells #[Value.int .u64 0] 22)).frozen? ⟨w.heap.size + 1, o, none⟩ = false := fun o => by simp [go_sem]
  have zB : w.heap.size < ((w.alloc (.cells #[Value.pointer (some ⟨g, 0, none⟩)] 35)).alloc (.cells #[Value.int .u64 0] 22)).heap.size := by (simp; omega)
  have zX : w.heap.size + 1 < ((w.alloc (.cells #[Value.pointer (some ⟨g, 0, none⟩)] 35)).alloc (.cells #[Value.int .u64 0] 22)).heap.size := by simp
  have hg : g < w.heap.size := hR.cells.1
  have hb : B ≤ w.heap.size := hR.1
  have hle : a ≤ ns.length := hR.more.1
  obtain ⟨r1, r2, r3⟩ := HR0.out.cells
  clear hR hB0
  go_enter Try.func43, Try.ntmps43
  go_wp2_with (go_at_call 52; go_in)
  refine (re1 g B w.heap.size (w.heap.size + 1) ns a _ HR0.out cB zB zX cX fX (by omega) (by omega) (by omega) (by omega)).mono ?_
  rw [hE]
  rintro e w1 ⟨rfl, ho, hR1, hx⟩
  have hE' := hide hE
  clear hE
  have HO := hide ho
  have HR1 := hide hR1
  obtain ⟨t1, t2, t3⟩ := hR1.cells
  clear ho hR1 r1 r2 r3 cB cX fX zB zX
  go_wp2_with fail
  rw [run56]
  go_wp2
  go_ret2
  exact ⟨by (rw [hE'.out]; rfl), Only2.only HB0.out HO.out (by omega), HR1.out⟩

set_option maxRecDepth 100000 in
set_option maxHeartbeats 2000000 in
theorem RReal_bad (g B : Nat) (ns : List Nat) (a : Nat) (w : World) (hR : RAny w g B ns a) (hE : ns.length < a + 8) : Calls Try.prog 43 #[.pointer (some ⟨g, 0, none⟩)] w (fun e w' => e = .returned (.tuple #[.float .f64 (nx ns a 8).1, .int .i64 ((nx ns a 8).2.1 : Int)]) ∧ Only g w w' ∧ RAny w' g B ns (nx ns a 8).2.2) := by
  have hB0 : Below w.heap.size w ((w.alloc (.cells #[Value.pointer (some ⟨g, 0, none⟩)] 35)).alloc (.cells #[Value.int .u64 0] 22)) := by (focus repeat' (first | (with_reducible exact Below.refl _ _) | (with_reducible assumption) | (with_reducible refine Below.alloc ?_ ?_ _) | (with_reducible refine Below.drew ?_) | (with_reducible refine bdrewN ?_ _) | (with_reducible refine Below.setCell ?_ ?_ _) | (first | (with_reducible exact Nat.le_refl _) | (with_reducible assumption) | omega | (simp; omega) | (simp; done))))
  have HR0 := hide (hR.below hB0)
  have HB0 := hide hB0
  have cB : ∀ o, ((w.alloc (.cells #[Value.pointer (some ⟨g, 0, none⟩)] 35)).alloc (.cells #[Value.int .u64 0] 22)).cell? ⟨w.heap.size, o, none⟩ = (#[Value.pointer (some ⟨g, 0, none⟩)] : Array Value)[o]? := fun o => by simp [go_sem]
  have cX : ∀ o, ((w.alloc (.cells #[Value.pointer (some ⟨g, 0, none⟩)] 35)).alloc (.cells #[Value.int .u64 0] 22)).cell? ⟨w.heap.size + 1, o, none⟩ = (#[Value.int .u64 0] : Array Value)[o]? := fun o => by simp [go_sem]
  have fX : ∀ o, ((w.alloc (.cells #[Value.pointer (some ⟨g, 0, none⟩)] 35)).alloc (.cells #[Value.int .u64 0] 22)).frozen? ⟨w.heap.size + 1, o, none⟩ = false := fun o => by simp [go_sem]
  have zB : w.heap.size < ((w.alloc (.cells #[Value.pointer (some ⟨g, 0, none⟩)] 35)).alloc (.cells #[Value.int .u64 0] 22)).heap.size := by (simp; omega)
  have zX : w.heap.size + 1 < ((w.alloc (.cells #[Value.pointer (some ⟨g, 0, none⟩)] 35)).alloc (.cells #[Value.int .u64 0] 22)).heap.size := by simp
  have hg : g < w.heap.size := hR.cells.1
  have hb : B ≤ w.heap.size := hR.1
  have hle : a ≤ ns.length := hR.more.1
  obtain ⟨r1, r2, r3⟩ := HR0.out.cells
  clear hR hB0
  go_enter Try.func43, Try.ntmps43
  go_wp2_with (go_at_call 52; go_in)
  refine (re1 g B w.heap.size (w.heap.size + 1) ns a _ HR0.out cB zB zX cX fX (by omega) (by omega) (by omega) (by omega)).mono ?_
  rw [nx_end hE]
  rintro e w1 ⟨rfl, ho, hR1, hx⟩
  have hE' := hide (nx_end hE)
  clear hE
  have HO := hide ho
  have HR1 := hide hR1
  obtain ⟨t1, t2, t3⟩ := hR1.cells
  clear ho hR1 r1 r2 r3 cB cX fX zB zX
  go_wp2_with fail
  rw [show ((0 : Nat) : Int) = 0 from rfl] at *
  rw [show (Value.int .u64 (0 : Int)) = .int .u64 ((0 : Nat) : Int) from rfl, run56]
  go_wp2
  go_ret2
  exact ⟨by (rw [hE'.out]; rfl), (Only2.only HB0.out HO.out (by omega)).set 1 _, by (rw [hE'.out]; exact HR1.out.reset hle)⟩

theorem RReal_c (g B : Nat) (ns : List Nat) (a : Nat) (w : World) (hR : RAny w g B ns a) : Calls Try.prog 43 #[.pointer (some ⟨g, 0, none⟩)] w (fun e w' => e = .returned (.tuple #[.float .f64 (nx ns a 8).1, .int .i64 ((nx ns a 8).2.1 : Int)]) ∧ Only g w w' ∧ RAny w' g B ns (nx ns a 8).2.2) := by
  by_cases hE : ns.length < a + 8
  · exact RReal_bad g B ns a w hR hE
  · exact RReal_ok g B ns a w hR (by rw [nx_ok (by omega)])
end Go.Proofs.Ytajkgecegefnmaa

namespace Go.Proofs.Ytajkgecegefnmaa
open Go.ChangeShapes Go.WideShapes Go.ChangeAt Go.RowKit Go.Deep
set_option linter.unusedSimpArgs false
set_option linter.unusedVariables false

/-- a number unfolded -/
def unf (x : Nat) : Int := if x % 2 = 0 then ((x / 2 : Nat) : Int) else -((x / 2 : Nat) : Int) - 1
theorem xor_i64_zero (a : Nat) (ha : a < 9223372036854775808) : bits .xor .i64 (a : Int) 0 = (a : Int) := by
  show IntKind.i64.wrap ((BitVec.ofInt 64 (a : Int) ^^^ BitVec.ofInt 64 0).toNat : Int) = _
  have h1 : BitVec.ofInt 64 0 = 0#64 := by decide
  rw [h1, BitVec.xor_zero, ofInt_u64 a (by omega)]
  simp [IntKind.wrap, IntKind.bits, IntKind.signed]
  omega
theorem xor_i64_ones (a : Nat) (ha : a < 9223372036854775808) : bits .xor .i64 (a : Int) (-1) = -1 - (a : Int) := by
  show IntKind.i64.wrap ((BitVec.ofInt 64 (a : Int) ^^^ BitVec.ofInt 64 (-1)).toNat : Int) = _
  have h1 : BitVec.ofInt 64 (-1) = BitVec.allOnes 64 := by decide
  rw [h1, BitVec.xor_allOnes, BitVec.toNat_not, ofInt_u64 a (by omega)]
  simp [IntKind.wrap, IntKind.bits, IntKind.signed]
  omega
theorem and_one_even (h : Nat) (hh : 2 * h < 18446744073709551616) : bits .and .u64 ((2 * h : Nat) : Int) 1 = 0 := by
  have q := bits_and_u64_nat (2 * h) 1 hh (by decide)
  rw [Nat.and_one_is_mod, Nat.mul_mod_right] at q
  exact q
theorem and_one_odd (h : Nat) (hh : 2 * h + 1 < 18446744073709551616) : bits .and .u64 ((2 * h + 1 : Nat) : Int) 1 = 1 := by
  have q := bits_and_u64_nat (2 * h + 1) 1 hh (by decide)
  rw [Nat.and_one_is_mod, Nat.mul_add_mod] at q
  exact q

set_option maxRecDepth 100000 in
set_option maxHeartbeats 1000000 in
theorem Unfold_even (h : Nat) (w : World) (hh : 2 * h < 18446744073709551616) : Calls Try.prog 17 #[.int .u64 ((2 * h : Nat) : Int)] w (fun e w' => e = .returned (.int .i64 (h : Int)) ∧ Below w.heap.size w w') := by
  have A := and_one_even h hh
  have D : (((2 * h : Nat) : Int)) / 2 = (h : Int) := by omega
  have Q := hide (xor_i64_zero h (by omega))
  have Hh := hide hh
  have hh2 : h < 9223372036854775808 := by omega
  clear hh
  generalize hx : ((2 * h : Nat) : Int) = X at *
  have hX : 0 ≤ X := by omega
  have hX2 : X < 18446744073709551616 := by (have := Hh.out; omega)
  have HX := hide hx
  clear hx
  go_enter Try.func17, Try.ntmps17
  go_wp2
  go_ret
  refine ⟨ret_int ?_, by (focus repeat' (first | (with_reducible exact Below.refl _ _) | (with_reducible assumption) | (with_reducible refine Below.alloc ?_ ?_ _) | (with_reducible refine Below.drew ?_) | (with_reducible refine bdrewN ?_ _) | (with_reducible refine Below.setCell ?_ ?_ _) | (first | (with_reducible exact Nat.le_refl _) | (with_reducible assumption) | omega | (simp; omega) | (simp; done))))⟩
  have q := Q.out
  first | (simp [A, D, q]; done) | (simp [A, D, q, IntKind.wrap, IntKind.bits, IntKind.signed]; omega) | (simp only [A, D, q]; omega)

set_option maxRecDepth 100000 in
set_option maxHeartbeats 1000000 in
theorem Unfold_odd (h : Nat) (w : World) (hh : 2 * h + 1 < 18446744073709551616) : Calls Try.prog 17 #[.int .u64 ((2 * h + 1 : Nat) : Int)] w (fun e w' => e = .returned (.int .i64 (-(h : Int) - 1)) ∧ Below w.heap.size w w') := by
  have A := and_one_odd h hh
  have D : (((2 * h + 1 : Nat) : Int)) / 2 = (h : Int) := by omega
  have Q := hide (xor_i64_ones h (by omega))
  have Hh := hide hh
  have hh2 : h < 9223372036854775808 := by omega
  clear hh
  generalize hx : ((2 * h + 1 : Nat) : Int) = X at *
  have hX : 0 ≤ X := by omega
  have hX2 : X < 18446744073709551616 := by (have := Hh.out; omega)
  have HX := hide hx
  clear hx
  go_enter Try.func17, Try.ntmps17
  go_wp2
  go_ret
  refine ⟨ret_int ?_, by (focus repeat' (first | (with_reducible exact Below.refl _ _) | (with_reducible assumption) | (with_reducible refine Below.alloc ?_ ?_ _) | (with_reducible refine Below.drew ?_) | (with_reducible refine bdrewN ?_ _) | (with_reducible refine Below.setCell ?_ ?_ _) | (first | (with_reducible exact Nat.le_refl _) | (with_reducible assumption) | omega | (simp; omega) | (simp; done))))⟩
  have q := Q.out
  first | (simp [A, D, q]; done) | (simp [A, D, q, IntKind.wrap, IntKind.bits, IntKind.signed]; omega) | (simp only [A, D, q]; omega)

theorem unf_even (h : Nat) : unf (2 * h) = (h : Int) := by unfold unf; rw [if_pos (by omega)]; omega
theorem unf_odd (h : Nat) : unf (2 * h + 1) = -(h : Int) - 1 := by unfold unf; rw [if_neg (by omega)]; omega
theorem Unfold_c (x : Nat) (w : World) (hx : x < 18446744073709551616) : Calls Try.prog 17 #[.int .u64 (x : Int)] w fun e w' => e = .returned (.int .i64 (unf x)) ∧ Below w.heap.size w w' := by
  by_cases h : x % 2 = 0
  · obtain ⟨k, rfl⟩ : ∃ k, x = 2 * k := ⟨x / 2, by omega⟩
    rw [unf_even]; exact Unfold_even k w hx
  · obtain ⟨k, rfl⟩ : ∃ k, x = 2 * k + 1 := ⟨x / 2, by omega⟩
    rw [unf_odd]; exact Unfold_odd k w hx

set_option maxRecDepth 100000 in
set_option maxHeartbeats 1000000 in
theorem refUnfold_even (x : Nat) (w : World) (hx : x < 18446744073709551616) (h : x % 2 = 0) : Calls Try.prog 18 #[.int .u64 (x : Int)] w fun e w' => e = .returned (.int .i64 ((x / 2 : Nat) : Int)) ∧ Below w.heap.size w w' := by
  obtain ⟨X, hX⟩ : ∃ X : Int, (x : Int) = X := ⟨_, rfl⟩
  rw [hX]
  have hX0 : 0 ≤ X := by omega
  have hX1 : X < 18446744073709551616 := by omega
  have hd : X / 2 < 9223372036854775808 := by omega
  have hm : (X % 2 == 0) = true := by (simp; omega)
  have HX := hide hX
  have H := hide h
  clear hX h hx
  go_enter Try.func18, Try.ntmps18
  go_wp2
  go_ret
  exact ⟨ret_int (by have := HX.out; have := H.out; omega), by (focus repeat' (first | (with_reducible exact Below.refl _ _) | (with_reducible assumption) | (with_reducible refine Below.alloc ?_ ?_ _) | (with_reducible refine Below.drew ?_) | (with_reducible refine bdrewN ?_ _) | (with_reducible refine Below.setCell ?_ ?_ _) | (first | (with_reducible exact Nat.le_refl _) | (with_reducible assumption) | omega | (simp; omega) | (simp; done))))⟩

set_option maxRecDepth 100000 in
set_option maxHeartbeats 1000000 in
theorem refUnfold_odd (x : Nat) (w : World) (hx : x < 18446744073709551616) (h : ¬ x % 2 = 0) : Calls Try.prog 18 #[.int .u64 (x : Int)] w fun e w' => e = .returned (.int .i64 (-((x / 2 : Nat) : Int) - 1)) ∧ Below w.heap.size w w' := by
  obtain ⟨X, hX⟩ : ∃ X : Int, (x : Int) = X := ⟨_, rfl⟩
  rw [hX]
  have hX0 : 0 ≤ X := by omega
  have hX1 : X < 18446744073709551616 := by omega
  have hd : X / 2 < 9223372036854775808 := by omega
  have hm : (X % 2 == 0) = false := by (simp; omega)
  have HX := hide hX
  have H := hide h
  clear hX h hx
  go_enter Try.func18, Try.ntmps18
  go_wp2
  go_ret
  exact ⟨ret_int (by have := HX.out; have := H.out; omega), by (focus repeat' (first | (with_reducible exact Below.refl _ _) | (with_reducible assumption) | (with_reducible refine Below.alloc ?_ ?_ _) | (with_reducible refine Below.drew ?_) | (with_reducible refine bdrewN ?_ _) | (with_reducible refine Below.setCell ?_ ?_ _) | (first | (with_reducible exact Nat.le_refl _) | (with_reducible assumption) | omega | (simp; omega) | (simp; done))))⟩

theorem refUnfold_c (x : Nat) (w : World) (hx : x < 18446744073709551616) : Calls Try.prog 18 #[.int .u64 (x : Int)] w fun e w' => e = .returned (.int .i64 (unf x)) ∧ Below w.heap.size w w' := by
  unfold unf
  by_cases h : x % 2 = 0
  · rw [if_pos h]; exact refUnfold_even x w hx h
  · rw [if_neg h]; exact refUnfold_odd x w hx h

set_option maxRecDepth 100000 in
set_option maxHeartbeats 1000000 in
theorem refFold_pos (x : Int) (w : World) (h0 : -9223372036854775808 ≤ x) (h1 : x ≤ 9223372036854775807) (h : 0 ≤ x) : Calls Try.prog 16 #[.int .i64 x] w fun e w' => e = .returned (.int .u64 (2 * x)) ∧ Below w.heap.size w w' := by
  go_enter Try.func16, Try.ntmps16
  go_wp2
  go_ret
  exact ⟨ret_int (by first | rfl | omega), by (focus repeat' (first | (with_reducible exact Below.refl _ _) | (with_reducible assumption) | (with_reducible refine Below.alloc ?_ ?_ _) | (with_reducible refine Below.drew ?_) | (with_reducible refine bdrewN ?_ _) | (with_reducible refine Below.setCell ?_ ?_ _) | (first | (with_reducible exact Nat.le_refl _) | (with_reducible assumption) | omega | (simp; omega) | (simp; done))))⟩

set_option maxRecDepth 100000 in
set_option maxHeartbeats 1000000 in
theorem refFold_neg (x : Int) (w : World) (h0 : -9223372036854775808 ≤ x) (h1 : x ≤ 9223372036854775807) (h : ¬ 0 ≤ x) : Calls Try.prog 16 #[.int .i64 x] w fun e w' => e = .returned (.int .u64 (-2 * x - 1)) ∧ Below w.heap.size w w' := by
  go_enter Try.func16, Try.ntmps16
  go_wp2
  go_ret
  exact ⟨ret_int (by first | rfl | omega), by (focus repeat' (first | (with_reducible exact Below.refl _ _) | (with_reducible assumption) | (with_reducible refine Below.alloc ?_ ?_ _) | (with_reducible refine Below.drew ?_) | (with_reducible refine bdrewN ?_ _) | (with_reducible refine Below.setCell ?_ ?_ _) | (first | (with_reducible exact Nat.le_refl _) | (with_reducible assumption) | omega | (simp; omega) | (simp; done))))⟩

theorem refFold_c (x : Int) (w : World) (h0 : -9223372036854775808 ≤ x) (h1 : x ≤ 9223372036854775807) : Calls Try.prog 16 #[.int .i64 x] w fun e w' => e = .returned (.int .u64 (fold x : Int)) ∧ Below w.heap.size w w' := by
  by_cases h : 0 ≤ x
  · have e : (fold x : Int) = 2 * x := by unfold fold; rw [if_pos h]; omega
    rw [e]; exact refFold_pos x w h0 h1 h
  · have e : (fold x : Int) = -2 * x - 1 := by unfold fold; rw [if_neg h]; omega
    rw [e]; exact refFold_neg x w h0 h1 h
theorem unf_fold (x : Int) : unf (fold x) = x := by
  unfold fold unf
  split <;> split <;> omega
theorem fold_unf (x : Nat) : fold (unf x) = x := by
  unfold fold unf
  split <;> split <;> omega
set_option maxRecDepth 100000 in
theorem unf_lo (x : Nat) (hx : x < 18446744073709551616) : -9223372036854775808 ≤ unf x ∧ unf x ≤ 9223372036854775807 := by unfold unf; split <;> omega

set_option maxRecDepth 100000 in
set_option maxHeartbeats 1000000 in
theorem RSigned_c (g B : Nat) (ns : List Nat) (a : Nat) (w : World) (hR : RAny w g B ns a) : Calls Try.prog 41 #[.pointer (some ⟨g, 0, none⟩)] w (fun e w' => e = .returned (.tuple #[.int .i64 (unf (rd ns a).1), .int .i64 ((rd ns a).2.1 : Int)]) ∧ Only g w w' ∧ RAny w' g B ns (rd ns a).2.2) := by
  have hlt := rd_lt ns a hR.more.2.2
  go_enter Try.func41, Try.ntmps41
  go_wp2_with fail
  refine (RNum_any g B ns a _ hR).mono ?_
  rintro e w1 ⟨rfl, ho1, hR1⟩
  have HR1 := hide hR1
  have HO1 := hide ho1
  clear hR ho1 hR1
  go_wp2_with fail
  refine (Unfold_c _ _ hlt).mono ?_
  rintro e w2 ⟨rfl, hb2⟩
  have HB2 := hide hb2
  clear hb2
  go_wp2
  go_ret2
  exact ⟨rfl, HO1.out.trans_below HB2.out, HR1.out.below HB2.out⟩
end Go.Proofs.Ytajkgecegefnmaa

namespace Go.Proofs.Ytajkgecegefnmaa
open Go.ChangeShapes Go.WideShapes Go.ChangeAt Go.RowKit Go.Deep
set_option linter.unusedSimpArgs false
set_option linter.unusedVariables false

/-- the text of bytes -/
def bstr (ns : List Nat) : ByteArray := strOfNums (ns.map (fun (x : Nat) => (x : Int)))
theorem bstr_nil : bstr [] = ⟨#[]⟩ := rfl
theorem sb_bstr (ns : List Nat) (h : ∀ x ∈ ns, x < 256) : sb (bstr ns) = ns := by
  unfold sb bstr strOfNums
  simp only [List.map_map]
  refine (List.map_congr_left (fun x hx => ?_)).trans (List.map_id ns)
  have := h x hx
  simp; omega
theorem bstr_sb (s : ByteArray) : bstr (sb s) = s := by
  unfold sb bstr strOfNums
  cases s with
  | mk d =>
    congr 1
    simp only [List.map_map]
    rw [show ((fun (n : Int) => UInt8.ofNat n.toNat) ∘ (fun (x : Nat) => (x : Int)) ∘ fun (b : UInt8) => b.toNat) = id from by funext b; simp]
    simp
theorem bstr_size (ns : List Nat) : (bstr ns).size = ns.length := by
  show (bstr ns).data.size = _
  unfold bstr strOfNums
  simp
theorem convert_zero (w : World) (p : Option Addr) (c : Nat) : Sem.run Try.prog (convert 28 9 (.slice p 0 c)) w = .ok (.string ⟨#[]⟩) w := by
  rw [run_convert_bytes_string w 28 9 5 _ 0 c Try.underlying28 Try.underlying5 Try.underlying9]
  cases p <;> simp [Conv.bytesToString, loadCells]
  all_goals rfl
theorem drewB (w : World) : Below w.heap.size w w.drew := by (focus repeat' (first | (with_reducible exact Below.refl _ _) | (with_reducible assumption) | (with_reducible refine Below.alloc ?_ ?_ _) | (with_reducible refine Below.drew ?_) | (with_reducible refine bdrewN ?_ _) | (with_reducible refine Below.setCell ?_ ?_ _) | (first | (with_reducible exact Nat.le_refl _) | (with_reducible assumption) | omega | (simp; omega) | (simp; done))))
theorem Only2.setg {g h : Nat} {w w1 : World} (k : Only2 g h w w1) (o : Nat) (u : Value) : Only2 g h w (w1.setCell ⟨g, o, none⟩ u) :=
  k.trans ⟨rfl, rfl, rfl, by simp, fun i hi h1 _ => Below.heap_setCell _ _ _ _ h1⟩
def tx (ns : List Nat) (a m : Nat) : List Nat × Nat × Nat :=
  if (lg ns a m).2.1 ≠ 0 then ([], (lg ns a m).2.1, a) else ((ns.drop (lg ns a m).2.2).take (lg ns a m).1, 0, (lg ns a m).2.2 + (lg ns a m).1)
theorem tx_err (ns : List Nat) (a m : Nat) : (tx ns a m).2.1 = (lg ns a m).2.1 := by unfold tx; split <;> simp_all
theorem rd_some {ns : List Nat} {a : Nat} (h : (rd ns a).2.1 = 0) : a < ns.length := by
  by_cases c : ns.length ≤ a
  · unfold rd at h; rw [if_pos c] at h; cases h
  · omega
theorem lg_place (ns : List Nat) (a m : Nat) (h : a ≤ ns.length) : (lg ns a m).2.2 ≤ ns.length := by
  have := rd_place ns a h
  unfold lg; split
  · exact this
  split
  · exact this
  split <;> exact this

set_option maxRecDepth 100000 in
set_option maxHeartbeats 1000000 in
theorem tx1_neg (g B Br Bm Bx : Nat) (ns : List Nat) (a : Nat) (m : Int) (w : World) (hR : RAny w g B ns a) (hB : ∀ o, w.cell? ⟨Br, o, none⟩ = (#[Value.pointer (some ⟨g, 0, none⟩)] : Array Value)[o]?) (hM : ∀ o, w.cell? ⟨Bm, o, none⟩ = (#[Value.int .i64 m] : Array Value)[o]?) (hBz : Br < w.heap.size) (hMz : Bm < w.heap.size) (hXz : Bx < w.heap.size) (hX : ∀ o, w.cell? ⟨Bx, o, none⟩ = (#[Value.string ⟨#[]⟩] : Array Value)[o]?) (hXf : ∀ o, w.frozen? ⟨Bx, o, none⟩ = false) (d1 : Br ≠ g) (d2 : Bx ≠ g) (d3 : Bx ≠ Br) (d4 : B ≤ Bx) (d5 : Bm ≠ g) (d6 : Bx ≠ Bm) (hm : m < 0) : Calls Try.prog 75 #[.pointer (some ⟨Bm, 0, none⟩), .pointer (some ⟨Br, 0, none⟩), .pointer (some ⟨Bx, 0, none⟩)] w (fun e w' => e = .returned (.int .i64 2) ∧ Only2 g Bx w w' ∧ RAny w' g B ns a ∧ w'.cell? ⟨Bx, 0, none⟩ = some (.string ⟨#[]⟩)) := by
  have HR := hide hR
  have HX := hide hX
  have HXF := hide hXf
  clear hR hX hXf
  go_enter Try.func75, Try.ntmps75
  go_wp2
  go_ret
  exact ⟨rfl, Only2.of_below (by (focus repeat' (first | (with_reducible exact Below.refl _ _) | (with_reducible assumption) | (with_reducible refine Below.alloc ?_ ?_ _) | (with_reducible refine Below.drew ?_) | (with_reducible refine bdrewN ?_ _) | (with_reducible refine Below.setCell ?_ ?_ _) | (first | (with_reducible exact Nat.le_refl _) | (with_reducible assumption) | omega | (simp; omega) | (simp; done))))), HR.out, HX.out 0⟩

set_option maxRecDepth 100000 in
set_option maxHeartbeats 1000000 in
theorem tx1_bad (g B Br Bm Bx : Nat) (ns : List Nat) (a : Nat) (m : Nat) (w : World) (hR : RAny w g B ns a) (hB : ∀ o, w.cell? ⟨Br, o, none⟩ = (#[Value.pointer (some ⟨g, 0, none⟩)] : Array Value)[o]?) (hM : ∀ o, w.cell? ⟨Bm, o, none⟩ = (#[Value.int .i64 (m : Int)] : Array Value)[o]?) (hBz : Br < w.heap.size) (hMz : Bm < w.heap.size) (hXz : Bx < w.heap.size) (hX : ∀ o, w.cell? ⟨Bx, o, none⟩ = (#[Value.string ⟨#[]⟩] : Array Value)[o]?) (hXf : ∀ o, w.frozen? ⟨Bx, o, none⟩ = false) (d1 : Br ≠ g) (d2 : Bx ≠ g) (d3 : Bx ≠ Br) (d4 : B ≤ Bx) (d5 : Bm ≠ g) (d6 : Bx ≠ Bm) (hm : m ≤ 9223372036854775807) (hE : (lg ns a m).2.1 ≠ 0) : Calls Try.prog 75 #[.pointer (some ⟨Bm, 0, none⟩), .pointer (some ⟨Br, 0, none⟩), .pointer (some ⟨Bx, 0, none⟩)] w (fun e w' => e = .returned (.int .i64 ((lg ns a m).2.1 : Int)) ∧ Only2 g Bx w w' ∧ RAny w' g B ns (lg ns a m).2.2 ∧ w'.cell? ⟨Bx, 0, none⟩ = some (.string ⟨#[]⟩)) := by
  have hE2 : ((lg ns a m).2.1 : Int) ≠ 0 := by omega
  have HR := hide hR
  have HX := hide hX
  have HXF := hide hXf
  clear hR hX hXf
  go_enter Try.func75, Try.ntmps75
  go_wp2_with fail
  refine (long_c g B ns a m _ HR.out hm).mono ?_
  rintro e w1 ⟨rfl, ho1, hR1⟩
  have HR1 := hide hR1
  have k1 : Only2 g Bx w w1 := Only2.of_only ho1
  have XC : ∀ o, w1.cell? ⟨Bx, o, none⟩ = (#[Value.string ⟨#[]⟩] : Array Value)[o]? := fun o => (World.cell?_of_block (ho1.block Bx hXz d2)).trans (HX.out o)
  have XF : ∀ o, w1.frozen? ⟨Bx, o, none⟩ = false := fun o => (World.frozen?_of_block (ho1.block Bx hXz d2)).trans (HXF.out o)
  have BC : ∀ o, w1.cell? ⟨Br, o, none⟩ = (#[Value.pointer (some ⟨g, 0, none⟩)] : Array Value)[o]? := fun o => (World.cell?_of_block (ho1.block Br hBz d1)).trans (hB o)
  have hXz1 : Bx < w1.heap.size := Nat.lt_of_lt_of_le hXz ho1.size
  have hBz1 : Br < w1.heap.size := Nat.lt_of_lt_of_le hBz ho1.size
  clear hR1 ho1 hB hM
  go_wp2
  go_ret
  exact ⟨rfl, k1, HR1.out, XC 0⟩

set_option maxRecDepth 100000 in
set_option maxHeartbeats 2000000 in
theorem tx1_some (g B Br Bm Bx : Nat) (ns : List Nat) (a : Nat) (m : Nat) (w : World) (hR : RAny w g B ns a) (hB : ∀ o, w.cell? ⟨Br, o, none⟩ = (#[Value.pointer (some ⟨g, 0, none⟩)] : Array Value)[o]?) (hM : ∀ o, w.cell? ⟨Bm, o, none⟩ = (#[Value.int .i64 (m : Int)] : Array Value)[o]?) (hBz : Br < w.heap.size) (hMz : Bm < w.heap.size) (hXz : Bx < w.heap.size) (hX : ∀ o, w.cell? ⟨Bx, o, none⟩ = (#[Value.string ⟨#[]⟩] : Array Value)[o]?) (hXf : ∀ o, w.frozen? ⟨Bx, o, none⟩ = false) (d1 : Br ≠ g) (d2 : Bx ≠ g) (d3 : Bx ≠ Br) (d4 : B ≤ Bx) (d5 : Bm ≠ g) (d6 : Bx ≠ Bm) (hm : m ≤ 9223372036854775807) (hE : (lg ns a m).2.1 = 0) (hn : 0 < (lg ns a m).1) : Calls Try.prog 75 #[.pointer (some ⟨Bm, 0, none⟩), .pointer (some ⟨Br, 0, none⟩), .pointer (some ⟨Bx, 0, none⟩)] w (fun e w' => e = .returned (.int .i64 0) ∧ Only2 g Bx w w' ∧ RAny w' g B ns ((lg ns a m).2.2 + (lg ns a m).1) ∧ w'.cell? ⟨Bx, 0, none⟩ = some (.string (bstr ((ns.drop (lg ns a m).2.2).take (lg ns a m).1)))) := by
  have hlk := lg_ok ns a m hE
  have hne : ns ≠ [] := by rintro rfl; have := rd_some hlk.1; simp at this
  have hmo := hR.more
  have hfit : (lg ns a m).2.2 + (lg ns a m).1 ≤ ns.length := by
    have q := rd_place ns a hmo.1
    rw [hlk.2.2.2]
    show (rd ns a).2.2 + (rd ns a).1 ≤ _
    omega
  have hmo2 := hmo.2.1
  clear hlk hmo
  have HR := hide hR
  have HX := hide hX
  have HXF := hide hXf
  clear hR hX hXf
  go_enter Try.func75, Try.ntmps75
  go_wp2_with fail
  refine (long_c g B ns a m _ HR.out hm).mono ?_
  rw [hE]
  rintro e w1 ⟨rfl, ho1, hR1⟩
  have HR1 := hide hR1
  have k1 : Only2 g Bx w w1 := Only2.of_only ho1
  have XC : ∀ o, w1.cell? ⟨Bx, o, none⟩ = (#[Value.string ⟨#[]⟩] : Array Value)[o]? := fun o => (World.cell?_of_block (ho1.block Bx hXz d2)).trans (HX.out o)
  have XF : ∀ o, w1.frozen? ⟨Bx, o, none⟩ = false := fun o => (World.frozen?_of_block (ho1.block Bx hXz d2)).trans (HXF.out o)
  have BC : ∀ o, w1.cell? ⟨Br, o, none⟩ = (#[Value.pointer (some ⟨g, 0, none⟩)] : Array Value)[o]? := fun o => (World.cell?_of_block (ho1.block Br hBz d1)).trans (hB o)
  have hXz1 : Bx < w1.heap.size := Nat.lt_of_lt_of_le hXz ho1.size
  have hBz1 : Br < w1.heap.size := Nat.lt_of_lt_of_le hBz ho1.size
  clear hR1 ho1 hB hM
  clear HR HX HXF
  have hE' := hide hE
  clear hE
  have hne2 := hide hne
  clear hne
  generalize hpl : (lg ns a m).2.2 = pl at *
  generalize hnn : (lg ns a m).1 = n at *
  have HPL := hide hpl
  have HNN := hide hnn
  clear hpl hnn
  obtain ⟨b, off, cap, hbB, hO⟩ := HR1.out.obj hne2.out
  have HO := hide hO
  obtain ⟨r1, r2, r3, r4, r5, r6, r7, r8, r9, r10⟩ := hO
  have R7 := hide r7
  have HB1 := hide HR1.out.1
  have hca : ¬ cap = pl := by omega
  have hw : IntKind.i64.wrap ((pl : Int) + (n : Int)) = ((pl + n : Nat) : Int) := by (simp [IntKind.wrap, IntKind.bits, IntKind.signed]; omega)
  have hwc : pl + n ≤ cap := by omega
  have CV := run_convert_bytes_arg (P := Try.prog) w1.drew 28 5 Try.underlying28 Try.underlying5 b (off + pl) n (cap - pl) (((ns.drop pl).take n).map (fun (x : Nat) => (x : Int))) (by simp; omega) (fun i hi => by
    have q := r6 (pl + i) (by omega)
    rw [← Nat.add_assoc] at q
    rw [World.cell?_drew, q]
    have e1 : (((ns.drop pl).take n).map (fun (x : Nat) => (x : Int))).getD i 0 = ((ns.getD (pl + i) 0 : Nat) : Int) := by
      simp [List.getD, hi, show pl + i < ns.length by omega]
    rw [e1]) 9 Try.underlying9
  have CV' : Sem.run Try.prog (convert 28 9 (.slice (some ⟨b, off + pl, none⟩) n (cap - pl))) w1.drew = .ok (.string (bstr ((ns.drop pl).take n))) w1.drew := CV
  clear r6 r7 CV R7
  generalize hst : bstr ((ns.drop pl).take n) = st at *
  have HST := hide hst
  clear hst
  go_wp2
  go_region
  go_wp2
  go_ret
  rw [HPL.out, HNN.out]
  refine ⟨rfl, ((k1.set 0 _).setg 1 _).trans (Only2.of_below (drewB _)), ?_, ?_⟩
  · have q := ((HR1.out.set d2 d4 0 (.string st)).reset (a0 := pl + n) (by omega)).below (drewB _)
    rw [Int.natCast_add] at q
    exact q
  · rw [HST.out]
    simp [go_sem, XC, d2]

set_option maxRecDepth 100000 in
set_option maxHeartbeats 2000000 in
theorem tx1_none (g B Br Bm Bx : Nat) (ns : List Nat) (a : Nat) (m : Nat) (w : World) (hR : RAny w g B ns a) (hB : ∀ o, w.cell? ⟨Br, o, none⟩ = (#[Value.pointer (some ⟨g, 0, none⟩)] : Array Value)[o]?) (hM : ∀ o, w.cell? ⟨Bm, o, none⟩ = (#[Value.int .i64 (m : Int)] : Array Value)[o]?) (hBz : Br < w.heap.size) (hMz : Bm < w.heap.size) (hXz : Bx < w.heap.size) (hX : ∀ o, w.cell? ⟨Bx, o, none⟩ = (#[Value.string ⟨#[]⟩] : Array Value)[o]?) (hXf : ∀ o, w.frozen? ⟨Bx, o, none⟩ = false) (d1 : Br ≠ g) (d2 : Bx ≠ g) (d3 : Bx ≠ Br) (d4 : B ≤ Bx) (d5 : Bm ≠ g) (d6 : Bx ≠ Bm) (hm : m ≤ 9223372036854775807) (hE : (lg ns a m).2.1 = 0) (hn : (lg ns a m).1 = 0) : Calls Try.prog 75 #[.pointer (some ⟨Bm, 0, none⟩), .pointer (some ⟨Br, 0, none⟩), .pointer (some ⟨Bx, 0, none⟩)] w (fun e w' => e = .returned (.int .i64 0) ∧ Only2 g Bx w w' ∧ RAny w' g B ns ((lg ns a m).2.2 + (lg ns a m).1) ∧ w'.cell? ⟨Bx, 0, none⟩ = some (.string (bstr ((ns.drop (lg ns a m).2.2).take (lg ns a m).1)))) := by
  have hlk := lg_ok ns a m hE
  have hne : ns ≠ [] := by rintro rfl; have := rd_some hlk.1; simp at this
  have hmo := hR.more
  have hfit : (lg ns a m).2.2 + (lg ns a m).1 ≤ ns.length := by
    have q := rd_place ns a hmo.1
    rw [hlk.2.2.2]
    show (rd ns a).2.2 + (rd ns a).1 ≤ _
    omega
  have hmo2 := hmo.2.1
  clear hlk hmo
  have HR := hide hR
  have HX := hide hX
  have HXF := hide hXf
  clear hR hX hXf
  go_enter Try.func75, Try.ntmps75
  go_wp2_with fail
  refine (long_c g B ns a m _ HR.out hm).mono ?_
  rw [hE]
  rintro e w1 ⟨rfl, ho1, hR1⟩
  have HR1 := hide hR1
  have k1 : Only2 g Bx w w1 := Only2.of_only ho1
  have XC : ∀ o, w1.cell? ⟨Bx, o, none⟩ = (#[Value.string ⟨#[]⟩] : Array Value)[o]? := fun o => (World.cell?_of_block (ho1.block Bx hXz d2)).trans (HX.out o)
  have XF : ∀ o, w1.frozen? ⟨Bx, o, none⟩ = false := fun o => (World.frozen?_of_block (ho1.block Bx hXz d2)).trans (HXF.out o)
  have BC : ∀ o, w1.cell? ⟨Br, o, none⟩ = (#[Value.pointer (some ⟨g, 0, none⟩)] : Array Value)[o]? := fun o => (World.cell?_of_block (ho1.block Br hBz d1)).trans (hB o)
  have hXz1 : Bx < w1.heap.size := Nat.lt_of_lt_of_le hXz ho1.size
  have hBz1 : Br < w1.heap.size := Nat.lt_of_lt_of_le hBz ho1.size
  clear hR1 ho1 hB hM
  clear HR HX HXF
  have hE' := hide hE
  clear hE
  have hne2 := hide hne
  clear hne
  generalize hpl : (lg ns a m).2.2 = pl at *
  generalize hnn : (lg ns a m).1 = n at *
  have HPL := hide hpl
  have HNN := hide hnn
  clear hpl hnn
  obtain ⟨b, off, cap, hbB, hO⟩ := HR1.out.obj hne2.out
  have HO := hide hO
  obtain ⟨r1, r2, r3, r4, r5, r6, r7, r8, r9, r10⟩ := hO
  have R7 := hide r7
  have HB1 := hide HR1.out.1
  subst hn
  clear r6 r7 R7
  by_cases hca : cap = pl
  · have CV := fun p c => convert_zero w1.drew p c
    go_wp2
    go_region
    go_wp2
    go_ret
    rw [HPL.out, HNN.out]
    refine ⟨rfl, ((k1.set 0 _).setg 1 _).trans (Only2.of_below (drewB _)), ?_, ?_⟩
    · exact ((HR1.out.set d2 d4 0 (.string ⟨#[]⟩)).reset (a0 := pl) (by omega)).below (drewB _)
    · rw [List.take_zero, bstr_nil]
      simp [go_sem, XC, d2]
  · have CV := fun p c => convert_zero w1.drew p c
    go_wp2
    go_region
    go_wp2
    go_ret
    rw [HPL.out, HNN.out]
    refine ⟨rfl, ((k1.set 0 _).setg 1 _).trans (Only2.of_below (drewB _)), ?_, ?_⟩
    · exact ((HR1.out.set d2 d4 0 (.string ⟨#[]⟩)).reset (a0 := pl) (by omega)).below (drewB _)
    · rw [List.take_zero, bstr_nil]
      simp [go_sem, XC, d2]
end Go.Proofs.Ytajkgecegefnmaa

namespace Go.Proofs.Ytajkgecegefnmaa
open Go.ChangeShapes Go.WideShapes Go.ChangeAt Go.RowKit Go.Deep
set_option linter.unusedSimpArgs false
set_option linter.unusedVariables false

set_option maxRecDepth 100000 in
set_option maxHeartbeats 2000000 in
theorem RText_neg (g B : Nat) (ns : List Nat) (a : Nat) (m : Int) (w : World) (hR : RAny w g B ns a) (hm : m < 0) : Calls Try.prog 44 #[.pointer (some ⟨g, 0, none⟩), .int .i64 m] w (fun e w' => e = .returned (.tuple #[.string ⟨#[]⟩, .int .i64 2]) ∧ Only g w w' ∧ RAny w' g B ns a) := by
  have hB0 : Below w.heap.size w (((w.alloc (.cells #[Value.pointer (some ⟨g, 0, none⟩)] 35)).alloc (.cells #[Value.int .i64 m] 3)).alloc (.cells #[Value.string ⟨#[]⟩] 9)) := by (focus repeat' (first | (with_reducible exact Below.refl _ _) | (with_reducible assumption) | (with_reducible refine Below.alloc ?_ ?_ _) | (with_reducible refine Below.drew ?_) | (with_reducible refine bdrewN ?_ _) | (with_reducible refine Below.setCell ?_ ?_ _) | (first | (with_reducible exact Nat.le_refl _) | (with_reducible assumption) | omega | (simp; omega) | (simp; done))))
  have HR0 := hide (hR.below hB0)
  have HB0 := hide hB0
  have cB : ∀ o, (((w.alloc (.cells #[Value.pointer (some ⟨g, 0, none⟩)] 35)).alloc (.cells #[Value.int .i64 m] 3)).alloc (.cells #[Value.string ⟨#[]⟩] 9)).cell? ⟨w.heap.size, o, none⟩ = (#[Value.pointer (some ⟨g, 0, none⟩)] : Array Value)[o]? := fun o => by simp [go_sem]
  have cM : ∀ o, (((w.alloc (.cells #[Value.pointer (some ⟨g, 0, none⟩)] 35)).alloc (.cells #[Value.int .i64 m] 3)).alloc (.cells #[Value.string ⟨#[]⟩] 9)).cell? ⟨w.heap.size + 1, o, none⟩ = (#[Value.int .i64 m] : Array Value)[o]? := fun o => by simp [go_sem]
  have cX : ∀ o, (((w.alloc (.cells #[Value.pointer (some ⟨g, 0, none⟩)] 35)).alloc (.cells #[Value.int .i64 m] 3)).alloc (.cells #[Value.string ⟨#[]⟩] 9)).cell? ⟨w.heap.size + 2, o, none⟩ = (#[Value.string ⟨#[]⟩] : Array Value)[o]? := fun o => by simp [go_sem]
  have fX : ∀ o, (((w.alloc (.cells #[Value.pointer (some ⟨g, 0, none⟩)] 35)).alloc (.cells #[Value.int .i64 m] 3)).alloc (.cells #[Value.string ⟨#[]⟩] 9)).frozen? ⟨w.heap.size + 2, o, none⟩ = false := fun o => by simp [go_sem]
  have zB : w.heap.size < (((w.alloc (.cells #[Value.pointer (some ⟨g, 0, none⟩)] 35)).alloc (.cells #[Value.int .i64 m] 3)).alloc (.cells #[Value.string ⟨#[]⟩] 9)).heap.size := by (simp; omega)
  have zM : w.heap.size + 1 < (((w.alloc (.cells #[Value.pointer (some ⟨g, 0, none⟩)] 35)).alloc (.cells #[Value.int .i64 m] 3)).alloc (.cells #[Value.string ⟨#[]⟩] 9)).heap.size := by (first | (with_reducible exact Nat.le_refl _) | (with_reducible assumption) | omega | (simp; omega) | (simp; done))
  have zX : w.heap.size + 2 < (((w.alloc (.cells #[Value.pointer (some ⟨g, 0, none⟩)] 35)).alloc (.cells #[Value.int .i64 m] 3)).alloc (.cells #[Value.string ⟨#[]⟩] 9)).heap.size := by (first | (with_reducible exact Nat.le_refl _) | (with_reducible assumption) | omega | (simp; omega) | (simp; done))
  have hg : g < w.heap.size := hR.cells.1
  have hb : B ≤ w.heap.size := hR.1
  have hle : a ≤ ns.length := hR.more.1
  obtain ⟨r1, r2, r3⟩ := HR0.out.cells
  clear hR hB0
  go_enter Try.func44, Try.ntmps44
  go_wp2_with (go_at_call 52; go_in)
  refine (tx1_neg g B w.heap.size (w.heap.size + 1) (w.heap.size + 2) ns a m _ HR0.out cB cM zB zM zX cX fX (by omega) (by omega) (by omega) (by omega) (by omega) (by omega) hm).mono ?_
  rintro e w1 ⟨rfl, ho, hR1, hx⟩
  have HO := hide ho
  have HR1 := hide hR1
  obtain ⟨t1, t2, t3⟩ := hR1.cells
  clear ho hR1 r1 r2 r3 cB cM cX fX zB zM zX
  go_wp2
  go_ret2
  exact ⟨rfl, (Only2.only HB0.out HO.out (by omega)).set 1 _, HR1.out.reset hle⟩

set_option maxRecDepth 100000 in
set_option maxHeartbeats 2000000 in
theorem RText_bad (g B : Nat) (ns : List Nat) (a : Nat) (m : Nat) (w : World) (hR : RAny w g B ns a) (hm : m ≤ 9223372036854775807) (hE : (lg ns a m).2.1 ≠ 0) : Calls Try.prog 44 #[.pointer (some ⟨g, 0, none⟩), .int .i64 (m : Int)] w (fun e w' => e = .returned (.tuple #[.string ⟨#[]⟩, .int .i64 ((lg ns a m).2.1 : Int)]) ∧ Only g w w' ∧ RAny w' g B ns a) := by
  have hE2 : ((lg ns a m).2.1 : Int) ≠ 0 := by omega
  have hB0 : Below w.heap.size w (((w.alloc (.cells #[Value.pointer (some ⟨g, 0, none⟩)] 35)).alloc (.cells #[Value.int .i64 (m : Int)] 3)).alloc (.cells #[Value.string ⟨#[]⟩] 9)) := by (focus repeat' (first | (with_reducible exact Below.refl _ _) | (with_reducible assumption) | (with_reducible refine Below.alloc ?_ ?_ _) | (with_reducible refine Below.drew ?_) | (with_reducible refine bdrewN ?_ _) | (with_reducible refine Below.setCell ?_ ?_ _) | (first | (with_reducible exact Nat.le_refl _) | (with_reducible assumption) | omega | (simp; omega) | (simp; done))))
  have HR0 := hide (hR.below hB0)
  have HB0 := hide hB0
  have cB : ∀ o, (((w.alloc (.cells #[Value.pointer (some ⟨g, 0, none⟩)] 35)).alloc (.cells #[Value.int .i64 (m : Int)] 3)).alloc (.cells #[Value.string ⟨#[]⟩] 9)).cell? ⟨w.heap.size, o, none⟩ = (#[Value.pointer (some ⟨g, 0, none⟩)] : Array Value)[o]? := fun o => by simp [go_sem]
  have cM : ∀ o, (((w.alloc (.cells #[Value.pointer (some ⟨g, 0, none⟩)] 35)).alloc (.cells #[Value.int .i64 (m : Int)] 3)).alloc (.cells #[Value.string ⟨#[]⟩] 9)).cell? ⟨w.heap.size + 1, o, none⟩ = (#[Value.int .i64 (m : Int)] : Array Value)[o]? := fun o => by simp [go_sem]
  have cX : ∀ o, (((w.alloc (.cells #[Value.pointer (some ⟨g, 0, none⟩)] 35)).alloc (.cells #[Value.int .i64 (m : Int)] 3)).alloc (.cells #[Value.string ⟨#[]⟩] 9)).cell? ⟨w.heap.size + 2, o, none⟩ = (#[Value.string ⟨#[]⟩] : Array Value)[o]? := fun o => by simp [go_sem]
  have fX : ∀ o, (((w.alloc (.cells #[Value.pointer (some ⟨g, 0, none⟩)] 35)).alloc (.cells #[Value.int .i64 (m : Int)] 3)).alloc (.cells #[Value.string ⟨#[]⟩] 9)).frozen? ⟨w.heap.size + 2, o, none⟩ = false := fun o => by simp [go_sem]
  have zB : w.heap.size < (((w.alloc (.cells #[Value.pointer (some ⟨g, 0, none⟩)] 35)).alloc (.cells #[Value.int .i64 (m : Int)] 3)).alloc (.cells #[Value.string ⟨#[]⟩] 9)).heap.size := by (simp; omega)
  have zM : w.heap.size + 1 < (((w.alloc (.cells #[Value.pointer (some ⟨g, 0, none⟩)] 35)).alloc (.cells #[Value.int .i64 (m : Int)] 3)).alloc (.cells #[Value.string ⟨#[]⟩] 9)).heap.size := by (first | (with_reducible exact Nat.le_refl _) | (with_reducible assumption) | omega | (simp; omega) | (simp; done))
  have zX : w.heap.size + 2 < (((w.alloc (.cells #[Value.pointer (some ⟨g, 0, none⟩)] 35)).alloc (.cells #[Value.int .i64 (m : Int)] 3)).alloc (.cells #[Value.string ⟨#[]⟩] 9)).heap.size := by (first | (with_reducible exact Nat.le_refl _) | (with_reducible assumption) | omega | (simp; omega) | (simp; done))
  have hg : g < w.heap.size := hR.cells.1
  have hb : B ≤ w.heap.size := hR.1
  have hle : a ≤ ns.length := hR.more.1
  obtain ⟨r1, r2, r3⟩ := HR0.out.cells
  clear hR hB0
  go_enter Try.func44, Try.ntmps44
  go_wp2_with (go_at_call 52; go_in)
  refine (tx1_bad g B w.heap.size (w.heap.size + 1) (w.heap.size + 2) ns a m _ HR0.out cB cM zB zM zX cX fX (by omega) (by omega) (by omega) (by omega) (by omega) (by omega) hm hE).mono ?_
  rintro e w1 ⟨rfl, ho, hR1, hx⟩
  have HO := hide ho
  have HR1 := hide hR1
  obtain ⟨t1, t2, t3⟩ := hR1.cells
  clear ho hR1 r1 r2 r3 cB cM cX fX zB zM zX
  go_wp2
  go_ret2
  exact ⟨rfl, (Only2.only HB0.out HO.out (by omega)).set 1 _, HR1.out.reset hle⟩

set_option maxRecDepth 100000 in
set_option maxHeartbeats 2000000 in
theorem RText_some (g B : Nat) (ns : List Nat) (a : Nat) (m : Nat) (w : World) (hR : RAny w g B ns a) (hm : m ≤ 9223372036854775807) (hE : (lg ns a m).2.1 = 0) (hn : 0 < (lg ns a m).1) : Calls Try.prog 44 #[.pointer (some ⟨g, 0, none⟩), .int .i64 (m : Int)] w (fun e w' => e = .returned (.tuple #[.string (bstr ((ns.drop (lg ns a m).2.2).take (lg ns a m).1)), .int .i64 0]) ∧ Only g w w' ∧ RAny w' g B ns ((lg ns a m).2.2 + (lg ns a m).1)) := by
  have Hn := hide hn
  clear hn
  have hB0 : Below w.heap.size w (((w.alloc (.cells #[Value.pointer (some ⟨g, 0, none⟩)] 35)).alloc (.cells #[Value.int .i64 (m : Int)] 3)).alloc (.cells #[Value.string ⟨#[]⟩] 9)) := by (focus repeat' (first | (with_reducible exact Below.refl _ _) | (with_reducible assumption) | (with_reducible refine Below.alloc ?_ ?_ _) | (with_reducible refine Below.drew ?_) | (with_reducible refine bdrewN ?_ _) | (with_reducible refine Below.setCell ?_ ?_ _) | (first | (with_reducible exact Nat.le_refl _) | (with_reducible assumption) | omega | (simp; omega) | (simp; done))))
  have HR0 := hide (hR.below hB0)
  have HB0 := hide hB0
  have cB : ∀ o, (((w.alloc (.cells #[Value.pointer (some ⟨g, 0, none⟩)] 35)).alloc (.cells #[Value.int .i64 (m : Int)] 3)).alloc (.cells #[Value.string ⟨#[]⟩] 9)).cell? ⟨w.heap.size, o, none⟩ = (#[Value.pointer (some ⟨g, 0, none⟩)] : Array Value)[o]? := fun o => by simp [go_sem]
  have cM : ∀ o, (((w.alloc (.cells #[Value.pointer (some ⟨g, 0, none⟩)] 35)).alloc (.cells #[Value.int .i64 (m : Int)] 3)).alloc (.cells #[Value.string ⟨#[]⟩] 9)).cell? ⟨w.heap.size + 1, o, none⟩ = (#[Value.int .i64 (m : Int)] : Array Value)[o]? := fun o => by simp [go_sem]
  have cX : ∀ o, (((w.alloc (.cells #[Value.pointer (some ⟨g, 0, none⟩)] 35)).alloc (.cells #[Value.int .i64 (m : Int)] 3)).alloc (.cells #[Value.string ⟨#[]⟩] 9)).cell? ⟨w.heap.size + 2, o, none⟩ = (#[Value.string ⟨#[]⟩] : Array Value)[o]? := fun o => by simp [go_sem]
  have fX : ∀ o, (((w.alloc (.cells #[Value.pointer (some ⟨g, 0, none⟩)] 35)).alloc (.cells #[Value.int .i64 (m : Int)] 3)).alloc (.cells #[Value.string ⟨#[]⟩] 9)).frozen? ⟨w.heap.size + 2, o, none⟩ = false := fun o => by simp [go_sem]
  have zB : w.heap.size < (((w.alloc (.cells #[Value.pointer (some ⟨g, 0, none⟩)] 35)).alloc (.cells #[Value.int .i64 (m : Int)] 3)).alloc (.cells #[Value.string ⟨#[]⟩] 9)).heap.size := by (simp; omega)
  have zM : w.heap.size + 1 < (((w.alloc (.cells #[Value.pointer (some ⟨g, 0, none⟩)] 35)).alloc (.cells #[Value.int .i64 (m : Int)] 3)).alloc (.cells #[Value.string ⟨#[]⟩] 9)).heap.size := by (first | (with_reducible exact Nat.le_refl _) | (with_reducible assumption) | omega | (simp; omega) | (simp; done))
  have zX : w.heap.size + 2 < (((w.alloc (.cells #[Value.pointer (some ⟨g, 0, none⟩)] 35)).alloc (.cells #[Value.int .i64 (m : Int)] 3)).alloc (.cells #[Value.string ⟨#[]⟩] 9)).heap.size := by (first | (with_reducible exact Nat.le_refl _) | (with_reducible assumption) | omega | (simp; omega) | (simp; done))
  have hg : g < w.heap.size := hR.cells.1
  have hb : B ≤ w.heap.size := hR.1
  have hle : a ≤ ns.length := hR.more.1
  obtain ⟨r1, r2, r3⟩ := HR0.out.cells
  clear hR hB0
  go_enter Try.func44, Try.ntmps44
  go_wp2_with (go_at_call 52; go_in)
  refine (tx1_some g B w.heap.size (w.heap.size + 1) (w.heap.size + 2) ns a m _ HR0.out cB cM zB zM zX cX fX (by omega) (by omega) (by omega) (by omega) (by omega) (by omega) hm hE Hn.out).mono ?_
  rintro e w1 ⟨rfl, ho, hR1, hx⟩
  have HO := hide ho
  have HR1 := hide hR1
  obtain ⟨t1, t2, t3⟩ := hR1.cells
  clear ho hR1 r1 r2 r3 cB cM cX fX zB zM zX
  clear hE
  generalize hst : bstr ((ns.drop (lg ns a m).2.2).take (lg ns a m).1) = st at hx
  have Hst := hide hst
  clear hst
  go_wp2
  go_ret2
  exact ⟨by (first | rfl | (rw [Hst.out]; rfl) | (rw [← Hst.out]; rfl)), Only2.only HB0.out HO.out (by omega), HR1.out⟩

set_option maxRecDepth 100000 in
set_option maxHeartbeats 2000000 in
theorem RText_none (g B : Nat) (ns : List Nat) (a : Nat) (m : Nat) (w : World) (hR : RAny w g B ns a) (hm : m ≤ 9223372036854775807) (hE : (lg ns a m).2.1 = 0) (hn : (lg ns a m).1 = 0) : Calls Try.prog 44 #[.pointer (some ⟨g, 0, none⟩), .int .i64 (m : Int)] w (fun e w' => e = .returned (.tuple #[.string (bstr ((ns.drop (lg ns a m).2.2).take (lg ns a m).1)), .int .i64 0]) ∧ Only g w w' ∧ RAny w' g B ns ((lg ns a m).2.2 + (lg ns a m).1)) := by
  have Hn := hide hn
  clear hn
  have hB0 : Below w.heap.size w (((w.alloc (.cells #[Value.pointer (some ⟨g, 0, none⟩)] 35)).alloc (.cells #[Value.int .i64 (m : Int)] 3)).alloc (.cells #[Value.string ⟨#[]⟩] 9)) := by (focus repeat' (first | (with_reducible exact Below.refl _ _) | (with_reducible assumption) | (with_reducible refine Below.alloc ?_ ?_ _) | (with_reducible refine Below.drew ?_) | (with_reducible refine bdrewN ?_ _) | (with_reducible refine Below.setCell ?_ ?_ _) | (first | (with_reducible exact Nat.le_refl _) | (with_reducible assumption) | omega | (simp; omega) | (simp; done))))
  have HR0 := hide (hR.below hB0)
  have HB0 := hide hB0
  have cB : ∀ o, (((w.alloc (.cells #[Value.pointer (some ⟨g, 0, none⟩)] 35)).alloc (.cells #[Value.int .i64 (m : Int)] 3)).alloc (.cells #[Value.string ⟨#[]⟩] 9)).cell? ⟨w.heap.size, o, none⟩ = (#[Value.pointer (some ⟨g, 0, none⟩)] : Array Value)[o]? := fun o => by simp [go_sem]
  have cM : ∀ o, (((w.alloc (.cells #[Value.pointer (some ⟨g, 0, none⟩)] 35)).alloc (.cells #[Value.int .i64 (m : Int)] 3)).alloc (.cells #[Value.string ⟨#[]⟩] 9)).cell? ⟨w.heap.size + 1, o, none⟩ = (#[Value.int .i64 (m : Int)] : Array Value)[o]? := fun o => by simp [go_sem]
  have cX : ∀ o, (((w.alloc (.cells #[Value.pointer (some ⟨g, 0, none⟩)] 35)).alloc (.cells #[Value.int .i64 (m : Int)] 3)).alloc (.cells #[Value.string ⟨#[]⟩] 9)).cell? ⟨w.heap.size + 2, o, none⟩ = (#[Value.string ⟨#[]⟩] : Array Value)[o]? := fun o => by simp [go_sem]
  have fX : ∀ o, (((w.alloc (.cells #[Value.pointer (some ⟨g, 0, none⟩)] 35)).alloc (.cells #[Value.int .i64 (m : Int)] 3)).alloc (.cells #[Value.string ⟨#[]⟩] 9)).frozen? ⟨w.heap.size + 2, o, none⟩ = false := fun o => by simp [go_sem]
  have zB : w.heap.size < (((w.alloc (.cells #[Value.pointer (some ⟨g, 0, none⟩)] 35)).alloc (.cells #[Value.int .i64 (m : Int)] 3)).alloc (.cells #[Value.string ⟨#[]⟩] 9)).heap.size := by (simp; omega)
  have zM : w.heap.size + 1 < (((w.alloc (.cells #[Value.pointer (some ⟨g, 0, none⟩)] 35)).alloc (.cells #[Value.int .i64 (m : Int)] 3)).alloc (.cells #[Value.string ⟨#[]⟩] 9)).heap.size := by (first | (with_reducible exact Nat.le_refl _) | (with_reducible assumption) | omega | (simp; omega) | (simp; done))
  have zX : w.heap.size + 2 < (((w.alloc (.cells #[Value.pointer (some ⟨g, 0, none⟩)] 35)).alloc (.cells #[Value.int .i64 (m : Int)] 3)).alloc (.cells #[Value.string ⟨#[]⟩] 9)).heap.size := by (first | (with_reducible exact Nat.le_refl _) | (with_reducible assumption) | omega | (simp; omega) | (simp; done))
  have hg : g < w.heap.size := hR.cells.1
  have hb : B ≤ w.heap.size := hR.1
  have hle : a ≤ ns.length := hR.more.1
  obtain ⟨r1, r2, r3⟩ := HR0.out.cells
  clear hR hB0
  go_enter Try.func44, Try.ntmps44
  go_wp2_with (go_at_call 52; go_in)
  refine (tx1_none g B w.heap.size (w.heap.size + 1) (w.heap.size + 2) ns a m _ HR0.out cB cM zB zM zX cX fX (by omega) (by omega) (by omega) (by omega) (by omega) (by omega) hm hE Hn.out).mono ?_
  rintro e w1 ⟨rfl, ho, hR1, hx⟩
  have HO := hide ho
  have HR1 := hide hR1
  obtain ⟨t1, t2, t3⟩ := hR1.cells
  clear ho hR1 r1 r2 r3 cB cM cX fX zB zM zX
  clear hE
  generalize hst : bstr ((ns.drop (lg ns a m).2.2).take (lg ns a m).1) = st at hx
  have Hst := hide hst
  clear hst
  go_wp2
  go_ret2
  exact ⟨by (first | rfl | (rw [Hst.out]; rfl) | (rw [← Hst.out]; rfl)), Only2.only HB0.out HO.out (by omega), HR1.out⟩

theorem RText_c (g B : Nat) (ns : List Nat) (a : Nat) (m : Nat) (w : World) (hR : RAny w g B ns a) (hm : m ≤ 9223372036854775807) : Calls Try.prog 44 #[.pointer (some ⟨g, 0, none⟩), .int .i64 (m : Int)] w (fun e w' => e = .returned (.tuple #[.string (bstr (tx ns a m).1), .int .i64 ((tx ns a m).2.1 : Int)]) ∧ Only g w w' ∧ RAny w' g B ns (tx ns a m).2.2) := by
  by_cases hE : (lg ns a m).2.1 = 0
  · have q : tx ns a m = ((ns.drop (lg ns a m).2.2).take (lg ns a m).1, 0, (lg ns a m).2.2 + (lg ns a m).1) := by unfold tx; rw [if_neg (by omega)]
    rw [q]
    by_cases hn : 0 < (lg ns a m).1
    · exact RText_some g B ns a m w hR hm hE hn
    · exact RText_none g B ns a m w hR hm hE (by omega)
  · have q : tx ns a m = ([], (lg ns a m).2.1, a) := by unfold tx; rw [if_pos hE]
    rw [q, bstr_nil]
    exact RText_bad g B ns a m w hR hm hE
end Go.Proofs.Ytajkgecegefnmaa

namespace Go.Proofs.Ytajkgecegefnmaa
open Go.ChangeShapes Go.WideShapes Go.ChangeAt Go.RowKit Go.Deep
set_option linter.unusedSimpArgs false
set_option linter.unusedVariables false

/-- k things read one behind the other by R: their values, the first error, the place -/
def tk (R : Nat → Value × Nat × Nat) : Nat → Nat → List Value × Nat × Nat
  | 0, a => ([], 0, a)
  | k + 1, a => if (R a).2.1 ≠ 0 then ([(R a).1], (R a).2.1, (R a).2.2) else ((R a).1 :: (tk R k (R a).2.2).1, (tk R k (R a).2.2).2.1, (tk R k (R a).2.2).2.2)
theorem tk_bad (R : Nat → Value × Nat × Nat) (k a : Nat) (h : (R a).2.1 ≠ 0) : (tk R (k + 1) a).2.1 = (R a).2.1 := by rw [tk, if_pos h]
theorem tk_ok (R : Nat → Value × Nat × Nat) (k a : Nat) (h : (R a).2.1 = 0) : tk R (k + 1) a = ((R a).1 :: (tk R k (R a).2.2).1, (tk R k (R a).2.2).2.1, (tk R k (R a).2.2).2.2) := by rw [tk, if_neg (by omega)]
/-- what the reader answers to Take -/
def tl (R : Nat → Value × Nat × Nat) (ns : List Nat) (a m : Nat) : List Value × Nat × Nat :=
  if (lg ns a m).2.1 ≠ 0 then ([], (lg ns a m).2.1, a)
  else if (tk R (lg ns a m).1 (lg ns a m).2.2).2.1 ≠ 0 then ([], (tk R (lg ns a m).1 (lg ns a m).2.2).2.1, a)
  else tk R (lg ns a m).1 (lg ns a m).2.2
/-- below B0, block g alone may have changed -/
structure KB (B0 g : Nat) (w w' : World) : Prop where
  os : w'.os = w.os
  tape : w'.tape = w.tape
  output : w'.output = w.output
  size : w.heap.size ≤ w'.heap.size
  block : ∀ i, i < B0 → i ≠ g → w'.heap[i]? = w.heap[i]?
theorem KB.refl (B0 g : Nat) (w : World) : KB B0 g w w := ⟨rfl, rfl, rfl, Nat.le_refl _, fun _ _ _ => rfl⟩
theorem KB.trans {B0 g : Nat} {w w1 w2 : World} (h : KB B0 g w w1) (k : KB B0 g w1 w2) : KB B0 g w w2 :=
  ⟨k.os.trans h.os, k.tape.trans h.tape, k.output.trans h.output, Nat.le_trans h.size k.size, fun i hi h1 => (k.block i hi h1).trans (h.block i hi h1)⟩
theorem KB.of_only {B0 g : Nat} {w w' : World} (k : Only g w w') (h : B0 ≤ w.heap.size) : KB B0 g w w' := ⟨k.os, k.tape, k.output, k.size, fun i hi h1 => k.block i (by omega) h1⟩
theorem KB.of_below {B0 g : Nat} {w w' : World} (k : Below w.heap.size w w') (h : B0 ≤ w.heap.size) : KB B0 g w w' := KB.of_only (Only.of_below k) h
theorem KB.set {B0 g h : Nat} {w w1 : World} (k : KB B0 g w w1) (hh : B0 ≤ h) (o : Nat) (u : Value) : KB B0 g w (w1.setCell ⟨h, o, none⟩ u) :=
  k.trans ⟨rfl, rfl, rfl, by simp, fun i hi _ => Below.heap_setCell _ _ _ _ (by show i ≠ h; omega)⟩
theorem KB.grown {B0 g : Nat} {w w1 : World} {row : Option Nat} (h : w.grownBy w1 row) (hr : ∀ k, row = some k → B0 ≤ k) (hs : B0 ≤ w.heap.size) : KB B0 g w w1 :=
  ⟨h.os, h.tape, h.output, h.size, fun i hi _ => h.block i (by omega) (fun e => by have := hr i e.symm; omega)⟩
theorem KB.only {w w' : World} {g : Nat} {w0 : World} (h : Below w0.heap.size w0 w) (k : KB w0.heap.size g w w') : Only g w0 w' :=
  ⟨k.os.trans h.os, k.tape.trans h.tape, k.output.trans h.output, Nat.le_trans h.size k.size, fun i hi h1 => (k.block i hi h1).trans (h.block i hi)⟩
theorem RObj.same {w w' : World} {g b off cap : Nat} {ns : List Nat} {at_ : Nat} (h : RObj w g b off cap ns at_) (hs : w.heap.size ≤ w'.heap.size) (h1 : w'.heap[g]? = w.heap[g]?) (h2 : w'.heap[b]? = w.heap[b]?) : RObj w' g b off cap ns at_ := by
  obtain ⟨r1, r2, r3, r4, r5, r6, r7, r8, r9, r10⟩ := h
  exact ⟨Nat.lt_of_lt_of_le r1 hs, fun o => (World.cell?_of_block h1).trans (r2 o), fun o => (World.frozen?_of_block h1).trans (r3 o), Nat.lt_of_lt_of_le r4 hs, r5, fun j hj => (World.cell?_of_block h2).trans (r6 j hj), r7, r8, r9, r10⟩
theorem RAny.same {w w' : World} {g B : Nat} {ns : List Nat} {a : Nat} (h : RAny w g B ns a) (hs : w.heap.size ≤ w'.heap.size) (h1 : w'.heap[g]? = w.heap[g]?) (h2 : ∀ i, i < B → w'.heap[i]? = w.heap[i]?) : RAny w' g B ns a := by
  obtain ⟨hB, ⟨b, off, cap, hb2, k⟩ | ⟨⟨k1, k2, k3⟩, k4⟩⟩ := h
  · exact ⟨Nat.le_trans hB hs, .inl ⟨b, off, cap, hb2, k.same hs h1 (h2 b hb2)⟩⟩
  · exact ⟨Nat.le_trans hB hs, .inr ⟨⟨Nat.lt_of_lt_of_le k1 hs, fun o => (World.cell?_of_block h1).trans (k2 o), fun o => (World.frozen?_of_block h1).trans (k3 o)⟩, k4⟩⟩
theorem own_empty (w : World) (e : TypeId) (size base : Nat) (h : base ≤ w.heap.size) : (w.alloc (.cells #[] e)).ownsRow base e size (.slice (some ⟨w.heap.size, 0, none⟩) 0 0) 0 [] :=
  ⟨by simp, .inr ⟨_, 0, #[], rfl, h, heap_new _ _, Nat.le_refl _, by unfold maxLen; omega, by simp, by simp⟩⟩
theorem own_set {w : World} {base : Nat} {e : TypeId} {size : Nat} {v : Value} {n : Nat} {xs : List Value} (h : w.ownsRow base e size v n xs) {b : Nat} (hb : ∀ k, v.ownBlock = some k → k ≠ b) (o : Nat) (u : Value) : (w.setCell ⟨b, o, none⟩ u).ownsRow base e size v n xs := by
  obtain ⟨h0, h⟩ := h
  refine ⟨h0, ?_⟩
  rcases h with h | ⟨g, cap, cur, h1, h2, h3, h4⟩
  · exact .inl h
  · subst h1
    exact .inr ⟨g, cap, cur, rfl, h2, by rw [Below.heap_setCell _ _ _ _ (by exact hb g rfl)]; exact h3, h4⟩
theorem own_same {w w' : World} {base : Nat} {e : TypeId} {size : Nat} {v : Value} {n : Nat} {xs : List Value} (h : w.ownsRow base e size v n xs) (hs : ∀ k, v.ownBlock = some k → k < w.heap.size → w'.heap[k]? = w.heap[k]?) : w'.ownsRow base e size v n xs := by
  obtain ⟨h0, h⟩ := h
  refine ⟨h0, ?_⟩
  rcases h with h | ⟨g, cap, cur, h1, h2, h3, h4⟩
  · exact .inl h
  · subst h1
    exact .inr ⟨g, cap, cur, rfl, h2, by rw [hs g rfl (Array.getElem?_eq_some_iff.1 h3).1]; exact h3, h4⟩
end Go.Proofs.Ytajkgecegefnmaa

