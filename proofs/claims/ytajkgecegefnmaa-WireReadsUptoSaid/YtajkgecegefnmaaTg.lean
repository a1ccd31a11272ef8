import Derived.Test.YtajkgecegefnmaaTf
namespace Go.Proofs.Ytajkgecegefnmaa
open Go.ChangeShapes Go.WideShapes Go.ChangeAt Go.RowKit Go.Deep
set_option linter.unusedSimpArgs false
set_option linter.unusedVariables false

/-- what the reader answers to Number: the number, the error, the place behind it -/
def rd (ns : List Nat) (a : Nat) : Nat × Nat × Nat :=
  if ns.length ≤ a then (0, 110, a)
  else if ns.getD a 0 ≤ 247 then (ns.getD a 0, 0, a + 1)
  else if ns.length < a + 1 + (ns.getD a 0 - 247) then (0, 110, a)
  else if (form (num ((ns.drop (a + 1)).take (ns.getD a 0 - 247)))).length = 1 + (ns.getD a 0 - 247) then (num ((ns.drop (a + 1)).take (ns.getD a 0 - 247)), 0, a + 1 + (ns.getD a 0 - 247))
  else (0, 111, a)
theorem Only2.only {W w w' : World} {g h : Nat} (hB : Below w.heap.size w W) (k : Only2 g h W w') (hh : w.heap.size ≤ h) : Only g w w' :=
  ⟨k.1.trans hB.os, k.2.1.trans hB.tape, k.2.2.1.trans hB.output, Nat.le_trans hB.size k.2.2.2.1, fun i hi h1 => (k.2.2.2.2 i (Nat.lt_of_lt_of_le hi hB.size) h1 (by omega)).trans (hB.block i hi)⟩
theorem Only.set {w w' : World} {g : Nat} (k : Only g w w') (o : Nat) (u : Value) : Only g w (w'.setCell ⟨g, o, none⟩ u) :=
  ⟨k.os, k.tape, k.output, by simp; exact k.size, fun i hi h1 => (Below.heap_setCell _ _ _ _ h1).trans (k.block i hi h1)⟩
theorem RObj.reset {w : World} {g b off cap : Nat} {ns : List Nat} {a a0 : Nat} (k : RObj w g b off cap ns a) (h : a0 ≤ ns.length) : RObj (w.setCell ⟨g, 1, none⟩ (.int .i64 (a0 : Int))) g b off cap ns a0 := by
  obtain ⟨r1, r2, r3, r4, r5, r6, r7, r8, r9, r10⟩ := k
  refine ⟨by simpa using r1, ?_, fun i => by simp only [World.frozen?_setCell]; exact r3 i, by simpa using r4, r5, fun j hj => (World.cell?_of_block (Below.heap_setCell _ _ _ _ r5)).trans (r6 j hj), r7, h, r9, r10⟩
  intro o
  rcases o with _ | _ | o
  · simp [go_sem, r2]
  · simp [go_sem, r2]
  · simp [go_sem, r2]
theorem rd_place (ns : List Nat) (a : Nat) (h : a ≤ ns.length) : (rd ns a).2.2 ≤ ns.length := by unfold rd; split <;> (try split) <;> (try split) <;> (try split) <;> dsimp only <;> omega
theorem rd_err (ns : List Nat) (a : Nat) : (rd ns a).2.1 = 0 ∨ (rd ns a).2.1 = 110 ∨ (rd ns a).2.1 = 111 := by unfold rd; split <;> (try split) <;> (try split) <;> (try split) <;> simp
theorem rd_zero (ns : List Nat) (a : Nat) (h : (rd ns a).2.1 ≠ 0) : (rd ns a).1 = 0 ∧ (rd ns a).2.2 = a := by revert h; unfold rd; split <;> (try split) <;> (try split) <;> (try split) <;> simp
set_option maxRecDepth 100000 in
theorem rd_lt (ns : List Nat) (a : Nat) (h7 : ∀ x ∈ ns, x < 256) : (rd ns a).1 < 18446744073709551616 := by
  unfold rd
  split
  · simp
  split
  · dsimp only; omega
  split
  · simp
  split
  · have hn : a < ns.length := by omega
    have hfl : ns.getD a 0 < 256 := h7 _ (by (have e : ns.getD a 0 = ns[a] := by simp [List.getD, hn]); rw [e]; exact List.getElem_mem hn)
    generalize ns.getD a 0 = f at *
    have q := num_lt (f - 247) ((ns.drop (a + 1)).take (f - 247)) (by rw [List.length_take, List.length_drop]; omega) (fun x hx => h7 x (List.mem_of_mem_drop (List.mem_of_mem_take hx)))
    have p : 256 ^ (f - 247) ≤ 256 ^ 8 := Nat.pow_le_pow_right (by decide) (by omega)
    have p8 : (256 : Nat) ^ 8 = 18446744073709551616 := by decide
    show num _ < _
    omega
  · simp
theorem rd_grows (ns : List Nat) (a : Nat) (h : (rd ns a).2.1 = 0) : a + 1 ≤ (rd ns a).2.2 := by
  revert h; unfold rd; split <;> (try split) <;> (try split) <;> (try split) <;> dsimp only <;> omega
set_option maxRecDepth 100000 in
theorem num1_all (g b off cap Br Bx : Nat) (ns : List Nat) (at_ : Nat) (w : World) (hR : RObj w g b off cap ns at_) (hB : ∀ o, w.cell? ⟨Br, o, none⟩ = (#[Value.pointer (some ⟨g, 0, none⟩)] : Array Value)[o]?) (hBz : Br < w.heap.size) (hXz : Bx < w.heap.size) (hX : ∀ o, w.cell? ⟨Bx, o, none⟩ = (#[Value.int .u64 0] : Array Value)[o]?) (hXf : ∀ o, w.frozen? ⟨Bx, o, none⟩ = false) (d1 : Br ≠ g) (d2 : Bx ≠ g) (d3 : Bx ≠ Br) (d4 : Bx ≠ b) : Calls Try.prog 71 #[.pointer (some ⟨Br, 0, none⟩), .pointer (some ⟨Bx, 0, none⟩)] w (fun e w' => ∃ x a', e = .returned (.int .i64 ((rd ns at_).2.1 : Int)) ∧ Only2 g Bx w w' ∧ RObj w' g b off cap ns a' ∧ w'.cell? ⟨Bx, 0, none⟩ = some (.int .u64 (x : Int)) ∧ ((rd ns at_).2.1 = 0 → x = (rd ns at_).1 ∧ a' = (rd ns at_).2.2)) := by
  by_cases c1 : ns.length ≤ at_
  · have q : rd ns at_ = (0, 110, at_) := by unfold rd; rw [if_pos c1]
    exact (num1_end g b off cap Br Bx ns at_ w hR hB hBz hXz hX hXf d1 d2 d3 d4 c1).mono (fun e w' h => by obtain ⟨h1, h2, h3, h4⟩ := h; exact ⟨_, _, by rw [q]; exact h1, h2, h3, h4, fun c => by rw [q] at c; cases c⟩)
  by_cases c2 : ns.getD at_ 0 ≤ 247
  · have q : rd ns at_ = (ns.getD at_ 0, 0, at_ + 1) := by unfold rd; rw [if_neg c1, if_pos c2]
    exact (num1_short g b off cap Br Bx ns at_ w hR hB hBz hXz hX hXf d1 d2 d3 d4 (by omega) c2).mono (fun e w' h => by obtain ⟨h1, h2, h3, h4⟩ := h; exact ⟨_, _, by rw [q]; exact h1, h2, h3, h4, fun _ => by rw [q]; exact ⟨rfl, rfl⟩⟩)
  by_cases c3 : ns.length < at_ + 1 + (ns.getD at_ 0 - 247)
  · have q : rd ns at_ = (0, 110, at_) := by unfold rd; rw [if_neg c1, if_neg c2, if_pos c3]
    exact (num1_cut g b off cap Br Bx ns at_ w hR hB hBz hXz hX hXf d1 d2 d3 d4 (by omega) (by omega) c3).mono (fun e w' h => by obtain ⟨h1, h2, h3, h4⟩ := h; exact ⟨_, _, by rw [q]; exact h1, h2, h3, h4, fun c => by rw [q] at c; cases c⟩)
  by_cases c4 : (form (num ((ns.drop (at_ + 1)).take (ns.getD at_ 0 - 247)))).length = 1 + (ns.getD at_ 0 - 247)
  · have q : rd ns at_ = (num ((ns.drop (at_ + 1)).take (ns.getD at_ 0 - 247)), 0, at_ + 1 + (ns.getD at_ 0 - 247)) := by unfold rd; rw [if_neg c1, if_neg c2, if_neg c3, if_pos c4]
    exact (num1_ok g b off cap Br Bx ns at_ w hR hB hBz hXz hX hXf d1 d2 d3 d4 (by omega) (by omega) (by omega) c4).mono (fun e w' h => by obtain ⟨h1, h2, h3, h4⟩ := h; exact ⟨_, _, by rw [q]; exact h1, h2, h3, h4, fun _ => by rw [q]; exact ⟨rfl, rfl⟩⟩)
  · have q : rd ns at_ = (0, 111, at_) := by unfold rd; rw [if_neg c1, if_neg c2, if_neg c3, if_neg c4]
    exact (num1_form g b off cap Br Bx ns at_ w hR hB hBz hXz hX hXf d1 d2 d3 d4 (by omega) (by omega) (by omega) c4).mono (fun e w' h => by obtain ⟨h1, h2, h3, h4⟩ := h; exact ⟨_, _, by rw [q]; exact h1, h2, h3, h4, fun c => by rw [q] at c; cases c⟩)

set_option maxRecDepth 100000 in
set_option maxHeartbeats 2000000 in
theorem RNum_ok (g b off cap : Nat) (ns : List Nat) (at_ : Nat) (w : World) (hR : RObj w g b off cap ns at_) (hE : (rd ns at_).2.1 = 0) : Calls Try.prog 40 #[.pointer (some ⟨g, 0, none⟩)] w (fun e w' => e = .returned (.tuple #[.int .u64 ((rd ns at_).1 : Int), .int .i64 ((rd ns at_).2.1 : Int)]) ∧ Only g w w' ∧ RObj w' g b off cap ns (rd ns at_).2.2) := by
  have hB0 : Below w.heap.size w ((w.alloc (.cells #[Value.pointer (some ⟨g, 0, none⟩)] 35)).alloc (.cells #[Value.int .u64 0] 22)) := by (focus repeat' (first | (with_reducible exact Below.refl _ _) | (with_reducible assumption) | (with_reducible refine Below.alloc ?_ ?_ _) | (with_reducible refine Below.drew ?_) | (with_reducible refine bdrewN ?_ _) | (with_reducible refine Below.setCell ?_ ?_ _) | (first | (with_reducible exact Nat.le_refl _) | (with_reducible assumption) | omega | (simp; omega) | (simp; done))))
  have HR0 := hide (hR.below hB0)
  have HB0 := hide hB0
  have cB : ∀ o, ((w.alloc (.cells #[Value.pointer (some ⟨g, 0, none⟩)] 35)).alloc (.cells #[Value.int .u64 0] 22)).cell? ⟨w.heap.size, o, none⟩ = (#[Value.pointer (some ⟨g, 0, none⟩)] : Array Value)[o]? := fun o => by simp [go_sem]
  have cX : ∀ o, ((w.alloc (.cells #[Value.pointer (some ⟨g, 0, none⟩)] 35)).alloc (.cells #[Value.int .u64 0] 22)).cell? ⟨w.heap.size + 1, o, none⟩ = (#[Value.int .u64 0] : Array Value)[o]? := fun o => by simp [go_sem]
  have fX : ∀ o, ((w.alloc (.cells #[Value.pointer (some ⟨g, 0, none⟩)] 35)).alloc (.cells #[Value.int .u64 0] 22)).frozen? ⟨w.heap.size + 1, o, none⟩ = false := fun o => by simp [go_sem]
  have zB : w.heap.size < ((w.alloc (.cells #[Value.pointer (some ⟨g, 0, none⟩)] 35)).alloc (.cells #[Value.int .u64 0] 22)).heap.size := by (simp; omega)
  have zX : w.heap.size + 1 < ((w.alloc (.cells #[Value.pointer (some ⟨g, 0, none⟩)] 35)).alloc (.cells #[Value.int .u64 0] 22)).heap.size := by simp
  have hg : g < w.heap.size := hR.1
  have hb : b < w.heap.size := hR.2.2.2.1
  have hle : at_ ≤ ns.length := hR.2.2.2.2.2.2.2.1
  obtain ⟨r1, r2, r3, _⟩ := HR0.out
  clear hR hB0
  go_enter Try.func40, Try.ntmps40
  go_wp2_with (go_at_call 52; go_in)
  refine (num1_all g b off cap w.heap.size (w.heap.size + 1) ns at_ _ HR0.out cB zB zX cX fX (by omega) (by omega) (by omega) (by omega)).mono ?_
  rintro e w1 ⟨x, a', rfl, ho, hR1, hx, hq⟩
  obtain ⟨rfl, rfl⟩ := hq hE
  rw [hE]
  have hE' := hide hE
  clear hq
  have HO := hide ho
  have HR1 := hide hR1
  obtain ⟨t1, t2, t3, _⟩ := hR1
  clear ho r1 r2 r3 cB cX fX zB zX
  go_wp2
  go_ret2
  exact ⟨by (rw [hE'.out]; rfl), Only2.only HB0.out HO.out (by omega), HR1.out⟩

set_option maxRecDepth 100000 in
set_option maxHeartbeats 2000000 in
theorem RNum_bad (g b off cap : Nat) (ns : List Nat) (at_ : Nat) (w : World) (hR : RObj w g b off cap ns at_) (hE : (rd ns at_).2.1 ≠ 0) : Calls Try.prog 40 #[.pointer (some ⟨g, 0, none⟩)] w (fun e w' => e = .returned (.tuple #[.int .u64 ((rd ns at_).1 : Int), .int .i64 ((rd ns at_).2.1 : Int)]) ∧ Only g w w' ∧ RObj w' g b off cap ns (rd ns at_).2.2) := by
  have hB0 : Below w.heap.size w ((w.alloc (.cells #[Value.pointer (some ⟨g, 0, none⟩)] 35)).alloc (.cells #[Value.int .u64 0] 22)) := by (focus repeat' (first | (with_reducible exact Below.refl _ _) | (with_reducible assumption) | (with_reducible refine Below.alloc ?_ ?_ _) | (with_reducible refine Below.drew ?_) | (with_reducible refine bdrewN ?_ _) | (with_reducible refine Below.setCell ?_ ?_ _) | (first | (with_reducible exact Nat.le_refl _) | (with_reducible assumption) | omega | (simp; omega) | (simp; done))))
  have HR0 := hide (hR.below hB0)
  have HB0 := hide hB0
  have cB : ∀ o, ((w.alloc (.cells #[Value.pointer (some ⟨g, 0, none⟩)] 35)).alloc (.cells #[Value.int .u64 0] 22)).cell? ⟨w.heap.size, o, none⟩ = (#[Value.pointer (some ⟨g, 0, none⟩)] : Array Value)[o]? := fun o => by simp [go_sem]
  have cX : ∀ o, ((w.alloc (.cells #[Value.pointer (some ⟨g, 0, none⟩)] 35)).alloc (.cells #[Value.int .u64 0] 22)).cell? ⟨w.heap.size + 1, o, none⟩ = (#[Value.int .u64 0] : Array Value)[o]? := fun o => by simp [go_sem]
  have fX : ∀ o, ((w.alloc (.cells #[Value.pointer (some ⟨g, 0, none⟩)] 35)).alloc (.cells #[Value.int .u64 0] 22)).frozen? ⟨w.heap.size + 1, o, none⟩ = false := fun o => by simp [go_sem]
  have zB : w.heap.size < ((w.alloc (.cells #[Value.pointer (some ⟨g, 0, none⟩)] 35)).alloc (.cells #[Value.int .u64 0] 22)).heap.size := by (simp; omega)
  have zX : w.heap.size + 1 < ((w.alloc (.cells #[Value.pointer (some ⟨g, 0, none⟩)] 35)).alloc (.cells #[Value.int .u64 0] 22)).heap.size := by simp
  have hg : g < w.heap.size := hR.1
  have hb : b < w.heap.size := hR.2.2.2.1
  have hle : at_ ≤ ns.length := hR.2.2.2.2.2.2.2.1
  obtain ⟨r1, r2, r3, _⟩ := HR0.out
  clear hR hB0
  obtain ⟨hz1, hz2⟩ := rd_zero ns at_ hE
  go_enter Try.func40, Try.ntmps40
  go_wp2_with (go_at_call 52; go_in)
  refine (num1_all g b off cap w.heap.size (w.heap.size + 1) ns at_ _ HR0.out cB zB zX cX fX (by omega) (by omega) (by omega) (by omega)).mono ?_
  rintro e w1 ⟨x, a', rfl, ho, hR1, hx, hq⟩
  have HO := hide ho
  have HR1 := hide hR1
  obtain ⟨t1, t2, t3, _⟩ := hR1
  have hE2 : ((rd ns at_).2.1 : Int) ≠ 0 := by omega
  have Hz1 := hide hz1
  have Hz2 := hide hz2
  clear hq hz1 hz2 ho r1 r2 r3 cB cX fX zB zX
  go_wp2
  go_ret2
  exact ⟨by (rw [Hz1.out]; rfl), (Only2.only HB0.out HO.out (by omega)).set 1 _, by (rw [Hz2.out]; exact HR1.out.reset hle)⟩

theorem RNum_c (g b off cap : Nat) (ns : List Nat) (at_ : Nat) (w : World) (hR : RObj w g b off cap ns at_) : Calls Try.prog 40 #[.pointer (some ⟨g, 0, none⟩)] w (fun e w' => e = .returned (.tuple #[.int .u64 ((rd ns at_).1 : Int), .int .i64 ((rd ns at_).2.1 : Int)]) ∧ Only g w w' ∧ RObj w' g b off cap ns (rd ns at_).2.2) := by
  by_cases hE : (rd ns at_).2.1 = 0
  · exact RNum_ok g b off cap ns at_ w hR hE
  · exact RNum_bad g b off cap ns at_ w hR hE
end Go.Proofs.Ytajkgecegefnmaa
