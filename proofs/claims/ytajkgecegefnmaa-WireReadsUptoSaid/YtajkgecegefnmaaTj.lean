import Derived.Test.YtajkgecegefnmaaTi
namespace Go.Proofs.Ytajkgecegefnmaa
open Go.ChangeShapes Go.WideShapes Go.ChangeAt Go.RowKit Go.Deep
set_option linter.unusedSimpArgs false
set_option linter.unusedVariables false

/-- what the reader answers to next -/
def nx (ns : List Nat) (a n : Nat) : Nat × Nat × Nat := if ns.length < a + n then (0, 110, a) else (num ((ns.drop a).take n), 0, a + n)
theorem Only.of_below {g : Nat} {w w' : World} (k : Below w.heap.size w w') : Only g w w' := ⟨k.os, k.tape, k.output, k.size, fun i hi _ => k.block i hi⟩
theorem nx_one {ns : List Nat} {a : Nat} (hn : a < ns.length) : nx ns a 1 = (ns.getD a 0, 0, a + 1) := by
  have e : (ns.drop a).take 1 = [ns.getD a 0] := by
    rw [List.drop_eq_getElem_cons hn, List.take_succ_cons, List.take_zero]
    simp [List.getD, hn]
  unfold nx; rw [if_neg (by omega), e, num1]
theorem nx_end {ns : List Nat} {a n : Nat} (hn : ns.length < a + n) : nx ns a n = (0, 110, a) := by unfold nx; rw [if_pos hn]
theorem nx_ok {ns : List Nat} {a n : Nat} (hn : a + n ≤ ns.length) : nx ns a n = (num ((ns.drop a).take n), 0, a + n) := by unfold nx; rw [if_neg (by omega)]
/-- what the reader answers to Flag, to Real -/
def fl (ns : List Nat) (a : Nat) : Bool × Nat × Nat := if ns.length ≤ a then (false, 110, a) else if 1 < ns.getD a 0 then (false, 111, a) else (decide (ns.getD a 0 = 1), 0, a + 1)
theorem getD_lt {ns : List Nat} (h : ∀ x ∈ ns, x < 256) (a : Nat) : ns.getD a 0 < 256 := by
  by_cases hn : a < ns.length
  · have e : ns.getD a 0 = ns[a] := by simp [List.getD, hn]
    rw [e]; exact h _ (List.getElem_mem hn)
  · simp [List.getD, List.getElem?_eq_none (show ns.length ≤ a by omega)]

theorem next_any (g B : Nat) (ns : List Nat) (a n : Nat) (w : World) (hR : RAny w g B ns a) (hn1 : 1 ≤ n) (hnn : n ≤ 8) : Calls Try.prog 72 #[.pointer (some ⟨g, 0, none⟩), .int .i64 (n : Int)] w fun e w' => e = .returned (.tuple #[.int .u64 ((nx ns a n).1 : Int), .int .i64 ((nx ns a n).2.1 : Int)]) ∧ Only g w w' ∧ RAny w' g B ns (nx ns a n).2.2 := by
  by_cases hn : ns.length < a + n
  · rw [nx_end hn]
    obtain ⟨hB, ⟨b, off, cap, hb2, k⟩ | ⟨k, rfl, rfl⟩⟩ := hR
    · exact (next_end g b off cap ns a n w k hn hnn).mono (fun e w' h => ⟨h.1, .of_below h.2, Nat.le_trans hB h.2.size, .inl ⟨b, off, cap, hb2, k.below h.2⟩⟩)
    · exact (next_nil g n w k hn1 hnn).mono (fun e w' h => ⟨h.1, .of_below h.2, Nat.le_trans hB h.2.size, .inr ⟨k.below h.2, rfl, rfl⟩⟩)
  · rw [nx_ok (by omega)]
    obtain ⟨hB, ⟨b, off, cap, hb2, k⟩ | ⟨k, rfl, rfl⟩⟩ := hR
    · exact (next_c g b off cap ns a n w k (by omega) hn1 hnn).mono (fun e w' h => ⟨h.1, h.2.1, Nat.le_trans hB h.2.1.size, .inl ⟨b, off, cap, hb2, h.2.2⟩⟩)
    · simp at hn; omega

set_option maxRecDepth 100000 in
set_option maxHeartbeats 1000000 in
theorem fl1_end (g B Br Bx : Nat) (ns : List Nat) (a : Nat) (w : World) (hR : RAny w g B ns a) (hB : ∀ o, w.cell? ⟨Br, o, none⟩ = (#[Value.pointer (some ⟨g, 0, none⟩)] : Array Value)[o]?) (hBz : Br < w.heap.size) (hXz : Bx < w.heap.size) (hX : ∀ o, w.cell? ⟨Bx, o, none⟩ = (#[Value.bool false] : Array Value)[o]?) (hXf : ∀ o, w.frozen? ⟨Bx, o, none⟩ = false) (d1 : Br ≠ g) (d2 : Bx ≠ g) (d3 : Bx ≠ Br) (d4 : B ≤ Bx) (hn : ns.length ≤ a) : Calls Try.prog 73 #[.pointer (some ⟨Br, 0, none⟩), .pointer (some ⟨Bx, 0, none⟩)] w (fun e w' => e = .returned (.int .i64 110) ∧ Only2 g Bx w w' ∧ RAny w' g B ns a ∧ w'.cell? ⟨Bx, 0, none⟩ = some (.bool false)) := by
  have hq : nx ns a 1 = (0, 110, a) := nx_end (by omega)
  have HR := hide hR
  have HX := hide hX
  have HXF := hide hXf
  clear hR hX hXf
  go_enter Try.func73, Try.ntmps73
  go_wp2_with fail
  refine (next_any g B ns a 1 _ HR.out (by omega) (by omega)).mono ?_
  rw [hq]
  rintro e w1 ⟨rfl, ho1, hR1⟩
  have HR1 := hide hR1
  have k1 : Only2 g Bx w w1 := Only2.of_only ho1
  have XC : ∀ o, w1.cell? ⟨Bx, o, none⟩ = (#[Value.bool false] : Array Value)[o]? := fun o => (World.cell?_of_block (ho1.block Bx hXz d2)).trans (HX.out o)
  have XF : ∀ o, w1.frozen? ⟨Bx, o, none⟩ = false := fun o => (World.frozen?_of_block (ho1.block Bx hXz d2)).trans (HXF.out o)
  have BC : ∀ o, w1.cell? ⟨Br, o, none⟩ = (#[Value.pointer (some ⟨g, 0, none⟩)] : Array Value)[o]? := fun o => (World.cell?_of_block (ho1.block Br hBz d1)).trans (hB o)
  have hXz1 : Bx < w1.heap.size := Nat.lt_of_lt_of_le hXz ho1.size
  have hBz1 : Br < w1.heap.size := Nat.lt_of_lt_of_le hBz ho1.size
  clear hR1 ho1 hB
  go_wp2
  go_ret
  exact ⟨rfl, k1.set 0 _, HR1.out.set d2 d4 0 _, by simp [go_sem, XC]⟩

set_option maxRecDepth 100000 in
set_option maxHeartbeats 1000000 in
theorem fl1_form (g B Br Bx : Nat) (ns : List Nat) (a : Nat) (w : World) (hR : RAny w g B ns a) (hB : ∀ o, w.cell? ⟨Br, o, none⟩ = (#[Value.pointer (some ⟨g, 0, none⟩)] : Array Value)[o]?) (hBz : Br < w.heap.size) (hXz : Bx < w.heap.size) (hX : ∀ o, w.cell? ⟨Bx, o, none⟩ = (#[Value.bool false] : Array Value)[o]?) (hXf : ∀ o, w.frozen? ⟨Bx, o, none⟩ = false) (d1 : Br ≠ g) (d2 : Bx ≠ g) (d3 : Bx ≠ Br) (d4 : B ≤ Bx) (hn : a < ns.length) (hf : 1 < ns.getD a 0) : Calls Try.prog 73 #[.pointer (some ⟨Br, 0, none⟩), .pointer (some ⟨Bx, 0, none⟩)] w (fun e w' => e = .returned (.int .i64 111) ∧ Only2 g Bx w w' ∧ RAny w' g B ns (a + 1) ∧ w'.cell? ⟨Bx, 0, none⟩ = some (.bool false)) := by
  have hx256 : ns.getD a 0 < 256 := getD_lt hR.more.2.2 a
  have hq : nx ns a 1 = (ns.getD a 0, 0, a + 1) := nx_one hn
  generalize ns.getD a 0 = x at *
  have hf' : (1 : Int) < (x : Int) := by omega
  have HR := hide hR
  have HX := hide hX
  have HXF := hide hXf
  clear hR hX hXf
  go_enter Try.func73, Try.ntmps73
  go_wp2_with fail
  refine (next_any g B ns a 1 _ HR.out (by omega) (by omega)).mono ?_
  rw [hq]
  rintro e w1 ⟨rfl, ho1, hR1⟩
  have HR1 := hide hR1
  have k1 : Only2 g Bx w w1 := Only2.of_only ho1
  have XC : ∀ o, w1.cell? ⟨Bx, o, none⟩ = (#[Value.bool false] : Array Value)[o]? := fun o => (World.cell?_of_block (ho1.block Bx hXz d2)).trans (HX.out o)
  have XF : ∀ o, w1.frozen? ⟨Bx, o, none⟩ = false := fun o => (World.frozen?_of_block (ho1.block Bx hXz d2)).trans (HXF.out o)
  have BC : ∀ o, w1.cell? ⟨Br, o, none⟩ = (#[Value.pointer (some ⟨g, 0, none⟩)] : Array Value)[o]? := fun o => (World.cell?_of_block (ho1.block Br hBz d1)).trans (hB o)
  have hXz1 : Bx < w1.heap.size := Nat.lt_of_lt_of_le hXz ho1.size
  have hBz1 : Br < w1.heap.size := Nat.lt_of_lt_of_le hBz ho1.size
  clear hR1 ho1 hB
  go_wp2
  go_ret
  exact ⟨rfl, k1, HR1.out, by simp [XC]⟩

set_option maxRecDepth 100000 in
set_option maxHeartbeats 1000000 in
theorem fl1_one (g B Br Bx : Nat) (ns : List Nat) (a : Nat) (w : World) (hR : RAny w g B ns a) (hB : ∀ o, w.cell? ⟨Br, o, none⟩ = (#[Value.pointer (some ⟨g, 0, none⟩)] : Array Value)[o]?) (hBz : Br < w.heap.size) (hXz : Bx < w.heap.size) (hX : ∀ o, w.cell? ⟨Bx, o, none⟩ = (#[Value.bool false] : Array Value)[o]?) (hXf : ∀ o, w.frozen? ⟨Bx, o, none⟩ = false) (d1 : Br ≠ g) (d2 : Bx ≠ g) (d3 : Bx ≠ Br) (d4 : B ≤ Bx) (hn : a < ns.length) (hf : ns.getD a 0 = 1) : Calls Try.prog 73 #[.pointer (some ⟨Br, 0, none⟩), .pointer (some ⟨Bx, 0, none⟩)] w (fun e w' => e = .returned (.int .i64 0) ∧ Only2 g Bx w w' ∧ RAny w' g B ns (a + 1) ∧ w'.cell? ⟨Bx, 0, none⟩ = some (.bool true)) := by
  have hx256 : ns.getD a 0 < 256 := getD_lt hR.more.2.2 a
  have hq : nx ns a 1 = (ns.getD a 0, 0, a + 1) := nx_one hn
  rw [hf] at hq
  have HR := hide hR
  have HX := hide hX
  have HXF := hide hXf
  clear hR hX hXf
  go_enter Try.func73, Try.ntmps73
  go_wp2_with fail
  refine (next_any g B ns a 1 _ HR.out (by omega) (by omega)).mono ?_
  rw [hq]
  rintro e w1 ⟨rfl, ho1, hR1⟩
  have HR1 := hide hR1
  have k1 : Only2 g Bx w w1 := Only2.of_only ho1
  have XC : ∀ o, w1.cell? ⟨Bx, o, none⟩ = (#[Value.bool false] : Array Value)[o]? := fun o => (World.cell?_of_block (ho1.block Bx hXz d2)).trans (HX.out o)
  have XF : ∀ o, w1.frozen? ⟨Bx, o, none⟩ = false := fun o => (World.frozen?_of_block (ho1.block Bx hXz d2)).trans (HXF.out o)
  have BC : ∀ o, w1.cell? ⟨Br, o, none⟩ = (#[Value.pointer (some ⟨g, 0, none⟩)] : Array Value)[o]? := fun o => (World.cell?_of_block (ho1.block Br hBz d1)).trans (hB o)
  have hXz1 : Bx < w1.heap.size := Nat.lt_of_lt_of_le hXz ho1.size
  have hBz1 : Br < w1.heap.size := Nat.lt_of_lt_of_le hBz ho1.size
  clear hR1 ho1 hB
  go_wp2
  go_ret
  exact ⟨rfl, k1.set 0 _, HR1.out.set d2 d4 0 _, by simp [go_sem, XC]⟩

set_option maxRecDepth 100000 in
set_option maxHeartbeats 1000000 in
theorem fl1_no (g B Br Bx : Nat) (ns : List Nat) (a : Nat) (w : World) (hR : RAny w g B ns a) (hB : ∀ o, w.cell? ⟨Br, o, none⟩ = (#[Value.pointer (some ⟨g, 0, none⟩)] : Array Value)[o]?) (hBz : Br < w.heap.size) (hXz : Bx < w.heap.size) (hX : ∀ o, w.cell? ⟨Bx, o, none⟩ = (#[Value.bool false] : Array Value)[o]?) (hXf : ∀ o, w.frozen? ⟨Bx, o, none⟩ = false) (d1 : Br ≠ g) (d2 : Bx ≠ g) (d3 : Bx ≠ Br) (d4 : B ≤ Bx) (hn : a < ns.length) (hf : ns.getD a 0 = 0) : Calls Try.prog 73 #[.pointer (some ⟨Br, 0, none⟩), .pointer (some ⟨Bx, 0, none⟩)] w (fun e w' => e = .returned (.int .i64 0) ∧ Only2 g Bx w w' ∧ RAny w' g B ns (a + 1) ∧ w'.cell? ⟨Bx, 0, none⟩ = some (.bool false)) := by
  have hx256 : ns.getD a 0 < 256 := getD_lt hR.more.2.2 a
  have hq : nx ns a 1 = (ns.getD a 0, 0, a + 1) := nx_one hn
  rw [hf] at hq
  have HR := hide hR
  have HX := hide hX
  have HXF := hide hXf
  clear hR hX hXf
  go_enter Try.func73, Try.ntmps73
  go_wp2_with fail
  refine (next_any g B ns a 1 _ HR.out (by omega) (by omega)).mono ?_
  rw [hq]
  rintro e w1 ⟨rfl, ho1, hR1⟩
  have HR1 := hide hR1
  have k1 : Only2 g Bx w w1 := Only2.of_only ho1
  have XC : ∀ o, w1.cell? ⟨Bx, o, none⟩ = (#[Value.bool false] : Array Value)[o]? := fun o => (World.cell?_of_block (ho1.block Bx hXz d2)).trans (HX.out o)
  have XF : ∀ o, w1.frozen? ⟨Bx, o, none⟩ = false := fun o => (World.frozen?_of_block (ho1.block Bx hXz d2)).trans (HXF.out o)
  have BC : ∀ o, w1.cell? ⟨Br, o, none⟩ = (#[Value.pointer (some ⟨g, 0, none⟩)] : Array Value)[o]? := fun o => (World.cell?_of_block (ho1.block Br hBz d1)).trans (hB o)
  have hXz1 : Bx < w1.heap.size := Nat.lt_of_lt_of_le hXz ho1.size
  have hBz1 : Br < w1.heap.size := Nat.lt_of_lt_of_le hBz ho1.size
  clear hR1 ho1 hB
  go_wp2
  go_ret
  exact ⟨rfl, k1.set 0 _, HR1.out.set d2 d4 0 _, by simp [go_sem, XC]⟩

theorem fl_err (ns : List Nat) (a : Nat) (h : (fl ns a).2.1 ≠ 0) : (fl ns a).2.2 = a := by revert h; unfold fl; split <;> (try split) <;> simp
set_option maxRecDepth 100000 in
theorem fl1_all (g B Br Bx : Nat) (ns : List Nat) (a : Nat) (w : World) (hR : RAny w g B ns a) (hB : ∀ o, w.cell? ⟨Br, o, none⟩ = (#[Value.pointer (some ⟨g, 0, none⟩)] : Array Value)[o]?) (hBz : Br < w.heap.size) (hXz : Bx < w.heap.size) (hX : ∀ o, w.cell? ⟨Bx, o, none⟩ = (#[Value.bool false] : Array Value)[o]?) (hXf : ∀ o, w.frozen? ⟨Bx, o, none⟩ = false) (d1 : Br ≠ g) (d2 : Bx ≠ g) (d3 : Bx ≠ Br) (d4 : B ≤ Bx) : Calls Try.prog 73 #[.pointer (some ⟨Br, 0, none⟩), .pointer (some ⟨Bx, 0, none⟩)] w (fun e w' => ∃ a', e = .returned (.int .i64 ((fl ns a).2.1 : Int)) ∧ Only2 g Bx w w' ∧ RAny w' g B ns a' ∧ w'.cell? ⟨Bx, 0, none⟩ = some (.bool (fl ns a).1) ∧ ((fl ns a).2.1 = 0 → a' = (fl ns a).2.2)) := by
  by_cases c1 : ns.length ≤ a
  · have q : fl ns a = (false, 110, a) := by unfold fl; rw [if_pos c1]
    exact (fl1_end g B Br Bx ns a w hR hB hBz hXz hX hXf d1 d2 d3 d4 c1).mono (fun e w' h => by obtain ⟨h1, h2, h3, h4⟩ := h; exact ⟨_, by rw [q]; exact h1, h2, h3, by rw [q]; exact h4, fun c => by rw [q]⟩)
  by_cases c2 : 1 < ns.getD a 0
  · have q : fl ns a = (false, 111, a) := by unfold fl; rw [if_neg c1, if_pos c2]
    exact (fl1_form g B Br Bx ns a w hR hB hBz hXz hX hXf d1 d2 d3 d4 (by omega) c2).mono (fun e w' h => by obtain ⟨h1, h2, h3, h4⟩ := h; exact ⟨_, by rw [q]; exact h1, h2, h3, by rw [q]; exact h4, fun c => by rw [q] at c; cases c⟩)
  by_cases c3 : ns.getD a 0 = 1
  · have q : fl ns a = (true, 0, a + 1) := by unfold fl; rw [if_neg c1, if_neg c2, c3]; rfl
    exact (fl1_one g B Br Bx ns a w hR hB hBz hXz hX hXf d1 d2 d3 d4 (by omega) c3).mono (fun e w' h => by obtain ⟨h1, h2, h3, h4⟩ := h; exact ⟨_, by rw [q]; exact h1, h2, h3, by rw [q]; exact h4, fun c => by rw [q]⟩)
  · have c4 : ns.getD a 0 = 0 := by omega
    have q : fl ns a = (false, 0, a + 1) := by unfold fl; rw [if_neg c1, if_neg c2, c4]; rfl
    exact (fl1_no g B Br Bx ns a w hR hB hBz hXz hX hXf d1 d2 d3 d4 (by omega) c4).mono (fun e w' h => by obtain ⟨h1, h2, h3, h4⟩ := h; exact ⟨_, by rw [q]; exact h1, h2, h3, by rw [q]; exact h4, fun c => by rw [q]⟩)

set_option maxRecDepth 100000 in
set_option maxHeartbeats 2000000 in
theorem RFlag_ok (g B : Nat) (ns : List Nat) (a : Nat) (w : World) (hR : RAny w g B ns a) (hE : (fl ns a).2.1 = 0) : Calls Try.prog 42 #[.pointer (some ⟨g, 0, none⟩)] w (fun e w' => e = .returned (.tuple #[.bool (fl ns a).1, .int .i64 ((fl ns a).2.1 : Int)]) ∧ Only g w w' ∧ RAny w' g B ns (fl ns a).2.2) := by
  have hB0 : Below w.heap.size w ((w.alloc (.cells #[Value.pointer (some ⟨g, 0, none⟩)] 35)).alloc (.cells #[Value.bool false] 4)) := by (focus repeat' (first | (with_reducible exact Below.refl _ _) | (with_reducible assumption) | (with_reducible refine Below.alloc ?_ ?_ _) | (with_reducible refine Below.drew ?_) | (with_reducible refine bdrewN ?_ _) | (with_reducible refine Below.setCell ?_ ?_ _) | (first | (with_reducible exact Nat.le_refl _) | (with_reducible assumption) | omega | (simp; omega) | (simp; done))))
  have HR0 := hide (hR.below hB0)
  have HB0 := hide hB0
  have cB : ∀ o, ((w.alloc (.cells #[Value.pointer (some ⟨g, 0, none⟩)] 35)).alloc (.cells #[Value.bool false] 4)).cell? ⟨w.heap.size, o, none⟩ = (#[Value.pointer (some ⟨g, 0, none⟩)] : Array Value)[o]? := fun o => by simp [go_sem]
  have cX : ∀ o, ((w.alloc (.cells #[Value.pointer (some ⟨g, 0, none⟩)] 35)).alloc (.cells #[Value.bool false] 4)).cell? ⟨w.heap.size + 1, o, none⟩ = (#[Value.bool false] : Array Value)[o]? := fun o => by simp [go_sem]
  have fX : ∀ o, ((w.alloc (.cells #[Value.pointer (some ⟨g, 0, none⟩)] 35)).alloc (.cells #[Value.bool false] 4)).frozen? ⟨w.heap.size + 1, o, none⟩ = false := fun o => by simp [go_sem]
  have zB : w.heap.size < ((w.alloc (.cells #[Value.pointer (some ⟨g, 0, none⟩)] 35)).alloc (.cells #[Value.bool false] 4)).heap.size := by (simp; omega)
  have zX : w.heap.size + 1 < ((w.alloc (.cells #[Value.pointer (some ⟨g, 0, none⟩)] 35)).alloc (.cells #[Value.bool false] 4)).heap.size := by simp
  have hg : g < w.heap.size := hR.cells.1
  have hb : B ≤ w.heap.size := hR.1
  have hle : a ≤ ns.length := hR.more.1
  obtain ⟨r1, r2, r3⟩ := HR0.out.cells
  clear hR hB0
  go_enter Try.func42, Try.ntmps42
  go_wp2_with (go_at_call 52; go_in)
  refine (fl1_all g B w.heap.size (w.heap.size + 1) ns a _ HR0.out cB zB zX cX fX (by omega) (by omega) (by omega) (by omega)).mono ?_
  rintro e w1 ⟨a', rfl, ho, hR1, hx, hq⟩
  obtain rfl := hq hE
  rw [hE]
  have hE' := hide hE
  clear hq
  have HO := hide ho
  have HR1 := hide hR1
  obtain ⟨t1, t2, t3⟩ := hR1.cells
  clear ho hR1 r1 r2 r3 cB cX fX zB zX
  go_wp2
  go_ret2
  exact ⟨by (rw [hE'.out]; rfl), Only2.only HB0.out HO.out (by omega), HR1.out⟩

set_option maxRecDepth 100000 in
set_option maxHeartbeats 2000000 in
theorem RFlag_bad (g B : Nat) (ns : List Nat) (a : Nat) (w : World) (hR : RAny w g B ns a) (hE : (fl ns a).2.1 ≠ 0) : Calls Try.prog 42 #[.pointer (some ⟨g, 0, none⟩)] w (fun e w' => e = .returned (.tuple #[.bool (fl ns a).1, .int .i64 ((fl ns a).2.1 : Int)]) ∧ Only g w w' ∧ RAny w' g B ns (fl ns a).2.2) := by
  have hB0 : Below w.heap.size w ((w.alloc (.cells #[Value.pointer (some ⟨g, 0, none⟩)] 35)).alloc (.cells #[Value.bool false] 4)) := by (focus repeat' (first | (with_reducible exact Below.refl _ _) | (with_reducible assumption) | (with_reducible refine Below.alloc ?_ ?_ _) | (with_reducible refine Below.drew ?_) | (with_reducible refine bdrewN ?_ _) | (with_reducible refine Below.setCell ?_ ?_ _) | (first | (with_reducible exact Nat.le_refl _) | (with_reducible assumption) | omega | (simp; omega) | (simp; done))))
  have HR0 := hide (hR.below hB0)
  have HB0 := hide hB0
  have cB : ∀ o, ((w.alloc (.cells #[Value.pointer (some ⟨g, 0, none⟩)] 35)).alloc (.cells #[Value.bool false] 4)).cell? ⟨w.heap.size, o, none⟩ = (#[Value.pointer (some ⟨g, 0, none⟩)] : Array Value)[o]? := fun o => by simp [go_sem]
  have cX : ∀ o, ((w.alloc (.cells #[Value.pointer (some ⟨g, 0, none⟩)] 35)).alloc (.cells #[Value.bool false] 4)).cell? ⟨w.heap.size + 1, o, none⟩ = (#[Value.bool false] : Array Value)[o]? := fun o => by simp [go_sem]
  have fX : ∀ o, ((w.alloc (.cells #[Value.pointer (some ⟨g, 0, none⟩)] 35)).alloc (.cells #[Value.bool false] 4)).frozen? ⟨w.heap.size + 1, o, none⟩ = false := fun o => by simp [go_sem]
  have zB : w.heap.size < ((w.alloc (.cells #[Value.pointer (some ⟨g, 0, none⟩)] 35)).alloc (.cells #[Value.bool false] 4)).heap.size := by (simp; omega)
  have zX : w.heap.size + 1 < ((w.alloc (.cells #[Value.pointer (some ⟨g, 0, none⟩)] 35)).alloc (.cells #[Value.bool false] 4)).heap.size := by simp
  have hg : g < w.heap.size := hR.cells.1
  have hb : B ≤ w.heap.size := hR.1
  have hle : a ≤ ns.length := hR.more.1
  obtain ⟨r1, r2, r3⟩ := HR0.out.cells
  clear hR hB0
  go_enter Try.func42, Try.ntmps42
  go_wp2_with (go_at_call 52; go_in)
  refine (fl1_all g B w.heap.size (w.heap.size + 1) ns a _ HR0.out cB zB zX cX fX (by omega) (by omega) (by omega) (by omega)).mono ?_
  rintro e w1 ⟨a', rfl, ho, hR1, hx, hq⟩
  have Hz2 := hide (fl_err ns a hE)
  have hE2 : ((fl ns a).2.1 : Int) ≠ 0 := by omega
  clear hq
  have HO := hide ho
  have HR1 := hide hR1
  obtain ⟨t1, t2, t3⟩ := hR1.cells
  clear ho hR1 r1 r2 r3 cB cX fX zB zX
  go_wp2
  go_ret2
  exact ⟨rfl, (Only2.only HB0.out HO.out (by omega)).set 1 _, by (rw [Hz2.out]; exact HR1.out.reset hle)⟩

theorem RFlag_c (g B : Nat) (ns : List Nat) (a : Nat) (w : World) (hR : RAny w g B ns a) : Calls Try.prog 42 #[.pointer (some ⟨g, 0, none⟩)] w (fun e w' => e = .returned (.tuple #[.bool (fl ns a).1, .int .i64 ((fl ns a).2.1 : Int)]) ∧ Only g w w' ∧ RAny w' g B ns (fl ns a).2.2) := by
  by_cases hE : (fl ns a).2.1 = 0
  · exact RFlag_ok g B ns a w hR hE
  · exact RFlag_bad g B ns a w hR hE
end Go.Proofs.Ytajkgecegefnmaa
