import Derived.Test.YtajkgecegefnmaaTd
namespace Go.Proofs.Ytajkgecegefnmaa
open Go.ChangeShapes Go.WideShapes Go.ChangeAt Go.RowKit Go.Deep
set_option linter.unusedSimpArgs false
set_option linter.unusedVariables false

def Only2 (g h : Nat) (w w' : World) : Prop := w'.os = w.os ∧ w'.tape = w.tape ∧ w'.output = w.output ∧ w.heap.size ≤ w'.heap.size ∧ ∀ i, i < w.heap.size → i ≠ g → i ≠ h → w'.heap[i]? = w.heap[i]?
theorem Only2.of_below {g h : Nat} {w w' : World} (k : Below w.heap.size w w') : Only2 g h w w' := ⟨k.os, k.tape, k.output, k.size, fun i hi _ _ => k.block i hi⟩
theorem Only2.of_only {g h : Nat} {w w' : World} (k : Only g w w') : Only2 g h w w' := ⟨k.os, k.tape, k.output, k.size, fun i hi h1 _ => k.block i hi h1⟩
theorem Only2.trans {g h : Nat} {w w1 w2 : World} (k : Only2 g h w w1) (l : Only2 g h w1 w2) : Only2 g h w w2 :=
  ⟨l.1.trans k.1, l.2.1.trans k.2.1, l.2.2.1.trans k.2.2.1, Nat.le_trans k.2.2.2.1 l.2.2.2.1, fun i hi h1 h2 => (l.2.2.2.2 i (Nat.lt_of_lt_of_le hi k.2.2.2.1) h1 h2).trans (k.2.2.2.2 i hi h1 h2)⟩
theorem Only2.set {g h : Nat} {w w1 : World} (k : Only2 g h w w1) (o : Nat) (u : Value) : Only2 g h w (w1.setCell ⟨h, o, none⟩ u) :=
  k.trans ⟨rfl, rfl, rfl, by simp, fun i hi _ h2 => Below.heap_setCell _ _ _ _ h2⟩
theorem Only2.cell {g h : Nat} {w w1 : World} (k : Only2 g h w w1) {p : Addr} (hp : p.block < w.heap.size) (h1 : p.block ≠ g) (h2 : p.block ≠ h) : w1.cell? p = w.cell? p := World.cell?_of_block (k.2.2.2.2 _ hp h1 h2)
theorem Only2.frozen {g h : Nat} {w w1 : World} (k : Only2 g h w w1) {p : Addr} (hp : p.block < w.heap.size) (h1 : p.block ≠ g) (h2 : p.block ≠ h) : w1.frozen? p = w.frozen? p := World.frozen?_of_block (k.2.2.2.2 _ hp h1 h2)
theorem RObj.set {w : World} {g b off cap : Nat} {ns : List Nat} {at_ h : Nat} (k : RObj w g b off cap ns at_) (h1 : h ≠ g) (h2 : h ≠ b) (o : Nat) (u : Value) : RObj (w.setCell ⟨h, o, none⟩ u) g b off cap ns at_ := by
  obtain ⟨r1, r2, r3, r4, r5, r6, r7, r8, r9, r10⟩ := k
  refine ⟨by simpa using r1, fun i => (World.cell?_of_block (Below.heap_setCell _ _ _ _ (fun e => h1 e.symm))).trans (r2 i), fun i => by simp only [World.frozen?_setCell]; exact r3 i, by simpa using r4, r5, fun j hj => (World.cell?_of_block (Below.heap_setCell _ _ _ _ (fun e => h2 e.symm))).trans (r6 j hj), r7, r8, r9, r10⟩
theorem num1 (x : Nat) : num [x] = x := by unfold num; simp

theorem next1_c (g b off cap : Nat) (ns : List Nat) (at_ : Nat) (w : World) (hR : RObj w g b off cap ns at_) (hn : at_ < ns.length) : Calls Try.prog 72 #[.pointer (some ⟨g, 0, none⟩), .int .i64 1] w fun e w' => e = .returned (.tuple #[.int .u64 (ns.getD at_ 0 : Int), .int .i64 0]) ∧ Only g w w' ∧ RObj w' g b off cap ns (at_ + 1) := by
  have q := next_c g b off cap ns at_ 1 w hR (by omega) (by omega) (by omega)
  have e : (ns.drop at_).take 1 = [ns.getD at_ 0] := by
    rw [List.drop_eq_getElem_cons hn, List.take_succ_cons, List.take_zero]
    simp [List.getD, hn]
  rw [e, num1] at q
  exact q
theorem next1_end (g b off cap : Nat) (ns : List Nat) (at_ : Nat) (w : World) (hR : RObj w g b off cap ns at_) (hn : ns.length ≤ at_) : Calls Try.prog 72 #[.pointer (some ⟨g, 0, none⟩), .int .i64 1] w fun e w' => e = .returned (.tuple #[.int .u64 0, .int .i64 110]) ∧ Below w.heap.size w w' := next_end g b off cap ns at_ 1 w hR (by omega) (by omega)

set_option maxRecDepth 100000 in
set_option maxHeartbeats 1000000 in
theorem num1_end (g b off cap Br Bx : Nat) (ns : List Nat) (at_ : Nat) (w : World) (hR : RObj w g b off cap ns at_) (hB : ∀ o, w.cell? ⟨Br, o, none⟩ = (#[Value.pointer (some ⟨g, 0, none⟩)] : Array Value)[o]?) (hBz : Br < w.heap.size) (hXz : Bx < w.heap.size) (hX : ∀ o, w.cell? ⟨Bx, o, none⟩ = (#[Value.int .u64 0] : Array Value)[o]?) (hXf : ∀ o, w.frozen? ⟨Bx, o, none⟩ = false) (d1 : Br ≠ g) (d2 : Bx ≠ g) (d3 : Bx ≠ Br) (d4 : Bx ≠ b) (hn : ns.length ≤ at_) : Calls Try.prog 71 #[.pointer (some ⟨Br, 0, none⟩), .pointer (some ⟨Bx, 0, none⟩)] w (fun e w' => e = .returned (.int .i64 110) ∧ Only2 g Bx w w' ∧ RObj w' g b off cap ns at_ ∧ w'.cell? ⟨Bx, 0, none⟩ = some (.int .u64 (0 : Int))) := by
  have HR := hide hR
  have HX := hide hX
  have HXF := hide hXf
  clear hR hX hXf
  go_enter Try.func71, Try.ntmps71
  go_wp2_with fail
  refine (next1_end g b off cap ns at_ _ HR.out hn).mono ?_
  rintro e w1 ⟨rfl, hb1⟩
  have XC : ∀ o, w1.cell? ⟨Bx, o, none⟩ = (#[Value.int .u64 0] : Array Value)[o]? := fun o => (hb1.cell (p := ⟨Bx, o, none⟩) hXz).trans (HX.out o)
  have XF : ∀ o, w1.frozen? ⟨Bx, o, none⟩ = false := fun o => (hb1.frozen (p := ⟨Bx, o, none⟩) hXz).trans (HXF.out o)
  have hR1 := hide (HR.out.below hb1)
  go_wp2
  go_ret
  exact ⟨rfl, (Only2.of_below hb1).set 0 _, hR1.out.set d2 d4 0 _, by simp [go_sem, XC]⟩

set_option maxRecDepth 100000 in
set_option maxHeartbeats 1000000 in
theorem num1_short (g b off cap Br Bx : Nat) (ns : List Nat) (at_ : Nat) (w : World) (hR : RObj w g b off cap ns at_) (hB : ∀ o, w.cell? ⟨Br, o, none⟩ = (#[Value.pointer (some ⟨g, 0, none⟩)] : Array Value)[o]?) (hBz : Br < w.heap.size) (hXz : Bx < w.heap.size) (hX : ∀ o, w.cell? ⟨Bx, o, none⟩ = (#[Value.int .u64 0] : Array Value)[o]?) (hXf : ∀ o, w.frozen? ⟨Bx, o, none⟩ = false) (d1 : Br ≠ g) (d2 : Bx ≠ g) (d3 : Bx ≠ Br) (d4 : Bx ≠ b) (hn : at_ < ns.length) (hf : (ns.getD at_ 0) ≤ 247) : Calls Try.prog 71 #[.pointer (some ⟨Br, 0, none⟩), .pointer (some ⟨Bx, 0, none⟩)] w (fun e w' => e = .returned (.int .i64 0) ∧ Only2 g Bx w w' ∧ RObj w' g b off cap ns (at_ + 1) ∧ w'.cell? ⟨Bx, 0, none⟩ = some (.int .u64 ((ns.getD at_ 0) : Int))) := by
  have HR := hide hR
  have HX := hide hX
  have HXF := hide hXf
  clear hR hX hXf
  generalize hx : (ns.getD at_ 0) = f at *
  have Hx := hide hx
  clear hx
  have hf' : (f : Int) ≤ 247 := by omega
  go_enter Try.func71, Try.ntmps71
  go_wp2_with fail
  refine (next1_c g b off cap ns at_ _ HR.out hn).mono ?_
  rw [Hx.out]
  rintro e w1 ⟨rfl, ho1, hR1⟩
  have HR1 := hide hR1
  have k1 : Only2 g Bx w w1 := Only2.of_only ho1
  have XC : ∀ o, w1.cell? ⟨Bx, o, none⟩ = (#[Value.int .u64 0] : Array Value)[o]? := fun o => (World.cell?_of_block (ho1.block Bx hXz d2)).trans (HX.out o)
  have XF : ∀ o, w1.frozen? ⟨Bx, o, none⟩ = false := fun o => (World.frozen?_of_block (ho1.block Bx hXz d2)).trans (HXF.out o)
  have BC : ∀ o, w1.cell? ⟨Br, o, none⟩ = (#[Value.pointer (some ⟨g, 0, none⟩)] : Array Value)[o]? := fun o => (World.cell?_of_block (ho1.block Br hBz d1)).trans (hB o)
  have hXz1 : Bx < w1.heap.size := Nat.lt_of_lt_of_le hXz ho1.size
  have hBz1 : Br < w1.heap.size := Nat.lt_of_lt_of_le hBz ho1.size
  clear hR1 ho1 hB
  go_wp2
  go_ret
  exact ⟨rfl, k1.set 0 _, HR1.out.set d2 d4 0 _, by (simp [go_sem, XC]; first | done | exact Hx.out.symm)⟩
end Go.Proofs.Ytajkgecegefnmaa
