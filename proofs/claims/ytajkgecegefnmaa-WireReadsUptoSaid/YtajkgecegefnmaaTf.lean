import Derived.Test.YtajkgecegefnmaaTe
namespace Go.Proofs.Ytajkgecegefnmaa
open Go.ChangeShapes Go.WideShapes Go.ChangeAt Go.RowKit Go.Deep
set_option linter.unusedSimpArgs false
set_option linter.unusedVariables false

set_option maxRecDepth 100000 in
set_option maxHeartbeats 1000000 in
theorem num1_cut (g b off cap Br Bx : Nat) (ns : List Nat) (at_ : Nat) (w : World) (hR : RObj w g b off cap ns at_) (hB : ∀ o, w.cell? ⟨Br, o, none⟩ = (#[Value.pointer (some ⟨g, 0, none⟩)] : Array Value)[o]?) (hBz : Br < w.heap.size) (hXz : Bx < w.heap.size) (hX : ∀ o, w.cell? ⟨Bx, o, none⟩ = (#[Value.int .u64 0] : Array Value)[o]?) (hXf : ∀ o, w.frozen? ⟨Bx, o, none⟩ = false) (d1 : Br ≠ g) (d2 : Bx ≠ g) (d3 : Bx ≠ Br) (d4 : Bx ≠ b) (hn : at_ < ns.length) (hf : 247 < (ns.getD at_ 0)) (hc : ns.length < at_ + 1 + ((ns.getD at_ 0) - 247)) : Calls Try.prog 71 #[.pointer (some ⟨Br, 0, none⟩), .pointer (some ⟨Bx, 0, none⟩)] w (fun e w' => e = .returned (.int .i64 110) ∧ Only2 g Bx w w' ∧ RObj w' g b off cap ns (at_ + 1) ∧ w'.cell? ⟨Bx, 0, none⟩ = some (.int .u64 (0 : Int))) := by
  have HR := hide hR
  have HX := hide hX
  have HXF := hide hXf
  clear hR hX hXf
  have hfl : (ns.getD at_ 0) < 256 := HR.out.2.2.2.2.2.2.1 _ (by (have e : ns.getD at_ 0 = ns[at_] := by simp [List.getD, hn]); rw [e]; exact List.getElem_mem hn)
  have HE := hide (rfl : ns.getD at_ 0 = ns.getD at_ 0)
  generalize hx : (ns.getD at_ 0) = f at *
  have Hx := hide hx
  clear hx HE
  have hf1 : (247 : Int) < (f : Int) := by omega
  have hf2 : ¬ (f : Int) ≤ 247 := by omega
  have hf3 : (f : Int) - 247 = ((f - 247 : Nat) : Int) := by omega
  have HF3 := hide hf3
  clear hf3
  go_enter Try.func71, Try.ntmps71
  go_wp2_with fail
  refine (next1_c g b off cap ns at_ _ HR.out hn).mono ?_
  rw [Hx.out]
  rintro e w1 ⟨rfl, ho1, hR1⟩
  have HR1 := hide hR1
  have k1 : Only2 g Bx w w1 := Only2.of_only ho1
  have XC : ∀ o, w1.cell? ⟨Bx, o, none⟩ = (#[Value.int .u64 0] : Array Value)[o]? := fun o => (World.cell?_of_block (ho1.block Bx hXz d2)).trans (HX.out o)
  have XF : ∀ o, w1.frozen? ⟨Bx, o, none⟩ = false := fun o => (World.frozen?_of_block (ho1.block Bx hXz d2)).trans (HXF.out o)
  have BC : ∀ o, w1.cell? ⟨Br, o, none⟩ = (#[Value.pointer (some ⟨g, 0, none⟩)] : Array Value)[o]? := fun o => (World.cell?_of_block (ho1.block Br hBz d1)).trans (hB o)
  have hXz1 : Bx < w1.heap.size := Nat.lt_of_lt_of_le hXz ho1.size
  have hBz1 : Br < w1.heap.size := Nat.lt_of_lt_of_le hBz ho1.size
  clear hR1 ho1 hB
  have k2 := hide (k1.set 0 (.int .u64 (f : Int)))
  have HR2 := hide (HR1.out.set d2 d4 0 (.int .u64 (f : Int)))
  go_wp2_with fail
  rw [HF3.out]
  have XC2 : ∀ o, (w1.setCell ⟨Bx, 0, none⟩ (.int .u64 (f : Int))).cell? ⟨Bx, o, none⟩ = (#[Value.int .u64 (f : Int)] : Array Value)[o]? := fun o => by rcases o with _ | o <;> simp [go_sem, XC]
  have XF2 : ∀ o, (w1.setCell ⟨Bx, 0, none⟩ (.int .u64 (f : Int))).frozen? ⟨Bx, o, none⟩ = false := fun o => by simp only [World.frozen?_setCell]; exact XF o
  have hXz2 : Bx < (w1.setCell ⟨Bx, 0, none⟩ (.int .u64 (f : Int))).heap.size := by simpa using hXz1
  refine (next_end g b off cap ns (at_ + 1) (f - 247) _ HR2.out (by omega) (by omega)).mono ?_
  rintro e w2 ⟨rfl, hb2⟩
  have XC3 : ∀ o, w2.cell? ⟨Bx, o, none⟩ = (#[Value.int .u64 (f : Int)] : Array Value)[o]? := fun o => (hb2.cell (p := ⟨Bx, o, none⟩) hXz2).trans (XC2 o)
  have XF3 : ∀ o, w2.frozen? ⟨Bx, o, none⟩ = false := fun o => (hb2.frozen (p := ⟨Bx, o, none⟩) hXz2).trans (XF2 o)
  have HR3 := hide (HR2.out.below hb2)
  have k3 := hide (k2.out.trans (Only2.of_below hb2))
  clear XC XF XC2 XF2 hb2 BC
  go_wp2
  go_ret
  exact ⟨rfl, k3.out.set 0 _, HR3.out.set d2 d4 0 _, by simp [go_sem, XC3]⟩

set_option maxRecDepth 100000 in
set_option maxHeartbeats 2000000 in
theorem num1_form (g b off cap Br Bx : Nat) (ns : List Nat) (at_ : Nat) (w : World) (hR : RObj w g b off cap ns at_) (hB : ∀ o, w.cell? ⟨Br, o, none⟩ = (#[Value.pointer (some ⟨g, 0, none⟩)] : Array Value)[o]?) (hBz : Br < w.heap.size) (hXz : Bx < w.heap.size) (hX : ∀ o, w.cell? ⟨Bx, o, none⟩ = (#[Value.int .u64 0] : Array Value)[o]?) (hXf : ∀ o, w.frozen? ⟨Bx, o, none⟩ = false) (d1 : Br ≠ g) (d2 : Bx ≠ g) (d3 : Bx ≠ Br) (d4 : Bx ≠ b) (hn : at_ < ns.length) (hf : 247 < (ns.getD at_ 0)) (hc : at_ + 1 + ((ns.getD at_ 0) - 247) ≤ ns.length) (hs : (form (num ((ns.drop (at_ + 1)).take ((ns.getD at_ 0) - 247)))).length ≠ 1 + ((ns.getD at_ 0) - 247)) : Calls Try.prog 71 #[.pointer (some ⟨Br, 0, none⟩), .pointer (some ⟨Bx, 0, none⟩)] w (fun e w' => e = .returned (.int .i64 111) ∧ Only2 g Bx w w' ∧ RObj w' g b off cap ns (at_ + 1 + ((ns.getD at_ 0) - 247)) ∧ w'.cell? ⟨Bx, 0, none⟩ = some (.int .u64 ((num ((ns.drop (at_ + 1)).take ((ns.getD at_ 0) - 247))) : Int))) := by
  have HS0 := hide hs
  clear hs
  have HR := hide hR
  have HX := hide hX
  have HXF := hide hXf
  clear hR hX hXf
  have hfl : (ns.getD at_ 0) < 256 := HR.out.2.2.2.2.2.2.1 _ (by (have e : ns.getD at_ 0 = ns[at_] := by simp [List.getD, hn]); rw [e]; exact List.getElem_mem hn)
  have HE := hide (rfl : ns.getD at_ 0 = ns.getD at_ 0)
  generalize hx : (ns.getD at_ 0) = f at *
  have Hx := hide hx
  clear hx HE
  have hf1 : (247 : Int) < (f : Int) := by omega
  have hf2 : ¬ (f : Int) ≤ 247 := by omega
  have hf3 : (f : Int) - 247 = ((f - 247 : Nat) : Int) := by omega
  have HF3 := hide hf3
  clear hf3
  go_enter Try.func71, Try.ntmps71
  go_wp2_with fail
  refine (next1_c g b off cap ns at_ _ HR.out hn).mono ?_
  rw [Hx.out]
  rintro e w1 ⟨rfl, ho1, hR1⟩
  have HR1 := hide hR1
  have k1 : Only2 g Bx w w1 := Only2.of_only ho1
  have XC : ∀ o, w1.cell? ⟨Bx, o, none⟩ = (#[Value.int .u64 0] : Array Value)[o]? := fun o => (World.cell?_of_block (ho1.block Bx hXz d2)).trans (HX.out o)
  have XF : ∀ o, w1.frozen? ⟨Bx, o, none⟩ = false := fun o => (World.frozen?_of_block (ho1.block Bx hXz d2)).trans (HXF.out o)
  have BC : ∀ o, w1.cell? ⟨Br, o, none⟩ = (#[Value.pointer (some ⟨g, 0, none⟩)] : Array Value)[o]? := fun o => (World.cell?_of_block (ho1.block Br hBz d1)).trans (hB o)
  have hXz1 : Bx < w1.heap.size := Nat.lt_of_lt_of_le hXz ho1.size
  have hBz1 : Br < w1.heap.size := Nat.lt_of_lt_of_le hBz ho1.size
  clear hR1 ho1 hB
  have k2 := hide (k1.set 0 (.int .u64 (f : Int)))
  have HR2 := hide (HR1.out.set d2 d4 0 (.int .u64 (f : Int)))
  go_wp2_with fail
  rw [HF3.out]
  have XC2 : ∀ o, (w1.setCell ⟨Bx, 0, none⟩ (.int .u64 (f : Int))).cell? ⟨Bx, o, none⟩ = (#[Value.int .u64 (f : Int)] : Array Value)[o]? := fun o => by rcases o with _ | o <;> simp [go_sem, XC]
  have XF2 : ∀ o, (w1.setCell ⟨Bx, 0, none⟩ (.int .u64 (f : Int))).frozen? ⟨Bx, o, none⟩ = false := fun o => by simp only [World.frozen?_setCell]; exact XF o
  have hXz2 : Bx < (w1.setCell ⟨Bx, 0, none⟩ (.int .u64 (f : Int))).heap.size := by simpa using hXz1
  refine (next_c g b off cap ns (at_ + 1) (f - 247) _ HR2.out (by omega) (by omega) (by omega)).mono ?_
  rintro e w2 ⟨rfl, ho2, hR3⟩
  have hx2 : num ((ns.drop (at_ + 1)).take (f - 247)) < 18446744073709551616 := by
    have q := num_lt (f - 247) ((ns.drop (at_ + 1)).take (f - 247)) (by rw [List.length_take, List.length_drop]; omega) (fun x hx => HR.out.2.2.2.2.2.2.1 x (List.mem_of_mem_drop (List.mem_of_mem_take hx)))
    have p : 256 ^ (f - 247) ≤ 256 ^ 8 := Nat.pow_le_pow_right (by decide) (by omega)
    have p8 : (256 : Nat) ^ 8 = 18446744073709551616 := by decide
    omega
  have HS := HS0
  clear HS0
  generalize hx2e : num ((ns.drop (at_ + 1)).take (f - 247)) = x2 at *
  have HX2 := hide hx2e
  clear hx2e
  have XC3 : ∀ o, w2.cell? ⟨Bx, o, none⟩ = (#[Value.int .u64 (f : Int)] : Array Value)[o]? := fun o => (World.cell?_of_block (ho2.block Bx hXz2 d2)).trans (XC2 o)
  have XF3 : ∀ o, w2.frozen? ⟨Bx, o, none⟩ = false := fun o => (World.frozen?_of_block (ho2.block Bx hXz2 d2)).trans (XF2 o)
  have HR3 := hide (hR3.set d2 d4 0 (.int .u64 (x2 : Int)))
  have k3 := hide ((k2.out.trans (Only2.of_only ho2)).set 0 (.int .u64 (x2 : Int)))
  have XC4 : ∀ o, (w2.setCell ⟨Bx, 0, none⟩ (.int .u64 (x2 : Int))).cell? ⟨Bx, o, none⟩ = (#[Value.int .u64 (x2 : Int)] : Array Value)[o]? := fun o => by rcases o with _ | o <;> simp [go_sem, XC3]
  have hXz4 : Bx < (w2.setCell ⟨Bx, 0, none⟩ (.int .u64 (x2 : Int))).heap.size := by (simp; exact Nat.lt_of_lt_of_le hXz2 ho2.size)
  have hsz : (((form x2).length : Int) == 1 + ((f - 247 : Nat) : Int)) = false := by (have q := HS.out; simp; omega)
  clear XC XF XC2 XF2 BC hR3 ho2
  go_wp2_with fail
  refine (Size_c x2 _ hx2).mono ?_
  rintro e w3 ⟨rfl, hb3⟩
  have XC5 : ∀ o, w3.cell? ⟨Bx, o, none⟩ = (#[Value.int .u64 (x2 : Int)] : Array Value)[o]? := fun o => (hb3.cell (p := ⟨Bx, o, none⟩) hXz4).trans (XC4 o)
  have HR4 := hide (HR3.out.below hb3)
  have k4 := hide (k3.out.trans (Only2.of_below hb3))
  have HSZ := hsz
  go_wp2
  go_ret
  exact ⟨rfl, k4.out, HR4.out, by (rw [HX2.out]; simpa using XC5 0)⟩

set_option maxRecDepth 100000 in
set_option maxHeartbeats 2000000 in
theorem num1_ok (g b off cap Br Bx : Nat) (ns : List Nat) (at_ : Nat) (w : World) (hR : RObj w g b off cap ns at_) (hB : ∀ o, w.cell? ⟨Br, o, none⟩ = (#[Value.pointer (some ⟨g, 0, none⟩)] : Array Value)[o]?) (hBz : Br < w.heap.size) (hXz : Bx < w.heap.size) (hX : ∀ o, w.cell? ⟨Bx, o, none⟩ = (#[Value.int .u64 0] : Array Value)[o]?) (hXf : ∀ o, w.frozen? ⟨Bx, o, none⟩ = false) (d1 : Br ≠ g) (d2 : Bx ≠ g) (d3 : Bx ≠ Br) (d4 : Bx ≠ b) (hn : at_ < ns.length) (hf : 247 < (ns.getD at_ 0)) (hc : at_ + 1 + ((ns.getD at_ 0) - 247) ≤ ns.length) (hs : (form (num ((ns.drop (at_ + 1)).take ((ns.getD at_ 0) - 247)))).length = 1 + ((ns.getD at_ 0) - 247)) : Calls Try.prog 71 #[.pointer (some ⟨Br, 0, none⟩), .pointer (some ⟨Bx, 0, none⟩)] w (fun e w' => e = .returned (.int .i64 0) ∧ Only2 g Bx w w' ∧ RObj w' g b off cap ns (at_ + 1 + ((ns.getD at_ 0) - 247)) ∧ w'.cell? ⟨Bx, 0, none⟩ = some (.int .u64 ((num ((ns.drop (at_ + 1)).take ((ns.getD at_ 0) - 247))) : Int))) := by
  have HS0 := hide hs
  clear hs
  have HR := hide hR
  have HX := hide hX
  have HXF := hide hXf
  clear hR hX hXf
  have hfl : (ns.getD at_ 0) < 256 := HR.out.2.2.2.2.2.2.1 _ (by (have e : ns.getD at_ 0 = ns[at_] := by simp [List.getD, hn]); rw [e]; exact List.getElem_mem hn)
  have HE := hide (rfl : ns.getD at_ 0 = ns.getD at_ 0)
  generalize hx : (ns.getD at_ 0) = f at *
  have Hx := hide hx
  clear hx HE
  have hf1 : (247 : Int) < (f : Int) := by omega
  have hf2 : ¬ (f : Int) ≤ 247 := by omega
  have hf3 : (f : Int) - 247 = ((f - 247 : Nat) : Int) := by omega
  have HF3 := hide hf3
  clear hf3
  go_enter Try.func71, Try.ntmps71
  go_wp2_with fail
  refine (next1_c g b off cap ns at_ _ HR.out hn).mono ?_
  rw [Hx.out]
  rintro e w1 ⟨rfl, ho1, hR1⟩
  have HR1 := hide hR1
  have k1 : Only2 g Bx w w1 := Only2.of_only ho1
  have XC : ∀ o, w1.cell? ⟨Bx, o, none⟩ = (#[Value.int .u64 0] : Array Value)[o]? := fun o => (World.cell?_of_block (ho1.block Bx hXz d2)).trans (HX.out o)
  have XF : ∀ o, w1.frozen? ⟨Bx, o, none⟩ = false := fun o => (World.frozen?_of_block (ho1.block Bx hXz d2)).trans (HXF.out o)
  have BC : ∀ o, w1.cell? ⟨Br, o, none⟩ = (#[Value.pointer (some ⟨g, 0, none⟩)] : Array Value)[o]? := fun o => (World.cell?_of_block (ho1.block Br hBz d1)).trans (hB o)
  have hXz1 : Bx < w1.heap.size := Nat.lt_of_lt_of_le hXz ho1.size
  have hBz1 : Br < w1.heap.size := Nat.lt_of_lt_of_le hBz ho1.size
  clear hR1 ho1 hB
  have k2 := hide (k1.set 0 (.int .u64 (f : Int)))
  have HR2 := hide (HR1.out.set d2 d4 0 (.int .u64 (f : Int)))
  go_wp2_with fail
  rw [HF3.out]
  have XC2 : ∀ o, (w1.setCell ⟨Bx, 0, none⟩ (.int .u64 (f : Int))).cell? ⟨Bx, o, none⟩ = (#[Value.int .u64 (f : Int)] : Array Value)[o]? := fun o => by rcases o with _ | o <;> simp [go_sem, XC]
  have XF2 : ∀ o, (w1.setCell ⟨Bx, 0, none⟩ (.int .u64 (f : Int))).frozen? ⟨Bx, o, none⟩ = false := fun o => by simp only [World.frozen?_setCell]; exact XF o
  have hXz2 : Bx < (w1.setCell ⟨Bx, 0, none⟩ (.int .u64 (f : Int))).heap.size := by simpa using hXz1
  refine (next_c g b off cap ns (at_ + 1) (f - 247) _ HR2.out (by omega) (by omega) (by omega)).mono ?_
  rintro e w2 ⟨rfl, ho2, hR3⟩
  have hx2 : num ((ns.drop (at_ + 1)).take (f - 247)) < 18446744073709551616 := by
    have q := num_lt (f - 247) ((ns.drop (at_ + 1)).take (f - 247)) (by rw [List.length_take, List.length_drop]; omega) (fun x hx => HR.out.2.2.2.2.2.2.1 x (List.mem_of_mem_drop (List.mem_of_mem_take hx)))
    have p : 256 ^ (f - 247) ≤ 256 ^ 8 := Nat.pow_le_pow_right (by decide) (by omega)
    have p8 : (256 : Nat) ^ 8 = 18446744073709551616 := by decide
    omega
  have HS := HS0
  clear HS0
  generalize hx2e : num ((ns.drop (at_ + 1)).take (f - 247)) = x2 at *
  have HX2 := hide hx2e
  clear hx2e
  have XC3 : ∀ o, w2.cell? ⟨Bx, o, none⟩ = (#[Value.int .u64 (f : Int)] : Array Value)[o]? := fun o => (World.cell?_of_block (ho2.block Bx hXz2 d2)).trans (XC2 o)
  have XF3 : ∀ o, w2.frozen? ⟨Bx, o, none⟩ = false := fun o => (World.frozen?_of_block (ho2.block Bx hXz2 d2)).trans (XF2 o)
  have HR3 := hide (hR3.set d2 d4 0 (.int .u64 (x2 : Int)))
  have k3 := hide ((k2.out.trans (Only2.of_only ho2)).set 0 (.int .u64 (x2 : Int)))
  have XC4 : ∀ o, (w2.setCell ⟨Bx, 0, none⟩ (.int .u64 (x2 : Int))).cell? ⟨Bx, o, none⟩ = (#[Value.int .u64 (x2 : Int)] : Array Value)[o]? := fun o => by rcases o with _ | o <;> simp [go_sem, XC3]
  have hXz4 : Bx < (w2.setCell ⟨Bx, 0, none⟩ (.int .u64 (x2 : Int))).heap.size := by (simp; exact Nat.lt_of_lt_of_le hXz2 ho2.size)
  have hsz : (((form x2).length : Int) == 1 + ((f - 247 : Nat) : Int)) = true := by (have q := HS.out; simp; omega)
  clear XC XF XC2 XF2 BC hR3 ho2
  go_wp2_with fail
  refine (Size_c x2 _ hx2).mono ?_
  rintro e w3 ⟨rfl, hb3⟩
  have XC5 : ∀ o, w3.cell? ⟨Bx, o, none⟩ = (#[Value.int .u64 (x2 : Int)] : Array Value)[o]? := fun o => (hb3.cell (p := ⟨Bx, o, none⟩) hXz4).trans (XC4 o)
  have HR4 := hide (HR3.out.below hb3)
  have k4 := hide (k3.out.trans (Only2.of_below hb3))
  have HSZ := hsz
  go_wp2
  go_ret
  exact ⟨rfl, k4.out, HR4.out, by (rw [HX2.out]; simpa using XC5 0)⟩
end Go.Proofs.Ytajkgecegefnmaa
