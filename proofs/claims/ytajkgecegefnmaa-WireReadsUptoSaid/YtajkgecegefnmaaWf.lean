import Derived.Test.YtajkgecegefnmaaWe
namespace Go.Proofs.Ytajkgecegefnmaa
open Go.ChangeShapes Go.WideShapes Go.ChangeAt Go.RowKit Go.Deep
set_option linter.unusedSimpArgs false
set_option linter.unusedVariables false

theorem only2_of {g h : Nat} {w wA w1 w2 : World} (hb : Below w.heap.size w wA) (h1 : Only g wA w1) (h2 : Only h w1 w2) : Only2 g h w w2 :=
  ⟨h2.os.trans (h1.os.trans hb.os), h2.tape.trans (h1.tape.trans hb.tape), h2.output.trans (h1.output.trans hb.output), Nat.le_trans hb.size (Nat.le_trans h1.size h2.size), fun i hi e1 e2 => (h2.block i (Nat.lt_of_lt_of_le hi (Nat.le_trans hb.size h1.size)) e2).trans ((h1.block i (Nat.lt_of_lt_of_le hi hb.size) e1).trans (hb.block i hi))⟩

set_option maxRecDepth 100000 in
set_option maxHeartbeats 4000000 in
theorem asks_1 (g B h cap : Nat) (ao : Option Addr) (ns : List Nat) (a : Nat) (nn : Int) (w : World) (hR : RAny w g B ns a) (hD : DObj w h ao cap ns a) (hgh : g ≠ h) (hBh : B ≤ h) (hao : ∀ ad, ao = some ad → ns ≠ [] → ad.block ≠ g) (hlen : ns.length ≤ 1099511627776) : Calls Try.prog 30 #[.pointer (some ⟨g, 0, none⟩), .pointer (some ⟨h, 0, none⟩), .agg #[.int .i64 1, .int .i64 nn]] w (fun e w' => ∃ a', e = .returned (.bool true) ∧ Only2 g h w w' ∧ RAny w' g B ns a' ∧ DObj w' h ao cap ns a') := by
  have hB0 : Below w.heap.size w (w.alloc (.cells #[.int .i64 1, .int .i64 nn] 67)) := by (focus repeat' (first | (with_reducible exact Below.refl _ _) | (with_reducible assumption) | (with_reducible refine Below.alloc ?_ ?_ _) | (with_reducible refine Below.drew ?_) | (with_reducible refine bdrewN ?_ _) | (with_reducible refine Below.setCell ?_ ?_ _) | (first | (with_reducible exact Nat.le_refl _) | (with_reducible assumption) | omega | (simp; omega) | (simp; done))))
  have HR0 := hide (hR.below hB0)
  have HD0 := hide (hD.below hB0)
  have HB0 := hide hB0
  have hhg : h ≠ g := fun e => hgh e.symm
  have hdl := hD.le
  have hg0 := hR.cells.1
  have hh0 := hD.lt
  have hbx1 : w.heap.size ≠ g := by omega
  have hbx2 : w.heap.size ≠ h := by omega
  clear hR hD hB0
  go_enter Try.func30, Try.ntmps30
  go_wp2_with fail
  refine (RNum_any g B ns a _ HR0.out).mono ?_
  rintro e w1 ⟨rfl, ho1, hR1⟩
  have HR1 := hide hR1
  have HD1 := hide (HD0.out.only' ho1 hhg hao)
  have HO1 := hide ho1
  have bx1 : ∀ o, w1.cell? ⟨w.heap.size, o, none⟩ = (#[Value.int .i64 1, Value.int .i64 nn] : Array Value)[o]? := fun o => (World.cell?_of_block (ho1.block w.heap.size (by simp) hbx1)).trans (by simp [go_sem])
  have bz1 : w.heap.size < w1.heap.size := Nat.lt_of_lt_of_le (by simp) ho1.size
  clear hR1 ho1 HR0 HD0
  go_wp2_with fail
  refine (dNum_c h cap ao ns a _ HD1.out).mono ?_
  rintro e w2 ⟨rfl, ho2, hD2⟩
  have HD2 := hide hD2
  have HR2 := hide (HR1.out.only ho2 hgh hBh)
  have HO2 := hide ho2
  have O2 := hide (only2_of HB0.out HO1.out HO2.out)
  have bx2 : ∀ o, w2.cell? ⟨w.heap.size, o, none⟩ = (#[Value.int .i64 1, Value.int .i64 nn] : Array Value)[o]? := fun o => (World.cell?_of_block (ho2.block w.heap.size bz1 hbx2)).trans (bx1 o)
  clear hD2 ho2 HD1 HR1 HB0 HO1 HO2 bx1
  go_wp2_with (go_at_call 23; go_in)
  go_ret
  exact ⟨_, rfl, O2.out, HR2.out, HD2.out⟩

set_option maxRecDepth 100000 in
set_option maxHeartbeats 4000000 in
theorem asks_2b (g B h cap : Nat) (ao : Option Addr) (ns : List Nat) (a : Nat) (nn : Int) (w : World) (hR : RAny w g B ns a) (hD : DObj w h ao cap ns a) (hgh : g ≠ h) (hBh : B ≤ h) (hao : ∀ ad, ao = some ad → ns ≠ [] → ad.block ≠ g) (hlen : ns.length ≤ 1099511627776) (hE : (rd ns a).2.1 ≠ 0) : Calls Try.prog 30 #[.pointer (some ⟨g, 0, none⟩), .pointer (some ⟨h, 0, none⟩), .agg #[.int .i64 2, .int .i64 nn]] w (fun e w' => ∃ a', e = .returned (.bool true) ∧ Only2 g h w w' ∧ RAny w' g B ns a' ∧ DObj w' h ao cap ns a') := by
  have hB0 : Below w.heap.size w (w.alloc (.cells #[.int .i64 2, .int .i64 nn] 67)) := by (focus repeat' (first | (with_reducible exact Below.refl _ _) | (with_reducible assumption) | (with_reducible refine Below.alloc ?_ ?_ _) | (with_reducible refine Below.drew ?_) | (with_reducible refine bdrewN ?_ _) | (with_reducible refine Below.setCell ?_ ?_ _) | (first | (with_reducible exact Nat.le_refl _) | (with_reducible assumption) | omega | (simp; omega) | (simp; done))))
  have HR0 := hide (hR.below hB0)
  have HD0 := hide (hD.below hB0)
  have HB0 := hide hB0
  have hhg : h ≠ g := fun e => hgh e.symm
  have hdl := hD.le
  have hg0 := hR.cells.1
  have hh0 := hD.lt
  have hbx1 : w.heap.size ≠ g := by omega
  have hbx2 : w.heap.size ≠ h := by omega
  clear hR hD hB0
  have hE2 : ¬ ((rd ns a).2.1 : Int) = 0 := by omega
  have hz := (rd_zero ns a hE).1
  go_enter Try.func30, Try.ntmps30
  go_wp2_with fail
  refine (RSigned_c g B ns a _ HR0.out).mono ?_
  rw [hz, show unf 0 = 0 from rfl]
  rintro e w1 ⟨rfl, ho1, hR1⟩
  have HR1 := hide hR1
  have HD1 := hide (HD0.out.only' ho1 hhg hao)
  have HO1 := hide ho1
  have bx1 : ∀ o, w1.cell? ⟨w.heap.size, o, none⟩ = (#[Value.int .i64 2, Value.int .i64 nn] : Array Value)[o]? := fun o => (World.cell?_of_block (ho1.block w.heap.size (by simp) hbx1)).trans (by simp [go_sem])
  have bz1 : w.heap.size < w1.heap.size := Nat.lt_of_lt_of_le (by simp) ho1.size
  clear hR1 ho1 HR0 HD0
  go_wp2_with fail
  refine (dNum_c h cap ao ns a _ HD1.out).mono ?_
  rintro e w2 ⟨rfl, ho2, hD2⟩
  have HD2 := hide hD2
  have HR2 := hide (HR1.out.only ho2 hgh hBh)
  have HO2 := hide ho2
  have O2 := hide (only2_of HB0.out HO1.out HO2.out)
  have bx2 : ∀ o, w2.cell? ⟨w.heap.size, o, none⟩ = (#[Value.int .i64 2, Value.int .i64 nn] : Array Value)[o]? := fun o => (World.cell?_of_block (ho2.block w.heap.size bz1 hbx2)).trans (bx1 o)
  clear hD2 ho2 HD1 HR1 HB0 HO1 HO2 bx1
  go_wp2_with (go_at_call 23; go_in)
  go_ret
  exact ⟨_, rfl, O2.out, HR2.out, HD2.out⟩

set_option maxRecDepth 100000 in
set_option maxHeartbeats 4000000 in
theorem asks_2a (g B h cap : Nat) (ao : Option Addr) (ns : List Nat) (a : Nat) (nn : Int) (w : World) (hR : RAny w g B ns a) (hD : DObj w h ao cap ns a) (hgh : g ≠ h) (hBh : B ≤ h) (hao : ∀ ad, ao = some ad → ns ≠ [] → ad.block ≠ g) (hlen : ns.length ≤ 1099511627776) (hE : (rd ns a).2.1 = 0) : Calls Try.prog 30 #[.pointer (some ⟨g, 0, none⟩), .pointer (some ⟨h, 0, none⟩), .agg #[.int .i64 2, .int .i64 nn]] w (fun e w' => ∃ a', e = .returned (.bool true) ∧ Only2 g h w w' ∧ RAny w' g B ns a' ∧ DObj w' h ao cap ns a') := by
  have hB0 : Below w.heap.size w (w.alloc (.cells #[.int .i64 2, .int .i64 nn] 67)) := by (focus repeat' (first | (with_reducible exact Below.refl _ _) | (with_reducible assumption) | (with_reducible refine Below.alloc ?_ ?_ _) | (with_reducible refine Below.drew ?_) | (with_reducible refine bdrewN ?_ _) | (with_reducible refine Below.setCell ?_ ?_ _) | (first | (with_reducible exact Nat.le_refl _) | (with_reducible assumption) | omega | (simp; omega) | (simp; done))))
  have HR0 := hide (hR.below hB0)
  have HD0 := hide (hD.below hB0)
  have HB0 := hide hB0
  have hhg : h ≠ g := fun e => hgh e.symm
  have hdl := hD.le
  have hg0 := hR.cells.1
  have hh0 := hD.lt
  have hbx1 : w.heap.size ≠ g := by omega
  have hbx2 : w.heap.size ≠ h := by omega
  clear hR hD hB0
  have hlt := rd_lt ns a HD0.out.small
  go_enter Try.func30, Try.ntmps30
  go_wp2_with fail
  refine (RSigned_c g B ns a _ HR0.out).mono ?_
  rw [hE]
  rintro e w1 ⟨rfl, ho1, hR1⟩
  have HR1 := hide hR1
  have HD1 := hide (HD0.out.only' ho1 hhg hao)
  have HO1 := hide ho1
  have bx1 : ∀ o, w1.cell? ⟨w.heap.size, o, none⟩ = (#[Value.int .i64 2, Value.int .i64 nn] : Array Value)[o]? := fun o => (World.cell?_of_block (ho1.block w.heap.size (by simp) hbx1)).trans (by simp [go_sem])
  have bz1 : w.heap.size < w1.heap.size := Nat.lt_of_lt_of_le (by simp) ho1.size
  clear hR1 ho1 HR0 HD0
  go_wp2_with fail
  refine (dNum_c h cap ao ns a _ HD1.out).mono ?_
  rw [hE]
  rintro e w2 ⟨rfl, ho2, hD2⟩
  have HD2 := hide hD2
  have HR2 := hide (HR1.out.only ho2 hgh hBh)
  have HO2 := hide ho2
  have O2 := hide (only2_of HB0.out HO1.out HO2.out)
  have bx2 : ∀ o, w2.cell? ⟨w.heap.size, o, none⟩ = (#[Value.int .i64 2, Value.int .i64 nn] : Array Value)[o]? := fun o => (World.cell?_of_block (ho2.block w.heap.size bz1 hbx2)).trans (bx1 o)
  clear hD2 ho2 HD1 HR1 HB0 HO1 HO2 bx1
  go_wp2_with fail
  refine (refUnfold_c _ _ hlt).mono ?_
  rintro e w3 ⟨rfl, hb3⟩
  have HD3 := hide (HD2.out.below hb3)
  have HR3 := hide (HR2.out.below hb3)
  have O3 := hide (O2.out.trans (Only2.of_below hb3))
  clear hb3 HD2 HR2 O2 bx2
  go_wp2_with (go_at_call 23; go_in)
  go_ret
  exact ⟨_, rfl, O3.out, HR3.out, HD3.out⟩

set_option maxRecDepth 100000 in
set_option maxHeartbeats 4000000 in
theorem asks_3 (g B h cap : Nat) (ao : Option Addr) (ns : List Nat) (a : Nat) (nn : Int) (w : World) (hR : RAny w g B ns a) (hD : DObj w h ao cap ns a) (hgh : g ≠ h) (hBh : B ≤ h) (hao : ∀ ad, ao = some ad → ns ≠ [] → ad.block ≠ g) (hlen : ns.length ≤ 1099511627776) : Calls Try.prog 30 #[.pointer (some ⟨g, 0, none⟩), .pointer (some ⟨h, 0, none⟩), .agg #[.int .i64 3, .int .i64 nn]] w (fun e w' => ∃ a', e = .returned (.bool true) ∧ Only2 g h w w' ∧ RAny w' g B ns a' ∧ DObj w' h ao cap ns a') := by
  have hB0 : Below w.heap.size w (w.alloc (.cells #[.int .i64 3, .int .i64 nn] 67)) := by (focus repeat' (first | (with_reducible exact Below.refl _ _) | (with_reducible assumption) | (with_reducible refine Below.alloc ?_ ?_ _) | (with_reducible refine Below.drew ?_) | (with_reducible refine bdrewN ?_ _) | (with_reducible refine Below.setCell ?_ ?_ _) | (first | (with_reducible exact Nat.le_refl _) | (with_reducible assumption) | omega | (simp; omega) | (simp; done))))
  have HR0 := hide (hR.below hB0)
  have HD0 := hide (hD.below hB0)
  have HB0 := hide hB0
  have hhg : h ≠ g := fun e => hgh e.symm
  have hdl := hD.le
  have hg0 := hR.cells.1
  have hh0 := hD.lt
  have hbx1 : w.heap.size ≠ g := by omega
  have hbx2 : w.heap.size ≠ h := by omega
  clear hR hD hB0
  go_enter Try.func30, Try.ntmps30
  go_wp2_with fail
  refine (RFlag_c g B ns a _ HR0.out).mono ?_
  rintro e w1 ⟨rfl, ho1, hR1⟩
  have HR1 := hide hR1
  have HD1 := hide (HD0.out.only' ho1 hhg hao)
  have HO1 := hide ho1
  have bx1 : ∀ o, w1.cell? ⟨w.heap.size, o, none⟩ = (#[Value.int .i64 3, Value.int .i64 nn] : Array Value)[o]? := fun o => (World.cell?_of_block (ho1.block w.heap.size (by simp) hbx1)).trans (by simp [go_sem])
  have bz1 : w.heap.size < w1.heap.size := Nat.lt_of_lt_of_le (by simp) ho1.size
  clear hR1 ho1 HR0 HD0
  go_wp2_with fail
  refine (dFlag_c h cap ao ns a _ HD1.out).mono ?_
  rintro e w2 ⟨rfl, ho2, hD2⟩
  have HD2 := hide hD2
  have HR2 := hide (HR1.out.only ho2 hgh hBh)
  have HO2 := hide ho2
  have O2 := hide (only2_of HB0.out HO1.out HO2.out)
  have bx2 : ∀ o, w2.cell? ⟨w.heap.size, o, none⟩ = (#[Value.int .i64 3, Value.int .i64 nn] : Array Value)[o]? := fun o => (World.cell?_of_block (ho2.block w.heap.size bz1 hbx2)).trans (bx1 o)
  clear hD2 ho2 HD1 HR1 HB0 HO1 HO2 bx1
  go_wp2_with (go_at_call 23; go_in)
  go_ret
  exact ⟨_, rfl, O2.out, HR2.out, HD2.out⟩

set_option maxRecDepth 100000 in
set_option maxHeartbeats 4000000 in
theorem asks_4 (g B h cap : Nat) (ao : Option Addr) (ns : List Nat) (a : Nat) (nn : Int) (w : World) (hR : RAny w g B ns a) (hD : DObj w h ao cap ns a) (hgh : g ≠ h) (hBh : B ≤ h) (hao : ∀ ad, ao = some ad → ns ≠ [] → ad.block ≠ g) (hlen : ns.length ≤ 1099511627776) : Calls Try.prog 30 #[.pointer (some ⟨g, 0, none⟩), .pointer (some ⟨h, 0, none⟩), .agg #[.int .i64 4, .int .i64 nn]] w (fun e w' => ∃ a', e = .returned (.bool true) ∧ Only2 g h w w' ∧ RAny w' g B ns a' ∧ DObj w' h ao cap ns a') := by
  have hB0 : Below w.heap.size w (w.alloc (.cells #[.int .i64 4, .int .i64 nn] 67)) := by (focus repeat' (first | (with_reducible exact Below.refl _ _) | (with_reducible assumption) | (with_reducible refine Below.alloc ?_ ?_ _) | (with_reducible refine Below.drew ?_) | (with_reducible refine bdrewN ?_ _) | (with_reducible refine Below.setCell ?_ ?_ _) | (first | (with_reducible exact Nat.le_refl _) | (with_reducible assumption) | omega | (simp; omega) | (simp; done))))
  have HR0 := hide (hR.below hB0)
  have HD0 := hide (hD.below hB0)
  have HB0 := hide hB0
  have hhg : h ≠ g := fun e => hgh e.symm
  have hdl := hD.le
  have hg0 := hR.cells.1
  have hh0 := hD.lt
  have hbx1 : w.heap.size ≠ g := by omega
  have hbx2 : w.heap.size ≠ h := by omega
  clear hR hD hB0
  go_enter Try.func30, Try.ntmps30
  go_wp2_with fail
  refine (RReal_c g B ns a _ HR0.out).mono ?_
  rintro e w1 ⟨rfl, ho1, hR1⟩
  have HR1 := hide hR1
  have HD1 := hide (HD0.out.only' ho1 hhg hao)
  have HO1 := hide ho1
  have bx1 : ∀ o, w1.cell? ⟨w.heap.size, o, none⟩ = (#[Value.int .i64 4, Value.int .i64 nn] : Array Value)[o]? := fun o => (World.cell?_of_block (ho1.block w.heap.size (by simp) hbx1)).trans (by simp [go_sem])
  have bz1 : w.heap.size < w1.heap.size := Nat.lt_of_lt_of_le (by simp) ho1.size
  clear hR1 ho1 HR0 HD0
  go_wp2_with fail
  refine (dReal_c h cap ao ns a _ HD1.out).mono ?_
  rintro e w2 ⟨rfl, ho2, hD2⟩
  have HD2 := hide hD2
  have HR2 := hide (HR1.out.only ho2 hgh hBh)
  have HO2 := hide ho2
  have O2 := hide (only2_of HB0.out HO1.out HO2.out)
  have bx2 : ∀ o, w2.cell? ⟨w.heap.size, o, none⟩ = (#[Value.int .i64 4, Value.int .i64 nn] : Array Value)[o]? := fun o => (World.cell?_of_block (ho2.block w.heap.size bz1 hbx2)).trans (bx1 o)
  clear hD2 ho2 HD1 HR1 HB0 HO1 HO2 bx1
  go_wp2_with fail
  rw [run63]
  go_wp2_with (go_at_call 23; go_in)
  go_ret
  exact ⟨_, rfl, O2.out, HR2.out, HD2.out⟩

set_option maxRecDepth 100000 in
set_option maxHeartbeats 4000000 in
theorem asks_5n (g B h cap : Nat) (ao : Option Addr) (ns : List Nat) (a : Nat) (nn : Int) (w : World) (hR : RAny w g B ns a) (hD : DObj w h ao cap ns a) (hgh : g ≠ h) (hBh : B ≤ h) (hao : ∀ ad, ao = some ad → ns ≠ [] → ad.block ≠ g) (hlen : ns.length ≤ 1099511627776) (hm : nn < 0) : Calls Try.prog 30 #[.pointer (some ⟨g, 0, none⟩), .pointer (some ⟨h, 0, none⟩), .agg #[.int .i64 5, .int .i64 nn]] w (fun e w' => ∃ a', e = .returned (.bool true) ∧ Only2 g h w w' ∧ RAny w' g B ns a' ∧ DObj w' h ao cap ns a') := by
  have hB0 : Below w.heap.size w (w.alloc (.cells #[.int .i64 5, .int .i64 nn] 67)) := by (focus repeat' (first | (with_reducible exact Below.refl _ _) | (with_reducible assumption) | (with_reducible refine Below.alloc ?_ ?_ _) | (with_reducible refine Below.drew ?_) | (with_reducible refine bdrewN ?_ _) | (with_reducible refine Below.setCell ?_ ?_ _) | (first | (with_reducible exact Nat.le_refl _) | (with_reducible assumption) | omega | (simp; omega) | (simp; done))))
  have HR0 := hide (hR.below hB0)
  have HD0 := hide (hD.below hB0)
  have HB0 := hide hB0
  have hhg : h ≠ g := fun e => hgh e.symm
  have hdl := hD.le
  have hg0 := hR.cells.1
  have hh0 := hD.lt
  have hbx1 : w.heap.size ≠ g := by omega
  have hbx2 : w.heap.size ≠ h := by omega
  clear hR hD hB0
  go_enter Try.func30, Try.ntmps30
  go_wp2_with fail
  refine (RText_neg g B ns a nn _ HR0.out  hm).mono ?_
  rintro e w1 ⟨rfl, ho1, hR1⟩
  have HR1 := hide hR1
  have HD1 := hide (HD0.out.only' ho1 hhg hao)
  have HO1 := hide ho1
  have bx1 : ∀ o, w1.cell? ⟨w.heap.size, o, none⟩ = (#[Value.int .i64 5, Value.int .i64 nn] : Array Value)[o]? := fun o => (World.cell?_of_block (ho1.block w.heap.size (by simp) hbx1)).trans (by simp [go_sem])
  have bz1 : w.heap.size < w1.heap.size := Nat.lt_of_lt_of_le (by simp) ho1.size
  clear hR1 ho1 HR0 HD0
  go_wp2_with fail
  refine (dText_neg h cap ao ns a nn _ HD1.out hm).mono ?_
  rintro e w2 ⟨rfl, ho2, hD2⟩
  have HD2 := hide hD2
  have HR2 := hide (HR1.out.only ho2 hgh hBh)
  have HO2 := hide ho2
  have O2 := hide (only2_of HB0.out HO1.out HO2.out)
  have bx2 : ∀ o, w2.cell? ⟨w.heap.size, o, none⟩ = (#[Value.int .i64 5, Value.int .i64 nn] : Array Value)[o]? := fun o => (World.cell?_of_block (ho2.block w.heap.size bz1 hbx2)).trans (bx1 o)
  clear hD2 ho2 HD1 HR1 HB0 HO1 HO2 bx1
  go_wp2_with (go_at_call 23; go_in)
  go_ret
  exact ⟨_, rfl, O2.out, HR2.out, HD2.out⟩

set_option maxRecDepth 100000 in
set_option maxHeartbeats 4000000 in
theorem asks_5 (g B h cap : Nat) (ao : Option Addr) (ns : List Nat) (a : Nat) (nn : Int) (k : Nat) (w : World) (hR : RAny w g B ns a) (hD : DObj w h ao cap ns a) (hgh : g ≠ h) (hBh : B ≤ h) (hao : ∀ ad, ao = some ad → ns ≠ [] → ad.block ≠ g) (hlen : ns.length ≤ 1099511627776) (hk : k ≤ 9223372036854775807) : Calls Try.prog 30 #[.pointer (some ⟨g, 0, none⟩), .pointer (some ⟨h, 0, none⟩), .agg #[.int .i64 5, .int .i64 (k : Int)]] w (fun e w' => ∃ a', e = .returned (.bool true) ∧ Only2 g h w w' ∧ RAny w' g B ns a' ∧ DObj w' h ao cap ns a') := by
  have hB0 : Below w.heap.size w (w.alloc (.cells #[.int .i64 5, .int .i64 (k : Int)] 67)) := by (focus repeat' (first | (with_reducible exact Below.refl _ _) | (with_reducible assumption) | (with_reducible refine Below.alloc ?_ ?_ _) | (with_reducible refine Below.drew ?_) | (with_reducible refine bdrewN ?_ _) | (with_reducible refine Below.setCell ?_ ?_ _) | (first | (with_reducible exact Nat.le_refl _) | (with_reducible assumption) | omega | (simp; omega) | (simp; done))))
  have HR0 := hide (hR.below hB0)
  have HD0 := hide (hD.below hB0)
  have HB0 := hide hB0
  have hhg : h ≠ g := fun e => hgh e.symm
  have hdl := hD.le
  have hg0 := hR.cells.1
  have hh0 := hD.lt
  have hbx1 : w.heap.size ≠ g := by omega
  have hbx2 : w.heap.size ≠ h := by omega
  clear hR hD hB0
  go_enter Try.func30, Try.ntmps30
  go_wp2_with fail
  refine (RText_c g B ns a k _ HR0.out hk).mono ?_
  rintro e w1 ⟨rfl, ho1, hR1⟩
  have HR1 := hide hR1
  have HD1 := hide (HD0.out.only' ho1 hhg hao)
  have HO1 := hide ho1
  have bx1 : ∀ o, w1.cell? ⟨w.heap.size, o, none⟩ = (#[Value.int .i64 5, Value.int .i64 (k : Int)] : Array Value)[o]? := fun o => (World.cell?_of_block (ho1.block w.heap.size (by simp) hbx1)).trans (by simp [go_sem])
  have bz1 : w.heap.size < w1.heap.size := Nat.lt_of_lt_of_le (by simp) ho1.size
  clear hR1 ho1 HR0 HD0
  go_wp2_with fail
  refine (dText_c h cap ao ns a k _ HD1.out hk).mono ?_
  rintro e w2 ⟨rfl, ho2, hD2⟩
  have HD2 := hide hD2
  have HR2 := hide (HR1.out.only ho2 hgh hBh)
  have HO2 := hide ho2
  have O2 := hide (only2_of HB0.out HO1.out HO2.out)
  have bx2 : ∀ o, w2.cell? ⟨w.heap.size, o, none⟩ = (#[Value.int .i64 5, Value.int .i64 (k : Int)] : Array Value)[o]? := fun o => (World.cell?_of_block (ho2.block w.heap.size bz1 hbx2)).trans (bx1 o)
  clear hD2 ho2 HD1 HR1 HB0 HO1 HO2 bx1
  go_wp2_with (go_at_call 23; go_in)
  go_ret
  exact ⟨_, rfl, O2.out, HR2.out, HD2.out⟩
end Go.Proofs.Ytajkgecegefnmaa
