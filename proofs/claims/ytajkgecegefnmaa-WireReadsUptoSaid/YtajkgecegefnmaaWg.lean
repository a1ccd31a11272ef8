import Derived.Test.YtajkgecegefnmaaWf
namespace Go.Proofs.Ytajkgecegefnmaa
open Go.ChangeShapes Go.WideShapes Go.ChangeAt Go.RowKit Go.Deep
set_option linter.unusedSimpArgs false
set_option linter.unusedVariables false

theorem tk_len (R : Nat → Value × Nat × Nat) : ∀ k a, (tk R k a).1.length ≤ k
  | 0, a => Nat.le_refl _
  | k + 1, a => by
    by_cases h : (R a).2.1 = 0
    · rw [tk_ok _ _ _ h, List.length_cons]; have := tk_len R k (R a).2.2; omega
    · rw [tk, if_pos h]; simp
theorem tl_len (R : Nat → Value × Nat × Nat) (ns : List Nat) (a m : Nat) : (tl R ns a m).1.length ≤ ns.length := by
  unfold tl
  split
  · exact Nat.zero_le _
  · rename_i h
    split
    · exact Nat.zero_le _
    · have h0 : (lg ns a m).2.1 = 0 := by omega
      have q := lg_ok ns a m h0
      have q2 := tk_len R (lg ns a m).1 (lg ns a m).2.2
      have q3 : (lg ns a m).1 = (rd ns a).1 := by rw [q.2.2.2]
      omega

set_option maxRecDepth 100000 in
set_option maxHeartbeats 4000000 in
theorem asks_6n (g B h cap : Nat) (ao : Option Addr) (ns : List Nat) (a : Nat) (nn : Int) (w : World) (hR : RAny w g B ns a) (hD : DObj w h ao cap ns a) (hgh : g ≠ h) (hBh : B ≤ h) (hao : ∀ ad, ao = some ad → ns ≠ [] → ad.block ≠ g) (hlen : ns.length ≤ 1099511627776) (hm : nn < 0) : Calls Try.prog 30 #[.pointer (some ⟨g, 0, none⟩), .pointer (some ⟨h, 0, none⟩), .agg #[.int .i64 6, .int .i64 nn]] w (fun e w' => ∃ a', e = .returned (.bool true) ∧ Only2 g h w w' ∧ RAny w' g B ns a' ∧ DObj w' h ao cap ns a') := by
  have hB0 : Below w.heap.size w (w.alloc (.cells #[.int .i64 6, .int .i64 nn] 67)) := by (focus repeat' (first | (with_reducible exact Below.refl _ _) | (with_reducible assumption) | (with_reducible refine Below.alloc ?_ ?_ _) | (with_reducible refine Below.drew ?_) | (with_reducible refine bdrewN ?_ _) | (with_reducible refine Below.setCell ?_ ?_ _) | (first | (with_reducible exact Nat.le_refl _) | (with_reducible assumption) | omega | (simp; omega) | (simp; done))))
  have HR0 := hide (hR.below hB0)
  have HD0 := hide (hD.below hB0)
  have HB0 := hide hB0
  have hhg : h ≠ g := fun e => hgh e.symm
  have hdl := hD.le
  have hg0 := hR.cells.1
  have hh0 := hD.lt
  have hbx1 : w.heap.size ≠ g := by omega
  have hbx2 : w.heap.size ≠ h := by omega
  clear hR hD hB0
  go_enter Try.func30, Try.ntmps30
  go_wp2_with fail
  refine (Take_U_neg g B ns a nn _ HR0.out hm).mono ?_
  rintro e w1 ⟨v1, rfl, ho1, hR1, own1⟩
  have HR1 := hide hR1
  have HD1 := hide (HD0.out.only' ho1 hhg hao)
  have HO1 := hide ho1
  have bx1 : ∀ o, w1.cell? ⟨w.heap.size, o, none⟩ = (#[Value.int .i64 6, Value.int .i64 nn] : Array Value)[o]? := fun o => (World.cell?_of_block (ho1.block w.heap.size (by simp) hbx1)).trans (by simp [go_sem])
  have bz1 : w.heap.size < w1.heap.size := Nat.lt_of_lt_of_le (by simp) ho1.size
  clear hR1 ho1 HR0 HD0
  go_wp2_with fail
  refine (dN_U_neg h cap ao ns a nn _ HD1.out hm).mono ?_
  rintro e w2 ⟨v2, rfl, ho2, hD2, own2⟩
  have OWA := hide (own_only own1 ho2 (Nat.lt_of_lt_of_le hh0 (by simp)))
  have OWB := hide own2
  clear own1 own2
  have HD2 := hide hD2
  have HR2 := hide (HR1.out.only ho2 hgh hBh)
  have HO2 := hide ho2
  have O2 := hide (only2_of HB0.out HO1.out HO2.out)
  have bx2 : ∀ o, w2.cell? ⟨w.heap.size, o, none⟩ = (#[Value.int .i64 6, Value.int .i64 nn] : Array Value)[o]? := fun o => (World.cell?_of_block (ho2.block w.heap.size bz1 hbx2)).trans (bx1 o)
  clear hD2 ho2 HD1 HR1 HB0 HO1 HO2 bx1
  go_wp2_with fail
  refine (Same_c v1 v2 _ _ [] _ OWA.out OWB.out (fun x hx => by cases hx) (by simp)).mono ?_
  rintro e w3 ⟨rfl, hb3⟩
  have HD3 := hide (HD2.out.below hb3)
  have HR3 := hide (HR2.out.below hb3)
  have O3 := hide (O2.out.trans (Only2.of_below hb3))
  clear hb3 HD2 HR2 O2 bx2
  go_wp2_with (go_at_call 23; go_in)
  go_ret
  exact ⟨_, rfl, O3.out, HR3.out, HD3.out⟩

set_option maxRecDepth 100000 in
set_option maxHeartbeats 4000000 in
theorem asks_6 (g B h cap : Nat) (ao : Option Addr) (ns : List Nat) (a : Nat) (nn : Int) (k : Nat) (w : World) (hR : RAny w g B ns a) (hD : DObj w h ao cap ns a) (hgh : g ≠ h) (hBh : B ≤ h) (hao : ∀ ad, ao = some ad → ns ≠ [] → ad.block ≠ g) (hlen : ns.length ≤ 1099511627776) (hk : k ≤ 9223372036854775807) : Calls Try.prog 30 #[.pointer (some ⟨g, 0, none⟩), .pointer (some ⟨h, 0, none⟩), .agg #[.int .i64 6, .int .i64 (k : Int)]] w (fun e w' => ∃ a', e = .returned (.bool true) ∧ Only2 g h w w' ∧ RAny w' g B ns a' ∧ DObj w' h ao cap ns a') := by
  have hB0 : Below w.heap.size w (w.alloc (.cells #[.int .i64 6, .int .i64 (k : Int)] 67)) := by (focus repeat' (first | (with_reducible exact Below.refl _ _) | (with_reducible assumption) | (with_reducible refine Below.alloc ?_ ?_ _) | (with_reducible refine Below.drew ?_) | (with_reducible refine bdrewN ?_ _) | (with_reducible refine Below.setCell ?_ ?_ _) | (first | (with_reducible exact Nat.le_refl _) | (with_reducible assumption) | omega | (simp; omega) | (simp; done))))
  have HR0 := hide (hR.below hB0)
  have HD0 := hide (hD.below hB0)
  have HB0 := hide hB0
  have hhg : h ≠ g := fun e => hgh e.symm
  have hdl := hD.le
  have hg0 := hR.cells.1
  have hh0 := hD.lt
  have hbx1 : w.heap.size ≠ g := by omega
  have hbx2 : w.heap.size ≠ h := by omega
  clear hR hD hB0
  go_enter Try.func30, Try.ntmps30
  go_wp2_with fail
  refine (Take_U_c g B ns a k _ HR0.out hk hlen).mono ?_
  rintro e w1 ⟨v1, rfl, ho1, hR1, own1⟩
  have HR1 := hide hR1
  have HD1 := hide (HD0.out.only' ho1 hhg hao)
  have HO1 := hide ho1
  have bx1 : ∀ o, w1.cell? ⟨w.heap.size, o, none⟩ = (#[Value.int .i64 6, Value.int .i64 (k : Int)] : Array Value)[o]? := fun o => (World.cell?_of_block (ho1.block w.heap.size (by simp) hbx1)).trans (by simp [go_sem])
  have bz1 : w.heap.size < w1.heap.size := Nat.lt_of_lt_of_le (by simp) ho1.size
  clear hR1 ho1 HR0 HD0
  go_wp2_with fail
  refine (dN_U_c h cap ao ns a k _ HD1.out hk hlen).mono ?_
  rintro e w2 ⟨v2, rfl, ho2, hD2, own2⟩
  have OWA := hide (own_only own1 ho2 (Nat.lt_of_lt_of_le hh0 (by simp)))
  have OWB := hide own2
  clear own1 own2
  have HD2 := hide hD2
  have HR2 := hide (HR1.out.only ho2 hgh hBh)
  have HO2 := hide ho2
  have O2 := hide (only2_of HB0.out HO1.out HO2.out)
  have bx2 : ∀ o, w2.cell? ⟨w.heap.size, o, none⟩ = (#[Value.int .i64 6, Value.int .i64 (k : Int)] : Array Value)[o]? := fun o => (World.cell?_of_block (ho2.block w.heap.size bz1 hbx2)).trans (bx1 o)
  clear hD2 ho2 HD1 HR1 HB0 HO1 HO2 bx1
  go_wp2_with fail
  refine (Same_c v1 v2 _ _ (tl (RU ns) ns a k).1 _ OWA.out OWB.out (tl_ints ns a k) (Nat.le_trans (tl_len _ _ _ _) hlen)).mono ?_
  rintro e w3 ⟨rfl, hb3⟩
  have HD3 := hide (HD2.out.below hb3)
  have HR3 := hide (HR2.out.below hb3)
  have O3 := hide (O2.out.trans (Only2.of_below hb3))
  clear hb3 HD2 HR2 O2 bx2
  go_wp2_with (go_at_call 23; go_in)
  go_ret
  exact ⟨_, rfl, O3.out, HR3.out, HD3.out⟩

set_option maxRecDepth 100000 in
set_option maxHeartbeats 4000000 in
theorem asks_7n (g B h cap : Nat) (ao : Option Addr) (ns : List Nat) (a : Nat) (nn : Int) (w : World) (hR : RAny w g B ns a) (hD : DObj w h ao cap ns a) (hgh : g ≠ h) (hBh : B ≤ h) (hao : ∀ ad, ao = some ad → ns ≠ [] → ad.block ≠ g) (hlen : ns.length ≤ 1099511627776) (hm : nn < 0) : Calls Try.prog 30 #[.pointer (some ⟨g, 0, none⟩), .pointer (some ⟨h, 0, none⟩), .agg #[.int .i64 7, .int .i64 nn]] w (fun e w' => ∃ a', e = .returned (.bool true) ∧ Only2 g h w w' ∧ RAny w' g B ns a' ∧ DObj w' h ao cap ns a') := by
  have hB0 : Below w.heap.size w (w.alloc (.cells #[.int .i64 7, .int .i64 nn] 67)) := by (focus repeat' (first | (with_reducible exact Below.refl _ _) | (with_reducible assumption) | (with_reducible refine Below.alloc ?_ ?_ _) | (with_reducible refine Below.drew ?_) | (with_reducible refine bdrewN ?_ _) | (with_reducible refine Below.setCell ?_ ?_ _) | (first | (with_reducible exact Nat.le_refl _) | (with_reducible assumption) | omega | (simp; omega) | (simp; done))))
  have HR0 := hide (hR.below hB0)
  have HD0 := hide (hD.below hB0)
  have HB0 := hide hB0
  have hhg : h ≠ g := fun e => hgh e.symm
  have hdl := hD.le
  have hg0 := hR.cells.1
  have hh0 := hD.lt
  have hbx1 : w.heap.size ≠ g := by omega
  have hbx2 : w.heap.size ≠ h := by omega
  clear hR hD hB0
  go_enter Try.func30, Try.ntmps30
  go_wp2_with fail
  refine (Take_S_neg g B ns a nn _ HR0.out hm).mono ?_
  rintro e w1 ⟨v1, rfl, ho1, hR1, own1⟩
  have HR1 := hide hR1
  have HD1 := hide (HD0.out.only' ho1 hhg hao)
  have HO1 := hide ho1
  have bx1 : ∀ o, w1.cell? ⟨w.heap.size, o, none⟩ = (#[Value.int .i64 7, Value.int .i64 nn] : Array Value)[o]? := fun o => (World.cell?_of_block (ho1.block w.heap.size (by simp) hbx1)).trans (by simp [go_sem])
  have bz1 : w.heap.size < w1.heap.size := Nat.lt_of_lt_of_le (by simp) ho1.size
  clear hR1 ho1 HR0 HD0
  go_wp2_with fail
  refine (dN_S_neg h cap ao ns a nn _ HD1.out hm).mono ?_
  rintro e w2 ⟨v2, rfl, ho2, hD2, own2⟩
  have OWA := hide (own_only own1 ho2 (Nat.lt_of_lt_of_le hh0 (by simp)))
  have OWB := hide own2
  clear own1 own2
  have HD2 := hide hD2
  have HR2 := hide (HR1.out.only ho2 hgh hBh)
  have HO2 := hide ho2
  have O2 := hide (only2_of HB0.out HO1.out HO2.out)
  have bx2 : ∀ o, w2.cell? ⟨w.heap.size, o, none⟩ = (#[Value.int .i64 7, Value.int .i64 nn] : Array Value)[o]? := fun o => (World.cell?_of_block (ho2.block w.heap.size bz1 hbx2)).trans (bx1 o)
  clear hD2 ho2 HD1 HR1 HB0 HO1 HO2 bx1
  go_wp2_with fail
  refine (SameTexts_c v1 v2 _ _ [] _ OWA.out OWB.out (fun x hx => by cases hx) (by simp)).mono ?_
  rintro e w3 ⟨rfl, hb3⟩
  have HD3 := hide (HD2.out.below hb3)
  have HR3 := hide (HR2.out.below hb3)
  have O3 := hide (O2.out.trans (Only2.of_below hb3))
  clear hb3 HD2 HR2 O2 bx2
  go_wp2_with (go_at_call 23; go_in)
  go_ret
  exact ⟨_, rfl, O3.out, HR3.out, HD3.out⟩

set_option maxRecDepth 100000 in
set_option maxHeartbeats 4000000 in
theorem asks_7 (g B h cap : Nat) (ao : Option Addr) (ns : List Nat) (a : Nat) (nn : Int) (k : Nat) (w : World) (hR : RAny w g B ns a) (hD : DObj w h ao cap ns a) (hgh : g ≠ h) (hBh : B ≤ h) (hao : ∀ ad, ao = some ad → ns ≠ [] → ad.block ≠ g) (hlen : ns.length ≤ 1099511627776) (hk : k ≤ 9223372036854775807) : Calls Try.prog 30 #[.pointer (some ⟨g, 0, none⟩), .pointer (some ⟨h, 0, none⟩), .agg #[.int .i64 7, .int .i64 (k : Int)]] w (fun e w' => ∃ a', e = .returned (.bool true) ∧ Only2 g h w w' ∧ RAny w' g B ns a' ∧ DObj w' h ao cap ns a') := by
  have hB0 : Below w.heap.size w (w.alloc (.cells #[.int .i64 7, .int .i64 (k : Int)] 67)) := by (focus repeat' (first | (with_reducible exact Below.refl _ _) | (with_reducible assumption) | (with_reducible refine Below.alloc ?_ ?_ _) | (with_reducible refine Below.drew ?_) | (with_reducible refine bdrewN ?_ _) | (with_reducible refine Below.setCell ?_ ?_ _) | (first | (with_reducible exact Nat.le_refl _) | (with_reducible assumption) | omega | (simp; omega) | (simp; done))))
  have HR0 := hide (hR.below hB0)
  have HD0 := hide (hD.below hB0)
  have HB0 := hide hB0
  have hhg : h ≠ g := fun e => hgh e.symm
  have hdl := hD.le
  have hg0 := hR.cells.1
  have hh0 := hD.lt
  have hbx1 : w.heap.size ≠ g := by omega
  have hbx2 : w.heap.size ≠ h := by omega
  clear hR hD hB0
  go_enter Try.func30, Try.ntmps30
  go_wp2_with fail
  refine (Take_S_c g B ns a k _ HR0.out hk hlen).mono ?_
  rintro e w1 ⟨v1, rfl, ho1, hR1, own1⟩
  have HR1 := hide hR1
  have HD1 := hide (HD0.out.only' ho1 hhg hao)
  have HO1 := hide ho1
  have bx1 : ∀ o, w1.cell? ⟨w.heap.size, o, none⟩ = (#[Value.int .i64 7, Value.int .i64 (k : Int)] : Array Value)[o]? := fun o => (World.cell?_of_block (ho1.block w.heap.size (by simp) hbx1)).trans (by simp [go_sem])
  have bz1 : w.heap.size < w1.heap.size := Nat.lt_of_lt_of_le (by simp) ho1.size
  clear hR1 ho1 HR0 HD0
  go_wp2_with fail
  refine (dN_S_c h cap ao ns a k _ HD1.out hk hlen).mono ?_
  rintro e w2 ⟨v2, rfl, ho2, hD2, own2⟩
  have OWA := hide (own_only own1 ho2 (Nat.lt_of_lt_of_le hh0 (by simp)))
  have OWB := hide own2
  clear own1 own2
  have HD2 := hide hD2
  have HR2 := hide (HR1.out.only ho2 hgh hBh)
  have HO2 := hide ho2
  have O2 := hide (only2_of HB0.out HO1.out HO2.out)
  have bx2 : ∀ o, w2.cell? ⟨w.heap.size, o, none⟩ = (#[Value.int .i64 7, Value.int .i64 (k : Int)] : Array Value)[o]? := fun o => (World.cell?_of_block (ho2.block w.heap.size bz1 hbx2)).trans (bx1 o)
  clear hD2 ho2 HD1 HR1 HB0 HO1 HO2 bx1
  go_wp2_with fail
  refine (SameTexts_c v1 v2 _ _ (tl (RS ns) ns a k).1 _ OWA.out OWB.out (tl_strs ns a k) (Nat.le_trans (tl_len _ _ _ _) hlen)).mono ?_
  rintro e w3 ⟨rfl, hb3⟩
  have HD3 := hide (HD2.out.below hb3)
  have HR3 := hide (HR2.out.below hb3)
  have O3 := hide (O2.out.trans (Only2.of_below hb3))
  clear hb3 HD2 HR2 O2 bx2
  go_wp2_with (go_at_call 23; go_in)
  go_ret
  exact ⟨_, rfl, O3.out, HR3.out, HD3.out⟩

set_option maxRecDepth 100000 in
set_option maxHeartbeats 4000000 in
theorem asks_8y (g B h cap : Nat) (ao : Option Addr) (ns : List Nat) (a : Nat) (nn : Int) (w : World) (hR : RAny w g B ns a) (hD : DObj w h ao cap ns a) (hgh : g ≠ h) (hBh : B ≤ h) (hao : ∀ ad, ao = some ad → ns ≠ [] → ad.block ≠ g) (hlen : ns.length ≤ 1099511627776) (hlt : a < ns.length) : Calls Try.prog 30 #[.pointer (some ⟨g, 0, none⟩), .pointer (some ⟨h, 0, none⟩), .agg #[.int .i64 8, .int .i64 nn]] w (fun e w' => ∃ a', e = .returned (.bool true) ∧ Only2 g h w w' ∧ RAny w' g B ns a' ∧ DObj w' h ao cap ns a') := by
  have hB0 : Below w.heap.size w (w.alloc (.cells #[.int .i64 8, .int .i64 nn] 67)) := by (focus repeat' (first | (with_reducible exact Below.refl _ _) | (with_reducible assumption) | (with_reducible refine Below.alloc ?_ ?_ _) | (with_reducible refine Below.drew ?_) | (with_reducible refine bdrewN ?_ _) | (with_reducible refine Below.setCell ?_ ?_ _) | (first | (with_reducible exact Nat.le_refl _) | (with_reducible assumption) | omega | (simp; omega) | (simp; done))))
  have HR0 := hide (hR.below hB0)
  have HD0 := hide (hD.below hB0)
  have HB0 := hide hB0
  have hhg : h ≠ g := fun e => hgh e.symm
  have hdl := hD.le
  have hg0 := hR.cells.1
  have hh0 := hD.lt
  have hbx1 : w.heap.size ≠ g := by omega
  have hbx2 : w.heap.size ≠ h := by omega
  clear hR hD hB0
  have hx : (0 : Int) < (ns.length : Int) - (a : Int) := by omega
  have hx0 : ¬ ((ns.length : Int) - (a : Int) = 0) := by omega
  go_enter Try.func30, Try.ntmps30
  go_wp2_with fail
  refine (End_yes g B ns a _ HR0.out hlt).mono ?_
  rintro e w1 ⟨rfl, hb1⟩
  have HR1 := hide (HR0.out.below hb1)
  have HD1 := hide (HD0.out.below hb1)
  have HB1 := hide (bstep HB0.out hb1)
  clear hb1 HR0 HD0
  go_wp2_with (first | (go_at_call 23; go_in) | (go_at_call 25; refine (dLeft_c h cap ao ns a _ HD1.out).mono ?_; rintro e w2 ⟨rfl, hb2⟩; have HR2 := hide (HR1.out.below hb2); have HD2 := hide (HD1.out.below hb2); have HB2 := hide (bstep HB1.out hb2); clear hb2))
  go_ret
  exact ⟨a, rfl, Only2.of_below HB2.out, HR2.out, HD2.out⟩

set_option maxRecDepth 100000 in
set_option maxHeartbeats 4000000 in
theorem asks_8n (g B h cap : Nat) (ao : Option Addr) (ns : List Nat) (a : Nat) (nn : Int) (w : World) (hR : RAny w g B ns a) (hD : DObj w h ao cap ns a) (hgh : g ≠ h) (hBh : B ≤ h) (hao : ∀ ad, ao = some ad → ns ≠ [] → ad.block ≠ g) (hlen : ns.length ≤ 1099511627776) (hlt : ¬ a < ns.length) : Calls Try.prog 30 #[.pointer (some ⟨g, 0, none⟩), .pointer (some ⟨h, 0, none⟩), .agg #[.int .i64 8, .int .i64 nn]] w (fun e w' => ∃ a', e = .returned (.bool true) ∧ Only2 g h w w' ∧ RAny w' g B ns a' ∧ DObj w' h ao cap ns a') := by
  have hB0 : Below w.heap.size w (w.alloc (.cells #[.int .i64 8, .int .i64 nn] 67)) := by (focus repeat' (first | (with_reducible exact Below.refl _ _) | (with_reducible assumption) | (with_reducible refine Below.alloc ?_ ?_ _) | (with_reducible refine Below.drew ?_) | (with_reducible refine bdrewN ?_ _) | (with_reducible refine Below.setCell ?_ ?_ _) | (first | (with_reducible exact Nat.le_refl _) | (with_reducible assumption) | omega | (simp; omega) | (simp; done))))
  have HR0 := hide (hR.below hB0)
  have HD0 := hide (hD.below hB0)
  have HB0 := hide hB0
  have hhg : h ≠ g := fun e => hgh e.symm
  have hdl := hD.le
  have hg0 := hR.cells.1
  have hh0 := hD.lt
  have hbx1 : w.heap.size ≠ g := by omega
  have hbx2 : w.heap.size ≠ h := by omega
  clear hR hD hB0
  have hx : ¬ (0 : Int) < (ns.length : Int) - (a : Int) := by omega
  have hx0 : (ns.length : Int) - (a : Int) = 0 := by omega
  go_enter Try.func30, Try.ntmps30
  go_wp2_with fail
  refine (End_no g B ns a _ HR0.out hlt).mono ?_
  rintro e w1 ⟨rfl, hb1⟩
  have HR1 := hide (HR0.out.below hb1)
  have HD1 := hide (HD0.out.below hb1)
  have HB1 := hide (bstep HB0.out hb1)
  clear hb1 HR0 HD0
  go_wp2_with (first | (go_at_call 23; go_in) | (go_at_call 25; refine (dLeft_c h cap ao ns a _ HD1.out).mono ?_; rintro e w2 ⟨rfl, hb2⟩; have HR2 := hide (HR1.out.below hb2); have HD2 := hide (HD1.out.below hb2); have HB2 := hide (bstep HB1.out hb2); clear hb2))
  go_ret
  exact ⟨a, rfl, Only2.of_below HB2.out, HR2.out, HD2.out⟩

set_option maxRecDepth 100000 in
set_option maxHeartbeats 4000000 in
theorem asks_0 (g B h cap : Nat) (ao : Option Addr) (ns : List Nat) (a : Nat) (nn : Int) (kd : Int) (w : World) (hR : RAny w g B ns a) (hD : DObj w h ao cap ns a) (hgh : g ≠ h) (hBh : B ≤ h) (hao : ∀ ad, ao = some ad → ns ≠ [] → ad.block ≠ g) (hlen : ns.length ≤ 1099511627776) (k1 : ¬ kd = 1) (k2 : ¬ kd = 2) (k3 : ¬ kd = 3) (k4 : ¬ kd = 4) (k5 : ¬ kd = 5) (k6 : ¬ kd = 6) (k7 : ¬ kd = 7) (k8 : ¬ kd = 8) : Calls Try.prog 30 #[.pointer (some ⟨g, 0, none⟩), .pointer (some ⟨h, 0, none⟩), .agg #[.int .i64 kd, .int .i64 nn]] w (fun e w' => ∃ a', e = .returned (.bool true) ∧ Only2 g h w w' ∧ RAny w' g B ns a' ∧ DObj w' h ao cap ns a') := by
  have hB0 : Below w.heap.size w (w.alloc (.cells #[.int .i64 kd, .int .i64 nn] 67)) := by (focus repeat' (first | (with_reducible exact Below.refl _ _) | (with_reducible assumption) | (with_reducible refine Below.alloc ?_ ?_ _) | (with_reducible refine Below.drew ?_) | (with_reducible refine bdrewN ?_ _) | (with_reducible refine Below.setCell ?_ ?_ _) | (first | (with_reducible exact Nat.le_refl _) | (with_reducible assumption) | omega | (simp; omega) | (simp; done))))
  have HR0 := hide (hR.below hB0)
  have HD0 := hide (hD.below hB0)
  have HB0 := hide hB0
  have hhg : h ≠ g := fun e => hgh e.symm
  have hdl := hD.le
  have hg0 := hR.cells.1
  have hh0 := hD.lt
  have hbx1 : w.heap.size ≠ g := by omega
  have hbx2 : w.heap.size ≠ h := by omega
  clear hR hD hB0
  go_enter Try.func30, Try.ntmps30
  go_wp2
  go_ret
  exact ⟨a, rfl, Only2.of_below HB0.out, HR0.out, HD0.out⟩

theorem asks_c (g B h cap : Nat) (ao : Option Addr) (ns : List Nat) (a : Nat) (kd nn : Int) (w : World) (hR : RAny w g B ns a) (hD : DObj w h ao cap ns a) (hgh : g ≠ h) (hBh : B ≤ h) (hao : ∀ ad, ao = some ad → ns ≠ [] → ad.block ≠ g) (hlen : ns.length ≤ 1099511627776) (hn2 : nn ≤ 9223372036854775807) : Calls Try.prog 30 #[.pointer (some ⟨g, 0, none⟩), .pointer (some ⟨h, 0, none⟩), .agg #[.int .i64 kd, .int .i64 nn]] w (fun e w' => ∃ a', e = .returned (.bool true) ∧ Only2 g h w w' ∧ RAny w' g B ns a' ∧ DObj w' h ao cap ns a') := by
  by_cases k1 : kd = 1
  · subst k1; exact asks_1 g B h cap ao ns a nn w hR hD hgh hBh hao hlen
  by_cases k2 : kd = 2
  · subst k2
    by_cases hE : (rd ns a).2.1 = 0
    · exact asks_2a g B h cap ao ns a nn w hR hD hgh hBh hao hlen hE
    · exact asks_2b g B h cap ao ns a nn w hR hD hgh hBh hao hlen hE
  by_cases k3 : kd = 3
  · subst k3; exact asks_3 g B h cap ao ns a nn w hR hD hgh hBh hao hlen
  by_cases k4 : kd = 4
  · subst k4; exact asks_4 g B h cap ao ns a nn w hR hD hgh hBh hao hlen
  by_cases k5 : kd = 5
  · subst k5
    by_cases hm : nn < 0
    · exact asks_5n g B h cap ao ns a nn w hR hD hgh hBh hao hlen hm
    · obtain ⟨k, rfl⟩ : ∃ k : Nat, nn = (k : Int) := ⟨nn.toNat, by omega⟩
      exact asks_5 g B h cap ao ns a 0 k w hR hD hgh hBh hao hlen (by omega)
  by_cases k6 : kd = 6
  · subst k6
    by_cases hm : nn < 0
    · exact asks_6n g B h cap ao ns a nn w hR hD hgh hBh hao hlen hm
    · obtain ⟨k, rfl⟩ : ∃ k : Nat, nn = (k : Int) := ⟨nn.toNat, by omega⟩
      exact asks_6 g B h cap ao ns a 0 k w hR hD hgh hBh hao hlen (by omega)
  by_cases k7 : kd = 7
  · subst k7
    by_cases hm : nn < 0
    · exact asks_7n g B h cap ao ns a nn w hR hD hgh hBh hao hlen hm
    · obtain ⟨k, rfl⟩ : ∃ k : Nat, nn = (k : Int) := ⟨nn.toNat, by omega⟩
      exact asks_7 g B h cap ao ns a 0 k w hR hD hgh hBh hao hlen (by omega)
  by_cases k8 : kd = 8
  · subst k8
    by_cases hlt : a < ns.length
    · exact asks_8y g B h cap ao ns a nn w hR hD hgh hBh hao hlen hlt
    · exact asks_8n g B h cap ao ns a nn w hR hD hgh hBh hao hlen hlt
  · exact asks_0 g B h cap ao ns a nn kd w hR hD hgh hBh hao hlen k1 k2 k3 k4 k5 k6 k7 k8
end Go.Proofs.Ytajkgecegefnmaa
