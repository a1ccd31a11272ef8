import Derived.Test.YtajkgecegefnmaaV6
namespace Go.Proofs.Ytajkgecegefnmaa
open Go.ChangeShapes Go.WideShapes Go.ChangeAt Go.RowKit Go.Deep
set_option linter.unusedSimpArgs false
set_option linter.unusedVariables false

set_option maxRecDepth 100000 in
theorem dNum_c (h cap : Nat) (ao : Option Addr) (ns : List Nat) (a : Nat) (w : World) (hD : DObj w h ao cap ns a) : Calls Try.prog 22 #[.pointer (some ⟨h, 0, none⟩)] w (fun e w' => e = .returned (.tuple #[.int .u64 ((rd ns a).1 : Int), .int .i64 ((rd ns a).2.1 : Int)]) ∧ Only h w w' ∧ DObj w' h ao cap ns (rd ns a).2.2) := by
  by_cases c1 : ns.length ≤ a
  · have q : rd ns a = (0, 110, a) := by unfold rd; rw [if_pos c1]
    rw [q]; exact dNum_end h cap ao ns a w hD c1
  by_cases c2 : ns.getD a 0 ≤ 247
  · have q : rd ns a = (ns.getD a 0, 0, a + 1) := by unfold rd; rw [if_neg c1, if_pos c2]
    rw [q]; exact dNum_short h cap ao ns a w hD (by omega) c2
  by_cases c3 : ns.length < a + 1 + (ns.getD a 0 - 247)
  · have q : rd ns a = (0, 110, a) := by unfold rd; rw [if_neg c1, if_neg c2, if_pos c3]
    rw [q]; exact dNum_cut h cap ao ns a w hD (by omega) (by omega) c3
  by_cases c4 : (form (num ((ns.drop (a + 1)).take (ns.getD a 0 - 247)))).length = 1 + (ns.getD a 0 - 247)
  · have q : rd ns a = (num ((ns.drop (a + 1)).take (ns.getD a 0 - 247)), 0, a + 1 + (ns.getD a 0 - 247)) := by unfold rd; rw [if_neg c1, if_neg c2, if_neg c3, if_pos c4]
    rw [q]; exact dNum_ok h cap ao ns a w hD (by omega) (by omega) (by omega) c4
  · have q : rd ns a = (0, 111, a) := by unfold rd; rw [if_neg c1, if_neg c2, if_neg c3, if_neg c4]
    rw [q]; exact dNum_form h cap ao ns a w hD (by omega) (by omega) (by omega) c4

theorem DObj.only {w w' : World} {h g : Nat} {ao : Option Addr} {cap : Nat} {ns : List Nat} {a : Nat} (k : DObj w h ao cap ns a) (ho : Only g w w') (h1 : h ≠ g) (h2 : ∀ ad, ao = some ad → ad.block ≠ g) : DObj w' h ao cap ns a :=
  ⟨Nat.lt_of_lt_of_le k.lt ho.size, fun o => (World.cell?_of_block (ho.block h k.lt h1)).trans (k.cells o), fun o => (World.frozen?_of_block (ho.block h k.lt h1)).trans (k.frz o), fun hn => by
    obtain ⟨b, off, h1, h3, h4, h5⟩ := k.bytes hn
    exact ⟨b, off, h1, Nat.lt_of_lt_of_le h3 ho.size, h4, fun j hj => (World.cell?_of_block (ho.block b h3 (h2 _ h1))).trans (h5 j hj)⟩, k.small, k.le, k.len, k.cap_le⟩
theorem RAny.only {w w' : World} {g B h : Nat} {ns : List Nat} {a : Nat} (k : RAny w g B ns a) (ho : Only h w w') (h1 : g ≠ h) (h2 : B ≤ h) : RAny w' g B ns a :=
  k.same ho.size (ho.block g k.cells.1 h1) (fun i hi => ho.block i (by have := k.1; omega) (by omega))
theorem own_only {w w' : World} {base h : Nat} {e : TypeId} {size : Nat} {v : Value} {n : Nat} {xs : List Value} (own : w.ownsRow base e size v n xs) (ho : Only h w w') (hb : h < base) : w'.ownsRow base e size v n xs :=
  own_same own (fun k hk hlt => ho.block k hlt (by have := (own.lt k hk).1; omega))
theorem own_below {w w' : World} {base : Nat} {e : TypeId} {size : Nat} {v : Value} {n : Nat} {xs : List Value} (own : w.ownsRow base e size v n xs) (hb : Below w.heap.size w w') : w'.ownsRow base e size v n xs :=
  own_same own (fun k _ hlt => hb.block k hlt)
theorem own_any {w : World} {base : Nat} {e : TypeId} {size : Nat} {v : Value} {n : Nat} {xs : List Value} (own : w.ownsRow base e size v n xs) : ∃ ao cap, v = .slice ao n cap := by
  rcases own.2 with ⟨rfl, rfl, _⟩ | ⟨k, c, cur, rfl, _⟩
  · exact ⟨none, 0, rfl⟩
  · exact ⟨_, c, rfl⟩
theorem below_only {w0 w w' : World} {g : Nat} (h : Below w0.heap.size w0 w) (ho : Only g w w') (hg : w0.heap.size ≤ g) : Below w0.heap.size w0 w' :=
  h.trans ⟨ho.os, ho.tape, ho.output, ho.size, fun i hi => ho.block i (by have := h.size; omega) (by omega)⟩
theorem DObj.only' {w w' : World} {h g : Nat} {ao : Option Addr} {cap : Nat} {ns : List Nat} {a : Nat} (k : DObj w h ao cap ns a) (ho : Only g w w') (h1 : h ≠ g) (h2 : ∀ ad, ao = some ad → ns ≠ [] → ad.block ≠ g) : DObj w' h ao cap ns a :=
  ⟨Nat.lt_of_lt_of_le k.lt ho.size, fun o => (World.cell?_of_block (ho.block h k.lt h1)).trans (k.cells o), fun o => (World.frozen?_of_block (ho.block h k.lt h1)).trans (k.frz o), fun hn => by
    obtain ⟨b, off, h1, h3, h4, h5⟩ := k.bytes hn
    exact ⟨b, off, h1, Nat.lt_of_lt_of_le h3 ho.size, h4, fun j hj => (World.cell?_of_block (ho.block b h3 (h2 _ h1 hn))).trans (h5 j hj)⟩, k.small, k.le, k.len, k.cap_le⟩
theorem Only.low {w0 w w' : World} {g : Nat} (h : Below w0.heap.size w0 w) (ho : Only g w w') (hg : w0.heap.size ≤ g) : Below w0.heap.size w0 w' :=
  h.trans ⟨ho.os, ho.tape, ho.output, ho.size, fun i hi => ho.block i (by have := h.size; omega) (by omega)⟩

set_option maxRecDepth 100000 in
set_option maxHeartbeats 1000000 in
theorem Place_q1 (g b off cap : Nat) (ns : List Nat) (a : Nat) (w : World) (hR : RObj w g b off cap ns a) : Calls Try.prog 24 #[.pointer (some ⟨g, 0, none⟩)] w (fun e w' => e = .returned (.int .i64 (a : Int)) ∧ w' = w) := by
  obtain ⟨h1, h2, h3, h4, h5, h6, h7, h8, h9, h10⟩ := hR
  have H6 := hide h6
  have H7 := hide h7
  clear h6 h7
  go_enter Try.func24, Try.ntmps24
  go_wp2
  go_ret
  exact ⟨rfl, rfl⟩

set_option maxRecDepth 100000 in
set_option maxHeartbeats 1000000 in
theorem Place_q2 (g : Nat) (w : World) (hR : RNil w g) : Calls Try.prog 24 #[.pointer (some ⟨g, 0, none⟩)] w (fun e w' => e = .returned (.int .i64 0) ∧ w' = w) := by
  obtain ⟨h1, h2, h3⟩ := hR
  go_enter Try.func24, Try.ntmps24
  go_wp2
  go_ret
  exact ⟨rfl, rfl⟩

theorem Place_q (g B : Nat) (ns : List Nat) (a : Nat) (w : World) (hR : RAny w g B ns a) : Calls Try.prog 24 #[.pointer (some ⟨g, 0, none⟩)] w fun e w' => e = .returned (.int .i64 (a : Int)) ∧ w' = w := by
  obtain ⟨hB, ⟨b, off, cap, hb2, k⟩ | ⟨k, rfl, rfl⟩⟩ := hR
  · exact Place_q1 g b off cap ns a w k
  · exact Place_q2 g w k

set_option maxRecDepth 100000 in
set_option maxHeartbeats 4000000 in
theorem WirePairs_neg (ao : Option Addr) (cap : Nat) (ns : List Nat) (m : Int) (w : World) (hb : Row8 w ao cap ns) (hm : m < 0) : Calls Try.prog 4 #[.slice ao ns.length cap, .int .i64 m] w (fun e w' => e = .returned (.bool true) ∧ Below w.heap.size w w') := by
  have hbl := hide (show ∀ ad, ao = some ad → ns ≠ [] → ad.block < w.heap.size from fun ad had hn => by
    obtain ⟨b, off, h1, h2, _⟩ := hb.bytes hn
    rw [h1] at had; cases had; exact h2)
  have HB8 := hide hb
  have hcap := hb.cap_le
  have hlen := hb.len
  clear hb
  go_enter Try.func4, Try.ntmps4
  go_wp2_with fail
  refine (NewReader_any ao cap ns _ HB8.out).mono ?_
  rintro e w1 ⟨g, rfl, hg, hb1, hR1⟩
  have hA : Below w1.heap.size w1 (w1.alloc (.cells #[.slice ao ns.length cap, .int .i64 0] 39)) := by (focus repeat' (first | (with_reducible exact Below.refl _ _) | (with_reducible assumption) | (with_reducible refine Below.alloc ?_ ?_ _) | (with_reducible refine Below.drew ?_) | (with_reducible refine bdrewN ?_ _) | (with_reducible refine Below.setCell ?_ ?_ _) | (first | (with_reducible exact Nat.le_refl _) | (with_reducible assumption) | omega | (simp; omega) | (simp; done))))
  have hz1 := hb1.size
  have hgz := hR1.cells.1
  have HD2 := hide (show DObj (w1.alloc (.cells #[.slice ao ns.length cap, .int .i64 0] 39)) w1.heap.size ao cap ns 0 from ⟨by simp, fun o => by simp [go_sem], fun o => by simp [go_sem], fun hn => by
    obtain ⟨b, off, h1, h2, h3⟩ := HB8.out.bytes hn
    exact ⟨b, off, h1, by (simp; omega), by omega, fun j hj => (hA.cell (p := ⟨b, off + j, none⟩) (show b < w1.heap.size by omega)).trans ((hb1.cell (p := ⟨b, off + j, none⟩) h2).trans (h3 j hj))⟩, HB8.out.small, Nat.zero_le _, by omega, hcap⟩)
  have HR2 := hide (hR1.below hA)
  have HL2 := hide (bstep hb1 hA)
  have hgz2 : g < w1.heap.size := hgz
  have hne : w1.heap.size ≠ g := by omega
  clear hA hR1 hb1
  go_wp2_with fail
  refine (Take_P_neg g w1.heap.size ns 0 m _ HR2.out hm).mono ?_
  rintro e w3 ⟨v, rfl, ho3, hR3, own3⟩
  obtain ⟨vo, vc, rfl⟩ := own_any own3
  have HR3 := hide hR3
  have HL3 := hide (below_only HL2.out ho3 hg)
  have hb2 := hide (show ∀ ad, ao = some ad → ns ≠ [] → ad.block ≠ g from fun ad had hn => by have := hbl.out ad had hn; omega)
  have HD3 := hide (HD2.out.only' ho3 hne hb2.out)
  clear ho3 hR3 own3 HR2 HL2 HD2
  go_wp2_with fail
  refine (dNum_c w1.heap.size cap ao ns 0 _ HD3.out).mono ?_
  rintro e w4 ⟨rfl, ho4, hD4⟩
  have HR4 := hide (HR3.out.only ho4 (by omega) (Nat.le_refl _))
  have HL4 := hide (below_only HL3.out ho4 hz1)
  clear ho4 hD4 HR3 HL3 HD3
  go_wp2_with (first | (go_at_call 23; go_in) | (go_at_call 24; refine (Place_any g w1.heap.size ns 0 _ HR4.out).mono ?_; rintro e w5 ⟨rfl, hb5⟩; have HL5 := hide (bstep HL4.out hb5); clear hb5) | (go_at_call 10; refine (known_c _).mono ?_; rintro e w6 ⟨rfl, hb6⟩; have HL6 := hide (bstep HL5.out hb6); clear hb6))
  go_ret
  exact ⟨rfl, HL6.out⟩
end Go.Proofs.Ytajkgecegefnmaa
