/- Contracts of the layer's functions, each proved once, in the order in which they are used. No condition beyond each theorem's own. -/
import Derived.Test.YtajkgecegefnmaaMe
import Derived.Laws.BytesArg
import Derived.Deep.AppendLies
import Derived.Maps.AppendAt
namespace Go.Proofs.Ytajkgecegefnmaa
open Go.ChangeShapes Go.WideShapes Go.ChangeAt Go.RowKit Go.Deep
set_option linter.unusedSimpArgs false
set_option linter.unusedVariables false

set_option maxRecDepth 100000 in
theorem dNum_c (h cap : Nat) (ao : Option Addr) (ns : List Nat) (a : Nat) (w : World) (hD : DObj w h ao cap ns a) : Calls Try.prog 22 #[.pointer (some ⟨h, 0, none⟩)] w (fun e w' => e = .returned (.tuple #[.int .u64 ((rd ns a).1 : Int), .int .i64 ((rd ns a).2.1 : Int)]) ∧ Only h w w' ∧ DObj w' h ao cap ns (rd ns a).2.2) := by
  by_cases c1 : ns.length ≤ a
  · have q : rd ns a = (0, 110, a) := by unfold rd; rw [if_pos c1]
    rw [q]; exact dNum_end h cap ao ns a w hD c1
  by_cases c2 : ns.getD a 0 ≤ 247
  · have q : rd ns a = (ns.getD a 0, 0, a + 1) := by unfold rd; rw [if_neg c1, if_pos c2]
    rw [q]; exact dNum_short h cap ao ns a w hD (by omega) c2
  by_cases c3 : ns.length < a + 1 + (ns.getD a 0 - 247)
  · have q : rd ns a = (0, 110, a) := by unfold rd; rw [if_neg c1, if_neg c2, if_pos c3]
    rw [q]; exact dNum_cut h cap ao ns a w hD (by omega) (by omega) c3
  by_cases c4 : (form (num ((ns.drop (a + 1)).take (ns.getD a 0 - 247)))).length = 1 + (ns.getD a 0 - 247)
  · have q : rd ns a = (num ((ns.drop (a + 1)).take (ns.getD a 0 - 247)), 0, a + 1 + (ns.getD a 0 - 247)) := by unfold rd; rw [if_neg c1, if_neg c2, if_neg c3, if_pos c4]
    rw [q]; exact dNum_ok h cap ao ns a w hD (by omega) (by omega) (by omega) c4
  · have q : rd ns a = (0, 111, a) := by unfold rd; rw [if_neg c1, if_neg c2, if_neg c3, if_neg c4]
    rw [q]; exact dNum_form h cap ao ns a w hD (by omega) (by omega) (by omega) c4

theorem DObj.only {w w' : World} {h g : Nat} {ao : Option Addr} {cap : Nat} {ns : List Nat} {a : Nat} (k : DObj w h ao cap ns a) (ho : Only g w w') (h1 : h ≠ g) (h2 : ∀ ad, ao = some ad → ad.block ≠ g) : DObj w' h ao cap ns a :=
  ⟨Nat.lt_of_lt_of_le k.lt ho.size, fun o => (World.cell?_of_block (ho.block h k.lt h1)).trans (k.cells o), fun o => (World.frozen?_of_block (ho.block h k.lt h1)).trans (k.frz o), fun hn => by
    obtain ⟨b, off, h1, h3, h4, h5⟩ := k.bytes hn
    exact ⟨b, off, h1, Nat.lt_of_lt_of_le h3 ho.size, h4, fun j hj => (World.cell?_of_block (ho.block b h3 (h2 _ h1))).trans (h5 j hj)⟩, k.small, k.le, k.len, k.cap_le⟩
theorem RAny.only {w w' : World} {g B h : Nat} {ns : List Nat} {a : Nat} (k : RAny w g B ns a) (ho : Only h w w') (h1 : g ≠ h) (h2 : B ≤ h) : RAny w' g B ns a :=
  k.same ho.size (ho.block g k.cells.1 h1) (fun i hi => ho.block i (by have := k.1; omega) (by omega))
theorem own_only {w w' : World} {base h : Nat} {e : TypeId} {size : Nat} {v : Value} {n : Nat} {xs : List Value} (own : w.ownsRow base e size v n xs) (ho : Only h w w') (hb : h < base) : w'.ownsRow base e size v n xs :=
  own_same own (fun k hk hlt => ho.block k hlt (by have := (own.lt k hk).1; omega))
theorem own_below {w w' : World} {base : Nat} {e : TypeId} {size : Nat} {v : Value} {n : Nat} {xs : List Value} (own : w.ownsRow base e size v n xs) (hb : Below w.heap.size w w') : w'.ownsRow base e size v n xs :=
  own_same own (fun k _ hlt => hb.block k hlt)
theorem own_any {w : World} {base : Nat} {e : TypeId} {size : Nat} {v : Value} {n : Nat} {xs : List Value} (own : w.ownsRow base e size v n xs) : ∃ ao cap, v = .slice ao n cap := by
  rcases own.2 with ⟨rfl, rfl, _⟩ | ⟨k, c, cur, rfl, _⟩
  · exact ⟨none, 0, rfl⟩
  · exact ⟨_, c, rfl⟩
theorem below_only {w0 w w' : World} {g : Nat} (h : Below w0.heap.size w0 w) (ho : Only g w w') (hg : w0.heap.size ≤ g) : Below w0.heap.size w0 w' :=
  h.trans ⟨ho.os, ho.tape, ho.output, ho.size, fun i hi => ho.block i (by have := h.size; omega) (by omega)⟩
theorem DObj.only' {w w' : World} {h g : Nat} {ao : Option Addr} {cap : Nat} {ns : List Nat} {a : Nat} (k : DObj w h ao cap ns a) (ho : Only g w w') (h1 : h ≠ g) (h2 : ∀ ad, ao = some ad → ns ≠ [] → ad.block ≠ g) : DObj w' h ao cap ns a :=
  ⟨Nat.lt_of_lt_of_le k.lt ho.size, fun o => (World.cell?_of_block (ho.block h k.lt h1)).trans (k.cells o), fun o => (World.frozen?_of_block (ho.block h k.lt h1)).trans (k.frz o), fun hn => by
    obtain ⟨b, off, h1, h3, h4, h5⟩ := k.bytes hn
    exact ⟨b, off, h1, Nat.lt_of_lt_of_le h3 ho.size, h4, fun j hj => (World.cell?_of_block (ho.block b h3 (h2 _ h1 hn))).trans (h5 j hj)⟩, k.small, k.le, k.len, k.cap_le⟩
theorem Only.low {w0 w w' : World} {g : Nat} (h : Below w0.heap.size w0 w) (ho : Only g w w') (hg : w0.heap.size ≤ g) : Below w0.heap.size w0 w' :=
  h.trans ⟨ho.os, ho.tape, ho.output, ho.size, fun i hi => ho.block i (by have := h.size; omega) (by omega)⟩

set_option maxRecDepth 100000 in
set_option maxHeartbeats 1000000 in
theorem Place_q1 (g b off cap : Nat) (ns : List Nat) (a : Nat) (w : World) (hR : RObj w g b off cap ns a) : Calls Try.prog 24 #[.pointer (some ⟨g, 0, none⟩)] w (fun e w' => e = .returned (.int .i64 (a : Int)) ∧ w' = w) := by
  obtain ⟨h1, h2, h3, h4, h5, h6, h7, h8, h9, h10⟩ := hR
  have H6 := hide h6
  have H7 := hide h7
  clear h6 h7
  go_enter Try.func24, Try.ntmps24
  go_wp2
  go_ret
  exact ⟨rfl, rfl⟩

set_option maxRecDepth 100000 in
set_option maxHeartbeats 1000000 in
theorem Place_q2 (g : Nat) (w : World) (hR : RNil w g) : Calls Try.prog 24 #[.pointer (some ⟨g, 0, none⟩)] w (fun e w' => e = .returned (.int .i64 0) ∧ w' = w) := by
  obtain ⟨h1, h2, h3⟩ := hR
  go_enter Try.func24, Try.ntmps24
  go_wp2
  go_ret
  exact ⟨rfl, rfl⟩

theorem Place_q (g B : Nat) (ns : List Nat) (a : Nat) (w : World) (hR : RAny w g B ns a) : Calls Try.prog 24 #[.pointer (some ⟨g, 0, none⟩)] w fun e w' => e = .returned (.int .i64 (a : Int)) ∧ w' = w := by
  obtain ⟨hB, ⟨b, off, cap, hb2, k⟩ | ⟨k, rfl, rfl⟩⟩ := hR
  · exact Place_q1 g b off cap ns a w k
  · exact Place_q2 g w k

set_option maxRecDepth 100000 in
set_option maxHeartbeats 4000000 in
theorem WirePairs_neg (ao : Option Addr) (cap : Nat) (ns : List Nat) (m : Int) (w : World) (hb : Row8 w ao cap ns) (hm : m < 0) : Calls Try.prog 4 #[.slice ao ns.length cap, .int .i64 m] w (fun e w' => e = .returned (.bool true) ∧ Below w.heap.size w w') := by
  have hbl := hide (show ∀ ad, ao = some ad → ns ≠ [] → ad.block < w.heap.size from fun ad had hn => by
    obtain ⟨b, off, h1, h2, _⟩ := hb.bytes hn
    rw [h1] at had; cases had; exact h2)
  have HB8 := hide hb
  have hcap := hb.cap_le
  have hlen := hb.len
  clear hb
  go_enter Try.func4, Try.ntmps4
  go_wp2_with fail
  refine (NewReader_any ao cap ns _ HB8.out).mono ?_
  rintro e w1 ⟨g, rfl, hg, hb1, hR1⟩
  have hA : Below w1.heap.size w1 (w1.alloc (.cells #[.slice ao ns.length cap, .int .i64 0] 39)) := by (focus repeat' (first | (with_reducible exact Below.refl _ _) | (with_reducible assumption) | (with_reducible refine Below.alloc ?_ ?_ _) | (with_reducible refine Below.drew ?_) | (with_reducible refine bdrewN ?_ _) | (with_reducible refine Below.setCell ?_ ?_ _) | (first | (with_reducible exact Nat.le_refl _) | (with_reducible assumption) | omega | (simp; omega) | (simp; done))))
  have hz1 := hb1.size
  have hgz := hR1.cells.1
  have HD2 := hide (show DObj (w1.alloc (.cells #[.slice ao ns.length cap, .int .i64 0] 39)) w1.heap.size ao cap ns 0 from ⟨by simp, fun o => by simp [go_sem], fun o => by simp [go_sem], fun hn => by
    obtain ⟨b, off, h1, h2, h3⟩ := HB8.out.bytes hn
    exact ⟨b, off, h1, by (simp; omega), by omega, fun j hj => (hA.cell (p := ⟨b, off + j, none⟩) (show b < w1.heap.size by omega)).trans ((hb1.cell (p := ⟨b, off + j, none⟩) h2).trans (h3 j hj))⟩, HB8.out.small, Nat.zero_le _, by omega, hcap⟩)
  have HR2 := hide (hR1.below hA)
  have HL2 := hide (bstep hb1 hA)
  have hgz2 : g < w1.heap.size := hgz
  have hne : w1.heap.size ≠ g := by omega
  clear hA hR1 hb1
  go_wp2_with fail
  refine (Take_P_neg g w1.heap.size ns 0 m _ HR2.out hm).mono ?_
  rintro e w3 ⟨v, rfl, ho3, hR3, own3⟩
  obtain ⟨vo, vc, rfl⟩ := own_any own3
  have HR3 := hide hR3
  have HL3 := hide (below_only HL2.out ho3 hg)
  have hb2 := hide (show ∀ ad, ao = some ad → ns ≠ [] → ad.block ≠ g from fun ad had hn => by have := hbl.out ad had hn; omega)
  have HD3 := hide (HD2.out.only' ho3 hne hb2.out)
  clear ho3 hR3 own3 HR2 HL2 HD2
  go_wp2_with fail
  refine (dNum_c w1.heap.size cap ao ns 0 _ HD3.out).mono ?_
  rintro e w4 ⟨rfl, ho4, hD4⟩
  have HR4 := hide (HR3.out.only ho4 (by omega) (Nat.le_refl _))
  have HL4 := hide (below_only HL3.out ho4 hz1)
  clear ho4 hD4 HR3 HL3 HD3
  go_wp2_with (first | (go_at_call 23; go_in) | (go_at_call 24; refine (Place_any g w1.heap.size ns 0 _ HR4.out).mono ?_; rintro e w5 ⟨rfl, hb5⟩; have HL5 := hide (bstep HL4.out hb5); clear hb5) | (go_at_call 10; refine (known_c _).mono ?_; rintro e w6 ⟨rfl, hb6⟩; have HL6 := hide (bstep HL5.out hb6); clear hb6))
  go_ret
  exact ⟨rfl, HL6.out⟩
end Go.Proofs.Ytajkgecegefnmaa

namespace Go.Proofs.Ytajkgecegefnmaa
open Go.ChangeShapes Go.WideShapes Go.ChangeAt Go.RowKit Go.Deep
set_option linter.unusedSimpArgs false
set_option linter.unusedVariables false

set_option maxRecDepth 100000 in
set_option maxHeartbeats 1000000 in
theorem dFlag_end (h cap : Nat) (ao : Option Addr) (ns : List Nat) (a : Nat) (w : World) (hD : DObj w h ao cap ns a) (hn : ns.length ≤ a) : Calls Try.prog 61 #[.pointer (some ⟨h, 0, none⟩)] w (fun e w' => e = .returned (.tuple #[.bool false, .int .i64 110]) ∧ Only h w w' ∧ DObj w' h ao cap ns a) := by
  have hx : (ns.length : Int) - (a : Int) < 1 := by omega
  have hD' := hide hD
  obtain ⟨d1, d2, d3, d4, d5, d6, d7, d8⟩ := hD
  have D4 := hide d4
  have D5 := hide d5
  clear d4 d5
  go_enter Try.func61, Try.ntmps61
  go_wp2_with fail
  refine (dLeft_c h cap _ ns a _ hD'.out).mono ?_
  rintro e w1 ⟨rfl, hb1⟩
  have HD1 := hide (hD'.out.below hb1)
  have HB1 := hide hb1
  clear hb1
  go_wp2
  go_ret2
  exact ⟨rfl, Only.of_below HB1.out, HD1.out⟩

set_option maxRecDepth 100000 in
set_option maxHeartbeats 2000000 in
theorem dFlag_form (h cap : Nat) (ao : Option Addr) (ns : List Nat) (a : Nat) (w : World) (hD : DObj w h ao cap ns a) (hn : a < ns.length) (hf : 1 < ns.getD a 0) : Calls Try.prog 61 #[.pointer (some ⟨h, 0, none⟩)] w (fun e w' => e = .returned (.tuple #[.bool false, .int .i64 111]) ∧ Only h w w' ∧ DObj w' h ao cap ns a) := by
  have hD' := hide hD
  obtain ⟨d1, d2, d3, d4, d5, d6, d7, d8⟩ := hD
  have D4 := hide d4
  have D5 := hide d5
  clear d4 d5
  obtain ⟨b, off, hao, hb, hbh, hbc⟩ := D4.out (by rintro rfl; simp at hn)
  subst hao
  have HBC := hide hbc
  have hx : ¬ ((ns.length : Int) - (a : Int) < 1) := by omega
  have hf256 := getD_lt D5.out a
  have fa : w.cell? ⟨b, off + a, none⟩ = some (.int .u8 (ns.getD a 0 : Int)) := hbc a hn
  clear hbc
  generalize hfe : ns.getD a 0 = f at *
  have HFE := hide hfe
  clear hfe
  have hf' : (1 : Int) < (f : Int) := by omega
  go_enter Try.func61, Try.ntmps61
  go_wp2_with fail
  refine (dLeft_c h cap _ ns a _ hD'.out).mono ?_
  rintro e w1 ⟨rfl, hb1⟩
  have HD1 := hide (hD'.out.below hb1)
  have HB1 := hide hb1
  clear hb1
  obtain ⟨e1, e2, e3, _, _, _, _, _⟩ := HD1.out
  have fa1 : w1.cell? ⟨b, off + a, none⟩ = some (.int .u8 (f : Int)) := (HB1.out.cell (p := ⟨b, off + a, none⟩) hb).trans fa
  clear d2 d3 fa
  go_wp2
  go_quiet (fail)
  go_wp2
  go_ret2
  exact ⟨rfl, Only.of_below (bdrewN HB1.out _), HD1.out.below (bdrewN (Below.refl w1.heap.size w1) _)⟩

set_option maxRecDepth 100000 in
set_option maxHeartbeats 2000000 in
theorem dFlag_one (h cap : Nat) (ao : Option Addr) (ns : List Nat) (a : Nat) (w : World) (hD : DObj w h ao cap ns a) (hn : a < ns.length) (hf : ns.getD a 0 = 1) : Calls Try.prog 61 #[.pointer (some ⟨h, 0, none⟩)] w (fun e w' => e = .returned (.tuple #[.bool true, .int .i64 0]) ∧ Only h w w' ∧ DObj w' h ao cap ns (a + 1)) := by
  have hD' := hide hD
  obtain ⟨d1, d2, d3, d4, d5, d6, d7, d8⟩ := hD
  have D4 := hide d4
  have D5 := hide d5
  clear d4 d5
  obtain ⟨b, off, hao, hb, hbh, hbc⟩ := D4.out (by rintro rfl; simp at hn)
  subst hao
  have HBC := hide hbc
  have hx : ¬ ((ns.length : Int) - (a : Int) < 1) := by omega
  have hf256 := getD_lt D5.out a
  have fa : w.cell? ⟨b, off + a, none⟩ = some (.int .u8 (ns.getD a 0 : Int)) := hbc a hn
  clear hbc
  rw [hf] at fa
  have ha1 : IntKind.i64.wrap ((a : Int) + 1) = (a : Int) + 1 := by (simp [IntKind.wrap, IntKind.bits, IntKind.signed]; omega)
  clear hf hf256
  go_enter Try.func61, Try.ntmps61
  go_wp2_with fail
  refine (dLeft_c h cap _ ns a _ hD'.out).mono ?_
  rintro e w1 ⟨rfl, hb1⟩
  have HD1 := hide (hD'.out.below hb1)
  have HB1 := hide hb1
  clear hb1
  obtain ⟨e1, e2, e3, _, _, _, _, _⟩ := HD1.out
  have fa1 : w1.cell? ⟨b, off + a, none⟩ = some (.int .u8 ((1 : Nat) : Int)) := (HB1.out.cell (p := ⟨b, off + a, none⟩) hb).trans fa
  clear d2 d3 fa
  go_wp2
  go_quiet (fail)
  go_wp2
  have hb1d : Below w1.heap.size w1 (w1.drewN nq) := bdrewN (Below.refl _ _) nq
  have HDm := hide ((HD1.out.below hb1d).move (a' := a + 1) (by omega))
  have HOm := hide ((Only.of_below (g := h) (HB1.out.trans (hb1d.mono HB1.out.size))).set 1 (.int .i64 ((a + 1 : Nat) : Int)))
  clear hb1d
  go_quiet (fail)
  go_wp2
  go_ret2
  exact ⟨rfl, HOm.out.trans_below (bdrewN (Below.refl _ _) _), HDm.out.below (bdrewN (Below.refl _ _) _)⟩

set_option maxRecDepth 100000 in
set_option maxHeartbeats 2000000 in
theorem dFlag_no (h cap : Nat) (ao : Option Addr) (ns : List Nat) (a : Nat) (w : World) (hD : DObj w h ao cap ns a) (hn : a < ns.length) (hf : ns.getD a 0 = 0) : Calls Try.prog 61 #[.pointer (some ⟨h, 0, none⟩)] w (fun e w' => e = .returned (.tuple #[.bool false, .int .i64 0]) ∧ Only h w w' ∧ DObj w' h ao cap ns (a + 1)) := by
  have hD' := hide hD
  obtain ⟨d1, d2, d3, d4, d5, d6, d7, d8⟩ := hD
  have D4 := hide d4
  have D5 := hide d5
  clear d4 d5
  obtain ⟨b, off, hao, hb, hbh, hbc⟩ := D4.out (by rintro rfl; simp at hn)
  subst hao
  have HBC := hide hbc
  have hx : ¬ ((ns.length : Int) - (a : Int) < 1) := by omega
  have hf256 := getD_lt D5.out a
  have fa : w.cell? ⟨b, off + a, none⟩ = some (.int .u8 (ns.getD a 0 : Int)) := hbc a hn
  clear hbc
  rw [hf] at fa
  have ha1 : IntKind.i64.wrap ((a : Int) + 1) = (a : Int) + 1 := by (simp [IntKind.wrap, IntKind.bits, IntKind.signed]; omega)
  clear hf hf256
  go_enter Try.func61, Try.ntmps61
  go_wp2_with fail
  refine (dLeft_c h cap _ ns a _ hD'.out).mono ?_
  rintro e w1 ⟨rfl, hb1⟩
  have HD1 := hide (hD'.out.below hb1)
  have HB1 := hide hb1
  clear hb1
  obtain ⟨e1, e2, e3, _, _, _, _, _⟩ := HD1.out
  have fa1 : w1.cell? ⟨b, off + a, none⟩ = some (.int .u8 ((0 : Nat) : Int)) := (HB1.out.cell (p := ⟨b, off + a, none⟩) hb).trans fa
  clear d2 d3 fa
  go_wp2
  go_quiet (fail)
  go_wp2
  have hb1d : Below w1.heap.size w1 (w1.drewN nq) := bdrewN (Below.refl _ _) nq
  have HDm := hide ((HD1.out.below hb1d).move (a' := a + 1) (by omega))
  have HOm := hide ((Only.of_below (g := h) (HB1.out.trans (hb1d.mono HB1.out.size))).set 1 (.int .i64 ((a + 1 : Nat) : Int)))
  clear hb1d
  go_quiet (fail)
  go_wp2
  go_ret2
  exact ⟨rfl, HOm.out.trans_below (bdrewN (Below.refl _ _) _), HDm.out.below (bdrewN (Below.refl _ _) _)⟩

set_option maxRecDepth 100000 in
theorem dFlag_c (h cap : Nat) (ao : Option Addr) (ns : List Nat) (a : Nat) (w : World) (hD : DObj w h ao cap ns a) : Calls Try.prog 61 #[.pointer (some ⟨h, 0, none⟩)] w (fun e w' => e = .returned (.tuple #[.bool (fl ns a).1, .int .i64 ((fl ns a).2.1 : Int)]) ∧ Only h w w' ∧ DObj w' h ao cap ns (fl ns a).2.2) := by
  by_cases c1 : ns.length ≤ a
  · have q : fl ns a = (false, 110, a) := by unfold fl; rw [if_pos c1]
    rw [q]; exact dFlag_end h cap ao ns a w hD c1
  by_cases c2 : 1 < ns.getD a 0
  · have q : fl ns a = (false, 111, a) := by unfold fl; rw [if_neg c1, if_pos c2]
    rw [q]; exact dFlag_form h cap ao ns a w hD (by omega) c2
  by_cases c3 : ns.getD a 0 = 1
  · have q : fl ns a = (true, 0, a + 1) := by unfold fl; rw [if_neg c1, if_neg c2, c3]; rfl
    rw [q]; exact dFlag_one h cap ao ns a w hD (by omega) c3
  · have c4 : ns.getD a 0 = 0 := by omega
    have q : fl ns a = (false, 0, a + 1) := by unfold fl; rw [if_neg c1, if_neg c2, c4]; rfl
    rw [q]; exact dFlag_no h cap ao ns a w hD (by omega) c4
end Go.Proofs.Ytajkgecegefnmaa

namespace Go.Proofs.Ytajkgecegefnmaa
open Go.ChangeShapes Go.WideShapes Go.ChangeAt Go.RowKit Go.Deep
set_option linter.unusedSimpArgs false
set_option linter.unusedVariables false

set_option maxRecDepth 100000 in
set_option maxHeartbeats 1000000 in
theorem dReal_end (h cap : Nat) (ao : Option Addr) (ns : List Nat) (a : Nat) (w : World) (hD : DObj w h ao cap ns a) (hn : ns.length < a + 8) : Calls Try.prog 62 #[.pointer (some ⟨h, 0, none⟩)] w (fun e w' => e = .returned (.tuple #[.int .u64 0, .int .i64 110]) ∧ Only h w w' ∧ DObj w' h ao cap ns a) := by
  have hx : (ns.length : Int) - (a : Int) < 8 := by omega
  have hD' := hide hD
  obtain ⟨d1, d2, d3, d4, d5, d6, d7, d8⟩ := hD
  have D4 := hide d4
  have D5 := hide d5
  clear d4 d5
  go_enter Try.func62, Try.ntmps62
  go_wp2_with fail
  refine (dLeft_c h cap _ ns a _ hD'.out).mono ?_
  rintro e w1 ⟨rfl, hb1⟩
  have HD1 := hide (hD'.out.below hb1)
  have HB1 := hide hb1
  clear hb1
  go_wp2
  go_ret2
  exact ⟨rfl, Only.of_below HB1.out, HD1.out⟩

set_option maxRecDepth 100000 in
set_option maxHeartbeats 4000000 in
theorem dReal_ok (h cap : Nat) (ao : Option Addr) (ns : List Nat) (a : Nat) (w : World) (hD : DObj w h ao cap ns a) (hn : a + 8 ≤ ns.length) : Calls Try.prog 62 #[.pointer (some ⟨h, 0, none⟩)] w (fun e w' => e = .returned (.tuple #[.int .u64 (num ((ns.drop a).take 8) : Int), .int .i64 0]) ∧ Only h w w' ∧ DObj w' h ao cap ns (a + 8)) := by
  have hx : ¬ (ns.length : Int) - (a : Int) < 8 := by omega
  have hD' := hide hD
  obtain ⟨d1, d2, d3, d4, d5, d6, d7, d8⟩ := hD
  have D4 := hide d4
  have D5 := hide d5
  clear d4 d5
  obtain ⟨b, off, hao, hb, hbh, hbc⟩ := D4.out (by rintro rfl; simp at hn)
  subst hao
  have HBC := hide hbc
  clear hbc
  go_enter Try.func62, Try.ntmps62
  go_wp2_with fail
  refine (dLeft_c h cap _ ns a _ hD'.out).mono ?_
  rintro e w1 ⟨rfl, hb1⟩
  have HD1 := hide (hD'.out.below hb1)
  have HB1 := hide hb1
  clear hb1
  have BC2 := hide (show ∀ j, j < ns.length → w1.cell? ⟨b, off + j, none⟩ = some (.int .u8 (ns.getD j 0 : Int)) from fun j hj => (HB1.out.cell (p := ⟨b, off + j, none⟩) hb).trans (HBC.out j hj))
  have hb2z : b < w1.heap.size := Nat.lt_of_lt_of_le hb HB1.out.size
  obtain ⟨e1, e2, e3, _, _, _, _, _⟩ := HD1.out
  go_wp2_with fail
  go_loopw [4, 5] (fun v4 v5 wr => ∃ j : Nat, j ≤ 8 ∧ v4 = .int .u64 (num ((ns.drop a).take j) : Int) ∧ v5 = .int .i64 (j : Int) ∧ Below w1.heap.size w1 wr) (fun _ v5 _ => 8 - (intOf v5).toNat)
  case atStart => exact ⟨0, Nat.zero_le _, rfl, rfl, by (focus repeat' (first | (with_reducible exact Below.refl _ _) | (with_reducible assumption) | (with_reducible refine Below.alloc ?_ ?_ _) | (with_reducible refine Below.drew ?_) | (with_reducible refine bdrewN ?_ _) | (with_reducible refine Below.setCell ?_ ?_ _) | (first | (with_reducible exact Nat.le_refl _) | (with_reducible assumption) | omega | (simp; omega) | (simp; done))))⟩
  case round =>
    obtain ⟨j, hj, rfl, rfl, rB⟩ := hrel
    have f1 : ∀ o, wr.cell? ⟨h, o, none⟩ = (#[Value.slice (some ⟨b, off, none⟩) ns.length cap, Value.int .i64 (a : Int)] : Array Value)[o]? := fun o => (rB.cell (p := ⟨h, o, none⟩) e1).trans (e2 o)
    have f2 : ∀ o, wr.frozen? ⟨h, o, none⟩ = false := fun o => (rB.frozen (p := ⟨h, o, none⟩) e1).trans (e3 o)
    have hzr : w1.heap.size ≤ wr.heap.size := rB.size
    have hh : h < wr.heap.size := by omega
    by_cases hlt : j < 8
    · have hle : (j : Int) < 8 := by omega
      have c1 : wr.cell? ⟨b, off + (a + j), none⟩ = some (.int .u8 (ns.getD (a + j) 0 : Int)) := (rB.cell (p := ⟨b, off + (a + j), none⟩) hb2z).trans (BC2.out (a + j) (by omega))
      have hy : ns.getD (a + j) 0 < 256 := getD_lt D5.out _
      have hnx := hide (show num ((ns.drop a).take (j + 1)) = 256 * num ((ns.drop a).take j) + ns.getD (a + j) 0 from by
        rw [← num_app]
        congr 1
        rw [List.take_add_one]
        congr 1
        simp [List.getD, show a + j < ns.length by omega])
      have hX : num ((ns.drop a).take j) < 72057594037927936 := by
        have q := num_lt j ((ns.drop a).take j) (by rw [List.length_take, List.length_drop]; omega) (fun x hx => D5.out x (List.mem_of_mem_drop (List.mem_of_mem_take hx)))
        have p : 256 ^ j ≤ 256 ^ 7 := Nat.pow_le_pow_right (by decide) (by omega)
        have p7 : (256 : Nat) ^ 7 = 72057594037927936 := by decide
        omega
      have hw1 : IntKind.i64.wrap ((a : Int) + (j : Int)) = ((a + j : Nat) : Int) := by (simp [IntKind.wrap, IntKind.bits, IntKind.signed]; omega)
      have hix : a + j < ns.length := by omega
      generalize num ((ns.drop a).take j) = X at *
      generalize ns.getD (a + j) 0 = y at *
      generalize hk : a + j = k at *
      have HK := hide hk
      clear hk
      go_wp2_with fail
      go_quiet (fail)
      go_wp2
      go_roundw
      case rel => exact ⟨j + 1, by omega, by rw [hnx.out]; first | rfl | go_num, by go_num, by (focus repeat' (first | (with_reducible exact Below.refl _ _) | (with_reducible assumption) | (with_reducible refine Below.alloc ?_ ?_ _) | (with_reducible refine Below.drew ?_) | (with_reducible refine bdrewN ?_ _) | (with_reducible refine Below.setCell ?_ ?_ _) | (first | (with_reducible exact Nat.le_refl _) | (with_reducible assumption) | omega | (simp; omega) | (simp; done))))⟩
      case measure => (first | (simp [intOf]; done) | (simp [intOf]; omega))
    · obtain rfl : j = 8 := by omega
      have ha1 : IntKind.i64.wrap ((a : Int) + 8) = (a : Int) + 8 := by (simp [IntKind.wrap, IntKind.bits, IntKind.signed]; omega)
      have HDm := hide ((HD1.out.below rB).move (a' := a + 8) (by omega))
      have HOm := hide ((Only.of_below (g := h) (HB1.out.trans (rB.mono HB1.out.size))).set 1 (.int .i64 ((a + 8 : Nat) : Int)))
      generalize hXX : num ((ns.drop a).take 8) = X at *
      have HXX := hide hXX
      clear hXX
      go_wp2
      go_ret2
      exact ⟨by (rw [HXX.out]; rfl), HOm.out, HDm.out⟩

theorem dReal_c (h cap : Nat) (ao : Option Addr) (ns : List Nat) (a : Nat) (w : World) (hD : DObj w h ao cap ns a) : Calls Try.prog 62 #[.pointer (some ⟨h, 0, none⟩)] w (fun e w' => e = .returned (.tuple #[.int .u64 ((nx ns a 8).1 : Int), .int .i64 ((nx ns a 8).2.1 : Int)]) ∧ Only h w w' ∧ DObj w' h ao cap ns (nx ns a 8).2.2) := by
  by_cases c : ns.length < a + 8
  · rw [nx_end c]; exact dReal_end h cap ao ns a w hD c
  · rw [nx_ok (by omega)]; exact dReal_ok h cap ao ns a w hD (by omega)

set_option maxRecDepth 100000 in
set_option maxHeartbeats 1000000 in
theorem dText_neg (h cap : Nat) (ao : Option Addr) (ns : List Nat) (a : Nat) (m : Int) (w : World) (hD : DObj w h ao cap ns a) (hm : m < 0) : Calls Try.prog 64 #[.pointer (some ⟨h, 0, none⟩), .int .i64 m] w (fun e w' => e = .returned (.tuple #[.string ⟨#[]⟩, .int .i64 2]) ∧ Only h w w' ∧ DObj w' h ao cap ns a) := by
  have hD' := hide hD
  have hsm := hide hD.small
  have hr0 := rd_lt ns a hD.small
  have hp0 := rd_place ns a hD.le
  obtain ⟨d1, d2, d3, d4, d5, d6, d7, d8⟩ := hD
  have D4 := hide d4
  clear d4 d5
  go_enter Try.func64, Try.ntmps64
  go_wp2
  go_ret2
  exact ⟨rfl, Only.of_below (Below.refl _ _), hD'.out⟩

set_option maxRecDepth 100000 in
set_option maxHeartbeats 1000000 in
theorem dText_bad (h cap : Nat) (ao : Option Addr) (ns : List Nat) (a : Nat) (m : Nat) (w : World) (hD : DObj w h ao cap ns a) (hm : m ≤ 9223372036854775807) (hE : (rd ns a).2.1 ≠ 0) : Calls Try.prog 64 #[.pointer (some ⟨h, 0, none⟩), .int .i64 (m : Int)] w (fun e w' => e = .returned (.tuple #[.string ⟨#[]⟩, .int .i64 ((rd ns a).2.1 : Int)]) ∧ Only h w w' ∧ DObj w' h ao cap ns a) := by
  have hE' : ¬ ((rd ns a).2.1 : Int) = 0 := by omega
  have hz := (rd_zero ns a hE).2
  have hD' := hide hD
  have hsm := hide hD.small
  have hr0 := rd_lt ns a hD.small
  have hp0 := rd_place ns a hD.le
  obtain ⟨d1, d2, d3, d4, d5, d6, d7, d8⟩ := hD
  have D4 := hide d4
  clear d4 d5
  go_enter Try.func64, Try.ntmps64
  go_wp2_with fail
  refine (dNum_c h cap _ ns a _ hD'.out).mono ?_
  rw [hz]
  rintro e w1 ⟨rfl, ho1, hD1⟩
  have HD1 := hide hD1
  have HO1 := hide ho1
  clear hD1 ho1
  obtain ⟨e1, e2, e3, _, _, _, _, _⟩ := HD1.out
  go_wp2
  go_ret2
  exact ⟨rfl, HO1.out, HD1.out⟩

set_option maxRecDepth 100000 in
set_option maxHeartbeats 1000000 in
theorem dText_many (h cap : Nat) (ao : Option Addr) (ns : List Nat) (a : Nat) (m : Nat) (w : World) (hD : DObj w h ao cap ns a) (hm : m ≤ 9223372036854775807) (hE : (rd ns a).2.1 = 0) (hM : m < (rd ns a).1) : Calls Try.prog 64 #[.pointer (some ⟨h, 0, none⟩), .int .i64 (m : Int)] w (fun e w' => e = .returned (.tuple #[.string ⟨#[]⟩, .int .i64 3]) ∧ Only h w w' ∧ DObj w' h ao cap ns a) := by
  have hM' : (m : Int) < ((rd ns a).1 : Int) := by omega
  have hD' := hide hD
  have hsm := hide hD.small
  have hr0 := rd_lt ns a hD.small
  have hp0 := rd_place ns a hD.le
  obtain ⟨d1, d2, d3, d4, d5, d6, d7, d8⟩ := hD
  have D4 := hide d4
  clear d4 d5
  go_enter Try.func64, Try.ntmps64
  go_wp2_with fail
  refine (dNum_c h cap _ ns a _ hD'.out).mono ?_
  rw [hE]
  rintro e w1 ⟨rfl, ho1, hD1⟩
  have HD1 := hide hD1
  have HO1 := hide ho1
  clear hD1 ho1
  obtain ⟨e1, e2, e3, _, _, _, _, _⟩ := HD1.out
  go_wp2
  go_ret2
  exact ⟨rfl, HO1.out.set 1 _, HD1.out.move d6⟩

set_option maxRecDepth 100000 in
set_option maxHeartbeats 1000000 in
theorem dText_end (h cap : Nat) (ao : Option Addr) (ns : List Nat) (a : Nat) (m : Nat) (w : World) (hD : DObj w h ao cap ns a) (hm : m ≤ 9223372036854775807) (hE : (rd ns a).2.1 = 0) (hM : ¬ m < (rd ns a).1) (hL : ns.length - (rd ns a).2.2 < (rd ns a).1) : Calls Try.prog 64 #[.pointer (some ⟨h, 0, none⟩), .int .i64 (m : Int)] w (fun e w' => e = .returned (.tuple #[.string ⟨#[]⟩, .int .i64 110]) ∧ Only h w w' ∧ DObj w' h ao cap ns a) := by
  have hM' : ¬ (m : Int) < ((rd ns a).1 : Int) := by omega
  have hL' : ((ns.length - (rd ns a).2.2 : Nat) : Int) < ((rd ns a).1 : Int) := by omega
  have hD' := hide hD
  have hsm := hide hD.small
  have hr0 := rd_lt ns a hD.small
  have hp0 := rd_place ns a hD.le
  obtain ⟨d1, d2, d3, d4, d5, d6, d7, d8⟩ := hD
  have D4 := hide d4
  clear d4 d5
  have hk : ((ns.length : Int) - ((rd ns a).2.2 : Int)) = ((ns.length - (rd ns a).2.2 : Nat) : Int) := by omega
  have HK := hide hk
  clear hk
  go_enter Try.func64, Try.ntmps64
  go_wp2_with fail
  refine (dNum_c h cap _ ns a _ hD'.out).mono ?_
  rw [hE]
  rintro e w1 ⟨rfl, ho1, hD1⟩
  have HD1 := hide hD1
  have HO1 := hide ho1
  clear hD1 ho1
  obtain ⟨e1, e2, e3, _, _, _, _, _⟩ := HD1.out
  go_wp2_with fail
  refine (dLeft_c h cap _ ns _ _ HD1.out).mono ?_
  rw [HK.out]
  rintro e w2 ⟨rfl, hb2⟩
  have HD2 := hide (HD1.out.below hb2)
  have HO2 := hide (HO1.out.trans_below hb2)
  clear hb2 e1 e2 e3
  obtain ⟨e1, e2, e3, _, _, _, _, _⟩ := HD2.out
  go_wp2
  go_ret2
  exact ⟨rfl, HO2.out.set 1 _, HD2.out.move d6⟩

set_option maxRecDepth 100000 in
set_option maxHeartbeats 4000000 in
theorem dText_some (h cap : Nat) (ao : Option Addr) (ns : List Nat) (a : Nat) (m : Nat) (w : World) (hD : DObj w h ao cap ns a) (hm : m ≤ 9223372036854775807) (hE : (rd ns a).2.1 = 0) (hM : ¬ m < (rd ns a).1) (hL : ¬ ns.length - (rd ns a).2.2 < (rd ns a).1) (hn : 0 < (rd ns a).1) : Calls Try.prog 64 #[.pointer (some ⟨h, 0, none⟩), .int .i64 (m : Int)] w (fun e w' => e = .returned (.tuple #[.string (bstr ((ns.drop (rd ns a).2.2).take (rd ns a).1)), .int .i64 0]) ∧ Only h w w' ∧ DObj w' h ao cap ns ((rd ns a).2.2 + (rd ns a).1)) := by
  have hM' : ¬ (m : Int) < ((rd ns a).1 : Int) := by omega
  have hL' : ¬ ((ns.length - (rd ns a).2.2 : Nat) : Int) < ((rd ns a).1 : Int) := by omega
  have hne : ns ≠ [] := by (rintro rfl; have := rd_some hE; simp at this)
  have hD' := hide hD
  have hsm := hide hD.small
  have hr0 := rd_lt ns a hD.small
  have hp0 := rd_place ns a hD.le
  obtain ⟨d1, d2, d3, d4, d5, d6, d7, d8⟩ := hD
  have D4 := hide d4
  clear d4 d5
  have hk : ((ns.length : Int) - ((rd ns a).2.2 : Int)) = ((ns.length - (rd ns a).2.2 : Nat) : Int) := by omega
  have HK := hide hk
  clear hk
  obtain ⟨b, off, hao, hb, hbh, hbc⟩ := D4.out hne
  subst hao
  have HBC := hide hbc
  have HN := hide hn
  clear hbc hne hn
  go_enter Try.func64, Try.ntmps64
  go_wp2_with fail
  refine (dNum_c h cap _ ns a _ hD'.out).mono ?_
  rw [hE]
  rintro e w1 ⟨rfl, ho1, hD1⟩
  have HD1 := hide hD1
  have HO1 := hide ho1
  clear hD1 ho1
  obtain ⟨e1, e2, e3, _, _, _, _, _⟩ := HD1.out
  go_wp2_with fail
  refine (dLeft_c h cap _ ns _ _ HD1.out).mono ?_
  rw [HK.out]
  rintro e w2 ⟨rfl, hb2⟩
  have HD2 := hide (HD1.out.below hb2)
  have HO2 := hide (HO1.out.trans_below hb2)
  clear hb2 e1 e2 e3
  obtain ⟨e1, e2, e3, _, _, _, _, _⟩ := HD2.out
  have hb2z : b < w2.heap.size := Nat.lt_of_lt_of_le hb HO2.out.size
  have BC2 := hide (show ∀ j, j < ns.length → w2.cell? ⟨b, off + j, none⟩ = some (.int .u8 (ns.getD j 0 : Int)) from fun j hj => (World.cell?_of_block (HO2.out.block b hb hbh)).trans (HBC.out j hj))
  generalize hn0 : (rd ns a).1 = n at *
  generalize hpl0 : (rd ns a).2.2 = pl at *
  have HN0 := hide hn0
  have HPL0 := hide hpl0
  clear hn0 hpl0
  have hfit : pl + n ≤ ns.length := by omega
  obtain ⟨E, hEq⟩ : ∃ E, pl + n = E := ⟨_, rfl⟩
  have hw0 : IntKind.i64.wrap ((pl : Int) + (n : Int)) = (E : Int) := by (simp [IntKind.wrap, IntKind.bits, IntKind.signed]; omega)
  have hw1 : IntKind.i64.wrap ((E : Int) - (n : Int)) = (pl : Int) := by (simp [IntKind.wrap, IntKind.bits, IntKind.signed]; omega)
  have hw2 : E ≤ cap := by omega
  have hw3 : pl ≤ E := by omega
  have hn63 : (n : Int) < 9223372036854775808 := by omega
  have hEl : E ≤ ns.length := by omega
  have HEq := hide hEq
  have HDm := hide (HD2.out.move (a' := E) hEl)
  have HOm := hide (HO2.out.set 1 (.int .i64 (E : Int)))
  have hca : ¬ cap = pl := by (have := HN.out; omega)
  have hrl : ((ns.drop pl).take n).length = E - pl := by (rw [List.length_take, List.length_drop]; omega)
  have CV : ∀ k, Sem.run Try.prog (convert 28 9 (.slice (some ⟨b, off + pl, none⟩) (E - pl) (cap - pl))) ((w2.setCell ⟨h, 1, none⟩ (.int .i64 (E : Int))).drewN k) = .ok (.string (bstr ((ns.drop pl).take n))) ((w2.setCell ⟨h, 1, none⟩ (.int .i64 (E : Int))).drewN k) := fun k => by
    have q := conv28 ((w2.setCell ⟨h, 1, none⟩ (.int .i64 (E : Int))).drewN k) b (off + pl) (cap - pl) ((ns.drop pl).take n) (fun i hi => by
      rw [hrl] at hi
      have q1 : ((w2.setCell ⟨h, 1, none⟩ (.int .i64 (E : Int))).drewN k).cell? ⟨b, off + (pl + i), none⟩ = w2.cell? ⟨b, off + (pl + i), none⟩ := by
        have q0 := (bdrewN (Below.refl _ (w2.setCell ⟨h, 1, none⟩ (.int .i64 (E : Int)))) k).cell (p := ⟨b, off + (pl + i), none⟩) (show b < _ by simpa using hb2z)
        exact q0.trans (World.cell?_of_block (Below.heap_setCell _ _ _ _ hbh))
      have q2 := BC2.out (pl + i) (by omega)
      rw [← Nat.add_assoc] at q1 q2
      rw [q1, q2]
      simp [List.getD, show i < n by omega, show pl + i < ns.length by omega])
    rw [hrl] at q
    exact q
  generalize hst : bstr ((ns.drop pl).take n) = st at *
  have HST := hide hst
  clear hst hrl hEq
  go_wp2
  go_quiet (fail)
  go_wp2
  go_ret2
  exact ⟨by (rw [HPL0.out, HN0.out, HST.out]; rfl), HOm.out.trans_below (bdrewN (Below.refl _ _) _), by (rw [HPL0.out, HN0.out, HEq.out]; exact HDm.out.below (bdrewN (Below.refl _ _) _))⟩

set_option maxRecDepth 100000 in
set_option maxHeartbeats 4000000 in
theorem dText_none (h cap : Nat) (ao : Option Addr) (ns : List Nat) (a : Nat) (m : Nat) (w : World) (hD : DObj w h ao cap ns a) (hm : m ≤ 9223372036854775807) (hE : (rd ns a).2.1 = 0) (hM : ¬ m < (rd ns a).1) (hL : ¬ ns.length - (rd ns a).2.2 < (rd ns a).1) (hn : (rd ns a).1 = 0) : Calls Try.prog 64 #[.pointer (some ⟨h, 0, none⟩), .int .i64 (m : Int)] w (fun e w' => e = .returned (.tuple #[.string (bstr ((ns.drop (rd ns a).2.2).take (rd ns a).1)), .int .i64 0]) ∧ Only h w w' ∧ DObj w' h ao cap ns ((rd ns a).2.2 + (rd ns a).1)) := by
  have hM' : ¬ (m : Int) < ((rd ns a).1 : Int) := by omega
  have hL' : ¬ ((ns.length - (rd ns a).2.2 : Nat) : Int) < ((rd ns a).1 : Int) := by omega
  have hne : ns ≠ [] := by (rintro rfl; have := rd_some hE; simp at this)
  have hD' := hide hD
  have hsm := hide hD.small
  have hr0 := rd_lt ns a hD.small
  have hp0 := rd_place ns a hD.le
  obtain ⟨d1, d2, d3, d4, d5, d6, d7, d8⟩ := hD
  have D4 := hide d4
  clear d4 d5
  have hk : ((ns.length : Int) - ((rd ns a).2.2 : Int)) = ((ns.length - (rd ns a).2.2 : Nat) : Int) := by omega
  have HK := hide hk
  clear hk
  obtain ⟨b, off, hao, hb, hbh, hbc⟩ := D4.out hne
  subst hao
  have HBC := hide hbc
  have HN := hide hn
  clear hbc hne hn
  go_enter Try.func64, Try.ntmps64
  go_wp2_with fail
  refine (dNum_c h cap _ ns a _ hD'.out).mono ?_
  rw [hE]
  rintro e w1 ⟨rfl, ho1, hD1⟩
  have HD1 := hide hD1
  have HO1 := hide ho1
  clear hD1 ho1
  obtain ⟨e1, e2, e3, _, _, _, _, _⟩ := HD1.out
  go_wp2_with fail
  refine (dLeft_c h cap _ ns _ _ HD1.out).mono ?_
  rw [HK.out]
  rintro e w2 ⟨rfl, hb2⟩
  have HD2 := hide (HD1.out.below hb2)
  have HO2 := hide (HO1.out.trans_below hb2)
  clear hb2 e1 e2 e3
  obtain ⟨e1, e2, e3, _, _, _, _, _⟩ := HD2.out
  have hb2z : b < w2.heap.size := Nat.lt_of_lt_of_le hb HO2.out.size
  have BC2 := hide (show ∀ j, j < ns.length → w2.cell? ⟨b, off + j, none⟩ = some (.int .u8 (ns.getD j 0 : Int)) from fun j hj => (World.cell?_of_block (HO2.out.block b hb hbh)).trans (HBC.out j hj))
  generalize hn0 : (rd ns a).1 = n at *
  generalize hpl0 : (rd ns a).2.2 = pl at *
  have HN0 := hide hn0
  have HPL0 := hide hpl0
  clear hn0 hpl0
  have hfit : pl + n ≤ ns.length := by omega
  obtain ⟨E, hEq⟩ : ∃ E, pl + n = E := ⟨_, rfl⟩
  have hw0 : IntKind.i64.wrap ((pl : Int) + (n : Int)) = (E : Int) := by (simp [IntKind.wrap, IntKind.bits, IntKind.signed]; omega)
  have hw1 : IntKind.i64.wrap ((E : Int) - (n : Int)) = (pl : Int) := by (simp [IntKind.wrap, IntKind.bits, IntKind.signed]; omega)
  have hw2 : E ≤ cap := by omega
  have hw3 : pl ≤ E := by omega
  have hn63 : (n : Int) < 9223372036854775808 := by omega
  have hEl : E ≤ ns.length := by omega
  have HEq := hide hEq
  have HDm := hide (HD2.out.move (a' := E) hEl)
  have HOm := hide (HO2.out.set 1 (.int .i64 (E : Int)))
  have hn0 := HN.out
  subst hn0
  have CV := fun (w : World) p c => convert_zero w p c
  have hE2 : E = pl := by omega
  subst hE2
  clear hEq
  by_cases hca : cap = E
  · go_wp2
    go_quiet (fail)
    go_wp2
    go_ret2
    exact ⟨by (rw [HN0.out, List.take_zero, bstr_nil]; rfl), HOm.out.trans_below (bdrewN (Below.refl _ _) _), by (rw [HPL0.out, HN0.out]; exact HDm.out.below (bdrewN (Below.refl _ _) _))⟩
  · go_wp2
    go_quiet (fail)
    go_wp2
    go_ret2
    exact ⟨by (rw [HN0.out, List.take_zero, bstr_nil]; rfl), HOm.out.trans_below (bdrewN (Below.refl _ _) _), by (rw [HPL0.out, HN0.out]; exact HDm.out.below (bdrewN (Below.refl _ _) _))⟩

set_option maxRecDepth 100000 in
theorem dText_c (h cap : Nat) (ao : Option Addr) (ns : List Nat) (a : Nat) (m : Nat) (w : World) (hD : DObj w h ao cap ns a) (hm : m ≤ 9223372036854775807) : Calls Try.prog 64 #[.pointer (some ⟨h, 0, none⟩), .int .i64 (m : Int)] w (fun e w' => e = .returned (.tuple #[.string (bstr (tx ns a m).1), .int .i64 ((tx ns a m).2.1 : Int)]) ∧ Only h w w' ∧ DObj w' h ao cap ns (tx ns a m).2.2) := by
  by_cases hE : (rd ns a).2.1 = 0
  · by_cases hM : m < (rd ns a).1
    · have q : lg ns a m = (0, 3, (rd ns a).2.2) := by unfold lg; rw [if_neg (by omega), if_pos hM]
      have t : tx ns a m = ([], 3, a) := by unfold tx; rw [q, if_pos (by simp)]
      rw [t, bstr_nil]; exact dText_many h cap ao ns a m w hD hm hE hM
    · by_cases hL : ns.length - (rd ns a).2.2 < (rd ns a).1
      · have q : lg ns a m = (0, 110, (rd ns a).2.2) := by unfold lg; rw [if_neg (by omega), if_neg hM, if_pos hL]
        have t : tx ns a m = ([], 110, a) := by unfold tx; rw [q, if_pos (by simp)]
        rw [t, bstr_nil]; exact dText_end h cap ao ns a m w hD hm hE hM hL
      · have q : lg ns a m = ((rd ns a).1, 0, (rd ns a).2.2) := by unfold lg; rw [if_neg (by omega), if_neg hM, if_neg hL]
        have t : tx ns a m = ((ns.drop (rd ns a).2.2).take (rd ns a).1, 0, (rd ns a).2.2 + (rd ns a).1) := by unfold tx; rw [q, if_neg (by simp)]
        rw [t]
        by_cases hn : 0 < (rd ns a).1
        · exact dText_some h cap ao ns a m w hD hm hE hM hL hn
        · exact dText_none h cap ao ns a m w hD hm hE hM hL (by omega)
  · have q : lg ns a m = (0, (rd ns a).2.1, (rd ns a).2.2) := by unfold lg; rw [if_pos hE]
    have t : tx ns a m = ([], (rd ns a).2.1, a) := by unfold tx; rw [q, if_pos hE]
    rw [t, bstr_nil]; exact dText_bad h cap ao ns a m w hD hm hE

theorem only_grown {h : Nat} {w0 w w' : World} {row : Option Nat} (k : Only h w0 w) (hg : w.grownBy w' row) (hr : ∀ j, row = some j → w0.heap.size ≤ j) : Only h w0 w' :=
  ⟨hg.os.trans k.os, hg.tape.trans k.tape, hg.output.trans k.output, Nat.le_trans k.size hg.size, fun i hi h1 => (hg.block i (by have := k.size; omega) (fun e => by have := hr i e.symm; omega)).trans (k.block i hi h1)⟩
theorem DObj.same {w w' : World} {h : Nat} {ao : Option Addr} {cap : Nat} {ns : List Nat} {a : Nat} (k : DObj w h ao cap ns a) {B : Nat} (hs : w.heap.size ≤ w'.heap.size) (hB : h < B) (hb : ∀ ad, ao = some ad → ns ≠ [] → ad.block < B) (hbl : ∀ i, i < B → w'.heap[i]? = w.heap[i]?) : DObj w' h ao cap ns a :=
  ⟨Nat.lt_of_lt_of_le k.lt hs, fun o => (World.cell?_of_block (hbl h hB)).trans (k.cells o), fun o => (World.frozen?_of_block (hbl h hB)).trans (k.frz o), fun hn => by
    obtain ⟨b, off, h1, h3, h4, h5⟩ := k.bytes hn
    exact ⟨b, off, h1, Nat.lt_of_lt_of_le h3 hs, h4, fun j hj => (World.cell?_of_block (hbl b (hb _ h1 hn))).trans (h5 j hj)⟩, k.small, k.le, k.len, k.cap_le⟩
end Go.Proofs.Ytajkgecegefnmaa

namespace Go.Proofs.Ytajkgecegefnmaa
open Go.ChangeShapes Go.WideShapes Go.ChangeAt Go.RowKit Go.Deep
set_option linter.unusedSimpArgs false
set_option linter.unusedVariables false

set_option maxRecDepth 100000 in
set_option maxHeartbeats 1000000 in
theorem dN_U_neg (h cap : Nat) (ao : Option Addr) (ns : List Nat) (a : Nat) (m : Int) (w : World) (hD : DObj w h ao cap ns a) (hm : m < 0) : Calls Try.prog 65 #[.pointer (some ⟨h, 0, none⟩), .int .i64 m] w (fun e w' => ∃ v, e = .returned (.tuple #[v, .int .i64 2]) ∧ Only h w w' ∧ DObj w' h ao cap ns a ∧ w'.ownsRow w.heap.size 22 1 v ([] : List Value).length ([] : List Value)) := by
  have hD' := hide hD
  have hsm := hide hD.small
  have hr0 := rd_lt ns a hD.small
  have hp0 := rd_place ns a hD.le
  have hao := hide (show ∀ ad, ao = some ad → ns ≠ [] → ad.block < w.heap.size from fun ad had hn => by
    obtain ⟨b, off, h1, h2, _⟩ := hD.bytes hn
    rw [h1] at had; cases had; exact h2)
  obtain ⟨d1, d2, d3, d4, d5, d6, d7, d8⟩ := hD
  clear d4 d5
  go_enter Try.func65, Try.ntmps65
  go_wp2
  go_ret2
  exact ⟨_, rfl, Only.of_below (Below.refl _ _), hD'.out, by (refine ⟨rfl, .inl ⟨rfl, rfl⟩⟩)⟩

set_option maxRecDepth 100000 in
set_option maxHeartbeats 2000000 in
theorem dN_U_A (h cap : Nat) (ao : Option Addr) (ns : List Nat) (a : Nat) (m : Nat) (w : World) (hD : DObj w h ao cap ns a) (hm : m ≤ 9223372036854775807) (hE : (rd ns a).2.1 ≠ 0) : Calls Try.prog 65 #[.pointer (some ⟨h, 0, none⟩), .int .i64 (m : Int)] w (fun e w' => ∃ v, e = .returned (.tuple #[v, .int .i64 ((rd ns a).2.1 : Int)]) ∧ Only h w w' ∧ DObj w' h ao cap ns a ∧ w'.ownsRow w.heap.size 22 1 v ([] : List Value).length ([] : List Value)) := by
  have hE' : ¬ ((rd ns a).2.1 : Int) = 0 := by omega
  have hD' := hide hD
  have hsm := hide hD.small
  have hr0 := rd_lt ns a hD.small
  have hp0 := rd_place ns a hD.le
  have hao := hide (show ∀ ad, ao = some ad → ns ≠ [] → ad.block < w.heap.size from fun ad had hn => by
    obtain ⟨b, off, h1, h2, _⟩ := hD.bytes hn
    rw [h1] at had; cases had; exact h2)
  obtain ⟨d1, d2, d3, d4, d5, d6, d7, d8⟩ := hD
  clear d4 d5
  go_enter Try.func65, Try.ntmps65
  go_wp2_with fail
  refine (dNum_c h cap _ ns a _ hD'.out).mono ?_
  rintro e w1 ⟨rfl, ho1, hD1⟩
  have HD1 := hide hD1
  have HO1 := hide ho1
  clear hD1 ho1
  obtain ⟨e1, e2, e3, _, _, _, _, _⟩ := HD1.out
  go_wp2_with fail
  go_loopw [8, 9, 10] (fun v1 v2 v3 wr => v1 = .int .i64 ((rd ns a).2.1 : Int) ∧ v2 = .slice none 0 0 ∧ v3 = .int .u64 0 ∧ wr = w1) (fun _ _ _ _ => 0)
  case atStart => exact ⟨rfl, rfl, rfl, rfl⟩
  case round =>
    obtain ⟨rfl, rfl, rfl, rfl⟩ := hrel
    go_wp2
    go_ret2
    exact ⟨_, rfl, HO1.out.set 1 _, HD1.out.move d6, by (refine ⟨rfl, .inl ⟨rfl, rfl⟩⟩)⟩

set_option maxRecDepth 100000 in
set_option maxHeartbeats 2000000 in
theorem dN_U_B (h cap : Nat) (ao : Option Addr) (ns : List Nat) (a : Nat) (m : Nat) (w : World) (hD : DObj w h ao cap ns a) (hm : m ≤ 9223372036854775807) (hE : (rd ns a).2.1 = 0) (hM : m < (rd ns a).1) : Calls Try.prog 65 #[.pointer (some ⟨h, 0, none⟩), .int .i64 (m : Int)] w (fun e w' => ∃ v, e = .returned (.tuple #[v, .int .i64 3]) ∧ Only h w w' ∧ DObj w' h ao cap ns a ∧ w'.ownsRow w.heap.size 22 1 v ([] : List Value).length ([] : List Value)) := by
  have hM' : (m : Int) < ((rd ns a).1 : Int) := by omega
  have hD' := hide hD
  have hsm := hide hD.small
  have hr0 := rd_lt ns a hD.small
  have hp0 := rd_place ns a hD.le
  have hao := hide (show ∀ ad, ao = some ad → ns ≠ [] → ad.block < w.heap.size from fun ad had hn => by
    obtain ⟨b, off, h1, h2, _⟩ := hD.bytes hn
    rw [h1] at had; cases had; exact h2)
  obtain ⟨d1, d2, d3, d4, d5, d6, d7, d8⟩ := hD
  clear d4 d5
  go_enter Try.func65, Try.ntmps65
  go_wp2_with fail
  refine (dNum_c h cap _ ns a _ hD'.out).mono ?_
  rw [hE]
  rintro e w1 ⟨rfl, ho1, hD1⟩
  have HD1 := hide hD1
  have HO1 := hide ho1
  clear hD1 ho1
  obtain ⟨e1, e2, e3, _, _, _, _, _⟩ := HD1.out
  go_wp2_with fail
  go_loopw [8, 9, 10] (fun v1 v2 v3 wr => v1 = .int .i64 3 ∧ v2 = .slice none 0 0 ∧ v3 = .int .u64 0 ∧ wr = w1) (fun _ _ _ _ => 0)
  case atStart => exact ⟨rfl, rfl, rfl, rfl⟩
  case round =>
    obtain ⟨rfl, rfl, rfl, rfl⟩ := hrel
    go_wp2
    go_ret2
    exact ⟨_, rfl, HO1.out.set 1 _, HD1.out.move d6, by (refine ⟨rfl, .inl ⟨rfl, rfl⟩⟩)⟩

set_option maxRecDepth 100000 in
set_option maxHeartbeats 2000000 in
theorem dN_U_C (h cap : Nat) (ao : Option Addr) (ns : List Nat) (a : Nat) (m : Nat) (w : World) (hD : DObj w h ao cap ns a) (hm : m ≤ 9223372036854775807) (hE : (rd ns a).2.1 = 0) (hM : ¬ m < (rd ns a).1) (hL : ns.length - (rd ns a).2.2 < (rd ns a).1) : Calls Try.prog 65 #[.pointer (some ⟨h, 0, none⟩), .int .i64 (m : Int)] w (fun e w' => ∃ v, e = .returned (.tuple #[v, .int .i64 110]) ∧ Only h w w' ∧ DObj w' h ao cap ns a ∧ w'.ownsRow w.heap.size 22 1 v ([] : List Value).length ([] : List Value)) := by
  have hM' : ¬ (m : Int) < ((rd ns a).1 : Int) := by omega
  have hL' : ((ns.length - (rd ns a).2.2 : Nat) : Int) < ((rd ns a).1 : Int) := by omega
  have hD' := hide hD
  have hsm := hide hD.small
  have hr0 := rd_lt ns a hD.small
  have hp0 := rd_place ns a hD.le
  have hao := hide (show ∀ ad, ao = some ad → ns ≠ [] → ad.block < w.heap.size from fun ad had hn => by
    obtain ⟨b, off, h1, h2, _⟩ := hD.bytes hn
    rw [h1] at had; cases had; exact h2)
  obtain ⟨d1, d2, d3, d4, d5, d6, d7, d8⟩ := hD
  clear d4 d5
  have hk : ((ns.length : Int) - ((rd ns a).2.2 : Int)) = ((ns.length - (rd ns a).2.2 : Nat) : Int) := by omega
  have HK := hide hk
  clear hk
  go_enter Try.func65, Try.ntmps65
  go_wp2_with fail
  refine (dNum_c h cap _ ns a _ hD'.out).mono ?_
  rw [hE]
  rintro e w1 ⟨rfl, ho1, hD1⟩
  have HD1 := hide hD1
  have HO1 := hide ho1
  clear hD1 ho1
  obtain ⟨e1, e2, e3, _, _, _, _, _⟩ := HD1.out
  go_wp2_with fail
  refine (dLeft_c h cap _ ns _ _ HD1.out).mono ?_
  rw [HK.out]
  rintro e w2 ⟨rfl, hb2⟩
  have HD2 := hide (HD1.out.below hb2)
  have HO2 := hide (HO1.out.trans_below hb2)
  clear hb2 e1 e2 e3
  obtain ⟨e1, e2, e3, _, _, _, _, _⟩ := HD2.out
  go_wp2_with fail
  go_loopw [8, 9, 10] (fun v1 v2 v3 wr => v1 = .int .i64 110 ∧ v2 = .slice none 0 0 ∧ v3 = .int .u64 0 ∧ wr = w2) (fun _ _ _ _ => 0)
  case atStart => exact ⟨rfl, rfl, rfl, rfl⟩
  case round =>
    obtain ⟨rfl, rfl, rfl, rfl⟩ := hrel
    go_wp2
    go_ret2
    exact ⟨_, rfl, HO2.out.set 1 _, HD2.out.move d6, by (refine ⟨rfl, .inl ⟨rfl, rfl⟩⟩)⟩

set_option maxRecDepth 100000 in
set_option maxHeartbeats 4000000 in
theorem dN_U_D (h cap : Nat) (ao : Option Addr) (ns : List Nat) (a : Nat) (m : Nat) (w : World) (hD : DObj w h ao cap ns a) (hm : m ≤ 9223372036854775807) (hlen : ns.length ≤ 1099511627776) (hE : (rd ns a).2.1 = 0) (hM : ¬ m < (rd ns a).1) (hL : ¬ ns.length - (rd ns a).2.2 < (rd ns a).1) : Calls Try.prog 65 #[.pointer (some ⟨h, 0, none⟩), .int .i64 (m : Int)] w (fun e w' => ∃ v, e = .returned (.tuple #[v, .int .i64 ((tl (RU ns) ns a m).2.1 : Int)]) ∧ Only h w w' ∧ DObj w' h ao cap ns (tl (RU ns) ns a m).2.2 ∧ w'.ownsRow w.heap.size 22 1 v (tl (RU ns) ns a m).1.length (tl (RU ns) ns a m).1) := by
  have hM' : ¬ (m : Int) < ((rd ns a).1 : Int) := by omega
  have hL' : ¬ ((ns.length - (rd ns a).2.2 : Nat) : Int) < ((rd ns a).1 : Int) := by omega
  have hlg : lg ns a m = ((rd ns a).1, 0, (rd ns a).2.2) := by unfold lg; rw [if_neg (by omega), if_neg hM, if_neg hL]
  have htl : (tl (RU ns) ns a m) = if (tk (RU ns) (rd ns a).1 (rd ns a).2.2).2.1 ≠ 0 then ([], (tk (RU ns) (rd ns a).1 (rd ns a).2.2).2.1, a) else tk (RU ns) (rd ns a).1 (rd ns a).2.2 := by unfold tl; rw [hlg, if_neg (by simp)]
  have HTL := hide htl
  clear htl hlg
  have hD' := hide hD
  have hsm := hide hD.small
  have hr0 := rd_lt ns a hD.small
  have hp0 := rd_place ns a hD.le
  have hao := hide (show ∀ ad, ao = some ad → ns ≠ [] → ad.block < w.heap.size from fun ad had hn => by
    obtain ⟨b, off, h1, h2, _⟩ := hD.bytes hn
    rw [h1] at had; cases had; exact h2)
  obtain ⟨d1, d2, d3, d4, d5, d6, d7, d8⟩ := hD
  clear d4 d5
  have hk : ((ns.length : Int) - ((rd ns a).2.2 : Int)) = ((ns.length - (rd ns a).2.2 : Nat) : Int) := by omega
  have HK := hide hk
  clear hk
  go_enter Try.func65, Try.ntmps65
  go_wp2_with fail
  refine (dNum_c h cap _ ns a _ hD'.out).mono ?_
  rw [hE]
  rintro e w1 ⟨rfl, ho1, hD1⟩
  have HD1 := hide hD1
  have HO1 := hide ho1
  clear hD1 ho1
  obtain ⟨e1, e2, e3, _, _, _, _, _⟩ := HD1.out
  go_wp2_with fail
  refine (dLeft_c h cap _ ns _ _ HD1.out).mono ?_
  rw [HK.out]
  rintro e w2 ⟨rfl, hb2⟩
  have HD2 := hide (HD1.out.below hb2)
  have HO2 := hide (HO1.out.trans_below hb2)
  clear hb2 e1 e2 e3
  obtain ⟨e1, e2, e3, _, _, _, _, _⟩ := HD2.out
  have hz2 : w.heap.size ≤ w2.heap.size := HO2.out.size
  generalize hn0 : (rd ns a).1 = n at *
  generalize hpl0 : (rd ns a).2.2 = pl at *
  have hnn : n ≤ 1099511627776 := by omega
  clear e1 e2 e3 HD1 HO1
  go_wp2_with fail
  go_loopw [8, 9, 10] (fun v1 v2 v3 wr => ∃ (i p er : Nat) (xs : List Value), v1 = .int .i64 (er : Int) ∧ v3 = .int .u64 (i : Int) ∧ i ≤ n ∧ xs.length ≤ n ∧ Only h w wr ∧ DObj wr h ao cap ns p ∧ wr.ownsRow w.heap.size 22 1 v2 xs.length xs ∧ ((er = 0 ∧ xs.length = i ∧ tk (RU ns) n pl = (xs ++ (tk (RU ns) (n - i) p).1, (tk (RU ns) (n - i) p).2.1, (tk (RU ns) (n - i) p).2.2)) ∨ (er ≠ 0 ∧ (tk (RU ns) n pl).2.1 = er))) (fun _ _ v3 _ => n - (intOf v3).toNat)
  case atStart => exact ⟨0, pl, 0, [], rfl, rfl, Nat.zero_le _, Nat.zero_le _, HO2.out, HD2.out, World.ownsRow_nil _ _ _ _, .inl ⟨rfl, rfl, by simp⟩⟩
  case round =>
    obtain ⟨i, p, er, xs, rfl, rfl, hi, hxn, hO, hD, hown, hl⟩ := hrel
    have HOr := hide hO
    have HDr := hide hD
    have HWr := hide hown
    obtain ⟨k1, k2, k3, _, _, _, _, _⟩ := hD
    clear hO hown HO2 HD2
    by_cases her : er = 0
    · subst her
      have hl1 := hl.resolve_right (fun h => h.1 rfl)
      clear hl
      obtain ⟨_, rfl, hl2⟩ := hl1
      have HL1 := hide hl2
      clear hl2
      by_cases hlt : xs.length < n
      · have hlt' : (xs.length : Int) < (n : Int) := by omega
        obtain ⟨k, hk⟩ : ∃ k, n - xs.length = k + 1 := ⟨n - xs.length - 1, by omega⟩
        have hl2 := HL1.out
        rw [hk] at hl2
        have HL2 := hide hl2
        have q0 := tk_ok (RU ns) k p
        have q1 := tk_bad (RU ns) k p
        have HQ0 := hide q0
        have HQ1 := hide q1
        have hRp : RU ns p = (.int .u64 ((rd ns p).1 : Int), (rd ns p).2.1, (rd ns p).2.2) := rfl
        have HRp := hide hRp
        clear hRp q0 q1 hl2 HL1 k2 k3
        go_wp2_with fail
        refine (dNum_c h cap _ ns p _ HDr.out).mono ?_
        rintro e w6 ⟨rfl, ho6, hD6⟩
        have HD6 := hide hD6
        have HO6 := hide (HOr.out.trans ho6)
        have HW6 := hide (own_only HWr.out ho6 d1)
        have hz6 : w.heap.size ≤ w6.heap.size := HO6.out.size
        clear ho6 hD6 HDr HOr HWr
        generalize (rd ns p).1 = rv at *
        generalize (rd ns p).2.1 = re at *
        generalize (rd ns p).2.2 = rp at *
        obtain ⟨i0, hi0, hz0, hz1', hz2'⟩ := info_parts info22
        go_wp2_with (at_builtin; refine wpList_append_lies _ rfl (.tmp 55) (.tmp 57) 57 rfl w.heap.size 22 i0 (.int .u64 0) 1 8 Try.underlying57 hi0 hz0 hz1' hz2' rfl (by decide) _ xs.length xs rfl (HW6.out.alloc _) ⟨w6.heap.size, 0, none⟩ 1 1 [.int .u64 (rv : Int)] rfl rfl (cell_one_new _ _ _) (by intro u hu; simp at hu; subst hu; rfl) (by decide) (by unfold maxLen; omega) (by omega) (by (simp; omega)) _ rfl ?_; intro g2 cap2 wn hown2 hg2 hgg hgl)
        have hro := fun j hj => (HW6.out.lt j hj).1
        have hA : Below w6.heap.size w6 (w6.alloc (.cells #[.int .u64 (rv : Int)] 22)) := by (focus repeat' (first | (with_reducible exact Below.refl _ _) | (with_reducible assumption) | (with_reducible refine Below.alloc ?_ ?_ _) | (with_reducible refine Below.drew ?_) | (with_reducible refine bdrewN ?_ _) | (with_reducible refine Below.setCell ?_ ?_ _) | (first | (with_reducible exact Nat.le_refl _) | (with_reducible assumption) | omega | (simp; omega) | (simp; done))))
        have HOn := hide (only_grown (HO6.out.trans_below hA) hg2 hro)
        have HDn := hide ((HD6.out.below hA).same (B := w.heap.size) hg2.size d1 hao.out (fun i hi => hg2.block i (by (simp; omega)) (fun e => by have := hro i e.symm; omega)))
        have HWn := hide hown2
        clear hown2 hg2 hgg hro hA HW6 HD6 HO6
        go_roundw
        case rel =>
          refine ⟨xs.length + 1, rp, re, xs ++ [.int .u64 (rv : Int)], rfl, by go_num, by omega, by (rw [List.length_append]; simp; omega), HOn.out, HDn.out, by (rw [List.length_append]; exact HWn.out), ?_⟩
          have q0 := HQ0.out
          have q1 := HQ1.out
          rw [HRp.out] at q0 q1
          by_cases hre : re = 0
          · subst hre
            refine .inl ⟨rfl, by (rw [List.length_append]; rfl), ?_⟩
            rw [HL2.out, q0 rfl, show n - (xs.length + 1) = k from by omega]
            simp
          · refine .inr ⟨hre, ?_⟩
            rw [HL2.out]
            exact q1 hre
        case measure => (first | (simp [intOf]; done) | (simp [intOf]; omega))
      · have hlt' : ¬ ((xs.length : Int) < (n : Int)) := by omega
        have htk : tk (RU ns) n pl = (xs, 0, p) := by
          rw [HL1.out, show n - xs.length = 0 from by omega]
          show (xs ++ [], 0, p) = _
          rw [List.append_nil]
        have htl2 := HTL.out
        rw [htk, if_neg (by simp)] at htl2
        have HT2 := hide htl2
        clear htl2 htk HL1
        go_wp2
        go_ret2
        rw [HT2.out]
        exact ⟨_, rfl, HOr.out, HDr.out, HWr.out⟩
    · have hl1 := hl.resolve_left (fun h => her h.1)
      have her2 : ¬ (er : Int) = 0 := by omega
      have htl2 := HTL.out
      rw [if_pos (by rw [hl1.2]; exact her), hl1.2] at htl2
      have HT2 := hide htl2
      clear htl2 hl
      go_wp2
      go_ret2
      rw [HT2.out]
      exact ⟨_, rfl, HOr.out.set 1 _, HDr.out.move d6, by (refine ⟨rfl, .inl ⟨rfl, rfl⟩⟩)⟩

theorem dN_U_c (h cap : Nat) (ao : Option Addr) (ns : List Nat) (a : Nat) (m : Nat) (w : World) (hD : DObj w h ao cap ns a) (hm : m ≤ 9223372036854775807) (hlen : ns.length ≤ 1099511627776) : Calls Try.prog 65 #[.pointer (some ⟨h, 0, none⟩), .int .i64 (m : Int)] w (fun e w' => ∃ v, e = .returned (.tuple #[v, .int .i64 ((tl (RU ns) ns a m).2.1 : Int)]) ∧ Only h w w' ∧ DObj w' h ao cap ns (tl (RU ns) ns a m).2.2 ∧ w'.ownsRow w.heap.size 22 1 v (tl (RU ns) ns a m).1.length (tl (RU ns) ns a m).1) := by
  by_cases hE : (rd ns a).2.1 = 0
  · by_cases hM : m < (rd ns a).1
    · have q : (lg ns a m).2.1 = 3 := by unfold lg; rw [if_neg (by omega), if_pos hM]
      have t : (tl (RU ns) ns a m) = ([], 3, a) := by unfold tl; rw [if_pos (by rw [q]; decide), q]
      rw [t]; exact dN_U_B h cap ao ns a m w hD hm hE hM
    · by_cases hL : ns.length - (rd ns a).2.2 < (rd ns a).1
      · have q : (lg ns a m).2.1 = 110 := by unfold lg; rw [if_neg (by omega), if_neg hM, if_pos hL]
        have t : (tl (RU ns) ns a m) = ([], 110, a) := by unfold tl; rw [if_pos (by rw [q]; decide), q]
        rw [t]; exact dN_U_C h cap ao ns a m w hD hm hE hM hL
      · exact dN_U_D h cap ao ns a m w hD hm hlen hE hM hL
  · have q : (lg ns a m).2.1 = (rd ns a).2.1 := by unfold lg; rw [if_pos hE]
    have t : (tl (RU ns) ns a m) = ([], (rd ns a).2.1, a) := by unfold tl; rw [if_pos (by rw [q]; exact hE), q]
    rw [t]; exact dN_U_A h cap ao ns a m w hD hm hE
end Go.Proofs.Ytajkgecegefnmaa

namespace Go.Proofs.Ytajkgecegefnmaa
open Go.ChangeShapes Go.WideShapes Go.ChangeAt Go.RowKit Go.Deep
set_option linter.unusedSimpArgs false
set_option linter.unusedVariables false

set_option maxRecDepth 100000 in
set_option maxHeartbeats 1000000 in
theorem dN_S_neg (h cap : Nat) (ao : Option Addr) (ns : List Nat) (a : Nat) (m : Int) (w : World) (hD : DObj w h ao cap ns a) (hm : m < 0) : Calls Try.prog 68 #[.pointer (some ⟨h, 0, none⟩), .int .i64 m, .int .i64 9] w (fun e w' => ∃ v, e = .returned (.tuple #[v, .int .i64 2]) ∧ Only h w w' ∧ DObj w' h ao cap ns a ∧ w'.ownsRow w.heap.size 9 1 v ([] : List Value).length ([] : List Value)) := by
  have hD' := hide hD
  have hsm := hide hD.small
  have hr0 := rd_lt ns a hD.small
  have hp0 := rd_place ns a hD.le
  have hao := hide (show ∀ ad, ao = some ad → ns ≠ [] → ad.block < w.heap.size from fun ad had hn => by
    obtain ⟨b, off, h1, h2, _⟩ := hD.bytes hn
    rw [h1] at had; cases had; exact h2)
  obtain ⟨d1, d2, d3, d4, d5, d6, d7, d8⟩ := hD
  clear d4 d5
  go_enter Try.func68, Try.ntmps68
  go_wp2
  go_ret2
  exact ⟨_, rfl, Only.of_below (Below.refl _ _), hD'.out, by (refine ⟨rfl, .inl ⟨rfl, rfl⟩⟩)⟩

set_option maxRecDepth 100000 in
set_option maxHeartbeats 2000000 in
theorem dN_S_A (h cap : Nat) (ao : Option Addr) (ns : List Nat) (a : Nat) (m : Nat) (w : World) (hD : DObj w h ao cap ns a) (hm : m ≤ 9223372036854775807) (hE : (rd ns a).2.1 ≠ 0) : Calls Try.prog 68 #[.pointer (some ⟨h, 0, none⟩), .int .i64 (m : Int), .int .i64 9] w (fun e w' => ∃ v, e = .returned (.tuple #[v, .int .i64 ((rd ns a).2.1 : Int)]) ∧ Only h w w' ∧ DObj w' h ao cap ns a ∧ w'.ownsRow w.heap.size 9 1 v ([] : List Value).length ([] : List Value)) := by
  have hE' : ¬ ((rd ns a).2.1 : Int) = 0 := by omega
  have hD' := hide hD
  have hsm := hide hD.small
  have hr0 := rd_lt ns a hD.small
  have hp0 := rd_place ns a hD.le
  have hao := hide (show ∀ ad, ao = some ad → ns ≠ [] → ad.block < w.heap.size from fun ad had hn => by
    obtain ⟨b, off, h1, h2, _⟩ := hD.bytes hn
    rw [h1] at had; cases had; exact h2)
  obtain ⟨d1, d2, d3, d4, d5, d6, d7, d8⟩ := hD
  clear d4 d5
  go_enter Try.func68, Try.ntmps68
  go_wp2_with fail
  refine (dNum_c h cap _ ns a _ hD'.out).mono ?_
  rintro e w1 ⟨rfl, ho1, hD1⟩
  have HD1 := hide hD1
  have HO1 := hide ho1
  clear hD1 ho1
  obtain ⟨e1, e2, e3, _, _, _, _, _⟩ := HD1.out
  go_wp2_with fail
  go_loopw [10, 11, 12] (fun v1 v2 v3 wr => v1 = .int .i64 ((rd ns a).2.1 : Int) ∧ v2 = .slice none 0 0 ∧ v3 = .int .u64 0 ∧ wr = w1) (fun _ _ _ _ => 0)
  case atStart => exact ⟨rfl, rfl, rfl, rfl⟩
  case round =>
    obtain ⟨rfl, rfl, rfl, rfl⟩ := hrel
    go_wp2
    go_ret2
    exact ⟨_, rfl, HO1.out.set 1 _, HD1.out.move d6, by (refine ⟨rfl, .inl ⟨rfl, rfl⟩⟩)⟩

set_option maxRecDepth 100000 in
set_option maxHeartbeats 2000000 in
theorem dN_S_B (h cap : Nat) (ao : Option Addr) (ns : List Nat) (a : Nat) (m : Nat) (w : World) (hD : DObj w h ao cap ns a) (hm : m ≤ 9223372036854775807) (hE : (rd ns a).2.1 = 0) (hM : m < (rd ns a).1) : Calls Try.prog 68 #[.pointer (some ⟨h, 0, none⟩), .int .i64 (m : Int), .int .i64 9] w (fun e w' => ∃ v, e = .returned (.tuple #[v, .int .i64 3]) ∧ Only h w w' ∧ DObj w' h ao cap ns a ∧ w'.ownsRow w.heap.size 9 1 v ([] : List Value).length ([] : List Value)) := by
  have hM' : (m : Int) < ((rd ns a).1 : Int) := by omega
  have hD' := hide hD
  have hsm := hide hD.small
  have hr0 := rd_lt ns a hD.small
  have hp0 := rd_place ns a hD.le
  have hao := hide (show ∀ ad, ao = some ad → ns ≠ [] → ad.block < w.heap.size from fun ad had hn => by
    obtain ⟨b, off, h1, h2, _⟩ := hD.bytes hn
    rw [h1] at had; cases had; exact h2)
  obtain ⟨d1, d2, d3, d4, d5, d6, d7, d8⟩ := hD
  clear d4 d5
  go_enter Try.func68, Try.ntmps68
  go_wp2_with fail
  refine (dNum_c h cap _ ns a _ hD'.out).mono ?_
  rw [hE]
  rintro e w1 ⟨rfl, ho1, hD1⟩
  have HD1 := hide hD1
  have HO1 := hide ho1
  clear hD1 ho1
  obtain ⟨e1, e2, e3, _, _, _, _, _⟩ := HD1.out
  go_wp2_with fail
  go_loopw [10, 11, 12] (fun v1 v2 v3 wr => v1 = .int .i64 3 ∧ v2 = .slice none 0 0 ∧ v3 = .int .u64 0 ∧ wr = w1) (fun _ _ _ _ => 0)
  case atStart => exact ⟨rfl, rfl, rfl, rfl⟩
  case round =>
    obtain ⟨rfl, rfl, rfl, rfl⟩ := hrel
    go_wp2
    go_ret2
    exact ⟨_, rfl, HO1.out.set 1 _, HD1.out.move d6, by (refine ⟨rfl, .inl ⟨rfl, rfl⟩⟩)⟩

set_option maxRecDepth 100000 in
set_option maxHeartbeats 2000000 in
theorem dN_S_C (h cap : Nat) (ao : Option Addr) (ns : List Nat) (a : Nat) (m : Nat) (w : World) (hD : DObj w h ao cap ns a) (hm : m ≤ 9223372036854775807) (hE : (rd ns a).2.1 = 0) (hM : ¬ m < (rd ns a).1) (hL : ns.length - (rd ns a).2.2 < (rd ns a).1) : Calls Try.prog 68 #[.pointer (some ⟨h, 0, none⟩), .int .i64 (m : Int), .int .i64 9] w (fun e w' => ∃ v, e = .returned (.tuple #[v, .int .i64 110]) ∧ Only h w w' ∧ DObj w' h ao cap ns a ∧ w'.ownsRow w.heap.size 9 1 v ([] : List Value).length ([] : List Value)) := by
  have hM' : ¬ (m : Int) < ((rd ns a).1 : Int) := by omega
  have hL' : ((ns.length - (rd ns a).2.2 : Nat) : Int) < ((rd ns a).1 : Int) := by omega
  have hD' := hide hD
  have hsm := hide hD.small
  have hr0 := rd_lt ns a hD.small
  have hp0 := rd_place ns a hD.le
  have hao := hide (show ∀ ad, ao = some ad → ns ≠ [] → ad.block < w.heap.size from fun ad had hn => by
    obtain ⟨b, off, h1, h2, _⟩ := hD.bytes hn
    rw [h1] at had; cases had; exact h2)
  obtain ⟨d1, d2, d3, d4, d5, d6, d7, d8⟩ := hD
  clear d4 d5
  have hk : ((ns.length : Int) - ((rd ns a).2.2 : Int)) = ((ns.length - (rd ns a).2.2 : Nat) : Int) := by omega
  have HK := hide hk
  clear hk
  go_enter Try.func68, Try.ntmps68
  go_wp2_with fail
  refine (dNum_c h cap _ ns a _ hD'.out).mono ?_
  rw [hE]
  rintro e w1 ⟨rfl, ho1, hD1⟩
  have HD1 := hide hD1
  have HO1 := hide ho1
  clear hD1 ho1
  obtain ⟨e1, e2, e3, _, _, _, _, _⟩ := HD1.out
  go_wp2_with fail
  refine (dLeft_c h cap _ ns _ _ HD1.out).mono ?_
  rw [HK.out]
  rintro e w2 ⟨rfl, hb2⟩
  have HD2 := hide (HD1.out.below hb2)
  have HO2 := hide (HO1.out.trans_below hb2)
  clear hb2 e1 e2 e3
  obtain ⟨e1, e2, e3, _, _, _, _, _⟩ := HD2.out
  go_wp2_with fail
  go_loopw [10, 11, 12] (fun v1 v2 v3 wr => v1 = .int .i64 110 ∧ v2 = .slice none 0 0 ∧ v3 = .int .u64 0 ∧ wr = w2) (fun _ _ _ _ => 0)
  case atStart => exact ⟨rfl, rfl, rfl, rfl⟩
  case round =>
    obtain ⟨rfl, rfl, rfl, rfl⟩ := hrel
    go_wp2
    go_ret2
    exact ⟨_, rfl, HO2.out.set 1 _, HD2.out.move d6, by (refine ⟨rfl, .inl ⟨rfl, rfl⟩⟩)⟩

set_option maxRecDepth 100000 in
set_option maxHeartbeats 4000000 in
theorem dN_S_D (h cap : Nat) (ao : Option Addr) (ns : List Nat) (a : Nat) (m : Nat) (w : World) (hD : DObj w h ao cap ns a) (hm : m ≤ 9223372036854775807) (hlen : ns.length ≤ 1099511627776) (hE : (rd ns a).2.1 = 0) (hM : ¬ m < (rd ns a).1) (hL : ¬ ns.length - (rd ns a).2.2 < (rd ns a).1) : Calls Try.prog 68 #[.pointer (some ⟨h, 0, none⟩), .int .i64 (m : Int), .int .i64 9] w (fun e w' => ∃ v, e = .returned (.tuple #[v, .int .i64 ((tl (RS ns) ns a m).2.1 : Int)]) ∧ Only h w w' ∧ DObj w' h ao cap ns (tl (RS ns) ns a m).2.2 ∧ w'.ownsRow w.heap.size 9 1 v (tl (RS ns) ns a m).1.length (tl (RS ns) ns a m).1) := by
  have hM' : ¬ (m : Int) < ((rd ns a).1 : Int) := by omega
  have hL' : ¬ ((ns.length - (rd ns a).2.2 : Nat) : Int) < ((rd ns a).1 : Int) := by omega
  have hlg : lg ns a m = ((rd ns a).1, 0, (rd ns a).2.2) := by unfold lg; rw [if_neg (by omega), if_neg hM, if_neg hL]
  have htl : (tl (RS ns) ns a m) = if (tk (RS ns) (rd ns a).1 (rd ns a).2.2).2.1 ≠ 0 then ([], (tk (RS ns) (rd ns a).1 (rd ns a).2.2).2.1, a) else tk (RS ns) (rd ns a).1 (rd ns a).2.2 := by unfold tl; rw [hlg, if_neg (by simp)]
  have HTL := hide htl
  clear htl hlg
  have hD' := hide hD
  have hsm := hide hD.small
  have hr0 := rd_lt ns a hD.small
  have hp0 := rd_place ns a hD.le
  have hao := hide (show ∀ ad, ao = some ad → ns ≠ [] → ad.block < w.heap.size from fun ad had hn => by
    obtain ⟨b, off, h1, h2, _⟩ := hD.bytes hn
    rw [h1] at had; cases had; exact h2)
  obtain ⟨d1, d2, d3, d4, d5, d6, d7, d8⟩ := hD
  clear d4 d5
  have hk : ((ns.length : Int) - ((rd ns a).2.2 : Int)) = ((ns.length - (rd ns a).2.2 : Nat) : Int) := by omega
  have HK := hide hk
  clear hk
  go_enter Try.func68, Try.ntmps68
  go_wp2_with fail
  refine (dNum_c h cap _ ns a _ hD'.out).mono ?_
  rw [hE]
  rintro e w1 ⟨rfl, ho1, hD1⟩
  have HD1 := hide hD1
  have HO1 := hide ho1
  clear hD1 ho1
  obtain ⟨e1, e2, e3, _, _, _, _, _⟩ := HD1.out
  go_wp2_with fail
  refine (dLeft_c h cap _ ns _ _ HD1.out).mono ?_
  rw [HK.out]
  rintro e w2 ⟨rfl, hb2⟩
  have HD2 := hide (HD1.out.below hb2)
  have HO2 := hide (HO1.out.trans_below hb2)
  clear hb2 e1 e2 e3
  obtain ⟨e1, e2, e3, _, _, _, _, _⟩ := HD2.out
  have hz2 : w.heap.size ≤ w2.heap.size := HO2.out.size
  generalize hn0 : (rd ns a).1 = n at *
  generalize hpl0 : (rd ns a).2.2 = pl at *
  have hnn : n ≤ 1099511627776 := by omega
  clear e1 e2 e3 HD1 HO1
  go_wp2_with fail
  go_loopw [10, 11, 12] (fun v1 v2 v3 wr => ∃ (i p er : Nat) (xs : List Value), v1 = .int .i64 (er : Int) ∧ v3 = .int .u64 (i : Int) ∧ i ≤ n ∧ xs.length ≤ n ∧ Only h w wr ∧ DObj wr h ao cap ns p ∧ wr.ownsRow w.heap.size 9 1 v2 xs.length xs ∧ ((er = 0 ∧ xs.length = i ∧ tk (RS ns) n pl = (xs ++ (tk (RS ns) (n - i) p).1, (tk (RS ns) (n - i) p).2.1, (tk (RS ns) (n - i) p).2.2)) ∨ (er ≠ 0 ∧ (tk (RS ns) n pl).2.1 = er))) (fun _ _ v3 _ => n - (intOf v3).toNat)
  case atStart => exact ⟨0, pl, 0, [], rfl, rfl, Nat.zero_le _, Nat.zero_le _, HO2.out, HD2.out, World.ownsRow_nil _ _ _ _, .inl ⟨rfl, rfl, by simp⟩⟩
  case round =>
    obtain ⟨i, p, er, xs, rfl, rfl, hi, hxn, hO, hD, hown, hl⟩ := hrel
    have HOr := hide hO
    have HDr := hide hD
    have HWr := hide hown
    obtain ⟨k1, k2, k3, _, _, _, _, _⟩ := hD
    clear hO hown HO2 HD2
    by_cases her : er = 0
    · subst her
      have hl1 := hl.resolve_right (fun h => h.1 rfl)
      clear hl
      obtain ⟨_, rfl, hl2⟩ := hl1
      have HL1 := hide hl2
      clear hl2
      by_cases hlt : xs.length < n
      · have hlt' : (xs.length : Int) < (n : Int) := by omega
        obtain ⟨k, hk⟩ : ∃ k, n - xs.length = k + 1 := ⟨n - xs.length - 1, by omega⟩
        have hl2 := HL1.out
        rw [hk] at hl2
        have HL2 := hide hl2
        have q0 := tk_ok (RS ns) k p
        have q1 := tk_bad (RS ns) k p
        have HQ0 := hide q0
        have HQ1 := hide q1
        have hRp : RS ns p = (.string (bstr (tx ns p 9).1), (tx ns p 9).2.1, (tx ns p 9).2.2) := rfl
        have HRp := hide hRp
        clear hRp q0 q1 hl2 HL1 k2 k3
        go_wp2_with fail
        refine (dText_c h cap _ ns p 9 _ HDr.out (by decide)).mono ?_
        rintro e w6 ⟨rfl, ho6, hD6⟩
        have HD6 := hide hD6
        have HO6 := hide (HOr.out.trans ho6)
        have HW6 := hide (own_only HWr.out ho6 d1)
        have hz6 : w.heap.size ≤ w6.heap.size := HO6.out.size
        clear ho6 hD6 HDr HOr HWr
        generalize bstr (tx ns p 9).1 = rv at *
        generalize (tx ns p 9).2.1 = re at *
        generalize (tx ns p 9).2.2 = rp at *
        obtain ⟨i0, hi0, hz0, hz1', hz2'⟩ := info_parts info9
        go_wp2_with (at_builtin; refine wpList_append_lies _ rfl (.tmp 58) (.tmp 60) 58 rfl w.heap.size 9 i0 (.string ⟨#[]⟩) 1 16 Try.underlying58 hi0 hz0 hz1' hz2' rfl (by decide) _ xs.length xs rfl (HW6.out.alloc _) ⟨w6.heap.size, 0, none⟩ 1 1 [.string rv] rfl rfl (cell_one_new _ _ _) (by intro u hu; simp at hu; subst hu; rfl) (by decide) (by unfold maxLen; omega) (by omega) (by (simp; omega)) _ rfl ?_; intro g2 cap2 wn hown2 hg2 hgg hgl)
        have hro := fun j hj => (HW6.out.lt j hj).1
        have hA : Below w6.heap.size w6 (w6.alloc (.cells #[.string rv] 9)) := by (focus repeat' (first | (with_reducible exact Below.refl _ _) | (with_reducible assumption) | (with_reducible refine Below.alloc ?_ ?_ _) | (with_reducible refine Below.drew ?_) | (with_reducible refine bdrewN ?_ _) | (with_reducible refine Below.setCell ?_ ?_ _) | (first | (with_reducible exact Nat.le_refl _) | (with_reducible assumption) | omega | (simp; omega) | (simp; done))))
        have HOn := hide (only_grown (HO6.out.trans_below hA) hg2 hro)
        have HDn := hide ((HD6.out.below hA).same (B := w.heap.size) hg2.size d1 hao.out (fun i hi => hg2.block i (by (simp; omega)) (fun e => by have := hro i e.symm; omega)))
        have HWn := hide hown2
        clear hown2 hg2 hgg hro hA HW6 HD6 HO6
        go_roundw
        case rel =>
          refine ⟨xs.length + 1, rp, re, xs ++ [.string rv], rfl, by go_num, by omega, by (rw [List.length_append]; simp; omega), HOn.out, HDn.out, by (rw [List.length_append]; exact HWn.out), ?_⟩
          have q0 := HQ0.out
          have q1 := HQ1.out
          rw [HRp.out] at q0 q1
          by_cases hre : re = 0
          · subst hre
            refine .inl ⟨rfl, by (rw [List.length_append]; rfl), ?_⟩
            rw [HL2.out, q0 rfl, show n - (xs.length + 1) = k from by omega]
            simp
          · refine .inr ⟨hre, ?_⟩
            rw [HL2.out]
            exact q1 hre
        case measure => (first | (simp [intOf]; done) | (simp [intOf]; omega))
      · have hlt' : ¬ ((xs.length : Int) < (n : Int)) := by omega
        have htk : tk (RS ns) n pl = (xs, 0, p) := by
          rw [HL1.out, show n - xs.length = 0 from by omega]
          show (xs ++ [], 0, p) = _
          rw [List.append_nil]
        have htl2 := HTL.out
        rw [htk, if_neg (by simp)] at htl2
        have HT2 := hide htl2
        clear htl2 htk HL1
        go_wp2
        go_ret2
        rw [HT2.out]
        exact ⟨_, rfl, HOr.out, HDr.out, HWr.out⟩
    · have hl1 := hl.resolve_left (fun h => her h.1)
      have her2 : ¬ (er : Int) = 0 := by omega
      have htl2 := HTL.out
      rw [if_pos (by rw [hl1.2]; exact her), hl1.2] at htl2
      have HT2 := hide htl2
      clear htl2 hl
      go_wp2
      go_ret2
      rw [HT2.out]
      exact ⟨_, rfl, HOr.out.set 1 _, HDr.out.move d6, by (refine ⟨rfl, .inl ⟨rfl, rfl⟩⟩)⟩

theorem dN_S_c (h cap : Nat) (ao : Option Addr) (ns : List Nat) (a : Nat) (m : Nat) (w : World) (hD : DObj w h ao cap ns a) (hm : m ≤ 9223372036854775807) (hlen : ns.length ≤ 1099511627776) : Calls Try.prog 68 #[.pointer (some ⟨h, 0, none⟩), .int .i64 (m : Int), .int .i64 9] w (fun e w' => ∃ v, e = .returned (.tuple #[v, .int .i64 ((tl (RS ns) ns a m).2.1 : Int)]) ∧ Only h w w' ∧ DObj w' h ao cap ns (tl (RS ns) ns a m).2.2 ∧ w'.ownsRow w.heap.size 9 1 v (tl (RS ns) ns a m).1.length (tl (RS ns) ns a m).1) := by
  by_cases hE : (rd ns a).2.1 = 0
  · by_cases hM : m < (rd ns a).1
    · have q : (lg ns a m).2.1 = 3 := by unfold lg; rw [if_neg (by omega), if_pos hM]
      have t : (tl (RS ns) ns a m) = ([], 3, a) := by unfold tl; rw [if_pos (by rw [q]; decide), q]
      rw [t]; exact dN_S_B h cap ao ns a m w hD hm hE hM
    · by_cases hL : ns.length - (rd ns a).2.2 < (rd ns a).1
      · have q : (lg ns a m).2.1 = 110 := by unfold lg; rw [if_neg (by omega), if_neg hM, if_pos hL]
        have t : (tl (RS ns) ns a m) = ([], 110, a) := by unfold tl; rw [if_pos (by rw [q]; decide), q]
        rw [t]; exact dN_S_C h cap ao ns a m w hD hm hE hM hL
      · exact dN_S_D h cap ao ns a m w hD hm hlen hE hM hL
  · have q : (lg ns a m).2.1 = (rd ns a).2.1 := by unfold lg; rw [if_pos hE]
    have t : (tl (RS ns) ns a m) = ([], (rd ns a).2.1, a) := by unfold tl; rw [if_pos (by rw [q]; exact hE), q]
    rw [t]; exact dN_S_A h cap ao ns a m w hD hm hE
end Go.Proofs.Ytajkgecegefnmaa

namespace Go.Proofs.Ytajkgecegefnmaa
open Go.ChangeShapes Go.WideShapes Go.ChangeAt Go.RowKit Go.Deep
set_option linter.unusedSimpArgs false
set_option linter.unusedVariables false

theorem tk_ints (ns : List Nat) : ∀ (k a : Nat), ∀ x ∈ (tk (RU ns) k a).1, ∃ n : Nat, x = .int .u64 (n : Int)
  | 0, a, x, hx => by cases hx
  | k + 1, a, x, hx => by
    by_cases h : (RU ns a).2.1 = 0
    · rw [tk_ok _ _ _ h] at hx
      rcases List.mem_cons.1 hx with rfl | hx
      · exact ⟨_, rfl⟩
      · exact tk_ints ns k _ x hx
    · rw [tk, if_pos h] at hx
      rcases List.mem_cons.1 hx with rfl | hx
      · exact ⟨_, rfl⟩
      · cases hx
theorem tk_strs (ns : List Nat) : ∀ (k a : Nat), ∀ x ∈ (tk (RS ns) k a).1, ∃ s : ByteArray, x = .string s
  | 0, a, x, hx => by cases hx
  | k + 1, a, x, hx => by
    by_cases h : (RS ns a).2.1 = 0
    · rw [tk_ok _ _ _ h] at hx
      rcases List.mem_cons.1 hx with rfl | hx
      · exact ⟨_, rfl⟩
      · exact tk_strs ns k _ x hx
    · rw [tk, if_pos h] at hx
      rcases List.mem_cons.1 hx with rfl | hx
      · exact ⟨_, rfl⟩
      · cases hx
theorem tl_ints (ns : List Nat) (a m : Nat) : ∀ x ∈ (tl (RU ns) ns a m).1, ∃ n : Nat, x = .int .u64 (n : Int) := by
  unfold tl
  split
  · intro x hx; cases hx
  · split
    · intro x hx; cases hx
    · exact tk_ints ns _ _
theorem tl_strs (ns : List Nat) (a m : Nat) : ∀ x ∈ (tl (RS ns) ns a m).1, ∃ s : ByteArray, x = .string s := by
  unfold tl
  split
  · intro x hx; cases hx
  · split
    · intro x hx; cases hx
    · exact tk_strs ns _ _

set_option maxRecDepth 100000 in
set_option maxHeartbeats 2000000 in
theorem Same_c (v1 v2 : Value) (b1 b2 : Nat) (xs : List Value) (w : World) (h1 : w.ownsRow b1 22 1 v1 xs.length xs) (h2 : w.ownsRow b2 22 1 v2 xs.length xs) (hx : ∀ x ∈ xs, ∃ n : Nat, x = .int .u64 (n : Int)) (hl : xs.length ≤ 1099511627776) : Calls Try.prog 58 #[v1, v2] w (fun e w' => e = .returned (.bool true) ∧ Below w.heap.size w w') := by
  by_cases hz : xs.length = 0
  · obtain ⟨a1, c1, rfl⟩ := own_any h1
    obtain ⟨a2, c2, rfl⟩ := own_any h2
    have hz' : ¬ ((0 : Int) < (xs.length : Int)) := by omega
    clear h1 h2 hx
    go_enter Try.func58, Try.ntmps58
    go_wp2
    go_loopw [5] (fun v5 wq => v5 = .int .i64 0 ∧ wq = w) (fun _ _ => 0)
    case atStart => exact ⟨rfl, rfl⟩
    case round =>
      obtain ⟨rfl, rfl⟩ := hrel
      go_wp2
      go_ret
      exact ⟨rfl, Below.refl _ _⟩
  · obtain ⟨g1, c1, rfl, _, z1, _, f1, _⟩ := own_form h1 (by omega)
    obtain ⟨g2, c2, rfl, _, z2, _, f2, _⟩ := own_form h2 (by omega)
    have F1 := hide f1
    have F2 := hide f2
    have HX := hide hx
    clear h1 h2 f1 f2 hx
    go_enter Try.func58, Try.ntmps58
    go_wp2
    go_loopw [5] (fun v5 wq => ∃ k : Nat, k ≤ xs.length ∧ v5 = .int .i64 (k : Int) ∧ Below w.heap.size w wq) (fun v5 _ => xs.length - (intOf v5).toNat)
    case atStart => exact ⟨0, Nat.zero_le _, rfl, Below.refl _ _⟩
    case round =>
      obtain ⟨k, hk, rfl, rB⟩ := hrel
      by_cases hlt : k < xs.length
      · have hk1 : (k : Int) < (xs.length : Int) := by omega
        obtain ⟨y, hy⟩ := HX.out xs[k] (List.getElem_mem hlt)
        have q0 : xs[k]? = some (.int .u64 (y : Int)) := by rw [List.getElem?_eq_getElem hlt, hy]
        have q1 := (rB.cell (p := ⟨g1, k, none⟩) z1).trans ((F1.out k hlt).trans q0)
        have q2 := (rB.cell (p := ⟨g2, k, none⟩) z2).trans ((F2.out k hlt).trans q0)
        clear hy q0
        go_wp2_with fail
        go_quiet (fail)
        go_wp2
        go_roundw
        case rel => exact ⟨k + 1, by omega, by go_num, by (focus repeat' (first | (with_reducible exact Below.refl _ _) | (with_reducible assumption) | (with_reducible refine Below.alloc ?_ ?_ _) | (with_reducible refine Below.drew ?_) | (with_reducible refine bdrewN ?_ _) | (with_reducible refine Below.setCell ?_ ?_ _) | (first | (with_reducible exact Nat.le_refl _) | (with_reducible assumption) | omega | (simp; omega) | (simp; done))))⟩
        case measure => (first | (simp [intOf]; done) | (simp [intOf]; omega))
      · have hk1 : ¬ (k : Int) < (xs.length : Int) := by omega
        go_wp2
        go_ret
        exact ⟨rfl, rB⟩

set_option maxRecDepth 100000 in
set_option maxHeartbeats 2000000 in
theorem SameTexts_c (v1 v2 : Value) (b1 b2 : Nat) (xs : List Value) (w : World) (h1 : w.ownsRow b1 9 1 v1 xs.length xs) (h2 : w.ownsRow b2 9 1 v2 xs.length xs) (hx : ∀ x ∈ xs, ∃ s : ByteArray, x = .string s) (hl : xs.length ≤ 1099511627776) : Calls Try.prog 69 #[v1, v2] w (fun e w' => e = .returned (.bool true) ∧ Below w.heap.size w w') := by
  by_cases hz : xs.length = 0
  · obtain ⟨a1, c1, rfl⟩ := own_any h1
    obtain ⟨a2, c2, rfl⟩ := own_any h2
    have hz' : ¬ ((0 : Int) < (xs.length : Int)) := by omega
    clear h1 h2 hx
    go_enter Try.func69, Try.ntmps69
    go_wp2
    go_loopw [5] (fun v5 wq => v5 = .int .i64 0 ∧ wq = w) (fun _ _ => 0)
    case atStart => exact ⟨rfl, rfl⟩
    case round =>
      obtain ⟨rfl, rfl⟩ := hrel
      go_wp2
      go_ret
      exact ⟨rfl, Below.refl _ _⟩
  · obtain ⟨g1, c1, rfl, _, z1, _, f1, _⟩ := own_form h1 (by omega)
    obtain ⟨g2, c2, rfl, _, z2, _, f2, _⟩ := own_form h2 (by omega)
    have F1 := hide f1
    have F2 := hide f2
    have HX := hide hx
    clear h1 h2 f1 f2 hx
    go_enter Try.func69, Try.ntmps69
    go_wp2
    go_loopw [5] (fun v5 wq => ∃ k : Nat, k ≤ xs.length ∧ v5 = .int .i64 (k : Int) ∧ Below w.heap.size w wq) (fun v5 _ => xs.length - (intOf v5).toNat)
    case atStart => exact ⟨0, Nat.zero_le _, rfl, Below.refl _ _⟩
    case round =>
      obtain ⟨k, hk, rfl, rB⟩ := hrel
      by_cases hlt : k < xs.length
      · have hk1 : (k : Int) < (xs.length : Int) := by omega
        obtain ⟨y, hy⟩ := HX.out xs[k] (List.getElem_mem hlt)
        have q0 : xs[k]? = some (.string y) := by rw [List.getElem?_eq_getElem hlt, hy]
        have q1 := (rB.cell (p := ⟨g1, k, none⟩) z1).trans ((F1.out k hlt).trans q0)
        have q2 := (rB.cell (p := ⟨g2, k, none⟩) z2).trans ((F2.out k hlt).trans q0)
        clear hy q0
        go_wp2_with fail
        go_quiet (fail)
        go_wp2
        go_roundw
        case rel => exact ⟨k + 1, by omega, by go_num, by (focus repeat' (first | (with_reducible exact Below.refl _ _) | (with_reducible assumption) | (with_reducible refine Below.alloc ?_ ?_ _) | (with_reducible refine Below.drew ?_) | (with_reducible refine bdrewN ?_ _) | (with_reducible refine Below.setCell ?_ ?_ _) | (first | (with_reducible exact Nat.le_refl _) | (with_reducible assumption) | omega | (simp; omega) | (simp; done))))⟩
        case measure => (first | (simp [intOf]; done) | (simp [intOf]; omega))
      · have hk1 : ¬ (k : Int) < (xs.length : Int) := by omega
        go_wp2
        go_ret
        exact ⟨rfl, rB⟩

set_option maxRecDepth 100000 in
set_option maxHeartbeats 2000000 in
theorem spoil_c (b off n cap : Nat) (w : World) (hb : b < w.heap.size) (hl : n ≤ 1099511627776) (hc : ∀ j, j < n → ∃ v, w.cell? ⟨b, off + j, none⟩ = some v ∧ w.frozen? ⟨b, off + j, none⟩ = false) : Calls Try.prog 29 #[.slice (some ⟨b, off, none⟩) n cap] w (fun e w' => (∃ u, e = .returned u) ∧ Only b w w') := by
  have HC := hide hc
  clear hc
  go_enter Try.func29, Try.ntmps29
  go_wp2
  go_loopw [2] (fun v1 wr => ∃ k : Nat, k ≤ n ∧ v1 = .int .i64 (k : Int) ∧ Only b w wr ∧ (∀ j, j < n → ∃ v, wr.cell? ⟨b, off + j, none⟩ = some v ∧ wr.frozen? ⟨b, off + j, none⟩ = false)) (fun v1 _ => n - (intOf v1).toNat)
  case atStart => exact ⟨0, Nat.zero_le _, rfl, Only.of_below (Below.refl _ _), HC.out⟩
  case round =>
    obtain ⟨k, hk, rfl, hO, hcr⟩ := hrel
    have HO := hide hO
    have HR := hide hcr
    by_cases hlt : k < n
    · have hk1 : (k : Int) < (n : Int) := by omega
      obtain ⟨v, q1, q2⟩ := hcr k hlt
      have hbr : b < wr.heap.size := Nat.lt_of_lt_of_le hb hO.size
      clear hcr hO
      go_wp2
      go_roundw
      case rel =>
        refine ⟨k + 1, by omega, by go_num, HO.out.set _ _, fun j hj => ?_⟩
        obtain ⟨v', c1, c2⟩ := HR.out j hj
        by_cases e : j = k
        · subst e
          exact ⟨.int .u8 99, by simp [go_sem, c1], by simp only [World.frozen?_setCell]; exact c2⟩
        · exact ⟨v', by simp [go_sem, c1, show off + k ≠ off + j from by omega, show off + j ≠ off + k from by omega, e, Ne.symm e], by simp only [World.frozen?_setCell]; exact c2⟩
      case measure => (first | (simp [intOf]; done) | (simp [intOf]; omega))
    · have hk1 : ¬ (k : Int) < (n : Int) := by omega
      clear hcr
      go_wp2
      go_end0
      exact ⟨⟨_, rfl⟩, HO.out⟩
end Go.Proofs.Ytajkgecegefnmaa

namespace Go.Proofs.Ytajkgecegefnmaa
open Go.ChangeShapes Go.WideShapes Go.ChangeAt Go.RowKit Go.Deep
set_option linter.unusedSimpArgs false
set_option linter.unusedVariables false
theorem num_cons (b : Nat) (l : List Nat) : num (b :: l) = b * 256 ^ l.length + num l := by
  have gen : ∀ (m : List Nat) (a : Nat), m.foldl (fun a b => 256 * a + b) a = a * 256 ^ m.length + m.foldl (fun a b => 256 * a + b) 0 := by
    intro m
    induction m with
    | nil => intro a; simp
    | cons c m ih =>
      intro a
      rw [List.foldl_cons, ih (256 * a + c), List.foldl_cons, ih (256 * 0 + c), List.length_cons, Nat.pow_succ, Nat.add_mul, Nat.mul_zero, Nat.zero_add]
      have : 256 * a * 256 ^ m.length = a * (256 ^ m.length * 256) := by rw [Nat.mul_comm 256 a, Nat.mul_assoc, Nat.mul_comm 256]
      omega
  show (b :: l).foldl (fun a b => 256 * a + b) 0 = _
  rw [List.foldl_cons, gen l, Nat.mul_zero, Nat.zero_add]; rfl
theorem num_hi (m x : Nat) : num (hi m x) = x % 256 ^ m := by
  induction m with
  | zero => simp [hi, num, Nat.mod_one]
  | succ m ih =>
    show num ((x / 256 ^ m % 256) :: hi m x) = _
    rw [num_cons, hi_length, ih, Nat.pow_succ, Nat.mod_mul, Nat.mul_comm (256 ^ m) (x / 256 ^ m % 256)]
    omega
/-- what was written as a number is read as that number -/
theorem rd_form (pre post : List Nat) (x : Nat) (hx : x < 18446744073709551616) : rd (pre ++ (form x ++ post)) pre.length = (x, 0, pre.length + (form x).length) := by
  have hfp := form_pos x
  have hl : pre.length < (pre ++ (form x ++ post)).length := by simp; omega
  have hm := many_pos x
  by_cases h : x ≤ 247
  · have hf : form x = [x] := by unfold form; rw [if_pos h]
    have hg : (pre ++ (form x ++ post)).getD pre.length 0 = x := by rw [hf]; simp [List.getD]
    unfold rd
    rw [if_neg (by omega), hg, if_pos h, hf]; rfl
  · have hf : form x = (247 + many x) :: hi (many x) x := by unfold form; rw [if_neg h]
    have hg : (pre ++ (form x ++ post)).getD pre.length 0 = 247 + many x := by rw [hf]; simp [List.getD]
    have hln : (pre ++ (form x ++ post)).length = pre.length + 1 + many x + post.length := by rw [hf]; simp [hi_length]; omega
    have hd : ((pre ++ (form x ++ post)).drop (pre.length + 1)).take (many x) = hi (many x) x := by
      rw [hf, ← List.drop_drop, List.drop_left, List.cons_append, List.drop_succ_cons, List.drop_zero]
      have e := List.take_left' (l₁ := hi (many x) x) (l₂ := post) (hi_length (many x) x)
      exact e
    have hnum : num (hi (many x) x) = x := by rw [num_hi, Nat.mod_eq_of_lt (many_lt x)]
    unfold rd
    rw [if_neg (by omega), hg, if_neg (by omega), if_neg (by omega)]
    rw [show 247 + many x - 247 = many x from by omega, hd, hnum, if_pos (by rw [hf, List.length_cons, hi_length]; omega), hf, List.length_cons, hi_length]
    congr 2 <;> omega
theorem nx_hi (pre post : List Nat) (x : Nat) (hx : x < 18446744073709551616) : nx (pre ++ (hi 8 x ++ post)) pre.length 8 = (x, 0, pre.length + 8) := by
  have p8 : (256 : Nat) ^ 8 = 18446744073709551616 := by decide
  have hd : ((pre ++ (hi 8 x ++ post)).drop pre.length).take 8 = hi 8 x := by
    rw [List.drop_left]
    exact List.take_left' (hi_length 8 x)
  rw [nx_ok (by first | (simp [hi_length]; done) | (simp [hi_length]; omega)), hd, num_hi, p8, Nat.mod_eq_of_lt hx]
theorem fl_bit (pre post : List Nat) (b : Nat) (hb : b ≤ 1) : fl (pre ++ ([b] ++ post)) pre.length = (decide (b = 1), 0, pre.length + 1) := by
  have hg : (pre ++ ([b] ++ post)).getD pre.length 0 = b := by simp [List.getD]
  unfold fl
  rw [if_neg (by simp), hg, if_neg (by omega)]
theorem tx_text (pre post : List Nat) (s : ByteArray) (m : Nat) (hs : s.size < 18446744073709551616) (hm : s.size ≤ m) : tx (pre ++ (text s ++ post)) pre.length m = (sb s, 0, pre.length + (text s).length) := by
  have e : pre ++ (text s ++ post) = pre ++ (form s.size ++ (sb s ++ post)) := by unfold text; simp
  rw [e]
  have hr := rd_form pre (sb s ++ post) s.size hs
  have hln : (pre ++ (form s.size ++ (sb s ++ post))).length = pre.length + (form s.size).length + s.size + post.length := by simp [sb_length]; omega
  have hlg : lg (pre ++ (form s.size ++ (sb s ++ post))) pre.length m = (s.size, 0, pre.length + (form s.size).length) := by
    unfold lg
    rw [hr, if_neg (by simp), if_neg (by simp; omega), if_neg (by simp only; omega)]
  unfold tx
  rw [hlg, if_neg (by simp)]
  have hd : ((pre ++ (form s.size ++ (sb s ++ post))).drop (pre.length + (form s.size).length)).take s.size = sb s := by
    rw [← List.drop_drop, List.drop_left, List.drop_left]
    exact List.take_left' (sb_length s)
  simp only [hd]
  unfold text
  rw [List.length_append, sb_length]
  congr 2; omega
/-- numbers one behind the other -/
theorem tk_forms (post : List Nat) : ∀ (l : List Nat) (pre : List Nat), (∀ x ∈ l, x < 18446744073709551616) → tk (RU (pre ++ (forms l ++ post))) l.length pre.length = (l.map (fun (x : Nat) => Value.int .u64 (x : Int)), 0, pre.length + (forms l).length)
  | [], pre, _ => rfl
  | x :: l, pre, hx => by
    have hx0 := hx x (List.mem_cons_self ..)
    have hxl : ∀ y ∈ l, y < 18446744073709551616 := fun y h => hx y (List.mem_cons_of_mem _ h)
    have ef : forms (x :: l) = form x ++ forms l := rfl
    have e1 : pre ++ (forms (x :: l) ++ post) = pre ++ (form x ++ (forms l ++ post)) := by rw [ef]; simp
    have e2 : pre ++ (forms (x :: l) ++ post) = (pre ++ form x) ++ (forms l ++ post) := by rw [ef]; simp
    have hr := rd_form pre (forms l ++ post) x hx0
    have hru : RU (pre ++ (forms (x :: l) ++ post)) pre.length = (.int .u64 (x : Int), 0, pre.length + (form x).length) := by
      unfold RU; rw [e1, hr]
    rw [List.length_cons, tk_ok _ _ _ (by rw [hru]), hru]
    have ih := tk_forms post l (pre ++ form x) hxl
    rw [← e2, List.length_append] at ih
    show (_ :: (tk _ l.length (pre.length + (form x).length)).1, (tk _ l.length (pre.length + (form x).length)).2.1, (tk _ l.length (pre.length + (form x).length)).2.2) = _
    rw [ih, ef, List.length_append]
    simp only [List.map_cons]
    congr 2; omega
theorem forms_ge : ∀ l : List Nat, l.length ≤ (forms l).length
  | [] => Nat.le_refl _
  | x :: l => by
    have h := forms_ge l
    have hp := form_pos x
    show l.length + 1 ≤ (form x ++ forms l).length
    rw [List.length_append]; omega
theorem tl_forms (pre post l : List Nat) (m : Nat) (hx : ∀ x ∈ l, x < 18446744073709551616) (hl : l.length < 18446744073709551616) (hm : l.length ≤ m) : tl (RU (pre ++ ((form l.length ++ forms l) ++ post))) (pre ++ ((form l.length ++ forms l) ++ post)) pre.length m = (l.map (fun (x : Nat) => Value.int .u64 (x : Int)), 0, pre.length + (form l.length ++ forms l).length) := by
  have e : pre ++ ((form l.length ++ forms l) ++ post) = pre ++ (form l.length ++ (forms l ++ post)) := by simp
  have e2 : pre ++ ((form l.length ++ forms l) ++ post) = (pre ++ form l.length) ++ (forms l ++ post) := by simp
  have hr := rd_form pre (forms l ++ post) l.length hl
  rw [← e] at hr
  have hge := forms_ge l
  have hln : (pre ++ ((form l.length ++ forms l) ++ post)).length = pre.length + (form l.length).length + (forms l).length + post.length := by simp; omega
  have hlg : lg (pre ++ ((form l.length ++ forms l) ++ post)) pre.length m = (l.length, 0, pre.length + (form l.length).length) := by
    unfold lg
    rw [hr, if_neg (by simp), if_neg (by simp; omega), if_neg (by simp only; omega)]
  have ht := tk_forms post l (pre ++ form l.length) hx
  rw [← e2, List.length_append] at ht
  unfold tl
  rw [hlg, if_neg (by simp)]
  simp only [ht]
  rw [if_neg (by simp), List.length_append]
  congr 2; omega
end Go.Proofs.Ytajkgecegefnmaa

namespace Go.Proofs.Ytajkgecegefnmaa
open Go.ChangeShapes Go.WideShapes Go.ChangeAt Go.RowKit Go.Deep
set_option linter.unusedSimpArgs false
set_option linter.unusedVariables false

theorem Text_c (g : Nat) (v : Value) (bs : List Nat) (s : ByteArray) (w : World) (hW : WObj w g v bs) (hl : bs.length ≤ 8796093022208) (hs : s.size ≤ 1099511627776) : Calls Try.prog 37 #[.pointer (some ⟨g, 0, none⟩), .string s] w (fun e w' => ∃ v', e = .returned (.int .i64 0) ∧ WObj w' g v' (bs ++ text s) ∧ WKeep g v w w' ∧ Near w v v') := by
  by_cases hp : 0 < s.size
  · exact Text_some g v bs s w hW hl hs hp
  · exact Text_none g v bs s w hW hl (by omega)
theorem eql107 (a b : Array Value) (w : World) : Sem.run Try.prog (binOp .eql 107 (.func (.func 60) a b) Value.nilFunc) w = .ok (.bool false) w := by kernel_rfl
def texts (l : List ByteArray) : List Nat := l.flatMap text
theorem texts_next (ns : List ByteArray) (j : Nat) (h : j < ns.length) : texts (ns.take (j + 1)) = texts (ns.take j) ++ text (ns.getD j ⟨#[]⟩) := by
  unfold texts
  rw [List.take_add_one, List.flatMap_append]
  simp [List.getD, h]
theorem texts_take (ns : List ByteArray) (j : Nat) : (texts (ns.take j)).length ≤ (texts ns).length := by
  have e : texts ns = texts (ns.take j) ++ texts (ns.drop j) := by
    unfold texts; rw [← List.flatMap_append, List.take_append_drop]
  rw [e, List.length_append]; omega

set_option maxHeartbeats 2000000 in
theorem puttext_c (g : Nat) (v : Value) (bs : List Nat) (s : ByteArray) (w : World) (hW : WObj w g v bs) (hl : bs.length ≤ 8796093022208) (hs : s.size ≤ 1099511627776) : Calls Try.prog 60 #[.pointer (some ⟨g, 0, none⟩), .string s] w (fun e w' => ∃ u v', e = .returned u ∧ WObj w' g v' (bs ++ text s) ∧ WKeep g v w w' ∧ Near w v v') := by
  have HWh := hide hW
  clear hW
  go_enter Try.func60, Try.ntmps60
  go_wp2_with fail
  refine (Text_c g v bs s _ HWh.out hl hs).mono ?_
  rintro e w1 ⟨v1, rfl, hW1, hk1, hn1⟩
  go_wp2
  go_end0
  exact ⟨_, v1, rfl, hW1, hk1, hn1⟩

theorem eql58 (a : Addr) (n cap : Nat) (w : World) : Sem.run Try.prog (binOp .eql 58 (.slice (some a) n cap) (.slice none 0 0)) w = .ok (.bool false) w := by kernel_rfl
theorem eql58n (w : World) : Sem.run Try.prog (binOp .eql 58 (.slice none 0 0) (.slice none 0 0)) w = .ok (.bool true) w := by kernel_rfl
theorem made0_9 (w : World) : (w.alloc (.cells #[] 9)).ownsRow 0 9 1 (.slice (some ⟨w.heap.size, 0, none⟩) 0 0) 0 [] :=
  ⟨rfl, .inr ⟨_, 0, #[], rfl, Nat.zero_le _, heap_new _ _, by decide, by decide, rfl, rfl⟩⟩

set_option maxRecDepth 100000 in
set_option maxHeartbeats 2000000 in
theorem CloneS_c (ns : List ByteArray) (b off cap : Nat) (w : World) (hm : 0 < ns.length) (hl : ns.length * 16 ≤ 140737488351232) (hb : ∀ j, j < ns.length → w.cell? ⟨b, off + j, none⟩ = some (.string (ns.getD j ⟨#[]⟩))) (hbz : b < w.heap.size) : Calls Try.prog 77 #[.slice (some ⟨b, off, none⟩) ns.length cap] w (fun e w' => ∃ g2 cap2, e = .returned (.slice (some ⟨g2, 0, none⟩) ns.length cap2) ∧ w.heap.size ≤ g2 ∧ w'.ownsRow 0 9 1 (.slice (some ⟨g2, 0, none⟩) ns.length cap2) ns.length (ns.map (fun (b : ByteArray) => Value.string b)) ∧ Below w.heap.size w w') := by
  obtain ⟨i0, hi0, hz0, hz1, hz2⟩ := info_parts info9
  have Hn := hide (show ∀ j u, (ns.map (fun (b : ByteArray) => Value.string b))[j]? = some u → (w.alloc (.cells #[] 9)).cell? ((⟨b, off, none⟩ : Addr).add j) = some u from fun j u hu => by
    rw [List.getElem?_map] at hu
    cases e : ns[j]? with
    | none => rw [e] at hu; cases hu
    | some x =>
      rw [e] at hu
      have hj : j < ns.length := (List.getElem?_eq_some_iff.1 e).1
      have q := hb j hj
      have ha : (⟨b, off, none⟩ : Addr).add j = ⟨b, off + j, none⟩ := by
        unfold Addr.add
        split
        · (rename_i h; subst h; rfl)
        · rfl
      rw [ha, World.cell?_alloc_past _ _ _ (by first | omega | (simp; omega)), q, ← hu]
      simp [List.getD, e])
  have HO := hide (show ∀ u ∈ ns.map (fun (b : ByteArray) => Value.string b), u.oneCell' = true from fun u hu => by obtain ⟨x, _, rfl⟩ := List.mem_map.1 hu; rfl)
  have Q := eql58
  clear hb
  go_enter Try.func77, Try.ntmps77
  go_wp2_with (at_builtin; refine wpList_append_lies _ rfl (.tmp 5) (.tmp 6) 58 rfl 0 9 i0 (.string ⟨#[]⟩) 1 16 Try.underlying58 hi0 hz0 hz1 hz2 rfl (by decide) _ 0 [] rfl (made0_9 w) ⟨b, off, none⟩ ns.length cap (ns.map (fun (b : ByteArray) => Value.string b)) rfl (by simp) Hn.out HO.out hm (by unfold maxLen; omega) (by omega) (Nat.zero_le _) _ rfl ?_; intro g2 cap2 wn hown2 hg2 hgg hgl)
  go_ret
  have own2 : wn.ownsRow 0 9 1 (.slice (some ⟨g2, 0, none⟩) ns.length cap2) ns.length (ns.map (fun (b : ByteArray) => Value.string b)) := by simpa using hown2
  have hbel : Below w.heap.size w wn := by
    refine ((Below.refl w.heap.size w).alloc (Nat.le_refl _) (.cells #[] 9)).grown hg2 (by simp) (fun k hk => ?_)
    have q' : w.heap.size = k := Option.some.inj hk
    omega
  have hz0' : 0 + ns.length = ns.length := Nat.zero_add _
  refine ⟨g2, cap2, by first | rfl | (rw [← hz0']; rfl) | (simp; done), ?_, own2, hbel⟩
  rcases hgg with q | q
  · have q' : w.heap.size = g2 := Option.some.inj q
    omega
  · have q' : g2 = w.heap.size + 1 := by simpa using q
    omega

set_option maxRecDepth 100000 in
set_option maxHeartbeats 2000000 in
theorem ListS_c (g : Nat) (v : Value) (bs : List Nat) (ns : List ByteArray) (b off cap : Nat) (w : World) (hW : WObj w g v bs) (hl : bs.length + 9 + (texts ns).length ≤ 8796093022208) (hnl : ns.length ≤ 1099511627776) (hm : 0 < ns.length) (hx : ∀ x ∈ ns, x.size ≤ 1099511627776) (hb : ∀ j, j < ns.length → w.cell? ⟨b, off + j, none⟩ = some (.string (ns.getD j ⟨#[]⟩))) (hbz : b < w.heap.size) (hbg : b ≠ g) (hbv : some b ≠ v.ownBlock) : Calls Try.prog 59 #[.pointer (some ⟨g, 0, none⟩), .slice (some ⟨b, off, none⟩) ns.length cap, .func (.func 60) #[] #[]] w (fun e w' => ∃ v', e = .returned (.int .i64 0) ∧ WObj w' g v' (bs ++ (form ns.length ++ texts ns)) ∧ WKeep g v w w' ∧ Near w v v') := by
  have hxl : ns.length < 18446744073709551616 := by omega
  have hfl := form_le hxl
  have HWh := hide hW
  have Hb := hide hb
  have HX := hide hx
  clear hW hb hx
  have Q := eql107
  go_enter Try.func59, Try.ntmps59
  go_wp2_with fail
  refine (Number_c g v bs ns.length _ HWh.out (by omega) hxl).mono ?_
  rintro e w1 ⟨v1, rfl, hW1, hk1, hn1⟩
  have HW1 := hide hW1
  have hz1 : w.heap.size ≤ w1.heap.size := hk1.2.2.2.1
  have Hb1 := hide (show ∀ j, j < ns.length → w1.cell? ⟨b, off + j, none⟩ = some (.string (ns.getD j ⟨#[]⟩)) from fun j hj => (World.cell?_of_block (hk1.2.2.2.2 b hbz hbg hbv)).trans (Hb.out j hj))
  have hb1 : b < w1.heap.size := Nat.lt_of_lt_of_le hbz hz1
  clear hW1
  go_wp2_with fail
  refine (CloneS_c ns b off cap _ hm (by omega) Hb1.out hb1).mono ?_
  rintro e w2 ⟨g2, cap2, rfl, hg2, own2, hb2⟩
  obtain ⟨g2', cap2', hsl, _, hgl, _, hcl, _⟩ := own_form own2 hm
  cases hsl
  have HW2 := hide (HW1.out.below hb2)
  have HC := hide (show ∀ j, j < ns.length → w2.cell? ⟨g2, j, none⟩ = some (.string (ns.getD j ⟨#[]⟩)) from fun j hj => (hcl j hj).trans (by simp [List.getD, hj]))
  have hgw : g < w1.heap.size := HW1.out.1
  have hk2 : WKeep g v w w2 := hk1.trans hn1 (WKeep.of_below hb2)
  have hz2 : w1.heap.size ≤ w2.heap.size := hb2.size
  have hvo : ∀ k, v1.ownBlock = some k → k < w1.heap.size := fun k hk => (HW1.out.2.2.2.1.lt k hk).2
  have hgv : some g2 ≠ v1.ownBlock := fun e => by (have := hvo g2 e.symm; omega)
  have HK := hide hk2
  have HN := hide hn1
  have HV := hide hgv
  clear hk1 hk2 hn1 hgv hvo own2 hcl hb2
  go_wp2
  go_loopw [8, 23] (fun v8 v23 wr => ∃ (j : Nat) (v' : Value), j ≤ ns.length ∧ v23 = .int .i64 (j : Int) ∧ WObj wr g v' (bs ++ form ns.length ++ texts (ns.take j)) ∧ WKeep g v w wr ∧ Near w v v' ∧ some g2 ≠ v'.ownBlock ∧ g2 < wr.heap.size ∧ w2.heap.size ≤ wr.heap.size ∧ (∀ j, j < ns.length → wr.cell? ⟨g2, j, none⟩ = some (.string (ns.getD j ⟨#[]⟩)))) (fun _ v23 _ => ns.length - (intOf v23).toNat)
  case atStart => exact ⟨0, v1, Nat.zero_le _, rfl, by (have q := HW2.out; simpa [texts] using q), HK.out, HN.out, HV.out, hgl, Nat.le_refl _, HC.out⟩
  case round =>
    obtain ⟨j, v', hj, rfl, hWr, hkr, hnr, hvr, hgr, hzr, hcr⟩ := hrel
    have HWr := hide hWr
    have HKr := hide hkr
    have HNr := hide hnr
    have HVr := hide hvr
    have HCr := hide hcr
    clear hWr hkr hnr hvr hcr
    by_cases hlt : j < ns.length
    · have c1 := HCr.out j hlt
      have hlt' : (j : Int) < (ns.length : Int) := by omega
      have hnx := hide (texts_next ns j hlt)
      have hxj : (ns.getD j ⟨#[]⟩).size ≤ 1099511627776 := HX.out _ (by (have e : ns.getD j ⟨#[]⟩ = ns[j] := by simp [List.getD, hlt]); rw [e]; exact List.getElem_mem hlt)
      have hfb := texts_take ns j
      generalize ns.getD j ⟨#[]⟩ = x at *
      go_wp2_with fail
      refine (puttext_c g v' (bs ++ form ns.length ++ texts (ns.take j)) x _ HWr.out (by simp only [List.length_append]; omega) hxj).mono ?_
      rintro e w5 ⟨u, v5, rfl, hW5, hk5, hn5⟩
      have hz5 : wr.heap.size ≤ w5.heap.size := hk5.2.2.2.1
      have hzw : w.heap.size ≤ wr.heap.size := by omega
      have g2g : g2 ≠ g := by omega
      go_wp2
      go_roundw
      case rel =>
        refine ⟨j + 1, v5, by omega, by go_num, ?_, HKr.out.trans HNr.out hk5, HNr.out.trans hzw hn5, ?_, by omega, by omega, fun i hi => ?_⟩
        · rw [hnx.out, ← List.append_assoc]; exact hW5
        · rcases hn5 with q | ⟨k, q, hk⟩
          · rw [q]; exact HVr.out
          · rw [q]; intro e; cases e; omega
        · exact (World.cell?_of_block (hk5.2.2.2.2 g2 hgr g2g HVr.out)).trans (HCr.out i hi)
      case measure => simp [intOf]; omega
    · have hjn : j = ns.length := by omega
      subst hjn
      have hle : ¬ ((ns.length : Int) < (ns.length : Int)) := by omega
      go_wp2
      go_ret
      have q := HWr.out
      rw [List.take_length, List.append_assoc] at q
      first | exact ⟨v', rfl, q, HKr.out, HNr.out⟩ | exact ⟨rfl, v', q, HKr.out, HNr.out⟩
end Go.Proofs.Ytajkgecegefnmaa

namespace Go.Proofs.Ytajkgecegefnmaa
open Go.ChangeShapes Go.WideShapes Go.ChangeAt Go.RowKit Go.Deep
set_option linter.unusedSimpArgs false
set_option linter.unusedVariables false

set_option maxRecDepth 100000 in
set_option maxHeartbeats 1000000 in
theorem Clone64_zero (ad : Addr) (n0 cap : Nat) (w : World) (hn0 : n0 = 0) : Calls Try.prog 70 #[.slice (some ad) n0 cap] w (fun e w' => ∃ v', e = .returned v' ∧ w'.ownsRow 0 22 1 v' 0 [] ∧ Below w.heap.size w w') := by
  obtain ⟨i0, hi0, hz0, hz1, hz2⟩ := info_parts info22
  have Q := eql57
  have HN := hide hn0
  clear hn0
  go_enter Try.func70, Try.ntmps70
  go_wp2_with (at_builtin; refine wpList_append00 _ rfl (.tmp 5) (.tmp 6) 57 rfl 22 i0 (.int .u64 0) 8 Try.underlying57 hi0 hz0 hz1 hz2 rfl (.slice (some ⟨w.heap.size, 0, none⟩) 0 0) rfl (made0_22 w) ad n0 cap rfl HN.out ?_; intro v' wn hown2 hg2)
  go_ret
  refine ⟨v', rfl, hown2, ((Below.refl w.heap.size w).alloc (Nat.le_refl _) (.cells #[] 22)).grown hg2 (by simp) (fun k hk => ?_)⟩
  have q' : w.heap.size = k := Option.some.inj hk
  omega

set_option maxRecDepth 100000 in
set_option maxHeartbeats 1000000 in
theorem Clone64_nil  (w : World) : Calls Try.prog 70 #[.slice none 0 0] w fun e w' => e = .returned (.slice none 0 0) ∧ Below w.heap.size w w' := by
  have Q := eql57n
  go_enter Try.func70, Try.ntmps70
  go_wp2
  go_ret
  exact ⟨rfl, by (focus repeat' (first | (with_reducible exact Below.refl _ _) | (with_reducible assumption) | (with_reducible refine Below.alloc ?_ ?_ _) | (with_reducible refine Below.drew ?_) | (with_reducible refine bdrewN ?_ _) | (with_reducible refine Below.setCell ?_ ?_ _) | (first | (with_reducible exact Nat.le_refl _) | (with_reducible assumption) | omega | (simp; omega) | (simp; done))))⟩

theorem Clone64_none (ao : Option Addr) (cap : Nat) (w : World) (hn : ao = none → cap = 0) : Calls Try.prog 70 #[.slice ao 0 cap] w fun e w' => ∃ ao2 cap2, e = .returned (.slice ao2 0 cap2) ∧ Below w.heap.size w w' := by
  cases ao with
  | none => obtain rfl := hn rfl; exact (Clone64_nil w).mono (fun e w' h => ⟨none, 0, h.1, h.2⟩)
  | some ad =>
    refine (Clone64_zero ad 0 cap w rfl).mono ?_
    rintro e w' ⟨v', rfl, own, hb⟩
    obtain ⟨a2, c2, rfl⟩ := own_any own
    exact ⟨a2, c2, rfl, hb⟩

set_option maxRecDepth 100000 in
set_option maxHeartbeats 1000000 in
theorem CloneS_zero (ad : Addr) (n0 cap : Nat) (w : World) (hn0 : n0 = 0) : Calls Try.prog 77 #[.slice (some ad) n0 cap] w (fun e w' => ∃ v', e = .returned v' ∧ w'.ownsRow 0 9 1 v' 0 [] ∧ Below w.heap.size w w') := by
  obtain ⟨i0, hi0, hz0, hz1, hz2⟩ := info_parts info9
  have Q := eql58
  have HN := hide hn0
  clear hn0
  go_enter Try.func77, Try.ntmps77
  go_wp2_with (at_builtin; refine wpList_append00 _ rfl (.tmp 5) (.tmp 6) 58 rfl 9 i0 (.string ⟨#[]⟩) 16 Try.underlying58 hi0 hz0 hz1 hz2 rfl (.slice (some ⟨w.heap.size, 0, none⟩) 0 0) rfl (made0_9 w) ad n0 cap rfl HN.out ?_; intro v' wn hown2 hg2)
  go_ret
  refine ⟨v', rfl, hown2, ((Below.refl w.heap.size w).alloc (Nat.le_refl _) (.cells #[] 9)).grown hg2 (by simp) (fun k hk => ?_)⟩
  have q' : w.heap.size = k := Option.some.inj hk
  omega

set_option maxRecDepth 100000 in
set_option maxHeartbeats 1000000 in
theorem CloneS_nil  (w : World) : Calls Try.prog 77 #[.slice none 0 0] w fun e w' => e = .returned (.slice none 0 0) ∧ Below w.heap.size w w' := by
  have Q := eql58n
  go_enter Try.func77, Try.ntmps77
  go_wp2
  go_ret
  exact ⟨rfl, by (focus repeat' (first | (with_reducible exact Below.refl _ _) | (with_reducible assumption) | (with_reducible refine Below.alloc ?_ ?_ _) | (with_reducible refine Below.drew ?_) | (with_reducible refine bdrewN ?_ _) | (with_reducible refine Below.setCell ?_ ?_ _) | (first | (with_reducible exact Nat.le_refl _) | (with_reducible assumption) | omega | (simp; omega) | (simp; done))))⟩

theorem CloneS_none (ao : Option Addr) (cap : Nat) (w : World) (hn : ao = none → cap = 0) : Calls Try.prog 77 #[.slice ao 0 cap] w fun e w' => ∃ ao2 cap2, e = .returned (.slice ao2 0 cap2) ∧ Below w.heap.size w w' := by
  cases ao with
  | none => obtain rfl := hn rfl; exact (CloneS_nil w).mono (fun e w' h => ⟨none, 0, h.1, h.2⟩)
  | some ad =>
    refine (CloneS_zero ad 0 cap w rfl).mono ?_
    rintro e w' ⟨v', rfl, own, hb⟩
    obtain ⟨a2, c2, rfl⟩ := own_any own
    exact ⟨a2, c2, rfl, hb⟩

set_option maxRecDepth 100000 in
set_option maxHeartbeats 2000000 in
theorem List64_none (g : Nat) (v : Value) (bs : List Nat) (ao : Option Addr) (cap : Nat) (w : World) (hW : WObj w g v bs) (hl : bs.length ≤ 8796093022208) (hn : ao = none → cap = 0) : Calls Try.prog 38 #[.pointer (some ⟨g, 0, none⟩), .slice ao 0 cap, .func (.func 39) #[] #[]] w (fun e w' => ∃ v', e = .returned (.int .i64 0) ∧ WObj w' g v' (bs ++ form 0) ∧ WKeep g v w w' ∧ Near w v v') := by
  have HWh := hide hW
  have HN := hide hn
  clear hW hn
  have Q := eql72
  go_enter Try.func38, Try.ntmps38
  go_wp2_with fail
  refine (Number_c g v bs 0 _ HWh.out hl (by decide)).mono ?_
  rintro e w1 ⟨v1, rfl, hW1, hk1, hn1⟩
  have HW1 := hide hW1
  clear hW1
  go_wp2_with fail
  refine (Clone64_none ao cap _ HN.out).mono ?_
  rintro e w2 ⟨ao2, cap2, rfl, hb2⟩
  have HW2 := hide (HW1.out.below hb2)
  have hk2 : WKeep g v w w2 := hk1.trans hn1 (WKeep.of_below hb2)
  have HK := hide hk2
  have HN1 := hide hn1
  clear hk1 hk2 hn1 hb2
  go_wp2
  go_loopw [23] (fun v23 wr => v23 = .int .i64 0 ∧ wr = w2) (fun _ _ => 0)
  case atStart => exact ⟨rfl, rfl⟩
  case round =>
    obtain ⟨rfl, rfl⟩ := hrel
    go_wp2
    go_ret
    first | exact ⟨v1, rfl, HW2.out, HK.out, HN1.out⟩ | exact ⟨rfl, v1, HW2.out, HK.out, HN1.out⟩

set_option maxRecDepth 100000 in
set_option maxHeartbeats 2000000 in
theorem ListS_none (g : Nat) (v : Value) (bs : List Nat) (ao : Option Addr) (cap : Nat) (w : World) (hW : WObj w g v bs) (hl : bs.length ≤ 8796093022208) (hn : ao = none → cap = 0) : Calls Try.prog 59 #[.pointer (some ⟨g, 0, none⟩), .slice ao 0 cap, .func (.func 60) #[] #[]] w (fun e w' => ∃ v', e = .returned (.int .i64 0) ∧ WObj w' g v' (bs ++ form 0) ∧ WKeep g v w w' ∧ Near w v v') := by
  have HWh := hide hW
  have HN := hide hn
  clear hW hn
  have Q := eql107
  go_enter Try.func59, Try.ntmps59
  go_wp2_with fail
  refine (Number_c g v bs 0 _ HWh.out hl (by decide)).mono ?_
  rintro e w1 ⟨v1, rfl, hW1, hk1, hn1⟩
  have HW1 := hide hW1
  clear hW1
  go_wp2_with fail
  refine (CloneS_none ao cap _ HN.out).mono ?_
  rintro e w2 ⟨ao2, cap2, rfl, hb2⟩
  have HW2 := hide (HW1.out.below hb2)
  have hk2 : WKeep g v w w2 := hk1.trans hn1 (WKeep.of_below hb2)
  have HK := hide hk2
  have HN1 := hide hn1
  clear hk1 hk2 hn1 hb2
  go_wp2
  go_loopw [23] (fun v23 wr => v23 = .int .i64 0 ∧ wr = w2) (fun _ _ => 0)
  case atStart => exact ⟨rfl, rfl⟩
  case round =>
    obtain ⟨rfl, rfl⟩ := hrel
    go_wp2
    go_ret
    first | exact ⟨v1, rfl, HW2.out, HK.out, HN1.out⟩ | exact ⟨rfl, v1, HW2.out, HK.out, HN1.out⟩
end Go.Proofs.Ytajkgecegefnmaa

