import Derived.Test.YtajkgecegefnmaaV7
namespace Go.Proofs.Ytajkgecegefnmaa
open Go.ChangeShapes Go.WideShapes Go.ChangeAt Go.RowKit Go.Deep
set_option linter.unusedSimpArgs false
set_option linter.unusedVariables false

set_option maxRecDepth 100000 in
set_option maxHeartbeats 1000000 in
theorem dFlag_end (h cap : Nat) (ao : Option Addr) (ns : List Nat) (a : Nat) (w : World) (hD : DObj w h ao cap ns a) (hn : ns.length ≤ a) : Calls Try.prog 61 #[.pointer (some ⟨h, 0, none⟩)] w (fun e w' => e = .returned (.tuple #[.bool false, .int .i64 110]) ∧ Only h w w' ∧ DObj w' h ao cap ns a) := by
  have hx : (ns.length : Int) - (a : Int) < 1 := by omega
  have hD' := hide hD
  obtain ⟨d1, d2, d3, d4, d5, d6, d7, d8⟩ := hD
  have D4 := hide d4
  have D5 := hide d5
  clear d4 d5
  go_enter Try.func61, Try.ntmps61
  go_wp2_with fail
  refine (dLeft_c h cap _ ns a _ hD'.out).mono ?_
  rintro e w1 ⟨rfl, hb1⟩
  have HD1 := hide (hD'.out.below hb1)
  have HB1 := hide hb1
  clear hb1
  go_wp2
  go_ret2
  exact ⟨rfl, Only.of_below HB1.out, HD1.out⟩

set_option maxRecDepth 100000 in
set_option maxHeartbeats 2000000 in
theorem dFlag_form (h cap : Nat) (ao : Option Addr) (ns : List Nat) (a : Nat) (w : World) (hD : DObj w h ao cap ns a) (hn : a < ns.length) (hf : 1 < ns.getD a 0) : Calls Try.prog 61 #[.pointer (some ⟨h, 0, none⟩)] w (fun e w' => e = .returned (.tuple #[.bool false, .int .i64 111]) ∧ Only h w w' ∧ DObj w' h ao cap ns a) := by
  have hD' := hide hD
  obtain ⟨d1, d2, d3, d4, d5, d6, d7, d8⟩ := hD
  have D4 := hide d4
  have D5 := hide d5
  clear d4 d5
  obtain ⟨b, off, hao, hb, hbh, hbc⟩ := D4.out (by rintro rfl; simp at hn)
  subst hao
  have HBC := hide hbc
  have hx : ¬ ((ns.length : Int) - (a : Int) < 1) := by omega
  have hf256 := getD_lt D5.out a
  have fa : w.cell? ⟨b, off + a, none⟩ = some (.int .u8 (ns.getD a 0 : Int)) := hbc a hn
  clear hbc
  generalize hfe : ns.getD a 0 = f at *
  have HFE := hide hfe
  clear hfe
  have hf' : (1 : Int) < (f : Int) := by omega
  go_enter Try.func61, Try.ntmps61
  go_wp2_with fail
  refine (dLeft_c h cap _ ns a _ hD'.out).mono ?_
  rintro e w1 ⟨rfl, hb1⟩
  have HD1 := hide (hD'.out.below hb1)
  have HB1 := hide hb1
  clear hb1
  obtain ⟨e1, e2, e3, _, _, _, _, _⟩ := HD1.out
  have fa1 : w1.cell? ⟨b, off + a, none⟩ = some (.int .u8 (f : Int)) := (HB1.out.cell (p := ⟨b, off + a, none⟩) hb).trans fa
  clear d2 d3 fa
  go_wp2
  go_quiet (fail)
  go_wp2
  go_ret2
  exact ⟨rfl, Only.of_below (bdrewN HB1.out _), HD1.out.below (bdrewN (Below.refl w1.heap.size w1) _)⟩

set_option maxRecDepth 100000 in
set_option maxHeartbeats 2000000 in
theorem dFlag_one (h cap : Nat) (ao : Option Addr) (ns : List Nat) (a : Nat) (w : World) (hD : DObj w h ao cap ns a) (hn : a < ns.length) (hf : ns.getD a 0 = 1) : Calls Try.prog 61 #[.pointer (some ⟨h, 0, none⟩)] w (fun e w' => e = .returned (.tuple #[.bool true, .int .i64 0]) ∧ Only h w w' ∧ DObj w' h ao cap ns (a + 1)) := by
  have hD' := hide hD
  obtain ⟨d1, d2, d3, d4, d5, d6, d7, d8⟩ := hD
  have D4 := hide d4
  have D5 := hide d5
  clear d4 d5
  obtain ⟨b, off, hao, hb, hbh, hbc⟩ := D4.out (by rintro rfl; simp at hn)
  subst hao
  have HBC := hide hbc
  have hx : ¬ ((ns.length : Int) - (a : Int) < 1) := by omega
  have hf256 := getD_lt D5.out a
  have fa : w.cell? ⟨b, off + a, none⟩ = some (.int .u8 (ns.getD a 0 : Int)) := hbc a hn
  clear hbc
  rw [hf] at fa
  have ha1 : IntKind.i64.wrap ((a : Int) + 1) = (a : Int) + 1 := by (simp [IntKind.wrap, IntKind.bits, IntKind.signed]; omega)
  clear hf hf256
  go_enter Try.func61, Try.ntmps61
  go_wp2_with fail
  refine (dLeft_c h cap _ ns a _ hD'.out).mono ?_
  rintro e w1 ⟨rfl, hb1⟩
  have HD1 := hide (hD'.out.below hb1)
  have HB1 := hide hb1
  clear hb1
  obtain ⟨e1, e2, e3, _, _, _, _, _⟩ := HD1.out
  have fa1 : w1.cell? ⟨b, off + a, none⟩ = some (.int .u8 ((1 : Nat) : Int)) := (HB1.out.cell (p := ⟨b, off + a, none⟩) hb).trans fa
  clear d2 d3 fa
  go_wp2
  go_quiet (fail)
  go_wp2
  have hb1d : Below w1.heap.size w1 (w1.drewN nq) := bdrewN (Below.refl _ _) nq
  have HDm := hide ((HD1.out.below hb1d).move (a' := a + 1) (by omega))
  have HOm := hide ((Only.of_below (g := h) (HB1.out.trans (hb1d.mono HB1.out.size))).set 1 (.int .i64 ((a + 1 : Nat) : Int)))
  clear hb1d
  go_quiet (fail)
  go_wp2
  go_ret2
  exact ⟨rfl, HOm.out.trans_below (bdrewN (Below.refl _ _) _), HDm.out.below (bdrewN (Below.refl _ _) _)⟩

set_option maxRecDepth 100000 in
set_option maxHeartbeats 2000000 in
theorem dFlag_no (h cap : Nat) (ao : Option Addr) (ns : List Nat) (a : Nat) (w : World) (hD : DObj w h ao cap ns a) (hn : a < ns.length) (hf : ns.getD a 0 = 0) : Calls Try.prog 61 #[.pointer (some ⟨h, 0, none⟩)] w (fun e w' => e = .returned (.tuple #[.bool false, .int .i64 0]) ∧ Only h w w' ∧ DObj w' h ao cap ns (a + 1)) := by
  have hD' := hide hD
  obtain ⟨d1, d2, d3, d4, d5, d6, d7, d8⟩ := hD
  have D4 := hide d4
  have D5 := hide d5
  clear d4 d5
  obtain ⟨b, off, hao, hb, hbh, hbc⟩ := D4.out (by rintro rfl; simp at hn)
  subst hao
  have HBC := hide hbc
  have hx : ¬ ((ns.length : Int) - (a : Int) < 1) := by omega
  have hf256 := getD_lt D5.out a
  have fa : w.cell? ⟨b, off + a, none⟩ = some (.int .u8 (ns.getD a 0 : Int)) := hbc a hn
  clear hbc
  rw [hf] at fa
  have ha1 : IntKind.i64.wrap ((a : Int) + 1) = (a : Int) + 1 := by (simp [IntKind.wrap, IntKind.bits, IntKind.signed]; omega)
  clear hf hf256
  go_enter Try.func61, Try.ntmps61
  go_wp2_with fail
  refine (dLeft_c h cap _ ns a _ hD'.out).mono ?_
  rintro e w1 ⟨rfl, hb1⟩
  have HD1 := hide (hD'.out.below hb1)
  have HB1 := hide hb1
  clear hb1
  obtain ⟨e1, e2, e3, _, _, _, _, _⟩ := HD1.out
  have fa1 : w1.cell? ⟨b, off + a, none⟩ = some (.int .u8 ((0 : Nat) : Int)) := (HB1.out.cell (p := ⟨b, off + a, none⟩) hb).trans fa
  clear d2 d3 fa
  go_wp2
  go_quiet (fail)
  go_wp2
  have hb1d : Below w1.heap.size w1 (w1.drewN nq) := bdrewN (Below.refl _ _) nq
  have HDm := hide ((HD1.out.below hb1d).move (a' := a + 1) (by omega))
  have HOm := hide ((Only.of_below (g := h) (HB1.out.trans (hb1d.mono HB1.out.size))).set 1 (.int .i64 ((a + 1 : Nat) : Int)))
  clear hb1d
  go_quiet (fail)
  go_wp2
  go_ret2
  exact ⟨rfl, HOm.out.trans_below (bdrewN (Below.refl _ _) _), HDm.out.below (bdrewN (Below.refl _ _) _)⟩

set_option maxRecDepth 100000 in
theorem dFlag_c (h cap : Nat) (ao : Option Addr) (ns : List Nat) (a : Nat) (w : World) (hD : DObj w h ao cap ns a) : Calls Try.prog 61 #[.pointer (some ⟨h, 0, none⟩)] w (fun e w' => e = .returned (.tuple #[.bool (fl ns a).1, .int .i64 ((fl ns a).2.1 : Int)]) ∧ Only h w w' ∧ DObj w' h ao cap ns (fl ns a).2.2) := by
  by_cases c1 : ns.length ≤ a
  · have q : fl ns a = (false, 110, a) := by unfold fl; rw [if_pos c1]
    rw [q]; exact dFlag_end h cap ao ns a w hD c1
  by_cases c2 : 1 < ns.getD a 0
  · have q : fl ns a = (false, 111, a) := by unfold fl; rw [if_neg c1, if_pos c2]
    rw [q]; exact dFlag_form h cap ao ns a w hD (by omega) c2
  by_cases c3 : ns.getD a 0 = 1
  · have q : fl ns a = (true, 0, a + 1) := by unfold fl; rw [if_neg c1, if_neg c2, c3]; rfl
    rw [q]; exact dFlag_one h cap ao ns a w hD (by omega) c3
  · have c4 : ns.getD a 0 = 0 := by omega
    have q : fl ns a = (false, 0, a + 1) := by unfold fl; rw [if_neg c1, if_neg c2, c4]; rfl
    rw [q]; exact dFlag_no h cap ao ns a w hD (by omega) c4
end Go.Proofs.Ytajkgecegefnmaa
