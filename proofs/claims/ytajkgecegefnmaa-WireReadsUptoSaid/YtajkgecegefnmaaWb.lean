import Derived.Laws.BytesArg
import Derived.Test.YtajkgecegefnmaaWa
namespace Go.Proofs.Ytajkgecegefnmaa
open Go.ChangeShapes Go.WideShapes Go.ChangeAt Go.RowKit Go.Deep
set_option linter.unusedSimpArgs false
set_option linter.unusedVariables false

set_option maxRecDepth 100000 in
set_option maxHeartbeats 1000000 in
theorem dReal_end (h cap : Nat) (ao : Option Addr) (ns : List Nat) (a : Nat) (w : World) (hD : DObj w h ao cap ns a) (hn : ns.length < a + 8) : Calls Try.prog 62 #[.pointer (some ⟨h, 0, none⟩)] w (fun e w' => e = .returned (.tuple #[.int .u64 0, .int .i64 110]) ∧ Only h w w' ∧ DObj w' h ao cap ns a) := by
  have hx : (ns.length : Int) - (a : Int) < 8 := by omega
  have hD' := hide hD
  obtain ⟨d1, d2, d3, d4, d5, d6, d7, d8⟩ := hD
  have D4 := hide d4
  have D5 := hide d5
  clear d4 d5
  go_enter Try.func62, Try.ntmps62
  go_wp2_with fail
  refine (dLeft_c h cap _ ns a _ hD'.out).mono ?_
  rintro e w1 ⟨rfl, hb1⟩
  have HD1 := hide (hD'.out.below hb1)
  have HB1 := hide hb1
  clear hb1
  go_wp2
  go_ret2
  exact ⟨rfl, Only.of_below HB1.out, HD1.out⟩

set_option maxRecDepth 100000 in
set_option maxHeartbeats 4000000 in
theorem dReal_ok (h cap : Nat) (ao : Option Addr) (ns : List Nat) (a : Nat) (w : World) (hD : DObj w h ao cap ns a) (hn : a + 8 ≤ ns.length) : Calls Try.prog 62 #[.pointer (some ⟨h, 0, none⟩)] w (fun e w' => e = .returned (.tuple #[.int .u64 (num ((ns.drop a).take 8) : Int), .int .i64 0]) ∧ Only h w w' ∧ DObj w' h ao cap ns (a + 8)) := by
  have hx : ¬ (ns.length : Int) - (a : Int) < 8 := by omega
  have hD' := hide hD
  obtain ⟨d1, d2, d3, d4, d5, d6, d7, d8⟩ := hD
  have D4 := hide d4
  have D5 := hide d5
  clear d4 d5
  obtain ⟨b, off, hao, hb, hbh, hbc⟩ := D4.out (by rintro rfl; simp at hn)
  subst hao
  have HBC := hide hbc
  clear hbc
  go_enter Try.func62, Try.ntmps62
  go_wp2_with fail
  refine (dLeft_c h cap _ ns a _ hD'.out).mono ?_
  rintro e w1 ⟨rfl, hb1⟩
  have HD1 := hide (hD'.out.below hb1)
  have HB1 := hide hb1
  clear hb1
  have BC2 := hide (show ∀ j, j < ns.length → w1.cell? ⟨b, off + j, none⟩ = some (.int .u8 (ns.getD j 0 : Int)) from fun j hj => (HB1.out.cell (p := ⟨b, off + j, none⟩) hb).trans (HBC.out j hj))
  have hb2z : b < w1.heap.size := Nat.lt_of_lt_of_le hb HB1.out.size
  obtain ⟨e1, e2, e3, _, _, _, _, _⟩ := HD1.out
  go_wp2_with fail
  go_loopw [4, 5] (fun v4 v5 wr => ∃ j : Nat, j ≤ 8 ∧ v4 = .int .u64 (num ((ns.drop a).take j) : Int) ∧ v5 = .int .i64 (j : Int) ∧ Below w1.heap.size w1 wr) (fun _ v5 _ => 8 - (intOf v5).toNat)
  case atStart => exact ⟨0, Nat.zero_le _, rfl, rfl, by (focus repeat' (first | (with_reducible exact Below.refl _ _) | (with_reducible assumption) | (with_reducible refine Below.alloc ?_ ?_ _) | (with_reducible refine Below.drew ?_) | (with_reducible refine bdrewN ?_ _) | (with_reducible refine Below.setCell ?_ ?_ _) | (first | (with_reducible exact Nat.le_refl _) | (with_reducible assumption) | omega | (simp; omega) | (simp; done))))⟩
  case round =>
    obtain ⟨j, hj, rfl, rfl, rB⟩ := hrel
    have f1 : ∀ o, wr.cell? ⟨h, o, none⟩ = (#[Value.slice (some ⟨b, off, none⟩) ns.length cap, Value.int .i64 (a : Int)] : Array Value)[o]? := fun o => (rB.cell (p := ⟨h, o, none⟩) e1).trans (e2 o)
    have f2 : ∀ o, wr.frozen? ⟨h, o, none⟩ = false := fun o => (rB.frozen (p := ⟨h, o, none⟩) e1).trans (e3 o)
    have hzr : w1.heap.size ≤ wr.heap.size := rB.size
    have hh : h < wr.heap.size := by omega
    by_cases hlt : j < 8
    · have hle : (j : Int) < 8 := by omega
      have c1 : wr.cell? ⟨b, off + (a + j), none⟩ = some (.int .u8 (ns.getD (a + j) 0 : Int)) := (rB.cell (p := ⟨b, off + (a + j), none⟩) hb2z).trans (BC2.out (a + j) (by omega))
      have hy : ns.getD (a + j) 0 < 256 := getD_lt D5.out _
      have hnx := hide (show num ((ns.drop a).take (j + 1)) = 256 * num ((ns.drop a).take j) + ns.getD (a + j) 0 from by
        rw [← num_app]
        congr 1
        rw [List.take_add_one]
        congr 1
        simp [List.getD, show a + j < ns.length by omega])
      have hX : num ((ns.drop a).take j) < 72057594037927936 := by
        have q := num_lt j ((ns.drop a).take j) (by rw [List.length_take, List.length_drop]; omega) (fun x hx => D5.out x (List.mem_of_mem_drop (List.mem_of_mem_take hx)))
        have p : 256 ^ j ≤ 256 ^ 7 := Nat.pow_le_pow_right (by decide) (by omega)
        have p7 : (256 : Nat) ^ 7 = 72057594037927936 := by decide
        omega
      have hw1 : IntKind.i64.wrap ((a : Int) + (j : Int)) = ((a + j : Nat) : Int) := by (simp [IntKind.wrap, IntKind.bits, IntKind.signed]; omega)
      have hix : a + j < ns.length := by omega
      generalize num ((ns.drop a).take j) = X at *
      generalize ns.getD (a + j) 0 = y at *
      generalize hk : a + j = k at *
      have HK := hide hk
      clear hk
      go_wp2_with fail
      go_quiet (fail)
      go_wp2
      go_roundw
      case rel => exact ⟨j + 1, by omega, by rw [hnx.out]; first | rfl | go_num, by go_num, by (focus repeat' (first | (with_reducible exact Below.refl _ _) | (with_reducible assumption) | (with_reducible refine Below.alloc ?_ ?_ _) | (with_reducible refine Below.drew ?_) | (with_reducible refine bdrewN ?_ _) | (with_reducible refine Below.setCell ?_ ?_ _) | (first | (with_reducible exact Nat.le_refl _) | (with_reducible assumption) | omega | (simp; omega) | (simp; done))))⟩
      case measure => (first | (simp [intOf]; done) | (simp [intOf]; omega))
    · obtain rfl : j = 8 := by omega
      have ha1 : IntKind.i64.wrap ((a : Int) + 8) = (a : Int) + 8 := by (simp [IntKind.wrap, IntKind.bits, IntKind.signed]; omega)
      have HDm := hide ((HD1.out.below rB).move (a' := a + 8) (by omega))
      have HOm := hide ((Only.of_below (g := h) (HB1.out.trans (rB.mono HB1.out.size))).set 1 (.int .i64 ((a + 8 : Nat) : Int)))
      generalize hXX : num ((ns.drop a).take 8) = X at *
      have HXX := hide hXX
      clear hXX
      go_wp2
      go_ret2
      exact ⟨by (rw [HXX.out]; rfl), HOm.out, HDm.out⟩

theorem dReal_c (h cap : Nat) (ao : Option Addr) (ns : List Nat) (a : Nat) (w : World) (hD : DObj w h ao cap ns a) : Calls Try.prog 62 #[.pointer (some ⟨h, 0, none⟩)] w (fun e w' => e = .returned (.tuple #[.int .u64 ((nx ns a 8).1 : Int), .int .i64 ((nx ns a 8).2.1 : Int)]) ∧ Only h w w' ∧ DObj w' h ao cap ns (nx ns a 8).2.2) := by
  by_cases c : ns.length < a + 8
  · rw [nx_end c]; exact dReal_end h cap ao ns a w hD c
  · rw [nx_ok (by omega)]; exact dReal_ok h cap ao ns a w hD (by omega)

set_option maxRecDepth 100000 in
set_option maxHeartbeats 1000000 in
theorem dText_neg (h cap : Nat) (ao : Option Addr) (ns : List Nat) (a : Nat) (m : Int) (w : World) (hD : DObj w h ao cap ns a) (hm : m < 0) : Calls Try.prog 64 #[.pointer (some ⟨h, 0, none⟩), .int .i64 m] w (fun e w' => e = .returned (.tuple #[.string ⟨#[]⟩, .int .i64 2]) ∧ Only h w w' ∧ DObj w' h ao cap ns a) := by
  have hD' := hide hD
  have hsm := hide hD.small
  have hr0 := rd_lt ns a hD.small
  have hp0 := rd_place ns a hD.le
  obtain ⟨d1, d2, d3, d4, d5, d6, d7, d8⟩ := hD
  have D4 := hide d4
  clear d4 d5
  go_enter Try.func64, Try.ntmps64
  go_wp2
  go_ret2
  exact ⟨rfl, Only.of_below (Below.refl _ _), hD'.out⟩

set_option maxRecDepth 100000 in
set_option maxHeartbeats 1000000 in
theorem dText_bad (h cap : Nat) (ao : Option Addr) (ns : List Nat) (a : Nat) (m : Nat) (w : World) (hD : DObj w h ao cap ns a) (hm : m ≤ 9223372036854775807) (hE : (rd ns a).2.1 ≠ 0) : Calls Try.prog 64 #[.pointer (some ⟨h, 0, none⟩), .int .i64 (m : Int)] w (fun e w' => e = .returned (.tuple #[.string ⟨#[]⟩, .int .i64 ((rd ns a).2.1 : Int)]) ∧ Only h w w' ∧ DObj w' h ao cap ns a) := by
  have hE' : ¬ ((rd ns a).2.1 : Int) = 0 := by omega
  have hz := (rd_zero ns a hE).2
  have hD' := hide hD
  have hsm := hide hD.small
  have hr0 := rd_lt ns a hD.small
  have hp0 := rd_place ns a hD.le
  obtain ⟨d1, d2, d3, d4, d5, d6, d7, d8⟩ := hD
  have D4 := hide d4
  clear d4 d5
  go_enter Try.func64, Try.ntmps64
  go_wp2_with fail
  refine (dNum_c h cap _ ns a _ hD'.out).mono ?_
  rw [hz]
  rintro e w1 ⟨rfl, ho1, hD1⟩
  have HD1 := hide hD1
  have HO1 := hide ho1
  clear hD1 ho1
  obtain ⟨e1, e2, e3, _, _, _, _, _⟩ := HD1.out
  go_wp2
  go_ret2
  exact ⟨rfl, HO1.out, HD1.out⟩

set_option maxRecDepth 100000 in
set_option maxHeartbeats 1000000 in
theorem dText_many (h cap : Nat) (ao : Option Addr) (ns : List Nat) (a : Nat) (m : Nat) (w : World) (hD : DObj w h ao cap ns a) (hm : m ≤ 9223372036854775807) (hE : (rd ns a).2.1 = 0) (hM : m < (rd ns a).1) : Calls Try.prog 64 #[.pointer (some ⟨h, 0, none⟩), .int .i64 (m : Int)] w (fun e w' => e = .returned (.tuple #[.string ⟨#[]⟩, .int .i64 3]) ∧ Only h w w' ∧ DObj w' h ao cap ns a) := by
  have hM' : (m : Int) < ((rd ns a).1 : Int) := by omega
  have hD' := hide hD
  have hsm := hide hD.small
  have hr0 := rd_lt ns a hD.small
  have hp0 := rd_place ns a hD.le
  obtain ⟨d1, d2, d3, d4, d5, d6, d7, d8⟩ := hD
  have D4 := hide d4
  clear d4 d5
  go_enter Try.func64, Try.ntmps64
  go_wp2_with fail
  refine (dNum_c h cap _ ns a _ hD'.out).mono ?_
  rw [hE]
  rintro e w1 ⟨rfl, ho1, hD1⟩
  have HD1 := hide hD1
  have HO1 := hide ho1
  clear hD1 ho1
  obtain ⟨e1, e2, e3, _, _, _, _, _⟩ := HD1.out
  go_wp2
  go_ret2
  exact ⟨rfl, HO1.out.set 1 _, HD1.out.move d6⟩

set_option maxRecDepth 100000 in
set_option maxHeartbeats 1000000 in
theorem dText_end (h cap : Nat) (ao : Option Addr) (ns : List Nat) (a : Nat) (m : Nat) (w : World) (hD : DObj w h ao cap ns a) (hm : m ≤ 9223372036854775807) (hE : (rd ns a).2.1 = 0) (hM : ¬ m < (rd ns a).1) (hL : ns.length - (rd ns a).2.2 < (rd ns a).1) : Calls Try.prog 64 #[.pointer (some ⟨h, 0, none⟩), .int .i64 (m : Int)] w (fun e w' => e = .returned (.tuple #[.string ⟨#[]⟩, .int .i64 110]) ∧ Only h w w' ∧ DObj w' h ao cap ns a) := by
  have hM' : ¬ (m : Int) < ((rd ns a).1 : Int) := by omega
  have hL' : ((ns.length - (rd ns a).2.2 : Nat) : Int) < ((rd ns a).1 : Int) := by omega
  have hD' := hide hD
  have hsm := hide hD.small
  have hr0 := rd_lt ns a hD.small
  have hp0 := rd_place ns a hD.le
  obtain ⟨d1, d2, d3, d4, d5, d6, d7, d8⟩ := hD
  have D4 := hide d4
  clear d4 d5
  have hk : ((ns.length : Int) - ((rd ns a).2.2 : Int)) = ((ns.length - (rd ns a).2.2 : Nat) : Int) := by omega
  have HK := hide hk
  clear hk
  go_enter Try.func64, Try.ntmps64
  go_wp2_with fail
  refine (dNum_c h cap _ ns a _ hD'.out).mono ?_
  rw [hE]
  rintro e w1 ⟨rfl, ho1, hD1⟩
  have HD1 := hide hD1
  have HO1 := hide ho1
  clear hD1 ho1
  obtain ⟨e1, e2, e3, _, _, _, _, _⟩ := HD1.out
  go_wp2_with fail
  refine (dLeft_c h cap _ ns _ _ HD1.out).mono ?_
  rw [HK.out]
  rintro e w2 ⟨rfl, hb2⟩
  have HD2 := hide (HD1.out.below hb2)
  have HO2 := hide (HO1.out.trans_below hb2)
  clear hb2 e1 e2 e3
  obtain ⟨e1, e2, e3, _, _, _, _, _⟩ := HD2.out
  go_wp2
  go_ret2
  exact ⟨rfl, HO2.out.set 1 _, HD2.out.move d6⟩

set_option maxRecDepth 100000 in
set_option maxHeartbeats 4000000 in
theorem dText_some (h cap : Nat) (ao : Option Addr) (ns : List Nat) (a : Nat) (m : Nat) (w : World) (hD : DObj w h ao cap ns a) (hm : m ≤ 9223372036854775807) (hE : (rd ns a).2.1 = 0) (hM : ¬ m < (rd ns a).1) (hL : ¬ ns.length - (rd ns a).2.2 < (rd ns a).1) (hn : 0 < (rd ns a).1) : Calls Try.prog 64 #[.pointer (some ⟨h, 0, none⟩), .int .i64 (m : Int)] w (fun e w' => e = .returned (.tuple #[.string (bstr ((ns.drop (rd ns a).2.2).take (rd ns a).1)), .int .i64 0]) ∧ Only h w w' ∧ DObj w' h ao cap ns ((rd ns a).2.2 + (rd ns a).1)) := by
  have hM' : ¬ (m : Int) < ((rd ns a).1 : Int) := by omega
  have hL' : ¬ ((ns.length - (rd ns a).2.2 : Nat) : Int) < ((rd ns a).1 : Int) := by omega
  have hne : ns ≠ [] := by (rintro rfl; have := rd_some hE; simp at this)
  have hD' := hide hD
  have hsm := hide hD.small
  have hr0 := rd_lt ns a hD.small
  have hp0 := rd_place ns a hD.le
  obtain ⟨d1, d2, d3, d4, d5, d6, d7, d8⟩ := hD
  have D4 := hide d4
  clear d4 d5
  have hk : ((ns.length : Int) - ((rd ns a).2.2 : Int)) = ((ns.length - (rd ns a).2.2 : Nat) : Int) := by omega
  have HK := hide hk
  clear hk
  obtain ⟨b, off, hao, hb, hbh, hbc⟩ := D4.out hne
  subst hao
  have HBC := hide hbc
  have HN := hide hn
  clear hbc hne hn
  go_enter Try.func64, Try.ntmps64
  go_wp2_with fail
  refine (dNum_c h cap _ ns a _ hD'.out).mono ?_
  rw [hE]
  rintro e w1 ⟨rfl, ho1, hD1⟩
  have HD1 := hide hD1
  have HO1 := hide ho1
  clear hD1 ho1
  obtain ⟨e1, e2, e3, _, _, _, _, _⟩ := HD1.out
  go_wp2_with fail
  refine (dLeft_c h cap _ ns _ _ HD1.out).mono ?_
  rw [HK.out]
  rintro e w2 ⟨rfl, hb2⟩
  have HD2 := hide (HD1.out.below hb2)
  have HO2 := hide (HO1.out.trans_below hb2)
  clear hb2 e1 e2 e3
  obtain ⟨e1, e2, e3, _, _, _, _, _⟩ := HD2.out
  have hb2z : b < w2.heap.size := Nat.lt_of_lt_of_le hb HO2.out.size
  have BC2 := hide (show ∀ j, j < ns.length → w2.cell? ⟨b, off + j, none⟩ = some (.int .u8 (ns.getD j 0 : Int)) from fun j hj => (World.cell?_of_block (HO2.out.block b hb hbh)).trans (HBC.out j hj))
  generalize hn0 : (rd ns a).1 = n at *
  generalize hpl0 : (rd ns a).2.2 = pl at *
  have HN0 := hide hn0
  have HPL0 := hide hpl0
  clear hn0 hpl0
  have hfit : pl + n ≤ ns.length := by omega
  obtain ⟨E, hEq⟩ : ∃ E, pl + n = E := ⟨_, rfl⟩
  have hw0 : IntKind.i64.wrap ((pl : Int) + (n : Int)) = (E : Int) := by (simp [IntKind.wrap, IntKind.bits, IntKind.signed]; omega)
  have hw1 : IntKind.i64.wrap ((E : Int) - (n : Int)) = (pl : Int) := by (simp [IntKind.wrap, IntKind.bits, IntKind.signed]; omega)
  have hw2 : E ≤ cap := by omega
  have hw3 : pl ≤ E := by omega
  have hn63 : (n : Int) < 9223372036854775808 := by omega
  have hEl : E ≤ ns.length := by omega
  have HEq := hide hEq
  have HDm := hide (HD2.out.move (a' := E) hEl)
  have HOm := hide (HO2.out.set 1 (.int .i64 (E : Int)))
  have hca : ¬ cap = pl := by (have := HN.out; omega)
  have hrl : ((ns.drop pl).take n).length = E - pl := by (rw [List.length_take, List.length_drop]; omega)
  have CV : ∀ k, Sem.run Try.prog (convert 28 9 (.slice (some ⟨b, off + pl, none⟩) (E - pl) (cap - pl))) ((w2.setCell ⟨h, 1, none⟩ (.int .i64 (E : Int))).drewN k) = .ok (.string (bstr ((ns.drop pl).take n))) ((w2.setCell ⟨h, 1, none⟩ (.int .i64 (E : Int))).drewN k) := fun k => by
    have q := conv28 ((w2.setCell ⟨h, 1, none⟩ (.int .i64 (E : Int))).drewN k) b (off + pl) (cap - pl) ((ns.drop pl).take n) (fun i hi => by
      rw [hrl] at hi
      have q1 : ((w2.setCell ⟨h, 1, none⟩ (.int .i64 (E : Int))).drewN k).cell? ⟨b, off + (pl + i), none⟩ = w2.cell? ⟨b, off + (pl + i), none⟩ := by
        have q0 := (bdrewN (Below.refl _ (w2.setCell ⟨h, 1, none⟩ (.int .i64 (E : Int)))) k).cell (p := ⟨b, off + (pl + i), none⟩) (show b < _ by simpa using hb2z)
        exact q0.trans (World.cell?_of_block (Below.heap_setCell _ _ _ _ hbh))
      have q2 := BC2.out (pl + i) (by omega)
      rw [← Nat.add_assoc] at q1 q2
      rw [q1, q2]
      simp [List.getD, show i < n by omega, show pl + i < ns.length by omega])
    rw [hrl] at q
    exact q
  generalize hst : bstr ((ns.drop pl).take n) = st at *
  have HST := hide hst
  clear hst hrl hEq
  go_wp2
  go_quiet (fail)
  go_wp2
  go_ret2
  exact ⟨by (rw [HPL0.out, HN0.out, HST.out]; rfl), HOm.out.trans_below (bdrewN (Below.refl _ _) _), by (rw [HPL0.out, HN0.out, HEq.out]; exact HDm.out.below (bdrewN (Below.refl _ _) _))⟩

set_option maxRecDepth 100000 in
set_option maxHeartbeats 4000000 in
theorem dText_none (h cap : Nat) (ao : Option Addr) (ns : List Nat) (a : Nat) (m : Nat) (w : World) (hD : DObj w h ao cap ns a) (hm : m ≤ 9223372036854775807) (hE : (rd ns a).2.1 = 0) (hM : ¬ m < (rd ns a).1) (hL : ¬ ns.length - (rd ns a).2.2 < (rd ns a).1) (hn : (rd ns a).1 = 0) : Calls Try.prog 64 #[.pointer (some ⟨h, 0, none⟩), .int .i64 (m : Int)] w (fun e w' => e = .returned (.tuple #[.string (bstr ((ns.drop (rd ns a).2.2).take (rd ns a).1)), .int .i64 0]) ∧ Only h w w' ∧ DObj w' h ao cap ns ((rd ns a).2.2 + (rd ns a).1)) := by
  have hM' : ¬ (m : Int) < ((rd ns a).1 : Int) := by omega
  have hL' : ¬ ((ns.length - (rd ns a).2.2 : Nat) : Int) < ((rd ns a).1 : Int) := by omega
  have hne : ns ≠ [] := by (rintro rfl; have := rd_some hE; simp at this)
  have hD' := hide hD
  have hsm := hide hD.small
  have hr0 := rd_lt ns a hD.small
  have hp0 := rd_place ns a hD.le
  obtain ⟨d1, d2, d3, d4, d5, d6, d7, d8⟩ := hD
  have D4 := hide d4
  clear d4 d5
  have hk : ((ns.length : Int) - ((rd ns a).2.2 : Int)) = ((ns.length - (rd ns a).2.2 : Nat) : Int) := by omega
  have HK := hide hk
  clear hk
  obtain ⟨b, off, hao, hb, hbh, hbc⟩ := D4.out hne
  subst hao
  have HBC := hide hbc
  have HN := hide hn
  clear hbc hne hn
  go_enter Try.func64, Try.ntmps64
  go_wp2_with fail
  refine (dNum_c h cap _ ns a _ hD'.out).mono ?_
  rw [hE]
  rintro e w1 ⟨rfl, ho1, hD1⟩
  have HD1 := hide hD1
  have HO1 := hide ho1
  clear hD1 ho1
  obtain ⟨e1, e2, e3, _, _, _, _, _⟩ := HD1.out
  go_wp2_with fail
  refine (dLeft_c h cap _ ns _ _ HD1.out).mono ?_
  rw [HK.out]
  rintro e w2 ⟨rfl, hb2⟩
  have HD2 := hide (HD1.out.below hb2)
  have HO2 := hide (HO1.out.trans_below hb2)
  clear hb2 e1 e2 e3
  obtain ⟨e1, e2, e3, _, _, _, _, _⟩ := HD2.out
  have hb2z : b < w2.heap.size := Nat.lt_of_lt_of_le hb HO2.out.size
  have BC2 := hide (show ∀ j, j < ns.length → w2.cell? ⟨b, off + j, none⟩ = some (.int .u8 (ns.getD j 0 : Int)) from fun j hj => (World.cell?_of_block (HO2.out.block b hb hbh)).trans (HBC.out j hj))
  generalize hn0 : (rd ns a).1 = n at *
  generalize hpl0 : (rd ns a).2.2 = pl at *
  have HN0 := hide hn0
  have HPL0 := hide hpl0
  clear hn0 hpl0
  have hfit : pl + n ≤ ns.length := by omega
  obtain ⟨E, hEq⟩ : ∃ E, pl + n = E := ⟨_, rfl⟩
  have hw0 : IntKind.i64.wrap ((pl : Int) + (n : Int)) = (E : Int) := by (simp [IntKind.wrap, IntKind.bits, IntKind.signed]; omega)
  have hw1 : IntKind.i64.wrap ((E : Int) - (n : Int)) = (pl : Int) := by (simp [IntKind.wrap, IntKind.bits, IntKind.signed]; omega)
  have hw2 : E ≤ cap := by omega
  have hw3 : pl ≤ E := by omega
  have hn63 : (n : Int) < 9223372036854775808 := by omega
  have hEl : E ≤ ns.length := by omega
  have HEq := hide hEq
  have HDm := hide (HD2.out.move (a' := E) hEl)
  have HOm := hide (HO2.out.set 1 (.int .i64 (E : Int)))
  have hn0 := HN.out
  subst hn0
  have CV := fun (w : World) p c => convert_zero w p c
  have hE2 : E = pl := by omega
  subst hE2
  clear hEq
  by_cases hca : cap = E
  · go_wp2
    go_quiet (fail)
    go_wp2
    go_ret2
    exact ⟨by (rw [HN0.out, List.take_zero, bstr_nil]; rfl), HOm.out.trans_below (bdrewN (Below.refl _ _) _), by (rw [HPL0.out, HN0.out]; exact HDm.out.below (bdrewN (Below.refl _ _) _))⟩
  · go_wp2
    go_quiet (fail)
    go_wp2
    go_ret2
    exact ⟨by (rw [HN0.out, List.take_zero, bstr_nil]; rfl), HOm.out.trans_below (bdrewN (Below.refl _ _) _), by (rw [HPL0.out, HN0.out]; exact HDm.out.below (bdrewN (Below.refl _ _) _))⟩

set_option maxRecDepth 100000 in
theorem dText_c (h cap : Nat) (ao : Option Addr) (ns : List Nat) (a : Nat) (m : Nat) (w : World) (hD : DObj w h ao cap ns a) (hm : m ≤ 9223372036854775807) : Calls Try.prog 64 #[.pointer (some ⟨h, 0, none⟩), .int .i64 (m : Int)] w (fun e w' => e = .returned (.tuple #[.string (bstr (tx ns a m).1), .int .i64 ((tx ns a m).2.1 : Int)]) ∧ Only h w w' ∧ DObj w' h ao cap ns (tx ns a m).2.2) := by
  by_cases hE : (rd ns a).2.1 = 0
  · by_cases hM : m < (rd ns a).1
    · have q : lg ns a m = (0, 3, (rd ns a).2.2) := by unfold lg; rw [if_neg (by omega), if_pos hM]
      have t : tx ns a m = ([], 3, a) := by unfold tx; rw [q, if_pos (by simp)]
      rw [t, bstr_nil]; exact dText_many h cap ao ns a m w hD hm hE hM
    · by_cases hL : ns.length - (rd ns a).2.2 < (rd ns a).1
      · have q : lg ns a m = (0, 110, (rd ns a).2.2) := by unfold lg; rw [if_neg (by omega), if_neg hM, if_pos hL]
        have t : tx ns a m = ([], 110, a) := by unfold tx; rw [q, if_pos (by simp)]
        rw [t, bstr_nil]; exact dText_end h cap ao ns a m w hD hm hE hM hL
      · have q : lg ns a m = ((rd ns a).1, 0, (rd ns a).2.2) := by unfold lg; rw [if_neg (by omega), if_neg hM, if_neg hL]
        have t : tx ns a m = ((ns.drop (rd ns a).2.2).take (rd ns a).1, 0, (rd ns a).2.2 + (rd ns a).1) := by unfold tx; rw [q, if_neg (by simp)]
        rw [t]
        by_cases hn : 0 < (rd ns a).1
        · exact dText_some h cap ao ns a m w hD hm hE hM hL hn
        · exact dText_none h cap ao ns a m w hD hm hE hM hL (by omega)
  · have q : lg ns a m = (0, (rd ns a).2.1, (rd ns a).2.2) := by unfold lg; rw [if_pos hE]
    have t : tx ns a m = ([], (rd ns a).2.1, a) := by unfold tx; rw [q, if_pos hE]
    rw [t, bstr_nil]; exact dText_bad h cap ao ns a m w hD hm hE

theorem only_grown {h : Nat} {w0 w w' : World} {row : Option Nat} (k : Only h w0 w) (hg : w.grownBy w' row) (hr : ∀ j, row = some j → w0.heap.size ≤ j) : Only h w0 w' :=
  ⟨hg.os.trans k.os, hg.tape.trans k.tape, hg.output.trans k.output, Nat.le_trans k.size hg.size, fun i hi h1 => (hg.block i (by have := k.size; omega) (fun e => by have := hr i e.symm; omega)).trans (k.block i hi h1)⟩
theorem DObj.same {w w' : World} {h : Nat} {ao : Option Addr} {cap : Nat} {ns : List Nat} {a : Nat} (k : DObj w h ao cap ns a) {B : Nat} (hs : w.heap.size ≤ w'.heap.size) (hB : h < B) (hb : ∀ ad, ao = some ad → ns ≠ [] → ad.block < B) (hbl : ∀ i, i < B → w'.heap[i]? = w.heap[i]?) : DObj w' h ao cap ns a :=
  ⟨Nat.lt_of_lt_of_le k.lt hs, fun o => (World.cell?_of_block (hbl h hB)).trans (k.cells o), fun o => (World.frozen?_of_block (hbl h hB)).trans (k.frz o), fun hn => by
    obtain ⟨b, off, h1, h3, h4, h5⟩ := k.bytes hn
    exact ⟨b, off, h1, Nat.lt_of_lt_of_le h3 hs, h4, fun j hj => (World.cell?_of_block (hbl b (hb _ h1 hn))).trans (h5 j hj)⟩, k.small, k.le, k.len, k.cap_le⟩
end Go.Proofs.Ytajkgecegefnmaa
