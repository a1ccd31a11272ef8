import Derived.Test.YtehpjipmlpaflaaP5
namespace Go.Proofs.Ytehpjipmlpaflaa.un
open Go.ChangeShapes Go.WideShapes Go.ChangeAt Go.RowKit Go.Deep Go.Shelf
set_option linter.unusedSimpArgs false
set_option linter.unusedVariables false

attribute [local go_sem] Oper.semAt_some

theorem sumW_le {l : List U} {L : List (List Int)} (h : ∀ j, j < L.length → cnt l j ≤ (bidAt L j).length) : ∀ i, i ≤ L.length → sumW l i ≤ sumL L i
  | 0, _ => Nat.le_refl _
  | i + 1, hi => by
    have h1 := sumW_le h i (by omega)
    have h2 := h i (by omega)
    rw [sumW, sumL]
    omega
set_option maxRecDepth 100000 in
set_option maxHeartbeats 2000000 in
theorem URight_long (count floor : Int) (so : Option Addr) (cap : Nat) (L : List (List Int)) (w : World) (hb : BRows so L w) (hl : isLong L) : Calls Try.prog 6 #[.agg #[.int .i64 count, .int .i64 floor, .slice so L.length cap]] w fun e w' => e = .returned (.bool true) ∧ Below w.heap.size w w' := by
  have HB := hide hb
  have HL := hide hl
  clear hb hl
  go_enter Try.func6, Try.ntmps6
  go_wp2_with fail
  refine (long_yes count floor so cap L _ (HB.out.below (by (focus repeat' (first | (with_reducible exact Below.refl _ _) | (with_reducible assumption) | (with_reducible refine Below.alloc ?_ ?_ _) | (with_reducible refine Below.drew ?_) | (with_reducible refine bdrewN ?_ _) | (with_reducible refine Below.setCell ?_ ?_ _) | (first | (with_reducible exact Nat.le_refl _) | (with_reducible assumption) | omega | (simp; omega) | (simp; done)))))) HL.out).mono ?_
  rintro e w5 ⟨rfl, hb5⟩
  have HB5 := hide (show Below w.heap.size w w5 from bstep (by (focus repeat' (first | (with_reducible exact Below.refl _ _) | (with_reducible assumption) | (with_reducible refine Below.alloc ?_ ?_ _) | (with_reducible refine Below.drew ?_) | (with_reducible refine bdrewN ?_ _) | (with_reducible refine Below.setCell ?_ ?_ _) | (first | (with_reducible exact Nat.le_refl _) | (with_reducible assumption) | omega | (simp; omega) | (simp; done))))) hb5)
  clear hb5
  go_wp2_with fail
  refine (known_c _).mono ?_
  rintro e w6 ⟨rfl, hb6⟩
  have HB6 := hide (bstep HB5.out hb6)
  clear hb6
  go_wp2
  refine bodyPost_ret (v := .bool true) (by simp [results, Try.f6, go_sem]) rfl ⟨rfl, HB6.out⟩
set_option maxRecDepth 100000 in
set_option maxHeartbeats 8000000 in
theorem URight_main (count floor : Int) (so : Option Addr) (cap : Nat) (L : List (List Int)) (w : World) (hb : BRows so L w) (hl : L.length ≤ 40 ∧ ∀ i, i < L.length → (bidAt L i).length ≤ 100) : Calls Try.prog 6 #[.agg #[.int .i64 count, .int .i64 floor, .slice so L.length cap]] w fun e w' => e = .returned (.bool true) ∧ Below w.heap.size w w' := by
  have HB := hide hb
  have HL := hide hl
  have hL40 : L.length ≤ 4096 := by omega
  have hL41 : L.length ≤ 40 := hl.1
  have HLB := hide (short_all hl.2)
  clear hb hl
  go_enter Try.func6, Try.ntmps6
  go_wp2_with fail
  refine (long_no count floor so cap L _ (HB.out.below (by (focus repeat' (first | (with_reducible exact Below.refl _ _) | (with_reducible assumption) | (with_reducible refine Below.alloc ?_ ?_ _) | (with_reducible refine Below.drew ?_) | (with_reducible refine bdrewN ?_ _) | (with_reducible refine Below.setCell ?_ ?_ _) | (first | (with_reducible exact Nat.le_refl _) | (with_reducible assumption) | omega | (simp; omega) | (simp; done)))))) HL.out).mono ?_
  rintro e w1 ⟨rfl, hb1⟩
  have HA1 := hide (show ∀ o, w1.cell? ⟨w.heap.size, o, none⟩ = (#[Value.int .i64 count, .int .i64 floor, .slice so L.length cap] : Array Value)[o]? from fun o => (hb1.cell (p := ⟨w.heap.size, o, none⟩) (by simp)).trans (by simp [go_sem]))
  have HB1 := hide (show Below w.heap.size w w1 from bstep (by (focus repeat' (first | (with_reducible exact Below.refl _ _) | (with_reducible assumption) | (with_reducible refine Below.alloc ?_ ?_ _) | (with_reducible refine Below.drew ?_) | (with_reducible refine bdrewN ?_ _) | (with_reducible refine Below.setCell ?_ ?_ _) | (first | (with_reducible exact Nat.le_refl _) | (with_reducible assumption) | omega | (simp; omega) | (simp; done))))) hb1)
  have hz1 : w.heap.size + 1 ≤ w1.heap.size := by have := hb1.size; simp at this; omega
  clear hb1
  have x0 : w1.cell? ⟨w.heap.size, 0, none⟩ = some (.int .i64 count) := HA1.out 0
  have x1 : w1.cell? ⟨w.heap.size, 1, none⟩ = some (.int .i64 floor) := HA1.out 1
  have x2 : w1.cell? ⟨w.heap.size, 2, none⟩ = some (.slice so L.length cap) := HA1.out 2
  obtain ⟨v, hw⟩ := wrong_one count floor L
  obtain ⟨p, nx, won, hs⟩ := sale_one count floor L v
  have HW := hide hw
  have HS := hide hs
  clear hw hs
  go_wp2_with fail
  refine (Sell_is HW.out HS.out _ (HB.out.below HB1.out)).mono ?_
  rintro e w3 ⟨⟨a3, c3, rfl, own3⟩, hb3⟩
  have HO3 := hide own3
  have hz3 := hb3.size
  have HA3 := hide (fun o => (hb3.cell (p := ⟨w.heap.size, o, none⟩) (show w.heap.size < w1.heap.size by omega)).trans (HA1.out o))
  have HB3 := hide (bstep HB1.out hb3)
  obtain ⟨V3, hV3⟩ : ∃ V3, V3 = w3.alloc (.cells #[.int .i64 p, .slice a3 won.length c3, .int .i64 nx] 30) := ⟨_, rfl⟩
  have hbv : Below w3.heap.size w3 V3 := by rw [hV3]; exact (Below.refl _ _).alloc (Nat.le_refl _) _
  have hzV : V3.heap.size = w3.heap.size + 1 := by rw [hV3]; simp
  have HSB := hide (show ∀ o, V3.cell? ⟨w3.heap.size, o, none⟩ = (#[Value.int .i64 p, .slice a3 won.length c3, .int .i64 nx] : Array Value)[o]? from fun o => by rw [hV3]; simp [go_sem])
  have HAV := hide (fun o => (hbv.cell (p := ⟨w.heap.size, o, none⟩) (show w.heap.size < w3.heap.size by omega)).trans (HA3.out o))
  have HOV := hide (own_bel own3 hbv)
  have HBV := hide (bstep HB3.out hbv)
  have HV3 := hide hV3
  clear hb3 own3 x0 x1 x2 hbv
  rcases HS.out with ⟨hv, rfl, rfl, rfl⟩ | ⟨rfl, hp, hnx, hwon⟩
  · clear hV3
    have d1 : decide (v = 0) = false := by simp [hv]
    have d2 : (v == 0) = false := by simp [hv]
    have d3 : (v != 0) = true := by simp [hv]
    go_wp2_with fail
    refine (known_c _).mono ?_
    rintro e w6 ⟨rfl, hb6⟩
    have HB6 := hide (bstep HBV.out (by rw [HV3.out]; exact hb6))
    clear hb6
    go_wp2
    refine bodyPost_ret (v := .bool true) (by simp [results, Try.f6, go_sem]) rfl ⟨rfl, HB6.out⟩
  · have hm := HW.out.may
    obtain ⟨F1, F2, F3, F4, F5, F6, F7, F8⟩ := right_is hm
    rw [← hp] at F5 F6 F7
    rw [← hnx] at F8
    obtain ⟨⟨hp0, hp9⟩, -, -, -⟩ := sale_bounds HW.out HS.out
    have hwl : won.length = L.length := by rw [hwon, wonI_len]
    obtain ⟨T', hT'⟩ : ∃ T', T' = (ordT L).take count.toNat := ⟨_, rfl⟩
    rw [← hT'] at F1 F4
    have hat : ∀ j, j < L.length → at0 won j = (cnt T' j : Int) := fun j hj => by rw [hwon, at0_wonI _ _ _ hj, hT']
    have F2' : ∀ j q, j < L.length → q < (bidAt L j).length → q < cnt T' j → p ≤ at0 (bidAt L j) q := fun j q h1 h2 h3 => by rw [hp]; exact F2 j q h1 h2 (by rw [← hT']; exact h3)
    have F3' : ∀ j q, j < L.length → q < (bidAt L j).length → cnt T' j ≤ q → at0 (bidAt L j) q ≤ p := fun j q h1 h2 h3 => by rw [hp]; exact F3 j q h1 h2 (by rw [← hT']; exact h3)
    have G1 := hide F1
    have G2 := hide F2'
    have G3 := hide F3'
    have G4 := hide F4
    have G5 := hide F5
    have G6 := hide F6
    have G8 := hide F8
    have HAT := hide hat
    have HSW := hide (sumW_le F1)
    have HSL := hide (sumL_le hm.short)
    have hsh := hm.short
    have HSH := hide hsh
    have hc1 : 1 ≤ count := hm.one
    have hc64 : count ≤ 64 := hm.most
    have hpf : floor ≤ p := F7
    clear hV3 F1 F2 F3 F2' F3' F4 F5 F6 F7 F8 hat hm hp hnx hwon hT' hsh
    have x0 : V3.cell? ⟨w.heap.size, 0, none⟩ = some (.int .i64 count) := HAV.out 0
    have x1 : V3.cell? ⟨w.heap.size, 1, none⟩ = some (.int .i64 floor) := HAV.out 1
    have x2 : V3.cell? ⟨w.heap.size, 2, none⟩ = some (.slice so L.length cap) := HAV.out 2
    have s0 : V3.cell? ⟨w3.heap.size, 0, none⟩ = some (.int .i64 p) := HSB.out 0
    have s1 : V3.cell? ⟨w3.heap.size, 1, none⟩ = some (.slice a3 won.length c3) := HSB.out 1
    have e1 : decide ((won.length : Int) = (L.length : Int)) = true := by rw [hwl]; simp
    have e2 : ((won.length : Int) == (L.length : Int)) = true := by rw [hwl]; simp
    have e3 : ((won.length : Int) != (L.length : Int)) = false := by rw [hwl]; simp
    have HWL := hide hwl
    rw [HV3.out] at x0 x1 x2 s0 s1
    clear hwl
    go_wp2_with fail
    rw [← HV3.out]
    rw [← HV3.out] at x0 x1 x2 s0 s1
    go_loopw [5, 6, 7, 8, 9] (fun v5 v6 v7 v8 v9 wr => ∃ (i : Nat) (lo hi : Int), i ≤ L.length ∧ v9 = .int .i64 (i : Int) ∧ v5 = .int .i64 (sumL L i : Int) ∧ v6 = .int .i64 (sumW T' i : Int) ∧ v7 = .int .i64 lo ∧ v8 = .int .i64 hi ∧ p ≤ lo ∧ hi ≤ p ∧ Below V3.heap.size V3 wr) (fun _ _ _ _ v9 _ => L.length - (intOf v9).toNat)
    case atStart => exact ⟨0, _, _, Nat.zero_le _, rfl, rfl, rfl, rfl, rfl, by omega, by omega, Below.refl _ _⟩
    case round =>
      obtain ⟨i, lo, hi, hi1, rfl, rfl, rfl, rfl, rfl, hlo, hhi, hbw⟩ := hrel
      have HBW := hide hbw
      have hwz := hbw.size
      have hi0 : (0 : Int) ≤ (i : Int) := by omega
      have X0 := (hbw.cell (p := ⟨w.heap.size, 0, none⟩) (show w.heap.size < V3.heap.size by omega)).trans (HAV.out 0)
      have X2 := (hbw.cell (p := ⟨w.heap.size, 2, none⟩) (show w.heap.size < V3.heap.size by omega)).trans (HAV.out 2)
      have S0 := (hbw.cell (p := ⟨w3.heap.size, 0, none⟩) (show w3.heap.size < V3.heap.size by omega)).trans (HSB.out 0)
      have S1 := (hbw.cell (p := ⟨w3.heap.size, 1, none⟩) (show w3.heap.size < V3.heap.size by omega)).trans (HSB.out 1)
      have S2 := (hbw.cell (p := ⟨w3.heap.size, 2, none⟩) (show w3.heap.size < V3.heap.size by omega)).trans (HSB.out 2)
      simp at X0 X2 S0 S1 S2
      have hsl := HSL.out i
      have hsw := HSW.out i hi1
      clear hbw x0 x1 x2 s0 s1
      by_cases hlt : i < L.length
      · have hlt' : (i : Int) < (L.length : Int) := by omega
        have hltw : (i : Int) < (won.length : Int) := by have := HWL.out; omega
        obtain ⟨b, off, si, ci, rfl, ck, hrow⟩ := (HB.out.below (bstep HBV.out HBW.out)).spot hlt
        have HRW := hide hrow
        obtain ⟨g, rfl, hg0, hgl, hgc⟩ := own_row3 HOV.out (by have := HWL.out; omega)
        have cg : wr.cell? ⟨g, i, none⟩ = some (.int .i64 (cnt T' i : Int)) := (HBW.out.cell (p := ⟨g, i, none⟩) hgl).trans ((hgc i (by have := HWL.out; omega)).trans (by rw [HAT.out i hlt]))
        have hfit := G1.out i hlt
        have hsh := HSH.out i
        have hsl2 : sumL L (i + 1) = sumL L i + (bidAt L i).length := rfl
        have hsw2 : sumW T' (i + 1) = sumW T' i + cnt T' i := rfl
        obtain ⟨wi, hwi⟩ : ∃ wi, wi = cnt T' i := ⟨_, rfl⟩
        obtain ⟨al, hal⟩ : ∃ al, al = sumL L i := ⟨_, rfl⟩
        obtain ⟨sd, hsd⟩ : ∃ sd, sd = sumW T' i := ⟨_, rfl⟩
        obtain ⟨xs, hxs⟩ : ∃ xs, xs = bidAt L i := ⟨_, rfl⟩
        rw [← hwi] at cg hfit hsw2
        rw [← hal] at hsl hsw hsl2 ⊢
        rw [← hsd] at hsw hsw2 ⊢
        rw [← hxs] at hfit hsh hsl2 ck HRW
        have W1 := hide (fun q h1 h2 => (by rw [hxs]; exact G2.out i q hlt (by rw [← hxs]; exact h1) (by rw [← hwi]; exact h2) : p ≤ at0 xs q))
        have W2 := hide (fun q h1 h2 => (by rw [hxs]; exact G3.out i q hlt (by rw [← hxs]; exact h1) (by rw [← hwi]; exact h2) : at0 xs q ≤ p))
        have HS1 := hide hsl2
        have HS2 := hide hsw2
        have hw0 : (0 : Int) ≤ (wi : Int) := by omega
        have hw1 : (wi : Int) ≤ (xs.length : Int) := by omega
        have hal2 : (al : Int) ≤ 262144 := by omega
        have hsd2 : (sd : Int) ≤ 262144 := by omega
        have hx64 : (xs.length : Int) ≤ 64 := by omega
        have d1 : decide ((wi : Int) < 0) = false := by (rw [decide_eq_false_iff_not]; omega)
        have d2 : decide ((xs.length : Int) < (wi : Int)) = false := by (rw [decide_eq_false_iff_not]; omega)
        clear hrow hgc hwi hal hsd hxs hsl2 hsw2 hsl hsw
        go_wp2_with fail
        go_quiet (fail)
        go_wp2_with fail
        obtain ⟨wo, hwo⟩ : ∃ q : World, q = wr := ⟨wr, rfl⟩
        subst hwo
        clear d1 d2 S0 X0
        go_loopw [7, 8, 10] (fun v7 v8 v10 wx => ∃ (k : Nat) (lo hi : Int), k ≤ xs.length ∧ v10 = .int .i64 (k : Int) ∧ v7 = .int .i64 lo ∧ v8 = .int .i64 hi ∧ p ≤ lo ∧ hi ≤ p ∧ Below wo.heap.size wo wx) (fun _ _ v10 _ => xs.length - (intOf v10).toNat)
        case atStart => exact ⟨0, lo, hi, Nat.zero_le _, rfl, rfl, rfl, by assumption, by assumption, by (focus repeat' (first | (with_reducible exact Below.refl _ _) | (with_reducible assumption) | (with_reducible refine Below.alloc ?_ ?_ _) | (with_reducible refine Below.drew ?_) | (with_reducible refine bdrewN ?_ _) | (with_reducible refine Below.setCell ?_ ?_ _) | (first | (with_reducible exact Nat.le_refl _) | (with_reducible assumption) | omega | (simp; omega) | (simp; done))))⟩
        case round =>
          obtain ⟨k, l1, h1, hk, rfl, rfl, rfl, hl1, hh1, hbk⟩ := hrel
          have HBK := hide hbk
          have hk0 : (0 : Int) ≤ (k : Int) := by omega
          have Y2 := (hbk.cell (p := ⟨w.heap.size, 2, none⟩) (show w.heap.size < wo.heap.size by omega)).trans X2
          have Y1 := (hbk.cell (p := ⟨w3.heap.size, 1, none⟩) (show w3.heap.size < wo.heap.size by omega)).trans S1
          have cg2 := (hbk.cell (p := ⟨g, i, none⟩) (cell_lt cg)).trans cg
          have ck2 := (hbk.cell (p := ⟨b, off + i, none⟩) (cell_lt ck)).trans ck
          clear hbk
          by_cases hkl : k < xs.length
          · have hkl' : (k : Int) < (xs.length : Int) := by omega
            obtain ⟨b2, off2, rfl, cx⟩ := (HRW.out.below HBK.out).cell hkl
            obtain ⟨x, hx⟩ : ∃ x, x = at0 xs k := ⟨_, rfl⟩
            by_cases hkw : k < wi
            · have hkw' : (k : Int) < (wi : Int) := by omega
              have hpx := W1.out k hkl hkw
              rw [← hx] at cx hpx
              clear hx
              by_cases hm : x < l1
              · go_wp2_with fail
                go_roundw
                case rel => exact ⟨k + 1, x, h1, by omega, by go_num, rfl, rfl, hpx, hh1, HBK.out⟩
                case measure => (first | (simp [intOf]; done) | (simp [intOf]; omega))
              · have hm' : l1 ≤ x := by omega
                go_wp2_with fail
                go_roundw
                case rel => exact ⟨k + 1, l1, h1, by omega, by go_num, rfl, rfl, hl1, hh1, HBK.out⟩
                case measure => (first | (simp [intOf]; done) | (simp [intOf]; omega))
            · have hkw' : (wi : Int) ≤ (k : Int) := by omega
              have hpx := W2.out k hkl (by omega)
              rw [← hx] at cx hpx
              clear hx
              by_cases hm : h1 < x
              · go_wp2_with fail
                go_roundw
                case rel => exact ⟨k + 1, l1, x, by omega, by go_num, rfl, rfl, hl1, hpx, HBK.out⟩
                case measure => (first | (simp [intOf]; done) | (simp [intOf]; omega))
              · have hm' : x ≤ h1 := by omega
                go_wp2_with fail
                go_roundw
                case rel => exact ⟨k + 1, l1, h1, by omega, by go_num, rfl, rfl, hl1, hh1, HBK.out⟩
                case measure => (first | (simp [intOf]; done) | (simp [intOf]; omega))
          · obtain rfl : xs.length = k := by omega
            go_wp2_with fail
            go_roundw
            case rel => exact ⟨i + 1, l1, h1, by omega, by go_num, by (rw [HS1.out]; go_num), by (rw [HS2.out]; go_num), rfl, rfl, hl1, hh1, bstep HBW.out HBK.out⟩
            case measure => (first | (simp [intOf]; done) | (simp [intOf]; omega))
      · obtain rfl : L.length = i := by omega
        obtain ⟨al, hal⟩ : ∃ al, al = sumL L L.length := ⟨_, rfl⟩
        obtain ⟨sd, hsd⟩ : ∃ sd, sd = sumW T' L.length := ⟨_, rfl⟩
        have g4 := G4.out
        have g6 := G6.out
        have g8 := G8.out
        have g5 := G5.out
        obtain ⟨n1, hn1⟩ : ∃ n1, n1 = wantB (p + 1) L L.length := ⟨_, rfl⟩
        obtain ⟨n2, hn2⟩ : ∃ n2, n2 = wantB p L L.length := ⟨_, rfl⟩
        rw [← hal, ← hsd] at g4
        rw [← hal] at g6 g8 hsl ⊢
        rw [← hsd] at ⊢
        rw [← hn1] at g5
        rw [← hn2] at g6
        have HN1 := hide hn1
        have HN2 := hide hn2
        have hal2 : (al : Int) ≤ 262144 := by omega
        have HBR := hide (HB.out.below (bstep HBV.out HBW.out))
        have hn1c : (n1 : Int) ≤ count := by omega
        have q1 : decide (lo < p) = false := by (rw [decide_eq_false_iff_not]; omega)
        have q2 : decide (lo < hi) = false := by (rw [decide_eq_false_iff_not]; omega)
        have q3 : decide (p < hi) = false := by (rw [decide_eq_false_iff_not]; omega)
        have q4 : decide (count < (n1 : Int)) = false := by (rw [decide_eq_false_iff_not]; omega)
        have q5 : ¬ lo < p := by omega
        have q6 : ¬ lo < hi := by omega
        have q7 : ¬ p < hi := by omega
        have PW1 := hide (show ∀ m : Aft (wr), Calls Try.prog 23 #[.int .i64 (p + 1), .slice so L.length cap] m.w fun e w' => e = .returned (.int .i64 (n1 : Int)) ∧ Below m.w.heap.size m.w w' from fun m => by rw [HN1.out]; exact Wanted_c (p + 1) so cap L _ (HBR.out.below m.le) hL40 (fun b => by have := HLB.out b; omega))
        have PW2 := hide (show ∀ m : Aft (wr), Calls Try.prog 23 #[.int .i64 p, .slice so L.length cap] m.w fun e w' => e = .returned (.int .i64 (n2 : Int)) ∧ Below m.w.heap.size m.w w' from fun m => by rw [HN2.out]; exact Wanted_c p so cap L _ (HBR.out.below m.le) hL40 (fun b => by have := HLB.out b; omega))
        have a0 : ∀ m : Aft wr, m.w.cell? ⟨w.heap.size, 0, none⟩ = some (.int .i64 count) := fun m => (m.le.cell (p := ⟨w.heap.size, 0, none⟩) (show w.heap.size < wr.heap.size by omega)).trans X0
        have a2 : ∀ m : Aft wr, m.w.cell? ⟨w.heap.size, 2, none⟩ = some (.slice so L.length cap) := fun m => (m.le.cell (p := ⟨w.heap.size, 2, none⟩) (show w.heap.size < wr.heap.size by omega)).trans X2
        have b0 : ∀ m : Aft wr, m.w.cell? ⟨w3.heap.size, 0, none⟩ = some (.int .i64 p) := fun m => (m.le.cell (p := ⟨w3.heap.size, 0, none⟩) (show w3.heap.size < wr.heap.size by omega)).trans S0
        have b2 : ∀ m : Aft wr, m.w.cell? ⟨w3.heap.size, 2, none⟩ = some (.int .i64 nx) := fun m => (m.le.cell (p := ⟨w3.heap.size, 2, none⟩) (show w3.heap.size < wr.heap.size by omega)).trans S2
        clear hal hsd hn1 hn2 hsl hsw
        rcases Int.lt_trichotomy (al : Int) count with hc | hc | hc
        · have es : sd = al := by omega
          have hle : (al : Int) ≤ count := by omega
          have hnx : nx < 0 := g8.2 hle
          subst es
          have m1 : decide ((sd : Int) = (sd : Int)) = true := by simp
          have m2 : ((sd : Int) != (sd : Int)) = false := by simp
          have m4 : decide (count ≤ (sd : Int)) = false := by (rw [decide_eq_false_iff_not]; omega)
          have m5 : decide (nx < 0) = true := by (rw [decide_eq_true_eq]; exact hnx)
          have m6 : decide ((sd : Int) ≤ count) = true := by (rw [decide_eq_true_eq]; exact hle)
          clear g4 g5 g6 g8 hc
          by_cases hsd0 : (0 : Int) < (sd : Int)
          · have z1 : decide ((0 : Int) < (sd : Int)) = true := by (rw [decide_eq_true_eq]; exact hsd0)
            go_wp2_with fail
            refine (wpIn_wide (n := 3)).1 ?_
            refine wpIn_region_after_tail 24 (by kernel_rfl) (by kernel_rfl) (by kernel_rfl) ?_
            simp only [List.take_succ_cons, List.take_zero, List.drop_succ_cons, List.drop_zero]
            repeat (gi_big_quiet_step ((first | (gi_at_call 23; with_reducible exact aft_call (callsIn_wide.2 (PW1.out _))) | (gi_at_call 23; with_reducible exact aft_call (callsIn_wide.2 (PW2.out _))))))
            refine wpQuietIn_nil ?_
            intro _ hw'
            obtain ⟨m, hw''⟩ := hw'
            subst hw''
            obtain ⟨w8, hb8⟩ := m
            dsimp only
            have y0 : w8.cell? ⟨w.heap.size, 0, none⟩ = some (.int .i64 count) := a0 ⟨w8, hb8⟩
            have y2 : w8.cell? ⟨w3.heap.size, 2, none⟩ = some (.int .i64 nx) := b2 ⟨w8, hb8⟩
            have HB8 := hide (bstep (bstep HBV.out HBW.out) hb8)
            clear a0 a2 b0 b2 PW1 PW2 hb8
            gi_wp2_with fail
            go_wp2_with fail
            refine (known_c _).mono ?_
            rintro e w9 ⟨rfl, hb9⟩
            have HB9 := hide (bstep HB8.out hb9)
            clear hb9
            go_wp2
            refine bodyPost_ret (v := .bool true) (by simp [results, Try.f6, go_sem]) rfl ⟨rfl, HB9.out⟩
          · have z1 : decide ((0 : Int) < (sd : Int)) = false := by (rw [decide_eq_false_iff_not]; exact hsd0)
            go_wp2_with fail
            refine (wpIn_wide (n := 3)).1 ?_
            refine wpIn_region_after_tail 24 (by kernel_rfl) (by kernel_rfl) (by kernel_rfl) ?_
            simp only [List.take_succ_cons, List.take_zero, List.drop_succ_cons, List.drop_zero]
            repeat (gi_big_quiet_step ((first | (gi_at_call 23; with_reducible exact aft_call (callsIn_wide.2 (PW1.out _))) | (gi_at_call 23; with_reducible exact aft_call (callsIn_wide.2 (PW2.out _))))))
            refine wpQuietIn_nil ?_
            intro _ hw'
            obtain ⟨m, hw''⟩ := hw'
            subst hw''
            obtain ⟨w8, hb8⟩ := m
            dsimp only
            have y0 : w8.cell? ⟨w.heap.size, 0, none⟩ = some (.int .i64 count) := a0 ⟨w8, hb8⟩
            have y2 : w8.cell? ⟨w3.heap.size, 2, none⟩ = some (.int .i64 nx) := b2 ⟨w8, hb8⟩
            have HB8 := hide (bstep (bstep HBV.out HBW.out) hb8)
            clear a0 a2 b0 b2 PW1 PW2 hb8
            gi_wp2_with fail
            go_wp2_with fail
            refine (known_c _).mono ?_
            rintro e w9 ⟨rfl, hb9⟩
            have HB9 := hide (bstep HB8.out hb9)
            clear hb9
            go_wp2
            refine bodyPost_ret (v := .bool true) (by simp [results, Try.f6, go_sem]) rfl ⟨rfl, HB9.out⟩
        · have es : sd = al := by omega
          have hle : (al : Int) ≤ count := by omega
          have hge : count ≤ (al : Int) := by omega
          have hnx : nx < 0 := g8.2 hle
          have hn2c : count ≤ (n2 : Int) := by omega
          subst es
          have m1 : decide ((sd : Int) = (sd : Int)) = true := by simp
          have m2 : ((sd : Int) != (sd : Int)) = false := by simp
          have m4 : decide (count ≤ (sd : Int)) = true := by (rw [decide_eq_true_eq]; exact hge)
          have m5 : decide (nx < 0) = true := by (rw [decide_eq_true_eq]; exact hnx)
          have m6 : decide ((sd : Int) ≤ count) = true := by (rw [decide_eq_true_eq]; exact hle)
          have m7 : decide ((n2 : Int) < count) = false := by (rw [decide_eq_false_iff_not]; omega)
          clear g4 g5 g6 g8 hc
          by_cases hsd0 : (0 : Int) < (sd : Int)
          · have z1 : decide ((0 : Int) < (sd : Int)) = true := by (rw [decide_eq_true_eq]; exact hsd0)
            go_wp2_with fail
            refine (wpIn_wide (n := 3)).1 ?_
            refine wpIn_region_after_tail 24 (by kernel_rfl) (by kernel_rfl) (by kernel_rfl) ?_
            simp only [List.take_succ_cons, List.take_zero, List.drop_succ_cons, List.drop_zero]
            repeat (gi_big_quiet_step ((first | (gi_at_call 23; with_reducible exact aft_call (callsIn_wide.2 (PW1.out _))) | (gi_at_call 23; with_reducible exact aft_call (callsIn_wide.2 (PW2.out _))))))
            refine wpQuietIn_nil ?_
            intro _ hw'
            obtain ⟨m, hw''⟩ := hw'
            subst hw''
            obtain ⟨w8, hb8⟩ := m
            dsimp only
            have y0 : w8.cell? ⟨w.heap.size, 0, none⟩ = some (.int .i64 count) := a0 ⟨w8, hb8⟩
            have y2 : w8.cell? ⟨w3.heap.size, 2, none⟩ = some (.int .i64 nx) := b2 ⟨w8, hb8⟩
            have HB8 := hide (bstep (bstep HBV.out HBW.out) hb8)
            clear a0 a2 b0 b2 PW1 PW2 hb8
            gi_wp2_with fail
            go_wp2_with fail
            refine (known_c _).mono ?_
            rintro e w9 ⟨rfl, hb9⟩
            have HB9 := hide (bstep HB8.out hb9)
            clear hb9
            go_wp2
            refine bodyPost_ret (v := .bool true) (by simp [results, Try.f6, go_sem]) rfl ⟨rfl, HB9.out⟩
          · exact absurd (show (0 : Int) < (sd : Int) by omega) hsd0
        · have es : (sd : Int) = count := by omega
          have hge : count ≤ (al : Int) := by omega
          have hnx : ¬ nx < 0 := fun h => by have := g8.1 h; omega
          have hnx' : 0 ≤ nx := by omega
          have hn2c : count ≤ (n2 : Int) := by omega
          have m1 : decide ((sd : Int) = count) = true := by (rw [decide_eq_true_eq]; exact es)
          have m2 : ((sd : Int) != count) = false := by simp [es]
          have m3 : ((sd : Int) == count) = true := by simp [es]
          have m4 : decide (count ≤ (al : Int)) = true := by (rw [decide_eq_true_eq]; exact hge)
          have m5 : decide (nx < 0) = false := by (rw [decide_eq_false_iff_not]; omega)
          have m6 : decide ((al : Int) ≤ count) = false := by (rw [decide_eq_false_iff_not]; omega)
          have m7 : decide ((n2 : Int) < count) = false := by (rw [decide_eq_false_iff_not]; omega)
          have ES := hide es
          clear g4 g5 g6 g8 es
          by_cases hsd0 : (0 : Int) < (sd : Int)
          · have z1 : decide ((0 : Int) < (sd : Int)) = true := by (rw [decide_eq_true_eq]; exact hsd0)
            go_wp2_with fail
            refine (wpIn_wide (n := 3)).1 ?_
            refine wpIn_region_after_tail 24 (by kernel_rfl) (by kernel_rfl) (by kernel_rfl) ?_
            simp only [List.take_succ_cons, List.take_zero, List.drop_succ_cons, List.drop_zero]
            repeat (gi_big_quiet_step ((first | (gi_at_call 23; with_reducible exact aft_call (callsIn_wide.2 (PW1.out _))) | (gi_at_call 23; with_reducible exact aft_call (callsIn_wide.2 (PW2.out _))))))
            refine wpQuietIn_nil ?_
            intro _ hw'
            obtain ⟨m, hw''⟩ := hw'
            subst hw''
            obtain ⟨w8, hb8⟩ := m
            dsimp only
            have y0 : w8.cell? ⟨w.heap.size, 0, none⟩ = some (.int .i64 count) := a0 ⟨w8, hb8⟩
            have y2 : w8.cell? ⟨w3.heap.size, 2, none⟩ = some (.int .i64 nx) := b2 ⟨w8, hb8⟩
            have HB8 := hide (bstep (bstep HBV.out HBW.out) hb8)
            clear a0 a2 b0 b2 PW1 PW2 hb8
            gi_wp2_with fail
            go_wp2_with fail
            refine (known_c _).mono ?_
            rintro e w9 ⟨rfl, hb9⟩
            have HB9 := hide (bstep HB8.out hb9)
            clear hb9
            go_wp2
            refine bodyPost_ret (v := .bool true) (by simp [results, Try.f6, go_sem]) rfl ⟨rfl, HB9.out⟩
          · exact absurd (show (0 : Int) < (sd : Int) by (have := ES.out; omega)) hsd0
theorem UnitsRight_c (count floor : Int) (so : Option Addr) (cap : Nat) (L : List (List Int)) (w : World) (hb : BRows so L w) : Calls Try.prog 6 #[.agg #[.int .i64 count, .int .i64 floor, .slice so L.length cap]] w fun e w' => e = .returned (.bool true) ∧ Below w.heap.size w w' := by
  rcases long_one L with h | h
  · exact URight_long count floor so cap L w hb h
  · exact URight_main count floor so cap L w hb h
end Go.Proofs.Ytehpjipmlpaflaa.un
