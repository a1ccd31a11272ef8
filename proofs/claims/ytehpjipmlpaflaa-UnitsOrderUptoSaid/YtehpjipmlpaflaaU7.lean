import Derived.Test.YtehpjipmlpaflaaU4
import Derived.Test.YtehpjipmlpaflaaU5
namespace Go.Proofs.Ytehpjipmlpaflaa.un
open Go.ChangeShapes Go.WideShapes Go.ChangeAt Go.RowKit Go.Deep Go.Shelf
set_option linter.unusedSimpArgs false
set_option linter.unusedVariables false

attribute [local go_sem] Oper.semAt_some

set_option maxHeartbeats 2000000 in
theorem rcheck_f (count floor : Int) (so : Option Addr) (cap : Nat) (xs : List Int) (w : World) (hr : IRow so xs w) (h1 : 1 ≤ count) (h2 : count ≤ 64) (hf : okC floor) (h0 : 0 < xs.length) (h4 : (xs.length : Int) ≤ count) (hbad : ¬ ∀ k, k < xs.length → goodAt xs k) : Calls Try.prog 18 #[.int .i64 count, .int .i64 floor, .slice so xs.length cap] w fun e w' => e = .returned (.int .i64 2) ∧ Below w.heap.size w w' := by
  have HR := hide hr
  have HF := hide hf
  have hl2 : decide ((xs.length : Int) = 0) = false := by (rw [decide_eq_false_iff_not]; omega)
  have hl3 : ((xs.length : Int) == 0) = false := by (rw [beq_eq_false_iff_ne]; omega)
  have hl4 : xs.length ≤ 64 := by omega
  have HB := hide hbad
  clear hf hr hbad
  go_enter Try.func18, Try.ntmps18
  go_wp2_with (go_at_call 30; refine (rcoins_yes _ _ HF.out).mono ?_; rintro e w5 ⟨rfl, rfl⟩)
  go_loopw [7] (fun v7 wr => ∃ k : Nat, k ≤ xs.length ∧ v7 = .int .i64 (k : Int) ∧ (∀ q, q < k → goodAt xs q) ∧ Below w.heap.size w wr) (fun v7 _ => xs.length - (intOf v7).toNat)
  case atStart => exact ⟨0, Nat.zero_le _, rfl, fun q h => by omega, Below.refl _ _⟩
  case round =>
    obtain ⟨k, hk, rfl, hg, hbw⟩ := hrel
    have HG := hide hg
    have HBW := hide hbw
    clear hg hbw
    have hk0 : (0 : Int) ≤ (k : Int) := by omega
    by_cases hlt : k < xs.length
    · have hlt' : (k : Int) < (xs.length : Int) := by omega
      obtain ⟨b, off, rfl, hcell⟩ := (HR.out.below HBW.out).spot h0
      have HC := hide hcell
      obtain ⟨x, hx⟩ : ∃ x, x = at0 xs k := ⟨_, rfl⟩
      have ck : wr.cell? ⟨b, off + k, none⟩ = some (.int .i64 x) := by rw [hx]; exact hcell k hlt
      have HX := hide hx
      clear hx hcell
      by_cases hok : okC x
      · have HK := hide hok
        clear hok
        rcases k with _ | m
        · rw [Nat.add_zero] at ck
          have d0 : decide ((0 : Int) < 0) = false := by decide
          go_wp2_with fail
          go_big_quiet (first | (go_at_call 30; exact (rcoins_yes _ _ HK.out).mono (fun e w' h => ⟨h.1, _, h.2.symm⟩)))
          go_wp2_with fail
          go_roundw
          case rel =>
            refine ⟨1, by omega, by first | rfl | simp, fun q h => ?_, by have := HBW.out; (focus repeat' (first | (with_reducible exact Below.refl _ _) | (with_reducible assumption) | (with_reducible refine Below.alloc ?_ ?_ _) | (with_reducible refine Below.drew ?_) | (with_reducible refine bdrewN ?_ _) | (with_reducible refine Below.setCell ?_ ?_ _) | (first | (with_reducible exact Nat.le_refl _) | (with_reducible assumption) | omega | (simp; omega) | (simp; done))))⟩
            obtain rfl : q = 0 := by omega
            exact ⟨by rw [← HX.out]; exact HK.out, fun h => by omega⟩
          case measure => (first | (simp [intOf]; done) | (simp [intOf]; omega))
        · obtain ⟨y, hy⟩ : ∃ y, y = at0 xs m := ⟨_, rfl⟩
          have cm : wr.cell? ⟨b, off + m, none⟩ = some (.int .i64 y) := by rw [hy]; exact HC.out m (by omega)
          have HY := hide hy
          have e1 : ((m + 1 : Nat) : Int) - 1 = (m : Int) := by omega
          have hm' : (m : Int) < (xs.length : Int) := by omega
          have d0 : decide ((0 : Int) < ((m + 1 : Nat) : Int)) = true := by (rw [decide_eq_true_eq]; omega)
          have d1 : decide ((0 : Int) < (m : Int) + 1) = true := by (rw [decide_eq_true_eq]; omega)
          clear hy
          by_cases hyx : x ≤ y
          · have d2 : decide (y < x) = false := by (rw [decide_eq_false_iff_not]; omega)
            go_wp2_with fail
            go_big_quiet (first | (go_at_call 30; exact (rcoins_yes _ _ HK.out).mono (fun e w' h => ⟨h.1, _, h.2.symm⟩)))
            go_wp2_with fail
            go_roundw
            case rel =>
              refine ⟨m + 1 + 1, by omega, by go_num, fun q h => ?_, by have := HBW.out; (focus repeat' (first | (with_reducible exact Below.refl _ _) | (with_reducible assumption) | (with_reducible refine Below.alloc ?_ ?_ _) | (with_reducible refine Below.drew ?_) | (with_reducible refine bdrewN ?_ _) | (with_reducible refine Below.setCell ?_ ?_ _) | (first | (with_reducible exact Nat.le_refl _) | (with_reducible assumption) | omega | (simp; omega) | (simp; done))))⟩
              rcases Nat.lt_or_ge q (m + 1) with h3 | h3
              · exact HG.out q h3
              · obtain rfl : q = m + 1 := by omega
                exact ⟨by rw [← HX.out]; exact HK.out, fun _ => by rw [← HX.out, Nat.add_sub_cancel, ← HY.out]; exact hyx⟩
            case measure => (first | (simp [intOf]; done) | (simp [intOf]; omega))
          · have hyx' : y < x := by omega
            have d2 : decide (y < x) = true := by (rw [decide_eq_true_eq]; omega)
            go_wp2_with fail
            go_big_quiet (first | (go_at_call 30; exact (rcoins_yes _ _ HK.out).mono (fun e w' h => ⟨h.1, _, h.2.symm⟩)))
            go_wp2
            refine bodyPost_ret (v := .int .i64 2) (by simp [results, Try.f18, go_sem]) rfl ⟨rfl, by (have := HBW.out; (focus repeat' (first | (with_reducible exact Below.refl _ _) | (with_reducible assumption) | (with_reducible refine Below.alloc ?_ ?_ _) | (with_reducible refine Below.drew ?_) | (with_reducible refine bdrewN ?_ _) | (with_reducible refine Below.setCell ?_ ?_ _) | (first | (with_reducible exact Nat.le_refl _) | (with_reducible assumption) | omega | (simp; omega) | (simp; done)))))⟩
      · have HK := hide hok
        clear hok
        go_wp2_with fail
        go_big_quiet (first | (go_at_call 30; exact (rcoins_no _ _ HK.out).mono (fun e w' h => ⟨h.1, _, h.2.symm⟩)))
        go_wp2
        refine bodyPost_ret (v := .int .i64 2) (by simp [results, Try.f18, go_sem]) rfl ⟨rfl, by (have := HBW.out; (focus repeat' (first | (with_reducible exact Below.refl _ _) | (with_reducible assumption) | (with_reducible refine Below.alloc ?_ ?_ _) | (with_reducible refine Below.drew ?_) | (with_reducible refine bdrewN ?_ _) | (with_reducible refine Below.setCell ?_ ?_ _) | (first | (with_reducible exact Nat.le_refl _) | (with_reducible assumption) | omega | (simp; omega) | (simp; done)))))⟩
    · obtain rfl : k = xs.length := by omega
      exact absurd HG.out HB.out

set_option maxHeartbeats 2000000 in
theorem rcheck_g (count floor : Int) (so : Option Addr) (cap : Nat) (xs : List Int) (w : World) (hr : IRow so xs w) (h1 : 1 ≤ count) (h2 : count ≤ 64) (hf : okC floor) (h0 : 0 < xs.length) (h4 : (xs.length : Int) ≤ count) (hbad : (∀ k, k < xs.length → goodAt xs k) ∧ ∃ k, k < xs.length ∧ at0 xs k < floor) : Calls Try.prog 18 #[.int .i64 count, .int .i64 floor, .slice so xs.length cap] w fun e w' => e = .returned (.int .i64 7) ∧ Below w.heap.size w w' := by
  have HR := hide hr
  have HF := hide hf
  have hl2 : decide ((xs.length : Int) = 0) = false := by (rw [decide_eq_false_iff_not]; omega)
  have hl3 : ((xs.length : Int) == 0) = false := by (rw [beq_eq_false_iff_ne]; omega)
  have hl4 : xs.length ≤ 64 := by omega
  have HB := hide hbad
  clear hf hr hbad
  go_enter Try.func18, Try.ntmps18
  go_wp2_with (go_at_call 30; refine (rcoins_yes _ _ HF.out).mono ?_; rintro e w5 ⟨rfl, rfl⟩)
  go_loopw [7] (fun v7 wr => ∃ k : Nat, k ≤ xs.length ∧ v7 = .int .i64 (k : Int) ∧ (∀ q, q < k → goodAt xs q) ∧ Below w.heap.size w wr) (fun v7 _ => xs.length - (intOf v7).toNat)
  case atStart => exact ⟨0, Nat.zero_le _, rfl, fun q h => by omega, Below.refl _ _⟩
  case round =>
    obtain ⟨k, hk, rfl, hg, hbw⟩ := hrel
    have HG := hide hg
    have HBW := hide hbw
    clear hg hbw
    have hk0 : (0 : Int) ≤ (k : Int) := by omega
    by_cases hlt : k < xs.length
    · have hlt' : (k : Int) < (xs.length : Int) := by omega
      obtain ⟨b, off, rfl, hcell⟩ := (HR.out.below HBW.out).spot h0
      have HC := hide hcell
      obtain ⟨x, hx⟩ : ∃ x, x = at0 xs k := ⟨_, rfl⟩
      have ck : wr.cell? ⟨b, off + k, none⟩ = some (.int .i64 x) := by rw [hx]; exact hcell k hlt
      have HX := hide hx
      clear hx hcell
      by_cases hok : okC x
      · have HK := hide hok
        clear hok
        rcases k with _ | m
        · rw [Nat.add_zero] at ck
          have d0 : decide ((0 : Int) < 0) = false := by decide
          go_wp2_with fail
          go_big_quiet (first | (go_at_call 30; exact (rcoins_yes _ _ HK.out).mono (fun e w' h => ⟨h.1, _, h.2.symm⟩)))
          go_wp2_with fail
          go_roundw
          case rel =>
            refine ⟨1, by omega, by first | rfl | simp, fun q h => ?_, by have := HBW.out; (focus repeat' (first | (with_reducible exact Below.refl _ _) | (with_reducible assumption) | (with_reducible refine Below.alloc ?_ ?_ _) | (with_reducible refine Below.drew ?_) | (with_reducible refine bdrewN ?_ _) | (with_reducible refine Below.setCell ?_ ?_ _) | (first | (with_reducible exact Nat.le_refl _) | (with_reducible assumption) | omega | (simp; omega) | (simp; done))))⟩
            obtain rfl : q = 0 := by omega
            exact ⟨by rw [← HX.out]; exact HK.out, fun h => by omega⟩
          case measure => (first | (simp [intOf]; done) | (simp [intOf]; omega))
        · obtain ⟨y, hy⟩ : ∃ y, y = at0 xs m := ⟨_, rfl⟩
          have cm : wr.cell? ⟨b, off + m, none⟩ = some (.int .i64 y) := by rw [hy]; exact HC.out m (by omega)
          have HY := hide hy
          have e1 : ((m + 1 : Nat) : Int) - 1 = (m : Int) := by omega
          have hm' : (m : Int) < (xs.length : Int) := by omega
          have d0 : decide ((0 : Int) < ((m + 1 : Nat) : Int)) = true := by (rw [decide_eq_true_eq]; omega)
          have d1 : decide ((0 : Int) < (m : Int) + 1) = true := by (rw [decide_eq_true_eq]; omega)
          clear hy
          by_cases hyx : x ≤ y
          · have d2 : decide (y < x) = false := by (rw [decide_eq_false_iff_not]; omega)
            go_wp2_with fail
            go_big_quiet (first | (go_at_call 30; exact (rcoins_yes _ _ HK.out).mono (fun e w' h => ⟨h.1, _, h.2.symm⟩)))
            go_wp2_with fail
            go_roundw
            case rel =>
              refine ⟨m + 1 + 1, by omega, by go_num, fun q h => ?_, by have := HBW.out; (focus repeat' (first | (with_reducible exact Below.refl _ _) | (with_reducible assumption) | (with_reducible refine Below.alloc ?_ ?_ _) | (with_reducible refine Below.drew ?_) | (with_reducible refine bdrewN ?_ _) | (with_reducible refine Below.setCell ?_ ?_ _) | (first | (with_reducible exact Nat.le_refl _) | (with_reducible assumption) | omega | (simp; omega) | (simp; done))))⟩
              rcases Nat.lt_or_ge q (m + 1) with h3 | h3
              · exact HG.out q h3
              · obtain rfl : q = m + 1 := by omega
                exact ⟨by rw [← HX.out]; exact HK.out, fun _ => by rw [← HX.out, Nat.add_sub_cancel, ← HY.out]; exact hyx⟩
            case measure => (first | (simp [intOf]; done) | (simp [intOf]; omega))
          · have hyx' : y < x := by omega
            have d2 : decide (y < x) = true := by (rw [decide_eq_true_eq]; omega)
            exact absurd (HB.out.1 (m + 1) hlt).2 (fun q => hyx (by have := q (by omega); rw [← HX.out, Nat.add_sub_cancel, ← HY.out] at this; exact this))
      · have HK := hide hok
        clear hok
        exact absurd (HB.out.1 k hlt).1 (by rw [← HX.out]; exact HK.out)
    · obtain rfl : k = xs.length := by omega
      have HBX := hide HBW.out
      go_wp2_with fail
      go_loopw [8] (fun v8 wj => ∃ j : Nat, j ≤ xs.length ∧ v8 = .int .i64 (j : Int) ∧ (∀ q, q < j → floor ≤ at0 xs q) ∧ Below w.heap.size w wj) (fun v8 _ => xs.length - (intOf v8).toNat)
      case atStart => exact ⟨0, Nat.zero_le _, rfl, fun q h => by omega, HBX.out⟩
      case round =>
        obtain ⟨j, hj, rfl, hg2, hbj⟩ := hrel
        have HG2 := hide hg2
        have HBJ := hide hbj
        clear hg2 hbj
        have hj0 : (0 : Int) ≤ (j : Int) := by omega
        by_cases hj2 : j < xs.length
        · have hj' : (j : Int) < (xs.length : Int) := by omega
          obtain ⟨b, off, rfl, hcell⟩ := (HR.out.below HBJ.out).spot h0
          obtain ⟨x, hx⟩ : ∃ x, x = at0 xs j := ⟨_, rfl⟩
          have cj : wr.cell? ⟨b, off + j, none⟩ = some (.int .i64 x) := by rw [hx]; exact hcell j hj2
          have HX := hide hx
          clear hx hcell
          by_cases hfx : floor ≤ x
          · go_wp2
            go_roundw
            case rel =>
              refine ⟨j + 1, by omega, by go_num, fun q h => ?_, by (have := HBJ.out; (focus repeat' (first | (with_reducible exact Below.refl _ _) | (with_reducible assumption) | (with_reducible refine Below.alloc ?_ ?_ _) | (with_reducible refine Below.drew ?_) | (with_reducible refine bdrewN ?_ _) | (with_reducible refine Below.setCell ?_ ?_ _) | (first | (with_reducible exact Nat.le_refl _) | (with_reducible assumption) | omega | (simp; omega) | (simp; done)))))⟩
              rcases Nat.lt_or_ge q j with h3 | h3
              · exact HG2.out q h3
              · obtain rfl : q = j := by omega
                rw [← HX.out]; omega
            case measure => (first | (simp [intOf]; done) | (simp [intOf]; omega))
          · have hfx' : x < floor := by omega
            go_wp2
            refine bodyPost_ret (v := .int .i64 7) (by simp [results, Try.f18, go_sem]) rfl ⟨rfl, by (have := HBJ.out; (focus repeat' (first | (with_reducible exact Below.refl _ _) | (with_reducible assumption) | (with_reducible refine Below.alloc ?_ ?_ _) | (with_reducible refine Below.drew ?_) | (with_reducible refine bdrewN ?_ _) | (with_reducible refine Below.setCell ?_ ?_ _) | (first | (with_reducible exact Nat.le_refl _) | (with_reducible assumption) | omega | (simp; omega) | (simp; done)))))⟩
        · obtain rfl : j = xs.length := by omega
          obtain ⟨q, hq, hql⟩ := HB.out.2
          exact absurd (HG2.out q hq) (by omega)

set_option maxHeartbeats 2000000 in
theorem rcheck_h (count floor : Int) (so : Option Addr) (cap : Nat) (xs : List Int) (w : World) (hr : IRow so xs w) (h1 : 1 ≤ count) (h2 : count ≤ 64) (hf : okC floor) (h0 : 0 < xs.length) (h4 : (xs.length : Int) ≤ count) (hbad : (∀ k, k < xs.length → goodAt xs k) ∧ ∀ k, k < xs.length → floor ≤ at0 xs k) : Calls Try.prog 18 #[.int .i64 count, .int .i64 floor, .slice so xs.length cap] w fun e w' => e = .returned (.int .i64 0) ∧ Below w.heap.size w w' := by
  have HR := hide hr
  have HF := hide hf
  have hl2 : decide ((xs.length : Int) = 0) = false := by (rw [decide_eq_false_iff_not]; omega)
  have hl3 : ((xs.length : Int) == 0) = false := by (rw [beq_eq_false_iff_ne]; omega)
  have hl4 : xs.length ≤ 64 := by omega
  have HB := hide hbad
  clear hf hr hbad
  go_enter Try.func18, Try.ntmps18
  go_wp2_with (go_at_call 30; refine (rcoins_yes _ _ HF.out).mono ?_; rintro e w5 ⟨rfl, rfl⟩)
  go_loopw [7] (fun v7 wr => ∃ k : Nat, k ≤ xs.length ∧ v7 = .int .i64 (k : Int) ∧ (∀ q, q < k → goodAt xs q) ∧ Below w.heap.size w wr) (fun v7 _ => xs.length - (intOf v7).toNat)
  case atStart => exact ⟨0, Nat.zero_le _, rfl, fun q h => by omega, Below.refl _ _⟩
  case round =>
    obtain ⟨k, hk, rfl, hg, hbw⟩ := hrel
    have HG := hide hg
    have HBW := hide hbw
    clear hg hbw
    have hk0 : (0 : Int) ≤ (k : Int) := by omega
    by_cases hlt : k < xs.length
    · have hlt' : (k : Int) < (xs.length : Int) := by omega
      obtain ⟨b, off, rfl, hcell⟩ := (HR.out.below HBW.out).spot h0
      have HC := hide hcell
      obtain ⟨x, hx⟩ : ∃ x, x = at0 xs k := ⟨_, rfl⟩
      have ck : wr.cell? ⟨b, off + k, none⟩ = some (.int .i64 x) := by rw [hx]; exact hcell k hlt
      have HX := hide hx
      clear hx hcell
      by_cases hok : okC x
      · have HK := hide hok
        clear hok
        rcases k with _ | m
        · rw [Nat.add_zero] at ck
          have d0 : decide ((0 : Int) < 0) = false := by decide
          go_wp2_with fail
          go_big_quiet (first | (go_at_call 30; exact (rcoins_yes _ _ HK.out).mono (fun e w' h => ⟨h.1, _, h.2.symm⟩)))
          go_wp2_with fail
          go_roundw
          case rel =>
            refine ⟨1, by omega, by first | rfl | simp, fun q h => ?_, by have := HBW.out; (focus repeat' (first | (with_reducible exact Below.refl _ _) | (with_reducible assumption) | (with_reducible refine Below.alloc ?_ ?_ _) | (with_reducible refine Below.drew ?_) | (with_reducible refine bdrewN ?_ _) | (with_reducible refine Below.setCell ?_ ?_ _) | (first | (with_reducible exact Nat.le_refl _) | (with_reducible assumption) | omega | (simp; omega) | (simp; done))))⟩
            obtain rfl : q = 0 := by omega
            exact ⟨by rw [← HX.out]; exact HK.out, fun h => by omega⟩
          case measure => (first | (simp [intOf]; done) | (simp [intOf]; omega))
        · obtain ⟨y, hy⟩ : ∃ y, y = at0 xs m := ⟨_, rfl⟩
          have cm : wr.cell? ⟨b, off + m, none⟩ = some (.int .i64 y) := by rw [hy]; exact HC.out m (by omega)
          have HY := hide hy
          have e1 : ((m + 1 : Nat) : Int) - 1 = (m : Int) := by omega
          have hm' : (m : Int) < (xs.length : Int) := by omega
          have d0 : decide ((0 : Int) < ((m + 1 : Nat) : Int)) = true := by (rw [decide_eq_true_eq]; omega)
          have d1 : decide ((0 : Int) < (m : Int) + 1) = true := by (rw [decide_eq_true_eq]; omega)
          clear hy
          by_cases hyx : x ≤ y
          · have d2 : decide (y < x) = false := by (rw [decide_eq_false_iff_not]; omega)
            go_wp2_with fail
            go_big_quiet (first | (go_at_call 30; exact (rcoins_yes _ _ HK.out).mono (fun e w' h => ⟨h.1, _, h.2.symm⟩)))
            go_wp2_with fail
            go_roundw
            case rel =>
              refine ⟨m + 1 + 1, by omega, by go_num, fun q h => ?_, by have := HBW.out; (focus repeat' (first | (with_reducible exact Below.refl _ _) | (with_reducible assumption) | (with_reducible refine Below.alloc ?_ ?_ _) | (with_reducible refine Below.drew ?_) | (with_reducible refine bdrewN ?_ _) | (with_reducible refine Below.setCell ?_ ?_ _) | (first | (with_reducible exact Nat.le_refl _) | (with_reducible assumption) | omega | (simp; omega) | (simp; done))))⟩
              rcases Nat.lt_or_ge q (m + 1) with h3 | h3
              · exact HG.out q h3
              · obtain rfl : q = m + 1 := by omega
                exact ⟨by rw [← HX.out]; exact HK.out, fun _ => by rw [← HX.out, Nat.add_sub_cancel, ← HY.out]; exact hyx⟩
            case measure => (first | (simp [intOf]; done) | (simp [intOf]; omega))
          · have hyx' : y < x := by omega
            have d2 : decide (y < x) = true := by (rw [decide_eq_true_eq]; omega)
            exact absurd (HB.out.1 (m + 1) hlt).2 (fun q => hyx (by have := q (by omega); rw [← HX.out, Nat.add_sub_cancel, ← HY.out] at this; exact this))
      · have HK := hide hok
        clear hok
        exact absurd (HB.out.1 k hlt).1 (by rw [← HX.out]; exact HK.out)
    · obtain rfl : k = xs.length := by omega
      have HBX := hide HBW.out
      go_wp2_with fail
      go_loopw [8] (fun v8 wj => ∃ j : Nat, j ≤ xs.length ∧ v8 = .int .i64 (j : Int) ∧ (∀ q, q < j → floor ≤ at0 xs q) ∧ Below w.heap.size w wj) (fun v8 _ => xs.length - (intOf v8).toNat)
      case atStart => exact ⟨0, Nat.zero_le _, rfl, fun q h => by omega, HBX.out⟩
      case round =>
        obtain ⟨j, hj, rfl, hg2, hbj⟩ := hrel
        have HG2 := hide hg2
        have HBJ := hide hbj
        clear hg2 hbj
        have hj0 : (0 : Int) ≤ (j : Int) := by omega
        by_cases hj2 : j < xs.length
        · have hj' : (j : Int) < (xs.length : Int) := by omega
          obtain ⟨b, off, rfl, hcell⟩ := (HR.out.below HBJ.out).spot h0
          obtain ⟨x, hx⟩ : ∃ x, x = at0 xs j := ⟨_, rfl⟩
          have cj : wr.cell? ⟨b, off + j, none⟩ = some (.int .i64 x) := by rw [hx]; exact hcell j hj2
          have HX := hide hx
          clear hx hcell
          by_cases hfx : floor ≤ x
          · go_wp2
            go_roundw
            case rel =>
              refine ⟨j + 1, by omega, by go_num, fun q h => ?_, by (have := HBJ.out; (focus repeat' (first | (with_reducible exact Below.refl _ _) | (with_reducible assumption) | (with_reducible refine Below.alloc ?_ ?_ _) | (with_reducible refine Below.drew ?_) | (with_reducible refine bdrewN ?_ _) | (with_reducible refine Below.setCell ?_ ?_ _) | (first | (with_reducible exact Nat.le_refl _) | (with_reducible assumption) | omega | (simp; omega) | (simp; done)))))⟩
              rcases Nat.lt_or_ge q j with h3 | h3
              · exact HG2.out q h3
              · obtain rfl : q = j := by omega
                rw [← HX.out]; omega
            case measure => (first | (simp [intOf]; done) | (simp [intOf]; omega))
          · have hfx' : x < floor := by omega
            exact absurd (HB.out.2 j hj2) (by rw [← HX.out]; omega)
        · obtain rfl : j = xs.length := by omega
          go_wp2
          refine bodyPost_ret (v := .int .i64 0) (by simp [results, Try.f18, go_sem]) rfl ⟨rfl, by (have := HBJ.out; (focus repeat' (first | (with_reducible exact Below.refl _ _) | (with_reducible assumption) | (with_reducible refine Below.alloc ?_ ?_ _) | (with_reducible refine Below.drew ?_) | (with_reducible refine bdrewN ?_ _) | (with_reducible refine Below.setCell ?_ ?_ _) | (first | (with_reducible exact Nat.le_refl _) | (with_reducible assumption) | omega | (simp; omega) | (simp; done)))))⟩

theorem Formed.last_le {count floor : Int} {xs : List Int} (h : Formed count floor xs) : ∀ k, k < xs.length → at0 xs (xs.length - 1) ≤ at0 xs k := by
  have key : ∀ d k, k + d < xs.length → at0 xs (k + d) ≤ at0 xs k := by
    intro d
    induction d with
    | zero => intro k _; exact Int.le_refl _
    | succ d ih =>
      intro k hk
      have h1 := ih k (by omega)
      have h2 := (h.good (k + (d + 1)) hk).2 (by omega)
      rw [show k + (d + 1) - 1 = k + d by omega] at h2
      omega
  intro k hk
  have := key (xs.length - 1 - k) k (by omega)
  rwa [show k + (xs.length - 1 - k) = xs.length - 1 by omega] at this
theorem rcheck_is (count floor : Int) (so : Option Addr) (cap : Nat) (xs : List Int) (w : World) (hr : IRow so xs w) (r : Int) (h : CheckIs count floor xs r) : Calls Try.prog 18 #[.int .i64 count, .int .i64 floor, .slice so xs.length cap] w fun e w' => e = .returned (.int .i64 r) ∧ Below w.heap.size w w' := by
  rcases h with ⟨h1, rfl⟩ | ⟨h1, h2, rfl⟩ | ⟨h1, h2, rfl⟩
  · by_cases a : count < 1
    · exact rcheck_a count floor so cap xs w a
    · by_cases b : 64 < count
      · exact rcheck_b count floor so cap xs w (by omega) b
      · by_cases c : okC floor
        · by_cases d : xs.length = 0
          · exact rcheck_d count floor so cap xs w (by omega) (by omega) c d
          · by_cases e : count < (xs.length : Int)
            · exact rcheck_e count floor so cap xs w (by omega) (by omega) c (by omega) e
            · exact rcheck_f count floor so cap xs w hr (by omega) (by omega) c (by omega) (by omega) (fun q => h1 ⟨by omega, by omega, c, by omega, by omega, q⟩)
        · exact rcheck_c count floor so cap xs w (by omega) (by omega) c
  · exact rcheck_g count floor so cap xs w hr h1.one h1.most h1.fl h1.some h1.fits ⟨h1.good, _, by have := h1.some; omega, h2⟩
  · exact rcheck_h count floor so cap xs w hr h1.one h1.most h1.fl h1.some h1.fits ⟨h1.good, fun k hk => Int.le_trans h2 (h1.last_le k hk)⟩
end Go.Proofs.Ytehpjipmlpaflaa.un
