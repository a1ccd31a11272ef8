import Derived.Test.YtajkgecegefnmaaB1
import Derived.Test.YtajkgecegefnmaaP1
namespace Go.Proofs.Ytajkgecegefnmaa
open Go.ChangeShapes Go.WideShapes Go.ChangeAt Go.RowKit Go.Deep
set_option linter.unusedSimpArgs false
set_option linter.unusedVariables false

set_option maxHeartbeats 1000000 in
theorem many_c (x : Nat) (w : World) (hx : x < 18446744073709551616) : Calls Try.prog 48 #[.int .u64 (x : Int)] w fun e w' => e = .returned (.int .i64 (many x : Int)) ∧ Below w.heap.size w w' := by
  have hm := many_step x
  have hs := many_u64 hx
  have HM := hide hm
  have HS := hide hs
  clear hm hs
  go_enter Try.func48, Try.ntmps48
  go_wp2
  go_loopw [0, 3] (fun v0 v3 wr => ∃ y c : Nat, v0 = .int .u64 (y : Int) ∧ v3 = .int .i64 (c : Int) ∧ many x = c + many0 y ∧ c ≤ 8 ∧ wr = w) (fun v0 _ _ => (intOf v0).toNat)
  case atStart => exact ⟨x / 256, 1, by simp, rfl, HM.out, by omega, rfl⟩
  case round =>
    obtain ⟨y, c, rfl, rfl, hm, hc, rfl⟩ := hrel
    have hm' := hide hm
    clear hm
    by_cases h0 : 0 < y
    · have h0' : (0 : Int) < (y : Int) := by omega
      go_wp2
      go_roundw
      case rel =>
        have q := hm'.out
        rw [many0_pos h0, many_step y] at q
        have p := HS.out
        have z : c + 1 ≤ 8 := by omega
        exact ⟨y / 256, c + 1, by simp, by go_num, by omega, z, by simp⟩
      case measure => simp [intOf]; omega
    · have hy : y = 0 := by omega
      subst hy
      go_wp2
      go_ret
      exact ⟨ret_int (by have q := hm'.out; rw [many0_zero] at q; omega), Below.refl _ _⟩

set_option maxHeartbeats 1000000 in
theorem Size_c (x : Nat) (w : World) (hx : x < 18446744073709551616) : Calls Try.prog 13 #[.int .u64 (x : Int)] w fun e w' => e = .returned (.int .i64 ((form x).length : Int)) ∧ Below w.heap.size w w' := by
  by_cases h : x ≤ 247
  · have e : (form x).length = 1 := by unfold form; rw [if_pos h]; rfl
    have E := hide e
    clear e
    have h1 : (x : Int) ≤ 247 := by omega
    go_enter Try.func13, Try.ntmps13
    go_wp2
    go_ret
    exact ⟨ret_int (by rw [E.out]; rfl), by (focus repeat' (first | (with_reducible exact Below.refl _ _) | (with_reducible assumption) | (with_reducible refine Below.alloc ?_ ?_ _) | (with_reducible refine Below.drew ?_) | (with_reducible refine bdrewN ?_ _) | (with_reducible refine Below.setCell ?_ ?_ _) | (first | (with_reducible exact Nat.le_refl _) | (with_reducible assumption) | omega | (simp; omega) | (simp; done))))⟩
  · have e : (form x).length = 1 + many x := by unfold form; rw [if_neg h, List.length_cons, hi_length]; omega
    have E := hide e
    clear e
    have h1 : (247 : Int) < (x : Int) := by omega
    have hs := many_u64 hx
    go_enter Try.func13, Try.ntmps13
    go_wp2_with fail
    refine (many_c x _ hx).mono ?_
    rintro e w1 ⟨rfl, hb1⟩
    go_wp2
    go_ret
    exact ⟨ret_int (by rw [E.out]; omega), by (focus repeat' (first | (with_reducible exact Below.refl _ _) | (with_reducible assumption) | (with_reducible refine Below.alloc ?_ ?_ _) | (with_reducible refine Below.drew ?_) | (with_reducible refine bdrewN ?_ _) | (with_reducible refine Below.setCell ?_ ?_ _) | (first | (with_reducible exact Nat.le_refl _) | (with_reducible assumption) | omega | (simp; omega) | (simp; done))))⟩
end Go.Proofs.Ytajkgecegefnmaa
