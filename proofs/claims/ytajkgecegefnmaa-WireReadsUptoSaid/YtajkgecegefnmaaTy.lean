import Derived.Laws.BitsAllLaws
import Derived.Test.YtajkgecegefnmaaTx
import Derived.Test.YtajkgecegefnmaaP2
namespace Go.Proofs.Ytajkgecegefnmaa
open Go.ChangeShapes Go.WideShapes Go.ChangeAt Go.RowKit Go.Deep
set_option linter.unusedSimpArgs false
set_option linter.unusedVariables false
set_option maxHeartbeats 1000000 in
theorem Fold_pos' (X : Nat) (w : World) (h1 : X < 9223372036854775808) : Calls Try.prog 15 #[.int .i64 (X : Int)] w fun e w' => e = .returned (.int .u64 (2 * X : Nat)) ∧ w' = w := by
  go_enter Try.func15, Try.ntmps15
  go_wp2
  go_ret
  refine ⟨ret_int ?_, rfl⟩
  have e : (X : Int) / 9223372036854775808 = 0 := by omega
  have q := xor_zero_u64 (X * 2) (by omega)
  rw [Nat.mul_comm] at q
  first | (rw [e]; simpa [Int.mul_comm] using q) | (simpa [e, Int.mul_comm] using q)
set_option maxHeartbeats 1000000 in
theorem Fold_neg' (Y : Nat) (w : World) (h1 : Y < 9223372036854775808) : Calls Try.prog 15 #[.int .i64 (-((Y : Int) + 1))] w fun e w' => e = .returned (.int .u64 (2 * Y + 1 : Nat)) ∧ w' = w := by
  go_enter Try.func15, Try.ntmps15
  go_wp2
  go_ret
  refine ⟨ret_int ?_, rfl⟩
  have q := xor_ones_u64 (18446744073709551616 - 2 * (Y + 1)) (by omega)
  have e1 : (-((Y : Int) + 1) % 18446744073709551616 * 2) % 18446744073709551616 = ((18446744073709551616 - 2 * (Y + 1) : Nat) : Int) := by omega
  have e2 : (-((Y : Int) + 1) / 9223372036854775808) % 18446744073709551616 = 18446744073709551615 := by omega
  rw [IntKind.wrap_u64, IntKind.wrap_u64, IntKind.wrap_u64, e1, e2, q]
  omega
theorem Fold_c' (x : Int) (w : World) (h0 : -9223372036854775808 ≤ x) (h1 : x ≤ 9223372036854775807) : Calls Try.prog 15 #[.int .i64 x] w fun e w' => e = .returned (.int .u64 (fold x : Int)) ∧ w' = w := by
  by_cases h : 0 ≤ x
  · have e : x = ((x.toNat : Nat) : Int) := by omega
    have f : fold x = 2 * x.toNat := by unfold fold; rw [if_pos h]; omega
    rw [f, e]
    simpa using Fold_pos' x.toNat w (by omega)
  · have e : x = -((((-x - 1).toNat : Nat) : Int) + 1) := by omega
    have f : fold x = 2 * (-x - 1).toNat + 1 := by unfold fold; rw [if_neg h]; omega
    rw [f]
    have q := Fold_neg' (-x - 1).toNat w (by omega)
    rw [← e] at q
    exact q
set_option maxRecDepth 100000 in
set_option maxHeartbeats 1000000 in
theorem Unfold_even' (h : Nat) (w : World) (hh : 2 * h < 18446744073709551616) : Calls Try.prog 17 #[.int .u64 ((2 * h : Nat) : Int)] w (fun e w' => e = .returned (.int .i64 (h : Int)) ∧ w' = w) := by
  have A := and_one_even h hh
  have D : (((2 * h : Nat) : Int)) / 2 = (h : Int) := by omega
  have Q := hide (xor_i64_zero h (by omega))
  have Hh := hide hh
  have hh2 : h < 9223372036854775808 := by omega
  clear hh
  generalize hx : ((2 * h : Nat) : Int) = X at *
  have hX : 0 ≤ X := by omega
  have hX2 : X < 18446744073709551616 := by (have := Hh.out; omega)
  have HX := hide hx
  clear hx
  go_enter Try.func17, Try.ntmps17
  go_wp2
  go_ret
  refine ⟨ret_int ?_, rfl⟩
  have q := Q.out
  first | (simp [A, D, q]; done) | (simp [A, D, q, IntKind.wrap, IntKind.bits, IntKind.signed]; omega) | (simp only [A, D, q]; omega)
set_option maxRecDepth 100000 in
set_option maxHeartbeats 1000000 in
theorem Unfold_odd' (h : Nat) (w : World) (hh : 2 * h + 1 < 18446744073709551616) : Calls Try.prog 17 #[.int .u64 ((2 * h + 1 : Nat) : Int)] w (fun e w' => e = .returned (.int .i64 (-(h : Int) - 1)) ∧ w' = w) := by
  have A := and_one_odd h hh
  have D : (((2 * h + 1 : Nat) : Int)) / 2 = (h : Int) := by omega
  have Q := hide (xor_i64_ones h (by omega))
  have Hh := hide hh
  have hh2 : h < 9223372036854775808 := by omega
  clear hh
  generalize hx : ((2 * h + 1 : Nat) : Int) = X at *
  have hX : 0 ≤ X := by omega
  have hX2 : X < 18446744073709551616 := by (have := Hh.out; omega)
  have HX := hide hx
  clear hx
  go_enter Try.func17, Try.ntmps17
  go_wp2
  go_ret
  refine ⟨ret_int ?_, rfl⟩
  have q := Q.out
  first | (simp [A, D, q]; done) | (simp [A, D, q, IntKind.wrap, IntKind.bits, IntKind.signed]; omega) | (simp only [A, D, q]; omega)
theorem Unfold_c' (x : Nat) (w : World) (hx : x < 18446744073709551616) : Calls Try.prog 17 #[.int .u64 (x : Int)] w fun e w' => e = .returned (.int .i64 (unf x)) ∧ w' = w := by
  by_cases h : x % 2 = 0
  · obtain ⟨k, rfl⟩ : ∃ k, x = 2 * k := ⟨x / 2, by omega⟩
    rw [unf_even]; exact Unfold_even' k w hx
  · obtain ⟨k, rfl⟩ : ∃ k, x = 2 * k + 1 := ⟨x / 2, by omega⟩
    rw [unf_odd]; exact Unfold_odd' k w hx
set_option maxRecDepth 100000 in
set_option maxHeartbeats 1000000 in
theorem refUnfold_even' (x : Nat) (w : World) (hx : x < 18446744073709551616) (h : x % 2 = 0) : Calls Try.prog 18 #[.int .u64 (x : Int)] w fun e w' => e = .returned (.int .i64 ((x / 2 : Nat) : Int)) ∧ w' = w := by
  obtain ⟨X, hX⟩ : ∃ X : Int, (x : Int) = X := ⟨_, rfl⟩
  rw [hX]
  have hX0 : 0 ≤ X := by omega
  have hX1 : X < 18446744073709551616 := by omega
  have hd : X / 2 < 9223372036854775808 := by omega
  have hm : (X % 2 == 0) = true := by (simp; omega)
  have HX := hide hX
  have H := hide h
  clear hX h hx
  go_enter Try.func18, Try.ntmps18
  go_wp2
  go_ret
  exact ⟨ret_int (by have := HX.out; have := H.out; omega), rfl⟩
set_option maxRecDepth 100000 in
set_option maxHeartbeats 1000000 in
theorem refUnfold_odd' (x : Nat) (w : World) (hx : x < 18446744073709551616) (h : ¬ x % 2 = 0) : Calls Try.prog 18 #[.int .u64 (x : Int)] w fun e w' => e = .returned (.int .i64 (-((x / 2 : Nat) : Int) - 1)) ∧ w' = w := by
  obtain ⟨X, hX⟩ : ∃ X : Int, (x : Int) = X := ⟨_, rfl⟩
  rw [hX]
  have hX0 : 0 ≤ X := by omega
  have hX1 : X < 18446744073709551616 := by omega
  have hd : X / 2 < 9223372036854775808 := by omega
  have hm : (X % 2 == 0) = false := by (simp; omega)
  have HX := hide hX
  have H := hide h
  clear hX h hx
  go_enter Try.func18, Try.ntmps18
  go_wp2
  go_ret
  exact ⟨ret_int (by have := HX.out; have := H.out; omega), rfl⟩
theorem refUnfold_c' (x : Nat) (w : World) (hx : x < 18446744073709551616) : Calls Try.prog 18 #[.int .u64 (x : Int)] w fun e w' => e = .returned (.int .i64 (unf x)) ∧ w' = w := by
  unfold unf
  by_cases h : x % 2 = 0
  · rw [if_pos h]; exact refUnfold_even' x w hx h
  · rw [if_neg h]; exact refUnfold_odd' x w hx h
set_option maxRecDepth 100000 in
set_option maxHeartbeats 1000000 in
theorem refFold_pos' (x : Int) (w : World) (h0 : -9223372036854775808 ≤ x) (h1 : x ≤ 9223372036854775807) (h : 0 ≤ x) : Calls Try.prog 16 #[.int .i64 x] w fun e w' => e = .returned (.int .u64 (2 * x)) ∧ w' = w := by
  go_enter Try.func16, Try.ntmps16
  go_wp2
  go_ret
  exact ⟨ret_int (by first | rfl | omega), rfl⟩
set_option maxRecDepth 100000 in
set_option maxHeartbeats 1000000 in
theorem refFold_neg' (x : Int) (w : World) (h0 : -9223372036854775808 ≤ x) (h1 : x ≤ 9223372036854775807) (h : ¬ 0 ≤ x) : Calls Try.prog 16 #[.int .i64 x] w fun e w' => e = .returned (.int .u64 (-2 * x - 1)) ∧ w' = w := by
  go_enter Try.func16, Try.ntmps16
  go_wp2
  go_ret
  exact ⟨ret_int (by first | rfl | omega), rfl⟩
theorem refFold_c' (x : Int) (w : World) (h0 : -9223372036854775808 ≤ x) (h1 : x ≤ 9223372036854775807) : Calls Try.prog 16 #[.int .i64 x] w fun e w' => e = .returned (.int .u64 (fold x : Int)) ∧ w' = w := by
  by_cases h : 0 ≤ x
  · have e : (fold x : Int) = 2 * x := by unfold fold; rw [if_pos h]; omega
    rw [e]; exact refFold_pos' x w h0 h1 h
  · have e : (fold x : Int) = -2 * x - 1 := by unfold fold; rw [if_neg h]; omega
    rw [e]; exact refFold_neg' x w h0 h1 h
end Go.Proofs.Ytajkgecegefnmaa
