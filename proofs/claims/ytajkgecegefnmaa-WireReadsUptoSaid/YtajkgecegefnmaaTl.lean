import Derived.Laws.BitsAllLaws
import Derived.Test.YtajkgecegefnmaaTk
namespace Go.Proofs.Ytajkgecegefnmaa
open Go.ChangeShapes Go.WideShapes Go.ChangeAt Go.RowKit Go.Deep
set_option linter.unusedSimpArgs false
set_option linter.unusedVariables false

/-- a number unfolded -/
def unf (x : Nat) : Int := if x % 2 = 0 then ((x / 2 : Nat) : Int) else -((x / 2 : Nat) : Int) - 1
theorem xor_i64_zero (a : Nat) (ha : a < 9223372036854775808) : bits .xor .i64 (a : Int) 0 = (a : Int) := by
  show IntKind.i64.wrap ((BitVec.ofInt 64 (a : Int) ^^^ BitVec.ofInt 64 0).toNat : Int) = _
  have h1 : BitVec.ofInt 64 0 = 0#64 := by decide
  rw [h1, BitVec.xor_zero, ofInt_u64 a (by omega)]
  simp [IntKind.wrap, IntKind.bits, IntKind.signed]
  omega
theorem xor_i64_ones (a : Nat) (ha : a < 9223372036854775808) : bits .xor .i64 (a : Int) (-1) = -1 - (a : Int) := by
  show IntKind.i64.wrap ((BitVec.ofInt 64 (a : Int) ^^^ BitVec.ofInt 64 (-1)).toNat : Int) = _
  have h1 : BitVec.ofInt 64 (-1) = BitVec.allOnes 64 := by decide
  rw [h1, BitVec.xor_allOnes, BitVec.toNat_not, ofInt_u64 a (by omega)]
  simp [IntKind.wrap, IntKind.bits, IntKind.signed]
  omega
theorem and_one_even (h : Nat) (hh : 2 * h < 18446744073709551616) : bits .and .u64 ((2 * h : Nat) : Int) 1 = 0 := by
  have q := bits_and_u64_nat (2 * h) 1 hh (by decide)
  rw [Nat.and_one_is_mod, Nat.mul_mod_right] at q
  exact q
theorem and_one_odd (h : Nat) (hh : 2 * h + 1 < 18446744073709551616) : bits .and .u64 ((2 * h + 1 : Nat) : Int) 1 = 1 := by
  have q := bits_and_u64_nat (2 * h + 1) 1 hh (by decide)
  rw [Nat.and_one_is_mod, Nat.mul_add_mod] at q
  exact q

set_option maxRecDepth 100000 in
set_option maxHeartbeats 1000000 in
theorem Unfold_even (h : Nat) (w : World) (hh : 2 * h < 18446744073709551616) : Calls Try.prog 17 #[.int .u64 ((2 * h : Nat) : Int)] w (fun e w' => e = .returned (.int .i64 (h : Int)) ∧ Below w.heap.size w w') := by
  have A := and_one_even h hh
  have D : (((2 * h : Nat) : Int)) / 2 = (h : Int) := by omega
  have Q := hide (xor_i64_zero h (by omega))
  have Hh := hide hh
  have hh2 : h < 9223372036854775808 := by omega
  clear hh
  generalize hx : ((2 * h : Nat) : Int) = X at *
  have hX : 0 ≤ X := by omega
  have hX2 : X < 18446744073709551616 := by (have := Hh.out; omega)
  have HX := hide hx
  clear hx
  go_enter Try.func17, Try.ntmps17
  go_wp2
  go_ret
  refine ⟨ret_int ?_, by (focus repeat' (first | (with_reducible exact Below.refl _ _) | (with_reducible assumption) | (with_reducible refine Below.alloc ?_ ?_ _) | (with_reducible refine Below.drew ?_) | (with_reducible refine bdrewN ?_ _) | (with_reducible refine Below.setCell ?_ ?_ _) | (first | (with_reducible exact Nat.le_refl _) | (with_reducible assumption) | omega | (simp; omega) | (simp; done))))⟩
  have q := Q.out
  first | (simp [A, D, q]; done) | (simp [A, D, q, IntKind.wrap, IntKind.bits, IntKind.signed]; omega) | (simp only [A, D, q]; omega)

set_option maxRecDepth 100000 in
set_option maxHeartbeats 1000000 in
theorem Unfold_odd (h : Nat) (w : World) (hh : 2 * h + 1 < 18446744073709551616) : Calls Try.prog 17 #[.int .u64 ((2 * h + 1 : Nat) : Int)] w (fun e w' => e = .returned (.int .i64 (-(h : Int) - 1)) ∧ Below w.heap.size w w') := by
  have A := and_one_odd h hh
  have D : (((2 * h + 1 : Nat) : Int)) / 2 = (h : Int) := by omega
  have Q := hide (xor_i64_ones h (by omega))
  have Hh := hide hh
  have hh2 : h < 9223372036854775808 := by omega
  clear hh
  generalize hx : ((2 * h + 1 : Nat) : Int) = X at *
  have hX : 0 ≤ X := by omega
  have hX2 : X < 18446744073709551616 := by (have := Hh.out; omega)
  have HX := hide hx
  clear hx
  go_enter Try.func17, Try.ntmps17
  go_wp2
  go_ret
  refine ⟨ret_int ?_, by (focus repeat' (first | (with_reducible exact Below.refl _ _) | (with_reducible assumption) | (with_reducible refine Below.alloc ?_ ?_ _) | (with_reducible refine Below.drew ?_) | (with_reducible refine bdrewN ?_ _) | (with_reducible refine Below.setCell ?_ ?_ _) | (first | (with_reducible exact Nat.le_refl _) | (with_reducible assumption) | omega | (simp; omega) | (simp; done))))⟩
  have q := Q.out
  first | (simp [A, D, q]; done) | (simp [A, D, q, IntKind.wrap, IntKind.bits, IntKind.signed]; omega) | (simp only [A, D, q]; omega)

theorem unf_even (h : Nat) : unf (2 * h) = (h : Int) := by unfold unf; rw [if_pos (by omega)]; omega
theorem unf_odd (h : Nat) : unf (2 * h + 1) = -(h : Int) - 1 := by unfold unf; rw [if_neg (by omega)]; omega
theorem Unfold_c (x : Nat) (w : World) (hx : x < 18446744073709551616) : Calls Try.prog 17 #[.int .u64 (x : Int)] w fun e w' => e = .returned (.int .i64 (unf x)) ∧ Below w.heap.size w w' := by
  by_cases h : x % 2 = 0
  · obtain ⟨k, rfl⟩ : ∃ k, x = 2 * k := ⟨x / 2, by omega⟩
    rw [unf_even]; exact Unfold_even k w hx
  · obtain ⟨k, rfl⟩ : ∃ k, x = 2 * k + 1 := ⟨x / 2, by omega⟩
    rw [unf_odd]; exact Unfold_odd k w hx

set_option maxRecDepth 100000 in
set_option maxHeartbeats 1000000 in
theorem refUnfold_even (x : Nat) (w : World) (hx : x < 18446744073709551616) (h : x % 2 = 0) : Calls Try.prog 18 #[.int .u64 (x : Int)] w fun e w' => e = .returned (.int .i64 ((x / 2 : Nat) : Int)) ∧ Below w.heap.size w w' := by
  obtain ⟨X, hX⟩ : ∃ X : Int, (x : Int) = X := ⟨_, rfl⟩
  rw [hX]
  have hX0 : 0 ≤ X := by omega
  have hX1 : X < 18446744073709551616 := by omega
  have hd : X / 2 < 9223372036854775808 := by omega
  have hm : (X % 2 == 0) = true := by (simp; omega)
  have HX := hide hX
  have H := hide h
  clear hX h hx
  go_enter Try.func18, Try.ntmps18
  go_wp2
  go_ret
  exact ⟨ret_int (by have := HX.out; have := H.out; omega), by (focus repeat' (first | (with_reducible exact Below.refl _ _) | (with_reducible assumption) | (with_reducible refine Below.alloc ?_ ?_ _) | (with_reducible refine Below.drew ?_) | (with_reducible refine bdrewN ?_ _) | (with_reducible refine Below.setCell ?_ ?_ _) | (first | (with_reducible exact Nat.le_refl _) | (with_reducible assumption) | omega | (simp; omega) | (simp; done))))⟩

set_option maxRecDepth 100000 in
set_option maxHeartbeats 1000000 in
theorem refUnfold_odd (x : Nat) (w : World) (hx : x < 18446744073709551616) (h : ¬ x % 2 = 0) : Calls Try.prog 18 #[.int .u64 (x : Int)] w fun e w' => e = .returned (.int .i64 (-((x / 2 : Nat) : Int) - 1)) ∧ Below w.heap.size w w' := by
  obtain ⟨X, hX⟩ : ∃ X : Int, (x : Int) = X := ⟨_, rfl⟩
  rw [hX]
  have hX0 : 0 ≤ X := by omega
  have hX1 : X < 18446744073709551616 := by omega
  have hd : X / 2 < 9223372036854775808 := by omega
  have hm : (X % 2 == 0) = false := by (simp; omega)
  have HX := hide hX
  have H := hide h
  clear hX h hx
  go_enter Try.func18, Try.ntmps18
  go_wp2
  go_ret
  exact ⟨ret_int (by have := HX.out; have := H.out; omega), by (focus repeat' (first | (with_reducible exact Below.refl _ _) | (with_reducible assumption) | (with_reducible refine Below.alloc ?_ ?_ _) | (with_reducible refine Below.drew ?_) | (with_reducible refine bdrewN ?_ _) | (with_reducible refine Below.setCell ?_ ?_ _) | (first | (with_reducible exact Nat.le_refl _) | (with_reducible assumption) | omega | (simp; omega) | (simp; done))))⟩

theorem refUnfold_c (x : Nat) (w : World) (hx : x < 18446744073709551616) : Calls Try.prog 18 #[.int .u64 (x : Int)] w fun e w' => e = .returned (.int .i64 (unf x)) ∧ Below w.heap.size w w' := by
  unfold unf
  by_cases h : x % 2 = 0
  · rw [if_pos h]; exact refUnfold_even x w hx h
  · rw [if_neg h]; exact refUnfold_odd x w hx h

set_option maxRecDepth 100000 in
set_option maxHeartbeats 1000000 in
theorem refFold_pos (x : Int) (w : World) (h0 : -9223372036854775808 ≤ x) (h1 : x ≤ 9223372036854775807) (h : 0 ≤ x) : Calls Try.prog 16 #[.int .i64 x] w fun e w' => e = .returned (.int .u64 (2 * x)) ∧ Below w.heap.size w w' := by
  go_enter Try.func16, Try.ntmps16
  go_wp2
  go_ret
  exact ⟨ret_int (by first | rfl | omega), by (focus repeat' (first | (with_reducible exact Below.refl _ _) | (with_reducible assumption) | (with_reducible refine Below.alloc ?_ ?_ _) | (with_reducible refine Below.drew ?_) | (with_reducible refine bdrewN ?_ _) | (with_reducible refine Below.setCell ?_ ?_ _) | (first | (with_reducible exact Nat.le_refl _) | (with_reducible assumption) | omega | (simp; omega) | (simp; done))))⟩

set_option maxRecDepth 100000 in
set_option maxHeartbeats 1000000 in
theorem refFold_neg (x : Int) (w : World) (h0 : -9223372036854775808 ≤ x) (h1 : x ≤ 9223372036854775807) (h : ¬ 0 ≤ x) : Calls Try.prog 16 #[.int .i64 x] w fun e w' => e = .returned (.int .u64 (-2 * x - 1)) ∧ Below w.heap.size w w' := by
  go_enter Try.func16, Try.ntmps16
  go_wp2
  go_ret
  exact ⟨ret_int (by first | rfl | omega), by (focus repeat' (first | (with_reducible exact Below.refl _ _) | (with_reducible assumption) | (with_reducible refine Below.alloc ?_ ?_ _) | (with_reducible refine Below.drew ?_) | (with_reducible refine bdrewN ?_ _) | (with_reducible refine Below.setCell ?_ ?_ _) | (first | (with_reducible exact Nat.le_refl _) | (with_reducible assumption) | omega | (simp; omega) | (simp; done))))⟩

theorem refFold_c (x : Int) (w : World) (h0 : -9223372036854775808 ≤ x) (h1 : x ≤ 9223372036854775807) : Calls Try.prog 16 #[.int .i64 x] w fun e w' => e = .returned (.int .u64 (fold x : Int)) ∧ Below w.heap.size w w' := by
  by_cases h : 0 ≤ x
  · have e : (fold x : Int) = 2 * x := by unfold fold; rw [if_pos h]; omega
    rw [e]; exact refFold_pos x w h0 h1 h
  · have e : (fold x : Int) = -2 * x - 1 := by unfold fold; rw [if_neg h]; omega
    rw [e]; exact refFold_neg x w h0 h1 h
theorem unf_fold (x : Int) : unf (fold x) = x := by
  unfold fold unf
  split <;> split <;> omega
theorem fold_unf (x : Nat) : fold (unf x) = x := by
  unfold fold unf
  split <;> split <;> omega
set_option maxRecDepth 100000 in
theorem unf_lo (x : Nat) (hx : x < 18446744073709551616) : -9223372036854775808 ≤ unf x ∧ unf x ≤ 9223372036854775807 := by unfold unf; split <;> omega

set_option maxRecDepth 100000 in
set_option maxHeartbeats 1000000 in
theorem RSigned_c (g B : Nat) (ns : List Nat) (a : Nat) (w : World) (hR : RAny w g B ns a) : Calls Try.prog 41 #[.pointer (some ⟨g, 0, none⟩)] w (fun e w' => e = .returned (.tuple #[.int .i64 (unf (rd ns a).1), .int .i64 ((rd ns a).2.1 : Int)]) ∧ Only g w w' ∧ RAny w' g B ns (rd ns a).2.2) := by
  have hlt := rd_lt ns a hR.more.2.2
  go_enter Try.func41, Try.ntmps41
  go_wp2_with fail
  refine (RNum_any g B ns a _ hR).mono ?_
  rintro e w1 ⟨rfl, ho1, hR1⟩
  have HR1 := hide hR1
  have HO1 := hide ho1
  clear hR ho1 hR1
  go_wp2_with fail
  refine (Unfold_c _ _ hlt).mono ?_
  rintro e w2 ⟨rfl, hb2⟩
  have HB2 := hide hb2
  clear hb2
  go_wp2
  go_ret2
  exact ⟨rfl, HO1.out.trans_below HB2.out, HR1.out.below HB2.out⟩
end Go.Proofs.Ytajkgecegefnmaa
