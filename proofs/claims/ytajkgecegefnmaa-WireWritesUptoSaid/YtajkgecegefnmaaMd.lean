/- Contracts of the layer's functions, each proved once, in the order in which they are used. No condition beyond each theorem's own. -/
import Derived.Test.YtajkgecegefnmaaMc
import Derived.Laws.BitsAllLaws
import Derived.Laws.OwnMore
import Derived.Test.YtajkgecegefnmaaMb
import Derived.Laws.BytesArg
namespace Go.Proofs.Ytajkgecegefnmaa
open Go.ChangeShapes Go.WideShapes Go.ChangeAt Go.RowKit Go.Deep
set_option linter.unusedSimpArgs false
set_option linter.unusedVariables false
/-- bytes as the program has them -/
def u8s (ns : List Nat) : List UInt8 := ns.map UInt8.ofNat
theorem bstr_list (ns : List Nat) : (bstr ns).toList = u8s ns := by
  unfold bstr strOfNums u8s
  rw [ByteArray.toList_eq]
  simp
/-- the lesser text -/
def lessN : List Nat → List Nat → Bool
  | _, [] => false
  | [], _ :: _ => true
  | a :: x, b :: y => decide (a < b) || (decide (a = b) && lessN x y)
theorem less_u8 : ∀ (x y : List Nat), (∀ a ∈ x, a < 256) → (∀ a ∈ y, a < 256) → Op.bytesLess (u8s x) (u8s y) = lessN x y
  | x, [], _, _ => by cases x <;> rfl
  | [], b :: y, _, _ => rfl
  | a :: x, b :: y, hx, hy => by
    have ha := hx a (List.mem_cons_self ..)
    have hb := hy b (List.mem_cons_self ..)
    have ih := less_u8 x y (fun c hc => hx c (List.mem_cons_of_mem _ hc)) (fun c hc => hy c (List.mem_cons_of_mem _ hc))
    have e1 : (decide (UInt8.ofNat a < UInt8.ofNat b)) = decide (a < b) := by
      rw [decide_eq_decide, UInt8.lt_iff_toNat_lt, UInt8.toNat_ofNat_of_lt' (by simpa using ha), UInt8.toNat_ofNat_of_lt' (by simpa using hb)]
    have e2 : (UInt8.ofNat a == UInt8.ofNat b) = decide (a = b) := by
      rw [show (UInt8.ofNat a == UInt8.ofNat b) = decide (UInt8.ofNat a = UInt8.ofNat b) from rfl, decide_eq_decide, ← UInt8.toNat_inj, UInt8.toNat_ofNat_of_lt' (by simpa using ha), UInt8.toNat_ofNat_of_lt' (by simpa using hb)]
    show (decide (UInt8.ofNat a < UInt8.ofNat b) || ((UInt8.ofNat a == UInt8.ofNat b) && Op.bytesLess (u8s x) (u8s y))) = _
    rw [e1, e2, ih]; rfl
theorem u8s_inj : ∀ (x y : List Nat), (∀ a ∈ x, a < 256) → (∀ a ∈ y, a < 256) → u8s x = u8s y → x = y
  | [], [], _, _, _ => rfl
  | [], b :: y, _, _, h => by cases h
  | a :: x, [], _, _, h => by cases h
  | a :: x, b :: y, hx, hy, h => by
    have ha := hx a (List.mem_cons_self ..)
    have hb := hy b (List.mem_cons_self ..)
    have h' : UInt8.ofNat a :: u8s x = UInt8.ofNat b :: u8s y := h
    injection h' with h1 h2
    have e : a = b := by
      have q := congrArg UInt8.toNat h1
      rwa [UInt8.toNat_ofNat_of_lt' (by simpa using ha), UInt8.toNat_ofNat_of_lt' (by simpa using hb)] at q
    rw [e, u8s_inj x y (fun c hc => hx c (List.mem_cons_of_mem _ hc)) (fun c hc => hy c (List.mem_cons_of_mem _ hc)) h2]
theorem hi_mod (m x : Nat) : hi m (x % 256 ^ m) = hi m x := by
  have gen : ∀ k m, k ≤ m → hi k (x % 256 ^ m) = hi k x := by
    intro k
    induction k with
    | zero => intro m _; rfl
    | succ k ih =>
      intro m hm
      show (x % 256 ^ m / 256 ^ k % 256) :: hi k (x % 256 ^ m) = (x / 256 ^ k % 256) :: hi k x
      rw [ih m (by omega)]
      congr 1
      obtain ⟨d, rfl⟩ : ∃ d, m = k + (d + 1) := ⟨m - k - 1, by omega⟩
      rw [Nat.pow_add, Nat.mod_mul_right_div_self, Nat.pow_succ, Nat.mul_comm, Nat.mod_mul_right_mod]
  exact gen m m (Nat.le_refl _)
theorem less_hi : ∀ (m x y : Nat), x < 256 ^ m → y < 256 ^ m → lessN (hi m x) (hi m y) = decide (x < y)
  | 0, x, y, hx, hy => by
    simp at hx hy; subst hx; subst hy; rfl
  | m + 1, x, y, hx, hy => by
    have hp : 0 < 256 ^ m := Nat.pow_pos (by decide)
    rw [Nat.pow_succ] at hx hy
    have hxd : x / 256 ^ m < 256 := Nat.div_lt_of_lt_mul hx
    have hyd : y / 256 ^ m < 256 := Nat.div_lt_of_lt_mul hy
    show (decide (x / 256 ^ m % 256 < y / 256 ^ m % 256) || (decide (x / 256 ^ m % 256 = y / 256 ^ m % 256) && lessN (hi m x) (hi m y))) = _
    rw [Nat.mod_eq_of_lt hxd, Nat.mod_eq_of_lt hyd, ← hi_mod m x, ← hi_mod m y, less_hi m _ _ (Nat.mod_lt _ hp) (Nat.mod_lt _ hp)]
    have ex := Nat.div_add_mod x (256 ^ m)
    have ey := Nat.div_add_mod y (256 ^ m)
    have mx := Nat.mod_lt x hp
    have my := Nat.mod_lt y hp
    generalize x / 256 ^ m = a at *
    generalize y / 256 ^ m = b at *
    generalize x % 256 ^ m = c at *
    generalize y % 256 ^ m = d at *
    generalize 256 ^ m = p at *
    rcases Nat.lt_trichotomy a b with h | h | h
    · have q : p * a + p ≤ p * b := by rw [← Nat.mul_succ]; exact Nat.mul_le_mul_left _ h
      simp [h]; omega
    · subst h; simp; omega
    · have q : p * b + p ≤ p * a := by rw [← Nat.mul_succ]; exact Nat.mul_le_mul_left _ h
      have h1 : ¬ a < b := by omega
      have h2 : ¬ a = b := by omega
      simp [h1, h2]; omega
theorem many_lt (x : Nat) : x < 256 ^ many x := by
  induction x using Nat.strongRecOn with
  | ind x ih =>
    rw [many]
    split
    · simpa using by assumption
    · have q := ih (x / 256) (by omega)
      rw [Nat.add_comm, Nat.pow_succ]
      exact (Nat.div_lt_iff_lt_mul (by decide)).1 q
theorem many_ge (x : Nat) (h : 0 < x) : 256 ^ (many x - 1) ≤ x := by
  induction x using Nat.strongRecOn with
  | ind x ih =>
    rw [many]
    split
    · simpa using Nat.succ_le_of_lt h
    · have q := ih (x / 256) (by omega) (by omega)
      have p := many_pos (x / 256)
      obtain ⟨k, hk⟩ : ∃ k, many (x / 256) = k + 1 := ⟨many (x / 256) - 1, by omega⟩
      rw [hk] at q ⊢
      have e : 1 + (k + 1) - 1 = k + 1 := by omega
      rw [e, Nat.pow_succ]
      have q2 : 256 ^ k ≤ x / 256 := q
      exact (Nat.le_div_iff_mul_le (by decide)).1 q2
theorem hi_lt (m x : Nat) : ∀ b ∈ hi m x, b < 256 := by
  induction m with
  | zero => intro b hb; cases hb
  | succ m ih =>
    intro b hb
    rcases List.mem_cons.1 hb with rfl | h
    · exact Nat.mod_lt _ (by decide)
    · exact ih b h
theorem form_lt {x : Nat} (hx : x < 18446744073709551616) : ∀ b ∈ form x, b < 256 := by
  have hm := many_u64 hx
  intro b hb
  unfold form at hb
  split at hb
  · simp at hb; omega
  · rcases List.mem_cons.1 hb with rfl | h
    · omega
    · exact hi_lt _ _ b h
theorem lessN_irrefl : ∀ l : List Nat, lessN l l = false
  | [] => rfl
  | a :: l => by show (decide (a < a) || (decide (a = a) && lessN l l)) = false; rw [lessN_irrefl l]; simp
theorem less_form {x y : Nat} (hx : x < 18446744073709551616) (hy : y < 18446744073709551616) : lessN (form x) (form y) = decide (x < y) := by
  have hmx := many_pos x
  have hmy := many_pos y
  unfold form
  by_cases h1 : x ≤ 247 <;> by_cases h2 : y ≤ 247
  · rw [if_pos h1, if_pos h2]; simp [lessN]
  · rw [if_pos h1, if_neg h2]
    show (decide (x < 247 + many y) || _) = _
    have q : x < 247 + many y := by omega
    have q2 : x < y := by omega
    simp [q, q2]
  · rw [if_neg h1, if_pos h2]
    show (decide (247 + many x < y) || (decide (247 + many x = y) && _)) = _
    have q : ¬ 247 + many x < y := by omega
    have q1 : ¬ 247 + many x = y := by omega
    have q2 : ¬ x < y := by omega
    simp [q, q1, q2]
  · rw [if_neg h1, if_neg h2]
    show (decide (247 + many x < 247 + many y) || (decide (247 + many x = 247 + many y) && lessN (hi (many x) x) (hi (many y) y))) = _
    rcases Nat.lt_trichotomy (many x) (many y) with h | h | h
    · have q : 247 + many x < 247 + many y := by omega
      have a := many_lt x
      have b := many_ge y (by omega)
      have c : 256 ^ many x ≤ 256 ^ (many y - 1) := Nat.pow_le_pow_right (by decide) (by omega)
      have d : x < y := by omega
      simp [q, d]
    · have a := many_lt x
      have b := many_lt y
      rw [← h] at b ⊢
      rw [less_hi _ _ _ a b]; simp
    · have q : ¬ 247 + many x < 247 + many y := by omega
      have q1 : ¬ 247 + many x = 247 + many y := by omega
      have a := many_lt y
      have b := many_ge x (by omega)
      have c : 256 ^ many y ≤ 256 ^ (many x - 1) := Nat.pow_le_pow_right (by decide) (by omega)
      have d : ¬ x < y := by omega
      rw [decide_eq_false q, decide_eq_false q1, decide_eq_false d]; rfl
theorem form_inj {x y : Nat} (hx : x < 18446744073709551616) (hy : y < 18446744073709551616) (h : form x = form y) : x = y := by
  have a := less_form hx hy
  have b := less_form hy hx
  rw [h, lessN_irrefl] at a
  rw [h, lessN_irrefl] at b
  have a' := of_decide_eq_false a.symm
  have b' := of_decide_eq_false b.symm
  omega
theorem form_head {x y : Nat} (hx : x < 18446744073709551616) (hy : y < 18446744073709551616) (h : (form x).take 1 = (form y).take 1) : (form x).length = (form y).length := by
  have hmx := many_pos x
  have hmy := many_pos y
  revert h
  unfold form
  by_cases h1 : x ≤ 247 <;> by_cases h2 : y ≤ 247
  · rw [if_pos h1, if_pos h2]; intro _; rfl
  · rw [if_pos h1, if_neg h2]; intro h; simp at h; omega
  · rw [if_neg h1, if_pos h2]; intro h; simp at h; omega
  · rw [if_neg h1, if_neg h2]; intro h; simp at h; simp [hi_length]; omega
theorem form_prefix {x y n : Nat} (hx : x < 18446744073709551616) (hy : y < 18446744073709551616) (hn : n = min (form x).length (form y).length) : (form x).take n = (form y).take n ↔ x = y := by
  constructor
  · intro h
    have h1 := form_pos x
    have h2 := form_pos y
    have q : (form x).take 1 = (form y).take 1 := by
      have := congrArg (List.take 1) h
      rwa [List.take_take, List.take_take, Nat.min_eq_left (by omega)] at this
    have l := form_head hx hy q
    rw [List.take_of_length_le (by omega), List.take_of_length_le (by omega)] at h
    exact form_inj hx hy h
  · rintro rfl; rfl
end Go.Proofs.Ytajkgecegefnmaa

namespace Go.Proofs.Ytajkgecegefnmaa
open Go.ChangeShapes Go.WideShapes Go.ChangeAt Go.RowKit Go.Deep
set_option linter.unusedSimpArgs false
set_option linter.unusedVariables false
set_option maxHeartbeats 1000000 in
theorem Fold_pos' (X : Nat) (w : World) (h1 : X < 9223372036854775808) : Calls Try.prog 15 #[.int .i64 (X : Int)] w fun e w' => e = .returned (.int .u64 (2 * X : Nat)) ∧ w' = w := by
  go_enter Try.func15, Try.ntmps15
  go_wp2
  go_ret
  refine ⟨ret_int ?_, rfl⟩
  have e : (X : Int) / 9223372036854775808 = 0 := by omega
  have q := xor_zero_u64 (X * 2) (by omega)
  rw [Nat.mul_comm] at q
  first | (rw [e]; simpa [Int.mul_comm] using q) | (simpa [e, Int.mul_comm] using q)
set_option maxHeartbeats 1000000 in
theorem Fold_neg' (Y : Nat) (w : World) (h1 : Y < 9223372036854775808) : Calls Try.prog 15 #[.int .i64 (-((Y : Int) + 1))] w fun e w' => e = .returned (.int .u64 (2 * Y + 1 : Nat)) ∧ w' = w := by
  go_enter Try.func15, Try.ntmps15
  go_wp2
  go_ret
  refine ⟨ret_int ?_, rfl⟩
  have q := xor_ones_u64 (18446744073709551616 - 2 * (Y + 1)) (by omega)
  have e1 : (-((Y : Int) + 1) % 18446744073709551616 * 2) % 18446744073709551616 = ((18446744073709551616 - 2 * (Y + 1) : Nat) : Int) := by omega
  have e2 : (-((Y : Int) + 1) / 9223372036854775808) % 18446744073709551616 = 18446744073709551615 := by omega
  rw [IntKind.wrap_u64, IntKind.wrap_u64, IntKind.wrap_u64, e1, e2, q]
  omega
theorem Fold_c' (x : Int) (w : World) (h0 : -9223372036854775808 ≤ x) (h1 : x ≤ 9223372036854775807) : Calls Try.prog 15 #[.int .i64 x] w fun e w' => e = .returned (.int .u64 (fold x : Int)) ∧ w' = w := by
  by_cases h : 0 ≤ x
  · have e : x = ((x.toNat : Nat) : Int) := by omega
    have f : fold x = 2 * x.toNat := by unfold fold; rw [if_pos h]; omega
    rw [f, e]
    simpa using Fold_pos' x.toNat w (by omega)
  · have e : x = -((((-x - 1).toNat : Nat) : Int) + 1) := by omega
    have f : fold x = 2 * (-x - 1).toNat + 1 := by unfold fold; rw [if_neg h]; omega
    rw [f]
    have q := Fold_neg' (-x - 1).toNat w (by omega)
    rw [← e] at q
    exact q
set_option maxRecDepth 100000 in
set_option maxHeartbeats 1000000 in
theorem Unfold_even' (h : Nat) (w : World) (hh : 2 * h < 18446744073709551616) : Calls Try.prog 17 #[.int .u64 ((2 * h : Nat) : Int)] w (fun e w' => e = .returned (.int .i64 (h : Int)) ∧ w' = w) := by
  have A := and_one_even h hh
  have D : (((2 * h : Nat) : Int)) / 2 = (h : Int) := by omega
  have Q := hide (xor_i64_zero h (by omega))
  have Hh := hide hh
  have hh2 : h < 9223372036854775808 := by omega
  clear hh
  generalize hx : ((2 * h : Nat) : Int) = X at *
  have hX : 0 ≤ X := by omega
  have hX2 : X < 18446744073709551616 := by (have := Hh.out; omega)
  have HX := hide hx
  clear hx
  go_enter Try.func17, Try.ntmps17
  go_wp2
  go_ret
  refine ⟨ret_int ?_, rfl⟩
  have q := Q.out
  first | (simp [A, D, q]; done) | (simp [A, D, q, IntKind.wrap, IntKind.bits, IntKind.signed]; omega) | (simp only [A, D, q]; omega)
set_option maxRecDepth 100000 in
set_option maxHeartbeats 1000000 in
theorem Unfold_odd' (h : Nat) (w : World) (hh : 2 * h + 1 < 18446744073709551616) : Calls Try.prog 17 #[.int .u64 ((2 * h + 1 : Nat) : Int)] w (fun e w' => e = .returned (.int .i64 (-(h : Int) - 1)) ∧ w' = w) := by
  have A := and_one_odd h hh
  have D : (((2 * h + 1 : Nat) : Int)) / 2 = (h : Int) := by omega
  have Q := hide (xor_i64_ones h (by omega))
  have Hh := hide hh
  have hh2 : h < 9223372036854775808 := by omega
  clear hh
  generalize hx : ((2 * h + 1 : Nat) : Int) = X at *
  have hX : 0 ≤ X := by omega
  have hX2 : X < 18446744073709551616 := by (have := Hh.out; omega)
  have HX := hide hx
  clear hx
  go_enter Try.func17, Try.ntmps17
  go_wp2
  go_ret
  refine ⟨ret_int ?_, rfl⟩
  have q := Q.out
  first | (simp [A, D, q]; done) | (simp [A, D, q, IntKind.wrap, IntKind.bits, IntKind.signed]; omega) | (simp only [A, D, q]; omega)
theorem Unfold_c' (x : Nat) (w : World) (hx : x < 18446744073709551616) : Calls Try.prog 17 #[.int .u64 (x : Int)] w fun e w' => e = .returned (.int .i64 (unf x)) ∧ w' = w := by
  by_cases h : x % 2 = 0
  · obtain ⟨k, rfl⟩ : ∃ k, x = 2 * k := ⟨x / 2, by omega⟩
    rw [unf_even]; exact Unfold_even' k w hx
  · obtain ⟨k, rfl⟩ : ∃ k, x = 2 * k + 1 := ⟨x / 2, by omega⟩
    rw [unf_odd]; exact Unfold_odd' k w hx
set_option maxRecDepth 100000 in
set_option maxHeartbeats 1000000 in
theorem refUnfold_even' (x : Nat) (w : World) (hx : x < 18446744073709551616) (h : x % 2 = 0) : Calls Try.prog 18 #[.int .u64 (x : Int)] w fun e w' => e = .returned (.int .i64 ((x / 2 : Nat) : Int)) ∧ w' = w := by
  obtain ⟨X, hX⟩ : ∃ X : Int, (x : Int) = X := ⟨_, rfl⟩
  rw [hX]
  have hX0 : 0 ≤ X := by omega
  have hX1 : X < 18446744073709551616 := by omega
  have hd : X / 2 < 9223372036854775808 := by omega
  have hm : (X % 2 == 0) = true := by (simp; omega)
  have HX := hide hX
  have H := hide h
  clear hX h hx
  go_enter Try.func18, Try.ntmps18
  go_wp2
  go_ret
  exact ⟨ret_int (by have := HX.out; have := H.out; omega), rfl⟩
set_option maxRecDepth 100000 in
set_option maxHeartbeats 1000000 in
theorem refUnfold_odd' (x : Nat) (w : World) (hx : x < 18446744073709551616) (h : ¬ x % 2 = 0) : Calls Try.prog 18 #[.int .u64 (x : Int)] w fun e w' => e = .returned (.int .i64 (-((x / 2 : Nat) : Int) - 1)) ∧ w' = w := by
  obtain ⟨X, hX⟩ : ∃ X : Int, (x : Int) = X := ⟨_, rfl⟩
  rw [hX]
  have hX0 : 0 ≤ X := by omega
  have hX1 : X < 18446744073709551616 := by omega
  have hd : X / 2 < 9223372036854775808 := by omega
  have hm : (X % 2 == 0) = false := by (simp; omega)
  have HX := hide hX
  have H := hide h
  clear hX h hx
  go_enter Try.func18, Try.ntmps18
  go_wp2
  go_ret
  exact ⟨ret_int (by have := HX.out; have := H.out; omega), rfl⟩
theorem refUnfold_c' (x : Nat) (w : World) (hx : x < 18446744073709551616) : Calls Try.prog 18 #[.int .u64 (x : Int)] w fun e w' => e = .returned (.int .i64 (unf x)) ∧ w' = w := by
  unfold unf
  by_cases h : x % 2 = 0
  · rw [if_pos h]; exact refUnfold_even' x w hx h
  · rw [if_neg h]; exact refUnfold_odd' x w hx h
set_option maxRecDepth 100000 in
set_option maxHeartbeats 1000000 in
theorem refFold_pos' (x : Int) (w : World) (h0 : -9223372036854775808 ≤ x) (h1 : x ≤ 9223372036854775807) (h : 0 ≤ x) : Calls Try.prog 16 #[.int .i64 x] w fun e w' => e = .returned (.int .u64 (2 * x)) ∧ w' = w := by
  go_enter Try.func16, Try.ntmps16
  go_wp2
  go_ret
  exact ⟨ret_int (by first | rfl | omega), rfl⟩
set_option maxRecDepth 100000 in
set_option maxHeartbeats 1000000 in
theorem refFold_neg' (x : Int) (w : World) (h0 : -9223372036854775808 ≤ x) (h1 : x ≤ 9223372036854775807) (h : ¬ 0 ≤ x) : Calls Try.prog 16 #[.int .i64 x] w fun e w' => e = .returned (.int .u64 (-2 * x - 1)) ∧ w' = w := by
  go_enter Try.func16, Try.ntmps16
  go_wp2
  go_ret
  exact ⟨ret_int (by first | rfl | omega), rfl⟩
theorem refFold_c' (x : Int) (w : World) (h0 : -9223372036854775808 ≤ x) (h1 : x ≤ 9223372036854775807) : Calls Try.prog 16 #[.int .i64 x] w fun e w' => e = .returned (.int .u64 (fold x : Int)) ∧ w' = w := by
  by_cases h : 0 ≤ x
  · have e : (fold x : Int) = 2 * x := by unfold fold; rw [if_pos h]; omega
    rw [e]; exact refFold_pos' x w h0 h1 h
  · have e : (fold x : Int) = -2 * x - 1 := by unfold fold; rw [if_neg h]; omega
    rw [e]; exact refFold_neg' x w h0 h1 h
end Go.Proofs.Ytajkgecegefnmaa

namespace Go.Proofs.Ytajkgecegefnmaa
open Go.ChangeShapes Go.WideShapes Go.ChangeAt Go.RowKit Go.Deep
set_option linter.unusedSimpArgs false
set_option linter.unusedVariables false

theorem set_hi (k y : Nat) (l : List Nat) : ((List.replicate (k + 1) 0 ++ l).map (fun (b : Nat) => Value.int .u8 (b : Int))).set k (.int .u8 (y : Int)) = (List.replicate k 0 ++ y :: l).map (fun (b : Nat) => Value.int .u8 (b : Int)) := by
  induction k with
  | zero => rfl
  | succ k ih =>
    have e : List.replicate (k + 1 + 1) 0 ++ l = 0 :: (List.replicate (k + 1) 0 ++ l) := rfl
    rw [e, List.map_cons, List.set_cons_succ, ih]
    rfl

set_option maxRecDepth 100000 in
set_option maxHeartbeats 2000000 in
theorem refReal_c (X : Nat) (w : World) (hX : X < 18446744073709551616) : Calls Try.prog 55 #[.float .f64 X] w (fun e w' => ∃ g cap, e = .returned (.slice (some ⟨g, 0, none⟩) (hi 8 X).length cap) ∧ w'.ownsRow w.heap.size 5 1 (.slice (some ⟨g, 0, none⟩) (hi 8 X).length cap) (hi 8 X).length ((hi 8 X).map (fun (b : Nat) => Value.int .u8 (b : Int))) ∧ Below w.heap.size w w') := by
  obtain ⟨i0, hi0, hz0, hz1, hz2⟩ := info_parts info5
  have HX := hide hX
  clear hX
  go_enter Try.func55, Try.ntmps55
  go_wp2_with fail
  rw [run63]
  go_wp2
  obtain ⟨wm, hrun, hown0, hgr0⟩ := run_make_full (P := Try.prog) w w.heap.size 28 5 i0 (.int .u8 0) 1 Try.underlying28 hi0 hz0 hz1 .i64 .i64 8 (by rw [hz2]; decide) (by unfold maxLen; omega) (Nat.le_refl _)
  have hrun' : Sem.run Try.prog (Instr.makeSlice 28 (Value.int IntKind.i64 8) (Value.int IntKind.i64 8)) w = .ok (.slice (some ⟨w.heap.size, 0, none⟩) 8 8) wm := hrun
  have HOW0 := hide hown0
  have HB0 := hide (below_grown (Below.refl w.heap.size w) hgr0 (fun k e => by cases e) (Nat.le_refl _))
  clear hrun hown0 hgr0
  rw [hrun']
  go_wp2
  go_loopw [3, 5] (fun v3 v5 wr => ∃ (j : Nat), j ≤ 8 ∧ v3 = .int .u64 ((X / 256 ^ j : Nat) : Int) ∧ v5 = .int .i64 (7 - (j : Int)) ∧ wr.ownsRow w.heap.size 5 1 (.slice (some ⟨w.heap.size, 0, none⟩) 8 8) 8 ((List.replicate (8 - j) 0 ++ hi j X).map (fun (b : Nat) => Value.int .u8 (b : Int))) ∧ Below w.heap.size w wr) (fun _ v5 _ => (intOf v5 + 1).toNat)
  case atStart => exact ⟨0, by omega, by simp, rfl, by (have q := HOW0.out; rw [show (Value.int IntKind.u8 0).cells = #[Value.int .u8 0] from rfl, toList_madeCells_one] at q; simpa [hi] using q), HB0.out⟩
  case round =>
    obtain ⟨j, hj, rfl, rfl, hown, hB⟩ := hrel
    have HOW := hide hown
    have HB := hide hB
    clear hown hB
    by_cases hlt : j < 8
    · obtain ⟨k, hk⟩ : ∃ k : Nat, k + j = 7 := ⟨7 - j, by omega⟩
      have e1 : (7 : Int) - (j : Int) = (k : Int) := by omega
      have e2 : 8 - j = k + 1 := by omega
      have hk8 : k < 8 := by omega
      rw [e1]
      rw [e2] at HOW
      have hy64 : X / 256 ^ j < 18446744073709551616 := Nat.lt_of_le_of_lt (Nat.div_le_self _ _) HX.out
      have hdiv : X / 256 ^ (j + 1) = X / 256 ^ j / 256 := by rw [Nat.pow_succ, Nat.div_div_eq_div_mul]
      have HD := hide hdiv
      have HH := hide (show hi (j + 1) X = (X / 256 ^ j % 256) :: hi j X from rfl)
      clear hdiv
      generalize hy : X / 256 ^ j = y at *
      have c0 : wr.cell? ⟨w.heap.size, k, none⟩ = _ := HOW.out.cellAt k (by omega)
      have f0 : wr.frozen? ⟨w.heap.size, k, none⟩ = false := HOW.out.frozenAt k
      rw [List.getElem?_eq_getElem (by (simp; omega))] at c0
      have hk1 : (k : Int) < 8 := by omega
      go_wp2_with fail
      have st := HOW.out.stored k (.int .u8 ((y % 256 : Nat) : Int))
      rw [set_hi] at st
      have ST := hide st
      clear st
      go_roundw
      case rel =>
        have e3 : 8 - (j + 1) = k := by omega
        refine ⟨j + 1, by omega, by (rw [HD.out]; rfl), (by (have e4 : (k : Int) - 1 = 7 - ((j + 1 : Nat) : Int) := by omega); rw [e4]), ?_, below_grown HB.out ST.out.2 (fun k' e => by cases e; exact Nat.le_refl _) HB.out.size⟩
        rw [e3, HH.out]
        exact ST.out.1
      case measure => (first | (simp [intOf]; done) | (simp [intOf]; omega))
    · obtain rfl : j = 8 := by omega
      go_wp2
      go_ret
      exact ⟨w.heap.size, 8, by (rw [hi_length]; rfl), by (have q := HOW.out; rw [hi_length]; simpa using q), HB.out⟩
end Go.Proofs.Ytajkgecegefnmaa

namespace Go.Proofs.Ytajkgecegefnmaa
open Go.ChangeShapes Go.WideShapes Go.ChangeAt Go.RowKit Go.Deep
set_option linter.unusedSimpArgs false
set_option linter.unusedVariables false

set_option maxRecDepth 100000 in
set_option maxHeartbeats 1000000 in
theorem num_c (n : Int) (w : World) : Calls Try.prog 23 #[.int .i64 n] w fun e w' => e = .returned (.int .i64 n) ∧ Below w.heap.size w w' := by
  go_enter Try.func23, Try.ntmps23
  go_wp2
  go_ret
  exact ⟨rfl, by (focus repeat' (first | (with_reducible exact Below.refl _ _) | (with_reducible assumption) | (with_reducible refine Below.alloc ?_ ?_ _) | (with_reducible refine Below.drew ?_) | (with_reducible refine bdrewN ?_ _) | (with_reducible refine Below.setCell ?_ ?_ _) | (first | (with_reducible exact Nat.le_refl _) | (with_reducible assumption) | omega | (simp; omega) | (simp; done))))⟩

set_option maxRecDepth 100000 in
set_option maxHeartbeats 1000000 in
theorem num_n (n : Int) (w : World) : Calls Try.prog 23 #[.int .i64 n] w (fun e w' => e = .returned (.int .i64 n) ∧ w' = w) := by
  go_enter Try.func23, Try.ntmps23
  go_wp2
  go_ret
  exact ⟨rfl, rfl⟩

theorem len18 (g : Nat) (v : Value) (w : World) (hW : WObj w g v d18) : Calls Try.prog 28 #[.pointer (some ⟨g, 0, none⟩)] w fun e w' => e = .returned (.int .i64 18) ∧ Below w.heap.size w w' := Len_c g v d18 w hW
theorem place3 (g B : Nat) (w : World) (hR : RAny w g B d8 3) : Calls Try.prog 24 #[.pointer (some ⟨g, 0, none⟩)] w fun e w' => e = .returned (.int .i64 3) ∧ Below w.heap.size w w' := Place_any g B d8 3 w hR
theorem end112 (g B : Nat) (w : World) (hR : RAny w g B d8 3) : Calls Try.prog 33 #[.pointer (some ⟨g, 0, none⟩)] w fun e w' => e = .returned (.int .i64 112) ∧ Below w.heap.size w w' := End_yes g B d8 3 w hR (by decide)
theorem size248 (w : World) : Calls Try.prog 13 #[.int .u64 248] w fun e w' => e = .returned (.int .i64 2) ∧ Below w.heap.size w w' := by
  have q := Size_c 248 w (by decide)
  rw [form248] at q
  exact q
theorem unf3 (w : World) : Calls Try.prog 17 #[.int .u64 3] w fun e w' => e = .returned (.int .i64 (-2)) ∧ Below w.heap.size w w' := Unfold_c 3 w (by decide)

theorem wpAnyH_mono {P : Program} {md : Region.Mode} {ops : Array Oper} {Q : Exit → Act → World → Prop} {S S2 : World → Prop} (h : ∀ w, S2 w → S w) : ∀ (fuel : Nat) (listed : Array Bool) (a : Act) (w : World), wpAnyH P md ops Q S2 fuel listed a w → wpAnyH P md ops Q S fuel listed a w
  | 0, _, _, _, H => H
  | fuel + 1, _, _, _, H => ⟨H.1, fun i hi => wpOp_mono (fun a' w' h' => ⟨h _ h'.1, wpAnyH_mono h fuel _ a' w' h'.2⟩) (H.2 i hi)⟩

set_option maxRecDepth 100000 in
set_option maxHeartbeats 4000000 in
theorem known_c  (w : World) : Calls Try.prog 10 #[] w (fun e w' => e = .returned (.bool true) ∧ Below w.heap.size w w') := by
  go_enter Try.func10, Try.ntmps10
  go_wp2_with fail
  refine (NewWriter_c _).mono ?_
  rintro e w1 ⟨g1, rfl, hg1, hb1, hW1⟩
  have HW1 := hide hW1
  have HB1 := hide hb1
  have z1 := hb1.size
  have hg1z := hW1.1
  clear hW1 hb1
  go_wp2_with fail
  refine (NewReader_some d8 w1.heap.size 0 8 _ (by decide) (by decide) d8_lt (fun j hj => ?_) (by simp)).mono ?_
  · have hj8 : j = 0 ∨ j = 1 ∨ j = 2 ∨ j = 3 ∨ j = 4 ∨ j = 5 ∨ j = 6 ∨ j = 7 := by (have : d8.length = 8 := rfl); omega
    rcases hj8 with rfl | rfl | rfl | rfl | rfl | rfl | rfl | rfl <;> simp [go_sem, d8, List.getD]
  rintro e w2 ⟨g2, b2, cap2, rfl, hg2, hb2, hbel, hR2⟩
  have hA : Below w1.heap.size w1 (w1.alloc (.cells #[Value.int .u8 249, Value.int .u8 1, Value.int .u8 0, Value.int .u8 2, Value.int .u8 3, Value.int .u8 248, Value.int .u8 5, Value.int .u8 9] 5)) := by (focus repeat' (first | (with_reducible exact Below.refl _ _) | (with_reducible assumption) | (with_reducible refine Below.alloc ?_ ?_ _) | (with_reducible refine Below.drew ?_) | (with_reducible refine bdrewN ?_ _) | (with_reducible refine Below.setCell ?_ ?_ _) | (first | (with_reducible exact Nat.le_refl _) | (with_reducible assumption) | omega | (simp; omega) | (simp; done))))
  have hA2 : Below w1.heap.size w1 w2 := bstep hA hbel
  have hg2' : w1.heap.size + 1 ≤ g2 := by simpa using hg2
  have hb2' : w1.heap.size + 1 ≤ b2 := by simpa using hb2
  have HK2 := hide (show KN w w2 g1 (.slice none 0 0) [] g2 b2 cap2 d8 0 from ⟨HW1.out.below hA2, hR2, by omega, by omega, by simp [Value.ownBlock], by simp [Value.ownBlock], HB1.out.trans (hA2.mono z1), hg1, by omega, by simp [Value.ownBlock]⟩)
  clear hA hA2 hbel hR2 hg2 hb2 hg2' hb2' hg1 hg1z z1 HW1 HB1
  go_wp2_with (go_at_call 23; go_in)
  refine (Number_c g1 (.slice none 0 0) [] 255 _ HK2.out.wr (by decide) (by decide)).mono ?_
  rintro e w3 ⟨v3, rfl, hW3, hk3, hn3⟩
  have HK3 := hide (HK2.out.write hW3 hk3 hn3)
  clear hW3 hk3 hn3 HK2
  go_wp2_with (go_at_call 23; go_in)
  refine (Signed_c g1 v3 ([] ++ form 255) (-1) _ HK3.out.wr (by rw [form255]; decide) (by decide) (by decide)).mono ?_
  rintro e w4 ⟨v4, rfl, hW4, hk4, hn4⟩
  have HK4 := hide (HK3.out.write hW4 hk4 hn4)
  clear hW4 hk4 hn4 HK3
  go_wp2_with (go_at_call 23; go_in)
  refine (Flag_yes g1 v4 (([] ++ form 255) ++ form (fold (-1))) _ HK4.out.wr (by rw [form255]; decide)).mono ?_
  rintro e w5 ⟨v5, rfl, hW5, hk5, hn5⟩
  have HK5 := hide (HK4.out.write hW5 hk5 hn5)
  clear hW5 hk5 hn5 HK4
  go_wp2_with (go_at_call 23; go_in)
  refine (Text_some g1 v5 ((([] ++ form 255) ++ form (fold (-1))) ++ [1]) ⟨#[97, 98]⟩ _ HK5.out.wr (by rw [form255]; decide) (by decide) (by decide)).mono ?_
  rintro e w6 ⟨v6, rfl, hW6, hk6, hn6⟩
  have HK6 := hide (HK5.out.write hW6 hk6 hn6)
  clear hW6 hk6 hn6 HK5
  go_wp2_with (go_at_call 23; go_in)
  have hA : Below w6.heap.size w6 (w6.alloc (.cells #[.int .u64 3, .int .u64 4] 22)) := by (focus repeat' (first | (with_reducible exact Below.refl _ _) | (with_reducible assumption) | (with_reducible refine Below.alloc ?_ ?_ _) | (with_reducible refine Below.drew ?_) | (with_reducible refine bdrewN ?_ _) | (with_reducible refine Below.setCell ?_ ?_ _) | (first | (with_reducible exact Nat.le_refl _) | (with_reducible assumption) | omega | (simp; omega) | (simp; done))))
  have HK6b := hide (HK6.out.below hA)
  refine (List64_c g1 v6 (((([] ++ form 255) ++ form (fold (-1))) ++ [1]) ++ text ⟨#[97, 98]⟩) [3, 4] w6.heap.size 0 2 _ HK6b.out.wr (by rw [form255]; decide) (by decide) (by decide) (fun j hj => ?_) (by simp) (by (have := HK6.out.wr.1); omega) (fun e => by (have := HK6.out.wr.2.2.2.1.lt w6.heap.size e.symm); omega)).mono ?_
  · have hj2 : j = 0 ∨ j = 1 := by (have : ([3, 4] : List Nat).length = 2 := rfl); omega
    rcases hj2 with rfl | rfl <;> simp [go_sem, List.getD]
  rintro e w7 ⟨v7, rfl, hW7, hk7, hn7⟩
  have HK7 := hide (HK6b.out.write hW7 hk7 hn7)
  clear hW7 hk7 hn7 HK6 hA HK6b
  go_wp2_with (go_at_call 23; go_in)
  refine (Real_c g1 v7 ((((([] ++ form 255) ++ form (fold (-1))) ++ [1]) ++ text ⟨#[97, 98]⟩) ++ (form 2 ++ forms [3, 4])) 4607182418800017408 _ HK7.out.wr (by rw [form255]; decide) (by decide)).mono ?_
  rintro e w8 ⟨v8, rfl, hW8, hk8, hn8⟩
  have HK8 := hide (HK7.out.write hW8 hk8 hn8)
  clear hW8 hk8 hn8 HK7
  rw [d18_is] at HK8
  have HR0 := hide HK8.out.reads
  have hbx := HK8.out.rd
  clear HK8 hbx
  go_wp2_with (go_at_call 23; go_in)
  refine (RNum_any g2 w8.heap.size d8 0 _ HR0.out.rd).mono ?_
  rw [d8_rd]
  rintro e w9 ⟨rfl, ho9, hR9⟩
  have HR9 := hide (HR0.out.read ho9 hR9)
  have z9 := ho9.size
  clear ho9 hR9 HR0
  go_wp2_with fail
  refine (Take_U_c g2 w8.heap.size d8 3 9 _ HR9.out.rd (by decide) (by decide)).mono ?_
  rw [d8_tl9]
  rintro e w10 ⟨u10, rfl, ho10, hR10, _⟩
  have HR10 := hide (HR9.out.read ho10 hR10)
  clear ho10 hR10 HR9
  go_wp2_with fail
  refine (Take_U_c g2 w8.heap.size d8 3 1 _ HR10.out.rd (by decide) (by decide)).mono ?_
  rw [d8_tl1]
  rintro e w11 ⟨u11, rfl, ho11, hR11, _⟩
  have HR11 := hide (HR10.out.read ho11 hR11)
  clear ho11 hR11 HR10
  have hA : Below w11.heap.size w11 (w11.alloc (.cells #[Value.int .u8 248, Value.int .u8 255, Value.int .u8 1, Value.int .u8 1, Value.int .u8 2, Value.int .u8 97, Value.int .u8 98, Value.int .u8 2, Value.int .u8 3, Value.int .u8 4, Value.int .u8 63, Value.int .u8 240, Value.int .u8 0, Value.int .u8 0, Value.int .u8 0, Value.int .u8 0, Value.int .u8 0, Value.int .u8 0] 5)) := by (focus repeat' (first | (with_reducible exact Below.refl _ _) | (with_reducible assumption) | (with_reducible refine Below.alloc ?_ ?_ _) | (with_reducible refine Below.drew ?_) | (with_reducible refine bdrewN ?_ _) | (with_reducible refine Below.setCell ?_ ?_ _) | (first | (with_reducible exact Nat.le_refl _) | (with_reducible assumption) | omega | (simp; omega) | (simp; done))))
  obtain ⟨wA, hwA⟩ : ∃ wA, wA = w11.alloc (.cells #[Value.int .u8 248, Value.int .u8 255, Value.int .u8 1, Value.int .u8 1, Value.int .u8 2, Value.int .u8 97, Value.int .u8 98, Value.int .u8 2, Value.int .u8 3, Value.int .u8 4, Value.int .u8 63, Value.int .u8 240, Value.int .u8 0, Value.int .u8 0, Value.int .u8 0, Value.int .u8 0, Value.int .u8 0, Value.int .u8 0] 5) := ⟨_, rfl⟩
  have HRA := hide (show KR w wA g1 v8 d18 g2 w8.heap.size d8 3 from hwA ▸ HR11.out.below hA)
  have hwc : ∀ j, j < d18.length → wA.cell? ⟨w11.heap.size, 0 + j, none⟩ = some (.int .u8 (d18.getD j 0 : Int)) := by
    intro j hj
    have hjl : j < 18 := hj
    subst hwA
    rcases j with _ | _ | _ | _ | _ | _ | _ | _ | _ | _ | _ | _ | _ | _ | _ | _ | _ | _ | j
    case succ => omega
    all_goals simp [go_sem, d18, List.getD]
  have hwz : w11.heap.size < wA.heap.size := by rw [hwA]; simp
  have HWC := hide (show ∀ w', Below wA.heap.size wA w' → Sem.run Try.prog (convert 28 9 (.slice (some ⟨w11.heap.size, 0, none⟩) 18 18)) w' = .ok (.string (bstr d18)) w' from fun w' hb => conv28 w' w11.heap.size 0 18 d18 (fun j hj => (hb.cell (p := ⟨w11.heap.size, 0 + j, none⟩) hwz).trans (hwc j hj)))
  have HA := hide hwA
  clear hwA hwc hA
  go_wp2_with fail
  rw [← HA.out]
  have CW0 := HWC.out wA (Below.refl _ _)
  have CW1 := HWC.out wA.drew (drewB _)
  refine wp_region_held_drew (S := fun wq => Below wA.heap.size wA wq ∧ Sem.run Try.prog (convert 28 9 (.slice (some ⟨w11.heap.size, 0, none⟩) 18 18)) wq = .ok (.string (bstr d18)) wq) (by kernel_rfl) ⟨drewB _, CW1⟩ (fun hH0 => ?_)
  refine wpAnyH_take (i := 0) (oi := ?oi0) (v := ?v0) ?ho0 (by kernel_rfl) (by kernel_rfl) (by kernel_rfl) ?hp0 ?hy0 hH0 ?hr0
  case ho0 => (simp only [List.getElem?_toArray, List.getElem?_cons_succ, List.getElem?_cons_zero]; exact rfl)
  case hp0 => exact fun _ _ _ h => h
  case hy0 => (refine Or.inl ⟨by rfl, ?_⟩; intro w hSw; (try dsimp only at hSw); go_simp; (try (with_reducible rfl)))
  case hr0 =>
  (try simp only [Act.put, List.setIfInBounds_toArray, List.set_cons_zero, List.set_cons_succ])
  refine wpAnyH_take (i := 3) (oi := ?oi3) (v := ?v3) ?ho3 (by kernel_rfl) (by kernel_rfl) (by kernel_rfl) ?hp3 ?hy3 hH0 ?hr3
  case ho3 => (simp only [List.getElem?_toArray, List.getElem?_cons_succ, List.getElem?_cons_zero]; exact rfl)
  case hp3 => exact fun _ _ _ h => h
  case hy3 => (refine Or.inl ⟨by rfl, ?_⟩; intro w hSw; (try dsimp only at hSw); go_simp; (try (with_reducible rfl)))
  case hr3 =>
  (try simp only [Act.put, List.setIfInBounds_toArray, List.set_cons_zero, List.set_cons_succ])
  refine wpAnyH_take (i := 4) (oi := ?oi4) (v := ?v4) ?ho4 (by kernel_rfl) (by kernel_rfl) (by kernel_rfl) ?hp4 ?hy4 hH0 ?hr4
  case ho4 => (simp only [List.getElem?_toArray, List.getElem?_cons_succ, List.getElem?_cons_zero]; exact rfl)
  case hp4 => exact fun _ _ _ h => h
  case hy4 => (refine Or.inl ⟨by rfl, ?_⟩; intro w hSw; (try dsimp only at hSw); go_simp; (try (with_reducible rfl)))
  case hr4 =>
  (try simp only [Act.put, List.setIfInBounds_toArray, List.set_cons_zero, List.set_cons_succ])
  refine wpAnyH_ready (rs := [1]) (by kernel_rfl) (by simp) (AllReadyH.cons (o := ?oi1) ?ho1 (fun K hK => ?hr1) AllReadyH.nil)
  case ho1 => (simp only [List.getElem?_toArray, List.getElem?_cons_succ, List.getElem?_cons_zero]; exact rfl)
  case hr1 =>
  go_simp
  refine Calls.mono (Bytes_c g1 v8 d18 _ (HRA.out.below (drewB _)).wr (by decide) (by decide)) ?_
  rintro e w12 ⟨g3, cap3, rfl, hg3, own3, hb12⟩
  have HB12 : Below wA.heap.size wA w12 := bstep (drewB _) hb12
  have CA12 := hide (fun (w' : World) (hb : Below w12.heap.size w12 w') => conv28 w' g3 0 cap3 d18 (own_conv (own_same own3 (fun k _ hlt => hb.block k hlt)) (by decide)))
  have HR12 := hide (HRA.out.below HB12)
  (try go_wp2_with fail)
  refine hK.out _ _ ?_ (fun hH1 => ?_)
  · exact ⟨HB12, HWC.out _ HB12⟩
  clear hK K own3 hg3 hb12 hH0 CW1 CW0
  (try simp only [Act.put, List.setIfInBounds_toArray, List.set_cons_zero, List.set_cons_succ])
  have hH2 : (Below wA.heap.size wA w12 ∧ Sem.run Try.prog (convert 28 9 (.slice (some ⟨w11.heap.size, 0, none⟩) 18 18)) w12 = .ok (.string (bstr d18)) w12) ∧ Below w12.heap.size w12 w12 ∧ Sem.run Try.prog (convert 28 9 (.slice (some ⟨g3, 0, none⟩) d18.length cap3)) w12 = .ok (.string (bstr d18)) w12 := ⟨hH1, Below.refl _ _, CA12.out _ (Below.refl _ _)⟩
  refine wpAnyH_mono (S2 := fun wq => (Below wA.heap.size wA wq ∧ Sem.run Try.prog (convert 28 9 (.slice (some ⟨w11.heap.size, 0, none⟩) 18 18)) wq = .ok (.string (bstr d18)) wq) ∧ Below w12.heap.size w12 wq ∧ Sem.run Try.prog (convert 28 9 (.slice (some ⟨g3, 0, none⟩) d18.length cap3)) wq = .ok (.string (bstr d18)) wq) (fun w h => h.1) _ _ _ _ ?_
  clear hH1 HB12
  refine wpAnyH_take (i := 2) (oi := ?oi2) (v := ?v2) ?ho2 (by kernel_rfl) (by kernel_rfl) (by kernel_rfl) ?hp2 ?hy2 hH2 ?hr2
  case ho2 => (simp only [List.getElem?_toArray, List.getElem?_cons_succ, List.getElem?_cons_zero]; exact rfl)
  case hp2 => exact fun _ _ _ h => h
  case hy2 => (refine Or.inl ⟨by rfl, ?_⟩; intro w hSw; (try dsimp only at hSw); go_simp; (try (with_reducible rfl)))
  case hr2 =>
  (try simp only [Act.put, List.setIfInBounds_toArray, List.set_cons_zero, List.set_cons_succ])
  refine wpAnyH_take (i := 5) (oi := ?oi5) (v := ?v5) ?ho5 (by kernel_rfl) (by kernel_rfl) (by kernel_rfl) ?hp5 ?hy5 hH2 ?hr5
  case ho5 => (simp only [List.getElem?_toArray, List.getElem?_cons_succ, List.getElem?_cons_zero]; exact rfl)
  case hp5 => exact fun _ _ _ h => h
  case hy5 => (refine Or.inl ⟨by rfl, ?_⟩; intro w hSw; (try dsimp only at hSw); go_simp; (try (with_reducible rfl)))
  case hr5 =>
  (try simp only [Act.put, List.setIfInBounds_toArray, List.set_cons_zero, List.set_cons_succ])
  refine wpAnyH_take (i := 6) (oi := ?oi6) (v := ?v6) ?ho6 (by kernel_rfl) (by kernel_rfl) (by kernel_rfl) ?hp6 ?hy6 hH2 ?hr6
  case ho6 => (simp only [List.getElem?_toArray, List.getElem?_cons_succ, List.getElem?_cons_zero]; exact rfl)
  case hp6 => exact fun _ _ _ h => h
  case hy6 => (refine Or.inl ⟨by rfl, ?_⟩; intro w hSw; (try dsimp only at hSw); go_simp; (try (with_reducible rfl)))
  case hr6 =>
  (try simp only [Act.put, List.setIfInBounds_toArray, List.set_cons_zero, List.set_cons_succ])
  refine wpAnyH_take (i := 7) (oi := ?oi7) (v := ?v7) ?ho7 (by kernel_rfl) (by kernel_rfl) (by kernel_rfl) ?hp7 ?hy7 hH2 ?hr7
  case ho7 => (simp only [List.getElem?_toArray, List.getElem?_cons_succ, List.getElem?_cons_zero]; exact rfl)
  case hp7 => exact fun _ _ _ h => h
  case hy7 => (refine Or.inl ⟨by rfl, ?_⟩; intro w hSw; (try dsimp only at hSw); go_simp; (try (with_reducible rfl)))
  case hr7 =>
  (try simp only [Act.put, List.setIfInBounds_toArray, List.set_cons_zero, List.set_cons_succ])
  refine wpAnyH_take (i := 9) (oi := ?oi9) (v := ?v9) ?ho9 (by kernel_rfl) (by kernel_rfl) (by kernel_rfl) ?hp9 ?hy9 hH2 ?hr9
  case ho9 => (simp only [List.getElem?_toArray, List.getElem?_cons_succ, List.getElem?_cons_zero]; exact rfl)
  case hp9 => exact fun _ _ _ h => h
  case hy9 => (refine Or.inl ⟨by rfl, ?_⟩; intro w hSw; (try dsimp only at hSw); go_simp; (try (with_reducible rfl)))
  case hr9 =>
  (try simp only [Act.put, List.setIfInBounds_toArray, List.set_cons_zero, List.set_cons_succ])
  refine wpAnyH_take (i := 10) (oi := ?oi10) (v := ?v10) ?ho10 (by kernel_rfl) (by kernel_rfl) (by kernel_rfl) ?hp10 ?hy10 hH2 ?hr10
  case ho10 => (simp only [List.getElem?_toArray, List.getElem?_cons_succ, List.getElem?_cons_zero]; exact rfl)
  case hp10 => exact fun _ _ _ h => h
  case hy10 => (refine Or.inl ⟨by rfl, ?_⟩; intro w hSw; (try dsimp only at hSw); go_simp; (try (with_reducible rfl)))
  case hr10 =>
  (try simp only [Act.put, List.setIfInBounds_toArray, List.set_cons_zero, List.set_cons_succ])
  refine wpAnyH_ready (rs := [8]) (by kernel_rfl) (by simp) (AllReadyH.cons (o := ?oi8) ?ho8 (fun K hK => ?hr8) AllReadyH.nil)
  case ho8 => (simp only [List.getElem?_toArray, List.getElem?_cons_succ, List.getElem?_cons_zero]; exact rfl)
  case hr8 =>
  go_simp
  refine Calls.mono (len18 g1 v8 _ (HR12.out.below hH2.2.1).wr) ?_
  rintro e wn ⟨rfl, hbn⟩
  (try go_wp2_with fail)
  refine hK.out _ _ ?_ (fun hH3 => ?_)
  · exact ⟨⟨bstep hH2.1.1 hbn, HWC.out _ (bstep hH2.1.1 hbn)⟩, bstep hH2.2.1 hbn, CA12.out _ (bstep hH2.2.1 hbn)⟩
  clear hK K hH2 hbn
  (try simp only [Act.put, List.setIfInBounds_toArray, List.set_cons_zero, List.set_cons_succ])
  refine wpAnyH_take (i := 11) (oi := ?oi11) (v := ?v11) ?ho11 (by kernel_rfl) (by kernel_rfl) (by kernel_rfl) ?hp11 ?hy11 hH3 ?hr11
  case ho11 => (simp only [List.getElem?_toArray, List.getElem?_cons_succ, List.getElem?_cons_zero]; exact rfl)
  case hp11 => exact fun _ _ _ h => h
  case hy11 => (refine Or.inl ⟨by rfl, ?_⟩; intro w hSw; (try dsimp only at hSw); go_simp; (try (with_reducible rfl)))
  case hr11 =>
  (try simp only [Act.put, List.setIfInBounds_toArray, List.set_cons_zero, List.set_cons_succ])
  refine wpAnyH_take (i := 12) (oi := ?oi12) (v := ?v12) ?ho12 (by kernel_rfl) (by kernel_rfl) (by kernel_rfl) ?hp12 ?hy12 hH3 ?hr12
  case ho12 => (simp only [List.getElem?_toArray, List.getElem?_cons_succ, List.getElem?_cons_zero]; exact rfl)
  case hp12 => exact fun _ _ _ h => h
  case hy12 => (refine Or.inl ⟨by rfl, ?_⟩; intro w hSw; (try dsimp only at hSw); go_simp; (try (with_reducible rfl)))
  case hr12 =>
  (try simp only [Act.put, List.setIfInBounds_toArray, List.set_cons_zero, List.set_cons_succ])
  refine wpAnyH_take (i := 13) (oi := ?oi13) (v := ?v13) ?ho13 (by kernel_rfl) (by kernel_rfl) (by kernel_rfl) ?hp13 ?hy13 hH3 ?hr13
  case ho13 => (simp only [List.getElem?_toArray, List.getElem?_cons_succ, List.getElem?_cons_zero]; exact rfl)
  case hp13 => exact fun _ _ _ h => h
  case hy13 => (refine Or.inl ⟨by rfl, ?_⟩; intro w hSw; (try dsimp only at hSw); go_simp; (try (with_reducible rfl)))
  case hr13 =>
  (try simp only [Act.put, List.setIfInBounds_toArray, List.set_cons_zero, List.set_cons_succ])
  refine wpAnyH_take (i := 14) (oi := ?oi14) (v := ?v14) ?ho14 (by kernel_rfl) (by kernel_rfl) (by kernel_rfl) ?hp14 ?hy14 hH3 ?hr14
  case ho14 => (simp only [List.getElem?_toArray, List.getElem?_cons_succ, List.getElem?_cons_zero]; exact rfl)
  case hp14 => exact fun _ _ _ h => h
  case hy14 => (refine Or.inl ⟨by rfl, ?_⟩; intro w hSw; (try dsimp only at hSw); go_simp; (try (with_reducible rfl)))
  case hr14 =>
  (try simp only [Act.put, List.setIfInBounds_toArray, List.set_cons_zero, List.set_cons_succ])
  refine wpAnyH_take (i := 15) (oi := ?oi15) (v := ?v15) ?ho15 (by kernel_rfl) (by kernel_rfl) (by kernel_rfl) ?hp15 ?hy15 hH3 ?hr15
  case ho15 => (simp only [List.getElem?_toArray, List.getElem?_cons_succ, List.getElem?_cons_zero]; exact rfl)
  case hp15 => exact fun _ _ _ h => h
  case hy15 => (refine Or.inl ⟨by rfl, ?_⟩; intro w hSw; (try dsimp only at hSw); go_simp; (try (with_reducible rfl)))
  case hr15 =>
  (try simp only [Act.put, List.setIfInBounds_toArray, List.set_cons_zero, List.set_cons_succ])
  refine wpAnyH_take (i := 16) (oi := ?oi16) (v := ?v16) ?ho16 (by kernel_rfl) (by kernel_rfl) (by kernel_rfl) ?hp16 ?hy16 hH3 ?hr16
  case ho16 => (simp only [List.getElem?_toArray, List.getElem?_cons_succ, List.getElem?_cons_zero]; exact rfl)
  case hp16 => exact fun _ _ _ h => h
  case hy16 => (refine Or.inl ⟨by rfl, ?_⟩; intro w hSw; (try dsimp only at hSw); go_simp; (try (with_reducible rfl)))
  case hr16 =>
  (try simp only [Act.put, List.setIfInBounds_toArray, List.set_cons_zero, List.set_cons_succ])
  refine wpAnyH_take (i := 17) (oi := ?oi17) (v := ?v17) ?ho17 (by kernel_rfl) (by kernel_rfl) (by kernel_rfl) ?hp17 ?hy17 hH3 ?hr17
  case ho17 => (simp only [List.getElem?_toArray, List.getElem?_cons_succ, List.getElem?_cons_zero]; exact rfl)
  case hp17 => exact fun _ _ _ h => h
  case hy17 => (refine Or.inl ⟨by rfl, ?_⟩; intro w hSw; (try dsimp only at hSw); go_simp; (try (with_reducible rfl)))
  case hr17 =>
  (try simp only [Act.put, List.setIfInBounds_toArray, List.set_cons_zero, List.set_cons_succ])
  refine wpAnyH_take (i := 18) (oi := ?oi18) (v := ?v18) ?ho18 (by kernel_rfl) (by kernel_rfl) (by kernel_rfl) ?hp18 ?hy18 hH3 ?hr18
  case ho18 => (simp only [List.getElem?_toArray, List.getElem?_cons_succ, List.getElem?_cons_zero]; exact rfl)
  case hp18 => exact fun _ _ _ h => h
  case hy18 => (refine Or.inl ⟨by rfl, ?_⟩; intro w hSw; (try dsimp only at hSw); go_simp; (try (with_reducible rfl)))
  case hr18 =>
  (try simp only [Act.put, List.setIfInBounds_toArray, List.set_cons_zero, List.set_cons_succ])
  refine wpAnyH_ready (rs := [19]) (by kernel_rfl) (by simp) (AllReadyH.cons (o := ?oi19) ?ho19 (fun K hK => ?hr19) AllReadyH.nil)
  case ho19 => (simp only [List.getElem?_toArray, List.getElem?_cons_succ, List.getElem?_cons_zero]; exact rfl)
  case hr19 =>
  go_simp
  refine Calls.mono (num_n _ _) ?_
  rintro e wx ⟨rfl, rfl⟩
  (try go_wp2_with fail)
  refine hK.out _ _ ?_ (fun hH4 => ?_)
  · exact hH3
  clear hK K hH3
  (try simp only [Act.put, List.setIfInBounds_toArray, List.set_cons_zero, List.set_cons_succ])
  refine wpAnyH_take (i := 20) (oi := ?oi20) (v := ?v20) ?ho20 (by kernel_rfl) (by kernel_rfl) (by kernel_rfl) ?hp20 ?hy20 hH4 ?hr20
  case ho20 => (simp only [List.getElem?_toArray, List.getElem?_cons_succ, List.getElem?_cons_zero]; exact rfl)
  case hp20 => exact fun _ _ _ h => h
  case hy20 => (refine Or.inl ⟨by rfl, ?_⟩; intro w hSw; (try dsimp only at hSw); go_simp; (try (with_reducible rfl)))
  case hr20 =>
  (try simp only [Act.put, List.setIfInBounds_toArray, List.set_cons_zero, List.set_cons_succ])
  refine wpAnyH_take (i := 21) (oi := ?oi21) (v := ?v21) ?ho21 (by kernel_rfl) (by kernel_rfl) (by kernel_rfl) ?hp21 ?hy21 hH4 ?hr21
  case ho21 => (simp only [List.getElem?_toArray, List.getElem?_cons_succ, List.getElem?_cons_zero]; exact rfl)
  case hp21 => exact fun _ _ _ h => h
  case hy21 => (refine Or.inl ⟨by rfl, ?_⟩; intro w hSw; (try dsimp only at hSw); go_simp; (try (with_reducible rfl)))
  case hr21 =>
  (try simp only [Act.put, List.setIfInBounds_toArray, List.set_cons_zero, List.set_cons_succ])
  refine wpAnyH_take (i := 22) (oi := ?oi22) (v := ?v22) ?ho22 (by kernel_rfl) (by kernel_rfl) (by kernel_rfl) ?hp22 ?hy22 hH4 ?hr22
  case ho22 => (simp only [List.getElem?_toArray, List.getElem?_cons_succ, List.getElem?_cons_zero]; exact rfl)
  case hp22 => exact fun _ _ _ h => h
  case hy22 => (refine Or.inl ⟨by rfl, ?_⟩; intro w hSw; (try dsimp only at hSw); go_simp; (try (with_reducible rfl)))
  case hr22 =>
  (try simp only [Act.put, List.setIfInBounds_toArray, List.set_cons_zero, List.set_cons_succ])
  refine wpAnyH_take (i := 23) (oi := ?oi23) (v := ?v23) ?ho23 (by kernel_rfl) (by kernel_rfl) (by kernel_rfl) ?hp23 ?hy23 hH4 ?hr23
  case ho23 => (simp only [List.getElem?_toArray, List.getElem?_cons_succ, List.getElem?_cons_zero]; exact rfl)
  case hp23 => exact fun _ _ _ h => h
  case hy23 => (refine Or.inl ⟨by rfl, ?_⟩; intro w hSw; (try dsimp only at hSw); go_simp; (try (with_reducible rfl)))
  case hr23 =>
  (try simp only [Act.put, List.setIfInBounds_toArray, List.set_cons_zero, List.set_cons_succ])
  refine wpAnyH_ready (rs := [24]) (by kernel_rfl) (by simp) (AllReadyH.cons (o := ?oi24) ?ho24 (fun K hK => ?hr24) AllReadyH.nil)
  case ho24 => (simp only [List.getElem?_toArray, List.getElem?_cons_succ, List.getElem?_cons_zero]; exact rfl)
  case hr24 =>
  go_simp
  refine Calls.mono (num_n _ _) ?_
  rintro e wx ⟨rfl, rfl⟩
  (try go_wp2_with fail)
  refine hK.out _ _ ?_ (fun hH5 => ?_)
  · exact hH4
  clear hK K hH4
  (try simp only [Act.put, List.setIfInBounds_toArray, List.set_cons_zero, List.set_cons_succ])
  refine wpAnyH_take (i := 25) (oi := ?oi25) (v := ?v25) ?ho25 (by kernel_rfl) (by kernel_rfl) (by kernel_rfl) ?hp25 ?hy25 hH5 ?hr25
  case ho25 => (simp only [List.getElem?_toArray, List.getElem?_cons_succ, List.getElem?_cons_zero]; exact rfl)
  case hp25 => exact fun _ _ _ h => h
  case hy25 => (refine Or.inl ⟨by rfl, ?_⟩; intro w hSw; (try dsimp only at hSw); go_simp; (try (with_reducible rfl)))
  case hr25 =>
  (try simp only [Act.put, List.setIfInBounds_toArray, List.set_cons_zero, List.set_cons_succ])
  refine wpAnyH_take (i := 26) (oi := ?oi26) (v := ?v26) ?ho26 (by kernel_rfl) (by kernel_rfl) (by kernel_rfl) ?hp26 ?hy26 hH5 ?hr26
  case ho26 => (simp only [List.getElem?_toArray, List.getElem?_cons_succ, List.getElem?_cons_zero]; exact rfl)
  case hp26 => exact fun _ _ _ h => h
  case hy26 => (refine Or.inl ⟨by rfl, ?_⟩; intro w hSw; (try dsimp only at hSw); go_simp; (try (with_reducible rfl)))
  case hr26 =>
  (try simp only [Act.put, List.setIfInBounds_toArray, List.set_cons_zero, List.set_cons_succ])
  refine wpAnyH_take (i := 27) (oi := ?oi27) (v := ?v27) ?ho27 (by kernel_rfl) (by kernel_rfl) (by kernel_rfl) ?hp27 ?hy27 hH5 ?hr27
  case ho27 => (simp only [List.getElem?_toArray, List.getElem?_cons_succ, List.getElem?_cons_zero]; exact rfl)
  case hp27 => exact fun _ _ _ h => h
  case hy27 => (refine Or.inl ⟨by rfl, ?_⟩; intro w hSw; (try dsimp only at hSw); go_simp; (try (with_reducible rfl)))
  case hr27 =>
  (try simp only [Act.put, List.setIfInBounds_toArray, List.set_cons_zero, List.set_cons_succ])
  refine wpAnyH_take (i := 28) (oi := ?oi28) (v := ?v28) ?ho28 (by kernel_rfl) (by kernel_rfl) (by kernel_rfl) ?hp28 ?hy28 hH5 ?hr28
  case ho28 => (simp only [List.getElem?_toArray, List.getElem?_cons_succ, List.getElem?_cons_zero]; exact rfl)
  case hp28 => exact fun _ _ _ h => h
  case hy28 => (refine Or.inl ⟨by rfl, ?_⟩; intro w hSw; (try dsimp only at hSw); go_simp; (try (with_reducible rfl)))
  case hr28 =>
  (try simp only [Act.put, List.setIfInBounds_toArray, List.set_cons_zero, List.set_cons_succ])
  refine wpAnyH_ready (rs := [29]) (by kernel_rfl) (by simp) (AllReadyH.cons (o := ?oi29) ?ho29 (fun K hK => ?hr29) AllReadyH.nil)
  case ho29 => (simp only [List.getElem?_toArray, List.getElem?_cons_succ, List.getElem?_cons_zero]; exact rfl)
  case hr29 =>
  go_simp
  refine Calls.mono (num_n _ _) ?_
  rintro e wx ⟨rfl, rfl⟩
  (try go_wp2_with fail)
  refine hK.out _ _ ?_ (fun hH6 => ?_)
  · exact hH5
  clear hK K hH5
  (try simp only [Act.put, List.setIfInBounds_toArray, List.set_cons_zero, List.set_cons_succ])
  refine wpAnyH_take (i := 30) (oi := ?oi30) (v := ?v30) ?ho30 (by kernel_rfl) (by kernel_rfl) (by kernel_rfl) ?hp30 ?hy30 hH6 ?hr30
  case ho30 => (simp only [List.getElem?_toArray, List.getElem?_cons_succ, List.getElem?_cons_zero]; exact rfl)
  case hp30 => exact fun _ _ _ h => h
  case hy30 => (refine Or.inl ⟨by rfl, ?_⟩; intro w hSw; (try dsimp only at hSw); go_simp; (try (with_reducible rfl)))
  case hr30 =>
  (try simp only [Act.put, List.setIfInBounds_toArray, List.set_cons_zero, List.set_cons_succ])
  refine wpAnyH_take (i := 31) (oi := ?oi31) (v := ?v31) ?ho31 (by kernel_rfl) (by kernel_rfl) (by kernel_rfl) ?hp31 ?hy31 hH6 ?hr31
  case ho31 => (simp only [List.getElem?_toArray, List.getElem?_cons_succ, List.getElem?_cons_zero]; exact rfl)
  case hp31 => exact fun _ _ _ h => h
  case hy31 => (refine Or.inl ⟨by rfl, ?_⟩; intro w hSw; (try dsimp only at hSw); go_simp; (try (with_reducible rfl)))
  case hr31 =>
  (try simp only [Act.put, List.setIfInBounds_toArray, List.set_cons_zero, List.set_cons_succ])
  refine wpAnyH_take (i := 32) (oi := ?oi32) (v := ?v32) ?ho32 (by kernel_rfl) (by kernel_rfl) (by kernel_rfl) ?hp32 ?hy32 hH6 ?hr32
  case ho32 => (simp only [List.getElem?_toArray, List.getElem?_cons_succ, List.getElem?_cons_zero]; exact rfl)
  case hp32 => exact fun _ _ _ h => h
  case hy32 => (refine Or.inl ⟨by rfl, ?_⟩; intro w hSw; (try dsimp only at hSw); go_simp; (try (with_reducible rfl)))
  case hr32 =>
  (try simp only [Act.put, List.setIfInBounds_toArray, List.set_cons_zero, List.set_cons_succ])
  refine wpAnyH_take (i := 33) (oi := ?oi33) (v := ?v33) ?ho33 (by kernel_rfl) (by kernel_rfl) (by kernel_rfl) ?hp33 ?hy33 hH6 ?hr33
  case ho33 => (simp only [List.getElem?_toArray, List.getElem?_cons_succ, List.getElem?_cons_zero]; exact rfl)
  case hp33 => exact fun _ _ _ h => h
  case hy33 => (refine Or.inl ⟨by rfl, ?_⟩; intro w hSw; (try dsimp only at hSw); go_simp; (try (with_reducible rfl)))
  case hr33 =>
  (try simp only [Act.put, List.setIfInBounds_toArray, List.set_cons_zero, List.set_cons_succ])
  refine wpAnyH_ready (rs := [34]) (by kernel_rfl) (by simp) (AllReadyH.cons (o := ?oi34) ?ho34 (fun K hK => ?hr34) AllReadyH.nil)
  case ho34 => (simp only [List.getElem?_toArray, List.getElem?_cons_succ, List.getElem?_cons_zero]; exact rfl)
  case hr34 =>
  go_simp
  refine Calls.mono (place3 g2 w8.heap.size _ (HR12.out.below hH6.2.1).rd) ?_
  rintro e wn ⟨rfl, hbn⟩
  (try go_wp2_with fail)
  refine hK.out _ _ ?_ (fun hH7 => ?_)
  · exact ⟨⟨bstep hH6.1.1 hbn, HWC.out _ (bstep hH6.1.1 hbn)⟩, bstep hH6.2.1 hbn, CA12.out _ (bstep hH6.2.1 hbn)⟩
  clear hK K hH6 hbn
  (try simp only [Act.put, List.setIfInBounds_toArray, List.set_cons_zero, List.set_cons_succ])
  refine wpAnyH_take (i := 35) (oi := ?oi35) (v := ?v35) ?ho35 (by kernel_rfl) (by kernel_rfl) (by kernel_rfl) ?hp35 ?hy35 hH7 ?hr35
  case ho35 => (simp only [List.getElem?_toArray, List.getElem?_cons_succ, List.getElem?_cons_zero]; exact rfl)
  case hp35 => exact fun _ _ _ h => h
  case hy35 => (refine Or.inl ⟨by rfl, ?_⟩; intro w hSw; (try dsimp only at hSw); go_simp; (try (with_reducible rfl)))
  case hr35 =>
  (try simp only [Act.put, List.setIfInBounds_toArray, List.set_cons_zero, List.set_cons_succ])
  refine wpAnyH_take (i := 36) (oi := ?oi36) (v := ?v36) ?ho36 (by kernel_rfl) (by kernel_rfl) (by kernel_rfl) ?hp36 ?hy36 hH7 ?hr36
  case ho36 => (simp only [List.getElem?_toArray, List.getElem?_cons_succ, List.getElem?_cons_zero]; exact rfl)
  case hp36 => exact fun _ _ _ h => h
  case hy36 => (refine Or.inl ⟨by rfl, ?_⟩; intro w hSw; (try dsimp only at hSw); go_simp; (try (with_reducible rfl)))
  case hr36 =>
  (try simp only [Act.put, List.setIfInBounds_toArray, List.set_cons_zero, List.set_cons_succ])
  refine wpAnyH_take (i := 37) (oi := ?oi37) (v := ?v37) ?ho37 (by kernel_rfl) (by kernel_rfl) (by kernel_rfl) ?hp37 ?hy37 hH7 ?hr37
  case ho37 => (simp only [List.getElem?_toArray, List.getElem?_cons_succ, List.getElem?_cons_zero]; exact rfl)
  case hp37 => exact fun _ _ _ h => h
  case hy37 => (refine Or.inl ⟨by rfl, ?_⟩; intro w hSw; (try dsimp only at hSw); go_simp; (try (with_reducible rfl)))
  case hr37 =>
  (try simp only [Act.put, List.setIfInBounds_toArray, List.set_cons_zero, List.set_cons_succ])
  refine wpAnyH_take (i := 38) (oi := ?oi38) (v := ?v38) ?ho38 (by kernel_rfl) (by kernel_rfl) (by kernel_rfl) ?hp38 ?hy38 hH7 ?hr38
  case ho38 => (simp only [List.getElem?_toArray, List.getElem?_cons_succ, List.getElem?_cons_zero]; exact rfl)
  case hp38 => exact fun _ _ _ h => h
  case hy38 => (refine Or.inl ⟨by rfl, ?_⟩; intro w hSw; (try dsimp only at hSw); go_simp; (try (with_reducible rfl)))
  case hr38 =>
  (try simp only [Act.put, List.setIfInBounds_toArray, List.set_cons_zero, List.set_cons_succ])
  refine wpAnyH_ready (rs := [39]) (by kernel_rfl) (by simp) (AllReadyH.cons (o := ?oi39) ?ho39 (fun K hK => ?hr39) AllReadyH.nil)
  case ho39 => (simp only [List.getElem?_toArray, List.getElem?_cons_succ, List.getElem?_cons_zero]; exact rfl)
  case hr39 =>
  go_simp
  refine Calls.mono (end112 g2 w8.heap.size _ (HR12.out.below hH7.2.1).rd) ?_
  rintro e wn ⟨rfl, hbn⟩
  (try go_wp2_with fail)
  refine hK.out _ _ ?_ (fun hH8 => ?_)
  · exact ⟨⟨bstep hH7.1.1 hbn, HWC.out _ (bstep hH7.1.1 hbn)⟩, bstep hH7.2.1 hbn, CA12.out _ (bstep hH7.2.1 hbn)⟩
  clear hK K hH7 hbn
  (try simp only [Act.put, List.setIfInBounds_toArray, List.set_cons_zero, List.set_cons_succ])
  refine wpAnyH_ready (rs := [40]) (by kernel_rfl) (by simp) (AllReadyH.cons (o := ?oi40) ?ho40 (fun K hK => ?hr40) AllReadyH.nil)
  case ho40 => (simp only [List.getElem?_toArray, List.getElem?_cons_succ, List.getElem?_cons_zero]; exact rfl)
  case hr40 =>
  go_simp
  refine Calls.mono (num_n _ _) ?_
  rintro e wx ⟨rfl, rfl⟩
  (try go_wp2_with fail)
  refine hK.out _ _ ?_ (fun hH9 => ?_)
  · exact hH8
  clear hK K hH8
  (try simp only [Act.put, List.setIfInBounds_toArray, List.set_cons_zero, List.set_cons_succ])
  refine wpAnyH_take (i := 41) (oi := ?oi41) (v := ?v41) ?ho41 (by kernel_rfl) (by kernel_rfl) (by kernel_rfl) ?hp41 ?hy41 hH9 ?hr41
  case ho41 => (simp only [List.getElem?_toArray, List.getElem?_cons_succ, List.getElem?_cons_zero]; exact rfl)
  case hp41 => exact fun _ _ _ h => h
  case hy41 => (refine Or.inl ⟨by rfl, ?_⟩; intro w hSw; (try dsimp only at hSw); go_simp; (try (with_reducible rfl)))
  case hr41 =>
  (try simp only [Act.put, List.setIfInBounds_toArray, List.set_cons_zero, List.set_cons_succ])
  refine wpAnyH_take (i := 42) (oi := ?oi42) (v := ?v42) ?ho42 (by kernel_rfl) (by kernel_rfl) (by kernel_rfl) ?hp42 ?hy42 hH9 ?hr42
  case ho42 => (simp only [List.getElem?_toArray, List.getElem?_cons_succ, List.getElem?_cons_zero]; exact rfl)
  case hp42 => exact fun _ _ _ h => h
  case hy42 => (refine Or.inl ⟨by rfl, ?_⟩; intro w hSw; (try dsimp only at hSw); go_simp; (try (with_reducible rfl)))
  case hr42 =>
  (try simp only [Act.put, List.setIfInBounds_toArray, List.set_cons_zero, List.set_cons_succ])
  refine wpAnyH_take (i := 43) (oi := ?oi43) (v := ?v43) ?ho43 (by kernel_rfl) (by kernel_rfl) (by kernel_rfl) ?hp43 ?hy43 hH9 ?hr43
  case ho43 => (simp only [List.getElem?_toArray, List.getElem?_cons_succ, List.getElem?_cons_zero]; exact rfl)
  case hp43 => exact fun _ _ _ h => h
  case hy43 => (refine Or.inl ⟨by rfl, ?_⟩; intro w hSw; (try dsimp only at hSw); go_simp; (try (with_reducible rfl)))
  case hr43 =>
  (try simp only [Act.put, List.setIfInBounds_toArray, List.set_cons_zero, List.set_cons_succ])
  refine wpAnyH_ready (rs := [44]) (by kernel_rfl) (by simp) (AllReadyH.cons (o := ?oi44) ?ho44 (fun K hK => ?hr44) AllReadyH.nil)
  case ho44 => (simp only [List.getElem?_toArray, List.getElem?_cons_succ, List.getElem?_cons_zero]; exact rfl)
  case hr44 =>
  go_simp
  refine Calls.mono (size248 _) ?_
  rintro e wn ⟨rfl, hbn⟩
  (try go_wp2_with fail)
  refine hK.out _ _ ?_ (fun hH10 => ?_)
  · exact ⟨⟨bstep hH9.1.1 hbn, HWC.out _ (bstep hH9.1.1 hbn)⟩, bstep hH9.2.1 hbn, CA12.out _ (bstep hH9.2.1 hbn)⟩
  clear hK K hH9 hbn
  (try simp only [Act.put, List.setIfInBounds_toArray, List.set_cons_zero, List.set_cons_succ])
  refine wpAnyH_take (i := 45) (oi := ?oi45) (v := ?v45) ?ho45 (by kernel_rfl) (by kernel_rfl) (by kernel_rfl) ?hp45 ?hy45 hH10 ?hr45
  case ho45 => (simp only [List.getElem?_toArray, List.getElem?_cons_succ, List.getElem?_cons_zero]; exact rfl)
  case hp45 => exact fun _ _ _ h => h
  case hy45 => (refine Or.inl ⟨by rfl, ?_⟩; intro w hSw; (try dsimp only at hSw); go_simp; (try (with_reducible rfl)))
  case hr45 =>
  (try simp only [Act.put, List.setIfInBounds_toArray, List.set_cons_zero, List.set_cons_succ])
  refine wpAnyH_take (i := 46) (oi := ?oi46) (v := ?v46) ?ho46 (by kernel_rfl) (by kernel_rfl) (by kernel_rfl) ?hp46 ?hy46 hH10 ?hr46
  case ho46 => (simp only [List.getElem?_toArray, List.getElem?_cons_succ, List.getElem?_cons_zero]; exact rfl)
  case hp46 => exact fun _ _ _ h => h
  case hy46 => (refine Or.inl ⟨by rfl, ?_⟩; intro w hSw; (try dsimp only at hSw); go_simp; (try (with_reducible rfl)))
  case hr46 =>
  (try simp only [Act.put, List.setIfInBounds_toArray, List.set_cons_zero, List.set_cons_succ])
  refine wpAnyH_take (i := 47) (oi := ?oi47) (v := ?v47) ?ho47 (by kernel_rfl) (by kernel_rfl) (by kernel_rfl) ?hp47 ?hy47 hH10 ?hr47
  case ho47 => (simp only [List.getElem?_toArray, List.getElem?_cons_succ, List.getElem?_cons_zero]; exact rfl)
  case hp47 => exact fun _ _ _ h => h
  case hy47 => (refine Or.inl ⟨by rfl, ?_⟩; intro w hSw; (try dsimp only at hSw); go_simp; (try (with_reducible rfl)))
  case hr47 =>
  (try simp only [Act.put, List.setIfInBounds_toArray, List.set_cons_zero, List.set_cons_succ])
  refine wpAnyH_ready (rs := [48]) (by kernel_rfl) (by simp) (AllReadyH.cons (o := ?oi48) ?ho48 (fun K hK => ?hr48) AllReadyH.nil)
  case ho48 => (simp only [List.getElem?_toArray, List.getElem?_cons_succ, List.getElem?_cons_zero]; exact rfl)
  case hr48 =>
  go_simp
  refine Calls.mono (unf3 _) ?_
  rintro e wn ⟨rfl, hbn⟩
  (try go_wp2_with fail)
  refine hK.out _ _ ?_ (fun hH11 => ?_)
  · exact ⟨⟨bstep hH10.1.1 hbn, HWC.out _ (bstep hH10.1.1 hbn)⟩, bstep hH10.2.1 hbn, CA12.out _ (bstep hH10.2.1 hbn)⟩
  clear hK K hH10 hbn
  (try simp only [Act.put, List.setIfInBounds_toArray, List.set_cons_zero, List.set_cons_succ])
  refine wpAnyH_take (i := 49) (oi := ?oi49) (v := ?v49) ?ho49 (by kernel_rfl) (by kernel_rfl) (by kernel_rfl) ?hp49 ?hy49 hH11 ?hr49
  case ho49 => (simp only [List.getElem?_toArray, List.getElem?_cons_succ, List.getElem?_cons_zero]; exact rfl)
  case hp49 => exact fun _ _ _ h => h
  case hy49 => (refine Or.inl ⟨by rfl, ?_⟩; intro w hSw; (try dsimp only at hSw); go_simp; (try (with_reducible rfl)))
  case hr49 =>
  (try simp only [Act.put, List.setIfInBounds_toArray, List.set_cons_zero, List.set_cons_succ])
  refine wpAnyH_take (i := 50) (oi := ?oi50) (v := ?v50) ?ho50 (by kernel_rfl) (by kernel_rfl) (by kernel_rfl) ?hp50 ?hy50 hH11 ?hr50
  case ho50 => (simp only [List.getElem?_toArray, List.getElem?_cons_succ, List.getElem?_cons_zero]; exact rfl)
  case hp50 => exact fun _ _ _ h => h
  case hy50 => (refine Or.inl ⟨by rfl, ?_⟩; intro w hSw; (try dsimp only at hSw); go_simp; (try (with_reducible rfl)))
  case hr50 =>
  (try simp only [Act.put, List.setIfInBounds_toArray, List.set_cons_zero, List.set_cons_succ])
  refine wpAnyH_take (i := 51) (oi := ?oi51) (v := ?v51) ?ho51 (by kernel_rfl) (by kernel_rfl) (by kernel_rfl) ?hp51 ?hy51 hH11 ?hr51
  case ho51 => (simp only [List.getElem?_toArray, List.getElem?_cons_succ, List.getElem?_cons_zero]; exact rfl)
  case hp51 => exact fun _ _ _ h => h
  case hy51 => (refine Or.inl ⟨by rfl, ?_⟩; intro w hSw; (try dsimp only at hSw); go_simp; (try (with_reducible rfl)))
  case hr51 =>
  (try simp only [Act.put, List.setIfInBounds_toArray, List.set_cons_zero, List.set_cons_succ])
  refine wpAnyH_done (by kernel_rfl) ?_ _
  have HLO := hide (HRA.out.below hH11.1.1).low
  go_wp2
  go_ret
  exact ⟨rfl, HLO.out⟩
end Go.Proofs.Ytajkgecegefnmaa

namespace Go.Proofs.Ytajkgecegefnmaa
open Go.ChangeShapes Go.WideShapes Go.ChangeAt Go.RowKit Go.Deep
set_option linter.unusedSimpArgs false
set_option linter.unusedVariables false
theorem eqlnil72 (w : World) : Sem.run Try.prog (binOp .eql 72 Value.nilFunc Value.nilFunc) w = .ok (.bool true) w := by kernel_rfl
theorem eqlnil73 (w : World) : Sem.run Try.prog (binOp .eql 73 Value.nilFunc Value.nilFunc) w = .ok (.bool true) w := by kernel_rfl

set_option maxRecDepth 100000 in
set_option maxHeartbeats 2000000 in
theorem raw_nil (v : Value) (w : World) : Calls Try.prog 47 #[.pointer none, v] w fun e w' => e = .returned (.int .i64 1) ∧ Below w.heap.size w w' := by
  go_enter Try.func47, Try.ntmps47
  go_wp2
  go_ret
  exact ⟨rfl, by (focus repeat' (first | (with_reducible exact Below.refl _ _) | (with_reducible assumption) | (with_reducible refine Below.alloc ?_ ?_ _) | (with_reducible refine Below.drew ?_) | (with_reducible refine bdrewN ?_ _) | (with_reducible refine Below.setCell ?_ ?_ _) | (first | (with_reducible exact Nat.le_refl _) | (with_reducible assumption) | omega | (simp; omega) | (simp; done))))⟩

set_option maxRecDepth 100000 in
set_option maxHeartbeats 2000000 in
theorem nilNum (x : Int) (w : World) (hx0 : 0 ≤ x) (hx : x ≤ 247) : Calls Try.prog 11 #[.pointer none, .int .u64 x] w fun e w' => e = .returned (.int .i64 1) ∧ Below w.heap.size w w' := by
  have HX := hide hx0
  go_enter Try.func11, Try.ntmps11
  go_wp2_with fail
  refine (raw_nil _ _).mono ?_
  rintro e w1 ⟨rfl, hb1⟩
  go_wp2
  go_ret
  exact ⟨rfl, bstep (by (focus repeat' (first | (with_reducible exact Below.refl _ _) | (with_reducible assumption) | (with_reducible refine Below.alloc ?_ ?_ _) | (with_reducible refine Below.drew ?_) | (with_reducible refine bdrewN ?_ _) | (with_reducible refine Below.setCell ?_ ?_ _) | (first | (with_reducible exact Nat.le_refl _) | (with_reducible assumption) | omega | (simp; omega) | (simp; done))))) hb1⟩

set_option maxRecDepth 100000 in
set_option maxHeartbeats 2000000 in
theorem nilSigned  (w : World) : Calls Try.prog 34 #[.pointer none, .int .i64 1] w fun e w' => e = .returned (.int .i64 1) ∧ Below w.heap.size w w' := by
  go_enter Try.func34, Try.ntmps34
  go_wp2_with fail
  refine (Fold_c 1 _ (by decide) (by decide)).mono ?_
  rintro e w1 ⟨rfl, hb1⟩
  rw [show ((fold 1 : Nat) : Int) = 2 from rfl]
  go_wp2_with fail
  refine (nilNum 2 _ (by decide) (by decide)).mono ?_
  rintro e w2 ⟨rfl, hb2⟩
  go_wp2
  go_ret
  exact ⟨rfl, bstep hb1 hb2⟩

set_option maxRecDepth 100000 in
set_option maxHeartbeats 2000000 in
theorem nilFlag  (w : World) : Calls Try.prog 35 #[.pointer none, .bool true] w fun e w' => e = .returned (.int .i64 1) ∧ Below w.heap.size w w' := by
  go_enter Try.func35, Try.ntmps35
  go_wp2_with fail
  refine (raw_nil _ _).mono ?_
  rintro e w1 ⟨rfl, hb1⟩
  go_wp2
  go_ret
  exact ⟨rfl, bstep (by (focus repeat' (first | (with_reducible exact Below.refl _ _) | (with_reducible assumption) | (with_reducible refine Below.alloc ?_ ?_ _) | (with_reducible refine Below.drew ?_) | (with_reducible refine bdrewN ?_ _) | (with_reducible refine Below.setCell ?_ ?_ _) | (first | (with_reducible exact Nat.le_refl _) | (with_reducible assumption) | omega | (simp; omega) | (simp; done))))) hb1⟩

set_option maxRecDepth 100000 in
set_option maxHeartbeats 2000000 in
theorem nilReal  (w : World) : Calls Try.prog 36 #[.pointer none, .float .f64 4607182418800017408] w fun e w' => e = .returned (.int .i64 1) ∧ Below w.heap.size w w' := by
  go_enter Try.func36, Try.ntmps36
  go_wp2_with fail
  rw [run63]
  go_wp2_with fail
  refine (highest_c (.slice none 0 0) [] 8 4607182418800017408 _ (by decide) (by decide) (by simp) (World.ownsRow_nil _ _ _ _)).mono ?_
  rintro e w1 ⟨v1, rfl, own1, gr1⟩
  have hb1 := gr1.fresh0
  go_wp2_with fail
  refine (raw_nil _ _).mono ?_
  rintro e w2 ⟨rfl, hb2⟩
  go_wp2
  go_ret
  exact ⟨rfl, bstep hb1 hb2⟩

set_option maxRecDepth 100000 in
set_option maxHeartbeats 2000000 in
theorem nilText  (w : World) : Calls Try.prog 37 #[.pointer none, .string ⟨#[]⟩] w fun e w' => e = .returned (.int .i64 1) ∧ Below w.heap.size w w' := by
  go_enter Try.func37, Try.ntmps37
  go_wp2_with fail
  refine (nilNum 0 _ (by decide) (by decide)).mono ?_
  rintro e w1 ⟨rfl, hb1⟩
  go_wp2
  go_ret
  exact ⟨rfl, bstep (by (focus repeat' (first | (with_reducible exact Below.refl _ _) | (with_reducible assumption) | (with_reducible refine Below.alloc ?_ ?_ _) | (with_reducible refine Below.drew ?_) | (with_reducible refine bdrewN ?_ _) | (with_reducible refine Below.setCell ?_ ?_ _) | (first | (with_reducible exact Nat.le_refl _) | (with_reducible assumption) | omega | (simp; omega) | (simp; done))))) hb1⟩

set_option maxRecDepth 100000 in
set_option maxHeartbeats 2000000 in
theorem nilLen  (w : World) : Calls Try.prog 28 #[.pointer none] w fun e w' => e = .returned (.int .i64 0) ∧ Below w.heap.size w w' := by
  go_enter Try.func28, Try.ntmps28
  go_wp2
  go_ret
  exact ⟨rfl, by (focus repeat' (first | (with_reducible exact Below.refl _ _) | (with_reducible assumption) | (with_reducible refine Below.alloc ?_ ?_ _) | (with_reducible refine Below.drew ?_) | (with_reducible refine bdrewN ?_ _) | (with_reducible refine Below.setCell ?_ ?_ _) | (first | (with_reducible exact Nat.le_refl _) | (with_reducible assumption) | omega | (simp; omega) | (simp; done))))⟩

set_option maxRecDepth 100000 in
set_option maxHeartbeats 2000000 in
theorem nilBytes  (w : World) : Calls Try.prog 12 #[.pointer none] w fun e w' => e = .returned (.slice none 0 0) ∧ Below w.heap.size w w' := by
  go_enter Try.func12, Try.ntmps12
  go_wp2
  go_ret
  exact ⟨rfl, by (focus repeat' (first | (with_reducible exact Below.refl _ _) | (with_reducible assumption) | (with_reducible refine Below.alloc ?_ ?_ _) | (with_reducible refine Below.drew ?_) | (with_reducible refine bdrewN ?_ _) | (with_reducible refine Below.setCell ?_ ?_ _) | (first | (with_reducible exact Nat.le_refl _) | (with_reducible assumption) | omega | (simp; omega) | (simp; done))))⟩

set_option maxRecDepth 100000 in
set_option maxHeartbeats 2000000 in
theorem nilList  (w : World) : Calls Try.prog 38 #[.pointer none, .slice none 0 0, .func (.func 39) #[] #[]] w fun e w' => e = .returned (.int .i64 1) ∧ Below w.heap.size w w' := by
  go_enter Try.func38, Try.ntmps38
  go_wp2
  go_ret
  exact ⟨rfl, by (focus repeat' (first | (with_reducible exact Below.refl _ _) | (with_reducible assumption) | (with_reducible refine Below.alloc ?_ ?_ _) | (with_reducible refine Below.drew ?_) | (with_reducible refine bdrewN ?_ _) | (with_reducible refine Below.setCell ?_ ?_ _) | (first | (with_reducible exact Nat.le_refl _) | (with_reducible assumption) | omega | (simp; omega) | (simp; done))))⟩

set_option maxRecDepth 100000 in
set_option maxHeartbeats 2000000 in
theorem listNil (g : Nat) (w : World) : Calls Try.prog 38 #[.pointer (some ⟨g, 0, none⟩), .slice none 0 0, Value.nilFunc] w fun e w' => e = .returned (.int .i64 1) ∧ Below w.heap.size w w' := by
  have Q := eqlnil72
  go_enter Try.func38, Try.ntmps38
  go_wp2
  go_ret
  exact ⟨rfl, by (focus repeat' (first | (with_reducible exact Below.refl _ _) | (with_reducible assumption) | (with_reducible refine Below.alloc ?_ ?_ _) | (with_reducible refine Below.drew ?_) | (with_reducible refine bdrewN ?_ _) | (with_reducible refine Below.setCell ?_ ?_ _) | (first | (with_reducible exact Nat.le_refl _) | (with_reducible assumption) | omega | (simp; omega) | (simp; done))))⟩

set_option maxRecDepth 100000 in
set_option maxHeartbeats 2000000 in
theorem nilRNum  (w : World) : Calls Try.prog 40 #[.pointer none] w fun e w' => e = .returned (.tuple #[.int .u64 0, .int .i64 1]) ∧ Below w.heap.size w w' := by
  go_enter Try.func40, Try.ntmps40
  go_wp2_with (go_at_call 52; go_in)
  go_ret2
  exact ⟨rfl, by (focus repeat' (first | (with_reducible exact Below.refl _ _) | (with_reducible assumption) | (with_reducible refine Below.alloc ?_ ?_ _) | (with_reducible refine Below.drew ?_) | (with_reducible refine bdrewN ?_ _) | (with_reducible refine Below.setCell ?_ ?_ _) | (first | (with_reducible exact Nat.le_refl _) | (with_reducible assumption) | omega | (simp; omega) | (simp; done))))⟩

set_option maxRecDepth 100000 in
set_option maxHeartbeats 2000000 in
theorem nilRSigned  (w : World) : Calls Try.prog 41 #[.pointer none] w fun e w' => e = .returned (.tuple #[.int .i64 0, .int .i64 1]) ∧ Below w.heap.size w w' := by
  go_enter Try.func41, Try.ntmps41
  go_wp2_with fail
  refine (nilRNum _).mono ?_
  rintro e w1 ⟨rfl, hb1⟩
  go_wp2_with fail
  refine (Unfold_c 0 _ (by decide)).mono ?_
  rw [show unf 0 = 0 from rfl]
  rintro e w2 ⟨rfl, hb2⟩
  go_wp2
  go_ret2
  exact ⟨rfl, bstep hb1 hb2⟩

set_option maxRecDepth 100000 in
set_option maxHeartbeats 2000000 in
theorem nilRFlag  (w : World) : Calls Try.prog 42 #[.pointer none] w fun e w' => e = .returned (.tuple #[.bool false, .int .i64 1]) ∧ Below w.heap.size w w' := by
  go_enter Try.func42, Try.ntmps42
  go_wp2_with (go_at_call 52; go_in)
  go_ret2
  exact ⟨rfl, by (focus repeat' (first | (with_reducible exact Below.refl _ _) | (with_reducible assumption) | (with_reducible refine Below.alloc ?_ ?_ _) | (with_reducible refine Below.drew ?_) | (with_reducible refine bdrewN ?_ _) | (with_reducible refine Below.setCell ?_ ?_ _) | (first | (with_reducible exact Nat.le_refl _) | (with_reducible assumption) | omega | (simp; omega) | (simp; done))))⟩

set_option maxRecDepth 100000 in
set_option maxHeartbeats 2000000 in
theorem nilRReal  (w : World) : Calls Try.prog 43 #[.pointer none] w fun e w' => e = .returned (.tuple #[.float .f64 0, .int .i64 1]) ∧ Below w.heap.size w w' := by
  go_enter Try.func43, Try.ntmps43
  go_wp2_with (go_at_call 52; go_in)
  rw [show (Value.int .u64 (0 : Int)) = .int .u64 ((0 : Nat) : Int) from rfl, run56]
  go_wp2
  go_ret2
  exact ⟨rfl, by (focus repeat' (first | (with_reducible exact Below.refl _ _) | (with_reducible assumption) | (with_reducible refine Below.alloc ?_ ?_ _) | (with_reducible refine Below.drew ?_) | (with_reducible refine bdrewN ?_ _) | (with_reducible refine Below.setCell ?_ ?_ _) | (first | (with_reducible exact Nat.le_refl _) | (with_reducible assumption) | omega | (simp; omega) | (simp; done))))⟩

set_option maxRecDepth 100000 in
set_option maxHeartbeats 2000000 in
theorem nilRText  (w : World) : Calls Try.prog 44 #[.pointer none, .int .i64 (-1)] w fun e w' => e = .returned (.tuple #[.string ⟨#[]⟩, .int .i64 1]) ∧ Below w.heap.size w w' := by
  go_enter Try.func44, Try.ntmps44
  go_wp2_with (go_at_call 52; go_in)
  go_ret2
  exact ⟨rfl, by (focus repeat' (first | (with_reducible exact Below.refl _ _) | (with_reducible assumption) | (with_reducible refine Below.alloc ?_ ?_ _) | (with_reducible refine Below.drew ?_) | (with_reducible refine bdrewN ?_ _) | (with_reducible refine Below.setCell ?_ ?_ _) | (first | (with_reducible exact Nat.le_refl _) | (with_reducible assumption) | omega | (simp; omega) | (simp; done))))⟩

set_option maxRecDepth 100000 in
set_option maxHeartbeats 2000000 in
theorem nilTake  (w : World) : Calls Try.prog 45 #[.pointer none, .int .i64 (-1), .func (.func 46) #[] #[]] w fun e w' => e = .returned (.tuple #[.slice none 0 0, .int .i64 1]) ∧ Below w.heap.size w w' := by
  go_enter Try.func45, Try.ntmps45
  go_wp2_with (go_at_call 52; go_in)
  go_ret2
  exact ⟨rfl, by (focus repeat' (first | (with_reducible exact Below.refl _ _) | (with_reducible assumption) | (with_reducible refine Below.alloc ?_ ?_ _) | (with_reducible refine Below.drew ?_) | (with_reducible refine bdrewN ?_ _) | (with_reducible refine Below.setCell ?_ ?_ _) | (first | (with_reducible exact Nat.le_refl _) | (with_reducible assumption) | omega | (simp; omega) | (simp; done))))⟩

set_option maxRecDepth 100000 in
set_option maxHeartbeats 2000000 in
theorem nilEnd  (w : World) : Calls Try.prog 33 #[.pointer none] w fun e w' => e = .returned (.int .i64 1) ∧ Below w.heap.size w w' := by
  go_enter Try.func33, Try.ntmps33
  go_wp2
  go_ret
  exact ⟨rfl, by (focus repeat' (first | (with_reducible exact Below.refl _ _) | (with_reducible assumption) | (with_reducible refine Below.alloc ?_ ?_ _) | (with_reducible refine Below.drew ?_) | (with_reducible refine bdrewN ?_ _) | (with_reducible refine Below.setCell ?_ ?_ _) | (first | (with_reducible exact Nat.le_refl _) | (with_reducible assumption) | omega | (simp; omega) | (simp; done))))⟩

set_option maxRecDepth 100000 in
set_option maxHeartbeats 2000000 in
theorem nilLeft  (w : World) : Calls Try.prog 31 #[.pointer none] w fun e w' => e = .returned (.int .i64 0) ∧ Below w.heap.size w w' := by
  go_enter Try.func31, Try.ntmps31
  go_wp2
  go_ret
  exact ⟨rfl, by (focus repeat' (first | (with_reducible exact Below.refl _ _) | (with_reducible assumption) | (with_reducible refine Below.alloc ?_ ?_ _) | (with_reducible refine Below.drew ?_) | (with_reducible refine bdrewN ?_ _) | (with_reducible refine Below.setCell ?_ ?_ _) | (first | (with_reducible exact Nat.le_refl _) | (with_reducible assumption) | omega | (simp; omega) | (simp; done))))⟩

set_option maxRecDepth 100000 in
set_option maxHeartbeats 2000000 in
theorem nilPlace  (w : World) : Calls Try.prog 24 #[.pointer none] w fun e w' => e = .returned (.int .i64 0) ∧ Below w.heap.size w w' := by
  go_enter Try.func24, Try.ntmps24
  go_wp2
  go_ret
  exact ⟨rfl, by (focus repeat' (first | (with_reducible exact Below.refl _ _) | (with_reducible assumption) | (with_reducible refine Below.alloc ?_ ?_ _) | (with_reducible refine Below.drew ?_) | (with_reducible refine bdrewN ?_ _) | (with_reducible refine Below.setCell ?_ ?_ _) | (first | (with_reducible exact Nat.le_refl _) | (with_reducible assumption) | omega | (simp; omega) | (simp; done))))⟩

set_option maxRecDepth 100000 in
set_option maxHeartbeats 1000000 in
theorem tkNil (Bt Bm Br Bo : Nat) (w : World) (hT : ∀ o, w.cell? ⟨Bt, o, none⟩ = (#[Value.nilFunc] : Array Value)[o]?) : Calls Try.prog 76 #[.pointer (some ⟨Bt, 0, none⟩), .pointer (some ⟨Bm, 0, none⟩), .pointer (some ⟨Br, 0, none⟩), .pointer (some ⟨Bo, 0, none⟩)] w (fun e w' => e = .returned (.int .i64 1) ∧ w' = w) := by
  have Q := eqlnil73
  go_enter Try.func76, Try.ntmps76
  go_wp2
  go_ret
  exact ⟨rfl, rfl⟩

set_option maxRecDepth 100000 in
set_option maxHeartbeats 2000000 in
theorem takeNil (g b off cap : Nat) (ns : List Nat) (w : World) (hR : RObj w g b off cap ns 0) : Calls Try.prog 45 #[.pointer (some ⟨g, 0, none⟩), .int .i64 9, Value.nilFunc] w (fun e w' => e = .returned (.tuple #[.slice none 0 0, .int .i64 1]) ∧ Only g w w') := by
  have hB0 : Below w.heap.size w (((((w.alloc (.cells #[Value.pointer (some ⟨g, 0, none⟩)] 35)).alloc (.cells #[Value.int .i64 9] 3)).alloc (.cells #[Value.nilFunc] 73)).alloc (.cells #[] 22)).alloc (.cells #[Value.slice (some ⟨w.heap.size + 3, 0, none⟩) 0 0] 57)) := by (focus repeat' (first | (with_reducible exact Below.refl _ _) | (with_reducible assumption) | (with_reducible refine Below.alloc ?_ ?_ _) | (with_reducible refine Below.drew ?_) | (with_reducible refine bdrewN ?_ _) | (with_reducible refine Below.setCell ?_ ?_ _) | (first | (with_reducible exact Nat.le_refl _) | (with_reducible assumption) | omega | (simp; omega) | (simp; done))))
  obtain ⟨r1, r2, r3, _⟩ := hR.below hB0
  have HB0 := hide hB0
  have cT : ∀ o, (((((w.alloc (.cells #[Value.pointer (some ⟨g, 0, none⟩)] 35)).alloc (.cells #[Value.int .i64 9] 3)).alloc (.cells #[Value.nilFunc] 73)).alloc (.cells #[] 22)).alloc (.cells #[Value.slice (some ⟨w.heap.size + 3, 0, none⟩) 0 0] 57)).cell? ⟨w.heap.size + 2, o, none⟩ = (#[Value.nilFunc] : Array Value)[o]? := fun o => by simp [go_sem]
  have CT := hide cT
  clear hB0 cT
  go_enter Try.func45, Try.ntmps45
  go_wp2_with (go_at_call 52; go_in)
  refine (tkNil (w.heap.size + 2) (w.heap.size + 1) (w.heap.size + 0) (w.heap.size + 4) _ CT.out).mono ?_
  rintro e w1 ⟨rfl, rfl⟩
  go_wp2
  go_ret2
  exact ⟨rfl, (Only.of_below HB0.out).set 1 _⟩
end Go.Proofs.Ytajkgecegefnmaa

namespace Go.Proofs.Ytajkgecegefnmaa
open Go.ChangeShapes Go.WideShapes Go.ChangeAt Go.RowKit Go.Deep
set_option linter.unusedSimpArgs false
set_option linter.unusedVariables false

theorem hi_num : ∀ (n : Nat) (l : List Nat), l.length = n → (∀ x ∈ l, x < 256) → hi n (num l) = l
  | 0, l, hl, _ => by rw [List.eq_nil_of_length_eq_zero hl]; rfl
  | n + 1, [], hl, _ => by cases hl
  | n + 1, b :: l, hl, hx => by
    have hb := hx b (List.mem_cons_self ..)
    have hl' : l.length = n := by simpa using hl
    have hxl : ∀ x ∈ l, x < 256 := fun x h => hx x (List.mem_cons_of_mem _ h)
    have hlt := num_lt n l hl' hxl
    have e : num (b :: l) = b * 256 ^ n + num l := by
      have gen : ∀ (m : List Nat) (a : Nat), m.foldl (fun a b => 256 * a + b) a = a * 256 ^ m.length + m.foldl (fun a b => 256 * a + b) 0 := by
        intro m
        induction m with
        | nil => intro a; simp
        | cons c m ih =>
          intro a
          rw [List.foldl_cons, ih (256 * a + c), List.foldl_cons, ih (256 * 0 + c), List.length_cons, Nat.pow_succ, Nat.add_mul, Nat.mul_zero, Nat.zero_add]
          have : 256 * a * 256 ^ m.length = a * (256 ^ m.length * 256) := by rw [Nat.mul_comm 256 a, Nat.mul_assoc, Nat.mul_comm 256]
          omega
      show (b :: l).foldl (fun a b => 256 * a + b) 0 = _
      rw [List.foldl_cons, gen l, hl', Nat.mul_zero, Nat.zero_add]; rfl
    have hp : 0 < 256 ^ n := Nat.pow_pos (by decide)
    show (num (b :: l) / 256 ^ n % 256) :: hi n (num (b :: l)) = b :: l
    rw [← hi_mod n (num (b :: l)), e]
    have e1 : (b * 256 ^ n + num l) / 256 ^ n = b := by
      rw [Nat.add_comm, Nat.add_mul_div_right _ _ hp, Nat.div_eq_of_lt hlt, Nat.zero_add]
    have e2 : (b * 256 ^ n + num l) % 256 ^ n = num l := by
      rw [Nat.add_comm, Nat.add_mul_mod_self_right, Nat.mod_eq_of_lt hlt]
    rw [e1, e2, hi_num n l hl' hxl, Nat.mod_eq_of_lt hb]
set_option maxRecDepth 100000 in
theorem form_canon {f : Nat} {l : List Nat} (hf : 247 < f) (hl : l.length = f - 247) (hx : ∀ x ∈ l, x < 256) : (form (num l) = f :: l) ↔ (form (num l)).length = 1 + (f - 247) := by
  constructor
  · intro h; rw [h, List.length_cons]; omega
  · intro h
    have hm : ¬ num l ≤ 247 := by
      intro c
      unfold form at h
      rw [if_pos c] at h
      simp at h; omega
    unfold form at h ⊢
    rw [if_neg hm] at h ⊢
    rw [List.length_cons, hi_length] at h
    have e : many (num l) = f - 247 := by omega
    rw [e, hi_num _ _ hl hx]
    congr 1; omega
/-- the document's reader at h has the bytes ns, and has read a of them -/
structure DObj (w : World) (h : Nat) (ao : Option Addr) (cap : Nat) (ns : List Nat) (a : Nat) : Prop where
  lt : h < w.heap.size
  cells : ∀ o, w.cell? ⟨h, o, none⟩ = (#[Value.slice ao ns.length cap, Value.int .i64 (a : Int)] : Array Value)[o]?
  frz : ∀ o, w.frozen? ⟨h, o, none⟩ = false
  bytes : ns ≠ [] → ∃ b off, ao = some ⟨b, off, none⟩ ∧ b < w.heap.size ∧ b ≠ h ∧ ∀ j, j < ns.length → w.cell? ⟨b, off + j, none⟩ = some (.int .u8 (ns.getD j 0 : Int))
  small : ∀ x ∈ ns, x < 256
  le : a ≤ ns.length
  len : ns.length ≤ 1152921504606846976
  cap_le : ns.length ≤ cap
theorem DObj.below {w w' : World} {h : Nat} {ao : Option Addr} {cap : Nat} {ns : List Nat} {a : Nat} (k : DObj w h ao cap ns a) (hb : Below w.heap.size w w') : DObj w' h ao cap ns a :=
  ⟨Nat.lt_of_lt_of_le k.lt hb.size, fun o => (hb.cell (p := ⟨h, o, none⟩) k.lt).trans (k.cells o), fun o => (hb.frozen (p := ⟨h, o, none⟩) k.lt).trans (k.frz o), fun hn => by
    obtain ⟨b, off, h1, h2, h3, h4⟩ := k.bytes hn
    exact ⟨b, off, h1, Nat.lt_of_lt_of_le h2 hb.size, h3, fun j hj => (hb.cell (p := ⟨b, off + j, none⟩) h2).trans (h4 j hj)⟩, k.small, k.le, k.len, k.cap_le⟩
theorem DObj.move {w : World} {h : Nat} {ao : Option Addr} {cap : Nat} {ns : List Nat} {a a' : Nat} (k : DObj w h ao cap ns a) (hle : a' ≤ ns.length) : DObj (w.setCell ⟨h, 1, none⟩ (.int .i64 (a' : Int))) h ao cap ns a' := by
  refine ⟨by simpa using k.lt, ?_, fun o => by simp only [World.frozen?_setCell]; exact k.frz o, fun hn => ?_, k.small, hle, k.len, k.cap_le⟩
  · intro o
    rcases o with _ | _ | o
    · simp [go_sem, k.cells]
    · simp [go_sem, k.cells]
    · simp [go_sem, k.cells]
  · obtain ⟨b, off, h1, h2, h3, h4⟩ := k.bytes hn
    exact ⟨b, off, h1, by simpa using h2, h3, fun j hj => (World.cell?_of_block (Below.heap_setCell _ _ _ _ h3)).trans (h4 j hj)⟩

set_option maxRecDepth 100000 in
set_option maxHeartbeats 1000000 in
theorem dLeft_c (h cap : Nat) (ao : Option Addr) (ns : List Nat) (a : Nat) (w : World) (hD : DObj w h ao cap ns a) : Calls Try.prog 25 #[.pointer (some ⟨h, 0, none⟩)] w fun e w' => e = .returned (.int .i64 ((ns.length : Int) - (a : Int))) ∧ Below w.heap.size w w' := by
  obtain ⟨d1, d2, d3, _, _, d6, d7, _⟩ := hD
  go_enter Try.func25, Try.ntmps25
  go_wp2
  go_quiet (fail)
  go_wp2
  go_ret
  exact ⟨rfl, by (focus repeat' (first | (with_reducible exact Below.refl _ _) | (with_reducible assumption) | (with_reducible refine Below.alloc ?_ ?_ _) | (with_reducible refine Below.drew ?_) | (with_reducible refine bdrewN ?_ _) | (with_reducible refine Below.setCell ?_ ?_ _) | (first | (with_reducible exact Nat.le_refl _) | (with_reducible assumption) | omega | (simp; omega) | (simp; done))))⟩

set_option maxRecDepth 100000 in
set_option maxHeartbeats 1000000 in
theorem dNum_end (h cap : Nat) (ao : Option Addr) (ns : List Nat) (a : Nat) (w : World) (hD : DObj w h ao cap ns a) (hn : ns.length ≤ a) : Calls Try.prog 22 #[.pointer (some ⟨h, 0, none⟩)] w (fun e w' => e = .returned (.tuple #[.int .u64 (((0, 110, a) : Nat × Nat × Nat).1 : Int), .int .i64 (((0, 110, a) : Nat × Nat × Nat).2.1 : Int)]) ∧ Only h w w' ∧ DObj w' h ao cap ns ((0, 110, a) : Nat × Nat × Nat).2.2) := by
  have hx : (ns.length : Int) - (a : Int) < 1 := by omega
  have hD' := hide hD
  obtain ⟨d1, d2, d3, d4, d5, d6, d7, d8⟩ := hD
  have D4 := hide d4
  have D5 := hide d5
  clear d4 d5
  go_enter Try.func22, Try.ntmps22
  go_wp2_with fail
  refine (dLeft_c h cap _ ns a _ hD'.out).mono ?_
  rintro e w1 ⟨rfl, hb1⟩
  have HD1 := hide (hD'.out.below hb1)
  have HB1 := hide hb1
  clear hb1
  go_wp2
  go_ret2
  exact ⟨rfl, Only.of_below HB1.out, HD1.out⟩

set_option maxRecDepth 100000 in
set_option maxHeartbeats 2000000 in
theorem dNum_short (h cap : Nat) (ao : Option Addr) (ns : List Nat) (a : Nat) (w : World) (hD : DObj w h ao cap ns a) (hn : a < ns.length) (hs : ns.getD a 0 ≤ 247) : Calls Try.prog 22 #[.pointer (some ⟨h, 0, none⟩)] w (fun e w' => e = .returned (.tuple #[.int .u64 (((ns.getD a 0, 0, a + 1) : Nat × Nat × Nat).1 : Int), .int .i64 (((ns.getD a 0, 0, a + 1) : Nat × Nat × Nat).2.1 : Int)]) ∧ Only h w w' ∧ DObj w' h ao cap ns ((ns.getD a 0, 0, a + 1) : Nat × Nat × Nat).2.2) := by
  have hD' := hide hD
  obtain ⟨d1, d2, d3, d4, d5, d6, d7, d8⟩ := hD
  have D4 := hide d4
  have D5 := hide d5
  clear d4 d5
  obtain ⟨b, off, hao, hb, hbh, hbc⟩ := D4.out (by rintro rfl; simp at hn)
  subst hao
  have HBC := hide hbc
  have hx : ¬ ((ns.length : Int) - (a : Int) < 1) := by omega
  have hf256 := getD_lt D5.out a
  have fa : w.cell? ⟨b, off + a, none⟩ = some (.int .u8 (ns.getD a 0 : Int)) := hbc a hn
  clear hbc
  generalize hfe : ns.getD a 0 = f at *
  have HFE := hide hfe
  clear hfe
  have hs' : (f : Int) ≤ 247 := by omega
  go_enter Try.func22, Try.ntmps22
  go_wp2_with fail
  refine (dLeft_c h cap _ ns a _ hD'.out).mono ?_
  rintro e w1 ⟨rfl, hb1⟩
  have HD1 := hide (hD'.out.below hb1)
  have HB1 := hide hb1
  clear hb1
  obtain ⟨e1, e2, e3, _, _, _, _, _⟩ := HD1.out
  have fa1 : w1.cell? ⟨b, off + a, none⟩ = some (.int .u8 (f : Int)) := (HB1.out.cell (p := ⟨b, off + a, none⟩) hb).trans fa
  clear d2 d3 fa
  go_wp2
  go_quiet (fail)
  go_wp2
  go_ret2
  refine ⟨rfl, ?_, ?_⟩
  · exact (Only.of_below (HB1.out.trans (bdrewN (Below.refl _ _) _ |>.mono HB1.out.size))).set 1 _
  · have q := (HD1.out.below (bdrewN (Below.refl w1.heap.size w1) nq)).move (a' := a + 1) (by omega)
    exact q
end Go.Proofs.Ytajkgecegefnmaa

