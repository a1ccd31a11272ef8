/- PLAIN LAW: the forms of numbers, as bytes. No program in sight. -/
namespace Go.Proofs.Ytajkgecegefnmaa
set_option linter.unusedSimpArgs false
set_option linter.unusedVariables false

/-- how many bytes a number has, at least one -/
def many (x : Nat) : Nat := if h : x < 256 then 1 else 1 + many (x / 256)
termination_by x
decreasing_by exact Nat.div_lt_self (by omega) (by decide)
/-- likewise, of 0 none -/
def many0 (x : Nat) : Nat := if x = 0 then 0 else many x
theorem many_step (x : Nat) : many x = 1 + many0 (x / 256) := by
  rw [many]
  unfold many0
  by_cases h : x < 256
  · rw [dif_pos h, if_pos (by omega)]
  · rw [dif_neg h, if_neg (by omega)]
theorem many0_pos {x : Nat} (h : 0 < x) : many0 x = many x := by unfold many0; rw [if_neg (by omega)]
theorem many0_zero : many0 0 = 0 := rfl
theorem many_le (k : Nat) : ∀ x, x < 256 ^ (k + 1) → many x ≤ k + 1 := by
  induction k with
  | zero => intro x h; rw [many, dif_pos (by simpa using h)]; omega
  | succ k ih =>
    intro x h
    rw [many]
    by_cases c : x < 256
    · rw [dif_pos c]; omega
    · rw [dif_neg c]
      have := ih (x / 256) (by rw [Nat.div_lt_iff_lt_mul (by decide)]; rw [Nat.pow_succ] at h; exact h)
      omega
theorem many_pos (x : Nat) : 1 ≤ many x := by rw [many_step]; omega
theorem many_u64 {x : Nat} (h : x < 18446744073709551616) : many x ≤ 8 := many_le 7 x (by simpa using h)
/-- the lowest n bytes, the highest first -/
def hi : Nat → Nat → List Nat
  | 0, _ => []
  | n + 1, x => (x / 256 ^ n % 256) :: hi n x
theorem hi_length (n x : Nat) : (hi n x).length = n := by
  induction n with
  | zero => rfl
  | succ n ih => simp [hi, ih]
/-- a number's form -/
def form (x : Nat) : List Nat := if x ≤ 247 then [x] else (247 + many x) :: hi (many x) x
end Go.Proofs.Ytajkgecegefnmaa
