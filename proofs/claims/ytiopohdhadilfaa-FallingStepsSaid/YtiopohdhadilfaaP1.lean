/- PLAIN LAW: the falling price, in whole numbers. No program in sight. -/
namespace Go.Proofs.Ytiopohdhadilfaa
set_option linter.unusedVariables false
/-- the price at a tick from Opens on -/
def priceI (op st fl fa t : Int) : Int := if 0 < fa ∧ (st - fl) / fa < t - op then fl else st - fa * (t - op)
theorem below_end {d fa s : Int} (h0 : 0 < fa) (h2 : 0 ≤ s) (h : s < (d + fa - 1) / fa) : 0 ≤ fa * s ∧ fa * s ≤ d - 1 ∧ ¬ d / fa < s := by
  have a := Int.mul_ediv_self_le (x := d + fa - 1) (k := fa) (by omega)
  have b := Int.mul_le_mul_of_nonneg_left (a := s + 1) (b := (d + fa - 1) / fa) (c := fa) (by omega) (by omega)
  rw [Int.mul_add] at b
  have c : 0 ≤ fa * s := Int.mul_nonneg (by omega) h2
  have e : s ≤ d / fa := by rw [Int.le_ediv_iff_mul_le h0, Int.mul_comm]; omega
  omega
theorem above_end {d fa s : Int} (h0 : 0 < fa) (h : (d + fa - 1) / fa ≤ s) : d / fa < s ∨ fa * s = d := by
  by_cases c : d / fa < s
  · exact .inl c
  · right
    have a := Int.mul_ediv_self_le (x := d) (k := fa) (by omega)
    have b := Int.mul_le_mul_of_nonneg_left (a := s) (b := d / fa) (c := fa) (by omega) (by omega)
    have e := Int.lt_mul_ediv_self_add (x := d + fa - 1) (k := fa) h0
    have f := Int.mul_le_mul_of_nonneg_left (a := (d + fa - 1) / fa) (b := s) (c := fa) h (by omega)
    omega
theorem price_below {op st fl fa t : Int} (h0 : 0 < fa) (h2 : op ≤ t) (h : t < op + (st - fl + fa - 1) / fa) : st - fa * (t - op) = priceI op st fl fa t := by
  obtain ⟨_, _, c⟩ := below_end (d := st - fl) (fa := fa) (s := t - op) h0 (by omega) (by omega)
  unfold priceI
  rw [if_neg (fun x => c x.2)]
theorem price_above {op st fl fa t : Int} (h0 : 0 < fa) (h : op + (st - fl + fa - 1) / fa ≤ t) : fl = priceI op st fl fa t := by
  unfold priceI
  rcases above_end (d := st - fl) (fa := fa) (s := t - op) h0 (by omega) with c | c
  · rw [if_pos ⟨h0, c⟩]
  · split <;> omega
theorem price_flat {op st fl fa t : Int} (h0 : fa = 0) : st = priceI op st fl fa t := by
  subst h0; unfold priceI; simp
theorem mul_small {d fa s : Int} (h0 : 0 < fa) (h1 : 0 ≤ d) (h2 : 0 ≤ s) (h : ¬ d / fa < s) : 0 ≤ fa * s ∧ fa * s ≤ d := by
  have a := Int.mul_ediv_self_le (x := d) (k := fa) (by omega)
  have b := Int.mul_le_mul_of_nonneg_left (a := s) (b := d / fa) (c := fa) (by omega) (by omega)
  have c : 0 ≤ fa * s := Int.mul_nonneg (by omega) h2
  omega
/-- between Floor and Start -/
theorem price_between {op st fl fa t : Int} (hf : 0 ≤ fa) (hs : fl ≤ st) (ht : op ≤ t) : fl ≤ priceI op st fl fa t ∧ priceI op st fl fa t ≤ st := by
  unfold priceI
  split
  · omega
  · rename_i h
    by_cases h0 : 0 < fa
    · have := mul_small (d := st - fl) (s := t - op) h0 (by omega) (by omega) (fun x => h ⟨h0, x⟩)
      omega
    · have : fa = 0 := by omega
      subst this; simp; omega
/-- it never rises -/
theorem price_falls {op st fl fa t u : Int} (hf : 0 ≤ fa) (hs : fl ≤ st) (ht : op ≤ t) (hu : t ≤ u) : priceI op st fl fa u ≤ priceI op st fl fa t := by
  have b := price_between (op := op) (st := st) (fl := fl) (fa := fa) (t := t) hf hs ht
  by_cases c : 0 < fa ∧ (st - fl) / fa < u - op
  · have : priceI op st fl fa u = fl := by unfold priceI; rw [if_pos c]
    omega
  · have e : priceI op st fl fa u = st - fa * (u - op) := by unfold priceI; rw [if_neg c]
    have c' : ¬ (0 < fa ∧ (st - fl) / fa < t - op) := fun x => c ⟨x.1, by omega⟩
    have e' : priceI op st fl fa t = st - fa * (t - op) := by unfold priceI; rw [if_neg c']
    have m := Int.mul_le_mul_of_nonneg_left (a := t - op) (b := u - op) (c := fa) (by omega) hf
    omega
/-- the first tick at which the price is at most some coins: none is 'none' -/
def firstI (op cl st fl fa c : Int) : Option Int :=
  if st ≤ c then some op else if c < fl ∨ fa = 0 then none
  else if cl ≤ op + (st - c + fa - 1) / fa then none else some (op + (st - c + fa - 1) / fa)
/-- what makes a tick the first one -/
def IsFirst (op cl st fl fa c t : Int) : Prop := op ≤ t ∧ t < cl ∧ priceI op st fl fa t ≤ c ∧ (t = op ∨ c < priceI op st fl fa (t - 1))
theorem isFirst_unique {op cl st fl fa c t u : Int} (hf : 0 ≤ fa) (hs : fl ≤ st) (ht : IsFirst op cl st fl fa c t) (hu : IsFirst op cl st fl fa c u) : t = u := by
  obtain ⟨a1, a2, a3, a4⟩ := ht
  obtain ⟨c1, c2, c3, c4⟩ := hu
  rcases Int.lt_trichotomy t u with h | h | h
  · rcases c4 with c4 | c4
    · omega
    · have := price_falls (op := op) (st := st) (fl := fl) (fa := fa) (t := t) (u := u - 1) hf hs a1 (by omega)
      omega
  · exact h
  · rcases a4 with a4 | a4
    · omega
    · have := price_falls (op := op) (st := st) (fl := fl) (fa := fa) (t := u) (u := t - 1) hf hs c1 (by omega)
      omega
theorem price_op {op st fl fa : Int} (hf : 0 ≤ fa) (hs : fl ≤ st) : priceI op st fl fa op = st := by
  unfold priceI
  rw [if_neg]
  · simp
  · rintro ⟨h0, h⟩
    have : 0 ≤ (st - fl) / fa := Int.ediv_nonneg (by omega) (by omega)
    omega
/-- where coins lie from Floor up to below Start, and the price falls: the tick of 'First' is the first one -/
theorem first_mid {op st fl fa c : Int} (h0 : 0 < fa) (h1 : fl ≤ c) (h2 : c < st) :
    op < op + (st - c + fa - 1) / fa ∧ priceI op st fl fa (op + (st - c + fa - 1) / fa) ≤ c ∧ c < priceI op st fl fa (op + (st - c + fa - 1) / fa - 1) := by
  generalize hq : (st - c + fa - 1) / fa = q
  have a := Int.mul_ediv_self_le (x := st - c + fa - 1) (k := fa) (by omega)
  have e := Int.lt_mul_ediv_self_add (x := st - c + fa - 1) (k := fa) h0
  rw [hq] at a e
  have q1 : 1 ≤ q := by rw [← hq, Int.le_ediv_iff_mul_le h0]; omega
  refine ⟨by omega, ?_, ?_⟩
  · unfold priceI
    rw [show op + q - op = q by omega]
    split
    · exact h1
    · omega
  · unfold priceI
    rw [show op + q - 1 - op = q - 1 by omega, Int.mul_sub]
    rw [if_neg]
    · omega
    · rintro ⟨_, h⟩
      have : q - 1 ≤ (st - fl) / fa := by rw [Int.le_ediv_iff_mul_le h0, Int.sub_mul, Int.mul_comm]; omega
      omega
/-- 'First' tells the first tick -/
theorem first_some {op cl st fl fa c t : Int} (hf : 0 ≤ fa) (hs : fl ≤ st) (hc : op < cl) (h : firstI op cl st fl fa c = some t) : IsFirst op cl st fl fa c t := by
  unfold firstI at h
  split at h
  · rename_i a
    cases h
    exact ⟨by omega, hc, by rw [price_op hf hs]; exact a, .inl rfl⟩
  · rename_i a
    split at h
    · cases h
    · rename_i b
      split at h
      · cases h
      · rename_i d
        cases h
        obtain ⟨p, q, r⟩ := first_mid (op := op) (st := st) (fl := fl) (fa := fa) (c := c) (by omega) (by omega) (by omega)
        exact ⟨by omega, by omega, q, .inr r⟩
/-- and none where there is none -/
theorem first_none {op cl st fl fa c t : Int} (hf : 0 ≤ fa) (hs : fl ≤ st) (h : firstI op cl st fl fa c = none) (h1 : op ≤ t) (h2 : t < cl) : c < priceI op st fl fa t := by
  unfold firstI at h
  split at h
  · cases h
  · rename_i a
    split at h
    · rename_i b
      have := price_between (op := op) (st := st) (fl := fl) (fa := fa) (t := t) hf hs h1
      rcases b with b | b
      · omega
      · have := price_flat (op := op) (st := st) (fl := fl) (t := t) b
        omega
    · rename_i b
      split at h
      · rename_i d
        obtain ⟨p, q, r⟩ := first_mid (op := op) (st := st) (fl := fl) (fa := fa) (c := c) (by omega) (by omega) (by omega)
        have := price_falls (op := op) (st := st) (fl := fl) (fa := fa) (t := t) (u := op + (st - c + fa - 1) / fa - 1) hf hs h1 (by omega)
        omega
      · cases h
theorem first_of {op cl st fl fa c t : Int} (hf : 0 ≤ fa) (hs : fl ≤ st) (hc : op < cl) (h : IsFirst op cl st fl fa c t) : firstI op cl st fl fa c = some t := by
  cases e : firstI op cl st fl fa c with
  | none =>
    have := first_none hf hs e h.1 h.2.1
    have := h.2.2.1
    omega
  | some u => rw [isFirst_unique hf hs (first_some hf hs hc e) h]
end Go.Proofs.Ytiopohdhadilfaa
