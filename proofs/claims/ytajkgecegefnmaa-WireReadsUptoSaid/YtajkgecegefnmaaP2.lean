import Derived.Test.YtajkgecegefnmaaTx
namespace Go.Proofs.Ytajkgecegefnmaa
open Go.ChangeShapes Go.WideShapes Go.ChangeAt Go.RowKit Go.Deep
set_option linter.unusedSimpArgs false
set_option linter.unusedVariables false
/-- bytes as the program has them -/
def u8s (ns : List Nat) : List UInt8 := ns.map UInt8.ofNat
theorem bstr_list (ns : List Nat) : (bstr ns).toList = u8s ns := by
  unfold bstr strOfNums u8s
  rw [ByteArray.toList_eq]
  simp
/-- the lesser text -/
def lessN : List Nat → List Nat → Bool
  | _, [] => false
  | [], _ :: _ => true
  | a :: x, b :: y => decide (a < b) || (decide (a = b) && lessN x y)
theorem less_u8 : ∀ (x y : List Nat), (∀ a ∈ x, a < 256) → (∀ a ∈ y, a < 256) → Op.bytesLess (u8s x) (u8s y) = lessN x y
  | x, [], _, _ => by cases x <;> rfl
  | [], b :: y, _, _ => rfl
  | a :: x, b :: y, hx, hy => by
    have ha := hx a (List.mem_cons_self ..)
    have hb := hy b (List.mem_cons_self ..)
    have ih := less_u8 x y (fun c hc => hx c (List.mem_cons_of_mem _ hc)) (fun c hc => hy c (List.mem_cons_of_mem _ hc))
    have e1 : (decide (UInt8.ofNat a < UInt8.ofNat b)) = decide (a < b) := by
      rw [decide_eq_decide, UInt8.lt_iff_toNat_lt, UInt8.toNat_ofNat_of_lt' (by simpa using ha), UInt8.toNat_ofNat_of_lt' (by simpa using hb)]
    have e2 : (UInt8.ofNat a == UInt8.ofNat b) = decide (a = b) := by
      rw [show (UInt8.ofNat a == UInt8.ofNat b) = decide (UInt8.ofNat a = UInt8.ofNat b) from rfl, decide_eq_decide, ← UInt8.toNat_inj, UInt8.toNat_ofNat_of_lt' (by simpa using ha), UInt8.toNat_ofNat_of_lt' (by simpa using hb)]
    show (decide (UInt8.ofNat a < UInt8.ofNat b) || ((UInt8.ofNat a == UInt8.ofNat b) && Op.bytesLess (u8s x) (u8s y))) = _
    rw [e1, e2, ih]; rfl
theorem u8s_inj : ∀ (x y : List Nat), (∀ a ∈ x, a < 256) → (∀ a ∈ y, a < 256) → u8s x = u8s y → x = y
  | [], [], _, _, _ => rfl
  | [], b :: y, _, _, h => by cases h
  | a :: x, [], _, _, h => by cases h
  | a :: x, b :: y, hx, hy, h => by
    have ha := hx a (List.mem_cons_self ..)
    have hb := hy b (List.mem_cons_self ..)
    have h' : UInt8.ofNat a :: u8s x = UInt8.ofNat b :: u8s y := h
    injection h' with h1 h2
    have e : a = b := by
      have q := congrArg UInt8.toNat h1
      rwa [UInt8.toNat_ofNat_of_lt' (by simpa using ha), UInt8.toNat_ofNat_of_lt' (by simpa using hb)] at q
    rw [e, u8s_inj x y (fun c hc => hx c (List.mem_cons_of_mem _ hc)) (fun c hc => hy c (List.mem_cons_of_mem _ hc)) h2]
theorem hi_mod (m x : Nat) : hi m (x % 256 ^ m) = hi m x := by
  have gen : ∀ k m, k ≤ m → hi k (x % 256 ^ m) = hi k x := by
    intro k
    induction k with
    | zero => intro m _; rfl
    | succ k ih =>
      intro m hm
      show (x % 256 ^ m / 256 ^ k % 256) :: hi k (x % 256 ^ m) = (x / 256 ^ k % 256) :: hi k x
      rw [ih m (by omega)]
      congr 1
      obtain ⟨d, rfl⟩ : ∃ d, m = k + (d + 1) := ⟨m - k - 1, by omega⟩
      rw [Nat.pow_add, Nat.mod_mul_right_div_self, Nat.pow_succ, Nat.mul_comm, Nat.mod_mul_right_mod]
  exact gen m m (Nat.le_refl _)
theorem less_hi : ∀ (m x y : Nat), x < 256 ^ m → y < 256 ^ m → lessN (hi m x) (hi m y) = decide (x < y)
  | 0, x, y, hx, hy => by
    simp at hx hy; subst hx; subst hy; rfl
  | m + 1, x, y, hx, hy => by
    have hp : 0 < 256 ^ m := Nat.pow_pos (by decide)
    rw [Nat.pow_succ] at hx hy
    have hxd : x / 256 ^ m < 256 := Nat.div_lt_of_lt_mul hx
    have hyd : y / 256 ^ m < 256 := Nat.div_lt_of_lt_mul hy
    show (decide (x / 256 ^ m % 256 < y / 256 ^ m % 256) || (decide (x / 256 ^ m % 256 = y / 256 ^ m % 256) && lessN (hi m x) (hi m y))) = _
    rw [Nat.mod_eq_of_lt hxd, Nat.mod_eq_of_lt hyd, ← hi_mod m x, ← hi_mod m y, less_hi m _ _ (Nat.mod_lt _ hp) (Nat.mod_lt _ hp)]
    have ex := Nat.div_add_mod x (256 ^ m)
    have ey := Nat.div_add_mod y (256 ^ m)
    have mx := Nat.mod_lt x hp
    have my := Nat.mod_lt y hp
    generalize x / 256 ^ m = a at *
    generalize y / 256 ^ m = b at *
    generalize x % 256 ^ m = c at *
    generalize y % 256 ^ m = d at *
    generalize 256 ^ m = p at *
    rcases Nat.lt_trichotomy a b with h | h | h
    · have q : p * a + p ≤ p * b := by rw [← Nat.mul_succ]; exact Nat.mul_le_mul_left _ h
      simp [h]; omega
    · subst h; simp; omega
    · have q : p * b + p ≤ p * a := by rw [← Nat.mul_succ]; exact Nat.mul_le_mul_left _ h
      have h1 : ¬ a < b := by omega
      have h2 : ¬ a = b := by omega
      simp [h1, h2]; omega
theorem many_lt (x : Nat) : x < 256 ^ many x := by
  induction x using Nat.strongRecOn with
  | ind x ih =>
    rw [many]
    split
    · simpa using by assumption
    · have q := ih (x / 256) (by omega)
      rw [Nat.add_comm, Nat.pow_succ]
      exact (Nat.div_lt_iff_lt_mul (by decide)).1 q
theorem many_ge (x : Nat) (h : 0 < x) : 256 ^ (many x - 1) ≤ x := by
  induction x using Nat.strongRecOn with
  | ind x ih =>
    rw [many]
    split
    · simpa using Nat.succ_le_of_lt h
    · have q := ih (x / 256) (by omega) (by omega)
      have p := many_pos (x / 256)
      obtain ⟨k, hk⟩ : ∃ k, many (x / 256) = k + 1 := ⟨many (x / 256) - 1, by omega⟩
      rw [hk] at q ⊢
      have e : 1 + (k + 1) - 1 = k + 1 := by omega
      rw [e, Nat.pow_succ]
      have q2 : 256 ^ k ≤ x / 256 := q
      exact (Nat.le_div_iff_mul_le (by decide)).1 q2
theorem hi_lt (m x : Nat) : ∀ b ∈ hi m x, b < 256 := by
  induction m with
  | zero => intro b hb; cases hb
  | succ m ih =>
    intro b hb
    rcases List.mem_cons.1 hb with rfl | h
    · exact Nat.mod_lt _ (by decide)
    · exact ih b h
theorem form_lt {x : Nat} (hx : x < 18446744073709551616) : ∀ b ∈ form x, b < 256 := by
  have hm := many_u64 hx
  intro b hb
  unfold form at hb
  split at hb
  · simp at hb; omega
  · rcases List.mem_cons.1 hb with rfl | h
    · omega
    · exact hi_lt _ _ b h
theorem lessN_irrefl : ∀ l : List Nat, lessN l l = false
  | [] => rfl
  | a :: l => by show (decide (a < a) || (decide (a = a) && lessN l l)) = false; rw [lessN_irrefl l]; simp
theorem less_form {x y : Nat} (hx : x < 18446744073709551616) (hy : y < 18446744073709551616) : lessN (form x) (form y) = decide (x < y) := by
  have hmx := many_pos x
  have hmy := many_pos y
  unfold form
  by_cases h1 : x ≤ 247 <;> by_cases h2 : y ≤ 247
  · rw [if_pos h1, if_pos h2]; simp [lessN]
  · rw [if_pos h1, if_neg h2]
    show (decide (x < 247 + many y) || _) = _
    have q : x < 247 + many y := by omega
    have q2 : x < y := by omega
    simp [q, q2]
  · rw [if_neg h1, if_pos h2]
    show (decide (247 + many x < y) || (decide (247 + many x = y) && _)) = _
    have q : ¬ 247 + many x < y := by omega
    have q1 : ¬ 247 + many x = y := by omega
    have q2 : ¬ x < y := by omega
    simp [q, q1, q2]
  · rw [if_neg h1, if_neg h2]
    show (decide (247 + many x < 247 + many y) || (decide (247 + many x = 247 + many y) && lessN (hi (many x) x) (hi (many y) y))) = _
    rcases Nat.lt_trichotomy (many x) (many y) with h | h | h
    · have q : 247 + many x < 247 + many y := by omega
      have a := many_lt x
      have b := many_ge y (by omega)
      have c : 256 ^ many x ≤ 256 ^ (many y - 1) := Nat.pow_le_pow_right (by decide) (by omega)
      have d : x < y := by omega
      simp [q, d]
    · have a := many_lt x
      have b := many_lt y
      rw [← h] at b ⊢
      rw [less_hi _ _ _ a b]; simp
    · have q : ¬ 247 + many x < 247 + many y := by omega
      have q1 : ¬ 247 + many x = 247 + many y := by omega
      have a := many_lt y
      have b := many_ge x (by omega)
      have c : 256 ^ many y ≤ 256 ^ (many x - 1) := Nat.pow_le_pow_right (by decide) (by omega)
      have d : ¬ x < y := by omega
      rw [decide_eq_false q, decide_eq_false q1, decide_eq_false d]; rfl
theorem form_inj {x y : Nat} (hx : x < 18446744073709551616) (hy : y < 18446744073709551616) (h : form x = form y) : x = y := by
  have a := less_form hx hy
  have b := less_form hy hx
  rw [h, lessN_irrefl] at a
  rw [h, lessN_irrefl] at b
  have a' := of_decide_eq_false a.symm
  have b' := of_decide_eq_false b.symm
  omega
theorem form_head {x y : Nat} (hx : x < 18446744073709551616) (hy : y < 18446744073709551616) (h : (form x).take 1 = (form y).take 1) : (form x).length = (form y).length := by
  have hmx := many_pos x
  have hmy := many_pos y
  revert h
  unfold form
  by_cases h1 : x ≤ 247 <;> by_cases h2 : y ≤ 247
  · rw [if_pos h1, if_pos h2]; intro _; rfl
  · rw [if_pos h1, if_neg h2]; intro h; simp at h; omega
  · rw [if_neg h1, if_pos h2]; intro h; simp at h; omega
  · rw [if_neg h1, if_neg h2]; intro h; simp at h; simp [hi_length]; omega
theorem form_prefix {x y n : Nat} (hx : x < 18446744073709551616) (hy : y < 18446744073709551616) (hn : n = min (form x).length (form y).length) : (form x).take n = (form y).take n ↔ x = y := by
  constructor
  · intro h
    have h1 := form_pos x
    have h2 := form_pos y
    have q : (form x).take 1 = (form y).take 1 := by
      have := congrArg (List.take 1) h
      rwa [List.take_take, List.take_take, Nat.min_eq_left (by omega)] at this
    have l := form_head hx hy q
    rw [List.take_of_length_le (by omega), List.take_of_length_le (by omega)] at h
    exact form_inj hx hy h
  · rintro rfl; rfl
end Go.Proofs.Ytajkgecegefnmaa
