namespace Go.Proofs.Ytehpjipmlpaflaa.un
set_option linter.unusedVariables false
set_option linter.unusedSimpArgs false

/-- a unit: bid, place, coins -/
abbrev U := Int × Int × Int
/-- it comes ahead -/
def lt (a b : U) : Prop := b.2.2 < a.2.2 ∨ (a.2.2 = b.2.2 ∧ (a.1 < b.1 ∨ (a.1 = b.1 ∧ a.2.1 < b.2.1)))
instance ltDec (a b : U) : Decidable (lt a b) := by unfold lt; infer_instance
def le (a b : U) : Prop := ¬ lt b a
theorem lt_irrefl (a : U) : ¬ lt a a := by unfold lt; omega
theorem le_refl (a : U) : le a a := lt_irrefl a
theorem lt_le {a b : U} (h : lt a b) : le a b := by unfold le; unfold lt at *; omega
theorem le_trans {a b c : U} (h : le a b) (k : le b c) : le a c := by unfold le at *; unfold lt at *; omega
theorem lt_of_lt_of_le {a b c : U} (h : lt a b) (k : le b c) : lt a c := by unfold le at *; unfold lt at *; omega
theorem lt_of_le_of_lt {a b c : U} (h : le a b) (k : lt b c) : lt a c := by unfold le at *; unfold lt at *; omega
theorem le_antisymm {a b : U} (h : le a b) (k : le b a) : a = b := by
  obtain ⟨a1, a2, a3⟩ := a
  obtain ⟨b1, b2, b3⟩ := b
  unfold le at *; unfold lt at *
  simp at h k ⊢
  omega
theorem not_lt {a b : U} (h : ¬ lt a b) : le b a := h
def get (xs : List U) (k : Nat) : U := xs[k]?.getD (0, 0, 0)
theorem get_set (xs : List U) (i k : Nat) (v : U) (hi : i < xs.length) : get (xs.set i v) k = if k = i then v else get xs k := by
  unfold get
  rw [List.getElem?_set]
  by_cases h : i = k
  · subst h; simp [hi]
  · rw [if_neg h, if_neg (fun e => h e.symm)]
def swapL (xs : List U) (i j : Nat) : List U := (xs.set i (get xs j)).set j (get xs i)
theorem swap_len (xs : List U) (i j : Nat) : (swapL xs i j).length = xs.length := by simp [swapL]
theorem get_swap (xs : List U) (i j k : Nat) (hi : i < xs.length) (hj : j < xs.length) : get (swapL xs i j) k = if k = j then get xs i else if k = i then get xs j else get xs k := by
  unfold swapL
  rw [get_set _ _ _ _ (by simpa using hj), get_set _ _ _ _ hi]
theorem get_lt (xs : List U) (k : Nat) (h : k < xs.length) : xs[k]? = some (get xs k) := by
  unfold get
  rw [List.getElem?_eq_getElem h]
  rfl
theorem get_mem (xs : List U) (k : Nat) (h : k < xs.length) : get xs k ∈ xs := List.mem_of_getElem? (get_lt xs k h)
theorem mem_get (xs : List U) (v : U) (h : v ∈ xs) : ∃ k, k < xs.length ∧ get xs k = v := by
  obtain ⟨k, hk, e⟩ := List.mem_iff_getElem.1 h
  exact ⟨k, hk, by unfold get; rw [List.getElem?_eq_getElem hk, e]; rfl⟩
/-- two lists of as many things, each at another place -/
theorem swap_perm (xs : List U) (i j : Nat) (hi : i < xs.length) (hj : j < xs.length) : (swapL xs i j).Perm xs := by
  unfold swapL get
  rw [List.getElem?_eq_getElem hi, List.getElem?_eq_getElem hj]
  exact List.set_set_perm hi hj
def par (k : Nat) : Nat := (k - 1) / 2
theorem par_lt {k : Nat} (h : 0 < k) : par k < k := by unfold par; omega
/-- the first n are a heap -/
def Heap (xs : List U) (n : Nat) : Prop := ∀ k, 0 < k → k < n → le (get xs (par k)) (get xs k)
theorem root_min {xs : List U} {n : Nat} (h : Heap xs n) : ∀ k, k < n → le (get xs 0) (get xs k) := by
  intro k
  induction k using Nat.strongRecOn with
  | _ k ih =>
    intro hk
    rcases Nat.eq_zero_or_pos k with rfl | hp
    · exact le_refl _
    · exact le_trans (ih _ (par_lt hp) (by have := par_lt hp; omega)) (h k hp hk)
/-- a heap but at j, whose thing may be too little -/
structure UpInv (xs : List U) (j : Nat) : Prop where
  lt : j < xs.length
  other : ∀ k, 0 < k → k < xs.length → k ≠ j → le (get xs (par k)) (get xs k)
  kids : ∀ k, 0 < k → k < xs.length → par k = j → 0 < j → le (get xs (par j)) (get xs k)
theorem up_done {xs : List U} {j : Nat} (h : UpInv xs j) (hd : j = 0 ∨ ¬ lt (get xs j) (get xs (par j))) : Heap xs xs.length := by
  intro k hk hl
  by_cases e : k = j
  · subst e
    rcases hd with hd | hd
    · omega
    · exact hd
  · exact h.other k hk hl e
theorem up_step {xs : List U} {j : Nat} (h : UpInv xs j) (hj : 0 < j) (hlt : un.lt (get xs j) (get xs (par j))) : UpInv (swapL xs (par j) j) (par j) := by
  have hp := par_lt hj
  have hpl : par j < xs.length := Nat.lt_trans hp h.lt
  refine ⟨by rw [swap_len]; exact hpl, fun k hk hl hne => ?_, fun k hk hl hpk hpj => ?_⟩
  · rw [swap_len] at hl
    rw [get_swap _ _ _ _ hpl h.lt, get_swap _ _ _ _ hpl h.lt]
    by_cases e : k = j
    · subst e
      rw [if_neg (by omega), if_pos rfl, if_pos rfl]
      exact lt_le hlt
    · rw [if_neg e, if_neg hne]
      by_cases e2 : par k = j
      · rw [if_pos e2]
        exact h.kids k hk hl e2 hj
      · rw [if_neg e2]
        by_cases e3 : par k = par j
        · rw [if_pos e3]
          exact le_trans (lt_le hlt) (by rw [← e3]; exact h.other k hk hl e)
        · rw [if_neg e3]
          exact h.other k hk hl e
  · rw [swap_len] at hl
    have h2 : par (par j) < par j := par_lt hpj
    rw [get_swap _ _ _ _ hpl h.lt, get_swap _ _ _ _ hpl h.lt, if_neg (by omega), if_neg (by omega)]
    have hg := h.other (par j) hpj hpl (by omega)
    by_cases e : k = j
    · rw [if_pos e]; exact hg
    · rw [if_neg e, if_neg (fun q => by subst q; have := par_lt hk; omega)]
      exact le_trans hg (by rw [← hpk]; exact h.other k hk hl e)
/-- a heap of the first n but at i, whose thing may be too great -/
structure DownInv (xs : List U) (i n : Nat) : Prop where
  len : n ≤ xs.length
  lt : i < n
  other : ∀ k, 0 < k → k < n → par k ≠ i → le (get xs (par k)) (get xs k)
  kids : ∀ k, 0 < k → k < n → par k = i → 0 < i → le (get xs (par i)) (get xs k)
theorem par_is {k i : Nat} (h : 0 < k) (e : par k = i) : k = 2 * i + 1 ∨ k = 2 * i + 2 := by unfold par at e; omega
theorem par_left (i : Nat) : par (2 * i + 1) = i := by unfold par; omega
theorem par_right (i : Nat) : par (2 * i + 2) = i := by unfold par; omega
theorem down_done {xs : List U} {i n : Nat} (h : DownInv xs i n) (hd : ∀ k, 0 < k → k < n → par k = i → le (get xs i) (get xs k)) : Heap xs n := by
  intro k hk hl
  by_cases e : par k = i
  · rw [e]; exact hd k hk hl e
  · exact h.other k hk hl e
theorem down_step {xs : List U} {i n j : Nat} (h : DownInv xs i n) (hj0 : 0 < j) (hjn : j < n) (hp : par j = i) (hmin : ∀ k, 0 < k → k < n → par k = i → le (get xs j) (get xs k)) (hlt : un.lt (get xs j) (get xs i)) : DownInv (swapL xs i j) j n := by
  have hij : i < j := by have := par_lt hj0; omega
  have hil : i < xs.length := Nat.lt_of_lt_of_le h.lt h.len
  have hjl : j < xs.length := Nat.lt_of_lt_of_le hjn h.len
  refine ⟨by rw [swap_len]; exact h.len, hjn, fun k hk hl hne => ?_, fun k hk hl hpk _ => ?_⟩
  · rw [get_swap _ _ _ _ hil hjl, get_swap _ _ _ _ hil hjl, if_neg hne]
    by_cases e : par k = i
    · rw [if_pos e]
      by_cases e2 : k = j
      · rw [if_pos e2]; exact lt_le hlt
      · rw [if_neg e2, if_neg (fun q => by subst q; have := par_lt hk; omega)]
        exact hmin k hk hl e
    · rw [if_neg e]
      have hkj : k ≠ j := fun q => e (by rw [q]; exact hp)
      rw [if_neg hkj]
      by_cases e3 : k = i
      · rw [if_pos e3]
        subst e3
        exact h.kids j hj0 hjn hp hk
      · rw [if_neg e3]
        exact h.other k hk hl e
  · rw [get_swap _ _ _ _ hil hjl, get_swap _ _ _ _ hil hjl, hp, if_neg (by omega), if_pos rfl]
    have hjk : j < k := by have := par_lt hk; omega
    rw [if_neg (by omega), if_neg (by omega), ← hpk]
    exact h.other k hk hl (by omega)
end Go.Proofs.Ytehpjipmlpaflaa.un
