import Derived.Test.YtehpjipmlpaflaaP2
namespace Go.Proofs.Ytehpjipmlpaflaa.un
set_option linter.unusedSimpArgs false
set_option linter.unusedVariables false

/-- where a unit is put: behind all that are not behind it -/
def atOf (xs : List U) (c : Int) : Nat → Nat
  | 0 => 0
  | n + 1 => if (get xs n).2.2 < c then atOf xs c n else n + 1
def ins (xs : List U) (u : U) : List U := xs.take (atOf xs u.2.2 xs.length) ++ u :: xs.drop (atOf xs u.2.2 xs.length)
def ordK (L : List (List Int)) (i : Nat) (acc : List U) : Nat → List U
  | 0 => acc
  | k + 1 => ins (ordK L i acc k) (unitAt L i k)
def ordB (L : List (List Int)) : Nat → List U
  | 0 => []
  | i + 1 => ordK L i (ordB L i) (bidAt L i).length
theorem atOf_le (xs : List U) (c : Int) : ∀ n, atOf xs c n ≤ n
  | 0 => Nat.le_refl _
  | n + 1 => by
    rw [atOf]
    split
    · have := atOf_le xs c n; omega
    · exact Nat.le_refl _
theorem atOf_low (xs : List U) (c : Int) : ∀ n j, atOf xs c n ≤ j → j < n → (get xs j).2.2 < c
  | 0, j, _, h => by omega
  | n + 1, j, h1, h2 => by
    rw [atOf] at h1
    split at h1
    · rename_i q
      rcases Nat.lt_or_ge j n with h3 | h3
      · exact atOf_low xs c n j h1 h3
      · obtain rfl : j = n := by omega
        exact q
    · omega
theorem atOf_high (xs : List U) (c : Int) : ∀ n, 0 < atOf xs c n → ¬ (get xs (atOf xs c n - 1)).2.2 < c
  | 0, h => by rw [atOf] at h; omega
  | n + 1, h => by
    rw [atOf] at h ⊢
    split at h
    · rename_i q
      rw [if_pos q]
      exact atOf_high xs c n h
    · rename_i q
      rw [if_neg q, Nat.add_sub_cancel]
      exact q
theorem ins_len (xs : List U) (u : U) : (ins xs u).length = xs.length + 1 := by
  have := atOf_le xs u.2.2 xs.length
  simp [ins]
  omega
theorem mem_ins (xs : List U) (u v : U) : v ∈ ins xs u ↔ v ∈ xs ∨ v = u := by
  unfold ins
  rw [List.mem_append, List.mem_cons]
  constructor
  · rintro (h | rfl | h)
    · exact .inl (List.mem_of_mem_take h)
    · exact .inr rfl
    · exact .inl (List.mem_of_mem_drop h)
  · rintro (h | rfl)
    · rw [← List.take_append_drop (atOf xs u.2.2 xs.length) xs, List.mem_append] at h
      rcases h with h | h
      · exact .inl h
      · exact .inr (.inr h)
    · exact .inr (.inl rfl)
theorem coins_down {xs : List U} (h : xs.Pairwise lt) {i j : Nat} (hij : i ≤ j) (hj : j < xs.length) : (get xs j).2.2 ≤ (get xs i).2.2 := by
  rcases Nat.lt_or_ge i j with q | q
  · have h1 := List.pairwise_iff_getElem.1 h i j (by omega) hj q
    have e1 : get xs i = xs[i] := by unfold get; rw [List.getElem?_eq_getElem (by omega)]; rfl
    have e2 : get xs j = xs[j] := by unfold get; rw [List.getElem?_eq_getElem hj]; rfl
    rw [e1, e2]
    unfold lt at h1
    omega
  · obtain rfl : i = j := by omega
    exact Int.le_refl _
theorem ins_sorted {xs : List U} {u : U} (h : xs.Pairwise lt) (hb : ∀ v, v ∈ xs → v.1 < u.1 ∨ (v.1 = u.1 ∧ v.2.1 < u.2.1)) : (ins xs u).Pairwise lt := by
  have hle := atOf_le xs u.2.2 xs.length
  have hdrop : ∀ v, v ∈ xs.drop (atOf xs u.2.2 xs.length) → lt u v := fun v hv => by
    obtain ⟨j, hj, rfl⟩ := List.mem_iff_getElem.1 hv
    rw [List.length_drop] at hj
    have h1 := atOf_low xs u.2.2 xs.length (atOf xs u.2.2 xs.length + j) (by omega) (by omega)
    have e1 : get xs (atOf xs u.2.2 xs.length + j) = (xs.drop (atOf xs u.2.2 xs.length))[j]'(by rw [List.length_drop]; exact hj) := by
      unfold get; rw [List.getElem?_eq_getElem (by omega), List.getElem_drop]; rfl
    rw [e1] at h1
    exact .inl h1
  have htake : ∀ v, v ∈ xs.take (atOf xs u.2.2 xs.length) → lt v u := fun v hv => by
    have hm := List.mem_of_mem_take hv
    obtain ⟨j, hj, rfl⟩ := List.mem_iff_getElem.1 hv
    rw [List.length_take] at hj
    have h1 := atOf_high xs u.2.2 xs.length (by omega)
    have h2 := coins_down h (show j ≤ atOf xs u.2.2 xs.length - 1 by omega) (by omega)
    have e1 : get xs j = (xs.take (atOf xs u.2.2 xs.length))[j]'(by rw [List.length_take]; exact hj) := by
      unfold get; rw [List.getElem?_eq_getElem (by omega), List.getElem_take]; rfl
    rw [e1] at h2
    have h3 := hb _ hm
    unfold lt
    omega
  have hs := h
  rw [← List.take_append_drop (atOf xs u.2.2 xs.length) xs, List.pairwise_append] at hs
  unfold ins
  rw [List.pairwise_append, List.pairwise_cons]
  refine ⟨hs.1, ⟨hdrop, hs.2.1⟩, fun a ha b hb2 => ?_⟩
  rcases List.mem_cons.1 hb2 with rfl | hb2
  · exact htake a ha
  · exact hs.2.2 a ha b hb2
theorem ordK_upto (L : List (List Int)) (i : Nat) (hi : i < L.length) (acc : List U) (hs : acc.Pairwise lt) (hm : ∀ v, v ∈ acc ↔ ∃ b q, b < i ∧ q < (bidAt L b).length ∧ v = unitAt L b q) :
    ∀ k, k ≤ (bidAt L i).length → (ordK L i acc k).Pairwise lt ∧ ∀ v, v ∈ ordK L i acc k ↔ ∃ b q, (b < i ∨ (b = i ∧ q < k)) ∧ q < (bidAt L b).length ∧ v = unitAt L b q
  | 0, _ => ⟨hs, fun v => by
      show v ∈ acc ↔ _
      rw [hm v]
      constructor
      · rintro ⟨b, q, h1, h2, h3⟩; exact ⟨b, q, .inl h1, h2, h3⟩
      · rintro ⟨b, q, h1 | ⟨_, h1⟩, h2, h3⟩
        · exact ⟨b, q, h1, h2, h3⟩
        · omega⟩
  | k + 1, hk => by
    obtain ⟨h1, h2⟩ := ordK_upto L i hi acc hs hm k (by omega)
    rw [ordK]
    refine ⟨ins_sorted h1 (fun v hv => ?_), fun v => ?_⟩
    · obtain ⟨b, q, h3, h4, rfl⟩ := (h2 v).1 hv
      simp only [unitAt]
      omega
    · rw [mem_ins, h2 v]
      constructor
      · rintro (⟨b, q, h3, h4, h5⟩ | rfl)
        · exact ⟨b, q, by omega, h4, h5⟩
        · exact ⟨i, k, .inr ⟨rfl, by omega⟩, by omega, rfl⟩
      · rintro ⟨b, q, h3, h4, h5⟩
        rcases h3 with h3 | ⟨rfl, h3⟩
        · exact .inl ⟨b, q, .inl h3, h4, h5⟩
        · rcases Nat.lt_or_ge q k with h6 | h6
          · exact .inl ⟨b, q, .inr ⟨rfl, h6⟩, h4, h5⟩
          · obtain rfl : q = k := by omega
            exact .inr h5
theorem ordB_upto (L : List (List Int)) : ∀ i, i ≤ L.length → (ordB L i).Pairwise lt ∧ ∀ v, v ∈ ordB L i ↔ ∃ b q, b < i ∧ q < (bidAt L b).length ∧ v = unitAt L b q
  | 0, _ => ⟨List.Pairwise.nil, fun v => ⟨fun h => (by cases h), fun ⟨b, q, h, _⟩ => by omega⟩⟩
  | i + 1, hi => by
    obtain ⟨h1, h2⟩ := ordB_upto L i (by omega)
    obtain ⟨h3, h4⟩ := ordK_upto L i (by omega) (ordB L i) h1 h2 (bidAt L i).length (Nat.le_refl _)
    refine ⟨h3, fun v => ?_⟩
    show v ∈ ordK L i (ordB L i) (bidAt L i).length ↔ _
    rw [h4 v]
    constructor
    · rintro ⟨b, q, h5 | ⟨rfl, h5⟩, h6, h7⟩
      · exact ⟨b, q, by omega, h6, h7⟩
      · exact ⟨b, q, by omega, h6, h7⟩
    · rintro ⟨b, q, h5, h6, h7⟩
      rcases Nat.lt_or_ge b i with h8 | h8
      · exact ⟨b, q, .inl h8, h6, h7⟩
      · obtain rfl : b = i := by omega
        exact ⟨b, q, .inr ⟨rfl, h6⟩, h6, h7⟩
/-- all units, in their order -/
def ordT (L : List (List Int)) : List U := ordB L L.length
theorem ordT_rest (L : List (List Int)) : Rest L (fun _ => 0) (ordT L) := by
  obtain ⟨h1, h2⟩ := ordB_upto L L.length (Nat.le_refl _)
  refine ⟨h1, fun v => ?_⟩
  show v ∈ ordB L L.length ↔ _
  rw [h2 v]
  constructor
  · rintro ⟨b, q, h3, h4, h5⟩; exact ⟨b, q, h3, Nat.zero_le _, h4, h5⟩
  · rintro ⟨b, q, h3, _, h4, h5⟩; exact ⟨b, q, h3, h4, h5⟩
/-- how many units there are -/
def sumL (L : List (List Int)) : Nat → Nat
  | 0 => 0
  | i + 1 => sumL L i + (bidAt L i).length
theorem ordK_len (L : List (List Int)) (i : Nat) (acc : List U) : ∀ k, (ordK L i acc k).length = acc.length + k
  | 0 => rfl
  | k + 1 => by rw [ordK, ins_len, ordK_len L i acc k]; omega
theorem ordB_len (L : List (List Int)) : ∀ i, (ordB L i).length = sumL L i
  | 0 => rfl
  | i + 1 => by rw [ordB, ordK_len, ordB_len L i]; rfl
/-- one turn of the shift: out[n + 1] = out[n] -/
theorem shift_step (xs : List U) (x : U) (n : Nat) (hn : n < xs.length) : (xs.take (n + 1) ++ x :: xs.drop (n + 1)).set (n + 1) (get (xs.take (n + 1) ++ x :: xs.drop (n + 1)) n) = xs.take n ++ (get xs n) :: xs.drop n := by
  have e0 : get (xs.take (n + 1) ++ x :: xs.drop (n + 1)) n = get xs n := by
    unfold get
    rw [List.getElem?_append_left (by rw [List.length_take]; omega), List.getElem?_take, if_pos (by omega)]
  have hl : (xs.take (n + 1)).length = n + 1 := by rw [List.length_take]; omega
  rw [e0, List.set_append_right _ _ (by omega), hl, Nat.sub_self, List.set_cons_zero]
  have e1 : xs.drop n = get xs n :: xs.drop (n + 1) := by
    rw [List.drop_eq_getElem_cons hn]; unfold get; rw [List.getElem?_eq_getElem hn]; rfl
  have e2 : xs.take (n + 1) = xs.take n ++ [get xs n] := by
    rw [List.take_add_one, List.getElem?_eq_getElem hn]; unfold get; rw [List.getElem?_eq_getElem hn]; rfl
  rw [e1, e2]
  simp
theorem shift_end (xs : List U) (x u : U) (n : Nat) (hn : n ≤ xs.length) : (xs.take n ++ x :: xs.drop n).set n u = xs.take n ++ u :: xs.drop n := by
  have hl : (xs.take n).length = n := by rw [List.length_take]; omega
  rw [List.set_append_right _ _ (by omega), hl, Nat.sub_self, List.set_cons_zero]
end Go.Proofs.Ytehpjipmlpaflaa.un
