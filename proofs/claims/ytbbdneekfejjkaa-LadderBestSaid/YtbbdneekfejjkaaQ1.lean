/- PLAIN LAW: the bids of LadderBest, in whole numbers and lists. No program in sight. -/
namespace Go.Proofs.Ytbbdneekfejjkaa
set_option linter.unusedVariables false
set_option linter.unusedSimpArgs false
/-- the greatest of o and a list -/
def mx (o : Int) : List Int → Int
  | [] => o
  | x :: xs => mx (max o x) xs
theorem mx_app (o x : Int) (xs : List Int) : mx o (xs ++ [x]) = max (mx o xs) x := by
  induction xs generalizing o with
  | nil => rfl
  | cons y ys ih => exact ih (max o y)
theorem mx_ge (o : Int) (xs : List Int) : o ≤ mx o xs := by
  induction xs generalizing o with
  | nil => exact Int.le_refl _
  | cons y ys ih => have := ih (max o y); show o ≤ mx (max o y) ys; omega
theorem mx_mem (o : Int) (xs : List Int) (x : Int) (h : x ∈ xs) : x ≤ mx o xs := by
  induction xs generalizing o with
  | nil => cases h
  | cons y ys ih =>
    show x ≤ mx (max o y) ys
    rcases List.mem_cons.1 h with rfl | h
    · have := mx_ge (max o x) ys; omega
    · exact ih _ h
theorem mx_le (o m : Int) (xs : List Int) (ho : o ≤ m) (h : ∀ x ∈ xs, x ≤ m) : mx o xs ≤ m := by
  induction xs generalizing o with
  | nil => exact ho
  | cons y ys ih =>
    have := h y (List.mem_cons_self ..)
    exact ih (max o y) (by omega) (fun x hx => h x (List.mem_cons_of_mem _ hx))
/-- what the second loop reckons: the greatest of all but one of the greatest -/
def l2 (m : Int) (T : List Int) : Nat → Int × Bool
  | 0 => (-1, false)
  | n + 1 => if T.getD n 0 = m ∧ (l2 m T n).2 = false then ((l2 m T n).1, true) else (max (l2 m T n).1 (T.getD n 0), (l2 m T n).2)
theorem take_next (T : List Int) (n : Nat) (h : n < T.length) : T.take (n + 1) = T.take n ++ [T.getD n 0] := by
  rw [List.take_add_one]; simp [List.getD, h]
theorem l2_eq (m : Int) (T : List Int) : ∀ n, n ≤ T.length → l2 m T n = (mx (-1) ((T.take n).erase m), decide (m ∈ T.take n)) := by
  intro n
  induction n with
  | zero => intro _; simp [l2, mx]
  | succ n ih =>
    intro hn
    have ih := ih (by omega)
    rw [take_next T n (by omega)]
    unfold l2
    rw [ih]
    generalize T.getD n 0 = x
    generalize T.take n = U
    by_cases hm : m ∈ U
    · rw [List.erase_append_left _ hm, mx_app]
      simp [hm]
    · rw [List.erase_append_right _ hm, List.erase_of_not_mem hm]
      by_cases hx : x = m
      · subst hx; simp [hm]
      · have hx' : ¬ m = x := fun h => hx h.symm
        have : ([x] : List Int).erase m = [x] := by rw [List.erase_of_not_mem]; simpa using hx'
        rw [this, mx_app]
        simp [hm, hx, hx']
theorem l2_all (m : Int) (T : List Int) (hm : m ∈ T) : l2 m T T.length = (mx (-1) (T.erase m), true) := by
  rw [l2_eq m T _ (Nat.le_refl _), List.take_length]; simp [hm]
theorem l2_ge (m : Int) (T : List Int) (n : Nat) : -1 ≤ (l2 m T n).1 := by
  induction n with
  | zero => exact Int.le_refl _
  | succ n ih => unfold l2; split <;> simp only <;> omega
/-- what holds behind the first n bids: T are the limits taken, b the best -/
def Inv (st sp : Int) (zs : List Int) (n : Nat) (T : List Int) (b ld li pr : Int) : Prop :=
  (T = [] ∧ b = -1 ∧ ld = -1 ∧ li = 0 ∧ pr = 0) ∨
  ∃ i : Nat, i < n ∧ b = (i : Int) ∧ ld = (i : Int) ∧ zs.getD i 0 = li ∧ li ∈ T ∧ (∀ x ∈ T, 0 ≤ x ∧ x ≤ li) ∧ st ≤ pr ∧ pr ≤ li ∧ 0 ≤ li ∧ li ≤ 1099511627776 ∧ T.length ≤ n ∧
    (mx (-1) (T.erase li) < 0 → pr = st) ∧ (0 ≤ mx (-1) (T.erase li) → mx (-1) (T.erase li) ≤ pr ∧ pr ≤ mx (-1) (T.erase li) + sp)
theorem Inv.skip {st sp : Int} {zs : List Int} {n : Nat} {T : List Int} {b ld li pr : Int} (h : Inv st sp zs n T b ld li pr) : Inv st sp zs (n + 1) T b ld li pr := by
  rcases h with h | ⟨i, h1, h2, h3, h4, h5, h6, h7, h8, h9, h10, h11, h12⟩
  · exact .inl h
  · exact .inr ⟨i, by omega, h2, h3, h4, h5, h6, h7, h8, h9, h10, by omega, h12⟩
theorem Inv.first {st sp : Int} {zs : List Int} {n : Nat} {x : Int} (hx : zs.getD n 0 = x) (h0 : 0 ≤ x) (h1 : x ≤ 1099511627776) (h2 : st ≤ x) : Inv st sp zs (n + 1) [x] n n x st := by
  refine .inr ⟨n, by omega, rfl, rfl, hx, by simp, ?_, Int.le_refl _, h2, h0, h1, by simp, ?_⟩
  · intro y hy; obtain rfl := List.mem_singleton.1 hy; exact ⟨h0, Int.le_refl _⟩
  · have : ([x] : List Int).erase x = [] := by simp
    rw [this]
    simp [mx]
theorem Inv.over {st sp : Int} {zs : List Int} {n : Nat} {T : List Int} {b ld li pr x : Int} (h : Inv st sp zs n T b ld li pr) (hb : 0 ≤ b) (hs : 0 ≤ sp) (hx : zs.getD n 0 = x) (h1 : x ≤ 1099511627776) (h2 : li < x) :
    Inv st sp zs (n + 1) (T ++ [x]) n n x (min (li + sp) x) := by
  rcases h with h | ⟨i, g1, g2, g3, g4, g5, g6, g7, g8, g9, g10, g11, g12, g13⟩
  · omega
  · have hn : x ∉ T := fun q => by have := (g6 x q).2; omega
    have he : (T ++ [x]).erase x = T := by rw [List.erase_append_right _ hn]; simp
    have hm : mx (-1) T = li := by
      have a := mx_le (-1) li T (by omega) (fun y hy => (g6 y hy).2)
      have b := mx_mem (-1) T li g5
      omega
    refine .inr ⟨n, by omega, rfl, rfl, hx, by simp, ?_, by omega, by omega, by omega, h1, by simp; omega, ?_⟩
    · intro y hy
      rcases List.mem_append.1 hy with hy | hy
      · have := g6 y hy; omega
      · obtain rfl := List.mem_singleton.1 hy; omega
    · rw [he, hm]; omega
theorem Inv.under {st sp : Int} {zs : List Int} {n : Nat} {T : List Int} {b ld li pr x : Int} (h : Inv st sp zs n T b ld li pr) (hb : 0 ≤ b) (hs : 1 ≤ sp) (h0 : 0 ≤ st) (h1 : pr + sp ≤ x) (h2 : x ≤ li) :
    Inv st sp zs (n + 1) (T ++ [x]) b ld li (min (x + sp) li) := by
  rcases h with h | ⟨i, g1, g2, g3, g4, g5, g6, g7, g8, g9, g10, g11, g12, g13⟩
  · omega
  · have he : (T ++ [x]).erase li = T.erase li ++ [x] := List.erase_append_left _ g5
    have hm : mx (-1) (T.erase li) ≤ pr := by
      by_cases q : mx (-1) (T.erase li) < 0
      · omega
      · exact (g13 (by omega)).1
    refine .inr ⟨i, by omega, g2, g3, g4, by simp [g5], ?_, by omega, by omega, g9, g10, by simp; omega, ?_⟩
    · intro y hy
      rcases List.mem_append.1 hy with hy | hy
      · exact g6 y hy
      · obtain rfl := List.mem_singleton.1 hy; omega
    · rw [he, mx_app]; omega
theorem Inv.none {st sp : Int} {zs : List Int} {n : Nat} {T : List Int} {b ld li pr : Int} (h : Inv st sp zs n T b ld li pr) (hb : b < 0) : T = [] ∧ b = -1 ∧ ld = -1 ∧ li = 0 ∧ pr = 0 := by
  rcases h with h | ⟨i, g1, g2, _⟩
  · exact h
  · omega
/-- the law's last questions -/
theorem Inv.last {st sp : Int} {zs : List Int} {n : Nat} {T : List Int} {b ld li pr : Int} (h : Inv st sp zs n T b ld li pr) (hb : 0 ≤ b) :
    ∃ i : Nat, i < n ∧ b = (i : Int) ∧ ld = (i : Int) ∧ zs.getD i 0 = li ∧ T.length ≤ n ∧ st ≤ pr ∧ pr ≤ li ∧ (∀ x ∈ T, 0 ≤ x ∧ x ≤ li) ∧ 0 ≤ li ∧ li ≤ 1099511627776 ∧ (l2 li T T.length).2 = true ∧ -1 ≤ (l2 li T T.length).1 ∧ (l2 li T T.length).1 ≤ li ∧
      ((l2 li T T.length).1 < 0 → pr = st) ∧ (0 ≤ (l2 li T T.length).1 → (l2 li T T.length).1 ≤ pr ∧ pr ≤ (l2 li T T.length).1 + sp) := by
  rcases h with h | ⟨i, g1, g2, g3, g4, g5, g6, g7, g8, g9, g10, g11, g12, g13⟩
  · omega
  · have a := mx_ge (-1) (T.erase li)
    have c := mx_le (-1) li (T.erase li) (by omega) (fun x hx => (g6 x (List.mem_of_mem_erase hx)).2)
    rw [l2_all li T g5]
    exact ⟨i, g1, g2, g3, g4, g11, g7, g8, g6, g9, g10, rfl, a, c, g12, g13⟩
end Go.Proofs.Ytbbdneekfejjkaa
