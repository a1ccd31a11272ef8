import Derived.Test.YtehpjipmlpaflaaUo
namespace Go.Proofs.Ytehpjipmlpaflaa.un
open Go.ChangeShapes Go.WideShapes Go.ChangeAt Go.RowKit Go.Deep Go.Shelf
set_option linter.unusedSimpArgs false
set_option linter.unusedVariables false

attribute [local go_sem] Oper.semAt_some

theorem lt_asymm {a b : U} (h : lt a b) (k : lt b a) : False := by unfold lt at *; omega
theorem sorted_eq : ∀ {l1 l2 : List U}, l1.Pairwise lt → l2.Pairwise lt → (∀ v, v ∈ l1 ↔ v ∈ l2) → l1 = l2
  | [], [], _, _, _ => rfl
  | [], y :: l2, _, _, h => by have := (h y).2 List.mem_cons_self; cases this
  | x :: l1, [], _, _, h => by have := (h x).1 List.mem_cons_self; cases this
  | x :: l1, y :: l2, h1, h2, h => by
    have p1 := List.pairwise_cons.1 h1
    have p2 := List.pairwise_cons.1 h2
    have e : x = y := by
      rcases List.mem_cons.1 ((h x).1 List.mem_cons_self) with e | hx
      · exact e
      · rcases List.mem_cons.1 ((h y).2 List.mem_cons_self) with e | hy
        · exact e.symm
        · exact (lt_asymm (p1.1 y hy) (p2.1 x hx)).elim
    subst e
    refine congrArg _ (sorted_eq p1.2 p2.2 (fun v => ?_))
    constructor
    · intro hv
      rcases List.mem_cons.1 ((h v).1 (List.mem_cons_of_mem _ hv)) with e | hv2
      · subst e; exact (lt_irrefl _ (p1.1 v hv)).elim
      · exact hv2
    · intro hv
      rcases List.mem_cons.1 ((h v).2 (List.mem_cons_of_mem _ hv)) with e | hv2
      · subst e; exact (lt_irrefl _ (p2.1 v hv)).elim
      · exact hv2
theorem ordT_sorted (L : List (List Int)) : (ordT L).Pairwise lt := (ordT_rest L).sorted
theorem ordT_mem (L : List (List Int)) (v : U) : v ∈ ordT L ↔ ∃ b q, b < L.length ∧ q < (bidAt L b).length ∧ v = unitAt L b q := by
  rw [(ordT_rest L).are v]
  constructor
  · rintro ⟨b, q, h1, _, h2, h3⟩; exact ⟨b, q, h1, h2, h3⟩
  · rintro ⟨b, q, h1, h2, h3⟩; exact ⟨b, q, h1, Nat.zero_le _, h2, h3⟩
/-- a bid of one unit: where it stands among the others -/
theorem split_one (L : List (List Int)) (b : Nat) (hb : b < L.length) (h1 : (bidAt L b).length = 1) : ∃ O1 O2, ordT L = O1 ++ unitAt L b 0 :: O2 ∧ (∀ v, v ∈ O1 ++ O2 → v.1 ≠ (b : Int)) ∧ (O1 ++ O2).Pairwise lt ∧ ∀ v, v ∈ O1 ++ O2 ↔ ∃ c q, c < L.length ∧ c ≠ b ∧ q < (bidAt L c).length ∧ v = unitAt L c q := by
  have hm : unitAt L b 0 ∈ ordT L := (ordT_mem L _).2 ⟨b, 0, hb, by omega, rfl⟩
  obtain ⟨O1, O2, e⟩ := List.append_of_mem hm
  have hs := ordT_sorted L
  rw [e, List.pairwise_append, List.pairwise_cons] at hs
  obtain ⟨s1, ⟨s2, s3⟩, s4⟩ := hs
  have hne : ∀ v, v ∈ O1 ++ O2 → v ≠ unitAt L b 0 := fun v hv q => by
    rcases List.mem_append.1 hv with h | h
    · have := s4 v h _ List.mem_cons_self
      rw [q] at this
      exact lt_irrefl _ this
    · have := s2 v h
      rw [q] at this
      exact lt_irrefl _ this
  have hsub : ∀ v, v ∈ O1 ++ O2 → v ∈ ordT L := fun v hv => by
    rw [e]
    rcases List.mem_append.1 hv with h | h
    · exact List.mem_append.2 (.inl h)
    · exact List.mem_append.2 (.inr (List.mem_cons_of_mem _ h))
  have hnb : ∀ v, v ∈ O1 ++ O2 → v.1 ≠ (b : Int) := fun v hv q => by
    obtain ⟨c, k, hc, hk, rfl⟩ := (ordT_mem L v).1 (hsub v hv)
    have ec : c = b := by simp [unitAt] at q; omega
    subst ec
    have : k = 0 := by omega
    subst this
    exact hne _ hv rfl
  refine ⟨O1, O2, e, hnb, ?_, fun v => ?_⟩
  · rw [List.pairwise_append]
    exact ⟨s1, s3, fun a ha c hc => s4 a ha c (List.mem_cons_of_mem _ hc)⟩
  · constructor
    · intro hv
      obtain ⟨c, k, hc, hk, rfl⟩ := (ordT_mem L v).1 (hsub v hv)
      exact ⟨c, k, hc, fun q => hnb _ hv (by subst q; rfl), hk, rfl⟩
    · rintro ⟨c, k, hc, hcb, hk, rfl⟩
      have hm2 := (ordT_mem L _).2 ⟨c, k, hc, hk, rfl⟩
      rw [e] at hm2
      rcases List.mem_append.1 hm2 with h | h
      · exact List.mem_append.2 (.inl h)
      · rcases List.mem_cons.1 h with h | h
        · exact absurd (unit_inj h).1 hcb
        · exact List.mem_append.2 (.inr h)
theorem get_app {O1 O2 : List U} {u : U} {k : Nat} (h : O1.length < k) (_hk : k < (O1 ++ u :: O2).length) : get (O1 ++ u :: O2) k = get (O1 ++ O2) (k - 1) := by
  unfold get
  rw [List.getElem?_append_right (by omega), List.getElem?_append_right (by omega)]
  rw [show k - O1.length = (k - 1 - O1.length) + 1 by omega, List.getElem?_cons_succ]
theorem cnt_none {l : List U} {b : Nat} (h : ∀ v, v ∈ l → v.1 ≠ (b : Int)) : cnt l b = 0 := by
  unfold cnt
  rw [List.countP_eq_zero]
  intro v hv
  simpa using h v hv
/-- does it win? -/
theorem cnt_split {O1 O2 : List U} {u : U} {b c : Nat} (h : ∀ v, v ∈ O1 ++ O2 → v.1 ≠ (b : Int)) (hu : u.1 = (b : Int)) : cnt ((O1 ++ u :: O2).take c) b = if O1.length < c then 1 else 0 := by
  have h1 : ∀ v, v ∈ O1 → v.1 ≠ (b : Int) := fun v hv => h v (List.mem_append.2 (.inl hv))
  have h2 : ∀ v, v ∈ O2 → v.1 ≠ (b : Int) := fun v hv => h v (List.mem_append.2 (.inr hv))
  rw [List.take_append]
  split
  · rename_i hl
    rw [show c - O1.length = (c - O1.length - 1) + 1 by omega, List.take_succ_cons]
    have e : cnt (O1.take c ++ u :: O2.take (c - O1.length - 1)) b = cnt (O1.take c) b + (1 + cnt (O2.take (c - O1.length - 1)) b) := by
      unfold cnt
      rw [List.countP_append, List.countP_cons, if_pos (by simp [hu])]
      omega
    rw [e, cnt_none (fun v hv => h1 v (List.mem_of_mem_take hv)), cnt_none (fun v hv => h2 v (List.mem_of_mem_take hv))]
  · rename_i hl
    rw [show c - O1.length = 0 by omega, List.take_zero, List.append_nil]
    exact cnt_none (fun v hv => h1 v (List.mem_of_mem_take hv))
theorem at0_wonI (n : Nat) (pre : List U) (b : Nat) (hb : b < n) : at0 (wonI n pre) b = (cnt pre b : Int) := by simp [at0, wonI, hb]
theorem gain_zero (p : Int) (xs : List Int) : gainI p 0 xs = 0 := by simp [gainI, sumTo]
theorem gain_one (p x : Int) : gainI p 1 [x] = x - p := by simp [gainI, sumTo, at0]
/-- the price when b wins, told by the others alone -/
def priceO (O : List U) (count floor : Int) : Int := if (O.length : Int) < count then floor else (get O (count.toNat - 1)).2.2
theorem price_win {O1 O2 : List U} {u : U} {count floor : Int} (h : O1.length < count.toNat) : priceOf (O1 ++ u :: O2) count floor = priceO (O1 ++ O2) count floor := by
  unfold priceOf priceO
  have e : (O1 ++ u :: O2).length = (O1 ++ O2).length + 1 := by simp; omega
  rw [e]
  split
  · rw [if_pos (by omega)]
  · rw [if_neg (by omega), get_app h (by rw [e]; omega)]
theorem truth {count floor : Int} {L : List (List Int)} {b : Nat} {x y : Int} (hb : b < L.length) (hx : bidAt L b = [x]) (h1 : May count floor L) (h2 : May count floor (L.set b [y])) :
    0 ≤ gainI (priceOf (ordT L) count floor) (cnt ((ordT L).take count.toNat) b) [x] ∧
      gainI (priceOf (ordT (L.set b [y])) count floor) (cnt ((ordT (L.set b [y])).take count.toNat) b) [x] ≤ gainI (priceOf (ordT L) count floor) (cnt ((ordT L).take count.toNat) b) [x] := by
  obtain ⟨O1, O2, e, hn, hs, hm⟩ := split_one L b hb (by rw [hx]; rfl)
  have hb2 : b < (L.set b [y]).length := by rw [List.length_set]; exact hb
  have hy : bidAt (L.set b [y]) b = [y] := by rw [bidAt_set L b [y] hb, if_pos rfl]
  obtain ⟨P1, P2, e2, hn2, hs2, hm2⟩ := split_one (L.set b [y]) b hb2 (by rw [hy]; rfl)
  have hO : O1 ++ O2 = P1 ++ P2 := sorted_eq hs hs2 (fun v => by
    rw [hm v, hm2 v, List.length_set]
    constructor
    · rintro ⟨c, q, hc, hcb, hq, rfl⟩
      have eb : bidAt (L.set b [y]) c = bidAt L c := by rw [bidAt_set L b [y] hb, if_neg hcb]
      exact ⟨c, q, hc, hcb, by rw [eb]; exact hq, by unfold unitAt; rw [eb]⟩
    · rintro ⟨c, q, hc, hcb, hq, rfl⟩
      have eb : bidAt (L.set b [y]) c = bidAt L c := by rw [bidAt_set L b [y] hb, if_neg hcb]
      exact ⟨c, q, hc, hcb, by rw [← eb]; exact hq, by unfold unitAt; rw [eb]⟩)
  have hc1 : 1 ≤ count := h1.one
  have hux : (unitAt L b 0).2.2 = x := by unfold unitAt; rw [hx]; rfl
  have hfx : floor ≤ x := by
    have := h1.over b hb
    rw [hx] at this
    simpa [at0] using this
  have hsT := ordT_sorted L
  rw [e] at hsT ⊢
  rw [e2, cnt_split hn rfl, cnt_split hn2 rfl]
  by_cases w1 : O1.length < count.toNat
  · -- it wins, and pays what the others tell
    rw [if_pos w1, gain_one, price_win w1]
    have hp : priceO (O1 ++ O2) count floor ≤ x := by
      rw [← price_win (u := unitAt L b 0) w1]
      unfold priceOf
      split
      · exact hfx
      · rename_i hl
        have := coins_down hsT (i := O1.length) (j := count.toNat) (by omega) (by omega)
        rw [show get (O1 ++ unitAt L b 0 :: O2) O1.length = unitAt L b 0 by simp [get], hux] at this
        exact this
    refine ⟨by omega, ?_⟩
    by_cases w2 : P1.length < count.toNat
    · rw [if_pos w2, gain_one, price_win w2, hO]
      exact Int.le_refl _
    · rw [if_neg w2, gain_zero]
      omega
  · rw [if_neg w1, gain_zero]
    refine ⟨Int.le_refl _, ?_⟩
    by_cases w2 : P1.length < count.toNat
    · rw [if_pos w2, gain_one, price_win w2, ← hO]
      have hl : ¬ ((O1 ++ O2).length : Int) < count := by simp; omega
      unfold priceO
      rw [if_neg hl]
      have hg : get (O1 ++ O2) (count.toNat - 1) ∈ O1 := by
        unfold get
        rw [List.getElem?_append_left (by omega), List.getElem?_eq_getElem (by omega)]
        exact List.getElem_mem _
      rw [List.pairwise_append] at hsT
      have := hsT.2.2 _ hg _ List.mem_cons_self
      unfold lt at this
      rw [hux] at this
      omega
    · rw [if_neg w2, gain_zero]
      exact Int.le_refl _
end Go.Proofs.Ytehpjipmlpaflaa.un
