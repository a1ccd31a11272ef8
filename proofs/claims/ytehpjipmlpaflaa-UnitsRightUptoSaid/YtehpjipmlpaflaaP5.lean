import Derived.Test.YtehpjipmlpaflaaP4
namespace Go.Proofs.Ytehpjipmlpaflaa.un
open Go.ChangeShapes Go.WideShapes Go.ChangeAt Go.RowKit Go.Deep Go.Shelf
set_option linter.unusedSimpArgs false
set_option linter.unusedVariables false

attribute [local go_sem] Oper.semAt_some

theorem take_closed {T : List U} (hs : T.Pairwise lt) {c : Nat} {u v : U} (hv : v ∈ T.take c) (hu : u ∈ T) (h : lt u v) : u ∈ T.take c := by
  rw [← List.take_append_drop c T] at hu hs
  rcases List.mem_append.1 hu with q | q
  · exact q
  · rw [List.pairwise_append] at hs
    exact (lt_asymm h (hs.2.2 _ hv _ q)).elim
theorem down_closed (P : Nat → Prop) : ∀ len, (∀ q r, q < r → r < len → P r → P q) → ∃ n, n ≤ len ∧ ∀ q, q < len → (P q ↔ q < n)
  | 0, _ => ⟨0, Nat.le_refl _, fun q h => by omega⟩
  | len + 1, h => by
    by_cases hp : P len
    · refine ⟨len + 1, Nat.le_refl _, fun q hq => ⟨fun _ => hq, fun _ => ?_⟩⟩
      rcases Nat.lt_or_ge q len with h2 | h2
      · exact h q len h2 (by omega) hp
      · obtain rfl : q = len := by omega
        exact hp
    · obtain ⟨n, hn, hq⟩ := down_closed P len (fun q r h1 h2 h3 => h q r h1 (by omega) h3)
      refine ⟨n, by omega, fun q hq2 => ?_⟩
      rcases Nat.lt_or_ge q len with h2 | h2
      · exact hq q h2
      · obtain rfl : q = len := by omega
        exact ⟨fun h3 => absurd h3 hp, fun h3 => by omega⟩
theorem unit_lt {L : List (List Int)} (hr : Right L) {j q r : Nat} (hj : j < L.length) (hqr : q < r) (hrl : r < (bidAt L j).length) : lt (unitAt L j q) (unitAt L j r) := by
  have h := hr.falls j q r hj (by omega) hrl
  rcases Int.lt_or_eq_of_le h with h | h
  · exact .inl h
  · exact .inr ⟨h.symm, .inr ⟨rfl, show (q : Int) < (r : Int) by omega⟩⟩
/-- who gets how many: the first units of each bid -/
theorem won_first {L : List (List Int)} (hr : Right L) (c : Nat) {j : Nat} (hj : j < L.length) : cnt ((ordT L).take c) j ≤ (bidAt L j).length ∧ ∀ q, q < (bidAt L j).length → (unitAt L j q ∈ (ordT L).take c ↔ q < cnt ((ordT L).take c) j) := by
  obtain ⟨n, hn, hq⟩ := down_closed (fun q => unitAt L j q ∈ (ordT L).take c) (bidAt L j).length (fun q r h1 h2 h3 =>
    take_closed (ordT_sorted L) h3 ((ordT_mem L _).2 ⟨j, q, hj, by omega, rfl⟩) (unit_lt hr hj h1 h2))
  have e : ((ordT L).take c).filter (fun x => decide (x.1 = (j : Int))) = (List.range n).map (unitAt L j) := by
    refine sorted_eq ?_ ?_ (fun v => ?_)
    · exact ((ordT_sorted L).sublist (List.take_sublist c _)).filter _
    · rw [List.pairwise_map]
      exact List.Pairwise.imp_of_mem (fun {a a'} ha ha' h => unit_lt hr hj h (Nat.lt_of_lt_of_le (List.mem_range.1 ha') hn)) (List.pairwise_lt_range (n := n))
    · rw [List.mem_filter, List.mem_map]
      constructor
      · rintro ⟨h1, h2⟩
        obtain ⟨b, q, hb, hql, rfl⟩ := (ordT_mem L v).1 (List.mem_of_mem_take h1)
        have h3 : (b : Int) = (j : Int) := of_decide_eq_true h2
        have eb : b = j := by omega
        subst eb
        exact ⟨q, List.mem_range.2 ((hq q hql).1 h1), rfl⟩
      · rintro ⟨q, h1, rfl⟩
        have h2 := List.mem_range.1 h1
        exact ⟨(hq q (by omega)).2 h2, by simp [unitAt]⟩
  have e2 : cnt ((ordT L).take c) j = n := by
    unfold cnt
    rw [List.countP_eq_length_filter, e]
    simp
  rw [e2]
  exact ⟨hn, hq⟩
def sumW (l : List U) : Nat → Nat
  | 0 => 0
  | j + 1 => sumW l j + cnt l j
theorem cnt_cons (x : U) (l : List U) (b n : Nat) (hx : x.1 = (b : Int)) : cnt (x :: l) n = cnt l n + if b = n then 1 else 0 := by
  unfold cnt
  rw [List.countP_cons]
  by_cases h : b = n
  · subst h; simp [hx]
  · rw [if_neg h, if_neg (by simp [hx]; omega)]
theorem sumW_cons (x : U) (l : List U) (b : Nat) (hx : x.1 = (b : Int)) : ∀ n, sumW (x :: l) n = sumW l n + if b < n then 1 else 0
  | 0 => by simp [sumW]
  | n + 1 => by
    rw [sumW, sumW, sumW_cons x l b hx n, cnt_cons x l b n hx]
    by_cases h1 : b < n
    · rw [if_pos h1, if_neg (by omega), if_pos (by omega)]; omega
    · by_cases h2 : b = n
      · rw [if_neg h1, if_pos h2, if_pos (by omega)]; omega
      · rw [if_neg h1, if_neg h2, if_neg (by omega)]; omega
theorem sumW_nil : ∀ n, sumW [] n = 0
  | 0 => rfl
  | n + 1 => by rw [sumW, sumW_nil n]; rfl
theorem sumW_all (n : Nat) : ∀ l : List U, (∀ v, v ∈ l → ∃ b : Nat, b < n ∧ v.1 = (b : Int)) → sumW l n = l.length
  | [], _ => sumW_nil n
  | x :: l, h => by
    obtain ⟨b, hb, hx⟩ := h x List.mem_cons_self
    rw [sumW_cons x l b hx n, if_pos hb, sumW_all n l (fun v hv => h v (List.mem_cons_of_mem _ hv)), List.length_cons]
theorem countP_ins (p : U → Bool) (xs : List U) (u : U) : (ins xs u).countP p = xs.countP p + if p u then 1 else 0 := by
  unfold ins
  have e := congrArg (List.countP p) (List.take_append_drop (atOf xs u.2.2 xs.length) xs)
  rw [List.countP_append] at e
  rw [List.countP_append, List.countP_cons]
  omega
theorem want_ordK (price : Int) (L : List (List Int)) (i : Nat) (acc : List U) : ∀ k, (ordK L i acc k).countP (fun v => decide (price ≤ v.2.2)) = acc.countP (fun v => decide (price ≤ v.2.2)) + wantK price (bidAt L i) k
  | 0 => rfl
  | k + 1 => by
    rw [ordK, countP_ins, want_ordK price L i acc k, wantK]
    have e : (unitAt L i k).2.2 = at0 (bidAt L i) k := rfl
    rw [e]
    by_cases h : price ≤ at0 (bidAt L i) k
    · simp [h]; omega
    · simp [h]
theorem want_ordB (price : Int) (L : List (List Int)) : ∀ i, (ordB L i).countP (fun v => decide (price ≤ v.2.2)) = wantB price L i
  | 0 => rfl
  | i + 1 => by rw [ordB, want_ordK, want_ordB price L i, wantB]
/-- the one price is right -/
structure RightP (L : List (List Int)) (count floor : Int) : Prop where
  fits : ∀ j, j < L.length → cnt ((ordT L).take count.toNat) j ≤ (bidAt L j).length
  wins : ∀ j q, j < L.length → q < (bidAt L j).length → q < cnt ((ordT L).take count.toNat) j → priceOf (ordT L) count floor ≤ at0 (bidAt L j) q
  lost : ∀ j q, j < L.length → q < (bidAt L j).length → cnt ((ordT L).take count.toNat) j ≤ q → at0 (bidAt L j) q ≤ priceOf (ordT L) count floor
  sold : sumW ((ordT L).take count.toNat) L.length = min (sumL L L.length) count.toNat
  less : wantB (priceOf (ordT L) count floor + 1) L L.length ≤ count.toNat
  more : count.toNat ≤ sumL L L.length → count.toNat ≤ wantB (priceOf (ordT L) count floor) L L.length
  low : floor ≤ priceOf (ordT L) count floor
  next : nextOf (ordT L) count < 0 ↔ (sumL L L.length : Int) ≤ count
theorem right_is {L : List (List Int)} {count floor : Int} (h : May count floor L) : RightP L count floor := by
  have hr := h.right
  have hs := ordT_sorted L
  have hl : (ordT L).length = sumL L L.length := ordB_len L L.length
  have hc1 := h.one
  have hin : ∀ v, v ∈ ordT L → ∃ b : Nat, b < L.length ∧ v.1 = (b : Int) ∧ floor ≤ v.2.2 := fun v hv => by
    obtain ⟨b, q, hb, hq, rfl⟩ := (ordT_mem L v).1 hv
    exact ⟨b, hb, rfl, Int.le_trans (h.over b hb) ((h.formed b hb).last_le q hq)⟩
  -- those ahead pay, those behind would not
  have ahead : ∀ v, v ∈ (ordT L).take count.toNat → priceOf (ordT L) count floor ≤ v.2.2 := fun v hv => by
    unfold priceOf
    split
    · exact (hin v (List.mem_of_mem_take hv)).choose_spec.2.2
    · rename_i hgt
      obtain ⟨i, hi, e⟩ := List.mem_iff_getElem.1 hv
      rw [List.length_take] at hi
      have := coins_down hs (i := i) (j := count.toNat) (by omega) (by omega)
      have e2 : get (ordT L) i = v := by
        rw [List.getElem_take] at e
        unfold get
        rw [List.getElem?_eq_getElem (by omega)]
        exact e
      rw [e2] at this
      exact this
  have behind : ∀ v, v ∈ ordT L → v ∉ (ordT L).take count.toNat → v.2.2 ≤ priceOf (ordT L) count floor := fun v hv hn => by
    obtain ⟨i, hi, e⟩ := mem_get (ordT L) v hv
    have hge : count.toNat ≤ i := by
      rcases Nat.lt_or_ge i count.toNat with q | q
      · refine absurd ?_ hn
        rw [List.mem_take_iff_getElem]
        refine ⟨i, by omega, ?_⟩
        have := e
        unfold get at this
        rw [List.getElem?_eq_getElem hi] at this
        exact this
      · exact q
    unfold priceOf
    rw [if_neg (by omega)]
    have := coins_down hs (i := count.toNat) (j := i) hge hi
    rw [e] at this
    exact this
  have hsplit : ∀ p : U → Bool, (ordT L).countP p = ((ordT L).take count.toNat).countP p + ((ordT L).drop count.toNat).countP p := fun p => by
    rw [← List.countP_append, List.take_append_drop]
  refine ⟨fun j hj => (won_first hr _ hj).1, fun j q hj hq hw => ?_, fun j q hj hq hw => ?_, ?_, ?_, fun hge => ?_, ?_, ?_⟩
  · exact ahead (unitAt L j q) (((won_first hr _ hj).2 q hq).2 hw)
  · exact behind (unitAt L j q) ((ordT_mem L _).2 ⟨j, q, hj, hq, rfl⟩) (fun hm => by have := ((won_first hr _ hj).2 q hq).1 hm; omega)
  · rw [sumW_all L.length _ (fun v hv => by obtain ⟨b, hb, hx, _⟩ := hin v (List.mem_of_mem_take hv); exact ⟨b, hb, hx⟩), List.length_take, hl, Nat.min_comm]
  · have e := want_ordB (priceOf (ordT L) count floor + 1) L L.length
    have e' : wantB (priceOf (ordT L) count floor + 1) L L.length = (ordT L).countP (fun v => decide (priceOf (ordT L) count floor + 1 ≤ v.2.2)) := e.symm
    rw [e', hsplit]
    have h1 := List.countP_le_length (p := fun v : U => decide (priceOf (ordT L) count floor + 1 ≤ v.2.2)) (l := (ordT L).take count.toNat)
    have h2 : ((ordT L).drop count.toNat).countP (fun v => decide (priceOf (ordT L) count floor + 1 ≤ v.2.2)) = 0 := by
      rw [List.countP_eq_zero]
      intro v hv
      have hvT := List.mem_of_mem_drop hv
      have hnt : v ∉ (ordT L).take count.toNat := fun hm => by
        have hs2 := hs
        rw [← List.take_append_drop count.toNat (ordT L), List.pairwise_append] at hs2
        exact lt_irrefl v (hs2.2.2 v hm v hv)
      have := behind v hvT hnt
      simp only [decide_eq_true_eq]
      omega
    rw [List.length_take] at h1
    omega
  · have e := want_ordB (priceOf (ordT L) count floor) L L.length
    have e' : wantB (priceOf (ordT L) count floor) L L.length = (ordT L).countP (fun v => decide (priceOf (ordT L) count floor ≤ v.2.2)) := e.symm
    rw [e', hsplit]
    have h1 : ((ordT L).take count.toNat).countP (fun v => decide (priceOf (ordT L) count floor ≤ v.2.2)) = ((ordT L).take count.toNat).length := by
      rw [List.countP_eq_length]
      intro v hv
      simpa using ahead v hv
    rw [h1, List.length_take]
    omega
  · unfold priceOf
    split
    · exact Int.le_refl _
    · rename_i hgt
      exact (hin _ (get_mem _ _ (by omega))).choose_spec.2.2
  · rw [← hl]
    unfold nextOf
    split
    · rename_i hle
      exact ⟨fun _ => hle, fun _ => by decide⟩
    · rename_i hgt
      obtain ⟨b, hb, hx, _⟩ := hin _ (get_mem (ordT L) count.toNat (by omega))
      rw [hx]
      exact ⟨fun h => by omega, fun h => by omega⟩
end Go.Proofs.Ytehpjipmlpaflaa.un
