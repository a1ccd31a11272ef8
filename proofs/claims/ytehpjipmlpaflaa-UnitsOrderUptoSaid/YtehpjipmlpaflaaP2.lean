import Derived.Test.YtehpjipmlpaflaaP1
namespace Go.Proofs.Ytehpjipmlpaflaa.un
set_option linter.unusedVariables false
set_option linter.unusedSimpArgs false

def bidAt (L : List (List Int)) (b : Nat) : List Int := (L[b]?).getD []
def unitAt (L : List (List Int)) (b q : Nat) : U := ((b : Int), (q : Int), ((bidAt L b)[q]?).getD 0)
/-- bids that may be: none is empty, none rises -/
structure Right (L : List (List Int)) : Prop where
  some : ∀ b, b < L.length → 0 < (bidAt L b).length
  falls : ∀ b q r, b < L.length → q ≤ r → r < (bidAt L b).length → ((bidAt L b)[r]?).getD 0 ≤ ((bidAt L b)[q]?).getD 0
/-- the heap holds the next unit of each of the first n bids that has one -/
structure Heads (L : List (List Int)) (n : Nat) (p : Nat → Nat) (xs : List U) : Prop where
  are : ∀ v, v ∈ xs → ∃ b, b < n ∧ p b < (bidAt L b).length ∧ v = unitAt L b (p b)
  all : ∀ b, b < n → p b < (bidAt L b).length → unitAt L b (p b) ∈ xs
  one : (xs.map (fun v => v.1)).Nodup
/-- what is still to come -/
structure Rest (L : List (List Int)) (p : Nat → Nat) (rest : List U) : Prop where
  sorted : rest.Pairwise lt
  are : ∀ v, v ∈ rest ↔ ∃ b q, b < L.length ∧ p b ≤ q ∧ q < (bidAt L b).length ∧ v = unitAt L b q
def up1 (p : Nat → Nat) (b : Nat) : Nat → Nat := fun c => if c = b then p b + 1 else p c
theorem unit_inj {L : List (List Int)} {b q c r : Nat} (h : unitAt L b q = unitAt L c r) : b = c ∧ q = r := by
  unfold unitAt at h
  simp only [Prod.mk.injEq] at h
  omega
theorem Heads.perm {L : List (List Int)} {n : Nat} {p : Nat → Nat} {xs ys : List U} (h : Heads L n p xs) (hp : ys.Perm xs) : Heads L n p ys :=
  ⟨fun v hv => h.are v (hp.mem_iff.1 hv), fun b hb hq => hp.mem_iff.2 (h.all b hb hq), (hp.map (fun v => v.1)).nodup_iff.2 h.one⟩
theorem Heads.push {L : List (List Int)} {n : Nat} {xs : List U} (h : Heads L n (fun _ => 0) xs) (hl : 0 < (bidAt L n).length) : Heads L (n + 1) (fun _ => 0) (xs ++ [unitAt L n 0]) := by
  refine ⟨fun v hv => ?_, fun b hb hq => ?_, ?_⟩
  · rcases List.mem_append.1 hv with hv | hv
    · obtain ⟨b, hb, hq, e⟩ := h.are v hv
      exact ⟨b, by omega, hq, e⟩
    · exact ⟨n, by omega, hl, by simpa using hv⟩
  · rcases Nat.lt_or_ge b n with q | q
    · exact List.mem_append.2 (.inl (h.all b q hq))
    · obtain rfl : b = n := by omega
      exact List.mem_append.2 (.inr (by simp))
  · rw [List.map_append, List.nodup_append]
    refine ⟨h.one, by simp, fun a ha c hc e => ?_⟩
    obtain ⟨v, hv, rfl⟩ := List.mem_map.1 ha
    obtain ⟨b, hb, hq, rfl⟩ := h.are v hv
    simp [unitAt] at hc
    rw [← e] at hc
    simp [unitAt] at hc
    omega
theorem heads_nil (L : List (List Int)) (p : Nat → Nat) : Heads L 0 p [] := ⟨fun v hv => by simp at hv, fun b hb => by omega, by simp⟩
/-- the heap's root is what comes next -/
theorem rest_head {L : List (List Int)} {p : Nat → Nat} {xs rest : List U} (hr : Right L) (hh : Heads L L.length p xs) (hp : Heap xs xs.length) (h0 : 0 < xs.length) (hs : Rest L p rest) :
    ∃ b rest', b < L.length ∧ p b < (bidAt L b).length ∧ get xs 0 = unitAt L b (p b) ∧ rest = get xs 0 :: rest' ∧ Rest L (up1 p b) rest' := by
  obtain ⟨b, hb, hq, e⟩ := hh.are _ (get_mem xs 0 h0)
  have hmem : get xs 0 ∈ rest := (hs.are _).2 ⟨b, p b, hb, Nat.le_refl _, hq, e⟩
  have hmin : ∀ v, v ∈ rest → le (get xs 0) v := fun v hv => by
    obtain ⟨c, q, hc, hpq, hql, rfl⟩ := (hs.are v).1 hv
    have h1 : p c < (bidAt L c).length := by omega
    obtain ⟨k, hk, ek⟩ := mem_get xs _ (hh.all c hc h1)
    have h2 : le (get xs 0) (unitAt L c (p c)) := by rw [← ek]; exact root_min hp k hk
    refine le_trans h2 ?_
    have h3 := hr.falls c (p c) q hc hpq hql
    unfold le
    unfold lt unitAt
    simp only
    omega
  cases rest with
  | nil => simp at hmem
  | cons r rs =>
    have hs2 := List.pairwise_cons.1 hs.sorted
    have er : r = get xs 0 := by
      rcases List.mem_cons.1 hmem with e2 | e2
      · exact e2.symm
      · exact absurd (hs2.1 _ e2) (hmin r List.mem_cons_self)
    subst er
    refine ⟨b, rs, hb, hq, e, rfl, hs2.2, fun v => ?_⟩
    constructor
    · intro hv
      obtain ⟨c, q, hc, hpq, hql, rfl⟩ := (hs.are v).1 (List.mem_cons_of_mem _ hv)
      refine ⟨c, q, hc, ?_, hql, rfl⟩
      unfold up1
      by_cases ec : c = b
      · rw [if_pos ec]
        rcases Nat.lt_or_ge (p b) q with h | h
        · exact h
        · exfalso
          have eq : q = p b := by subst ec; omega
          have hv' := hs2.1 _ hv
          rw [e, eq, ec] at hv'
          exact lt_irrefl _ hv'
      · rw [if_neg ec]; exact hpq
    · rintro ⟨c, q, hc, hpq, hql, rfl⟩
      unfold up1 at hpq
      have h1 : p c ≤ q ∧ ¬ (c = b ∧ q = p b) := by
        split at hpq
        · rename_i ec; subst ec; omega
        · rename_i ec; exact ⟨hpq, fun q => ec q.1⟩
      rcases List.mem_cons.1 ((hs.are _).2 ⟨c, q, hc, h1.1, hql, rfl⟩) with h2 | h2
      · exfalso
        rw [e] at h2
        exact h1.2 (unit_inj h2)
      · exact h2
/-- an empty heap: nothing is to come -/
theorem rest_nil {L : List (List Int)} {p : Nat → Nat} {rest : List U} (hh : Heads L L.length p []) (hs : Rest L p rest) : rest = [] := by
  cases rest with
  | nil => rfl
  | cons r rs =>
    obtain ⟨b, q, hb, hpq, hql, e⟩ := (hs.are r).1 List.mem_cons_self
    have := hh.all b hb (by omega)
    simp at this
theorem get_set_map (xs : List U) (v : U) (h0 : 0 < xs.length) (e : v.1 = (get xs 0).1) : (xs.set 0 v).map (fun v => v.1) = xs.map (fun v => v.1) := by
  cases xs with
  | nil => simp at h0
  | cons x xs =>
    simp [get] at e
    simp [e]
/-- the root's bid goes on: its next unit takes the root's place -/
theorem heads_set {L : List (List Int)} {p : Nat → Nat} {xs : List U} {b : Nat} (hh : Heads L L.length p xs) (h0 : 0 < xs.length) (hb : b < L.length) (e : get xs 0 = unitAt L b (p b)) (hn : p b + 1 < (bidAt L b).length) : Heads L L.length (up1 p b) (xs.set 0 (unitAt L b (p b + 1))) := by
  cases xs with
  | nil => simp at h0
  | cons x xs =>
    have ex : x = unitAt L b (p b) := by simpa [get] using e
    have hone := hh.one
    rw [List.map_cons, List.nodup_cons] at hone
    have hnb : ∀ v, v ∈ xs → v.1 ≠ (b : Int) := fun v hv q => hone.1 (List.mem_map.2 ⟨v, hv, by rw [q, ex]; rfl⟩)
    refine ⟨fun v hv => ?_, fun c hc hq => ?_, ?_⟩
    · rw [List.set_cons_zero] at hv
      rcases List.mem_cons.1 hv with rfl | hv
      · exact ⟨b, hb, by unfold up1; rw [if_pos rfl]; exact hn, by unfold up1; rw [if_pos rfl]⟩
      · obtain ⟨c, hc, hq, ev⟩ := hh.are v (List.mem_cons_of_mem _ hv)
        have ecb : c ≠ b := fun q => hnb v hv (by rw [ev, q]; rfl)
        exact ⟨c, hc, by unfold up1; rw [if_neg ecb]; exact hq, by unfold up1; rw [if_neg ecb]; exact ev⟩
    · rw [List.set_cons_zero]
      unfold up1 at hq ⊢
      by_cases ecb : c = b
      · subst ecb; rw [if_pos rfl]; exact List.mem_cons_self
      · rw [if_neg ecb] at hq ⊢
        rcases List.mem_cons.1 (hh.all c hc hq) with h | h
        · rw [ex] at h
          exact absurd (unit_inj h).1 ecb
        · exact List.mem_cons_of_mem _ h
    · rw [get_set_map _ _ h0 (by rw [e]; rfl)]
      exact hh.one
/-- the root's bid is at its end -/
theorem heads_pop {L : List (List Int)} {p : Nat → Nat} {xs ys : List U} {b : Nat} (hh : Heads L L.length p xs) (hp : (ys ++ [get xs 0]).Perm xs) (hb : b < L.length) (e : get xs 0 = unitAt L b (p b)) (hn : (bidAt L b).length ≤ p b + 1) : Heads L L.length (up1 p b) ys := by
  have hz := hh.perm hp
  have hone := hz.one
  rw [List.map_append, List.nodup_append] at hone
  have hnb : ∀ v, v ∈ ys → v.1 ≠ (b : Int) := fun v hv q => hone.2.2 v.1 (List.mem_map.2 ⟨v, hv, rfl⟩) (b : Int) (by rw [e]; simp [unitAt]) q
  refine ⟨fun v hv => ?_, fun c hc hq => ?_, hone.1⟩
  · obtain ⟨c, hc, hq, ev⟩ := hz.are v (List.mem_append.2 (.inl hv))
    have ecb : c ≠ b := fun q => hnb v hv (by rw [ev, q]; rfl)
    exact ⟨c, hc, by unfold up1; rw [if_neg ecb]; exact hq, by unfold up1; rw [if_neg ecb]; exact ev⟩
  · unfold up1 at hq ⊢
    by_cases ecb : c = b
    · subst ecb; rw [if_pos rfl] at hq; omega
    · rw [if_neg ecb] at hq ⊢
      rcases List.mem_append.1 (hz.all c hc hq) with h | h
      · exact h
      · rw [e] at h
        simp only [List.mem_singleton] at h
        exact absurd (unit_inj h).1 ecb
theorem down_set {xs : List U} (v : U) (h : Heap xs xs.length) (h0 : 0 < xs.length) : DownInv (xs.set 0 v) 0 (xs.set 0 v).length := by
  refine ⟨Nat.le_refl _, by simpa using h0, fun k hk hl hne => ?_, fun k _ _ _ q => by omega⟩
  have hl' : k < xs.length := by simpa using hl
  have := par_lt hk
  rw [get_set _ _ _ _ h0, get_set _ _ _ _ h0, if_neg hne, if_neg (by omega)]
  exact h k hk hl'
end Go.Proofs.Ytehpjipmlpaflaa.un
