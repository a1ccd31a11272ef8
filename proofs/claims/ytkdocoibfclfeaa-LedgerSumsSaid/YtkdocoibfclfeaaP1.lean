namespace Go.Proofs.Ytkdocoibfclfeaa
set_option linter.unusedSimpArgs false
set_option linter.unusedVariables false
abbrev Ent := ByteArray × Int
structure Acc where
  name : ByteArray
  least : Int
  has : Int
structure LS where
  acc : List Acc
  posts : List (List Ent)
instance : Inhabited Acc := ⟨⟨ByteArray.empty, 0, 0⟩⟩
def nms (A : List Acc) : List ByteArray := A.map Acc.name
/-- where a name stands -/
def idx : List ByteArray → ByteArray → Option Nat
  | [], _ => none
  | a :: r, s => if a = s then some 0 else (idx r s).map (· + 1)
def sumOf : List Ent → ByteArray → Int
  | [], _ => 0
  | x :: r, s => (if x.1 = s then x.2 else 0) + sumOf r s
def names (p : List Ent) : List ByteArray := p.map Prod.fst
def total : List Ent → Int
  | [] => 0
  | x :: r => x.2 + total r
def maxC : Int := 70368744177664
def goodName (s : ByteArray) : Prop := 1 ≤ s.size ∧ s.size ≤ 64
def goodEnt (x : Ent) : Prop := goodName x.1 ∧ x.2 ≠ 0 ∧ x.2 ≤ maxC ∧ -maxC ≤ x.2
def Formed (p : List Ent) : Prop := 1 ≤ p.length ∧ p.length ≤ 128 ∧ (∀ x ∈ p, goodEnt x) ∧ total p = 0
def allThere (A : List Acc) (p : List Ent) : Prop := ∀ s ∈ names p, ∃ i, idx (nms A) s = some i
def isLow (A : List Acc) (p : List Ent) : Prop := ∃ a ∈ A, a.name ∈ names p ∧ a.has + sumOf p a.name < a.least
open Classical in
noncomputable def mayE (A : List Acc) (p : List Ent) : Int := if ¬ Formed p then 2 else if ¬ allThere A p then 4 else if isLow A p then 7 else 0
def posted (A : List Acc) (p : List Ent) : List Acc := A.map fun a => { a with has := a.has + sumOf p a.name }
/-- what holds of the accounts at all times -/
structure Sound (A : List Acc) : Prop where
  nd : (nms A).Nodup
  few : A.length ≤ 65536
  good : ∀ a ∈ A, goodName a.name ∧ -maxC ≤ a.least ∧ a.least ≤ 0 ∧ a.least ≤ a.has
  sum : (A.map Acc.has).sum = 0
theorem idx_lt {A : List ByteArray} {s : ByteArray} {i : Nat} (h : idx A s = some i) : i < A.length ∧ A[i]? = some s := by
  induction A generalizing i with
  | nil => cases h
  | cons a r ih =>
    unfold idx at h
    split at h
    · cases h; rename_i e; subst e; exact ⟨by simp, rfl⟩
    · obtain ⟨j, hj, rfl⟩ := Option.map_eq_some_iff.1 h
      have := ih hj
      exact ⟨by simp; omega, by simpa using this.2⟩
theorem idx_none {A : List ByteArray} {s : ByteArray} : idx A s = none ↔ s ∉ A := by
  induction A with
  | nil => simp [idx]
  | cons a r ih =>
    unfold idx
    split
    · rename_i e; subst e; simp
    · rename_i e
      rw [Option.map_eq_none_iff, ih]
      simp [Ne.symm e]
theorem idx_at {A : List ByteArray} (hn : A.Nodup) {i : Nat} {s : ByteArray} (h : A[i]? = some s) : idx A s = some i := by
  induction A generalizing i with
  | nil => simp at h
  | cons a r ih =>
    rw [List.nodup_cons] at hn
    unfold idx
    rcases i with _ | i
    · simp at h; subst h; simp
    · simp at h
      have hm : s ∈ r := List.mem_of_getElem? h
      rw [if_neg (fun e : a = s => hn.1 (by rw [e]; exact hm)), ih hn.2 h]
      rfl
theorem idx_snoc {A : List ByteArray} {s : ByteArray} (h : idx A s = none) (x : ByteArray) : idx (A ++ [s]) x = if x = s then some A.length else idx A x := by
  induction A with
  | nil => simp [idx]; by_cases e : s = x <;> simp [e, eq_comm]
  | cons a r ih =>
    have h' := idx_none.1 h
    have hr : idx r s = none := idx_none.2 (fun q => h' (by simp [q]))
    show idx (a :: (r ++ [s])) x = _
    unfold idx
    by_cases e : a = x
    · subst e
      rw [if_pos rfl, if_pos rfl, if_neg (fun e => h' (by simp [e]))]
    · rw [if_neg e, if_neg e, ih hr]
      split <;> simp
theorem sumOf_out {p : List Ent} {s : ByteArray} (h : s ∉ names p) : sumOf p s = 0 := by
  induction p with
  | nil => rfl
  | cons x r ih =>
    simp only [names, List.map_cons, List.mem_cons, not_or] at h
    unfold sumOf
    rw [if_neg (Ne.symm h.1), ih h.2]; rfl
theorem sumOf_snoc (p : List Ent) (x : Ent) (s : ByteArray) : sumOf (p ++ [x]) s = sumOf p s + if x.1 = s then x.2 else 0 := by
  induction p with
  | nil => simp [sumOf]
  | cons y r ih => simp only [List.cons_append, sumOf, ih]; omega
theorem total_snoc (p : List Ent) (x : Ent) : total (p ++ [x]) = total p + x.2 := by
  induction p with
  | nil => simp [total]
  | cons y r ih => simp only [List.cons_append, total, ih]; omega
theorem sumOf_bd {p : List Ent} (h : ∀ x ∈ p, x.2 ≤ maxC ∧ -maxC ≤ x.2) (s : ByteArray) : sumOf p s ≤ p.length * maxC ∧ -(p.length * maxC) ≤ sumOf p s := by
  induction p with
  | nil => simp [sumOf]
  | cons x r ih =>
    have := ih (fun y hy => h y (by simp [hy]))
    have hx := h x (by simp)
    simp only [sumOf, List.length_cons]
    unfold maxC at *
    split <;> omega
theorem total_bd {p : List Ent} (h : ∀ x ∈ p, x.2 ≤ maxC ∧ -maxC ≤ x.2) : total p ≤ p.length * maxC ∧ -(p.length * maxC) ≤ total p := by
  induction p with
  | nil => simp [total]
  | cons x r ih =>
    have := ih (fun y hy => h y (by simp [hy]))
    have hx := h x (by simp)
    simp only [total, List.length_cons]
    unfold maxC at *
    omega
theorem posted_nms (A : List Acc) (p : List Ent) : nms (posted A p) = nms A := by simp [nms, posted, Function.comp_def]
theorem sum_le (A : List Acc) (h : ∀ a ∈ A, -maxC ≤ a.has) : -(A.length * maxC) ≤ (A.map Acc.has).sum := by
  induction A with
  | nil => simp
  | cons a r ih =>
    have := ih (fun y hy => h y (by simp [hy]))
    have := h a (by simp)
    simp only [List.map_cons, List.sum_cons, List.length_cons]
    unfold maxC at *
    omega
theorem sum_split (A : List Acc) (i : Nat) (a : Acc) (hi : A[i]? = some a) : (A.map Acc.has).sum = a.has + ((A.eraseIdx i).map Acc.has).sum := by
  induction A generalizing i with
  | nil => simp at hi
  | cons b r ih =>
    rcases i with _ | i
    · simp at hi; subst hi; simp
    · simp at hi
      simp only [List.map_cons, List.sum_cons, List.eraseIdx_cons_succ, ih i hi]
      omega
/-- what an account has is small -/
theorem Sound.small {A : List Acc} (h : Sound A) {a : Acc} (ha : a ∈ A) : -maxC ≤ a.has ∧ a.has ≤ 65536 * maxC := by
  have g := h.good a ha
  refine ⟨by omega, ?_⟩
  obtain ⟨i, hi⟩ := List.getElem?_of_mem ha
  have e := sum_split A i a hi
  rw [h.sum] at e
  have l := sum_le (A.eraseIdx i) (fun y hy => by
    have := h.good y (List.mem_of_mem_eraseIdx hy)
    omega)
  have hl : (A.eraseIdx i).length ≤ A.length := List.length_eraseIdx_le _ _
  have := h.few
  unfold maxC at *
  omega
theorem sum_posted (A : List Acc) (p : List Ent) : ((posted A p).map Acc.has).sum = (A.map Acc.has).sum + ((nms A).map (sumOf p)).sum := by
  induction A with
  | nil => rfl
  | cons a r ih =>
    simp only [posted, nms, List.map_cons, List.sum_cons, List.map_map] at ih ⊢
    omega
theorem sum_total (A : List ByteArray) (p : List Ent) (hn : A.Nodup) (ht : ∀ s ∈ names p, s ∈ A) : (A.map (sumOf p)).sum = total p := by
  induction p with
  | nil =>
    have : A.map (sumOf []) = A.map (fun _ => (0 : Int)) := List.map_congr_left (fun _ _ => rfl)
    rw [this]
    clear this ht
    clear hn
    induction A with
    | nil => rfl
    | cons a r ih => simp only [List.map_cons, List.sum_cons]; rw [ih]; rfl
  | cons x r ih =>
    have ihr := ih (fun s hs => ht s (by simp only [names, List.map_cons, List.mem_cons] at hs ⊢; exact .inr hs))
    have hx : x.1 ∈ A := ht _ (by simp [names])
    have e1 : (A.map (sumOf (x :: r))).sum = (A.map (fun s => if x.1 = s then x.2 else 0)).sum + (A.map (sumOf r)).sum := by
      clear ihr hx ht ih hn
      induction A with
      | nil => rfl
      | cons a q ih2 =>
        simp only [List.map_cons, List.sum_cons]
        rw [ih2]
        show _ = _
        simp only [sumOf]; omega
    have e2 : (A.map (fun s => if x.1 = s then x.2 else 0)).sum = x.2 := by
      clear ihr e1 ht ih
      induction A with
      | nil => cases hx
      | cons a q ih2 =>
        rw [List.nodup_cons] at hn
        simp only [List.map_cons, List.sum_cons]
        by_cases e : x.1 = a
        · rw [if_pos e]
          have z : (q.map (fun s => if x.1 = s then x.2 else 0)).sum = 0 := by
            have hq : x.1 ∉ q := e ▸ hn.1
            clear ih2 hn hx
            induction q with
            | nil => rfl
            | cons b q ih3 =>
              simp only [List.mem_cons, not_or] at hq
              simp only [List.map_cons, List.sum_cons, if_neg hq.1, ih3 hq.2]; rfl
          rw [z]; omega
        · rw [if_neg e, ih2 hn.2 ((List.mem_cons.1 hx).resolve_left e)]; omega
    rw [e1, e2, ihr]; rfl
/-- a posting that may be done leaves all sound -/
theorem Sound.posted {A : List Acc} (h : Sound A) {p : List Ent} (hf : Formed p) (ht : allThere A p) (hl : ¬ isLow A p) : Sound (posted A p) := by
  refine ⟨by rw [posted_nms]; exact h.nd, by simp [Ytkdocoibfclfeaa.posted, h.few], fun a ha => ?_, ?_⟩
  · obtain ⟨b, hb, rfl⟩ := List.mem_map.1 ha
    have g := h.good b hb
    refine ⟨g.1, g.2.1, g.2.2.1, ?_⟩
    by_cases e : b.name ∈ names p
    · have : ¬ (b.has + sumOf p b.name < b.least) := fun q => hl ⟨b, hb, e, q⟩
      show b.least ≤ b.has + sumOf p b.name
      omega
    · show b.least ≤ b.has + sumOf p b.name
      rw [sumOf_out e]; omega
  · rw [sum_posted, h.sum, sum_total _ _ h.nd, hf.2.2.2]
    · rfl
    · intro s hs
      obtain ⟨i, hi⟩ := ht s hs
      exact List.mem_of_getElem? (idx_lt hi).2
theorem Sound.nil : Sound [] := ⟨List.nodup_nil, by simp, by simp, rfl⟩
theorem nms_snoc (A : List Acc) (a : Acc) : nms (A ++ [a]) = nms A ++ [a.name] := by simp [nms]
theorem Sound.opened {A : List Acc} (h : Sound A) {s : ByteArray} {l : Int} (hs : goodName s) (h1 : -maxC ≤ l) (h2 : l ≤ 0) (hi : idx (nms A) s = none) (hf : A.length < 65536) : Sound (A ++ [⟨s, l, 0⟩]) := by
  refine ⟨?_, by simp; omega, fun a ha => ?_, by simp [h.sum]⟩
  · rw [nms_snoc, List.nodup_append]
    exact ⟨h.nd, by simp, fun x hx y hy e => by simp at hy; subst hy; subst e; exact idx_none.1 hi hx⟩
  · rcases List.mem_append.1 ha with q | q
    · exact h.good a q
    · simp at q; subst q; exact ⟨hs, h1, h2, h2⟩
end Go.Proofs.Ytkdocoibfclfeaa
