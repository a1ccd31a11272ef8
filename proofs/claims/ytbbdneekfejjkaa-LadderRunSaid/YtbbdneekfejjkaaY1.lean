import Derived.Test.YtbbdneekfejjkaaT7
namespace Go.Proofs.Ytbbdneekfejjkaa
set_option linter.unusedSimpArgs false
set_option linter.unusedVariables false

abbrev R4 := Int × Int × Int × Int
def Rise (st cl la : Int) (r : R4) : Prop := RiseOK st cl la r.1 r.2.1 r.2.2.1 r.2.2.2
/-- what a bid makes of a rise, and its number -/
def nx (op st sp ex la : Int) (r b : R4) : R4 × Int :=
  if bidErr op st sp r.1 r.2.1 r.2.2.1 r.2.2.2 b.1 b.2.1 b.2.2.1 b.2.2.2 = 0 then ((nLd r.1 r.2.1 b.1 b.2.1, nLi r.1 r.2.1 b.1 b.2.1, nPr st sp r.1 r.2.1 r.2.2.1 b.1 b.2.1, nCl ex la r.2.2.2 b.2.2.2), 0)
  else (r, bidErr op st sp r.1 r.2.1 r.2.2.1 r.2.2.2 b.1 b.2.1 b.2.2.1 b.2.2.2)
theorem nx_ok {k op cl st sp ex la fl fa co ru : Int} {r b : R4} (h : LotOK k op cl st sp ex la fl fa co ru) (hr : Rise st cl la r) :
    Rise st cl la (nx op st sp ex la r b).1 ∧ r.2.2.1 ≤ (nx op st sp ex la r b).1.2.2.1 ∧ r.2.2.2 ≤ (nx op st sp ex la r b).1.2.2.2 ∧ (nx op st sp ex la r b).1.2.2.2 ≤ la ∧ (nx op st sp ex la r b).1.2.2.1 ≤ (nx op st sp ex la r b).1.2.1 ∧
      ((nx op st sp ex la r b).2 ≠ 0 → (nx op st sp ex la r b).1 = r) ∧ ((nx op st sp ex la r b).2 = 0 → 0 ≤ (nx op st sp ex la r b).1.1) := by
  obtain ⟨ld, li, pr, rc⟩ := r
  obtain ⟨bd, bl, bf, bn⟩ := b
  have hr' : RiseOK st cl la ld li pr rc := hr
  by_cases he : bidErr op st sp ld li pr rc bd bl bf bn = 0
  · have e : nx op st sp ex la (ld, li, pr, rc) (bd, bl, bf, bn) = ((nLd ld li bd bl, nLi ld li bd bl, nPr st sp ld li pr bd bl, nCl ex la rc bn), 0) := if_pos he
    rw [e]
    have q := goodBid k op cl st sp ex la fl fa co ru ld li pr rc bd bl bf bn h hr' he
    have hl : leastI st sp ld li pr bd ≤ bl := by
      unfold bidErr at he
      by_cases a : bd < 0 ∨ bl < 0 ∨ 1099511627776 < bl ∨ bf < 0 ∨ bn < 0 ∨ 1099511627776 < bn
      · rw [if_pos a] at he; omega
      rw [if_neg a] at he
      by_cases b : bn < op ∨ rc ≤ bn
      · rw [if_pos b] at he; omega
      rw [if_neg b] at he
      by_cases c : bl < leastI st sp ld li pr bd
      · rw [if_pos c] at he; omega
      · omega
    unfold LotOK at h
    unfold Rise
    show RiseOK st cl la (nLd ld li bd bl) (nLi ld li bd bl) (nPr st sp ld li pr bd bl) (nCl ex la rc bn) ∧ pr ≤ nPr st sp ld li pr bd bl ∧ rc ≤ nCl ex la rc bn ∧ nCl ex la rc bn ≤ la ∧ nPr st sp ld li pr bd bl ≤ nLi ld li bd bl ∧ ((0 : Int) ≠ 0 → _) ∧ ((0 : Int) = 0 → 0 ≤ nLd ld li bd bl)
    have hc : rc ≤ nCl ex la rc bn ∧ nCl ex la rc bn ≤ la ∧ cl ≤ rc := by
      unfold RiseOK at hr'
      unfold nCl
      split <;> omega
    unfold RiseOK at hr' ⊢
    unfold leastI at hl
    unfold nLd nLi nPr
    by_cases c1 : ld < 0
    · rw [if_pos c1] at hl
      simp only [if_pos c1]
      exact ⟨.inr (by omega), by omega, by omega, by omega, by omega, fun h => absurd rfl h, fun _ => by omega⟩
    · simp only [if_neg c1]
      rw [if_neg c1] at hl
      by_cases c2 : ld = bd
      · rw [if_pos c2] at hl
        simp only [if_pos c2]
        exact ⟨.inr (by omega), by omega, by omega, by omega, by omega, fun h => absurd rfl h, fun _ => by omega⟩
      · simp only [if_neg c2]
        rw [if_neg c2] at hl
        by_cases c3 : li < bl
        · simp only [if_pos c3]
          exact ⟨.inr (by omega), by omega, by omega, by omega, by omega, fun h => absurd rfl h, fun _ => by omega⟩
        · simp only [if_neg c3]
          exact ⟨.inr (by omega), by omega, by omega, by omega, by omega, fun h => absurd rfl h, fun _ => by omega⟩
  · have e : nx op st sp ex la (ld, li, pr, rc) (bd, bl, bf, bn) = ((ld, li, pr, rc), bidErr op st sp ld li pr rc bd bl bf bn) := if_neg he
    rw [e]
    refine ⟨hr, Int.le_refl _, Int.le_refl _, ?_, ?_, fun _ => rfl, fun h => absurd h he⟩
    · unfold LotOK at h
      unfold RiseOK at hr'
      show rc ≤ la
      omega
    · unfold RiseOK at hr'
      show pr ≤ li
      omega
/-- behind so many bids -/
def rs (op st sp ex la : Int) (r0 : R4) (b : Nat → R4) : Nat → R4 × Int
  | 0 => (r0, 0)
  | j + 1 => nx op st sp ex la (rs op st sp ex la r0 b j).1 (b j)
theorem rs_ok {k op cl st sp ex la fl fa co ru : Int} {r0 : R4} {b : Nat → R4} (h : LotOK k op cl st sp ex la fl fa co ru) (hr : Rise st cl la r0) : ∀ j, Rise st cl la (rs op st sp ex la r0 b j).1
  | 0 => hr
  | j + 1 => (nx_ok h (rs_ok h hr j)).1
end Go.Proofs.Ytbbdneekfejjkaa
