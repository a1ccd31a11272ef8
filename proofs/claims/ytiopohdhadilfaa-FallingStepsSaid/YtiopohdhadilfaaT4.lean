import Derived.Test.YtiopohdhadilfaaT3
namespace Go.Proofs.Ytiopohdhadilfaa
open Go.ChangeShapes Go.WideShapes Go.ChangeAt Go.RowKit Go.Deep
set_option linter.unusedSimpArgs false
set_option linter.unusedVariables false

/-- 'First' of whatever lot -/
def firstL (k op cl st sp ex la fl fa co ru c : Int) : Option Int := if LotOK k op cl st sp ex la fl fa co ru then firstI op cl st fl fa c else none
theorem firstL_some (k op cl st sp ex la fl fa co ru c t : Int) (h : firstL k op cl st sp ex la fl fa co ru c = some t) : LotOK k op cl st sp ex la fl fa co ru ∧ firstI op cl st fl fa c = some t ∧ op ≤ t ∧ t < cl := by
  unfold firstL at h
  split at h
  · rename_i hL
    have b := bnd k op cl st sp ex la fl fa co ru hL
    have := first_some (by omega) (by omega) (by omega) h
    exact ⟨hL, h, this.1, this.2.1⟩
  · cases h
/-- who takes it, and when, behind so many bidders -/
def tk (k op cl st sp ex la fl fa co ru : Int) (zs : List Int) : Nat → Int × Int
  | 0 => (-1, 0)
  | n + 1 => match firstL k op cl st sp ex la fl fa co ru (zs.getD n 0) with
    | some t => if 0 ≤ zs.getD n 0 ∧ zs.getD n 0 ≤ 1099511627776 ∧ ((tk k op cl st sp ex la fl fa co ru zs n).1 < 0 ∨ t < (tk k op cl st sp ex la fl fa co ru zs n).2) then ((n : Int), t) else tk k op cl st sp ex la fl fa co ru zs n
    | none => tk k op cl st sp ex la fl fa co ru zs n
theorem tk_inv (k op cl st sp ex la fl fa co ru : Int) (zs : List Int) : ∀ n : Nat, (tk k op cl st sp ex la fl fa co ru zs n = (-1, 0)) ∨ (0 ≤ (tk k op cl st sp ex la fl fa co ru zs n).1 ∧ (tk k op cl st sp ex la fl fa co ru zs n).1 < n ∧ LotOK k op cl st sp ex la fl fa co ru ∧ op ≤ (tk k op cl st sp ex la fl fa co ru zs n).2 ∧ (tk k op cl st sp ex la fl fa co ru zs n).2 < cl) := by
  intro n
  induction n with
  | zero => exact .inl rfl
  | succ n ih =>
    have keep : (tk k op cl st sp ex la fl fa co ru zs n = (-1, 0)) ∨ (0 ≤ (tk k op cl st sp ex la fl fa co ru zs n).1 ∧ (tk k op cl st sp ex la fl fa co ru zs n).1 < ((n + 1 : Nat) : Int) ∧ LotOK k op cl st sp ex la fl fa co ru ∧ op ≤ (tk k op cl st sp ex la fl fa co ru zs n).2 ∧ (tk k op cl st sp ex la fl fa co ru zs n).2 < cl) := by
      rcases ih with h | ⟨h1, h2, h3⟩
      · exact .inl h
      · exact .inr ⟨h1, by omega, h3⟩
    rw [tk]
    split
    · rename_i t e
      obtain ⟨a, _, c, d⟩ := firstL_some k op cl st sp ex la fl fa co ru _ t e
      split
      · exact .inr ⟨by show (0:Int) ≤ (n:Int); omega, by show (n:Int) < _; omega, a, c, d⟩
      · exact keep
    · exact keep
theorem First_none (k op cl st sp ex la fl fa co ru c : Int) (w : World) (h : firstL k op cl st sp ex la fl fa co ru c = none) : Calls Try.prog 13 #[.agg #[.int .i64 k, .int .i64 op, .int .i64 cl, .int .i64 st, .int .i64 sp, .int .i64 ex, .int .i64 la, .int .i64 fl, .int .i64 fa, .int .i64 co, .int .i64 ru], .int .i64 c] w fun e w' => e = .returned (.tuple #[.int .i64 0, .bool false]) ∧ Below w.heap.size w w' := by
  by_cases hL : LotOK k op cl st sp ex la fl fa co ru
  · have e : firstI op cl st fl fa c = none := by unfold firstL at h; rwa [if_pos hL] at h
    exact (First_ok k op cl st sp ex la fl fa co ru c w hL).mono fun _ _ ⟨a, b⟩ => ⟨by rw [a, e]; rfl, b⟩
  · exact First_no k op cl st sp ex la fl fa co ru c w hL
theorem First_some (k op cl st sp ex la fl fa co ru c t : Int) (w : World) (h : firstL k op cl st sp ex la fl fa co ru c = some t) : Calls Try.prog 13 #[.agg #[.int .i64 k, .int .i64 op, .int .i64 cl, .int .i64 st, .int .i64 sp, .int .i64 ex, .int .i64 la, .int .i64 fl, .int .i64 fa, .int .i64 co, .int .i64 ru], .int .i64 c] w fun e w' => e = .returned (.tuple #[.int .i64 t, .bool true]) ∧ Below w.heap.size w w' := by
  obtain ⟨hL, e, _⟩ := firstL_some k op cl st sp ex la fl fa co ru c t h
  exact (First_ok k op cl st sp ex la fl fa co ru c w hL).mono fun _ _ ⟨a, b⟩ => ⟨by rw [a, e]; rfl, b⟩
theorem rFirst_none' (k op cl st sp ex la fl fa co ru c : Int) (w : World) (h : firstL k op cl st sp ex la fl fa co ru c = none) : Calls Try.prog 29 #[.agg #[.int .i64 k, .int .i64 op, .int .i64 cl, .int .i64 st, .int .i64 sp, .int .i64 ex, .int .i64 la, .int .i64 fl, .int .i64 fa, .int .i64 co, .int .i64 ru], .int .i64 c] w fun e w' => e = .returned (.tuple #[.int .i64 0, .bool false]) ∧ Below w.heap.size w w' := by
  by_cases hL : LotOK k op cl st sp ex la fl fa co ru
  · have e : firstI op cl st fl fa c = none := by unfold firstL at h; rwa [if_pos hL] at h
    exact (rFirst_ok k op cl st sp ex la fl fa co ru c w hL).mono fun _ _ ⟨a, b⟩ => ⟨by rw [a, e]; rfl, b⟩
  · exact rFirst_no k op cl st sp ex la fl fa co ru c w hL
theorem rFirst_some' (k op cl st sp ex la fl fa co ru c t : Int) (w : World) (h : firstL k op cl st sp ex la fl fa co ru c = some t) : Calls Try.prog 29 #[.agg #[.int .i64 k, .int .i64 op, .int .i64 cl, .int .i64 st, .int .i64 sp, .int .i64 ex, .int .i64 la, .int .i64 fl, .int .i64 fa, .int .i64 co, .int .i64 ru], .int .i64 c] w fun e w' => e = .returned (.tuple #[.int .i64 t, .bool true]) ∧ Below w.heap.size w w' := by
  obtain ⟨hL, e, _⟩ := firstL_some k op cl st sp ex la fl fa co ru c t h
  exact (rFirst_ok k op cl st sp ex la fl fa co ru c w hL).mono fun _ _ ⟨a, b⟩ => ⟨by rw [a, e]; rfl, b⟩
end Go.Proofs.Ytiopohdhadilfaa
