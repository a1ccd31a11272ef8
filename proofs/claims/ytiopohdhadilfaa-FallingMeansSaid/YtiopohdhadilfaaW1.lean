import Derived.Test.YtiopohdhadilfaaV2
namespace Go.Proofs.Ytiopohdhadilfaa
open Go.ChangeShapes Go.WideShapes Go.ChangeAt Go.RowKit Go.Deep
set_option linter.unusedSimpArgs false
set_option linter.unusedVariables false

theorem tk_spec (k op cl st sp ex la fl fa co ru : Int) (zs : List Int) : ∀ n : Nat,
    (tk k op cl st sp ex la fl fa co ru zs n = (-1, 0) ∧ ∀ j, j < n → 0 ≤ zs.getD j 0 → zs.getD j 0 ≤ 1099511627776 → firstL k op cl st sp ex la fl fa co ru (zs.getD j 0) = none) ∨
    (∃ (i : Nat) (t : Int), i < n ∧ tk k op cl st sp ex la fl fa co ru zs n = ((i : Int), t) ∧ 0 ≤ zs.getD i 0 ∧ zs.getD i 0 ≤ 1099511627776 ∧ firstL k op cl st sp ex la fl fa co ru (zs.getD i 0) = some t ∧ ∀ j, j < n → 0 ≤ zs.getD j 0 → zs.getD j 0 ≤ 1099511627776 → ∀ u, firstL k op cl st sp ex la fl fa co ru (zs.getD j 0) = some u → t ≤ u ∧ (u = t → i ≤ j)) := by
  intro n
  induction n with
  | zero => exact .inl ⟨rfl, fun j hj => by omega⟩
  | succ n ih =>
    by_cases hv : 0 ≤ zs.getD n 0 ∧ zs.getD n 0 ≤ 1099511627776
    · cases e : firstL k op cl st sp ex la fl fa co ru (zs.getD n 0) with
      | none =>
        rw [tk_step_none k op cl st sp ex la fl fa co ru zs n e]
        rcases ih with ⟨a, b⟩ | ⟨i, t, hi, a, v1, v2, f, b⟩
        · refine .inl ⟨a, fun j hj h1 h2 => ?_⟩
          by_cases hjn : j < n
          · exact b j hjn h1 h2
          · (have hj' : j = n := by omega); rw [hj']; exact e
        · refine .inr ⟨i, t, by omega, a, v1, v2, f, fun j hj h1 h2 u hu => ?_⟩
          by_cases hjn : j < n
          · exact b j hjn h1 h2 u hu
          · (have hj' : j = n := by omega); rw [hj', e] at hu; cases hu
      | some u0 =>
        rcases ih with ⟨a, b⟩ | ⟨i, t, hi, a, v1, v2, f, b⟩
        · rw [tk_step_yes k op cl st sp ex la fl fa co ru zs n u0 e ⟨hv.1, hv.2, .inl (by rw [a]; decide)⟩]
          refine .inr ⟨n, u0, by omega, rfl, hv.1, hv.2, e, fun j hj h1 h2 u hu => ?_⟩
          by_cases hjn : j < n
          · rw [b j hjn h1 h2] at hu; cases hu
          · (have hj' : j = n := by omega); rw [hj', e] at hu; cases hu; exact ⟨by omega, by omega⟩
        · by_cases hlt : u0 < t
          · rw [tk_step_yes k op cl st sp ex la fl fa co ru zs n u0 e ⟨hv.1, hv.2, .inr (by rw [a]; exact hlt)⟩]
            refine .inr ⟨n, u0, by omega, rfl, hv.1, hv.2, e, fun j hj h1 h2 u hu => ?_⟩
            by_cases hjn : j < n
            · have := (b j hjn h1 h2 u hu).1
              exact ⟨by omega, by omega⟩
            · (have hj' : j = n := by omega); rw [hj', e] at hu; cases hu; exact ⟨by omega, by omega⟩
          · rw [tk_step_no k op cl st sp ex la fl fa co ru zs n u0 e (by rw [a]; rintro ⟨_, _, h | h⟩ <;> simp only at h <;> omega)]
            refine .inr ⟨i, t, by omega, a, v1, v2, f, fun j hj h1 h2 u hu => ?_⟩
            by_cases hjn : j < n
            · exact b j hjn h1 h2 u hu
            · (have hj' : j = n := by omega); rw [hj', e] at hu; cases hu; exact ⟨by omega, by omega⟩
    · rw [tk_bad k op cl st sp ex la fl fa co ru zs n hv]
      rcases ih with ⟨a, b⟩ | ⟨i, t, hi, a, v1, v2, f, b⟩
      · refine .inl ⟨a, fun j hj h1 h2 => ?_⟩
        by_cases hjn : j < n
        · exact b j hjn h1 h2
        · (have hj' : j = n := by omega); subst hj'; exact absurd ⟨h1, h2⟩ hv
      · refine .inr ⟨i, t, by omega, a, v1, v2, f, fun j hj h1 h2 u hu => ?_⟩
        by_cases hjn : j < n
        · exact b j hjn h1 h2 u hu
        · (have hj' : j = n := by omega); subst hj'; exact absurd ⟨h1, h2⟩ hv
theorem Takes_won (k op cl st sp ex la fl fa co ru : Int) (b off cap : Nat) (zs : List Int) (i : Nat) (t : Int) (w : World) (hb : b < w.heap.size) (hp : 0 < zs.length) (hmax : zs.length ≤ 4611686018427387904) (hc : ∀ j, j < zs.length → w.cell? ⟨b, off + j, none⟩ = some (.int .i64 (zs.getD j 0))) (h : tk k op cl st sp ex la fl fa co ru zs zs.length = ((i : Int), t)) : Calls Try.prog 8 #[.agg #[.int .i64 k, .int .i64 op, .int .i64 cl, .int .i64 st, .int .i64 sp, .int .i64 ex, .int .i64 la, .int .i64 fl, .int .i64 fa, .int .i64 co, .int .i64 ru], .slice (some ⟨b, off, none⟩) zs.length cap] w fun e w' => e = .returned (.tuple #[.int .i64 i, .int .i64 (priceI op st fl fa t), .bool true]) ∧ Below w.heap.size w w' :=
  (Takes_row k op cl st sp ex la fl fa co ru b off cap zs w hb hp hmax hc).mono fun _ _ ⟨h1, h2⟩ => ⟨by (rw [h1]; unfold Fin3; rw [h, if_neg (by simp only; omega)]), h2⟩
theorem Takes_lost (k op cl st sp ex la fl fa co ru : Int) (b off cap : Nat) (zs : List Int) (w : World) (hb : b < w.heap.size) (hp : 0 < zs.length) (hmax : zs.length ≤ 4611686018427387904) (hc : ∀ j, j < zs.length → w.cell? ⟨b, off + j, none⟩ = some (.int .i64 (zs.getD j 0))) (h : tk k op cl st sp ex la fl fa co ru zs zs.length = (-1, 0)) : Calls Try.prog 8 #[.agg #[.int .i64 k, .int .i64 op, .int .i64 cl, .int .i64 st, .int .i64 sp, .int .i64 ex, .int .i64 la, .int .i64 fl, .int .i64 fa, .int .i64 co, .int .i64 ru], .slice (some ⟨b, off, none⟩) zs.length cap] w fun e w' => e = .returned (.tuple #[.int .i64 0, .int .i64 0, .bool false]) ∧ Below w.heap.size w w' :=
  (Takes_row k op cl st sp ex la fl fa co ru b off cap zs w hb hp hmax hc).mono fun _ _ ⟨h1, h2⟩ => ⟨by (rw [h1]; unfold Fin3; rw [h, if_pos (by decide)]), h2⟩
theorem tk_no (k op cl st sp ex la fl fa co ru : Int) (zs : List Int) (h : ¬ LotOK k op cl st sp ex la fl fa co ru) (n : Nat) : tk k op cl st sp ex la fl fa co ru zs n = (-1, 0) := by
  rcases tk_spec k op cl st sp ex la fl fa co ru zs n with ⟨a, _⟩ | ⟨i, t, _, _, _, _, f, _⟩
  · exact a
  · unfold firstL at f; rw [if_neg h] at f; cases f
theorem le_split {t u : Int} {i n : Nat} (h : t ≤ u ∧ (u = t → i ≤ n)) : t < u ∨ (u = t ∧ i ≤ n) := by
  by_cases hh : u = t
  · exact .inr ⟨hh, h.2 hh⟩
  · left; omega
def pV (k op cl st sp ex la fl fa co ru t : Int) : Int := if op ≤ t ∧ t < cl then priceI op st fl fa t else 0
def pE (k op cl st sp ex la fl fa co ru t : Int) : Int := if op ≤ t ∧ t < cl then 0 else 6
theorem Price_gen (k op cl st sp ex la fl fa co ru t : Int) (w : World) (h : LotOK k op cl st sp ex la fl fa co ru) : Calls Try.prog 14 #[.agg #[.int .i64 k, .int .i64 op, .int .i64 cl, .int .i64 st, .int .i64 sp, .int .i64 ex, .int .i64 la, .int .i64 fl, .int .i64 fa, .int .i64 co, .int .i64 ru], .int .i64 t] w fun e w' => e = .returned (.tuple #[.int .i64 (pV k op cl st sp ex la fl fa co ru t), .int .i64 (pE k op cl st sp ex la fl fa co ru t)]) ∧ Below w.heap.size w w' := by
  by_cases c : op ≤ t ∧ t < cl
  · unfold pV pE; rw [if_pos c, if_pos c]; exact Price_ok k op cl st sp ex la fl fa co ru t w h c.1 c.2
  · unfold pV pE; rw [if_neg c, if_neg c]; exact Price_time k op cl st sp ex la fl fa co ru t w h (by omega)
/-- what the law asks of two prices in a row -/
theorem two_prices (k op cl st sp ex la fl fa co ru t u : Int) (h : LotOK k op cl st sp ex la fl fa co ru) (hu : 0 ≤ t → u = t - 1) :
    ¬ pE k op cl st sp ex la fl fa co ru t = 0 ∨ (pE k op cl st sp ex la fl fa co ru t = 0 ∧ fl ≤ pV k op cl st sp ex la fl fa co ru t ∧ pV k op cl st sp ex la fl fa co ru t ≤ st ∧ (¬ pE k op cl st sp ex la fl fa co ru u = 0 ∨ (pE k op cl st sp ex la fl fa co ru u = 0 ∧ pV k op cl st sp ex la fl fa co ru t ≤ pV k op cl st sp ex la fl fa co ru u))) := by
  have b := bnd k op cl st sp ex la fl fa co ru h
  by_cases c : op ≤ t ∧ t < cl
  · right
    obtain rfl := hu (by omega)
    have q := price_between (op := op) (st := st) (fl := fl) (fa := fa) (t := t) (by omega) (by omega) c.1
    refine ⟨by unfold pE; rw [if_pos c], by unfold pV; rw [if_pos c]; exact q.1, by unfold pV; rw [if_pos c]; exact q.2, ?_⟩
    by_cases d : op ≤ t - 1 ∧ t - 1 < cl
    · right
      refine ⟨by unfold pE; rw [if_pos d], ?_⟩
      unfold pV; rw [if_pos c, if_pos d]
      exact price_falls (by omega) (by omega) d.1 (by omega)
    · left; unfold pE; rw [if_neg d]; decide
  · left; unfold pE; rw [if_neg c]; decide
/-- what the law asks of the tick of 'First', of the tick ahead, and of one coin more -/
theorem first_facts (k op cl st sp ex la fl fa co ru x t : Int) (h : LotOK k op cl st sp ex la fl fa co ru) (hf : firstL k op cl st sp ex la fl fa co ru x = some t) :
    op ≤ t ∧ t < cl ∧ priceI op st fl fa t ≤ x ∧ priceI op st fl fa t ≤ st ∧ (¬ pE k op cl st sp ex la fl fa co ru (t - 1) = 0 ∨ (pE k op cl st sp ex la fl fa co ru (t - 1) = 0 ∧ x < pV k op cl st sp ex la fl fa co ru (t - 1))) ∧ ∃ u, firstL k op cl st sp ex la fl fa co ru (x + 1) = some u ∧ u ≤ t := by
  have b := bnd k op cl st sp ex la fl fa co ru h
  obtain ⟨_, f, _, _⟩ := firstL_some k op cl st sp ex la fl fa co ru x t hf
  obtain ⟨a1, a2, a3, a4⟩ := first_some (by omega) (by omega) (by omega) f
  have q := price_between (op := op) (st := st) (fl := fl) (fa := fa) (t := t) (by omega) (by omega) a1
  refine ⟨a1, a2, a3, q.2, ?_, ?_⟩
  · by_cases d : op ≤ t - 1 ∧ t - 1 < cl
    · right
      refine ⟨by unfold pE; rw [if_pos d], ?_⟩
      unfold pV; rw [if_pos d]
      rcases a4 with a4 | a4
      · omega
      · exact a4
    · left; unfold pE; rw [if_neg d]; decide
  · have e : firstL k op cl st sp ex la fl fa co ru (x + 1) = firstI op cl st fl fa (x + 1) := by unfold firstL; rw [if_pos h]
    rw [e]
    cases g : firstI op cl st fl fa (x + 1) with
    | none =>
      have := first_none (by omega) (by omega) g a1 a2
      omega
    | some u =>
      refine ⟨u, rfl, ?_⟩
      obtain ⟨c1, c2, c3, c4⟩ := first_some (by omega) (by omega) (by omega) g
      rcases c4 with c4 | c4
      · omega
      · by_cases hut : u ≤ t
        · exact hut
        · have := price_falls (op := op) (st := st) (fl := fl) (fa := fa) (t := t) (u := u - 1) (by omega) (by omega) a1 (by omega)
          omega
end Go.Proofs.Ytiopohdhadilfaa
