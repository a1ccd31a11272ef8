import Derived.Test.YtiopohdhadilfaaZ3
namespace Go.Proofs.Ytiopohdhadilfaa.steps
open Go.ChangeShapes Go.WideShapes Go.ChangeAt Go.RowKit Go.Deep Go.Shelf
set_option linter.unusedSimpArgs false
set_option linter.unusedVariables false

theorem flat2_nil (f : Nat → Int × Int) : flat2 f 0 = [] := rfl
theorem IsK_least (k op cl st sp ex la fl fa co ru : Int) : ∀ n, (∀ j, j < n → on k op cl st sp ex la fl fa co ru j) ∨ ∃ T, IsK k op cl st sp ex la fl fa co ru T
  | 0 => .inl (fun j hj => absurd hj (Nat.not_lt_zero _))
  | n + 1 => by
    rcases IsK_least k op cl st sp ex la fl fa co ru n with q | q
    · by_cases h : on k op cl st sp ex la fl fa co ru n
      · exact .inl (fun j hj => by
          rcases Nat.lt_or_ge j n with r | r
          · exact q j r
          · rw [show j = n by omega]; exact h)
      · exact .inr ⟨n, q, h⟩
    · exact .inr q
theorem IsK_some (k op cl st sp ex la fl fa co ru : Int) : ∃ T, IsK k op cl st sp ex la fl fa co ru T := by
  rcases IsK_least k op cl st sp ex la fl fa co ru ((cl - op).toNat + 1) with q | q
  · have := (q (cl - op).toNat (by omega)).1
    omega
  · exact q
theorem FallingSteps_c (k op cl st sp ex la fl fa co ru leave : Int) (w : World) : Calls Try.prog 5 #[.agg #[.int .i64 k, .int .i64 op, .int .i64 cl, .int .i64 st, .int .i64 sp, .int .i64 ex, .int .i64 la, .int .i64 fl, .int .i64 fa, .int .i64 co, .int .i64 ru], .int .i64 leave] w fun e w' => e = .returned (.bool true) ∧ Below w.heap.size w w' := by
  by_cases h : LotOK k op cl st sp ex la fl fa co ru
  · obtain ⟨T, hT⟩ := IsK_some k op cl st sp ex la fl fa co ru
    rcases Nat.lt_or_ge T 301 with hs | hs
    · refine FSteps_main k op cl st sp ex la fl fa co ru leave (stp k op cl st sp ex la fl fa co ru) (upto (stp k op cl st sp ex la fl fa co ru) T) T (if T < 300 then T else 300) w (by omega) (by split <;> omega) (.inl (upto_length _ _).symm) ?_ (fun w => Steps_yes k op cl st sp ex la fl fa co ru T w h hT) (fun w => ref_ok k op cl st sp ex la fl fa co ru T w h (by omega) hT.1 (fun _ => hT.2))
      intro i x hx
      have hi : i < T := by have := (List.getElem?_eq_some_iff.1 hx).1; rwa [upto_length] at this
      rw [upto_get _ _ _ hi] at hx
      exact (Option.some.inj hx).symm
    · refine FSteps_main k op cl st sp ex la fl fa co ru leave (stp k op cl st sp ex la fl fa co ru) (upto (stp k op cl st sp ex la fl fa co ru) T) 301 300 w (by omega) (by omega) (.inr ⟨rfl, by rw [upto_length]; exact hs⟩) ?_ (fun w => Steps_yes k op cl st sp ex la fl fa co ru T w h hT) (fun w => ref_ok k op cl st sp ex la fl fa co ru 301 w h (by omega) (fun j hj => hT.1 j (by omega)) (fun q => by omega))
      intro i x hx
      have hi : i < T := by have := (List.getElem?_eq_some_iff.1 hx).1; rwa [upto_length] at this
      rw [upto_get _ _ _ hi] at hx
      exact (Option.some.inj hx).symm
  · refine FSteps_main k op cl st sp ex la fl fa co ru leave (stp k op cl st sp ex la fl fa co ru) [] 0 0 w (by omega) (by omega) (.inl rfl) (fun i x hx => by simp at hx) (fun w => Steps_no k op cl st sp ex la fl fa co ru w h) (fun w => (ref_no k op cl st sp ex la fl fa co ru w h).mono ?_)
    rintro e w' ⟨rfl, hb⟩
    exact ⟨⟨_, rfl, World.ownsRow_nil _ _ _ _⟩, hb⟩
end Go.Proofs.Ytiopohdhadilfaa.steps
