import Derived.Test.YtbbdneekfejjkaaY8
namespace Go.Proofs.Ytbbdneekfejjkaa.runs
open Go.ChangeShapes Go.WideShapes Go.ChangeAt Go.RowKit Go.Deep Go.Shelf
set_option linter.unusedSimpArgs false
set_option linter.unusedVariables false

theorem lastR_upto (k op cl st sp ex la fl fa co ru : Int) (zz : Nat → Nat → Int) : ∀ L, lastR (r0 cl) (upto (stp op st sp ex la cl (bids zz)) L) = (rs op st sp ex la (r0 cl) (bids zz) L).1
  | 0 => rfl
  | L + 1 => by rw [upto_succ, lastR_snoc]; rfl
theorem oks_upto (f : Nat → R4 × Int) : ∀ L, oks (upto f L) = cnt f L
  | 0 => rfl
  | L + 1 => by rw [upto_succ, oks_snoc, oks_upto f L]; rfl
theorem flat_upto (f : Nat → R4 × Int) (L : Nat) : (upto f L).flatMap stepc = flat5 f L := by
  unfold upto flat5
  rw [List.flatMap_map]
theorem LadderRun_c (k op cl st sp ex la fl fa co ru : Int) (so : Option Addr) (cap L : Nat) (zz : Nat → Nat → Int) (leave : Int) (w : World) (hb : RowB w so cap L zz) (hzz : ∀ j, j < L → zz j 2 ≤ 9223372036854775807) : Calls Try.prog 6 #[.agg #[.int .i64 k, .int .i64 op, .int .i64 cl, .int .i64 st, .int .i64 sp, .int .i64 ex, .int .i64 la, .int .i64 fl, .int .i64 fa, .int .i64 co, .int .i64 ru], .slice so L cap, .int .i64 leave] w fun e w' => e = .returned (.bool true) ∧ Below w.heap.size w w' := by
  by_cases hL : 200 < L
  · exact LRun_long k op cl st sp ex la fl fa co ru so cap L zz leave w hb hL
  · have hL' : L ≤ 200 := by omega
    by_cases h : LotOK k op cl st sp ex la fl fa co ru
    · refine LRun_main k op cl st sp ex la fl fa co ru so cap L zz leave (lastR (r0 cl) (upto (stp op st sp ex la cl (bids zz)) L)) (oks (upto (stp op st sp ex la cl (bids zz)) L) : Int) 0 (upto (stp op st sp ex la cl (bids zz)) L) w hb hL' (by rw [upto_length]; exact hL') ?_ ?_ ?_
      · intro so cap w hb
        exact Run_gen k op cl st sp ex la fl fa co ru so cap L zz (r0 cl) 0 (upto (stp op st sp ex la cl (bids zz)) L) w hb (by rw [upto_length]; omega) (fun w => begin_ok k op cl st sp ex la fl fa co ru w h) (fun w hb => All_yes k op cl st sp ex la fl fa co ru so cap L zz w (by omega) hb h hzz)
      · intro so cap w hb
        exact All_yes k op cl st sp ex la fl fa co ru so cap L zz w (by omega) hb h hzz
      · intro so cap w hb
        rw [lastR_upto k op cl st sp ex la fl fa co ru, oks_upto, flat_upto, upto_length]
        exact refRun_ok k op cl st sp ex la fl fa co ru so cap L zz w h hL' hb hzz
    · refine LRun_main k op cl st sp ex la fl fa co ru so cap L zz leave (0, 0, 0, 0) 0 2 [] w hb hL' (by simp) ?_ ?_ ?_
      · intro so cap w hb
        exact Run_gen k op cl st sp ex la fl fa co ru so cap L zz (0, 0, 0, 0) 2 [] w hb (by simp) (fun w => begin_no k op cl st sp ex la fl fa co ru w h) (fun w hb => All_none k op cl st sp ex la fl fa co ru so cap L zz w (by omega) hb h)
      · intro so cap w hb
        exact All_none k op cl st sp ex la fl fa co ru so cap L zz w (by omega) hb h
      · intro so cap w hb
        refine (refRun_no k op cl st sp ex la fl fa co ru so cap L w h).mono ?_
        rintro e w' ⟨rfl, hb'⟩
        exact ⟨⟨_, rfl, World.ownsRow_nil _ _ _ _⟩, hb'⟩
end Go.Proofs.Ytbbdneekfejjkaa.runs
