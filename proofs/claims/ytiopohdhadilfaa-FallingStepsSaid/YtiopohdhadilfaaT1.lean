import Derived.Test.YtiopohdhadilfaaB1
namespace Go.Proofs.Ytiopohdhadilfaa
open Go.ChangeShapes Go.WideShapes Go.ChangeAt Go.RowKit Go.Deep
set_option linter.unusedSimpArgs false
set_option linter.unusedVariables false

/-- may the lot be a falling one? (k kind, op opens, cl closes, st start, fl floor, fa fall) -/
def LotOK (k op cl st sp ex la fl fa co ru : Int) : Prop :=
  k = 2 ∧ sp = 0 ∧ ex = 0 ∧ la = 0 ∧ co = 0 ∧ ru = 0 ∧ 0 ≤ op ∧ op ≤ 1099511627776 ∧ 0 ≤ cl ∧ cl ≤ 1099511627776 ∧ op < cl ∧ 0 ≤ st ∧ st ≤ 1099511627776 ∧
  0 ≤ fl ∧ fl ≤ st ∧ 0 ≤ fa ∧ fa ≤ 1099511627776
instance (k op cl st sp ex la fl fa co ru : Int) : Decidable (LotOK k op cl st sp ex la fl fa co ru) := by unfold LotOK; infer_instance
def chk (k op cl st sp ex la fl fa co ru : Int) : Int := if LotOK k op cl st sp ex la fl fa co ru then 0 else 2
theorem bnd (k op cl st sp ex la fl fa co ru : Int) (h : LotOK k op cl st sp ex la fl fa co ru) : 0 ≤ op ∧ op ≤ 1099511627776 ∧ 0 ≤ cl ∧ cl ≤ 1099511627776 ∧ op < cl ∧ 0 ≤ st ∧ st ≤ 1099511627776 ∧ 0 ≤ fl ∧ fl ≤ st ∧ 0 ≤ fa ∧ fa ≤ 1099511627776 := by
  unfold LotOK at h; omega

set_option maxHeartbeats 1000000 in
theorem check_any (k op cl st sp ex la fl fa co ru : Int) (w : World) : Calls Try.prog 12 #[.agg #[.int .i64 k, .int .i64 op, .int .i64 cl, .int .i64 st, .int .i64 sp, .int .i64 ex, .int .i64 la, .int .i64 fl, .int .i64 fa, .int .i64 co, .int .i64 ru]] w fun e w' => e = .returned (.int .i64 (chk k op cl st sp ex la fl fa co ru)) ∧ Below w.heap.size w w' := by
  go_enter Try.func12, Try.ntmps12
  go_wp2
  all_goals go_ret
  all_goals refine ⟨ret_int ?_, by (focus repeat' (first | (with_reducible exact Below.refl _ _) | (with_reducible assumption) | (with_reducible refine Below.alloc ?_ ?_ _) | (with_reducible refine Below.drew ?_) | (with_reducible refine bdrewN ?_ _) | (with_reducible refine Below.setCell ?_ ?_ _) | (first | (with_reducible exact Nat.le_refl _) | (with_reducible assumption) | omega | (simp; omega) | (simp; done))))⟩
  all_goals (try simp only [Bool.not_eq_false', Bool.not_eq_true', decide_eq_true_eq, decide_eq_false_iff_not] at *)
  all_goals first | (unfold chk; rw [if_neg (by unfold LotOK; omega)]) | (unfold chk; rw [if_pos (by unfold LotOK; omega)])
theorem check_ok (k op cl st sp ex la fl fa co ru : Int) (w : World) (h : LotOK k op cl st sp ex la fl fa co ru) : Calls Try.prog 12 #[.agg #[.int .i64 k, .int .i64 op, .int .i64 cl, .int .i64 st, .int .i64 sp, .int .i64 ex, .int .i64 la, .int .i64 fl, .int .i64 fa, .int .i64 co, .int .i64 ru]] w fun e w' => e = .returned (.int .i64 0) ∧ Below w.heap.size w w' :=
  (check_any k op cl st sp ex la fl fa co ru w).mono fun _ _ ⟨he, hb⟩ => ⟨by rw [he, chk, if_pos h], hb⟩
theorem check_no (k op cl st sp ex la fl fa co ru : Int) (w : World) (h : ¬ LotOK k op cl st sp ex la fl fa co ru) : Calls Try.prog 12 #[.agg #[.int .i64 k, .int .i64 op, .int .i64 cl, .int .i64 st, .int .i64 sp, .int .i64 ex, .int .i64 la, .int .i64 fl, .int .i64 fa, .int .i64 co, .int .i64 ru]] w fun e w' => e = .returned (.int .i64 2) ∧ Below w.heap.size w w' :=
  (check_any k op cl st sp ex la fl fa co ru w).mono fun _ _ ⟨he, hb⟩ => ⟨by rw [he, chk, if_neg h], hb⟩

set_option maxHeartbeats 1000000 in
theorem rcheck_any (k op cl st sp ex la fl fa co ru : Int) (w : World) : Calls Try.prog 35 #[.agg #[.int .i64 k, .int .i64 op, .int .i64 cl, .int .i64 st, .int .i64 sp, .int .i64 ex, .int .i64 la, .int .i64 fl, .int .i64 fa, .int .i64 co, .int .i64 ru]] w fun e w' => e = .returned (.int .i64 (chk k op cl st sp ex la fl fa co ru)) ∧ Below w.heap.size w w' := by
  go_enter Try.func35, Try.ntmps35
  go_wp2
  all_goals go_ret
  all_goals refine ⟨ret_int ?_, by (focus repeat' (first | (with_reducible exact Below.refl _ _) | (with_reducible assumption) | (with_reducible refine Below.alloc ?_ ?_ _) | (with_reducible refine Below.drew ?_) | (with_reducible refine bdrewN ?_ _) | (with_reducible refine Below.setCell ?_ ?_ _) | (first | (with_reducible exact Nat.le_refl _) | (with_reducible assumption) | omega | (simp; omega) | (simp; done))))⟩
  all_goals (try simp only [Bool.not_eq_false', Bool.not_eq_true', decide_eq_true_eq, decide_eq_false_iff_not] at *)
  all_goals first | (unfold chk; rw [if_neg (by unfold LotOK; omega)]) | (unfold chk; rw [if_pos (by unfold LotOK; omega)])
theorem rcheck_ok (k op cl st sp ex la fl fa co ru : Int) (w : World) (h : LotOK k op cl st sp ex la fl fa co ru) : Calls Try.prog 35 #[.agg #[.int .i64 k, .int .i64 op, .int .i64 cl, .int .i64 st, .int .i64 sp, .int .i64 ex, .int .i64 la, .int .i64 fl, .int .i64 fa, .int .i64 co, .int .i64 ru]] w fun e w' => e = .returned (.int .i64 0) ∧ Below w.heap.size w w' :=
  (rcheck_any k op cl st sp ex la fl fa co ru w).mono fun _ _ ⟨he, hb⟩ => ⟨by rw [he, chk, if_pos h], hb⟩
theorem rcheck_no (k op cl st sp ex la fl fa co ru : Int) (w : World) (h : ¬ LotOK k op cl st sp ex la fl fa co ru) : Calls Try.prog 35 #[.agg #[.int .i64 k, .int .i64 op, .int .i64 cl, .int .i64 st, .int .i64 sp, .int .i64 ex, .int .i64 la, .int .i64 fl, .int .i64 fa, .int .i64 co, .int .i64 ru]] w fun e w' => e = .returned (.int .i64 2) ∧ Below w.heap.size w w' :=
  (rcheck_any k op cl st sp ex la fl fa co ru w).mono fun _ _ ⟨he, hb⟩ => ⟨by rw [he, chk, if_neg h], hb⟩
end Go.Proofs.Ytiopohdhadilfaa
