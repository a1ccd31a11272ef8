import Derived.Test.YtbbdneekfejjkaaT1
namespace Go.Proofs.Ytbbdneekfejjkaa
open Go.ChangeShapes Go.WideShapes Go.ChangeAt Go.RowKit
set_option linter.unusedSimpArgs false
set_option linter.unusedVariables false

theorem ret_int {k : IntKind} {a b : Int} (h : a = b) : Ending.returned (.int k a) = .returned (.int k b) := by rw [h]
theorem ret_bool {a b : Bool} (h : a = b) : Ending.returned (.bool a) = .returned (.bool b) := by rw [h]
theorem bcell {W w1 : World} (hb : Below W.heap.size W w1) : (∀ b o, b < W.heap.size → w1.cell? ⟨b, o, none⟩ = W.cell? ⟨b, o, none⟩) ∧ (∀ b o, b < W.heap.size → w1.frozen? ⟨b, o, none⟩ = W.frozen? ⟨b, o, none⟩) :=
  ⟨fun b o h => hb.cell (p := ⟨b, o, none⟩) h, fun b o h => hb.frozen (p := ⟨b, o, none⟩) h⟩

/-- may the lot be a rising one? -/
def LotOK (k op cl st sp ex la fl fa co ru : Int) : Prop :=
  k = 1 ∧ fl = 0 ∧ fa = 0 ∧ co = 0 ∧ ru = 0 ∧ 0 ≤ op ∧ op ≤ 1099511627776 ∧ 0 ≤ cl ∧ cl ≤ 1099511627776 ∧ op < cl ∧ 0 ≤ st ∧ st ≤ 1099511627776 ∧
  1 ≤ sp ∧ sp ≤ 1099511627776 ∧ 0 ≤ ex ∧ ex ≤ 1099511627776 ∧ 0 ≤ la ∧ la ≤ 1099511627776 ∧ cl ≤ la
instance (k op cl st sp ex la fl fa co ru : Int) : Decidable (LotOK k op cl st sp ex la fl fa co ru) := by unfold LotOK; infer_instance
def chk (k op cl st sp ex la fl fa co ru : Int) : Int := if LotOK k op cl st sp ex la fl fa co ru then 0 else 2

set_option maxHeartbeats 1000000 in
theorem check_any (k op cl st sp ex la fl fa co ru : Int) (w : World) : Calls Try.prog 14 #[.agg #[.int .i64 k, .int .i64 op, .int .i64 cl, .int .i64 st, .int .i64 sp, .int .i64 ex, .int .i64 la, .int .i64 fl, .int .i64 fa, .int .i64 co, .int .i64 ru]] w fun e w' => e = .returned (.int .i64 (chk k op cl st sp ex la fl fa co ru)) ∧ Below w.heap.size w w' := by
  go_enter Try.func14, Try.ntmps14
  go_wp2
  all_goals go_ret
  all_goals refine ⟨ret_int ?_, by (repeat' (first | (with_reducible exact Below.refl _ _) | (with_reducible assumption) | (with_reducible refine Below.alloc ?_ ?_ _) | (with_reducible refine Below.drew ?_) | (with_reducible refine Below.setCell ?_ ?_ _) | (first | (with_reducible exact Nat.le_refl _) | (with_reducible assumption) | omega | (simp only [World.size_alloc, World.size_setCell, World.size_drew]; omega) | (simp; omega) | (simp; done))))⟩
  all_goals first | (unfold chk; rw [if_neg (by unfold LotOK; omega)]) | (unfold chk; rw [if_pos (by unfold LotOK; omega)])

set_option maxHeartbeats 1000000 in
theorem rcheck_any (k op cl st sp ex la fl fa co ru : Int) (w : World) : Calls Try.prog 15 #[.agg #[.int .i64 k, .int .i64 op, .int .i64 cl, .int .i64 st, .int .i64 sp, .int .i64 ex, .int .i64 la, .int .i64 fl, .int .i64 fa, .int .i64 co, .int .i64 ru]] w fun e w' => e = .returned (.int .i64 (chk k op cl st sp ex la fl fa co ru)) ∧ Below w.heap.size w w' := by
  have hsp : sp < 0 ∨ sp = 0 ∨ 0 < sp := by omega
  rcases hsp with hsp | rfl | hsp
  · go_enter Try.func15, Try.ntmps15
    go_wp2
    all_goals go_ret
    all_goals refine ⟨ret_int ?_, by (repeat' (first | (with_reducible exact Below.refl _ _) | (with_reducible assumption) | (with_reducible refine Below.alloc ?_ ?_ _) | (with_reducible refine Below.drew ?_) | (with_reducible refine Below.setCell ?_ ?_ _) | (first | (with_reducible exact Nat.le_refl _) | (with_reducible assumption) | omega | (simp only [World.size_alloc, World.size_setCell, World.size_drew]; omega) | (simp; omega) | (simp; done))))⟩
    all_goals first | (unfold chk; rw [if_neg (by unfold LotOK; omega)]) | (unfold chk; rw [if_pos (by unfold LotOK; omega)])
  · go_enter Try.func15, Try.ntmps15
    go_wp2
    all_goals go_ret
    all_goals refine ⟨ret_int ?_, by (repeat' (first | (with_reducible exact Below.refl _ _) | (with_reducible assumption) | (with_reducible refine Below.alloc ?_ ?_ _) | (with_reducible refine Below.drew ?_) | (with_reducible refine Below.setCell ?_ ?_ _) | (first | (with_reducible exact Nat.le_refl _) | (with_reducible assumption) | omega | (simp only [World.size_alloc, World.size_setCell, World.size_drew]; omega) | (simp; omega) | (simp; done))))⟩
    all_goals first | (unfold chk; rw [if_neg (by unfold LotOK; omega)]) | (unfold chk; rw [if_pos (by unfold LotOK; omega)])
  · have hs2 : (sp == 0) = false := by rw [beq_eq_false_iff_ne]; omega
    go_enter Try.func15, Try.ntmps15
    go_wp2
    all_goals go_ret
    all_goals refine ⟨ret_int ?_, by (repeat' (first | (with_reducible exact Below.refl _ _) | (with_reducible assumption) | (with_reducible refine Below.alloc ?_ ?_ _) | (with_reducible refine Below.drew ?_) | (with_reducible refine Below.setCell ?_ ?_ _) | (first | (with_reducible exact Nat.le_refl _) | (with_reducible assumption) | omega | (simp only [World.size_alloc, World.size_setCell, World.size_drew]; omega) | (simp; omega) | (simp; done))))⟩
    all_goals first | (unfold chk; rw [if_neg (by unfold LotOK; omega)]) | (unfold chk; rw [if_pos (by unfold LotOK; omega)])

theorem check_ok (k op cl st sp ex la fl fa co ru : Int) (w : World) (h : LotOK k op cl st sp ex la fl fa co ru) : Calls Try.prog 14 #[.agg #[.int .i64 k, .int .i64 op, .int .i64 cl, .int .i64 st, .int .i64 sp, .int .i64 ex, .int .i64 la, .int .i64 fl, .int .i64 fa, .int .i64 co, .int .i64 ru]] w fun e w' => e = .returned (.int .i64 0) ∧ Below w.heap.size w w' :=
  (check_any k op cl st sp ex la fl fa co ru w).mono fun _ _ ⟨he, hb⟩ => ⟨by rw [he, chk, if_pos h], hb⟩
theorem check_no (k op cl st sp ex la fl fa co ru : Int) (w : World) (h : ¬ LotOK k op cl st sp ex la fl fa co ru) : Calls Try.prog 14 #[.agg #[.int .i64 k, .int .i64 op, .int .i64 cl, .int .i64 st, .int .i64 sp, .int .i64 ex, .int .i64 la, .int .i64 fl, .int .i64 fa, .int .i64 co, .int .i64 ru]] w fun e w' => e = .returned (.int .i64 2) ∧ Below w.heap.size w w' :=
  (check_any k op cl st sp ex la fl fa co ru w).mono fun _ _ ⟨he, hb⟩ => ⟨by rw [he, chk, if_neg h], hb⟩
theorem rcheck_ok (k op cl st sp ex la fl fa co ru : Int) (w : World) (h : LotOK k op cl st sp ex la fl fa co ru) : Calls Try.prog 15 #[.agg #[.int .i64 k, .int .i64 op, .int .i64 cl, .int .i64 st, .int .i64 sp, .int .i64 ex, .int .i64 la, .int .i64 fl, .int .i64 fa, .int .i64 co, .int .i64 ru]] w fun e w' => e = .returned (.int .i64 0) ∧ Below w.heap.size w w' :=
  (rcheck_any k op cl st sp ex la fl fa co ru w).mono fun _ _ ⟨he, hb⟩ => ⟨by rw [he, chk, if_pos h], hb⟩
theorem rcheck_no (k op cl st sp ex la fl fa co ru : Int) (w : World) (h : ¬ LotOK k op cl st sp ex la fl fa co ru) : Calls Try.prog 15 #[.agg #[.int .i64 k, .int .i64 op, .int .i64 cl, .int .i64 st, .int .i64 sp, .int .i64 ex, .int .i64 la, .int .i64 fl, .int .i64 fa, .int .i64 co, .int .i64 ru]] w fun e w' => e = .returned (.int .i64 2) ∧ Below w.heap.size w w' :=
  (rcheck_any k op cl st sp ex la fl fa co ru w).mono fun _ _ ⟨he, hb⟩ => ⟨by rw [he, chk, if_neg h], hb⟩
end Go.Proofs.Ytbbdneekfejjkaa
