import Derived.Test.YtimabgakemgldaaT30
import Derived.Test.YtimabgakemgldaaM1
import Derived.Laws.LoneSync
import Derived.WalkKit
import Derived.StillTailTactics
import Derived.Deep.RegionLaw
import Derived.Deep.RegionHeld3
import Derived.Laws.OwnMore
import Derived.Deep.Matrix
import Derived.BigQuiet
import Derived.Deep.QuietTactic
import Derived.Laws.EntriesVeiled
namespace Go.Proofs.Ytimabgakemgldaa
open Go.Maps Go.ChangeMaps Go.WideElems Go.WideMaps Go.ChangeShapes Go.WideShapes Go.ChangeAt Go.RowKit Go.Deep
set_option linter.unusedSimpArgs false
set_option linter.unusedVariables false

theorem law55 : Keyed Try.prog 55 := int_keyed Try.underlying55
theorem op_put {w : World} {b n : Nat} {f : Lit → Option Value} (h : MapIs Try.prog 55 w b n f) (hn : n < 100) (i : Int) (hwf : (Lit.int .i64 i).wf = true) (hf : f (.int .i64 i) = none) (v : Value) :
    ∃ w', (Instr.mapUpdate 172 (.map (some b)) (.int .i64 i) v).run Try.prog w = .ok () w' ∧ MapIs Try.prog 55 w' b (n + 1) (setAt f (.int .i64 i) v) ∧ w.grownBy w' (some b) := by
  obtain ⟨w', h1, h2, h3⟩ := h.store law55 Try.underlying172 (by unfold maxLen; omega) (val := v) (keyOf_int_mk Try.underlying55 hwf)
  rw [hf] at h2
  exact ⟨w', h1, h2, h3.grown⟩
theorem lit_ne {i j : Int} (h : i ≠ j) : (Lit.int .i64 i) ≠ .int .i64 j := fun e => h (by injection e)
/-- the table of the methods -/
noncomputable def opF (wp : Nat) : Lit → Option Value := (setAt (setAt (setAt (setAt (setAt (fun _ => none : Lit → Option Value) (.int .i64 1) (.func (.func 79) #[.pointer (some ⟨wp, 0, none⟩)] #[])) (.int .i64 2) (.func (.func 80) #[.pointer (some ⟨wp, 0, none⟩)] #[])) (.int .i64 3) (.func (.func 81) #[.pointer (some ⟨wp, 0, none⟩)] #[])) (.int .i64 4) (.func (.func 82) #[.pointer (some ⟨wp, 0, none⟩)] #[])) (.int .i64 5) (.func (.func 83) #[.pointer (some ⟨wp, 0, none⟩)] #[]))
theorem op_map (wp : Nat) (W : World) : ∃ w1 w2 w3 w4 w5, (Instr.mapUpdate 172 (.map (some W.heap.size)) (.int .i64 1) (.func (.func 79) #[.pointer (some ⟨wp, 0, none⟩)] #[])).run Try.prog (W.alloc (.map #[] 0)) = .ok () w1 ∧ (Instr.mapUpdate 172 (.map (some W.heap.size)) (.int .i64 2) (.func (.func 80) #[.pointer (some ⟨wp, 0, none⟩)] #[])).run Try.prog w1 = .ok () w2 ∧ (Instr.mapUpdate 172 (.map (some W.heap.size)) (.int .i64 3) (.func (.func 81) #[.pointer (some ⟨wp, 0, none⟩)] #[])).run Try.prog w2 = .ok () w3 ∧ (Instr.mapUpdate 172 (.map (some W.heap.size)) (.int .i64 4) (.func (.func 82) #[.pointer (some ⟨wp, 0, none⟩)] #[])).run Try.prog w3 = .ok () w4 ∧ (Instr.mapUpdate 172 (.map (some W.heap.size)) (.int .i64 5) (.func (.func 83) #[.pointer (some ⟨wp, 0, none⟩)] #[])).run Try.prog w4 = .ok () w5 ∧ MapIs Try.prog 55 w5 W.heap.size 5 (opF wp) ∧ Below W.heap.size W w5 := by
  have h0 := MapIs.made W Try.prog 55
  obtain ⟨w1, r1, h1, g1⟩ := op_put h0 (by decide) 1 (by decide) rfl (.func (.func 79) #[.pointer (some ⟨wp, 0, none⟩)] #[])
  obtain ⟨w2, r2, h2, g2⟩ := op_put h1 (by decide) 2 (by decide) (by rw [setAt_other _ _ (lit_ne (by decide))]) (.func (.func 80) #[.pointer (some ⟨wp, 0, none⟩)] #[])
  obtain ⟨w3, r3, h3, g3⟩ := op_put h2 (by decide) 3 (by decide) (by rw [setAt_other _ _ (lit_ne (by decide)), setAt_other _ _ (lit_ne (by decide))]) (.func (.func 81) #[.pointer (some ⟨wp, 0, none⟩)] #[])
  obtain ⟨w4, r4, h4, g4⟩ := op_put h3 (by decide) 4 (by decide) (by rw [setAt_other _ _ (lit_ne (by decide)), setAt_other _ _ (lit_ne (by decide)), setAt_other _ _ (lit_ne (by decide))]) (.func (.func 82) #[.pointer (some ⟨wp, 0, none⟩)] #[])
  obtain ⟨w5, r5, h5, g5⟩ := op_put h4 (by decide) 5 (by decide) (by rw [setAt_other _ _ (lit_ne (by decide)), setAt_other _ _ (lit_ne (by decide)), setAt_other _ _ (lit_ne (by decide)), setAt_other _ _ (lit_ne (by decide))]) (.func (.func 83) #[.pointer (some ⟨wp, 0, none⟩)] #[])
  have b0 : Below W.heap.size W (W.alloc (.map #[] 0)) := (Below.refl _ _).alloc (Nat.le_refl _) _
  have b1 := b0.grown g1 (b0.size) (fun q e => by cases e; exact Nat.le_refl _)
  have b2 := b1.grown g2 (b1.size) (fun q e => by cases e; exact Nat.le_refl _)
  have b3 := b2.grown g3 (b2.size) (fun q e => by cases e; exact Nat.le_refl _)
  have b4 := b3.grown g4 (b3.size) (fun q e => by cases e; exact Nat.le_refl _)
  have b5 := b4.grown g5 (b4.size) (fun q e => by cases e; exact Nat.le_refl _)
  exact ⟨w1, w2, w3, w4, w5, r1, r2, r3, r4, r5, h5, b5⟩
end Go.Proofs.Ytimabgakemgldaa
