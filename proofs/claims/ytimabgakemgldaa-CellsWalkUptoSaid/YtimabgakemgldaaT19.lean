import Derived.Test.YtimabgakemgldaaT16
import Derived.Laws.LoneSync
import Derived.WalkKit
import Derived.StillTailTactics
import Derived.Deep.RegionLaw
import Derived.Deep.RegionHeld3
import Derived.Laws.OwnMore
import Derived.Deep.Matrix
import Derived.BigQuiet
import Derived.Deep.QuietTactic
import Derived.Laws.EntriesVeiled
namespace Go.Proofs.Ytimabgakemgldaa
open Go.ChangeShapes Go.WideShapes Go.ChangeAt Go.RowKit Go.Deep
set_option linter.unusedSimpArgs false
set_option linter.unusedVariables false

/-- the cells of the program; L: where they lie (0 mark, 1 its cell, 2 best, 3 its cell, 4 count, 5 its stripes, 6 gate, 7 tickets, 8 their cell) -/
structure CObj (w : World) (L : Nat → Nat) (po : Option Addr) (A : Ab) : Prop where
  mark : MarkIs w (L 0) (L 1) A.mark
  best : BestIs w (L 2) (L 3) po A.bs
  cnt : CntIs w (L 4) (L 5) A.S
  gate : GateIs w (L 6) A.gt A.ar
  tick : TickIs w (L 7) (L 8) A.tt A.tk
  inj : ∀ i j, i < 9 → j < 9 → L i = L j → i = j
  pn : ∀ k i, po = some ⟨k, 0, none⟩ → i < 9 → k ≠ L i
theorem CObj.ne {w : World} {L : Nat → Nat} {po : Option Addr} {A : Ab} (h : CObj w L po A) (i j : Nat) (hi : i < 9) (hj : j < 9) (hn : i ≠ j) : L i ≠ L j := fun e => hn (h.inj i j hi hj e)
theorem CObj.lt {w : World} {L : Nat → Nat} {po : Option Addr} {A : Ab} (h : CObj w L po A) : ∀ i, i < 9 → L i < w.heap.size := fun i hi => by
  have l0 := World.block_lt_of_cell? w _ h.mark.c
  have l1 := World.block_lt_of_cell? w _ h.mark.v
  have l2 := World.block_lt_of_cell? w _ h.best.c
  have l3 := World.block_lt_of_cell? w _ h.best.v
  have l4 := World.block_lt_of_cell? w _ h.cnt.c
  have l5 := (h.cnt.r.lt (L 5) rfl).2
  have l6 := World.block_lt_of_cell? w _ h.gate.n
  have l7 := World.block_lt_of_cell? w _ h.tick.m
  have l8 := World.block_lt_of_cell? w _ h.tick.v
  obtain rfl | rfl | rfl | rfl | rfl | rfl | rfl | rfl | rfl : i = 0 ∨ i = 1 ∨ i = 2 ∨ i = 3 ∨ i = 4 ∨ i = 5 ∨ i = 6 ∨ i = 7 ∨ i = 8 := by omega
  all_goals assumption
/-- what they may write -/
def CW (L : Nat → Nat) : Nat → Prop := fun k => k = L 1 ∨ k = L 3 ∨ k = L 5 ∨ k = L 6 ∨ k = L 8
theorem CObj.keep {w w' : World} {L : Nat → Nat} {po : Option Addr} {A : Ab} (h : CObj w L po A) (hs : ∀ i, i < 9 → w'.heap[L i]? = w.heap[L i]?) (hp : ∀ k, po = some ⟨k, 0, none⟩ → w'.heap[k]? = w.heap[k]?) : CObj w' L po A :=
  ⟨h.mark.stays (hs 0 (by decide)) (hs 1 (by decide)), h.best.stays (hs 2 (by decide)) (hs 3 (by decide)) hp, h.cnt.stays (hs 4 (by decide)) (hs 5 (by decide)), h.gate.stays (hs 6 (by decide)), h.tick.stays (hs 7 (by decide)) (hs 8 (by decide)), h.inj, h.pn⟩
theorem CObj.below {w w' : World} {L : Nat → Nat} {po : Option Addr} {A : Ab} (h : CObj w L po A) (hb : Below w.heap.size w w') : CObj w' L po A := h.keep (fun i hi => hb.block _ (h.lt i hi)) (fun k e => hb.block _ (h.best.o.lt e))
theorem CObj.drew {w : World} {L : Nat → Nat} {po : Option Addr} {A : Ab} (h : CObj w L po A) (n : Nat) : CObj (w.drewN n) L po A := h.keep (fun _ _ => rfl) (fun _ _ => rfl)
theorem CObj.wr {w w' : World} {L : Nat → Nat} {po : Option Addr} {A : Ab} (h : CObj w L po A) {j o : Nat} {u : Value} (hj : j < 9) (hw : WrN w (L j) o u w') : (∀ i, i < 9 → i ≠ j → w'.heap[L i]? = w.heap[L i]?) ∧ (∀ k, po = some ⟨k, 0, none⟩ → w'.heap[k]? = w.heap[k]?) :=
  ⟨fun i hi hn => hw.heap _ (h.lt i hi) (h.ne i j hi hj hn), fun k e => hw.heap _ (h.best.o.lt e) (h.pn k j e hj)⟩
theorem CObj.raised {w w' : World} {L : Nat → Nat} {po : Option Addr} {A : Ab} (h : CObj w L po A) (v : Int) (hw : WrN w (L 1) 0 (.int .i64 v) w') : CObj w' L po { A with mark := v } := by
  obtain ⟨s, p⟩ := h.wr (j := 1) (by decide) hw
  exact ⟨⟨cell_stay h.mark.c (s 0 (by decide) (by decide)), hw.at_, (hw.fro 0).trans h.mark.f⟩, h.best.stays (s 2 (by decide) (by decide)) (s 3 (by decide) (by decide)) p, h.cnt.stays (s 4 (by decide) (by decide)) (s 5 (by decide) (by decide)), h.gate.stays (s 6 (by decide) (by decide)), h.tick.stays (s 7 (by decide) (by decide)) (s 8 (by decide) (by decide)), h.inj, h.pn⟩
theorem CObj.took {w w' : World} {L : Nat → Nat} {po : Option Addr} {A : Ab} (h : CObj w L po A) (v : Int) (hw : WrN w (L 8) 0 (.int .i64 v) w') : CObj w' L po { A with tk := v } := by
  obtain ⟨s, p⟩ := h.wr (j := 8) (by decide) hw
  exact ⟨h.mark.stays (s 0 (by decide) (by decide)) (s 1 (by decide) (by decide)), h.best.stays (s 2 (by decide) (by decide)) (s 3 (by decide) (by decide)) p, h.cnt.stays (s 4 (by decide) (by decide)) (s 5 (by decide) (by decide)), h.gate.stays (s 6 (by decide) (by decide)), ⟨cell_stay h.tick.m (s 7 (by decide) (by decide)), cell_stay h.tick.c (s 7 (by decide) (by decide)), hw.at_, (hw.fro 0).trans h.tick.f⟩, h.inj, h.pn⟩
theorem CObj.came {w w' : World} {L : Nat → Nat} {po : Option Addr} {A : Ab} (h : CObj w L po A) (v : Int) (hw : WrN w (L 6) 1 (.int .i64 v) w') : CObj w' L po { A with ar := v } := by
  obtain ⟨s, p⟩ := h.wr (j := 6) (by decide) hw
  exact ⟨h.mark.stays (s 0 (by decide) (by decide)) (s 1 (by decide) (by decide)), h.best.stays (s 2 (by decide) (by decide)) (s 3 (by decide) (by decide)) p, h.cnt.stays (s 4 (by decide) (by decide)) (s 5 (by decide) (by decide)), ⟨(hw.oth 0 (by decide)).trans h.gate.n, hw.at_, (hw.fro 1).trans h.gate.f⟩, h.tick.stays (s 7 (by decide) (by decide)) (s 8 (by decide) (by decide)), h.inj, h.pn⟩
theorem WrN.set {w : World} {b o : Nat} {u v : Value} (h : w.cell? ⟨b, o, none⟩ = some v) : WrN w b o u (w.setCell ⟨b, o, none⟩ u) :=
  ⟨rfl, rfl, rfl, by rw [World.size_setCell]; exact Nat.le_refl _, fun k _ hk => heap_setCell_other _ _ _ _ hk, World.cell?_setCell_same' _ _ _ (by rw [h]; rfl), fun p hp => cell_ne hp, fun p => World.frozen?_setCell _ _ _ _⟩
theorem CObj.added {w w' : World} {L : Nat → Nat} {po : Option Addr} {A : Ab} (h : CObj w L po A) (i : Nat) (v : Int) (e : w' = w.setCell ⟨L 5, i, none⟩ (.int .i64 v)) : CObj w' L po { A with S := A.S.set i v } := by
  subst e
  have s : ∀ j, j < 9 → j ≠ 5 → (w.setCell ⟨L 5, i, none⟩ (.int .i64 v)).heap[L j]? = w.heap[L j]? := fun j hj hn => heap_setCell_other _ _ _ _ (h.ne j 5 hj (by decide) hn)
  exact ⟨h.mark.stays (s 0 (by decide) (by decide)) (s 1 (by decide) (by decide)), h.best.stays (s 2 (by decide) (by decide)) (s 3 (by decide) (by decide)) (fun k e => heap_setCell_other _ _ _ _ (h.pn k 5 e (by decide))), h.cnt.set (h.ne 4 5 (by decide) (by decide) (by decide)) i v, h.gate.stays (s 6 (by decide) (by decide)), h.tick.stays (s 7 (by decide) (by decide)) (s 8 (by decide) (by decide)), h.inj, h.pn⟩
theorem CObj.offered {w w' : World} {L : Nat → Nat} {po : Option Addr} {A : Ab} (h : CObj w L po A) (who x : Int) (hw : OffR w (L 3) po A.bs who x w') : ∃ p', CObj w' L p' { A with bs := offerO A.bs who x } ∧ WrN w (L 3) 0 (.pointer p') w' ∧ (∀ k, p' = some ⟨k, 0, none⟩ → p' = po ∨ w.heap.size ≤ k) := by
  obtain ⟨p', q1, q2, q3⟩ := hw
  obtain ⟨s, p⟩ := h.wr (j := 3) (by decide) q3
  refine ⟨p', ⟨h.mark.stays (s 0 (by decide) (by decide)) (s 1 (by decide) (by decide)), ⟨cell_stay h.best.c (s 2 (by decide) (by decide)), q3.at_, (q3.fro 0).trans h.best.f, q1⟩, h.cnt.stays (s 4 (by decide) (by decide)) (s 5 (by decide) (by decide)), h.gate.stays (s 6 (by decide) (by decide)), h.tick.stays (s 7 (by decide) (by decide)) (s 8 (by decide) (by decide)), h.inj, fun k i e hi => ?_⟩, q3, q2⟩
  rcases q2 k e with e2 | e2
  · exact h.pn k i (e2 ▸ e) hi
  · have := h.lt i hi; omega
end Go.Proofs.Ytimabgakemgldaa
