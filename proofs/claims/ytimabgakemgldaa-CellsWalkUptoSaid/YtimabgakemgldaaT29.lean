import Derived.Test.YtimabgakemgldaaT28
import Derived.Laws.LoneSync
import Derived.WalkKit
import Derived.StillTailTactics
import Derived.Deep.RegionLaw
import Derived.Deep.RegionHeld3
import Derived.Laws.OwnMore
import Derived.Deep.Matrix
import Derived.BigQuiet
import Derived.Deep.QuietTactic
import Derived.Laws.EntriesVeiled
namespace Go.Proofs.Ytimabgakemgldaa
open Go.ChangeShapes Go.WideShapes Go.ChangeAt Go.RowKit Go.Deep
set_option linter.unusedSimpArgs false
set_option linter.unusedVariables false

/-- an op's step: the things may have changed, and the answer's two cells -/
structure StepR (L : Nat → Nat) (ab ao : Nat) (w w' : World) (a : Int) (y : Bool) : Prop where
  t : Tch (fun k => CW L k ∨ k = ab) w w'
  aa : w'.cell? ⟨ab, ao, none⟩ = some (.int .i64 a)
  ay : w'.cell? ⟨ab, ao + 1, none⟩ = some (.bool y)
  aoth : ∀ p, p ≠ ao → p ≠ ao + 1 → w'.cell? ⟨ab, p, none⟩ = w.cell? ⟨ab, p, none⟩
  afro : ∀ p, w'.frozen? ⟨ab, p, none⟩ = w.frozen? ⟨ab, p, none⟩
theorem Wr1.wrN {w w' : World} {b o : Nat} {u : Value} (h : Wr1 w b o u w') : WrN w b o u w' := ⟨h.os, h.tape, h.output, by rw [h.size]; exact Nat.le_refl _, fun k _ hk => h.heap k hk, h.at_, h.oth, h.fro⟩
/-- both of the answer's cells written behind the thing's change -/
theorem StepR.of {L : Nat → Nat} {po : Option Addr} {A : Ab} {ab ao : Nat} {w w1 w2 w' : World} {a : Int} {y : Bool} (hC : CObj w1 L po A) (ht : Tch (CW L) w w1) (hl : ab < w.heap.size) (ha : ∀ i, i < 9 → ab ≠ L i) (hp : ∀ k, po = some ⟨k, 0, none⟩ → k ≠ ab) (h1 : WrN w1 ab ao (.int .i64 a) w2) (h2 : WrN w2 ab (ao + 1) (.bool y) w') :
    CObj w' L po A ∧ StepR L ab ao w w' a y := by
  have hab : w1.heap[ab]? = w.heap[ab]? := ht.heap ab hl (fun e => by
    rcases e with e | e | e | e | e
    · exact ha 1 (by decide) e
    · exact ha 3 (by decide) e
    · exact ha 5 (by decide) e
    · exact ha 6 (by decide) e
    · exact ha 8 (by decide) e)
  have hb : ∀ k, k < w1.heap.size → k ≠ ab → w'.heap[k]? = w1.heap[k]? := fun k hk hn => (h2.heap k (Nat.lt_of_lt_of_le hk h1.size) hn).trans (h1.heap k hk hn)
  refine ⟨hC.keep (fun i hi => hb _ (hC.lt i hi) (Ne.symm (ha i hi))) (fun k e => hb k (hC.best.o.lt e) (hp k e)), ⟨(h2.os.trans h1.os).trans ht.os, (h2.tape.trans h1.tape).trans ht.tape, (h2.output.trans h1.output).trans ht.output, Nat.le_trans ht.size (Nat.le_trans h1.size h2.size), fun k hk hn => (hb k (Nat.lt_of_lt_of_le hk ht.size) (fun e => hn (.inr e))).trans (ht.heap k hk (fun e => hn (.inl e)))⟩, (h2.oth ao (by omega)).trans h1.at_, h2.at_, fun p p1 p2 => (h2.oth p p2).trans ((h1.oth p p1).trans (World.cell?_of_block (a := ⟨ab, p, none⟩) hab)), fun p => (h2.fro p).trans ((h1.fro p).trans (World.frozen?_of_block (a := ⟨ab, p, none⟩) hab))⟩
set_option maxRecDepth 100000 in
set_option maxHeartbeats 2000000 in
theorem add_1 (b0 b1 b2 b3 wp ab ao i : Nat) (L : Nat → Nat) (po : Option Addr) (A : Ab) (x a : Int) (y : Bool) (w : World) (h : CObj w L po A) (hL : LW w wp L) (hT : AddT w b0 b1 b2 b3 wp ab ao (i : Int) x) (hA : AnsAt w ab ao a y) (hi : i < A.S.length)
    (nw : ∀ j, j < 9 → wp ≠ L j) (na : ∀ j, j < 9 → ab ≠ L j) (n0 : ∀ j, j < 9 → b0 ≠ L j) (n1 : ∀ j, j < 9 → b1 ≠ L j) (n2 : ∀ j, j < 9 → b2 ≠ L j) (n3 : ∀ j, j < 9 → b3 ≠ L j) (m : ab ≠ wp ∧ ab ≠ b0 ∧ ab ≠ b1 ∧ ab ≠ b2 ∧ ab ≠ b3) (hp : ∀ k, po = some ⟨k, 0, none⟩ → k ≠ ab) :
    Calls Try.prog 105 #[.pointer (some ⟨b0, 0, none⟩), .pointer (some ⟨b1, 0, none⟩), .pointer (some ⟨b2, 0, none⟩), .pointer (some ⟨b3, 0, none⟩)] w fun e w' => (∃ v, e = .returned v) ∧ CObj w' L po (doS A i 1 x) ∧ StepR L ab ao w w' (doA A i 1 x).1 (doA A i 1 x).2 := by
  have t0 := hT.c0
  have t1 := hT.c1
  have t2 := hT.c2
  have t3 := hT.c3
  have c0 := hL.c0
  obtain ⟨z, hz⟩ : ∃ z, z = wrap64 (A.S.getD i 0 + x) := ⟨_, rfl⟩
  have QA := hide (show doA A i 1 x = (z, true) by simp [doA, hz])
  have QS := hide (show doS A i 1 x = { A with S := A.S.set i z } by simp [doS, hz])
  have l0 := World.block_lt_of_cell? w _ t0
  have l1 := World.block_lt_of_cell? w _ t1
  have l2 := World.block_lt_of_cell? w _ t2
  have l3 := World.block_lt_of_cell? w _ t3
  have lw := hL.lt
  have la := World.block_lt_of_cell? w _ hA.a
  simp only at l0 l1 l2 l3 la
  have cz : w.cell? ⟨L 5, i, none⟩ = some (.int .i64 (A.S.getD i 0)) := (h.cnt.r.cellAt i (by omega) : w.cell? ⟨L 5, i, none⟩ = (ints A.S)[i]?).trans (ints_at hi)
  have C := hide (show ∀ n, Calls Try.prog 15 #[.pointer (some ⟨L 4, 0, none⟩), .int .i64 (i : Int), .int .i64 x] (w.drewN n) fun e w' => e = .returned (.tuple #[.int .i64 z, .int .i64 0]) ∧ WrN w (L 5) i (.int .i64 z) w' ∧ CObj w' L po { A with S := A.S.set i z } from fun n => ((h.drew n).cnt.add_ok (h.ne 4 5 (by decide) (by decide) (by decide)) i hi x).mono (fun e w' q => ⟨by rw [hz]; exact q.1, by rw [q.2, hz]; exact (WrN.set (w := w.drewN n) cz).undrew, by rw [hz]; exact (h.drew n).added i _ q.2⟩))
  have a0 := hA.a
  have a1 := hA.y
  have g0 := hA.f ao
  have g1 := hA.f (ao + 1)
  have NB := hide (And.intro (n0 5 (by decide)) (And.intro (n1 5 (by decide)) (And.intro (n2 5 (by decide)) (And.intro (n3 5 (by decide)) (And.intro (nw 5 (by decide)) (na 5 (by decide)))))))
  obtain ⟨m1, m2, m3, m4, m5⟩ := m
  have u1 := Ne.symm m1
  have u2 := Ne.symm m2
  have u3 := Ne.symm m3
  have u4 := Ne.symm m4
  have u5 := Ne.symm m5
  have NA := hide na
  have HP := hide hp
  clear h hL hT hA hz cz nw na n0 n1 n2 n3 hp
  go_enter Try.func105, Try.ntmps105
  go_wp2_with fail
  go_region_held3 (fun w' => w'.cell? ⟨b0, 0, none⟩ = some (.pointer (some ⟨wp, 0, none⟩)) ∧ w'.cell? ⟨b1, 0, none⟩ = some (.int .i64 (i : Int)) ∧ w'.cell? ⟨b2, 0, none⟩ = some (.int .i64 x) ∧ w'.cell? ⟨b3, 0, none⟩ = some (.pointer (some ⟨ab, ao, none⟩)) ∧ w'.cell? ⟨wp, 0, none⟩ = some (.pointer (some ⟨L 4, 0, none⟩)))
    (((try go_split_ands); refine ⟨?_, ?_, ?_, ?_, ?_⟩; (focus ((repeat (first | with_reducible refine (cell_ob u2 _ _ _).trans ?_ | with_reducible refine (cell_dr _ _).trans ?_ | with_reducible refine (cell_drN _ _ _).trans ?_)); with_reducible assumption)); (focus ((repeat (first | with_reducible refine (cell_ob u3 _ _ _).trans ?_ | with_reducible refine (cell_dr _ _).trans ?_ | with_reducible refine (cell_drN _ _ _).trans ?_)); with_reducible assumption)); (focus ((repeat (first | with_reducible refine (cell_ob u4 _ _ _).trans ?_ | with_reducible refine (cell_dr _ _).trans ?_ | with_reducible refine (cell_drN _ _ _).trans ?_)); with_reducible assumption)); (focus ((repeat (first | with_reducible refine (cell_ob u5 _ _ _).trans ?_ | with_reducible refine (cell_dr _ _).trans ?_ | with_reducible refine (cell_drN _ _ _).trans ?_)); with_reducible assumption)); (focus ((repeat (first | with_reducible refine (cell_ob u1 _ _ _).trans ?_ | with_reducible refine (cell_dr _ _).trans ?_ | with_reducible refine (cell_drN _ _ _).trans ?_)); with_reducible assumption))))
    (first | (go_at_call 15; (apply Calls.mono; focus (exact C.out _)); rintro e w1 ⟨rfl, hwr, hC⟩; have t01 := cell_stay t0 (hwr.heap _ l0 NB.out.1); have t11 := cell_stay t1 (hwr.heap _ l1 NB.out.2.1); have t21 := cell_stay t2 (hwr.heap _ l2 NB.out.2.2.1); have t31 := cell_stay t3 (hwr.heap _ l3 NB.out.2.2.2.1); have c01 := cell_stay c0 (hwr.heap _ lw NB.out.2.2.2.2.1); have a01 := cell_stay a0 (hwr.heap _ la NB.out.2.2.2.2.2); have a11 := cell_stay a1 (hwr.heap _ la NB.out.2.2.2.2.2); have g01 := fro_stay g0 (hwr.heap _ la NB.out.2.2.2.2.2); have g11 := fro_stay g1 (hwr.heap _ la NB.out.2.2.2.2.2); have HC := hide hC; have HWR := hide hwr; clear hwr hC))
  all_goals
    obtain ⟨V, hV⟩ : ∃ V, V = w1.setCell ⟨ab, ao, none⟩ (.int .i64 z) := ⟨_, rfl⟩
    rw [← hV]
    have hw : WrN w1 ab ao (.int .i64 z) V := by rw [hV]; exact WrN.set a01
    have t3 : V.cell? ⟨b3, 0, none⟩ = some (.pointer (some ⟨ab, ao, none⟩)) := by rw [hV]; exact cell_stay t31 (heap_setCell_other _ _ _ _ u5)
    have a1' := (hw.oth (ao + 1) (by omega)).trans a11
    have g1' := (hw.fro (ao + 1)).trans g11
    have HV := hide hw
    clear hV hw
    go_wp2
    go_end0
    refine ⟨⟨_, rfl⟩, ?_⟩
    rw [QA.out, QS.out]
    exact StepR.of HC.out (HWR.out.tch.imp (fun k _ e => .inr (.inr (.inl e)))) la NA.out HP.out HV.out (WrN.set a1')
end Go.Proofs.Ytimabgakemgldaa
