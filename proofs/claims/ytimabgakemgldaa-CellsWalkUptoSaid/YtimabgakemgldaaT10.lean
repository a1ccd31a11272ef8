import Derived.Test.YtimabgakemgldaaT9
import Derived.Laws.LoneSync
import Derived.WalkKit
import Derived.StillTailTactics
import Derived.Deep.RegionLaw
import Derived.Deep.RegionHeld3
import Derived.Laws.OwnMore
import Derived.Deep.Matrix
import Derived.BigQuiet
import Derived.Conc.MuLone
import Derived.Deep.QuietTactic
import Derived.Laws.EntriesVeiled
namespace Go.Proofs.Ytimabgakemgldaa
open Go.ChangeShapes Go.WideShapes Go.ChangeAt Go.RowKit Go.Deep
set_option linter.unusedSimpArgs false
set_option linter.unusedVariables false
theorem ent91 (cs : Array Value) (w : World) : (callFunc 91 cs).run Try.prog w = .ok (.enter 91 cs) w := Go.MuLone.run_callFunc_enter Try.func91 (by kernel_rfl) rfl cs w
theorem ent92 (cs : Array Value) (w : World) : (callFunc 92 cs).run Try.prog w = .ok (.enter 92 cs) w := Go.MuLone.run_callFunc_enter Try.func92 (by kernel_rfl) rfl cs w
theorem ent94 (cs : Array Value) (w : World) : (callFunc 94 cs).run Try.prog w = .ok (.enter 94 cs) w := Go.MuLone.run_callFunc_enter Try.func94 (by kernel_rfl) rfl cs w
theorem ent95 (cs : Array Value) (w : World) : (callFunc 95 cs).run Try.prog w = .ok (.enter 95 cs) w := Go.MuLone.run_callFunc_enter Try.func95 (by kernel_rfl) rfl cs w
theorem ent96 (cs : Array Value) (w : World) : (callFunc 96 cs).run Try.prog w = .ok (.enter 96 cs) w := Go.MuLone.run_callFunc_enter Try.func96 (by kernel_rfl) rfl cs w
theorem ent97 (cs : Array Value) (w : World) : (callFunc 97 cs).run Try.prog w = .ok (.enter 97 cs) w := Go.MuLone.run_callFunc_enter Try.func97 (by kernel_rfl) rfl cs w

/-- an op done whole: one cell of a thing, and the answer's two -/
structure Op2 (B : Nat) (w : World) (b o : Nat) (u : Value) (ab ao : Nat) (A : Int) (Y : Bool) (w' : World) : Prop where
  os : w'.os = w.os
  tape : w'.tape = w.tape
  output : w'.output = w.output
  size : w.heap.size ≤ w'.heap.size
  heap : ∀ k, k < B → k ≠ b → k ≠ ab → w'.heap[k]? = w.heap[k]?
  at_ : w'.cell? ⟨b, o, none⟩ = some u
  oth : ∀ p, p ≠ o → w'.cell? ⟨b, p, none⟩ = w.cell? ⟨b, p, none⟩
  fro : ∀ p, w'.frozen? ⟨b, p, none⟩ = w.frozen? ⟨b, p, none⟩
  aa : w'.cell? ⟨ab, ao, none⟩ = some (.int .i64 A)
  ay : w'.cell? ⟨ab, ao + 1, none⟩ = some (.bool Y)
  aoth : ∀ p, p ≠ ao → p ≠ ao + 1 → w'.cell? ⟨ab, p, none⟩ = w.cell? ⟨ab, p, none⟩
  afro : ∀ p, w'.frozen? ⟨ab, p, none⟩ = w.frozen? ⟨ab, p, none⟩
theorem AnsAt.stays {w w' : World} {ab ao : Nat} {a : Int} {y : Bool} (h : AnsAt w ab ao a y) (hb : w'.heap[ab]? = w.heap[ab]?) : AnsAt w' ab ao a y := ⟨cell_stay h.a hb, cell_stay h.y hb, fun o => fro_stay (h.f o) hb⟩
/-- nothing but the answer's number was written -/
theorem Op2.look {w W w1 : World} {b o ab ao : Nat} {u : Value} {a A : Int} {y : Bool} (hb : Below w.heap.size w W) (hl : ab < w.heap.size) (hA : AnsAt w ab ao a y) (hlb : b < w.heap.size) (hu : w.cell? ⟨b, o, none⟩ = some u) (hne : b ≠ ab) (h : Wr1 W ab ao (.int .i64 A) w1) : Op2 w.heap.size w b o u ab ao A y w1 :=
  have hB := (h.heap b hne).trans (hb.block b hlb)
  ⟨h.os.trans hb.os, h.tape.trans hb.tape, h.output.trans hb.output, by rw [← h.size]; exact hb.size, fun k hk _ hk2 => (h.heap k hk2).trans (hb.block k hk), cell_stay hu hB, fun p _ => World.cell?_of_block (a := ⟨b, p, none⟩) hB, fun p => World.frozen?_of_block (a := ⟨b, p, none⟩) hB, h.at_, (h.oth (ao + 1) (by omega)).trans (cell_stay hA.y (hb.block ab hl)), fun p h1 _ => (h.oth p h1).trans (World.cell?_of_block (a := ⟨ab, p, none⟩) (hb.block ab hl)), fun p => (h.fro p).trans (World.frozen?_of_block (a := ⟨ab, p, none⟩) (hb.block ab hl))⟩
set_option maxHeartbeats 1000000 in
theorem raise_whole (bm ba bx m mc ab ao : Nat) (x v a : Int) (w : World) (hT : RaiseT w bm ba bx m ab ao x) (hm : MarkIs w m mc v) (hA : AnsAt w ab ao a false) (n1 : ab ≠ bm) (n2 : ab ≠ ba) (n3 : ab ≠ bx) (n4 : mc ≠ ba) (n5 : mc ≠ ab) (n6 : mc ≠ bm) (n7 : mc ≠ bx) (n8 : mc ≠ m) (n9 : ab ≠ m) :
    Calls Try.prog 50 #[raiseV bm ba bx] w fun e w' => e = .returned (.tuple #[]) ∧ Op2 w.heap.size w mc 0 (.int .i64 (max v x)) ab ao v (decide (v < x)) w' := by
  have l1 := World.block_lt_of_cell? w _ hT.m
  have l2 := World.block_lt_of_cell? w _ hT.a
  have l3 := World.block_lt_of_cell? w _ hT.x
  have l4 := World.block_lt_of_cell? w _ hm.c
  have l5 := World.block_lt_of_cell? w _ hm.v
  have l6 := World.block_lt_of_cell? w _ hA.a
  simp only at l1 l2 l3 l4 l5 l6
  by_cases h : x ≤ v
  · have e1 : max v x = v := by omega
    have e2 : decide (v < x) = false := by (rw [decide_eq_false_iff_not]; omega)
    rw [e1, e2]
    refine whole_look 91 92 _ _ w _ (ent91 _) (ent92 _) fun W hb => ?_
    have hAW := hA.stays (hb.block _ l6)
    refine (raise_look bm ba bx m mc ab ao x v W (hT.stays (hb.block _ l1) (hb.block _ l2) (hb.block _ l3)) (hm.stays (hb.block _ l4) (hb.block _ l5)) (by rw [hAW.a]; rfl) (hAW.f _) n1 n2 n3).mono ?_
    rintro e w1 ⟨rfl, h1⟩
    exact ⟨by rw [decide_eq_true h], Op2.look hb l6 hA l5 hm.v n5 h1⟩
  · have e1 : max v x = x := by omega
    have e2 : decide (v < x) = true := by (rw [decide_eq_true_iff]; omega)
    rw [e1, e2]
    refine whole_put 91 92 _ _ w _ (ent91 _) (ent92 _) fun W hb => ?_
    have hAW := hA.stays (hb.block _ l6)
    have hTW := hT.stays (hb.block _ l1) (hb.block _ l2) (hb.block _ l3)
    have hmW := hm.stays (hb.block _ l4) (hb.block _ l5)
    refine (raise_look bm ba bx m mc ab ao x v W hTW hmW (by rw [hAW.a]; rfl) (hAW.f _) n1 n2 n3).mono ?_
    rintro e w1 ⟨rfl, h1⟩
    refine ⟨by rw [decide_eq_false h], World.cell?_of_block (a := ⟨w.heap.size, 1, none⟩) (h1.heap _ (show w.heap.size ≠ ab by omega)), ?_⟩
    have hy1 := (h1.oth (ao + 1) (by omega)).trans hAW.y
    refine (raise_hit bm ba bx m mc ab ao x v w1 (hTW.stays (h1.heap _ (Ne.symm n1)) (h1.heap _ (Ne.symm n2)) (h1.heap _ (Ne.symm n3))) (hmW.stays (h1.heap _ (Ne.symm n9)) (h1.heap _ n5)) h1.at_ (by rw [hy1]; rfl) ((h1.fro _).trans (hAW.f _)) n2 n4 n5 n6 n7 n8 n1 n3 n9).mono ?_
    rintro e w2 ⟨rfl, w3, h3, h2⟩
    refine ⟨rfl, (h2.os.trans (h3.os.trans h1.os)).trans hb.os, (h2.tape.trans (h3.tape.trans h1.tape)).trans hb.tape, (h2.output.trans (h3.output.trans h1.output)).trans hb.output, by rw [← h2.size, ← h3.size, ← h1.size]; exact hb.size, fun k hk k1 k2 => (((h2.heap k k2).trans (h3.heap k k1)).trans (h1.heap k k2)).trans (hb.block k hk), cell_stay h3.at_ (h2.heap _ n5), fun p hp => ?_, fun p => ?_, ?_, h2.at_, fun p h4 h5 => ?_, fun p => ?_⟩
    · exact (World.cell?_of_block (a := ⟨mc, p, none⟩) (h2.heap _ n5)).trans ((h3.oth p hp).trans (World.cell?_of_block (a := ⟨mc, p, none⟩) ((h1.heap _ n5).trans (hb.block _ l5))))
    · exact (World.frozen?_of_block (a := ⟨mc, p, none⟩) (h2.heap _ n5)).trans ((h3.fro p).trans (World.frozen?_of_block (a := ⟨mc, p, none⟩) ((h1.heap _ n5).trans (hb.block _ l5))))
    · exact (h2.oth ao (by omega)).trans (cell_stay h1.at_ (h3.heap _ (Ne.symm n5)))
    · exact (h2.oth p h5).trans ((World.cell?_of_block (a := ⟨ab, p, none⟩) (h3.heap _ (Ne.symm n5))).trans ((h1.oth p h4).trans (World.cell?_of_block (a := ⟨ab, p, none⟩) (hb.block _ l6))))
    · exact (h2.fro p).trans ((World.frozen?_of_block (a := ⟨ab, p, none⟩) (h3.heap _ (Ne.symm n5))).trans ((h1.fro p).trans (World.frozen?_of_block (a := ⟨ab, p, none⟩) (hb.block _ l6))))
theorem Op2.mono {w w' : World} {B B' b o ab ao : Nat} {u : Value} {A : Int} {y : Bool} (h : Op2 B w b o u ab ao A y w') (hB : B' ≤ B) : Op2 B' w b o u ab ao A y w' :=
  ⟨h.os, h.tape, h.output, h.size, fun k hk => h.heap k (by omega), h.at_, h.oth, h.fro, h.aa, h.ay, h.aoth, h.afro⟩
set_option maxHeartbeats 1000000 in
theorem take_whole (B bt bs ba t tn ab ao : Nat) (many nx s : Int) (w : World) (hT : TakeT w bt bs ba t ab ao s) (hm : TickIs w t tn many nx) (hA : AnsAt w ab ao 0 false) (hx : -9223372036854775808 ≤ nx + 1 ∧ nx + 1 ≤ 9223372036854775807) (hB : B ≤ bs) (hBw : B ≤ w.heap.size) (n1 : ab ≠ ba) (n2 : ab ≠ bs) (n3 : tn ≠ ba) (n4 : tn ≠ bs) (n5 : tn ≠ ab) (n6 : tn ≠ bt) (n7 : tn ≠ t) (n8 : ab ≠ bt) (n9 : ab ≠ t) (n10 : bs ≠ bt) (n11 : bs ≠ t) (n12 : bs ≠ ba) :
    Calls Try.prog 50 #[takeV bt bs ba] w fun e w' => e = .returned (.tuple #[]) ∧ Op2 B w tn 0 (.int .i64 (if nx < many then nx + 1 else nx)) ab ao (if nx < many then nx else 0) (decide (nx < many)) w' := by
  have l1 := World.block_lt_of_cell? w _ hT.t
  have l2 := World.block_lt_of_cell? w _ hT.s
  have l3 := World.block_lt_of_cell? w _ hT.a
  have l4 := World.block_lt_of_cell? w _ hm.c
  have l5 := World.block_lt_of_cell? w _ hm.v
  have l6 := World.block_lt_of_cell? w _ hA.a
  simp only at l1 l2 l3 l4 l5 l6
  by_cases h : many ≤ nx
  · have h0 : ¬ nx < many := by omega
    rw [if_neg h0, if_neg h0, decide_eq_false h0]
    refine whole_look 94 95 _ _ w _ (ent94 _) (ent95 _) fun W hb => ?_
    refine (take_look bt bs ba t tn ab ao s many nx W (hT.stays (hb.block _ l1) (hb.block _ l2) (hb.block _ l3)) (hm.stays (hb.block _ l4) (hb.block _ l5)) n10 n11).mono ?_
    rintro e w1 ⟨rfl, h1⟩
    have hB1 := (h1.heap _ n4).trans (hb.block _ l5)
    have hB2 := (h1.heap _ n2).trans (hb.block _ l6)
    exact ⟨by rw [decide_eq_true h], h1.os.trans hb.os, h1.tape.trans hb.tape, h1.output.trans hb.output, by rw [← h1.size]; exact hb.size, fun k hk _ _ => (h1.heap k (by omega)).trans (hb.block k (by omega)), cell_stay hm.v hB1, fun p _ => World.cell?_of_block (a := ⟨tn, p, none⟩) hB1, fun p => World.frozen?_of_block (a := ⟨tn, p, none⟩) hB1, cell_stay hA.a hB2, cell_stay hA.y hB2, fun p _ _ => World.cell?_of_block (a := ⟨ab, p, none⟩) hB2, fun p => World.frozen?_of_block (a := ⟨ab, p, none⟩) hB2⟩
  · have h0 : nx < many := by omega
    rw [if_pos h0, if_pos h0, decide_eq_true h0]
    refine whole_put 94 95 _ _ w _ (ent94 _) (ent95 _) fun W hb => ?_
    have hTW := hT.stays (hb.block _ l1) (hb.block _ l2) (hb.block _ l3)
    have hmW := hm.stays (hb.block _ l4) (hb.block _ l5)
    refine (take_look bt bs ba t tn ab ao s many nx W hTW hmW n10 n11).mono ?_
    rintro e w1 ⟨rfl, h1⟩
    refine ⟨by rw [decide_eq_false h], World.cell?_of_block (a := ⟨w.heap.size, 1, none⟩) (h1.heap _ (show w.heap.size ≠ bs by omega)), ?_⟩
    have hA1 : AnsAt w1 ab ao 0 false := (hA.stays (hb.block _ l6)).stays (h1.heap _ n2)
    have hT1 : TakeT w1 bt bs ba t ab ao nx := ⟨cell_stay hTW.t (h1.heap _ (Ne.symm n10)), h1.at_, (h1.fro 0).trans hTW.sf, cell_stay hTW.a (h1.heap _ (Ne.symm n12))⟩
    refine (take_hit bt bs ba t tn ab ao many nx w1 hT1 (hmW.stays (h1.heap _ (Ne.symm n11)) (h1.heap _ n4)) hx (by rw [hA1.y]; rfl) (by rw [hA1.a]; rfl) hA1.f n1 n2 n3 n4 n5 n6 n7 n8 n9).mono ?_
    rintro e w2 ⟨rfl, w4, ⟨w3, h3, h4⟩, h2⟩
    have k1 : w1.heap[tn]? = w.heap[tn]? := (h1.heap _ n4).trans (hb.block _ l5)
    have k2 : w1.heap[ab]? = w.heap[ab]? := (h1.heap _ n2).trans (hb.block _ l6)
    have k3 : w2.heap[tn]? = w3.heap[tn]? := (h2.heap _ n5).trans (h4.heap _ n5)
    have k4 : w3.heap[ab]? = w1.heap[ab]? := h3.heap _ (Ne.symm n5)
    refine ⟨rfl, ((h2.os.trans (h4.os.trans h3.os)).trans h1.os).trans hb.os, ((h2.tape.trans (h4.tape.trans h3.tape)).trans h1.tape).trans hb.tape, ((h2.output.trans (h4.output.trans h3.output)).trans h1.output).trans hb.output, by rw [← h2.size, ← h4.size, ← h3.size, ← h1.size]; exact hb.size, fun k hk q1 q2 => ((((h2.heap k q2).trans (h4.heap k q2)).trans (h3.heap k q1)).trans (h1.heap k (by omega))).trans (hb.block k (by omega)), cell_stay h3.at_ k3, fun p hp => ?_, fun p => ?_, h2.at_, (h2.oth (ao + 1) (by omega)).trans h4.at_, fun p q1 q2 => ?_, fun p => ?_⟩
    · exact (World.cell?_of_block (a := ⟨tn, p, none⟩) k3).trans ((h3.oth p hp).trans (World.cell?_of_block (a := ⟨tn, p, none⟩) k1))
    · exact (World.frozen?_of_block (a := ⟨tn, p, none⟩) k3).trans ((h3.fro p).trans (World.frozen?_of_block (a := ⟨tn, p, none⟩) k1))
    · exact (h2.oth p q1).trans ((h4.oth p q2).trans (World.cell?_of_block (a := ⟨ab, p, none⟩) (k4.trans k2)))
    · exact (h2.fro p).trans ((h4.fro p).trans (World.frozen?_of_block (a := ⟨ab, p, none⟩) (k4.trans k2)))
end Go.Proofs.Ytimabgakemgldaa
