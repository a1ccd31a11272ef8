import Derived.StillTailTactics
import Derived.Maps.AppendAt
import Derived.Deep.AppendLies
import Derived.Laws.OwnMore
import Derived.Test.YtkdocoibfclfeaaL1
namespace Go.Proofs.Ytkdocoibfclfeaa
open Go.ChangeShapes Go.WideShapes Go.ChangeAt Go.RowKit Go.Deep Go.Maps Go.ChangeMaps Go.WideMaps
set_option linter.unusedSimpArgs false
set_option linter.unusedVariables false

theorem zero2 (w : World) : (zeroValue 2).run Try.prog w = .ok (.int .i64 0) w := by kernel_rfl
theorem has_look {w : World} {m n : Nat} {f : Lit → Option Value} (h : MapIs Try.prog 3 w m n f) {i : Nat} {v : Int} (hl : i < 9223372036854775808) (hi : f (.int .i64 (i : Int)) = some (.int .i64 v)) : Sem.run Try.prog (Instr.lookup 75 (.map (some m)) (.int .i64 (i : Int)) false) w = .ok (.int .i64 v) w := by
  rw [h.look law3 Try.underlying75 (zero2 w) (keyOf_int_mk Try.underlying3 (wf_small hl)), hi]; rfl
theorem has_look_ok {w : World} {m n : Nat} {f : Lit → Option Value} (h : MapIs Try.prog 3 w m n f) {i : Nat} {v : Int} (hl : i < 9223372036854775808) (hi : f (.int .i64 (i : Int)) = some (.int .i64 v)) : Sem.run Try.prog (Instr.lookup 75 (.map (some m)) (.int .i64 (i : Int)) true) w = .ok (.tuple #[.int .i64 v, .bool true]) w := by
  rw [h.look_ok law3 Try.underlying75 (zero2 w) (keyOf_int_mk Try.underlying3 (wf_small hl)), hi]; rfl
theorem has_look_no {w : World} {m n : Nat} {f : Lit → Option Value} (h : MapIs Try.prog 3 w m n f) {i : Nat} (hl : i < 9223372036854775808) (hi : f (.int .i64 (i : Int)) = none) : Sem.run Try.prog (Instr.lookup 75 (.map (some m)) (.int .i64 (i : Int)) true) w = .ok (.tuple #[.int .i64 0, .bool false]) w := by
  rw [h.look_ok law3 Try.underlying75 (zero2 w) (keyOf_int_mk Try.underlying3 (wf_small hl)), hi]; rfl
def AddedTo (mh n : Nat) (f : Lit → Option Value) (k : Lit) (v : Value) (w w' : World) : Prop := MapIs Try.prog 3 w' mh n (setAt f k v) ∧ w.grownBy w' (some mh)
theorem grown_of_turned {w w1 : World} {b : Nat} (h : w.mapTurned w1 b) : w.grownBy w1 (some b) := h.grown
theorem grown_trans {w w1 w2 : World} {r : Option Nat} (h : w.grownBy w1 r) (g : w1.grownBy w2 r) : w.grownBy w2 r :=
  ⟨g.os.trans h.os, g.tape.trans h.tape, g.output.trans h.output, Nat.le_trans h.size g.size, fun k hk hr => (g.block k (Nat.lt_of_lt_of_le hk h.size) hr).trans (h.block k hk hr)⟩
theorem setAt_twice (f : Lit → Option Value) (k : Lit) (u v : Value) (x : Lit) : setAt (setAt f k u) k v x = setAt f k v x := by
  by_cases e : x = k
  · subst e; rw [setAt_same, setAt_same]
  · rw [setAt_other _ _ e, setAt_other _ _ e, setAt_other _ _ e]
theorem field70_2 (s : ByteArray) (l h : Int) (w : World) : Sem.run Try.prog (Instr.field 70 (.agg #[.string s, .int .i64 l, .int .i64 h]) 2) w = .ok (.int .i64 h) w := by kernel_rfl
theorem field70_1 (s : ByteArray) (l h : Int) (w : World) : Sem.run Try.prog (Instr.field 70 (.agg #[.string s, .int .i64 l, .int .i64 h]) 1) w = .ok (.int .i64 l) w := by kernel_rfl
set_option maxRecDepth 100000 in
set_option maxHeartbeats 2000000 in
theorem add_yes (Bh Bl mh cnt n : Nat) (f : Lit → Option Value) (v c : Int) (w : World) (h0 : w.cell? ⟨Bh, 0, none⟩ = some (.map (some mh))) (hf : MapIs Try.prog 3 w mh cnt f) (hn : n < 65536) (hc : cnt < 65536) (hi : f (.int .i64 (n : Int)) = some (.int .i64 v)) (hb1 : -9223372036854775808 ≤ v + c) (hb2 : v + c ≤ 9223372036854775807) :
    Calls Try.prog 52 #[.int .i64 (n : Int), .int .i64 c, .pointer (some ⟨Bh, 0, none⟩), .pointer (some ⟨Bl, 0, none⟩)] w fun e w' => (∃ r, e = .returned r) ∧ AddedTo mh cnt f (.int .i64 (n : Int)) (.int .i64 (v + c)) w w' := by
  have q1 := has_look_ok hf (by omega) hi
  have q2 := has_look hf (by omega) hi
  have a1 : IntKind.i64.wrap (v + c) = v + c := IntWalk.i64_in _ ⟨hb1, hb2⟩
  have a2 : wrap64 (v + c) = v + c := by rw [← IntWalk.i64_left]; exact a1
  have HF := hide hf
  have HI := hide hi
  have HN := hide (show n < 9223372036854775808 by omega)
  clear hf hi hb1 hb2
  go_enter Try.func52, Try.ntmps52
  go_wp2_with (at_mapUpdate; refine wpList_mapUpdate_is _ rfl _ _ _ 75 rfl 3 2 law3 Try.underlying75 mh cnt f rfl HF.out (by unfold maxLen; omega) _ _ _ rfl rfl (keyOf_int_mk Try.underlying3 (wf_small HN.out)) ?_; intro w2 hm2 ht2; have HM2 := hide hm2; have HT2 := hide ht2; clear hm2 ht2)
  go_end0
  refine ⟨⟨_, rfl⟩, ?_, HT2.out.grown⟩
  have := HM2.out
  rw [HI.out] at this
  exact this
set_option maxRecDepth 100000 in
set_option maxHeartbeats 2000000 in
theorem add_no (Bh Bl b m mh cnt n : Nat) (A : List Acc) (a : Acc) (f : Lit → Option Value) (c : Int) (w : World) (h0 : w.cell? ⟨Bh, 0, none⟩ = some (.map (some mh))) (h1 : w.cell? ⟨Bl, 0, none⟩ = some (.pointer (some ⟨b, 0, none⟩))) (h2 : w.cell? ⟨b, 1, none⟩ = some (.map (some m))) (hA : MapIs Try.prog 3 w m A.length (accAt A)) (ha : A[n]? = some a) (hf : MapIs Try.prog 3 w mh cnt f) (hn : n < 65536) (hc : cnt < 65536) (hi : f (.int .i64 (n : Int)) = none) (hb1 : -9223372036854775808 ≤ a.has + c) (hb2 : a.has + c ≤ 9223372036854775807) :
    Calls Try.prog 52 #[.int .i64 (n : Int), .int .i64 c, .pointer (some ⟨Bh, 0, none⟩), .pointer (some ⟨Bl, 0, none⟩)] w fun e w' => (∃ r, e = .returned r) ∧ AddedTo mh (cnt + 1) f (.int .i64 (n : Int)) (.int .i64 (a.has + c)) w w' := by
  have q1 := has_look_no hf (by omega) hi
  have q2 : Sem.run Try.prog (Instr.lookup 57 (.map (some m)) (.int .i64 (n : Int)) false) ({ heap := w.heap, tape := w.tape, drawn := w.drawn + 1, os := w.os, output := w.output } : World) = .ok (.agg #[.string a.name, .int .i64 a.least, .int .i64 a.has]) ({ heap := w.heap, tape := w.tape, drawn := w.drawn + 1, os := w.os, output := w.output } : World) := acc_look (w := w.drew) (hA.stays (Nat.le_refl _) rfl) (by omega) ha
  have q2' := acc_look (w := w.drew) (hA.stays (Nat.le_refl _) rfl) (by omega) ha
  have q4 := field70_2 a.name a.least a.has
  have a1 : IntKind.i64.wrap (a.has + c) = a.has + c := IntWalk.i64_in _ ⟨hb1, hb2⟩
  have a2 : wrap64 (a.has + c) = a.has + c := by rw [← IntWalk.i64_left]; exact a1
  have hBh : Bh ≠ mh := by
    intro e
    obtain ⟨es, ck, hes⟩ := hf.isMap
    subst e
    simp [World.cell?, hes] at h0
  have HF := hide hf
  have HI := hide hi
  have H0 := hide h0
  have HBh := hide hBh
  have HN := hide (show n < 9223372036854775808 by omega)
  have HC := hide (show cnt + 1 < maxLen by unfold maxLen; omega)
  clear hA ha hf hi hb1 hb2 hBh
  go_enter Try.func52, Try.ntmps52
  go_wp2
  go_still_tail 9, (by kernel_rfl)
  (at_mapUpdate; refine wpList_mapUpdate_is _ rfl _ _ _ 75 rfl 3 2 law3 Try.underlying75 mh cnt f rfl (HF.out.stays (Nat.le_refl _) rfl) (by unfold maxLen; omega) _ _ _ rfl rfl (keyOf_int_mk Try.underlying3 (wf_small HN.out)) ?_; intro w2 hm2 ht2)
  rw [HI.out] at hm2
  have g2 := grown_of_turned ht2
  have c2 : w2.cell? ⟨Bh, 0, none⟩ = some (.map (some mh)) := cell_stay H0.out (grown_heap g2 (World.block_lt_of_cell? w _ H0.out) (fun e => HBh.out (Option.some.inj e).symm))
  have q3 := has_look hm2 HN.out (setAt_same _ _ _)
  have HG2 := hide (show w.grownBy w2 (some mh) from ⟨g2.os, g2.tape, g2.output, g2.size, g2.block⟩)
  have HM2 := hide hm2
  clear g2 ht2 hm2
  go_wp2_with (at_mapUpdate; refine wpList_mapUpdate_is _ rfl _ _ _ 75 rfl 3 2 law3 Try.underlying75 mh (cnt + 1) _ rfl HM2.out HC.out _ _ _ rfl rfl (keyOf_int_mk Try.underlying3 (wf_small HN.out)) ?_; intro w3 hm3 ht3; have HM3 := hide hm3; have HT3 := hide ht3; clear hm3 ht3)
  go_end0
  refine ⟨⟨_, rfl⟩, ?_, grown_trans HG2.out HT3.out.grown⟩
  have := HM3.out
  rw [setAt_same] at this
  exact this.ext (setAt_twice _ _ _ _)
end Go.Proofs.Ytkdocoibfclfeaa
