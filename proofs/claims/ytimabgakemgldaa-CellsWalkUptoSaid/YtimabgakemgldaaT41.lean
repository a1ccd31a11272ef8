import Derived.Test.YtimabgakemgldaaT40
import Derived.Laws.LoneSync
import Derived.WalkKit
import Derived.StillTailTactics
import Derived.Deep.RegionLaw
import Derived.Deep.RegionHeld3
import Derived.Laws.OwnMore
import Derived.Deep.Matrix
import Derived.BigQuiet
import Derived.Deep.QuietTactic
import Derived.Laws.EntriesVeiled
namespace Go.Proofs.Ytimabgakemgldaa
open Go.ChangeShapes Go.WideShapes Go.ChangeAt Go.RowKit Go.Deep
set_option linter.unusedSimpArgs false
set_option linter.unusedVariables false

theorem Tch.rfl' {T : Nat → Prop} (w : World) : Tch T w w := .of (Below.refl _ _)
theorem Bx.lt {tag : Nat → Nat} {kb i b B v : Nat} (h : Bx tag kb i b) (hb : b < B) : Bx (tg tag B v) kb i b := ⟨(tg_lt hb).trans h.1, h.2⟩
/-- what a step that changed a thing leaves -/
theorem StepE.hit {w w' : World} {tag tag' : Nat → Nat} {wp : Nat} {L : Nat → Nat} {po po' : Option Addr} {A A' : Ab} {kb i : Nat} {ov dv : Value} (hI : WI w tag wp L po A) (hB : WB w tag kb i ov dv) (ha : ∀ b, b < w.heap.size → tag' b = tag b) (hT : Tch (fun b => CW L b ∨ tag b = 3 + i) w w') (hc : CObj w' L po' A') (hp : ∀ k, po' = some ⟨k, 0, none⟩ → tag' k = 2) (hr : PoR w po po' A.bs A'.bs)
    (h8 : Has8 w' kb) (hf : ∀ o, w'.frozen? ⟨kb, o, none⟩ = false) (old : ∀ p, p < 3 → w'.cell? ⟨kb, p, none⟩ = w.cell? ⟨kb, p, none⟩) : StepE w w' tag tag' wp L po po' A A' kb i ov dv :=
  ⟨ha, hT, hI.of hT hc ha hp, ⟨h8, hf, (old 0 (by decide)).trans hB.c0, (old 1 (by decide)).trans hB.c1, (old 2 (by decide)).trans hB.c2, (ha _ hB.lt).trans hB.t⟩, hr⟩
/-- ahead of a look anew -/
structure MY (w : World) (kb tb fa fb : Nat) (ca cb : Array Value) (Y : World) : Prop where
  ok : YOk w kb tb Y
  c3 : Y.cell? ⟨kb, 3, none⟩ = some (.pointer (some ⟨tb, 0, none⟩))
  c4 : Y.cell? ⟨kb, 4, none⟩ = some (.bool true)
  p0 : Y.cell? ⟨tb, 0, none⟩ = some (.func (.func fa) #[] ca)
  p1 : Y.cell? ⟨tb, 1, none⟩ = some (.func (.func fb) #[] cb)
  c5 : Y.cell? ⟨kb, 5, none⟩ = w.cell? ⟨kb, 5, none⟩
/-- what a put that missed leaves -/
structure MP (w : World) (kb tb fa : Nat) (ca : Array Value) (w1 : World) : Prop where
  c3 : w1.cell? ⟨kb, 3, none⟩ = some (.pointer (some ⟨tb, 0, none⟩))
  c4 : w1.cell? ⟨kb, 4, none⟩ = some (.bool true)
  f4 : w1.frozen? ⟨kb, 4, none⟩ = false
  p0 : w1.cell? ⟨tb, 0, none⟩ = some (.func (.func fa) #[] ca)
theorem MY.made {w w0 w1 : World} {tag : Nat → Nat} {kb i tb fa fb : Nat} {ca cb : Array Value} {ov dv : Value} (hU : UB w tag kb i tb fa fb ca cb) (hB : WB w tag kb i ov dv) (hb : Below w.heap.size w w0) (h1 : Wr1 w0 kb 6 (.bool false) w1) : MP w kb tb fa ca w1 ∧ MY w kb tb fa fb ca cb (w1.setCell ⟨kb, 4, none⟩ (.bool true)) := by
  have lk := hB.lt
  have lt := World.block_lt_of_cell? w _ hU.p0
  simp only at lt
  have bk := hb.block kb lk
  have bt := (h1.heap tb hU.n).trans (hb.block tb lt)
  have cc : ∀ p, p ≠ 6 → w1.cell? ⟨kb, p, none⟩ = w.cell? ⟨kb, p, none⟩ := fun p hp => (h1.oth p hp).trans (World.cell?_of_block (a := ⟨kb, p, none⟩) bk)
  have ff : ∀ p, w1.frozen? ⟨kb, p, none⟩ = false := fun p => (h1.fro p).trans (fro_stay (hB.f p) bk)
  have e4 := (cc 4 (by decide)).trans hU.c4
  have h81 : Has8 w1 kb := (hB.h8.below hb).wr h1
  have ht : Tch (fun k => k = kb) w w1 := (Tch.of hb).wr h1 (.inl rfl)
  refine ⟨⟨(cc 3 (by decide)).trans hU.c3, e4, ff 4, cell_stay hU.p0 bt⟩, ⟨⟨ht.set rfl _ _, h81.set _ _ _, fun o => (World.frozen?_setCell _ _ _ _).trans (ff o), fun p hp => (cell_ne (by omega)).trans (cc p (by omega)), (cell_ne (by decide)).trans h1.at_, (cell_ne (by decide)).trans ((cc 7 (by decide)).trans hU.z)⟩, (cell_ne (by decide)).trans ((cc 3 (by decide)).trans hU.c3), World.cell?_setCell_same' _ _ _ (by rw [e4]; rfl), ?_, ?_, (cell_ne (by decide)).trans (cc 5 (by decide))⟩⟩
  · exact (cell_ob hU.n _ _ _).trans (cell_stay hU.p0 bt)
  · exact (cell_ob hU.n _ _ _).trans (cell_stay hU.p1 bt)
theorem UB.again {w w' Y : World} {tag : Nat → Nat} {kb i tb fa fb : Nat} {ca cb : Array Value} (hU : UB w tag kb i tb fa fb ca cb) (hY : MY w kb tb fa fb ca cb Y) (h1 : ∀ p, 3 ≤ p → p ≠ 5 → w'.cell? ⟨kb, p, none⟩ = Y.cell? ⟨kb, p, none⟩) (h2 : w'.heap[tb]? = Y.heap[tb]?) : UB w' (tg tag w.heap.size (3 + i)) kb i tb fa fb ca cb :=
  ⟨(tg_lt (World.block_lt_of_cell? w _ hU.p0)).trans hU.t, hU.n, (h1 3 (by decide) (by decide)).trans hY.c3, (h1 4 (by decide) (by decide)).trans hY.c4, cell_stay hY.p0 h2, cell_stay hY.p1 h2, (h1 6 (by decide) (by decide)).trans hY.ok.y, (h1 7 (by decide) (by decide)).trans hY.ok.z⟩

theorem seen_2 (kb wp i n : Nat) (ov dv : Value) (tag : Nat → Nat) (L : Nat → Nat) (po : Option Addr) (A : Ab) (x c : Int) (v : Int) (w : World) (hI : WI w tag wp L po A) (hB : WB w tag kb i ov dv) (hA : AbOk A n c) (hU : UR w tag (L 0) kb i x v) (hv : v < x) :
    Calls Try.prog 43 #[.pointer (some ⟨kb, 0, none⟩), .pointer (some ⟨wp, 0, none⟩)] w fun e w' => e = .returned (.bool (doneA A (i : Int) 2 x (.num v))) ∧ StepQ w tag wp L po A kb i ov dv 2 x (.num v) w' := by
  obtain ⟨tb, bm, ba, b1, hB1, hT, h5, q1, q2, q3⟩ := hU
  have lk := hB.lt
  have nL := fun b (hb : Bx tag kb i b) => hI.nL hb.1
  have nk := hI.nL hB.t
  have hdA : doneA A (i : Int) 2 x (.num v) = (decide (v = A.mark) || decide (x ≤ A.mark)) := rfl
  by_cases hm : v = A.mark
  · subst hm
    have hd : doneA A (i : Int) 2 x (.num A.mark) = true := by rw [hdA, decide_eq_true rfl]; rfl
    rw [hd]
    refine step_hit kb tb wp 92 _ w _ (ent92 _) hB1.c3 hB1.c4 hB1.p1 ((raise_hit bm ba b1 (L 0) (L 1) kb 5 x A.mark w hT hI.c.mark h5 (by rw [hB1.y]; rfl) (hB.f 6) (Ne.symm q2.2) (Ne.symm (nL _ q2 1 (by decide))) (Ne.symm (nk 1 (by decide))) (Ne.symm (nL _ q1 1 (by decide))) (Ne.symm (nL _ q3 1 (by decide))) (hI.c.ne 1 0 (by decide) (by decide) (by decide)) (Ne.symm q1.2) (Ne.symm q3.2) (nk 0 (by decide))).mono ?_)
    rintro e w' ⟨rfl, w1, h1, h2⟩
    have hc1 := hI.c.raised x h1.wrN
    have k1 := h1.heap kb (nk 1 (by decide))
    have eS : doS A (i : Int) 2 x = { A with mark := x } := by show { A with mark := max A.mark x } = _; rw [Int.max_eq_right (by omega)]
    refine ⟨rfl, tag, po, .inl ⟨hd, ?_, ?_, ?_, ?_⟩⟩
    · rw [eS]
      exact StepE.hit hI hB (fun _ _ => rfl) (((Tch.rfl' w).wr h1 (.inl (.inl (.inl rfl)))).wr h2 (.inl (.inr hB.t))) (hc1.keep (fun j hj => h2.heap _ (Ne.symm (nk j hj))) (fun k e => h2.heap k (hI.np hB.t k e))) hI.tp (.inl ⟨rfl, rfl⟩) ((hB.h8.wr h1).wr h2) (fun o => (h2.fro o).trans (fro_stay (hB.f o) k1)) (fun p hp => (h2.oth p (by omega)).trans (World.cell?_of_block (a := ⟨kb, p, none⟩) k1))
    · exact (h2.oth 5 (by decide)).trans (cell_stay h5 k1)
    · rw [h2.at_]; show _ = some (Value.bool (decide (A.mark < x))); rw [decide_eq_true hv]
    · exact (h2.oth 7 (by decide)).trans (cell_stay hB1.z k1)
  · have hd : doneA A (i : Int) 2 x (.num v) = decide (x ≤ A.mark) := by rw [hdA, decide_eq_false hm]; rfl
    refine step_miss kb tb wp 91 92 #[.pointer (some ⟨bm, 0, none⟩), .pointer (some ⟨ba, 0, none⟩), .pointer (some ⟨b1, 0, none⟩)] _ w _ _ (ent91 _) (ent92 _) hB1.c3 hB1.c4 hB1.p1 hB1.n ((raise_miss bm ba b1 (L 0) (L 1) kb 5 x A.mark v w hT hI.c.mark h5 (by rw [hB1.y]; rfl) (hB.f 6) (Ne.symm q2.2) (Ne.symm q1.2) (Ne.symm q3.2) (nk 0 (by decide)) (fun e => hm e.symm)).mono ?_)
    rintro e w1 ⟨rfl, h1⟩
    obtain ⟨mp, my⟩ := MY.made hB1 hB (Below.refl _ w) h1
    refine ⟨rfl, mp.c3, mp.c4, mp.f4, mp.p0, ?_⟩
    obtain ⟨Y, hY⟩ : ∃ Y, Y = w1.setCell ⟨kb, 4, none⟩ (.bool true) := ⟨_, rfl⟩
    rw [← hY] at my ⊢
    clear mp h1 hY
    have ok := my.ok
    have blk : ∀ b, Bx tag kb i b → b < w.heap.size → Y.heap[b]? = w.heap[b]? := fun b hb hl => ok.t.heap b hl hb.2
    have TY := hT.stays (blk _ q1 (World.block_lt_of_cell? w _ hT.m)) (blk _ q2 (World.block_lt_of_cell? w _ hT.a)) (blk _ q3 (World.block_lt_of_cell? w _ hT.x))
    have IY := hI.stay (tag' := tag) (ok.t.imp (fun k _ e => by rw [e]; exact hB.t)) (fun _ _ => rfl)
    refine (raise_look bm ba b1 (L 0) (L 1) kb 5 x A.mark Y TY IY.c.mark (ok.h8 5 (by decide)).1 (ok.f 5) (Ne.symm q1.2) (Ne.symm q2.2) (Ne.symm q3.2)).mono ?_
    rintro e w' ⟨rfl, hw⟩
    have hT' : Tch (fun k => tag k = 3 + i) w w' := (ok.t.imp (fun k _ e => by rw [e]; exact hB.t)).wr hw (.inl hB.t)
    have old : ∀ p, p < 3 → w'.cell? ⟨kb, p, none⟩ = w.cell? ⟨kb, p, none⟩ := fun p hp => (hw.oth p (by omega)).trans (ok.old p hp)
    have E := StepE.look (3 + i) hI hB hT' (ok.h8.wr hw) (fun o => (hw.fro o).trans (ok.f o)) old
    refine ⟨by rw [hd], tg tag w.heap.size (3 + i), po, ?_⟩
    by_cases hx : x ≤ A.mark
    · refine .inl ⟨by rw [hd]; exact decide_eq_true hx, by rw [idle_doS (A := A) (who := (i : Int)) (k := 2) (x := x) rfl (show idleA A (i : Int) 2 x = true from decide_eq_true hx)]; exact E, hw.at_, ?_, (hw.oth 7 (by decide)).trans ok.z⟩
      rw [(hw.oth 6 (by decide)).trans ok.y]
      show _ = some (Value.bool (decide (A.mark < x)))
      rw [decide_eq_false (by omega)]
    · exact .inr ⟨by rw [hd]; exact decide_eq_false hx, E, .inl ⟨rfl, tb, bm, ba, b1, hB1.again my (fun p _ hp => hw.oth p hp) (hw.heap tb hB1.n), TY.stays (hw.heap _ q1.2) (hw.heap _ q2.2) (hw.heap _ q3.2), hw.at_, q1.lt (World.block_lt_of_cell? w _ hT.m), q2.lt (World.block_lt_of_cell? w _ hT.a), q3.lt (World.block_lt_of_cell? w _ hT.x)⟩⟩

theorem seen_5 (kb wp i n : Nat) (ov dv : Value) (tag : Nat → Nat) (L : Nat → Nat) (po : Option Addr) (A : Ab) (x c : Int) (v : Int) (w : World) (hI : WI w tag wp L po A) (hB : WB w tag kb i ov dv) (hA : AbOk A n c) (hU : UT w tag (L 7) kb i v) (hv0 : 0 ≤ v) (hv : v < A.tt) :
    Calls Try.prog 43 #[.pointer (some ⟨kb, 0, none⟩), .pointer (some ⟨wp, 0, none⟩)] w fun e w' => e = .returned (.bool (doneA A (i : Int) 5 x (.num v))) ∧ StepQ w tag wp L po A kb i ov dv 5 x (.num v) w' := by
  obtain ⟨tb, bt, b2, ba, hB1, hT, h5, q1, q2, q3, n1, n2⟩ := hU
  have lk := hB.lt
  have nL := fun b (hb : Bx tag kb i b) => hI.nL hb.1
  have nk := hI.nL hB.t
  have hdA : doneA A (i : Int) 5 x (.num v) = (decide (v = A.tk) || decide (A.tt ≤ A.tk)) := rfl
  have htt := hA.tt
  have htk := hA.tk
  by_cases hm : v = A.tk
  · subst hm
    have hd : doneA A (i : Int) 5 x (.num A.tk) = true := by rw [hdA, decide_eq_true rfl]; rfl
    rw [hd]
    refine step_hit kb tb wp 95 _ w _ (ent95 _) hB1.c3 hB1.c4 hB1.p1 ((take_hit bt b2 ba (L 7) (L 8) kb 5 A.tt A.tk w hT hI.c.tick ⟨by omega, by omega⟩ (by rw [hB1.y]; rfl) (by rw [h5]; rfl) hB.f (Ne.symm q3.2) (Ne.symm q2.2) (Ne.symm (nL _ q3 8 (by decide))) (Ne.symm (nL _ q2 8 (by decide))) (Ne.symm (nk 8 (by decide))) (Ne.symm (nL _ q1 8 (by decide))) (hI.c.ne 8 7 (by decide) (by decide) (by decide)) (Ne.symm q1.2) (nk 7 (by decide))).mono ?_)
    rintro e w' ⟨rfl, w2, ⟨w1, h1, h2⟩, h3⟩
    have hc1 := hI.c.took (A.tk + 1) h1.wrN
    have k1 := h1.heap kb (nk 8 (by decide))
    have eS : doS A (i : Int) 5 x = { A with tk := A.tk + 1 } := by show { A with tk := takeN A.tt A.tk } = _; unfold takeN; rw [if_pos hv]
    refine ⟨rfl, tag, po, .inl ⟨hd, ?_, ?_, ?_, ?_⟩⟩
    · rw [eS]
      exact StepE.hit hI hB (fun _ _ => rfl) ((((Tch.rfl' w).wr h1 (.inl (.inl (.inr (.inr (.inr (.inr rfl))))))).wr h2 (.inl (.inr hB.t))).wr h3 (.inl (.inr hB.t))) (hc1.keep (fun j hj => (h3.heap _ (Ne.symm (nk j hj))).trans (h2.heap _ (Ne.symm (nk j hj)))) (fun k e => (h3.heap k (hI.np hB.t k e)).trans (h2.heap k (hI.np hB.t k e)))) hI.tp (.inl ⟨rfl, rfl⟩) (((hB.h8.wr h1).wr h2).wr h3) (fun o => (h3.fro o).trans ((h2.fro o).trans (fro_stay (hB.f o) k1))) (fun p hp => (h3.oth p (by omega)).trans ((h2.oth p (by omega)).trans (World.cell?_of_block (a := ⟨kb, p, none⟩) k1)))
    · rw [h3.at_]; show _ = some (Value.int .i64 (takeA A.tt A.tk)); unfold takeA; rw [if_pos hv]
    · rw [(h3.oth 6 (by decide)).trans h2.at_]; show _ = some (Value.bool (decide (A.tk < A.tt))); rw [decide_eq_true hv]
    · exact (h3.oth 7 (by decide)).trans ((h2.oth 7 (by decide)).trans (cell_stay hB1.z k1))
  · have hd : doneA A (i : Int) 5 x (.num v) = decide (A.tt ≤ A.tk) := by rw [hdA, decide_eq_false hm]; rfl
    refine step_miss kb tb wp 94 95 #[.pointer (some ⟨bt, 0, none⟩), .pointer (some ⟨b2, 0, none⟩)] _ w _ _ (ent94 _) (ent95 _) hB1.c3 hB1.c4 hB1.p1 hB1.n ((take_miss bt b2 ba (L 7) (L 8) kb 5 A.tt A.tk v w hT hI.c.tick ⟨by omega, by omega⟩ (by rw [hB1.y]; rfl) hB.f (Ne.symm q3.2) (Ne.symm q2.2) (Ne.symm q1.2) (nk 7 (by decide)) (fun e => hm e.symm)).mono ?_)
    rintro e w1 ⟨rfl, h1⟩
    obtain ⟨mp, my⟩ := MY.made hB1 hB (Below.refl _ w) h1
    refine ⟨rfl, mp.c3, mp.c4, mp.f4, mp.p0, ?_⟩
    obtain ⟨Y, hY⟩ : ∃ Y, Y = w1.setCell ⟨kb, 4, none⟩ (.bool true) := ⟨_, rfl⟩
    rw [← hY] at my ⊢
    clear mp h1 hY
    have ok := my.ok
    have blk : ∀ b, Bx tag kb i b → b < w.heap.size → Y.heap[b]? = w.heap[b]? := fun b hb hl => ok.t.heap b hl hb.2
    have l1 := World.block_lt_of_cell? w _ hT.t
    have l2 := World.block_lt_of_cell? w _ hT.s
    have l3 := World.block_lt_of_cell? w _ hT.a
    have TY := hT.stays (blk _ q1 l1) (blk _ q2 l2) (blk _ q3 l3)
    have IY := hI.stay (tag' := tag) (ok.t.imp (fun k _ e => by rw [e]; exact hB.t)) (fun _ _ => rfl)
    refine (take_look bt b2 ba (L 7) (L 8) kb 5 v A.tt A.tk Y TY IY.c.tick n1 (nL _ q2 7 (by decide))).mono ?_
    rintro e w' ⟨rfl, hw⟩
    have hT' : Tch (fun k => tag k = 3 + i) w w' := (ok.t.imp (fun k _ e => by rw [e]; exact hB.t)).wr hw (.inl q2.1)
    have kk := hw.heap kb (Ne.symm q2.2)
    have old : ∀ p, p < 3 → w'.cell? ⟨kb, p, none⟩ = w.cell? ⟨kb, p, none⟩ := fun p hp => (World.cell?_of_block (a := ⟨kb, p, none⟩) kk).trans (ok.old p hp)
    have E := StepE.look (3 + i) hI hB hT' (ok.h8.wr hw) (fun o => fro_stay (ok.f o) kk) old
    have a5 : w'.cell? ⟨kb, 5, none⟩ = some (.int .i64 0) := cell_stay (my.c5.trans h5) kk
    have ntb : tb ≠ b2 := fun e => by
      have := my.p0
      rw [e, TY.s] at this; cases this
    refine ⟨by rw [hd], tg tag w.heap.size (3 + i), po, ?_⟩
    by_cases hx : A.tt ≤ A.tk
    · refine .inl ⟨by rw [hd]; exact decide_eq_true hx, by rw [idle_doS (A := A) (who := (i : Int)) (k := 5) (x := x) rfl (show idleA A (i : Int) 5 x = true from decide_eq_true hx)]; exact E, ?_, ?_, cell_stay ok.z kk⟩
      · rw [a5]; show _ = some (Value.int .i64 (takeA A.tt A.tk)); unfold takeA; rw [if_neg (by omega)]
      · rw [cell_stay ok.y kk]; show _ = some (Value.bool (decide (A.tk < A.tt))); rw [decide_eq_false (by omega)]
    · exact .inr ⟨by rw [hd]; exact decide_eq_false hx, E, .inr ⟨rfl, tb, bt, b2, ba, hB1.again my (fun p _ _ => World.cell?_of_block (a := ⟨kb, p, none⟩) kk) (hw.heap tb ntb), ⟨cell_stay TY.t (hw.heap _ (Ne.symm n1)), hw.at_, (hw.fro 0).trans TY.sf, cell_stay TY.a (hw.heap _ (Ne.symm n2))⟩, a5, q1.lt l1, q2.lt l2, q3.lt l3, n1, n2⟩⟩

theorem seen_3 (kb wp i n : Nat) (ov dv : Value) (tag : Nat → Nat) (L : Nat → Nat) (po : Option Addr) (A : Ab) (x c : Int) (o : Option (Int × Int)) (w : World) (hI : WI w tag wp L po A) (hB : WB w tag kb i ov dv) (hA : AbOk A n c) (hU : UO w tag (L 2) kb i x po A.bs o) (hv : idleB o (i : Int) x = false) :
    Calls Try.prog 43 #[.pointer (some ⟨kb, 0, none⟩), .pointer (some ⟨wp, 0, none⟩)] w fun e w' => e = .returned (.bool (doneA A (i : Int) 3 x (.off o))) ∧ StepQ w tag wp L po A kb i ov dv 3 x (.off o) w' := by
  obtain ⟨tb, bb, b2, bw, b1, ba, q, hB1, hT, h5, q1, q2, q3, q4, q5, ⟨n1, n2, n3, n4⟩, hO, hq, hr⟩ := hU
  have lk := hB.lt
  have nL := fun b (hb : Bx tag kb i b) => hI.nL hb.1
  have nk := hI.nL hB.t
  have hdA : doneA A (i : Int) 3 x (.off o) = (decide (o = A.bs) || idleB A.bs (i : Int) x) := rfl
  have lp : ∀ k, po = some ⟨k, 0, none⟩ → k < w.heap.size := fun k e => hI.c.best.o.lt e
  have l3 := hI.c.lt 3 (by decide)
  rcases hr with ⟨e1, e2⟩ | ⟨e1, e2⟩
  · subst e1; subst e2
    have hd : doneA A (i : Int) 3 x (.off A.bs) = true := by rw [hdA, decide_eq_true rfl]; rfl
    rw [hd]
    refine step_hit kb tb wp 97 _ w _ (ent97 _) hB1.c3 hB1.c4 hB1.p1 ((offer_hit bb b2 bw b1 ba (L 2) (L 3) kb 5 q A.bs i x w hT hI.c.best (by rw [hB1.y]; rfl) (hB.f 6) (Ne.symm (nL _ q5 3 (by decide))) (Ne.symm q5.2) (nk 3 (by decide)) (Ne.symm (nL _ q1 3 (by decide))) (hI.c.ne 3 2 (by decide) (by decide) (by decide)) (Ne.symm (nL _ q2 3 (by decide))) (Ne.symm (nL _ q3 3 (by decide))) (Ne.symm (nL _ q4 3 (by decide)))).mono ?_)
    rintro e w' ⟨rfl, w1, h1, h2⟩
    have hoff : offerO A.bs (i : Int) x = some ((i : Int), x) := by unfold offerO; rw [if_neg (by rw [hv]; decide)]
    obtain ⟨p', hc1, hw1, -⟩ := hI.c.offered (i : Int) x (w' := w1) ⟨some ⟨w.heap.size, 0, none⟩, by rw [hoff]; exact ⟨_, rfl, h1.at_⟩, fun k e => .inr (by cases e; exact Nat.le_refl _), h1.wr⟩
    obtain rfl : p' = some ⟨w.heap.size, 0, none⟩ := by
      have := hw1.at_
      rw [h1.wr.at_] at this; injection this with this; injection this with this; exact this.symm
    have k1 := h1.wr.heap kb lk (nk 3 (by decide))
    have eS : doS A (i : Int) 3 x = { A with bs := offerO A.bs (i : Int) x } := rfl
    have z1 := h1.wr.size
    have hTt : Tch (fun b => CW L b ∨ tag b = 3 + i) w w1 := h1.wr.tch.imp (fun k _ e => .inl (.inr (.inl e)))
    refine ⟨rfl, tg tag w.heap.size 2, some ⟨w.heap.size, 0, none⟩, .inl ⟨hd, ?_, ?_, ?_, ?_⟩⟩
    · rw [eS]
      refine StepE.hit hI hB (fun b hb => tg_lt hb) (hTt.wr h2 (.inl (.inr hB.t))) (hc1.keep (fun j hj => h2.heap _ (Ne.symm (nk j hj))) (fun k e => h2.heap k (by cases e; omega))) (fun k e => by cases e; exact tg_ge (Nat.le_refl _)) (.inr ⟨w.heap.size, (i : Int), x, rfl, Nat.le_refl _, hv, hoff⟩) (Has8.wr (hB.h8.stays k1) h2) (fun o => (h2.fro o).trans (fro_stay (hB.f o) k1)) (fun p hp => (h2.oth p (by omega)).trans (World.cell?_of_block (a := ⟨kb, p, none⟩) k1))
    · exact (h2.oth 5 (by decide)).trans (cell_stay h5 k1)
    · rw [h2.at_]; show _ = some (Value.bool (!(idleB A.bs (i : Int) x))); rw [hv]; rfl
    · exact (h2.oth 7 (by decide)).trans (cell_stay hB1.z k1)
  · have hd : doneA A (i : Int) 3 x (.off o) = idleB A.bs (i : Int) x := by rw [hdA, decide_eq_false e2]; rfl
    refine step_miss kb tb wp 96 97 #[.pointer (some ⟨bb, 0, none⟩), .pointer (some ⟨b2, 0, none⟩), .pointer (some ⟨b1, 0, none⟩), .pointer (some ⟨bw, 0, none⟩)] _ w _ _ (ent96 _) (ent97 _) hB1.c3 hB1.c4 hB1.p1 hB1.n ((offer_miss bb b2 bw b1 ba (L 2) (L 3) kb 5 po q A.bs i x w hT hI.c.best (.of hO) (by rw [hB1.y]; rfl) (hB.f 6) (Ne.symm q5.2) (fun e => e1 e.symm)).mono ?_)
    rintro e w1 ⟨rfl, w0, hb0, h1⟩
    obtain ⟨mp, my⟩ := MY.made hB1 hB hb0 h1
    refine ⟨rfl, mp.c3, mp.c4, mp.f4, mp.p0, ?_⟩
    obtain ⟨Y, hY⟩ : ∃ Y, Y = w1.setCell ⟨kb, 4, none⟩ (.bool true) := ⟨_, rfl⟩
    rw [← hY] at my ⊢
    clear mp h1 hY
    have ok := my.ok
    have blk : ∀ b, Bx tag kb i b → b < w.heap.size → Y.heap[b]? = w.heap[b]? := fun b hb hl => ok.t.heap b hl hb.2
    have r1 := World.block_lt_of_cell? w _ hT.b
    have r2 := World.block_lt_of_cell? w _ hT.s
    have r3 := World.block_lt_of_cell? w _ hT.wh
    have r4 := World.block_lt_of_cell? w _ hT.x
    have r5 := World.block_lt_of_cell? w _ hT.a
    have TY := hT.stays (blk _ q1 r1) (blk _ q2 r2) (blk _ q3 r3) (blk _ q4 r4) (blk _ q5 r5)
    have IY := hI.stay (tag' := tag) (ok.t.imp (fun k _ e => by rw [e]; exact hB.t)) (fun _ _ => rfl)
    refine (offer_look bb b2 bw b1 ba (L 2) (L 3) kb 5 q po A.bs i x Y TY IY.c.best n3 n2 (fun k e => Ne.symm (hI.np q2.1 k e))).mono ?_
    rintro e w' ⟨rfl, hw⟩
    have hT' : Tch (fun k => tag k = 3 + i) w w' := (ok.t.imp (fun k _ e => by rw [e]; exact hB.t)).wr hw (.inl q2.1)
    have kk := hw.heap kb (Ne.symm q2.2)
    have old : ∀ p, p < 3 → w'.cell? ⟨kb, p, none⟩ = w.cell? ⟨kb, p, none⟩ := fun p hp => (World.cell?_of_block (a := ⟨kb, p, none⟩) kk).trans (ok.old p hp)
    have E := StepE.look (3 + i) hI hB hT' (ok.h8.wr hw) (fun o => fro_stay (ok.f o) kk) old
    have a5 : w'.cell? ⟨kb, 5, none⟩ = some (.int .i64 x) := cell_stay (my.c5.trans h5) kk
    have ntb : tb ≠ b2 := fun e => by
      have := my.p0
      rw [e, TY.s] at this; cases this
    refine ⟨by rw [hd], tg tag w.heap.size (3 + i), po, ?_⟩
    cases hx : idleB A.bs (i : Int) x with
    | true =>
      refine .inl ⟨by rw [hd]; exact hx, by rw [idle_doS (A := A) (who := (i : Int)) (k := 3) (x := x) rfl (show idleA A (i : Int) 3 x = true from hx)]; exact E, a5, ?_, cell_stay ok.z kk⟩
      rw [cell_stay ok.y kk]; show _ = some (Value.bool (!(idleB A.bs (i : Int) x))); rw [hx]; rfl
    | false =>
      exact .inr ⟨by rw [hd]; exact hx, E, rfl, tb, bb, b2, bw, b1, ba, po, hB1.again my (fun p _ _ => World.cell?_of_block (a := ⟨kb, p, none⟩) kk) (hw.heap tb ntb), ⟨cell_stay TY.b (hw.heap _ (Ne.symm n1)), hw.at_, (hw.fro 0).trans TY.sf, cell_stay TY.wh (hw.heap _ (Ne.symm n2)), cell_stay TY.x (hw.heap _ (Ne.symm n3)), cell_stay TY.a (hw.heap _ (Ne.symm n4))⟩, a5, q1.lt r1, q2.lt r2, q3.lt r3, q4.lt r4, q5.lt r5, ⟨n1, n2, n3, n4⟩, E.I.c.best.o, fun k e => E.I.tp k e, .inl ⟨rfl, rfl⟩⟩

def stepHyp (w : World) (wp ob oo on oc j dc kb i n : Nat) (dp : Option Addr) (tag : Nat → Nat) (L : Nat → Nat) (po : Option Addr) (A : Ab) (k x c : Int) (s : Sn) : Prop :=
  WI w tag wp L po A ∧ WB w tag kb i (.slice (some ⟨ob, oo, none⟩) on oc) (.slice dp j dc) ∧ UA w tag L po A.bs kb i k x s ∧ SnOk A (i : Int) k x s ∧ AbOk A n c
theorem step_any (wp ob oo on oc j dc kb i n : Nat) (dp : Option Addr) (tag : Nat → Nat) (L : Nat → Nat) (po : Option Addr) (A : Ab) (k x c : Int) (s : Sn) (w : World) (h : stepHyp w wp ob oo on oc j dc kb i n dp tag L po A k x c s) (hj : j < on) (o0 : w.cell? ⟨ob, oo + j * 2, none⟩ = some (.int .i64 k)) (o1 : w.cell? ⟨ob, oo + j * 2 + 1, none⟩ = some (.int .i64 x)) (hto : tag ob = 0) (hk : (Lit.int .i64 k).wf = true) (hi : i < n) (hc : c ≤ 4611686018427387904) :
    Calls Try.prog 43 #[.pointer (some ⟨kb, 0, none⟩), .pointer (some ⟨wp, 0, none⟩)] w fun e w' => e = .returned (.bool (doneA A (i : Int) k x s)) ∧ StepQ w tag wp L po A kb i (.slice (some ⟨ob, oo, none⟩) on oc) (.slice dp j dc) k x s w' := by
  obtain ⟨hI, hB, hU, hS, hA⟩ := h
  cases s with
  | no =>
    by_cases k1 : k = 1
    · subst k1; exact fresh_1 kb wp ob oo on oc j dc i n dp tag L po A x c w hI hB hU hj o0 o1 hto hA hi
    by_cases k2 : k = 2
    · subst k2; exact fresh_2 kb wp ob oo on oc j dc i n dp tag L po A x c w hI hB hU hj o0 o1 hto hA
    by_cases k3 : k = 3
    · subst k3; exact fresh_3 kb wp ob oo on oc j dc i n dp tag L po A x c w hI hB hU hj o0 o1 hto hA
    by_cases k4 : k = 4
    · subst k4; exact fresh_4 kb wp ob oo on oc j dc i n dp tag L po A x c w hI hB hU hj o0 o1 hto hA hc
    by_cases k5 : k = 5
    · subst k5; exact fresh_5 kb wp ob oo on oc j dc i n dp tag L po A x c w hI hB hU hj o0 o1 hto hA
    exact fresh_X k hk k1 k2 k3 k4 k5 kb wp ob oo on oc j dc i n dp tag L po A x c w hI hB hU hj o0 o1 hto hA
  | num v =>
    rcases hU with ⟨rfl, hU⟩ | ⟨rfl, hU⟩
    · rcases hS with ⟨-, hv, -⟩ | ⟨e, -⟩
      · exact seen_2 kb wp i n _ _ tag L po A x c v w hI hB hA hU hv
      · exact absurd e (by decide)
    · rcases hS with ⟨e, -⟩ | ⟨-, hv, hv2, -⟩
      · exact absurd e (by decide)
      · exact seen_5 kb wp i n _ _ tag L po A x c v w hI hB hA hU hv hv2
  | off o =>
    obtain ⟨rfl, hU⟩ := hU
    exact seen_3 kb wp i n _ _ tag L po A x c o w hI hB hA hU hS.2.1
end Go.Proofs.Ytimabgakemgldaa
