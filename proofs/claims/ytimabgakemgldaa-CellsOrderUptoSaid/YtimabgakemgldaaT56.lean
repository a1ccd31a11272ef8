import Derived.Test.YtimabgakemgldaaT55
import Derived.Test.YtimabgakemgldaaT50
import Derived.Laws.LoneSync
import Derived.WalkKit
import Derived.StillTailTactics
import Derived.Deep.RegionLaw
import Derived.Deep.RegionHeld3
import Derived.Laws.OwnMore
import Derived.Deep.Matrix
import Derived.BigQuiet
import Derived.Deep.QuietTactic
import Derived.Laws.EntriesVeiled
import Derived.Deep.RegionLaw
namespace Go.Proofs.Ytimabgakemgldaa
open Go.ChangeShapes Go.WideShapes Go.ChangeAt Go.RowKit Go.Deep
set_option linter.unusedSimpArgs false
set_option linter.unusedVariables false

theorem tch_cell2 {T : Nat → Prop} {V w' : World} {b o : Nat} {v : Value} (h : Tch T V w') (hn : ¬ T b) (hv : V.cell? ⟨b, o, none⟩ = some v) : w'.cell? ⟨b, o, none⟩ = some v := cell_stay hv (h.heap b (World.block_lt_of_cell? V _ hv) hn)
def nexts (n : Nat) (st : Ab × List WS) : List Int := (List.range n).map fun i => ((didAt st i).length : Int)
theorem nexts_len (n : Nat) (st : Ab × List WS) : (nexts n st).length = n := by simp [nexts]
theorem nexts_at {n i : Nat} (st : Ab × List WS) (h : i < n) : (nexts n st).getD i 0 = ((didAt st i).length : Int) := by
  unfold nexts; rw [List.getD_eq_getElem?_getD, List.getElem?_map, List.getElem?_range h]; rfl
theorem nexts_set {n i : Nat} {st st' : Ab × List WS} (h : i < n) (ho : ∀ j, j ≠ i → didAt st' j = didAt st j) (hl : (didAt st' i).length = (didAt st i).length + 1) : nexts n st' = (nexts n st).set i (((didAt st i).length : Int) + 1) := by
  apply List.ext_getElem
  · rw [List.length_set, nexts_len, nexts_len]
  · intro j h1 h2
    rw [nexts_len] at h1
    rw [List.getElem_set]
    by_cases e : i = j
    · subst e; rw [if_pos rfl]; simp [nexts, hl]
    · rw [if_neg e]; simp [nexts, ho j (Ne.symm e)]
theorem nexts_same {n : Nat} {st st' : Ab × List WS} (h : ∀ j, didAt st' j = didAt st j) : nexts n st' = nexts n st := by
  unfold nexts; exact List.map_congr_left (fun i _ => by rw [h i])
/-- the law's own record, under way -/
structure OrdR (w3 wr : World) (r rs nx n : Nat) (st : Ab × List WS) : Prop where
  b : Below w3.heap.size w3 wr
  ro : RObj wr r rs st.1
  nr : wr.ownsRow w3.heap.size 3 1 (.slice (some ⟨nx, 0, none⟩) n n) n (ints (nexts n st))
  ne : nx ≠ r ∧ nx ≠ rs
  lo : w3.heap.size ≤ r ∧ w3.heap.size ≤ rs
theorem OrdR.of {w3 wr wr' : World} {r rs nx n : Nat} {st st' : Ab × List WS} (h : OrdR w3 wr r rs nx n st) (e0 : wr'.heap = wr.heap) (e1 : wr'.os = wr.os) (e2 : wr'.tape = wr.tape) (e3 : wr'.output = wr.output) (hd : ∀ j, didAt st' j = didAt st j) (hA : st'.1 = st.1) : OrdR w3 wr' r rs nx n st' := by
  have s : ∀ b : Nat, wr'.heap[b]? = wr.heap[b]? := fun b => by rw [e0]
  exact ⟨⟨e1.trans h.b.os, e2.trans h.b.tape, e3.trans h.b.output, by rw [e0]; exact h.b.size, fun k hk => (s k).trans (h.b.block k hk)⟩, by rw [hA]; exact h.ro.stays (s _) (s _), by rw [nexts_same hd]; exact own_stays h.nr (fun _ _ => s _), h.ne, h.lo⟩
/-- the answer's box is laid behind the document's op -/
structure OrdX (wr w5 X : World) (tb : Nat) (aa : Int) (ay : Bool) : Prop where
  os : X.os = w5.os ∧ X.tape = w5.tape ∧ X.output = w5.output ∧ w5.heap.size ≤ X.heap.size
  heap : ∀ k, k < w5.heap.size → k ≠ tb → X.heap[k]? = w5.heap[k]?
  c0 : X.cell? ⟨tb, 0, none⟩ = some (.int .i64 aa)
  c1 : X.cell? ⟨tb, 1, none⟩ = some (.bool ay)
  c2 : X.cell? ⟨tb, 2, none⟩ = some (.int .i64 0)
  f2 : X.frozen? ⟨tb, 2, none⟩ = false
  lo : wr.heap.size ≤ tb
theorem flatA_at (l : List (Int × Bool × Int)) (q : Nat) (h : q < l.length) : (flatA l)[q * 3]? = some (.int .i64 (l.getD q (0, false, 0)).1) ∧ (flatA l)[q * 3 + 1]? = some (.bool (l.getD q (0, false, 0)).2.1) ∧ (flatA l)[q * 3 + 2]? = some (.int .i64 (l.getD q (0, false, 0)).2.2) := by
  induction l generalizing q with
  | nil => cases h
  | cons a l ih =>
    have e : flatA (a :: l) = ansV a ++ flatA l := rfl
    rw [e]
    cases q with
    | zero => exact ⟨rfl, rfl, rfl⟩
    | succ q =>
      have := ih q (by simpa using h)
      have el : (ansV a).length = 3 := rfl
      rw [List.getElem?_append_right (by rw [el]; omega), List.getElem?_append_right (by rw [el]; omega), List.getElem?_append_right (by rw [el]; omega), el, show (q + 1) * 3 - 3 = q * 3 by omega, show (q + 1) * 3 + 1 - 3 = q * 3 + 1 by omega, show (q + 1) * 3 + 2 - 3 = q * 3 + 2 by omega]
      rw [List.getD_cons_succ]; exact this
theorem pk_two {n : Nat} (h : 0 < n) (h64 : (n : Int) ≤ 4503599627370496) (p : Int) : (0 ≤ p.tmod (n : Int) ∧ p.tmod (n : Int) = ((pk n p : Nat) : Int)) ∨ (p.tmod (n : Int) < 0 ∧ p.tmod (n : Int) + (n : Int) = ((pk n p : Nat) : Int) ∧ wrap64 (p.tmod (n : Int) + (n : Int)) = ((pk n p : Nat) : Int)) := by
  have e := pk_tmod h p
  have h1 := Int.emod_nonneg p (show (n : Int) ≠ 0 by omega)
  have h3 := Int.emod_lt_of_pos p (show (0 : Int) < (n : Int) by omega)
  have e2 := Int.tmod_eq_emod (a := p) (b := (n : Int))
  have e4 : (((n : Int).natAbs : Nat) : Int) = (n : Int) := by simp
  have e5 : ((pk n p : Nat) : Int) = p % (n : Int) := by unfold pk; rw [Int.toNat_of_nonneg h1]
  have e6 := wrap_tm h h64 (p := p)
  split at e2
  · have e0 : (((0 : Nat)) : Int) = 0 := rfl
    rw [e0] at e2
    exact .inl ⟨by omega, by omega⟩
  · rw [e4] at e2
    by_cases hz : 0 ≤ p.tmod (n : Int)
    · omega
    · exact .inr ⟨by omega, by omega, by rw [e6]; omega⟩
theorem OutIs.keepB {w w' : World} {B : Nat} {v : Value} {n : Nat} {dv : Nat → Value} {did : Nat → List (Int × Bool × Int)} (h : OutIs w B v n dv did) (hb : Below w.heap.size w w') : OutIs w' B v n dv did :=
  ⟨own_stays h.o (fun k ek => hb.block k (h.o.lt k ek).2), fun i hi => own_stays (h.d i hi) (fun k ek => hb.block k ((h.d i hi).lt k ek).2), h.ne⟩
theorem OrdR.done {w3 wr w5 X X2 W' : World} {r rs nx n tb i : Nat} {st st' : Ab × List WS} {ops : Ops} {c at_ p aa : Int} {ay : Bool} {u : Value} (hor : OrdR w3 wr r rs nx n st) (hn : n = ops.length) (h0 : 0 < n) (hok : WOk ops st c) (il : i < n) (hip : i = pk ops.length p) (hd : isDone ops st i) (hnx : st' = pickA ops st at_ p) (hro : RObj w5 r rs (doS st.1 (i : Int) (opAt ops i (didAt st i).length).1 (opAt ops i (didAt st i).length).2)) (hwt : Tch (fun b => b = r ∨ b = rs) wr w5) (OX : OrdX wr w5 X tb aa ay) (hX2 : X2 = X.setCell ⟨tb, 2, none⟩ u)
    (e0 : W'.heap = (X2.setCell ⟨nx, i, none⟩ (.int .i64 (((didAt st i).length : Int) + 1))).heap) (e1 : W'.os = X2.os) (e2 : W'.tape = X2.tape) (e3 : W'.output = X2.output) : OrdR w3 W' r rs nx n st' := by
  have lr := hor.ro.lt
  have ln := hor.nr.lt nx rfl
  have lo := OX.lo
  have z5 := hwt.size
  have zb := hor.b.size
  have ne := hor.ne
  have lo3 := hor.lo
  have s5 : ∀ b, b < wr.heap.size → b ≠ r → b ≠ rs → X2.heap[b]? = wr.heap[b]? := fun b h1 h2 h3 => by
    rw [hX2]
    exact (heap_setCell_other _ _ _ _ (show b ≠ tb by omega)).trans ((OX.heap b (by omega) (by omega)).trans (hwt.heap b h1 (fun e => by rcases e with e | e; exact h2 e; exact h3 e)))
  have sr : ∀ b, b < wr.heap.size → X2.heap[b]? = w5.heap[b]? := fun b h1 => by
    rw [hX2]
    exact (heap_setCell_other _ _ _ _ (show b ≠ tb by omega)).trans (OX.heap b (by omega) (by omega))
  have sW : ∀ b, b ≠ nx → W'.heap[b]? = X2.heap[b]? := fun b hb => by rw [e0]; exact heap_setCell_other _ _ _ _ hb
  have ex : X2.os = wr.os ∧ X2.tape = wr.tape ∧ X2.output = wr.output := by rw [hX2]; exact ⟨OX.os.1.trans hwt.os, OX.os.2.1.trans hwt.tape, OX.os.2.2.1.trans hwt.output⟩
  have zX : wr.heap.size ≤ W'.heap.size := by
    rw [e0, World.size_setCell, hX2, World.size_setCell]
    have := OX.os.2.2.2; omega
  subst hn
  have hy := pick_yes (at_ := at_) hok h0 (by rw [← hip]; exact hd)
  rw [← hip, ← hnx] at hy
  refine ⟨⟨e1.trans (ex.1.trans hor.b.os), e2.trans (ex.2.1.trans hor.b.tape), e3.trans (ex.2.2.trans hor.b.output), by omega, fun b hb => (sW b (by omega)).trans ((s5 b (by omega) (by omega) (by omega)).trans (hor.b.block b hb))⟩, ?_, ?_, ne, lo3⟩
  · rw [hy.2]; exact hro.stays ((sW r (Ne.symm ne.1)).trans (sr r lr.1)) ((sW rs (Ne.symm ne.2)).trans (sr rs lr.2))
  · have own2 : X2.ownsRow w3.heap.size 3 1 (.slice (some ⟨nx, 0, none⟩) ops.length ops.length) ops.length (ints (nexts ops.length st)) := own_stays hor.nr (fun k e => by cases e; exact s5 nx ln.2 ne.1 ne.2)
    have q := (own2.stored i (.int .i64 (((didAt st i).length : Int) + 1))).1
    rw [← ints_set, ← nexts_set (st' := st') il (fun j hj => by rw [hnx]; exact pick_other hok h0 (by rw [← hip]; exact hj)) (by rw [hy.1, List.length_append]; rfl)] at q
    exact own_stays q (fun k e => by rw [e0])
def Zero3 : Obj := .cells #[.int .i64 0, .bool false, .int .i64 0] 52
theorem fr3 {W V w1 : World} {T : Nat → Prop} (hT : ∀ b, W.heap.size ≤ b → ¬ T b) (h : Tch T V w1) (e : V.heap = (W.alloc Zero3).heap) : w1.cell? ⟨W.heap.size, 0, none⟩ = some (.int .i64 0) ∧ w1.cell? ⟨W.heap.size, 1, none⟩ = some (.bool false) ∧ w1.cell? ⟨W.heap.size, 2, none⟩ = some (.int .i64 0) ∧ w1.frozen? ⟨W.heap.size, 0, none⟩ = false ∧ w1.frozen? ⟨W.heap.size, 1, none⟩ = false ∧ w1.frozen? ⟨W.heap.size, 2, none⟩ = false := by
  have b : w1.heap[W.heap.size]? = (W.alloc Zero3).heap[W.heap.size]? := by
    rw [← e]; exact h.heap _ (by rw [e]; simp) (hT _ (Nat.le_refl _))
  unfold Zero3 at b
  exact ⟨(World.cell?_of_block (a := ⟨W.heap.size, 0, none⟩) b).trans (by simp [go_sem]), (World.cell?_of_block (a := ⟨W.heap.size, 1, none⟩) b).trans (by simp [go_sem]), (World.cell?_of_block (a := ⟨W.heap.size, 2, none⟩) b).trans (by simp [go_sem]), (World.frozen?_of_block (a := ⟨W.heap.size, 0, none⟩) b).trans (by simp [go_sem]), (World.frozen?_of_block (a := ⟨W.heap.size, 1, none⟩) b).trans (by simp [go_sem]), (World.frozen?_of_block (a := ⟨W.heap.size, 2, none⟩) b).trans (by simp [go_sem])⟩

theorem info3 : (Try.prog.info? 3).map (fun i => (i.zero, i.size, i.bytes)) = some (some (.int .i64 0), 1, 8) := by kernel_rfl
structure EndAt (w : World) (eb : Nat) (A : Ab) : Prop where
  c0 : w.cell? ⟨eb, 0, none⟩ = some (.int .i64 (sumI A.S))
  c1 : w.cell? ⟨eb, 1, none⟩ = some (.int .i64 A.mark)
  c2 : w.cell? ⟨eb, 2, none⟩ = some (.int .i64 (bWho A.bs))
  c3 : w.cell? ⟨eb, 3, none⟩ = some (.int .i64 (bX A.bs))
  c4 : w.cell? ⟨eb, 4, none⟩ = some (.bool A.bs.isSome)
  c5 : w.cell? ⟨eb, 5, none⟩ = some (.int .i64 A.ar)
  c6 : w.cell? ⟨eb, 6, none⟩ = some (.bool (decide (A.gt ≤ A.ar)))
  c7 : w.cell? ⟨eb, 7, none⟩ = some (.int .i64 A.tk)
theorem EndAt.made (w : World) (A : Ab) : EndAt (w.alloc (.cells #[.int .i64 (sumI A.S), .int .i64 A.mark, .int .i64 (bWho A.bs), .int .i64 (bX A.bs), .bool A.bs.isSome, .int .i64 A.ar, .bool (decide (A.gt ≤ A.ar)), .int .i64 A.tk] 63)) w.heap.size A :=
  ⟨by simp [go_sem], by simp [go_sem], by simp [go_sem], by simp [go_sem], by simp [go_sem], by simp [go_sem], by simp [go_sem], by simp [go_sem]⟩
theorem EndAt.below {w w' : World} {eb : Nat} {A : Ab} (h : EndAt w eb A) (hb : Below w.heap.size w w') : EndAt w' eb A := by
  have s := hb.block eb (World.block_lt_of_cell? w _ h.c0)
  exact ⟨cell_stay h.c0 s, cell_stay h.c1 s, cell_stay h.c2 s, cell_stay h.c3 s, cell_stay h.c4 s, cell_stay h.c5 s, cell_stay h.c6 s, cell_stay h.c7 s⟩
theorem OrdR.first {w3 w4 wm : World} {r rs n : Nat} {mark gate tick : Int} {ops : Ops} {ps : List Int} (h1 : 1 ≤ n) (hn : n = ops.length) (hr : RObj w4 r rs (ab0 n mark gate tick)) (lr : w3.heap.size ≤ r) (ls : w3.heap.size ≤ rs) (hb : Below w3.heap.size w3 w4) (hown : wm.ownsRow w4.heap.size 3 1 (.slice (some ⟨w4.heap.size, 0, none⟩) n n) n (madeCells (Value.int .i64 0).cells (n * 1)).toList) (hg : w4.grownBy wm none) :
    OrdR w3 wm r rs w4.heap.size n (walkA (ab0 ops.length mark gate tick) ops ps 0) := by
  have b4 : Below w4.heap.size w4 wm := (Below.refl _ _).grown hg (Nat.le_refl _) (fun q e => by cases e)
  have e : nexts n (walkA (ab0 ops.length mark gate tick) ops ps 0) = List.replicate n 0 := by
    apply List.ext_getElem
    · rw [nexts_len, List.length_replicate]
    · intro i h1 h2
      rw [nexts_len] at h1
      simp [nexts, didAt, walkA, wsAt, ← hn, h1]
  have lt := hr.lt
  refine ⟨bstep hb b4, ?_, ?_, by omega, lr, ls⟩
  · show RObj wm r rs (ab0 ops.length mark gate tick)
    rw [← hn]; exact hr.below b4
  · rw [e, ← made_i64]; exact own_low hown hb.size

set_option maxRecDepth 100000 in
set_option maxHeartbeats 16000000 in
theorem Order_ok (mark gate tick : Int) (ab ao oc pc : Nat) (pp : Option Addr) (ops : Ops) (ps : List Int) (rp : Nat → Option Addr) (rc rb ro : Nat → Nat) (w : World) (hO : OpsIn w ab ao ops rp rc rb ro) (hP : PicksIn w pp ps) (h1 : 1 ≤ ops.length) (h2 : ops.length ≤ 64) (hg : 1 ≤ gate) (ht : 0 ≤ tick) (ht2 : tick ≤ 9223372036854775807) :
    Calls Try.prog 5 #[.agg #[.int .i64 mark, .int .i64 gate, .int .i64 tick], .slice (some ⟨ab, ao, none⟩) ops.length oc, .slice pp ps.length pc] w fun e w' => e = .returned (.bool true) ∧ Below w.heap.size w w' := by
  obtain ⟨W, hW⟩ : ∃ W, W = w.alloc (.cells #[.int .i64 mark, .int .i64 gate, .int .i64 tick] 23) := ⟨_, rfl⟩
  have hb0 : Below w.heap.size w W := by rw [hW]; (focus repeat' (first | (with_reducible exact Below.refl _ _) | (with_reducible assumption) | (with_reducible refine Below.alloc ?_ ?_ _) | (with_reducible refine Below.drew ?_) | (with_reducible refine bdrewN ?_ _) | (with_reducible refine Below.setCell ?_ ?_ _) | (first | (with_reducible exact Nat.le_refl _) | (with_reducible assumption) | omega | (simp; omega) | (simp; done))))
  have b0 : W.cell? ⟨w.heap.size, 0, none⟩ = some (.int .i64 mark) := by rw [hW]; simp [go_sem]
  have b1 : W.cell? ⟨w.heap.size, 1, none⟩ = some (.int .i64 gate) := by rw [hW]; simp [go_sem]
  have b2 : W.cell? ⟨w.heap.size, 2, none⟩ = some (.int .i64 tick) := by rw [hW]; simp [go_sem]
  have l0 := World.block_lt_of_cell? W _ b0
  simp only at l0
  have HB0 := hide hb0
  have HW := hide hW
  obtain ⟨n, hn⟩ : ∃ n, n = ops.length := ⟨_, rfl⟩
  obtain ⟨m, hm⟩ : ∃ m, m = ps.length := ⟨_, rfl⟩
  obtain ⟨fin, hfin⟩ : ∃ fin, fin = walkA (ab0 ops.length mark gate tick) ops ps ps.length := ⟨_, rfl⟩
  have hml := hP.ml
  have hfok := walkA_ok mark gate tick (ps.length : Int) (by omega) ops ps h1 hg ht ht2 ps.length (Int.le_refl _)
  have C22 := hide (show ∀ V, Below w.heap.size w V → Calls Try.prog 22 #[.agg #[.int .i64 mark, .int .i64 gate, .int .i64 tick], .slice (some ⟨ab, ao, none⟩) n oc, .slice pp m pc] V fun e w' => ∃ ob oc2 dv, e = .returned (.tuple #[.slice (some ⟨ob, 0, none⟩) n oc2, .agg #[.int .i64 (sumI fin.1.S), .int .i64 fin.1.mark, .int .i64 (bWho fin.1.bs), .int .i64 (bX fin.1.bs), .bool fin.1.bs.isSome, .int .i64 fin.1.ar, .bool (decide (fin.1.gt ≤ fin.1.ar)), .int .i64 fin.1.tk], .int .i64 0]) ∧ OutIs w' V.heap.size (.slice (some ⟨ob, 0, none⟩) n oc2) n dv (fun i => didAt fin i) ∧ Below V.heap.size V w' from fun V hV => by
    have q := Walk_ok mark gate tick ab ao oc pc pp ops ps rp rc rb ro V (hO.below hV) (hP.below hV) h1 h2 hg ht ht2
    rw [← hfin] at q
    rw [hn, hm]
    refine q.mono ?_
    rintro e w' ⟨v, dv, rfl, ho, hb⟩
    obtain ⟨ob, oc2, rfl, -, -⟩ := ho.o.form (by omega)
    exact ⟨ob, oc2, dv, rfl, ho, hb⟩)
  have C11 := hide (fun V => RNew_ok mark gate tick n V (by rw [hn]; exact h1) (by rw [hn]; exact h2) hg ht)
  have C20 := hide (show ∀ r rs V, RObj V r rs fin.1 → Calls Try.prog 20 #[.pointer (some ⟨r, 0, none⟩)] V fun e w' => e = .returned (.agg #[.int .i64 (sumI fin.1.S), .int .i64 fin.1.mark, .int .i64 (bWho fin.1.bs), .int .i64 (bX fin.1.bs), .bool fin.1.bs.isSome, .int .i64 fin.1.ar, .bool (decide (fin.1.gt ≤ fin.1.ar)), .int .i64 fin.1.tk]) ∧ Below V.heap.size V w' from fun r rs V h => REnd_c r rs fin.1 V h (by rw [hfin, hfok.a.S]; exact h2))
  obtain ⟨i3, hi3, hz3, hs3, hb3⟩ := info_parts info3
  have HO := hide hO
  have HP := hide hP
  have H1 := hide h1
  have H2 := hide h2
  have HG := hide hg
  have HT := hide ht
  have HT2 := hide ht2
  have HN := hide hn
  have HM := hide hm
  have HF := hide hfin
  have HML := hide (show (m : Int) ≤ 4503599627370496 by omega)
  rw [← hn, ← hm]
  clear hW hb0 hO hP h1 h2 hg ht ht2 hn hm hfin hml hfok
  go_enter Try.func5, Try.ntmps5
  go_upto_region 1 with fail
  rw [← HW.out]
  go_wp2_with fail
  refine (known_c W).mono ?_
  rintro e w1 ⟨rfl, hb⟩
  have b0 := cell_stay b0 (hb.block _ l0)
  have b1 := cell_stay b1 (hb.block _ l0)
  have b2 := cell_stay b2 (hb.block _ l0)
  have HB1 := hide (show Below w.heap.size w w1 from bstep HB0.out hb)
  have l1 : w.heap.size < w1.heap.size := Nat.lt_of_lt_of_le l0 hb.size
  clear hb l0
  go_wp2_with fail
  refine (C22.out w1 HB1.out).mono ?_
  rintro e w2 ⟨ob, oc2, dv, rfl, ho, hb⟩
  have b0 := cell_stay b0 (hb.block _ l1)
  have b1 := cell_stay b1 (hb.block _ l1)
  have b2 := cell_stay b2 (hb.block _ l1)
  have HOUT := hide ho
  have HB2 := hide (show Below w.heap.size w w2 from bstep HB1.out hb)
  have l2 : w.heap.size < w2.heap.size := Nat.lt_of_lt_of_le l1 hb.size
  clear ho hb l1 C22
  go_upto_region 4 with fail
  obtain ⟨w3, hw3⟩ : ∃ w3, w3 = w2.alloc (.cells #[.int .i64 (sumI fin.1.S), .int .i64 fin.1.mark, .int .i64 (bWho fin.1.bs), .int .i64 (bX fin.1.bs), .bool fin.1.bs.isSome, .int .i64 fin.1.ar, .bool (decide (fin.1.gt ≤ fin.1.ar)), .int .i64 fin.1.tk] 63) := ⟨_, rfl⟩
  rw [← hw3]
  have hb3 : Below w2.heap.size w2 w3 := by rw [hw3]; exact (Below.refl _ _).alloc (Nat.le_refl _) _
  obtain ⟨eb, heb⟩ : ∃ eb, eb = w2.heap.size := ⟨_, rfl⟩
  rw [← heb]
  have E8 := hide (show EndAt w3 eb fin.1 by rw [hw3, heb]; exact EndAt.made w2 fin.1)
  have b0 := cell_stay b0 (hb3.block _ l2)
  have b1 := cell_stay b1 (hb3.block _ l2)
  have b2 := cell_stay b2 (hb3.block _ l2)
  have HB3 := hide (show Below w.heap.size w w3 from bstep HB2.out hb3)
  have OUT3 := hide (show OutIs w3 w1.heap.size (.slice (some ⟨ob, 0, none⟩) n oc2) n dv (fun i => didAt fin i) from ⟨own_stays HOUT.out.o (fun k ek => hb3.block k (HOUT.out.o.lt k ek).2), fun i hi => own_stays (HOUT.out.d i hi) (fun k ek => hb3.block k ((HOUT.out.d i hi).lt k ek).2), HOUT.out.ne⟩)
  clear hw3 heb hb3 l2 HOUT
  go_wp2_with fail
  refine (C11.out w3).mono ?_
  rintro e w4 ⟨r, rs, rfl, hr, lr, ls, hb⟩
  have HR4 := hide (And.intro hr (And.intro lr (And.intro ls hb)))
  obtain ⟨wm, hrun, hown0, hgr0⟩ := run_make_full (P := Try.prog) w4 w4.heap.size 68 3 i3 _ 1 Try.underlying68 hi3 hz3 hs3 .i64 .i64 n (by rw [hb3]; have := H2.out; have := HN.out; omega) (by have := H2.out; have := HN.out; unfold maxLen; omega) (Nat.le_refl _)
  have hrun' : Sem.run Try.prog (Instr.makeSlice 68 (Value.int .i64 (n : Int)) (Value.int .i64 (n : Int))) w4 = .ok (.slice (some ⟨w4.heap.size, 0, none⟩) n n) wm := hrun
  have R0 := hide (show OrdR w3 wm r rs w4.heap.size n (walkA (ab0 ops.length mark gate tick) ops ps 0) from OrdR.first (by have := H1.out; have := HN.out; omega) HN.out hr lr ls hb hown0 hgr0)
  clear hr lr ls hb hown0 hgr0 hrun C11 b0 b1 b2
  go_wp2_with (go_at_call 10; (apply Calls.mono; focus (exact num_c _ _)); rintro e w' ⟨rfl, rfl⟩)
  obtain ⟨nx, hnx⟩ : ∃ nx, nx = w4.heap.size := ⟨_, rfl⟩
  rw [← hnx] at R0 ⊢
  clear hnx hrun'
  go_wp2_with fail
  go_loopw [13] (fun v13 wr => ∃ (k : Nat), k ≤ m ∧ v13 = .int .i64 (k : Int) ∧ OrdR w3 wr r rs nx n (walkA (ab0 ops.length mark gate tick) ops ps k)) (fun v13 _ => m - (intOf v13).toNat)
  case atStart => exact ⟨0, Nat.zero_le _, rfl, R0.out⟩
  case round =>
    obtain ⟨k, hk, rfl, hor⟩ := hrel
    have hk0 : (0 : Int) ≤ (k : Int) := by omega
    have hk9 : (k : Int) ≤ 4503599627370496 := by have := HML.out; omega
    by_cases hlt : k < m
    · have hl2 : (k : Int) < (m : Int) := by omega
      obtain ⟨qb, qo, rfl, hq0⟩ := (HP.out.below (bstep HB3.out hor.b)).at_ k (by have := HM.out; omega)
      obtain ⟨p, hp⟩ : ∃ p, p = ps.getD k 0 := ⟨_, rfl⟩
      rw [← hp] at hq0
      have np : 0 < n := by have := H1.out; have := HN.out; omega
      have n64 : (n : Int) ≤ 64 := by have := H2.out; have := HN.out; omega
      obtain ⟨i, hi⟩ : ∃ i, i = pk n p := ⟨_, rfl⟩
      have il : i < n := by rw [hi]; exact pk_lt np p
      have PT := hide (pk_two np (by omega) p)
      rw [← hi] at PT
      have il2 : (i : Int) < (n : Int) := by omega
      have il0 : (0 : Int) ≤ (i : Int) := by omega
      obtain ⟨st, hst⟩ : ∃ st, st = walkA (ab0 ops.length mark gate tick) ops ps k := ⟨_, rfl⟩
      rw [← hst] at hor
      have HOR0 := hide hor
      have WK := hide (show WOk ops st (k : Int) by rw [hst]; exact walkA_ok mark gate tick (k : Int) (by omega) ops ps H1.out HG.out HT.out HT2.out k (Int.le_refl _))
      have IL := hide il
      have IP := hide (show i = pk ops.length p by rw [hi, HN.out])
      have NXT := hide (show walkA (ab0 ops.length mark gate tick) ops ps (k + 1) = pickA ops st (k : Int) p by rw [hst, hp]; rfl)
      have DI := hide (done_iff (st := st) (fin := fin) (mark := mark) (gate := gate) (tick := tick) (B := (m : Int)) (by have := HML.out; omega) (ops := ops) (ps := ps) H1.out HG.out HT.out HT2.out (k := k) (m := m) hlt (Int.le_refl _) hst (by rw [HM.out]; exact HF.out) (i := i) (by rw [← hp]; exact IP.out))
      have OUTW := OUT3.out.keepB hor.b
      have OPW := HO.out.below (bstep HB3.out hor.b)
      have f1 : wr.cell? ⟨nx, i, none⟩ = some (.int .i64 ((didAt st i).length : Int)) := by rw [hor.nr.cellAt i (by omega), ints_at (by rw [nexts_len]; exact il), nexts_at _ il]
      have sf := hor.nr.frozenAt i
      have f2 : wr.cell? ⟨ob, i, none⟩ = some (dv i) := by rw [OUTW.o.cellAt i (by omega), List.getElem?_map, List.getElem?_range il]; rfl
      have f3 := OPW.row i (by rw [← HN.out]; exact il)
      obtain ⟨dp, dc, hdv⟩ := own_any (OUTW.d i il)
      rw [hdv] at f2
      have LB := hide (show ob < w3.heap.size ∧ ab < w3.heap.size from ⟨(OUT3.out.o.lt ob rfl).2, by have q5 := World.block_lt_of_cell? w _ (HO.out.row i (by rw [← HN.out]; exact il)); have q6 := HB3.out.size; exact Nat.lt_of_lt_of_le q5 q6⟩)
      obtain ⟨q, hq⟩ : ∃ q, q = (didAt st i).length := ⟨_, rfl⟩
      obtain ⟨dl, hdl⟩ : ∃ dl, dl = (didAt fin i).length := ⟨_, rfl⟩
      obtain ⟨ol, hol⟩ : ∃ ol, ol = (ops.getD i []).length := ⟨_, rfl⟩
      obtain ⟨rpi, hrp⟩ : ∃ rpi, rpi = rp i := ⟨_, rfl⟩
      obtain ⟨rci, hrc⟩ : ∃ rci, rci = rc i := ⟨_, rfl⟩
      obtain ⟨kk, hkk⟩ : ∃ kk, kk = (opAt ops i q).1 := ⟨_, rfl⟩
      obtain ⟨xx, hxx⟩ : ∃ xx, xx = (opAt ops i q).2 := ⟨_, rfl⟩
      have GD := hide (show q < dl → ∃ gd, dp = some ⟨gd, 0, none⟩ ∧ gd < w3.heap.size ∧ wr.cell? ⟨gd, q * 3, none⟩ = some (.int .i64 ((didAt fin i).getD q (0, false, 0)).1) ∧ wr.cell? ⟨gd, q * 3 + 1, none⟩ = some (.bool ((didAt fin i).getD q (0, false, 0)).2.1) ∧ wr.cell? ⟨gd, q * 3 + 2, none⟩ = some (.int .i64 ((didAt fin i).getD q (0, false, 0)).2.2) from fun hlt2 => by
        have row := OUTW.d i il
        have row3 := OUT3.out.d i il
        rw [hdl] at hlt2
        obtain ⟨gd, cd, hg2, -, -⟩ := row.form (by omega)
        rw [hg2] at hdv row row3
        injection hdv with z1 z2 z3
        have fa := flatA_at (didAt fin i) q hlt2
        exact ⟨gd, z1.symm, (row3.lt gd rfl).2, (row.cellAt (q * 3) (by omega)).trans fa.1, (row.cellAt (q * 3 + 1) (by omega)).trans fa.2.1, (row.cellAt (q * 3 + 2) (by omega)).trans fa.2.2⟩)
      have RB := hide (show q < ol → ∃ rbi roi, rpi = some ⟨rbi, roi, none⟩ ∧ wr.cell? ⟨rbi, roi + q * 2, none⟩ = some (.int .i64 kk) ∧ wr.cell? ⟨rbi, roi + q * 2 + 1, none⟩ = some (.int .i64 xx) from fun hlt2 => by
        rw [hol] at hlt2
        refine ⟨rb i, ro i, by rw [hrp]; exact OPW.adr i (by rw [← HN.out]; exact il) (by omega), ?_, ?_⟩
        · rw [hkk]; exact OPW.k i q (by rw [← HN.out]; exact il) hlt2
        · rw [hxx]; exact OPW.x i q (by rw [← HN.out]; exact il) hlt2)
      have LRB := hide (show ∀ rbi roi, q < ol → rpi = some ⟨rbi, roi, none⟩ → rbi < w3.heap.size from fun rbi roi hlt2 e => by
        rw [hol] at hlt2
        have e1 := HO.out.adr i (by rw [← HN.out]; exact il) (by omega)
        rw [hrp, e1] at e
        injection e with e
        injection e with e _ _
        subst e
        exact Nat.lt_of_lt_of_le (World.block_lt_of_cell? w _ (HO.out.k i q (by rw [← HN.out]; exact il) hlt2)) HB3.out.size)
      have OL := hide (show isDone ops st i → q < ol from fun z => by
        have := WK.out.le i (by rw [← HN.out]; exact il)
        have z1 := z.1
        rw [hq, hol]
        unfold didAt at z1 ⊢; omega)
      have OLM := hide (show ol ≤ 5864062014800 by rw [hol]; exact HO.out.ml i (by rw [← HN.out]; exact il))
      have KQ := hide hq
      have KX := hide (And.intro hkk hxx)
      rw [← hq] at f1 DI
      rw [← hdl] at f2 DI
      rw [← hkk, ← hxx] at DI
      rw [← hol, ← hrp, ← hrc] at f3
      have NOT := hide (show ¬ isDone ops st i → ∀ W' : World, W'.heap = wr.heap → W'.os = wr.os → W'.tape = wr.tape → W'.output = wr.output → OrdR w3 W' r rs nx n (walkA (ab0 ops.length mark gate tick) ops ps (k + 1)) from fun hd W' z1 z2 z3 z4 => by
        have pn := pick_not (at_ := (k : Int)) (p := p) WK.out H1.out (by rw [← IP.out]; exact hd)
        rw [NXT.out]
        exact HOR0.out.of z1 z2 z3 z4 pn.1 pn.2)
      have s0 := f3
      have s1 := f1
      have s4 := f2
      clear hor hp hi hst hdv hq hdl hol hrp hrc hkk hxx OUTW OPW il np f1 f2 f3
      rcases PT.out with ⟨z1, z2⟩ | ⟨z1, z2, z3⟩
      · have d7 : decide ((i : Int) < 0) = false := decide_eq_false (by omega)
        have d8 : ¬ (i : Int) < 0 := by omega
        clear z1
        rcases DI.out with ⟨y1, y2, y3⟩ | ⟨y1, y2⟩
        · have hqo : q < ol := OL.out y1
          have d1 : decide (dl ≤ q) = false := decide_eq_false (by omega)
          have d2 : decide ((dl : Int) ≤ (q : Int)) = false := decide_eq_false (by omega)
          have d3 : decide (ol ≤ q) = false := decide_eq_false (by omega)
          have d4 : decide ((ol : Int) ≤ (q : Int)) = false := decide_eq_false (by omega)
          have d5 : ¬ dl ≤ q := by omega
          have d6 : ¬ ol ≤ q := by omega
          obtain ⟨gd, rfl, lgd, c1, c2, c3⟩ := GD.out y2
          obtain ⟨rbi, roi, rfl, s2, s3⟩ := RB.out hqo
          rw [y3] at c1 c2 c3
          simp only at c1 c2 c3
          obtain ⟨aa, haa⟩ : ∃ aa, aa = (doA st.1 (i : Int) kk xx).1 := ⟨_, rfl⟩
          obtain ⟨ay, hay⟩ : ∃ ay, ay = (doA st.1 (i : Int) kk xx).2 := ⟨_, rfl⟩
          rw [← haa] at c1
          rw [← hay] at c2
          have C17 := hide (show ∀ V, Below wr.heap.size wr V → Calls Try.prog 17 #[.pointer (some ⟨r, 0, none⟩), .int .i64 (i : Int), .agg #[.int .i64 kk, .int .i64 xx]] V fun e w5 => e = .returned (.agg #[.int .i64 aa, .bool ay, .int .i64 0]) ∧ RObj w5 r rs (doS st.1 (i : Int) kk xx) ∧ Tch (fun b => b = r ∨ b = rs) wr w5 ∧ Tch (fun b => b = r ∨ b = rs) V w5 from fun V hV => by
            have q5 := Do_any r rs st.1 i ops.length kk xx (k : Int) V (HOR0.out.ro.below hV) WK.out.a (by omega) (by rw [← HN.out]; exact IL.out)
            unfold DoPost at q5
            rw [← haa, ← hay] at q5
            exact q5.mono fun e w5 z => ⟨z.1, z.2.1, (Tch.of hV).trans z.2.2, z.2.2⟩)
          have NT := hide (show ∀ b, b ≠ r ∧ b ≠ rs → ¬ (b = r ∨ b = rs) from fun b h e => by omega)
          have NL := hide (show ∀ b, wr.heap.size ≤ b → ¬ (b = r ∨ b = rs) from fun b h e => by have := HOR0.out.ro.lt; omega)
          have NB := hide (show (nx < wr.heap.size ∧ nx ≠ r ∧ nx ≠ rs) ∧ (ob < wr.heap.size ∧ ob ≠ r ∧ ob ≠ rs) ∧ (gd < wr.heap.size ∧ gd ≠ r ∧ gd ≠ rs) ∧ (ab ≠ r ∧ ab ≠ rs) ∧ (rbi ≠ r ∧ rbi ≠ rs) ∧ ab < wr.heap.size ∧ rbi < wr.heap.size from by
            have a1 := (HOR0.out.nr.lt nx rfl).2
            have a2 := HOR0.out.ne
            have a3 := HOR0.out.lo
            have a4 := HOR0.out.b.size
            have a5 := LB.out
            have a6 := LRB.out rbi roi hqo rfl
            omega)
          have FIN0 := hide (show ∀ w5 X X2 tb, RObj w5 r rs (doS st.1 (i : Int) kk xx) → Tch (fun b => b = r ∨ b = rs) wr w5 → OrdX wr w5 X tb aa ay → X2 = X.setCell ⟨tb, 2, none⟩ (.int .i64 (k : Int)) → ∀ W' : World, W'.heap = (X2.setCell ⟨nx, i, none⟩ (.int .i64 ((q : Int) + 1))).heap → W'.os = X2.os → W'.tape = X2.tape → W'.output = X2.output → OrdR w3 W' r rs nx n (walkA (ab0 ops.length mark gate tick) ops ps (k + 1)) from fun w5 X X2 tb z1 z2 z3 z4 W' z5 z6 z7 z8 => by
            rw [KX.out.1, KX.out.2] at z1
            rw [KQ.out] at z1 z5
            exact OrdR.done HOR0.out HN.out (by have := IL.out; omega) WK.out IL.out IP.out y1 NXT.out z1 z2 z3 z4 z5 z6 z7 z8)
          have hqi : (q : Int) < (ol : Int) := by omega
          have hq9 : (q : Int) ≤ 5864062014800 := by have := OLM.out; omega
          have hqd : (q : Int) < (dl : Int) := by omega
          have hq0' : (0 : Int) ≤ (q : Int) := by omega
          have hqn : q < ol := hqo
          have hqm : q < dl := y2
          have lab := NB.out.2.2.2.2.2.1
          have lrb := NB.out.2.2.2.2.2.2
          have lnx := NB.out.1.1
          clear haa hay y1 y2 y3 lgd hqo
          go_wp2_with fail
          go_quiet (fail)
          go_wp2_with fail
          go_quiet (fail)
          go_wp2_with fail
          go_region_held3 (fun w' => w'.cell? ⟨ab, ao + i, none⟩ = some (.slice (some ⟨rbi, roi, none⟩) ol rci) ∧ w'.cell? ⟨nx, i, none⟩ = some (.int .i64 (q : Int)) ∧ w'.cell? ⟨rbi, roi + q * 2, none⟩ = some (.int .i64 kk) ∧ w'.cell? ⟨rbi, roi + q * 2 + 1, none⟩ = some (.int .i64 xx))
            (((try go_split_ands); refine ⟨?_, ?_, ?_, ?_⟩; (focus (first | (with_reducible assumption) | ((repeat (first | with_reducible refine c_dr ?_ | with_reducible refine c_al ?_ _ | with_reducible refine c_drN ?_ _)); with_reducible assumption) | (simp [go_sem, *]; done))); (focus (first | (with_reducible assumption) | ((repeat (first | with_reducible refine c_dr ?_ | with_reducible refine c_al ?_ _ | with_reducible refine c_drN ?_ _)); with_reducible assumption) | (simp [go_sem, *]; done))); (focus (first | (with_reducible assumption) | ((repeat (first | with_reducible refine c_dr ?_ | with_reducible refine c_al ?_ _ | with_reducible refine c_drN ?_ _)); with_reducible assumption) | (simp [go_sem, *]; done))); (focus (first | (with_reducible assumption) | ((repeat (first | with_reducible refine c_dr ?_ | with_reducible refine c_al ?_ _ | with_reducible refine c_drN ?_ _)); with_reducible assumption) | (simp [go_sem, *]; done)))))
            (first | (go_at_call 17; (apply Calls.mono; focus (exact C17.out _ (by (focus repeat' (first | (with_reducible exact Below.refl _ _) | (with_reducible assumption) | (with_reducible refine Below.alloc ?_ ?_ _) | (with_reducible refine Below.drew ?_) | (with_reducible refine bdrewN ?_ _) | (with_reducible refine Below.setCell ?_ ?_ _) | (first | (with_reducible exact Nat.le_refl _) | (with_reducible assumption) | omega | (simp; omega) | (simp; done))))))); rintro e w5 ⟨rfl, hro, hwt, ht⟩; have g0 : w5.cell? ⟨ab, ao + i, none⟩ = some (.slice (some ⟨rbi, roi, none⟩) ol rci) := tch_cell2 hwt (NT.out ab (by first | omega | (have := NB.out; omega))) s0; have g1 : w5.cell? ⟨nx, i, none⟩ = some (.int .i64 (q : Int)) := tch_cell2 hwt (NT.out nx (by first | omega | (have := NB.out; omega))) s1; have g2 : w5.cell? ⟨rbi, roi + q * 2, none⟩ = some (.int .i64 kk) := tch_cell2 hwt (NT.out rbi (by first | omega | (have := NB.out; omega))) s2; have g3 : w5.cell? ⟨rbi, roi + q * 2 + 1, none⟩ = some (.int .i64 xx) := tch_cell2 hwt (NT.out rbi (by first | omega | (have := NB.out; omega))) s3; (first | (have OV := hide (And.intro hro hwt); obtain ⟨e0, e1, e2, e3, e4, e5⟩ := fr3 (W := wr) NL.out ht rfl) | (have OV := hide (And.intro hro hwt))); clear hro hwt ht))
          · obtain ⟨tb, htb⟩ : ∃ tb, tb = w5.heap.size := ⟨_, rfl⟩
            obtain ⟨X, hX⟩ : ∃ X, X = w5.alloc (.cells #[.int .i64 aa, .bool ay, .int .i64 0] 52) := ⟨_, rfl⟩
            rw [← hX, ← htb]
            have OX : OrdX wr w5 X tb aa ay := by rw [hX, htb]; exact ⟨⟨rfl, rfl, rfl, by rw [World.size_alloc]; exact Nat.le_succ _⟩, fun k hk _ => al_blk _ _ hk, by simp [go_sem], by simp [go_sem], by simp [go_sem], by simp [go_sem], OV.out.2.size⟩
            have HX := hide OX
            have x0 := OX.c0
            have x1 := OX.c1
            have x2 := OX.c2
            have xf := OX.f2
            clear lab lrb lnx
            clear hX htb OX g0 g1 g2 g3 s0 s2 s3
            go_upto_region 21 with fail
            obtain ⟨X2, hX2⟩ : ∃ X2, X2 = X.setCell ⟨tb, 2, none⟩ (.int .i64 (k : Int)) := ⟨_, rfl⟩
            rw [← hX2]
            have zX : ∀ b, b < wr.heap.size → b ≠ r → b ≠ rs → X2.heap[b]? = wr.heap[b]? := fun b h1 h2 h3 => by
              have lo := HX.out.lo
              have z5 := OV.out.2.size
              rw [hX2]
              exact (heap_setCell_other _ _ _ _ (show b ≠ tb by omega)).trans ((HX.out.heap b (by omega) (by omega)).trans (OV.out.2.heap b h1 (fun e => by rcases e with e | e; exact h2 e; exact h3 e)))
            have v0 : X2.cell? ⟨tb, 0, none⟩ = some (.int .i64 aa) := by rw [hX2]; exact (cell_ne (by decide)).trans x0
            have v1 : X2.cell? ⟨tb, 1, none⟩ = some (.bool ay) := by rw [hX2]; exact (cell_ne (by decide)).trans x1
            have v2 : X2.cell? ⟨tb, 2, none⟩ = some (.int .i64 (k : Int)) := by rw [hX2]; exact World.cell?_setCell_same' _ _ _ (by rw [x2]; rfl)
            have u1 : X2.cell? ⟨nx, i, none⟩ = some (.int .i64 (q : Int)) := cell_stay s1 (zX nx NB.out.1.1 NB.out.1.2.1 NB.out.1.2.2)
            have uf : X2.frozen? ⟨nx, i, none⟩ = false := fro_stay sf (zX nx NB.out.1.1 NB.out.1.2.1 NB.out.1.2.2)
            have o1 : X2.cell? ⟨ob, i, none⟩ = some (.slice (some ⟨gd, 0, none⟩) dl dc) := cell_stay s4 (zX ob NB.out.2.1.1 NB.out.2.1.2.1 NB.out.2.1.2.2)
            have o2 : X2.cell? ⟨gd, q * 3, none⟩ = some (.int .i64 aa) := cell_stay c1 (zX gd NB.out.2.2.1.1 NB.out.2.2.1.2.1 NB.out.2.2.1.2.2)
            have o3 : X2.cell? ⟨gd, q * 3 + 1, none⟩ = some (.bool ay) := cell_stay c2 (zX gd NB.out.2.2.1.1 NB.out.2.2.1.2.1 NB.out.2.2.1.2.2)
            have o4 : X2.cell? ⟨gd, q * 3 + 2, none⟩ = some (.int .i64 (k : Int)) := cell_stay c3 (zX gd NB.out.2.2.1.1 NB.out.2.2.1.2.1 NB.out.2.2.1.2.2)
            have FIN := hide (FIN0.out w5 X X2 tb OV.out.1 OV.out.2 HX.out hX2)
            have hne := ans_neq aa (k : Int) ay
            clear hX2 zX x0 x1 x2 xf s1 s4 sf c1 c2 c3 OV
            go_quiet (fail)
            go_wp2_with fail
            go_roundw
            case rel => exact ⟨k + 1, by omega, by go_num, FIN.out _ rfl rfl rfl rfl⟩
            case measure => (first | (simp [intOf]; done) | (simp [intOf]; omega))
          · obtain ⟨tb, htb⟩ : ∃ tb, tb = wr.heap.size := ⟨_, rfl⟩
            obtain ⟨X, hX⟩ : ∃ X, X = ((w5.setCell ⟨wr.heap.size, 0, none⟩ (.int .i64 aa)).setCell ⟨wr.heap.size, 1, none⟩ (.bool ay)).setCell ⟨wr.heap.size, 2, none⟩ (.int .i64 0) := ⟨_, rfl⟩
            rw [← hX, ← htb]
            have OX : OrdX wr w5 X tb aa ay := by rw [hX, htb]; exact ⟨⟨rfl, rfl, rfl, by rw [World.size_setCell, World.size_setCell, World.size_setCell]; exact Nat.le_refl _⟩, fun k _ hn => (heap_setCell_other _ _ _ _ hn).trans ((heap_setCell_other _ _ _ _ hn).trans (heap_setCell_other _ _ _ _ hn)), (cell_ne (by decide)).trans ((cell_ne (by decide)).trans (World.cell?_setCell_same' _ _ _ (by rw [e0]; rfl))), (cell_ne (by decide)).trans (World.cell?_setCell_same' _ _ _ (by rw [cell_ne (by decide), e1]; rfl)), World.cell?_setCell_same' _ _ _ (by rw [cell_ne (by decide), cell_ne (by decide), e2]; rfl), (World.frozen?_setCell _ _ _ _).trans ((World.frozen?_setCell _ _ _ _).trans ((World.frozen?_setCell _ _ _ _).trans e5)), Nat.le_refl _⟩
            have HX := hide OX
            have x0 := OX.c0
            have x1 := OX.c1
            have x2 := OX.c2
            have xf := OX.f2
            clear lab lrb lnx
            clear hX htb OX g0 g1 g2 g3 e0 e1 e2 e3 e4 e5 s0 s2 s3
            go_upto_region 21 with fail
            obtain ⟨X2, hX2⟩ : ∃ X2, X2 = X.setCell ⟨tb, 2, none⟩ (.int .i64 (k : Int)) := ⟨_, rfl⟩
            rw [← hX2]
            have zX : ∀ b, b < wr.heap.size → b ≠ r → b ≠ rs → X2.heap[b]? = wr.heap[b]? := fun b h1 h2 h3 => by
              have lo := HX.out.lo
              have z5 := OV.out.2.size
              rw [hX2]
              exact (heap_setCell_other _ _ _ _ (show b ≠ tb by omega)).trans ((HX.out.heap b (by omega) (by omega)).trans (OV.out.2.heap b h1 (fun e => by rcases e with e | e; exact h2 e; exact h3 e)))
            have v0 : X2.cell? ⟨tb, 0, none⟩ = some (.int .i64 aa) := by rw [hX2]; exact (cell_ne (by decide)).trans x0
            have v1 : X2.cell? ⟨tb, 1, none⟩ = some (.bool ay) := by rw [hX2]; exact (cell_ne (by decide)).trans x1
            have v2 : X2.cell? ⟨tb, 2, none⟩ = some (.int .i64 (k : Int)) := by rw [hX2]; exact World.cell?_setCell_same' _ _ _ (by rw [x2]; rfl)
            have u1 : X2.cell? ⟨nx, i, none⟩ = some (.int .i64 (q : Int)) := cell_stay s1 (zX nx NB.out.1.1 NB.out.1.2.1 NB.out.1.2.2)
            have uf : X2.frozen? ⟨nx, i, none⟩ = false := fro_stay sf (zX nx NB.out.1.1 NB.out.1.2.1 NB.out.1.2.2)
            have o1 : X2.cell? ⟨ob, i, none⟩ = some (.slice (some ⟨gd, 0, none⟩) dl dc) := cell_stay s4 (zX ob NB.out.2.1.1 NB.out.2.1.2.1 NB.out.2.1.2.2)
            have o2 : X2.cell? ⟨gd, q * 3, none⟩ = some (.int .i64 aa) := cell_stay c1 (zX gd NB.out.2.2.1.1 NB.out.2.2.1.2.1 NB.out.2.2.1.2.2)
            have o3 : X2.cell? ⟨gd, q * 3 + 1, none⟩ = some (.bool ay) := cell_stay c2 (zX gd NB.out.2.2.1.1 NB.out.2.2.1.2.1 NB.out.2.2.1.2.2)
            have o4 : X2.cell? ⟨gd, q * 3 + 2, none⟩ = some (.int .i64 (k : Int)) := cell_stay c3 (zX gd NB.out.2.2.1.1 NB.out.2.2.1.2.1 NB.out.2.2.1.2.2)
            have FIN := hide (FIN0.out w5 X X2 tb OV.out.1 OV.out.2 HX.out hX2)
            have hne := ans_neq aa (k : Int) ay
            clear hX2 zX x0 x1 x2 xf s1 s4 sf c1 c2 c3 OV
            go_quiet (fail)
            go_wp2_with fail
            go_roundw
            case rel => exact ⟨k + 1, by omega, by go_num, FIN.out _ rfl rfl rfl rfl⟩
            case measure => (first | (simp [intOf]; done) | (simp [intOf]; omega))
        · by_cases y3 : dl ≤ q
          · have d1 : decide (dl ≤ q) = true := decide_eq_true y3
            have d2 : decide ((dl : Int) ≤ (q : Int)) = true := decide_eq_true (by omega)
            go_wp2_with fail
            go_quiet (fail)
            go_wp2_with fail
            go_roundw
            case rel => exact ⟨k + 1, by omega, by go_num, NOT.out y1 _ rfl rfl rfl rfl⟩
            case measure => (first | (simp [intOf]; done) | (simp [intOf]; omega))
          · have d1 : decide (dl ≤ q) = false := decide_eq_false y3
            have d2 : decide ((dl : Int) ≤ (q : Int)) = false := decide_eq_false (by omega)
            have y4 := y2.resolve_left y3
            obtain ⟨gd, rfl, lgd, c1, c2, c3⟩ := GD.out (by omega)
            obtain ⟨tt, htt⟩ : ∃ tt, tt = ((didAt fin i).getD q (0, false, 0)).2.2 := ⟨_, rfl⟩
            rw [← htt] at c3 y4
            have d3 : decide (tt = (k : Int)) = false := decide_eq_false y4
            have d4 : (tt == (k : Int)) = false := by rw [beq_eq_false_iff_ne]; exact y4
            have d5 : (tt != (k : Int)) = true := by rw [bne_iff_ne]; exact y4
            have hqd : (q : Int) < (dl : Int) := by omega
            have hq0' : (0 : Int) ≤ (q : Int) := by omega
            have hqm : q < dl := by omega
            clear htt y2 c1 c2 lgd
            go_wp2_with fail
            go_quiet (fail)
            go_wp2_with fail
            go_roundw
            case rel => exact ⟨k + 1, by omega, by go_num, NOT.out y1 _ rfl rfl rfl rfl⟩
            case measure => (first | (simp [intOf]; done) | (simp [intOf]; omega))
      · have d7 : decide (p.tmod (n : Int) < 0) = true := decide_eq_true z1
        rcases DI.out with ⟨y1, y2, y3⟩ | ⟨y1, y2⟩
        · have hqo : q < ol := OL.out y1
          have d1 : decide (dl ≤ q) = false := decide_eq_false (by omega)
          have d2 : decide ((dl : Int) ≤ (q : Int)) = false := decide_eq_false (by omega)
          have d3 : decide (ol ≤ q) = false := decide_eq_false (by omega)
          have d4 : decide ((ol : Int) ≤ (q : Int)) = false := decide_eq_false (by omega)
          have d5 : ¬ dl ≤ q := by omega
          have d6 : ¬ ol ≤ q := by omega
          obtain ⟨gd, rfl, lgd, c1, c2, c3⟩ := GD.out y2
          obtain ⟨rbi, roi, rfl, s2, s3⟩ := RB.out hqo
          rw [y3] at c1 c2 c3
          simp only at c1 c2 c3
          obtain ⟨aa, haa⟩ : ∃ aa, aa = (doA st.1 (i : Int) kk xx).1 := ⟨_, rfl⟩
          obtain ⟨ay, hay⟩ : ∃ ay, ay = (doA st.1 (i : Int) kk xx).2 := ⟨_, rfl⟩
          rw [← haa] at c1
          rw [← hay] at c2
          have C17 := hide (show ∀ V, Below wr.heap.size wr V → Calls Try.prog 17 #[.pointer (some ⟨r, 0, none⟩), .int .i64 (i : Int), .agg #[.int .i64 kk, .int .i64 xx]] V fun e w5 => e = .returned (.agg #[.int .i64 aa, .bool ay, .int .i64 0]) ∧ RObj w5 r rs (doS st.1 (i : Int) kk xx) ∧ Tch (fun b => b = r ∨ b = rs) wr w5 ∧ Tch (fun b => b = r ∨ b = rs) V w5 from fun V hV => by
            have q5 := Do_any r rs st.1 i ops.length kk xx (k : Int) V (HOR0.out.ro.below hV) WK.out.a (by omega) (by rw [← HN.out]; exact IL.out)
            unfold DoPost at q5
            rw [← haa, ← hay] at q5
            exact q5.mono fun e w5 z => ⟨z.1, z.2.1, (Tch.of hV).trans z.2.2, z.2.2⟩)
          have NT := hide (show ∀ b, b ≠ r ∧ b ≠ rs → ¬ (b = r ∨ b = rs) from fun b h e => by omega)
          have NL := hide (show ∀ b, wr.heap.size ≤ b → ¬ (b = r ∨ b = rs) from fun b h e => by have := HOR0.out.ro.lt; omega)
          have NB := hide (show (nx < wr.heap.size ∧ nx ≠ r ∧ nx ≠ rs) ∧ (ob < wr.heap.size ∧ ob ≠ r ∧ ob ≠ rs) ∧ (gd < wr.heap.size ∧ gd ≠ r ∧ gd ≠ rs) ∧ (ab ≠ r ∧ ab ≠ rs) ∧ (rbi ≠ r ∧ rbi ≠ rs) ∧ ab < wr.heap.size ∧ rbi < wr.heap.size from by
            have a1 := (HOR0.out.nr.lt nx rfl).2
            have a2 := HOR0.out.ne
            have a3 := HOR0.out.lo
            have a4 := HOR0.out.b.size
            have a5 := LB.out
            have a6 := LRB.out rbi roi hqo rfl
            omega)
          have FIN0 := hide (show ∀ w5 X X2 tb, RObj w5 r rs (doS st.1 (i : Int) kk xx) → Tch (fun b => b = r ∨ b = rs) wr w5 → OrdX wr w5 X tb aa ay → X2 = X.setCell ⟨tb, 2, none⟩ (.int .i64 (k : Int)) → ∀ W' : World, W'.heap = (X2.setCell ⟨nx, i, none⟩ (.int .i64 ((q : Int) + 1))).heap → W'.os = X2.os → W'.tape = X2.tape → W'.output = X2.output → OrdR w3 W' r rs nx n (walkA (ab0 ops.length mark gate tick) ops ps (k + 1)) from fun w5 X X2 tb z1 z2 z3 z4 W' z5 z6 z7 z8 => by
            rw [KX.out.1, KX.out.2] at z1
            rw [KQ.out] at z1 z5
            exact OrdR.done HOR0.out HN.out (by have := IL.out; omega) WK.out IL.out IP.out y1 NXT.out z1 z2 z3 z4 z5 z6 z7 z8)
          have hqi : (q : Int) < (ol : Int) := by omega
          have hq9 : (q : Int) ≤ 5864062014800 := by have := OLM.out; omega
          have hqd : (q : Int) < (dl : Int) := by omega
          have hq0' : (0 : Int) ≤ (q : Int) := by omega
          have hqn : q < ol := hqo
          have hqm : q < dl := y2
          have lab := NB.out.2.2.2.2.2.1
          have lrb := NB.out.2.2.2.2.2.2
          have lnx := NB.out.1.1
          clear haa hay y1 y2 y3 lgd hqo
          go_wp2_with fail
          go_quiet (fail)
          go_wp2_with fail
          go_quiet (fail)
          go_wp2_with fail
          go_region_held3 (fun w' => w'.cell? ⟨ab, ao + i, none⟩ = some (.slice (some ⟨rbi, roi, none⟩) ol rci) ∧ w'.cell? ⟨nx, i, none⟩ = some (.int .i64 (q : Int)) ∧ w'.cell? ⟨rbi, roi + q * 2, none⟩ = some (.int .i64 kk) ∧ w'.cell? ⟨rbi, roi + q * 2 + 1, none⟩ = some (.int .i64 xx))
            (((try go_split_ands); refine ⟨?_, ?_, ?_, ?_⟩; (focus (first | (with_reducible assumption) | ((repeat (first | with_reducible refine c_dr ?_ | with_reducible refine c_al ?_ _ | with_reducible refine c_drN ?_ _)); with_reducible assumption) | (simp [go_sem, *]; done))); (focus (first | (with_reducible assumption) | ((repeat (first | with_reducible refine c_dr ?_ | with_reducible refine c_al ?_ _ | with_reducible refine c_drN ?_ _)); with_reducible assumption) | (simp [go_sem, *]; done))); (focus (first | (with_reducible assumption) | ((repeat (first | with_reducible refine c_dr ?_ | with_reducible refine c_al ?_ _ | with_reducible refine c_drN ?_ _)); with_reducible assumption) | (simp [go_sem, *]; done))); (focus (first | (with_reducible assumption) | ((repeat (first | with_reducible refine c_dr ?_ | with_reducible refine c_al ?_ _ | with_reducible refine c_drN ?_ _)); with_reducible assumption) | (simp [go_sem, *]; done)))))
            (first | (go_at_call 17; (apply Calls.mono; focus (exact C17.out _ (by (focus repeat' (first | (with_reducible exact Below.refl _ _) | (with_reducible assumption) | (with_reducible refine Below.alloc ?_ ?_ _) | (with_reducible refine Below.drew ?_) | (with_reducible refine bdrewN ?_ _) | (with_reducible refine Below.setCell ?_ ?_ _) | (first | (with_reducible exact Nat.le_refl _) | (with_reducible assumption) | omega | (simp; omega) | (simp; done))))))); rintro e w5 ⟨rfl, hro, hwt, ht⟩; have g0 : w5.cell? ⟨ab, ao + i, none⟩ = some (.slice (some ⟨rbi, roi, none⟩) ol rci) := tch_cell2 hwt (NT.out ab (by first | omega | (have := NB.out; omega))) s0; have g1 : w5.cell? ⟨nx, i, none⟩ = some (.int .i64 (q : Int)) := tch_cell2 hwt (NT.out nx (by first | omega | (have := NB.out; omega))) s1; have g2 : w5.cell? ⟨rbi, roi + q * 2, none⟩ = some (.int .i64 kk) := tch_cell2 hwt (NT.out rbi (by first | omega | (have := NB.out; omega))) s2; have g3 : w5.cell? ⟨rbi, roi + q * 2 + 1, none⟩ = some (.int .i64 xx) := tch_cell2 hwt (NT.out rbi (by first | omega | (have := NB.out; omega))) s3; (first | (have OV := hide (And.intro hro hwt); obtain ⟨e0, e1, e2, e3, e4, e5⟩ := fr3 (W := wr) NL.out ht rfl) | (have OV := hide (And.intro hro hwt))); clear hro hwt ht))
          · obtain ⟨tb, htb⟩ : ∃ tb, tb = w5.heap.size := ⟨_, rfl⟩
            obtain ⟨X, hX⟩ : ∃ X, X = w5.alloc (.cells #[.int .i64 aa, .bool ay, .int .i64 0] 52) := ⟨_, rfl⟩
            rw [← hX, ← htb]
            have OX : OrdX wr w5 X tb aa ay := by rw [hX, htb]; exact ⟨⟨rfl, rfl, rfl, by rw [World.size_alloc]; exact Nat.le_succ _⟩, fun k hk _ => al_blk _ _ hk, by simp [go_sem], by simp [go_sem], by simp [go_sem], by simp [go_sem], OV.out.2.size⟩
            have HX := hide OX
            have x0 := OX.c0
            have x1 := OX.c1
            have x2 := OX.c2
            have xf := OX.f2
            clear lab lrb lnx
            clear hX htb OX g0 g1 g2 g3 s0 s2 s3
            go_upto_region 21 with fail
            obtain ⟨X2, hX2⟩ : ∃ X2, X2 = X.setCell ⟨tb, 2, none⟩ (.int .i64 (k : Int)) := ⟨_, rfl⟩
            rw [← hX2]
            have zX : ∀ b, b < wr.heap.size → b ≠ r → b ≠ rs → X2.heap[b]? = wr.heap[b]? := fun b h1 h2 h3 => by
              have lo := HX.out.lo
              have z5 := OV.out.2.size
              rw [hX2]
              exact (heap_setCell_other _ _ _ _ (show b ≠ tb by omega)).trans ((HX.out.heap b (by omega) (by omega)).trans (OV.out.2.heap b h1 (fun e => by rcases e with e | e; exact h2 e; exact h3 e)))
            have v0 : X2.cell? ⟨tb, 0, none⟩ = some (.int .i64 aa) := by rw [hX2]; exact (cell_ne (by decide)).trans x0
            have v1 : X2.cell? ⟨tb, 1, none⟩ = some (.bool ay) := by rw [hX2]; exact (cell_ne (by decide)).trans x1
            have v2 : X2.cell? ⟨tb, 2, none⟩ = some (.int .i64 (k : Int)) := by rw [hX2]; exact World.cell?_setCell_same' _ _ _ (by rw [x2]; rfl)
            have u1 : X2.cell? ⟨nx, i, none⟩ = some (.int .i64 (q : Int)) := cell_stay s1 (zX nx NB.out.1.1 NB.out.1.2.1 NB.out.1.2.2)
            have uf : X2.frozen? ⟨nx, i, none⟩ = false := fro_stay sf (zX nx NB.out.1.1 NB.out.1.2.1 NB.out.1.2.2)
            have o1 : X2.cell? ⟨ob, i, none⟩ = some (.slice (some ⟨gd, 0, none⟩) dl dc) := cell_stay s4 (zX ob NB.out.2.1.1 NB.out.2.1.2.1 NB.out.2.1.2.2)
            have o2 : X2.cell? ⟨gd, q * 3, none⟩ = some (.int .i64 aa) := cell_stay c1 (zX gd NB.out.2.2.1.1 NB.out.2.2.1.2.1 NB.out.2.2.1.2.2)
            have o3 : X2.cell? ⟨gd, q * 3 + 1, none⟩ = some (.bool ay) := cell_stay c2 (zX gd NB.out.2.2.1.1 NB.out.2.2.1.2.1 NB.out.2.2.1.2.2)
            have o4 : X2.cell? ⟨gd, q * 3 + 2, none⟩ = some (.int .i64 (k : Int)) := cell_stay c3 (zX gd NB.out.2.2.1.1 NB.out.2.2.1.2.1 NB.out.2.2.1.2.2)
            have FIN := hide (FIN0.out w5 X X2 tb OV.out.1 OV.out.2 HX.out hX2)
            have hne := ans_neq aa (k : Int) ay
            clear hX2 zX x0 x1 x2 xf s1 s4 sf c1 c2 c3 OV
            go_quiet (fail)
            go_wp2_with fail
            go_roundw
            case rel => exact ⟨k + 1, by omega, by go_num, FIN.out _ rfl rfl rfl rfl⟩
            case measure => (first | (simp [intOf]; done) | (simp [intOf]; omega))
          · obtain ⟨tb, htb⟩ : ∃ tb, tb = wr.heap.size := ⟨_, rfl⟩
            obtain ⟨X, hX⟩ : ∃ X, X = ((w5.setCell ⟨wr.heap.size, 0, none⟩ (.int .i64 aa)).setCell ⟨wr.heap.size, 1, none⟩ (.bool ay)).setCell ⟨wr.heap.size, 2, none⟩ (.int .i64 0) := ⟨_, rfl⟩
            rw [← hX, ← htb]
            have OX : OrdX wr w5 X tb aa ay := by rw [hX, htb]; exact ⟨⟨rfl, rfl, rfl, by rw [World.size_setCell, World.size_setCell, World.size_setCell]; exact Nat.le_refl _⟩, fun k _ hn => (heap_setCell_other _ _ _ _ hn).trans ((heap_setCell_other _ _ _ _ hn).trans (heap_setCell_other _ _ _ _ hn)), (cell_ne (by decide)).trans ((cell_ne (by decide)).trans (World.cell?_setCell_same' _ _ _ (by rw [e0]; rfl))), (cell_ne (by decide)).trans (World.cell?_setCell_same' _ _ _ (by rw [cell_ne (by decide), e1]; rfl)), World.cell?_setCell_same' _ _ _ (by rw [cell_ne (by decide), cell_ne (by decide), e2]; rfl), (World.frozen?_setCell _ _ _ _).trans ((World.frozen?_setCell _ _ _ _).trans ((World.frozen?_setCell _ _ _ _).trans e5)), Nat.le_refl _⟩
            have HX := hide OX
            have x0 := OX.c0
            have x1 := OX.c1
            have x2 := OX.c2
            have xf := OX.f2
            clear lab lrb lnx
            clear hX htb OX g0 g1 g2 g3 e0 e1 e2 e3 e4 e5 s0 s2 s3
            go_upto_region 21 with fail
            obtain ⟨X2, hX2⟩ : ∃ X2, X2 = X.setCell ⟨tb, 2, none⟩ (.int .i64 (k : Int)) := ⟨_, rfl⟩
            rw [← hX2]
            have zX : ∀ b, b < wr.heap.size → b ≠ r → b ≠ rs → X2.heap[b]? = wr.heap[b]? := fun b h1 h2 h3 => by
              have lo := HX.out.lo
              have z5 := OV.out.2.size
              rw [hX2]
              exact (heap_setCell_other _ _ _ _ (show b ≠ tb by omega)).trans ((HX.out.heap b (by omega) (by omega)).trans (OV.out.2.heap b h1 (fun e => by rcases e with e | e; exact h2 e; exact h3 e)))
            have v0 : X2.cell? ⟨tb, 0, none⟩ = some (.int .i64 aa) := by rw [hX2]; exact (cell_ne (by decide)).trans x0
            have v1 : X2.cell? ⟨tb, 1, none⟩ = some (.bool ay) := by rw [hX2]; exact (cell_ne (by decide)).trans x1
            have v2 : X2.cell? ⟨tb, 2, none⟩ = some (.int .i64 (k : Int)) := by rw [hX2]; exact World.cell?_setCell_same' _ _ _ (by rw [x2]; rfl)
            have u1 : X2.cell? ⟨nx, i, none⟩ = some (.int .i64 (q : Int)) := cell_stay s1 (zX nx NB.out.1.1 NB.out.1.2.1 NB.out.1.2.2)
            have uf : X2.frozen? ⟨nx, i, none⟩ = false := fro_stay sf (zX nx NB.out.1.1 NB.out.1.2.1 NB.out.1.2.2)
            have o1 : X2.cell? ⟨ob, i, none⟩ = some (.slice (some ⟨gd, 0, none⟩) dl dc) := cell_stay s4 (zX ob NB.out.2.1.1 NB.out.2.1.2.1 NB.out.2.1.2.2)
            have o2 : X2.cell? ⟨gd, q * 3, none⟩ = some (.int .i64 aa) := cell_stay c1 (zX gd NB.out.2.2.1.1 NB.out.2.2.1.2.1 NB.out.2.2.1.2.2)
            have o3 : X2.cell? ⟨gd, q * 3 + 1, none⟩ = some (.bool ay) := cell_stay c2 (zX gd NB.out.2.2.1.1 NB.out.2.2.1.2.1 NB.out.2.2.1.2.2)
            have o4 : X2.cell? ⟨gd, q * 3 + 2, none⟩ = some (.int .i64 (k : Int)) := cell_stay c3 (zX gd NB.out.2.2.1.1 NB.out.2.2.1.2.1 NB.out.2.2.1.2.2)
            have FIN := hide (FIN0.out w5 X X2 tb OV.out.1 OV.out.2 HX.out hX2)
            have hne := ans_neq aa (k : Int) ay
            clear hX2 zX x0 x1 x2 xf s1 s4 sf c1 c2 c3 OV
            go_quiet (fail)
            go_wp2_with fail
            go_roundw
            case rel => exact ⟨k + 1, by omega, by go_num, FIN.out _ rfl rfl rfl rfl⟩
            case measure => (first | (simp [intOf]; done) | (simp [intOf]; omega))
        · by_cases y3 : dl ≤ q
          · have d1 : decide (dl ≤ q) = true := decide_eq_true y3
            have d2 : decide ((dl : Int) ≤ (q : Int)) = true := decide_eq_true (by omega)
            go_wp2_with fail
            go_quiet (fail)
            go_wp2_with fail
            go_roundw
            case rel => exact ⟨k + 1, by omega, by go_num, NOT.out y1 _ rfl rfl rfl rfl⟩
            case measure => (first | (simp [intOf]; done) | (simp [intOf]; omega))
          · have d1 : decide (dl ≤ q) = false := decide_eq_false y3
            have d2 : decide ((dl : Int) ≤ (q : Int)) = false := decide_eq_false (by omega)
            have y4 := y2.resolve_left y3
            obtain ⟨gd, rfl, lgd, c1, c2, c3⟩ := GD.out (by omega)
            obtain ⟨tt, htt⟩ : ∃ tt, tt = ((didAt fin i).getD q (0, false, 0)).2.2 := ⟨_, rfl⟩
            rw [← htt] at c3 y4
            have d3 : decide (tt = (k : Int)) = false := decide_eq_false y4
            have d4 : (tt == (k : Int)) = false := by rw [beq_eq_false_iff_ne]; exact y4
            have d5 : (tt != (k : Int)) = true := by rw [bne_iff_ne]; exact y4
            have hqd : (q : Int) < (dl : Int) := by omega
            have hq0' : (0 : Int) ≤ (q : Int) := by omega
            have hqm : q < dl := by omega
            clear htt y2 c1 c2 lgd
            go_wp2_with fail
            go_quiet (fail)
            go_wp2_with fail
            go_roundw
            case rel => exact ⟨k + 1, by omega, by go_num, NOT.out y1 _ rfl rfl rfl rfl⟩
            case measure => (first | (simp [intOf]; done) | (simp [intOf]; omega))
    · have hl2 : ¬ (k : Int) < (m : Int) := by omega
      obtain rfl : k = m := by omega
      have hof : OrdR w3 wr r rs nx n fin := by
        have e5 : walkA (ab0 ops.length mark gate tick) ops ps k = fin := by rw [HF.out, HM.out]
        rw [e5] at hor; exact hor
      have HOF := hide hof
      clear hor hof R0
      obtain ⟨wo, rfl⟩ : ∃ q : World, q = wr := ⟨_, rfl⟩
      go_wp2_with fail
      go_loopw [16] (fun v16 wr => ∃ (j : Nat), j ≤ n ∧ v16 = .int .i64 (j : Int) ∧ OrdR w3 wr r rs nx n fin) (fun v16 _ => n - (intOf v16).toNat)
      case atStart => exact ⟨0, Nat.zero_le _, rfl, HOF.out⟩
      case round =>
        obtain ⟨j, hj, rfl, hor⟩ := hrel
        have n64 : (n : Int) ≤ 64 := by have := H2.out; have := HN.out; omega
        have hj0 : (0 : Int) ≤ (j : Int) := by omega
        have hj9 : (j : Int) ≤ 64 := by omega
        have HOR := hide hor
        by_cases hlj : j < n
        · have hl3 : (j : Int) < (n : Int) := by omega
          have OUTW := OUT3.out.keepB hor.b
          have s1 : wr.cell? ⟨nx, j, none⟩ = some (.int .i64 ((didAt fin j).length : Int)) := by rw [hor.nr.cellAt j (by omega), ints_at (by rw [nexts_len]; exact hlj), nexts_at _ hlj]
          have s4 : wr.cell? ⟨ob, j, none⟩ = some (dv j) := by rw [OUTW.o.cellAt j (by omega), List.getElem?_map, List.getElem?_range hlj]; rfl
          obtain ⟨dp, dc, hdv⟩ := own_any (OUTW.d j hlj)
          rw [hdv] at s4
          obtain ⟨dl, hdl⟩ : ∃ dl, dl = (didAt fin j).length := ⟨_, rfl⟩
          rw [← hdl] at s1 s4
          clear hor OUTW hdv hdl
          go_wp2_with fail
          go_quiet (fail)
          go_wp2_with fail
          go_roundw
          case rel => exact ⟨j + 1, by omega, by go_num, HOR.out.of rfl rfl rfl rfl (fun _ => rfl) rfl⟩
          case measure => (first | (simp [intOf]; done) | (simp [intOf]; omega))
        · have hl3 : ¬ (j : Int) < (n : Int) := by omega
          obtain ⟨e0, e1, e2, e3, e4, e5, e6, e7⟩ := E8.out.below hor.b
          have CE := hide (show ∀ V, Below wr.heap.size wr V → Calls Try.prog 20 #[.pointer (some ⟨r, 0, none⟩)] V fun e w' => e = .returned (.agg #[.int .i64 (sumI fin.1.S), .int .i64 fin.1.mark, .int .i64 (bWho fin.1.bs), .int .i64 (bX fin.1.bs), .bool fin.1.bs.isSome, .int .i64 fin.1.ar, .bool (decide (fin.1.gt ≤ fin.1.ar)), .int .i64 fin.1.tk]) ∧ Below wr.heap.size wr w' from fun V hV => (C20.out r rs V (HOR.out.ro.below hV)).mono fun e w' z => ⟨z.1, bstep hV z.2⟩)
          have EW := hide (E8.out.below hor.b)
          have hne := end_eql (sumI fin.1.S) fin.1.mark (bWho fin.1.bs) (bX fin.1.bs) fin.1.ar fin.1.tk fin.1.bs.isSome (decide (fin.1.gt ≤ fin.1.ar))
          have HBW := hide (show Below w.heap.size w wr from bstep HB3.out hor.b)
          clear hor
          go_wp2_with fail
          go_region_held3 (fun w' => w'.cell? ⟨eb, 0, none⟩ = some (.int .i64 (sumI fin.1.S)) ∧ w'.cell? ⟨eb, 1, none⟩ = some (.int .i64 fin.1.mark) ∧ w'.cell? ⟨eb, 2, none⟩ = some (.int .i64 (bWho fin.1.bs)) ∧ w'.cell? ⟨eb, 3, none⟩ = some (.int .i64 (bX fin.1.bs)) ∧ w'.cell? ⟨eb, 4, none⟩ = some (.bool fin.1.bs.isSome) ∧ w'.cell? ⟨eb, 5, none⟩ = some (.int .i64 fin.1.ar) ∧ w'.cell? ⟨eb, 6, none⟩ = some (.bool (decide (fin.1.gt ≤ fin.1.ar))) ∧ w'.cell? ⟨eb, 7, none⟩ = some (.int .i64 fin.1.tk))
            (((try go_split_ands); refine ⟨?_, ?_, ?_, ?_, ?_, ?_, ?_, ?_⟩; (focus (first | (with_reducible assumption) | ((repeat (first | with_reducible refine c_dr ?_ | with_reducible refine c_al ?_ _ | with_reducible refine c_drN ?_ _)); with_reducible assumption) | (simp [go_sem, *]; done))); (focus (first | (with_reducible assumption) | ((repeat (first | with_reducible refine c_dr ?_ | with_reducible refine c_al ?_ _ | with_reducible refine c_drN ?_ _)); with_reducible assumption) | (simp [go_sem, *]; done))); (focus (first | (with_reducible assumption) | ((repeat (first | with_reducible refine c_dr ?_ | with_reducible refine c_al ?_ _ | with_reducible refine c_drN ?_ _)); with_reducible assumption) | (simp [go_sem, *]; done))); (focus (first | (with_reducible assumption) | ((repeat (first | with_reducible refine c_dr ?_ | with_reducible refine c_al ?_ _ | with_reducible refine c_drN ?_ _)); with_reducible assumption) | (simp [go_sem, *]; done))); (focus (first | (with_reducible assumption) | ((repeat (first | with_reducible refine c_dr ?_ | with_reducible refine c_al ?_ _ | with_reducible refine c_drN ?_ _)); with_reducible assumption) | (simp [go_sem, *]; done))); (focus (first | (with_reducible assumption) | ((repeat (first | with_reducible refine c_dr ?_ | with_reducible refine c_al ?_ _ | with_reducible refine c_drN ?_ _)); with_reducible assumption) | (simp [go_sem, *]; done))); (focus (first | (with_reducible assumption) | ((repeat (first | with_reducible refine c_dr ?_ | with_reducible refine c_al ?_ _ | with_reducible refine c_drN ?_ _)); with_reducible assumption) | (simp [go_sem, *]; done))); (focus (first | (with_reducible assumption) | ((repeat (first | with_reducible refine c_dr ?_ | with_reducible refine c_al ?_ _ | with_reducible refine c_drN ?_ _)); with_reducible assumption) | (simp [go_sem, *]; done)))))
            (first | (go_at_call 20; (apply Calls.mono; focus (exact CE.out _ (by (focus repeat' (first | (with_reducible exact Below.refl _ _) | (with_reducible assumption) | (with_reducible refine Below.alloc ?_ ?_ _) | (with_reducible refine Below.drew ?_) | (with_reducible refine bdrewN ?_ _) | (with_reducible refine Below.setCell ?_ ?_ _) | (first | (with_reducible exact Nat.le_refl _) | (with_reducible assumption) | omega | (simp; omega) | (simp; done))))))); rintro e w8 ⟨rfl, hb⟩; have HB8 := hide hb; obtain ⟨y0, y1, y2, y3, y4, y5, y6, y7⟩ := EW.out.below hb; clear hb))
          all_goals
            go_wp2_with fail
            go_ret
            refine ⟨rfl, ?_⟩
            (repeat (first | with_reducible refine Below.drew ?_ | with_reducible refine bdrewN ?_ _))
            exact bstep HBW.out HB8.out
end Go.Proofs.Ytimabgakemgldaa
