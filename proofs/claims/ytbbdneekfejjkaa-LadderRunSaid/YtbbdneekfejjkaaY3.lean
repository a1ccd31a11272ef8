import Derived.Test.YtbbdneekfejjkaaU3
import Derived.Test.YtbbdneekfejjkaaY1
import Derived.Test.YtbbdneekfejjkaaY2
import Derived.Test.YtbbdneekfejjkaaRF
namespace Go.Proofs.Ytbbdneekfejjkaa.runs
open Go.ChangeShapes Go.WideShapes Go.ChangeAt Go.RowKit Go.Deep Go.Shelf
set_option linter.unusedSimpArgs false
set_option linter.unusedVariables false

attribute [local go_sem] Oper.semAt_some
/-- what has come when so many rounds are over -/
def upto {α : Type} (f : Nat → α) (k : Nat) : List α := (List.range k).map f
theorem upto_succ {α : Type} (f : Nat → α) (k : Nat) : upto f (k + 1) = upto f k ++ [f k] := by simp [upto, List.range_succ]
theorem upto_length {α : Type} (f : Nat → α) (k : Nat) : (upto f k).length = k := by simp [upto]
theorem grown_of_below {w w' : World} (h : Below w.heap.size w w') : w.grownBy w' none := ⟨h.os, h.tape, h.output, h.size, fun k hk _ => h.block k hk⟩
def r0 (cl : Int) : R4 := (-1, 0, 0, cl)
/-- what comes in round j -/
def stp (op st sp ex la cl : Int) (b : Nat → R4) (j : Nat) : R4 × Int := rs op st sp ex la (r0 cl) b (j + 1)
set_option maxRecDepth 100000 in
set_option maxHeartbeats 4000000 in
theorem all_ok (n : Nat) (hn : 1 ≤ n) (l Bl Bb : Nat) (K : Nat → Prop) (k op cl st sp ex la fl fa co ru : Int) (L : Nat) (b : Nat → R4) (h : LotOK k op cl st sp ex la fl fa co ru) (hf : ∀ j, j < L → (b j).2.2.1 ≤ 9223372036854775807) (hL : L ≤ 1048576) (ao : Option Addr) (cap : Nat) (WS : World) (J Jx : List (R4 × Int) → World → Prop)
    (hY : ∀ pre x W, J pre W → (∃ j, j < L ∧ pre = upto (stp op st sp ex la cl b) j ∧ x = stp op st sp ex la cl b j) → YieldAt Fence.wide (n - 1) Try.prog l #[.agg #[.int .i64 x.1.1, .int .i64 x.1.2.1, .int .i64 x.1.2.2.1, .int .i64 x.1.2.2.2], .int .i64 x.2] W fun e W' =>
      (e = .returned (.bool true) ∧ J (pre ++ [x]) W' ∧ Fix (fun i => K i ∨ WS.heap.size ≤ i) W W') ∨ (e = .returned (.bool false) ∧ Jx (pre ++ [x]) W'))
    (hJ : Stays WS.heap.size J) (hJx : Stays WS.heap.size Jx) (hB1 : K Bl) (hB2 : K Bb) (hK : ∀ i, K i → i < WS.heap.size) (hc : ∀ o, WS.cell? ⟨Bl, o, none⟩ = (#[Value.int .i64 k, Value.int .i64 op, Value.int .i64 cl, Value.int .i64 st, Value.int .i64 sp, Value.int .i64 ex, Value.int .i64 la, Value.int .i64 fl, Value.int .i64 fa, Value.int .i64 co, Value.int .i64 ru] : Array Value)[o]?)
    (hb : WS.cell? ⟨Bb, 0, none⟩ = some (.slice ao L cap))
    (hcl : ∀ j, j < L → ∃ g off, ao = some ⟨g, off, none⟩ ∧ K g ∧ WS.cell? ⟨g, off + j * 4, none⟩ = some (.int .i64 (b j).1) ∧ WS.cell? ⟨g, off + j * 4 + 1, none⟩ = some (.int .i64 (b j).2.1) ∧ WS.cell? ⟨g, off + j * 4 + 2, none⟩ = some (.int .i64 (b j).2.2.1) ∧ WS.cell? ⟨g, off + j * 4 + 3, none⟩ = some (.int .i64 (b j).2.2.2)) (h0 : J [] WS) :
    CallsIn Fence.wide n Try.prog 30 #[.func (.yield l) #[] #[], .pointer (some ⟨Bl, 0, none⟩), .pointer (some ⟨Bb, 0, none⟩)] WS fun e W' => (∃ v, e = .returned v) ∧
      ((∃ ys, ys = upto (stp op st sp ex la cl b) L ∧ J ys W') ∨ (∃ pre, (∃ k, k ≤ L ∧ pre = upto (stp op st sp ex la cl b) k) ∧ Jx pre W')) := by
  refine callsIn_of_wp Try.func30 rfl trivial ?_ rfl
  simp only [Try.ntmps30, List.size_toArray, List.length_cons, List.length_nil, Nat.reduceAdd, Nat.reduceSub, Array.replicate_succ, Array.replicate_zero, List.push_toArray, List.append_toArray, List.nil_append, List.cons_append]
  have HC := hide hc
  have HCL := hide hcl
  clear hcl hc
  have c0 : WS.cell? ⟨Bl, 0, none⟩ = some (.int .i64 k) := HC.out 0
  have c1 : WS.cell? ⟨Bl, 1, none⟩ = some (.int .i64 op) := HC.out 1
  have c2 : WS.cell? ⟨Bl, 2, none⟩ = some (.int .i64 cl) := HC.out 2
  have c3 : WS.cell? ⟨Bl, 3, none⟩ = some (.int .i64 st) := HC.out 3
  have c4 : WS.cell? ⟨Bl, 4, none⟩ = some (.int .i64 sp) := HC.out 4
  have c5 : WS.cell? ⟨Bl, 5, none⟩ = some (.int .i64 ex) := HC.out 5
  have c6 : WS.cell? ⟨Bl, 6, none⟩ = some (.int .i64 la) := HC.out 6
  have c7 : WS.cell? ⟨Bl, 7, none⟩ = some (.int .i64 fl) := HC.out 7
  have c8 : WS.cell? ⟨Bl, 8, none⟩ = some (.int .i64 fa) := HC.out 8
  have c9 : WS.cell? ⟨Bl, 9, none⟩ = some (.int .i64 co) := HC.out 9
  have c10 : WS.cell? ⟨Bl, 10, none⟩ = some (.int .i64 ru) := HC.out 10
  gi_wp2_with fail
  refine ⟨trivial, ?_⟩
  refine (callsIn_wide.2 (begin_ok k op cl st sp ex la fl fa co ru _ h)).mono ?_
  rintro e w1 ⟨rfl, hb1⟩
  have J1 : J [] w1 := hJ _ _ _ none h0 (grown_of_below hb1) (fun r e => by cases e)
  have s1 := hb1.size
  have B1 : Fix K WS w1 := Fix.of_below hb1
  obtain ⟨w2, hw2⟩ : ∃ w2, w2 = w1.alloc (.cells #[.int .i64 (-1), .int .i64 0, .int .i64 0, .int .i64 cl] 29) := ⟨_, rfl⟩
  have hb2 : Below w1.heap.size w1 w2 := by rw [hw2]; exact (Below.refl _ _).alloc (Nat.le_refl _) _
  have J2 : J [] w2 := hJ _ _ _ none J1 (grown_of_below hb2) (fun r e => by cases e)
  have s2 : w2.heap.size = w1.heap.size + 1 := by rw [hw2]; simp
  have B2 : Fix K WS w2 := B1.trans (Fix.of_below hb2)
  have hKl := hK Bl hB1
  have hKb := hK Bb hB2
  have hb' : w2.cell? ⟨Bb, 0, none⟩ = some (.slice ao L cap) := (B2.cell (p := ⟨Bb, 0, none⟩) hB2 hKb).trans hb
  have hr2 : ∀ o, w2.cell? ⟨w1.heap.size, o, none⟩ = (#[Value.int .i64 (-1), .int .i64 0, .int .i64 0, .int .i64 cl] : Array Value)[o]? := fun o => by rw [hw2]; simp [go_sem]
  have hf2 : ∀ o, w2.frozen? ⟨w1.heap.size, o, none⟩ = false := fun o => by rw [hw2]; simp [go_sem]
  have HW2 := hide hw2
  have HR2 := hide hr2
  have HF2 := hide hf2
  clear hb1 hw2 hr2 hf2 hb2 J1 B1 c0 c1 c2 c3 c4 c5 c6 c7 c8 c9 c10
  have hbq : (w1.alloc (.cells #[.int .i64 (-1), .int .i64 0, .int .i64 0, .int .i64 cl] 29)).cell? ⟨Bb, 0, none⟩ = some (.slice ao L cap) := by rw [← HW2.out]; exact hb'
  gi_wp2_with (fail)
  rw [← HW2.out]
  clear hbq
  have hBr : WS.heap.size ≤ w1.heap.size := s1
  gi_loopw [19] (fun v19 wr => ∃ j : Nat, j ≤ L ∧ v19 = .int .i64 (j : Int) ∧ J (upto (stp op st sp ex la cl b) j) wr ∧ Fix K WS wr ∧ w1.heap.size < wr.heap.size ∧ (∀ o, wr.cell? ⟨w1.heap.size, o, none⟩ = (#[Value.int .i64 (rs op st sp ex la (r0 cl) b j).1.1, .int .i64 (rs op st sp ex la (r0 cl) b j).1.2.1, .int .i64 (rs op st sp ex la (r0 cl) b j).1.2.2.1, .int .i64 (rs op st sp ex la (r0 cl) b j).1.2.2.2] : Array Value)[o]?) ∧ (∀ o, wr.frozen? ⟨w1.heap.size, o, none⟩ = false))
    (fun v19 _ => L - (intOf v19).toNat)
  case atStart => exact ⟨0, Nat.zero_le _, rfl, J2, B2, by omega, HR2.out, HF2.out⟩
  case round =>
    obtain ⟨j, hj, rfl, hJs, hBw, hzw, hrc, hrf⟩ := hrel
    have HBw := hide hBw
    have HRC := hide hrc
    have HRF := hide hrf
    have HCW := hide (fun o => (hBw.cell (p := ⟨Bl, o, none⟩) hB1 hKl).trans (HC.out o))
    have hris := rs_ok (b := b) h (r0 := r0 cl) (by unfold Rise r0; exact .inl ⟨rfl, rfl, rfl, rfl⟩) j
    by_cases hlt : j < L
    · have hlt' : (j : Int) < (L : Int) := by omega
      obtain ⟨g, off, rfl, hg, d0, d1, d2, d3⟩ := HCL.out j hlt
      have hfj := hf j hlt
      have hKg := hK g hg
      have q0 := (HBw.out.cell (p := ⟨g, off + j * 4, none⟩) hg hKg).trans d0
      have q1 := (HBw.out.cell (p := ⟨g, off + j * 4 + 1, none⟩) hg hKg).trans d1
      have q2 := (HBw.out.cell (p := ⟨g, off + j * 4 + 2, none⟩) hg hKg).trans d2
      have q3 := (HBw.out.cell (p := ⟨g, off + j * 4 + 3, none⟩) hg hKg).trans d3
      have hst : stp op st sp ex la cl b j = nx op st sp ex la (rs op st sp ex la (r0 cl) b j).1 (b j) := rfl
      have hnx : (rs op st sp ex la (r0 cl) b (j + 1)) = nx op st sp ex la (rs op st sp ex la (r0 cl) b j).1 (b j) := rfl
      generalize (rs op st sp ex la (r0 cl) b j).1 = r at *
      generalize b j = bj at *
      obtain ⟨ld, li, pr, rc⟩ := r
      obtain ⟨bd, bl, bf, bn⟩ := bj
      have r0c : wr.cell? ⟨w1.heap.size, 0, none⟩ = some (.int .i64 ld) := HRC.out 0
      have r1c : wr.cell? ⟨w1.heap.size, 1, none⟩ = some (.int .i64 li) := HRC.out 1
      have r2c : wr.cell? ⟨w1.heap.size, 2, none⟩ = some (.int .i64 pr) := HRC.out 2
      have r3c : wr.cell? ⟨w1.heap.size, 3, none⟩ = some (.int .i64 rc) := HRC.out 3
      have HST := hide hst
      have HNX := hide hnx
      clear d0 d1 d2 d3 hrc hrf hBw hst hnx
      have e0 : wr.cell? ⟨Bl, 0, none⟩ = some (.int .i64 k) := HCW.out 0
      have e1 : wr.cell? ⟨Bl, 1, none⟩ = some (.int .i64 op) := HCW.out 1
      have e2 : wr.cell? ⟨Bl, 2, none⟩ = some (.int .i64 cl) := HCW.out 2
      have e3 : wr.cell? ⟨Bl, 3, none⟩ = some (.int .i64 st) := HCW.out 3
      have e4 : wr.cell? ⟨Bl, 4, none⟩ = some (.int .i64 sp) := HCW.out 4
      have e5 : wr.cell? ⟨Bl, 5, none⟩ = some (.int .i64 ex) := HCW.out 5
      have e6 : wr.cell? ⟨Bl, 6, none⟩ = some (.int .i64 la) := HCW.out 6
      have e7 : wr.cell? ⟨Bl, 7, none⟩ = some (.int .i64 fl) := HCW.out 7
      have e8 : wr.cell? ⟨Bl, 8, none⟩ = some (.int .i64 fa) := HCW.out 8
      have e9 : wr.cell? ⟨Bl, 9, none⟩ = some (.int .i64 co) := HCW.out 9
      have e10 : wr.cell? ⟨Bl, 10, none⟩ = some (.int .i64 ru) := HCW.out 10
      have hzs := HBw.out.size
      have hzl : Bl < wr.heap.size := by omega
      have hzb : Bb < wr.heap.size := by omega
      have hzg : g < wr.heap.size := by omega
      by_cases he : bidErr op st sp ld li pr rc bd bl bf bn = 0
      · gi_wp2_with fail
        refine ⟨trivial, ?_⟩
        refine (callsIn_wide.2 (Bid_ok k op cl st sp ex la fl fa co ru ld li pr rc bd bl bf bn _ h hris hfj he)).mono ?_
        rintro e w5 ⟨rfl, hb5⟩
        have hA5 : Below wr.heap.size wr w5 := bstep ((Below.refl wr.heap.size wr).alloc (Nat.le_refl _) _) hb5
        have HA5 := hide hA5
        have s5 := hA5.size
        have HR5 := hide (fun o => (hA5.cell (p := ⟨w1.heap.size, o, none⟩) hzw).trans (HRC.out o))
        have HF5 := hide (fun o => (hA5.frozen (p := ⟨w1.heap.size, o, none⟩) hzw).trans (HRF.out o))
        have r50 : w5.cell? ⟨w1.heap.size, 0, none⟩ = some (.int .i64 ld) := HR5.out 0
        have r51 : w5.cell? ⟨w1.heap.size, 1, none⟩ = some (.int .i64 li) := HR5.out 1
        have r52 : w5.cell? ⟨w1.heap.size, 2, none⟩ = some (.int .i64 pr) := HR5.out 2
        have r53 : w5.cell? ⟨w1.heap.size, 3, none⟩ = some (.int .i64 rc) := HR5.out 3
        have f50 := HF5.out 0
        have f51 := HF5.out 1
        have f52 := HF5.out 2
        have f53 := HF5.out 3
        have z5 : w1.heap.size < w5.heap.size := by omega
        clear hA5 hb5 r0c r1c r2c r3c q0 q1 q2 q3 e0 e1 e2 e3 e4 e5 e6 e7 e8 e9 e10
        have enx : nx op st sp ex la (ld, li, pr, rc) (bd, bl, bf, bn) = ((nLd ld li bd bl, nLi ld li bd bl, nPr st sp ld li pr bd bl, nCl ex la rc bn), 0) := if_pos he
        rw [enx] at HST HNX
        generalize nLd ld li bd bl = ld2 at *
        generalize nLi ld li bd bl = li2 at *
        generalize nPr st sp ld li pr bd bl = pr2 at *
        generalize nCl ex la rc bn = rc2 at *
        clear enx
        obtain ⟨WY, hWY⟩ : ∃ WY, WY = (((((w5.setCell ⟨w1.heap.size, 0, none⟩ (.int .i64 ld2)).setCell ⟨w1.heap.size, 1, none⟩ (.int .i64 li2)).setCell ⟨w1.heap.size, 2, none⟩ (.int .i64 pr2)).setCell ⟨w1.heap.size, 3, none⟩ (.int .i64 rc2)).alloc (Obj.cells #[.int .i64 ld2, .int .i64 li2, .int .i64 pr2, .int .i64 rc2] 29)) := ⟨_, rfl⟩
        have JY : J (upto (stp op st sp ex la cl b) j) WY := by rw [hWY]; exact hJ.lay _ (hJ.set _ _ (hJ.set _ _ (hJ.set _ _ (hJ.set _ _ (hJ.step hJs HA5.out) hBr) hBr) hBr) hBr)
        have hzY : WY.heap.size = w5.heap.size + 1 := by rw [hWY]; simp
        have hnb : ¬ K w1.heap.size := fun h => by have := hK _ h; omega
        have BY : Fix K WS WY := by rw [hWY]; exact ((((((HBw.out.trans (Fix.of_below HA5.out)).set hnb _ _).set hnb _ _).set hnb _ _).set hnb _ _).lay _)
        have CY := hide (show ∀ o, WY.cell? ⟨w1.heap.size, o, none⟩ = (#[Value.int .i64 ld2, .int .i64 li2, .int .i64 pr2, .int .i64 rc2] : Array Value)[o]? from fun o => by
          have q := HR5.out o
          rw [hWY]
          rcases o with _ | _ | _ | _ | o
          · simp [go_sem, r50, z5]
          · simp [go_sem, r51, z5]
          · simp [go_sem, r52, z5]
          · simp [go_sem, r53, z5]
          · simp [go_sem, z5]; simpa using q)
        have FY := hide (show ∀ o, WY.frozen? ⟨w1.heap.size, o, none⟩ = false from fun o => by rw [hWY]; simp [go_sem, HF5.out o, z5])
        obtain ⟨fn, tmps, assign, body, hy, hR⟩ := hY (upto (stp op st sp ex la cl b) j) ((ld2, li2, pr2, rc2), 0) WY JY ⟨j, hlt, rfl, HST.out.symm⟩
        dsimp only at hy
        rw [hWY] at hy
        have HWY := hide hWY
        have HBY := hide BY
        have JR := hide hR
        clear hWY hR JY BY hJs
        gi_wp2
        rw [← HWY.out]
        refine JR.out.mono ?_
        rintro e W3 (⟨rfl, hJ3, hB3⟩ | ⟨rfl, hJx3⟩)
        · have cB : W3.heap[w1.heap.size]? = WY.heap[w1.heap.size]? := hB3.same _ (.inr hBr) (by omega)
          have HB3 := hide hB3
          have HJ3 := hide hJ3
          have z3 := hB3.size
          have HCB := hide cB
          clear hJ3 hB3 cB
          gi_wp2
          go_roundw
          case rel =>
            refine ⟨j + 1, by omega, by go_num, ?_, HBY.out.trans (HB3.out.of (fun i _ h => .inl h)), by omega, fun o => ?_, fun o => (World.frozen?_of_block (a := ⟨w1.heap.size, o, none⟩) HCB.out).trans (FY.out o)⟩
            · rw [upto_succ, HST.out]; exact HJ3.out
            · rw [HNX.out]
              exact (World.cell?_of_block (a := ⟨w1.heap.size, o, none⟩) HCB.out).trans (CY.out o)
          case measure => (first | (simp [intOf]; done) | (simp [intOf]; omega))
        · have HJx3 := hide hJx3
          clear hJx3
          gi_wp2
          refine bodyPost_ret (results_none rfl _ _ _) rfl ?_
          exact ⟨⟨_, rfl⟩, .inr ⟨upto (stp op st sp ex la cl b) (j + 1), ⟨j + 1, by omega, rfl⟩, by (rw [upto_succ, HST.out]; exact HJx3.out)⟩⟩
      · gi_wp2_with fail
        refine ⟨trivial, ?_⟩
        refine (callsIn_wide.2 (Bid_bad k op cl st sp ex la fl fa co ru ld li pr rc bd bl bf bn _ h hris hfj he)).mono ?_
        rintro e w5 ⟨rfl, hb5⟩
        have hA5 : Below wr.heap.size wr w5 := bstep ((Below.refl wr.heap.size wr).alloc (Nat.le_refl _) _) hb5
        have HA5 := hide hA5
        have s5 := hA5.size
        have HR5 := hide (fun o => (hA5.cell (p := ⟨w1.heap.size, o, none⟩) hzw).trans (HRC.out o))
        have HF5 := hide (fun o => (hA5.frozen (p := ⟨w1.heap.size, o, none⟩) hzw).trans (HRF.out o))
        have r50 : w5.cell? ⟨w1.heap.size, 0, none⟩ = some (.int .i64 ld) := HR5.out 0
        have r51 : w5.cell? ⟨w1.heap.size, 1, none⟩ = some (.int .i64 li) := HR5.out 1
        have r52 : w5.cell? ⟨w1.heap.size, 2, none⟩ = some (.int .i64 pr) := HR5.out 2
        have r53 : w5.cell? ⟨w1.heap.size, 3, none⟩ = some (.int .i64 rc) := HR5.out 3
        have f50 := HF5.out 0
        have f51 := HF5.out 1
        have f52 := HF5.out 2
        have f53 := HF5.out 3
        have z5 : w1.heap.size < w5.heap.size := by omega
        clear hA5 hb5 r0c r1c r2c r3c q0 q1 q2 q3 e0 e1 e2 e3 e4 e5 e6 e7 e8 e9 e10
        have enx : nx op st sp ex la (ld, li, pr, rc) (bd, bl, bf, bn) = ((ld, li, pr, rc), bidErr op st sp ld li pr rc bd bl bf bn) := if_neg he
        rw [enx] at HST HNX
        have heb : (bidErr op st sp ld li pr rc bd bl bf bn == 0) = false := by simpa using he
        generalize bidErr op st sp ld li pr rc bd bl bf bn = ee at *
        clear enx
        obtain ⟨WY, hWY⟩ : ∃ WY, WY = (w5.alloc (Obj.cells #[.int .i64 0, .int .i64 0, .int .i64 0, .int .i64 0] 29)) := ⟨_, rfl⟩
        have JY : J (upto (stp op st sp ex la cl b) j) WY := by rw [hWY]; exact hJ.lay _ (hJ.step hJs HA5.out)
        have hzY : WY.heap.size = w5.heap.size + 1 := by rw [hWY]; simp
        have BY : Fix K WS WY := by rw [hWY]; exact (HBw.out.trans (Fix.of_below HA5.out)).lay _
        have CY := hide (show ∀ o, WY.cell? ⟨w1.heap.size, o, none⟩ = (#[Value.int .i64 ld, .int .i64 li, .int .i64 pr, .int .i64 rc] : Array Value)[o]? from fun o => by
          rw [hWY]; exact (((Below.refl w5.heap.size w5).alloc (Nat.le_refl _) _).cell (p := ⟨w1.heap.size, o, none⟩) z5).trans (HR5.out o))
        have FY := hide (show ∀ o, WY.frozen? ⟨w1.heap.size, o, none⟩ = false from fun o => by
          rw [hWY]; exact (((Below.refl w5.heap.size w5).alloc (Nat.le_refl _) _).frozen (p := ⟨w1.heap.size, o, none⟩) z5).trans (HF5.out o))
        obtain ⟨fn, tmps, assign, body, hy, hR⟩ := hY (upto (stp op st sp ex la cl b) j) ((ld, li, pr, rc), ee) WY JY ⟨j, hlt, rfl, HST.out.symm⟩
        dsimp only at hy
        rw [hWY] at hy
        have HWY := hide hWY
        have HBY := hide BY
        have JR := hide hR
        clear hWY hR JY BY hJs
        gi_wp2
        rw [← HWY.out]
        refine JR.out.mono ?_
        rintro e W3 (⟨rfl, hJ3, hB3⟩ | ⟨rfl, hJx3⟩)
        · have cB : W3.heap[w1.heap.size]? = WY.heap[w1.heap.size]? := hB3.same _ (.inr hBr) (by omega)
          have HB3 := hide hB3
          have HJ3 := hide hJ3
          have z3 := hB3.size
          have HCB := hide cB
          clear hJ3 hB3 cB
          gi_wp2
          go_roundw
          case rel =>
            refine ⟨j + 1, by omega, by go_num, ?_, HBY.out.trans (HB3.out.of (fun i _ h => .inl h)), by omega, fun o => ?_, fun o => (World.frozen?_of_block (a := ⟨w1.heap.size, o, none⟩) HCB.out).trans (FY.out o)⟩
            · rw [upto_succ, HST.out]; exact HJ3.out
            · rw [HNX.out]
              exact (World.cell?_of_block (a := ⟨w1.heap.size, o, none⟩) HCB.out).trans (CY.out o)
          case measure => (first | (simp [intOf]; done) | (simp [intOf]; omega))
        · have HJx3 := hide hJx3
          clear hJx3
          gi_wp2
          refine bodyPost_ret (results_none rfl _ _ _) rfl ?_
          exact ⟨⟨_, rfl⟩, .inr ⟨upto (stp op st sp ex la cl b) (j + 1), ⟨j + 1, by omega, rfl⟩, by (rw [upto_succ, HST.out]; exact HJx3.out)⟩⟩
    · obtain rfl : j = L := by omega
      have HJs := hide hJs
      clear hJs
      gi_wp2
      go_end0
      exact ⟨⟨_, rfl⟩, .inl ⟨_, rfl, HJs.out⟩⟩
end Go.Proofs.Ytbbdneekfejjkaa.runs
