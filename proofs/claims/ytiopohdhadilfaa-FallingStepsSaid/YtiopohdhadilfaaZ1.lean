import Derived.Test.YtiopohdhadilfaaV2
import Derived.Test.YtiopohdhadilfaaRF
import Derived.Test.YtiopohdhadilfaaRH
namespace Go.Proofs.Ytiopohdhadilfaa.steps
open Go.ChangeShapes Go.WideShapes Go.ChangeAt Go.RowKit Go.Deep Go.Shelf
set_option linter.unusedSimpArgs false
set_option linter.unusedVariables false

attribute [local go_sem] Oper.semAt_some
/-- what has come when k rounds are over -/
def upto {α : Type} (f : Nat → α) (k : Nat) : List α := (List.range k).map f
theorem upto_succ {α : Type} (f : Nat → α) (k : Nat) : upto f (k + 1) = upto f k ++ [f k] := by simp [upto, List.range_succ]
theorem upto_length {α : Type} (f : Nat → α) (k : Nat) : (upto f k).length = k := by simp [upto]
theorem upto_take {α : Type} (f : Nat → α) (k L : Nat) (h : k ≤ L) : (upto f L).take k = upto f k := by
  unfold upto
  rw [← List.map_take, List.take_range, Nat.min_eq_left h]
theorem upto_get {α : Type} (f : Nat → α) (j L : Nat) (h : j < L) : (upto f L)[j]? = some (f j) := by
  simp [upto, h]
theorem hide {p : Prop} (h : p) : Hid p := h
/-- a step: its tick, its price -/
def stp (k op cl st sp ex la fl fa co ru : Int) (j : Nat) : Int × Int := (op + (j : Int), priceI op st fl fa (op + (j : Int)))
/-- is there a step number j, where all those ahead of it are? -/
def on (k op cl st sp ex la fl fa co ru : Int) (j : Nat) : Prop := op + (j : Int) < cl ∧ ¬ (0 < j ∧ priceI op st fl fa (op + (j : Int)) = priceI op st fl fa (op + (j : Int) - 1))
/-- K: how many steps there are -/
def IsK (k op cl st sp ex la fl fa co ru : Int) (K : Nat) : Prop := (∀ j, j < K → on k op cl st sp ex la fl fa co ru j) ∧ ¬ on k op cl st sp ex la fl fa co ru K

theorem Stays.mono_below {β : Type} {B : Nat} {J : β → World → Prop} (h : Stays B J) {s : β} {W W' : World} (hs : J s W) (hb : Below W.heap.size W W') (hB : B ≤ W.heap.size) : J s W' := h.step hs hb
theorem grown_of_below {w w' : World} (h : Below w.heap.size w w') : w.grownBy w' none := ⟨h.os, h.tape, h.output, h.size, fun k hk _ => h.block k hk⟩
set_option maxRecDepth 100000 in
set_option maxHeartbeats 4000000 in
theorem steps_ok (n : Nat) (hn : 1 ≤ n) (l Bn : Nat) (K : Nat → Prop) (k op cl st sp ex la fl fa co ru : Int) (T : Nat) (h : LotOK k op cl st sp ex la fl fa co ru) (hT : IsK k op cl st sp ex la fl fa co ru T) (WS : World) (J Jx : List (Int × Int) → World → Prop)
    (hY : ∀ pre x W, J pre W → (∃ j, j < T ∧ pre = upto (stp k op cl st sp ex la fl fa co ru) j ∧ x = stp k op cl st sp ex la fl fa co ru j) → YieldAt Fence.wide (n - 1) Try.prog l #[.int .i64 x.1, .int .i64 x.2] W fun e W' =>
      (e = .returned (.bool true) ∧ J (pre ++ [x]) W' ∧ Fix (fun i => K i ∨ WS.heap.size ≤ i) W W') ∨ (e = .returned (.bool false) ∧ Jx (pre ++ [x]) W'))
    (hJ : Stays WS.heap.size J) (hJx : Stays WS.heap.size Jx) (hB : K Bn) (hBz : Bn < WS.heap.size) (hc : ∀ o, WS.cell? ⟨Bn, o, none⟩ = (#[Value.int .i64 k, Value.int .i64 op, Value.int .i64 cl, Value.int .i64 st, Value.int .i64 sp, Value.int .i64 ex, Value.int .i64 la, Value.int .i64 fl, Value.int .i64 fa, Value.int .i64 co, Value.int .i64 ru] : Array Value)[o]?) (h0 : J [] WS) :
    CallsIn Fence.wide n Try.prog 34 #[.func (.yield l) #[] #[], .pointer (some ⟨Bn, 0, none⟩)] WS fun e W' => (∃ v, e = .returned v) ∧
      ((∃ ys, ys = upto (stp k op cl st sp ex la fl fa co ru) T ∧ J ys W') ∨ (∃ pre, (∃ kk, kk ≤ T ∧ pre = upto (stp k op cl st sp ex la fl fa co ru) kk) ∧ Jx pre W')) := by
  obtain ⟨q1, q2, q3, q4, q5, q6, q7, q8, q9, q10, q11⟩ := bnd k op cl st sp ex la fl fa co ru h
  refine callsIn_of_wp Try.func34 rfl trivial ?_ rfl
  simp only [Try.ntmps34, List.size_toArray, List.length_cons, List.length_nil, Nat.reduceAdd, Nat.reduceSub, Array.replicate_succ, Array.replicate_zero, List.push_toArray, List.append_toArray, List.nil_append, List.cons_append]
  refine wpIn_wide.2 (wp_scope_straight ((wpIn_wide (n := n)).1 ?_))
  have HC := hide hc
  have HT := hide hT
  clear hc hT
  have c0 : WS.cell? ⟨Bn, 0, none⟩ = some (.int .i64 k) := HC.out 0
  have c1 : WS.cell? ⟨Bn, 1, none⟩ = some (.int .i64 op) := HC.out 1
  have c2 : WS.cell? ⟨Bn, 2, none⟩ = some (.int .i64 cl) := HC.out 2
  have c3 : WS.cell? ⟨Bn, 3, none⟩ = some (.int .i64 st) := HC.out 3
  have c4 : WS.cell? ⟨Bn, 4, none⟩ = some (.int .i64 sp) := HC.out 4
  have c5 : WS.cell? ⟨Bn, 5, none⟩ = some (.int .i64 ex) := HC.out 5
  have c6 : WS.cell? ⟨Bn, 6, none⟩ = some (.int .i64 la) := HC.out 6
  have c7 : WS.cell? ⟨Bn, 7, none⟩ = some (.int .i64 fl) := HC.out 7
  have c8 : WS.cell? ⟨Bn, 8, none⟩ = some (.int .i64 fa) := HC.out 8
  have c9 : WS.cell? ⟨Bn, 9, none⟩ = some (.int .i64 co) := HC.out 9
  have c10 : WS.cell? ⟨Bn, 10, none⟩ = some (.int .i64 ru) := HC.out 10
  gi_wp2_with fail
  refine (callsIn_wide.2 (check_ok k op cl st sp ex la fl fa co ru _ h)).mono ?_
  rintro e w1 ⟨rfl, hb1⟩
  have J1 : J [] w1 := hJ _ _ _ none h0 (grown_of_below hb1) (fun r e => by cases e)
  have s1 := hb1.size
  have B1 : Fix K WS w1 := Fix.of_below hb1
  have HC1 := hide (fun o => (B1.cell (p := ⟨Bn, o, none⟩) hB hBz).trans (HC.out o))
  have d0 : w1.cell? ⟨Bn, 0, none⟩ = some (.int .i64 k) := HC1.out 0
  have d1 : w1.cell? ⟨Bn, 1, none⟩ = some (.int .i64 op) := HC1.out 1
  have d2 : w1.cell? ⟨Bn, 2, none⟩ = some (.int .i64 cl) := HC1.out 2
  have d3 : w1.cell? ⟨Bn, 3, none⟩ = some (.int .i64 st) := HC1.out 3
  have d4 : w1.cell? ⟨Bn, 4, none⟩ = some (.int .i64 sp) := HC1.out 4
  have d5 : w1.cell? ⟨Bn, 5, none⟩ = some (.int .i64 ex) := HC1.out 5
  have d6 : w1.cell? ⟨Bn, 6, none⟩ = some (.int .i64 la) := HC1.out 6
  have d7 : w1.cell? ⟨Bn, 7, none⟩ = some (.int .i64 fl) := HC1.out 7
  have d8 : w1.cell? ⟨Bn, 8, none⟩ = some (.int .i64 fa) := HC1.out 8
  have d9 : w1.cell? ⟨Bn, 9, none⟩ = some (.int .i64 co) := HC1.out 9
  have d10 : w1.cell? ⟨Bn, 10, none⟩ = some (.int .i64 ru) := HC1.out 10
  clear hb1 c0 c1 c2 c3 c4 c5 c6 c7 c8 c9 c10
  gi_wp2
  apply wpIn_label
  gi_wp2
  clear d0 d1 d2 d3 d4 d5 d6 d7 d8 d9 d10
  gi_loopw [3] (fun i wr => ∃ (k0 : Nat) (t : Int), k0 ≤ T ∧ t = op + (k0 : Int) ∧ i = .int .i64 t ∧ J (upto (stp k op cl st sp ex la fl fa co ru) k0) wr ∧ Fix K WS wr)
    (fun i _ => (cl - intOf i).toNat)
  case atStart => exact ⟨0, op, Nat.zero_le _, by simp, rfl, J1, B1⟩
  case round =>
    obtain ⟨k0, t, hk, ht, rfl, hJs, hBw⟩ := hrel
    have HJ := hide hJs
    have HBW := hide hBw
    have HCW := hide (fun o => (hBw.cell (p := ⟨Bn, o, none⟩) hB hBz).trans (HC.out o))
    have hsz := hBw.size
    have hBr : Bn < wr.heap.size := by omega
    have h1t : op ≤ t := by omega
    clear hJs hBw J1 B1
    have c0 : wr.cell? ⟨Bn, 0, none⟩ = some (.int .i64 k) := HCW.out 0
    have c1 : wr.cell? ⟨Bn, 1, none⟩ = some (.int .i64 op) := HCW.out 1
    have c2 : wr.cell? ⟨Bn, 2, none⟩ = some (.int .i64 cl) := HCW.out 2
    have c3 : wr.cell? ⟨Bn, 3, none⟩ = some (.int .i64 st) := HCW.out 3
    have c4 : wr.cell? ⟨Bn, 4, none⟩ = some (.int .i64 sp) := HCW.out 4
    have c5 : wr.cell? ⟨Bn, 5, none⟩ = some (.int .i64 ex) := HCW.out 5
    have c6 : wr.cell? ⟨Bn, 6, none⟩ = some (.int .i64 la) := HCW.out 6
    have c7 : wr.cell? ⟨Bn, 7, none⟩ = some (.int .i64 fl) := HCW.out 7
    have c8 : wr.cell? ⟨Bn, 8, none⟩ = some (.int .i64 fa) := HCW.out 8
    have c9 : wr.cell? ⟨Bn, 9, none⟩ = some (.int .i64 co) := HCW.out 9
    have c10 : wr.cell? ⟨Bn, 10, none⟩ = some (.int .i64 ru) := HCW.out 10
    by_cases hlt : t < cl
    · have hsub : IntKind.i64.wrap (t - 1) = t - 1 := IntWalk.i64_in _ (by omega)
      have HTT := hide ht
      have a0 : ∀ m : Aft wr, m.w.cell? ⟨Bn, 0, none⟩ = some (.int .i64 k) := fun m => (m.le.cell (p := ⟨Bn, 0, none⟩) hBr).trans c0
      have a1 : ∀ m : Aft wr, m.w.cell? ⟨Bn, 1, none⟩ = some (.int .i64 op) := fun m => (m.le.cell (p := ⟨Bn, 1, none⟩) hBr).trans c1
      have a2 : ∀ m : Aft wr, m.w.cell? ⟨Bn, 2, none⟩ = some (.int .i64 cl) := fun m => (m.le.cell (p := ⟨Bn, 2, none⟩) hBr).trans c2
      have a3 : ∀ m : Aft wr, m.w.cell? ⟨Bn, 3, none⟩ = some (.int .i64 st) := fun m => (m.le.cell (p := ⟨Bn, 3, none⟩) hBr).trans c3
      have a4 : ∀ m : Aft wr, m.w.cell? ⟨Bn, 4, none⟩ = some (.int .i64 sp) := fun m => (m.le.cell (p := ⟨Bn, 4, none⟩) hBr).trans c4
      have a5 : ∀ m : Aft wr, m.w.cell? ⟨Bn, 5, none⟩ = some (.int .i64 ex) := fun m => (m.le.cell (p := ⟨Bn, 5, none⟩) hBr).trans c5
      have a6 : ∀ m : Aft wr, m.w.cell? ⟨Bn, 6, none⟩ = some (.int .i64 la) := fun m => (m.le.cell (p := ⟨Bn, 6, none⟩) hBr).trans c6
      have a7 : ∀ m : Aft wr, m.w.cell? ⟨Bn, 7, none⟩ = some (.int .i64 fl) := fun m => (m.le.cell (p := ⟨Bn, 7, none⟩) hBr).trans c7
      have a8 : ∀ m : Aft wr, m.w.cell? ⟨Bn, 8, none⟩ = some (.int .i64 fa) := fun m => (m.le.cell (p := ⟨Bn, 8, none⟩) hBr).trans c8
      have a9 : ∀ m : Aft wr, m.w.cell? ⟨Bn, 9, none⟩ = some (.int .i64 co) := fun m => (m.le.cell (p := ⟨Bn, 9, none⟩) hBr).trans c9
      have a10 : ∀ m : Aft wr, m.w.cell? ⟨Bn, 10, none⟩ = some (.int .i64 ru) := fun m => (m.le.cell (p := ⟨Bn, 10, none⟩) hBr).trans c10
      by_cases hz : k0 = 0
      · have g0 : decide (op < t) = false := by (rw [decide_eq_false_iff_not]; omega)
        have hon : on k op cl st sp ex la fl fa co ru k0 := ⟨by omega, fun q => by omega⟩
        have hkT : k0 < T := by
          rcases Nat.lt_or_ge k0 T with q | q
          · exact q
          · exact absurd (by rw [show T = k0 by omega]; exact hon) HT.out.2
        have hst : stp k op cl st sp ex la fl fa co ru k0 = (t, priceI op st fl fa t) := by (unfold stp; rw [← ht])
        have HST := hide hst
        clear hst hon ht hz
        gi_wp2_with fail
        refine wpIn_region_after_tail 20 (by kernel_rfl) (by kernel_rfl) (by kernel_rfl) ?_
        simp only [List.take_succ_cons, List.take_zero, List.drop_succ_cons, List.drop_zero]
        repeat (gi_big_quiet_step ((gi_at_call 27; exact aft_call (callsIn_wide.2 (price_any k op cl st sp ex la fl fa co ru _ _ h (by omega) (by omega))))))
        refine wpQuietIn_nil ?_
        intro _ hw'
        obtain ⟨m, hw''⟩ := hw'
        subst hw''
        have Jm := hJ.mono_below HJ.out m.le hsz
        obtain ⟨fn, tmps, assign, body, hy, hR⟩ := hY _ _ m.w Jm ⟨k0, hkT, rfl, rfl⟩
        rw [HST.out] at hy
        dsimp only at hy
        gi_wp2_with fail
        have HBM := hide (HBW.out.trans (Fix.of_below m.le))
        refine hR.mono ?_
        rintro e W3 (⟨rfl, hJ3, hk3⟩ | ⟨rfl, hJx3⟩)
        · have HJ3 := hide hJ3
          have HB3 := hide (HBM.out.trans (hk3.of (fun i _ q => .inl q)))
          clear hJ3 hk3 hR hy Jm
          gi_wp2
          go_roundw
          case rel => exact ⟨k0 + 1, t + 1, by omega, by (have := HTT.out; omega), rfl, by (rw [upto_succ]; exact HJ3.out), HB3.out⟩
          case measure => (first | (simp [intOf]; done) | (simp [intOf]; omega))
        · have HJx3 := hide hJx3
          clear hJx3 hR hy Jm
          gi_wp2
          simp only [Exit.noGoto]
          go_end0
          exact ⟨⟨_, rfl⟩, .inr ⟨upto (stp k op cl st sp ex la fl fa co ru) (k0 + 1), ⟨k0 + 1, by omega, rfl⟩, by (rw [upto_succ]; exact HJx3.out)⟩⟩
      · have h1t2 : op ≤ t - 1 := by omega
        have g0 : decide (op < t) = true := by (rw [decide_eq_true_eq]; omega)
        by_cases he : priceI op st fl fa t = priceI op st fl fa (t - 1)
        · have g1 : decide (priceI op st fl fa t = priceI op st fl fa (t - 1)) = true := by (rw [decide_eq_true_eq]; exact he)
          have g2 : (priceI op st fl fa t == priceI op st fl fa (t - 1)) = true := by (rw [beq_iff_eq]; exact he)
          have hoff : ¬ on k op cl st sp ex la fl fa co ru k0 := fun q => q.2 ⟨by omega, by rw [← ht]; exact he⟩
          have HE : k0 = T := by
            rcases Nat.lt_or_ge k0 T with q | q
            · exact absurd (HT.out.1 k0 q) hoff
            · omega
          have HEE := hide HE
          clear HE hoff he ht hz
          gi_wp2_with fail
          refine wpIn_region_after_tail 20 (by kernel_rfl) (by kernel_rfl) (by kernel_rfl) ?_
          simp only [List.take_succ_cons, List.take_zero, List.drop_succ_cons, List.drop_zero]
          repeat (gi_big_quiet_step ((gi_at_call 27; exact aft_call (callsIn_wide.2 (price_any k op cl st sp ex la fl fa co ru _ _ h (by omega) (by omega))))))
          refine wpQuietIn_nil ?_
          intro _ hw'
          obtain ⟨m, hw''⟩ := hw'
          subst hw''
          gi_wp2
          simp only [Exit.noGoto]
          go_end0
          have HJE := hJ.mono_below HJ.out m.le hsz
          rw [HEE.out] at HJE
          first | exact ⟨⟨_, rfl⟩, .inl ⟨_, rfl, HJE⟩⟩ | exact ⟨⟨_, rfl⟩, .inl HJE⟩
        · have g1 : decide (priceI op st fl fa t = priceI op st fl fa (t - 1)) = false := by (rw [decide_eq_false_iff_not]; exact he)
          have g2 : (priceI op st fl fa t == priceI op st fl fa (t - 1)) = false := by (rw [beq_eq_false_iff_ne]; exact he)
          have hon : on k op cl st sp ex la fl fa co ru k0 := ⟨by omega, fun q => he (by rw [ht]; exact q.2)⟩
          clear he
          have hkT : k0 < T := by
            rcases Nat.lt_or_ge k0 T with q | q
            · exact q
            · exact absurd (by rw [show T = k0 by omega]; exact hon) HT.out.2
          have hst : stp k op cl st sp ex la fl fa co ru k0 = (t, priceI op st fl fa t) := by (unfold stp; rw [← ht])
          have HST := hide hst
          clear hst hon ht hz
          gi_wp2_with fail
          refine wpIn_region_after_tail 20 (by kernel_rfl) (by kernel_rfl) (by kernel_rfl) ?_
          simp only [List.take_succ_cons, List.take_zero, List.drop_succ_cons, List.drop_zero]
          repeat (gi_big_quiet_step ((gi_at_call 27; exact aft_call (callsIn_wide.2 (price_any k op cl st sp ex la fl fa co ru _ _ h (by omega) (by omega))))))
          refine wpQuietIn_nil ?_
          intro _ hw'
          obtain ⟨m, hw''⟩ := hw'
          subst hw''
          have Jm := hJ.mono_below HJ.out m.le hsz
          obtain ⟨fn, tmps, assign, body, hy, hR⟩ := hY _ _ m.w Jm ⟨k0, hkT, rfl, rfl⟩
          rw [HST.out] at hy
          dsimp only at hy
          gi_wp2_with fail
          have HBM := hide (HBW.out.trans (Fix.of_below m.le))
          refine hR.mono ?_
          rintro e W3 (⟨rfl, hJ3, hk3⟩ | ⟨rfl, hJx3⟩)
          · have HJ3 := hide hJ3
            have HB3 := hide (HBM.out.trans (hk3.of (fun i _ q => .inl q)))
            clear hJ3 hk3 hR hy Jm
            gi_wp2
            go_roundw
            case rel => exact ⟨k0 + 1, t + 1, by omega, by (have := HTT.out; omega), rfl, by (rw [upto_succ]; exact HJ3.out), HB3.out⟩
            case measure => (first | (simp [intOf]; done) | (simp [intOf]; omega))
          · have HJx3 := hide hJx3
            clear hJx3 hR hy Jm
            gi_wp2
            simp only [Exit.noGoto]
            go_end0
            exact ⟨⟨_, rfl⟩, .inr ⟨upto (stp k op cl st sp ex la fl fa co ru) (k0 + 1), ⟨k0 + 1, by omega, rfl⟩, by (rw [upto_succ]; exact HJx3.out)⟩⟩
    · have hoff : ¬ on k op cl st sp ex la fl fa co ru k0 := fun q => hlt (by rw [ht]; exact q.1)
      have HE : k0 = T := by
        rcases Nat.lt_or_ge k0 T with q | q
        · exact absurd (HT.out.1 k0 q) hoff
        · omega
      have HEE := hide HE
      clear HE hoff ht
      gi_wp2
      go_end0
      have HJE := HJ.out
      rw [HEE.out] at HJE
      first | exact ⟨⟨_, rfl⟩, .inl ⟨_, rfl, HJE⟩⟩ | exact ⟨⟨_, rfl⟩, .inl HJE⟩
end Go.Proofs.Ytiopohdhadilfaa.steps
