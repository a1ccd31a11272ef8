import Derived.Test.YtiopohdhadilfaaZ1
import Derived.Deep.AppendLies
namespace Go.Proofs.Ytiopohdhadilfaa.steps
open Go.ChangeShapes Go.WideShapes Go.ChangeAt Go.RowKit Go.Deep Go.Shelf
set_option linter.unusedSimpArgs false
set_option linter.unusedVariables false

attribute [local go_sem] Oper.semAt_some
theorem own_any {w : World} {base : Nat} {e : TypeId} {size : Nat} {v : Value} {n : Nat} {xs : List Value} (own : w.ownsRow base e size v n xs) : ∃ ao cap, v = .slice ao n cap := by
  rcases own.2 with ⟨rfl, rfl, _⟩ | ⟨k, c, cur, rfl, _⟩
  · exact ⟨none, 0, rfl⟩
  · exact ⟨_, _, rfl⟩
theorem own_later {w w' : World} {base : Nat} {e : TypeId} {size : Nat} {v : Value} {n : Nat} {xs : List Value} (h : w.ownsRow base e size v n xs) (hb : Below w.heap.size w w') : w'.ownsRow base e size v n xs :=
  h.kept (row := none) ⟨hb.os, hb.tape, hb.output, hb.size, fun k hk _ => hb.block k hk⟩ (by
    cases e : v.ownBlock with
    | none => exact .inl rfl
    | some k => exact .inr (by simp))
theorem own_mono {w : World} {base base' : Nat} {e : TypeId} {size : Nat} {v : Value} {n : Nat} {xs : List Value} (h : w.ownsRow base e size v n xs) (hb : base' ≤ base) : w.ownsRow base' e size v n xs :=
  ⟨h.1, h.2.imp id (fun ⟨g, cap, cur, a, b, r⟩ => ⟨g, cap, cur, a, Nat.le_trans hb b, r⟩)⟩

theorem steps_no (n : Nat) (hn : 1 ≤ n) (l Bn : Nat) (k op cl st sp ex la fl fa co ru : Int) (h : ¬ LotOK k op cl st sp ex la fl fa co ru) (WS : World) (J : List (Int × Int) → World → Prop) (Q : World → Prop)
    (hJ : Stays WS.heap.size J) (hc : ∀ o, WS.cell? ⟨Bn, o, none⟩ = (#[Value.int .i64 k, Value.int .i64 op, Value.int .i64 cl, Value.int .i64 st, Value.int .i64 sp, Value.int .i64 ex, Value.int .i64 la, Value.int .i64 fl, Value.int .i64 fa, Value.int .i64 co, Value.int .i64 ru] : Array Value)[o]?) (h0 : J [] WS) :
    CallsIn Fence.wide n Try.prog 34 #[.func (.yield l) #[] #[], .pointer (some ⟨Bn, 0, none⟩)] WS fun e W' => (∃ v, e = .returned v) ∧
      ((∃ ys, ys = [] ∧ J ys W') ∨ Q W') := by
  refine callsIn_of_wp Try.func34 rfl trivial ?_ rfl
  simp only [Try.ntmps34, List.size_toArray, List.length_cons, List.length_nil, Nat.reduceAdd, Nat.reduceSub, Array.replicate_succ, Array.replicate_zero, List.push_toArray, List.append_toArray, List.nil_append, List.cons_append]
  refine wpIn_wide.2 (wp_scope_straight ((wpIn_wide (n := n)).1 ?_))
  have HC := hide hc
  clear hc
  have c0 : WS.cell? ⟨Bn, 0, none⟩ = some (.int .i64 k) := HC.out 0
  have c1 : WS.cell? ⟨Bn, 1, none⟩ = some (.int .i64 op) := HC.out 1
  have c2 : WS.cell? ⟨Bn, 2, none⟩ = some (.int .i64 cl) := HC.out 2
  have c3 : WS.cell? ⟨Bn, 3, none⟩ = some (.int .i64 st) := HC.out 3
  have c4 : WS.cell? ⟨Bn, 4, none⟩ = some (.int .i64 sp) := HC.out 4
  have c5 : WS.cell? ⟨Bn, 5, none⟩ = some (.int .i64 ex) := HC.out 5
  have c6 : WS.cell? ⟨Bn, 6, none⟩ = some (.int .i64 la) := HC.out 6
  have c7 : WS.cell? ⟨Bn, 7, none⟩ = some (.int .i64 fl) := HC.out 7
  have c8 : WS.cell? ⟨Bn, 8, none⟩ = some (.int .i64 fa) := HC.out 8
  have c9 : WS.cell? ⟨Bn, 9, none⟩ = some (.int .i64 co) := HC.out 9
  have c10 : WS.cell? ⟨Bn, 10, none⟩ = some (.int .i64 ru) := HC.out 10
  gi_wp2_with fail
  refine (callsIn_wide.2 (check_no k op cl st sp ex la fl fa co ru _ h)).mono ?_
  rintro e w1 ⟨rfl, hb1⟩
  have J1 : J [] w1 := hJ _ _ _ none h0 (grown_of_below hb1) (fun r e => by cases e)
  gi_wp2
  simp only [Exit.noGoto]
  refine bodyPost_ret (results_none rfl _ _ _) rfl ?_
  exact ⟨⟨_, rfl⟩, .inl ⟨[], rfl, J1⟩⟩
def stepc (s : Int × Int) : List Value := [.int .i64 s.1, .int .i64 s.2]
def flat2 (f : Nat → Int × Int) (k : Nat) : List Value := (List.range k).flatMap (fun j => stepc (f j))
theorem flat2_succ (f : Nat → Int × Int) (k : Nat) : flat2 f (k + 1) = flat2 f k ++ stepc (f k) := by simp [flat2, List.range_succ]
theorem info50 : (Try.prog.info? 50).map (fun i => (i.zero, i.size, i.bytes)) = some (some (.agg #[.int .i64 0, .int .i64 0]), 2, 16) := by kernel_rfl
theorem new2 (w : World) (a b : Value) (e : TypeId) : ∀ j u, ([a, b] : List Value)[j]? = some u → (w.alloc (.cells #[a, b] e)).cell? ((⟨w.heap.size, 0, none⟩ : Addr).add j) = some u := by
  intro j u hu
  have ha : (⟨w.heap.size, 0, none⟩ : Addr).add j = ⟨w.heap.size, j, none⟩ := by
    unfold Addr.add
    split
    · (rename_i h; subst h; rfl)
    · simp
  rw [ha]
  rcases j with _ | _ | j <;> simp at hu <;> subst hu <;> simp [go_sem]
theorem one2 (a b : Int) : ∀ u ∈ ([.int .i64 a, .int .i64 b] : List Value), u.oneCell' = true := by
  intro u hu
  simp at hu
  rcases hu with rfl | rfl <;> rfl
set_option maxRecDepth 100000 in
set_option maxHeartbeats 4000000 in
theorem ref_ok (k op cl st sp ex la fl fa co ru : Int) (M : Nat) (w : World) (h : LotOK k op cl st sp ex la fl fa co ru) (hM : M ≤ 301) (hon : ∀ j, j < M → on k op cl st sp ex la fl fa co ru j) (hend : M < 301 → ¬ on k op cl st sp ex la fl fa co ru M) : Calls Try.prog 18 #[.agg #[.int .i64 k, .int .i64 op, .int .i64 cl, .int .i64 st, .int .i64 sp, .int .i64 ex, .int .i64 la, .int .i64 fl, .int .i64 fa, .int .i64 co, .int .i64 ru], .int .i64 301] w fun e w' => (∃ vo, e = .returned vo ∧ w'.ownsRow w.heap.size 50 2 vo M (flat2 (stp k op cl st sp ex la fl fa co ru) M)) ∧ Below w.heap.size w w' := by
  obtain ⟨q1, q2, q3, q4, q5, q6, q7, q8, q9, q10, q11⟩ := bnd k op cl st sp ex la fl fa co ru h
  obtain ⟨i0, hi0, hz0, hi1, hi2⟩ := info_parts info50
  refine (callsIn_wide (n := 3)).1 ?_
  refine callsIn_of_wp Try.func18 rfl trivial ?_ rfl
  simp only [Try.ntmps18, List.size_toArray, List.length_cons, List.length_nil, Nat.reduceAdd, Nat.reduceSub, Array.replicate_succ, Array.replicate_zero, List.push_toArray, List.append_toArray, List.nil_append, List.cons_append]
  have HON := hide hon
  have HEND := hide hend
  clear hon hend
  gi_wp2_with fail
  refine (callsIn_wide.2 (rcheck_ok k op cl st sp ex la fl fa co ru _ h)).mono ?_
  rintro e w1 ⟨rfl, hb1⟩
  have hz1 : w.heap.size + 1 ≤ w1.heap.size := by (have q := hb1.size; simp at q; omega)
  have hBz : w.heap.size < w1.heap.size := by omega
  have HC := hide (show ∀ o, w1.cell? ⟨w.heap.size, o, none⟩ = (#[Value.int .i64 k, Value.int .i64 op, Value.int .i64 cl, Value.int .i64 st, Value.int .i64 sp, Value.int .i64 ex, Value.int .i64 la, Value.int .i64 fl, Value.int .i64 fa, Value.int .i64 co, Value.int .i64 ru] : Array Value)[o]? from fun o => (hb1.cell (p := ⟨w.heap.size, o, none⟩) (by simp)).trans (by simp [go_sem]))
  have HB1 := hide (show Below w.heap.size w w1 from bstep (by (focus repeat' (first | (with_reducible exact Below.refl _ _) | (with_reducible assumption) | (with_reducible refine Below.alloc ?_ ?_ _) | (with_reducible refine Below.drew ?_) | (with_reducible refine bdrewN ?_ _) | (with_reducible refine Below.setCell ?_ ?_ _) | (first | (with_reducible exact Nat.le_refl _) | (with_reducible assumption) | omega | (simp; omega) | (simp; done))))) hb1)
  clear hb1
  have c0 : w1.cell? ⟨w.heap.size, 0, none⟩ = some (.int .i64 k) := HC.out 0
  have c1 : w1.cell? ⟨w.heap.size, 1, none⟩ = some (.int .i64 op) := HC.out 1
  have c2 : w1.cell? ⟨w.heap.size, 2, none⟩ = some (.int .i64 cl) := HC.out 2
  have c3 : w1.cell? ⟨w.heap.size, 3, none⟩ = some (.int .i64 st) := HC.out 3
  have c4 : w1.cell? ⟨w.heap.size, 4, none⟩ = some (.int .i64 sp) := HC.out 4
  have c5 : w1.cell? ⟨w.heap.size, 5, none⟩ = some (.int .i64 ex) := HC.out 5
  have c6 : w1.cell? ⟨w.heap.size, 6, none⟩ = some (.int .i64 la) := HC.out 6
  have c7 : w1.cell? ⟨w.heap.size, 7, none⟩ = some (.int .i64 fl) := HC.out 7
  have c8 : w1.cell? ⟨w.heap.size, 8, none⟩ = some (.int .i64 fa) := HC.out 8
  have c9 : w1.cell? ⟨w.heap.size, 9, none⟩ = some (.int .i64 co) := HC.out 9
  have c10 : w1.cell? ⟨w.heap.size, 10, none⟩ = some (.int .i64 ru) := HC.out 10
  gi_wp2
  clear c0 c1 c2 c3 c4 c5 c6 c7 c8 c9 c10
  gi_loopw [5, 6] (fun v5 v6 wr => ∃ (j : Nat) (t : Int), j ≤ M ∧ t = op + (j : Int) ∧ v6 = .int .i64 t ∧ wr.ownsRow (w.heap.size + 1) 50 2 v5 j (flat2 (stp k op cl st sp ex la fl fa co ru) j) ∧ Below (w.heap.size + 1) w1 wr)
    (fun _ v6 _ => (cl - intOf v6).toNat)
  case atStart => exact ⟨0, op, Nat.zero_le _, by simp, rfl, World.ownsRow_nil _ _ _ _, (Below.refl _ _).mono hz1⟩
  case round =>
    obtain ⟨j, t, hj, ht, rfl, own, hbw⟩ := hrel
    have HOW := hide own
    have HBW := hide hbw
    have HCW := hide (fun o => (hbw.cell (p := ⟨w.heap.size, o, none⟩) (by simp)).trans (HC.out o))
    have hsz := hbw.size
    have hBr : w.heap.size < wr.heap.size := by omega
    have h1t : op ≤ t := by omega
    have hj0 : (0 : Int) ≤ (j : Int) := by omega
    obtain ⟨ao, cap, rfl⟩ := own_any own
    clear own hbw
    have c0 : wr.cell? ⟨w.heap.size, 0, none⟩ = some (.int .i64 k) := HCW.out 0
    have c1 : wr.cell? ⟨w.heap.size, 1, none⟩ = some (.int .i64 op) := HCW.out 1
    have c2 : wr.cell? ⟨w.heap.size, 2, none⟩ = some (.int .i64 cl) := HCW.out 2
    have c3 : wr.cell? ⟨w.heap.size, 3, none⟩ = some (.int .i64 st) := HCW.out 3
    have c4 : wr.cell? ⟨w.heap.size, 4, none⟩ = some (.int .i64 sp) := HCW.out 4
    have c5 : wr.cell? ⟨w.heap.size, 5, none⟩ = some (.int .i64 ex) := HCW.out 5
    have c6 : wr.cell? ⟨w.heap.size, 6, none⟩ = some (.int .i64 la) := HCW.out 6
    have c7 : wr.cell? ⟨w.heap.size, 7, none⟩ = some (.int .i64 fl) := HCW.out 7
    have c8 : wr.cell? ⟨w.heap.size, 8, none⟩ = some (.int .i64 fa) := HCW.out 8
    have c9 : wr.cell? ⟨w.heap.size, 9, none⟩ = some (.int .i64 co) := HCW.out 9
    have c10 : wr.cell? ⟨w.heap.size, 10, none⟩ = some (.int .i64 ru) := HCW.out 10
    by_cases hlt : t < cl
    · by_cases hj3 : j < 301
      · have hj3' : (j : Int) < 301 := by omega
        have hsub : IntKind.i64.wrap (t - 1) = t - 1 := IntWalk.i64_in _ (by omega)
        have a0 : ∀ m : Aft wr, m.w.cell? ⟨w.heap.size, 0, none⟩ = some (.int .i64 k) := fun m => (m.le.cell (p := ⟨w.heap.size, 0, none⟩) hBr).trans c0
        have a1 : ∀ m : Aft wr, m.w.cell? ⟨w.heap.size, 1, none⟩ = some (.int .i64 op) := fun m => (m.le.cell (p := ⟨w.heap.size, 1, none⟩) hBr).trans c1
        have a2 : ∀ m : Aft wr, m.w.cell? ⟨w.heap.size, 2, none⟩ = some (.int .i64 cl) := fun m => (m.le.cell (p := ⟨w.heap.size, 2, none⟩) hBr).trans c2
        have a3 : ∀ m : Aft wr, m.w.cell? ⟨w.heap.size, 3, none⟩ = some (.int .i64 st) := fun m => (m.le.cell (p := ⟨w.heap.size, 3, none⟩) hBr).trans c3
        have a4 : ∀ m : Aft wr, m.w.cell? ⟨w.heap.size, 4, none⟩ = some (.int .i64 sp) := fun m => (m.le.cell (p := ⟨w.heap.size, 4, none⟩) hBr).trans c4
        have a5 : ∀ m : Aft wr, m.w.cell? ⟨w.heap.size, 5, none⟩ = some (.int .i64 ex) := fun m => (m.le.cell (p := ⟨w.heap.size, 5, none⟩) hBr).trans c5
        have a6 : ∀ m : Aft wr, m.w.cell? ⟨w.heap.size, 6, none⟩ = some (.int .i64 la) := fun m => (m.le.cell (p := ⟨w.heap.size, 6, none⟩) hBr).trans c6
        have a7 : ∀ m : Aft wr, m.w.cell? ⟨w.heap.size, 7, none⟩ = some (.int .i64 fl) := fun m => (m.le.cell (p := ⟨w.heap.size, 7, none⟩) hBr).trans c7
        have a8 : ∀ m : Aft wr, m.w.cell? ⟨w.heap.size, 8, none⟩ = some (.int .i64 fa) := fun m => (m.le.cell (p := ⟨w.heap.size, 8, none⟩) hBr).trans c8
        have a9 : ∀ m : Aft wr, m.w.cell? ⟨w.heap.size, 9, none⟩ = some (.int .i64 co) := fun m => (m.le.cell (p := ⟨w.heap.size, 9, none⟩) hBr).trans c9
        have a10 : ∀ m : Aft wr, m.w.cell? ⟨w.heap.size, 10, none⟩ = some (.int .i64 ru) := fun m => (m.le.cell (p := ⟨w.heap.size, 10, none⟩) hBr).trans c10
        by_cases hz : j = 0
        · have g0 : decide (op < t) = false := by (rw [decide_eq_false_iff_not]; omega)
          have hjM : j < M := by
            rcases Nat.lt_or_ge j M with q | q
            · exact q
            · exact absurd ⟨by omega, fun q => by omega⟩ (HEND.out (by omega))
          have hst : stp k op cl st sp ex la fl fa co ru j = (t, priceI op st fl fa t) := by (unfold stp; rw [← ht])
          have HST := hide hst
          have HTT := hide ht
          clear hz ht hst
          gi_wp2_with fail
          refine wpIn_region_after_tail 13 (by kernel_rfl) (by kernel_rfl) (by kernel_rfl) ?_
          simp only [List.take_succ_cons, List.take_zero, List.drop_succ_cons, List.drop_zero]
          repeat (gi_big_quiet_step ((gi_at_call 30; exact aft_call (callsIn_wide.2 (rprice_any k op cl st sp ex la fl fa co ru _ _ h (by omega) (by omega))))))
          refine wpQuietIn_nil ?_
          intro _ hw'
          obtain ⟨m, hw''⟩ := hw'
          subst hw''
          have HFL := hide (flat2_succ (stp k op cl st sp ex la fl fa co ru) j)
          have HMB := hide m.le
          have e0 : m.w.cell? ⟨w.heap.size, 0, none⟩ = some (.int .i64 k) := a0 m
          have e1 : m.w.cell? ⟨w.heap.size, 1, none⟩ = some (.int .i64 op) := a1 m
          have e2 : m.w.cell? ⟨w.heap.size, 2, none⟩ = some (.int .i64 cl) := a2 m
          have e3 : m.w.cell? ⟨w.heap.size, 3, none⟩ = some (.int .i64 st) := a3 m
          have e4 : m.w.cell? ⟨w.heap.size, 4, none⟩ = some (.int .i64 sp) := a4 m
          have e5 : m.w.cell? ⟨w.heap.size, 5, none⟩ = some (.int .i64 ex) := a5 m
          have e6 : m.w.cell? ⟨w.heap.size, 6, none⟩ = some (.int .i64 la) := a6 m
          have e7 : m.w.cell? ⟨w.heap.size, 7, none⟩ = some (.int .i64 fl) := a7 m
          have e8 : m.w.cell? ⟨w.heap.size, 8, none⟩ = some (.int .i64 fa) := a8 m
          have e9 : m.w.cell? ⟨w.heap.size, 9, none⟩ = some (.int .i64 co) := a9 m
          have e10 : m.w.cell? ⟨w.heap.size, 10, none⟩ = some (.int .i64 ru) := a10 m
          clear a0 c0 a1 c1 a2 c2 a3 c3 a4 c4 a5 c5 a6 c6 a7 c7 a8 c8 a9 c9 a10 c10
          gi_wp2_with (first
            | (gi_at_call 30; refine (callsIn_wide.2 (rprice_any k op cl st sp ex la fl fa co ru _ _ h (by omega) (by omega))).mono ?_; rintro e w5 ⟨rfl, hb5⟩
               have HB5 := hide hb5
               have hz5 := hb5.size
               have OW5 := hide (own_later HOW.out (HMB.out.trans (hb5.mono HMB.out.size)))
               clear hb5)
            | (gi_at_builtin; refine wpListIn_append_own _ rfl _ _ 47 rfl (w.heap.size + 1) 50 i0 _ 2 16 Try.underlying47 hi0 hz0 hi1 hi2 rfl (by decide) (.slice ao j cap) j (flat2 (stp k op cl st sp ex la fl fa co ru) j) rfl (World.ownsRow.alloc OW5.out _) ⟨w5.heap.size, 0, none⟩ 1 1 [.int .i64 t, .int .i64 (priceI op st fl fa t)] rfl rfl (new2 _ _ _ _) (one2 _ _) (by unfold maxLen; omega) (by omega) (by (have := HMB.out.size; simp; omega)) ?_
               intro v2 wn2 own2 hg2 _
               have hb2 : Below (w.heap.size + 1) wr wn2 := ((((HMB.out.trans (HB5.out.mono HMB.out.size)).mono (by omega : w.heap.size + 1 ≤ wr.heap.size)).alloc (by (have := HMB.out.size; omega)) _).grown hg2 (by (have := HMB.out.size; simp; omega)) (fun r e => (OW5.out.lt r e).1))
               have HB2 := hide hb2
               have OW2 := hide own2
               clear hb2 own2 hg2))
          go_roundw
          case rel =>
            refine ⟨j + 1, t + 1, by omega, by (have := HTT.out; omega), rfl, ?_, HBW.out.trans HB2.out⟩
            rw [HFL.out, HST.out]
            exact OW2.out
          case measure => (first | (simp [intOf]; done) | (simp [intOf]; omega))
        · have h1t2 : op ≤ t - 1 := by omega
          have g0 : decide (op < t) = true := by (rw [decide_eq_true_eq]; omega)
          by_cases he : priceI op st fl fa t = priceI op st fl fa (t - 1)
          · have g1 : decide (priceI op st fl fa t = priceI op st fl fa (t - 1)) = true := by (rw [decide_eq_true_eq]; exact he)
            have g2 : (priceI op st fl fa t == priceI op st fl fa (t - 1)) = true := by (rw [beq_iff_eq]; exact he)
            have HE : j = M := by
              rcases Nat.lt_or_ge j M with q | q
              · exact absurd ⟨by omega, by rw [← ht]; exact he⟩ (HON.out j q).2
              · omega
            have HEE := hide HE
            have HTT := hide ht
            clear hz ht HE he
            gi_wp2_with fail
            refine wpIn_region_after_tail 13 (by kernel_rfl) (by kernel_rfl) (by kernel_rfl) ?_
            simp only [List.take_succ_cons, List.take_zero, List.drop_succ_cons, List.drop_zero]
            repeat (gi_big_quiet_step ((gi_at_call 30; exact aft_call (callsIn_wide.2 (rprice_any k op cl st sp ex la fl fa co ru _ _ h (by omega) (by omega))))))
            refine wpQuietIn_nil ?_
            intro _ hw'
            obtain ⟨m, hw''⟩ := hw'
            subst hw''
            gi_wp2
            obtain rfl := HEE.out
            refine bodyPost_ret (v := .slice ao j cap) (by simp [results, Try.f18, go_sem]) rfl ⟨⟨_, rfl, ?_⟩, ?_⟩
            · exact own_mono (own_later HOW.out m.le) (Nat.le_succ _)
            · exact (HB1.out.trans (HBW.out.mono (Nat.le_succ _))).trans (m.le.mono (by omega))
          · have g1 : decide (priceI op st fl fa t = priceI op st fl fa (t - 1)) = false := by (rw [decide_eq_false_iff_not]; exact he)
            have g2 : (priceI op st fl fa t == priceI op st fl fa (t - 1)) = false := by (rw [beq_eq_false_iff_ne]; exact he)
            have hjM : j < M := by
              rcases Nat.lt_or_ge j M with q | q
              · exact q
              · have hM2 : j = M := by omega
                subst hM2
                exact absurd ⟨by omega, fun q => he (by rw [ht]; exact q.2)⟩ (HEND.out (by omega))
            have hst : stp k op cl st sp ex la fl fa co ru j = (t, priceI op st fl fa t) := by (unfold stp; rw [← ht])
            have HST := hide hst
            have HTT := hide ht
            clear hz ht hst he
            gi_wp2_with fail
            refine wpIn_region_after_tail 13 (by kernel_rfl) (by kernel_rfl) (by kernel_rfl) ?_
            simp only [List.take_succ_cons, List.take_zero, List.drop_succ_cons, List.drop_zero]
            repeat (gi_big_quiet_step ((gi_at_call 30; exact aft_call (callsIn_wide.2 (rprice_any k op cl st sp ex la fl fa co ru _ _ h (by omega) (by omega))))))
            refine wpQuietIn_nil ?_
            intro _ hw'
            obtain ⟨m, hw''⟩ := hw'
            subst hw''
            have HFL := hide (flat2_succ (stp k op cl st sp ex la fl fa co ru) j)
            have HMB := hide m.le
            have e0 : m.w.cell? ⟨w.heap.size, 0, none⟩ = some (.int .i64 k) := a0 m
            have e1 : m.w.cell? ⟨w.heap.size, 1, none⟩ = some (.int .i64 op) := a1 m
            have e2 : m.w.cell? ⟨w.heap.size, 2, none⟩ = some (.int .i64 cl) := a2 m
            have e3 : m.w.cell? ⟨w.heap.size, 3, none⟩ = some (.int .i64 st) := a3 m
            have e4 : m.w.cell? ⟨w.heap.size, 4, none⟩ = some (.int .i64 sp) := a4 m
            have e5 : m.w.cell? ⟨w.heap.size, 5, none⟩ = some (.int .i64 ex) := a5 m
            have e6 : m.w.cell? ⟨w.heap.size, 6, none⟩ = some (.int .i64 la) := a6 m
            have e7 : m.w.cell? ⟨w.heap.size, 7, none⟩ = some (.int .i64 fl) := a7 m
            have e8 : m.w.cell? ⟨w.heap.size, 8, none⟩ = some (.int .i64 fa) := a8 m
            have e9 : m.w.cell? ⟨w.heap.size, 9, none⟩ = some (.int .i64 co) := a9 m
            have e10 : m.w.cell? ⟨w.heap.size, 10, none⟩ = some (.int .i64 ru) := a10 m
            clear a0 c0 a1 c1 a2 c2 a3 c3 a4 c4 a5 c5 a6 c6 a7 c7 a8 c8 a9 c9 a10 c10
            gi_wp2_with (first
              | (gi_at_call 30; refine (callsIn_wide.2 (rprice_any k op cl st sp ex la fl fa co ru _ _ h (by omega) (by omega))).mono ?_; rintro e w5 ⟨rfl, hb5⟩
                 have HB5 := hide hb5
                 have hz5 := hb5.size
                 have OW5 := hide (own_later HOW.out (HMB.out.trans (hb5.mono HMB.out.size)))
                 clear hb5)
              | (gi_at_builtin; refine wpListIn_append_own _ rfl _ _ 47 rfl (w.heap.size + 1) 50 i0 _ 2 16 Try.underlying47 hi0 hz0 hi1 hi2 rfl (by decide) (.slice ao j cap) j (flat2 (stp k op cl st sp ex la fl fa co ru) j) rfl (World.ownsRow.alloc OW5.out _) ⟨w5.heap.size, 0, none⟩ 1 1 [.int .i64 t, .int .i64 (priceI op st fl fa t)] rfl rfl (new2 _ _ _ _) (one2 _ _) (by unfold maxLen; omega) (by omega) (by (have := HMB.out.size; simp; omega)) ?_
                 intro v2 wn2 own2 hg2 _
                 have hb2 : Below (w.heap.size + 1) wr wn2 := ((((HMB.out.trans (HB5.out.mono HMB.out.size)).mono (by omega : w.heap.size + 1 ≤ wr.heap.size)).alloc (by (have := HMB.out.size; omega)) _).grown hg2 (by (have := HMB.out.size; simp; omega)) (fun r e => (OW5.out.lt r e).1))
                 have HB2 := hide hb2
                 have OW2 := hide own2
                 clear hb2 own2 hg2))
            go_roundw
            case rel =>
              refine ⟨j + 1, t + 1, by omega, by (have := HTT.out; omega), rfl, ?_, HBW.out.trans HB2.out⟩
              rw [HFL.out, HST.out]
              exact OW2.out
            case measure => (first | (simp [intOf]; done) | (simp [intOf]; omega))
      · have hj3' : ¬ (j : Int) < 301 := by omega
        have HE : j = M := by omega
        have HEE := hide HE
        clear HE ht
        gi_wp2
        obtain rfl := HEE.out
        refine bodyPost_ret (v := .slice ao j cap) (by simp [results, Try.f18, go_sem]) rfl ⟨⟨_, rfl, ?_⟩, ?_⟩
        · exact own_mono (HOW.out) (Nat.le_succ _)
        · exact HB1.out.trans (HBW.out.mono (Nat.le_succ _))
    · have HE : j = M := by
        rcases Nat.lt_or_ge j M with q | q
        · exact absurd (by rw [ht]; exact (HON.out j q).1) hlt
        · omega
      have HEE := hide HE
      clear HE ht
      gi_wp2
      obtain rfl := HEE.out
      refine bodyPost_ret (v := .slice ao j cap) (by simp [results, Try.f18, go_sem]) rfl ⟨⟨_, rfl, ?_⟩, ?_⟩
      · exact own_mono (HOW.out) (Nat.le_succ _)
      · exact HB1.out.trans (HBW.out.mono (Nat.le_succ _))
end Go.Proofs.Ytiopohdhadilfaa.steps
