import Derived.Test.YtiopohdhadilfaaT5
namespace Go.Proofs.Ytiopohdhadilfaa
open Go.ChangeShapes Go.WideShapes Go.ChangeAt Go.RowKit Go.Deep
set_option linter.unusedSimpArgs false
set_option linter.unusedVariables false

theorem tk_step_none (k op cl st sp ex la fl fa co ru : Int) (zs : List Int) (n : Nat) (e : firstL k op cl st sp ex la fl fa co ru (zs.getD n 0) = none) : tk k op cl st sp ex la fl fa co ru zs (n + 1) = tk k op cl st sp ex la fl fa co ru zs n := by rw [tk, e]
theorem tk_step_no (k op cl st sp ex la fl fa co ru : Int) (zs : List Int) (n : Nat) (t : Int) (e : firstL k op cl st sp ex la fl fa co ru (zs.getD n 0) = some t) (h : ¬ (0 ≤ zs.getD n 0 ∧ zs.getD n 0 ≤ 1099511627776 ∧ ((tk k op cl st sp ex la fl fa co ru zs n).1 < 0 ∨ t < (tk k op cl st sp ex la fl fa co ru zs n).2))) : tk k op cl st sp ex la fl fa co ru zs (n + 1) = tk k op cl st sp ex la fl fa co ru zs n := by rw [tk, e]; simp only []; rw [if_neg h]
theorem tk_step_yes (k op cl st sp ex la fl fa co ru : Int) (zs : List Int) (n : Nat) (t : Int) (e : firstL k op cl st sp ex la fl fa co ru (zs.getD n 0) = some t) (h : 0 ≤ zs.getD n 0 ∧ zs.getD n 0 ≤ 1099511627776 ∧ ((tk k op cl st sp ex la fl fa co ru zs n).1 < 0 ∨ t < (tk k op cl st sp ex la fl fa co ru zs n).2)) : tk k op cl st sp ex la fl fa co ru zs (n + 1) = ((n : Int), t) := by rw [tk, e]; simp only []; rw [if_pos h]

set_option maxHeartbeats 1000000 in
theorem Takes_row (k op cl st sp ex la fl fa co ru : Int) (b off cap : Nat) (zs : List Int) (w : World) (hb : b < w.heap.size) (hp : 0 < zs.length) (hmax : zs.length ≤ 4611686018427387904) (hc : ∀ j, j < zs.length → w.cell? ⟨b, off + j, none⟩ = some (.int .i64 (zs.getD j 0))) : Calls Try.prog 8 #[.agg #[.int .i64 k, .int .i64 op, .int .i64 cl, .int .i64 st, .int .i64 sp, .int .i64 ex, .int .i64 la, .int .i64 fl, .int .i64 fa, .int .i64 co, .int .i64 ru], .slice (some ⟨b, off, none⟩) zs.length cap] w fun e w' => e = .returned (Fin3 k op cl st sp ex la fl fa co ru zs) ∧ Below w.heap.size w w' := by
  have hM : (1099511627776 : Int) ≤ 1099511627776 := by omega
  go_enter Try.func8, Try.ntmps8
  go_wp2
  go_loopw [7, 8, 15] (fun v7 v8 v15 wr => ∃ n : Nat, n ≤ zs.length ∧ v15 = .int .i64 n ∧ v7 = .int .i64 (tk k op cl st sp ex la fl fa co ru zs n).1 ∧ v8 = .int .i64 (tk k op cl st sp ex la fl fa co ru zs n).2 ∧ Below w.heap.size w wr ∧ (w.heap.size < wr.heap.size ∧ ∀ o, wr.cell? ⟨w.heap.size, o, none⟩ = (#[Value.int .i64 k, Value.int .i64 op, Value.int .i64 cl, Value.int .i64 st, Value.int .i64 sp, Value.int .i64 ex, Value.int .i64 la, Value.int .i64 fl, Value.int .i64 fa, Value.int .i64 co, Value.int .i64 ru] : Array Value)[o]?)) (fun _ _ v15 _ => zs.length - (intOf v15).toNat)
  case atStart => exact ⟨0, Nat.zero_le _, rfl, rfl, rfl, by (focus repeat' (first | (with_reducible exact Below.refl _ _) | (with_reducible assumption) | (with_reducible refine Below.alloc ?_ ?_ _) | (with_reducible refine Below.drew ?_) | (with_reducible refine bdrewN ?_ _) | (with_reducible refine Below.setCell ?_ ?_ _) | (first | (with_reducible exact Nat.le_refl _) | (with_reducible assumption) | omega | (simp; omega) | (simp; done)))), by simp, by intro o; simp⟩
  case round =>
    obtain ⟨n, hn, rfl, rfl, rfl, rB, rz, rc⟩ := hrel
    have inv := tk_inv k op cl st sp ex la fl fa co ru zs n
    by_cases hlt : n < zs.length
    · have hcell : wr.cell? ⟨b, off + n, none⟩ = some (.int .i64 (zs.getD n 0)) := (rB.cell (p := ⟨b, off + n, none⟩) hb).trans (hc n hlt)
      clear hc
      cases ef : firstL k op cl st sp ex la fl fa co ru (zs.getD n 0) with
      | none =>
        have S0 := hide (tk_step_none k op cl st sp ex la fl fa co ru zs n ef)
        generalize hx : zs.getD n 0 = x at *
        clear hx
        go_wp2_with fail
        (apply Calls.mono; focus ((apply First_none <;> (first | (with_reducible assumption) | (with_reducible rfl) | omega)); done)); rintro e w3 ⟨rfl, hb3⟩
        have HB3 : Below w.heap.size w w3 := bstep (by (focus repeat' (first | (with_reducible exact Below.refl _ _) | (with_reducible assumption) | (with_reducible refine Below.alloc ?_ ?_ _) | (with_reducible refine Below.drew ?_) | (with_reducible refine bdrewN ?_ _) | (with_reducible refine Below.setCell ?_ ?_ _) | (first | (with_reducible exact Nat.le_refl _) | (with_reducible assumption) | omega | (simp; omega) | (simp; done))))) hb3
        have hz3 := hb3.size
        (try simp only [World.size_drew, World.size_alloc] at hz3)
        have hz3_0 : w.heap.size < w3.heap.size := by omega
        have HC3_0 : ∀ o, w3.cell? ⟨w.heap.size, o, none⟩ = (#[Value.int .i64 k, Value.int .i64 op, Value.int .i64 cl, Value.int .i64 st, Value.int .i64 sp, Value.int .i64 ex, Value.int .i64 la, Value.int .i64 fl, Value.int .i64 fa, Value.int .i64 co, Value.int .i64 ru] : Array Value)[o]? := fun o => (hb3.cell (p := ⟨w.heap.size, o, none⟩) (by first | (simp; done) | omega | (simp; omega))).trans (by simp [go_sem, *])
        clear hb3 hz3
        go_wp2
        go_roundw
        case rel => exact ⟨n + 1, by omega, by go_num, by rw [S0.out], by rw [S0.out], HB3, hz3_0, HC3_0⟩
        case measure => simp [intOf]; omega
      | some t =>
        have SN := hide (tk_step_no k op cl st sp ex la fl fa co ru zs n t ef)
        have SY := hide (tk_step_yes k op cl st sp ex la fl fa co ru zs n t ef)
        generalize hx : zs.getD n 0 = x at *
        clear hx
        generalize ht1 : (tk k op cl st sp ex la fl fa co ru zs n).1 = q1 at *
        generalize ht2 : (tk k op cl st sp ex la fl fa co ru zs n).2 = q2 at *
        have h1 := hide ht1
        have h2 := hide ht2
        clear ht1 ht2
        go_wp2_with fail
        (apply Calls.mono; focus ((apply First_some <;> (first | (with_reducible assumption) | (with_reducible rfl) | omega)); done)); rintro e w3 ⟨rfl, hb3⟩
        have HB3 : Below w.heap.size w w3 := bstep (by (focus repeat' (first | (with_reducible exact Below.refl _ _) | (with_reducible assumption) | (with_reducible refine Below.alloc ?_ ?_ _) | (with_reducible refine Below.drew ?_) | (with_reducible refine bdrewN ?_ _) | (with_reducible refine Below.setCell ?_ ?_ _) | (first | (with_reducible exact Nat.le_refl _) | (with_reducible assumption) | omega | (simp; omega) | (simp; done))))) hb3
        have hz3 := hb3.size
        (try simp only [World.size_drew, World.size_alloc] at hz3)
        have hz3_0 : w.heap.size < w3.heap.size := by omega
        have HC3_0 : ∀ o, w3.cell? ⟨w.heap.size, o, none⟩ = (#[Value.int .i64 k, Value.int .i64 op, Value.int .i64 cl, Value.int .i64 st, Value.int .i64 sp, Value.int .i64 ex, Value.int .i64 la, Value.int .i64 fl, Value.int .i64 fa, Value.int .i64 co, Value.int .i64 ru] : Array Value)[o]? := fun o => (hb3.cell (p := ⟨w.heap.size, o, none⟩) (by first | (simp; done) | omega | (simp; omega))).trans (by simp [go_sem, *])
        clear hb3 hz3
        have stay : ¬ (0 ≤ x ∧ x ≤ 1099511627776 ∧ (q1 < 0 ∨ t < q2)) → (Value.int .i64 q1 = .int .i64 (tk k op cl st sp ex la fl fa co ru zs (n + 1)).1 ∧ Value.int .i64 q2 = .int .i64 (tk k op cl st sp ex la fl fa co ru zs (n + 1)).2) := fun h => by (rw [SN.out h, h1.out, h2.out]; exact ⟨rfl, rfl⟩)
        have take : (0 ≤ x ∧ x ≤ 1099511627776 ∧ (q1 < 0 ∨ t < q2)) → (Value.int .i64 n = .int .i64 (tk k op cl st sp ex la fl fa co ru zs (n + 1)).1 ∧ Value.int .i64 t = .int .i64 (tk k op cl st sp ex la fl fa co ru zs (n + 1)).2) := fun h => by (rw [SY.out h]; exact ⟨rfl, rfl⟩)
        have ST := hide stay
        have TA := hide take
        clear stay take SN SY
        by_cases c : 0 ≤ x ∧ x ≤ 1099511627776 ∧ (q1 < 0 ∨ t < q2)
        · obtain ⟨c1, c2, c3⟩ := c
          have T1 := hide (TA.out ⟨c1, c2, c3⟩)
          have d2 : decide (x ≤ 1099511627776) = true := by rw [decide_eq_true_eq]; exact c2
          rcases c3 with c3 | c3
          · go_wp2
            go_roundw
            case rel => exact ⟨n + 1, by omega, by go_num, T1.out.1, T1.out.2, HB3, hz3_0, HC3_0⟩
            case measure => simp [intOf]; omega
          · by_cases c4 : q1 < 0
            · go_wp2
              go_roundw
              case rel => exact ⟨n + 1, by omega, by go_num, T1.out.1, T1.out.2, HB3, hz3_0, HC3_0⟩
              case measure => simp [intOf]; omega
            · have c5 : 0 ≤ q1 := by omega
              go_wp2
              go_roundw
              case rel => exact ⟨n + 1, by omega, by go_num, T1.out.1, T1.out.2, HB3, hz3_0, HC3_0⟩
              case measure => simp [intOf]; omega
        · have T1 := hide (ST.out c)
          have c' : x < 0 ∨ (0 ≤ x ∧ 1099511627776 < x) ∨ (0 ≤ x ∧ x ≤ 1099511627776 ∧ 0 ≤ q1 ∧ q2 ≤ t) := by omega
          clear c
          rcases c' with c | ⟨c1, c2⟩ | ⟨c1, c2, c3, c4⟩
          · go_wp2
            go_roundw
            case rel => exact ⟨n + 1, by omega, by go_num, T1.out.1, T1.out.2, HB3, hz3_0, HC3_0⟩
            case measure => simp [intOf]; omega
          · have d2 : decide (x ≤ 1099511627776) = false := by rw [decide_eq_false_iff_not]; omega
            go_wp2
            go_roundw
            case rel => exact ⟨n + 1, by omega, by go_num, T1.out.1, T1.out.2, HB3, hz3_0, HC3_0⟩
            case measure => simp [intOf]; omega
          · have d2 : decide (x ≤ 1099511627776) = true := by rw [decide_eq_true_eq]; exact c2
            have d3 : decide (t < q2) = false := by rw [decide_eq_false_iff_not]; omega
            go_wp2
            go_roundw
            case rel => exact ⟨n + 1, by omega, by go_num, T1.out.1, T1.out.2, HB3, hz3_0, HC3_0⟩
            case measure => simp [intOf]; omega
    · have hnz : n = zs.length := by omega
      subst hnz
      have F0 := hide (rfl : Fin3 k op cl st sp ex la fl fa co ru zs = Fin3 k op cl st sp ex la fl fa co ru zs)
      rcases inv with inv | ⟨i1, i2, i3, i4, i5⟩
      · have f1 : Fin3 k op cl st sp ex la fl fa co ru zs = .tuple #[.int .i64 0, .int .i64 0, .bool false] := by unfold Fin3; rw [inv]; rfl
        have F1 := hide f1
        clear f1
        generalize ht1 : (tk k op cl st sp ex la fl fa co ru zs zs.length).1 = q1 at *
        have hq : q1 = -1 := by rw [← ht1, inv]
        generalize ht2 : (tk k op cl st sp ex la fl fa co ru zs zs.length).2 = q2 at *
        clear ht1 ht2 inv
        subst hq
        go_wp2
        go_ret3
        exact ⟨(show Ending.returned (.tuple #[.int .i64 0, .int .i64 0, .bool false]) = .returned (Fin3 k op cl st sp ex la fl fa co ru zs) from by rw [F1.out]), rB⟩
      · have f1 : Fin3 k op cl st sp ex la fl fa co ru zs = .tuple #[.int .i64 (tk k op cl st sp ex la fl fa co ru zs zs.length).1, .int .i64 (priceI op st fl fa (tk k op cl st sp ex la fl fa co ru zs zs.length).2), .bool true] := by unfold Fin3; rw [if_neg (by omega)]
        have F1 := hide f1
        clear f1
        have bb := bnd k op cl st sp ex la fl fa co ru i3
        generalize ht1 : (tk k op cl st sp ex la fl fa co ru zs zs.length).1 = q1 at *
        generalize ht2 : (tk k op cl st sp ex la fl fa co ru zs zs.length).2 = q2 at *
        have h1 := hide ht1
        have h2 := hide ht2
        clear ht1 ht2
        obtain ⟨b1, b2, b3, b4, b5, b6, b7, b8, b9, b10, b11⟩ := bb
        have i6 : q2 ≤ 1099511627776 := by omega
        go_wp2_with fail
        (apply Calls.mono; focus ((apply price_any <;> (first | (with_reducible assumption) | (with_reducible rfl) | omega)); done)); rintro e w3 ⟨rfl, hb3⟩
        have HB3 : Below w.heap.size w w3 := bstep (by (focus repeat' (first | (with_reducible exact Below.refl _ _) | (with_reducible assumption) | (with_reducible refine Below.alloc ?_ ?_ _) | (with_reducible refine Below.drew ?_) | (with_reducible refine bdrewN ?_ _) | (with_reducible refine Below.setCell ?_ ?_ _) | (first | (with_reducible exact Nat.le_refl _) | (with_reducible assumption) | omega | (simp; omega) | (simp; done))))) hb3
        go_wp2
        go_ret3
        exact ⟨(show Ending.returned (.tuple #[.int .i64 q1, .int .i64 (priceI op st fl fa q2), .bool true]) = .returned (Fin3 k op cl st sp ex la fl fa co ru zs) from by rw [F1.out]), HB3⟩
end Go.Proofs.Ytiopohdhadilfaa
