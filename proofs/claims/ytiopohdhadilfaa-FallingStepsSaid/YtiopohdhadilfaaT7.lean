import Derived.Test.YtiopohdhadilfaaT6
namespace Go.Proofs.Ytiopohdhadilfaa
open Go.ChangeShapes Go.WideShapes Go.ChangeAt Go.RowKit Go.Deep
set_option linter.unusedSimpArgs false
set_option linter.unusedVariables false

def rW (q : Int) : Int := if q < 0 then 0 else q
def rA (q : Int) : Bool := decide (0 ≤ q)
theorem tk_bad (k op cl st sp ex la fl fa co ru : Int) (zs : List Int) (n : Nat) (h : ¬ (0 ≤ zs.getD n 0 ∧ zs.getD n 0 ≤ 1099511627776)) : tk k op cl st sp ex la fl fa co ru zs (n + 1) = tk k op cl st sp ex la fl fa co ru zs n := by
  cases e : firstL k op cl st sp ex la fl fa co ru (zs.getD n 0) with
  | none => exact tk_step_none k op cl st sp ex la fl fa co ru zs n e
  | some t => exact tk_step_no k op cl st sp ex la fl fa co ru zs n t e (fun x => h ⟨x.1, x.2.1⟩)

set_option maxHeartbeats 1000000 in
theorem rTakes_empty (k op cl st sp ex la fl fa co ru : Int) (a : Option Addr) (cap : Nat) (w : World) : Calls Try.prog 9 #[.agg #[.int .i64 k, .int .i64 op, .int .i64 cl, .int .i64 st, .int .i64 sp, .int .i64 ex, .int .i64 la, .int .i64 fl, .int .i64 fa, .int .i64 co, .int .i64 ru], .slice a 0 cap] w fun e w' => e = .returned (.tuple #[.int .i64 0, .int .i64 0, .bool false]) ∧ Below w.heap.size w w' := by
  go_enter Try.func9, Try.ntmps9
  go_wp2
  go_loop [7, 8, 9, 10] (fun v7 v8 v9 v10 => v7 = .int .i64 0 ∧ v8 = .int .i64 0 ∧ v9 = .bool false ∧ v10 = .int .i64 0) (fun _ _ _ _ => 0)
  case atStart => exact ⟨rfl, rfl, rfl, rfl⟩
  case round =>
    obtain ⟨rfl, rfl, rfl, rfl⟩ := hrel
    go_wp2
    go_ret3
    exact ⟨rfl, by (focus repeat' (first | (with_reducible exact Below.refl _ _) | (with_reducible assumption) | (with_reducible refine Below.alloc ?_ ?_ _) | (with_reducible refine Below.drew ?_) | (with_reducible refine bdrewN ?_ _) | (with_reducible refine Below.setCell ?_ ?_ _) | (first | (with_reducible exact Nat.le_refl _) | (with_reducible assumption) | omega | (simp; omega) | (simp; done))))⟩

set_option maxHeartbeats 1000000 in
theorem rTakes_row (k op cl st sp ex la fl fa co ru : Int) (b off cap : Nat) (zs : List Int) (w : World) (hb : b < w.heap.size) (hp : 0 < zs.length) (hmax : zs.length ≤ 4611686018427387904) (hc : ∀ j, j < zs.length → w.cell? ⟨b, off + j, none⟩ = some (.int .i64 (zs.getD j 0))) : Calls Try.prog 9 #[.agg #[.int .i64 k, .int .i64 op, .int .i64 cl, .int .i64 st, .int .i64 sp, .int .i64 ex, .int .i64 la, .int .i64 fl, .int .i64 fa, .int .i64 co, .int .i64 ru], .slice (some ⟨b, off, none⟩) zs.length cap] w fun e w' => e = .returned (Fin3 k op cl st sp ex la fl fa co ru zs) ∧ Below w.heap.size w w' := by
  go_enter Try.func9, Try.ntmps9
  go_wp2
  go_loopw [7, 8, 9, 10] (fun v7 v8 v9 v10 wr => ∃ n : Nat, n ≤ zs.length ∧ v10 = .int .i64 n ∧ v7 = .int .i64 (rW (tk k op cl st sp ex la fl fa co ru zs n).1) ∧ v8 = .int .i64 (tk k op cl st sp ex la fl fa co ru zs n).2 ∧ v9 = .bool (rA (tk k op cl st sp ex la fl fa co ru zs n).1) ∧ Below w.heap.size w wr ∧ (w.heap.size < wr.heap.size ∧ ∀ o, wr.cell? ⟨w.heap.size, o, none⟩ = (#[Value.int .i64 k, Value.int .i64 op, Value.int .i64 cl, Value.int .i64 st, Value.int .i64 sp, Value.int .i64 ex, Value.int .i64 la, Value.int .i64 fl, Value.int .i64 fa, Value.int .i64 co, Value.int .i64 ru] : Array Value)[o]?)) (fun _ _ _ v10 _ => zs.length - (intOf v10).toNat)
  case atStart => exact ⟨0, Nat.zero_le _, rfl, rfl, rfl, rfl, by (focus repeat' (first | (with_reducible exact Below.refl _ _) | (with_reducible assumption) | (with_reducible refine Below.alloc ?_ ?_ _) | (with_reducible refine Below.drew ?_) | (with_reducible refine bdrewN ?_ _) | (with_reducible refine Below.setCell ?_ ?_ _) | (first | (with_reducible exact Nat.le_refl _) | (with_reducible assumption) | omega | (simp; omega) | (simp; done)))), by simp, by intro o; simp⟩
  case round =>
    obtain ⟨n, hn, rfl, rfl, rfl, rfl, rB, rz, rc⟩ := hrel
    have inv := tk_inv k op cl st sp ex la fl fa co ru zs n
    by_cases hlt : n < zs.length
    · have hcell : wr.cell? ⟨b, off + n, none⟩ = some (.int .i64 (zs.getD n 0)) := (rB.cell (p := ⟨b, off + n, none⟩) hb).trans (hc n hlt)
      have hbr : b < wr.heap.size := by have := rB.size; omega
      clear hc
      have SB := hide (tk_bad k op cl st sp ex la fl fa co ru zs n)
      cases ef : firstL k op cl st sp ex la fl fa co ru (zs.getD n 0) with
      | none =>
        have S0 := hide (tk_step_none k op cl st sp ex la fl fa co ru zs n ef)
        generalize hx : zs.getD n 0 = x at *
        clear hx
        have T1 := hide (show Value.int .i64 (rW (tk k op cl st sp ex la fl fa co ru zs n).1) = .int .i64 (rW (tk k op cl st sp ex la fl fa co ru zs (n + 1)).1) ∧ Value.int .i64 (tk k op cl st sp ex la fl fa co ru zs n).2 = .int .i64 (tk k op cl st sp ex la fl fa co ru zs (n + 1)).2 ∧ Value.bool (rA (tk k op cl st sp ex la fl fa co ru zs n).1) = .bool (rA (tk k op cl st sp ex la fl fa co ru zs (n + 1)).1) from by rw [S0.out]; exact ⟨rfl, rfl, rfl⟩)
        have cs : x < 0 ∨ (0 ≤ x ∧ 1099511627776 < x) ∨ (0 ≤ x ∧ x ≤ 1099511627776) := by omega
        rcases cs with c1 | ⟨c1, c2⟩ | ⟨c1, c2⟩
        · have HB3 := rB
          have hz3_0 := rz
          have HC3_0 := rc
          clear rB rz rc
          go_wp2
          go_roundw
          case rel => exact ⟨n + 1, by omega, by go_num, T1.out.1, T1.out.2.1, T1.out.2.2, HB3, hz3_0, HC3_0⟩
          case measure => simp [intOf]; omega
        · have HB3 := rB
          have hz3_0 := rz
          have HC3_0 := rc
          clear rB rz rc
          have d2 : decide (x ≤ 1099511627776) = false := by rw [decide_eq_false_iff_not]; omega
          go_wp2
          go_roundw
          case rel => exact ⟨n + 1, by omega, by go_num, T1.out.1, T1.out.2.1, T1.out.2.2, HB3, hz3_0, HC3_0⟩
          case measure => simp [intOf]; omega
        · have d2 : decide (x ≤ 1099511627776) = true := by rw [decide_eq_true_eq]; exact c2
          go_upto_region 6 with go_in
          go_region_held3 (fun wq => Below w.heap.size w wq ∧ (w.heap.size < wq.heap.size ∧ ∀ o, wq.cell? ⟨w.heap.size, o, none⟩ = (#[Value.int .i64 k, Value.int .i64 op, Value.int .i64 cl, Value.int .i64 st, Value.int .i64 sp, Value.int .i64 ex, Value.int .i64 la, Value.int .i64 fl, Value.int .i64 fa, Value.int .i64 co, Value.int .i64 ru] : Array Value)[o]?) ∧ (b < wq.heap.size ∧ wq.cell? ⟨b, off + n, none⟩ = some (.int .i64 x))) (((try go_split_ands); refine ⟨?_, ⟨?_, ?_⟩, ?_, ?_⟩; (focus (first | (with_reducible assumption) | (focus repeat' (first | (with_reducible exact Below.refl _ _) | (with_reducible assumption) | (with_reducible refine Below.alloc ?_ ?_ _) | (with_reducible refine Below.drew ?_) | (with_reducible refine bdrewN ?_ _) | (with_reducible refine Below.setCell ?_ ?_ _) | (first | (with_reducible exact Nat.le_refl _) | (with_reducible assumption) | omega | (simp; omega) | (simp; done)))))); (focus (first | (with_reducible assumption) | (simp; done) | omega | (simp; omega))); (focus (first | (with_reducible assumption) | (intro o; simp [go_sem, *]; done))); (focus (first | (with_reducible assumption) | (simp; done) | omega | (simp; omega))); (focus (first | (with_reducible assumption) | (simp [go_sem, *]; done)))))
            (first | (go_at_call 29; (apply Calls.mono; focus ((apply rFirst_none' <;> (first | (with_reducible assumption) | (with_reducible rfl) | omega)); done)); rintro e w3 ⟨rfl, hb3⟩; (try go_split_ands); have HB3 : Below w.heap.size w w3 := bstep (by with_reducible assumption) hb3; have hz3 := hb3.size; (try simp only [World.size_drew, World.size_alloc] at hz3); (have hz3_0 : w.heap.size < w3.heap.size := by omega); (have hy3 : b < w3.heap.size := by omega); obtain ⟨hc3, hf3⟩ := bcell hb3; (try simp only [World.size_drew, World.size_alloc, World.cell?_drew, World.frozen?_drew] at hc3 hf3); (have HC3_0 : ∀ o, w3.cell? ⟨w.heap.size, o, none⟩ = (#[Value.int .i64 k, Value.int .i64 op, Value.int .i64 cl, Value.int .i64 st, Value.int .i64 sp, Value.int .i64 ex, Value.int .i64 la, Value.int .i64 fl, Value.int .i64 fa, Value.int .i64 co, Value.int .i64 ru] : Array Value)[o]? := by (intro o; simp [go_sem, *])); (have HX3 : w3.cell? ⟨b, off + n, none⟩ = some (.int .i64 x) := by (simp [go_sem, *]))))
          clear hb3 hz3 hc3 hf3
          go_wp2
          go_roundw
          case rel => exact ⟨n + 1, by omega, by go_num, T1.out.1, T1.out.2.1, T1.out.2.2, HB3, hz3_0, HC3_0⟩
          case measure => simp [intOf]; omega
      | some t =>
        have SN := hide (tk_step_no k op cl st sp ex la fl fa co ru zs n t ef)
        have SY := hide (tk_step_yes k op cl st sp ex la fl fa co ru zs n t ef)
        generalize hx : zs.getD n 0 = x at *
        clear hx
        have inv2 : ((tk k op cl st sp ex la fl fa co ru zs n).1 < 0 ∧ (tk k op cl st sp ex la fl fa co ru zs n).1 = -1) ∨ 0 ≤ (tk k op cl st sp ex la fl fa co ru zs n).1 := by
          rcases inv with h | h
          · left; rw [h]; exact ⟨by decide, rfl⟩
          · exact .inr h.1
        clear inv
        have hv9 : (tk k op cl st sp ex la fl fa co ru zs n).1 < 0 → rA (tk k op cl st sp ex la fl fa co ru zs n).1 = false := fun h => by (unfold rA; rw [decide_eq_false_iff_not]; omega)
        have hv9' : 0 ≤ (tk k op cl st sp ex la fl fa co ru zs n).1 → rA (tk k op cl st sp ex la fl fa co ru zs n).1 = true := fun h => by (unfold rA; rw [decide_eq_true_eq]; exact h)
        have stay : ∀ B : Bool, rA (tk k op cl st sp ex la fl fa co ru zs n).1 = B → tk k op cl st sp ex la fl fa co ru zs (n + 1) = tk k op cl st sp ex la fl fa co ru zs n → Value.int .i64 (rW (tk k op cl st sp ex la fl fa co ru zs n).1) = .int .i64 (rW (tk k op cl st sp ex la fl fa co ru zs (n + 1)).1) ∧ Value.int .i64 (tk k op cl st sp ex la fl fa co ru zs n).2 = .int .i64 (tk k op cl st sp ex la fl fa co ru zs (n + 1)).2 ∧ Value.bool B = .bool (rA (tk k op cl st sp ex la fl fa co ru zs (n + 1)).1) := fun B hB h => by (rw [h, hB]; exact ⟨rfl, rfl, rfl⟩)
        have take : tk k op cl st sp ex la fl fa co ru zs (n + 1) = ((n : Int), t) → Value.int .i64 n = .int .i64 (rW (tk k op cl st sp ex la fl fa co ru zs (n + 1)).1) ∧ Value.int .i64 t = .int .i64 (tk k op cl st sp ex la fl fa co ru zs (n + 1)).2 ∧ Value.bool true = .bool (rA (tk k op cl st sp ex la fl fa co ru zs (n + 1)).1) := fun h => by
          rw [h]
          refine ⟨?_, rfl, ?_⟩
          · show Value.int .i64 n = .int .i64 (rW n)
            unfold rW; rw [if_neg (by omega)]
          · show Value.bool true = .bool (rA n)
            unfold rA; rw [decide_eq_true (by omega)]
        by_cases hq : (tk k op cl st sp ex la fl fa co ru zs n).1 < 0
        · have hA := hv9 hq
          have T0 := fun h => hide (stay false hA h)
          have TT := fun h => hide (take (SY.out h))
          have TB := fun h => hide (stay false hA (SB.out h))
          clear hv9 hv9' stay take
          have cs : x < 0 ∨ (0 ≤ x ∧ 1099511627776 < x) ∨ (0 ≤ x ∧ x ≤ 1099511627776) := by omega
          rcases cs with c1 | ⟨c1, c2⟩ | ⟨c1, c2⟩
          · have T1 := TB (by omega)
            clear T0 TT TB SN SY SB
            rw [hA]
            clear hA inv2 hq
            generalize (tk k op cl st sp ex la fl fa co ru zs n).1 = q1 at *
            generalize (tk k op cl st sp ex la fl fa co ru zs n).2 = q2 at *
            have HB3 := rB
            have hz3_0 := rz
            have HC3_0 := rc
            clear rB rz rc
            go_wp2
            go_roundw
            case rel => exact ⟨n + 1, by omega, by go_num, T1.out.1, T1.out.2.1, T1.out.2.2, HB3, hz3_0, HC3_0⟩
            case measure => simp [intOf]; omega
          · have T1 := TB (by omega)
            clear T0 TT TB SN SY SB
            rw [hA]
            clear hA inv2 hq
            generalize (tk k op cl st sp ex la fl fa co ru zs n).1 = q1 at *
            generalize (tk k op cl st sp ex la fl fa co ru zs n).2 = q2 at *
            have HB3 := rB
            have hz3_0 := rz
            have HC3_0 := rc
            clear rB rz rc
            have d2 : decide (x ≤ 1099511627776) = false := by rw [decide_eq_false_iff_not]; omega
            go_wp2
            go_roundw
            case rel => exact ⟨n + 1, by omega, by go_num, T1.out.1, T1.out.2.1, T1.out.2.2, HB3, hz3_0, HC3_0⟩
            case measure => simp [intOf]; omega
          · have T1 := TT ⟨c1, c2, .inl hq⟩
            clear T0 TT TB SN SY SB
            rw [hA]
            clear hA inv2 hq
            generalize (tk k op cl st sp ex la fl fa co ru zs n).1 = q1 at *
            generalize (tk k op cl st sp ex la fl fa co ru zs n).2 = q2 at *
            have d2 : decide (x ≤ 1099511627776) = true := by rw [decide_eq_true_eq]; exact c2
            go_upto_region 6 with go_in
            go_region_held3 (fun wq => Below w.heap.size w wq ∧ (w.heap.size < wq.heap.size ∧ ∀ o, wq.cell? ⟨w.heap.size, o, none⟩ = (#[Value.int .i64 k, Value.int .i64 op, Value.int .i64 cl, Value.int .i64 st, Value.int .i64 sp, Value.int .i64 ex, Value.int .i64 la, Value.int .i64 fl, Value.int .i64 fa, Value.int .i64 co, Value.int .i64 ru] : Array Value)[o]?) ∧ (b < wq.heap.size ∧ wq.cell? ⟨b, off + n, none⟩ = some (.int .i64 x))) (((try go_split_ands); refine ⟨?_, ⟨?_, ?_⟩, ?_, ?_⟩; (focus (first | (with_reducible assumption) | (focus repeat' (first | (with_reducible exact Below.refl _ _) | (with_reducible assumption) | (with_reducible refine Below.alloc ?_ ?_ _) | (with_reducible refine Below.drew ?_) | (with_reducible refine bdrewN ?_ _) | (with_reducible refine Below.setCell ?_ ?_ _) | (first | (with_reducible exact Nat.le_refl _) | (with_reducible assumption) | omega | (simp; omega) | (simp; done)))))); (focus (first | (with_reducible assumption) | (simp; done) | omega | (simp; omega))); (focus (first | (with_reducible assumption) | (intro o; simp [go_sem, *]; done))); (focus (first | (with_reducible assumption) | (simp; done) | omega | (simp; omega))); (focus (first | (with_reducible assumption) | (simp [go_sem, *]; done)))))
              (first | (go_at_call 29; (apply Calls.mono; focus ((apply rFirst_some' <;> (first | (with_reducible assumption) | (with_reducible rfl) | omega)); done)); rintro e w3 ⟨rfl, hb3⟩; (try go_split_ands); have HB3 : Below w.heap.size w w3 := bstep (by with_reducible assumption) hb3; have hz3 := hb3.size; (try simp only [World.size_drew, World.size_alloc] at hz3); (have hz3_0 : w.heap.size < w3.heap.size := by omega); (have hy3 : b < w3.heap.size := by omega); obtain ⟨hc3, hf3⟩ := bcell hb3; (try simp only [World.size_drew, World.size_alloc, World.cell?_drew, World.frozen?_drew] at hc3 hf3); (have HC3_0 : ∀ o, w3.cell? ⟨w.heap.size, o, none⟩ = (#[Value.int .i64 k, Value.int .i64 op, Value.int .i64 cl, Value.int .i64 st, Value.int .i64 sp, Value.int .i64 ex, Value.int .i64 la, Value.int .i64 fl, Value.int .i64 fa, Value.int .i64 co, Value.int .i64 ru] : Array Value)[o]? := by (intro o; simp [go_sem, *])); (have HX3 : w3.cell? ⟨b, off + n, none⟩ = some (.int .i64 x) := by (simp [go_sem, *]))))
            clear hb3 hz3 hc3 hf3
            go_wp2
            go_roundw
            case rel => exact ⟨n + 1, by omega, by go_num, T1.out.1, T1.out.2.1, T1.out.2.2, HB3, hz3_0, HC3_0⟩
            case measure => simp [intOf]; omega
        · have hq' : 0 ≤ (tk k op cl st sp ex la fl fa co ru zs n).1 := by omega
          have hA := hv9' hq'
          have TT := fun h => hide (take (SY.out h))
          have TS := fun h => hide (stay true hA (SN.out h))
          have TB := fun h => hide (stay true hA (SB.out h))
          clear hv9 hv9' stay take
          have cs : x < 0 ∨ (0 ≤ x ∧ 1099511627776 < x) ∨ (0 ≤ x ∧ x ≤ 1099511627776 ∧ t < (tk k op cl st sp ex la fl fa co ru zs n).2) ∨ (0 ≤ x ∧ x ≤ 1099511627776 ∧ (tk k op cl st sp ex la fl fa co ru zs n).2 ≤ t) := by omega
          rcases cs with c1 | ⟨c1, c2⟩ | ⟨c1, c2, c3⟩ | ⟨c1, c2, c3⟩
          · have T1 := TB (by omega)
            clear TS TT TB SN SY SB
            rw [hA]
            clear hA inv2 hq hq'
            generalize (tk k op cl st sp ex la fl fa co ru zs n).1 = q1 at *
            generalize (tk k op cl st sp ex la fl fa co ru zs n).2 = q2 at *
            have HB3 := rB
            have hz3_0 := rz
            have HC3_0 := rc
            clear rB rz rc
            go_wp2
            go_roundw
            case rel => exact ⟨n + 1, by omega, by go_num, T1.out.1, T1.out.2.1, T1.out.2.2, HB3, hz3_0, HC3_0⟩
            case measure => simp [intOf]; omega
          · have T1 := TB (by omega)
            clear TS TT TB SN SY SB
            rw [hA]
            clear hA inv2 hq hq'
            generalize (tk k op cl st sp ex la fl fa co ru zs n).1 = q1 at *
            generalize (tk k op cl st sp ex la fl fa co ru zs n).2 = q2 at *
            have HB3 := rB
            have hz3_0 := rz
            have HC3_0 := rc
            clear rB rz rc
            have d2 : decide (x ≤ 1099511627776) = false := by rw [decide_eq_false_iff_not]; omega
            go_wp2
            go_roundw
            case rel => exact ⟨n + 1, by omega, by go_num, T1.out.1, T1.out.2.1, T1.out.2.2, HB3, hz3_0, HC3_0⟩
            case measure => simp [intOf]; omega
          · have T1 := TT ⟨c1, c2, .inr c3⟩
            clear TS TT TB SN SY SB
            rw [hA]
            clear hA inv2 hq hq'
            generalize (tk k op cl st sp ex la fl fa co ru zs n).1 = q1 at *
            generalize (tk k op cl st sp ex la fl fa co ru zs n).2 = q2 at *
            have d2 : decide (x ≤ 1099511627776) = true := by rw [decide_eq_true_eq]; exact c2
            have d3 : decide (t < q2) = true := by rw [decide_eq_true_eq]; exact c3
            go_upto_region 6 with go_in
            go_region_held3 (fun wq => Below w.heap.size w wq ∧ (w.heap.size < wq.heap.size ∧ ∀ o, wq.cell? ⟨w.heap.size, o, none⟩ = (#[Value.int .i64 k, Value.int .i64 op, Value.int .i64 cl, Value.int .i64 st, Value.int .i64 sp, Value.int .i64 ex, Value.int .i64 la, Value.int .i64 fl, Value.int .i64 fa, Value.int .i64 co, Value.int .i64 ru] : Array Value)[o]?) ∧ (b < wq.heap.size ∧ wq.cell? ⟨b, off + n, none⟩ = some (.int .i64 x))) (((try go_split_ands); refine ⟨?_, ⟨?_, ?_⟩, ?_, ?_⟩; (focus (first | (with_reducible assumption) | (focus repeat' (first | (with_reducible exact Below.refl _ _) | (with_reducible assumption) | (with_reducible refine Below.alloc ?_ ?_ _) | (with_reducible refine Below.drew ?_) | (with_reducible refine bdrewN ?_ _) | (with_reducible refine Below.setCell ?_ ?_ _) | (first | (with_reducible exact Nat.le_refl _) | (with_reducible assumption) | omega | (simp; omega) | (simp; done)))))); (focus (first | (with_reducible assumption) | (simp; done) | omega | (simp; omega))); (focus (first | (with_reducible assumption) | (intro o; simp [go_sem, *]; done))); (focus (first | (with_reducible assumption) | (simp; done) | omega | (simp; omega))); (focus (first | (with_reducible assumption) | (simp [go_sem, *]; done)))))
              (first | (go_at_call 29; (apply Calls.mono; focus ((apply rFirst_some' <;> (first | (with_reducible assumption) | (with_reducible rfl) | omega)); done)); rintro e w3 ⟨rfl, hb3⟩; (try go_split_ands); have HB3 : Below w.heap.size w w3 := bstep (by with_reducible assumption) hb3; have hz3 := hb3.size; (try simp only [World.size_drew, World.size_alloc] at hz3); (have hz3_0 : w.heap.size < w3.heap.size := by omega); (have hy3 : b < w3.heap.size := by omega); obtain ⟨hc3, hf3⟩ := bcell hb3; (try simp only [World.size_drew, World.size_alloc, World.cell?_drew, World.frozen?_drew] at hc3 hf3); (have HC3_0 : ∀ o, w3.cell? ⟨w.heap.size, o, none⟩ = (#[Value.int .i64 k, Value.int .i64 op, Value.int .i64 cl, Value.int .i64 st, Value.int .i64 sp, Value.int .i64 ex, Value.int .i64 la, Value.int .i64 fl, Value.int .i64 fa, Value.int .i64 co, Value.int .i64 ru] : Array Value)[o]? := by (intro o; simp [go_sem, *])); (have HX3 : w3.cell? ⟨b, off + n, none⟩ = some (.int .i64 x) := by (simp [go_sem, *]))))
            clear hb3 hz3 hc3 hf3
            go_wp2
            go_roundw
            case rel => exact ⟨n + 1, by omega, by go_num, T1.out.1, T1.out.2.1, T1.out.2.2, HB3, hz3_0, HC3_0⟩
            case measure => simp [intOf]; omega
          · have T1 := TS (by omega)
            clear TS TT TB SN SY SB
            rw [hA]
            clear hA inv2 hq hq'
            generalize (tk k op cl st sp ex la fl fa co ru zs n).1 = q1 at *
            generalize (tk k op cl st sp ex la fl fa co ru zs n).2 = q2 at *
            have d2 : decide (x ≤ 1099511627776) = true := by rw [decide_eq_true_eq]; exact c2
            have d3 : decide (t < q2) = false := by rw [decide_eq_false_iff_not]; omega
            go_upto_region 6 with go_in
            go_region_held3 (fun wq => Below w.heap.size w wq ∧ (w.heap.size < wq.heap.size ∧ ∀ o, wq.cell? ⟨w.heap.size, o, none⟩ = (#[Value.int .i64 k, Value.int .i64 op, Value.int .i64 cl, Value.int .i64 st, Value.int .i64 sp, Value.int .i64 ex, Value.int .i64 la, Value.int .i64 fl, Value.int .i64 fa, Value.int .i64 co, Value.int .i64 ru] : Array Value)[o]?) ∧ (b < wq.heap.size ∧ wq.cell? ⟨b, off + n, none⟩ = some (.int .i64 x))) (((try go_split_ands); refine ⟨?_, ⟨?_, ?_⟩, ?_, ?_⟩; (focus (first | (with_reducible assumption) | (focus repeat' (first | (with_reducible exact Below.refl _ _) | (with_reducible assumption) | (with_reducible refine Below.alloc ?_ ?_ _) | (with_reducible refine Below.drew ?_) | (with_reducible refine bdrewN ?_ _) | (with_reducible refine Below.setCell ?_ ?_ _) | (first | (with_reducible exact Nat.le_refl _) | (with_reducible assumption) | omega | (simp; omega) | (simp; done)))))); (focus (first | (with_reducible assumption) | (simp; done) | omega | (simp; omega))); (focus (first | (with_reducible assumption) | (intro o; simp [go_sem, *]; done))); (focus (first | (with_reducible assumption) | (simp; done) | omega | (simp; omega))); (focus (first | (with_reducible assumption) | (simp [go_sem, *]; done)))))
              (first | (go_at_call 29; (apply Calls.mono; focus ((apply rFirst_some' <;> (first | (with_reducible assumption) | (with_reducible rfl) | omega)); done)); rintro e w3 ⟨rfl, hb3⟩; (try go_split_ands); have HB3 : Below w.heap.size w w3 := bstep (by with_reducible assumption) hb3; have hz3 := hb3.size; (try simp only [World.size_drew, World.size_alloc] at hz3); (have hz3_0 : w.heap.size < w3.heap.size := by omega); (have hy3 : b < w3.heap.size := by omega); obtain ⟨hc3, hf3⟩ := bcell hb3; (try simp only [World.size_drew, World.size_alloc, World.cell?_drew, World.frozen?_drew] at hc3 hf3); (have HC3_0 : ∀ o, w3.cell? ⟨w.heap.size, o, none⟩ = (#[Value.int .i64 k, Value.int .i64 op, Value.int .i64 cl, Value.int .i64 st, Value.int .i64 sp, Value.int .i64 ex, Value.int .i64 la, Value.int .i64 fl, Value.int .i64 fa, Value.int .i64 co, Value.int .i64 ru] : Array Value)[o]? := by (intro o; simp [go_sem, *])); (have HX3 : w3.cell? ⟨b, off + n, none⟩ = some (.int .i64 x) := by (simp [go_sem, *]))))
            clear hb3 hz3 hc3 hf3
            go_wp2
            go_roundw
            case rel => exact ⟨n + 1, by omega, by go_num, T1.out.1, T1.out.2.1, T1.out.2.2, HB3, hz3_0, HC3_0⟩
            case measure => simp [intOf]; omega
    · have hnz : n = zs.length := by omega
      subst hnz
      rcases inv with inv | ⟨i1, i2, i3, i4, i5⟩
      · have f1 : Fin3 k op cl st sp ex la fl fa co ru zs = .tuple #[.int .i64 0, .int .i64 0, .bool false] := by unfold Fin3; rw [inv]; rfl
        have F1 := hide f1
        have hA : rA (tk k op cl st sp ex la fl fa co ru zs zs.length).1 = false := by rw [inv]; rfl
        clear f1 inv
        rw [hA]
        clear hA
        generalize (tk k op cl st sp ex la fl fa co ru zs zs.length).1 = q1 at *
        generalize (tk k op cl st sp ex la fl fa co ru zs zs.length).2 = q2 at *
        go_wp2
        go_ret3
        exact ⟨(show Ending.returned (.tuple #[.int .i64 0, .int .i64 0, .bool false]) = .returned (Fin3 k op cl st sp ex la fl fa co ru zs) from by rw [F1.out]), rB⟩
      · have f1 : Fin3 k op cl st sp ex la fl fa co ru zs = .tuple #[.int .i64 (rW (tk k op cl st sp ex la fl fa co ru zs zs.length).1), .int .i64 (priceI op st fl fa (tk k op cl st sp ex la fl fa co ru zs zs.length).2), .bool true] := by unfold Fin3 rW; rw [if_neg (by omega), if_neg (by omega)]
        have F1 := hide f1
        have hA : rA (tk k op cl st sp ex la fl fa co ru zs zs.length).1 = true := by unfold rA; rw [decide_eq_true_eq]; exact i1
        clear f1
        rw [hA]
        clear hA
        have bb := bnd k op cl st sp ex la fl fa co ru i3
        generalize (tk k op cl st sp ex la fl fa co ru zs zs.length).1 = q1 at *
        generalize (tk k op cl st sp ex la fl fa co ru zs zs.length).2 = q2 at *
        obtain ⟨b1, b2, b3, b4, b5, b6, b7, b8, b9, b10, b11⟩ := bb
        have i6 : q2 ≤ 1099511627776 := by omega
        clear i1 i2
        go_wp2_with fail
        (apply Calls.mono; focus ((apply rprice_any <;> (first | (with_reducible assumption) | (with_reducible rfl) | omega)); done)); rintro e w3 ⟨rfl, hb3⟩
        have HB3 : Below w.heap.size w w3 := bstep (by (focus repeat' (first | (with_reducible exact Below.refl _ _) | (with_reducible assumption) | (with_reducible refine Below.alloc ?_ ?_ _) | (with_reducible refine Below.drew ?_) | (with_reducible refine bdrewN ?_ _) | (with_reducible refine Below.setCell ?_ ?_ _) | (first | (with_reducible exact Nat.le_refl _) | (with_reducible assumption) | omega | (simp; omega) | (simp; done))))) hb3
        go_wp2
        go_ret3
        exact ⟨(show Ending.returned (.tuple #[.int .i64 (rW q1), .int .i64 (priceI op st fl fa q2), .bool true]) = .returned (Fin3 k op cl st sp ex la fl fa co ru zs) from by rw [F1.out]), HB3⟩
end Go.Proofs.Ytiopohdhadilfaa
