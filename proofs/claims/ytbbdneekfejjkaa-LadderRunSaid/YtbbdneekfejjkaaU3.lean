import Derived.Test.YtbbdneekfejjkaaT9
import Derived.Deep.DeepCutAuto
namespace Go.Proofs.Ytbbdneekfejjkaa
open Go.ChangeShapes Go.WideShapes Go.ChangeAt Go.RowKit
set_option linter.unusedSimpArgs false
set_option linter.unusedVariables false

theorem bdrewN {B : Nat} {a w : World} (h : Below B a w) (n : Nat) : Below B a (w.drewN n) := ⟨h.os, h.tape, h.output, h.size, h.block⟩

set_option maxHeartbeats 1000000 in
theorem End_none (k op cl st sp ex la fl fa co ru ld li pr rc : Int) (w : World) (hl : ld < 0) : Calls Try.prog 17 #[.agg #[.int .i64 k, .int .i64 op, .int .i64 cl, .int .i64 st, .int .i64 sp, .int .i64 ex, .int .i64 la, .int .i64 fl, .int .i64 fa, .int .i64 co, .int .i64 ru], .agg #[.int .i64 ld, .int .i64 li, .int .i64 pr, .int .i64 rc]] w fun e w' => e = .returned (.tuple #[.int .i64 0, .int .i64 0, .bool false]) ∧ Below w.heap.size w w' := by
  go_enter Try.func17, Try.ntmps17
  go_wp2
  go_ret3
  exact ⟨rfl, by (focus repeat' (first | (with_reducible exact Below.refl _ _) | (with_reducible assumption) | (with_reducible refine Below.alloc ?_ ?_ _) | (with_reducible refine Below.drew ?_) | (with_reducible refine Below.setCell ?_ ?_ _) | (first | (with_reducible exact Nat.le_refl _) | (with_reducible assumption) | omega | (simp; omega) | (simp; done))))⟩

set_option maxHeartbeats 1000000 in
theorem End_no (k op cl st sp ex la fl fa co ru ld li pr rc : Int) (w : World) (h : ¬ (LotOK k op cl st sp ex la fl fa co ru ∧ RiseOK st cl la ld li pr rc)) : Calls Try.prog 17 #[.agg #[.int .i64 k, .int .i64 op, .int .i64 cl, .int .i64 st, .int .i64 sp, .int .i64 ex, .int .i64 la, .int .i64 fl, .int .i64 fa, .int .i64 co, .int .i64 ru], .agg #[.int .i64 ld, .int .i64 li, .int .i64 pr, .int .i64 rc]] w fun e w' => e = .returned (.tuple #[.int .i64 0, .int .i64 0, .bool false]) ∧ Below w.heap.size w w' := by
  by_cases hl : ld < 0
  · exact End_none _ _ _ _ _ _ _ _ _ _ _ _ _ _ _ w hl
  · have hl2 : 0 ≤ ld := by omega
    go_enter Try.func17, Try.ntmps17
    go_wp2_with fail
    (apply Calls.mono; focus ((apply right_wrong <;> (first | (with_reducible assumption) | (with_reducible rfl) | omega)); done)); rintro e w1 ⟨rfl, hb1⟩
    have B1 : Below w.heap.size w w1 := (((Below.refl w.heap.size w).alloc (Nat.le_refl _) _).alloc (by (first | (with_reducible exact Nat.le_refl _) | (with_reducible assumption) | omega | (simp; omega) | (simp; done))) _).trans (hb1.mono (by simp; omega))
    have hz1_1 : w.heap.size + 1 < w1.heap.size := by have := hb1.size; simp at this; omega
    have hz1_0 : w.heap.size < w1.heap.size := by have := hb1.size; simp at this; omega
    obtain ⟨hc1, hf1⟩ := bcell hb1
    clear hb1
    go_wp2
    go_ret3
    exact ⟨rfl, by (focus repeat' (first | (with_reducible exact Below.refl _ _) | (with_reducible assumption) | (with_reducible refine Below.alloc ?_ ?_ _) | (with_reducible refine Below.drew ?_) | (with_reducible refine Below.setCell ?_ ?_ _) | (first | (with_reducible exact Nat.le_refl _) | (with_reducible assumption) | omega | (simp; omega) | (simp; done))))⟩

set_option maxHeartbeats 1000000 in
theorem End_yes (k op cl st sp ex la fl fa co ru ld li pr rc : Int) (w : World) (h : LotOK k op cl st sp ex la fl fa co ru) (hr : RiseOK st cl la ld li pr rc) (hl : 0 ≤ ld) : Calls Try.prog 17 #[.agg #[.int .i64 k, .int .i64 op, .int .i64 cl, .int .i64 st, .int .i64 sp, .int .i64 ex, .int .i64 la, .int .i64 fl, .int .i64 fa, .int .i64 co, .int .i64 ru], .agg #[.int .i64 ld, .int .i64 li, .int .i64 pr, .int .i64 rc]] w fun e w' => e = .returned (.tuple #[.int .i64 ld, .int .i64 pr, .bool true]) ∧ Below w.heap.size w w' := by
  go_enter Try.func17, Try.ntmps17
  go_wp2_with fail
  (apply Calls.mono; focus ((apply right_yes <;> (first | (with_reducible assumption) | (with_reducible rfl) | omega)); done)); rintro e w1 ⟨rfl, hb1⟩
  have B1 : Below w.heap.size w w1 := (((Below.refl w.heap.size w).alloc (Nat.le_refl _) _).alloc (by (first | (with_reducible exact Nat.le_refl _) | (with_reducible assumption) | omega | (simp; omega) | (simp; done))) _).trans (hb1.mono (by simp; omega))
  have hz1_1 : w.heap.size + 1 < w1.heap.size := by have := hb1.size; simp at this; omega
  have hz1_0 : w.heap.size < w1.heap.size := by have := hb1.size; simp at this; omega
  obtain ⟨hc1, hf1⟩ := bcell hb1
  clear hb1
  go_wp2
  go_quiet (fail)
  go_wp2
  go_ret3
  exact ⟨rfl, bdrewN B1 _⟩

theorem lotE : LotOK 1 0 100 10 5 10 200 0 0 0 0 := by unfold LotOK; omega
theorem riseE : RiseOK 10 100 200 (-1) 0 0 100 := by unfold RiseOK; omega
theorem riseF : RiseOK 10 100 200 1 30 10 100 := by unfold RiseOK; omega

theorem lot_any (w : World) : Calls Try.prog 22 #[] w fun e w' => e = .returned (.agg #[.int .i64 1, .int .i64 0, .int .i64 100, .int .i64 10, .int .i64 5, .int .i64 10, .int .i64 200, .int .i64 0, .int .i64 0, .int .i64 0, .int .i64 0]) ∧ Below w.heap.size w w' := by
  go_enter Try.func22, Try.ntmps22
  go_wp2
  refine bodyPost_ret (v := .agg #[.int .i64 1, .int .i64 0, .int .i64 100, .int .i64 10, .int .i64 5, .int .i64 10, .int .i64 200, .int .i64 0, .int .i64 0, .int .i64 0, .int .i64 0]) (by simp [results, Try.results22, go_sem]) rfl ⟨rfl, by (focus repeat' (first | (with_reducible exact Below.refl _ _) | (with_reducible assumption) | (with_reducible refine Below.alloc ?_ ?_ _) | (with_reducible refine Below.drew ?_) | (with_reducible refine Below.setCell ?_ ?_ _) | (first | (with_reducible exact Nat.le_refl _) | (with_reducible assumption) | omega | (simp; omega) | (simp; done))))⟩
theorem beginE (w : World) : Calls Try.prog 8 #[.agg #[.int .i64 1, .int .i64 0, .int .i64 100, .int .i64 10, .int .i64 5, .int .i64 10, .int .i64 200, .int .i64 0, .int .i64 0, .int .i64 0, .int .i64 0]] w fun e w' => e = .returned (.tuple #[.agg #[.int .i64 (-1), .int .i64 0, .int .i64 0, .int .i64 100], .int .i64 0]) ∧ Below w.heap.size w w' := begin_ok _ _ _ _ _ _ _ _ _ _ _ w lotE
theorem bidE (w : World) : Calls Try.prog 9 #[.agg #[.int .i64 1, .int .i64 0, .int .i64 100, .int .i64 10, .int .i64 5, .int .i64 10, .int .i64 200, .int .i64 0, .int .i64 0, .int .i64 0, .int .i64 0], .agg #[.int .i64 (-1), .int .i64 0, .int .i64 0, .int .i64 100], .agg #[.int .i64 1, .int .i64 30, .int .i64 30, .int .i64 0]] w fun e w' => e = .returned (.tuple #[.agg #[.int .i64 1, .int .i64 30, .int .i64 10, .int .i64 100], .int .i64 0]) ∧ Below w.heap.size w w' :=
  (Bid_ok _ _ _ _ _ _ _ _ _ _ _ _ _ _ _ _ _ _ _ w lotE riseE (by decide) (by decide)).mono fun _ _ ⟨a, b⟩ => ⟨by rw [a]; rfl, b⟩
theorem bidF (w : World) : Calls Try.prog 9 #[.agg #[.int .i64 1, .int .i64 0, .int .i64 100, .int .i64 10, .int .i64 5, .int .i64 10, .int .i64 200, .int .i64 0, .int .i64 0, .int .i64 0, .int .i64 0], .agg #[.int .i64 1, .int .i64 30, .int .i64 10, .int .i64 100], .agg #[.int .i64 2, .int .i64 30, .int .i64 99, .int .i64 95]] w fun e w' => e = .returned (.tuple #[.agg #[.int .i64 1, .int .i64 30, .int .i64 30, .int .i64 105], .int .i64 0]) ∧ Below w.heap.size w w' :=
  (Bid_ok _ _ _ _ _ _ _ _ _ _ _ _ _ _ _ _ _ _ _ w lotE riseF (by decide) (by decide)).mono fun _ _ ⟨a, b⟩ => ⟨by rw [a]; rfl, b⟩

theorem bstep {w W W' : World} (h : Below w.heap.size w W) (hb : Below W.heap.size W W') : Below w.heap.size w W' := h.trans (hb.mono h.size)
set_option maxHeartbeats 1000000 in
theorem known_any (w : World) : Calls Try.prog 7 #[] w fun e w' => e = .returned (.bool true) ∧ Below w.heap.size w w' := by
  go_enter Try.func7, Try.ntmps7
  go_wp2_with fail
  (apply Calls.mono; focus ((apply lot_any <;> (first | (with_reducible assumption) | (with_reducible rfl) | omega)); done)); rintro e w1 ⟨rfl, hb1⟩
  go_wp2_with fail
  (apply Calls.mono; focus ((apply beginE <;> (first | (with_reducible assumption) | (with_reducible rfl) | omega)); done)); rintro e w2 ⟨rfl, hb2⟩
  have B2 : Below w.heap.size w w2 := hb1.trans (hb2.mono hb1.size)
  have z2 : w.heap.size ≤ w2.heap.size := B2.size
  clear hb1 hb2
  go_upto_region 2 with fail
  go_cut [3, 4] (fun s3 s4 wx => ∃ b3, s3 = .pointer (some ⟨b3, 0, none⟩) ∧ s4 = .int .i64 0 ∧ Below w.heap.size w wx ∧ (w2.heap.size < wx.heap.size ∧ ∀ o, wx.cell? ⟨w2.heap.size, o, none⟩ = (#[Value.int .i64 (-1), Value.int .i64 0, Value.int .i64 0, Value.int .i64 100] : Array Value)[o]?) ∧ (b3 < wx.heap.size ∧ ∀ o, wx.cell? ⟨b3, o, none⟩ = (#[Value.int .i64 1, Value.int .i64 30, Value.int .i64 10, Value.int .i64 100] : Array Value)[o]?))
  case first =>
    go_region_held3 (fun w' => Below w.heap.size w w' ∧ (w2.heap.size < w'.heap.size ∧ ∀ o, w'.cell? ⟨w2.heap.size, o, none⟩ = (#[Value.int .i64 (-1), Value.int .i64 0, Value.int .i64 0, Value.int .i64 100] : Array Value)[o]?)) (((try go_split_ands); refine ⟨?_, ⟨?_, ?_⟩⟩; (focus (first | (focus repeat' (first | (with_reducible exact Below.refl _ _) | (with_reducible assumption) | (with_reducible refine Below.alloc ?_ ?_ _) | (with_reducible refine Below.drew ?_) | (with_reducible refine Below.setCell ?_ ?_ _) | (first | (with_reducible exact Nat.le_refl _) | (with_reducible assumption) | omega | (simp; omega) | (simp; done)))))); (focus (first | (with_reducible assumption) | (simp; done) | omega | (simp; omega))); (focus (first | (with_reducible assumption) | (intro o; simp [go_sem, *]; done)))))
      (first | (go_at_call 22; (apply Calls.mono; focus ((apply lot_any <;> (first | (with_reducible assumption) | (with_reducible rfl) | omega)); done)); rintro e w3 ⟨rfl, hb3⟩; (try go_split_ands); have HB3 : Below w.heap.size w w3 := bstep (by with_reducible assumption) hb3; have hz3 := hb3.size; (try simp only [World.size_drew, World.size_alloc] at hz3); (have hz3_0 : w2.heap.size < w3.heap.size := by omega); (try have hy3_0 : w2.heap.size + 1 < w3.heap.size := by omega); obtain ⟨hc3, hf3⟩ := bcell hb3; (try simp only [World.size_drew, World.size_alloc, World.cell?_drew, World.frozen?_drew] at hc3 hf3); (have HC3_0 : ∀ o, w3.cell? ⟨w2.heap.size, o, none⟩ = (#[Value.int .i64 (-1), Value.int .i64 0, Value.int .i64 0, Value.int .i64 100] : Array Value)[o]? := by (intro o; simp [go_sem, *]))) | (go_at_call 9; (apply Calls.mono; focus ((apply bidE <;> (first | (with_reducible assumption) | (with_reducible rfl) | omega)); done)); rintro e w4 ⟨rfl, hb4⟩; (try go_split_ands); have HB4 : Below w.heap.size w w4 := bstep (by with_reducible assumption) hb4; have hz4 := hb4.size; (try simp only [World.size_drew, World.size_alloc] at hz4); (have hz4_0 : w2.heap.size < w4.heap.size := by omega); (try have hy4_0 : w2.heap.size + 1 < w4.heap.size := by omega); obtain ⟨hc4, hf4⟩ := bcell hb4; (try simp only [World.size_drew, World.size_alloc, World.cell?_drew, World.frozen?_drew] at hc4 hf4); (have HC4_0 : ∀ o, w4.cell? ⟨w2.heap.size, o, none⟩ = (#[Value.int .i64 (-1), Value.int .i64 0, Value.int .i64 0, Value.int .i64 100] : Array Value)[o]? := by (intro o; simp [go_sem, *]))))
    all_goals
      go_wp2_with fail
      go_meet
      refine ⟨_, rfl, rfl, by (focus repeat' (first | (with_reducible exact Below.refl _ _) | (with_reducible assumption) | (with_reducible refine Below.alloc ?_ ?_ _) | (with_reducible refine Below.drew ?_) | (with_reducible refine Below.setCell ?_ ?_ _) | (first | (with_reducible exact Nat.le_refl _) | (with_reducible assumption) | omega | (simp; omega) | (simp; done)))), ⟨?_, ?_⟩, ⟨?_, ?_⟩⟩
      · (first | (simp; done) | omega | (simp; omega))
      · (intro o; simp [go_sem, *]; done)
      · (first | (simp; done) | omega | (simp; omega))
      · (intro o; (first | (simp [go_sem, *]; done) | (rcases o with _ | _ | _ | _ | o <;> (simp [go_sem, *]; done))))
  case rest =>
    obtain ⟨b3, rfl, rfl, B3, ⟨z0, c0⟩, z3, c3⟩ := hcut
    go_upto_region 3 with fail
    go_cut [5, 6] (fun s5 s6 wx => ∃ b5, s5 = .pointer (some ⟨b5, 0, none⟩) ∧ s6 = .int .i64 0 ∧ Below w.heap.size w wx ∧ (w2.heap.size < wx.heap.size ∧ ∀ o, wx.cell? ⟨w2.heap.size, o, none⟩ = (#[Value.int .i64 (-1), Value.int .i64 0, Value.int .i64 0, Value.int .i64 100] : Array Value)[o]?) ∧ (b3 < wx.heap.size ∧ ∀ o, wx.cell? ⟨b3, o, none⟩ = (#[Value.int .i64 1, Value.int .i64 30, Value.int .i64 10, Value.int .i64 100] : Array Value)[o]?) ∧ (b5 < wx.heap.size ∧ ∀ o, wx.cell? ⟨b5, o, none⟩ = (#[Value.int .i64 1, Value.int .i64 30, Value.int .i64 30, Value.int .i64 105] : Array Value)[o]?))
    case first =>
      go_region_held3 (fun w' => Below w.heap.size w w' ∧ (w2.heap.size < w'.heap.size ∧ ∀ o, w'.cell? ⟨w2.heap.size, o, none⟩ = (#[Value.int .i64 (-1), Value.int .i64 0, Value.int .i64 0, Value.int .i64 100] : Array Value)[o]?) ∧ (b3 < w'.heap.size ∧ ∀ o, w'.cell? ⟨b3, o, none⟩ = (#[Value.int .i64 1, Value.int .i64 30, Value.int .i64 10, Value.int .i64 100] : Array Value)[o]?)) (((try go_split_ands); refine ⟨?_, ⟨?_, ?_⟩, ⟨?_, ?_⟩⟩; (focus (first | (focus repeat' (first | (with_reducible exact Below.refl _ _) | (with_reducible assumption) | (with_reducible refine Below.alloc ?_ ?_ _) | (with_reducible refine Below.drew ?_) | (with_reducible refine Below.setCell ?_ ?_ _) | (first | (with_reducible exact Nat.le_refl _) | (with_reducible assumption) | omega | (simp; omega) | (simp; done)))))); (focus (first | (with_reducible assumption) | (simp; done) | omega | (simp; omega))); (focus (first | (with_reducible assumption) | (intro o; simp [go_sem, *]; done))); (focus (first | (with_reducible assumption) | (simp; done) | omega | (simp; omega))); (focus (first | (with_reducible assumption) | (intro o; simp [go_sem, *]; done)))))
        (first | (go_at_call 22; (apply Calls.mono; focus ((apply lot_any <;> (first | (with_reducible assumption) | (with_reducible rfl) | omega)); done)); rintro e w5 ⟨rfl, hb5⟩; (try go_split_ands); have HB5 : Below w.heap.size w w5 := bstep (by with_reducible assumption) hb5; have hz5 := hb5.size; (try simp only [World.size_drew, World.size_alloc] at hz5); (have hz5_0 : w2.heap.size < w5.heap.size := by omega); (have hz5_1 : b3 < w5.heap.size := by omega); (try have hy5_0 : wc.heap.size < w5.heap.size := by omega); obtain ⟨hc5, hf5⟩ := bcell hb5; (try simp only [World.size_drew, World.size_alloc, World.cell?_drew, World.frozen?_drew] at hc5 hf5); (have HC5_0 : ∀ o, w5.cell? ⟨w2.heap.size, o, none⟩ = (#[Value.int .i64 (-1), Value.int .i64 0, Value.int .i64 0, Value.int .i64 100] : Array Value)[o]? := by (intro o; simp [go_sem, *])); (have HC5_1 : ∀ o, w5.cell? ⟨b3, o, none⟩ = (#[Value.int .i64 1, Value.int .i64 30, Value.int .i64 10, Value.int .i64 100] : Array Value)[o]? := by (intro o; simp [go_sem, *]))) | (go_at_call 9; (apply Calls.mono; focus ((apply bidF <;> (first | (with_reducible assumption) | (with_reducible rfl) | omega)); done)); rintro e w6 ⟨rfl, hb6⟩; (try go_split_ands); have HB6 : Below w.heap.size w w6 := bstep (by with_reducible assumption) hb6; have hz6 := hb6.size; (try simp only [World.size_drew, World.size_alloc] at hz6); (have hz6_0 : w2.heap.size < w6.heap.size := by omega); (have hz6_1 : b3 < w6.heap.size := by omega); (try have hy6_0 : wc.heap.size < w6.heap.size := by omega); obtain ⟨hc6, hf6⟩ := bcell hb6; (try simp only [World.size_drew, World.size_alloc, World.cell?_drew, World.frozen?_drew] at hc6 hf6); (have HC6_0 : ∀ o, w6.cell? ⟨w2.heap.size, o, none⟩ = (#[Value.int .i64 (-1), Value.int .i64 0, Value.int .i64 0, Value.int .i64 100] : Array Value)[o]? := by (intro o; simp [go_sem, *])); (have HC6_1 : ∀ o, w6.cell? ⟨b3, o, none⟩ = (#[Value.int .i64 1, Value.int .i64 30, Value.int .i64 10, Value.int .i64 100] : Array Value)[o]? := by (intro o; simp [go_sem, *]))))
      all_goals
        go_wp2_with fail
        go_meet
        refine ⟨_, rfl, rfl, by (focus repeat' (first | (with_reducible exact Below.refl _ _) | (with_reducible assumption) | (with_reducible refine Below.alloc ?_ ?_ _) | (with_reducible refine Below.drew ?_) | (with_reducible refine Below.setCell ?_ ?_ _) | (first | (with_reducible exact Nat.le_refl _) | (with_reducible assumption) | omega | (simp; omega) | (simp; done)))), ⟨?_, ?_⟩, ⟨?_, ?_⟩, ⟨?_, ?_⟩⟩
        · (first | (simp; done) | omega | (simp; omega))
        · (intro o; simp [go_sem, *]; done)
        · (first | (simp; done) | omega | (simp; omega))
        · (intro o; simp [go_sem, *]; done)
        · (first | (simp; done) | omega | (simp; omega))
        · (intro o; (first | (simp [go_sem, *]; done) | (rcases o with _ | _ | _ | _ | o <;> (simp [go_sem, *]; done))))
    case rest =>
      obtain ⟨b5, rfl, rfl, B5, ⟨y0, d0⟩, ⟨y3, d3⟩, y5, d5⟩ := hcut
      go_wp2
      go_ret
      exact ⟨rfl, B5⟩
end Go.Proofs.Ytbbdneekfejjkaa
