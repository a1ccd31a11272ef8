import Derived.Test.YtiopohdhadilfaaW2
namespace Go.Proofs.Ytiopohdhadilfaa
open Go.ChangeShapes Go.WideShapes Go.ChangeAt Go.RowKit Go.Deep
set_option linter.unusedSimpArgs false
set_option linter.unusedVariables false

set_option maxRecDepth 100000 in
set_option maxHeartbeats 2000000 in
theorem Means_lost (k op cl st sp ex la fl fa co ru tick : Int) (b off cap : Nat) (zs : List Int) (w : World) (h : LotOK k op cl st sp ex la fl fa co ru) (hb : b < w.heap.size) (hp : 0 < zs.length) (hmax : zs.length ≤ 4611686018427387904) (hc : ∀ j, j < zs.length → w.cell? ⟨b, off + j, none⟩ = some (.int .i64 (zs.getD j 0))) (hw : -9223372036854775808 ≤ tick ∧ tick ≤ 9223372036854775807) (ht : tk k op cl st sp ex la fl fa co ru zs zs.length = (-1, 0)) (hl : ∀ j, j < zs.length → 0 ≤ zs.getD j 0 → zs.getD j 0 ≤ 1099511627776 → firstL k op cl st sp ex la fl fa co ru (zs.getD j 0) = none) : Calls Try.prog 4 #[.agg #[.int .i64 k, .int .i64 op, .int .i64 cl, .int .i64 st, .int .i64 sp, .int .i64 ex, .int .i64 la, .int .i64 fl, .int .i64 fa, .int .i64 co, .int .i64 ru], .slice (some ⟨b, off, none⟩) zs.length cap, .int .i64 tick] w fun e w' => e = .returned (.bool true) ∧ Below w.heap.size w w' := by
  have A0 := hide hc
  clear hc
  go_enter Try.func4, Try.ntmps4
  go_wp2_with fail
  refine (known_any _).mono ?_
  rintro e w1 ⟨rfl, hb1⟩
  have HB1 : Below w.heap.size w w1 := bstep (by (focus repeat' (first | (with_reducible exact Below.refl _ _) | (with_reducible assumption) | (with_reducible refine Below.alloc ?_ ?_ _) | (with_reducible refine Below.drew ?_) | (with_reducible refine bdrewN ?_ _) | (with_reducible refine Below.setCell ?_ ?_ _) | (first | (with_reducible exact Nat.le_refl _) | (with_reducible assumption) | omega | (simp; omega) | (simp; done))))) hb1
  have hz1 := hb1.size
  (try simp only [World.size_drew, World.size_alloc] at hz1)
  have hz1_0 : w.heap.size < w1.heap.size := by omega
  have HC1_0 : ∀ o, w1.cell? ⟨w.heap.size, o, none⟩ = (#[Value.int .i64 k, Value.int .i64 op, Value.int .i64 cl, Value.int .i64 st, Value.int .i64 sp, Value.int .i64 ex, Value.int .i64 la, Value.int .i64 fl, Value.int .i64 fa, Value.int .i64 co, Value.int .i64 ru] : Array Value)[o]? := fun o => (hb1.cell (p := ⟨w.heap.size, o, none⟩) (by first | (simp; done) | omega | (simp; omega))).trans (by first | (with_reducible assumption) | (simp [go_sem, *]; done))
  have A1 := hide (show ∀ j, j < zs.length → w1.cell? ⟨b, off + j, none⟩ = some (.int .i64 (zs.getD j 0)) from fun j hj => (hb1.cell (p := ⟨b, off + j, none⟩) (by first | (simp; done) | omega | (simp; omega))).trans ((World.cell?_alloc_past _ _ _ (by (first | omega | (simp; omega)))).trans (A0.out j hj)))
  have b1 : b < w1.heap.size := by (have := hb1.size; (try simp at this); omega)
  clear hb1 hz1 A0
  go_wp2_with fail
  refine (check_ok k op cl st sp ex la fl fa co ru _ h).mono ?_
  rintro e w2 ⟨rfl, hb2⟩
  have HB2 : Below w.heap.size w w2 := bstep (by (focus repeat' (first | (with_reducible exact Below.refl _ _) | (with_reducible assumption) | (with_reducible refine Below.alloc ?_ ?_ _) | (with_reducible refine Below.drew ?_) | (with_reducible refine bdrewN ?_ _) | (with_reducible refine Below.setCell ?_ ?_ _) | (first | (with_reducible exact Nat.le_refl _) | (with_reducible assumption) | omega | (simp; omega) | (simp; done))))) hb2
  have hz2 := hb2.size
  (try simp only [World.size_drew, World.size_alloc] at hz2)
  have hz2_0 : w.heap.size < w2.heap.size := by omega
  have HC2_0 : ∀ o, w2.cell? ⟨w.heap.size, o, none⟩ = (#[Value.int .i64 k, Value.int .i64 op, Value.int .i64 cl, Value.int .i64 st, Value.int .i64 sp, Value.int .i64 ex, Value.int .i64 la, Value.int .i64 fl, Value.int .i64 fa, Value.int .i64 co, Value.int .i64 ru] : Array Value)[o]? := fun o => (hb2.cell (p := ⟨w.heap.size, o, none⟩) (by first | (simp; done) | omega | (simp; omega))).trans (by first | (with_reducible assumption) | (simp [go_sem, *]; done))
  have A2 := hide (show ∀ j, j < zs.length → w2.cell? ⟨b, off + j, none⟩ = some (.int .i64 (zs.getD j 0)) from fun j hj => (hb2.cell (p := ⟨b, off + j, none⟩) (by first | (simp; done) | omega | (simp; omega))).trans (A1.out j hj))
  have b2 : b < w2.heap.size := by (have := hb2.size; (try simp at this); omega)
  clear hb2 hz2 HB1 HC1_0 hz1_0 A1 b1
  go_wp2_with (go_at_call 11; go_in)
  refine (Price_gen k op cl st sp ex la fl fa co ru tick _ h).mono ?_
  rintro e w3 ⟨rfl, hb3⟩
  have HB3 : Below w.heap.size w w3 := bstep (by (focus repeat' (first | (with_reducible exact Below.refl _ _) | (with_reducible assumption) | (with_reducible refine Below.alloc ?_ ?_ _) | (with_reducible refine Below.drew ?_) | (with_reducible refine bdrewN ?_ _) | (with_reducible refine Below.setCell ?_ ?_ _) | (first | (with_reducible exact Nat.le_refl _) | (with_reducible assumption) | omega | (simp; omega) | (simp; done))))) hb3
  have hz3 := hb3.size
  (try simp only [World.size_drew, World.size_alloc] at hz3)
  have hz3_0 : w.heap.size < w3.heap.size := by omega
  have HC3_0 : ∀ o, w3.cell? ⟨w.heap.size, o, none⟩ = (#[Value.int .i64 k, Value.int .i64 op, Value.int .i64 cl, Value.int .i64 st, Value.int .i64 sp, Value.int .i64 ex, Value.int .i64 la, Value.int .i64 fl, Value.int .i64 fa, Value.int .i64 co, Value.int .i64 ru] : Array Value)[o]? := fun o => (hb3.cell (p := ⟨w.heap.size, o, none⟩) (by first | (simp; done) | omega | (simp; omega))).trans (by first | (with_reducible assumption) | (simp [go_sem, *]; done))
  have A3 := hide (show ∀ j, j < zs.length → w3.cell? ⟨b, off + j, none⟩ = some (.int .i64 (zs.getD j 0)) from fun j hj => (hb3.cell (p := ⟨b, off + j, none⟩) (by first | (simp; done) | omega | (simp; omega))).trans (A2.out j hj))
  have b3 : b < w3.heap.size := by (have := hb3.size; (try simp at this); omega)
  clear hb3 hz3 HB2 HC2_0 hz2_0 A2 b2
  have hu : 0 ≤ tick → wrap64 (tick - 1) = tick - 1 := fun h0 => by unfold wrap64; omega
  go_wp2_with fail
  refine (Price_gen k op cl st sp ex la fl fa co ru (wrap64 (tick - 1)) _ h).mono ?_
  rintro e w4 ⟨rfl, hb4⟩
  have HB4 : Below w.heap.size w w4 := bstep (by (focus repeat' (first | (with_reducible exact Below.refl _ _) | (with_reducible assumption) | (with_reducible refine Below.alloc ?_ ?_ _) | (with_reducible refine Below.drew ?_) | (with_reducible refine bdrewN ?_ _) | (with_reducible refine Below.setCell ?_ ?_ _) | (first | (with_reducible exact Nat.le_refl _) | (with_reducible assumption) | omega | (simp; omega) | (simp; done))))) hb4
  have hz4 := hb4.size
  (try simp only [World.size_drew, World.size_alloc] at hz4)
  have hz4_0 : w.heap.size < w4.heap.size := by omega
  have HC4_0 : ∀ o, w4.cell? ⟨w.heap.size, o, none⟩ = (#[Value.int .i64 k, Value.int .i64 op, Value.int .i64 cl, Value.int .i64 st, Value.int .i64 sp, Value.int .i64 ex, Value.int .i64 la, Value.int .i64 fl, Value.int .i64 fa, Value.int .i64 co, Value.int .i64 ru] : Array Value)[o]? := fun o => (hb4.cell (p := ⟨w.heap.size, o, none⟩) (by first | (simp; done) | omega | (simp; omega))).trans (by first | (with_reducible assumption) | (simp [go_sem, *]; done))
  have A4 := hide (show ∀ j, j < zs.length → w4.cell? ⟨b, off + j, none⟩ = some (.int .i64 (zs.getD j 0)) from fun j hj => (hb4.cell (p := ⟨b, off + j, none⟩) (by first | (simp; done) | omega | (simp; omega))).trans (A3.out j hj))
  have b4 : b < w4.heap.size := by (have := hb4.size; (try simp at this); omega)
  clear hb4 hz4 HB3 HC3_0 hz3_0 A3 b3
  have D := hide (two_prices k op cl st sp ex la fl fa co ru tick (wrap64 (tick - 1)) h hu)
  clear hu
  generalize pE k op cl st sp ex la fl fa co ru tick = e1 at *
  generalize pV k op cl st sp ex la fl fa co ru tick = p1 at *
  generalize pE k op cl st sp ex la fl fa co ru (wrap64 (tick - 1)) = e2 at *
  generalize pV k op cl st sp ex la fl fa co ru (wrap64 (tick - 1)) = p2 at *
  go_upto_region 9 with fail
  go_cut [95] from 71 to 95 (fun s wx => s = .bool false ∧ wx = w4)
  case first =>
    rcases D.out with q1 | ⟨rfl, q2, q3, q4⟩
    · have q5 : (e1 == 0) = false := by simp [q1]
      clear D
      go_wp2_with (go_at_call 11; go_in)
      go_meet
      exact ⟨rfl, rfl⟩
    · rcases q4 with q4 | ⟨rfl, q4⟩
      · have q5 : (e2 == 0) = false := by simp [q4]
        clear D
        go_wp2_with (go_at_call 11; go_in)
        go_meet
        exact ⟨by (simp; omega), rfl⟩
      · clear D
        go_wp2_with (go_at_call 11; go_in)
        go_meet
        exact ⟨by (simp; omega), rfl⟩
  case rest =>
    obtain ⟨rfl, hwc⟩ := hcut
    have hwc := hwc.symm
    subst hwc
    clear D
    go_wp2_with fail
    refine (Takes_lost k op cl st sp ex la fl fa co ru b off cap zs _ b4 hp hmax A4.out ht).mono ?_
    rintro e w5 ⟨rfl, hb5⟩
    have HB5 : Below w.heap.size w w5 := bstep (by (focus repeat' (first | (with_reducible exact Below.refl _ _) | (with_reducible assumption) | (with_reducible refine Below.alloc ?_ ?_ _) | (with_reducible refine Below.drew ?_) | (with_reducible refine bdrewN ?_ _) | (with_reducible refine Below.setCell ?_ ?_ _) | (first | (with_reducible exact Nat.le_refl _) | (with_reducible assumption) | omega | (simp; omega) | (simp; done))))) hb5
    have hz5 := hb5.size
    (try simp only [World.size_drew, World.size_alloc] at hz5)
    have hz5_0 : w.heap.size < w5.heap.size := by omega
    have HC5_0 : ∀ o, w5.cell? ⟨w.heap.size, o, none⟩ = (#[Value.int .i64 k, Value.int .i64 op, Value.int .i64 cl, Value.int .i64 st, Value.int .i64 sp, Value.int .i64 ex, Value.int .i64 la, Value.int .i64 fl, Value.int .i64 fa, Value.int .i64 co, Value.int .i64 ru] : Array Value)[o]? := fun o => (hb5.cell (p := ⟨w.heap.size, o, none⟩) (by first | (simp; done) | omega | (simp; omega))).trans (by first | (with_reducible assumption) | (simp [go_sem, *]; done))
    have A5 := hide (show ∀ j, j < zs.length → w5.cell? ⟨b, off + j, none⟩ = some (.int .i64 (zs.getD j 0)) from fun j hj => (hb5.cell (p := ⟨b, off + j, none⟩) (by first | (simp; done) | omega | (simp; omega))).trans (A4.out j hj))
    have b5 : b < w5.heap.size := by (have := hb5.size; (try simp at this); omega)
    clear hb5 hz5 HB4 HC4_0 hz4_0 A4 b4
    go_wp2_with fail
    refine (New_ok k op cl st sp ex la fl fa co ru _ h).mono ?_
    rintro e w6 ⟨g, rfl, gb, hb6, gg, gc, gf⟩
    have HB6 : Below w.heap.size w w6 := bstep (by (focus repeat' (first | (with_reducible exact Below.refl _ _) | (with_reducible assumption) | (with_reducible refine Below.alloc ?_ ?_ _) | (with_reducible refine Below.drew ?_) | (with_reducible refine bdrewN ?_ _) | (with_reducible refine Below.setCell ?_ ?_ _) | (first | (with_reducible exact Nat.le_refl _) | (with_reducible assumption) | omega | (simp; omega) | (simp; done))))) hb6
    have hz6 := hb6.size
    (try simp only [World.size_drew, World.size_alloc] at hz6)
    have hz6_0 : w.heap.size < w6.heap.size := by omega
    have HC6_0 : ∀ o, w6.cell? ⟨w.heap.size, o, none⟩ = (#[Value.int .i64 k, Value.int .i64 op, Value.int .i64 cl, Value.int .i64 st, Value.int .i64 sp, Value.int .i64 ex, Value.int .i64 la, Value.int .i64 fl, Value.int .i64 fa, Value.int .i64 co, Value.int .i64 ru] : Array Value)[o]? := fun o => (hb6.cell (p := ⟨w.heap.size, o, none⟩) (by first | (simp; done) | omega | (simp; omega))).trans (by first | (with_reducible assumption) | (simp [go_sem, *]; done))
    have A6 := hide (show ∀ j, j < zs.length → w6.cell? ⟨b, off + j, none⟩ = some (.int .i64 (zs.getD j 0)) from fun j hj => (hb6.cell (p := ⟨b, off + j, none⟩) (by first | (simp; done) | omega | (simp; omega))).trans (A5.out j hj))
    have b6 : b < w6.heap.size := by (have := hb6.size; (try simp at this); omega)
    clear hb6 HB5 HC5_0 hz5_0 A5 b5 hz6 gb
    have z6 : w.heap.size ≤ w6.heap.size := by omega
    go_wp2_with (go_at_call 11; go_in)
    clear gg gc gf
    have hlost := hide hl
    clear hl
    go_loopw [23] (fun v wr => ∃ n : Nat, n ≤ zs.length ∧ v = .int .i64 n ∧ Below w6.heap.size w6 wr) (fun v _ => zs.length - (intOf v).toNat)
    case atStart => exact ⟨0, Nat.zero_le _, rfl, by (focus repeat' (first | (with_reducible exact Below.refl _ _) | (with_reducible assumption) | (with_reducible refine Below.alloc ?_ ?_ _) | (with_reducible refine Below.drew ?_) | (with_reducible refine bdrewN ?_ _) | (with_reducible refine Below.setCell ?_ ?_ _) | (first | (with_reducible exact Nat.le_refl _) | (with_reducible assumption) | omega | (simp; omega) | (simp; done))))⟩
    case round =>
      obtain ⟨n, hn, rfl, rB⟩ := hrel
      have HBr : Below w.heap.size w wr := HB6.trans (rB.mono z6)
      have hzr : w.heap.size < wr.heap.size := by (have := rB.size; omega)
      have HCr : ∀ o, wr.cell? ⟨w.heap.size, o, none⟩ = (#[Value.int .i64 k, Value.int .i64 op, Value.int .i64 cl, Value.int .i64 st, Value.int .i64 sp, Value.int .i64 ex, Value.int .i64 la, Value.int .i64 fl, Value.int .i64 fa, Value.int .i64 co, Value.int .i64 ru] : Array Value)[o]? := fun o => (rB.cell (p := ⟨w.heap.size, o, none⟩) hz6_0).trans (HC6_0 o)
      by_cases hlt : n < zs.length
      · have hlt' : (n : Int) < (zs.length : Int) := by omega
        by_cases h3 : (n : Int) < 300
        · have c1 := (rB.cell (p := ⟨b, off + n, none⟩) b6).trans (A6.out n hlt)
          have N := hide (hlost.out n hlt)
          generalize zs.getD n 0 = x at *
          by_cases x0 : x < 0
          · go_wp2
            go_roundw
            case rel => exact ⟨n + 1, by omega, by go_num, by (focus repeat' (first | (with_reducible exact Below.refl _ _) | (with_reducible assumption) | (with_reducible refine Below.alloc ?_ ?_ _) | (with_reducible refine Below.drew ?_) | (with_reducible refine bdrewN ?_ _) | (with_reducible refine Below.setCell ?_ ?_ _) | (first | (with_reducible exact Nat.le_refl _) | (with_reducible assumption) | omega | (simp; omega) | (simp; done))))⟩
            case measure => simp [intOf]; omega
          · by_cases x1 : 1099511627776 < x
            · go_wp2
              go_roundw
              case rel => exact ⟨n + 1, by omega, by go_num, by (focus repeat' (first | (with_reducible exact Below.refl _ _) | (with_reducible assumption) | (with_reducible refine Below.alloc ?_ ?_ _) | (with_reducible refine Below.drew ?_) | (with_reducible refine bdrewN ?_ _) | (with_reducible refine Below.setCell ?_ ?_ _) | (first | (with_reducible exact Nat.le_refl _) | (with_reducible assumption) | omega | (simp; omega) | (simp; done))))⟩
              case measure => simp [intOf]; omega
            · have N2 := hide (N.out (by omega) (by omega))
              clear N
              go_upto_region 24 with fail
              go_region_held3 (fun wq => Below wr.heap.size wr wq ∧ (w.heap.size < wq.heap.size ∧ ∀ o, wq.cell? ⟨w.heap.size, o, none⟩ = (#[Value.int .i64 k, Value.int .i64 op, Value.int .i64 cl, Value.int .i64 st, Value.int .i64 sp, Value.int .i64 ex, Value.int .i64 la, Value.int .i64 fl, Value.int .i64 fa, Value.int .i64 co, Value.int .i64 ru] : Array Value)[o]?) ∧ (b < wq.heap.size ∧ wq.cell? ⟨b, off + n, none⟩ = some (.int .i64 x))) (((try go_split_ands); refine ⟨?_, ⟨?_, ?_⟩, ⟨?_, ?_⟩⟩; (focus (first | (focus repeat' (first | (with_reducible exact Below.refl _ _) | (with_reducible assumption) | (with_reducible refine Below.alloc ?_ ?_ _) | (with_reducible refine Below.drew ?_) | (with_reducible refine bdrewN ?_ _) | (with_reducible refine Below.setCell ?_ ?_ _) | (first | (with_reducible exact Nat.le_refl _) | (with_reducible assumption) | omega | (simp; omega) | (simp; done)))))); (focus (first | (with_reducible assumption) | (simp; done) | omega | (simp; omega))); (focus (first | (with_reducible assumption) | (intro o; simp [go_sem, *]; done))); (focus (first | (with_reducible assumption) | (simp; done) | omega | (simp; omega))); (focus (first | (with_reducible assumption) | (simp [go_sem, *]; done)))))
                (first | (go_at_call 13; refine (First_none k op cl st sp ex la fl fa co ru x _ N2.out).mono ?_; rintro e w8 ⟨rfl, hb8⟩; (try go_split_ands); have HB8 : Below wr.heap.size wr w8 := bstep (by with_reducible assumption) hb8; have hz8 := hb8.size; (try simp only [World.size_drew, World.size_alloc] at hz8); (have hz8_0 : w.heap.size < w8.heap.size := by omega); (have hz8_1 : b < w8.heap.size := by omega); obtain ⟨hc8, hf8⟩ := bcell hb8; (try simp only [World.size_drew, World.size_alloc, World.cell?_drew, World.frozen?_drew] at hc8 hf8); (have HC8_0 : ∀ o, w8.cell? ⟨w.heap.size, o, none⟩ = (#[Value.int .i64 k, Value.int .i64 op, Value.int .i64 cl, Value.int .i64 st, Value.int .i64 sp, Value.int .i64 ex, Value.int .i64 la, Value.int .i64 fl, Value.int .i64 fa, Value.int .i64 co, Value.int .i64 ru] : Array Value)[o]? := by (intro o; simp [go_sem, *])); have HC8_1 : w8.cell? ⟨b, off + n, none⟩ = some (.int .i64 x) := (hb8.cell (p := ⟨b, off + n, none⟩) (by first | (with_reducible assumption) | (simp; done) | omega | (simp; omega))).trans (by first | (with_reducible assumption) | (simp [go_sem, *]; done))))
              go_wp2
              go_roundw
              case rel => (repeat apply Exists.intro); exact ⟨⟨n + 1, by omega, by go_num, rB.trans (HB8.mono rB.size)⟩, rfl⟩
              case measure => simp [intOf]; omega
        · have hle : 300 ≤ n := by omega
          go_wp2
          go_ret
          exact ⟨rfl, by (focus repeat' (first | (with_reducible exact Below.refl _ _) | (with_reducible assumption) | (with_reducible refine Below.alloc ?_ ?_ _) | (with_reducible refine Below.drew ?_) | (with_reducible refine bdrewN ?_ _) | (with_reducible refine Below.setCell ?_ ?_ _) | (first | (with_reducible exact Nat.le_refl _) | (with_reducible assumption) | omega | (simp; omega) | (simp; done))))⟩
      · have hle : ¬ ((n : Int) < (zs.length : Int)) := by omega
        go_wp2
        go_ret
        exact ⟨rfl, by (focus repeat' (first | (with_reducible exact Below.refl _ _) | (with_reducible assumption) | (with_reducible refine Below.alloc ?_ ?_ _) | (with_reducible refine Below.drew ?_) | (with_reducible refine bdrewN ?_ _) | (with_reducible refine Below.setCell ?_ ?_ _) | (first | (with_reducible exact Nat.le_refl _) | (with_reducible assumption) | omega | (simp; omega) | (simp; done))))⟩
end Go.Proofs.Ytiopohdhadilfaa
