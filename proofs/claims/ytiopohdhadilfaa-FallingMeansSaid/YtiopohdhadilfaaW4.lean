import Derived.Test.YtiopohdhadilfaaW2
namespace Go.Proofs.Ytiopohdhadilfaa
open Go.ChangeShapes Go.WideShapes Go.ChangeAt Go.RowKit Go.Deep
set_option linter.unusedSimpArgs false
set_option linter.unusedVariables false

set_option maxRecDepth 100000 in
set_option maxHeartbeats 4000000 in
theorem Means_won (k op cl st sp ex la fl fa co ru tick : Int) (b off cap : Nat) (zs : List Int) (w : World) (h : LotOK k op cl st sp ex la fl fa co ru) (hb : b < w.heap.size) (hp : 0 < zs.length) (hmax : zs.length ≤ 4611686018427387904) (hc : ∀ j, j < zs.length → w.cell? ⟨b, off + j, none⟩ = some (.int .i64 (zs.getD j 0))) (hw : -9223372036854775808 ≤ tick ∧ tick ≤ 9223372036854775807) (i : Nat) (t : Int) (hi : i < zs.length) (ht : tk k op cl st sp ex la fl fa co ru zs zs.length = ((i : Int), t)) (v1 : 0 ≤ zs.getD i 0) (v2 : zs.getD i 0 ≤ 1099511627776) (hf : firstL k op cl st sp ex la fl fa co ru (zs.getD i 0) = some t) (hl : ∀ j, j < zs.length → 0 ≤ zs.getD j 0 → zs.getD j 0 ≤ 1099511627776 → ∀ u, firstL k op cl st sp ex la fl fa co ru (zs.getD j 0) = some u → t ≤ u ∧ (u = t → i ≤ j)) : Calls Try.prog 4 #[.agg #[.int .i64 k, .int .i64 op, .int .i64 cl, .int .i64 st, .int .i64 sp, .int .i64 ex, .int .i64 la, .int .i64 fl, .int .i64 fa, .int .i64 co, .int .i64 ru], .slice (some ⟨b, off, none⟩) zs.length cap, .int .i64 tick] w fun e w' => e = .returned (.bool true) ∧ Below w.heap.size w w' := by
  have A0 := hide hc
  clear hc
  go_enter Try.func4, Try.ntmps4
  go_wp2_with fail
  refine (known_any _).mono ?_
  rintro e w1 ⟨rfl, hb1⟩
  have HB1 : Below w.heap.size w w1 := bstep (by (focus repeat' (first | (with_reducible exact Below.refl _ _) | (with_reducible assumption) | (with_reducible refine Below.alloc ?_ ?_ _) | (with_reducible refine Below.drew ?_) | (with_reducible refine bdrewN ?_ _) | (with_reducible refine Below.setCell ?_ ?_ _) | (first | (with_reducible exact Nat.le_refl _) | (with_reducible assumption) | omega | (simp; omega) | (simp; done))))) hb1
  have hz1 := hb1.size
  (try simp only [World.size_drew, World.size_alloc] at hz1)
  have hz1_0 : w.heap.size < w1.heap.size := by omega
  have HC1_0 : ∀ o, w1.cell? ⟨w.heap.size, o, none⟩ = (#[Value.int .i64 k, Value.int .i64 op, Value.int .i64 cl, Value.int .i64 st, Value.int .i64 sp, Value.int .i64 ex, Value.int .i64 la, Value.int .i64 fl, Value.int .i64 fa, Value.int .i64 co, Value.int .i64 ru] : Array Value)[o]? := fun o => (hb1.cell (p := ⟨w.heap.size, o, none⟩) (by first | (simp; done) | omega | (simp; omega))).trans (by first | (with_reducible assumption) | (simp [go_sem, *]; done))
  have A1 := hide (show ∀ j, j < zs.length → w1.cell? ⟨b, off + j, none⟩ = some (.int .i64 (zs.getD j 0)) from fun j hj => (hb1.cell (p := ⟨b, off + j, none⟩) (by first | (simp; done) | omega | (simp; omega))).trans ((World.cell?_alloc_past _ _ _ (by (first | omega | (simp; omega)))).trans (A0.out j hj)))
  have b1 : b < w1.heap.size := by (have := hb1.size; (try simp at this); omega)
  clear hb1 hz1 A0
  go_wp2_with fail
  refine (check_ok k op cl st sp ex la fl fa co ru _ h).mono ?_
  rintro e w2 ⟨rfl, hb2⟩
  have HB2 : Below w.heap.size w w2 := bstep (by (focus repeat' (first | (with_reducible exact Below.refl _ _) | (with_reducible assumption) | (with_reducible refine Below.alloc ?_ ?_ _) | (with_reducible refine Below.drew ?_) | (with_reducible refine bdrewN ?_ _) | (with_reducible refine Below.setCell ?_ ?_ _) | (first | (with_reducible exact Nat.le_refl _) | (with_reducible assumption) | omega | (simp; omega) | (simp; done))))) hb2
  have hz2 := hb2.size
  (try simp only [World.size_drew, World.size_alloc] at hz2)
  have hz2_0 : w.heap.size < w2.heap.size := by omega
  have HC2_0 : ∀ o, w2.cell? ⟨w.heap.size, o, none⟩ = (#[Value.int .i64 k, Value.int .i64 op, Value.int .i64 cl, Value.int .i64 st, Value.int .i64 sp, Value.int .i64 ex, Value.int .i64 la, Value.int .i64 fl, Value.int .i64 fa, Value.int .i64 co, Value.int .i64 ru] : Array Value)[o]? := fun o => (hb2.cell (p := ⟨w.heap.size, o, none⟩) (by first | (simp; done) | omega | (simp; omega))).trans (by first | (with_reducible assumption) | (simp [go_sem, *]; done))
  have A2 := hide (show ∀ j, j < zs.length → w2.cell? ⟨b, off + j, none⟩ = some (.int .i64 (zs.getD j 0)) from fun j hj => (hb2.cell (p := ⟨b, off + j, none⟩) (by first | (simp; done) | omega | (simp; omega))).trans (A1.out j hj))
  have b2 : b < w2.heap.size := by (have := hb2.size; (try simp at this); omega)
  clear hb2 hz2 HB1 HC1_0 hz1_0 A1 b1
  go_wp2_with (go_at_call 11; go_in)
  refine (Price_gen k op cl st sp ex la fl fa co ru tick _ h).mono ?_
  rintro e w3 ⟨rfl, hb3⟩
  have HB3 : Below w.heap.size w w3 := bstep (by (focus repeat' (first | (with_reducible exact Below.refl _ _) | (with_reducible assumption) | (with_reducible refine Below.alloc ?_ ?_ _) | (with_reducible refine Below.drew ?_) | (with_reducible refine bdrewN ?_ _) | (with_reducible refine Below.setCell ?_ ?_ _) | (first | (with_reducible exact Nat.le_refl _) | (with_reducible assumption) | omega | (simp; omega) | (simp; done))))) hb3
  have hz3 := hb3.size
  (try simp only [World.size_drew, World.size_alloc] at hz3)
  have hz3_0 : w.heap.size < w3.heap.size := by omega
  have HC3_0 : ∀ o, w3.cell? ⟨w.heap.size, o, none⟩ = (#[Value.int .i64 k, Value.int .i64 op, Value.int .i64 cl, Value.int .i64 st, Value.int .i64 sp, Value.int .i64 ex, Value.int .i64 la, Value.int .i64 fl, Value.int .i64 fa, Value.int .i64 co, Value.int .i64 ru] : Array Value)[o]? := fun o => (hb3.cell (p := ⟨w.heap.size, o, none⟩) (by first | (simp; done) | omega | (simp; omega))).trans (by first | (with_reducible assumption) | (simp [go_sem, *]; done))
  have A3 := hide (show ∀ j, j < zs.length → w3.cell? ⟨b, off + j, none⟩ = some (.int .i64 (zs.getD j 0)) from fun j hj => (hb3.cell (p := ⟨b, off + j, none⟩) (by first | (simp; done) | omega | (simp; omega))).trans (A2.out j hj))
  have b3 : b < w3.heap.size := by (have := hb3.size; (try simp at this); omega)
  clear hb3 hz3 HB2 HC2_0 hz2_0 A2 b2
  have hu : 0 ≤ tick → wrap64 (tick - 1) = tick - 1 := fun h0 => by unfold wrap64; omega
  go_wp2_with fail
  refine (Price_gen k op cl st sp ex la fl fa co ru (wrap64 (tick - 1)) _ h).mono ?_
  rintro e w4 ⟨rfl, hb4⟩
  have HB4 : Below w.heap.size w w4 := bstep (by (focus repeat' (first | (with_reducible exact Below.refl _ _) | (with_reducible assumption) | (with_reducible refine Below.alloc ?_ ?_ _) | (with_reducible refine Below.drew ?_) | (with_reducible refine bdrewN ?_ _) | (with_reducible refine Below.setCell ?_ ?_ _) | (first | (with_reducible exact Nat.le_refl _) | (with_reducible assumption) | omega | (simp; omega) | (simp; done))))) hb4
  have hz4 := hb4.size
  (try simp only [World.size_drew, World.size_alloc] at hz4)
  have hz4_0 : w.heap.size < w4.heap.size := by omega
  have HC4_0 : ∀ o, w4.cell? ⟨w.heap.size, o, none⟩ = (#[Value.int .i64 k, Value.int .i64 op, Value.int .i64 cl, Value.int .i64 st, Value.int .i64 sp, Value.int .i64 ex, Value.int .i64 la, Value.int .i64 fl, Value.int .i64 fa, Value.int .i64 co, Value.int .i64 ru] : Array Value)[o]? := fun o => (hb4.cell (p := ⟨w.heap.size, o, none⟩) (by first | (simp; done) | omega | (simp; omega))).trans (by first | (with_reducible assumption) | (simp [go_sem, *]; done))
  have A4 := hide (show ∀ j, j < zs.length → w4.cell? ⟨b, off + j, none⟩ = some (.int .i64 (zs.getD j 0)) from fun j hj => (hb4.cell (p := ⟨b, off + j, none⟩) (by first | (simp; done) | omega | (simp; omega))).trans (A3.out j hj))
  have b4 : b < w4.heap.size := by (have := hb4.size; (try simp at this); omega)
  clear hb4 hz4 HB3 HC3_0 hz3_0 A3 b3
  have D := hide (two_prices k op cl st sp ex la fl fa co ru tick (wrap64 (tick - 1)) h hu)
  clear hu
  generalize pE k op cl st sp ex la fl fa co ru tick = e1 at *
  generalize pV k op cl st sp ex la fl fa co ru tick = p1 at *
  generalize pE k op cl st sp ex la fl fa co ru (wrap64 (tick - 1)) = e2 at *
  generalize pV k op cl st sp ex la fl fa co ru (wrap64 (tick - 1)) = p2 at *
  go_upto_region 9 with fail
  go_cut [95] from 71 to 95 (fun s wx => s = .bool false ∧ wx = w4)
  case first =>
    rcases D.out with q1 | ⟨rfl, q2, q3, q4⟩
    · have q5 : (e1 == 0) = false := by simp [q1]
      clear D
      go_wp2_with (go_at_call 11; go_in)
      go_meet
      exact ⟨rfl, rfl⟩
    · rcases q4 with q4 | ⟨rfl, q4⟩
      · have q5 : (e2 == 0) = false := by simp [q4]
        clear D
        go_wp2_with (go_at_call 11; go_in)
        go_meet
        exact ⟨by (simp; omega), rfl⟩
      · clear D
        go_wp2_with (go_at_call 11; go_in)
        go_meet
        exact ⟨by (simp; omega), rfl⟩
  case rest =>
    obtain ⟨rfl, hwc⟩ := hcut
    have hwc := hwc.symm
    subst hwc
    clear D
    go_wp2_with fail
    refine (Takes_won k op cl st sp ex la fl fa co ru b off cap zs i t _ b4 hp hmax A4.out ht).mono ?_
    rintro e w5 ⟨rfl, hb5⟩
    have HB5 : Below w.heap.size w w5 := bstep (by (focus repeat' (first | (with_reducible exact Below.refl _ _) | (with_reducible assumption) | (with_reducible refine Below.alloc ?_ ?_ _) | (with_reducible refine Below.drew ?_) | (with_reducible refine bdrewN ?_ _) | (with_reducible refine Below.setCell ?_ ?_ _) | (first | (with_reducible exact Nat.le_refl _) | (with_reducible assumption) | omega | (simp; omega) | (simp; done))))) hb5
    have hz5 := hb5.size
    (try simp only [World.size_drew, World.size_alloc] at hz5)
    have hz5_0 : w.heap.size < w5.heap.size := by omega
    have HC5_0 : ∀ o, w5.cell? ⟨w.heap.size, o, none⟩ = (#[Value.int .i64 k, Value.int .i64 op, Value.int .i64 cl, Value.int .i64 st, Value.int .i64 sp, Value.int .i64 ex, Value.int .i64 la, Value.int .i64 fl, Value.int .i64 fa, Value.int .i64 co, Value.int .i64 ru] : Array Value)[o]? := fun o => (hb5.cell (p := ⟨w.heap.size, o, none⟩) (by first | (simp; done) | omega | (simp; omega))).trans (by first | (with_reducible assumption) | (simp [go_sem, *]; done))
    have A5 := hide (show ∀ j, j < zs.length → w5.cell? ⟨b, off + j, none⟩ = some (.int .i64 (zs.getD j 0)) from fun j hj => (hb5.cell (p := ⟨b, off + j, none⟩) (by first | (simp; done) | omega | (simp; omega))).trans (A4.out j hj))
    have b5 : b < w5.heap.size := by (have := hb5.size; (try simp at this); omega)
    clear hb5 hz5 HB4 HC4_0 hz4_0 A4 b4
    go_wp2_with fail
    refine (New_ok k op cl st sp ex la fl fa co ru _ h).mono ?_
    rintro e w6 ⟨g, rfl, gb, hb6, gg, gc, gf⟩
    have HB6 : Below w.heap.size w w6 := bstep (by (focus repeat' (first | (with_reducible exact Below.refl _ _) | (with_reducible assumption) | (with_reducible refine Below.alloc ?_ ?_ _) | (with_reducible refine Below.drew ?_) | (with_reducible refine bdrewN ?_ _) | (with_reducible refine Below.setCell ?_ ?_ _) | (first | (with_reducible exact Nat.le_refl _) | (with_reducible assumption) | omega | (simp; omega) | (simp; done))))) hb6
    have hz6 := hb6.size
    (try simp only [World.size_drew, World.size_alloc] at hz6)
    have hz6_0 : w.heap.size < w6.heap.size := by omega
    have HC6_0 : ∀ o, w6.cell? ⟨w.heap.size, o, none⟩ = (#[Value.int .i64 k, Value.int .i64 op, Value.int .i64 cl, Value.int .i64 st, Value.int .i64 sp, Value.int .i64 ex, Value.int .i64 la, Value.int .i64 fl, Value.int .i64 fa, Value.int .i64 co, Value.int .i64 ru] : Array Value)[o]? := fun o => (hb6.cell (p := ⟨w.heap.size, o, none⟩) (by first | (simp; done) | omega | (simp; omega))).trans (by first | (with_reducible assumption) | (simp [go_sem, *]; done))
    have A6 := hide (show ∀ j, j < zs.length → w6.cell? ⟨b, off + j, none⟩ = some (.int .i64 (zs.getD j 0)) from fun j hj => (hb6.cell (p := ⟨b, off + j, none⟩) (by first | (simp; done) | omega | (simp; omega))).trans (A5.out j hj))
    have b6 : b < w6.heap.size := by (have := hb6.size; (try simp at this); omega)
    have ggw : w.heap.size ≤ g := by omega
    have gc6 := hide gc
    have gf6 := hide gf
    clear gc gf
    clear hb6 HB5 HC5_0 hz5_0 A5 b5 hz6 gb
    have FF := first_facts k op cl st sp ex la fl fa co ru (zs.getD i 0) t h hf
    obtain ⟨o1, o2, o3, o4, _, _⟩ := FF
    have cx : w6.cell? ⟨b, off + i, none⟩ = some (.int .i64 (zs.getD i 0)) := A6.out i hi
    have hf' := hide hf
    have hlost := hide hl
    have ht' := hide ht
    clear hf hl ht
    generalize hxi : zs.getD i 0 = xi at *
    have hxi' := hide hxi
    clear hxi
    generalize hP0 : priceI op st fl fa t = P at *
    have hP := hide hP0
    clear hP0
    have hP1 : ¬ xi < P := by omega
    have hi' : (i : Int) < (zs.length : Int) := by omega
    have hi2 : ¬ ((i : Int) < 0) := by omega
    go_upto_region 17 with (go_at_call 11; go_in)
    go_region_held3 (fun wq => Below w6.heap.size w6 wq ∧ (w.heap.size < wq.heap.size ∧ ∀ o, wq.cell? ⟨w.heap.size, o, none⟩ = (#[Value.int .i64 k, Value.int .i64 op, Value.int .i64 cl, Value.int .i64 st, Value.int .i64 sp, Value.int .i64 ex, Value.int .i64 la, Value.int .i64 fl, Value.int .i64 fa, Value.int .i64 co, Value.int .i64 ru] : Array Value)[o]?) ∧ (b < wq.heap.size ∧ wq.cell? ⟨b, off + i, none⟩ = some (.int .i64 xi))) (((try go_split_ands); refine ⟨?_, ⟨?_, ?_⟩, ⟨?_, ?_⟩⟩; (focus (first | (focus repeat' (first | (with_reducible exact Below.refl _ _) | (with_reducible assumption) | (with_reducible refine Below.alloc ?_ ?_ _) | (with_reducible refine Below.drew ?_) | (with_reducible refine bdrewN ?_ _) | (with_reducible refine Below.setCell ?_ ?_ _) | (first | (with_reducible exact Nat.le_refl _) | (with_reducible assumption) | omega | (simp; omega) | (simp; done)))))); (focus (first | (with_reducible assumption) | (simp; done) | omega | (simp; omega))); (focus (first | (with_reducible assumption) | (intro o; simp [go_sem, *]; done))); (focus (first | (with_reducible assumption) | (simp; done) | omega | (simp; omega))); (focus (first | (with_reducible assumption) | (simp [go_sem, *]; done)))))
      (first | (go_at_call 13; refine (First_some k op cl st sp ex la fl fa co ru xi t _ hf'.out).mono ?_; rintro e w7 ⟨rfl, hb7⟩; (try go_split_ands); have HB7 : Below w6.heap.size w6 w7 := bstep (by with_reducible assumption) hb7; have hz7 := hb7.size; (try simp only [World.size_drew, World.size_alloc] at hz7); (have hz7_0 : w.heap.size < w7.heap.size := by omega); (have hz7_1 : b < w7.heap.size := by omega); obtain ⟨hc7, hf7⟩ := bcell hb7; (try simp only [World.size_drew, World.size_alloc, World.cell?_drew, World.frozen?_drew] at hc7 hf7); (have HC7_0 : ∀ o, w7.cell? ⟨w.heap.size, o, none⟩ = (#[Value.int .i64 k, Value.int .i64 op, Value.int .i64 cl, Value.int .i64 st, Value.int .i64 sp, Value.int .i64 ex, Value.int .i64 la, Value.int .i64 fl, Value.int .i64 fa, Value.int .i64 co, Value.int .i64 ru] : Array Value)[o]? := by (intro o; simp [go_sem, *])); have HC7_1 : w7.cell? ⟨b, off + i, none⟩ = some (.int .i64 xi) := (hb7.cell (p := ⟨b, off + i, none⟩) (by first | (with_reducible assumption) | (simp; done) | omega | (simp; omega))).trans (by first | (with_reducible assumption) | (simp [go_sem, *]; done))))
    have hb7' : Below w6.heap.size w6 w7 := HB7
    have HB7' : Below w.heap.size w w7 := HB6.trans (HB7.mono (by omega))
    clear HB7
    have HB7 := HB7'
    clear HB7'
    have A7 := hide (show ∀ j, j < zs.length → w7.cell? ⟨b, off + j, none⟩ = some (.int .i64 (zs.getD j 0)) from fun j hj => (hb7'.cell (p := ⟨b, off + j, none⟩) b6).trans (A6.out j hj))
    have b7 : b < w7.heap.size := hz7_1
    have gg7 : g < w7.heap.size := by (have := hb7'.size; omega)
    have gc7 := hide (show ∀ o, w7.cell? ⟨g, o, none⟩ = (#[Value.int .i64 k, Value.int .i64 op, Value.int .i64 cl, Value.int .i64 st, Value.int .i64 sp, Value.int .i64 ex, Value.int .i64 la, Value.int .i64 fl, Value.int .i64 fa, Value.int .i64 co, Value.int .i64 ru, Value.pointer none] : Array Value)[o]? from fun o => (hb7'.cell (p := ⟨g, o, none⟩) gg).trans (gc6.out o))
    have gf7 := hide (show ∀ o, w7.frozen? ⟨g, o, none⟩ = false from fun o => (hb7'.frozen (p := ⟨g, o, none⟩) gg).trans (gf6.out o))
    have cx7 := HC7_1
    clear cx
    have cx := cx7
    clear cx7 HC7_1 hb7' hb7 hz7 hc7 hf7 gc6 gf6 gg A6 b6 HB6 HC6_0 hz6_0 hz7_1
    have z7 : w.heap.size ≤ w7.heap.size := by omega
    go_wp2
    go_loopw [23] (fun v wr => ∃ n : Nat, n ≤ zs.length ∧ v = .int .i64 n ∧ Below w7.heap.size w7 wr) (fun v _ => zs.length - (intOf v).toNat)
    case atStart => exact ⟨0, Nat.zero_le _, rfl, by (focus repeat' (first | (with_reducible exact Below.refl _ _) | (with_reducible assumption) | (with_reducible refine Below.alloc ?_ ?_ _) | (with_reducible refine Below.drew ?_) | (with_reducible refine bdrewN ?_ _) | (with_reducible refine Below.setCell ?_ ?_ _) | (first | (with_reducible exact Nat.le_refl _) | (with_reducible assumption) | omega | (simp; omega) | (simp; done))))⟩
    case round =>
      obtain ⟨n, hn, rfl, rB⟩ := hrel
      have HBr : Below w.heap.size w wr := HB7.trans (rB.mono z7)
      have hzr : w.heap.size < wr.heap.size := by (have := rB.size; omega)
      have HCr : ∀ o, wr.cell? ⟨w.heap.size, o, none⟩ = (#[Value.int .i64 k, Value.int .i64 op, Value.int .i64 cl, Value.int .i64 st, Value.int .i64 sp, Value.int .i64 ex, Value.int .i64 la, Value.int .i64 fl, Value.int .i64 fa, Value.int .i64 co, Value.int .i64 ru] : Array Value)[o]? := fun o => (rB.cell (p := ⟨w.heap.size, o, none⟩) hz7_0).trans (HC7_0 o)
      have hbr : b < wr.heap.size := by (have := rB.size; omega)
      by_cases hlt : n < zs.length
      · have hlt' : (n : Int) < (zs.length : Int) := by omega
        by_cases h3 : (n : Int) < 300
        · have c1 := (rB.cell (p := ⟨b, off + n, none⟩) b7).trans (A7.out n hlt)
          have N := hide (hlost.out n hlt)
          generalize zs.getD n 0 = x at *
          by_cases x0 : x < 0
          · go_wp2
            go_roundw
            case rel => exact ⟨n + 1, by omega, by go_num, by (focus repeat' (first | (with_reducible exact Below.refl _ _) | (with_reducible assumption) | (with_reducible refine Below.alloc ?_ ?_ _) | (with_reducible refine Below.drew ?_) | (with_reducible refine bdrewN ?_ _) | (with_reducible refine Below.setCell ?_ ?_ _) | (first | (with_reducible exact Nat.le_refl _) | (with_reducible assumption) | omega | (simp; omega) | (simp; done))))⟩
            case measure => simp [intOf]; omega
          · by_cases x1 : 1099511627776 < x
            · go_wp2
              go_roundw
              case rel => exact ⟨n + 1, by omega, by go_num, by (focus repeat' (first | (with_reducible exact Below.refl _ _) | (with_reducible assumption) | (with_reducible refine Below.alloc ?_ ?_ _) | (with_reducible refine Below.drew ?_) | (with_reducible refine bdrewN ?_ _) | (with_reducible refine Below.setCell ?_ ?_ _) | (first | (with_reducible exact Nat.le_refl _) | (with_reducible assumption) | omega | (simp; omega) | (simp; done))))⟩
              case measure => simp [intOf]; omega
            · have N2 := hide (N.out (by omega) (by omega))
              clear N
              cases e : firstL k op cl st sp ex la fl fa co ru x with
              | none =>
                have e' := hide e
                clear e N2
                go_upto_region 24 with fail
                go_region_held3 (fun wq => Below wr.heap.size wr wq ∧ (w.heap.size < wq.heap.size ∧ ∀ o, wq.cell? ⟨w.heap.size, o, none⟩ = (#[Value.int .i64 k, Value.int .i64 op, Value.int .i64 cl, Value.int .i64 st, Value.int .i64 sp, Value.int .i64 ex, Value.int .i64 la, Value.int .i64 fl, Value.int .i64 fa, Value.int .i64 co, Value.int .i64 ru] : Array Value)[o]?) ∧ (b < wq.heap.size ∧ wq.cell? ⟨b, off + n, none⟩ = some (.int .i64 x))) (((try go_split_ands); refine ⟨?_, ⟨?_, ?_⟩, ⟨?_, ?_⟩⟩; (focus (first | (focus repeat' (first | (with_reducible exact Below.refl _ _) | (with_reducible assumption) | (with_reducible refine Below.alloc ?_ ?_ _) | (with_reducible refine Below.drew ?_) | (with_reducible refine bdrewN ?_ _) | (with_reducible refine Below.setCell ?_ ?_ _) | (first | (with_reducible exact Nat.le_refl _) | (with_reducible assumption) | omega | (simp; omega) | (simp; done)))))); (focus (first | (with_reducible assumption) | (simp; done) | omega | (simp; omega))); (focus (first | (with_reducible assumption) | (intro o; simp [go_sem, *]; done))); (focus (first | (with_reducible assumption) | (simp; done) | omega | (simp; omega))); (focus (first | (with_reducible assumption) | (simp [go_sem, *]; done)))))
                  (first | (go_at_call 13; refine (First_none k op cl st sp ex la fl fa co ru x _ e'.out).mono ?_; rintro e w8 ⟨rfl, hb8⟩; (try go_split_ands); have HB8 : Below wr.heap.size wr w8 := bstep (by with_reducible assumption) hb8; have hz8 := hb8.size; (try simp only [World.size_drew, World.size_alloc] at hz8); (have hz8_0 : w.heap.size < w8.heap.size := by omega); (have hz8_1 : b < w8.heap.size := by omega); obtain ⟨hc8, hf8⟩ := bcell hb8; (try simp only [World.size_drew, World.size_alloc, World.cell?_drew, World.frozen?_drew] at hc8 hf8); (have HC8_0 : ∀ o, w8.cell? ⟨w.heap.size, o, none⟩ = (#[Value.int .i64 k, Value.int .i64 op, Value.int .i64 cl, Value.int .i64 st, Value.int .i64 sp, Value.int .i64 ex, Value.int .i64 la, Value.int .i64 fl, Value.int .i64 fa, Value.int .i64 co, Value.int .i64 ru] : Array Value)[o]? := by (intro o; simp [go_sem, *])); have HC8_1 : w8.cell? ⟨b, off + n, none⟩ = some (.int .i64 x) := (hb8.cell (p := ⟨b, off + n, none⟩) (by first | (with_reducible assumption) | (simp; done) | omega | (simp; omega))).trans (by first | (with_reducible assumption) | (simp [go_sem, *]; done))))
                clear hb8 hz8 hc8 hf8
                go_wp2
                go_roundw
                case rel => first | exact ⟨n + 1, by omega, by go_num, rB.trans (HB8.mono rB.size)⟩ | ((repeat apply Exists.intro); exact ⟨⟨n + 1, by omega, by go_num, rB.trans (HB8.mono rB.size)⟩, rfl⟩)
                case measure => simp [intOf]; omega
              | some u =>
                have F2 := first_facts k op cl st sp ex la fl fa co ru x u h e
                obtain ⟨f1, f2, f3, f4, f5, u2, f6, f7⟩ := F2
                have T2 := hide (le_split (N2.out u e))
                clear N2
                have bn := bnd k op cl st sp ex la fl fa co ru h
                have f6' := hide f6
                have e' := hide e
                have f6w := hide (show firstL k op cl st sp ex la fl fa co ru (IntKind.i64.wrap (x + 1)) = some u2 from by (rw [Go.IntWalk.i64_left, show wrap64 (x + 1) = x + 1 from by (unfold wrap64; omega)]; exact f6))
                clear f6 e
                go_upto_region 24 with fail
                go_region_held3 (fun wq => Below wr.heap.size wr wq ∧ (w.heap.size < wq.heap.size ∧ ∀ o, wq.cell? ⟨w.heap.size, o, none⟩ = (#[Value.int .i64 k, Value.int .i64 op, Value.int .i64 cl, Value.int .i64 st, Value.int .i64 sp, Value.int .i64 ex, Value.int .i64 la, Value.int .i64 fl, Value.int .i64 fa, Value.int .i64 co, Value.int .i64 ru] : Array Value)[o]?) ∧ (b < wq.heap.size ∧ wq.cell? ⟨b, off + n, none⟩ = some (.int .i64 x))) (((try go_split_ands); refine ⟨?_, ⟨?_, ?_⟩, ⟨?_, ?_⟩⟩; (focus (first | (focus repeat' (first | (with_reducible exact Below.refl _ _) | (with_reducible assumption) | (with_reducible refine Below.alloc ?_ ?_ _) | (with_reducible refine Below.drew ?_) | (with_reducible refine bdrewN ?_ _) | (with_reducible refine Below.setCell ?_ ?_ _) | (first | (with_reducible exact Nat.le_refl _) | (with_reducible assumption) | omega | (simp; omega) | (simp; done)))))); (focus (first | (with_reducible assumption) | (simp; done) | omega | (simp; omega))); (focus (first | (with_reducible assumption) | (intro o; simp [go_sem, *]; done))); (focus (first | (with_reducible assumption) | (simp; done) | omega | (simp; omega))); (focus (first | (with_reducible assumption) | (simp [go_sem, *]; done)))))
                  (first | (go_at_call 13; refine (First_some k op cl st sp ex la fl fa co ru x u _ e'.out).mono ?_; rintro e w8 ⟨rfl, hb8⟩; (try go_split_ands); have HB8 : Below wr.heap.size wr w8 := bstep (by with_reducible assumption) hb8; have hz8 := hb8.size; (try simp only [World.size_drew, World.size_alloc] at hz8); (have hz8_0 : w.heap.size < w8.heap.size := by omega); (have hz8_1 : b < w8.heap.size := by omega); obtain ⟨hc8, hf8⟩ := bcell hb8; (try simp only [World.size_drew, World.size_alloc, World.cell?_drew, World.frozen?_drew] at hc8 hf8); (have HC8_0 : ∀ o, w8.cell? ⟨w.heap.size, o, none⟩ = (#[Value.int .i64 k, Value.int .i64 op, Value.int .i64 cl, Value.int .i64 st, Value.int .i64 sp, Value.int .i64 ex, Value.int .i64 la, Value.int .i64 fl, Value.int .i64 fa, Value.int .i64 co, Value.int .i64 ru] : Array Value)[o]? := by (intro o; simp [go_sem, *])); have HC8_1 : w8.cell? ⟨b, off + n, none⟩ = some (.int .i64 x) := (hb8.cell (p := ⟨b, off + n, none⟩) (by first | (with_reducible assumption) | (simp; done) | omega | (simp; omega))).trans (by first | (with_reducible assumption) | (simp [go_sem, *]; done))))
                clear hb8 hz8 hc8 hf8
                clear HCr hzr c1
                go_wp2_with fail
                refine (Price_ok k op cl st sp ex la fl fa co ru u _ h f1 f2).mono ?_
                rintro e w9 ⟨rfl, hb9⟩
                have HB9 : Below w8.heap.size w8 w9 := bstep (by (focus repeat' (first | (with_reducible exact Below.refl _ _) | (with_reducible assumption) | (with_reducible refine Below.alloc ?_ ?_ _) | (with_reducible refine Below.drew ?_) | (with_reducible refine bdrewN ?_ _) | (with_reducible refine Below.setCell ?_ ?_ _) | (first | (with_reducible exact Nat.le_refl _) | (with_reducible assumption) | omega | (simp; omega) | (simp; done))))) hb9
                have hz9 := hb9.size
                (try simp only [World.size_drew, World.size_alloc] at hz9)
                have hz9_0 : w.heap.size < w9.heap.size := by omega
                have HC9_0 : ∀ o, w9.cell? ⟨w.heap.size, o, none⟩ = (#[Value.int .i64 k, Value.int .i64 op, Value.int .i64 cl, Value.int .i64 st, Value.int .i64 sp, Value.int .i64 ex, Value.int .i64 la, Value.int .i64 fl, Value.int .i64 fa, Value.int .i64 co, Value.int .i64 ru] : Array Value)[o]? := fun o => (hb9.cell (p := ⟨w.heap.size, o, none⟩) (by first | (simp; done) | omega | (simp; omega))).trans (by first | (with_reducible assumption) | (simp [go_sem, *]; done))
                have HC9_1 : w9.cell? ⟨b, off + n, none⟩ = some (.int .i64 x) := (hb9.cell (p := ⟨b, off + n, none⟩) (by first | (with_reducible assumption) | (simp; done) | omega | (simp; omega))).trans (by first | (with_reducible assumption) | (simp [go_sem, *]; done))
                have hz9_1 : b < w9.heap.size := by omega
                clear hb9 hz9 HC8_0 hz8_0 HC8_1 hz8_1
                go_wp2_with fail
                refine (Price_gen k op cl st sp ex la fl fa co ru (u - 1) _ h).mono ?_
                rintro e w10 ⟨rfl, hb10⟩
                have HB10 : Below w8.heap.size w8 w10 := bstep (by (focus repeat' (first | (with_reducible exact Below.refl _ _) | (with_reducible assumption) | (with_reducible refine Below.alloc ?_ ?_ _) | (with_reducible refine Below.drew ?_) | (with_reducible refine bdrewN ?_ _) | (with_reducible refine Below.setCell ?_ ?_ _) | (first | (with_reducible exact Nat.le_refl _) | (with_reducible assumption) | omega | (simp; omega) | (simp; done))))) hb10
                have hz10 := hb10.size
                (try simp only [World.size_drew, World.size_alloc] at hz10)
                have hz10_0 : w.heap.size < w10.heap.size := by omega
                have HC10_0 : ∀ o, w10.cell? ⟨w.heap.size, o, none⟩ = (#[Value.int .i64 k, Value.int .i64 op, Value.int .i64 cl, Value.int .i64 st, Value.int .i64 sp, Value.int .i64 ex, Value.int .i64 la, Value.int .i64 fl, Value.int .i64 fa, Value.int .i64 co, Value.int .i64 ru] : Array Value)[o]? := fun o => (hb10.cell (p := ⟨w.heap.size, o, none⟩) (by first | (simp; done) | omega | (simp; omega))).trans (by first | (with_reducible assumption) | (simp [go_sem, *]; done))
                have HC10_1 : w10.cell? ⟨b, off + n, none⟩ = some (.int .i64 x) := (hb10.cell (p := ⟨b, off + n, none⟩) (by first | (with_reducible assumption) | (simp; done) | omega | (simp; omega))).trans (by first | (with_reducible assumption) | (simp [go_sem, *]; done))
                have hz10_1 : b < w10.heap.size := by omega
                clear hb10 hz10 HB9 HC9_1 hz9_1 HC9_0 hz9_0
                have D2 := hide f5
                clear f5
                generalize pE k op cl st sp ex la fl fa co ru (u - 1) = e1 at *
                generalize pV k op cl st sp ex la fl fa co ru (u - 1) = p1 at *
                generalize priceI op st fl fa u = at1 at *
                go_upto_region 28 with fail
                go_region_held3 (fun wq => Below w8.heap.size w8 wq ∧ (w.heap.size < wq.heap.size ∧ ∀ o, wq.cell? ⟨w.heap.size, o, none⟩ = (#[Value.int .i64 k, Value.int .i64 op, Value.int .i64 cl, Value.int .i64 st, Value.int .i64 sp, Value.int .i64 ex, Value.int .i64 la, Value.int .i64 fl, Value.int .i64 fa, Value.int .i64 co, Value.int .i64 ru] : Array Value)[o]?) ∧ (b < wq.heap.size ∧ wq.cell? ⟨b, off + n, none⟩ = some (.int .i64 x))) (((try go_split_ands); refine ⟨?_, ⟨?_, ?_⟩, ⟨?_, ?_⟩⟩; (focus (first | (focus repeat' (first | (with_reducible exact Below.refl _ _) | (with_reducible assumption) | (with_reducible refine Below.alloc ?_ ?_ _) | (with_reducible refine Below.drew ?_) | (with_reducible refine bdrewN ?_ _) | (with_reducible refine Below.setCell ?_ ?_ _) | (first | (with_reducible exact Nat.le_refl _) | (with_reducible assumption) | omega | (simp; omega) | (simp; done)))))); (focus (first | (with_reducible assumption) | (simp; done) | omega | (simp; omega))); (focus (first | (with_reducible assumption) | (intro o; simp [go_sem, *]; done))); (focus (first | (with_reducible assumption) | (simp; done) | omega | (simp; omega))); (focus (first | (with_reducible assumption) | (simp [go_sem, *]; done)))))
                  (first | (go_at_call 13; refine (First_some k op cl st sp ex la fl fa co ru _ u2 _ (by first | (with_reducible exact f6'.out) | (with_reducible exact f6w.out))).mono ?_; rintro e w12 ⟨rfl, hb12⟩; (try go_split_ands); have HB12 : Below w8.heap.size w8 w12 := bstep (by with_reducible assumption) hb12; have hz12 := hb12.size; (try simp only [World.size_drew, World.size_alloc] at hz12); (have hz12_0 : w.heap.size < w12.heap.size := by omega); (have hz12_1 : b < w12.heap.size := by omega); obtain ⟨hc12, hf12⟩ := bcell hb12; (try simp only [World.size_drew, World.size_alloc, World.cell?_drew, World.frozen?_drew] at hc12 hf12); (have HC12_0 : ∀ o, w12.cell? ⟨w.heap.size, o, none⟩ = (#[Value.int .i64 k, Value.int .i64 op, Value.int .i64 cl, Value.int .i64 st, Value.int .i64 sp, Value.int .i64 ex, Value.int .i64 la, Value.int .i64 fl, Value.int .i64 fa, Value.int .i64 co, Value.int .i64 ru] : Array Value)[o]? := by (intro o; simp [go_sem, *])); have HC12_1 : w12.cell? ⟨b, off + n, none⟩ = some (.int .i64 x) := (hb12.cell (p := ⟨b, off + n, none⟩) (by first | (with_reducible assumption) | (simp; done) | omega | (simp; omega))).trans (by first | (with_reducible assumption) | (simp [go_sem, *]; done))))
                clear hb12 hz12 hc12 hf12
                clear HB10 HC10_0 hz10_0 HC10_1 hz10_1
                go_upto_region 29 with fail
                go_cut [255] from 148 to 255 (fun s wx => s = .bool false ∧ wx = w12)
                case first =>
                  rcases D2.out with q1 | ⟨q1, q2⟩
                  · have q5 : (e1 == 0) = false := by simp [q1]
                    clear D2
                    rcases T2.out with q6 | q6
                    · have q7 : (u == t) = false := by (simp; omega)
                      have q8 : ¬ u < t := by omega
                      clear T2
                      go_wp2_with (go_at_call 11; go_in)
                      go_meet
                      exact ⟨by first | rfl | (simp; omega), rfl⟩
                    · obtain ⟨rfl, q6⟩ := q6
                      clear T2
                      go_wp2_with (go_at_call 11; go_in)
                      go_meet
                      exact ⟨by first | rfl | (simp; omega), rfl⟩
                  · subst q1
                    clear D2
                    rcases T2.out with q6 | q6
                    · have q7 : (u == t) = false := by (simp; omega)
                      have q8 : ¬ u < t := by omega
                      clear T2
                      go_wp2_with (go_at_call 11; go_in)
                      go_meet
                      exact ⟨by first | rfl | (simp; omega), rfl⟩
                    · obtain ⟨rfl, q6⟩ := q6
                      clear T2
                      go_wp2_with (go_at_call 11; go_in)
                      go_meet
                      exact ⟨by first | rfl | (simp; omega), rfl⟩
                case rest =>
                  obtain ⟨rfl, hwc⟩ := hcut
                  have hwc := hwc.symm
                  subst hwc
                  clear D2 T2
                  go_wp2
                  go_roundw
                  case rel => first | exact ⟨n + 1, by omega, by go_num, ((rB.trans (HB8.mono rB.size)).trans (HB12.mono (Nat.le_trans rB.size HB8.size)))⟩ | ((repeat apply Exists.intro); exact ⟨⟨n + 1, by omega, by go_num, ((rB.trans (HB8.mono rB.size)).trans (HB12.mono (Nat.le_trans rB.size HB8.size)))⟩, rfl⟩)
                  case measure => simp [intOf]; omega

        · have hle : 300 ≤ n := by omega
          have cr := (rB.cell (p := ⟨b, off + i, none⟩) b7).trans cx
          have HCg : ∀ o, wr.cell? ⟨g, o, none⟩ = (#[Value.int .i64 k, Value.int .i64 op, Value.int .i64 cl, Value.int .i64 st, Value.int .i64 sp, Value.int .i64 ex, Value.int .i64 la, Value.int .i64 fl, Value.int .i64 fa, Value.int .i64 co, Value.int .i64 ru, Value.pointer none] : Array Value)[o]? := fun o => (rB.cell (p := ⟨g, o, none⟩) gg7).trans (gc7.out o)
          have HFg : ∀ o, wr.frozen? ⟨g, o, none⟩ = false := fun o => (rB.frozen (p := ⟨g, o, none⟩) gg7).trans (gf7.out o)
          have ggr : g < wr.heap.size := by (have := rB.size; omega)
          have bn := bnd k op cl st sp ex la fl fa co ru h
          clear A7 HC7_0 hlost HCr
          go_wp2_with fail
          refine (Bid_ok k op cl st sp ex la fl fa co ru (i : Int) t xi 1099511627776 g wr h ggr HCg HFg (by omega) (by omega) (by omega) v1 v2 (by decide) (by decide) o1 o2 (by rw [hP.out]; exact o3) (by rw [hP.out]; omega)).mono ?_
          rintro e wz ⟨a, rfl, ho, _, _, _, _⟩
          rw [hP.out]
          have HBz : Below w.heap.size w wz := Only.below HBr ho (by omega) (by omega)
          clear ho HCg HFg
          go_wp2_with (go_at_call 11; go_in)
          go_ret
          exact ⟨by first | rfl | (simp; done), HBz⟩
      · have hle : ¬ ((n : Int) < (zs.length : Int)) := by omega
        have cr := (rB.cell (p := ⟨b, off + i, none⟩) b7).trans cx
        have HCg : ∀ o, wr.cell? ⟨g, o, none⟩ = (#[Value.int .i64 k, Value.int .i64 op, Value.int .i64 cl, Value.int .i64 st, Value.int .i64 sp, Value.int .i64 ex, Value.int .i64 la, Value.int .i64 fl, Value.int .i64 fa, Value.int .i64 co, Value.int .i64 ru, Value.pointer none] : Array Value)[o]? := fun o => (rB.cell (p := ⟨g, o, none⟩) gg7).trans (gc7.out o)
        have HFg : ∀ o, wr.frozen? ⟨g, o, none⟩ = false := fun o => (rB.frozen (p := ⟨g, o, none⟩) gg7).trans (gf7.out o)
        have ggr : g < wr.heap.size := by (have := rB.size; omega)
        have bn := bnd k op cl st sp ex la fl fa co ru h
        clear A7 HC7_0 hlost HCr
        go_wp2_with fail
        refine (Bid_ok k op cl st sp ex la fl fa co ru (i : Int) t xi 1099511627776 g wr h ggr HCg HFg (by omega) (by omega) (by omega) v1 v2 (by decide) (by decide) o1 o2 (by rw [hP.out]; exact o3) (by rw [hP.out]; omega)).mono ?_
        rintro e wz ⟨a, rfl, ho, _, _, _, _⟩
        rw [hP.out]
        have HBz : Below w.heap.size w wz := Only.below HBr ho (by omega) (by omega)
        clear ho HCg HFg
        go_wp2_with (go_at_call 11; go_in)
        go_ret
        exact ⟨by first | rfl | (simp; done), HBz⟩
end Go.Proofs.Ytiopohdhadilfaa
