import Derived.Test.YtehpjipmlpaflaaUi
namespace Go.Proofs.Ytehpjipmlpaflaa.un
open Go.ChangeShapes Go.WideShapes Go.ChangeAt Go.RowKit Go.Deep Go.Shelf
set_option linter.unusedSimpArgs false
set_option linter.unusedVariables false

attribute [local go_sem] Oper.semAt_some

def sumTo (xs : List Int) : Nat → Int
  | 0 => 0
  | k + 1 => sumTo xs k + at0 xs k
theorem sumTo_bounds {xs : List Int} (h : ∀ k, k < xs.length → okC (at0 xs k)) : ∀ k, k ≤ xs.length → 0 ≤ sumTo xs k ∧ sumTo xs k ≤ (k : Int) * 1099511627776
  | 0, _ => ⟨by simp [sumTo], by simp [sumTo]⟩
  | k + 1, hk => by
    obtain ⟨h1, h2⟩ := sumTo_bounds h k (by omega)
    obtain ⟨h3, h4⟩ := h k (by omega)
    rw [sumTo]
    refine ⟨by omega, ?_⟩
    have : ((k + 1 : Nat) : Int) * 1099511627776 = (k : Int) * 1099511627776 + 1099511627776 := by omega
    omega
/-- what one gains -/
def gainI (p : Int) (n : Nat) (xs : List Int) : Int := sumTo xs (min xs.length n) - p * (n : Int)
theorem pn_bounds {p : Int} {n : Nat} (hp0 : 0 ≤ p) (hp1 : p ≤ 1099511627776) (hn : n ≤ 64) : 0 ≤ p * (n : Int) ∧ p * (n : Int) ≤ 70368744177664 := by
  refine ⟨Int.mul_nonneg hp0 (by omega), ?_⟩
  refine Int.le_trans (Int.mul_le_mul hp1 (show (n : Int) ≤ 64 by omega) (by omega) (by decide)) (by decide)

set_option maxRecDepth 100000 in
set_option maxHeartbeats 4000000 in
theorem gain_a (p nx : Int) (n b : Nat) (won xs : List Int) (so sw : Option Addr) (cap cw : Nat) (w : World) (h1 : IRow so won w) (hb : b < won.length) (hy : at0 won b = (n : Int)) (hn : n ≤ 64) (hp0 : 0 ≤ p) (hp1 : p ≤ 1099511627776) (h2 : IRow sw xs w) (hok : ∀ k, k < xs.length → okC (at0 xs k)) (hxl : xs.length ≤ 64) (hcap : xs.length ≤ cw) (hc : n < xs.length) : Calls Try.prog 40 #[.slice sw xs.length cw, .agg #[.int .i64 p, .slice so won.length cap, .int .i64 nx], .int .i64 (b : Int)] w fun e w' => e = .returned (.int .i64 (gainI p n xs)) ∧ Below w.heap.size w w' := by
  obtain ⟨bb, off, rfl, c1⟩ := h1.cell hb
  have hbz := cell_lt c1
  rw [hy] at c1
  obtain ⟨hq0, hq1⟩ := pn_bounds hp0 hp1 hn
  have H2 := hide h2
  have HSB := hide (sumTo_bounds hok)
  have HOK := hide hok
  have hb' : (b : Int) < (won.length : Int) := by omega
  have hb0 : (0 : Int) ≤ (b : Int) := by omega
  have hneg : (-p) * (n : Int) = -(p * (n : Int)) := Int.neg_mul p n
  obtain ⟨t, ht⟩ : ∃ t, t = p * (n : Int) := ⟨_, rfl⟩
  rw [← ht] at hq0 hq1 hneg
  have e0 : wrap64 (-p) = -p := by (unfold wrap64; omega)
  have e00 : IntKind.i64.wrap (-p) = -p := IntWalk.i64_in _ (by omega)
  have e1 : wrap64 ((-p) * (n : Int)) = -t := by (rw [hneg]; unfold wrap64; omega)
  have e2 : IntKind.i64.wrap ((-p) * (n : Int)) = -t := by (rw [hneg]; exact IntWalk.i64_in _ (by omega))
  have HT := hide ht
  have hGI : Hid (gainI p n xs = sumTo xs n - t) := hide (by rw [gainI, show min xs.length n = n by omega, ht])
  have hc' : (n : Int) < (xs.length : Int) := by omega
  have hncw : n ≤ cw := by omega
  clear h1 h2 hy hok ht
  go_enter Try.func40, Try.ntmps40
  go_wp2_with fail
  obtain ⟨W1, hW1⟩ : ∃ W1, W1 = w.alloc (.cells #[.int .i64 p, .slice (some ⟨bb, off, none⟩) won.length cap, .int .i64 nx] 30) := ⟨_, rfl⟩
  have hb1 : Below w.heap.size w W1 := by rw [hW1]; exact (Below.refl _ _).alloc (Nat.le_refl _) _
  have c2 : W1.cell? ⟨bb, off + b, none⟩ = some (.int .i64 (n : Int)) := (hb1.cell (p := ⟨bb, off + b, none⟩) hbz).trans c1
  have c3 : W1.cell? ⟨w.heap.size, 0, none⟩ = some (.int .i64 p) := by rw [hW1]; simp [go_sem]
  have c4 : W1.cell? ⟨w.heap.size, 1, none⟩ = some (.slice (some ⟨bb, off, none⟩) won.length cap) := by rw [hW1]; simp [go_sem]
  rw [← hW1]
  have HB1 := hide hb1
  clear hW1 hb1 c1
  go_quiet (fail)
  go_wp2_with fail
  go_loopw [7, 30] (fun v7 v30 wr => ∃ k : Nat, k ≤ n ∧ v30 = .int .i64 (k : Int) ∧ v7 = .int .i64 (sumTo xs k - t) ∧ Below W1.heap.size W1 wr) (fun _ v30 _ => n - (intOf v30).toNat)
  case atStart => exact ⟨0, Nat.zero_le _, rfl, by simp [sumTo], by (focus repeat' (first | (with_reducible exact Below.refl _ _) | (with_reducible assumption) | (with_reducible refine Below.alloc ?_ ?_ _) | (with_reducible refine Below.drew ?_) | (with_reducible refine bdrewN ?_ _) | (with_reducible refine Below.setCell ?_ ?_ _) | (first | (with_reducible exact Nat.le_refl _) | (with_reducible assumption) | omega | (simp; omega) | (simp; done))))⟩
  case round =>
    obtain ⟨k, hk, rfl, rfl, hbk⟩ := hrel
    have HBK := hide hbk
    have hk0 : (0 : Int) ≤ (k : Int) := by omega
    clear hbk
    by_cases hlt : k < n
    · have hlt' : (k : Int) < (n : Nat) := by omega
      obtain ⟨b2, off2, rfl, ck⟩ := ((H2.out.below HB1.out).below HBK.out).cell (show k < xs.length by omega)
      obtain ⟨s1, s2⟩ := HSB.out k (by omega)
      obtain ⟨y0, y1⟩ := HOK.out k (by omega)
      have HSS := hide (show sumTo xs (k + 1) = sumTo xs k + at0 xs k from rfl)
      obtain ⟨y, hy2⟩ : ∃ y, y = at0 xs k := ⟨_, rfl⟩
      obtain ⟨s, hs2⟩ : ∃ s, s = sumTo xs k := ⟨_, rfl⟩
      rw [← hy2] at ck y0 y1
      rw [← hs2] at s1 s2 ⊢
      have HY := hide hy2
      have HS := hide hs2
      have hk64 : (k : Int) ≤ 64 := by omega
      have s3 : s ≤ 70368744177664 := by omega
      obtain ⟨q, hq⟩ : ∃ q, q = s - t := ⟨_, rfl⟩
      rw [← hq]
      have HQ := hide hq
      have q1 : -70368744177664 ≤ q := by omega
      have q2 : q ≤ 70368744177664 := by omega
      clear hy2 hs2 s2 hq
      go_wp2_with fail
      go_roundw
      case rel => exact ⟨k + 1, by omega, by go_num, by (rw [HSS.out, ← HY.out, ← HS.out]; have := HQ.out; first | (rw [show s + y - t = q + y by omega]; done) | (rw [show s + y - t = q + y by omega]; rfl) | (rw [show s + y - t = q + y by omega]; congr 1; unfold wrap64; omega)), by (have := HBK.out; (focus repeat' (first | (with_reducible exact Below.refl _ _) | (with_reducible assumption) | (with_reducible refine Below.alloc ?_ ?_ _) | (with_reducible refine Below.drew ?_) | (with_reducible refine bdrewN ?_ _) | (with_reducible refine Below.setCell ?_ ?_ _) | (first | (with_reducible exact Nat.le_refl _) | (with_reducible assumption) | omega | (simp; omega) | (simp; done)))))⟩
      case measure => (first | (simp [intOf]; done) | (simp [intOf]; omega))
    · obtain rfl : n = k := by omega
      go_wp2_with fail
      refine bodyPost_ret (v := .int .i64 (sumTo xs n - t)) (by simp [results, Try.f40, go_sem]) rfl ⟨by rw [hGI.out], bstep HB1.out HBK.out⟩

set_option maxRecDepth 100000 in
set_option maxHeartbeats 4000000 in
theorem gain_b (p nx : Int) (n b : Nat) (won xs : List Int) (so sw : Option Addr) (cap cw : Nat) (w : World) (h1 : IRow so won w) (hb : b < won.length) (hy : at0 won b = (n : Int)) (hn : n ≤ 64) (hp0 : 0 ≤ p) (hp1 : p ≤ 1099511627776) (h2 : IRow sw xs w) (hok : ∀ k, k < xs.length → okC (at0 xs k)) (hxl : xs.length ≤ 64) (hcap : xs.length ≤ cw) (hc : xs.length ≤ n) : Calls Try.prog 40 #[.slice sw xs.length cw, .agg #[.int .i64 p, .slice so won.length cap, .int .i64 nx], .int .i64 (b : Int)] w fun e w' => e = .returned (.int .i64 (gainI p n xs)) ∧ Below w.heap.size w w' := by
  obtain ⟨bb, off, rfl, c1⟩ := h1.cell hb
  have hbz := cell_lt c1
  rw [hy] at c1
  obtain ⟨hq0, hq1⟩ := pn_bounds hp0 hp1 hn
  have H2 := hide h2
  have HSB := hide (sumTo_bounds hok)
  have HOK := hide hok
  have hb' : (b : Int) < (won.length : Int) := by omega
  have hb0 : (0 : Int) ≤ (b : Int) := by omega
  have hneg : (-p) * (n : Int) = -(p * (n : Int)) := Int.neg_mul p n
  obtain ⟨t, ht⟩ : ∃ t, t = p * (n : Int) := ⟨_, rfl⟩
  rw [← ht] at hq0 hq1 hneg
  have e0 : wrap64 (-p) = -p := by (unfold wrap64; omega)
  have e00 : IntKind.i64.wrap (-p) = -p := IntWalk.i64_in _ (by omega)
  have e1 : wrap64 ((-p) * (n : Int)) = -t := by (rw [hneg]; unfold wrap64; omega)
  have e2 : IntKind.i64.wrap ((-p) * (n : Int)) = -t := by (rw [hneg]; exact IntWalk.i64_in _ (by omega))
  have HT := hide ht
  have hGI : Hid (gainI p n xs = sumTo xs xs.length - t) := hide (by rw [gainI, show min xs.length n = xs.length by omega, ht])
  have hc' : (xs.length : Int) ≤ (n : Int) := by omega
  clear h1 h2 hy hok ht
  go_enter Try.func40, Try.ntmps40
  go_wp2_with fail
  obtain ⟨W1, hW1⟩ : ∃ W1, W1 = w.alloc (.cells #[.int .i64 p, .slice (some ⟨bb, off, none⟩) won.length cap, .int .i64 nx] 30) := ⟨_, rfl⟩
  have hb1 : Below w.heap.size w W1 := by rw [hW1]; exact (Below.refl _ _).alloc (Nat.le_refl _) _
  have c2 : W1.cell? ⟨bb, off + b, none⟩ = some (.int .i64 (n : Int)) := (hb1.cell (p := ⟨bb, off + b, none⟩) hbz).trans c1
  have c3 : W1.cell? ⟨w.heap.size, 0, none⟩ = some (.int .i64 p) := by rw [hW1]; simp [go_sem]
  have c4 : W1.cell? ⟨w.heap.size, 1, none⟩ = some (.slice (some ⟨bb, off, none⟩) won.length cap) := by rw [hW1]; simp [go_sem]
  rw [← hW1]
  have HB1 := hide hb1
  clear hW1 hb1 c1
  go_quiet (fail)
  go_wp2_with fail
  go_loopw [7, 30] (fun v7 v30 wr => ∃ k : Nat, k ≤ xs.length ∧ v30 = .int .i64 (k : Int) ∧ v7 = .int .i64 (sumTo xs k - t) ∧ Below W1.heap.size W1 wr) (fun _ v30 _ => xs.length - (intOf v30).toNat)
  case atStart => exact ⟨0, Nat.zero_le _, rfl, by simp [sumTo], by (focus repeat' (first | (with_reducible exact Below.refl _ _) | (with_reducible assumption) | (with_reducible refine Below.alloc ?_ ?_ _) | (with_reducible refine Below.drew ?_) | (with_reducible refine bdrewN ?_ _) | (with_reducible refine Below.setCell ?_ ?_ _) | (first | (with_reducible exact Nat.le_refl _) | (with_reducible assumption) | omega | (simp; omega) | (simp; done))))⟩
  case round =>
    obtain ⟨k, hk, rfl, rfl, hbk⟩ := hrel
    have HBK := hide hbk
    have hk0 : (0 : Int) ≤ (k : Int) := by omega
    clear hbk
    by_cases hlt : k < xs.length
    · have hlt' : (k : Int) < (xs.length : Nat) := by omega
      obtain ⟨b2, off2, rfl, ck⟩ := ((H2.out.below HB1.out).below HBK.out).cell (show k < xs.length by omega)
      obtain ⟨s1, s2⟩ := HSB.out k (by omega)
      obtain ⟨y0, y1⟩ := HOK.out k (by omega)
      have HSS := hide (show sumTo xs (k + 1) = sumTo xs k + at0 xs k from rfl)
      obtain ⟨y, hy2⟩ : ∃ y, y = at0 xs k := ⟨_, rfl⟩
      obtain ⟨s, hs2⟩ : ∃ s, s = sumTo xs k := ⟨_, rfl⟩
      rw [← hy2] at ck y0 y1
      rw [← hs2] at s1 s2 ⊢
      have HY := hide hy2
      have HS := hide hs2
      have hk64 : (k : Int) ≤ 64 := by omega
      have s3 : s ≤ 70368744177664 := by omega
      obtain ⟨q, hq⟩ : ∃ q, q = s - t := ⟨_, rfl⟩
      rw [← hq]
      have HQ := hide hq
      have q1 : -70368744177664 ≤ q := by omega
      have q2 : q ≤ 70368744177664 := by omega
      clear hy2 hs2 s2 hq
      go_wp2_with fail
      go_roundw
      case rel => exact ⟨k + 1, by omega, by go_num, by (rw [HSS.out, ← HY.out, ← HS.out]; have := HQ.out; first | (rw [show s + y - t = q + y by omega]; done) | (rw [show s + y - t = q + y by omega]; rfl) | (rw [show s + y - t = q + y by omega]; congr 1; unfold wrap64; omega)), by (have := HBK.out; (focus repeat' (first | (with_reducible exact Below.refl _ _) | (with_reducible assumption) | (with_reducible refine Below.alloc ?_ ?_ _) | (with_reducible refine Below.drew ?_) | (with_reducible refine bdrewN ?_ _) | (with_reducible refine Below.setCell ?_ ?_ _) | (first | (with_reducible exact Nat.le_refl _) | (with_reducible assumption) | omega | (simp; omega) | (simp; done)))))⟩
      case measure => (first | (simp [intOf]; done) | (simp [intOf]; omega))
    · obtain rfl : xs.length = k := by omega
      go_wp2_with fail
      refine bodyPost_ret (v := .int .i64 (sumTo xs xs.length - t)) (by simp [results, Try.f40, go_sem]) rfl ⟨by rw [hGI.out], bstep HB1.out HBK.out⟩

theorem gain_c (p nx : Int) (n b : Nat) (won xs : List Int) (so sw : Option Addr) (cap cw : Nat) (w : World) (h1 : IRow so won w) (hb : b < won.length) (hy : at0 won b = (n : Int)) (hn : n ≤ 64) (hp0 : 0 ≤ p) (hp1 : p ≤ 1099511627776) (h2 : IRow sw xs w) (hok : ∀ k, k < xs.length → okC (at0 xs k)) (hxl : xs.length ≤ 64) (hcap : xs.length ≤ cw) : Calls Try.prog 40 #[.slice sw xs.length cw, .agg #[.int .i64 p, .slice so won.length cap, .int .i64 nx], .int .i64 (b : Int)] w fun e w' => e = .returned (.int .i64 (gainI p n xs)) ∧ Below w.heap.size w w' := by
  rcases Nat.lt_or_ge n xs.length with hc | hc
  rotate_left
  · exact gain_b p nx n b won xs so sw cap cw w h1 hb hy hn hp0 hp1 h2 hok hxl hcap hc
  · exact gain_a p nx n b won xs so sw cap cw w h1 hb hy hn hp0 hp1 h2 hok hxl hcap hc

theorem gainI_next (p : Int) (i : Nat) (xs : List Int) : gainI p (i + 1) xs = gainI p i xs + (if i < xs.length then at0 xs i else 0) - p := by
  unfold gainI
  have e : p * ((i + 1 : Nat) : Int) = p * (i : Int) + p := by
    rw [show ((i + 1 : Nat) : Int) = (i : Int) + 1 by omega, Int.mul_add, Int.mul_one]
  rw [e]
  split
  · rename_i h
    rw [show min xs.length (i + 1) = i + 1 by omega, show min xs.length i = i by omega, sumTo]
    omega
  · rename_i h
    rw [show min xs.length (i + 1) = min xs.length i by omega]
    omega
theorem gainI_zero (p : Int) (xs : List Int) : gainI p 0 xs = 0 := by simp [gainI, sumTo]
theorem gainI_bounds {p : Int} {i : Nat} {xs : List Int} (hp0 : 0 ≤ p) (hp1 : p ≤ 1099511627776) (hi : i ≤ 64) (hok : ∀ k, k < xs.length → okC (at0 xs k)) : -70368744177664 ≤ gainI p i xs ∧ gainI p i xs ≤ 70368744177664 := by
  obtain ⟨h1, h2⟩ := pn_bounds hp0 hp1 hi
  obtain ⟨h3, h4⟩ := sumTo_bounds hok (min xs.length i) (by omega)
  unfold gainI
  omega
set_option maxRecDepth 100000 in
set_option maxHeartbeats 4000000 in
theorem rgain_c (p nx : Int) (n b : Nat) (won xs : List Int) (so sw : Option Addr) (cap cw : Nat) (w : World) (h1 : IRow so won w) (hb : b < won.length) (hy : at0 won b = (n : Int)) (hn : n ≤ 64) (hp0 : 0 ≤ p) (hp1 : p ≤ 1099511627776) (h2 : IRow sw xs w) (hok : ∀ k, k < xs.length → okC (at0 xs k)) (hxl : xs.length ≤ 64) : Calls Try.prog 41 #[.slice sw xs.length cw, .agg #[.int .i64 p, .slice so won.length cap, .int .i64 nx], .int .i64 (b : Int)] w fun e w' => e = .returned (.int .i64 (gainI p n xs)) ∧ Below w.heap.size w w' := by
  obtain ⟨bb, off, rfl, c1⟩ := h1.cell hb
  have hbz := cell_lt c1
  rw [hy] at c1
  have H2 := hide h2
  have HOK := hide hok
  have hb' : (b : Int) < (won.length : Int) := by omega
  have hb0 : (0 : Int) ≤ (b : Int) := by omega
  clear h1 h2 hy hok
  go_enter Try.func41, Try.ntmps41
  go_wp2_with fail
  obtain ⟨W1, hW1⟩ : ∃ W1, W1 = w.alloc (.cells #[.int .i64 p, .slice (some ⟨bb, off, none⟩) won.length cap, .int .i64 nx] 30) := ⟨_, rfl⟩
  have hb1 : Below w.heap.size w W1 := by rw [hW1]; exact (Below.refl _ _).alloc (Nat.le_refl _) _
  have c2 : W1.cell? ⟨bb, off + b, none⟩ = some (.int .i64 (n : Int)) := (hb1.cell (p := ⟨bb, off + b, none⟩) hbz).trans c1
  have c3 : W1.cell? ⟨w.heap.size, 0, none⟩ = some (.int .i64 p) := by rw [hW1]; simp [go_sem]
  have c4 : W1.cell? ⟨w.heap.size, 1, none⟩ = some (.slice (some ⟨bb, off, none⟩) won.length cap) := by rw [hW1]; simp [go_sem]
  rw [← hW1]
  have HB1 := hide hb1
  clear hW1 hb1 c1
  go_loop [7, 8] (fun v7 v8 => ∃ i : Nat, i ≤ n ∧ v8 = .int .i64 (i : Int) ∧ v7 = .int .i64 (gainI p i xs)) (fun _ v8 => n - (intOf v8).toNat)
  case atStart => exact ⟨0, Nat.zero_le _, rfl, by rw [gainI_zero]⟩
  case round =>
    obtain ⟨i, hi, rfl, rfl⟩ := hrel
    have hi0 : (0 : Int) ≤ (i : Int) := by omega
    by_cases hlt : i < n
    · have hlt' : (i : Int) < (n : Int) := by omega
      have HN := hide (gainI_next p i xs)
      obtain ⟨g1, g2⟩ := gainI_bounds (i := i) hp0 hp1 (by omega) HOK.out
      obtain ⟨g, hg⟩ : ∃ g, g = gainI p i xs := ⟨_, rfl⟩
      rw [← hg] at g1 g2 ⊢
      have HG := hide hg
      clear hg
      by_cases hl : i < xs.length
      · have hl' : (i : Int) < (xs.length : Int) := by omega
        obtain ⟨b2, off2, rfl, ck⟩ := (H2.out.below HB1.out).cell hl
        obtain ⟨y0, y1⟩ := HOK.out i hl
        obtain ⟨y, hy2⟩ : ∃ y, y = at0 xs i := ⟨_, rfl⟩
        rw [← hy2] at ck y0 y1
        have HY := hide hy2
        clear hy2
        go_wp2_with fail
        go_round
        case rel =>
          refine ⟨i + 1, by omega, by go_num, ?_⟩
          rw [HN.out, if_pos hl, ← HG.out, ← HY.out]
          all_goals (first | rfl | (congr 1; unfold wrap64; omega) | go_num)
        case measure => (first | (simp [intOf]; done) | (simp [intOf]; omega))
      · have hl' : (xs.length : Int) ≤ (i : Int) := by omega
        go_wp2_with fail
        go_round
        case rel =>
          refine ⟨i + 1, by omega, by go_num, ?_⟩
          rw [HN.out, if_neg hl, ← HG.out]
          all_goals first | rfl | (congr 1; done) | (congr 1; omega) | (congr 1; unfold wrap64; omega) | go_num
        case measure => (first | (simp [intOf]; done) | (simp [intOf]; omega))
    · obtain rfl : n = i := by omega
      go_wp2_with fail
      refine bodyPost_ret (v := .int .i64 (gainI p n xs)) (by simp [results, Try.f41, go_sem]) rfl ⟨rfl, HB1.out⟩
end Go.Proofs.Ytehpjipmlpaflaa.un
