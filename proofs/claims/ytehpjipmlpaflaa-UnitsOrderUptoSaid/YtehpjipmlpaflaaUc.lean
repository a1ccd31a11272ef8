import Derived.Test.YtehpjipmlpaflaaUb
namespace Go.Proofs.Ytehpjipmlpaflaa.un
open Go.ChangeShapes Go.WideShapes Go.ChangeAt Go.RowKit Go.Deep Go.Shelf
set_option linter.unusedSimpArgs false
set_option linter.unusedVariables false

attribute [local go_sem] Oper.semAt_some

theorem IRow.cell {so : Option Addr} {xs : List Int} {w : World} (h : IRow so xs w) {k : Nat} (hk : k < xs.length) : ∃ b off, so = some ⟨b, off, none⟩ ∧ w.cell? ⟨b, off + k, none⟩ = some (.int .i64 (at0 xs k)) := by
  obtain ⟨b, off, e, hc⟩ := h.spot (by omega)
  exact ⟨b, off, e, hc k hk⟩
theorem IRow.of_own {W : World} {base : Nat} {e : TypeId} {ao : Option Addr} {n c : Nat} {xs : List Int} (own : W.ownsRow base e 1 (.slice ao n c) n (xs.map I64)) : IRow ao xs W := by
  have hn : xs.length = n := by have := own.1; simpa using this
  subst hn
  refine ⟨fun h0 => ?_⟩
  rcases own.2 with ⟨_, h1⟩ | ⟨g, cap, cur, hv, _⟩
  · omega
  · obtain ⟨rfl, rfl⟩ : ao = some ⟨g, 0, none⟩ ∧ c = cap := by (injection hv with e1 e2 e3; exact ⟨e1, e3⟩)
    refine ⟨g, 0, rfl, fun k hk => ?_⟩
    rw [Nat.zero_add, own.cellAt k (by omega), List.getElem?_map, List.getElem?_eq_getElem hk]
    simp [at0, List.getElem?_eq_getElem hk]
set_option maxHeartbeats 2000000 in
theorem SameInts_yes (xs : List Int) (so so2 : Option Addr) (cap cap2 : Nat) (w : World) (h1 : IRow so xs w) (h2 : IRow so2 xs w) (hl : xs.length ≤ 9000000) : Calls Try.prog 28 #[.slice so xs.length cap, .slice so2 xs.length cap2] w fun e w' => e = .returned (.bool true) ∧ Below w.heap.size w w' := by
  have H1 := hide h1
  have H2 := hide h2
  have q1 : decide ((xs.length : Int) = (xs.length : Int)) = true := by simp
  have q2 : ((xs.length : Int) == (xs.length : Int)) = true := by simp
  have q3 : ((xs.length : Int) != (xs.length : Int)) = false := by simp
  clear h1 h2
  go_enter Try.func28, Try.ntmps28
  go_wp2_with fail
  go_loopw [5] (fun v5 wr => ∃ k : Nat, k ≤ xs.length ∧ v5 = .int .i64 (k : Int) ∧ Below w.heap.size w wr) (fun v5 _ => xs.length - (intOf v5).toNat)
  case atStart => exact ⟨0, Nat.zero_le _, rfl, Below.refl _ _⟩
  case round =>
    obtain ⟨k, hk, rfl, hbw⟩ := hrel
    have HBW := hide hbw
    have hk0 : (0 : Int) ≤ (k : Int) := by omega
    clear hbw
    by_cases hlt : k < xs.length
    · have hlt' : (k : Int) < (xs.length : Int) := by omega
      obtain ⟨b, off, rfl, c1⟩ := (H1.out.below HBW.out).cell hlt
      obtain ⟨b2, off2, rfl, c2⟩ := (H2.out.below HBW.out).cell hlt
      obtain ⟨x, hx⟩ : ∃ x, x = at0 xs k := ⟨_, rfl⟩
      rw [← hx] at c1 c2
      have d1 : decide (x = x) = true := by simp
      have d2 : (x == x) = true := by simp
      have d3 : (x != x) = false := by simp
      clear hx
      go_wp2_with fail
      go_quiet (fail)
      go_wp2_with fail
      go_roundw
      case rel => exact ⟨k + 1, by omega, by go_num, by (have := HBW.out; (focus repeat' (first | (with_reducible exact Below.refl _ _) | (with_reducible assumption) | (with_reducible refine Below.alloc ?_ ?_ _) | (with_reducible refine Below.drew ?_) | (with_reducible refine bdrewN ?_ _) | (with_reducible refine Below.setCell ?_ ?_ _) | (first | (with_reducible exact Nat.le_refl _) | (with_reducible assumption) | omega | (simp; omega) | (simp; done)))))⟩
      case measure => (first | (simp [intOf]; done) | (simp [intOf]; omega))
    · obtain rfl : k = xs.length := by omega
      go_wp2
      refine bodyPost_ret (v := .bool true) (by simp [results, Try.f28, go_sem]) rfl ⟨rfl, by (have := HBW.out; (focus repeat' (first | (with_reducible exact Below.refl _ _) | (with_reducible assumption) | (with_reducible refine Below.alloc ?_ ?_ _) | (with_reducible refine Below.drew ?_) | (with_reducible refine bdrewN ?_ _) | (with_reducible refine Below.setCell ?_ ?_ _) | (first | (with_reducible exact Nat.le_refl _) | (with_reducible assumption) | omega | (simp; omega) | (simp; done)))))⟩
set_option maxHeartbeats 2000000 in
theorem Same_yes (p nx : Int) (xs : List Int) (so so2 : Option Addr) (cap cap2 : Nat) (w : World) (h1 : IRow so xs w) (h2 : IRow so2 xs w) (hl : xs.length ≤ 9000000) : Calls Try.prog 14 #[.agg #[.int .i64 p, .slice so xs.length cap, .int .i64 nx], .agg #[.int .i64 p, .slice so2 xs.length cap2, .int .i64 nx]] w fun e w' => e = .returned (.bool true) ∧ Below w.heap.size w w' := by
  have H1 := hide h1
  have H2 := hide h2
  have q1 : decide (p = p) = true := by simp
  have q2 : (p == p) = true := by simp
  have q3 : decide (nx = nx) = true := by simp
  have q4 : (nx == nx) = true := by simp
  clear h1 h2
  go_enter Try.func14, Try.ntmps14
  go_wp2_with fail
  have hb0 : Below w.heap.size w ((w.alloc (.cells #[.int .i64 p, .slice so xs.length cap, .int .i64 nx] 30)).alloc (.cells #[.int .i64 p, .slice so2 xs.length cap2, .int .i64 nx] 30)) := by (focus repeat' (first | (with_reducible exact Below.refl _ _) | (with_reducible assumption) | (with_reducible refine Below.alloc ?_ ?_ _) | (with_reducible refine Below.drew ?_) | (with_reducible refine bdrewN ?_ _) | (with_reducible refine Below.setCell ?_ ?_ _) | (first | (with_reducible exact Nat.le_refl _) | (with_reducible assumption) | omega | (simp; omega) | (simp; done))))
  refine (SameInts_yes xs so so2 cap cap2 _ (H1.out.below hb0) (H2.out.below hb0) hl).mono ?_
  rintro e w5 ⟨rfl, hb5⟩
  have a0 : w5.cell? ⟨w.heap.size, 0, none⟩ = some (.int .i64 p) := (hb5.cell (p := ⟨w.heap.size, 0, none⟩) (by simp; omega)).trans (by simp [go_sem])
  have a2 : w5.cell? ⟨w.heap.size, 2, none⟩ = some (.int .i64 nx) := (hb5.cell (p := ⟨w.heap.size, 2, none⟩) (by simp; omega)).trans (by simp [go_sem])
  have b0 : w5.cell? ⟨w.heap.size + 1, 0, none⟩ = some (.int .i64 p) := (hb5.cell (p := ⟨w.heap.size + 1, 0, none⟩) (by simp)).trans (by simp [go_sem])
  have b2 : w5.cell? ⟨w.heap.size + 1, 2, none⟩ = some (.int .i64 nx) := (hb5.cell (p := ⟨w.heap.size + 1, 2, none⟩) (by simp)).trans (by simp [go_sem])
  have HB5 := hide (bstep hb0 hb5)
  clear hb5 hb0
  go_wp2
  refine bodyPost_ret (v := .bool true) (by simp [results, Try.f14, go_sem]) rfl ⟨rfl, by (have := HB5.out; (focus repeat' (first | (with_reducible exact Below.refl _ _) | (with_reducible assumption) | (with_reducible refine Below.alloc ?_ ?_ _) | (with_reducible refine Below.drew ?_) | (with_reducible refine bdrewN ?_ _) | (with_reducible refine Below.setCell ?_ ?_ _) | (first | (with_reducible exact Nat.le_refl _) | (with_reducible assumption) | omega | (simp; omega) | (simp; done)))))⟩
theorem Spent_low (p nx b : Int) (xs : List Int) (so : Option Addr) (cap : Nat) (w : World) (hb : b < 0) : Calls Try.prog 16 #[.agg #[.int .i64 p, .slice so xs.length cap, .int .i64 nx], .int .i64 b] w fun e w' => e = .returned (.tuple #[.int .i64 0, .int .i64 4]) ∧ Below w.heap.size w w' := by
  go_enter Try.func16, Try.ntmps16
  go_wp2
  refine bodyPost_ret (v := .tuple #[.int .i64 0, .int .i64 4]) (by simp [results, Try.f16, go_sem]) rfl ⟨rfl, by (focus repeat' (first | (with_reducible exact Below.refl _ _) | (with_reducible assumption) | (with_reducible refine Below.alloc ?_ ?_ _) | (with_reducible refine Below.drew ?_) | (with_reducible refine bdrewN ?_ _) | (with_reducible refine Below.setCell ?_ ?_ _) | (first | (with_reducible exact Nat.le_refl _) | (with_reducible assumption) | omega | (simp; omega) | (simp; done))))⟩
theorem Spent_high (p nx b : Int) (xs : List Int) (so : Option Addr) (cap : Nat) (w : World) (hb : 0 ≤ b) (h2 : (xs.length : Int) ≤ b) : Calls Try.prog 16 #[.agg #[.int .i64 p, .slice so xs.length cap, .int .i64 nx], .int .i64 b] w fun e w' => e = .returned (.tuple #[.int .i64 0, .int .i64 4]) ∧ Below w.heap.size w w' := by
  go_enter Try.func16, Try.ntmps16
  go_wp2
  refine bodyPost_ret (v := .tuple #[.int .i64 0, .int .i64 4]) (by simp [results, Try.f16, go_sem]) rfl ⟨rfl, by (focus repeat' (first | (with_reducible exact Below.refl _ _) | (with_reducible assumption) | (with_reducible refine Below.alloc ?_ ?_ _) | (with_reducible refine Below.drew ?_) | (with_reducible refine bdrewN ?_ _) | (with_reducible refine Below.setCell ?_ ?_ _) | (first | (with_reducible exact Nat.le_refl _) | (with_reducible assumption) | omega | (simp; omega) | (simp; done))))⟩
set_option maxHeartbeats 2000000 in
theorem Spent_at (p nx y : Int) (b : Nat) (xs : List Int) (so : Option Addr) (cap : Nat) (w : World) (h1 : IRow so xs w) (hb : b < xs.length) (hy : at0 xs b = y) (hl : xs.length ≤ 9000000) (h0 : 0 ≤ p * y) (h9 : p * y ≤ 9000000000000000000) : Calls Try.prog 16 #[.agg #[.int .i64 p, .slice so xs.length cap, .int .i64 nx], .int .i64 (b : Int)] w fun e w' => e = .returned (.tuple #[.int .i64 (p * y), .int .i64 0]) ∧ Below w.heap.size w w' := by
  obtain ⟨bb, off, rfl, c1⟩ := h1.cell hb
  have hbz := cell_lt c1
  rw [hy] at c1
  have hb' : (b : Int) < (xs.length : Int) := by omega
  have hb0 : (0 : Int) ≤ (b : Int) := by omega
  have e1 : wrap64 (p * y) = p * y := by (generalize p * y = t at *; unfold wrap64; omega)
  have e2 : IntKind.i64.wrap (p * y) = p * y := by (generalize p * y = t at *; exact IntWalk.i64_in _ (by omega))
  go_enter Try.func16, Try.ntmps16
  go_wp2
  have c2 : (w.alloc (.cells #[.int .i64 p, .slice (some ⟨bb, off, none⟩) xs.length cap, .int .i64 nx] 30)).cell? ⟨bb, off + b, none⟩ = some (.int .i64 y) := (((Below.refl _ _).alloc (Nat.le_refl _) _).cell (p := ⟨bb, off + b, none⟩) hbz).trans c1
  go_quiet (fail)
  go_wp2
  refine bodyPost_ret (v := .tuple #[.int .i64 (p * y), .int .i64 0]) (by simp [results, Try.f16, go_sem, e1, e2]) rfl ⟨rfl, by (focus repeat' (first | (with_reducible exact Below.refl _ _) | (with_reducible assumption) | (with_reducible refine Below.alloc ?_ ?_ _) | (with_reducible refine Below.drew ?_) | (with_reducible refine bdrewN ?_ _) | (with_reducible refine Below.setCell ?_ ?_ _) | (first | (with_reducible exact Nat.le_refl _) | (with_reducible assumption) | omega | (simp; omega) | (simp; done))))⟩
/-- how many numbers are no less than the price -/
def wantK (price : Int) (xs : List Int) : Nat → Nat
  | 0 => 0
  | k + 1 => wantK price xs k + if price ≤ at0 xs k then 1 else 0
def wantB (price : Int) (L : List (List Int)) : Nat → Nat
  | 0 => 0
  | i + 1 => wantB price L i + wantK price (bidAt L i) (bidAt L i).length
theorem wantK_le (price : Int) (xs : List Int) : ∀ k, wantK price xs k ≤ k
  | 0 => Nat.le_refl _
  | k + 1 => by have := wantK_le price xs k; rw [wantK]; split <;> omega
theorem wantB_le (price : Int) (L : List (List Int)) (m : Nat) (h : ∀ b, (bidAt L b).length ≤ m) : ∀ i, wantB price L i ≤ i * m
  | 0 => by simp [wantB]
  | i + 1 => by
    have h1 := wantB_le price L m h i
    have h2 := wantK_le price (bidAt L i) (bidAt L i).length
    have h3 := h i
    rw [wantB, Nat.succ_mul]
    omega

set_option maxHeartbeats 4000000 in
theorem Wanted_c (price : Int) (so : Option Addr) (cap : Nat) (L : List (List Int)) (w : World) (hb : BRows so L w) (hL : L.length ≤ 4096) (hLb : ∀ b, (bidAt L b).length ≤ 4096) : Calls Try.prog 23 #[.int .i64 price, .slice so L.length cap] w fun e w' => e = .returned (.int .i64 (wantB price L L.length : Int)) ∧ Below w.heap.size w w' := by
  have HB := hide hb
  have HLB := hide hLb
  clear hb hLb
  go_enter Try.func23, Try.ntmps23
  go_wp2_with fail
  go_loopw [5, 12] (fun vn vi wr => ∃ i : Nat, i ≤ L.length ∧ vi = .int .i64 (i : Int) ∧ vn = .int .i64 (wantB price L i : Int) ∧ Below w.heap.size w wr) (fun _ vi _ => L.length - (intOf vi).toNat)
  case atStart => exact ⟨0, Nat.zero_le _, rfl, rfl, Below.refl _ _⟩
  case round =>
    obtain ⟨i, hi, rfl, rfl, hbw⟩ := hrel
    have HBW := hide hbw
    have hi0 : (0 : Int) ≤ (i : Int) := by omega
    clear hbw
    have hwi := wantB_le price L 4096 HLB.out i
    obtain ⟨n0, hn0⟩ : ∃ n0, n0 = wantB price L i := ⟨_, rfl⟩
    rw [← hn0] at hwi ⊢
    have hn1 : n0 ≤ 16777216 := by omega
    have HN0 := hide hn0
    clear hn0 hwi
    by_cases hlt : i < L.length
    · have hlt' : (i : Int) < (L.length : Int) := by omega
      obtain ⟨b, off, si, ci, rfl, cb, hrow⟩ := (HB.out.below HBW.out).spot hlt
      have HRW := hide hrow
      have hlb := HLB.out i
      clear hrow
      obtain ⟨xs, hxs⟩ : ∃ xs, xs = bidAt L i := ⟨_, rfl⟩
      rw [← hxs] at HRW hlb cb
      have HXS := hide hxs
      clear hxs
      go_wp2_with fail
      obtain ⟨wo, hwo⟩ : ∃ q : World, q = wr := ⟨wr, rfl⟩
      subst hwo
      go_loopw [5, 18] (fun vn vk wr => ∃ k : Nat, k ≤ xs.length ∧ vk = .int .i64 (k : Int) ∧ vn = .int .i64 ((n0 + wantK price xs k : Nat) : Int) ∧ Below wo.heap.size wo wr) (fun _ vk _ => xs.length - (intOf vk).toNat)
      case atStart => exact ⟨0, Nat.zero_le _, rfl, rfl, Below.refl _ _⟩
      case round =>
        obtain ⟨k, hk, rfl, rfl, hbk⟩ := hrel
        have HBK := hide hbk
        have cb2 : wr.cell? ⟨b, off + i, none⟩ = some (.slice si xs.length ci) := (hbk.cell (p := ⟨b, off + i, none⟩) (cell_lt cb)).trans cb
        clear hbk
        have hk0 : (0 : Int) ≤ (k : Int) := by omega
        have hwk := wantK_le price xs k
        obtain ⟨m, hm⟩ : ∃ m, m = wantK price xs k := ⟨_, rfl⟩
        rw [← hm] at hwk ⊢
        have HM := hide hm
        have HMS := hide (show wantK price xs (k + 1) = wantK price xs k + if price ≤ at0 xs k then 1 else 0 from rfl)
        clear hm
        have hnm : ((n0 + m : Nat) : Int) = (n0 : Int) + (m : Int) := by omega
        rw [hnm]
        have hnm2 : (n0 : Int) + (m : Int) ≤ 16781312 := by omega
        have hnm0 : (0 : Int) ≤ (n0 : Int) + (m : Int) := by omega
        clear hnm
        obtain ⟨t, ht⟩ : ∃ t : Int, t = (n0 : Int) + (m : Int) := ⟨_, rfl⟩
        rw [← ht] at hnm2 hnm0 ⊢
        have HTT := hide ht
        clear ht
        by_cases hkl : k < xs.length
        · have hkl' : (k : Int) < (xs.length : Int) := by omega
          obtain ⟨b2, off2, rfl, ck⟩ := (HRW.out.below HBK.out).cell hkl
          obtain ⟨x, hx⟩ : ∃ x, x = at0 xs k := ⟨_, rfl⟩
          rw [← hx] at ck
          have HX := hide hx
          clear hx
          by_cases hp : price ≤ x
          · go_wp2
            go_roundw
            case rel => exact ⟨k + 1, by omega, by go_num, by (rw [HMS.out, if_pos (by rw [← HX.out]; exact hp), ← HM.out]; have := HTT.out; first | (congr 1; omega) | go_num), HBK.out⟩
            case measure => (first | (simp [intOf]; done) | (simp [intOf]; omega))
          · have hp' : x < price := by omega
            go_wp2
            go_roundw
            case rel => exact ⟨k + 1, by omega, by go_num, by (rw [HMS.out, if_neg (by rw [← HX.out]; exact hp), ← HM.out]; have := HTT.out; first | (congr 1; omega) | go_num), HBK.out⟩
            case measure => (first | (simp [intOf]; done) | (simp [intOf]; omega))
        · obtain rfl : k = xs.length := by omega
          go_wp2
          go_roundw
          case rel => exact ⟨i + 1, by omega, by go_num, by (have := HTT.out; rw [wantB, ← HN0.out, ← HXS.out, ← HM.out]; first | (congr 1; omega) | go_num), bstep HBW.out HBK.out⟩
          case measure => (first | (simp [intOf]; done) | (simp [intOf]; omega))
    · obtain rfl : i = L.length := by omega
      go_wp2
      refine bodyPost_ret (v := .int .i64 (n0 : Int)) (by simp [results, Try.f23, go_sem]) rfl ⟨by rw [HN0.out], by (have := HBW.out; (focus repeat' (first | (with_reducible exact Below.refl _ _) | (with_reducible assumption) | (with_reducible refine Below.alloc ?_ ?_ _) | (with_reducible refine Below.drew ?_) | (with_reducible refine bdrewN ?_ _) | (with_reducible refine Below.setCell ?_ ?_ _) | (first | (with_reducible exact Nat.le_refl _) | (with_reducible assumption) | omega | (simp; omega) | (simp; done)))))⟩

set_option maxHeartbeats 4000000 in
theorem rWanted_c (price : Int) (so : Option Addr) (cap : Nat) (L : List (List Int)) (w : World) (hb : BRows so L w) (hL : L.length ≤ 4096) (hLb : ∀ b, (bidAt L b).length ≤ 4096) : Calls Try.prog 24 #[.int .i64 price, .slice so L.length cap] w fun e w' => e = .returned (.int .i64 (wantB price L L.length : Int)) ∧ Below w.heap.size w w' := by
  have HB := hide hb
  have HLB := hide hLb
  clear hb hLb
  go_enter Try.func24, Try.ntmps24
  go_wp2_with fail
  go_loopw [5, 6] (fun vn vi wr => ∃ i : Nat, i ≤ L.length ∧ vi = .int .i64 (i : Int) ∧ vn = .int .i64 (wantB price L i : Int) ∧ Below w.heap.size w wr) (fun _ vi _ => L.length - (intOf vi).toNat)
  case atStart => exact ⟨0, Nat.zero_le _, rfl, rfl, Below.refl _ _⟩
  case round =>
    obtain ⟨i, hi, rfl, rfl, hbw⟩ := hrel
    have HBW := hide hbw
    have hi0 : (0 : Int) ≤ (i : Int) := by omega
    clear hbw
    have hwi := wantB_le price L 4096 HLB.out i
    obtain ⟨n0, hn0⟩ : ∃ n0, n0 = wantB price L i := ⟨_, rfl⟩
    rw [← hn0] at hwi ⊢
    have hn1 : n0 ≤ 16777216 := by omega
    have HN0 := hide hn0
    clear hn0 hwi
    by_cases hlt : i < L.length
    · have hlt' : (i : Int) < (L.length : Int) := by omega
      obtain ⟨b, off, si, ci, rfl, cb, hrow⟩ := (HB.out.below HBW.out).spot hlt
      have HRW := hide hrow
      have hlb := HLB.out i
      clear hrow
      obtain ⟨xs, hxs⟩ : ∃ xs, xs = bidAt L i := ⟨_, rfl⟩
      rw [← hxs] at HRW hlb cb
      have HXS := hide hxs
      clear hxs
      go_wp2_with fail
      obtain ⟨wo, hwo⟩ : ∃ q : World, q = wr := ⟨wr, rfl⟩
      subst hwo
      go_loopw [5, 7] (fun vn vk wr => ∃ k : Nat, k ≤ xs.length ∧ vk = .int .i64 (k : Int) ∧ vn = .int .i64 ((n0 + wantK price xs k : Nat) : Int) ∧ Below wo.heap.size wo wr) (fun _ vk _ => xs.length - (intOf vk).toNat)
      case atStart => exact ⟨0, Nat.zero_le _, rfl, rfl, Below.refl _ _⟩
      case round =>
        obtain ⟨k, hk, rfl, rfl, hbk⟩ := hrel
        have HBK := hide hbk
        have cb2 : wr.cell? ⟨b, off + i, none⟩ = some (.slice si xs.length ci) := (hbk.cell (p := ⟨b, off + i, none⟩) (cell_lt cb)).trans cb
        clear hbk
        have hk0 : (0 : Int) ≤ (k : Int) := by omega
        have hwk := wantK_le price xs k
        obtain ⟨m, hm⟩ : ∃ m, m = wantK price xs k := ⟨_, rfl⟩
        rw [← hm] at hwk ⊢
        have HM := hide hm
        have HMS := hide (show wantK price xs (k + 1) = wantK price xs k + if price ≤ at0 xs k then 1 else 0 from rfl)
        clear hm
        have hnm : ((n0 + m : Nat) : Int) = (n0 : Int) + (m : Int) := by omega
        rw [hnm]
        have hnm2 : (n0 : Int) + (m : Int) ≤ 16781312 := by omega
        have hnm0 : (0 : Int) ≤ (n0 : Int) + (m : Int) := by omega
        clear hnm
        obtain ⟨t, ht⟩ : ∃ t : Int, t = (n0 : Int) + (m : Int) := ⟨_, rfl⟩
        rw [← ht] at hnm2 hnm0 ⊢
        have HTT := hide ht
        clear ht
        by_cases hkl : k < xs.length
        · have hkl' : (k : Int) < (xs.length : Int) := by omega
          obtain ⟨b2, off2, rfl, ck⟩ := (HRW.out.below HBK.out).cell hkl
          obtain ⟨x, hx⟩ : ∃ x, x = at0 xs k := ⟨_, rfl⟩
          rw [← hx] at ck
          have HX := hide hx
          clear hx
          by_cases hp : price ≤ x
          · go_wp2
            go_roundw
            case rel => exact ⟨k + 1, by omega, by go_num, by (rw [HMS.out, if_pos (by rw [← HX.out]; exact hp), ← HM.out]; have := HTT.out; first | (congr 1; omega) | go_num), HBK.out⟩
            case measure => (first | (simp [intOf]; done) | (simp [intOf]; omega))
          · have hp' : x < price := by omega
            go_wp2
            go_roundw
            case rel => exact ⟨k + 1, by omega, by go_num, by (rw [HMS.out, if_neg (by rw [← HX.out]; exact hp), ← HM.out]; have := HTT.out; first | (congr 1; omega) | go_num), HBK.out⟩
            case measure => (first | (simp [intOf]; done) | (simp [intOf]; omega))
        · obtain rfl : k = xs.length := by omega
          go_wp2
          go_roundw
          case rel => exact ⟨i + 1, by omega, by go_num, by (have := HTT.out; rw [wantB, ← HN0.out, ← HXS.out, ← HM.out]; first | (congr 1; omega) | go_num), bstep HBW.out HBK.out⟩
          case measure => (first | (simp [intOf]; done) | (simp [intOf]; omega))
    · obtain rfl : i = L.length := by omega
      go_wp2
      refine bodyPost_ret (v := .int .i64 (n0 : Int)) (by simp [results, Try.f24, go_sem]) rfl ⟨by rw [HN0.out], by (have := HBW.out; (focus repeat' (first | (with_reducible exact Below.refl _ _) | (with_reducible assumption) | (with_reducible refine Below.alloc ?_ ?_ _) | (with_reducible refine Below.drew ?_) | (with_reducible refine bdrewN ?_ _) | (with_reducible refine Below.setCell ?_ ?_ _) | (first | (with_reducible exact Nat.le_refl _) | (with_reducible assumption) | omega | (simp; omega) | (simp; done)))))⟩
end Go.Proofs.Ytehpjipmlpaflaa.un
