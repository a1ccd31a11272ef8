import Derived.Test.YtehpjipmlpaflaaT1
namespace Go.Proofs.Ytehpjipmlpaflaa.un
open Go.ChangeShapes Go.WideShapes Go.ChangeAt Go.RowKit Go.Deep Go.Shelf
set_option linter.unusedSimpArgs false
set_option linter.unusedVariables false

attribute [local go_sem] Oper.semAt_some

def okC (c : Int) : Prop := 0 ≤ c ∧ c ≤ 1099511627776
def at0 (xs : List Int) (k : Nat) : Int := (xs[k]?).getD 0
/-- ints that came in -/
structure IRow (so : Option Addr) (xs : List Int) (w : World) : Prop where
  ex : 0 < xs.length → ∃ b off, so = some ⟨b, off, none⟩ ∧ ∀ k, k < xs.length → w.cell? ⟨b, off + k, none⟩ = some (.int .i64 (at0 xs k))
theorem IRow.spot {so : Option Addr} {xs : List Int} {w : World} (h : IRow so xs w) (h0 : 0 < xs.length) : ∃ b off, so = some ⟨b, off, none⟩ ∧ ∀ k, k < xs.length → w.cell? ⟨b, off + k, none⟩ = some (.int .i64 (at0 xs k)) := h.ex h0
def goodAt (xs : List Int) (k : Nat) : Prop := okC (at0 xs k) ∧ (0 < k → at0 xs k ≤ at0 xs (k - 1))
structure Formed (count floor : Int) (xs : List Int) : Prop where
  one : 1 ≤ count
  most : count ≤ 64
  fl : okC floor
  some : 0 < xs.length
  fits : (xs.length : Int) ≤ count
  good : ∀ k, k < xs.length → goodAt xs k
theorem coins_yes (c : Int) (w : World) (h : okC c) : Calls Try.prog 42 #[.int .i64 c] w fun e w' => e = .returned (.bool true) ∧ w = w' := by
  obtain ⟨h1, h2⟩ := h
  go_enter Try.func42, Try.ntmps42
  go_wp2
  refine bodyPost_ret (v := .bool true) (by simp [results, Try.f42, go_sem, *]) rfl ⟨rfl, rfl⟩
theorem coins_no (c : Int) (w : World) (h : ¬ okC c) : Calls Try.prog 42 #[.int .i64 c] w fun e w' => e = .returned (.bool false) ∧ w = w' := by
  by_cases h1 : 0 ≤ c
  · have h2 : 1099511627776 < c := by unfold okC at h; omega
    clear h
    go_enter Try.func42, Try.ntmps42
    go_wp2
    refine bodyPost_ret (v := .bool false) (by simp [results, Try.f42, go_sem]; try omega) rfl ⟨rfl, rfl⟩
  · have h2 : c < 0 := by omega
    clear h h1
    go_enter Try.func42, Try.ntmps42
    go_wp2
    refine bodyPost_ret (v := .bool false) (by simp [results, Try.f42, go_sem]; try omega) rfl ⟨rfl, rfl⟩

set_option maxHeartbeats 1000000 in
theorem formed_a (count floor : Int) (so : Option Addr) (cap : Nat) (xs : List Int) (w : World) (h : count < 1) : Calls Try.prog 29 #[.int .i64 count, .int .i64 floor, .slice so xs.length cap] w fun e w' => e = .returned (.bool false) ∧ w' = w := by
  go_enter Try.func29, Try.ntmps29
  go_wp2_with fail
  refine bodyPost_ret (v := .bool false) (by simp [results, Try.f29, go_sem]) rfl ⟨rfl, rfl⟩

set_option maxHeartbeats 1000000 in
theorem formed_b (count floor : Int) (so : Option Addr) (cap : Nat) (xs : List Int) (w : World) (h0 : 1 ≤ count) (h : 64 < count) : Calls Try.prog 29 #[.int .i64 count, .int .i64 floor, .slice so xs.length cap] w fun e w' => e = .returned (.bool false) ∧ w' = w := by
  go_enter Try.func29, Try.ntmps29
  go_wp2_with fail
  refine bodyPost_ret (v := .bool false) (by simp [results, Try.f29, go_sem]) rfl ⟨rfl, rfl⟩

set_option maxHeartbeats 1000000 in
theorem formed_c (count floor : Int) (so : Option Addr) (cap : Nat) (xs : List Int) (w : World) (h0 : 1 ≤ count) (h1 : count ≤ 64) (hf : ¬ okC floor) : Calls Try.prog 29 #[.int .i64 count, .int .i64 floor, .slice so xs.length cap] w fun e w' => e = .returned (.bool false) ∧ w' = w := by
  have HF := hide hf
  clear hf
  go_enter Try.func29, Try.ntmps29
  go_wp2_with (go_at_call 42; refine (coins_no _ _ HF.out).mono ?_; rintro e w5 ⟨rfl, rfl⟩)
  refine bodyPost_ret (v := .bool false) (by simp [results, Try.f29, go_sem]) rfl ⟨rfl, rfl⟩

set_option maxHeartbeats 1000000 in
theorem formed_d (count floor : Int) (so : Option Addr) (cap : Nat) (xs : List Int) (w : World) (h0 : 1 ≤ count) (h1 : count ≤ 64) (hf : okC floor) (hl : xs.length = 0) : Calls Try.prog 29 #[.int .i64 count, .int .i64 floor, .slice so xs.length cap] w fun e w' => e = .returned (.bool false) ∧ w' = w := by
  have HF := hide hf
  have hl2 : (xs.length : Int) < 1 := by omega
  clear hf hl
  go_enter Try.func29, Try.ntmps29
  go_wp2_with (go_at_call 42; refine (coins_yes _ _ HF.out).mono ?_; rintro e w5 ⟨rfl, rfl⟩)
  refine bodyPost_ret (v := .bool false) (by simp [results, Try.f29, go_sem]) rfl ⟨rfl, rfl⟩

set_option maxHeartbeats 1000000 in
theorem formed_e (count floor : Int) (so : Option Addr) (cap : Nat) (xs : List Int) (w : World) (h0 : 1 ≤ count) (h1 : count ≤ 64) (hf : okC floor) (hl : 0 < xs.length) (hc : count < (xs.length : Int)) : Calls Try.prog 29 #[.int .i64 count, .int .i64 floor, .slice so xs.length cap] w fun e w' => e = .returned (.bool false) ∧ w' = w := by
  have HF := hide hf
  have hl2 : (1 : Int) ≤ (xs.length : Int) := by omega
  clear hf
  go_enter Try.func29, Try.ntmps29
  go_wp2_with (go_at_call 42; refine (coins_yes _ _ HF.out).mono ?_; rintro e w5 ⟨rfl, rfl⟩)
  refine bodyPost_ret (v := .bool false) (by simp [results, Try.f29, go_sem]) rfl ⟨rfl, rfl⟩

set_option maxHeartbeats 2000000 in
theorem formed_yes (count floor : Int) (so : Option Addr) (cap : Nat) (xs : List Int) (w : World) (hr : IRow so xs w) (h1 : 1 ≤ count) (h2 : count ≤ 64) (hf : okC floor) (h0 : 0 < xs.length) (h4 : (xs.length : Int) ≤ count) (hbad : ∀ k, k < xs.length → goodAt xs k) : Calls Try.prog 29 #[.int .i64 count, .int .i64 floor, .slice so xs.length cap] w fun e w' => e = .returned (.bool true) ∧ w' = w := by
  obtain ⟨b, off, rfl, hcell⟩ := hr.spot h0
  have HF := hide hf
  have HC := hide hcell
  have hl2 : (1 : Int) ≤ (xs.length : Int) := by omega
  have hl4 : xs.length ≤ 64 := by omega
  have HB := hide hbad
  clear hr hf hcell hbad
  go_enter Try.func29, Try.ntmps29
  go_wp2_with (go_at_call 42; refine (coins_yes _ _ HF.out).mono ?_; rintro e w5 ⟨rfl, rfl⟩)
  go_loop [33] (fun v33 => ∃ k : Nat, k ≤ xs.length ∧ v33 = .int .i64 (k : Int) ∧ ∀ q, q < k → goodAt xs q) (fun v33 => xs.length - (intOf v33).toNat)
  case atStart => exact ⟨0, Nat.zero_le _, rfl, fun q h => by omega⟩
  case round =>
    obtain ⟨k, hk, rfl, hg⟩ := hrel
    have HG := hide hg
    clear hg
    have hk0 : (0 : Int) ≤ (k : Int) := by omega
    by_cases hlt : k < xs.length
    · have hlt' : (k : Int) < (xs.length : Int) := by omega
      obtain ⟨x, hx⟩ : ∃ x, x = at0 xs k := ⟨_, rfl⟩
      have ck : w.cell? ⟨b, off + k, none⟩ = some (.int .i64 x) := by rw [hx]; exact HC.out k hlt
      have HX := hide hx
      clear hx
      by_cases hok : okC x
      · have HK := hide hok
        clear hok
        rcases k with _ | m
        · rw [Nat.add_zero] at ck
          go_wp2_with (first | (go_at_call 42; refine (coins_yes _ _ HK.out).mono ?_; rintro e w5 ⟨rfl, rfl⟩))
          go_round
          case rel =>
            refine ⟨1, by omega, by simp, fun q h => ?_⟩
            obtain rfl : q = 0 := by omega
            exact ⟨by rw [← HX.out]; exact HK.out, fun h => by omega⟩
          case measure => (first | (simp [intOf]; done) | (simp [intOf]; omega))
        · obtain ⟨y, hy⟩ : ∃ y, y = at0 xs m := ⟨_, rfl⟩
          have cm : w.cell? ⟨b, off + m, none⟩ = some (.int .i64 y) := by rw [hy]; exact HC.out m (by omega)
          have HY := hide hy
          have e1 : ((m + 1 : Nat) : Int) - 1 = (m : Int) := by omega
          have hm' : (m : Int) < (xs.length : Int) := by omega
          clear hy
          by_cases hyx : x ≤ y
          · go_wp2_with (first | (go_at_call 42; refine (coins_yes _ _ HK.out).mono ?_; rintro e w5 ⟨rfl, rfl⟩))
            go_round
            case rel =>
              refine ⟨m + 1 + 1, by omega, by go_num, fun q h => ?_⟩
              rcases Nat.lt_or_ge q (m + 1) with h3 | h3
              · exact HG.out q h3
              · obtain rfl : q = m + 1 := by omega
                exact ⟨by rw [← HX.out]; exact HK.out, fun _ => by rw [← HX.out, Nat.add_sub_cancel, ← HY.out]; exact hyx⟩
            case measure => (first | (simp [intOf]; done) | (simp [intOf]; omega))
          · have hyx' : y < x := by omega
            exact absurd (HB.out (m + 1) hlt).2 (fun q => hyx (by have := q (by omega); rw [← HX.out, Nat.add_sub_cancel, ← HY.out] at this; exact this))
      · have HK := hide hok
        clear hok
        exact absurd (HB.out k hlt).1 (by rw [← HX.out]; exact HK.out)
    · obtain rfl : k = xs.length := by omega
      go_wp2
      refine bodyPost_ret (v := .bool true) (by simp [results, Try.f29, go_sem]) rfl ⟨rfl, rfl⟩

set_option maxHeartbeats 2000000 in
theorem formed_f (count floor : Int) (so : Option Addr) (cap : Nat) (xs : List Int) (w : World) (hr : IRow so xs w) (h1 : 1 ≤ count) (h2 : count ≤ 64) (hf : okC floor) (h0 : 0 < xs.length) (h4 : (xs.length : Int) ≤ count) (hbad : ¬ ∀ k, k < xs.length → goodAt xs k) : Calls Try.prog 29 #[.int .i64 count, .int .i64 floor, .slice so xs.length cap] w fun e w' => e = .returned (.bool false) ∧ w' = w := by
  obtain ⟨b, off, rfl, hcell⟩ := hr.spot h0
  have HF := hide hf
  have HC := hide hcell
  have hl2 : (1 : Int) ≤ (xs.length : Int) := by omega
  have hl4 : xs.length ≤ 64 := by omega
  have HB := hide hbad
  clear hr hf hcell hbad
  go_enter Try.func29, Try.ntmps29
  go_wp2_with (go_at_call 42; refine (coins_yes _ _ HF.out).mono ?_; rintro e w5 ⟨rfl, rfl⟩)
  go_loop [33] (fun v33 => ∃ k : Nat, k ≤ xs.length ∧ v33 = .int .i64 (k : Int) ∧ ∀ q, q < k → goodAt xs q) (fun v33 => xs.length - (intOf v33).toNat)
  case atStart => exact ⟨0, Nat.zero_le _, rfl, fun q h => by omega⟩
  case round =>
    obtain ⟨k, hk, rfl, hg⟩ := hrel
    have HG := hide hg
    clear hg
    have hk0 : (0 : Int) ≤ (k : Int) := by omega
    by_cases hlt : k < xs.length
    · have hlt' : (k : Int) < (xs.length : Int) := by omega
      obtain ⟨x, hx⟩ : ∃ x, x = at0 xs k := ⟨_, rfl⟩
      have ck : w.cell? ⟨b, off + k, none⟩ = some (.int .i64 x) := by rw [hx]; exact HC.out k hlt
      have HX := hide hx
      clear hx
      by_cases hok : okC x
      · have HK := hide hok
        clear hok
        rcases k with _ | m
        · rw [Nat.add_zero] at ck
          go_wp2_with (first | (go_at_call 42; refine (coins_yes _ _ HK.out).mono ?_; rintro e w5 ⟨rfl, rfl⟩))
          go_round
          case rel =>
            refine ⟨1, by omega, by simp, fun q h => ?_⟩
            obtain rfl : q = 0 := by omega
            exact ⟨by rw [← HX.out]; exact HK.out, fun h => by omega⟩
          case measure => (first | (simp [intOf]; done) | (simp [intOf]; omega))
        · obtain ⟨y, hy⟩ : ∃ y, y = at0 xs m := ⟨_, rfl⟩
          have cm : w.cell? ⟨b, off + m, none⟩ = some (.int .i64 y) := by rw [hy]; exact HC.out m (by omega)
          have HY := hide hy
          have e1 : ((m + 1 : Nat) : Int) - 1 = (m : Int) := by omega
          have hm' : (m : Int) < (xs.length : Int) := by omega
          clear hy
          by_cases hyx : x ≤ y
          · go_wp2_with (first | (go_at_call 42; refine (coins_yes _ _ HK.out).mono ?_; rintro e w5 ⟨rfl, rfl⟩))
            go_round
            case rel =>
              refine ⟨m + 1 + 1, by omega, by go_num, fun q h => ?_⟩
              rcases Nat.lt_or_ge q (m + 1) with h3 | h3
              · exact HG.out q h3
              · obtain rfl : q = m + 1 := by omega
                exact ⟨by rw [← HX.out]; exact HK.out, fun _ => by rw [← HX.out, Nat.add_sub_cancel, ← HY.out]; exact hyx⟩
            case measure => (first | (simp [intOf]; done) | (simp [intOf]; omega))
          · have hyx' : y < x := by omega
            go_wp2_with (first | (go_at_call 42; refine (coins_yes _ _ HK.out).mono ?_; rintro e w5 ⟨rfl, rfl⟩))
            refine bodyPost_ret (v := .bool false) (by simp [results, Try.f29, go_sem]) rfl ⟨rfl, rfl⟩
      · have HK := hide hok
        clear hok
        go_wp2_with (first | (go_at_call 42; refine (coins_no _ _ HK.out).mono ?_; rintro e w5 ⟨rfl, rfl⟩))
        refine bodyPost_ret (v := .bool false) (by simp [results, Try.f29, go_sem]) rfl ⟨rfl, rfl⟩
    · obtain rfl : k = xs.length := by omega
      exact absurd HG.out HB.out
end Go.Proofs.Ytehpjipmlpaflaa.un
