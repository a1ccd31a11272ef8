import Derived.Test.YtehpjipmlpaflaaUd
namespace Go.Proofs.Ytehpjipmlpaflaa.un
open Go.ChangeShapes Go.WideShapes Go.ChangeAt Go.RowKit Go.Deep Go.Shelf
set_option linter.unusedSimpArgs false
set_option linter.unusedVariables false

attribute [local go_sem] Oper.semAt_some

/-- more than is worked out -/
def isLong (L : List (List Int)) : Prop := 40 < L.length ∨ ∃ i, i < L.length ∧ 100 < (bidAt L i).length

set_option maxHeartbeats 2000000 in
theorem long_no (count floor : Int) (so : Option Addr) (cap : Nat) (L : List (List Int)) (w : World) (hb : BRows so L w) (hl : L.length ≤ 40 ∧ ∀ i, i < L.length → (bidAt L i).length ≤ 100) : Calls Try.prog 9 #[.agg #[.int .i64 count, .int .i64 floor, .slice so L.length cap]] w fun e w' => e = .returned (.bool false) ∧ Below w.heap.size w w' := by
  have HB := hide hb
  have HL := hide hl
  clear hb hl
  go_enter Try.func9, Try.ntmps9
  go_wp2_with fail
  obtain ⟨W0, hW0⟩ : ∃ W0, W0 = w.alloc (.cells #[.int .i64 count, .int .i64 floor, .slice so L.length cap] 24) := ⟨_, rfl⟩
  have hb0 : Below w.heap.size w W0 := by rw [hW0]; exact (Below.refl _ _).alloc (Nat.le_refl _) _
  have c2 : W0.cell? ⟨w.heap.size, 2, none⟩ = some (.slice so L.length cap) := by rw [hW0]; simp [go_sem]
  rw [← hW0]
  have HB0 := hide hb0
  have hz0 : w.heap.size < W0.heap.size := by rw [hW0]; simp
  clear hW0 hb0
  go_loop [3] (fun v3 => ∃ k : Nat, k ≤ L.length ∧ k ≤ 41 ∧ v3 = .int .i64 (k : Int) ∧ ∀ q, q < k → (bidAt L q).length ≤ 100) (fun v3 => 41 - (intOf v3).toNat)
  case atStart => exact ⟨0, Nat.zero_le _, Nat.zero_le _, rfl, fun q h => by omega⟩
  case round =>
    obtain ⟨k, hk, hk41, rfl, hg⟩ := hrel
    have HG := hide hg
    clear hg
    have hk0 : (0 : Int) ≤ (k : Int) := by omega
    by_cases hlt : k < L.length
    · have hlt' : (k : Int) < (L.length : Int) := by omega
      have g1 : decide ((k : Int) < (L.length : Int)) = true := by (rw [decide_eq_true_eq]; exact hlt')
      by_cases h41 : k < 41
      · have h41' : (k : Int) < 41 := by omega
        have g2 : decide ((k : Int) < 41) = true := by (rw [decide_eq_true_eq]; exact h41')
        obtain ⟨b, off, si, ci, rfl, ck, hrow⟩ := HB.out.spot hlt
        have ckz := (HB0.out.cell (p := ⟨b, off + k, none⟩) (cell_lt ck)).trans ck
        clear hrow
        by_cases hbig : 100 < (bidAt L k).length
        · have hbig' : (100 : Int) < ((bidAt L k).length : Int) := by omega
          exact absurd hbig (by have := HL.out.2 k hlt; omega)
        · have hbig' : ((bidAt L k).length : Int) ≤ 100 := by omega
          go_wp2
          go_round
          case rel =>
            refine ⟨k + 1, by omega, by omega, by go_num, fun q h => ?_⟩
            rcases Nat.lt_or_ge q k with h3 | h3
            · exact HG.out q h3
            · obtain rfl : q = k := by omega
              omega
          case measure => (first | (simp [intOf]; done) | (simp [intOf]; omega))
      · obtain rfl : k = 41 := by omega
        have g2 : decide (((41 : Nat) : Int) < 41) = false := by decide
        exact absurd hlt (by have := HL.out.1; omega)
    · obtain rfl : k = L.length := by omega
      have g1 : decide ((L.length : Int) < (L.length : Int)) = false := by simp
      have h40 : (L.length : Int) ≤ 40 := by have := HL.out.1; omega
      have g3 : decide ((40 : Int) < (L.length : Int)) = false := by (rw [decide_eq_false_iff_not]; omega)
      go_wp2
      refine bodyPost_ret (v := .bool false) (by simp [results, Try.f9, go_sem]; try omega) rfl ⟨rfl, HB0.out⟩

set_option maxHeartbeats 2000000 in
theorem long_yes (count floor : Int) (so : Option Addr) (cap : Nat) (L : List (List Int)) (w : World) (hb : BRows so L w) (hl : isLong L) : Calls Try.prog 9 #[.agg #[.int .i64 count, .int .i64 floor, .slice so L.length cap]] w fun e w' => e = .returned (.bool true) ∧ Below w.heap.size w w' := by
  have HB := hide hb
  have HL := hide hl
  clear hb hl
  go_enter Try.func9, Try.ntmps9
  go_wp2_with fail
  obtain ⟨W0, hW0⟩ : ∃ W0, W0 = w.alloc (.cells #[.int .i64 count, .int .i64 floor, .slice so L.length cap] 24) := ⟨_, rfl⟩
  have hb0 : Below w.heap.size w W0 := by rw [hW0]; exact (Below.refl _ _).alloc (Nat.le_refl _) _
  have c2 : W0.cell? ⟨w.heap.size, 2, none⟩ = some (.slice so L.length cap) := by rw [hW0]; simp [go_sem]
  rw [← hW0]
  have HB0 := hide hb0
  have hz0 : w.heap.size < W0.heap.size := by rw [hW0]; simp
  clear hW0 hb0
  go_loop [3] (fun v3 => ∃ k : Nat, k ≤ L.length ∧ k ≤ 41 ∧ v3 = .int .i64 (k : Int) ∧ ∀ q, q < k → (bidAt L q).length ≤ 100) (fun v3 => 41 - (intOf v3).toNat)
  case atStart => exact ⟨0, Nat.zero_le _, Nat.zero_le _, rfl, fun q h => by omega⟩
  case round =>
    obtain ⟨k, hk, hk41, rfl, hg⟩ := hrel
    have HG := hide hg
    clear hg
    have hk0 : (0 : Int) ≤ (k : Int) := by omega
    by_cases hlt : k < L.length
    · have hlt' : (k : Int) < (L.length : Int) := by omega
      have g1 : decide ((k : Int) < (L.length : Int)) = true := by (rw [decide_eq_true_eq]; exact hlt')
      by_cases h41 : k < 41
      · have h41' : (k : Int) < 41 := by omega
        have g2 : decide ((k : Int) < 41) = true := by (rw [decide_eq_true_eq]; exact h41')
        obtain ⟨b, off, si, ci, rfl, ck, hrow⟩ := HB.out.spot hlt
        have ckz := (HB0.out.cell (p := ⟨b, off + k, none⟩) (cell_lt ck)).trans ck
        clear hrow
        by_cases hbig : 100 < (bidAt L k).length
        · have hbig' : (100 : Int) < ((bidAt L k).length : Int) := by omega
          go_wp2
          refine bodyPost_ret (v := .bool true) (by simp [results, Try.f9, go_sem]) rfl ⟨rfl, HB0.out⟩
        · have hbig' : ((bidAt L k).length : Int) ≤ 100 := by omega
          go_wp2
          go_round
          case rel =>
            refine ⟨k + 1, by omega, by omega, by go_num, fun q h => ?_⟩
            rcases Nat.lt_or_ge q k with h3 | h3
            · exact HG.out q h3
            · obtain rfl : q = k := by omega
              omega
          case measure => (first | (simp [intOf]; done) | (simp [intOf]; omega))
      · obtain rfl : k = 41 := by omega
        have g2 : decide (((41 : Nat) : Int) < 41) = false := by decide
        have h40 : (40 : Int) < (L.length : Int) := by
          omega
        have g3 : decide ((40 : Int) < (L.length : Int)) = true := by (rw [decide_eq_true_eq]; exact h40)
        go_wp2
        refine bodyPost_ret (v := .bool true) (by simp [results, Try.f9, go_sem]; try omega) rfl ⟨rfl, HB0.out⟩
    · obtain rfl : k = L.length := by omega
      have g1 : decide ((L.length : Int) < (L.length : Int)) = false := by simp
      have h40 : (40 : Int) < (L.length : Int) := by
        rcases HL.out with h | ⟨q, hq, hq2⟩
        · omega
        · have := HG.out q hq; omega
      have g3 : decide ((40 : Int) < (L.length : Int)) = true := by (rw [decide_eq_true_eq]; exact h40)
      go_wp2
      refine bodyPost_ret (v := .bool true) (by simp [results, Try.f9, go_sem]; try omega) rfl ⟨rfl, HB0.out⟩
end Go.Proofs.Ytehpjipmlpaflaa.un
