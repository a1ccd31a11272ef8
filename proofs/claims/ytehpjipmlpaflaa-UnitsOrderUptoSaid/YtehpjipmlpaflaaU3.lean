import Derived.Test.YtehpjipmlpaflaaU2
import Derived.Test.YtehpjipmlpaflaaP2
namespace Go.Proofs.Ytehpjipmlpaflaa.un
open Go.ChangeShapes Go.WideShapes Go.ChangeAt Go.RowKit Go.Deep Go.Shelf
set_option linter.unusedSimpArgs false
set_option linter.unusedVariables false

attribute [local go_sem] Oper.semAt_some

/-- bids that came in: slices of ints -/
structure BRows (so : Option Addr) (L : List (List Int)) (w : World) : Prop where
  ex : 0 < L.length → ∃ b off, so = some ⟨b, off, none⟩ ∧ ∀ i, i < L.length → ∃ si ci, w.cell? ⟨b, off + i, none⟩ = some (.slice si (bidAt L i).length ci) ∧ IRow si (bidAt L i) w
def CheckIs (count floor : Int) (xs : List Int) (r : Int) : Prop := (¬ Formed count floor xs ∧ r = 2) ∨ (Formed count floor xs ∧ at0 xs (xs.length - 1) < floor ∧ r = 7) ∨ (Formed count floor xs ∧ floor ≤ at0 xs (xs.length - 1) ∧ r = 0)
theorem check_is (count floor : Int) (so : Option Addr) (cap : Nat) (xs : List Int) (w : World) (hr : IRow so xs w) (r : Int) (h : CheckIs count floor xs r) : Calls Try.prog 17 #[.int .i64 count, .int .i64 floor, .slice so xs.length cap] w fun e w' => e = .returned (.int .i64 r) ∧ w = w' := by
  rcases h with ⟨h1, rfl⟩ | ⟨h1, h2, rfl⟩ | ⟨h1, h2, rfl⟩
  · exact (check_no count floor so cap xs w hr h1).mono (fun e w' q => ⟨q.1, q.2.symm⟩)
  · exact (check_low count floor so cap xs w hr h1 h2).mono (fun e w' q => ⟨q.1, q.2.symm⟩)
  · exact (check_ok count floor so cap xs w hr h1 h2).mono (fun e w' q => ⟨q.1, q.2.symm⟩)
theorem check_one (count floor : Int) (xs : List Int) : ∃ r, CheckIs count floor xs r := by
  by_cases h : Formed count floor xs
  · by_cases h2 : at0 xs (xs.length - 1) < floor
    · exact ⟨7, .inr (.inl ⟨h, h2, rfl⟩)⟩
    · exact ⟨0, .inr (.inr ⟨h, by omega, rfl⟩)⟩
  · exact ⟨2, .inl ⟨h, rfl⟩⟩
def lowOf (rs : Nat → Int) : Nat → Int
  | 0 => 0
  | i + 1 => if rs i = 7 then 7 else lowOf rs i

set_option maxHeartbeats 1000000 in
theorem wrong_a (count floor : Int) (so : Option Addr) (cap : Nat) (L : List (List Int)) (w : World) (h : count < 1) : Calls Try.prog 27 #[.int .i64 count, .int .i64 floor, .slice so L.length cap] w fun e w' => e = .returned (.int .i64 2) ∧ w' = w := by
  go_enter Try.func27, Try.ntmps27
  go_wp2_with fail
  refine bodyPost_ret (v := .int .i64 2) (by simp [results, Try.f27, go_sem]) rfl ⟨rfl, rfl⟩

set_option maxHeartbeats 1000000 in
theorem wrong_b (count floor : Int) (so : Option Addr) (cap : Nat) (L : List (List Int)) (w : World) (h0 : 1 ≤ count) (h : 64 < count) : Calls Try.prog 27 #[.int .i64 count, .int .i64 floor, .slice so L.length cap] w fun e w' => e = .returned (.int .i64 2) ∧ w' = w := by
  go_enter Try.func27, Try.ntmps27
  go_wp2_with fail
  refine bodyPost_ret (v := .int .i64 2) (by simp [results, Try.f27, go_sem]) rfl ⟨rfl, rfl⟩

set_option maxHeartbeats 1000000 in
theorem wrong_c (count floor : Int) (so : Option Addr) (cap : Nat) (L : List (List Int)) (w : World) (h0 : 1 ≤ count) (h1 : count ≤ 64) (hf : ¬ okC floor) : Calls Try.prog 27 #[.int .i64 count, .int .i64 floor, .slice so L.length cap] w fun e w' => e = .returned (.int .i64 2) ∧ w' = w := by
  have HF := hide hf
  clear hf
  go_enter Try.func27, Try.ntmps27
  go_wp2_with (go_at_call 42; refine (coins_no _ _ HF.out).mono ?_; rintro e w5 ⟨rfl, rfl⟩)
  refine bodyPost_ret (v := .int .i64 2) (by simp [results, Try.f27, go_sem]) rfl ⟨rfl, rfl⟩

set_option maxHeartbeats 1000000 in
theorem wrong_d (count floor : Int) (so : Option Addr) (cap : Nat) (L : List (List Int)) (w : World) (h0 : 1 ≤ count) (h1 : count ≤ 64) (hf : okC floor) (hl : 4096 < L.length) : Calls Try.prog 27 #[.int .i64 count, .int .i64 floor, .slice so L.length cap] w fun e w' => e = .returned (.int .i64 2) ∧ w' = w := by
  have HF := hide hf
  have hl2 : (4096 : Int) < (L.length : Int) := by omega
  clear hf
  go_enter Try.func27, Try.ntmps27
  go_wp2_with (go_at_call 42; refine (coins_yes _ _ HF.out).mono ?_; rintro e w5 ⟨rfl, rfl⟩)
  refine bodyPost_ret (v := .int .i64 2) (by simp [results, Try.f27, go_sem]) rfl ⟨rfl, rfl⟩

set_option maxHeartbeats 2000000 in
theorem wrong_loop (count floor : Int) (so : Option Addr) (cap : Nat) (L : List (List Int)) (rs : Nat → Int) (v : Int) (w : World) (hb : BRows so L w) (h0 : 1 ≤ count) (h1 : count ≤ 64) (hf : okC floor) (hl : L.length ≤ 4096) (hr : ∀ i, i < L.length → CheckIs count floor (bidAt L i) (rs i))
    (hv : ((∃ i, i < L.length ∧ rs i = 2) ∧ v = 2) ∨ ((∀ i, i < L.length → rs i ≠ 2) ∧ v = lowOf rs L.length)) : Calls Try.prog 27 #[.int .i64 count, .int .i64 floor, .slice so L.length cap] w fun e w' => e = .returned (.int .i64 v) ∧ w' = w := by
  have HF := hide hf
  have HB := hide hb
  have HR := hide hr
  have HV := hide hv
  have hl2 : (L.length : Int) ≤ 4096 := by omega
  clear hf hb hr hv
  go_enter Try.func27, Try.ntmps27
  go_wp2_with (go_at_call 42; refine (coins_yes _ _ HF.out).mono ?_; rintro e w5 ⟨rfl, rfl⟩)
  go_loop [7, 29] (fun v7 v29 => ∃ i : Nat, i ≤ L.length ∧ v29 = .int .i64 (i : Int) ∧ v7 = .int .i64 (lowOf rs i) ∧ ∀ q, q < i → rs q ≠ 2) (fun _ v29 => L.length - (intOf v29).toNat)
  case atStart => exact ⟨0, Nat.zero_le _, rfl, rfl, fun q h => by omega⟩
  case round =>
    obtain ⟨i, hi, rfl, rfl, hg⟩ := hrel
    have HG := hide hg
    clear hg
    have hi0 : (0 : Int) ≤ (i : Int) := by omega
    by_cases hlt : i < L.length
    · have hlt' : (i : Int) < (L.length : Int) := by omega
      obtain ⟨b, off, rfl, hc⟩ := HB.out.ex (by omega)
      obtain ⟨si, ci, ck, hrow⟩ := hc i hlt
      have HCK := hide ((check_is count floor si ci (bidAt L i) w hrow (rs i) (HR.out i hlt)))
      have HRI := hide (HR.out i hlt)
      clear hc hrow
      obtain ⟨r, hrr⟩ : ∃ r, r = rs i := ⟨_, rfl⟩
      rw [← hrr] at HCK HRI
      obtain ⟨lo, hlo⟩ : ∃ lo, lo = lowOf rs i := ⟨_, rfl⟩
      rw [← hlo]
      have HLO := hide hlo
      have HLS := hide (show lowOf rs (i + 1) = if rs i = 7 then 7 else lowOf rs i from rfl)
      have HRR := hide hrr
      clear hlo hrr
      rcases HRI.out with ⟨q1, rfl⟩ | ⟨q1, q2, rfl⟩ | ⟨q1, q2, rfl⟩
      · clear q1
        go_wp2_with (go_at_call 17; refine HCK.out.mono ?_; rintro e w5 ⟨rfl, rfl⟩)
        rcases HV.out with ⟨_, rfl⟩ | ⟨q, _⟩
        · refine bodyPost_ret (v := .int .i64 2) (by simp [results, Try.f27, go_sem]) rfl ⟨rfl, rfl⟩
        · exact absurd HRR.out.symm (q i hlt)
      · clear q1 q2
        go_wp2_with (go_at_call 17; refine HCK.out.mono ?_; rintro e w5 ⟨rfl, rfl⟩)
        go_round
        case rel =>
          refine ⟨i + 1, by omega, by go_num, by rw [HLS.out, if_pos HRR.out.symm], fun q h => ?_⟩
          rcases Nat.lt_or_ge q i with h3 | h3
          · exact HG.out q h3
          · obtain rfl : q = i := by omega
            rw [← HRR.out]; decide
        case measure => (first | (simp [intOf]; done) | (simp [intOf]; omega))
      · clear q1 q2
        go_wp2_with (go_at_call 17; refine HCK.out.mono ?_; rintro e w5 ⟨rfl, rfl⟩)
        go_round
        case rel =>
          refine ⟨i + 1, by omega, by go_num, by rw [HLS.out, if_neg (by rw [← HRR.out]; decide), HLO.out], fun q h => ?_⟩
          rcases Nat.lt_or_ge q i with h3 | h3
          · exact HG.out q h3
          · obtain rfl : q = i := by omega
            rw [← HRR.out]; decide
        case measure => (first | (simp [intOf]; done) | (simp [intOf]; omega))
    · obtain rfl : i = L.length := by omega
      rcases HV.out with ⟨⟨q, hq, hq2⟩, _⟩ | ⟨_, rfl⟩
      · exact absurd hq2 (HG.out q hq)
      · go_wp2
        refine bodyPost_ret (v := .int .i64 (lowOf rs L.length)) (by simp [results, Try.f27, go_sem]) rfl ⟨rfl, rfl⟩
end Go.Proofs.Ytehpjipmlpaflaa.un
