import Derived.Test.YtehpjipmlpaflaaU1
namespace Go.Proofs.Ytehpjipmlpaflaa.un
open Go.ChangeShapes Go.WideShapes Go.ChangeAt Go.RowKit Go.Deep Go.Shelf
set_option linter.unusedSimpArgs false
set_option linter.unusedVariables false

attribute [local go_sem] Oper.semAt_some

theorem formed_no (count floor : Int) (so : Option Addr) (cap : Nat) (xs : List Int) (w : World) (hr : IRow so xs w) (h : ¬ Formed count floor xs) : Calls Try.prog 29 #[.int .i64 count, .int .i64 floor, .slice so xs.length cap] w fun e w' => e = .returned (.bool false) ∧ w' = w := by
  by_cases h1 : 1 ≤ count
  · by_cases h2 : count ≤ 64
    · by_cases h3 : okC floor
      · by_cases h4 : 0 < xs.length
        · by_cases h5 : (xs.length : Int) ≤ count
          · exact formed_f count floor so cap xs w hr h1 h2 h3 h4 h5 (fun q => h ⟨h1, h2, h3, h4, h5, q⟩)
          · exact formed_e count floor so cap xs w h1 h2 h3 h4 (by omega)
        · exact formed_d count floor so cap xs w h1 h2 h3 (by omega)
      · exact formed_c count floor so cap xs w h1 h2 h3
    · exact formed_b count floor so cap xs w h1 (by omega)
  · exact formed_a count floor so cap xs w (by omega)
set_option maxHeartbeats 1000000 in
theorem check_no (count floor : Int) (so : Option Addr) (cap : Nat) (xs : List Int) (w : World) (hr : IRow so xs w) (h : ¬ Formed count floor xs) : Calls Try.prog 17 #[.int .i64 count, .int .i64 floor, .slice so xs.length cap] w fun e w' => e = .returned (.int .i64 2) ∧ w' = w := by
  have HF := hide ((formed_no count floor so cap xs w hr h).mono (R' := fun e w' => e = .returned (.bool false) ∧ w = w') (fun e w' q => ⟨q.1, q.2.symm⟩))
  clear hr h
  go_enter Try.func17, Try.ntmps17
  go_wp2_with (go_at_call 29; refine HF.out.mono ?_; rintro e w5 ⟨rfl, rfl⟩)
  refine bodyPost_ret (v := .int .i64 2) (by simp [results, Try.f17, go_sem]) rfl ⟨rfl, rfl⟩

set_option maxHeartbeats 1000000 in
theorem check_low (count floor : Int) (so : Option Addr) (cap : Nat) (xs : List Int) (w : World) (hr : IRow so xs w) (h : Formed count floor xs) (hl : at0 xs (xs.length - 1) < floor) : Calls Try.prog 17 #[.int .i64 count, .int .i64 floor, .slice so xs.length cap] w fun e w' => e = .returned (.int .i64 7) ∧ w' = w := by
  have HF := hide ((formed_yes count floor so cap xs w hr h.one h.most h.fl h.some h.fits h.good).mono (R' := fun e w' => e = .returned (.bool true) ∧ w = w') (fun e w' q => ⟨q.1, q.2.symm⟩))
  obtain ⟨b, off, rfl, hc⟩ := hr.spot h.some
  have hfit := h.fits
  have hm := h.most
  obtain ⟨n, hn⟩ : ∃ n, xs.length = n + 1 := ⟨xs.length - 1, by have := h.some; omega⟩
  have ck := hc n (by omega)
  rw [hn, Nat.add_sub_cancel] at hl
  obtain ⟨x, hx⟩ : ∃ x, x = at0 xs n := ⟨_, rfl⟩
  rw [← hx] at ck hl
  have hn1 : n ≤ 64 := by omega
  rw [hn] at HF ⊢
  clear hr h hc hx hn hfit
  go_enter Try.func17, Try.ntmps17
  go_wp2_with (go_at_call 29; refine HF.out.mono ?_; rintro e w5 ⟨rfl, rfl⟩)
  refine bodyPost_ret (v := .int .i64 7) (by simp [results, Try.f17, go_sem]) rfl ⟨rfl, rfl⟩

set_option maxHeartbeats 1000000 in
theorem check_ok (count floor : Int) (so : Option Addr) (cap : Nat) (xs : List Int) (w : World) (hr : IRow so xs w) (h : Formed count floor xs) (hl : floor ≤ at0 xs (xs.length - 1)) : Calls Try.prog 17 #[.int .i64 count, .int .i64 floor, .slice so xs.length cap] w fun e w' => e = .returned (.int .i64 0) ∧ w' = w := by
  have HF := hide ((formed_yes count floor so cap xs w hr h.one h.most h.fl h.some h.fits h.good).mono (R' := fun e w' => e = .returned (.bool true) ∧ w = w') (fun e w' q => ⟨q.1, q.2.symm⟩))
  obtain ⟨b, off, rfl, hc⟩ := hr.spot h.some
  have hfit := h.fits
  have hm := h.most
  obtain ⟨n, hn⟩ : ∃ n, xs.length = n + 1 := ⟨xs.length - 1, by have := h.some; omega⟩
  have ck := hc n (by omega)
  rw [hn, Nat.add_sub_cancel] at hl
  obtain ⟨x, hx⟩ : ∃ x, x = at0 xs n := ⟨_, rfl⟩
  rw [← hx] at ck hl
  have hn1 : n ≤ 64 := by omega
  rw [hn] at HF ⊢
  clear hr h hc hx hn hfit
  go_enter Try.func17, Try.ntmps17
  go_wp2_with (go_at_call 29; refine HF.out.mono ?_; rintro e w5 ⟨rfl, rfl⟩)
  refine bodyPost_ret (v := .int .i64 0) (by simp [results, Try.f17, go_sem]) rfl ⟨rfl, rfl⟩
end Go.Proofs.Ytehpjipmlpaflaa.un
