import Derived.Test.YtehpjipmlpaflaaU3
namespace Go.Proofs.Ytehpjipmlpaflaa.un
open Go.ChangeShapes Go.WideShapes Go.ChangeAt Go.RowKit Go.Deep Go.Shelf
set_option linter.unusedSimpArgs false
set_option linter.unusedVariables false

attribute [local go_sem] Oper.semAt_some

theorem rcoins_yes (c : Int) (w : World) (h : okC c) : Calls Try.prog 30 #[.int .i64 c] w fun e w' => e = .returned (.bool true) ∧ w = w' := by
  obtain ⟨h1, h2⟩ := h
  go_enter Try.func30, Try.ntmps30
  go_wp2
  refine bodyPost_ret (v := .bool true) (by simp [results, Try.f30, go_sem, *]) rfl ⟨rfl, rfl⟩
theorem rcoins_no (c : Int) (w : World) (h : ¬ okC c) : Calls Try.prog 30 #[.int .i64 c] w fun e w' => e = .returned (.bool false) ∧ w = w' := by
  by_cases h1 : 0 ≤ c
  · have h2 : 1099511627776 < c := by unfold okC at h; omega
    clear h
    go_enter Try.func30, Try.ntmps30
    go_wp2
    refine bodyPost_ret (v := .bool false) (by simp [results, Try.f30, go_sem]; try omega) rfl ⟨rfl, rfl⟩
  · have h2 : c < 0 := by omega
    clear h h1
    go_enter Try.func30, Try.ntmps30
    go_wp2
    refine bodyPost_ret (v := .bool false) (by simp [results, Try.f30, go_sem]; try omega) rfl ⟨rfl, rfl⟩

set_option maxHeartbeats 1000000 in
theorem rcheck_a (count floor : Int) (so : Option Addr) (cap : Nat) (xs : List Int) (w : World) (h : count < 1) : Calls Try.prog 18 #[.int .i64 count, .int .i64 floor, .slice so xs.length cap] w fun e w' => e = .returned (.int .i64 2) ∧ Below w.heap.size w w' := by
  go_enter Try.func18, Try.ntmps18
  go_wp2_with fail
  refine bodyPost_ret (v := .int .i64 2) (by simp [results, Try.f18, go_sem]) rfl ⟨rfl, Below.refl _ _⟩

set_option maxHeartbeats 1000000 in
theorem rcheck_b (count floor : Int) (so : Option Addr) (cap : Nat) (xs : List Int) (w : World) (h0 : 1 ≤ count) (h : 64 < count) : Calls Try.prog 18 #[.int .i64 count, .int .i64 floor, .slice so xs.length cap] w fun e w' => e = .returned (.int .i64 2) ∧ Below w.heap.size w w' := by
  go_enter Try.func18, Try.ntmps18
  go_wp2_with fail
  refine bodyPost_ret (v := .int .i64 2) (by simp [results, Try.f18, go_sem]) rfl ⟨rfl, Below.refl _ _⟩

set_option maxHeartbeats 1000000 in
theorem rcheck_c (count floor : Int) (so : Option Addr) (cap : Nat) (xs : List Int) (w : World) (h0 : 1 ≤ count) (h1 : count ≤ 64) (hf : ¬ okC floor) : Calls Try.prog 18 #[.int .i64 count, .int .i64 floor, .slice so xs.length cap] w fun e w' => e = .returned (.int .i64 2) ∧ Below w.heap.size w w' := by
  have HF := hide hf
  clear hf
  go_enter Try.func18, Try.ntmps18
  go_wp2_with (go_at_call 30; refine (rcoins_no _ _ HF.out).mono ?_; rintro e w5 ⟨rfl, rfl⟩)
  refine bodyPost_ret (v := .int .i64 2) (by simp [results, Try.f18, go_sem]) rfl ⟨rfl, Below.refl _ _⟩

set_option maxHeartbeats 1000000 in
theorem rcheck_d (count floor : Int) (so : Option Addr) (cap : Nat) (xs : List Int) (w : World) (h0 : 1 ≤ count) (h1 : count ≤ 64) (hf : okC floor) (hl : xs.length = 0) : Calls Try.prog 18 #[.int .i64 count, .int .i64 floor, .slice so xs.length cap] w fun e w' => e = .returned (.int .i64 2) ∧ Below w.heap.size w w' := by
  have HF := hide hf
  have hl2 : decide ((xs.length : Int) = 0) = true := by simp [hl]
  have hl3 : ((xs.length : Int) == 0) = true := by simp [hl]
  clear hf hl
  go_enter Try.func18, Try.ntmps18
  go_wp2_with (go_at_call 30; refine (rcoins_yes _ _ HF.out).mono ?_; rintro e w5 ⟨rfl, rfl⟩)
  refine bodyPost_ret (v := .int .i64 2) (by simp [results, Try.f18, go_sem]) rfl ⟨rfl, Below.refl _ _⟩

set_option maxHeartbeats 1000000 in
theorem rcheck_e (count floor : Int) (so : Option Addr) (cap : Nat) (xs : List Int) (w : World) (h0 : 1 ≤ count) (h1 : count ≤ 64) (hf : okC floor) (hl : 0 < xs.length) (hc : count < (xs.length : Int)) : Calls Try.prog 18 #[.int .i64 count, .int .i64 floor, .slice so xs.length cap] w fun e w' => e = .returned (.int .i64 2) ∧ Below w.heap.size w w' := by
  have HF := hide hf
  have hl2 : decide ((xs.length : Int) = 0) = false := by (rw [decide_eq_false_iff_not]; omega)
  have hl3 : ((xs.length : Int) == 0) = false := by (rw [beq_eq_false_iff_ne]; omega)
  clear hf
  go_enter Try.func18, Try.ntmps18
  go_wp2_with (go_at_call 30; refine (rcoins_yes _ _ HF.out).mono ?_; rintro e w5 ⟨rfl, rfl⟩)
  refine bodyPost_ret (v := .int .i64 2) (by simp [results, Try.f18, go_sem]) rfl ⟨rfl, Below.refl _ _⟩
end Go.Proofs.Ytehpjipmlpaflaa.un
