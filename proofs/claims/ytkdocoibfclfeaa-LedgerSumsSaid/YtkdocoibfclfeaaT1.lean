import Derived.Test.YtkdocoibfclfeaaB1
namespace Go.Proofs.Ytkdocoibfclfeaa
open Go.ChangeShapes Go.WideShapes Go.ChangeAt Go.RowKit Go.Deep
set_option linter.unusedSimpArgs false
set_option linter.unusedVariables false

set_option maxHeartbeats 1000000 in
theorem Check_ok (s : ByteArray) (w : World) (h1 : 1 ≤ s.size) (h2 : s.size ≤ 64) : Calls Try.prog 23 #[.string s] w fun e w' => e = .returned (.int .i64 0) ∧ w = w' := by
  have a1 : decide ((s.size : Int) < 1) = false := by simp; omega
  have a2 : decide ((64 : Int) < (s.size : Int)) = false := by simp; omega
  go_enter Try.func23, Try.ntmps23
  go_wp2
  refine bodyPost_ret (v := .int .i64 0) (by simp [results, Try.f23, go_sem]) rfl ⟨rfl, rfl⟩

set_option maxHeartbeats 1000000 in
theorem Check_short (s : ByteArray) (w : World) (h1 : s.size = 0) : Calls Try.prog 23 #[.string s] w fun e w' => e = .returned (.int .i64 2) ∧ w = w' := by
  have a1 : decide ((s.size : Int) < 1) = true := by simp; omega
  go_enter Try.func23, Try.ntmps23
  go_wp2
  refine bodyPost_ret (v := .int .i64 2) (by simp [results, Try.f23, go_sem]) rfl ⟨rfl, rfl⟩

set_option maxHeartbeats 1000000 in
theorem Check_long (s : ByteArray) (w : World) (h1 : 64 < s.size) : Calls Try.prog 23 #[.string s] w fun e w' => e = .returned (.int .i64 2) ∧ w = w' := by
  have a1 : decide ((s.size : Int) < 1) = false := by simp; omega
  have a2 : decide ((64 : Int) < (s.size : Int)) = true := by simp; omega
  go_enter Try.func23, Try.ntmps23
  go_wp2
  refine bodyPost_ret (v := .int .i64 2) (by simp [results, Try.f23, go_sem]) rfl ⟨rfl, rfl⟩

set_option maxHeartbeats 1000000 in
theorem rCheck_ok (s : ByteArray) (w : World) (h1 : 1 ≤ s.size) (h2 : s.size ≤ 64) : Calls Try.prog 54 #[.string s] w fun e w' => e = .returned (.int .i64 0) ∧ w = w' := by
  have a1 : decide ((s.size : Int) < 1) = false := by simp; omega
  have a2 : decide ((64 : Int) < (s.size : Int)) = false := by simp; omega
  go_enter Try.func54, Try.ntmps54
  go_wp2
  refine bodyPost_ret (v := .int .i64 0) (by simp [results, Try.f54, go_sem]) rfl ⟨rfl, rfl⟩

set_option maxHeartbeats 1000000 in
theorem rCheck_short (s : ByteArray) (w : World) (h1 : s.size = 0) : Calls Try.prog 54 #[.string s] w fun e w' => e = .returned (.int .i64 2) ∧ w = w' := by
  have a1 : decide ((s.size : Int) < 1) = true := by simp; omega
  go_enter Try.func54, Try.ntmps54
  go_wp2
  refine bodyPost_ret (v := .int .i64 2) (by simp [results, Try.f54, go_sem]) rfl ⟨rfl, rfl⟩

set_option maxHeartbeats 1000000 in
theorem rCheck_long (s : ByteArray) (w : World) (h1 : 64 < s.size) : Calls Try.prog 54 #[.string s] w fun e w' => e = .returned (.int .i64 2) ∧ w = w' := by
  have a1 : decide ((s.size : Int) < 1) = false := by simp; omega
  have a2 : decide ((64 : Int) < (s.size : Int)) = true := by simp; omega
  go_enter Try.func54, Try.ntmps54
  go_wp2
  refine bodyPost_ret (v := .int .i64 2) (by simp [results, Try.f54, go_sem]) rfl ⟨rfl, rfl⟩

theorem NewNames (w : World) : Calls Try.prog 21 #[.int .i64 65536] w fun e w' => e = .returned (.tuple #[.pointer (some ⟨w.heap.size + 1, 0, none⟩), .int .i64 0]) ∧ w' = (w.alloc (.map #[] 0)).alloc (.cells #[.slice none 0 0, .map (some w.heap.size), .int .i64 65536] 112) := by
  have hmm := @run_makeMap Try.prog
  go_enter Try.func21, Try.ntmps21
  go_wp2
  refine bodyPost_ret (v := .tuple #[.pointer (some ⟨w.heap.size + 1, 0, none⟩), .int .i64 0]) (by simp [results, Try.f21, go_sem]) rfl ⟨rfl, rfl⟩
theorem noNames (w : World) : Calls Try.prog 50 #[.pointer none] w fun e w' => e = .returned (.bool true) ∧ w = w' := by
  go_enter Try.func50, Try.ntmps50
  go_wp2
  refine bodyPost_ret (v := .bool true) (by simp [results, Try.f50, go_sem]) rfl ⟨rfl, rfl⟩
theorem noLedger (w : World) : Calls Try.prog 22 #[.pointer none] w fun e w' => e = .returned (.bool true) ∧ w = w' := by
  go_enter Try.func22, Try.ntmps22
  go_wp2
  refine bodyPost_ret (v := .bool true) (by simp [results, Try.f22, go_sem]) rfl ⟨rfl, rfl⟩
theorem zeroLedger (w : World) (b : Nat) (h : w.cell? ⟨b, 0, none⟩ = some (.pointer none)) : Calls Try.prog 22 #[.pointer (some ⟨b, 0, none⟩)] w fun e w' => e = .returned (.bool true) ∧ w = w' := by
  go_enter Try.func22, Try.ntmps22
  go_wp2
  refine bodyPost_ret (v := .bool true) (by simp [results, Try.f22, go_sem]) rfl ⟨rfl, rfl⟩
theorem isLedger (w : World) (b t : Nat) (h : w.cell? ⟨b, 0, none⟩ = some (.pointer (some ⟨t, 0, none⟩))) : Calls Try.prog 22 #[.pointer (some ⟨b, 0, none⟩)] w fun e w' => e = .returned (.bool false) ∧ w = w' := by
  go_enter Try.func22, Try.ntmps22
  go_wp2
  refine bodyPost_ret (v := .bool false) (by simp [results, Try.f22, go_sem]) rfl ⟨rfl, rfl⟩
theorem eql110 (m : Nat) (w : World) : Sem.run Try.prog (binOp .eql 110 (.map (some m)) (.map none)) w = .ok (.bool false) w := by kernel_rfl
theorem isNames (w : World) (b m : Nat) (h : w.cell? ⟨b, 1, none⟩ = some (.map (some m))) : Calls Try.prog 50 #[.pointer (some ⟨b, 0, none⟩)] w fun e w' => e = .returned (.bool false) ∧ w = w' := by
  have Q := eql110 m
  go_enter Try.func50, Try.ntmps50
  go_wp2
  refine bodyPost_ret (v := .bool false) (by simp [results, Try.f50, go_sem]) rfl ⟨rfl, rfl⟩
end Go.Proofs.Ytkdocoibfclfeaa
