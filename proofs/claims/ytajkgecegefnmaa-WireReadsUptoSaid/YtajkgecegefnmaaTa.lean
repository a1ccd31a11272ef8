import Derived.Test.YtajkgecegefnmaaT9
namespace Go.Proofs.Ytajkgecegefnmaa
open Go.ChangeShapes Go.WideShapes Go.ChangeAt Go.RowKit Go.Deep
set_option linter.unusedSimpArgs false
set_option linter.unusedVariables false

/-- a text's bytes -/
def sb (s : ByteArray) : List Nat := s.data.toList.map (fun b => b.toNat)
theorem sb_length (s : ByteArray) : (sb s).length = s.size := by simp [sb]
theorem bytes_below (w : World) (e : TypeId) (s : ByteArray) : Below w.heap.size w (Go.Lib.bytesWorld w e s) :=
  ⟨rfl, rfl, rfl, by rw [Go.Lib.bytesWorld_size]; omega, fun i hi => Go.Lib.bytesWorld_at_old w e s i hi⟩
theorem bytes_cells (w : World) (e : TypeId) (s : ByteArray) : ∀ j, j < (sb s).length → (Go.Lib.bytesWorld w e s).cell? ⟨w.heap.size, 0 + j, none⟩ = some (.int .u8 ((sb s).getD j 0 : Int)) := fun j hj => by
  rw [sb_length] at hj
  rw [Nat.zero_add, Go.Lib.bytesWorld_cell w e s j hj]
  have hj' : j < s.data.size := hj
  simp [sb, List.getD, Array.getElem?_eq_getElem hj']
def text (s : ByteArray) : List Nat := form s.size ++ sb s
theorem form_pos (x : Nat) : 0 < (form x).length := by unfold form; split <;> simp
theorem form_le {x : Nat} (h : x < 18446744073709551616) : (form x).length ≤ 9 := by
  have := many_u64 h
  unfold form; split <;> simp [hi_length]; omega

set_option maxRecDepth 100000 in
set_option maxHeartbeats 2000000 in
theorem Text_some (g : Nat) (v : Value) (bs : List Nat) (s : ByteArray) (w : World) (hW : WObj w g v bs) (hl : bs.length ≤ 8796093022208) (hs : s.size ≤ 1099511627776) (hp : 0 < s.size) : Calls Try.prog 37 #[.pointer (some ⟨g, 0, none⟩), .string s] w (fun e w' => ∃ v', e = .returned (.int .i64 0) ∧ WObj w' g v' (bs ++ text s) ∧ WKeep g v w w' ∧ Near w v v') := by
  have hx : s.size < 18446744073709551616 := by omega
  have hfp := form_pos s.size
  have hfl := form_le hx
  have HWh := hide hW
  clear hW
  go_enter Try.func37, Try.ntmps37
  go_wp2_with fail
  refine (Number_c g v bs s.size _ HWh.out hl hx).mono ?_
  rintro e w1 ⟨v1, rfl, hW1, hk1, hn1⟩
  have HW1 := hide hW1
  clear hW1
  go_wp2_with fail
  rw [Go.Lib.run_convert_string_bytes w1 9 28 5 s Try.underlying9 Try.underlying28 Try.underlying5]
  have hB := bytes_below w1 5 s
  have HW2 := hide (HW1.out.below hB)
  have HC := hide (bytes_cells w1 5 s)
  generalize grownCap w1 s.size 0 5 = cap
  go_wp2_with fail
  rw [show (.slice (some ⟨w1.heap.size, 0, none⟩) s.size cap : Value) = .slice (some ⟨w1.heap.size, 0, none⟩) (sb s).length cap from by rw [sb_length]]
  refine (raw_c g v1 (bs ++ form s.size) (sb s) w1.heap.size 0 cap _ HW2.out (by rw [sb_length]; exact hp) (by rw [sb_length, List.length_append]; omega) HC.out).mono ?_
  rintro e w3 ⟨v', rfl, hW3, hk3, hn3⟩
  go_wp2
  go_ret
  have hs1 : w.heap.size ≤ w1.heap.size := hk1.2.2.2.1
  have hs2 : w.heap.size ≤ (Go.Lib.bytesWorld w1 5 s).heap.size := Nat.le_trans hs1 hB.size
  have hk12 : WKeep g v1 w1 (Go.Lib.bytesWorld w1 5 s) := WKeep.of_below hB
  exact ⟨v', rfl, by (have q := hW3; rw [List.append_assoc] at q; exact q), (hk1.trans hn1 hk12).trans hn1 hk3, hn1.trans hs2 hn3⟩

set_option maxRecDepth 100000 in
set_option maxHeartbeats 2000000 in
theorem Text_none (g : Nat) (v : Value) (bs : List Nat) (s : ByteArray) (w : World) (hW : WObj w g v bs) (hl : bs.length ≤ 8796093022208) (hp : s.size = 0) : Calls Try.prog 37 #[.pointer (some ⟨g, 0, none⟩), .string s] w (fun e w' => ∃ v', e = .returned (.int .i64 0) ∧ WObj w' g v' (bs ++ text s) ∧ WKeep g v w w' ∧ Near w v v') := by
  have hx : s.size < 18446744073709551616 := by omega
  have HP := hide hp
  clear hp
  have hfp := form_pos s.size
  have hfl := form_le hx
  have HWh := hide hW
  clear hW
  go_enter Try.func37, Try.ntmps37
  go_wp2_with fail
  refine (Number_c g v bs s.size _ HWh.out hl hx).mono ?_
  rintro e w1 ⟨v1, rfl, hW1, hk1, hn1⟩
  have HW1 := hide hW1
  clear hW1
  go_wp2_with fail
  rw [Go.Lib.run_convert_string_bytes w1 9 28 5 s Try.underlying9 Try.underlying28 Try.underlying5]
  have hB := bytes_below w1 5 s
  have HW2 := hide (HW1.out.below hB)
  generalize grownCap w1 s.size 0 5 = cap
  go_wp2_with fail
  refine (raw_some g v1 (bs ++ form s.size) ⟨w1.heap.size, 0, none⟩ s.size cap _ HW2.out (by rw [List.length_append]; omega) (by rw [List.length_append]; omega) HP.out).mono ?_
  rintro e w3 ⟨v', rfl, hW3, hk3, hn3⟩
  go_wp2
  go_ret
  have hs1 : w.heap.size ≤ w1.heap.size := hk1.2.2.2.1
  have hs2 : w.heap.size ≤ (Go.Lib.bytesWorld w1 5 s).heap.size := Nat.le_trans hs1 hB.size
  have hk12 : WKeep g v1 w1 (Go.Lib.bytesWorld w1 5 s) := WKeep.of_below hB
  have e : text s = form s.size := by
    have q : sb s = [] := List.eq_nil_of_length_eq_zero (by rw [sb_length]; exact HP.out)
    unfold text; rw [q, List.append_nil]
  rw [e]
  exact ⟨v', rfl, hW3, (hk1.trans hn1 hk12).trans hn1 hk3, hn1.trans hs2 hn3⟩
end Go.Proofs.Ytajkgecegefnmaa
