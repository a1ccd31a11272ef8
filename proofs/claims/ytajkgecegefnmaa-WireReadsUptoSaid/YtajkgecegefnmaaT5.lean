import Derived.Test.YtajkgecegefnmaaT4
namespace Go.Proofs.Ytajkgecegefnmaa
open Go.ChangeShapes Go.WideShapes Go.ChangeAt Go.RowKit Go.Deep
set_option linter.unusedSimpArgs false
set_option linter.unusedVariables false

def NWPost (w : World) (e : Ending) (w' : World) : Prop := ∃ g, e = .returned (.pointer (some ⟨g, 0, none⟩)) ∧ w.heap.size ≤ g ∧ Below w.heap.size w w' ∧ WObj w' g (.slice none 0 0) []

set_option maxHeartbeats 1000000 in
theorem NewWriter_c  (w : World) : Calls Try.prog 9 #[] w (NWPost w) := by
  go_enter Try.func9, Try.ntmps9
  go_wp2
  go_ret
  exact ⟨w.heap.size, rfl, Nat.le_refl _, by (focus repeat' (first | (with_reducible exact Below.refl _ _) | (with_reducible assumption) | (with_reducible refine Below.alloc ?_ ?_ _) | (with_reducible refine Below.drew ?_) | (with_reducible refine bdrewN ?_ _) | (with_reducible refine Below.setCell ?_ ?_ _) | (first | (with_reducible exact Nat.le_refl _) | (with_reducible assumption) | omega | (simp; omega) | (simp; done)))), by simp, by simp, by simp, World.ownsRow_nil _ _ _ _, by simp [Value.ownBlock], fun _ => rfl⟩

set_option maxHeartbeats 1000000 in
theorem Len_c (g : Nat) (v : Value) (bs : List Nat) (w : World) (hW : WObj w g v bs) : Calls Try.prog 28 #[.pointer (some ⟨g, 0, none⟩)] w fun e w' => e = .returned (.int .i64 (bs.length : Int)) ∧ Below w.heap.size w w' := by
  obtain ⟨w1, w2, w3, w4, w5, _⟩ := hW
  obtain ⟨_, h | ⟨g2, cap, cur, hv, _⟩⟩ := w4
  · obtain ⟨rfl, h0⟩ := h
    have H0 := hide h0
    clear h0
    go_enter Try.func28, Try.ntmps28
    go_wp2
    go_ret
    exact ⟨ret_int (by rw [H0.out]; rfl), by (focus repeat' (first | (with_reducible exact Below.refl _ _) | (with_reducible assumption) | (with_reducible refine Below.alloc ?_ ?_ _) | (with_reducible refine Below.drew ?_) | (with_reducible refine bdrewN ?_ _) | (with_reducible refine Below.setCell ?_ ?_ _) | (first | (with_reducible exact Nat.le_refl _) | (with_reducible assumption) | omega | (simp; omega) | (simp; done))))⟩
  · subst hv
    go_enter Try.func28, Try.ntmps28
    go_wp2
    go_ret
    exact ⟨rfl, by (focus repeat' (first | (with_reducible exact Below.refl _ _) | (with_reducible assumption) | (with_reducible refine Below.alloc ?_ ?_ _) | (with_reducible refine Below.drew ?_) | (with_reducible refine bdrewN ?_ _) | (with_reducible refine Below.setCell ?_ ?_ _) | (first | (with_reducible exact Nat.le_refl _) | (with_reducible assumption) | omega | (simp; omega) | (simp; done))))⟩

theorem xor_zero_u64 (a : Nat) (ha : a < 18446744073709551616) : bits .xor .u64 (a : Int) (0 : Int) = (a : Int) := by
  have := bits_xor_u64_nat a 0 ha (by decide)
  simpa using this
theorem xor_ones (a : Nat) (ha : a < 18446744073709551616) : a ^^^ 18446744073709551615 = 18446744073709551615 - a := by
  have h := congrArg BitVec.toNat (BitVec.xor_allOnes (x := BitVec.ofNat 64 a))
  rw [BitVec.toNat_xor, BitVec.toNat_not, BitVec.toNat_allOnes, BitVec.toNat_ofNat, Nat.mod_eq_of_lt (by simpa using ha)] at h
  simpa using h
theorem xor_ones_u64 (a : Nat) (ha : a < 18446744073709551616) : bits .xor .u64 (a : Int) (18446744073709551615 : Int) = ((18446744073709551615 - a : Nat) : Int) := by
  have := bits_xor_u64_nat a 18446744073709551615 ha (by decide)
  rw [xor_ones a ha] at this
  simpa using this

set_option maxHeartbeats 1000000 in
theorem Fold_pos (X : Nat) (w : World) (h1 : X < 9223372036854775808) : Calls Try.prog 15 #[.int .i64 (X : Int)] w fun e w' => e = .returned (.int .u64 (2 * X : Nat)) ∧ Below w.heap.size w w' := by
  go_enter Try.func15, Try.ntmps15
  go_wp2
  go_ret
  refine ⟨ret_int ?_, by (focus repeat' (first | (with_reducible exact Below.refl _ _) | (with_reducible assumption) | (with_reducible refine Below.alloc ?_ ?_ _) | (with_reducible refine Below.drew ?_) | (with_reducible refine bdrewN ?_ _) | (with_reducible refine Below.setCell ?_ ?_ _) | (first | (with_reducible exact Nat.le_refl _) | (with_reducible assumption) | omega | (simp; omega) | (simp; done))))⟩
  have e : (X : Int) / 9223372036854775808 = 0 := by omega
  have q := xor_zero_u64 (X * 2) (by omega)
  rw [Nat.mul_comm] at q
  first | (rw [e]; simpa [Int.mul_comm] using q) | (simpa [e, Int.mul_comm] using q)

set_option maxHeartbeats 1000000 in
theorem Fold_neg (Y : Nat) (w : World) (h1 : Y < 9223372036854775808) : Calls Try.prog 15 #[.int .i64 (-((Y : Int) + 1))] w fun e w' => e = .returned (.int .u64 (2 * Y + 1 : Nat)) ∧ Below w.heap.size w w' := by
  go_enter Try.func15, Try.ntmps15
  go_wp2
  go_ret
  refine ⟨ret_int ?_, by (focus repeat' (first | (with_reducible exact Below.refl _ _) | (with_reducible assumption) | (with_reducible refine Below.alloc ?_ ?_ _) | (with_reducible refine Below.drew ?_) | (with_reducible refine bdrewN ?_ _) | (with_reducible refine Below.setCell ?_ ?_ _) | (first | (with_reducible exact Nat.le_refl _) | (with_reducible assumption) | omega | (simp; omega) | (simp; done))))⟩
  have q := xor_ones_u64 (18446744073709551616 - 2 * (Y + 1)) (by omega)
  have e1 : (-((Y : Int) + 1) % 18446744073709551616 * 2) % 18446744073709551616 = ((18446744073709551616 - 2 * (Y + 1) : Nat) : Int) := by omega
  have e2 : (-((Y : Int) + 1) / 9223372036854775808) % 18446744073709551616 = 18446744073709551615 := by omega
  rw [IntKind.wrap_u64, IntKind.wrap_u64, IntKind.wrap_u64, e1, e2, q]
  omega

/-- an int64 folded -/
def fold (x : Int) : Nat := if 0 ≤ x then (2 * x).toNat else (-2 * x - 1).toNat
theorem fold_lt {x : Int} (h0 : -9223372036854775808 ≤ x) (h1 : x ≤ 9223372036854775807) : fold x < 18446744073709551616 := by unfold fold; split <;> omega
theorem Fold_c (x : Int) (w : World) (h0 : -9223372036854775808 ≤ x) (h1 : x ≤ 9223372036854775807) : Calls Try.prog 15 #[.int .i64 x] w fun e w' => e = .returned (.int .u64 (fold x : Int)) ∧ Below w.heap.size w w' := by
  by_cases h : 0 ≤ x
  · have e : x = ((x.toNat : Nat) : Int) := by omega
    have f : fold x = 2 * x.toNat := by unfold fold; rw [if_pos h]; omega
    rw [f, e]
    simpa using Fold_pos x.toNat w (by omega)
  · have e : x = -((((-x - 1).toNat : Nat) : Int) + 1) := by omega
    have f : fold x = 2 * (-x - 1).toNat + 1 := by unfold fold; rw [if_neg h]; omega
    rw [f]
    have q := Fold_neg (-x - 1).toNat w (by omega)
    rw [← e] at q
    exact q

set_option maxHeartbeats 2000000 in
theorem Signed_c (g : Nat) (v : Value) (bs : List Nat) (x : Int) (w : World) (hW : WObj w g v bs) (hl : bs.length ≤ 8796093022208) (h0 : -9223372036854775808 ≤ x) (h1 : x ≤ 9223372036854775807) : Calls Try.prog 34 #[.pointer (some ⟨g, 0, none⟩), .int .i64 x] w (fun e w' => ∃ v', e = .returned (.int .i64 0) ∧ WObj w' g v' (bs ++ form (fold x)) ∧ WKeep g v w w' ∧ Near w v v') := by
  have hx := fold_lt h0 h1
  have HWh := hide hW
  clear hW
  go_enter Try.func34, Try.ntmps34
  go_wp2_with fail
  refine (Fold_c x _ h0 h1).mono ?_
  rintro e w1 ⟨rfl, hb1⟩
  go_wp2_with fail
  refine (Number_c g v bs (fold x) _ (HWh.out.below hb1) hl hx).mono ?_
  rintro e w2 ⟨v', rfl, hW2, hk2, hn2⟩
  go_wp2
  go_ret
  exact ⟨v', rfl, hW2, (WKeep.of_below hb1).trans (.inl rfl) hk2, Near.trans (.inl rfl) hb1.size hn2⟩

set_option maxHeartbeats 2000000 in
theorem Flag_yes (g : Nat) (v : Value) (bs : List Nat) (w : World) (hW : WObj w g v bs) (hl : bs.length ≤ 8796093022208) : Calls Try.prog 35 #[.pointer (some ⟨g, 0, none⟩), .bool true] w (fun e w' => ∃ v', e = .returned (.int .i64 0) ∧ WObj w' g v' (bs ++ [1]) ∧ WKeep g v w w' ∧ Near w v v') := by
  have HWh := hide hW
  clear hW
  go_enter Try.func35, Try.ntmps35
  go_wp2_with fail
  have hB : Below w.heap.size w (w.alloc (.cells #[.int .u8 1] 5)) := by (focus repeat' (first | (with_reducible exact Below.refl _ _) | (with_reducible assumption) | (with_reducible refine Below.alloc ?_ ?_ _) | (with_reducible refine Below.drew ?_) | (with_reducible refine bdrewN ?_ _) | (with_reducible refine Below.setCell ?_ ?_ _) | (first | (with_reducible exact Nat.le_refl _) | (with_reducible assumption) | omega | (simp; omega) | (simp; done))))
  refine (raw_c g v bs [1] w.heap.size 0 1 _ (HWh.out.below hB) (by decide) (by simp; omega) (fun j hj => by
    have hj0 : j = 0 := by simpa using hj
    subst hj0
    simp)).mono ?_
  rintro e w1 ⟨v', rfl, hW1, hk1, hn1⟩
  go_wp2
  go_ret
  have hs : w.heap.size ≤ (w.alloc (.cells #[.int .u8 1] 5)).heap.size := by simp
  exact ⟨v', rfl, hW1, (WKeep.of_below hB).trans (.inl rfl) hk1, Near.trans (.inl rfl) hs hn1⟩

set_option maxHeartbeats 2000000 in
theorem Flag_no (g : Nat) (v : Value) (bs : List Nat) (w : World) (hW : WObj w g v bs) (hl : bs.length ≤ 8796093022208) : Calls Try.prog 35 #[.pointer (some ⟨g, 0, none⟩), .bool false] w (fun e w' => ∃ v', e = .returned (.int .i64 0) ∧ WObj w' g v' (bs ++ [0]) ∧ WKeep g v w w' ∧ Near w v v') := by
  have HWh := hide hW
  clear hW
  go_enter Try.func35, Try.ntmps35
  go_wp2_with fail
  have hB : Below w.heap.size w (w.alloc (.cells #[.int .u8 0] 5)) := by (focus repeat' (first | (with_reducible exact Below.refl _ _) | (with_reducible assumption) | (with_reducible refine Below.alloc ?_ ?_ _) | (with_reducible refine Below.drew ?_) | (with_reducible refine bdrewN ?_ _) | (with_reducible refine Below.setCell ?_ ?_ _) | (first | (with_reducible exact Nat.le_refl _) | (with_reducible assumption) | omega | (simp; omega) | (simp; done))))
  refine (raw_c g v bs [0] w.heap.size 0 1 _ (HWh.out.below hB) (by decide) (by simp; omega) (fun j hj => by
    have hj0 : j = 0 := by simpa using hj
    subst hj0
    simp)).mono ?_
  rintro e w1 ⟨v', rfl, hW1, hk1, hn1⟩
  go_wp2
  go_ret
  have hs : w.heap.size ≤ (w.alloc (.cells #[.int .u8 0] 5)).heap.size := by simp
  exact ⟨v', rfl, hW1, (WKeep.of_below hB).trans (.inl rfl) hk1, Near.trans (.inl rfl) hs hn1⟩
end Go.Proofs.Ytajkgecegefnmaa
