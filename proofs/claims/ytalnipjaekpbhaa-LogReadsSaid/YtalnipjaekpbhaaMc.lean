/- Contracts of the layer's functions, each proved once, in the order in which they are used. No condition beyond each theorem's own. -/
import Derived.Test.YtalnipjaekpbhaaMb
import Derived.Deep.AppendLies
import Derived.Maps.AppendAt
import Derived.Deep.OwnRows
import Derived.Deep.CutRange
namespace Go.Proofs.Ytalnipjaekpbhaa
open Go.ChangeShapes Go.WideShapes Go.ChangeAt Go.RowKit Go.Deep
set_option linter.unusedSimpArgs false
set_option linter.unusedVariables false

/-- one bit of the sum's register -/
def crcBit (x : Nat) : Nat := if x % 2 = 1 then (x / 2) ^^^ 2197175160 else x / 2
def crcBits : Nat → Nat → Nat
  | 0, x => x
  | k + 1, x => crcBit (crcBits k x)
def crcByte (x b : Nat) : Nat := crcBits 8 (x ^^^ b)
def crcMore (x : Nat) (l : List Nat) : Nat := l.foldl crcByte x
/-- the sum of some bytes -/
def crc (l : List Nat) : Nat := 4294967295 - crcMore 4294967295 l
theorem crcBit_lt {x : Nat} (h : x < 4294967296) : crcBit x < 4294967296 := by
  unfold crcBit
  split
  · exact Nat.xor_lt_two_pow (n := 32) (by omega) (by decide)
  · omega
theorem crcBits_lt {x : Nat} (k : Nat) (h : x < 4294967296) : crcBits k x < 4294967296 := by
  induction k with
  | zero => exact h
  | succ k ih => exact crcBit_lt ih
theorem crcByte_lt {x b : Nat} (h : x < 4294967296) (hb : b < 256) : crcByte x b < 4294967296 := crcBits_lt 8 (Nat.xor_lt_two_pow (n := 32) h (by omega))
theorem crcMore_lt {x : Nat} {l : List Nat} (h : x < 4294967296) (hl : ∀ b ∈ l, b < 256) : crcMore x l < 4294967296 := by
  induction l generalizing x with
  | nil => exact h
  | cons b l ih => exact ih (crcByte_lt h (hl b (List.mem_cons_self ..))) (fun c hc => hl c (List.mem_cons_of_mem _ hc))
theorem crcMore_app (x : Nat) (a b : List Nat) : crcMore x (a ++ b) = crcMore (crcMore x a) b := List.foldl_append
theorem crcMore_snoc (x : Nat) (a : List Nat) (c : Nat) : crcMore x (a ++ [c]) = crcByte (crcMore x a) c := by rw [crcMore_app]; rfl
theorem take_snoc {l : List Nat} {k : Nat} (h : k < l.length) : l.take (k + 1) = l.take k ++ [l.getD k 0] := by
  rw [List.take_add_one, List.getElem?_eq_getElem h, List.getD_eq_getElem?_getD, List.getElem?_eq_getElem h]; rfl
theorem crcMore_take {x : Nat} {l : List Nat} {k : Nat} (h : k < l.length) : crcMore x (l.take (k + 1)) = crcByte (crcMore x (l.take k)) (l.getD k 0) := by rw [take_snoc h, crcMore_snoc]
/-- bytes that are read -/
structure ByteIn (w : World) (v : Value) (l : List Nat) : Prop where
  val : ∃ p c, v = .slice p l.length c
  at_ : ∀ j, j < l.length → ∃ b o c, v = .slice (some ⟨b, o, none⟩) l.length c ∧ w.cell? ⟨b, o + j, none⟩ = some (.int .u8 (l.getD j 0 : Int))
  lt : ∀ x ∈ l, x < 256
  len : l.length ≤ 1099511627776
theorem cell_stay {w w' : World} {b o : Nat} {u : Value} (h : w.cell? ⟨b, o, none⟩ = some u) (hb : w'.heap[b]? = w.heap[b]?) : w'.cell? ⟨b, o, none⟩ = some u := (World.cell?_of_block (a := ⟨b, o, none⟩) hb).trans h
theorem fro_stay {w w' : World} {b o : Nat} {v : Bool} (h : w.frozen? ⟨b, o, none⟩ = v) (hb : w'.heap[b]? = w.heap[b]?) : w'.frozen? ⟨b, o, none⟩ = v := (World.frozen?_of_block (a := ⟨b, o, none⟩) hb).trans h
theorem ByteIn.below {w w' : World} {v : Value} {l : List Nat} (h : ByteIn w v l) (hb : Below w.heap.size w w') : ByteIn w' v l :=
  ⟨h.val, fun j hj => by obtain ⟨b, o, c, e, q⟩ := h.at_ j hj; exact ⟨b, o, c, e, cell_stay q (hb.block b (World.block_lt_of_cell? w _ q))⟩, h.lt, h.len⟩
theorem getD_lt' {l : List Nat} (h : ∀ x ∈ l, x < 256) (j : Nat) : l.getD j 0 < 256 := by
  rw [List.getD_eq_getElem?_getD]
  by_cases e : j < l.length
  · rw [List.getElem?_eq_getElem e]; exact h _ (List.getElem_mem e)
  · rw [List.getElem?_eq_none (by omega)]; decide
theorem bits_xor_u32_nat (a b : Nat) (ha : a < 4294967296) (hb : b < 4294967296) : bits .xor .u32 (a : Int) (b : Int) = ((a ^^^ b : Nat) : Int) := by
  have hx : a ^^^ b < 2 ^ 32 := Nat.xor_lt_two_pow (by omega) (by omega)
  have h1 : (BitVec.ofInt 32 (a : Int)).toNat = a := by
    rw [BitVec.ofInt_natCast, BitVec.toNat_ofNat]; exact Nat.mod_eq_of_lt (by omega)
  have h2 : (BitVec.ofInt 32 (b : Int)).toNat = b := by
    rw [BitVec.ofInt_natCast, BitVec.toNat_ofNat]; exact Nat.mod_eq_of_lt (by omega)
  show IntKind.u32.wrap ((BitVec.ofInt 32 (a : Int) ^^^ BitVec.ofInt 32 (b : Int)).toNat : Int) = _
  rw [BitVec.toNat_xor, h1, h2, show ∀ n, IntKind.u32.wrap n = n % 4294967296 from fun n => by simp [IntKind.wrap, IntKind.bits, IntKind.signed]]
  omega
theorem bits_and_u32_nat' (a b : Nat) (ha : a < 4294967296) (hb : b < 4294967296) : bits .and .u32 (a : Int) (b : Int) = ((a &&& b : Nat) : Int) := by
  have hx : a &&& b < 2 ^ 32 := Nat.and_lt_two_pow _ (by omega)
  have h1 : (BitVec.ofInt 32 (a : Int)).toNat = a := by
    rw [BitVec.ofInt_natCast, BitVec.toNat_ofNat]; exact Nat.mod_eq_of_lt (by omega)
  have h2 : (BitVec.ofInt 32 (b : Int)).toNat = b := by
    rw [BitVec.ofInt_natCast, BitVec.toNat_ofNat]; exact Nat.mod_eq_of_lt (by omega)
  show IntKind.u32.wrap ((BitVec.ofInt 32 (a : Int) &&& BitVec.ofInt 32 (b : Int)).toNat : Int) = _
  rw [BitVec.toNat_and, h1, h2, show ∀ n, IntKind.u32.wrap n = n % 4294967296 from fun n => by simp [IntKind.wrap, IntKind.bits, IntKind.signed]]
  omega
theorem and_one (x : Nat) : x &&& 1 = x % 2 := Nat.and_one_is_mod x
theorem and_ones32 {x : Nat} (h : x < 4294967296) : x &&& 4294967295 = x := by
  have := Nat.and_two_pow_sub_one_eq_mod x 32
  have e : x % 2 ^ 32 = x := Nat.mod_eq_of_lt h
  rw [e] at this; exact this
end Go.Proofs.Ytalnipjaekpbhaa

namespace Go.Proofs.Ytalnipjaekpbhaa
open Go.ChangeShapes Go.WideShapes Go.ChangeAt Go.RowKit Go.Deep
set_option linter.unusedSimpArgs false
set_option linter.unusedVariables false

theorem xor_ones32 (a : Nat) (ha : a < 4294967296) : 4294967295 ^^^ a = 4294967295 - a := by
  have h := congrArg BitVec.toNat (BitVec.xor_allOnes (x := BitVec.ofNat 32 a))
  rw [BitVec.toNat_xor, BitVec.toNat_not, BitVec.toNat_allOnes, BitVec.toNat_ofNat, Nat.mod_eq_of_lt (by simpa using ha)] at h
  rw [Nat.xor_comm]
  simpa using h
theorem xor_ones_u32 (a : Nat) (ha : a < 4294967296) : bits .xor .u32 IntKind.u32.max (a : Int) = ((4294967295 - a : Nat) : Int) := by
  have := bits_xor_u32_nat 4294967295 a (by decide) ha
  rw [xor_ones32 a ha] at this
  exact this
set_option maxRecDepth 100000 in
set_option maxHeartbeats 4000000 in
theorem Sum_c (rb cap : Nat) (vs : Nat → Value) (ls : List (List Nat)) (w : World) (hr : ∀ i, i < ls.length → w.cell? ⟨rb, i, none⟩ = some (vs i) ∧ ByteIn w (vs i) (ls.getD i [])) (hl : ls.length ≤ 1048576) :
    Calls Try.prog 18 #[.slice (some ⟨rb, 0, none⟩) ls.length cap] w fun e w' => e = .returned (.int .u32 (crc ls.flatten : Int)) ∧ w' = w := by
  have HR := hide hr
  have HF := hide (show ∀ i, i < ls.length → ∀ x ∈ ls.getD i [], x < 256 from fun i hi => (hr i hi).2.lt)
  clear hr
  go_enter Try.func18, Try.ntmps18
  go_wp2
  go_loopw [3, 10] (fun v3 v10 wr => ∃ i : Nat, i ≤ ls.length ∧ v10 = .int .i64 (i : Int) ∧ v3 = .int .u32 (crcMore 4294967295 (ls.take i).flatten : Int) ∧ crcMore 4294967295 (ls.take i).flatten < 4294967296 ∧ wr = w) (fun _ v10 _ => ls.length - (intOf v10).toNat)
  case atStart => exact ⟨0, Nat.zero_le _, rfl, by simp [crcMore], by simp [crcMore], rfl⟩
  case round =>
    obtain ⟨i, hi, rfl, rfl, hlt, hw⟩ := hrel
    subst wr
    obtain ⟨x0, hx0⟩ : ∃ x0, x0 = crcMore 4294967295 (ls.take i).flatten := ⟨_, rfl⟩
    rw [← hx0] at hlt ⊢
    have HX0 := hide hx0
    clear hx0
    have hi0 : (0 : Int) ≤ (i : Int) := by omega
    by_cases h : i < ls.length
    · have h' : (i : Int) < (ls.length : Int) := by omega
      have c0 := (HR.out i h).1
      have HB := hide (HR.out i h).2
      obtain ⟨p, c, e⟩ := HB.out.val
      obtain ⟨l, hl⟩ : ∃ l, l = ls.getD i [] := ⟨_, rfl⟩
      have HL := hide hl
      rw [← hl] at HB e
      rw [e] at c0 HB
      have hll := HB.out.len
      have HNX := hide (show crcMore 4294967295 (ls.take (i + 1)).flatten = crcMore x0 l by
        rw [List.take_add_one, List.getElem?_eq_getElem h, List.flatten_append, crcMore_app, ← HX0.out, hl, List.getD_eq_getElem?_getD, List.getElem?_eq_getElem h]
        simp)
      clear e hl
      go_wp2
      go_loopw [3, 16] (fun v3 v16 wr => ∃ j : Nat, j ≤ l.length ∧ v16 = .int .i64 (j : Int) ∧ v3 = .int .u32 (crcMore x0 (l.take j) : Int) ∧ crcMore x0 (l.take j) < 4294967296 ∧ wr = w) (fun _ v16 _ => l.length - (intOf v16).toNat)
      case atStart => exact ⟨0, Nat.zero_le _, rfl, by simp [crcMore], by simpa [crcMore] using hlt, rfl⟩
      case round =>
        obtain ⟨j, hj, rfl, rfl, hlt2, hw⟩ := hrel
        subst wr
        obtain ⟨x1, hx1⟩ : ∃ x1, x1 = crcMore x0 (l.take j) := ⟨_, rfl⟩
        rw [← hx1] at hlt2 ⊢
        have HX1 := hide hx1
        clear hx1
        have hj0 : (0 : Int) ≤ (j : Int) := by omega
        by_cases h2 : j < l.length
        · have h2' : (j : Int) < (l.length : Int) := by omega
          obtain ⟨b, o, c2, e, cc⟩ := HB.out.at_ j h2
          injection e with e _ ec
          subst e ec
          have hb := getD_lt' HB.out.lt j
          obtain ⟨y, hy⟩ : ∃ y, y = l.getD j 0 := ⟨_, rfl⟩
          rw [← hy] at cc hb
          have HNY := hide (show crcMore x0 (l.take (j + 1)) = crcByte x1 y by rw [crcMore_take h2, ← HX1.out, ← hy])
          clear hy
          have hxy := bits_xor_u32_nat x1 y hlt2 (by omega)
          have hb' : (y : Int) < 256 := by omega
          have hz := crcByte_lt hlt2 hb
          obtain ⟨z, hz0⟩ : ∃ z, z = x1 ^^^ y := ⟨_, rfl⟩
          have hz1 : z < 4294967296 := by rw [hz0]; exact Nat.xor_lt_two_pow (n := 32) hlt2 (by omega)
          rw [← hz0] at hxy
          have HZ := hide (show crcByte x1 y = crcBits 8 z by rw [hz0]; rfl)
          clear hz0
          go_wp2
          clear hxy
          go_loopw [3, 24] (fun v3 v24 wr => ∃ k : Nat, k ≤ 8 ∧ v24 = .int .i64 (k : Int) ∧ v3 = .int .u32 (crcBits k z : Int) ∧ wr = w) (fun _ v24 _ => 8 - (intOf v24).toNat)
          case atStart => exact ⟨0, by decide, rfl, rfl, rfl⟩
          case round =>
            obtain ⟨k, hk, rfl, rfl, hw⟩ := hrel
            subst wr
            have hx2 := crcBits_lt k hz1
            obtain ⟨x2, hx20⟩ : ∃ x2, x2 = crcBits k z := ⟨_, rfl⟩
            rw [← hx20] at hx2 ⊢
            have HX2 := hide hx20
            have HCB := hide (show crcBits (k + 1) z = crcBit x2 by rw [hx20]; rfl)
            clear hx20
            by_cases h3 : k < 8
            · have h3' : (k : Int) < 8 := by omega
              have a1 : bits .and .u32 (x2 : Int) 1 = ((x2 % 2 : Nat) : Int) := by rw [← and_one]; exact bits_and_u32_nat' x2 1 hx2 (by decide)
              have e2 : ((x2 : Int) / 2) = ((x2 / 2 : Nat) : Int) := by omega
              rcases Nat.mod_two_eq_zero_or_one x2 with ho | ho
              · rw [ho] at a1
                have a2 : bits .and .u32 2197175160 0 = 0 := by decide
                have a3 : bits .xor .u32 ((x2 : Int) / 2) 0 = ((x2 / 2 : Nat) : Int) := by rw [e2]; simpa using bits_xor_u32_nat (x2 / 2) 0 (by omega) (by decide)
                have HC := hide (show crcBits (k + 1) z = x2 / 2 by rw [HCB.out]; unfold crcBit; rw [if_neg (by omega)])
                have A3 := hide a3
                clear e2 a3
                go_wp2
                exact ⟨⟨k + 1, by omega, by go_num, by rw [A3.out, HC.out], by simp⟩, by simp [intOf]; omega⟩
              · rw [ho] at a1
                have a2 : bits .and .u32 2197175160 4294967295 = 2197175160 := by decide
                have a3 : bits .xor .u32 ((x2 : Int) / 2) 2197175160 = (((x2 / 2) ^^^ 2197175160 : Nat) : Int) := by rw [e2]; exact bits_xor_u32_nat (x2 / 2) 2197175160 (by omega) (by decide)
                have HC := hide (show crcBits (k + 1) z = (x2 / 2) ^^^ 2197175160 by rw [HCB.out]; unfold crcBit; rw [if_pos ho])
                have A3 := hide a3
                clear e2 a3
                go_wp2
                exact ⟨⟨k + 1, by omega, by go_num, by rw [A3.out, HC.out], by simp⟩, by simp [intOf]; omega⟩
            · obtain rfl : k = 8 := by omega
              go_wp2
              go_roundw
              case rel => exact ⟨j + 1, by omega, by go_num, by rw [HNY.out, HZ.out, HX2.out], by rw [HNY.out]; exact hz, trivial⟩
              case measure => (first | (simp [intOf]; done) | (simp [intOf]; omega))
        · obtain rfl : j = l.length := by omega
          have HT := hide (show crcMore x0 l = x1 by rw [HX1.out, List.take_length])
          go_wp2
          go_roundw
          case rel => exact ⟨i + 1, by omega, by go_num, by rw [HNX.out, HT.out], by rw [HNX.out, HT.out]; exact hlt2, trivial⟩
          case measure => (first | (simp [intOf]; done) | (simp [intOf]; omega))
    · obtain rfl : i = ls.length := by omega
      have HE := hide (show crc ls.flatten = 4294967295 - x0 by unfold crc; rw [HX0.out, List.take_length])
      have hx := xor_ones_u32 x0 hlt
      go_wp2
      refine bodyPost_ret (v := .int .u32 (crc ls.flatten : Int)) (by rw [HE.out, ← hx]; simp [results, Try.f18, go_sem]) rfl ⟨rfl, rfl⟩

set_option maxRecDepth 100000 in
set_option maxHeartbeats 4000000 in
theorem More_c (x : Nat) (v : Value) (l : List Nat) (w : World) (hx : x < 4294967296) (hb : ByteIn w v l) :
    Calls Try.prog 56 #[.int .u32 (x : Int), v] w fun e w' => e = .returned (.int .u32 (crcMore x l : Int)) ∧ w' = w := by
  have HB := hide hb
  obtain ⟨p, c, rfl⟩ := hb.val
  have hll := hb.len
  clear hb
  go_enter Try.func56, Try.ntmps56
  go_wp2
  go_loopw [0, 5] (fun v0 v5 wr => ∃ j : Nat, j ≤ l.length ∧ v5 = .int .i64 (j : Int) ∧ v0 = .int .u32 (crcMore x (l.take j) : Int) ∧ crcMore x (l.take j) < 4294967296 ∧ wr = w) (fun _ v5 _ => l.length - (intOf v5).toNat)
  case atStart => exact ⟨0, Nat.zero_le _, rfl, by simp [crcMore], by simpa [crcMore] using hx, rfl⟩
  case round =>
    obtain ⟨j, hj, rfl, rfl, hlt2, hw⟩ := hrel
    subst wr
    obtain ⟨x1, hx1⟩ : ∃ x1, x1 = crcMore x (l.take j) := ⟨_, rfl⟩
    rw [← hx1] at hlt2 ⊢
    have HX1 := hide hx1
    clear hx1
    have hj0 : (0 : Int) ≤ (j : Int) := by omega
    by_cases h2 : j < l.length
    · have h2' : (j : Int) < (l.length : Int) := by omega
      obtain ⟨b, o, c2, e, cc⟩ := HB.out.at_ j h2
      injection e with e _ ec
      subst e ec
      have hb := getD_lt' HB.out.lt j
      obtain ⟨y, hy⟩ : ∃ y, y = l.getD j 0 := ⟨_, rfl⟩
      rw [← hy] at cc hb
      have HNY := hide (show crcMore x (l.take (j + 1)) = crcByte x1 y by rw [crcMore_take h2, ← HX1.out, ← hy])
      clear hy
      have hxy := bits_xor_u32_nat x1 y hlt2 (by omega)
      have hb' : (y : Int) < 256 := by omega
      have hz := crcByte_lt hlt2 hb
      obtain ⟨z, hz0⟩ : ∃ z, z = x1 ^^^ y := ⟨_, rfl⟩
      have hz1 : z < 4294967296 := by rw [hz0]; exact Nat.xor_lt_two_pow (n := 32) hlt2 (by omega)
      rw [← hz0] at hxy
      have HZ := hide (show crcByte x1 y = crcBits 8 z by rw [hz0]; rfl)
      clear hz0
      go_wp2
      clear hxy
      go_loopw [0, 6] (fun v0 v6 wr => ∃ k : Nat, k ≤ 8 ∧ v6 = .int .i64 (k : Int) ∧ v0 = .int .u32 (crcBits k z : Int) ∧ wr = w) (fun _ v6 _ => 8 - (intOf v6).toNat)
      case atStart => exact ⟨0, by decide, rfl, rfl, rfl⟩
      case round =>
        obtain ⟨k, hk, rfl, rfl, hw⟩ := hrel
        subst wr
        have hx2 := crcBits_lt k hz1
        obtain ⟨x2, hx20⟩ : ∃ x2, x2 = crcBits k z := ⟨_, rfl⟩
        rw [← hx20] at hx2 ⊢
        have HX2 := hide hx20
        have HCB := hide (show crcBits (k + 1) z = crcBit x2 by rw [hx20]; rfl)
        clear hx20
        by_cases h3 : k < 8
        · have h3' : (k : Int) < 8 := by omega
          have e2 : ((x2 : Int) / 2) = ((x2 / 2 : Nat) : Int) := by omega
          rcases Nat.mod_two_eq_zero_or_one x2 with ho | ho
          · have a1 : (x2 : Int) % 2 = 0 := by omega
            have HC := hide (show crcBits (k + 1) z = x2 / 2 by rw [HCB.out]; unfold crcBit; rw [if_neg (by omega)])
            have A3 := hide e2
            clear e2
            go_wp2
            exact ⟨⟨k + 1, by omega, by go_num, by rw [HC.out]; first | rfl | exact congrArg _ A3.out | simp, by simp⟩, by simp [intOf]; omega⟩
          · have a1 : (x2 : Int) % 2 = 1 := by omega
            have a3 : bits .xor .u32 ((x2 : Int) / 2) 2197175160 = (((x2 / 2) ^^^ 2197175160 : Nat) : Int) := by rw [e2]; exact bits_xor_u32_nat (x2 / 2) 2197175160 (by omega) (by decide)
            have HC := hide (show crcBits (k + 1) z = (x2 / 2) ^^^ 2197175160 by rw [HCB.out]; unfold crcBit; rw [if_pos ho])
            have A3 := hide a3
            clear e2 a3
            go_wp2
            exact ⟨⟨k + 1, by omega, by go_num, by rw [A3.out, HC.out], by simp⟩, by simp [intOf]; omega⟩
        · obtain rfl : k = 8 := by omega
          go_wp2
          go_roundw
          case rel => exact ⟨j + 1, by omega, by go_num, by rw [HNY.out, HZ.out, HX2.out], by rw [HNY.out]; exact hz, trivial⟩
          case measure => (first | (simp [intOf]; done) | (simp [intOf]; omega))
    · obtain rfl : j = l.length := by omega
      have HT := hide (show crcMore x l = x1 by rw [HX1.out, List.take_length])
      go_wp2
      refine bodyPost_ret (v := .int .u32 (crcMore x l : Int)) (by rw [HT.out]; simp [results, Try.f56, go_sem]) rfl ⟨rfl, rfl⟩
set_option maxRecDepth 100000 in
set_option maxHeartbeats 4000000 in
theorem rSum_c (v : Value) (l : List Nat) (w : World) (hb : ByteIn w v l) :
    Calls Try.prog 19 #[v] w fun e w' => e = .returned (.int .u32 (crc l : Int)) ∧ w' = w := by
  have C := hide (More_c 4294967295 v l w (by decide) hb)
  have hx := xor_ones_u32 (crcMore 4294967295 l) (crcMore_lt (by decide) hb.lt)
  obtain ⟨p, c, rfl⟩ := hb.val
  clear hb
  go_enter Try.func19, Try.ntmps19
  go_wp2_with fail
  refine C.out.mono ?_
  rintro e w1 ⟨rfl, rfl⟩
  go_wp2
  refine bodyPost_ret (v := .int .u32 (crc l : Int)) (by unfold crc; rw [← hx]; simp [results, Try.f19, go_sem]) rfl ⟨rfl, rfl⟩
end Go.Proofs.Ytalnipjaekpbhaa

namespace Go.Proofs.Ytalnipjaekpbhaa
open Go.ChangeShapes Go.WideShapes Go.ChangeAt Go.RowKit Go.Deep
set_option linter.unusedSimpArgs false
set_option linter.unusedVariables false

/-- where an order's numbers lie, kind by kind -/
def wholeO (k : Int) : List Nat := if k = 2 then [3] else if k = 3 then [5] else if k = 4 ∨ k = 5 then [3, 4] else []
def wideO (k : Int) : List Nat := if k = 1 then [2] else if k = 2 then [2] else if k = 3 then [6, 7, 8, 9, 10, 11, 12, 13] else if k = 6 then [17] else []
def behindO (k : Int) : List Nat := if k = 3 then [14, 15] else []
def isKind (k : Int) : Bool := decide (1 ≤ k ∧ k ≤ 6)
def ptrs (ob : Nat) (l : List Nat) : List Value := l.map fun o => .pointer (some ⟨ob, o, none⟩)
theorem ptrs_len (ob : Nat) (l : List Nat) : (ptrs ob l).length = l.length := by simp [ptrs]
def FieldsPost (ob : Nat) (k : Int) (w : World) (e : Ending) (w' : World) : Prop := ∃ v1 v2, e = .returned (.tuple #[v1, v2, .bool (isKind k)]) ∧ w'.ownsRow w.heap.size 104 1 v1 (wholeO k).length (ptrs ob (wholeO k)) ∧ w'.ownsRow w.heap.size 105 1 v2 (wideO k).length (ptrs ob (wideO k)) ∧ Below w.heap.size w w'
theorem lit_second (w : World) (o : Obj) (B : Nat) (e : TypeId) (cs : Array Value) (n : Nat) (hm : n ≤ maxLen) (hs : cs.size = n * 1) (hB : B ≤ w.heap.size := by exact Nat.le_refl _) : ((w.alloc o).alloc (.cells cs e)).ownsRow B e 1 (.slice (some ⟨w.heap.size + 1, 0, none⟩) n n) n cs.toList := by
  have q := World.ownsRow_lit (base := B) (e := e) (size := 1) (w.alloc o) cs n (by rw [World.size_alloc]; omega) hm hs
  rw [World.size_alloc] at q
  exact q
theorem two_below (w : World) (o o2 : Obj) : Below w.heap.size w ((w.alloc o).alloc o2) := ((Below.refl _ _).alloc (Nat.le_refl _) _).alloc (by rw [World.size_alloc]; exact Nat.le_succ _) _
set_option maxRecDepth 100000 in
set_option maxHeartbeats 8000000 in
theorem fields_c (ob : Nat) (k : Int) (w : World) (h : w.cell? ⟨ob, 0, none⟩ = some (.int .i64 k)) : Calls Try.prog 45 #[.pointer (some ⟨ob, 0, none⟩)] w (FieldsPost ob k w) := by
  by_cases k1 : k = 1
  · subst k1
    go_enter Try.func45, Try.ntmps45
    go_wp2
    go_region
    go_wp2
    refine bodyPost_ret (v := .tuple #[.slice none 0 0, .slice (some ⟨w.heap.size, 0, none⟩) 1 1, .bool true]) (by simp [results, Try.f45, go_sem]) rfl ?_
    exact ⟨_, _, rfl, World.ownsRow_nil _ _ _ _, World.ownsRow_lit w #[.pointer (some ⟨ob, 2, none⟩)] 1 (Nat.le_refl _) (by decide) rfl, Below.drew ((Below.refl _ _).alloc (Nat.le_refl _) _)⟩
  by_cases k2 : k = 2
  · subst k2
    go_enter Try.func45, Try.ntmps45
    go_wp2
    go_region
    all_goals go_wp2
    · refine bodyPost_ret (v := .tuple #[.slice (some ⟨w.heap.size, 0, none⟩) 1 1, .slice (some ⟨w.heap.size + 1, 0, none⟩) 1 1, .bool true]) (by simp [results, Try.f45, go_sem]) rfl ?_
      exact ⟨_, _, rfl, (World.ownsRow_lit w #[.pointer (some ⟨ob, 3, none⟩)] 1 (Nat.le_refl _) (by decide) rfl).alloc _, lit_second w _ _ _ _ 1 (by decide) rfl, Below.drew (two_below w _ _)⟩
    · refine bodyPost_ret (v := .tuple #[.slice (some ⟨w.heap.size + 1, 0, none⟩) 1 1, .slice (some ⟨w.heap.size, 0, none⟩) 1 1, .bool true]) (by simp [results, Try.f45, go_sem]) rfl ?_
      exact ⟨_, _, rfl, lit_second w _ _ _ _ 1 (by decide) rfl, (World.ownsRow_lit w #[.pointer (some ⟨ob, 2, none⟩)] 1 (Nat.le_refl _) (by decide) rfl).alloc _, Below.drew (two_below w _ _)⟩
  by_cases k3 : k = 3
  · subst k3
    go_enter Try.func45, Try.ntmps45
    go_wp2
    go_region
    all_goals go_wp2
    · refine bodyPost_ret (v := .tuple #[.slice (some ⟨w.heap.size, 0, none⟩) 1 1, .slice (some ⟨w.heap.size + 1, 0, none⟩) 8 8, .bool true]) (by simp [results, Try.f45, go_sem]) rfl ?_
      exact ⟨_, _, rfl, (World.ownsRow_lit w #[.pointer (some ⟨ob, 5, none⟩)] 1 (Nat.le_refl _) (by decide) rfl).alloc _, lit_second w _ _ _ _ 8 (by decide) rfl, Below.drew (two_below w _ _)⟩
    · refine bodyPost_ret (v := .tuple #[.slice (some ⟨w.heap.size + 1, 0, none⟩) 1 1, .slice (some ⟨w.heap.size, 0, none⟩) 8 8, .bool true]) (by simp [results, Try.f45, go_sem]) rfl ?_
      exact ⟨_, _, rfl, lit_second w _ _ _ _ 1 (by decide) rfl, (World.ownsRow_lit w #[.pointer (some ⟨ob, 6, none⟩), .pointer (some ⟨ob, 7, none⟩), .pointer (some ⟨ob, 8, none⟩), .pointer (some ⟨ob, 9, none⟩), .pointer (some ⟨ob, 10, none⟩), .pointer (some ⟨ob, 11, none⟩), .pointer (some ⟨ob, 12, none⟩), .pointer (some ⟨ob, 13, none⟩)] 8 (Nat.le_refl _) (by decide) rfl).alloc _, Below.drew (two_below w _ _)⟩
  by_cases k4 : k = 4
  · subst k4
    go_enter Try.func45, Try.ntmps45
    go_wp2
    go_region
    go_wp2
    refine bodyPost_ret (v := .tuple #[.slice (some ⟨w.heap.size, 0, none⟩) 2 2, .slice none 0 0, .bool true]) (by simp [results, Try.f45, go_sem]) rfl ?_
    exact ⟨_, _, rfl, World.ownsRow_lit w #[.pointer (some ⟨ob, 3, none⟩), .pointer (some ⟨ob, 4, none⟩)] 2 (Nat.le_refl _) (by decide) rfl, World.ownsRow_nil _ _ _ _, Below.drew ((Below.refl _ _).alloc (Nat.le_refl _) _)⟩
  by_cases k5 : k = 5
  · subst k5
    go_enter Try.func45, Try.ntmps45
    go_wp2
    go_region
    go_wp2
    refine bodyPost_ret (v := .tuple #[.slice (some ⟨w.heap.size, 0, none⟩) 2 2, .slice none 0 0, .bool true]) (by simp [results, Try.f45, go_sem]) rfl ?_
    exact ⟨_, _, rfl, World.ownsRow_lit w #[.pointer (some ⟨ob, 3, none⟩), .pointer (some ⟨ob, 4, none⟩)] 2 (Nat.le_refl _) (by decide) rfl, World.ownsRow_nil _ _ _ _, Below.drew ((Below.refl _ _).alloc (Nat.le_refl _) _)⟩
  by_cases k6 : k = 6
  · subst k6
    go_enter Try.func45, Try.ntmps45
    go_wp2
    go_region
    go_wp2
    refine bodyPost_ret (v := .tuple #[.slice none 0 0, .slice (some ⟨w.heap.size, 0, none⟩) 1 1, .bool true]) (by simp [results, Try.f45, go_sem]) rfl ?_
    exact ⟨_, _, rfl, World.ownsRow_nil _ _ _ _, World.ownsRow_lit w #[.pointer (some ⟨ob, 17, none⟩)] 1 (Nat.le_refl _) (by decide) rfl, Below.drew ((Below.refl _ _).alloc (Nat.le_refl _) _)⟩
  have hk : isKind k = false := by unfold isKind; rw [decide_eq_false_iff_not]; omega
  have h1 : wholeO k = [] := by unfold wholeO; simp [k2, k3, k4, k5]
  have h2 : wideO k = [] := by unfold wideO; simp [k1, k2, k3, k6]
  have H1 := hide h1
  have H2 := hide h2
  have HK := hide hk
  clear h1 h2 hk
  go_enter Try.func45, Try.ntmps45
  go_wp2
  refine bodyPost_ret (v := .tuple #[.slice none 0 0, .slice none 0 0, .bool false]) (by simp [results, Try.f45, go_sem]) rfl ?_
  refine ⟨_, _, by rw [HK.out], ?_, ?_, Below.refl _ _⟩
  · rw [H1.out]; exact World.ownsRow_nil _ _ _ _
  · rw [H2.out]; exact World.ownsRow_nil _ _ _ _
set_option maxRecDepth 100000 in
set_option maxHeartbeats 8000000 in
theorem behind_c (ob : Nat) (k : Int) (w : World) (h : w.cell? ⟨ob, 0, none⟩ = some (.int .i64 k)) : Calls Try.prog 46 #[.pointer (some ⟨ob, 0, none⟩)] w fun e w' => ∃ v, e = .returned v ∧ w'.ownsRow w.heap.size 104 1 v (behindO k).length (ptrs ob (behindO k)) ∧ Below w.heap.size w w' := by
  by_cases k3 : k = 3
  · subst k3
    go_enter Try.func46, Try.ntmps46
    go_wp2
    go_region
    go_wp2
    refine bodyPost_ret (v := .slice (some ⟨w.heap.size, 0, none⟩) 2 2) (by simp [results, Try.f46, go_sem]) rfl ?_
    exact ⟨_, rfl, World.ownsRow_lit w #[.pointer (some ⟨ob, 14, none⟩), .pointer (some ⟨ob, 15, none⟩)] 2 (Nat.le_refl _) (by decide) rfl, Below.drew ((Below.refl _ _).alloc (Nat.le_refl _) _)⟩
  · have h1 : behindO k = [] := by unfold behindO; simp [k3]
    have H1 := hide h1
    clear h1
    go_enter Try.func46, Try.ntmps46
    go_wp2
    refine bodyPost_ret (v := .slice none 0 0) (by simp [results, Try.f46, go_sem]) rfl ?_
    refine ⟨_, rfl, ?_, Below.refl _ _⟩
    rw [H1.out]; exact World.ownsRow_nil _ _ _ _
end Go.Proofs.Ytalnipjaekpbhaa

namespace Go.Proofs.Ytalnipjaekpbhaa
open Go.ChangeShapes Go.WideShapes Go.ChangeAt Go.RowKit Go.Deep
set_option linter.unusedSimpArgs false
set_option linter.unusedVariables false

/-- an order: its kind, its name, its numbers by their places, its offers -/
structure Ord where
  kind : Int
  name : List Nat
  num : Nat → Int
  offs : List (Nat × Int)
def ordCells (o : Ord) (ov : Value) : List Value := [.int .i64 o.kind, .string (bstr o.name), .int .i64 (o.num 2), .int .i64 (o.num 3), .int .i64 (o.num 4), .int .i64 (o.num 5), .int .i64 (o.num 6), .int .i64 (o.num 7), .int .i64 (o.num 8), .int .i64 (o.num 9), .int .i64 (o.num 10), .int .i64 (o.num 11), .int .i64 (o.num 12), .int .i64 (o.num 13), .int .i64 (o.num 14), .int .i64 (o.num 15), ov, .int .i64 (o.num 17)]
def ordV (o : Ord) (ov : Value) : Value := .agg (ordCells o ov).toArray
def numO : List Nat := [2, 3, 4, 5, 6, 7, 8, 9, 10, 11, 12, 13, 14, 15, 17]
theorem ordCells_len (o : Ord) (ov : Value) : (ordCells o ov).length = 18 := rfl
theorem ordCells_num (o : Ord) (ov : Value) {j : Nat} (h : j ∈ numO) : (ordCells o ov)[j]? = some (.int .i64 (o.num j)) := by
  simp only [numO, List.mem_cons, List.not_mem_nil, or_false] at h
  rcases h with rfl | rfl | rfl | rfl | rfl | rfl | rfl | rfl | rfl | rfl | rfl | rfl | rfl | rfl | rfl <;> rfl
/-- some numbers made zero -/
def Ord.zero (o : Ord) (l : List Nat) : Ord := { o with num := fun j => if j ∈ l then 0 else o.num j }
theorem zero_nil (o : Ord) : o.zero [] = o := by unfold Ord.zero; simp
theorem zero_set (o : Ord) (l : List Nat) (ov : Value) {j : Nat} (h : j ∈ numO) : (ordCells (o.zero l) ov).set j (.int .i64 0) = ordCells (o.zero (l ++ [j])) ov := by
  simp only [numO, List.mem_cons, List.not_mem_nil, or_false] at h
  rcases h with rfl | rfl | rfl | rfl | rfl | rfl | rfl | rfl | rfl | rfl | rfl | rfl | rfl | rfl | rfl <;> simp [ordCells, Ord.zero]
/-- offers that are read -/
structure OffsIn (w : World) (v : Value) (l : List (Nat × Int)) : Prop where
  val : ∃ p c, v = .slice p l.length c
  at_ : ∀ j, j < l.length → ∃ b o c, v = .slice (some ⟨b, o, none⟩) l.length c ∧ w.cell? ⟨b, o + j * 2, none⟩ = some (.int .u32 ((l.getD j (0, 0)).1 : Int)) ∧ w.cell? ⟨b, o + j * 2 + 1, none⟩ = some (.int .i64 (l.getD j (0, 0)).2)
  g32 : ∀ x ∈ l, x.1 < 4294967296
  len : l.length ≤ 4398046511104
  nil : ∀ n c, v = .slice none n c → c = 0
theorem OffsIn.below {w w' : World} {v : Value} {l : List (Nat × Int)} (h : OffsIn w v l) (hb : Below w.heap.size w w') : OffsIn w' v l :=
  ⟨h.val, fun j hj => by obtain ⟨b, o, c, e, q1, q2⟩ := h.at_ j hj; exact ⟨b, o, c, e, cell_stay q1 (hb.block b (World.block_lt_of_cell? w _ q1)), cell_stay q2 (hb.block b (World.block_lt_of_cell? w _ q2))⟩, h.g32, h.len, h.nil⟩
/-- an order in a box -/
structure BoxO (w : World) (ob : Nat) (o : Ord) (ov : Value) : Prop where
  c : ∀ j, j < 18 → w.cell? ⟨ob, j, none⟩ = (ordCells o ov)[j]?
  f : ∀ j, w.frozen? ⟨ob, j, none⟩ = false
theorem BoxO.lt {w : World} {ob : Nat} {o : Ord} {ov : Value} (h : BoxO w ob o ov) : ob < w.heap.size := World.block_lt_of_cell? w _ (h.c 0 (by decide))
theorem BoxO.stays {w w' : World} {ob : Nat} {o : Ord} {ov : Value} (h : BoxO w ob o ov) (hs : w'.heap[ob]? = w.heap[ob]?) : BoxO w' ob o ov := ⟨fun j hj => (World.cell?_of_block (a := ⟨ob, j, none⟩) hs).trans (h.c j hj), fun j => (World.frozen?_of_block (a := ⟨ob, j, none⟩) hs).trans (h.f j)⟩
theorem BoxO.below {w w' : World} {ob : Nat} {o : Ord} {ov : Value} (h : BoxO w ob o ov) (hb : Below w.heap.size w w') : BoxO w' ob o ov := h.stays (hb.block ob h.lt)
theorem BoxO.num {w : World} {ob : Nat} {o : Ord} {ov : Value} (h : BoxO w ob o ov) {j : Nat} (hj : j ∈ numO) : w.cell? ⟨ob, j, none⟩ = some (.int .i64 (o.num j)) := by
  rw [h.c j (by simp only [numO, List.mem_cons, List.not_mem_nil, or_false] at hj; omega)]; exact ordCells_num o ov hj
theorem BoxO.zero {w : World} {ob : Nat} {o : Ord} {ov : Value} {l : List Nat} (h : BoxO w ob (o.zero l) ov) {j : Nat} (hj : j ∈ numO) : BoxO (w.setCell ⟨ob, j, none⟩ (.int .i64 0)) ob (o.zero (l ++ [j])) ov := by
  refine ⟨fun i hi => ?_, fun i => (World.frozen?_setCell _ _ _ _).trans (h.f i)⟩
  rw [← zero_set o l ov hj]
  by_cases e : j = i
  · subst e
    rw [World.cell?_setCell_same' _ _ _ (by rw [h.num hj]; rfl), List.getElem?_set_self (by rw [ordCells_len]; exact hi)]
  · rw [World.cell?_setCell_other _ _ _ _ (by intro e2; injection e2 with _ e2; exact e e2), List.getElem?_set_ne e]
    exact h.c i hi
theorem box_made (w : World) (o : Ord) (ov : Value) : BoxO (w.alloc (.cells (ordCells o ov).toArray 29)) w.heap.size o ov := by
  refine ⟨fun j hj => ?_, fun j => by simp [go_sem]⟩
  rw [show ordCells o ov = [.int .i64 o.kind, .string (bstr o.name), .int .i64 (o.num 2), .int .i64 (o.num 3), .int .i64 (o.num 4), .int .i64 (o.num 5), .int .i64 (o.num 6), .int .i64 (o.num 7), .int .i64 (o.num 8), .int .i64 (o.num 9), .int .i64 (o.num 10), .int .i64 (o.num 11), .int .i64 (o.num 12), .int .i64 (o.num 13), .int .i64 (o.num 14), .int .i64 (o.num 15), ov, .int .i64 (o.num 17)] from rfl]
  obtain rfl | rfl | rfl | rfl | rfl | rfl | rfl | rfl | rfl | rfl | rfl | rfl | rfl | rfl | rfl | rfl | rfl | rfl : j = 0 ∨ j = 1 ∨ j = 2 ∨ j = 3 ∨ j = 4 ∨ j = 5 ∨ j = 6 ∨ j = 7 ∨ j = 8 ∨ j = 9 ∨ j = 10 ∨ j = 11 ∨ j = 12 ∨ j = 13 ∨ j = 14 ∨ j = 15 ∨ j = 16 ∨ j = 17 := by omega
  all_goals simp [go_sem]
def anyNeg (l : List (Nat × Int)) : Bool := l.any fun x => decide (x.2 < 0)
theorem anyNeg_at {l : List (Nat × Int)} {j : Nat} (h : j < l.length) (hn : (l.getD j (0, 0)).2 < 0) : anyNeg l = true := by
  unfold anyNeg
  rw [List.any_eq_true]
  rw [List.getD_eq_getElem?_getD, List.getElem?_eq_getElem h] at hn
  exact ⟨_, List.getElem_mem h, decide_eq_true hn⟩
theorem anyNeg_none {l : List (Nat × Int)} (h : ∀ j, j < l.length → 0 ≤ (l.getD j (0, 0)).2) : anyNeg l = false := by
  unfold anyNeg
  rw [List.any_eq_false]
  intro x hx
  obtain ⟨j, hj, rfl⟩ := List.mem_iff_getElem.1 hx
  have q := h j hj
  rw [List.getD_eq_getElem?_getD, List.getElem?_eq_getElem hj] at q
  simpa using q
set_option maxHeartbeats 2000000 in
theorem Check1_c (g : Nat) (x : Int) (w : World) : Calls Try.prog 55 #[.agg #[.int .u32 (g : Int), .int .i64 x]] w fun e w' => e = .returned (.bool (decide (x < 0))) ∧ Below w.heap.size w w' := by
  go_enter Try.func55, Try.ntmps55
  go_wp2
  go_ret
  exact ⟨rfl, (Below.refl _ _).alloc (Nat.le_refl _) _⟩
set_option maxRecDepth 100000 in
set_option maxHeartbeats 4000000 in
theorem Index_c (v : Value) (l : List (Nat × Int)) (w : World) (h : OffsIn w v l) : Calls Try.prog 85 #[v, .func (.func 55) #[] #[]] w fun e w' => (∃ r : Int, e = .returned (.int .i64 r) ∧ anyNeg l = decide (0 ≤ r)) ∧ Below w.heap.size w w' := by
  have H := hide h
  obtain ⟨p, c, rfl⟩ := h.val
  have hl := h.len
  clear h
  go_enter Try.func85, Try.ntmps85
  go_wp2_with fail
  go_loopw [5, 8] (fun v5 v8 wr => ∃ j : Nat, j ≤ l.length ∧ v8 = .int .i64 (j : Int) ∧ (∀ i, i < j → 0 ≤ (l.getD i (0, 0)).2) ∧ Below w.heap.size w wr) (fun _ v8 _ => l.length - (intOf v8).toNat)
  case atStart => exact ⟨0, Nat.zero_le _, rfl, fun i hi => absurd hi (Nat.not_lt_zero i), Below.refl _ _⟩
  case round =>
    obtain ⟨j, hj, rfl, hp, hb⟩ := hrel
    have HP := hide hp
    have HB := hide hb
    have hj0 : (0 : Int) ≤ (j : Int) := by omega
    clear hp hb
    by_cases hlt : j < l.length
    · have hlt' : (j : Int) < (l.length : Int) := by omega
      obtain ⟨b, o, c2, e, c1, c3⟩ := (H.out.below HB.out).at_ j hlt
      injection e with e _ ec
      subst e ec
      obtain ⟨g, hg⟩ : ∃ g, g = (l.getD j (0, 0)).1 := ⟨_, rfl⟩
      obtain ⟨x, hx⟩ : ∃ x, x = (l.getD j (0, 0)).2 := ⟨_, rfl⟩
      rw [← hg] at c1
      rw [← hx] at c3
      have HX := hide hx
      clear hx hg
      go_wp2_with fail
      refine (Check1_c g x _).mono ?_
      rintro e w2 ⟨rfl, hb2⟩
      have HB2 := hide (bstep HB.out hb2)
      clear hb2
      by_cases hx : x < 0
      · have d : decide (x < 0) = true := decide_eq_true hx
        go_wp2
        refine bodyPost_ret (v := .int .i64 (j : Int)) (by simp [results, Try.f85, go_sem]) rfl ⟨⟨_, rfl, ?_⟩, HB2.out⟩
        rw [anyNeg_at hlt (by rw [← HX.out]; exact hx), decide_eq_true hj0]
      · have d : decide (x < 0) = false := decide_eq_false hx
        go_wp2
        go_roundw
        case rel =>
          refine ⟨j + 1, by omega, by go_num, fun i hi => ?_, HB2.out⟩
          rcases Nat.lt_or_ge i j with h3 | h3
          · exact HP.out i h3
          · obtain rfl : i = j := by omega
            rw [← HX.out]; omega
        case measure => (first | (simp [intOf]; done) | (simp [intOf]; omega))
    · obtain rfl : j = l.length := by omega
      go_wp2
      refine bodyPost_ret (v := .int .i64 (-1)) (by simp [results, Try.f85, go_sem]) rfl ⟨⟨_, rfl, ?_⟩, HB.out⟩
      rw [anyNeg_none HP.out]; rfl
set_option maxHeartbeats 2000000 in
theorem Contains_c (v : Value) (l : List (Nat × Int)) (w : World) (h : OffsIn w v l) : Calls Try.prog 54 #[v, .func (.func 55) #[] #[]] w fun e w' => e = .returned (.bool (anyNeg l)) ∧ Below w.heap.size w w' := by
  have C := hide (Index_c v l w h)
  obtain ⟨p, c, rfl⟩ := h.val
  clear h
  go_enter Try.func54, Try.ntmps54
  go_wp2_with fail
  refine C.out.mono ?_
  rintro e w2 ⟨⟨r, rfl, hr⟩, hb⟩
  go_wp2
  go_ret
  exact ⟨by rw [hr]; rfl, hb⟩
end Go.Proofs.Ytalnipjaekpbhaa

namespace Go.Proofs.Ytalnipjaekpbhaa
open Go.ChangeShapes Go.WideShapes Go.ChangeAt Go.RowKit Go.Deep
set_option linter.unusedSimpArgs false
set_option linter.unusedVariables false

theorem info104 : (Try.prog.info? 104).map (fun i => (i.zero, i.size, i.bytes)) = some (some (.pointer none), 1, 8) := by kernel_rfl
theorem app_none {P : Program} {t ty e : TypeId} {i : TypeInfo} (ht : P.underlying t = some (.slice e)) (hi : P.info? e = some i) (p : Option Addr) (n c : Nat) (h : n ≤ c) (w : World) : (Builtin.append_ #[t, t] ty #[.slice p n c, .slice none 0 0]).run P w = .ok (.slice p n c) w := by
  cases p <;> simp [Builtin.append_, run_underlying ht, sizeOf, typeInfo, hi, Builtin.lenOf, Builtin.firstCells, h, storeCells]
theorem wpList_append_rows {P : Program} (w : World) {ops : Array Oper} {rest : List Oper} {o : Oper} {a : Act} {Q : Exit → Act → World → Prop} (hgd : o.guard = none) (s x : Operand) (t : TypeId)
    (ho : o.op = .call { callee := .builtin .append, args := #[s, x], argTypes := #[t, t] })
    (e : TypeId) (i : TypeInfo) (z : Value) (size bytes : Nat) (ht : P.underlying t = some (.slice e)) (hi : P.info? e = some i) (hz : i.zero = some z) (hsize : i.size = size) (hby : i.bytes = bytes) (hzs : z.cells.size = size) (hsz : 0 < size)
    (B B2 : Nat) (v1 : Value) (n1 : Nat) (xs1 : List Value) (hs : a.eval s = v1) (own1 : w.ownsRow B e size v1 n1 xs1) (v2 : Value) (n2 : Nat) (xs2 : List Value) (hx : a.eval x = v2) (own2 : w.ownsRow B2 e size v2 n2 xs2) (h1 : ∀ u ∈ xs2, u.oneCell' = true)
    (h63 : n1 + n2 ≤ maxLen) (hbytes : (n1 + n2) * bytes ≤ 140737488355328) (hB : B ≤ w.heap.size)
    (h : ∀ v' w', w'.ownsRow B e size v' (n1 + n2) (xs1 ++ xs2) → w.grownBy w' v1.ownBlock → wpList P ops Q rest (a.put o.dst v') w') : wpList P ops Q (o :: rest) a w := by
  have key : ∃ v' w', (Builtin.append_ #[t, t] o.type #[v1, v2]).run P w = .ok v' w' ∧ w'.ownsRow B e size v' (n1 + n2) (xs1 ++ xs2) ∧ w.grownBy w' v1.ownBlock := by
    rcases own2.2 with ⟨rfl, rfl⟩ | ⟨g, cap, cur, rfl, _⟩
    · have hx2 : xs2 = [] := List.length_eq_zero_iff.1 (by have := own2.1; omega)
      subst hx2
      rcases own1.2 with ⟨rfl, rfl⟩ | ⟨g1, cap1, cur1, rfl, _, _, hle, _⟩
      · exact ⟨_, w, app_none ht hi _ _ _ (Nat.le_refl _) w, by simpa using own1, World.grownBy.refl w _⟩
      · exact ⟨_, w, app_none ht hi _ _ _ hle w, by simpa using own1, World.grownBy.refl w _⟩
    · obtain ⟨v', w', q1, q2, q3, -, -⟩ := run_append_own_at (P := P) w B t o.type e i z size bytes ht hi hz hsize hby hzs hsz v1 n1 xs1 own1 ⟨g, 0, none⟩ n2 cap xs2 own2.1 (own2.cells (g := g) rfl) h1 h63 hbytes hB
      exact ⟨v', w', q1, q2, q3⟩
  obtain ⟨v', w', q1, q2, q3⟩ := key
  refine wpList_plain hgd fun K hK => ?_
  unfold Oper.wp execOp
  simp only [ho, resolve, invoke, builtin, Sem.run_bind, Sem.run_pure, Result.andThen_ok, List.map_toArray, List.map_cons, List.map_nil, hs, hx, q1]
  exact hK _ _ (h v' w' q2 q3)
/-- may an order be written? -/
def listed (k : Int) : List Nat := wholeO k ++ behindO k ++ wideO k
def bad2 (o : Ord) : Bool := decide (64 < o.offs.length) || decide (64 < o.name.length) || !(o.name.isEmpty == !(o.kind == 1)) || (decide (0 < o.offs.length) && (o.kind != 4))
def chk (o : Ord) : Bool := isKind o.kind && !bad2 o && !anyNeg o.offs && (listed o.kind).all (fun j => decide (0 ≤ o.num j)) && numO.all (fun j => decide ((o.zero (listed o.kind)).num j = 0))
theorem bstr_empty (ns : List Nat) : (bstr ns).toList.isEmpty = ns.isEmpty := by rw [bstr_list]; cases ns <;> rfl
theorem own_apart {w w' : World} {B1 B2 : Nat} {e1 e2 : TypeId} {s1 s2 : Nat} {v1 v2 : Value} {n1 n2 : Nat} {xs1 xs2 : List Value} (h1 : w.ownsRow B1 e1 s1 v1 n1 xs1) (h2 : w.ownsRow B2 e2 s2 v2 n2 xs2) (hne : e1 ≠ e2) (hg : w.grownBy w' v1.ownBlock) : w'.ownsRow B2 e2 s2 v2 n2 xs2 := by
  refine h2.kept hg ?_
  rcases h2.2 with ⟨rfl, _⟩ | ⟨g2, cap2, cur2, rfl, _, i3, _⟩
  · exact .inl rfl
  · refine .inr (fun e => ?_)
    rcases h1.2 with ⟨rfl, _⟩ | ⟨g1, cap1, cur1, rfl, _, j3, _⟩
    · cases e
    · obtain rfl : g2 = g1 := Option.some.inj e
      rw [i3] at j3
      injection j3 with j3
      injection j3 with _ j4
      exact hne j4.symm
/-- one block alone is written -/
structure OneB (ob : Nat) (w w' : World) : Prop where
  os : w'.os = w.os
  tape : w'.tape = w.tape
  output : w'.output = w.output
  size : w'.heap.size = w.heap.size
  heap : ∀ b, b ≠ ob → w'.heap[b]? = w.heap[b]?
theorem OneB.rfl' (ob : Nat) (w : World) : OneB ob w w := ⟨rfl, rfl, rfl, rfl, fun _ _ => rfl⟩
theorem OneB.set {ob : Nat} {w w' : World} (h : OneB ob w w') (o : Nat) (u : Value) : OneB ob w (w'.setCell ⟨ob, o, none⟩ u) := ⟨h.os, h.tape, h.output, by rw [World.size_setCell]; exact h.size, fun b hb => (heap_setCell_other _ _ _ _ hb).trans (h.heap b hb)⟩
theorem OneB.below {B ob : Nat} {w0 w w' : World} (h : OneB ob w w') (hb : Below B w0 w) (hB : B ≤ ob) : Below B w0 w' := ⟨h.os.trans hb.os, h.tape.trans hb.tape, h.output.trans hb.output, by rw [h.size]; exact hb.size, fun k hk => (h.heap k (by omega)).trans (hb.block k hk)⟩
theorem ptrs_at (ob : Nat) {l : List Nat} {j : Nat} (h : j < l.length) : (ptrs ob l)[j]? = some (.pointer (some ⟨ob, l.getD j 0, none⟩)) := by
  unfold ptrs; rw [List.getElem?_map, List.getD_eq_getElem?_getD, List.getElem?_eq_getElem h]; rfl
theorem ptrs_one (ob : Nat) (l : List Nat) : ∀ u ∈ ptrs ob l, u.oneCell' = true := fun u hu => by obtain ⟨x, -, rfl⟩ := List.mem_map.1 hu; rfl
theorem listed_sub (k : Int) : ∀ j ∈ listed k, j ∈ numO := by
  unfold listed wholeO behindO wideO numO
  intro j hj
  by_cases k1 : k = 1 <;> by_cases k2 : k = 2 <;> by_cases k3 : k = 3 <;> by_cases k4 : k = 4 <;> by_cases k5 : k = 5 <;> by_cases k6 : k = 6 <;> simp [k1, k2, k3, k4, k5, k6] at hj ⊢ <;> omega
theorem listed_nodup (k : Int) : (listed k).Nodup := by
  unfold listed wholeO behindO wideO
  by_cases k1 : k = 1 <;> by_cases k2 : k = 2 <;> by_cases k3 : k = 3 <;> by_cases k4 : k = 4 <;> by_cases k5 : k = 5 <;> by_cases k6 : k = 6 <;> simp [k1, k2, k3, k4, k5, k6] <;> omega
theorem listed_len (k : Int) : (wholeO k).length ≤ 2 ∧ (behindO k).length ≤ 2 ∧ (wideO k).length ≤ 8 := by
  unfold wholeO behindO wideO
  by_cases k1 : k = 1 <;> by_cases k2 : k = 2 <;> by_cases k3 : k = 3 <;> by_cases k4 : k = 4 <;> by_cases k5 : k = 5 <;> by_cases k6 : k = 6 <;> simp [k1, k2, k3, k4, k5, k6] <;> omega
/-- a number that is come to in its turn is still as it was -/
theorem zero_fresh (o : Ord) {l : List Nat} (hn : l.Nodup) {j : Nat} (hj : j < l.length) : (o.zero (l.take j)).num (l.getD j 0) = o.num (l.getD j 0) := by
  unfold Ord.zero
  show (if l.getD j 0 ∈ l.take j then 0 else o.num (l.getD j 0)) = _
  rw [if_neg]
  rw [List.getD_eq_getElem?_getD, List.getElem?_eq_getElem hj]
  intro h
  obtain ⟨i, hi, e⟩ := List.mem_take_iff_getElem.1 h
  have := (List.getElem_inj hn).1 e
  omega
theorem all_of {l : List Nat} {p : Nat → Bool} (h : ∀ j, j < l.length → p (l.getD j 0) = true) : l.all p = true := by
  rw [List.all_eq_true]
  intro x hx
  obtain ⟨j, hj, rfl⟩ := List.mem_iff_getElem.1 hx
  have q := h j hj
  rwa [List.getD_eq_getElem?_getD, List.getElem?_eq_getElem hj] at q
theorem not_all {l : List Nat} {p : Nat → Bool} {j : Nat} (hj : j < l.length) (h : p (l.getD j 0) = false) : l.all p = false := by
  rw [List.all_eq_false]
  refine ⟨l[j], List.getElem_mem hj, ?_⟩
  rw [List.getD_eq_getElem?_getD, List.getElem?_eq_getElem hj] at h
  simp only [Option.getD_some] at h
  rw [h]; decide
theorem eqFields_all {P : Program} (w : World) (d : Nat) (xs ys : Array Value) (fs : List Field) (p : Field → Bool) (h : ∀ f ∈ fs, f.name ≠ "_" ∧ ∃ a b, (part f.type xs f.offset).run P w = .ok a w ∧ (part f.type ys f.offset).run P w = .ok b w ∧ (Op.equalIn d f.type a b).run P w = .ok (p f) w) : (Op.eqFields d xs ys fs).run P w = .ok (fs.all p) w := by
  induction fs with
  | nil => simp [Op.eqFields]
  | cons f fs ih =>
    obtain ⟨hn, a, b, ha, hb, he⟩ := h f (List.mem_cons_self ..)
    have q := ih (fun g hg => h g (List.mem_cons_of_mem _ hg))
    simp only [Op.eqFields, ne_eq, hn, not_false_iff, if_true, Sem.run_bind, ha, hb, Result.andThen_ok, he, List.all_cons]
    cases p f
    · simp
    · simp [q]
theorem flds26 : (Try.prog.fieldsOf 26).toList.map (fun f => (decide (f.name = "_"), f.type, f.offset)) = [(false, 23, 0), (false, 2, 1), (false, 2, 2), (false, 2, 3), (false, 2, 4), (false, 2, 5), (false, 2, 6), (false, 2, 7), (false, 2, 8), (false, 3, 9), (false, 24, 10)] := by kernel_rfl
def lotV (f : Nat → Int) : Array Value := #[.int .i64 (f 5), .int .i64 (f 6), .int .i64 (f 7), .int .i64 (f 8), .int .i64 (f 9), .int .i64 (f 10), .int .i64 (f 11), .int .i64 (f 12), .int .i64 (f 13), .int .i64 (f 14), .int .i64 (f 15)]
theorem lot_part (f : Nat → Int) (t : TypeId) (i : Nat) (w : World) (h : (t, i) ∈ [(23, 0), (2, 1), (2, 2), (2, 3), (2, 4), (2, 5), (2, 6), (2, 7), (2, 8), (3, 9), (24, 10)]) : (part t (lotV f) i).run Try.prog w = .ok (.int .i64 (f (5 + i))) w := by
  simp only [List.mem_cons, List.not_mem_nil, or_false, Prod.mk.injEq] at h
  rcases h with ⟨rfl, rfl⟩ | ⟨rfl, rfl⟩ | ⟨rfl, rfl⟩ | ⟨rfl, rfl⟩ | ⟨rfl, rfl⟩ | ⟨rfl, rfl⟩ | ⟨rfl, rfl⟩ | ⟨rfl, rfl⟩ | ⟨rfl, rfl⟩ | ⟨rfl, rfl⟩ | ⟨rfl, rfl⟩ <;> kernel_rfl
def lotO : List Nat := [5, 6, 7, 8, 9, 10, 11, 12, 13, 14, 15]
theorem lot_same (f g : Nat → Int) (w : World) : (Op.equalIn 10000 26 (.agg (lotV f)) (.agg (lotV g))).run Try.prog w = .ok (lotO.all fun j => f j == g j) w := by
  rw [run_equalIn_agg w 9999 26 _ _ (by kernel_rfl) (by kernel_rfl)]
  have hm : ∀ x ∈ (Try.prog.fieldsOf 26).toList, x.name ≠ "_" ∧ (x.type, x.offset) ∈ [(23, 0), (2, 1), (2, 2), (2, 3), (2, 4), (2, 5), (2, 6), (2, 7), (2, 8), (3, 9), (24, 10)] := by
    intro x hx
    have q : (decide (x.name = "_"), x.type, x.offset) ∈ (Try.prog.fieldsOf 26).toList.map (fun f => (decide (f.name = "_"), f.type, f.offset)) := List.mem_map_of_mem hx
    rw [flds26] at q
    simp only [List.mem_cons, List.not_mem_nil, or_false, Prod.mk.injEq, decide_eq_false_iff_not] at q ⊢
    exact ⟨by rcases q with q | q | q | q | q | q | q | q | q | q | q <;> exact q.1, by rcases q with q | q | q | q | q | q | q | q | q | q | q <;> simp [q.2.1, q.2.2]⟩
  have e : (Try.prog.fieldsOf 26).toList.map (fun x => x.offset) = [0, 1, 2, 3, 4, 5, 6, 7, 8, 9, 10] := by
    have q := congrArg (List.map (fun (y : Bool × TypeId × Nat) => y.2.2)) flds26
    rw [List.map_map] at q
    exact q
  rw [eqFields_all w 9999 (lotV f) (lotV g) _ (fun x => f (5 + x.offset) == g (5 + x.offset)) (fun x hx => by
    obtain ⟨h1, h2⟩ := hm x hx
    have hu : Try.prog.underlying x.type = some (.int .i64) := by
      simp only [List.mem_cons, List.not_mem_nil, or_false, Prod.mk.injEq] at h2
      rcases h2 with h2 | h2 | h2 | h2 | h2 | h2 | h2 | h2 | h2 | h2 | h2 <;> (rw [h2.1]; kernel_rfl)
    exact ⟨h1, _, _, lot_part f _ _ w h2, lot_part g _ _ w h2, by rw [run_equalIn_int w 9998 x.type _ _ _ _ hu]⟩)]
  have z : (Try.prog.fieldsOf 26).toList.all (fun x => f (5 + x.offset) == g (5 + x.offset)) = ((Try.prog.fieldsOf 26).toList.map (fun x => x.offset)).all (fun i => f (5 + i) == g (5 + i)) := by rw [List.all_map]; rfl
  rw [z, e]; rfl
theorem lot_neq (f g : Nat → Int) (w : World) : Sem.run Try.prog (binOp .neq 26 (.agg (lotV f)) (.agg (lotV g))) w = .ok (.bool (!(lotO.all fun j => f j == g j))) w := by
  rw [run_neq_struct, lot_same]; rfl
theorem lot_eql (f g : Nat → Int) (w : World) : Sem.run Try.prog (binOp .eql 26 (.agg (lotV f)) (.agg (lotV g))) w = .ok (.bool (lotO.all fun j => f j == g j)) w := by
  rw [run_eql_struct, lot_same]; rfl
end Go.Proofs.Ytalnipjaekpbhaa

namespace Go.Proofs.Ytalnipjaekpbhaa
open Go.ChangeShapes Go.WideShapes Go.ChangeAt Go.RowKit Go.Deep
set_option linter.unusedSimpArgs false
set_option linter.unusedVariables false

set_option maxRecDepth 100000 in
set_option maxHeartbeats 8000000 in
theorem Check_c (o : Ord) (ov : Value) (w : World) (ho : OffsIn w ov o.offs) : Calls Try.prog 16 #[ordV o ov] w fun e w' => e = .returned (.int .i64 (cond (chk o) 0 2)) ∧ Below w.heap.size w w' := by
  have HO := hide ho
  obtain ⟨p, c, rfl⟩ := ho.val
  have hol := ho.len
  clear ho
  unfold ordV
  obtain ⟨W, hW⟩ : ∃ W, W = w.alloc (.cells (ordCells o (.slice p o.offs.length c)).toArray 29) := ⟨_, rfl⟩
  have hb0 : Below w.heap.size w W := by rw [hW]; exact (Below.refl _ _).alloc (Nat.le_refl _) _
  have hbox : BoxO W w.heap.size o (.slice p o.offs.length c) := by rw [hW]; exact box_made w o _
  have HW := hide hW
  have HB0 := hide hb0
  have HBX := hide hbox
  have C45 := hide (fields_c w.heap.size o.kind W (hbox.c 0 (by decide)))
  clear hb0 hbox hW
  go_enter Try.func16, Try.ntmps16
  go_upto_region 1 with fail
  rw [← HW.out]
  go_wp2_with fail
  refine C45.out.mono ?_
  rintro e w1 ⟨v1, v2, rfl, o1, o2, hb⟩
  have HOR := hide (And.intro o1 o2)
  have HB1 := hide hb
  have HX1 := hide (HBX.out.below hb)
  have x0 : w1.cell? ⟨w.heap.size, 0, none⟩ = some (.int .i64 o.kind) := HX1.out.c 0 (by decide)
  have x1 : w1.cell? ⟨w.heap.size, 1, none⟩ = some (.string (bstr o.name)) := HX1.out.c 1 (by decide)
  have x16 : w1.cell? ⟨w.heap.size, 16, none⟩ = some (.slice p o.offs.length c) := HX1.out.c 16 (by decide)
  clear o1 o2 hb C45
  rcases (show isKind o.kind = true ∨ isKind o.kind = false by cases isKind o.kind <;> simp) with hk | hk
  · rw [hk]
    have HK := hide hk
    clear hk
    go_upto_region 2 with fail
    go_cut [48] from 15 to 47 (fun v48 wx => v48 = .bool (bad2 o) ∧ wx = w1)
    case first =>
      go_wp2_with fail
      all_goals go_meet
      all_goals refine ⟨congrArg Value.bool ?_, rfl⟩
      all_goals (have hs := bstr_size o.name; have he := bstr_empty o.name; clear HW HB0 HBX HOR HB1 HX1 x0 x1 x16 HO HK; have dl : ∀ n : Nat, decide ((64 : Int) < (n : Int)) = decide (64 < n) := (fun n => by rw [decide_eq_decide]; omega); simp only [hs, he, dl] at *; unfold bad2; simp [*]; try omega)
    case rest =>
      obtain ⟨hv48, hwc⟩ := hcut
      subst wc
      rcases (show bad2 o = true ∨ bad2 o = false by cases bad2 o <;> simp) with h2 | h2
      · rw [h2] at hv48
        subst hv48
        have HC := hide (show chk o = false by unfold chk; rw [h2, HK.out]; rfl)
        clear h2
        go_wp2_with fail
        refine bodyPost_ret (v := .int .i64 2) (by simp [results, Try.f16, go_sem]) rfl ⟨by rw [HC.out]; rfl, bstep HB0.out HB1.out⟩
      · rw [h2] at hv48
        subst hv48
        have H2 := hide h2
        clear h2
        go_wp2_with fail
        refine (Contains_c _ o.offs w1 (HO.out.below (bstep HB0.out HB1.out))).mono ?_
        rintro e w2 ⟨rfl, hb2⟩
        have HB2 := hide (bstep HB1.out hb2)
        have hz2 := hb2
        rcases (show anyNeg o.offs = true ∨ anyNeg o.offs = false by cases anyNeg o.offs <;> simp) with h3 | h3
        · have HC := hide (show chk o = false by unfold chk; rw [h3, H2.out, HK.out]; rfl)
          rw [h3]
          clear h3
          go_wp2_with fail
          refine bodyPost_ret (v := .int .i64 2) (by simp [results, Try.f16, go_sem]) rfl ⟨by rw [HC.out]; rfl, bstep HB0.out HB2.out⟩
        · rw [h3]
          have H3 := hide h3
          clear h3
          have HX2 := hide (HX1.out.below hb2)
          have C46 := hide (behind_c w.heap.size o.kind w2 (HX2.out.c 0 (by decide)))
          have HOR2 := hide (show w2.ownsRow W.heap.size 104 1 v1 (wholeO o.kind).length (ptrs w.heap.size (wholeO o.kind)) ∧ w2.ownsRow W.heap.size 105 1 v2 (wideO o.kind).length (ptrs w.heap.size (wideO o.kind)) from ⟨own_below HOR.out.1 hb2, own_below HOR.out.2 hb2⟩)
          clear hb2 hz2
          obtain ⟨i104, hi104, hz104, hs104, hb104⟩ := info_parts info104
          have LN := hide (listed_len o.kind)
          go_wp2_with (first | (go_at_call 46; (apply Calls.mono; focus (exact C46.out)); rintro e w3 ⟨v3, rfl, o3, hb3⟩; have HB3 := hide hb3; have HO3 := hide o3; clear hb3 o3) | (at_builtin; refine wpList_append_rows _ rfl _ _ 99 rfl 104 i104 (.pointer none) 1 8 Try.underlying99 hi104 hz104 hs104 hb104 rfl (by decide) W.heap.size w2.heap.size v1 _ _ rfl (own_below HOR2.out.1 HB3.out) v3 _ _ rfl HO3.out (ptrs_one _ _) (by have := LN.out; unfold maxLen; omega) (by have := LN.out; omega) (by have q1 := HB2.out.size; have q2 := HB3.out.size; omega) ?_; intro v4 w4 own4 hg4; obtain ⟨a4, c4, rfl⟩ := own_any own4; have HO4 := hide own4; have HG4 := hide hg4; clear own4 hg4))
          have HB4 := hide (show Below W.heap.size W w4 from (HB2.out.trans (HB3.out.mono HB2.out.size)).grown HG4.out (by have := HB2.out.size; have := HB3.out.size; omega) (fun r e => (HOR2.out.1.lt r e).1))
          have hz := HB0.out.size
          have hlt0 : w.heap.size < W.heap.size := HBX.out.lt
          have HX4 := hide (HX2.out.stays (w' := w4) (by
            rw [HG4.out.block _ (Nat.lt_of_lt_of_le HX2.out.lt HB3.out.size) (fun e => by have := (HOR2.out.1.lt _ e.symm).1; omega)]
            exact HB3.out.block _ HX2.out.lt))
          have HV2 := hide (own_apart (own_below HOR2.out.1 HB3.out) (own_below HOR2.out.2 HB3.out) (by decide) HG4.out)
          obtain ⟨a2, c2, rfl⟩ := own_any HV2.out
          obtain ⟨A, hA⟩ : ∃ A, A = wholeO o.kind ++ behindO o.kind := ⟨_, rfl⟩
          obtain ⟨B, hB⟩ : ∃ B, B = wideO o.kind := ⟨_, rfl⟩
          have HA := hide (show listed o.kind = A ++ B by rw [hA, hB]; rfl)
          have HRA := hide (show w4.ownsRow W.heap.size 104 1 (.slice a4 A.length c4) A.length (ptrs w.heap.size A) by
            have q := HO4.out
            rw [hA, List.length_append]
            unfold ptrs at q ⊢
            rw [List.map_append]; exact q)
          have e1 : (wholeO o.kind).length + (behindO o.kind).length = A.length := by rw [hA, List.length_append]
          rw [← hB] at HV2
          have e1' : ((wholeO o.kind).length : Int) + ((behindO o.kind).length : Int) = (A.length : Int) := by rw [← e1]; rfl
          try rw [e1]
          try rw [e1']
          try rw [← hB]
          have hAl : A.length ≤ 4 := by have := LN.out; omega
          have hBl : B.length ≤ 8 := by have := LN.out; rw [hB]; omega
          have ND := hide (listed_nodup o.kind)
          have SB := hide (listed_sub o.kind)
          clear e1 e1' hA hB HO4 HG4 HOR2 HOR HX1 HX2 x0 x1 x16 hz
          go_loopw [56] (fun v56 wr => ∃ j : Nat, j ≤ A.length ∧ v56 = .int .i64 (j : Int) ∧ (∀ i, i < j → 0 ≤ o.num (A.getD i 0)) ∧ BoxO wr w.heap.size (o.zero (A.take j)) (.slice p o.offs.length c) ∧ OneB w.heap.size w4 wr) (fun v56 _ => A.length - (intOf v56).toNat)
          case atStart => exact ⟨0, Nat.zero_le _, rfl, fun i hi => absurd hi (Nat.not_lt_zero i), by rw [List.take_zero, zero_nil]; exact HX4.out, OneB.rfl' _ _⟩
          case round =>
            obtain ⟨j, hj, rfl, hp, hbx, hob⟩ := hrel
            have HPP := hide hp
            have HBX2 := hide hbx
            have HOB := hide hob
            have hj0 : (0 : Int) ≤ (j : Int) := by omega
            clear hp hbx hob
            by_cases hlt : j < A.length
            · have hlt' : (j : Int) < (A.length : Int) := by omega
              obtain ⟨ga, ca, hv, -, -⟩ := HRA.out.form (by omega)
              injection hv with hv _ hc
              subst hv hc
              have c1 : wr.cell? ⟨ga, j, none⟩ = some (.pointer (some ⟨w.heap.size, A.getD j 0, none⟩)) := by
                have q := HRA.out.cellAt j (by omega)
                rw [ptrs_at _ hlt] at q
                exact cell_stay q (HOB.out.heap ga (by have := (HRA.out.lt ga rfl).1; omega))
              have hin : A.getD j 0 ∈ numO := SB.out _ (by rw [HA.out]; exact List.mem_append_left _ (by rw [List.getD_eq_getElem?_getD, List.getElem?_eq_getElem hlt]; exact List.getElem_mem hlt))
              have hfr : (o.zero (A.take j)).num (A.getD j 0) = o.num (A.getD j 0) := zero_fresh o (by have q := ND.out; rw [HA.out] at q; exact (List.nodup_append.1 q).1) hlt
              have c2 := HBX2.out.num hin
              rw [hfr] at c2
              have f2 := HBX2.out.f (A.getD j 0)
              have HZ := hide (HBX2.out.zero hin)
              have HTK := hide (show A.take j ++ [A.getD j 0] = A.take (j + 1) from (take_snoc hlt).symm)
              have HIN := hide hin
              clear hfr hin
              obtain ⟨q, hq⟩ : ∃ q, q = A.getD j 0 := ⟨_, rfl⟩
              rw [← hq] at c1 c2 f2 HZ HTK HIN
              obtain ⟨x, hx⟩ : ∃ x, x = o.num q := ⟨_, rfl⟩
              rw [← hx] at c2
              have HQ := hide (And.intro hq hx)
              clear hq hx
              by_cases hneg : x < 0
              · have d : decide (x < 0) = true := decide_eq_true hneg
                have HC := hide (show chk o = false by
                  unfold chk
                  have e : (listed o.kind).all (fun j => decide (0 ≤ o.num j)) = false := not_all (j := j) (by rw [HA.out, List.length_append]; omega) (by
                    rw [HA.out, List.getD_eq_getElem?_getD, List.getElem?_append_left hlt, ← List.getD_eq_getElem?_getD, ← HQ.out.1, ← HQ.out.2]
                    exact decide_eq_false (by omega))
                  rw [e, Bool.and_false, Bool.false_and])
                go_wp2_with fail
                refine bodyPost_ret (v := .int .i64 2) (by simp [results, Try.f16, go_sem]) rfl ⟨by rw [HC.out]; rfl, ?_⟩
                exact HOB.out.below (bstep HB0.out HB4.out) (Nat.le_refl _)
              · have d : decide (x < 0) = false := decide_eq_false hneg
                go_wp2_with fail
                go_roundw
                case rel =>
                  refine ⟨j + 1, by omega, by go_num, fun i hi => ?_, by rw [← HTK.out]; exact HZ.out, HOB.out.set _ _⟩
                  rcases Nat.lt_or_ge i j with h3 | h3
                  · exact HPP.out i h3
                  · obtain rfl : i = j := by omega
                    rw [← HQ.out.1, ← HQ.out.2]; omega
                case measure => (first | (simp [intOf]; done) | (simp [intOf]; omega))
            · obtain rfl : j = A.length := by omega
              rw [List.take_length] at HBX2
              go_wp2_with fail
              obtain ⟨wq, hwq⟩ : ∃ q : World, q = wr := ⟨wr, rfl⟩
              subst hwq
              go_loopw [69] (fun v69 wr => ∃ j : Nat, j ≤ B.length ∧ v69 = .int .i64 (j : Int) ∧ (∀ i, i < j → 0 ≤ o.num (B.getD i 0)) ∧ BoxO wr w.heap.size (o.zero (A ++ B.take j)) (.slice p o.offs.length c) ∧ OneB w.heap.size w4 wr) (fun v69 _ => B.length - (intOf v69).toNat)
              case atStart => exact ⟨0, Nat.zero_le _, rfl, fun i hi => absurd hi (Nat.not_lt_zero i), by rw [List.take_zero, List.append_nil]; exact HBX2.out, HOB.out⟩
              case round =>
                obtain ⟨j, hj, rfl, hp, hbx, hob⟩ := hrel
                have HPB := hide hp
                have HBX3 := hide hbx
                have HOB3 := hide hob
                have hj0 : (0 : Int) ≤ (j : Int) := by omega
                clear hp hbx hob
                by_cases hlt : j < B.length
                · have hlt' : (j : Int) < (B.length : Int) := by omega
                  obtain ⟨ga, ca, hv, -, -⟩ := HV2.out.form (by omega)
                  injection hv with hv _ hc
                  subst hv hc
                  have c1 : wr.cell? ⟨ga, j, none⟩ = some (.pointer (some ⟨w.heap.size, B.getD j 0, none⟩)) := by
                    have q := HV2.out.cellAt j (by omega)
                    rw [ptrs_at _ hlt] at q
                    exact cell_stay q (HOB3.out.heap ga (by have := (HV2.out.lt ga rfl).1; omega))
                  have hin : B.getD j 0 ∈ numO := SB.out _ (by rw [HA.out]; exact List.mem_append_right _ (by rw [List.getD_eq_getElem?_getD, List.getElem?_eq_getElem hlt]; exact List.getElem_mem hlt))
                  have hab : (A ++ B).getD (A.length + j) 0 = B.getD j 0 := by
                    rw [List.getD_eq_getElem?_getD, List.getElem?_append_right (by omega), Nat.add_sub_cancel_left, ← List.getD_eq_getElem?_getD]
                  have htk : (A ++ B).take (A.length + j) = A ++ B.take j := by rw [List.take_append, List.take_of_length_le (by omega), Nat.add_sub_cancel_left]
                  have hfr : (o.zero (A ++ B.take j)).num (B.getD j 0) = o.num (B.getD j 0) := by
                    have q := zero_fresh o (l := A ++ B) (by have q := ND.out; rw [HA.out] at q; exact q) (j := A.length + j) (by rw [List.length_append]; omega)
                    rw [hab, htk] at q; exact q
                  have c3 := HBX3.out.num hin
                  rw [hfr] at c3
                  have f2 := HBX3.out.f (B.getD j 0)
                  have HZ := hide (HBX3.out.zero hin)
                  have HTK := hide (show (A ++ B.take j) ++ [B.getD j 0] = A ++ B.take (j + 1) by rw [List.append_assoc, ← take_snoc hlt])
                  clear hfr hin htk
                  obtain ⟨q, hq⟩ : ∃ q, q = B.getD j 0 := ⟨_, rfl⟩
                  rw [← hq] at c1 c3 f2 HZ HTK hab
                  obtain ⟨x, hx⟩ : ∃ x, x = o.num q := ⟨_, rfl⟩
                  rw [← hx] at c3
                  have HQ := hide (And.intro hq (And.intro hx hab))
                  clear hq hx hab
                  by_cases hneg : x < 0
                  · have d : decide (x < 0) = true := decide_eq_true hneg
                    have HC := hide (show chk o = false by
                      unfold chk
                      have e : (listed o.kind).all (fun j => decide (0 ≤ o.num j)) = false := not_all (j := A.length + j) (by rw [HA.out, List.length_append]; omega) (by
                        rw [HA.out, HQ.out.2.2, ← HQ.out.2.1]
                        exact decide_eq_false (by omega))
                      rw [e, Bool.and_false, Bool.false_and])
                    go_wp2_with fail
                    refine bodyPost_ret (v := .int .i64 2) (by simp [results, Try.f16, go_sem]) rfl ⟨by rw [HC.out]; rfl, ?_⟩
                    exact HOB3.out.below (bstep HB0.out HB4.out) (Nat.le_refl _)
                  · have d : decide (x < 0) = false := decide_eq_false hneg
                    go_wp2_with fail
                    go_roundw
                    case rel =>
                      refine ⟨j + 1, by omega, by go_num, fun i hi => ?_, by rw [← HTK.out]; exact HZ.out, HOB3.out.set _ _⟩
                      rcases Nat.lt_or_ge i j with h3 | h3
                      · exact HPB.out i h3
                      · obtain rfl : i = j := by omega
                        rw [← HQ.out.1, ← HQ.out.2.1]; omega
                    case measure => (first | (simp [intOf]; done) | (simp [intOf]; omega))
                · obtain rfl : j = B.length := by omega
                  rw [List.take_length, ← HA.out] at HBX3
                  have HAL := hide (show (listed o.kind).all (fun j => decide (0 ≤ o.num j)) = true by
                    rw [HA.out]
                    refine all_of (fun i hi => decide_eq_true ?_)
                    rw [List.getD_eq_getElem?_getD]
                    rcases Nat.lt_or_ge i A.length with h5 | h5
                    · rw [List.getElem?_append_left h5, ← List.getD_eq_getElem?_getD]; exact HPP.out i h5
                    · rw [List.getElem?_append_right h5, ← List.getD_eq_getElem?_getD]; exact HPB.out _ (by rw [List.length_append] at hi; omega))
                  obtain ⟨n, hn⟩ : ∃ n : Nat → Int, n = (o.zero (listed o.kind)).num := ⟨_, rfl⟩
                  have y : ∀ j ∈ numO, wr.cell? ⟨w.heap.size, j, none⟩ = some (.int .i64 (n j)) := fun j hj => by rw [hn]; exact HBX3.out.num hj
                  have y2 := y 2 (by decide)
                  have y3 := y 3 (by decide)
                  have y4 := y 4 (by decide)
                  have y5 := y 5 (by decide)
                  have y6 := y 6 (by decide)
                  have y7 := y 7 (by decide)
                  have y8 := y 8 (by decide)
                  have y9 := y 9 (by decide)
                  have y10 := y 10 (by decide)
                  have y11 := y 11 (by decide)
                  have y12 := y 12 (by decide)
                  have y13 := y 13 (by decide)
                  have y14 := y 14 (by decide)
                  have y15 := y 15 (by decide)
                  have y17 := y 17 (by decide)
                  have hlot : ∀ W, Sem.run Try.prog (binOp .neq 26 (.agg #[.int .i64 (n 5), .int .i64 (n 6), .int .i64 (n 7), .int .i64 (n 8), .int .i64 (n 9), .int .i64 (n 10), .int .i64 (n 11), .int .i64 (n 12), .int .i64 (n 13), .int .i64 (n 14), .int .i64 (n 15)]) (.agg #[.int .i64 0, .int .i64 0, .int .i64 0, .int .i64 0, .int .i64 0, .int .i64 0, .int .i64 0, .int .i64 0, .int .i64 0, .int .i64 0, .int .i64 0])) W = .ok (.bool (!(lotO.all fun j => n j == 0))) W := fun W => lot_neq n (fun _ => 0) W
                  have HBF := hide (show Below w.heap.size w wr from HOB3.out.below (bstep HB0.out HB4.out) (Nat.le_refl _))
                  have HCH := hide (show chk o = (n 2 == 0 && (n 3 == 0 && (n 4 == 0 && (n 17 == 0 && (lotO.all fun j => n j == 0))))) by
                    unfold chk
                    rw [HK.out, H2.out, H3.out, HAL.out, ← hn]
                    simp [numO, lotO, Bool.and_assoc]
                    ac_rfl)
                  clear y hn
                  go_upto_region 20 with fail
                  by_cases z2 : n 2 = 0
                  · have d2 : (n 2 != 0) = false := by simp [z2]
                    by_cases z3 : n 3 = 0
                    · have d3 : (n 3 != 0) = false := by simp [z3]
                      by_cases z4 : n 4 = 0
                      · have d4 : (n 4 != 0) = false := by simp [z4]
                        by_cases z17 : n 17 = 0
                        · have d17 : (n 17 != 0) = false := by simp [z17]
                          rcases (show (lotO.all fun j => n j == 0) = true ∨ (lotO.all fun j => n j == 0) = false by cases (lotO.all fun j => n j == 0) <;> simp) with zl | zl
                          · have HC := hide (show chk o = true by rw [HCH.out]; simp [z2, z3, z4, z17, zl])
                            rw [zl] at hlot
                            clear HCH zl
                            go_wp2_with fail
                            refine bodyPost_ret (v := .int .i64 0) (by simp [results, Try.f16, go_sem]) rfl ⟨by rw [HC.out]; rfl, HBF.out⟩
                          · have HC := hide (show chk o = false by rw [HCH.out]; simp [z2, z3, z4, z17, zl])
                            rw [zl] at hlot
                            clear HCH zl
                            go_wp2_with fail
                            refine bodyPost_ret (v := .int .i64 2) (by simp [results, Try.f16, go_sem]) rfl ⟨by rw [HC.out]; rfl, HBF.out⟩
                        · have d17 : (n 17 != 0) = true := by simp [z17]
                          have HC := hide (show chk o = false by rw [HCH.out]; simp [z2, z3, z4, z17])
                          clear HCH
                          go_wp2_with fail
                          refine bodyPost_ret (v := .int .i64 2) (by simp [results, Try.f16, go_sem]) rfl ⟨by rw [HC.out]; rfl, HBF.out⟩
                      · have d4 : (n 4 != 0) = true := by simp [z4]
                        have HC := hide (show chk o = false by rw [HCH.out]; simp [z2, z3, z4])
                        clear HCH
                        go_wp2_with fail
                        refine bodyPost_ret (v := .int .i64 2) (by simp [results, Try.f16, go_sem]) rfl ⟨by rw [HC.out]; rfl, HBF.out⟩
                    · have d3 : (n 3 != 0) = true := by simp [z3]
                      have HC := hide (show chk o = false by rw [HCH.out]; simp [z2, z3])
                      clear HCH
                      go_wp2_with fail
                      refine bodyPost_ret (v := .int .i64 2) (by simp [results, Try.f16, go_sem]) rfl ⟨by rw [HC.out]; rfl, HBF.out⟩
                  · have d2 : (n 2 != 0) = true := by simp [z2]
                    have HC := hide (show chk o = false by rw [HCH.out]; simp [z2])
                    clear HCH
                    go_wp2_with fail
                    refine bodyPost_ret (v := .int .i64 2) (by simp [results, Try.f16, go_sem]) rfl ⟨by rw [HC.out]; rfl, HBF.out⟩
  · rw [hk]
    have HC := hide (show chk o = false by unfold chk; rw [hk]; rfl)
    clear hk
    go_wp2_with fail
    refine bodyPost_ret (v := .int .i64 2) (by simp [results, Try.f16, go_sem]) rfl ⟨by rw [HC.out]; rfl, bstep HB0.out HB1.out⟩
end Go.Proofs.Ytalnipjaekpbhaa

