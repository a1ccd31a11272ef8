import Derived.Test.YtajkgecegefnmaaWc
import Derived.Test.YtajkgecegefnmaaWd
namespace Go.Proofs.Ytajkgecegefnmaa
open Go.ChangeShapes Go.WideShapes Go.ChangeAt Go.RowKit Go.Deep
set_option linter.unusedSimpArgs false
set_option linter.unusedVariables false

theorem tk_ints (ns : List Nat) : ∀ (k a : Nat), ∀ x ∈ (tk (RU ns) k a).1, ∃ n : Nat, x = .int .u64 (n : Int)
  | 0, a, x, hx => by cases hx
  | k + 1, a, x, hx => by
    by_cases h : (RU ns a).2.1 = 0
    · rw [tk_ok _ _ _ h] at hx
      rcases List.mem_cons.1 hx with rfl | hx
      · exact ⟨_, rfl⟩
      · exact tk_ints ns k _ x hx
    · rw [tk, if_pos h] at hx
      rcases List.mem_cons.1 hx with rfl | hx
      · exact ⟨_, rfl⟩
      · cases hx
theorem tk_strs (ns : List Nat) : ∀ (k a : Nat), ∀ x ∈ (tk (RS ns) k a).1, ∃ s : ByteArray, x = .string s
  | 0, a, x, hx => by cases hx
  | k + 1, a, x, hx => by
    by_cases h : (RS ns a).2.1 = 0
    · rw [tk_ok _ _ _ h] at hx
      rcases List.mem_cons.1 hx with rfl | hx
      · exact ⟨_, rfl⟩
      · exact tk_strs ns k _ x hx
    · rw [tk, if_pos h] at hx
      rcases List.mem_cons.1 hx with rfl | hx
      · exact ⟨_, rfl⟩
      · cases hx
theorem tl_ints (ns : List Nat) (a m : Nat) : ∀ x ∈ (tl (RU ns) ns a m).1, ∃ n : Nat, x = .int .u64 (n : Int) := by
  unfold tl
  split
  · intro x hx; cases hx
  · split
    · intro x hx; cases hx
    · exact tk_ints ns _ _
theorem tl_strs (ns : List Nat) (a m : Nat) : ∀ x ∈ (tl (RS ns) ns a m).1, ∃ s : ByteArray, x = .string s := by
  unfold tl
  split
  · intro x hx; cases hx
  · split
    · intro x hx; cases hx
    · exact tk_strs ns _ _

set_option maxRecDepth 100000 in
set_option maxHeartbeats 2000000 in
theorem Same_c (v1 v2 : Value) (b1 b2 : Nat) (xs : List Value) (w : World) (h1 : w.ownsRow b1 22 1 v1 xs.length xs) (h2 : w.ownsRow b2 22 1 v2 xs.length xs) (hx : ∀ x ∈ xs, ∃ n : Nat, x = .int .u64 (n : Int)) (hl : xs.length ≤ 1099511627776) : Calls Try.prog 58 #[v1, v2] w (fun e w' => e = .returned (.bool true) ∧ Below w.heap.size w w') := by
  by_cases hz : xs.length = 0
  · obtain ⟨a1, c1, rfl⟩ := own_any h1
    obtain ⟨a2, c2, rfl⟩ := own_any h2
    have hz' : ¬ ((0 : Int) < (xs.length : Int)) := by omega
    clear h1 h2 hx
    go_enter Try.func58, Try.ntmps58
    go_wp2
    go_loopw [5] (fun v5 wq => v5 = .int .i64 0 ∧ wq = w) (fun _ _ => 0)
    case atStart => exact ⟨rfl, rfl⟩
    case round =>
      obtain ⟨rfl, rfl⟩ := hrel
      go_wp2
      go_ret
      exact ⟨rfl, Below.refl _ _⟩
  · obtain ⟨g1, c1, rfl, _, z1, _, f1, _⟩ := own_form h1 (by omega)
    obtain ⟨g2, c2, rfl, _, z2, _, f2, _⟩ := own_form h2 (by omega)
    have F1 := hide f1
    have F2 := hide f2
    have HX := hide hx
    clear h1 h2 f1 f2 hx
    go_enter Try.func58, Try.ntmps58
    go_wp2
    go_loopw [5] (fun v5 wq => ∃ k : Nat, k ≤ xs.length ∧ v5 = .int .i64 (k : Int) ∧ Below w.heap.size w wq) (fun v5 _ => xs.length - (intOf v5).toNat)
    case atStart => exact ⟨0, Nat.zero_le _, rfl, Below.refl _ _⟩
    case round =>
      obtain ⟨k, hk, rfl, rB⟩ := hrel
      by_cases hlt : k < xs.length
      · have hk1 : (k : Int) < (xs.length : Int) := by omega
        obtain ⟨y, hy⟩ := HX.out xs[k] (List.getElem_mem hlt)
        have q0 : xs[k]? = some (.int .u64 (y : Int)) := by rw [List.getElem?_eq_getElem hlt, hy]
        have q1 := (rB.cell (p := ⟨g1, k, none⟩) z1).trans ((F1.out k hlt).trans q0)
        have q2 := (rB.cell (p := ⟨g2, k, none⟩) z2).trans ((F2.out k hlt).trans q0)
        clear hy q0
        go_wp2_with fail
        go_quiet (fail)
        go_wp2
        go_roundw
        case rel => exact ⟨k + 1, by omega, by go_num, by (focus repeat' (first | (with_reducible exact Below.refl _ _) | (with_reducible assumption) | (with_reducible refine Below.alloc ?_ ?_ _) | (with_reducible refine Below.drew ?_) | (with_reducible refine bdrewN ?_ _) | (with_reducible refine Below.setCell ?_ ?_ _) | (first | (with_reducible exact Nat.le_refl _) | (with_reducible assumption) | omega | (simp; omega) | (simp; done))))⟩
        case measure => (first | (simp [intOf]; done) | (simp [intOf]; omega))
      · have hk1 : ¬ (k : Int) < (xs.length : Int) := by omega
        go_wp2
        go_ret
        exact ⟨rfl, rB⟩

set_option maxRecDepth 100000 in
set_option maxHeartbeats 2000000 in
theorem SameTexts_c (v1 v2 : Value) (b1 b2 : Nat) (xs : List Value) (w : World) (h1 : w.ownsRow b1 9 1 v1 xs.length xs) (h2 : w.ownsRow b2 9 1 v2 xs.length xs) (hx : ∀ x ∈ xs, ∃ s : ByteArray, x = .string s) (hl : xs.length ≤ 1099511627776) : Calls Try.prog 69 #[v1, v2] w (fun e w' => e = .returned (.bool true) ∧ Below w.heap.size w w') := by
  by_cases hz : xs.length = 0
  · obtain ⟨a1, c1, rfl⟩ := own_any h1
    obtain ⟨a2, c2, rfl⟩ := own_any h2
    have hz' : ¬ ((0 : Int) < (xs.length : Int)) := by omega
    clear h1 h2 hx
    go_enter Try.func69, Try.ntmps69
    go_wp2
    go_loopw [5] (fun v5 wq => v5 = .int .i64 0 ∧ wq = w) (fun _ _ => 0)
    case atStart => exact ⟨rfl, rfl⟩
    case round =>
      obtain ⟨rfl, rfl⟩ := hrel
      go_wp2
      go_ret
      exact ⟨rfl, Below.refl _ _⟩
  · obtain ⟨g1, c1, rfl, _, z1, _, f1, _⟩ := own_form h1 (by omega)
    obtain ⟨g2, c2, rfl, _, z2, _, f2, _⟩ := own_form h2 (by omega)
    have F1 := hide f1
    have F2 := hide f2
    have HX := hide hx
    clear h1 h2 f1 f2 hx
    go_enter Try.func69, Try.ntmps69
    go_wp2
    go_loopw [5] (fun v5 wq => ∃ k : Nat, k ≤ xs.length ∧ v5 = .int .i64 (k : Int) ∧ Below w.heap.size w wq) (fun v5 _ => xs.length - (intOf v5).toNat)
    case atStart => exact ⟨0, Nat.zero_le _, rfl, Below.refl _ _⟩
    case round =>
      obtain ⟨k, hk, rfl, rB⟩ := hrel
      by_cases hlt : k < xs.length
      · have hk1 : (k : Int) < (xs.length : Int) := by omega
        obtain ⟨y, hy⟩ := HX.out xs[k] (List.getElem_mem hlt)
        have q0 : xs[k]? = some (.string y) := by rw [List.getElem?_eq_getElem hlt, hy]
        have q1 := (rB.cell (p := ⟨g1, k, none⟩) z1).trans ((F1.out k hlt).trans q0)
        have q2 := (rB.cell (p := ⟨g2, k, none⟩) z2).trans ((F2.out k hlt).trans q0)
        clear hy q0
        go_wp2_with fail
        go_quiet (fail)
        go_wp2
        go_roundw
        case rel => exact ⟨k + 1, by omega, by go_num, by (focus repeat' (first | (with_reducible exact Below.refl _ _) | (with_reducible assumption) | (with_reducible refine Below.alloc ?_ ?_ _) | (with_reducible refine Below.drew ?_) | (with_reducible refine bdrewN ?_ _) | (with_reducible refine Below.setCell ?_ ?_ _) | (first | (with_reducible exact Nat.le_refl _) | (with_reducible assumption) | omega | (simp; omega) | (simp; done))))⟩
        case measure => (first | (simp [intOf]; done) | (simp [intOf]; omega))
      · have hk1 : ¬ (k : Int) < (xs.length : Int) := by omega
        go_wp2
        go_ret
        exact ⟨rfl, rB⟩

set_option maxRecDepth 100000 in
set_option maxHeartbeats 2000000 in
theorem spoil_c (b off n cap : Nat) (w : World) (hb : b < w.heap.size) (hl : n ≤ 1099511627776) (hc : ∀ j, j < n → ∃ v, w.cell? ⟨b, off + j, none⟩ = some v ∧ w.frozen? ⟨b, off + j, none⟩ = false) : Calls Try.prog 29 #[.slice (some ⟨b, off, none⟩) n cap] w (fun e w' => (∃ u, e = .returned u) ∧ Only b w w') := by
  have HC := hide hc
  clear hc
  go_enter Try.func29, Try.ntmps29
  go_wp2
  go_loopw [2] (fun v1 wr => ∃ k : Nat, k ≤ n ∧ v1 = .int .i64 (k : Int) ∧ Only b w wr ∧ (∀ j, j < n → ∃ v, wr.cell? ⟨b, off + j, none⟩ = some v ∧ wr.frozen? ⟨b, off + j, none⟩ = false)) (fun v1 _ => n - (intOf v1).toNat)
  case atStart => exact ⟨0, Nat.zero_le _, rfl, Only.of_below (Below.refl _ _), HC.out⟩
  case round =>
    obtain ⟨k, hk, rfl, hO, hcr⟩ := hrel
    have HO := hide hO
    have HR := hide hcr
    by_cases hlt : k < n
    · have hk1 : (k : Int) < (n : Int) := by omega
      obtain ⟨v, q1, q2⟩ := hcr k hlt
      have hbr : b < wr.heap.size := Nat.lt_of_lt_of_le hb hO.size
      clear hcr hO
      go_wp2
      go_roundw
      case rel =>
        refine ⟨k + 1, by omega, by go_num, HO.out.set _ _, fun j hj => ?_⟩
        obtain ⟨v', c1, c2⟩ := HR.out j hj
        by_cases e : j = k
        · subst e
          exact ⟨.int .u8 99, by simp [go_sem, c1], by simp only [World.frozen?_setCell]; exact c2⟩
        · exact ⟨v', by simp [go_sem, c1, show off + k ≠ off + j from by omega, show off + j ≠ off + k from by omega, e, Ne.symm e], by simp only [World.frozen?_setCell]; exact c2⟩
      case measure => (first | (simp [intOf]; done) | (simp [intOf]; omega))
    · have hk1 : ¬ (k : Int) < (n : Int) := by omega
      clear hcr
      go_wp2
      go_end0
      exact ⟨⟨_, rfl⟩, HO.out⟩
end Go.Proofs.Ytajkgecegefnmaa
