import Derived.Test.YtehpjipmlpaflaaB1
import Derived.Test.YtehpjipmlpaflaaP1
import Derived.Test.YtehpjipmlpaflaaRH
import Derived.RangeFuncNested
import Derived.RangeFuncBound
import Derived.RangeFuncCalls
import Derived.RangeFuncLeaves
import Derived.RangeFuncFrom
import Derived.Shelf.Abstract
import Derived.Shelf.RegionOpen
import Derived.OwnWalkIn
import Derived.TacticsInMore
import Derived.LoopNIn
import Derived.LoopIn
namespace Go.Proofs.Ytehpjipmlpaflaa.un
open Go.ChangeShapes Go.WideShapes Go.ChangeAt Go.RowKit Go.Deep Go.Shelf
set_option linter.unusedSimpArgs false
set_option linter.unusedVariables false

attribute [local go_sem] Oper.semAt_some

def cmpI_ (a b : Int) : Int := if a < b then -1 else if b < a then 1 else 0

theorem c34_lt (a b : Int) (w : World) (h : a < b) : Calls Try.prog 34 #[.int .i64 a, .int .i64 b] w fun e w' => e = .returned (.int .i64 (-1)) ∧ w' = w := by
  go_enter Try.func34, Try.ntmps34
  go_wp2_with (go_at_call 43; go_in)
  go_ret
  exact ⟨rfl, rfl⟩

theorem c34_gt (a b : Int) (w : World) (h : b < a) : Calls Try.prog 34 #[.int .i64 a, .int .i64 b] w fun e w' => e = .returned (.int .i64 (1)) ∧ w' = w := by
  have h2 : ¬ a < b := by omega
  go_enter Try.func34, Try.ntmps34
  go_wp2_with (go_at_call 43; go_in)
  go_ret
  exact ⟨rfl, rfl⟩

theorem c34_eq (a b : Int) (w : World) (h : a = b) : Calls Try.prog 34 #[.int .i64 a, .int .i64 b] w fun e w' => e = .returned (.int .i64 (0)) ∧ w' = w := by
  subst h
  go_enter Try.func34, Try.ntmps34
  go_wp2_with (go_at_call 43; go_in)
  go_ret
  exact ⟨rfl, rfl⟩

theorem c34 (a b : Int) (w : World) : Calls Try.prog 34 #[.int .i64 a, .int .i64 b] w fun e w' => e = .returned (.int .i64 (cmpI_ a b)) ∧ w' = w := by
  unfold cmpI_
  by_cases h : a < b
  · rw [if_pos h]; exact c34_lt a b w h
  · rw [if_neg h]
    by_cases h2 : b < a
    · rw [if_pos h2]; exact c34_gt a b w h2
    · rw [if_neg h2]; exact c34_eq a b w (by omega)

theorem c35_lt (a b : Int) (w : World) (h : a < b) : Calls Try.prog 35 #[.int .i64 a, .int .i64 b] w fun e w' => e = .returned (.int .i64 (-1)) ∧ w' = w := by
  go_enter Try.func35, Try.ntmps35
  go_wp2_with (go_at_call 44; go_in)
  go_ret
  exact ⟨rfl, rfl⟩

theorem c35_gt (a b : Int) (w : World) (h : b < a) : Calls Try.prog 35 #[.int .i64 a, .int .i64 b] w fun e w' => e = .returned (.int .i64 (1)) ∧ w' = w := by
  have h2 : ¬ a < b := by omega
  go_enter Try.func35, Try.ntmps35
  go_wp2_with (go_at_call 44; go_in)
  go_ret
  exact ⟨rfl, rfl⟩

theorem c35_eq (a b : Int) (w : World) (h : a = b) : Calls Try.prog 35 #[.int .i64 a, .int .i64 b] w fun e w' => e = .returned (.int .i64 (0)) ∧ w' = w := by
  subst h
  go_enter Try.func35, Try.ntmps35
  go_wp2_with (go_at_call 44; go_in)
  go_ret
  exact ⟨rfl, rfl⟩

theorem c35 (a b : Int) (w : World) : Calls Try.prog 35 #[.int .i64 a, .int .i64 b] w fun e w' => e = .returned (.int .i64 (cmpI_ a b)) ∧ w' = w := by
  unfold cmpI_
  by_cases h : a < b
  · rw [if_pos h]; exact c35_lt a b w h
  · rw [if_neg h]
    by_cases h2 : b < a
    · rw [if_pos h2]; exact c35_gt a b w h2
    · rw [if_neg h2]; exact c35_eq a b w (by omega)

def or_ (x y z : Int) : Int := if x ≠ 0 then x else if y ≠ 0 then y else z
set_option maxHeartbeats 1000000 in
theorem Or_c (x y z : Int) (b cap : Nat) (w : World) (h0 : w.cell? ⟨b, 0, none⟩ = some (.int .i64 x)) (h1 : w.cell? ⟨b, 1, none⟩ = some (.int .i64 y)) (h2 : w.cell? ⟨b, 2, none⟩ = some (.int .i64 z)) : Calls Try.prog 33 #[.slice (some ⟨b, 0, none⟩) 3 cap] w fun e w' => e = .returned (.int .i64 (or_ x y z)) ∧ w' = w := by
  have HO := hide (show or_ x y z = if x ≠ 0 then x else if y ≠ 0 then y else z from rfl)
  go_enter Try.func33, Try.ntmps33
  go_wp2
  go_loop [8] (fun v8 => ∃ k : Nat, k ≤ 3 ∧ v8 = .int .i64 (k : Int) ∧ (1 ≤ k → x = 0) ∧ (2 ≤ k → y = 0) ∧ (3 ≤ k → z = 0)) (fun v8 => 3 - (intOf v8).toNat)
  case atStart => exact ⟨0, by omega, rfl, fun h => by omega, fun h => by omega, fun h => by omega⟩
  case round =>
    obtain ⟨k, hk, rfl, hx, hy, hz⟩ := hrel
    have HX := hide hx
    have HY := hide hy
    have HZ := hide hz
    clear hx hy hz
    rcases (by omega : k = 0 ∨ k = 1 ∨ k = 2 ∨ k = 3) with rfl | rfl | rfl | rfl
    · by_cases q : x = 0
      · have HQ := hide q
        have b1 : (x != 0) = false := by simp [q]
        have b2 : decide (x = 0) = true := by simp [q]
        clear q
        go_wp2
        go_round
        case rel => exact ⟨1, by omega, by simp, fun _ => HQ.out, fun h => by omega, fun h => by omega⟩
        case measure => simp [intOf]
      · have b1 : (x != 0) = true := by simp [q]
        have b2 : decide (x = 0) = false := by simp [q]
        have HQ := hide q
        clear q
        go_wp2
        go_ret
        exact ⟨ret_int (by (rw [HO.out, if_pos HQ.out])), rfl⟩
    · by_cases q : y = 0
      · have HQ := hide q
        have b1 : (y != 0) = false := by simp [q]
        have b2 : decide (y = 0) = true := by simp [q]
        clear q
        go_wp2
        go_round
        case rel => exact ⟨2, by omega, by simp, fun _ => HX.out (by omega), fun _ => HQ.out, fun h => by omega⟩
        case measure => simp [intOf]
      · have b1 : (y != 0) = true := by simp [q]
        have b2 : decide (y = 0) = false := by simp [q]
        have HQ := hide q
        clear q
        go_wp2
        go_ret
        exact ⟨ret_int (by (rw [HO.out, if_neg (by simp [HX.out]), if_pos HQ.out])), rfl⟩
    · by_cases q : z = 0
      · have HQ := hide q
        have b1 : (z != 0) = false := by simp [q]
        have b2 : decide (z = 0) = true := by simp [q]
        clear q
        go_wp2
        go_round
        case rel => exact ⟨3, by omega, by simp, fun _ => HX.out (by omega), fun _ => HY.out (by omega), fun _ => HQ.out⟩
        case measure => simp [intOf]
      · have b1 : (z != 0) = true := by simp [q]
        have b2 : decide (z = 0) = false := by simp [q]
        have HQ := hide q
        clear q
        go_wp2
        go_ret
        exact ⟨ret_int (by (rw [HO.out, if_neg (by simp [HX.out]), if_neg (by simp [HY.out])])), rfl⟩
    · go_wp2
      go_ret
      exact ⟨ret_int (by rw [HO.out, if_neg (by simp [HX.out]), if_neg (by simp [HY.out]), HZ.out (by omega)]), rfl⟩

def ltB (a b : U) : Bool := decide (lt a b)
theorem ltB_yes {a b : U} : ltB a b = true ↔ lt a b := by simp [ltB]
theorem ltB_no {a b : U} : ltB a b = false ↔ le b a := by simp [ltB, le]
theorem or_lt (a b : U) : decide (or_ (-(cmpI_ a.2.2 b.2.2)) (cmpI_ a.1 b.1) (cmpI_ a.2.1 b.2.1) < 0) = ltB a b := by
  unfold ltB
  rw [decide_eq_decide]
  unfold or_ cmpI_ lt
  repeat' split
  all_goals omega
theorem cmp_bd (a b : Int) : -1 ≤ cmpI_ a b ∧ cmpI_ a b ≤ 1 := by
  unfold cmpI_
  repeat' split
  all_goals omega
set_option maxRecDepth 100000 in
set_option maxHeartbeats 2000000 in
theorem before_c (a b : U) (w : World) : Calls Try.prog 32 #[.agg #[.int .i64 a.1, .int .i64 a.2.1, .int .i64 a.2.2], .agg #[.int .i64 b.1, .int .i64 b.2.1, .int .i64 b.2.2]] w fun e w' => e = .returned (.bool (ltB a b)) ∧ Below w.heap.size w w' := by
  have HOL := hide (or_lt a b)
  obtain ⟨a0, a1, a2⟩ := a
  obtain ⟨b0, b1, b2⟩ := b
  obtain ⟨x, hx⟩ : ∃ x, x = cmpI_ a2 b2 := ⟨_, rfl⟩
  obtain ⟨y, hy⟩ : ∃ y, y = cmpI_ a0 b0 := ⟨_, rfl⟩
  obtain ⟨z, hz⟩ : ∃ z, z = cmpI_ a1 b1 := ⟨_, rfl⟩
  have hbx : -1 ≤ x ∧ x ≤ 1 := by rw [hx]; exact cmp_bd _ _
  obtain ⟨hb1, hb2⟩ := hbx
  have HX := hide hx
  have HY := hide hy
  have HZ := hide hz
  have C1 : ∀ w, Calls Try.prog 34 #[.int .i64 a2, .int .i64 b2] w fun e w' => e = .returned (.int .i64 x) ∧ Below w.heap.size w w' := fun w => (c34 a2 b2 w).mono fun e w' h => ⟨h.1.trans (by rw [hx]), h.2 ▸ Below.refl _ _⟩
  have C2 : ∀ w, Calls Try.prog 35 #[.int .i64 a0, .int .i64 b0] w fun e w' => e = .returned (.int .i64 y) ∧ Below w.heap.size w w' := fun w => (c35 a0 b0 w).mono fun e w' h => ⟨h.1.trans (by rw [hy]), h.2 ▸ Below.refl _ _⟩
  have C3 : ∀ w, Calls Try.prog 35 #[.int .i64 a1, .int .i64 b1] w fun e w' => e = .returned (.int .i64 z) ∧ Below w.heap.size w w' := fun w => (c35 a1 b1 w).mono fun e w' h => ⟨h.1.trans (by rw [hz]), h.2 ▸ Below.refl _ _⟩
  have HC1 := hide C1
  have HC2 := hide C2
  have HC3 := hide C3
  clear hx hy hz C1 C2 C3
  refine (callsIn_wide (n := 3)).1 ?_
  refine callsIn_of_wp Try.func32 rfl trivial ?_ rfl
  simp only [Try.ntmps32, List.size_toArray, List.length_cons, List.length_nil, Nat.reduceAdd, Nat.reduceSub, Array.replicate_succ, Array.replicate_zero, List.push_toArray, List.append_toArray, List.nil_append, List.cons_append]
  gi_wp2_with fail
  obtain ⟨W, hW⟩ : ∃ W, W = (w.alloc (.cells #[.int .i64 a0, .int .i64 a1, .int .i64 a2] 52)).alloc (.cells #[.int .i64 b0, .int .i64 b1, .int .i64 b2] 52) := ⟨_, rfl⟩
  rw [← hW]
  have hbW : Below w.heap.size w W := by rw [hW]; (focus repeat' (first | (with_reducible exact Below.refl _ _) | (with_reducible assumption) | (with_reducible refine Below.alloc ?_ ?_ _) | (with_reducible refine Below.drew ?_) | (with_reducible refine bdrewN ?_ _) | (with_reducible refine Below.setCell ?_ ?_ _) | (first | (with_reducible exact Nat.le_refl _) | (with_reducible assumption) | omega | (simp; omega) | (simp; done))))
  have hzW : W.heap.size = w.heap.size + 2 := by rw [hW]; simp
  have HBW := hide hbW
  have e0 : ∀ m : Aft W, m.w.cell? ⟨w.heap.size, 0, none⟩ = some (.int .i64 a0) := fun m => (m.le.cell (p := ⟨w.heap.size, 0, none⟩) (by simp; omega)).trans (by rw [hW]; simp [go_sem])
  have f0 : ∀ m : Aft W, m.w.cell? ⟨w.heap.size + 1, 0, none⟩ = some (.int .i64 b0) := fun m => (m.le.cell (p := ⟨w.heap.size + 1, 0, none⟩) (by simp; omega)).trans (by rw [hW]; simp [go_sem])
  have e1 : ∀ m : Aft W, m.w.cell? ⟨w.heap.size, 1, none⟩ = some (.int .i64 a1) := fun m => (m.le.cell (p := ⟨w.heap.size, 1, none⟩) (by simp; omega)).trans (by rw [hW]; simp [go_sem])
  have f1 : ∀ m : Aft W, m.w.cell? ⟨w.heap.size + 1, 1, none⟩ = some (.int .i64 b1) := fun m => (m.le.cell (p := ⟨w.heap.size + 1, 1, none⟩) (by simp; omega)).trans (by rw [hW]; simp [go_sem])
  have e2 : ∀ m : Aft W, m.w.cell? ⟨w.heap.size, 2, none⟩ = some (.int .i64 a2) := fun m => (m.le.cell (p := ⟨w.heap.size, 2, none⟩) (by simp; omega)).trans (by rw [hW]; simp [go_sem])
  have f2 : ∀ m : Aft W, m.w.cell? ⟨w.heap.size + 1, 2, none⟩ = some (.int .i64 b2) := fun m => (m.le.cell (p := ⟨w.heap.size + 1, 2, none⟩) (by simp; omega)).trans (by rw [hW]; simp [go_sem])
  clear hW hbW
  refine wpIn_region_after_tail 16 (by kernel_rfl) (by kernel_rfl) (by kernel_rfl) ?_
  simp only [List.take_succ_cons, List.take_zero, List.drop_succ_cons, List.drop_zero]
  repeat (gi_big_quiet_step ((first | (gi_at_call 34; exact aft_call (callsIn_wide.2 (HC1.out _))) | (gi_at_call 35; first | with_reducible exact aft_call (callsIn_wide.2 (HC2.out _)) | exact aft_call (callsIn_wide.2 (HC3.out _))))))
  refine wpQuietIn_nil ?_
  intro _ hw'
  obtain ⟨m, hw''⟩ := hw'
  subst hw''
  have HM := hide (HBW.out.trans (m.le.mono HBW.out.size))
  have HHO := hide (show decide (or_ (-x) y z < 0) = ltB (a0, a1, a2) (b0, b1, b2) from by rw [HX.out, HY.out, HZ.out]; exact HOL.out)
  clear e0 f0 e1 f1 e2 f2
  gi_wp2_with (gi_at_call 33; refine (callsIn_wide.2 (Or_c (-x) y z _ _ _ (by simp [go_sem]) (by simp [go_sem]) (by simp [go_sem]))).mono ?_; rintro e w5 ⟨rfl, rfl⟩)
  refine bodyPost_ret (v := .bool (decide (or_ (-x) y z < 0))) (by simp [results, Try.f32, go_sem]) rfl ⟨by rw [HHO.out], ?_⟩
  exact HM.out.alloc (by have := HM.out.size; omega) _
end Go.Proofs.Ytehpjipmlpaflaa.un
