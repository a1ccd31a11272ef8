import Derived.Test.YtimabgakemgldaaT3
import Derived.Laws.LoneSync
import Derived.WalkKit
import Derived.StillTailTactics
import Derived.Deep.RegionLaw
import Derived.Deep.RegionHeld3
import Derived.Laws.OwnMore
import Derived.Deep.Matrix
import Derived.BigQuiet
import Derived.Deep.QuietTactic
namespace Go.Proofs.Ytimabgakemgldaa
open Go.ChangeShapes Go.WideShapes Go.ChangeAt Go.RowKit Go.Deep
set_option linter.unusedSimpArgs false
set_option linter.unusedVariables false

theorem MarkIs.there {w : World} {m mc : Nat} {v : Int} (h : MarkIs w m mc v) : Calls Try.prog 52 #[.pointer (some ⟨m, 0, none⟩)] w fun e w' => e = .returned (.bool true) ∧ w = w' := by
  have c := h.c
  go_enter Try.func52, Try.ntmps52
  go_wp2
  go_ret
  exact ⟨rfl, rfl⟩
theorem BestIs.there {w : World} {b bc : Nat} {p : Option Addr} {o : Option (Int × Int)} (h : BestIs w b bc p o) : Calls Try.prog 57 #[.pointer (some ⟨b, 0, none⟩)] w fun e w' => e = .returned (.bool true) ∧ w = w' := by
  have c := h.c
  go_enter Try.func57, Try.ntmps57
  go_wp2
  go_ret
  exact ⟨rfl, rfl⟩
theorem GateIs.there {w : World} {g : Nat} {n a : Int} (h : GateIs w g n a) (hn : 1 ≤ n) : Calls Try.prog 54 #[.pointer (some ⟨g, 0, none⟩)] w fun e w' => e = .returned (.bool true) ∧ w = w' := by
  have c := h.n
  have d : decide (0 < n) = true := by (rw [decide_eq_true_iff]; omega)
  have d2 : 0 < n := by omega
  go_enter Try.func54, Try.ntmps54
  go_wp2
  go_ret
  exact ⟨by simp [d2], rfl⟩
theorem TickIs.there {w : World} {t tn : Nat} {m n : Int} (h : TickIs w t tn m n) : Calls Try.prog 55 #[.pointer (some ⟨t, 0, none⟩)] w fun e w' => e = .returned (.bool true) ∧ w = w' := by
  have c := h.c
  go_enter Try.func55, Try.ntmps55
  go_wp2
  go_ret
  exact ⟨rfl, rfl⟩
theorem MarkIs.get {w : World} {m mc : Nat} {v : Int} (h : MarkIs w m mc v) : Calls Try.prog 38 #[.pointer (some ⟨m, 0, none⟩)] w fun e w' => e = .returned (.int .i64 v) ∧ w = w' := by
  have c := h.c
  have H := hide h
  clear h
  go_enter Try.func38, Try.ntmps38
  go_wp2_with fail
  refine H.out.there.mono ?_
  rintro e w' ⟨rfl, rfl⟩
  go_wp2_with fail
  refine (Load_i mc 0 v w H.out.v).mono ?_
  rintro e w' ⟨rfl, rfl⟩
  go_wp2
  go_ret
  exact ⟨rfl, rfl⟩
theorem GateIs.arrived {w : World} {g : Nat} {n a : Int} (h : GateIs w g n a) (hn : 1 ≤ n) : Calls Try.prog 39 #[.pointer (some ⟨g, 0, none⟩)] w fun e w' => e = .returned (.int .i64 a) ∧ w = w' := by
  have H := hide h
  have HN := hide hn
  clear h hn
  go_enter Try.func39, Try.ntmps39
  go_wp2_with fail
  refine (H.out.there HN.out).mono ?_
  rintro e w' ⟨rfl, rfl⟩
  go_wp2_with fail
  refine (Load_i g 1 a w H.out.a).mono ?_
  rintro e w' ⟨rfl, rfl⟩
  go_wp2
  go_ret
  exact ⟨rfl, rfl⟩
theorem drewN_stay {w : World} (n : Nat) (b : Nat) : (w.drewN n).heap[b]? = w.heap[b]? := rfl
theorem GateIs.isOpen {w : World} {g : Nat} {n a : Int} (h : GateIs w g n a) (hn : 1 ≤ n) : Calls Try.prog 40 #[.pointer (some ⟨g, 0, none⟩)] w fun e w' => e = .returned (.bool (decide (n ≤ a))) ∧ ∃ k, w' = w.drewN k := by
  have H := hide h
  have HN := hide hn
  have c := h.n
  clear h hn
  go_enter Try.func40, Try.ntmps40
  go_wp2_with fail
  go_quiet ((first | (go_at_call 54; exact Calls.quiet_of_same ((H.out.stays (drewN_stay _ _)).there HN.out |>.mono (fun e w' q => ⟨q.1, q.2.symm⟩))) | (go_at_call 62; exact Calls.quiet_of_same ((Load_i g 1 a _ (H.out.stays (drewN_stay _ _)).a).mono (fun e w' q => ⟨q.1, q.2.symm⟩)))))
  go_wp2
  go_ret
  exact ⟨rfl, _, rfl⟩
theorem TickIs.left {w : World} {t tn : Nat} {m n : Int} (h : TickIs w t tn m n) : Calls Try.prog 41 #[.pointer (some ⟨t, 0, none⟩)] w fun e w' => e = .returned (.int .i64 (wrap64 (m - n))) ∧ ∃ k, w' = w.drewN k := by
  have H := hide h
  have c := h.c
  have c2 := h.m
  clear h
  go_enter Try.func41, Try.ntmps41
  go_wp2_with fail
  refine H.out.there.mono ?_
  rintro e w' ⟨rfl, rfl⟩
  go_wp2_with fail
  go_quiet ((go_at_call 62; exact Calls.quiet_of_same ((Load_i tn 0 n _ (H.out.stays (drewN_stay _ _) (drewN_stay _ _)).v).mono (fun e w' q => ⟨q.1, q.2.symm⟩))))
  go_wp2
  go_ret
  exact ⟨by simp [IntWalk.i64_left], _, rfl⟩
def bestV : Option (Int × Int) → Value
  | none => .tuple #[.int .i64 0, .int .i64 0, .bool false]
  | some (who, x) => .tuple #[.int .i64 who, .int .i64 x, .bool true]
theorem BestIs.get {w : World} {b bc : Nat} {p : Option Addr} {o : Option (Int × Int)} (h : BestIs w b bc p o) : Calls Try.prog 37 #[.pointer (some ⟨b, 0, none⟩)] w fun e w' => e = .returned (bestV o) ∧ ∃ k, w' = w.drewN k := by
  have H := hide h
  have c := h.c
  cases o with
  | none =>
    obtain rfl : p = none := h.o
    clear h
    go_enter Try.func37, Try.ntmps37
    go_wp2_with fail
    refine H.out.there.mono ?_
    rintro e w' ⟨rfl, rfl⟩
    go_wp2_with fail
    refine (PLoad bc none w H.out.v trivial).mono ?_
    rintro e w' ⟨rfl, rfl⟩
    go_wp2
    refine bodyPost_ret (v := .tuple #[.int .i64 0, .int .i64 0, .bool false]) (by simp [results, Try.f37, go_sem]) rfl ⟨rfl, 0, rfl⟩
  | some z =>
    obtain ⟨who, x⟩ := z
    obtain ⟨k, rfl, q⟩ := h.o
    obtain ⟨c0, c1⟩ := q.cell
    have HQ := hide q
    clear h q
    go_enter Try.func37, Try.ntmps37
    go_wp2_with fail
    refine H.out.there.mono ?_
    rintro e w' ⟨rfl, rfl⟩
    go_wp2_with fail
    refine (PLoad bc (some ⟨k, 0, none⟩) w H.out.v ⟨k, who, x, rfl, HQ.out⟩).mono ?_
    rintro e w' ⟨rfl, rfl⟩
    go_wp2_with fail
    go_quiet (fail)
    go_wp2
    refine bodyPost_ret (v := .tuple #[.int .i64 who, .int .i64 x, .bool true]) (by simp [results, Try.f37, go_sem]) rfl ⟨rfl, _, rfl⟩
theorem GateIs.arrive {w : World} {g : Nat} {n a : Int} (h : GateIs w g n a) (hn : 1 ≤ n) (ha : 0 ≤ a) (ha2 : a ≤ 4611686018427387904) : Calls Try.prog 29 #[.pointer (some ⟨g, 0, none⟩)] w fun e w' => e = .returned (.tuple #[.int .i64 a, .bool (decide (n ≤ a + 1))]) ∧ ∃ k, w' = (w.setCell ⟨g, 1, none⟩ (.int .i64 (a + 1))).drewN k := by
  have H := hide h
  have HN := hide hn
  have e1 : wrap64 (a + 1) = a + 1 := IntWalk.wrap64_in _ (by omega)
  have q := Add_i g 1 a 1 w h.a h.f
  rw [e1] at q
  have Q := hide q
  have e2 : IntKind.i64.wrap (a + 1 - 1) = a := by rw [IntWalk.i64_left, show a + 1 - 1 = a by omega]; exact IntWalk.wrap64_in _ (by omega)
  have cn : (w.setCell ⟨g, 1, none⟩ (.int .i64 (a + 1))).cell? ⟨g, 0, none⟩ = some (.int .i64 n) := by
    rw [World.cell?_setCell_other w ⟨g, 1, none⟩ ⟨g, 0, none⟩ _ (by first | (intro e; cases e) | (intro e; injection e))]
    exact h.n
  obtain ⟨W, hW⟩ : ∃ W, W = w.setCell ⟨g, 1, none⟩ (.int .i64 (a + 1)) := ⟨_, rfl⟩
  rw [← hW] at cn Q
  have HW := hide hW
  have E2 := hide e2
  obtain ⟨a1, ha1⟩ : ∃ a1, a1 = a + 1 := ⟨_, rfl⟩
  rw [← ha1] at Q e2 ⊢
  have HA1 := hide ha1
  have EE := hide e2
  clear h hn e1 q hW ha ha2 ha1 e2
  go_enter Try.func29, Try.ntmps29
  go_wp2_with fail
  refine (H.out.there HN.out).mono ?_
  rintro e w' ⟨rfl, rfl⟩
  go_wp2_with fail
  refine Q.out.mono ?_
  rintro e w' ⟨rfl, rfl⟩
  have e3 := EE.out
  go_wp2_with fail
  go_quiet (fail)
  go_wp2
  go_ret2
  refine ⟨?_, _, by rw [HW.out, HA1.out]⟩
  have e4 := EE.out
  simp [← IntWalk.i64_left, e4]
end Go.Proofs.Ytimabgakemgldaa
