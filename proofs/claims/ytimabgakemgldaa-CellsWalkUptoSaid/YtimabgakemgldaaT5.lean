import Derived.Test.YtimabgakemgldaaT4
import Derived.Laws.LoneSync
import Derived.WalkKit
import Derived.StillTailTactics
import Derived.Deep.RegionLaw
import Derived.Deep.RegionHeld3
import Derived.Laws.OwnMore
import Derived.Deep.Matrix
import Derived.BigQuiet
import Derived.Deep.QuietTactic
import Derived.Laws.EntriesVeiled
namespace Go.Proofs.Ytimabgakemgldaa
open Go.ChangeShapes Go.WideShapes Go.ChangeAt Go.RowKit Go.Deep
set_option linter.unusedSimpArgs false
set_option linter.unusedVariables false

theorem ints_set (S : List Int) (i : Nat) (v : Int) : ints (S.set i v) = (ints S).set i (.int .i64 v) := by
  unfold ints; rw [List.map_set]
theorem CntIs.add_ok {w : World} {c cs : Nat} {S : List Int} (h : CntIs w c cs S) (hne : c ≠ cs) (i : Nat) (hi : i < S.length) (x : Int) : Calls Try.prog 15 #[.pointer (some ⟨c, 0, none⟩), .int .i64 (i : Int), .int .i64 x] w fun e w' => e = .returned (.tuple #[.int .i64 (wrap64 (S.getD i 0 + x)), .int .i64 0]) ∧ w' = w.setCell ⟨cs, i, none⟩ (.int .i64 (wrap64 (S.getD i 0 + x))) := by
  have H := hide h
  have c0 := h.c
  have hlen := h.r.lt cs rfl
  have hl0 : decide ((S.length : Int) = 0) = false := by (rw [decide_eq_false_iff_not]; omega)
  have hl1 : ((S.length : Int) == 0) = false := by (rw [beq_eq_false_iff_ne]; omega)
  have hi0 : (0 : Int) ≤ (i : Int) := by omega
  have hi1 : ¬ (i : Int) < 0 := by omega
  have hi2 : (i : Int) < (S.length : Int) := by omega
  have hi3 : decide ((S.length : Int) ≤ (i : Int)) = false := by (rw [decide_eq_false_iff_not]; omega)
  obtain ⟨z, hz⟩ : ∃ z, z = S.getD i 0 := ⟨_, rfl⟩
  have C := hide (Add_i cs i z x w (by rw [h.r.cellAt i (by omega), hz]; exact ints_at hi) (h.r.frozenAt i))
  rw [← hz]
  clear h hlen hz
  go_enter Try.func15, Try.ntmps15
  go_wp2_with fail
  refine C.out.mono ?_
  rintro e w' ⟨rfl, rfl⟩
  go_wp2
  go_ret2
  exact ⟨rfl, rfl⟩
theorem CntIs.add_bad {w : World} {c cs : Nat} {S : List Int} (h : CntIs w c cs S) (h0 : 0 < S.length) (i x : Int) (hi : i < 0 ∨ S.length ≤ i) : Calls Try.prog 15 #[.pointer (some ⟨c, 0, none⟩), .int .i64 i, .int .i64 x] w fun e w' => e = .returned (.tuple #[.int .i64 0, .int .i64 2]) ∧ w = w' := by
  have c0 := h.c
  have hl0 : decide ((S.length : Int) = 0) = false := by (rw [decide_eq_false_iff_not]; omega)
  have hl1 : ((S.length : Int) == 0) = false := by (rw [beq_eq_false_iff_ne]; omega)
  clear h
  by_cases hn : i < 0
  · clear hi
    go_enter Try.func15, Try.ntmps15
    go_wp2
    go_ret2
    exact ⟨rfl, rfl⟩
  · have h2 : (S.length : Int) ≤ i := by omega
    clear hi
    go_enter Try.func15, Try.ntmps15
    go_wp2
    go_ret2
    exact ⟨rfl, rfl⟩
theorem CntIs.set {w : World} {c cs : Nat} {S : List Int} (h : CntIs w c cs S) (hne : c ≠ cs) (i : Nat) (v : Int) : CntIs (w.setCell ⟨cs, i, none⟩ (.int .i64 v)) c cs (S.set i v) :=
  ⟨by rw [List.length_set]; exact cell_stay h.c (heap_setCell_other _ _ _ _ hne), by rw [List.length_set, ints_set]; exact (h.r.stored i (.int .i64 v)).1⟩
/-- the answer's place -/
structure AnsAt (w : World) (ab ao : Nat) (a : Int) (y : Bool) : Prop where
  a : w.cell? ⟨ab, ao, none⟩ = some (.int .i64 a)
  y : w.cell? ⟨ab, ao + 1, none⟩ = some (.bool y)
  f : ∀ o, w.frozen? ⟨ab, o, none⟩ = false
/-- what is left of a block when one of its cells was written -/
structure Wr1 (w : World) (b o : Nat) (u : Value) (w' : World) : Prop where
  os : w'.os = w.os
  tape : w'.tape = w.tape
  output : w'.output = w.output
  size : w.heap.size = w'.heap.size
  heap : ∀ k, k ≠ b → w'.heap[k]? = w.heap[k]?
  at_ : w'.cell? ⟨b, o, none⟩ = some u
  oth : ∀ p, p ≠ o → w'.cell? ⟨b, p, none⟩ = w.cell? ⟨b, p, none⟩
  fro : ∀ p, w'.frozen? ⟨b, p, none⟩ = w.frozen? ⟨b, p, none⟩
theorem cell_ne {w : World} {b o p : Nat} {u : Value} (h : p ≠ o) : (w.setCell ⟨b, o, none⟩ u).cell? ⟨b, p, none⟩ = w.cell? ⟨b, p, none⟩ :=
  World.cell?_setCell_other w ⟨b, o, none⟩ ⟨b, p, none⟩ u (by first | exact fun e => h (congrArg Addr.off e) | exact fun e => h (congrArg Addr.off e).symm)
theorem Wr1.mk' {w : World} {b o n : Nat} {u : Value} (h : (w.cell? ⟨b, o, none⟩).isSome = true) : Wr1 w b o u ((w.drewN n).setCell ⟨b, o, none⟩ u) :=
  ⟨rfl, rfl, rfl, by rw [World.size_setCell]; rfl, fun k hk => heap_setCell_other _ _ _ _ hk, World.cell?_setCell_same' _ _ _ h, fun p hp => cell_ne hp, fun p => World.frozen?_setCell _ _ _ _⟩
theorem Wr1.drew {w w' : World} {b o : Nat} {u : Value} (h : Wr1 w b o u w') (n : Nat) : Wr1 w b o u (w'.drewN n) := ⟨h.os, h.tape, h.output, h.size, h.heap, h.at_, h.oth, h.fro⟩
/-- a raising's boxes -/
structure RaiseT (w : World) (bm ba bx m ab ao : Nat) (x : Int) : Prop where
  m : w.cell? ⟨bm, 0, none⟩ = some (.pointer (some ⟨m, 0, none⟩))
  a : w.cell? ⟨ba, 0, none⟩ = some (.pointer (some ⟨ab, ao, none⟩))
  x : w.cell? ⟨bx, 0, none⟩ = some (.int .i64 x)
theorem RaiseT.stays {w w' : World} {bm ba bx m ab ao : Nat} {x : Int} (h : RaiseT w bm ba bx m ab ao x) (h1 : w'.heap[bm]? = w.heap[bm]?) (h2 : w'.heap[ba]? = w.heap[ba]?) (h3 : w'.heap[bx]? = w.heap[bx]?) : RaiseT w' bm ba bx m ab ao x := ⟨cell_stay h.m h1, cell_stay h.a h2, cell_stay h.x h3⟩
def raiseV (bm ba bx : Nat) : Value := .agg #[.func (.func 91) #[] #[.pointer (some ⟨bm, 0, none⟩), .pointer (some ⟨ba, 0, none⟩), .pointer (some ⟨bx, 0, none⟩)], .func (.func 92) #[] #[.pointer (some ⟨bm, 0, none⟩), .pointer (some ⟨ba, 0, none⟩), .pointer (some ⟨bx, 0, none⟩)]]
theorem raise_c (m ab ao : Nat) (x : Int) (w : World) : Calls Try.prog 53 #[.pointer (some ⟨m, 0, none⟩), .int .i64 x, .pointer (some ⟨ab, ao, none⟩)] w fun e w' => e = .returned (raiseV w.heap.size (w.heap.size + 2) (w.heap.size + 1)) ∧ RaiseT w' w.heap.size (w.heap.size + 2) (w.heap.size + 1) m ab ao x ∧ Below w.heap.size w w' := by
  go_enter Try.func53, Try.ntmps53
  go_wp2
  refine bodyPost_ret (v := raiseV w.heap.size (w.heap.size + 2) (w.heap.size + 1)) (by simp [results, Try.f53, go_sem, raiseV]) rfl ⟨rfl, ⟨by simp [go_sem], by simp [go_sem], by simp [go_sem]⟩, by (focus repeat' (first | (with_reducible exact Below.refl _ _) | (with_reducible assumption) | (with_reducible refine Below.alloc ?_ ?_ _) | (with_reducible refine Below.drew ?_) | (with_reducible refine bdrewN ?_ _) | (with_reducible refine Below.setCell ?_ ?_ _) | (first | (with_reducible exact Nat.le_refl _) | (with_reducible assumption) | omega | (simp; omega) | (simp; done))))⟩
set_option maxHeartbeats 1000000 in
theorem raise_look (bm ba bx m mc ab ao : Nat) (x v : Int) (w : World) (hT : RaiseT w bm ba bx m ab ao x) (hm : MarkIs w m mc v) (h0 : (w.cell? ⟨ab, ao, none⟩).isSome = true) (hf : w.frozen? ⟨ab, ao, none⟩ = false) (n1 : ab ≠ bm) (n2 : ab ≠ ba) (n3 : ab ≠ bx) :
    Calls Try.prog 91 #[.pointer (some ⟨bm, 0, none⟩), .pointer (some ⟨ba, 0, none⟩), .pointer (some ⟨bx, 0, none⟩)] w fun e w' => e = .returned (.bool (decide (x ≤ v))) ∧ Wr1 w ab ao (.int .i64 v) w' := by
  have t0 := hT.m
  have t1 := hT.a
  have t2 := hT.x
  have m0 := hm.c
  obtain ⟨u, hu⟩ := Option.isSome_iff_exists.1 h0
  have C := hide (fun nq => Load_i mc 0 v (w.drewN nq) hm.v)
  have HW := hide (fun nq => Wr1.mk' (n := nq) (u := .int .i64 v) h0)
  clear hT hm h0
  go_enter Try.func91, Try.ntmps91
  go_wp2_with fail
  go_region_law (go_simp; go_at_call 62; (apply Calls.mono; focus (exact C.out _)); rintro e w1 ⟨rfl, rfl⟩)
  all_goals
    obtain ⟨W, hW⟩ : ∃ W, W = (w.drewN 1).setCell ⟨ab, ao, none⟩ (.int .i64 v) := ⟨_, rfl⟩
    rw [← hW]
    have hw := HW.out 1
    rw [← hW] at hw
    have t1 := cell_stay t1 (hw.heap _ (Ne.symm n2))
    have t2 := cell_stay t2 (hw.heap _ (Ne.symm n3))
    have ca := hw.at_
    have HWW := hide hw
    clear hW hw
    go_wp2_with fail
    go_quiet (fail)
    go_wp2
    go_ret
    exact ⟨rfl, HWW.out.drew _⟩
end Go.Proofs.Ytimabgakemgldaa
