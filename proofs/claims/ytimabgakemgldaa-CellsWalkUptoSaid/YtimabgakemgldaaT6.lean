import Derived.Test.YtimabgakemgldaaT5
import Derived.Laws.LoneSync
import Derived.WalkKit
import Derived.StillTailTactics
import Derived.Deep.RegionLaw
import Derived.Deep.RegionHeld3
import Derived.Laws.OwnMore
import Derived.Deep.Matrix
import Derived.BigQuiet
import Derived.Deep.QuietTactic
import Derived.Laws.EntriesVeiled
namespace Go.Proofs.Ytimabgakemgldaa
open Go.ChangeShapes Go.WideShapes Go.ChangeAt Go.RowKit Go.Deep
set_option linter.unusedSimpArgs false
set_option linter.unusedVariables false

theorem Wr1.mk0 {w : World} {b o : Nat} {u : Value} (h : (w.cell? ⟨b, o, none⟩).isSome = true) : Wr1 w b o u (w.setCell ⟨b, o, none⟩ u) :=
  ⟨rfl, rfl, rfl, by rw [World.size_setCell], fun k hk => heap_setCell_other _ _ _ _ hk, World.cell?_setCell_same' _ _ _ h, fun p hp => cell_ne hp, fun p => World.frozen?_setCell _ _ _ _⟩
theorem Wr1.undrew {w w' : World} {b o n : Nat} {u : Value} (h : Wr1 (w.drewN n) b o u w') : Wr1 w b o u w' := ⟨h.os, h.tape, h.output, h.size, h.heap, h.at_, h.oth, h.fro⟩
/-- nothing written -/
structure Sm (w w' : World) : Prop where
  os : w'.os = w.os
  tape : w'.tape = w.tape
  output : w'.output = w.output
  heap : w'.heap = w.heap
theorem Sm.drewN (w : World) (n : Nat) : Sm w (w.drewN n) := ⟨rfl, rfl, rfl, rfl⟩
theorem Sm.blk {w w' : World} (h : Sm w w') (k : Nat) : w'.heap[k]? = w.heap[k]? := by rw [h.heap]
theorem Sm.wr {w w1 w' : World} (h : Sm w w1) {b o : Nat} {u : Value} (k : Wr1 w1 b o u w') : Wr1 w b o u w' :=
  ⟨k.os.trans h.os, k.tape.trans h.tape, k.output.trans h.output, by rw [← h.heap]; exact k.size, fun i hi => (k.heap i hi).trans (h.blk i), k.at_, fun p hp => (k.oth p hp).trans (World.cell?_of_block (a := ⟨b, p, none⟩) (h.blk b)), fun p => (k.fro p).trans (World.frozen?_of_block (a := ⟨b, p, none⟩) (h.blk b))⟩
/-- two cells written, one behind the other -/
def Wr2 (w : World) (b o : Nat) (u : Value) (b2 o2 : Nat) (u2 : Value) (w' : World) : Prop := ∃ w1, Wr1 w b o u w1 ∧ Wr1 w1 b2 o2 u2 w'
theorem Wr2.drew {w w' : World} {b o b2 o2 : Nat} {u u2 : Value} (h : Wr2 w b o u b2 o2 u2 w') (n : Nat) : Wr2 w b o u b2 o2 u2 (w'.drewN n) := by
  obtain ⟨w1, h1, h2⟩ := h; exact ⟨w1, h1, h2.drew n⟩
set_option maxRecDepth 100000 in
set_option maxHeartbeats 1000000 in
theorem raise_hit (bm ba bx m mc ab ao : Nat) (x v : Int) (w : World) (hT : RaiseT w bm ba bx m ab ao x) (hm : MarkIs w m mc v) (ha : w.cell? ⟨ab, ao, none⟩ = some (.int .i64 v)) (hy : (w.cell? ⟨ab, ao + 1, none⟩).isSome = true) (hf : w.frozen? ⟨ab, ao + 1, none⟩ = false) (n2 : ab ≠ ba) (n4 : mc ≠ ba) (n5 : mc ≠ ab) (n6 : mc ≠ bm) (n7 : mc ≠ bx) (n8 : mc ≠ m) (n9 : ab ≠ bm) (n10 : ab ≠ bx) (n11 : ab ≠ m) :
    Calls Try.prog 92 #[.pointer (some ⟨bm, 0, none⟩), .pointer (some ⟨ba, 0, none⟩), .pointer (some ⟨bx, 0, none⟩)] w fun e w' => e = .returned (.bool true) ∧ Wr2 w mc 0 (.int .i64 x) ab (ao + 1) (.bool true) w' := by
  have t0 := hT.m
  have t1 := hT.a
  have t2 := hT.x
  have m0 := hm.c
  obtain ⟨u, hu⟩ := Option.isSome_iff_exists.1 hy
  have HV := hide hm.v
  have C := hide (show ∀ nq, Calls Try.prog 93 #[.pointer (some ⟨mc, 0, none⟩), .int .i64 v, .int .i64 x] (w.drewN nq) fun e w' => e = .returned (.bool true) ∧ Wr1 w mc 0 (.int .i64 x) w' from fun nq => (Cas_hit mc 0 v x (w.drewN nq) hm.v hm.f).mono fun e w' q => ⟨q.1, by rw [q.2]; exact Wr1.mk' (by rw [hm.v]; rfl)⟩)
  clear hT hm hy
  go_enter Try.func92, Try.ntmps92
  go_wp2_with fail
  have q1 := Ne.symm n2
  have q2 := Ne.symm n9
  have q3 := Ne.symm n10
  have q4 := Ne.symm n11
  go_region_held3 (fun w' => w'.cell? ⟨bm, 0, none⟩ = some (.pointer (some ⟨m, 0, none⟩)) ∧ w'.cell? ⟨ba, 0, none⟩ = some (.pointer (some ⟨ab, ao, none⟩)) ∧ w'.cell? ⟨bx, 0, none⟩ = some (.int .i64 x) ∧ w'.cell? ⟨m, 0, none⟩ = some (.pointer (some ⟨mc, 0, none⟩)) ∧ w'.cell? ⟨ab, ao, none⟩ = some (.int .i64 v))
    (((try go_split_ands); refine ⟨?_, ?_, ?_, ?_, ?_⟩; (focus (first | (with_reducible assumption) | (simp [go_sem, *]; done))); (focus (first | (with_reducible assumption) | (simp [go_sem, *]; done))); (focus (first | (with_reducible assumption) | (simp [go_sem, *]; done))); (focus (first | (with_reducible assumption) | (simp [go_sem, *]; done))); (focus (first | (with_reducible assumption) | (simp [go_sem, *]; done)))))
    (first | (go_at_call 93; (apply Calls.mono; focus (exact C.out 1)); rintro e w1 ⟨rfl, hw1⟩; have H1 := hide hw1; have t01 := cell_stay t0 (hw1.heap _ (Ne.symm n6)); have t21 := cell_stay t2 (hw1.heap _ (Ne.symm n7)); have m01 := cell_stay m0 (hw1.heap _ (Ne.symm n8)); have ca1 := cell_stay ha (hw1.heap _ (Ne.symm n5)); have t11 := cell_stay t1 (hw1.heap _ (Ne.symm n4)); have hu1 := cell_stay hu (hw1.heap _ (Ne.symm n5)); have hf1 := fro_stay hf (hw1.heap _ (Ne.symm n5)); clear hw1))
  all_goals
    obtain ⟨W, hW⟩ : ∃ W, W = w1.setCell ⟨ab, ao + 1, none⟩ (.bool true) := ⟨_, rfl⟩
    rw [← hW]
    have hw : Wr1 w1 ab (ao + 1) (.bool true) W := by rw [hW]; exact Wr1.mk0 (by rw [hu1]; rfl)
    have t1 := cell_stay t11 (hw.heap _ (Ne.symm n2))
    have ca := hw.at_
    have HWW := hide hw
    clear hW hw
    go_wp2
    go_ret
    exact ⟨rfl, w1, H1.out, HWW.out⟩
set_option maxRecDepth 100000 in
set_option maxHeartbeats 1000000 in
theorem raise_miss (bm ba bx m mc ab ao : Nat) (x v s : Int) (w : World) (hT : RaiseT w bm ba bx m ab ao x) (hm : MarkIs w m mc v) (ha : w.cell? ⟨ab, ao, none⟩ = some (.int .i64 s)) (hy : (w.cell? ⟨ab, ao + 1, none⟩).isSome = true) (hf : w.frozen? ⟨ab, ao + 1, none⟩ = false) (n2 : ab ≠ ba) (n9 : ab ≠ bm) (n10 : ab ≠ bx) (n11 : ab ≠ m) (hne : ¬ v = s) :
    Calls Try.prog 92 #[.pointer (some ⟨bm, 0, none⟩), .pointer (some ⟨ba, 0, none⟩), .pointer (some ⟨bx, 0, none⟩)] w fun e w' => e = .returned (.bool false) ∧ Wr1 w ab (ao + 1) (.bool false) w' := by
  have t0 := hT.m
  have t1 := hT.a
  have t2 := hT.x
  have m0 := hm.c
  obtain ⟨u, hu⟩ := Option.isSome_iff_exists.1 hy
  have C := hide (show ∀ nq, Calls Try.prog 93 #[.pointer (some ⟨mc, 0, none⟩), .int .i64 s, .int .i64 x] (w.drewN nq) fun e w' => e = .returned (.bool false) ∧ Sm w w' from fun nq => (Cas_miss mc 0 v s x (w.drewN nq) hm.v hm.f hne).mono fun e w' q => ⟨q.1, by rw [← q.2]; exact Sm.drewN w nq⟩)
  clear hT hm hy hne
  go_enter Try.func92, Try.ntmps92
  go_wp2_with fail
  have q1 := Ne.symm n2
  have q2 := Ne.symm n9
  have q3 := Ne.symm n10
  have q4 := Ne.symm n11
  go_region_held3 (fun w' => w'.cell? ⟨bm, 0, none⟩ = some (.pointer (some ⟨m, 0, none⟩)) ∧ w'.cell? ⟨ba, 0, none⟩ = some (.pointer (some ⟨ab, ao, none⟩)) ∧ w'.cell? ⟨bx, 0, none⟩ = some (.int .i64 x) ∧ w'.cell? ⟨m, 0, none⟩ = some (.pointer (some ⟨mc, 0, none⟩)) ∧ w'.cell? ⟨ab, ao, none⟩ = some (.int .i64 s))
    (((try go_split_ands); refine ⟨?_, ?_, ?_, ?_, ?_⟩; (focus (first | (with_reducible assumption) | (simp [go_sem, *]; done))); (focus (first | (with_reducible assumption) | (simp [go_sem, *]; done))); (focus (first | (with_reducible assumption) | (simp [go_sem, *]; done))); (focus (first | (with_reducible assumption) | (simp [go_sem, *]; done))); (focus (first | (with_reducible assumption) | (simp [go_sem, *]; done)))))
    (first | (go_at_call 93; (apply Calls.mono; focus (exact C.out 1)); rintro e w1 ⟨rfl, hw1⟩; have H1 := hide hw1; have t01 := cell_stay t0 (hw1.blk _); have t21 := cell_stay t2 (hw1.blk _); have m01 := cell_stay m0 (hw1.blk _); have ca1 := cell_stay ha (hw1.blk _); have t11 := cell_stay t1 (hw1.blk _); have hu1 := cell_stay hu (hw1.blk _); have hf1 := fro_stay hf (hw1.blk _); clear hw1))
  all_goals
    obtain ⟨W, hW⟩ : ∃ W, W = w1.setCell ⟨ab, ao + 1, none⟩ (.bool false) := ⟨_, rfl⟩
    rw [← hW]
    have hw : Wr1 w1 ab (ao + 1) (.bool false) W := by rw [hW]; exact Wr1.mk0 (by rw [hu1]; rfl)
    have t1 := cell_stay t11 (hw.heap _ (Ne.symm n2))
    have ca := hw.at_
    have HWW := hide hw
    clear hW hw
    go_wp2
    go_ret
    exact ⟨rfl, H1.out.wr HWW.out⟩
/-- a taking's boxes: the tickets', what was seen, the answer's -/
structure TakeT (w : World) (bt bs ba t ab ao : Nat) (s : Int) : Prop where
  t : w.cell? ⟨bt, 0, none⟩ = some (.pointer (some ⟨t, 0, none⟩))
  s : w.cell? ⟨bs, 0, none⟩ = some (.int .i64 s)
  sf : w.frozen? ⟨bs, 0, none⟩ = false
  a : w.cell? ⟨ba, 0, none⟩ = some (.pointer (some ⟨ab, ao, none⟩))
theorem TakeT.stays {w w' : World} {bt bs ba t ab ao : Nat} {s : Int} (h : TakeT w bt bs ba t ab ao s) (h1 : w'.heap[bt]? = w.heap[bt]?) (h2 : w'.heap[bs]? = w.heap[bs]?) (h3 : w'.heap[ba]? = w.heap[ba]?) : TakeT w' bt bs ba t ab ao s := ⟨cell_stay h.t h1, cell_stay h.s h2, fro_stay h.sf h2, cell_stay h.a h3⟩
def takeV (bt bs ba : Nat) : Value := .agg #[.func (.func 94) #[] #[.pointer (some ⟨bt, 0, none⟩), .pointer (some ⟨bs, 0, none⟩)], .func (.func 95) #[] #[.pointer (some ⟨bt, 0, none⟩), .pointer (some ⟨bs, 0, none⟩), .pointer (some ⟨ba, 0, none⟩)]]
theorem take_c (t ab ao : Nat) (w : World) : Calls Try.prog 56 #[.pointer (some ⟨t, 0, none⟩), .pointer (some ⟨ab, ao, none⟩)] w fun e w' => e = .returned (takeV w.heap.size (w.heap.size + 3) (w.heap.size + 1)) ∧ TakeT w' w.heap.size (w.heap.size + 3) (w.heap.size + 1) t ab ao 0 ∧ Below w.heap.size w w' := by
  go_enter Try.func56, Try.ntmps56
  go_wp2
  refine bodyPost_ret (v := takeV w.heap.size (w.heap.size + 3) (w.heap.size + 1)) (by simp [results, Try.f56, go_sem, takeV]) rfl ⟨rfl, ⟨by simp [go_sem], by simp [go_sem], by simp [go_sem], by simp [go_sem]⟩, by (focus repeat' (first | (with_reducible exact Below.refl _ _) | (with_reducible assumption) | (with_reducible refine Below.alloc ?_ ?_ _) | (with_reducible refine Below.drew ?_) | (with_reducible refine bdrewN ?_ _) | (with_reducible refine Below.setCell ?_ ?_ _) | (first | (with_reducible exact Nat.le_refl _) | (with_reducible assumption) | omega | (simp; omega) | (simp; done))))⟩
set_option maxRecDepth 100000 in
set_option maxHeartbeats 1000000 in
theorem take_look (bt bs ba t tn ab ao : Nat) (s many nx : Int) (w : World) (hT : TakeT w bt bs ba t ab ao s) (hm : TickIs w t tn many nx) (n1 : bs ≠ bt) (n2 : bs ≠ t) :
    Calls Try.prog 94 #[.pointer (some ⟨bt, 0, none⟩), .pointer (some ⟨bs, 0, none⟩)] w fun e w' => e = .returned (.bool (decide (many ≤ nx))) ∧ Wr1 w bs 0 (.int .i64 nx) w' := by
  have t0 := hT.t
  have t1 := hT.s
  have f1 := hT.sf
  have m0 := hm.c
  have m1 := hm.m
  have C := hide (Load_i tn 0 nx w hm.v)
  have HW := hide (Wr1.mk0 (u := .int .i64 nx) (by rw [hT.s]; rfl : (w.cell? ⟨bs, 0, none⟩).isSome = true))
  clear hT hm
  go_enter Try.func94, Try.ntmps94
  go_wp2_with fail
  refine C.out.mono ?_
  rintro e w1 ⟨rfl, rfl⟩
  go_upto_region 2 with fail
  obtain ⟨W, hW⟩ : ∃ W, W = w.setCell ⟨bs, 0, none⟩ (.int .i64 nx) := ⟨_, rfl⟩
  rw [← hW]
  have hw := HW.out
  rw [← hW] at hw
  have t0 := cell_stay t0 (hw.heap _ (Ne.symm n1))
  have m1 := cell_stay m1 (hw.heap _ (Ne.symm n2))
  have ca := hw.at_
  have HWW := hide hw
  clear hW hw
  go_quiet (fail)
  go_wp2
  go_ret
  exact ⟨rfl, HWW.out.drew _⟩
set_option maxRecDepth 100000 in
set_option maxHeartbeats 1000000 in
theorem take_hit (bt bs ba t tn ab ao : Nat) (many nx : Int) (w : World) (hT : TakeT w bt bs ba t ab ao nx) (hm : TickIs w t tn many nx) (hx : -9223372036854775808 ≤ nx + 1 ∧ nx + 1 ≤ 9223372036854775807) (hy : (w.cell? ⟨ab, ao + 1, none⟩).isSome = true) (ha : (w.cell? ⟨ab, ao, none⟩).isSome = true) (hf : ∀ o, w.frozen? ⟨ab, o, none⟩ = false)
    (n1 : ab ≠ ba) (n2 : ab ≠ bs) (n3 : tn ≠ ba) (n4 : tn ≠ bs) (n5 : tn ≠ ab) (n6 : tn ≠ bt) (n7 : tn ≠ t) (n8 : ab ≠ bt) (n9 : ab ≠ t) :
    Calls Try.prog 95 #[.pointer (some ⟨bt, 0, none⟩), .pointer (some ⟨bs, 0, none⟩), .pointer (some ⟨ba, 0, none⟩)] w fun e w' => e = .returned (.bool true) ∧ ∃ w1, Wr2 w tn 0 (.int .i64 (nx + 1)) ab (ao + 1) (.bool true) w1 ∧ Wr1 w1 ab ao (.int .i64 nx) w' := by
  have t0 := hT.t
  have t1 := hT.s
  have t2 := hT.a
  have m0 := hm.c
  obtain ⟨u, hu⟩ := Option.isSome_iff_exists.1 hy
  obtain ⟨u2, hu2⟩ := Option.isSome_iff_exists.1 ha
  have HF := hide hf
  have hf1 := hf (ao + 1)
  have e1 : IntKind.i64.wrap (nx + 1) = nx + 1 := IntWalk.i64_in _ hx
  have e2 : wrap64 (nx + 1) = nx + 1 := IntWalk.wrap64_in _ hx
  have C := hide (show ∀ nq, Calls Try.prog 93 #[.pointer (some ⟨tn, 0, none⟩), .int .i64 nx, .int .i64 (nx + 1)] (w.drewN nq) fun e w' => e = .returned (.bool true) ∧ Wr1 w tn 0 (.int .i64 (nx + 1)) w' from fun nq => (Cas_hit tn 0 nx (nx + 1) (w.drewN nq) hm.v hm.f).mono fun e w' q => ⟨q.1, by rw [q.2]; exact Wr1.mk' (by rw [hm.v]; rfl)⟩)
  clear hT hm hx hy hf ha
  go_enter Try.func95, Try.ntmps95
  go_wp2_with fail
  have q1 := Ne.symm n1
  have q2 := Ne.symm n2
  have q3 := Ne.symm n8
  have q4 := Ne.symm n9
  go_region_held3 (fun w' => w'.cell? ⟨bt, 0, none⟩ = some (.pointer (some ⟨t, 0, none⟩)) ∧ w'.cell? ⟨bs, 0, none⟩ = some (.int .i64 nx) ∧ w'.cell? ⟨ba, 0, none⟩ = some (.pointer (some ⟨ab, ao, none⟩)) ∧ w'.cell? ⟨t, 1, none⟩ = some (.pointer (some ⟨tn, 0, none⟩)))
    (((try go_split_ands); refine ⟨?_, ?_, ?_, ?_⟩; (focus (first | (with_reducible assumption) | (simp [go_sem, *]; done))); (focus (first | (with_reducible assumption) | (simp [go_sem, *]; done))); (focus (first | (with_reducible assumption) | (simp [go_sem, *]; done))); (focus (first | (with_reducible assumption) | (simp [go_sem, *]; done)))))
    (first | (go_at_call 93; (apply Calls.mono; focus (exact C.out 1)); rintro e w1 ⟨rfl, hw1⟩; have H1 := hide hw1; have t01 := cell_stay t0 (hw1.heap _ (Ne.symm n6)); have m01 := cell_stay m0 (hw1.heap _ (Ne.symm n7)); have t11 := cell_stay t1 (hw1.heap _ (Ne.symm n4)); have t21 := cell_stay t2 (hw1.heap _ (Ne.symm n3)); have hu1 := cell_stay hu (hw1.heap _ (Ne.symm n5)); have hu3 := cell_stay hu2 (hw1.heap _ (Ne.symm n5)); have hf11 := fro_stay hf1 (hw1.heap _ (Ne.symm n5)); clear hw1))
  all_goals
    obtain ⟨W, hW⟩ : ∃ W, W = w1.setCell ⟨ab, ao + 1, none⟩ (.bool true) := ⟨_, rfl⟩
    rw [← hW]
    have hw : Wr1 w1 ab (ao + 1) (.bool true) W := by rw [hW]; exact Wr1.mk0 (by rw [hu1]; rfl)
    have t1 := cell_stay t11 (hw.heap _ (Ne.symm n2))
    have t2 := cell_stay t21 (hw.heap _ (Ne.symm n1))
    have ca := hw.at_
    have cb : W.cell? ⟨ab, ao, none⟩ = some u2 := (hw.oth ao (by omega)).trans hu3
    have fb : W.frozen? ⟨ab, ao, none⟩ = false := (hw.fro ao).trans (fro_stay (HF.out ao) (H1.out.heap _ (Ne.symm n5)))
    have HWW := hide hw
    clear hW hw
    go_upto_region 4 with fail
    obtain ⟨V, hV⟩ : ∃ V, V = W.setCell ⟨ab, ao, none⟩ (.int .i64 nx) := ⟨_, rfl⟩
    rw [← hV]
    have hv : Wr1 W ab ao (.int .i64 nx) V := by rw [hV]; exact Wr1.mk0 (by rw [cb]; rfl)
    have t2 := cell_stay t2 (hv.heap _ (Ne.symm n1))
    have ca := (hv.oth (ao + 1) (by omega)).trans ca
    have HVV := hide hv
    clear hV hv
    go_wp2
    go_ret
    exact ⟨rfl, W, ⟨w1, H1.out, HWW.out⟩, HVV.out⟩
set_option maxRecDepth 100000 in
set_option maxHeartbeats 1000000 in
theorem take_miss (bt bs ba t tn ab ao : Nat) (many nx s : Int) (w : World) (hT : TakeT w bt bs ba t ab ao s) (hm : TickIs w t tn many nx) (hx : -9223372036854775808 ≤ s + 1 ∧ s + 1 ≤ 9223372036854775807) (hy : (w.cell? ⟨ab, ao + 1, none⟩).isSome = true) (hf : ∀ o, w.frozen? ⟨ab, o, none⟩ = false) (n1 : ab ≠ ba) (n2 : ab ≠ bs) (n8 : ab ≠ bt) (n9 : ab ≠ t) (hne : ¬ nx = s) :
    Calls Try.prog 95 #[.pointer (some ⟨bt, 0, none⟩), .pointer (some ⟨bs, 0, none⟩), .pointer (some ⟨ba, 0, none⟩)] w fun e w' => e = .returned (.bool false) ∧ Wr1 w ab (ao + 1) (.bool false) w' := by
  have t0 := hT.t
  have t1 := hT.s
  have t2 := hT.a
  have m0 := hm.c
  obtain ⟨u, hu⟩ := Option.isSome_iff_exists.1 hy
  have hf1 := hf (ao + 1)
  have e1 : IntKind.i64.wrap (s + 1) = s + 1 := IntWalk.i64_in _ hx
  have e2 : wrap64 (s + 1) = s + 1 := IntWalk.wrap64_in _ hx
  have C := hide (show ∀ nq, Calls Try.prog 93 #[.pointer (some ⟨tn, 0, none⟩), .int .i64 s, .int .i64 (s + 1)] (w.drewN nq) fun e w' => e = .returned (.bool false) ∧ Sm w w' from fun nq => (Cas_miss tn 0 nx s (s + 1) (w.drewN nq) hm.v hm.f hne).mono fun e w' q => ⟨q.1, by rw [← q.2]; exact Sm.drewN w nq⟩)
  clear hT hm hx hy hf hne
  go_enter Try.func95, Try.ntmps95
  go_wp2_with fail
  have q1 := Ne.symm n1
  have q2 := Ne.symm n2
  have q3 := Ne.symm n8
  have q4 := Ne.symm n9
  go_region_held3 (fun w' => w'.cell? ⟨bt, 0, none⟩ = some (.pointer (some ⟨t, 0, none⟩)) ∧ w'.cell? ⟨bs, 0, none⟩ = some (.int .i64 s) ∧ w'.cell? ⟨ba, 0, none⟩ = some (.pointer (some ⟨ab, ao, none⟩)) ∧ w'.cell? ⟨t, 1, none⟩ = some (.pointer (some ⟨tn, 0, none⟩)))
    (((try go_split_ands); refine ⟨?_, ?_, ?_, ?_⟩; (focus (first | (with_reducible assumption) | (simp [go_sem, *]; done))); (focus (first | (with_reducible assumption) | (simp [go_sem, *]; done))); (focus (first | (with_reducible assumption) | (simp [go_sem, *]; done))); (focus (first | (with_reducible assumption) | (simp [go_sem, *]; done)))))
    (first | (go_at_call 93; (apply Calls.mono; focus (exact C.out 1)); rintro e w1 ⟨rfl, hw1⟩; have H1 := hide hw1; have t01 := cell_stay t0 (hw1.blk _); have m01 := cell_stay m0 (hw1.blk _); have t11 := cell_stay t1 (hw1.blk _); have t21 := cell_stay t2 (hw1.blk _); have hu1 := cell_stay hu (hw1.blk _); have hf11 := fro_stay hf1 (hw1.blk _); clear hw1))
  all_goals
    obtain ⟨W, hW⟩ : ∃ W, W = w1.setCell ⟨ab, ao + 1, none⟩ (.bool false) := ⟨_, rfl⟩
    rw [← hW]
    have hw : Wr1 w1 ab (ao + 1) (.bool false) W := by rw [hW]; exact Wr1.mk0 (by rw [hu1]; rfl)
    have t1 := cell_stay t11 (hw.heap _ (Ne.symm n2))
    have t2 := cell_stay t21 (hw.heap _ (Ne.symm n1))
    have ca := hw.at_
    have HWW := hide hw
    clear hW hw
    go_wp2
    go_ret
    exact ⟨rfl, H1.out.wr HWW.out⟩
end Go.Proofs.Ytimabgakemgldaa
