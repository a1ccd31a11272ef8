import Derived.Test.YtimabgakemgldaaT22
import Derived.Test.YtimabgakemgldaaT18
import Derived.Laws.LoneSync
import Derived.WalkKit
import Derived.StillTailTactics
import Derived.Deep.RegionLaw
import Derived.Deep.RegionHeld3
import Derived.Laws.OwnMore
import Derived.Deep.Matrix
import Derived.BigQuiet
import Derived.Deep.MidRow
import Derived.Deep.QuietTactic
import Derived.Laws.EntriesVeiled
namespace Go.Proofs.Ytimabgakemgldaa
open Go.ChangeShapes Go.WideShapes Go.ChangeAt Go.RowKit Go.Deep
set_option linter.unusedSimpArgs false
set_option linter.unusedVariables false

/-- a box of eight cells -/
def Has8 (w : World) (n : Nat) : Prop := ∀ o, o < 8 → (w.cell? ⟨n, o, none⟩).isSome = true ∧ w.frozen? ⟨n, o, none⟩ = false
theorem Has8.stays {w w' : World} {n : Nat} (h : Has8 w n) (hb : w'.heap[n]? = w.heap[n]?) : Has8 w' n := fun o ho => by
  obtain ⟨u, hu⟩ := Option.isSome_iff_exists.1 (h o ho).1
  exact ⟨by rw [cell_stay hu hb]; rfl, fro_stay (h o ho).2 hb⟩
theorem Has8.lt {w : World} {n : Nat} (h : Has8 w n) : n < w.heap.size := by
  obtain ⟨u, hu⟩ := Option.isSome_iff_exists.1 (h 0 (by decide)).1
  exact World.block_lt_of_cell? w _ hu
theorem Has8.below {w w' : World} {n : Nat} (h : Has8 w n) (hb : Below w.heap.size w w') : Has8 w' n := h.stays (hb.block n h.lt)
theorem Has8.drewN {w : World} {n : Nat} (h : Has8 w n) (k : Nat) : Has8 (w.drewN k) n := h.stays rfl
theorem Has8.drew {w : World} {n : Nat} (h : Has8 w n) : Has8 w.drew n := h.stays rfl
theorem Has8.set {w : World} {n : Nat} (h : Has8 w n) (b o : Nat) (u : Value) : Has8 (w.setCell ⟨b, o, none⟩ u) n := fun p hp => by
  obtain ⟨v, hv⟩ := Option.isSome_iff_exists.1 (h p hp).1
  refine ⟨?_, (World.frozen?_setCell _ _ _ _).trans (h p hp).2⟩
  by_cases e : n = b
  · subst e
    by_cases e2 : p = o
    · subst e2
      rw [World.cell?_setCell_same' _ _ _ (by rw [hv]; rfl)]; rfl
    · rw [cell_ne e2, hv]; rfl
  · rw [cell_stay hv (heap_setCell_other _ _ _ _ e)]; rfl
theorem cell_ob {w : World} {b b' : Nat} (h : b' ≠ b) (o p : Nat) (u : Value) : (w.setCell ⟨b, o, none⟩ u).cell? ⟨b', p, none⟩ = w.cell? ⟨b', p, none⟩ := World.cell?_of_block (a := ⟨b', p, none⟩) (heap_setCell_other _ _ _ _ h)
theorem info63 : (Try.prog.info? 63).map (·.size) = some 8 := by kernel_rfl
theorem store8 {w : World} {n : Nat} (h : Has8 w n) (cs : Array Value) (hs : cs.size = 8) (h1 : cs.all (·.oneCell') = true) : (Instr.storeAt 63 (.pointer (some ⟨n, 0, none⟩)) (.agg cs)).run Try.prog w = .ok () (w.setCells n 0 cs.toList) :=
  run_storeAt_mid w n 0 63 cs (fun j hj => by rw [Nat.zero_add]; exact h j (by omega)) (by rw [hs]; exact info63) h1
theorem store8e (A : Ab) {w : World} {n : Nat} (h : Has8 w n) : (Instr.storeAt 63 (.pointer (some ⟨n, 0, none⟩)) (.agg #[.int .i64 (sumI A.S), .int .i64 A.mark, .int .i64 (bWho A.bs), .int .i64 (bX A.bs), .bool A.bs.isSome, .int .i64 A.ar, .bool (decide (A.gt ≤ A.ar)), .int .i64 A.tk])).run Try.prog w = .ok () (w.setCells n 0 [.int .i64 (sumI A.S), .int .i64 A.mark, .int .i64 (bWho A.bs), .int .i64 (bX A.bs), .bool A.bs.isSome, .int .i64 A.ar, .bool (decide (A.gt ≤ A.ar)), .int .i64 A.tk]) := store8 h #[.int .i64 (sumI A.S), .int .i64 A.mark, .int .i64 (bWho A.bs), .int .i64 (bX A.bs), .bool A.bs.isSome, .int .i64 A.ar, .bool (decide (A.gt ≤ A.ar)), .int .i64 A.tk] rfl (by simp [Value.oneCell'])
theorem Has8.sets {n b : Nat} : ∀ (l : List Value) (w : World) (o : Nat), Has8 w n → Has8 (w.setCells b o l) n
  | [], w, o, h => h
  | v :: l, w, o, h => Has8.sets l _ _ (h.set b o v)
theorem cells_ob {b b' : Nat} (h : b' ≠ b) (p : Nat) : ∀ (l : List Value) (w : World) (o : Nat), (w.setCells b o l).cell? ⟨b', p, none⟩ = w.cell? ⟨b', p, none⟩
  | [], _, _ => rfl
  | v :: l, w, o => (cells_ob h p l _ _).trans (cell_ob h o p v)
theorem below_set {B b : Nat} {w0 w : World} (hb : B ≤ b) (h : Below B w0 w) (o : Nat) (u : Value) : Below B w0 (w.setCell ⟨b, o, none⟩ u) := h.setCell (p := ⟨b, o, none⟩) hb u
theorem below_sets {B b : Nat} {w0 : World} (hb : B ≤ b) : ∀ (l : List Value) (w : World) (o : Nat), Below B w0 w → Below B w0 (w.setCells b o l)
  | [], _, _, h => h
  | v :: l, w, o, h => below_sets hb l _ _ (h.setCell (p := ⟨b, o, none⟩) hb v)
theorem cell_dr (w : World) (a : Addr) : w.drew.cell? a = w.cell? a := rfl
theorem cell_drN (w : World) (n : Nat) (a : Addr) : (w.drewN n).cell? a = w.cell? a := rfl
/-- what a call that makes blocks alone leaves -/
structure Lv (w : World) (n : Nat) (V w' : World) : Prop where
  b : Below w.heap.size w w'
  h : Has8 w' n
theorem Lv.of {w V w' : World} {n : Nat} (hb : Below w.heap.size w V) (h : Has8 V n) (k : Below V.heap.size V w') : Lv w n V w' := ⟨hb.trans (k.mono hb.size), h.below k⟩
theorem Lv.refl {w V : World} {n : Nat} (hb : Below w.heap.size w V) (h : Has8 V n) (k : Nat) : Lv w n V (V.drewN k) := .of hb h (bdrewN (Below.refl _ _) k)
set_option maxRecDepth 100000 in
set_option maxHeartbeats 20000000 in
theorem Stands_c (wp : Nat) (L : Nat → Nat) (po : Option Addr) (A : Ab) (w : World) (h : CObj w L po A) (hL : LW w wp L) (hS : A.S.length ≤ 64) (hg : 1 ≤ A.gt) (ht : 0 ≤ A.tk) (ht2 : A.tk ≤ A.tt) (ht3 : A.tt ≤ 9223372036854775807) : Calls Try.prog 19 #[.pointer (some ⟨wp, 0, none⟩), .int .i64 A.tt] w fun e w' => e = .returned (endV A) ∧ Below w.heap.size w w' := by
  obtain ⟨W, hW⟩ : ∃ W, W = w.alloc (.cells #[.int .i64 0, .int .i64 0, .int .i64 0, .int .i64 0, .bool false, .int .i64 0, .bool false, .int .i64 0] 63) := ⟨_, rfl⟩
  have hb : Below w.heap.size w W := by rw [hW]; (focus repeat' (first | (with_reducible exact Below.refl _ _) | (with_reducible assumption) | (with_reducible refine Below.alloc ?_ ?_ _) | (with_reducible refine Below.drew ?_) | (with_reducible refine bdrewN ?_ _) | (with_reducible refine Below.setCell ?_ ?_ _) | (first | (with_reducible exact Nat.le_refl _) | (with_reducible assumption) | omega | (simp; omega) | (simp; done))))
  have h8 : Has8 W w.heap.size := by intro o ho; rw [hW]; exact ⟨by simp [go_sem]; omega, by simp [go_sem]⟩
  have HL := hide hL
  have lw := hL.lt
  have C31 := hide (show ∀ V, Below w.heap.size w V → Has8 V w.heap.size → Calls Try.prog 31 #[.pointer (some ⟨L 4, 0, none⟩)] V fun e w' => e = .returned (.int .i64 (sumI A.S)) ∧ Lv w w.heap.size V w' from fun V hV hh => (Sum_c _ _ A.S V (h.below hV).cnt hS).mono fun e w' q => ⟨q.1, .of hV hh q.2⟩)
  have C38 := hide (show ∀ V, Below w.heap.size w V → Has8 V w.heap.size → Calls Try.prog 38 #[.pointer (some ⟨L 0, 0, none⟩)] V fun e w' => e = .returned (.int .i64 A.mark) ∧ Lv w w.heap.size V w' from fun V hV hh => ((h.below hV).mark.get).mono fun e w' q => ⟨q.1, by rw [← q.2]; exact ⟨hV, hh⟩⟩)
  have C39 := hide (show ∀ V, Below w.heap.size w V → Has8 V w.heap.size → Calls Try.prog 39 #[.pointer (some ⟨L 6, 0, none⟩)] V fun e w' => e = .returned (.int .i64 A.ar) ∧ Lv w w.heap.size V w' from fun V hV hh => ((h.below hV).gate.arrived hg).mono fun e w' q => ⟨q.1, by rw [← q.2]; exact ⟨hV, hh⟩⟩)
  have C40 := hide (show ∀ V, Below w.heap.size w V → Has8 V w.heap.size → Calls Try.prog 40 #[.pointer (some ⟨L 6, 0, none⟩)] V fun e w' => e = .returned (.bool (decide (A.gt ≤ A.ar))) ∧ Lv w w.heap.size V w' from fun V hV hh => ((h.below hV).gate.isOpen hg).mono fun e w' q => ⟨q.1, by obtain ⟨k, q2⟩ := q.2; rw [q2]; exact .refl hV hh k⟩)
  have C41 := hide (show ∀ V, Below w.heap.size w V → Has8 V w.heap.size → Calls Try.prog 41 #[.pointer (some ⟨L 7, 0, none⟩)] V fun e w' => e = .returned (.int .i64 (A.tt - A.tk)) ∧ Lv w w.heap.size V w' from fun V hV hh => ((h.below hV).tick.left).mono fun e w' q => ⟨by rw [q.1, IntWalk.wrap64_in _ (by omega)], by obtain ⟨k, q2⟩ := q.2; rw [q2]; exact .refl hV hh k⟩)
  have C37 := hide (show Calls Try.prog 37 #[.pointer (some ⟨L 2, 0, none⟩)] W fun e w' => e = .returned (.tuple #[.int .i64 (bWho A.bs), .int .i64 (bX A.bs), .bool A.bs.isSome]) ∧ Lv w w.heap.size W w' from ((h.below hb).best.get).mono fun e w' q => ⟨by rw [q.1]; cases A.bs <;> rfl, by obtain ⟨k, q2⟩ := q.2; rw [q2]; exact .refl hb h8 k⟩)
  have e0 : A.tt - (A.tt - A.tk) = A.tk := by omega
  have e1 : wrap64 (A.tt - (A.tt - A.tk)) = A.tk := by rw [e0]; exact IntWalk.wrap64_in _ (by omega)
  have e2 : IntKind.i64.wrap (A.tt - (A.tt - A.tk)) = A.tk := by rw [e0]; exact IntWalk.i64_in _ (by omega)
  have e3 : wrap64 A.tk = A.tk := IntWalk.wrap64_in _ (by omega)
  have e4 : IntKind.i64.wrap A.tk = A.tk := IntWalk.i64_in _ (by omega)
  have c2 := (hL.stays (hb.block _ lw)).c2
  have HW := hide hW
  have HB := hide hb
  have H8 := hide h8
  have hL0 := fun {V : World} (hb : Below w.heap.size w V) => hL.stays (hb.block _ lw)
  clear h hL hW hb h8 hS hg ht ht2 ht3
  have nwp : wp ≠ w.heap.size := by omega
  clear e0 HB H8
  go_enter Try.func19, Try.ntmps19
  go_upto_region 1 with fail
  rw [← HW.out]
  go_wp2_with fail
  refine C37.out.mono ?_
  rintro e w0 ⟨rfl, h0⟩
  have L0 := hL0 h0.b
  have H0 := hide h0
  have hB0 := h0.b
  have hH0 := h0.h
  have c0 := L0.c0
  have c1 := L0.c1
  have c3 := L0.c3
  have c4 := L0.c4
  clear h0 L0 c2
  go_wp2_with fail
  go_region_held3 (fun w' => Below w.heap.size w w' ∧ Has8 w' w.heap.size ∧ w'.cell? ⟨wp, 0, none⟩ = some (.pointer (some ⟨L 4, 0, none⟩)) ∧ w'.cell? ⟨wp, 1, none⟩ = some (.pointer (some ⟨L 0, 0, none⟩)) ∧ w'.cell? ⟨wp, 3, none⟩ = some (.pointer (some ⟨L 6, 0, none⟩)) ∧ w'.cell? ⟨wp, 4, none⟩ = some (.pointer (some ⟨L 7, 0, none⟩)))
    (((try go_split_ands); refine ⟨?_, ?_, ?_, ?_, ?_, ?_⟩; (focus ((repeat (first | with_reducible refine Below.drew ?_ | with_reducible refine below_set (Nat.le_refl _) ?_ _ _ | with_reducible refine bdrewN ?_ _)); with_reducible assumption)); (focus ((repeat (first | with_reducible refine Has8.drew ?_ | with_reducible refine Has8.set ?_ _ _ _ | with_reducible refine Has8.drewN ?_ _)); with_reducible assumption)); (focus ((repeat (first | with_reducible refine (cell_ob nwp _ _ _).trans ?_ | with_reducible refine (cell_dr _ _).trans ?_ | with_reducible refine (cell_drN _ _ _).trans ?_)); with_reducible assumption)); (focus ((repeat (first | with_reducible refine (cell_ob nwp _ _ _).trans ?_ | with_reducible refine (cell_dr _ _).trans ?_ | with_reducible refine (cell_drN _ _ _).trans ?_)); with_reducible assumption)); (focus ((repeat (first | with_reducible refine (cell_ob nwp _ _ _).trans ?_ | with_reducible refine (cell_dr _ _).trans ?_ | with_reducible refine (cell_drN _ _ _).trans ?_)); with_reducible assumption)); (focus ((repeat (first | with_reducible refine (cell_ob nwp _ _ _).trans ?_ | with_reducible refine (cell_dr _ _).trans ?_ | with_reducible refine (cell_drN _ _ _).trans ?_)); with_reducible assumption))))
    (first | (go_at_call 31; (apply Calls.mono; focus (exact C31.out _ (by (repeat (first | with_reducible refine Below.drew ?_ | with_reducible refine bdrewN ?_ _)); with_reducible assumption) (by (repeat (first | with_reducible refine Has8.drew ?_ | with_reducible refine Has8.drewN ?_ _)); with_reducible assumption))); rintro e w31 ⟨rfl, h31⟩; have B31 := h31.b; have E31 := h31.h; have G31 := hL0 B31; have c031 := G31.c0; have c131 := G31.c1; have c331 := G31.c3; have c431 := G31.c4; clear h31 G31; clear hB0 hH0 c0 c1 c3 c4) | (go_at_call 38; (apply Calls.mono; focus (exact C38.out _ (by (repeat (first | with_reducible refine Below.drew ?_ | with_reducible refine bdrewN ?_ _)); with_reducible assumption) (by (repeat (first | with_reducible refine Has8.drew ?_ | with_reducible refine Has8.drewN ?_ _)); with_reducible assumption))); rintro e w38 ⟨rfl, h38⟩; have B38 := h38.b; have E38 := h38.h; have G38 := hL0 B38; have c038 := G38.c0; have c138 := G38.c1; have c338 := G38.c3; have c438 := G38.c4; clear h38 G38; clear B31 E31 c031 c131 c331 c431) | (go_at_call 39; (apply Calls.mono; focus (exact C39.out _ (by (repeat (first | with_reducible refine Below.drew ?_ | with_reducible refine bdrewN ?_ _)); with_reducible assumption) (by (repeat (first | with_reducible refine Has8.drew ?_ | with_reducible refine Has8.drewN ?_ _)); with_reducible assumption))); rintro e w39 ⟨rfl, h39⟩; have B39 := h39.b; have E39 := h39.h; have G39 := hL0 B39; have c039 := G39.c0; have c139 := G39.c1; have c339 := G39.c3; have c439 := G39.c4; clear h39 G39; clear B38 E38 c038 c138 c338 c438) | (go_at_call 40; (apply Calls.mono; focus (exact C40.out _ (by (repeat (first | with_reducible refine Below.drew ?_ | with_reducible refine bdrewN ?_ _)); with_reducible assumption) (by (repeat (first | with_reducible refine Has8.drew ?_ | with_reducible refine Has8.drewN ?_ _)); with_reducible assumption))); rintro e w40 ⟨rfl, h40⟩; have B40 := h40.b; have E40 := h40.h; have G40 := hL0 B40; have c040 := G40.c0; have c140 := G40.c1; have c340 := G40.c3; have c440 := G40.c4; clear h40 G40; clear B39 E39 c039 c139 c339 c439) | (go_at_call 41; (apply Calls.mono; focus (exact C41.out _ (by (repeat (first | with_reducible refine Below.drew ?_ | with_reducible refine bdrewN ?_ _)); with_reducible assumption) (by (repeat (first | with_reducible refine Has8.drew ?_ | with_reducible refine Has8.drewN ?_ _)); with_reducible assumption))); rintro e w41 ⟨rfl, h41⟩; have B41 := h41.b; have E41 := h41.h; have BK := hide B41; have G41 := hL0 B41; have c041 := G41.c0; have c141 := G41.c1; have c341 := G41.c3; have c441 := G41.c4; clear h41 G41; clear B40 E40 c040 c140 c340 c440; obtain ⟨d0, hd0⟩ := Option.isSome_iff_exists.1 (E41 0 (by decide)).1; have df0 := (E41 0 (by decide)).2; obtain ⟨d1, hd1⟩ := Option.isSome_iff_exists.1 (E41 1 (by decide)).1; have df1 := (E41 1 (by decide)).2; obtain ⟨d2, hd2⟩ := Option.isSome_iff_exists.1 (E41 2 (by decide)).1; have df2 := (E41 2 (by decide)).2; obtain ⟨d3, hd3⟩ := Option.isSome_iff_exists.1 (E41 3 (by decide)).1; have df3 := (E41 3 (by decide)).2; obtain ⟨d4, hd4⟩ := Option.isSome_iff_exists.1 (E41 4 (by decide)).1; have df4 := (E41 4 (by decide)).2; obtain ⟨d5, hd5⟩ := Option.isSome_iff_exists.1 (E41 5 (by decide)).1; have df5 := (E41 5 (by decide)).2; obtain ⟨d6, hd6⟩ := Option.isSome_iff_exists.1 (E41 6 (by decide)).1; have df6 := (E41 6 (by decide)).2; obtain ⟨d7, hd7⟩ := Option.isSome_iff_exists.1 (E41 7 (by decide)).1; have df7 := (E41 7 (by decide)).2))
  all_goals
    clear e1 e2 e3 e4 B41 E41 c041 c141 c341 c441
    go_wp2
    refine bodyPost_ret (v := endV A) (by simp [results, Try.f19, go_sem, endV, hd0, hd1, hd2, hd3, hd4, hd5, hd6, hd7]) rfl ⟨rfl, ?_⟩
    (repeat (first | with_reducible refine Below.drew ?_ | with_reducible refine below_set (Nat.le_refl _) ?_ _ _ | with_reducible refine bdrewN ?_ _))
    exact BK.out
end Go.Proofs.Ytimabgakemgldaa
