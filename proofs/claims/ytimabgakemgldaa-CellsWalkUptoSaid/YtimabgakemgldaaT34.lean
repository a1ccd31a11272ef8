import Derived.Test.YtimabgakemgldaaT33
import Derived.Test.YtimabgakemgldaaT23
import Derived.Laws.LoneSync
import Derived.WalkKit
import Derived.StillTailTactics
import Derived.Deep.RegionLaw
import Derived.Deep.RegionHeld3
import Derived.Laws.OwnMore
import Derived.Deep.Matrix
import Derived.BigQuiet
import Derived.Deep.MidRow
import Derived.Deep.QuietTactic
import Derived.Laws.EntriesVeiled
namespace Go.Proofs.Ytimabgakemgldaa
open Go.ChangeShapes Go.WideShapes Go.ChangeAt Go.RowKit Go.Deep
set_option linter.unusedSimpArgs false
set_option linter.unusedVariables false

structure Lv2 (w : World) (n : Nat) (V w' : World) : Prop where
  l : Lv w n V w'
  k : Below V.heap.size V w'
/-- eight cells -/
structure B8 (w : World) (B : Nat) (v0 v1 v2 v3 v4 v5 v6 v7 : Value) : Prop where
  c0 : w.cell? ⟨B, 0, none⟩ = some v0
  c1 : w.cell? ⟨B, 1, none⟩ = some v1
  c2 : w.cell? ⟨B, 2, none⟩ = some v2
  c3 : w.cell? ⟨B, 3, none⟩ = some v3
  c4 : w.cell? ⟨B, 4, none⟩ = some v4
  c5 : w.cell? ⟨B, 5, none⟩ = some v5
  c6 : w.cell? ⟨B, 6, none⟩ = some v6
  c7 : w.cell? ⟨B, 7, none⟩ = some v7
  f : ∀ o, o < 8 → w.frozen? ⟨B, o, none⟩ = false
theorem B8.lt {w : World} {B : Nat} {v0 v1 v2 v3 v4 v5 v6 v7 : Value} (h : B8 w B v0 v1 v2 v3 v4 v5 v6 v7) : B < w.heap.size := World.block_lt_of_cell? w _ h.c0
theorem B8.below {w w' : World} {B : Nat} {v0 v1 v2 v3 v4 v5 v6 v7 : Value} (h : B8 w B v0 v1 v2 v3 v4 v5 v6 v7) (hb : Below w.heap.size w w') : B8 w' B v0 v1 v2 v3 v4 v5 v6 v7 :=
  have k := hb.block B h.lt
  ⟨cell_stay h.c0 k, cell_stay h.c1 k, cell_stay h.c2 k, cell_stay h.c3 k, cell_stay h.c4 k, cell_stay h.c5 k, cell_stay h.c6 k, cell_stay h.c7 k, fun o ho => fro_stay (h.f o ho) k⟩
theorem set_at {w : World} {B : Nat} (h : Has8 w B) (o : Nat) (ho : o < 8) (u : Value) : (w.setCell ⟨B, o, none⟩ u).cell? ⟨B, o, none⟩ = some u := World.cell?_setCell_same' _ _ _ (h o ho).1
theorem B8.made {w : World} {B : Nat} (h : Has8 w B) (v0 v1 v2 v3 v4 v5 v6 v7 : Value) : B8 (((((((((w.setCell ⟨B, 0, none⟩ v0).setCell ⟨B, 1, none⟩ v1).setCell ⟨B, 2, none⟩ v2).setCell ⟨B, 3, none⟩ v3).setCell ⟨B, 4, none⟩ v4).setCell ⟨B, 5, none⟩ v5).setCell ⟨B, 6, none⟩ v6).setCell ⟨B, 7, none⟩ v7)) B v0 v1 v2 v3 v4 v5 v6 v7 := by
  have h1 := (h).set B 0 v0
  have h2 := (h1).set B 1 v1
  have h3 := (h2).set B 2 v2
  have h4 := (h3).set B 3 v3
  have h5 := (h4).set B 4 v4
  have h6 := (h5).set B 5 v5
  have h7 := (h6).set B 6 v6
  have h8 := (h7).set B 7 v7
  refine ⟨(cell_ne (by decide)).trans ((cell_ne (by decide)).trans ((cell_ne (by decide)).trans ((cell_ne (by decide)).trans ((cell_ne (by decide)).trans ((cell_ne (by decide)).trans ((cell_ne (by decide)).trans (set_at h 0 (by decide) v0))))))), (cell_ne (by decide)).trans ((cell_ne (by decide)).trans ((cell_ne (by decide)).trans ((cell_ne (by decide)).trans ((cell_ne (by decide)).trans ((cell_ne (by decide)).trans (set_at h1 1 (by decide) v1)))))), (cell_ne (by decide)).trans ((cell_ne (by decide)).trans ((cell_ne (by decide)).trans ((cell_ne (by decide)).trans ((cell_ne (by decide)).trans (set_at h2 2 (by decide) v2))))), (cell_ne (by decide)).trans ((cell_ne (by decide)).trans ((cell_ne (by decide)).trans ((cell_ne (by decide)).trans (set_at h3 3 (by decide) v3)))), (cell_ne (by decide)).trans ((cell_ne (by decide)).trans ((cell_ne (by decide)).trans (set_at h4 4 (by decide) v4))), (cell_ne (by decide)).trans ((cell_ne (by decide)).trans (set_at h5 5 (by decide) v5)), (cell_ne (by decide)).trans (set_at h6 6 (by decide) v6), set_at h7 7 (by decide) v7, fun o ho => (h8 o ho).2⟩
/-- the fresh box -/
def Fr8 (w : World) (n : Nat) : Prop := Has8 w n
theorem fr8_made (V : World) : Has8 (V.alloc (.cells #[.int .i64 0, .int .i64 0, .int .i64 0, .int .i64 0, .bool false, .int .i64 0, .bool false, .int .i64 0] 63)) V.heap.size := by intro o ho; exact ⟨by simp [go_sem]; omega, by simp [go_sem]⟩
theorem fr8_a {V w' : World} (h : Below (V.alloc (.cells #[.int .i64 0, .int .i64 0, .int .i64 0, .int .i64 0, .bool false, .int .i64 0, .bool false, .int .i64 0] 63)).heap.size (V.alloc (.cells #[.int .i64 0, .int .i64 0, .int .i64 0, .int .i64 0, .bool false, .int .i64 0, .bool false, .int .i64 0] 63)) w') : Fr8 w' V.heap.size := (fr8_made V).below h
theorem fr8_b {V w' : World} (h : Below (V.alloc (.cells #[.int .i64 0, .int .i64 0, .int .i64 0, .int .i64 0, .bool false, .int .i64 0, .bool false, .int .i64 0] 63)).drew.heap.size (V.alloc (.cells #[.int .i64 0, .int .i64 0, .int .i64 0, .int .i64 0, .bool false, .int .i64 0, .bool false, .int .i64 0] 63)).drew w') : Fr8 w' V.heap.size := (fr8_made V).drew.below h
theorem fr8_c {V w' : World} {n : Nat} (h : Fr8 V n) (hb : Below V.heap.size V w') : Fr8 w' n := Has8.below h hb
theorem fr8_d {V w' : World} {n : Nat} (h : Fr8 V n) (hb : Below V.drew.heap.size V.drew w') : Fr8 w' n := Has8.below (Has8.drew h) hb
theorem below_al {w0 w : World} (h : Below w0.heap.size w0 w) (o : Obj) : Below w0.heap.size w0 (w.alloc o) := h.alloc h.size o
theorem Has8.al {w : World} {n : Nat} (h : Has8 w n) (o : Obj) : Has8 (w.alloc o) n := h.below ((Below.refl _ _).alloc (Nat.le_refl _) o)
theorem cell_al {w : World} {b p : Nat} {v : Value} (h : w.cell? ⟨b, p, none⟩ = some v) (o : Obj) : (w.alloc o).cell? ⟨b, p, none⟩ = some v := cell_stay h (((Below.refl _ _).alloc (Nat.le_refl _) o).block b (World.block_lt_of_cell? w _ h))
theorem cell_dr' {w : World} {b p : Nat} {v : Value} (h : w.cell? ⟨b, p, none⟩ = some v) : w.drew.cell? ⟨b, p, none⟩ = some v := h
theorem cell_drN' {w : World} {b p : Nat} {v : Value} (h : w.cell? ⟨b, p, none⟩ = some v) (n : Nat) : (w.drewN n).cell? ⟨b, p, none⟩ = some v := h
theorem cell_st' {w : World} {b b' p : Nat} {v : Value} (h : w.cell? ⟨b', p, none⟩ = some v) (hne : b' < b) (o : Nat) (u : Value) : (w.setCell ⟨b, o, none⟩ u).cell? ⟨b', p, none⟩ = some v := (cell_ob (by omega) o p u).trans h
set_option maxRecDepth 100000 in
set_option maxHeartbeats 20000000 in
theorem End_c (wp : Nat) (L : Nat → Nat) (po : Option Addr) (A : Ab) (w : World) (h : CObj w L po A) (hL : LW w wp L) (hS : A.S.length ≤ 64) (hg : 1 ≤ A.gt) (ht : 0 ≤ A.tk) (ht2 : A.tk ≤ A.tt) (ht3 : A.tt ≤ 9223372036854775807) : Calls Try.prog 44 #[.pointer (some ⟨wp, 0, none⟩)] w fun e w' => e = .returned (endV A) ∧ Below w.heap.size w w' := by
  obtain ⟨W, hW⟩ : ∃ W, W = w.alloc (.cells #[.int .i64 0, .int .i64 0, .int .i64 0, .int .i64 0, .bool false, .int .i64 0, .bool false, .int .i64 0] 63) := ⟨_, rfl⟩
  have hb : Below w.heap.size w W := by rw [hW]; (focus repeat' (first | (with_reducible exact Below.refl _ _) | (with_reducible assumption) | (with_reducible refine Below.alloc ?_ ?_ _) | (with_reducible refine Below.drew ?_) | (with_reducible refine bdrewN ?_ _) | (with_reducible refine Below.setCell ?_ ?_ _) | (first | (with_reducible exact Nat.le_refl _) | (with_reducible assumption) | omega | (simp; omega) | (simp; done))))
  have h8 : Has8 W w.heap.size := by intro o ho; rw [hW]; exact ⟨by simp [go_sem]; omega, by simp [go_sem]⟩
  have HL := hide hL
  have lw := hL.lt
  have C31 := hide (show ∀ V, Below w.heap.size w V → Has8 V w.heap.size → Calls Try.prog 31 #[.pointer (some ⟨L 4, 0, none⟩)] V fun e w' => e = .returned (.int .i64 (sumI A.S)) ∧ Lv2 w w.heap.size V w' from fun V hV hh => (Sum_c _ _ A.S V (h.below hV).cnt hS).mono fun e w' q => ⟨q.1, ⟨.of hV hh q.2, q.2⟩⟩)
  have C38 := hide (show ∀ V, Below w.heap.size w V → Has8 V w.heap.size → Calls Try.prog 38 #[.pointer (some ⟨L 0, 0, none⟩)] V fun e w' => e = .returned (.int .i64 A.mark) ∧ Lv2 w w.heap.size V w' from fun V hV hh => ((h.below hV).mark.get).mono fun e w' q => ⟨q.1, by rw [← q.2]; exact ⟨⟨hV, hh⟩, Below.refl _ _⟩⟩)
  have C39 := hide (show ∀ V, Below w.heap.size w V → Has8 V w.heap.size → Calls Try.prog 39 #[.pointer (some ⟨L 6, 0, none⟩)] V fun e w' => e = .returned (.int .i64 A.ar) ∧ Lv2 w w.heap.size V w' from fun V hV hh => ((h.below hV).gate.arrived hg).mono fun e w' q => ⟨q.1, by rw [← q.2]; exact ⟨⟨hV, hh⟩, Below.refl _ _⟩⟩)
  have C40 := hide (show ∀ V, Below w.heap.size w V → Has8 V w.heap.size → Calls Try.prog 40 #[.pointer (some ⟨L 6, 0, none⟩)] V fun e w' => e = .returned (.bool (decide (A.gt ≤ A.ar))) ∧ Lv2 w w.heap.size V w' from fun V hV hh => ((h.below hV).gate.isOpen hg).mono fun e w' q => ⟨q.1, by obtain ⟨k, q2⟩ := q.2; rw [q2]; exact ⟨.refl hV hh k, bdrewN (Below.refl _ _) k⟩⟩)
  have C41 := hide (show ∀ V, Below w.heap.size w V → Has8 V w.heap.size → Calls Try.prog 41 #[.pointer (some ⟨L 7, 0, none⟩)] V fun e w' => e = .returned (.int .i64 (A.tt - A.tk)) ∧ Lv2 w w.heap.size V w' from fun V hV hh => ((h.below hV).tick.left).mono fun e w' q => ⟨by rw [q.1, IntWalk.wrap64_in _ (by omega)], by obtain ⟨k, q2⟩ := q.2; rw [q2]; exact ⟨.refl hV hh k, bdrewN (Below.refl _ _) k⟩⟩)
  have C37 := hide (show ∀ V, Below w.heap.size w V → Has8 V w.heap.size → Calls Try.prog 37 #[.pointer (some ⟨L 2, 0, none⟩)] V fun e w' => e = .returned (.tuple #[.int .i64 (bWho A.bs), .int .i64 (bX A.bs), .bool A.bs.isSome]) ∧ Lv2 w w.heap.size V w' from fun V hV hh => ((h.below hV).best.get).mono fun e w' q => ⟨by rw [q.1]; cases A.bs <;> rfl, by obtain ⟨k, q2⟩ := q.2; rw [q2]; exact ⟨.refl hV hh k, bdrewN (Below.refl _ _) k⟩⟩)
  have e0 : A.tt - (A.tt - A.tk) = A.tk := by omega
  have e1 : wrap64 (A.tt - (A.tt - A.tk)) = A.tk := by rw [e0]; exact IntWalk.wrap64_in _ (by omega)
  have e2 : IntKind.i64.wrap (A.tt - (A.tt - A.tk)) = A.tk := by rw [e0]; exact IntWalk.i64_in _ (by omega)
  have e3 : wrap64 A.tk = A.tk := IntWalk.wrap64_in _ (by omega)
  have e4 : IntKind.i64.wrap A.tk = A.tk := IntWalk.i64_in _ (by omega)
  have c2 := (hL.stays (hb.block _ lw)).c2
  have HW := hide hW
  have HB := hide hb
  have H8 := hide h8
  have hL0 := fun {V : World} (hb : Below w.heap.size w V) => hL.stays (hb.block _ lw)
  have ctt := h.tick.m
  have l7 := World.block_lt_of_cell? w _ ctt
  simp only at l7
  have hTT := fun {V : World} (hb : Below w.heap.size w V) => cell_stay ctt (hb.block _ l7)
  have ctt := hTT hb
  have hB0 := hb
  have zW := h8.lt
  have hH0 := h8
  have c0 := (hL0 hb).c0
  have c1 := (hL0 hb).c1
  have c3 := (hL0 hb).c3
  have c4 := (hL0 hb).c4
  clear c2
  clear h hL hW hb h8 hS hg ht ht2 ht3
  have nwp : wp ≠ w.heap.size := by omega
  clear e0 HB H8
  go_enter Try.func44, Try.ntmps44
  go_upto_region 1 with fail
  rw [← HW.out]
  go_wp2_with fail
  go_region_held3 (fun w' => Below w.heap.size w w' ∧ Has8 w' w.heap.size ∧ w'.cell? ⟨wp, 0, none⟩ = some (.pointer (some ⟨L 4, 0, none⟩)) ∧ w'.cell? ⟨wp, 1, none⟩ = some (.pointer (some ⟨L 0, 0, none⟩)) ∧ w'.cell? ⟨wp, 3, none⟩ = some (.pointer (some ⟨L 6, 0, none⟩)) ∧ w'.cell? ⟨wp, 4, none⟩ = some (.pointer (some ⟨L 7, 0, none⟩)) ∧ w'.cell? ⟨L 7, 0, none⟩ = some (.int .i64 A.tt))
    (((try go_split_ands); refine ⟨?_, ?_, ?_, ?_, ?_, ?_, ?_⟩; (focus ((repeat (first | with_reducible refine Below.drew ?_ | with_reducible refine below_al ?_ _ | with_reducible refine below_set (by first | omega | (simp; omega)) ?_ _ _ | with_reducible refine bdrewN ?_ _)); with_reducible assumption)); (focus ((repeat (first | with_reducible refine Has8.drew ?_ | with_reducible refine Has8.al ?_ _ | with_reducible refine Has8.set ?_ _ _ _ | with_reducible refine Has8.drewN ?_ _)); with_reducible assumption)); (focus ((repeat (first | with_reducible refine cell_dr' ?_ | with_reducible refine cell_al ?_ _ | with_reducible refine cell_st' ?_ (by first | omega | (simp; omega)) _ _ | with_reducible refine cell_drN' ?_ _)); with_reducible assumption)); (focus ((repeat (first | with_reducible refine cell_dr' ?_ | with_reducible refine cell_al ?_ _ | with_reducible refine cell_st' ?_ (by first | omega | (simp; omega)) _ _ | with_reducible refine cell_drN' ?_ _)); with_reducible assumption)); (focus ((repeat (first | with_reducible refine cell_dr' ?_ | with_reducible refine cell_al ?_ _ | with_reducible refine cell_st' ?_ (by first | omega | (simp; omega)) _ _ | with_reducible refine cell_drN' ?_ _)); with_reducible assumption)); (focus ((repeat (first | with_reducible refine cell_dr' ?_ | with_reducible refine cell_al ?_ _ | with_reducible refine cell_st' ?_ (by first | omega | (simp; omega)) _ _ | with_reducible refine cell_drN' ?_ _)); with_reducible assumption)); (focus ((repeat (first | with_reducible refine cell_dr' ?_ | with_reducible refine cell_al ?_ _ | with_reducible refine cell_st' ?_ (by first | omega | (simp; omega)) _ _ | with_reducible refine cell_drN' ?_ _)); with_reducible assumption))))
    (first | (go_at_call 31; (apply Calls.mono; focus (exact C31.out _ (by (repeat (first | with_reducible refine Below.drew ?_ | with_reducible refine below_al ?_ _ | with_reducible refine below_set (by first | omega | (simp; omega)) ?_ _ _ | with_reducible refine bdrewN ?_ _)); with_reducible assumption) (by (repeat (first | with_reducible refine Has8.drew ?_ | with_reducible refine Has8.al ?_ _ | with_reducible refine Has8.set ?_ _ _ _ | with_reducible refine Has8.drewN ?_ _)); with_reducible assumption))); rintro e w31 ⟨rfl, h31⟩; have B31 := h31.l.b; have E31 := h31.l.h; have z31 := E31.lt; have k31 := h31.k; (first | (have F31 := fr8_a k31) | (have F31 := fr8_b k31) | skip); have G31 := hL0 B31; have c031 := G31.c0; have c131 := G31.c1; have c331 := G31.c3; have c431 := G31.c4; have ct31 := hTT B31; clear h31 k31 G31; clear hB0 hH0 c0 c1 c3 c4 ctt) | (go_at_call 38; (apply Calls.mono; focus (exact C38.out _ (by (repeat (first | with_reducible refine Below.drew ?_ | with_reducible refine below_al ?_ _ | with_reducible refine below_set (by first | omega | (simp; omega)) ?_ _ _ | with_reducible refine bdrewN ?_ _)); with_reducible assumption) (by (repeat (first | with_reducible refine Has8.drew ?_ | with_reducible refine Has8.al ?_ _ | with_reducible refine Has8.set ?_ _ _ _ | with_reducible refine Has8.drewN ?_ _)); with_reducible assumption))); rintro e w38 ⟨rfl, h38⟩; have B38 := h38.l.b; have E38 := h38.l.h; have z38 := E38.lt; have k38 := h38.k; (first | (have F38 := fr8_a k38) | (have F38 := fr8_b k38) | (have F38 := fr8_c F31 k38) | (have F38 := fr8_d F31 k38) | skip); have G38 := hL0 B38; have c038 := G38.c0; have c138 := G38.c1; have c338 := G38.c3; have c438 := G38.c4; have ct38 := hTT B38; clear h38 k38 G38; clear B31 E31 c031 c131 c331 c431 ct31) | (go_at_call 39; (apply Calls.mono; focus (exact C39.out _ (by (repeat (first | with_reducible refine Below.drew ?_ | with_reducible refine below_al ?_ _ | with_reducible refine below_set (by first | omega | (simp; omega)) ?_ _ _ | with_reducible refine bdrewN ?_ _)); with_reducible assumption) (by (repeat (first | with_reducible refine Has8.drew ?_ | with_reducible refine Has8.al ?_ _ | with_reducible refine Has8.set ?_ _ _ _ | with_reducible refine Has8.drewN ?_ _)); with_reducible assumption))); rintro e w39 ⟨rfl, h39⟩; have B39 := h39.l.b; have E39 := h39.l.h; have z39 := E39.lt; have k39 := h39.k; (first | (have F39 := fr8_a k39) | (have F39 := fr8_b k39) | (have F39 := fr8_c F38 k39) | (have F39 := fr8_d F38 k39) | skip); have G39 := hL0 B39; have c039 := G39.c0; have c139 := G39.c1; have c339 := G39.c3; have c439 := G39.c4; have ct39 := hTT B39; clear h39 k39 G39; clear B38 E38 c038 c138 c338 c438 ct38) | (go_at_call 40; (apply Calls.mono; focus (exact C40.out _ (by (repeat (first | with_reducible refine Below.drew ?_ | with_reducible refine below_al ?_ _ | with_reducible refine below_set (by first | omega | (simp; omega)) ?_ _ _ | with_reducible refine bdrewN ?_ _)); with_reducible assumption) (by (repeat (first | with_reducible refine Has8.drew ?_ | with_reducible refine Has8.al ?_ _ | with_reducible refine Has8.set ?_ _ _ _ | with_reducible refine Has8.drewN ?_ _)); with_reducible assumption))); rintro e w40 ⟨rfl, h40⟩; have B40 := h40.l.b; have E40 := h40.l.h; have z40 := E40.lt; have k40 := h40.k; (first | (have F40 := fr8_a k40) | (have F40 := fr8_b k40) | (have F40 := fr8_c F39 k40) | (have F40 := fr8_d F39 k40) | skip); have G40 := hL0 B40; have c040 := G40.c0; have c140 := G40.c1; have c340 := G40.c3; have c440 := G40.c4; have ct40 := hTT B40; clear h40 k40 G40; clear B39 E39 c039 c139 c339 c439 ct39) | (go_at_call 41; (apply Calls.mono; focus (exact C41.out _ (by (repeat (first | with_reducible refine Below.drew ?_ | with_reducible refine below_al ?_ _ | with_reducible refine below_set (by first | omega | (simp; omega)) ?_ _ _ | with_reducible refine bdrewN ?_ _)); with_reducible assumption) (by (repeat (first | with_reducible refine Has8.drew ?_ | with_reducible refine Has8.al ?_ _ | with_reducible refine Has8.set ?_ _ _ _ | with_reducible refine Has8.drewN ?_ _)); with_reducible assumption))); rintro e w41 ⟨rfl, h41⟩; have B41 := h41.l.b; have E41 := h41.l.h; have z41 := E41.lt; have k41 := h41.k; (first | (have F41 := fr8_a k41) | (have F41 := fr8_b k41) | (have F41 := fr8_c F40 k41) | (have F41 := fr8_d F40 k41) | skip); have BK := hide B41;  have G41 := hL0 B41; have c041 := G41.c0; have c141 := G41.c1; have c341 := G41.c3; have c441 := G41.c4; have ct41 := hTT B41; clear h41 k41 G41; clear B40 E40 c040 c140 c340 c440 ct40; (first | (obtain ⟨d0, hd0⟩ := Option.isSome_iff_exists.1 (F41 0 (by decide)).1; have df0 := (F41 0 (by decide)).2; obtain ⟨d1, hd1⟩ := Option.isSome_iff_exists.1 (F41 1 (by decide)).1; have df1 := (F41 1 (by decide)).2; obtain ⟨d2, hd2⟩ := Option.isSome_iff_exists.1 (F41 2 (by decide)).1; have df2 := (F41 2 (by decide)).2; obtain ⟨d3, hd3⟩ := Option.isSome_iff_exists.1 (F41 3 (by decide)).1; have df3 := (F41 3 (by decide)).2; obtain ⟨d4, hd4⟩ := Option.isSome_iff_exists.1 (F41 4 (by decide)).1; have df4 := (F41 4 (by decide)).2; obtain ⟨d5, hd5⟩ := Option.isSome_iff_exists.1 (F41 5 (by decide)).1; have df5 := (F41 5 (by decide)).2; obtain ⟨d6, hd6⟩ := Option.isSome_iff_exists.1 (F41 6 (by decide)).1; have df6 := (F41 6 (by decide)).2; obtain ⟨d7, hd7⟩ := Option.isSome_iff_exists.1 (F41 7 (by decide)).1; have df7 := (F41 7 (by decide)).2) | skip)))
  · obtain ⟨X, hX⟩ : ∃ X, X = w41.alloc (.cells #[.int .i64 (sumI A.S), .int .i64 A.mark, .int .i64 0, .int .i64 0, .bool false, .int .i64 A.ar, .bool (decide (A.gt ≤ A.ar)), .int .i64 A.tk] 63) := ⟨_, rfl⟩
    rw [← hX]
    have BX : Below w.heap.size w X := by
      rw [hX]
      (repeat (with_reducible refine below_set (by first | omega | (simp; omega)) ?_ _ _))
      exact below_al BK.out _
    have HX : Has8 X w.heap.size := by
      rw [hX]
      (repeat (with_reducible refine Has8.set ?_ _ _ _))
      exact Has8.al E41 _
    obtain ⟨B, hB⟩ : ∃ B, B = w41.heap.size := ⟨_, rfl⟩
    have XB : B8 X B (.int .i64 (sumI A.S)) (.int .i64 A.mark) (.int .i64 0) (.int .i64 0) (.bool false) (.int .i64 A.ar) (.bool (decide (A.gt ≤ A.ar))) (.int .i64 A.tk) := by rw [hX, hB]; exact ⟨by simp [go_sem], by simp [go_sem], by simp [go_sem], by simp [go_sem], by simp [go_sem], by simp [go_sem], by simp [go_sem], by simp [go_sem], fun o ho => by simp [go_sem]⟩
    have lB : w.heap.size < B := by rw [hB]; omega
    rw [← hB]
    have x2 := (hL0 BX).c2
    have nB : B ≠ w.heap.size := by omega
    have nB' := Ne.symm nB
    clear hX hB z31 z38 z39 z40 z41 zW B41 E41 c041 c141 c341 c441 ct41 e1 e2 e3 e4
    go_wp2_with fail
    refine (C37.out X BX HX).mono ?_
    rintro e w7 ⟨rfl, h7⟩
    have Y := XB.below h7.k
    have E7 := h7.l.h
    have B7 := hide h7.l.b
    have y0 := Y.c0
    have yf0 := Y.f 0 (by decide)
    obtain ⟨n0, hn0⟩ := Option.isSome_iff_exists.1 (E7 0 (by decide)).1
    have nf0 := (E7 0 (by decide)).2
    have y1 := Y.c1
    have yf1 := Y.f 1 (by decide)
    obtain ⟨n1, hn1⟩ := Option.isSome_iff_exists.1 (E7 1 (by decide)).1
    have nf1 := (E7 1 (by decide)).2
    have y2 := Y.c2
    have yf2 := Y.f 2 (by decide)
    obtain ⟨n2, hn2⟩ := Option.isSome_iff_exists.1 (E7 2 (by decide)).1
    have nf2 := (E7 2 (by decide)).2
    have y3 := Y.c3
    have yf3 := Y.f 3 (by decide)
    obtain ⟨n3, hn3⟩ := Option.isSome_iff_exists.1 (E7 3 (by decide)).1
    have nf3 := (E7 3 (by decide)).2
    have y4 := Y.c4
    have yf4 := Y.f 4 (by decide)
    obtain ⟨n4, hn4⟩ := Option.isSome_iff_exists.1 (E7 4 (by decide)).1
    have nf4 := (E7 4 (by decide)).2
    have y5 := Y.c5
    have yf5 := Y.f 5 (by decide)
    obtain ⟨n5, hn5⟩ := Option.isSome_iff_exists.1 (E7 5 (by decide)).1
    have nf5 := (E7 5 (by decide)).2
    have y6 := Y.c6
    have yf6 := Y.f 6 (by decide)
    obtain ⟨n6, hn6⟩ := Option.isSome_iff_exists.1 (E7 6 (by decide)).1
    have nf6 := (E7 6 (by decide)).2
    have y7 := Y.c7
    have yf7 := Y.f 7 (by decide)
    obtain ⟨n7, hn7⟩ := Option.isSome_iff_exists.1 (E7 7 (by decide)).1
    have nf7 := (E7 7 (by decide)).2
    clear h7 Y E7 XB HX BX x2
    go_wp2
    refine bodyPost_ret (v := endV A) (by simp [results, Try.f44, go_sem, endV, hn0, hn1, hn2, hn3, hn4, hn5, hn6, hn7]) rfl ⟨rfl, ?_⟩
    (repeat (first | with_reducible refine Below.drew ?_ | with_reducible refine below_set (by omega) ?_ _ _ | with_reducible refine bdrewN ?_ _))
    exact B7.out
  · obtain ⟨X, hX⟩ : ∃ X, X = ((((((((w41.setCell ⟨w40.heap.size, 0, none⟩ (.int .i64 (sumI A.S))).setCell ⟨w40.heap.size, 1, none⟩ (.int .i64 A.mark)).setCell ⟨w40.heap.size, 2, none⟩ (.int .i64 0)).setCell ⟨w40.heap.size, 3, none⟩ (.int .i64 0)).setCell ⟨w40.heap.size, 4, none⟩ (.bool false)).setCell ⟨w40.heap.size, 5, none⟩ (.int .i64 A.ar)).setCell ⟨w40.heap.size, 6, none⟩ (.bool (decide (A.gt ≤ A.ar)))).setCell ⟨w40.heap.size, 7, none⟩ (.int .i64 A.tk)) := ⟨_, rfl⟩
    rw [← hX]
    have BX : Below w.heap.size w X := by
      rw [hX]
      (repeat (with_reducible refine below_set (by first | omega | (simp; omega)) ?_ _ _))
      exact BK.out
    have HX : Has8 X w.heap.size := by
      rw [hX]
      (repeat (with_reducible refine Has8.set ?_ _ _ _))
      exact E41
    obtain ⟨B, hB⟩ : ∃ B, B = w40.heap.size := ⟨_, rfl⟩
    have XB : B8 X B (.int .i64 (sumI A.S)) (.int .i64 A.mark) (.int .i64 0) (.int .i64 0) (.bool false) (.int .i64 A.ar) (.bool (decide (A.gt ≤ A.ar))) (.int .i64 A.tk) := by rw [hX, hB]; exact B8.made F41 _ _ _ _ _ _ _ _
    have lB : w.heap.size < B := by rw [hB]; omega
    rw [← hB]
    have x2 := (hL0 BX).c2
    have nB : B ≠ w.heap.size := by omega
    have nB' := Ne.symm nB
    clear hX hB z31 z38 z39 z40 z41 zW B41 E41 c041 c141 c341 c441 ct41 e1 e2 e3 e4
    go_wp2_with fail
    refine (C37.out X BX HX).mono ?_
    rintro e w7 ⟨rfl, h7⟩
    have Y := XB.below h7.k
    have E7 := h7.l.h
    have B7 := hide h7.l.b
    have y0 := Y.c0
    have yf0 := Y.f 0 (by decide)
    obtain ⟨n0, hn0⟩ := Option.isSome_iff_exists.1 (E7 0 (by decide)).1
    have nf0 := (E7 0 (by decide)).2
    have y1 := Y.c1
    have yf1 := Y.f 1 (by decide)
    obtain ⟨n1, hn1⟩ := Option.isSome_iff_exists.1 (E7 1 (by decide)).1
    have nf1 := (E7 1 (by decide)).2
    have y2 := Y.c2
    have yf2 := Y.f 2 (by decide)
    obtain ⟨n2, hn2⟩ := Option.isSome_iff_exists.1 (E7 2 (by decide)).1
    have nf2 := (E7 2 (by decide)).2
    have y3 := Y.c3
    have yf3 := Y.f 3 (by decide)
    obtain ⟨n3, hn3⟩ := Option.isSome_iff_exists.1 (E7 3 (by decide)).1
    have nf3 := (E7 3 (by decide)).2
    have y4 := Y.c4
    have yf4 := Y.f 4 (by decide)
    obtain ⟨n4, hn4⟩ := Option.isSome_iff_exists.1 (E7 4 (by decide)).1
    have nf4 := (E7 4 (by decide)).2
    have y5 := Y.c5
    have yf5 := Y.f 5 (by decide)
    obtain ⟨n5, hn5⟩ := Option.isSome_iff_exists.1 (E7 5 (by decide)).1
    have nf5 := (E7 5 (by decide)).2
    have y6 := Y.c6
    have yf6 := Y.f 6 (by decide)
    obtain ⟨n6, hn6⟩ := Option.isSome_iff_exists.1 (E7 6 (by decide)).1
    have nf6 := (E7 6 (by decide)).2
    have y7 := Y.c7
    have yf7 := Y.f 7 (by decide)
    obtain ⟨n7, hn7⟩ := Option.isSome_iff_exists.1 (E7 7 (by decide)).1
    have nf7 := (E7 7 (by decide)).2
    clear h7 Y E7 XB HX BX x2
    go_wp2
    refine bodyPost_ret (v := endV A) (by simp [results, Try.f44, go_sem, endV, hn0, hn1, hn2, hn3, hn4, hn5, hn6, hn7]) rfl ⟨rfl, ?_⟩
    (repeat (first | with_reducible refine Below.drew ?_ | with_reducible refine below_set (by omega) ?_ _ _ | with_reducible refine bdrewN ?_ _))
    exact B7.out
  · obtain ⟨X, hX⟩ : ∃ X, X = ((((((((w41.setCell ⟨w39.heap.size, 0, none⟩ (.int .i64 (sumI A.S))).setCell ⟨w39.heap.size, 1, none⟩ (.int .i64 A.mark)).setCell ⟨w39.heap.size, 2, none⟩ (.int .i64 0)).setCell ⟨w39.heap.size, 3, none⟩ (.int .i64 0)).setCell ⟨w39.heap.size, 4, none⟩ (.bool false)).setCell ⟨w39.heap.size, 5, none⟩ (.int .i64 A.ar)).setCell ⟨w39.heap.size, 6, none⟩ (.bool (decide (A.gt ≤ A.ar)))).setCell ⟨w39.heap.size, 7, none⟩ (.int .i64 A.tk)) := ⟨_, rfl⟩
    rw [← hX]
    have BX : Below w.heap.size w X := by
      rw [hX]
      (repeat (with_reducible refine below_set (by first | omega | (simp; omega)) ?_ _ _))
      exact BK.out
    have HX : Has8 X w.heap.size := by
      rw [hX]
      (repeat (with_reducible refine Has8.set ?_ _ _ _))
      exact E41
    obtain ⟨B, hB⟩ : ∃ B, B = w39.heap.size := ⟨_, rfl⟩
    have XB : B8 X B (.int .i64 (sumI A.S)) (.int .i64 A.mark) (.int .i64 0) (.int .i64 0) (.bool false) (.int .i64 A.ar) (.bool (decide (A.gt ≤ A.ar))) (.int .i64 A.tk) := by rw [hX, hB]; exact B8.made F41 _ _ _ _ _ _ _ _
    have lB : w.heap.size < B := by rw [hB]; omega
    rw [← hB]
    have x2 := (hL0 BX).c2
    have nB : B ≠ w.heap.size := by omega
    have nB' := Ne.symm nB
    clear hX hB z31 z38 z39 z40 z41 zW B41 E41 c041 c141 c341 c441 ct41 e1 e2 e3 e4
    go_wp2_with fail
    refine (C37.out X BX HX).mono ?_
    rintro e w7 ⟨rfl, h7⟩
    have Y := XB.below h7.k
    have E7 := h7.l.h
    have B7 := hide h7.l.b
    have y0 := Y.c0
    have yf0 := Y.f 0 (by decide)
    obtain ⟨n0, hn0⟩ := Option.isSome_iff_exists.1 (E7 0 (by decide)).1
    have nf0 := (E7 0 (by decide)).2
    have y1 := Y.c1
    have yf1 := Y.f 1 (by decide)
    obtain ⟨n1, hn1⟩ := Option.isSome_iff_exists.1 (E7 1 (by decide)).1
    have nf1 := (E7 1 (by decide)).2
    have y2 := Y.c2
    have yf2 := Y.f 2 (by decide)
    obtain ⟨n2, hn2⟩ := Option.isSome_iff_exists.1 (E7 2 (by decide)).1
    have nf2 := (E7 2 (by decide)).2
    have y3 := Y.c3
    have yf3 := Y.f 3 (by decide)
    obtain ⟨n3, hn3⟩ := Option.isSome_iff_exists.1 (E7 3 (by decide)).1
    have nf3 := (E7 3 (by decide)).2
    have y4 := Y.c4
    have yf4 := Y.f 4 (by decide)
    obtain ⟨n4, hn4⟩ := Option.isSome_iff_exists.1 (E7 4 (by decide)).1
    have nf4 := (E7 4 (by decide)).2
    have y5 := Y.c5
    have yf5 := Y.f 5 (by decide)
    obtain ⟨n5, hn5⟩ := Option.isSome_iff_exists.1 (E7 5 (by decide)).1
    have nf5 := (E7 5 (by decide)).2
    have y6 := Y.c6
    have yf6 := Y.f 6 (by decide)
    obtain ⟨n6, hn6⟩ := Option.isSome_iff_exists.1 (E7 6 (by decide)).1
    have nf6 := (E7 6 (by decide)).2
    have y7 := Y.c7
    have yf7 := Y.f 7 (by decide)
    obtain ⟨n7, hn7⟩ := Option.isSome_iff_exists.1 (E7 7 (by decide)).1
    have nf7 := (E7 7 (by decide)).2
    clear h7 Y E7 XB HX BX x2
    go_wp2
    refine bodyPost_ret (v := endV A) (by simp [results, Try.f44, go_sem, endV, hn0, hn1, hn2, hn3, hn4, hn5, hn6, hn7]) rfl ⟨rfl, ?_⟩
    (repeat (first | with_reducible refine Below.drew ?_ | with_reducible refine below_set (by omega) ?_ _ _ | with_reducible refine bdrewN ?_ _))
    exact B7.out
  · obtain ⟨X, hX⟩ : ∃ X, X = ((((((((w41.setCell ⟨w38.heap.size, 0, none⟩ (.int .i64 (sumI A.S))).setCell ⟨w38.heap.size, 1, none⟩ (.int .i64 A.mark)).setCell ⟨w38.heap.size, 2, none⟩ (.int .i64 0)).setCell ⟨w38.heap.size, 3, none⟩ (.int .i64 0)).setCell ⟨w38.heap.size, 4, none⟩ (.bool false)).setCell ⟨w38.heap.size, 5, none⟩ (.int .i64 A.ar)).setCell ⟨w38.heap.size, 6, none⟩ (.bool (decide (A.gt ≤ A.ar)))).setCell ⟨w38.heap.size, 7, none⟩ (.int .i64 A.tk)) := ⟨_, rfl⟩
    rw [← hX]
    have BX : Below w.heap.size w X := by
      rw [hX]
      (repeat (with_reducible refine below_set (by first | omega | (simp; omega)) ?_ _ _))
      exact BK.out
    have HX : Has8 X w.heap.size := by
      rw [hX]
      (repeat (with_reducible refine Has8.set ?_ _ _ _))
      exact E41
    obtain ⟨B, hB⟩ : ∃ B, B = w38.heap.size := ⟨_, rfl⟩
    have XB : B8 X B (.int .i64 (sumI A.S)) (.int .i64 A.mark) (.int .i64 0) (.int .i64 0) (.bool false) (.int .i64 A.ar) (.bool (decide (A.gt ≤ A.ar))) (.int .i64 A.tk) := by rw [hX, hB]; exact B8.made F41 _ _ _ _ _ _ _ _
    have lB : w.heap.size < B := by rw [hB]; omega
    rw [← hB]
    have x2 := (hL0 BX).c2
    have nB : B ≠ w.heap.size := by omega
    have nB' := Ne.symm nB
    clear hX hB z31 z38 z39 z40 z41 zW B41 E41 c041 c141 c341 c441 ct41 e1 e2 e3 e4
    go_wp2_with fail
    refine (C37.out X BX HX).mono ?_
    rintro e w7 ⟨rfl, h7⟩
    have Y := XB.below h7.k
    have E7 := h7.l.h
    have B7 := hide h7.l.b
    have y0 := Y.c0
    have yf0 := Y.f 0 (by decide)
    obtain ⟨n0, hn0⟩ := Option.isSome_iff_exists.1 (E7 0 (by decide)).1
    have nf0 := (E7 0 (by decide)).2
    have y1 := Y.c1
    have yf1 := Y.f 1 (by decide)
    obtain ⟨n1, hn1⟩ := Option.isSome_iff_exists.1 (E7 1 (by decide)).1
    have nf1 := (E7 1 (by decide)).2
    have y2 := Y.c2
    have yf2 := Y.f 2 (by decide)
    obtain ⟨n2, hn2⟩ := Option.isSome_iff_exists.1 (E7 2 (by decide)).1
    have nf2 := (E7 2 (by decide)).2
    have y3 := Y.c3
    have yf3 := Y.f 3 (by decide)
    obtain ⟨n3, hn3⟩ := Option.isSome_iff_exists.1 (E7 3 (by decide)).1
    have nf3 := (E7 3 (by decide)).2
    have y4 := Y.c4
    have yf4 := Y.f 4 (by decide)
    obtain ⟨n4, hn4⟩ := Option.isSome_iff_exists.1 (E7 4 (by decide)).1
    have nf4 := (E7 4 (by decide)).2
    have y5 := Y.c5
    have yf5 := Y.f 5 (by decide)
    obtain ⟨n5, hn5⟩ := Option.isSome_iff_exists.1 (E7 5 (by decide)).1
    have nf5 := (E7 5 (by decide)).2
    have y6 := Y.c6
    have yf6 := Y.f 6 (by decide)
    obtain ⟨n6, hn6⟩ := Option.isSome_iff_exists.1 (E7 6 (by decide)).1
    have nf6 := (E7 6 (by decide)).2
    have y7 := Y.c7
    have yf7 := Y.f 7 (by decide)
    obtain ⟨n7, hn7⟩ := Option.isSome_iff_exists.1 (E7 7 (by decide)).1
    have nf7 := (E7 7 (by decide)).2
    clear h7 Y E7 XB HX BX x2
    go_wp2
    refine bodyPost_ret (v := endV A) (by simp [results, Try.f44, go_sem, endV, hn0, hn1, hn2, hn3, hn4, hn5, hn6, hn7]) rfl ⟨rfl, ?_⟩
    (repeat (first | with_reducible refine Below.drew ?_ | with_reducible refine below_set (by omega) ?_ _ _ | with_reducible refine bdrewN ?_ _))
    exact B7.out
  · obtain ⟨X, hX⟩ : ∃ X, X = ((((((((w41.setCell ⟨w31.heap.size, 0, none⟩ (.int .i64 (sumI A.S))).setCell ⟨w31.heap.size, 1, none⟩ (.int .i64 A.mark)).setCell ⟨w31.heap.size, 2, none⟩ (.int .i64 0)).setCell ⟨w31.heap.size, 3, none⟩ (.int .i64 0)).setCell ⟨w31.heap.size, 4, none⟩ (.bool false)).setCell ⟨w31.heap.size, 5, none⟩ (.int .i64 A.ar)).setCell ⟨w31.heap.size, 6, none⟩ (.bool (decide (A.gt ≤ A.ar)))).setCell ⟨w31.heap.size, 7, none⟩ (.int .i64 A.tk)) := ⟨_, rfl⟩
    rw [← hX]
    have BX : Below w.heap.size w X := by
      rw [hX]
      (repeat (with_reducible refine below_set (by first | omega | (simp; omega)) ?_ _ _))
      exact BK.out
    have HX : Has8 X w.heap.size := by
      rw [hX]
      (repeat (with_reducible refine Has8.set ?_ _ _ _))
      exact E41
    obtain ⟨B, hB⟩ : ∃ B, B = w31.heap.size := ⟨_, rfl⟩
    have XB : B8 X B (.int .i64 (sumI A.S)) (.int .i64 A.mark) (.int .i64 0) (.int .i64 0) (.bool false) (.int .i64 A.ar) (.bool (decide (A.gt ≤ A.ar))) (.int .i64 A.tk) := by rw [hX, hB]; exact B8.made F41 _ _ _ _ _ _ _ _
    have lB : w.heap.size < B := by rw [hB]; omega
    rw [← hB]
    have x2 := (hL0 BX).c2
    have nB : B ≠ w.heap.size := by omega
    have nB' := Ne.symm nB
    clear hX hB z31 z38 z39 z40 z41 zW B41 E41 c041 c141 c341 c441 ct41 e1 e2 e3 e4
    go_wp2_with fail
    refine (C37.out X BX HX).mono ?_
    rintro e w7 ⟨rfl, h7⟩
    have Y := XB.below h7.k
    have E7 := h7.l.h
    have B7 := hide h7.l.b
    have y0 := Y.c0
    have yf0 := Y.f 0 (by decide)
    obtain ⟨n0, hn0⟩ := Option.isSome_iff_exists.1 (E7 0 (by decide)).1
    have nf0 := (E7 0 (by decide)).2
    have y1 := Y.c1
    have yf1 := Y.f 1 (by decide)
    obtain ⟨n1, hn1⟩ := Option.isSome_iff_exists.1 (E7 1 (by decide)).1
    have nf1 := (E7 1 (by decide)).2
    have y2 := Y.c2
    have yf2 := Y.f 2 (by decide)
    obtain ⟨n2, hn2⟩ := Option.isSome_iff_exists.1 (E7 2 (by decide)).1
    have nf2 := (E7 2 (by decide)).2
    have y3 := Y.c3
    have yf3 := Y.f 3 (by decide)
    obtain ⟨n3, hn3⟩ := Option.isSome_iff_exists.1 (E7 3 (by decide)).1
    have nf3 := (E7 3 (by decide)).2
    have y4 := Y.c4
    have yf4 := Y.f 4 (by decide)
    obtain ⟨n4, hn4⟩ := Option.isSome_iff_exists.1 (E7 4 (by decide)).1
    have nf4 := (E7 4 (by decide)).2
    have y5 := Y.c5
    have yf5 := Y.f 5 (by decide)
    obtain ⟨n5, hn5⟩ := Option.isSome_iff_exists.1 (E7 5 (by decide)).1
    have nf5 := (E7 5 (by decide)).2
    have y6 := Y.c6
    have yf6 := Y.f 6 (by decide)
    obtain ⟨n6, hn6⟩ := Option.isSome_iff_exists.1 (E7 6 (by decide)).1
    have nf6 := (E7 6 (by decide)).2
    have y7 := Y.c7
    have yf7 := Y.f 7 (by decide)
    obtain ⟨n7, hn7⟩ := Option.isSome_iff_exists.1 (E7 7 (by decide)).1
    have nf7 := (E7 7 (by decide)).2
    clear h7 Y E7 XB HX BX x2
    go_wp2
    refine bodyPost_ret (v := endV A) (by simp [results, Try.f44, go_sem, endV, hn0, hn1, hn2, hn3, hn4, hn5, hn6, hn7]) rfl ⟨rfl, ?_⟩
    (repeat (first | with_reducible refine Below.drew ?_ | with_reducible refine below_set (by omega) ?_ _ _ | with_reducible refine bdrewN ?_ _))
    exact B7.out
  · obtain ⟨X, hX⟩ : ∃ X, X = ((((((((w41.setCell ⟨W.heap.size, 0, none⟩ (.int .i64 (sumI A.S))).setCell ⟨W.heap.size, 1, none⟩ (.int .i64 A.mark)).setCell ⟨W.heap.size, 2, none⟩ (.int .i64 0)).setCell ⟨W.heap.size, 3, none⟩ (.int .i64 0)).setCell ⟨W.heap.size, 4, none⟩ (.bool false)).setCell ⟨W.heap.size, 5, none⟩ (.int .i64 A.ar)).setCell ⟨W.heap.size, 6, none⟩ (.bool (decide (A.gt ≤ A.ar)))).setCell ⟨W.heap.size, 7, none⟩ (.int .i64 A.tk)) := ⟨_, rfl⟩
    rw [← hX]
    have BX : Below w.heap.size w X := by
      rw [hX]
      (repeat (with_reducible refine below_set (by first | omega | (simp; omega)) ?_ _ _))
      exact BK.out
    have HX : Has8 X w.heap.size := by
      rw [hX]
      (repeat (with_reducible refine Has8.set ?_ _ _ _))
      exact E41
    obtain ⟨B, hB⟩ : ∃ B, B = W.heap.size := ⟨_, rfl⟩
    have XB : B8 X B (.int .i64 (sumI A.S)) (.int .i64 A.mark) (.int .i64 0) (.int .i64 0) (.bool false) (.int .i64 A.ar) (.bool (decide (A.gt ≤ A.ar))) (.int .i64 A.tk) := by rw [hX, hB]; exact B8.made F41 _ _ _ _ _ _ _ _
    have lB : w.heap.size < B := by rw [hB]; omega
    rw [← hB]
    have x2 := (hL0 BX).c2
    have nB : B ≠ w.heap.size := by omega
    have nB' := Ne.symm nB
    clear hX hB z31 z38 z39 z40 z41 zW B41 E41 c041 c141 c341 c441 ct41 e1 e2 e3 e4
    go_wp2_with fail
    refine (C37.out X BX HX).mono ?_
    rintro e w7 ⟨rfl, h7⟩
    have Y := XB.below h7.k
    have E7 := h7.l.h
    have B7 := hide h7.l.b
    have y0 := Y.c0
    have yf0 := Y.f 0 (by decide)
    obtain ⟨n0, hn0⟩ := Option.isSome_iff_exists.1 (E7 0 (by decide)).1
    have nf0 := (E7 0 (by decide)).2
    have y1 := Y.c1
    have yf1 := Y.f 1 (by decide)
    obtain ⟨n1, hn1⟩ := Option.isSome_iff_exists.1 (E7 1 (by decide)).1
    have nf1 := (E7 1 (by decide)).2
    have y2 := Y.c2
    have yf2 := Y.f 2 (by decide)
    obtain ⟨n2, hn2⟩ := Option.isSome_iff_exists.1 (E7 2 (by decide)).1
    have nf2 := (E7 2 (by decide)).2
    have y3 := Y.c3
    have yf3 := Y.f 3 (by decide)
    obtain ⟨n3, hn3⟩ := Option.isSome_iff_exists.1 (E7 3 (by decide)).1
    have nf3 := (E7 3 (by decide)).2
    have y4 := Y.c4
    have yf4 := Y.f 4 (by decide)
    obtain ⟨n4, hn4⟩ := Option.isSome_iff_exists.1 (E7 4 (by decide)).1
    have nf4 := (E7 4 (by decide)).2
    have y5 := Y.c5
    have yf5 := Y.f 5 (by decide)
    obtain ⟨n5, hn5⟩ := Option.isSome_iff_exists.1 (E7 5 (by decide)).1
    have nf5 := (E7 5 (by decide)).2
    have y6 := Y.c6
    have yf6 := Y.f 6 (by decide)
    obtain ⟨n6, hn6⟩ := Option.isSome_iff_exists.1 (E7 6 (by decide)).1
    have nf6 := (E7 6 (by decide)).2
    have y7 := Y.c7
    have yf7 := Y.f 7 (by decide)
    obtain ⟨n7, hn7⟩ := Option.isSome_iff_exists.1 (E7 7 (by decide)).1
    have nf7 := (E7 7 (by decide)).2
    clear h7 Y E7 XB HX BX x2
    go_wp2
    refine bodyPost_ret (v := endV A) (by simp [results, Try.f44, go_sem, endV, hn0, hn1, hn2, hn3, hn4, hn5, hn6, hn7]) rfl ⟨rfl, ?_⟩
    (repeat (first | with_reducible refine Below.drew ?_ | with_reducible refine below_set (by omega) ?_ _ _ | with_reducible refine bdrewN ?_ _))
    exact B7.out
end Go.Proofs.Ytimabgakemgldaa
