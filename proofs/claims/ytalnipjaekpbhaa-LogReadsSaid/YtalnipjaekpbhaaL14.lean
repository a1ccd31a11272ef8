import Derived.Test.YtalnipjaekpbhaaMd
import Derived.StillTailTactics
import Derived.BigRegion
import Derived.Deep.CutBlock
namespace Go.Proofs.Ytalnipjaekpbhaa
open Go.ChangeShapes Go.WideShapes Go.ChangeAt Go.RowKit Go.Deep
set_option linter.unusedSimpArgs false
set_option linter.unusedVariables false

/-- an order that has nothing but a kind and its numbers -/
def ofO (k : Int) (f : Nat → Int) : Ord := { kind := k, name := [], num := fun j => if j ∈ numL k then f j else 0, offs := [] }
def Ord.upd (o : Ord) (j : Nat) (x : Int) : Ord := { o with num := fun i => if i = j then x else o.num i }
theorem upds (f : Nat → Int) : ∀ (l : List Nat) (o : Ord), l.foldl (fun o j => o.upd j (f j)) o = { o with num := fun i => if i ∈ l then f i else o.num i }
  | [], o => by simp
  | j :: l, o => by
    rw [List.foldl_cons, upds f l]
    simp only [Ord.upd, Ord.mk.injEq, true_and, and_true]
    funext i
    by_cases h : i ∈ l
    · simp [h]
    · by_cases e : i = j <;> simp [h, e]
def zeroO (k : Int) : Ord := { kind := k, name := [], num := fun _ => 0, offs := [] }
theorem upd_set (o : Ord) (ov : Value) (x : Int) {j : Nat} (h : j ∈ numO) : (ordCells o ov).set j (.int .i64 x) = ordCells (o.upd j x) ov := by
  simp only [numO, List.mem_cons, List.not_mem_nil, or_false] at h
  rcases h with rfl | rfl | rfl | rfl | rfl | rfl | rfl | rfl | rfl | rfl | rfl | rfl | rfl | rfl | rfl <;> simp [ordCells, Ord.upd]
theorem BoxO.upd {w : World} {ob : Nat} {o : Ord} {ov : Value} (h : BoxO w ob o ov) (j : Nat) (x : Int) (hj : j ∈ numO) : BoxO (w.setCell ⟨ob, j, none⟩ (.int .i64 x)) ob (o.upd j x) ov := by
  refine ⟨fun i hi => ?_, fun i => (World.frozen?_setCell _ _ _ _).trans (h.f i)⟩
  rw [← upd_set o ov x hj]
  by_cases e : j = i
  · subst e
    rw [World.cell?_setCell_same' _ _ _ (by rw [h.num hj]; rfl), List.getElem?_set_self (by rw [ordCells_len]; exact hi)]
  · rw [World.cell?_setCell_other _ _ _ _ (by intro e2; injection e2 with _ e2; exact e e2), List.getElem?_set_ne e]
    exact h.c i hi
theorem BoxO.there {w : World} {ob : Nat} {o : Ord} {ov : Value} (h : BoxO w ob o ov) : w.there ob 0 18 := fun j hj => ⟨by
  rw [Nat.zero_add, h.c j hj]
  rw [List.getElem?_eq_getElem (by rw [ordCells_len]; exact hj)]; rfl, h.f _⟩
theorem results_cell1 {P : Program} {fn : Func} {tmps : Array Value} {s : Nat} {t : TypeId} {ad : Addr} {w : World} {v : Value} (hf : fn.results = #[.cell s t]) (ht : tmps.getD s undef = .pointer (some ad)) (hl : (loadVar t ad).run P w = .ok v w) : (results fn tmps).run P w = .ok v w := by
  unfold results
  rw [hf]
  simp [show tmps[s]?.getD undef = _ from ((Array.getD_eq_getD_getElem? ..).symm.trans ht), Sem.run_bind, hl, asAddr, Result.andThen_ok]
theorem results_cell2 {P : Program} {fn : Func} {tmps : Array Value} {s s2 : Nat} {t t2 : TypeId} {ad ad2 : Addr} {w : World} {v v2 : Value} (hf : fn.results = #[.cell s t, .cell s2 t2]) (ht : tmps.getD s undef = .pointer (some ad)) (hl : (loadVar t ad).run P w = .ok v w) (ht2 : tmps.getD s2 undef = .pointer (some ad2)) (hl2 : (loadVar t2 ad2).run P w = .ok v2 w) : (results fn tmps).run P w = .ok (.tuple #[v, v2]) w := by
  unfold results
  rw [hf]
  simp [show tmps[s]?.getD undef = _ from ((Array.getD_eq_getD_getElem? ..).symm.trans ht), show tmps[s2]?.getD undef = _ from ((Array.getD_eq_getD_getElem? ..).symm.trans ht2), Sem.run_bind, hl, hl2, asAddr, Result.andThen_ok]
theorem below_sets {B b : Nat} {w0 : World} (hb : B ≤ b) : ∀ (l : List Value) (w : World) (o : Nat), Below B w0 w → Below B w0 (w.setCells b o l)
  | [], w, o, h => h
  | v :: l, w, o, h => below_sets hb l _ _ (h.setCell (p := ⟨b, o, none⟩) hb v)
structure OfSt (w wx : World) (o : Ord) : Prop where
  box : BoxO wx (w.heap.size + 1) o (.slice none 0 0)
  th : wx.there w.heap.size 0 18
  bel : Below w.heap.size w wx
theorem OfSt.upd {w wx : World} {o : Ord} (h : OfSt w wx o) (j : Nat) (x : Int) (hj : j ∈ numO) : OfSt w (wx.setCell ⟨w.heap.size + 1, j, none⟩ (.int .i64 x)) (o.upd j x) :=
  ⟨h.box.upd j x hj, World.there_setCells h.th (w.heap.size + 1) j [.int .i64 x], h.bel.setCell (p := ⟨w.heap.size + 1, j, none⟩) (Nat.le_succ _) _⟩
theorem OfSt.drew {w wx : World} {o : Ord} (h : OfSt w wx o) : OfSt w wx.drew o := ⟨⟨h.box.c, h.box.f⟩, (World.there_drew ..).2 h.th, h.bel.drew⟩
theorem OfSt.fin {w wx : World} {o : Ord} (h : OfSt w wx o) (k : Int) (f : Nat → Int) (e : o = ofO k f) (v : Value) : v = v ∧ BoxO wx (w.heap.size + 1) (ofO k f) (.slice none 0 0) ∧ wx.there w.heap.size 0 18 ∧ Below w.heap.size w wx := by
  subst e
  exact ⟨rfl, h.box, h.th, h.bel⟩
set_option maxRecDepth 100000 in
set_option maxHeartbeats 8000000 in
theorem of_c (k : Int) (f : Nat → Int) (n b cap : Nat) (w : World) (hn : n = (numL k).length) (h : ∀ i, i < (numL k).length → w.cell? ⟨b, i, none⟩ = some (.int .i64 (f ((numL k).getD i 0)))) : Calls Try.prog 68 #[.int .i64 k, .slice (some ⟨b, 0, none⟩) n cap] w fun e w' => e = .returned (ordV (ofO k f) (.slice none 0 0)) ∧ Below w.heap.size w w' := by
  obtain ⟨W, hW⟩ : ∃ W, W = (w.alloc (.cells #[Value.int .i64 0, .string ⟨#[]⟩, .int .i64 0, .int .i64 0, .int .i64 0, .int .i64 0, .int .i64 0, .int .i64 0, .int .i64 0, .int .i64 0, .int .i64 0, .int .i64 0, .int .i64 0, .int .i64 0, .int .i64 0, .int .i64 0, .slice none 0 0, .int .i64 0] 29)).alloc (.cells #[Value.int .i64 k, .string ⟨#[]⟩, .int .i64 0, .int .i64 0, .int .i64 0, .int .i64 0, .int .i64 0, .int .i64 0, .int .i64 0, .int .i64 0, .int .i64 0, .int .i64 0, .int .i64 0, .int .i64 0, .int .i64 0, .int .i64 0, .slice none 0 0, .int .i64 0] 29) := ⟨_, rfl⟩
  have hb1 : Below w.heap.size w (w.alloc (.cells #[Value.int .i64 0, .string ⟨#[]⟩, .int .i64 0, .int .i64 0, .int .i64 0, .int .i64 0, .int .i64 0, .int .i64 0, .int .i64 0, .int .i64 0, .int .i64 0, .int .i64 0, .int .i64 0, .int .i64 0, .int .i64 0, .int .i64 0, .slice none 0 0, .int .i64 0] 29)) := (Below.refl _ _).alloc (Nat.le_refl _) _
  have hb0 : Below w.heap.size w W := by rw [hW]; exact hb1.alloc hb1.size _
  have r1 : BoxO W w.heap.size (zeroO 0) (.slice none 0 0) := by rw [hW]; exact (box_made w (zeroO 0) _).below ((Below.refl _ _).alloc (Nat.le_refl _) _)
  have b1 : BoxO W (w.heap.size + 1) (zeroO k) (.slice none 0 0) := by
    rw [hW]
    have q := box_made (w.alloc (.cells #[Value.int .i64 0, .string ⟨#[]⟩, .int .i64 0, .int .i64 0, .int .i64 0, .int .i64 0, .int .i64 0, .int .i64 0, .int .i64 0, .int .i64 0, .int .i64 0, .int .i64 0, .int .i64 0, .int .i64 0, .int .i64 0, .int .i64 0, .slice none 0 0, .int .i64 0] 29)) (zeroO k) (.slice none 0 0)
    rw [World.size_alloc] at q
    exact q
  have HW := hide hW
  have HB0 := hide hb0
  have BX := hide b1
  have OS := hide (show OfSt w W (zeroO k) from ⟨b1, r1.there, hb0⟩)
  have RX := hide r1
  have HN := hide h
  have HNN := hide hn
  clear hW hb1 hb0 r1 b1 h hn
  go_enter Try.func68, Try.ntmps68
  go_upto_region 2 with fail
  rw [← HW.out]
  go_upto_block 0 with fail
  go_cut [8] from 9 to 78 (fun v8 wx => v8 = .int .i64 k ∧ BoxO wx (w.heap.size + 1) (ofO k f) (.slice none 0 0) ∧ wx.there w.heap.size 0 18 ∧ Below w.heap.size w wx)
  case first =>
    have x2 : W.cell? ⟨w.heap.size + 1, 2, none⟩ = some (.int .i64 0) := BX.out.c 2 (by decide)
    have x3 : W.cell? ⟨w.heap.size + 1, 3, none⟩ = some (.int .i64 0) := BX.out.c 3 (by decide)
    have x4 : W.cell? ⟨w.heap.size + 1, 4, none⟩ = some (.int .i64 0) := BX.out.c 4 (by decide)
    have x5 : W.cell? ⟨w.heap.size + 1, 5, none⟩ = some (.int .i64 0) := BX.out.c 5 (by decide)
    have x6 : W.cell? ⟨w.heap.size + 1, 6, none⟩ = some (.int .i64 0) := BX.out.c 6 (by decide)
    have x7 : W.cell? ⟨w.heap.size + 1, 7, none⟩ = some (.int .i64 0) := BX.out.c 7 (by decide)
    have x8 : W.cell? ⟨w.heap.size + 1, 8, none⟩ = some (.int .i64 0) := BX.out.c 8 (by decide)
    have x9 : W.cell? ⟨w.heap.size + 1, 9, none⟩ = some (.int .i64 0) := BX.out.c 9 (by decide)
    have x10 : W.cell? ⟨w.heap.size + 1, 10, none⟩ = some (.int .i64 0) := BX.out.c 10 (by decide)
    have x11 : W.cell? ⟨w.heap.size + 1, 11, none⟩ = some (.int .i64 0) := BX.out.c 11 (by decide)
    have x12 : W.cell? ⟨w.heap.size + 1, 12, none⟩ = some (.int .i64 0) := BX.out.c 12 (by decide)
    have x13 : W.cell? ⟨w.heap.size + 1, 13, none⟩ = some (.int .i64 0) := BX.out.c 13 (by decide)
    have x14 : W.cell? ⟨w.heap.size + 1, 14, none⟩ = some (.int .i64 0) := BX.out.c 14 (by decide)
    have x15 : W.cell? ⟨w.heap.size + 1, 15, none⟩ = some (.int .i64 0) := BX.out.c 15 (by decide)
    have x17 : W.cell? ⟨w.heap.size + 1, 17, none⟩ = some (.int .i64 0) := BX.out.c 17 (by decide)
    have f2 : W.frozen? ⟨w.heap.size + 1, 2, none⟩ = false := BX.out.f 2
    have f3 : W.frozen? ⟨w.heap.size + 1, 3, none⟩ = false := BX.out.f 3
    have f4 : W.frozen? ⟨w.heap.size + 1, 4, none⟩ = false := BX.out.f 4
    have f5 : W.frozen? ⟨w.heap.size + 1, 5, none⟩ = false := BX.out.f 5
    have f6 : W.frozen? ⟨w.heap.size + 1, 6, none⟩ = false := BX.out.f 6
    have f7 : W.frozen? ⟨w.heap.size + 1, 7, none⟩ = false := BX.out.f 7
    have f8 : W.frozen? ⟨w.heap.size + 1, 8, none⟩ = false := BX.out.f 8
    have f9 : W.frozen? ⟨w.heap.size + 1, 9, none⟩ = false := BX.out.f 9
    have f10 : W.frozen? ⟨w.heap.size + 1, 10, none⟩ = false := BX.out.f 10
    have f11 : W.frozen? ⟨w.heap.size + 1, 11, none⟩ = false := BX.out.f 11
    have f12 : W.frozen? ⟨w.heap.size + 1, 12, none⟩ = false := BX.out.f 12
    have f13 : W.frozen? ⟨w.heap.size + 1, 13, none⟩ = false := BX.out.f 13
    have f14 : W.frozen? ⟨w.heap.size + 1, 14, none⟩ = false := BX.out.f 14
    have f15 : W.frozen? ⟨w.heap.size + 1, 15, none⟩ = false := BX.out.f 15
    have f17 : W.frozen? ⟨w.heap.size + 1, 17, none⟩ = false := BX.out.f 17
    by_cases k1 : k = 1
    · have HL := hide (show numL k = [2] by unfold numL; simp [k1])
      have d1 : (k == 1) = true := by simp [k1]
      have n0 : W.cell? ⟨b, 0, none⟩ = some (.int .i64 (f 2)) := by
        have q := HN.out 0 (by rw [HL.out]; decide)
        rw [HL.out] at q
        exact (World.cell?_of_block (HB0.out.block b (World.block_lt_of_cell? w _ q))).trans q
      have m0 : (0 : Int) < (n : Int) := by rw [HNN.out, HL.out]; decide
      have HK := hide k1
      clear k1 
      clear x3 f3 x4 f4 x5 f5 x6 f6 x7 f7 x8 f8 x9 f9 x10 f10 x11 f11 x12 f12 x13 f13 x14 f14 x15 f15 x17 f17
      go_wp2_with fail
      go_meet
      all_goals (first | exact (OS.out.upd 2 (f 2) (by decide)).drew.fin k f (by unfold ofO; rw [HL.out]; simp [Ord.upd, zeroO]; funext i; (repeat' split) <;> simp_all) _ | exact (OS.out.upd 2 (f 2) (by decide)).fin k f (by unfold ofO; rw [HL.out]; simp [Ord.upd, zeroO]; funext i; (repeat' split) <;> simp_all) _)
    by_cases k2 : k = 2
    · have HL := hide (show numL k = [3, 2] by unfold numL; simp [k2])
      have d1 : (k == 1) = false := by simp [k2]
      have d2 : (k == 2) = true := by simp [k2]
      have n0 : W.cell? ⟨b, 0, none⟩ = some (.int .i64 (f 3)) := by
        have q := HN.out 0 (by rw [HL.out]; decide)
        rw [HL.out] at q
        exact (World.cell?_of_block (HB0.out.block b (World.block_lt_of_cell? w _ q))).trans q
      have m0 : (0 : Int) < (n : Int) := by rw [HNN.out, HL.out]; decide
      have n1 : W.cell? ⟨b, 1, none⟩ = some (.int .i64 (f 2)) := by
        have q := HN.out 1 (by rw [HL.out]; decide)
        rw [HL.out] at q
        exact (World.cell?_of_block (HB0.out.block b (World.block_lt_of_cell? w _ q))).trans q
      have m1 : (1 : Int) < (n : Int) := by rw [HNN.out, HL.out]; decide
      have HK := hide k2
      clear k2 k1
      clear x4 f4 x5 f5 x6 f6 x7 f7 x8 f8 x9 f9 x10 f10 x11 f11 x12 f12 x13 f13 x14 f14 x15 f15 x17 f17
      go_wp2_with fail
      go_region
      all_goals (go_wp2_with fail; go_meet)
      all_goals (first | exact ((OS.out.upd 3 (f 3) (by decide)).upd 2 (f 2) (by decide)).drew.fin k f (by unfold ofO; rw [HL.out]; simp [Ord.upd, zeroO]; funext i; (repeat' split) <;> simp_all) _ | exact ((OS.out.upd 3 (f 3) (by decide)).upd 2 (f 2) (by decide)).fin k f (by unfold ofO; rw [HL.out]; simp [Ord.upd, zeroO]; funext i; (repeat' split) <;> simp_all) _)
    by_cases k3 : k = 3
    · have HL := hide (show numL k = [5, 6, 7, 8, 9, 10, 11, 12, 13, 14, 15] by unfold numL; simp [k3])
      have d1 : (k == 1) = false := by simp [k3]
      have d2 : (k == 2) = false := by simp [k3]
      have d3 : (k == 3) = true := by simp [k3]
      have n0 : W.cell? ⟨b, 0, none⟩ = some (.int .i64 (f 5)) := by
        have q := HN.out 0 (by rw [HL.out]; decide)
        rw [HL.out] at q
        exact (World.cell?_of_block (HB0.out.block b (World.block_lt_of_cell? w _ q))).trans q
      have m0 : (0 : Int) < (n : Int) := by rw [HNN.out, HL.out]; decide
      have q0 : 0 < n := by rw [HNN.out, HL.out]; decide
      have n1 : W.cell? ⟨b, 1, none⟩ = some (.int .i64 (f 6)) := by
        have q := HN.out 1 (by rw [HL.out]; decide)
        rw [HL.out] at q
        exact (World.cell?_of_block (HB0.out.block b (World.block_lt_of_cell? w _ q))).trans q
      have m1 : (1 : Int) < (n : Int) := by rw [HNN.out, HL.out]; decide
      have q1 : 1 < n := by rw [HNN.out, HL.out]; decide
      have n2 : W.cell? ⟨b, 2, none⟩ = some (.int .i64 (f 7)) := by
        have q := HN.out 2 (by rw [HL.out]; decide)
        rw [HL.out] at q
        exact (World.cell?_of_block (HB0.out.block b (World.block_lt_of_cell? w _ q))).trans q
      have m2 : (2 : Int) < (n : Int) := by rw [HNN.out, HL.out]; decide
      have q2 : 2 < n := by rw [HNN.out, HL.out]; decide
      have n3 : W.cell? ⟨b, 3, none⟩ = some (.int .i64 (f 8)) := by
        have q := HN.out 3 (by rw [HL.out]; decide)
        rw [HL.out] at q
        exact (World.cell?_of_block (HB0.out.block b (World.block_lt_of_cell? w _ q))).trans q
      have m3 : (3 : Int) < (n : Int) := by rw [HNN.out, HL.out]; decide
      have q3 : 3 < n := by rw [HNN.out, HL.out]; decide
      have n4 : W.cell? ⟨b, 4, none⟩ = some (.int .i64 (f 9)) := by
        have q := HN.out 4 (by rw [HL.out]; decide)
        rw [HL.out] at q
        exact (World.cell?_of_block (HB0.out.block b (World.block_lt_of_cell? w _ q))).trans q
      have m4 : (4 : Int) < (n : Int) := by rw [HNN.out, HL.out]; decide
      have q4 : 4 < n := by rw [HNN.out, HL.out]; decide
      have n5 : W.cell? ⟨b, 5, none⟩ = some (.int .i64 (f 10)) := by
        have q := HN.out 5 (by rw [HL.out]; decide)
        rw [HL.out] at q
        exact (World.cell?_of_block (HB0.out.block b (World.block_lt_of_cell? w _ q))).trans q
      have m5 : (5 : Int) < (n : Int) := by rw [HNN.out, HL.out]; decide
      have q5 : 5 < n := by rw [HNN.out, HL.out]; decide
      have n6 : W.cell? ⟨b, 6, none⟩ = some (.int .i64 (f 11)) := by
        have q := HN.out 6 (by rw [HL.out]; decide)
        rw [HL.out] at q
        exact (World.cell?_of_block (HB0.out.block b (World.block_lt_of_cell? w _ q))).trans q
      have m6 : (6 : Int) < (n : Int) := by rw [HNN.out, HL.out]; decide
      have q6 : 6 < n := by rw [HNN.out, HL.out]; decide
      have n7 : W.cell? ⟨b, 7, none⟩ = some (.int .i64 (f 12)) := by
        have q := HN.out 7 (by rw [HL.out]; decide)
        rw [HL.out] at q
        exact (World.cell?_of_block (HB0.out.block b (World.block_lt_of_cell? w _ q))).trans q
      have m7 : (7 : Int) < (n : Int) := by rw [HNN.out, HL.out]; decide
      have q7 : 7 < n := by rw [HNN.out, HL.out]; decide
      have n8 : W.cell? ⟨b, 8, none⟩ = some (.int .i64 (f 13)) := by
        have q := HN.out 8 (by rw [HL.out]; decide)
        rw [HL.out] at q
        exact (World.cell?_of_block (HB0.out.block b (World.block_lt_of_cell? w _ q))).trans q
      have m8 : (8 : Int) < (n : Int) := by rw [HNN.out, HL.out]; decide
      have q8 : 8 < n := by rw [HNN.out, HL.out]; decide
      have n9 : W.cell? ⟨b, 9, none⟩ = some (.int .i64 (f 14)) := by
        have q := HN.out 9 (by rw [HL.out]; decide)
        rw [HL.out] at q
        exact (World.cell?_of_block (HB0.out.block b (World.block_lt_of_cell? w _ q))).trans q
      have m9 : (9 : Int) < (n : Int) := by rw [HNN.out, HL.out]; decide
      have q9 : 9 < n := by rw [HNN.out, HL.out]; decide
      have n10 : W.cell? ⟨b, 10, none⟩ = some (.int .i64 (f 15)) := by
        have q := HN.out 10 (by rw [HL.out]; decide)
        rw [HL.out] at q
        exact (World.cell?_of_block (HB0.out.block b (World.block_lt_of_cell? w _ q))).trans q
      have m10 : (10 : Int) < (n : Int) := by rw [HNN.out, HL.out]; decide
      have q10 : 10 < n := by rw [HNN.out, HL.out]; decide
      have HK := hide k3
      clear k3 k1 k2
      clear x2 f2 x3 f3 x4 f4 x17 f17
      go_wp2_with fail
      go_still_tail 35, (by kernel_rfl)
      go_wp2_with fail
      go_meet
      exact (((((((((((OS.out.upd 5 (f 5) (by decide)).upd 6 (f 6) (by decide)).upd 7 (f 7) (by decide)).upd 8 (f 8) (by decide)).upd 9 (f 9) (by decide)).upd 10 (f 10) (by decide)).upd 11 (f 11) (by decide)).upd 12 (f 12) (by decide)).upd 13 (f 13) (by decide)).upd 14 (f 14) (by decide)).upd 15 (f 15) (by decide)).drew.fin k f ((upds f [5, 6, 7, 8, 9, 10, 11, 12, 13, 14, 15] (zeroO k)).trans (by unfold ofO; rw [HL.out]; rfl)) _
    by_cases k4 : k = 4
    · have HL := hide (show numL k = [3, 4] by unfold numL; simp [k4])
      have d1 : (k == 1) = false := by simp [k4]
      have d2 : (k == 2) = false := by simp [k4]
      have d3 : (k == 3) = false := by simp [k4]
      have d4 : (k == 4) = true := by simp [k4]
      have n0 : W.cell? ⟨b, 0, none⟩ = some (.int .i64 (f 3)) := by
        have q := HN.out 0 (by rw [HL.out]; decide)
        rw [HL.out] at q
        exact (World.cell?_of_block (HB0.out.block b (World.block_lt_of_cell? w _ q))).trans q
      have m0 : (0 : Int) < (n : Int) := by rw [HNN.out, HL.out]; decide
      have n1 : W.cell? ⟨b, 1, none⟩ = some (.int .i64 (f 4)) := by
        have q := HN.out 1 (by rw [HL.out]; decide)
        rw [HL.out] at q
        exact (World.cell?_of_block (HB0.out.block b (World.block_lt_of_cell? w _ q))).trans q
      have m1 : (1 : Int) < (n : Int) := by rw [HNN.out, HL.out]; decide
      have HK := hide k4
      clear k4 k1 k2 k3
      clear x2 f2 x5 f5 x6 f6 x7 f7 x8 f8 x9 f9 x10 f10 x11 f11 x12 f12 x13 f13 x14 f14 x15 f15 x17 f17
      go_wp2_with fail
      go_region
      all_goals (go_wp2_with fail; go_meet)
      all_goals (first | exact ((OS.out.upd 3 (f 3) (by decide)).upd 4 (f 4) (by decide)).drew.fin k f (by unfold ofO; rw [HL.out]; simp [Ord.upd, zeroO]; funext i; (repeat' split) <;> simp_all) _ | exact ((OS.out.upd 3 (f 3) (by decide)).upd 4 (f 4) (by decide)).fin k f (by unfold ofO; rw [HL.out]; simp [Ord.upd, zeroO]; funext i; (repeat' split) <;> simp_all) _)
    by_cases k5 : k = 5
    · have HL := hide (show numL k = [3, 4] by unfold numL; simp [k5])
      have d1 : (k == 1) = false := by simp [k5]
      have d2 : (k == 2) = false := by simp [k5]
      have d3 : (k == 3) = false := by simp [k5]
      have d4 : (k == 4) = false := by simp [k5]
      have d5 : (k == 5) = true := by simp [k5]
      have n0 : W.cell? ⟨b, 0, none⟩ = some (.int .i64 (f 3)) := by
        have q := HN.out 0 (by rw [HL.out]; decide)
        rw [HL.out] at q
        exact (World.cell?_of_block (HB0.out.block b (World.block_lt_of_cell? w _ q))).trans q
      have m0 : (0 : Int) < (n : Int) := by rw [HNN.out, HL.out]; decide
      have n1 : W.cell? ⟨b, 1, none⟩ = some (.int .i64 (f 4)) := by
        have q := HN.out 1 (by rw [HL.out]; decide)
        rw [HL.out] at q
        exact (World.cell?_of_block (HB0.out.block b (World.block_lt_of_cell? w _ q))).trans q
      have m1 : (1 : Int) < (n : Int) := by rw [HNN.out, HL.out]; decide
      have HK := hide k5
      clear k5 k1 k2 k3 k4
      clear x2 f2 x5 f5 x6 f6 x7 f7 x8 f8 x9 f9 x10 f10 x11 f11 x12 f12 x13 f13 x14 f14 x15 f15 x17 f17
      go_wp2_with fail
      go_region
      all_goals (go_wp2_with fail; go_meet)
      all_goals (first | exact ((OS.out.upd 3 (f 3) (by decide)).upd 4 (f 4) (by decide)).drew.fin k f (by unfold ofO; rw [HL.out]; simp [Ord.upd, zeroO]; funext i; (repeat' split) <;> simp_all) _ | exact ((OS.out.upd 3 (f 3) (by decide)).upd 4 (f 4) (by decide)).fin k f (by unfold ofO; rw [HL.out]; simp [Ord.upd, zeroO]; funext i; (repeat' split) <;> simp_all) _)
    by_cases k6 : k = 6
    · have HL := hide (show numL k = [17] by unfold numL; simp [k6])
      have d1 : (k == 1) = false := by simp [k6]
      have d2 : (k == 2) = false := by simp [k6]
      have d3 : (k == 3) = false := by simp [k6]
      have d4 : (k == 4) = false := by simp [k6]
      have d5 : (k == 5) = false := by simp [k6]
      have d6 : (k == 6) = true := by simp [k6]
      have n0 : W.cell? ⟨b, 0, none⟩ = some (.int .i64 (f 17)) := by
        have q := HN.out 0 (by rw [HL.out]; decide)
        rw [HL.out] at q
        exact (World.cell?_of_block (HB0.out.block b (World.block_lt_of_cell? w _ q))).trans q
      have m0 : (0 : Int) < (n : Int) := by rw [HNN.out, HL.out]; decide
      have HK := hide k6
      clear k6 k1 k2 k3 k4 k5
      clear x2 f2 x3 f3 x4 f4 x5 f5 x6 f6 x7 f7 x8 f8 x9 f9 x10 f10 x11 f11 x12 f12 x13 f13 x14 f14 x15 f15
      go_wp2_with fail
      go_meet
      all_goals (first | exact (OS.out.upd 17 (f 17) (by decide)).drew.fin k f (by unfold ofO; rw [HL.out]; simp [Ord.upd, zeroO]; funext i; (repeat' split) <;> simp_all) _ | exact (OS.out.upd 17 (f 17) (by decide)).fin k f (by unfold ofO; rw [HL.out]; simp [Ord.upd, zeroO]; funext i; (repeat' split) <;> simp_all) _)
    have HL := hide (show numL k = [] by unfold numL; simp [k1, k2, k3, k4, k5, k6])
    have d1 : (k == 1) = false := by simp [k1]
    have d2 : (k == 2) = false := by simp [k2]
    have d3 : (k == 3) = false := by simp [k3]
    have d4 : (k == 4) = false := by simp [k4]
    have d5 : (k == 5) = false := by simp [k5]
    have d6 : (k == 6) = false := by simp [k6]
    clear x2 f2 x3 f3 x4 f4 x5 f5 x6 f6 x7 f7 x8 f8 x9 f9 x10 f10 x11 f11 x12 f12 x13 f13 x14 f14 x15 f15 x17 f17 k1 k2 k3 k4 k5 k6
    go_wp2_with fail
    go_meet
    exact OS.out.fin k f (by unfold ofO; rw [HL.out]; simp [zeroO]) _
  case rest =>
    obtain ⟨rfl, hbx, hth, hbw⟩ := hcut
    have BXF := hide hbx
    have TH := hide hth
    have BW := hide hbw
    clear hbx hth hbw
    go_wp2_with (first
      | refine wpList_load_mid rfl 29 _ rfl (w.heap.size + 1) 0 rfl (ordCells (ofO k f) (.slice none 0 0)) _ BXF.out.range Try.underlying29 rfl (by rw [ordCells_len]; kernel_rfl) ?_
      | refine wpList_store_mid rfl 29 _ _ rfl w.heap.size 0 (ordCells (ofO k f) (.slice none 0 0)).toArray rfl rfl TH.out (by kernel_rfl) (by kernel_rfl) ?_)
    have hl := run_loadVar_mid (P := Try.prog) (wc.setCells w.heap.size 0 (ordCells (ofO k f) (.slice none 0 0))) w.heap.size 0 29 (ordCells (ofO k f) (.slice none 0 0)) _ (World.rangeAt_setCells_same _ _ _ _ TH.out) Try.underlying29 rfl (by rw [ordCells_len]; kernel_rfl)
    refine bodyPost_ret (v := ordV (ofO k f) (.slice none 0 0)) (results_cell1 rfl rfl hl) rfl ⟨rfl, below_sets (Nat.le_refl _) _ _ _ BW.out⟩
end Go.Proofs.Ytalnipjaekpbhaa

