import Derived.Test.YtkdocoibfclfeaaTd
import Derived.Laws.EntriesVeiled
import Derived.Sort.LoopGhostIn
namespace Go.Proofs.Ytkdocoibfclfeaa
open Go.ChangeShapes Go.WideShapes Go.ChangeAt Go.RowKit Go.Deep Go.Shelf Go.Maps Go.WideMaps Ytkdocoibfclfeaa.it
set_option linter.unusedSimpArgs false
set_option linter.unusedVariables false

attribute [local go_sem] Oper.semAt_some

theorem AccIt.run0 (n l : Nat) {B Bx g : Nat} {w : World} (h : AccIt B [] Bx g w) : CallsIn Fence.wide n Try.prog 53 #[.func (.yield l) #[] #[], .pointer (some ⟨Bx, 0, none⟩)] w fun e V' => (∃ v, e = .returned v) ∧ Below w.heap.size w V' := by
  have hc : w.cell? ⟨Bx, 0, none⟩ = some (.slice (some ⟨g, 0, none⟩) 0 0) := h.c
  clear h
  refine callsIn_of_wp Try.func53 rfl trivial ?_ rfl
  simp only [Try.ntmps53, List.size_toArray, List.length_cons, List.length_nil, Nat.reduceAdd, Nat.reduceSub, Array.replicate_succ, Array.replicate_zero, List.push_toArray, List.append_toArray, List.nil_append, List.cons_append]
  gi_wp2
  gi_loopw [7] (fun v7 wr => v7 = .int .i64 0 ∧ wr = w) (fun v7 _ => 0)
  case atStart => exact ⟨rfl, rfl⟩
  case round =>
    obtain ⟨rfl, rfl⟩ := hrel
    gi_wp2
    go_end0
    exact ⟨⟨_, rfl⟩, Below.refl _ _⟩
theorem AccIt.below {B Bx g : Nat} {A : List Acc} {w w' : World} (h : AccIt B A Bx g w) (hb : Below w.heap.size w w') : AccIt B A Bx g w' :=
  ⟨h.lb, h.lg, h.ne, cell_stay h.c (hb.block _ h.lts.1), own_stays h.own (fun k hk => hb.block _ (h.own.lt k hk).2)⟩
theorem NoAll.below {Bx : Nat} {w w' : World} (h : NoAll Bx w) (hb : Below w.heap.size w w') : NoAll Bx w' := cell_stay h (hb.block _ (World.block_lt_of_cell? w _ h))
theorem NoLine.below {Ba Bs : Nat} {w w' : World} (h : NoLine Ba Bs w) (hb : Below w.heap.size w w') : NoLine Ba Bs w' := by
  obtain ⟨Bx, h1, h2⟩ := h
  exact ⟨Bx, cell_stay h1 (hb.block _ (World.block_lt_of_cell? w _ h1)), h2.below hb⟩
theorem eql80 (f : Nat) (c : Array Value) (w : World) : Sem.run Try.prog (binOp .eql 80 (.func (.func f) #[] c) .nilFunc) w = .ok (.bool false) w := by kernel_rfl
theorem eql102 (f : Nat) (c : Array Value) (w : World) : Sem.run Try.prog (binOp .eql 102 (.func (.func f) #[] c) .nilFunc) w = .ok (.bool false) w := by kernel_rfl
theorem eql106 (f : Nat) (c : Array Value) (w : World) : Sem.run Try.prog (binOp .eql 106 (.func (.func f) #[] c) .nilFunc) w = .ok (.bool false) w := by kernel_rfl
/-- what `nothing` holds on its way -/
structure NW (w : World) (pv : Option Addr) (W : World) : Prop where
  no : NoL pv W
  r : W.cell? ⟨w.heap.size, 0, none⟩ = some (.bool false)
  rf : W.frozen? ⟨w.heap.size, 0, none⟩ = false
  low : Below w.heap.size w W
theorem NW.below {w : World} {pv : Option Addr} {W W' : World} (h : NW w pv W) (hb : Below W.heap.size W W') : NW w pv W' :=
  have hl := World.block_lt_of_cell? W _ h.r
  ⟨h.no.below hb, cell_stay h.r (hb.block _ hl), fro_stay h.rf (hb.block _ hl), bstep h.low hb⟩
set_option maxRecDepth 100000 in
set_option maxHeartbeats 4000000 in
theorem nothing_c (pv : Option Addr) (s : ByteArray) (x : Int) (w : World) (h : NoL pv w) : Calls Try.prog 19 #[.pointer pv, .string s, .int .i64 x] w fun e w' => e = .returned (.bool true) ∧ Below w.heap.size w w' := by
  have H0 := hide (show NW w pv (w.alloc (.cells #[.bool false] 4)) from ⟨h.below (by (focus repeat' (first | (with_reducible exact Below.refl _ _) | (with_reducible assumption) | (with_reducible refine Below.alloc ?_ ?_ _) | (with_reducible refine Below.drew ?_) | (with_reducible refine bdrewN ?_ _) | (with_reducible refine Below.setCell ?_ ?_ _) | (first | (with_reducible exact Nat.le_refl _) | (with_reducible assumption) | omega | (simp; omega) | (simp; done))))), by simp [go_sem], by simp [go_sem], by (focus repeat' (first | (with_reducible exact Below.refl _ _) | (with_reducible assumption) | (with_reducible refine Below.alloc ?_ ?_ _) | (with_reducible refine Below.drew ?_) | (with_reducible refine bdrewN ?_ _) | (with_reducible refine Below.setCell ?_ ?_ _) | (first | (with_reducible exact Nat.le_refl _) | (with_reducible assumption) | omega | (simp; omega) | (simp; done))))⟩)
  have Q1 := eql80
  have Q2 := eql102
  have Q3 := eql106
  clear h
  refine (callsIn_wide (n := 3)).1 ?_
  refine callsIn_of_wp_marks Try.func19 rfl trivial ?_ rfl
  simp only [Try.ntmps19, List.size_toArray, List.length_cons, List.length_nil, Nat.reduceAdd, Nat.reduceSub, Array.replicate_succ, Array.replicate_zero, List.push_toArray, List.append_toArray, List.nil_append, List.cons_append]
  gi_wp2_with fail
  refine ⟨trivial, ?_⟩
  refine (callsIn_wide.2 (H0.out.no.open s x)).mono ?_
  rintro e w1 ⟨rfl, rfl⟩
  gi_wp2_with fail
  refine ⟨trivial, ?_⟩
  refine (callsIn_wide.2 (H0.out.no.post)).mono ?_
  rintro e w1 ⟨rfl, hb1⟩
  have H1 := hide (H0.out.below hb1)
  clear H0 hb1
  gi_wp2_with fail
  refine ⟨trivial, ?_⟩
  refine (callsIn_wide.2 (H1.out.no.has s)).mono ?_
  rintro e w2 ⟨rfl, rfl⟩
  gi_wp2_with fail
  refine ⟨trivial, ?_⟩
  refine (callsIn_wide.2 (H1.out.no.account 0)).mono ?_
  rintro e w2 ⟨rfl, hb2⟩
  have H2 := hide (H1.out.below hb2)
  clear H1 hb2
  obtain ⟨w3, hw3⟩ : ∃ w3, w3 = w2.alloc (.cells #[.string ⟨#[]⟩, .int .i64 0, .int .i64 0] 70) := ⟨_, rfl⟩
  have hb3 : Below w2.heap.size w2 w3 := by rw [hw3]; (focus repeat' (first | (with_reducible exact Below.refl _ _) | (with_reducible assumption) | (with_reducible refine Below.alloc ?_ ?_ _) | (with_reducible refine Below.drew ?_) | (with_reducible refine bdrewN ?_ _) | (with_reducible refine Below.setCell ?_ ?_ _) | (first | (with_reducible exact Nat.le_refl _) | (with_reducible assumption) | omega | (simp; omega) | (simp; done))))
  have H3 := hide (H2.out.below hb3)
  have HA3 := hide (show w3.cell? ⟨w2.heap.size, 0, none⟩ = some (.string ⟨#[]⟩) ∧ w3.cell? ⟨w2.heap.size, 1, none⟩ = some (.int .i64 0) ∧ w3.cell? ⟨w2.heap.size, 2, none⟩ = some (.int .i64 0) from by rw [hw3]; simp [go_sem])
  clear hb3 H2
  gi_wp2_with fail
  rw [← hw3]
  clear hw3
  refine ⟨trivial, ?_⟩
  refine (callsIn_wide.2 (H3.out.no.posting x)).mono ?_
  rintro e w4 ⟨rfl, rfl⟩
  gi_wp2_with fail
  refine ⟨trivial, ?_⟩
  refine (callsIn_wide.2 (H3.out.no.back x)).mono ?_
  rintro e w4 ⟨rfl, rfl⟩
  gi_wp2_with fail
  refine ⟨trivial, ?_⟩
  refine (callsIn_wide.2 (H3.out.no.len)).mono ?_
  rintro e w4 ⟨rfl, rfl⟩
  gi_wp2_with fail
  refine ⟨trivial, ?_⟩
  refine (callsIn_wide.2 (H3.out.no.accounts)).mono ?_
  rintro e w4 ⟨Bx, g, rfl, hac, hb4⟩
  have H4 := hide (H3.out.below hb4)
  have HAC := hide hac
  have HB4 := hide hb4
  clear hac hb4 H3
  gi_wp2_with fail
  refine ⟨trivial, ?_⟩
  refine (callsIn_wide.2 (H4.out.no.all)).mono ?_
  rintro e w5 ⟨By, rfl, hal, hb5⟩
  have H5 := hide (H4.out.below hb5)
  have HAC5 := hide (HAC.out.below hb5)
  have HAL := hide hal
  have HB5 := hide (bstep HB4.out hb5)
  clear hal hb5 H4 HAC HB4
  gi_wp2_with fail
  refine ⟨trivial, ?_⟩
  refine (callsIn_wide.2 (H5.out.no.line s)).mono ?_
  rintro e w6 ⟨Ba, Bs, rfl, hli, hb6⟩
  have H6 := hide (H5.out.below hb6)
  have HAC6 := hide (HAC5.out.below hb6)
  have HAL6 := hide (HAL.out.below hb6)
  have HLI := hide hli
  have HB6 := hide (bstep HB5.out hb6)
  have H0low := H6.out.low.size
  clear hli hb6 H5 HAC5 HAL HB5
  have r6 := H6.out.r
  gi_wp2_with fail
  refine range_none (by decide) (gf := 53) (lb := #[.pointer (some ⟨Bx, 0, none⟩)]) rfl (enters_of Try.func53 (by kernel_rfl) rfl) (fun l2 W hbW => (HAC6.out.below hbW).run0 _ l2) (fun D1 W1 hD1 hbW1 hk1 => ?_)
  have H7 := hide (H6.out.below hbW1)
  have HAL7 := hide (HAL6.out.below hbW1)
  have HLI7 := hide (HLI.out.below hbW1)
  have HB7 := hide (bstep HB6.out hbW1)
  have HK1 := hide hk1
  have HD1 := hide (And.intro hD1 (Array.getElem?_eq_some_iff.1 hk1).1)
  clear hbW1 hk1 H6 HAL6 HLI HB6 r6 hD1
  gi_wp2_with fail
  refine range_none (by decide) (gf := 59) (lb := #[.pointer (some ⟨By, 0, none⟩)]) rfl (enters_of Try.func59 (by kernel_rfl) rfl) (fun l2 W hbW => (HAL7.out.below hbW).run _ l2) (fun D2 W2 hD2 hbW2 hk2 => ?_)
  have H8 := hide (H7.out.below hbW2)
  have HLI8 := hide (HLI7.out.below hbW2)
  have HB8 := hide (bstep HB7.out hbW2)
  have HK1b := hide ((hbW2.block D1 HD1.out.2).trans HK1.out)
  have HK2 := hide hk2
  have HD2 := hide (And.intro hD2 (Array.getElem?_eq_some_iff.1 hk2).1)
  clear hbW2 hk2 H7 HLI7 HB7 HK1 hD2
  gi_wp2_with fail
  refine range_none (by decide) (gf := 60) (lb := #[.pointer (some ⟨Ba, 0, none⟩), .pointer (some ⟨Bs, 0, none⟩)]) rfl (enters_of Try.func60 (by kernel_rfl) rfl) (fun l2 W hbW => (HLI8.out.below hbW).run _ l2 (by decide)) (fun D3 W3 hD3 hbW3 hk3 => ?_)
  have H9 := hide (H8.out.below hbW3)
  have HB9 := hide (bstep HB8.out hbW3)
  have HK1c := hide ((hbW3.block D1 (by have := HD1.out; have := HD2.out; omega)).trans HK1b.out)
  have HK2c := hide ((hbW3.block D2 HD2.out.2).trans HK2.out)
  have HK3 := hide hk3
  have HD3 := hide (And.intro hD3 (Array.getElem?_eq_some_iff.1 hk3).1)
  have a0 : W3.cell? ⟨w2.heap.size, 0, none⟩ = some (.string ⟨#[]⟩) := cell_stay HA3.out.1 (HB9.out.block _ (World.block_lt_of_cell? _ _ HA3.out.1))
  have a1 : W3.cell? ⟨w2.heap.size, 1, none⟩ = some (.int .i64 0) := cell_stay HA3.out.2.1 (HB9.out.block _ (World.block_lt_of_cell? _ _ HA3.out.1))
  have a2 : W3.cell? ⟨w2.heap.size, 2, none⟩ = some (.int .i64 0) := cell_stay HA3.out.2.2 (HB9.out.block _ (World.block_lt_of_cell? _ _ HA3.out.1))
  clear hbW3 hk3 H8 HB8 HK1b HK2 hD3
  gi_wp2_with fail
  refine ⟨trivial, ?_⟩
  refine (callsIn_wide.2 (H9.out.no.may)).mono ?_
  rintro e w9 ⟨rfl, hb9⟩
  have H10 := hide (H9.out.below hb9)
  have HK1d := hide ((hb9.block D1 (by have := HD1.out; have := HD2.out; have := HD3.out; omega)).trans HK1c.out)
  have HK2d := hide ((hb9.block D2 (by have := HD2.out; have := HD3.out; omega)).trans HK2c.out)
  have HK3d := hide ((hb9.block D3 HD3.out.2).trans HK3.out)
  clear hb9 H9 HK1c HK2c HK3 a0 a1 a2
  gi_wp2_with fail
  refine ⟨trivial, ?_⟩
  refine (callsIn_wide.2 (H10.out.no.copy)).mono ?_
  rintro e w10 ⟨rfl, rfl⟩
  have c9 := H10.out.r
  have f9 := H10.out.rf
  have hwz := World.block_lt_of_cell? _ _ c9
  gi_wp2
  have ne12 : D1 ≠ D2 := by have := HD1.out; have := HD2.out; omega
  have ne13 : D1 ≠ D3 := by have := HD1.out; have := HD2.out; have := HD3.out; omega
  have ne23 : D2 ≠ D3 := by have := HD2.out; have := HD3.out; omega
  have q1 := (KeepsOthers.setCell w9 ⟨w.heap.size, 0, none⟩ (.bool true)).same D1 _ HK1d.out rfl
  have q2 := (KeepsOthers.setCell w9 ⟨w.heap.size, 0, none⟩ (.bool true)).same D2 _ HK2d.out rfl
  have q3 := (KeepsOthers.setCell w9 ⟨w.heap.size, 0, none⟩ (.bool true)).same D3 _ HK3d.out rfl
  have hc4 := cell_kept (World.cell?_setCell_same' w9 ⟨w.heap.size, 0, none⟩ (.bool true) (by rw [c9]; rfl)) (grownBy_putObj' _ D3 (.deferred none)) (fun r e => by cases e; exact ⟨_, q3, rfl⟩)
  have q2' := (World.putObj_heap_other (w := w9.setCell ⟨w.heap.size, 0, none⟩ (.bool true)) (o := .deferred none) ne23).trans q2
  have q1' := (World.putObj_heap_other (w := w9.setCell ⟨w.heap.size, 0, none⟩ (.bool true)) (o := .deferred none) ne13).trans q1
  have hc5 := cell_kept hc4 (grownBy_putObj' _ D2 (.deferred none)) (fun r e => by cases e; exact ⟨_, q2', rfl⟩)
  have q1'' := (World.putObj_heap_other (o := .deferred none) ne12).trans q1'
  have hc6 := cell_kept hc5 (grownBy_putObj' _ D1 (.deferred none)) (fun r e => by cases e; exact ⟨_, q1'', rfl⟩)
  refine ⟨by simp, .inl ⟨_, _, rfl, run_takeDeferred q3, ?_⟩⟩
  refine ⟨by simp, .inl ⟨_, _, rfl, run_takeDeferred q2', ?_⟩⟩
  refine ⟨by simp, .inl ⟨_, _, rfl, run_takeDeferred q1'', ?_⟩⟩
  have lw := H10.out.low
  have zl : w.heap.size ≤ w6.heap.size := by have := H0low; omega
  refine ⟨.bool true, ?_, rfl, (((lw.setCell (p := ⟨w.heap.size, 0, none⟩) (Nat.le_refl _) _).trans (belowK_b (w := w) (Nat.le_refl _) _ D3 _ _ (by have := HD1.out; have := HD2.out; have := HD3.out; omega) q3 rfl rfl)).trans (belowK_b (w := w) (Nat.le_refl _) _ D2 _ _ (by have := HD1.out; have := HD2.out; omega) q2' rfl rfl)).trans (belowK_b (w := w) (Nat.le_refl _) _ D1 _ _ (by have := HD1.out; omega) q1'' rfl rfl)⟩
  simp [results, Try.f19, go_sem, hc6]
end Go.Proofs.Ytkdocoibfclfeaa
