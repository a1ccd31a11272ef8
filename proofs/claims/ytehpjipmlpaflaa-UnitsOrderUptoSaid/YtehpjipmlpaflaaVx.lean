import Derived.Test.YtehpjipmlpaflaaVw
namespace Go.Proofs.Ytehpjipmlpaflaa.un
open Go.ChangeShapes Go.WideShapes Go.ChangeAt Go.RowKit Go.Deep Go.Shelf
set_option linter.unusedSimpArgs false
set_option linter.unusedVariables false

attribute [local go_sem] Oper.semAt_some

set_option maxRecDepth 1000000 in
set_option maxHeartbeats 8000000 in
theorem UOrder_yes (count floor leave : Int) (so : Option Addr) (cap : Nat) (L : List (List Int)) (w : World) (hb : BRows so L w) (hl : L.length ≤ 40 ∧ ∀ i, i < L.length → (bidAt L i).length ≤ 100) (hw : WrongIs count floor L 0) : Calls Try.prog 4 #[.agg #[.int .i64 count, .int .i64 floor, .slice so L.length cap], .int .i64 leave] w fun e w' => e = .returned (.bool true) ∧ Below w.heap.size w w' := by
  refine (callsIn_wide (n := 3)).1 ?_
  refine callsIn_of_wp_marks Try.func4 rfl trivial ?_ rfl
  simp only [Try.ntmps4, List.size_toArray, List.length_cons, List.length_nil, Nat.reduceAdd, Nat.reduceSub, Array.replicate_succ, Array.replicate_zero, List.push_toArray, List.append_toArray, List.nil_append, List.cons_append]
  have HB := hide hb
  have HL := hide hl
  have hL40 : L.length ≤ 4096 := by omega
  have HLB := hide (short_all hl.2)
  have HW := hide hw
  have HMY := hide hw.may
  clear hb hl hw
  gi_wp2_with fail
  obtain ⟨W0, hW0⟩ : ∃ W0, W0 = ((w.alloc (.cells #[.int .i64 count, .int .i64 floor, .slice so L.length cap] 24)).alloc (.cells #[.int .i64 leave] 3)).alloc (.cells #[.bool false] 4) := ⟨_, rfl⟩
  rw [← hW0]
  have hb0 : Below w.heap.size w W0 := by rw [hW0]; (focus repeat' (first | (with_reducible exact Below.refl _ _) | (with_reducible assumption) | (with_reducible refine Below.alloc ?_ ?_ _) | (with_reducible refine Below.drew ?_) | (with_reducible refine bdrewN ?_ _) | (with_reducible refine Below.setCell ?_ ?_ _) | (first | (with_reducible exact Nat.le_refl _) | (with_reducible assumption) | omega | (simp; omega) | (simp; done))))
  have hz0 : W0.heap.size = w.heap.size + 3 := by rw [hW0]; simp
  have HA0 := hide (show ∀ o, W0.cell? ⟨w.heap.size, o, none⟩ = (#[Value.int .i64 count, .int .i64 floor, .slice so L.length cap] : Array Value)[o]? from fun o => by rw [hW0]; simp [go_sem])
  have HV0 := hide (show W0.cell? ⟨w.heap.size + 1, 0, none⟩ = some (.int .i64 leave) from by rw [hW0]; simp [go_sem])
  have HR0 := hide (show W0.cell? ⟨w.heap.size + 2, 0, none⟩ = some (.bool false) from by rw [hW0]; simp [go_sem])
  have FR0 := hide (show W0.frozen? ⟨w.heap.size + 2, 0, none⟩ = false from by rw [hW0]; simp [go_sem])
  have HB0 := hide hb0
  clear hW0 hb0
  refine (callsIn_wide.2 (long_no count floor so cap L _ (HB.out.below HB0.out) HL.out)).mono ?_
  rintro e w1 ⟨rfl, hb1⟩
  have hz1 := hb1.size
  obtain ⟨W1, hW1⟩ : ∃ W1, W1 = w1.alloc (.cells #[.slice none 0 0] 44) := ⟨_, rfl⟩
  have hbv1 : Below w1.heap.size w1 W1 := by rw [hW1]; exact (Below.refl _ _).alloc (Nat.le_refl _) _
  have hb01 : Below W0.heap.size W0 W1 := bstep hb1 hbv1
  have hzW1 : W1.heap.size = w1.heap.size + 1 := by rw [hW1]; simp
  have HP1 := hide (show PB count floor leave so L.length cap w.heap.size w1.heap.size w.heap.size none 0 [] W1 from ⟨fun o => (hb01.cell (p := ⟨w.heap.size, o, none⟩) (show w.heap.size < W0.heap.size by omega)).trans (HA0.out o), (hb01.cell (p := ⟨w.heap.size + 1, 0, none⟩) (show w.heap.size + 1 < W0.heap.size by omega)).trans HV0.out, (hb01.cell (p := ⟨w.heap.size + 2, 0, none⟩) (show w.heap.size + 2 < W0.heap.size by omega)).trans HR0.out, (hb01.frozen (p := ⟨w.heap.size + 2, 0, none⟩) (show w.heap.size + 2 < W0.heap.size by omega)).trans FR0.out, by rw [hW1]; simp [go_sem], by rw [hW1]; simp [go_sem], World.ownsRow_nil _ _ _ _⟩)
  have HB1 := hide (bstep HB0.out hb01)
  have x0 : W1.cell? ⟨w.heap.size, 0, none⟩ = some (.int .i64 count) := HP1.out.ask 0
  have x1 : W1.cell? ⟨w.heap.size, 1, none⟩ = some (.int .i64 floor) := HP1.out.ask 1
  have x2 : W1.cell? ⟨w.heap.size, 2, none⟩ = some (.slice so L.length cap) := HP1.out.ask 2
  have HW1 := hide hW1
  rw [hW1] at x0 x1 x2
  clear hW1 hbv1 hb01 hb1 HA0 HV0 HR0 FR0
  gi_wp2_with fail
  rw [← HW1.out]
  refine (callsIn_wide.2 (rwrong_is HW.out _ (HB.out.below HB1.out))).mono ?_
  rintro e w2 ⟨rfl, hb2⟩
  have hz2 := hb2.size
  have HP2 := hide (HP1.out.below hb2 (by omega) (by omega))
  have HB2 := hide (bstep HB1.out hb2)
  clear hb2 x0 x1 x2
  have x2 : w2.cell? ⟨w.heap.size, 2, none⟩ = some (.slice so L.length cap) := HP2.out.ask 2
  gi_wp2_with fail
  refine (callsIn_wide.2 (rOrder_c so cap L _ (HB.out.below HB2.out) hL40 HMY.out.short)).mono ?_
  rintro e w3 ⟨⟨ao, vcap, rfl, own⟩, hb3⟩
  have hz3 := hb3.size
  have HP3 := hide (HP2.out.below hb3 (by omega) (by omega))
  have HB3 := hide (bstep HB2.out hb3)
  have hog : ∀ g, (Value.slice ao (ordT L).length vcap).ownBlock = some g → w2.heap.size ≤ g := fun g e => (own.lt g e).1
  obtain ⟨V3, hV3⟩ : ∃ V3, V3 = w3.setCell ⟨w1.heap.size, 0, none⟩ (.slice ao (ordT L).length vcap) := ⟨_, rfl⟩
  have hoth : ∀ k, k ≠ w1.heap.size → V3.heap[k]? = w3.heap[k]? := fun k hk => by rw [hV3]; exact heap_setCell_other _ _ _ _ hk
  have hvz : V3.heap.size = w3.heap.size := by rw [hV3, World.size_setCell]
  have HP4 := hide (show PB count floor leave so L.length cap w.heap.size w1.heap.size w.heap.size ao vcap (ordT L) V3 from by
    have q := HP3.out
    refine ⟨fun o => (World.cell?_of_block (a := ⟨w.heap.size, o, none⟩) (hoth (w.heap.size) (by omega))).trans (q.ask o), (World.cell?_of_block (a := ⟨w.heap.size + 1, 0, none⟩) (hoth (w.heap.size + 1) (by omega))).trans q.lv, (World.cell?_of_block (a := ⟨w.heap.size + 2, 0, none⟩) (hoth (w.heap.size + 2) (by omega))).trans q.res, (World.frozen?_of_block (a := ⟨w.heap.size + 2, 0, none⟩) (hoth (w.heap.size + 2) (by omega))).trans q.resf, ?_, ?_, own_keep (own_lower own (by have := HB2.out.size; omega)) (fun g e => hoth g (by have := hog g e; omega))⟩
    · rw [hV3]; exact World.cell?_setCell_same' _ _ _ (by rw [q.want]; rfl)
    · rw [hV3, World.frozen?_setCell]; exact q.wantf)
  have HB4 := hide (show Below w.heap.size w V3 from by rw [hV3]; exact HB3.out.setCell (p := ⟨w1.heap.size, 0, none⟩) (show w.heap.size ≤ w1.heap.size by omega) _)
  have y0 : w3.cell? ⟨w1.heap.size, 0, none⟩ = some (.slice none 0 0) := HP3.out.want
  have y1 : w3.frozen? ⟨w1.heap.size, 0, none⟩ = false := HP3.out.wantf
  have x2' : V3.cell? ⟨w.heap.size, 2, none⟩ = some (.slice so L.length cap) := HP4.out.ask 2
  have HV3 := hide hV3
  rw [hV3] at x2'
  clear x2 hb3 own hV3 hoth
  gi_wp2_with fail
  rw [← HV3.out]
  refine (callsIn_wide.2 (lent_c so cap L _ (HB.out.below HB4.out) hL40 (fun i hi => by have := HLB.out i; omega))).mono ?_
  rintro e w5 ⟨⟨M, cM, rfl, hlm⟩, hb5⟩
  have hz5 := hb5.size
  have HM5 := hide hlm
  have HP5 := hide (HP4.out.below hb5 (by omega) (by omega))
  have HB5 := hide (bstep HB4.out hb5)
  clear hlm hb5
  have x0 : w5.cell? ⟨w.heap.size, 0, none⟩ = some (.int .i64 count) := HP5.out.ask 0
  have x1 : w5.cell? ⟨w.heap.size, 1, none⟩ = some (.int .i64 floor) := HP5.out.ask 1
  gi_wp2_with fail
  refine (callsIn_wide.2 (Order_yes count floor (some ⟨M, 0, none⟩) cM L (ordT L) _ HM5.out.brows hL40 HMY.out.short HMY.out.right (ordT_rest L) (fun w hb => wrong_is HW.out w hb))).mono ?_
  rintro e w6 ⟨lb, K, rfl, hK, hseq, hb6⟩
  have hz6 := hb6.size
  have HM6 := hide (HM5.out.below hb6)
  have HP6 := hide (HP5.out.below hb6 (by omega) (by omega))
  have HB56 := hide hb6
  have HB6 := hide (bstep HB5.out hb6)
  have HKK := hide hK
  have HSQ := hide (hseq 2 (by decide))
  have Q := eql48
  clear hb6 hK hseq x0 x1
  have x2 : w6.cell? ⟨w.heap.size, 2, none⟩ = some (.slice so L.length cap) := HP6.out.ask 2
  gi_wp2_with fail
  refine (callsIn_wide.2 (kept_c so cap L _ M cM _ (HB.out.below HB6.out) HM6.out hL40 (fun i hi => by have := HLB.out i; omega))).mono ?_
  rintro e w7 ⟨rfl, hb7⟩
  have hz7 := hb7.size
  have HP7 := hide (HP6.out.below hb7 (by omega) (by omega))
  have HB57 := hide (bstep HB56.out hb7)
  have HB67 := hide hb7
  have HB7 := hide (bstep HB6.out hb7)
  clear hb7 x2 Q
  gi_wp2_with fail
  refine (callsIn_wide.2 (spoilt_c L _ M cM w5 _ HM5.out HB57.out)).mono ?_
  rintro e w8 ⟨⟨ve, rfl⟩, hwi⟩
  have hz8 := hwi.size
  have HWI := hide hwi
  have hwb := HB4.out.size
  have HP8 := hide (HP7.out.old (W' := w8) (hwi.block _ (.inl (by omega))).symm (hwi.block _ (.inl (by omega))).symm (hwi.block _ (.inl (by omega))).symm (hwi.block _ (.inl (by omega))).symm (fun g e => hwi.block g (.inl ((HP4.out.own.lt g e).2))))
  have HB8 := hide (show Below w.heap.size w w8 from HB7.out.trans (hwi.below hwb))
  clear hwi
  gi_wp2_with fail
  obtain ⟨W8, hW8⟩ : ∃ W8, W8 = w8.alloc (.cells #[.int .i64 0] 3) := ⟨_, rfl⟩
  rw [← hW8]
  have hb8 : Below w8.heap.size w8 W8 := by rw [hW8]; exact (Below.refl _ _).alloc (Nat.le_refl _) _
  have hzW8 : W8.heap.size = w8.heap.size + 1 := by rw [hW8]; simp
  have HPW := HP8.out.below hb8 (by omega) (by omega)
  have HOG := hide (show ∀ g, (Value.slice ao (ordT L).length vcap).ownBlock = some g → g < w5.heap.size from fun g e => by have := (HP4.out.own.lt g e).2; omega)
  obtain ⟨T, hT0⟩ : ∃ T, T = (ordT L) := ⟨_, rfl⟩
  have HTL := hide (show T.length ≤ 4000 from by
    rw [hT0]
    have e : (ordT L).length = sumL L L.length := ordB_len L L.length
    have := sumL_le HMY.out.short L.length
    have := HL.out.1
    omega)
  rw [← hT0] at HPW HOG HSQ
  have HKI := hide (show ∀ i, K i → w5.heap.size ≤ i ∧ i < w6.heap.size from HKK.out)
  have TW8 : TW (w.heap.size + 2) (w.heap.size + 1) w1.heap.size w.heap.size ao vcap leave T K w6 w8.heap.size ((0 : Nat) : Int) [] W8 := ⟨HPW.lv, HPW.res, HPW.resf, HPW.want, HPW.own, by rw [hW8]; simp [go_sem], by rw [hW8]; simp [go_sem], (fun D hD => by cases hD), fun i hi => by
    have hi2 := HKI.out i hi
    exact (hb8.block i (by omega)).trans ((HWI.out.block i (.inr hi2.1)).trans (HB67.out.block i hi2.2))⟩
  have HBW8 := hide (bstep HB8.out hb8)
  have HSF := HSQ
  have hw6z : w6.heap.size ≤ w8.heap.size := by omega
  have hw1z : w1.heap.size < w5.heap.size := by omega
  have hwz1 : w.heap.size + 3 ≤ w1.heap.size := by omega
  clear hW8 hb8 HPW HP8 HP7 HP6 HP5 HP4 HP2 HP1 HKK HWI HB67 HB57 HB56 HM5 HM6 HP3 y0 y1 HMY hog x2' HV3 hT0 HB HL HLB HW
  try clear hwb hz0
  refine loop_turns 2 (fun t a W => ∃ (bt : Nat) (Ds : List Nat) (q9 q10 q45 q46 q47 q48 q49 q50 q51 q52 q53 q54 q55 q56 q57 q58 q59 q60 q61 q62 q63 q64 q65 q66 q67 q68 q69 q70 q71 q72 q73 q74 q75 q76 q77 q78 q79 q80 q81 q82 q83 q84 q85 q86 q87 q88 q89 q90 q91 q92 q93 q94 q95 : Value), w8.heap.size ≤ bt ∧ bt < W.heap.size ∧ (∀ D, D ∈ Ds → w8.heap.size ≤ D ∧ D < bt) ∧ TW (w.heap.size + 2) (w.heap.size + 1) w1.heap.size w.heap.size ao vcap leave T K w6 bt (t : Int) Ds W ∧ Below w.heap.size w W ∧ (t = 2 → ∃ D1 D2, D1 < D2 ∧ Ds = [D2, D1]) ∧ (t = 1 → ∃ D1, Ds = [D1]) ∧ (t = 0 → Ds = []) ∧ a = { tmps := #[Value.agg #[Value.int .i64 count, Value.int .i64 floor, Value.slice so L.length cap], Value.int .i64 leave, Value.pointer (some ⟨w.heap.size, 0, none⟩), Value.pointer (some ⟨w.heap.size + 1, 0, none⟩), Value.pointer (some ⟨w.heap.size + 1 + 1, 0, none⟩), Value.pointer (some ⟨w1.heap.size, 0, none⟩), Value.slice (some ⟨M, 0, none⟩) L.length cM, Value.func (Fn.func 31) #[] lb, .pointer (some ⟨bt, 0, none⟩), q9, q10, Value.agg #[Value.int .i64 count, Value.int .i64 floor, Value.slice so L.length cap], Value.bool false, undef, Value.pointer (some ⟨w.heap.size, 0, none⟩), Value.int .i64 count, Value.pointer (some ⟨w.heap.size, 1, none⟩), Value.int .i64 floor, Value.pointer (some ⟨w.heap.size, 2, none⟩), Value.slice so L.length cap, Value.int .i64 0, Value.bool true, Value.pointer (some ⟨w.heap.size, 2, none⟩), Value.slice so L.length cap, Value.slice ao (ordT L).length vcap, Value.pointer (some ⟨w.heap.size, 2, none⟩), Value.slice so L.length cap, Value.slice (some ⟨M, 0, none⟩) L.length cM, Value.pointer (some ⟨w.heap.size, 0, none⟩), Value.int .i64 count, Value.pointer (some ⟨w.heap.size, 1, none⟩), Value.int .i64 floor, Value.slice (some ⟨M, 0, none⟩) L.length cM, Value.func (Fn.func 31) #[] lb, Value.func (Fn.func 31) #[] lb, Value.bool false, Value.bool false, Value.slice (some ⟨M, 0, none⟩) L.length cM, Value.pointer (some ⟨w.heap.size, 2, none⟩), Value.slice so L.length cap, Value.bool true, Value.bool false, Value.bool false, Value.slice (some ⟨M, 0, none⟩) L.length cM, ve, q45, q46, q47, q48, q49, q50, q51, q52, q53, q54, q55, q56, q57, q58, q59, q60, q61, q62, q63, q64, q65, q66, q67, q68, q69, q70, q71, q72, q73, q74, q75, q76, q77, q78, q79, q80, q81, q82, q83, q84, q85, q86, q87, q88, q89, q90, q91, q92, q93, q94, q95, undef], defers := Ds.map mk }) ?round ?last
    ⟨w8.heap.size, [], _, _, _, _, _, _, _, _, _, _, _, _, _, _, _, _, _, _, _, _, _, _, _, _, _, _, _, _, _, _, _, _, _, _, _, _, _, _, _, _, _, _, _, _, _, _, _, _, _, _, _, _, _, Nat.le_refl _, by omega, (fun D hD => by cases hD), TW8, HBW8.out, (fun e => by cases e), (fun e => by cases e), (fun _ => rfl), by first | rfl | (rw [hz8]; rfl)⟩
  case last =>
    rintro a W ⟨bt, Ds, q9, q10, q45, q46, q47, q48, q49, q50, q51, q52, q53, q54, q55, q56, q57, q58, q59, q60, q61, q62, q63, q64, q65, q66, q67, q68, q69, q70, q71, q72, q73, q74, q75, q76, q77, q78, q79, q80, q81, q82, q83, q84, q85, q86, q87, q88, q89, q90, q91, q92, q93, q94, q95, hbt, hbz, hDs, hTW, hB, hd2, -, -, rfl⟩ K2
    obtain ⟨D1, D2, hD12, rfl⟩ := hd2 rfl
    have HDS := hide hDs
    have HTW := hide hTW
    have HBW := hide hB
    have cturn : W.cell? ⟨bt, 0, none⟩ = some (.int .i64 2) := hTW.turn
    have hk1 := hTW.marks D1 (by simp)
    have hk2 := hTW.marks D2 (by simp)
    have hD1 := hDs D1 (by simp)
    have hD2 := hDs D2 (by simp)
    clear hTW hB hDs hd2
    gi_wp2_with fail
    refine (callsIn_wide.2 (known_c _)).mono ?_
    rintro e w9 ⟨rfl, hb9⟩
    have c9 := (hb9.cell (p := ⟨w.heap.size + 2, 0, none⟩) (by simp; omega)).trans HTW.out.res
    have f9 := (hb9.frozen (p := ⟨w.heap.size + 2, 0, none⟩) (by simp; omega)).trans HTW.out.resf
    have k1 := (hb9.block D1 (by omega)).trans hk1
    have k2 := (hb9.block D2 (by omega)).trans hk2
    have K1 := hide k1
    have K2 := hide k2
    have HB9 := hide (bstep HBW.out hb9)
    clear hb9 hk1 hk2 k1 k2 cturn
    gi_wp2
    have q1 := (KeepsOthers.setCell w9 ⟨w.heap.size + 2, 0, none⟩ (.bool true)).same D1 _ K1.out rfl
    have q2 := (KeepsOthers.setCell w9 ⟨w.heap.size + 2, 0, none⟩ (.bool true)).same D2 _ K2.out rfl
    have hc5 := cell_kept (World.cell?_setCell_same' w9 ⟨w.heap.size + 2, 0, none⟩ (.bool true) (by rw [c9]; rfl)) (grownBy_putObj' _ D2 (.deferred none)) (fun r e => by cases e; exact ⟨_, q2, rfl⟩)
    have q1' := (World.putObj_heap_other (w := w9.setCell ⟨w.heap.size + 2, 0, none⟩ (.bool true)) (o := .deferred none) (show D1 ≠ D2 by omega)).trans q1
    have hc6 := cell_kept hc5 (grownBy_putObj' _ D1 (.deferred none)) (fun r e => by cases e; exact ⟨_, q1', rfl⟩)
    refine ⟨by simp, .inl ⟨_, _, rfl, run_takeDeferred q2, ?_⟩⟩
    refine ⟨by simp, .inl ⟨_, _, rfl, run_takeDeferred q1', ?_⟩⟩
    refine ⟨.bool true, ?_, rfl, ((HB9.out.setCell (p := ⟨w.heap.size + 2, 0, none⟩) (by simp) _).trans (belowK_b (w := w) (Nat.le_refl _) _ D2 _ _ (by omega) q2 rfl rfl)).trans (belowK_b (w := w) (Nat.le_refl _) _ D1 _ _ (by omega) q1' rfl rfl)⟩
    simp [results, Try.f4, go_sem, hc6]
  case round =>
    rintro t ht a W ⟨bt, Ds, q9, q10, q45, q46, q47, q48, q49, q50, q51, q52, q53, q54, q55, q56, q57, q58, q59, q60, q61, q62, q63, q64, q65, q66, q67, q68, q69, q70, q71, q72, q73, q74, q75, q76, q77, q78, q79, q80, q81, q82, q83, q84, q85, q86, q87, q88, q89, q90, q91, q92, q93, q94, q95, hbt, hbz, hDs, hTW, hB, -, hd1, hd0, rfl⟩ K2 hK2
    have HDS := hide hDs
    have HTW := hide hTW
    have HBW := hide hB
    have HK2 := hide hK2
    clear hTW hB hDs hK2
    rcases Nat.lt_or_ge t 1 with h1 | h1
    · obtain rfl : t = 0 := by omega
      have HD0 := hide (hd0 rfl)
      clear hd0 hd1
      have cturn : W.cell? ⟨bt, 0, none⟩ = some (.int .i64 0) := HTW.out.turn
      have HTW0 := hide (show TW (w.heap.size + 2) (w.heap.size + 1) w1.heap.size w.heap.size ao vcap leave T K w6 bt (0 : Int) Ds W from HTW.out)
      clear HTW
      gi_wp2_with fail
      obtain ⟨V, hV⟩ : ∃ V, V = W.alloc (.cells #[.int .i64 0] 3) := ⟨_, rfl⟩
      rw [← hV]
      have hbV : Below W.heap.size W V := by rw [hV]; exact (Below.refl _ _).alloc (Nat.le_refl _) _
      have hVz : V.heap.size = W.heap.size + 1 := by rw [hV]; simp
      have cat : V.cell? ⟨W.heap.size, 0, none⟩ = some (.int .i64 0) := by rw [hV]; simp [go_sem]
      have fat : V.frozen? ⟨W.heap.size, 0, none⟩ = false := by rw [hV]; simp [go_sem]
      have TWO : ∀ (B : Nat) (X X' : World), bt < B → (∀ b, b < B → X'.heap[b]? = X.heap[b]?) → TW (w.heap.size + 2) (w.heap.size + 1) w1.heap.size w.heap.size ao vcap leave T K w6 bt (0 : Int) Ds X → TW (w.heap.size + 2) (w.heap.size + 1) w1.heap.size w.heap.size ao vcap leave T K w6 bt (0 : Int) Ds X' := fun B X X' h1 hb h => h.old (B := B) (by omega) (by omega) (by omega) (by omega) (fun g e => by have := HOG.out g e; omega) (fun E hE => by have := HDS.out E hE; omega) (fun i hi => by have := HKI.out i hi; omega) hb
      have TWV := hide (TWO W.heap.size W V hbz (fun b h => hbV.block b h) HTW0.out)
      have HBV := hide (bstep HBW.out hbV)
      have hba1 : bt < W.heap.size := by omega
      have hba2 : V.heap.size ≤ W.heap.size + 1 := by omega
      have hba3 : W.heap.size + 1 ≤ V.heap.size := by omega
      clear hV cturn hbV hVz HTW0 HBW
      refine range_R (n := 3) (by decide) (gf := 31) (lb := lb) rfl (enters_of Try.func31 (by kernel_rfl) rfl)
        (HSF.out V (TWV.out.toFix (by omega))) (fun i hi => by have := HKI.out i hi; omega) (Below.refl _ _) (fun _ => rfl)
        (fun pre X => (V.heap.size ≤ X.heap.size ∧ (∃ rest, T = pre ++ rest) ∧ (leave ≤ 0 ∨ (pre.length : Int) < leave) ∧ TW (w.heap.size + 2) (w.heap.size + 1) w1.heap.size w.heap.size ao vcap leave T K w6 bt (0 : Int) Ds X ∧ X.cell? ⟨W.heap.size, 0, none⟩ = some (.int .i64 (pre.length : Int)) ∧ X.frozen? ⟨W.heap.size, 0, none⟩ = false) ∧ Below w.heap.size w X)
        (fun c pre X => (V.heap.size ≤ X.heap.size ∧ c = .exit 2 ∧ TW (w.heap.size + 2) (w.heap.size + 1) w1.heap.size w.heap.size ao vcap leave T K w6 bt (0 : Int) Ds X ∧ X.cell? ⟨W.heap.size, 0, none⟩ = some (.int .i64 leave)) ∧ Below w.heap.size w X)
        ((stays_old' (fun s X X' hb hI => ⟨hI.1, hI.2.1, TWO V.heap.size X X' (by omega) hb hI.2.2.1, (World.cell?_of_block (a := ⟨W.heap.size, 0, none⟩) (hb W.heap.size (by omega))).trans hI.2.2.2.1, (World.frozen?_of_block (a := ⟨W.heap.size, 0, none⟩) (hb W.heap.size (by omega))).trans hI.2.2.2.2⟩)).both (stays_below (by omega)))
        (fun c => (stays_old' (fun s X X' hb hI => ⟨hI.1, TWO V.heap.size X X' (by omega) hb hI.2.1, (World.cell?_of_block (a := ⟨W.heap.size, 0, none⟩) (hb W.heap.size (by omega))).trans hI.2.2⟩)).both (stays_below (by omega)))
        ⟨⟨Nat.le_refl _, ⟨T, rfl⟩, (by simp; omega),  TWV.out, cat, fat⟩, HBV.out⟩
        (fun x a' X => ∃ Bx, V.heap.size + 2 ≤ Bx ∧ Bx < X.heap.size ∧ (∀ o, X.cell? ⟨Bx, o, none⟩ = (#[Value.int .i64 x.1, .int .i64 x.2.1, .int .i64 x.2.2] : Array Value)[o]?) ∧ a' = { tmps := #[Value.agg #[Value.int .i64 count, Value.int .i64 floor, Value.slice so L.length cap], Value.int .i64 leave, Value.pointer (some ⟨w.heap.size, 0, none⟩), Value.pointer (some ⟨w.heap.size + 1, 0, none⟩), Value.pointer (some ⟨w.heap.size + 1 + 1, 0, none⟩), Value.pointer (some ⟨w1.heap.size, 0, none⟩), Value.slice (some ⟨M, 0, none⟩) L.length cM, Value.func (Fn.func 31) #[] lb, .pointer (some ⟨bt, 0, none⟩), .pointer (some ⟨W.heap.size, 0, none⟩), .pointer (some ⟨Bx, 0, none⟩), Value.agg #[Value.int .i64 count, Value.int .i64 floor, Value.slice so L.length cap], Value.bool false, undef, Value.pointer (some ⟨w.heap.size, 0, none⟩), Value.int .i64 count, Value.pointer (some ⟨w.heap.size, 1, none⟩), Value.int .i64 floor, Value.pointer (some ⟨w.heap.size, 2, none⟩), Value.slice so L.length cap, Value.int .i64 0, Value.bool true, Value.pointer (some ⟨w.heap.size, 2, none⟩), Value.slice so L.length cap, Value.slice ao (ordT L).length vcap, Value.pointer (some ⟨w.heap.size, 2, none⟩), Value.slice so L.length cap, Value.slice (some ⟨M, 0, none⟩) L.length cM, Value.pointer (some ⟨w.heap.size, 0, none⟩), Value.int .i64 count, Value.pointer (some ⟨w.heap.size, 1, none⟩), Value.int .i64 floor, Value.slice (some ⟨M, 0, none⟩) L.length cM, Value.func (Fn.func 31) #[] lb, Value.func (Fn.func 31) #[] lb, Value.bool false, Value.bool false, Value.slice (some ⟨M, 0, none⟩) L.length cM, Value.pointer (some ⟨w.heap.size, 2, none⟩), Value.slice so L.length cap, Value.bool true, Value.bool false, Value.bool false, Value.slice (some ⟨M, 0, none⟩) L.length cM, ve, .int .i64 0, .bool true, q47, q48, Value.func (Fn.func 31) #[] lb, .agg #[.int .i64 x.1, .int .i64 x.2.1, .int .i64 x.2.2], q51, q52, q53, q54, q55, q56, q57, q58, q59, q60, q61, q62, q63, q64, q65, q66, q67, q68, q69, q70, q71, q72, q73, q74, q75, q76, q77, q78, q79, q80, q81, q82, q83, q84, q85, q86, q87, q88, q89, q90, q91, q92, q93, q94, q95, undef], defers := [] })
        (fun x a' X o hx => ?_) ?assign ?body ?done ?stop
      case assign =>
        rintro l pre x X K' ⟨⟨hz, hp, hinv, hT5, hat, hatf⟩, hB⟩ hNx hlt hK
        gi_wp2
        have hb := (Below.refl X.heap.size X).alloc (Nat.le_refl _) (.cells #[Value.int .i64 x.1, .int .i64 x.2.1, .int .i64 x.2.2] 52)
        refine hK _ _ (KeepsOthers.alloc _ _) (Fix.of_below hb) ?_ ⟨X.heap.size, by omega, by simp, fun o => by simp [go_sem], rfl⟩
        exact ⟨⟨Nat.le_trans hz hb.size, hp, hinv, TWO X.heap.size _ _ (by omega) (fun b h => hb.block b h) hT5, (hb.cell (p := ⟨W.heap.size, 0, none⟩) (show W.heap.size < X.heap.size by omega)).trans hat, (hb.frozen (p := ⟨W.heap.size, 0, none⟩) (show W.heap.size < X.heap.size by omega)).trans hatf⟩, hB.trans (hb.mono hB.size)⟩
      case body =>
        rintro l pre x a' X ⟨⟨hz, -, hinv, hT5, hat, hatf⟩, hB⟩ ⟨rest, hT⟩ ⟨Bx, hBx0, hBxz, hcx, rfl⟩
        obtain ⟨y0, y1, y2⟩ := x
        have hpT : pre.length < T.length := by (rw [hT]; simp)
        have hgt : get T pre.length = (y0, y1, y2) := by
          rw [hT]
          simp [get]
        have HP := hide (show ∃ rest, T = (pre ++ [((y0, y1, y2) : U)]) ++ rest from ⟨rest, by rw [hT]; simp⟩)
        obtain ⟨gw, hao, c0, c1, c2⟩ := hT5.cells hpT
        rw [hgt] at c0 c1 c2
        simp only at c0 c1 c2
        have cw : X.cell? ⟨w1.heap.size, 0, none⟩ = some (.slice (some ⟨gw, 0, none⟩) T.length vcap) := by rw [← hao]; exact hT5.want
        have ct : X.cell? ⟨bt, 0, none⟩ = some (.int .i64 0) := hT5.turn
        have cl' := hT5.lv
        have e0 : X.cell? ⟨Bx, 0, none⟩ = some (.int .i64 y0) := hcx 0
        have e1 : X.cell? ⟨Bx, 1, none⟩ = some (.int .i64 y1) := hcx 1
        have e2 : X.cell? ⟨Bx, 2, none⟩ = some (.int .i64 y2) := hcx 2
        have HTX := hide hT5
        have HBX := hide hB
        have HAO := hide hao
        have HAT := hide hat
        have HAF := hide hatf
        have hplT : (pre.length : Int) < (T.length : Int) := by omega
        have hpl0 : (0 : Int) ≤ (pre.length : Int) := by omega
        have hge1 : decide ((T.length : Int) ≤ (pre.length : Int)) = false := by (rw [decide_eq_false_iff_not]; omega)
        have hge2 : decide (T.length ≤ pre.length) = false := by (rw [decide_eq_false_iff_not]; omega)
        have hT64 := HTL.out
        have hplm : (pre.length : Int) + 1 ≤ 4001 := by omega
        have NQ := neq52 y0 y1 y2
        clear hT5 hB hao hT hgt hcx hT64
        have FIN := hide (show ∀ (X' : World), (∀ b, b ≠ W.heap.size → X'.heap[b]? = X.heap[b]?) → X'.heap.size = X.heap.size → KeepsOthers X X' ∧ Fix (fun i => K i ∨ V.heap.size ≤ i) X X' ∧ TW (w.heap.size + 2) (w.heap.size + 1) w1.heap.size w.heap.size ao vcap leave T K w6 bt (0 : Int) Ds X' from fun X' hoth hsz => ⟨⟨by omega, fun i o hi ho => (hoth i (fun e => not_rec (by rw [← e]; exact hi) ho HAT.out)).trans hi⟩, ⟨by omega, fun i hi hl => hoth i (fun e => by
          rcases hi with hi | hi
          · have := HKI.out i hi
            omega
          · omega)⟩, TWO W.heap.size X X' hba1 (fun b hb => hoth b (by omega)) HTX.out⟩)
        by_cases hlv : (pre.length : Int) + 1 = leave
        · have HLV := hide hlv
          have b1 : decide ((pre.length : Int) + 1 = leave) = true := by simp [hlv]
          have b2 : ((pre.length : Int) + 1 == leave) = true := by simp [hlv]
          clear hlv hinv
          gi_wp2_with fail
          refine wpIn_region_quiet_round (by kernel_rfl) (by kernel_rfl) (by kernel_rfl) ?_
          repeat (gi_big_quiet_step (fail))
          refine wpQuietIn_nil ?_
          intro _ hw'
          obtain ⟨nq, hw''⟩ := hw'
          subst hw''
          gi_wp2
          have hq : (X.drewN nq).cell? ⟨W.heap.size, 0, none⟩ = some (.int .i64 (pre.length : Int)) := HAT.out
          have UF := FIN.out ((X.drewN nq).setCell ⟨W.heap.size, 0, none⟩ (.int .i64 ((pre.length : Int) + 1))) (fun b hb => heap_setCell_other _ _ _ _ hb) (by rw [World.size_setCell]; rfl)
          have UC := World.cell?_setCell_same' (X.drewN nq) ⟨W.heap.size, 0, none⟩ (.int .i64 ((pre.length : Int) + 1)) (by rw [hq]; rfl)
          have UB := (bdrewN HBX.out nq).setCell (p := ⟨W.heap.size, 0, none⟩) (by have := HBX.out.size; simp; omega) (.int .i64 ((pre.length : Int) + 1))
          have US : V.heap.size ≤ ((X.drewN nq).setCell ⟨W.heap.size, 0, none⟩ (.int .i64 ((pre.length : Int) + 1))).heap.size := by rw [World.size_setCell]; exact hz
          exact ⟨UF.1, ⟨⟨US, rfl, UF.2.2, by rw [← HLV.out]; exact UC⟩, UB⟩⟩
        · have HLV := hide (show leave ≤ 0 ∨ (pre.length : Int) + 1 < leave from by omega)
          have b1 : decide ((pre.length : Int) + 1 = leave) = false := by simp [hlv]
          have b2 : ((pre.length : Int) + 1 == leave) = false := by simp [hlv]
          clear hlv hinv
          gi_wp2_with fail
          refine wpIn_region_quiet_round (by kernel_rfl) (by kernel_rfl) (by kernel_rfl) ?_
          repeat (gi_big_quiet_step (fail))
          refine wpQuietIn_nil ?_
          intro _ hw'
          obtain ⟨nq, hw''⟩ := hw'
          subst hw''
          gi_wp2
          have hq : (X.drewN nq).cell? ⟨W.heap.size, 0, none⟩ = some (.int .i64 (pre.length : Int)) := HAT.out
          have UF := FIN.out ((X.drewN nq).setCell ⟨W.heap.size, 0, none⟩ (.int .i64 ((pre.length : Int) + 1))) (fun b hb => heap_setCell_other _ _ _ _ hb) (by rw [World.size_setCell]; rfl)
          have UC := World.cell?_setCell_same' (X.drewN nq) ⟨W.heap.size, 0, none⟩ (.int .i64 ((pre.length : Int) + 1)) (by rw [hq]; rfl)
          have UB := (bdrewN HBX.out nq).setCell (p := ⟨W.heap.size, 0, none⟩) (by have := HBX.out.size; simp; omega) (.int .i64 ((pre.length : Int) + 1))
          have US : V.heap.size ≤ ((X.drewN nq).setCell ⟨W.heap.size, 0, none⟩ (.int .i64 ((pre.length : Int) + 1))).heap.size := by rw [World.size_setCell]; exact hz
          have UE : ((pre ++ [((y0, y1, y2) : U)]).length : Int) = (pre.length : Int) + 1 := by simp
          exact ⟨UF.1, UF.2.1, ⟨⟨US, HP.out, (by rw [UE]; have := HLV.out; omega), UF.2.2, (by rw [UE]; exact UC), (by rw [World.frozen?_setCell]; exact HAF.out)⟩, UB⟩⟩
      case done =>
        rintro D ys X hD hys ⟨⟨hz, -, hinv, hT5, hat, hatf⟩, hB⟩ hKd
        rw [hys] at hat hinv
        have HTX := hide hT5
        have HBX := hide hB
        have HKD := hide hKd
        have ct : X.cell? ⟨bt, 0, none⟩ = some (.int .i64 0) := hT5.turn
        have cw := hT5.want
        have cl' := hT5.lv
        have hDl : D < X.heap.size := (Array.getElem?_eq_some_iff.1 hKd).1
        have DD : (0 + 1 = 1) → ∃ D1, D :: Ds = [D1] := fun _ => ⟨D, by rw [HD0.out]⟩
        clear hT5 hB hKd hys hinv
        have m1 : decide ((T.length : Int) = (T.length : Int)) = true := by simp
        have m2 : ((T.length : Int) != (T.length : Int)) = false := by simp
        gi_wp2
        obtain ⟨U1, U2, U3, U4⟩ := turn_box X (.int .i64 1) 3
        have hUb := HBX.out.alloc (by exact HBX.out.size) (.cells #[.int .i64 1] 3)
        exact HK2.out _ _ ⟨X.heap.size, D :: Ds, _, _, _, _, _, _, _, _, _, _, _, _, _, _, _, _, _, _, _, _, _, _, _, _, _, _, _, _, _, _, _, _, _, _, _, _, _, _, _, _, _, _, _, _, _, _, _, _, _, _, _, _, _, by omega, by omega, (fun E hE => by
          rcases List.mem_cons.1 hE with rfl | hm
          · omega
          · have := HDS.out E hm
            omega), (HTX.out.next (B := X.heap.size) (by omega) (by omega) (by omega) (by omega) (fun g e => by have := HOG.out g e; omega) (fun E hE => by have := HDS.out E hE; omega) (fun i hi => by have := HKI.out i hi; omega) U1 U2 U3 HKD.out hDl), hUb, (fun e => by omega), (fun e => by exact DD e), (fun e => by omega), rfl⟩
      case stop =>
        rintro D c pre X hD _ ⟨⟨hz, rfl, hT5, hat⟩, hB⟩ hKd
        have HTX := hide hT5
        have HBX := hide hB
        have HKD := hide hKd
        have ct : X.cell? ⟨bt, 0, none⟩ = some (.int .i64 0) := hT5.turn
        have cw := hT5.want
        have cl' := hT5.lv
        have hDl : D < X.heap.size := (Array.getElem?_eq_some_iff.1 hKd).1
        have DD : (0 + 1 = 1) → ∃ D1, D :: Ds = [D1] := fun _ => ⟨D, by rw [HD0.out]⟩
        clear hT5 hB hKd
        have k1 : decide (leave = leave) = true := by simp
        have k2 : (leave != leave) = false := by simp
        by_cases hlT : leave = (T.length : Int)
        · have m1 : decide (leave = (T.length : Int)) = true := by simp [hlT]
          have m2 : (leave != (T.length : Int)) = false := by simp [hlT]
          have HLT := hide hlT
          clear hlT
          gi_wp2
          obtain ⟨U1, U2, U3, U4⟩ := turn_box X (.int .i64 1) 3
          have hUb := HBX.out.alloc (by exact HBX.out.size) (.cells #[.int .i64 1] 3)
          exact HK2.out _ _ ⟨X.heap.size, D :: Ds, _, _, _, _, _, _, _, _, _, _, _, _, _, _, _, _, _, _, _, _, _, _, _, _, _, _, _, _, _, _, _, _, _, _, _, _, _, _, _, _, _, _, _, _, _, _, _, _, _, _, _, _, _, by omega, by omega, (fun E hE => by
            rcases List.mem_cons.1 hE with rfl | hm
            · omega
            · have := HDS.out E hm
              omega), (HTX.out.next (B := X.heap.size) (by omega) (by omega) (by omega) (by omega) (fun g e => by have := HOG.out g e; omega) (fun E hE => by have := HDS.out E hE; omega) (fun i hi => by have := HKI.out i hi; omega) U1 U2 U3 HKD.out hDl), hUb, (fun e => by omega), (fun e => by exact DD e), (fun e => by omega), rfl⟩
        · have m1 : decide (leave = (T.length : Int)) = false := by simp [hlT]
          have m2 : (leave != (T.length : Int)) = true := by simp [hlT]
          clear hlT
          gi_wp2
          obtain ⟨U1, U2, U3, U4⟩ := turn_box X (.int .i64 1) 3
          have hUb := HBX.out.alloc (by exact HBX.out.size) (.cells #[.int .i64 1] 3)
          exact HK2.out _ _ ⟨X.heap.size, D :: Ds, _, _, _, _, _, _, _, _, _, _, _, _, _, _, _, _, _, _, _, _, _, _, _, _, _, _, _, _, _, _, _, _, _, _, _, _, _, _, _, _, _, _, _, _, _, _, _, _, _, _, _, _, _, by omega, by omega, (fun E hE => by
            rcases List.mem_cons.1 hE with rfl | hm
            · omega
            · have := HDS.out E hm
              omega), (HTX.out.next (B := X.heap.size) (by omega) (by omega) (by omega) (by omega) (fun g e => by have := HOG.out g e; omega) (fun E hE => by have := HDS.out E hE; omega) (fun i hi => by have := HKI.out i hi; omega) U1 U2 U3 HKD.out hDl), hUb, (fun e => by omega), (fun e => by exact DD e), (fun e => by omega), rfl⟩
      · obtain ⟨Bx, h1, h2, h3, h4⟩ := hx
        exact ⟨Bx, h1, by simpa using h2, fun o' => (World.cell?_of_block (a := ⟨Bx, o', none⟩) (World.putObj_heap_other (by simp; omega))).trans (h3 o'), h4⟩
    · obtain rfl : t = 1 := by omega
      have HD1 := hide (hd1 rfl)
      clear hd0 hd1
      have cturn : W.cell? ⟨bt, 0, none⟩ = some (.int .i64 1) := HTW.out.turn
      have HTW0 := hide (show TW (w.heap.size + 2) (w.heap.size + 1) w1.heap.size w.heap.size ao vcap leave T K w6 bt (1 : Int) Ds W from HTW.out)
      clear HTW
      gi_wp2_with fail
      obtain ⟨V, hV⟩ : ∃ V, V = W.alloc (.cells #[.int .i64 0] 3) := ⟨_, rfl⟩
      rw [← hV]
      have hbV : Below W.heap.size W V := by rw [hV]; exact (Below.refl _ _).alloc (Nat.le_refl _) _
      have hVz : V.heap.size = W.heap.size + 1 := by rw [hV]; simp
      have cat : V.cell? ⟨W.heap.size, 0, none⟩ = some (.int .i64 0) := by rw [hV]; simp [go_sem]
      have fat : V.frozen? ⟨W.heap.size, 0, none⟩ = false := by rw [hV]; simp [go_sem]
      have TWO : ∀ (B : Nat) (X X' : World), bt < B → (∀ b, b < B → X'.heap[b]? = X.heap[b]?) → TW (w.heap.size + 2) (w.heap.size + 1) w1.heap.size w.heap.size ao vcap leave T K w6 bt (1 : Int) Ds X → TW (w.heap.size + 2) (w.heap.size + 1) w1.heap.size w.heap.size ao vcap leave T K w6 bt (1 : Int) Ds X' := fun B X X' h1 hb h => h.old (B := B) (by omega) (by omega) (by omega) (by omega) (fun g e => by have := HOG.out g e; omega) (fun E hE => by have := HDS.out E hE; omega) (fun i hi => by have := HKI.out i hi; omega) hb
      have TWV := hide (TWO W.heap.size W V hbz (fun b h => hbV.block b h) HTW0.out)
      have HBV := hide (bstep HBW.out hbV)
      have hba1 : bt < W.heap.size := by omega
      have hba2 : V.heap.size ≤ W.heap.size + 1 := by omega
      have hba3 : W.heap.size + 1 ≤ V.heap.size := by omega
      clear hV cturn hbV hVz HTW0 HBW
      refine range_R (n := 3) (by decide) (gf := 31) (lb := lb) rfl (enters_of Try.func31 (by kernel_rfl) rfl)
        (HSF.out V (TWV.out.toFix (by omega))) (fun i hi => by have := HKI.out i hi; omega) (Below.refl _ _) (fun _ => rfl)
        (fun pre X => (V.heap.size ≤ X.heap.size ∧ (∃ rest, T = pre ++ rest) ∧ TW (w.heap.size + 2) (w.heap.size + 1) w1.heap.size w.heap.size ao vcap leave T K w6 bt (1 : Int) Ds X ∧ X.cell? ⟨W.heap.size, 0, none⟩ = some (.int .i64 (pre.length : Int)) ∧ X.frozen? ⟨W.heap.size, 0, none⟩ = false) ∧ Below w.heap.size w X)
        (fun _ _ _ => False)
        ((stays_old' (fun s X X' hb hI => ⟨hI.1, TWO V.heap.size X X' (by omega) hb hI.2.1, (World.cell?_of_block (a := ⟨W.heap.size, 0, none⟩) (hb W.heap.size (by omega))).trans hI.2.2.1, (World.frozen?_of_block (a := ⟨W.heap.size, 0, none⟩) (hb W.heap.size (by omega))).trans hI.2.2.2⟩)).both (stays_below (by omega)))
        (fun _ _ _ _ hs _ => hs)
        ⟨⟨Nat.le_refl _, ⟨T, rfl⟩,  TWV.out, cat, fat⟩, HBV.out⟩
        (fun x a' X => ∃ Bx, V.heap.size + 2 ≤ Bx ∧ Bx < X.heap.size ∧ (∀ o, X.cell? ⟨Bx, o, none⟩ = (#[Value.int .i64 x.1, .int .i64 x.2.1, .int .i64 x.2.2] : Array Value)[o]?) ∧ a' = { tmps := #[Value.agg #[Value.int .i64 count, Value.int .i64 floor, Value.slice so L.length cap], Value.int .i64 leave, Value.pointer (some ⟨w.heap.size, 0, none⟩), Value.pointer (some ⟨w.heap.size + 1, 0, none⟩), Value.pointer (some ⟨w.heap.size + 1 + 1, 0, none⟩), Value.pointer (some ⟨w1.heap.size, 0, none⟩), Value.slice (some ⟨M, 0, none⟩) L.length cM, Value.func (Fn.func 31) #[] lb, .pointer (some ⟨bt, 0, none⟩), .pointer (some ⟨W.heap.size, 0, none⟩), .pointer (some ⟨Bx, 0, none⟩), Value.agg #[Value.int .i64 count, Value.int .i64 floor, Value.slice so L.length cap], Value.bool false, undef, Value.pointer (some ⟨w.heap.size, 0, none⟩), Value.int .i64 count, Value.pointer (some ⟨w.heap.size, 1, none⟩), Value.int .i64 floor, Value.pointer (some ⟨w.heap.size, 2, none⟩), Value.slice so L.length cap, Value.int .i64 0, Value.bool true, Value.pointer (some ⟨w.heap.size, 2, none⟩), Value.slice so L.length cap, Value.slice ao (ordT L).length vcap, Value.pointer (some ⟨w.heap.size, 2, none⟩), Value.slice so L.length cap, Value.slice (some ⟨M, 0, none⟩) L.length cM, Value.pointer (some ⟨w.heap.size, 0, none⟩), Value.int .i64 count, Value.pointer (some ⟨w.heap.size, 1, none⟩), Value.int .i64 floor, Value.slice (some ⟨M, 0, none⟩) L.length cM, Value.func (Fn.func 31) #[] lb, Value.func (Fn.func 31) #[] lb, Value.bool false, Value.bool false, Value.slice (some ⟨M, 0, none⟩) L.length cM, Value.pointer (some ⟨w.heap.size, 2, none⟩), Value.slice so L.length cap, Value.bool true, Value.bool false, Value.bool false, Value.slice (some ⟨M, 0, none⟩) L.length cM, ve, .int .i64 1, .bool true, q47, q48, Value.func (Fn.func 31) #[] lb, .agg #[.int .i64 x.1, .int .i64 x.2.1, .int .i64 x.2.2], q51, q52, q53, q54, q55, q56, q57, q58, q59, q60, q61, q62, q63, q64, q65, q66, q67, q68, q69, q70, q71, q72, q73, q74, q75, q76, q77, q78, q79, q80, q81, q82, q83, q84, q85, q86, q87, q88, q89, q90, q91, q92, q93, q94, q95, undef], defers := [] })
        (fun x a' X o hx => ?_) ?assign ?body ?done ?stop
      case assign =>
        rintro l pre x X K' ⟨⟨hz, hp, hT5, hat, hatf⟩, hB⟩ hNx hlt hK
        gi_wp2
        have hb := (Below.refl X.heap.size X).alloc (Nat.le_refl _) (.cells #[Value.int .i64 x.1, .int .i64 x.2.1, .int .i64 x.2.2] 52)
        refine hK _ _ (KeepsOthers.alloc _ _) (Fix.of_below hb) ?_ ⟨X.heap.size, by omega, by simp, fun o => by simp [go_sem], rfl⟩
        exact ⟨⟨Nat.le_trans hz hb.size, hp, TWO X.heap.size _ _ (by omega) (fun b h => hb.block b h) hT5, (hb.cell (p := ⟨W.heap.size, 0, none⟩) (show W.heap.size < X.heap.size by omega)).trans hat, (hb.frozen (p := ⟨W.heap.size, 0, none⟩) (show W.heap.size < X.heap.size by omega)).trans hatf⟩, hB.trans (hb.mono hB.size)⟩
      case body =>
        rintro l pre x a' X ⟨⟨hz, -, hT5, hat, hatf⟩, hB⟩ ⟨rest, hT⟩ ⟨Bx, hBx0, hBxz, hcx, rfl⟩
        obtain ⟨y0, y1, y2⟩ := x
        have hpT : pre.length < T.length := by (rw [hT]; simp)
        have hgt : get T pre.length = (y0, y1, y2) := by
          rw [hT]
          simp [get]
        have HP := hide (show ∃ rest, T = (pre ++ [((y0, y1, y2) : U)]) ++ rest from ⟨rest, by rw [hT]; simp⟩)
        obtain ⟨gw, hao, c0, c1, c2⟩ := hT5.cells hpT
        rw [hgt] at c0 c1 c2
        simp only at c0 c1 c2
        have cw : X.cell? ⟨w1.heap.size, 0, none⟩ = some (.slice (some ⟨gw, 0, none⟩) T.length vcap) := by rw [← hao]; exact hT5.want
        have ct : X.cell? ⟨bt, 0, none⟩ = some (.int .i64 1) := hT5.turn
        have cl' := hT5.lv
        have e0 : X.cell? ⟨Bx, 0, none⟩ = some (.int .i64 y0) := hcx 0
        have e1 : X.cell? ⟨Bx, 1, none⟩ = some (.int .i64 y1) := hcx 1
        have e2 : X.cell? ⟨Bx, 2, none⟩ = some (.int .i64 y2) := hcx 2
        have HTX := hide hT5
        have HBX := hide hB
        have HAO := hide hao
        have HAT := hide hat
        have HAF := hide hatf
        have hplT : (pre.length : Int) < (T.length : Int) := by omega
        have hpl0 : (0 : Int) ≤ (pre.length : Int) := by omega
        have hge1 : decide ((T.length : Int) ≤ (pre.length : Int)) = false := by (rw [decide_eq_false_iff_not]; omega)
        have hge2 : decide (T.length ≤ pre.length) = false := by (rw [decide_eq_false_iff_not]; omega)
        have hT64 := HTL.out
        have hplm : (pre.length : Int) + 1 ≤ 4001 := by omega
        have NQ := neq52 y0 y1 y2
        clear hT5 hB hao hT hgt hcx hT64
        have FIN := hide (show ∀ (X' : World), (∀ b, b ≠ W.heap.size → X'.heap[b]? = X.heap[b]?) → X'.heap.size = X.heap.size → KeepsOthers X X' ∧ Fix (fun i => K i ∨ V.heap.size ≤ i) X X' ∧ TW (w.heap.size + 2) (w.heap.size + 1) w1.heap.size w.heap.size ao vcap leave T K w6 bt (1 : Int) Ds X' from fun X' hoth hsz => ⟨⟨by omega, fun i o hi ho => (hoth i (fun e => not_rec (by rw [← e]; exact hi) ho HAT.out)).trans hi⟩, ⟨by omega, fun i hi hl => hoth i (fun e => by
          rcases hi with hi | hi
          · have := HKI.out i hi
            omega
          · omega)⟩, TWO W.heap.size X X' hba1 (fun b hb => hoth b (by omega)) HTX.out⟩)
        gi_wp2_with fail
        refine wpIn_region_quiet_round (by kernel_rfl) (by kernel_rfl) (by kernel_rfl) ?_
        repeat (gi_big_quiet_step (fail))
        refine wpQuietIn_nil ?_
        intro _ hw'
        obtain ⟨nq, hw''⟩ := hw'
        subst hw''
        gi_wp2
        have hq : (X.drewN nq).cell? ⟨W.heap.size, 0, none⟩ = some (.int .i64 (pre.length : Int)) := HAT.out
        have UF := FIN.out ((X.drewN nq).setCell ⟨W.heap.size, 0, none⟩ (.int .i64 ((pre.length : Int) + 1))) (fun b hb => heap_setCell_other _ _ _ _ hb) (by rw [World.size_setCell]; rfl)
        have UC := World.cell?_setCell_same' (X.drewN nq) ⟨W.heap.size, 0, none⟩ (.int .i64 ((pre.length : Int) + 1)) (by rw [hq]; rfl)
        have UB := (bdrewN HBX.out nq).setCell (p := ⟨W.heap.size, 0, none⟩) (by have := HBX.out.size; simp; omega) (.int .i64 ((pre.length : Int) + 1))
        have US : V.heap.size ≤ ((X.drewN nq).setCell ⟨W.heap.size, 0, none⟩ (.int .i64 ((pre.length : Int) + 1))).heap.size := by rw [World.size_setCell]; exact hz
        have UE : ((pre ++ [((y0, y1, y2) : U)]).length : Int) = (pre.length : Int) + 1 := by simp
        exact ⟨UF.1, UF.2.1, ⟨⟨US, HP.out, UF.2.2, (by rw [UE]; exact UC), (by rw [World.frozen?_setCell]; exact HAF.out)⟩, UB⟩⟩
      case done =>
        rintro D ys X hD hys ⟨⟨hz, -, hT5, hat, hatf⟩, hB⟩ hKd
        rw [hys] at hat
        have HTX := hide hT5
        have HBX := hide hB
        have HKD := hide hKd
        have ct : X.cell? ⟨bt, 0, none⟩ = some (.int .i64 1) := hT5.turn
        have cw := hT5.want
        have cl' := hT5.lv
        have hDl : D < X.heap.size := (Array.getElem?_eq_some_iff.1 hKd).1
        have DD : (1 + 1 = 2) → ∃ D1 D2, D1 < D2 ∧ D :: Ds = [D2, D1] := fun _ => by
          obtain ⟨D1, e1⟩ := HD1.out
          have := HDS.out D1 (by rw [e1]; simp)
          exact ⟨D1, D, by omega, by rw [e1]⟩
        clear hT5 hB hKd hys
        have m1 : decide ((T.length : Int) = (T.length : Int)) = true := by simp
        have m2 : ((T.length : Int) != (T.length : Int)) = false := by simp
        gi_wp2
        obtain ⟨U1, U2, U3, U4⟩ := turn_box X (.int .i64 2) 3
        have hUb := HBX.out.alloc (by exact HBX.out.size) (.cells #[.int .i64 2] 3)
        exact HK2.out _ _ ⟨X.heap.size, D :: Ds, _, _, _, _, _, _, _, _, _, _, _, _, _, _, _, _, _, _, _, _, _, _, _, _, _, _, _, _, _, _, _, _, _, _, _, _, _, _, _, _, _, _, _, _, _, _, _, _, _, _, _, _, _, by omega, by omega, (fun E hE => by
          rcases List.mem_cons.1 hE with rfl | hm
          · omega
          · have := HDS.out E hm
            omega), (HTX.out.next (B := X.heap.size) (by omega) (by omega) (by omega) (by omega) (fun g e => by have := HOG.out g e; omega) (fun E hE => by have := HDS.out E hE; omega) (fun i hi => by have := HKI.out i hi; omega) U1 U2 U3 HKD.out hDl), hUb, (fun e => by exact DD e), (fun e => by omega), (fun e => by omega), rfl⟩
      case stop =>
        rintro D c pre X _ _ hh _
        exact hh.elim
      · obtain ⟨Bx, h1, h2, h3, h4⟩ := hx
        exact ⟨Bx, h1, by simpa using h2, fun o' => (World.cell?_of_block (a := ⟨Bx, o', none⟩) (World.putObj_heap_other (by simp; omega))).trans (h3 o'), h4⟩
end Go.Proofs.Ytehpjipmlpaflaa.un
