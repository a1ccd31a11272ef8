import Derived.Test.YtimabgakemgldaaT24
import Derived.Test.YtimabgakemgldaaRG
import Derived.Sort.LoopGhostIn
import Derived.BigQuiet
import Derived.Deep.QuietTactic
import Derived.Laws.EntriesVeiled
import Derived.RangeFuncWrites
import Derived.Sort.QuietIn
import Derived.Sort.BigQuietIn
namespace Go.Proofs.Ytimabgakemgldaa
open Go.ChangeShapes Go.WideShapes Go.ChangeAt Go.RowKit Go.Deep Go.Shelf Ytimabgakemgldaa.it
set_option linter.unusedSimpArgs false
set_option linter.unusedVariables false

attribute [local go_sem] Oper.semAt_some

theorem eql115 (lb : Array Value) (w : World) : Sem.run Try.prog (binOp .eql 115 (.func (.func 61) #[] lb) .nilFunc) w = .ok (.bool false) w := by kernel_rfl
set_option maxRecDepth 100000 in
set_option maxHeartbeats 4000000 in
theorem goes_c (c cs rs : Nat) (S : List Int) (x : Int) (w : World) (h : CntIs w c cs S) (hr : w.ownsRow 0 2 1 (.slice (some ⟨rs, 0, none⟩) S.length S.length) S.length (ints S)) (hS : S.length ≤ 64) : Calls Try.prog 18 #[.pointer (some ⟨c, 0, none⟩), .slice (some ⟨rs, 0, none⟩) S.length S.length, .int .i64 x] w fun e w' => e = .returned (.bool true) ∧ Below w.heap.size w w' := by
  obtain ⟨W, hW⟩ : ∃ W, W = ((w.alloc (.cells #[.slice (some ⟨rs, 0, none⟩) S.length S.length] 59)).alloc (.cells #[.int .i64 x] 2)).alloc (.cells #[.bool false] 4) := ⟨_, rfl⟩
  have hbW : Below w.heap.size w W := by rw [hW]; (focus repeat' (first | (with_reducible exact Below.refl _ _) | (with_reducible assumption) | (with_reducible refine Below.alloc ?_ ?_ _) | (with_reducible refine Below.drew ?_) | (with_reducible refine bdrewN ?_ _) | (with_reducible refine Below.setCell ?_ ?_ _) | (first | (with_reducible exact Nat.le_refl _) | (with_reducible assumption) | omega | (simp; omega) | (simp; done))))
  have H := hide (h.below hbW)
  have HR := hide (own_stays hr (fun k e => hbW.block k (hr.lt k e).2))
  have HS := hide hS
  have HBW := hide hbW
  have cl := hide (show W.cell? ⟨w.heap.size, 0, none⟩ = some (.slice (some ⟨rs, 0, none⟩) S.length S.length) by rw [hW]; simp [go_sem])
  have cx := hide (show W.cell? ⟨w.heap.size + 1, 0, none⟩ = some (.int .i64 x) by rw [hW]; simp [go_sem])
  have cr := hide (show W.cell? ⟨w.heap.size + 2, 0, none⟩ = some (.bool false) by rw [hW]; simp [go_sem])
  have fr := hide (show W.frozen? ⟨w.heap.size + 2, 0, none⟩ = false by rw [hW]; simp [go_sem])
  have HW := hide hW
  have lrs := (hr.lt rs rfl).2
  have lc := World.block_lt_of_cell? w _ h.c
  have lcs := (h.r.lt cs rfl).2
  simp only at lc
  have Q1 := eql115
  clear h hr hS hbW hW
  refine (callsIn_wide (n := 4)).1 ?_
  refine callsIn_of_wp_marks Try.func18 rfl trivial ?_ rfl
  simp only [Try.ntmps18, List.size_toArray, List.length_cons, List.length_nil, Nat.reduceAdd, Nat.reduceSub, Array.replicate_succ, Array.replicate_zero, List.push_toArray, List.append_toArray, List.nil_append, List.cons_append]
  refine (wpIn_wide (n := 4)).2 ?_
  go_wp2_with fail
  rw [← HW.out]
  refine (CAll_c c cs S W H.out).mono ?_
  rintro e w3 ⟨rfl, hit, hb3⟩
  have HIT := hide hit
  have HB3 := hide hb3
  have lit := hit.lts.1
  obtain ⟨Bx, hBx⟩ : ∃ Bx, Bx = W.heap.size := ⟨_, rfl⟩
  rw [← hBx] at HIT lit ⊢
  have HBX : Hid (Bx = W.heap.size) := hide hBx
  have BZ3 := hide hb3
  clear hit hb3 hBx
  go_wp2_with fail
  clear Q1

  have CL := hide (cell_stay cl.out (BZ3.out.block _ (World.block_lt_of_cell? W _ cl.out)))
  have CX := hide (cell_stay cx.out (BZ3.out.block _ (World.block_lt_of_cell? W _ cx.out)))
  have CR := hide (cell_stay cr.out (BZ3.out.block _ (World.block_lt_of_cell? W _ cr.out)))
  have FRR := hide (fro_stay fr.out (BZ3.out.block _ (World.block_lt_of_cell? W _ cr.out)))
  have B8 := hide (HBW.out.trans (BZ3.out.mono HBW.out.size))
  have zw0 : w.heap.size + 2 < w3.heap.size := World.block_lt_of_cell? w3 _ CR.out
  clear cx cr fr cl HW
  refine (wpIn_wide (n := 4)).1 ?_
  refine loop_turns 2 (fun t a X => ∃ (bt : Nat) (Ds : List Nat) (q9 q10 q11 q16 q17 q18 q19 q20 q21 q22 q23 q24 q25 q26 q27 q28 q29 q30 q31 q32 q33 q34 q35 q36 q37 q38 q39 q40 q41 q42 q43 q44 q45 q46 q47 q48 q49 q50 q51 q52 q53 q54 q55 q56 q57 q58 q59 q60 q61 q62 q63 q64 q65 q66 q67 q68 q69 q70 q71 q72 q73 q74 q75 q76 q77 : Value), TI w3 bt (t : Int) Ds X ∧ Ds.length = t ∧ a = { tmps := #[.pointer (some ⟨c, 0, none⟩), .slice (some ⟨rs, 0, none⟩) S.length S.length, .int .i64 x, undef, .pointer (some ⟨w.heap.size, 0, none⟩), .pointer (some ⟨w.heap.size + 1, 0, none⟩), .pointer (some ⟨w.heap.size + 1 + 1, 0, none⟩), Value.func (Fn.func 61) #[] #[Value.pointer (some ⟨Bx, 0, none⟩)], .pointer (some ⟨bt, 0, none⟩), q9, q10, q11, .pointer (some ⟨c, 0, none⟩), Value.func (Fn.func 61) #[] #[Value.pointer (some ⟨Bx, 0, none⟩)], Value.func (Fn.func 61) #[] #[Value.pointer (some ⟨Bx, 0, none⟩)], .bool false, q16, q17, q18, q19, q20, q21, q22, q23, q24, q25, q26, q27, q28, q29, q30, q31, q32, q33, q34, q35, q36, q37, q38, q39, q40, q41, q42, q43, q44, q45, q46, q47, q48, q49, q50, q51, q52, q53, q54, q55, q56, q57, q58, q59, q60, q61, q62, q63, q64, q65, q66, q67, q68, q69, q70, q71, q72, q73, q74, q75, q76, q77], defers := Ds.map (fun D => { target := .collected D, args := #[] }) }) ?round ?last
    ⟨w3.heap.size, [], _, _, _, _, _, _, _, _, _, _, _, _, _, _, _, _, _, _, _, _, _, _, _, _, _, _, _, _, _, _, _, _, _, _, _, _, _, _, _, _, _, _, _, _, _, _, _, _, _, _, _, _, _, _, _, _, _, _, _, _, _, _, _, _, _, TI.first w3 0, rfl, rfl⟩
  case last =>
    rintro a W5 ⟨bt, Ds, q9, q10, q11, q16, q17, q18, q19, q20, q21, q22, q23, q24, q25, q26, q27, q28, q29, q30, q31, q32, q33, q34, q35, q36, q37, q38, q39, q40, q41, q42, q43, q44, q45, q46, q47, q48, q49, q50, q51, q52, q53, q54, q55, q56, q57, q58, q59, q60, q61, q62, q63, q64, q65, q66, q67, q68, q69, q70, q71, q72, q73, q74, q75, q76, q77, hTI, hDs, rfl⟩ K2
    obtain ⟨D2, D1, rfl⟩ : ∃ D2 D1, Ds = [D2, D1] := by
      match Ds, hDs with
      | [a, b], _ => exact ⟨a, b, rfl⟩
    have cturn : W5.cell? ⟨bt, 0, none⟩ = some (.int .i64 2) := hTI.turn
    have K1 := hide (fun D hD => hTI.marks D hD)
    have hnd := hTI.nodup
    have hne : D2 ≠ D1 := by simpa using hnd
    have HND := hide hne
    have C9 := hide (cell_stay CR.out (hTI.below.block _ (World.block_lt_of_cell? w3 _ CR.out)))
    have f9 := fro_stay FRR.out (hTI.below.block _ (World.block_lt_of_cell? w3 _ CR.out))
    have HB9 := hide (B8.out.trans (hTI.below.mono (by have := B8.out.size; omega)))
    have c9 := C9.out
    clear hTI hDs hnd hne
    gi_wp2
    try (refine (wpIn_wide (n := 4)).1 ?_; gi_wp2)
    have p1 : ∀ D, D ∈ [D2, D1] → (W5.setCell ⟨w.heap.size + 2, 0, none⟩ (.bool true)).heap[D]? = some (.deferred (some [])) := fun D hD => (KeepsOthers.setCell W5 ⟨w.heap.size + 2, 0, none⟩ (.bool true)).same D _ (K1.out D hD).2 rfl
    have h9 : ∀ D, D ∈ [D2, D1] → w.heap.size ≤ D := fun D hD => by have := (K1.out D hD).1; omega
    have q2 := p1 D2 (by simp)
    have q1 := (World.putObj_heap_other (w := W5.setCell ⟨w.heap.size + 2, 0, none⟩ (.bool true)) (o := .deferred none) (show D1 ≠ D2 from fun e => HND.out e.symm)).trans (p1 D1 (by simp))
    have hc2 := cell_kept (World.cell?_setCell_same' W5 ⟨w.heap.size + 2, 0, none⟩ (.bool true) (by rw [C9.out]; rfl)) (grownBy_putObj' _ D2 (.deferred none)) (fun r e => by cases e; exact ⟨_, q2, rfl⟩)
    have hc1 := cell_kept hc2 (grownBy_putObj' _ D1 (.deferred none)) (fun r e => by cases e; exact ⟨_, q1, rfl⟩)
    refine ⟨by simp, .inl ⟨_, _, rfl, run_takeDeferred q2, ?_⟩⟩
    refine ⟨by simp, .inl ⟨_, _, rfl, run_takeDeferred q1, ?_⟩⟩
    refine ⟨.bool true, ?_, rfl, (((HB9.out.setCell (p := ⟨w.heap.size + 2, 0, none⟩) (by simp) _).trans (belowK_b (w := w) (Nat.le_refl _) _ D2 _ _ (h9 _ (by simp)) q2 rfl rfl)).trans (belowK_b (w := w) (Nat.le_refl _) _ D1 _ _ (h9 _ (by simp)) q1 rfl rfl))⟩
    simp [results, Try.f18, go_sem, hc1]
  case round =>
    rintro t ht a W5 ⟨bt, Ds, q9, q10, q11, q16, q17, q18, q19, q20, q21, q22, q23, q24, q25, q26, q27, q28, q29, q30, q31, q32, q33, q34, q35, q36, q37, q38, q39, q40, q41, q42, q43, q44, q45, q46, q47, q48, q49, q50, q51, q52, q53, q54, q55, q56, q57, q58, q59, q60, q61, q62, q63, q64, q65, q66, q67, q68, q69, q70, q71, q72, q73, q74, q75, q76, q77, hTI, hDs, rfl⟩ K2 hK2
    have HTI := hide hTI
    have HK2 := hide hK2
    clear hTI hK2
    rcases Nat.lt_or_ge t 1 with h1 | h1
    · obtain rfl : t = 0 := by omega
      clear h1 ht
      have cturn : W5.cell? ⟨bt, 0, none⟩ = some (.int .i64 0) := HTI.out.turn
      have btz := HTI.out.btz
      gi_wp2_with fail
      obtain ⟨V, hV⟩ : ∃ V, V = W5.alloc (.cells #[.int .i64 0] 3) := ⟨_, rfl⟩
      rw [← hV]
      have hbV : Below W5.heap.size W5 V := by rw [hV]; exact (Below.refl _ _).alloc (Nat.le_refl _) _
      have zV : Hid (V.heap.size = W5.heap.size + 1) := by rw [hV]; exact hide (by simp)
      have v1 : V.cell? ⟨W5.heap.size, 0, none⟩ = some (.int .i64 0) := by rw [hV]; simp [go_sem]
      have v2 : V.frozen? ⟨W5.heap.size, 0, none⟩ = false := by rw [hV]; simp [go_sem]
      have hVw : Below w3.heap.size w3 V := HTI.out.below.trans (hbV.mono HTI.out.below.size)
      have z8W := HTI.out.below.size
      have z3w := BZ3.out.size
      have zww := HBW.out.size
      have HOLD := hide (show ∀ (k : Int) X, RI V W5.heap.size k X → Below w3.heap.size w3 X ∧ TI w3 bt 0 Ds X ∧ Below W5.heap.size W5 X from fun k X h => by
        have q : Below W5.heap.size W5 X := h.below hbV (by have := zV.out; omega) (Nat.le_refl _)
        exact ⟨h.below hVw (by have := zV.out; omega) (by omega), HTI.out.later q, q⟩)
      have h0 : RI V W5.heap.size 0 V := ⟨⟨rfl, rfl, rfl, Nat.le_refl _, fun _ _ _ => rfl⟩, v1, v2⟩
      have hsq : SeqR 3 Try.prog 61 #[.pointer (some ⟨Bx, 0, none⟩)] (encI S) (CntK Bx c cs) (fun xs => xs.length = S.length) (fun pre => pre.length ≤ S.length) (NxI S) V := HIT.out.seq HS.out 3 (by decide) V ⟨hVw.size, fun i _ hl => hVw.block i hl⟩
      clear hV cturn v1 v2
      refine range_R (n := 4) (by decide) (gf := 61) (lb := #[.pointer (some ⟨Bx, 0, none⟩)]) rfl (enters_of Try.func61 (by kernel_rfl) rfl)
        hsq (fun i hi => by have := HBX.out; have := zV.out; rcases hi with rfl | rfl | rfl <;> omega) (Below.refl _ _) (fun _ => rfl)
        (fun pre X => RI V W5.heap.size (pre.length : Int) X ∧ (x ≤ 0 ∨ ((pre.length : Int) : Int) < x))
        (fun c pre X => c = .exit 2 ∧ ((pre.length : Int) = x ∧ 0 < x) ∧ pre.length ≤ S.length ∧ RI V W5.heap.size (pre.length : Int) X)
        (fun pre X Y hs hb => ⟨hs.1.later (by have := zV.out; omega) hb, hs.2⟩)
        (fun c pre X Y hs hb => ⟨hs.1, hs.2.1, hs.2.2.1, hs.2.2.2.later (by have := zV.out; omega) hb⟩)
        ⟨h0, by simp; omega⟩
        (fun p a' X => a' = { tmps := #[.pointer (some ⟨c, 0, none⟩), .slice (some ⟨rs, 0, none⟩) S.length S.length, .int .i64 x, undef, .pointer (some ⟨w.heap.size, 0, none⟩), .pointer (some ⟨w.heap.size + 1, 0, none⟩), .pointer (some ⟨w.heap.size + 1 + 1, 0, none⟩), Value.func (Fn.func 61) #[] #[Value.pointer (some ⟨Bx, 0, none⟩)], .pointer (some ⟨bt, 0, none⟩), .pointer (some ⟨W5.heap.size, 0, none⟩), .int .i64 (p : Int), .int .i64 (S.getD p 0), .pointer (some ⟨c, 0, none⟩), Value.func (Fn.func 61) #[] #[Value.pointer (some ⟨Bx, 0, none⟩)], Value.func (Fn.func 61) #[] #[Value.pointer (some ⟨Bx, 0, none⟩)], .bool false, .int .i64 0, .bool true, q18, q19, Value.func (Fn.func 61) #[] #[Value.pointer (some ⟨Bx, 0, none⟩)], .int .i64 (p : Int), .int .i64 (S.getD p 0), q23, q24, q25, q26, q27, q28, q29, q30, q31, q32, q33, q34, q35, q36, q37, q38, q39, q40, q41, q42, q43, q44, q45, q46, q47, q48, q49, q50, q51, q52, q53, q54, q55, q56, q57, q58, q59, q60, q61, q62, q63, q64, q65, q66, q67, q68, q69, q70, q71, q72, q73, q74, q75, q76, q77], defers := [] })
        (fun p a' X o hx => hx) ?assign ?body ?done ?stop
      case assign =>
        rintro l pre p X K' hI hN hlt hK
        have HI := hide hI
        have HK := hide hK
        clear hI hK
        unfold encI
        obtain ⟨z, hz⟩ : ∃ z, z = S.getD p 0 := ⟨_, rfl⟩
        rw [← hz] at HK ⊢
        clear hz
        gi_wp2
        exact HK.out _ _ (KeepsOthers.refl _) (.of_below (Below.refl _ _)) HI.out rfl
      case body =>
        rintro l pre p a' X ⟨hRI, hinv⟩ ⟨rfl, hx⟩ rfl
        have HKK := hide (show ((pre ++ [pre.length]).length : Int) = (pre.length : Int) + 1 from by simp)
        obtain ⟨z, hz⟩ : ∃ z, z = S.getD pre.length 0 := ⟨_, rfl⟩
        rw [← hz]
        obtain ⟨hb3, hTX, hbW⟩ := HOLD.out _ _ hRI
        have zr : X.cell? ⟨rs, pre.length, none⟩ = some (.int .i64 z) := cell_stay ((HR.out.cellAt pre.length (by omega) : W.cell? ⟨rs, pre.length, none⟩ = (ints S)[pre.length]?).trans (by rw [hz]; exact ints_at hx)) (((BZ3.out.trans (hb3.mono BZ3.out.size)).block rs (by have := HBW.out.size; omega)))
        obtain ⟨m, hm⟩ : ∃ m, m = pre.length := ⟨_, rfl⟩
        rw [← hm] at hRI hx zr HKK hinv ⊢
        have cl' := cell_stay CL.out (hb3.block _ (World.block_lt_of_cell? w3 _ CL.out))
        have cx' := cell_stay CX.out (hb3.block _ (World.block_lt_of_cell? w3 _ CX.out))
        have ct := hTX.turn
        have cm := hRI.at_
        have fm := hRI.f
        have HRI := hide hRI
        have m9 : (m : Int) < 400 := by have := HS.out; omega
        have m0 : (0 : Int) ≤ (m : Int) := by omega
        have hmS : (m : Int) < (S.length : Int) := by omega
        have n0 : ¬ (S.length : Int) ≤ (m : Int) := by omega
        have n1 : ((m : Int) != (m : Int)) = false := by simp
        have n5 : decide ((m : Int) = (m : Int)) = true := by simp
        have n2 : decide ((S.length : Int) ≤ (m : Int)) = false := by (rw [decide_eq_false_iff_not]; omega)
        have n6 : (z != z) = false := by simp
        have FIN := hide (show KeepsOthers X (X.setCell ⟨W5.heap.size, 0, none⟩ (.int .i64 ((m : Int) + 1))) ∧ Fix (fun i => CntK Bx c cs i ∨ V.heap.size ≤ i) X (X.setCell ⟨W5.heap.size, 0, none⟩ (.int .i64 ((m : Int) + 1))) ∧ RI V W5.heap.size ((m : Int) + 1) (X.setCell ⟨W5.heap.size, 0, none⟩ (.int .i64 ((m : Int) + 1))) from
          ⟨HRI.out.keeps (fun b hb => heap_setCell_other _ _ _ _ hb) (by rw [World.size_setCell]), (Fix.of_below (Below.refl _ _)).set (by have := HBX.out; have := zV.out; rintro ((h | h | h) | h) <;> omega) _ _, HRI.out.step _⟩)
        clear hm hz hb3 hTX hbW hRI hx
        by_cases hlv : (m : Int) + 1 = x
        · have b1 : decide ((m : Int) + 1 = x) = true := by simp [hlv]
          have b2 : ((m : Int) + 1 == x) = true := by simp [hlv]
          have HLV := hide hlv
          clear hlv hinv
          gi_wp2
          have q := FIN.out
          exact ⟨q.1, rfl, by rw [HKK.out]; exact ⟨HLV.out, by have := HLV.out; omega⟩, by rw [show (pre ++ [m]).length = m + 1 from by have := HKK.out; omega]; omega, by rw [HKK.out]; exact q.2.2⟩
        · have b1 : decide ((m : Int) + 1 = x) = false := by simp [hlv]
          have b2 : ((m : Int) + 1 == x) = false := by simp [hlv]
          have HLV := hide (show (x ≤ 0 ∨ ((m : Int) + 1 : Int) < x) from by omega)
          clear hlv hinv
          gi_wp2
          have q := FIN.out
          exact ⟨q.1, q.2.1, by rw [HKK.out]; exact q.2.2, by rw [HKK.out]; exact HLV.out⟩
      case done =>
        rintro D ys X hD hys ⟨hRI, hinv⟩ hKd
        rw [hys] at hRI hinv
        obtain ⟨hb3, hTX, hbW⟩ := HOLD.out _ _ hRI
        have cl' := cell_stay CL.out (hb3.block _ (World.block_lt_of_cell? w3 _ CL.out))
        have cx' := cell_stay CX.out (hb3.block _ (World.block_lt_of_cell? w3 _ CX.out))
        have ct := hTX.turn
        have cm := hRI.at_
        have HBW5 := hide hbW
        have HDV := hide hD
        have HKD := hide hKd
        have HDS := hide hDs
        have HTX := hide hTX
        have m9 : (S.length : Int) < 400 := by have := HS.out; omega
        have e1 : ((S.length : Int) != (S.length : Int)) = false := by simp
        by_cases hx0 : x ≤ 0
        · have e2 : decide (0 < x) = false := by (rw [decide_eq_false_iff_not]; omega)
          have e3 : decide (x ≤ 0) = true := by simp [hx0]
          have e4 : ¬ 0 < x := by omega
          clear hb3 hTX hbW hRI hD hKd hys hDs hinv
          gi_wp2
          refine HK2.out _ _ ⟨X.heap.size, [D] ++ Ds, _, _, _, _, _, _, _, _, _, _, _, _, _, _, _, _, _, _, _, _, _, _, _, _, _, _, _, _, _, _, _, _, _, _, _, _, _, _, _, _, _, _, _, _, _, _, _, _, _, _, _, _, _, _, _, _, _, _, _, _, _, _, _, _, _, ?_, by have := HDS.out; simp [this], rfl⟩
          exact HTI.out.next 1 HBW5.out (fun E hE => by
            obtain rfl : E = D := by simpa using hE
            exact ⟨by have := HDV.out; have := zV.out; omega, HKD.out⟩) (by simp)
        · have e2 : decide (0 < x) = true := by (rw [decide_eq_true_iff]; omega)
          have e3 : decide (x ≤ 0) = false := by simp [hx0]
          have e4 : 0 < x := by omega
          have e5 : min x (S.length : Int) = (S.length : Int) := by omega
          have e6 : ¬ x ≤ (S.length : Int) := by omega
          clear hb3 hTX hbW hRI hD hKd hys hDs hinv
          gi_wp2
          refine HK2.out _ _ ⟨X.heap.size, [D] ++ Ds, _, _, _, _, _, _, _, _, _, _, _, _, _, _, _, _, _, _, _, _, _, _, _, _, _, _, _, _, _, _, _, _, _, _, _, _, _, _, _, _, _, _, _, _, _, _, _, _, _, _, _, _, _, _, _, _, _, _, _, _, _, _, _, _, _, ?_, by have := HDS.out; simp [this], rfl⟩
          exact HTI.out.next 1 HBW5.out (fun E hE => by
            obtain rfl : E = D := by simpa using hE
            exact ⟨by have := HDV.out; have := zV.out; omega, HKD.out⟩) (by simp)
      case stop =>
        rintro D c' pre X hD - ⟨rfl, ⟨hpx, hx0⟩, hple, hRI⟩ hKd
        obtain ⟨hb3, hTX, hbW⟩ := HOLD.out _ _ hRI
        have cl' := cell_stay CL.out (hb3.block _ (World.block_lt_of_cell? w3 _ CL.out))
        have cx' := cell_stay CX.out (hb3.block _ (World.block_lt_of_cell? w3 _ CX.out))
        have ct := hTX.turn
        have cm := hRI.at_
        have HBW5 := hide hbW
        have HDV := hide hD
        have HKD := hide hKd
        have HDS := hide hDs
        have HTX := hide hTX
        have m9 : (S.length : Int) < 400 := by have := HS.out; omega
        have e1 : ¬ x ≤ 0 := by omega
        have e2 : decide (0 < x) = true := by simp [hx0]
        have e3 : decide (x ≤ 0) = false := by simp [e1]
        have e4 : min x (S.length : Int) = x := by omega
        have e5 : ((pre.length : Int) != x) = false := by simp [hpx]
        have e6 : x ≤ (S.length : Int) := by omega
        rw [hpx] at cm
        clear hb3 hTX hbW hRI hD hKd hpx hple hDs e5
        gi_wp2
        refine HK2.out _ _ ⟨X.heap.size, [D] ++ Ds, _, _, _, _, _, _, _, _, _, _, _, _, _, _, _, _, _, _, _, _, _, _, _, _, _, _, _, _, _, _, _, _, _, _, _, _, _, _, _, _, _, _, _, _, _, _, _, _, _, _, _, _, _, _, _, _, _, _, _, _, _, _, _, _, _, ?_, by have := HDS.out; simp [this], rfl⟩
        exact HTI.out.next 1 HBW5.out (fun E hE => by
          obtain rfl : E = D := by simpa using hE
          exact ⟨by have := HDV.out; have := zV.out; omega, HKD.out⟩) (by simp)
    · obtain rfl : t = 1 := by omega
      clear h1 ht
      have cturn : W5.cell? ⟨bt, 0, none⟩ = some (.int .i64 1) := HTI.out.turn
      have btz := HTI.out.btz
      gi_wp2_with fail
      obtain ⟨V, hV⟩ : ∃ V, V = W5.alloc (.cells #[.int .i64 0] 3) := ⟨_, rfl⟩
      rw [← hV]
      have hbV : Below W5.heap.size W5 V := by rw [hV]; exact (Below.refl _ _).alloc (Nat.le_refl _) _
      have zV : Hid (V.heap.size = W5.heap.size + 1) := by rw [hV]; exact hide (by simp)
      have v1 : V.cell? ⟨W5.heap.size, 0, none⟩ = some (.int .i64 0) := by rw [hV]; simp [go_sem]
      have v2 : V.frozen? ⟨W5.heap.size, 0, none⟩ = false := by rw [hV]; simp [go_sem]
      have hVw : Below w3.heap.size w3 V := HTI.out.below.trans (hbV.mono HTI.out.below.size)
      have z8W := HTI.out.below.size
      have z3w := BZ3.out.size
      have zww := HBW.out.size
      have HOLD := hide (show ∀ (k : Int) X, RI V W5.heap.size k X → Below w3.heap.size w3 X ∧ TI w3 bt 1 Ds X ∧ Below W5.heap.size W5 X from fun k X h => by
        have q : Below W5.heap.size W5 X := h.below hbV (by have := zV.out; omega) (Nat.le_refl _)
        exact ⟨h.below hVw (by have := zV.out; omega) (by omega), HTI.out.later q, q⟩)
      have h0 : RI V W5.heap.size 0 V := ⟨⟨rfl, rfl, rfl, Nat.le_refl _, fun _ _ _ => rfl⟩, v1, v2⟩
      have hsq : SeqR 3 Try.prog 61 #[.pointer (some ⟨Bx, 0, none⟩)] (encI S) (CntK Bx c cs) (fun xs => xs.length = S.length) (fun pre => pre.length ≤ S.length) (NxI S) V := HIT.out.seq HS.out 3 (by decide) V ⟨hVw.size, fun i _ hl => hVw.block i hl⟩
      clear hV cturn v1 v2
      refine range_R (n := 4) (by decide) (gf := 61) (lb := #[.pointer (some ⟨Bx, 0, none⟩)]) rfl (enters_of Try.func61 (by kernel_rfl) rfl)
        hsq (fun i hi => by have := HBX.out; have := zV.out; rcases hi with rfl | rfl | rfl <;> omega) (Below.refl _ _) (fun _ => rfl)
        (fun pre X => RI V W5.heap.size (pre.length : Int) X ∧ 0 ≤ pre.length)
        (fun _ _ _ => False)
        (fun pre X Y hs hb => ⟨hs.1.later (by have := zV.out; omega) hb, hs.2⟩)
        (fun _ _ _ _ hs _ => hs)
        ⟨h0, Nat.zero_le _⟩
        (fun p a' X => a' = { tmps := #[.pointer (some ⟨c, 0, none⟩), .slice (some ⟨rs, 0, none⟩) S.length S.length, .int .i64 x, undef, .pointer (some ⟨w.heap.size, 0, none⟩), .pointer (some ⟨w.heap.size + 1, 0, none⟩), .pointer (some ⟨w.heap.size + 1 + 1, 0, none⟩), Value.func (Fn.func 61) #[] #[Value.pointer (some ⟨Bx, 0, none⟩)], .pointer (some ⟨bt, 0, none⟩), .pointer (some ⟨W5.heap.size, 0, none⟩), .int .i64 (p : Int), .int .i64 (S.getD p 0), .pointer (some ⟨c, 0, none⟩), Value.func (Fn.func 61) #[] #[Value.pointer (some ⟨Bx, 0, none⟩)], Value.func (Fn.func 61) #[] #[Value.pointer (some ⟨Bx, 0, none⟩)], .bool false, .int .i64 1, .bool true, q18, q19, Value.func (Fn.func 61) #[] #[Value.pointer (some ⟨Bx, 0, none⟩)], .int .i64 (p : Int), .int .i64 (S.getD p 0), q23, q24, q25, q26, q27, q28, q29, q30, q31, q32, q33, q34, q35, q36, q37, q38, q39, q40, q41, q42, q43, q44, q45, q46, q47, q48, q49, q50, q51, q52, q53, q54, q55, q56, q57, q58, q59, q60, q61, q62, q63, q64, q65, q66, q67, q68, q69, q70, q71, q72, q73, q74, q75, q76, q77], defers := [] })
        (fun p a' X o hx => hx) ?assign ?body ?done ?stop
      case assign =>
        rintro l pre p X K' hI hN hlt hK
        have HI := hide hI
        have HK := hide hK
        clear hI hK
        unfold encI
        obtain ⟨z, hz⟩ : ∃ z, z = S.getD p 0 := ⟨_, rfl⟩
        rw [← hz] at HK ⊢
        clear hz
        gi_wp2
        exact HK.out _ _ (KeepsOthers.refl _) (.of_below (Below.refl _ _)) HI.out rfl
      case body =>
        rintro l pre p a' X ⟨hRI, hinv⟩ ⟨rfl, hx⟩ rfl
        have HKK := hide (show ((pre ++ [pre.length]).length : Int) = (pre.length : Int) + 1 from by simp)
        obtain ⟨z, hz⟩ : ∃ z, z = S.getD pre.length 0 := ⟨_, rfl⟩
        rw [← hz]
        obtain ⟨hb3, hTX, hbW⟩ := HOLD.out _ _ hRI
        have zr : X.cell? ⟨rs, pre.length, none⟩ = some (.int .i64 z) := cell_stay ((HR.out.cellAt pre.length (by omega) : W.cell? ⟨rs, pre.length, none⟩ = (ints S)[pre.length]?).trans (by rw [hz]; exact ints_at hx)) (((BZ3.out.trans (hb3.mono BZ3.out.size)).block rs (by have := HBW.out.size; omega)))
        obtain ⟨m, hm⟩ : ∃ m, m = pre.length := ⟨_, rfl⟩
        rw [← hm] at hRI hx zr HKK ⊢
        have cl' := cell_stay CL.out (hb3.block _ (World.block_lt_of_cell? w3 _ CL.out))
        have cx' := cell_stay CX.out (hb3.block _ (World.block_lt_of_cell? w3 _ CX.out))
        have ct := hTX.turn
        have cm := hRI.at_
        have fm := hRI.f
        have HRI := hide hRI
        have m9 : (m : Int) < 400 := by have := HS.out; omega
        have m0 : (0 : Int) ≤ (m : Int) := by omega
        have hmS : (m : Int) < (S.length : Int) := by omega
        have n0 : ¬ (S.length : Int) ≤ (m : Int) := by omega
        have n1 : ((m : Int) != (m : Int)) = false := by simp
        have n5 : decide ((m : Int) = (m : Int)) = true := by simp
        have n2 : decide ((S.length : Int) ≤ (m : Int)) = false := by (rw [decide_eq_false_iff_not]; omega)
        have n6 : (z != z) = false := by simp
        have FIN := hide (show KeepsOthers X (X.setCell ⟨W5.heap.size, 0, none⟩ (.int .i64 ((m : Int) + 1))) ∧ Fix (fun i => CntK Bx c cs i ∨ V.heap.size ≤ i) X (X.setCell ⟨W5.heap.size, 0, none⟩ (.int .i64 ((m : Int) + 1))) ∧ RI V W5.heap.size ((m : Int) + 1) (X.setCell ⟨W5.heap.size, 0, none⟩ (.int .i64 ((m : Int) + 1))) from
          ⟨HRI.out.keeps (fun b hb => heap_setCell_other _ _ _ _ hb) (by rw [World.size_setCell]), (Fix.of_below (Below.refl _ _)).set (by have := HBX.out; have := zV.out; rintro ((h | h | h) | h) <;> omega) _ _, HRI.out.step _⟩)
        clear hm hz hb3 hTX hbW hRI hx
        gi_wp2
        have q := FIN.out
        exact ⟨q.1, q.2.1, by show RI V W5.heap.size ((pre ++ [m]).length : Int) _; rw [HKK.out]; exact q.2.2⟩
      case done =>
        rintro D ys X hD hys ⟨hRI, hinv⟩ hKd
        rw [hys] at hRI
        obtain ⟨hb3, hTX, hbW⟩ := HOLD.out _ _ hRI
        have cl' := cell_stay CL.out (hb3.block _ (World.block_lt_of_cell? w3 _ CL.out))
        have cx' := cell_stay CX.out (hb3.block _ (World.block_lt_of_cell? w3 _ CX.out))
        have ct := hTX.turn
        have cm := hRI.at_
        have HBW5 := hide hbW
        have HDV := hide hD
        have HKD := hide hKd
        have HDS := hide hDs
        have HTX := hide hTX
        have m9 : (S.length : Int) < 400 := by have := HS.out; omega
        have e1 : ((S.length : Int) != (S.length : Int)) = false := by simp
        clear hb3 hTX hbW hRI hD hKd hys hDs
        gi_wp2
        refine HK2.out _ _ ⟨X.heap.size, [D] ++ Ds, _, _, _, _, _, _, _, _, _, _, _, _, _, _, _, _, _, _, _, _, _, _, _, _, _, _, _, _, _, _, _, _, _, _, _, _, _, _, _, _, _, _, _, _, _, _, _, _, _, _, _, _, _, _, _, _, _, _, _, _, _, _, _, _, _, ?_, by have := HDS.out; simp [this], rfl⟩
        exact HTI.out.next 2 HBW5.out (fun E hE => by
          obtain rfl : E = D := by simpa using hE
          exact ⟨by have := HDV.out; have := zV.out; omega, HKD.out⟩) (by simp)
      case stop =>
        rintro D c' pre X _ _ hh _
        exact hh.elim
end Go.Proofs.Ytimabgakemgldaa
