import Derived.Test.YtalnipjaekpbhaaMh
import Derived.Deep.CutBlock
import Derived.Great.BuildSlice
namespace Go.Proofs.Ytalnipjaekpbhaa
open Go.ChangeShapes Go.WideShapes Go.ChangeAt Go.RowKit Go.Deep
set_option linter.unusedSimpArgs false
set_option linter.unusedVariables false
set_option maxRecDepth 100000 in
set_option maxHeartbeats 4000000 in
theorem LogApart_c {a b : Ord} {va vb : Value} {w : World} (ha : OrdW w a va) (hb : OrdW w b vb) : Calls Try.prog 4 #[ordV a va, ordV b vb] w fun e w' => e = .returned (.bool true) ∧ Below w.heap.size w w' := by
  obtain ⟨pa, ca, e⟩ := ha.of.val
  subst e
  obtain ⟨pb, cb, e⟩ := hb.of.val
  subst e
  obtain ⟨W0, hW0⟩ : ∃ W, W = (w.alloc (.cells (ordCells a (.slice pa a.offs.length ca)).toArray 29)).alloc (.cells (ordCells b (.slice pb b.offs.length cb)).toArray 29) := ⟨_, rfl⟩
  have q1 : Below w.heap.size w (w.alloc (.cells (ordCells a (.slice pa a.offs.length ca)).toArray 29)) := (Below.refl _ _).alloc (Nat.le_refl _) _
  have HB0 := hide (show Below w.heap.size w W0 by rw [hW0]; exact q1.alloc q1.size _)
  have HXA := hide (show BoxO W0 w.heap.size a (.slice pa a.offs.length ca) by rw [hW0]; exact (box_made w a _).below ((Below.refl _ _).alloc (Nat.le_refl _) _))
  have HXB := hide (show BoxO W0 (w.heap.size + 1) b (.slice pb b.offs.length cb) by
    rw [hW0]
    have q := box_made (w.alloc (.cells (ordCells a (.slice pa a.offs.length ca)).toArray 29)) b (.slice pb b.offs.length cb)
    rw [World.size_alloc] at q
    exact q)
  have HA := hide ha
  have HB := hide hb
  have HW := hide hW0
  clear q1 ha hb hW0
  unfold ordV
  go_enter Try.func4, Try.ntmps4
  go_upto_region 1 with fail
  rw [← HW.out]
  obtain ⟨T, hT⟩ : ∃ T, T = w.heap.size := ⟨_, rfl⟩
  obtain ⟨U, hU⟩ : ∃ T, T = w.heap.size + 1 := ⟨_, rfl⟩
  rw [← hU, ← hT]
  rw [← hT] at HXA
  rw [← hU] at HXB
  have HT := hide hT
  have HU := hide hU
  clear hT hU
  obtain ⟨i29, hi29, hz29, hs29, hb29⟩ := info_parts info29
  go_wp2_with (first
    | (refine wpList_load_mid rfl 29 _ rfl T 0 rfl (ordCells a (.slice pa a.offs.length ca)) _ ?_ Try.underlying29 rfl ?_ ?_; exact HXA.out.range; (rw [ordCells_len]; kernel_rfl))
    | (refine wpList_load_mid rfl 29 _ rfl U 0 rfl (ordCells b (.slice pb b.offs.length cb)) _ ?_ Try.underlying29 rfl ?_ ?_; exact HXB.out.range; (rw [ordCells_len]; kernel_rfl))
    | (refine wpList_buildSlice rfl 32 29 2 _ rfl ((ordCells a (.slice pa a.offs.length ca)) ++ (ordCells b (.slice pb b.offs.length cb))).toArray i29 (.agg #[Value.int .i64 0, .string ⟨#[]⟩, .int .i64 0, .int .i64 0, .int .i64 0, .int .i64 0, .int .i64 0, .int .i64 0, .int .i64 0, .int .i64 0, .int .i64 0, .int .i64 0, .int .i64 0, .int .i64 0, .int .i64 0, .int .i64 0, .slice none 0 0, .int .i64 0]) Try.underlying32 hi29 hz29 ?_ ?_ ?_ ?_; (rw [hs29]; decide); (rw [hs29]; decide); (rw [hs29]; kernel_rfl)))
  have hb1 : Below W0.heap.size W0 (W0.alloc (.cells ((ordCells a (.slice pa a.offs.length ca)) ++ (ordCells b (.slice pb b.offs.length cb))).toArray 29)) := (Below.refl _ _).alloc (Nat.le_refl _) _
  refine (great_c (OrdsW.two (HA.out.below HB0.out) (HB.out.below HB0.out))).mono ?_
  obtain ⟨W1, hW1⟩ : ∃ W1, W1 = W0.alloc (.cells ((ordCells a (.slice pa a.offs.length ca)) ++ (ordCells b (.slice pb b.offs.length cb))).toArray 29) := ⟨_, rfl⟩
  rw [← hW1] at hb1
  rw [← hW1]
  have HB1 := hide hb1
  clear hb1 hW1
  rintro e w1 ⟨r, rfl, rfl, hg⟩
  have HG := hide hg
  clear hg
  cases r with
  | true =>
    have CW := hide (works_c w1)
    go_wp2_with (go_at_call 9; (apply Calls.mono; focus (exact CW.out)); rintro e w9 ⟨rfl, hb9⟩; have HB9 := hide hb9; clear hb9)
    refine bodyPost_ret (v := .bool true) (by simp [results, Try.f4, go_sem]) rfl ⟨rfl, bstep HB0.out (bstep HB1.out HB9.out)⟩
  | false =>
    have hsm := (HG.out rfl).2
    have sa : SmallO a := hsm 0 (by simp)
    have sb_ : SmallO b := hsm 1 (by simp)
    have RA := hide (HA.out.r sa.2)
    have RB := hide (HB.out.r sb_.2)
    have IA := hide (fun (w' : World) (h : Below W0.heap.size W0 w') => (((HA.out.below HB0.out).below h).of.in_ sa.1))
    have IB := hide (fun (w' : World) (h : Below W0.heap.size W0 w') => (((HB.out.below HB0.out).below h).of.in_ sb_.1))
    have XA := hide (fun (w' : World) (h : Below W0.heap.size W0 w') => (HXA.out.below h))
    have XB := hide (fun (w' : World) (h : Below W0.heap.size W0 w') => (HXB.out.below h))
    clear hsm sa sb_ HG HA HB HXA HXB
    have C2 := hide (Form_u a (.slice pa a.offs.length ca) w1 (IA.out _ HB1.out) RA.out)
    have XA1 := hide (XA.out _ HB1.out)
    go_upto_region 4 with (first
      | (refine wpList_load_mid rfl 29 _ rfl T 0 rfl (ordCells a (.slice pa a.offs.length ca)) _ ?_ Try.underlying29 rfl ?_ ?_; exact XA1.out.range; (rw [ordCells_len]; kernel_rfl))
      | (go_at_call 11; (apply Calls.mono; focus (exact C2.out)); rintro e w2 ⟨v2, rfl, o2, hb2⟩; obtain ⟨p2, c2, rfl⟩ := own_any o2; have O2 := hide o2; have HB2 := hide (bstep HB1.out hb2); clear o2 hb2))
    have C3 := hide (Form_u b (.slice pb b.offs.length cb) w2 (IB.out _ HB2.out) RB.out)
    have XB2 := hide (XB.out _ HB2.out)
    clear C2 XA1
    go_upto_region 5 with (first
      | (refine wpList_load_mid rfl 29 _ rfl U 0 rfl (ordCells b (.slice pb b.offs.length cb)) _ ?_ Try.underlying29 rfl ?_ ?_; exact XB2.out.range; (rw [ordCells_len]; kernel_rfl))
      | (go_at_call 11; (apply Calls.mono; focus (exact C3.out)); rintro e w3 ⟨v3, rfl, o3, hb3⟩; obtain ⟨p3, c3, rfl⟩ := own_any o3; have O3 := hide o3; have HB3 := hide (bstep HB2.out hb3); have O23 := hide (own_below O2.out hb3); clear o3 hb3))
    clear C3 XB2 O2
    have C15 := hide num_c
    cases hca : chk a with
    | false =>
      have CW := hide (works_c w3)
      go_wp2_with (first
        | (go_at_call 15; (apply Calls.mono; focus (exact C15.out _ _)); rintro e wz ⟨rfl, rfl⟩)
        | (go_at_call 9; (apply Calls.mono; focus (exact CW.out)); rintro e w9 ⟨rfl, hb9⟩; have HB9 := hide hb9; clear hb9))
      refine bodyPost_ret (v := .bool true) (by simp [results, Try.f4, go_sem]) rfl ⟨rfl, bstep HB0.out (bstep HB3.out HB9.out)⟩
    | true =>
    cases hcb : chk b with
    | false =>
      have CW := hide (works_c w3)
      go_wp2_with (first
        | (go_at_call 15; (apply Calls.mono; focus (exact C15.out _ _)); rintro e wz ⟨rfl, rfl⟩)
        | (go_at_call 9; (apply Calls.mono; focus (exact CW.out)); rintro e w9 ⟨rfl, hb9⟩; have HB9 := hide hb9; clear hb9))
      refine bodyPost_ret (v := .bool true) (by simp [results, Try.f4, go_sem]) rfl ⟨rfl, bstep HB0.out (bstep HB3.out HB9.out)⟩
    | true =>
      have HKA := hide hca
      have HKB := hide hcb
      obtain ⟨FA, hFA⟩ : ∃ F, F = fO a := ⟨_, rfl⟩
      obtain ⟨FB, hFB⟩ : ∃ F, F = fO b := ⟨_, rfl⟩
      rw [← hFA] at O23
      rw [← hFB] at O3
      rw [← hFA, ← hFB]
      have fa : FA = formO a := by rw [hFA]; unfold fO; rw [hca]; rfl
      have fb : FB = formO b := by rw [hFB]; unfold fO; rw [hcb]; rfl
      have la : ∀ x ∈ FA, x < 256 := by rw [fa]; exact formO_lt RA.out ((chk_iff a).1 hca).k1 hca
      have lb : ∀ x ∈ FB, x < 256 := by rw [fb]; exact formO_lt RB.out ((chk_iff b).1 hcb).k1 hcb
      have na : FA.length ≤ 1099511627776 := by rw [fa]; have := formO_len RA.out hca; omega
      have nb : FB.length ≤ 1099511627776 := by rw [fb]; have := formO_len RB.out hcb; omega
      obtain ⟨a2, ea, sa, ga, ha64⟩ := read_again HKA.out RA.out
      obtain ⟨b2, eb, sb2, gb, hb64⟩ := read_again HKB.out RB.out
      rw [← fa] at ea
      rw [← fb] at eb
      have CRA := read_u (Read_c p2 c2 FA w3 (Row8.of_own O23.out la na))
      rw [show rdo FA = a2 from by unfold rdo; rw [ea]; rfl, show rde FA = 0 from by unfold rde; rw [ea]; rfl] at CRA
      unfold ordV at CRA
      have C4 := hide CRA
      have HFA := hide fa
      have HFB := hide fb
      have LA := hide la
      have LB := hide lb
      have NB := hide nb
      have EB := hide eb
      have SA := hide sa
      have SB := hide sb2
      have GA := hide ga
      have GB := hide gb
      have A64 := hide ha64
      have B64 := hide hb64
      clear CRA fa fb la lb na nb ea eb sa sb2 ga gb ha64 hb64 hca hcb hFA hFB
      go_upto_region 8 with (first
        | (go_at_call 15; (apply Calls.mono; focus (exact C15.out _ _)); rintro e wz ⟨rfl, rfl⟩)
        | (go_at_call 20; (apply Calls.mono; focus (exact C4.out)); rintro e w4 ⟨v4, rfl, o4, hb4⟩; obtain ⟨p4, c4, rfl⟩ := own_any o4; have O4 := hide o4; have HB4 := hide (bstep HB3.out hb4); have O24 := hide (own_below O23.out hb4); have O34 := hide (own_below O3.out hb4); clear o4 hb4)
        | (refine wpList_store_mid rfl 29 _ _ rfl w4.heap.size 0 (ordCells a2 (.slice p4 a2.offs.length c4)).toArray rfl ?_ ?_ ?_ ?_ ?_; exact rfl; exact alloc_there w4 a2 (.slice p4 a2.offs.length c4); kernel_rfl; kernel_rfl))
      obtain ⟨C, hC⟩ : ∃ C, C = w4.heap.size := ⟨_, rfl⟩
      obtain ⟨W5, hW5⟩ : ∃ W5, W5 = (w4.alloc (.cells #[Value.int .i64 0, .string ⟨#[]⟩, .int .i64 0, .int .i64 0, .int .i64 0, .int .i64 0, .int .i64 0, .int .i64 0, .int .i64 0, .int .i64 0, .int .i64 0, .int .i64 0, .int .i64 0, .int .i64 0, .int .i64 0, .int .i64 0, .slice none 0 0, .int .i64 0] 29)).setCells w4.heap.size 0 (ordCells a2 (.slice p4 a2.offs.length c4)) := ⟨_, rfl⟩
      have hb45 : Below w4.heap.size w4 W5 := by rw [hW5]; exact below_sets (Nat.le_refl _) _ _ _ ((Below.refl _ _).alloc (Nat.le_refl _) _)
      have XC5 := hide (show BoxO W5 C a2 (.slice p4 a2.offs.length c4) by rw [hW5, hC]; exact (box_made w4 (zeroO 0) _).set _ _)
      rw [show (w4.alloc (.cells #[Value.int .i64 0, .string ⟨#[]⟩, .int .i64 0, .int .i64 0, .int .i64 0, .int .i64 0, .int .i64 0, .int .i64 0, .int .i64 0, .int .i64 0, .int .i64 0, .int .i64 0, .int .i64 0, .int .i64 0, .int .i64 0, .int .i64 0, .slice none 0 0, .int .i64 0] 29)).setCells w4.heap.size 0 (ordCells a2 (.slice p4 a2.offs.length c4)).toArray.toList = W5 from hW5.symm, ← hC]
      have HB5 := hide (bstep HB4.out hb45)
      have O25 := hide (own_below O24.out hb45)
      have O35 := hide (own_below O34.out hb45)
      have O45 := hide (own_below O4.out hb45)
      clear hW5 hC hb45 O24 O34 O4 O23 O3
      have CRB := read_u (Read_c p3 c3 FB W5 (Row8.of_own O35.out LB.out NB.out))
      rw [show rdo FB = b2 from by unfold rdo; rw [EB.out]; rfl, show rde FB = 0 from by unfold rde; rw [EB.out]; rfl] at CRB
      unfold ordV at CRB
      have C6 := hide CRB
      clear CRB C4
      go_upto_region 9 with (first
        | (go_at_call 20; (apply Calls.mono; focus (exact C6.out)); rintro e w6 ⟨v6, rfl, o6, hb6⟩; obtain ⟨p6, c6, rfl⟩ := own_any o6; have O6 := hide o6; have HB6 := hide hb6; clear o6 hb6)
        | (refine wpList_store_mid rfl 29 _ _ rfl w6.heap.size 0 (ordCells b2 (.slice p6 b2.offs.length c6)).toArray rfl ?_ ?_ ?_ ?_ ?_; exact rfl; exact alloc_there w6 b2 (.slice p6 b2.offs.length c6); kernel_rfl; kernel_rfl))
      obtain ⟨D, hD⟩ : ∃ D, D = w6.heap.size := ⟨_, rfl⟩
      obtain ⟨W7, hW7⟩ : ∃ W7, W7 = (w6.alloc (.cells #[Value.int .i64 0, .string ⟨#[]⟩, .int .i64 0, .int .i64 0, .int .i64 0, .int .i64 0, .int .i64 0, .int .i64 0, .int .i64 0, .int .i64 0, .int .i64 0, .int .i64 0, .int .i64 0, .int .i64 0, .int .i64 0, .int .i64 0, .slice none 0 0, .int .i64 0] 29)).setCells w6.heap.size 0 (ordCells b2 (.slice p6 b2.offs.length c6)) := ⟨_, rfl⟩
      have hb67 : Below w6.heap.size w6 W7 := by rw [hW7]; exact below_sets (Nat.le_refl _) _ _ _ ((Below.refl _ _).alloc (Nat.le_refl _) _)
      have XD7 := hide (show BoxO W7 D b2 (.slice p6 b2.offs.length c6) by rw [hW7, hD]; exact (box_made w6 (zeroO 0) _).set _ _)
      rw [show (w6.alloc (.cells #[Value.int .i64 0, .string ⟨#[]⟩, .int .i64 0, .int .i64 0, .int .i64 0, .int .i64 0, .int .i64 0, .int .i64 0, .int .i64 0, .int .i64 0, .int .i64 0, .int .i64 0, .int .i64 0, .int .i64 0, .int .i64 0, .int .i64 0, .slice none 0 0, .int .i64 0] 29)).setCells w6.heap.size 0 (ordCells b2 (.slice p6 b2.offs.length c6)).toArray.toList = W7 from hW7.symm, ← hD]
      have hb57 := bstep HB6.out hb67
      have HB7 := hide (bstep HB5.out hb57)
      have O27 := hide (own_below O25.out hb57)
      have O37 := hide (own_below O35.out hb57)
      have O47 := hide (own_below O45.out hb57)
      have O67 := hide (own_below O6.out hb67)
      have XC7 := hide (XC5.out.below hb57)
      clear hW7 hD hb67 hb57 O25 O35 O45 O6 HB6 HB5 C6 XC5
      have C8 := Frame_u a (.slice pa a.offs.length ca) W7 (IA.out _ HB7.out) RA.out
      rw [HKA.out, cond_true] at C8
      have C8 := hide C8
      have XA7 := hide (XA.out _ HB7.out)
      go_upto_region 10 with (first
        | (refine wpList_load_mid rfl 29 _ rfl T 0 rfl (ordCells a (.slice pa a.offs.length ca)) _ ?_ Try.underlying29 rfl ?_ ?_; exact XA7.out.range; (rw [ordCells_len]; kernel_rfl))
        | (go_at_call 12; (apply Calls.mono; focus (exact C8.out)); rintro e w8 ⟨v8, rfl, o8, hb8⟩; obtain ⟨p8, c8, rfl⟩ := own_any o8; have O8 := hide o8; have HB78 := hide hb8; have HB8 := hide (bstep HB7.out hb8); clear o8 hb8))
      have C9 := Frame_u b (.slice pb b.offs.length cb) w8 (IB.out _ HB8.out) RB.out
      rw [HKB.out, cond_true] at C9
      have C9 := hide C9
      have XB8 := hide (XB.out _ HB8.out)
      clear C8 XA7
      go_upto_region 11 with (first
        | (refine wpList_load_mid rfl 29 _ rfl U 0 rfl (ordCells b (.slice pb b.offs.length cb)) _ ?_ Try.underlying29 rfl ?_ ?_; exact XB8.out.range; (rw [ordCells_len]; kernel_rfl))
        | (go_at_call 12; (apply Calls.mono; focus (exact C9.out)); rintro e w9 ⟨v9, rfl, o9, hb9⟩; obtain ⟨p9, c9, rfl⟩ := own_any o9; have O9 := hide o9; have HB79 := hide (bstep HB78.out hb9); have HB9 := hide (bstep HB8.out hb9); have O89 := hide (own_below O8.out hb9); clear o9 hb9))
      have O29 := hide (own_below O27.out HB79.out)
      have O39 := hide (own_below O37.out HB79.out)
      have O49 := hide (own_below O47.out HB79.out)
      have O69 := hide (own_below O67.out HB79.out)
      have XC9 := hide (XC7.out.below HB79.out)
      have XD9 := hide (XD7.out.below HB79.out)
      clear C9 XB8 O8 O27 O37 O47 O67 XC7 XD7 HB78 HB79 HB7 HB8
      have XA9 := hide (XA.out _ HB9.out)
      have KEEP := hide (fun (w' : World) (hb : Below w9.heap.size w9 w') => (⟨XA.out _ (bstep HB9.out hb), XB.out _ (bstep HB9.out hb), XC9.out.below hb, XD9.out.below hb, IA.out _ (bstep HB9.out hb), IB.out _ (bstep HB9.out hb), OffsIn.of_own (own_below O49.out hb) GA.out (by have := A64.out; omega), OffsIn.of_own (own_below O69.out hb) GB.out (by have := B64.out; omega)⟩ : BoxO w' T a (.slice pa a.offs.length ca) ∧ BoxO w' U b (.slice pb b.offs.length cb) ∧ BoxO w' C a2 (.slice p4 a2.offs.length c4) ∧ BoxO w' D b2 (.slice p6 b2.offs.length c6) ∧ OffsIn w' (.slice pa a.offs.length ca) a.offs ∧ OffsIn w' (.slice pb b.offs.length cb) b.offs ∧ OffsIn w' (.slice p4 a2.offs.length c4) a2.offs ∧ OffsIn w' (.slice p6 b2.offs.length c6) b2.offs))
      have N9 := hide (KEEP.out _ (Below.refl _ _))
      have CQ := Same_c a2 a (.slice p4 a2.offs.length c4) (.slice pa a.offs.length ca) w9 N9.out.2.2.2.2.2.2.1 N9.out.2.2.2.2.1
      rw [SA.out] at CQ
      unfold ordV at CQ
      have CQ1 := hide CQ
      have CQ2 := hide (fun (w' : World) (hb : Below w9.heap.size w9 w') => (show Calls Try.prog 21 #[.agg (ordCells b2 (.slice p6 b2.offs.length c6)).toArray, .agg (ordCells b (.slice pb b.offs.length cb)).toArray] w' (fun e w'' => e = .returned (.bool true) ∧ Below w'.heap.size w' w'') from by
        have q := Same_c b2 b (.slice p6 b2.offs.length c6) (.slice pb b.offs.length cb) w' (KEEP.out _ hb).2.2.2.2.2.2.2 (KEEP.out _ hb).2.2.2.2.2.1
        rw [SB.out] at q; exact q))
      have CQ3 := hide (fun (w' : World) (hb : Below w9.heap.size w9 w') => (show Calls Try.prog 21 #[.agg (ordCells a (.slice pa a.offs.length ca)).toArray, .agg (ordCells b (.slice pb b.offs.length cb)).toArray] w' (fun e w'' => e = .returned (.bool (sameO a b)) ∧ Below w'.heap.size w' w'') from Same_c a b _ _ w' (KEEP.out _ hb).2.2.2.2.1 (KEEP.out _ hb).2.2.2.2.2.1))
      obtain ⟨s, hs⟩ : ∃ s, s = sameO a b := ⟨_, rfl⟩
      rw [← hs] at CQ3
      have ga : gO a = frameO a := by unfold gO; rw [HKA.out]; rfl
      have gb' : gO b = frameO b := by unfold gO; rw [HKB.out]; rfl
      obtain ⟨GA1, hGA⟩ : ∃ F, F = gO a := ⟨_, rfl⟩
      obtain ⟨GB1, hGB⟩ : ∃ F, F = gO b := ⟨_, rfl⟩
      have E1 := hide (show ((bstr FA).toList == (bstr FB).toList) = s from rows_eq LA.out LB.out (by rw [HFA.out, HFB.out, hs]; exact form_same HKA.out HKB.out RA.out RB.out))
      have E2 := hide (show ((bstr GA1).toList == (bstr GB1).toList) = s from rows_eq (by rw [hGA, ga]; exact frameO_lt RA.out HKA.out) (by rw [hGB, gb']; exact frameO_lt RB.out HKB.out) (by rw [hGA, hGB, ga, gb', hs]; exact frame_same HKA.out HKB.out RA.out RB.out))
      rw [← hGA] at O89
      rw [← hGB] at O9
      rw [← hGA, ← hGB]
      clear CQ ga gb' hs hGA hGB
      go_upto_region 14 with (first
        | (go_at_call 15; (apply Calls.mono; focus (exact C15.out _ _)); rintro e wz ⟨rfl, rfl⟩)
        | (refine wpList_load_midG rfl 29 _ rfl C 0 rfl (ordCells a2 (.slice p4 a2.offs.length c4)) _ N9.out.2.2.1.range Try.underlying29 rfl (by rw [ordCells_len]; kernel_rfl) ?_)
        | (refine wpList_load_midG rfl 29 _ rfl T 0 rfl (ordCells a (.slice pa a.offs.length ca)) _ N9.out.1.range Try.underlying29 rfl (by rw [ordCells_len]; kernel_rfl) ?_)
        | (go_at_call 21; (apply Calls.mono; focus (with_reducible exact CQ1.out)); rintro e w10 ⟨rfl, hb10⟩; have HB10 := hide hb10; have N10 := hide (KEEP.out _ hb10); clear hb10)
        | (refine wpList_load_midG rfl 29 _ rfl D 0 rfl (ordCells b2 (.slice p6 b2.offs.length c6)) _ N10.out.2.2.2.1.range Try.underlying29 rfl (by rw [ordCells_len]; kernel_rfl) ?_)
        | (refine wpList_load_midG rfl 29 _ rfl U 0 rfl (ordCells b (.slice pb b.offs.length cb)) _ N10.out.2.1.range Try.underlying29 rfl (by rw [ordCells_len]; kernel_rfl) ?_)
        | (go_at_call 21; (apply Calls.mono; focus (with_reducible exact CQ2.out _ HB10.out)); rintro e w11 ⟨rfl, hb11⟩; have HB11 := hide (bstep HB10.out hb11); have N11 := hide (KEEP.out _ HB11.out); clear hb11)
        | (refine wpList_load_mid rfl 29 _ rfl T 0 rfl (ordCells a (.slice pa a.offs.length ca)) _ ?_ Try.underlying29 rfl ?_ ?_; exact N11.out.1.range; (rw [ordCells_len]; kernel_rfl))
        | (refine wpList_load_mid rfl 29 _ rfl U 0 rfl (ordCells b (.slice pb b.offs.length cb)) _ ?_ Try.underlying29 rfl ?_ ?_; exact N11.out.2.1.range; (rw [ordCells_len]; kernel_rfl))
        | (go_at_call 21; (apply Calls.mono; focus (with_reducible exact CQ3.out _ HB11.out)); rintro e w12 ⟨rfl, hb12⟩; have HB12 := hide (bstep HB11.out hb12); clear hb12))
      have cv2 := conv_own (own_below O29.out HB12.out)
      have cv3 := conv_own (own_below O39.out HB12.out)
      have cv8 := conv_own (own_below O89.out HB12.out)
      have cv9 := conv_own (own_below O9.out HB12.out)
      have CW := hide (works_c w12)
      have e1 := E1.out
      have e2 := E2.out
      have HBE := hide (bstep HB9.out HB12.out)
      clear E1 E2 CQ1 CQ2 CQ3 KEEP N9 N10 N11 XA XB XC9 XD9 XA9 IA IB O29 O39 O49 O69 O89 O9 HB9 HB10 HB11 HB12 C15
      cases s <;>
      · go_wp2_with (go_at_call 9; (apply Calls.mono; focus (exact CW.out)); rintro e w13 ⟨rfl, hb13⟩; have HB13 := hide hb13; clear hb13)
        refine bodyPost_ret (v := .bool true) (by simp [results, Try.f4, go_sem]) rfl ⟨rfl, bstep HB0.out (bstep HBE.out HB13.out)⟩
end Go.Proofs.Ytalnipjaekpbhaa

