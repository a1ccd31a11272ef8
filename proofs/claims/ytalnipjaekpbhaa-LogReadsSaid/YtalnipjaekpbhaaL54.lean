import Derived.Test.YtalnipjaekpbhaaL53
import Derived.Deep.CutBlock
import Derived.Great.BuildSlice
namespace Go.Proofs.Ytalnipjaekpbhaa
open Go.ChangeShapes Go.WideShapes Go.ChangeAt Go.RowKit Go.Deep
set_option linter.unusedSimpArgs false
set_option linter.unusedVariables false

theorem fO_len {o : Ord} (hr : OrdR o) : (fO o).length ≤ 2000 := by
  unfold fO
  split
  · exact formO_len hr (by assumption)
  · simp
theorem halves {ns : List Nat} {h : Nat} (hh : h ≤ ns.length) : List.flatten [part8 ns 0 h, part8 ns h ns.length] = ns := by
  show (ns.drop 0).take (h - 0) ++ ((ns.drop h).take (ns.length - h) ++ []) = ns
  rw [List.drop_zero, Nat.sub_zero, List.append_nil, List.take_of_length_le (l := ns.drop h) (by rw [List.length_drop]; exact Nat.le_refl _), List.take_append_drop]
theorem row8_cells {w : World} {p : Option Addr} {c : Nat} {ns : List Nat} (h : Row8 w p c ns) : ∀ ad, p = some ad → ∀ j u, (u8L ns)[j]? = some u → w.cell? (ad.add j) = some u := by
  rintro ad rfl j u hu
  have hj := (List.getElem?_eq_some_iff.1 hu).1
  rw [u8L_len] at hj
  obtain ⟨b, off, e, _, hc⟩ := h.bytes (fun e => by rw [e] at hj; cases hj)
  cases e
  rw [addr_add, hc j hj]
  unfold u8L at hu
  rw [List.getElem?_map, List.getElem?_eq_getElem hj] at hu
  rw [List.getD_eq_getElem?_getD, List.getElem?_eq_getElem hj]
  exact hu
set_option maxRecDepth 100000 in
set_option maxHeartbeats 4000000 in
theorem LogForms_c {o : Ord} {ov v : Value} {ns : List Nat} {w : World} (ho : OrdW w o ov) (hb : BytesW w v ns) : Calls Try.prog 3 #[ordV o ov, v] w fun e w' => e = .returned (.bool true) ∧ Below w.heap.size w w' := by
  obtain ⟨po, co, e⟩ := ho.of.val
  subst e
  obtain ⟨pq, cq, e, -, -, -⟩ := hb.val
  subst e
  obtain ⟨i29, hi29, hz29, hs29, hb29⟩ := info_parts info29
  obtain ⟨i5, hi5, hz5, hs5, hb5⟩ := info_parts info5
  obtain ⟨O, hO⟩ : ∃ O, O = w.heap.size := ⟨_, rfl⟩
  obtain ⟨W0, hW0⟩ : ∃ W, W = w.alloc (.cells (ordCells o (.slice po o.offs.length co)).toArray 29) := ⟨_, rfl⟩
  have HB00 := hide (show Below w.heap.size w W0 by rw [hW0]; exact (Below.refl _ _).alloc (Nat.le_refl _) _)
  have HX := hide (show BoxO W0 O o (.slice po o.offs.length co) by rw [hW0, hO]; exact box_made w o _)
  have HO := hide (ho.below HB00.out)
  have HBY := hide hb
  have HW := hide hW0
  clear ho hb hW0
  unfold ordV
  go_enter Try.func3, Try.ntmps3
  go_upto_region 1 with fail
  rw [← HW.out, ← hO]
  have HOO := hide hO
  clear hO
  go_wp2_with (first
    | (refine wpList_load_mid rfl 29 _ rfl O 0 rfl (ordCells o (.slice po o.offs.length co)) _ ?_ Try.underlying29 rfl ?_ ?_; exact HX.out.range; (rw [ordCells_len]; kernel_rfl))
    | (refine wpList_buildSlice rfl 32 29 1 _ rfl (ordCells o (.slice po o.offs.length co)).toArray i29 (.agg #[Value.int .i64 0, .string ⟨#[]⟩, .int .i64 0, .int .i64 0, .int .i64 0, .int .i64 0, .int .i64 0, .int .i64 0, .int .i64 0, .int .i64 0, .int .i64 0, .int .i64 0, .int .i64 0, .int .i64 0, .int .i64 0, .int .i64 0, .slice none 0 0, .int .i64 0]) Try.underlying32 hi29 hz29 ?_ ?_ ?_ ?_; (rw [hs29]; decide); (rw [hs29]; decide); (rw [hs29]; kernel_rfl)))
  have hb1 : Below W0.heap.size W0 (W0.alloc (.cells (ordCells o (.slice po o.offs.length co)).toArray 29)) := (Below.refl _ _).alloc (Nat.le_refl _) _
  refine (great_c (OrdsW.lone HO.out)).mono ?_
  obtain ⟨W1, hW1⟩ : ∃ W1, W1 = W0.alloc (.cells (ordCells o (.slice po o.offs.length co)).toArray 29) := ⟨_, rfl⟩
  rw [← hW1] at hb1
  rw [← hW1]
  have HB1 := hide hb1
  clear hb1 hW1
  rintro e w1 ⟨r, rfl, rfl, hg⟩
  have HG := hide hg
  clear hg
  have CW := hide (works_c w1)
  cases r with
  | true =>
    go_wp2_with (go_at_call 9; (apply Calls.mono; focus (exact CW.out)); rintro e w9 ⟨rfl, hb9⟩; have HB9 := hide hb9; clear hb9)
    refine bodyPost_ret (v := .bool true) (by simp [results, Try.f3, go_sem]) rfl ⟨rfl, bstep HB00.out (bstep HB1.out HB9.out)⟩
  | false =>
  by_cases hn : 100000 < ns.length
  · have hnI : (100000 : Int) < (ns.length : Int) := by omega
    go_wp2_with (go_at_call 9; (apply Calls.mono; focus (exact CW.out)); rintro e w9 ⟨rfl, hb9⟩; have HB9 := hide hb9; clear hb9)
    refine bodyPost_ret (v := .bool true) (by simp [results, Try.f3, go_sem]) rfl ⟨rfl, bstep HB00.out (bstep HB1.out HB9.out)⟩
  · have hnI : ¬ ((100000 : Int) < (ns.length : Int)) := by omega
    have hsm := (HG.out rfl).2
    have so : SmallO o := hsm 0 (by simp)
    have RO := hide (HO.out.r so.2)
    have G32 := hide (fun x hx => (HO.out.of.o1 x hx).1)
    have OL4 := hide (show o.offs.length ≤ 4398046511104 by have := so.1; omega)
    have OL := hide so.1
    have IO := hide (fun (w' : World) (h : Below W0.heap.size W0 w') => ((HO.out.below h).of.in_ so.1))
    have XO := hide (fun (w' : World) (h : Below W0.heap.size W0 w') => (HX.out.below h))
    have R8 := hide (fun (w' : World) (h : Below W0.heap.size W0 w') => ((HBY.out.row8 (by omega)).grow HB00.out).grow h)
    have L8 := hide (show ns.length ≤ 100000 by omega)
    have N8 := hide HBY.out.small
    clear hsm so HG HO HX HBY CW hn
    have C2 := hide (lent_c o (.slice po o.offs.length co) w1 (IO.out _ HB1.out) OL.out)
    have X1 := hide (XO.out _ HB1.out)
    go_upto_region 4 with (first
      | (refine wpList_load_mid rfl 29 _ rfl O 0 rfl (ordCells o (.slice po o.offs.length co)) _ ?_ Try.underlying29 rfl ?_ ?_; exact X1.out.range; (rw [ordCells_len]; kernel_rfl))
      | (go_at_call 10; (apply Calls.mono; focus (exact C2.out)); rintro e w2 ⟨gm, cm, rfl, o2, hb2⟩; have LM2 := hide (show Lent w2 w1.heap.size gm cm o from o2); have HB2 := hide (bstep HB1.out hb2); clear o2 hb2)
      | (refine wpList_store_mid rfl 29 _ _ rfl w2.heap.size 0 (ordCells o (.slice (some ⟨gm, 0, none⟩) o.offs.length cm)).toArray rfl ?_ ?_ ?_ ?_ ?_; exact rfl; exact alloc_there w2 o (.slice (some ⟨gm, 0, none⟩) o.offs.length cm); kernel_rfl; kernel_rfl))
    obtain ⟨M, hM⟩ : ∃ M, M = w2.heap.size := ⟨_, rfl⟩
    obtain ⟨w3, hw3⟩ : ∃ W, W = (w2.alloc (.cells #[Value.int .i64 0, .string ⟨#[]⟩, .int .i64 0, .int .i64 0, .int .i64 0, .int .i64 0, .int .i64 0, .int .i64 0, .int .i64 0, .int .i64 0, .int .i64 0, .int .i64 0, .int .i64 0, .int .i64 0, .int .i64 0, .int .i64 0, .slice none 0 0, .int .i64 0] 29)).setCells w2.heap.size 0 (ordCells o (.slice (some ⟨gm, 0, none⟩) o.offs.length cm)) := ⟨_, rfl⟩
    have hb23 : Below w2.heap.size w2 w3 := by rw [hw3]; exact below_sets (Nat.le_refl _) _ _ _ ((Below.refl _ _).alloc (Nat.le_refl _) _)
    have xm : BoxO w3 M o (.slice (some ⟨gm, 0, none⟩) o.offs.length cm) := by rw [hw3, hM]; exact (box_made w2 (zeroO 0) _).set _ _
    rw [show (w2.alloc (.cells #[Value.int .i64 0, .string ⟨#[]⟩, .int .i64 0, .int .i64 0, .int .i64 0, .int .i64 0, .int .i64 0, .int .i64 0, .int .i64 0, .int .i64 0, .int .i64 0, .int .i64 0, .int .i64 0, .int .i64 0, .int .i64 0, .int .i64 0, .slice none 0 0, .int .i64 0] 29)).setCells w2.heap.size 0 (ordCells o (.slice (some ⟨gm, 0, none⟩) o.offs.length cm)).toArray.toList = w3 from hw3.symm, ← hM]
    have HB3 := hide (bstep HB2.out hb23)
    have LM3 := LM2.out.below hb23
    have XM := hide (fun (w' : World) (h : Below w3.heap.size w3 w') => (xm.below h))
    have LM := hide (fun (w' : World) (h : Below w3.heap.size w3 w') => (LM3.below h))
    clear hw3 hM hb23 xm LM3 LM2 C2 X1
    have hal : Below w3.heap.size w3 (w3.alloc (.cells #[] 5)) := (Below.refl _ _).alloc (Nat.le_refl _) _
    have E0 := hide (made_row w3 5 1)
    have R83 := hide (R8.out _ (bstep HB3.out hal))
    clear hal
    go_upto_region 5 with (first
      | (at_builtin; refine wpList_append_n _ rfl _ _ 30 rfl 5 i5 (.int .u8 0) 1 1 Try.underlying30 hi5 hz5 hs5 hb5 rfl (by decide) w3.heap.size (.slice (some ⟨w3.heap.size, 0, none⟩) 0 0) 0 [] rfl E0.out pq ns.length cq (u8L ns) rfl (by rw [u8L_len, Nat.mul_one]) (fun e => by obtain ⟨q1, q2⟩ := R83.out.nil e; exact ⟨by rw [q1]; rfl, q2⟩) (row8_cells R83.out) (u8_one _) (by unfold maxLen; have := L8.out; omega) (by have := L8.out; omega) (by rw [World.size_alloc]; omega) ?_; intro v4 w4 h4 g4 _; rw [List.nil_append, Nat.zero_add] at h4; obtain ⟨p4, c4, hv4⟩ := own_any h4; subst hv4; have H4 := hide h4; have HB4 := hide (show Below w3.heap.size w3 w4 from ((Below.refl w3.heap.size w3).alloc (Nat.le_refl _) (.cells #[] 5)).grown g4 (by rw [World.size_alloc]; omega) (fun r e => by have e2 : w3.heap.size = r := Option.some.inj e; omega)); have A4 := hide (show (w4.alloc (.cells #[.int .u8 165] 5)).ownsRow w3.heap.size 5 1 (.slice p4 ns.length c4) ns.length (u8L ns) ∧ (w4.alloc (.cells #[.int .u8 165] 5)).ownsRow w4.heap.size 5 1 (.slice (some ⟨w4.heap.size, 0, none⟩) 1 1) 1 (u8L [165]) from ⟨own_below h4 ((Below.refl _ _).alloc (Nat.le_refl _) _), World.ownsRow_lit (size := 1) (base := w4.heap.size) (e := 5) w4 #[.int .u8 165] 1 (Nat.le_refl _) (by decide) rfl⟩); have BA4 := hide (show Below w3.heap.size w3 (w4.alloc (.cells #[.int .u8 165] 5)) from bstep HB4.out ((Below.refl _ _).alloc (Nat.le_refl _) _)); clear h4 g4)
      | (at_builtin; refine wpList_append_n _ rfl _ _ 30 rfl 5 i5 (.int .u8 0) 1 1 Try.underlying30 hi5 hz5 hs5 hb5 rfl (by decide) w3.heap.size (.slice p4 ns.length c4) ns.length (u8L ns) rfl A4.out.1 (some ⟨w4.heap.size, 0, none⟩) 1 1 (u8L [165]) rfl rfl (fun e => by cases e) (fun ad e => by cases e; exact own_cells A4.out.2) (u8_one _) (by unfold maxLen; have := L8.out; omega) (by have := L8.out; omega) BA4.out.size ?_; intro v5 w5 h5 g5 _; obtain ⟨gy, cy, hv5, -, -⟩ := h5.form (Nat.succ_pos _); subst hv5; have HY := hide (show w5.ownsRow w3.heap.size 5 1 (.slice (some ⟨gy, 0, none⟩) (ns.length + 1) cy) (ns.length + 1) (u8L (ns ++ [165])) from by rw [u8L_app]; exact h5); have HB5' := hide (BA4.out.grown g5 BA4.out.size (fun r e => (A4.out.1.lt r e).1)); clear h5 g5))
    have HB5 := hide HB5'.out
    clear HB5' A4 BA4 HB4 H4 E0 R83
    obtain ⟨ec, hec⟩ : ∃ x : Int, x = cond (chk o) 0 2 := ⟨_, rfl⟩
    obtain ⟨FO, hfo⟩ : ∃ F, F = fO o := ⟨_, rfl⟩
    obtain ⟨GO, hgo⟩ : ∃ F, F = gO o := ⟨_, rfl⟩
    have F11 := hide (fun (w' : World) (h : Below w3.heap.size w3 w') => (show Calls Try.prog 11 #[.agg (ordCells o (.slice (some ⟨gm, 0, none⟩) o.offs.length cm)).toArray] w' (fun e w'' => ∃ v, e = .returned (.tuple #[v, .int .i64 ec]) ∧ w''.ownsRow w'.heap.size 5 1 v FO.length (u8L FO) ∧ Below w'.heap.size w' w'') from by
      have q := Form_u o _ w' ((LM.out _ h).in_ G32.out OL4.out) RO.out
      rw [← hec, ← hfo] at q
      exact q))
    have F12 := hide (fun (w' : World) (h : Below w3.heap.size w3 w') => (show Calls Try.prog 12 #[.agg (ordCells o (.slice (some ⟨gm, 0, none⟩) o.offs.length cm)).toArray] w' (fun e w'' => ∃ v, e = .returned (.tuple #[v, .int .i64 ec]) ∧ w''.ownsRow w'.heap.size 5 1 v GO.length (u8L GO) ∧ Below w'.heap.size w' w'') from by
      have q := Frame_u o _ w' ((LM.out _ h).in_ G32.out OL4.out) RO.out
      rw [← hec, ← hgo] at q
      exact q))
    have F13 := hide (fun (w' : World) (h : Below w3.heap.size w3 w') => (show Calls Try.prog 13 #[.agg (ordCells o (.slice po o.offs.length co)).toArray] w' (fun e w'' => ∃ v, e = .returned (.tuple #[v, .int .i64 ec]) ∧ w''.ownsRow w'.heap.size 5 1 v FO.length (u8L FO) ∧ Below w'.heap.size w' w'') from by
      have q := rForm_u o _ w' (IO.out _ (bstep HB3.out h)) RO.out
      rw [← hec, ← hfo] at q
      exact q))
    have F14 := hide (fun (w' : World) (h : Below w3.heap.size w3 w') => (show Calls Try.prog 14 #[.agg (ordCells o (.slice po o.offs.length co)).toArray] w' (fun e w'' => ∃ v, e = .returned (.tuple #[v, .int .i64 ec]) ∧ w''.ownsRow w'.heap.size 5 1 v GO.length (u8L GO) ∧ Below w'.heap.size w' w'') from by
      have q := rFrame_u o _ w' (IO.out _ (bstep HB3.out h)) RO.out
      rw [← hec, ← hgo] at q
      exact q))
    have F16 := hide (fun (w' : World) (h : Below w3.heap.size w3 w') => (show Calls Try.prog 16 #[.agg (ordCells o (.slice (some ⟨gm, 0, none⟩) o.offs.length cm)).toArray] w' (fun e w'' => e = .returned (.int .i64 ec) ∧ Below w'.heap.size w' w'') from by
      have q := Check_c o _ w' ((LM.out _ h).in_ G32.out OL4.out)
      rw [← hec] at q
      exact q))
    have F17 := hide (fun (w' : World) (h : Below w3.heap.size w3 w') => kept_c o gm cm _ _ w' (LM.out _ h) (IO.out _ (bstep HB3.out h)) OL.out)
    have HFL := hide (show FO.length ≤ 2000 by rw [hfo]; exact fO_len RO.out)
    clear hec hfo hgo
    have X6 := hide (XM.out _ HB5.out)
    have C6 := hide (F11.out _ HB5.out)
    go_upto_region 6 with (first
      | (refine wpList_load_mid rfl 29 _ rfl M 0 rfl (ordCells o (.slice (some ⟨gm, 0, none⟩) o.offs.length cm)) _ ?_ Try.underlying29 rfl ?_ ?_; exact X6.out.range; (rw [ordCells_len]; kernel_rfl))
      | (go_at_call 11; (apply Calls.mono; focus (exact C6.out)); rintro e w6 ⟨v6, rfl, ow, hb⟩; obtain ⟨p6, c6, rfl⟩ := own_any ow; have N6 := hide ow; have HB6 := hide (bstep HB5.out hb); replace HY := hide (own_below HY.out hb); have GB6 := hide hb.size; clear ow hb))
    clear C6 X6
    have GX6 := hide (show ∀ k, (Value.slice p6 FO.length c6).ownBlock = some k → k < w6.heap.size from fun k hk => (N6.out.lt k hk).2)
    have X7 := hide (XM.out _ HB6.out)
    have C7 := hide (F11.out _ HB6.out)
    go_upto_region 7 with (first
      | (refine wpList_load_mid rfl 29 _ rfl M 0 rfl (ordCells o (.slice (some ⟨gm, 0, none⟩) o.offs.length cm)) _ ?_ Try.underlying29 rfl ?_ ?_; exact X7.out.range; (rw [ordCells_len]; kernel_rfl))
      | (go_at_call 11; (apply Calls.mono; focus (exact C7.out)); rintro e w7 ⟨v7, rfl, ow, hb⟩; obtain ⟨p7, c7, rfl⟩ := own_any ow; have N7 := hide ow; have HB7 := hide (bstep HB6.out hb); replace HY := hide (own_below HY.out hb); replace N6 := hide (own_below N6.out hb); have GB7 := hide hb.size; clear ow hb))
    clear C7 X7
    have X8 := hide (XM.out _ HB7.out)
    have C8 := hide (F12.out _ HB7.out)
    go_upto_region 8 with (first
      | (refine wpList_load_mid rfl 29 _ rfl M 0 rfl (ordCells o (.slice (some ⟨gm, 0, none⟩) o.offs.length cm)) _ ?_ Try.underlying29 rfl ?_ ?_; exact X8.out.range; (rw [ordCells_len]; kernel_rfl))
      | (go_at_call 12; (apply Calls.mono; focus (exact C8.out)); rintro e w8 ⟨v8, rfl, ow, hb⟩; obtain ⟨p8, c8, rfl⟩ := own_any ow; have N8x := hide ow; have HB8 := hide (bstep HB7.out hb); replace HY := hide (own_below HY.out hb); replace N6 := hide (own_below N6.out hb); replace N7 := hide (own_below N7.out hb); have GB8 := hide hb.size; clear ow hb))
    clear C8 X8
    have X9 := hide (XO.out _ (bstep HB3.out HB8.out))
    have C9 := hide (F13.out _ HB8.out)
    go_upto_region 9 with (first
      | (refine wpList_load_mid rfl 29 _ rfl O 0 rfl (ordCells o (.slice po o.offs.length co)) _ ?_ Try.underlying29 rfl ?_ ?_; exact X9.out.range; (rw [ordCells_len]; kernel_rfl))
      | (go_at_call 13; (apply Calls.mono; focus (exact C9.out)); rintro e w9 ⟨v9, rfl, ow, hb⟩; obtain ⟨p9, c9, rfl⟩ := own_any ow; have N9 := hide ow; have HB9 := hide (bstep HB8.out hb); replace HY := hide (own_below HY.out hb); replace N6 := hide (own_below N6.out hb); replace N7 := hide (own_below N7.out hb); replace N8x := hide (own_below N8x.out hb); have GB9 := hide hb.size; clear ow hb))
    clear C9 X9
    have X10 := hide (XO.out _ (bstep HB3.out HB9.out))
    have C10 := hide (F14.out _ HB9.out)
    go_upto_region 10 with (first
      | (refine wpList_load_mid rfl 29 _ rfl O 0 rfl (ordCells o (.slice po o.offs.length co)) _ ?_ Try.underlying29 rfl ?_ ?_; exact X10.out.range; (rw [ordCells_len]; kernel_rfl))
      | (go_at_call 14; (apply Calls.mono; focus (exact C10.out)); rintro e w10 ⟨v10, rfl, ow, hb⟩; obtain ⟨p10, c10, rfl⟩ := own_any ow; have N10 := hide ow; have HB10 := hide (bstep HB9.out hb); replace HY := hide (own_below HY.out hb); replace N6 := hide (own_below N6.out hb); replace N7 := hide (own_below N7.out hb); replace N8x := hide (own_below N8x.out hb); replace N9 := hide (own_below N9.out hb); have GB10 := hide hb.size; clear ow hb))
    clear C10 X10
    obtain ⟨hf, hhf⟩ : ∃ x, x = ns.length / 2 := ⟨_, rfl⟩
    have hq := tdiv_two ns.length
    rw [← hhf] at hq
    have hf1 : hf ≤ ns.length := by omega
    have hcy := own_cap HY.out
    have i1 : (ns.length : Int) ≤ (cy : Int) := by omega
    have i2 : (hf : Int) ≤ (cy : Int) := by omega
    have i3 : (hf : Int) ≤ (ns.length : Int) := by omega
    have i4 : (0 : Int) ≤ (hf : Int) := by omega
    have i8 : ¬ (cy = hf) := by omega
    have i5 : (0 : Int) ≤ (ns.length : Int) := by omega
    have i6 : (ns.length : Int) < ((ns.length + 1 : Nat) : Int) := by omega
    have i7 : (ns.length : Int) < (ns.length : Int) + 1 := by omega
    have HHF := hide hhf
    clear hhf
    have RY8 := hide (fun (wq : World) (h : Below w10.heap.size w10 wq) => row_part (own_below HY.out h) N8.out (by have := L8.out; omega))
    have SK := hide (fun (wq : World) (h : Below w10.heap.size w10 wq) => (show wq.rangeAt M 0 (ordCells o (.slice (some ⟨gm, 0, none⟩) o.offs.length cm)) ∧ wq.rangeAt O 0 (ordCells o (.slice po o.offs.length co)) ∧ Sem.run Try.prog (convert 30 9 (.slice p6 FO.length c6)) wq = .ok (.string (bstr FO)) wq ∧ Sem.run Try.prog (convert 30 9 (.slice p9 FO.length c9)) wq = .ok (.string (bstr FO)) wq ∧ Sem.run Try.prog (convert 30 9 (.slice p8 GO.length c8)) wq = .ok (.string (bstr GO)) wq ∧ Sem.run Try.prog (convert 30 9 (.slice p10 GO.length c10)) wq = .ok (.string (bstr GO)) wq ∧ Sem.run Try.prog (convert 30 9 (.slice (some ⟨gy, 0, none⟩) ns.length cy)) wq = .ok (.string (bstr ns)) wq ∧ Sem.run Try.prog (convert 30 9 (.slice pq ns.length cq)) wq = .ok (.string (bstr ns)) wq ∧ wq.cell? ⟨gy, ns.length, none⟩ = some (.int .u8 165) from ⟨(XM.out _ (bstep HB10.out h)).range, (XO.out _ (bstep HB3.out (bstep HB10.out h))).range, conv_own (own_below N6.out h), conv_own (own_below N9.out h), conv_own (own_below N8x.out h), conv_own (own_below N10.out h), conv_row8 (RY8.out _ h), conv_row8 (R8.out _ (bstep HB3.out (bstep HB10.out h))), row_last (own_below HY.out h)⟩))
    go_upto_region 11 with fail
    simp only [List.append_eq, List.cons_append, List.nil_append]
    refine wp_regionX (fun wq => wq.rangeAt M 0 (ordCells o (.slice (some ⟨gm, 0, none⟩) o.offs.length cm)) ∧ wq.rangeAt O 0 (ordCells o (.slice po o.offs.length co)) ∧ Sem.run Try.prog (convert 30 9 (.slice p6 FO.length c6)) wq = .ok (.string (bstr FO)) wq ∧ Sem.run Try.prog (convert 30 9 (.slice p9 FO.length c9)) wq = .ok (.string (bstr FO)) wq ∧ Sem.run Try.prog (convert 30 9 (.slice p8 GO.length c8)) wq = .ok (.string (bstr GO)) wq ∧ Sem.run Try.prog (convert 30 9 (.slice p10 GO.length c10)) wq = .ok (.string (bstr GO)) wq ∧ Sem.run Try.prog (convert 30 9 (.slice (some ⟨gy, 0, none⟩) ns.length cy)) wq = .ok (.string (bstr ns)) wq ∧ Sem.run Try.prog (convert 30 9 (.slice pq ns.length cq)) wq = .ok (.string (bstr ns)) wq ∧ wq.cell? ⟨gy, ns.length, none⟩ = some (.int .u8 165)) (fun n => true) (by kernel_rfl) (SK.out _ (drewB _)) (fun hH0 => ?_)
    have B0 := hide (drewB w10)
    obtain ⟨wd, hwd⟩ : ∃ q, q = w10.drew := ⟨_, rfl⟩
    rw [← hwd] at B0 hH0
    rw [← hwd]
    clear hwd
    refine wpAnyX_take (i := 0) (oi := ?oi0) (v := ?v0) ?ho0 (by kernel_rfl) (by kernel_rfl) (by kernel_rfl) (by kernel_rfl) ?hp0 ?hy0 hH0 ?hr0
    case ho0 => (simp only [List.getElem?_toArray, List.getElem?_cons_succ, List.getElem?_cons_zero]; exact rfl)
    case hp0 => exact fun _ _ _ h => h
    case hy0 =>
      refine yieldsIf_load_mid ?_ 29 (.tmp 5) ?_ M 0 ?_ (ordCells o (.slice (some ⟨gm, 0, none⟩) o.offs.length cm)) _ ?_ Try.underlying29 ?_ ?_
      · rfl
      · exact rfl
      · exact rfl
      · exact (fun _ h => h.1)
      · rfl
      · rw [ordCells_len]; kernel_rfl
    case hr0 =>
    (try simp only [Act.put, List.setIfInBounds_toArray, List.set_cons_zero, List.set_cons_succ])
    refine wpAnyX_take (i := 3) (oi := ?oi3) (v := ?v3) ?ho3 (by kernel_rfl) (by kernel_rfl) (by kernel_rfl) (by kernel_rfl) ?hp3 ?hy3 hH0 ?hr3
    case ho3 => (simp only [List.getElem?_toArray, List.getElem?_cons_succ, List.getElem?_cons_zero]; exact rfl)
    case hp3 => exact fun _ _ _ h => h
    case hy3 => (refine Or.inl ⟨by rfl, ?_⟩; intro w hSw; (try dsimp only at hSw); (try go_split_ands); go_simp; (try (with_reducible rfl)))
    case hr3 =>
    (try simp only [Act.put, List.setIfInBounds_toArray, List.set_cons_zero, List.set_cons_succ])
    refine wpAnyX_pick (rs := [1]) (by kernel_rfl) (by simp) (AllX.cons (o := ?oi1r) ?ho1r (fun K hK => ?hr1r) (AllX.nil))
    case ho1r => (simp only [List.getElem?_toArray, List.getElem?_cons_succ, List.getElem?_cons_zero]; exact rfl)
    case hr1r =>
      go_simp
      refine (F16.out _ (bstep HB10.out B0.out)).mono ?_
      rintro e wa ⟨rfl, hb⟩
      have B1 := hide (bstep B0.out hb)
      clear hb
      refine hK.out _ _ (fun _ => SK.out _ B1.out) ?_
      clear hK K
      (try simp only [Act.put, List.setIfInBounds_toArray, List.set_cons_zero, List.set_cons_succ])
      have hH1 := SK.out _ B1.out
      refine wpAnyX_pick (rs := [2]) (by kernel_rfl) (by simp) (AllX.cons (o := ?oi2r) ?ho2r (fun K hK => ?hr2r) (AllX.nil))
      case ho2r => (simp only [List.getElem?_toArray, List.getElem?_cons_succ, List.getElem?_cons_zero]; exact rfl)
      case hr2r =>
        go_simp
        refine (num_c _ _).mono ?_
        rintro e wz ⟨rfl, hz⟩
        subst wz
        refine hK.out _ _ (fun _ => SK.out _ B1.out) ?_
        clear hK K
        (try simp only [Act.put, List.setIfInBounds_toArray, List.set_cons_zero, List.set_cons_succ])
        have hH2 := SK.out _ B1.out
        refine wpAnyX_take (i := 4) (oi := ?oi4) (v := ?v4) ?ho4 (by kernel_rfl) (by kernel_rfl) (by kernel_rfl) (by kernel_rfl) ?hp4 ?hy4 hH2 ?hr4
        case ho4 => (simp only [List.getElem?_toArray, List.getElem?_cons_succ, List.getElem?_cons_zero]; exact rfl)
        case hp4 => exact fun _ _ _ h => h
        case hy4 => (refine Or.inl ⟨by rfl, ?_⟩; intro w hSw; (try dsimp only at hSw); (try go_split_ands); go_simp; (try (with_reducible rfl)))
        case hr4 =>
        (try simp only [Act.put, List.setIfInBounds_toArray, List.set_cons_zero, List.set_cons_succ])
        refine wpAnyX_take (i := 5) (oi := ?oi5) (v := ?v5) ?ho5 (by kernel_rfl) (by kernel_rfl) (by kernel_rfl) (by kernel_rfl) ?hp5 ?hy5 hH2 ?hr5
        case ho5 => (simp only [List.getElem?_toArray, List.getElem?_cons_succ, List.getElem?_cons_zero]; exact rfl)
        case hp5 => exact fun _ _ _ h => h
        case hy5 => (refine Or.inl ⟨by rfl, ?_⟩; intro w hSw; (try dsimp only at hSw); (try go_split_ands); go_simp; (try (with_reducible rfl)))
        case hr5 =>
        (try simp only [Act.put, List.setIfInBounds_toArray, List.set_cons_zero, List.set_cons_succ])
        refine wpAnyX_take (i := 6) (oi := ?oi6) (v := ?v6) ?ho6 (by kernel_rfl) (by kernel_rfl) (by kernel_rfl) (by kernel_rfl) ?hp6 ?hy6 hH2 ?hr6
        case ho6 => (simp only [List.getElem?_toArray, List.getElem?_cons_succ, List.getElem?_cons_zero]; exact rfl)
        case hp6 => exact fun _ _ _ h => h
        case hy6 => (refine Or.inl ⟨by rfl, ?_⟩; intro w hSw; (try dsimp only at hSw); (try go_split_ands); go_simp; (try (with_reducible rfl)))
        case hr6 =>
        (try simp only [Act.put, List.setIfInBounds_toArray, List.set_cons_zero, List.set_cons_succ])
        refine wpAnyX_take (i := 8) (oi := ?oi8) (v := ?v8) ?ho8 (by kernel_rfl) (by kernel_rfl) (by kernel_rfl) (by kernel_rfl) ?hp8 ?hy8 hH2 ?hr8
        case ho8 => (simp only [List.getElem?_toArray, List.getElem?_cons_succ, List.getElem?_cons_zero]; exact rfl)
        case hp8 => exact fun _ _ _ h => h
        case hy8 => (refine Or.inl ⟨by rfl, ?_⟩; intro w hSw; (try dsimp only at hSw); (try go_split_ands); go_simp; (try (with_reducible rfl)))
        case hr8 =>
        (try simp only [Act.put, List.setIfInBounds_toArray, List.set_cons_zero, List.set_cons_succ])
        refine wpAnyX_take (i := 7) (oi := ?oi7) (v := ?v7) ?ho7 (by kernel_rfl) (by kernel_rfl) (by kernel_rfl) (by kernel_rfl) ?hp7 ?hy7 hH2 ?hr7
        case ho7 => (simp only [List.getElem?_toArray, List.getElem?_cons_succ, List.getElem?_cons_zero]; exact rfl)
        case hp7 => exact fun _ _ _ h => h
        case hy7 => (refine Or.inl ⟨by rfl, ?_⟩; intro w hSw; (try dsimp only at hSw); (try go_split_ands); go_simp; (try (with_reducible rfl)))
        case hr7 =>
        (try simp only [Act.put, List.setIfInBounds_toArray, List.set_cons_zero, List.set_cons_succ])
        refine wpAnyX_take (i := 9) (oi := ?oi9) (v := ?v9) ?ho9 (by kernel_rfl) (by kernel_rfl) (by kernel_rfl) (by kernel_rfl) ?hp9 ?hy9 hH2 ?hr9
        case ho9 => (simp only [List.getElem?_toArray, List.getElem?_cons_succ, List.getElem?_cons_zero]; exact rfl)
        case hp9 => exact fun _ _ _ h => h
        case hy9 => (refine Or.inl ⟨by rfl, ?_⟩; intro w hSw; (try dsimp only at hSw); (try go_split_ands); go_simp; (try (with_reducible rfl)))
        case hr9 =>
        (try simp only [Act.put, List.setIfInBounds_toArray, List.set_cons_zero, List.set_cons_succ])
        refine wpAnyX_take (i := 10) (oi := ?oi10) (v := ?v10) ?ho10 (by kernel_rfl) (by kernel_rfl) (by kernel_rfl) (by kernel_rfl) ?hp10 ?hy10 hH2 ?hr10
        case ho10 => (simp only [List.getElem?_toArray, List.getElem?_cons_succ, List.getElem?_cons_zero]; exact rfl)
        case hp10 => exact fun _ _ _ h => h
        case hy10 => (refine Or.inl ⟨by rfl, ?_⟩; intro w hSw; (try dsimp only at hSw); (try go_split_ands); go_simp; (try (with_reducible rfl)))
        case hr10 =>
        (try simp only [Act.put, List.setIfInBounds_toArray, List.set_cons_zero, List.set_cons_succ])
        refine wpAnyX_take (i := 11) (oi := ?oi11) (v := ?v11) ?ho11 (by kernel_rfl) (by kernel_rfl) (by kernel_rfl) (by kernel_rfl) ?hp11 ?hy11 hH2 ?hr11
        case ho11 => (simp only [List.getElem?_toArray, List.getElem?_cons_succ, List.getElem?_cons_zero]; exact rfl)
        case hp11 => exact fun _ _ _ h => h
        case hy11 => (refine Or.inl ⟨by rfl, ?_⟩; intro w hSw; (try dsimp only at hSw); (try go_split_ands); go_simp; (try (with_reducible rfl)))
        case hr11 =>
        (try simp only [Act.put, List.setIfInBounds_toArray, List.set_cons_zero, List.set_cons_succ])
        refine wpAnyX_take (i := 12) (oi := ?oi12) (v := ?v12) ?ho12 (by kernel_rfl) (by kernel_rfl) (by kernel_rfl) (by kernel_rfl) ?hp12 ?hy12 hH2 ?hr12
        case ho12 => (simp only [List.getElem?_toArray, List.getElem?_cons_succ, List.getElem?_cons_zero]; exact rfl)
        case hp12 => exact fun _ _ _ h => h
        case hy12 => (refine Or.inl ⟨by rfl, ?_⟩; intro w hSw; (try dsimp only at hSw); (try go_split_ands); go_simp; (try (with_reducible rfl)))
        case hr12 =>
        (try simp only [Act.put, List.setIfInBounds_toArray, List.set_cons_zero, List.set_cons_succ])
        refine wpAnyX_take (i := 13) (oi := ?oi13) (v := ?v13) ?ho13 (by kernel_rfl) (by kernel_rfl) (by kernel_rfl) (by kernel_rfl) ?hp13 ?hy13 hH2 ?hr13
        case ho13 => (simp only [List.getElem?_toArray, List.getElem?_cons_succ, List.getElem?_cons_zero]; exact rfl)
        case hp13 => exact fun _ _ _ h => h
        case hy13 => (refine Or.inl ⟨by rfl, ?_⟩; intro w hSw; (try dsimp only at hSw); (try go_split_ands); go_simp; (try (with_reducible rfl)))
        case hr13 =>
        (try simp only [Act.put, List.setIfInBounds_toArray, List.set_cons_zero, List.set_cons_succ])
        refine wpAnyX_take (i := 15) (oi := ?oi15) (v := ?v15) ?ho15 (by kernel_rfl) (by kernel_rfl) (by kernel_rfl) (by kernel_rfl) ?hp15 ?hy15 hH2 ?hr15
        case ho15 => (simp only [List.getElem?_toArray, List.getElem?_cons_succ, List.getElem?_cons_zero]; exact rfl)
        case hp15 => exact fun _ _ _ h => h
        case hy15 => (refine Or.inl ⟨by rfl, ?_⟩; intro w hSw; (try dsimp only at hSw); (try go_split_ands); go_simp; (try (with_reducible rfl)))
        case hr15 =>
        (try simp only [Act.put, List.setIfInBounds_toArray, List.set_cons_zero, List.set_cons_succ])
        refine wpAnyX_pick (rs := [14]) (by kernel_rfl) (by simp) (AllX.cons (o := ?oi14r) ?ho14r (fun K hK => ?hr14r) (AllX.nil))
        case ho14r => (simp only [List.getElem?_toArray, List.getElem?_cons_succ, List.getElem?_cons_zero]; exact rfl)
        case hr14r =>
          go_simp
          refine (num_c _ _).mono ?_
          rintro e wz ⟨rfl, hz⟩
          subst wz
          refine hK.out _ _ (fun _ => SK.out _ B1.out) ?_
          clear hK K
          (try simp only [Act.put, List.setIfInBounds_toArray, List.set_cons_zero, List.set_cons_succ])
          have hH3 := SK.out _ B1.out
          refine wpAnyX_take (i := 16) (oi := ?oi16) (v := ?v16) ?ho16 (by kernel_rfl) (by kernel_rfl) (by kernel_rfl) (by kernel_rfl) ?hp16 ?hy16 hH3 ?hr16
          case ho16 => (simp only [List.getElem?_toArray, List.getElem?_cons_succ, List.getElem?_cons_zero]; exact rfl)
          case hp16 => exact fun _ _ _ h => h
          case hy16 => (refine Or.inl ⟨by rfl, ?_⟩; intro w hSw; (try dsimp only at hSw); (try go_split_ands); go_simp; (try (with_reducible rfl)))
          case hr16 =>
          (try simp only [Act.put, List.setIfInBounds_toArray, List.set_cons_zero, List.set_cons_succ])
          refine wpAnyX_take (i := 17) (oi := ?oi17) (v := ?v17) ?ho17 (by kernel_rfl) (by kernel_rfl) (by kernel_rfl) (by kernel_rfl) ?hp17 ?hy17 hH3 ?hr17
          case ho17 => (simp only [List.getElem?_toArray, List.getElem?_cons_succ, List.getElem?_cons_zero]; exact rfl)
          case hp17 => exact fun _ _ _ h => h
          case hy17 => (refine Or.inl ⟨by rfl, ?_⟩; intro w hSw; (try dsimp only at hSw); (try go_split_ands); go_simp; (try (with_reducible rfl)))
          case hr17 =>
          (try simp only [Act.put, List.setIfInBounds_toArray, List.set_cons_zero, List.set_cons_succ])
          refine wpAnyX_take (i := 18) (oi := ?oi18) (v := ?v18) ?ho18 (by kernel_rfl) (by kernel_rfl) (by kernel_rfl) (by kernel_rfl) ?hp18 ?hy18 hH3 ?hr18
          case ho18 => (simp only [List.getElem?_toArray, List.getElem?_cons_succ, List.getElem?_cons_zero]; exact rfl)
          case hp18 => exact fun _ _ _ h => h
          case hy18 => (refine Or.inl ⟨by rfl, ?_⟩; intro w hSw; (try dsimp only at hSw); (try go_split_ands); go_simp; (try (with_reducible rfl)))
          case hr18 =>
          (try simp only [Act.put, List.setIfInBounds_toArray, List.set_cons_zero, List.set_cons_succ])
          refine wpAnyX_take (i := 19) (oi := ?oi19) (v := ?v19) ?ho19 (by kernel_rfl) (by kernel_rfl) (by kernel_rfl) (by kernel_rfl) ?hp19 ?hy19 hH3 ?hr19
          case ho19 => (simp only [List.getElem?_toArray, List.getElem?_cons_succ, List.getElem?_cons_zero]; exact rfl)
          case hp19 => exact fun _ _ _ h => h
          case hy19 => (refine Or.inl ⟨by rfl, ?_⟩; intro w hSw; (try dsimp only at hSw); (try go_split_ands); go_simp; (try (with_reducible rfl)))
          case hr19 =>
          (try simp only [Act.put, List.setIfInBounds_toArray, List.set_cons_zero, List.set_cons_succ])
          refine wpAnyX_take (i := 21) (oi := ?oi21) (v := ?v21) ?ho21 (by kernel_rfl) (by kernel_rfl) (by kernel_rfl) (by kernel_rfl) ?hp21 ?hy21 hH3 ?hr21
          case ho21 => (simp only [List.getElem?_toArray, List.getElem?_cons_succ, List.getElem?_cons_zero]; exact rfl)
          case hp21 => exact fun _ _ _ h => h
          case hy21 => (refine Or.inl ⟨by rfl, ?_⟩; intro w hSw; (try dsimp only at hSw); (try go_split_ands); go_simp; (try (with_reducible rfl)))
          case hr21 =>
          (try simp only [Act.put, List.setIfInBounds_toArray, List.set_cons_zero, List.set_cons_succ])
          refine wpAnyX_take (i := 20) (oi := ?oi20) (v := ?v20) ?ho20 (by kernel_rfl) (by kernel_rfl) (by kernel_rfl) (by kernel_rfl) ?hp20 ?hy20 hH3 ?hr20
          case ho20 => (simp only [List.getElem?_toArray, List.getElem?_cons_succ, List.getElem?_cons_zero]; exact rfl)
          case hp20 => exact fun _ _ _ h => h
          case hy20 => (refine Or.inl ⟨by rfl, ?_⟩; intro w hSw; (try dsimp only at hSw); (try go_split_ands); go_simp; (try (with_reducible rfl)))
          case hr20 =>
          (try simp only [Act.put, List.setIfInBounds_toArray, List.set_cons_zero, List.set_cons_succ])
          refine wpAnyX_take (i := 22) (oi := ?oi22) (v := ?v22) ?ho22 (by kernel_rfl) (by kernel_rfl) (by kernel_rfl) (by kernel_rfl) ?hp22 ?hy22 hH3 ?hr22
          case ho22 => (simp only [List.getElem?_toArray, List.getElem?_cons_succ, List.getElem?_cons_zero]; exact rfl)
          case hp22 => exact fun _ _ _ h => h
          case hy22 => (refine Or.inl ⟨by rfl, ?_⟩; intro w hSw; (try dsimp only at hSw); (try go_split_ands); go_simp; (try (with_reducible rfl)))
          case hr22 =>
          (try simp only [Act.put, List.setIfInBounds_toArray, List.set_cons_zero, List.set_cons_succ])
          refine wpAnyX_take (i := 23) (oi := ?oi23) (v := ?v23) ?ho23 (by kernel_rfl) (by kernel_rfl) (by kernel_rfl) (by kernel_rfl) ?hp23 ?hy23 hH3 ?hr23
          case ho23 => (simp only [List.getElem?_toArray, List.getElem?_cons_succ, List.getElem?_cons_zero]; exact rfl)
          case hp23 => exact fun _ _ _ h => h
          case hy23 => (refine Or.inl ⟨by rfl, ?_⟩; intro w hSw; (try dsimp only at hSw); (try go_split_ands); go_simp; (try (with_reducible rfl)))
          case hr23 =>
          (try simp only [Act.put, List.setIfInBounds_toArray, List.set_cons_zero, List.set_cons_succ])
          refine wpAnyX_take (i := 24) (oi := ?oi24) (v := ?v24) ?ho24 (by kernel_rfl) (by kernel_rfl) (by kernel_rfl) (by kernel_rfl) ?hp24 ?hy24 hH3 ?hr24
          case ho24 => (simp only [List.getElem?_toArray, List.getElem?_cons_succ, List.getElem?_cons_zero]; exact rfl)
          case hp24 => exact fun _ _ _ h => h
          case hy24 => (refine Or.inl ⟨by rfl, ?_⟩; intro w hSw; (try dsimp only at hSw); (try go_split_ands); go_simp; (try (with_reducible rfl)))
          case hr24 =>
          (try simp only [Act.put, List.setIfInBounds_toArray, List.set_cons_zero, List.set_cons_succ])
          refine wpAnyX_take (i := 25) (oi := ?oi25) (v := ?v25) ?ho25 (by kernel_rfl) (by kernel_rfl) (by kernel_rfl) (by kernel_rfl) ?hp25 ?hy25 hH3 ?hr25
          case ho25 => (simp only [List.getElem?_toArray, List.getElem?_cons_succ, List.getElem?_cons_zero]; exact rfl)
          case hp25 => exact fun _ _ _ h => h
          case hy25 => (refine Or.inl ⟨by rfl, ?_⟩; intro w hSw; (try dsimp only at hSw); (try go_split_ands); go_simp; (try (with_reducible rfl)))
          case hr25 =>
          (try simp only [Act.put, List.setIfInBounds_toArray, List.set_cons_zero, List.set_cons_succ])
          refine wpAnyX_take (i := 26) (oi := ?oi26) (v := ?v26) ?ho26 (by kernel_rfl) (by kernel_rfl) (by kernel_rfl) (by kernel_rfl) ?hp26 ?hy26 hH3 ?hr26
          case ho26 => (simp only [List.getElem?_toArray, List.getElem?_cons_succ, List.getElem?_cons_zero]; exact rfl)
          case hp26 => exact fun _ _ _ h => h
          case hy26 => (refine Or.inl ⟨by rfl, ?_⟩; intro w hSw; (try dsimp only at hSw); (try go_split_ands); go_simp; (try (with_reducible rfl)))
          case hr26 =>
          (try simp only [Act.put, List.setIfInBounds_toArray, List.set_cons_zero, List.set_cons_succ])
          refine wpAnyX_take (i := 28) (oi := ?oi28) (v := ?v28) ?ho28 (by kernel_rfl) (by kernel_rfl) (by kernel_rfl) (by kernel_rfl) ?hp28 ?hy28 hH3 ?hr28
          case ho28 => (simp only [List.getElem?_toArray, List.getElem?_cons_succ, List.getElem?_cons_zero]; exact rfl)
          case hp28 => exact fun _ _ _ h => h
          case hy28 => (refine Or.inl ⟨by rfl, ?_⟩; intro w hSw; (try dsimp only at hSw); (try go_split_ands); go_simp; (try (with_reducible rfl)))
          case hr28 =>
          (try simp only [Act.put, List.setIfInBounds_toArray, List.set_cons_zero, List.set_cons_succ])
          refine wpAnyX_pick (rs := [27]) (by kernel_rfl) (by simp) (AllX.cons (o := ?oi27r) ?ho27r (fun K hK => ?hr27r) (AllX.nil))
          case ho27r => (simp only [List.getElem?_toArray, List.getElem?_cons_succ, List.getElem?_cons_zero]; exact rfl)
          case hr27r =>
            go_simp
            refine (num_c _ _).mono ?_
            rintro e wz ⟨rfl, hz⟩
            subst wz
            refine hK.out _ _ (fun _ => SK.out _ B1.out) ?_
            clear hK K
            (try simp only [Act.put, List.setIfInBounds_toArray, List.set_cons_zero, List.set_cons_succ])
            have hH4 := SK.out _ B1.out
            refine wpAnyX_take (i := 29) (oi := ?oi29) (v := ?v29) ?ho29 (by kernel_rfl) (by kernel_rfl) (by kernel_rfl) (by kernel_rfl) ?hp29 ?hy29 hH4 ?hr29
            case ho29 => (simp only [List.getElem?_toArray, List.getElem?_cons_succ, List.getElem?_cons_zero]; exact rfl)
            case hp29 => exact fun _ _ _ h => h
            case hy29 => (refine Or.inl ⟨by rfl, ?_⟩; intro w hSw; (try dsimp only at hSw); (try go_split_ands); go_simp; (try (with_reducible rfl)))
            case hr29 =>
            (try simp only [Act.put, List.setIfInBounds_toArray, List.set_cons_zero, List.set_cons_succ])
            refine wpAnyX_take (i := 30) (oi := ?oi30) (v := ?v30) ?ho30 (by kernel_rfl) (by kernel_rfl) (by kernel_rfl) (by kernel_rfl) ?hp30 ?hy30 hH4 ?hr30
            case ho30 => (simp only [List.getElem?_toArray, List.getElem?_cons_succ, List.getElem?_cons_zero]; exact rfl)
            case hp30 => exact fun _ _ _ h => h
            case hy30 => (refine Or.inl ⟨by rfl, ?_⟩; intro w hSw; (try dsimp only at hSw); (try go_split_ands); go_simp; (try (with_reducible rfl)))
            case hr30 =>
            (try simp only [Act.put, List.setIfInBounds_toArray, List.set_cons_zero, List.set_cons_succ])
            refine wpAnyX_take (i := 31) (oi := ?oi31) (v := ?v31) ?ho31 (by kernel_rfl) (by kernel_rfl) (by kernel_rfl) (by kernel_rfl) ?hp31 ?hy31 hH4 ?hr31
            case ho31 => (simp only [List.getElem?_toArray, List.getElem?_cons_succ, List.getElem?_cons_zero]; exact rfl)
            case hp31 => exact fun _ _ _ h => h
            case hy31 => (refine Or.inl ⟨by rfl, ?_⟩; intro w hSw; (try dsimp only at hSw); (try go_split_ands); go_simp; (try (with_reducible rfl)))
            case hr31 =>
            (try simp only [Act.put, List.setIfInBounds_toArray, List.set_cons_zero, List.set_cons_succ])
            refine wpAnyX_take (i := 32) (oi := ?oi32) (v := ?v32) ?ho32 (by kernel_rfl) (by kernel_rfl) (by kernel_rfl) (by kernel_rfl) ?hp32 ?hy32 hH4 ?hr32
            case ho32 => (simp only [List.getElem?_toArray, List.getElem?_cons_succ, List.getElem?_cons_zero]; exact rfl)
            case hp32 => exact fun _ _ _ h => h
            case hy32 =>
              refine yieldsIf_load_mid ?_ 29 (.tmp 5) ?_ M 0 ?_ (ordCells o (.slice (some ⟨gm, 0, none⟩) o.offs.length cm)) _ ?_ Try.underlying29 ?_ ?_
              · rfl
              · exact rfl
              · exact rfl
              · exact (fun _ h => h.1)
              · rfl
              · rw [ordCells_len]; kernel_rfl
            case hr32 =>
            (try simp only [Act.put, List.setIfInBounds_toArray, List.set_cons_zero, List.set_cons_succ])
            refine wpAnyX_take (i := 33) (oi := ?oi33) (v := ?v33) ?ho33 (by kernel_rfl) (by kernel_rfl) (by kernel_rfl) (by kernel_rfl) ?hp33 ?hy33 hH4 ?hr33
            case ho33 => (simp only [List.getElem?_toArray, List.getElem?_cons_succ, List.getElem?_cons_zero]; exact rfl)
            case hp33 => exact fun _ _ _ h => h
            case hy33 =>
              refine yieldsIf_load_mid ?_ 29 (.tmp 2) ?_ O 0 ?_ (ordCells o (.slice po o.offs.length co)) _ ?_ Try.underlying29 ?_ ?_
              · rfl
              · exact rfl
              · exact rfl
              · exact (fun _ h => h.2.1)
              · rfl
              · rw [ordCells_len]; kernel_rfl
            case hr33 =>
            (try simp only [Act.put, List.setIfInBounds_toArray, List.set_cons_zero, List.set_cons_succ])
            refine wpAnyX_pick (rs := [34]) (by kernel_rfl) (by simp) (AllX.cons (o := ?oi34r) ?ho34r (fun K hK => ?hr34r) (AllX.nil))
            case ho34r => (simp only [List.getElem?_toArray, List.getElem?_cons_succ, List.getElem?_cons_zero]; exact rfl)
            case hr34r =>
              go_simp
              refine (F17.out _ (bstep HB10.out B1.out)).mono ?_
              rintro e wb ⟨rfl, hb⟩
              have B2 := hide (bstep B1.out hb)
              clear hb
              refine hK.out _ _ (fun _ => SK.out _ B2.out) ?_
              clear hK K
              (try simp only [Act.put, List.setIfInBounds_toArray, List.set_cons_zero, List.set_cons_succ])
              have hH5 := SK.out _ B2.out
              refine wpAnyX_take (i := 35) (oi := ?oi35) (v := ?v35) ?ho35 (by kernel_rfl) (by kernel_rfl) (by kernel_rfl) (by kernel_rfl) ?hp35 ?hy35 hH5 ?hr35
              case ho35 => (simp only [List.getElem?_toArray, List.getElem?_cons_succ, List.getElem?_cons_zero]; exact rfl)
              case hp35 => exact fun _ _ _ h => h
              case hy35 => (refine Or.inl ⟨by rfl, ?_⟩; intro w hSw; (try dsimp only at hSw); (try go_split_ands); go_simp; (try (with_reducible rfl)))
              case hr35 =>
              (try simp only [Act.put, List.setIfInBounds_toArray, List.set_cons_zero, List.set_cons_succ])
              refine wpAnyX_take (i := 36) (oi := ?oi36) (v := ?v36) ?ho36 (by kernel_rfl) (by kernel_rfl) (by kernel_rfl) (by kernel_rfl) ?hp36 ?hy36 hH5 ?hr36
              case ho36 => (simp only [List.getElem?_toArray, List.getElem?_cons_succ, List.getElem?_cons_zero]; exact rfl)
              case hp36 => exact fun _ _ _ h => h
              case hy36 => (refine Or.inl ⟨by rfl, ?_⟩; intro w hSw; (try dsimp only at hSw); (try go_split_ands); go_simp; (try (with_reducible rfl)))
              case hr36 =>
              (try simp only [Act.put, List.setIfInBounds_toArray, List.set_cons_zero, List.set_cons_succ])
              refine wpAnyX_take (i := 37) (oi := ?oi37) (v := ?v37) ?ho37 (by kernel_rfl) (by kernel_rfl) (by kernel_rfl) (by kernel_rfl) ?hp37 ?hy37 hH5 ?hr37
              case ho37 => (simp only [List.getElem?_toArray, List.getElem?_cons_succ, List.getElem?_cons_zero]; exact rfl)
              case hp37 => exact fun _ _ _ h => h
              case hy37 => (refine Or.inl ⟨by rfl, ?_⟩; intro w hSw; (try dsimp only at hSw); (try go_split_ands); go_simp; (try (with_reducible rfl)))
              case hr37 =>
              (try simp only [Act.put, List.setIfInBounds_toArray, List.set_cons_zero, List.set_cons_succ])
              refine wpAnyX_take (i := 38) (oi := ?oi38) (v := ?v38) ?ho38 (by kernel_rfl) (by kernel_rfl) (by kernel_rfl) (by kernel_rfl) ?hp38 ?hy38 hH5 ?hr38
              case ho38 => (simp only [List.getElem?_toArray, List.getElem?_cons_succ, List.getElem?_cons_zero]; exact rfl)
              case hp38 => exact fun _ _ _ h => h
              case hy38 => (refine Or.inl ⟨by rfl, ?_⟩; intro w hSw; (try dsimp only at hSw); (try go_split_ands); go_simp; (try (with_reducible rfl)))
              case hr38 =>
              (try simp only [Act.put, List.setIfInBounds_toArray, List.set_cons_zero, List.set_cons_succ])
              refine wpAnyX_take (i := 39) (oi := ?oi39) (v := ?v39) ?ho39 (by kernel_rfl) (by kernel_rfl) (by kernel_rfl) (by kernel_rfl) ?hp39 ?hy39 hH5 ?hr39
              case ho39 => (simp only [List.getElem?_toArray, List.getElem?_cons_succ, List.getElem?_cons_zero]; exact rfl)
              case hp39 => exact fun _ _ _ h => h
              case hy39 => (refine Or.inl ⟨by rfl, ?_⟩; intro w hSw; (try dsimp only at hSw); (try go_split_ands); go_simp; (try (with_reducible rfl)))
              case hr39 =>
              (try simp only [Act.put, List.setIfInBounds_toArray, List.set_cons_zero, List.set_cons_succ])
              refine wpAnyX_take (i := 44) (oi := ?oi44) (v := ?v44) ?ho44 (by kernel_rfl) (by kernel_rfl) (by kernel_rfl) (by kernel_rfl) ?hp44 ?hy44 hH5 ?hr44
              case ho44 => (simp only [List.getElem?_toArray, List.getElem?_cons_succ, List.getElem?_cons_zero]; exact rfl)
              case hp44 => exact fun _ _ _ h => h
              case hy44 => (refine Or.inl ⟨by rfl, ?_⟩; intro w hSw; (try dsimp only at hSw); (try go_split_ands); go_simp; (try (with_reducible rfl)))
              case hr44 =>
              (try simp only [Act.put, List.setIfInBounds_toArray, List.set_cons_zero, List.set_cons_succ])
              refine wpAnyX_take (i := 40) (oi := ?oi40) (v := ?v40) ?ho40 (by kernel_rfl) (by kernel_rfl) (by kernel_rfl) (by kernel_rfl) ?hp40 ?hy40 hH5 ?hr40
              case ho40 => (simp only [List.getElem?_toArray, List.getElem?_cons_succ, List.getElem?_cons_zero]; exact rfl)
              case hp40 => exact fun _ _ _ h => h
              case hy40 => (refine Or.inl ⟨by rfl, ?_⟩; intro w hSw; (try dsimp only at hSw); (try go_split_ands); go_simp; (try (with_reducible rfl)))
              case hr40 =>
              (try simp only [Act.put, List.setIfInBounds_toArray, List.set_cons_zero, List.set_cons_succ])
              refine wpAnyX_take (i := 41) (oi := ?oi41) (v := ?v41) ?ho41 (by kernel_rfl) (by kernel_rfl) (by kernel_rfl) (by kernel_rfl) ?hp41 ?hy41 hH5 ?hr41
              case ho41 => (simp only [List.getElem?_toArray, List.getElem?_cons_succ, List.getElem?_cons_zero]; exact rfl)
              case hp41 => exact fun _ _ _ h => h
              case hy41 => (refine Or.inl ⟨by rfl, ?_⟩; intro w hSw; (try dsimp only at hSw); (try go_split_ands); go_simp; (try (with_reducible rfl)))
              case hr41 =>
              (try simp only [Act.put, List.setIfInBounds_toArray, List.set_cons_zero, List.set_cons_succ])
              refine wpAnyX_pick (rs := [42]) (by kernel_rfl) (by simp) (AllX.cons (o := ?oi42r) ?ho42r (fun K hK => ?hr42r) (AllX.nil))
              case ho42r => (simp only [List.getElem?_toArray, List.getElem?_cons_succ, List.getElem?_cons_zero]; exact rfl)
              case hr42r =>
                go_simp
                have hal : Below wb.heap.size wb (wb.alloc (.cells #[(.slice (some ⟨gy, 0, none⟩) ns.length cy)] 30)) := (Below.refl _ _).alloc (Nat.le_refl _) _
                obtain ⟨wc, hwc⟩ : ∃ q, q = wb.alloc (.cells #[(.slice (some ⟨gy, 0, none⟩) ns.length cy)] 30) := ⟨_, rfl⟩
                obtain ⟨g3, hg3⟩ : ∃ q, q = wb.heap.size := ⟨_, rfl⟩
                have C3 := hide (show wc.cell? ⟨g3, 0, none⟩ = some (.slice (some ⟨gy, 0, none⟩) ns.length cy) by rw [hwc, hg3]; simp [go_sem])
                rw [← hwc, ← hg3]
                rw [← hwc] at hal
                have B3 := hide (bstep B2.out hal)
                clear hal hwc hg3
                refine hK.out _ _ (fun _ => SK.out _ B3.out) ?_
                clear hK K
                (try simp only [Act.put, List.setIfInBounds_toArray, List.set_cons_zero, List.set_cons_succ])
                have hH6 := SK.out _ B3.out
                refine wpAnyX_pick (rs := [43]) (by kernel_rfl) (by simp) (AllX.cons (o := ?oi43r) ?ho43r (fun K hK => ?hr43r) (AllX.nil))
                case ho43r => (simp only [List.getElem?_toArray, List.getElem?_cons_succ, List.getElem?_cons_zero]; exact rfl)
                case hr43r =>
                  go_simp
                  refine (Sum_c g3 1 (fun _ => (.slice (some ⟨gy, 0, none⟩) ns.length cy)) [ns] wc (fun i hi => ?_) (by simp)).mono ?_
                  · obtain rfl : i = 0 := by simp at hi; omega
                    exact ⟨C3.out, (RY8.out _ B3.out).byteIn⟩
                  rw [show List.flatten [ns] = ns by simp]
                  rintro e wz ⟨rfl, hz⟩
                  subst wz
                  refine hK.out _ _ (fun _ => SK.out _ B3.out) ?_
                  clear hK K
                  (try simp only [Act.put, List.setIfInBounds_toArray, List.set_cons_zero, List.set_cons_succ])
                  have hH7 := SK.out _ B3.out
                  refine wpAnyX_pick (rs := [45]) (by kernel_rfl) (by simp) (AllX.cons (o := ?oi45r) ?ho45r (fun K hK => ?hr45r) (AllX.nil))
                  case ho45r => (simp only [List.getElem?_toArray, List.getElem?_cons_succ, List.getElem?_cons_zero]; exact rfl)
                  case hr45r =>
                    go_simp
                    refine (rSum_c _ ns wc ((R8.out _ (bstep HB3.out (bstep HB10.out B3.out))).byteIn)).mono ?_
                    rintro e wz ⟨rfl, hz⟩
                    subst wz
                    refine hK.out _ _ (fun _ => SK.out _ B3.out) ?_
                    clear hK K
                    (try simp only [Act.put, List.setIfInBounds_toArray, List.set_cons_zero, List.set_cons_succ])
                    have hH8 := SK.out _ B3.out
                    refine wpAnyX_take (i := 46) (oi := ?oi46) (v := ?v46) ?ho46 (by kernel_rfl) (by kernel_rfl) (by kernel_rfl) (by kernel_rfl) ?hp46 ?hy46 hH8 ?hr46
                    case ho46 => (simp only [List.getElem?_toArray, List.getElem?_cons_succ, List.getElem?_cons_zero]; exact rfl)
                    case hp46 => exact fun _ _ _ h => h
                    case hy46 => (refine Or.inl ⟨by rfl, ?_⟩; intro w hSw; (try dsimp only at hSw); (try go_split_ands); go_simp; (try (with_reducible rfl)))
                    case hr46 =>
                    (try simp only [Act.put, List.setIfInBounds_toArray, List.set_cons_zero, List.set_cons_succ])
                    refine wpAnyX_take (i := 47) (oi := ?oi47) (v := ?v47) ?ho47 (by kernel_rfl) (by kernel_rfl) (by kernel_rfl) (by kernel_rfl) ?hp47 ?hy47 hH8 ?hr47
                    case ho47 => (simp only [List.getElem?_toArray, List.getElem?_cons_succ, List.getElem?_cons_zero]; exact rfl)
                    case hp47 => exact fun _ _ _ h => h
                    case hy47 => (refine Or.inl ⟨by rfl, ?_⟩; intro w hSw; (try dsimp only at hSw); (try go_split_ands); go_simp; (try (with_reducible rfl)))
                    case hr47 =>
                    (try simp only [Act.put, List.setIfInBounds_toArray, List.set_cons_zero, List.set_cons_succ])
                    refine wpAnyX_take (i := 48) (oi := ?oi48) (v := ?v48) ?ho48 (by kernel_rfl) (by kernel_rfl) (by kernel_rfl) (by kernel_rfl) ?hp48 ?hy48 hH8 ?hr48
                    case ho48 => (simp only [List.getElem?_toArray, List.getElem?_cons_succ, List.getElem?_cons_zero]; exact rfl)
                    case hp48 => exact fun _ _ _ h => h
                    case hy48 => (refine Or.inl ⟨by rfl, ?_⟩; intro w hSw; (try dsimp only at hSw); (try go_split_ands); go_simp; (try (with_reducible rfl)))
                    case hr48 =>
                    (try simp only [Act.put, List.setIfInBounds_toArray, List.set_cons_zero, List.set_cons_succ])
                    refine wpAnyX_take (i := 49) (oi := ?oi49) (v := ?v49) ?ho49 (by kernel_rfl) (by kernel_rfl) (by kernel_rfl) (by kernel_rfl) ?hp49 ?hy49 hH8 ?hr49
                    case ho49 => (simp only [List.getElem?_toArray, List.getElem?_cons_succ, List.getElem?_cons_zero]; exact rfl)
                    case hp49 => exact fun _ _ _ h => h
                    case hy49 => (refine Or.inl ⟨by rfl, ?_⟩; intro w hSw; (try dsimp only at hSw); (try go_split_ands); go_simp; (try (with_reducible rfl)))
                    case hr49 =>
                    (try simp only [Act.put, List.setIfInBounds_toArray, List.set_cons_zero, List.set_cons_succ])
                    refine wpAnyX_take (i := 50) (oi := ?oi50) (v := ?v50) ?ho50 (by kernel_rfl) (by kernel_rfl) (by kernel_rfl) (by kernel_rfl) ?hp50 ?hy50 hH8 ?hr50
                    case ho50 => (simp only [List.getElem?_toArray, List.getElem?_cons_succ, List.getElem?_cons_zero]; exact rfl)
                    case hp50 => exact fun _ _ _ h => h
                    case hy50 => (refine Or.inl ⟨by rfl, ?_⟩; intro w hSw; (try dsimp only at hSw); (try go_split_ands); go_simp; (try (with_reducible rfl)))
                    case hr50 =>
                    (try simp only [Act.put, List.setIfInBounds_toArray, List.set_cons_zero, List.set_cons_succ])
                    refine wpAnyX_take (i := 52) (oi := ?oi52) (v := ?v52) ?ho52 (by kernel_rfl) (by kernel_rfl) (by kernel_rfl) (by kernel_rfl) ?hp52 ?hy52 hH8 ?hr52
                    case ho52 => (simp only [List.getElem?_toArray, List.getElem?_cons_succ, List.getElem?_cons_zero]; exact rfl)
                    case hp52 => exact fun _ _ _ h => h
                    case hy52 => (refine Or.inl ⟨by rfl, ?_⟩; intro w hSw; (try dsimp only at hSw); (try go_split_ands); go_simp; (try (with_reducible rfl)))
                    case hr52 =>
                    (try simp only [Act.put, List.setIfInBounds_toArray, List.set_cons_zero, List.set_cons_succ])
                    refine wpAnyX_take (i := 53) (oi := ?oi53) (v := ?v53) ?ho53 (by kernel_rfl) (by kernel_rfl) (by kernel_rfl) (by kernel_rfl) ?hp53 ?hy53 hH8 ?hr53
                    case ho53 => (simp only [List.getElem?_toArray, List.getElem?_cons_succ, List.getElem?_cons_zero]; exact rfl)
                    case hp53 => exact fun _ _ _ h => h
                    case hy53 => (refine Or.inl ⟨by rfl, ?_⟩; intro w hSw; (try dsimp only at hSw); (try go_split_ands); go_simp; (try (with_reducible rfl)))
                    case hr53 =>
                    (try simp only [Act.put, List.setIfInBounds_toArray, List.set_cons_zero, List.set_cons_succ])
                    refine wpAnyX_take (i := 54) (oi := ?oi54) (v := ?v54) ?ho54 (by kernel_rfl) (by kernel_rfl) (by kernel_rfl) (by kernel_rfl) ?hp54 ?hy54 hH8 ?hr54
                    case ho54 => (simp only [List.getElem?_toArray, List.getElem?_cons_succ, List.getElem?_cons_zero]; exact rfl)
                    case hp54 => exact fun _ _ _ h => h
                    case hy54 => (refine Or.inl ⟨by rfl, ?_⟩; intro w hSw; (try dsimp only at hSw); (try go_split_ands); go_simp; (try (with_reducible rfl)))
                    case hr54 =>
                    (try simp only [Act.put, List.setIfInBounds_toArray, List.set_cons_zero, List.set_cons_succ])
                    refine wpAnyX_take (i := 59) (oi := ?oi59) (v := ?v59) ?ho59 (by kernel_rfl) (by kernel_rfl) (by kernel_rfl) (by kernel_rfl) ?hp59 ?hy59 hH8 ?hr59
                    case ho59 => (simp only [List.getElem?_toArray, List.getElem?_cons_succ, List.getElem?_cons_zero]; exact rfl)
                    case hp59 => exact fun _ _ _ h => h
                    case hy59 => (refine Or.inl ⟨by rfl, ?_⟩; intro w hSw; (try dsimp only at hSw); (try go_split_ands); go_simp; (try (with_reducible rfl)))
                    case hr59 =>
                    (try simp only [Act.put, List.setIfInBounds_toArray, List.set_cons_zero, List.set_cons_succ])
                    refine wpAnyX_take (i := 51) (oi := ?oi51) (v := ?v51) ?ho51 (by kernel_rfl) (by kernel_rfl) (by kernel_rfl) (by kernel_rfl) ?hp51 ?hy51 hH8 ?hr51
                    case ho51 => (simp only [List.getElem?_toArray, List.getElem?_cons_succ, List.getElem?_cons_zero]; exact rfl)
                    case hp51 => exact fun _ _ _ h => h
                    case hy51 => (refine Or.inl ⟨by rfl, ?_⟩; intro w hSw; (try dsimp only at hSw); (try go_split_ands); go_simp; (try (with_reducible rfl)))
                    case hr51 =>
                    (try simp only [Act.put, List.setIfInBounds_toArray, List.set_cons_zero, List.set_cons_succ])
                    refine wpAnyX_take (i := 55) (oi := ?oi55) (v := ?v55) ?ho55 (by kernel_rfl) (by kernel_rfl) (by kernel_rfl) (by kernel_rfl) ?hp55 ?hy55 hH8 ?hr55
                    case ho55 => (simp only [List.getElem?_toArray, List.getElem?_cons_succ, List.getElem?_cons_zero]; exact rfl)
                    case hp55 => exact fun _ _ _ h => h
                    case hy55 => (refine Or.inl ⟨by rfl, ?_⟩; intro w hSw; (try dsimp only at hSw); (try go_split_ands); go_simp; (try (with_reducible rfl)))
                    case hr55 =>
                    (try simp only [Act.put, List.setIfInBounds_toArray, List.set_cons_zero, List.set_cons_succ])
                    refine wpAnyX_take (i := 56) (oi := ?oi56) (v := ?v56) ?ho56 (by kernel_rfl) (by kernel_rfl) (by kernel_rfl) (by kernel_rfl) ?hp56 ?hy56 hH8 ?hr56
                    case ho56 => (simp only [List.getElem?_toArray, List.getElem?_cons_succ, List.getElem?_cons_zero]; exact rfl)
                    case hp56 => exact fun _ _ _ h => h
                    case hy56 => (refine Or.inl ⟨by rfl, ?_⟩; intro w hSw; (try dsimp only at hSw); (try go_split_ands); go_simp; (try (with_reducible rfl)))
                    case hr56 =>
                    (try simp only [Act.put, List.setIfInBounds_toArray, List.set_cons_zero, List.set_cons_succ])
                    refine wpAnyX_pick (rs := [57]) (by kernel_rfl) (by simp) (AllX.cons (o := ?oi57r) ?ho57r (fun K hK => ?hr57r) (AllX.nil))
                    case ho57r => (simp only [List.getElem?_toArray, List.getElem?_cons_succ, List.getElem?_cons_zero]; exact rfl)
                    case hr57r =>
                      go_simp
                      have hal : Below wc.heap.size wc (wc.alloc (.cells #[(.slice (some ⟨gy, 0, none⟩) hf cy), (.slice (some ⟨gy, hf, none⟩) (ns.length - hf) (cy - hf))] 30)) := (Below.refl _ _).alloc (Nat.le_refl _) _
                      obtain ⟨we, hwe⟩ : ∃ q, q = wc.alloc (.cells #[(.slice (some ⟨gy, 0, none⟩) hf cy), (.slice (some ⟨gy, hf, none⟩) (ns.length - hf) (cy - hf))] 30) := ⟨_, rfl⟩
                      obtain ⟨g4, hg4⟩ : ∃ q, q = wc.heap.size := ⟨_, rfl⟩
                      have C4 := hide (show we.cell? ⟨g4, 0, none⟩ = some (.slice (some ⟨gy, 0, none⟩) hf cy) ∧ we.cell? ⟨g4, 1, none⟩ = some (.slice (some ⟨gy, hf, none⟩) (ns.length - hf) (cy - hf)) by rw [hwe, hg4]; simp [go_sem])
                      rw [← hwe, ← hg4]
                      rw [← hwe] at hal
                      have B4 := hide (bstep B3.out hal)
                      clear hal hwe hg4
                      refine hK.out _ _ (fun _ => SK.out _ B4.out) ?_
                      clear hK K
                      (try simp only [Act.put, List.setIfInBounds_toArray, List.set_cons_zero, List.set_cons_succ])
                      have hH9 := SK.out _ B4.out
                      refine wpAnyX_pick (rs := [58]) (by kernel_rfl) (by simp) (AllX.cons (o := ?oi58r) ?ho58r (fun K hK => ?hr58r) (AllX.nil))
                      case ho58r => (simp only [List.getElem?_toArray, List.getElem?_cons_succ, List.getElem?_cons_zero]; exact rfl)
                      case hr58r =>
                        go_simp
                        refine (Sum_c g4 2 (fun i => if i = 0 then (.slice (some ⟨gy, 0, none⟩) hf cy) else (.slice (some ⟨gy, hf, none⟩) (ns.length - hf) (cy - hf))) [part8 ns 0 hf, part8 ns hf ns.length] we (fun i hi => ?_) (by simp)).mono ?_
                        · have hi2 : i < 2 := hi
                          obtain rfl | rfl : i = 0 ∨ i = 1 := by omega
                          · refine ⟨C4.out.1, ?_⟩
                            have q := ((RY8.out _ B4.out).part (i := 0) (j := hf) (Nat.zero_le _) hf1).byteIn
                            rw [part8_len (Nat.zero_le _) hf1] at q
                            exact q
                          · refine ⟨C4.out.2, ?_⟩
                            have q := ((RY8.out _ B4.out).part (i := hf) (j := ns.length) hf1 (Nat.le_refl _)).byteIn
                            rw [part8_len hf1 (Nat.le_refl _), Nat.zero_add] at q
                            exact q
                        rw [halves hf1]
                        rintro e wz ⟨rfl, hz⟩
                        subst wz
                        refine hK.out _ _ (fun _ => SK.out _ B4.out) ?_
                        clear hK K
                        (try simp only [Act.put, List.setIfInBounds_toArray, List.set_cons_zero, List.set_cons_succ])
                        have hH10 := SK.out _ B4.out
                        refine wpAnyX_pick (rs := [60]) (by kernel_rfl) (by simp) (AllX.cons (o := ?oi60r) ?ho60r (fun K hK => ?hr60r) (AllX.nil))
                        case ho60r => (simp only [List.getElem?_toArray, List.getElem?_cons_succ, List.getElem?_cons_zero]; exact rfl)
                        case hr60r =>
                          go_simp
                          refine (rSum_c _ ns we ((R8.out _ (bstep HB3.out (bstep HB10.out B4.out))).byteIn)).mono ?_
                          rintro e wz ⟨rfl, hz⟩
                          subst wz
                          refine hK.out _ _ (fun _ => SK.out _ B4.out) ?_
                          clear hK K
                          (try simp only [Act.put, List.setIfInBounds_toArray, List.set_cons_zero, List.set_cons_succ])
                          have hH11 := SK.out _ B4.out
                          refine wpAnyX_take (i := 61) (oi := ?oi61) (v := ?v61) ?ho61 (by kernel_rfl) (by kernel_rfl) (by kernel_rfl) (by kernel_rfl) ?hp61 ?hy61 hH11 ?hr61
                          case ho61 => (simp only [List.getElem?_toArray, List.getElem?_cons_succ, List.getElem?_cons_zero]; exact rfl)
                          case hp61 => exact fun _ _ _ h => h
                          case hy61 => (refine Or.inl ⟨by rfl, ?_⟩; intro w hSw; (try dsimp only at hSw); (try go_split_ands); go_simp; (try (with_reducible rfl)))
                          case hr61 =>
                          (try simp only [Act.put, List.setIfInBounds_toArray, List.set_cons_zero, List.set_cons_succ])
                          refine wpAnyX_take (i := 62) (oi := ?oi62) (v := ?v62) ?ho62 (by kernel_rfl) (by kernel_rfl) (by kernel_rfl) (by kernel_rfl) ?hp62 ?hy62 hH11 ?hr62
                          case ho62 => (simp only [List.getElem?_toArray, List.getElem?_cons_succ, List.getElem?_cons_zero]; exact rfl)
                          case hp62 => exact fun _ _ _ h => h
                          case hy62 => (refine Or.inl ⟨by rfl, ?_⟩; intro w hSw; (try dsimp only at hSw); (try go_split_ands); go_simp; (try (with_reducible rfl)))
                          case hr62 =>
                          (try simp only [Act.put, List.setIfInBounds_toArray, List.set_cons_zero, List.set_cons_succ])
                          refine wpAnyX_take (i := 63) (oi := ?oi63) (v := ?v63) ?ho63 (by kernel_rfl) (by kernel_rfl) (by kernel_rfl) (by kernel_rfl) ?hp63 ?hy63 hH11 ?hr63
                          case ho63 => (simp only [List.getElem?_toArray, List.getElem?_cons_succ, List.getElem?_cons_zero]; exact rfl)
                          case hp63 => exact fun _ _ _ h => h
                          case hy63 => (refine Or.inl ⟨by rfl, ?_⟩; intro w hSw; (try dsimp only at hSw); (try go_split_ands); go_simp; (try (with_reducible rfl)))
                          case hr63 =>
                          (try simp only [Act.put, List.setIfInBounds_toArray, List.set_cons_zero, List.set_cons_succ])
                          refine wpAnyX_take (i := 64) (oi := ?oi64) (v := ?v64) ?ho64 (by kernel_rfl) (by kernel_rfl) (by kernel_rfl) (by kernel_rfl) ?hp64 ?hy64 hH11 ?hr64
                          case ho64 => (simp only [List.getElem?_toArray, List.getElem?_cons_succ, List.getElem?_cons_zero]; exact rfl)
                          case hp64 => exact fun _ _ _ h => h
                          case hy64 => (refine Or.inl ⟨by rfl, ?_⟩; intro w hSw; (try dsimp only at hSw); (try go_split_ands); go_simp; (try (with_reducible rfl)))
                          case hr64 =>
                          (try simp only [Act.put, List.setIfInBounds_toArray, List.set_cons_zero, List.set_cons_succ])
                          refine wpAnyX_take (i := 65) (oi := ?oi65) (v := ?v65) ?ho65 (by kernel_rfl) (by kernel_rfl) (by kernel_rfl) (by kernel_rfl) ?hp65 ?hy65 hH11 ?hr65
                          case ho65 => (simp only [List.getElem?_toArray, List.getElem?_cons_succ, List.getElem?_cons_zero]; exact rfl)
                          case hp65 => exact fun _ _ _ h => h
                          case hy65 => (refine Or.inl ⟨by rfl, ?_⟩; intro w hSw; (try dsimp only at hSw); (try go_split_ands); go_simp; (try (with_reducible rfl)))
                          case hr65 =>
                          (try simp only [Act.put, List.setIfInBounds_toArray, List.set_cons_zero, List.set_cons_succ])
                          refine wpAnyX_take (i := 69) (oi := ?oi69) (v := ?v69) ?ho69 (by kernel_rfl) (by kernel_rfl) (by kernel_rfl) (by kernel_rfl) ?hp69 ?hy69 hH11 ?hr69
                          case ho69 => (simp only [List.getElem?_toArray, List.getElem?_cons_succ, List.getElem?_cons_zero]; exact rfl)
                          case hp69 => exact fun _ _ _ h => h
                          case hy69 => (refine Or.inl ⟨by rfl, ?_⟩; intro w hSw; (try dsimp only at hSw); (try go_split_ands); go_simp; (try (with_reducible rfl)))
                          case hr69 =>
                          (try simp only [Act.put, List.setIfInBounds_toArray, List.set_cons_zero, List.set_cons_succ])
                          refine wpAnyX_take (i := 66) (oi := ?oi66) (v := ?v66) ?ho66 (by kernel_rfl) (by kernel_rfl) (by kernel_rfl) (by kernel_rfl) ?hp66 ?hy66 hH11 ?hr66
                          case ho66 => (simp only [List.getElem?_toArray, List.getElem?_cons_succ, List.getElem?_cons_zero]; exact rfl)
                          case hp66 => exact fun _ _ _ h => h
                          case hy66 => (refine Or.inl ⟨by rfl, ?_⟩; intro w hSw; (try dsimp only at hSw); (try go_split_ands); go_simp; (try (with_reducible rfl)))
                          case hr66 =>
                          (try simp only [Act.put, List.setIfInBounds_toArray, List.set_cons_zero, List.set_cons_succ])
                          refine wpAnyX_take (i := 70) (oi := ?oi70) (v := ?v70) ?ho70 (by kernel_rfl) (by kernel_rfl) (by kernel_rfl) (by kernel_rfl) ?hp70 ?hy70 hH11 ?hr70
                          case ho70 => (simp only [List.getElem?_toArray, List.getElem?_cons_succ, List.getElem?_cons_zero]; exact rfl)
                          case hp70 => exact fun _ _ _ h => h
                          case hy70 => (refine Or.inl ⟨by rfl, ?_⟩; intro w hSw; (try dsimp only at hSw); (try go_split_ands); go_simp; (try (with_reducible rfl)))
                          case hr70 =>
                          (try simp only [Act.put, List.setIfInBounds_toArray, List.set_cons_zero, List.set_cons_succ])
                          refine wpAnyX_take (i := 67) (oi := ?oi67) (v := ?v67) ?ho67 (by kernel_rfl) (by kernel_rfl) (by kernel_rfl) (by kernel_rfl) ?hp67 ?hy67 hH11 ?hr67
                          case ho67 => (simp only [List.getElem?_toArray, List.getElem?_cons_succ, List.getElem?_cons_zero]; exact rfl)
                          case hp67 => exact fun _ _ _ h => h
                          case hy67 => (refine Or.inl ⟨by rfl, ?_⟩; intro w hSw; (try dsimp only at hSw); (try go_split_ands); go_simp; (try (with_reducible rfl)))
                          case hr67 =>
                          (try simp only [Act.put, List.setIfInBounds_toArray, List.set_cons_zero, List.set_cons_succ])
                          refine wpAnyX_take (i := 68) (oi := ?oi68) (v := ?v68) ?ho68 (by kernel_rfl) (by kernel_rfl) (by kernel_rfl) (by kernel_rfl) ?hp68 ?hy68 hH11 ?hr68
                          case ho68 => (simp only [List.getElem?_toArray, List.getElem?_cons_succ, List.getElem?_cons_zero]; exact rfl)
                          case hp68 => exact fun _ _ _ h => h
                          case hy68 => (refine Or.inl ⟨by rfl, ?_⟩; intro w hSw; (try dsimp only at hSw); (try go_split_ands); go_simp; (try (with_reducible rfl)))
                          case hr68 =>
                          (try simp only [Act.put, List.setIfInBounds_toArray, List.set_cons_zero, List.set_cons_succ])
                          refine wpAnyX_take (i := 71) (oi := ?oi71) (v := ?v71) ?ho71 (by kernel_rfl) (by kernel_rfl) (by kernel_rfl) (by kernel_rfl) ?hp71 ?hy71 hH11 ?hr71
                          case ho71 => (simp only [List.getElem?_toArray, List.getElem?_cons_succ, List.getElem?_cons_zero]; exact rfl)
                          case hp71 => exact fun _ _ _ h => h
                          case hy71 => (refine Or.inl ⟨by rfl, ?_⟩; intro w hSw; (try dsimp only at hSw); (try go_split_ands); go_simp; (try (with_reducible rfl)))
                          case hr71 =>
                          (try simp only [Act.put, List.setIfInBounds_toArray, List.set_cons_zero, List.set_cons_succ])
                          refine wpAnyX_take (i := 72) (oi := ?oi72) (v := ?v72) ?ho72 (by kernel_rfl) (by kernel_rfl) (by kernel_rfl) (by kernel_rfl) ?hp72 ?hy72 hH11 ?hr72
                          case ho72 => (simp only [List.getElem?_toArray, List.getElem?_cons_succ, List.getElem?_cons_zero]; exact rfl)
                          case hp72 => exact fun _ _ _ h => h
                          case hy72 => (refine Or.inl ⟨by rfl, ?_⟩; intro w hSw; (try dsimp only at hSw); (try go_split_ands); go_simp; (try (with_reducible rfl)))
                          case hr72 =>
                          (try simp only [Act.put, List.setIfInBounds_toArray, List.set_cons_zero, List.set_cons_succ])
                          refine wpAnyX_take (i := 73) (oi := ?oi73) (v := ?v73) ?ho73 (by kernel_rfl) (by kernel_rfl) (by kernel_rfl) (by kernel_rfl) ?hp73 ?hy73 hH11 ?hr73
                          case ho73 => (simp only [List.getElem?_toArray, List.getElem?_cons_succ, List.getElem?_cons_zero]; exact rfl)
                          case hp73 => exact fun _ _ _ h => h
                          case hy73 => (refine Or.inl ⟨by rfl, ?_⟩; intro w hSw; (try dsimp only at hSw); (try go_split_ands); go_simp; (try (with_reducible rfl)))
                          case hr73 =>
                          (try simp only [Act.put, List.setIfInBounds_toArray, List.set_cons_zero, List.set_cons_succ])
                          refine wpAnyX_take (i := 74) (oi := ?oi74) (v := ?v74) ?ho74 (by kernel_rfl) (by kernel_rfl) (by kernel_rfl) (by kernel_rfl) ?hp74 ?hy74 hH11 ?hr74
                          case ho74 => (simp only [List.getElem?_toArray, List.getElem?_cons_succ, List.getElem?_cons_zero]; exact rfl)
                          case hp74 => exact fun _ _ _ h => h
                          case hy74 => (refine Or.inl ⟨by rfl, ?_⟩; intro w hSw; (try dsimp only at hSw); (try go_split_ands); go_simp; (try (with_reducible rfl)))
                          case hr74 =>
                          (try simp only [Act.put, List.setIfInBounds_toArray, List.set_cons_zero, List.set_cons_succ])
                          refine wpAnyX_take (i := 75) (oi := ?oi75) (v := ?v75) ?ho75 (by kernel_rfl) (by kernel_rfl) (by kernel_rfl) (by kernel_rfl) ?hp75 ?hy75 hH11 ?hr75
                          case ho75 => (simp only [List.getElem?_toArray, List.getElem?_cons_succ, List.getElem?_cons_zero]; exact rfl)
                          case hp75 => exact fun _ _ _ h => h
                          case hy75 => (refine Or.inl ⟨by rfl, ?_⟩; intro w hSw; (try dsimp only at hSw); (try go_split_ands); go_simp; (try (with_reducible rfl)))
                          case hr75 =>
                          (try simp only [Act.put, List.setIfInBounds_toArray, List.set_cons_zero, List.set_cons_succ])
                          refine wpAnyX_take (i := 76) (oi := ?oi76) (v := ?v76) ?ho76 (by kernel_rfl) (by kernel_rfl) (by kernel_rfl) (by kernel_rfl) ?hp76 ?hy76 hH11 ?hr76
                          case ho76 => (simp only [List.getElem?_toArray, List.getElem?_cons_succ, List.getElem?_cons_zero]; exact rfl)
                          case hp76 => exact fun _ _ _ h => h
                          case hy76 => (refine Or.inl ⟨by rfl, ?_⟩; intro w hSw; (try dsimp only at hSw); (try go_split_ands); go_simp; (try (with_reducible rfl)))
                          case hr76 =>
                          (try simp only [Act.put, List.setIfInBounds_toArray, List.set_cons_zero, List.set_cons_succ])
                          refine wpAnyX_take (i := 77) (oi := ?oi77) (v := ?v77) ?ho77 (by kernel_rfl) (by kernel_rfl) (by kernel_rfl) (by kernel_rfl) ?hp77 ?hy77 hH11 ?hr77
                          case ho77 => (simp only [List.getElem?_toArray, List.getElem?_cons_succ, List.getElem?_cons_zero]; exact rfl)
                          case hp77 => exact fun _ _ _ h => h
                          case hy77 => (refine Or.inl ⟨by rfl, ?_⟩; intro w hSw; (try dsimp only at hSw); (try go_split_ands); go_simp; (try (with_reducible rfl)))
                          case hr77 =>
                          (try simp only [Act.put, List.setIfInBounds_toArray, List.set_cons_zero, List.set_cons_succ])
                          refine wpAnyX_take (i := 78) (oi := ?oi78) (v := ?v78) ?ho78 (by kernel_rfl) (by kernel_rfl) (by kernel_rfl) (by kernel_rfl) ?hp78 ?hy78 hH11 ?hr78
                          case ho78 => (simp only [List.getElem?_toArray, List.getElem?_cons_succ, List.getElem?_cons_zero]; exact rfl)
                          case hp78 => exact fun _ _ _ h => h
                          case hy78 => (refine Or.inl ⟨by rfl, ?_⟩; intro w hSw; (try dsimp only at hSw); (try go_split_ands); go_simp; (try (with_reducible rfl)))
                          case hr78 =>
                          (try simp only [Act.put, List.setIfInBounds_toArray, List.set_cons_zero, List.set_cons_succ])
                          refine wpAnyX_take (i := 79) (oi := ?oi79) (v := ?v79) ?ho79 (by kernel_rfl) (by kernel_rfl) (by kernel_rfl) (by kernel_rfl) ?hp79 ?hy79 hH11 ?hr79
                          case ho79 => (simp only [List.getElem?_toArray, List.getElem?_cons_succ, List.getElem?_cons_zero]; exact rfl)
                          case hp79 => exact fun _ _ _ h => h
                          case hy79 => (refine Or.inl ⟨by rfl, ?_⟩; intro w hSw; (try dsimp only at hSw); (try go_split_ands); go_simp; (try (with_reducible rfl)))
                          case hr79 =>
                          (try simp only [Act.put, List.setIfInBounds_toArray, List.set_cons_zero, List.set_cons_succ])
                          refine wpAnyX_take (i := 80) (oi := ?oi80) (v := ?v80) ?ho80 (by kernel_rfl) (by kernel_rfl) (by kernel_rfl) (by kernel_rfl) ?hp80 ?hy80 hH11 ?hr80
                          case ho80 => (simp only [List.getElem?_toArray, List.getElem?_cons_succ, List.getElem?_cons_zero]; exact rfl)
                          case hp80 => exact fun _ _ _ h => h
                          case hy80 => (refine Or.inl ⟨by rfl, ?_⟩; intro w hSw; (try dsimp only at hSw); (try go_split_ands); go_simp; (try (with_reducible rfl)))
                          case hr80 =>
                          (try simp only [Act.put, List.setIfInBounds_toArray, List.set_cons_zero, List.set_cons_succ])
                          refine wpAnyX_done (by kernel_rfl) ?_ _
                          have X6 := hide (own_below N6.out B4.out)
                          have Z7 := hide (own_below N7.out B4.out)
                          have W9 := hide (own_below N9.out B4.out)
                          have HBW := hide (show Below w.heap.size w we from bstep HB00.out (bstep HB3.out (bstep HB10.out B4.out)))
                          have AP7 := hide (show ∀ k, (Value.slice p6 FO.length c6).ownBlock = some k → (Value.slice p7 FO.length c7).ownBlock ≠ some k from fun k h1 h2 => by have a := GX6.out k h1; have b := (N7.out.lt k h2).1; omega)
                          have AP9 := hide (show ∀ k, (Value.slice p6 FO.length c6).ownBlock = some k → (Value.slice p9 FO.length c9).ownBlock ≠ some k from fun k h1 h2 => by have a := GX6.out k h1; have b := (N9.out.lt k h2).1; have := GB7.out; have := GB8.out; omega)
                          have HLB := hide (show w.heap.size ≤ w5.heap.size from (bstep HB00.out (bstep HB3.out HB5.out)).size)
                          clear HB00 HB3 HB10 B0 B1 B2 B3 B4 N6 N7 N9 N8x N10 GX6 GB7 GB8 GB6 GB9 GB10 SK RY8 C3 C4 XM XO LM IO R8 F11 F12 F13 F14 F16 F17 HY hH0 hH1 hH2 hH3 hH4 hH5 hH6 hH7 hH8 hH9 hH10 hH11
                          go_wp2_with fail
                          go_loopw [18] (fun v18 wr => ∃ j : Nat, v18 = .int .i64 (j : Int) ∧ j ≤ FO.length ∧ Wip we wr w5.heap.size 5 1 (.slice p6 FO.length c6) FO.length) (fun v18 _ => FO.length - (intOf v18).toNat)
                          case atStart => exact ⟨0, rfl, Nat.zero_le _, Wip.refl X6.out⟩
                          case round =>
                            obtain ⟨j, rfl, hj, hw⟩ := hrel
                            have HW2 := hide hw
                            clear hw
                            have hj0 : (0 : Int) ≤ (j : Int) := by omega
                            by_cases hlt : j < FO.length
                            · have hltI : (j : Int) < (FO.length : Int) := by omega
                              have hfl := HFL.out
                              obtain ⟨xs, hx⟩ := HW2.out.row
                              obtain ⟨gx, cx, ex, -, -⟩ := hx.form (by omega)
                              injection ex with ex _ ex2
                              subst ex ex2
                              obtain ⟨u, hu, hfz⟩ := own_cellx hx (j := j) (by omega)
                              clear hx
                              go_wp2_with fail
                              go_roundw
                              case rel =>
                                exact ⟨j + 1, by go_num, by omega, HW2.out.set j _⟩
                              case measure => (first | (simp [intOf]; done) | (simp [intOf]; omega))
                            · have hltI : ¬ ((j : Int) < (FO.length : Int)) := by omega
                              have cv7 := conv_own (HW2.out.own Z7.out AP7.out)
                              have cv9 := conv_own (HW2.out.own W9.out AP9.out)
                              have CW := hide (works_c wr)
                              go_wp2_with (go_at_call 9; (apply Calls.mono; focus (exact CW.out)); rintro e wn ⟨rfl, hbn⟩; have HBN := hide hbn; clear hbn)
                              refine bodyPost_ret (v := .bool true) (by simp [results, Try.f3, go_sem]) rfl ⟨rfl, bstep (HW2.out.below HBW.out HLB.out) HBN.out⟩
end Go.Proofs.Ytalnipjaekpbhaa
