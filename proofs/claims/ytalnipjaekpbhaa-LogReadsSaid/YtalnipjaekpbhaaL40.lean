import Derived.Test.YtalnipjaekpbhaaMg
import Derived.Deep.CutBlock
import Derived.Deep.AppendLies
namespace Go.Proofs.Ytalnipjaekpbhaa
open Go.ChangeShapes Go.WideShapes Go.ChangeAt Go.RowKit Go.Deep
set_option linter.unusedSimpArgs false
set_option linter.unusedVariables false

set_option maxRecDepth 100000 in
set_option maxHeartbeats 4000000 in
theorem Append_1 {w : World} {kb B : Nat} {os : List Ord} {bs : List Nat} {v p : Value} {vs : List Value} (hk : KSt w kb B os bs v p vs) {lv : Value} {ls : List Ord} {lvs : List Value} (hl : OrdsIn w lv ls lvs) (hr : ∀ o ∈ ls, OrdR o) (hn : ls.length ≤ 1000000) (hbl : os.length + ls.length ≤ 100000000) (hby : bs.length ≤ 100000000000) (hap : Apt lv ls lvs kb v p) (hBkb : B ≤ w.heap.size) {POST : Ending → World → Prop} (hbad : ∀ i, i < ls.length → chk (ls.getD i (zeroO 0)) = false → ∀ w', Below w.heap.size w w' → POST (.returned (.int .i64 2)) w') (hok : OrdsOk ls → ∀ v' p' vs' w', KSt w' kb B (os ++ ls) (bs ++ framesO ls) v' p' vs' → KT w w' kb v p → Nr w v v' → Nr w p p' → POST (.returned (.int .i64 0)) w') : Calls Try.prog 34 #[.pointer (some ⟨kb, 0, none⟩), lv] w POST := by
  obtain ⟨c0, c1, c2⟩ := hk.cells
  have CN := hide (none_k c0)
  have HK := hide hk
  have HL := hide hl
  have HR := hide hr
  have HBAD := hide hbad
  have HOKK := hide hok
  have HAP := hide hap
  obtain ⟨pl, cl, hlv⟩ := hl.val
  subst hlv
  clear c0 c1 c2 hk hl hr hbad hok hap
  go_enter Try.func34, Try.ntmps34
  go_wp2_with (go_at_call 73; (apply Calls.mono; focus (exact CN.out)); rintro e wz ⟨rfl, rfl⟩)
  go_loopw [5, 16] (fun v5 v16 wr => ∃ j : Nat, j ≤ ls.length ∧ v16 = .int .i64 (j : Int) ∧ (∀ i, i < j → chk (ls.getD i (zeroO 0)) = true) ∧ RSt wz wr v5 (framesO (ls.take j))) (fun _ v16 _ => ls.length - (intOf v16).toNat)
  case atStart => exact ⟨0, Nat.zero_le _, rfl, fun i hi => absurd hi (Nat.not_lt_zero i), by simpa [framesO] using (show RSt wz wz (.slice none 0 0) [] from ⟨⟨rfl, .inl ⟨rfl, rfl⟩⟩, Below.refl _ _⟩)⟩
  case round =>
    obtain ⟨j, hj, rfl, hch, hrs⟩ := hrel
    have HCH := hide hch
    have HRS := hide hrs
    have hj0 : (0 : Int) ≤ (j : Int) := by omega
    clear hch hrs
    by_cases hlt : j < ls.length
    · have hlt' : (j : Int) < (ls.length : Int) := by omega
      have HLR := hide (HL.out.below HRS.out.b)
      obtain ⟨b, off, c, e1, hbl, hcell⟩ := HLR.out.at_ j hlt
      injection e1 with e1 _ ec1
      subst e1 ec1
      obtain ⟨L, hL⟩ : ∃ L, L = ls.getD j (zeroO 0) := ⟨_, rfl⟩
      obtain ⟨lv, hlv⟩ : ∃ L, L = lvs.getD j undef := ⟨_, rfl⟩
      have hoin := HLR.out.offs j hlt
      rw [← hL, ← hlv] at hcell hoin
      have HOI := hide hoin
      obtain ⟨pv, pc, hlv2⟩ := hoin.val
      have RL := hide (show wr.rangeAt b (off + j * 18) (ordCells L lv) from fun q u hu => by
        have hq := (List.getElem?_eq_some_iff.1 hu).1
        rw [ordCells_len] at hq
        rw [hcell q hq]; exact hu)
      have hLR : OrdR L := HR.out L (by rw [hL, List.getD_eq_getElem?_getD, List.getElem?_eq_getElem hlt]; exact List.getElem_mem hlt)
      have HFT := hide (frames_take hlt)
      rw [← hL] at HFT
      have hfl : (framesO (ls.take j)).length ≤ 2006 * ls.length := frames_len_take HR.out HCH.out (Nat.le_of_lt hlt)
      subst hlv2
      have HLE := hide hL
      clear hcell hoin hlv hL
      go_upto_region 7 with (first
        | (refine wpList_load_mid rfl 29 _ rfl b (off + j * 18) rfl (ordCells L (.slice pv L.offs.length pc)) _ ?_ Try.underlying29 rfl ?_ ?_; exact RL.out; (rw [ordCells_len]; kernel_rfl))
        | (refine wpList_store_mid rfl 29 _ _ rfl wr.heap.size 0 (ordCells L (.slice pv L.offs.length pc)).toArray rfl ?_ ?_ ?_ ?_ ?_; exact rfl; exact alloc_there wr L (.slice pv L.offs.length pc); kernel_rfl; kernel_rfl))
      obtain ⟨OB, hOB⟩ : ∃ X, X = wr.heap.size := ⟨_, rfl⟩
      obtain ⟨W4, hW4⟩ : ∃ W4, W4 = (wr.alloc (.cells #[Value.int .i64 0, .string ⟨#[]⟩, .int .i64 0, .int .i64 0, .int .i64 0, .int .i64 0, .int .i64 0, .int .i64 0, .int .i64 0, .int .i64 0, .int .i64 0, .int .i64 0, .int .i64 0, .int .i64 0, .int .i64 0, .int .i64 0, .slice none 0 0, .int .i64 0] 29)).setCells wr.heap.size 0 (ordCells L (.slice pv L.offs.length pc)) := ⟨_, rfl⟩
      have hb34 : Below wr.heap.size wr W4 := by rw [hW4]; exact below_sets (Nat.le_refl _) _ _ _ ((Below.refl _ _).alloc (Nat.le_refl _) _)
      have HBX := hide (show BoxO W4 OB L (.slice pv L.offs.length pc) by rw [hW4, hOB]; exact (box_made wr (zeroO 0) _).set _ _)
      have HRS4 := hide (HRS.out.below hb34)
      have HOI4 := hide (HOI.out.below hb34)
      rw [show (wr.alloc (.cells #[Value.int .i64 0, .string ⟨#[]⟩, .int .i64 0, .int .i64 0, .int .i64 0, .int .i64 0, .int .i64 0, .int .i64 0, .int .i64 0, .int .i64 0, .int .i64 0, .int .i64 0, .int .i64 0, .int .i64 0, .int .i64 0, .int .i64 0, .slice none 0 0, .int .i64 0] 29)).setCells wr.heap.size 0 (ordCells L (.slice pv L.offs.length pc)).toArray.toList = W4 from hW4.symm, ← hOB]
      clear hW4 hOB hb34 RL HOI
      rcases (show chk L = true ∨ chk L = false by cases chk L <;> simp) with hc | hc
      · have HCL := hide hc
        have hln := formO_len hLR hc
        have hfr := frameO_len hLR hc
        have CF := Frame_ok L (.slice pv L.offs.length pc) W4 HOI4.out hc hLR hln (formO_lt hLR ((chk_iff L).1 hc).k1 hc)
        unfold ordV at CF
        have CX := hide CF
        have HNL := hide (show (framesO (ls.take j)).length + (frameO L).length ≤ 1099511627776 by omega)
        clear hc CF hln hfr
        go_upto_region 10 with (first
          | (refine wpList_load_mid rfl 29 _ rfl OB 0 rfl (ordCells L (.slice pv L.offs.length pc)) _ ?_ Try.underlying29 rfl ?_ ?_; exact HBX.out.range; (rw [ordCells_len]; kernel_rfl))
          | (go_at_call 12; (apply Calls.mono; focus (exact CX.out)); rintro e w5 ⟨v5, rfl, o5, hb5⟩; obtain ⟨p5, c5, rfl⟩ := own_any o5; have O5 := hide o5; have HRS5 := hide (HRS4.out.below hb5); clear o5 hb5))
        obtain ⟨g5, cc5, e5, -, -⟩ := O5.out.form (by have := frameO_len hLR HCL.out; omega)
        injection e5 with e5 _ ec5
        subst e5 ec5
        go_wp2_with (at_builtin; refine wpList_app8 _ rfl _ _ rfl HRS5.out rfl rfl O5.out HNL.out ?_; intro v6 w6 h6 g6; have H6 := hide h6; clear h6 g6)
        go_roundw
        case rel =>
          refine ⟨j + 1, by omega, by go_num, fun i hi => ?_, by rw [HFT.out]; exact H6.out⟩
          rcases Nat.lt_or_ge i j with h3 | h3
          · exact HCH.out i h3
          · obtain rfl : i = j := by omega
            rw [← HLE.out]; exact HCL.out
        case measure => (first | (simp [intOf]; done) | (simp [intOf]; omega))
      · have CF := Frame_bad L (.slice pv L.offs.length pc) W4 HOI4.out hc
        unfold ordV at CF
        have CX := hide CF
        have HB2 := hide (show ∀ w', Below wz.heap.size wz w' → POST (.returned (.int .i64 2)) w' from HBAD.out j hlt (by rw [← HLE.out]; exact hc))
        clear hc CF
        go_wp2_with (first
          | (refine wpList_load_mid rfl 29 _ rfl OB 0 rfl (ordCells L (.slice pv L.offs.length pc)) _ ?_ Try.underlying29 rfl ?_ ?_; exact HBX.out.range; (rw [ordCells_len]; kernel_rfl))
          | (go_at_call 12; (apply Calls.mono; focus (exact CX.out)); rintro e w5 ⟨rfl, hb5⟩; have HRS5 := hide (HRS4.out.below hb5); clear hb5))
        exact HB2.out _ HRS5.out.b
    · obtain rfl : ls.length = j := by omega
      have HOK2 := hide (show OrdsOk ls from HCH.out)
      rw [List.take_length] at HRS
      have HK1 := hide (HK.out.below HRS.out.b)
      have HL1 := hide (HL.out.below HRS.out.b)
      obtain ⟨pa, ca, hua⟩ := own_any HRS.out.own
      obtain ⟨i29, hi29, hz29, hs29, hb29⟩ := info_parts info29
      obtain ⟨w1, hw1⟩ : ∃ q : World, q = wr := ⟨_, rfl⟩
      subst hua
      have hfl := frames_len_take HR.out HOK2.out (Nat.le_refl ls.length)
      rw [List.take_length] at hfl
      clear HCH
      go_wp2_with fail
      subst hw1
      go_loopw [34] (fun v34 wr => ∃ (j : Nat) (v' : Value) (vs' : List Value), j ≤ ls.length ∧ v34 = .int .i64 (j : Int) ∧ KSt wr kb B (os ++ ls.take j) bs v' p vs' ∧ KT w1 wr kb v p ∧ Nr w1 v v' ∧ wr.ownsRow wz.heap.size 5 1 (.slice pa (framesO ls).length ca) (framesO ls).length (u8L (framesO ls))) (fun v34 _ => ls.length - (intOf v34).toNat)
      case atStart => exact ⟨0, v, vs, Nat.zero_le _, rfl, by simpa using HK1.out, KT.of_below (Below.refl _ _), Nr.refl _ _, HRS.out.own⟩
      case round =>
        obtain ⟨j, v', vs', hj, rfl, hk, hkt, hnr, hal⟩ := hrel
        have HKJ := hide hk
        have HKT := hide hkt
        have HNR := hide hnr
        have HAL := hide hal
        have hj0 : (0 : Int) ≤ (j : Int) := by omega
        clear hk hkt hnr hal
        by_cases hlt : j < ls.length
        · have hlt' : (j : Int) < (ls.length : Int) := by omega
          have HLR := hide (HL1.out.turn HAP.out HKT.out (by omega))
          obtain ⟨b, off, c, e1, hbl2, hcell⟩ := HLR.out.at_ j hlt
          injection e1 with e1 _ ec1
          subst e1 ec1
          obtain ⟨L, hL⟩ : ∃ L, L = ls.getD j (zeroO 0) := ⟨_, rfl⟩
          obtain ⟨lv, hlv⟩ : ∃ L, L = lvs.getD j undef := ⟨_, rfl⟩
          have hoin := HLR.out.offs j hlt
          rw [← hL, ← hlv] at hcell hoin
          have HOI := hide hoin
          obtain ⟨pv, pc, hlv2⟩ := hoin.val
          have RL := hide (show wr.rangeAt b (off + j * 18) (ordCells L lv) from fun q u hu => by
            have hq := (List.getElem?_eq_some_iff.1 hu).1
            rw [ordCells_len] at hq
            rw [hcell q hq]; exact hu)
          subst hlv2
          have HLE := hide hL
          have HTS := hide (show ls.take (j + 1) = ls.take j ++ [L] by rw [hL]; exact take_snocO hlt)
          clear hcell hoin hlv hL
          go_upto_block 3 with fail
          go_cut [11] from 36 to 48 (fun _ wx => ∃ v6 vs6, KSt wx kb B (os ++ ls.take (j + 1)) bs v6 p vs6 ∧ KT wr wx kb v' p ∧ Nr wr v' v6 ∧ wx.ownsRow wz.heap.size 5 1 (.slice pa (framesO ls).length ca) (framesO ls).length (u8L (framesO ls)))
          case first =>
            as_aux_lemma =>
              go_upto_region 15 with (first
                | (refine wpList_load_mid rfl 29 _ rfl b (off + j * 18) rfl (ordCells L (.slice pv L.offs.length pc)) _ ?_ Try.underlying29 rfl ?_ ?_; exact RL.out; (rw [ordCells_len]; kernel_rfl))
                | (refine wpList_store_mid rfl 29 _ _ rfl wr.heap.size 0 (ordCells L (.slice pv L.offs.length pc)).toArray rfl ?_ ?_ ?_ ?_ ?_; exact rfl; exact alloc_there wr L (.slice pv L.offs.length pc); kernel_rfl; kernel_rfl))
              obtain ⟨OB, hOB⟩ : ∃ X, X = wr.heap.size := ⟨_, rfl⟩
              obtain ⟨W4, hW4⟩ : ∃ W4, W4 = (wr.alloc (.cells #[Value.int .i64 0, .string ⟨#[]⟩, .int .i64 0, .int .i64 0, .int .i64 0, .int .i64 0, .int .i64 0, .int .i64 0, .int .i64 0, .int .i64 0, .int .i64 0, .int .i64 0, .int .i64 0, .int .i64 0, .int .i64 0, .int .i64 0, .slice none 0 0, .int .i64 0] 29)).setCells wr.heap.size 0 (ordCells L (.slice pv L.offs.length pc)) := ⟨_, rfl⟩
              have hb34 : Below wr.heap.size wr W4 := by rw [hW4]; exact below_sets (Nat.le_refl _) _ _ _ ((Below.refl _ _).alloc (Nat.le_refl _) _)
              have hbx : BoxO W4 OB L (.slice pv L.offs.length pc) := by rw [hW4, hOB]; exact (box_made wr (zeroO 0) _).set _ _
              have HOI4 := hide (HOI.out.below hb34)
              have HK4 := hide (HKJ.out.below hb34)
              have HB34 := hide hb34
              rw [show (wr.alloc (.cells #[Value.int .i64 0, .string ⟨#[]⟩, .int .i64 0, .int .i64 0, .int .i64 0, .int .i64 0, .int .i64 0, .int .i64 0, .int .i64 0, .int .i64 0, .int .i64 0, .int .i64 0, .int .i64 0, .int .i64 0, .int .i64 0, .int .i64 0, .slice none 0 0, .int .i64 0] 29)).setCells wr.heap.size 0 (ordCells L (.slice pv L.offs.length pc)).toArray.toList = W4 from hW4.symm, ← hOB]
              obtain ⟨OS, hOS⟩ : ∃ OS, OS = os ++ ls.take j := ⟨_, rfl⟩
              rw [← hOS] at HK4
              have hosl : OS.length ≤ 100000000 := by rw [hOS, List.length_append, List.length_take]; omega
              have HOS := hide hOS
              clear hOS
              have HKJV := hide (fun r (hr : v'.ownBlock = some r) => (HKJ.out.o.row.lt r hr).2)
              obtain ⟨pk, ck, hvk⟩ := own_any HK4.out.o.row
              subst hvk
              have k1 := HK4.out.cells.2.1
              have kf : ∀ q, W4.frozen? ⟨kb, q, none⟩ = false := fun q => frozen_of_row W4 kb q _ 86 HK4.out.hp
              have klt := HK4.out.lt
              have hB4 : B ≤ W4.heap.size := by have := HRS.out.b.size; have := HKT.out.size; have := HB34.out.size; omega
              have CO := hide (fun (w' : World) (hb : Below W4.heap.size W4 w') => (show Calls Try.prog 72 #[.agg (ordCells L (.slice pv L.offs.length pc)).toArray] w' (fun e w'' => ∃ v', e = .returned (.agg (ordCells L v').toArray) ∧ w''.ownsRow w'.heap.size 93 2 v' L.offs.length (flatF L.offs) ∧ Below w'.heap.size w' w'') from owned_c L (.slice pv L.offs.length pc) w' (HOI4.out.below hb)))
              have HBX4 := hide hbx
              have RBX := hide (show ∀ wq, Below W4.heap.size W4 wq → wq.rangeAt OB 0 (ordCells L (.slice pv L.offs.length pc)) from fun wq hb => (HBX4.out.below hb).range)
              have HOBL := hide HBX4.out.lt
              have HNE := hide (show ∀ r, (Value.slice pk OS.length ck).ownBlock = some r → r ≠ OB from fun r hr e => by have := (HKJV.out r hr); omega)
              have HOBK := hide (show OB ≠ kb from by have := HKJ.out.lt; omega)
              clear hW4 hOB hb34 RL HOI hbx
              refine wp_region_held_drew (S := fun wq => wq.rangeAt OB 0 (ordCells L (.slice pv L.offs.length pc))) (by kernel_rfl) (RBX.out _ (drewB _)) (fun hH0 => ?_)
              refine wpAnyH_take (i := 0) (oi := ?oi0) (v := ?v0) ?ho0 (by kernel_rfl) (by kernel_rfl) (by kernel_rfl) ?hp0 ?hy0 hH0 ?hr0
              case ho0 => (simp only [List.getElem?_toArray, List.getElem?_cons_succ, List.getElem?_cons_zero]; exact rfl)
              case hp0 => exact fun _ _ _ h => h
              case hy0 => (refine Or.inl ⟨by rfl, ?_⟩; intro w hSw; (try dsimp only at hSw); go_simp; (try (with_reducible rfl)))
              case hr0 =>
              (try simp only [Act.put, List.setIfInBounds_toArray, List.set_cons_zero, List.set_cons_succ])
              refine wpAnyH_take (i := 1) (oi := ?oi1) (v := ?v1) ?ho1 (by kernel_rfl) (by kernel_rfl) (by kernel_rfl) ?hp1 ?hy1 hH0 ?hr1
              case ho1 => (simp only [List.getElem?_toArray, List.getElem?_cons_succ, List.getElem?_cons_zero]; exact rfl)
              case hp1 => exact fun _ _ _ h => h
              case hy1 => (refine Or.inl ⟨by rfl, ?_⟩; intro w hSw; (try dsimp only at hSw); go_simp; (try (with_reducible rfl)))
              case hr1 =>
              (try simp only [Act.put, List.setIfInBounds_toArray, List.set_cons_zero, List.set_cons_succ])
              refine wpAnyH_take (i := 2) (oi := ?oi2) (v := ?v2) ?ho2 (by kernel_rfl) (by kernel_rfl) (by kernel_rfl) ?hp2 ?hy2 hH0 ?hr2
              case ho2 => (simp only [List.getElem?_toArray, List.getElem?_cons_succ, List.getElem?_cons_zero]; exact rfl)
              case hp2 => exact fun _ _ _ h => h
              case hy2 => (refine Or.inl ⟨by rfl, ?_⟩; intro w hSw; (try dsimp only at hSw); go_simp; (try (with_reducible rfl)))
              case hr2 =>
              (try simp only [Act.put, List.setIfInBounds_toArray, List.set_cons_zero, List.set_cons_succ])
              refine wpAnyH_take (i := 3) (oi := ?oi3) (v := ?v3) ?ho3 (by kernel_rfl) (by kernel_rfl) (by kernel_rfl) ?hp3 ?hy3 hH0 ?hr3
              case ho3 => (simp only [List.getElem?_toArray, List.getElem?_cons_succ, List.getElem?_cons_zero]; exact rfl)
              case hp3 => exact fun _ _ _ h => h
              case hy3 => (refine Or.inl ⟨by rfl, ?_⟩; intro w hSw; (try dsimp only at hSw); go_simp; (try (with_reducible rfl)))
              case hr3 =>
              (try simp only [Act.put, List.setIfInBounds_toArray, List.set_cons_zero, List.set_cons_succ])
              refine wpAnyH_take (i := 5) (oi := ?oi5) (v := ?v5) ?ho5 (by kernel_rfl) (by kernel_rfl) (by kernel_rfl) ?hp5 ?hy5 hH0 ?hr5
              case ho5 => (simp only [List.getElem?_toArray, List.getElem?_cons_succ, List.getElem?_cons_zero]; exact rfl)
              case hp5 => exact fun _ _ _ h => h
              case hy5 =>
                refine yieldsIf_load_mid ?_ 29 (.tmp 11) ?_ OB 0 ?_ (ordCells L (.slice pv L.offs.length pc)) _ ?_ Try.underlying29 ?_ ?_
                · rfl
                · exact rfl
                · exact rfl
                · exact fun _ h => h
                · rfl
                · rw [ordCells_len]; kernel_rfl
              case hr5 =>
              (try simp only [Act.put, List.setIfInBounds_toArray, List.set_cons_zero, List.set_cons_succ])
              refine wpAnyH_ready (rs := [4, 6]) (by kernel_rfl) (by simp) (AllReadyH.cons (o := ?oi4) ?ho4 (fun K hK => ?hr4) (AllReadyH.cons (o := ?oi6) ?ho6 (fun K hK => ?hr6) (AllReadyH.nil)))
              case ho4 => (simp only [List.getElem?_toArray, List.getElem?_cons_succ, List.getElem?_cons_zero]; exact rfl)
              case ho6 => (simp only [List.getElem?_toArray, List.getElem?_cons_succ, List.getElem?_cons_zero]; exact rfl)
              case hr4 =>
                go_simp
                refine hK.out _ _ ?_ (fun hH1 => ?_)
                · exact hH0
                clear hK K
                (try simp only [Act.put, List.setIfInBounds_toArray, List.set_cons_zero, List.set_cons_succ])
                refine wpAnyH_ready (rs := [6]) (by kernel_rfl) (by simp) (AllReadyH.cons (o := ?oi6x) ?ho6x (fun K hK => ?hr6x) (AllReadyH.nil))
                case ho6x => (simp only [List.getElem?_toArray, List.getElem?_cons_succ, List.getElem?_cons_zero]; exact rfl)
                case hr6x =>
                  go_simp
                  refine (CO.out _ (drewB _)).mono ?_
                  rintro e w5 ⟨v5, rfl, o5, hb5⟩
                  obtain ⟨p5, c5, rfl⟩ := own_any o5
                  have HB5 := hide (bstep (drewB _) hb5)
                  have O5 := hide o5
                  have klt5 : kb < w5.heap.size := by have := HB5.out.size; omega
                  have k15 := cell_stay k1 (HB5.out.block kb klt)
                  clear o5 hb5
                  refine hK.out _ _ ?_ (fun hH2 => ?_)
                  · exact RBX.out _ HB5.out
                  clear hK K
                  (try simp only [Act.put, List.setIfInBounds_toArray, List.set_cons_zero, List.set_cons_succ])
                  refine wpAnyH_ready (rs := [7]) (by kernel_rfl) (by simp) (AllReadyH.cons (o := ?oi7x) ?ho7x (fun K hK => ?hr7x) (AllReadyH.nil))
                  case ho7x => (simp only [List.getElem?_toArray, List.getElem?_cons_succ, List.getElem?_cons_zero]; exact rfl)
                  case hr7x =>
                    have e18 : (ordCells L (.slice p5 L.offs.length c5)).length = 18 := ordCells_len _ _
                    go_simp
                    rw [lit_fold]
                    have HAL5 := hide (World.ownsRow_lit (size := 18) (base := w5.heap.size) (e := 29) w5 (ordCells L (.slice p5 L.offs.length c5)).toArray 1 (Nat.le_refl _) (by decide) (by rw [List.size_toArray, ordCells_len]))
                    have hba : Below w5.heap.size w5 (w5.alloc (.cells (ordCells L (.slice p5 L.offs.length c5)).toArray 29)) := (Below.refl _ _).alloc (Nat.le_refl _) _
                    have HBA := hide (bstep HB5.out hba)
                    have HOA := hide (own_below O5.out hba)
                    obtain ⟨WA, hWA⟩ : ∃ WA, WA = w5.alloc (.cells (ordCells L (.slice p5 L.offs.length c5)).toArray 29) := ⟨_, rfl⟩
                    obtain ⟨gA, hgA⟩ : ∃ gA, gA = w5.heap.size := ⟨_, rfl⟩
                    rw [← hWA, ← hgA] at HAL5
                    rw [← hWA] at HBA HOA
                    rw [← hWA, ← hgA]
                    have kltA : kb < WA.heap.size := by have := HBA.out.size; omega
                    have k1A := cell_stay k1 (HBA.out.block kb klt)
                    clear hWA hba hgA
                    refine hK.out _ _ ?_ (fun hH3 => ?_)
                    · exact RBX.out _ HBA.out
                    clear hK K
                    (try simp only [Act.put, List.setIfInBounds_toArray, List.set_cons_zero, List.set_cons_succ])
                    refine wpAnyH_ready (rs := [8]) (by kernel_rfl) (by simp) (AllReadyH.cons (o := ?oi8xb) ?ho8xb (fun K hK => ?hr8xb) (AllReadyH.nil))
                    case ho8xb => (simp only [List.getElem?_toArray, List.getElem?_cons_succ, List.getElem?_cons_zero]; exact rfl)
                    case hr8xb =>
                      have HK5 := hide (HK4.out.below HBA.out)
                      refine step_append_lies _ rfl _ _ 32 rfl B 29 i29 (.agg #[Value.int .i64 0, .string ⟨#[]⟩, .int .i64 0, .int .i64 0, .int .i64 0, .int .i64 0, .int .i64 0, .int .i64 0, .int .i64 0, .int .i64 0, .int .i64 0, .int .i64 0, .int .i64 0, .int .i64 0, .int .i64 0, .int .i64 0, .slice none 0 0, .int .i64 0]) 18 168 Try.underlying32 hi29 hz29 hs29 hb29 rfl (by decide) (.slice pk OS.length ck) OS.length (flatO OS vs') rfl HK5.out.o.row ⟨gA, 0, none⟩ 1 1 (ordCells L (.slice p5 L.offs.length c5)) rfl (by rw [ordCells_len]) (fun q u hu => by rw [addr_add, Nat.zero_add]; exact (HAL5.out.cellAt q (by have := (List.getElem?_eq_some_iff.1 hu).1; rw [ordCells_len] at this; omega)).trans hu) (ordCells_one L _ rfl) (by decide) (by unfold maxLen; omega) (by omega) (by have := HBA.out.size; omega) _ rfl ?_
                      intro g6 c6 w6 h6 gr6 hgg hgl
                      have hkb6 := gr6.block kb kltA (fun e => own_ne_box HK5.out.o.row HK5.out.hp (by decide) e.symm)
                      have k16 : w6.cell? ⟨kb, 1, none⟩ = some (.slice pk OS.length ck) := cell_stay HK5.out.cells.2.1 hkb6
                      have kf6 : ∀ q, w6.frozen? ⟨kb, q, none⟩ = false := fun q => (World.frozen?_of_block (a := ⟨kb, q, none⟩) hkb6).trans (frozen_of_row _ kb q _ 86 HK5.out.hp)
                      have H6 := hide h6
                      have G6 := hide gr6
                      have HG6 := hide hgg
                      have hx6 := hide (((HBX4.out.below HBA.out).stays (gr6.block OB (Nat.lt_of_lt_of_le HOBL.out HBA.out.size) (fun e => HNE.out _ e.symm rfl))))
                      clear h6 gr6 hgg hkb6
                      refine hK.out _ _ ?_ (fun hH4 => ?_)
                      · exact hx6.out.range
                      clear hK K
                      (try simp only [Act.put, List.setIfInBounds_toArray, List.set_cons_zero, List.set_cons_succ])
                      refine wpAnyH_take (i := 9) (oi := ?oi9x) (v := ?v9x) ?ho9x (by kernel_rfl) (by kernel_rfl) (by kernel_rfl) ?hp9x ?hy9x hH4 ?hr9x
                      case ho9x => (simp only [List.getElem?_toArray, List.getElem?_cons_succ, List.getElem?_cons_zero]; exact rfl)
                      case hp9x => exact fun _ _ _ h => h
                      case hy9x => (refine Or.inl ⟨by rfl, ?_⟩; intro w hSw; (try dsimp only at hSw); go_simp; (try (with_reducible rfl)))
                      case hr9x =>
                      (try simp only [Act.put, List.setIfInBounds_toArray, List.set_cons_zero, List.set_cons_succ])
                      refine wpAnyH_take (i := 10) (oi := ?oi10x) (v := ?v10x) ?ho10x (by kernel_rfl) (by kernel_rfl) (by kernel_rfl) ?hp10x ?hy10x hH4 ?hr10x
                      case ho10x => (simp only [List.getElem?_toArray, List.getElem?_cons_succ, List.getElem?_cons_zero]; exact rfl)
                      case hp10x => exact fun _ _ _ h => h
                      case hy10x => (refine Or.inl ⟨by rfl, ?_⟩; intro w hSw; (try dsimp only at hSw); go_simp; (try (with_reducible rfl)))
                      case hr10x =>
                      (try simp only [Act.put, List.setIfInBounds_toArray, List.set_cons_zero, List.set_cons_succ])
                      refine wpAnyH_ready (rs := [11]) (by kernel_rfl) (by simp) (AllReadyH.cons (o := ?oi11xc) ?ho11xc (fun K hK => ?hr11xc) (AllReadyH.nil))
                      case ho11xc => (simp only [List.getElem?_toArray, List.getElem?_cons_succ, List.getElem?_cons_zero]; exact rfl)
                      case hr11xc =>
                        go_simp
                        refine hK.out _ _ ?_ (fun hH5 => ?_)
                        · exact (hx6.out.stays (heap_setCell_other _ _ _ _ HOBK.out)).range
                        clear hK K
                        (try simp only [Act.put, List.setIfInBounds_toArray, List.set_cons_zero, List.set_cons_succ])
                        refine wpAnyH_done (by kernel_rfl) ?_ _
                        as_aux_lemma =>
                          go_wp2_with fail
                          go_meet
                          obtain ⟨q1, q2, q3, q4⟩ := append_turn HK4.out HB34.out HBA.out (by have := HKJ.out.lt; exact this) (own_lower HOA.out hB4) H6.out G6.out HG6.out
                          exact ⟨_, _, by rw [HTS.out, ← List.append_assoc, ← HOS.out]; exact q1, q2, q3, q4 _ _ _ _ HAL.out⟩
              case hr6 =>
                go_simp
                refine (CO.out _ (drewB _)).mono ?_
                rintro e w5 ⟨v5, rfl, o5, hb5⟩
                obtain ⟨p5, c5, rfl⟩ := own_any o5
                have HB5 := hide (bstep (drewB _) hb5)
                have O5 := hide o5
                have klt5 : kb < w5.heap.size := by have := HB5.out.size; omega
                have k15 := cell_stay k1 (HB5.out.block kb klt)
                clear o5 hb5
                refine hK.out _ _ ?_ (fun hH1 => ?_)
                · exact RBX.out _ HB5.out
                clear hK K
                (try simp only [Act.put, List.setIfInBounds_toArray, List.set_cons_zero, List.set_cons_succ])
                refine wpAnyH_ready (rs := [4, 7]) (by kernel_rfl) (by simp) (AllReadyH.cons (o := ?oi4w) ?ho4w (fun K hK => ?hr4w) (AllReadyH.cons (o := ?oi7w) ?ho7w (fun K hK => ?hr7w) (AllReadyH.nil)))
                case ho4w => (simp only [List.getElem?_toArray, List.getElem?_cons_succ, List.getElem?_cons_zero]; exact rfl)
                case ho7w => (simp only [List.getElem?_toArray, List.getElem?_cons_succ, List.getElem?_cons_zero]; exact rfl)
                case hr4w =>
                  go_simp
                  refine hK.out _ _ ?_ (fun hH2 => ?_)
                  · exact hH1
                  clear hK K
                  (try simp only [Act.put, List.setIfInBounds_toArray, List.set_cons_zero, List.set_cons_succ])
                  refine wpAnyH_ready (rs := [7]) (by kernel_rfl) (by simp) (AllReadyH.cons (o := ?oi7y) ?ho7y (fun K hK => ?hr7y) (AllReadyH.nil))
                  case ho7y => (simp only [List.getElem?_toArray, List.getElem?_cons_succ, List.getElem?_cons_zero]; exact rfl)
                  case hr7y =>
                    have e18 : (ordCells L (.slice p5 L.offs.length c5)).length = 18 := ordCells_len _ _
                    go_simp
                    rw [lit_fold]
                    have HAL5 := hide (World.ownsRow_lit (size := 18) (base := w5.heap.size) (e := 29) w5 (ordCells L (.slice p5 L.offs.length c5)).toArray 1 (Nat.le_refl _) (by decide) (by rw [List.size_toArray, ordCells_len]))
                    have hba : Below w5.heap.size w5 (w5.alloc (.cells (ordCells L (.slice p5 L.offs.length c5)).toArray 29)) := (Below.refl _ _).alloc (Nat.le_refl _) _
                    have HBA := hide (bstep HB5.out hba)
                    have HOA := hide (own_below O5.out hba)
                    obtain ⟨WA, hWA⟩ : ∃ WA, WA = w5.alloc (.cells (ordCells L (.slice p5 L.offs.length c5)).toArray 29) := ⟨_, rfl⟩
                    obtain ⟨gA, hgA⟩ : ∃ gA, gA = w5.heap.size := ⟨_, rfl⟩
                    rw [← hWA, ← hgA] at HAL5
                    rw [← hWA] at HBA HOA
                    rw [← hWA, ← hgA]
                    have kltA : kb < WA.heap.size := by have := HBA.out.size; omega
                    have k1A := cell_stay k1 (HBA.out.block kb klt)
                    clear hWA hba hgA
                    refine hK.out _ _ ?_ (fun hH3 => ?_)
                    · exact RBX.out _ HBA.out
                    clear hK K
                    (try simp only [Act.put, List.setIfInBounds_toArray, List.set_cons_zero, List.set_cons_succ])
                    refine wpAnyH_ready (rs := [8]) (by kernel_rfl) (by simp) (AllReadyH.cons (o := ?oi8yb) ?ho8yb (fun K hK => ?hr8yb) (AllReadyH.nil))
                    case ho8yb => (simp only [List.getElem?_toArray, List.getElem?_cons_succ, List.getElem?_cons_zero]; exact rfl)
                    case hr8yb =>
                      have HK5 := hide (HK4.out.below HBA.out)
                      refine step_append_lies _ rfl _ _ 32 rfl B 29 i29 (.agg #[Value.int .i64 0, .string ⟨#[]⟩, .int .i64 0, .int .i64 0, .int .i64 0, .int .i64 0, .int .i64 0, .int .i64 0, .int .i64 0, .int .i64 0, .int .i64 0, .int .i64 0, .int .i64 0, .int .i64 0, .int .i64 0, .int .i64 0, .slice none 0 0, .int .i64 0]) 18 168 Try.underlying32 hi29 hz29 hs29 hb29 rfl (by decide) (.slice pk OS.length ck) OS.length (flatO OS vs') rfl HK5.out.o.row ⟨gA, 0, none⟩ 1 1 (ordCells L (.slice p5 L.offs.length c5)) rfl (by rw [ordCells_len]) (fun q u hu => by rw [addr_add, Nat.zero_add]; exact (HAL5.out.cellAt q (by have := (List.getElem?_eq_some_iff.1 hu).1; rw [ordCells_len] at this; omega)).trans hu) (ordCells_one L _ rfl) (by decide) (by unfold maxLen; omega) (by omega) (by have := HBA.out.size; omega) _ rfl ?_
                      intro g6 c6 w6 h6 gr6 hgg hgl
                      have hkb6 := gr6.block kb kltA (fun e => own_ne_box HK5.out.o.row HK5.out.hp (by decide) e.symm)
                      have k16 : w6.cell? ⟨kb, 1, none⟩ = some (.slice pk OS.length ck) := cell_stay HK5.out.cells.2.1 hkb6
                      have kf6 : ∀ q, w6.frozen? ⟨kb, q, none⟩ = false := fun q => (World.frozen?_of_block (a := ⟨kb, q, none⟩) hkb6).trans (frozen_of_row _ kb q _ 86 HK5.out.hp)
                      have H6 := hide h6
                      have G6 := hide gr6
                      have HG6 := hide hgg
                      have hx6 := hide (((HBX4.out.below HBA.out).stays (gr6.block OB (Nat.lt_of_lt_of_le HOBL.out HBA.out.size) (fun e => HNE.out _ e.symm rfl))))
                      clear h6 gr6 hgg hkb6
                      refine hK.out _ _ ?_ (fun hH4 => ?_)
                      · exact hx6.out.range
                      clear hK K
                      (try simp only [Act.put, List.setIfInBounds_toArray, List.set_cons_zero, List.set_cons_succ])
                      refine wpAnyH_take (i := 9) (oi := ?oi9y) (v := ?v9y) ?ho9y (by kernel_rfl) (by kernel_rfl) (by kernel_rfl) ?hp9y ?hy9y hH4 ?hr9y
                      case ho9y => (simp only [List.getElem?_toArray, List.getElem?_cons_succ, List.getElem?_cons_zero]; exact rfl)
                      case hp9y => exact fun _ _ _ h => h
                      case hy9y => (refine Or.inl ⟨by rfl, ?_⟩; intro w hSw; (try dsimp only at hSw); go_simp; (try (with_reducible rfl)))
                      case hr9y =>
                      (try simp only [Act.put, List.setIfInBounds_toArray, List.set_cons_zero, List.set_cons_succ])
                      refine wpAnyH_take (i := 10) (oi := ?oi10y) (v := ?v10y) ?ho10y (by kernel_rfl) (by kernel_rfl) (by kernel_rfl) ?hp10y ?hy10y hH4 ?hr10y
                      case ho10y => (simp only [List.getElem?_toArray, List.getElem?_cons_succ, List.getElem?_cons_zero]; exact rfl)
                      case hp10y => exact fun _ _ _ h => h
                      case hy10y => (refine Or.inl ⟨by rfl, ?_⟩; intro w hSw; (try dsimp only at hSw); go_simp; (try (with_reducible rfl)))
                      case hr10y =>
                      (try simp only [Act.put, List.setIfInBounds_toArray, List.set_cons_zero, List.set_cons_succ])
                      refine wpAnyH_ready (rs := [11]) (by kernel_rfl) (by simp) (AllReadyH.cons (o := ?oi11yc) ?ho11yc (fun K hK => ?hr11yc) (AllReadyH.nil))
                      case ho11yc => (simp only [List.getElem?_toArray, List.getElem?_cons_succ, List.getElem?_cons_zero]; exact rfl)
                      case hr11yc =>
                        go_simp
                        refine hK.out _ _ ?_ (fun hH5 => ?_)
                        · exact (hx6.out.stays (heap_setCell_other _ _ _ _ HOBK.out)).range
                        clear hK K
                        (try simp only [Act.put, List.setIfInBounds_toArray, List.set_cons_zero, List.set_cons_succ])
                        refine wpAnyH_done (by kernel_rfl) ?_ _
                        as_aux_lemma =>
                          go_wp2_with fail
                          go_meet
                          obtain ⟨q1, q2, q3, q4⟩ := append_turn HK4.out HB34.out HBA.out (by have := HKJ.out.lt; exact this) (own_lower HOA.out hB4) H6.out G6.out HG6.out
                          exact ⟨_, _, by rw [HTS.out, ← List.append_assoc, ← HOS.out]; exact q1, q2, q3, q4 _ _ _ _ HAL.out⟩
                case hr7w =>
                  have e18 : (ordCells L (.slice p5 L.offs.length c5)).length = 18 := ordCells_len _ _
                  go_simp
                  rw [lit_fold]
                  have HAL5 := hide (World.ownsRow_lit (size := 18) (base := w5.heap.size) (e := 29) w5 (ordCells L (.slice p5 L.offs.length c5)).toArray 1 (Nat.le_refl _) (by decide) (by rw [List.size_toArray, ordCells_len]))
                  have hba : Below w5.heap.size w5 (w5.alloc (.cells (ordCells L (.slice p5 L.offs.length c5)).toArray 29)) := (Below.refl _ _).alloc (Nat.le_refl _) _
                  have HBA := hide (bstep HB5.out hba)
                  have HOA := hide (own_below O5.out hba)
                  obtain ⟨WA, hWA⟩ : ∃ WA, WA = w5.alloc (.cells (ordCells L (.slice p5 L.offs.length c5)).toArray 29) := ⟨_, rfl⟩
                  obtain ⟨gA, hgA⟩ : ∃ gA, gA = w5.heap.size := ⟨_, rfl⟩
                  rw [← hWA, ← hgA] at HAL5
                  rw [← hWA] at HBA HOA
                  rw [← hWA, ← hgA]
                  have kltA : kb < WA.heap.size := by have := HBA.out.size; omega
                  have k1A := cell_stay k1 (HBA.out.block kb klt)
                  clear hWA hba hgA
                  refine hK.out _ _ ?_ (fun hH2 => ?_)
                  · exact RBX.out _ HBA.out
                  clear hK K
                  (try simp only [Act.put, List.setIfInBounds_toArray, List.set_cons_zero, List.set_cons_succ])
                  refine wpAnyH_ready (rs := [4]) (by kernel_rfl) (by simp) (AllReadyH.cons (o := ?oi4z) ?ho4z (fun K hK => ?hr4z) (AllReadyH.nil))
                  case ho4z => (simp only [List.getElem?_toArray, List.getElem?_cons_succ, List.getElem?_cons_zero]; exact rfl)
                  case hr4z =>
                    go_simp
                    refine hK.out _ _ ?_ (fun hH3 => ?_)
                    · exact hH2
                    clear hK K
                    (try simp only [Act.put, List.setIfInBounds_toArray, List.set_cons_zero, List.set_cons_succ])
                    refine wpAnyH_ready (rs := [8]) (by kernel_rfl) (by simp) (AllReadyH.cons (o := ?oi8zb) ?ho8zb (fun K hK => ?hr8zb) (AllReadyH.nil))
                    case ho8zb => (simp only [List.getElem?_toArray, List.getElem?_cons_succ, List.getElem?_cons_zero]; exact rfl)
                    case hr8zb =>
                      have HK5 := hide (HK4.out.below HBA.out)
                      refine step_append_lies _ rfl _ _ 32 rfl B 29 i29 (.agg #[Value.int .i64 0, .string ⟨#[]⟩, .int .i64 0, .int .i64 0, .int .i64 0, .int .i64 0, .int .i64 0, .int .i64 0, .int .i64 0, .int .i64 0, .int .i64 0, .int .i64 0, .int .i64 0, .int .i64 0, .int .i64 0, .int .i64 0, .slice none 0 0, .int .i64 0]) 18 168 Try.underlying32 hi29 hz29 hs29 hb29 rfl (by decide) (.slice pk OS.length ck) OS.length (flatO OS vs') rfl HK5.out.o.row ⟨gA, 0, none⟩ 1 1 (ordCells L (.slice p5 L.offs.length c5)) rfl (by rw [ordCells_len]) (fun q u hu => by rw [addr_add, Nat.zero_add]; exact (HAL5.out.cellAt q (by have := (List.getElem?_eq_some_iff.1 hu).1; rw [ordCells_len] at this; omega)).trans hu) (ordCells_one L _ rfl) (by decide) (by unfold maxLen; omega) (by omega) (by have := HBA.out.size; omega) _ rfl ?_
                      intro g6 c6 w6 h6 gr6 hgg hgl
                      have hkb6 := gr6.block kb kltA (fun e => own_ne_box HK5.out.o.row HK5.out.hp (by decide) e.symm)
                      have k16 : w6.cell? ⟨kb, 1, none⟩ = some (.slice pk OS.length ck) := cell_stay HK5.out.cells.2.1 hkb6
                      have kf6 : ∀ q, w6.frozen? ⟨kb, q, none⟩ = false := fun q => (World.frozen?_of_block (a := ⟨kb, q, none⟩) hkb6).trans (frozen_of_row _ kb q _ 86 HK5.out.hp)
                      have H6 := hide h6
                      have G6 := hide gr6
                      have HG6 := hide hgg
                      have hx6 := hide (((HBX4.out.below HBA.out).stays (gr6.block OB (Nat.lt_of_lt_of_le HOBL.out HBA.out.size) (fun e => HNE.out _ e.symm rfl))))
                      clear h6 gr6 hgg hkb6
                      refine hK.out _ _ ?_ (fun hH4 => ?_)
                      · exact hx6.out.range
                      clear hK K
                      (try simp only [Act.put, List.setIfInBounds_toArray, List.set_cons_zero, List.set_cons_succ])
                      refine wpAnyH_take (i := 9) (oi := ?oi9z) (v := ?v9z) ?ho9z (by kernel_rfl) (by kernel_rfl) (by kernel_rfl) ?hp9z ?hy9z hH4 ?hr9z
                      case ho9z => (simp only [List.getElem?_toArray, List.getElem?_cons_succ, List.getElem?_cons_zero]; exact rfl)
                      case hp9z => exact fun _ _ _ h => h
                      case hy9z => (refine Or.inl ⟨by rfl, ?_⟩; intro w hSw; (try dsimp only at hSw); go_simp; (try (with_reducible rfl)))
                      case hr9z =>
                      (try simp only [Act.put, List.setIfInBounds_toArray, List.set_cons_zero, List.set_cons_succ])
                      refine wpAnyH_take (i := 10) (oi := ?oi10z) (v := ?v10z) ?ho10z (by kernel_rfl) (by kernel_rfl) (by kernel_rfl) ?hp10z ?hy10z hH4 ?hr10z
                      case ho10z => (simp only [List.getElem?_toArray, List.getElem?_cons_succ, List.getElem?_cons_zero]; exact rfl)
                      case hp10z => exact fun _ _ _ h => h
                      case hy10z => (refine Or.inl ⟨by rfl, ?_⟩; intro w hSw; (try dsimp only at hSw); go_simp; (try (with_reducible rfl)))
                      case hr10z =>
                      (try simp only [Act.put, List.setIfInBounds_toArray, List.set_cons_zero, List.set_cons_succ])
                      refine wpAnyH_ready (rs := [11]) (by kernel_rfl) (by simp) (AllReadyH.cons (o := ?oi11zc) ?ho11zc (fun K hK => ?hr11zc) (AllReadyH.nil))
                      case ho11zc => (simp only [List.getElem?_toArray, List.getElem?_cons_succ, List.getElem?_cons_zero]; exact rfl)
                      case hr11zc =>
                        go_simp
                        refine hK.out _ _ ?_ (fun hH5 => ?_)
                        · exact (hx6.out.stays (heap_setCell_other _ _ _ _ HOBK.out)).range
                        clear hK K
                        (try simp only [Act.put, List.setIfInBounds_toArray, List.set_cons_zero, List.set_cons_succ])
                        refine wpAnyH_done (by kernel_rfl) ?_ _
                        as_aux_lemma =>
                          go_wp2_with fail
                          go_meet
                          obtain ⟨q1, q2, q3, q4⟩ := append_turn HK4.out HB34.out HBA.out (by have := HKJ.out.lt; exact this) (own_lower HOA.out hB4) H6.out G6.out HG6.out
                          exact ⟨_, _, by rw [HTS.out, ← List.append_assoc, ← HOS.out]; exact q1, q2, q3, q4 _ _ _ _ HAL.out⟩
          case rest =>
            as_aux_lemma =>
              obtain ⟨v6, vs6, q1, q2, q3, q4⟩ := hcut
              have Q1 := hide q1
              have Q2 := hide q2
              have Q3 := hide q3
              have Q4 := hide q4
              clear q1 q2 q3 q4
              go_wp2_with fail
              go_roundw
              case rel =>
                exact ⟨j + 1, _, _, by omega, by go_num, Q1.out, HKT.out.trans Q2.out HNR.out (Nr.refl _ _), HNR.out.trans Q3.out HKT.out.size, Q4.out⟩
              case measure => (first | (simp [intOf]; done) | (simp [intOf]; omega))
        · obtain rfl : ls.length = j := by omega
          rw [List.take_length] at HKJ
          obtain ⟨i5, hi5, hz5, hs5, hb5⟩ := info_parts info5
          have k2 := HKJ.out.cells.2.2
          have kf : ∀ q, wr.frozen? ⟨kb, q, none⟩ = false := fun q => frozen_of_row wr kb q _ 86 HKJ.out.hp
          have klt := HKJ.out.lt
          have hBr : B ≤ wr.heap.size := by have := HRS.out.b.size; have := HKT.out.size; omega
          go_wp2_with (at_builtin; refine wpList_append_n _ rfl _ _ 30 rfl 5 i5 (.int .u8 0) 1 1 Try.underlying30 hi5 hz5 hs5 hb5 rfl (by decide) B p bs.length (u8L bs) rfl HKJ.out.p_ pa (framesO ls).length ca (u8L (framesO ls)) rfl (by rw [u8L_len, Nat.mul_one]) (fun e => own_nil0 (by rw [← e]; exact HAL.out)) (fun ad e => own_some8 (by rw [← e]; exact HAL.out)) (u8_one _) (by unfold maxLen; omega) (by omega) hBr ?_; intro v8 w8 h8 g8 n8; obtain ⟨p8, c8, rfl⟩ := own_any h8; have H8 := hide h8; have G8 := hide g8; have N8 := hide n8; have k28 : w8.cell? ⟨kb, 2, none⟩ = some p := cell_stay k2 (g8.block kb klt (fun e => own_ne_box HKJ.out.p_ HKJ.out.hp (by decide) e.symm)); have kf8 : ∀ q, w8.frozen? ⟨kb, q, none⟩ = false := (fun q => (World.frozen?_of_block (a := ⟨kb, q, none⟩) (g8.block kb klt (fun e => own_ne_box HKJ.out.p_ HKJ.out.hp (by decide) e.symm))).trans (frozen_of_row wr kb q _ 86 HKJ.out.hp)); clear h8 g8 n8)
          obtain ⟨q1, q2⟩ := bytes_turn HKJ.out H8.out G8.out
          exact HOKK.out HOK2.out _ _ _ _ q1 ((KT.of_below HRS.out.b).trans (HKT.out.trans q2 HNR.out (Nr.refl _ _)) (Nr.refl _ _) (Nr.refl _ _)) ((Nr.refl _ v).trans HNR.out HRS.out.b.size) ((Nr.refl _ p).trans N8.out (Nat.le_trans HRS.out.b.size HKT.out.size))
end Go.Proofs.Ytalnipjaekpbhaa

