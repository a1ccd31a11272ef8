import Derived.Test.YtalnipjaekpbhaaL62
import Derived.Test.YtalnipjaekpbhaaL54
import Derived.Deep.CutBlock
import Derived.Great.BuildSlice
namespace Go.Proofs.Ytalnipjaekpbhaa
open Go.ChangeShapes Go.WideShapes Go.ChangeAt Go.RowKit Go.Deep
set_option linter.unusedSimpArgs false
set_option linter.unusedVariables false

set_option maxRecDepth 100000 in
set_option maxHeartbeats 8000000 in
theorem LogReads_c {v : Value} {ns : List Nat} {leave : Int} {w : World} (hb : BytesW w v ns) : Calls Try.prog 5 #[v, .int .i64 leave] w fun e w' => e = .returned (.bool true) ∧ Below w.heap.size w w' := by
  obtain ⟨pq, cq, e, -, hlc, -⟩ := hb.val
  subst e
  obtain ⟨i5, hi5, hz5, hs5, hb5⟩ := info_parts info5
  have HBY := hide hb
  clear hb
  go_enter Try.func5, Try.ntmps5
  go_upto_region 1 with fail
  have CW := hide (works_c w)
  by_cases hn : 100000 < ns.length
  · have hnI : (100000 : Int) < (ns.length : Int) := by omega
    go_wp2_with (go_at_call 9; (apply Calls.mono; focus (exact CW.out)); rintro e w9 ⟨rfl, hb9⟩; have HB9 := hide hb9; clear hb9)
    refine bodyPost_ret (v := .bool true) (by simp [results, Try.f5, go_sem]) rfl ⟨rfl, HB9.out⟩
  · have hnI : ¬ ((100000 : Int) < (ns.length : Int)) := by omega
    have R8 := hide (fun (w' : World) (h : Below w.heap.size w w') => (HBY.out.row8 (by omega)).grow h)
    have L8 := hide (show ns.length ≤ 100000 by omega)
    have N8 := hide HBY.out.small
    clear CW hn HBY
    have hal : Below w.heap.size w (w.alloc (.cells #[] 5)) := (Below.refl _ _).alloc (Nat.le_refl _) _
    have E0 := hide (made_row w 5 1)
    have R83 := hide (R8.out _ hal)
    clear hal
    go_upto_region 4 with (first
      | (at_builtin; refine wpList_append_n _ rfl _ _ 30 rfl 5 i5 (.int .u8 0) 1 1 Try.underlying30 hi5 hz5 hs5 hb5 rfl (by decide) w.heap.size (.slice (some ⟨w.heap.size, 0, none⟩) 0 0) 0 [] rfl E0.out pq ns.length cq (u8L ns) rfl (by rw [u8L_len, Nat.mul_one]) (fun e => by obtain ⟨q1, q2⟩ := R83.out.nil e; exact ⟨by rw [q1]; rfl, q2⟩) (row8_cells R83.out) (u8_one _) (by unfold maxLen; have := L8.out; omega) (by have := L8.out; omega) (by rw [World.size_alloc]; omega) ?_; intro v4 w4 h4 g4 _; rw [List.nil_append, Nat.zero_add] at h4; obtain ⟨p4, c4, hv4⟩ := own_any h4; subst hv4; have H4 := hide h4; have HB4 := hide (show Below w.heap.size w w4 from ((Below.refl w.heap.size w).alloc (Nat.le_refl _) (.cells #[] 5)).grown g4 (by rw [World.size_alloc]; omega) (fun r e => by have e2 : w.heap.size = r := Option.some.inj e; omega)); have A4 := hide (show (w4.alloc (.cells #[.int .u8 165] 5)).ownsRow w.heap.size 5 1 (.slice p4 ns.length c4) ns.length (u8L ns) ∧ (w4.alloc (.cells #[.int .u8 165] 5)).ownsRow w4.heap.size 5 1 (.slice (some ⟨w4.heap.size, 0, none⟩) 1 1) 1 (u8L [165]) from ⟨own_below h4 ((Below.refl _ _).alloc (Nat.le_refl _) _), World.ownsRow_lit (size := 1) (base := w4.heap.size) (e := 5) w4 #[.int .u8 165] 1 (Nat.le_refl _) (by decide) rfl⟩); have BA4 := hide (show Below w.heap.size w (w4.alloc (.cells #[.int .u8 165] 5)) from bstep HB4.out ((Below.refl _ _).alloc (Nat.le_refl _) _)); clear h4 g4)
      | (at_builtin; refine wpList_append_n _ rfl _ _ 30 rfl 5 i5 (.int .u8 0) 1 1 Try.underlying30 hi5 hz5 hs5 hb5 rfl (by decide) w.heap.size (.slice p4 ns.length c4) ns.length (u8L ns) rfl A4.out.1 (some ⟨w4.heap.size, 0, none⟩) 1 1 (u8L [165]) rfl rfl (fun e => by cases e) (fun ad e => by cases e; exact own_cells A4.out.2) (u8_one _) (by unfold maxLen; have := L8.out; omega) (by have := L8.out; omega) BA4.out.size ?_; intro v5 w5 h5 g5 _; obtain ⟨gy, cy, hv5, -, -⟩ := h5.form (Nat.succ_pos _); subst hv5; have HY := hide (show w5.ownsRow w.heap.size 5 1 (.slice (some ⟨gy, 0, none⟩) (ns.length + 1) cy) (ns.length + 1) (u8L (ns ++ [165])) from by rw [u8L_app]; exact h5); have HB5' := hide (BA4.out.grown g5 BA4.out.size (fun r e => (A4.out.1.lt r e).1)); clear h5 g5))
    have HB5 := hide HB5'.out
    clear HB5' A4 BA4 HB4 H4 E0 R83
    obtain ⟨W0, hW0⟩ : ∃ q, q = w5 := ⟨_, rfl⟩
    subst hW0
    have HB0 := HB5
    have hcy := own_cap HY.out
    have i1 : (ns.length : Int) ≤ (cy : Int) := by omega
    have i5 : (0 : Int) ≤ (ns.length : Int) := by omega
    have i6 : (ns.length : Int) < ((ns.length + 1 : Nat) : Int) := by omega
    have i7 : (ns.length : Int) < (ns.length : Int) + 1 := by omega
    obtain ⟨o, ho⟩ : ∃ o, o = rdo ns := ⟨_, rfl⟩
    obtain ⟨er, her⟩ : ∃ x, x = rde ns := ⟨_, rfl⟩
    obtain ⟨os, ps, good, why, hsr⟩ : ∃ os ps good why, scanT ns = (os, ps, good, why) := ⟨_, _, _, _, rfl⟩
    have sg := scan_good N8.out
    rw [hsr] at sg
    have HSR := hide hsr
    have HO := hide ho
    have HER := hide her
    have SG := hide sg
    have HOP := hide (show os.length = ps.length from sg.p)
    have GO := hide (show o.offs.length ≤ 64 ∧ ∀ x ∈ o.offs, x.1 < 4294967296 by rw [ho]; exact rdo_good N8.out)
    clear ho her hsr sg
    have RY8 := hide (fun (wq : World) (h : Below W0.heap.size W0 wq) => row_part (own_below HY.out h) N8.out (by have := L8.out; omega))
    have C20 := hide (fun (wq : World) (h : Below W0.heap.size W0 wq) => (show Calls Try.prog 20 #[(.slice (some ⟨gy, 0, none⟩) ns.length cy)] wq (fun e w' => ∃ v', e = .returned (.tuple #[.agg (ordCells o v').toArray, .int .i64 er]) ∧ w'.ownsRow wq.heap.size 93 2 v' o.offs.length (flatF o.offs) ∧ Below wq.heap.size wq w') from by rw [HO.out, HER.out]; exact read_u (Read_c _ cy ns wq (RY8.out _ h))))
    have C22 := hide (fun (wq : World) (h : Below W0.heap.size W0 wq) => (show Calls Try.prog 22 #[(.slice pq ns.length cq)] wq (fun e w' => ∃ v', e = .returned (.tuple #[.agg (ordCells o v').toArray, .int .i64 er]) ∧ w'.ownsRow wq.heap.size 93 2 v' o.offs.length (flatF o.offs) ∧ Below wq.heap.size wq w') from by rw [HO.out, HER.out]; exact read_u (rRead_c pq cq ns wq (R8.out _ (bstep HB0.out h)))))
    have C23 := hide (fun (wq : World) (h : Below W0.heap.size W0 wq) => (show Calls Try.prog 23 #[(.slice (some ⟨gy, 0, none⟩) ns.length cy)] wq (ScanPost os ps good why wq) from by exact scan_u HSR.out HOP.out (Scan_c _ cy ns wq (RY8.out _ h))))
    have C24 := hide (fun (wq : World) (h : Below W0.heap.size W0 wq) => (show Calls Try.prog 24 #[(.slice pq ns.length cq)] wq (ScanPost os ps good why wq) from by exact scan_u HSR.out HOP.out (rScan_c pq cq ns wq (R8.out _ (bstep HB0.out h)))))
    have C25 := hide (fun (wq : World) (h : Below W0.heap.size W0 wq) => (show Calls Try.prog 25 #[(.slice (some ⟨gy, 0, none⟩) ns.length cy)] wq (FromPost' ns os good why wq) from by exact from_u HSR.out (From_c _ cy ns wq (RY8.out _ h) (by have := L8.out; omega))))
    have C26 := hide (fun (wq : World) (h : Below W0.heap.size W0 wq) => (show Calls Try.prog 26 #[(.slice (some ⟨gy, 0, none⟩) ns.length cy)] wq (AllPost os ps good why wq) from by exact all_u HSR.out HOP.out (All_c _ cy ns wq (RY8.out _ h))))
    have HBr0 := hide (Below.refl W0.heap.size W0)
    go_upto_region 5 with (first
      | (go_at_call 20; (apply Calls.mono; focus (exact C20.out _ HBr0.out)); rintro e wa1 ⟨va, rfl, oa, hba⟩; obtain ⟨p6, c6, rfl⟩ := own_any oa; have OA1 := hide oa; have HA1 := hide hba; clear oa hba)
      | (refine wpList_store_mid rfl 29 _ _ rfl wa1.heap.size 0 (ordCells o (.slice p6 o.offs.length c6)).toArray rfl ?_ ?_ ?_ ?_ ?_; exact rfl; exact alloc_there wa1 o (.slice p6 o.offs.length c6); kernel_rfl; kernel_rfl))
    obtain ⟨X6, hX6⟩ : ∃ X, X = wa1.heap.size := ⟨_, rfl⟩
    obtain ⟨W1, hW1⟩ : ∃ W, W = (wa1.alloc (.cells #[Value.int .i64 0, .string ⟨#[]⟩, .int .i64 0, .int .i64 0, .int .i64 0, .int .i64 0, .int .i64 0, .int .i64 0, .int .i64 0, .int .i64 0, .int .i64 0, .int .i64 0, .int .i64 0, .int .i64 0, .int .i64 0, .int .i64 0, .slice none 0 0, .int .i64 0] 29)).setCells wa1.heap.size 0 (ordCells o (.slice p6 o.offs.length c6)) := ⟨_, rfl⟩
    have hb1 : Below wa1.heap.size wa1 W1 := by rw [hW1]; exact below_sets (Nat.le_refl _) _ _ _ ((Below.refl _ _).alloc (Nat.le_refl _) _)
    have BX6 := hide (show BoxO W1 X6 o (.slice p6 o.offs.length c6) by rw [hW1, hX6]; exact (box_made wa1 (zeroO 0) _).set _ _)
    rw [show (wa1.alloc (.cells #[Value.int .i64 0, .string ⟨#[]⟩, .int .i64 0, .int .i64 0, .int .i64 0, .int .i64 0, .int .i64 0, .int .i64 0, .int .i64 0, .int .i64 0, .int .i64 0, .int .i64 0, .int .i64 0, .int .i64 0, .int .i64 0, .int .i64 0, .slice none 0 0, .int .i64 0] 29)).setCells wa1.heap.size 0 (ordCells o (.slice p6 o.offs.length c6)).toArray.toList = W1 from hW1.symm, ← hX6]
    have O6 := hide (own_below OA1.out hb1)
    have LX6 := hide (show W0.heap.size ≤ X6 ∧ (∀ q, (Value.slice p6 o.offs.length c6).ownBlock = some q → W0.heap.size ≤ q ∧ q < X6) from ⟨by rw [hX6]; exact HA1.out.size, fun q hq => by rw [hX6]; exact OA1.out.lt q hq⟩)
    have T1 := hide (bstep HA1.out hb1)
    have S1 := hide (show W0.heap.size ≤ W1.heap.size from Nat.le_trans HA1.out.size hb1.size)
    have HBr1 := hide (bstep HBr0.out (bstep HA1.out hb1))
    clear OA1 hX6 hW1 hb1 HA1
    go_upto_region 6 with (first
      | (go_at_call 20; (apply Calls.mono; focus (exact C20.out _ HBr1.out)); rintro e wa2 ⟨va, rfl, oa, hba⟩; obtain ⟨p8, c8, rfl⟩ := own_any oa; have OA2 := hide oa; have HA2 := hide hba; clear oa hba)
      | (refine wpList_store_mid rfl 29 _ _ rfl wa2.heap.size 0 (ordCells o (.slice p8 o.offs.length c8)).toArray rfl ?_ ?_ ?_ ?_ ?_; exact rfl; exact alloc_there wa2 o (.slice p8 o.offs.length c8); kernel_rfl; kernel_rfl))
    obtain ⟨X8, hX8⟩ : ∃ X, X = wa2.heap.size := ⟨_, rfl⟩
    obtain ⟨W2, hW2⟩ : ∃ W, W = (wa2.alloc (.cells #[Value.int .i64 0, .string ⟨#[]⟩, .int .i64 0, .int .i64 0, .int .i64 0, .int .i64 0, .int .i64 0, .int .i64 0, .int .i64 0, .int .i64 0, .int .i64 0, .int .i64 0, .int .i64 0, .int .i64 0, .int .i64 0, .int .i64 0, .slice none 0 0, .int .i64 0] 29)).setCells wa2.heap.size 0 (ordCells o (.slice p8 o.offs.length c8)) := ⟨_, rfl⟩
    have hb2 : Below wa2.heap.size wa2 W2 := by rw [hW2]; exact below_sets (Nat.le_refl _) _ _ _ ((Below.refl _ _).alloc (Nat.le_refl _) _)
    have BX8 := hide (show BoxO W2 X8 o (.slice p8 o.offs.length c8) by rw [hW2, hX8]; exact (box_made wa2 (zeroO 0) _).set _ _)
    rw [show (wa2.alloc (.cells #[Value.int .i64 0, .string ⟨#[]⟩, .int .i64 0, .int .i64 0, .int .i64 0, .int .i64 0, .int .i64 0, .int .i64 0, .int .i64 0, .int .i64 0, .int .i64 0, .int .i64 0, .int .i64 0, .int .i64 0, .int .i64 0, .int .i64 0, .slice none 0 0, .int .i64 0] 29)).setCells wa2.heap.size 0 (ordCells o (.slice p8 o.offs.length c8)).toArray.toList = W2 from hW2.symm, ← hX8]
    have O8 := hide (own_below OA2.out hb2)
    have LX8 := hide (show W1.heap.size ≤ X8 ∧ (∀ q, (Value.slice p8 o.offs.length c8).ownBlock = some q → W1.heap.size ≤ q ∧ q < X8) from ⟨by rw [hX8]; exact HA2.out.size, fun q hq => by rw [hX8]; exact OA2.out.lt q hq⟩)
    have T2 := hide (bstep HA2.out hb2)
    have S2 := hide (show W1.heap.size ≤ W2.heap.size from Nat.le_trans HA2.out.size hb2.size)
    have HBr2 := hide (bstep HBr1.out (bstep HA2.out hb2))
    clear OA2 hX8 hW2 hb2 HA2
    go_upto_region 7 with (first
      | (go_at_call 22; (apply Calls.mono; focus (exact C22.out _ HBr2.out)); rintro e wa3 ⟨va, rfl, oa, hba⟩; obtain ⟨p10, c10, rfl⟩ := own_any oa; have OA3 := hide oa; have HA3 := hide hba; clear oa hba)
      | (refine wpList_store_mid rfl 29 _ _ rfl wa3.heap.size 0 (ordCells o (.slice p10 o.offs.length c10)).toArray rfl ?_ ?_ ?_ ?_ ?_; exact rfl; exact alloc_there wa3 o (.slice p10 o.offs.length c10); kernel_rfl; kernel_rfl))
    obtain ⟨X10, hX10⟩ : ∃ X, X = wa3.heap.size := ⟨_, rfl⟩
    obtain ⟨W3, hW3⟩ : ∃ W, W = (wa3.alloc (.cells #[Value.int .i64 0, .string ⟨#[]⟩, .int .i64 0, .int .i64 0, .int .i64 0, .int .i64 0, .int .i64 0, .int .i64 0, .int .i64 0, .int .i64 0, .int .i64 0, .int .i64 0, .int .i64 0, .int .i64 0, .int .i64 0, .int .i64 0, .slice none 0 0, .int .i64 0] 29)).setCells wa3.heap.size 0 (ordCells o (.slice p10 o.offs.length c10)) := ⟨_, rfl⟩
    have hb3 : Below wa3.heap.size wa3 W3 := by rw [hW3]; exact below_sets (Nat.le_refl _) _ _ _ ((Below.refl _ _).alloc (Nat.le_refl _) _)
    have BX10 := hide (show BoxO W3 X10 o (.slice p10 o.offs.length c10) by rw [hW3, hX10]; exact (box_made wa3 (zeroO 0) _).set _ _)
    rw [show (wa3.alloc (.cells #[Value.int .i64 0, .string ⟨#[]⟩, .int .i64 0, .int .i64 0, .int .i64 0, .int .i64 0, .int .i64 0, .int .i64 0, .int .i64 0, .int .i64 0, .int .i64 0, .int .i64 0, .int .i64 0, .int .i64 0, .int .i64 0, .int .i64 0, .slice none 0 0, .int .i64 0] 29)).setCells wa3.heap.size 0 (ordCells o (.slice p10 o.offs.length c10)).toArray.toList = W3 from hW3.symm, ← hX10]
    have O10 := hide (own_below OA3.out hb3)
    have LX10 := hide (show W2.heap.size ≤ X10 ∧ (∀ q, (Value.slice p10 o.offs.length c10).ownBlock = some q → W2.heap.size ≤ q ∧ q < X10) from ⟨by rw [hX10]; exact HA3.out.size, fun q hq => by rw [hX10]; exact OA3.out.lt q hq⟩)
    have T3 := hide (bstep HA3.out hb3)
    have S3 := hide (show W2.heap.size ≤ W3.heap.size from Nat.le_trans HA3.out.size hb3.size)
    have HBr3 := hide (bstep HBr2.out (bstep HA3.out hb3))
    clear OA3 hX10 hW3 hb3 HA3
    go_cut [12, 13] from 51 to 60 (fun v12 v13 wx => ∃ X1 X2, v12 = .pointer (some ⟨X1, 0, none⟩) ∧ v13 = .pointer (some ⟨X2, 0, none⟩) ∧ Two os ps good why W3 wx X1 X2)
    case first =>
      clear C20 C22 C24 C25 C26 R8 L8 N8 HY HB5 HO HER SG GO RY8 HBr0 HBr1 HBr2 BX6 BX8 BX10 O6 O8 O10 LX6 LX8 LX10 S1 S2 S3 T1 T2 T3
      go_upto_region 7 with fail
      refine wp_regionX (fun wq => True) (fun n => true) (by kernel_rfl) trivial (fun hH0 => ?_)
      obtain ⟨w0, hw0⟩ : ∃ q, q = W3.drew := ⟨_, rfl⟩
      have B0 := hide (show Below W3.heap.size W3 w0 by rw [hw0]; exact drewB _)
      rw [← hw0]
      clear hw0
      refine wpAnyX_take (i := 0) (oi := ?oi0y) (v := ?v0y) ?ho0y (by kernel_rfl) (by kernel_rfl) (by kernel_rfl) (by kernel_rfl) ?hp0y ?hy0y trivial ?hr0y
      case ho0y => (simp only [List.getElem?_toArray, List.getElem?_cons_succ, List.getElem?_cons_zero]; exact rfl)
      case hp0y => exact fun _ _ _ h => h
      case hy0y => (refine Or.inl ⟨by rfl, ?_⟩; intro w hSw; (try dsimp only at hSw); (try go_split_ands); go_simp; (try (with_reducible rfl)))
      case hr0y =>
      (try simp only [Act.put, List.setIfInBounds_toArray, List.set_cons_zero, List.set_cons_succ])
      refine wpAnyX_take (i := 1) (oi := ?oi1y) (v := ?v1y) ?ho1y (by kernel_rfl) (by kernel_rfl) (by kernel_rfl) (by kernel_rfl) ?hp1y ?hy1y trivial ?hr1y
      case ho1y => (simp only [List.getElem?_toArray, List.getElem?_cons_succ, List.getElem?_cons_zero]; exact rfl)
      case hp1y => exact fun _ _ _ h => h
      case hy1y => (refine Or.inl ⟨by rfl, ?_⟩; intro w hSw; (try dsimp only at hSw); (try go_split_ands); go_simp; (try (with_reducible rfl)))
      case hr1y =>
      (try simp only [Act.put, List.setIfInBounds_toArray, List.set_cons_zero, List.set_cons_succ])
      refine wpAnyX_take (i := 5) (oi := ?oi5y) (v := ?v5y) ?ho5y (by kernel_rfl) (by kernel_rfl) (by kernel_rfl) (by kernel_rfl) ?hp5y ?hy5y trivial ?hr5y
      case ho5y => (simp only [List.getElem?_toArray, List.getElem?_cons_succ, List.getElem?_cons_zero]; exact rfl)
      case hp5y => exact fun _ _ _ h => h
      case hy5y => (refine Or.inl ⟨by rfl, ?_⟩; intro w hSw; (try dsimp only at hSw); (try go_split_ands); go_simp; (try (with_reducible rfl)))
      case hr5y =>
      (try simp only [Act.put, List.setIfInBounds_toArray, List.set_cons_zero, List.set_cons_succ])
      refine wpAnyX_take (i := 6) (oi := ?oi6y) (v := ?v6y) ?ho6y (by kernel_rfl) (by kernel_rfl) (by kernel_rfl) (by kernel_rfl) ?hp6y ?hy6y trivial ?hr6y
      case ho6y => (simp only [List.getElem?_toArray, List.getElem?_cons_succ, List.getElem?_cons_zero]; exact rfl)
      case hp6y => exact fun _ _ _ h => h
      case hy6y => (refine Or.inl ⟨by rfl, ?_⟩; intro w hSw; (try dsimp only at hSw); (try go_split_ands); go_simp; (try (with_reducible rfl)))
      case hr6y =>
      (try simp only [Act.put, List.setIfInBounds_toArray, List.set_cons_zero, List.set_cons_succ])
      refine wpAnyX_take (i := 2) (oi := ?oi2y) (v := ?v2y) ?ho2y (by kernel_rfl) (by kernel_rfl) (by kernel_rfl) (by kernel_rfl) ?hp2y ?hy2y trivial ?hr2y
      case ho2y => (simp only [List.getElem?_toArray, List.getElem?_cons_succ, List.getElem?_cons_zero]; exact rfl)
      case hp2y => exact fun _ _ _ h => h
      case hy2y => (refine Or.inl ⟨by rfl, ?_⟩; intro w hSw; (try dsimp only at hSw); (try go_split_ands); go_simp; (try (with_reducible rfl)))
      case hr2y =>
      (try simp only [Act.put, List.setIfInBounds_toArray, List.set_cons_zero, List.set_cons_succ])
      refine wpAnyX_take (i := 7) (oi := ?oi7y) (v := ?v7y) ?ho7y (by kernel_rfl) (by kernel_rfl) (by kernel_rfl) (by kernel_rfl) ?hp7y ?hy7y trivial ?hr7y
      case ho7y => (simp only [List.getElem?_toArray, List.getElem?_cons_succ, List.getElem?_cons_zero]; exact rfl)
      case hp7y => exact fun _ _ _ h => h
      case hy7y => (refine Or.inl ⟨by rfl, ?_⟩; intro w hSw; (try dsimp only at hSw); (try go_split_ands); go_simp; (try (with_reducible rfl)))
      case hr7y =>
      (try simp only [Act.put, List.setIfInBounds_toArray, List.set_cons_zero, List.set_cons_succ])
      refine wpAnyX_take (i := 3) (oi := ?oi3y) (v := ?v3y) ?ho3y (by kernel_rfl) (by kernel_rfl) (by kernel_rfl) (by kernel_rfl) ?hp3y ?hy3y trivial ?hr3y
      case ho3y => (simp only [List.getElem?_toArray, List.getElem?_cons_succ, List.getElem?_cons_zero]; exact rfl)
      case hp3y => exact fun _ _ _ h => h
      case hy3y => (refine Or.inl ⟨by rfl, ?_⟩; intro w hSw; (try dsimp only at hSw); (try go_split_ands); go_simp; (try (with_reducible rfl)))
      case hr3y =>
      (try simp only [Act.put, List.setIfInBounds_toArray, List.set_cons_zero, List.set_cons_succ])
      refine wpAnyX_take (i := 8) (oi := ?oi8y) (v := ?v8y) ?ho8y (by kernel_rfl) (by kernel_rfl) (by kernel_rfl) (by kernel_rfl) ?hp8y ?hy8y trivial ?hr8y
      case ho8y => (simp only [List.getElem?_toArray, List.getElem?_cons_succ, List.getElem?_cons_zero]; exact rfl)
      case hp8y => exact fun _ _ _ h => h
      case hy8y => (refine Or.inl ⟨by rfl, ?_⟩; intro w hSw; (try dsimp only at hSw); (try go_split_ands); go_simp; (try (with_reducible rfl)))
      case hr8y =>
      (try simp only [Act.put, List.setIfInBounds_toArray, List.set_cons_zero, List.set_cons_succ])
      refine wpAnyX_pick (rs := [4, 10, 11]) (by kernel_rfl) (by simp) (AllX.cons (o := ?oi4ry) ?ho4ry (fun K hK => ?hr4ry) (AllX.cons (o := ?oi10ry) ?ho10ry (fun K hK => ?hr10ry) (AllX.cons (o := ?oi11ry) ?ho11ry (fun K hK => ?hr11ry) (AllX.nil))))
      case ho4ry => (simp only [List.getElem?_toArray, List.getElem?_cons_succ, List.getElem?_cons_zero]; exact rfl)
      case ho10ry => (simp only [List.getElem?_toArray, List.getElem?_cons_succ, List.getElem?_cons_zero]; exact rfl)
      case ho11ry => (simp only [List.getElem?_toArray, List.getElem?_cons_succ, List.getElem?_cons_zero]; exact rfl)
      case hr4ry =>
        go_simp
        refine (C23.out _ (bstep HBr3.out B0.out)).mono ?_
        rintro e w1 ⟨pa1, ca1, pb1, cb1, vs1, rfl, oo, rr, hb⟩
        have T1 := hide hb
        have SZ1 := hide hb.size
        have OO1 := hide oo
        have RR1 := hide rr
        clear oo rr
        have B1 := hide (bstep B0.out hb)
        clear hb
        refine hK.out _ _ (fun _ => trivial) ?_
        clear hK K
        (try simp only [Act.put, List.setIfInBounds_toArray, List.set_cons_zero, List.set_cons_succ])
        refine wpAnyX_pick (rs := [9, 10, 11]) (by kernel_rfl) (by simp) (AllX.cons (o := ?oi9ray) ?ho9ray (fun K hK => ?hr9ray) (AllX.cons (o := ?oi10ray) ?ho10ray (fun K hK => ?hr10ray) (AllX.cons (o := ?oi11ray) ?ho11ray (fun K hK => ?hr11ray) (AllX.nil))))
        case ho9ray => (simp only [List.getElem?_toArray, List.getElem?_cons_succ, List.getElem?_cons_zero]; exact rfl)
        case ho10ray => (simp only [List.getElem?_toArray, List.getElem?_cons_succ, List.getElem?_cons_zero]; exact rfl)
        case ho11ray => (simp only [List.getElem?_toArray, List.getElem?_cons_succ, List.getElem?_cons_zero]; exact rfl)
        case hr9ray =>
          go_simp
          refine (C23.out _ (bstep HBr3.out B1.out)).mono ?_
          rintro e w2 ⟨pa2, ca2, pb2, cb2, vs2, rfl, oo, rr, hb⟩
          have T2 := hide hb
          have SZ2 := hide hb.size
          have OO2 := hide oo
          have RR2 := hide rr
          clear oo rr
          have B2 := hide (bstep B1.out hb)
          clear hb
          refine hK.out _ _ (fun _ => trivial) ?_
          clear hK K
          (try simp only [Act.put, List.setIfInBounds_toArray, List.set_cons_zero, List.set_cons_succ])
          refine wpAnyX_pick (rs := [10, 11]) (by kernel_rfl) (by simp) (AllX.cons (o := ?oi10raay) ?ho10raay (fun K hK => ?hr10raay) (AllX.cons (o := ?oi11raay) ?ho11raay (fun K hK => ?hr11raay) (AllX.nil)))
          case ho10raay => (simp only [List.getElem?_toArray, List.getElem?_cons_succ, List.getElem?_cons_zero]; exact rfl)
          case ho11raay => (simp only [List.getElem?_toArray, List.getElem?_cons_succ, List.getElem?_cons_zero]; exact rfl)
          case hr10raay =>
            go_simp
            obtain ⟨w3, hw⟩ : ∃ q, q = w2.alloc (.cells #[.slice none 0 0, .slice none 0 0, .int .i64 0, .int .i64 0] 53) := ⟨_, rfl⟩
            obtain ⟨X1, hx⟩ : ∃ q, q = w2.heap.size := ⟨_, rfl⟩
            have hb : Below w2.heap.size w2 w3 := by rw [hw]; exact (Below.refl _ _).alloc (Nat.le_refl _) _
            have BBX1 := hide (show BookBox w3 X1 (.slice none 0 0) (.slice none 0 0) 0 0 by rw [hw, hx]; exact book_made _)
            have ZZX1 := hide (show X1 = w2.heap.size ∧ w3.heap.size = w2.heap.size + 1 by rw [hw, hx]; exact ⟨rfl, by simp⟩)
            rw [← hw, ← hx]
            have SZ3 := hide hb.size
            have T3 := hide hb
            clear hw hx
            have B3 := hide (bstep B2.out hb)
            clear hb
            refine hK.out _ _ (fun _ => trivial) ?_
            clear hK K
            (try simp only [Act.put, List.setIfInBounds_toArray, List.set_cons_zero, List.set_cons_succ])
            refine wpAnyX_pick (rs := [11]) (by kernel_rfl) (by simp) (AllX.cons (o := ?oi11raaay) ?ho11raaay (fun K hK => ?hr11raaay) (AllX.nil))
            case ho11raaay => (simp only [List.getElem?_toArray, List.getElem?_cons_succ, List.getElem?_cons_zero]; exact rfl)
            case hr11raaay =>
              go_simp
              obtain ⟨w4, hw⟩ : ∃ q, q = w3.alloc (.cells #[.slice none 0 0, .slice none 0 0, .int .i64 0, .int .i64 0] 53) := ⟨_, rfl⟩
              obtain ⟨X2, hx⟩ : ∃ q, q = w3.heap.size := ⟨_, rfl⟩
              have hb : Below w3.heap.size w3 w4 := by rw [hw]; exact (Below.refl _ _).alloc (Nat.le_refl _) _
              have BBX2 := hide (show BookBox w4 X2 (.slice none 0 0) (.slice none 0 0) 0 0 by rw [hw, hx]; exact book_made _)
              have ZZX2 := hide (show X2 = w3.heap.size ∧ w4.heap.size = w3.heap.size + 1 by rw [hw, hx]; exact ⟨rfl, by simp⟩)
              rw [← hw, ← hx]
              have SZ4 := hide hb.size
              have T4 := hide hb
              clear hw hx
              replace BBX1 := hide (BBX1.out.stays (hb.block _ BBX1.out.lt))
              have B4 := hide (bstep B3.out hb)
              clear hb
              refine hK.out _ _ (fun _ => trivial) ?_
              clear hK K
              (try simp only [Act.put, List.setIfInBounds_toArray, List.set_cons_zero, List.set_cons_succ])
              refine wpAnyX_pick (rs := [12]) (by kernel_rfl) (by simp) (AllX.cons (o := ?oi12raaay) ?ho12raaay (fun K hK => ?hr12raaay) (AllX.nil))
              case ho12raaay => (simp only [List.getElem?_toArray, List.getElem?_cons_succ, List.getElem?_cons_zero]; exact rfl)
              case hr12raaay =>
                rw [if_pos (by rfl)]
                refine wp_store_mid 53 _ _ rfl X1 0 (bkL pa1 os.length ca1 pb1 cb1 good why).toArray rfl rfl BBX1.out.there (by kernel_rfl) (by kernel_rfl) ?_
                refine hK.out _ _ (fun _ => trivial) ?_
                clear hK K
                (try simp only [Act.put, List.setIfInBounds_toArray, List.set_cons_zero, List.set_cons_succ])
                refine wpAnyX_pick (rs := [13]) (by kernel_rfl) (by simp) (AllX.cons (o := ?oi13raaay) ?ho13raaay (fun K hK => ?hr13raaay) (AllX.nil))
                case ho13raaay => (simp only [List.getElem?_toArray, List.getElem?_cons_succ, List.getElem?_cons_zero]; exact rfl)
                case hr13raaay =>
                  rw [if_pos (by rfl)]
                  refine wp_store_mid 53 _ _ rfl X2 0 (bkL pa2 os.length ca2 pb2 cb2 good why).toArray rfl rfl (book_boxS BBX2.out (by have := ZZX1.out; have := ZZX2.out; have := SZ1.out; have := SZ2.out; have := SZ3.out; have := SZ4.out; omega) _).there (by kernel_rfl) (by kernel_rfl) ?_
                  refine hK.out _ _ (fun _ => trivial) ?_
                  clear hK K
                  (try simp only [Act.put, List.setIfInBounds_toArray, List.set_cons_zero, List.set_cons_succ])
                  refine wpAnyX_done (by kernel_rfl) ?_ _
                  go_wp2_with fail
                  go_meet
                  refine ⟨X1, X2, rfl, rfl, ?_⟩
                  exact two_books (wa := w0) (wb := w1) (wc := w1) (wd := w2) OO1.out RR1.out OO2.out RR2.out (bstep (bstep T2.out T3.out) T4.out) (bstep T3.out T4.out) BBX1.out BBX2.out B4.out (by have := ZZX1.out; have := ZZX2.out; have := B0.out.size; have := SZ1.out; have := SZ2.out; have := SZ3.out; have := SZ4.out; omega) (by have := ZZX1.out; have := ZZX2.out; have := B0.out.size; have := SZ1.out; have := SZ2.out; have := SZ3.out; have := SZ4.out; omega) (by have := ZZX1.out; have := ZZX2.out; have := B0.out.size; have := SZ1.out; have := SZ2.out; have := SZ3.out; have := SZ4.out; omega) (by have := ZZX1.out; have := ZZX2.out; have := B0.out.size; have := SZ1.out; have := SZ2.out; have := SZ3.out; have := SZ4.out; omega) (by have := ZZX1.out; have := ZZX2.out; have := B0.out.size; have := SZ1.out; have := SZ2.out; have := SZ3.out; have := SZ4.out; omega) (by have := ZZX1.out; have := ZZX2.out; have := B0.out.size; have := SZ1.out; have := SZ2.out; have := SZ3.out; have := SZ4.out; omega) (by have := ZZX1.out; have := ZZX2.out; have := B0.out.size; have := SZ1.out; have := SZ2.out; have := SZ3.out; have := SZ4.out; omega) (by have := ZZX1.out; have := ZZX2.out; have := B0.out.size; have := SZ1.out; have := SZ2.out; have := SZ3.out; have := SZ4.out; omega) (by have := ZZX1.out; have := ZZX2.out; have := B0.out.size; have := SZ1.out; have := SZ2.out; have := SZ3.out; have := SZ4.out; omega) (by have := ZZX1.out; have := ZZX2.out; have := B0.out.size; have := SZ1.out; have := SZ2.out; have := SZ3.out; have := SZ4.out; omega)
          case hr11raay =>
            go_simp
            obtain ⟨w3, hw⟩ : ∃ q, q = w2.alloc (.cells #[.slice none 0 0, .slice none 0 0, .int .i64 0, .int .i64 0] 53) := ⟨_, rfl⟩
            obtain ⟨X2, hx⟩ : ∃ q, q = w2.heap.size := ⟨_, rfl⟩
            have hb : Below w2.heap.size w2 w3 := by rw [hw]; exact (Below.refl _ _).alloc (Nat.le_refl _) _
            have BBX2 := hide (show BookBox w3 X2 (.slice none 0 0) (.slice none 0 0) 0 0 by rw [hw, hx]; exact book_made _)
            have ZZX2 := hide (show X2 = w2.heap.size ∧ w3.heap.size = w2.heap.size + 1 by rw [hw, hx]; exact ⟨rfl, by simp⟩)
            rw [← hw, ← hx]
            have SZ3 := hide hb.size
            have T3 := hide hb
            clear hw hx
            have B3 := hide (bstep B2.out hb)
            clear hb
            refine hK.out _ _ (fun _ => trivial) ?_
            clear hK K
            (try simp only [Act.put, List.setIfInBounds_toArray, List.set_cons_zero, List.set_cons_succ])
            refine wpAnyX_pick (rs := [10]) (by kernel_rfl) (by simp) (AllX.cons (o := ?oi10raaby) ?ho10raaby (fun K hK => ?hr10raaby) (AllX.nil))
            case ho10raaby => (simp only [List.getElem?_toArray, List.getElem?_cons_succ, List.getElem?_cons_zero]; exact rfl)
            case hr10raaby =>
              go_simp
              obtain ⟨w4, hw⟩ : ∃ q, q = w3.alloc (.cells #[.slice none 0 0, .slice none 0 0, .int .i64 0, .int .i64 0] 53) := ⟨_, rfl⟩
              obtain ⟨X1, hx⟩ : ∃ q, q = w3.heap.size := ⟨_, rfl⟩
              have hb : Below w3.heap.size w3 w4 := by rw [hw]; exact (Below.refl _ _).alloc (Nat.le_refl _) _
              have BBX1 := hide (show BookBox w4 X1 (.slice none 0 0) (.slice none 0 0) 0 0 by rw [hw, hx]; exact book_made _)
              have ZZX1 := hide (show X1 = w3.heap.size ∧ w4.heap.size = w3.heap.size + 1 by rw [hw, hx]; exact ⟨rfl, by simp⟩)
              rw [← hw, ← hx]
              have SZ4 := hide hb.size
              have T4 := hide hb
              clear hw hx
              replace BBX2 := hide (BBX2.out.stays (hb.block _ BBX2.out.lt))
              have B4 := hide (bstep B3.out hb)
              clear hb
              refine hK.out _ _ (fun _ => trivial) ?_
              clear hK K
              (try simp only [Act.put, List.setIfInBounds_toArray, List.set_cons_zero, List.set_cons_succ])
              refine wpAnyX_pick (rs := [12]) (by kernel_rfl) (by simp) (AllX.cons (o := ?oi12raaby) ?ho12raaby (fun K hK => ?hr12raaby) (AllX.nil))
              case ho12raaby => (simp only [List.getElem?_toArray, List.getElem?_cons_succ, List.getElem?_cons_zero]; exact rfl)
              case hr12raaby =>
                rw [if_pos (by rfl)]
                refine wp_store_mid 53 _ _ rfl X1 0 (bkL pa1 os.length ca1 pb1 cb1 good why).toArray rfl rfl BBX1.out.there (by kernel_rfl) (by kernel_rfl) ?_
                refine hK.out _ _ (fun _ => trivial) ?_
                clear hK K
                (try simp only [Act.put, List.setIfInBounds_toArray, List.set_cons_zero, List.set_cons_succ])
                refine wpAnyX_pick (rs := [13]) (by kernel_rfl) (by simp) (AllX.cons (o := ?oi13raaby) ?ho13raaby (fun K hK => ?hr13raaby) (AllX.nil))
                case ho13raaby => (simp only [List.getElem?_toArray, List.getElem?_cons_succ, List.getElem?_cons_zero]; exact rfl)
                case hr13raaby =>
                  rw [if_pos (by rfl)]
                  refine wp_store_mid 53 _ _ rfl X2 0 (bkL pa2 os.length ca2 pb2 cb2 good why).toArray rfl rfl (book_boxS BBX2.out (by have := ZZX1.out; have := ZZX2.out; have := SZ1.out; have := SZ2.out; have := SZ3.out; have := SZ4.out; omega) _).there (by kernel_rfl) (by kernel_rfl) ?_
                  refine hK.out _ _ (fun _ => trivial) ?_
                  clear hK K
                  (try simp only [Act.put, List.setIfInBounds_toArray, List.set_cons_zero, List.set_cons_succ])
                  refine wpAnyX_done (by kernel_rfl) ?_ _
                  go_wp2_with fail
                  go_meet
                  refine ⟨X1, X2, rfl, rfl, ?_⟩
                  exact two_books (wa := w0) (wb := w1) (wc := w1) (wd := w2) OO1.out RR1.out OO2.out RR2.out (bstep (bstep T2.out T3.out) T4.out) (bstep T3.out T4.out) BBX1.out BBX2.out B4.out (by have := ZZX1.out; have := ZZX2.out; have := B0.out.size; have := SZ1.out; have := SZ2.out; have := SZ3.out; have := SZ4.out; omega) (by have := ZZX1.out; have := ZZX2.out; have := B0.out.size; have := SZ1.out; have := SZ2.out; have := SZ3.out; have := SZ4.out; omega) (by have := ZZX1.out; have := ZZX2.out; have := B0.out.size; have := SZ1.out; have := SZ2.out; have := SZ3.out; have := SZ4.out; omega) (by have := ZZX1.out; have := ZZX2.out; have := B0.out.size; have := SZ1.out; have := SZ2.out; have := SZ3.out; have := SZ4.out; omega) (by have := ZZX1.out; have := ZZX2.out; have := B0.out.size; have := SZ1.out; have := SZ2.out; have := SZ3.out; have := SZ4.out; omega) (by have := ZZX1.out; have := ZZX2.out; have := B0.out.size; have := SZ1.out; have := SZ2.out; have := SZ3.out; have := SZ4.out; omega) (by have := ZZX1.out; have := ZZX2.out; have := B0.out.size; have := SZ1.out; have := SZ2.out; have := SZ3.out; have := SZ4.out; omega) (by have := ZZX1.out; have := ZZX2.out; have := B0.out.size; have := SZ1.out; have := SZ2.out; have := SZ3.out; have := SZ4.out; omega) (by have := ZZX1.out; have := ZZX2.out; have := B0.out.size; have := SZ1.out; have := SZ2.out; have := SZ3.out; have := SZ4.out; omega) (by have := ZZX1.out; have := ZZX2.out; have := B0.out.size; have := SZ1.out; have := SZ2.out; have := SZ3.out; have := SZ4.out; omega)
        case hr10ray =>
          go_simp
          obtain ⟨w2, hw⟩ : ∃ q, q = w1.alloc (.cells #[.slice none 0 0, .slice none 0 0, .int .i64 0, .int .i64 0] 53) := ⟨_, rfl⟩
          obtain ⟨X1, hx⟩ : ∃ q, q = w1.heap.size := ⟨_, rfl⟩
          have hb : Below w1.heap.size w1 w2 := by rw [hw]; exact (Below.refl _ _).alloc (Nat.le_refl _) _
          have BBX1 := hide (show BookBox w2 X1 (.slice none 0 0) (.slice none 0 0) 0 0 by rw [hw, hx]; exact book_made _)
          have ZZX1 := hide (show X1 = w1.heap.size ∧ w2.heap.size = w1.heap.size + 1 by rw [hw, hx]; exact ⟨rfl, by simp⟩)
          rw [← hw, ← hx]
          have SZ2 := hide hb.size
          have T2 := hide hb
          clear hw hx
          have B2 := hide (bstep B1.out hb)
          clear hb
          refine hK.out _ _ (fun _ => trivial) ?_
          clear hK K
          (try simp only [Act.put, List.setIfInBounds_toArray, List.set_cons_zero, List.set_cons_succ])
          refine wpAnyX_pick (rs := [9, 11]) (by kernel_rfl) (by simp) (AllX.cons (o := ?oi9raby) ?ho9raby (fun K hK => ?hr9raby) (AllX.cons (o := ?oi11raby) ?ho11raby (fun K hK => ?hr11raby) (AllX.nil)))
          case ho9raby => (simp only [List.getElem?_toArray, List.getElem?_cons_succ, List.getElem?_cons_zero]; exact rfl)
          case ho11raby => (simp only [List.getElem?_toArray, List.getElem?_cons_succ, List.getElem?_cons_zero]; exact rfl)
          case hr9raby =>
            go_simp
            refine (C23.out _ (bstep HBr3.out B2.out)).mono ?_
            rintro e w3 ⟨pa2, ca2, pb2, cb2, vs2, rfl, oo, rr, hb⟩
            have T3 := hide hb
            have SZ3 := hide hb.size
            have OO2 := hide oo
            have RR2 := hide rr
            clear oo rr
            replace BBX1 := hide (BBX1.out.stays (hb.block _ BBX1.out.lt))
            have B3 := hide (bstep B2.out hb)
            clear hb
            refine hK.out _ _ (fun _ => trivial) ?_
            clear hK K
            (try simp only [Act.put, List.setIfInBounds_toArray, List.set_cons_zero, List.set_cons_succ])
            refine wpAnyX_pick (rs := [11]) (by kernel_rfl) (by simp) (AllX.cons (o := ?oi11rabay) ?ho11rabay (fun K hK => ?hr11rabay) (AllX.nil))
            case ho11rabay => (simp only [List.getElem?_toArray, List.getElem?_cons_succ, List.getElem?_cons_zero]; exact rfl)
            case hr11rabay =>
              go_simp
              obtain ⟨w4, hw⟩ : ∃ q, q = w3.alloc (.cells #[.slice none 0 0, .slice none 0 0, .int .i64 0, .int .i64 0] 53) := ⟨_, rfl⟩
              obtain ⟨X2, hx⟩ : ∃ q, q = w3.heap.size := ⟨_, rfl⟩
              have hb : Below w3.heap.size w3 w4 := by rw [hw]; exact (Below.refl _ _).alloc (Nat.le_refl _) _
              have BBX2 := hide (show BookBox w4 X2 (.slice none 0 0) (.slice none 0 0) 0 0 by rw [hw, hx]; exact book_made _)
              have ZZX2 := hide (show X2 = w3.heap.size ∧ w4.heap.size = w3.heap.size + 1 by rw [hw, hx]; exact ⟨rfl, by simp⟩)
              rw [← hw, ← hx]
              have SZ4 := hide hb.size
              have T4 := hide hb
              clear hw hx
              replace BBX1 := hide (BBX1.out.stays (hb.block _ BBX1.out.lt))
              have B4 := hide (bstep B3.out hb)
              clear hb
              refine hK.out _ _ (fun _ => trivial) ?_
              clear hK K
              (try simp only [Act.put, List.setIfInBounds_toArray, List.set_cons_zero, List.set_cons_succ])
              refine wpAnyX_pick (rs := [12]) (by kernel_rfl) (by simp) (AllX.cons (o := ?oi12rabay) ?ho12rabay (fun K hK => ?hr12rabay) (AllX.nil))
              case ho12rabay => (simp only [List.getElem?_toArray, List.getElem?_cons_succ, List.getElem?_cons_zero]; exact rfl)
              case hr12rabay =>
                rw [if_pos (by rfl)]
                refine wp_store_mid 53 _ _ rfl X1 0 (bkL pa1 os.length ca1 pb1 cb1 good why).toArray rfl rfl BBX1.out.there (by kernel_rfl) (by kernel_rfl) ?_
                refine hK.out _ _ (fun _ => trivial) ?_
                clear hK K
                (try simp only [Act.put, List.setIfInBounds_toArray, List.set_cons_zero, List.set_cons_succ])
                refine wpAnyX_pick (rs := [13]) (by kernel_rfl) (by simp) (AllX.cons (o := ?oi13rabay) ?ho13rabay (fun K hK => ?hr13rabay) (AllX.nil))
                case ho13rabay => (simp only [List.getElem?_toArray, List.getElem?_cons_succ, List.getElem?_cons_zero]; exact rfl)
                case hr13rabay =>
                  rw [if_pos (by rfl)]
                  refine wp_store_mid 53 _ _ rfl X2 0 (bkL pa2 os.length ca2 pb2 cb2 good why).toArray rfl rfl (book_boxS BBX2.out (by have := ZZX1.out; have := ZZX2.out; have := SZ1.out; have := SZ2.out; have := SZ3.out; have := SZ4.out; omega) _).there (by kernel_rfl) (by kernel_rfl) ?_
                  refine hK.out _ _ (fun _ => trivial) ?_
                  clear hK K
                  (try simp only [Act.put, List.setIfInBounds_toArray, List.set_cons_zero, List.set_cons_succ])
                  refine wpAnyX_done (by kernel_rfl) ?_ _
                  go_wp2_with fail
                  go_meet
                  refine ⟨X1, X2, rfl, rfl, ?_⟩
                  exact two_books (wa := w0) (wb := w1) (wc := w2) (wd := w3) OO1.out RR1.out OO2.out RR2.out (bstep (bstep T2.out T3.out) T4.out) T4.out BBX1.out BBX2.out B4.out (by have := ZZX1.out; have := ZZX2.out; have := B0.out.size; have := SZ1.out; have := SZ2.out; have := SZ3.out; have := SZ4.out; omega) (by have := ZZX1.out; have := ZZX2.out; have := B0.out.size; have := SZ1.out; have := SZ2.out; have := SZ3.out; have := SZ4.out; omega) (by have := ZZX1.out; have := ZZX2.out; have := B0.out.size; have := SZ1.out; have := SZ2.out; have := SZ3.out; have := SZ4.out; omega) (by have := ZZX1.out; have := ZZX2.out; have := B0.out.size; have := SZ1.out; have := SZ2.out; have := SZ3.out; have := SZ4.out; omega) (by have := ZZX1.out; have := ZZX2.out; have := B0.out.size; have := SZ1.out; have := SZ2.out; have := SZ3.out; have := SZ4.out; omega) (by have := ZZX1.out; have := ZZX2.out; have := B0.out.size; have := SZ1.out; have := SZ2.out; have := SZ3.out; have := SZ4.out; omega) (by have := ZZX1.out; have := ZZX2.out; have := B0.out.size; have := SZ1.out; have := SZ2.out; have := SZ3.out; have := SZ4.out; omega) (by have := ZZX1.out; have := ZZX2.out; have := B0.out.size; have := SZ1.out; have := SZ2.out; have := SZ3.out; have := SZ4.out; omega) (by have := ZZX1.out; have := ZZX2.out; have := B0.out.size; have := SZ1.out; have := SZ2.out; have := SZ3.out; have := SZ4.out; omega) (by have := ZZX1.out; have := ZZX2.out; have := B0.out.size; have := SZ1.out; have := SZ2.out; have := SZ3.out; have := SZ4.out; omega)
          case hr11raby =>
            go_simp
            obtain ⟨w3, hw⟩ : ∃ q, q = w2.alloc (.cells #[.slice none 0 0, .slice none 0 0, .int .i64 0, .int .i64 0] 53) := ⟨_, rfl⟩
            obtain ⟨X2, hx⟩ : ∃ q, q = w2.heap.size := ⟨_, rfl⟩
            have hb : Below w2.heap.size w2 w3 := by rw [hw]; exact (Below.refl _ _).alloc (Nat.le_refl _) _
            have BBX2 := hide (show BookBox w3 X2 (.slice none 0 0) (.slice none 0 0) 0 0 by rw [hw, hx]; exact book_made _)
            have ZZX2 := hide (show X2 = w2.heap.size ∧ w3.heap.size = w2.heap.size + 1 by rw [hw, hx]; exact ⟨rfl, by simp⟩)
            rw [← hw, ← hx]
            have SZ3 := hide hb.size
            have T3 := hide hb
            clear hw hx
            replace BBX1 := hide (BBX1.out.stays (hb.block _ BBX1.out.lt))
            have B3 := hide (bstep B2.out hb)
            clear hb
            refine hK.out _ _ (fun _ => trivial) ?_
            clear hK K
            (try simp only [Act.put, List.setIfInBounds_toArray, List.set_cons_zero, List.set_cons_succ])
            refine wpAnyX_pick (rs := [9]) (by kernel_rfl) (by simp) (AllX.cons (o := ?oi9rabby) ?ho9rabby (fun K hK => ?hr9rabby) (AllX.nil))
            case ho9rabby => (simp only [List.getElem?_toArray, List.getElem?_cons_succ, List.getElem?_cons_zero]; exact rfl)
            case hr9rabby =>
              go_simp
              refine (C23.out _ (bstep HBr3.out B3.out)).mono ?_
              rintro e w4 ⟨pa2, ca2, pb2, cb2, vs2, rfl, oo, rr, hb⟩
              have T4 := hide hb
              have SZ4 := hide hb.size
              have OO2 := hide oo
              have RR2 := hide rr
              clear oo rr
              replace BBX1 := hide (BBX1.out.stays (hb.block _ BBX1.out.lt))
              replace BBX2 := hide (BBX2.out.stays (hb.block _ BBX2.out.lt))
              have B4 := hide (bstep B3.out hb)
              clear hb
              refine hK.out _ _ (fun _ => trivial) ?_
              clear hK K
              (try simp only [Act.put, List.setIfInBounds_toArray, List.set_cons_zero, List.set_cons_succ])
              refine wpAnyX_pick (rs := [12]) (by kernel_rfl) (by simp) (AllX.cons (o := ?oi12rabby) ?ho12rabby (fun K hK => ?hr12rabby) (AllX.nil))
              case ho12rabby => (simp only [List.getElem?_toArray, List.getElem?_cons_succ, List.getElem?_cons_zero]; exact rfl)
              case hr12rabby =>
                rw [if_pos (by rfl)]
                refine wp_store_mid 53 _ _ rfl X1 0 (bkL pa1 os.length ca1 pb1 cb1 good why).toArray rfl rfl BBX1.out.there (by kernel_rfl) (by kernel_rfl) ?_
                refine hK.out _ _ (fun _ => trivial) ?_
                clear hK K
                (try simp only [Act.put, List.setIfInBounds_toArray, List.set_cons_zero, List.set_cons_succ])
                refine wpAnyX_pick (rs := [13]) (by kernel_rfl) (by simp) (AllX.cons (o := ?oi13rabby) ?ho13rabby (fun K hK => ?hr13rabby) (AllX.nil))
                case ho13rabby => (simp only [List.getElem?_toArray, List.getElem?_cons_succ, List.getElem?_cons_zero]; exact rfl)
                case hr13rabby =>
                  rw [if_pos (by rfl)]
                  refine wp_store_mid 53 _ _ rfl X2 0 (bkL pa2 os.length ca2 pb2 cb2 good why).toArray rfl rfl (book_boxS BBX2.out (by have := ZZX1.out; have := ZZX2.out; have := SZ1.out; have := SZ2.out; have := SZ3.out; have := SZ4.out; omega) _).there (by kernel_rfl) (by kernel_rfl) ?_
                  refine hK.out _ _ (fun _ => trivial) ?_
                  clear hK K
                  (try simp only [Act.put, List.setIfInBounds_toArray, List.set_cons_zero, List.set_cons_succ])
                  refine wpAnyX_done (by kernel_rfl) ?_ _
                  go_wp2_with fail
                  go_meet
                  refine ⟨X1, X2, rfl, rfl, ?_⟩
                  exact two_books (wa := w0) (wb := w1) (wc := w3) (wd := w4) OO1.out RR1.out OO2.out RR2.out (bstep (bstep T2.out T3.out) T4.out) (Below.refl _ _) BBX1.out BBX2.out B4.out (by have := ZZX1.out; have := ZZX2.out; have := B0.out.size; have := SZ1.out; have := SZ2.out; have := SZ3.out; have := SZ4.out; omega) (by have := ZZX1.out; have := ZZX2.out; have := B0.out.size; have := SZ1.out; have := SZ2.out; have := SZ3.out; have := SZ4.out; omega) (by have := ZZX1.out; have := ZZX2.out; have := B0.out.size; have := SZ1.out; have := SZ2.out; have := SZ3.out; have := SZ4.out; omega) (by have := ZZX1.out; have := ZZX2.out; have := B0.out.size; have := SZ1.out; have := SZ2.out; have := SZ3.out; have := SZ4.out; omega) (by have := ZZX1.out; have := ZZX2.out; have := B0.out.size; have := SZ1.out; have := SZ2.out; have := SZ3.out; have := SZ4.out; omega) (by have := ZZX1.out; have := ZZX2.out; have := B0.out.size; have := SZ1.out; have := SZ2.out; have := SZ3.out; have := SZ4.out; omega) (by have := ZZX1.out; have := ZZX2.out; have := B0.out.size; have := SZ1.out; have := SZ2.out; have := SZ3.out; have := SZ4.out; omega) (by have := ZZX1.out; have := ZZX2.out; have := B0.out.size; have := SZ1.out; have := SZ2.out; have := SZ3.out; have := SZ4.out; omega) (by have := ZZX1.out; have := ZZX2.out; have := B0.out.size; have := SZ1.out; have := SZ2.out; have := SZ3.out; have := SZ4.out; omega) (by have := ZZX1.out; have := ZZX2.out; have := B0.out.size; have := SZ1.out; have := SZ2.out; have := SZ3.out; have := SZ4.out; omega)
        case hr11ray =>
          go_simp
          obtain ⟨w2, hw⟩ : ∃ q, q = w1.alloc (.cells #[.slice none 0 0, .slice none 0 0, .int .i64 0, .int .i64 0] 53) := ⟨_, rfl⟩
          obtain ⟨X2, hx⟩ : ∃ q, q = w1.heap.size := ⟨_, rfl⟩
          have hb : Below w1.heap.size w1 w2 := by rw [hw]; exact (Below.refl _ _).alloc (Nat.le_refl _) _
          have BBX2 := hide (show BookBox w2 X2 (.slice none 0 0) (.slice none 0 0) 0 0 by rw [hw, hx]; exact book_made _)
          have ZZX2 := hide (show X2 = w1.heap.size ∧ w2.heap.size = w1.heap.size + 1 by rw [hw, hx]; exact ⟨rfl, by simp⟩)
          rw [← hw, ← hx]
          have SZ2 := hide hb.size
          have T2 := hide hb
          clear hw hx
          have B2 := hide (bstep B1.out hb)
          clear hb
          refine hK.out _ _ (fun _ => trivial) ?_
          clear hK K
          (try simp only [Act.put, List.setIfInBounds_toArray, List.set_cons_zero, List.set_cons_succ])
          refine wpAnyX_pick (rs := [9, 10]) (by kernel_rfl) (by simp) (AllX.cons (o := ?oi9racy) ?ho9racy (fun K hK => ?hr9racy) (AllX.cons (o := ?oi10racy) ?ho10racy (fun K hK => ?hr10racy) (AllX.nil)))
          case ho9racy => (simp only [List.getElem?_toArray, List.getElem?_cons_succ, List.getElem?_cons_zero]; exact rfl)
          case ho10racy => (simp only [List.getElem?_toArray, List.getElem?_cons_succ, List.getElem?_cons_zero]; exact rfl)
          case hr9racy =>
            go_simp
            refine (C23.out _ (bstep HBr3.out B2.out)).mono ?_
            rintro e w3 ⟨pa2, ca2, pb2, cb2, vs2, rfl, oo, rr, hb⟩
            have T3 := hide hb
            have SZ3 := hide hb.size
            have OO2 := hide oo
            have RR2 := hide rr
            clear oo rr
            replace BBX2 := hide (BBX2.out.stays (hb.block _ BBX2.out.lt))
            have B3 := hide (bstep B2.out hb)
            clear hb
            refine hK.out _ _ (fun _ => trivial) ?_
            clear hK K
            (try simp only [Act.put, List.setIfInBounds_toArray, List.set_cons_zero, List.set_cons_succ])
            refine wpAnyX_pick (rs := [10]) (by kernel_rfl) (by simp) (AllX.cons (o := ?oi10racay) ?ho10racay (fun K hK => ?hr10racay) (AllX.nil))
            case ho10racay => (simp only [List.getElem?_toArray, List.getElem?_cons_succ, List.getElem?_cons_zero]; exact rfl)
            case hr10racay =>
              go_simp
              obtain ⟨w4, hw⟩ : ∃ q, q = w3.alloc (.cells #[.slice none 0 0, .slice none 0 0, .int .i64 0, .int .i64 0] 53) := ⟨_, rfl⟩
              obtain ⟨X1, hx⟩ : ∃ q, q = w3.heap.size := ⟨_, rfl⟩
              have hb : Below w3.heap.size w3 w4 := by rw [hw]; exact (Below.refl _ _).alloc (Nat.le_refl _) _
              have BBX1 := hide (show BookBox w4 X1 (.slice none 0 0) (.slice none 0 0) 0 0 by rw [hw, hx]; exact book_made _)
              have ZZX1 := hide (show X1 = w3.heap.size ∧ w4.heap.size = w3.heap.size + 1 by rw [hw, hx]; exact ⟨rfl, by simp⟩)
              rw [← hw, ← hx]
              have SZ4 := hide hb.size
              have T4 := hide hb
              clear hw hx
              replace BBX2 := hide (BBX2.out.stays (hb.block _ BBX2.out.lt))
              have B4 := hide (bstep B3.out hb)
              clear hb
              refine hK.out _ _ (fun _ => trivial) ?_
              clear hK K
              (try simp only [Act.put, List.setIfInBounds_toArray, List.set_cons_zero, List.set_cons_succ])
              refine wpAnyX_pick (rs := [12]) (by kernel_rfl) (by simp) (AllX.cons (o := ?oi12racay) ?ho12racay (fun K hK => ?hr12racay) (AllX.nil))
              case ho12racay => (simp only [List.getElem?_toArray, List.getElem?_cons_succ, List.getElem?_cons_zero]; exact rfl)
              case hr12racay =>
                rw [if_pos (by rfl)]
                refine wp_store_mid 53 _ _ rfl X1 0 (bkL pa1 os.length ca1 pb1 cb1 good why).toArray rfl rfl BBX1.out.there (by kernel_rfl) (by kernel_rfl) ?_
                refine hK.out _ _ (fun _ => trivial) ?_
                clear hK K
                (try simp only [Act.put, List.setIfInBounds_toArray, List.set_cons_zero, List.set_cons_succ])
                refine wpAnyX_pick (rs := [13]) (by kernel_rfl) (by simp) (AllX.cons (o := ?oi13racay) ?ho13racay (fun K hK => ?hr13racay) (AllX.nil))
                case ho13racay => (simp only [List.getElem?_toArray, List.getElem?_cons_succ, List.getElem?_cons_zero]; exact rfl)
                case hr13racay =>
                  rw [if_pos (by rfl)]
                  refine wp_store_mid 53 _ _ rfl X2 0 (bkL pa2 os.length ca2 pb2 cb2 good why).toArray rfl rfl (book_boxS BBX2.out (by have := ZZX1.out; have := ZZX2.out; have := SZ1.out; have := SZ2.out; have := SZ3.out; have := SZ4.out; omega) _).there (by kernel_rfl) (by kernel_rfl) ?_
                  refine hK.out _ _ (fun _ => trivial) ?_
                  clear hK K
                  (try simp only [Act.put, List.setIfInBounds_toArray, List.set_cons_zero, List.set_cons_succ])
                  refine wpAnyX_done (by kernel_rfl) ?_ _
                  go_wp2_with fail
                  go_meet
                  refine ⟨X1, X2, rfl, rfl, ?_⟩
                  exact two_books (wa := w0) (wb := w1) (wc := w2) (wd := w3) OO1.out RR1.out OO2.out RR2.out (bstep (bstep T2.out T3.out) T4.out) T4.out BBX1.out BBX2.out B4.out (by have := ZZX1.out; have := ZZX2.out; have := B0.out.size; have := SZ1.out; have := SZ2.out; have := SZ3.out; have := SZ4.out; omega) (by have := ZZX1.out; have := ZZX2.out; have := B0.out.size; have := SZ1.out; have := SZ2.out; have := SZ3.out; have := SZ4.out; omega) (by have := ZZX1.out; have := ZZX2.out; have := B0.out.size; have := SZ1.out; have := SZ2.out; have := SZ3.out; have := SZ4.out; omega) (by have := ZZX1.out; have := ZZX2.out; have := B0.out.size; have := SZ1.out; have := SZ2.out; have := SZ3.out; have := SZ4.out; omega) (by have := ZZX1.out; have := ZZX2.out; have := B0.out.size; have := SZ1.out; have := SZ2.out; have := SZ3.out; have := SZ4.out; omega) (by have := ZZX1.out; have := ZZX2.out; have := B0.out.size; have := SZ1.out; have := SZ2.out; have := SZ3.out; have := SZ4.out; omega) (by have := ZZX1.out; have := ZZX2.out; have := B0.out.size; have := SZ1.out; have := SZ2.out; have := SZ3.out; have := SZ4.out; omega) (by have := ZZX1.out; have := ZZX2.out; have := B0.out.size; have := SZ1.out; have := SZ2.out; have := SZ3.out; have := SZ4.out; omega) (by have := ZZX1.out; have := ZZX2.out; have := B0.out.size; have := SZ1.out; have := SZ2.out; have := SZ3.out; have := SZ4.out; omega) (by have := ZZX1.out; have := ZZX2.out; have := B0.out.size; have := SZ1.out; have := SZ2.out; have := SZ3.out; have := SZ4.out; omega)
          case hr10racy =>
            go_simp
            obtain ⟨w3, hw⟩ : ∃ q, q = w2.alloc (.cells #[.slice none 0 0, .slice none 0 0, .int .i64 0, .int .i64 0] 53) := ⟨_, rfl⟩
            obtain ⟨X1, hx⟩ : ∃ q, q = w2.heap.size := ⟨_, rfl⟩
            have hb : Below w2.heap.size w2 w3 := by rw [hw]; exact (Below.refl _ _).alloc (Nat.le_refl _) _
            have BBX1 := hide (show BookBox w3 X1 (.slice none 0 0) (.slice none 0 0) 0 0 by rw [hw, hx]; exact book_made _)
            have ZZX1 := hide (show X1 = w2.heap.size ∧ w3.heap.size = w2.heap.size + 1 by rw [hw, hx]; exact ⟨rfl, by simp⟩)
            rw [← hw, ← hx]
            have SZ3 := hide hb.size
            have T3 := hide hb
            clear hw hx
            replace BBX2 := hide (BBX2.out.stays (hb.block _ BBX2.out.lt))
            have B3 := hide (bstep B2.out hb)
            clear hb
            refine hK.out _ _ (fun _ => trivial) ?_
            clear hK K
            (try simp only [Act.put, List.setIfInBounds_toArray, List.set_cons_zero, List.set_cons_succ])
            refine wpAnyX_pick (rs := [9]) (by kernel_rfl) (by simp) (AllX.cons (o := ?oi9racby) ?ho9racby (fun K hK => ?hr9racby) (AllX.nil))
            case ho9racby => (simp only [List.getElem?_toArray, List.getElem?_cons_succ, List.getElem?_cons_zero]; exact rfl)
            case hr9racby =>
              go_simp
              refine (C23.out _ (bstep HBr3.out B3.out)).mono ?_
              rintro e w4 ⟨pa2, ca2, pb2, cb2, vs2, rfl, oo, rr, hb⟩
              have T4 := hide hb
              have SZ4 := hide hb.size
              have OO2 := hide oo
              have RR2 := hide rr
              clear oo rr
              replace BBX2 := hide (BBX2.out.stays (hb.block _ BBX2.out.lt))
              replace BBX1 := hide (BBX1.out.stays (hb.block _ BBX1.out.lt))
              have B4 := hide (bstep B3.out hb)
              clear hb
              refine hK.out _ _ (fun _ => trivial) ?_
              clear hK K
              (try simp only [Act.put, List.setIfInBounds_toArray, List.set_cons_zero, List.set_cons_succ])
              refine wpAnyX_pick (rs := [12]) (by kernel_rfl) (by simp) (AllX.cons (o := ?oi12racby) ?ho12racby (fun K hK => ?hr12racby) (AllX.nil))
              case ho12racby => (simp only [List.getElem?_toArray, List.getElem?_cons_succ, List.getElem?_cons_zero]; exact rfl)
              case hr12racby =>
                rw [if_pos (by rfl)]
                refine wp_store_mid 53 _ _ rfl X1 0 (bkL pa1 os.length ca1 pb1 cb1 good why).toArray rfl rfl BBX1.out.there (by kernel_rfl) (by kernel_rfl) ?_
                refine hK.out _ _ (fun _ => trivial) ?_
                clear hK K
                (try simp only [Act.put, List.setIfInBounds_toArray, List.set_cons_zero, List.set_cons_succ])
                refine wpAnyX_pick (rs := [13]) (by kernel_rfl) (by simp) (AllX.cons (o := ?oi13racby) ?ho13racby (fun K hK => ?hr13racby) (AllX.nil))
                case ho13racby => (simp only [List.getElem?_toArray, List.getElem?_cons_succ, List.getElem?_cons_zero]; exact rfl)
                case hr13racby =>
                  rw [if_pos (by rfl)]
                  refine wp_store_mid 53 _ _ rfl X2 0 (bkL pa2 os.length ca2 pb2 cb2 good why).toArray rfl rfl (book_boxS BBX2.out (by have := ZZX1.out; have := ZZX2.out; have := SZ1.out; have := SZ2.out; have := SZ3.out; have := SZ4.out; omega) _).there (by kernel_rfl) (by kernel_rfl) ?_
                  refine hK.out _ _ (fun _ => trivial) ?_
                  clear hK K
                  (try simp only [Act.put, List.setIfInBounds_toArray, List.set_cons_zero, List.set_cons_succ])
                  refine wpAnyX_done (by kernel_rfl) ?_ _
                  go_wp2_with fail
                  go_meet
                  refine ⟨X1, X2, rfl, rfl, ?_⟩
                  exact two_books (wa := w0) (wb := w1) (wc := w3) (wd := w4) OO1.out RR1.out OO2.out RR2.out (bstep (bstep T2.out T3.out) T4.out) (Below.refl _ _) BBX1.out BBX2.out B4.out (by have := ZZX1.out; have := ZZX2.out; have := B0.out.size; have := SZ1.out; have := SZ2.out; have := SZ3.out; have := SZ4.out; omega) (by have := ZZX1.out; have := ZZX2.out; have := B0.out.size; have := SZ1.out; have := SZ2.out; have := SZ3.out; have := SZ4.out; omega) (by have := ZZX1.out; have := ZZX2.out; have := B0.out.size; have := SZ1.out; have := SZ2.out; have := SZ3.out; have := SZ4.out; omega) (by have := ZZX1.out; have := ZZX2.out; have := B0.out.size; have := SZ1.out; have := SZ2.out; have := SZ3.out; have := SZ4.out; omega) (by have := ZZX1.out; have := ZZX2.out; have := B0.out.size; have := SZ1.out; have := SZ2.out; have := SZ3.out; have := SZ4.out; omega) (by have := ZZX1.out; have := ZZX2.out; have := B0.out.size; have := SZ1.out; have := SZ2.out; have := SZ3.out; have := SZ4.out; omega) (by have := ZZX1.out; have := ZZX2.out; have := B0.out.size; have := SZ1.out; have := SZ2.out; have := SZ3.out; have := SZ4.out; omega) (by have := ZZX1.out; have := ZZX2.out; have := B0.out.size; have := SZ1.out; have := SZ2.out; have := SZ3.out; have := SZ4.out; omega) (by have := ZZX1.out; have := ZZX2.out; have := B0.out.size; have := SZ1.out; have := SZ2.out; have := SZ3.out; have := SZ4.out; omega) (by have := ZZX1.out; have := ZZX2.out; have := B0.out.size; have := SZ1.out; have := SZ2.out; have := SZ3.out; have := SZ4.out; omega)
      case hr10ry =>
        go_simp
        obtain ⟨w1, hw⟩ : ∃ q, q = w0.alloc (.cells #[.slice none 0 0, .slice none 0 0, .int .i64 0, .int .i64 0] 53) := ⟨_, rfl⟩
        obtain ⟨X1, hx⟩ : ∃ q, q = w0.heap.size := ⟨_, rfl⟩
        have hb : Below w0.heap.size w0 w1 := by rw [hw]; exact (Below.refl _ _).alloc (Nat.le_refl _) _
        have BBX1 := hide (show BookBox w1 X1 (.slice none 0 0) (.slice none 0 0) 0 0 by rw [hw, hx]; exact book_made _)
        have ZZX1 := hide (show X1 = w0.heap.size ∧ w1.heap.size = w0.heap.size + 1 by rw [hw, hx]; exact ⟨rfl, by simp⟩)
        rw [← hw, ← hx]
        have SZ1 := hide hb.size
        have T1 := hide hb
        clear hw hx
        have B1 := hide (bstep B0.out hb)
        clear hb
        refine hK.out _ _ (fun _ => trivial) ?_
        clear hK K
        (try simp only [Act.put, List.setIfInBounds_toArray, List.set_cons_zero, List.set_cons_succ])
        refine wpAnyX_pick (rs := [4, 11]) (by kernel_rfl) (by simp) (AllX.cons (o := ?oi4rby) ?ho4rby (fun K hK => ?hr4rby) (AllX.cons (o := ?oi11rby) ?ho11rby (fun K hK => ?hr11rby) (AllX.nil)))
        case ho4rby => (simp only [List.getElem?_toArray, List.getElem?_cons_succ, List.getElem?_cons_zero]; exact rfl)
        case ho11rby => (simp only [List.getElem?_toArray, List.getElem?_cons_succ, List.getElem?_cons_zero]; exact rfl)
        case hr4rby =>
          go_simp
          refine (C23.out _ (bstep HBr3.out B1.out)).mono ?_
          rintro e w2 ⟨pa1, ca1, pb1, cb1, vs1, rfl, oo, rr, hb⟩
          have T2 := hide hb
          have SZ2 := hide hb.size
          have OO1 := hide oo
          have RR1 := hide rr
          clear oo rr
          replace BBX1 := hide (BBX1.out.stays (hb.block _ BBX1.out.lt))
          have B2 := hide (bstep B1.out hb)
          clear hb
          refine hK.out _ _ (fun _ => trivial) ?_
          clear hK K
          (try simp only [Act.put, List.setIfInBounds_toArray, List.set_cons_zero, List.set_cons_succ])
          refine wpAnyX_pick (rs := [9, 11]) (by kernel_rfl) (by simp) (AllX.cons (o := ?oi9rbay) ?ho9rbay (fun K hK => ?hr9rbay) (AllX.cons (o := ?oi11rbay) ?ho11rbay (fun K hK => ?hr11rbay) (AllX.nil)))
          case ho9rbay => (simp only [List.getElem?_toArray, List.getElem?_cons_succ, List.getElem?_cons_zero]; exact rfl)
          case ho11rbay => (simp only [List.getElem?_toArray, List.getElem?_cons_succ, List.getElem?_cons_zero]; exact rfl)
          case hr9rbay =>
            go_simp
            refine (C23.out _ (bstep HBr3.out B2.out)).mono ?_
            rintro e w3 ⟨pa2, ca2, pb2, cb2, vs2, rfl, oo, rr, hb⟩
            have T3 := hide hb
            have SZ3 := hide hb.size
            have OO2 := hide oo
            have RR2 := hide rr
            clear oo rr
            replace BBX1 := hide (BBX1.out.stays (hb.block _ BBX1.out.lt))
            have B3 := hide (bstep B2.out hb)
            clear hb
            refine hK.out _ _ (fun _ => trivial) ?_
            clear hK K
            (try simp only [Act.put, List.setIfInBounds_toArray, List.set_cons_zero, List.set_cons_succ])
            refine wpAnyX_pick (rs := [11]) (by kernel_rfl) (by simp) (AllX.cons (o := ?oi11rbaay) ?ho11rbaay (fun K hK => ?hr11rbaay) (AllX.nil))
            case ho11rbaay => (simp only [List.getElem?_toArray, List.getElem?_cons_succ, List.getElem?_cons_zero]; exact rfl)
            case hr11rbaay =>
              go_simp
              obtain ⟨w4, hw⟩ : ∃ q, q = w3.alloc (.cells #[.slice none 0 0, .slice none 0 0, .int .i64 0, .int .i64 0] 53) := ⟨_, rfl⟩
              obtain ⟨X2, hx⟩ : ∃ q, q = w3.heap.size := ⟨_, rfl⟩
              have hb : Below w3.heap.size w3 w4 := by rw [hw]; exact (Below.refl _ _).alloc (Nat.le_refl _) _
              have BBX2 := hide (show BookBox w4 X2 (.slice none 0 0) (.slice none 0 0) 0 0 by rw [hw, hx]; exact book_made _)
              have ZZX2 := hide (show X2 = w3.heap.size ∧ w4.heap.size = w3.heap.size + 1 by rw [hw, hx]; exact ⟨rfl, by simp⟩)
              rw [← hw, ← hx]
              have SZ4 := hide hb.size
              have T4 := hide hb
              clear hw hx
              replace BBX1 := hide (BBX1.out.stays (hb.block _ BBX1.out.lt))
              have B4 := hide (bstep B3.out hb)
              clear hb
              refine hK.out _ _ (fun _ => trivial) ?_
              clear hK K
              (try simp only [Act.put, List.setIfInBounds_toArray, List.set_cons_zero, List.set_cons_succ])
              refine wpAnyX_pick (rs := [12]) (by kernel_rfl) (by simp) (AllX.cons (o := ?oi12rbaay) ?ho12rbaay (fun K hK => ?hr12rbaay) (AllX.nil))
              case ho12rbaay => (simp only [List.getElem?_toArray, List.getElem?_cons_succ, List.getElem?_cons_zero]; exact rfl)
              case hr12rbaay =>
                rw [if_pos (by rfl)]
                refine wp_store_mid 53 _ _ rfl X1 0 (bkL pa1 os.length ca1 pb1 cb1 good why).toArray rfl rfl BBX1.out.there (by kernel_rfl) (by kernel_rfl) ?_
                refine hK.out _ _ (fun _ => trivial) ?_
                clear hK K
                (try simp only [Act.put, List.setIfInBounds_toArray, List.set_cons_zero, List.set_cons_succ])
                refine wpAnyX_pick (rs := [13]) (by kernel_rfl) (by simp) (AllX.cons (o := ?oi13rbaay) ?ho13rbaay (fun K hK => ?hr13rbaay) (AllX.nil))
                case ho13rbaay => (simp only [List.getElem?_toArray, List.getElem?_cons_succ, List.getElem?_cons_zero]; exact rfl)
                case hr13rbaay =>
                  rw [if_pos (by rfl)]
                  refine wp_store_mid 53 _ _ rfl X2 0 (bkL pa2 os.length ca2 pb2 cb2 good why).toArray rfl rfl (book_boxS BBX2.out (by have := ZZX1.out; have := ZZX2.out; have := SZ1.out; have := SZ2.out; have := SZ3.out; have := SZ4.out; omega) _).there (by kernel_rfl) (by kernel_rfl) ?_
                  refine hK.out _ _ (fun _ => trivial) ?_
                  clear hK K
                  (try simp only [Act.put, List.setIfInBounds_toArray, List.set_cons_zero, List.set_cons_succ])
                  refine wpAnyX_done (by kernel_rfl) ?_ _
                  go_wp2_with fail
                  go_meet
                  refine ⟨X1, X2, rfl, rfl, ?_⟩
                  exact two_books (wa := w1) (wb := w2) (wc := w2) (wd := w3) OO1.out RR1.out OO2.out RR2.out (bstep T3.out T4.out) T4.out BBX1.out BBX2.out B4.out (by have := ZZX1.out; have := ZZX2.out; have := B0.out.size; have := SZ1.out; have := SZ2.out; have := SZ3.out; have := SZ4.out; omega) (by have := ZZX1.out; have := ZZX2.out; have := B0.out.size; have := SZ1.out; have := SZ2.out; have := SZ3.out; have := SZ4.out; omega) (by have := ZZX1.out; have := ZZX2.out; have := B0.out.size; have := SZ1.out; have := SZ2.out; have := SZ3.out; have := SZ4.out; omega) (by have := ZZX1.out; have := ZZX2.out; have := B0.out.size; have := SZ1.out; have := SZ2.out; have := SZ3.out; have := SZ4.out; omega) (by have := ZZX1.out; have := ZZX2.out; have := B0.out.size; have := SZ1.out; have := SZ2.out; have := SZ3.out; have := SZ4.out; omega) (by have := ZZX1.out; have := ZZX2.out; have := B0.out.size; have := SZ1.out; have := SZ2.out; have := SZ3.out; have := SZ4.out; omega) (by have := ZZX1.out; have := ZZX2.out; have := B0.out.size; have := SZ1.out; have := SZ2.out; have := SZ3.out; have := SZ4.out; omega) (by have := ZZX1.out; have := ZZX2.out; have := B0.out.size; have := SZ1.out; have := SZ2.out; have := SZ3.out; have := SZ4.out; omega) (by have := ZZX1.out; have := ZZX2.out; have := B0.out.size; have := SZ1.out; have := SZ2.out; have := SZ3.out; have := SZ4.out; omega) (by have := ZZX1.out; have := ZZX2.out; have := B0.out.size; have := SZ1.out; have := SZ2.out; have := SZ3.out; have := SZ4.out; omega)
          case hr11rbay =>
            go_simp
            obtain ⟨w3, hw⟩ : ∃ q, q = w2.alloc (.cells #[.slice none 0 0, .slice none 0 0, .int .i64 0, .int .i64 0] 53) := ⟨_, rfl⟩
            obtain ⟨X2, hx⟩ : ∃ q, q = w2.heap.size := ⟨_, rfl⟩
            have hb : Below w2.heap.size w2 w3 := by rw [hw]; exact (Below.refl _ _).alloc (Nat.le_refl _) _
            have BBX2 := hide (show BookBox w3 X2 (.slice none 0 0) (.slice none 0 0) 0 0 by rw [hw, hx]; exact book_made _)
            have ZZX2 := hide (show X2 = w2.heap.size ∧ w3.heap.size = w2.heap.size + 1 by rw [hw, hx]; exact ⟨rfl, by simp⟩)
            rw [← hw, ← hx]
            have SZ3 := hide hb.size
            have T3 := hide hb
            clear hw hx
            replace BBX1 := hide (BBX1.out.stays (hb.block _ BBX1.out.lt))
            have B3 := hide (bstep B2.out hb)
            clear hb
            refine hK.out _ _ (fun _ => trivial) ?_
            clear hK K
            (try simp only [Act.put, List.setIfInBounds_toArray, List.set_cons_zero, List.set_cons_succ])
            refine wpAnyX_pick (rs := [9]) (by kernel_rfl) (by simp) (AllX.cons (o := ?oi9rbaby) ?ho9rbaby (fun K hK => ?hr9rbaby) (AllX.nil))
            case ho9rbaby => (simp only [List.getElem?_toArray, List.getElem?_cons_succ, List.getElem?_cons_zero]; exact rfl)
            case hr9rbaby =>
              go_simp
              refine (C23.out _ (bstep HBr3.out B3.out)).mono ?_
              rintro e w4 ⟨pa2, ca2, pb2, cb2, vs2, rfl, oo, rr, hb⟩
              have T4 := hide hb
              have SZ4 := hide hb.size
              have OO2 := hide oo
              have RR2 := hide rr
              clear oo rr
              replace BBX1 := hide (BBX1.out.stays (hb.block _ BBX1.out.lt))
              replace BBX2 := hide (BBX2.out.stays (hb.block _ BBX2.out.lt))
              have B4 := hide (bstep B3.out hb)
              clear hb
              refine hK.out _ _ (fun _ => trivial) ?_
              clear hK K
              (try simp only [Act.put, List.setIfInBounds_toArray, List.set_cons_zero, List.set_cons_succ])
              refine wpAnyX_pick (rs := [12]) (by kernel_rfl) (by simp) (AllX.cons (o := ?oi12rbaby) ?ho12rbaby (fun K hK => ?hr12rbaby) (AllX.nil))
              case ho12rbaby => (simp only [List.getElem?_toArray, List.getElem?_cons_succ, List.getElem?_cons_zero]; exact rfl)
              case hr12rbaby =>
                rw [if_pos (by rfl)]
                refine wp_store_mid 53 _ _ rfl X1 0 (bkL pa1 os.length ca1 pb1 cb1 good why).toArray rfl rfl BBX1.out.there (by kernel_rfl) (by kernel_rfl) ?_
                refine hK.out _ _ (fun _ => trivial) ?_
                clear hK K
                (try simp only [Act.put, List.setIfInBounds_toArray, List.set_cons_zero, List.set_cons_succ])
                refine wpAnyX_pick (rs := [13]) (by kernel_rfl) (by simp) (AllX.cons (o := ?oi13rbaby) ?ho13rbaby (fun K hK => ?hr13rbaby) (AllX.nil))
                case ho13rbaby => (simp only [List.getElem?_toArray, List.getElem?_cons_succ, List.getElem?_cons_zero]; exact rfl)
                case hr13rbaby =>
                  rw [if_pos (by rfl)]
                  refine wp_store_mid 53 _ _ rfl X2 0 (bkL pa2 os.length ca2 pb2 cb2 good why).toArray rfl rfl (book_boxS BBX2.out (by have := ZZX1.out; have := ZZX2.out; have := SZ1.out; have := SZ2.out; have := SZ3.out; have := SZ4.out; omega) _).there (by kernel_rfl) (by kernel_rfl) ?_
                  refine hK.out _ _ (fun _ => trivial) ?_
                  clear hK K
                  (try simp only [Act.put, List.setIfInBounds_toArray, List.set_cons_zero, List.set_cons_succ])
                  refine wpAnyX_done (by kernel_rfl) ?_ _
                  go_wp2_with fail
                  go_meet
                  refine ⟨X1, X2, rfl, rfl, ?_⟩
                  exact two_books (wa := w1) (wb := w2) (wc := w3) (wd := w4) OO1.out RR1.out OO2.out RR2.out (bstep T3.out T4.out) (Below.refl _ _) BBX1.out BBX2.out B4.out (by have := ZZX1.out; have := ZZX2.out; have := B0.out.size; have := SZ1.out; have := SZ2.out; have := SZ3.out; have := SZ4.out; omega) (by have := ZZX1.out; have := ZZX2.out; have := B0.out.size; have := SZ1.out; have := SZ2.out; have := SZ3.out; have := SZ4.out; omega) (by have := ZZX1.out; have := ZZX2.out; have := B0.out.size; have := SZ1.out; have := SZ2.out; have := SZ3.out; have := SZ4.out; omega) (by have := ZZX1.out; have := ZZX2.out; have := B0.out.size; have := SZ1.out; have := SZ2.out; have := SZ3.out; have := SZ4.out; omega) (by have := ZZX1.out; have := ZZX2.out; have := B0.out.size; have := SZ1.out; have := SZ2.out; have := SZ3.out; have := SZ4.out; omega) (by have := ZZX1.out; have := ZZX2.out; have := B0.out.size; have := SZ1.out; have := SZ2.out; have := SZ3.out; have := SZ4.out; omega) (by have := ZZX1.out; have := ZZX2.out; have := B0.out.size; have := SZ1.out; have := SZ2.out; have := SZ3.out; have := SZ4.out; omega) (by have := ZZX1.out; have := ZZX2.out; have := B0.out.size; have := SZ1.out; have := SZ2.out; have := SZ3.out; have := SZ4.out; omega) (by have := ZZX1.out; have := ZZX2.out; have := B0.out.size; have := SZ1.out; have := SZ2.out; have := SZ3.out; have := SZ4.out; omega) (by have := ZZX1.out; have := ZZX2.out; have := B0.out.size; have := SZ1.out; have := SZ2.out; have := SZ3.out; have := SZ4.out; omega)
        case hr11rby =>
          go_simp
          obtain ⟨w2, hw⟩ : ∃ q, q = w1.alloc (.cells #[.slice none 0 0, .slice none 0 0, .int .i64 0, .int .i64 0] 53) := ⟨_, rfl⟩
          obtain ⟨X2, hx⟩ : ∃ q, q = w1.heap.size := ⟨_, rfl⟩
          have hb : Below w1.heap.size w1 w2 := by rw [hw]; exact (Below.refl _ _).alloc (Nat.le_refl _) _
          have BBX2 := hide (show BookBox w2 X2 (.slice none 0 0) (.slice none 0 0) 0 0 by rw [hw, hx]; exact book_made _)
          have ZZX2 := hide (show X2 = w1.heap.size ∧ w2.heap.size = w1.heap.size + 1 by rw [hw, hx]; exact ⟨rfl, by simp⟩)
          rw [← hw, ← hx]
          have SZ2 := hide hb.size
          have T2 := hide hb
          clear hw hx
          replace BBX1 := hide (BBX1.out.stays (hb.block _ BBX1.out.lt))
          have B2 := hide (bstep B1.out hb)
          clear hb
          refine hK.out _ _ (fun _ => trivial) ?_
          clear hK K
          (try simp only [Act.put, List.setIfInBounds_toArray, List.set_cons_zero, List.set_cons_succ])
          refine wpAnyX_pick (rs := [4]) (by kernel_rfl) (by simp) (AllX.cons (o := ?oi4rbby) ?ho4rbby (fun K hK => ?hr4rbby) (AllX.nil))
          case ho4rbby => (simp only [List.getElem?_toArray, List.getElem?_cons_succ, List.getElem?_cons_zero]; exact rfl)
          case hr4rbby =>
            go_simp
            refine (C23.out _ (bstep HBr3.out B2.out)).mono ?_
            rintro e w3 ⟨pa1, ca1, pb1, cb1, vs1, rfl, oo, rr, hb⟩
            have T3 := hide hb
            have SZ3 := hide hb.size
            have OO1 := hide oo
            have RR1 := hide rr
            clear oo rr
            replace BBX1 := hide (BBX1.out.stays (hb.block _ BBX1.out.lt))
            replace BBX2 := hide (BBX2.out.stays (hb.block _ BBX2.out.lt))
            have B3 := hide (bstep B2.out hb)
            clear hb
            refine hK.out _ _ (fun _ => trivial) ?_
            clear hK K
            (try simp only [Act.put, List.setIfInBounds_toArray, List.set_cons_zero, List.set_cons_succ])
            refine wpAnyX_pick (rs := [9]) (by kernel_rfl) (by simp) (AllX.cons (o := ?oi9rbby) ?ho9rbby (fun K hK => ?hr9rbby) (AllX.nil))
            case ho9rbby => (simp only [List.getElem?_toArray, List.getElem?_cons_succ, List.getElem?_cons_zero]; exact rfl)
            case hr9rbby =>
              go_simp
              refine (C23.out _ (bstep HBr3.out B3.out)).mono ?_
              rintro e w4 ⟨pa2, ca2, pb2, cb2, vs2, rfl, oo, rr, hb⟩
              have T4 := hide hb
              have SZ4 := hide hb.size
              have OO2 := hide oo
              have RR2 := hide rr
              clear oo rr
              replace BBX1 := hide (BBX1.out.stays (hb.block _ BBX1.out.lt))
              replace BBX2 := hide (BBX2.out.stays (hb.block _ BBX2.out.lt))
              have B4 := hide (bstep B3.out hb)
              clear hb
              refine hK.out _ _ (fun _ => trivial) ?_
              clear hK K
              (try simp only [Act.put, List.setIfInBounds_toArray, List.set_cons_zero, List.set_cons_succ])
              refine wpAnyX_pick (rs := [12]) (by kernel_rfl) (by simp) (AllX.cons (o := ?oi12rbby) ?ho12rbby (fun K hK => ?hr12rbby) (AllX.nil))
              case ho12rbby => (simp only [List.getElem?_toArray, List.getElem?_cons_succ, List.getElem?_cons_zero]; exact rfl)
              case hr12rbby =>
                rw [if_pos (by rfl)]
                refine wp_store_mid 53 _ _ rfl X1 0 (bkL pa1 os.length ca1 pb1 cb1 good why).toArray rfl rfl BBX1.out.there (by kernel_rfl) (by kernel_rfl) ?_
                refine hK.out _ _ (fun _ => trivial) ?_
                clear hK K
                (try simp only [Act.put, List.setIfInBounds_toArray, List.set_cons_zero, List.set_cons_succ])
                refine wpAnyX_pick (rs := [13]) (by kernel_rfl) (by simp) (AllX.cons (o := ?oi13rbby) ?ho13rbby (fun K hK => ?hr13rbby) (AllX.nil))
                case ho13rbby => (simp only [List.getElem?_toArray, List.getElem?_cons_succ, List.getElem?_cons_zero]; exact rfl)
                case hr13rbby =>
                  rw [if_pos (by rfl)]
                  refine wp_store_mid 53 _ _ rfl X2 0 (bkL pa2 os.length ca2 pb2 cb2 good why).toArray rfl rfl (book_boxS BBX2.out (by have := ZZX1.out; have := ZZX2.out; have := SZ1.out; have := SZ2.out; have := SZ3.out; have := SZ4.out; omega) _).there (by kernel_rfl) (by kernel_rfl) ?_
                  refine hK.out _ _ (fun _ => trivial) ?_
                  clear hK K
                  (try simp only [Act.put, List.setIfInBounds_toArray, List.set_cons_zero, List.set_cons_succ])
                  refine wpAnyX_done (by kernel_rfl) ?_ _
                  go_wp2_with fail
                  go_meet
                  refine ⟨X1, X2, rfl, rfl, ?_⟩
                  exact two_books (wa := w2) (wb := w3) (wc := w3) (wd := w4) OO1.out RR1.out OO2.out RR2.out T4.out (Below.refl _ _) BBX1.out BBX2.out B4.out (by have := ZZX1.out; have := ZZX2.out; have := B0.out.size; have := SZ1.out; have := SZ2.out; have := SZ3.out; have := SZ4.out; omega) (by have := ZZX1.out; have := ZZX2.out; have := B0.out.size; have := SZ1.out; have := SZ2.out; have := SZ3.out; have := SZ4.out; omega) (by have := ZZX1.out; have := ZZX2.out; have := B0.out.size; have := SZ1.out; have := SZ2.out; have := SZ3.out; have := SZ4.out; omega) (by have := ZZX1.out; have := ZZX2.out; have := B0.out.size; have := SZ1.out; have := SZ2.out; have := SZ3.out; have := SZ4.out; omega) (by have := ZZX1.out; have := ZZX2.out; have := B0.out.size; have := SZ1.out; have := SZ2.out; have := SZ3.out; have := SZ4.out; omega) (by have := ZZX1.out; have := ZZX2.out; have := B0.out.size; have := SZ1.out; have := SZ2.out; have := SZ3.out; have := SZ4.out; omega) (by have := ZZX1.out; have := ZZX2.out; have := B0.out.size; have := SZ1.out; have := SZ2.out; have := SZ3.out; have := SZ4.out; omega) (by have := ZZX1.out; have := ZZX2.out; have := B0.out.size; have := SZ1.out; have := SZ2.out; have := SZ3.out; have := SZ4.out; omega) (by have := ZZX1.out; have := ZZX2.out; have := B0.out.size; have := SZ1.out; have := SZ2.out; have := SZ3.out; have := SZ4.out; omega) (by have := ZZX1.out; have := ZZX2.out; have := B0.out.size; have := SZ1.out; have := SZ2.out; have := SZ3.out; have := SZ4.out; omega)
      case hr11ry =>
        go_simp
        obtain ⟨w1, hw⟩ : ∃ q, q = w0.alloc (.cells #[.slice none 0 0, .slice none 0 0, .int .i64 0, .int .i64 0] 53) := ⟨_, rfl⟩
        obtain ⟨X2, hx⟩ : ∃ q, q = w0.heap.size := ⟨_, rfl⟩
        have hb : Below w0.heap.size w0 w1 := by rw [hw]; exact (Below.refl _ _).alloc (Nat.le_refl _) _
        have BBX2 := hide (show BookBox w1 X2 (.slice none 0 0) (.slice none 0 0) 0 0 by rw [hw, hx]; exact book_made _)
        have ZZX2 := hide (show X2 = w0.heap.size ∧ w1.heap.size = w0.heap.size + 1 by rw [hw, hx]; exact ⟨rfl, by simp⟩)
        rw [← hw, ← hx]
        have SZ1 := hide hb.size
        have T1 := hide hb
        clear hw hx
        have B1 := hide (bstep B0.out hb)
        clear hb
        refine hK.out _ _ (fun _ => trivial) ?_
        clear hK K
        (try simp only [Act.put, List.setIfInBounds_toArray, List.set_cons_zero, List.set_cons_succ])
        refine wpAnyX_pick (rs := [4, 10]) (by kernel_rfl) (by simp) (AllX.cons (o := ?oi4rcy) ?ho4rcy (fun K hK => ?hr4rcy) (AllX.cons (o := ?oi10rcy) ?ho10rcy (fun K hK => ?hr10rcy) (AllX.nil)))
        case ho4rcy => (simp only [List.getElem?_toArray, List.getElem?_cons_succ, List.getElem?_cons_zero]; exact rfl)
        case ho10rcy => (simp only [List.getElem?_toArray, List.getElem?_cons_succ, List.getElem?_cons_zero]; exact rfl)
        case hr4rcy =>
          go_simp
          refine (C23.out _ (bstep HBr3.out B1.out)).mono ?_
          rintro e w2 ⟨pa1, ca1, pb1, cb1, vs1, rfl, oo, rr, hb⟩
          have T2 := hide hb
          have SZ2 := hide hb.size
          have OO1 := hide oo
          have RR1 := hide rr
          clear oo rr
          replace BBX2 := hide (BBX2.out.stays (hb.block _ BBX2.out.lt))
          have B2 := hide (bstep B1.out hb)
          clear hb
          refine hK.out _ _ (fun _ => trivial) ?_
          clear hK K
          (try simp only [Act.put, List.setIfInBounds_toArray, List.set_cons_zero, List.set_cons_succ])
          refine wpAnyX_pick (rs := [9, 10]) (by kernel_rfl) (by simp) (AllX.cons (o := ?oi9rcay) ?ho9rcay (fun K hK => ?hr9rcay) (AllX.cons (o := ?oi10rcay) ?ho10rcay (fun K hK => ?hr10rcay) (AllX.nil)))
          case ho9rcay => (simp only [List.getElem?_toArray, List.getElem?_cons_succ, List.getElem?_cons_zero]; exact rfl)
          case ho10rcay => (simp only [List.getElem?_toArray, List.getElem?_cons_succ, List.getElem?_cons_zero]; exact rfl)
          case hr9rcay =>
            go_simp
            refine (C23.out _ (bstep HBr3.out B2.out)).mono ?_
            rintro e w3 ⟨pa2, ca2, pb2, cb2, vs2, rfl, oo, rr, hb⟩
            have T3 := hide hb
            have SZ3 := hide hb.size
            have OO2 := hide oo
            have RR2 := hide rr
            clear oo rr
            replace BBX2 := hide (BBX2.out.stays (hb.block _ BBX2.out.lt))
            have B3 := hide (bstep B2.out hb)
            clear hb
            refine hK.out _ _ (fun _ => trivial) ?_
            clear hK K
            (try simp only [Act.put, List.setIfInBounds_toArray, List.set_cons_zero, List.set_cons_succ])
            refine wpAnyX_pick (rs := [10]) (by kernel_rfl) (by simp) (AllX.cons (o := ?oi10rcaay) ?ho10rcaay (fun K hK => ?hr10rcaay) (AllX.nil))
            case ho10rcaay => (simp only [List.getElem?_toArray, List.getElem?_cons_succ, List.getElem?_cons_zero]; exact rfl)
            case hr10rcaay =>
              go_simp
              obtain ⟨w4, hw⟩ : ∃ q, q = w3.alloc (.cells #[.slice none 0 0, .slice none 0 0, .int .i64 0, .int .i64 0] 53) := ⟨_, rfl⟩
              obtain ⟨X1, hx⟩ : ∃ q, q = w3.heap.size := ⟨_, rfl⟩
              have hb : Below w3.heap.size w3 w4 := by rw [hw]; exact (Below.refl _ _).alloc (Nat.le_refl _) _
              have BBX1 := hide (show BookBox w4 X1 (.slice none 0 0) (.slice none 0 0) 0 0 by rw [hw, hx]; exact book_made _)
              have ZZX1 := hide (show X1 = w3.heap.size ∧ w4.heap.size = w3.heap.size + 1 by rw [hw, hx]; exact ⟨rfl, by simp⟩)
              rw [← hw, ← hx]
              have SZ4 := hide hb.size
              have T4 := hide hb
              clear hw hx
              replace BBX2 := hide (BBX2.out.stays (hb.block _ BBX2.out.lt))
              have B4 := hide (bstep B3.out hb)
              clear hb
              refine hK.out _ _ (fun _ => trivial) ?_
              clear hK K
              (try simp only [Act.put, List.setIfInBounds_toArray, List.set_cons_zero, List.set_cons_succ])
              refine wpAnyX_pick (rs := [12]) (by kernel_rfl) (by simp) (AllX.cons (o := ?oi12rcaay) ?ho12rcaay (fun K hK => ?hr12rcaay) (AllX.nil))
              case ho12rcaay => (simp only [List.getElem?_toArray, List.getElem?_cons_succ, List.getElem?_cons_zero]; exact rfl)
              case hr12rcaay =>
                rw [if_pos (by rfl)]
                refine wp_store_mid 53 _ _ rfl X1 0 (bkL pa1 os.length ca1 pb1 cb1 good why).toArray rfl rfl BBX1.out.there (by kernel_rfl) (by kernel_rfl) ?_
                refine hK.out _ _ (fun _ => trivial) ?_
                clear hK K
                (try simp only [Act.put, List.setIfInBounds_toArray, List.set_cons_zero, List.set_cons_succ])
                refine wpAnyX_pick (rs := [13]) (by kernel_rfl) (by simp) (AllX.cons (o := ?oi13rcaay) ?ho13rcaay (fun K hK => ?hr13rcaay) (AllX.nil))
                case ho13rcaay => (simp only [List.getElem?_toArray, List.getElem?_cons_succ, List.getElem?_cons_zero]; exact rfl)
                case hr13rcaay =>
                  rw [if_pos (by rfl)]
                  refine wp_store_mid 53 _ _ rfl X2 0 (bkL pa2 os.length ca2 pb2 cb2 good why).toArray rfl rfl (book_boxS BBX2.out (by have := ZZX1.out; have := ZZX2.out; have := SZ1.out; have := SZ2.out; have := SZ3.out; have := SZ4.out; omega) _).there (by kernel_rfl) (by kernel_rfl) ?_
                  refine hK.out _ _ (fun _ => trivial) ?_
                  clear hK K
                  (try simp only [Act.put, List.setIfInBounds_toArray, List.set_cons_zero, List.set_cons_succ])
                  refine wpAnyX_done (by kernel_rfl) ?_ _
                  go_wp2_with fail
                  go_meet
                  refine ⟨X1, X2, rfl, rfl, ?_⟩
                  exact two_books (wa := w1) (wb := w2) (wc := w2) (wd := w3) OO1.out RR1.out OO2.out RR2.out (bstep T3.out T4.out) T4.out BBX1.out BBX2.out B4.out (by have := ZZX1.out; have := ZZX2.out; have := B0.out.size; have := SZ1.out; have := SZ2.out; have := SZ3.out; have := SZ4.out; omega) (by have := ZZX1.out; have := ZZX2.out; have := B0.out.size; have := SZ1.out; have := SZ2.out; have := SZ3.out; have := SZ4.out; omega) (by have := ZZX1.out; have := ZZX2.out; have := B0.out.size; have := SZ1.out; have := SZ2.out; have := SZ3.out; have := SZ4.out; omega) (by have := ZZX1.out; have := ZZX2.out; have := B0.out.size; have := SZ1.out; have := SZ2.out; have := SZ3.out; have := SZ4.out; omega) (by have := ZZX1.out; have := ZZX2.out; have := B0.out.size; have := SZ1.out; have := SZ2.out; have := SZ3.out; have := SZ4.out; omega) (by have := ZZX1.out; have := ZZX2.out; have := B0.out.size; have := SZ1.out; have := SZ2.out; have := SZ3.out; have := SZ4.out; omega) (by have := ZZX1.out; have := ZZX2.out; have := B0.out.size; have := SZ1.out; have := SZ2.out; have := SZ3.out; have := SZ4.out; omega) (by have := ZZX1.out; have := ZZX2.out; have := B0.out.size; have := SZ1.out; have := SZ2.out; have := SZ3.out; have := SZ4.out; omega) (by have := ZZX1.out; have := ZZX2.out; have := B0.out.size; have := SZ1.out; have := SZ2.out; have := SZ3.out; have := SZ4.out; omega) (by have := ZZX1.out; have := ZZX2.out; have := B0.out.size; have := SZ1.out; have := SZ2.out; have := SZ3.out; have := SZ4.out; omega)
          case hr10rcay =>
            go_simp
            obtain ⟨w3, hw⟩ : ∃ q, q = w2.alloc (.cells #[.slice none 0 0, .slice none 0 0, .int .i64 0, .int .i64 0] 53) := ⟨_, rfl⟩
            obtain ⟨X1, hx⟩ : ∃ q, q = w2.heap.size := ⟨_, rfl⟩
            have hb : Below w2.heap.size w2 w3 := by rw [hw]; exact (Below.refl _ _).alloc (Nat.le_refl _) _
            have BBX1 := hide (show BookBox w3 X1 (.slice none 0 0) (.slice none 0 0) 0 0 by rw [hw, hx]; exact book_made _)
            have ZZX1 := hide (show X1 = w2.heap.size ∧ w3.heap.size = w2.heap.size + 1 by rw [hw, hx]; exact ⟨rfl, by simp⟩)
            rw [← hw, ← hx]
            have SZ3 := hide hb.size
            have T3 := hide hb
            clear hw hx
            replace BBX2 := hide (BBX2.out.stays (hb.block _ BBX2.out.lt))
            have B3 := hide (bstep B2.out hb)
            clear hb
            refine hK.out _ _ (fun _ => trivial) ?_
            clear hK K
            (try simp only [Act.put, List.setIfInBounds_toArray, List.set_cons_zero, List.set_cons_succ])
            refine wpAnyX_pick (rs := [9]) (by kernel_rfl) (by simp) (AllX.cons (o := ?oi9rcaby) ?ho9rcaby (fun K hK => ?hr9rcaby) (AllX.nil))
            case ho9rcaby => (simp only [List.getElem?_toArray, List.getElem?_cons_succ, List.getElem?_cons_zero]; exact rfl)
            case hr9rcaby =>
              go_simp
              refine (C23.out _ (bstep HBr3.out B3.out)).mono ?_
              rintro e w4 ⟨pa2, ca2, pb2, cb2, vs2, rfl, oo, rr, hb⟩
              have T4 := hide hb
              have SZ4 := hide hb.size
              have OO2 := hide oo
              have RR2 := hide rr
              clear oo rr
              replace BBX2 := hide (BBX2.out.stays (hb.block _ BBX2.out.lt))
              replace BBX1 := hide (BBX1.out.stays (hb.block _ BBX1.out.lt))
              have B4 := hide (bstep B3.out hb)
              clear hb
              refine hK.out _ _ (fun _ => trivial) ?_
              clear hK K
              (try simp only [Act.put, List.setIfInBounds_toArray, List.set_cons_zero, List.set_cons_succ])
              refine wpAnyX_pick (rs := [12]) (by kernel_rfl) (by simp) (AllX.cons (o := ?oi12rcaby) ?ho12rcaby (fun K hK => ?hr12rcaby) (AllX.nil))
              case ho12rcaby => (simp only [List.getElem?_toArray, List.getElem?_cons_succ, List.getElem?_cons_zero]; exact rfl)
              case hr12rcaby =>
                rw [if_pos (by rfl)]
                refine wp_store_mid 53 _ _ rfl X1 0 (bkL pa1 os.length ca1 pb1 cb1 good why).toArray rfl rfl BBX1.out.there (by kernel_rfl) (by kernel_rfl) ?_
                refine hK.out _ _ (fun _ => trivial) ?_
                clear hK K
                (try simp only [Act.put, List.setIfInBounds_toArray, List.set_cons_zero, List.set_cons_succ])
                refine wpAnyX_pick (rs := [13]) (by kernel_rfl) (by simp) (AllX.cons (o := ?oi13rcaby) ?ho13rcaby (fun K hK => ?hr13rcaby) (AllX.nil))
                case ho13rcaby => (simp only [List.getElem?_toArray, List.getElem?_cons_succ, List.getElem?_cons_zero]; exact rfl)
                case hr13rcaby =>
                  rw [if_pos (by rfl)]
                  refine wp_store_mid 53 _ _ rfl X2 0 (bkL pa2 os.length ca2 pb2 cb2 good why).toArray rfl rfl (book_boxS BBX2.out (by have := ZZX1.out; have := ZZX2.out; have := SZ1.out; have := SZ2.out; have := SZ3.out; have := SZ4.out; omega) _).there (by kernel_rfl) (by kernel_rfl) ?_
                  refine hK.out _ _ (fun _ => trivial) ?_
                  clear hK K
                  (try simp only [Act.put, List.setIfInBounds_toArray, List.set_cons_zero, List.set_cons_succ])
                  refine wpAnyX_done (by kernel_rfl) ?_ _
                  go_wp2_with fail
                  go_meet
                  refine ⟨X1, X2, rfl, rfl, ?_⟩
                  exact two_books (wa := w1) (wb := w2) (wc := w3) (wd := w4) OO1.out RR1.out OO2.out RR2.out (bstep T3.out T4.out) (Below.refl _ _) BBX1.out BBX2.out B4.out (by have := ZZX1.out; have := ZZX2.out; have := B0.out.size; have := SZ1.out; have := SZ2.out; have := SZ3.out; have := SZ4.out; omega) (by have := ZZX1.out; have := ZZX2.out; have := B0.out.size; have := SZ1.out; have := SZ2.out; have := SZ3.out; have := SZ4.out; omega) (by have := ZZX1.out; have := ZZX2.out; have := B0.out.size; have := SZ1.out; have := SZ2.out; have := SZ3.out; have := SZ4.out; omega) (by have := ZZX1.out; have := ZZX2.out; have := B0.out.size; have := SZ1.out; have := SZ2.out; have := SZ3.out; have := SZ4.out; omega) (by have := ZZX1.out; have := ZZX2.out; have := B0.out.size; have := SZ1.out; have := SZ2.out; have := SZ3.out; have := SZ4.out; omega) (by have := ZZX1.out; have := ZZX2.out; have := B0.out.size; have := SZ1.out; have := SZ2.out; have := SZ3.out; have := SZ4.out; omega) (by have := ZZX1.out; have := ZZX2.out; have := B0.out.size; have := SZ1.out; have := SZ2.out; have := SZ3.out; have := SZ4.out; omega) (by have := ZZX1.out; have := ZZX2.out; have := B0.out.size; have := SZ1.out; have := SZ2.out; have := SZ3.out; have := SZ4.out; omega) (by have := ZZX1.out; have := ZZX2.out; have := B0.out.size; have := SZ1.out; have := SZ2.out; have := SZ3.out; have := SZ4.out; omega) (by have := ZZX1.out; have := ZZX2.out; have := B0.out.size; have := SZ1.out; have := SZ2.out; have := SZ3.out; have := SZ4.out; omega)
        case hr10rcy =>
          go_simp
          obtain ⟨w2, hw⟩ : ∃ q, q = w1.alloc (.cells #[.slice none 0 0, .slice none 0 0, .int .i64 0, .int .i64 0] 53) := ⟨_, rfl⟩
          obtain ⟨X1, hx⟩ : ∃ q, q = w1.heap.size := ⟨_, rfl⟩
          have hb : Below w1.heap.size w1 w2 := by rw [hw]; exact (Below.refl _ _).alloc (Nat.le_refl _) _
          have BBX1 := hide (show BookBox w2 X1 (.slice none 0 0) (.slice none 0 0) 0 0 by rw [hw, hx]; exact book_made _)
          have ZZX1 := hide (show X1 = w1.heap.size ∧ w2.heap.size = w1.heap.size + 1 by rw [hw, hx]; exact ⟨rfl, by simp⟩)
          rw [← hw, ← hx]
          have SZ2 := hide hb.size
          have T2 := hide hb
          clear hw hx
          replace BBX2 := hide (BBX2.out.stays (hb.block _ BBX2.out.lt))
          have B2 := hide (bstep B1.out hb)
          clear hb
          refine hK.out _ _ (fun _ => trivial) ?_
          clear hK K
          (try simp only [Act.put, List.setIfInBounds_toArray, List.set_cons_zero, List.set_cons_succ])
          refine wpAnyX_pick (rs := [4]) (by kernel_rfl) (by simp) (AllX.cons (o := ?oi4rcby) ?ho4rcby (fun K hK => ?hr4rcby) (AllX.nil))
          case ho4rcby => (simp only [List.getElem?_toArray, List.getElem?_cons_succ, List.getElem?_cons_zero]; exact rfl)
          case hr4rcby =>
            go_simp
            refine (C23.out _ (bstep HBr3.out B2.out)).mono ?_
            rintro e w3 ⟨pa1, ca1, pb1, cb1, vs1, rfl, oo, rr, hb⟩
            have T3 := hide hb
            have SZ3 := hide hb.size
            have OO1 := hide oo
            have RR1 := hide rr
            clear oo rr
            replace BBX2 := hide (BBX2.out.stays (hb.block _ BBX2.out.lt))
            replace BBX1 := hide (BBX1.out.stays (hb.block _ BBX1.out.lt))
            have B3 := hide (bstep B2.out hb)
            clear hb
            refine hK.out _ _ (fun _ => trivial) ?_
            clear hK K
            (try simp only [Act.put, List.setIfInBounds_toArray, List.set_cons_zero, List.set_cons_succ])
            refine wpAnyX_pick (rs := [9]) (by kernel_rfl) (by simp) (AllX.cons (o := ?oi9rcby) ?ho9rcby (fun K hK => ?hr9rcby) (AllX.nil))
            case ho9rcby => (simp only [List.getElem?_toArray, List.getElem?_cons_succ, List.getElem?_cons_zero]; exact rfl)
            case hr9rcby =>
              go_simp
              refine (C23.out _ (bstep HBr3.out B3.out)).mono ?_
              rintro e w4 ⟨pa2, ca2, pb2, cb2, vs2, rfl, oo, rr, hb⟩
              have T4 := hide hb
              have SZ4 := hide hb.size
              have OO2 := hide oo
              have RR2 := hide rr
              clear oo rr
              replace BBX2 := hide (BBX2.out.stays (hb.block _ BBX2.out.lt))
              replace BBX1 := hide (BBX1.out.stays (hb.block _ BBX1.out.lt))
              have B4 := hide (bstep B3.out hb)
              clear hb
              refine hK.out _ _ (fun _ => trivial) ?_
              clear hK K
              (try simp only [Act.put, List.setIfInBounds_toArray, List.set_cons_zero, List.set_cons_succ])
              refine wpAnyX_pick (rs := [12]) (by kernel_rfl) (by simp) (AllX.cons (o := ?oi12rcby) ?ho12rcby (fun K hK => ?hr12rcby) (AllX.nil))
              case ho12rcby => (simp only [List.getElem?_toArray, List.getElem?_cons_succ, List.getElem?_cons_zero]; exact rfl)
              case hr12rcby =>
                rw [if_pos (by rfl)]
                refine wp_store_mid 53 _ _ rfl X1 0 (bkL pa1 os.length ca1 pb1 cb1 good why).toArray rfl rfl BBX1.out.there (by kernel_rfl) (by kernel_rfl) ?_
                refine hK.out _ _ (fun _ => trivial) ?_
                clear hK K
                (try simp only [Act.put, List.setIfInBounds_toArray, List.set_cons_zero, List.set_cons_succ])
                refine wpAnyX_pick (rs := [13]) (by kernel_rfl) (by simp) (AllX.cons (o := ?oi13rcby) ?ho13rcby (fun K hK => ?hr13rcby) (AllX.nil))
                case ho13rcby => (simp only [List.getElem?_toArray, List.getElem?_cons_succ, List.getElem?_cons_zero]; exact rfl)
                case hr13rcby =>
                  rw [if_pos (by rfl)]
                  refine wp_store_mid 53 _ _ rfl X2 0 (bkL pa2 os.length ca2 pb2 cb2 good why).toArray rfl rfl (book_boxS BBX2.out (by have := ZZX1.out; have := ZZX2.out; have := SZ1.out; have := SZ2.out; have := SZ3.out; have := SZ4.out; omega) _).there (by kernel_rfl) (by kernel_rfl) ?_
                  refine hK.out _ _ (fun _ => trivial) ?_
                  clear hK K
                  (try simp only [Act.put, List.setIfInBounds_toArray, List.set_cons_zero, List.set_cons_succ])
                  refine wpAnyX_done (by kernel_rfl) ?_ _
                  go_wp2_with fail
                  go_meet
                  refine ⟨X1, X2, rfl, rfl, ?_⟩
                  exact two_books (wa := w2) (wb := w3) (wc := w3) (wd := w4) OO1.out RR1.out OO2.out RR2.out T4.out (Below.refl _ _) BBX1.out BBX2.out B4.out (by have := ZZX1.out; have := ZZX2.out; have := B0.out.size; have := SZ1.out; have := SZ2.out; have := SZ3.out; have := SZ4.out; omega) (by have := ZZX1.out; have := ZZX2.out; have := B0.out.size; have := SZ1.out; have := SZ2.out; have := SZ3.out; have := SZ4.out; omega) (by have := ZZX1.out; have := ZZX2.out; have := B0.out.size; have := SZ1.out; have := SZ2.out; have := SZ3.out; have := SZ4.out; omega) (by have := ZZX1.out; have := ZZX2.out; have := B0.out.size; have := SZ1.out; have := SZ2.out; have := SZ3.out; have := SZ4.out; omega) (by have := ZZX1.out; have := ZZX2.out; have := B0.out.size; have := SZ1.out; have := SZ2.out; have := SZ3.out; have := SZ4.out; omega) (by have := ZZX1.out; have := ZZX2.out; have := B0.out.size; have := SZ1.out; have := SZ2.out; have := SZ3.out; have := SZ4.out; omega) (by have := ZZX1.out; have := ZZX2.out; have := B0.out.size; have := SZ1.out; have := SZ2.out; have := SZ3.out; have := SZ4.out; omega) (by have := ZZX1.out; have := ZZX2.out; have := B0.out.size; have := SZ1.out; have := SZ2.out; have := SZ3.out; have := SZ4.out; omega) (by have := ZZX1.out; have := ZZX2.out; have := B0.out.size; have := SZ1.out; have := SZ2.out; have := SZ3.out; have := SZ4.out; omega) (by have := ZZX1.out; have := ZZX2.out; have := B0.out.size; have := SZ1.out; have := SZ2.out; have := SZ3.out; have := SZ4.out; omega)
    case rest =>
      obtain ⟨X1, X2, rfl, rfl, p1, c1, p2, c2, vs1, q1, d1, q2, d2, vs2, a, b, d, t1, t2, t3, t4, t5, t6, t7, t15, bx1, bx2, o1, r1, o2, r2, l1, l2, l3, hb7⟩ := hcut
      have AB := hide (show W3.heap.size ≤ a ∧ a ≤ b ∧ b ≤ d ∧ (X1 < a ∨ b ≤ X1) ∧ (X2 < a ∨ b ≤ X2) ∧ W3.heap.size ≤ X1 ∧ W3.heap.size ≤ X2 from ⟨t1, t2, t3, t4, t5, t6, t7⟩)
      have BB1 := hide bx1
      have BB2 := hide bx2
      have O1 := hide o1
      have R1 := hide r1
      have O2 := hide o2
      have R2 := hide r2
      have LL := hide (And.intro l1 (And.intro l2 l3))
      have T7 := hide hb7
      have D7 := hide t15
      have HBr7 := hide (bstep HBr3.out hb7)
      have LEN := hide (show 6 * os.length ≤ good ∧ os.length ≤ 1099511627776 ∧ good ≤ ns.length ∧ os.length ≤ 1000000 from ⟨SG.out.n, by have := SG.out.n; have := SG.out.l; have := L8.out; simp only at *; omega, SG.out.l, by have := SG.out.n; have := SG.out.l; have := L8.out; simp only at *; omega⟩)
      have GD := hide (show ∀ x ∈ os, OrdR x ∧ x.offs.length ≤ 64 from fun x hx => ⟨(SG.out.o x hx).2, chk_offs (SG.out.o x hx).1⟩)
      clear t1 t2 t3 t4 t5 t6 t7 t15 bx1 bx2 o1 r1 o2 r2 l1 l2 l3 hb7 SG
      go_upto_region 9 with (first
        | (go_at_call 24; (apply Calls.mono; focus (exact C24.out _ HBr7.out)); rintro e wa8 ⟨s1, e1, s2, e2, vs3, rfl, oo, rr, hba⟩; have OA8 := hide oo; have RA8 := hide rr; have HA8 := hide hba; clear oo rr hba)
        | (refine wpList_store_mid rfl 53 _ _ rfl wa8.heap.size 0 (bkL s1 os.length e1 s2 e2 good why).toArray rfl ?_ ?_ ?_ ?_ ?_; exact rfl; exact (book_made wa8).there; kernel_rfl; kernel_rfl))
      obtain ⟨X3, hX3⟩ : ∃ X, X = wa8.heap.size := ⟨_, rfl⟩
      obtain ⟨W8, hW8⟩ : ∃ W, W = (wa8.alloc (.cells #[.slice none 0 0, .slice none 0 0, .int .i64 0, .int .i64 0] 53)).setCells wa8.heap.size 0 (bkL s1 os.length e1 s2 e2 good why) := ⟨_, rfl⟩
      have hb8 : Below wa8.heap.size wa8 W8 := by rw [hW8]; exact below_sets (Nat.le_refl _) _ _ _ ((Below.refl _ _).alloc (Nat.le_refl _) _)
      have BB3 := hide (show BookBox W8 X3 (.slice s1 os.length e1) (.slice s2 os.length e2) good why by rw [hW8, hX3]; exact (book_made wa8).sets _ _ _ _)
      rw [show (wa8.alloc (.cells #[.slice none 0 0, .slice none 0 0, .int .i64 0, .int .i64 0] 53)).setCells wa8.heap.size 0 (bkL s1 os.length e1 s2 e2 good why).toArray.toList = W8 from hW8.symm, ← hX3]
      have O3 := hide (OA8.out.below hb8)
      have R3 := hide (own_below RA8.out hb8)
      have LX3 := hide (show wc.heap.size ≤ X3 by rw [hX3]; exact HA8.out.size)
      have T8 := hide (bstep HA8.out hb8)
      have HBr8 := hide (bstep HBr7.out T8.out)
      clear OA8 RA8 HA8 hX3 hW8 hb8
      go_upto_region 10 with (go_at_call 25; (apply Calls.mono; focus (exact C25.out _ HBr8.out)); rintro e W9 ⟨kb, KB, kv, kp, kvs, rfl, hk1, hk2, ks, hb⟩; have KS := hide ks; have LK := hide (And.intro hk1 hk2); have T9 := hide hb; have HBr9 := hide (bstep HBr8.out hb); clear hk1 hk2 ks hb)
      go_upto_region 11 with (go_at_call 26; (apply Calls.mono; focus (exact C26.out _ HBr9.out)); rintro e W10 ⟨XA, av, ap, avs, rfl, hx, bxa, oa, ra, hb⟩; have LA := hide hx; have BBA := hide bxa; have OA := hide oa; have RA := hide ra; have T10 := hide hb; have HBr10 := hide (bstep HBr9.out hb); clear hx bxa oa ra hb)
      have T710 := hide (bstep T8.out (bstep T9.out T10.out))
      have T310 := hide (bstep T7.out T710.out)
      have T210 := hide (bstep T3.out T310.out)
      have T110 := hide (bstep T2.out T210.out)
      have F6 := hide (fun (wq : World) (h : Below W10.heap.size W10 wq) => own_below O6.out (bstep T110.out h))
      have F8 := hide (fun (wq : World) (h : Below W10.heap.size W10 wq) => own_below O8.out (bstep T210.out h))
      have F10 := hide (fun (wq : World) (h : Below W10.heap.size W10 wq) => own_below O10.out (bstep T310.out h))
      have G6 := hide (fun (wq : World) (h : Below W10.heap.size W10 wq) => BX6.out.below (bstep T110.out h))
      have G8 := hide (fun (wq : World) (h : Below W10.heap.size W10 wq) => BX8.out.below (bstep T210.out h))
      have G10 := hide (fun (wq : World) (h : Below W10.heap.size W10 wq) => BX10.out.below (bstep T310.out h))
      have FO1 := hide (fun (wq : World) (h : Below W10.heap.size W10 wq) => O1.out.below (bstep T710.out h))
      have FO2 := hide (fun (wq : World) (h : Below W10.heap.size W10 wq) => O2.out.below (bstep T710.out h))
      have FO3 := hide (fun (wq : World) (h : Below W10.heap.size W10 wq) => O3.out.below (bstep T9.out (bstep T10.out h)))
      have FR1 := hide (fun (wq : World) (h : Below W10.heap.size W10 wq) => own_below R1.out (bstep T710.out h))
      have FR2 := hide (fun (wq : World) (h : Below W10.heap.size W10 wq) => own_below R2.out (bstep T710.out h))
      have FR3 := hide (fun (wq : World) (h : Below W10.heap.size W10 wq) => own_below R3.out (bstep T9.out (bstep T10.out h)))
      have FB1 := hide (fun (wq : World) (h : Below W10.heap.size W10 wq) => BB1.out.stays ((bstep T710.out h).block _ BB1.out.lt))
      have FB2 := hide (fun (wq : World) (h : Below W10.heap.size W10 wq) => BB2.out.stays ((bstep T710.out h).block _ BB2.out.lt))
      have FB3 := hide (fun (wq : World) (h : Below W10.heap.size W10 wq) => BB3.out.stays ((bstep T9.out (bstep T10.out h)).block _ BB3.out.lt))
      have FK := hide (fun (wq : World) (h : Below W10.heap.size W10 wq) => KS.out.below (bstep T10.out h))
      have T7a := hide (show b ≤ W10.heap.size from by have := T710.out.size; have := D7.out; omega)
      have SZ := hide (show w.heap.size ≤ W0.heap.size ∧ W0.heap.size ≤ X6 ∧ X6 < W1.heap.size ∧ W1.heap.size ≤ X8 ∧ X8 < W2.heap.size ∧ W2.heap.size ≤ X10 ∧ X10 < W3.heap.size ∧ W3.heap.size ≤ wc.heap.size ∧ wc.heap.size ≤ X3 ∧ X3 < W8.heap.size ∧ W8.heap.size ≤ kb ∧ W8.heap.size ≤ KB ∧ W8.heap.size ≤ W9.heap.size ∧ W9.heap.size ≤ XA ∧ X1 < wc.heap.size ∧ X2 < wc.heap.size from ⟨HB0.out.size, LX6.out.1, BX6.out.lt, LX8.out.1, BX8.out.lt, LX10.out.1, BX10.out.lt, T7.out.size, LX3.out, BB3.out.lt, LK.out.1, LK.out.2, T9.out.size, LA.out, BB1.out.lt, BB2.out.lt⟩)
      clear O6 O8 O10 BX6 BX8 BX10 O1 O2 O3 R1 R2 R3 BB1 BB2 BB3 KS T1 T2 T3 T7 T8 T9 T10 T110 T210 T310 T710 S1 S2 S3 HBr0 HBr1 HBr2 HBr3 HBr7 HBr8 HBr9 LX3 LK LA
      have SK := hide (fun (wq : World) (h : Below W10.heap.size W10 wq) => (show wq.rangeAt X6 0 (ordCells o (.slice p6 o.offs.length c6)) ∧ wq.rangeAt X10 0 (ordCells o (.slice p10 o.offs.length c10)) ∧ wq.rangeAt X1 0 (bkL p1 os.length c1 p2 c2 good why) ∧ wq.rangeAt X3 0 (bkL s1 os.length e1 s2 e2 good why) ∧ Sem.run Try.prog (convert 30 9 (.slice (some ⟨gy, 0, none⟩) ns.length cy)) wq = .ok (.string (bstr ns)) wq ∧ Sem.run Try.prog (convert 30 9 (.slice pq ns.length cq)) wq = .ok (.string (bstr ns)) wq ∧ wq.cell? ⟨gy, ns.length, none⟩ = some (.int .u8 165) ∧ wq.cell? ⟨X3, 2, none⟩ = some (.int .i64 (good : Int)) ∧ wq.cell? ⟨X3, 3, none⟩ = some (.int .i64 why) from ⟨(G6.out _ h).range, (G10.out _ h).range, (FB1.out _ h).range, (FB3.out _ h).range, conv_row8 (RY8.out _ (bstep HBr10.out h)), conv_row8 (R8.out _ (bstep HB0.out (bstep HBr10.out h))), row_last (own_below HY.out (bstep HBr10.out h)), (FB3.out _ h).c 2 (by decide), (FB3.out _ h).c 3 (by decide)⟩))
      have D21 := hide (fun (wq : World) (h : Below W10.heap.size W10 wq) => (show Calls Try.prog 21 #[.agg (ordCells o (.slice p6 o.offs.length c6)).toArray, .agg (ordCells o (.slice p10 o.offs.length c10)).toArray] wq (fun e w' => e = .returned (.bool true) ∧ Below wq.heap.size wq w') from by
        have q := Same_c o o (.slice p6 o.offs.length c6) (.slice p10 o.offs.length c10) wq (OffsIn.of_own (F6.out _ h) GO.out.2 (by have := GO.out.1; omega)) (OffsIn.of_own (F10.out _ h) GO.out.2 (by have := GO.out.1; omega))
        rw [sameO_refl] at q
        exact q))
      have D27 := hide (fun (wq : World) (h : Below W10.heap.size W10 wq) => (show Calls Try.prog 27 #[.agg (bkL p1 os.length c1 p2 c2 good why).toArray, .agg (bkL s1 os.length e1 s2 e2 good why).toArray] wq (fun e w' => e = .returned (.bool true) ∧ Below wq.heap.size wq w') from
        SameBooked_ok (OrdsIn.of_own (FO1.out _ h) GD.out LEN.out.2.1) (OrdsIn.of_own (FO3.out _ h) GD.out LEN.out.2.1) (by rw [← HOP.out]; exact FR1.out _ h) (by rw [← HOP.out]; exact FR3.out _ h) (by rw [← HOP.out]; exact LEN.out.2.1)))
      have Q55 := eql55 ⟨kb, 0, none⟩
      clear C20 C22 C23 C24 C25 C26
      go_upto_region 11 with fail
      refine wp_regionX (fun wq => wq.rangeAt X6 0 (ordCells o (.slice p6 o.offs.length c6)) ∧ wq.rangeAt X10 0 (ordCells o (.slice p10 o.offs.length c10)) ∧ wq.rangeAt X1 0 (bkL p1 os.length c1 p2 c2 good why) ∧ wq.rangeAt X3 0 (bkL s1 os.length e1 s2 e2 good why) ∧ Sem.run Try.prog (convert 30 9 (.slice (some ⟨gy, 0, none⟩) ns.length cy)) wq = .ok (.string (bstr ns)) wq ∧ Sem.run Try.prog (convert 30 9 (.slice pq ns.length cq)) wq = .ok (.string (bstr ns)) wq ∧ wq.cell? ⟨gy, ns.length, none⟩ = some (.int .u8 165) ∧ wq.cell? ⟨X3, 2, none⟩ = some (.int .i64 (good : Int)) ∧ wq.cell? ⟨X3, 3, none⟩ = some (.int .i64 why)) (fun n => true) (by kernel_rfl) (SK.out _ (drewB _)) (fun hH0 => ?_)
      have B0 := hide (drewB W10)
      obtain ⟨wd, hwd⟩ : ∃ q, q = W10.drew := ⟨_, rfl⟩
      rw [← hwd] at B0 hH0
      rw [← hwd]
      clear hwd
      refine wpAnyX_take (i := 0) (oi := ?oi0) (v := ?v0) ?ho0 (by kernel_rfl) (by kernel_rfl) (by kernel_rfl) (by kernel_rfl) ?hp0 ?hy0 hH0 ?hr0
      case ho0 => (simp only [List.getElem?_toArray, List.getElem?_cons_succ, List.getElem?_cons_zero]; exact rfl)
      case hp0 => exact fun _ _ _ h => h
      case hy0 =>
        refine yieldsIf_load_mid ?_ 29 (.tmp 6) ?_ X6 0 ?_ (ordCells o (.slice p6 o.offs.length c6)) _ ?_ Try.underlying29 ?_ ?_
        · rfl
        · exact rfl
        · exact rfl
        · exact (fun _ h => h.1)
        · rfl
        · rw [ordCells_len]; kernel_rfl
      case hr0 =>
      (try simp only [Act.put, List.setIfInBounds_toArray, List.set_cons_zero, List.set_cons_succ])
      refine wpAnyX_take (i := 1) (oi := ?oi1) (v := ?v1) ?ho1 (by kernel_rfl) (by kernel_rfl) (by kernel_rfl) (by kernel_rfl) ?hp1 ?hy1 hH0 ?hr1
      case ho1 => (simp only [List.getElem?_toArray, List.getElem?_cons_succ, List.getElem?_cons_zero]; exact rfl)
      case hp1 => exact fun _ _ _ h => h
      case hy1 =>
        refine yieldsIf_load_mid ?_ 29 (.tmp 10) ?_ X10 0 ?_ (ordCells o (.slice p10 o.offs.length c10)) _ ?_ Try.underlying29 ?_ ?_
        · rfl
        · exact rfl
        · exact rfl
        · exact (fun _ h => h.2.1)
        · rfl
        · rw [ordCells_len]; kernel_rfl
      case hr1 =>
      (try simp only [Act.put, List.setIfInBounds_toArray, List.set_cons_zero, List.set_cons_succ])
      refine wpAnyX_pick (rs := [2]) (by kernel_rfl) (by simp) (AllX.cons (o := ?oi2r) ?ho2r (fun K hK => ?hr2r) (AllX.nil))
      case ho2r => (simp only [List.getElem?_toArray, List.getElem?_cons_succ, List.getElem?_cons_zero]; exact rfl)
      case hr2r =>
        go_simp
        refine (D21.out _ B0.out).mono ?_
        rintro e we1 ⟨rfl, hb⟩
        have B1 := hide (bstep B0.out hb)
        clear hb
        refine hK.out _ _ (fun _ => SK.out _ B1.out) ?_
        clear hK K
        (try simp only [Act.put, List.setIfInBounds_toArray, List.set_cons_zero, List.set_cons_succ])
        have hH1 := SK.out _ B1.out
        refine wpAnyX_take (i := 3) (oi := ?oi3) (v := ?v3) ?ho3 (by kernel_rfl) (by kernel_rfl) (by kernel_rfl) (by kernel_rfl) ?hp3 ?hy3 hH1 ?hr3
        case ho3 => (simp only [List.getElem?_toArray, List.getElem?_cons_succ, List.getElem?_cons_zero]; exact rfl)
        case hp3 => exact fun _ _ _ h => h
        case hy3 => (refine Or.inl ⟨by rfl, ?_⟩; intro w hSw; (try dsimp only at hSw); (try go_split_ands); go_simp; (try (with_reducible rfl)))
        case hr3 =>
        (try simp only [Act.put, List.setIfInBounds_toArray, List.set_cons_zero, List.set_cons_succ])
        refine wpAnyX_take (i := 4) (oi := ?oi4) (v := ?v4) ?ho4 (by kernel_rfl) (by kernel_rfl) (by kernel_rfl) (by kernel_rfl) ?hp4 ?hy4 hH1 ?hr4
        case ho4 => (simp only [List.getElem?_toArray, List.getElem?_cons_succ, List.getElem?_cons_zero]; exact rfl)
        case hp4 => exact fun _ _ _ h => h
        case hy4 => (refine Or.inl ⟨by rfl, ?_⟩; intro w hSw; (try dsimp only at hSw); (try go_split_ands); go_simp; (try (with_reducible rfl)))
        case hr4 =>
        (try simp only [Act.put, List.setIfInBounds_toArray, List.set_cons_zero, List.set_cons_succ])
        refine wpAnyX_take (i := 5) (oi := ?oi5) (v := ?v5) ?ho5 (by kernel_rfl) (by kernel_rfl) (by kernel_rfl) (by kernel_rfl) ?hp5 ?hy5 hH1 ?hr5
        case ho5 => (simp only [List.getElem?_toArray, List.getElem?_cons_succ, List.getElem?_cons_zero]; exact rfl)
        case hp5 => exact fun _ _ _ h => h
        case hy5 => (refine Or.inl ⟨by rfl, ?_⟩; intro w hSw; (try dsimp only at hSw); (try go_split_ands); go_simp; (try (with_reducible rfl)))
        case hr5 =>
        (try simp only [Act.put, List.setIfInBounds_toArray, List.set_cons_zero, List.set_cons_succ])
        refine wpAnyX_take (i := 7) (oi := ?oi7) (v := ?v7) ?ho7 (by kernel_rfl) (by kernel_rfl) (by kernel_rfl) (by kernel_rfl) ?hp7 ?hy7 hH1 ?hr7
        case ho7 => (simp only [List.getElem?_toArray, List.getElem?_cons_succ, List.getElem?_cons_zero]; exact rfl)
        case hp7 => exact fun _ _ _ h => h
        case hy7 => (refine Or.inl ⟨by rfl, ?_⟩; intro w hSw; (try dsimp only at hSw); (try go_split_ands); go_simp; (try (with_reducible rfl)))
        case hr7 =>
        (try simp only [Act.put, List.setIfInBounds_toArray, List.set_cons_zero, List.set_cons_succ])
        refine wpAnyX_pick (rs := [6]) (by kernel_rfl) (by simp) (AllX.cons (o := ?oi6r) ?ho6r (fun K hK => ?hr6r) (AllX.nil))
        case ho6r => (simp only [List.getElem?_toArray, List.getElem?_cons_succ, List.getElem?_cons_zero]; exact rfl)
        case hr6r =>
          go_simp
          refine (num_c _ _).mono ?_
          rintro e wz ⟨rfl, hz⟩
          subst wz
          refine hK.out _ _ (fun _ => SK.out _ B1.out) ?_
          clear hK K
          (try simp only [Act.put, List.setIfInBounds_toArray, List.set_cons_zero, List.set_cons_succ])
          have hH2 := SK.out _ B1.out
          refine wpAnyX_take (i := 8) (oi := ?oi8) (v := ?v8) ?ho8 (by kernel_rfl) (by kernel_rfl) (by kernel_rfl) (by kernel_rfl) ?hp8 ?hy8 hH2 ?hr8
          case ho8 => (simp only [List.getElem?_toArray, List.getElem?_cons_succ, List.getElem?_cons_zero]; exact rfl)
          case hp8 => exact fun _ _ _ h => h
          case hy8 => (refine Or.inl ⟨by rfl, ?_⟩; intro w hSw; (try dsimp only at hSw); (try go_split_ands); go_simp; (try (with_reducible rfl)))
          case hr8 =>
          (try simp only [Act.put, List.setIfInBounds_toArray, List.set_cons_zero, List.set_cons_succ])
          refine wpAnyX_take (i := 9) (oi := ?oi9) (v := ?v9) ?ho9 (by kernel_rfl) (by kernel_rfl) (by kernel_rfl) (by kernel_rfl) ?hp9 ?hy9 hH2 ?hr9
          case ho9 => (simp only [List.getElem?_toArray, List.getElem?_cons_succ, List.getElem?_cons_zero]; exact rfl)
          case hp9 => exact fun _ _ _ h => h
          case hy9 => (refine Or.inl ⟨by rfl, ?_⟩; intro w hSw; (try dsimp only at hSw); (try go_split_ands); go_simp; (try (with_reducible rfl)))
          case hr9 =>
          (try simp only [Act.put, List.setIfInBounds_toArray, List.set_cons_zero, List.set_cons_succ])
          refine wpAnyX_take (i := 10) (oi := ?oi10) (v := ?v10) ?ho10 (by kernel_rfl) (by kernel_rfl) (by kernel_rfl) (by kernel_rfl) ?hp10 ?hy10 hH2 ?hr10
          case ho10 => (simp only [List.getElem?_toArray, List.getElem?_cons_succ, List.getElem?_cons_zero]; exact rfl)
          case hp10 => exact fun _ _ _ h => h
          case hy10 => (refine Or.inl ⟨by rfl, ?_⟩; intro w hSw; (try dsimp only at hSw); (try go_split_ands); go_simp; (try (with_reducible rfl)))
          case hr10 =>
          (try simp only [Act.put, List.setIfInBounds_toArray, List.set_cons_zero, List.set_cons_succ])
          refine wpAnyX_take (i := 11) (oi := ?oi11) (v := ?v11) ?ho11 (by kernel_rfl) (by kernel_rfl) (by kernel_rfl) (by kernel_rfl) ?hp11 ?hy11 hH2 ?hr11
          case ho11 => (simp only [List.getElem?_toArray, List.getElem?_cons_succ, List.getElem?_cons_zero]; exact rfl)
          case hp11 => exact fun _ _ _ h => h
          case hy11 =>
            refine yieldsIf_load_mid ?_ 53 (.tmp 12) ?_ X1 0 ?_ (bkL p1 os.length c1 p2 c2 good why) _ ?_ Try.underlying53 ?_ ?_
            · rfl
            · exact rfl
            · exact rfl
            · exact (fun _ h => h.2.2.1)
            · rfl
            · kernel_rfl
          case hr11 =>
          (try simp only [Act.put, List.setIfInBounds_toArray, List.set_cons_zero, List.set_cons_succ])
          refine wpAnyX_take (i := 12) (oi := ?oi12) (v := ?v12) ?ho12 (by kernel_rfl) (by kernel_rfl) (by kernel_rfl) (by kernel_rfl) ?hp12 ?hy12 hH2 ?hr12
          case ho12 => (simp only [List.getElem?_toArray, List.getElem?_cons_succ, List.getElem?_cons_zero]; exact rfl)
          case hp12 => exact fun _ _ _ h => h
          case hy12 =>
            refine yieldsIf_load_mid ?_ 53 (.tmp 14) ?_ X3 0 ?_ (bkL s1 os.length e1 s2 e2 good why) _ ?_ Try.underlying53 ?_ ?_
            · rfl
            · exact rfl
            · exact rfl
            · exact (fun _ h => h.2.2.2.1)
            · rfl
            · kernel_rfl
          case hr12 =>
          (try simp only [Act.put, List.setIfInBounds_toArray, List.set_cons_zero, List.set_cons_succ])
          refine wpAnyX_pick (rs := [13]) (by kernel_rfl) (by simp) (AllX.cons (o := ?oi13r) ?ho13r (fun K hK => ?hr13r) (AllX.nil))
          case ho13r => (simp only [List.getElem?_toArray, List.getElem?_cons_succ, List.getElem?_cons_zero]; exact rfl)
          case hr13r =>
            go_simp
            refine (D27.out _ B1.out).mono ?_
            rintro e we ⟨rfl, hb⟩
            have B2 := hide (bstep B1.out hb)
            clear hb
            refine hK.out _ _ (fun _ => SK.out _ B2.out) ?_
            clear hK K
            (try simp only [Act.put, List.setIfInBounds_toArray, List.set_cons_zero, List.set_cons_succ])
            have hH3 := SK.out _ B2.out
            refine wpAnyX_take (i := 14) (oi := ?oi14) (v := ?v14) ?ho14 (by kernel_rfl) (by kernel_rfl) (by kernel_rfl) (by kernel_rfl) ?hp14 ?hy14 hH3 ?hr14
            case ho14 => (simp only [List.getElem?_toArray, List.getElem?_cons_succ, List.getElem?_cons_zero]; exact rfl)
            case hp14 => exact fun _ _ _ h => h
            case hy14 => (refine Or.inl ⟨by rfl, ?_⟩; intro w hSw; (try dsimp only at hSw); (try go_split_ands); go_simp; (try (with_reducible rfl)))
            case hr14 =>
            (try simp only [Act.put, List.setIfInBounds_toArray, List.set_cons_zero, List.set_cons_succ])
            refine wpAnyX_take (i := 15) (oi := ?oi15) (v := ?v15) ?ho15 (by kernel_rfl) (by kernel_rfl) (by kernel_rfl) (by kernel_rfl) ?hp15 ?hy15 hH3 ?hr15
            case ho15 => (simp only [List.getElem?_toArray, List.getElem?_cons_succ, List.getElem?_cons_zero]; exact rfl)
            case hp15 => exact fun _ _ _ h => h
            case hy15 => (refine Or.inl ⟨by rfl, ?_⟩; intro w hSw; (try dsimp only at hSw); (try go_split_ands); go_simp; (try (with_reducible rfl)))
            case hr15 =>
            (try simp only [Act.put, List.setIfInBounds_toArray, List.set_cons_zero, List.set_cons_succ])
            refine wpAnyX_take (i := 16) (oi := ?oi16) (v := ?v16) ?ho16 (by kernel_rfl) (by kernel_rfl) (by kernel_rfl) (by kernel_rfl) ?hp16 ?hy16 hH3 ?hr16
            case ho16 => (simp only [List.getElem?_toArray, List.getElem?_cons_succ, List.getElem?_cons_zero]; exact rfl)
            case hp16 => exact fun _ _ _ h => h
            case hy16 => (refine Or.inl ⟨by rfl, ?_⟩; intro w hSw; (try dsimp only at hSw); (try go_split_ands); go_simp; (try (with_reducible rfl)))
            case hr16 =>
            (try simp only [Act.put, List.setIfInBounds_toArray, List.set_cons_zero, List.set_cons_succ])
            refine wpAnyX_take (i := 17) (oi := ?oi17) (v := ?v17) ?ho17 (by kernel_rfl) (by kernel_rfl) (by kernel_rfl) (by kernel_rfl) ?hp17 ?hy17 hH3 ?hr17
            case ho17 => (simp only [List.getElem?_toArray, List.getElem?_cons_succ, List.getElem?_cons_zero]; exact rfl)
            case hp17 => exact fun _ _ _ h => h
            case hy17 => (refine Or.inl ⟨by rfl, ?_⟩; intro w hSw; (try dsimp only at hSw); (try go_split_ands); go_simp; (try (with_reducible rfl)))
            case hr17 =>
            (try simp only [Act.put, List.setIfInBounds_toArray, List.set_cons_zero, List.set_cons_succ])
            refine wpAnyX_take (i := 18) (oi := ?oi18) (v := ?v18) ?ho18 (by kernel_rfl) (by kernel_rfl) (by kernel_rfl) (by kernel_rfl) ?hp18 ?hy18 hH3 ?hr18
            case ho18 => (simp only [List.getElem?_toArray, List.getElem?_cons_succ, List.getElem?_cons_zero]; exact rfl)
            case hp18 => exact fun _ _ _ h => h
            case hy18 => (refine Or.inl ⟨by rfl, ?_⟩; intro w hSw; (try dsimp only at hSw); (try go_split_ands); go_simp; (try (with_reducible rfl)))
            case hr18 =>
            (try simp only [Act.put, List.setIfInBounds_toArray, List.set_cons_zero, List.set_cons_succ])
            refine wpAnyX_take (i := 22) (oi := ?oi22) (v := ?v22) ?ho22 (by kernel_rfl) (by kernel_rfl) (by kernel_rfl) (by kernel_rfl) ?hp22 ?hy22 hH3 ?hr22
            case ho22 => (simp only [List.getElem?_toArray, List.getElem?_cons_succ, List.getElem?_cons_zero]; exact rfl)
            case hp22 => exact fun _ _ _ h => h
            case hy22 => (refine Or.inl ⟨by rfl, ?_⟩; intro w hSw; (try dsimp only at hSw); (try go_split_ands); go_simp; (try (with_reducible rfl)))
            case hr22 =>
            (try simp only [Act.put, List.setIfInBounds_toArray, List.set_cons_zero, List.set_cons_succ])
            refine wpAnyX_take (i := 19) (oi := ?oi19) (v := ?v19) ?ho19 (by kernel_rfl) (by kernel_rfl) (by kernel_rfl) (by kernel_rfl) ?hp19 ?hy19 hH3 ?hr19
            case ho19 => (simp only [List.getElem?_toArray, List.getElem?_cons_succ, List.getElem?_cons_zero]; exact rfl)
            case hp19 => exact fun _ _ _ h => h
            case hy19 => (refine Or.inl ⟨by rfl, ?_⟩; intro w hSw; (try dsimp only at hSw); (try go_split_ands); go_simp; (try (with_reducible rfl)))
            case hr19 =>
            (try simp only [Act.put, List.setIfInBounds_toArray, List.set_cons_zero, List.set_cons_succ])
            refine wpAnyX_take (i := 23) (oi := ?oi23) (v := ?v23) ?ho23 (by kernel_rfl) (by kernel_rfl) (by kernel_rfl) (by kernel_rfl) ?hp23 ?hy23 hH3 ?hr23
            case ho23 => (simp only [List.getElem?_toArray, List.getElem?_cons_succ, List.getElem?_cons_zero]; exact rfl)
            case hp23 => exact fun _ _ _ h => h
            case hy23 => (refine Or.inl ⟨by rfl, ?_⟩; intro w hSw; (try dsimp only at hSw); (try go_split_ands); go_simp; (try (with_reducible rfl)))
            case hr23 =>
            (try simp only [Act.put, List.setIfInBounds_toArray, List.set_cons_zero, List.set_cons_succ])
            refine wpAnyX_take (i := 20) (oi := ?oi20) (v := ?v20) ?ho20 (by kernel_rfl) (by kernel_rfl) (by kernel_rfl) (by kernel_rfl) ?hp20 ?hy20 hH3 ?hr20
            case ho20 => (simp only [List.getElem?_toArray, List.getElem?_cons_succ, List.getElem?_cons_zero]; exact rfl)
            case hp20 => exact fun _ _ _ h => h
            case hy20 => (refine Or.inl ⟨by rfl, ?_⟩; intro w hSw; (try dsimp only at hSw); (try go_split_ands); go_simp; (try (with_reducible rfl)))
            case hr20 =>
            (try simp only [Act.put, List.setIfInBounds_toArray, List.set_cons_zero, List.set_cons_succ])
            refine wpAnyX_take (i := 21) (oi := ?oi21) (v := ?v21) ?ho21 (by kernel_rfl) (by kernel_rfl) (by kernel_rfl) (by kernel_rfl) ?hp21 ?hy21 hH3 ?hr21
            case ho21 => (simp only [List.getElem?_toArray, List.getElem?_cons_succ, List.getElem?_cons_zero]; exact rfl)
            case hp21 => exact fun _ _ _ h => h
            case hy21 => (refine Or.inl ⟨by rfl, ?_⟩; intro w hSw; (try dsimp only at hSw); (try go_split_ands); go_simp; (try (with_reducible rfl)))
            case hr21 =>
            (try simp only [Act.put, List.setIfInBounds_toArray, List.set_cons_zero, List.set_cons_succ])
            refine wpAnyX_take (i := 24) (oi := ?oi24) (v := ?v24) ?ho24 (by kernel_rfl) (by kernel_rfl) (by kernel_rfl) (by kernel_rfl) ?hp24 ?hy24 hH3 ?hr24
            case ho24 => (simp only [List.getElem?_toArray, List.getElem?_cons_succ, List.getElem?_cons_zero]; exact rfl)
            case hp24 => exact fun _ _ _ h => h
            case hy24 => (refine Or.inl ⟨by rfl, ?_⟩; intro w hSw; (try dsimp only at hSw); (try go_split_ands); go_simp; (try (with_reducible rfl)))
            case hr24 =>
            (try simp only [Act.put, List.setIfInBounds_toArray, List.set_cons_zero, List.set_cons_succ])
            refine wpAnyX_take (i := 25) (oi := ?oi25) (v := ?v25) ?ho25 (by kernel_rfl) (by kernel_rfl) (by kernel_rfl) (by kernel_rfl) ?hp25 ?hy25 hH3 ?hr25
            case ho25 => (simp only [List.getElem?_toArray, List.getElem?_cons_succ, List.getElem?_cons_zero]; exact rfl)
            case hp25 => exact fun _ _ _ h => h
            case hy25 => (refine Or.inl ⟨by rfl, ?_⟩; intro w hSw; (try dsimp only at hSw); (try go_split_ands); go_simp; (try (with_reducible rfl)))
            case hr25 =>
            (try simp only [Act.put, List.setIfInBounds_toArray, List.set_cons_zero, List.set_cons_succ])
            refine wpAnyX_take (i := 26) (oi := ?oi26) (v := ?v26) ?ho26 (by kernel_rfl) (by kernel_rfl) (by kernel_rfl) (by kernel_rfl) ?hp26 ?hy26 hH3 ?hr26
            case ho26 => (simp only [List.getElem?_toArray, List.getElem?_cons_succ, List.getElem?_cons_zero]; exact rfl)
            case hp26 => exact fun _ _ _ h => h
            case hy26 => (refine Or.inl ⟨by rfl, ?_⟩; intro w hSw; (try dsimp only at hSw); (try go_split_ands); go_simp; (try (with_reducible rfl)))
            case hr26 =>
            (try simp only [Act.put, List.setIfInBounds_toArray, List.set_cons_zero, List.set_cons_succ])
            refine wpAnyX_take (i := 27) (oi := ?oi27) (v := ?v27) ?ho27 (by kernel_rfl) (by kernel_rfl) (by kernel_rfl) (by kernel_rfl) ?hp27 ?hy27 hH3 ?hr27
            case ho27 => (simp only [List.getElem?_toArray, List.getElem?_cons_succ, List.getElem?_cons_zero]; exact rfl)
            case hp27 => exact fun _ _ _ h => h
            case hy27 => (refine Or.inl ⟨by rfl, ?_⟩; intro w hSw; (try dsimp only at hSw); (try go_split_ands); go_simp; (try (with_reducible rfl)))
            case hr27 =>
            (try simp only [Act.put, List.setIfInBounds_toArray, List.set_cons_zero, List.set_cons_succ])
            refine wpAnyX_take (i := 28) (oi := ?oi28) (v := ?v28) ?ho28 (by kernel_rfl) (by kernel_rfl) (by kernel_rfl) (by kernel_rfl) ?hp28 ?hy28 hH3 ?hr28
            case ho28 => (simp only [List.getElem?_toArray, List.getElem?_cons_succ, List.getElem?_cons_zero]; exact rfl)
            case hp28 => exact fun _ _ _ h => h
            case hy28 => (refine Or.inl ⟨by rfl, ?_⟩; intro w hSw; (try dsimp only at hSw); (try go_split_ands); go_simp; (try (with_reducible rfl)))
            case hr28 =>
            (try simp only [Act.put, List.setIfInBounds_toArray, List.set_cons_zero, List.set_cons_succ])
            refine wpAnyX_take (i := 29) (oi := ?oi29) (v := ?v29) ?ho29 (by kernel_rfl) (by kernel_rfl) (by kernel_rfl) (by kernel_rfl) ?hp29 ?hy29 hH3 ?hr29
            case ho29 => (simp only [List.getElem?_toArray, List.getElem?_cons_succ, List.getElem?_cons_zero]; exact rfl)
            case hp29 => exact fun _ _ _ h => h
            case hy29 => (refine Or.inl ⟨by rfl, ?_⟩; intro w hSw; (try dsimp only at hSw); (try go_split_ands); go_simp; (try (with_reducible rfl)))
            case hr29 =>
            (try simp only [Act.put, List.setIfInBounds_toArray, List.set_cons_zero, List.set_cons_succ])
            refine wpAnyX_take (i := 30) (oi := ?oi30) (v := ?v30) ?ho30 (by kernel_rfl) (by kernel_rfl) (by kernel_rfl) (by kernel_rfl) ?hp30 ?hy30 hH3 ?hr30
            case ho30 => (simp only [List.getElem?_toArray, List.getElem?_cons_succ, List.getElem?_cons_zero]; exact rfl)
            case hp30 => exact fun _ _ _ h => h
            case hy30 => (refine Or.inl ⟨by rfl, ?_⟩; intro w hSw; (try dsimp only at hSw); (try go_split_ands); go_simp; (try (with_reducible rfl)))
            case hr30 =>
            (try simp only [Act.put, List.setIfInBounds_toArray, List.set_cons_zero, List.set_cons_succ])
            refine wpAnyX_take (i := 31) (oi := ?oi31) (v := ?v31) ?ho31 (by kernel_rfl) (by kernel_rfl) (by kernel_rfl) (by kernel_rfl) ?hp31 ?hy31 hH3 ?hr31
            case ho31 => (simp only [List.getElem?_toArray, List.getElem?_cons_succ, List.getElem?_cons_zero]; exact rfl)
            case hp31 => exact fun _ _ _ h => h
            case hy31 => (refine Or.inl ⟨by rfl, ?_⟩; intro w hSw; (try dsimp only at hSw); (try go_split_ands); go_simp; (try (with_reducible rfl)))
            case hr31 =>
            (try simp only [Act.put, List.setIfInBounds_toArray, List.set_cons_zero, List.set_cons_succ])
            refine wpAnyX_take (i := 32) (oi := ?oi32) (v := ?v32) ?ho32 (by kernel_rfl) (by kernel_rfl) (by kernel_rfl) (by kernel_rfl) ?hp32 ?hy32 hH3 ?hr32
            case ho32 => (simp only [List.getElem?_toArray, List.getElem?_cons_succ, List.getElem?_cons_zero]; exact rfl)
            case hp32 => exact fun _ _ _ h => h
            case hy32 => (refine Or.inl ⟨by rfl, ?_⟩; intro w hSw; (try dsimp only at hSw); (try go_split_ands); go_simp; (try (with_reducible rfl)))
            case hr32 =>
            (try simp only [Act.put, List.setIfInBounds_toArray, List.set_cons_zero, List.set_cons_succ])
            refine wpAnyX_take (i := 33) (oi := ?oi33) (v := ?v33) ?ho33 (by kernel_rfl) (by kernel_rfl) (by kernel_rfl) (by kernel_rfl) ?hp33 ?hy33 hH3 ?hr33
            case ho33 => (simp only [List.getElem?_toArray, List.getElem?_cons_succ, List.getElem?_cons_zero]; exact rfl)
            case hp33 => exact fun _ _ _ h => h
            case hy33 => (refine Or.inl ⟨by rfl, ?_⟩; intro w hSw; (try dsimp only at hSw); (try go_split_ands); go_simp; (try (with_reducible rfl)))
            case hr33 =>
            (try simp only [Act.put, List.setIfInBounds_toArray, List.set_cons_zero, List.set_cons_succ])
            refine wpAnyX_take (i := 34) (oi := ?oi34) (v := ?v34) ?ho34 (by kernel_rfl) (by kernel_rfl) (by kernel_rfl) (by kernel_rfl) ?hp34 ?hy34 hH3 ?hr34
            case ho34 => (simp only [List.getElem?_toArray, List.getElem?_cons_succ, List.getElem?_cons_zero]; exact rfl)
            case hp34 => exact fun _ _ _ h => h
            case hy34 => (refine Or.inl ⟨by rfl, ?_⟩; intro w hSw; (try dsimp only at hSw); (try go_split_ands); go_simp; (try (with_reducible rfl)))
            case hr34 =>
            (try simp only [Act.put, List.setIfInBounds_toArray, List.set_cons_zero, List.set_cons_succ])
            refine wpAnyX_take (i := 35) (oi := ?oi35) (v := ?v35) ?ho35 (by kernel_rfl) (by kernel_rfl) (by kernel_rfl) (by kernel_rfl) ?hp35 ?hy35 hH3 ?hr35
            case ho35 => (simp only [List.getElem?_toArray, List.getElem?_cons_succ, List.getElem?_cons_zero]; exact rfl)
            case hp35 => exact fun _ _ _ h => h
            case hy35 => (refine Or.inl ⟨by rfl, ?_⟩; intro w hSw; (try dsimp only at hSw); (try go_split_ands); go_simp; (try (with_reducible rfl)))
            case hr35 =>
            (try simp only [Act.put, List.setIfInBounds_toArray, List.set_cons_zero, List.set_cons_succ])
            refine wpAnyX_take (i := 36) (oi := ?oi36) (v := ?v36) ?ho36 (by kernel_rfl) (by kernel_rfl) (by kernel_rfl) (by kernel_rfl) ?hp36 ?hy36 hH3 ?hr36
            case ho36 => (simp only [List.getElem?_toArray, List.getElem?_cons_succ, List.getElem?_cons_zero]; exact rfl)
            case hp36 => exact fun _ _ _ h => h
            case hy36 => (refine Or.inl ⟨by rfl, ?_⟩; intro w hSw; (try dsimp only at hSw); (try go_split_ands); go_simp; (try (with_reducible rfl)))
            case hr36 =>
            (try simp only [Act.put, List.setIfInBounds_toArray, List.set_cons_zero, List.set_cons_succ])
            refine wpAnyX_take (i := 37) (oi := ?oi37) (v := ?v37) ?ho37 (by kernel_rfl) (by kernel_rfl) (by kernel_rfl) (by kernel_rfl) ?hp37 ?hy37 hH3 ?hr37
            case ho37 => (simp only [List.getElem?_toArray, List.getElem?_cons_succ, List.getElem?_cons_zero]; exact rfl)
            case hp37 => exact fun _ _ _ h => h
            case hy37 => (refine Or.inl ⟨by rfl, ?_⟩; intro w hSw; (try dsimp only at hSw); (try go_split_ands); go_simp; (try (with_reducible rfl)))
            case hr37 =>
            (try simp only [Act.put, List.setIfInBounds_toArray, List.set_cons_zero, List.set_cons_succ])
            refine wpAnyX_take (i := 38) (oi := ?oi38) (v := ?v38) ?ho38 (by kernel_rfl) (by kernel_rfl) (by kernel_rfl) (by kernel_rfl) ?hp38 ?hy38 hH3 ?hr38
            case ho38 => (simp only [List.getElem?_toArray, List.getElem?_cons_succ, List.getElem?_cons_zero]; exact rfl)
            case hp38 => exact fun _ _ _ h => h
            case hy38 => (refine Or.inl ⟨by rfl, ?_⟩; intro w hSw; (try dsimp only at hSw); (try go_split_ands); go_simp; (try (with_reducible rfl)))
            case hr38 =>
            (try simp only [Act.put, List.setIfInBounds_toArray, List.set_cons_zero, List.set_cons_succ])
            refine wpAnyX_take (i := 39) (oi := ?oi39) (v := ?v39) ?ho39 (by kernel_rfl) (by kernel_rfl) (by kernel_rfl) (by kernel_rfl) ?hp39 ?hy39 hH3 ?hr39
            case ho39 => (simp only [List.getElem?_toArray, List.getElem?_cons_succ, List.getElem?_cons_zero]; exact rfl)
            case hp39 => exact fun _ _ _ h => h
            case hy39 => (refine Or.inl ⟨by rfl, ?_⟩; intro w hSw; (try dsimp only at hSw); (try go_split_ands); go_simp; (try (with_reducible rfl)))
            case hr39 =>
            (try simp only [Act.put, List.setIfInBounds_toArray, List.set_cons_zero, List.set_cons_succ])
            refine wpAnyX_take (i := 40) (oi := ?oi40) (v := ?v40) ?ho40 (by kernel_rfl) (by kernel_rfl) (by kernel_rfl) (by kernel_rfl) ?hp40 ?hy40 hH3 ?hr40
            case ho40 => (simp only [List.getElem?_toArray, List.getElem?_cons_succ, List.getElem?_cons_zero]; exact rfl)
            case hp40 => exact fun _ _ _ h => h
            case hy40 => (refine Or.inl ⟨by rfl, ?_⟩; intro w hSw; (try dsimp only at hSw); (try go_split_ands); go_simp; (try (with_reducible rfl)))
            case hr40 =>
            (try simp only [Act.put, List.setIfInBounds_toArray, List.set_cons_zero, List.set_cons_succ])
            refine wpAnyX_take (i := 41) (oi := ?oi41) (v := ?v41) ?ho41 (by kernel_rfl) (by kernel_rfl) (by kernel_rfl) (by kernel_rfl) ?hp41 ?hy41 hH3 ?hr41
            case ho41 => (simp only [List.getElem?_toArray, List.getElem?_cons_succ, List.getElem?_cons_zero]; exact rfl)
            case hp41 => exact fun _ _ _ h => h
            case hy41 => (refine Or.inl ⟨by rfl, ?_⟩; intro w hSw; (try dsimp only at hSw); (try go_split_ands); go_simp; (try (with_reducible rfl)))
            case hr41 =>
            (try simp only [Act.put, List.setIfInBounds_toArray, List.set_cons_zero, List.set_cons_succ])
            refine wpAnyX_take (i := 42) (oi := ?oi42) (v := ?v42) ?ho42 (by kernel_rfl) (by kernel_rfl) (by kernel_rfl) (by kernel_rfl) ?hp42 ?hy42 hH3 ?hr42
            case ho42 => (simp only [List.getElem?_toArray, List.getElem?_cons_succ, List.getElem?_cons_zero]; exact rfl)
            case hp42 => exact fun _ _ _ h => h
            case hy42 => (refine Or.inl ⟨by rfl, ?_⟩; intro w hSw; (try dsimp only at hSw); (try go_split_ands); go_simp; (try (with_reducible rfl)))
            case hr42 =>
            (try simp only [Act.put, List.setIfInBounds_toArray, List.set_cons_zero, List.set_cons_succ])
            refine wpAnyX_take (i := 43) (oi := ?oi43) (v := ?v43) ?ho43 (by kernel_rfl) (by kernel_rfl) (by kernel_rfl) (by kernel_rfl) ?hp43 ?hy43 hH3 ?hr43
            case ho43 => (simp only [List.getElem?_toArray, List.getElem?_cons_succ, List.getElem?_cons_zero]; exact rfl)
            case hp43 => exact fun _ _ _ h => h
            case hy43 => (refine Or.inl ⟨by rfl, ?_⟩; intro w hSw; (try dsimp only at hSw); (try go_split_ands); go_simp; (try (with_reducible rfl)))
            case hr43 =>
            (try simp only [Act.put, List.setIfInBounds_toArray, List.set_cons_zero, List.set_cons_succ])
            refine wpAnyX_take (i := 44) (oi := ?oi44) (v := ?v44) ?ho44 (by kernel_rfl) (by kernel_rfl) (by kernel_rfl) (by kernel_rfl) ?hp44 ?hy44 hH3 ?hr44
            case ho44 => (simp only [List.getElem?_toArray, List.getElem?_cons_succ, List.getElem?_cons_zero]; exact rfl)
            case hp44 => exact fun _ _ _ h => h
            case hy44 => (refine Or.inl ⟨by rfl, ?_⟩; intro w hSw; (try dsimp only at hSw); (try go_split_ands); go_simp; (try (with_reducible rfl)))
            case hr44 =>
            (try simp only [Act.put, List.setIfInBounds_toArray, List.set_cons_zero, List.set_cons_succ])
            refine wpAnyX_take (i := 45) (oi := ?oi45) (v := ?v45) ?ho45 (by kernel_rfl) (by kernel_rfl) (by kernel_rfl) (by kernel_rfl) ?hp45 ?hy45 hH3 ?hr45
            case ho45 => (simp only [List.getElem?_toArray, List.getElem?_cons_succ, List.getElem?_cons_zero]; exact rfl)
            case hp45 => exact fun _ _ _ h => h
            case hy45 => (refine Or.inl ⟨by rfl, ?_⟩; intro w hSw; (try dsimp only at hSw); (try go_split_ands); go_simp; (try (with_reducible rfl)))
            case hr45 =>
            (try simp only [Act.put, List.setIfInBounds_toArray, List.set_cons_zero, List.set_cons_succ])
            refine wpAnyX_take (i := 46) (oi := ?oi46) (v := ?v46) ?ho46 (by kernel_rfl) (by kernel_rfl) (by kernel_rfl) (by kernel_rfl) ?hp46 ?hy46 hH3 ?hr46
            case ho46 => (simp only [List.getElem?_toArray, List.getElem?_cons_succ, List.getElem?_cons_zero]; exact rfl)
            case hp46 => exact fun _ _ _ h => h
            case hy46 => (refine Or.inl ⟨by rfl, ?_⟩; intro w hSw; (try dsimp only at hSw); (try go_split_ands); go_simp; (try (with_reducible rfl)))
            case hr46 =>
            (try simp only [Act.put, List.setIfInBounds_toArray, List.set_cons_zero, List.set_cons_succ])
            refine wpAnyX_take (i := 47) (oi := ?oi47) (v := ?v47) ?ho47 (by kernel_rfl) (by kernel_rfl) (by kernel_rfl) (by kernel_rfl) ?hp47 ?hy47 hH3 ?hr47
            case ho47 => (simp only [List.getElem?_toArray, List.getElem?_cons_succ, List.getElem?_cons_zero]; exact rfl)
            case hp47 => exact fun _ _ _ h => h
            case hy47 => (refine Or.inl ⟨by rfl, ?_⟩; intro w hSw; (try dsimp only at hSw); (try go_split_ands); go_simp; (try (with_reducible rfl)))
            case hr47 =>
            (try simp only [Act.put, List.setIfInBounds_toArray, List.set_cons_zero, List.set_cons_succ])
            refine wpAnyX_take (i := 48) (oi := ?oi48) (v := ?v48) ?ho48 (by kernel_rfl) (by kernel_rfl) (by kernel_rfl) (by kernel_rfl) ?hp48 ?hy48 hH3 ?hr48
            case ho48 => (simp only [List.getElem?_toArray, List.getElem?_cons_succ, List.getElem?_cons_zero]; exact rfl)
            case hp48 => exact fun _ _ _ h => h
            case hy48 => (refine Or.inl ⟨by rfl, ?_⟩; intro w hSw; (try dsimp only at hSw); (try go_split_ands); go_simp; (try (with_reducible rfl)))
            case hr48 =>
            (try simp only [Act.put, List.setIfInBounds_toArray, List.set_cons_zero, List.set_cons_succ])
            refine wpAnyX_take (i := 49) (oi := ?oi49) (v := ?v49) ?ho49 (by kernel_rfl) (by kernel_rfl) (by kernel_rfl) (by kernel_rfl) ?hp49 ?hy49 hH3 ?hr49
            case ho49 => (simp only [List.getElem?_toArray, List.getElem?_cons_succ, List.getElem?_cons_zero]; exact rfl)
            case hp49 => exact fun _ _ _ h => h
            case hy49 => (refine Or.inl ⟨by rfl, ?_⟩; intro w hSw; (try dsimp only at hSw); (try go_split_ands); go_simp; (try (with_reducible rfl)))
            case hr49 =>
            (try simp only [Act.put, List.setIfInBounds_toArray, List.set_cons_zero, List.set_cons_succ])
            refine wpAnyX_done (by kernel_rfl) ?_ _
            have HBe := hide (bstep HBr10.out B2.out)
            have E6 := hide (F6.out _ B2.out)
            have EG6 := hide (G6.out _ B2.out)
            have C28 := hide (spoilt_c o (.slice p6 o.offs.length c6) o.offs.length W0.heap.size _ we E6.out (by have := GO.out.1; omega) HBe.out.size)
            clear SK D21 D27 B0 B1 Q55
            go_wp2_with (first
              | (refine wpList_load_mid rfl 29 _ rfl X6 0 rfl (ordCells o (.slice p6 o.offs.length c6)) _ ?_ Try.underlying29 rfl ?_ ?_; exact EG6.out.range; (rw [ordCells_len]; kernel_rfl))
              | (go_at_call 28; (apply Calls.mono; focus (exact C28.out)); rintro e ws ⟨rfl, hg, hst⟩; have HG := hide hg; have HST := hide hst; clear hg hst))
            obtain ⟨Z, hZ⟩ : ∃ Z : Nat → Prop, Z = fun k => (w.heap.size ≤ k ∧ k < X6) ∨ (a ≤ k ∧ k < b) := ⟨_, rfl⟩
            have ZI := hide (show ∀ k, Z k ↔ (w.heap.size ≤ k ∧ k < X6) ∨ (a ≤ k ∧ k < b) from fun k => by rw [hZ])
            have LQ0 := hide ((Lq.refl Z we).gone HG.out HST.out (fun k hk => (ZI.out k).2 (.inl (by have := LX6.out.2 k hk; have := SZ.out; omega))))
            have ROW0 := hide (own_gone (FO1.out _ B2.out).row E6.out (by decide) HG.out)
            have EB1 := hide (FB1.out _ B2.out)
            have EO1 := hide (FO1.out _ B2.out)
            have ER1 := hide (FR1.out _ B2.out)
            have EY := hide (own_below HY.out HBe.out)
            have NZ1 := hide (show ¬ Z X1 from fun q => by have := (ZI.out _).1 q; have := SZ.out; have := AB.out; omega)
            have HZa := hide (show ∀ k, a ≤ k → k < b → Z k from fun k h1 h2 => (ZI.out k).2 (.inr ⟨h1, h2⟩))
            have HZy := hide (show Z gy from (ZI.out gy).2 (.inl (by have := HY.out.lt gy rfl; have := SZ.out; omega)))
            have SAW := hide (show a ≤ we.heap.size from by
              have q2 := T7a.out
              have q3 := B2.out.size
              have q4 := AB.out
              omega)
            clear hZ C28 HG HST
            go_wp2_with fail
            go_loopw [19] (fun v19 wr => ∃ j : Nat, v19 = .int .i64 (j : Int) ∧ j ≤ os.length ∧ Lq Z we wr ∧ wr.ownsRow a 29 18 (.slice p1 os.length c1) os.length (flatO os vs1)) (fun v19 _ => os.length - (intOf v19).toNat)
            case atStart => exact ⟨0, rfl, Nat.zero_le _, LQ0.out, ROW0.out⟩
            case round =>
              obtain ⟨j, rfl, hj, hq, hrow⟩ := hrel
              have bx := EB1.out.stays (hq.same _ EB1.out.lt NZ1.out)
              have x0 : wr.cell? ⟨X1, 0, none⟩ = some (.slice p1 os.length c1) := bx.c 0 (by decide)
              have LQ := hide hq
              have HROW := hide hrow
              have hj0 : (0 : Int) ≤ (j : Int) := by omega
              clear bx hq
              by_cases hlt : j < os.length
              · have hltI : (j : Int) < (os.length : Int) := by omega
                have hosl := LEN.out.2.2.2
                obtain ⟨g1, cc, e, -, -⟩ := hrow.form (by omega)
                injection e with e _ ec
                subst e ec
                obtain ⟨zz, hz⟩ := LQ.out.st _ _ _ _ _ _ ER1.out
                obtain ⟨g2, cc2, e, -, -⟩ := hz.form (by omega)
                injection e with e _ ec
                subst e ec
                obtain ⟨A, hA⟩ : ∃ A, A = os.getD j (zeroO 0) := ⟨_, rfl⟩
                obtain ⟨V, hV⟩ : ∃ A, A = vs1.getD j undef := ⟨_, rfl⟩
                have rng : wr.rangeAt g1 (j * 18) (ordCells A V) := fun q u hu => by
                  have hq := (List.getElem?_eq_some_iff.1 hu).1
                  rw [ordCells_len] at hq
                  rw [hrow.cellAt (j * 18 + q) (by omega), flatO_at os vs1 j q EO1.out.l hlt hq, ← hA, ← hV]; exact hu
                obtain ⟨ys, hof⟩ := LQ.out.st _ _ _ _ _ _ (EO1.out.offs j hlt)
                rw [← hA, ← hV] at hof
                have hvb : ∀ k, V.ownBlock = some k → Z k := fun k hk => HZa.out k ((EO1.out.offs j hlt).lt k (by rw [← hV]; exact hk)).1 (LL.out.2.2 j k hlt (by rw [← hV]; exact hk))
                obtain ⟨pv, cv, ev⟩ := own_any hof
                subst ev
                have hAL : A.offs.length ≤ 64 := by rw [hA, List.getD_eq_getElem?_getD, List.getElem?_eq_getElem hlt]; exact (GD.out _ (List.getElem_mem hlt)).2
                have C28 := hide (spoilt_c A (.slice pv A.offs.length cv) A.offs.length a ys wr hof (by omega) (Nat.le_trans SAW.out LQ.out.size))
                have RNG := hide rng
                have HOF := hide hof
                have HVB := hide hvb
                clear hz rng hof hvb hrow hA hAL hV
                go_wp2_with (first
                  | (refine wpList_load_mid rfl 29 _ rfl g1 (j * 18) rfl (ordCells A (.slice pv A.offs.length cv)) _ ?_ Try.underlying29 rfl ?_ ?_; exact RNG.out; (rw [ordCells_len]; kernel_rfl))
                  | (go_at_call 28; (apply Calls.mono; focus (exact C28.out)); rintro e wt ⟨rfl, hg, hst⟩; have LQ2 := hide (LQ.out.gone hg hst HVB.out); have ROW2 := hide (own_gone HROW.out HOF.out (by decide) hg); have x1b : wt.cell? ⟨X1, 1, none⟩ = some (.slice (some ⟨g2, 0, none⟩) os.length c2) := (EB1.out.stays (LQ2.out.same _ EB1.out.lt NZ1.out)).c 1 (by decide); obtain ⟨zs, hz⟩ := LQ2.out.st _ _ _ _ _ _ ER1.out; obtain ⟨u, hu, hf⟩ := own_cellx hz (j := j) (by omega); have HZ2 := hide hz; clear hz hg hst))
                go_roundw
                case rel =>
                  exact ⟨j + 1, by go_num, by omega, LQ2.out.set (HZa.out g2 (ER1.out.lt g2 rfl).1 (LL.out.2.1 g2 rfl)) _ _, own_seto ROW2.out HZ2.out (by decide)⟩
                case measure => (first | (simp [intOf]; done) | (simp [intOf]; omega))
              · have hltI : ¬ ((j : Int) < (os.length : Int)) := by omega
                clear hrow
                go_wp2_with fail
                obtain ⟨w1, hw1⟩ : ∃ q : World, q = wr := ⟨_, rfl⟩
                subst hw1
                clear x0 hlt hltI hj hj0 HROW ROW0 LQ0
                go_loopw [20] (fun v20 wr => ∃ j : Nat, v20 = .int .i64 (j : Int) ∧ j ≤ ns.length + 1 ∧ Lq Z we wr) (fun v20 _ => ns.length + 1 - (intOf v20).toNat)
                case atStart => exact ⟨0, rfl, Nat.zero_le _, LQ.out⟩
                case round =>
                  obtain ⟨j, rfl, hj, hq⟩ := hrel
                  have LQ3 := hide hq
                  have hj0 : (0 : Int) ≤ (j : Int) := by omega
                  clear hq
                  by_cases hlt : j < ns.length + 1
                  · have hltI : (j : Int) < ((ns.length + 1 : Nat) : Int) := by omega
                    have hltJ : (j : Int) < (ns.length : Int) + 1 := by omega
                    obtain ⟨zs, hz⟩ := LQ3.out.st _ _ _ _ _ _ EY.out
                    obtain ⟨u, hu, hf⟩ := own_cellx hz (j := j) (by omega)
                    clear hz
                    go_wp2_with fail
                    go_roundw
                    case rel =>
                      exact ⟨j + 1, by go_num, by omega, LQ3.out.set HZy.out _ _⟩
                    case measure => (first | (simp [intOf]; done) | (simp [intOf]; omega))
                  · have hltI : ¬ ((j : Int) < ((ns.length + 1 : Nat) : Int)) := by omega
                    have hltJ : ¬ ((j : Int) < (ns.length : Int) + 1) := by omega
                    go_upto_region 23 with fail
                    clear hlt hltI hltJ hj hj0 LQ
                    have SM := hide (fun (wq : World) (h : Below wr.heap.size wr wq) => LQ3.out.same.below h LQ3.out.size)
                    have NZ := hide (show ∀ k, Z k → (w.heap.size ≤ k ∧ k < X6) ∨ (a ≤ k ∧ k < b) from fun k => (ZI.out k).1)
                    have hsz := SZ.out
                    have hab := AB.out
                    have hd7 := D7.out
                    have E8 := F8.out _ B2.out
                    have E10 := F10.out _ B2.out
                    have EX8 := G8.out _ B2.out
                    have EX10 := G10.out _ B2.out
                    have EO2 := FO2.out _ B2.out
                    have EO3 := FO3.out _ B2.out
                    have ER2 := FR2.out _ B2.out
                    have ER3 := FR3.out _ B2.out
                    have EB2 := FB2.out _ B2.out
                    have EB3 := FB3.out _ B2.out
                    have EK := FK.out _ B2.out
                    have EBA := BBA.out.stays (B2.out.block _ BBA.out.lt)
                    have EOA := OA.out.below B2.out
                    have ERA := own_below RA.out B2.out
                    have H8 := hide (fun (wq : World) (h : Below wr.heap.size wr wq) => (SM.out wq h).own E8 (fun k hk hz => by have := LX8.out.2 k hk; have := NZ.out k hz; omega))
                    have H10 := hide (fun (wq : World) (h : Below wr.heap.size wr wq) => (SM.out wq h).own E10 (fun k hk hz => by have := LX10.out.2 k hk; have := NZ.out k hz; omega))
                    have HX8 := hide (fun (wq : World) (h : Below wr.heap.size wr wq) => EX8.stays (SM.out wq h _ EX8.lt (fun hz => by have := NZ.out _ hz; omega)))
                    have HX10 := hide (fun (wq : World) (h : Below wr.heap.size wr wq) => EX10.stays (SM.out wq h _ EX10.lt (fun hz => by have := NZ.out _ hz; omega)))
                    have HO2 := hide (fun (wq : World) (h : Below wr.heap.size wr wq) => (SM.out wq h).ords EO2 (fun k hk _ hz => by have := NZ.out k hz; omega))
                    have HO3 := hide (fun (wq : World) (h : Below wr.heap.size wr wq) => (SM.out wq h).ords EO3 (fun k hk _ hz => by have := NZ.out k hz; omega))
                    have HOA := hide (fun (wq : World) (h : Below wr.heap.size wr wq) => (SM.out wq h).ords EOA (fun k hk _ hz => by have := NZ.out k hz; omega))
                    have HR2 := hide (fun (wq : World) (h : Below wr.heap.size wr wq) => (SM.out wq h).own ER2 (fun k hk hz => by have := ER2.lt k hk; have := NZ.out k hz; omega))
                    have HR3 := hide (fun (wq : World) (h : Below wr.heap.size wr wq) => (SM.out wq h).own ER3 (fun k hk hz => by have := ER3.lt k hk; have := NZ.out k hz; omega))
                    have HRA := hide (fun (wq : World) (h : Below wr.heap.size wr wq) => (SM.out wq h).own ERA (fun k hk hz => by have := ERA.lt k hk; have := NZ.out k hz; omega))
                    have HB2 := hide (fun (wq : World) (h : Below wr.heap.size wr wq) => EB2.stays (SM.out wq h _ EB2.lt (fun hz => by have := NZ.out _ hz; omega)))
                    have HB3 := hide (fun (wq : World) (h : Below wr.heap.size wr wq) => EB3.stays (SM.out wq h _ EB3.lt (fun hz => by have := NZ.out _ hz; omega)))
                    have HBA := hide (fun (wq : World) (h : Below wr.heap.size wr wq) => EBA.stays (SM.out wq h _ EBA.lt (fun hz => by have := NZ.out _ hz; omega)))
                    have HK := hide (fun (wq : World) (h : Below wr.heap.size wr wq) => (SM.out wq h).kst EK (fun hz => by have := NZ.out _ hz; omega) (fun k hk _ hz => by have := NZ.out k hz; omega))
                    have HRL := hide (show Below w.heap.size w wr from LQ3.out.below (bstep HB0.out HBe.out) (bstep HB0.out HBe.out).size (fun k hk => by have := NZ.out k hk; omega))
                    clear E8 E10 EX8 EX10 EO2 EO3 ER2 ER3 EB2 EB3 EK EBA EOA ERA SM NZ hsz hab hd7 LQ3 F6 F8 F10 G6 G8 G10 FO1 FO2 FO3 FR1 FR2 FR3 FB1 FB2 FB3 FK EB1 EO1 ER1 EY E6 EG6 NZ1 HZa HZy SAW ZI LX6 LX8 LX10 BBA OA RA HBe B2
                    have R8L := hide (fun (wq : World) (h : Below wr.heap.size wr wq) => R8.out wq (bstep HRL.out h))
                    have SK := hide (fun (wq : World) (h : Below wr.heap.size wr wq) => (show wq.rangeAt X8 0 (ordCells o (.slice p8 o.offs.length c8)) ∧ wq.rangeAt X10 0 (ordCells o (.slice p10 o.offs.length c10)) ∧ wq.rangeAt X2 0 (bkL q1 os.length d1 q2 d2 good why) ∧ wq.rangeAt X3 0 (bkL s1 os.length e1 s2 e2 good why) ∧ wq.cell? ⟨X3, 0, none⟩ = some (.slice s1 os.length e1) ∧ wq.cell? ⟨X3, 2, none⟩ = some (.int .i64 (good : Int)) ∧ Sem.run Try.prog (convert 30 9 (.slice pq good cq)) wq = .ok (.string (bstr (ns.take good))) wq from ⟨(HX8.out _ h).range, (HX10.out _ h).range, (HB2.out _ h).range, (HB3.out _ h).range, (HB3.out _ h).c 0 (by decide), (HB3.out _ h).c 2 (by decide), conv_take (R8L.out _ h) LEN.out.2.2.1⟩))
                    have D21 := hide (fun (wq : World) (h : Below wr.heap.size wr wq) => (show Calls Try.prog 21 #[.agg (ordCells o (.slice p8 o.offs.length c8)).toArray, .agg (ordCells o (.slice p10 o.offs.length c10)).toArray] wq (fun e w' => e = .returned (.bool true) ∧ Below wq.heap.size wq w') from by
                      have q := Same_c o o (.slice p8 o.offs.length c8) (.slice p10 o.offs.length c10) wq (OffsIn.of_own (H8.out _ h) GO.out.2 (by have := GO.out.1; omega)) (OffsIn.of_own (H10.out _ h) GO.out.2 (by have := GO.out.1; omega))
                      rw [sameO_refl] at q
                      exact q))
                    have D27 := hide (fun (wq : World) (h : Below wr.heap.size wr wq) => (show Calls Try.prog 27 #[.agg (bkL q1 os.length d1 q2 d2 good why).toArray, .agg (bkL s1 os.length e1 s2 e2 good why).toArray] wq (fun e w' => e = .returned (.bool true) ∧ Below wq.heap.size wq w') from
                      SameBooked_ok (OrdsIn.of_own (HO2.out _ h) GD.out LEN.out.2.1) (OrdsIn.of_own (HO3.out _ h) GD.out LEN.out.2.1) (by rw [← HOP.out]; exact HR2.out _ h) (by rw [← HOP.out]; exact HR3.out _ h) (by rw [← HOP.out]; exact LEN.out.2.1)))
                    have hgl : (ns.take good).length = good := by rw [List.length_take, Nat.min_eq_left LEN.out.2.2.1]
                    have D29 := hide (fun (wq : World) (h : Below wr.heap.size wr wq) => Bytes_k (HK.out _ h) (by rw [hgl]; have := LEN.out; have := L8.out; omega))
                    have D30 := hide (fun (wq : World) (h : Below wr.heap.size wr wq) => KLen_c (HK.out _ h))
                    have D31 := hide (fun (wq : World) (h : Below wr.heap.size wr wq) => (show Calls Try.prog 31 #[.pointer (some ⟨kb, 0, none⟩)] wq (fun e w' => e = .returned (.int .i64 (good : Int)) ∧ w' = wq) from by
                      have q := KSize_c (HK.out _ h)
                      rw [hgl] at q
                      exact q))
                    have DG := hide (fun (wq : World) (h : Below wr.heap.size wr wq) (lv : Int) => goes_all (HBA.out _ h) (HOA.out _ h) (HRA.out _ h) (HR3.out _ h) (HO3.out _ h) GD.out LEN.out.2.2.2 lv)
                    have hgq : (good : Int) ≤ (cq : Int) := by have := LEN.out; omega
                    have hg0 : (0 : Int) ≤ (good : Int) := by omega
                    clear hgl HX8 HX10 HB2 HK HO2 HR2 H8 H10 RY8 R8L
                    refine wp_regionX (fun wq => wq.rangeAt X8 0 (ordCells o (.slice p8 o.offs.length c8)) ∧ wq.rangeAt X10 0 (ordCells o (.slice p10 o.offs.length c10)) ∧ wq.rangeAt X2 0 (bkL q1 os.length d1 q2 d2 good why) ∧ wq.rangeAt X3 0 (bkL s1 os.length e1 s2 e2 good why) ∧ wq.cell? ⟨X3, 0, none⟩ = some (.slice s1 os.length e1) ∧ wq.cell? ⟨X3, 2, none⟩ = some (.int .i64 (good : Int)) ∧ Sem.run Try.prog (convert 30 9 (.slice pq good cq)) wq = .ok (.string (bstr (ns.take good))) wq) (fun n => true) (by kernel_rfl) (SK.out _ (drewB _)) (fun hH0 => ?_)
                    have B0 := hide (drewB wr)
                    obtain ⟨wd, hwd⟩ : ∃ q, q = wr.drew := ⟨_, rfl⟩
                    rw [← hwd] at B0 hH0
                    rw [← hwd]
                    clear hwd
                    refine wpAnyX_take (i := 0) (oi := ?oi0z) (v := ?v0z) ?ho0z (by kernel_rfl) (by kernel_rfl) (by kernel_rfl) (by kernel_rfl) ?hp0z ?hy0z hH0 ?hr0z
                    case ho0z => (simp only [List.getElem?_toArray, List.getElem?_cons_succ, List.getElem?_cons_zero]; exact rfl)
                    case hp0z => exact fun _ _ _ h => h
                    case hy0z =>
                      refine yieldsIf_load_mid ?_ 29 (.tmp 8) ?_ X8 0 ?_ (ordCells o (.slice p8 o.offs.length c8)) _ ?_ Try.underlying29 ?_ ?_
                      · rfl
                      · exact rfl
                      · exact rfl
                      · exact (fun _ h => h.1)
                      · rfl
                      · rw [ordCells_len]; kernel_rfl
                    case hr0z =>
                    (try simp only [Act.put, List.setIfInBounds_toArray, List.set_cons_zero, List.set_cons_succ])
                    refine wpAnyX_take (i := 1) (oi := ?oi1z) (v := ?v1z) ?ho1z (by kernel_rfl) (by kernel_rfl) (by kernel_rfl) (by kernel_rfl) ?hp1z ?hy1z hH0 ?hr1z
                    case ho1z => (simp only [List.getElem?_toArray, List.getElem?_cons_succ, List.getElem?_cons_zero]; exact rfl)
                    case hp1z => exact fun _ _ _ h => h
                    case hy1z =>
                      refine yieldsIf_load_mid ?_ 29 (.tmp 10) ?_ X10 0 ?_ (ordCells o (.slice p10 o.offs.length c10)) _ ?_ Try.underlying29 ?_ ?_
                      · rfl
                      · exact rfl
                      · exact rfl
                      · exact (fun _ h => h.2.1)
                      · rfl
                      · rw [ordCells_len]; kernel_rfl
                    case hr1z =>
                    (try simp only [Act.put, List.setIfInBounds_toArray, List.set_cons_zero, List.set_cons_succ])
                    refine wpAnyX_pick (rs := [2]) (by kernel_rfl) (by simp) (AllX.cons (o := ?oi2rz) ?ho2rz (fun K hK => ?hr2rz) (AllX.nil))
                    case ho2rz => (simp only [List.getElem?_toArray, List.getElem?_cons_succ, List.getElem?_cons_zero]; exact rfl)
                    case hr2rz =>
                      go_simp
                      refine (D21.out _ B0.out).mono ?_
                      rintro e wg1 ⟨rfl, hb⟩
                      have B1 := hide (bstep B0.out hb)
                      clear hb
                      refine hK.out _ _ (fun _ => SK.out _ B1.out) ?_
                      clear hK K
                      (try simp only [Act.put, List.setIfInBounds_toArray, List.set_cons_zero, List.set_cons_succ])
                      have hH1 := SK.out _ B1.out
                      refine wpAnyX_take (i := 3) (oi := ?oi3z) (v := ?v3z) ?ho3z (by kernel_rfl) (by kernel_rfl) (by kernel_rfl) (by kernel_rfl) ?hp3z ?hy3z hH1 ?hr3z
                      case ho3z => (simp only [List.getElem?_toArray, List.getElem?_cons_succ, List.getElem?_cons_zero]; exact rfl)
                      case hp3z => exact fun _ _ _ h => h
                      case hy3z => (refine Or.inl ⟨by rfl, ?_⟩; intro w hSw; (try dsimp only at hSw); (try go_split_ands); go_simp; (try (with_reducible rfl)))
                      case hr3z =>
                      (try simp only [Act.put, List.setIfInBounds_toArray, List.set_cons_zero, List.set_cons_succ])
                      refine wpAnyX_take (i := 4) (oi := ?oi4z) (v := ?v4z) ?ho4z (by kernel_rfl) (by kernel_rfl) (by kernel_rfl) (by kernel_rfl) ?hp4z ?hy4z hH1 ?hr4z
                      case ho4z => (simp only [List.getElem?_toArray, List.getElem?_cons_succ, List.getElem?_cons_zero]; exact rfl)
                      case hp4z => exact fun _ _ _ h => h
                      case hy4z => (refine Or.inl ⟨by rfl, ?_⟩; intro w hSw; (try dsimp only at hSw); (try go_split_ands); go_simp; (try (with_reducible rfl)))
                      case hr4z =>
                      (try simp only [Act.put, List.setIfInBounds_toArray, List.set_cons_zero, List.set_cons_succ])
                      refine wpAnyX_take (i := 5) (oi := ?oi5z) (v := ?v5z) ?ho5z (by kernel_rfl) (by kernel_rfl) (by kernel_rfl) (by kernel_rfl) ?hp5z ?hy5z hH1 ?hr5z
                      case ho5z => (simp only [List.getElem?_toArray, List.getElem?_cons_succ, List.getElem?_cons_zero]; exact rfl)
                      case hp5z => exact fun _ _ _ h => h
                      case hy5z =>
                        refine yieldsIf_load_mid ?_ 53 (.tmp 13) ?_ X2 0 ?_ (bkL q1 os.length d1 q2 d2 good why) _ ?_ Try.underlying53 ?_ ?_
                        · rfl
                        · exact rfl
                        · exact rfl
                        · exact (fun _ h => h.2.2.1)
                        · rfl
                        · kernel_rfl
                      case hr5z =>
                      (try simp only [Act.put, List.setIfInBounds_toArray, List.set_cons_zero, List.set_cons_succ])
                      refine wpAnyX_take (i := 6) (oi := ?oi6z) (v := ?v6z) ?ho6z (by kernel_rfl) (by kernel_rfl) (by kernel_rfl) (by kernel_rfl) ?hp6z ?hy6z hH1 ?hr6z
                      case ho6z => (simp only [List.getElem?_toArray, List.getElem?_cons_succ, List.getElem?_cons_zero]; exact rfl)
                      case hp6z => exact fun _ _ _ h => h
                      case hy6z =>
                        refine yieldsIf_load_mid ?_ 53 (.tmp 14) ?_ X3 0 ?_ (bkL s1 os.length e1 s2 e2 good why) _ ?_ Try.underlying53 ?_ ?_
                        · rfl
                        · exact rfl
                        · exact rfl
                        · exact (fun _ h => h.2.2.2.1)
                        · rfl
                        · kernel_rfl
                      case hr6z =>
                      (try simp only [Act.put, List.setIfInBounds_toArray, List.set_cons_zero, List.set_cons_succ])
                      refine wpAnyX_pick (rs := [7]) (by kernel_rfl) (by simp) (AllX.cons (o := ?oi7rz) ?ho7rz (fun K hK => ?hr7rz) (AllX.nil))
                      case ho7rz => (simp only [List.getElem?_toArray, List.getElem?_cons_succ, List.getElem?_cons_zero]; exact rfl)
                      case hr7rz =>
                        go_simp
                        refine (D27.out _ B1.out).mono ?_
                        rintro e wg2 ⟨rfl, hb⟩
                        have B2 := hide (bstep B1.out hb)
                        clear hb
                        refine hK.out _ _ (fun _ => SK.out _ B2.out) ?_
                        clear hK K
                        (try simp only [Act.put, List.setIfInBounds_toArray, List.set_cons_zero, List.set_cons_succ])
                        have hH2 := SK.out _ B2.out
                        refine wpAnyX_take (i := 8) (oi := ?oi8z) (v := ?v8z) ?ho8z (by kernel_rfl) (by kernel_rfl) (by kernel_rfl) (by kernel_rfl) ?hp8z ?hy8z hH2 ?hr8z
                        case ho8z => (simp only [List.getElem?_toArray, List.getElem?_cons_succ, List.getElem?_cons_zero]; exact rfl)
                        case hp8z => exact fun _ _ _ h => h
                        case hy8z => (refine Or.inl ⟨by rfl, ?_⟩; intro w hSw; (try dsimp only at hSw); (try go_split_ands); go_simp; (try (with_reducible rfl)))
                        case hr8z =>
                        (try simp only [Act.put, List.setIfInBounds_toArray, List.set_cons_zero, List.set_cons_succ])
                        refine wpAnyX_take (i := 9) (oi := ?oi9z) (v := ?v9z) ?ho9z (by kernel_rfl) (by kernel_rfl) (by kernel_rfl) (by kernel_rfl) ?hp9z ?hy9z hH2 ?hr9z
                        case ho9z => (simp only [List.getElem?_toArray, List.getElem?_cons_succ, List.getElem?_cons_zero]; exact rfl)
                        case hp9z => exact fun _ _ _ h => h
                        case hy9z => (refine Or.inl ⟨by rfl, ?_⟩; intro w hSw; (try dsimp only at hSw); (try go_split_ands); go_simp; (try (with_reducible rfl)))
                        case hr9z =>
                        (try simp only [Act.put, List.setIfInBounds_toArray, List.set_cons_zero, List.set_cons_succ])
                        refine wpAnyX_take (i := 10) (oi := ?oi10z) (v := ?v10z) ?ho10z (by kernel_rfl) (by kernel_rfl) (by kernel_rfl) (by kernel_rfl) ?hp10z ?hy10z hH2 ?hr10z
                        case ho10z => (simp only [List.getElem?_toArray, List.getElem?_cons_succ, List.getElem?_cons_zero]; exact rfl)
                        case hp10z => exact fun _ _ _ h => h
                        case hy10z => (refine Or.inl ⟨by rfl, ?_⟩; intro w hSw; (try dsimp only at hSw); (try go_split_ands); go_simp; (try (with_reducible rfl)))
                        case hr10z =>
                        (try simp only [Act.put, List.setIfInBounds_toArray, List.set_cons_zero, List.set_cons_succ])
                        refine wpAnyX_take (i := 11) (oi := ?oi11z) (v := ?v11z) ?ho11z (by kernel_rfl) (by kernel_rfl) (by kernel_rfl) (by kernel_rfl) ?hp11z ?hy11z hH2 ?hr11z
                        case ho11z => (simp only [List.getElem?_toArray, List.getElem?_cons_succ, List.getElem?_cons_zero]; exact rfl)
                        case hp11z => exact fun _ _ _ h => h
                        case hy11z => (refine Or.inl ⟨by rfl, ?_⟩; intro w hSw; (try dsimp only at hSw); (try go_split_ands); go_simp; (try (with_reducible rfl)))
                        case hr11z =>
                        (try simp only [Act.put, List.setIfInBounds_toArray, List.set_cons_zero, List.set_cons_succ])
                        refine wpAnyX_take (i := 14) (oi := ?oi14z) (v := ?v14z) ?ho14z (by kernel_rfl) (by kernel_rfl) (by kernel_rfl) (by kernel_rfl) ?hp14z ?hy14z hH2 ?hr14z
                        case ho14z => (simp only [List.getElem?_toArray, List.getElem?_cons_succ, List.getElem?_cons_zero]; exact rfl)
                        case hp14z => exact fun _ _ _ h => h
                        case hy14z => (refine Or.inl ⟨by rfl, ?_⟩; intro w hSw; (try dsimp only at hSw); (try go_split_ands); go_simp; (try (with_reducible rfl)))
                        case hr14z =>
                        (try simp only [Act.put, List.setIfInBounds_toArray, List.set_cons_zero, List.set_cons_succ])
                        refine wpAnyX_take (i := 15) (oi := ?oi15z) (v := ?v15z) ?ho15z (by kernel_rfl) (by kernel_rfl) (by kernel_rfl) (by kernel_rfl) ?hp15z ?hy15z hH2 ?hr15z
                        case ho15z => (simp only [List.getElem?_toArray, List.getElem?_cons_succ, List.getElem?_cons_zero]; exact rfl)
                        case hp15z => exact fun _ _ _ h => h
                        case hy15z => (refine Or.inl ⟨by rfl, ?_⟩; intro w hSw; (try dsimp only at hSw); (try go_split_ands); go_simp; (try (with_reducible rfl)))
                        case hr15z =>
                        (try simp only [Act.put, List.setIfInBounds_toArray, List.set_cons_zero, List.set_cons_succ])
                        refine wpAnyX_take (i := 16) (oi := ?oi16z) (v := ?v16z) ?ho16z (by kernel_rfl) (by kernel_rfl) (by kernel_rfl) (by kernel_rfl) ?hp16z ?hy16z hH2 ?hr16z
                        case ho16z => (simp only [List.getElem?_toArray, List.getElem?_cons_succ, List.getElem?_cons_zero]; exact rfl)
                        case hp16z => exact fun _ _ _ h => h
                        case hy16z => (refine Or.inl ⟨by rfl, ?_⟩; intro w hSw; (try dsimp only at hSw); (try go_split_ands); go_simp; (try (with_reducible rfl)))
                        case hr16z =>
                        (try simp only [Act.put, List.setIfInBounds_toArray, List.set_cons_zero, List.set_cons_succ])
                        refine wpAnyX_take (i := 17) (oi := ?oi17z) (v := ?v17z) ?ho17z (by kernel_rfl) (by kernel_rfl) (by kernel_rfl) (by kernel_rfl) ?hp17z ?hy17z hH2 ?hr17z
                        case ho17z => (simp only [List.getElem?_toArray, List.getElem?_cons_succ, List.getElem?_cons_zero]; exact rfl)
                        case hp17z => exact fun _ _ _ h => h
                        case hy17z => (refine Or.inl ⟨by rfl, ?_⟩; intro w hSw; (try dsimp only at hSw); (try go_split_ands); go_simp; (try (with_reducible rfl)))
                        case hr17z =>
                        (try simp only [Act.put, List.setIfInBounds_toArray, List.set_cons_zero, List.set_cons_succ])
                        refine wpAnyX_take (i := 18) (oi := ?oi18z) (v := ?v18z) ?ho18z (by kernel_rfl) (by kernel_rfl) (by kernel_rfl) (by kernel_rfl) ?hp18z ?hy18z hH2 ?hr18z
                        case ho18z => (simp only [List.getElem?_toArray, List.getElem?_cons_succ, List.getElem?_cons_zero]; exact rfl)
                        case hp18z => exact fun _ _ _ h => h
                        case hy18z => (refine Or.inl ⟨by rfl, ?_⟩; intro w hSw; (try dsimp only at hSw); (try go_split_ands); go_simp; (try (with_reducible rfl)))
                        case hr18z =>
                        (try simp only [Act.put, List.setIfInBounds_toArray, List.set_cons_zero, List.set_cons_succ])
                        refine wpAnyX_pick (rs := [12]) (by kernel_rfl) (by simp) (AllX.cons (o := ?oi12rz) ?ho12rz (fun K hK => ?hr12rz) (AllX.nil))
                        case ho12rz => (simp only [List.getElem?_toArray, List.getElem?_cons_succ, List.getElem?_cons_zero]; exact rfl)
                        case hr12rz =>
                          go_simp
                          refine (D29.out _ B2.out).mono ?_
                          rintro e wg3 ⟨v29, rfl, o29, hb⟩
                          have B3 := hide (bstep B2.out hb)
                          have O29 := hide o29
                          clear hb o29
                          refine hK.out _ _ (fun _ => SK.out _ B3.out) ?_
                          clear hK K
                          (try simp only [Act.put, List.setIfInBounds_toArray, List.set_cons_zero, List.set_cons_succ])
                          have hH3 := SK.out _ B3.out
                          refine wpAnyX_pick (rs := [13]) (by kernel_rfl) (by simp) (AllX.cons (o := ?oi13rz) ?ho13rz (fun K hK => ?hr13rz) (AllX.nil))
                          case ho13rz => (simp only [List.getElem?_toArray, List.getElem?_cons_succ, List.getElem?_cons_zero]; exact rfl)
                          case hr13rz =>
                            have cv29 := conv_own O29.out
                            go_simp
                            refine hK.out _ _ (fun _ => SK.out _ B3.out) ?_
                            clear hK K
                            (try simp only [Act.put, List.setIfInBounds_toArray, List.set_cons_zero, List.set_cons_succ])
                            have hH4 := SK.out _ B3.out
                            refine wpAnyX_take (i := 19) (oi := ?oi19z) (v := ?v19z) ?ho19z (by kernel_rfl) (by kernel_rfl) (by kernel_rfl) (by kernel_rfl) ?hp19z ?hy19z hH4 ?hr19z
                            case ho19z => (simp only [List.getElem?_toArray, List.getElem?_cons_succ, List.getElem?_cons_zero]; exact rfl)
                            case hp19z => exact fun _ _ _ h => h
                            case hy19z => (refine Or.inl ⟨by rfl, ?_⟩; intro w hSw; (try dsimp only at hSw); (try go_split_ands); go_simp; (try (with_reducible rfl)))
                            case hr19z =>
                            (try simp only [Act.put, List.setIfInBounds_toArray, List.set_cons_zero, List.set_cons_succ])
                            refine wpAnyX_take (i := 20) (oi := ?oi20z) (v := ?v20z) ?ho20z (by kernel_rfl) (by kernel_rfl) (by kernel_rfl) (by kernel_rfl) ?hp20z ?hy20z hH4 ?hr20z
                            case ho20z => (simp only [List.getElem?_toArray, List.getElem?_cons_succ, List.getElem?_cons_zero]; exact rfl)
                            case hp20z => exact fun _ _ _ h => h
                            case hy20z => (refine Or.inl ⟨by rfl, ?_⟩; intro w hSw; (try dsimp only at hSw); (try go_split_ands); go_simp; (try (with_reducible rfl)))
                            case hr20z =>
                            (try simp only [Act.put, List.setIfInBounds_toArray, List.set_cons_zero, List.set_cons_succ])
                            refine wpAnyX_take (i := 21) (oi := ?oi21z) (v := ?v21z) ?ho21z (by kernel_rfl) (by kernel_rfl) (by kernel_rfl) (by kernel_rfl) ?hp21z ?hy21z hH4 ?hr21z
                            case ho21z => (simp only [List.getElem?_toArray, List.getElem?_cons_succ, List.getElem?_cons_zero]; exact rfl)
                            case hp21z => exact fun _ _ _ h => h
                            case hy21z => (refine Or.inl ⟨by rfl, ?_⟩; intro w hSw; (try dsimp only at hSw); (try go_split_ands); go_simp; (try (with_reducible rfl)))
                            case hr21z =>
                            (try simp only [Act.put, List.setIfInBounds_toArray, List.set_cons_zero, List.set_cons_succ])
                            refine wpAnyX_take (i := 22) (oi := ?oi22z) (v := ?v22z) ?ho22z (by kernel_rfl) (by kernel_rfl) (by kernel_rfl) (by kernel_rfl) ?hp22z ?hy22z hH4 ?hr22z
                            case ho22z => (simp only [List.getElem?_toArray, List.getElem?_cons_succ, List.getElem?_cons_zero]; exact rfl)
                            case hp22z => exact fun _ _ _ h => h
                            case hy22z => (refine Or.inl ⟨by rfl, ?_⟩; intro w hSw; (try dsimp only at hSw); (try go_split_ands); go_simp; (try (with_reducible rfl)))
                            case hr22z =>
                            (try simp only [Act.put, List.setIfInBounds_toArray, List.set_cons_zero, List.set_cons_succ])
                            refine wpAnyX_take (i := 24) (oi := ?oi24z) (v := ?v24z) ?ho24z (by kernel_rfl) (by kernel_rfl) (by kernel_rfl) (by kernel_rfl) ?hp24z ?hy24z hH4 ?hr24z
                            case ho24z => (simp only [List.getElem?_toArray, List.getElem?_cons_succ, List.getElem?_cons_zero]; exact rfl)
                            case hp24z => exact fun _ _ _ h => h
                            case hy24z => (refine Or.inl ⟨by rfl, ?_⟩; intro w hSw; (try dsimp only at hSw); (try go_split_ands); go_simp; (try (with_reducible rfl)))
                            case hr24z =>
                            (try simp only [Act.put, List.setIfInBounds_toArray, List.set_cons_zero, List.set_cons_succ])
                            refine wpAnyX_take (i := 25) (oi := ?oi25z) (v := ?v25z) ?ho25z (by kernel_rfl) (by kernel_rfl) (by kernel_rfl) (by kernel_rfl) ?hp25z ?hy25z hH4 ?hr25z
                            case ho25z => (simp only [List.getElem?_toArray, List.getElem?_cons_succ, List.getElem?_cons_zero]; exact rfl)
                            case hp25z => exact fun _ _ _ h => h
                            case hy25z => (refine Or.inl ⟨by rfl, ?_⟩; intro w hSw; (try dsimp only at hSw); (try go_split_ands); go_simp; (try (with_reducible rfl)))
                            case hr25z =>
                            (try simp only [Act.put, List.setIfInBounds_toArray, List.set_cons_zero, List.set_cons_succ])
                            refine wpAnyX_take (i := 26) (oi := ?oi26z) (v := ?v26z) ?ho26z (by kernel_rfl) (by kernel_rfl) (by kernel_rfl) (by kernel_rfl) ?hp26z ?hy26z hH4 ?hr26z
                            case ho26z => (simp only [List.getElem?_toArray, List.getElem?_cons_succ, List.getElem?_cons_zero]; exact rfl)
                            case hp26z => exact fun _ _ _ h => h
                            case hy26z => (refine Or.inl ⟨by rfl, ?_⟩; intro w hSw; (try dsimp only at hSw); (try go_split_ands); go_simp; (try (with_reducible rfl)))
                            case hr26z =>
                            (try simp only [Act.put, List.setIfInBounds_toArray, List.set_cons_zero, List.set_cons_succ])
                            refine wpAnyX_pick (rs := [23]) (by kernel_rfl) (by simp) (AllX.cons (o := ?oi23rz) ?ho23rz (fun K hK => ?hr23rz) (AllX.nil))
                            case ho23rz => (simp only [List.getElem?_toArray, List.getElem?_cons_succ, List.getElem?_cons_zero]; exact rfl)
                            case hr23rz =>
                              go_simp
                              refine (D30.out _ B3.out).mono ?_
                              rintro e wz ⟨rfl, hz⟩
                              subst wz
                              refine hK.out _ _ (fun _ => SK.out _ B3.out) ?_
                              clear hK K
                              (try simp only [Act.put, List.setIfInBounds_toArray, List.set_cons_zero, List.set_cons_succ])
                              have hH5 := SK.out _ B3.out
                              refine wpAnyX_take (i := 27) (oi := ?oi27z) (v := ?v27z) ?ho27z (by kernel_rfl) (by kernel_rfl) (by kernel_rfl) (by kernel_rfl) ?hp27z ?hy27z hH5 ?hr27z
                              case ho27z => (simp only [List.getElem?_toArray, List.getElem?_cons_succ, List.getElem?_cons_zero]; exact rfl)
                              case hp27z => exact fun _ _ _ h => h
                              case hy27z => (refine Or.inl ⟨by rfl, ?_⟩; intro w hSw; (try dsimp only at hSw); (try go_split_ands); go_simp; (try (with_reducible rfl)))
                              case hr27z =>
                              (try simp only [Act.put, List.setIfInBounds_toArray, List.set_cons_zero, List.set_cons_succ])
                              refine wpAnyX_take (i := 28) (oi := ?oi28z) (v := ?v28z) ?ho28z (by kernel_rfl) (by kernel_rfl) (by kernel_rfl) (by kernel_rfl) ?hp28z ?hy28z hH5 ?hr28z
                              case ho28z => (simp only [List.getElem?_toArray, List.getElem?_cons_succ, List.getElem?_cons_zero]; exact rfl)
                              case hp28z => exact fun _ _ _ h => h
                              case hy28z => (refine Or.inl ⟨by rfl, ?_⟩; intro w hSw; (try dsimp only at hSw); (try go_split_ands); go_simp; (try (with_reducible rfl)))
                              case hr28z =>
                              (try simp only [Act.put, List.setIfInBounds_toArray, List.set_cons_zero, List.set_cons_succ])
                              refine wpAnyX_take (i := 29) (oi := ?oi29z) (v := ?v29z) ?ho29z (by kernel_rfl) (by kernel_rfl) (by kernel_rfl) (by kernel_rfl) ?hp29z ?hy29z hH5 ?hr29z
                              case ho29z => (simp only [List.getElem?_toArray, List.getElem?_cons_succ, List.getElem?_cons_zero]; exact rfl)
                              case hp29z => exact fun _ _ _ h => h
                              case hy29z => (refine Or.inl ⟨by rfl, ?_⟩; intro w hSw; (try dsimp only at hSw); (try go_split_ands); go_simp; (try (with_reducible rfl)))
                              case hr29z =>
                              (try simp only [Act.put, List.setIfInBounds_toArray, List.set_cons_zero, List.set_cons_succ])
                              refine wpAnyX_take (i := 30) (oi := ?oi30z) (v := ?v30z) ?ho30z (by kernel_rfl) (by kernel_rfl) (by kernel_rfl) (by kernel_rfl) ?hp30z ?hy30z hH5 ?hr30z
                              case ho30z => (simp only [List.getElem?_toArray, List.getElem?_cons_succ, List.getElem?_cons_zero]; exact rfl)
                              case hp30z => exact fun _ _ _ h => h
                              case hy30z => (refine Or.inl ⟨by rfl, ?_⟩; intro w hSw; (try dsimp only at hSw); (try go_split_ands); go_simp; (try (with_reducible rfl)))
                              case hr30z =>
                              (try simp only [Act.put, List.setIfInBounds_toArray, List.set_cons_zero, List.set_cons_succ])
                              refine wpAnyX_take (i := 32) (oi := ?oi32z) (v := ?v32z) ?ho32z (by kernel_rfl) (by kernel_rfl) (by kernel_rfl) (by kernel_rfl) ?hp32z ?hy32z hH5 ?hr32z
                              case ho32z => (simp only [List.getElem?_toArray, List.getElem?_cons_succ, List.getElem?_cons_zero]; exact rfl)
                              case hp32z => exact fun _ _ _ h => h
                              case hy32z => (refine Or.inl ⟨by rfl, ?_⟩; intro w hSw; (try dsimp only at hSw); (try go_split_ands); go_simp; (try (with_reducible rfl)))
                              case hr32z =>
                              (try simp only [Act.put, List.setIfInBounds_toArray, List.set_cons_zero, List.set_cons_succ])
                              refine wpAnyX_take (i := 33) (oi := ?oi33z) (v := ?v33z) ?ho33z (by kernel_rfl) (by kernel_rfl) (by kernel_rfl) (by kernel_rfl) ?hp33z ?hy33z hH5 ?hr33z
                              case ho33z => (simp only [List.getElem?_toArray, List.getElem?_cons_succ, List.getElem?_cons_zero]; exact rfl)
                              case hp33z => exact fun _ _ _ h => h
                              case hy33z => (refine Or.inl ⟨by rfl, ?_⟩; intro w hSw; (try dsimp only at hSw); (try go_split_ands); go_simp; (try (with_reducible rfl)))
                              case hr33z =>
                              (try simp only [Act.put, List.setIfInBounds_toArray, List.set_cons_zero, List.set_cons_succ])
                              refine wpAnyX_pick (rs := [31]) (by kernel_rfl) (by simp) (AllX.cons (o := ?oi31rz) ?ho31rz (fun K hK => ?hr31rz) (AllX.nil))
                              case ho31rz => (simp only [List.getElem?_toArray, List.getElem?_cons_succ, List.getElem?_cons_zero]; exact rfl)
                              case hr31rz =>
                                go_simp
                                refine (D31.out _ B3.out).mono ?_
                                rintro e wz ⟨rfl, hz⟩
                                subst wz
                                refine hK.out _ _ (fun _ => SK.out _ B3.out) ?_
                                clear hK K
                                (try simp only [Act.put, List.setIfInBounds_toArray, List.set_cons_zero, List.set_cons_succ])
                                have hH6 := SK.out _ B3.out
                                refine wpAnyX_take (i := 34) (oi := ?oi34z) (v := ?v34z) ?ho34z (by kernel_rfl) (by kernel_rfl) (by kernel_rfl) (by kernel_rfl) ?hp34z ?hy34z hH6 ?hr34z
                                case ho34z => (simp only [List.getElem?_toArray, List.getElem?_cons_succ, List.getElem?_cons_zero]; exact rfl)
                                case hp34z => exact fun _ _ _ h => h
                                case hy34z => (refine Or.inl ⟨by rfl, ?_⟩; intro w hSw; (try dsimp only at hSw); (try go_split_ands); go_simp; (try (with_reducible rfl)))
                                case hr34z =>
                                (try simp only [Act.put, List.setIfInBounds_toArray, List.set_cons_zero, List.set_cons_succ])
                                refine wpAnyX_take (i := 35) (oi := ?oi35z) (v := ?v35z) ?ho35z (by kernel_rfl) (by kernel_rfl) (by kernel_rfl) (by kernel_rfl) ?hp35z ?hy35z hH6 ?hr35z
                                case ho35z => (simp only [List.getElem?_toArray, List.getElem?_cons_succ, List.getElem?_cons_zero]; exact rfl)
                                case hp35z => exact fun _ _ _ h => h
                                case hy35z => (refine Or.inl ⟨by rfl, ?_⟩; intro w hSw; (try dsimp only at hSw); (try go_split_ands); go_simp; (try (with_reducible rfl)))
                                case hr35z =>
                                (try simp only [Act.put, List.setIfInBounds_toArray, List.set_cons_zero, List.set_cons_succ])
                                refine wpAnyX_done (by kernel_rfl) ?_ _
                                clear SK D21 D27 D29 D30 D31
                                have y0 : wg3.cell? ⟨X3, 0, none⟩ = some (.slice s1 os.length e1) := (HB3.out _ B3.out).c 0 (by decide)
                                have y1 : wg3.cell? ⟨X3, 1, none⟩ = some (.slice s2 os.length e2) := (HB3.out _ B3.out).c 1 (by decide)
                                go_wp2_with (first
                                  | (go_at_call 32; (apply Calls.mono; focus (with_reducible exact DG.out _ B3.out leave)); rintro e wg5 ⟨rfl, hb⟩; have B5 := hide (bstep B3.out hb); have z0 : wg5.cell? ⟨X3, 0, none⟩ = some (.slice s1 os.length e1) := (HB3.out _ B5.out).c 0 (by decide); have z1 : wg5.cell? ⟨X3, 1, none⟩ = some (.slice s2 os.length e2) := (HB3.out _ B5.out).c 1 (by decide); clear hb)
                                  | (go_at_call 32; (apply Calls.mono; focus (with_reducible exact DG.out _ B5.out 0)); rintro e wg6 ⟨rfl, hb⟩; have B6 := hide (bstep B5.out hb); have CW6 := hide (works_c wg6); clear hb)
                                  | (go_at_call 9; (apply Calls.mono; focus (with_reducible exact CW6.out)); rintro e wg7 ⟨rfl, hb⟩; have B7 := hide (bstep B6.out hb); clear hb))
                                refine bodyPost_ret (v := .bool true) (by simp [results, Try.f5, go_sem]) rfl ⟨rfl, bstep HRL.out B7.out⟩
end Go.Proofs.Ytalnipjaekpbhaa
