import Derived.Test.YtalnipjaekpbhaaL56
import Derived.Deep.CutBlock
import Derived.BigQuiet
namespace Go.Proofs.Ytalnipjaekpbhaa
open Go.ChangeShapes Go.WideShapes Go.ChangeAt Go.RowKit Go.Deep
set_option linter.unusedSimpArgs false
set_option linter.unusedVariables false

theorem OrdsIn.at_j {w : World} {p : Option Addr} {n c : Nat} {ls : List Ord} {lvs : List Value} (h : OrdsIn w (.slice p n c) ls lvs) {j : Nat} (hj : j < ls.length) : ∃ b o pv cv, p = some ⟨b, o, none⟩ ∧ lvs.getD j undef = .slice pv (ls.getD j (zeroO 0)).offs.length cv ∧ b < w.heap.size ∧ (∀ w', Below w.heap.size w w' → w'.rangeAt b (o + j * 18) (ordCells (ls.getD j (zeroO 0)) (.slice pv (ls.getD j (zeroO 0)).offs.length cv))) ∧ OffsIn w (.slice pv (ls.getD j (zeroO 0)).offs.length cv) (ls.getD j (zeroO 0)).offs := by
  obtain ⟨b, o, c2, e, hb, hc⟩ := h.at_ j hj
  injection e with e _ _
  have ho := h.offs j hj
  obtain ⟨pv, cv, hv⟩ := ho.val
  rw [hv] at ho hc
  refine ⟨b, o, pv, cv, e, hv, hb, fun w' hbl q u hu => ?_, ho⟩
  have hq := (List.getElem?_eq_some_iff.1 hu).1
  rw [ordCells_len] at hq
  exact (hbl.cell (p := ⟨b, o + j * 18 + q, none⟩) hb).trans ((hc q hq).trans hu)
set_option maxRecDepth 100000 in
set_option maxHeartbeats 4000000 in
theorem SameOrders_ok {w : World} {va vb : Value} {la lb : List Ord} {lva lvb : List Value} (ha : OrdsIn w va la lva) (hb : OrdsIn w vb lb lvb) (hl : la.length = lb.length) (hs : ∀ i, i < la.length → sameO (la.getD i (zeroO 0)) (lb.getD i (zeroO 0)) = true) : Calls Try.prog 35 #[va, vb] w fun e w' => e = .returned (.bool true) ∧ Below w.heap.size w w' := by
  obtain ⟨p, c, e⟩ := ha.val
  subst e
  obtain ⟨q, d, e⟩ := hb.val
  subst e
  obtain ⟨n, hn⟩ : ∃ n, n = la.length := ⟨_, rfl⟩
  have hn2 : lb.length = n := by omega
  have hln := ha.len
  rw [← hn] at ha hln
  rw [hn2] at hb
  rw [← hn, hn2]
  have HA := hide ha
  have HB := hide hb
  have HS := hide hs
  have HN := hide hn
  have HN2 := hide hn2
  clear ha hb hs hl hn hn2
  go_enter Try.func35, Try.ntmps35
  go_wp2_with fail
  go_loopw [5] (fun v5 wr => ∃ j : Nat, v5 = .int .i64 (j : Int) ∧ j ≤ n ∧ Below w.heap.size w wr) (fun v5 _ => n - (intOf v5).toNat)
  case atStart => exact ⟨0, rfl, Nat.zero_le _, Below.refl _ _⟩
  case round =>
    obtain ⟨j, rfl, hj, hbw⟩ := hrel
    have HBW := hide hbw
    clear hbw
    have hj0 : (0 : Int) ≤ (j : Int) := by omega
    by_cases hlt : j < n
    · have hltI : (j : Int) < (n : Int) := by omega
      have hHA := HA.out.below HBW.out
      have hHB := HB.out.below HBW.out
      obtain ⟨ba, oa, pa, ca, e1, ea, hba, ra, ia⟩ := hHA.at_j (j := j) (by rw [← HN.out]; exact hlt)
      obtain ⟨bb, ob, pb, cb, e2, eb, hbb, rb, ib⟩ := hHB.at_j (j := j) (by rw [HN2.out]; exact hlt)
      subst e1 e2
      obtain ⟨A, hA⟩ : ∃ A, A = la.getD j (zeroO 0) := ⟨_, rfl⟩
      obtain ⟨B, hB⟩ : ∃ A, A = lb.getD j (zeroO 0) := ⟨_, rfl⟩
      have hss := HS.out j (by rw [← HN.out]; exact hlt)
      rw [← hA, ← hB] at hss
      rw [← hA] at ra ia
      rw [← hB] at rb ib
      have SK := hide (fun (wq : World) (h : Below wr.heap.size wr wq) => (show wq.rangeAt ba (oa + j * 18) (ordCells A (.slice pa A.offs.length ca)) ∧ wq.rangeAt bb (ob + j * 18) (ordCells B (.slice pb B.offs.length cb)) from ⟨ra _ h, rb _ h⟩))
      have C21 := hide (fun (wq : World) (h : Below wr.heap.size wr wq) => (show Calls Try.prog 21 #[.agg (ordCells A (.slice pa A.offs.length ca)).toArray, .agg (ordCells B (.slice pb B.offs.length cb)).toArray] wq (fun e w' => e = .returned (.bool true) ∧ Below wq.heap.size wq w') from by
        have q := Same_c A B (.slice pa A.offs.length ca) (.slice pb B.offs.length cb) wq (ia.below h) (ib.below h)
        rw [hss] at q; exact q))
      clear ra rb ia ib hss hA hB hHA hHB ea eb hba hbb
      go_upto_region 6 with fail
      refine wp_regionX (fun wq => wq.rangeAt ba (oa + j * 18) (ordCells A (.slice pa A.offs.length ca)) ∧ wq.rangeAt bb (ob + j * 18) (ordCells B (.slice pb B.offs.length cb))) (fun n => true) (by kernel_rfl) (SK.out _ (drewB _)) (fun hH0 => ?_)
      have B0 := hide (drewB wr)
      obtain ⟨wd, hwd⟩ : ∃ q, q = wr.drew := ⟨_, rfl⟩
      rw [← hwd] at B0 hH0
      rw [← hwd]
      clear hwd
      refine wpAnyX_take (i := 0) (oi := ?oi0) (v := ?v0) ?ho0 (by kernel_rfl) (by kernel_rfl) (by kernel_rfl) (by kernel_rfl) ?hp0 ?hy0 hH0 ?hr0
      case ho0 => (simp only [List.getElem?_toArray, List.getElem?_cons_succ, List.getElem?_cons_zero]; exact rfl)
      case hp0 => exact fun _ _ _ h => h
      case hy0 => (refine Or.inl ⟨by rfl, ?_⟩; intro w hSw; (try dsimp only at hSw); (try go_split_ands); go_simp; (try (with_reducible rfl)))
      case hr0 =>
      (try simp only [Act.put, List.setIfInBounds_toArray, List.set_cons_zero, List.set_cons_succ])
      refine wpAnyX_take (i := 1) (oi := ?oi1) (v := ?v1) ?ho1 (by kernel_rfl) (by kernel_rfl) (by kernel_rfl) (by kernel_rfl) ?hp1 ?hy1 hH0 ?hr1
      case ho1 => (simp only [List.getElem?_toArray, List.getElem?_cons_succ, List.getElem?_cons_zero]; exact rfl)
      case hp1 => exact fun _ _ _ h => h
      case hy1 => (refine Or.inl ⟨by rfl, ?_⟩; intro w hSw; (try dsimp only at hSw); (try go_split_ands); go_simp; (try (with_reducible rfl)))
      case hr1 =>
      (try simp only [Act.put, List.setIfInBounds_toArray, List.set_cons_zero, List.set_cons_succ])
      refine wpAnyX_take (i := 4) (oi := ?oi4) (v := ?v4) ?ho4 (by kernel_rfl) (by kernel_rfl) (by kernel_rfl) (by kernel_rfl) ?hp4 ?hy4 hH0 ?hr4
      case ho4 => (simp only [List.getElem?_toArray, List.getElem?_cons_succ, List.getElem?_cons_zero]; exact rfl)
      case hp4 => exact fun _ _ _ h => h
      case hy4 => (refine Or.inl ⟨by rfl, ?_⟩; intro w hSw; (try dsimp only at hSw); (try go_split_ands); go_simp; (try (with_reducible rfl)))
      case hr4 =>
      (try simp only [Act.put, List.setIfInBounds_toArray, List.set_cons_zero, List.set_cons_succ])
      refine wpAnyX_take (i := 5) (oi := ?oi5) (v := ?v5) ?ho5 (by kernel_rfl) (by kernel_rfl) (by kernel_rfl) (by kernel_rfl) ?hp5 ?hy5 hH0 ?hr5
      case ho5 => (simp only [List.getElem?_toArray, List.getElem?_cons_succ, List.getElem?_cons_zero]; exact rfl)
      case hp5 => exact fun _ _ _ h => h
      case hy5 => (refine Or.inl ⟨by rfl, ?_⟩; intro w hSw; (try dsimp only at hSw); (try go_split_ands); go_simp; (try (with_reducible rfl)))
      case hr5 =>
      (try simp only [Act.put, List.setIfInBounds_toArray, List.set_cons_zero, List.set_cons_succ])
      refine wpAnyX_take (i := 2) (oi := ?oi2) (v := ?v2) ?ho2 (by kernel_rfl) (by kernel_rfl) (by kernel_rfl) (by kernel_rfl) ?hp2 ?hy2 hH0 ?hr2
      case ho2 => (simp only [List.getElem?_toArray, List.getElem?_cons_succ, List.getElem?_cons_zero]; exact rfl)
      case hp2 => exact fun _ _ _ h => h
      case hy2 => (refine Or.inl ⟨by rfl, ?_⟩; intro w hSw; (try dsimp only at hSw); (try go_split_ands); go_simp; (try (with_reducible rfl)))
      case hr2 =>
      (try simp only [Act.put, List.setIfInBounds_toArray, List.set_cons_zero, List.set_cons_succ])
      refine wpAnyX_take (i := 6) (oi := ?oi6) (v := ?v6) ?ho6 (by kernel_rfl) (by kernel_rfl) (by kernel_rfl) (by kernel_rfl) ?hp6 ?hy6 hH0 ?hr6
      case ho6 => (simp only [List.getElem?_toArray, List.getElem?_cons_succ, List.getElem?_cons_zero]; exact rfl)
      case hp6 => exact fun _ _ _ h => h
      case hy6 => (refine Or.inl ⟨by rfl, ?_⟩; intro w hSw; (try dsimp only at hSw); (try go_split_ands); go_simp; (try (with_reducible rfl)))
      case hr6 =>
      (try simp only [Act.put, List.setIfInBounds_toArray, List.set_cons_zero, List.set_cons_succ])
      refine wpAnyX_take (i := 3) (oi := ?oi3) (v := ?v3) ?ho3 (by kernel_rfl) (by kernel_rfl) (by kernel_rfl) (by kernel_rfl) ?hp3 ?hy3 hH0 ?hr3
      case ho3 => (simp only [List.getElem?_toArray, List.getElem?_cons_succ, List.getElem?_cons_zero]; exact rfl)
      case hp3 => exact fun _ _ _ h => h
      case hy3 =>
        refine yieldsIf_load_mid ?_ 29 (.tmp 19) ?_ ba (oa + j * 18) ?_ (ordCells A (.slice pa A.offs.length ca)) _ ?_ Try.underlying29 ?_ ?_
        · rfl
        · exact rfl
        · exact rfl
        · exact (fun _ h => h.1)
        · rfl
        · rw [ordCells_len]; kernel_rfl
      case hr3 =>
      (try simp only [Act.put, List.setIfInBounds_toArray, List.set_cons_zero, List.set_cons_succ])
      refine wpAnyX_take (i := 7) (oi := ?oi7) (v := ?v7) ?ho7 (by kernel_rfl) (by kernel_rfl) (by kernel_rfl) (by kernel_rfl) ?hp7 ?hy7 hH0 ?hr7
      case ho7 => (simp only [List.getElem?_toArray, List.getElem?_cons_succ, List.getElem?_cons_zero]; exact rfl)
      case hp7 => exact fun _ _ _ h => h
      case hy7 =>
        refine yieldsIf_load_mid ?_ 29 (.tmp 23) ?_ bb (ob + j * 18) ?_ (ordCells B (.slice pb B.offs.length cb)) _ ?_ Try.underlying29 ?_ ?_
        · rfl
        · exact rfl
        · exact rfl
        · exact (fun _ h => h.2)
        · rfl
        · rw [ordCells_len]; kernel_rfl
      case hr7 =>
      (try simp only [Act.put, List.setIfInBounds_toArray, List.set_cons_zero, List.set_cons_succ])
      refine wpAnyX_pick (rs := [8]) (by kernel_rfl) (by simp) (AllX.cons (o := ?oi8r) ?ho8r (fun K hK => ?hr8r) (AllX.nil))
      case ho8r => (simp only [List.getElem?_toArray, List.getElem?_cons_succ, List.getElem?_cons_zero]; exact rfl)
      case hr8r =>
        go_simp
        refine (C21.out _ B0.out).mono ?_
        rintro e w2 ⟨rfl, hb⟩
        have B1 := hide (bstep B0.out hb)
        clear hb
        refine hK.out _ _ (fun _ => SK.out _ B1.out) ?_
        clear hK K
        (try simp only [Act.put, List.setIfInBounds_toArray, List.set_cons_zero, List.set_cons_succ])
        have hH1 := SK.out _ B1.out
        refine wpAnyX_take (i := 9) (oi := ?oi9) (v := ?v9) ?ho9 (by kernel_rfl) (by kernel_rfl) (by kernel_rfl) (by kernel_rfl) ?hp9 ?hy9 hH1 ?hr9
        case ho9 => (simp only [List.getElem?_toArray, List.getElem?_cons_succ, List.getElem?_cons_zero]; exact rfl)
        case hp9 => exact fun _ _ _ h => h
        case hy9 => (refine Or.inl ⟨by rfl, ?_⟩; intro w hSw; (try dsimp only at hSw); (try go_split_ands); go_simp; (try (with_reducible rfl)))
        case hr9 =>
        (try simp only [Act.put, List.setIfInBounds_toArray, List.set_cons_zero, List.set_cons_succ])
        refine wpAnyX_done (by kernel_rfl) ?_ _
        go_wp2_with fail
        go_roundw
        case rel =>
          exact ⟨j + 1, by go_num, by omega, bstep HBW.out B1.out⟩
        case measure => (first | (simp [intOf]; done) | (simp [intOf]; omega))
    · have hltI : ¬ ((j : Int) < (n : Int)) := by omega
      go_wp2_with fail
      refine bodyPost_ret (v := .bool true) (by simp [results, Try.f35, go_sem]) rfl ⟨rfl, HBW.out⟩
theorem placeV_len (ps : List Nat) : (placeV ps).length = ps.length := by unfold placeV; exact List.length_map _
theorem place_at {w : World} {B : Nat} {p : Option Addr} {n c : Nat} {ps : List Nat} (h : w.ownsRow B 3 1 (.slice p n c) n (placeV ps)) {j : Nat} (hj : j < n) : ∃ g, p = some ⟨g, 0, none⟩ ∧ g < w.heap.size ∧ w.cell? ⟨g, j, none⟩ = some (.int .i64 (ps.getD j 0 : Int)) := by
  obtain ⟨g, c2, e, -, -⟩ := h.form (by omega)
  injection e with e _ ec
  subst e ec
  have hl := h.1
  rw [placeV_len] at hl
  refine ⟨g, rfl, (h.lt g rfl).2, ?_⟩
  rw [h.cellAt j (by omega)]
  unfold placeV
  rw [List.getElem?_map, List.getElem?_eq_getElem (by omega), List.getD_eq_getElem?_getD, List.getElem?_eq_getElem (by omega)]; rfl
set_option maxRecDepth 100000 in
set_option maxHeartbeats 4000000 in
theorem SameBooked_ok {w : World} {va vb pa pb : Value} {la : List Ord} {lva lvb : List Value} {ps : List Nat} {B1 B2 good : Nat} {why : Int} (ha : OrdsIn w va la lva) (hb : OrdsIn w vb la lvb) (hp : w.ownsRow B1 3 1 pa ps.length (placeV ps)) (hq : w.ownsRow B2 3 1 pb ps.length (placeV ps)) (hln : ps.length ≤ 1099511627776) : Calls Try.prog 27 #[.agg #[va, pa, .int .i64 (good : Int), .int .i64 why], .agg #[vb, pb, .int .i64 (good : Int), .int .i64 why]] w fun e w' => e = .returned (.bool true) ∧ Below w.heap.size w w' := by
  obtain ⟨oa, ca, e⟩ := ha.val
  subst e
  obtain ⟨ob, cb, e⟩ := hb.val
  subst e
  obtain ⟨pp, cp, e⟩ := own_any hp
  subst e
  obtain ⟨qp, cq, e⟩ := own_any hq
  subst e
  obtain ⟨n, hn⟩ : ∃ n, n = ps.length := ⟨_, rfl⟩
  rw [← hn] at hp hq hln
  rw [← hn]
  clear hn
  obtain ⟨X, hX⟩ : ∃ X, X = w.heap.size := ⟨_, rfl⟩
  obtain ⟨Y, hY⟩ : ∃ X, X = w.heap.size + 1 := ⟨_, rfl⟩
  obtain ⟨W, hW⟩ : ∃ W, W = (w.alloc (.cells #[.slice oa la.length ca, .slice pp n cp, .int .i64 (good : Int), .int .i64 why] 53)).alloc (.cells #[.slice ob la.length cb, .slice qp n cq, .int .i64 (good : Int), .int .i64 why] 53) := ⟨_, rfl⟩
  have hb0 : Below w.heap.size w W := by
    have q : Below w.heap.size w (w.alloc (.cells #[.slice oa la.length ca, .slice pp n cp, .int .i64 (good : Int), .int .i64 why] 53)) := (Below.refl _ _).alloc (Nat.le_refl _) _
    rw [hW]; exact q.alloc q.size _
  have bx : BookBox W X (.slice oa la.length ca) (.slice pp n cp) good why := by
    rw [hW, hX]
    refine ⟨fun j hj => ?_, fun j => by simp [go_sem]⟩
    obtain rfl | rfl | rfl | rfl : j = 0 ∨ j = 1 ∨ j = 2 ∨ j = 3 := by omega
    all_goals simp [go_sem, bookedV]
  have bY : BookBox W Y (.slice ob la.length cb) (.slice qp n cq) good why := by
    rw [hW, hY]
    refine ⟨fun j hj => ?_, fun j => by simp [go_sem]⟩
    obtain rfl | rfl | rfl | rfl : j = 0 ∨ j = 1 ∨ j = 2 ∨ j = 3 := by omega
    all_goals simp [go_sem, bookedV]
  have x0 : W.cell? ⟨X, 0, none⟩ = some (.slice oa la.length ca) := bx.c 0 (by decide)
  have x1 : W.cell? ⟨X, 1, none⟩ = some (.slice pp n cp) := bx.c 1 (by decide)
  have x2 : W.cell? ⟨X, 2, none⟩ = some (.int .i64 (good : Int)) := bx.c 2 (by decide)
  have x3 : W.cell? ⟨X, 3, none⟩ = some (.int .i64 why) := bx.c 3 (by decide)
  have y0 : W.cell? ⟨Y, 0, none⟩ = some (.slice ob la.length cb) := bY.c 0 (by decide)
  have y1 : W.cell? ⟨Y, 1, none⟩ = some (.slice qp n cq) := bY.c 1 (by decide)
  have y2 : W.cell? ⟨Y, 2, none⟩ = some (.int .i64 (good : Int)) := bY.c 2 (by decide)
  have y3 : W.cell? ⟨Y, 3, none⟩ = some (.int .i64 why) := bY.c 3 (by decide)
  have CS := hide (SameOrders_ok (ha.below hb0) (hb.below hb0) rfl (fun i _ => sameO_refl _))
  have HP := hide (own_below hp hb0)
  have HQ := hide (own_below hq hb0)
  have BX := hide bx
  have BY := hide bY
  have HB0 := hide hb0
  have HW := hide hW
  clear ha hb hp hq hb0 bx bY hW
  go_enter Try.func27, Try.ntmps27
  go_upto_region 1 with fail
  rw [← HW.out, ← hY, ← hX]
  clear hX hY
  go_wp2_with (go_at_call 35; (apply Calls.mono; focus (exact CS.out)); rintro e w1 ⟨rfl, hb⟩; have HB1 := hide hb; have z0 := cell_stay x2 (hb.block _ BX.out.lt); have z1 := cell_stay y2 (hb.block _ BY.out.lt); have z2 := cell_stay x3 (hb.block _ BX.out.lt); have z3 := cell_stay y3 (hb.block _ BY.out.lt); have z4 := cell_stay x1 (hb.block _ BX.out.lt); have z5 := cell_stay y1 (hb.block _ BY.out.lt); have XF := hide (BX.out.stays (hb.block _ BX.out.lt)); have YF := hide (BY.out.stays (hb.block _ BY.out.lt)); have P1 := hide (own_below HP.out hb); have Q1 := hide (own_below HQ.out hb); clear hb)
  clear x0 x1 x2 x3 y0 y1 y2 y3 z0 z1 z2 z3 CS HP HQ BX BY
  go_loopw [5] (fun v5 wr => ∃ j : Nat, v5 = .int .i64 (j : Int) ∧ j ≤ n ∧ wr.heap = w1.heap ∧ Below w1.heap.size w1 wr) (fun v5 _ => n - (intOf v5).toNat)
  case atStart => exact ⟨0, rfl, Nat.zero_le _, rfl, Below.refl _ _⟩
  case round =>
    obtain ⟨j, rfl, hj, hh, hbw⟩ := hrel
    have HBW := hide hbw
    have HHH := hide hh
    have hj0 : (0 : Int) ≤ (j : Int) := by omega
    have c1 := cell_stay z4 (show wr.heap[X]? = w1.heap[X]? by rw [hh])
    have d1 := cell_stay z5 (show wr.heap[Y]? = w1.heap[Y]? by rw [hh])
    clear hbw
    by_cases hlt : j < n
    · have hltI : (j : Int) < (n : Int) := by omega
      obtain ⟨g, e1, hg, cg⟩ := place_at (own_below P1.out HBW.out) hlt
      obtain ⟨k, e2, hk, ck⟩ := place_at (own_below Q1.out HBW.out) hlt
      subst e1 e2
      clear hh
      go_wp2_with fail
      go_quiet (fail)
      go_wp2_with fail
      go_roundw
      case rel =>
        exact ⟨j + 1, by go_num, by omega, HHH.out, bdrewN HBW.out _⟩
      case measure => (first | (simp [intOf]; done) | (simp [intOf]; omega))
    · have hltI : ¬ ((j : Int) < (n : Int)) := by omega
      clear hh
      go_wp2_with fail
      refine bodyPost_ret (v := .bool true) (by simp [results, Try.f27, go_sem]) rfl ⟨rfl, HB0.out.trans ((HB1.out.trans (HBW.out.mono HB1.out.size)).mono HB0.out.size)⟩
end Go.Proofs.Ytalnipjaekpbhaa
