import Derived.Test.YtalnipjaekpbhaaL50
import Derived.Deep.CutBlock
import Derived.Great.BuildSlice
namespace Go.Proofs.Ytalnipjaekpbhaa
open Go.ChangeShapes Go.WideShapes Go.ChangeAt Go.RowKit Go.Deep
set_option linter.unusedSimpArgs false
set_option linter.unusedVariables false

theorem offs_cells {w : World} {p : Option Addr} {c : Nat} {l : List (Nat × Int)} (h : OffsIn w (.slice p l.length c) l) : ∀ ad, p = some ad → ∀ j u, (flatF l)[j]? = some u → w.cell? (ad.add j) = some u := by
  rintro ad rfl j u hu
  have hj := (List.getElem?_eq_some_iff.1 hu).1
  rw [flatF_len] at hj
  obtain ⟨b, o, c', e, -⟩ := h.at_ 0 (by omega)
  injection e with e _ _
  injection e with e
  subst e
  rw [addr_add]
  refine flatF_cell (l := l) (fun i hi => ?_) j u hu
  obtain ⟨b', o', c2, e2, q1, q2⟩ := h.at_ i hi
  injection e2 with e2 _ _
  injection e2 with e2
  injection e2 with e3 e4
  subst e3 e4
  exact ⟨q1, q2⟩
theorem offs_nil {w : World} {p : Option Addr} {c : Nat} {l : List (Nat × Int)} (h : OffsIn w (.slice p l.length c) l) : p = none → l.length = 0 ∧ c = 0 := by
  rintro rfl
  refine ⟨?_, h.nil _ _ rfl⟩
  rcases Nat.eq_zero_or_pos l.length with h0 | h0
  · exact h0
  · obtain ⟨b, o, c, e, -⟩ := h.at_ 0 h0; cases e
theorem row2_cells {w : World} {B g n c : Nat} {l : List (Nat × Int)} (h : w.ownsRow B 93 2 (.slice (some ⟨g, 0, none⟩) n c) n (flatF l)) : ∀ j u, (flatF l)[j]? = some u → w.cell? ((⟨g, 0, none⟩ : Addr).add j) = some u := fun j u hu => by
  have hj := (List.getElem?_eq_some_iff.1 hu).1
  rw [addr_add, Nat.zero_add]
  exact (h.cellAt j (by have := h.1; omega)).trans hu
theorem own_cap {w : World} {B n c : Nat} {e : TypeId} {size : Nat} {p : Option Addr} {xs : List Value} (h : w.ownsRow B e size (.slice p n c) n xs) : n ≤ c := by
  rcases h.2 with ⟨q1, q2⟩ | ⟨g1, cap1, cur1, e, _, _, hle, _⟩
  · omega
  · injection e with _ _ e; omega
set_option maxRecDepth 100000 in
set_option maxHeartbeats 4000000 in
theorem lent_c (o : Ord) (ov : Value) (w : World) (ho : OffsIn w ov o.offs) (hs : o.offs.length ≤ 100) : Calls Try.prog 10 #[.agg (ordCells o ov).toArray] w fun e w' => ∃ g c, e = .returned (.agg (ordCells o (.slice (some ⟨g, 0, none⟩) o.offs.length c)).toArray) ∧ w'.ownsRow w.heap.size 93 2 (.slice (some ⟨g, 0, none⟩) (o.offs.length + 1) c) (o.offs.length + 1) (flatF (o.offs ++ [(0, -77)])) ∧ Below w.heap.size w w' := by
  obtain ⟨p, c, e⟩ := ho.val
  subst e
  obtain ⟨i93, hi93, hz93, hs93, hb93⟩ := info_parts info93
  obtain ⟨W, hW⟩ : ∃ W, W = (w.alloc (.cells (ordCells o (.slice p o.offs.length c)).toArray 29)).alloc (.cells #[Value.int .i64 0, .string ⟨#[]⟩, .int .i64 0, .int .i64 0, .int .i64 0, .int .i64 0, .int .i64 0, .int .i64 0, .int .i64 0, .int .i64 0, .int .i64 0, .int .i64 0, .int .i64 0, .int .i64 0, .int .i64 0, .int .i64 0, .slice none 0 0, .int .i64 0] 29) := ⟨_, rfl⟩
  obtain ⟨O, hO⟩ : ∃ O, O = w.heap.size := ⟨_, rfl⟩
  obtain ⟨R, hR⟩ : ∃ O, O = w.heap.size + 1 := ⟨_, rfl⟩
  have q1 : Below w.heap.size w (w.alloc (.cells (ordCells o (.slice p o.offs.length c)).toArray 29)) := (Below.refl _ _).alloc (Nat.le_refl _) _
  have hb0 : Below w.heap.size w W := by rw [hW]; exact q1.alloc q1.size _
  have hsz : W.heap.size = w.heap.size + 2 := by rw [hW]; simp
  have bx : BoxO W O o (.slice p o.offs.length c) := by rw [hW, hO]; exact (box_made w o _).below ((Below.refl _ _).alloc (Nat.le_refl _) _)
  have bz : BoxO W R (zeroO 0) (.slice none 0 0) := by
    rw [hW, hR]
    have q := box_made (w.alloc (.cells (ordCells o (.slice p o.offs.length c)).toArray 29)) (zeroO 0) (.slice none 0 0)
    rw [World.size_alloc] at q
    exact q
  have HOR := hide (show w.heap.size ≤ O ∧ R = O + 1 ∧ R < W.heap.size from ⟨by omega, by omega, by omega⟩)
  have HB0 := hide hb0
  have HBX := hide (fun (wq : World) (h : Below W.heap.size W wq) => bx.below h)
  have HTH := hide (fun (wq : World) (h : Below W.heap.size W wq) => (bz.below h).there)
  have HOF := hide (fun (wq : World) (h : Below W.heap.size W wq) => (ho.below hb0).below h)
  have HNIL := hide (offs_nil ho)
  have SK := hide (fun (wq : World) (h : Below W.heap.size W wq) => (show wq.cell? ⟨O, 16, none⟩ = some (.slice p o.offs.length c) from (bx.below h).c 16 (by decide)))
  have HF0 := hide (fun (wq : World) (h : Below W.heap.size W wq) => (bx.below h).f)
  have HW := hide hW
  have HO := hide hO
  have HR := hide hR
  clear q1 hb0 hsz bx bz ho hW
  go_enter Try.func10, Try.ntmps10
  go_upto_region 1 with fail
  rw [← HW.out, ← hR, ← hO]
  clear hR hO
  refine wp_regionX (fun wq => wq.cell? ⟨O, 16, none⟩ = some (.slice p o.offs.length c)) (fun n => n != 12) (by kernel_rfl) (SK.out _ (drewB _)) (fun hH0 => ?_)
  refine wpAnyX_take (i := 1) (oi := ?oi1) (v := ?v1) ?ho1 (by kernel_rfl) (by kernel_rfl) (by kernel_rfl) (by kernel_rfl) ?hp1 ?hy1 hH0 ?hr1
  case ho1 => (simp only [List.getElem?_toArray, List.getElem?_cons_succ, List.getElem?_cons_zero]; exact rfl)
  case hp1 => exact fun _ _ _ h => h
  case hy1 => (refine Or.inl ⟨by rfl, ?_⟩; intro w hSw; (try dsimp only at hSw); (try go_split_ands); go_simp; (try (with_reducible rfl)))
  case hr1 =>
  (try simp only [Act.put, List.setIfInBounds_toArray, List.set_cons_zero, List.set_cons_succ])
  refine wpAnyX_take (i := 2) (oi := ?oi2) (v := ?v2) ?ho2 (by kernel_rfl) (by kernel_rfl) (by kernel_rfl) (by kernel_rfl) ?hp2 ?hy2 hH0 ?hr2
  case ho2 => (simp only [List.getElem?_toArray, List.getElem?_cons_succ, List.getElem?_cons_zero]; exact rfl)
  case hp2 => exact fun _ _ _ h => h
  case hy2 => (refine Or.inl ⟨by rfl, ?_⟩; intro w hSw; (try dsimp only at hSw); (try go_split_ands); go_simp; (try (with_reducible rfl)))
  case hr2 =>
  (try simp only [Act.put, List.setIfInBounds_toArray, List.set_cons_zero, List.set_cons_succ])
  refine wpAnyX_take (i := 4) (oi := ?oi4) (v := ?v4) ?ho4 (by kernel_rfl) (by kernel_rfl) (by kernel_rfl) (by kernel_rfl) ?hp4 ?hy4 hH0 ?hr4
  case ho4 => (simp only [List.getElem?_toArray, List.getElem?_cons_succ, List.getElem?_cons_zero]; exact rfl)
  case hp4 => exact fun _ _ _ h => h
  case hy4 => (refine Or.inl ⟨by rfl, ?_⟩; intro w hSw; (try dsimp only at hSw); (try go_split_ands); go_simp; (try (with_reducible rfl)))
  case hr4 =>
  (try simp only [Act.put, List.setIfInBounds_toArray, List.set_cons_zero, List.set_cons_succ])
  refine wpAnyX_take (i := 7) (oi := ?oi7) (v := ?v7) ?ho7 (by kernel_rfl) (by kernel_rfl) (by kernel_rfl) (by kernel_rfl) ?hp7 ?hy7 hH0 ?hr7
  case ho7 => (simp only [List.getElem?_toArray, List.getElem?_cons_succ, List.getElem?_cons_zero]; exact rfl)
  case hp7 => exact fun _ _ _ h => h
  case hy7 => (refine Or.inl ⟨by rfl, ?_⟩; intro w hSw; (try dsimp only at hSw); (try go_split_ands); go_simp; (try (with_reducible rfl)))
  case hr7 =>
  (try simp only [Act.put, List.setIfInBounds_toArray, List.set_cons_zero, List.set_cons_succ])
  refine wpAnyX_take (i := 8) (oi := ?oi8) (v := ?v8) ?ho8 (by kernel_rfl) (by kernel_rfl) (by kernel_rfl) (by kernel_rfl) ?hp8 ?hy8 hH0 ?hr8
  case ho8 => (simp only [List.getElem?_toArray, List.getElem?_cons_succ, List.getElem?_cons_zero]; exact rfl)
  case hp8 => exact fun _ _ _ h => h
  case hy8 => (refine Or.inl ⟨by rfl, ?_⟩; intro w hSw; (try dsimp only at hSw); (try go_split_ands); go_simp; (try (with_reducible rfl)))
  case hr8 =>
  (try simp only [Act.put, List.setIfInBounds_toArray, List.set_cons_zero, List.set_cons_succ])
  refine wpAnyX_take (i := 9) (oi := ?oi9) (v := ?v9) ?ho9 (by kernel_rfl) (by kernel_rfl) (by kernel_rfl) (by kernel_rfl) ?hp9 ?hy9 hH0 ?hr9
  case ho9 => (simp only [List.getElem?_toArray, List.getElem?_cons_succ, List.getElem?_cons_zero]; exact rfl)
  case hp9 => exact fun _ _ _ h => h
  case hy9 => (refine Or.inl ⟨by rfl, ?_⟩; intro w hSw; (try dsimp only at hSw); (try go_split_ands); go_simp; (try (with_reducible rfl)))
  case hr9 =>
  (try simp only [Act.put, List.setIfInBounds_toArray, List.set_cons_zero, List.set_cons_succ])
  obtain ⟨WD, hWD⟩ : ∃ q, q = W.drew := ⟨_, rfl⟩
  have HD := hide (show Below W.heap.size W WD by rw [hWD]; exact drewB _)
  rw [← hWD]
  clear hWD hH0
  refine wpAnyX_pick (rs := [0, 5]) (by kernel_rfl) (by simp) (AllX.cons (o := ?oi0) ?ho0 (fun K hK => ?hr0) (AllX.cons (o := ?oi5) ?ho5 (fun K hK => ?hr5) (AllX.nil)))
  case ho0 => (simp only [List.getElem?_toArray, List.getElem?_cons_succ, List.getElem?_cons_zero]; exact rfl)
  case ho5 => (simp only [List.getElem?_toArray, List.getElem?_cons_succ, List.getElem?_cons_zero]; exact rfl)
  case hr0 =>
    go_simp
    have hal : Below WD.heap.size WD (WD.alloc (.cells #[] 93)) := (Below.refl _ _).alloc (Nat.le_refl _) _
    obtain ⟨WE, hWE⟩ : ∃ q, q = WD.alloc (.cells #[] 93) := ⟨_, rfl⟩
    obtain ⟨ge, hge⟩ : ∃ q, q = WD.heap.size := ⟨_, rfl⟩
    have e0 : WE.ownsRow W.heap.size 93 2 (.slice (some ⟨ge, 0, none⟩) 0 0) 0 [] := by rw [hWE, hge]; exact own_lower (made_row WD 93 2) HD.out.size
    rw [← hWE, ← hge]
    rw [← hWE] at hal
    have HE := hide (bstep HD.out hal)
    have E0 := hide e0
    clear hal hWE hge e0
    refine hK.out _ _ (fun _ => SK.out _ HE.out) ?_
    clear hK K
    (try simp only [Act.put, List.setIfInBounds_toArray, List.set_cons_zero, List.set_cons_succ])
    refine wpAnyX_pick (rs := [3, 5]) (by kernel_rfl) (by simp) (AllX.cons (o := ?oi3c) ?ho3c (fun K hK => ?hr3c) (AllX.cons (o := ?oi5c) ?ho5c (fun K hK => ?hr5c) (AllX.nil)))
    case ho3c => (simp only [List.getElem?_toArray, List.getElem?_cons_succ, List.getElem?_cons_zero]; exact rfl)
    case ho5c => (simp only [List.getElem?_toArray, List.getElem?_cons_succ, List.getElem?_cons_zero]; exact rfl)
    case hr3c =>
      refine step_append_n rfl _ _ 27 rfl 93 i93 (.agg #[.int .u32 0, .int .i64 0]) 2 16 Try.underlying27 hi93 hz93 hs93 hb93 rfl (by decide) W.heap.size (.slice (some ⟨ge, 0, none⟩) 0 0) 0 [] rfl E0.out p o.offs.length c (flatF o.offs) rfl (flatF_len _) HNIL.out (offs_cells (HOF.out _ HE.out)) (flatF_one _) (by unfold maxLen; omega) (by omega) HE.out.size ?_
      intro v3 w3 m3 gr3 _
      rw [List.nil_append, Nat.zero_add] at m3
      obtain ⟨p3, c3, hv3⟩ := own_any m3
      subst hv3
      have M3 := hide m3
      have H3 := hide (HE.out.grown gr3 HE.out.size (fun r e => (E0.out.lt r e).1))
      clear m3 gr3
      refine hK.out _ _ (fun _ => SK.out _ H3.out) ?_
      clear hK K
      (try simp only [Act.put, List.setIfInBounds_toArray, List.set_cons_zero, List.set_cons_succ])
      refine wpAnyX_pick (rs := [5]) (by kernel_rfl) (by simp) (AllX.cons (o := ?oi5a) ?ho5a (fun K hK => ?hr5a) (AllX.nil))
      case ho5a => (simp only [List.getElem?_toArray, List.getElem?_cons_succ, List.getElem?_cons_zero]; exact rfl)
      case hr5a =>
        go_simp
        have hal : Below w3.heap.size w3 (w3.alloc (.cells #[.int .u32 0, .int .i64 (-77)] 93)) := (Below.refl _ _).alloc (Nat.le_refl _) _
        obtain ⟨WF, hWF⟩ : ∃ q, q = w3.alloc (.cells #[.int .u32 0, .int .i64 (-77)] 93) := ⟨_, rfl⟩
        obtain ⟨gf, hgf⟩ : ∃ q, q = w3.heap.size := ⟨_, rfl⟩
        have f5 : WF.ownsRow gf 93 2 (.slice (some ⟨gf, 0, none⟩) 1 1) 1 (flatF [(0, -77)]) := by rw [hWF, hgf]; exact World.ownsRow_lit (size := 2) (base := w3.heap.size) (e := 93) w3 #[.int .u32 0, .int .i64 (-77)] 1 (Nat.le_refl _) (by decide) rfl
        rw [← hWF, ← hgf]
        rw [← hWF] at hal
        have HF := hide (bstep H3.out hal)
        have F5 := hide f5
        have M3f := hide (own_below M3.out hal)
        clear hal hWF hgf f5
        refine hK.out _ _ (fun _ => SK.out _ HF.out) ?_
        clear hK K
        (try simp only [Act.put, List.setIfInBounds_toArray, List.set_cons_zero, List.set_cons_succ])
        refine wpAnyX_pick (rs := [6]) (by kernel_rfl) (by simp) (AllX.cons (o := ?oi6a6) ?ho6a6 (fun K hK => ?hr6a6) (AllX.nil))
        case ho6a6 => (simp only [List.getElem?_toArray, List.getElem?_cons_succ, List.getElem?_cons_zero]; exact rfl)
        case hr6a6 =>
          refine step_append_n rfl _ _ 27 rfl 93 i93 (.agg #[.int .u32 0, .int .i64 0]) 2 16 Try.underlying27 hi93 hz93 hs93 hb93 rfl (by decide) W.heap.size (.slice p3 o.offs.length c3) o.offs.length (flatF o.offs) rfl M3f.out (some ⟨gf, 0, none⟩) 1 1 (flatF [(0, -77)]) rfl rfl (fun e => by cases e) (fun ad e => by cases e; exact row2_cells F5.out) (flatF_one _) (by unfold maxLen; omega) (by omega) HF.out.size ?_
          intro v6 w6 m6 gr6 _
          obtain ⟨g6, c6, hv6, -, -⟩ := m6.form (Nat.succ_pos _)
          subst hv6
          have H6 := hide (HF.out.grown gr6 HF.out.size (fun r e => (M3f.out.lt r e).1))
          have M6 := hide (show w6.ownsRow W.heap.size 93 2 (.slice (some ⟨g6, 0, none⟩) (o.offs.length + 1) c6) (o.offs.length + 1) (flatF (o.offs ++ [(0, -77)])) from by rw [flatF_app]; exact m6)
          have LE := hide (own_cap m6)
          clear m6 gr6
          refine hK.out _ _ (fun _ => SK.out _ H6.out) ?_
          clear hK K
          (try simp only [Act.put, List.setIfInBounds_toArray, List.set_cons_zero, List.set_cons_succ])
          have hle : o.offs.length ≤ c6 := by have := LE.out; omega
          have hs6 := SK.out _ H6.out
          refine wpAnyX_take (i := 10) (oi := ?oi10a) (v := ?v10a) ?ho10a (by kernel_rfl) (by kernel_rfl) (by kernel_rfl) (by kernel_rfl) ?hp10a ?hy10a hs6 ?hr10a
          case ho10a => (simp only [List.getElem?_toArray, List.getElem?_cons_succ, List.getElem?_cons_zero]; exact rfl)
          case hp10a => exact fun _ _ _ h => h
          case hy10a => (refine Or.inl ⟨by rfl, ?_⟩; intro w hSw; (try dsimp only at hSw); (try go_split_ands); go_simp; (try (with_reducible rfl)))
          case hr10a =>
          (try simp only [Act.put, List.setIfInBounds_toArray, List.set_cons_zero, List.set_cons_succ])
          refine wpAnyX_take (i := 11) (oi := ?oi11a) (v := ?v11a) ?ho11a (by kernel_rfl) (by kernel_rfl) (by kernel_rfl) (by kernel_rfl) ?hp11a ?hy11a hs6 ?hr11a
          case ho11a => (simp only [List.getElem?_toArray, List.getElem?_cons_succ, List.getElem?_cons_zero]; exact rfl)
          case hp11a => exact fun _ _ _ h => h
          case hy11a => (refine Or.inl ⟨by rfl, ?_⟩; intro w hSw; (try dsimp only at hSw); (try go_split_ands); go_simp; (try (with_reducible rfl)))
          case hr11a =>
          (try simp only [Act.put, List.setIfInBounds_toArray, List.set_cons_zero, List.set_cons_succ])
          have x16 := SK.out _ H6.out
          have f16 := (HF0.out _ H6.out)
          refine wpAnyX_pick (rs := [12]) (by kernel_rfl) (by simp) (AllX.cons (o := ?oi12at) ?ho12at (fun K hK => ?hr12at) (AllX.nil))
          case ho12at => (simp only [List.getElem?_toArray, List.getElem?_cons_succ, List.getElem?_cons_zero]; exact rfl)
          case hr12at =>
            go_simp
            refine hK.out _ _ (fun e => absurd e (by decide)) ?_
            clear hK K
            (try simp only [Act.put, List.setIfInBounds_toArray, List.set_cons_zero, List.set_cons_succ])
            refine wpAnyX_done (by kernel_rfl) ?_ _

            obtain ⟨WS, hWS⟩ : ∃ q, q = w6.setCell ⟨O, 16, none⟩ (.slice (some ⟨g6, 0, none⟩) o.offs.length c6) := ⟨_, rfl⟩
            have hb6 : BoxO w6 O o (.slice p o.offs.length c) := HBX.out _ H6.out
            have HBS := hide (show BoxO WS O o (.slice (some ⟨g6, 0, none⟩) o.offs.length c6) by rw [hWS]; exact hb6.offed o.offs _)
            have HTS := hide (show WS.there R 0 18 by rw [hWS]; exact there_stays (HTH.out _ H6.out) (heap_setCell_other _ _ _ _ (by have := HOR.out; show R ≠ O; omega)))
            have MS := hide (show WS.ownsRow W.heap.size 93 2 (.slice (some ⟨g6, 0, none⟩) (o.offs.length + 1) c6) (o.offs.length + 1) (flatF (o.offs ++ [(0, -77)])) by rw [hWS]; exact own_same M6.out (fun k hk _ => heap_setCell_other _ _ _ _ (by have := (M6.out.lt k hk).1; have := HOR.out; show k ≠ O; omega)))
            have HBW := hide (show Below w.heap.size w WS by rw [hWS]; exact (HB0.out.trans (H6.out.mono HB0.out.size)).setCell (p := ⟨O, 16, none⟩) (by have := HOR.out; show w.heap.size ≤ O; omega) _)
            rw [← hWS]
            clear hWS hb6 x16 f16 hs6
            go_wp2_with (first
              | (refine wpList_load_mid rfl 29 _ rfl O 0 rfl (ordCells o (.slice (some ⟨g6, 0, none⟩) o.offs.length c6)) _ ?_ Try.underlying29 rfl ?_ ?_; exact HBS.out.range; kernel_rfl)
              | (refine wpList_store_mid rfl 29 _ _ rfl R 0 (ordCells o (.slice (some ⟨g6, 0, none⟩) o.offs.length c6)).toArray rfl ?_ ?_ ?_ ?_ ?_; exact rfl; exact HTS.out; kernel_rfl; kernel_rfl))
            have hl := run_loadVar_mid (P := Try.prog) (WS.setCells R 0 (ordCells o (.slice (some ⟨g6, 0, none⟩) o.offs.length c6))) R 0 29 (ordCells o (.slice (some ⟨g6, 0, none⟩) o.offs.length c6)) _ (World.rangeAt_setCells_same _ _ _ _ HTS.out) Try.underlying29 rfl (by rw [ordCells_len]; kernel_rfl)
            refine bodyPost_ret (v := .agg (ordCells o (.slice (some ⟨g6, 0, none⟩) o.offs.length c6)).toArray) (results_cell1 rfl rfl hl) rfl ⟨g6, c6, rfl, ?_, below_sets (by have := HOR.out; omega) _ _ _ HBW.out⟩
            exact own_lower (own_same MS.out (fun q hq _ => heap_sets_ne (by have := (MS.out.lt q hq).1; have := HOR.out; omega) _ _ _)) HB0.out.size
    case hr5c =>
      go_simp
      have hal : Below WE.heap.size WE (WE.alloc (.cells #[.int .u32 0, .int .i64 (-77)] 93)) := (Below.refl _ _).alloc (Nat.le_refl _) _
      obtain ⟨WF, hWF⟩ : ∃ q, q = WE.alloc (.cells #[.int .u32 0, .int .i64 (-77)] 93) := ⟨_, rfl⟩
      obtain ⟨gf, hgf⟩ : ∃ q, q = WE.heap.size := ⟨_, rfl⟩
      have f5 : WF.ownsRow gf 93 2 (.slice (some ⟨gf, 0, none⟩) 1 1) 1 (flatF [(0, -77)]) := by rw [hWF, hgf]; exact World.ownsRow_lit (size := 2) (base := WE.heap.size) (e := 93) WE #[.int .u32 0, .int .i64 (-77)] 1 (Nat.le_refl _) (by decide) rfl
      rw [← hWF, ← hgf]
      rw [← hWF] at hal
      have HF := hide (bstep HE.out hal)
      have F5 := hide f5
      have E0f := hide (own_below E0.out hal)
      have NE := hide (show ge ≠ gf from by have := (E0.out.lt ge rfl).2; omega)
      clear hal hWF hgf f5
      refine hK.out _ _ (fun _ => SK.out _ HF.out) ?_
      clear hK K
      (try simp only [Act.put, List.setIfInBounds_toArray, List.set_cons_zero, List.set_cons_succ])
      refine wpAnyX_pick (rs := [3]) (by kernel_rfl) (by simp) (AllX.cons (o := ?oi3b) ?ho3b (fun K hK => ?hr3b) (AllX.nil))
      case ho3b => (simp only [List.getElem?_toArray, List.getElem?_cons_succ, List.getElem?_cons_zero]; exact rfl)
      case hr3b =>
        refine step_append_n rfl _ _ 27 rfl 93 i93 (.agg #[.int .u32 0, .int .i64 0]) 2 16 Try.underlying27 hi93 hz93 hs93 hb93 rfl (by decide) W.heap.size (.slice (some ⟨ge, 0, none⟩) 0 0) 0 [] rfl E0f.out p o.offs.length c (flatF o.offs) rfl (flatF_len _) HNIL.out (offs_cells (HOF.out _ HF.out)) (flatF_one _) (by unfold maxLen; omega) (by omega) HF.out.size ?_
        intro v3 w3 m3 gr3 _
        rw [List.nil_append, Nat.zero_add] at m3
        obtain ⟨p3, c3, hv3⟩ := own_any m3
        subst hv3
        have M3 := hide m3
        have H3 := hide (HF.out.grown gr3 HF.out.size (fun r e => (E0f.out.lt r e).1))
        have F53 := hide (own_same F5.out (fun k hk hlt => gr3.block k hlt (fun e => NE.out (Option.some.inj (e.symm.trans hk.symm)))))
        clear m3 gr3
        refine hK.out _ _ (fun _ => SK.out _ H3.out) ?_
        clear hK K
        (try simp only [Act.put, List.setIfInBounds_toArray, List.set_cons_zero, List.set_cons_succ])
        refine wpAnyX_pick (rs := [6]) (by kernel_rfl) (by simp) (AllX.cons (o := ?oi6b6) ?ho6b6 (fun K hK => ?hr6b6) (AllX.nil))
        case ho6b6 => (simp only [List.getElem?_toArray, List.getElem?_cons_succ, List.getElem?_cons_zero]; exact rfl)
        case hr6b6 =>
          refine step_append_n rfl _ _ 27 rfl 93 i93 (.agg #[.int .u32 0, .int .i64 0]) 2 16 Try.underlying27 hi93 hz93 hs93 hb93 rfl (by decide) W.heap.size (.slice p3 o.offs.length c3) o.offs.length (flatF o.offs) rfl M3.out (some ⟨gf, 0, none⟩) 1 1 (flatF [(0, -77)]) rfl rfl (fun e => by cases e) (fun ad e => by cases e; exact row2_cells F53.out) (flatF_one _) (by unfold maxLen; omega) (by omega) H3.out.size ?_
          intro v6 w6 m6 gr6 _
          obtain ⟨g6, c6, hv6, -, -⟩ := m6.form (Nat.succ_pos _)
          subst hv6
          have H6 := hide (H3.out.grown gr6 H3.out.size (fun r e => (M3.out.lt r e).1))
          have M6 := hide (show w6.ownsRow W.heap.size 93 2 (.slice (some ⟨g6, 0, none⟩) (o.offs.length + 1) c6) (o.offs.length + 1) (flatF (o.offs ++ [(0, -77)])) from by rw [flatF_app]; exact m6)
          have LE := hide (own_cap m6)
          clear m6 gr6
          refine hK.out _ _ (fun _ => SK.out _ H6.out) ?_
          clear hK K
          (try simp only [Act.put, List.setIfInBounds_toArray, List.set_cons_zero, List.set_cons_succ])
          have hle : o.offs.length ≤ c6 := by have := LE.out; omega
          have hs6 := SK.out _ H6.out
          refine wpAnyX_take (i := 10) (oi := ?oi10b) (v := ?v10b) ?ho10b (by kernel_rfl) (by kernel_rfl) (by kernel_rfl) (by kernel_rfl) ?hp10b ?hy10b hs6 ?hr10b
          case ho10b => (simp only [List.getElem?_toArray, List.getElem?_cons_succ, List.getElem?_cons_zero]; exact rfl)
          case hp10b => exact fun _ _ _ h => h
          case hy10b => (refine Or.inl ⟨by rfl, ?_⟩; intro w hSw; (try dsimp only at hSw); (try go_split_ands); go_simp; (try (with_reducible rfl)))
          case hr10b =>
          (try simp only [Act.put, List.setIfInBounds_toArray, List.set_cons_zero, List.set_cons_succ])
          refine wpAnyX_take (i := 11) (oi := ?oi11b) (v := ?v11b) ?ho11b (by kernel_rfl) (by kernel_rfl) (by kernel_rfl) (by kernel_rfl) ?hp11b ?hy11b hs6 ?hr11b
          case ho11b => (simp only [List.getElem?_toArray, List.getElem?_cons_succ, List.getElem?_cons_zero]; exact rfl)
          case hp11b => exact fun _ _ _ h => h
          case hy11b => (refine Or.inl ⟨by rfl, ?_⟩; intro w hSw; (try dsimp only at hSw); (try go_split_ands); go_simp; (try (with_reducible rfl)))
          case hr11b =>
          (try simp only [Act.put, List.setIfInBounds_toArray, List.set_cons_zero, List.set_cons_succ])
          have x16 := SK.out _ H6.out
          have f16 := (HF0.out _ H6.out)
          refine wpAnyX_pick (rs := [12]) (by kernel_rfl) (by simp) (AllX.cons (o := ?oi12bt) ?ho12bt (fun K hK => ?hr12bt) (AllX.nil))
          case ho12bt => (simp only [List.getElem?_toArray, List.getElem?_cons_succ, List.getElem?_cons_zero]; exact rfl)
          case hr12bt =>
            go_simp
            refine hK.out _ _ (fun e => absurd e (by decide)) ?_
            clear hK K
            (try simp only [Act.put, List.setIfInBounds_toArray, List.set_cons_zero, List.set_cons_succ])
            refine wpAnyX_done (by kernel_rfl) ?_ _

            obtain ⟨WS, hWS⟩ : ∃ q, q = w6.setCell ⟨O, 16, none⟩ (.slice (some ⟨g6, 0, none⟩) o.offs.length c6) := ⟨_, rfl⟩
            have hb6 : BoxO w6 O o (.slice p o.offs.length c) := HBX.out _ H6.out
            have HBS := hide (show BoxO WS O o (.slice (some ⟨g6, 0, none⟩) o.offs.length c6) by rw [hWS]; exact hb6.offed o.offs _)
            have HTS := hide (show WS.there R 0 18 by rw [hWS]; exact there_stays (HTH.out _ H6.out) (heap_setCell_other _ _ _ _ (by have := HOR.out; show R ≠ O; omega)))
            have MS := hide (show WS.ownsRow W.heap.size 93 2 (.slice (some ⟨g6, 0, none⟩) (o.offs.length + 1) c6) (o.offs.length + 1) (flatF (o.offs ++ [(0, -77)])) by rw [hWS]; exact own_same M6.out (fun k hk _ => heap_setCell_other _ _ _ _ (by have := (M6.out.lt k hk).1; have := HOR.out; show k ≠ O; omega)))
            have HBW := hide (show Below w.heap.size w WS by rw [hWS]; exact (HB0.out.trans (H6.out.mono HB0.out.size)).setCell (p := ⟨O, 16, none⟩) (by have := HOR.out; show w.heap.size ≤ O; omega) _)
            rw [← hWS]
            clear hWS hb6 x16 f16 hs6
            go_wp2_with (first
              | (refine wpList_load_mid rfl 29 _ rfl O 0 rfl (ordCells o (.slice (some ⟨g6, 0, none⟩) o.offs.length c6)) _ ?_ Try.underlying29 rfl ?_ ?_; exact HBS.out.range; kernel_rfl)
              | (refine wpList_store_mid rfl 29 _ _ rfl R 0 (ordCells o (.slice (some ⟨g6, 0, none⟩) o.offs.length c6)).toArray rfl ?_ ?_ ?_ ?_ ?_; exact rfl; exact HTS.out; kernel_rfl; kernel_rfl))
            have hl := run_loadVar_mid (P := Try.prog) (WS.setCells R 0 (ordCells o (.slice (some ⟨g6, 0, none⟩) o.offs.length c6))) R 0 29 (ordCells o (.slice (some ⟨g6, 0, none⟩) o.offs.length c6)) _ (World.rangeAt_setCells_same _ _ _ _ HTS.out) Try.underlying29 rfl (by rw [ordCells_len]; kernel_rfl)
            refine bodyPost_ret (v := .agg (ordCells o (.slice (some ⟨g6, 0, none⟩) o.offs.length c6)).toArray) (results_cell1 rfl rfl hl) rfl ⟨g6, c6, rfl, ?_, below_sets (by have := HOR.out; omega) _ _ _ HBW.out⟩
            exact own_lower (own_same MS.out (fun q hq _ => heap_sets_ne (by have := (MS.out.lt q hq).1; have := HOR.out; omega) _ _ _)) HB0.out.size
  case hr5 =>
    go_simp
    have hal : Below WD.heap.size WD (WD.alloc (.cells #[.int .u32 0, .int .i64 (-77)] 93)) := (Below.refl _ _).alloc (Nat.le_refl _) _
    obtain ⟨WF, hWF⟩ : ∃ q, q = WD.alloc (.cells #[.int .u32 0, .int .i64 (-77)] 93) := ⟨_, rfl⟩
    obtain ⟨gf, hgf⟩ : ∃ q, q = WD.heap.size := ⟨_, rfl⟩
    have f5 : WF.ownsRow gf 93 2 (.slice (some ⟨gf, 0, none⟩) 1 1) 1 (flatF [(0, -77)]) := by rw [hWF, hgf]; exact World.ownsRow_lit (size := 2) (base := WD.heap.size) (e := 93) WD #[.int .u32 0, .int .i64 (-77)] 1 (Nat.le_refl _) (by decide) rfl
    rw [← hWF, ← hgf]
    rw [← hWF] at hal
    have HF := hide (bstep HD.out hal)
    have F5 := hide f5
    clear hal hWF hgf f5
    refine hK.out _ _ (fun _ => SK.out _ HF.out) ?_
    clear hK K
    (try simp only [Act.put, List.setIfInBounds_toArray, List.set_cons_zero, List.set_cons_succ])
    refine wpAnyX_pick (rs := [0]) (by kernel_rfl) (by simp) (AllX.cons (o := ?oi0d) ?ho0d (fun K hK => ?hr0d) (AllX.nil))
    case ho0d => (simp only [List.getElem?_toArray, List.getElem?_cons_succ, List.getElem?_cons_zero]; exact rfl)
    case hr0d =>
      go_simp
      have hal : Below WF.heap.size WF (WF.alloc (.cells #[] 93)) := (Below.refl _ _).alloc (Nat.le_refl _) _
      obtain ⟨WE, hWE⟩ : ∃ q, q = WF.alloc (.cells #[] 93) := ⟨_, rfl⟩
      obtain ⟨ge, hge⟩ : ∃ q, q = WF.heap.size := ⟨_, rfl⟩
      have e0 : WE.ownsRow W.heap.size 93 2 (.slice (some ⟨ge, 0, none⟩) 0 0) 0 [] := by rw [hWE, hge]; exact own_lower (made_row WF 93 2) HF.out.size
      rw [← hWE, ← hge]
      rw [← hWE] at hal
      have HE := hide (bstep HF.out hal)
      have E0 := hide e0
      have F5e := hide (own_below F5.out hal)
      have NE := hide (show ge ≠ gf from by have := (F5.out.lt gf rfl).2; omega)
      clear hal hWE hge e0
      refine hK.out _ _ (fun _ => SK.out _ HE.out) ?_
      clear hK K
      (try simp only [Act.put, List.setIfInBounds_toArray, List.set_cons_zero, List.set_cons_succ])
      refine wpAnyX_pick (rs := [3]) (by kernel_rfl) (by simp) (AllX.cons (o := ?oi3e) ?ho3e (fun K hK => ?hr3e) (AllX.nil))
      case ho3e => (simp only [List.getElem?_toArray, List.getElem?_cons_succ, List.getElem?_cons_zero]; exact rfl)
      case hr3e =>
        refine step_append_n rfl _ _ 27 rfl 93 i93 (.agg #[.int .u32 0, .int .i64 0]) 2 16 Try.underlying27 hi93 hz93 hs93 hb93 rfl (by decide) W.heap.size (.slice (some ⟨ge, 0, none⟩) 0 0) 0 [] rfl E0.out p o.offs.length c (flatF o.offs) rfl (flatF_len _) HNIL.out (offs_cells (HOF.out _ HE.out)) (flatF_one _) (by unfold maxLen; omega) (by omega) HE.out.size ?_
        intro v3 w3 m3 gr3 _
        rw [List.nil_append, Nat.zero_add] at m3
        obtain ⟨p3, c3, hv3⟩ := own_any m3
        subst hv3
        have M3 := hide m3
        have H3 := hide (HE.out.grown gr3 HE.out.size (fun r e => (E0.out.lt r e).1))
        have F53 := hide (own_same F5e.out (fun k hk hlt => gr3.block k hlt (fun e => NE.out (Option.some.inj (e.symm.trans hk.symm)))))
        clear m3 gr3
        refine hK.out _ _ (fun _ => SK.out _ H3.out) ?_
        clear hK K
        (try simp only [Act.put, List.setIfInBounds_toArray, List.set_cons_zero, List.set_cons_succ])
        refine wpAnyX_pick (rs := [6]) (by kernel_rfl) (by simp) (AllX.cons (o := ?oi6e6) ?ho6e6 (fun K hK => ?hr6e6) (AllX.nil))
        case ho6e6 => (simp only [List.getElem?_toArray, List.getElem?_cons_succ, List.getElem?_cons_zero]; exact rfl)
        case hr6e6 =>
          refine step_append_n rfl _ _ 27 rfl 93 i93 (.agg #[.int .u32 0, .int .i64 0]) 2 16 Try.underlying27 hi93 hz93 hs93 hb93 rfl (by decide) W.heap.size (.slice p3 o.offs.length c3) o.offs.length (flatF o.offs) rfl M3.out (some ⟨gf, 0, none⟩) 1 1 (flatF [(0, -77)]) rfl rfl (fun e => by cases e) (fun ad e => by cases e; exact row2_cells F53.out) (flatF_one _) (by unfold maxLen; omega) (by omega) H3.out.size ?_
          intro v6 w6 m6 gr6 _
          obtain ⟨g6, c6, hv6, -, -⟩ := m6.form (Nat.succ_pos _)
          subst hv6
          have H6 := hide (H3.out.grown gr6 H3.out.size (fun r e => (M3.out.lt r e).1))
          have M6 := hide (show w6.ownsRow W.heap.size 93 2 (.slice (some ⟨g6, 0, none⟩) (o.offs.length + 1) c6) (o.offs.length + 1) (flatF (o.offs ++ [(0, -77)])) from by rw [flatF_app]; exact m6)
          have LE := hide (own_cap m6)
          clear m6 gr6
          refine hK.out _ _ (fun _ => SK.out _ H6.out) ?_
          clear hK K
          (try simp only [Act.put, List.setIfInBounds_toArray, List.set_cons_zero, List.set_cons_succ])
          have hle : o.offs.length ≤ c6 := by have := LE.out; omega
          have hs6 := SK.out _ H6.out
          refine wpAnyX_take (i := 10) (oi := ?oi10e) (v := ?v10e) ?ho10e (by kernel_rfl) (by kernel_rfl) (by kernel_rfl) (by kernel_rfl) ?hp10e ?hy10e hs6 ?hr10e
          case ho10e => (simp only [List.getElem?_toArray, List.getElem?_cons_succ, List.getElem?_cons_zero]; exact rfl)
          case hp10e => exact fun _ _ _ h => h
          case hy10e => (refine Or.inl ⟨by rfl, ?_⟩; intro w hSw; (try dsimp only at hSw); (try go_split_ands); go_simp; (try (with_reducible rfl)))
          case hr10e =>
          (try simp only [Act.put, List.setIfInBounds_toArray, List.set_cons_zero, List.set_cons_succ])
          refine wpAnyX_take (i := 11) (oi := ?oi11e) (v := ?v11e) ?ho11e (by kernel_rfl) (by kernel_rfl) (by kernel_rfl) (by kernel_rfl) ?hp11e ?hy11e hs6 ?hr11e
          case ho11e => (simp only [List.getElem?_toArray, List.getElem?_cons_succ, List.getElem?_cons_zero]; exact rfl)
          case hp11e => exact fun _ _ _ h => h
          case hy11e => (refine Or.inl ⟨by rfl, ?_⟩; intro w hSw; (try dsimp only at hSw); (try go_split_ands); go_simp; (try (with_reducible rfl)))
          case hr11e =>
          (try simp only [Act.put, List.setIfInBounds_toArray, List.set_cons_zero, List.set_cons_succ])
          have x16 := SK.out _ H6.out
          have f16 := (HF0.out _ H6.out)
          refine wpAnyX_pick (rs := [12]) (by kernel_rfl) (by simp) (AllX.cons (o := ?oi12et) ?ho12et (fun K hK => ?hr12et) (AllX.nil))
          case ho12et => (simp only [List.getElem?_toArray, List.getElem?_cons_succ, List.getElem?_cons_zero]; exact rfl)
          case hr12et =>
            go_simp
            refine hK.out _ _ (fun e => absurd e (by decide)) ?_
            clear hK K
            (try simp only [Act.put, List.setIfInBounds_toArray, List.set_cons_zero, List.set_cons_succ])
            refine wpAnyX_done (by kernel_rfl) ?_ _

            obtain ⟨WS, hWS⟩ : ∃ q, q = w6.setCell ⟨O, 16, none⟩ (.slice (some ⟨g6, 0, none⟩) o.offs.length c6) := ⟨_, rfl⟩
            have hb6 : BoxO w6 O o (.slice p o.offs.length c) := HBX.out _ H6.out
            have HBS := hide (show BoxO WS O o (.slice (some ⟨g6, 0, none⟩) o.offs.length c6) by rw [hWS]; exact hb6.offed o.offs _)
            have HTS := hide (show WS.there R 0 18 by rw [hWS]; exact there_stays (HTH.out _ H6.out) (heap_setCell_other _ _ _ _ (by have := HOR.out; show R ≠ O; omega)))
            have MS := hide (show WS.ownsRow W.heap.size 93 2 (.slice (some ⟨g6, 0, none⟩) (o.offs.length + 1) c6) (o.offs.length + 1) (flatF (o.offs ++ [(0, -77)])) by rw [hWS]; exact own_same M6.out (fun k hk _ => heap_setCell_other _ _ _ _ (by have := (M6.out.lt k hk).1; have := HOR.out; show k ≠ O; omega)))
            have HBW := hide (show Below w.heap.size w WS by rw [hWS]; exact (HB0.out.trans (H6.out.mono HB0.out.size)).setCell (p := ⟨O, 16, none⟩) (by have := HOR.out; show w.heap.size ≤ O; omega) _)
            rw [← hWS]
            clear hWS hb6 x16 f16 hs6
            go_wp2_with (first
              | (refine wpList_load_mid rfl 29 _ rfl O 0 rfl (ordCells o (.slice (some ⟨g6, 0, none⟩) o.offs.length c6)) _ ?_ Try.underlying29 rfl ?_ ?_; exact HBS.out.range; kernel_rfl)
              | (refine wpList_store_mid rfl 29 _ _ rfl R 0 (ordCells o (.slice (some ⟨g6, 0, none⟩) o.offs.length c6)).toArray rfl ?_ ?_ ?_ ?_ ?_; exact rfl; exact HTS.out; kernel_rfl; kernel_rfl))
            have hl := run_loadVar_mid (P := Try.prog) (WS.setCells R 0 (ordCells o (.slice (some ⟨g6, 0, none⟩) o.offs.length c6))) R 0 29 (ordCells o (.slice (some ⟨g6, 0, none⟩) o.offs.length c6)) _ (World.rangeAt_setCells_same _ _ _ _ HTS.out) Try.underlying29 rfl (by rw [ordCells_len]; kernel_rfl)
            refine bodyPost_ret (v := .agg (ordCells o (.slice (some ⟨g6, 0, none⟩) o.offs.length c6)).toArray) (results_cell1 rfl rfl hl) rfl ⟨g6, c6, rfl, ?_, below_sets (by have := HOR.out; omega) _ _ _ HBW.out⟩
            exact own_lower (own_same MS.out (fun q hq _ => heap_sets_ne (by have := (MS.out.lt q hq).1; have := HOR.out; omega) _ _ _)) HB0.out.size
end Go.Proofs.Ytalnipjaekpbhaa
