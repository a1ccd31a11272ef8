import Derived.Test.YtalnipjaekpbhaaMe
import Derived.StillTailTactics
import Derived.BigRegion
import Derived.Deep.CutBlock
namespace Go.Proofs.Ytalnipjaekpbhaa
open Go.ChangeShapes Go.WideShapes Go.ChangeAt Go.RowKit Go.Deep
set_option linter.unusedSimpArgs false
set_option linter.unusedVariables false

theorem heap_sets_ne {b i : Nat} (h : i ≠ b) : ∀ (l : List Value) (w : World) (o : Nat), (w.setCells b o l).heap[i]? = w.heap[i]?
  | [], w, o => rfl
  | v :: l, w, o => (heap_sets_ne h l _ _).trans (heap_setCell_other _ _ _ _ h)
set_option maxRecDepth 100000 in
set_option maxHeartbeats 8000000 in
theorem rRead_c (ao : Option Addr) (cap : Nat) (ns : List Nat) (w : World) (hb : Row8 w ao cap ns) : Calls Try.prog 22 #[.slice ao ns.length cap] w fun e w' => (readO ns = none ∧ e = .returned (.tuple #[ordV (zeroO 0) (.slice none 0 0), .int .i64 332]) ∧ Below w.heap.size w w') ∨ (∃ o v', readO ns = some o ∧ e = .returned (.tuple #[ordV o v', .int .i64 0]) ∧ w'.ownsRow w.heap.size 93 2 v' o.offs.length (flatF o.offs) ∧ Below w.heap.size w w') := by
  obtain ⟨W, hW⟩ : ∃ W, W = (w.alloc (.cells #[Value.int .i64 0, .string ⟨#[]⟩, .int .i64 0, .int .i64 0, .int .i64 0, .int .i64 0, .int .i64 0, .int .i64 0, .int .i64 0, .int .i64 0, .int .i64 0, .int .i64 0, .int .i64 0, .int .i64 0, .int .i64 0, .int .i64 0, .slice none 0 0, .int .i64 0] 29)).alloc (.cells #[.slice ao ns.length cap, .int .i64 0] 133) := ⟨_, rfl⟩
  have hb1 : Below w.heap.size w (w.alloc (.cells #[Value.int .i64 0, .string ⟨#[]⟩, .int .i64 0, .int .i64 0, .int .i64 0, .int .i64 0, .int .i64 0, .int .i64 0, .int .i64 0, .int .i64 0, .int .i64 0, .int .i64 0, .int .i64 0, .int .i64 0, .int .i64 0, .int .i64 0, .slice none 0 0, .int .i64 0] 29)) := (Below.refl _ _).alloc (Nat.le_refl _) _
  have hb0 : Below w.heap.size w W := by rw [hW]; exact hb1.alloc hb1.size _
  have hy : ∀ ad, ao = some ad → ns ≠ [] → ad.block < w.heap.size := fun ad e hn => by
    obtain ⟨b, off, e2, h1, -⟩ := hb.bytes hn
    rw [e] at e2
    cases e2; exact h1
  have hst : DSt w W ao cap ns 0 := by
    refine ⟨hb0, ?_, ⟨?_, ?_, ?_, ?_, hb.small, Nat.zero_le _, by have := hb.len; omega, hb.cap_le⟩, hy⟩
    · rw [hW]
      exact ((box_made w (zeroO 0) (.slice none 0 0)).below ((Below.refl _ _).alloc (Nat.le_refl _) _)).there
    · rw [hW]; simp
    · intro o
      rw [hW]
      have q : w.heap.size + 1 = (w.alloc (.cells #[Value.int .i64 0, .string ⟨#[]⟩, .int .i64 0, .int .i64 0, .int .i64 0, .int .i64 0, .int .i64 0, .int .i64 0, .int .i64 0, .int .i64 0, .int .i64 0, .int .i64 0, .int .i64 0, .int .i64 0, .int .i64 0, .int .i64 0, .slice none 0 0, .int .i64 0] 29)).heap.size := (World.size_alloc _ _).symm
      rw [q]
      rcases o with _ | _ | o <;> simp [go_sem]
    · intro o
      rw [hW]
      have q : w.heap.size + 1 = (w.alloc (.cells #[Value.int .i64 0, .string ⟨#[]⟩, .int .i64 0, .int .i64 0, .int .i64 0, .int .i64 0, .int .i64 0, .int .i64 0, .int .i64 0, .int .i64 0, .int .i64 0, .int .i64 0, .int .i64 0, .int .i64 0, .int .i64 0, .int .i64 0, .slice none 0 0, .int .i64 0] 29)).heap.size := (World.size_alloc _ _).symm
      rw [q]
      simp [go_sem]
    · intro hn
      obtain ⟨b, off, e2, h1, h2⟩ := hb.bytes hn
      exact ⟨b, off, e2, Nat.lt_of_lt_of_le h1 hb0.size, by omega, fun j hj => cell_stay (h2 j hj) (hb0.block b h1)⟩
  have HR8 := hide hb
  have HW := hide hW
  have HS := hide hst
  clear hb1 hb0 hst hW hb hy
  go_enter Try.func22, Try.ntmps22
  go_upto_region 2 with fail
  rw [← HW.out]
  cases hn : nxt ns 0 with
  | none =>
    have HF := hide (readO_none (parse_noK (pK_none hn)))
    have CN := hide (rNext_none HS.out.d hn)
    clear hn
    go_upto_region 3 with (go_at_call 65; (apply Calls.mono; focus (exact CN.out)); rintro e w1 ⟨y, a2, rfl, ho, hd⟩; have HS1 := hide (HS.out.next ho hd); clear ho hd)
    go_wp2_with (refine wpList_store_mid rfl 29 _ _ rfl w.heap.size 0 #[Value.int .i64 0, .string ⟨#[]⟩, .int .i64 0, .int .i64 0, .int .i64 0, .int .i64 0, .int .i64 0, .int .i64 0, .int .i64 0, .int .i64 0, .int .i64 0, .int .i64 0, .int .i64 0, .int .i64 0, .int .i64 0, .int .i64 0, .slice none 0 0, .int .i64 0] rfl rfl HS1.out.th (by kernel_rfl) (by kernel_rfl) ?_)
    have hl := run_loadVar_mid (P := Try.prog) (w1.setCells w.heap.size 0 [Value.int .i64 0, .string ⟨#[]⟩, .int .i64 0, .int .i64 0, .int .i64 0, .int .i64 0, .int .i64 0, .int .i64 0, .int .i64 0, .int .i64 0, .int .i64 0, .int .i64 0, .int .i64 0, .int .i64 0, .int .i64 0, .int .i64 0, .slice none 0 0, .int .i64 0]) w.heap.size 0 29 [Value.int .i64 0, .string ⟨#[]⟩, .int .i64 0, .int .i64 0, .int .i64 0, .int .i64 0, .int .i64 0, .int .i64 0, .int .i64 0, .int .i64 0, .int .i64 0, .int .i64 0, .int .i64 0, .int .i64 0, .int .i64 0, .int .i64 0, .slice none 0 0, .int .i64 0] _ (World.rangeAt_setCells_same _ _ _ _ HS1.out.th) Try.underlying29 rfl (by kernel_rfl)
    exact bodyPost_ret (v := .tuple #[.agg #[Value.int .i64 0, .string ⟨#[]⟩, .int .i64 0, .int .i64 0, .int .i64 0, .int .i64 0, .int .i64 0, .int .i64 0, .int .i64 0, .int .i64 0, .int .i64 0, .int .i64 0, .int .i64 0, .int .i64 0, .int .i64 0, .int .i64 0, .slice none 0 0, .int .i64 0], .int .i64 332]) (results_ct rfl rfl hl rfl) rfl (.inl ⟨HF.out, rfl, below_sets (Nat.le_refl _) _ _ _ HS1.out.b⟩)
  | some p =>
    obtain ⟨k, a1⟩ := p
    have CN := hide (rNext_some HS.out.d hn)
    by_cases hk : 1 ≤ k ∧ k ≤ 6
    · have PK := hide (pK_some hn hk)
      obtain ⟨hk1, hk6⟩ := hk
      have d1 : decide ((k : Int) < 1) = false := decide_eq_false (by omega)
      have d2 : decide (6 < (k : Int)) = false := decide_eq_false (by omega)
      obtain ⟨b1, hb1⟩ : ∃ b, ((k : Int) == 1) = b := ⟨_, rfl⟩
      have B1 := hide (show b1 = true ↔ k = 1 by rw [← hb1]; simp; omega)
      clear hn
      go_upto_if 44 with (go_at_call 65; (apply Calls.mono; focus (exact CN.out)); rintro e w1 ⟨rfl, ho, hd⟩; have HS1 := hide (HS.out.next ho hd); clear ho hd)
      clear CN
      go_cut [7, 8, 9] from 45 to 53 (fun v7 v8 v9 wx => ∃ (nm : List Nat) (a2 : Nat), v7 = .string (bstr nm) ∧ pT ns k a1 = some (nm, a2) ∧ DSt w wx ao cap ns a2)
      case first =>
        by_cases h1 : k = 1
        · have db := B1.out.2 h1
          subst db
          have CT := dText_c (w.heap.size + 1) cap ao ns a1 64 w1 HS1.out.d (by decide)
          obtain ⟨nm, hnm⟩ : ∃ q, q = (tx ns a1 64).1 := ⟨_, rfl⟩
          obtain ⟨er, her⟩ : ∃ q, q = (tx ns a1 64).2.1 := ⟨_, rfl⟩
          obtain ⟨a2, ha2⟩ : ∃ q, q = (tx ns a1 64).2.2 := ⟨_, rfl⟩
          rw [← hnm, ← her, ← ha2] at CT
          have CX := hide CT
          have PT : pT ns k a1 = if er = 0 then some (nm, a2) else none := by
            unfold pT; rw [if_pos h1, her, hnm, ha2]
          have PTT := hide PT
          clear CT hnm her ha2 PT h1 hb1
          by_cases he : er = 0
          · subst he
            have PT2 := hide (show pT ns k a1 = some (nm, a2) by rw [PTT.out]; simp)
            clear PTT
            go_wp2_with (go_at_call 66; (apply Calls.mono; focus (exact CX.out)); rintro e w2 ⟨rfl, ho, hd⟩; have HS2 := hide (HS1.out.next ho hd); clear ho hd)
            go_meet
            exact ⟨nm, a2, rfl, PT2.out, HS2.out⟩
          · have HF := hide (readO_none (parse_noT PK.out (show pT ns k a1 = none by rw [PTT.out, if_neg he])))
            have de : ((er : Int) != 0) = true := by simp; omega
            clear PTT he
            go_upto_region 9 with (go_at_call 66; (apply Calls.mono; focus (exact CX.out)); rintro e w2 ⟨rfl, ho, hd⟩; have HS2 := hide (HS1.out.next ho hd); clear ho hd)
            go_wp2_with (refine wpList_store_mid rfl 29 _ _ rfl w.heap.size 0 #[Value.int .i64 0, .string ⟨#[]⟩, .int .i64 0, .int .i64 0, .int .i64 0, .int .i64 0, .int .i64 0, .int .i64 0, .int .i64 0, .int .i64 0, .int .i64 0, .int .i64 0, .int .i64 0, .int .i64 0, .int .i64 0, .int .i64 0, .slice none 0 0, .int .i64 0] rfl rfl HS2.out.th (by kernel_rfl) (by kernel_rfl) ?_)
            have hl := run_loadVar_mid (P := Try.prog) (w2.setCells w.heap.size 0 [Value.int .i64 0, .string ⟨#[]⟩, .int .i64 0, .int .i64 0, .int .i64 0, .int .i64 0, .int .i64 0, .int .i64 0, .int .i64 0, .int .i64 0, .int .i64 0, .int .i64 0, .int .i64 0, .int .i64 0, .int .i64 0, .int .i64 0, .slice none 0 0, .int .i64 0]) w.heap.size 0 29 [Value.int .i64 0, .string ⟨#[]⟩, .int .i64 0, .int .i64 0, .int .i64 0, .int .i64 0, .int .i64 0, .int .i64 0, .int .i64 0, .int .i64 0, .int .i64 0, .int .i64 0, .int .i64 0, .int .i64 0, .int .i64 0, .int .i64 0, .slice none 0 0, .int .i64 0] _ (World.rangeAt_setCells_same _ _ _ _ HS2.out.th) Try.underlying29 rfl (by kernel_rfl)
            exact bodyPost_ret (v := .tuple #[.agg #[Value.int .i64 0, .string ⟨#[]⟩, .int .i64 0, .int .i64 0, .int .i64 0, .int .i64 0, .int .i64 0, .int .i64 0, .int .i64 0, .int .i64 0, .int .i64 0, .int .i64 0, .int .i64 0, .int .i64 0, .int .i64 0, .int .i64 0, .slice none 0 0, .int .i64 0], .int .i64 332]) (results_ct rfl rfl hl rfl) rfl (.inl ⟨HF.out, rfl, below_sets (Nat.le_refl _) _ _ _ HS2.out.b⟩)
        · have db : b1 = false := by
            cases b1
            · rfl
            · exact absurd (B1.out.1 rfl) h1
          subst db
          have PT2 := hide (show pT ns k a1 = some ([], a1) by unfold pT; rw [if_neg h1])
          clear h1 hb1
          go_wp2_with fail
          go_meet
          exact ⟨[], a1, rfl, PT2.out, HS1.out⟩
      case rest =>
        obtain ⟨nm, a2, rfl, pt, hs2⟩ := hcut
        have PT := hide pt
        have HS2 := hide hs2
        clear pt hs2 hb1 HS1 B1
        obtain ⟨n, hn⟩ : ∃ n, n = (numL (k : Int)).length := ⟨_, rfl⟩
        have hnp : 0 < n := by rw [hn]; exact numL_pos (by unfold isKind; exact decide_eq_true (by omega))
        have hn11 : n ≤ 11 := by rw [hn]; exact numL_len _
        have HN := hide hn
        have CC := hide (show ∀ w, Calls Try.prog 67 #[.int .i64 (k : Int)] w fun e w' => e = .returned (.int .i64 (n : Int)) ∧ w' = w by rw [hn]; exact fun w => count_c k w hk1 hk6)
        obtain ⟨R, hR⟩ : ∃ R, R = pN ns n a2 [] := ⟨_, rfl⟩
        have HR := hide hR
        clear hn hR d1 d2
        obtain ⟨i2, hi2, hz2, hs2, hb2⟩ := info_parts info2
        go_upto_region 12 with fail
        go_wp2_with fail
        go_loopw [10, 11] (fun v10 v11 wr => ∃ (j : Nat) (l : List Nat) (a : Nat), j ≤ n ∧ v11 = .int .i64 (j : Int) ∧ l.length = j ∧ pN ns (n - j) a l = R ∧ wr.ownsRow (w.heap.size + 2) 2 1 v10 j (l.map fun (x : Nat) => Value.int .i64 (x : Int)) ∧ DSt w wr ao cap ns a) (fun _ v11 _ => n - (intOf v11).toNat)
        case atStart => exact ⟨0, [], a2, Nat.zero_le _, rfl, rfl, HR.out.symm, ⟨rfl, .inl ⟨rfl, rfl⟩⟩, HS2.out⟩
        case round =>
          obtain ⟨j, l, a, hj, rfl, hl, hp, ho, hs⟩ := hrel
          have HL := hide hl
          have HP := hide hp
          have HO := hide ho
          have HS3 := hide hs
          have hj0 : (0 : Int) ≤ (j : Int) := by omega
          clear hl hp ho hs
          by_cases hlt : j < n
          · have hlt' : (j : Int) < (n : Int) := by omega
            have e1 : n - j = (n - (j + 1)) + 1 := by omega
            rw [e1] at HP
            clear e1
            cases hx : nxt ns a with
            | none =>
              have HF := hide (readO_none (parse_noN PK.out PT.out (show pN ns (numL (k : Int)).length a2 [] = none by rw [← HN.out, ← HR.out, ← HP.out, pN_none hx])))
              have CN := hide (rNext_none HS3.out.d hx)
              clear hx
              go_upto_region 17 with (first
                | (go_at_call 67; (apply Calls.mono; focus (exact CC.out _)); rintro e wz ⟨rfl, rfl⟩)
                | (go_at_call 65; (apply Calls.mono; focus (exact CN.out)); rintro e w3 ⟨y, a3, rfl, ho, hd⟩; have HS4 := hide (HS3.out.next ho hd); clear ho hd))
              go_wp2_with (refine wpList_store_mid rfl 29 _ _ rfl w.heap.size 0 #[Value.int .i64 0, .string ⟨#[]⟩, .int .i64 0, .int .i64 0, .int .i64 0, .int .i64 0, .int .i64 0, .int .i64 0, .int .i64 0, .int .i64 0, .int .i64 0, .int .i64 0, .int .i64 0, .int .i64 0, .int .i64 0, .int .i64 0, .slice none 0 0, .int .i64 0] rfl rfl HS4.out.th (by kernel_rfl) (by kernel_rfl) ?_)
              have hl := run_loadVar_mid (P := Try.prog) (w3.setCells w.heap.size 0 [Value.int .i64 0, .string ⟨#[]⟩, .int .i64 0, .int .i64 0, .int .i64 0, .int .i64 0, .int .i64 0, .int .i64 0, .int .i64 0, .int .i64 0, .int .i64 0, .int .i64 0, .int .i64 0, .int .i64 0, .int .i64 0, .int .i64 0, .slice none 0 0, .int .i64 0]) w.heap.size 0 29 [Value.int .i64 0, .string ⟨#[]⟩, .int .i64 0, .int .i64 0, .int .i64 0, .int .i64 0, .int .i64 0, .int .i64 0, .int .i64 0, .int .i64 0, .int .i64 0, .int .i64 0, .int .i64 0, .int .i64 0, .int .i64 0, .int .i64 0, .slice none 0 0, .int .i64 0] _ (World.rangeAt_setCells_same _ _ _ _ HS4.out.th) Try.underlying29 rfl (by kernel_rfl)
              exact bodyPost_ret (v := .tuple #[.agg #[Value.int .i64 0, .string ⟨#[]⟩, .int .i64 0, .int .i64 0, .int .i64 0, .int .i64 0, .int .i64 0, .int .i64 0, .int .i64 0, .int .i64 0, .int .i64 0, .int .i64 0, .int .i64 0, .int .i64 0, .int .i64 0, .int .i64 0, .slice none 0 0, .int .i64 0], .int .i64 332]) (results_ct rfl rfl hl rfl) rfl (.inl ⟨HF.out, rfl, below_sets (Nat.le_refl _) _ _ _ HS4.out.b⟩)
            | some p =>
              obtain ⟨x, a3⟩ := p
              have CN := hide (rNext_some HS3.out.d hx)
              have HX := hide hx
              clear hx
              go_upto_region 18 with (first
                | (go_at_call 67; (apply Calls.mono; focus (exact CC.out _)); rintro e wz ⟨rfl, rfl⟩)
                | (go_at_call 65; (apply Calls.mono; focus (exact CN.out)); rintro e w3 ⟨rfl, ho, hd⟩; have HS4 := hide (HS3.out.next ho hd); have HO4 := hide (own_only HO.out ho (by omega)); clear ho hd))
              have hsz := HS4.out.sz
              go_wp2_with (at_builtin; refine wpList_append_rows _ rfl _ _ 113 rfl 2 i2 (.int .i64 0) 1 8 Try.underlying113 hi2 hz2 hs2 hb2 rfl (by decide) (w.heap.size + 2) w3.heap.size _ j (l.map fun (x : Nat) => Value.int .i64 (x : Int)) rfl (own_below HO4.out ((Below.refl _ _).alloc (Nat.le_refl _) _)) (.slice (some ⟨w3.heap.size, 0, none⟩) 1 1) 1 [.int .i64 (x : Int)] rfl (World.ownsRow_lit w3 #[.int .i64 (x : Int)] 1 (Nat.le_refl _) (by decide) rfl) (fun u hu => by simp only [List.mem_singleton] at hu; subst hu; rfl) (by unfold maxLen; omega) (by omega) (by rw [World.size_alloc]; omega) ?_; intro v5 w5 h5 g5; have H5 := hide h5; have G5 := hide g5; clear h5 g5)
              have HS5 := hide (HS4.out.far (((Below.refl (w.heap.size + 2) w3).alloc hsz (.cells #[.int .i64 (x : Int)] 2)).grown G5.out (by rw [World.size_alloc]; omega) (fun r e => (HO4.out.lt r e).1)))
              go_roundw
              case rel =>
                refine ⟨j + 1, l ++ [x], a3, by omega, by go_num, by rw [List.length_append, HL.out]; rfl, by rw [← pN_some HX.out]; exact HP.out, by rw [List.map_append]; exact H5.out, HS5.out⟩
              case measure => (first | (simp [intOf]; done) | (simp [intOf]; omega))
          · obtain rfl : n = j := by omega
            rw [Nat.sub_self] at HP
            go_upto_region 19 with (go_at_call 67; (apply Calls.mono; focus (exact CC.out _)); rintro e wz ⟨rfl, rfl⟩)
            have PN := hide (show pN ns (numL (k : Int)).length a2 [] = some (l, a) by rw [← HN.out, ← HR.out, ← HP.out]; rfl)
            have hll : l.length = (numL (k : Int)).length := by rw [HL.out, HN.out]
            obtain ⟨g, cg, hv, -, -⟩ := HO.out.form (by omega)
            subst hv
            obtain ⟨f, hf⟩ : ∃ f, f = assign (numL (k : Int)) l := ⟨_, rfl⟩
            have co := of_c (k : Int) f n g cg wz HN.out (fun i hi => by
              rw [HO.out.cellAt i (by rw [HN.out]; omega), List.getElem?_map, hf, assign_at _ _ _ (numL_nodup _) hll.symm hi, List.getD_eq_getElem?_getD, List.getElem?_eq_getElem (by omega)]
              rfl)
            unfold ordV at co
            have CO := hide co
            have HFF := hide hf
            have TX := hide (show ∀ w3 : World, (w3.alloc (.cells #[Value.int .i64 0, .string ⟨#[]⟩, .int .i64 0, .int .i64 0, .int .i64 0, .int .i64 0, .int .i64 0, .int .i64 0, .int .i64 0, .int .i64 0, .int .i64 0, .int .i64 0, .int .i64 0, .int .i64 0, .int .i64 0, .int .i64 0, .slice none 0 0, .int .i64 0] 29)).there w3.heap.size 0 (ordCells (ofO (k : Int) f) (.slice none 0 0)).toArray.size from fun w3 => (congrArg (fun n => (w3.alloc (.cells #[Value.int .i64 0, .string ⟨#[]⟩, .int .i64 0, .int .i64 0, .int .i64 0, .int .i64 0, .int .i64 0, .int .i64 0, .int .i64 0, .int .i64 0, .int .i64 0, .int .i64 0, .int .i64 0, .int .i64 0, .int .i64 0, .int .i64 0, .slice none 0 0, .int .i64 0] 29)).there w3.heap.size 0 n) (show (ordCells (ofO (k : Int) f) (.slice none 0 0)).toArray.size = 18 by rw [List.size_toArray, ordCells_len])).mpr (box_made w3 (zeroO 0) (.slice none 0 0)).there)
            clear co hf CC HO HP
            go_upto_region 20 with (first
              | (go_at_call 68; (apply Calls.mono; focus (exact CO.out)); rintro e w3 ⟨rfl, hb3⟩; have HB3 := hide hb3; clear hb3)
              | refine wpList_store_mid rfl 29 _ _ rfl _ 0 (ordCells (ofO (k : Int) f) (.slice none 0 0)).toArray rfl rfl (TX.out _) (by kernel_rfl) (by kernel_rfl) ?_)
            obtain ⟨OB, hOB⟩ : ∃ b3, b3 = w3.heap.size := ⟨_, rfl⟩
            obtain ⟨W4, hW4⟩ : ∃ W4, W4 = (w3.alloc (.cells #[Value.int .i64 0, .string ⟨#[]⟩, .int .i64 0, .int .i64 0, .int .i64 0, .int .i64 0, .int .i64 0, .int .i64 0, .int .i64 0, .int .i64 0, .int .i64 0, .int .i64 0, .int .i64 0, .int .i64 0, .int .i64 0, .int .i64 0, .slice none 0 0, .int .i64 0] 29)).setCells OB 0 (ordCells (ofO (k : Int) f) (.slice none 0 0)) := ⟨_, rfl⟩
            have hsz := HS3.out.sz
            have hob2 : w.heap.size + 2 ≤ OB := by have := HB3.out.size; omega
            have hs4 : DSt w W4 ao cap ns a := by
              refine HS3.out.far ?_
              rw [hW4]
              exact below_sets hob2 _ _ _ (((HB3.out.mono hsz).alloc (by omega) _))
            have hb4 : BoxO W4 OB (ofO (k : Int) f) (.slice none 0 0) := by rw [hW4, hOB]; exact (box_made w3 (zeroO 0) _).set _ _
            rw [← hOB, ← hW4]
            have z1 := hb4.c 1 (by decide)
            have f1 := hb4.f 1
            have HS4 := hide hs4
            have HB4 := hide hb4
            clear hs4 hb4 hW4 hOB HS3 HB3 HS2
            go_upto_region 21 with fail
            obtain ⟨W5, hW5⟩ : ∃ W5, W5 = W4.setCell ⟨OB, 1, none⟩ (.string (bstr nm)) := ⟨_, rfl⟩
            have HS5 := hide (show DSt w W5 ao cap ns a by rw [hW5]; exact HS4.out.far ((Below.refl _ _).setCell (p := ⟨OB, 1, none⟩) hob2 _))
            have HB5 := hide (show BoxO W5 OB (mkO k nm l []) (.slice none 0 0) by
              have q := HB4.out.named nm
              rw [hW5]
              unfold mkO
              rw [← HFF.out]
              exact q)
            rw [← hW5]
            clear hW5 z1 f1 HS4 HB4
            obtain ⟨b4, hb4⟩ : ∃ b, ((k : Int) == 4) = b := ⟨_, rfl⟩
            have B4 := hide (show b4 = true ↔ k = 4 by rw [← hb4]; simp; omega)
            go_upto_if 78 with fail
            go_cut [15, 16, 17, 18, 19, 20, 21] from 79 to 125 (fun v15 v16 v17 v18 v19 v20 v21 wx => ∃ (fs : List (Nat × Int)) (a4 : Nat) (ov : Value), pO ns k a = some (fs, a4) ∧ BoxO wx OB (mkO k nm l fs) ov ∧ wx.ownsRow (OB + 1) 93 2 ov fs.length (flatF fs) ∧ DSt w wx ao cap ns a4)
            case first =>
              by_cases h4 : k = 4
              · have db := B4.out.2 h4
                subst db
                cases hm : nxt ns a with
                | none =>
                  have HF := hide (readO_none (parse_noO PK.out PT.out PN.out (show pO ns k a = none by unfold pO; rw [if_pos h4, hm])))
                  have CN := hide (rNext_none HS5.out.d hm)
                  clear hm h4 hb4
                  go_upto_region 24 with (go_at_call 65; (apply Calls.mono; focus (exact CN.out)); rintro e w6 ⟨y, a5, rfl, ho, hd⟩; have HS6 := hide (HS5.out.next ho hd); clear ho hd)
                  go_wp2_with (refine wpList_store_mid rfl 29 _ _ rfl w.heap.size 0 #[Value.int .i64 0, .string ⟨#[]⟩, .int .i64 0, .int .i64 0, .int .i64 0, .int .i64 0, .int .i64 0, .int .i64 0, .int .i64 0, .int .i64 0, .int .i64 0, .int .i64 0, .int .i64 0, .int .i64 0, .int .i64 0, .int .i64 0, .slice none 0 0, .int .i64 0] rfl rfl HS6.out.th (by kernel_rfl) (by kernel_rfl) ?_)
                  have hl := run_loadVar_mid (P := Try.prog) (w6.setCells w.heap.size 0 [Value.int .i64 0, .string ⟨#[]⟩, .int .i64 0, .int .i64 0, .int .i64 0, .int .i64 0, .int .i64 0, .int .i64 0, .int .i64 0, .int .i64 0, .int .i64 0, .int .i64 0, .int .i64 0, .int .i64 0, .int .i64 0, .int .i64 0, .slice none 0 0, .int .i64 0]) w.heap.size 0 29 [Value.int .i64 0, .string ⟨#[]⟩, .int .i64 0, .int .i64 0, .int .i64 0, .int .i64 0, .int .i64 0, .int .i64 0, .int .i64 0, .int .i64 0, .int .i64 0, .int .i64 0, .int .i64 0, .int .i64 0, .int .i64 0, .int .i64 0, .slice none 0 0, .int .i64 0] _ (World.rangeAt_setCells_same _ _ _ _ HS6.out.th) Try.underlying29 rfl (by kernel_rfl)
                  exact bodyPost_ret (v := .tuple #[.agg #[Value.int .i64 0, .string ⟨#[]⟩, .int .i64 0, .int .i64 0, .int .i64 0, .int .i64 0, .int .i64 0, .int .i64 0, .int .i64 0, .int .i64 0, .int .i64 0, .int .i64 0, .int .i64 0, .int .i64 0, .int .i64 0, .int .i64 0, .slice none 0 0, .int .i64 0], .int .i64 332]) (results_ct rfl rfl hl rfl) rfl (.inl ⟨HF.out, rfl, below_sets (Nat.le_refl _) _ _ _ HS6.out.b⟩)
                | some p =>
                  obtain ⟨m, a5⟩ := p
                  have CN := hide (rNext_some HS5.out.d hm)
                  by_cases hm64 : 64 < m
                  · have HF := hide (readO_none (parse_noO PK.out PT.out PN.out (show pO ns k a = none by unfold pO; rw [if_pos h4, hm]; simp only; rw [if_pos hm64])))
                    have d3 : decide (64 < (m : Int)) = true := decide_eq_true (by omega)
                    clear hm h4 hb4 hm64
                    go_upto_region 24 with (go_at_call 65; (apply Calls.mono; focus (exact CN.out)); rintro e w6 ⟨rfl, ho, hd⟩; have HS6 := hide (HS5.out.next ho hd); clear ho hd)
                    go_wp2_with (refine wpList_store_mid rfl 29 _ _ rfl w.heap.size 0 #[Value.int .i64 0, .string ⟨#[]⟩, .int .i64 0, .int .i64 0, .int .i64 0, .int .i64 0, .int .i64 0, .int .i64 0, .int .i64 0, .int .i64 0, .int .i64 0, .int .i64 0, .int .i64 0, .int .i64 0, .int .i64 0, .int .i64 0, .slice none 0 0, .int .i64 0] rfl rfl HS6.out.th (by kernel_rfl) (by kernel_rfl) ?_)
                    have hl := run_loadVar_mid (P := Try.prog) (w6.setCells w.heap.size 0 [Value.int .i64 0, .string ⟨#[]⟩, .int .i64 0, .int .i64 0, .int .i64 0, .int .i64 0, .int .i64 0, .int .i64 0, .int .i64 0, .int .i64 0, .int .i64 0, .int .i64 0, .int .i64 0, .int .i64 0, .int .i64 0, .int .i64 0, .slice none 0 0, .int .i64 0]) w.heap.size 0 29 [Value.int .i64 0, .string ⟨#[]⟩, .int .i64 0, .int .i64 0, .int .i64 0, .int .i64 0, .int .i64 0, .int .i64 0, .int .i64 0, .int .i64 0, .int .i64 0, .int .i64 0, .int .i64 0, .int .i64 0, .int .i64 0, .int .i64 0, .slice none 0 0, .int .i64 0] _ (World.rangeAt_setCells_same _ _ _ _ HS6.out.th) Try.underlying29 rfl (by kernel_rfl)
                    exact bodyPost_ret (v := .tuple #[.agg #[Value.int .i64 0, .string ⟨#[]⟩, .int .i64 0, .int .i64 0, .int .i64 0, .int .i64 0, .int .i64 0, .int .i64 0, .int .i64 0, .int .i64 0, .int .i64 0, .int .i64 0, .int .i64 0, .int .i64 0, .int .i64 0, .int .i64 0, .slice none 0 0, .int .i64 0], .int .i64 332]) (results_ct rfl rfl hl rfl) rfl (.inl ⟨HF.out, rfl, below_sets (Nat.le_refl _) _ _ _ HS6.out.b⟩)
                  · obtain ⟨RF, hRF⟩ : ∃ q, q = pF ns m a5 [] := ⟨_, rfl⟩
                    have PO := hide (show pO ns k a = RF by unfold pO; rw [if_pos h4, hm]; simp only; rw [if_neg hm64, hRF])
                    have HRF := hide hRF
                    have d3 : decide (64 < (m : Int)) = false := decide_eq_false (by omega)
                    obtain ⟨i93, hi93, hz93, hs93, hb93⟩ := info_parts info93
                    clear hm h4 hb4 hRF
                    go_upto_region 25 with (go_at_call 65; (apply Calls.mono; focus (exact CN.out)); rintro e w6 ⟨rfl, ho, hd⟩; have HS6 := hide (HS5.out.next ho hd); have HB6 := hide (HB5.out.stays (ho.block _ HB5.out.lt (by omega))); clear ho hd)
                    go_wp2_with fail
                    clear CN d3
                    go_loopw [17] (fun v17 wr => ∃ (j : Nat) (lf : List (Nat × Int)) (a : Nat) (ov : Value), j ≤ m ∧ v17 = .int .i64 (j : Int) ∧ lf.length = j ∧ pF ns (m - j) a lf = RF ∧ BoxO wr OB (mkO k nm l lf) ov ∧ wr.ownsRow (OB + 1) 93 2 ov j (flatF lf) ∧ DSt w wr ao cap ns a) (fun v17 _ => m - (intOf v17).toNat)
                    case atStart => exact ⟨0, [], a5, _, Nat.zero_le _, rfl, rfl, HRF.out.symm, HB6.out, ⟨rfl, .inl ⟨rfl, rfl⟩⟩, HS6.out⟩
                    case round =>
                      obtain ⟨j, lf, a6, ov, hj, rfl, hl, hp, hbx, ho, hs⟩ := hrel
                      have HLF := hide hl
                      have HP := hide hp
                      have HO7 := hide ho
                      have HB7 := hide hbx
                      have HS7 := hide hs
                      have hj0 : (0 : Int) ≤ (j : Int) := by omega
                      clear hl hp ho hs hbx HS5 HB5 HS6 HB6
                      by_cases hlt : j < m
                      · have hlt' : (j : Int) < (m : Int) := by omega
                        have e1 : m - j = (m - (j + 1)) + 1 := by omega
                        rw [e1] at HP
                        clear e1
                        cases hx : nxt ns a6 with
                        | none =>
                          have HF := hide (readO_none (parse_noO PK.out PT.out PN.out (show pO ns k a = none by rw [PO.out, ← HP.out, pF_none1 hx])))
                          have CN := hide (rNext_none HS7.out.d hx)
                          clear hx
                          go_upto_region 29 with (go_at_call 65; (apply Calls.mono; focus (exact CN.out)); rintro e w8 ⟨y, a7, rfl, ho, hd⟩; have HS8 := hide (HS7.out.next ho hd); clear ho hd)
                          have CN2 := hide (rNext_any HS8.out.d)
                          go_upto_region 31 with (go_at_call 65; (apply Calls.mono; focus (exact CN2.out)); rintro e w9 ⟨y2, y3, a8, rfl, ho, hd⟩; have HS9 := hide (HS8.out.next ho hd); clear ho hd)
                          go_wp2_with (refine wpList_store_mid rfl 29 _ _ rfl w.heap.size 0 #[Value.int .i64 0, .string ⟨#[]⟩, .int .i64 0, .int .i64 0, .int .i64 0, .int .i64 0, .int .i64 0, .int .i64 0, .int .i64 0, .int .i64 0, .int .i64 0, .int .i64 0, .int .i64 0, .int .i64 0, .int .i64 0, .int .i64 0, .slice none 0 0, .int .i64 0] rfl rfl HS9.out.th (by kernel_rfl) (by kernel_rfl) ?_)
                          have hl := run_loadVar_mid (P := Try.prog) (w9.setCells w.heap.size 0 [Value.int .i64 0, .string ⟨#[]⟩, .int .i64 0, .int .i64 0, .int .i64 0, .int .i64 0, .int .i64 0, .int .i64 0, .int .i64 0, .int .i64 0, .int .i64 0, .int .i64 0, .int .i64 0, .int .i64 0, .int .i64 0, .int .i64 0, .slice none 0 0, .int .i64 0]) w.heap.size 0 29 [Value.int .i64 0, .string ⟨#[]⟩, .int .i64 0, .int .i64 0, .int .i64 0, .int .i64 0, .int .i64 0, .int .i64 0, .int .i64 0, .int .i64 0, .int .i64 0, .int .i64 0, .int .i64 0, .int .i64 0, .int .i64 0, .int .i64 0, .slice none 0 0, .int .i64 0] _ (World.rangeAt_setCells_same _ _ _ _ HS9.out.th) Try.underlying29 rfl (by kernel_rfl)
                          exact bodyPost_ret (v := .tuple #[.agg #[Value.int .i64 0, .string ⟨#[]⟩, .int .i64 0, .int .i64 0, .int .i64 0, .int .i64 0, .int .i64 0, .int .i64 0, .int .i64 0, .int .i64 0, .int .i64 0, .int .i64 0, .int .i64 0, .int .i64 0, .int .i64 0, .int .i64 0, .slice none 0 0, .int .i64 0], .int .i64 332]) (results_ct rfl rfl hl rfl) rfl (.inl ⟨HF.out, rfl, below_sets (Nat.le_refl _) _ _ _ HS9.out.b⟩)
                        | some p =>
                          obtain ⟨gd, a7⟩ := p
                          have CN := hide (rNext_some HS7.out.d hx)
                          cases hx2 : nxt ns a7 with
                          | none =>
                            have HF := hide (readO_none (parse_noO PK.out PT.out PN.out (show pO ns k a = none by
                              rw [PO.out, ← HP.out]
                              by_cases hg : 4294967295 < gd
                              · exact pF_big hx hg
                              · exact pF_none2 hx hx2)))
                            have HX2 := hide hx2
                            clear hx hx2
                            go_upto_region 29 with (go_at_call 65; (apply Calls.mono; focus (exact CN.out)); rintro e w8 ⟨rfl, ho, hd⟩; have HS8 := hide (HS7.out.next ho hd); clear ho hd)
                            have CN2 := hide (rNext_none HS8.out.d HX2.out)
                            go_upto_region 31 with (go_at_call 65; (apply Calls.mono; focus (exact CN2.out)); rintro e w9 ⟨y2, a8, rfl, ho, hd⟩; have HS9 := hide (HS8.out.next ho hd); clear ho hd)
                            go_wp2_with (refine wpList_store_mid rfl 29 _ _ rfl w.heap.size 0 #[Value.int .i64 0, .string ⟨#[]⟩, .int .i64 0, .int .i64 0, .int .i64 0, .int .i64 0, .int .i64 0, .int .i64 0, .int .i64 0, .int .i64 0, .int .i64 0, .int .i64 0, .int .i64 0, .int .i64 0, .int .i64 0, .int .i64 0, .slice none 0 0, .int .i64 0] rfl rfl HS9.out.th (by kernel_rfl) (by kernel_rfl) ?_)
                            have hl := run_loadVar_mid (P := Try.prog) (w9.setCells w.heap.size 0 [Value.int .i64 0, .string ⟨#[]⟩, .int .i64 0, .int .i64 0, .int .i64 0, .int .i64 0, .int .i64 0, .int .i64 0, .int .i64 0, .int .i64 0, .int .i64 0, .int .i64 0, .int .i64 0, .int .i64 0, .int .i64 0, .int .i64 0, .slice none 0 0, .int .i64 0]) w.heap.size 0 29 [Value.int .i64 0, .string ⟨#[]⟩, .int .i64 0, .int .i64 0, .int .i64 0, .int .i64 0, .int .i64 0, .int .i64 0, .int .i64 0, .int .i64 0, .int .i64 0, .int .i64 0, .int .i64 0, .int .i64 0, .int .i64 0, .int .i64 0, .slice none 0 0, .int .i64 0] _ (World.rangeAt_setCells_same _ _ _ _ HS9.out.th) Try.underlying29 rfl (by kernel_rfl)
                            exact bodyPost_ret (v := .tuple #[.agg #[Value.int .i64 0, .string ⟨#[]⟩, .int .i64 0, .int .i64 0, .int .i64 0, .int .i64 0, .int .i64 0, .int .i64 0, .int .i64 0, .int .i64 0, .int .i64 0, .int .i64 0, .int .i64 0, .int .i64 0, .int .i64 0, .int .i64 0, .slice none 0 0, .int .i64 0], .int .i64 332]) (results_ct rfl rfl hl rfl) rfl (.inl ⟨HF.out, rfl, below_sets (Nat.le_refl _) _ _ _ HS9.out.b⟩)
                          | some p2 =>
                            obtain ⟨cn, a8⟩ := p2
                            have HX2 := hide hx2
                            by_cases hg : 4294967295 < gd
                            · have HF := hide (readO_none (parse_noO PK.out PT.out PN.out (show pO ns k a = none by rw [PO.out, ← HP.out]; exact pF_big hx hg)))
                              have d5 : decide (4294967295 < (gd : Int)) = true := decide_eq_true (by omega)
                              clear hx hx2 hg
                              go_upto_region 29 with (go_at_call 65; (apply Calls.mono; focus (exact CN.out)); rintro e w8 ⟨rfl, ho, hd⟩; have HS8 := hide (HS7.out.next ho hd); clear ho hd)
                              have CN2 := hide (rNext_some HS8.out.d HX2.out)
                              go_upto_region 31 with (go_at_call 65; (apply Calls.mono; focus (exact CN2.out)); rintro e w9 ⟨rfl, ho, hd⟩; have HS9 := hide (HS8.out.next ho hd); clear ho hd)
                              go_wp2_with (refine wpList_store_mid rfl 29 _ _ rfl w.heap.size 0 #[Value.int .i64 0, .string ⟨#[]⟩, .int .i64 0, .int .i64 0, .int .i64 0, .int .i64 0, .int .i64 0, .int .i64 0, .int .i64 0, .int .i64 0, .int .i64 0, .int .i64 0, .int .i64 0, .int .i64 0, .int .i64 0, .int .i64 0, .slice none 0 0, .int .i64 0] rfl rfl HS9.out.th (by kernel_rfl) (by kernel_rfl) ?_)
                              have hl := run_loadVar_mid (P := Try.prog) (w9.setCells w.heap.size 0 [Value.int .i64 0, .string ⟨#[]⟩, .int .i64 0, .int .i64 0, .int .i64 0, .int .i64 0, .int .i64 0, .int .i64 0, .int .i64 0, .int .i64 0, .int .i64 0, .int .i64 0, .int .i64 0, .int .i64 0, .int .i64 0, .int .i64 0, .slice none 0 0, .int .i64 0]) w.heap.size 0 29 [Value.int .i64 0, .string ⟨#[]⟩, .int .i64 0, .int .i64 0, .int .i64 0, .int .i64 0, .int .i64 0, .int .i64 0, .int .i64 0, .int .i64 0, .int .i64 0, .int .i64 0, .int .i64 0, .int .i64 0, .int .i64 0, .int .i64 0, .slice none 0 0, .int .i64 0] _ (World.rangeAt_setCells_same _ _ _ _ HS9.out.th) Try.underlying29 rfl (by kernel_rfl)
                              exact bodyPost_ret (v := .tuple #[.agg #[Value.int .i64 0, .string ⟨#[]⟩, .int .i64 0, .int .i64 0, .int .i64 0, .int .i64 0, .int .i64 0, .int .i64 0, .int .i64 0, .int .i64 0, .int .i64 0, .int .i64 0, .int .i64 0, .int .i64 0, .int .i64 0, .int .i64 0, .slice none 0 0, .int .i64 0], .int .i64 332]) (results_ct rfl rfl hl rfl) rfl (.inl ⟨HF.out, rfl, below_sets (Nat.le_refl _) _ _ _ HS9.out.b⟩)
                            · have d5 : decide (4294967295 < (gd : Int)) = false := decide_eq_false (by omega)
                              have HP2 := hide (show pF ns (m - (j + 1)) a8 (lf ++ [(gd, (cn : Int))]) = RF by rw [← pF_some hx hg hx2]; exact HP.out)
                              have hwg : IntKind.u32.wrap (gd : Int) = (gd : Int) := by rw [IntKind.wrap_u32]; omega
                              have hmg : (gd : Int) % 4294967296 = (gd : Int) := by omega
                              clear hx hx2 hg
                              go_upto_region 29 with (go_at_call 65; (apply Calls.mono; focus (exact CN.out)); rintro e w8 ⟨rfl, ho, hd⟩; have HS8 := hide (HS7.out.next ho hd); have HB8 := hide (HB7.out.stays (ho.block _ HB7.out.lt (by omega))); have HO8 := hide (own_only HO7.out ho (by omega)); clear ho hd)
                              have CN2 := hide (rNext_some HS8.out.d HX2.out)
                              go_upto_region 32 with (go_at_call 65; (apply Calls.mono; focus (exact CN2.out)); rintro e w9 ⟨rfl, ho, hd⟩; have HS9 := hide (HS8.out.next ho hd); have HB9 := hide (HB8.out.stays (ho.block _ HB8.out.lt (by omega))); have HO9 := hide (own_only HO8.out ho (by omega)); clear ho hd)
                              have z16 : w9.cell? ⟨OB, 16, none⟩ = some ov := HB9.out.c 16 (by decide)
                              have hsz9 := HS9.out.sz
                              have hob9 := HB9.out.lt
                              clear HS7 HB7 HO7 HS8 HB8 HO8 CN CN2
                              have HBA := hide (show BoxO (w9.alloc (.cells #[.int .u32 (gd : Int), .int .i64 (cn : Int)] 93)) OB (mkO k nm l lf) ov from HB9.out.below ((Below.refl _ _).alloc (Nat.le_refl _) _))
                              have HOA := hide (own_below HO9.out ((Below.refl _ _).alloc (Nat.le_refl _) (.cells #[.int .u32 (gd : Int), .int .i64 (cn : Int)] 93)))
                              go_wp2_with (at_builtin; refine wpList_append_rows _ rfl _ _ 27 rfl 93 i93 (.agg #[.int .u32 0, .int .i64 0]) 2 16 Try.underlying27 hi93 hz93 hs93 hb93 rfl (by decide) (OB + 1) w9.heap.size _ j (flatF lf) rfl HOA.out (.slice (some ⟨w9.heap.size, 0, none⟩) 1 1) 1 [.int .u32 (gd : Int), .int .i64 (cn : Int)] rfl (World.ownsRow_lit w9 #[.int .u32 (gd : Int), .int .i64 (cn : Int)] 1 (Nat.le_refl _) (by decide) rfl) (fun u hu => by simp only [List.mem_cons, List.not_mem_nil, or_false] at hu; rcases hu with rfl | rfl <;> rfl) (by unfold maxLen; omega) (by omega) (by rw [World.size_alloc]; omega) ?_; intro v5 w10 h5 g5; obtain ⟨p5, c5, rfl⟩ := own_any h5; have H5 := hide h5; have G5 := hide g5; have HB10 := hide (HBA.out.stays (g5.block OB (by rw [World.size_alloc]; omega) (fun e => by have := (HO9.out.lt OB e.symm).1; omega))); have y16 := HB10.out.c 16 (by decide); have f16 := HB10.out.f 16; clear h5 g5)
                              have HS10 := hide (HS9.out.far (((Below.refl (w.heap.size + 2) w9).alloc hsz9 (.cells #[.int .u32 (gd : Int), .int .i64 (cn : Int)] 93)).grown G5.out (by rw [World.size_alloc]; omega) (fun r e => by have := (HO9.out.lt r e).1; omega)))
                              go_roundw
                              case rel =>
                                refine ⟨j + 1, lf ++ [(gd, (cn : Int))], a8, _, by omega, by go_num, by rw [List.length_append, HLF.out]; rfl, HP2.out, HB10.out.offed _ _, ?_, HS10.out.far ((Below.refl _ _).setCell (p := ⟨OB, 16, none⟩) hob2 _)⟩
                                rw [flatF_app]
                                exact own_same H5.out (fun q hq _ => heap_setCell_other _ _ _ _ (by have := (H5.out.lt q hq).1; show q ≠ OB; omega))
                              case measure => (first | (simp [intOf]; done) | (simp [intOf]; omega))
                      · obtain rfl : m = j := by omega
                        rw [Nat.sub_self] at HP
                        go_wp2_with fail
                        go_meet
                        exact ⟨lf, a6, ov, by rw [PO.out, ← HP.out]; rfl, HB7.out, by rw [HLF.out]; exact HO7.out, HS7.out⟩
              · have db : b4 = false := by
                  cases b4
                  · rfl
                  · exact absurd (B4.out.1 rfl) h4
                subst db
                have PO := hide (show pO ns k a = some ([], a) by unfold pO; rw [if_neg h4])
                clear h4 hb4
                go_wp2_with fail
                go_meet
                exact ⟨[], a, _, PO.out, HB5.out, ⟨rfl, .inl ⟨rfl, rfl⟩⟩, HS5.out⟩
            case rest =>
              obtain ⟨fs, a4, ov, po, hbx, how, hs⟩ := hcut
              have HS6 := hide hs
              have HB6 := hide hbx
              have HO6 := hide how
              have PO := hide po
              clear hs hbx how po HS5 HB5 B4 hb4
              obtain ⟨O, hO⟩ : ∃ O, O = mkO k nm l fs := ⟨_, rfl⟩
              have PZ := hide (show parse ns = some (O, a4) by rw [hO]; exact parse_is PK.out PT.out PN.out PO.out)
              have pt := parse_take HR8.out.small PZ.out
              have hof : O.offs = fs := by rw [hO]; rfl
              rw [← hO] at HB6
              rw [← hof] at HO6
              have OI := hide (show OffsIn wc ov O.offs from OffsIn.of_own HO6.out (fun x hx => (pt.2.2.1.o1 x hx).1) (by have := pt.2.2.2.2; omega))
              have OR := hide pt.2.2.1
              have hob6 := HB6.out.lt
              obtain ⟨pv, pc, rfl⟩ := own_any HO6.out
              clear pt hO hof PO PN PT PK HFF HL
              rcases (show chk O = true ∨ chk O = false by cases chk O <;> simp) with hc | hc
              · have CF := hide (rForm_ok O (.slice pv O.offs.length pc) wc OI.out hc OR.out)
                have HCK := hide hc
                clear hc
                go_upto_region 34 with (first
                  | refine wpList_load_mid rfl 29 _ rfl OB 0 rfl (ordCells O (.slice pv O.offs.length pc)) _ HB6.out.range Try.underlying29 rfl (by rw [ordCells_len]; kernel_rfl) ?_
                  | (go_at_call 13; (apply Calls.mono; focus (exact CF.out)); rintro e w7 ⟨v7, rfl, o7, b7⟩; obtain ⟨p7, c7, rfl⟩ := own_any o7; have HS7 := hide (HS6.out.far (b7.mono HS6.out.sz)); have H7 := hide o7; have HB7 := hide (HB6.out.below b7); have HO7 := hide (own_below HO6.out b7); clear o7 b7))
                have hc1 := conv_own H7.out
                have hc2 := conv_row8 (HR8.out.below HS7.out.b HS7.out.y)
                by_cases he : formO O = ns
                · have q : (bstr (formO O)).toList = (bstr ns).toList := by rw [he]
                  have q1 : ((bstr (formO O)).toList == (bstr ns).toList) = true := by simp [q]
                  have q2 : ((bstr (formO O)).toList != (bstr ns).toList) = false := by simp [q]
                  have HR := hide (show readO ns = some O by
                    unfold readO; rw [PZ.out]; simp only
                    rw [if_pos ⟨(parse_whole HR8.out.small PZ.out).2 he, HCK.out⟩])
                  clear q he
                  go_wp2_with (first
                    | refine wpList_load_mid rfl 29 _ rfl OB 0 rfl (ordCells O (.slice pv O.offs.length pc)) _ HB7.out.range Try.underlying29 rfl (by rw [ordCells_len]; kernel_rfl) ?_
                    | refine wpList_store_mid rfl 29 _ _ rfl w.heap.size 0 (ordCells O (.slice pv O.offs.length pc)).toArray rfl rfl HS7.out.th (by kernel_rfl) (by kernel_rfl) ?_)
                  have hl := run_loadVar_mid (P := Try.prog) (w7.setCells w.heap.size 0 (ordCells O (.slice pv O.offs.length pc))) w.heap.size 0 29 (ordCells O (.slice pv O.offs.length pc)) _ (World.rangeAt_setCells_same _ _ _ _ HS7.out.th) Try.underlying29 rfl (by rw [ordCells_len]; kernel_rfl)
                  refine bodyPost_ret (v := .tuple #[ordV O (.slice pv O.offs.length pc), .int .i64 0]) (results_ct rfl rfl hl rfl) rfl (.inr ⟨O, _, HR.out, rfl, ?_, below_sets (Nat.le_refl _) _ _ _ HS7.out.b⟩)
                  exact own_lower (own_same HO7.out (fun q hq hlt => heap_sets_ne (by have := (HO7.out.lt q hq).1; omega) _ _ _)) (by omega)
                · have q : ¬ (bstr (formO O)).toList = (bstr ns).toList := fun e => he (bstr_inj (formO_lt OR.out ((chk_iff O).1 HCK.out).k1 HCK.out) HR8.out.small e)
                  have q1 : ((bstr (formO O)).toList == (bstr ns).toList) = false := by simp [q]
                  have q2 : ((bstr (formO O)).toList != (bstr ns).toList) = true := by simp [q]
                  have HF := hide (show readO ns = none by
                    unfold readO; rw [PZ.out]; simp only
                    rw [if_neg (fun h => he ((parse_whole HR8.out.small PZ.out).1 h.1))])
                  clear q he
                  go_wp2_with (refine wpList_store_mid rfl 29 _ _ rfl w.heap.size 0 #[Value.int .i64 0, .string ⟨#[]⟩, .int .i64 0, .int .i64 0, .int .i64 0, .int .i64 0, .int .i64 0, .int .i64 0, .int .i64 0, .int .i64 0, .int .i64 0, .int .i64 0, .int .i64 0, .int .i64 0, .int .i64 0, .int .i64 0, .slice none 0 0, .int .i64 0] rfl rfl HS7.out.th (by kernel_rfl) (by kernel_rfl) ?_)
                  have hl := run_loadVar_mid (P := Try.prog) (w7.setCells w.heap.size 0 [Value.int .i64 0, .string ⟨#[]⟩, .int .i64 0, .int .i64 0, .int .i64 0, .int .i64 0, .int .i64 0, .int .i64 0, .int .i64 0, .int .i64 0, .int .i64 0, .int .i64 0, .int .i64 0, .int .i64 0, .int .i64 0, .int .i64 0, .slice none 0 0, .int .i64 0]) w.heap.size 0 29 [Value.int .i64 0, .string ⟨#[]⟩, .int .i64 0, .int .i64 0, .int .i64 0, .int .i64 0, .int .i64 0, .int .i64 0, .int .i64 0, .int .i64 0, .int .i64 0, .int .i64 0, .int .i64 0, .int .i64 0, .int .i64 0, .int .i64 0, .slice none 0 0, .int .i64 0] _ (World.rangeAt_setCells_same _ _ _ _ HS7.out.th) Try.underlying29 rfl (by kernel_rfl)
                  exact bodyPost_ret (v := .tuple #[.agg #[Value.int .i64 0, .string ⟨#[]⟩, .int .i64 0, .int .i64 0, .int .i64 0, .int .i64 0, .int .i64 0, .int .i64 0, .int .i64 0, .int .i64 0, .int .i64 0, .int .i64 0, .int .i64 0, .int .i64 0, .int .i64 0, .int .i64 0, .slice none 0 0, .int .i64 0], .int .i64 332]) (results_ct rfl rfl hl rfl) rfl (.inl ⟨HF.out, rfl, below_sets (Nat.le_refl _) _ _ _ HS7.out.b⟩)
              · have CF := hide (rForm_bad O (.slice pv O.offs.length pc) wc OI.out hc)
                have HF := hide (show readO ns = none by
                  unfold readO; rw [PZ.out]; simp only
                  rw [if_neg (fun h => by rw [hc] at h; cases h.2)])
                clear hc
                go_upto_region 35 with (first
                  | refine wpList_load_mid rfl 29 _ rfl OB 0 rfl (ordCells O (.slice pv O.offs.length pc)) _ HB6.out.range Try.underlying29 rfl (by rw [ordCells_len]; kernel_rfl) ?_
                  | (go_at_call 13; (apply Calls.mono; focus (exact CF.out)); rintro e w7 ⟨rfl, b7⟩; have HS7 := hide (HS6.out.far (b7.mono HS6.out.sz)); clear b7))
                go_wp2_with (refine wpList_store_mid rfl 29 _ _ rfl w.heap.size 0 #[Value.int .i64 0, .string ⟨#[]⟩, .int .i64 0, .int .i64 0, .int .i64 0, .int .i64 0, .int .i64 0, .int .i64 0, .int .i64 0, .int .i64 0, .int .i64 0, .int .i64 0, .int .i64 0, .int .i64 0, .int .i64 0, .int .i64 0, .slice none 0 0, .int .i64 0] rfl rfl HS7.out.th (by kernel_rfl) (by kernel_rfl) ?_)
                have hl := run_loadVar_mid (P := Try.prog) (w7.setCells w.heap.size 0 [Value.int .i64 0, .string ⟨#[]⟩, .int .i64 0, .int .i64 0, .int .i64 0, .int .i64 0, .int .i64 0, .int .i64 0, .int .i64 0, .int .i64 0, .int .i64 0, .int .i64 0, .int .i64 0, .int .i64 0, .int .i64 0, .int .i64 0, .slice none 0 0, .int .i64 0]) w.heap.size 0 29 [Value.int .i64 0, .string ⟨#[]⟩, .int .i64 0, .int .i64 0, .int .i64 0, .int .i64 0, .int .i64 0, .int .i64 0, .int .i64 0, .int .i64 0, .int .i64 0, .int .i64 0, .int .i64 0, .int .i64 0, .int .i64 0, .int .i64 0, .slice none 0 0, .int .i64 0] _ (World.rangeAt_setCells_same _ _ _ _ HS7.out.th) Try.underlying29 rfl (by kernel_rfl)
                exact bodyPost_ret (v := .tuple #[.agg #[Value.int .i64 0, .string ⟨#[]⟩, .int .i64 0, .int .i64 0, .int .i64 0, .int .i64 0, .int .i64 0, .int .i64 0, .int .i64 0, .int .i64 0, .int .i64 0, .int .i64 0, .int .i64 0, .int .i64 0, .int .i64 0, .int .i64 0, .slice none 0 0, .int .i64 0], .int .i64 332]) (results_ct rfl rfl hl rfl) rfl (.inl ⟨HF.out, rfl, below_sets (Nat.le_refl _) _ _ _ HS7.out.b⟩)
    · have HF := hide (readO_none (parse_noK (pK_bad hn hk)))
      have HK := hide hk
      clear hn hk
      by_cases h1 : k < 1
      · have d1 : decide ((k : Int) < 1) = true := decide_eq_true (by omega)
        clear h1
        go_upto_region 3 with (go_at_call 65; (apply Calls.mono; focus (exact CN.out)); rintro e w1 ⟨rfl, ho, hd⟩; have HS1 := hide (HS.out.next ho hd); clear ho hd)
        go_wp2_with (refine wpList_store_mid rfl 29 _ _ rfl w.heap.size 0 #[Value.int .i64 0, .string ⟨#[]⟩, .int .i64 0, .int .i64 0, .int .i64 0, .int .i64 0, .int .i64 0, .int .i64 0, .int .i64 0, .int .i64 0, .int .i64 0, .int .i64 0, .int .i64 0, .int .i64 0, .int .i64 0, .int .i64 0, .slice none 0 0, .int .i64 0] rfl rfl HS1.out.th (by kernel_rfl) (by kernel_rfl) ?_)
        have hl := run_loadVar_mid (P := Try.prog) (w1.setCells w.heap.size 0 [Value.int .i64 0, .string ⟨#[]⟩, .int .i64 0, .int .i64 0, .int .i64 0, .int .i64 0, .int .i64 0, .int .i64 0, .int .i64 0, .int .i64 0, .int .i64 0, .int .i64 0, .int .i64 0, .int .i64 0, .int .i64 0, .int .i64 0, .slice none 0 0, .int .i64 0]) w.heap.size 0 29 [Value.int .i64 0, .string ⟨#[]⟩, .int .i64 0, .int .i64 0, .int .i64 0, .int .i64 0, .int .i64 0, .int .i64 0, .int .i64 0, .int .i64 0, .int .i64 0, .int .i64 0, .int .i64 0, .int .i64 0, .int .i64 0, .int .i64 0, .slice none 0 0, .int .i64 0] _ (World.rangeAt_setCells_same _ _ _ _ HS1.out.th) Try.underlying29 rfl (by kernel_rfl)
        exact bodyPost_ret (v := .tuple #[.agg #[Value.int .i64 0, .string ⟨#[]⟩, .int .i64 0, .int .i64 0, .int .i64 0, .int .i64 0, .int .i64 0, .int .i64 0, .int .i64 0, .int .i64 0, .int .i64 0, .int .i64 0, .int .i64 0, .int .i64 0, .int .i64 0, .int .i64 0, .slice none 0 0, .int .i64 0], .int .i64 332]) (results_ct rfl rfl hl rfl) rfl (.inl ⟨HF.out, rfl, below_sets (Nat.le_refl _) _ _ _ HS1.out.b⟩)
      · have d1 : decide ((k : Int) < 1) = false := decide_eq_false (by omega)
        have d2 : decide (6 < (k : Int)) = true := decide_eq_true (by have := HK.out; omega)
        clear h1
        go_upto_region 3 with (go_at_call 65; (apply Calls.mono; focus (exact CN.out)); rintro e w1 ⟨rfl, ho, hd⟩; have HS1 := hide (HS.out.next ho hd); clear ho hd)
        go_wp2_with (refine wpList_store_mid rfl 29 _ _ rfl w.heap.size 0 #[Value.int .i64 0, .string ⟨#[]⟩, .int .i64 0, .int .i64 0, .int .i64 0, .int .i64 0, .int .i64 0, .int .i64 0, .int .i64 0, .int .i64 0, .int .i64 0, .int .i64 0, .int .i64 0, .int .i64 0, .int .i64 0, .int .i64 0, .slice none 0 0, .int .i64 0] rfl rfl HS1.out.th (by kernel_rfl) (by kernel_rfl) ?_)
        have hl := run_loadVar_mid (P := Try.prog) (w1.setCells w.heap.size 0 [Value.int .i64 0, .string ⟨#[]⟩, .int .i64 0, .int .i64 0, .int .i64 0, .int .i64 0, .int .i64 0, .int .i64 0, .int .i64 0, .int .i64 0, .int .i64 0, .int .i64 0, .int .i64 0, .int .i64 0, .int .i64 0, .int .i64 0, .slice none 0 0, .int .i64 0]) w.heap.size 0 29 [Value.int .i64 0, .string ⟨#[]⟩, .int .i64 0, .int .i64 0, .int .i64 0, .int .i64 0, .int .i64 0, .int .i64 0, .int .i64 0, .int .i64 0, .int .i64 0, .int .i64 0, .int .i64 0, .int .i64 0, .int .i64 0, .int .i64 0, .slice none 0 0, .int .i64 0] _ (World.rangeAt_setCells_same _ _ _ _ HS1.out.th) Try.underlying29 rfl (by kernel_rfl)
        exact bodyPost_ret (v := .tuple #[.agg #[Value.int .i64 0, .string ⟨#[]⟩, .int .i64 0, .int .i64 0, .int .i64 0, .int .i64 0, .int .i64 0, .int .i64 0, .int .i64 0, .int .i64 0, .int .i64 0, .int .i64 0, .int .i64 0, .int .i64 0, .int .i64 0, .int .i64 0, .slice none 0 0, .int .i64 0], .int .i64 332]) (results_ct rfl rfl hl rfl) rfl (.inl ⟨HF.out, rfl, below_sets (Nat.le_refl _) _ _ _ HS1.out.b⟩)
end Go.Proofs.Ytalnipjaekpbhaa

