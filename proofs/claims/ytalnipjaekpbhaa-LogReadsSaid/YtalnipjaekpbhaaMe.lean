/- Contracts of the layer's functions, each proved once, in the order in which they are used. No condition beyond each theorem's own. -/
import Derived.Test.YtalnipjaekpbhaaL14
import Derived.Test.YtalnipjaekpbhaaMd
import Derived.Lib.AppendStr
import Derived.Deep.CutRange
namespace Go.Proofs.Ytalnipjaekpbhaa
open Go.ChangeShapes Go.WideShapes Go.ChangeAt Go.RowKit Go.Deep
set_option linter.unusedSimpArgs false
set_option linter.unusedVariables false

theorem BoxO.set {w : World} {ob : Nat} {o : Ord} {ov : Value} (h : BoxO w ob o ov) (o2 : Ord) (ov2 : Value) : BoxO (w.setCells ob 0 (ordCells o2 ov2)) ob o2 ov2 := by
  refine ⟨fun j hj => ?_, fun j => (World.frozen?_setCells _ _ _ _ _).trans (h.f j)⟩
  have q := World.rangeAt_setCells_same w ob 0 (ordCells o2 ov2) h.there j _ (List.getElem?_eq_getElem (by rw [ordCells_len]; exact hj))
  rw [Nat.zero_add] at q
  rw [q]; exact (List.getElem?_eq_getElem (by rw [ordCells_len]; exact hj)).symm
theorem BoxO.named {w : World} {ob : Nat} {o : Ord} {ov : Value} (h : BoxO w ob o ov) (n : List Nat) : BoxO (w.setCell ⟨ob, 1, none⟩ (.string (bstr n))) ob { o with name := n } ov := by
  refine ⟨fun i hi => ?_, fun i => (World.frozen?_setCell _ _ _ _).trans (h.f i)⟩
  by_cases e : 1 = i
  · subst e
    rw [World.cell?_setCell_same' _ _ _ (by rw [h.c 1 (by decide)]; rfl)]; rfl
  · rw [World.cell?_setCell_other _ _ _ _ (by intro e2; injection e2 with _ e2; exact e e2), h.c i hi]
    match i, hi with
    | 0, _ => rfl
    | 1, _ => exact absurd rfl e
    | j + 2, _ => rfl
theorem BoxO.offed {w : World} {ob : Nat} {o : Ord} {ov : Value} (h : BoxO w ob o ov) (l : List (Nat × Int)) (ov2 : Value) : BoxO (w.setCell ⟨ob, 16, none⟩ ov2) ob { o with offs := l } ov2 := by
  refine ⟨fun i hi => ?_, fun i => (World.frozen?_setCell _ _ _ _).trans (h.f i)⟩
  by_cases e : 16 = i
  · subst e
    rw [World.cell?_setCell_same' _ _ _ (by rw [h.c 16 (by decide)]; rfl)]; rfl
  · rw [World.cell?_setCell_other _ _ _ _ (by intro e2; injection e2 with _ e2; exact e e2), h.c i hi]
    have hi' : i < 18 := hi
    match i, hi' with
    | 0, _ | 1, _ | 2, _ | 3, _ | 4, _ | 5, _ | 6, _ | 7, _ | 8, _ | 9, _ | 10, _ | 11, _ | 12, _ | 13, _ | 14, _ | 15, _ | 17, _ => rfl
    | 16, _ => exact absurd rfl e
    | j + 18, h => omega
theorem lot_all (a b : Ord) : (lotO.all fun j => a.num j == b.num j) = true ↔ ∀ j ∈ lotO, a.num j = b.num j := by simp [List.all_eq_true]
theorem sameO_iff (a b : Ord) : sameO a b = true ↔ a.kind = b.kind ∧ (bstr a.name).toList = (bstr b.name).toList ∧ (∀ j ∈ numO, a.num j = b.num j) ∧ a.offs = b.offs := by
  unfold sameO
  simp only [Bool.and_eq_true, decide_eq_true_eq, lot_all]
  constructor
  · rintro ⟨h1, h2, h3, h4, h5, h6, h7, h8⟩
    refine ⟨h1, h2, fun j hj => ?_, h8⟩
    simp only [numO, List.mem_cons, List.not_mem_nil, or_false] at hj
    rcases hj with rfl | rfl | rfl | rfl | rfl | rfl | rfl | rfl | rfl | rfl | rfl | rfl | rfl | rfl | rfl <;> first | assumption | exact h6 _ (by decide)
  · rintro ⟨h1, h2, h3, h4⟩
    exact ⟨h1, h2, h3 2 (by decide), h3 3 (by decide), h3 4 (by decide), fun j hj => h3 j (by revert hj; revert j; decide), h3 17 (by decide), h4⟩
theorem listed_mem (k : Int) (j : Nat) : j ∈ listed k ↔ j ∈ numL k := by
  unfold listed numL wholeO wideO behindO
  by_cases k1 : k = 1
  · subst k1; simp
  by_cases k2 : k = 2
  · subst k2; simp
  by_cases k3 : k = 3
  · subst k3; simp; omega
  by_cases k4 : k = 4
  · subst k4; simp
  by_cases k5 : k = 5
  · subst k5; simp
  by_cases k6 : k = 6
  · subst k6; simp
  simp [k1, k2, k3, k4, k5, k6]
theorem numL_sub (k : Int) : ∀ j ∈ numL k, j ∈ numO := by
  unfold numL
  by_cases k1 : k = 1
  · subst k1; decide
  by_cases k2 : k = 2
  · subst k2; decide
  by_cases k3 : k = 3
  · subst k3; decide
  by_cases k4 : k = 4
  · subst k4; decide
  by_cases k5 : k = 5
  · subst k5; decide
  by_cases k6 : k = 6
  · subst k6; decide
  simp [k1, k2, k3, k4, k5, k6]
theorem numL_len (k : Int) : (numL k).length ≤ 11 := by
  unfold numL; (repeat' split) <;> decide
theorem numL_pos {k : Int} (h : isKind k = true) : 0 < (numL k).length := by
  unfold isKind at h
  have h := of_decide_eq_true h
  unfold numL; (repeat' split) <;> first | decide | (exfalso; omega)
/-- is the order refused ahead of its numbers? -/
def early (o : Ord) : Bool := !isKind o.kind || bad2 o
theorem early_eq (o : Ord) : early o = (decide (o.kind < 1) || decide (6 < o.kind) || ((o.kind == 1) != decide (0 < (bstr o.name).size)) || decide ((64 : Int) < ((bstr o.name).size : Int)) || decide ((64 : Int) < (o.offs.length : Int)) || ((o.kind != 4) && decide (0 < o.offs.length))) := by
  unfold early isKind bad2
  rw [bstr_size]
  have e1 : (o.name.isEmpty == !(o.kind == 1)) = !((o.kind == 1) != decide (0 < o.name.length)) := by
    cases o.name <;> cases (o.kind == 1) <;> rfl
  have e2 : (!decide (1 ≤ o.kind ∧ o.kind ≤ 6)) = (decide (o.kind < 1) || decide (6 < o.kind)) := by
    rw [Bool.eq_iff_iff]; simp
  have e3 : ∀ n : Nat, decide ((64 : Int) < (n : Int)) = decide (64 < n) := fun n => by rw [decide_eq_decide]; omega
  rw [e1, e2, e3, e3, Bool.not_not]
  generalize decide (o.kind < 1) = a
  generalize decide (6 < o.kind) = b
  generalize ((o.kind == 1) != decide (0 < o.name.length)) = c
  generalize decide (64 < o.offs.length) = d
  generalize decide (64 < o.name.length) = e
  generalize decide (0 < o.offs.length) = f
  generalize (o.kind != 4) = g
  revert a b c d e f g
  decide
theorem chk_early {o : Ord} (h : early o = true) : chk o = false := by
  unfold early at h; unfold chk
  cases h1 : isKind o.kind
  · rfl
  · rw [h1] at h
    rw [show bad2 o = true by simpa using h]; rfl
/-- the order that is made again -/
def again (o : Ord) : Ord := { kind := o.kind, name := o.name, num := fun j => if j ∈ numL o.kind then o.num j else 0, offs := o.offs }
theorem again_same {o : Ord} (h1 : early o = false) (h2 : ∀ j ∈ numL o.kind, 0 ≤ o.num j) (h3 : anyNeg o.offs = false) : sameO (again o) o = chk o := by
  unfold early at h1
  rw [Bool.or_eq_false_iff] at h1
  have hk : isKind o.kind = true := by simpa using h1.1
  rw [Bool.eq_iff_iff, sameO_iff]
  unfold chk
  rw [hk, h1.2, h3]
  have e : (listed o.kind).all (fun j => decide (0 ≤ o.num j)) = true := by
    rw [List.all_eq_true]; exact fun j hj => decide_eq_true (h2 j ((listed_mem _ _).1 hj))
  rw [e]
  simp only [Bool.not_false, Bool.and_true, Bool.true_and, List.all_eq_true, decide_eq_true_eq]
  constructor
  · rintro ⟨-, -, h, -⟩ j hj
    have q := h j hj
    unfold again at q
    unfold Ord.zero
    simp only at q ⊢
    split
    · rfl
    · rename_i hn
      rw [if_neg (fun e => hn ((listed_mem _ _).2 e))] at q
      exact q.symm
  · intro h
    refine ⟨rfl, rfl, fun j hj => ?_, rfl⟩
    have q := h j hj
    unfold Ord.zero at q
    unfold again
    simp only at q ⊢
    split
    · rfl
    · rename_i hn
      rw [if_neg (fun e => hn ((listed_mem _ _).1 e))] at q
      exact q.symm
set_option maxRecDepth 100000 in
set_option maxHeartbeats 1600000 in
theorem rCheck_c (o : Ord) (ov : Value) (w : World) (ho : OffsIn w ov o.offs) : Calls Try.prog 50 #[ordV o ov] w fun e w' => e = .returned (.int .i64 (cond (chk o) 0 2)) ∧ Below w.heap.size w w' := by
  have HO := hide ho
  obtain ⟨p, c, rfl⟩ := ho.val
  have hol := ho.len
  clear ho
  unfold ordV
  obtain ⟨W, hW⟩ : ∃ W, W = w.alloc (.cells (ordCells o (.slice p o.offs.length c)).toArray 29) := ⟨_, rfl⟩
  have hb0 : Below w.heap.size w W := by rw [hW]; exact (Below.refl _ _).alloc (Nat.le_refl _) _
  have hbox : BoxO W w.heap.size o (.slice p o.offs.length c) := by rw [hW]; exact box_made w o _
  have HW := hide hW
  have HB0 := hide hb0
  have HBX := hide hbox
  have x0 : W.cell? ⟨w.heap.size, 0, none⟩ = some (.int .i64 o.kind) := hbox.c 0 (by decide)
  have x1 : W.cell? ⟨w.heap.size, 1, none⟩ = some (.string (bstr o.name)) := hbox.c 1 (by decide)
  have x16 : W.cell? ⟨w.heap.size, 16, none⟩ = some (.slice p o.offs.length c) := hbox.c 16 (by decide)
  clear hb0 hbox hW
  obtain ⟨k, hk⟩ : ∃ k, k = o.kind := ⟨_, rfl⟩
  obtain ⟨b1, hb1⟩ : ∃ b, (k == 1) = b := ⟨_, rfl⟩
  obtain ⟨b4, hb4⟩ : ∃ b, (k != 4) = b := ⟨_, rfl⟩
  obtain ⟨l1, hl1⟩ : ∃ b, decide (k < 1) = b := ⟨_, rfl⟩
  obtain ⟨g6, hg6⟩ : ∃ b, decide (6 < k) = b := ⟨_, rfl⟩
  rw [← hk] at x0
  have KK := hide hk
  have EE := hide (show early o = (l1 || g6 || (b1 != decide (0 < (bstr o.name).size)) || decide ((64 : Int) < ((bstr o.name).size : Int)) || decide ((64 : Int) < (o.offs.length : Int)) || (b4 && decide (0 < o.offs.length))) by rw [← hb1, ← hb4, ← hl1, ← hg6, hk]; exact early_eq o)
  clear hk
  go_enter Try.func50, Try.ntmps50
  go_upto_region 1 with fail
  rw [← HW.out]
  go_upto_region 2 with fail
  go_cut [46] from 10 to 45 (fun v46 wx => v46 = .bool (early o) ∧ wx = W)
  case first =>
    go_wp2_with fail
    all_goals go_meet
    all_goals refine ⟨congrArg Value.bool ?_, rfl⟩
    all_goals rw [EE.out]
    all_goals clear HW HB0 HBX x0 x1 x16 HO EE KK
    all_goals simp [*]
  case rest =>
    obtain ⟨hv46, hwc⟩ := hcut
    subst wc
    rcases (show early o = true ∨ early o = false by cases early o <;> simp) with h2 | h2
    · rw [h2] at hv46
      subst hv46
      have HC := hide (chk_early h2)
      clear h2
      go_wp2_with fail
      refine bodyPost_ret (v := .int .i64 2) (by simp [results, Try.f50, go_sem]) rfl ⟨by rw [HC.out]; rfl, HB0.out⟩
    · rw [h2] at hv46
      subst hv46
      have H2 := hide h2
      have HK := hide (show isKind o.kind = true by unfold early at h2; rw [Bool.or_eq_false_iff] at h2; simpa using h2.1)
      clear h2
      have C53 := hide (numbers_c o (.slice p o.offs.length c) W)
      go_wp2_with (first
        | refine wpList_load_mid rfl 29 _ rfl w.heap.size 0 rfl (ordCells o (.slice p o.offs.length c)) _ HBX.out.range Try.underlying29 rfl (by rw [ordCells_len]; kernel_rfl) ?_
        | (go_at_call 53; (apply Calls.mono; focus (exact C53.out)); rintro e w2 ⟨v, rfl, ho2, hb2⟩; have HV := hide ho2; have HB2 := hide hb2; clear ho2 hb2))
      have HW2 := hide (bstep HB0.out HB2.out)
      have HX2 := hide (HBX.out.below HB2.out)
      have HO2 := hide (HO.out.below (bstep HB0.out HB2.out))
      have y1 : w2.cell? ⟨w.heap.size, 1, none⟩ = some (.string (bstr o.name)) := HX2.out.c 1 (by decide)
      have y16 : w2.cell? ⟨w.heap.size, 16, none⟩ = some (.slice p o.offs.length c) := HX2.out.c 16 (by decide)
      obtain ⟨L, hL⟩ : ∃ L, L = numL o.kind := ⟨_, rfl⟩
      have hLp : 0 < L.length := by rw [hL]; exact numL_pos HK.out
      have hL11 : L.length ≤ 11 := by rw [hL]; exact numL_len _
      rw [← hL] at HV
      obtain ⟨g, cap, rfl, -, -⟩ := HV.out.form (by omega)
      have HC4 := hide (show ∀ j, j < L.length → w2.cell? ⟨g, j, none⟩ = some (.int .i64 (o.num (L.getD j 0))) from fun j hj => by
        rw [HV.out.cellAt j (by omega)]
        unfold numV
        rw [List.getElem?_map, List.getD_eq_getElem?_getD, List.getElem?_eq_getElem hj]; rfl)
      have HL := hide hL
      clear hL x0 x1 x16 hb1 hb4 hl1 hg6 EE C53
      have e0 : (L.length : Int) ≠ 0 := by omega
      try rw [← HL.out]
      go_loopw [5] (fun v5 wr => ∃ j : Nat, j ≤ L.length ∧ v5 = .int .i64 (j : Int) ∧ (∀ i, i < j → 0 ≤ o.num (L.getD i 0)) ∧ wr = w2) (fun v5 _ => L.length - (intOf v5).toNat)
      case atStart => exact ⟨0, Nat.zero_le _, rfl, fun i hi => absurd hi (Nat.not_lt_zero i), rfl⟩
      case round =>
        obtain ⟨j, hj, rfl, hp, rfl⟩ := hrel
        have HPP := hide hp
        have hj0 : (0 : Int) ≤ (j : Int) := by omega
        clear hp
        by_cases hlt : j < L.length
        · have hlt' : (j : Int) < (L.length : Int) := by omega
          have c1 := HC4.out j hlt
          obtain ⟨x, hx⟩ : ∃ x, x = o.num (L.getD j 0) := ⟨_, rfl⟩
          rw [← hx] at c1
          have HX := hide hx
          clear hx
          by_cases hneg : x < 0
          · have d : decide (x < 0) = true := decide_eq_true hneg
            have HC := hide (show chk o = false by
              cases hc : chk o
              · rfl
              · have q := ((chk_iff o).1 hc).ln (L.getD j 0) ((listed_mem _ _).2 (by rw [← HL.out, List.getD_eq_getElem?_getD, List.getElem?_eq_getElem hlt]; exact List.getElem_mem hlt))
                rw [← HX.out] at q
                omega)
            go_wp2_with fail
            refine bodyPost_ret (v := .int .i64 2) (by simp [results, Try.f50, go_sem]) rfl ⟨by rw [HC.out]; rfl, HW2.out⟩
          · have d : decide (x < 0) = false := decide_eq_false hneg
            go_wp2_with fail
            go_roundw
            case rel =>
              refine ⟨j + 1, by omega, by go_num, fun i hi => ?_, (by first | trivial | rfl)⟩
              rcases Nat.lt_or_ge i j with h3 | h3
              · exact HPP.out i h3
              · obtain rfl : i = j := by omega
                rw [← HX.out]; omega
            case measure => (first | (simp [intOf]; done) | (simp [intOf]; omega))
        · obtain rfl : j = L.length := by omega
          go_wp2_with fail
          go_loopw [6] (fun v6 wr2 => ∃ j : Nat, j ≤ o.offs.length ∧ v6 = .int .i64 (j : Int) ∧ (∀ i, i < j → 0 ≤ (o.offs.getD i (0, 0)).2) ∧ wr2 = wr) (fun v6 _ => o.offs.length - (intOf v6).toNat)
          case atStart => exact ⟨0, Nat.zero_le _, rfl, fun i hi => absurd hi (Nat.not_lt_zero i), rfl⟩
          case round =>
            obtain ⟨j, hj, rfl, hp, rfl⟩ := hrel
            have HPO := hide hp
            have hj0 : (0 : Int) ≤ (j : Int) := by omega
            clear hp
            by_cases hlt : j < o.offs.length
            · have hlt' : (j : Int) < (o.offs.length : Int) := by omega
              obtain ⟨b1, o1, c1, e1, z1, z2⟩ := HO2.out.at_ j hlt
              injection e1 with e1 _ ec1
              subst e1 ec1
              obtain ⟨x, hx⟩ : ∃ x, x = (o.offs.getD j (0, 0)).2 := ⟨_, rfl⟩
              rw [← hx] at z2
              have HX := hide hx
              clear hx z1
              by_cases hneg : x < 0
              · have d : decide (x < 0) = true := decide_eq_true hneg
                have HC := hide (show chk o = false by unfold chk; rw [anyNeg_at hlt (by rw [← HX.out]; exact hneg)]; simp)
                go_wp2_with fail
                refine bodyPost_ret (v := .int .i64 2) (by simp [results, Try.f50, go_sem]) rfl ⟨by rw [HC.out]; rfl, HW2.out⟩
              · have d : decide (x < 0) = false := decide_eq_false hneg
                go_wp2_with fail
                go_roundw
                case rel =>
                  refine ⟨j + 1, by omega, by go_num, fun i hi => ?_, (by first | trivial | rfl)⟩
                  rcases Nat.lt_or_ge i j with h3 | h3
                  · exact HPO.out i h3
                  · obtain rfl : i = j := by omega
                    rw [← HX.out]; omega
                case measure => (first | (simp [intOf]; done) | (simp [intOf]; omega))
            · obtain rfl : j = o.offs.length := by omega
              have co := of_c k o.num L.length g cap wr (by rw [HL.out, KK.out]) (by rw [KK.out, ← HL.out]; exact HC4.out)
              unfold ordV at co
              have CO := hide co
              clear co
              have TX := hide (show ∀ w3 : World, (w3.alloc (.cells #[Value.int .i64 0, .string ⟨#[]⟩, .int .i64 0, .int .i64 0, .int .i64 0, .int .i64 0, .int .i64 0, .int .i64 0, .int .i64 0, .int .i64 0, .int .i64 0, .int .i64 0, .int .i64 0, .int .i64 0, .int .i64 0, .int .i64 0, .slice none 0 0, .int .i64 0] 29)).there w3.heap.size 0 (ordCells (ofO k o.num) (.slice none 0 0)).toArray.size from fun w3 => (congrArg (fun n => (w3.alloc (.cells #[Value.int .i64 0, .string ⟨#[]⟩, .int .i64 0, .int .i64 0, .int .i64 0, .int .i64 0, .int .i64 0, .int .i64 0, .int .i64 0, .int .i64 0, .int .i64 0, .int .i64 0, .int .i64 0, .int .i64 0, .int .i64 0, .int .i64 0, .slice none 0 0, .int .i64 0] 29)).there w3.heap.size 0 n) (show (ordCells (ofO k o.num) (.slice none 0 0)).toArray.size = 18 by rw [List.size_toArray, ordCells_len])).mpr (box_made w3 (zeroO 0) (.slice none 0 0)).there)
              go_upto_region 16 with (first
                | (go_at_call 68; (apply Calls.mono; focus (exact CO.out)); rintro e w3 ⟨rfl, hb3⟩; have HB3 := hide hb3; clear hb3)
                | refine wpList_store_mid rfl 29 _ _ rfl _ 0 (ordCells (ofO k o.num) (.slice none 0 0)).toArray rfl rfl (TX.out _) (by kernel_rfl) (by kernel_rfl) ?_)
              obtain ⟨b3, hb3⟩ : ∃ b3, b3 = w3.heap.size := ⟨_, rfl⟩
              obtain ⟨W4, hW4⟩ : ∃ W4, W4 = (w3.alloc (.cells #[Value.int .i64 0, .string ⟨#[]⟩, .int .i64 0, .int .i64 0, .int .i64 0, .int .i64 0, .int .i64 0, .int .i64 0, .int .i64 0, .int .i64 0, .int .i64 0, .int .i64 0, .int .i64 0, .int .i64 0, .int .i64 0, .int .i64 0, .slice none 0 0, .int .i64 0] 29)).setCells b3 0 (ordCells (ofO k o.num) (.slice none 0 0)) := ⟨_, rfl⟩
              have hs3 : w.heap.size < b3 := by rw [hb3]; exact Nat.lt_of_lt_of_le HX2.out.lt HB3.out.size
              have hbw : Below w.heap.size w W4 := by
                rw [hW4]
                exact below_sets (Nat.le_of_lt hs3) _ _ _ ((bstep HW2.out HB3.out).alloc (bstep HW2.out HB3.out).size _)
              have hb4 : BoxO W4 b3 (ofO k o.num) (.slice none 0 0) := by rw [hW4, hb3]; exact (box_made w3 (zeroO 0) _).set _ _
              have hob : BoxO W4 w.heap.size o (.slice p o.offs.length c) := by
                refine (HX2.out.below HB3.out).stays ?_
                rw [hW4]
                have q := below_sets (B := b3) (b := b3) (w0 := w3) (Nat.le_refl _) (ordCells (ofO k o.num) (.slice none 0 0)) (w3.alloc (.cells #[Value.int .i64 0, .string ⟨#[]⟩, .int .i64 0, .int .i64 0, .int .i64 0, .int .i64 0, .int .i64 0, .int .i64 0, .int .i64 0, .int .i64 0, .int .i64 0, .int .i64 0, .int .i64 0, .int .i64 0, .int .i64 0, .int .i64 0, .slice none 0 0, .int .i64 0] 29)) 0 (by rw [hb3]; exact (Below.refl _ _).alloc (Nat.le_refl _) _)
                exact q.block _ hs3
              rw [← hb3, ← hW4]
              have z1 := hb4.c 1 (by decide)
              have z16 := hb4.c 16 (by decide)
              have f1 := hb4.f 1
              have f16 := hb4.f 16
              have a1 : W4.cell? ⟨w.heap.size, 1, none⟩ = some (.string (bstr o.name)) := hob.c 1 (by decide)
              have a16 : W4.cell? ⟨w.heap.size, 16, none⟩ = some (.slice p o.offs.length c) := hob.c 16 (by decide)
              have hne : w.heap.size ≠ b3 := Nat.ne_of_lt hs3
              have hne2 : b3 ≠ w.heap.size := Nat.ne_of_gt hs3
              have HBW := hide hbw
              have HB4 := hide hb4
              have HOB := hide hob
              clear hbw hb4 hob hW4 hb3 y1 y16
              go_upto_region 18 with fail
              obtain ⟨W5, hW5⟩ : ∃ W5, W5 = (W4.setCell ⟨b3, 1, none⟩ (.string (bstr o.name))).setCell ⟨b3, 16, none⟩ (.slice p o.offs.length c) := ⟨_, rfl⟩
              have hbw : Below w.heap.size w W5 := by rw [hW5]; exact ((HBW.out.setCell (p := ⟨b3, 1, none⟩) (Nat.le_of_lt hs3) _).setCell (p := ⟨b3, 16, none⟩) (Nat.le_of_lt hs3) _)
              have hb5 : BoxO W5 b3 (again o) (.slice p o.offs.length c) := by
                have q := (HB4.out.named o.name).offed o.offs (.slice p o.offs.length c)
                rw [hW5]
                rw [KK.out] at q
                exact q
              have hob : BoxO W5 w.heap.size o (.slice p o.offs.length c) := by
                rw [hW5]
                refine HOB.out.stays ?_
                exact (heap_setCell_other _ _ _ _ hne).trans (heap_setCell_other _ _ _ _ hne)
              have cs := Same_c (again o) o (.slice p o.offs.length c) (.slice p o.offs.length c) W5 (HO.out.below hbw) (HO.out.below hbw)
              have HR5 := hide hb5.range
              have HRO := hide hob.range
              have HBW5 := hide hbw
              have HCE := hide (show sameO (again o) o = chk o from again_same H2.out (fun q hq => by
                rw [← HL.out] at hq
                obtain ⟨i, hi, rfl⟩ := List.mem_iff_getElem.1 hq
                have r := HPP.out i hi
                rwa [List.getD_eq_getElem?_getD, List.getElem?_eq_getElem hi] at r) (anyNeg_none HPO.out))
              rw [← hW5]
              clear hbw hb5 hob hW5 z1 z16 f1 f16 a1 a16 HBW HB4 HOB HX2 HO2 HC4 HV
              rw [HCE.out] at cs
              rcases (show chk o = true ∨ chk o = false by cases chk o <;> simp) with hc | hc
              · rw [hc] at cs
                have HCC := hide hc
                have CS := hide cs
                clear cs hc
                go_wp2_with (first
                  | refine wpList_load_mid rfl 29 _ rfl b3 0 rfl (ordCells (again o) (.slice p o.offs.length c)) _ HR5.out Try.underlying29 rfl (by rw [ordCells_len]; kernel_rfl) ?_
                  | refine wpList_load_mid rfl 29 _ rfl w.heap.size 0 rfl (ordCells o (.slice p o.offs.length c)) _ HRO.out Try.underlying29 rfl (by rw [ordCells_len]; kernel_rfl) ?_
                  | (go_at_call 21; (apply Calls.mono; focus (exact CS.out)); rintro e w6 ⟨rfl, hb6⟩; have HB6 := hide (bstep HBW5.out hb6); clear hb6))
                refine bodyPost_ret (v := .int .i64 0) (by simp [results, Try.f50, go_sem]) rfl ⟨by rw [HCC.out]; rfl, HB6.out⟩
              · rw [hc] at cs
                have HCC := hide hc
                have CS := hide cs
                clear cs hc
                go_wp2_with (first
                  | refine wpList_load_mid rfl 29 _ rfl b3 0 rfl (ordCells (again o) (.slice p o.offs.length c)) _ HR5.out Try.underlying29 rfl (by rw [ordCells_len]; kernel_rfl) ?_
                  | refine wpList_load_mid rfl 29 _ rfl w.heap.size 0 rfl (ordCells o (.slice p o.offs.length c)) _ HRO.out Try.underlying29 rfl (by rw [ordCells_len]; kernel_rfl) ?_
                  | (go_at_call 21; (apply Calls.mono; focus (exact CS.out)); rintro e w6 ⟨rfl, hb6⟩; have HB6 := hide (bstep HBW5.out hb6); clear hb6))
                refine bodyPost_ret (v := .int .i64 2) (by simp [results, Try.f50, go_sem]) rfl ⟨by rw [HCC.out]; rfl, HB6.out⟩
end Go.Proofs.Ytalnipjaekpbhaa

namespace Go.Proofs.Ytalnipjaekpbhaa
open Go.ChangeShapes Go.WideShapes Go.ChangeAt Go.RowKit Go.Deep
set_option linter.unusedSimpArgs false
set_option linter.unusedVariables false

structure RSt (W w : World) (v : Value) (bs : List Nat) : Prop where
  own : w.ownsRow W.heap.size 5 1 v bs.length (u8L bs)
  b : Below W.heap.size W w
theorem RSt.below {W w w' : World} {v : Value} {bs : List Nat} (h : RSt W w v bs) (hb : Below w.heap.size w w') : RSt W w' v bs := ⟨own_below h.own hb, bstep h.b hb⟩
theorem u8L_app (a b : List Nat) : u8L (a ++ b) = u8L a ++ u8L b := by unfold u8L; exact List.map_append
theorem u8L_len (a : List Nat) : (u8L a).length = a.length := by unfold u8L; exact List.length_map _
/-- append(bytes, bytes...) -/
theorem wpList_app8 {W : World} (w : World) {ops : Array Oper} {rest : List Oper} {o : Oper} {a : Act} {Q : Exit → Act → World → Prop} (hgd : o.guard = none) (s x : Operand)
    (ho : o.op = .call { callee := .builtin .append, args := #[s, x], argTypes := #[30, 30] }) {v : Value} {bs : List Nat} (h : RSt W w v bs) (hs : a.eval s = v) {B2 g c : Nat} {l : List Nat} (hx : a.eval x = .slice (some ⟨g, 0, none⟩) l.length c) (own : w.ownsRow B2 5 1 (.slice (some ⟨g, 0, none⟩) l.length c) l.length (u8L l)) (hl : bs.length + l.length ≤ 1099511627776)
    (k : ∀ v' w', RSt W w' v' (bs ++ l) → w.grownBy w' v.ownBlock → wpList Try.prog ops Q rest (a.put o.dst v') w') : wpList Try.prog ops Q (o :: rest) a w := by
  obtain ⟨i0, hi0, hz0, hz1, hz2⟩ := info_parts info5
  refine wpList_append_at w hgd s x 30 ho 5 i0 (.int .u8 0) 1 1 Try.underlying30 hi0 hz0 hz1 hz2 rfl (by decide) W.heap.size v bs.length _ hs h.own (some ⟨g, 0, none⟩) l.length c (u8L l) hx (by rw [u8L_len, Nat.mul_one]) (fun e => by cases e) (fun ad e => by cases e; exact own_cells own) (u8_one l) (by unfold maxLen; omega) (by omega) h.b.size ?_
  intro v' w' h1 h2 _
  refine k v' w' ⟨by rw [List.length_append, u8L_app]; exact h1, below_grown h.b h2 (fun r e => (h.own.lt r e).1) h.b.size⟩ h2
theorem RSt.other {W w w' : World} {v : Value} {bs : List Nat} (h : RSt W w v bs) (hg : w.grownBy w' v.ownBlock) {B : Nat} {e : TypeId} {v2 : Value} {n : Nat} {xs : List Value} {size : Nat} (h2 : w.ownsRow B e size v2 n xs) (hne : (5 : Nat) ≠ e) : w'.ownsRow B e size v2 n xs := own_apart h.own h2 hne hg
set_option maxRecDepth 100000 in
set_option maxHeartbeats 2000000 in
theorem refText_c (s : ByteArray) (w : World) (hs : s.size ≤ 1099511627776) : Calls Try.prog 52 #[.string s] w (fun e w' => ∃ g cap, e = .returned (.slice (some ⟨g, 0, none⟩) (text s).length cap) ∧ w'.ownsRow w.heap.size 5 1 (.slice (some ⟨g, 0, none⟩) (text s).length cap) (text s).length (u8L (text s)) ∧ Below w.heap.size w w') := by
  obtain ⟨i0, hi0, hz0, hz1, hz2⟩ := info_parts info5
  have hfp := form_pos s.size
  have hfl := form_le (x := s.size) (by omega)
  go_enter Try.func52, Try.ntmps52
  go_wp2_with fail
  refine (refNum_c s.size _ (by omega)).mono ?_
  rintro e w1 ⟨g1, cap1, rfl, own1, hb1⟩
  have HOW := hide own1
  have HB1 := hide hb1
  clear own1 hb1
  go_wp2_with (at_builtin; refine Go.Lib.wpList_append_own_string _ rfl _ _ 30 9 rfl w.heap.size 5 i0 Try.underlying30 Try.underlying9 hi0 hz0 hz1 hz2 (.slice (some ⟨g1, 0, none⟩) (form s.size).length cap1) _ _ rfl HOW.out s rfl (by unfold maxLen; omega) (by omega) HB1.out.size ?_; intro v2 w2 own2 hg2 hiff)
  obtain ⟨g2, cap2, rfl, hg20, hg2z, hcp, hcl, hcf⟩ := own_form own2 (by omega)
  have e1 : (text s).length = (form s.size).length + s.size := by unfold text; rw [List.length_append, sb_length]
  have e3 : Go.Lib.strCells s = u8L (sb s) := by unfold Go.Lib.strCells sb u8L; rw [List.map_map]; rfl
  have e2 : u8L (text s) = u8L (form s.size) ++ Go.Lib.strCells s := by rw [e3, ← u8L_app]; rfl
  have hgk : ∀ k, (Value.slice (some ⟨g1, 0, none⟩) (form s.size).length cap1).ownBlock = some k → w.heap.size ≤ k := fun k hk => by
    have e : g1 = k := Option.some.inj hk
    have := (HOW.out.lt g1 rfl).1
    omega
  refine bodyPost_ret (v := .slice (some ⟨g2, 0, none⟩) ((form s.size).length + s.size) cap2) (by simp [results, Try.f52, go_sem]) rfl ⟨g2, cap2, by rw [e1], by rw [e1, e2]; exact own2, below_grown HB1.out hg2 hgk HB1.out.size⟩
end Go.Proofs.Ytalnipjaekpbhaa

namespace Go.Proofs.Ytalnipjaekpbhaa
open Go.ChangeShapes Go.WideShapes Go.ChangeAt Go.RowKit Go.Deep
set_option linter.unusedSimpArgs false
set_option linter.unusedVariables false

theorem forms_eq (o : Ord) : ((wholeO o.kind).flatMap (numF o) ++ (wideO o.kind).flatMap (numF o)) ++ (behindO o.kind).flatMap (numF o) = (numL o.kind).flatMap (numF o) := by
  rw [← List.flatMap_append, ← List.flatMap_append]
  congr 1
  unfold wholeO wideO behindO numL
  by_cases k1 : o.kind = 1
  · rw [k1]; rfl
  by_cases k2 : o.kind = 2
  · rw [k2]; rfl
  by_cases k3 : o.kind = 3
  · rw [k3]; rfl
  by_cases k4 : o.kind = 4
  · rw [k4]; rfl
  by_cases k5 : o.kind = 5
  · rw [k5]; rfl
  by_cases k6 : o.kind = 6
  · rw [k6]; rfl
  simp [k1, k2, k3, k4, k5, k6]
theorem formO_eq (o : Ord) : formO o = (form o.kind.toNat ++ (if o.kind = 1 then text (bstr o.name) else [])) ++ (numL o.kind).flatMap (numF o) ++ (if o.kind = 4 then offsF o.offs else []) := by
  unfold formO
  rw [← forms_eq, List.append_assoc (form _ ++ _), List.append_assoc (form _ ++ _)]
set_option maxRecDepth 100000 in
set_option maxHeartbeats 2000000 in
theorem rForm_bad (o : Ord) (ov : Value) (w : World) (ho : OffsIn w ov o.offs) (hc : chk o = false) : Calls Try.prog 13 #[ordV o ov] w fun e w' => e = .returned (.tuple #[.slice none 0 0, .int .i64 2]) ∧ Below w.heap.size w w' := by
  have HO := hide ho
  obtain ⟨p, c, rfl⟩ := ho.val
  clear ho
  unfold ordV
  obtain ⟨W, hW⟩ : ∃ W, W = w.alloc (.cells (ordCells o (.slice p o.offs.length c)).toArray 29) := ⟨_, rfl⟩
  have hb0 : Below w.heap.size w W := by rw [hW]; exact (Below.refl _ _).alloc (Nat.le_refl _) _
  have hbox : BoxO W w.heap.size o (.slice p o.offs.length c) := by rw [hW]; exact box_made w o _
  have HW := hide hW
  have HB0 := hide hb0
  have HBX := hide hbox
  have CC := hide (rCheck_c o (.slice p o.offs.length c) W (HO.out.below hb0))
  have HCC := hide hc
  clear hb0 hbox hW
  rw [hc] at CC
  clear hc
  go_enter Try.func13, Try.ntmps13
  go_upto_region 1 with fail
  rw [← HW.out]
  go_upto_region 2 with (first
    | refine wpList_load_mid rfl 29 _ rfl w.heap.size 0 rfl (ordCells o (.slice p o.offs.length c)) _ HBX.out.range Try.underlying29 rfl (by rw [ordCells_len]; kernel_rfl) ?_
    | (go_at_call 50; (apply Calls.mono; focus (exact CC.out)); rintro e w1 ⟨rfl, hb1⟩; have HB1 := hide hb1; clear hb1))
  go_wp2_with fail
  refine bodyPost_ret (v := .tuple #[.slice none 0 0, .int .i64 2]) (by simp [results, Try.f13, go_sem]) rfl ⟨rfl, bstep HB0.out HB1.out⟩
set_option maxRecDepth 100000 in
set_option maxHeartbeats 8000000 in
theorem rForm_ok (o : Ord) (ov : Value) (w : World) (ho : OffsIn w ov o.offs) (hc : chk o = true) (hr : OrdR o) : Calls Try.prog 13 #[ordV o ov] w fun e w' => ∃ v, e = .returned (.tuple #[v, .int .i64 0]) ∧ w'.ownsRow w.heap.size 5 1 v (formO o).length (u8L (formO o)) ∧ Below w.heap.size w w' := by
  have OR := hide hr
  have CT := hide ((chk_iff o).1 hc)
  clear hr
  have HO := hide ho
  obtain ⟨p, c, rfl⟩ := ho.val
  clear ho
  unfold ordV
  obtain ⟨W, hW⟩ : ∃ W, W = w.alloc (.cells (ordCells o (.slice p o.offs.length c)).toArray 29) := ⟨_, rfl⟩
  have hb0 : Below w.heap.size w W := by rw [hW]; exact (Below.refl _ _).alloc (Nat.le_refl _) _
  have hbox : BoxO W w.heap.size o (.slice p o.offs.length c) := by rw [hW]; exact box_made w o _
  have HW := hide hW
  have HB0 := hide hb0
  have HBX := hide hbox
  have CC := hide (rCheck_c o (.slice p o.offs.length c) W (HO.out.below hb0))
  have HCC := hide hc
  clear hb0 hbox hW
  rw [hc] at CC
  clear hc
  go_enter Try.func13, Try.ntmps13
  go_upto_region 1 with fail
  rw [← HW.out]
  go_upto_region 2 with (first
    | refine wpList_load_mid rfl 29 _ rfl w.heap.size 0 rfl (ordCells o (.slice p o.offs.length c)) _ HBX.out.range Try.underlying29 rfl (by rw [ordCells_len]; kernel_rfl) ?_
    | (go_at_call 50; (apply Calls.mono; focus (exact CC.out)); rintro e w1 ⟨rfl, hb1⟩; have HB1 := hide hb1; clear hb1))
  have HX1 := hide (HBX.out.below HB1.out)
  have x0 : w1.cell? ⟨w.heap.size, 0, none⟩ = some (.int .i64 o.kind) := HX1.out.c 0 (by decide)
  have x1 : w1.cell? ⟨w.heap.size, 1, none⟩ = some (.string (bstr o.name)) := HX1.out.c 1 (by decide)
  obtain ⟨kn, hkn⟩ : ∃ kn : Nat, o.kind = (kn : Int) := ⟨o.kind.toNat, by have := CT.out.k0; omega⟩
  have hk6 : kn ≤ 6 := by have := CT.out.k1; omega
  rw [hkn] at x0
  have hwk := wrap_nat (x := kn) (by omega)
  have HKN := hide hkn
  clear hkn
  obtain ⟨b1, hb1⟩ : ∃ b, ((kn : Int) == 1) = b := ⟨_, rfl⟩
  have B1 := hide (show b1 = true ↔ o.kind = 1 by rw [← hb1, HKN.out]; simp)
  go_upto_region 5 with (go_at_call 51; (apply Calls.mono; focus (exact refNum_c kn _ (by omega))); rintro e w2 ⟨q1, cq1, rfl, oq1, bq1⟩; have Oq1 := hide oq1; have Bq1 := hide bq1; clear oq1 bq1)
  have y0 : w2.cell? ⟨w.heap.size, 0, none⟩ = some (.int .i64 (kn : Int)) := cell_stay x0 (Bq1.out.block _ HX1.out.lt)
  have y1 : w2.cell? ⟨w.heap.size, 1, none⟩ = some (.string (bstr o.name)) := cell_stay x1 (Bq1.out.block _ HX1.out.lt)
  have HB2 := hide (bstep HB1.out Bq1.out)
  have R2 := hide (show RSt W w2 (.slice (some ⟨q1, 0, none⟩) (form kn).length cq1) (form kn) from ⟨own_lower Oq1.out HB1.out.size, HB2.out⟩)
  clear x0 x1
  obtain ⟨pre, hpre⟩ : ∃ pre, pre = form kn ++ (if o.kind = 1 then text (bstr o.name) else []) := ⟨_, rfl⟩
  have hfk := form_le (x := kn) (by omega)
  have htx := text_le (bstr o.name) (by rw [bstr_size]; have := CT.out.nl; omega)
  rw [bstr_size] at htx
  have hpl : pre.length ≤ 90 := by
    rw [hpre, List.length_append]
    have := CT.out.nl
    split
    · omega
    · simp; omega
  have PRE := hide hpre
  clear hpre
  go_upto_if 20 with fail
  go_cut [5] from 21 to 25 (fun v5 wx => RSt W wx v5 pre)
  case first =>
    by_cases hk1 : o.kind = 1
    · have db := B1.out.2 hk1
      subst db
      have EP := hide (show pre = form kn ++ text (bstr o.name) by rw [PRE.out, if_pos hk1])
      have HNL := hide (show (form kn).length + (text (bstr o.name)).length ≤ 1099511627776 by have := CT.out.nl; omega)
      clear hk1
      go_wp2_with (first
        | (go_at_call 52; (apply Calls.mono; focus (exact refText_c (bstr o.name) _ (by rw [bstr_size]; have := CT.out.nl; omega))); rintro e w3 ⟨q2, cq2, rfl, oq2, bq2⟩; have Oq2 := hide oq2; have R3 := hide (R2.out.below bq2); clear oq2 bq2)
        | (at_builtin; refine wpList_app8 _ rfl _ _ rfl R3.out rfl rfl Oq2.out HNL.out ?_; intro v4 w4 h4 g4; have H4 := hide h4; clear h4 g4))
      go_meet
      rw [EP.out]; exact H4.out
    · have db : b1 = false := by
        cases b1
        · rfl
        · exact absurd (B1.out.1 rfl) hk1
      subst db
      have EP := hide (show pre = form kn by rw [PRE.out, if_neg hk1, List.append_nil])
      clear hk1
      go_wp2_with fail
      go_meet
      rw [EP.out]; exact R2.out
  case rest =>
    have RC := hide hcut
    clear y0 y1 hcut hb1
    obtain ⟨v5, hv5⟩ : ∃ v, v = u5 := ⟨_, rfl⟩
    have HXC := hide (show BoxO wc w.heap.size o (.slice p o.offs.length c) from HBX.out.stays (RC.out.b.block _ HBX.out.lt))
    have CN := hide (numbers_c o (.slice p o.offs.length c) wc)
    clear hv5 R2 Oq1 HX1
    go_upto_region 8 with (first
      | refine wpList_load_mid rfl 29 _ rfl w.heap.size 0 rfl (ordCells o (.slice p o.offs.length c)) _ HXC.out.range Try.underlying29 rfl (by rw [ordCells_len]; kernel_rfl) ?_
      | (go_at_call 53; (apply Calls.mono; focus (exact CN.out)); rintro e w6 ⟨v6, rfl, o6, b6⟩; have O6 := hide o6; have B6 := hide b6; clear o6 b6))
    have R6 := hide (RC.out.below B6.out)
    obtain ⟨L, hL⟩ : ∃ L, L = numL o.kind := ⟨_, rfl⟩
    have hLp : 0 < L.length := by rw [hL]; exact numL_pos (by unfold isKind; exact decide_eq_true ⟨CT.out.k0, CT.out.k1⟩)
    have hL11 : L.length ≤ 11 := by rw [hL]; exact numL_len _
    rw [← hL] at O6
    obtain ⟨g6, c6, rfl, -, -⟩ := O6.out.form (by omega)
    try rw [← hL]
    have LI := hide (show ∀ j ∈ L, 0 ≤ o.num j from fun j hj => CT.out.ln j ((listed_mem _ _).2 (by rw [← hL]; exact hj)))
    have HL := hide hL
    clear hL RC CN
    go_wp2_with fail
    go_loopw [5, 7] (fun v5 v7 wr => ∃ j : Nat, j ≤ L.length ∧ v7 = .int .i64 (j : Int) ∧ RSt W wr v5 (pre ++ (L.take j).flatMap (numF o)) ∧ wr.ownsRow wc.heap.size 2 1 (.slice (some ⟨g6, 0, none⟩) L.length c6) L.length (numV o L)) (fun _ v7 _ => L.length - (intOf v7).toNat)
    case atStart => exact ⟨0, Nat.zero_le _, rfl, by simpa using R6.out, O6.out⟩
    case round =>
      obtain ⟨j, hj, rfl, hr1, ho1⟩ := hrel
      have HR := hide hr1
      have HOW := hide ho1
      have hj0 : (0 : Int) ≤ (j : Int) := by omega
      clear hr1 ho1
      by_cases hlt : j < L.length
      · have hlt' : (j : Int) < (L.length : Int) := by omega
        have c1 : wr.cell? ⟨g6, j, none⟩ = some (.int .i64 (o.num (L.getD j 0))) := by
          rw [HOW.out.cellAt j (by omega)]
          unfold numV
          rw [List.getElem?_map, List.getD_eq_getElem?_getD, List.getElem?_eq_getElem hlt]; rfl
        have hx0 := LI.out (L.getD j 0) (by rw [List.getD_eq_getElem?_getD, List.getElem?_eq_getElem hlt]; exact List.getElem_mem hlt)
        have hx1 := OR.out.n1 (L.getD j 0)
        have HT := hide (numTake (o := o) hlt)
        have hfl : ((L.take j).flatMap (numF o)).length ≤ 9 * L.length := by
          have q := flat_le (f := numF o) (l := L.take j) (fun x _ => numF_le OR.out x)
          rw [List.length_take] at q; omega
        obtain ⟨q, hq⟩ : ∃ q, q = L.getD j 0 := ⟨_, rfl⟩
        rw [← hq] at c1 hx0 hx1 HT
        obtain ⟨x, hx⟩ : ∃ x : Nat, o.num q = (x : Int) := ⟨(o.num q).toNat, by omega⟩
        have hnf : numF o q = form x := by unfold numF; rw [hx, Int.toNat_natCast]
        rw [hnf] at HT
        rw [hx] at c1 hx0 hx1
        have hw := wrap_nat (x := x) (by omega)
        have hfx := form_le (x := x) (by omega)
        have HNL := hide (show (pre ++ (L.take j).flatMap (numF o)).length + (form x).length ≤ 1099511627776 by rw [List.length_append]; omega)
        clear hq hx hnf
        go_wp2_with (first
          | (go_at_call 51; (apply Calls.mono; focus (exact refNum_c x _ (by omega))); rintro e w7 ⟨q7, c7, rfl, o7, b7⟩; have O7 := hide o7; have R7 := hide (HR.out.below b7); have N7 := hide (own_below HOW.out b7); clear o7 b7)
          | (at_builtin; refine wpList_app8 _ rfl _ _ rfl R7.out rfl rfl O7.out HNL.out ?_; intro v8 w8 h8 g8; have H8 := hide h8; have N8 := hide (R7.out.other g8 N7.out (by decide)); clear h8 g8))
        go_roundw
        case rel => exact ⟨j + 1, by omega, by go_num, by rw [HT.out, ← List.append_assoc]; exact H8.out, N8.out⟩
        case measure => (first | (simp [intOf]; done) | (simp [intOf]; omega))
      · obtain rfl : j = L.length := by omega
        rw [List.take_length] at HR
        obtain ⟨pre2, hpre2⟩ : ∃ q, q = pre ++ L.flatMap (numF o) := ⟨_, rfl⟩
        rw [← hpre2] at HR
        have hpl2 : pre2.length ≤ 200 := by
          rw [hpre2, List.length_append]
          have q := flat_le (f := numF o) (l := L) (fun x _ => numF_le OR.out x)
          omega
        have PRE2 := hide (show formO o = pre2 ++ (if o.kind = 4 then offsF o.offs else []) by
          rw [formO_eq, hpre2, PRE.out, HL.out, HKN.out, Int.toNat_natCast])
        have HBB := hide (bstep HB0.out HR.out.b)
        have HXR := hide (show BoxO wr w.heap.size o (.slice p o.offs.length c) from HBX.out.stays (HR.out.b.block _ HBX.out.lt))
        have X16 := hide (show W.cell? ⟨w.heap.size, 16, none⟩ = some (.slice p o.offs.length c) from HBX.out.c 16 (by decide))
        have x0 : wr.cell? ⟨w.heap.size, 0, none⟩ = some (.int .i64 (kn : Int)) := by
          have q := HXR.out.c 0 (by decide)
          rw [q]
          show some (Value.int .i64 o.kind) = _
          rw [HKN.out]
        have x16 := cell_stay X16.out (HR.out.b.block _ HBX.out.lt)
        have e6 : (L.length : Int) ≠ 0 := by omega
        clear hpre2 O6 HOW
        by_cases hk4 : o.kind = 4
        · have d4 : ((kn : Int) == 4) = true := by rw [← HKN.out, hk4]; rfl
          have EQ := hide (show formO o = (pre2 ++ form o.offs.length) ++ o.offs.flatMap offF by
            rw [PRE2.out, if_pos hk4]
            unfold offsF
            rw [List.append_assoc])
          have hol := CT.out.ol
          have hfo := form_le (x := o.offs.length) (by omega)
          have hwo := wrap_nat (x := o.offs.length) (by omega)
          have HNL := hide (show pre2.length + (form o.offs.length).length ≤ 1099511627776 by omega)
          have OK := hide (show ∀ x ∈ o.offs, okOff x from fun x hx => ⟨(OR.out.o1 x hx).1, CT.out.oc x hx, (OR.out.o1 x hx).2.2⟩)
          clear hk4
          go_upto_region 14 with (first
            | (go_at_call 51; (apply Calls.mono; focus (exact refNum_c o.offs.length _ (by omega))); rintro e w7 ⟨q7, c7, rfl, o7, b7⟩; have O7 := hide o7; have R7 := hide (HR.out.below b7); clear o7 b7)
            | (at_builtin; refine wpList_app8 _ rfl _ _ rfl R7.out rfl rfl O7.out HNL.out ?_; intro v8 w8 h8 g8; have H8 := hide h8; clear h8 g8))
          obtain ⟨pre3, hpre3⟩ : ∃ q, q = pre2 ++ form o.offs.length := ⟨_, rfl⟩
          rw [← hpre3] at H8 EQ
          have hpl3 : pre3.length ≤ 250 := by rw [hpre3, List.length_append]; omega
          clear hpre3 x0 x16 HNL HXR HR
          go_wp2_with fail
          go_loopw [5, 8] (fun v5 v8 wr => ∃ j : Nat, j ≤ o.offs.length ∧ v8 = .int .i64 (j : Int) ∧ RSt W wr v5 (pre3 ++ (o.offs.take j).flatMap offF)) (fun _ v8 _ => o.offs.length - (intOf v8).toNat)
          case atStart => exact ⟨0, Nat.zero_le _, rfl, by simpa using H8.out⟩
          case round =>
            obtain ⟨j, hj, rfl, hr1⟩ := hrel
            have HR := hide hr1
            have hj0 : (0 : Int) ≤ (j : Int) := by omega
            have x16 := cell_stay X16.out (HR.out.b.block _ HBX.out.lt)
            clear hr1
            by_cases hlt : j < o.offs.length
            · have hlt' : (j : Int) < (o.offs.length : Int) := by omega
              obtain ⟨b1, o1, c1, e1, s1, s2⟩ := HO.out.at_ j hlt
              injection e1 with e1 _ ec1
              subst e1 ec1
              have BL := hide (World.block_lt_of_cell? w _ s1)
              have hok := OK.out (o.offs.getD j (0, 0)) (by rw [List.getD_eq_getElem?_getD, List.getElem?_eq_getElem hlt]; exact List.getElem_mem hlt)
              have HT := hide (offTake hlt)
              have hfl : ((o.offs.take j).flatMap offF).length ≤ 18 * 64 := by
                have q := offFs_le (l := o.offs.take j) (fun x hx => OK.out x (List.mem_of_mem_take hx))
                rw [List.length_take] at q; omega
              obtain ⟨y, hy⟩ : ∃ y, y = o.offs.getD j (0, 0) := ⟨_, rfl⟩
              rw [← hy] at s1 s2 hok HT
              obtain ⟨yg, yc⟩ := y
              obtain ⟨k1, k2, k3⟩ := hok
              simp only at s1 s2 k1 k2 k3
              obtain ⟨x, hx⟩ : ∃ x : Nat, yc = (x : Int) := ⟨yc.toNat, by omega⟩
              subst hx
              have hoff : offF (yg, (x : Int)) = form yg ++ form x := by unfold offF; rw [Int.toNat_natCast]
              rw [hoff] at HT
              have hwg := wrap_nat (x := yg) (by omega)
              have hwx := wrap_nat (x := x) (by omega)
              have hfg := form_le (x := yg) (by omega)
              have hfx := form_le (x := x) (by omega)
              have HNL1 := hide (show (pre3 ++ (o.offs.take j).flatMap offF).length + (form yg).length ≤ 1099511627776 by rw [List.length_append]; omega)
              have HNL2 := hide (show (pre3 ++ (o.offs.take j).flatMap offF ++ form yg).length + (form x).length ≤ 1099511627776 by rw [List.length_append, List.length_append]; omega)
              have S1 := hide s1
              have S2 := hide s2
              have z1 := cell_stay S1.out ((bstep HB0.out HR.out.b).block _ BL.out)
              clear s1 s2 hy hoff
              go_upto_region 18 with (first
                | (go_at_call 51; (apply Calls.mono; focus (exact refNum_c yg _ (by omega))); rintro e w9 ⟨q9, c9, rfl, o9, b9⟩; have O9 := hide o9; have R9 := hide (HR.out.below b9); clear o9 b9)
                | (at_builtin; refine wpList_app8 _ rfl _ _ rfl R9.out rfl rfl O9.out HNL1.out ?_; intro va wa ha ga; have HA := hide ha; clear ha ga))
              have y16 := cell_stay X16.out (HA.out.b.block _ HBX.out.lt)
              have z2 := cell_stay S2.out ((bstep HB0.out HA.out.b).block _ BL.out)
              clear z1 x16
              go_wp2_with (first
                | (go_at_call 51; (apply Calls.mono; focus (exact refNum_c x _ (by omega))); rintro e wb ⟨qb, cb, rfl, ob, bb⟩; have OB := hide ob; have RB := hide (HA.out.below bb); clear ob bb)
                | (at_builtin; refine wpList_app8 _ rfl _ _ rfl RB.out rfl rfl OB.out HNL2.out ?_; intro vc wd hd gd; have HD := hide hd; clear hd gd))
              go_roundw
              case rel => exact ⟨j + 1, by omega, by go_num, by rw [HT.out, ← List.append_assoc, ← List.append_assoc]; exact HD.out⟩
              case measure => (first | (simp [intOf]; done) | (simp [intOf]; omega))
            · obtain rfl : j = o.offs.length := by omega
              rw [List.take_length, ← EQ.out] at HR
              obtain ⟨pv, pc, rfl⟩ := own_any HR.out.own
              go_wp2_with fail
              refine bodyPost_ret (v := .tuple #[.slice pv (formO o).length pc, .int .i64 0]) (by simp [results, Try.f13, go_sem]) rfl ⟨_, rfl, own_lower HR.out.own HB0.out.size, bstep HB0.out HR.out.b⟩
        · have d4 : ((kn : Int) == 4) = false := by
            rw [← HKN.out]
            simpa using hk4
          have EQ := hide (show formO o = pre2 by rw [PRE2.out, if_neg hk4, List.append_nil])
          clear hk4
          rw [← EQ.out] at HR
          obtain ⟨pv, pc, rfl⟩ := own_any HR.out.own
          go_wp2_with fail
          refine bodyPost_ret (v := .tuple #[.slice pv (formO o).length pc, .int .i64 0]) (by simp [results, Try.f13, go_sem]) rfl ⟨_, rfl, own_lower HR.out.own HB0.out.size, bstep HB0.out HR.out.b⟩
end Go.Proofs.Ytalnipjaekpbhaa

namespace Go.Proofs.Ytalnipjaekpbhaa
open Go.ChangeShapes Go.WideShapes Go.ChangeAt Go.RowKit Go.Deep
set_option linter.unusedSimpArgs false
set_option linter.unusedVariables false
set_option maxRecDepth 100000 in
set_option maxHeartbeats 8000000 in
theorem rFrame_bad (o : Ord) (ov : Value) (w : World) (ho : OffsIn w ov o.offs) (hc : chk o = false) : Calls Try.prog 14 #[ordV o ov] w fun e w' => e = .returned (.tuple #[.slice none 0 0, .int .i64 2]) ∧ Below w.heap.size w w' := by
  obtain ⟨W, hW⟩ : ∃ W, W = w.alloc (.cells (ordCells o ov).toArray 29) := ⟨_, rfl⟩
  have hb0 : Below w.heap.size w W := by rw [hW]; exact (Below.refl _ _).alloc (Nat.le_refl _) _
  have hbox : BoxO W w.heap.size o ov := by rw [hW]; exact box_made w o _
  have C := hide (rForm_bad o ov W (ho.below hb0) hc)
  have HW := hide hW
  have HB0 := hide hb0
  have HBX := hide hbox
  clear hb0 hbox hW ho hc
  unfold ordV at C ⊢
  go_enter Try.func14, Try.ntmps14
  go_upto_region 1 with fail
  rw [← HW.out]
  go_wp2_with (refine wpList_load_mid rfl 29 _ rfl w.heap.size 0 rfl (ordCells o ov) _ HBX.out.range Try.underlying29 rfl (by rw [ordCells_len]; kernel_rfl) ?_)
  refine C.out.mono ?_
  rintro e w1 ⟨rfl, hb⟩
  go_wp2_with fail
  refine bodyPost_ret (v := .tuple #[.slice none 0 0, .int .i64 2]) (by simp [results, Try.f14, go_sem]) rfl ⟨rfl, bstep HB0.out hb⟩
set_option maxRecDepth 100000 in
set_option maxHeartbeats 8000000 in
theorem rFrame_ok (o : Ord) (ov : Value) (w : World) (ho : OffsIn w ov o.offs) (hc : chk o = true) (hr : OrdR o) (hl : (formO o).length ≤ 2000) (h8 : ∀ b ∈ formO o, b < 256) : Calls Try.prog 14 #[ordV o ov] w fun e w' => ∃ v, e = .returned (.tuple #[v, .int .i64 0]) ∧ w'.ownsRow w.heap.size 5 1 v (frameO o).length (u8L (frameO o)) ∧ Below w.heap.size w w' := by
  obtain ⟨W, hW⟩ : ∃ W, W = w.alloc (.cells (ordCells o ov).toArray 29) := ⟨_, rfl⟩
  have hb0 : Below w.heap.size w W := by rw [hW]; exact (Below.refl _ _).alloc (Nat.le_refl _) _
  have hbox : BoxO W w.heap.size o ov := by rw [hW]; exact box_made w o _
  have C := hide (rForm_ok o ov W (ho.below hb0) hc hr)
  have HW := hide hW
  have HB0 := hide hb0
  have HBX := hide hbox
  obtain ⟨i5, hi5, hz5, hs5, hb5⟩ := info_parts info5
  clear hb0 hbox hW ho hc hr
  unfold ordV at C ⊢
  go_enter Try.func14, Try.ntmps14
  go_upto_region 1 with fail
  rw [← HW.out]
  go_wp2_with (refine wpList_load_mid rfl 29 _ rfl w.heap.size 0 rfl (ordCells o ov) _ HBX.out.range Try.underlying29 rfl (by rw [ordCells_len]; kernel_rfl) ?_)
  refine C.out.mono ?_
  rintro e w1 ⟨v1, rfl, own1, hb1⟩
  obtain ⟨a1, c1, rfl⟩ := own_any own1
  have HB1 := hide (bstep HB0.out hb1)
  have O1 := hide own1
  obtain ⟨f, hf⟩ : ∃ f, f = formO o := ⟨_, rfl⟩
  rw [← hf] at O1 hl h8
  have HF := hide hf
  rw [← hf]
  clear own1 hb1 C hf
  have hl' : (f.length : Int) ≤ 2000 := by omega
  have hv2 : ∀ u ∈ u8L f, u.oneCell' = true := fun u hu => by obtain ⟨x, _, rfl⟩ := List.mem_map.1 hu; rfl
  have hz1 := HB1.out.size
  have hzW := HB0.out.size
  go_wp2_with (at_builtin; refine wpList_append_rows _ rfl _ _ 30 rfl 5 i5 (.int .u8 0) 1 1 Try.underlying30 hi5 hz5 hs5 hb5 rfl (by decide) w1.heap.size W.heap.size (.slice (some ⟨w1.heap.size, 0, none⟩) 2 2) 2 [.int .u8 ((f.length : Int) / 256), .int .u8 ((f.length : Int) % 256)] rfl (World.ownsRow_lit w1 #[.int .u8 ((f.length : Int) / 256), .int .u8 ((f.length : Int) % 256)] 2 (Nat.le_refl _) (by decide) rfl) (.slice a1 f.length c1) f.length (u8L f) rfl (own_below O1.out ((Below.refl _ _).alloc (Nat.le_refl _) _)) hv2 (by unfold maxLen; omega) (by omega) (by simp) ?_; intro v2 w2 own2 hg2; obtain ⟨a2, c2, rfl⟩ := own_any own2; have OW2 := hide own2; have HG2 := hide hg2; clear own2 hg2)
  have HB2 := hide (show Below w.heap.size w w2 from (show Below w.heap.size w _ from HB1.out.alloc HB1.out.size _).grown HG2.out (by simp; omega) (fun r e => by
    have q : w1.heap.size = r := Option.some.inj e
    omega))
  have HZ2 := hide (show w1.heap.size ≤ w2.heap.size by have q := HG2.out.size; rw [World.size_alloc] at q; omega)
  obtain ⟨hd, hhd⟩ : ∃ hd, hd = headF f := ⟨_, rfl⟩
  have hdl : 2 + f.length = hd.length := by rw [hhd]; unfold headF; simp; omega
  have R2 := hide (show w2.ownsRow w1.heap.size 5 1 (.slice a2 hd.length c2) hd.length (u8L hd) by
    have q := OW2.out
    rw [hdl] at q
    have e : [Value.int .u8 ((f.length : Int) / 256), Value.int .u8 ((f.length : Int) % 256)] ++ u8L f = u8L hd := by
      rw [hhd]
      unfold headF u8L
      rw [List.map_append]
      congr 1
      simp
      omega
    rw [e] at q; exact q)
  have HHD := hide hhd
  try rw [hdl]
  have hdl0 := hdl
  have hdl2 : hd.length ≤ 2002 := by omega
  have hd8 : ∀ b ∈ hd, b < 256 := by
    rw [hhd]; unfold headF
    intro b hb
    rcases List.mem_append.1 hb with h | h
    · simp at h; omega
    · exact h8 b h
  have BI2 := hide (show ByteIn w2 (.slice a2 hd.length c2) hd from ByteIn.of_own R2.out hd8 (by omega))
  clear hdl hhd OW2 HG2 hv2
  go_wp2_with fail
  try rw [hdl0]
  have hzz : w2.heap.size ≤ w2.heap.size := Nat.le_refl _
  refine (rSum_c _ hd w2 BI2.out).mono ?_
  rintro e W3 ⟨rfl, hw3⟩
  have hb3 : Below w2.heap.size w2 W3 := by rw [hw3]; exact Below.refl _ _
  clear hw3
  have R3 := hide (own_below R2.out hb3)
  have HB3 := hide (bstep HB2.out hb3)
  have hz3 := hb3.size
  obtain ⟨s, hs⟩ : ∃ s, s = crc hd := ⟨_, rfl⟩
  have e1 : crc hd = s := hs.symm
  rw [e1]
  have hs32 : s < 4294967296 := by rw [hs]; unfold crc; omega
  have HS := hide hs
  have HS32 := hide hs32
  have HZ3 := hide (show w1.heap.size ≤ W3.heap.size by have := HZ2.out; omega)
  clear hs e1 hb3 BI2 hs32 hdl0 hzz hz3
  go_wp2_with (at_builtin; refine wpList_append_rows _ rfl _ _ 30 rfl 5 i5 (.int .u8 0) 1 1 Try.underlying30 hi5 hz5 hs5 hb5 rfl (by decide) w1.heap.size W3.heap.size (.slice a2 hd.length c2) hd.length (u8L hd) rfl (own_below R3.out ((Below.refl _ _).alloc (Nat.le_refl _) _)) (.slice (some ⟨W3.heap.size, 0, none⟩) 4 4) 4 [.int .u8 ((s : Int) % 256), .int .u8 ((s : Int) / 256 % 256), .int .u8 ((s : Int) / 65536 % 256), .int .u8 ((s : Int) / 16777216 % 256)] rfl (World.ownsRow_lit W3 #[.int .u8 ((s : Int) % 256), .int .u8 ((s : Int) / 256 % 256), .int .u8 ((s : Int) / 65536 % 256), .int .u8 ((s : Int) / 16777216 % 256)] 4 (Nat.le_refl _) (by decide) rfl) (by intro u hu; simp at hu; rcases hu with rfl | rfl | rfl | rfl <;> rfl) (by unfold maxLen; omega) (by omega) (by have := HZ3.out; simp; omega) ?_; intro v4 w4 own4 hg4; obtain ⟨a4, c4, rfl⟩ := own_any own4; have OW4 := hide own4; have HG4 := hide hg4; clear own4 hg4)
  have HB4 := hide (show Below w.heap.size w w4 from (show Below w.heap.size w _ from HB3.out.alloc HB3.out.size _).grown HG4.out (by have := HB3.out.size; simp; omega) (fun r e => by have := (R3.out.lt r e).1; have := HB1.out.size; omega))
  have hfl : hd.length + 4 = (frameO o).length := by
    unfold frameO; rw [← HF.out, ← HHD.out, List.length_append]; rfl
  have R4 := hide (show w4.ownsRow w.heap.size 5 1 (.slice a4 (frameO o).length c4) (frameO o).length (u8L (frameO o)) by
    have q := OW4.out
    rw [hfl] at q
    have e : u8L hd ++ [.int .u8 ((s : Int) % 256), .int .u8 ((s : Int) / 256 % 256), .int .u8 ((s : Int) / 65536 % 256), .int .u8 ((s : Int) / 16777216 % 256)] = u8L (frameO o) := by
      unfold frameO
      rw [← HF.out, ← HHD.out, ← HS.out]
      unfold u8L le4
      rw [List.map_append]
      congr 1
    rw [e] at q
    exact own_lower q (by have := HB1.out.size; omega))
  go_wp2_with fail
  refine bodyPost_ret (v := .tuple #[.slice a4 (frameO o).length c4, .int .i64 0]) (by simp [results, Try.f14, go_sem, hfl]) rfl ⟨_, rfl, R4.out, HB4.out⟩
end Go.Proofs.Ytalnipjaekpbhaa

namespace Go.Proofs.Ytalnipjaekpbhaa
open Go.ChangeShapes Go.WideShapes Go.ChangeAt Go.RowKit Go.Deep
set_option linter.unusedSimpArgs false
set_option linter.unusedVariables false
theorem num_cons (b : Nat) (l : List Nat) : num (b :: l) = b * 256 ^ l.length + num l := by
  have gen : ∀ (m : List Nat) (a : Nat), m.foldl (fun a b => 256 * a + b) a = a * 256 ^ m.length + m.foldl (fun a b => 256 * a + b) 0 := by
    intro m
    induction m with
    | nil => intro a; simp
    | cons c m ih =>
      intro a
      rw [List.foldl_cons, ih (256 * a + c), List.foldl_cons, ih (256 * 0 + c), List.length_cons, Nat.pow_succ, Nat.add_mul, Nat.mul_zero, Nat.zero_add]
      have : 256 * a * 256 ^ m.length = a * (256 ^ m.length * 256) := by rw [Nat.mul_comm 256 a, Nat.mul_assoc, Nat.mul_comm 256]
      omega
  show (b :: l).foldl (fun a b => 256 * a + b) 0 = _
  rw [List.foldl_cons, gen l, Nat.mul_zero, Nat.zero_add]; rfl
theorem num_hi (m x : Nat) : num (hi m x) = x % 256 ^ m := by
  induction m with
  | zero => simp [hi, num, Nat.mod_one]
  | succ m ih =>
    show num ((x / 256 ^ m % 256) :: hi m x) = _
    rw [num_cons, hi_length, ih, Nat.pow_succ, Nat.mod_mul, Nat.mul_comm (256 ^ m) (x / 256 ^ m % 256)]
    omega
/-- what was written as a number is read as that number -/
theorem rd_form (pre post : List Nat) (x : Nat) (hx : x < 18446744073709551616) : rd (pre ++ (form x ++ post)) pre.length = (x, 0, pre.length + (form x).length) := by
  have hfp := form_pos x
  have hl : pre.length < (pre ++ (form x ++ post)).length := by simp; omega
  have hm := many_pos x
  by_cases h : x ≤ 247
  · have hf : form x = [x] := by unfold form; rw [if_pos h]
    have hg : (pre ++ (form x ++ post)).getD pre.length 0 = x := by rw [hf]; simp [List.getD]
    unfold rd
    rw [if_neg (by omega), hg, if_pos h, hf]; rfl
  · have hf : form x = (247 + many x) :: hi (many x) x := by unfold form; rw [if_neg h]
    have hg : (pre ++ (form x ++ post)).getD pre.length 0 = 247 + many x := by rw [hf]; simp [List.getD]
    have hln : (pre ++ (form x ++ post)).length = pre.length + 1 + many x + post.length := by rw [hf]; simp [hi_length]; omega
    have hd : ((pre ++ (form x ++ post)).drop (pre.length + 1)).take (many x) = hi (many x) x := by
      rw [hf, ← List.drop_drop, List.drop_left, List.cons_append, List.drop_succ_cons, List.drop_zero]
      have e := List.take_left' (l₁ := hi (many x) x) (l₂ := post) (hi_length (many x) x)
      exact e
    have hnum : num (hi (many x) x) = x := by rw [num_hi, Nat.mod_eq_of_lt (many_lt x)]
    unfold rd
    rw [if_neg (by omega), hg, if_neg (by omega), if_neg (by omega)]
    rw [show 247 + many x - 247 = many x from by omega, hd, hnum, if_pos (by rw [hf, List.length_cons, hi_length]; omega), hf, List.length_cons, hi_length]
    congr 2 <;> omega
theorem tx_text (pre post : List Nat) (s : ByteArray) (m : Nat) (hs : s.size < 18446744073709551616) (hm : s.size ≤ m) : tx (pre ++ (text s ++ post)) pre.length m = (sb s, 0, pre.length + (text s).length) := by
  have e : pre ++ (text s ++ post) = pre ++ (form s.size ++ (sb s ++ post)) := by unfold text; simp
  rw [e]
  have hr := rd_form pre (sb s ++ post) s.size hs
  have hln : (pre ++ (form s.size ++ (sb s ++ post))).length = pre.length + (form s.size).length + s.size + post.length := by simp [sb_length]; omega
  have hlg : lg (pre ++ (form s.size ++ (sb s ++ post))) pre.length m = (s.size, 0, pre.length + (form s.size).length) := by
    unfold lg
    rw [hr, if_neg (by simp), if_neg (by simp; omega), if_neg (by simp only; omega)]
  unfold tx
  rw [hlg, if_neg (by simp)]
  have hd : ((pre ++ (form s.size ++ (sb s ++ post))).drop (pre.length + (form s.size).length)).take s.size = sb s := by
    rw [← List.drop_drop, List.drop_left, List.drop_left]
    exact List.take_left' (sb_length s)
  simp only [hd]
  unfold text
  rw [List.length_append, sb_length]
  congr 2; omega

theorem num_pow {l : List Nat} (h8 : ∀ x ∈ l, x < 256) (hl : l.length ≤ 8) : num l < 18446744073709551616 := by
  have q := num_lt l.length l rfl h8
  have h : 256 ^ l.length ≤ 256 ^ 8 := Nat.pow_le_pow_right (by decide) hl
  have : (256 : Nat) ^ 8 = 18446744073709551616 := by decide
  omega
theorem getD_mem {l : List Nat} {a : Nat} (h : a < l.length) : l.getD a 0 ∈ l := by
  rw [List.getD_eq_getElem?_getD, List.getElem?_eq_getElem h]; exact List.getElem_mem h
/-- what is read as a number stands there as its form -/
theorem rd_take {ns : List Nat} {a : Nat} (h8 : ∀ x ∈ ns, x < 256) (h : (rd ns a).2.1 = 0) : ns.take (rd ns a).2.2 = ns.take a ++ form (rd ns a).1 ∧ (rd ns a).2.2 ≤ ns.length ∧ (rd ns a).1 < 18446744073709551616 := by
  have ha := rd_some h
  have hf := h8 _ (getD_mem ha)
  unfold rd at h ⊢
  rw [if_neg (by omega)] at h ⊢
  by_cases c1 : ns.getD a 0 ≤ 247
  · rw [if_pos c1] at h ⊢
    simp only at h ⊢
    refine ⟨?_, by omega, by omega⟩
    rw [take_snoc ha]
    unfold form
    rw [if_pos c1]
  · rw [if_neg c1] at h ⊢
    by_cases c2 : ns.length < a + 1 + (ns.getD a 0 - 247)
    · rw [if_pos c2] at h; cases h
    · rw [if_neg c2] at h ⊢
      have hl : ((ns.drop (a + 1)).take (ns.getD a 0 - 247)).length = ns.getD a 0 - 247 := by
        rw [List.length_take, List.length_drop]; omega
      have hm : ∀ x ∈ (ns.drop (a + 1)).take (ns.getD a 0 - 247), x < 256 := fun x hx => h8 x (List.mem_of_mem_drop (List.mem_of_mem_take hx))
      by_cases c3 : (form (num ((ns.drop (a + 1)).take (ns.getD a 0 - 247)))).length = 1 + (ns.getD a 0 - 247)
      · rw [if_pos c3] at h ⊢
        simp only at h ⊢
        refine ⟨?_, by omega, num_pow hm (by rw [hl]; omega)⟩
        rw [(form_canon (by omega) hl hm).2 c3, List.take_add, take_snoc ha]
        simp
      · rw [if_neg c3] at h; cases h
/-- a number of a form, below 2^63 -/
def nxt (ns : List Nat) (a : Nat) : Option (Nat × Nat) := if (rd ns a).2.1 = 0 ∧ (rd ns a).1 < 9223372036854775808 then some ((rd ns a).1, (rd ns a).2.2) else none
theorem nxt_take {ns : List Nat} {a x a2 : Nat} (h8 : ∀ x ∈ ns, x < 256) (h : nxt ns a = some (x, a2)) : ns.take a2 = ns.take a ++ form x ∧ a2 ≤ ns.length ∧ x < 9223372036854775808 := by
  unfold nxt at h
  split at h
  · rename_i q
    simp only [Option.some.injEq, Prod.mk.injEq] at h
    obtain ⟨rfl, rfl⟩ := h
    have r := rd_take h8 q.1
    exact ⟨r.1, r.2.1, q.2⟩
  · cases h
theorem nxt_form (pre post : List Nat) (x : Nat) (hx : x < 9223372036854775808) : nxt (pre ++ (form x ++ post)) pre.length = some (x, pre.length + (form x).length) := by
  unfold nxt
  rw [rd_form pre post x (by omega)]
  simp [hx]
def pN (ns : List Nat) : Nat → Nat → List Nat → Option (List Nat × Nat)
  | 0, a, l => some (l, a)
  | n + 1, a, l => match nxt ns a with
    | none => none
    | some (x, a2) => pN ns n a2 (l ++ [x])
theorem pN_none {ns : List Nat} {n a : Nat} {l : List Nat} (h : nxt ns a = none) : pN ns (n + 1) a l = none := by simp [pN, h]
theorem pN_some {ns : List Nat} {n a x a2 : Nat} {l : List Nat} (h : nxt ns a = some (x, a2)) : pN ns (n + 1) a l = pN ns n a2 (l ++ [x]) := by simp [pN, h]
theorem pN_take {ns : List Nat} (h8 : ∀ x ∈ ns, x < 256) : ∀ (n a : Nat) (l l2 : List Nat) (a2 : Nat), a ≤ ns.length → pN ns n a l = some (l2, a2) → ∃ m, l2 = l ++ m ∧ m.length = n ∧ ns.take a2 = ns.take a ++ m.flatMap form ∧ a2 ≤ ns.length ∧ ∀ x ∈ m, x < 9223372036854775808
  | 0, a, l, l2, a2, ha, h => by
    simp only [pN, Option.some.injEq, Prod.mk.injEq] at h
    obtain ⟨rfl, rfl⟩ := h
    exact ⟨[], by simp, rfl, by simp, ha, fun x hx => by cases hx⟩
  | n + 1, a, l, l2, a2, ha, h => by
    cases hn : nxt ns a with
    | none => rw [pN_none hn] at h; cases h
    | some p =>
      obtain ⟨x, a1⟩ := p
      rw [pN_some hn] at h
      obtain ⟨h1, h2, h3⟩ := nxt_take h8 hn
      obtain ⟨m, rfl, q2, q3, q4, q5⟩ := pN_take h8 n a1 _ l2 a2 h2 h
      refine ⟨x :: m, by simp, by simp [q2], by rw [q3, h1, List.flatMap_cons, List.append_assoc], q4, fun y hy => ?_⟩
      rcases List.mem_cons.1 hy with rfl | hy
      · exact h3
      · exact q5 y hy
theorem pN_forms (post : List Nat) : ∀ (m pre l : List Nat), (∀ x ∈ m, x < 9223372036854775808) → pN (pre ++ (m.flatMap form ++ post)) m.length pre.length l = some (l ++ m, pre.length + (m.flatMap form).length)
  | [], pre, l, _ => by simp [pN]
  | x :: m, pre, l, hx => by
    have e : pre ++ ((x :: m).flatMap form ++ post) = pre ++ (form x ++ (m.flatMap form ++ post)) := by rw [List.flatMap_cons, List.append_assoc]
    rw [e, List.length_cons, pN_some (nxt_form pre _ x (hx x (List.mem_cons_self ..)))]
    have q := pN_forms post m (pre ++ form x) (l ++ [x]) (fun y hy => hx y (List.mem_cons_of_mem _ hy))
    rw [List.append_assoc, List.length_append] at q
    rw [q, List.flatMap_cons, List.length_append]
    simp [Nat.add_assoc]
def pF (ns : List Nat) : Nat → Nat → List (Nat × Int) → Option (List (Nat × Int) × Nat)
  | 0, a, l => some (l, a)
  | n + 1, a, l => match nxt ns a with
    | none => none
    | some (g, a1) => if 4294967295 < g then none else match nxt ns a1 with
      | none => none
      | some (c, a2) => pF ns n a2 (l ++ [(g, (c : Int))])
theorem pF_none1 {ns : List Nat} {n a : Nat} {l : List (Nat × Int)} (h : nxt ns a = none) : pF ns (n + 1) a l = none := by simp [pF, h]
theorem pF_big {ns : List Nat} {n a g a1 : Nat} {l : List (Nat × Int)} (h : nxt ns a = some (g, a1)) (hg : 4294967295 < g) : pF ns (n + 1) a l = none := by simp [pF, h, hg]
theorem pF_none2 {ns : List Nat} {n a g a1 : Nat} {l : List (Nat × Int)} (h : nxt ns a = some (g, a1)) (h2 : nxt ns a1 = none) : pF ns (n + 1) a l = none := by simp [pF, h, h2]
theorem pF_some {ns : List Nat} {n a g a1 c a2 : Nat} {l : List (Nat × Int)} (h : nxt ns a = some (g, a1)) (hg : ¬ 4294967295 < g) (h2 : nxt ns a1 = some (c, a2)) : pF ns (n + 1) a l = pF ns n a2 (l ++ [(g, (c : Int))]) := by
  simp only [pF, h, h2, if_neg hg]
theorem offF_cast (g c : Nat) : offF (g, (c : Int)) = form g ++ form c := by unfold offF; rw [Int.toNat_natCast]
theorem pF_take {ns : List Nat} (h8 : ∀ x ∈ ns, x < 256) : ∀ (n a : Nat) (l l2 : List (Nat × Int)) (a2 : Nat), a ≤ ns.length → pF ns n a l = some (l2, a2) → ∃ m, l2 = l ++ m ∧ m.length = n ∧ ns.take a2 = ns.take a ++ m.flatMap offF ∧ a2 ≤ ns.length ∧ a + 2 * n ≤ a2 ∧ ∀ x ∈ m, okOff x
  | 0, a, l, l2, a2, ha, h => by
    simp only [pF, Option.some.injEq, Prod.mk.injEq] at h
    obtain ⟨rfl, rfl⟩ := h
    exact ⟨[], by simp, rfl, by simp, ha, by omega, fun x hx => by cases hx⟩
  | n + 1, a, l, l2, a2, ha, h => by
    cases hn : nxt ns a with
    | none => rw [pF_none1 hn] at h; cases h
    | some p =>
      obtain ⟨g, a1⟩ := p
      by_cases hg : 4294967295 < g
      · rw [pF_big hn hg] at h; cases h
      · cases hn2 : nxt ns a1 with
        | none => rw [pF_none2 hn hn2] at h; cases h
        | some p =>
          obtain ⟨c, a3⟩ := p
          rw [pF_some hn hg hn2] at h
          obtain ⟨h1, h2, h3⟩ := nxt_take h8 hn
          obtain ⟨k1, k2, k3⟩ := nxt_take h8 hn2
          obtain ⟨m, rfl, q2, q3, q4, q5, q6⟩ := pF_take h8 n a3 _ l2 a2 k2 h
          have z1 : a + 1 ≤ a1 := by
            have e := congrArg List.length h1
            rw [List.length_append, List.length_take, List.length_take] at e
            have := form_pos g
            omega
          have z2 : a1 + 1 ≤ a3 := by
            have e := congrArg List.length k1
            rw [List.length_append, List.length_take, List.length_take] at e
            have := form_pos c
            omega
          refine ⟨(g, (c : Int)) :: m, by simp, by simp [q2], by rw [q3, k1, h1, List.flatMap_cons, offF_cast]; simp [List.append_assoc], q4, by omega, fun y hy => ?_⟩
          rcases List.mem_cons.1 hy with rfl | hy
          · exact ⟨by simp only; omega, by simp only; omega, by simp only; omega⟩
          · exact q6 y hy
theorem pF_forms (post : List Nat) : ∀ (m : List (Nat × Int)) (pre : List Nat) (l : List (Nat × Int)), (∀ x ∈ m, okOff x) → pF (pre ++ (m.flatMap offF ++ post)) m.length pre.length l = some (l ++ m, pre.length + (m.flatMap offF).length)
  | [], pre, l, _ => by simp [pF]
  | (g, c) :: m, pre, l, hx => by
    have hk := hx (g, c) (List.mem_cons_self ..)
    obtain ⟨hg, hc0, hc1⟩ := hk
    simp only at hg hc0 hc1
    obtain ⟨cn, rfl⟩ : ∃ cn : Nat, c = (cn : Int) := ⟨c.toNat, by omega⟩
    have e : pre ++ (((g, (cn : Int)) :: m).flatMap offF ++ post) = pre ++ (form g ++ (form cn ++ (m.flatMap offF ++ post))) := by rw [List.flatMap_cons, offF_cast]; simp [List.append_assoc]
    have n1 := nxt_form pre (form cn ++ (m.flatMap offF ++ post)) g (by omega)
    have n2 := nxt_form (pre ++ form g) (m.flatMap offF ++ post) cn (by omega)
    rw [List.length_append, List.append_assoc] at n2
    rw [e, List.length_cons, pF_some n1 (by omega) n2]
    have q := pF_forms post m (pre ++ form g ++ form cn) (l ++ [(g, (cn : Int))]) (fun y hy => hx y (List.mem_cons_of_mem _ hy))
    simp only [List.append_assoc, List.length_append] at q
    rw [← Nat.add_assoc] at q
    rw [q, List.flatMap_cons, List.length_append, offF_cast, List.length_append]
    simp [Nat.add_assoc]
/-- a value for each place of a row -/
def assign : List Nat → List Nat → Nat → Int
  | j :: js, x :: xs, i => if i = j then (x : Int) else assign js xs i
  | _, _, _ => 0
theorem assign_at : ∀ (js xs : List Nat) (i : Nat), js.Nodup → js.length = xs.length → i < js.length → assign js xs (js.getD i 0) = (xs.getD i 0 : Int)
  | [], _, i, _, _, h => by cases h
  | j :: js, [], i, _, h, _ => by cases h
  | j :: js, x :: xs, 0, _, _, _ => by simp [assign]
  | j :: js, x :: xs, i + 1, hn, hl, hi => by
    have hi2 : i < js.length := by simpa using hi
    have q := assign_at js xs i (List.nodup_cons.1 hn).2 (by simpa using hl) hi2
    have e : (j :: js).getD (i + 1) 0 = js.getD i 0 := by simp [List.getD_eq_getElem?_getD]
    have e2 : (x :: xs).getD (i + 1) 0 = xs.getD i 0 := by simp [List.getD_eq_getElem?_getD]
    rw [e, e2, ← q]
    have hne : js.getD i 0 ≠ j := fun h => (List.nodup_cons.1 hn).1 (by rw [← h]; exact getD_mem hi2)
    simp only [assign, if_neg hne]
theorem numL_nodup (k : Int) : (numL k).Nodup := by
  unfold numL; (repeat' split) <;> decide
/-- the order that a form has -/
def mkO (k : Nat) (nm l : List Nat) (fs : List (Nat × Int)) : Ord := { ofO (k : Int) (assign (numL (k : Int)) l) with name := nm, offs := fs }
theorem mkO_num (k : Nat) (nm l : List Nat) (fs : List (Nat × Int)) {i : Nat} (hl : l.length = (numL (k : Int)).length) (hi : i < (numL (k : Int)).length) : (mkO k nm l fs).num ((numL (k : Int)).getD i 0) = (l.getD i 0 : Int) := by
  show (if (numL (k : Int)).getD i 0 ∈ numL (k : Int) then assign (numL (k : Int)) l ((numL (k : Int)).getD i 0) else 0) = _
  rw [if_pos (getD_mem hi), assign_at _ _ _ (numL_nodup _) hl.symm hi]
theorem mkO_forms (k : Nat) (nm l : List Nat) (fs : List (Nat × Int)) (hl : l.length = (numL (k : Int)).length) : (numL (k : Int)).flatMap (numF (mkO k nm l fs)) = l.flatMap form := by
  rw [List.flatMap_def, List.flatMap_def]
  congr 1
  refine List.ext_getElem (by simp [hl]) (fun i h1 h2 => ?_)
  have hi : i < (numL (k : Int)).length := by simpa using h1
  rw [List.getElem_map, List.getElem_map]
  have q := mkO_num k nm l fs hl hi
  rw [List.getD_eq_getElem?_getD, List.getD_eq_getElem?_getD, List.getElem?_eq_getElem hi, List.getElem?_eq_getElem (by omega)] at q
  simp only [Option.getD_some] at q
  unfold numF
  rw [q, Int.toNat_natCast]
theorem mkO_formO (k : Nat) (nm l : List Nat) (fs : List (Nat × Int)) (hl : l.length = (numL (k : Int)).length) : formO (mkO k nm l fs) = (form k ++ (if k = 1 then text (bstr nm) else [])) ++ l.flatMap form ++ (if k = 4 then offsF fs else []) := by
  rw [formO_eq]
  have e1 : (mkO k nm l fs).kind = (k : Int) := rfl
  have e2 : (mkO k nm l fs).name = nm := rfl
  have e3 : (mkO k nm l fs).offs = fs := rfl
  rw [e1, e2, e3, mkO_forms k nm l fs hl, Int.toNat_natCast]
  have c1 : ((k : Int) = 1) ↔ k = 1 := by omega
  have c4 : ((k : Int) = 4) ↔ k = 4 := by omega
  simp only [c1, c4]
def pK (ns : List Nat) : Option (Nat × Nat) := match nxt ns 0 with
  | none => none
  | some (k, a) => if 1 ≤ k ∧ k ≤ 6 then some (k, a) else none
def pT (ns : List Nat) (k a : Nat) : Option (List Nat × Nat) := if k = 1 then (if (tx ns a 64).2.1 = 0 then some ((tx ns a 64).1, (tx ns a 64).2.2) else none) else some ([], a)
def pO (ns : List Nat) (k a : Nat) : Option (List (Nat × Int) × Nat) := if k = 4 then (match nxt ns a with
  | none => none
  | some (m, a2) => if 64 < m then none else pF ns m a2 []) else some ([], a)
def parse (ns : List Nat) : Option (Ord × Nat) := (pK ns).bind fun p => (pT ns p.1 p.2).bind fun t => (pN ns (numL (p.1 : Int)).length t.2 []).bind fun n => (pO ns p.1 n.2).bind fun f => some (mkO p.1 t.1 n.1 f.1, f.2)
/-- what the bytes say, if the form of that is they -/
def readO (ns : List Nat) : Option Ord := match parse ns with
  | none => none
  | some (o, a) => if a = ns.length ∧ chk o = true then some o else none
theorem take_len {ns : List Nat} {a : Nat} {P : List Nat} (h : ns.take a = P) (ha : a ≤ ns.length) : a = P.length := by
  rw [← h, List.length_take]; omega
theorem sb_of {l : List Nat} (h : ∀ x ∈ l, x < 256) : text (bstr l) = form l.length ++ l := by
  unfold text; rw [bstr_size, sb_bstr l h]
theorem pT_take {ns : List Nat} {k a a2 : Nat} {nm : List Nat} (h8 : ∀ x ∈ ns, x < 256) (ha : a ≤ ns.length) (h : pT ns k a = some (nm, a2)) : ns.take a2 = ns.take a ++ (if k = 1 then text (bstr nm) else []) ∧ a2 ≤ ns.length ∧ (∀ x ∈ nm, x < 256) ∧ nm.length ≤ 64 := by
  unfold pT at h
  by_cases hk : k = 1
  · rw [if_pos hk] at h ⊢
    by_cases he : (tx ns a 64).2.1 = 0
    · rw [if_pos he] at h
      simp only [Option.some.injEq, Prod.mk.injEq] at h
      obtain ⟨h1, h2⟩ := h
      rw [tx_err] at he
      obtain ⟨q1, q2, q3, q4⟩ := lg_ok ns a 64 he
      obtain ⟨r1, r2, r3⟩ := rd_take h8 q1
      unfold tx at h1 h2
      rw [if_neg (by rw [he]; simp), q4] at h1 h2
      simp only at h1 h2
      have hm : ∀ x ∈ nm, x < 256 := fun x hx => h8 x (by rw [← h1] at hx; exact List.mem_of_mem_drop (List.mem_of_mem_take hx))
      have hl : nm.length = (rd ns a).1 := by rw [← h1, List.length_take, List.length_drop]; omega
      refine ⟨?_, by omega, hm, by omega⟩
      rw [← h2, List.take_add, r1, h1, sb_of hm, hl, List.append_assoc]
    · rw [if_neg he] at h; cases h
  · rw [if_neg hk] at h ⊢
    simp only [Option.some.injEq, Prod.mk.injEq] at h
    obtain ⟨rfl, rfl⟩ := h
    exact ⟨by simp, ha, fun x hx => (by cases hx), by simp⟩
theorem pO_take {ns : List Nat} {k a a2 : Nat} {fs : List (Nat × Int)} (h8 : ∀ x ∈ ns, x < 256) (ha : a ≤ ns.length) (h : pO ns k a = some (fs, a2)) : ns.take a2 = ns.take a ++ (if k = 4 then offsF fs else []) ∧ a2 ≤ ns.length ∧ (∀ x ∈ fs, okOff x) ∧ fs.length ≤ 64 := by
  unfold pO at h
  by_cases hk : k = 4
  · rw [if_pos hk] at h ⊢
    cases hn : nxt ns a with
    | none => rw [hn] at h; cases h
    | some p =>
      obtain ⟨m, a1⟩ := p
      rw [hn] at h
      simp only at h
      by_cases hm : 64 < m
      · rw [if_pos hm] at h; cases h
      · rw [if_neg hm] at h
        obtain ⟨h1, h2, h3⟩ := nxt_take h8 hn
        obtain ⟨q, e, q2, q3, q4, q5, q6⟩ := pF_take h8 m a1 [] fs a2 h2 h
        rw [List.nil_append] at e
        subst e
        refine ⟨?_, q4, q6, by omega⟩
        rw [q3, h1]
        unfold offsF
        rw [q2, List.append_assoc]
  · rw [if_neg hk] at h ⊢
    simp only [Option.some.injEq, Prod.mk.injEq] at h
    obtain ⟨rfl, rfl⟩ := h
    exact ⟨by simp, ha, fun x hx => (by cases hx), by simp⟩
theorem pK_take {ns : List Nat} {k a : Nat} (h8 : ∀ x ∈ ns, x < 256) (h : pK ns = some (k, a)) : ns.take a = form k ∧ a ≤ ns.length ∧ 1 ≤ k ∧ k ≤ 6 := by
  unfold pK at h
  cases hn : nxt ns 0 with
  | none => rw [hn] at h; cases h
  | some p =>
    obtain ⟨k2, a1⟩ := p
    rw [hn] at h
    simp only at h
    split at h
    · rename_i hk
      simp only [Option.some.injEq, Prod.mk.injEq] at h
      obtain ⟨rfl, rfl⟩ := h
      obtain ⟨h1, h2, h3⟩ := nxt_take h8 hn
      exact ⟨by simpa using h1, h2, hk.1, hk.2⟩
    · cases h
theorem assign_bound : ∀ (js xs : List Nat) (i : Nat), (∀ x ∈ xs, x < 9223372036854775808) → 0 ≤ assign js xs i ∧ assign js xs i ≤ 9223372036854775807
  | [], xs, i, _ => by simp [assign]
  | j :: js, [], i, _ => by simp [assign]
  | j :: js, x :: xs, i, h => by
    have hx := h x (List.mem_cons_self ..)
    have q := assign_bound js xs i (fun y hy => h y (List.mem_cons_of_mem _ hy))
    simp only [assign]
    split
    · omega
    · exact q
/-- what a form has been read as -/
theorem parse_take {ns : List Nat} {o : Ord} {a : Nat} (h8 : ∀ x ∈ ns, x < 256) (h : parse ns = some (o, a)) : ns.take a = formO o ∧ a ≤ ns.length ∧ OrdR o ∧ isKind o.kind = true ∧ o.offs.length ≤ 64 := by
  unfold parse at h
  simp only [Option.bind_eq_some_iff, Option.some.injEq, Prod.mk.injEq, Prod.exists] at h
  obtain ⟨k, a1, hk, nm, a2, ht, l, a3, hn, fs, a4, ho, rfl, rfl⟩ := h
  obtain ⟨k1, k2, k3, k4⟩ := pK_take h8 hk
  obtain ⟨t1, t2, t3, t4⟩ := pT_take h8 k2 ht
  obtain ⟨m, e, n1, n2, n3, n4⟩ := pN_take h8 _ _ _ _ _ t2 hn
  rw [List.nil_append] at e
  subst e
  obtain ⟨o1, o2, o3, o4⟩ := pO_take h8 n3 ho
  refine ⟨?_, o2, ?_, ?_, o4⟩
  · rw [mkO_formO k nm l fs n1, o1, n2, t1, k1]
  · refine ⟨by show (-9223372036854775808 : Int) ≤ (k : Int); omega, by show (k : Int) ≤ _; omega, fun j => ?_, fun j => ?_, fun x hx => ?_, t3, by show nm.length ≤ _; omega⟩
    · show _ ≤ (if j ∈ numL (k : Int) then assign (numL (k : Int)) l j else 0)
      have := assign_bound (numL (k : Int)) l j n4
      split <;> omega
    · show (if j ∈ numL (k : Int) then assign (numL (k : Int)) l j else 0) ≤ _
      have := assign_bound (numL (k : Int)) l j n4
      split <;> omega
    · have q := o3 x hx
      exact ⟨q.1, by have := q.2.1; omega, q.2.2⟩
  · show isKind (k : Int) = true
    unfold isKind; exact decide_eq_true (by omega)
theorem parse_whole {ns : List Nat} {o : Ord} {a : Nat} (h8 : ∀ x ∈ ns, x < 256) (h : parse ns = some (o, a)) : a = ns.length ↔ formO o = ns := by
  obtain ⟨h1, h2, -⟩ := parse_take h8 h
  constructor
  · intro e; rw [← h1, e, List.take_length]
  · intro e
    have q := congrArg List.length h1
    rw [e, List.length_take] at q
    omega
theorem readO_some {ns : List Nat} {o : Ord} (h8 : ∀ x ∈ ns, x < 256) (h : readO ns = some o) : chk o = true ∧ OrdR o ∧ formO o = ns := by
  unfold readO at h
  cases hp : parse ns with
  | none => rw [hp] at h; cases h
  | some p =>
    obtain ⟨o2, a⟩ := p
    rw [hp] at h
    simp only at h
    split at h
    · rename_i q
      obtain rfl : o2 = o := by simpa using h
      exact ⟨q.2, (parse_take h8 hp).2.2.1, (parse_whole h8 hp).1 q.1⟩
    · cases h
structure EqO (a b : Ord) : Prop where
  k : a.kind = b.kind
  n : a.name = b.name
  f : a.offs = b.offs
  j : ∀ i ∈ numO, a.num i = b.num i
theorem EqO.same {a b : Ord} (h : EqO a b) : sameO a b = true := (sameO_iff a b).2 ⟨h.k, by rw [h.n], h.j, h.f⟩
theorem EqO.chk {a b : Ord} (h : EqO a b) (hb : ChkT b) : ChkT a := by
  refine ⟨by rw [h.k]; exact hb.k0, by rw [h.k]; exact hb.k1, by rw [h.f]; exact hb.ol, by rw [h.n]; exact hb.nl, by rw [h.n, h.k]; exact hb.nm, by rw [h.k, h.f]; exact hb.of4, by rw [h.f]; exact hb.oc, fun i hi => ?_, fun i hi hn => ?_⟩
  · rw [h.k] at hi
    rw [h.j i (numL_sub _ i ((listed_mem _ _).1 hi))]
    exact hb.ln i hi
  · rw [h.k] at hn
    rw [h.j i hi]; exact hb.lz i hi hn
/-- the form of an order that may be written is read as that order -/
theorem readO_form {o : Ord} (hc : Go.Proofs.Ytalnipjaekpbhaa.chk o = true) (hr : OrdR o) : ∃ o2, readO (formO o) = some o2 ∧ EqO o2 o := by
  have ct := (chk_iff o).1 hc
  obtain ⟨k, hk⟩ : ∃ k : Nat, o.kind = (k : Int) := ⟨o.kind.toNat, by have := ct.k0; omega⟩
  have hk1 : 1 ≤ k := by have := ct.k0; omega
  have hk6 : k ≤ 6 := by have := ct.k1; omega
  obtain ⟨l, hl⟩ : ∃ l : List Nat, l = (numL o.kind).map fun j => (o.num j).toNat := ⟨_, rfl⟩
  have hll : l.length = (numL (k : Int)).length := by rw [hl, List.length_map, hk]
  have hlb : ∀ x ∈ l, x < 9223372036854775808 := by
    intro x hx
    rw [hl] at hx
    obtain ⟨j, -, rfl⟩ := List.mem_map.1 hx
    have := hr.n1 j
    omega
  have hlf : (numL o.kind).flatMap (numF o) = l.flatMap form := by
    rw [hl, List.flatMap_map]; rfl
  have hE : EqO (mkO k o.name l o.offs) o := by
    refine ⟨hk.symm, rfl, rfl, fun i hi => ?_⟩
    show (if i ∈ numL (k : Int) then assign (numL (k : Int)) l i else 0) = o.num i
    split
    · rename_i hm
      obtain ⟨q, hq, rfl⟩ := List.mem_iff_getElem.1 hm
      have e := assign_at (numL (k : Int)) l q (numL_nodup _) hll.symm hq
      rw [List.getD_eq_getElem?_getD, List.getElem?_eq_getElem hq] at e
      simp only [Option.getD_some] at e
      rw [e, List.getD_eq_getElem?_getD, hl, List.getElem?_map]
      have hq2 : q < (numL o.kind).length := by rw [hk]; exact hq
      have e3 : (numL o.kind)[q] = (numL (k : Int))[q] := by simp only [hk]
      rw [List.getElem?_eq_getElem hq2, Option.map_some, Option.getD_some, e3]
      have := ct.ln ((numL (k : Int))[q]) ((listed_mem _ _).2 (by rw [hk]; exact List.getElem_mem hq))
      omega
    · rename_i hm
      exact (ct.lz i hi (fun h => hm (by rw [← hk]; exact (listed_mem _ _).1 h))).symm
  obtain ⟨T, hT⟩ : ∃ T, T = if k = 1 then text (bstr o.name) else [] := ⟨_, rfl⟩
  obtain ⟨F, hF⟩ : ∃ F, F = if k = 4 then offsF o.offs else [] := ⟨_, rfl⟩
  have hform : formO o = form k ++ (T ++ (l.flatMap form ++ F)) := by
    rw [formO_eq, hlf, hk, Int.toNat_natCast, hT, hF]
    have c1 : ((k : Int) = 1) ↔ k = 1 := by omega
    have c4 : ((k : Int) = 4) ↔ k = 4 := by omega
    simp only [c1, c4, List.append_assoc]
  obtain ⟨ns, hns⟩ : ∃ ns, ns = formO o := ⟨_, rfl⟩
  rw [← hns] at hform
  have pk : pK ns = some (k, (form k).length) := by
    have q := nxt_form [] (T ++ (l.flatMap form ++ F)) k (by omega)
    rw [List.nil_append, ← hform, List.length_nil, Nat.zero_add] at q
    unfold pK
    rw [q]
    simp [hk1, hk6]
  have pt : pT ns k (form k).length = some (o.name, (form k).length + T.length) := by
    unfold pT
    by_cases h1 : k = 1
    · rw [if_pos h1] at hT ⊢
      have q := tx_text (form k) (l.flatMap form ++ F) (bstr o.name) 64 (by rw [bstr_size]; have := ct.nl; omega) (by rw [bstr_size]; exact ct.nl)
      rw [← hT, ← hform, sb_bstr _ hr.nm] at q
      rw [q]; rfl
    · rw [if_neg h1] at hT ⊢
      have e : o.name = [] := ct.nm.2 (by rw [hk]; omega)
      rw [e, hT]; rfl
  have pn : pN ns (numL (k : Int)).length ((form k).length + T.length) [] = some (l, (form k).length + T.length + (l.flatMap form).length) := by
    have q := pN_forms F l (form k ++ T) [] hlb
    rw [List.append_assoc, ← hform, List.length_append, List.nil_append, hll] at q
    exact q
  have po : pO ns k ((form k).length + T.length + (l.flatMap form).length) = some (o.offs, (form k).length + T.length + (l.flatMap form).length + F.length) := by
    unfold pO
    by_cases h4 : k = 4
    · rw [if_pos h4] at hF ⊢
      have hol := ct.ol
      have q1 := nxt_form (form k ++ T ++ l.flatMap form) (o.offs.flatMap offF) o.offs.length (by omega)
      have e : form k ++ T ++ l.flatMap form ++ (form o.offs.length ++ o.offs.flatMap offF) = ns := by
        rw [hform, hF]; unfold offsF; simp only [List.append_assoc]
      rw [e] at q1
      simp only [List.length_append] at q1
      rw [q1]
      simp only
      rw [if_neg (by omega)]
      have q2 := pF_forms [] o.offs (form k ++ T ++ l.flatMap form ++ form o.offs.length) [] (fun x hx => ⟨(hr.o1 x hx).1, ct.oc x hx, (hr.o1 x hx).2.2⟩)
      have e2 : form k ++ T ++ l.flatMap form ++ form o.offs.length ++ (o.offs.flatMap offF ++ []) = ns := by
        rw [← e]; simp only [List.append_assoc, List.append_nil]
      rw [e2] at q2
      simp only [List.length_append, List.nil_append] at q2
      rw [q2, hF]
      unfold offsF
      rw [List.length_append]
      simp [Nat.add_assoc]
    · rw [if_neg h4] at hF ⊢
      have e : o.offs = [] := ct.of4 (by rw [hk]; omega)
      rw [e, hF]; rfl
  have hp : parse ns = some (mkO k o.name l o.offs, ns.length) := by
    unfold parse
    rw [pk]
    simp only [Option.bind_some]
    rw [pt]
    simp only [Option.bind_some]
    rw [pn]
    simp only [Option.bind_some]
    rw [po]
    simp only [Option.bind_some, Option.some.injEq, Prod.mk.injEq, true_and]
    rw [hform]
    simp only [List.length_append]; omega
  refine ⟨_, ?_, hE⟩
  rw [← hns]
  unfold readO
  rw [hp]
  simp only
  rw [if_pos ⟨by first | trivial | rfl, (chk_iff _).2 (hE.chk ct)⟩]
end Go.Proofs.Ytalnipjaekpbhaa

namespace Go.Proofs.Ytalnipjaekpbhaa
open Go.ChangeShapes Go.WideShapes Go.ChangeAt Go.RowKit Go.Deep
set_option linter.unusedSimpArgs false
set_option linter.unusedVariables false

theorem nxt_eq {ns : List Nat} {a x a2 : Nat} (h : nxt ns a = some (x, a2)) : (rd ns a).2.1 = 0 ∧ (rd ns a).1 = x ∧ (rd ns a).2.2 = a2 ∧ x < 9223372036854775808 := by
  unfold nxt at h
  split at h
  · rename_i q
    simp only [Option.some.injEq, Prod.mk.injEq] at h
    exact ⟨q.1, h.1, h.2, by rw [← h.1]; exact q.2⟩
  · cases h
theorem nxt_no {ns : List Nat} {a : Nat} (h : nxt ns a = none) (h0 : (rd ns a).2.1 = 0) : 9223372036854775808 ≤ (rd ns a).1 := by
  unfold nxt at h
  split at h
  · cases h
  · rename_i q
    have : ¬ (rd ns a).1 < 9223372036854775808 := fun e => q ⟨h0, e⟩
    omega
set_option maxRecDepth 100000 in
set_option maxHeartbeats 2000000 in
theorem rNext_some {h cap : Nat} {ao : Option Addr} {ns : List Nat} {a : Nat} {w : World} (hD : DObj w h ao cap ns a) {x a2 : Nat} (hn : nxt ns a = some (x, a2)) : Calls Try.prog 65 #[.pointer (some ⟨h, 0, none⟩)] w fun e w' => e = .returned (.tuple #[.int .i64 (x : Int), .bool true]) ∧ Only h w w' ∧ DObj w' h ao cap ns a2 := by
  obtain ⟨h1, h2, h3, h4⟩ := nxt_eq hn
  have C := dNum_c h cap ao ns a w hD
  rw [h1, h2, h3] at C
  have hx : (x : Int) < 9223372036854775808 := by omega
  have hw : wrap64 (x : Int) = (x : Int) := by unfold wrap64; omega
  clear h1 h2 h3 hn hD h4
  have CC := hide C
  clear C
  go_enter Try.func65, Try.ntmps65
  go_wp2_with fail
  refine CC.out.mono ?_
  rintro e w1 ⟨rfl, ho, hd⟩
  have HP := hide (And.intro ho hd)
  clear ho hd CC
  go_wp2_with fail
  refine bodyPost_ret (v := .tuple #[.int .i64 (x : Int), .bool true]) (by simp [results, Try.f65, go_sem]) rfl ⟨rfl, HP.out⟩
set_option maxRecDepth 100000 in
set_option maxHeartbeats 2000000 in
theorem rNext_none {h cap : Nat} {ao : Option Addr} {ns : List Nat} {a : Nat} {w : World} (hD : DObj w h ao cap ns a) (hn : nxt ns a = none) : Calls Try.prog 65 #[.pointer (some ⟨h, 0, none⟩)] w fun e w' => ∃ (y : Int) (a2 : Nat), e = .returned (.tuple #[.int .i64 y, .bool false]) ∧ Only h w w' ∧ DObj w' h ao cap ns a2 := by
  have C := dNum_c h cap ao ns a w hD
  obtain ⟨x, hx⟩ : ∃ x, x = (rd ns a).1 := ⟨_, rfl⟩
  obtain ⟨r, hr⟩ : ∃ r, r = (rd ns a).2.1 := ⟨_, rfl⟩
  obtain ⟨a2, ha⟩ : ∃ r, r = (rd ns a).2.2 := ⟨_, rfl⟩
  have hz : r = 0 → 9223372036854775808 ≤ x := fun e => by rw [hx]; exact nxt_no hn (by rw [← hr]; exact e)
  rw [← hx, ← hr, ← ha] at C
  have CC := hide C
  clear C hx hr ha hn hD
  by_cases h0 : r = 0
  · have hxx := hz h0
    subst h0
    have d2 : decide ((x : Int) < 9223372036854775808) = false := decide_eq_false (by omega)
    clear hz
    go_enter Try.func65, Try.ntmps65
    go_wp2_with fail
    refine CC.out.mono ?_
    rintro e w1 ⟨rfl, ho, hd⟩
    have HP := hide (And.intro ho hd)
    clear ho hd CC
    go_wp2_with fail
    refine bodyPost_ret (v := .tuple #[.int .i64 (wrap64 (x : Int)), .bool false]) (by simp [results, Try.f65, go_sem]) rfl ⟨_, _, rfl, HP.out⟩
  · have d1 : ((r : Int) == 0) = false := by simp; omega
    clear hz
    go_enter Try.func65, Try.ntmps65
    go_wp2_with fail
    refine CC.out.mono ?_
    rintro e w1 ⟨rfl, ho, hd⟩
    have HP := hide (And.intro ho hd)
    clear ho hd CC
    go_wp2_with fail
    refine bodyPost_ret (v := .tuple #[.int .i64 (wrap64 (x : Int)), .bool false]) (by simp [results, Try.f65, go_sem]) rfl ⟨_, _, rfl, HP.out⟩
set_option maxRecDepth 100000 in
set_option maxHeartbeats 2000000 in
theorem count_c (k : Nat) (w : World) (hk : 1 ≤ k) (hk6 : k ≤ 6) : Calls Try.prog 67 #[.int .i64 (k : Int)] w fun e w' => e = .returned (.int .i64 ((numL (k : Int)).length : Int)) ∧ w' = w := by
  rcases (show k = 1 ∨ k = 2 ∨ k = 3 ∨ k = 4 ∨ k = 5 ∨ k = 6 by omega) with rfl | rfl | rfl | rfl | rfl | rfl
  all_goals (go_enter Try.func67, Try.ntmps67; go_wp2_with fail)
  · refine bodyPost_ret (v := .int .i64 1) (by simp [results, Try.f67, go_sem]) rfl ⟨rfl, rfl⟩
  · refine bodyPost_ret (v := .int .i64 2) (by simp [results, Try.f67, go_sem]) rfl ⟨rfl, rfl⟩
  · refine bodyPost_ret (v := .int .i64 11) (by simp [results, Try.f67, go_sem]) rfl ⟨rfl, rfl⟩
  · refine bodyPost_ret (v := .int .i64 2) (by simp [results, Try.f67, go_sem]) rfl ⟨rfl, rfl⟩
  · refine bodyPost_ret (v := .int .i64 2) (by simp [results, Try.f67, go_sem]) rfl ⟨rfl, rfl⟩
  · refine bodyPost_ret (v := .int .i64 1) (by simp [results, Try.f67, go_sem]) rfl ⟨rfl, rfl⟩
end Go.Proofs.Ytalnipjaekpbhaa

namespace Go.Proofs.Ytalnipjaekpbhaa
open Go.ChangeShapes Go.WideShapes Go.ChangeAt Go.RowKit Go.Deep
set_option linter.unusedSimpArgs false
set_option linter.unusedVariables false

theorem info2 : (Try.prog.info? 2).map (fun i => (i.zero, i.size, i.bytes)) = some (some (.int .i64 0), 1, 8) := by kernel_rfl
theorem rNext_any {h cap : Nat} {ao : Option Addr} {ns : List Nat} {a : Nat} {w : World} (hD : DObj w h ao cap ns a) : Calls Try.prog 65 #[.pointer (some ⟨h, 0, none⟩)] w fun e w' => ∃ (y : Int) (b : Bool) (a2 : Nat), e = .returned (.tuple #[.int .i64 y, .bool b]) ∧ Only h w w' ∧ DObj w' h ao cap ns a2 := by
  cases hn : nxt ns a with
  | none => exact (rNext_none hD hn).mono (fun e w' ⟨y, a2, h1, h2⟩ => ⟨y, false, a2, h1, h2⟩)
  | some p => exact (rNext_some hD (x := p.1) (a2 := p.2) hn).mono (fun e w' ⟨h1, h2⟩ => ⟨_, true, p.2, h1, h2⟩)
theorem there_stays {w w' : World} {b o n : Nat} (h : w.there b o n) (hs : w'.heap[b]? = w.heap[b]?) : w'.there b o n := fun j hj => by
  rw [World.cell?_of_block (a := ⟨b, o + j, none⟩) hs, World.frozen?_of_block (a := ⟨b, o + j, none⟩) hs]; exact h j hj
theorem there_lt {w : World} {b o n : Nat} (h : w.there b o n) (hn : 0 < n) : b < w.heap.size := by
  have q := (h 0 hn).1
  cases hc : w.cell? ⟨b, o + 0, none⟩ with
  | none => rw [hc] at q; cases q
  | some v => exact World.block_lt_of_cell? w _ hc
theorem results_ct {P : Program} {fn : Func} {tmps : Array Value} {s s2 : Nat} {t : TypeId} {ad : Addr} {w : World} {v v2 : Value} (hf : fn.results = #[.cell s t, .tmp s2]) (ht : tmps.getD s undef = .pointer (some ad)) (hl : (loadVar t ad).run P w = .ok v w) (h2 : tmps.getD s2 undef = v2) : (results fn tmps).run P w = .ok (.tuple #[v, v2]) w := by
  subst h2
  unfold results
  rw [hf]
  simp [show tmps[s]?.getD undef = _ from ((Array.getD_eq_getD_getElem? ..).symm.trans ht), Sem.run_bind, hl, asAddr, Result.andThen_ok]
theorem below_up {B B2 : Nat} {w w1 w2 : World} (h : Below B w w1) (h2 : Below B2 w1 w2) (hB : B ≤ B2) : Below B w w2 := h.trans (h2.mono hB)
/-- the document's Read under way: its result, its reader -/
structure DSt (w wr : World) (ao : Option Addr) (cap : Nat) (ns : List Nat) (a : Nat) : Prop where
  b : Below w.heap.size w wr
  th : wr.there w.heap.size 0 18
  d : DObj wr (w.heap.size + 1) ao cap ns a
  y : ∀ ad, ao = some ad → ns ≠ [] → ad.block < w.heap.size
theorem DSt.sz {w wr : World} {ao : Option Addr} {cap : Nat} {ns : List Nat} {a : Nat} (h : DSt w wr ao cap ns a) : w.heap.size + 2 ≤ wr.heap.size := h.d.lt
theorem DSt.next {w wr w' : World} {ao : Option Addr} {cap : Nat} {ns : List Nat} {a a2 : Nat} (h : DSt w wr ao cap ns a) (ho : Only (w.heap.size + 1) wr w') (hd : DObj w' (w.heap.size + 1) ao cap ns a2) : DSt w w' ao cap ns a2 :=
  ⟨below_only h.b ho (by omega), there_stays h.th (ho.block _ (there_lt h.th (by decide)) (by omega)), hd, h.y⟩
theorem DSt.far {w wr w' : World} {ao : Option Addr} {cap : Nat} {ns : List Nat} {a : Nat} (h : DSt w wr ao cap ns a) (hb : Below (w.heap.size + 2) wr w') : DSt w w' ao cap ns a :=
  ⟨below_up h.b hb (by omega), there_stays h.th (hb.block _ (by omega)), h.d.same (B := w.heap.size + 2) hb.size (by omega) (fun ad e hn => by have := h.y ad e hn; omega) (fun i hi => hb.block i hi), h.y⟩
theorem readO_none {ns : List Nat} (h : parse ns = none) : readO ns = none := by unfold readO; rw [h]
theorem parse_noK {ns : List Nat} (h : pK ns = none) : parse ns = none := by unfold parse; rw [h]; rfl
theorem parse_noT {ns : List Nat} {k a : Nat} (h : pK ns = some (k, a)) (ht : pT ns k a = none) : parse ns = none := by unfold parse; rw [h, Option.bind_some, ht]; rfl
theorem parse_noN {ns : List Nat} {k a a2 : Nat} {nm : List Nat} (h : pK ns = some (k, a)) (ht : pT ns k a = some (nm, a2)) (hn : pN ns (numL (k : Int)).length a2 [] = none) : parse ns = none := by unfold parse; rw [h, Option.bind_some, ht, Option.bind_some, hn]; rfl
theorem parse_noO {ns : List Nat} {k a a2 a3 : Nat} {nm l : List Nat} (h : pK ns = some (k, a)) (ht : pT ns k a = some (nm, a2)) (hn : pN ns (numL (k : Int)).length a2 [] = some (l, a3)) (ho : pO ns k a3 = none) : parse ns = none := by unfold parse; rw [h, Option.bind_some, ht, Option.bind_some, hn, Option.bind_some, ho]; rfl
theorem parse_is {ns : List Nat} {k a a2 a3 a4 : Nat} {nm l : List Nat} {fs : List (Nat × Int)} (h : pK ns = some (k, a)) (ht : pT ns k a = some (nm, a2)) (hn : pN ns (numL (k : Int)).length a2 [] = some (l, a3)) (ho : pO ns k a3 = some (fs, a4)) : parse ns = some (mkO k nm l fs, a4) := by unfold parse; rw [h, Option.bind_some, ht, Option.bind_some, hn, Option.bind_some, ho]; rfl
theorem pK_none {ns : List Nat} (h : nxt ns 0 = none) : pK ns = none := by unfold pK; rw [h]
theorem pK_bad {ns : List Nat} {k a : Nat} (h : nxt ns 0 = some (k, a)) (hk : ¬ (1 ≤ k ∧ k ≤ 6)) : pK ns = none := by unfold pK; rw [h]; simp only; rw [if_neg hk]
theorem pK_some {ns : List Nat} {k a : Nat} (h : nxt ns 0 = some (k, a)) (hk : 1 ≤ k ∧ k ≤ 6) : pK ns = some (k, a) := by unfold pK; rw [h]; simp only; rw [if_pos hk]
theorem conv_row8 {w : World} {ao : Option Addr} {cap : Nat} {ns : List Nat} (h : Row8 w ao cap ns) : Sem.run Try.prog (convert 30 9 (.slice ao ns.length cap)) w = .ok (.string (bstr ns)) w := by
  by_cases e : ns = []
  · subst e
    exact convert_zero w ao cap
  · obtain ⟨b, off, rfl, -, q⟩ := h.bytes e
    exact conv28 w b off cap ns q
set_option maxRecDepth 100000 in
theorem conv_own {w : World} {B : Nat} {v : Value} {l : List Nat} (h : w.ownsRow B 5 1 v l.length (u8L l)) : Sem.run Try.prog (convert 30 9 v) w = .ok (.string (bstr l)) w := by
  obtain ⟨p, c, rfl⟩ := own_any h
  by_cases e : l = []
  · subst e
    exact convert_zero w p c
  · have hp := List.length_pos_iff.2 e
    obtain ⟨g, c2, e2, -, -⟩ := h.form (by omega)
    injection e2 with e2 _ e3
    subst e2 e3
    refine conv28 w g 0 c l (fun j hj => ?_)
    rw [Nat.zero_add, h.cellAt j (by omega), List.getElem?_map, List.getD_eq_getElem?_getD, List.getElem?_eq_getElem hj]
    rfl
theorem Row8.below {w w' : World} {ao : Option Addr} {cap : Nat} {ns : List Nat} (h : Row8 w ao cap ns) {B : Nat} (hb : Below B w w') (hB : ∀ ad, ao = some ad → ns ≠ [] → ad.block < B) : Row8 w' ao cap ns :=
  ⟨h.nil, fun e => by
    obtain ⟨b, off, e1, h1, h2⟩ := h.bytes e
    exact ⟨b, off, e1, Nat.lt_of_lt_of_le h1 hb.size, fun j hj => cell_stay (h2 j hj) (hb.block b (hB _ e1 e))⟩, h.small, h.len, h.cap_le⟩
theorem bstr_inj {a b : List Nat} (ha : ∀ x ∈ a, x < 256) (hb : ∀ x ∈ b, x < 256) (h : (bstr a).toList = (bstr b).toList) : a = b := by
  rw [bstr_list, bstr_list] at h
  have q := congrArg (List.map UInt8.toNat) h
  unfold u8s at q
  rw [List.map_map, List.map_map] at q
  have e : ∀ l : List Nat, (∀ x ∈ l, x < 256) → l.map (UInt8.toNat ∘ UInt8.ofNat) = l := fun l hl => by
    refine (List.map_congr_left (fun x hx => ?_)).trans (List.map_id l)
    have := hl x hx
    simp; omega
  rwa [e a ha, e b hb] at q
theorem formO_lt {o : Ord} (hr : OrdR o) (hk : o.kind ≤ 6) (hc : chk o = true) : ∀ b ∈ formO o, b < 256 := by
  have ct := (chk_iff o).1 hc
  have fl : ∀ x : Nat, x < 18446744073709551616 → ∀ b ∈ form x, b < 256 := fun x hx => form_lt' hx
  have nf : ∀ j, ∀ b ∈ numF o j, b < 256 := fun j b hb => fl _ (by have := hr.n1 j; omega) b hb
  intro b hb
  rw [formO_eq] at hb
  rcases List.mem_append.1 hb with hb | hb
  · rcases List.mem_append.1 hb with hb | hb
    · rcases List.mem_append.1 hb with hb | hb
      · exact fl _ (by omega) b hb
      · split at hb
        · unfold text at hb
          rcases List.mem_append.1 hb with hb | hb
          · exact fl _ (by rw [bstr_size]; have := ct.nl; omega) b hb
          · exact sb_lt _ b hb
        · cases hb
    · obtain ⟨j, -, hj⟩ := List.mem_flatMap.1 hb
      exact nf j b hj
  · split at hb
    · unfold offsF at hb
      rcases List.mem_append.1 hb with hb | hb
      · exact fl _ (by have := ct.ol; omega) b hb
      · obtain ⟨x, hx, hj⟩ := List.mem_flatMap.1 hb
        unfold offF at hj
        have q := hr.o1 x hx
        rcases List.mem_append.1 hj with hj | hj
        · exact fl _ (by omega) b hj
        · exact fl _ (by omega) b hj
    · cases hb
end Go.Proofs.Ytalnipjaekpbhaa

