import Derived.Deep.AppendLies
import Derived.Maps.AppendAt
import Derived.Test.YtajkgecegefnmaaWg
namespace Go.Proofs.Ytajkgecegefnmaa
open Go.ChangeShapes Go.WideShapes Go.ChangeAt Go.RowKit Go.Deep
set_option linter.unusedSimpArgs false
set_option linter.unusedVariables false

/-- a slice of asks that came in -/
structure RowQ (w : World) (so : Option Addr) (qs : List (Int × Int)) : Prop where
  cells : qs ≠ [] → ∃ b off, so = some ⟨b, off, none⟩ ∧ b < w.heap.size ∧ ∀ i, i < qs.length → w.cell? ⟨b, off + i * 2, none⟩ = some (.int .i64 (qs.getD i (0, 0)).1) ∧ w.cell? ⟨b, off + i * 2 + 1, none⟩ = some (.int .i64 (qs.getD i (0, 0)).2)
  fits : ∀ q ∈ qs, q.2 ≤ 9223372036854775807
  len : qs.length ≤ maxLen
theorem RNil.only {w w' : World} {g gm : Nat} (k : RNil w g) (ho : Only gm w w') (h : g ≠ gm) : RNil w' g :=
  ⟨Nat.lt_of_lt_of_le k.1 ho.size, fun o => (World.cell?_of_block (ho.block g k.1 h)).trans (k.2.1 o), fun o => (World.frozen?_of_block (ho.block g k.1 h)).trans (k.2.2 o)⟩
theorem RObj.only0 {w w' : World} {g b off cap gm : Nat} {a : Nat} (k : RObj w g b off cap [] a) (ho : Only gm w w') (h : g ≠ gm) : RObj w' g b off cap [] a := by
  obtain ⟨r1, r2, r3, r4, r5, r6, r7, r8, r9, r10⟩ := k
  exact ⟨Nat.lt_of_lt_of_le r1 ho.size, fun o => (World.cell?_of_block (ho.block g r1 h)).trans (r2 o), fun o => (World.frozen?_of_block (ho.block g r1 h)).trans (r3 o), Nat.lt_of_lt_of_le r4 ho.size, r5, fun j hj => by simp at hj, r7, r8, r9, r10⟩
theorem NewReader_far (ao : Option Addr) (cap : Nat) (ns : List Nat) (w : World) (h : Row8 w ao cap ns) : Calls Try.prog 19 #[.slice ao ns.length cap] w (fun e w' => ∃ g, e = .returned (.pointer (some ⟨g, 0, none⟩)) ∧ w.heap.size ≤ g ∧ g < w'.heap.size ∧ Below w.heap.size w w' ∧ ∀ wa wb gm, Below w'.heap.size w' wa → Only gm wa wb → gm < w.heap.size → RAny wb g w'.heap.size ns 0) := by
  by_cases hn : ns = []
  · subst hn
    refine (NewReader_any ao cap [] w h).mono ?_
    rintro e w' ⟨g, rfl, hg, hb, hR⟩
    refine ⟨g, rfl, hg, hR.cells.1, hb, fun wa wb gm hba ho hgm => ?_⟩
    obtain ⟨hB, ⟨b, off, c, hb2, k⟩ | ⟨k, _, _⟩⟩ := hR.below hba
    · exact ⟨Nat.le_trans hB ho.size, .inl ⟨b, off, c, hb2, k.only0 ho (by omega)⟩⟩
    · exact ⟨Nat.le_trans hB ho.size, .inr ⟨k.only ho (by omega), rfl, rfl⟩⟩
  · obtain ⟨b, off, rfl, hb, hc⟩ := h.bytes hn
    refine (NewReader_some ns b off cap w (List.length_pos_iff.2 hn) (by have := h.len; omega) h.small hc hb).mono ?_
    rintro e w' ⟨g, b2, cap2, rfl, hg, hb2, hbel, hR⟩
    refine ⟨g, rfl, hg, hR.1, hbel, fun wa wb gm hba ho hgm => ?_⟩
    have k := hR.below hba
    exact ⟨Nat.le_trans hba.size ho.size, .inl ⟨b2, 0, cap2, hR.2.2.2.1, k.same ho.size (ho.block g k.1 (by omega)) (ho.block b2 k.2.2.2.1 (by omega))⟩⟩
theorem conv_row8 {w : World} {ao : Option Addr} {cap : Nat} {ns : List Nat} (h : Row8 w ao cap ns) : Sem.run Try.prog (convert 28 9 (.slice ao ns.length cap)) w = .ok (.string (bstr ns)) w := by
  by_cases hn : ns = []
  · subst hn; exact convert_zero w ao cap
  · obtain ⟨b, off, rfl, hb, hc⟩ := h.bytes hn
    exact conv28 w b off cap ns hc
theorem Row8.below {w w' : World} {ao : Option Addr} {cap : Nat} {ns : List Nat} (h : Row8 w ao cap ns) (hb : Below w.heap.size w w') : Row8 w' ao cap ns :=
  ⟨h.nil, fun hn => by
    obtain ⟨b, off, h1, h2, h3⟩ := h.bytes hn
    exact ⟨b, off, h1, Nat.lt_of_lt_of_le h2 hb.size, fun j hj => (hb.cell (p := ⟨b, off + j, none⟩) h2).trans (h3 j hj)⟩, h.small, h.len, h.cap_le⟩
theorem below_only2 {w0 w w' : World} {g h : Nat} (hb : Below w0.heap.size w0 w) (k : Only2 g h w w') (hg : w0.heap.size ≤ g) (hh : w0.heap.size ≤ h) : Below w0.heap.size w0 w' :=
  hb.trans ⟨k.1, k.2.1, k.2.2.1, k.2.2.2.1, fun i hi => k.2.2.2.2 i (by have := hb.size; omega) (by omega) (by omega)⟩
theorem row_add {w : World} {b off : Nat} {ns : List Nat} (hb : ∀ j, j < ns.length → w.cell? ⟨b, off + j, none⟩ = some (.int .u8 (ns.getD j 0 : Int))) : ∀ j u, (ns.map (fun (b : Nat) => Value.int .u8 (b : Int)))[j]? = some u → w.cell? ((⟨b, off, none⟩ : Addr).add j) = some u := fun j u hu => by
  rw [List.getElem?_map] at hu
  cases e : ns[j]? with
  | none => rw [e] at hu; cases hu
  | some x =>
    rw [e] at hu
    have hj : j < ns.length := (List.getElem?_eq_some_iff.1 e).1
    have q := hb j hj
    have ha : (⟨b, off, none⟩ : Addr).add j = ⟨b, off + j, none⟩ := by
      unfold Addr.add
      split
      · (rename_i h; subst h; rfl)
      · rfl
    rw [ha, q, ← hu]
    simp [List.getD, e]
theorem own_at {w : World} {base g cap n : Nat} {e : TypeId} {xs : List Value} (own : w.ownsRow base e 1 (.slice (some ⟨g, 0, none⟩) n cap) n xs) (hn : 0 < n) : base ≤ g ∧ g < w.heap.size ∧ n ≤ cap ∧ (∀ j, j < n → w.cell? ⟨g, j, none⟩ = xs[j]?) ∧ ∀ j, w.frozen? ⟨g, j, none⟩ = false := by
  obtain ⟨g', cap', hv, h1, h2, h3, h4, h5⟩ := own_form own hn
  obtain ⟨rfl, rfl⟩ : g = g' ∧ cap = cap' := by (injection hv with e1 e2 e3; injection e1 with e1; injection e1 with e4; exact ⟨e4, e3⟩)
  exact ⟨h1, h2, h3, h4, h5⟩

set_option maxRecDepth 100000 in
set_option maxHeartbeats 8000000 in
theorem WireReads_c (ao so : Option Addr) (cap scap : Nat) (ns : List Nat) (qs : List (Int × Int)) (w : World) (hb : Row8 w ao cap ns) (hq : RowQ w so qs) (hl1 : ns.length ≤ 1048576) : Calls Try.prog 6 #[.slice ao ns.length cap, .slice so qs.length scap] w (fun e w' => e = .returned (.bool true) ∧ Below w.heap.size w w') := by
  obtain ⟨i0, hi0, hz0, hz1, hz2⟩ := info_parts info5
  have HB8 := hide hb
  have HQ := hide hq
  have hlen := hb.len
  have hql := hq.len
  unfold maxLen at hql
  have hcapl := hb.cap_le
  clear hb hq
  go_enter Try.func6, Try.ntmps6
  go_upto_region 1 with fail
  go_cut [5] (fun v5 wx => ∃ gm cm, v5 = .slice (some ⟨gm, 0, none⟩) (ns.length + 1) cm ∧ wx.ownsRow w.heap.size 5 1 (.slice (some ⟨gm, 0, none⟩) (ns.length + 1) cm) (ns.length + 1) ((ns ++ [165]).map (fun (b : Nat) => Value.int .u8 (b : Int))) ∧ Below w.heap.size w wx)
  case first =>
    by_cases hn : ns = []
    · subst hn
      go_wp2_with (first
        | (at_builtin; refine wpList_append_empty _ rfl (.const (.slice none 0 0)) (.tmp 9) 28 rfl 5 i0 (.int .u8 0) 1 1 Try.underlying28 hi0 hz0 hz1 hz2 rfl (by decide) rfl ao 0 cap rfl rfl (fun h => by obtain ⟨_, e⟩ := HB8.out.nil h; exact e) ?_; intro wa hga)
        | (at_builtin; refine wpList_append_lies _ rfl (.tmp 10) (.tmp 11) 28 rfl w.heap.size 5 i0 (.int .u8 0) 1 1 Try.underlying28 hi0 hz0 hz1 hz2 rfl (by decide) (.slice none 0 0) 0 [] rfl (World.ownsRow_nil _ _ _ _) ⟨wa.heap.size, 0, none⟩ 1 1 [.int .u8 165] rfl rfl (cell_one_new _ _ _) (by intro u hu; simp at hu; subst hu; rfl) (by decide) (by unfold maxLen; omega) (by omega) (by (have := hga.size; simp; omega)) _ rfl ?_; intro g2 cap2 wn hown2 hg2 hgg hgl))
      go_meet
      have hbA : Below w.heap.size w wa := below_grown (Below.refl _ _) hga (fun k e => by cases e) (Nat.le_refl _)
      exact ⟨g2, cap2, rfl, hown2, below_grown (Below.alloc hbA hbA.size _) hg2 (fun k e => by cases e) (by (have := hbA.size; simp; omega))⟩
    · obtain ⟨b, off, rfl, hbz, hc⟩ := HB8.out.bytes hn
      have hpos : 0 < ns.length := List.length_pos_iff.2 hn
      have HC := hide (row_add hc)
      clear hc
      go_wp2_with (first
        | (at_builtin; refine wpList_append_lies _ rfl (.const (.slice none 0 0)) (.tmp 9) 28 rfl w.heap.size 5 i0 (.int .u8 0) 1 1 Try.underlying28 hi0 hz0 hz1 hz2 rfl (by decide) (.slice none 0 0) 0 [] rfl (World.ownsRow_nil _ _ _ _) ⟨b, off, none⟩ ns.length cap (ns.map (fun (b : Nat) => Value.int .u8 (b : Int))) rfl (by simp) HC.out (u8_one _) hpos (by unfold maxLen; omega) (by omega) (Nat.le_refl _) _ rfl ?_; intro ga capa wa owna0 hga hgga hgla; have owna : wa.ownsRow w.heap.size 5 1 (.slice (some ⟨ga, 0, none⟩) ns.length capa) ns.length (ns.map (fun (b : Nat) => Value.int .u8 (b : Int))) := (by (have q := owna0; rw [Nat.zero_add, List.nil_append] at q; exact q)); clear owna0)
        | (at_builtin; refine wpList_append_lies _ rfl (.tmp 10) (.tmp 11) 28 rfl w.heap.size 5 i0 (.int .u8 0) 1 1 Try.underlying28 hi0 hz0 hz1 hz2 rfl (by decide) (.slice (some ⟨ga, 0, none⟩) ns.length capa) ns.length (ns.map (fun (b : Nat) => Value.int .u8 (b : Int))) rfl (owna.alloc _) ⟨wa.heap.size, 0, none⟩ 1 1 [.int .u8 165] rfl rfl (cell_one_new _ _ _) (by intro u hu; simp at hu; subst hu; rfl) (by decide) (by unfold maxLen; omega) (by omega) (by (have := hga.size; simp; omega)) _ rfl ?_; intro g2 cap2 wn hown2 hg2 hgg hgl))
      go_meet
      have hbA : Below w.heap.size w wa := below_grown (Below.refl _ _) hga (fun k e => by cases e) (Nat.le_refl _)
      have hga0 : w.heap.size ≤ ga := (owna.lt ga rfl).1
      refine ⟨g2, cap2, rfl, ?_, below_grown (Below.alloc hbA hbA.size _) hg2 (fun k e => by (have e2 : ga = k := Option.some.inj e); omega) (by (have := hbA.size; simp; omega))⟩
      rw [List.map_append]
      exact hown2
  case rest =>
    obtain ⟨gm, cm, rfl, hown, hbx⟩ := hcut
    obtain ⟨hgm0, hgmz, hcm, hmc, hmf⟩ := own_at hown (by omega)
    have hzx := hbx.size
    have HM8 := hide (show Row8 wc (some ⟨gm, 0, none⟩) cm ns from ⟨(fun e => by cases e), fun _ => ⟨gm, 0, rfl, hgmz, fun j hj => by (rw [Nat.zero_add, hmc j (by omega)]; simp [List.getElem?_append_left, hj, List.getD])⟩, HB8.out.small, HB8.out.len, by omega⟩)
    have HMC := hide hmc
    have HMF := hide hmf
    have HBX := hide hbx
    clear hmc hmf hown hbx
    go_wp2_with fail
    refine (NewReader_far (some ⟨gm, 0, none⟩) cm ns _ HM8.out).mono ?_
    rintro e w1 ⟨g, rfl, hg, hgz, hb1, hfar⟩
    have HFAR := hide hfar
    have hA : Below w1.heap.size w1 (w1.alloc (.cells #[.slice ao ns.length cap, .int .i64 0] 39)) := by (focus repeat' (first | (with_reducible exact Below.refl _ _) | (with_reducible assumption) | (with_reducible refine Below.alloc ?_ ?_ _) | (with_reducible refine Below.drew ?_) | (with_reducible refine bdrewN ?_ _) | (with_reducible refine Below.setCell ?_ ?_ _) | (first | (with_reducible exact Nat.le_refl _) | (with_reducible assumption) | omega | (simp; omega) | (simp; done))))
    have hz1 := hb1.size
    obtain ⟨wA, hwA⟩ : ∃ wA, wA = w1.alloc (.cells #[.slice ao ns.length cap, .int .i64 0] 39) := ⟨_, rfl⟩
    have hbxA := bstep hb1 hA
    have hbwA := bstep HBX.out hbxA
    rw [← hwA] at hA hbxA hbwA
    have HD2 := hide (show DObj wA w1.heap.size ao cap ns 0 from ⟨by (rw [hwA]; simp), fun o => by (rw [hwA]; simp [go_sem]), fun o => by (rw [hwA]; simp [go_sem]), fun hn => by
      obtain ⟨b, off, h1, h2, h3⟩ := HB8.out.bytes hn
      exact ⟨b, off, h1, by (have := hbwA.size; omega), by omega, fun j hj => (hbwA.cell (p := ⟨b, off + j, none⟩) h2).trans (h3 j hj)⟩, HB8.out.small, Nat.zero_le _, by omega, hcapl⟩)
    have CV1 : ∀ k, Sem.run Try.prog (convert 28 9 (.slice (some ⟨gm, 0, none⟩) ns.length cm)) (wA.drewN k) = .ok (.string (bstr ns)) (wA.drewN k) := fun k => conv_row8 (HM8.out.below (bdrewN hbxA k))
    have CV2 : ∀ k, Sem.run Try.prog (convert 28 9 (.slice ao ns.length cap)) (wA.drewN k) = .ok (.string (bstr ns)) (wA.drewN k) := fun k => conv_row8 (HB8.out.below (bdrewN hbwA k))
    have cEnd : wA.cell? ⟨gm, ns.length, none⟩ = some (.int .u8 165) := (hbxA.cell (p := ⟨gm, ns.length, none⟩) hgmz).trans ((HMC.out ns.length (by omega)).trans (by simp))
    have HA := hide hA
    have HBXA := hide hbxA
    have HBWA := hide hbwA
    have HWA := hide hwA
    clear hA hfar hb1 hbxA hbwA hwA
    generalize hst : bstr ns = st at *
    clear hst
    go_wp2_with fail
    rw [← HWA.out]
    go_quiet (fail)
    have hBXq := bdrewN HBXA.out nq
    have hBWq := bdrewN HBWA.out nq
    have hB1A : Below w1.heap.size w1 (wA.drewN nq) := bdrewN HA.out nq
    have HBXq := hide hBXq
    have HBWq := hide hBWq
    have HB1q := hide hB1A
    have HD3 := hide (HD2.out.below (bdrewN (Below.refl wA.heap.size wA) nq))
    have hgmq : gm < (wA.drewN nq).heap.size := Nat.lt_of_lt_of_le hgmz hBXq.size
    clear hBXq hBWq hB1A CV1 CV2 cEnd HD2
    go_wp2_with fail
    refine (spoil_c gm 0 (ns.length + 1) cm _ hgmq (by omega) (fun j hj => ?_)).mono ?_
    · have hjl : j < ((ns ++ [165]).map (fun (b : Nat) => Value.int .u8 (b : Int))).length := by (simp; omega)
      refine ⟨((ns ++ [165]).map (fun (b : Nat) => Value.int .u8 (b : Int)))[j], ?_, ?_⟩
      · rw [Nat.zero_add]
        exact (HBXq.out.cell (p := ⟨gm, j, none⟩) hgmz).trans ((HMC.out j hj).trans (List.getElem?_eq_getElem hjl))
      · rw [Nat.zero_add]
        exact (HBXq.out.frozen (p := ⟨gm, j, none⟩) hgmz).trans (HMF.out j)
    rintro e w4 ⟨⟨u, rfl⟩, ho4⟩
    have HR4 := hide (HFAR.out _ w4 gm HB1q.out ho4 hgmz)
    have haog := hide (show ∀ ad, ao = some ad → ns ≠ [] → ad.block < w.heap.size from fun ad had hn => by
      obtain ⟨b, off, h1, h2, _⟩ := HB8.out.bytes hn
      rw [h1] at had; cases had; exact h2)
    have HD4 := hide (HD3.out.only' ho4 (by omega) (fun ad had hn => by have := haog.out ad had hn; omega))
    have HL4 := hide (below_only HBWq.out ho4 hgm0)
    have hhw : w.heap.size ≤ w1.heap.size := by omega
    have hgw : w.heap.size ≤ g := by omega
    have hgh : g ≠ w1.heap.size := by omega
    have hag := hide (show ∀ ad, ao = some ad → ns ≠ [] → ad.block ≠ g from fun ad had hn => by have := haog.out ad had hn; omega)
    clear ho4 HD3 HBXq HBWq HB1q
    go_wp2_with fail
    go_loopw [8] (fun v8 wr => ∃ (i a : Nat), i ≤ qs.length ∧ v8 = .int .i64 (i : Int) ∧ Only2 g w1.heap.size w4 wr ∧ RAny wr g w1.heap.size ns a ∧ DObj wr w1.heap.size ao cap ns a) (fun v8 _ => qs.length - (intOf v8).toNat)
    case atStart => exact ⟨0, 0, Nat.zero_le _, rfl, Only2.of_below (Below.refl _ _), HR4.out, HD4.out⟩
    case round =>
      obtain ⟨i, a, hi, rfl, hO, hRr, hDr⟩ := hrel
      have HOr := hide hO
      have HRr := hide hRr
      have HDr := hide hDr
      clear hO hRr hDr HR4 HD4
      by_cases hlt : i < qs.length
      · have hi1 : (i : Int) < (qs.length : Int) := by omega
        obtain ⟨sb, soff, rfl, hsb, hsc⟩ := HQ.out.cells (by (intro e; rw [e] at hlt; simp at hlt))
        have hs4 : sb < w4.heap.size := Nat.lt_of_lt_of_le hsb HL4.out.size
        have q1 := (HOr.out.cell (p := ⟨sb, soff + i * 2, none⟩) hs4 (show sb ≠ g by omega) (show sb ≠ w1.heap.size by omega)).trans ((HL4.out.cell (p := ⟨sb, soff + i * 2, none⟩) hsb).trans (hsc i hlt).1)
        have q2 := (HOr.out.cell (p := ⟨sb, soff + i * 2 + 1, none⟩) hs4 (show sb ≠ g by omega) (show sb ≠ w1.heap.size by omega)).trans ((HL4.out.cell (p := ⟨sb, soff + i * 2 + 1, none⟩) hsb).trans (hsc i hlt).2)
        have hnn : (qs.getD i (0, 0)).2 ≤ 9223372036854775807 := HQ.out.fits _ (by (have e : qs.getD i (0, 0) = qs[i] := by simp [List.getD, hlt]); rw [e]; exact List.getElem_mem hlt)
        clear hsc
        generalize (qs.getD i (0, 0)).1 = kd at *
        generalize (qs.getD i (0, 0)).2 = nn at *
        have HNN := hide hnn
        clear hnn
        go_wp2_with fail
        go_region_with (first
          | (go_at_call 30; (apply Calls.mono; focus (exact (asks_c g w1.heap.size w1.heap.size cap ao ns a kd nn _ (HRr.out.below (drewB _)) (HDr.out.below (drewB _)) hgh (Nat.le_refl _) hag.out hlen HNN.out))); rintro e w6 ⟨a6, rfl, ho6, hR6, hD6⟩; have HR6 := hide hR6; have HD6 := hide hD6; have O6 := hide (HOr.out.trans ((Only2.of_below (drewB _)).trans ho6)); obtain ⟨l1, l2, l3, _, _, _, _, _⟩ := hD6; clear ho6 hR6)
          | (go_at_call 24; (apply Calls.mono; focus (exact (Place_q g w1.heap.size ns a6 _ HR6.out))); rintro e w7 ⟨rfl, hw7⟩; have hw8 := hw7.symm; clear hw7; subst hw8)
          | (go_at_call 31; (apply Calls.mono; focus (exact (Left_any g w1.heap.size ns a6 _ (HR6.out.below (by first | exact Below.refl _ _ | exact HB25))))); rintro e w31 ⟨rfl, hb31⟩; have HB31 : Below w6.heap.size w6 w31 := (by first | exact hb31 | exact bstep HB25 hb31))
          | (go_at_call 25; (apply Calls.mono; focus (exact (dLeft_c w1.heap.size cap ao ns a6 _ (HD6.out.below (by first | exact Below.refl _ _ | exact HB31))))); rintro e w25 ⟨rfl, hb25⟩; have HB25 : Below w6.heap.size w6 w25 := (by first | exact hb25 | exact bstep HB31 hb25)))
        all_goals
          go_wp2
          go_roundw
          case rel => exact ⟨i + 1, a6, by omega, by go_num, O6.out.trans (Only2.of_below (by first | exact HB25 | exact HB31)), HR6.out.below (by first | exact HB25 | exact HB31), HD6.out.below (by first | exact HB25 | exact HB31)⟩
          case measure => (first | (simp [intOf]; done) | (simp [intOf]; omega))
      · have hi1 : ¬ (i : Int) < (qs.length : Int) := by omega
        have HLr := hide (below_only2 HL4.out HOr.out hgw hhw)
        go_wp2_with (go_at_call 10; refine (known_c _).mono ?_; rintro e w9 ⟨rfl, hb9⟩; have HL9 := hide (bstep HLr.out hb9); clear hb9)
        go_ret
        exact ⟨rfl, HL9.out⟩
end Go.Proofs.Ytajkgecegefnmaa
