/- Contracts of the layer's functions, each proved once, in the order in which they are used. No condition beyond each theorem's own. -/
import Derived.Deep.AppendLies
import Derived.Laws.AppendOwnNone
import Derived.Deep.RegionHeldLaw
import Derived.Test.YtajkgecegefnmaaMh
namespace Go.Proofs.Ytajkgecegefnmaa
open Go.ChangeShapes Go.WideShapes Go.ChangeAt Go.RowKit Go.Deep
set_option linter.unusedSimpArgs false
set_option linter.unusedVariables false

set_option maxRecDepth 100000 in
set_option maxHeartbeats 8000000 in
theorem WireWrites_a (so : Nat → Option Addr) (cap : Nat → Nat) (R : Nat → List PutA) (w : World) (hR : ∀ k, k < 2 → PRow w (so k) (R k)) : Calls Try.prog 5 #[.slice (so 0) (R 0).length (cap 0), .slice (so 1) (R 1).length (cap 1)] w (fun e w' => e = .returned (.bool true) ∧ Below w.heap.size w w') := by
  have HR := hide hR
  have hl0 := (hR 0 (by decide)).len
  have hl1 := (hR 1 (by decide)).len
  have HLN := hide (fun i k j (hj : j < 2) => sK_len R i k j (hR j hj).each (hR j hj).bulk (hR j hj).len)
  clear hR
  go_enter Try.func5, Try.ntmps5
  go_wp2_with fail
  refine (NewWriter_c _).mono ?_
  rintro e w1 ⟨g0, rfl, hg, hb1, hW1⟩
  have HW1 := hide hW1
  have HB1 := hide hb1
  have hz1 := hb1.size
  have hg1 := hW1.1
  clear hW1 hb1
  go_wp2_with fail
  obtain ⟨wB, hwB⟩ : ∃ wB, wB = ((((w1.alloc (Obj.cells #[Value.slice none 0 0] 52)).alloc (Obj.cells #[Value.pointer (some ⟨g0, 0, none⟩), Value.pointer (some ⟨w1.heap.size, 0, none⟩)] 53)).alloc (Obj.cells #[Value.slice (so 0) (R 0).length (cap 0), Value.slice (so 1) (R 1).length (cap 1)] 54)).alloc (Obj.cells #[Value.slice none 0 0, Value.slice none 0 0] 55)) := ⟨_, rfl⟩
  rw [← hwB]
  have hb4 : Below w1.heap.size w1 wB := by rw [hwB]; (focus repeat' (first | (with_reducible exact Below.refl _ _) | (with_reducible assumption) | (with_reducible refine Below.alloc ?_ ?_ _) | (with_reducible refine Below.drew ?_) | (with_reducible refine bdrewN ?_ _) | (with_reducible refine Below.setCell ?_ ?_ _) | (first | (with_reducible exact Nat.le_refl _) | (with_reducible assumption) | omega | (simp; omega) | (simp; done))))
  have HS := hide (show St w wB (w1.heap.size + 1) (w1.heap.size + 2) (w1.heap.size + 3) so R cap (fun k => if k = 0 then g0 else w1.heap.size) (fun _ => .slice none 0 0) (fun _ => .slice none 0 0) (sK R 0 0) (sK R 0 0) from
    St.start (HB1.out.trans (hb4.mono hz1)) hz1 hg hg1 (by rw [hwB]; simp) (HW1.out.below hb4) ⟨by (rw [hwB]; simp; omega), by (rw [hwB]; simp [go_sem]), by (rw [hwB]; simp [go_sem]), World.ownsRow_nil _ _ _ _, by simp [Value.ownBlock], fun _ => rfl⟩
      (by (rw [hwB]; simp [go_sem])) (by (rw [hwB]; simp [go_sem])) (by (rw [hwB]; simp [go_sem])) (by (rw [hwB]; simp [go_sem])) (by (rw [hwB]; simp [go_sem])) (by (rw [hwB]; simp [go_sem])) (fun o => by (rw [hwB]; simp [go_sem])))
  clear hwB hb4
  generalize hg' : (fun k => if k = 0 then g0 else w1.heap.size) = g at HS
  rw [show w1.heap.size + 1 + 1 = w1.heap.size + 2 from rfl, show w1.heap.size + 2 + 1 = w1.heap.size + 3 from rfl]
  generalize w1.heap.size + 1 = A at *
  generalize w1.heap.size + 2 = L at *
  generalize w1.heap.size + 3 = Q at *
  clear hg' HW1 HB1 hz1 hg1 hg
  go_loopw [8] (fun v8 wr => ∃ (i : Nat) (v q : Nat → Value), i ≤ (R 0).length + (R 1).length ∧ v8 = .int .i64 (i : Int) ∧ St w wr A L Q so R cap g v q (sK R i 0) (sK R i 0)) (fun v8 _ => (R 0).length + (R 1).length - (intOf v8).toNat)
  case atStart => exact ⟨0, _, _, Nat.zero_le _, rfl, HS.out⟩
  case round =>
    obtain ⟨i, v, q, hi, rfl, hS⟩ := hrel
    have HSr := hide hS
    clear hS HS
    by_cases hlt : i < (R 0).length ∨ i < (R 1).length
    · have hor : (i : Int) < ((R 0).length : Int) ∨ ¬ (i : Int) < ((R 0).length : Int) ∧ (i : Int) < ((R 1).length : Int) := by omega
      have hii : i < (R 0).length + (R 1).length := by omega
      go_upto_region 7 with fail
      go_cut [33] (fun v33 wx => v33 = .bool true ∧ wx = wr)
      case first =>
        rcases hor with h | ⟨h, h'⟩
        · go_wp2
          go_meet
          exact ⟨rfl, rfl⟩
        · go_wp2
          go_meet
          exact ⟨rfl, rfl⟩
      case rest =>
        obtain ⟨rfl, rfl⟩ := hcut
        go_wp2_with fail
        go_loopw [9] (fun v9 ws => ∃ (k : Nat) (v q : Nat → Value), k ≤ 2 ∧ v9 = .int .i64 (k : Int) ∧ St w ws A L Q so R cap g v q (sK R i k) (sK R i k)) (fun v9 _ => 2 - (intOf v9).toNat)
        case atStart => exact ⟨0, v, q, by decide, rfl, HSr.out⟩
        case round =>
          obtain ⟨k, v, q, hk, rfl, hS⟩ := hrel
          have HSk := hide hS
          clear hS HSr
          by_cases hk2 : k < 2
          · have hk3 : (k : Int) < 2 := by omega
            have cL := HSk.out.cL k hk2
            by_cases hstop : (R k).length ≤ i
            · have hst' : ((R k).length : Int) ≤ (i : Int) := by omega
              go_wp2
              go_roundw
              case rel => exact ⟨k + 1, v, q, by omega, by go_num, HSk.out.congr (fun j _ => sK_stop R i k j hstop) (fun j _ => sK_stop R i k j hstop)⟩
              case measure => (first | (simp [intOf]; done) | (simp [intOf]; omega))
            · have hst' : ¬ ((R k).length : Int) ≤ (i : Int) := by omega
              have hik : i < (R k).length := by omega
              have hik' : (i : Int) < ((R k).length : Int) := by omega
              obtain ⟨b, off, hso0, hbz, hbc⟩ := (HR.out k hk2).cells (by intro e; rw [e] at hik; simp at hik)
              have HSO := hide hso0
              have HC0 := hide (hbc i hik)
              have HOK := hide ((HR.out k hk2).each _ (getD_mem hik))
              have HBK := hide (Nat.le_trans (psum_mem (getD_mem hik)) (HR.out k hk2).bulk)
              have HNX := hide (sK_next R i k hik)
              rw [hso0] at cL
              clear hbc hso0
              generalize (R k).getD i PutA.none = p at *
              have HC := hide (fun c hc => HC0.out c hc)
              obtain ⟨qa, qc, hqk⟩ := own_any (HSk.out.O k hk2)
              have HQK := hide hqk
              clear hqk HC0
              have hQl := HSk.out.lt 8 Q rfl
              have hsl := HLN.out i k k hk2
              have hBw := HSk.out.low.size
              go_wp2_with fail
              go_cut [9] (fun v9 wx => v9 = .int .i64 (k : Int) ∧ ∃ q', St w wx A L Q so R cap g v q' (sK R i k) (upd (sK R i k) k (sK R i k k ++ p.form)))
              case first =>
                by_cases hz : p.form = []
                · have hfl := form_size (HOK.out)
                  have HB2 := hide (HBK.out)
                  have hbk := HBK.out
                  obtain ⟨i0, hi0, hz0, hz1, hz2⟩ := info_parts info5
                  obtain ⟨_, fl, fq, ff, f0, f1, f2, f3, f4⟩ := St.load HSk.out hk2 HSO.out hbz HC.out (grown_of (Below.refl _ _)) HQK.out
                  go_region_law
                    (first
                      | (refine step_append_none rfl _ _ 28 rfl w.heap.size 5 i0 1 Try.underlying28 hi0 (.slice qa (sK R i k k).length qc) (sK R i k k).length ((sK R i k k).map (fun (b : Nat) => Value.int .u8 (b : Int))) (by simp [Act.eval, Act.put]) (by (rw [← HQK.out]; exact HS5.out.O k hk2)) (by simp [Act.eval, Act.put]) ?_)
                      | (go_simp; go_at_call 26; (apply Calls.mono; focus (exact (formD_row p _ (HOK.out.below (HSk.out.below (drewB _)).low) HBK.out))); rintro e w5 ⟨vf, rfl, ownf, hnil, hb5⟩; obtain rfl := hnil hz; have HS5 := hide ((HSk.out.below (drewB _)).below hb5); obtain ⟨_, _, fq5, ff5, _, _, _, _, _⟩ := (St.load HS5.out hk2 HSO.out hbz HC.out (grown_of (Below.refl _ _)) HQK.out); clear ownf hb5))
                  all_goals
                    go_wp2_with fail
                    go_meet
                    refine ⟨rfl, _, HS5.out.append (x := .slice qa (sK R i k k).length qc) hk2 (by (rw [hz, List.append_nil, ← HQK.out]; exact HS5.out.O k hk2)) (grown_of (Below.refl _ _)) (.inl (by rw [HQK.out]))⟩
                · have hpos : 0 < p.form.length := List.length_pos_iff.2 hz
                  have hfl := form_size (HOK.out)
                  have HB2 := hide (HBK.out)
                  have hbk := HBK.out
                  obtain ⟨i0, hi0, hz0, hz1, hz2⟩ := info_parts info5
                  obtain ⟨_, fl, fq, ff, f0, f1, f2, f3, f4⟩ := St.load HSk.out hk2 HSO.out hbz HC.out (grown_of (Below.refl _ _)) HQK.out
                  go_region_law
                    (first
                      | (refine step_append_lies _ rfl _ _ 28 rfl w.heap.size 5 i0 (.int .u8 0) 1 1 Try.underlying28 hi0 hz0 hz1 hz2 rfl (by decide) (.slice qa (sK R i k k).length qc) (sK R i k k).length ((sK R i k k).map (fun (b : Nat) => Value.int .u8 (b : Int))) (by simp [Act.eval, Act.put]) (by (rw [← HQK.out]; exact HS5.out.O k hk2)) ⟨g5, 0, none⟩ p.form.length cap5 (p.form.map (fun (b : Nat) => Value.int .u8 (b : Int))) (by simp [Act.eval, Act.put]) (by simp) (own_cells OF.out) (u8_one _) hpos (by unfold maxLen; omega) (by omega) HS5.out.low.size _ rfl ?_; intro g2 cap2 wn hown2 hg2 hgg hgl; have OX := hide hown2; have GX := hide hg2; have NX := hide hgg; obtain ⟨_, _, fq6, ff6, _, _, _, _, _⟩ := (St.load HS5.out hk2 HSO.out hbz HC.out (by (rw [HQK.out]; exact hg2)) HQK.out); clear hown2 hg2 hgg hgl)
                      | (go_simp; go_at_call 26; (apply Calls.mono; focus (exact (formD_row p _ (HOK.out.below (HSk.out.below (drewB _)).low) HBK.out))); rintro e w5 ⟨vf, rfl, ownf, _, hb5⟩; obtain ⟨g5, cap5, rfl, _⟩ := own_form ownf hpos; have OF := hide ownf; have HS5 := hide ((HSk.out.below (drewB _)).below hb5); obtain ⟨_, _, fq5, ff5, _, _, _, _, _⟩ := (St.load HS5.out hk2 HSO.out hbz HC.out (grown_of (Below.refl _ _)) HQK.out); clear ownf hb5))
                  all_goals
                    go_wp2_with fail
                    go_meet
                    refine ⟨rfl, _, HS5.out.append (x := .slice (some ⟨g2, 0, none⟩) ((sK R i k k).length + p.form.length) cap2) hk2 (by (rw [List.length_append, List.map_append]; exact OX.out)) (by (rw [HQK.out]; exact GX.out)) ?_⟩
                    rw [HQK.out]
                    rcases NX.out with e | e
                    · exact .inl e.symm
                    · exact .inr ⟨g2, rfl, Nat.le_of_eq e.symm⟩
              case rest =>
                obtain ⟨rfl, q2, hS2⟩ := hcut
                have HSc := hide hS2
                clear hS2 HSk HQK cL hQl hBw
                obtain ⟨qa2, qc2, hqk2⟩ := own_any (HSc.out.O k hk2)
                rw [upd_same] at hqk2
                have HQ2 := hide hqk2
                have hbk := HBK.out
                have hgk := HSc.out.ge k _ (blk_at A L Q g v q2 hk2).1
                have HVK := hide (show ∀ d, (v k).ownBlock = some d → w.heap.size ≤ d from fun d hd => HSc.out.ge (2 + k) d (by rw [(blk_at A L Q g v q2 hk2).2.1]; exact hd))
                obtain ⟨fa, fl, fq, _, f0, f1, f2, f3, f4⟩ := St.load HSc.out hk2 HSO.out hbz HC.out (grown_of (Below.refl _ _)) HQ2.out
                have hsl2 : (sK R i k k ++ p.form).length ≤ 18874368 := by
                  have q1 := HLN.out i (k + 1) k hk2
                  rw [← HNX.out k, upd_same] at q1
                  exact q1
                clear hqk2
                go_wp2_with fail
                go_region_with (first
                  | (go_at_call 27; (apply Calls.mono; focus (exact (puts_row p (g k) (v k) (sK R i k k) w _ HOK.out (HSc.out.below (drewB _)).low ((HSc.out.below (drewB _)).W k hk2) hgk HVK.out (by omega)))); rintro e w6 ⟨v6, rfl, hW6, hk6, hn6⟩; have HS6 := hide ((HSc.out.below (drewB _)).write hk2 hW6 hk6 hn6); obtain ⟨fa6, fl6, fq6, _, _, _, _, _, _⟩ := St.load HS6.out hk2 HSO.out hbz HC.out (grown_of (Below.refl _ _)) HQ2.out; clear hW6 hk6 hn6)
                  | (go_at_call 28; (apply Calls.mono; focus (exact (Len_c (g k) v6 (sK R i k k ++ p.form) _ (by (have q := HS6.out.W k hk2); rw [upd_same, upd_same] at q; exact q)))); rintro e w7 ⟨rfl, hb7⟩; have HS7 := hide (HS6.out.below hb7); obtain ⟨fa7, fl7, fq7, _, _, _, _, _, _⟩ := St.load HS7.out hk2 HSO.out hbz HC.out (grown_of (Below.refl _ _)) HQ2.out; clear hb7))
                all_goals
                  go_wp2
                  go_roundw
                  case rel => exact ⟨k + 1, _, q2, by omega, by go_num, HS7.out.congr (fun j _ => HNX.out j) (fun j _ => HNX.out j)⟩
                  case measure => (first | (simp [intOf]; done) | (simp [intOf]; omega))
          · have hk3 : ¬ (k : Int) < 2 := by omega
            obtain rfl : k = 2 := by omega
            go_wp2
            go_roundw
            case rel => exact ⟨i + 1, v, q, by omega, by go_num, HSk.out.congr (fun j hj => (sK_two R i j hj).trans (sK_zero R (i + 1) j).symm) (fun j hj => (sK_two R i j hj).trans (sK_zero R (i + 1) j).symm)⟩
            case measure => (first | (simp [intOf]; done) | (simp [intOf]; omega))
    · have hi1 : ¬ ((i : Int) < ((R 0).length : Int)) := by omega
      have hi2 : ¬ ((i : Int) < ((R 1).length : Int)) := by omega
      have eF : ∀ j, j < 2 → sK R i 0 j = formsP (R j) := fun j hj => by
        rw [sK_zero, List.take_of_length_le]
        rcases Nat.lt_or_ge j 1 with e | e
        · obtain rfl : j = 0 := by omega
          omega
        · obtain rfl : j = 1 := by omega
          omega
      have HF0 := hide (HSr.out.congr eF eF)
      have HFL := hide (fun j hj => show (formsP (R j)).length ≤ 18874368 from by
        have q1 := HLN.out i 0 j hj
        rw [eF j hj] at q1
        exact q1)
      clear HSr eF
      go_wp2_with fail
      go_loopw [10] (fun v10 ws => ∃ (k : Nat), k ≤ 2 ∧ v10 = .int .i64 (k : Int) ∧ St w ws A L Q so R cap g v q (fun j => formsP (R j)) (fun j => formsP (R j))) (fun v10 _ => 2 - (intOf v10).toNat)
      case atStart => exact ⟨0, by decide, rfl, HF0.out⟩
      case round =>
        obtain ⟨k, hk, rfl, hS⟩ := hrel
        have HSk := hide hS
        clear hS HF0
        by_cases hk2 : k < 2
        · have hk3 : (k : Int) < 2 := by omega
          have fa := HSk.out.cA k hk2
          have hfk := HFL.out k hk2
          generalize hF : formsP (R k) = F at *
          go_wp2_with fail
          go_cut [11, 12] (fun v11 v12 wx => wx.ownsRow wr.heap.size 5 1 v11 F.length (F.map (fun (b : Nat) => Value.int .u8 (b : Int))) ∧ wx.ownsRow wr.heap.size 5 1 v12 F.length (F.map (fun (b : Nat) => Value.int .u8 (b : Int))) ∧ (∀ d, v11.ownBlock = some d → v12.ownBlock ≠ some d) ∧ Below wr.heap.size wr wx)
          case first =>
            go_region_with (first
              | (go_at_call 12; (apply Calls.mono; focus (exact (Bytes_own (g k) (v k) F _ (HX1.out.1.W k hk2 |> fun q => by (simp only [hF] at q; exact q)) (by omega)))); rintro e w6 ⟨vy, rfl, oy, hb6⟩; have OY := hide oy; have HB6 := hide hb6; clear oy hb6)
              | (go_at_call 12; (apply Calls.mono; focus (exact (Bytes_own (g k) (v k) F _ ((HSk.out.below (drewB _)).W k hk2 |> fun q => by (simp only [hF] at q; exact q)) (by omega)))); rintro e w5 ⟨vx, rfl, ox, hb5⟩; have HX1 := hide (show St w w5 A L Q so R cap g v q (fun j => formsP (R j)) (fun j => formsP (R j)) ∧ w5.ownsRow wr.drew.heap.size 5 1 vx F.length (F.map (fun (b : Nat) => Value.int .u8 (b : Int))) from ⟨(HSk.out.below (drewB _)).below hb5, ox⟩); have fa5 := HX1.out.1.cA k hk2; have HB5 := hide (bstep (drewB wr) hb5); clear ox hb5))
            all_goals
              go_wp2_with fail
              go_meet
              refine ⟨own_below HX1.out.2 HB6.out, own_mono OY.out HB5.out.size, fun d h1 h2 => ?_, bstep HB5.out HB6.out⟩
              have q1 := (HX1.out.2.lt d h1).2
              have q2 := (OY.out.lt d h2).1
              omega
          case rest =>
            obtain ⟨ox, oy, hap, hbc⟩ := hcut
            have HSc := hide (HSk.out.below hbc)
            have HOX := hide ox
            have HOY := hide oy
            have HAP := hide hap
            have HBC := hide hbc
            have fq := HSc.out.cQ k hk2
            generalize hst : bstr F = st at *
            have HST := hide hst
            clear ox oy hap hbc fa hst
            have CV1 : ∀ n, Sem.run Try.prog (convert 28 9 u11) (wc.drewN n) = .ok (.string st) (wc.drewN n) := fun n => by rw [← HST.out]; exact own_bytes (own_below HOX.out (bdrewN (Below.refl _ _) n))
            have CV2 : ∀ n, Sem.run Try.prog (convert 28 9 (q k)) (wc.drewN n) = .ok (.string st) (wc.drewN n) := fun n => by
              have q1 := HSc.out.O k hk2
              simp only [hF] at q1
              rw [← HST.out]; exact own_bytes (own_below q1 (bdrewN (Below.refl _ _) n))
            go_wp2_with fail
            go_quiet (fail)
            have HSq := hide (HSc.out.below (bdrewN (Below.refl _ _) nq))
            have HOXq := hide (own_below HOX.out (bdrewN (Below.refl wc.heap.size wc) nq))
            have HOYq := hide (own_below HOY.out (bdrewN (Below.refl wc.heap.size wc) nq))
            have HBq := hide (HBC.out.trans ((bdrewN (Below.refl wc.heap.size wc) nq).mono HBC.out.size))
            clear CV1 CV2 fq
            go_wp2_with fail
            refine (spoil_any u11 F.length wr.heap.size _ _ (by omega) HOXq.out).mono ?_
            rintro e w8 ⟨⟨uu, rfl⟩, ⟨ys, oys⟩, hg8⟩
            have HX8 := hide oys
            have HB8 := hide (below_grown HBq.out hg8 (fun d e => (HOXq.out.lt d e).1) HBq.out.size)
            have HY8 := hide (own_grown HOYq.out hg8 (fun d hd e => HAP.out d e hd))
            have hz8 := HB8.out.size
            clear oys hg8 HOXq HOYq HBq HSq HSc HOX HOY HBC
            obtain ⟨wk, hwk⟩ : ∃ wk : World, wk = wr := ⟨_, rfl⟩
            subst hwk
            obtain ⟨vx, hvx⟩ : ∃ vx : Value, vx = u11 := ⟨_, rfl⟩
            subst hvx
            obtain ⟨i0, hi0, hz0, hz1, hz2⟩ := info_parts info5
            go_wp2_with fail
            go_loopw [11, 13] (fun v11 v13 ws => ∃ (j : Nat) (xs : List Value), j ≤ 20 ∧ v13 = .int .i64 (j : Int) ∧ ws.ownsRow wk.heap.size 5 1 v11 (F.length + j) xs ∧ w8.grownBy ws vx.ownBlock ∧ Near w8 vx v11) (fun _ v13 _ => 20 - (intOf v13).toNat)
            case atStart => exact ⟨0, ys, by decide, rfl, HX8.out, grown_of (Below.refl _ _), .inl rfl⟩
            case round =>
              obtain ⟨j, xs, hj, rfl, hO, hG, hN⟩ := hrel
              have HO := hide hO
              have HG := hide hG
              have HN := hide hN
              have hzr := hG.size
              clear hO hG hN
              by_cases hj20 : j < 20
              · have hj21 : (j : Int) < 20 := by omega
                go_wp2_with (at_builtin; refine wpList_append_lies _ rfl _ _ 28 rfl wk.heap.size 5 i0 (.int .u8 0) 1 1 Try.underlying28 hi0 hz0 hz1 hz2 rfl (by decide) u11 (F.length + j) xs rfl (HO.out.alloc _) ⟨wr.heap.size, 0, none⟩ 1 1 [.int .u8 99] rfl rfl (cell_one_new _ _ _) (by intro u hu; simp at hu; subst hu; rfl) (by decide) (by unfold maxLen; omega) (by omega) (by (simp; omega)) _ rfl ?_; intro g2 cap2 wn hown2 hg2 hgg hgl)
                have OX := hide hown2
                have HA2 := hide (show Below wr.heap.size wr (wr.alloc (Obj.cells #[Value.int IntKind.u8 99] 5)) from by (focus repeat' (first | (with_reducible exact Below.refl _ _) | (with_reducible assumption) | (with_reducible refine Below.alloc ?_ ?_ _) | (with_reducible refine Below.drew ?_) | (with_reducible refine bdrewN ?_ _) | (with_reducible refine Below.setCell ?_ ?_ _) | (first | (with_reducible exact Nat.le_refl _) | (with_reducible assumption) | omega | (simp; omega) | (simp; done)))))
                have GX := hide hg2
                have NX := hide hgg
                clear hown2 hg2 hgg
                go_roundw
                case rel =>
                  have hvx : ∀ d, u11.ownBlock = some d → vx.ownBlock = some d ∨ w8.heap.size ≤ d := fun d hd => by
                    rcases HN.out with e | ⟨b, e, hb⟩
                    · exact .inl (e ▸ hd)
                    · rw [e] at hd; cases hd; exact .inr hb
                  refine ⟨j + 1, _, by omega, by go_num, OX.out, ?_, ?_⟩
                  · have q1 : w8.grownBy (wr.alloc (Obj.cells #[Value.int IntKind.u8 99] 5)) vx.ownBlock := grown_trans HG.out (grown_of (r := vx.ownBlock) HA2.out) (.inl rfl)
                    refine grown_trans q1 GX.out ?_
                    rcases HN.out with e | ⟨b, e, hb⟩
                    · exact .inl e
                    · exact .inr ⟨b, e, hb⟩
                  · rcases NX.out with e | e
                    · rcases HN.out with e2 | ⟨b, e2, hb⟩
                      · exact .inl (e.symm.trans e2)
                      · exact .inr ⟨b, e.symm.trans e2, hb⟩
                    · exact .inr ⟨g2, rfl, by (rw [e]; simp; omega)⟩
                case measure => (first | (simp [intOf]; done) | (simp [intOf]; omega))
              · have hj21 : ¬ (j : Int) < 20 := by omega
                obtain rfl : j = 20 := by omega
                have HBr := hide (below_grown HB8.out HG.out (fun d e => (HX8.out.lt d e).1) HB8.out.size)
                have HSr2 := hide (HSk.out.below HBr.out)
                have HYr := hide (own_grown HY8.out HG.out (fun d hd e => HAP.out d e hd))
                have fa := HSr2.out.cA k hk2
                have fq := HSr2.out.cQ k hk2
                obtain ⟨ao, ac, rfl⟩ := own_any HO.out
                have h20 : ¬ ((F.length : Int) + 20 < 20) := by omega
                have h21 : (20 : Int) ≤ (F.length : Int) + 20 := by omega
                have CVy : Sem.run Try.prog (convert 28 9 u12) wr.drew = .ok (.string st) wr.drew := by rw [← HST.out]; exact own_bytes (own_below HYr.out (drewB _))
                have CVq : Sem.run Try.prog (convert 28 9 (q k)) wr.drew = .ok (.string st) wr.drew := by
                  have q1 := (HSr2.out.below (drewB _)).O k hk2
                  simp only [hF] at q1
                  rw [← HST.out]; exact own_bytes q1
                clear HX8 HB8 HY8 HG HN HO
                go_wp2_with fail
                refine wp_region_held_drew (S := fun wq => Below wr.heap.size wr wq ∧ wq.cell? ⟨A, k, none⟩ = some (.pointer (some ⟨g k, 0, none⟩)) ∧ wq.cell? ⟨Q, k, none⟩ = some (q k) ∧ Sem.run Try.prog (convert 28 9 u12) wq = .ok (.string st) wq ∧ Sem.run Try.prog (convert 28 9 (q k)) wq = .ok (.string st) wq) (by kernel_rfl) ⟨drewB _, fa, fq, CVy, CVq⟩ (fun hH0 => ?_)
                refine wpAnyH_take (i := 0) (oi := ?oi0) (v := ?v0) ?ho0 (by kernel_rfl) (by kernel_rfl) (by kernel_rfl) ?hp0 ?hy0 hH0 ?hr0
                case ho0 => (simp only [List.getElem?_toArray, List.getElem?_cons_succ, List.getElem?_cons_zero]; exact rfl)
                case hp0 => exact fun _ _ _ h => h
                case hy0 => (refine Or.inl ⟨by rfl, ?_⟩; intro w hSw; (try dsimp only at hSw); go_simp; (try (with_reducible rfl)))
                case hr0 =>
                (try simp only [Act.put, List.setIfInBounds_toArray, List.set_cons_zero, List.set_cons_succ])
                refine wpAnyH_take (i := 1) (oi := ?oi1) (v := ?v1) ?ho1 (by kernel_rfl) (by kernel_rfl) (by kernel_rfl) ?hp1 ?hy1 hH0 ?hr1
                case ho1 => (simp only [List.getElem?_toArray, List.getElem?_cons_succ, List.getElem?_cons_zero]; exact rfl)
                case hp1 => exact fun _ _ _ h => h
                case hy1 => (refine Or.inl ⟨by rfl, ?_⟩; intro w hSw; (try dsimp only at hSw); go_simp; (try (with_reducible rfl)))
                case hr1 =>
                (try simp only [Act.put, List.setIfInBounds_toArray, List.set_cons_zero, List.set_cons_succ])
                refine wpAnyH_take (i := 2) (oi := ?oi2) (v := ?v2) ?ho2 (by kernel_rfl) (by kernel_rfl) (by kernel_rfl) ?hp2 ?hy2 hH0 ?hr2
                case ho2 => (simp only [List.getElem?_toArray, List.getElem?_cons_succ, List.getElem?_cons_zero]; exact rfl)
                case hp2 => exact fun _ _ _ h => h
                case hy2 => (refine Or.inl ⟨by rfl, ?_⟩; intro w hSw; (try dsimp only at hSw); go_simp; (try (with_reducible rfl)))
                case hr2 =>
                (try simp only [Act.put, List.setIfInBounds_toArray, List.set_cons_zero, List.set_cons_succ])
                refine wpAnyH_take (i := 3) (oi := ?oi3) (v := ?v3) ?ho3 (by kernel_rfl) (by kernel_rfl) (by kernel_rfl) ?hp3 ?hy3 hH0 ?hr3
                case ho3 => (simp only [List.getElem?_toArray, List.getElem?_cons_succ, List.getElem?_cons_zero]; exact rfl)
                case hp3 => exact fun _ _ _ h => h
                case hy3 => (refine Or.inl ⟨by rfl, ?_⟩; intro w hSw; (try dsimp only at hSw); go_simp; (try (with_reducible rfl)))
                case hr3 =>
                (try simp only [Act.put, List.setIfInBounds_toArray, List.set_cons_zero, List.set_cons_succ])
                refine wpAnyH_take (i := 4) (oi := ?oi4) (v := ?v4) ?ho4 (by kernel_rfl) (by kernel_rfl) (by kernel_rfl) ?hp4 ?hy4 hH0 ?hr4
                case ho4 => (simp only [List.getElem?_toArray, List.getElem?_cons_succ, List.getElem?_cons_zero]; exact rfl)
                case hp4 => exact fun _ _ _ h => h
                case hy4 => (refine Or.inl ⟨by rfl, ?_⟩; intro w hSw; (try dsimp only at hSw); go_simp; (try (with_reducible rfl)))
                case hr4 =>
                (try simp only [Act.put, List.setIfInBounds_toArray, List.set_cons_zero, List.set_cons_succ])
                refine wpAnyH_take (i := 5) (oi := ?oi5) (v := ?v5) ?ho5 (by kernel_rfl) (by kernel_rfl) (by kernel_rfl) ?hp5 ?hy5 hH0 ?hr5
                case ho5 => (simp only [List.getElem?_toArray, List.getElem?_cons_succ, List.getElem?_cons_zero]; exact rfl)
                case hp5 => exact fun _ _ _ h => h
                case hy5 => (refine Or.inl ⟨by rfl, ?_⟩; intro w hSw; (try dsimp only at hSw); go_simp; (try (with_reducible rfl)))
                case hr5 =>
                (try simp only [Act.put, List.setIfInBounds_toArray, List.set_cons_zero, List.set_cons_succ])
                refine wpAnyH_take (i := 6) (oi := ?oi6) (v := ?v6) ?ho6 (by kernel_rfl) (by kernel_rfl) (by kernel_rfl) ?hp6 ?hy6 hH0 ?hr6
                case ho6 => (simp only [List.getElem?_toArray, List.getElem?_cons_succ, List.getElem?_cons_zero]; exact rfl)
                case hp6 => exact fun _ _ _ h => h
                case hy6 => (refine Or.inl ⟨by rfl, ?_⟩; intro w hSw; (try dsimp only at hSw); go_simp; (try (with_reducible rfl)))
                case hr6 =>
                (try simp only [Act.put, List.setIfInBounds_toArray, List.set_cons_zero, List.set_cons_succ])
                refine wpAnyH_take (i := 7) (oi := ?oi7) (v := ?v7) ?ho7 (by kernel_rfl) (by kernel_rfl) (by kernel_rfl) ?hp7 ?hy7 hH0 ?hr7
                case ho7 => (simp only [List.getElem?_toArray, List.getElem?_cons_succ, List.getElem?_cons_zero]; exact rfl)
                case hp7 => exact fun _ _ _ h => h
                case hy7 => (refine Or.inl ⟨by rfl, ?_⟩; intro w hSw; (try dsimp only at hSw); go_simp; (try (with_reducible rfl)))
                case hr7 =>
                (try simp only [Act.put, List.setIfInBounds_toArray, List.set_cons_zero, List.set_cons_succ])
                refine wpAnyH_take (i := 8) (oi := ?oi8) (v := ?v8) ?ho8 (by kernel_rfl) (by kernel_rfl) (by kernel_rfl) ?hp8 ?hy8 hH0 ?hr8
                case ho8 => (simp only [List.getElem?_toArray, List.getElem?_cons_succ, List.getElem?_cons_zero]; exact rfl)
                case hp8 => exact fun _ _ _ h => h
                case hy8 => (refine Or.inl ⟨by rfl, ?_⟩; intro w hSw; (try dsimp only at hSw); go_simp; (try (with_reducible rfl)))
                case hr8 =>
                (try simp only [Act.put, List.setIfInBounds_toArray, List.set_cons_zero, List.set_cons_succ])
                refine wpAnyH_take (i := 9) (oi := ?oi9) (v := ?v9) ?ho9 (by kernel_rfl) (by kernel_rfl) (by kernel_rfl) ?hp9 ?hy9 hH0 ?hr9
                case ho9 => (simp only [List.getElem?_toArray, List.getElem?_cons_succ, List.getElem?_cons_zero]; exact rfl)
                case hp9 => exact fun _ _ _ h => h
                case hy9 => (refine Or.inl ⟨by rfl, ?_⟩; intro w hSw; (try dsimp only at hSw); go_simp; (try (with_reducible rfl)))
                case hr9 =>
                (try simp only [Act.put, List.setIfInBounds_toArray, List.set_cons_zero, List.set_cons_succ])
                refine wpAnyH_take (i := 10) (oi := ?oi10) (v := ?v10) ?ho10 (by kernel_rfl) (by kernel_rfl) (by kernel_rfl) ?hp10 ?hy10 hH0 ?hr10
                case ho10 => (simp only [List.getElem?_toArray, List.getElem?_cons_succ, List.getElem?_cons_zero]; exact rfl)
                case hp10 => exact fun _ _ _ h => h
                case hy10 => (refine Or.inl ⟨by rfl, ?_⟩; intro w hSw; (try dsimp only at hSw); go_simp; (try (with_reducible rfl)))
                case hr10 =>
                (try simp only [Act.put, List.setIfInBounds_toArray, List.set_cons_zero, List.set_cons_succ])
                refine wpAnyH_take (i := 11) (oi := ?oi11) (v := ?v11) ?ho11 (by kernel_rfl) (by kernel_rfl) (by kernel_rfl) ?hp11 ?hy11 hH0 ?hr11
                case ho11 => (simp only [List.getElem?_toArray, List.getElem?_cons_succ, List.getElem?_cons_zero]; exact rfl)
                case hp11 => exact fun _ _ _ h => h
                case hy11 => (refine Or.inl ⟨by rfl, ?_⟩; intro w hSw; (try dsimp only at hSw); go_simp; (try (with_reducible rfl)))
                case hr11 =>
                (try simp only [Act.put, List.setIfInBounds_toArray, List.set_cons_zero, List.set_cons_succ])
                refine wpAnyH_take (i := 12) (oi := ?oi12) (v := ?v12) ?ho12 (by kernel_rfl) (by kernel_rfl) (by kernel_rfl) ?hp12 ?hy12 hH0 ?hr12
                case ho12 => (simp only [List.getElem?_toArray, List.getElem?_cons_succ, List.getElem?_cons_zero]; exact rfl)
                case hp12 => exact fun _ _ _ h => h
                case hy12 => (refine Or.inl ⟨by rfl, ?_⟩; intro w hSw; (try dsimp only at hSw); go_simp; (try (with_reducible rfl)))
                case hr12 =>
                (try simp only [Act.put, List.setIfInBounds_toArray, List.set_cons_zero, List.set_cons_succ])
                refine wpAnyH_take (i := 13) (oi := ?oi13) (v := ?v13) ?ho13 (by kernel_rfl) (by kernel_rfl) (by kernel_rfl) ?hp13 ?hy13 hH0 ?hr13
                case ho13 => (simp only [List.getElem?_toArray, List.getElem?_cons_succ, List.getElem?_cons_zero]; exact rfl)
                case hp13 => exact fun _ _ _ h => h
                case hy13 => (refine Or.inl ⟨by rfl, ?_⟩; intro w hSw; (try dsimp only at hSw); go_simp; (try (with_reducible rfl)))
                case hr13 =>
                (try simp only [Act.put, List.setIfInBounds_toArray, List.set_cons_zero, List.set_cons_succ])
                refine wpAnyH_take (i := 14) (oi := ?oi14) (v := ?v14) ?ho14 (by kernel_rfl) (by kernel_rfl) (by kernel_rfl) ?hp14 ?hy14 hH0 ?hr14
                case ho14 => (simp only [List.getElem?_toArray, List.getElem?_cons_succ, List.getElem?_cons_zero]; exact rfl)
                case hp14 => exact fun _ _ _ h => h
                case hy14 => (refine Or.inl ⟨by rfl, ?_⟩; intro w hSw; (try dsimp only at hSw); go_simp; (try (with_reducible rfl)))
                case hr14 =>
                (try simp only [Act.put, List.setIfInBounds_toArray, List.set_cons_zero, List.set_cons_succ])
                refine wpAnyH_take (i := 15) (oi := ?oi15) (v := ?v15) ?ho15 (by kernel_rfl) (by kernel_rfl) (by kernel_rfl) ?hp15 ?hy15 hH0 ?hr15
                case ho15 => (simp only [List.getElem?_toArray, List.getElem?_cons_succ, List.getElem?_cons_zero]; exact rfl)
                case hp15 => exact fun _ _ _ h => h
                case hy15 => (refine Or.inl ⟨by rfl, ?_⟩; intro w hSw; (try dsimp only at hSw); go_simp; (try (with_reducible rfl)))
                case hr15 =>
                (try simp only [Act.put, List.setIfInBounds_toArray, List.set_cons_zero, List.set_cons_succ])
                refine wpAnyH_take (i := 18) (oi := ?oi18) (v := ?v18) ?ho18 (by kernel_rfl) (by kernel_rfl) (by kernel_rfl) ?hp18 ?hy18 hH0 ?hr18
                case ho18 => (simp only [List.getElem?_toArray, List.getElem?_cons_succ, List.getElem?_cons_zero]; exact rfl)
                case hp18 => exact fun _ _ _ h => h
                case hy18 => (refine Or.inl ⟨by rfl, ?_⟩; intro w hSw; (try dsimp only at hSw); go_simp; (try (with_reducible rfl)))
                case hr18 =>
                (try simp only [Act.put, List.setIfInBounds_toArray, List.set_cons_zero, List.set_cons_succ])
                refine wpAnyH_take (i := 19) (oi := ?oi19) (v := ?v19) ?ho19 (by kernel_rfl) (by kernel_rfl) (by kernel_rfl) ?hp19 ?hy19 hH0 ?hr19
                case ho19 => (simp only [List.getElem?_toArray, List.getElem?_cons_succ, List.getElem?_cons_zero]; exact rfl)
                case hp19 => exact fun _ _ _ h => h
                case hy19 => (refine Or.inl ⟨by rfl, ?_⟩; intro w hSw; (try dsimp only at hSw); go_simp; (try (with_reducible rfl)))
                case hr19 =>
                (try simp only [Act.put, List.setIfInBounds_toArray, List.set_cons_zero, List.set_cons_succ])
                refine wpAnyH_take (i := 20) (oi := ?oi20) (v := ?v20) ?ho20 (by kernel_rfl) (by kernel_rfl) (by kernel_rfl) ?hp20 ?hy20 hH0 ?hr20
                case ho20 => (simp only [List.getElem?_toArray, List.getElem?_cons_succ, List.getElem?_cons_zero]; exact rfl)
                case hp20 => exact fun _ _ _ h => h
                case hy20 => (refine Or.inl ⟨by rfl, ?_⟩; intro w hSw; (try dsimp only at hSw); go_simp; (try (with_reducible rfl)))
                case hr20 =>
                (try simp only [Act.put, List.setIfInBounds_toArray, List.set_cons_zero, List.set_cons_succ])
                refine wpAnyH_take (i := 21) (oi := ?oi21) (v := ?v21) ?ho21 (by kernel_rfl) (by kernel_rfl) (by kernel_rfl) ?hp21 ?hy21 hH0 ?hr21
                case ho21 => (simp only [List.getElem?_toArray, List.getElem?_cons_succ, List.getElem?_cons_zero]; exact rfl)
                case hp21 => exact fun _ _ _ h => h
                case hy21 => (refine Or.inl ⟨by rfl, ?_⟩; intro w hSw; (try dsimp only at hSw); go_simp; (try (with_reducible rfl)))
                case hr21 =>
                (try simp only [Act.put, List.setIfInBounds_toArray, List.set_cons_zero, List.set_cons_succ])
                refine wpAnyH_ready (rs := [16]) (by kernel_rfl) (by simp) (AllReadyH.cons (o := ?oi16) ?ho16 (fun K hK => ?hr16) AllReadyH.nil)
                case ho16 => (simp only [List.getElem?_toArray, List.getElem?_cons_succ, List.getElem?_cons_zero]; exact rfl)
                case hr16 =>
                go_simp
                refine Calls.mono (Bytes_own (g k) (v k) F _ ((HSr2.out.below (drewB _)).W k hk2 |> fun q => by (simp only [hF] at q; exact q)) (by omega)) ?_
                rintro e w9 ⟨vz, rfl, oz, hb9⟩
                have HS9 := hide ((HSr2.out.below (drewB _)).below hb9)
                have HB9 : Below wr.heap.size wr w9 := bstep (drewB _) hb9
                have fa9 := HS9.out.cA k hk2
                have fq9 := HS9.out.cQ k hk2
                have CVz9 : Sem.run Try.prog (convert 28 9 vz) w9 = .ok (.string st) w9 := (by rw [← HST.out]; exact own_bytes oz)
                have CVy9 : Sem.run Try.prog (convert 28 9 u12) w9 = .ok (.string st) w9 := (by rw [← HST.out]; exact own_bytes (own_below HYr.out HB9))
                have CVq9 : Sem.run Try.prog (convert 28 9 (q k)) w9 = .ok (.string st) w9 := (by (have q1 := HS9.out.O k hk2); simp only [hF] at q1; rw [← HST.out]; exact own_bytes q1)
                (try go_wp2_with fail)
                refine hK.out _ _ ?_ (fun hH1 => ?_)
                · exact ⟨HB9, fa9, fq9, CVy9, CVq9⟩
                clear hK K oz hb9 hH0 CVy CVq fa fq
                (try simp only [Act.put, List.setIfInBounds_toArray, List.set_cons_zero, List.set_cons_succ])
                have hH2 : (Below wr.heap.size wr w9 ∧ w9.cell? ⟨A, k, none⟩ = some (.pointer (some ⟨g k, 0, none⟩)) ∧ w9.cell? ⟨Q, k, none⟩ = some (q k) ∧ Sem.run Try.prog (convert 28 9 u12) w9 = .ok (.string st) w9 ∧ Sem.run Try.prog (convert 28 9 (q k)) w9 = .ok (.string st) w9) ∧ Sem.run Try.prog (convert 28 9 vz) w9 = .ok (.string st) w9 := ⟨hH1, CVz9⟩
                refine wpAnyH_mono (S2 := fun wq => (Below wr.heap.size wr wq ∧ wq.cell? ⟨A, k, none⟩ = some (.pointer (some ⟨g k, 0, none⟩)) ∧ wq.cell? ⟨Q, k, none⟩ = some (q k) ∧ Sem.run Try.prog (convert 28 9 u12) wq = .ok (.string st) wq ∧ Sem.run Try.prog (convert 28 9 (q k)) wq = .ok (.string st) wq) ∧ Sem.run Try.prog (convert 28 9 vz) wq = .ok (.string st) wq) (fun w h => h.1) _ _ _ _ ?_
                clear hH1 CVz9 CVy9 CVq9 fa9 fq9
                refine wpAnyH_take (i := 17) (oi := ?oi17) (v := ?v17) ?ho17 (by kernel_rfl) (by kernel_rfl) (by kernel_rfl) ?hp17 ?hy17 hH2 ?hr17
                case ho17 => (simp only [List.getElem?_toArray, List.getElem?_cons_succ, List.getElem?_cons_zero]; exact rfl)
                case hp17 => exact fun _ _ _ h => h
                case hy17 => (refine Or.inl ⟨by rfl, ?_⟩; intro w hSw; (try dsimp only at hSw); go_simp; (try (with_reducible rfl)))
                case hr17 =>
                (try simp only [Act.put, List.setIfInBounds_toArray, List.set_cons_zero, List.set_cons_succ])
                refine wpAnyH_take (i := 22) (oi := ?oi22) (v := ?v22) ?ho22 (by kernel_rfl) (by kernel_rfl) (by kernel_rfl) ?hp22 ?hy22 hH2 ?hr22
                case ho22 => (simp only [List.getElem?_toArray, List.getElem?_cons_succ, List.getElem?_cons_zero]; exact rfl)
                case hp22 => exact fun _ _ _ h => h
                case hy22 => (refine Or.inl ⟨by rfl, ?_⟩; intro w hSw; (try dsimp only at hSw); go_simp; (try (with_reducible rfl)))
                case hr22 =>
                (try simp only [Act.put, List.setIfInBounds_toArray, List.set_cons_zero, List.set_cons_succ])
                refine wpAnyH_take (i := 23) (oi := ?oi23) (v := ?v23) ?ho23 (by kernel_rfl) (by kernel_rfl) (by kernel_rfl) ?hp23 ?hy23 hH2 ?hr23
                case ho23 => (simp only [List.getElem?_toArray, List.getElem?_cons_succ, List.getElem?_cons_zero]; exact rfl)
                case hp23 => exact fun _ _ _ h => h
                case hy23 => (refine Or.inl ⟨by rfl, ?_⟩; intro w hSw; (try dsimp only at hSw); go_simp; (try (with_reducible rfl)))
                case hr23 =>
                (try simp only [Act.put, List.setIfInBounds_toArray, List.set_cons_zero, List.set_cons_succ])
                refine wpAnyH_done (by kernel_rfl) ?_ _
                clear hH2
                go_wp2
                go_roundw
                case rel => exact ⟨k + 1, by omega, by go_num, HS9.out⟩
                case measure => (first | (simp [intOf]; done) | (simp [intOf]; omega))
        · have hk3 : ¬ (k : Int) < 2 := by omega
          go_wp2_with fail
          refine (known_c _).mono ?_
          rintro e w9 ⟨rfl, hb9⟩
          have HB9 := hide (bstep HSk.out.low hb9)
          clear hb9
          go_wp2
          go_ret
          exact ⟨rfl, HB9.out⟩
end Go.Proofs.Ytajkgecegefnmaa

