import Derived.Test.YtimabgakemgldaaT43
import Derived.Laws.LoneSync
import Derived.WalkKit
import Derived.StillTailTactics
import Derived.Deep.RegionLaw
import Derived.Deep.RegionHeld3
import Derived.Laws.OwnMore
import Derived.Deep.Matrix
import Derived.BigQuiet
import Derived.Deep.QuietTactic
import Derived.Laws.EntriesVeiled
import Derived.Deep.AppendLies
import Derived.Deep.RegionLaw
namespace Go.Proofs.Ytimabgakemgldaa
open Go.ChangeShapes Go.WideShapes Go.ChangeAt Go.RowKit Go.Deep
set_option linter.unusedSimpArgs false
set_option linter.unusedVariables false

set_option maxRecDepth 100000 in
set_option maxHeartbeats 4000000 in
theorem Walk_ok (mark gate tick : Int) (ab ao oc pc : Nat) (pp : Option Addr) (ops : Ops) (ps : List Int) (rp : Nat → Option Addr) (rc rb ro : Nat → Nat) (w : World) (hO : OpsIn w ab ao ops rp rc rb ro) (hP : PicksIn w pp ps) (h1 : 1 ≤ ops.length) (h2 : ops.length ≤ 64) (hg : 1 ≤ gate) (ht : 0 ≤ tick) (ht2 : tick ≤ 9223372036854775807) :
    Calls Try.prog 22 #[.agg #[.int .i64 mark, .int .i64 gate, .int .i64 tick], .slice (some ⟨ab, ao, none⟩) ops.length oc, .slice pp ps.length pc] w (WalkPost (walkA (ab0 ops.length mark gate tick) ops ps ps.length).1 ops.length (walkA (ab0 ops.length mark gate tick) ops ps ps.length).2 w) := by
  have H1 := hide h1
  have H2 := hide h2
  have HG := hide hg
  have HT := hide ht
  have HT2 := hide ht2
  have C42 := hide (fun W => Start_ok mark gate tick ops.length W h1 h2 hg ht)
  obtain ⟨n, hn⟩ : ∃ n, n = ops.length := ⟨_, rfl⟩
  have HN := hide hn
  rw [← hn] at C42 ⊢
  have HO0 := hide hO
  have HP0 := hide hP
  clear hO hP h1 h2 hg ht ht2 hn
  go_enter Try.func22, Try.ntmps22
  go_wp2_with fail
  obtain ⟨w00, hw⟩ : ∃ w00, w00 = (w.alloc (.cells #[.int .i64 mark, .int .i64 gate, .int .i64 tick] 23)).alloc (.cells #[.int .i64 0, .int .i64 0, .int .i64 0, .int .i64 0, .bool false, .int .i64 0, .bool false, .int .i64 0] 63) := ⟨_, rfl⟩
  rw [← hw]
  have hb0 : Below w.heap.size w w00 := by rw [hw]; (focus repeat' (first | (with_reducible exact Below.refl _ _) | (with_reducible assumption) | (with_reducible refine Below.alloc ?_ ?_ _) | (with_reducible refine Below.drew ?_) | (with_reducible refine bdrewN ?_ _) | (with_reducible refine Below.setCell ?_ ?_ _) | (first | (with_reducible exact Nat.le_refl _) | (with_reducible assumption) | omega | (simp; omega) | (simp; done))))
  have HO := hide (HO0.out.below hb0)
  have HP := hide (HP0.out.below hb0)
  have HB0 := hide hb0
  have h80 : Has8 w00 (w.heap.size + 1) := by
    rw [hw]
    have q := fr8_made (w.alloc (.cells #[.int .i64 mark, .int .i64 gate, .int .i64 tick] 23))
    rw [World.size_alloc] at q
    exact q
  have HH8 := hide h80
  clear hw hb0 h80
  refine (C42.out w00).mono ?_
  rintro e w1 ⟨wp, L, rfl, hC, hL, nw, lw, lL, hb⟩
  have ZZ := hide (And.intro hC (And.intro hL (And.intro nw (And.intro lw (And.intro lL hb)))))
  clear hC hL nw lw lL hb
  go_wp2_with fail
  obtain ⟨WW, hWW⟩ : ∃ WW, WW = w1.alloc (.cells #[] 124) := ⟨_, rfl⟩
  rw [← hWW]
  have HL1 := hide (show ∃ tag, L1 w00 WW tag wp L n ops rp rc (.slice (some ⟨w1.heap.size, 0, none⟩) 0 0) (fun _ => 0) (fun _ => .nilFunc) (ab0 n mark gate tick) 0 from by
    rw [hWW]; exact L1.first (n := n) (ops := ops) (rp := rp) (rc := rc) ZZ.out (Below.refl _ _))
  clear hWW ZZ
  obtain ⟨i124, hi124, hz124, hs124, hb124⟩ := info_parts info124
  obtain ⟨i77, hi77, hz77, hs77, hb77⟩ := info_parts info77
  obtain ⟨i52, hi52, hz52, hs52, hb52⟩ := info_parts info52
  go_loopw [11, 34] (fun v11 v34 wr => ∃ (k : Nat) (tag : Nat → Nat) (kb : Nat → Nat) (dv : Nat → Value), k ≤ n ∧ v34 = .int .i64 (k : Int) ∧ L1 w00 wr tag wp L n ops rp rc v11 kb dv (ab0 n mark gate tick) k) (fun _ v34 _ => n - (intOf v34).toNat)
  case atStart =>
    obtain ⟨tag, h⟩ := HL1.out
    exact ⟨0, tag, _, _, Nat.zero_le _, rfl, h⟩
  case round =>
    obtain ⟨k, tag, kb, dv, hk, rfl, hl⟩ := hrel
    obtain ⟨ca, cc, rfl⟩ := own_any hl.crew
    have HL := hide hl
    have hk0 : (0 : Int) ≤ (k : Int) := by omega
    have hk9 : (k : Int) ≤ 64 := by have := H2.out; have := HN.out; omega
    by_cases hlt : k < n
    · have hl2 : (k : Int) < (n : Int) := by omega
      have row := cell_stay ((HO.out.row k (by have := HN.out; omega))) (hl.below.block ab (World.block_lt_of_cell? w00 _ (HO.out.row k (by have := HN.out; omega))))
      obtain ⟨ol, hol⟩ : ∃ ol, ol = (ops.getD k []).length := ⟨_, rfl⟩
      obtain ⟨rpk, hrpk⟩ : ∃ rpk, rpk = rp k := ⟨_, rfl⟩
      obtain ⟨rck, hrck⟩ : ∃ rck, rck = rc k := ⟨_, rfl⟩
      have HOL := hide (And.intro hol (And.intro hrpk hrck))
      rw [← hol, ← hrpk, ← hrck] at row
      have HCR := hide hl.crew
      clear hl hol hrpk hrck
      go_wp2_with (at_builtin; refine wpList_append_lies _ rfl _ _ 123 rfl w00.heap.size 124 i124 _ 1 8 Try.underlying123 hi124 hz124 hs124 hb124 rfl (by decide) (.slice ca k cc) k (ptrs kb k) rfl (((HCR.out.alloc _).alloc _).alloc _) ⟨wr.heap.size + 1 + 1, 0, none⟩ 1 1 [.pointer (some ⟨wr.heap.size + 1, 0, none⟩)] rfl rfl (new1 (by simp)) (one1 _ rfl) (by decide) (by unfold maxLen; omega) (by omega) (by simp; have := HL.out.below.size; omega) _ rfl ?_; intro g2 c2 w2 own2 hg2 hat hlt2; have NX := hide (L1.next (ov := .slice rpk ol rck) (by rw [HOL.out.1, HOL.out.2.1, HOL.out.2.2]) HL.out rfl own2 hg2 (hat.imp (fun e => e) (fun e g eg => by cases eg; exact Nat.le_of_eq e.symm))); clear own2 hg2 hat hlt2)
      go_roundw
      case rel =>
        obtain ⟨tag', kb', dv', q⟩ := NX.out
        exact ⟨k + 1, tag', kb', dv', by omega, by go_num, q⟩
      case measure => (first | (simp [intOf]; done) | (simp [intOf]; omega))
    · have hl2 : ¬ (k : Int) < (n : Int) := by omega
      obtain rfl : k = n := by omega
      obtain ⟨g, cg, hcv, -, -⟩ := hl.crew.form (by have := H1.out; have := HN.out; omega)
      obtain ⟨rfl, rfl⟩ : ca = some ⟨g, 0, none⟩ ∧ cc = cg := by (injection hcv with e1 e2 e3; exact ⟨e1, e3⟩)
      have HK := hide hl.done
      obtain ⟨m, hm⟩ : ∃ m, m = ps.length := ⟨_, rfl⟩
      have HM := hide hm
      rw [← hm]
      have hm9 := hide (show (m : Int) ≤ 4503599627370496 by have := HP.out.ml; omega)
      clear hl HL hcv hm
      go_wp2_with fail
      go_loopw [50] (fun v50 wr => ∃ (j : Nat) (tag : Nat → Nat) (po : Option Addr) (dv : Nat → Value), j ≤ m ∧ v50 = .int .i64 (j : Int) ∧ Wk w00 wr tag wp L po k ops rp rc g cc kb dv (walkA (ab0 k mark gate tick) ops ps j).1 (walkA (ab0 k mark gate tick) ops ps j).2) (fun v50 _ => m - (intOf v50).toNat)
      case atStart => exact ⟨0, tag, none, dv, Nat.zero_le _, rfl, by rw [HN.out] at HK ⊢; exact HK.out⟩
      case round =>
        obtain ⟨j, tag2, po, dv2, hj, rfl, hW⟩ := hrel
        have HW := hide hW
        have hj0 : (0 : Int) ≤ (j : Int) := by omega
        have hj9 : (j : Int) ≤ 4503599627370496 := by have := hm9.out; omega
        by_cases hlj : j < m
        · have hl3 : (j : Int) < (m : Int) := by omega
          obtain ⟨qb, qo, rfl, hq⟩ := (HP.out.below hW.below).at_ j (by have := HM.out; omega)
          obtain ⟨p, hp⟩ : ∃ p, p = ps.getD j 0 := ⟨_, rfl⟩
          have HPP := hide hp
          rw [← hp] at hq
          have kp : 0 < k := by have := H1.out; have := HN.out; omega
          have pm := pk_tmod kp p
          obtain ⟨i, hi⟩ : ∃ i, i = pk k p := ⟨_, rfl⟩
          have il : i < k := by rw [hi]; exact pk_lt kp p
          rw [← hi] at pm
          have HI := hide hi
          have hst := walkA_ok mark gate tick (j : Int) (by omega) ops ps H1.out HG.out HT.out HT2.out j (Int.le_refl _)
          rw [← HN.out] at hst
          obtain ⟨st, hst0⟩ : ∃ st, st = walkA (ab0 k mark gate tick) ops ps j := ⟨_, rfl⟩
          have HS0 := hide hst0
          rw [← hst0] at hW hst HW
          have pr : (wrap64 (p.tmod (k : Int) + (k : Int))).tmod (k : Int) = (i : Int) := by rw [wrap_tm kp (by omega)]; exact pm
          have il2 : (i : Int) < (k : Int) := by omega
          have il0 : (0 : Int) ≤ (i : Int) := by omega
          have cr : wr.cell? ⟨g, i, none⟩ = some (.pointer (some ⟨kb i, 0, none⟩)) := by rw [hW.crew.cellAt i (by omega)]; exact ptrs_at il
          obtain ⟨kbi, hkb⟩ : ∃ kbi, kbi = kb i := ⟨_, rfl⟩
          have HKB := hide hkb
          rw [← hkb] at cr
          have hB := hW.B i il
          rw [← hkb] at hB
          obtain ⟨dp, dc, hdv⟩ := own_any (hW.D i il)
          have kc1 := hB.c1
          have kc2 := hB.c2
          rw [hdv] at kc2
          obtain ⟨dl, hdl⟩ : ∃ dl, dl = (wsAt st.2 i).did.length := ⟨_, rfl⟩
          obtain ⟨ol, hol⟩ : ∃ ol, ol = (ops.getD i []).length := ⟨_, rfl⟩
          obtain ⟨rpi, hrp⟩ : ∃ rpi, rpi = rp i := ⟨_, rfl⟩
          obtain ⟨rci, hrc⟩ : ∃ rci, rci = rc i := ⟨_, rfl⟩
          rw [← hdl] at kc2 hdv
          rw [← hol, ← hrp, ← hrc] at kc1
          have HST := hide hst
          have HNX := hide (show walkA (ab0 k mark gate tick) ops ps (j + 1) = pickA ops st (j : Int) p by rw [hst0, hp]; rfl)
          have HD := hide (And.intro hdv (And.intro hdl (And.intro hol (And.intro hrp hrc))))
          have IL := hide il
          clear hW hp hi pm hkb kp il hB hdv hdl hol hrp hrc hst hst0
          by_cases hde : dl = ol
          · subst hde
            go_wp2_with fail
            go_quiet (fail)
            go_wp2_with fail
            go_roundw
            case rel =>
              refine ⟨j + 1, tag2, po, dv2, by omega, by go_num, ?_⟩
              rw [HNX.out, pickA_skip (i := i) (by rw [← HN.out]; exact HI.out) (by rw [← HD.out.2.1]; exact HD.out.2.2.1)]
              exact HW.out.same (by rw [HN.out]; exact HST.out.be) rfl rfl rfl rfl
            case measure => (first | (simp [intOf]; done) | (simp [intOf]; omega))
          · have hd1 : decide ((dl : Int) = (ol : Int)) = false := by rw [decide_eq_false_iff_not]; omega
            have hd2 : ((dl : Int) == (ol : Int)) = false := by rw [beq_eq_false_iff_ne]; omega
            have hd3 : decide (dl = ol) = false := by rw [decide_eq_false_iff_not]; exact hde
            have hd4 : (dl == ol) = false := by rw [beq_eq_false_iff_ne]; exact hde
            have hne : (wsAt st.2 i).did.length ≠ (ops.getD i []).length := by rw [← HD.out.2.1, ← HD.out.2.2.1]; exact hde
            have HDE := hide hne
            obtain ⟨kx, hkx⟩ : ∃ kx, kx = opAt ops i (wsAt st.2 i).did.length := ⟨_, rfl⟩
            have HKX := hide hkx
            have CS := hide (show ∀ V : World, V.heap = wr.heap → V.os = wr.os → V.tape = wr.tape → V.output = wr.output → Calls Try.prog 43 #[.pointer (some ⟨kbi, 0, none⟩), .pointer (some ⟨wp, 0, none⟩)] V fun e w' => e = .returned (.bool (doneA st.1 (i : Int) kx.1 kx.2 (wsAt st.2 i).s)) ∧ Wk w00 V tag2 wp L po ops.length ops rp rc g cc kb dv2 st.1 st.2 ∧ StepQ V tag2 wp L po st.1 (kb i) i (.slice (rp i) (ops.getD i []).length (rc i)) (dv2 i) kx.1 kx.2 (wsAt st.2 i).s w' from fun V e0 e1 e2 e3 => by
              have q := HW.out.same (W' := V) (by rw [HN.out]; exact HST.out.be) e0 e1 e2 e3
              rw [HN.out] at q
              rw [HKB.out, HKX.out]
              exact (pick_step q HO.out HST.out (by omega) (by rw [← HN.out]; exact IL.out) HDE.out).mono fun e w' z => ⟨z.1, q, z.2⟩)
            clear hde hne hkx
            cases hbd : doneA st.1 (i : Int) kx.1 kx.2 (wsAt st.2 i).s with
            | false =>
              rw [hbd] at CS
              have HBD := hide hbd
              clear hbd
              go_wp2_with fail
              go_still_tail 14, (by kernel_rfl)
              go_wp2_with fail
              refine (CS.out wr.drew rfl rfl rfl rfl).mono ?_
              rintro e w5 ⟨rfl, hV, hQ⟩
              have HQ := hide (show ∃ tag' po' dv', Wk w00 w5 tag' wp L po' k ops rp rc g cc kb dv' (walkA (ab0 k mark gate tick) ops ps (j + 1)).1 (walkA (ab0 k mark gate tick) ops ps (j + 1)).2 by
                rw [HNX.out, HN.out]
                rw [HKX.out] at hQ
                exact pick_looked hV HST.out (by rw [← HN.out]; exact IL.out) (by rw [← HN.out]; exact HI.out) HDE.out (by rw [← HKX.out]; exact HBD.out) hQ)
              clear hV hQ
              go_wp2_with fail
              go_roundw
              case rel =>
                obtain ⟨tag', po', dv', q⟩ := HQ.out
                exact ⟨j + 1, tag', po', dv', by omega, by go_num, q⟩
              case measure => (first | (simp [intOf]; done) | (simp [intOf]; omega))
            | true =>
              rw [hbd] at CS
              have HBD := hide hbd
              clear hbd
              go_wp2_with fail
              go_still_tail 14, (by kernel_rfl)
              go_wp2_with fail
              refine (CS.out wr.drew rfl rfl rfl rfl).mono ?_
              rintro e w5 ⟨rfl, hV, hQ⟩
              obtain ⟨tag', po', hE, a5, a6, a7⟩ := pick_done HBD.out hQ
              obtain ⟨aa, haa⟩ : ∃ aa, aa = (doA st.1 (i : Int) kx.1 kx.2).1 := ⟨_, rfl⟩
              obtain ⟨ay, hay⟩ : ∃ ay, ay = (doA st.1 (i : Int) kx.1 kx.2).2 := ⟨_, rfl⟩
              rw [← HKB.out] at a5 a6 a7
              rw [← haa] at a5
              rw [← hay] at a6
              have HAA := hide (And.intro haa hay)
              have rows := hV.row (by rw [← HN.out]; exact IL.out) hE (.int .i64 (j : Int))
              have hEB := hE.B
              rw [← HKB.out] at hEB rows
              rw [HD.out.1] at hEB rows
              rw [← HD.out.2.1] at rows
              have q2 := hEB.c2
              have f2 := hEB.f 2
              have f3 := hEB.f 3
              have f7 := hEB.f 7
              have lkb := hEB.lt
              obtain ⟨d3, q3⟩ := Option.isSome_iff_exists.1 (hEB.h8 3 (by decide)).1
              have HV := hide hV
              have HE := hide hE
              have HR := hide rows
              clear hV hQ hE haa hay rows hEB
              have HDL := hide (show (dl : Int) + 1 ≤ 5864062014801 by have := HO.out.ml i (by rw [← HN.out]; exact IL.out); have := HST.out.le i (by rw [← HN.out]; exact IL.out); have := HD.out.2.1; omega)
              go_upto_region 16 with fail
              obtain ⟨V1, hV1⟩ : ∃ V1, V1 = w5.setCell ⟨kbi, 7, none⟩ (.int .i64 (j : Int)) := ⟨_, rfl⟩
              rw [← hV1]
              have b2 : V1.cell? ⟨kbi, 2, none⟩ = some (.slice dp dl dc) := by rw [hV1]; exact (cell_ne (by decide)).trans q2
              have b3 : V1.cell? ⟨kbi, 3, none⟩ = some d3 := by rw [hV1]; exact (cell_ne (by decide)).trans q3
              have b5 : V1.cell? ⟨kbi, 5, none⟩ = some (.int .i64 aa) := by rw [hV1]; exact (cell_ne (by decide)).trans a5
              have b6 : V1.cell? ⟨kbi, 6, none⟩ = some (.bool ay) := by rw [hV1]; exact (cell_ne (by decide)).trans a6
              have b7 : V1.cell? ⟨kbi, 7, none⟩ = some (.int .i64 (j : Int)) := by rw [hV1]; exact World.cell?_setCell_same' _ _ _ (by rw [a7]; rfl)
              have g2' : V1.frozen? ⟨kbi, 2, none⟩ = false := by rw [hV1]; exact (World.frozen?_setCell _ _ _ _).trans f2
              have g3' : V1.frozen? ⟨kbi, 3, none⟩ = false := by rw [hV1]; exact (World.frozen?_setCell _ _ _ _).trans f3
              have lV : kbi < V1.heap.size := by rw [hV1, World.size_setCell]; exact lkb
              have OW := hide (show V1.ownsRow w00.heap.size 52 3 (.slice dp dl dc) dl (flatA (wsAt st.2 i).did) by rw [hV1]; exact HR.out.1)
              have HV1 := hide hV1
              have LKW := hide lkb
              have HZ := hide (show w00.heap.size ≤ V1.heap.size by rw [hV1, World.size_setCell]; exact Nat.le_trans HV.out.below.size HE.out.t.size)
              clear hV1 q2 q3 a5 a6 a7 f2 f3 f7 lkb
              go_region_law (refine step_append_lies _ rfl _ _ 77 rfl w00.heap.size 52 i52 (.agg #[.int .i64 0, .bool false, .int .i64 0]) 3 24 Try.underlying77 hi52 hz52 hs52 hb52 rfl (by decide) (.slice dp dl dc) dl (flatA (wsAt st.2 i).did) (by simp [Act.eval, Act.put]) (World.ownsRow.alloc OW.out _) ⟨V1.heap.size, 0, none⟩ 1 1 (ansV (aa, ay, (j : Int))) (by simp [Act.eval, Act.put]) rfl (new3 rfl) (ansV_one _) (by decide) (by unfold maxLen; have := HDL.out; omega) (by have := HDL.out; omega) (by simp; have := HZ.out; omega) _ rfl ?_; intro g2 c2 wn hown2 hg2 hgg hgl; have OX := hide (AppOk.made (dl := dl) HV1.out (fun b eb => (HR.out.2 b eb).2) hown2 hg2 rfl ⟨rfl, rfl, rfl⟩ hgg rfl); have kx := OX.out.blk kbi LKW.out (fun e => (HR.out.2 kbi e).1 rfl); have w2c := cell_stay b2 kx; have w3c := cell_stay b3 kx; have w2f := fro_stay g2' kx; have w3f := fro_stay g3' kx; clear hown2 hg2 hgg kx)
              all_goals
                go_wp2_with fail
                go_roundw
                case rel =>
                  obtain ⟨tag4, dv4, q⟩ := Wk.did3 (V1 := V1) (u0 := .int .i64 (j : Int)) (W' := (wn.setCell ⟨kbi, 2, none⟩ (.slice (some ⟨g2, 0, none⟩) (dl + 1) c2)).setCell ⟨kbi, 3, none⟩ (.pointer none)) HV.out (by rw [← HN.out]; exact IL.out) HST.out.n HST.out.be HE.out (by rw [← HKB.out]; exact HV1.out) HD.out.2.1 (by rw [← HKB.out, HD.out.1]; exact OX.out) (by rw [HKB.out])
                  refine ⟨j + 1, tag4, po', dv4, by omega, by go_num, ?_⟩
                  rw [HNX.out, pickA_done (i := i) (by rw [← HN.out]; exact HI.out) HDE.out (by rw [← HKX.out]; exact HBD.out), ← HKX.out, ← HAA.out.1, ← HAA.out.2]
                  rw [HN.out]
                  exact q
                case measure => (first | (simp [intOf]; done) | (simp [intOf]; omega))
        · have hl3 : ¬ (j : Int) < (m : Int) := by omega
          obtain rfl : j = m := by omega
          have hst := walkA_ok mark gate tick (j : Int) (by omega) ops ps H1.out HG.out HT.out HT2.out j (Int.le_refl _)
          rw [← HN.out] at hst
          obtain ⟨st, hst0⟩ : ∃ st, st = walkA (ab0 k mark gate tick) ops ps ps.length := ⟨_, rfl⟩
          have e2 : walkA (ab0 k mark gate tick) ops ps j = st := by rw [hst0, ← HM.out]
          rw [e2] at hW hst HW
          rw [← hst0]
          obtain ⟨wo, rfl⟩ : ∃ q : World, q = wr := ⟨_, rfl⟩
          have HST := hide hst
          have HL3 := hide (show Wk w00 (wo.alloc (.cells #[] 77)) tag2 wp L po k ops rp rc g cc kb dv2 st.1 st.2 ∧ (wo.alloc (.cells #[] 77)).ownsRow w00.heap.size 77 1 (.slice (some ⟨wo.heap.size, 0, none⟩) 0 0) 0 ((List.range 0).map dv2) ∧ (∀ b, (Value.slice (some ⟨wo.heap.size, 0, none⟩) 0 0).ownBlock = some b → wo.heap.size ≤ b) from
            ⟨hW.later (by rw [HN.out]; exact hst.be) ((Below.refl _ _).alloc (Nat.le_refl _) _), World.ownsRow_lit wo #[] 0 hW.below.size (by decide) (by simp), fun b eb => Nat.le_of_eq (Option.some.inj eb)⟩)
          have HWR := hide hW
          have HS0 := hide hst0
          clear hW hst hst0 e2 HW
          go_wp2_with fail
          go_loopw [17, 110] (fun v17 v110 wr => ∃ (q : Nat), q ≤ k ∧ v110 = .int .i64 (q : Int) ∧ Below wo.heap.size wo wr ∧ wr.ownsRow w00.heap.size 77 1 v17 q ((List.range q).map dv2) ∧ (∀ b, v17.ownBlock = some b → wo.heap.size ≤ b)) (fun _ v110 _ => k - (intOf v110).toNat)
          case atStart => exact ⟨0, Nat.zero_le _, rfl, (Below.refl _ _).alloc (Nat.le_refl _) _, HL3.out.2.1, HL3.out.2.2⟩
          case round =>
            obtain ⟨q, hq, rfl, hbo, hrow, hfr⟩ := hrel
            obtain ⟨oa, occ, rfl⟩ := own_any hrow
            have hW2 := HWR.out.later (by rw [HN.out]; exact HST.out.be) hbo
            have HBO := hide hbo
            have HW2 := hide hW2
            have HROW := hide hrow
            have HFR := hide hfr
            have hq0 : (0 : Int) ≤ (q : Int) := by omega
            have hq9 : (q : Int) ≤ 64 := by have := H2.out; have := HN.out; omega
            by_cases hlq : q < k
            · have hl4 : (q : Int) < (k : Int) := by omega
              have cr : wr.cell? ⟨g, q, none⟩ = some (.pointer (some ⟨kb q, 0, none⟩)) := by rw [hW2.crew.cellAt q (by omega)]; exact ptrs_at hlq
              have kc2 := (hW2.B q hlq).c2
              obtain ⟨kbq, hkb⟩ : ∃ kbq, kbq = kb q := ⟨_, rfl⟩
              rw [← hkb] at cr kc2
              obtain ⟨dp, dc, hdv⟩ := own_any (hW2.D q hlq)
              rw [hdv] at kc2
              obtain ⟨dl, hdl⟩ : ∃ dl, dl = (wsAt st.2 q).did.length := ⟨_, rfl⟩
              rw [← hdl] at kc2 hdv
              have HDV := hide hdv
              clear hW2 hrow hfr hbo hkb hdv hdl
              go_wp2_with (at_builtin; refine wpList_append_lies _ rfl _ _ 70 rfl w00.heap.size 77 i77 _ 1 24 Try.underlying70 hi77 hz77 hs77 hb77 rfl (by decide) (.slice oa q occ) q ((List.range q).map dv2) rfl (HROW.out.alloc _) ⟨wr.heap.size, 0, none⟩ 1 1 [.slice dp dl dc] rfl rfl (new1 (by simp)) (one1 _ rfl) (by decide) (by unfold maxLen; omega) (by omega) (by simp; have := HW2.out.below.size; omega) _ rfl ?_; intro g2 c2 wn own2 hg2 hat hlt2; have NX := hide (And.intro own2 (And.intro hg2 (And.intro hat hlt2))); clear own2 hg2 hat hlt2)
              go_roundw
              case rel =>
                obtain ⟨own2, hg2, hat, hlt2⟩ := NX.out
                have z0 := HBO.out.size
                have hbn : Below wo.heap.size wo wn := (HBO.out.alloc z0 _).grown hg2 (by rw [World.size_alloc]; omega) (fun b eb => HFR.out b eb)
                refine ⟨q + 1, by omega, by go_num, hbn, ?_, fun b eb => ?_⟩
                · rw [List.range_succ, List.map_append, List.map_singleton, HDV.out]; exact own2
                · rcases hat with e | e
                  · exact HFR.out b (by rw [e]; exact eb)
                  · have e3 : g2 = b := Option.some.inj eb
                    rw [World.size_alloc] at e; omega
              case measure => (first | (simp [intOf]; done) | (simp [intOf]; omega))
            · have hl4 : ¬ (q : Int) < (k : Int) := by omega
              obtain rfl : q = k := by omega
              clear hW2 hrow hfr hbo
              have C44 := hide (show Calls Try.prog 44 #[.pointer (some ⟨wp, 0, none⟩)] wr fun e w' => e = .returned (.agg #[.int .i64 (sumI st.1.S), .int .i64 st.1.mark, .int .i64 (bWho st.1.bs), .int .i64 (bX st.1.bs), .bool st.1.bs.isSome, .int .i64 st.1.ar, .bool (decide (st.1.gt ≤ st.1.ar)), .int .i64 st.1.tk]) ∧ Below wr.heap.size wr w' from
                End_c wp L po st.1 wr HW2.out.I.c HW2.out.I.l (by rw [HST.out.a.S]; exact H2.out) HST.out.a.gt HST.out.a.tk HST.out.a.tk2 HST.out.a.tt)
              go_wp2_with fail
              refine C44.out.mono ?_
              rintro e w6 ⟨rfl, hb6⟩
              have HB6 := hide hb6
              have h86 := (HH8.out.below (HW2.out.below)).below hb6
              obtain ⟨n0, hn0⟩ := Option.isSome_iff_exists.1 (h86 0 (by decide)).1
              have nf0 := (h86 0 (by decide)).2
              obtain ⟨n1, hn1⟩ := Option.isSome_iff_exists.1 (h86 1 (by decide)).1
              have nf1 := (h86 1 (by decide)).2
              obtain ⟨n2, hn2⟩ := Option.isSome_iff_exists.1 (h86 2 (by decide)).1
              have nf2 := (h86 2 (by decide)).2
              obtain ⟨n3, hn3⟩ := Option.isSome_iff_exists.1 (h86 3 (by decide)).1
              have nf3 := (h86 3 (by decide)).2
              obtain ⟨n4, hn4⟩ := Option.isSome_iff_exists.1 (h86 4 (by decide)).1
              have nf4 := (h86 4 (by decide)).2
              obtain ⟨n5, hn5⟩ := Option.isSome_iff_exists.1 (h86 5 (by decide)).1
              have nf5 := (h86 5 (by decide)).2
              obtain ⟨n6, hn6⟩ := Option.isSome_iff_exists.1 (h86 6 (by decide)).1
              have nf6 := (h86 6 (by decide)).2
              obtain ⟨n7, hn7⟩ := Option.isSome_iff_exists.1 (h86 7 (by decide)).1
              have nf7 := (h86 7 (by decide)).2
              have OUT := hide (show OutIs w6 w00.heap.size (.slice oa q occ) q dv2 (fun i => (wsAt st.2 i).did) from
                ⟨own_stays HROW.out (fun b eb => hb6.block b (HROW.out.lt b eb).2), fun i hi => own_stays (HW2.out.D i hi) (fun b eb => hb6.block b ((HW2.out.D i hi).lt b eb).2), fun i hi b eb e2 => by
                  have := HFR.out b e2
                  have := ((HWR.out.D i hi).lt b eb).2
                  omega⟩)
              have HB1 := hide (HB0.out.trans ((HW2.out.below.trans (hb6.mono HW2.out.below.size)).mono HB0.out.size))
              clear hb6 h86
              go_wp2
              refine bodyPost_ret (v := .tuple #[.slice oa q occ, endV st.1, .int .i64 0]) (by simp [results, Try.f22, go_sem, endV, hn0, hn1, hn2, hn3, hn4, hn5, hn6, hn7]) rfl ?_
              have l8 := HH8.out.lt
              unfold WalkPost
              rw [← HS0.out]
              refine ⟨_, dv2, rfl, OUT.out.keep (fun b hb => ?_) (by omega), ?_⟩
              · refine (heap_setCell_other _ _ _ _ ?_).trans ((heap_setCell_other _ _ _ _ ?_).trans ((heap_setCell_other _ _ _ _ ?_).trans ((heap_setCell_other _ _ _ _ ?_).trans ((heap_setCell_other _ _ _ _ ?_).trans ((heap_setCell_other _ _ _ _ ?_).trans ((heap_setCell_other _ _ _ _ ?_).trans (heap_setCell_other _ _ _ _ ?_)))))))
                all_goals (show b ≠ w.heap.size + 1; omega)
              · (repeat (with_reducible refine below_set (by omega) ?_ _ _))
                exact HB1.out
end Go.Proofs.Ytimabgakemgldaa
