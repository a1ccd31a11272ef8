import Derived.Deep.AppendLies
import Derived.Laws.StructEq
import Derived.Test.YtajkgecegefnmaaV8
namespace Go.Proofs.Ytajkgecegefnmaa
open Go.ChangeShapes Go.WideShapes Go.ChangeAt Go.RowKit Go.Deep
set_option linter.unusedSimpArgs false
set_option linter.unusedVariables false

theorem only_grown {h : Nat} {w0 w w' : World} {row : Option Nat} (k : Only h w0 w) (hg : w.grownBy w' row) (hr : ∀ j, row = some j → w0.heap.size ≤ j) : Only h w0 w' :=
  ⟨hg.os.trans k.os, hg.tape.trans k.tape, hg.output.trans k.output, Nat.le_trans k.size hg.size, fun i hi h1 => (hg.block i (by have := k.size; omega) (fun e => by have := hr i e.symm; omega)).trans (k.block i hi h1)⟩
theorem DObj.same {w w' : World} {h : Nat} {ao : Option Addr} {cap : Nat} {ns : List Nat} {a : Nat} (k : DObj w h ao cap ns a) {B : Nat} (hs : w.heap.size ≤ w'.heap.size) (hB : h < B) (hb : ∀ ad, ao = some ad → ns ≠ [] → ad.block < B) (hbl : ∀ i, i < B → w'.heap[i]? = w.heap[i]?) : DObj w' h ao cap ns a :=
  ⟨Nat.lt_of_lt_of_le k.lt hs, fun o => (World.cell?_of_block (hbl h hB)).trans (k.cells o), fun o => (World.frozen?_of_block (hbl h hB)).trans (k.frz o), fun hn => by
    obtain ⟨b, off, h1, h3, h4, h5⟩ := k.bytes hn
    exact ⟨b, off, h1, Nat.lt_of_lt_of_le h3 hs, h4, fun j hj => (World.cell?_of_block (hbl b (hb _ h1 hn))).trans (h5 j hj)⟩, k.small, k.le, k.len, k.cap_le⟩

theorem eq43 (d : Nat) (x y : Int) (w : World) : (Op.equalIn (d + 2) 43 (.agg #[.int .u64 x, .int .u64 y]) (.agg #[.int .u64 x, .int .u64 y])).run Try.prog w = .ok true w := by
  have ht := Try.underlying43
  have h22 := Try.underlying22
  have hsz : ∀ w, (sizeOf 22).run Try.prog w = .ok 1 w := fun w => by kernel_rfl
  have px : ∀ w, (part 22 #[.int .u64 x, .int .u64 y] (0 * 1)).run Try.prog w = .ok (.int .u64 x) w := fun w => by simp [part, isAgg, run_underlying h22]
  have py : ∀ w, (part 22 #[.int .u64 x, .int .u64 y] (1 * 1)).run Try.prog w = .ok (.int .u64 y) w := fun w => by simp [part, isAgg, run_underlying h22]
  have e1 : ∀ (a : Int) w, (Op.equalIn (d + 1) 22 (.int .u64 a) (.int .u64 a)).run Try.prog w = .ok true w := fun a w => by rw [run_equalIn_int w d 22 .u64 .u64 a a h22]; simp
  rw [Op.equalIn]
  simp only [Sem.run_bind, run_underlying ht, Result.andThen_ok, hsz, Std.Legacy.Range.forIn_eq_forIn_range', Std.Legacy.Range.size, Nat.sub_zero, Nat.add_sub_cancel, Nat.div_one]
  rw [show List.range' 0 2 1 = [0, 1] from rfl]
  simp only [List.forIn_cons, List.forIn_nil, Sem.run_bind, px, py, e1, Result.andThen_ok, Bool.not_true, Bool.false_eq_true, if_false, Sem.run_pure]
theorem neq43 (x y : Int) (w : World) : Sem.run Try.prog (binOp .neq 43 (.agg #[.int .u64 x, .int .u64 y]) (.agg #[.int .u64 x, .int .u64 y])) w = .ok (.bool false) w := by
  rw [run_neq_struct, eq43 9998 x y w]; rfl
def ag (z : Nat × Nat) : Value := .agg #[.int .u64 (z.1 : Int), .int .u64 (z.2 : Int)]
theorem flat_len (zs : List (Nat × Nat)) : (flat (zs.map ag)).length = zs.length * 2 := by
  induction zs with
  | nil => rfl
  | cons z zs ih =>
    show ([Value.int .u64 (z.1 : Int), Value.int .u64 (z.2 : Int)] ++ flat (zs.map ag)).length = _
    rw [List.length_append, ih, List.length_cons]; simp; omega
theorem flat_at : ∀ (zs : List (Nat × Nat)) (i : Nat), i < zs.length → (flat (zs.map ag))[i * 2]? = some (.int .u64 ((zs.getD i (0, 0)).1 : Int)) ∧ (flat (zs.map ag))[i * 2 + 1]? = some (.int .u64 ((zs.getD i (0, 0)).2 : Int))
  | [], i, h => by simp at h
  | z :: zs, 0, _ => ⟨rfl, rfl⟩
  | z :: zs, i + 1, h => by
    have ih := flat_at zs i (by simpa using h)
    have e : flat ((z :: zs).map ag) = .int .u64 (z.1 : Int) :: .int .u64 (z.2 : Int) :: flat (zs.map ag) := rfl
    rw [e]
    have e1 : (i + 1) * 2 = i * 2 + 1 + 1 := by omega
    rw [e1]
    exact ih
theorem own_pairs {w : World} {base : Nat} {v : Value} {zs : List (Nat × Nat)} (own : w.ownsRow base 43 2 v zs.length (flat (zs.map ag))) (hn : 0 < zs.length) : ∃ g cap, v = .slice (some ⟨g, 0, none⟩) zs.length cap ∧ g < w.heap.size ∧ ∀ i, i < zs.length → w.cell? ⟨g, i * 2, none⟩ = some (.int .u64 ((zs.getD i (0, 0)).1 : Int)) ∧ w.cell? ⟨g, i * 2 + 1, none⟩ = some (.int .u64 ((zs.getD i (0, 0)).2 : Int)) := by
  obtain ⟨hl, hh⟩ := own
  rcases hh with ⟨_, h0⟩ | ⟨g, cap, cur, rfl, hg, hb, hle, _, hs, ht⟩
  · omega
  · have hlt := (Array.getElem?_eq_some_iff.1 hb).1
    refine ⟨g, cap, rfl, hlt, fun i hi => ?_⟩
    have key : ∀ j, j < zs.length * 2 → w.cell? ⟨g, j, none⟩ = (flat (zs.map ag))[j]? := fun j hj => by
      rw [← ht, List.getElem?_take]
      rw [if_pos hj]
      simp [World.cell?, hb]
    obtain ⟨f1, f2⟩ := flat_at zs i hi
    exact ⟨(key _ (by omega)).trans f1, (key _ (by omega)).trans f2⟩

set_option maxRecDepth 100000 in
set_option maxHeartbeats 8000000 in
theorem WirePairs_D (ao : Option Addr) (cap : Nat) (ns : List Nat) (m : Nat) (w : World) (hb : Row8 w ao cap ns) (hm : m ≤ 9223372036854775807) (hE : (rd ns 0).2.1 = 0) (hM : ¬ m < (rd ns 0).1) (hL : ¬ ns.length - (rd ns 0).2.2 < (rd ns 0).1) : Calls Try.prog 4 #[.slice ao ns.length cap, .int .i64 (m : Int)] w (fun e w' => e = .returned (.bool true) ∧ Below w.heap.size w w') := by
  have hsm := hide hb.small
  have hr0 := rd_lt ns 0 hb.small
  have hp0 := rd_place ns 0 (Nat.zero_le _)
  have hlg : lg ns 0 m = ((rd ns 0).1, 0, (rd ns 0).2.2) := by unfold lg; rw [if_neg (by omega), if_neg hM, if_neg hL]
  have htl : (tl (RP ns) ns 0 m) = if (tk (RP ns) (rd ns 0).1 (rd ns 0).2.2).2.1 ≠ 0 then ([], (tk (RP ns) (rd ns 0).1 (rd ns 0).2.2).2.1, 0) else tk (RP ns) (rd ns 0).1 (rd ns 0).2.2 := by unfold tl; rw [hlg, if_neg (by simp)]
  have HTL := hide htl
  have hE' : ((rd ns 0).2.1 : Int) = 0 := by omega
  have hM' : ¬ (m : Int) < ((rd ns 0).1 : Int) := by omega
  have hL' : ¬ ((ns.length - (rd ns 0).2.2 : Nat) : Int) < ((rd ns 0).1 : Int) := by omega
  have hk : ((ns.length : Int) - ((rd ns 0).2.2 : Int)) = ((ns.length - (rd ns 0).2.2 : Nat) : Int) := by omega
  have HK := hide hk
  have hnn : (rd ns 0).1 ≤ 1099511627776 := by (have := hb.len; omega)
  clear hk htl hlg
  have hbl := hide (show ∀ ad, ao = some ad → ns ≠ [] → ad.block < w.heap.size from fun ad had hn => by
    obtain ⟨b, off, h1, h2, _⟩ := hb.bytes hn
    rw [h1] at had; cases had; exact h2)
  have HB8 := hide hb
  have hcap := hb.cap_le
  have hlen := hb.len
  clear hb
  go_enter Try.func4, Try.ntmps4
  go_wp2_with fail
  refine (NewReader_any ao cap ns _ HB8.out).mono ?_
  rintro e w1 ⟨g, rfl, hg, hb1, hR1⟩
  have hA : Below w1.heap.size w1 (w1.alloc (.cells #[.slice ao ns.length cap, .int .i64 0] 39)) := by (focus repeat' (first | (with_reducible exact Below.refl _ _) | (with_reducible assumption) | (with_reducible refine Below.alloc ?_ ?_ _) | (with_reducible refine Below.drew ?_) | (with_reducible refine bdrewN ?_ _) | (with_reducible refine Below.setCell ?_ ?_ _) | (first | (with_reducible exact Nat.le_refl _) | (with_reducible assumption) | omega | (simp; omega) | (simp; done))))
  have hz1 := hb1.size
  have hgz := hR1.cells.1
  have HD2 := hide (show DObj (w1.alloc (.cells #[.slice ao ns.length cap, .int .i64 0] 39)) w1.heap.size ao cap ns 0 from ⟨by simp, fun o => by simp [go_sem], fun o => by simp [go_sem], fun hn => by
    obtain ⟨b, off, h1, h2, h3⟩ := HB8.out.bytes hn
    exact ⟨b, off, h1, by (simp; omega), by omega, fun j hj => (hA.cell (p := ⟨b, off + j, none⟩) (show b < w1.heap.size by omega)).trans ((hb1.cell (p := ⟨b, off + j, none⟩) h2).trans (h3 j hj))⟩, HB8.out.small, Nat.zero_le _, by omega, hcap⟩)
  have HR2 := hide (hR1.below hA)
  have HL2 := hide (bstep hb1 hA)
  have hgz2 : g < w1.heap.size := hgz
  have hne : w1.heap.size ≠ g := by omega
  clear hA hR1 hb1
  go_wp2_with fail
  refine (Take_P_c g w1.heap.size ns 0 m _ HR2.out hm hlen).mono ?_
  rintro e w3 ⟨v, rfl, ho3, hR3, own3⟩
  have HR3 := hide hR3
  have HL3 := hide (below_only HL2.out ho3 hg)
  have hb2 := hide (show ∀ ad, ao = some ad → ns ≠ [] → ad.block ≠ g from fun ad had hn => by have := hbl.out ad had hn; omega)
  have HD3 := hide (HD2.out.only' ho3 hne hb2.out)
  obtain ⟨vo, vc, rfl⟩ := own_any own3
  have own3' : w3.ownsRow (w1.heap.size + 1) 43 2 (.slice vo (tl (RP ns) ns 0 m).1.length vc) (tl (RP ns) ns 0 m).1.length (flat (tl (RP ns) ns 0 m).1) := by simpa using own3
  have HO3 := hide own3'
  clear ho3 hR3 own3 own3' HR2 HL2 HD2
  go_wp2_with fail
  refine (dNum_c w1.heap.size cap ao ns 0 _ HD3.out).mono ?_
  rw [hE]
  rintro e w4 ⟨rfl, ho4, hD4⟩
  have HR4 := hide (HR3.out.only ho4 (by omega) (Nat.le_refl _))
  have HL4 := hide (below_only HL3.out ho4 hz1)
  have HO4 := hide (own_only HO3.out ho4 (by omega))
  have HD4 := hide hD4
  clear ho4 hD4 HR3 HL3 HD3 HO3
  go_wp2_with fail
  refine (dLeft_c w1.heap.size cap ao ns _ _ HD4.out).mono ?_
  rw [HK.out]
  rintro e w5 ⟨rfl, hb5⟩
  have HR5 := hide (HR4.out.below hb5)
  have HL5 := hide (bstep HL4.out hb5)
  have HO5 := hide (own_below HO4.out hb5)
  have HD5 := hide (HD4.out.below hb5)
  have hz5 : w1.heap.size + 1 ≤ w5.heap.size := by
    have q := HD5.out.lt
    omega
  have hz15 : w1.heap.size < w5.heap.size := by omega
  clear hb5 HR4 HL4 HO4 HD4
  generalize hn0 : (rd ns 0).1 = n at *
  generalize hpl0 : (rd ns 0).2.2 = pl at *
  go_wp2_with fail
  go_loopw [10, 11, 12] (fun v10 v11 v12 wr => ∃ (i p er cw : Nat) (ow : Option Addr) (zs : List (Nat × Nat)), v10 = .int .i64 (er : Int) ∧ v11 = .slice ow zs.length cw ∧ v12 = .int .u64 (i : Int) ∧ i ≤ n ∧ zs.length ≤ n ∧ Only w1.heap.size w5 wr ∧ DObj wr w1.heap.size ao cap ns p ∧ wr.ownsRow w5.heap.size 43 2 (.slice ow zs.length cw) zs.length (flat (zs.map ag)) ∧ ((er = 0 ∧ zs.length = i ∧ tk (RP ns) n pl = (zs.map ag ++ (tk (RP ns) (n - i) p).1, (tk (RP ns) (n - i) p).2.1, (tk (RP ns) (n - i) p).2.2)) ∨ (er ≠ 0 ∧ (tk (RP ns) n pl).2.1 = er))) (fun _ _ v12 _ => n - (intOf v12).toNat)
  case atStart => exact ⟨0, pl, 0, 0, none, [], rfl, rfl, rfl, Nat.zero_le _, Nat.zero_le _, Only.of_below (Below.refl _ _), HD5.out, World.ownsRow_nil _ _ _ _, .inl ⟨rfl, rfl, by simp⟩⟩
  case round =>
    obtain ⟨i, p, er, cw, ow, zs, rfl, rfl, rfl, hi, hxn, hO, hD, hown, hl⟩ := hrel
    have HOr := hide hO
    have HDr := hide hD
    have HWr := hide hown
    have HRr := hide (HR5.out.only hO (by omega) (Nat.le_refl _))
    have HLr := hide (below_only HL5.out hO hz1)
    have HVr := hide (own_only HO5.out hO (by omega))
    clear hO hD hown HR5 HL5 HO5 HD5
    by_cases her : er = 0
    · subst her
      have hl1 := hl.resolve_right (fun h => h.1 rfl)
      clear hl
      obtain ⟨_, rfl, hl2⟩ := hl1
      have HL1 := hide hl2
      clear hl2
      by_cases hlt : zs.length < n
      · have hlt' : (zs.length : Int) < (n : Int) := by omega
        obtain ⟨k, hk⟩ : ∃ k, n - zs.length = k + 1 := ⟨n - zs.length - 1, by omega⟩
        have hl2 := HL1.out
        rw [hk] at hl2
        have HL2 := hide hl2
        clear hl2 HL1
        by_cases hg1 : (rd ns p).2.1 = 0
        · have hpe : RP ns p = (ag ((rd ns p).1, (rd ns (rd ns p).2.2).1), (rd ns (rd ns p).2.2).2.1, (rd ns (rd ns p).2.2).2.2) := by
            have e1 : pa ns p = (rd ns p).1 := by unfold pa; rw [if_neg (by omega)]
            have e2 : pb ns p = (rd ns (rd ns p).2.2).1 := by unfold pb; rw [if_neg (by omega)]
            have e3 : pe ns p = (rd ns (rd ns p).2.2).2.1 := by unfold pe; rw [if_neg (by omega)]
            have e4 : pp ns p = (rd ns (rd ns p).2.2).2.2 := by unfold pp; rw [if_neg (by omega)]
            unfold RP ag; rw [e1, e2, e3, e4]
          have HPE := hide hpe
          have q0 := tk_ok (RP ns) k p
          have q1 := tk_bad (RP ns) k p
          have HQ0 := hide q0
          have HQ1 := hide q1
          clear hpe q0 q1
          go_wp2_with fail
          refine (dNum_c w1.heap.size cap ao ns p _ HDr.out).mono ?_
          rw [hg1]
          rintro e w6 ⟨rfl, ho6, hD6⟩
          have HD6 := hide hD6
          have HO6 := hide (HOr.out.trans ho6)
          have HW6 := hide (own_only HWr.out ho6 hz15)
          clear ho6 hD6 HDr HOr HWr HRr HLr HVr
          go_wp2_with fail
          refine (dNum_c w1.heap.size cap ao ns _ _ HD6.out).mono ?_
          rintro e w7 ⟨rfl, ho7, hD7⟩
          have HD7 := hide hD7
          have HO7 := hide (HO6.out.trans ho7)
          have HW7 := hide (own_only HW6.out ho7 hz15)
          have hz7 : w5.heap.size ≤ w7.heap.size := HO7.out.size
          clear ho7 hD7 HD6 HO6 HW6
          generalize (rd ns p).1 = x at *
          generalize (rd ns (rd ns p).2.2).1 = y at *
          generalize (rd ns (rd ns p).2.2).2.1 = re at *
          generalize (rd ns (rd ns p).2.2).2.2 = p2 at *
          obtain ⟨i0, hi0, hz0, hz1', hz2⟩ := info_parts info43
          go_wp2_with (at_builtin; refine wpList_append_lies _ rfl (.tmp 94) (.tmp 98) 40 rfl w5.heap.size 43 i0 (.agg #[.int .u64 0, .int .u64 0]) 2 16 Try.underlying40 hi0 hz0 hz1' hz2 rfl (by decide) (.slice ow zs.length cw) zs.length (flat (zs.map ag)) rfl (HW7.out.alloc _) ⟨w7.heap.size, 0, none⟩ 1 1 [.int .u64 (x : Int), .int .u64 (y : Int)] rfl rfl (cell_two_new _ _ _ _) (by intro u hu; simp at hu; rcases hu with rfl | rfl <;> rfl) (by decide) (by unfold maxLen; omega) (by omega) (by (simp; omega)) _ rfl ?_; intro g2 cap2 wn hown2 hg2 hgg hgl)
          have hro : ∀ j, (Value.slice ow zs.length cw).ownBlock = some j → w5.heap.size ≤ j := fun j hj => (HW7.out.lt j hj).1
          have hA : Below w7.heap.size w7 (w7.alloc (.cells #[.int .u64 (x : Int), .int .u64 (y : Int)] 43)) := by (focus repeat' (first | (with_reducible exact Below.refl _ _) | (with_reducible assumption) | (with_reducible refine Below.alloc ?_ ?_ _) | (with_reducible refine Below.drew ?_) | (with_reducible refine bdrewN ?_ _) | (with_reducible refine Below.setCell ?_ ?_ _) | (first | (with_reducible exact Nat.le_refl _) | (with_reducible assumption) | omega | (simp; omega) | (simp; done))))
          have HOn := hide (only_grown (HO7.out.trans_below hA) hg2 hro)
          have HDn := hide ((HD7.out.below hA).same (B := w5.heap.size) hg2.size hz15 (fun ad had hn => by have := hbl.out ad had hn; omega) (fun i hi => hg2.block i (by (simp; omega)) (fun e => by have := hro i e.symm; omega)))
          have hsnoc : flat ((zs ++ [(x, y)]).map ag) = flat (zs.map ag) ++ [.int .u64 (x : Int), .int .u64 (y : Int)] := by rw [List.map_append]; exact flat_snoc _ _ _
          have HWn := hide (show wn.ownsRow w5.heap.size 43 2 (.slice (some ⟨g2, 0, none⟩) (zs ++ [(x, y)]).length cap2) (zs ++ [(x, y)]).length (flat ((zs ++ [(x, y)]).map ag)) from by rw [hsnoc, List.length_append]; exact hown2)
          clear hown2 hg2 hgg hro hA hsnoc HW7 HD7 HO7
          go_roundw
          case rel =>
            refine ⟨zs.length + 1, p2, re, cap2, some ⟨g2, 0, none⟩, zs ++ [(x, y)], rfl, by (rw [List.length_append]; rfl), by go_num, by omega, by (rw [List.length_append]; simp; omega), HOn.out, HDn.out, HWn.out, ?_⟩
            have q0 := HQ0.out
            have q1 := HQ1.out
            rw [HPE.out] at q0 q1
            by_cases hre : re = 0
            · subst hre
              refine .inl ⟨rfl, by (rw [List.length_append]; rfl), ?_⟩
              rw [HL2.out, q0 rfl, show n - (zs.length + 1) = k from by omega]
              simp
            · refine .inr ⟨hre, ?_⟩
              rw [HL2.out]
              exact q1 hre
          case measure => (first | (simp [intOf]; done) | (simp [intOf]; omega))
        · have hg2 : ¬ ((rd ns p).2.1 : Int) = 0 := by omega
          have e3 : (RP ns p).2.1 = (rd ns p).2.1 := by show pe ns p = _; unfold pe; rw [if_pos hg1]
          have htk : (tk (RP ns) n pl).2.1 = (rd ns p).2.1 := by
            rw [HL2.out]
            show (tk (RP ns) (k + 1) p).2.1 = _
            rw [tk_bad _ _ _ (by rw [e3]; exact hg1), e3]
          have htl2 := HTL.out
          rw [if_pos (by rw [htk]; exact hg1), htk] at htl2
          rw [htl2] at HRr
          have HT2 := hide htl2
          clear htl2 HVr e3 htk HL2
          go_wp2_with fail
          refine (dNum_c w1.heap.size cap ao ns p _ HDr.out).mono ?_
          rintro e w6 ⟨rfl, ho6, hD6⟩
          have HRx := hide (HRr.out.only ho6 (by omega) (Nat.le_refl _))
          have HLx := hide (below_only HLr.out ho6 hz1)
          clear ho6 hD6 HDr HOr HWr HRr HLr
          rw [HT2.out]
          go_wp2_with (first | (go_at_call 23; go_in) | (go_at_call 24; refine (Place_any g w1.heap.size ns 0 _ HRx.out).mono ?_; rintro e w7 ⟨rfl, hb7⟩; have HL7 := hide (bstep HLx.out hb7); clear hb7) | (go_at_call 10; refine (known_c _).mono ?_; rintro e w8 ⟨rfl, hb8⟩; have HL8 := hide (bstep HL7.out hb8); clear hb8))
          go_ret
          exact ⟨rfl, HL8.out⟩
      · have htk : tk (RP ns) n pl = (zs.map ag, 0, p) := by
          rw [HL1.out, show n - zs.length = 0 from by omega]
          show (zs.map ag ++ [], 0, p) = _
          rw [List.append_nil]
        have htl2 := HTL.out
        rw [htk, if_neg (by simp)] at htl2
        rw [htl2] at HRr HVr
        have HT2 := hide htl2
        have hmap : (zs.map ag).length = zs.length := by simp
        clear htl2 HTL HL1
        rw [HT2.out]
        rw [hmap] at *
        have hlt' : ¬ ((zs.length : Int) < (n : Int)) := by omega
        obtain ⟨dl, dc, df, _, _, _, _, _⟩ := HDr.out
        have HR2 := hide HRr.out
        go_wp2_with fail
        go_quiet (first
          | (go_at_call 23; exact (num_n _ _).mono (fun e w' h => ⟨h.1, _, h.2⟩))
          | (go_at_call 24; exact (Place_q g w1.heap.size ns p _ (HR2.out.below (bdrewN (Below.refl _ _) _))).mono (fun e w' h => ⟨h.1, _, h.2⟩)))
        have HLd := hide (bdrewN HLr.out nq)
        by_cases hz0 : zs.length = 0
        · have hz0' : ¬ ((0 : Int) < (zs.length : Int)) := by omega
          go_wp2_with fail
          go_loopw [17] (fun v17 wq => v17 = .int .i64 0 ∧ wq = wr.drewN nq) (fun _ _ => 0)
          case atStart => exact ⟨rfl, rfl⟩
          case round =>
            obtain ⟨rfl, rfl⟩ := hrel
            go_wp2_with (go_at_call 10; refine (known_c _).mono ?_; rintro e w8 ⟨rfl, hb8⟩; have HL8 := hide (bstep HLd.out hb8); clear hb8)
            go_ret
            exact ⟨rfl, HL8.out⟩
        · have hpz : 0 < zs.length := by omega
          have hv1 : wr.ownsRow (w1.heap.size + 1) 43 2 (.slice vo zs.length vc) zs.length (flat (zs.map ag)) := by (have q := HVr.out; simp only [List.length_map] at q; exact q)
          obtain ⟨g1, c1, e1, z1, f1⟩ := own_pairs hv1 hpz
          obtain ⟨g3, c3, e3, z3, f3⟩ := own_pairs HWr.out hpz
          clear hv1
          obtain ⟨rfl, rfl⟩ : vo = some ⟨g1, 0, none⟩ ∧ vc = c1 := by (injection e1 with q1 q2 q3; exact ⟨q1, q3⟩)
          obtain ⟨rfl, rfl⟩ : ow = some ⟨g3, 0, none⟩ ∧ cw = c3 := by (injection e3 with q1 q2 q3; exact ⟨q1, q3⟩)
          have F1 := hide f1
          have F3 := hide f3
          clear f1 f3 e1 e3 dc df
          go_wp2_with fail
          go_loopw [17] (fun v17 wq => ∃ k : Nat, k ≤ zs.length ∧ v17 = .int .i64 (k : Int) ∧ Below wr.heap.size wr wq) (fun v17 _ => zs.length - (intOf v17).toNat)
          case atStart => exact ⟨0, Nat.zero_le _, rfl, bdrewN (Below.refl _ _) _⟩
          case round =>
            obtain ⟨k, hk, rfl, rB⟩ := hrel
            by_cases hlt2 : k < zs.length
            · have hk1 : (k : Int) < (zs.length : Int) := by omega
              have q1 := (rB.cell (p := ⟨g1, k * 2, none⟩) z1).trans (F1.out k hlt2).1
              have q2 := (rB.cell (p := ⟨g1, k * 2 + 1, none⟩) z1).trans (F1.out k hlt2).2
              have q3 := (rB.cell (p := ⟨g3, k * 2, none⟩) z3).trans (F3.out k hlt2).1
              have q4 := (rB.cell (p := ⟨g3, k * 2 + 1, none⟩) z3).trans (F3.out k hlt2).2
              generalize (zs.getD k (0, 0)).1 = x1 at *
              generalize (zs.getD k (0, 0)).2 = x2 at *
              have Q43 := neq43 (x1 : Int) (x2 : Int)
              have Q44 := eq43 9998 (x1 : Int) (x2 : Int)
              go_wp2_with fail
              go_quiet (fail)
              go_wp2
              go_roundw
              case rel => exact ⟨k + 1, by omega, by go_num, by (focus repeat' (first | (with_reducible exact Below.refl _ _) | (with_reducible assumption) | (with_reducible refine Below.alloc ?_ ?_ _) | (with_reducible refine Below.drew ?_) | (with_reducible refine bdrewN ?_ _) | (with_reducible refine Below.setCell ?_ ?_ _) | (first | (with_reducible exact Nat.le_refl _) | (with_reducible assumption) | omega | (simp; omega) | (simp; done))))⟩
              case measure => (first | (simp [intOf]; done) | (simp [intOf]; omega))
            · have hk1 : ¬ (k : Int) < (zs.length : Int) := by omega
              have HLq := hide (HLr.out.trans (rB.mono HLr.out.size))
              go_wp2_with (go_at_call 10; refine (known_c _).mono ?_; rintro e w8 ⟨rfl, hb8⟩; have HL8 := hide (bstep HLq.out hb8); clear hb8)
              go_ret
              exact ⟨rfl, HL8.out⟩
    · have hl1 := hl.resolve_left (fun h => her h.1)
      have her2 : ¬ (er : Int) = 0 := by omega
      have htl2 := HTL.out
      rw [if_pos (by rw [hl1.2]; exact her), hl1.2] at htl2
      rw [htl2] at HRr
      have hHR := hide HRr.out
      have HRx := hHR
      have HLx := HLr
      have HT2 := hide htl2
      clear htl2 hl HVr
      rw [HT2.out]
      go_wp2_with (first | (go_at_call 23; go_in) | (go_at_call 24; refine (Place_any g w1.heap.size ns 0 _ HRx.out).mono ?_; rintro e w7 ⟨rfl, hb7⟩; have HL7 := hide (bstep HLx.out hb7); clear hb7) | (go_at_call 10; refine (known_c _).mono ?_; rintro e w8 ⟨rfl, hb8⟩; have HL8 := hide (bstep HL7.out hb8); clear hb8))
      go_ret
      exact ⟨rfl, HL8.out⟩
end Go.Proofs.Ytajkgecegefnmaa
