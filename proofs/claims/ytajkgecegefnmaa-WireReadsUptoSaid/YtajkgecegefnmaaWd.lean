import Derived.Deep.AppendLies
import Derived.Test.YtajkgecegefnmaaWb
namespace Go.Proofs.Ytajkgecegefnmaa
open Go.ChangeShapes Go.WideShapes Go.ChangeAt Go.RowKit Go.Deep
set_option linter.unusedSimpArgs false
set_option linter.unusedVariables false

set_option maxRecDepth 100000 in
set_option maxHeartbeats 1000000 in
theorem dN_S_neg (h cap : Nat) (ao : Option Addr) (ns : List Nat) (a : Nat) (m : Int) (w : World) (hD : DObj w h ao cap ns a) (hm : m < 0) : Calls Try.prog 68 #[.pointer (some ⟨h, 0, none⟩), .int .i64 m, .int .i64 9] w (fun e w' => ∃ v, e = .returned (.tuple #[v, .int .i64 2]) ∧ Only h w w' ∧ DObj w' h ao cap ns a ∧ w'.ownsRow w.heap.size 9 1 v ([] : List Value).length ([] : List Value)) := by
  have hD' := hide hD
  have hsm := hide hD.small
  have hr0 := rd_lt ns a hD.small
  have hp0 := rd_place ns a hD.le
  have hao := hide (show ∀ ad, ao = some ad → ns ≠ [] → ad.block < w.heap.size from fun ad had hn => by
    obtain ⟨b, off, h1, h2, _⟩ := hD.bytes hn
    rw [h1] at had; cases had; exact h2)
  obtain ⟨d1, d2, d3, d4, d5, d6, d7, d8⟩ := hD
  clear d4 d5
  go_enter Try.func68, Try.ntmps68
  go_wp2
  go_ret2
  exact ⟨_, rfl, Only.of_below (Below.refl _ _), hD'.out, by (refine ⟨rfl, .inl ⟨rfl, rfl⟩⟩)⟩

set_option maxRecDepth 100000 in
set_option maxHeartbeats 2000000 in
theorem dN_S_A (h cap : Nat) (ao : Option Addr) (ns : List Nat) (a : Nat) (m : Nat) (w : World) (hD : DObj w h ao cap ns a) (hm : m ≤ 9223372036854775807) (hE : (rd ns a).2.1 ≠ 0) : Calls Try.prog 68 #[.pointer (some ⟨h, 0, none⟩), .int .i64 (m : Int), .int .i64 9] w (fun e w' => ∃ v, e = .returned (.tuple #[v, .int .i64 ((rd ns a).2.1 : Int)]) ∧ Only h w w' ∧ DObj w' h ao cap ns a ∧ w'.ownsRow w.heap.size 9 1 v ([] : List Value).length ([] : List Value)) := by
  have hE' : ¬ ((rd ns a).2.1 : Int) = 0 := by omega
  have hD' := hide hD
  have hsm := hide hD.small
  have hr0 := rd_lt ns a hD.small
  have hp0 := rd_place ns a hD.le
  have hao := hide (show ∀ ad, ao = some ad → ns ≠ [] → ad.block < w.heap.size from fun ad had hn => by
    obtain ⟨b, off, h1, h2, _⟩ := hD.bytes hn
    rw [h1] at had; cases had; exact h2)
  obtain ⟨d1, d2, d3, d4, d5, d6, d7, d8⟩ := hD
  clear d4 d5
  go_enter Try.func68, Try.ntmps68
  go_wp2_with fail
  refine (dNum_c h cap _ ns a _ hD'.out).mono ?_
  rintro e w1 ⟨rfl, ho1, hD1⟩
  have HD1 := hide hD1
  have HO1 := hide ho1
  clear hD1 ho1
  obtain ⟨e1, e2, e3, _, _, _, _, _⟩ := HD1.out
  go_wp2_with fail
  go_loopw [10, 11, 12] (fun v1 v2 v3 wr => v1 = .int .i64 ((rd ns a).2.1 : Int) ∧ v2 = .slice none 0 0 ∧ v3 = .int .u64 0 ∧ wr = w1) (fun _ _ _ _ => 0)
  case atStart => exact ⟨rfl, rfl, rfl, rfl⟩
  case round =>
    obtain ⟨rfl, rfl, rfl, rfl⟩ := hrel
    go_wp2
    go_ret2
    exact ⟨_, rfl, HO1.out.set 1 _, HD1.out.move d6, by (refine ⟨rfl, .inl ⟨rfl, rfl⟩⟩)⟩

set_option maxRecDepth 100000 in
set_option maxHeartbeats 2000000 in
theorem dN_S_B (h cap : Nat) (ao : Option Addr) (ns : List Nat) (a : Nat) (m : Nat) (w : World) (hD : DObj w h ao cap ns a) (hm : m ≤ 9223372036854775807) (hE : (rd ns a).2.1 = 0) (hM : m < (rd ns a).1) : Calls Try.prog 68 #[.pointer (some ⟨h, 0, none⟩), .int .i64 (m : Int), .int .i64 9] w (fun e w' => ∃ v, e = .returned (.tuple #[v, .int .i64 3]) ∧ Only h w w' ∧ DObj w' h ao cap ns a ∧ w'.ownsRow w.heap.size 9 1 v ([] : List Value).length ([] : List Value)) := by
  have hM' : (m : Int) < ((rd ns a).1 : Int) := by omega
  have hD' := hide hD
  have hsm := hide hD.small
  have hr0 := rd_lt ns a hD.small
  have hp0 := rd_place ns a hD.le
  have hao := hide (show ∀ ad, ao = some ad → ns ≠ [] → ad.block < w.heap.size from fun ad had hn => by
    obtain ⟨b, off, h1, h2, _⟩ := hD.bytes hn
    rw [h1] at had; cases had; exact h2)
  obtain ⟨d1, d2, d3, d4, d5, d6, d7, d8⟩ := hD
  clear d4 d5
  go_enter Try.func68, Try.ntmps68
  go_wp2_with fail
  refine (dNum_c h cap _ ns a _ hD'.out).mono ?_
  rw [hE]
  rintro e w1 ⟨rfl, ho1, hD1⟩
  have HD1 := hide hD1
  have HO1 := hide ho1
  clear hD1 ho1
  obtain ⟨e1, e2, e3, _, _, _, _, _⟩ := HD1.out
  go_wp2_with fail
  go_loopw [10, 11, 12] (fun v1 v2 v3 wr => v1 = .int .i64 3 ∧ v2 = .slice none 0 0 ∧ v3 = .int .u64 0 ∧ wr = w1) (fun _ _ _ _ => 0)
  case atStart => exact ⟨rfl, rfl, rfl, rfl⟩
  case round =>
    obtain ⟨rfl, rfl, rfl, rfl⟩ := hrel
    go_wp2
    go_ret2
    exact ⟨_, rfl, HO1.out.set 1 _, HD1.out.move d6, by (refine ⟨rfl, .inl ⟨rfl, rfl⟩⟩)⟩

set_option maxRecDepth 100000 in
set_option maxHeartbeats 2000000 in
theorem dN_S_C (h cap : Nat) (ao : Option Addr) (ns : List Nat) (a : Nat) (m : Nat) (w : World) (hD : DObj w h ao cap ns a) (hm : m ≤ 9223372036854775807) (hE : (rd ns a).2.1 = 0) (hM : ¬ m < (rd ns a).1) (hL : ns.length - (rd ns a).2.2 < (rd ns a).1) : Calls Try.prog 68 #[.pointer (some ⟨h, 0, none⟩), .int .i64 (m : Int), .int .i64 9] w (fun e w' => ∃ v, e = .returned (.tuple #[v, .int .i64 110]) ∧ Only h w w' ∧ DObj w' h ao cap ns a ∧ w'.ownsRow w.heap.size 9 1 v ([] : List Value).length ([] : List Value)) := by
  have hM' : ¬ (m : Int) < ((rd ns a).1 : Int) := by omega
  have hL' : ((ns.length - (rd ns a).2.2 : Nat) : Int) < ((rd ns a).1 : Int) := by omega
  have hD' := hide hD
  have hsm := hide hD.small
  have hr0 := rd_lt ns a hD.small
  have hp0 := rd_place ns a hD.le
  have hao := hide (show ∀ ad, ao = some ad → ns ≠ [] → ad.block < w.heap.size from fun ad had hn => by
    obtain ⟨b, off, h1, h2, _⟩ := hD.bytes hn
    rw [h1] at had; cases had; exact h2)
  obtain ⟨d1, d2, d3, d4, d5, d6, d7, d8⟩ := hD
  clear d4 d5
  have hk : ((ns.length : Int) - ((rd ns a).2.2 : Int)) = ((ns.length - (rd ns a).2.2 : Nat) : Int) := by omega
  have HK := hide hk
  clear hk
  go_enter Try.func68, Try.ntmps68
  go_wp2_with fail
  refine (dNum_c h cap _ ns a _ hD'.out).mono ?_
  rw [hE]
  rintro e w1 ⟨rfl, ho1, hD1⟩
  have HD1 := hide hD1
  have HO1 := hide ho1
  clear hD1 ho1
  obtain ⟨e1, e2, e3, _, _, _, _, _⟩ := HD1.out
  go_wp2_with fail
  refine (dLeft_c h cap _ ns _ _ HD1.out).mono ?_
  rw [HK.out]
  rintro e w2 ⟨rfl, hb2⟩
  have HD2 := hide (HD1.out.below hb2)
  have HO2 := hide (HO1.out.trans_below hb2)
  clear hb2 e1 e2 e3
  obtain ⟨e1, e2, e3, _, _, _, _, _⟩ := HD2.out
  go_wp2_with fail
  go_loopw [10, 11, 12] (fun v1 v2 v3 wr => v1 = .int .i64 110 ∧ v2 = .slice none 0 0 ∧ v3 = .int .u64 0 ∧ wr = w2) (fun _ _ _ _ => 0)
  case atStart => exact ⟨rfl, rfl, rfl, rfl⟩
  case round =>
    obtain ⟨rfl, rfl, rfl, rfl⟩ := hrel
    go_wp2
    go_ret2
    exact ⟨_, rfl, HO2.out.set 1 _, HD2.out.move d6, by (refine ⟨rfl, .inl ⟨rfl, rfl⟩⟩)⟩

set_option maxRecDepth 100000 in
set_option maxHeartbeats 4000000 in
theorem dN_S_D (h cap : Nat) (ao : Option Addr) (ns : List Nat) (a : Nat) (m : Nat) (w : World) (hD : DObj w h ao cap ns a) (hm : m ≤ 9223372036854775807) (hlen : ns.length ≤ 1099511627776) (hE : (rd ns a).2.1 = 0) (hM : ¬ m < (rd ns a).1) (hL : ¬ ns.length - (rd ns a).2.2 < (rd ns a).1) : Calls Try.prog 68 #[.pointer (some ⟨h, 0, none⟩), .int .i64 (m : Int), .int .i64 9] w (fun e w' => ∃ v, e = .returned (.tuple #[v, .int .i64 ((tl (RS ns) ns a m).2.1 : Int)]) ∧ Only h w w' ∧ DObj w' h ao cap ns (tl (RS ns) ns a m).2.2 ∧ w'.ownsRow w.heap.size 9 1 v (tl (RS ns) ns a m).1.length (tl (RS ns) ns a m).1) := by
  have hM' : ¬ (m : Int) < ((rd ns a).1 : Int) := by omega
  have hL' : ¬ ((ns.length - (rd ns a).2.2 : Nat) : Int) < ((rd ns a).1 : Int) := by omega
  have hlg : lg ns a m = ((rd ns a).1, 0, (rd ns a).2.2) := by unfold lg; rw [if_neg (by omega), if_neg hM, if_neg hL]
  have htl : (tl (RS ns) ns a m) = if (tk (RS ns) (rd ns a).1 (rd ns a).2.2).2.1 ≠ 0 then ([], (tk (RS ns) (rd ns a).1 (rd ns a).2.2).2.1, a) else tk (RS ns) (rd ns a).1 (rd ns a).2.2 := by unfold tl; rw [hlg, if_neg (by simp)]
  have HTL := hide htl
  clear htl hlg
  have hD' := hide hD
  have hsm := hide hD.small
  have hr0 := rd_lt ns a hD.small
  have hp0 := rd_place ns a hD.le
  have hao := hide (show ∀ ad, ao = some ad → ns ≠ [] → ad.block < w.heap.size from fun ad had hn => by
    obtain ⟨b, off, h1, h2, _⟩ := hD.bytes hn
    rw [h1] at had; cases had; exact h2)
  obtain ⟨d1, d2, d3, d4, d5, d6, d7, d8⟩ := hD
  clear d4 d5
  have hk : ((ns.length : Int) - ((rd ns a).2.2 : Int)) = ((ns.length - (rd ns a).2.2 : Nat) : Int) := by omega
  have HK := hide hk
  clear hk
  go_enter Try.func68, Try.ntmps68
  go_wp2_with fail
  refine (dNum_c h cap _ ns a _ hD'.out).mono ?_
  rw [hE]
  rintro e w1 ⟨rfl, ho1, hD1⟩
  have HD1 := hide hD1
  have HO1 := hide ho1
  clear hD1 ho1
  obtain ⟨e1, e2, e3, _, _, _, _, _⟩ := HD1.out
  go_wp2_with fail
  refine (dLeft_c h cap _ ns _ _ HD1.out).mono ?_
  rw [HK.out]
  rintro e w2 ⟨rfl, hb2⟩
  have HD2 := hide (HD1.out.below hb2)
  have HO2 := hide (HO1.out.trans_below hb2)
  clear hb2 e1 e2 e3
  obtain ⟨e1, e2, e3, _, _, _, _, _⟩ := HD2.out
  have hz2 : w.heap.size ≤ w2.heap.size := HO2.out.size
  generalize hn0 : (rd ns a).1 = n at *
  generalize hpl0 : (rd ns a).2.2 = pl at *
  have hnn : n ≤ 1099511627776 := by omega
  clear e1 e2 e3 HD1 HO1
  go_wp2_with fail
  go_loopw [10, 11, 12] (fun v1 v2 v3 wr => ∃ (i p er : Nat) (xs : List Value), v1 = .int .i64 (er : Int) ∧ v3 = .int .u64 (i : Int) ∧ i ≤ n ∧ xs.length ≤ n ∧ Only h w wr ∧ DObj wr h ao cap ns p ∧ wr.ownsRow w.heap.size 9 1 v2 xs.length xs ∧ ((er = 0 ∧ xs.length = i ∧ tk (RS ns) n pl = (xs ++ (tk (RS ns) (n - i) p).1, (tk (RS ns) (n - i) p).2.1, (tk (RS ns) (n - i) p).2.2)) ∨ (er ≠ 0 ∧ (tk (RS ns) n pl).2.1 = er))) (fun _ _ v3 _ => n - (intOf v3).toNat)
  case atStart => exact ⟨0, pl, 0, [], rfl, rfl, Nat.zero_le _, Nat.zero_le _, HO2.out, HD2.out, World.ownsRow_nil _ _ _ _, .inl ⟨rfl, rfl, by simp⟩⟩
  case round =>
    obtain ⟨i, p, er, xs, rfl, rfl, hi, hxn, hO, hD, hown, hl⟩ := hrel
    have HOr := hide hO
    have HDr := hide hD
    have HWr := hide hown
    obtain ⟨k1, k2, k3, _, _, _, _, _⟩ := hD
    clear hO hown HO2 HD2
    by_cases her : er = 0
    · subst her
      have hl1 := hl.resolve_right (fun h => h.1 rfl)
      clear hl
      obtain ⟨_, rfl, hl2⟩ := hl1
      have HL1 := hide hl2
      clear hl2
      by_cases hlt : xs.length < n
      · have hlt' : (xs.length : Int) < (n : Int) := by omega
        obtain ⟨k, hk⟩ : ∃ k, n - xs.length = k + 1 := ⟨n - xs.length - 1, by omega⟩
        have hl2 := HL1.out
        rw [hk] at hl2
        have HL2 := hide hl2
        have q0 := tk_ok (RS ns) k p
        have q1 := tk_bad (RS ns) k p
        have HQ0 := hide q0
        have HQ1 := hide q1
        have hRp : RS ns p = (.string (bstr (tx ns p 9).1), (tx ns p 9).2.1, (tx ns p 9).2.2) := rfl
        have HRp := hide hRp
        clear hRp q0 q1 hl2 HL1 k2 k3
        go_wp2_with fail
        refine (dText_c h cap _ ns p 9 _ HDr.out (by decide)).mono ?_
        rintro e w6 ⟨rfl, ho6, hD6⟩
        have HD6 := hide hD6
        have HO6 := hide (HOr.out.trans ho6)
        have HW6 := hide (own_only HWr.out ho6 d1)
        have hz6 : w.heap.size ≤ w6.heap.size := HO6.out.size
        clear ho6 hD6 HDr HOr HWr
        generalize bstr (tx ns p 9).1 = rv at *
        generalize (tx ns p 9).2.1 = re at *
        generalize (tx ns p 9).2.2 = rp at *
        obtain ⟨i0, hi0, hz0, hz1', hz2'⟩ := info_parts info9
        go_wp2_with (at_builtin; refine wpList_append_lies _ rfl (.tmp 58) (.tmp 60) 58 rfl w.heap.size 9 i0 (.string ⟨#[]⟩) 1 16 Try.underlying58 hi0 hz0 hz1' hz2' rfl (by decide) _ xs.length xs rfl (HW6.out.alloc _) ⟨w6.heap.size, 0, none⟩ 1 1 [.string rv] rfl rfl (cell_one_new _ _ _) (by intro u hu; simp at hu; subst hu; rfl) (by decide) (by unfold maxLen; omega) (by omega) (by (simp; omega)) _ rfl ?_; intro g2 cap2 wn hown2 hg2 hgg hgl)
        have hro := fun j hj => (HW6.out.lt j hj).1
        have hA : Below w6.heap.size w6 (w6.alloc (.cells #[.string rv] 9)) := by (focus repeat' (first | (with_reducible exact Below.refl _ _) | (with_reducible assumption) | (with_reducible refine Below.alloc ?_ ?_ _) | (with_reducible refine Below.drew ?_) | (with_reducible refine bdrewN ?_ _) | (with_reducible refine Below.setCell ?_ ?_ _) | (first | (with_reducible exact Nat.le_refl _) | (with_reducible assumption) | omega | (simp; omega) | (simp; done))))
        have HOn := hide (only_grown (HO6.out.trans_below hA) hg2 hro)
        have HDn := hide ((HD6.out.below hA).same (B := w.heap.size) hg2.size d1 hao.out (fun i hi => hg2.block i (by (simp; omega)) (fun e => by have := hro i e.symm; omega)))
        have HWn := hide hown2
        clear hown2 hg2 hgg hro hA HW6 HD6 HO6
        go_roundw
        case rel =>
          refine ⟨xs.length + 1, rp, re, xs ++ [.string rv], rfl, by go_num, by omega, by (rw [List.length_append]; simp; omega), HOn.out, HDn.out, by (rw [List.length_append]; exact HWn.out), ?_⟩
          have q0 := HQ0.out
          have q1 := HQ1.out
          rw [HRp.out] at q0 q1
          by_cases hre : re = 0
          · subst hre
            refine .inl ⟨rfl, by (rw [List.length_append]; rfl), ?_⟩
            rw [HL2.out, q0 rfl, show n - (xs.length + 1) = k from by omega]
            simp
          · refine .inr ⟨hre, ?_⟩
            rw [HL2.out]
            exact q1 hre
        case measure => (first | (simp [intOf]; done) | (simp [intOf]; omega))
      · have hlt' : ¬ ((xs.length : Int) < (n : Int)) := by omega
        have htk : tk (RS ns) n pl = (xs, 0, p) := by
          rw [HL1.out, show n - xs.length = 0 from by omega]
          show (xs ++ [], 0, p) = _
          rw [List.append_nil]
        have htl2 := HTL.out
        rw [htk, if_neg (by simp)] at htl2
        have HT2 := hide htl2
        clear htl2 htk HL1
        go_wp2
        go_ret2
        rw [HT2.out]
        exact ⟨_, rfl, HOr.out, HDr.out, HWr.out⟩
    · have hl1 := hl.resolve_left (fun h => her h.1)
      have her2 : ¬ (er : Int) = 0 := by omega
      have htl2 := HTL.out
      rw [if_pos (by rw [hl1.2]; exact her), hl1.2] at htl2
      have HT2 := hide htl2
      clear htl2 hl
      go_wp2
      go_ret2
      rw [HT2.out]
      exact ⟨_, rfl, HOr.out.set 1 _, HDr.out.move d6, by (refine ⟨rfl, .inl ⟨rfl, rfl⟩⟩)⟩

theorem dN_S_c (h cap : Nat) (ao : Option Addr) (ns : List Nat) (a : Nat) (m : Nat) (w : World) (hD : DObj w h ao cap ns a) (hm : m ≤ 9223372036854775807) (hlen : ns.length ≤ 1099511627776) : Calls Try.prog 68 #[.pointer (some ⟨h, 0, none⟩), .int .i64 (m : Int), .int .i64 9] w (fun e w' => ∃ v, e = .returned (.tuple #[v, .int .i64 ((tl (RS ns) ns a m).2.1 : Int)]) ∧ Only h w w' ∧ DObj w' h ao cap ns (tl (RS ns) ns a m).2.2 ∧ w'.ownsRow w.heap.size 9 1 v (tl (RS ns) ns a m).1.length (tl (RS ns) ns a m).1) := by
  by_cases hE : (rd ns a).2.1 = 0
  · by_cases hM : m < (rd ns a).1
    · have q : (lg ns a m).2.1 = 3 := by unfold lg; rw [if_neg (by omega), if_pos hM]
      have t : (tl (RS ns) ns a m) = ([], 3, a) := by unfold tl; rw [if_pos (by rw [q]; decide), q]
      rw [t]; exact dN_S_B h cap ao ns a m w hD hm hE hM
    · by_cases hL : ns.length - (rd ns a).2.2 < (rd ns a).1
      · have q : (lg ns a m).2.1 = 110 := by unfold lg; rw [if_neg (by omega), if_neg hM, if_pos hL]
        have t : (tl (RS ns) ns a m) = ([], 110, a) := by unfold tl; rw [if_pos (by rw [q]; decide), q]
        rw [t]; exact dN_S_C h cap ao ns a m w hD hm hE hM hL
      · exact dN_S_D h cap ao ns a m w hD hm hlen hE hM hL
  · have q : (lg ns a m).2.1 = (rd ns a).2.1 := by unfold lg; rw [if_pos hE]
    have t : (tl (RS ns) ns a m) = ([], (rd ns a).2.1, a) := by unfold tl; rw [if_pos (by rw [q]; exact hE), q]
    rw [t]; exact dN_S_A h cap ao ns a m w hD hm hE
end Go.Proofs.Ytajkgecegefnmaa
