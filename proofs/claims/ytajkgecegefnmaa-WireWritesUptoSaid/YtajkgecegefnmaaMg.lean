/- Contracts of the layer's functions, each proved once, in the order in which they are used. No condition beyond each theorem's own. -/
import Derived.Laws.Closers25b
import Derived.Test.YtajkgecegefnmaaMd
import Derived.Test.YtajkgecegefnmaaMf
import Derived.Deep.AppendLies
import Derived.Maps.AppendAt
namespace Go.Proofs.Ytajkgecegefnmaa
open Go.ChangeShapes Go.WideShapes Go.ChangeAt Go.RowKit Go.Deep
set_option linter.unusedSimpArgs false
set_option linter.unusedVariables false

/-- two writers, apart, both new since w0 -/
structure KW (w0 w : World) (g1 : Nat) (v1 : Value) (b1 : List Nat) (g2 : Nat) (v2 : Value) (b2 : List Nat) : Prop where
  wr1 : WObj w g1 v1 b1
  wr2 : WObj w g2 v2 b2
  n0 : g1 ≠ g2
  n1 : v1.ownBlock ≠ some g2
  n2 : v2.ownBlock ≠ some g1
  n3 : ∀ k, v1.ownBlock = some k → v2.ownBlock ≠ some k
  low : Below w0.heap.size w0 w
  lo1 : w0.heap.size ≤ g1
  lo2 : w0.heap.size ≤ g2
  lo3 : ∀ k, v1.ownBlock = some k → w0.heap.size ≤ k
  lo4 : ∀ k, v2.ownBlock = some k → w0.heap.size ≤ k
theorem KW.symm {w0 w : World} {g1 : Nat} {v1 : Value} {b1 : List Nat} {g2 : Nat} {v2 : Value} {b2 : List Nat} (h : KW w0 w g1 v1 b1 g2 v2 b2) : KW w0 w g2 v2 b2 g1 v1 b1 :=
  ⟨h.wr2, h.wr1, h.n0.symm, h.n2, h.n1, fun k hk e => h.n3 k e hk, h.low, h.lo2, h.lo1, h.lo4, h.lo3⟩
theorem KW.below {w0 w w' : World} {g1 : Nat} {v1 : Value} {b1 : List Nat} {g2 : Nat} {v2 : Value} {b2 : List Nat} (h : KW w0 w g1 v1 b1 g2 v2 b2) (hb : Below w.heap.size w w') : KW w0 w' g1 v1 b1 g2 v2 b2 :=
  ⟨h.wr1.below hb, h.wr2.below hb, h.n0, h.n1, h.n2, h.n3, h.low.trans (hb.mono h.low.size), h.lo1, h.lo2, h.lo3, h.lo4⟩
theorem KW.write1 {w0 w w' : World} {g1 : Nat} {v1 v' : Value} {b1 b' : List Nat} {g2 : Nat} {v2 : Value} {b2 : List Nat} (h : KW w0 w g1 v1 b1 g2 v2 b2) (hW : WObj w' g1 v' b') (hk : WKeep g1 v1 w w') (hn : Near w v1 v') : KW w0 w' g1 v' b' g2 v2 b2 := by
  have hz := hk.2.2.2.1
  have hl := h.low.size
  have hg2 := h.wr2.1
  have hv2 : ∀ k, v2.ownBlock = some k → k < w.heap.size := fun k hk => (h.wr2.2.2.2.1.lt k hk).2
  refine ⟨hW, h.wr2.same hz (hk.2.2.2.2 g2 hg2 h.n0.symm (fun e => h.n1 e.symm)) (fun k e hlt => hk.2.2.2.2 k hlt (fun q => h.n2 (by rw [e, q])) (fun q => h.n3 k q.symm e)), h.n0, ?_, h.n2, ?_, h.low.trans ⟨hk.1, hk.2.1, hk.2.2.1, hz, fun i hi => hk.2.2.2.2 i (by omega) (fun e => by have := h.lo1; omega) (fun e => by have := h.lo3 i e.symm; omega)⟩, h.lo1, h.lo2, ?_, h.lo4⟩
  · rcases hn with q | ⟨k, q, hk⟩
    · rw [q]; exact h.n1
    · rw [q]; intro e; cases e; omega
  · rcases hn with q | ⟨k, q, hk⟩
    · rw [q]; exact h.n3
    · rw [q]; intro j e e2; cases e; have := hv2 k e2; omega
  · rcases hn with q | ⟨k, q, hk⟩
    · rw [q]; exact h.lo3
    · rw [q]; intro j e; cases e; omega
theorem KW.write2 {w0 w w' : World} {g1 : Nat} {v1 v' : Value} {b1 b' : List Nat} {g2 : Nat} {v2 : Value} {b2 : List Nat} (h : KW w0 w g1 v1 b1 g2 v2 b2) (hW : WObj w' g2 v' b') (hk : WKeep g2 v2 w w') (hn : Near w v2 v') : KW w0 w' g1 v1 b1 g2 v' b' := (h.symm.write1 hW hk hn).symm
theorem form_mono {x y : Nat} (h : x ≤ y) : (form x).length ≤ (form y).length := by
  have hmx := many_pos x
  have hmy := many_pos y
  unfold form
  by_cases h1 : x ≤ 247 <;> by_cases h2 : y ≤ 247
  · rw [if_pos h1, if_pos h2]; simp
  · rw [if_pos h1, if_neg h2]; simp
  · omega
  · rw [if_neg h1, if_neg h2]
    simp only [List.length_cons, hi_length]
    rcases Nat.lt_or_ge (many y) (many x) with q | q
    · have a := many_lt y
      have b := many_ge x (by omega)
      have c : 256 ^ many y ≤ 256 ^ (many x - 1) := Nat.pow_le_pow_right (by decide) (by omega)
      omega
    · omega
theorem _root_.Go.World.ownsRow.kept_below {w w' : World} {base : Nat} {e : TypeId} {size : Nat} {v : Value} {n : Nat} {xs : List Value} (h : w.ownsRow base e size v n xs) (hb : Below w.heap.size w w') : w'.ownsRow base e size v n xs := own_same h (fun k _ hlt => hb.block k hlt)
theorem i64_of (x : Nat) : ∃ s : Int, IntKind.i64.wrap (x : Int) = s ∧ -9223372036854775808 ≤ s ∧ s ≤ 9223372036854775807 := ⟨_, rfl, (wrap_within .i64 _).1, (wrap_within .i64 _).2⟩

set_option maxRecDepth 100000 in
set_option maxHeartbeats 4000000 in
theorem WireOrders_c (x y : Nat) (w : World) (hx : x < 18446744073709551616) (hy : y < 18446744073709551616) : Calls Try.prog 3 #[.int .u64 (x : Int), .int .u64 (y : Int)] w (fun e w' => e = .returned (.bool true) ∧ Below w.heap.size w w') := by
  go_enter Try.func3, Try.ntmps3
  go_wp2_with fail
  refine (NewWriter_c _).mono ?_
  rintro e w1 ⟨g1, rfl, hg1, hb1, hW1⟩
  have HW1 := hide hW1
  have HB1 := hide hb1
  have z1 := hb1.size
  have hg1z := hW1.1
  clear hW1 hb1
  go_wp2_with fail
  refine (NewWriter_c _).mono ?_
  rintro e w2 ⟨g2, rfl, hg2, hb2, hW2⟩
  have HK2 := hide (show KW w w2 g1 (.slice none 0 0) [] g2 (.slice none 0 0) [] from ⟨HW1.out.below hb2, hW2, by omega, by simp [Value.ownBlock], by simp [Value.ownBlock], by simp [Value.ownBlock], HB1.out.trans (hb2.mono z1), hg1, by omega, by simp [Value.ownBlock], by simp [Value.ownBlock]⟩)
  clear HW1 HB1 z1 hg1z hg2 hb2 hW2 hg1
  go_wp2_with fail
  refine (known_c _).mono ?_
  rintro e w3 ⟨rfl, hb3⟩
  have HK3 := hide (HK2.out.below hb3)
  clear HK2 hb3
  go_wp2_with fail
  refine (Number_c g1 (.slice none 0 0) [] x _ HK3.out.wr1 (by decide) hx).mono ?_
  rintro e w4 ⟨v4, rfl, hW4, hk4, hn4⟩
  have HK4 := hide (HK3.out.write1 hW4 hk4 hn4)
  clear HK3 hW4 hk4 hn4
  go_wp2_with fail
  refine (Number_c g2 (.slice none 0 0) [] y _ HK4.out.wr2 (by decide) hy).mono ?_
  rintro e w5 ⟨v5, rfl, hW5, hk5, hn5⟩
  have HK5 := hide (HK4.out.write2 hW5 hk5 hn5)
  clear HK4 hW5 hk5 hn5
  rw [List.nil_append, List.nil_append] at HK5
  have fpx := form_pos x
  have fpy := form_pos y
  have flx := form_le hx
  have fly := form_le hy
  go_upto_region 6 with fail
  go_cut [7, 8] (fun v7 v8 wx => v7 = .string (bstr (form x)) ∧ v8 = .string (bstr (form y)) ∧ Below w5.heap.size w5 wx)
  case first =>
    go_region_with (first
      | (go_at_call_of 12 g1; (apply Calls.mono; focus (exact (Bytes_c g1 v4 (form x) _ (HK5.out.wr1.below (by first | exact drewB _ | exact HBb)) (by omega) fpx))); rintro e wa ⟨ga, capa, rfl, _, owna, hba⟩; have HBa : Below w5.heap.size w5 wa := bstep (by first | exact drewB _ | exact HBb) hba; have CVa := conv28 wa ga 0 capa (form x) (own_conv owna fpx); have CAa := hide (fun (w' : World) (hb : Below wa.heap.size wa w') => conv28 w' ga 0 capa (form x) (own_conv (owna.kept_below hb) fpx)); (try have CVba := CBb.out _ hba); clear owna hba)
      | (go_at_call_of 12 g2; (apply Calls.mono; focus (exact (Bytes_c g2 v5 (form y) _ (HK5.out.wr2.below (by first | exact drewB _ | exact HBa)) (by omega) fpy))); rintro e wb ⟨gb, capb, rfl, _, ownb, hbb⟩; have HBb : Below w5.heap.size w5 wb := bstep (by first | exact drewB _ | exact HBa) hbb; have CVb := conv28 wb gb 0 capb (form y) (own_conv ownb fpy); have CBb := hide (fun (w' : World) (hb : Below wb.heap.size wb w') => conv28 w' gb 0 capb (form y) (own_conv (ownb.kept_below hb) fpy)); (try have CVab := CAa.out _ hbb); clear ownb hbb))
    all_goals
      go_wp2_with fail
      go_meet
      exact ⟨rfl, rfl, by first | exact HBa | exact HBb | (focus repeat' (first | (with_reducible exact Below.refl _ _) | (with_reducible assumption) | (with_reducible refine Below.alloc ?_ ?_ _) | (with_reducible refine Below.drew ?_) | (with_reducible refine bdrewN ?_ _) | (with_reducible refine Below.setCell ?_ ?_ _) | (first | (with_reducible exact Nat.le_refl _) | (with_reducible assumption) | omega | (simp; omega) | (simp; done))))⟩
  case rest =>
    obtain ⟨rfl, rfl, hb6⟩ := hcut
    have HK6 := hide (HK5.out.below hb6)
    clear HK5 hb6
    have hL := less_u8 (form x) (form y) (form_lt hx) (form_lt hy)
    rw [less_form hx hy] at hL
    have hS := bstr_list (form x)
    have hT := bstr_list (form y)
    rw [← hS, ← hT] at hL
    have hzx := bstr_size (form x)
    have hzy := bstr_size (form y)
    have hEq : ((bstr (form x)).toList == (bstr (form y)).toList) = decide (x = y) := by
      rw [hS, hT]
      by_cases h : x = y
      · subst h; simp
      · have : u8s (form x) ≠ u8s (form y) := fun e => h (form_inj hx hy (u8s_inj _ _ (form_lt hx) (form_lt hy) e))
        simp [h, this]
    obtain ⟨sx, hsx, hs0, hs1⟩ := i64_of x
    have hlt : decide ((x : Int) < (y : Int)) = decide (x < y) := by (rw [decide_eq_decide]; omega)
    have heq : ((x : Int) == (y : Int)) = decide (x = y) := by (rw [show ((x : Int) == (y : Int)) = decide ((x : Int) = (y : Int)) from rfl, decide_eq_decide]; omega)
    have heq2 : decide ((x : Int) = (y : Int)) = decide (x = y) := by (rw [decide_eq_decide]; omega)
    have hPn : ∀ n, n = min (form x).length (form y).length → ((((bstr (form x)).extract 0 n).toList == ((bstr (form y)).extract 0 n).toList) = decide (x = y)) := by
      intro n hn
      have ex : ∀ ns : List Nat, ((bstr ns).extract 0 n).toList = u8s (ns.take n) := by
        intro ns
        have q := bstr_list ns
        rw [ByteArray.toList_eq] at q ⊢
        rw [ByteArray.data_extract, Array.toList_extract, q]
        simp [u8s, List.map_take]
      rw [ex, ex]
      have hf := form_prefix hx hy hn
      by_cases h : x = y
      · subst h; simp
      · have : u8s ((form x).take n) ≠ u8s ((form y).take n) := fun e => h (hf.1 (u8s_inj _ _ (fun a ha => form_lt hx a (List.mem_of_mem_take ha)) (fun a ha => form_lt hy a (List.mem_of_mem_take ha)) e))
        simp [h, this]
    clear hS hT
    generalize bstr (form x) = S at *
    generalize bstr (form y) = T at *
    have hc3 : (x < y ∧ ¬ (form y).length < (form x).length) ∨ (x = y ∧ ¬ (form y).length < (form x).length) ∨ (y < x ∧ ¬ (form y).length < (form x).length) ∨ (y < x ∧ (form y).length < (form x).length) := by
      rcases Nat.lt_trichotomy x y with h | h | h
      · exact .inl ⟨h, by have := form_mono (Nat.le_of_lt h); omega⟩
      · exact .inr (.inl ⟨h, by rw [h]; omega⟩)
      · by_cases q : (form y).length < (form x).length
        · exact .inr (.inr (.inr ⟨h, q⟩))
        · exact .inr (.inr (.inl ⟨h, q⟩))
    rcases hc3 with ⟨hxy, hm⟩ | ⟨hxy, hm⟩ | ⟨hxy, hm⟩ | ⟨hxy, hm⟩
    · rw [decide_eq_true (show x < y by omega)] at hL hlt
      rw [decide_eq_false (show ¬ x = y by omega)] at hEq heq heq2
      have hPn' := hPn _ (Nat.min_eq_left (by omega)).symm
      rw [decide_eq_false (show ¬ x = y by omega)] at hPn'
      clear hPn
      go_wp2_with (first
        | (go_at_call 13; refine (Size_c x _ hx).mono ?_; rintro e w7 ⟨rfl, hb7⟩; have HK7 := hide (HK6.out.below hb7); clear hb7)
        | (go_at_call 14; refine (refNum_c x _ hx).mono ?_; rintro e w8 ⟨g8, cap8, rfl, hown8, hb8⟩; have HK8 := hide (HK7.out.below hb8); clear hb8 hown8))
      have hul := unf_lo x hx
      have hfl := fold_lt hs0 hs1
      have hfu := fold_unf x
      have huf := unf_fold sx
      go_big_quiet (first
        | (go_at_call_of 15 sx; exact (Fold_c' sx _ hs0 hs1).mono (fun e w' h => ⟨h.1, _, h.2⟩))
        | (go_at_call_of 15 (unf x); exact (Fold_c' (unf x) _ hul.1 hul.2).mono (fun e w' h => ⟨h.1, _, h.2⟩))
        | (go_at_call 16; exact (refFold_c' sx _ hs0 hs1).mono (fun e w' h => ⟨h.1, _, h.2⟩))
        | (go_at_call_of 17 (fold sx); exact (Unfold_c' (fold sx) _ hfl).mono (fun e w' h => ⟨h.1, _, h.2⟩))
        | (go_at_call_of 17 x; exact (Unfold_c' x _ hx).mono (fun e w' h => ⟨h.1, _, h.2⟩))
        | (go_at_call 18; exact (refUnfold_c' x _ hx).mono (fun e w' h => ⟨h.1, _, h.2⟩)))
      go_wp2
      go_ret
      exact ⟨rfl, bdrewN HK8.out.low _⟩
    · subst hxy
      rw [decide_eq_false (show ¬ x < x by omega)] at hL hlt
      rw [decide_eq_true (show x = x from rfl)] at hEq heq heq2
      have hPn' := hPn _ (Nat.min_eq_left (by omega)).symm
      rw [decide_eq_true (show x = x from rfl)] at hPn'
      clear hPn
      go_wp2_with (first
        | (go_at_call 13; refine (Size_c x _ hx).mono ?_; rintro e w7 ⟨rfl, hb7⟩; have HK7 := hide (HK6.out.below hb7); clear hb7)
        | (go_at_call 14; refine (refNum_c x _ hx).mono ?_; rintro e w8 ⟨g8, cap8, rfl, hown8, hb8⟩; have HK8 := hide (HK7.out.below hb8); clear hb8 hown8))
      have hul := unf_lo x hx
      have hfl := fold_lt hs0 hs1
      have hfu := fold_unf x
      have huf := unf_fold sx
      go_big_quiet (first
        | (go_at_call_of 15 sx; exact (Fold_c' sx _ hs0 hs1).mono (fun e w' h => ⟨h.1, _, h.2⟩))
        | (go_at_call_of 15 (unf x); exact (Fold_c' (unf x) _ hul.1 hul.2).mono (fun e w' h => ⟨h.1, _, h.2⟩))
        | (go_at_call 16; exact (refFold_c' sx _ hs0 hs1).mono (fun e w' h => ⟨h.1, _, h.2⟩))
        | (go_at_call_of 17 (fold sx); exact (Unfold_c' (fold sx) _ hfl).mono (fun e w' h => ⟨h.1, _, h.2⟩))
        | (go_at_call_of 17 x; exact (Unfold_c' x _ hx).mono (fun e w' h => ⟨h.1, _, h.2⟩))
        | (go_at_call 18; exact (refUnfold_c' x _ hx).mono (fun e w' h => ⟨h.1, _, h.2⟩)))
      go_wp2
      go_ret
      exact ⟨rfl, bdrewN HK8.out.low _⟩
    · rw [decide_eq_false (show ¬ x < y by omega)] at hL hlt
      rw [decide_eq_false (show ¬ x = y by omega)] at hEq heq heq2
      have hPn' := hPn _ (Nat.min_eq_left (by omega)).symm
      rw [decide_eq_false (show ¬ x = y by omega)] at hPn'
      clear hPn
      go_wp2_with (first
        | (go_at_call 13; refine (Size_c x _ hx).mono ?_; rintro e w7 ⟨rfl, hb7⟩; have HK7 := hide (HK6.out.below hb7); clear hb7)
        | (go_at_call 14; refine (refNum_c x _ hx).mono ?_; rintro e w8 ⟨g8, cap8, rfl, hown8, hb8⟩; have HK8 := hide (HK7.out.below hb8); clear hb8 hown8))
      have hul := unf_lo x hx
      have hfl := fold_lt hs0 hs1
      have hfu := fold_unf x
      have huf := unf_fold sx
      go_big_quiet (first
        | (go_at_call_of 15 sx; exact (Fold_c' sx _ hs0 hs1).mono (fun e w' h => ⟨h.1, _, h.2⟩))
        | (go_at_call_of 15 (unf x); exact (Fold_c' (unf x) _ hul.1 hul.2).mono (fun e w' h => ⟨h.1, _, h.2⟩))
        | (go_at_call 16; exact (refFold_c' sx _ hs0 hs1).mono (fun e w' h => ⟨h.1, _, h.2⟩))
        | (go_at_call_of 17 (fold sx); exact (Unfold_c' (fold sx) _ hfl).mono (fun e w' h => ⟨h.1, _, h.2⟩))
        | (go_at_call_of 17 x; exact (Unfold_c' x _ hx).mono (fun e w' h => ⟨h.1, _, h.2⟩))
        | (go_at_call 18; exact (refUnfold_c' x _ hx).mono (fun e w' h => ⟨h.1, _, h.2⟩)))
      go_wp2
      go_ret
      exact ⟨rfl, bdrewN HK8.out.low _⟩
    · rw [decide_eq_false (show ¬ x < y by omega)] at hL hlt
      rw [decide_eq_false (show ¬ x = y by omega)] at hEq heq heq2
      have hPn' := hPn _ (Nat.min_eq_right (by omega)).symm
      rw [decide_eq_false (show ¬ x = y by omega)] at hPn'
      clear hPn
      go_wp2_with (first
        | (go_at_call 13; refine (Size_c x _ hx).mono ?_; rintro e w7 ⟨rfl, hb7⟩; have HK7 := hide (HK6.out.below hb7); clear hb7)
        | (go_at_call 14; refine (refNum_c x _ hx).mono ?_; rintro e w8 ⟨g8, cap8, rfl, hown8, hb8⟩; have HK8 := hide (HK7.out.below hb8); clear hb8 hown8))
      have hul := unf_lo x hx
      have hfl := fold_lt hs0 hs1
      have hfu := fold_unf x
      have huf := unf_fold sx
      go_big_quiet (first
        | (go_at_call_of 15 sx; exact (Fold_c' sx _ hs0 hs1).mono (fun e w' h => ⟨h.1, _, h.2⟩))
        | (go_at_call_of 15 (unf x); exact (Fold_c' (unf x) _ hul.1 hul.2).mono (fun e w' h => ⟨h.1, _, h.2⟩))
        | (go_at_call 16; exact (refFold_c' sx _ hs0 hs1).mono (fun e w' h => ⟨h.1, _, h.2⟩))
        | (go_at_call_of 17 (fold sx); exact (Unfold_c' (fold sx) _ hfl).mono (fun e w' h => ⟨h.1, _, h.2⟩))
        | (go_at_call_of 17 x; exact (Unfold_c' x _ hx).mono (fun e w' h => ⟨h.1, _, h.2⟩))
        | (go_at_call 18; exact (refUnfold_c' x _ hx).mono (fun e w' h => ⟨h.1, _, h.2⟩)))
      go_wp2
      go_ret
      exact ⟨rfl, bdrewN HK8.out.low _⟩
end Go.Proofs.Ytajkgecegefnmaa

namespace Go.Proofs.Ytajkgecegefnmaa
open Go.ChangeShapes Go.WideShapes Go.ChangeAt Go.RowKit Go.Deep
set_option linter.unusedSimpArgs false
set_option linter.unusedVariables false

set_option maxRecDepth 100000 in
set_option maxHeartbeats 4000000 in
theorem puts_1 (g : Nat) (v : Value) (bs : List Nat) (X : Nat) (s : ByteArray) (lo to_ : Option Addr) (lc tc : Nat) (ls : List Nat) (ts : List ByteArray) (w : World) (hW : WObj w g v bs) (hl : bs.length ≤ 8796093022208) (hX : X < 18446744073709551616) : Calls Try.prog 27 #[.pointer (some ⟨g, 0, none⟩), .agg #[.int .i64 1, .int .u64 (X : Int), .string s, (.slice lo ls.length lc), (.slice to_ ts.length tc)]] w (fun e w' => ∃ v', e = .returned (.bool true) ∧ WObj w' g v' (bs ++ form X) ∧ WKeep g v w w' ∧ Near w v v') := by
  have hB0 : Below w.heap.size w (w.alloc (.cells #[.int .i64 1, .int .u64 (X : Int), .string s, (.slice lo ls.length lc), (.slice to_ ts.length tc)] 60)) := by (focus repeat' (first | (with_reducible exact Below.refl _ _) | (with_reducible assumption) | (with_reducible refine Below.alloc ?_ ?_ _) | (with_reducible refine Below.drew ?_) | (with_reducible refine bdrewN ?_ _) | (with_reducible refine Below.setCell ?_ ?_ _) | (first | (with_reducible exact Nat.le_refl _) | (with_reducible assumption) | omega | (simp; omega) | (simp; done))))
  have HW0 := hide (hW.below hB0)
  have hK0 : WKeep g v w (w.alloc (.cells #[.int .i64 1, .int .u64 (X : Int), .string s, (.slice lo ls.length lc), (.slice to_ ts.length tc)] 60)) := WKeep.of_below hB0
  have HK0 := hide hK0
  have HB0 := hide hB0
  clear hW hB0 hK0
  go_enter Try.func27, Try.ntmps27
  go_wp2_with fail
  refine (Number_c g v bs X _ HW0.out hl hX).mono ?_
  rintro e w1 ⟨v1, rfl, hW1, hk1, hn1⟩
  have HW1 := hide hW1
  have HK1 := hide (HK0.out.trans (.inl rfl) hk1)
  have HN1 := hide (Near.trans (.inl rfl) HB0.out.size hn1)
  clear hW1 hk1 hn1
  go_wp2_with (go_at_call 23; go_in)
  go_ret
  exact ⟨v1, rfl, HW1.out, HK1.out, HN1.out⟩

set_option maxRecDepth 100000 in
set_option maxHeartbeats 4000000 in
theorem puts_2 (g : Nat) (v : Value) (bs : List Nat) (X : Nat) (s : ByteArray) (lo to_ : Option Addr) (lc tc : Nat) (ls : List Nat) (ts : List ByteArray) (sx : Int) (w : World) (hW : WObj w g v bs) (hl : bs.length ≤ 8796093022208) (hX : X < 18446744073709551616) (hsx : IntKind.i64.wrap (X : Int) = sx) (h0 : -9223372036854775808 ≤ sx) (h1 : sx ≤ 9223372036854775807) : Calls Try.prog 27 #[.pointer (some ⟨g, 0, none⟩), .agg #[.int .i64 2, .int .u64 (X : Int), .string s, (.slice lo ls.length lc), (.slice to_ ts.length tc)]] w (fun e w' => ∃ v', e = .returned (.bool true) ∧ WObj w' g v' (bs ++ form (fold sx)) ∧ WKeep g v w w' ∧ Near w v v') := by
  have hB0 : Below w.heap.size w (w.alloc (.cells #[.int .i64 2, .int .u64 (X : Int), .string s, (.slice lo ls.length lc), (.slice to_ ts.length tc)] 60)) := by (focus repeat' (first | (with_reducible exact Below.refl _ _) | (with_reducible assumption) | (with_reducible refine Below.alloc ?_ ?_ _) | (with_reducible refine Below.drew ?_) | (with_reducible refine bdrewN ?_ _) | (with_reducible refine Below.setCell ?_ ?_ _) | (first | (with_reducible exact Nat.le_refl _) | (with_reducible assumption) | omega | (simp; omega) | (simp; done))))
  have HW0 := hide (hW.below hB0)
  have hK0 : WKeep g v w (w.alloc (.cells #[.int .i64 2, .int .u64 (X : Int), .string s, (.slice lo ls.length lc), (.slice to_ ts.length tc)] 60)) := WKeep.of_below hB0
  have HK0 := hide hK0
  have HB0 := hide hB0
  clear hW hB0 hK0
  go_enter Try.func27, Try.ntmps27
  go_wp2_with fail
  refine (Signed_c g v bs sx _ HW0.out hl h0 h1).mono ?_
  rintro e w1 ⟨v1, rfl, hW1, hk1, hn1⟩
  have HW1 := hide hW1
  have HK1 := hide (HK0.out.trans (.inl rfl) hk1)
  have HN1 := hide (Near.trans (.inl rfl) HB0.out.size hn1)
  clear hW1 hk1 hn1
  go_wp2_with (go_at_call 23; go_in)
  go_ret
  exact ⟨v1, rfl, HW1.out, HK1.out, HN1.out⟩

set_option maxRecDepth 100000 in
set_option maxHeartbeats 4000000 in
theorem puts_3y (g : Nat) (v : Value) (bs : List Nat) (X : Nat) (s : ByteArray) (lo to_ : Option Addr) (lc tc : Nat) (ls : List Nat) (ts : List ByteArray) (w : World) (hW : WObj w g v bs) (hl : bs.length ≤ 8796093022208) (hX : X < 18446744073709551616) (hx2 : X % 2 = 1) : Calls Try.prog 27 #[.pointer (some ⟨g, 0, none⟩), .agg #[.int .i64 3, .int .u64 (X : Int), .string s, (.slice lo ls.length lc), (.slice to_ ts.length tc)]] w (fun e w' => ∃ v', e = .returned (.bool true) ∧ WObj w' g v' (bs ++ [1]) ∧ WKeep g v w w' ∧ Near w v v') := by
  obtain ⟨Z, hZ⟩ : ∃ Z : Int, (X : Int) = Z := ⟨_, rfl⟩
  have hm : Z % 2 = 1 := by omega
  have hZ0 : 0 ≤ Z := by omega
  rw [hZ]
  have hB0 : Below w.heap.size w (w.alloc (.cells #[.int .i64 3, .int .u64 Z, .string s, (.slice lo ls.length lc), (.slice to_ ts.length tc)] 60)) := by (focus repeat' (first | (with_reducible exact Below.refl _ _) | (with_reducible assumption) | (with_reducible refine Below.alloc ?_ ?_ _) | (with_reducible refine Below.drew ?_) | (with_reducible refine bdrewN ?_ _) | (with_reducible refine Below.setCell ?_ ?_ _) | (first | (with_reducible exact Nat.le_refl _) | (with_reducible assumption) | omega | (simp; omega) | (simp; done))))
  have HW0 := hide (hW.below hB0)
  have hK0 : WKeep g v w (w.alloc (.cells #[.int .i64 3, .int .u64 Z, .string s, (.slice lo ls.length lc), (.slice to_ ts.length tc)] 60)) := WKeep.of_below hB0
  have HK0 := hide hK0
  have HB0 := hide hB0
  clear hW hB0 hK0
  clear hZ hx2 hX
  go_enter Try.func27, Try.ntmps27
  go_wp2_with fail
  refine (Flag_yes g v bs _ HW0.out hl).mono ?_
  rintro e w1 ⟨v1, rfl, hW1, hk1, hn1⟩
  have HW1 := hide hW1
  have HK1 := hide (HK0.out.trans (.inl rfl) hk1)
  have HN1 := hide (Near.trans (.inl rfl) HB0.out.size hn1)
  clear hW1 hk1 hn1
  go_wp2_with (go_at_call 23; go_in)
  go_ret
  exact ⟨v1, rfl, HW1.out, HK1.out, HN1.out⟩

set_option maxRecDepth 100000 in
set_option maxHeartbeats 4000000 in
theorem puts_3n (g : Nat) (v : Value) (bs : List Nat) (X : Nat) (s : ByteArray) (lo to_ : Option Addr) (lc tc : Nat) (ls : List Nat) (ts : List ByteArray) (w : World) (hW : WObj w g v bs) (hl : bs.length ≤ 8796093022208) (hX : X < 18446744073709551616) (hx2 : X % 2 = 0) : Calls Try.prog 27 #[.pointer (some ⟨g, 0, none⟩), .agg #[.int .i64 3, .int .u64 (X : Int), .string s, (.slice lo ls.length lc), (.slice to_ ts.length tc)]] w (fun e w' => ∃ v', e = .returned (.bool true) ∧ WObj w' g v' (bs ++ [0]) ∧ WKeep g v w w' ∧ Near w v v') := by
  obtain ⟨Z, hZ⟩ : ∃ Z : Int, (X : Int) = Z := ⟨_, rfl⟩
  have hm : Z % 2 = 0 := by omega
  have hZ0 : 0 ≤ Z := by omega
  rw [hZ]
  have hB0 : Below w.heap.size w (w.alloc (.cells #[.int .i64 3, .int .u64 Z, .string s, (.slice lo ls.length lc), (.slice to_ ts.length tc)] 60)) := by (focus repeat' (first | (with_reducible exact Below.refl _ _) | (with_reducible assumption) | (with_reducible refine Below.alloc ?_ ?_ _) | (with_reducible refine Below.drew ?_) | (with_reducible refine bdrewN ?_ _) | (with_reducible refine Below.setCell ?_ ?_ _) | (first | (with_reducible exact Nat.le_refl _) | (with_reducible assumption) | omega | (simp; omega) | (simp; done))))
  have HW0 := hide (hW.below hB0)
  have hK0 : WKeep g v w (w.alloc (.cells #[.int .i64 3, .int .u64 Z, .string s, (.slice lo ls.length lc), (.slice to_ ts.length tc)] 60)) := WKeep.of_below hB0
  have HK0 := hide hK0
  have HB0 := hide hB0
  clear hW hB0 hK0
  clear hZ hx2 hX
  go_enter Try.func27, Try.ntmps27
  go_wp2_with fail
  refine (Flag_no g v bs _ HW0.out hl).mono ?_
  rintro e w1 ⟨v1, rfl, hW1, hk1, hn1⟩
  have HW1 := hide hW1
  have HK1 := hide (HK0.out.trans (.inl rfl) hk1)
  have HN1 := hide (Near.trans (.inl rfl) HB0.out.size hn1)
  clear hW1 hk1 hn1
  go_wp2_with (go_at_call 23; go_in)
  go_ret
  exact ⟨v1, rfl, HW1.out, HK1.out, HN1.out⟩

set_option maxRecDepth 100000 in
set_option maxHeartbeats 4000000 in
theorem puts_4 (g : Nat) (v : Value) (bs : List Nat) (X : Nat) (s : ByteArray) (lo to_ : Option Addr) (lc tc : Nat) (ls : List Nat) (ts : List ByteArray) (w : World) (hW : WObj w g v bs) (hl : bs.length ≤ 8796093022208) (hX : X < 18446744073709551616) : Calls Try.prog 27 #[.pointer (some ⟨g, 0, none⟩), .agg #[.int .i64 4, .int .u64 (X : Int), .string s, (.slice lo ls.length lc), (.slice to_ ts.length tc)]] w (fun e w' => ∃ v', e = .returned (.bool true) ∧ WObj w' g v' (bs ++ hi 8 X) ∧ WKeep g v w w' ∧ Near w v v') := by
  have hB0 : Below w.heap.size w (w.alloc (.cells #[.int .i64 4, .int .u64 (X : Int), .string s, (.slice lo ls.length lc), (.slice to_ ts.length tc)] 60)) := by (focus repeat' (first | (with_reducible exact Below.refl _ _) | (with_reducible assumption) | (with_reducible refine Below.alloc ?_ ?_ _) | (with_reducible refine Below.drew ?_) | (with_reducible refine bdrewN ?_ _) | (with_reducible refine Below.setCell ?_ ?_ _) | (first | (with_reducible exact Nat.le_refl _) | (with_reducible assumption) | omega | (simp; omega) | (simp; done))))
  have HW0 := hide (hW.below hB0)
  have hK0 : WKeep g v w (w.alloc (.cells #[.int .i64 4, .int .u64 (X : Int), .string s, (.slice lo ls.length lc), (.slice to_ ts.length tc)] 60)) := WKeep.of_below hB0
  have HK0 := hide hK0
  have HB0 := hide hB0
  clear hW hB0 hK0
  go_enter Try.func27, Try.ntmps27
  go_wp2_with fail
  rw [run56]
  go_wp2_with fail
  refine (Real_c g v bs X _ HW0.out hl hX).mono ?_
  rintro e w1 ⟨v1, rfl, hW1, hk1, hn1⟩
  have HW1 := hide hW1
  have HK1 := hide (HK0.out.trans (.inl rfl) hk1)
  have HN1 := hide (Near.trans (.inl rfl) HB0.out.size hn1)
  clear hW1 hk1 hn1
  go_wp2_with (go_at_call 23; go_in)
  go_ret
  exact ⟨v1, rfl, HW1.out, HK1.out, HN1.out⟩

set_option maxRecDepth 100000 in
set_option maxHeartbeats 4000000 in
theorem puts_5 (g : Nat) (v : Value) (bs : List Nat) (X : Nat) (s : ByteArray) (lo to_ : Option Addr) (lc tc : Nat) (ls : List Nat) (ts : List ByteArray) (w : World) (hW : WObj w g v bs) (hl : bs.length ≤ 8796093022208) (hX : X < 18446744073709551616) (hs : s.size ≤ 1099511627776) : Calls Try.prog 27 #[.pointer (some ⟨g, 0, none⟩), .agg #[.int .i64 5, .int .u64 (X : Int), .string s, (.slice lo ls.length lc), (.slice to_ ts.length tc)]] w (fun e w' => ∃ v', e = .returned (.bool true) ∧ WObj w' g v' (bs ++ text s) ∧ WKeep g v w w' ∧ Near w v v') := by
  have hB0 : Below w.heap.size w (w.alloc (.cells #[.int .i64 5, .int .u64 (X : Int), .string s, (.slice lo ls.length lc), (.slice to_ ts.length tc)] 60)) := by (focus repeat' (first | (with_reducible exact Below.refl _ _) | (with_reducible assumption) | (with_reducible refine Below.alloc ?_ ?_ _) | (with_reducible refine Below.drew ?_) | (with_reducible refine bdrewN ?_ _) | (with_reducible refine Below.setCell ?_ ?_ _) | (first | (with_reducible exact Nat.le_refl _) | (with_reducible assumption) | omega | (simp; omega) | (simp; done))))
  have HW0 := hide (hW.below hB0)
  have hK0 : WKeep g v w (w.alloc (.cells #[.int .i64 5, .int .u64 (X : Int), .string s, (.slice lo ls.length lc), (.slice to_ ts.length tc)] 60)) := WKeep.of_below hB0
  have HK0 := hide hK0
  have HB0 := hide hB0
  clear hW hB0 hK0
  go_enter Try.func27, Try.ntmps27
  go_wp2_with fail
  refine (Text_c g v bs s _ HW0.out hl hs).mono ?_
  rintro e w1 ⟨v1, rfl, hW1, hk1, hn1⟩
  have HW1 := hide hW1
  have HK1 := hide (HK0.out.trans (.inl rfl) hk1)
  have HN1 := hide (Near.trans (.inl rfl) HB0.out.size hn1)
  clear hW1 hk1 hn1
  go_wp2_with (go_at_call 23; go_in)
  go_ret
  exact ⟨v1, rfl, HW1.out, HK1.out, HN1.out⟩

set_option maxRecDepth 100000 in
set_option maxHeartbeats 4000000 in
theorem puts_0 (g : Nat) (v : Value) (bs : List Nat) (X : Nat) (s : ByteArray) (lo to_ : Option Addr) (lc tc : Nat) (ls : List Nat) (ts : List ByteArray) (kd : Int) (w : World) (hW : WObj w g v bs) (hl : bs.length ≤ 8796093022208) (hX : X < 18446744073709551616) (k1 : ¬ kd = 1) (k2 : ¬ kd = 2) (k3 : ¬ kd = 3) (k4 : ¬ kd = 4) (k5 : ¬ kd = 5) (k6 : ¬ kd = 6) (k7 : ¬ kd = 7) : Calls Try.prog 27 #[.pointer (some ⟨g, 0, none⟩), .agg #[.int .i64 kd, .int .u64 (X : Int), .string s, (.slice lo ls.length lc), (.slice to_ ts.length tc)]] w (fun e w' => ∃ v', e = .returned (.bool true) ∧ WObj w' g v' (bs ++ []) ∧ WKeep g v w w' ∧ Near w v v') := by
  have hB0 : Below w.heap.size w (w.alloc (.cells #[.int .i64 kd, .int .u64 (X : Int), .string s, (.slice lo ls.length lc), (.slice to_ ts.length tc)] 60)) := by (focus repeat' (first | (with_reducible exact Below.refl _ _) | (with_reducible assumption) | (with_reducible refine Below.alloc ?_ ?_ _) | (with_reducible refine Below.drew ?_) | (with_reducible refine bdrewN ?_ _) | (with_reducible refine Below.setCell ?_ ?_ _) | (first | (with_reducible exact Nat.le_refl _) | (with_reducible assumption) | omega | (simp; omega) | (simp; done))))
  have HW0 := hide (hW.below hB0)
  have hK0 : WKeep g v w (w.alloc (.cells #[.int .i64 kd, .int .u64 (X : Int), .string s, (.slice lo ls.length lc), (.slice to_ ts.length tc)] 60)) := WKeep.of_below hB0
  have HK0 := hide hK0
  have HB0 := hide hB0
  clear hW hB0 hK0
  go_enter Try.func27, Try.ntmps27
  go_wp2
  go_ret
  exact ⟨v, rfl, by (have q := HW0.out; simpa using q), HK0.out, .inl rfl⟩
end Go.Proofs.Ytajkgecegefnmaa

namespace Go.Proofs.Ytajkgecegefnmaa
open Go.ChangeShapes Go.WideShapes Go.ChangeAt Go.RowKit Go.Deep
set_option linter.unusedSimpArgs false
set_option linter.unusedVariables false

/-- a slice of texts, of numbers that came in -/
structure RowS (w : World) (so : Option Addr) (cap : Nat) (ts : List ByteArray) : Prop where
  nil : so = none → ts = [] ∧ cap = 0
  cells : ts ≠ [] → ∃ b off, so = some ⟨b, off, none⟩ ∧ b < w.heap.size ∧ ∀ j, j < ts.length → w.cell? ⟨b, off + j, none⟩ = some (.string (ts.getD j ⟨#[]⟩))
  size : ∀ x ∈ ts, x.size ≤ 1099511627776
  len : ts.length ≤ 1099511627776
structure RowN (w : World) (so : Option Addr) (cap : Nat) (ls : List Nat) : Prop where
  nil : so = none → ls = [] ∧ cap = 0
  cells : ls ≠ [] → ∃ b off, so = some ⟨b, off, none⟩ ∧ b < w.heap.size ∧ ∀ j, j < ls.length → w.cell? ⟨b, off + j, none⟩ = some (.int .u64 (ls.getD j 0 : Int))
  size : ∀ x ∈ ls, x < 18446744073709551616
  len : ls.length ≤ 1099511627776

set_option maxRecDepth 100000 in
set_option maxHeartbeats 4000000 in
theorem puts_7n (g : Nat) (v : Value) (bs : List Nat) (X : Nat) (s : ByteArray) (lo to_ : Option Addr) (lc tc : Nat) (ls : List Nat) (ts : List ByteArray) (w : World) (hW : WObj w g v bs) (hl : bs.length ≤ 8796093022208) (hX : X < 18446744073709551616) (ht : RowS w to_ tc ts) (hts : ts = []) : Calls Try.prog 27 #[.pointer (some ⟨g, 0, none⟩), .agg #[.int .i64 7, .int .u64 (X : Int), .string s, (.slice lo ls.length lc), (.slice to_ ts.length tc)]] w (fun e w' => ∃ v', e = .returned (.bool true) ∧ WObj w' g v' (bs ++ form 0) ∧ WKeep g v w w' ∧ Near w v v') := by
  have HT := hide (show to_ = none → tc = 0 from fun h => (ht.nil h).2)
  clear ht
  subst hts
  have hB0 : Below w.heap.size w (w.alloc (.cells #[.int .i64 7, .int .u64 (X : Int), .string s, (.slice lo ls.length lc), (.slice to_ ([] : List ByteArray).length tc)] 60)) := by (focus repeat' (first | (with_reducible exact Below.refl _ _) | (with_reducible assumption) | (with_reducible refine Below.alloc ?_ ?_ _) | (with_reducible refine Below.drew ?_) | (with_reducible refine bdrewN ?_ _) | (with_reducible refine Below.setCell ?_ ?_ _) | (first | (with_reducible exact Nat.le_refl _) | (with_reducible assumption) | omega | (simp; omega) | (simp; done))))
  have HW0 := hide (hW.below hB0)
  have hK0 : WKeep g v w (w.alloc (.cells #[.int .i64 7, .int .u64 (X : Int), .string s, (.slice lo ls.length lc), (.slice to_ ([] : List ByteArray).length tc)] 60)) := WKeep.of_below hB0
  have HK0 := hide hK0
  have HB0 := hide hB0
  clear hW hB0 hK0
  go_enter Try.func27, Try.ntmps27
  go_wp2_with fail
  refine (ListS_none g v bs to_ tc _ HW0.out hl HT.out).mono ?_
  rintro e w1 ⟨v1, rfl, hW1, hk1, hn1⟩
  have HW1 := hide hW1
  have HK1 := hide (HK0.out.trans (.inl rfl) hk1)
  have HN1 := hide (Near.trans (.inl rfl) HB0.out.size hn1)
  clear hW1 hk1 hn1
  go_wp2_with (go_at_call 23; go_in)
  go_ret
  exact ⟨v1, rfl, HW1.out, HK1.out, HN1.out⟩

set_option maxRecDepth 100000 in
set_option maxHeartbeats 4000000 in
theorem puts_7 (g : Nat) (v : Value) (bs : List Nat) (X : Nat) (s : ByteArray) (lo to_ : Option Addr) (lc tc : Nat) (ls : List Nat) (ts : List ByteArray) (w : World) (hW : WObj w g v bs) (hl : bs.length ≤ 8796093022208) (hX : X < 18446744073709551616) (ht : RowS w to_ tc ts) (hts : ts ≠ []) (hfar : ∀ ad, to_ = some ad → ad.block ≠ g ∧ some ad.block ≠ v.ownBlock) (hl2 : bs.length + 9 + (texts ts).length ≤ 8796093022208) : Calls Try.prog 27 #[.pointer (some ⟨g, 0, none⟩), .agg #[.int .i64 7, .int .u64 (X : Int), .string s, (.slice lo ls.length lc), (.slice to_ ts.length tc)]] w (fun e w' => ∃ v', e = .returned (.bool true) ∧ WObj w' g v' (bs ++ (form ts.length ++ texts ts)) ∧ WKeep g v w w' ∧ Near w v v') := by
  obtain ⟨b, off, rfl, hbz, hbc⟩ := ht.cells hts
  have hpos : 0 < ts.length := List.length_pos_iff.2 hts
  have htl := ht.len
  have hfr := hfar _ rfl
  have HF := hide hfr
  have HSZ := hide ht.size
  clear hfar hfr ht hts
  have hB0 : Below w.heap.size w (w.alloc (.cells #[.int .i64 7, .int .u64 (X : Int), .string s, (.slice lo ls.length lc), (.slice (some ⟨b, off, none⟩) ts.length tc)] 60)) := by (focus repeat' (first | (with_reducible exact Below.refl _ _) | (with_reducible assumption) | (with_reducible refine Below.alloc ?_ ?_ _) | (with_reducible refine Below.drew ?_) | (with_reducible refine bdrewN ?_ _) | (with_reducible refine Below.setCell ?_ ?_ _) | (first | (with_reducible exact Nat.le_refl _) | (with_reducible assumption) | omega | (simp; omega) | (simp; done))))
  have HW0 := hide (hW.below hB0)
  have hK0 : WKeep g v w (w.alloc (.cells #[.int .i64 7, .int .u64 (X : Int), .string s, (.slice lo ls.length lc), (.slice (some ⟨b, off, none⟩) ts.length tc)] 60)) := WKeep.of_below hB0
  have HK0 := hide hK0
  have HB0 := hide hB0
  clear hW hB0 hK0
  have HBC := hide (show ∀ j, j < ts.length → (w.alloc (.cells #[.int .i64 7, .int .u64 (X : Int), .string s, (.slice lo ls.length lc), (.slice (some ⟨b, off, none⟩) ts.length tc)] 60)).cell? ⟨b, off + j, none⟩ = some (.string (ts.getD j ⟨#[]⟩)) from fun j hj => (HB0.out.cell (p := ⟨b, off + j, none⟩) hbz).trans (hbc j hj))
  clear hbc
  go_enter Try.func27, Try.ntmps27
  go_wp2_with fail
  refine (ListS_c g v bs ts b off tc _ HW0.out hl2 htl hpos HSZ.out HBC.out (by (simp; omega)) HF.out.1 HF.out.2).mono ?_
  rintro e w1 ⟨v1, rfl, hW1, hk1, hn1⟩
  have HW1 := hide hW1
  have HK1 := hide (HK0.out.trans (.inl rfl) hk1)
  have HN1 := hide (Near.trans (.inl rfl) HB0.out.size hn1)
  clear hW1 hk1 hn1
  go_wp2_with (go_at_call 23; go_in)
  go_ret
  exact ⟨v1, rfl, HW1.out, HK1.out, HN1.out⟩
end Go.Proofs.Ytajkgecegefnmaa

namespace Go.Proofs.Ytajkgecegefnmaa
open Go.ChangeShapes Go.WideShapes Go.ChangeAt Go.RowKit Go.Deep
set_option linter.unusedSimpArgs false
set_option linter.unusedVariables false

set_option maxRecDepth 100000 in
set_option maxHeartbeats 1000000 in
theorem Same_none (a1 a2 : Option Addr) (c1 c2 : Nat) (w : World) : Calls Try.prog 58 #[.slice a1 0 c1, .slice a2 0 c2] w (fun e w' => e = .returned (.bool true) ∧ Below w.heap.size w w') := by
  go_enter Try.func58, Try.ntmps58
  go_wp2
  go_loopw [5] (fun v5 wq => v5 = .int .i64 0 ∧ wq = w) (fun _ _ => 0)
  case atStart => exact ⟨rfl, rfl⟩
  case round =>
    obtain ⟨rfl, rfl⟩ := hrel
    go_wp2
    go_ret
    exact ⟨rfl, Below.refl _ _⟩

set_option maxRecDepth 100000 in
set_option maxHeartbeats 2000000 in
theorem Same_cells (b1 o1 c1 b2 o2 c2 : Nat) (ls : List Nat) (w : World) (z1 : b1 < w.heap.size) (z2 : b2 < w.heap.size) (hl : ls.length ≤ 1099511627776) (h1 : ∀ j, j < ls.length → w.cell? ⟨b1, o1 + j, none⟩ = some (.int .u64 (ls.getD j 0 : Int))) (h2 : ∀ j, j < ls.length → w.cell? ⟨b2, o2 + j, none⟩ = some (.int .u64 (ls.getD j 0 : Int))) : Calls Try.prog 58 #[.slice (some ⟨b1, o1, none⟩) ls.length c1, .slice (some ⟨b2, o2, none⟩) ls.length c2] w (fun e w' => e = .returned (.bool true) ∧ Below w.heap.size w w') := by
  have F1 := hide h1
  have F2 := hide h2
  clear h1 h2
  go_enter Try.func58, Try.ntmps58
  go_wp2
  go_loopw [5] (fun v5 wq => ∃ k : Nat, k ≤ ls.length ∧ v5 = .int .i64 (k : Int) ∧ Below w.heap.size w wq) (fun v5 _ => ls.length - (intOf v5).toNat)
  case atStart => exact ⟨0, Nat.zero_le _, rfl, Below.refl _ _⟩
  case round =>
    obtain ⟨k, hk, rfl, rB⟩ := hrel
    by_cases hlt : k < ls.length
    · have hk1 : (k : Int) < (ls.length : Int) := by omega
      have q1 := (rB.cell (p := ⟨b1, o1 + k, none⟩) z1).trans (F1.out k hlt)
      have q2 := (rB.cell (p := ⟨b2, o2 + k, none⟩) z2).trans (F2.out k hlt)
      generalize ls.getD k 0 = y at *
      go_wp2_with fail
      go_quiet (fail)
      go_wp2
      go_roundw
      case rel => exact ⟨k + 1, by omega, by go_num, by (focus repeat' (first | (with_reducible exact Below.refl _ _) | (with_reducible assumption) | (with_reducible refine Below.alloc ?_ ?_ _) | (with_reducible refine Below.drew ?_) | (with_reducible refine bdrewN ?_ _) | (with_reducible refine Below.setCell ?_ ?_ _) | (first | (with_reducible exact Nat.le_refl _) | (with_reducible assumption) | omega | (simp; omega) | (simp; done))))⟩
      case measure => (first | (simp [intOf]; done) | (simp [intOf]; omega))
    · have hk1 : ¬ (k : Int) < (ls.length : Int) := by omega
      go_wp2
      go_ret
      exact ⟨rfl, rB⟩
end Go.Proofs.Ytajkgecegefnmaa

namespace Go.Proofs.Ytajkgecegefnmaa
open Go.ChangeShapes Go.WideShapes Go.ChangeAt Go.RowKit Go.Deep
set_option linter.unusedSimpArgs false
set_option linter.unusedVariables false

theorem only2_of {g h : Nat} {w wA w1 w2 : World} (hb : Below w.heap.size w wA) (h1 : Only g wA w1) (h2 : Only h w1 w2) : Only2 g h w w2 :=
  ⟨h2.os.trans (h1.os.trans hb.os), h2.tape.trans (h1.tape.trans hb.tape), h2.output.trans (h1.output.trans hb.output), Nat.le_trans hb.size (Nat.le_trans h1.size h2.size), fun i hi e1 e2 => (h2.block i (Nat.lt_of_lt_of_le hi (Nat.le_trans hb.size h1.size)) e2).trans ((h1.block i (Nat.lt_of_lt_of_le hi hb.size) e1).trans (hb.block i hi))⟩

set_option maxRecDepth 100000 in
set_option maxHeartbeats 4000000 in
theorem asks_1 (g B h cap : Nat) (ao : Option Addr) (ns : List Nat) (a : Nat) (nn : Int) (w : World) (hR : RAny w g B ns a) (hD : DObj w h ao cap ns a) (hgh : g ≠ h) (hBh : B ≤ h) (hao : ∀ ad, ao = some ad → ns ≠ [] → ad.block ≠ g) (hlen : ns.length ≤ 1099511627776) : Calls Try.prog 30 #[.pointer (some ⟨g, 0, none⟩), .pointer (some ⟨h, 0, none⟩), .agg #[.int .i64 1, .int .i64 nn]] w (fun e w' => ∃ a', e = .returned (.bool true) ∧ Only2 g h w w' ∧ RAny w' g B ns a' ∧ DObj w' h ao cap ns a') := by
  have hB0 : Below w.heap.size w (w.alloc (.cells #[.int .i64 1, .int .i64 nn] 67)) := by (focus repeat' (first | (with_reducible exact Below.refl _ _) | (with_reducible assumption) | (with_reducible refine Below.alloc ?_ ?_ _) | (with_reducible refine Below.drew ?_) | (with_reducible refine bdrewN ?_ _) | (with_reducible refine Below.setCell ?_ ?_ _) | (first | (with_reducible exact Nat.le_refl _) | (with_reducible assumption) | omega | (simp; omega) | (simp; done))))
  have HR0 := hide (hR.below hB0)
  have HD0 := hide (hD.below hB0)
  have HB0 := hide hB0
  have hhg : h ≠ g := fun e => hgh e.symm
  have hdl := hD.le
  have hg0 := hR.cells.1
  have hh0 := hD.lt
  have hbx1 : w.heap.size ≠ g := by omega
  have hbx2 : w.heap.size ≠ h := by omega
  clear hR hD hB0
  go_enter Try.func30, Try.ntmps30
  go_wp2_with fail
  refine (RNum_any g B ns a _ HR0.out).mono ?_
  rintro e w1 ⟨rfl, ho1, hR1⟩
  have HR1 := hide hR1
  have HD1 := hide (HD0.out.only' ho1 hhg hao)
  have HO1 := hide ho1
  have bx1 : ∀ o, w1.cell? ⟨w.heap.size, o, none⟩ = (#[Value.int .i64 1, Value.int .i64 nn] : Array Value)[o]? := fun o => (World.cell?_of_block (ho1.block w.heap.size (by simp) hbx1)).trans (by simp [go_sem])
  have bz1 : w.heap.size < w1.heap.size := Nat.lt_of_lt_of_le (by simp) ho1.size
  clear hR1 ho1 HR0 HD0
  go_wp2_with fail
  refine (dNum_c h cap ao ns a _ HD1.out).mono ?_
  rintro e w2 ⟨rfl, ho2, hD2⟩
  have HD2 := hide hD2
  have HR2 := hide (HR1.out.only ho2 hgh hBh)
  have HO2 := hide ho2
  have O2 := hide (only2_of HB0.out HO1.out HO2.out)
  have bx2 : ∀ o, w2.cell? ⟨w.heap.size, o, none⟩ = (#[Value.int .i64 1, Value.int .i64 nn] : Array Value)[o]? := fun o => (World.cell?_of_block (ho2.block w.heap.size bz1 hbx2)).trans (bx1 o)
  clear hD2 ho2 HD1 HR1 HB0 HO1 HO2 bx1
  go_wp2_with (go_at_call 23; go_in)
  go_ret
  exact ⟨_, rfl, O2.out, HR2.out, HD2.out⟩

set_option maxRecDepth 100000 in
set_option maxHeartbeats 4000000 in
theorem asks_2b (g B h cap : Nat) (ao : Option Addr) (ns : List Nat) (a : Nat) (nn : Int) (w : World) (hR : RAny w g B ns a) (hD : DObj w h ao cap ns a) (hgh : g ≠ h) (hBh : B ≤ h) (hao : ∀ ad, ao = some ad → ns ≠ [] → ad.block ≠ g) (hlen : ns.length ≤ 1099511627776) (hE : (rd ns a).2.1 ≠ 0) : Calls Try.prog 30 #[.pointer (some ⟨g, 0, none⟩), .pointer (some ⟨h, 0, none⟩), .agg #[.int .i64 2, .int .i64 nn]] w (fun e w' => ∃ a', e = .returned (.bool true) ∧ Only2 g h w w' ∧ RAny w' g B ns a' ∧ DObj w' h ao cap ns a') := by
  have hB0 : Below w.heap.size w (w.alloc (.cells #[.int .i64 2, .int .i64 nn] 67)) := by (focus repeat' (first | (with_reducible exact Below.refl _ _) | (with_reducible assumption) | (with_reducible refine Below.alloc ?_ ?_ _) | (with_reducible refine Below.drew ?_) | (with_reducible refine bdrewN ?_ _) | (with_reducible refine Below.setCell ?_ ?_ _) | (first | (with_reducible exact Nat.le_refl _) | (with_reducible assumption) | omega | (simp; omega) | (simp; done))))
  have HR0 := hide (hR.below hB0)
  have HD0 := hide (hD.below hB0)
  have HB0 := hide hB0
  have hhg : h ≠ g := fun e => hgh e.symm
  have hdl := hD.le
  have hg0 := hR.cells.1
  have hh0 := hD.lt
  have hbx1 : w.heap.size ≠ g := by omega
  have hbx2 : w.heap.size ≠ h := by omega
  clear hR hD hB0
  have hE2 : ¬ ((rd ns a).2.1 : Int) = 0 := by omega
  have hz := (rd_zero ns a hE).1
  go_enter Try.func30, Try.ntmps30
  go_wp2_with fail
  refine (RSigned_c g B ns a _ HR0.out).mono ?_
  rw [hz, show unf 0 = 0 from rfl]
  rintro e w1 ⟨rfl, ho1, hR1⟩
  have HR1 := hide hR1
  have HD1 := hide (HD0.out.only' ho1 hhg hao)
  have HO1 := hide ho1
  have bx1 : ∀ o, w1.cell? ⟨w.heap.size, o, none⟩ = (#[Value.int .i64 2, Value.int .i64 nn] : Array Value)[o]? := fun o => (World.cell?_of_block (ho1.block w.heap.size (by simp) hbx1)).trans (by simp [go_sem])
  have bz1 : w.heap.size < w1.heap.size := Nat.lt_of_lt_of_le (by simp) ho1.size
  clear hR1 ho1 HR0 HD0
  go_wp2_with fail
  refine (dNum_c h cap ao ns a _ HD1.out).mono ?_
  rintro e w2 ⟨rfl, ho2, hD2⟩
  have HD2 := hide hD2
  have HR2 := hide (HR1.out.only ho2 hgh hBh)
  have HO2 := hide ho2
  have O2 := hide (only2_of HB0.out HO1.out HO2.out)
  have bx2 : ∀ o, w2.cell? ⟨w.heap.size, o, none⟩ = (#[Value.int .i64 2, Value.int .i64 nn] : Array Value)[o]? := fun o => (World.cell?_of_block (ho2.block w.heap.size bz1 hbx2)).trans (bx1 o)
  clear hD2 ho2 HD1 HR1 HB0 HO1 HO2 bx1
  go_wp2_with (go_at_call 23; go_in)
  go_ret
  exact ⟨_, rfl, O2.out, HR2.out, HD2.out⟩

set_option maxRecDepth 100000 in
set_option maxHeartbeats 4000000 in
theorem asks_2a (g B h cap : Nat) (ao : Option Addr) (ns : List Nat) (a : Nat) (nn : Int) (w : World) (hR : RAny w g B ns a) (hD : DObj w h ao cap ns a) (hgh : g ≠ h) (hBh : B ≤ h) (hao : ∀ ad, ao = some ad → ns ≠ [] → ad.block ≠ g) (hlen : ns.length ≤ 1099511627776) (hE : (rd ns a).2.1 = 0) : Calls Try.prog 30 #[.pointer (some ⟨g, 0, none⟩), .pointer (some ⟨h, 0, none⟩), .agg #[.int .i64 2, .int .i64 nn]] w (fun e w' => ∃ a', e = .returned (.bool true) ∧ Only2 g h w w' ∧ RAny w' g B ns a' ∧ DObj w' h ao cap ns a') := by
  have hB0 : Below w.heap.size w (w.alloc (.cells #[.int .i64 2, .int .i64 nn] 67)) := by (focus repeat' (first | (with_reducible exact Below.refl _ _) | (with_reducible assumption) | (with_reducible refine Below.alloc ?_ ?_ _) | (with_reducible refine Below.drew ?_) | (with_reducible refine bdrewN ?_ _) | (with_reducible refine Below.setCell ?_ ?_ _) | (first | (with_reducible exact Nat.le_refl _) | (with_reducible assumption) | omega | (simp; omega) | (simp; done))))
  have HR0 := hide (hR.below hB0)
  have HD0 := hide (hD.below hB0)
  have HB0 := hide hB0
  have hhg : h ≠ g := fun e => hgh e.symm
  have hdl := hD.le
  have hg0 := hR.cells.1
  have hh0 := hD.lt
  have hbx1 : w.heap.size ≠ g := by omega
  have hbx2 : w.heap.size ≠ h := by omega
  clear hR hD hB0
  have hlt := rd_lt ns a HD0.out.small
  go_enter Try.func30, Try.ntmps30
  go_wp2_with fail
  refine (RSigned_c g B ns a _ HR0.out).mono ?_
  rw [hE]
  rintro e w1 ⟨rfl, ho1, hR1⟩
  have HR1 := hide hR1
  have HD1 := hide (HD0.out.only' ho1 hhg hao)
  have HO1 := hide ho1
  have bx1 : ∀ o, w1.cell? ⟨w.heap.size, o, none⟩ = (#[Value.int .i64 2, Value.int .i64 nn] : Array Value)[o]? := fun o => (World.cell?_of_block (ho1.block w.heap.size (by simp) hbx1)).trans (by simp [go_sem])
  have bz1 : w.heap.size < w1.heap.size := Nat.lt_of_lt_of_le (by simp) ho1.size
  clear hR1 ho1 HR0 HD0
  go_wp2_with fail
  refine (dNum_c h cap ao ns a _ HD1.out).mono ?_
  rw [hE]
  rintro e w2 ⟨rfl, ho2, hD2⟩
  have HD2 := hide hD2
  have HR2 := hide (HR1.out.only ho2 hgh hBh)
  have HO2 := hide ho2
  have O2 := hide (only2_of HB0.out HO1.out HO2.out)
  have bx2 : ∀ o, w2.cell? ⟨w.heap.size, o, none⟩ = (#[Value.int .i64 2, Value.int .i64 nn] : Array Value)[o]? := fun o => (World.cell?_of_block (ho2.block w.heap.size bz1 hbx2)).trans (bx1 o)
  clear hD2 ho2 HD1 HR1 HB0 HO1 HO2 bx1
  go_wp2_with fail
  refine (refUnfold_c _ _ hlt).mono ?_
  rintro e w3 ⟨rfl, hb3⟩
  have HD3 := hide (HD2.out.below hb3)
  have HR3 := hide (HR2.out.below hb3)
  have O3 := hide (O2.out.trans (Only2.of_below hb3))
  clear hb3 HD2 HR2 O2 bx2
  go_wp2_with (go_at_call 23; go_in)
  go_ret
  exact ⟨_, rfl, O3.out, HR3.out, HD3.out⟩

set_option maxRecDepth 100000 in
set_option maxHeartbeats 4000000 in
theorem asks_3 (g B h cap : Nat) (ao : Option Addr) (ns : List Nat) (a : Nat) (nn : Int) (w : World) (hR : RAny w g B ns a) (hD : DObj w h ao cap ns a) (hgh : g ≠ h) (hBh : B ≤ h) (hao : ∀ ad, ao = some ad → ns ≠ [] → ad.block ≠ g) (hlen : ns.length ≤ 1099511627776) : Calls Try.prog 30 #[.pointer (some ⟨g, 0, none⟩), .pointer (some ⟨h, 0, none⟩), .agg #[.int .i64 3, .int .i64 nn]] w (fun e w' => ∃ a', e = .returned (.bool true) ∧ Only2 g h w w' ∧ RAny w' g B ns a' ∧ DObj w' h ao cap ns a') := by
  have hB0 : Below w.heap.size w (w.alloc (.cells #[.int .i64 3, .int .i64 nn] 67)) := by (focus repeat' (first | (with_reducible exact Below.refl _ _) | (with_reducible assumption) | (with_reducible refine Below.alloc ?_ ?_ _) | (with_reducible refine Below.drew ?_) | (with_reducible refine bdrewN ?_ _) | (with_reducible refine Below.setCell ?_ ?_ _) | (first | (with_reducible exact Nat.le_refl _) | (with_reducible assumption) | omega | (simp; omega) | (simp; done))))
  have HR0 := hide (hR.below hB0)
  have HD0 := hide (hD.below hB0)
  have HB0 := hide hB0
  have hhg : h ≠ g := fun e => hgh e.symm
  have hdl := hD.le
  have hg0 := hR.cells.1
  have hh0 := hD.lt
  have hbx1 : w.heap.size ≠ g := by omega
  have hbx2 : w.heap.size ≠ h := by omega
  clear hR hD hB0
  go_enter Try.func30, Try.ntmps30
  go_wp2_with fail
  refine (RFlag_c g B ns a _ HR0.out).mono ?_
  rintro e w1 ⟨rfl, ho1, hR1⟩
  have HR1 := hide hR1
  have HD1 := hide (HD0.out.only' ho1 hhg hao)
  have HO1 := hide ho1
  have bx1 : ∀ o, w1.cell? ⟨w.heap.size, o, none⟩ = (#[Value.int .i64 3, Value.int .i64 nn] : Array Value)[o]? := fun o => (World.cell?_of_block (ho1.block w.heap.size (by simp) hbx1)).trans (by simp [go_sem])
  have bz1 : w.heap.size < w1.heap.size := Nat.lt_of_lt_of_le (by simp) ho1.size
  clear hR1 ho1 HR0 HD0
  go_wp2_with fail
  refine (dFlag_c h cap ao ns a _ HD1.out).mono ?_
  rintro e w2 ⟨rfl, ho2, hD2⟩
  have HD2 := hide hD2
  have HR2 := hide (HR1.out.only ho2 hgh hBh)
  have HO2 := hide ho2
  have O2 := hide (only2_of HB0.out HO1.out HO2.out)
  have bx2 : ∀ o, w2.cell? ⟨w.heap.size, o, none⟩ = (#[Value.int .i64 3, Value.int .i64 nn] : Array Value)[o]? := fun o => (World.cell?_of_block (ho2.block w.heap.size bz1 hbx2)).trans (bx1 o)
  clear hD2 ho2 HD1 HR1 HB0 HO1 HO2 bx1
  go_wp2_with (go_at_call 23; go_in)
  go_ret
  exact ⟨_, rfl, O2.out, HR2.out, HD2.out⟩

set_option maxRecDepth 100000 in
set_option maxHeartbeats 4000000 in
theorem asks_4 (g B h cap : Nat) (ao : Option Addr) (ns : List Nat) (a : Nat) (nn : Int) (w : World) (hR : RAny w g B ns a) (hD : DObj w h ao cap ns a) (hgh : g ≠ h) (hBh : B ≤ h) (hao : ∀ ad, ao = some ad → ns ≠ [] → ad.block ≠ g) (hlen : ns.length ≤ 1099511627776) : Calls Try.prog 30 #[.pointer (some ⟨g, 0, none⟩), .pointer (some ⟨h, 0, none⟩), .agg #[.int .i64 4, .int .i64 nn]] w (fun e w' => ∃ a', e = .returned (.bool true) ∧ Only2 g h w w' ∧ RAny w' g B ns a' ∧ DObj w' h ao cap ns a') := by
  have hB0 : Below w.heap.size w (w.alloc (.cells #[.int .i64 4, .int .i64 nn] 67)) := by (focus repeat' (first | (with_reducible exact Below.refl _ _) | (with_reducible assumption) | (with_reducible refine Below.alloc ?_ ?_ _) | (with_reducible refine Below.drew ?_) | (with_reducible refine bdrewN ?_ _) | (with_reducible refine Below.setCell ?_ ?_ _) | (first | (with_reducible exact Nat.le_refl _) | (with_reducible assumption) | omega | (simp; omega) | (simp; done))))
  have HR0 := hide (hR.below hB0)
  have HD0 := hide (hD.below hB0)
  have HB0 := hide hB0
  have hhg : h ≠ g := fun e => hgh e.symm
  have hdl := hD.le
  have hg0 := hR.cells.1
  have hh0 := hD.lt
  have hbx1 : w.heap.size ≠ g := by omega
  have hbx2 : w.heap.size ≠ h := by omega
  clear hR hD hB0
  go_enter Try.func30, Try.ntmps30
  go_wp2_with fail
  refine (RReal_c g B ns a _ HR0.out).mono ?_
  rintro e w1 ⟨rfl, ho1, hR1⟩
  have HR1 := hide hR1
  have HD1 := hide (HD0.out.only' ho1 hhg hao)
  have HO1 := hide ho1
  have bx1 : ∀ o, w1.cell? ⟨w.heap.size, o, none⟩ = (#[Value.int .i64 4, Value.int .i64 nn] : Array Value)[o]? := fun o => (World.cell?_of_block (ho1.block w.heap.size (by simp) hbx1)).trans (by simp [go_sem])
  have bz1 : w.heap.size < w1.heap.size := Nat.lt_of_lt_of_le (by simp) ho1.size
  clear hR1 ho1 HR0 HD0
  go_wp2_with fail
  refine (dReal_c h cap ao ns a _ HD1.out).mono ?_
  rintro e w2 ⟨rfl, ho2, hD2⟩
  have HD2 := hide hD2
  have HR2 := hide (HR1.out.only ho2 hgh hBh)
  have HO2 := hide ho2
  have O2 := hide (only2_of HB0.out HO1.out HO2.out)
  have bx2 : ∀ o, w2.cell? ⟨w.heap.size, o, none⟩ = (#[Value.int .i64 4, Value.int .i64 nn] : Array Value)[o]? := fun o => (World.cell?_of_block (ho2.block w.heap.size bz1 hbx2)).trans (bx1 o)
  clear hD2 ho2 HD1 HR1 HB0 HO1 HO2 bx1
  go_wp2_with fail
  rw [run63]
  go_wp2_with (go_at_call 23; go_in)
  go_ret
  exact ⟨_, rfl, O2.out, HR2.out, HD2.out⟩

set_option maxRecDepth 100000 in
set_option maxHeartbeats 4000000 in
theorem asks_5n (g B h cap : Nat) (ao : Option Addr) (ns : List Nat) (a : Nat) (nn : Int) (w : World) (hR : RAny w g B ns a) (hD : DObj w h ao cap ns a) (hgh : g ≠ h) (hBh : B ≤ h) (hao : ∀ ad, ao = some ad → ns ≠ [] → ad.block ≠ g) (hlen : ns.length ≤ 1099511627776) (hm : nn < 0) : Calls Try.prog 30 #[.pointer (some ⟨g, 0, none⟩), .pointer (some ⟨h, 0, none⟩), .agg #[.int .i64 5, .int .i64 nn]] w (fun e w' => ∃ a', e = .returned (.bool true) ∧ Only2 g h w w' ∧ RAny w' g B ns a' ∧ DObj w' h ao cap ns a') := by
  have hB0 : Below w.heap.size w (w.alloc (.cells #[.int .i64 5, .int .i64 nn] 67)) := by (focus repeat' (first | (with_reducible exact Below.refl _ _) | (with_reducible assumption) | (with_reducible refine Below.alloc ?_ ?_ _) | (with_reducible refine Below.drew ?_) | (with_reducible refine bdrewN ?_ _) | (with_reducible refine Below.setCell ?_ ?_ _) | (first | (with_reducible exact Nat.le_refl _) | (with_reducible assumption) | omega | (simp; omega) | (simp; done))))
  have HR0 := hide (hR.below hB0)
  have HD0 := hide (hD.below hB0)
  have HB0 := hide hB0
  have hhg : h ≠ g := fun e => hgh e.symm
  have hdl := hD.le
  have hg0 := hR.cells.1
  have hh0 := hD.lt
  have hbx1 : w.heap.size ≠ g := by omega
  have hbx2 : w.heap.size ≠ h := by omega
  clear hR hD hB0
  go_enter Try.func30, Try.ntmps30
  go_wp2_with fail
  refine (RText_neg g B ns a nn _ HR0.out  hm).mono ?_
  rintro e w1 ⟨rfl, ho1, hR1⟩
  have HR1 := hide hR1
  have HD1 := hide (HD0.out.only' ho1 hhg hao)
  have HO1 := hide ho1
  have bx1 : ∀ o, w1.cell? ⟨w.heap.size, o, none⟩ = (#[Value.int .i64 5, Value.int .i64 nn] : Array Value)[o]? := fun o => (World.cell?_of_block (ho1.block w.heap.size (by simp) hbx1)).trans (by simp [go_sem])
  have bz1 : w.heap.size < w1.heap.size := Nat.lt_of_lt_of_le (by simp) ho1.size
  clear hR1 ho1 HR0 HD0
  go_wp2_with fail
  refine (dText_neg h cap ao ns a nn _ HD1.out hm).mono ?_
  rintro e w2 ⟨rfl, ho2, hD2⟩
  have HD2 := hide hD2
  have HR2 := hide (HR1.out.only ho2 hgh hBh)
  have HO2 := hide ho2
  have O2 := hide (only2_of HB0.out HO1.out HO2.out)
  have bx2 : ∀ o, w2.cell? ⟨w.heap.size, o, none⟩ = (#[Value.int .i64 5, Value.int .i64 nn] : Array Value)[o]? := fun o => (World.cell?_of_block (ho2.block w.heap.size bz1 hbx2)).trans (bx1 o)
  clear hD2 ho2 HD1 HR1 HB0 HO1 HO2 bx1
  go_wp2_with (go_at_call 23; go_in)
  go_ret
  exact ⟨_, rfl, O2.out, HR2.out, HD2.out⟩

set_option maxRecDepth 100000 in
set_option maxHeartbeats 4000000 in
theorem asks_5 (g B h cap : Nat) (ao : Option Addr) (ns : List Nat) (a : Nat) (nn : Int) (k : Nat) (w : World) (hR : RAny w g B ns a) (hD : DObj w h ao cap ns a) (hgh : g ≠ h) (hBh : B ≤ h) (hao : ∀ ad, ao = some ad → ns ≠ [] → ad.block ≠ g) (hlen : ns.length ≤ 1099511627776) (hk : k ≤ 9223372036854775807) : Calls Try.prog 30 #[.pointer (some ⟨g, 0, none⟩), .pointer (some ⟨h, 0, none⟩), .agg #[.int .i64 5, .int .i64 (k : Int)]] w (fun e w' => ∃ a', e = .returned (.bool true) ∧ Only2 g h w w' ∧ RAny w' g B ns a' ∧ DObj w' h ao cap ns a') := by
  have hB0 : Below w.heap.size w (w.alloc (.cells #[.int .i64 5, .int .i64 (k : Int)] 67)) := by (focus repeat' (first | (with_reducible exact Below.refl _ _) | (with_reducible assumption) | (with_reducible refine Below.alloc ?_ ?_ _) | (with_reducible refine Below.drew ?_) | (with_reducible refine bdrewN ?_ _) | (with_reducible refine Below.setCell ?_ ?_ _) | (first | (with_reducible exact Nat.le_refl _) | (with_reducible assumption) | omega | (simp; omega) | (simp; done))))
  have HR0 := hide (hR.below hB0)
  have HD0 := hide (hD.below hB0)
  have HB0 := hide hB0
  have hhg : h ≠ g := fun e => hgh e.symm
  have hdl := hD.le
  have hg0 := hR.cells.1
  have hh0 := hD.lt
  have hbx1 : w.heap.size ≠ g := by omega
  have hbx2 : w.heap.size ≠ h := by omega
  clear hR hD hB0
  go_enter Try.func30, Try.ntmps30
  go_wp2_with fail
  refine (RText_c g B ns a k _ HR0.out hk).mono ?_
  rintro e w1 ⟨rfl, ho1, hR1⟩
  have HR1 := hide hR1
  have HD1 := hide (HD0.out.only' ho1 hhg hao)
  have HO1 := hide ho1
  have bx1 : ∀ o, w1.cell? ⟨w.heap.size, o, none⟩ = (#[Value.int .i64 5, Value.int .i64 (k : Int)] : Array Value)[o]? := fun o => (World.cell?_of_block (ho1.block w.heap.size (by simp) hbx1)).trans (by simp [go_sem])
  have bz1 : w.heap.size < w1.heap.size := Nat.lt_of_lt_of_le (by simp) ho1.size
  clear hR1 ho1 HR0 HD0
  go_wp2_with fail
  refine (dText_c h cap ao ns a k _ HD1.out hk).mono ?_
  rintro e w2 ⟨rfl, ho2, hD2⟩
  have HD2 := hide hD2
  have HR2 := hide (HR1.out.only ho2 hgh hBh)
  have HO2 := hide ho2
  have O2 := hide (only2_of HB0.out HO1.out HO2.out)
  have bx2 : ∀ o, w2.cell? ⟨w.heap.size, o, none⟩ = (#[Value.int .i64 5, Value.int .i64 (k : Int)] : Array Value)[o]? := fun o => (World.cell?_of_block (ho2.block w.heap.size bz1 hbx2)).trans (bx1 o)
  clear hD2 ho2 HD1 HR1 HB0 HO1 HO2 bx1
  go_wp2_with (go_at_call 23; go_in)
  go_ret
  exact ⟨_, rfl, O2.out, HR2.out, HD2.out⟩
end Go.Proofs.Ytajkgecegefnmaa

namespace Go.Proofs.Ytajkgecegefnmaa
open Go.ChangeShapes Go.WideShapes Go.ChangeAt Go.RowKit Go.Deep
set_option linter.unusedSimpArgs false
set_option linter.unusedVariables false

theorem tk_len (R : Nat → Value × Nat × Nat) : ∀ k a, (tk R k a).1.length ≤ k
  | 0, a => Nat.le_refl _
  | k + 1, a => by
    by_cases h : (R a).2.1 = 0
    · rw [tk_ok _ _ _ h, List.length_cons]; have := tk_len R k (R a).2.2; omega
    · rw [tk, if_pos h]; simp
theorem tl_len (R : Nat → Value × Nat × Nat) (ns : List Nat) (a m : Nat) : (tl R ns a m).1.length ≤ ns.length := by
  unfold tl
  split
  · exact Nat.zero_le _
  · rename_i h
    split
    · exact Nat.zero_le _
    · have h0 : (lg ns a m).2.1 = 0 := by omega
      have q := lg_ok ns a m h0
      have q2 := tk_len R (lg ns a m).1 (lg ns a m).2.2
      have q3 : (lg ns a m).1 = (rd ns a).1 := by rw [q.2.2.2]
      omega

set_option maxRecDepth 100000 in
set_option maxHeartbeats 4000000 in
theorem asks_6n (g B h cap : Nat) (ao : Option Addr) (ns : List Nat) (a : Nat) (nn : Int) (w : World) (hR : RAny w g B ns a) (hD : DObj w h ao cap ns a) (hgh : g ≠ h) (hBh : B ≤ h) (hao : ∀ ad, ao = some ad → ns ≠ [] → ad.block ≠ g) (hlen : ns.length ≤ 1099511627776) (hm : nn < 0) : Calls Try.prog 30 #[.pointer (some ⟨g, 0, none⟩), .pointer (some ⟨h, 0, none⟩), .agg #[.int .i64 6, .int .i64 nn]] w (fun e w' => ∃ a', e = .returned (.bool true) ∧ Only2 g h w w' ∧ RAny w' g B ns a' ∧ DObj w' h ao cap ns a') := by
  have hB0 : Below w.heap.size w (w.alloc (.cells #[.int .i64 6, .int .i64 nn] 67)) := by (focus repeat' (first | (with_reducible exact Below.refl _ _) | (with_reducible assumption) | (with_reducible refine Below.alloc ?_ ?_ _) | (with_reducible refine Below.drew ?_) | (with_reducible refine bdrewN ?_ _) | (with_reducible refine Below.setCell ?_ ?_ _) | (first | (with_reducible exact Nat.le_refl _) | (with_reducible assumption) | omega | (simp; omega) | (simp; done))))
  have HR0 := hide (hR.below hB0)
  have HD0 := hide (hD.below hB0)
  have HB0 := hide hB0
  have hhg : h ≠ g := fun e => hgh e.symm
  have hdl := hD.le
  have hg0 := hR.cells.1
  have hh0 := hD.lt
  have hbx1 : w.heap.size ≠ g := by omega
  have hbx2 : w.heap.size ≠ h := by omega
  clear hR hD hB0
  go_enter Try.func30, Try.ntmps30
  go_wp2_with fail
  refine (Take_U_neg g B ns a nn _ HR0.out hm).mono ?_
  rintro e w1 ⟨v1, rfl, ho1, hR1, own1⟩
  have HR1 := hide hR1
  have HD1 := hide (HD0.out.only' ho1 hhg hao)
  have HO1 := hide ho1
  have bx1 : ∀ o, w1.cell? ⟨w.heap.size, o, none⟩ = (#[Value.int .i64 6, Value.int .i64 nn] : Array Value)[o]? := fun o => (World.cell?_of_block (ho1.block w.heap.size (by simp) hbx1)).trans (by simp [go_sem])
  have bz1 : w.heap.size < w1.heap.size := Nat.lt_of_lt_of_le (by simp) ho1.size
  clear hR1 ho1 HR0 HD0
  go_wp2_with fail
  refine (dN_U_neg h cap ao ns a nn _ HD1.out hm).mono ?_
  rintro e w2 ⟨v2, rfl, ho2, hD2, own2⟩
  have OWA := hide (own_only own1 ho2 (Nat.lt_of_lt_of_le hh0 (by simp)))
  have OWB := hide own2
  clear own1 own2
  have HD2 := hide hD2
  have HR2 := hide (HR1.out.only ho2 hgh hBh)
  have HO2 := hide ho2
  have O2 := hide (only2_of HB0.out HO1.out HO2.out)
  have bx2 : ∀ o, w2.cell? ⟨w.heap.size, o, none⟩ = (#[Value.int .i64 6, Value.int .i64 nn] : Array Value)[o]? := fun o => (World.cell?_of_block (ho2.block w.heap.size bz1 hbx2)).trans (bx1 o)
  clear hD2 ho2 HD1 HR1 HB0 HO1 HO2 bx1
  go_wp2_with fail
  refine (Same_c v1 v2 _ _ [] _ OWA.out OWB.out (fun x hx => by cases hx) (by simp)).mono ?_
  rintro e w3 ⟨rfl, hb3⟩
  have HD3 := hide (HD2.out.below hb3)
  have HR3 := hide (HR2.out.below hb3)
  have O3 := hide (O2.out.trans (Only2.of_below hb3))
  clear hb3 HD2 HR2 O2 bx2
  go_wp2_with (go_at_call 23; go_in)
  go_ret
  exact ⟨_, rfl, O3.out, HR3.out, HD3.out⟩

set_option maxRecDepth 100000 in
set_option maxHeartbeats 4000000 in
theorem asks_6 (g B h cap : Nat) (ao : Option Addr) (ns : List Nat) (a : Nat) (nn : Int) (k : Nat) (w : World) (hR : RAny w g B ns a) (hD : DObj w h ao cap ns a) (hgh : g ≠ h) (hBh : B ≤ h) (hao : ∀ ad, ao = some ad → ns ≠ [] → ad.block ≠ g) (hlen : ns.length ≤ 1099511627776) (hk : k ≤ 9223372036854775807) : Calls Try.prog 30 #[.pointer (some ⟨g, 0, none⟩), .pointer (some ⟨h, 0, none⟩), .agg #[.int .i64 6, .int .i64 (k : Int)]] w (fun e w' => ∃ a', e = .returned (.bool true) ∧ Only2 g h w w' ∧ RAny w' g B ns a' ∧ DObj w' h ao cap ns a') := by
  have hB0 : Below w.heap.size w (w.alloc (.cells #[.int .i64 6, .int .i64 (k : Int)] 67)) := by (focus repeat' (first | (with_reducible exact Below.refl _ _) | (with_reducible assumption) | (with_reducible refine Below.alloc ?_ ?_ _) | (with_reducible refine Below.drew ?_) | (with_reducible refine bdrewN ?_ _) | (with_reducible refine Below.setCell ?_ ?_ _) | (first | (with_reducible exact Nat.le_refl _) | (with_reducible assumption) | omega | (simp; omega) | (simp; done))))
  have HR0 := hide (hR.below hB0)
  have HD0 := hide (hD.below hB0)
  have HB0 := hide hB0
  have hhg : h ≠ g := fun e => hgh e.symm
  have hdl := hD.le
  have hg0 := hR.cells.1
  have hh0 := hD.lt
  have hbx1 : w.heap.size ≠ g := by omega
  have hbx2 : w.heap.size ≠ h := by omega
  clear hR hD hB0
  go_enter Try.func30, Try.ntmps30
  go_wp2_with fail
  refine (Take_U_c g B ns a k _ HR0.out hk hlen).mono ?_
  rintro e w1 ⟨v1, rfl, ho1, hR1, own1⟩
  have HR1 := hide hR1
  have HD1 := hide (HD0.out.only' ho1 hhg hao)
  have HO1 := hide ho1
  have bx1 : ∀ o, w1.cell? ⟨w.heap.size, o, none⟩ = (#[Value.int .i64 6, Value.int .i64 (k : Int)] : Array Value)[o]? := fun o => (World.cell?_of_block (ho1.block w.heap.size (by simp) hbx1)).trans (by simp [go_sem])
  have bz1 : w.heap.size < w1.heap.size := Nat.lt_of_lt_of_le (by simp) ho1.size
  clear hR1 ho1 HR0 HD0
  go_wp2_with fail
  refine (dN_U_c h cap ao ns a k _ HD1.out hk hlen).mono ?_
  rintro e w2 ⟨v2, rfl, ho2, hD2, own2⟩
  have OWA := hide (own_only own1 ho2 (Nat.lt_of_lt_of_le hh0 (by simp)))
  have OWB := hide own2
  clear own1 own2
  have HD2 := hide hD2
  have HR2 := hide (HR1.out.only ho2 hgh hBh)
  have HO2 := hide ho2
  have O2 := hide (only2_of HB0.out HO1.out HO2.out)
  have bx2 : ∀ o, w2.cell? ⟨w.heap.size, o, none⟩ = (#[Value.int .i64 6, Value.int .i64 (k : Int)] : Array Value)[o]? := fun o => (World.cell?_of_block (ho2.block w.heap.size bz1 hbx2)).trans (bx1 o)
  clear hD2 ho2 HD1 HR1 HB0 HO1 HO2 bx1
  go_wp2_with fail
  refine (Same_c v1 v2 _ _ (tl (RU ns) ns a k).1 _ OWA.out OWB.out (tl_ints ns a k) (Nat.le_trans (tl_len _ _ _ _) hlen)).mono ?_
  rintro e w3 ⟨rfl, hb3⟩
  have HD3 := hide (HD2.out.below hb3)
  have HR3 := hide (HR2.out.below hb3)
  have O3 := hide (O2.out.trans (Only2.of_below hb3))
  clear hb3 HD2 HR2 O2 bx2
  go_wp2_with (go_at_call 23; go_in)
  go_ret
  exact ⟨_, rfl, O3.out, HR3.out, HD3.out⟩

set_option maxRecDepth 100000 in
set_option maxHeartbeats 4000000 in
theorem asks_7n (g B h cap : Nat) (ao : Option Addr) (ns : List Nat) (a : Nat) (nn : Int) (w : World) (hR : RAny w g B ns a) (hD : DObj w h ao cap ns a) (hgh : g ≠ h) (hBh : B ≤ h) (hao : ∀ ad, ao = some ad → ns ≠ [] → ad.block ≠ g) (hlen : ns.length ≤ 1099511627776) (hm : nn < 0) : Calls Try.prog 30 #[.pointer (some ⟨g, 0, none⟩), .pointer (some ⟨h, 0, none⟩), .agg #[.int .i64 7, .int .i64 nn]] w (fun e w' => ∃ a', e = .returned (.bool true) ∧ Only2 g h w w' ∧ RAny w' g B ns a' ∧ DObj w' h ao cap ns a') := by
  have hB0 : Below w.heap.size w (w.alloc (.cells #[.int .i64 7, .int .i64 nn] 67)) := by (focus repeat' (first | (with_reducible exact Below.refl _ _) | (with_reducible assumption) | (with_reducible refine Below.alloc ?_ ?_ _) | (with_reducible refine Below.drew ?_) | (with_reducible refine bdrewN ?_ _) | (with_reducible refine Below.setCell ?_ ?_ _) | (first | (with_reducible exact Nat.le_refl _) | (with_reducible assumption) | omega | (simp; omega) | (simp; done))))
  have HR0 := hide (hR.below hB0)
  have HD0 := hide (hD.below hB0)
  have HB0 := hide hB0
  have hhg : h ≠ g := fun e => hgh e.symm
  have hdl := hD.le
  have hg0 := hR.cells.1
  have hh0 := hD.lt
  have hbx1 : w.heap.size ≠ g := by omega
  have hbx2 : w.heap.size ≠ h := by omega
  clear hR hD hB0
  go_enter Try.func30, Try.ntmps30
  go_wp2_with fail
  refine (Take_S_neg g B ns a nn _ HR0.out hm).mono ?_
  rintro e w1 ⟨v1, rfl, ho1, hR1, own1⟩
  have HR1 := hide hR1
  have HD1 := hide (HD0.out.only' ho1 hhg hao)
  have HO1 := hide ho1
  have bx1 : ∀ o, w1.cell? ⟨w.heap.size, o, none⟩ = (#[Value.int .i64 7, Value.int .i64 nn] : Array Value)[o]? := fun o => (World.cell?_of_block (ho1.block w.heap.size (by simp) hbx1)).trans (by simp [go_sem])
  have bz1 : w.heap.size < w1.heap.size := Nat.lt_of_lt_of_le (by simp) ho1.size
  clear hR1 ho1 HR0 HD0
  go_wp2_with fail
  refine (dN_S_neg h cap ao ns a nn _ HD1.out hm).mono ?_
  rintro e w2 ⟨v2, rfl, ho2, hD2, own2⟩
  have OWA := hide (own_only own1 ho2 (Nat.lt_of_lt_of_le hh0 (by simp)))
  have OWB := hide own2
  clear own1 own2
  have HD2 := hide hD2
  have HR2 := hide (HR1.out.only ho2 hgh hBh)
  have HO2 := hide ho2
  have O2 := hide (only2_of HB0.out HO1.out HO2.out)
  have bx2 : ∀ o, w2.cell? ⟨w.heap.size, o, none⟩ = (#[Value.int .i64 7, Value.int .i64 nn] : Array Value)[o]? := fun o => (World.cell?_of_block (ho2.block w.heap.size bz1 hbx2)).trans (bx1 o)
  clear hD2 ho2 HD1 HR1 HB0 HO1 HO2 bx1
  go_wp2_with fail
  refine (SameTexts_c v1 v2 _ _ [] _ OWA.out OWB.out (fun x hx => by cases hx) (by simp)).mono ?_
  rintro e w3 ⟨rfl, hb3⟩
  have HD3 := hide (HD2.out.below hb3)
  have HR3 := hide (HR2.out.below hb3)
  have O3 := hide (O2.out.trans (Only2.of_below hb3))
  clear hb3 HD2 HR2 O2 bx2
  go_wp2_with (go_at_call 23; go_in)
  go_ret
  exact ⟨_, rfl, O3.out, HR3.out, HD3.out⟩

set_option maxRecDepth 100000 in
set_option maxHeartbeats 4000000 in
theorem asks_7 (g B h cap : Nat) (ao : Option Addr) (ns : List Nat) (a : Nat) (nn : Int) (k : Nat) (w : World) (hR : RAny w g B ns a) (hD : DObj w h ao cap ns a) (hgh : g ≠ h) (hBh : B ≤ h) (hao : ∀ ad, ao = some ad → ns ≠ [] → ad.block ≠ g) (hlen : ns.length ≤ 1099511627776) (hk : k ≤ 9223372036854775807) : Calls Try.prog 30 #[.pointer (some ⟨g, 0, none⟩), .pointer (some ⟨h, 0, none⟩), .agg #[.int .i64 7, .int .i64 (k : Int)]] w (fun e w' => ∃ a', e = .returned (.bool true) ∧ Only2 g h w w' ∧ RAny w' g B ns a' ∧ DObj w' h ao cap ns a') := by
  have hB0 : Below w.heap.size w (w.alloc (.cells #[.int .i64 7, .int .i64 (k : Int)] 67)) := by (focus repeat' (first | (with_reducible exact Below.refl _ _) | (with_reducible assumption) | (with_reducible refine Below.alloc ?_ ?_ _) | (with_reducible refine Below.drew ?_) | (with_reducible refine bdrewN ?_ _) | (with_reducible refine Below.setCell ?_ ?_ _) | (first | (with_reducible exact Nat.le_refl _) | (with_reducible assumption) | omega | (simp; omega) | (simp; done))))
  have HR0 := hide (hR.below hB0)
  have HD0 := hide (hD.below hB0)
  have HB0 := hide hB0
  have hhg : h ≠ g := fun e => hgh e.symm
  have hdl := hD.le
  have hg0 := hR.cells.1
  have hh0 := hD.lt
  have hbx1 : w.heap.size ≠ g := by omega
  have hbx2 : w.heap.size ≠ h := by omega
  clear hR hD hB0
  go_enter Try.func30, Try.ntmps30
  go_wp2_with fail
  refine (Take_S_c g B ns a k _ HR0.out hk hlen).mono ?_
  rintro e w1 ⟨v1, rfl, ho1, hR1, own1⟩
  have HR1 := hide hR1
  have HD1 := hide (HD0.out.only' ho1 hhg hao)
  have HO1 := hide ho1
  have bx1 : ∀ o, w1.cell? ⟨w.heap.size, o, none⟩ = (#[Value.int .i64 7, Value.int .i64 (k : Int)] : Array Value)[o]? := fun o => (World.cell?_of_block (ho1.block w.heap.size (by simp) hbx1)).trans (by simp [go_sem])
  have bz1 : w.heap.size < w1.heap.size := Nat.lt_of_lt_of_le (by simp) ho1.size
  clear hR1 ho1 HR0 HD0
  go_wp2_with fail
  refine (dN_S_c h cap ao ns a k _ HD1.out hk hlen).mono ?_
  rintro e w2 ⟨v2, rfl, ho2, hD2, own2⟩
  have OWA := hide (own_only own1 ho2 (Nat.lt_of_lt_of_le hh0 (by simp)))
  have OWB := hide own2
  clear own1 own2
  have HD2 := hide hD2
  have HR2 := hide (HR1.out.only ho2 hgh hBh)
  have HO2 := hide ho2
  have O2 := hide (only2_of HB0.out HO1.out HO2.out)
  have bx2 : ∀ o, w2.cell? ⟨w.heap.size, o, none⟩ = (#[Value.int .i64 7, Value.int .i64 (k : Int)] : Array Value)[o]? := fun o => (World.cell?_of_block (ho2.block w.heap.size bz1 hbx2)).trans (bx1 o)
  clear hD2 ho2 HD1 HR1 HB0 HO1 HO2 bx1
  go_wp2_with fail
  refine (SameTexts_c v1 v2 _ _ (tl (RS ns) ns a k).1 _ OWA.out OWB.out (tl_strs ns a k) (Nat.le_trans (tl_len _ _ _ _) hlen)).mono ?_
  rintro e w3 ⟨rfl, hb3⟩
  have HD3 := hide (HD2.out.below hb3)
  have HR3 := hide (HR2.out.below hb3)
  have O3 := hide (O2.out.trans (Only2.of_below hb3))
  clear hb3 HD2 HR2 O2 bx2
  go_wp2_with (go_at_call 23; go_in)
  go_ret
  exact ⟨_, rfl, O3.out, HR3.out, HD3.out⟩

set_option maxRecDepth 100000 in
set_option maxHeartbeats 4000000 in
theorem asks_8y (g B h cap : Nat) (ao : Option Addr) (ns : List Nat) (a : Nat) (nn : Int) (w : World) (hR : RAny w g B ns a) (hD : DObj w h ao cap ns a) (hgh : g ≠ h) (hBh : B ≤ h) (hao : ∀ ad, ao = some ad → ns ≠ [] → ad.block ≠ g) (hlen : ns.length ≤ 1099511627776) (hlt : a < ns.length) : Calls Try.prog 30 #[.pointer (some ⟨g, 0, none⟩), .pointer (some ⟨h, 0, none⟩), .agg #[.int .i64 8, .int .i64 nn]] w (fun e w' => ∃ a', e = .returned (.bool true) ∧ Only2 g h w w' ∧ RAny w' g B ns a' ∧ DObj w' h ao cap ns a') := by
  have hB0 : Below w.heap.size w (w.alloc (.cells #[.int .i64 8, .int .i64 nn] 67)) := by (focus repeat' (first | (with_reducible exact Below.refl _ _) | (with_reducible assumption) | (with_reducible refine Below.alloc ?_ ?_ _) | (with_reducible refine Below.drew ?_) | (with_reducible refine bdrewN ?_ _) | (with_reducible refine Below.setCell ?_ ?_ _) | (first | (with_reducible exact Nat.le_refl _) | (with_reducible assumption) | omega | (simp; omega) | (simp; done))))
  have HR0 := hide (hR.below hB0)
  have HD0 := hide (hD.below hB0)
  have HB0 := hide hB0
  have hhg : h ≠ g := fun e => hgh e.symm
  have hdl := hD.le
  have hg0 := hR.cells.1
  have hh0 := hD.lt
  have hbx1 : w.heap.size ≠ g := by omega
  have hbx2 : w.heap.size ≠ h := by omega
  clear hR hD hB0
  have hx : (0 : Int) < (ns.length : Int) - (a : Int) := by omega
  have hx0 : ¬ ((ns.length : Int) - (a : Int) = 0) := by omega
  go_enter Try.func30, Try.ntmps30
  go_wp2_with fail
  refine (End_yes g B ns a _ HR0.out hlt).mono ?_
  rintro e w1 ⟨rfl, hb1⟩
  have HR1 := hide (HR0.out.below hb1)
  have HD1 := hide (HD0.out.below hb1)
  have HB1 := hide (bstep HB0.out hb1)
  clear hb1 HR0 HD0
  go_wp2_with (first | (go_at_call 23; go_in) | (go_at_call 25; refine (dLeft_c h cap ao ns a _ HD1.out).mono ?_; rintro e w2 ⟨rfl, hb2⟩; have HR2 := hide (HR1.out.below hb2); have HD2 := hide (HD1.out.below hb2); have HB2 := hide (bstep HB1.out hb2); clear hb2))
  go_ret
  exact ⟨a, rfl, Only2.of_below HB2.out, HR2.out, HD2.out⟩

set_option maxRecDepth 100000 in
set_option maxHeartbeats 4000000 in
theorem asks_8n (g B h cap : Nat) (ao : Option Addr) (ns : List Nat) (a : Nat) (nn : Int) (w : World) (hR : RAny w g B ns a) (hD : DObj w h ao cap ns a) (hgh : g ≠ h) (hBh : B ≤ h) (hao : ∀ ad, ao = some ad → ns ≠ [] → ad.block ≠ g) (hlen : ns.length ≤ 1099511627776) (hlt : ¬ a < ns.length) : Calls Try.prog 30 #[.pointer (some ⟨g, 0, none⟩), .pointer (some ⟨h, 0, none⟩), .agg #[.int .i64 8, .int .i64 nn]] w (fun e w' => ∃ a', e = .returned (.bool true) ∧ Only2 g h w w' ∧ RAny w' g B ns a' ∧ DObj w' h ao cap ns a') := by
  have hB0 : Below w.heap.size w (w.alloc (.cells #[.int .i64 8, .int .i64 nn] 67)) := by (focus repeat' (first | (with_reducible exact Below.refl _ _) | (with_reducible assumption) | (with_reducible refine Below.alloc ?_ ?_ _) | (with_reducible refine Below.drew ?_) | (with_reducible refine bdrewN ?_ _) | (with_reducible refine Below.setCell ?_ ?_ _) | (first | (with_reducible exact Nat.le_refl _) | (with_reducible assumption) | omega | (simp; omega) | (simp; done))))
  have HR0 := hide (hR.below hB0)
  have HD0 := hide (hD.below hB0)
  have HB0 := hide hB0
  have hhg : h ≠ g := fun e => hgh e.symm
  have hdl := hD.le
  have hg0 := hR.cells.1
  have hh0 := hD.lt
  have hbx1 : w.heap.size ≠ g := by omega
  have hbx2 : w.heap.size ≠ h := by omega
  clear hR hD hB0
  have hx : ¬ (0 : Int) < (ns.length : Int) - (a : Int) := by omega
  have hx0 : (ns.length : Int) - (a : Int) = 0 := by omega
  go_enter Try.func30, Try.ntmps30
  go_wp2_with fail
  refine (End_no g B ns a _ HR0.out hlt).mono ?_
  rintro e w1 ⟨rfl, hb1⟩
  have HR1 := hide (HR0.out.below hb1)
  have HD1 := hide (HD0.out.below hb1)
  have HB1 := hide (bstep HB0.out hb1)
  clear hb1 HR0 HD0
  go_wp2_with (first | (go_at_call 23; go_in) | (go_at_call 25; refine (dLeft_c h cap ao ns a _ HD1.out).mono ?_; rintro e w2 ⟨rfl, hb2⟩; have HR2 := hide (HR1.out.below hb2); have HD2 := hide (HD1.out.below hb2); have HB2 := hide (bstep HB1.out hb2); clear hb2))
  go_ret
  exact ⟨a, rfl, Only2.of_below HB2.out, HR2.out, HD2.out⟩

set_option maxRecDepth 100000 in
set_option maxHeartbeats 4000000 in
theorem asks_0 (g B h cap : Nat) (ao : Option Addr) (ns : List Nat) (a : Nat) (nn : Int) (kd : Int) (w : World) (hR : RAny w g B ns a) (hD : DObj w h ao cap ns a) (hgh : g ≠ h) (hBh : B ≤ h) (hao : ∀ ad, ao = some ad → ns ≠ [] → ad.block ≠ g) (hlen : ns.length ≤ 1099511627776) (k1 : ¬ kd = 1) (k2 : ¬ kd = 2) (k3 : ¬ kd = 3) (k4 : ¬ kd = 4) (k5 : ¬ kd = 5) (k6 : ¬ kd = 6) (k7 : ¬ kd = 7) (k8 : ¬ kd = 8) : Calls Try.prog 30 #[.pointer (some ⟨g, 0, none⟩), .pointer (some ⟨h, 0, none⟩), .agg #[.int .i64 kd, .int .i64 nn]] w (fun e w' => ∃ a', e = .returned (.bool true) ∧ Only2 g h w w' ∧ RAny w' g B ns a' ∧ DObj w' h ao cap ns a') := by
  have hB0 : Below w.heap.size w (w.alloc (.cells #[.int .i64 kd, .int .i64 nn] 67)) := by (focus repeat' (first | (with_reducible exact Below.refl _ _) | (with_reducible assumption) | (with_reducible refine Below.alloc ?_ ?_ _) | (with_reducible refine Below.drew ?_) | (with_reducible refine bdrewN ?_ _) | (with_reducible refine Below.setCell ?_ ?_ _) | (first | (with_reducible exact Nat.le_refl _) | (with_reducible assumption) | omega | (simp; omega) | (simp; done))))
  have HR0 := hide (hR.below hB0)
  have HD0 := hide (hD.below hB0)
  have HB0 := hide hB0
  have hhg : h ≠ g := fun e => hgh e.symm
  have hdl := hD.le
  have hg0 := hR.cells.1
  have hh0 := hD.lt
  have hbx1 : w.heap.size ≠ g := by omega
  have hbx2 : w.heap.size ≠ h := by omega
  clear hR hD hB0
  go_enter Try.func30, Try.ntmps30
  go_wp2
  go_ret
  exact ⟨a, rfl, Only2.of_below HB0.out, HR0.out, HD0.out⟩

theorem asks_c (g B h cap : Nat) (ao : Option Addr) (ns : List Nat) (a : Nat) (kd nn : Int) (w : World) (hR : RAny w g B ns a) (hD : DObj w h ao cap ns a) (hgh : g ≠ h) (hBh : B ≤ h) (hao : ∀ ad, ao = some ad → ns ≠ [] → ad.block ≠ g) (hlen : ns.length ≤ 1099511627776) (hn2 : nn ≤ 9223372036854775807) : Calls Try.prog 30 #[.pointer (some ⟨g, 0, none⟩), .pointer (some ⟨h, 0, none⟩), .agg #[.int .i64 kd, .int .i64 nn]] w (fun e w' => ∃ a', e = .returned (.bool true) ∧ Only2 g h w w' ∧ RAny w' g B ns a' ∧ DObj w' h ao cap ns a') := by
  by_cases k1 : kd = 1
  · subst k1; exact asks_1 g B h cap ao ns a nn w hR hD hgh hBh hao hlen
  by_cases k2 : kd = 2
  · subst k2
    by_cases hE : (rd ns a).2.1 = 0
    · exact asks_2a g B h cap ao ns a nn w hR hD hgh hBh hao hlen hE
    · exact asks_2b g B h cap ao ns a nn w hR hD hgh hBh hao hlen hE
  by_cases k3 : kd = 3
  · subst k3; exact asks_3 g B h cap ao ns a nn w hR hD hgh hBh hao hlen
  by_cases k4 : kd = 4
  · subst k4; exact asks_4 g B h cap ao ns a nn w hR hD hgh hBh hao hlen
  by_cases k5 : kd = 5
  · subst k5
    by_cases hm : nn < 0
    · exact asks_5n g B h cap ao ns a nn w hR hD hgh hBh hao hlen hm
    · obtain ⟨k, rfl⟩ : ∃ k : Nat, nn = (k : Int) := ⟨nn.toNat, by omega⟩
      exact asks_5 g B h cap ao ns a 0 k w hR hD hgh hBh hao hlen (by omega)
  by_cases k6 : kd = 6
  · subst k6
    by_cases hm : nn < 0
    · exact asks_6n g B h cap ao ns a nn w hR hD hgh hBh hao hlen hm
    · obtain ⟨k, rfl⟩ : ∃ k : Nat, nn = (k : Int) := ⟨nn.toNat, by omega⟩
      exact asks_6 g B h cap ao ns a 0 k w hR hD hgh hBh hao hlen (by omega)
  by_cases k7 : kd = 7
  · subst k7
    by_cases hm : nn < 0
    · exact asks_7n g B h cap ao ns a nn w hR hD hgh hBh hao hlen hm
    · obtain ⟨k, rfl⟩ : ∃ k : Nat, nn = (k : Int) := ⟨nn.toNat, by omega⟩
      exact asks_7 g B h cap ao ns a 0 k w hR hD hgh hBh hao hlen (by omega)
  by_cases k8 : kd = 8
  · subst k8
    by_cases hlt : a < ns.length
    · exact asks_8y g B h cap ao ns a nn w hR hD hgh hBh hao hlen hlt
    · exact asks_8n g B h cap ao ns a nn w hR hD hgh hBh hao hlen hlt
  · exact asks_0 g B h cap ao ns a nn kd w hR hD hgh hBh hao hlen k1 k2 k3 k4 k5 k6 k7 k8
end Go.Proofs.Ytajkgecegefnmaa

namespace Go.Proofs.Ytajkgecegefnmaa
open Go.ChangeShapes Go.WideShapes Go.ChangeAt Go.RowKit Go.Deep
set_option linter.unusedSimpArgs false
set_option linter.unusedVariables false

/-- a slice of asks that came in -/
structure RowQ (w : World) (so : Option Addr) (qs : List (Int × Int)) : Prop where
  cells : qs ≠ [] → ∃ b off, so = some ⟨b, off, none⟩ ∧ b < w.heap.size ∧ ∀ i, i < qs.length → w.cell? ⟨b, off + i * 2, none⟩ = some (.int .i64 (qs.getD i (0, 0)).1) ∧ w.cell? ⟨b, off + i * 2 + 1, none⟩ = some (.int .i64 (qs.getD i (0, 0)).2)
  fits : ∀ q ∈ qs, q.2 ≤ 9223372036854775807
  len : qs.length ≤ maxLen
theorem RNil.only {w w' : World} {g gm : Nat} (k : RNil w g) (ho : Only gm w w') (h : g ≠ gm) : RNil w' g :=
  ⟨Nat.lt_of_lt_of_le k.1 ho.size, fun o => (World.cell?_of_block (ho.block g k.1 h)).trans (k.2.1 o), fun o => (World.frozen?_of_block (ho.block g k.1 h)).trans (k.2.2 o)⟩
theorem RObj.only0 {w w' : World} {g b off cap gm : Nat} {a : Nat} (k : RObj w g b off cap [] a) (ho : Only gm w w') (h : g ≠ gm) : RObj w' g b off cap [] a := by
  obtain ⟨r1, r2, r3, r4, r5, r6, r7, r8, r9, r10⟩ := k
  exact ⟨Nat.lt_of_lt_of_le r1 ho.size, fun o => (World.cell?_of_block (ho.block g r1 h)).trans (r2 o), fun o => (World.frozen?_of_block (ho.block g r1 h)).trans (r3 o), Nat.lt_of_lt_of_le r4 ho.size, r5, fun j hj => by simp at hj, r7, r8, r9, r10⟩
theorem NewReader_far (ao : Option Addr) (cap : Nat) (ns : List Nat) (w : World) (h : Row8 w ao cap ns) : Calls Try.prog 19 #[.slice ao ns.length cap] w (fun e w' => ∃ g, e = .returned (.pointer (some ⟨g, 0, none⟩)) ∧ w.heap.size ≤ g ∧ g < w'.heap.size ∧ Below w.heap.size w w' ∧ ∀ wa wb gm, Below w'.heap.size w' wa → Only gm wa wb → gm < w.heap.size → RAny wb g w'.heap.size ns 0) := by
  by_cases hn : ns = []
  · subst hn
    refine (NewReader_any ao cap [] w h).mono ?_
    rintro e w' ⟨g, rfl, hg, hb, hR⟩
    refine ⟨g, rfl, hg, hR.cells.1, hb, fun wa wb gm hba ho hgm => ?_⟩
    obtain ⟨hB, ⟨b, off, c, hb2, k⟩ | ⟨k, _, _⟩⟩ := hR.below hba
    · exact ⟨Nat.le_trans hB ho.size, .inl ⟨b, off, c, hb2, k.only0 ho (by omega)⟩⟩
    · exact ⟨Nat.le_trans hB ho.size, .inr ⟨k.only ho (by omega), rfl, rfl⟩⟩
  · obtain ⟨b, off, rfl, hb, hc⟩ := h.bytes hn
    refine (NewReader_some ns b off cap w (List.length_pos_iff.2 hn) (by have := h.len; omega) h.small hc hb).mono ?_
    rintro e w' ⟨g, b2, cap2, rfl, hg, hb2, hbel, hR⟩
    refine ⟨g, rfl, hg, hR.1, hbel, fun wa wb gm hba ho hgm => ?_⟩
    have k := hR.below hba
    exact ⟨Nat.le_trans hba.size ho.size, .inl ⟨b2, 0, cap2, hR.2.2.2.1, k.same ho.size (ho.block g k.1 (by omega)) (ho.block b2 k.2.2.2.1 (by omega))⟩⟩
theorem conv_row8 {w : World} {ao : Option Addr} {cap : Nat} {ns : List Nat} (h : Row8 w ao cap ns) : Sem.run Try.prog (convert 28 9 (.slice ao ns.length cap)) w = .ok (.string (bstr ns)) w := by
  by_cases hn : ns = []
  · subst hn; exact convert_zero w ao cap
  · obtain ⟨b, off, rfl, hb, hc⟩ := h.bytes hn
    exact conv28 w b off cap ns hc
theorem Row8.below {w w' : World} {ao : Option Addr} {cap : Nat} {ns : List Nat} (h : Row8 w ao cap ns) (hb : Below w.heap.size w w') : Row8 w' ao cap ns :=
  ⟨h.nil, fun hn => by
    obtain ⟨b, off, h1, h2, h3⟩ := h.bytes hn
    exact ⟨b, off, h1, Nat.lt_of_lt_of_le h2 hb.size, fun j hj => (hb.cell (p := ⟨b, off + j, none⟩) h2).trans (h3 j hj)⟩, h.small, h.len, h.cap_le⟩
theorem below_only2 {w0 w w' : World} {g h : Nat} (hb : Below w0.heap.size w0 w) (k : Only2 g h w w') (hg : w0.heap.size ≤ g) (hh : w0.heap.size ≤ h) : Below w0.heap.size w0 w' :=
  hb.trans ⟨k.1, k.2.1, k.2.2.1, k.2.2.2.1, fun i hi => k.2.2.2.2 i (by have := hb.size; omega) (by omega) (by omega)⟩
theorem row_add {w : World} {b off : Nat} {ns : List Nat} (hb : ∀ j, j < ns.length → w.cell? ⟨b, off + j, none⟩ = some (.int .u8 (ns.getD j 0 : Int))) : ∀ j u, (ns.map (fun (b : Nat) => Value.int .u8 (b : Int)))[j]? = some u → w.cell? ((⟨b, off, none⟩ : Addr).add j) = some u := fun j u hu => by
  rw [List.getElem?_map] at hu
  cases e : ns[j]? with
  | none => rw [e] at hu; cases hu
  | some x =>
    rw [e] at hu
    have hj : j < ns.length := (List.getElem?_eq_some_iff.1 e).1
    have q := hb j hj
    have ha : (⟨b, off, none⟩ : Addr).add j = ⟨b, off + j, none⟩ := by
      unfold Addr.add
      split
      · (rename_i h; subst h; rfl)
      · rfl
    rw [ha, q, ← hu]
    simp [List.getD, e]
theorem own_at {w : World} {base g cap n : Nat} {e : TypeId} {xs : List Value} (own : w.ownsRow base e 1 (.slice (some ⟨g, 0, none⟩) n cap) n xs) (hn : 0 < n) : base ≤ g ∧ g < w.heap.size ∧ n ≤ cap ∧ (∀ j, j < n → w.cell? ⟨g, j, none⟩ = xs[j]?) ∧ ∀ j, w.frozen? ⟨g, j, none⟩ = false := by
  obtain ⟨g', cap', hv, h1, h2, h3, h4, h5⟩ := own_form own hn
  obtain ⟨rfl, rfl⟩ : g = g' ∧ cap = cap' := by (injection hv with e1 e2 e3; injection e1 with e1; injection e1 with e4; exact ⟨e4, e3⟩)
  exact ⟨h1, h2, h3, h4, h5⟩

set_option maxRecDepth 100000 in
set_option maxHeartbeats 8000000 in
theorem WireReads_c (ao so : Option Addr) (cap scap : Nat) (ns : List Nat) (qs : List (Int × Int)) (w : World) (hb : Row8 w ao cap ns) (hq : RowQ w so qs) (hl1 : ns.length ≤ 1048576) : Calls Try.prog 6 #[.slice ao ns.length cap, .slice so qs.length scap] w (fun e w' => e = .returned (.bool true) ∧ Below w.heap.size w w') := by
  obtain ⟨i0, hi0, hz0, hz1, hz2⟩ := info_parts info5
  have HB8 := hide hb
  have HQ := hide hq
  have hlen := hb.len
  have hql := hq.len
  unfold maxLen at hql
  have hcapl := hb.cap_le
  clear hb hq
  go_enter Try.func6, Try.ntmps6
  go_upto_region 1 with fail
  go_cut [5] (fun v5 wx => ∃ gm cm, v5 = .slice (some ⟨gm, 0, none⟩) (ns.length + 1) cm ∧ wx.ownsRow w.heap.size 5 1 (.slice (some ⟨gm, 0, none⟩) (ns.length + 1) cm) (ns.length + 1) ((ns ++ [165]).map (fun (b : Nat) => Value.int .u8 (b : Int))) ∧ Below w.heap.size w wx)
  case first =>
    by_cases hn : ns = []
    · subst hn
      go_wp2_with (first
        | (at_builtin; refine wpList_append_empty _ rfl (.const (.slice none 0 0)) (.tmp 9) 28 rfl 5 i0 (.int .u8 0) 1 1 Try.underlying28 hi0 hz0 hz1 hz2 rfl (by decide) rfl ao 0 cap rfl rfl (fun h => by obtain ⟨_, e⟩ := HB8.out.nil h; exact e) ?_; intro wa hga)
        | (at_builtin; refine wpList_append_lies _ rfl (.tmp 10) (.tmp 11) 28 rfl w.heap.size 5 i0 (.int .u8 0) 1 1 Try.underlying28 hi0 hz0 hz1 hz2 rfl (by decide) (.slice none 0 0) 0 [] rfl (World.ownsRow_nil _ _ _ _) ⟨wa.heap.size, 0, none⟩ 1 1 [.int .u8 165] rfl rfl (cell_one_new _ _ _) (by intro u hu; simp at hu; subst hu; rfl) (by decide) (by unfold maxLen; omega) (by omega) (by (have := hga.size; simp; omega)) _ rfl ?_; intro g2 cap2 wn hown2 hg2 hgg hgl))
      go_meet
      have hbA : Below w.heap.size w wa := below_grown (Below.refl _ _) hga (fun k e => by cases e) (Nat.le_refl _)
      exact ⟨g2, cap2, rfl, hown2, below_grown (Below.alloc hbA hbA.size _) hg2 (fun k e => by cases e) (by (have := hbA.size; simp; omega))⟩
    · obtain ⟨b, off, rfl, hbz, hc⟩ := HB8.out.bytes hn
      have hpos : 0 < ns.length := List.length_pos_iff.2 hn
      have HC := hide (row_add hc)
      clear hc
      go_wp2_with (first
        | (at_builtin; refine wpList_append_lies _ rfl (.const (.slice none 0 0)) (.tmp 9) 28 rfl w.heap.size 5 i0 (.int .u8 0) 1 1 Try.underlying28 hi0 hz0 hz1 hz2 rfl (by decide) (.slice none 0 0) 0 [] rfl (World.ownsRow_nil _ _ _ _) ⟨b, off, none⟩ ns.length cap (ns.map (fun (b : Nat) => Value.int .u8 (b : Int))) rfl (by simp) HC.out (u8_one _) hpos (by unfold maxLen; omega) (by omega) (Nat.le_refl _) _ rfl ?_; intro ga capa wa owna0 hga hgga hgla; have owna : wa.ownsRow w.heap.size 5 1 (.slice (some ⟨ga, 0, none⟩) ns.length capa) ns.length (ns.map (fun (b : Nat) => Value.int .u8 (b : Int))) := (by (have q := owna0; rw [Nat.zero_add, List.nil_append] at q; exact q)); clear owna0)
        | (at_builtin; refine wpList_append_lies _ rfl (.tmp 10) (.tmp 11) 28 rfl w.heap.size 5 i0 (.int .u8 0) 1 1 Try.underlying28 hi0 hz0 hz1 hz2 rfl (by decide) (.slice (some ⟨ga, 0, none⟩) ns.length capa) ns.length (ns.map (fun (b : Nat) => Value.int .u8 (b : Int))) rfl (owna.alloc _) ⟨wa.heap.size, 0, none⟩ 1 1 [.int .u8 165] rfl rfl (cell_one_new _ _ _) (by intro u hu; simp at hu; subst hu; rfl) (by decide) (by unfold maxLen; omega) (by omega) (by (have := hga.size; simp; omega)) _ rfl ?_; intro g2 cap2 wn hown2 hg2 hgg hgl))
      go_meet
      have hbA : Below w.heap.size w wa := below_grown (Below.refl _ _) hga (fun k e => by cases e) (Nat.le_refl _)
      have hga0 : w.heap.size ≤ ga := (owna.lt ga rfl).1
      refine ⟨g2, cap2, rfl, ?_, below_grown (Below.alloc hbA hbA.size _) hg2 (fun k e => by (have e2 : ga = k := Option.some.inj e); omega) (by (have := hbA.size; simp; omega))⟩
      rw [List.map_append]
      exact hown2
  case rest =>
    obtain ⟨gm, cm, rfl, hown, hbx⟩ := hcut
    obtain ⟨hgm0, hgmz, hcm, hmc, hmf⟩ := own_at hown (by omega)
    have hzx := hbx.size
    have HM8 := hide (show Row8 wc (some ⟨gm, 0, none⟩) cm ns from ⟨(fun e => by cases e), fun _ => ⟨gm, 0, rfl, hgmz, fun j hj => by (rw [Nat.zero_add, hmc j (by omega)]; simp [List.getElem?_append_left, hj, List.getD])⟩, HB8.out.small, HB8.out.len, by omega⟩)
    have HMC := hide hmc
    have HMF := hide hmf
    have HBX := hide hbx
    clear hmc hmf hown hbx
    go_wp2_with fail
    refine (NewReader_far (some ⟨gm, 0, none⟩) cm ns _ HM8.out).mono ?_
    rintro e w1 ⟨g, rfl, hg, hgz, hb1, hfar⟩
    have HFAR := hide hfar
    have hA : Below w1.heap.size w1 (w1.alloc (.cells #[.slice ao ns.length cap, .int .i64 0] 39)) := by (focus repeat' (first | (with_reducible exact Below.refl _ _) | (with_reducible assumption) | (with_reducible refine Below.alloc ?_ ?_ _) | (with_reducible refine Below.drew ?_) | (with_reducible refine bdrewN ?_ _) | (with_reducible refine Below.setCell ?_ ?_ _) | (first | (with_reducible exact Nat.le_refl _) | (with_reducible assumption) | omega | (simp; omega) | (simp; done))))
    have hz1 := hb1.size
    obtain ⟨wA, hwA⟩ : ∃ wA, wA = w1.alloc (.cells #[.slice ao ns.length cap, .int .i64 0] 39) := ⟨_, rfl⟩
    have hbxA := bstep hb1 hA
    have hbwA := bstep HBX.out hbxA
    rw [← hwA] at hA hbxA hbwA
    have HD2 := hide (show DObj wA w1.heap.size ao cap ns 0 from ⟨by (rw [hwA]; simp), fun o => by (rw [hwA]; simp [go_sem]), fun o => by (rw [hwA]; simp [go_sem]), fun hn => by
      obtain ⟨b, off, h1, h2, h3⟩ := HB8.out.bytes hn
      exact ⟨b, off, h1, by (have := hbwA.size; omega), by omega, fun j hj => (hbwA.cell (p := ⟨b, off + j, none⟩) h2).trans (h3 j hj)⟩, HB8.out.small, Nat.zero_le _, by omega, hcapl⟩)
    have CV1 : ∀ k, Sem.run Try.prog (convert 28 9 (.slice (some ⟨gm, 0, none⟩) ns.length cm)) (wA.drewN k) = .ok (.string (bstr ns)) (wA.drewN k) := fun k => conv_row8 (HM8.out.below (bdrewN hbxA k))
    have CV2 : ∀ k, Sem.run Try.prog (convert 28 9 (.slice ao ns.length cap)) (wA.drewN k) = .ok (.string (bstr ns)) (wA.drewN k) := fun k => conv_row8 (HB8.out.below (bdrewN hbwA k))
    have cEnd : wA.cell? ⟨gm, ns.length, none⟩ = some (.int .u8 165) := (hbxA.cell (p := ⟨gm, ns.length, none⟩) hgmz).trans ((HMC.out ns.length (by omega)).trans (by simp))
    have HA := hide hA
    have HBXA := hide hbxA
    have HBWA := hide hbwA
    have HWA := hide hwA
    clear hA hfar hb1 hbxA hbwA hwA
    generalize hst : bstr ns = st at *
    clear hst
    go_wp2_with fail
    rw [← HWA.out]
    go_quiet (fail)
    have hBXq := bdrewN HBXA.out nq
    have hBWq := bdrewN HBWA.out nq
    have hB1A : Below w1.heap.size w1 (wA.drewN nq) := bdrewN HA.out nq
    have HBXq := hide hBXq
    have HBWq := hide hBWq
    have HB1q := hide hB1A
    have HD3 := hide (HD2.out.below (bdrewN (Below.refl wA.heap.size wA) nq))
    have hgmq : gm < (wA.drewN nq).heap.size := Nat.lt_of_lt_of_le hgmz hBXq.size
    clear hBXq hBWq hB1A CV1 CV2 cEnd HD2
    go_wp2_with fail
    refine (spoil_c gm 0 (ns.length + 1) cm _ hgmq (by omega) (fun j hj => ?_)).mono ?_
    · have hjl : j < ((ns ++ [165]).map (fun (b : Nat) => Value.int .u8 (b : Int))).length := by (simp; omega)
      refine ⟨((ns ++ [165]).map (fun (b : Nat) => Value.int .u8 (b : Int)))[j], ?_, ?_⟩
      · rw [Nat.zero_add]
        exact (HBXq.out.cell (p := ⟨gm, j, none⟩) hgmz).trans ((HMC.out j hj).trans (List.getElem?_eq_getElem hjl))
      · rw [Nat.zero_add]
        exact (HBXq.out.frozen (p := ⟨gm, j, none⟩) hgmz).trans (HMF.out j)
    rintro e w4 ⟨⟨u, rfl⟩, ho4⟩
    have HR4 := hide (HFAR.out _ w4 gm HB1q.out ho4 hgmz)
    have haog := hide (show ∀ ad, ao = some ad → ns ≠ [] → ad.block < w.heap.size from fun ad had hn => by
      obtain ⟨b, off, h1, h2, _⟩ := HB8.out.bytes hn
      rw [h1] at had; cases had; exact h2)
    have HD4 := hide (HD3.out.only' ho4 (by omega) (fun ad had hn => by have := haog.out ad had hn; omega))
    have HL4 := hide (below_only HBWq.out ho4 hgm0)
    have hhw : w.heap.size ≤ w1.heap.size := by omega
    have hgw : w.heap.size ≤ g := by omega
    have hgh : g ≠ w1.heap.size := by omega
    have hag := hide (show ∀ ad, ao = some ad → ns ≠ [] → ad.block ≠ g from fun ad had hn => by have := haog.out ad had hn; omega)
    clear ho4 HD3 HBXq HBWq HB1q
    go_wp2_with fail
    go_loopw [8] (fun v8 wr => ∃ (i a : Nat), i ≤ qs.length ∧ v8 = .int .i64 (i : Int) ∧ Only2 g w1.heap.size w4 wr ∧ RAny wr g w1.heap.size ns a ∧ DObj wr w1.heap.size ao cap ns a) (fun v8 _ => qs.length - (intOf v8).toNat)
    case atStart => exact ⟨0, 0, Nat.zero_le _, rfl, Only2.of_below (Below.refl _ _), HR4.out, HD4.out⟩
    case round =>
      obtain ⟨i, a, hi, rfl, hO, hRr, hDr⟩ := hrel
      have HOr := hide hO
      have HRr := hide hRr
      have HDr := hide hDr
      clear hO hRr hDr HR4 HD4
      by_cases hlt : i < qs.length
      · have hi1 : (i : Int) < (qs.length : Int) := by omega
        obtain ⟨sb, soff, rfl, hsb, hsc⟩ := HQ.out.cells (by (intro e; rw [e] at hlt; simp at hlt))
        have hs4 : sb < w4.heap.size := Nat.lt_of_lt_of_le hsb HL4.out.size
        have q1 := (HOr.out.cell (p := ⟨sb, soff + i * 2, none⟩) hs4 (show sb ≠ g by omega) (show sb ≠ w1.heap.size by omega)).trans ((HL4.out.cell (p := ⟨sb, soff + i * 2, none⟩) hsb).trans (hsc i hlt).1)
        have q2 := (HOr.out.cell (p := ⟨sb, soff + i * 2 + 1, none⟩) hs4 (show sb ≠ g by omega) (show sb ≠ w1.heap.size by omega)).trans ((HL4.out.cell (p := ⟨sb, soff + i * 2 + 1, none⟩) hsb).trans (hsc i hlt).2)
        have hnn : (qs.getD i (0, 0)).2 ≤ 9223372036854775807 := HQ.out.fits _ (by (have e : qs.getD i (0, 0) = qs[i] := by simp [List.getD, hlt]); rw [e]; exact List.getElem_mem hlt)
        clear hsc
        generalize (qs.getD i (0, 0)).1 = kd at *
        generalize (qs.getD i (0, 0)).2 = nn at *
        have HNN := hide hnn
        clear hnn
        go_wp2_with fail
        go_region_with (first
          | (go_at_call 30; (apply Calls.mono; focus (exact (asks_c g w1.heap.size w1.heap.size cap ao ns a kd nn _ (HRr.out.below (drewB _)) (HDr.out.below (drewB _)) hgh (Nat.le_refl _) hag.out hlen HNN.out))); rintro e w6 ⟨a6, rfl, ho6, hR6, hD6⟩; have HR6 := hide hR6; have HD6 := hide hD6; have O6 := hide (HOr.out.trans ((Only2.of_below (drewB _)).trans ho6)); obtain ⟨l1, l2, l3, _, _, _, _, _⟩ := hD6; clear ho6 hR6)
          | (go_at_call 24; (apply Calls.mono; focus (exact (Place_q g w1.heap.size ns a6 _ HR6.out))); rintro e w7 ⟨rfl, hw7⟩; have hw8 := hw7.symm; clear hw7; subst hw8)
          | (go_at_call 31; (apply Calls.mono; focus (exact (Left_any g w1.heap.size ns a6 _ (HR6.out.below (by first | exact Below.refl _ _ | exact HB25))))); rintro e w31 ⟨rfl, hb31⟩; have HB31 : Below w6.heap.size w6 w31 := (by first | exact hb31 | exact bstep HB25 hb31))
          | (go_at_call 25; (apply Calls.mono; focus (exact (dLeft_c w1.heap.size cap ao ns a6 _ (HD6.out.below (by first | exact Below.refl _ _ | exact HB31))))); rintro e w25 ⟨rfl, hb25⟩; have HB25 : Below w6.heap.size w6 w25 := (by first | exact hb25 | exact bstep HB31 hb25)))
        all_goals
          go_wp2
          go_roundw
          case rel => exact ⟨i + 1, a6, by omega, by go_num, O6.out.trans (Only2.of_below (by first | exact HB25 | exact HB31)), HR6.out.below (by first | exact HB25 | exact HB31), HD6.out.below (by first | exact HB25 | exact HB31)⟩
          case measure => (first | (simp [intOf]; done) | (simp [intOf]; omega))
      · have hi1 : ¬ (i : Int) < (qs.length : Int) := by omega
        have HLr := hide (below_only2 HL4.out HOr.out hgw hhw)
        go_wp2_with (go_at_call 10; refine (known_c _).mono ?_; rintro e w9 ⟨rfl, hb9⟩; have HL9 := hide (bstep HLr.out hb9); clear hb9)
        go_ret
        exact ⟨rfl, HL9.out⟩
end Go.Proofs.Ytajkgecegefnmaa

namespace Go.Proofs.Ytajkgecegefnmaa
open Go.ChangeShapes Go.WideShapes Go.ChangeAt Go.RowKit Go.Deep
set_option linter.unusedSimpArgs false
set_option linter.unusedVariables false

theorem u64_one (l : List Nat) : ∀ u ∈ l.map (fun (b : Nat) => Value.int .u64 (b : Int)), u.oneCell' = true := fun u hu => by obtain ⟨x, _, rfl⟩ := List.mem_map.1 hu; rfl
theorem row_add64 {w : World} {b off : Nat} {ns : List Nat} (hb : ∀ j, j < ns.length → w.cell? ⟨b, off + j, none⟩ = some (.int .u64 (ns.getD j 0 : Int))) : ∀ j u, (ns.map (fun (b : Nat) => Value.int .u64 (b : Int)))[j]? = some u → w.cell? ((⟨b, off, none⟩ : Addr).add j) = some u := fun j u hu => by
  rw [List.getElem?_map] at hu
  cases e : ns[j]? with
  | none => rw [e] at hu; cases hu
  | some x =>
    rw [e] at hu
    have hj : j < ns.length := (List.getElem?_eq_some_iff.1 e).1
    have q := hb j hj
    have ha : (⟨b, off, none⟩ : Addr).add j = ⟨b, off + j, none⟩ := by
      unfold Addr.add
      split
      · (rename_i h; subst h; rfl)
      · rfl
    rw [ha, q, ← hu]
    simp [List.getD, e]

set_option maxRecDepth 100000 in
set_option maxHeartbeats 4000000 in
theorem puts_6 (g : Nat) (v : Value) (bs : List Nat) (X : Nat) (s : ByteArray) (lo to_ : Option Addr) (lc tc : Nat) (ls : List Nat) (ts : List ByteArray) (w : World) (hW : WObj w g v bs) (hl : bs.length ≤ 8796093022208) (hX : X < 18446744073709551616) (hn : RowN w lo lc ls) (hls : ls ≠ []) (hfar : ∀ ad, lo = some ad → ad.block ≠ g ∧ some ad.block ≠ v.ownBlock) (hl2 : bs.length + 9 * (ls.length + 1) ≤ 8796093022208) : Calls Try.prog 27 #[.pointer (some ⟨g, 0, none⟩), .agg #[.int .i64 6, .int .u64 (X : Int), .string s, (.slice lo ls.length lc), (.slice to_ ts.length tc)]] w (fun e w' => ∃ v', e = .returned (.bool true) ∧ WObj w' g v' (bs ++ (form ls.length ++ forms ls)) ∧ WKeep g v w w' ∧ Near w v v') := by
  obtain ⟨i0, hi0, hz0, hz1, hz2⟩ := info_parts info22
  obtain ⟨b, off, rfl, hbz, hbc⟩ := hn.cells hls
  have hpos : 0 < ls.length := List.length_pos_iff.2 hls
  have hll := hn.len
  have hfr := hfar _ rfl
  have HF := hide hfr
  have HSZ := hide hn.size
  have hvbw := hide (show ∀ k, v.ownBlock = some k → k < w.heap.size from fun k hk => (hW.2.2.2.1.lt k hk).2)
  have hgw0 : g < w.heap.size := hW.1
  clear hfar hfr hn hls
  have hB0 : Below w.heap.size w (w.alloc (.cells #[.int .i64 6, .int .u64 (X : Int), .string s, (.slice (some ⟨b, off, none⟩) ls.length lc), (.slice to_ ts.length tc)] 60)) := by (focus repeat' (first | (with_reducible exact Below.refl _ _) | (with_reducible assumption) | (with_reducible refine Below.alloc ?_ ?_ _) | (with_reducible refine Below.drew ?_) | (with_reducible refine bdrewN ?_ _) | (with_reducible refine Below.setCell ?_ ?_ _) | (first | (with_reducible exact Nat.le_refl _) | (with_reducible assumption) | omega | (simp; omega) | (simp; done))))
  have HW0 := hide (hW.below hB0)
  have hK0 : WKeep g v w (w.alloc (.cells #[.int .i64 6, .int .u64 (X : Int), .string s, (.slice (some ⟨b, off, none⟩) ls.length lc), (.slice to_ ts.length tc)] 60)) := WKeep.of_below hB0
  have HK0 := hide hK0
  have HB0 := hide hB0
  clear hW hB0 hK0
  have HBC := hide (show ∀ j, j < ls.length → (w.alloc (.cells #[.int .i64 6, .int .u64 (X : Int), .string s, (.slice (some ⟨b, off, none⟩) ls.length lc), (.slice to_ ts.length tc)] 60)).cell? ⟨b, off + j, none⟩ = some (.int .u64 (ls.getD j 0 : Int)) from fun j hj => (HB0.out.cell (p := ⟨b, off + j, none⟩) hbz).trans (hbc j hj))
  clear hbc
  obtain ⟨wA, hwA⟩ : ∃ wA, wA = w.alloc (.cells #[.int .i64 6, .int .u64 (X : Int), .string s, (.slice (some ⟨b, off, none⟩) ls.length lc), (.slice to_ ts.length tc)] 60) := ⟨_, rfl⟩
  have hzA : wA.heap.size = w.heap.size + 1 := by rw [hwA]; simp
  have HWA := hide hwA
  rw [← hwA] at HW0 HK0 HB0 HBC
  have cA : ∀ o, wA.cell? ⟨w.heap.size, o, none⟩ = (#[Value.int .i64 6, .int .u64 (X : Int), .string s, (.slice (some ⟨b, off, none⟩) ls.length lc), (.slice to_ ts.length tc)] : Array Value)[o]? := fun o => by rw [hwA]; simp [go_sem]
  have hbA : b < wA.heap.size := by omega
  go_enter Try.func27, Try.ntmps27
  go_upto_region 13 with fail
  rw [← HWA.out]
  clear hwA
  go_cut [5] (fun v5 wx => ∃ gm cm, v5 = .slice (some ⟨gm, 0, none⟩) (ls.length + 1) cm ∧ wx.ownsRow wA.heap.size 22 1 (.slice (some ⟨gm, 0, none⟩) (ls.length + 1) cm) (ls.length + 1) ((ls ++ [771]).map (fun (b : Nat) => Value.int .u64 (b : Int))) ∧ Below wA.heap.size wA wx ∧ wA.heap.size ≤ gm)
  case first =>
    have HCC := hide (row_add64 HBC.out)
    go_wp2_with (first
      | (at_builtin; refine wpList_append_lies _ rfl (.const (.slice none 0 0)) (.tmp 56) 57 rfl wA.heap.size 22 i0 (.int .u64 0) 1 8 Try.underlying57 hi0 hz0 hz1 hz2 rfl (by decide) (.slice none 0 0) 0 [] rfl (World.ownsRow_nil _ _ _ _) ⟨b, off, none⟩ ls.length lc (ls.map (fun (b : Nat) => Value.int .u64 (b : Int))) rfl (by simp) HCC.out (u64_one _) hpos (by unfold maxLen; omega) (by omega) (Nat.le_refl _) _ rfl ?_; intro ga capa wa owna0 hga hgga hgla; have owna : wa.ownsRow wA.heap.size 22 1 (.slice (some ⟨ga, 0, none⟩) ls.length capa) ls.length (ls.map (fun (b : Nat) => Value.int .u64 (b : Int))) := (by (have q := owna0; rw [Nat.zero_add, List.nil_append] at q; exact q)); clear owna0)
      | (at_builtin; refine wpList_append_lies _ rfl (.tmp 57) (.tmp 58) 57 rfl wA.heap.size 22 i0 (.int .u64 0) 1 8 Try.underlying57 hi0 hz0 hz1 hz2 rfl (by decide) (.slice (some ⟨ga, 0, none⟩) ls.length capa) ls.length (ls.map (fun (b : Nat) => Value.int .u64 (b : Int))) rfl (owna.alloc _) ⟨wa.heap.size, 0, none⟩ 1 1 [.int .u64 771] rfl rfl (cell_one_new _ _ _) (by intro u hu; simp at hu; subst hu; rfl) (by decide) (by unfold maxLen; omega) (by omega) (by (have := hga.size; simp; omega)) _ rfl ?_; intro g2 cap2 wn hown2 hg2 hgg hgl))
    go_meet
    have hbw : Below wA.heap.size wA wa := below_grown (Below.refl _ _) hga (fun k e => by cases e) (Nat.le_refl _)
    have hga0 : wA.heap.size ≤ ga := (owna.lt ga rfl).1
    have hg20 : wA.heap.size ≤ g2 := (hown2.lt g2 rfl).1
    refine ⟨g2, cap2, rfl, ?_, below_grown (Below.alloc hbw hbw.size _) hg2 (fun k e => by (have e2 : ga = k := Option.some.inj e); omega) (by (have := hbw.size; simp; omega)), hg20⟩
    rw [List.map_append]
    exact hown2
  case rest =>
    obtain ⟨gm, cm, rfl, hown, hbx, hgm⟩ := hcut
    obtain ⟨_, hgmz, hcm, hmc, hmf⟩ := own_at hown (by omega)
    have HMC := hide (show ∀ j, j < ls.length → wc.cell? ⟨gm, 0 + j, none⟩ = some (.int .u64 (ls.getD j 0 : Int)) from fun j hj => by (rw [Nat.zero_add, hmc j (by omega)]; simp [List.getElem?_append_left, hj, List.getD]))
    have hme : wc.cell? ⟨gm, ls.length, none⟩ = some (.int .u64 771) := (hmc ls.length (by omega)).trans (by simp)
    have HW1 := hide (HW0.out.below hbx)
    have HK1 := hide (HK0.out.trans (.inl rfl) (WKeep.of_below hbx))
    have hcB : ∀ o, wc.cell? ⟨w.heap.size, o, none⟩ = (#[Value.int .i64 6, .int .u64 (X : Int), .string s, (.slice (some ⟨b, off, none⟩) ls.length lc), (.slice to_ ts.length tc)] : Array Value)[o]? := fun o => (hbx.cell (p := ⟨w.heap.size, o, none⟩) (show w.heap.size < wA.heap.size by omega)).trans (cA o)
    have hzx := hbx.size
    have HBX := hide hbx
    have hgw : g < wA.heap.size := HW0.out.1
    have hvb : ∀ k, v.ownBlock = some k → k < wA.heap.size := fun k hk => (HW0.out.2.2.2.1.lt k hk).2
    have HVB := hide hvb
    clear hmc hmf hown hbx hvb cA
    go_wp2_with fail
    refine (List64_c g v bs ls gm 0 cm _ HW1.out hl2 hpos HSZ.out HMC.out hgmz (by omega) (fun e => by have := HVB.out gm e.symm; omega)).mono ?_
    rintro e w5 ⟨v5, rfl, hW5, hk5, hn5⟩
    have hz5 : wc.heap.size ≤ w5.heap.size := hk5.2.2.2.1
    have cB5 : ∀ o, w5.cell? ⟨w.heap.size, o, none⟩ = (#[Value.int .i64 6, .int .u64 (X : Int), .string s, (.slice (some ⟨b, off, none⟩) ls.length lc), (.slice to_ ts.length tc)] : Array Value)[o]? := fun o => (World.cell?_of_block (hk5.2.2.2.2 w.heap.size (by omega) (by omega) (fun e => by have := hvbw.out _ e.symm; omega))).trans (hcB o)
    have hgmne : some gm ≠ v.ownBlock := fun e => by have := hvbw.out _ e.symm; omega
    have hm5 : w5.cell? ⟨gm, ls.length, none⟩ = some (.int .u64 771) := (World.cell?_of_block (hk5.2.2.2.2 gm hgmz (by omega) hgmne)).trans hme
    have HM5 := hide (show ∀ j, j < ls.length → w5.cell? ⟨gm, 0 + j, none⟩ = some (.int .u64 (ls.getD j 0 : Int)) from fun j hj => (World.cell?_of_block (hk5.2.2.2.2 gm hgmz (by omega) hgmne)).trans (HMC.out j hj))
    have HL5 := hide (show ∀ j, j < ls.length → w5.cell? ⟨b, off + j, none⟩ = some (.int .u64 (ls.getD j 0 : Int)) from fun j hj => (World.cell?_of_block (hk5.2.2.2.2 b (by omega) HF.out.1 HF.out.2)).trans ((HBX.out.cell (p := ⟨b, off + j, none⟩) hbA).trans (HBC.out j hj)))
    have HW5 := hide hW5
    have HK5 := hide (HK1.out.trans (.inl rfl) hk5)
    have HN5 := hide (Near.trans (w := w) (w1 := wc) (.inl rfl) (by omega) hn5)
    have hgm5 : gm < w5.heap.size := by omega
    have hb5 : b < w5.heap.size := by omega
    have hw5 : w.heap.size < w5.heap.size := by omega
    clear hW5 hk5 hn5 hme hcB
    have CB5 := hide cB5
    have HME := hide hm5
    have hn0 : (0 : Int) ≤ (ls.length : Int) := by omega
    have hn1 : (ls.length : Int) ≤ (cm : Int) := by omega
    have hn2 : (ls.length : Int) < (ls.length : Int) + 1 := by omega
    have hn3 : ls.length ≤ cm := by omega
    have hn4 : ls.length < ls.length + 1 := by omega
    have hn5 : (ls.length : Int) < ((ls.length + 1 : Nat) : Int) := by omega
    go_wp2_with (go_at_call 23; go_in)
    go_region_held3 (fun wq => Below w5.heap.size w5 wq ∧ (∀ o, wq.cell? ⟨w.heap.size, o, none⟩ = (#[Value.int .i64 6, .int .u64 (X : Int), .string s, (.slice (some ⟨b, off, none⟩) ls.length lc), (.slice to_ ts.length tc)] : Array Value)[o]?) ∧ wq.cell? ⟨gm, ls.length, none⟩ = some (.int .u64 771))
      (((try go_split_ands); refine ⟨?_, ?_, ?_⟩; (focus (first | (with_reducible assumption) | exact drewB _)); (focus (first | (with_reducible assumption) | exact fun o => ((drewB w5).cell (p := ⟨w.heap.size, o, none⟩) hw5).trans (CB5.out o))); (focus (first | (with_reducible assumption) | exact ((drewB w5).cell (p := ⟨gm, ls.length, none⟩) hgm5).trans HME.out))))
      (first
        | (go_at_call 58; (try go_split_ands); (apply Calls.mono; focus (exact (Same_cells gm 0 cm b off lc ls _ (Nat.lt_of_lt_of_le hgm5 (drewB w5).size) (Nat.lt_of_lt_of_le hb5 (drewB w5).size) hll (fun j hj => ((drewB w5).cell (p := ⟨gm, 0 + j, none⟩) hgm5).trans (HM5.out j hj)) (fun j hj => ((drewB w5).cell (p := ⟨b, off + j, none⟩) hb5).trans (HL5.out j hj))))); rintro e w6 ⟨rfl, hb6⟩; have HB6 : Below w5.heap.size w5 w6 := bstep (drewB _) hb6; have hc6 : ∀ o, w6.cell? ⟨w.heap.size, o, none⟩ = (#[Value.int .i64 6, .int .u64 (X : Int), .string s, (.slice (some ⟨b, off, none⟩) ls.length lc), (.slice to_ ts.length tc)] : Array Value)[o]? := (fun o => (HB6.cell (p := ⟨w.heap.size, o, none⟩) hw5).trans (CB5.out o)); have hm6 : w6.cell? ⟨gm, ls.length, none⟩ = some (.int .u64 771) := (HB6.cell (p := ⟨gm, ls.length, none⟩) hgm5).trans HME.out; clear hb6))
    all_goals
      go_wp2
      go_ret
      exact ⟨v5, rfl, HW5.out.below HB6, HK5.out.trans HN5.out (WKeep.of_below HB6), HN5.out⟩
end Go.Proofs.Ytajkgecegefnmaa

namespace Go.Proofs.Ytajkgecegefnmaa
open Go.ChangeShapes Go.WideShapes Go.ChangeAt Go.RowKit Go.Deep
set_option linter.unusedSimpArgs false
set_option linter.unusedVariables false

set_option maxRecDepth 100000 in
set_option maxHeartbeats 4000000 in
theorem puts_6n (g : Nat) (v : Value) (bs : List Nat) (X : Nat) (s : ByteArray) (lo to_ : Option Addr) (lc tc : Nat) (ls : List Nat) (ts : List ByteArray) (w : World) (hW : WObj w g v bs) (hl : bs.length ≤ 8796093022208) (hX : X < 18446744073709551616) (hn : lo = none → lc = 0) : Calls Try.prog 27 #[.pointer (some ⟨g, 0, none⟩), .agg #[.int .i64 6, .int .u64 (X : Int), .string s, (.slice lo 0 lc), (.slice to_ ts.length tc)]] w (fun e w' => ∃ v', e = .returned (.bool true) ∧ WObj w' g v' (bs ++ form 0) ∧ WKeep g v w w' ∧ Near w v v') := by
  obtain ⟨i0, hi0, hz0, hz1, hz2⟩ := info_parts info22
  have hvbw := hide (show ∀ k, v.ownBlock = some k → k < w.heap.size from fun k hk => (hW.2.2.2.1.lt k hk).2)
  have hgw0 : g < w.heap.size := hW.1
  have HN := hide hn
  clear hn
  have hB0 : Below w.heap.size w (w.alloc (.cells #[.int .i64 6, .int .u64 (X : Int), .string s, (.slice lo 0 lc), (.slice to_ ts.length tc)] 60)) := by (focus repeat' (first | (with_reducible exact Below.refl _ _) | (with_reducible assumption) | (with_reducible refine Below.alloc ?_ ?_ _) | (with_reducible refine Below.drew ?_) | (with_reducible refine bdrewN ?_ _) | (with_reducible refine Below.setCell ?_ ?_ _) | (first | (with_reducible exact Nat.le_refl _) | (with_reducible assumption) | omega | (simp; omega) | (simp; done))))
  have HW0 := hide (hW.below hB0)
  have hK0 : WKeep g v w (w.alloc (.cells #[.int .i64 6, .int .u64 (X : Int), .string s, (.slice lo 0 lc), (.slice to_ ts.length tc)] 60)) := WKeep.of_below hB0
  have HK0 := hide hK0
  have HB0 := hide hB0
  clear hW hB0 hK0
  obtain ⟨wA, hwA⟩ : ∃ wA, wA = w.alloc (.cells #[.int .i64 6, .int .u64 (X : Int), .string s, (.slice lo 0 lc), (.slice to_ ts.length tc)] 60) := ⟨_, rfl⟩
  have hzA : wA.heap.size = w.heap.size + 1 := by rw [hwA]; simp
  have HWA := hide hwA
  rw [← hwA] at HW0 HK0 HB0
  have cA : ∀ o, wA.cell? ⟨w.heap.size, o, none⟩ = (#[Value.int .i64 6, .int .u64 (X : Int), .string s, (.slice lo 0 lc), (.slice to_ ts.length tc)] : Array Value)[o]? := fun o => by rw [hwA]; simp [go_sem]
  go_enter Try.func27, Try.ntmps27
  go_upto_region 13 with fail
  rw [← HWA.out]
  clear hwA
  go_cut [5] (fun v5 wx => ∃ gm cm, v5 = .slice (some ⟨gm, 0, none⟩) 1 cm ∧ wx.ownsRow wA.heap.size 22 1 (.slice (some ⟨gm, 0, none⟩) 1 cm) 1 [.int .u64 771] ∧ Below wA.heap.size wA wx ∧ wA.heap.size ≤ gm)
  case first =>
    go_wp2_with (first
      | (at_builtin; refine wpList_append_empty _ rfl (.const (.slice none 0 0)) (.tmp 56) 57 rfl 22 i0 (.int .u64 0) 1 8 Try.underlying57 hi0 hz0 hz1 hz2 rfl (by decide) rfl lo 0 lc rfl rfl HN.out ?_; intro wa hga)
      | (at_builtin; refine wpList_append_lies _ rfl (.tmp 57) (.tmp 58) 57 rfl wA.heap.size 22 i0 (.int .u64 0) 1 8 Try.underlying57 hi0 hz0 hz1 hz2 rfl (by decide) (.slice none 0 0) 0 [] rfl (World.ownsRow_nil _ _ _ _) ⟨wa.heap.size, 0, none⟩ 1 1 [.int .u64 771] rfl rfl (cell_one_new _ _ _) (by intro u hu; simp at hu; subst hu; rfl) (by decide) (by unfold maxLen; omega) (by omega) (by (have := hga.size; simp; omega)) _ rfl ?_; intro g2 cap2 wn hown2 hg2 hgg hgl))
    go_meet
    have hbw : Below wA.heap.size wA wa := below_grown (Below.refl _ _) hga (fun k e => by cases e) (Nat.le_refl _)
    have hg20 : wA.heap.size ≤ g2 := (hown2.lt g2 rfl).1
    exact ⟨g2, cap2, rfl, hown2, below_grown (Below.alloc hbw hbw.size _) hg2 (fun k e => by cases e) (by (have := hbw.size; simp; omega)), hg20⟩
  case rest =>
    obtain ⟨gm, cm, rfl, hown, hbx, hgm⟩ := hcut
    obtain ⟨_, hgmz, hcm, hmc, hmf⟩ := own_at hown (by omega)
    have hme : wc.cell? ⟨gm, 0, none⟩ = some (.int .u64 771) := (hmc 0 (by omega)).trans rfl
    have HW1 := hide (HW0.out.below hbx)
    have HK1 := hide (HK0.out.trans (.inl rfl) (WKeep.of_below hbx))
    have hcB : ∀ o, wc.cell? ⟨w.heap.size, o, none⟩ = (#[Value.int .i64 6, .int .u64 (X : Int), .string s, (.slice lo 0 lc), (.slice to_ ts.length tc)] : Array Value)[o]? := fun o => (hbx.cell (p := ⟨w.heap.size, o, none⟩) (show w.heap.size < wA.heap.size by omega)).trans (cA o)
    have hzx := hbx.size
    clear hmc hmf hown hbx cA
    go_wp2_with fail
    refine (List64_none g v bs (some ⟨gm, 0, none⟩) cm _ HW1.out hl (fun h => by cases h)).mono ?_
    rintro e w5 ⟨v5, rfl, hW5, hk5, hn5⟩
    have hz5 : wc.heap.size ≤ w5.heap.size := hk5.2.2.2.1
    have cB5 : ∀ o, w5.cell? ⟨w.heap.size, o, none⟩ = (#[Value.int .i64 6, .int .u64 (X : Int), .string s, (.slice lo 0 lc), (.slice to_ ts.length tc)] : Array Value)[o]? := fun o => (World.cell?_of_block (hk5.2.2.2.2 w.heap.size (by omega) (by omega) (fun e => by have := hvbw.out _ e.symm; omega))).trans (hcB o)
    have hgmne : some gm ≠ v.ownBlock := fun e => by have := hvbw.out _ e.symm; omega
    have hm5 : w5.cell? ⟨gm, 0, none⟩ = some (.int .u64 771) := (World.cell?_of_block (hk5.2.2.2.2 gm hgmz (by omega) hgmne)).trans hme
    have HW5 := hide hW5
    have HK5 := hide (HK1.out.trans (.inl rfl) hk5)
    have HN5 := hide (Near.trans (w := w) (w1 := wc) (.inl rfl) (by omega) hn5)
    have hgm5 : gm < w5.heap.size := by omega
    have hw5 : w.heap.size < w5.heap.size := by omega
    clear hW5 hk5 hn5 hme hcB
    have CB5 := hide cB5
    have HME := hide hm5
    have hcm0 : (0 : Int) ≤ (cm : Int) := by omega
    have hcm1 : ¬ cm = 0 := by omega
    go_wp2_with (go_at_call 23; go_in)
    go_region_held3 (fun wq => Below w5.heap.size w5 wq ∧ (∀ o, wq.cell? ⟨w.heap.size, o, none⟩ = (#[Value.int .i64 6, .int .u64 (X : Int), .string s, (.slice lo 0 lc), (.slice to_ ts.length tc)] : Array Value)[o]?) ∧ wq.cell? ⟨gm, 0, none⟩ = some (.int .u64 771))
      (((try go_split_ands); refine ⟨?_, ?_, ?_⟩; (focus (first | (with_reducible assumption) | exact drewB _)); (focus (first | (with_reducible assumption) | exact fun o => ((drewB w5).cell (p := ⟨w.heap.size, o, none⟩) hw5).trans (CB5.out o))); (focus (first | (with_reducible assumption) | exact ((drewB w5).cell (p := ⟨gm, 0, none⟩) hgm5).trans HME.out))))
      (first
        | (go_at_call 58; (try go_split_ands); (apply Calls.mono; focus (exact (Same_none (some ⟨gm, 0, none⟩) lo cm lc _))); rintro e w6 ⟨rfl, hb6⟩; have HB6 : Below w5.heap.size w5 w6 := bstep (drewB _) hb6; have hc6 : ∀ o, w6.cell? ⟨w.heap.size, o, none⟩ = (#[Value.int .i64 6, .int .u64 (X : Int), .string s, (.slice lo 0 lc), (.slice to_ ts.length tc)] : Array Value)[o]? := (fun o => (HB6.cell (p := ⟨w.heap.size, o, none⟩) hw5).trans (CB5.out o)); have hm6 : w6.cell? ⟨gm, 0, none⟩ = some (.int .u64 771) := (HB6.cell (p := ⟨gm, 0, none⟩) hgm5).trans HME.out; clear hb6))
    all_goals
      go_wp2
      go_ret
      exact ⟨v5, rfl, HW5.out.below HB6, HK5.out.trans HN5.out (WKeep.of_below HB6), HN5.out⟩
end Go.Proofs.Ytajkgecegefnmaa

namespace Go.Proofs.Ytajkgecegefnmaa
open Go.ChangeShapes Go.WideShapes Go.ChangeAt Go.RowKit Go.Deep
set_option linter.unusedSimpArgs false
set_option linter.unusedVariables false

/-- what 'puts' writes -/
def formP (kd : Int) (X : Nat) (s : ByteArray) (ls : List Nat) (ts : List ByteArray) : List Nat :=
  if kd = 1 then form X else if kd = 2 then form (fold (IntKind.i64.wrap (X : Int))) else if kd = 3 then [X % 2] else if kd = 4 then hi 8 X else if kd = 5 then text s
  else if kd = 6 then form ls.length ++ forms ls else if kd = 7 then form ts.length ++ texts ts else []
theorem puts_c (kd : Int) (g : Nat) (v : Value) (bs : List Nat) (X : Nat) (s : ByteArray) (lo to_ : Option Addr) (lc tc : Nat) (ls : List Nat) (ts : List ByteArray) (w : World) (hW : WObj w g v bs) (hl : bs.length ≤ 8796093022208) (hX : X < 18446744073709551616) (hs : s.size ≤ 1099511627776) (hn : RowN w lo lc ls) (ht : RowS w to_ tc ts) (hfl : ∀ ad, lo = some ad → ls ≠ [] → ad.block ≠ g ∧ some ad.block ≠ v.ownBlock) (hft : ∀ ad, to_ = some ad → ts ≠ [] → ad.block ≠ g ∧ some ad.block ≠ v.ownBlock) (hl2 : bs.length + 9 * (ls.length + 1) + 9 + (texts ts).length ≤ 8796093022208) : Calls Try.prog 27 #[.pointer (some ⟨g, 0, none⟩), .agg #[.int .i64 kd, .int .u64 (X : Int), .string s, (.slice lo ls.length lc), (.slice to_ ts.length tc)]] w (fun e w' => ∃ v', e = .returned (.bool true) ∧ WObj w' g v' (bs ++ formP kd X s ls ts) ∧ WKeep g v w w' ∧ Near w v v') := by
  unfold formP
  by_cases k1 : kd = 1
  · subst k1; rw [if_pos rfl]; exact puts_1 g v bs X s lo to_ lc tc ls ts w hW hl hX
  rw [if_neg k1]
  by_cases k2 : kd = 2
  · subst k2; rw [if_pos rfl]
    obtain ⟨sx, hsx, h0, h1⟩ := i64_of X
    rw [hsx]
    exact puts_2 g v bs X s lo to_ lc tc ls ts sx w hW hl hX hsx h0 h1
  rw [if_neg k2]
  by_cases k3 : kd = 3
  · subst k3; rw [if_pos rfl]
    by_cases hx : X % 2 = 1
    · rw [hx]; exact puts_3y g v bs X s lo to_ lc tc ls ts w hW hl hX hx
    · have hx0 : X % 2 = 0 := by omega
      rw [hx0]; exact puts_3n g v bs X s lo to_ lc tc ls ts w hW hl hX hx0
  rw [if_neg k3]
  by_cases k4 : kd = 4
  · subst k4; rw [if_pos rfl]; exact puts_4 g v bs X s lo to_ lc tc ls ts w hW hl hX
  rw [if_neg k4]
  by_cases k5 : kd = 5
  · subst k5; rw [if_pos rfl]; exact puts_5 g v bs X s lo to_ lc tc ls ts w hW hl hX hs
  rw [if_neg k5]
  by_cases k6 : kd = 6
  · subst k6; rw [if_pos rfl]
    by_cases he : ls = []
    · subst he
      rw [show form ([] : List Nat).length ++ forms [] = form 0 from rfl]
      exact puts_6n g v bs X s lo to_ lc tc [] ts w hW hl hX (fun h => (hn.nil h).2)
    · exact puts_6 g v bs X s lo to_ lc tc ls ts w hW hl hX hn he (fun ad h => hfl ad h he) (by omega)
  rw [if_neg k6]
  by_cases k7 : kd = 7
  · subst k7; rw [if_pos rfl]
    by_cases he : ts = []
    · subst he
      rw [show form ([] : List ByteArray).length ++ texts [] = form 0 from rfl]
      exact puts_7n g v bs X s lo to_ lc tc ls [] w hW hl hX ht rfl
    · exact puts_7 g v bs X s lo to_ lc tc ls ts w hW hl hX ht he (fun ad h => hft ad h he) (by omega)
  rw [if_neg k7]
  exact puts_0 g v bs X s lo to_ lc tc ls ts kd w hW hl hX k1 k2 k3 k4 k5 k6 k7
end Go.Proofs.Ytajkgecegefnmaa

