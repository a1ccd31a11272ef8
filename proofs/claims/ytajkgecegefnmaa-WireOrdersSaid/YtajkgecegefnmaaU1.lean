import Derived.Laws.Closers25b
import Derived.Test.YtajkgecegefnmaaTv
import Derived.Test.YtajkgecegefnmaaTy
import Derived.Test.YtajkgecegefnmaaP2
namespace Go.Proofs.Ytajkgecegefnmaa
open Go.ChangeShapes Go.WideShapes Go.ChangeAt Go.RowKit Go.Deep
set_option linter.unusedSimpArgs false
set_option linter.unusedVariables false

/-- two writers, apart, both new since w0 -/
structure KW (w0 w : World) (g1 : Nat) (v1 : Value) (b1 : List Nat) (g2 : Nat) (v2 : Value) (b2 : List Nat) : Prop where
  wr1 : WObj w g1 v1 b1
  wr2 : WObj w g2 v2 b2
  n0 : g1 ≠ g2
  n1 : v1.ownBlock ≠ some g2
  n2 : v2.ownBlock ≠ some g1
  n3 : ∀ k, v1.ownBlock = some k → v2.ownBlock ≠ some k
  low : Below w0.heap.size w0 w
  lo1 : w0.heap.size ≤ g1
  lo2 : w0.heap.size ≤ g2
  lo3 : ∀ k, v1.ownBlock = some k → w0.heap.size ≤ k
  lo4 : ∀ k, v2.ownBlock = some k → w0.heap.size ≤ k
theorem KW.symm {w0 w : World} {g1 : Nat} {v1 : Value} {b1 : List Nat} {g2 : Nat} {v2 : Value} {b2 : List Nat} (h : KW w0 w g1 v1 b1 g2 v2 b2) : KW w0 w g2 v2 b2 g1 v1 b1 :=
  ⟨h.wr2, h.wr1, h.n0.symm, h.n2, h.n1, fun k hk e => h.n3 k e hk, h.low, h.lo2, h.lo1, h.lo4, h.lo3⟩
theorem KW.below {w0 w w' : World} {g1 : Nat} {v1 : Value} {b1 : List Nat} {g2 : Nat} {v2 : Value} {b2 : List Nat} (h : KW w0 w g1 v1 b1 g2 v2 b2) (hb : Below w.heap.size w w') : KW w0 w' g1 v1 b1 g2 v2 b2 :=
  ⟨h.wr1.below hb, h.wr2.below hb, h.n0, h.n1, h.n2, h.n3, h.low.trans (hb.mono h.low.size), h.lo1, h.lo2, h.lo3, h.lo4⟩
theorem KW.write1 {w0 w w' : World} {g1 : Nat} {v1 v' : Value} {b1 b' : List Nat} {g2 : Nat} {v2 : Value} {b2 : List Nat} (h : KW w0 w g1 v1 b1 g2 v2 b2) (hW : WObj w' g1 v' b') (hk : WKeep g1 v1 w w') (hn : Near w v1 v') : KW w0 w' g1 v' b' g2 v2 b2 := by
  have hz := hk.2.2.2.1
  have hl := h.low.size
  have hg2 := h.wr2.1
  have hv2 : ∀ k, v2.ownBlock = some k → k < w.heap.size := fun k hk => (h.wr2.2.2.2.1.lt k hk).2
  refine ⟨hW, h.wr2.same hz (hk.2.2.2.2 g2 hg2 h.n0.symm (fun e => h.n1 e.symm)) (fun k e hlt => hk.2.2.2.2 k hlt (fun q => h.n2 (by rw [e, q])) (fun q => h.n3 k q.symm e)), h.n0, ?_, h.n2, ?_, h.low.trans ⟨hk.1, hk.2.1, hk.2.2.1, hz, fun i hi => hk.2.2.2.2 i (by omega) (fun e => by have := h.lo1; omega) (fun e => by have := h.lo3 i e.symm; omega)⟩, h.lo1, h.lo2, ?_, h.lo4⟩
  · rcases hn with q | ⟨k, q, hk⟩
    · rw [q]; exact h.n1
    · rw [q]; intro e; cases e; omega
  · rcases hn with q | ⟨k, q, hk⟩
    · rw [q]; exact h.n3
    · rw [q]; intro j e e2; cases e; have := hv2 k e2; omega
  · rcases hn with q | ⟨k, q, hk⟩
    · rw [q]; exact h.lo3
    · rw [q]; intro j e; cases e; omega
theorem KW.write2 {w0 w w' : World} {g1 : Nat} {v1 v' : Value} {b1 b' : List Nat} {g2 : Nat} {v2 : Value} {b2 : List Nat} (h : KW w0 w g1 v1 b1 g2 v2 b2) (hW : WObj w' g2 v' b') (hk : WKeep g2 v2 w w') (hn : Near w v2 v') : KW w0 w' g1 v1 b1 g2 v' b' := (h.symm.write1 hW hk hn).symm
theorem form_mono {x y : Nat} (h : x ≤ y) : (form x).length ≤ (form y).length := by
  have hmx := many_pos x
  have hmy := many_pos y
  unfold form
  by_cases h1 : x ≤ 247 <;> by_cases h2 : y ≤ 247
  · rw [if_pos h1, if_pos h2]; simp
  · rw [if_pos h1, if_neg h2]; simp
  · omega
  · rw [if_neg h1, if_neg h2]
    simp only [List.length_cons, hi_length]
    rcases Nat.lt_or_ge (many y) (many x) with q | q
    · have a := many_lt y
      have b := many_ge x (by omega)
      have c : 256 ^ many y ≤ 256 ^ (many x - 1) := Nat.pow_le_pow_right (by decide) (by omega)
      omega
    · omega
theorem _root_.Go.World.ownsRow.kept_below {w w' : World} {base : Nat} {e : TypeId} {size : Nat} {v : Value} {n : Nat} {xs : List Value} (h : w.ownsRow base e size v n xs) (hb : Below w.heap.size w w') : w'.ownsRow base e size v n xs := own_same h (fun k _ hlt => hb.block k hlt)
theorem i64_of (x : Nat) : ∃ s : Int, IntKind.i64.wrap (x : Int) = s ∧ -9223372036854775808 ≤ s ∧ s ≤ 9223372036854775807 := ⟨_, rfl, (wrap_within .i64 _).1, (wrap_within .i64 _).2⟩

set_option maxRecDepth 100000 in
set_option maxHeartbeats 4000000 in
theorem WireOrders_c (x y : Nat) (w : World) (hx : x < 18446744073709551616) (hy : y < 18446744073709551616) : Calls Try.prog 3 #[.int .u64 (x : Int), .int .u64 (y : Int)] w (fun e w' => e = .returned (.bool true) ∧ Below w.heap.size w w') := by
  go_enter Try.func3, Try.ntmps3
  go_wp2_with fail
  refine (NewWriter_c _).mono ?_
  rintro e w1 ⟨g1, rfl, hg1, hb1, hW1⟩
  have HW1 := hide hW1
  have HB1 := hide hb1
  have z1 := hb1.size
  have hg1z := hW1.1
  clear hW1 hb1
  go_wp2_with fail
  refine (NewWriter_c _).mono ?_
  rintro e w2 ⟨g2, rfl, hg2, hb2, hW2⟩
  have HK2 := hide (show KW w w2 g1 (.slice none 0 0) [] g2 (.slice none 0 0) [] from ⟨HW1.out.below hb2, hW2, by omega, by simp [Value.ownBlock], by simp [Value.ownBlock], by simp [Value.ownBlock], HB1.out.trans (hb2.mono z1), hg1, by omega, by simp [Value.ownBlock], by simp [Value.ownBlock]⟩)
  clear HW1 HB1 z1 hg1z hg2 hb2 hW2 hg1
  go_wp2_with fail
  refine (known_c _).mono ?_
  rintro e w3 ⟨rfl, hb3⟩
  have HK3 := hide (HK2.out.below hb3)
  clear HK2 hb3
  go_wp2_with fail
  refine (Number_c g1 (.slice none 0 0) [] x _ HK3.out.wr1 (by decide) hx).mono ?_
  rintro e w4 ⟨v4, rfl, hW4, hk4, hn4⟩
  have HK4 := hide (HK3.out.write1 hW4 hk4 hn4)
  clear HK3 hW4 hk4 hn4
  go_wp2_with fail
  refine (Number_c g2 (.slice none 0 0) [] y _ HK4.out.wr2 (by decide) hy).mono ?_
  rintro e w5 ⟨v5, rfl, hW5, hk5, hn5⟩
  have HK5 := hide (HK4.out.write2 hW5 hk5 hn5)
  clear HK4 hW5 hk5 hn5
  rw [List.nil_append, List.nil_append] at HK5
  have fpx := form_pos x
  have fpy := form_pos y
  have flx := form_le hx
  have fly := form_le hy
  go_upto_region 6 with fail
  go_cut [7, 8] (fun v7 v8 wx => v7 = .string (bstr (form x)) ∧ v8 = .string (bstr (form y)) ∧ Below w5.heap.size w5 wx)
  case first =>
    go_region_with (first
      | (go_at_call_of 12 g1; (apply Calls.mono; focus (exact (Bytes_c g1 v4 (form x) _ (HK5.out.wr1.below (by first | exact drewB _ | exact HBb)) (by omega) fpx))); rintro e wa ⟨ga, capa, rfl, _, owna, hba⟩; have HBa : Below w5.heap.size w5 wa := bstep (by first | exact drewB _ | exact HBb) hba; have CVa := conv28 wa ga 0 capa (form x) (own_conv owna fpx); have CAa := hide (fun (w' : World) (hb : Below wa.heap.size wa w') => conv28 w' ga 0 capa (form x) (own_conv (owna.kept_below hb) fpx)); (try have CVba := CBb.out _ hba); clear owna hba)
      | (go_at_call_of 12 g2; (apply Calls.mono; focus (exact (Bytes_c g2 v5 (form y) _ (HK5.out.wr2.below (by first | exact drewB _ | exact HBa)) (by omega) fpy))); rintro e wb ⟨gb, capb, rfl, _, ownb, hbb⟩; have HBb : Below w5.heap.size w5 wb := bstep (by first | exact drewB _ | exact HBa) hbb; have CVb := conv28 wb gb 0 capb (form y) (own_conv ownb fpy); have CBb := hide (fun (w' : World) (hb : Below wb.heap.size wb w') => conv28 w' gb 0 capb (form y) (own_conv (ownb.kept_below hb) fpy)); (try have CVab := CAa.out _ hbb); clear ownb hbb))
    all_goals
      go_wp2_with fail
      go_meet
      exact ⟨rfl, rfl, by first | exact HBa | exact HBb | (focus repeat' (first | (with_reducible exact Below.refl _ _) | (with_reducible assumption) | (with_reducible refine Below.alloc ?_ ?_ _) | (with_reducible refine Below.drew ?_) | (with_reducible refine bdrewN ?_ _) | (with_reducible refine Below.setCell ?_ ?_ _) | (first | (with_reducible exact Nat.le_refl _) | (with_reducible assumption) | omega | (simp; omega) | (simp; done))))⟩
  case rest =>
    obtain ⟨rfl, rfl, hb6⟩ := hcut
    have HK6 := hide (HK5.out.below hb6)
    clear HK5 hb6
    have hL := less_u8 (form x) (form y) (form_lt hx) (form_lt hy)
    rw [less_form hx hy] at hL
    have hS := bstr_list (form x)
    have hT := bstr_list (form y)
    rw [← hS, ← hT] at hL
    have hzx := bstr_size (form x)
    have hzy := bstr_size (form y)
    have hEq : ((bstr (form x)).toList == (bstr (form y)).toList) = decide (x = y) := by
      rw [hS, hT]
      by_cases h : x = y
      · subst h; simp
      · have : u8s (form x) ≠ u8s (form y) := fun e => h (form_inj hx hy (u8s_inj _ _ (form_lt hx) (form_lt hy) e))
        simp [h, this]
    obtain ⟨sx, hsx, hs0, hs1⟩ := i64_of x
    have hlt : decide ((x : Int) < (y : Int)) = decide (x < y) := by (rw [decide_eq_decide]; omega)
    have heq : ((x : Int) == (y : Int)) = decide (x = y) := by (rw [show ((x : Int) == (y : Int)) = decide ((x : Int) = (y : Int)) from rfl, decide_eq_decide]; omega)
    have heq2 : decide ((x : Int) = (y : Int)) = decide (x = y) := by (rw [decide_eq_decide]; omega)
    have hPn : ∀ n, n = min (form x).length (form y).length → ((((bstr (form x)).extract 0 n).toList == ((bstr (form y)).extract 0 n).toList) = decide (x = y)) := by
      intro n hn
      have ex : ∀ ns : List Nat, ((bstr ns).extract 0 n).toList = u8s (ns.take n) := by
        intro ns
        have q := bstr_list ns
        rw [ByteArray.toList_eq] at q ⊢
        rw [ByteArray.data_extract, Array.toList_extract, q]
        simp [u8s, List.map_take]
      rw [ex, ex]
      have hf := form_prefix hx hy hn
      by_cases h : x = y
      · subst h; simp
      · have : u8s ((form x).take n) ≠ u8s ((form y).take n) := fun e => h (hf.1 (u8s_inj _ _ (fun a ha => form_lt hx a (List.mem_of_mem_take ha)) (fun a ha => form_lt hy a (List.mem_of_mem_take ha)) e))
        simp [h, this]
    clear hS hT
    generalize bstr (form x) = S at *
    generalize bstr (form y) = T at *
    have hc3 : (x < y ∧ ¬ (form y).length < (form x).length) ∨ (x = y ∧ ¬ (form y).length < (form x).length) ∨ (y < x ∧ ¬ (form y).length < (form x).length) ∨ (y < x ∧ (form y).length < (form x).length) := by
      rcases Nat.lt_trichotomy x y with h | h | h
      · exact .inl ⟨h, by have := form_mono (Nat.le_of_lt h); omega⟩
      · exact .inr (.inl ⟨h, by rw [h]; omega⟩)
      · by_cases q : (form y).length < (form x).length
        · exact .inr (.inr (.inr ⟨h, q⟩))
        · exact .inr (.inr (.inl ⟨h, q⟩))
    rcases hc3 with ⟨hxy, hm⟩ | ⟨hxy, hm⟩ | ⟨hxy, hm⟩ | ⟨hxy, hm⟩
    · rw [decide_eq_true (show x < y by omega)] at hL hlt
      rw [decide_eq_false (show ¬ x = y by omega)] at hEq heq heq2
      have hPn' := hPn _ (Nat.min_eq_left (by omega)).symm
      rw [decide_eq_false (show ¬ x = y by omega)] at hPn'
      clear hPn
      go_wp2_with (first
        | (go_at_call 13; refine (Size_c x _ hx).mono ?_; rintro e w7 ⟨rfl, hb7⟩; have HK7 := hide (HK6.out.below hb7); clear hb7)
        | (go_at_call 14; refine (refNum_c x _ hx).mono ?_; rintro e w8 ⟨g8, cap8, rfl, hown8, hb8⟩; have HK8 := hide (HK7.out.below hb8); clear hb8 hown8))
      have hul := unf_lo x hx
      have hfl := fold_lt hs0 hs1
      have hfu := fold_unf x
      have huf := unf_fold sx
      go_big_quiet (first
        | (go_at_call_of 15 sx; exact (Fold_c' sx _ hs0 hs1).mono (fun e w' h => ⟨h.1, _, h.2⟩))
        | (go_at_call_of 15 (unf x); exact (Fold_c' (unf x) _ hul.1 hul.2).mono (fun e w' h => ⟨h.1, _, h.2⟩))
        | (go_at_call 16; exact (refFold_c' sx _ hs0 hs1).mono (fun e w' h => ⟨h.1, _, h.2⟩))
        | (go_at_call_of 17 (fold sx); exact (Unfold_c' (fold sx) _ hfl).mono (fun e w' h => ⟨h.1, _, h.2⟩))
        | (go_at_call_of 17 x; exact (Unfold_c' x _ hx).mono (fun e w' h => ⟨h.1, _, h.2⟩))
        | (go_at_call 18; exact (refUnfold_c' x _ hx).mono (fun e w' h => ⟨h.1, _, h.2⟩)))
      go_wp2
      go_ret
      exact ⟨rfl, bdrewN HK8.out.low _⟩
    · subst hxy
      rw [decide_eq_false (show ¬ x < x by omega)] at hL hlt
      rw [decide_eq_true (show x = x from rfl)] at hEq heq heq2
      have hPn' := hPn _ (Nat.min_eq_left (by omega)).symm
      rw [decide_eq_true (show x = x from rfl)] at hPn'
      clear hPn
      go_wp2_with (first
        | (go_at_call 13; refine (Size_c x _ hx).mono ?_; rintro e w7 ⟨rfl, hb7⟩; have HK7 := hide (HK6.out.below hb7); clear hb7)
        | (go_at_call 14; refine (refNum_c x _ hx).mono ?_; rintro e w8 ⟨g8, cap8, rfl, hown8, hb8⟩; have HK8 := hide (HK7.out.below hb8); clear hb8 hown8))
      have hul := unf_lo x hx
      have hfl := fold_lt hs0 hs1
      have hfu := fold_unf x
      have huf := unf_fold sx
      go_big_quiet (first
        | (go_at_call_of 15 sx; exact (Fold_c' sx _ hs0 hs1).mono (fun e w' h => ⟨h.1, _, h.2⟩))
        | (go_at_call_of 15 (unf x); exact (Fold_c' (unf x) _ hul.1 hul.2).mono (fun e w' h => ⟨h.1, _, h.2⟩))
        | (go_at_call 16; exact (refFold_c' sx _ hs0 hs1).mono (fun e w' h => ⟨h.1, _, h.2⟩))
        | (go_at_call_of 17 (fold sx); exact (Unfold_c' (fold sx) _ hfl).mono (fun e w' h => ⟨h.1, _, h.2⟩))
        | (go_at_call_of 17 x; exact (Unfold_c' x _ hx).mono (fun e w' h => ⟨h.1, _, h.2⟩))
        | (go_at_call 18; exact (refUnfold_c' x _ hx).mono (fun e w' h => ⟨h.1, _, h.2⟩)))
      go_wp2
      go_ret
      exact ⟨rfl, bdrewN HK8.out.low _⟩
    · rw [decide_eq_false (show ¬ x < y by omega)] at hL hlt
      rw [decide_eq_false (show ¬ x = y by omega)] at hEq heq heq2
      have hPn' := hPn _ (Nat.min_eq_left (by omega)).symm
      rw [decide_eq_false (show ¬ x = y by omega)] at hPn'
      clear hPn
      go_wp2_with (first
        | (go_at_call 13; refine (Size_c x _ hx).mono ?_; rintro e w7 ⟨rfl, hb7⟩; have HK7 := hide (HK6.out.below hb7); clear hb7)
        | (go_at_call 14; refine (refNum_c x _ hx).mono ?_; rintro e w8 ⟨g8, cap8, rfl, hown8, hb8⟩; have HK8 := hide (HK7.out.below hb8); clear hb8 hown8))
      have hul := unf_lo x hx
      have hfl := fold_lt hs0 hs1
      have hfu := fold_unf x
      have huf := unf_fold sx
      go_big_quiet (first
        | (go_at_call_of 15 sx; exact (Fold_c' sx _ hs0 hs1).mono (fun e w' h => ⟨h.1, _, h.2⟩))
        | (go_at_call_of 15 (unf x); exact (Fold_c' (unf x) _ hul.1 hul.2).mono (fun e w' h => ⟨h.1, _, h.2⟩))
        | (go_at_call 16; exact (refFold_c' sx _ hs0 hs1).mono (fun e w' h => ⟨h.1, _, h.2⟩))
        | (go_at_call_of 17 (fold sx); exact (Unfold_c' (fold sx) _ hfl).mono (fun e w' h => ⟨h.1, _, h.2⟩))
        | (go_at_call_of 17 x; exact (Unfold_c' x _ hx).mono (fun e w' h => ⟨h.1, _, h.2⟩))
        | (go_at_call 18; exact (refUnfold_c' x _ hx).mono (fun e w' h => ⟨h.1, _, h.2⟩)))
      go_wp2
      go_ret
      exact ⟨rfl, bdrewN HK8.out.low _⟩
    · rw [decide_eq_false (show ¬ x < y by omega)] at hL hlt
      rw [decide_eq_false (show ¬ x = y by omega)] at hEq heq heq2
      have hPn' := hPn _ (Nat.min_eq_right (by omega)).symm
      rw [decide_eq_false (show ¬ x = y by omega)] at hPn'
      clear hPn
      go_wp2_with (first
        | (go_at_call 13; refine (Size_c x _ hx).mono ?_; rintro e w7 ⟨rfl, hb7⟩; have HK7 := hide (HK6.out.below hb7); clear hb7)
        | (go_at_call 14; refine (refNum_c x _ hx).mono ?_; rintro e w8 ⟨g8, cap8, rfl, hown8, hb8⟩; have HK8 := hide (HK7.out.below hb8); clear hb8 hown8))
      have hul := unf_lo x hx
      have hfl := fold_lt hs0 hs1
      have hfu := fold_unf x
      have huf := unf_fold sx
      go_big_quiet (first
        | (go_at_call_of 15 sx; exact (Fold_c' sx _ hs0 hs1).mono (fun e w' h => ⟨h.1, _, h.2⟩))
        | (go_at_call_of 15 (unf x); exact (Fold_c' (unf x) _ hul.1 hul.2).mono (fun e w' h => ⟨h.1, _, h.2⟩))
        | (go_at_call 16; exact (refFold_c' sx _ hs0 hs1).mono (fun e w' h => ⟨h.1, _, h.2⟩))
        | (go_at_call_of 17 (fold sx); exact (Unfold_c' (fold sx) _ hfl).mono (fun e w' h => ⟨h.1, _, h.2⟩))
        | (go_at_call_of 17 x; exact (Unfold_c' x _ hx).mono (fun e w' h => ⟨h.1, _, h.2⟩))
        | (go_at_call 18; exact (refUnfold_c' x _ hx).mono (fun e w' h => ⟨h.1, _, h.2⟩)))
      go_wp2
      go_ret
      exact ⟨rfl, bdrewN HK8.out.low _⟩
end Go.Proofs.Ytajkgecegefnmaa
