import Derived.Test.YtehpjipmlpaflaaT4
namespace Go.Proofs.Ytehpjipmlpaflaa.un
open Go.ChangeShapes Go.WideShapes Go.ChangeAt Go.RowKit Go.Deep Go.Shelf
set_option linter.unusedSimpArgs false
set_option linter.unusedVariables false

attribute [local go_sem] Oper.semAt_some

def Downed (R : Nat) (xs : List U) (n : Nat) (w w' : World) : Prop := ∃ ys, HObj R ys w' ∧ ys.Perm xs ∧ Heap ys n ∧ (∀ k, n ≤ k → get ys k = get xs k) ∧ Chg R w w'
set_option maxRecDepth 100000 in
set_option maxHeartbeats 4000000 in
theorem down_c (R : Nat) (xs : List U) (i n : Nat) (w : World) (h : HObj R xs w) (hd : DownInv xs i n) (hm : xs.length ≤ 1048576) : Calls Try.prog 46 #[.iface 67 (.pointer (some ⟨R, 0, none⟩)), .int .i64 (i : Int), .int .i64 (n : Int)] w fun e w' => (∃ b, e = .returned (.bool b)) ∧ Downed R xs n w w' := by
  go_enter Try.func46, Try.ntmps46
  go_wp2
  go_loopw [7] (fun v7 wr => ∃ (ys : List U) (k : Nat), v7 = .int .i64 (k : Int) ∧ HObj R ys wr ∧ ys.Perm xs ∧ DownInv ys k n ∧ (∀ q, n ≤ q → get ys q = get xs q) ∧ Chg R w wr) (fun v7 _ => n - (intOf v7).toNat)
  case atStart => exact ⟨xs, i, rfl, h, List.Perm.refl _, hd, fun _ _ => rfl, Chg.refl _ _⟩
  case round =>
    obtain ⟨ys, k, rfl, hh, hp, hi, hg, hb⟩ := hrel
    have HH := hide hh
    have HP := hide hp
    have HI := hide hi
    have HG := hide hg
    have HB := hide hb
    have hyl : ys.length ≤ 1048576 := by rw [hp.length_eq]; exact hm
    have hkn := hi.lt
    have hnl := hi.len
    have M1 := mLess
    have M2 := mSwap
    clear hh hp hi hb h hg hd hm
    by_cases h1 : n ≤ 2 * k + 1
    · have h1' : (n : Int) ≤ 2 * (k : Int) + 1 := by omega
      have HK := hide h1
      clear h1
      go_wp2
      refine bodyPost_ret (v := .bool (decide ((i : Int) < (k : Int)))) (by simp [results, Try.f46, go_sem]) rfl ⟨⟨_, rfl⟩, ys, HH.out, HP.out, ?_, HG.out, HB.out⟩
      refine down_done HI.out (fun q hq hl hpq => ?_)
      rcases par_is hq hpq with e | e
      · have := HK.out
        omega
      · have := HK.out
        omega
    · have h1' : 2 * (k : Int) + 1 < (n : Int) := by omega
      by_cases h3 : 2 * k + 2 < n
      · have h3' : 2 * (k : Int) + 1 + 1 < (n : Int) := by omega
        rcases Bool.eq_false_or_eq_true (ltB (get ys (2 * k + 2)) (get ys (2 * k + 1))) with hl | hl
        · have HL1 := hide hl
          have MIN := hide (show ∀ q, 0 < q → q < n → par q = k → le (get ys (2 * k + 2)) (get ys q) from fun q hq _ hpq => by
            rcases par_is hq hpq with e | e
            · subst e; exact lt_le (ltB_yes.1 hl)
            · subst e; exact le_refl _)
          clear hl
          have L1 := hide (show ∀ w5, HObj R ys w5 → Calls Try.prog 64 #[.pointer (some ⟨R, 0, none⟩), .int .i64 (2 * (k : Int) + 1 + 1), .int .i64 (2 * (k : Int) + 1)] w5 fun e w' => e = .returned (.bool true) ∧ Below w5.heap.size w5 w' from fun w5 h5 => by
            have q := Less_c R ys (2 * k + 2) (2 * k + 1) w5 h5 (by omega) (by omega) hyl
            have c1 : ((2 * k + 2 : Nat) : Int) = 2 * (k : Int) + 1 + 1 := by omega
            have c2 : ((2 * k + 1 : Nat) : Int) = 2 * (k : Int) + 1 := by omega
            rw [HL1.out, c1, c2] at q
            exact q)
          rcases Bool.eq_false_or_eq_true (ltB (get ys (2 * k + 2)) (get ys k)) with h2 | h2
          · have HL2 := hide h2
            clear h2
            have L2 := hide (show ∀ w5, HObj R ys w5 → Calls Try.prog 64 #[.pointer (some ⟨R, 0, none⟩), .int .i64 (2 * (k : Int) + 1 + 1), .int .i64 ((k : Int))] w5 fun e w' => e = .returned (.bool true) ∧ Below w5.heap.size w5 w' from fun w5 h5 => by
              have q := Less_c R ys (2 * k + 2) (k) w5 h5 (by omega) (by omega) hyl
              have c1 : ((2 * k + 2 : Nat) : Int) = 2 * (k : Int) + 1 + 1 := by omega
              have c2 : ((k : Nat) : Int) = (k : Int) := by omega
              rw [HL2.out, c1, c2] at q
              exact q)
            have SW := hide (show ∀ w5, HObj R ys w5 → Calls Try.prog 67 #[.pointer (some ⟨R, 0, none⟩), .int .i64 (k : Int), .int .i64 (2 * (k : Int) + 1 + 1)] w5 fun e w' => (∃ v, e = .returned v) ∧ HObj R (swapL ys k (2 * k + 2)) w' ∧ Chg R w5 w' from fun w5 h5 => by
              have q := Swap_c R ys k (2 * k + 2) w5 h5 (by omega) (by omega) hyl
              have c1 : ((2 * k + 2 : Nat) : Int) = 2 * (k : Int) + 1 + 1 := by omega
              rw [c1] at q
              exact q)
            have HQ1 := trivial
            go_wp2_with (first | (go_at_call 64; first | (have hq := HQ1; clear HQ1; refine (L1.out _ HH.out).mono ?_; rintro e w5 ⟨rfl, hb5⟩; have HB5 := hide hb5; have HH5 := hide (HH.out.below hb5); clear hb5) | (refine (L2.out _ HH5.out).mono ?_; rintro e w6 ⟨rfl, hb6⟩; have HB6 := hide hb6; have HH6 := hide (HH5.out.below hb6); clear hb6)) | (go_at_call 67; refine (SW.out _ HH6.out).mono ?_; rintro e w7 ⟨⟨v7, rfl⟩, hh7, hb7⟩; have HH7 := hide hh7; have HB7 := hide hb7; clear hh7 hb7))
            go_roundw
            case rel =>
              have hR := HH.out.lt
              refine ⟨swapL ys k (2 * k + 2), 2 * k + 2, by congr 1, HH7.out, (swap_perm _ _ _ (by omega) (by omega)).trans HP.out, down_step HI.out (by omega) (by omega) (par_right k) MIN.out (ltB_yes.1 HL2.out), fun q hq => ?_, (HB.out.trans (Chg.of_below HB5.out HH.out.lt)).trans ((Chg.of_below HB6.out HH5.out.lt).trans HB7.out)⟩
              rw [get_swap _ _ _ _ (by omega) (by omega), if_neg (by omega), if_neg (by omega)]
              exact HG.out q hq
            case measure => simp [intOf]; omega
          · have HL2 := hide h2
            clear h2
            have L2 := hide (show ∀ w5, HObj R ys w5 → Calls Try.prog 64 #[.pointer (some ⟨R, 0, none⟩), .int .i64 (2 * (k : Int) + 1 + 1), .int .i64 ((k : Int))] w5 fun e w' => e = .returned (.bool false) ∧ Below w5.heap.size w5 w' from fun w5 h5 => by
              have q := Less_c R ys (2 * k + 2) (k) w5 h5 (by omega) (by omega) hyl
              have c1 : ((2 * k + 2 : Nat) : Int) = 2 * (k : Int) + 1 + 1 := by omega
              have c2 : ((k : Nat) : Int) = (k : Int) := by omega
              rw [HL2.out, c1, c2] at q
              exact q)
            have HQ1 := trivial
            go_wp2_with (first | (go_at_call 64; first | (have hq := HQ1; clear HQ1; refine (L1.out _ HH.out).mono ?_; rintro e w5 ⟨rfl, hb5⟩; have HB5 := hide hb5; have HH5 := hide (HH.out.below hb5); clear hb5) | (refine (L2.out _ HH5.out).mono ?_; rintro e w6 ⟨rfl, hb6⟩; have HB6 := hide hb6; have HH6 := hide (HH5.out.below hb6); clear hb6)))
            refine bodyPost_ret (v := .bool (decide ((i : Int) < (k : Int)))) (by simp [results, Try.f46, go_sem]) rfl ⟨⟨_, rfl⟩, ys, HH6.out, HP.out, ?_, HG.out, ?_⟩
            · exact down_done HI.out (fun q h1 hl hpq => le_trans (ltB_no.1 HL2.out) (MIN.out q h1 hl hpq))
            · have hR := HH.out.lt
              exact (HB.out.trans (Chg.of_below HB5.out HH.out.lt)).trans (Chg.of_below HB6.out HH5.out.lt)
        · have HL1 := hide hl
          have MIN := hide (show ∀ q, 0 < q → q < n → par q = k → le (get ys (2 * k + 1)) (get ys q) from fun q hq _ hpq => by
            rcases par_is hq hpq with e | e
            · subst e; exact le_refl _
            · subst e; exact ltB_no.1 hl)
          clear hl
          have L1 := hide (show ∀ w5, HObj R ys w5 → Calls Try.prog 64 #[.pointer (some ⟨R, 0, none⟩), .int .i64 (2 * (k : Int) + 1 + 1), .int .i64 (2 * (k : Int) + 1)] w5 fun e w' => e = .returned (.bool false) ∧ Below w5.heap.size w5 w' from fun w5 h5 => by
            have q := Less_c R ys (2 * k + 2) (2 * k + 1) w5 h5 (by omega) (by omega) hyl
            have c1 : ((2 * k + 2 : Nat) : Int) = 2 * (k : Int) + 1 + 1 := by omega
            have c2 : ((2 * k + 1 : Nat) : Int) = 2 * (k : Int) + 1 := by omega
            rw [HL1.out, c1, c2] at q
            exact q)
          rcases Bool.eq_false_or_eq_true (ltB (get ys (2 * k + 1)) (get ys k)) with h2 | h2
          · have HL2 := hide h2
            clear h2
            have L2 := hide (show ∀ w5, HObj R ys w5 → Calls Try.prog 64 #[.pointer (some ⟨R, 0, none⟩), .int .i64 (2 * (k : Int) + 1), .int .i64 ((k : Int))] w5 fun e w' => e = .returned (.bool true) ∧ Below w5.heap.size w5 w' from fun w5 h5 => by
              have q := Less_c R ys (2 * k + 1) (k) w5 h5 (by omega) (by omega) hyl
              have c1 : ((2 * k + 1 : Nat) : Int) = 2 * (k : Int) + 1 := by omega
              have c2 : ((k : Nat) : Int) = (k : Int) := by omega
              rw [HL2.out, c1, c2] at q
              exact q)
            have SW := hide (show ∀ w5, HObj R ys w5 → Calls Try.prog 67 #[.pointer (some ⟨R, 0, none⟩), .int .i64 (k : Int), .int .i64 (2 * (k : Int) + 1)] w5 fun e w' => (∃ v, e = .returned v) ∧ HObj R (swapL ys k (2 * k + 1)) w' ∧ Chg R w5 w' from fun w5 h5 => by
              have q := Swap_c R ys k (2 * k + 1) w5 h5 (by omega) (by omega) hyl
              have c1 : ((2 * k + 1 : Nat) : Int) = 2 * (k : Int) + 1 := by omega
              rw [c1] at q
              exact q)
            have HQ1 := trivial
            go_wp2_with (first | (go_at_call 64; first | (have hq := HQ1; clear HQ1; refine (L1.out _ HH.out).mono ?_; rintro e w5 ⟨rfl, hb5⟩; have HB5 := hide hb5; have HH5 := hide (HH.out.below hb5); clear hb5) | (refine (L2.out _ HH5.out).mono ?_; rintro e w6 ⟨rfl, hb6⟩; have HB6 := hide hb6; have HH6 := hide (HH5.out.below hb6); clear hb6)) | (go_at_call 67; refine (SW.out _ HH6.out).mono ?_; rintro e w7 ⟨⟨v7, rfl⟩, hh7, hb7⟩; have HH7 := hide hh7; have HB7 := hide hb7; clear hh7 hb7))
            go_roundw
            case rel =>
              have hR := HH.out.lt
              refine ⟨swapL ys k (2 * k + 1), 2 * k + 1, by congr 1, HH7.out, (swap_perm _ _ _ (by omega) (by omega)).trans HP.out, down_step HI.out (by omega) (by omega) (par_left k) MIN.out (ltB_yes.1 HL2.out), fun q hq => ?_, (HB.out.trans (Chg.of_below HB5.out HH.out.lt)).trans ((Chg.of_below HB6.out HH5.out.lt).trans HB7.out)⟩
              rw [get_swap _ _ _ _ (by omega) (by omega), if_neg (by omega), if_neg (by omega)]
              exact HG.out q hq
            case measure => simp [intOf]; omega
          · have HL2 := hide h2
            clear h2
            have L2 := hide (show ∀ w5, HObj R ys w5 → Calls Try.prog 64 #[.pointer (some ⟨R, 0, none⟩), .int .i64 (2 * (k : Int) + 1), .int .i64 ((k : Int))] w5 fun e w' => e = .returned (.bool false) ∧ Below w5.heap.size w5 w' from fun w5 h5 => by
              have q := Less_c R ys (2 * k + 1) (k) w5 h5 (by omega) (by omega) hyl
              have c1 : ((2 * k + 1 : Nat) : Int) = 2 * (k : Int) + 1 := by omega
              have c2 : ((k : Nat) : Int) = (k : Int) := by omega
              rw [HL2.out, c1, c2] at q
              exact q)
            have HQ1 := trivial
            go_wp2_with (first | (go_at_call 64; first | (have hq := HQ1; clear HQ1; refine (L1.out _ HH.out).mono ?_; rintro e w5 ⟨rfl, hb5⟩; have HB5 := hide hb5; have HH5 := hide (HH.out.below hb5); clear hb5) | (refine (L2.out _ HH5.out).mono ?_; rintro e w6 ⟨rfl, hb6⟩; have HB6 := hide hb6; have HH6 := hide (HH5.out.below hb6); clear hb6)))
            refine bodyPost_ret (v := .bool (decide ((i : Int) < (k : Int)))) (by simp [results, Try.f46, go_sem]) rfl ⟨⟨_, rfl⟩, ys, HH6.out, HP.out, ?_, HG.out, ?_⟩
            · exact down_done HI.out (fun q h1 hl hpq => le_trans (ltB_no.1 HL2.out) (MIN.out q h1 hl hpq))
            · have hR := HH.out.lt
              exact (HB.out.trans (Chg.of_below HB5.out HH.out.lt)).trans (Chg.of_below HB6.out HH5.out.lt)
      · have h3' : (n : Int) ≤ 2 * (k : Int) + 1 + 1 := by omega
        have MIN := hide (show ∀ q, 0 < q → q < n → par q = k → le (get ys (2 * k + 1)) (get ys q) from fun q hq hqn hpq => by
          rcases par_is hq hpq with e | e
          · subst e; exact le_refl _
          · omega)
        rcases Bool.eq_false_or_eq_true (ltB (get ys (2 * k + 1)) (get ys k)) with h2 | h2
        · have HL2 := hide h2
          clear h2
          have L2 := hide (show ∀ w5, HObj R ys w5 → Calls Try.prog 64 #[.pointer (some ⟨R, 0, none⟩), .int .i64 (2 * (k : Int) + 1), .int .i64 ((k : Int))] w5 fun e w' => e = .returned (.bool true) ∧ Below w5.heap.size w5 w' from fun w5 h5 => by
            have q := Less_c R ys (2 * k + 1) (k) w5 h5 (by omega) (by omega) hyl
            have c1 : ((2 * k + 1 : Nat) : Int) = 2 * (k : Int) + 1 := by omega
            have c2 : ((k : Nat) : Int) = (k : Int) := by omega
            rw [HL2.out, c1, c2] at q
            exact q)
          have SW := hide (show ∀ w5, HObj R ys w5 → Calls Try.prog 67 #[.pointer (some ⟨R, 0, none⟩), .int .i64 (k : Int), .int .i64 (2 * (k : Int) + 1)] w5 fun e w' => (∃ v, e = .returned v) ∧ HObj R (swapL ys k (2 * k + 1)) w' ∧ Chg R w5 w' from fun w5 h5 => by
            have q := Swap_c R ys k (2 * k + 1) w5 h5 (by omega) (by omega) hyl
            have c1 : ((2 * k + 1 : Nat) : Int) = 2 * (k : Int) + 1 := by omega
            rw [c1] at q
            exact q)
          skip
          go_wp2_with (first | (go_at_call 64; refine (L2.out _ HH.out).mono ?_; rintro e w6 ⟨rfl, hb6⟩; have HB6 := hide hb6; have HH6 := hide (HH.out.below hb6); clear hb6) | (go_at_call 67; refine (SW.out _ HH6.out).mono ?_; rintro e w7 ⟨⟨v7, rfl⟩, hh7, hb7⟩; have HH7 := hide hh7; have HB7 := hide hb7; clear hh7 hb7))
          go_roundw
          case rel =>
            have hR := HH.out.lt
            refine ⟨swapL ys k (2 * k + 1), 2 * k + 1, by congr 1, HH7.out, (swap_perm _ _ _ (by omega) (by omega)).trans HP.out, down_step HI.out (by omega) (by omega) (par_left k) MIN.out (ltB_yes.1 HL2.out), fun q hq => ?_, HB.out.trans ((Chg.of_below HB6.out HH.out.lt).trans HB7.out)⟩
            rw [get_swap _ _ _ _ (by omega) (by omega), if_neg (by omega), if_neg (by omega)]
            exact HG.out q hq
          case measure => simp [intOf]; omega
        · have HL2 := hide h2
          clear h2
          have L2 := hide (show ∀ w5, HObj R ys w5 → Calls Try.prog 64 #[.pointer (some ⟨R, 0, none⟩), .int .i64 (2 * (k : Int) + 1), .int .i64 ((k : Int))] w5 fun e w' => e = .returned (.bool false) ∧ Below w5.heap.size w5 w' from fun w5 h5 => by
            have q := Less_c R ys (2 * k + 1) (k) w5 h5 (by omega) (by omega) hyl
            have c1 : ((2 * k + 1 : Nat) : Int) = 2 * (k : Int) + 1 := by omega
            have c2 : ((k : Nat) : Int) = (k : Int) := by omega
            rw [HL2.out, c1, c2] at q
            exact q)
          skip
          go_wp2_with (first | (go_at_call 64; refine (L2.out _ HH.out).mono ?_; rintro e w6 ⟨rfl, hb6⟩; have HB6 := hide hb6; have HH6 := hide (HH.out.below hb6); clear hb6))
          refine bodyPost_ret (v := .bool (decide ((i : Int) < (k : Int)))) (by simp [results, Try.f46, go_sem]) rfl ⟨⟨_, rfl⟩, ys, HH6.out, HP.out, ?_, HG.out, ?_⟩
          · exact down_done HI.out (fun q h1 hl hpq => le_trans (ltB_no.1 HL2.out) (MIN.out q h1 hl hpq))
          · have hR := HH.out.lt
            exact HB.out.trans (Chg.of_below HB6.out HH.out.lt)
end Go.Proofs.Ytehpjipmlpaflaa.un
