import Derived.Test.YtehpjipmlpaflaaT3
namespace Go.Proofs.Ytehpjipmlpaflaa.un
open Go.ChangeShapes Go.WideShapes Go.ChangeAt Go.RowKit Go.Deep Go.Shelf
set_option linter.unusedSimpArgs false
set_option linter.unusedVariables false

attribute [local go_sem] Oper.semAt_some

theorem mLen (R_ : Nat) (w : World) : Sem.run Try.prog (method 203 67 (.pointer (some ⟨R_, 0, none⟩)) "Len") w = .ok (37, .pointer (some ⟨R_, 0, none⟩)) w := by kernel_rfl
theorem mLess (R_ : Nat) (w : World) : Sem.run Try.prog (method 203 67 (.pointer (some ⟨R_, 0, none⟩)) "Less") w = .ok (64, .pointer (some ⟨R_, 0, none⟩)) w := by kernel_rfl
theorem mPop (R_ : Nat) (w : World) : Sem.run Try.prog (method 203 67 (.pointer (some ⟨R_, 0, none⟩)) "Pop") w = .ok (65, .pointer (some ⟨R_, 0, none⟩)) w := by kernel_rfl
theorem mPush (R_ : Nat) (w : World) : Sem.run Try.prog (method 203 67 (.pointer (some ⟨R_, 0, none⟩)) "Push") w = .ok (66, .pointer (some ⟨R_, 0, none⟩)) w := by kernel_rfl
theorem mSwap (R_ : Nat) (w : World) : Sem.run Try.prog (method 203 67 (.pointer (some ⟨R_, 0, none⟩)) "Swap") w = .ok (67, .pointer (some ⟨R_, 0, none⟩)) w := by kernel_rfl
def Heaped (R : Nat) (xs : List U) (n : Nat) (w w' : World) : Prop := (∃ ys, HObj R ys w' ∧ ys.Perm xs ∧ Heap ys n) ∧ Chg R w w'
set_option maxRecDepth 100000 in
set_option maxHeartbeats 2000000 in
theorem up_c (R : Nat) (xs : List U) (j : Nat) (w : World) (h : HObj R xs w) (hu : UpInv xs j) (hm : xs.length ≤ 1048576) : Calls Try.prog 45 #[.iface 67 (.pointer (some ⟨R, 0, none⟩)), .int .i64 (j : Int)] w fun e w' => (∃ v, e = .returned v) ∧ Heaped R xs xs.length w w' := by
  go_enter Try.func45, Try.ntmps45
  go_wp2
  go_loopw [1] (fun v1 wr => ∃ (ys : List U) (k : Nat), v1 = .int .i64 (k : Int) ∧ HObj R ys wr ∧ ys.Perm xs ∧ UpInv ys k ∧ Chg R w wr) (fun v1 _ => (intOf v1).toNat)
  case atStart => exact ⟨xs, j, rfl, h, List.Perm.refl _, hu, Chg.refl _ _⟩
  case round =>
    obtain ⟨ys, k, rfl, hh, hp, hi, hb⟩ := hrel
    have HH := hide hh
    have HP := hide hp
    have HI := hide hi
    have HB := hide hb
    have hyl : ys.length ≤ 1048576 := by rw [hp.length_eq]; exact hm
    have hkl := hi.lt
    clear hh hp hi hb h hu
    have hmn := hyl
    rcases k with _ | m
    · go_wp2
      go_end0
      exact ⟨⟨_, rfl⟩, ⟨ys, HH.out, HP.out, by rw [← HP.out.length_eq]; exact up_done HI.out (.inl rfl)⟩, HB.out⟩
    · have e1 : ((m + 1 : Nat) : Int) - 1 = (m : Int) := by omega
      have e2 : ((m : Int) / 2 == (m : Int) + 1) = false := by (rw [beq_eq_false_iff_ne]; omega)
      have e3 : decide ((m : Int) / 2 = (m : Int) + 1) = false := by (rw [decide_eq_false_iff_not]; omega)
      have M1 := mLess
      have M2 := mSwap
      have hp2 : par (m + 1) = m / 2 := rfl
      have hcast : (m : Int) / 2 = ((m / 2 : Nat) : Int) := by omega
      have HC := hide hcast
      have HLT := hide (show m / 2 < ys.length from by omega)
      clear hp2 hcast
      rcases Bool.eq_false_or_eq_true (ltB (get ys (m + 1)) (get ys (m / 2))) with hl | hl
      · have HL := hide (ltB_yes.1 hl)
        have HLE := hide hl
        have HLs := hide (show Calls Try.prog 64 #[.pointer (some ⟨R, 0, none⟩), .int .i64 ((m : Int) + 1), .int .i64 ((m : Int) / 2)] wr fun e w' => e = .returned (.bool true) ∧ Below wr.heap.size wr w' from by
          have q := Less_c R ys (m + 1) (m / 2) wr HH.out hkl HLT.out hyl
          have c1 : ((m + 1 : Nat) : Int) = (m : Int) + 1 := by omega
          rw [HLE.out, c1, ← HC.out] at q
          exact q)
        have HSs := hide (show ∀ w5, HObj R ys w5 → Calls Try.prog 67 #[.pointer (some ⟨R, 0, none⟩), .int .i64 ((m : Int) / 2), .int .i64 ((m : Int) + 1)] w5 fun e w' => (∃ v, e = .returned v) ∧ HObj R (swapL ys (m / 2) (m + 1)) w' ∧ Chg R w5 w' from fun w5 h5 => by
          have q := Swap_c R ys (m / 2) (m + 1) w5 h5 (by omega) hkl hyl
          have c1 : ((m + 1 : Nat) : Int) = (m : Int) + 1 := by omega
          rw [c1, ← HC.out] at q
          exact q)
        clear hl
        go_wp2_with (first
          | (go_at_call 64; refine HLs.out.mono ?_; rintro e w5 ⟨rfl, hb5⟩; have HB5 := hide hb5; have HH5 := hide (HH.out.below hb5); clear hb5)
          | (go_at_call 67; refine (HSs.out _ HH5.out).mono ?_; rintro e w6 ⟨⟨v6, rfl⟩, hh6, hb6⟩; have HH6 := hide hh6; have HB6 := hide hb6; clear hh6 hb6))
        go_roundw
        case rel =>
          have hR := HH.out.lt
          refine ⟨swapL ys (m / 2) (m + 1), m / 2, by rw [HC.out], HH6.out, (swap_perm _ _ _ HLT.out hkl).trans HP.out, up_step HI.out (by omega) HL.out, HB.out.trans ((Chg.of_below HB5.out hR).trans HB6.out)⟩
        case measure => simp [intOf]; omega
      · have HL := hide (ltB_no.1 hl)
        have HLE := hide hl
        have HLs := hide (show Calls Try.prog 64 #[.pointer (some ⟨R, 0, none⟩), .int .i64 ((m : Int) + 1), .int .i64 ((m : Int) / 2)] wr fun e w' => e = .returned (.bool false) ∧ Below wr.heap.size wr w' from by
          have q := Less_c R ys (m + 1) (m / 2) wr HH.out hkl HLT.out hyl
          have c1 : ((m + 1 : Nat) : Int) = (m : Int) + 1 := by omega
          rw [HLE.out, c1, ← HC.out] at q
          exact q)
        clear hl
        go_wp2_with (go_at_call 64; refine HLs.out.mono ?_; rintro e w5 ⟨rfl, hb5⟩; have HB5 := hide hb5; have HH5 := hide (HH.out.below hb5); clear hb5)
        go_end0
        have hR := HH.out.lt
        exact ⟨⟨_, rfl⟩, ⟨ys, HH5.out, HP.out, by rw [← HP.out.length_eq]; exact up_done HI.out (.inr HL.out)⟩, HB.out.trans (Chg.of_below HB5.out hR)⟩
end Go.Proofs.Ytehpjipmlpaflaa.un
