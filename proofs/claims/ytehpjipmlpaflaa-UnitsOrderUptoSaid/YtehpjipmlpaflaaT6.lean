import Derived.Test.YtehpjipmlpaflaaT5
namespace Go.Proofs.Ytehpjipmlpaflaa.un
open Go.ChangeShapes Go.WideShapes Go.ChangeAt Go.RowKit Go.Deep Go.Shelf
set_option linter.unusedSimpArgs false
set_option linter.unusedVariables false

attribute [local go_sem] Oper.semAt_some

theorem get_snoc_lt (xs : List U) (u : U) (k : Nat) (h : k < xs.length) : get (xs ++ [u]) k = get xs k := by
  unfold get
  rw [List.getElem?_append_left h]
theorem get_take (xs : List U) (n k : Nat) (h : k < n) : get (xs.take n) k = get xs k := by
  unfold get
  rw [List.getElem?_take, if_pos h]
theorem up_new {xs : List U} (u : U) (h : Heap xs xs.length) : UpInv (xs ++ [u]) xs.length := by
  refine ⟨by simp, fun k hk hl hne => ?_, fun k hk hl hpk _ => ?_⟩
  · simp at hl
    have := par_lt hk
    rw [get_snoc_lt _ _ _ (by omega), get_snoc_lt _ _ _ (by omega)]
    exact h k hk (by omega)
  · simp at hl
    have := par_lt hk
    omega
theorem up_root {xs : List U} (h : Heap xs xs.length) (h0 : 0 < xs.length) : UpInv xs 0 := ⟨h0, fun k hk hl _ => h k hk hl, fun k _ _ _ q => by omega⟩
theorem down_swapped {xs : List U} {n : Nat} (h : Heap xs (n + 1)) (hl : xs.length = n + 1) (hn : 0 < n) : DownInv (swapL xs 0 n) 0 n := by
  refine ⟨by rw [swap_len]; omega, hn, fun k hk hkn hne => ?_, fun k _ _ _ q => by omega⟩
  have := par_lt hk
  rw [get_swap _ _ _ _ (by omega) (by omega), get_swap _ _ _ _ (by omega) (by omega), if_neg (by omega), if_neg hne, if_neg (by omega), if_neg (by omega)]
  exact h k hk (by omega)
theorem take_last (xs : List U) (n : Nat) (h : xs.length = n + 1) : xs.take n ++ [get xs n] = xs := by
  have e : xs.take (n + 1) = xs := List.take_of_length_le (by omega)
  rw [List.take_add_one, get_lt xs n (by omega)] at e
  exact e
set_option maxRecDepth 100000 in
set_option maxHeartbeats 2000000 in
theorem hPush_c (R : Nat) (xs : List U) (u : U) (w : World) (h : HObj R xs w) (hh : Heap xs xs.length) (hm : xs.length ≤ 1048575) : Calls Try.prog 36 #[.iface 67 (.pointer (some ⟨R, 0, none⟩)), .iface 52 (.agg #[.int .i64 u.1, .int .i64 u.2.1, .int .i64 u.2.2])] w fun e w' => (∃ v, e = .returned v) ∧ ∃ ys, HObj R ys w' ∧ ys.Perm (xs ++ [u]) ∧ Heap ys ys.length ∧ Chg R w w' := by
  have HH := hide h
  have HU := hide (up_new u hh)
  have M1 := mLen
  have M2 := mPush
  have hR := h.lt
  clear h hh
  go_enter Try.func36, Try.ntmps36
  go_wp2_with (first
    | (go_at_call 66; refine (Push_c R xs u _ HH.out hm).mono ?_; rintro e w5 ⟨⟨v5, rfl⟩, h5, hb5⟩; have H5 := hide h5; have HB5 := hide hb5; clear h5 hb5)
    | (go_at_call 37; refine (Len_c R (xs ++ [u]) _ H5.out).mono ?_; rintro e w6 ⟨rfl, rfl⟩; have hl6 : ((xs ++ [u]).length : Int) = (xs.length : Int) + 1 := by simp)
    | (go_at_call 45; refine (up_c R (xs ++ [u]) xs.length _ H5.out HU.out (by simp; omega)).mono ?_; rintro e w7 ⟨⟨v7, rfl⟩, hq7⟩; have HQ7 := hide hq7; clear hq7))
  go_end0
  obtain ⟨⟨ys, h7, hp7, hq7⟩, hb7⟩ := HQ7.out
  exact ⟨⟨_, rfl⟩, ys, h7, hp7, by rw [hp7.length_eq]; exact hq7, HB5.out.trans hb7⟩
set_option maxRecDepth 100000 in
set_option maxHeartbeats 2000000 in
theorem Fix_c (R : Nat) (xs : List U) (w : World) (h : HObj R xs w) (hd : DownInv xs 0 xs.length) (hm : xs.length ≤ 1048576) : Calls Try.prog 38 #[.iface 67 (.pointer (some ⟨R, 0, none⟩)), .int .i64 0] w fun e w' => (∃ v, e = .returned v) ∧ ∃ ys, HObj R ys w' ∧ ys.Perm xs ∧ Heap ys ys.length ∧ Chg R w w' := by
  have HH := hide h
  have HD := hide hd
  have M1 := mLen
  clear h hd
  have HX := hide (show ∀ (b : Bool) (w' : World), Downed R xs xs.length w w' → ∃ ys, HObj R ys w' ∧ ys.Perm xs ∧ Heap ys ys.length ∧ Chg R w w' from fun b w' ⟨ys, h1, h2, h3, _, h5⟩ => ⟨ys, h1, h2, by rw [h2.length_eq]; exact h3, h5⟩)
  go_enter Try.func38, Try.ntmps38
  go_wp2_with (first
    | (go_at_call 37; refine (Len_c R xs _ HH.out).mono ?_; rintro e w6 ⟨rfl, rfl⟩)
    | (go_at_call 46; refine (down_c R xs 0 xs.length _ HH.out HD.out hm).mono ?_; rintro e w7 ⟨⟨b7, rfl⟩, hq7⟩; have HQ7 := hide (HX.out b7 _ hq7); clear hq7; rcases b7 with _ | _)
    | (go_at_call 45; obtain ⟨ys, h7, hp7, hq7, hb7⟩ := HQ7.out; refine (up_c R ys 0 _ h7 (up_root hq7 (by rw [hp7.length_eq]; exact HD.out.lt)) (by rw [hp7.length_eq]; exact hm)).mono ?_; rintro e w8 ⟨⟨v8, rfl⟩, ⟨zs, h8, hp8, hq8⟩, hb8⟩; have HQ8 := hide (show ∃ ys, HObj R ys w8 ∧ ys.Perm xs ∧ Heap ys ys.length ∧ Chg R w6 w8 from ⟨zs, h8, hp8.trans hp7, by rw [hp8.length_eq]; exact hq8, hb7.trans hb8⟩); clear h7 hp7 hq7 hb7 h8 hp8 hq8 hb8))
  all_goals
    go_end0
    first
      | exact ⟨⟨_, rfl⟩, HQ8.out⟩
      | exact ⟨⟨_, rfl⟩, HQ7.out⟩
theorem down_zero (R : Nat) (w : World) : Calls Try.prog 46 #[.iface 67 (.pointer (some ⟨R, 0, none⟩)), .int .i64 0, .int .i64 0] w fun e w' => (∃ b, e = .returned (.bool b)) ∧ w' = w := by
  go_enter Try.func46, Try.ntmps46
  go_wp2
  go_loop [7] (fun v7 => v7 = .int .i64 0) (fun _ => 0)
  case atStart => rfl
  case round =>
    obtain rfl := hrel
    go_wp2
    refine bodyPost_ret (v := .bool false) (by simp [results, Try.f46, go_sem]) rfl ⟨.inl rfl, rfl⟩
set_option maxRecDepth 100000 in
set_option maxHeartbeats 2000000 in
theorem hPop_c (R : Nat) (xs : List U) (n : Nat) (w : World) (h : HObj R xs w) (hh : Heap xs (n + 1)) (hl : xs.length = n + 1) (hm : xs.length ≤ 1048576) : Calls Try.prog 39 #[.iface 67 (.pointer (some ⟨R, 0, none⟩))] w fun e w' => (∃ v, e = .returned v) ∧ ∃ ys, HObj R ys w' ∧ (ys ++ [get xs 0]).Perm xs ∧ Heap ys ys.length ∧ Chg R w w' := by
  have HH := hide h
  have HL := hide hl
  have HHP := hide hh
  have M1 := mLen
  have M2 := mSwap
  have M3 := mPop
  have HLen := hide (show Calls Try.prog 37 #[.pointer (some ⟨R, 0, none⟩)] w fun e w' => e = .returned (.int .i64 ((n : Int) + 1)) ∧ w' = w from by
    have q := Len_c R xs w h
    rw [hl] at q
    exact q)
  have HSw := hide (show Calls Try.prog 67 #[.pointer (some ⟨R, 0, none⟩), .int .i64 0, .int .i64 (n : Int)] w fun e w' => (∃ v, e = .returned v) ∧ HObj R (swapL xs 0 n) w' ∧ Chg R w w' from Swap_c R xs 0 n w h (by omega) (by omega) hm)
  have HDn := hide (show ∀ w5, HObj R (swapL xs 0 n) w5 → Calls Try.prog 46 #[.iface 67 (.pointer (some ⟨R, 0, none⟩)), .int .i64 0, .int .i64 (n : Int)] w5 fun e w' => (∃ b, e = .returned (.bool b)) ∧ Downed R (swapL xs 0 n) n w5 w' from fun w5 h5 => by
    rcases Nat.eq_zero_or_pos n with rfl | hn
    · refine (down_zero R w5).mono ?_
      rintro e w' ⟨hb, rfl⟩
      exact ⟨hb, _, h5, List.Perm.refl _, fun k _ q => by omega, fun _ _ => rfl, Chg.refl _ _⟩
    · exact down_c R (swapL xs 0 n) 0 n w5 h5 (down_swapped hh hl hn) (by rw [swap_len]; exact hm))
  have hn0 : (n : Int) ≤ 1048576 := by omega
  have hn1 : n + 1 ≤ 1048576 := by omega
  clear h hh hl
  go_enter Try.func39, Try.ntmps39
  go_wp2_with (first
    | (go_at_call 37; refine HLen.out.mono ?_; rintro e w4 ⟨rfl, rfl⟩)
    | (go_at_call 67; refine HSw.out.mono ?_; rintro e w5 ⟨⟨v5, rfl⟩, h5, hb5⟩; have H5 := hide h5; have HB5 := hide hb5; clear h5 hb5)
    | (go_at_call 46; refine (HDn.out _ H5.out).mono ?_; rintro e w6 ⟨⟨b6, rfl⟩, ys, h6, hp6, hq6, hg6, hb6⟩; have H6 := hide h6; have HP6 := hide hp6; have HQ6 := hide hq6; have HG6 := hide hg6; have HB6 := hide hb6; have hyl := hide (show ys.length = n + 1 from by rw [hp6.length_eq, swap_len]; exact HL.out); clear h6 hp6 hq6 hg6 hb6)
    | (go_at_call 65; refine (Pop_c R ys n _ H6.out hyl.out (by rw [hyl.out]; omega)).mono ?_; rintro e w7 ⟨⟨v7, rfl⟩, h7, hb7⟩; have H7 := hide h7; have HB7 := hide hb7; clear h7 hb7))
  refine bodyPost_ret (v := v7) (by simp [results, Try.f39, go_sem]) rfl ⟨⟨_, rfl⟩, ys.take n, H7.out, ?_, ?_, (HB5.out.trans HB6.out).trans HB7.out⟩
  · have e : get ys n = get xs 0 := by
      rw [HG6.out n (Nat.le_refl _), get_swap _ _ _ _ (by have := HL.out; omega) (by have := HL.out; omega), if_pos rfl]
    rw [← e, take_last _ _ hyl.out]
    exact HP6.out.trans (swap_perm _ _ _ (by have := HL.out; omega) (by have := HL.out; omega))
  · intro k hk hkl
    have hkn : k < n := by have := hyl.out; rw [List.length_take] at hkl; omega
    have := par_lt hk
    rw [get_take _ _ _ (by omega), get_take _ _ _ hkn]
    exact HQ6.out k hk hkn
end Go.Proofs.Ytehpjipmlpaflaa.un
