import Derived.Laws.BytesArg
import Derived.Test.YtajkgecegefnmaaTu
namespace Go.Proofs.Ytajkgecegefnmaa
open Go.ChangeShapes Go.WideShapes Go.ChangeAt Go.RowKit Go.Deep
set_option linter.unusedSimpArgs false
set_option linter.unusedVariables false

set_option maxRecDepth 100000 in
set_option maxHeartbeats 1000000 in
theorem num_c (n : Int) (w : World) : Calls Try.prog 23 #[.int .i64 n] w fun e w' => e = .returned (.int .i64 n) ∧ Below w.heap.size w w' := by
  go_enter Try.func23, Try.ntmps23
  go_wp2
  go_ret
  exact ⟨rfl, by (focus repeat' (first | (with_reducible exact Below.refl _ _) | (with_reducible assumption) | (with_reducible refine Below.alloc ?_ ?_ _) | (with_reducible refine Below.drew ?_) | (with_reducible refine bdrewN ?_ _) | (with_reducible refine Below.setCell ?_ ?_ _) | (first | (with_reducible exact Nat.le_refl _) | (with_reducible assumption) | omega | (simp; omega) | (simp; done))))⟩

set_option maxRecDepth 100000 in
set_option maxHeartbeats 1000000 in
theorem num_n (n : Int) (w : World) : Calls Try.prog 23 #[.int .i64 n] w (fun e w' => e = .returned (.int .i64 n) ∧ w' = w) := by
  go_enter Try.func23, Try.ntmps23
  go_wp2
  go_ret
  exact ⟨rfl, rfl⟩

theorem len18 (g : Nat) (v : Value) (w : World) (hW : WObj w g v d18) : Calls Try.prog 28 #[.pointer (some ⟨g, 0, none⟩)] w fun e w' => e = .returned (.int .i64 18) ∧ Below w.heap.size w w' := Len_c g v d18 w hW
theorem place3 (g B : Nat) (w : World) (hR : RAny w g B d8 3) : Calls Try.prog 24 #[.pointer (some ⟨g, 0, none⟩)] w fun e w' => e = .returned (.int .i64 3) ∧ Below w.heap.size w w' := Place_any g B d8 3 w hR
theorem end112 (g B : Nat) (w : World) (hR : RAny w g B d8 3) : Calls Try.prog 33 #[.pointer (some ⟨g, 0, none⟩)] w fun e w' => e = .returned (.int .i64 112) ∧ Below w.heap.size w w' := End_yes g B d8 3 w hR (by decide)
theorem size248 (w : World) : Calls Try.prog 13 #[.int .u64 248] w fun e w' => e = .returned (.int .i64 2) ∧ Below w.heap.size w w' := by
  have q := Size_c 248 w (by decide)
  rw [form248] at q
  exact q
theorem unf3 (w : World) : Calls Try.prog 17 #[.int .u64 3] w fun e w' => e = .returned (.int .i64 (-2)) ∧ Below w.heap.size w w' := Unfold_c 3 w (by decide)

theorem wpAnyH_mono {P : Program} {md : Region.Mode} {ops : Array Oper} {Q : Exit → Act → World → Prop} {S S2 : World → Prop} (h : ∀ w, S2 w → S w) : ∀ (fuel : Nat) (listed : Array Bool) (a : Act) (w : World), wpAnyH P md ops Q S2 fuel listed a w → wpAnyH P md ops Q S fuel listed a w
  | 0, _, _, _, H => H
  | fuel + 1, _, _, _, H => ⟨H.1, fun i hi => wpOp_mono (fun a' w' h' => ⟨h _ h'.1, wpAnyH_mono h fuel _ a' w' h'.2⟩) (H.2 i hi)⟩

set_option maxRecDepth 100000 in
set_option maxHeartbeats 4000000 in
theorem known_c  (w : World) : Calls Try.prog 10 #[] w (fun e w' => e = .returned (.bool true) ∧ Below w.heap.size w w') := by
  go_enter Try.func10, Try.ntmps10
  go_wp2_with fail
  refine (NewWriter_c _).mono ?_
  rintro e w1 ⟨g1, rfl, hg1, hb1, hW1⟩
  have HW1 := hide hW1
  have HB1 := hide hb1
  have z1 := hb1.size
  have hg1z := hW1.1
  clear hW1 hb1
  go_wp2_with fail
  refine (NewReader_some d8 w1.heap.size 0 8 _ (by decide) (by decide) d8_lt (fun j hj => ?_) (by simp)).mono ?_
  · have hj8 : j = 0 ∨ j = 1 ∨ j = 2 ∨ j = 3 ∨ j = 4 ∨ j = 5 ∨ j = 6 ∨ j = 7 := by (have : d8.length = 8 := rfl); omega
    rcases hj8 with rfl | rfl | rfl | rfl | rfl | rfl | rfl | rfl <;> simp [go_sem, d8, List.getD]
  rintro e w2 ⟨g2, b2, cap2, rfl, hg2, hb2, hbel, hR2⟩
  have hA : Below w1.heap.size w1 (w1.alloc (.cells #[Value.int .u8 249, Value.int .u8 1, Value.int .u8 0, Value.int .u8 2, Value.int .u8 3, Value.int .u8 248, Value.int .u8 5, Value.int .u8 9] 5)) := by (focus repeat' (first | (with_reducible exact Below.refl _ _) | (with_reducible assumption) | (with_reducible refine Below.alloc ?_ ?_ _) | (with_reducible refine Below.drew ?_) | (with_reducible refine bdrewN ?_ _) | (with_reducible refine Below.setCell ?_ ?_ _) | (first | (with_reducible exact Nat.le_refl _) | (with_reducible assumption) | omega | (simp; omega) | (simp; done))))
  have hA2 : Below w1.heap.size w1 w2 := bstep hA hbel
  have hg2' : w1.heap.size + 1 ≤ g2 := by simpa using hg2
  have hb2' : w1.heap.size + 1 ≤ b2 := by simpa using hb2
  have HK2 := hide (show KN w w2 g1 (.slice none 0 0) [] g2 b2 cap2 d8 0 from ⟨HW1.out.below hA2, hR2, by omega, by omega, by simp [Value.ownBlock], by simp [Value.ownBlock], HB1.out.trans (hA2.mono z1), hg1, by omega, by simp [Value.ownBlock]⟩)
  clear hA hA2 hbel hR2 hg2 hb2 hg2' hb2' hg1 hg1z z1 HW1 HB1
  go_wp2_with (go_at_call 23; go_in)
  refine (Number_c g1 (.slice none 0 0) [] 255 _ HK2.out.wr (by decide) (by decide)).mono ?_
  rintro e w3 ⟨v3, rfl, hW3, hk3, hn3⟩
  have HK3 := hide (HK2.out.write hW3 hk3 hn3)
  clear hW3 hk3 hn3 HK2
  go_wp2_with (go_at_call 23; go_in)
  refine (Signed_c g1 v3 ([] ++ form 255) (-1) _ HK3.out.wr (by rw [form255]; decide) (by decide) (by decide)).mono ?_
  rintro e w4 ⟨v4, rfl, hW4, hk4, hn4⟩
  have HK4 := hide (HK3.out.write hW4 hk4 hn4)
  clear hW4 hk4 hn4 HK3
  go_wp2_with (go_at_call 23; go_in)
  refine (Flag_yes g1 v4 (([] ++ form 255) ++ form (fold (-1))) _ HK4.out.wr (by rw [form255]; decide)).mono ?_
  rintro e w5 ⟨v5, rfl, hW5, hk5, hn5⟩
  have HK5 := hide (HK4.out.write hW5 hk5 hn5)
  clear hW5 hk5 hn5 HK4
  go_wp2_with (go_at_call 23; go_in)
  refine (Text_some g1 v5 ((([] ++ form 255) ++ form (fold (-1))) ++ [1]) ⟨#[97, 98]⟩ _ HK5.out.wr (by rw [form255]; decide) (by decide) (by decide)).mono ?_
  rintro e w6 ⟨v6, rfl, hW6, hk6, hn6⟩
  have HK6 := hide (HK5.out.write hW6 hk6 hn6)
  clear hW6 hk6 hn6 HK5
  go_wp2_with (go_at_call 23; go_in)
  have hA : Below w6.heap.size w6 (w6.alloc (.cells #[.int .u64 3, .int .u64 4] 22)) := by (focus repeat' (first | (with_reducible exact Below.refl _ _) | (with_reducible assumption) | (with_reducible refine Below.alloc ?_ ?_ _) | (with_reducible refine Below.drew ?_) | (with_reducible refine bdrewN ?_ _) | (with_reducible refine Below.setCell ?_ ?_ _) | (first | (with_reducible exact Nat.le_refl _) | (with_reducible assumption) | omega | (simp; omega) | (simp; done))))
  have HK6b := hide (HK6.out.below hA)
  refine (List64_c g1 v6 (((([] ++ form 255) ++ form (fold (-1))) ++ [1]) ++ text ⟨#[97, 98]⟩) [3, 4] w6.heap.size 0 2 _ HK6b.out.wr (by rw [form255]; decide) (by decide) (by decide) (fun j hj => ?_) (by simp) (by (have := HK6.out.wr.1); omega) (fun e => by (have := HK6.out.wr.2.2.2.1.lt w6.heap.size e.symm); omega)).mono ?_
  · have hj2 : j = 0 ∨ j = 1 := by (have : ([3, 4] : List Nat).length = 2 := rfl); omega
    rcases hj2 with rfl | rfl <;> simp [go_sem, List.getD]
  rintro e w7 ⟨v7, rfl, hW7, hk7, hn7⟩
  have HK7 := hide (HK6b.out.write hW7 hk7 hn7)
  clear hW7 hk7 hn7 HK6 hA HK6b
  go_wp2_with (go_at_call 23; go_in)
  refine (Real_c g1 v7 ((((([] ++ form 255) ++ form (fold (-1))) ++ [1]) ++ text ⟨#[97, 98]⟩) ++ (form 2 ++ forms [3, 4])) 4607182418800017408 _ HK7.out.wr (by rw [form255]; decide) (by decide)).mono ?_
  rintro e w8 ⟨v8, rfl, hW8, hk8, hn8⟩
  have HK8 := hide (HK7.out.write hW8 hk8 hn8)
  clear hW8 hk8 hn8 HK7
  rw [d18_is] at HK8
  have HR0 := hide HK8.out.reads
  have hbx := HK8.out.rd
  clear HK8 hbx
  go_wp2_with (go_at_call 23; go_in)
  refine (RNum_any g2 w8.heap.size d8 0 _ HR0.out.rd).mono ?_
  rw [d8_rd]
  rintro e w9 ⟨rfl, ho9, hR9⟩
  have HR9 := hide (HR0.out.read ho9 hR9)
  have z9 := ho9.size
  clear ho9 hR9 HR0
  go_wp2_with fail
  refine (Take_U_c g2 w8.heap.size d8 3 9 _ HR9.out.rd (by decide) (by decide)).mono ?_
  rw [d8_tl9]
  rintro e w10 ⟨u10, rfl, ho10, hR10, _⟩
  have HR10 := hide (HR9.out.read ho10 hR10)
  clear ho10 hR10 HR9
  go_wp2_with fail
  refine (Take_U_c g2 w8.heap.size d8 3 1 _ HR10.out.rd (by decide) (by decide)).mono ?_
  rw [d8_tl1]
  rintro e w11 ⟨u11, rfl, ho11, hR11, _⟩
  have HR11 := hide (HR10.out.read ho11 hR11)
  clear ho11 hR11 HR10
  have hA : Below w11.heap.size w11 (w11.alloc (.cells #[Value.int .u8 248, Value.int .u8 255, Value.int .u8 1, Value.int .u8 1, Value.int .u8 2, Value.int .u8 97, Value.int .u8 98, Value.int .u8 2, Value.int .u8 3, Value.int .u8 4, Value.int .u8 63, Value.int .u8 240, Value.int .u8 0, Value.int .u8 0, Value.int .u8 0, Value.int .u8 0, Value.int .u8 0, Value.int .u8 0] 5)) := by (focus repeat' (first | (with_reducible exact Below.refl _ _) | (with_reducible assumption) | (with_reducible refine Below.alloc ?_ ?_ _) | (with_reducible refine Below.drew ?_) | (with_reducible refine bdrewN ?_ _) | (with_reducible refine Below.setCell ?_ ?_ _) | (first | (with_reducible exact Nat.le_refl _) | (with_reducible assumption) | omega | (simp; omega) | (simp; done))))
  obtain ⟨wA, hwA⟩ : ∃ wA, wA = w11.alloc (.cells #[Value.int .u8 248, Value.int .u8 255, Value.int .u8 1, Value.int .u8 1, Value.int .u8 2, Value.int .u8 97, Value.int .u8 98, Value.int .u8 2, Value.int .u8 3, Value.int .u8 4, Value.int .u8 63, Value.int .u8 240, Value.int .u8 0, Value.int .u8 0, Value.int .u8 0, Value.int .u8 0, Value.int .u8 0, Value.int .u8 0] 5) := ⟨_, rfl⟩
  have HRA := hide (show KR w wA g1 v8 d18 g2 w8.heap.size d8 3 from hwA ▸ HR11.out.below hA)
  have hwc : ∀ j, j < d18.length → wA.cell? ⟨w11.heap.size, 0 + j, none⟩ = some (.int .u8 (d18.getD j 0 : Int)) := by
    intro j hj
    have hjl : j < 18 := hj
    subst hwA
    rcases j with _ | _ | _ | _ | _ | _ | _ | _ | _ | _ | _ | _ | _ | _ | _ | _ | _ | _ | j
    case succ => omega
    all_goals simp [go_sem, d18, List.getD]
  have hwz : w11.heap.size < wA.heap.size := by rw [hwA]; simp
  have HWC := hide (show ∀ w', Below wA.heap.size wA w' → Sem.run Try.prog (convert 28 9 (.slice (some ⟨w11.heap.size, 0, none⟩) 18 18)) w' = .ok (.string (bstr d18)) w' from fun w' hb => conv28 w' w11.heap.size 0 18 d18 (fun j hj => (hb.cell (p := ⟨w11.heap.size, 0 + j, none⟩) hwz).trans (hwc j hj)))
  have HA := hide hwA
  clear hwA hwc hA
  go_wp2_with fail
  rw [← HA.out]
  have CW0 := HWC.out wA (Below.refl _ _)
  have CW1 := HWC.out wA.drew (drewB _)
  refine wp_region_held_drew (S := fun wq => Below wA.heap.size wA wq ∧ Sem.run Try.prog (convert 28 9 (.slice (some ⟨w11.heap.size, 0, none⟩) 18 18)) wq = .ok (.string (bstr d18)) wq) (by kernel_rfl) ⟨drewB _, CW1⟩ (fun hH0 => ?_)
  refine wpAnyH_take (i := 0) (oi := ?oi0) (v := ?v0) ?ho0 (by kernel_rfl) (by kernel_rfl) (by kernel_rfl) ?hp0 ?hy0 hH0 ?hr0
  case ho0 => (simp only [List.getElem?_toArray, List.getElem?_cons_succ, List.getElem?_cons_zero]; exact rfl)
  case hp0 => exact fun _ _ _ h => h
  case hy0 => (refine Or.inl ⟨by rfl, ?_⟩; intro w hSw; (try dsimp only at hSw); go_simp; (try (with_reducible rfl)))
  case hr0 =>
  (try simp only [Act.put, List.setIfInBounds_toArray, List.set_cons_zero, List.set_cons_succ])
  refine wpAnyH_take (i := 3) (oi := ?oi3) (v := ?v3) ?ho3 (by kernel_rfl) (by kernel_rfl) (by kernel_rfl) ?hp3 ?hy3 hH0 ?hr3
  case ho3 => (simp only [List.getElem?_toArray, List.getElem?_cons_succ, List.getElem?_cons_zero]; exact rfl)
  case hp3 => exact fun _ _ _ h => h
  case hy3 => (refine Or.inl ⟨by rfl, ?_⟩; intro w hSw; (try dsimp only at hSw); go_simp; (try (with_reducible rfl)))
  case hr3 =>
  (try simp only [Act.put, List.setIfInBounds_toArray, List.set_cons_zero, List.set_cons_succ])
  refine wpAnyH_take (i := 4) (oi := ?oi4) (v := ?v4) ?ho4 (by kernel_rfl) (by kernel_rfl) (by kernel_rfl) ?hp4 ?hy4 hH0 ?hr4
  case ho4 => (simp only [List.getElem?_toArray, List.getElem?_cons_succ, List.getElem?_cons_zero]; exact rfl)
  case hp4 => exact fun _ _ _ h => h
  case hy4 => (refine Or.inl ⟨by rfl, ?_⟩; intro w hSw; (try dsimp only at hSw); go_simp; (try (with_reducible rfl)))
  case hr4 =>
  (try simp only [Act.put, List.setIfInBounds_toArray, List.set_cons_zero, List.set_cons_succ])
  refine wpAnyH_ready (rs := [1]) (by kernel_rfl) (by simp) (AllReadyH.cons (o := ?oi1) ?ho1 (fun K hK => ?hr1) AllReadyH.nil)
  case ho1 => (simp only [List.getElem?_toArray, List.getElem?_cons_succ, List.getElem?_cons_zero]; exact rfl)
  case hr1 =>
  go_simp
  refine Calls.mono (Bytes_c g1 v8 d18 _ (HRA.out.below (drewB _)).wr (by decide) (by decide)) ?_
  rintro e w12 ⟨g3, cap3, rfl, hg3, own3, hb12⟩
  have HB12 : Below wA.heap.size wA w12 := bstep (drewB _) hb12
  have CA12 := hide (fun (w' : World) (hb : Below w12.heap.size w12 w') => conv28 w' g3 0 cap3 d18 (own_conv (own_same own3 (fun k _ hlt => hb.block k hlt)) (by decide)))
  have HR12 := hide (HRA.out.below HB12)
  (try go_wp2_with fail)
  refine hK.out _ _ ?_ (fun hH1 => ?_)
  · exact ⟨HB12, HWC.out _ HB12⟩
  clear hK K own3 hg3 hb12 hH0 CW1 CW0
  (try simp only [Act.put, List.setIfInBounds_toArray, List.set_cons_zero, List.set_cons_succ])
  have hH2 : (Below wA.heap.size wA w12 ∧ Sem.run Try.prog (convert 28 9 (.slice (some ⟨w11.heap.size, 0, none⟩) 18 18)) w12 = .ok (.string (bstr d18)) w12) ∧ Below w12.heap.size w12 w12 ∧ Sem.run Try.prog (convert 28 9 (.slice (some ⟨g3, 0, none⟩) d18.length cap3)) w12 = .ok (.string (bstr d18)) w12 := ⟨hH1, Below.refl _ _, CA12.out _ (Below.refl _ _)⟩
  refine wpAnyH_mono (S2 := fun wq => (Below wA.heap.size wA wq ∧ Sem.run Try.prog (convert 28 9 (.slice (some ⟨w11.heap.size, 0, none⟩) 18 18)) wq = .ok (.string (bstr d18)) wq) ∧ Below w12.heap.size w12 wq ∧ Sem.run Try.prog (convert 28 9 (.slice (some ⟨g3, 0, none⟩) d18.length cap3)) wq = .ok (.string (bstr d18)) wq) (fun w h => h.1) _ _ _ _ ?_
  clear hH1 HB12
  refine wpAnyH_take (i := 2) (oi := ?oi2) (v := ?v2) ?ho2 (by kernel_rfl) (by kernel_rfl) (by kernel_rfl) ?hp2 ?hy2 hH2 ?hr2
  case ho2 => (simp only [List.getElem?_toArray, List.getElem?_cons_succ, List.getElem?_cons_zero]; exact rfl)
  case hp2 => exact fun _ _ _ h => h
  case hy2 => (refine Or.inl ⟨by rfl, ?_⟩; intro w hSw; (try dsimp only at hSw); go_simp; (try (with_reducible rfl)))
  case hr2 =>
  (try simp only [Act.put, List.setIfInBounds_toArray, List.set_cons_zero, List.set_cons_succ])
  refine wpAnyH_take (i := 5) (oi := ?oi5) (v := ?v5) ?ho5 (by kernel_rfl) (by kernel_rfl) (by kernel_rfl) ?hp5 ?hy5 hH2 ?hr5
  case ho5 => (simp only [List.getElem?_toArray, List.getElem?_cons_succ, List.getElem?_cons_zero]; exact rfl)
  case hp5 => exact fun _ _ _ h => h
  case hy5 => (refine Or.inl ⟨by rfl, ?_⟩; intro w hSw; (try dsimp only at hSw); go_simp; (try (with_reducible rfl)))
  case hr5 =>
  (try simp only [Act.put, List.setIfInBounds_toArray, List.set_cons_zero, List.set_cons_succ])
  refine wpAnyH_take (i := 6) (oi := ?oi6) (v := ?v6) ?ho6 (by kernel_rfl) (by kernel_rfl) (by kernel_rfl) ?hp6 ?hy6 hH2 ?hr6
  case ho6 => (simp only [List.getElem?_toArray, List.getElem?_cons_succ, List.getElem?_cons_zero]; exact rfl)
  case hp6 => exact fun _ _ _ h => h
  case hy6 => (refine Or.inl ⟨by rfl, ?_⟩; intro w hSw; (try dsimp only at hSw); go_simp; (try (with_reducible rfl)))
  case hr6 =>
  (try simp only [Act.put, List.setIfInBounds_toArray, List.set_cons_zero, List.set_cons_succ])
  refine wpAnyH_take (i := 7) (oi := ?oi7) (v := ?v7) ?ho7 (by kernel_rfl) (by kernel_rfl) (by kernel_rfl) ?hp7 ?hy7 hH2 ?hr7
  case ho7 => (simp only [List.getElem?_toArray, List.getElem?_cons_succ, List.getElem?_cons_zero]; exact rfl)
  case hp7 => exact fun _ _ _ h => h
  case hy7 => (refine Or.inl ⟨by rfl, ?_⟩; intro w hSw; (try dsimp only at hSw); go_simp; (try (with_reducible rfl)))
  case hr7 =>
  (try simp only [Act.put, List.setIfInBounds_toArray, List.set_cons_zero, List.set_cons_succ])
  refine wpAnyH_take (i := 9) (oi := ?oi9) (v := ?v9) ?ho9 (by kernel_rfl) (by kernel_rfl) (by kernel_rfl) ?hp9 ?hy9 hH2 ?hr9
  case ho9 => (simp only [List.getElem?_toArray, List.getElem?_cons_succ, List.getElem?_cons_zero]; exact rfl)
  case hp9 => exact fun _ _ _ h => h
  case hy9 => (refine Or.inl ⟨by rfl, ?_⟩; intro w hSw; (try dsimp only at hSw); go_simp; (try (with_reducible rfl)))
  case hr9 =>
  (try simp only [Act.put, List.setIfInBounds_toArray, List.set_cons_zero, List.set_cons_succ])
  refine wpAnyH_take (i := 10) (oi := ?oi10) (v := ?v10) ?ho10 (by kernel_rfl) (by kernel_rfl) (by kernel_rfl) ?hp10 ?hy10 hH2 ?hr10
  case ho10 => (simp only [List.getElem?_toArray, List.getElem?_cons_succ, List.getElem?_cons_zero]; exact rfl)
  case hp10 => exact fun _ _ _ h => h
  case hy10 => (refine Or.inl ⟨by rfl, ?_⟩; intro w hSw; (try dsimp only at hSw); go_simp; (try (with_reducible rfl)))
  case hr10 =>
  (try simp only [Act.put, List.setIfInBounds_toArray, List.set_cons_zero, List.set_cons_succ])
  refine wpAnyH_ready (rs := [8]) (by kernel_rfl) (by simp) (AllReadyH.cons (o := ?oi8) ?ho8 (fun K hK => ?hr8) AllReadyH.nil)
  case ho8 => (simp only [List.getElem?_toArray, List.getElem?_cons_succ, List.getElem?_cons_zero]; exact rfl)
  case hr8 =>
  go_simp
  refine Calls.mono (len18 g1 v8 _ (HR12.out.below hH2.2.1).wr) ?_
  rintro e wn ⟨rfl, hbn⟩
  (try go_wp2_with fail)
  refine hK.out _ _ ?_ (fun hH3 => ?_)
  · exact ⟨⟨bstep hH2.1.1 hbn, HWC.out _ (bstep hH2.1.1 hbn)⟩, bstep hH2.2.1 hbn, CA12.out _ (bstep hH2.2.1 hbn)⟩
  clear hK K hH2 hbn
  (try simp only [Act.put, List.setIfInBounds_toArray, List.set_cons_zero, List.set_cons_succ])
  refine wpAnyH_take (i := 11) (oi := ?oi11) (v := ?v11) ?ho11 (by kernel_rfl) (by kernel_rfl) (by kernel_rfl) ?hp11 ?hy11 hH3 ?hr11
  case ho11 => (simp only [List.getElem?_toArray, List.getElem?_cons_succ, List.getElem?_cons_zero]; exact rfl)
  case hp11 => exact fun _ _ _ h => h
  case hy11 => (refine Or.inl ⟨by rfl, ?_⟩; intro w hSw; (try dsimp only at hSw); go_simp; (try (with_reducible rfl)))
  case hr11 =>
  (try simp only [Act.put, List.setIfInBounds_toArray, List.set_cons_zero, List.set_cons_succ])
  refine wpAnyH_take (i := 12) (oi := ?oi12) (v := ?v12) ?ho12 (by kernel_rfl) (by kernel_rfl) (by kernel_rfl) ?hp12 ?hy12 hH3 ?hr12
  case ho12 => (simp only [List.getElem?_toArray, List.getElem?_cons_succ, List.getElem?_cons_zero]; exact rfl)
  case hp12 => exact fun _ _ _ h => h
  case hy12 => (refine Or.inl ⟨by rfl, ?_⟩; intro w hSw; (try dsimp only at hSw); go_simp; (try (with_reducible rfl)))
  case hr12 =>
  (try simp only [Act.put, List.setIfInBounds_toArray, List.set_cons_zero, List.set_cons_succ])
  refine wpAnyH_take (i := 13) (oi := ?oi13) (v := ?v13) ?ho13 (by kernel_rfl) (by kernel_rfl) (by kernel_rfl) ?hp13 ?hy13 hH3 ?hr13
  case ho13 => (simp only [List.getElem?_toArray, List.getElem?_cons_succ, List.getElem?_cons_zero]; exact rfl)
  case hp13 => exact fun _ _ _ h => h
  case hy13 => (refine Or.inl ⟨by rfl, ?_⟩; intro w hSw; (try dsimp only at hSw); go_simp; (try (with_reducible rfl)))
  case hr13 =>
  (try simp only [Act.put, List.setIfInBounds_toArray, List.set_cons_zero, List.set_cons_succ])
  refine wpAnyH_take (i := 14) (oi := ?oi14) (v := ?v14) ?ho14 (by kernel_rfl) (by kernel_rfl) (by kernel_rfl) ?hp14 ?hy14 hH3 ?hr14
  case ho14 => (simp only [List.getElem?_toArray, List.getElem?_cons_succ, List.getElem?_cons_zero]; exact rfl)
  case hp14 => exact fun _ _ _ h => h
  case hy14 => (refine Or.inl ⟨by rfl, ?_⟩; intro w hSw; (try dsimp only at hSw); go_simp; (try (with_reducible rfl)))
  case hr14 =>
  (try simp only [Act.put, List.setIfInBounds_toArray, List.set_cons_zero, List.set_cons_succ])
  refine wpAnyH_take (i := 15) (oi := ?oi15) (v := ?v15) ?ho15 (by kernel_rfl) (by kernel_rfl) (by kernel_rfl) ?hp15 ?hy15 hH3 ?hr15
  case ho15 => (simp only [List.getElem?_toArray, List.getElem?_cons_succ, List.getElem?_cons_zero]; exact rfl)
  case hp15 => exact fun _ _ _ h => h
  case hy15 => (refine Or.inl ⟨by rfl, ?_⟩; intro w hSw; (try dsimp only at hSw); go_simp; (try (with_reducible rfl)))
  case hr15 =>
  (try simp only [Act.put, List.setIfInBounds_toArray, List.set_cons_zero, List.set_cons_succ])
  refine wpAnyH_take (i := 16) (oi := ?oi16) (v := ?v16) ?ho16 (by kernel_rfl) (by kernel_rfl) (by kernel_rfl) ?hp16 ?hy16 hH3 ?hr16
  case ho16 => (simp only [List.getElem?_toArray, List.getElem?_cons_succ, List.getElem?_cons_zero]; exact rfl)
  case hp16 => exact fun _ _ _ h => h
  case hy16 => (refine Or.inl ⟨by rfl, ?_⟩; intro w hSw; (try dsimp only at hSw); go_simp; (try (with_reducible rfl)))
  case hr16 =>
  (try simp only [Act.put, List.setIfInBounds_toArray, List.set_cons_zero, List.set_cons_succ])
  refine wpAnyH_take (i := 17) (oi := ?oi17) (v := ?v17) ?ho17 (by kernel_rfl) (by kernel_rfl) (by kernel_rfl) ?hp17 ?hy17 hH3 ?hr17
  case ho17 => (simp only [List.getElem?_toArray, List.getElem?_cons_succ, List.getElem?_cons_zero]; exact rfl)
  case hp17 => exact fun _ _ _ h => h
  case hy17 => (refine Or.inl ⟨by rfl, ?_⟩; intro w hSw; (try dsimp only at hSw); go_simp; (try (with_reducible rfl)))
  case hr17 =>
  (try simp only [Act.put, List.setIfInBounds_toArray, List.set_cons_zero, List.set_cons_succ])
  refine wpAnyH_take (i := 18) (oi := ?oi18) (v := ?v18) ?ho18 (by kernel_rfl) (by kernel_rfl) (by kernel_rfl) ?hp18 ?hy18 hH3 ?hr18
  case ho18 => (simp only [List.getElem?_toArray, List.getElem?_cons_succ, List.getElem?_cons_zero]; exact rfl)
  case hp18 => exact fun _ _ _ h => h
  case hy18 => (refine Or.inl ⟨by rfl, ?_⟩; intro w hSw; (try dsimp only at hSw); go_simp; (try (with_reducible rfl)))
  case hr18 =>
  (try simp only [Act.put, List.setIfInBounds_toArray, List.set_cons_zero, List.set_cons_succ])
  refine wpAnyH_ready (rs := [19]) (by kernel_rfl) (by simp) (AllReadyH.cons (o := ?oi19) ?ho19 (fun K hK => ?hr19) AllReadyH.nil)
  case ho19 => (simp only [List.getElem?_toArray, List.getElem?_cons_succ, List.getElem?_cons_zero]; exact rfl)
  case hr19 =>
  go_simp
  refine Calls.mono (num_n _ _) ?_
  rintro e wx ⟨rfl, rfl⟩
  (try go_wp2_with fail)
  refine hK.out _ _ ?_ (fun hH4 => ?_)
  · exact hH3
  clear hK K hH3
  (try simp only [Act.put, List.setIfInBounds_toArray, List.set_cons_zero, List.set_cons_succ])
  refine wpAnyH_take (i := 20) (oi := ?oi20) (v := ?v20) ?ho20 (by kernel_rfl) (by kernel_rfl) (by kernel_rfl) ?hp20 ?hy20 hH4 ?hr20
  case ho20 => (simp only [List.getElem?_toArray, List.getElem?_cons_succ, List.getElem?_cons_zero]; exact rfl)
  case hp20 => exact fun _ _ _ h => h
  case hy20 => (refine Or.inl ⟨by rfl, ?_⟩; intro w hSw; (try dsimp only at hSw); go_simp; (try (with_reducible rfl)))
  case hr20 =>
  (try simp only [Act.put, List.setIfInBounds_toArray, List.set_cons_zero, List.set_cons_succ])
  refine wpAnyH_take (i := 21) (oi := ?oi21) (v := ?v21) ?ho21 (by kernel_rfl) (by kernel_rfl) (by kernel_rfl) ?hp21 ?hy21 hH4 ?hr21
  case ho21 => (simp only [List.getElem?_toArray, List.getElem?_cons_succ, List.getElem?_cons_zero]; exact rfl)
  case hp21 => exact fun _ _ _ h => h
  case hy21 => (refine Or.inl ⟨by rfl, ?_⟩; intro w hSw; (try dsimp only at hSw); go_simp; (try (with_reducible rfl)))
  case hr21 =>
  (try simp only [Act.put, List.setIfInBounds_toArray, List.set_cons_zero, List.set_cons_succ])
  refine wpAnyH_take (i := 22) (oi := ?oi22) (v := ?v22) ?ho22 (by kernel_rfl) (by kernel_rfl) (by kernel_rfl) ?hp22 ?hy22 hH4 ?hr22
  case ho22 => (simp only [List.getElem?_toArray, List.getElem?_cons_succ, List.getElem?_cons_zero]; exact rfl)
  case hp22 => exact fun _ _ _ h => h
  case hy22 => (refine Or.inl ⟨by rfl, ?_⟩; intro w hSw; (try dsimp only at hSw); go_simp; (try (with_reducible rfl)))
  case hr22 =>
  (try simp only [Act.put, List.setIfInBounds_toArray, List.set_cons_zero, List.set_cons_succ])
  refine wpAnyH_take (i := 23) (oi := ?oi23) (v := ?v23) ?ho23 (by kernel_rfl) (by kernel_rfl) (by kernel_rfl) ?hp23 ?hy23 hH4 ?hr23
  case ho23 => (simp only [List.getElem?_toArray, List.getElem?_cons_succ, List.getElem?_cons_zero]; exact rfl)
  case hp23 => exact fun _ _ _ h => h
  case hy23 => (refine Or.inl ⟨by rfl, ?_⟩; intro w hSw; (try dsimp only at hSw); go_simp; (try (with_reducible rfl)))
  case hr23 =>
  (try simp only [Act.put, List.setIfInBounds_toArray, List.set_cons_zero, List.set_cons_succ])
  refine wpAnyH_ready (rs := [24]) (by kernel_rfl) (by simp) (AllReadyH.cons (o := ?oi24) ?ho24 (fun K hK => ?hr24) AllReadyH.nil)
  case ho24 => (simp only [List.getElem?_toArray, List.getElem?_cons_succ, List.getElem?_cons_zero]; exact rfl)
  case hr24 =>
  go_simp
  refine Calls.mono (num_n _ _) ?_
  rintro e wx ⟨rfl, rfl⟩
  (try go_wp2_with fail)
  refine hK.out _ _ ?_ (fun hH5 => ?_)
  · exact hH4
  clear hK K hH4
  (try simp only [Act.put, List.setIfInBounds_toArray, List.set_cons_zero, List.set_cons_succ])
  refine wpAnyH_take (i := 25) (oi := ?oi25) (v := ?v25) ?ho25 (by kernel_rfl) (by kernel_rfl) (by kernel_rfl) ?hp25 ?hy25 hH5 ?hr25
  case ho25 => (simp only [List.getElem?_toArray, List.getElem?_cons_succ, List.getElem?_cons_zero]; exact rfl)
  case hp25 => exact fun _ _ _ h => h
  case hy25 => (refine Or.inl ⟨by rfl, ?_⟩; intro w hSw; (try dsimp only at hSw); go_simp; (try (with_reducible rfl)))
  case hr25 =>
  (try simp only [Act.put, List.setIfInBounds_toArray, List.set_cons_zero, List.set_cons_succ])
  refine wpAnyH_take (i := 26) (oi := ?oi26) (v := ?v26) ?ho26 (by kernel_rfl) (by kernel_rfl) (by kernel_rfl) ?hp26 ?hy26 hH5 ?hr26
  case ho26 => (simp only [List.getElem?_toArray, List.getElem?_cons_succ, List.getElem?_cons_zero]; exact rfl)
  case hp26 => exact fun _ _ _ h => h
  case hy26 => (refine Or.inl ⟨by rfl, ?_⟩; intro w hSw; (try dsimp only at hSw); go_simp; (try (with_reducible rfl)))
  case hr26 =>
  (try simp only [Act.put, List.setIfInBounds_toArray, List.set_cons_zero, List.set_cons_succ])
  refine wpAnyH_take (i := 27) (oi := ?oi27) (v := ?v27) ?ho27 (by kernel_rfl) (by kernel_rfl) (by kernel_rfl) ?hp27 ?hy27 hH5 ?hr27
  case ho27 => (simp only [List.getElem?_toArray, List.getElem?_cons_succ, List.getElem?_cons_zero]; exact rfl)
  case hp27 => exact fun _ _ _ h => h
  case hy27 => (refine Or.inl ⟨by rfl, ?_⟩; intro w hSw; (try dsimp only at hSw); go_simp; (try (with_reducible rfl)))
  case hr27 =>
  (try simp only [Act.put, List.setIfInBounds_toArray, List.set_cons_zero, List.set_cons_succ])
  refine wpAnyH_take (i := 28) (oi := ?oi28) (v := ?v28) ?ho28 (by kernel_rfl) (by kernel_rfl) (by kernel_rfl) ?hp28 ?hy28 hH5 ?hr28
  case ho28 => (simp only [List.getElem?_toArray, List.getElem?_cons_succ, List.getElem?_cons_zero]; exact rfl)
  case hp28 => exact fun _ _ _ h => h
  case hy28 => (refine Or.inl ⟨by rfl, ?_⟩; intro w hSw; (try dsimp only at hSw); go_simp; (try (with_reducible rfl)))
  case hr28 =>
  (try simp only [Act.put, List.setIfInBounds_toArray, List.set_cons_zero, List.set_cons_succ])
  refine wpAnyH_ready (rs := [29]) (by kernel_rfl) (by simp) (AllReadyH.cons (o := ?oi29) ?ho29 (fun K hK => ?hr29) AllReadyH.nil)
  case ho29 => (simp only [List.getElem?_toArray, List.getElem?_cons_succ, List.getElem?_cons_zero]; exact rfl)
  case hr29 =>
  go_simp
  refine Calls.mono (num_n _ _) ?_
  rintro e wx ⟨rfl, rfl⟩
  (try go_wp2_with fail)
  refine hK.out _ _ ?_ (fun hH6 => ?_)
  · exact hH5
  clear hK K hH5
  (try simp only [Act.put, List.setIfInBounds_toArray, List.set_cons_zero, List.set_cons_succ])
  refine wpAnyH_take (i := 30) (oi := ?oi30) (v := ?v30) ?ho30 (by kernel_rfl) (by kernel_rfl) (by kernel_rfl) ?hp30 ?hy30 hH6 ?hr30
  case ho30 => (simp only [List.getElem?_toArray, List.getElem?_cons_succ, List.getElem?_cons_zero]; exact rfl)
  case hp30 => exact fun _ _ _ h => h
  case hy30 => (refine Or.inl ⟨by rfl, ?_⟩; intro w hSw; (try dsimp only at hSw); go_simp; (try (with_reducible rfl)))
  case hr30 =>
  (try simp only [Act.put, List.setIfInBounds_toArray, List.set_cons_zero, List.set_cons_succ])
  refine wpAnyH_take (i := 31) (oi := ?oi31) (v := ?v31) ?ho31 (by kernel_rfl) (by kernel_rfl) (by kernel_rfl) ?hp31 ?hy31 hH6 ?hr31
  case ho31 => (simp only [List.getElem?_toArray, List.getElem?_cons_succ, List.getElem?_cons_zero]; exact rfl)
  case hp31 => exact fun _ _ _ h => h
  case hy31 => (refine Or.inl ⟨by rfl, ?_⟩; intro w hSw; (try dsimp only at hSw); go_simp; (try (with_reducible rfl)))
  case hr31 =>
  (try simp only [Act.put, List.setIfInBounds_toArray, List.set_cons_zero, List.set_cons_succ])
  refine wpAnyH_take (i := 32) (oi := ?oi32) (v := ?v32) ?ho32 (by kernel_rfl) (by kernel_rfl) (by kernel_rfl) ?hp32 ?hy32 hH6 ?hr32
  case ho32 => (simp only [List.getElem?_toArray, List.getElem?_cons_succ, List.getElem?_cons_zero]; exact rfl)
  case hp32 => exact fun _ _ _ h => h
  case hy32 => (refine Or.inl ⟨by rfl, ?_⟩; intro w hSw; (try dsimp only at hSw); go_simp; (try (with_reducible rfl)))
  case hr32 =>
  (try simp only [Act.put, List.setIfInBounds_toArray, List.set_cons_zero, List.set_cons_succ])
  refine wpAnyH_take (i := 33) (oi := ?oi33) (v := ?v33) ?ho33 (by kernel_rfl) (by kernel_rfl) (by kernel_rfl) ?hp33 ?hy33 hH6 ?hr33
  case ho33 => (simp only [List.getElem?_toArray, List.getElem?_cons_succ, List.getElem?_cons_zero]; exact rfl)
  case hp33 => exact fun _ _ _ h => h
  case hy33 => (refine Or.inl ⟨by rfl, ?_⟩; intro w hSw; (try dsimp only at hSw); go_simp; (try (with_reducible rfl)))
  case hr33 =>
  (try simp only [Act.put, List.setIfInBounds_toArray, List.set_cons_zero, List.set_cons_succ])
  refine wpAnyH_ready (rs := [34]) (by kernel_rfl) (by simp) (AllReadyH.cons (o := ?oi34) ?ho34 (fun K hK => ?hr34) AllReadyH.nil)
  case ho34 => (simp only [List.getElem?_toArray, List.getElem?_cons_succ, List.getElem?_cons_zero]; exact rfl)
  case hr34 =>
  go_simp
  refine Calls.mono (place3 g2 w8.heap.size _ (HR12.out.below hH6.2.1).rd) ?_
  rintro e wn ⟨rfl, hbn⟩
  (try go_wp2_with fail)
  refine hK.out _ _ ?_ (fun hH7 => ?_)
  · exact ⟨⟨bstep hH6.1.1 hbn, HWC.out _ (bstep hH6.1.1 hbn)⟩, bstep hH6.2.1 hbn, CA12.out _ (bstep hH6.2.1 hbn)⟩
  clear hK K hH6 hbn
  (try simp only [Act.put, List.setIfInBounds_toArray, List.set_cons_zero, List.set_cons_succ])
  refine wpAnyH_take (i := 35) (oi := ?oi35) (v := ?v35) ?ho35 (by kernel_rfl) (by kernel_rfl) (by kernel_rfl) ?hp35 ?hy35 hH7 ?hr35
  case ho35 => (simp only [List.getElem?_toArray, List.getElem?_cons_succ, List.getElem?_cons_zero]; exact rfl)
  case hp35 => exact fun _ _ _ h => h
  case hy35 => (refine Or.inl ⟨by rfl, ?_⟩; intro w hSw; (try dsimp only at hSw); go_simp; (try (with_reducible rfl)))
  case hr35 =>
  (try simp only [Act.put, List.setIfInBounds_toArray, List.set_cons_zero, List.set_cons_succ])
  refine wpAnyH_take (i := 36) (oi := ?oi36) (v := ?v36) ?ho36 (by kernel_rfl) (by kernel_rfl) (by kernel_rfl) ?hp36 ?hy36 hH7 ?hr36
  case ho36 => (simp only [List.getElem?_toArray, List.getElem?_cons_succ, List.getElem?_cons_zero]; exact rfl)
  case hp36 => exact fun _ _ _ h => h
  case hy36 => (refine Or.inl ⟨by rfl, ?_⟩; intro w hSw; (try dsimp only at hSw); go_simp; (try (with_reducible rfl)))
  case hr36 =>
  (try simp only [Act.put, List.setIfInBounds_toArray, List.set_cons_zero, List.set_cons_succ])
  refine wpAnyH_take (i := 37) (oi := ?oi37) (v := ?v37) ?ho37 (by kernel_rfl) (by kernel_rfl) (by kernel_rfl) ?hp37 ?hy37 hH7 ?hr37
  case ho37 => (simp only [List.getElem?_toArray, List.getElem?_cons_succ, List.getElem?_cons_zero]; exact rfl)
  case hp37 => exact fun _ _ _ h => h
  case hy37 => (refine Or.inl ⟨by rfl, ?_⟩; intro w hSw; (try dsimp only at hSw); go_simp; (try (with_reducible rfl)))
  case hr37 =>
  (try simp only [Act.put, List.setIfInBounds_toArray, List.set_cons_zero, List.set_cons_succ])
  refine wpAnyH_take (i := 38) (oi := ?oi38) (v := ?v38) ?ho38 (by kernel_rfl) (by kernel_rfl) (by kernel_rfl) ?hp38 ?hy38 hH7 ?hr38
  case ho38 => (simp only [List.getElem?_toArray, List.getElem?_cons_succ, List.getElem?_cons_zero]; exact rfl)
  case hp38 => exact fun _ _ _ h => h
  case hy38 => (refine Or.inl ⟨by rfl, ?_⟩; intro w hSw; (try dsimp only at hSw); go_simp; (try (with_reducible rfl)))
  case hr38 =>
  (try simp only [Act.put, List.setIfInBounds_toArray, List.set_cons_zero, List.set_cons_succ])
  refine wpAnyH_ready (rs := [39]) (by kernel_rfl) (by simp) (AllReadyH.cons (o := ?oi39) ?ho39 (fun K hK => ?hr39) AllReadyH.nil)
  case ho39 => (simp only [List.getElem?_toArray, List.getElem?_cons_succ, List.getElem?_cons_zero]; exact rfl)
  case hr39 =>
  go_simp
  refine Calls.mono (end112 g2 w8.heap.size _ (HR12.out.below hH7.2.1).rd) ?_
  rintro e wn ⟨rfl, hbn⟩
  (try go_wp2_with fail)
  refine hK.out _ _ ?_ (fun hH8 => ?_)
  · exact ⟨⟨bstep hH7.1.1 hbn, HWC.out _ (bstep hH7.1.1 hbn)⟩, bstep hH7.2.1 hbn, CA12.out _ (bstep hH7.2.1 hbn)⟩
  clear hK K hH7 hbn
  (try simp only [Act.put, List.setIfInBounds_toArray, List.set_cons_zero, List.set_cons_succ])
  refine wpAnyH_ready (rs := [40]) (by kernel_rfl) (by simp) (AllReadyH.cons (o := ?oi40) ?ho40 (fun K hK => ?hr40) AllReadyH.nil)
  case ho40 => (simp only [List.getElem?_toArray, List.getElem?_cons_succ, List.getElem?_cons_zero]; exact rfl)
  case hr40 =>
  go_simp
  refine Calls.mono (num_n _ _) ?_
  rintro e wx ⟨rfl, rfl⟩
  (try go_wp2_with fail)
  refine hK.out _ _ ?_ (fun hH9 => ?_)
  · exact hH8
  clear hK K hH8
  (try simp only [Act.put, List.setIfInBounds_toArray, List.set_cons_zero, List.set_cons_succ])
  refine wpAnyH_take (i := 41) (oi := ?oi41) (v := ?v41) ?ho41 (by kernel_rfl) (by kernel_rfl) (by kernel_rfl) ?hp41 ?hy41 hH9 ?hr41
  case ho41 => (simp only [List.getElem?_toArray, List.getElem?_cons_succ, List.getElem?_cons_zero]; exact rfl)
  case hp41 => exact fun _ _ _ h => h
  case hy41 => (refine Or.inl ⟨by rfl, ?_⟩; intro w hSw; (try dsimp only at hSw); go_simp; (try (with_reducible rfl)))
  case hr41 =>
  (try simp only [Act.put, List.setIfInBounds_toArray, List.set_cons_zero, List.set_cons_succ])
  refine wpAnyH_take (i := 42) (oi := ?oi42) (v := ?v42) ?ho42 (by kernel_rfl) (by kernel_rfl) (by kernel_rfl) ?hp42 ?hy42 hH9 ?hr42
  case ho42 => (simp only [List.getElem?_toArray, List.getElem?_cons_succ, List.getElem?_cons_zero]; exact rfl)
  case hp42 => exact fun _ _ _ h => h
  case hy42 => (refine Or.inl ⟨by rfl, ?_⟩; intro w hSw; (try dsimp only at hSw); go_simp; (try (with_reducible rfl)))
  case hr42 =>
  (try simp only [Act.put, List.setIfInBounds_toArray, List.set_cons_zero, List.set_cons_succ])
  refine wpAnyH_take (i := 43) (oi := ?oi43) (v := ?v43) ?ho43 (by kernel_rfl) (by kernel_rfl) (by kernel_rfl) ?hp43 ?hy43 hH9 ?hr43
  case ho43 => (simp only [List.getElem?_toArray, List.getElem?_cons_succ, List.getElem?_cons_zero]; exact rfl)
  case hp43 => exact fun _ _ _ h => h
  case hy43 => (refine Or.inl ⟨by rfl, ?_⟩; intro w hSw; (try dsimp only at hSw); go_simp; (try (with_reducible rfl)))
  case hr43 =>
  (try simp only [Act.put, List.setIfInBounds_toArray, List.set_cons_zero, List.set_cons_succ])
  refine wpAnyH_ready (rs := [44]) (by kernel_rfl) (by simp) (AllReadyH.cons (o := ?oi44) ?ho44 (fun K hK => ?hr44) AllReadyH.nil)
  case ho44 => (simp only [List.getElem?_toArray, List.getElem?_cons_succ, List.getElem?_cons_zero]; exact rfl)
  case hr44 =>
  go_simp
  refine Calls.mono (size248 _) ?_
  rintro e wn ⟨rfl, hbn⟩
  (try go_wp2_with fail)
  refine hK.out _ _ ?_ (fun hH10 => ?_)
  · exact ⟨⟨bstep hH9.1.1 hbn, HWC.out _ (bstep hH9.1.1 hbn)⟩, bstep hH9.2.1 hbn, CA12.out _ (bstep hH9.2.1 hbn)⟩
  clear hK K hH9 hbn
  (try simp only [Act.put, List.setIfInBounds_toArray, List.set_cons_zero, List.set_cons_succ])
  refine wpAnyH_take (i := 45) (oi := ?oi45) (v := ?v45) ?ho45 (by kernel_rfl) (by kernel_rfl) (by kernel_rfl) ?hp45 ?hy45 hH10 ?hr45
  case ho45 => (simp only [List.getElem?_toArray, List.getElem?_cons_succ, List.getElem?_cons_zero]; exact rfl)
  case hp45 => exact fun _ _ _ h => h
  case hy45 => (refine Or.inl ⟨by rfl, ?_⟩; intro w hSw; (try dsimp only at hSw); go_simp; (try (with_reducible rfl)))
  case hr45 =>
  (try simp only [Act.put, List.setIfInBounds_toArray, List.set_cons_zero, List.set_cons_succ])
  refine wpAnyH_take (i := 46) (oi := ?oi46) (v := ?v46) ?ho46 (by kernel_rfl) (by kernel_rfl) (by kernel_rfl) ?hp46 ?hy46 hH10 ?hr46
  case ho46 => (simp only [List.getElem?_toArray, List.getElem?_cons_succ, List.getElem?_cons_zero]; exact rfl)
  case hp46 => exact fun _ _ _ h => h
  case hy46 => (refine Or.inl ⟨by rfl, ?_⟩; intro w hSw; (try dsimp only at hSw); go_simp; (try (with_reducible rfl)))
  case hr46 =>
  (try simp only [Act.put, List.setIfInBounds_toArray, List.set_cons_zero, List.set_cons_succ])
  refine wpAnyH_take (i := 47) (oi := ?oi47) (v := ?v47) ?ho47 (by kernel_rfl) (by kernel_rfl) (by kernel_rfl) ?hp47 ?hy47 hH10 ?hr47
  case ho47 => (simp only [List.getElem?_toArray, List.getElem?_cons_succ, List.getElem?_cons_zero]; exact rfl)
  case hp47 => exact fun _ _ _ h => h
  case hy47 => (refine Or.inl ⟨by rfl, ?_⟩; intro w hSw; (try dsimp only at hSw); go_simp; (try (with_reducible rfl)))
  case hr47 =>
  (try simp only [Act.put, List.setIfInBounds_toArray, List.set_cons_zero, List.set_cons_succ])
  refine wpAnyH_ready (rs := [48]) (by kernel_rfl) (by simp) (AllReadyH.cons (o := ?oi48) ?ho48 (fun K hK => ?hr48) AllReadyH.nil)
  case ho48 => (simp only [List.getElem?_toArray, List.getElem?_cons_succ, List.getElem?_cons_zero]; exact rfl)
  case hr48 =>
  go_simp
  refine Calls.mono (unf3 _) ?_
  rintro e wn ⟨rfl, hbn⟩
  (try go_wp2_with fail)
  refine hK.out _ _ ?_ (fun hH11 => ?_)
  · exact ⟨⟨bstep hH10.1.1 hbn, HWC.out _ (bstep hH10.1.1 hbn)⟩, bstep hH10.2.1 hbn, CA12.out _ (bstep hH10.2.1 hbn)⟩
  clear hK K hH10 hbn
  (try simp only [Act.put, List.setIfInBounds_toArray, List.set_cons_zero, List.set_cons_succ])
  refine wpAnyH_take (i := 49) (oi := ?oi49) (v := ?v49) ?ho49 (by kernel_rfl) (by kernel_rfl) (by kernel_rfl) ?hp49 ?hy49 hH11 ?hr49
  case ho49 => (simp only [List.getElem?_toArray, List.getElem?_cons_succ, List.getElem?_cons_zero]; exact rfl)
  case hp49 => exact fun _ _ _ h => h
  case hy49 => (refine Or.inl ⟨by rfl, ?_⟩; intro w hSw; (try dsimp only at hSw); go_simp; (try (with_reducible rfl)))
  case hr49 =>
  (try simp only [Act.put, List.setIfInBounds_toArray, List.set_cons_zero, List.set_cons_succ])
  refine wpAnyH_take (i := 50) (oi := ?oi50) (v := ?v50) ?ho50 (by kernel_rfl) (by kernel_rfl) (by kernel_rfl) ?hp50 ?hy50 hH11 ?hr50
  case ho50 => (simp only [List.getElem?_toArray, List.getElem?_cons_succ, List.getElem?_cons_zero]; exact rfl)
  case hp50 => exact fun _ _ _ h => h
  case hy50 => (refine Or.inl ⟨by rfl, ?_⟩; intro w hSw; (try dsimp only at hSw); go_simp; (try (with_reducible rfl)))
  case hr50 =>
  (try simp only [Act.put, List.setIfInBounds_toArray, List.set_cons_zero, List.set_cons_succ])
  refine wpAnyH_take (i := 51) (oi := ?oi51) (v := ?v51) ?ho51 (by kernel_rfl) (by kernel_rfl) (by kernel_rfl) ?hp51 ?hy51 hH11 ?hr51
  case ho51 => (simp only [List.getElem?_toArray, List.getElem?_cons_succ, List.getElem?_cons_zero]; exact rfl)
  case hp51 => exact fun _ _ _ h => h
  case hy51 => (refine Or.inl ⟨by rfl, ?_⟩; intro w hSw; (try dsimp only at hSw); go_simp; (try (with_reducible rfl)))
  case hr51 =>
  (try simp only [Act.put, List.setIfInBounds_toArray, List.set_cons_zero, List.set_cons_succ])
  refine wpAnyH_done (by kernel_rfl) ?_ _
  have HLO := hide (HRA.out.below hH11.1.1).low
  go_wp2
  go_ret
  exact ⟨rfl, HLO.out⟩
end Go.Proofs.Ytajkgecegefnmaa
