import Derived.Test.YtajkgecegefnmaaV1
namespace Go.Proofs.Ytajkgecegefnmaa
open Go.ChangeShapes Go.WideShapes Go.ChangeAt Go.RowKit Go.Deep
set_option linter.unusedSimpArgs false
set_option linter.unusedVariables false

set_option maxRecDepth 100000 in
set_option maxHeartbeats 2000000 in
theorem dNum_cut (h cap : Nat) (ao : Option Addr) (ns : List Nat) (a : Nat) (w : World) (hD : DObj w h ao cap ns a) (hn : a < ns.length) (hs : 247 < ns.getD a 0) (hc : ns.length < a + 1 + (ns.getD a 0 - 247)) : Calls Try.prog 22 #[.pointer (some ⟨h, 0, none⟩)] w (fun e w' => e = .returned (.tuple #[.int .u64 (((0, 110, a) : Nat × Nat × Nat).1 : Int), .int .i64 (((0, 110, a) : Nat × Nat × Nat).2.1 : Int)]) ∧ Only h w w' ∧ DObj w' h ao cap ns ((0, 110, a) : Nat × Nat × Nat).2.2) := by
  have hD' := hide hD
  obtain ⟨d1, d2, d3, d4, d5, d6, d7, d8⟩ := hD
  have D4 := hide d4
  have D5 := hide d5
  clear d4 d5
  obtain ⟨b, off, hao, hb, hbh, hbc⟩ := D4.out (by rintro rfl; simp at hn)
  subst hao
  have HBC := hide hbc
  have hx : ¬ ((ns.length : Int) - (a : Int) < 1) := by omega
  have hf256 := getD_lt D5.out a
  have fa : w.cell? ⟨b, off + a, none⟩ = some (.int .u8 (ns.getD a 0 : Int)) := hbc a hn
  clear hbc
  generalize hfe : ns.getD a 0 = f at *
  have HFE := hide hfe
  clear hfe
  have hq : (ns.length : Int) - (a : Int) < 1 + ((f - 247 : Nat) : Int) := by omega
  have hf1 : ¬ (f : Int) ≤ 247 := by omega
  have hf3 : (f : Int) - 247 = ((f - 247 : Nat) : Int) := by omega
  have HF3 := hide hf3
  clear hf3
  go_enter Try.func22, Try.ntmps22
  go_wp2_with fail
  refine (dLeft_c h cap _ ns a _ hD'.out).mono ?_
  rintro e w1 ⟨rfl, hb1⟩
  have HD1 := hide (hD'.out.below hb1)
  have HB1 := hide hb1
  clear hb1
  obtain ⟨e1, e2, e3, _, _, _, _, _⟩ := HD1.out
  have fa1 : w1.cell? ⟨b, off + a, none⟩ = some (.int .u8 (f : Int)) := (HB1.out.cell (p := ⟨b, off + a, none⟩) hb).trans fa
  clear d2 d3 fa
  go_wp2
  go_quiet (fail)
  have hb1d : Below w.heap.size w (w1.drewN nq) := bdrewN HB1.out nq
  have HD1d := hide (HD1.out.below (bdrewN (Below.refl w1.heap.size w1) nq))
  have HB1d := hide hb1d
  clear hb1d
  go_wp2_with fail
  rw [HF3.out]
  refine (dLeft_c h cap _ ns a _ HD1d.out).mono ?_
  rintro e w2 ⟨rfl, hb2⟩
  have HB2 := hide (bstep HB1d.out hb2)
  have HD2 := hide (HD1d.out.below hb2)
  clear hb2 HB1d HD1d HD1 HB1 e1 e2 e3 fa1
  go_wp2
  go_ret2
  exact ⟨rfl, Only.of_below HB2.out, HD2.out⟩

set_option maxRecDepth 100000 in
set_option maxHeartbeats 4000000 in
theorem dNum_ok (h cap : Nat) (ao : Option Addr) (ns : List Nat) (a : Nat) (w : World) (hD : DObj w h ao cap ns a) (hn : a < ns.length) (hs : 247 < ns.getD a 0) (hc : a + 1 + (ns.getD a 0 - 247) ≤ ns.length) (hs2 : (form (num ((ns.drop (a + 1)).take (ns.getD a 0 - 247)))).length = 1 + (ns.getD a 0 - 247)) : Calls Try.prog 22 #[.pointer (some ⟨h, 0, none⟩)] w (fun e w' => e = .returned (.tuple #[.int .u64 (((num ((ns.drop (a + 1)).take (ns.getD a 0 - 247)), 0, a + 1 + (ns.getD a 0 - 247)) : Nat × Nat × Nat).1 : Int), .int .i64 (((num ((ns.drop (a + 1)).take (ns.getD a 0 - 247)), 0, a + 1 + (ns.getD a 0 - 247)) : Nat × Nat × Nat).2.1 : Int)]) ∧ Only h w w' ∧ DObj w' h ao cap ns ((num ((ns.drop (a + 1)).take (ns.getD a 0 - 247)), 0, a + 1 + (ns.getD a 0 - 247)) : Nat × Nat × Nat).2.2) := by
  have HS2 := hide hs2
  clear hs2
  have hD' := hide hD
  obtain ⟨d1, d2, d3, d4, d5, d6, d7, d8⟩ := hD
  have D4 := hide d4
  have D5 := hide d5
  clear d4 d5
  obtain ⟨b, off, hao, hb, hbh, hbc⟩ := D4.out (by rintro rfl; simp at hn)
  subst hao
  have HBC := hide hbc
  have hx : ¬ ((ns.length : Int) - (a : Int) < 1) := by omega
  have hf256 := getD_lt D5.out a
  have fa : w.cell? ⟨b, off + a, none⟩ = some (.int .u8 (ns.getD a 0 : Int)) := hbc a hn
  clear hbc
  generalize hfe : ns.getD a 0 = f at *
  have HFE := hide hfe
  clear hfe
  have hq : ¬ (ns.length : Int) - (a : Int) < 1 + ((f - 247 : Nat) : Int) := by omega
  have hf1 : ¬ (f : Int) ≤ 247 := by omega
  have hf3 : (f : Int) - 247 = ((f - 247 : Nat) : Int) := by omega
  have HF3 := hide hf3
  clear hf3
  go_enter Try.func22, Try.ntmps22
  go_wp2_with fail
  refine (dLeft_c h cap _ ns a _ hD'.out).mono ?_
  rintro e w1 ⟨rfl, hb1⟩
  have HD1 := hide (hD'.out.below hb1)
  have HB1 := hide hb1
  clear hb1
  obtain ⟨e1, e2, e3, _, _, _, _, _⟩ := HD1.out
  have fa1 : w1.cell? ⟨b, off + a, none⟩ = some (.int .u8 (f : Int)) := (HB1.out.cell (p := ⟨b, off + a, none⟩) hb).trans fa
  clear d2 d3 fa
  go_wp2
  go_quiet (fail)
  have hb1d : Below w.heap.size w (w1.drewN nq) := bdrewN HB1.out nq
  have HD1d := hide (HD1.out.below (bdrewN (Below.refl w1.heap.size w1) nq))
  have HB1d := hide hb1d
  clear hb1d
  go_wp2_with fail
  rw [HF3.out]
  refine (dLeft_c h cap _ ns a _ HD1d.out).mono ?_
  rintro e w2 ⟨rfl, hb2⟩
  have HB2 := hide (bstep HB1d.out hb2)
  have HD2 := hide (HD1d.out.below hb2)
  clear hb2 HB1d HD1d HD1 HB1 e1 e2 e3 fa1
  generalize hm : f - 247 = m at *
  have hm8 : m ≤ 8 := by omega
  have hm1 : 1 ≤ m := by omega
  have ham : a + 1 + m ≤ ns.length := by omega
  have hfm : f = 247 + m := by omega
  have HM := hide hm
  clear hm hf1 hq
  obtain ⟨e1, e2, e3, _, _, _, _, e8⟩ := HD2.out
  have BC2 := hide (show ∀ j, j < ns.length → w2.cell? ⟨b, off + j, none⟩ = some (.int .u8 (ns.getD j 0 : Int)) from fun j hj => (HB2.out.cell (p := ⟨b, off + j, none⟩) hb).trans (HBC.out j hj))
  have hb2z : b < w2.heap.size := Nat.lt_of_lt_of_le hb HB2.out.size
  go_wp2_with fail
  go_loopw [6, 7] (fun v6 v7 wr => ∃ j : Nat, j ≤ m ∧ v6 = .int .u64 (num ((ns.drop (a + 1)).take j) : Int) ∧ v7 = .int .i64 ((j : Int) + 1) ∧ Below w2.heap.size w2 wr) (fun _ v7 _ => m + 1 - (intOf v7).toNat)
  case atStart => exact ⟨0, Nat.zero_le _, rfl, rfl, by (focus repeat' (first | (with_reducible exact Below.refl _ _) | (with_reducible assumption) | (with_reducible refine Below.alloc ?_ ?_ _) | (with_reducible refine Below.drew ?_) | (with_reducible refine bdrewN ?_ _) | (with_reducible refine Below.setCell ?_ ?_ _) | (first | (with_reducible exact Nat.le_refl _) | (with_reducible assumption) | omega | (simp; omega) | (simp; done))))⟩
  case round =>
    obtain ⟨j, hj, rfl, rfl, rB⟩ := hrel
    have f1 : ∀ o, wr.cell? ⟨h, o, none⟩ = (#[Value.slice (some ⟨b, off, none⟩) ns.length cap, Value.int .i64 (a : Int)] : Array Value)[o]? := fun o => (rB.cell (p := ⟨h, o, none⟩) e1).trans (e2 o)
    have f2 : ∀ o, wr.frozen? ⟨h, o, none⟩ = false := fun o => (rB.frozen (p := ⟨h, o, none⟩) e1).trans (e3 o)
    have hzr : w2.heap.size ≤ wr.heap.size := rB.size
    have hh : h < wr.heap.size := by omega
    by_cases hlt : j < m
    · have hle : (j : Int) + 1 ≤ (m : Int) := by omega
      have c1 : wr.cell? ⟨b, off + (a + (j + 1)), none⟩ = some (.int .u8 (ns.getD (a + (j + 1)) 0 : Int)) := (rB.cell (p := ⟨b, off + (a + (j + 1)), none⟩) hb2z).trans (BC2.out (a + (j + 1)) (by omega))
      have hy : ns.getD (a + (j + 1)) 0 < 256 := getD_lt D5.out _
      have hnx := hide (show num ((ns.drop (a + 1)).take (j + 1)) = 256 * num ((ns.drop (a + 1)).take j) + ns.getD (a + (j + 1)) 0 from by
        rw [← num_app]
        congr 1
        rw [List.take_add_one]
        congr 1
        rw [show a + (j + 1) = a + 1 + j from by omega]
        simp [List.getD, show a + 1 + j < ns.length by omega])
      have hX : num ((ns.drop (a + 1)).take j) < 72057594037927936 := by
        have q := num_lt j ((ns.drop (a + 1)).take j) (by rw [List.length_take, List.length_drop]; omega) (fun x hx => D5.out x (List.mem_of_mem_drop (List.mem_of_mem_take hx)))
        have p : 256 ^ j ≤ 256 ^ 7 := Nat.pow_le_pow_right (by decide) (by omega)
        have p7 : (256 : Nat) ^ 7 = 72057594037927936 := by decide
        omega
      have hw1 : IntKind.i64.wrap ((a : Int) + ((j : Int) + 1)) = ((a + (j + 1) : Nat) : Int) := by (simp [IntKind.wrap, IntKind.bits, IntKind.signed]; omega)
      have hix : a + (j + 1) < ns.length := by omega
      generalize num ((ns.drop (a + 1)).take j) = X at *
      generalize ns.getD (a + (j + 1)) 0 = y at *
      generalize hk : a + (j + 1) = k at *
      have HK := hide hk
      clear hk
      go_wp2_with fail
      go_quiet (fail)
      go_wp2
      go_roundw
      case rel => exact ⟨j + 1, by omega, by rw [hnx.out]; first | rfl | go_num, by go_num, by (focus repeat' (first | (with_reducible exact Below.refl _ _) | (with_reducible assumption) | (with_reducible refine Below.alloc ?_ ?_ _) | (with_reducible refine Below.drew ?_) | (with_reducible refine bdrewN ?_ _) | (with_reducible refine Below.setCell ?_ ?_ _) | (first | (with_reducible exact Nat.le_refl _) | (with_reducible assumption) | omega | (simp; omega) | (simp; done))))⟩
      case measure => (first | (simp [intOf]; done) | (simp [intOf]; omega))
    · obtain rfl : j = m := by omega
      have hle : ¬ (j : Int) + 1 ≤ (j : Int) := by omega
      obtain ⟨E, hE⟩ : ∃ E, a + 1 + j = E := ⟨_, rfl⟩
      have hw0 : IntKind.i64.wrap ((a : Int) + 1) = (a : Int) + 1 := by (simp [IntKind.wrap, IntKind.bits, IntKind.signed]; omega)
      have hw1 : IntKind.i64.wrap ((a : Int) + 1 + (j : Int)) = (E : Int) := by (simp [IntKind.wrap, IntKind.bits, IntKind.signed]; omega)
      have hw2 : E ≤ cap := by omega
      have hw3 : a ≤ E := by omega
      have hw4 : 1 + j = E - a := by omega
      have hca : ¬ cap = a := by omega
      have hrlen : ((ns.drop a).take (1 + j)).length = 1 + j := by (rw [List.length_take, List.length_drop]; omega)
      have hrow : (ns.drop a).take (1 + j) = f :: (ns.drop (a + 1)).take j := by
        rw [List.drop_eq_getElem_cons hn, Nat.add_comm 1 j, List.take_succ_cons]
        congr 1
        rw [← HFE.out]; simp [List.getD, hn]
      have CVW := hide (show ∀ w', Below wr.heap.size wr w' → Sem.run Try.prog (convert 28 9 (.slice (some ⟨b, off + a, none⟩) (E - a) (cap - a))) w' = .ok (.string (bstr (f :: (ns.drop (a + 1)).take j))) w' from fun w' hb' => by
        have q := conv28 w' b (off + a) (cap - a) ((ns.drop a).take (1 + j)) (fun i hi => by
          rw [hrlen] at hi
          have q := (hb'.cell (p := ⟨b, off + (a + i), none⟩) (show b < wr.heap.size by omega)).trans ((rB.cell (p := ⟨b, off + (a + i), none⟩) hb2z).trans (BC2.out (a + i) (by omega)))
          rw [← Nat.add_assoc] at q
          rw [q]
          simp [List.getD, hi, show a + i < ns.length by omega])
        rw [hrlen, hrow, hw4] at q
        exact q)
      have CV1 := CVW.out wr.drew (drewB _)
      have hH0 : Below wr.heap.size wr wr.drew ∧ (∀ o, wr.drew.cell? ⟨h, o, none⟩ = (#[Value.slice (some ⟨b, off, none⟩) ns.length cap, Value.int .i64 (a : Int)] : Array Value)[o]?) ∧ Sem.run Try.prog (convert 28 9 (.slice (some ⟨b, off + a, none⟩) (E - a) (cap - a))) wr.drew = .ok (.string (bstr (f :: (ns.drop (a + 1)).take j))) wr.drew := ⟨drewB _, fun o => by rw [World.cell?_drew]; exact f1 o, CV1⟩
      have HE := hide hE
      have HW4 := hide hw4
      clear hrow hrlen hE hw4
      have hX64 : num ((ns.drop (a + 1)).take j) < 18446744073709551616 := by
        have q := num_lt j ((ns.drop (a + 1)).take j) (by rw [List.length_take, List.length_drop]; omega) (fun x hx => D5.out x (List.mem_of_mem_drop (List.mem_of_mem_take hx)))
        have p : 256 ^ j ≤ 256 ^ 8 := Nat.pow_le_pow_right (by decide) (by omega)
        have p8 : (256 : Nat) ^ 8 = 18446744073709551616 := by decide
        omega
      have hlt256 : ∀ x ∈ (ns.drop (a + 1)).take j, x < 256 := fun x hx => D5.out x (List.mem_of_mem_drop (List.mem_of_mem_take hx))
      have hEq : ((bstr (form (num ((ns.drop (a + 1)).take j)))).toList == (bstr (f :: (ns.drop (a + 1)).take j)).toList) = true := by
        rw [bstr_list, bstr_list]
        have hcan := form_canon (f := f) (l := (ns.drop (a + 1)).take j) (by omega) (by rw [List.length_take, List.length_drop]; omega) hlt256
        have hs2 := HS2.out
        rw [HM.out] at hcan
        rw [hcan.2 hs2]; simp
      clear hlt256
      generalize hbs : bstr (f :: (ns.drop (a + 1)).take j) = SB at *
      generalize hxx : num ((ns.drop (a + 1)).take j) = X at *
      have HBS := hide hbs
      have HXX := hide hxx
      clear hbs hxx CV1
      go_wp2_with fail
      refine wp_region_held_drew (S := fun wq => Below wr.heap.size wr wq ∧ (∀ o, wq.cell? ⟨h, o, none⟩ = (#[Value.slice (some ⟨b, off, none⟩) ns.length cap, Value.int .i64 (a : Int)] : Array Value)[o]?) ∧ Sem.run Try.prog (convert 28 9 (.slice (some ⟨b, off + a, none⟩) (E - a) (cap - a))) wq = .ok (.string SB) wq) (by kernel_rfl) hH0 (fun _ => ?_)
      refine wpAnyH_take (i := 0) (oi := ?oi0) (v := ?v0) ?ho0 (by kernel_rfl) (by kernel_rfl) (by kernel_rfl) ?hp0 ?hy0 hH0 ?hr0
      case ho0 => (simp only [List.getElem?_toArray, List.getElem?_cons_succ, List.getElem?_cons_zero]; exact rfl)
      case hp0 => exact fun _ _ _ h => h
      case hy0 => (refine Or.inl ⟨by rfl, ?_⟩; intro w hSw; (try dsimp only at hSw); go_simp; (try (with_reducible rfl)))
      case hr0 =>
      (try simp only [Act.put, List.setIfInBounds_toArray, List.set_cons_zero, List.set_cons_succ])
      refine wpAnyH_take (i := 3) (oi := ?oi3) (v := ?v3) ?ho3 (by kernel_rfl) (by kernel_rfl) (by kernel_rfl) ?hp3 ?hy3 hH0 ?hr3
      case ho3 => (simp only [List.getElem?_toArray, List.getElem?_cons_succ, List.getElem?_cons_zero]; exact rfl)
      case hp3 => exact fun _ _ _ h => h
      case hy3 => (refine Or.inl ⟨by rfl, ?_⟩; intro w hSw; (try dsimp only at hSw); go_simp; (try (with_reducible rfl)))
      case hr3 =>
      (try simp only [Act.put, List.setIfInBounds_toArray, List.set_cons_zero, List.set_cons_succ])
      refine wpAnyH_take (i := 4) (oi := ?oi4) (v := ?v4) ?ho4 (by kernel_rfl) (by kernel_rfl) (by kernel_rfl) ?hp4 ?hy4 hH0 ?hr4
      case ho4 => (simp only [List.getElem?_toArray, List.getElem?_cons_succ, List.getElem?_cons_zero]; exact rfl)
      case hp4 => exact fun _ _ _ h => h
      case hy4 => (refine Or.inl ⟨by rfl, ?_⟩; intro w hSw; (try dsimp only at hSw); go_simp; (try (with_reducible rfl)))
      case hr4 =>
      (try simp only [Act.put, List.setIfInBounds_toArray, List.set_cons_zero, List.set_cons_succ])
      refine wpAnyH_take (i := 5) (oi := ?oi5) (v := ?v5) ?ho5 (by kernel_rfl) (by kernel_rfl) (by kernel_rfl) ?hp5 ?hy5 hH0 ?hr5
      case ho5 => (simp only [List.getElem?_toArray, List.getElem?_cons_succ, List.getElem?_cons_zero]; exact rfl)
      case hp5 => exact fun _ _ _ h => h
      case hy5 => (refine Or.inl ⟨by rfl, ?_⟩; intro w hSw; (try dsimp only at hSw); go_simp; (try (with_reducible rfl)))
      case hr5 =>
      (try simp only [Act.put, List.setIfInBounds_toArray, List.set_cons_zero, List.set_cons_succ])
      refine wpAnyH_take (i := 6) (oi := ?oi6) (v := ?v6) ?ho6 (by kernel_rfl) (by kernel_rfl) (by kernel_rfl) ?hp6 ?hy6 hH0 ?hr6
      case ho6 => (simp only [List.getElem?_toArray, List.getElem?_cons_succ, List.getElem?_cons_zero]; exact rfl)
      case hp6 => exact fun _ _ _ h => h
      case hy6 => (refine Or.inl ⟨by rfl, ?_⟩; intro w hSw; (try dsimp only at hSw); go_simp; (try (with_reducible rfl)))
      case hr6 =>
      (try simp only [Act.put, List.setIfInBounds_toArray, List.set_cons_zero, List.set_cons_succ])
      refine wpAnyH_take (i := 7) (oi := ?oi7) (v := ?v7) ?ho7 (by kernel_rfl) (by kernel_rfl) (by kernel_rfl) ?hp7 ?hy7 hH0 ?hr7
      case ho7 => (simp only [List.getElem?_toArray, List.getElem?_cons_succ, List.getElem?_cons_zero]; exact rfl)
      case hp7 => exact fun _ _ _ h => h
      case hy7 => (refine Or.inl ⟨by rfl, ?_⟩; intro w hSw; (try dsimp only at hSw); go_simp; (try (with_reducible rfl)))
      case hr7 =>
      (try simp only [Act.put, List.setIfInBounds_toArray, List.set_cons_zero, List.set_cons_succ])
      refine wpAnyH_take (i := 8) (oi := ?oi8) (v := ?v8) ?ho8 (by kernel_rfl) (by kernel_rfl) (by kernel_rfl) ?hp8 ?hy8 hH0 ?hr8
      case ho8 => (simp only [List.getElem?_toArray, List.getElem?_cons_succ, List.getElem?_cons_zero]; exact rfl)
      case hp8 => exact fun _ _ _ h => h
      case hy8 => (refine Or.inl ⟨by rfl, ?_⟩; intro w hSw; (try dsimp only at hSw); go_simp; (try (with_reducible rfl)))
      case hr8 =>
      (try simp only [Act.put, List.setIfInBounds_toArray, List.set_cons_zero, List.set_cons_succ])
      refine wpAnyH_take (i := 9) (oi := ?oi9) (v := ?v9) ?ho9 (by kernel_rfl) (by kernel_rfl) (by kernel_rfl) ?hp9 ?hy9 hH0 ?hr9
      case ho9 => (simp only [List.getElem?_toArray, List.getElem?_cons_succ, List.getElem?_cons_zero]; exact rfl)
      case hp9 => exact fun _ _ _ h => h
      case hy9 => (refine Or.inl ⟨by rfl, ?_⟩; intro w hSw; (try dsimp only at hSw); go_simp; (try (with_reducible rfl)))
      case hr9 =>
      (try simp only [Act.put, List.setIfInBounds_toArray, List.set_cons_zero, List.set_cons_succ])
      refine wpAnyH_take (i := 10) (oi := ?oi10) (v := ?v10) ?ho10 (by kernel_rfl) (by kernel_rfl) (by kernel_rfl) ?hp10 ?hy10 hH0 ?hr10
      case ho10 => (simp only [List.getElem?_toArray, List.getElem?_cons_succ, List.getElem?_cons_zero]; exact rfl)
      case hp10 => exact fun _ _ _ h => h
      case hy10 => (refine Or.inl ⟨by rfl, ?_⟩; intro w hSw; (try dsimp only at hSw); go_simp; (try (with_reducible rfl)))
      case hr10 =>
      (try simp only [Act.put, List.setIfInBounds_toArray, List.set_cons_zero, List.set_cons_succ])
      refine wpAnyH_take (i := 11) (oi := ?oi11) (v := ?v11) ?ho11 (by kernel_rfl) (by kernel_rfl) (by kernel_rfl) ?hp11 ?hy11 hH0 ?hr11
      case ho11 => (simp only [List.getElem?_toArray, List.getElem?_cons_succ, List.getElem?_cons_zero]; exact rfl)
      case hp11 => exact fun _ _ _ h => h
      case hy11 => (refine Or.inl ⟨by rfl, ?_⟩; intro w hSw; (try dsimp only at hSw); go_simp; (try (with_reducible rfl)))
      case hr11 =>
      (try simp only [Act.put, List.setIfInBounds_toArray, List.set_cons_zero, List.set_cons_succ])
      refine wpAnyH_take (i := 12) (oi := ?oi12) (v := ?v12) ?ho12 (by kernel_rfl) (by kernel_rfl) (by kernel_rfl) ?hp12 ?hy12 hH0 ?hr12
      case ho12 => (simp only [List.getElem?_toArray, List.getElem?_cons_succ, List.getElem?_cons_zero]; exact rfl)
      case hp12 => exact fun _ _ _ h => h
      case hy12 => (refine Or.inl ⟨by rfl, ?_⟩; intro w hSw; (try dsimp only at hSw); go_simp; (try (with_reducible rfl)))
      case hr12 =>
      (try simp only [Act.put, List.setIfInBounds_toArray, List.set_cons_zero, List.set_cons_succ])
      refine wpAnyH_take (i := 13) (oi := ?oi13) (v := ?v13) ?ho13 (by kernel_rfl) (by kernel_rfl) (by kernel_rfl) ?hp13 ?hy13 hH0 ?hr13
      case ho13 => (simp only [List.getElem?_toArray, List.getElem?_cons_succ, List.getElem?_cons_zero]; exact rfl)
      case hp13 => exact fun _ _ _ h => h
      case hy13 => (refine Or.inl ⟨by rfl, ?_⟩; intro w hSw; (try dsimp only at hSw); go_simp; (try (with_reducible rfl)))
      case hr13 =>
      (try simp only [Act.put, List.setIfInBounds_toArray, List.set_cons_zero, List.set_cons_succ])
      refine wpAnyH_take (i := 14) (oi := ?oi14) (v := ?v14) ?ho14 (by kernel_rfl) (by kernel_rfl) (by kernel_rfl) ?hp14 ?hy14 hH0 ?hr14
      case ho14 => (simp only [List.getElem?_toArray, List.getElem?_cons_succ, List.getElem?_cons_zero]; exact rfl)
      case hp14 => exact fun _ _ _ h => h
      case hy14 => (refine Or.inl ⟨by rfl, ?_⟩; intro w hSw; (try dsimp only at hSw); go_simp; (try (with_reducible rfl)))
      case hr14 =>
      (try simp only [Act.put, List.setIfInBounds_toArray, List.set_cons_zero, List.set_cons_succ])
      refine wpAnyH_take (i := 15) (oi := ?oi15) (v := ?v15) ?ho15 (by kernel_rfl) (by kernel_rfl) (by kernel_rfl) ?hp15 ?hy15 hH0 ?hr15
      case ho15 => (simp only [List.getElem?_toArray, List.getElem?_cons_succ, List.getElem?_cons_zero]; exact rfl)
      case hp15 => exact fun _ _ _ h => h
      case hy15 => (refine Or.inl ⟨by rfl, ?_⟩; intro w hSw; (try dsimp only at hSw); go_simp; (try (with_reducible rfl)))
      case hr15 =>
      (try simp only [Act.put, List.setIfInBounds_toArray, List.set_cons_zero, List.set_cons_succ])
      refine wpAnyH_take (i := 16) (oi := ?oi16) (v := ?v16) ?ho16 (by kernel_rfl) (by kernel_rfl) (by kernel_rfl) ?hp16 ?hy16 hH0 ?hr16
      case ho16 => (simp only [List.getElem?_toArray, List.getElem?_cons_succ, List.getElem?_cons_zero]; exact rfl)
      case hp16 => exact fun _ _ _ h => h
      case hy16 => (refine Or.inl ⟨by rfl, ?_⟩; intro w hSw; (try dsimp only at hSw); go_simp; (try (with_reducible rfl)))
      case hr16 =>
      (try simp only [Act.put, List.setIfInBounds_toArray, List.set_cons_zero, List.set_cons_succ])
      refine wpAnyH_take (i := 17) (oi := ?oi17) (v := ?v17) ?ho17 (by kernel_rfl) (by kernel_rfl) (by kernel_rfl) ?hp17 ?hy17 hH0 ?hr17
      case ho17 => (simp only [List.getElem?_toArray, List.getElem?_cons_succ, List.getElem?_cons_zero]; exact rfl)
      case hp17 => exact fun _ _ _ h => h
      case hy17 => (refine Or.inl ⟨by rfl, ?_⟩; intro w hSw; (try dsimp only at hSw); go_simp; (try (with_reducible rfl)))
      case hr17 =>
      (try simp only [Act.put, List.setIfInBounds_toArray, List.set_cons_zero, List.set_cons_succ])
      refine wpAnyH_take (i := 18) (oi := ?oi18) (v := ?v18) ?ho18 (by kernel_rfl) (by kernel_rfl) (by kernel_rfl) ?hp18 ?hy18 hH0 ?hr18
      case ho18 => (simp only [List.getElem?_toArray, List.getElem?_cons_succ, List.getElem?_cons_zero]; exact rfl)
      case hp18 => exact fun _ _ _ h => h
      case hy18 => (refine Or.inl ⟨by rfl, ?_⟩; intro w hSw; (try dsimp only at hSw); go_simp; (try (with_reducible rfl)))
      case hr18 =>
      (try simp only [Act.put, List.setIfInBounds_toArray, List.set_cons_zero, List.set_cons_succ])
      refine wpAnyH_take (i := 19) (oi := ?oi19) (v := ?v19) ?ho19 (by kernel_rfl) (by kernel_rfl) (by kernel_rfl) ?hp19 ?hy19 hH0 ?hr19
      case ho19 => (simp only [List.getElem?_toArray, List.getElem?_cons_succ, List.getElem?_cons_zero]; exact rfl)
      case hp19 => exact fun _ _ _ h => h
      case hy19 => (refine Or.inl ⟨by rfl, ?_⟩; intro w hSw; (try dsimp only at hSw); go_simp; (try (with_reducible rfl)))
      case hr19 =>
      (try simp only [Act.put, List.setIfInBounds_toArray, List.set_cons_zero, List.set_cons_succ])
      refine wpAnyH_ready (rs := [1]) (by kernel_rfl) (by simp) (AllReadyH.cons (o := ?oi1) ?ho1 (fun K hK => ?hr1) AllReadyH.nil)
      case ho1 => (simp only [List.getElem?_toArray, List.getElem?_cons_succ, List.getElem?_cons_zero]; exact rfl)
      case hr1 =>
      go_simp
      refine Calls.mono (refNum_c X _ hX64) ?_
      rintro e w5 ⟨g5, cap5, rfl, own5, hb5⟩
      have HB5 : Below wr.heap.size wr w5 := bstep (drewB _) hb5
      have CA5 := hide (fun (w' : World) (hb : Below w5.heap.size w5 w') => conv28 w' g5 0 cap5 (form X) (own_conv (own_same own5 (fun k _ hlt => hb.block k hlt)) (form_pos X)))
      (try go_wp2_with fail)
      refine hK.out _ _ ?_ (fun hH1 => ?_)
      · exact ⟨HB5, fun o => (HB5.cell (p := ⟨h, o, none⟩) hh).trans (f1 o), CVW.out _ HB5⟩
      clear hK K own5 hb5 hH0
      (try simp only [Act.put, List.setIfInBounds_toArray, List.set_cons_zero, List.set_cons_succ])
      refine wpAnyH_mono (S2 := fun wq => (Below wr.heap.size wr wq ∧ (∀ o, wq.cell? ⟨h, o, none⟩ = (#[Value.slice (some ⟨b, off, none⟩) ns.length cap, Value.int .i64 (a : Int)] : Array Value)[o]?) ∧ Sem.run Try.prog (convert 28 9 (.slice (some ⟨b, off + a, none⟩) (E - a) (cap - a))) wq = .ok (.string SB) wq) ∧ Sem.run Try.prog (convert 28 9 (.slice (some ⟨g5, 0, none⟩) (form X).length cap5)) wq = .ok (.string (bstr (form X))) wq) (fun w h => h.1) _ _ _ _ ?_
      have hH2 := And.intro hH1 (CA5.out _ (Below.refl _ _))
      refine wpAnyH_take (i := 2) (oi := ?oi2) (v := ?v2) ?ho2 (by kernel_rfl) (by kernel_rfl) (by kernel_rfl) ?hp2 ?hy2 hH2 ?hr2
      case ho2 => (simp only [List.getElem?_toArray, List.getElem?_cons_succ, List.getElem?_cons_zero]; exact rfl)
      case hp2 => exact fun _ _ _ h => h
      case hy2 => (refine Or.inl ⟨by rfl, ?_⟩; intro w hSw; (try dsimp only at hSw); go_simp; (try (with_reducible rfl)))
      case hr2 =>
      (try simp only [Act.put, List.setIfInBounds_toArray, List.set_cons_zero, List.set_cons_succ])
      refine wpAnyH_take (i := 20) (oi := ?oi20) (v := ?v20) ?ho20 (by kernel_rfl) (by kernel_rfl) (by kernel_rfl) ?hp20 ?hy20 hH2 ?hr20
      case ho20 => (simp only [List.getElem?_toArray, List.getElem?_cons_succ, List.getElem?_cons_zero]; exact rfl)
      case hp20 => exact fun _ _ _ h => h
      case hy20 => (refine Or.inl ⟨by rfl, ?_⟩; intro w hSw; (try dsimp only at hSw); go_simp; (try (with_reducible rfl)))
      case hr20 =>
      (try simp only [Act.put, List.setIfInBounds_toArray, List.set_cons_zero, List.set_cons_succ])
      refine wpAnyH_done (by kernel_rfl) ?_ _
      have hD5 := HD2.out.below (rB.trans (HB5.mono hzr))
      have HD5 := hide hD5
      have HB6 := hide (bstep (bstep HB2.out rB) HB5)
      obtain ⟨k1, k2, k3, _, _, _, _, _⟩ := hD5
      clear f1 f2 hH1 hH2 e1 e2 e3 rB HB5
      go_wp2
      go_ret2
      refine ⟨?_, (Only.of_below HB6.out).set 1 _, ?_⟩
      · rw [HM.out, HXX.out]; rfl
      · rw [HM.out, HE.out]; exact HD5.out.move (by have := HE.out; omega)

set_option maxRecDepth 100000 in
set_option maxHeartbeats 4000000 in
theorem dNum_form (h cap : Nat) (ao : Option Addr) (ns : List Nat) (a : Nat) (w : World) (hD : DObj w h ao cap ns a) (hn : a < ns.length) (hs : 247 < ns.getD a 0) (hc : a + 1 + (ns.getD a 0 - 247) ≤ ns.length) (hs2 : (form (num ((ns.drop (a + 1)).take (ns.getD a 0 - 247)))).length ≠ 1 + (ns.getD a 0 - 247)) : Calls Try.prog 22 #[.pointer (some ⟨h, 0, none⟩)] w (fun e w' => e = .returned (.tuple #[.int .u64 (((0, 111, a) : Nat × Nat × Nat).1 : Int), .int .i64 (((0, 111, a) : Nat × Nat × Nat).2.1 : Int)]) ∧ Only h w w' ∧ DObj w' h ao cap ns ((0, 111, a) : Nat × Nat × Nat).2.2) := by
  have HS2 := hide hs2
  clear hs2
  have hD' := hide hD
  obtain ⟨d1, d2, d3, d4, d5, d6, d7, d8⟩ := hD
  have D4 := hide d4
  have D5 := hide d5
  clear d4 d5
  obtain ⟨b, off, hao, hb, hbh, hbc⟩ := D4.out (by rintro rfl; simp at hn)
  subst hao
  have HBC := hide hbc
  have hx : ¬ ((ns.length : Int) - (a : Int) < 1) := by omega
  have hf256 := getD_lt D5.out a
  have fa : w.cell? ⟨b, off + a, none⟩ = some (.int .u8 (ns.getD a 0 : Int)) := hbc a hn
  clear hbc
  generalize hfe : ns.getD a 0 = f at *
  have HFE := hide hfe
  clear hfe
  have hq : ¬ (ns.length : Int) - (a : Int) < 1 + ((f - 247 : Nat) : Int) := by omega
  have hf1 : ¬ (f : Int) ≤ 247 := by omega
  have hf3 : (f : Int) - 247 = ((f - 247 : Nat) : Int) := by omega
  have HF3 := hide hf3
  clear hf3
  go_enter Try.func22, Try.ntmps22
  go_wp2_with fail
  refine (dLeft_c h cap _ ns a _ hD'.out).mono ?_
  rintro e w1 ⟨rfl, hb1⟩
  have HD1 := hide (hD'.out.below hb1)
  have HB1 := hide hb1
  clear hb1
  obtain ⟨e1, e2, e3, _, _, _, _, _⟩ := HD1.out
  have fa1 : w1.cell? ⟨b, off + a, none⟩ = some (.int .u8 (f : Int)) := (HB1.out.cell (p := ⟨b, off + a, none⟩) hb).trans fa
  clear d2 d3 fa
  go_wp2
  go_quiet (fail)
  have hb1d : Below w.heap.size w (w1.drewN nq) := bdrewN HB1.out nq
  have HD1d := hide (HD1.out.below (bdrewN (Below.refl w1.heap.size w1) nq))
  have HB1d := hide hb1d
  clear hb1d
  go_wp2_with fail
  rw [HF3.out]
  refine (dLeft_c h cap _ ns a _ HD1d.out).mono ?_
  rintro e w2 ⟨rfl, hb2⟩
  have HB2 := hide (bstep HB1d.out hb2)
  have HD2 := hide (HD1d.out.below hb2)
  clear hb2 HB1d HD1d HD1 HB1 e1 e2 e3 fa1
  generalize hm : f - 247 = m at *
  have hm8 : m ≤ 8 := by omega
  have hm1 : 1 ≤ m := by omega
  have ham : a + 1 + m ≤ ns.length := by omega
  have hfm : f = 247 + m := by omega
  have HM := hide hm
  clear hm hf1 hq
  obtain ⟨e1, e2, e3, _, _, _, _, e8⟩ := HD2.out
  have BC2 := hide (show ∀ j, j < ns.length → w2.cell? ⟨b, off + j, none⟩ = some (.int .u8 (ns.getD j 0 : Int)) from fun j hj => (HB2.out.cell (p := ⟨b, off + j, none⟩) hb).trans (HBC.out j hj))
  have hb2z : b < w2.heap.size := Nat.lt_of_lt_of_le hb HB2.out.size
  go_wp2_with fail
  go_loopw [6, 7] (fun v6 v7 wr => ∃ j : Nat, j ≤ m ∧ v6 = .int .u64 (num ((ns.drop (a + 1)).take j) : Int) ∧ v7 = .int .i64 ((j : Int) + 1) ∧ Below w2.heap.size w2 wr) (fun _ v7 _ => m + 1 - (intOf v7).toNat)
  case atStart => exact ⟨0, Nat.zero_le _, rfl, rfl, by (focus repeat' (first | (with_reducible exact Below.refl _ _) | (with_reducible assumption) | (with_reducible refine Below.alloc ?_ ?_ _) | (with_reducible refine Below.drew ?_) | (with_reducible refine bdrewN ?_ _) | (with_reducible refine Below.setCell ?_ ?_ _) | (first | (with_reducible exact Nat.le_refl _) | (with_reducible assumption) | omega | (simp; omega) | (simp; done))))⟩
  case round =>
    obtain ⟨j, hj, rfl, rfl, rB⟩ := hrel
    have f1 : ∀ o, wr.cell? ⟨h, o, none⟩ = (#[Value.slice (some ⟨b, off, none⟩) ns.length cap, Value.int .i64 (a : Int)] : Array Value)[o]? := fun o => (rB.cell (p := ⟨h, o, none⟩) e1).trans (e2 o)
    have f2 : ∀ o, wr.frozen? ⟨h, o, none⟩ = false := fun o => (rB.frozen (p := ⟨h, o, none⟩) e1).trans (e3 o)
    have hzr : w2.heap.size ≤ wr.heap.size := rB.size
    have hh : h < wr.heap.size := by omega
    by_cases hlt : j < m
    · have hle : (j : Int) + 1 ≤ (m : Int) := by omega
      have c1 : wr.cell? ⟨b, off + (a + (j + 1)), none⟩ = some (.int .u8 (ns.getD (a + (j + 1)) 0 : Int)) := (rB.cell (p := ⟨b, off + (a + (j + 1)), none⟩) hb2z).trans (BC2.out (a + (j + 1)) (by omega))
      have hy : ns.getD (a + (j + 1)) 0 < 256 := getD_lt D5.out _
      have hnx := hide (show num ((ns.drop (a + 1)).take (j + 1)) = 256 * num ((ns.drop (a + 1)).take j) + ns.getD (a + (j + 1)) 0 from by
        rw [← num_app]
        congr 1
        rw [List.take_add_one]
        congr 1
        rw [show a + (j + 1) = a + 1 + j from by omega]
        simp [List.getD, show a + 1 + j < ns.length by omega])
      have hX : num ((ns.drop (a + 1)).take j) < 72057594037927936 := by
        have q := num_lt j ((ns.drop (a + 1)).take j) (by rw [List.length_take, List.length_drop]; omega) (fun x hx => D5.out x (List.mem_of_mem_drop (List.mem_of_mem_take hx)))
        have p : 256 ^ j ≤ 256 ^ 7 := Nat.pow_le_pow_right (by decide) (by omega)
        have p7 : (256 : Nat) ^ 7 = 72057594037927936 := by decide
        omega
      have hw1 : IntKind.i64.wrap ((a : Int) + ((j : Int) + 1)) = ((a + (j + 1) : Nat) : Int) := by (simp [IntKind.wrap, IntKind.bits, IntKind.signed]; omega)
      have hix : a + (j + 1) < ns.length := by omega
      generalize num ((ns.drop (a + 1)).take j) = X at *
      generalize ns.getD (a + (j + 1)) 0 = y at *
      generalize hk : a + (j + 1) = k at *
      have HK := hide hk
      clear hk
      go_wp2_with fail
      go_quiet (fail)
      go_wp2
      go_roundw
      case rel => exact ⟨j + 1, by omega, by rw [hnx.out]; first | rfl | go_num, by go_num, by (focus repeat' (first | (with_reducible exact Below.refl _ _) | (with_reducible assumption) | (with_reducible refine Below.alloc ?_ ?_ _) | (with_reducible refine Below.drew ?_) | (with_reducible refine bdrewN ?_ _) | (with_reducible refine Below.setCell ?_ ?_ _) | (first | (with_reducible exact Nat.le_refl _) | (with_reducible assumption) | omega | (simp; omega) | (simp; done))))⟩
      case measure => (first | (simp [intOf]; done) | (simp [intOf]; omega))
    · obtain rfl : j = m := by omega
      have hle : ¬ (j : Int) + 1 ≤ (j : Int) := by omega
      obtain ⟨E, hE⟩ : ∃ E, a + 1 + j = E := ⟨_, rfl⟩
      have hw0 : IntKind.i64.wrap ((a : Int) + 1) = (a : Int) + 1 := by (simp [IntKind.wrap, IntKind.bits, IntKind.signed]; omega)
      have hw1 : IntKind.i64.wrap ((a : Int) + 1 + (j : Int)) = (E : Int) := by (simp [IntKind.wrap, IntKind.bits, IntKind.signed]; omega)
      have hw2 : E ≤ cap := by omega
      have hw3 : a ≤ E := by omega
      have hw4 : 1 + j = E - a := by omega
      have hca : ¬ cap = a := by omega
      have hrlen : ((ns.drop a).take (1 + j)).length = 1 + j := by (rw [List.length_take, List.length_drop]; omega)
      have hrow : (ns.drop a).take (1 + j) = f :: (ns.drop (a + 1)).take j := by
        rw [List.drop_eq_getElem_cons hn, Nat.add_comm 1 j, List.take_succ_cons]
        congr 1
        rw [← HFE.out]; simp [List.getD, hn]
      have CVW := hide (show ∀ w', Below wr.heap.size wr w' → Sem.run Try.prog (convert 28 9 (.slice (some ⟨b, off + a, none⟩) (E - a) (cap - a))) w' = .ok (.string (bstr (f :: (ns.drop (a + 1)).take j))) w' from fun w' hb' => by
        have q := conv28 w' b (off + a) (cap - a) ((ns.drop a).take (1 + j)) (fun i hi => by
          rw [hrlen] at hi
          have q := (hb'.cell (p := ⟨b, off + (a + i), none⟩) (show b < wr.heap.size by omega)).trans ((rB.cell (p := ⟨b, off + (a + i), none⟩) hb2z).trans (BC2.out (a + i) (by omega)))
          rw [← Nat.add_assoc] at q
          rw [q]
          simp [List.getD, hi, show a + i < ns.length by omega])
        rw [hrlen, hrow, hw4] at q
        exact q)
      have CV1 := CVW.out wr.drew (drewB _)
      have hH0 : Below wr.heap.size wr wr.drew ∧ (∀ o, wr.drew.cell? ⟨h, o, none⟩ = (#[Value.slice (some ⟨b, off, none⟩) ns.length cap, Value.int .i64 (a : Int)] : Array Value)[o]?) ∧ Sem.run Try.prog (convert 28 9 (.slice (some ⟨b, off + a, none⟩) (E - a) (cap - a))) wr.drew = .ok (.string (bstr (f :: (ns.drop (a + 1)).take j))) wr.drew := ⟨drewB _, fun o => by rw [World.cell?_drew]; exact f1 o, CV1⟩
      have HE := hide hE
      have HW4 := hide hw4
      clear hrow hrlen hE hw4
      have hX64 : num ((ns.drop (a + 1)).take j) < 18446744073709551616 := by
        have q := num_lt j ((ns.drop (a + 1)).take j) (by rw [List.length_take, List.length_drop]; omega) (fun x hx => D5.out x (List.mem_of_mem_drop (List.mem_of_mem_take hx)))
        have p : 256 ^ j ≤ 256 ^ 8 := Nat.pow_le_pow_right (by decide) (by omega)
        have p8 : (256 : Nat) ^ 8 = 18446744073709551616 := by decide
        omega
      have hlt256 : ∀ x ∈ (ns.drop (a + 1)).take j, x < 256 := fun x hx => D5.out x (List.mem_of_mem_drop (List.mem_of_mem_take hx))
      have hEq : ((bstr (form (num ((ns.drop (a + 1)).take j)))).toList == (bstr (f :: (ns.drop (a + 1)).take j)).toList) = false := by
        rw [bstr_list, bstr_list]
        have hcan := form_canon (f := f) (l := (ns.drop (a + 1)).take j) (by omega) (by rw [List.length_take, List.length_drop]; omega) hlt256
        have hs2 := HS2.out
        rw [HM.out] at hcan
        have q : u8s (form (num ((ns.drop (a + 1)).take j))) ≠ u8s (f :: (ns.drop (a + 1)).take j) := fun e => hs2 (hcan.1 (u8s_inj _ _ (form_lt hX64) (by intro x hx; rcases List.mem_cons.1 hx with rfl | hx; exact hf256; exact hlt256 x hx) e))
        simp [q]
      clear hlt256
      generalize hbs : bstr (f :: (ns.drop (a + 1)).take j) = SB at *
      generalize hxx : num ((ns.drop (a + 1)).take j) = X at *
      have HBS := hide hbs
      have HXX := hide hxx
      clear hbs hxx CV1
      go_wp2_with fail
      refine wp_region_held_drew (S := fun wq => Below wr.heap.size wr wq ∧ (∀ o, wq.cell? ⟨h, o, none⟩ = (#[Value.slice (some ⟨b, off, none⟩) ns.length cap, Value.int .i64 (a : Int)] : Array Value)[o]?) ∧ Sem.run Try.prog (convert 28 9 (.slice (some ⟨b, off + a, none⟩) (E - a) (cap - a))) wq = .ok (.string SB) wq) (by kernel_rfl) hH0 (fun _ => ?_)
      refine wpAnyH_take (i := 0) (oi := ?oi0) (v := ?v0) ?ho0 (by kernel_rfl) (by kernel_rfl) (by kernel_rfl) ?hp0 ?hy0 hH0 ?hr0
      case ho0 => (simp only [List.getElem?_toArray, List.getElem?_cons_succ, List.getElem?_cons_zero]; exact rfl)
      case hp0 => exact fun _ _ _ h => h
      case hy0 => (refine Or.inl ⟨by rfl, ?_⟩; intro w hSw; (try dsimp only at hSw); go_simp; (try (with_reducible rfl)))
      case hr0 =>
      (try simp only [Act.put, List.setIfInBounds_toArray, List.set_cons_zero, List.set_cons_succ])
      refine wpAnyH_take (i := 3) (oi := ?oi3) (v := ?v3) ?ho3 (by kernel_rfl) (by kernel_rfl) (by kernel_rfl) ?hp3 ?hy3 hH0 ?hr3
      case ho3 => (simp only [List.getElem?_toArray, List.getElem?_cons_succ, List.getElem?_cons_zero]; exact rfl)
      case hp3 => exact fun _ _ _ h => h
      case hy3 => (refine Or.inl ⟨by rfl, ?_⟩; intro w hSw; (try dsimp only at hSw); go_simp; (try (with_reducible rfl)))
      case hr3 =>
      (try simp only [Act.put, List.setIfInBounds_toArray, List.set_cons_zero, List.set_cons_succ])
      refine wpAnyH_take (i := 4) (oi := ?oi4) (v := ?v4) ?ho4 (by kernel_rfl) (by kernel_rfl) (by kernel_rfl) ?hp4 ?hy4 hH0 ?hr4
      case ho4 => (simp only [List.getElem?_toArray, List.getElem?_cons_succ, List.getElem?_cons_zero]; exact rfl)
      case hp4 => exact fun _ _ _ h => h
      case hy4 => (refine Or.inl ⟨by rfl, ?_⟩; intro w hSw; (try dsimp only at hSw); go_simp; (try (with_reducible rfl)))
      case hr4 =>
      (try simp only [Act.put, List.setIfInBounds_toArray, List.set_cons_zero, List.set_cons_succ])
      refine wpAnyH_take (i := 5) (oi := ?oi5) (v := ?v5) ?ho5 (by kernel_rfl) (by kernel_rfl) (by kernel_rfl) ?hp5 ?hy5 hH0 ?hr5
      case ho5 => (simp only [List.getElem?_toArray, List.getElem?_cons_succ, List.getElem?_cons_zero]; exact rfl)
      case hp5 => exact fun _ _ _ h => h
      case hy5 => (refine Or.inl ⟨by rfl, ?_⟩; intro w hSw; (try dsimp only at hSw); go_simp; (try (with_reducible rfl)))
      case hr5 =>
      (try simp only [Act.put, List.setIfInBounds_toArray, List.set_cons_zero, List.set_cons_succ])
      refine wpAnyH_take (i := 6) (oi := ?oi6) (v := ?v6) ?ho6 (by kernel_rfl) (by kernel_rfl) (by kernel_rfl) ?hp6 ?hy6 hH0 ?hr6
      case ho6 => (simp only [List.getElem?_toArray, List.getElem?_cons_succ, List.getElem?_cons_zero]; exact rfl)
      case hp6 => exact fun _ _ _ h => h
      case hy6 => (refine Or.inl ⟨by rfl, ?_⟩; intro w hSw; (try dsimp only at hSw); go_simp; (try (with_reducible rfl)))
      case hr6 =>
      (try simp only [Act.put, List.setIfInBounds_toArray, List.set_cons_zero, List.set_cons_succ])
      refine wpAnyH_take (i := 7) (oi := ?oi7) (v := ?v7) ?ho7 (by kernel_rfl) (by kernel_rfl) (by kernel_rfl) ?hp7 ?hy7 hH0 ?hr7
      case ho7 => (simp only [List.getElem?_toArray, List.getElem?_cons_succ, List.getElem?_cons_zero]; exact rfl)
      case hp7 => exact fun _ _ _ h => h
      case hy7 => (refine Or.inl ⟨by rfl, ?_⟩; intro w hSw; (try dsimp only at hSw); go_simp; (try (with_reducible rfl)))
      case hr7 =>
      (try simp only [Act.put, List.setIfInBounds_toArray, List.set_cons_zero, List.set_cons_succ])
      refine wpAnyH_take (i := 8) (oi := ?oi8) (v := ?v8) ?ho8 (by kernel_rfl) (by kernel_rfl) (by kernel_rfl) ?hp8 ?hy8 hH0 ?hr8
      case ho8 => (simp only [List.getElem?_toArray, List.getElem?_cons_succ, List.getElem?_cons_zero]; exact rfl)
      case hp8 => exact fun _ _ _ h => h
      case hy8 => (refine Or.inl ⟨by rfl, ?_⟩; intro w hSw; (try dsimp only at hSw); go_simp; (try (with_reducible rfl)))
      case hr8 =>
      (try simp only [Act.put, List.setIfInBounds_toArray, List.set_cons_zero, List.set_cons_succ])
      refine wpAnyH_take (i := 9) (oi := ?oi9) (v := ?v9) ?ho9 (by kernel_rfl) (by kernel_rfl) (by kernel_rfl) ?hp9 ?hy9 hH0 ?hr9
      case ho9 => (simp only [List.getElem?_toArray, List.getElem?_cons_succ, List.getElem?_cons_zero]; exact rfl)
      case hp9 => exact fun _ _ _ h => h
      case hy9 => (refine Or.inl ⟨by rfl, ?_⟩; intro w hSw; (try dsimp only at hSw); go_simp; (try (with_reducible rfl)))
      case hr9 =>
      (try simp only [Act.put, List.setIfInBounds_toArray, List.set_cons_zero, List.set_cons_succ])
      refine wpAnyH_take (i := 10) (oi := ?oi10) (v := ?v10) ?ho10 (by kernel_rfl) (by kernel_rfl) (by kernel_rfl) ?hp10 ?hy10 hH0 ?hr10
      case ho10 => (simp only [List.getElem?_toArray, List.getElem?_cons_succ, List.getElem?_cons_zero]; exact rfl)
      case hp10 => exact fun _ _ _ h => h
      case hy10 => (refine Or.inl ⟨by rfl, ?_⟩; intro w hSw; (try dsimp only at hSw); go_simp; (try (with_reducible rfl)))
      case hr10 =>
      (try simp only [Act.put, List.setIfInBounds_toArray, List.set_cons_zero, List.set_cons_succ])
      refine wpAnyH_take (i := 11) (oi := ?oi11) (v := ?v11) ?ho11 (by kernel_rfl) (by kernel_rfl) (by kernel_rfl) ?hp11 ?hy11 hH0 ?hr11
      case ho11 => (simp only [List.getElem?_toArray, List.getElem?_cons_succ, List.getElem?_cons_zero]; exact rfl)
      case hp11 => exact fun _ _ _ h => h
      case hy11 => (refine Or.inl ⟨by rfl, ?_⟩; intro w hSw; (try dsimp only at hSw); go_simp; (try (with_reducible rfl)))
      case hr11 =>
      (try simp only [Act.put, List.setIfInBounds_toArray, List.set_cons_zero, List.set_cons_succ])
      refine wpAnyH_take (i := 12) (oi := ?oi12) (v := ?v12) ?ho12 (by kernel_rfl) (by kernel_rfl) (by kernel_rfl) ?hp12 ?hy12 hH0 ?hr12
      case ho12 => (simp only [List.getElem?_toArray, List.getElem?_cons_succ, List.getElem?_cons_zero]; exact rfl)
      case hp12 => exact fun _ _ _ h => h
      case hy12 => (refine Or.inl ⟨by rfl, ?_⟩; intro w hSw; (try dsimp only at hSw); go_simp; (try (with_reducible rfl)))
      case hr12 =>
      (try simp only [Act.put, List.setIfInBounds_toArray, List.set_cons_zero, List.set_cons_succ])
      refine wpAnyH_take (i := 13) (oi := ?oi13) (v := ?v13) ?ho13 (by kernel_rfl) (by kernel_rfl) (by kernel_rfl) ?hp13 ?hy13 hH0 ?hr13
      case ho13 => (simp only [List.getElem?_toArray, List.getElem?_cons_succ, List.getElem?_cons_zero]; exact rfl)
      case hp13 => exact fun _ _ _ h => h
      case hy13 => (refine Or.inl ⟨by rfl, ?_⟩; intro w hSw; (try dsimp only at hSw); go_simp; (try (with_reducible rfl)))
      case hr13 =>
      (try simp only [Act.put, List.setIfInBounds_toArray, List.set_cons_zero, List.set_cons_succ])
      refine wpAnyH_take (i := 14) (oi := ?oi14) (v := ?v14) ?ho14 (by kernel_rfl) (by kernel_rfl) (by kernel_rfl) ?hp14 ?hy14 hH0 ?hr14
      case ho14 => (simp only [List.getElem?_toArray, List.getElem?_cons_succ, List.getElem?_cons_zero]; exact rfl)
      case hp14 => exact fun _ _ _ h => h
      case hy14 => (refine Or.inl ⟨by rfl, ?_⟩; intro w hSw; (try dsimp only at hSw); go_simp; (try (with_reducible rfl)))
      case hr14 =>
      (try simp only [Act.put, List.setIfInBounds_toArray, List.set_cons_zero, List.set_cons_succ])
      refine wpAnyH_take (i := 15) (oi := ?oi15) (v := ?v15) ?ho15 (by kernel_rfl) (by kernel_rfl) (by kernel_rfl) ?hp15 ?hy15 hH0 ?hr15
      case ho15 => (simp only [List.getElem?_toArray, List.getElem?_cons_succ, List.getElem?_cons_zero]; exact rfl)
      case hp15 => exact fun _ _ _ h => h
      case hy15 => (refine Or.inl ⟨by rfl, ?_⟩; intro w hSw; (try dsimp only at hSw); go_simp; (try (with_reducible rfl)))
      case hr15 =>
      (try simp only [Act.put, List.setIfInBounds_toArray, List.set_cons_zero, List.set_cons_succ])
      refine wpAnyH_take (i := 16) (oi := ?oi16) (v := ?v16) ?ho16 (by kernel_rfl) (by kernel_rfl) (by kernel_rfl) ?hp16 ?hy16 hH0 ?hr16
      case ho16 => (simp only [List.getElem?_toArray, List.getElem?_cons_succ, List.getElem?_cons_zero]; exact rfl)
      case hp16 => exact fun _ _ _ h => h
      case hy16 => (refine Or.inl ⟨by rfl, ?_⟩; intro w hSw; (try dsimp only at hSw); go_simp; (try (with_reducible rfl)))
      case hr16 =>
      (try simp only [Act.put, List.setIfInBounds_toArray, List.set_cons_zero, List.set_cons_succ])
      refine wpAnyH_take (i := 17) (oi := ?oi17) (v := ?v17) ?ho17 (by kernel_rfl) (by kernel_rfl) (by kernel_rfl) ?hp17 ?hy17 hH0 ?hr17
      case ho17 => (simp only [List.getElem?_toArray, List.getElem?_cons_succ, List.getElem?_cons_zero]; exact rfl)
      case hp17 => exact fun _ _ _ h => h
      case hy17 => (refine Or.inl ⟨by rfl, ?_⟩; intro w hSw; (try dsimp only at hSw); go_simp; (try (with_reducible rfl)))
      case hr17 =>
      (try simp only [Act.put, List.setIfInBounds_toArray, List.set_cons_zero, List.set_cons_succ])
      refine wpAnyH_take (i := 18) (oi := ?oi18) (v := ?v18) ?ho18 (by kernel_rfl) (by kernel_rfl) (by kernel_rfl) ?hp18 ?hy18 hH0 ?hr18
      case ho18 => (simp only [List.getElem?_toArray, List.getElem?_cons_succ, List.getElem?_cons_zero]; exact rfl)
      case hp18 => exact fun _ _ _ h => h
      case hy18 => (refine Or.inl ⟨by rfl, ?_⟩; intro w hSw; (try dsimp only at hSw); go_simp; (try (with_reducible rfl)))
      case hr18 =>
      (try simp only [Act.put, List.setIfInBounds_toArray, List.set_cons_zero, List.set_cons_succ])
      refine wpAnyH_take (i := 19) (oi := ?oi19) (v := ?v19) ?ho19 (by kernel_rfl) (by kernel_rfl) (by kernel_rfl) ?hp19 ?hy19 hH0 ?hr19
      case ho19 => (simp only [List.getElem?_toArray, List.getElem?_cons_succ, List.getElem?_cons_zero]; exact rfl)
      case hp19 => exact fun _ _ _ h => h
      case hy19 => (refine Or.inl ⟨by rfl, ?_⟩; intro w hSw; (try dsimp only at hSw); go_simp; (try (with_reducible rfl)))
      case hr19 =>
      (try simp only [Act.put, List.setIfInBounds_toArray, List.set_cons_zero, List.set_cons_succ])
      refine wpAnyH_ready (rs := [1]) (by kernel_rfl) (by simp) (AllReadyH.cons (o := ?oi1) ?ho1 (fun K hK => ?hr1) AllReadyH.nil)
      case ho1 => (simp only [List.getElem?_toArray, List.getElem?_cons_succ, List.getElem?_cons_zero]; exact rfl)
      case hr1 =>
      go_simp
      refine Calls.mono (refNum_c X _ hX64) ?_
      rintro e w5 ⟨g5, cap5, rfl, own5, hb5⟩
      have HB5 : Below wr.heap.size wr w5 := bstep (drewB _) hb5
      have CA5 := hide (fun (w' : World) (hb : Below w5.heap.size w5 w') => conv28 w' g5 0 cap5 (form X) (own_conv (own_same own5 (fun k _ hlt => hb.block k hlt)) (form_pos X)))
      (try go_wp2_with fail)
      refine hK.out _ _ ?_ (fun hH1 => ?_)
      · exact ⟨HB5, fun o => (HB5.cell (p := ⟨h, o, none⟩) hh).trans (f1 o), CVW.out _ HB5⟩
      clear hK K own5 hb5 hH0
      (try simp only [Act.put, List.setIfInBounds_toArray, List.set_cons_zero, List.set_cons_succ])
      refine wpAnyH_mono (S2 := fun wq => (Below wr.heap.size wr wq ∧ (∀ o, wq.cell? ⟨h, o, none⟩ = (#[Value.slice (some ⟨b, off, none⟩) ns.length cap, Value.int .i64 (a : Int)] : Array Value)[o]?) ∧ Sem.run Try.prog (convert 28 9 (.slice (some ⟨b, off + a, none⟩) (E - a) (cap - a))) wq = .ok (.string SB) wq) ∧ Sem.run Try.prog (convert 28 9 (.slice (some ⟨g5, 0, none⟩) (form X).length cap5)) wq = .ok (.string (bstr (form X))) wq) (fun w h => h.1) _ _ _ _ ?_
      have hH2 := And.intro hH1 (CA5.out _ (Below.refl _ _))
      refine wpAnyH_take (i := 2) (oi := ?oi2) (v := ?v2) ?ho2 (by kernel_rfl) (by kernel_rfl) (by kernel_rfl) ?hp2 ?hy2 hH2 ?hr2
      case ho2 => (simp only [List.getElem?_toArray, List.getElem?_cons_succ, List.getElem?_cons_zero]; exact rfl)
      case hp2 => exact fun _ _ _ h => h
      case hy2 => (refine Or.inl ⟨by rfl, ?_⟩; intro w hSw; (try dsimp only at hSw); go_simp; (try (with_reducible rfl)))
      case hr2 =>
      (try simp only [Act.put, List.setIfInBounds_toArray, List.set_cons_zero, List.set_cons_succ])
      refine wpAnyH_take (i := 20) (oi := ?oi20) (v := ?v20) ?ho20 (by kernel_rfl) (by kernel_rfl) (by kernel_rfl) ?hp20 ?hy20 hH2 ?hr20
      case ho20 => (simp only [List.getElem?_toArray, List.getElem?_cons_succ, List.getElem?_cons_zero]; exact rfl)
      case hp20 => exact fun _ _ _ h => h
      case hy20 => (refine Or.inl ⟨by rfl, ?_⟩; intro w hSw; (try dsimp only at hSw); go_simp; (try (with_reducible rfl)))
      case hr20 =>
      (try simp only [Act.put, List.setIfInBounds_toArray, List.set_cons_zero, List.set_cons_succ])
      refine wpAnyH_done (by kernel_rfl) ?_ _
      have hD5 := HD2.out.below (rB.trans (HB5.mono hzr))
      have HD5 := hide hD5
      have HB6 := hide (bstep (bstep HB2.out rB) HB5)
      obtain ⟨k1, k2, k3, _, _, _, _, _⟩ := hD5
      clear f1 f2 hH1 hH2 e1 e2 e3 rB HB5
      go_wp2
      go_ret2
      exact ⟨rfl, Only.of_below HB6.out, HD5.out⟩
end Go.Proofs.Ytajkgecegefnmaa
