/- Contracts of the layer's functions, each proved once, in the order in which they are used. No condition beyond each theorem's own. -/
import Derived.Test.YtajkgecegefnmaaMd
import Derived.Deep.AppendLies
import Derived.Maps.AppendAt
namespace Go.Proofs.Ytajkgecegefnmaa
open Go.ChangeShapes Go.WideShapes Go.ChangeAt Go.RowKit Go.Deep
set_option linter.unusedSimpArgs false
set_option linter.unusedVariables false

set_option maxRecDepth 100000 in
set_option maxHeartbeats 2000000 in
theorem dNum_cut (h cap : Nat) (ao : Option Addr) (ns : List Nat) (a : Nat) (w : World) (hD : DObj w h ao cap ns a) (hn : a < ns.length) (hs : 247 < ns.getD a 0) (hc : ns.length < a + 1 + (ns.getD a 0 - 247)) : Calls Try.prog 22 #[.pointer (some ⟨h, 0, none⟩)] w (fun e w' => e = .returned (.tuple #[.int .u64 (((0, 110, a) : Nat × Nat × Nat).1 : Int), .int .i64 (((0, 110, a) : Nat × Nat × Nat).2.1 : Int)]) ∧ Only h w w' ∧ DObj w' h ao cap ns ((0, 110, a) : Nat × Nat × Nat).2.2) := by
  have hD' := hide hD
  obtain ⟨d1, d2, d3, d4, d5, d6, d7, d8⟩ := hD
  have D4 := hide d4
  have D5 := hide d5
  clear d4 d5
  obtain ⟨b, off, hao, hb, hbh, hbc⟩ := D4.out (by rintro rfl; simp at hn)
  subst hao
  have HBC := hide hbc
  have hx : ¬ ((ns.length : Int) - (a : Int) < 1) := by omega
  have hf256 := getD_lt D5.out a
  have fa : w.cell? ⟨b, off + a, none⟩ = some (.int .u8 (ns.getD a 0 : Int)) := hbc a hn
  clear hbc
  generalize hfe : ns.getD a 0 = f at *
  have HFE := hide hfe
  clear hfe
  have hq : (ns.length : Int) - (a : Int) < 1 + ((f - 247 : Nat) : Int) := by omega
  have hf1 : ¬ (f : Int) ≤ 247 := by omega
  have hf3 : (f : Int) - 247 = ((f - 247 : Nat) : Int) := by omega
  have HF3 := hide hf3
  clear hf3
  go_enter Try.func22, Try.ntmps22
  go_wp2_with fail
  refine (dLeft_c h cap _ ns a _ hD'.out).mono ?_
  rintro e w1 ⟨rfl, hb1⟩
  have HD1 := hide (hD'.out.below hb1)
  have HB1 := hide hb1
  clear hb1
  obtain ⟨e1, e2, e3, _, _, _, _, _⟩ := HD1.out
  have fa1 : w1.cell? ⟨b, off + a, none⟩ = some (.int .u8 (f : Int)) := (HB1.out.cell (p := ⟨b, off + a, none⟩) hb).trans fa
  clear d2 d3 fa
  go_wp2
  go_quiet (fail)
  have hb1d : Below w.heap.size w (w1.drewN nq) := bdrewN HB1.out nq
  have HD1d := hide (HD1.out.below (bdrewN (Below.refl w1.heap.size w1) nq))
  have HB1d := hide hb1d
  clear hb1d
  go_wp2_with fail
  rw [HF3.out]
  refine (dLeft_c h cap _ ns a _ HD1d.out).mono ?_
  rintro e w2 ⟨rfl, hb2⟩
  have HB2 := hide (bstep HB1d.out hb2)
  have HD2 := hide (HD1d.out.below hb2)
  clear hb2 HB1d HD1d HD1 HB1 e1 e2 e3 fa1
  go_wp2
  go_ret2
  exact ⟨rfl, Only.of_below HB2.out, HD2.out⟩

set_option maxRecDepth 100000 in
set_option maxHeartbeats 4000000 in
theorem dNum_ok (h cap : Nat) (ao : Option Addr) (ns : List Nat) (a : Nat) (w : World) (hD : DObj w h ao cap ns a) (hn : a < ns.length) (hs : 247 < ns.getD a 0) (hc : a + 1 + (ns.getD a 0 - 247) ≤ ns.length) (hs2 : (form (num ((ns.drop (a + 1)).take (ns.getD a 0 - 247)))).length = 1 + (ns.getD a 0 - 247)) : Calls Try.prog 22 #[.pointer (some ⟨h, 0, none⟩)] w (fun e w' => e = .returned (.tuple #[.int .u64 (((num ((ns.drop (a + 1)).take (ns.getD a 0 - 247)), 0, a + 1 + (ns.getD a 0 - 247)) : Nat × Nat × Nat).1 : Int), .int .i64 (((num ((ns.drop (a + 1)).take (ns.getD a 0 - 247)), 0, a + 1 + (ns.getD a 0 - 247)) : Nat × Nat × Nat).2.1 : Int)]) ∧ Only h w w' ∧ DObj w' h ao cap ns ((num ((ns.drop (a + 1)).take (ns.getD a 0 - 247)), 0, a + 1 + (ns.getD a 0 - 247)) : Nat × Nat × Nat).2.2) := by
  have HS2 := hide hs2
  clear hs2
  have hD' := hide hD
  obtain ⟨d1, d2, d3, d4, d5, d6, d7, d8⟩ := hD
  have D4 := hide d4
  have D5 := hide d5
  clear d4 d5
  obtain ⟨b, off, hao, hb, hbh, hbc⟩ := D4.out (by rintro rfl; simp at hn)
  subst hao
  have HBC := hide hbc
  have hx : ¬ ((ns.length : Int) - (a : Int) < 1) := by omega
  have hf256 := getD_lt D5.out a
  have fa : w.cell? ⟨b, off + a, none⟩ = some (.int .u8 (ns.getD a 0 : Int)) := hbc a hn
  clear hbc
  generalize hfe : ns.getD a 0 = f at *
  have HFE := hide hfe
  clear hfe
  have hq : ¬ (ns.length : Int) - (a : Int) < 1 + ((f - 247 : Nat) : Int) := by omega
  have hf1 : ¬ (f : Int) ≤ 247 := by omega
  have hf3 : (f : Int) - 247 = ((f - 247 : Nat) : Int) := by omega
  have HF3 := hide hf3
  clear hf3
  go_enter Try.func22, Try.ntmps22
  go_wp2_with fail
  refine (dLeft_c h cap _ ns a _ hD'.out).mono ?_
  rintro e w1 ⟨rfl, hb1⟩
  have HD1 := hide (hD'.out.below hb1)
  have HB1 := hide hb1
  clear hb1
  obtain ⟨e1, e2, e3, _, _, _, _, _⟩ := HD1.out
  have fa1 : w1.cell? ⟨b, off + a, none⟩ = some (.int .u8 (f : Int)) := (HB1.out.cell (p := ⟨b, off + a, none⟩) hb).trans fa
  clear d2 d3 fa
  go_wp2
  go_quiet (fail)
  have hb1d : Below w.heap.size w (w1.drewN nq) := bdrewN HB1.out nq
  have HD1d := hide (HD1.out.below (bdrewN (Below.refl w1.heap.size w1) nq))
  have HB1d := hide hb1d
  clear hb1d
  go_wp2_with fail
  rw [HF3.out]
  refine (dLeft_c h cap _ ns a _ HD1d.out).mono ?_
  rintro e w2 ⟨rfl, hb2⟩
  have HB2 := hide (bstep HB1d.out hb2)
  have HD2 := hide (HD1d.out.below hb2)
  clear hb2 HB1d HD1d HD1 HB1 e1 e2 e3 fa1
  generalize hm : f - 247 = m at *
  have hm8 : m ≤ 8 := by omega
  have hm1 : 1 ≤ m := by omega
  have ham : a + 1 + m ≤ ns.length := by omega
  have hfm : f = 247 + m := by omega
  have HM := hide hm
  clear hm hf1 hq
  obtain ⟨e1, e2, e3, _, _, _, _, e8⟩ := HD2.out
  have BC2 := hide (show ∀ j, j < ns.length → w2.cell? ⟨b, off + j, none⟩ = some (.int .u8 (ns.getD j 0 : Int)) from fun j hj => (HB2.out.cell (p := ⟨b, off + j, none⟩) hb).trans (HBC.out j hj))
  have hb2z : b < w2.heap.size := Nat.lt_of_lt_of_le hb HB2.out.size
  go_wp2_with fail
  go_loopw [6, 7] (fun v6 v7 wr => ∃ j : Nat, j ≤ m ∧ v6 = .int .u64 (num ((ns.drop (a + 1)).take j) : Int) ∧ v7 = .int .i64 ((j : Int) + 1) ∧ Below w2.heap.size w2 wr) (fun _ v7 _ => m + 1 - (intOf v7).toNat)
  case atStart => exact ⟨0, Nat.zero_le _, rfl, rfl, by (focus repeat' (first | (with_reducible exact Below.refl _ _) | (with_reducible assumption) | (with_reducible refine Below.alloc ?_ ?_ _) | (with_reducible refine Below.drew ?_) | (with_reducible refine bdrewN ?_ _) | (with_reducible refine Below.setCell ?_ ?_ _) | (first | (with_reducible exact Nat.le_refl _) | (with_reducible assumption) | omega | (simp; omega) | (simp; done))))⟩
  case round =>
    obtain ⟨j, hj, rfl, rfl, rB⟩ := hrel
    have f1 : ∀ o, wr.cell? ⟨h, o, none⟩ = (#[Value.slice (some ⟨b, off, none⟩) ns.length cap, Value.int .i64 (a : Int)] : Array Value)[o]? := fun o => (rB.cell (p := ⟨h, o, none⟩) e1).trans (e2 o)
    have f2 : ∀ o, wr.frozen? ⟨h, o, none⟩ = false := fun o => (rB.frozen (p := ⟨h, o, none⟩) e1).trans (e3 o)
    have hzr : w2.heap.size ≤ wr.heap.size := rB.size
    have hh : h < wr.heap.size := by omega
    by_cases hlt : j < m
    · have hle : (j : Int) + 1 ≤ (m : Int) := by omega
      have c1 : wr.cell? ⟨b, off + (a + (j + 1)), none⟩ = some (.int .u8 (ns.getD (a + (j + 1)) 0 : Int)) := (rB.cell (p := ⟨b, off + (a + (j + 1)), none⟩) hb2z).trans (BC2.out (a + (j + 1)) (by omega))
      have hy : ns.getD (a + (j + 1)) 0 < 256 := getD_lt D5.out _
      have hnx := hide (show num ((ns.drop (a + 1)).take (j + 1)) = 256 * num ((ns.drop (a + 1)).take j) + ns.getD (a + (j + 1)) 0 from by
        rw [← num_app]
        congr 1
        rw [List.take_add_one]
        congr 1
        rw [show a + (j + 1) = a + 1 + j from by omega]
        simp [List.getD, show a + 1 + j < ns.length by omega])
      have hX : num ((ns.drop (a + 1)).take j) < 72057594037927936 := by
        have q := num_lt j ((ns.drop (a + 1)).take j) (by rw [List.length_take, List.length_drop]; omega) (fun x hx => D5.out x (List.mem_of_mem_drop (List.mem_of_mem_take hx)))
        have p : 256 ^ j ≤ 256 ^ 7 := Nat.pow_le_pow_right (by decide) (by omega)
        have p7 : (256 : Nat) ^ 7 = 72057594037927936 := by decide
        omega
      have hw1 : IntKind.i64.wrap ((a : Int) + ((j : Int) + 1)) = ((a + (j + 1) : Nat) : Int) := by (simp [IntKind.wrap, IntKind.bits, IntKind.signed]; omega)
      have hix : a + (j + 1) < ns.length := by omega
      generalize num ((ns.drop (a + 1)).take j) = X at *
      generalize ns.getD (a + (j + 1)) 0 = y at *
      generalize hk : a + (j + 1) = k at *
      have HK := hide hk
      clear hk
      go_wp2_with fail
      go_quiet (fail)
      go_wp2
      go_roundw
      case rel => exact ⟨j + 1, by omega, by rw [hnx.out]; first | rfl | go_num, by go_num, by (focus repeat' (first | (with_reducible exact Below.refl _ _) | (with_reducible assumption) | (with_reducible refine Below.alloc ?_ ?_ _) | (with_reducible refine Below.drew ?_) | (with_reducible refine bdrewN ?_ _) | (with_reducible refine Below.setCell ?_ ?_ _) | (first | (with_reducible exact Nat.le_refl _) | (with_reducible assumption) | omega | (simp; omega) | (simp; done))))⟩
      case measure => (first | (simp [intOf]; done) | (simp [intOf]; omega))
    · obtain rfl : j = m := by omega
      have hle : ¬ (j : Int) + 1 ≤ (j : Int) := by omega
      obtain ⟨E, hE⟩ : ∃ E, a + 1 + j = E := ⟨_, rfl⟩
      have hw0 : IntKind.i64.wrap ((a : Int) + 1) = (a : Int) + 1 := by (simp [IntKind.wrap, IntKind.bits, IntKind.signed]; omega)
      have hw1 : IntKind.i64.wrap ((a : Int) + 1 + (j : Int)) = (E : Int) := by (simp [IntKind.wrap, IntKind.bits, IntKind.signed]; omega)
      have hw2 : E ≤ cap := by omega
      have hw3 : a ≤ E := by omega
      have hw4 : 1 + j = E - a := by omega
      have hca : ¬ cap = a := by omega
      have hrlen : ((ns.drop a).take (1 + j)).length = 1 + j := by (rw [List.length_take, List.length_drop]; omega)
      have hrow : (ns.drop a).take (1 + j) = f :: (ns.drop (a + 1)).take j := by
        rw [List.drop_eq_getElem_cons hn, Nat.add_comm 1 j, List.take_succ_cons]
        congr 1
        rw [← HFE.out]; simp [List.getD, hn]
      have CVW := hide (show ∀ w', Below wr.heap.size wr w' → Sem.run Try.prog (convert 28 9 (.slice (some ⟨b, off + a, none⟩) (E - a) (cap - a))) w' = .ok (.string (bstr (f :: (ns.drop (a + 1)).take j))) w' from fun w' hb' => by
        have q := conv28 w' b (off + a) (cap - a) ((ns.drop a).take (1 + j)) (fun i hi => by
          rw [hrlen] at hi
          have q := (hb'.cell (p := ⟨b, off + (a + i), none⟩) (show b < wr.heap.size by omega)).trans ((rB.cell (p := ⟨b, off + (a + i), none⟩) hb2z).trans (BC2.out (a + i) (by omega)))
          rw [← Nat.add_assoc] at q
          rw [q]
          simp [List.getD, hi, show a + i < ns.length by omega])
        rw [hrlen, hrow, hw4] at q
        exact q)
      have CV1 := CVW.out wr.drew (drewB _)
      have hH0 : Below wr.heap.size wr wr.drew ∧ (∀ o, wr.drew.cell? ⟨h, o, none⟩ = (#[Value.slice (some ⟨b, off, none⟩) ns.length cap, Value.int .i64 (a : Int)] : Array Value)[o]?) ∧ Sem.run Try.prog (convert 28 9 (.slice (some ⟨b, off + a, none⟩) (E - a) (cap - a))) wr.drew = .ok (.string (bstr (f :: (ns.drop (a + 1)).take j))) wr.drew := ⟨drewB _, fun o => by rw [World.cell?_drew]; exact f1 o, CV1⟩
      have HE := hide hE
      have HW4 := hide hw4
      clear hrow hrlen hE hw4
      have hX64 : num ((ns.drop (a + 1)).take j) < 18446744073709551616 := by
        have q := num_lt j ((ns.drop (a + 1)).take j) (by rw [List.length_take, List.length_drop]; omega) (fun x hx => D5.out x (List.mem_of_mem_drop (List.mem_of_mem_take hx)))
        have p : 256 ^ j ≤ 256 ^ 8 := Nat.pow_le_pow_right (by decide) (by omega)
        have p8 : (256 : Nat) ^ 8 = 18446744073709551616 := by decide
        omega
      have hlt256 : ∀ x ∈ (ns.drop (a + 1)).take j, x < 256 := fun x hx => D5.out x (List.mem_of_mem_drop (List.mem_of_mem_take hx))
      have hEq : ((bstr (form (num ((ns.drop (a + 1)).take j)))).toList == (bstr (f :: (ns.drop (a + 1)).take j)).toList) = true := by
        rw [bstr_list, bstr_list]
        have hcan := form_canon (f := f) (l := (ns.drop (a + 1)).take j) (by omega) (by rw [List.length_take, List.length_drop]; omega) hlt256
        have hs2 := HS2.out
        rw [HM.out] at hcan
        rw [hcan.2 hs2]; simp
      clear hlt256
      generalize hbs : bstr (f :: (ns.drop (a + 1)).take j) = SB at *
      generalize hxx : num ((ns.drop (a + 1)).take j) = X at *
      have HBS := hide hbs
      have HXX := hide hxx
      clear hbs hxx CV1
      go_wp2_with fail
      refine wp_region_held_drew (S := fun wq => Below wr.heap.size wr wq ∧ (∀ o, wq.cell? ⟨h, o, none⟩ = (#[Value.slice (some ⟨b, off, none⟩) ns.length cap, Value.int .i64 (a : Int)] : Array Value)[o]?) ∧ Sem.run Try.prog (convert 28 9 (.slice (some ⟨b, off + a, none⟩) (E - a) (cap - a))) wq = .ok (.string SB) wq) (by kernel_rfl) hH0 (fun _ => ?_)
      refine wpAnyH_take (i := 0) (oi := ?oi0) (v := ?v0) ?ho0 (by kernel_rfl) (by kernel_rfl) (by kernel_rfl) ?hp0 ?hy0 hH0 ?hr0
      case ho0 => (simp only [List.getElem?_toArray, List.getElem?_cons_succ, List.getElem?_cons_zero]; exact rfl)
      case hp0 => exact fun _ _ _ h => h
      case hy0 => (refine Or.inl ⟨by rfl, ?_⟩; intro w hSw; (try dsimp only at hSw); go_simp; (try (with_reducible rfl)))
      case hr0 =>
      (try simp only [Act.put, List.setIfInBounds_toArray, List.set_cons_zero, List.set_cons_succ])
      refine wpAnyH_take (i := 3) (oi := ?oi3) (v := ?v3) ?ho3 (by kernel_rfl) (by kernel_rfl) (by kernel_rfl) ?hp3 ?hy3 hH0 ?hr3
      case ho3 => (simp only [List.getElem?_toArray, List.getElem?_cons_succ, List.getElem?_cons_zero]; exact rfl)
      case hp3 => exact fun _ _ _ h => h
      case hy3 => (refine Or.inl ⟨by rfl, ?_⟩; intro w hSw; (try dsimp only at hSw); go_simp; (try (with_reducible rfl)))
      case hr3 =>
      (try simp only [Act.put, List.setIfInBounds_toArray, List.set_cons_zero, List.set_cons_succ])
      refine wpAnyH_take (i := 4) (oi := ?oi4) (v := ?v4) ?ho4 (by kernel_rfl) (by kernel_rfl) (by kernel_rfl) ?hp4 ?hy4 hH0 ?hr4
      case ho4 => (simp only [List.getElem?_toArray, List.getElem?_cons_succ, List.getElem?_cons_zero]; exact rfl)
      case hp4 => exact fun _ _ _ h => h
      case hy4 => (refine Or.inl ⟨by rfl, ?_⟩; intro w hSw; (try dsimp only at hSw); go_simp; (try (with_reducible rfl)))
      case hr4 =>
      (try simp only [Act.put, List.setIfInBounds_toArray, List.set_cons_zero, List.set_cons_succ])
      refine wpAnyH_take (i := 5) (oi := ?oi5) (v := ?v5) ?ho5 (by kernel_rfl) (by kernel_rfl) (by kernel_rfl) ?hp5 ?hy5 hH0 ?hr5
      case ho5 => (simp only [List.getElem?_toArray, List.getElem?_cons_succ, List.getElem?_cons_zero]; exact rfl)
      case hp5 => exact fun _ _ _ h => h
      case hy5 => (refine Or.inl ⟨by rfl, ?_⟩; intro w hSw; (try dsimp only at hSw); go_simp; (try (with_reducible rfl)))
      case hr5 =>
      (try simp only [Act.put, List.setIfInBounds_toArray, List.set_cons_zero, List.set_cons_succ])
      refine wpAnyH_take (i := 6) (oi := ?oi6) (v := ?v6) ?ho6 (by kernel_rfl) (by kernel_rfl) (by kernel_rfl) ?hp6 ?hy6 hH0 ?hr6
      case ho6 => (simp only [List.getElem?_toArray, List.getElem?_cons_succ, List.getElem?_cons_zero]; exact rfl)
      case hp6 => exact fun _ _ _ h => h
      case hy6 => (refine Or.inl ⟨by rfl, ?_⟩; intro w hSw; (try dsimp only at hSw); go_simp; (try (with_reducible rfl)))
      case hr6 =>
      (try simp only [Act.put, List.setIfInBounds_toArray, List.set_cons_zero, List.set_cons_succ])
      refine wpAnyH_take (i := 7) (oi := ?oi7) (v := ?v7) ?ho7 (by kernel_rfl) (by kernel_rfl) (by kernel_rfl) ?hp7 ?hy7 hH0 ?hr7
      case ho7 => (simp only [List.getElem?_toArray, List.getElem?_cons_succ, List.getElem?_cons_zero]; exact rfl)
      case hp7 => exact fun _ _ _ h => h
      case hy7 => (refine Or.inl ⟨by rfl, ?_⟩; intro w hSw; (try dsimp only at hSw); go_simp; (try (with_reducible rfl)))
      case hr7 =>
      (try simp only [Act.put, List.setIfInBounds_toArray, List.set_cons_zero, List.set_cons_succ])
      refine wpAnyH_take (i := 8) (oi := ?oi8) (v := ?v8) ?ho8 (by kernel_rfl) (by kernel_rfl) (by kernel_rfl) ?hp8 ?hy8 hH0 ?hr8
      case ho8 => (simp only [List.getElem?_toArray, List.getElem?_cons_succ, List.getElem?_cons_zero]; exact rfl)
      case hp8 => exact fun _ _ _ h => h
      case hy8 => (refine Or.inl ⟨by rfl, ?_⟩; intro w hSw; (try dsimp only at hSw); go_simp; (try (with_reducible rfl)))
      case hr8 =>
      (try simp only [Act.put, List.setIfInBounds_toArray, List.set_cons_zero, List.set_cons_succ])
      refine wpAnyH_take (i := 9) (oi := ?oi9) (v := ?v9) ?ho9 (by kernel_rfl) (by kernel_rfl) (by kernel_rfl) ?hp9 ?hy9 hH0 ?hr9
      case ho9 => (simp only [List.getElem?_toArray, List.getElem?_cons_succ, List.getElem?_cons_zero]; exact rfl)
      case hp9 => exact fun _ _ _ h => h
      case hy9 => (refine Or.inl ⟨by rfl, ?_⟩; intro w hSw; (try dsimp only at hSw); go_simp; (try (with_reducible rfl)))
      case hr9 =>
      (try simp only [Act.put, List.setIfInBounds_toArray, List.set_cons_zero, List.set_cons_succ])
      refine wpAnyH_take (i := 10) (oi := ?oi10) (v := ?v10) ?ho10 (by kernel_rfl) (by kernel_rfl) (by kernel_rfl) ?hp10 ?hy10 hH0 ?hr10
      case ho10 => (simp only [List.getElem?_toArray, List.getElem?_cons_succ, List.getElem?_cons_zero]; exact rfl)
      case hp10 => exact fun _ _ _ h => h
      case hy10 => (refine Or.inl ⟨by rfl, ?_⟩; intro w hSw; (try dsimp only at hSw); go_simp; (try (with_reducible rfl)))
      case hr10 =>
      (try simp only [Act.put, List.setIfInBounds_toArray, List.set_cons_zero, List.set_cons_succ])
      refine wpAnyH_take (i := 11) (oi := ?oi11) (v := ?v11) ?ho11 (by kernel_rfl) (by kernel_rfl) (by kernel_rfl) ?hp11 ?hy11 hH0 ?hr11
      case ho11 => (simp only [List.getElem?_toArray, List.getElem?_cons_succ, List.getElem?_cons_zero]; exact rfl)
      case hp11 => exact fun _ _ _ h => h
      case hy11 => (refine Or.inl ⟨by rfl, ?_⟩; intro w hSw; (try dsimp only at hSw); go_simp; (try (with_reducible rfl)))
      case hr11 =>
      (try simp only [Act.put, List.setIfInBounds_toArray, List.set_cons_zero, List.set_cons_succ])
      refine wpAnyH_take (i := 12) (oi := ?oi12) (v := ?v12) ?ho12 (by kernel_rfl) (by kernel_rfl) (by kernel_rfl) ?hp12 ?hy12 hH0 ?hr12
      case ho12 => (simp only [List.getElem?_toArray, List.getElem?_cons_succ, List.getElem?_cons_zero]; exact rfl)
      case hp12 => exact fun _ _ _ h => h
      case hy12 => (refine Or.inl ⟨by rfl, ?_⟩; intro w hSw; (try dsimp only at hSw); go_simp; (try (with_reducible rfl)))
      case hr12 =>
      (try simp only [Act.put, List.setIfInBounds_toArray, List.set_cons_zero, List.set_cons_succ])
      refine wpAnyH_take (i := 13) (oi := ?oi13) (v := ?v13) ?ho13 (by kernel_rfl) (by kernel_rfl) (by kernel_rfl) ?hp13 ?hy13 hH0 ?hr13
      case ho13 => (simp only [List.getElem?_toArray, List.getElem?_cons_succ, List.getElem?_cons_zero]; exact rfl)
      case hp13 => exact fun _ _ _ h => h
      case hy13 => (refine Or.inl ⟨by rfl, ?_⟩; intro w hSw; (try dsimp only at hSw); go_simp; (try (with_reducible rfl)))
      case hr13 =>
      (try simp only [Act.put, List.setIfInBounds_toArray, List.set_cons_zero, List.set_cons_succ])
      refine wpAnyH_take (i := 14) (oi := ?oi14) (v := ?v14) ?ho14 (by kernel_rfl) (by kernel_rfl) (by kernel_rfl) ?hp14 ?hy14 hH0 ?hr14
      case ho14 => (simp only [List.getElem?_toArray, List.getElem?_cons_succ, List.getElem?_cons_zero]; exact rfl)
      case hp14 => exact fun _ _ _ h => h
      case hy14 => (refine Or.inl ⟨by rfl, ?_⟩; intro w hSw; (try dsimp only at hSw); go_simp; (try (with_reducible rfl)))
      case hr14 =>
      (try simp only [Act.put, List.setIfInBounds_toArray, List.set_cons_zero, List.set_cons_succ])
      refine wpAnyH_take (i := 15) (oi := ?oi15) (v := ?v15) ?ho15 (by kernel_rfl) (by kernel_rfl) (by kernel_rfl) ?hp15 ?hy15 hH0 ?hr15
      case ho15 => (simp only [List.getElem?_toArray, List.getElem?_cons_succ, List.getElem?_cons_zero]; exact rfl)
      case hp15 => exact fun _ _ _ h => h
      case hy15 => (refine Or.inl ⟨by rfl, ?_⟩; intro w hSw; (try dsimp only at hSw); go_simp; (try (with_reducible rfl)))
      case hr15 =>
      (try simp only [Act.put, List.setIfInBounds_toArray, List.set_cons_zero, List.set_cons_succ])
      refine wpAnyH_take (i := 16) (oi := ?oi16) (v := ?v16) ?ho16 (by kernel_rfl) (by kernel_rfl) (by kernel_rfl) ?hp16 ?hy16 hH0 ?hr16
      case ho16 => (simp only [List.getElem?_toArray, List.getElem?_cons_succ, List.getElem?_cons_zero]; exact rfl)
      case hp16 => exact fun _ _ _ h => h
      case hy16 => (refine Or.inl ⟨by rfl, ?_⟩; intro w hSw; (try dsimp only at hSw); go_simp; (try (with_reducible rfl)))
      case hr16 =>
      (try simp only [Act.put, List.setIfInBounds_toArray, List.set_cons_zero, List.set_cons_succ])
      refine wpAnyH_take (i := 17) (oi := ?oi17) (v := ?v17) ?ho17 (by kernel_rfl) (by kernel_rfl) (by kernel_rfl) ?hp17 ?hy17 hH0 ?hr17
      case ho17 => (simp only [List.getElem?_toArray, List.getElem?_cons_succ, List.getElem?_cons_zero]; exact rfl)
      case hp17 => exact fun _ _ _ h => h
      case hy17 => (refine Or.inl ⟨by rfl, ?_⟩; intro w hSw; (try dsimp only at hSw); go_simp; (try (with_reducible rfl)))
      case hr17 =>
      (try simp only [Act.put, List.setIfInBounds_toArray, List.set_cons_zero, List.set_cons_succ])
      refine wpAnyH_take (i := 18) (oi := ?oi18) (v := ?v18) ?ho18 (by kernel_rfl) (by kernel_rfl) (by kernel_rfl) ?hp18 ?hy18 hH0 ?hr18
      case ho18 => (simp only [List.getElem?_toArray, List.getElem?_cons_succ, List.getElem?_cons_zero]; exact rfl)
      case hp18 => exact fun _ _ _ h => h
      case hy18 => (refine Or.inl ⟨by rfl, ?_⟩; intro w hSw; (try dsimp only at hSw); go_simp; (try (with_reducible rfl)))
      case hr18 =>
      (try simp only [Act.put, List.setIfInBounds_toArray, List.set_cons_zero, List.set_cons_succ])
      refine wpAnyH_take (i := 19) (oi := ?oi19) (v := ?v19) ?ho19 (by kernel_rfl) (by kernel_rfl) (by kernel_rfl) ?hp19 ?hy19 hH0 ?hr19
      case ho19 => (simp only [List.getElem?_toArray, List.getElem?_cons_succ, List.getElem?_cons_zero]; exact rfl)
      case hp19 => exact fun _ _ _ h => h
      case hy19 => (refine Or.inl ⟨by rfl, ?_⟩; intro w hSw; (try dsimp only at hSw); go_simp; (try (with_reducible rfl)))
      case hr19 =>
      (try simp only [Act.put, List.setIfInBounds_toArray, List.set_cons_zero, List.set_cons_succ])
      refine wpAnyH_ready (rs := [1]) (by kernel_rfl) (by simp) (AllReadyH.cons (o := ?oi1) ?ho1 (fun K hK => ?hr1) AllReadyH.nil)
      case ho1 => (simp only [List.getElem?_toArray, List.getElem?_cons_succ, List.getElem?_cons_zero]; exact rfl)
      case hr1 =>
      go_simp
      refine Calls.mono (refNum_c X _ hX64) ?_
      rintro e w5 ⟨g5, cap5, rfl, own5, hb5⟩
      have HB5 : Below wr.heap.size wr w5 := bstep (drewB _) hb5
      have CA5 := hide (fun (w' : World) (hb : Below w5.heap.size w5 w') => conv28 w' g5 0 cap5 (form X) (own_conv (own_same own5 (fun k _ hlt => hb.block k hlt)) (form_pos X)))
      (try go_wp2_with fail)
      refine hK.out _ _ ?_ (fun hH1 => ?_)
      · exact ⟨HB5, fun o => (HB5.cell (p := ⟨h, o, none⟩) hh).trans (f1 o), CVW.out _ HB5⟩
      clear hK K own5 hb5 hH0
      (try simp only [Act.put, List.setIfInBounds_toArray, List.set_cons_zero, List.set_cons_succ])
      refine wpAnyH_mono (S2 := fun wq => (Below wr.heap.size wr wq ∧ (∀ o, wq.cell? ⟨h, o, none⟩ = (#[Value.slice (some ⟨b, off, none⟩) ns.length cap, Value.int .i64 (a : Int)] : Array Value)[o]?) ∧ Sem.run Try.prog (convert 28 9 (.slice (some ⟨b, off + a, none⟩) (E - a) (cap - a))) wq = .ok (.string SB) wq) ∧ Sem.run Try.prog (convert 28 9 (.slice (some ⟨g5, 0, none⟩) (form X).length cap5)) wq = .ok (.string (bstr (form X))) wq) (fun w h => h.1) _ _ _ _ ?_
      have hH2 := And.intro hH1 (CA5.out _ (Below.refl _ _))
      refine wpAnyH_take (i := 2) (oi := ?oi2) (v := ?v2) ?ho2 (by kernel_rfl) (by kernel_rfl) (by kernel_rfl) ?hp2 ?hy2 hH2 ?hr2
      case ho2 => (simp only [List.getElem?_toArray, List.getElem?_cons_succ, List.getElem?_cons_zero]; exact rfl)
      case hp2 => exact fun _ _ _ h => h
      case hy2 => (refine Or.inl ⟨by rfl, ?_⟩; intro w hSw; (try dsimp only at hSw); go_simp; (try (with_reducible rfl)))
      case hr2 =>
      (try simp only [Act.put, List.setIfInBounds_toArray, List.set_cons_zero, List.set_cons_succ])
      refine wpAnyH_take (i := 20) (oi := ?oi20) (v := ?v20) ?ho20 (by kernel_rfl) (by kernel_rfl) (by kernel_rfl) ?hp20 ?hy20 hH2 ?hr20
      case ho20 => (simp only [List.getElem?_toArray, List.getElem?_cons_succ, List.getElem?_cons_zero]; exact rfl)
      case hp20 => exact fun _ _ _ h => h
      case hy20 => (refine Or.inl ⟨by rfl, ?_⟩; intro w hSw; (try dsimp only at hSw); go_simp; (try (with_reducible rfl)))
      case hr20 =>
      (try simp only [Act.put, List.setIfInBounds_toArray, List.set_cons_zero, List.set_cons_succ])
      refine wpAnyH_done (by kernel_rfl) ?_ _
      have hD5 := HD2.out.below (rB.trans (HB5.mono hzr))
      have HD5 := hide hD5
      have HB6 := hide (bstep (bstep HB2.out rB) HB5)
      obtain ⟨k1, k2, k3, _, _, _, _, _⟩ := hD5
      clear f1 f2 hH1 hH2 e1 e2 e3 rB HB5
      go_wp2
      go_ret2
      refine ⟨?_, (Only.of_below HB6.out).set 1 _, ?_⟩
      · rw [HM.out, HXX.out]; rfl
      · rw [HM.out, HE.out]; exact HD5.out.move (by have := HE.out; omega)

set_option maxRecDepth 100000 in
set_option maxHeartbeats 4000000 in
theorem dNum_form (h cap : Nat) (ao : Option Addr) (ns : List Nat) (a : Nat) (w : World) (hD : DObj w h ao cap ns a) (hn : a < ns.length) (hs : 247 < ns.getD a 0) (hc : a + 1 + (ns.getD a 0 - 247) ≤ ns.length) (hs2 : (form (num ((ns.drop (a + 1)).take (ns.getD a 0 - 247)))).length ≠ 1 + (ns.getD a 0 - 247)) : Calls Try.prog 22 #[.pointer (some ⟨h, 0, none⟩)] w (fun e w' => e = .returned (.tuple #[.int .u64 (((0, 111, a) : Nat × Nat × Nat).1 : Int), .int .i64 (((0, 111, a) : Nat × Nat × Nat).2.1 : Int)]) ∧ Only h w w' ∧ DObj w' h ao cap ns ((0, 111, a) : Nat × Nat × Nat).2.2) := by
  have HS2 := hide hs2
  clear hs2
  have hD' := hide hD
  obtain ⟨d1, d2, d3, d4, d5, d6, d7, d8⟩ := hD
  have D4 := hide d4
  have D5 := hide d5
  clear d4 d5
  obtain ⟨b, off, hao, hb, hbh, hbc⟩ := D4.out (by rintro rfl; simp at hn)
  subst hao
  have HBC := hide hbc
  have hx : ¬ ((ns.length : Int) - (a : Int) < 1) := by omega
  have hf256 := getD_lt D5.out a
  have fa : w.cell? ⟨b, off + a, none⟩ = some (.int .u8 (ns.getD a 0 : Int)) := hbc a hn
  clear hbc
  generalize hfe : ns.getD a 0 = f at *
  have HFE := hide hfe
  clear hfe
  have hq : ¬ (ns.length : Int) - (a : Int) < 1 + ((f - 247 : Nat) : Int) := by omega
  have hf1 : ¬ (f : Int) ≤ 247 := by omega
  have hf3 : (f : Int) - 247 = ((f - 247 : Nat) : Int) := by omega
  have HF3 := hide hf3
  clear hf3
  go_enter Try.func22, Try.ntmps22
  go_wp2_with fail
  refine (dLeft_c h cap _ ns a _ hD'.out).mono ?_
  rintro e w1 ⟨rfl, hb1⟩
  have HD1 := hide (hD'.out.below hb1)
  have HB1 := hide hb1
  clear hb1
  obtain ⟨e1, e2, e3, _, _, _, _, _⟩ := HD1.out
  have fa1 : w1.cell? ⟨b, off + a, none⟩ = some (.int .u8 (f : Int)) := (HB1.out.cell (p := ⟨b, off + a, none⟩) hb).trans fa
  clear d2 d3 fa
  go_wp2
  go_quiet (fail)
  have hb1d : Below w.heap.size w (w1.drewN nq) := bdrewN HB1.out nq
  have HD1d := hide (HD1.out.below (bdrewN (Below.refl w1.heap.size w1) nq))
  have HB1d := hide hb1d
  clear hb1d
  go_wp2_with fail
  rw [HF3.out]
  refine (dLeft_c h cap _ ns a _ HD1d.out).mono ?_
  rintro e w2 ⟨rfl, hb2⟩
  have HB2 := hide (bstep HB1d.out hb2)
  have HD2 := hide (HD1d.out.below hb2)
  clear hb2 HB1d HD1d HD1 HB1 e1 e2 e3 fa1
  generalize hm : f - 247 = m at *
  have hm8 : m ≤ 8 := by omega
  have hm1 : 1 ≤ m := by omega
  have ham : a + 1 + m ≤ ns.length := by omega
  have hfm : f = 247 + m := by omega
  have HM := hide hm
  clear hm hf1 hq
  obtain ⟨e1, e2, e3, _, _, _, _, e8⟩ := HD2.out
  have BC2 := hide (show ∀ j, j < ns.length → w2.cell? ⟨b, off + j, none⟩ = some (.int .u8 (ns.getD j 0 : Int)) from fun j hj => (HB2.out.cell (p := ⟨b, off + j, none⟩) hb).trans (HBC.out j hj))
  have hb2z : b < w2.heap.size := Nat.lt_of_lt_of_le hb HB2.out.size
  go_wp2_with fail
  go_loopw [6, 7] (fun v6 v7 wr => ∃ j : Nat, j ≤ m ∧ v6 = .int .u64 (num ((ns.drop (a + 1)).take j) : Int) ∧ v7 = .int .i64 ((j : Int) + 1) ∧ Below w2.heap.size w2 wr) (fun _ v7 _ => m + 1 - (intOf v7).toNat)
  case atStart => exact ⟨0, Nat.zero_le _, rfl, rfl, by (focus repeat' (first | (with_reducible exact Below.refl _ _) | (with_reducible assumption) | (with_reducible refine Below.alloc ?_ ?_ _) | (with_reducible refine Below.drew ?_) | (with_reducible refine bdrewN ?_ _) | (with_reducible refine Below.setCell ?_ ?_ _) | (first | (with_reducible exact Nat.le_refl _) | (with_reducible assumption) | omega | (simp; omega) | (simp; done))))⟩
  case round =>
    obtain ⟨j, hj, rfl, rfl, rB⟩ := hrel
    have f1 : ∀ o, wr.cell? ⟨h, o, none⟩ = (#[Value.slice (some ⟨b, off, none⟩) ns.length cap, Value.int .i64 (a : Int)] : Array Value)[o]? := fun o => (rB.cell (p := ⟨h, o, none⟩) e1).trans (e2 o)
    have f2 : ∀ o, wr.frozen? ⟨h, o, none⟩ = false := fun o => (rB.frozen (p := ⟨h, o, none⟩) e1).trans (e3 o)
    have hzr : w2.heap.size ≤ wr.heap.size := rB.size
    have hh : h < wr.heap.size := by omega
    by_cases hlt : j < m
    · have hle : (j : Int) + 1 ≤ (m : Int) := by omega
      have c1 : wr.cell? ⟨b, off + (a + (j + 1)), none⟩ = some (.int .u8 (ns.getD (a + (j + 1)) 0 : Int)) := (rB.cell (p := ⟨b, off + (a + (j + 1)), none⟩) hb2z).trans (BC2.out (a + (j + 1)) (by omega))
      have hy : ns.getD (a + (j + 1)) 0 < 256 := getD_lt D5.out _
      have hnx := hide (show num ((ns.drop (a + 1)).take (j + 1)) = 256 * num ((ns.drop (a + 1)).take j) + ns.getD (a + (j + 1)) 0 from by
        rw [← num_app]
        congr 1
        rw [List.take_add_one]
        congr 1
        rw [show a + (j + 1) = a + 1 + j from by omega]
        simp [List.getD, show a + 1 + j < ns.length by omega])
      have hX : num ((ns.drop (a + 1)).take j) < 72057594037927936 := by
        have q := num_lt j ((ns.drop (a + 1)).take j) (by rw [List.length_take, List.length_drop]; omega) (fun x hx => D5.out x (List.mem_of_mem_drop (List.mem_of_mem_take hx)))
        have p : 256 ^ j ≤ 256 ^ 7 := Nat.pow_le_pow_right (by decide) (by omega)
        have p7 : (256 : Nat) ^ 7 = 72057594037927936 := by decide
        omega
      have hw1 : IntKind.i64.wrap ((a : Int) + ((j : Int) + 1)) = ((a + (j + 1) : Nat) : Int) := by (simp [IntKind.wrap, IntKind.bits, IntKind.signed]; omega)
      have hix : a + (j + 1) < ns.length := by omega
      generalize num ((ns.drop (a + 1)).take j) = X at *
      generalize ns.getD (a + (j + 1)) 0 = y at *
      generalize hk : a + (j + 1) = k at *
      have HK := hide hk
      clear hk
      go_wp2_with fail
      go_quiet (fail)
      go_wp2
      go_roundw
      case rel => exact ⟨j + 1, by omega, by rw [hnx.out]; first | rfl | go_num, by go_num, by (focus repeat' (first | (with_reducible exact Below.refl _ _) | (with_reducible assumption) | (with_reducible refine Below.alloc ?_ ?_ _) | (with_reducible refine Below.drew ?_) | (with_reducible refine bdrewN ?_ _) | (with_reducible refine Below.setCell ?_ ?_ _) | (first | (with_reducible exact Nat.le_refl _) | (with_reducible assumption) | omega | (simp; omega) | (simp; done))))⟩
      case measure => (first | (simp [intOf]; done) | (simp [intOf]; omega))
    · obtain rfl : j = m := by omega
      have hle : ¬ (j : Int) + 1 ≤ (j : Int) := by omega
      obtain ⟨E, hE⟩ : ∃ E, a + 1 + j = E := ⟨_, rfl⟩
      have hw0 : IntKind.i64.wrap ((a : Int) + 1) = (a : Int) + 1 := by (simp [IntKind.wrap, IntKind.bits, IntKind.signed]; omega)
      have hw1 : IntKind.i64.wrap ((a : Int) + 1 + (j : Int)) = (E : Int) := by (simp [IntKind.wrap, IntKind.bits, IntKind.signed]; omega)
      have hw2 : E ≤ cap := by omega
      have hw3 : a ≤ E := by omega
      have hw4 : 1 + j = E - a := by omega
      have hca : ¬ cap = a := by omega
      have hrlen : ((ns.drop a).take (1 + j)).length = 1 + j := by (rw [List.length_take, List.length_drop]; omega)
      have hrow : (ns.drop a).take (1 + j) = f :: (ns.drop (a + 1)).take j := by
        rw [List.drop_eq_getElem_cons hn, Nat.add_comm 1 j, List.take_succ_cons]
        congr 1
        rw [← HFE.out]; simp [List.getD, hn]
      have CVW := hide (show ∀ w', Below wr.heap.size wr w' → Sem.run Try.prog (convert 28 9 (.slice (some ⟨b, off + a, none⟩) (E - a) (cap - a))) w' = .ok (.string (bstr (f :: (ns.drop (a + 1)).take j))) w' from fun w' hb' => by
        have q := conv28 w' b (off + a) (cap - a) ((ns.drop a).take (1 + j)) (fun i hi => by
          rw [hrlen] at hi
          have q := (hb'.cell (p := ⟨b, off + (a + i), none⟩) (show b < wr.heap.size by omega)).trans ((rB.cell (p := ⟨b, off + (a + i), none⟩) hb2z).trans (BC2.out (a + i) (by omega)))
          rw [← Nat.add_assoc] at q
          rw [q]
          simp [List.getD, hi, show a + i < ns.length by omega])
        rw [hrlen, hrow, hw4] at q
        exact q)
      have CV1 := CVW.out wr.drew (drewB _)
      have hH0 : Below wr.heap.size wr wr.drew ∧ (∀ o, wr.drew.cell? ⟨h, o, none⟩ = (#[Value.slice (some ⟨b, off, none⟩) ns.length cap, Value.int .i64 (a : Int)] : Array Value)[o]?) ∧ Sem.run Try.prog (convert 28 9 (.slice (some ⟨b, off + a, none⟩) (E - a) (cap - a))) wr.drew = .ok (.string (bstr (f :: (ns.drop (a + 1)).take j))) wr.drew := ⟨drewB _, fun o => by rw [World.cell?_drew]; exact f1 o, CV1⟩
      have HE := hide hE
      have HW4 := hide hw4
      clear hrow hrlen hE hw4
      have hX64 : num ((ns.drop (a + 1)).take j) < 18446744073709551616 := by
        have q := num_lt j ((ns.drop (a + 1)).take j) (by rw [List.length_take, List.length_drop]; omega) (fun x hx => D5.out x (List.mem_of_mem_drop (List.mem_of_mem_take hx)))
        have p : 256 ^ j ≤ 256 ^ 8 := Nat.pow_le_pow_right (by decide) (by omega)
        have p8 : (256 : Nat) ^ 8 = 18446744073709551616 := by decide
        omega
      have hlt256 : ∀ x ∈ (ns.drop (a + 1)).take j, x < 256 := fun x hx => D5.out x (List.mem_of_mem_drop (List.mem_of_mem_take hx))
      have hEq : ((bstr (form (num ((ns.drop (a + 1)).take j)))).toList == (bstr (f :: (ns.drop (a + 1)).take j)).toList) = false := by
        rw [bstr_list, bstr_list]
        have hcan := form_canon (f := f) (l := (ns.drop (a + 1)).take j) (by omega) (by rw [List.length_take, List.length_drop]; omega) hlt256
        have hs2 := HS2.out
        rw [HM.out] at hcan
        have q : u8s (form (num ((ns.drop (a + 1)).take j))) ≠ u8s (f :: (ns.drop (a + 1)).take j) := fun e => hs2 (hcan.1 (u8s_inj _ _ (form_lt hX64) (by intro x hx; rcases List.mem_cons.1 hx with rfl | hx; exact hf256; exact hlt256 x hx) e))
        simp [q]
      clear hlt256
      generalize hbs : bstr (f :: (ns.drop (a + 1)).take j) = SB at *
      generalize hxx : num ((ns.drop (a + 1)).take j) = X at *
      have HBS := hide hbs
      have HXX := hide hxx
      clear hbs hxx CV1
      go_wp2_with fail
      refine wp_region_held_drew (S := fun wq => Below wr.heap.size wr wq ∧ (∀ o, wq.cell? ⟨h, o, none⟩ = (#[Value.slice (some ⟨b, off, none⟩) ns.length cap, Value.int .i64 (a : Int)] : Array Value)[o]?) ∧ Sem.run Try.prog (convert 28 9 (.slice (some ⟨b, off + a, none⟩) (E - a) (cap - a))) wq = .ok (.string SB) wq) (by kernel_rfl) hH0 (fun _ => ?_)
      refine wpAnyH_take (i := 0) (oi := ?oi0) (v := ?v0) ?ho0 (by kernel_rfl) (by kernel_rfl) (by kernel_rfl) ?hp0 ?hy0 hH0 ?hr0
      case ho0 => (simp only [List.getElem?_toArray, List.getElem?_cons_succ, List.getElem?_cons_zero]; exact rfl)
      case hp0 => exact fun _ _ _ h => h
      case hy0 => (refine Or.inl ⟨by rfl, ?_⟩; intro w hSw; (try dsimp only at hSw); go_simp; (try (with_reducible rfl)))
      case hr0 =>
      (try simp only [Act.put, List.setIfInBounds_toArray, List.set_cons_zero, List.set_cons_succ])
      refine wpAnyH_take (i := 3) (oi := ?oi3) (v := ?v3) ?ho3 (by kernel_rfl) (by kernel_rfl) (by kernel_rfl) ?hp3 ?hy3 hH0 ?hr3
      case ho3 => (simp only [List.getElem?_toArray, List.getElem?_cons_succ, List.getElem?_cons_zero]; exact rfl)
      case hp3 => exact fun _ _ _ h => h
      case hy3 => (refine Or.inl ⟨by rfl, ?_⟩; intro w hSw; (try dsimp only at hSw); go_simp; (try (with_reducible rfl)))
      case hr3 =>
      (try simp only [Act.put, List.setIfInBounds_toArray, List.set_cons_zero, List.set_cons_succ])
      refine wpAnyH_take (i := 4) (oi := ?oi4) (v := ?v4) ?ho4 (by kernel_rfl) (by kernel_rfl) (by kernel_rfl) ?hp4 ?hy4 hH0 ?hr4
      case ho4 => (simp only [List.getElem?_toArray, List.getElem?_cons_succ, List.getElem?_cons_zero]; exact rfl)
      case hp4 => exact fun _ _ _ h => h
      case hy4 => (refine Or.inl ⟨by rfl, ?_⟩; intro w hSw; (try dsimp only at hSw); go_simp; (try (with_reducible rfl)))
      case hr4 =>
      (try simp only [Act.put, List.setIfInBounds_toArray, List.set_cons_zero, List.set_cons_succ])
      refine wpAnyH_take (i := 5) (oi := ?oi5) (v := ?v5) ?ho5 (by kernel_rfl) (by kernel_rfl) (by kernel_rfl) ?hp5 ?hy5 hH0 ?hr5
      case ho5 => (simp only [List.getElem?_toArray, List.getElem?_cons_succ, List.getElem?_cons_zero]; exact rfl)
      case hp5 => exact fun _ _ _ h => h
      case hy5 => (refine Or.inl ⟨by rfl, ?_⟩; intro w hSw; (try dsimp only at hSw); go_simp; (try (with_reducible rfl)))
      case hr5 =>
      (try simp only [Act.put, List.setIfInBounds_toArray, List.set_cons_zero, List.set_cons_succ])
      refine wpAnyH_take (i := 6) (oi := ?oi6) (v := ?v6) ?ho6 (by kernel_rfl) (by kernel_rfl) (by kernel_rfl) ?hp6 ?hy6 hH0 ?hr6
      case ho6 => (simp only [List.getElem?_toArray, List.getElem?_cons_succ, List.getElem?_cons_zero]; exact rfl)
      case hp6 => exact fun _ _ _ h => h
      case hy6 => (refine Or.inl ⟨by rfl, ?_⟩; intro w hSw; (try dsimp only at hSw); go_simp; (try (with_reducible rfl)))
      case hr6 =>
      (try simp only [Act.put, List.setIfInBounds_toArray, List.set_cons_zero, List.set_cons_succ])
      refine wpAnyH_take (i := 7) (oi := ?oi7) (v := ?v7) ?ho7 (by kernel_rfl) (by kernel_rfl) (by kernel_rfl) ?hp7 ?hy7 hH0 ?hr7
      case ho7 => (simp only [List.getElem?_toArray, List.getElem?_cons_succ, List.getElem?_cons_zero]; exact rfl)
      case hp7 => exact fun _ _ _ h => h
      case hy7 => (refine Or.inl ⟨by rfl, ?_⟩; intro w hSw; (try dsimp only at hSw); go_simp; (try (with_reducible rfl)))
      case hr7 =>
      (try simp only [Act.put, List.setIfInBounds_toArray, List.set_cons_zero, List.set_cons_succ])
      refine wpAnyH_take (i := 8) (oi := ?oi8) (v := ?v8) ?ho8 (by kernel_rfl) (by kernel_rfl) (by kernel_rfl) ?hp8 ?hy8 hH0 ?hr8
      case ho8 => (simp only [List.getElem?_toArray, List.getElem?_cons_succ, List.getElem?_cons_zero]; exact rfl)
      case hp8 => exact fun _ _ _ h => h
      case hy8 => (refine Or.inl ⟨by rfl, ?_⟩; intro w hSw; (try dsimp only at hSw); go_simp; (try (with_reducible rfl)))
      case hr8 =>
      (try simp only [Act.put, List.setIfInBounds_toArray, List.set_cons_zero, List.set_cons_succ])
      refine wpAnyH_take (i := 9) (oi := ?oi9) (v := ?v9) ?ho9 (by kernel_rfl) (by kernel_rfl) (by kernel_rfl) ?hp9 ?hy9 hH0 ?hr9
      case ho9 => (simp only [List.getElem?_toArray, List.getElem?_cons_succ, List.getElem?_cons_zero]; exact rfl)
      case hp9 => exact fun _ _ _ h => h
      case hy9 => (refine Or.inl ⟨by rfl, ?_⟩; intro w hSw; (try dsimp only at hSw); go_simp; (try (with_reducible rfl)))
      case hr9 =>
      (try simp only [Act.put, List.setIfInBounds_toArray, List.set_cons_zero, List.set_cons_succ])
      refine wpAnyH_take (i := 10) (oi := ?oi10) (v := ?v10) ?ho10 (by kernel_rfl) (by kernel_rfl) (by kernel_rfl) ?hp10 ?hy10 hH0 ?hr10
      case ho10 => (simp only [List.getElem?_toArray, List.getElem?_cons_succ, List.getElem?_cons_zero]; exact rfl)
      case hp10 => exact fun _ _ _ h => h
      case hy10 => (refine Or.inl ⟨by rfl, ?_⟩; intro w hSw; (try dsimp only at hSw); go_simp; (try (with_reducible rfl)))
      case hr10 =>
      (try simp only [Act.put, List.setIfInBounds_toArray, List.set_cons_zero, List.set_cons_succ])
      refine wpAnyH_take (i := 11) (oi := ?oi11) (v := ?v11) ?ho11 (by kernel_rfl) (by kernel_rfl) (by kernel_rfl) ?hp11 ?hy11 hH0 ?hr11
      case ho11 => (simp only [List.getElem?_toArray, List.getElem?_cons_succ, List.getElem?_cons_zero]; exact rfl)
      case hp11 => exact fun _ _ _ h => h
      case hy11 => (refine Or.inl ⟨by rfl, ?_⟩; intro w hSw; (try dsimp only at hSw); go_simp; (try (with_reducible rfl)))
      case hr11 =>
      (try simp only [Act.put, List.setIfInBounds_toArray, List.set_cons_zero, List.set_cons_succ])
      refine wpAnyH_take (i := 12) (oi := ?oi12) (v := ?v12) ?ho12 (by kernel_rfl) (by kernel_rfl) (by kernel_rfl) ?hp12 ?hy12 hH0 ?hr12
      case ho12 => (simp only [List.getElem?_toArray, List.getElem?_cons_succ, List.getElem?_cons_zero]; exact rfl)
      case hp12 => exact fun _ _ _ h => h
      case hy12 => (refine Or.inl ⟨by rfl, ?_⟩; intro w hSw; (try dsimp only at hSw); go_simp; (try (with_reducible rfl)))
      case hr12 =>
      (try simp only [Act.put, List.setIfInBounds_toArray, List.set_cons_zero, List.set_cons_succ])
      refine wpAnyH_take (i := 13) (oi := ?oi13) (v := ?v13) ?ho13 (by kernel_rfl) (by kernel_rfl) (by kernel_rfl) ?hp13 ?hy13 hH0 ?hr13
      case ho13 => (simp only [List.getElem?_toArray, List.getElem?_cons_succ, List.getElem?_cons_zero]; exact rfl)
      case hp13 => exact fun _ _ _ h => h
      case hy13 => (refine Or.inl ⟨by rfl, ?_⟩; intro w hSw; (try dsimp only at hSw); go_simp; (try (with_reducible rfl)))
      case hr13 =>
      (try simp only [Act.put, List.setIfInBounds_toArray, List.set_cons_zero, List.set_cons_succ])
      refine wpAnyH_take (i := 14) (oi := ?oi14) (v := ?v14) ?ho14 (by kernel_rfl) (by kernel_rfl) (by kernel_rfl) ?hp14 ?hy14 hH0 ?hr14
      case ho14 => (simp only [List.getElem?_toArray, List.getElem?_cons_succ, List.getElem?_cons_zero]; exact rfl)
      case hp14 => exact fun _ _ _ h => h
      case hy14 => (refine Or.inl ⟨by rfl, ?_⟩; intro w hSw; (try dsimp only at hSw); go_simp; (try (with_reducible rfl)))
      case hr14 =>
      (try simp only [Act.put, List.setIfInBounds_toArray, List.set_cons_zero, List.set_cons_succ])
      refine wpAnyH_take (i := 15) (oi := ?oi15) (v := ?v15) ?ho15 (by kernel_rfl) (by kernel_rfl) (by kernel_rfl) ?hp15 ?hy15 hH0 ?hr15
      case ho15 => (simp only [List.getElem?_toArray, List.getElem?_cons_succ, List.getElem?_cons_zero]; exact rfl)
      case hp15 => exact fun _ _ _ h => h
      case hy15 => (refine Or.inl ⟨by rfl, ?_⟩; intro w hSw; (try dsimp only at hSw); go_simp; (try (with_reducible rfl)))
      case hr15 =>
      (try simp only [Act.put, List.setIfInBounds_toArray, List.set_cons_zero, List.set_cons_succ])
      refine wpAnyH_take (i := 16) (oi := ?oi16) (v := ?v16) ?ho16 (by kernel_rfl) (by kernel_rfl) (by kernel_rfl) ?hp16 ?hy16 hH0 ?hr16
      case ho16 => (simp only [List.getElem?_toArray, List.getElem?_cons_succ, List.getElem?_cons_zero]; exact rfl)
      case hp16 => exact fun _ _ _ h => h
      case hy16 => (refine Or.inl ⟨by rfl, ?_⟩; intro w hSw; (try dsimp only at hSw); go_simp; (try (with_reducible rfl)))
      case hr16 =>
      (try simp only [Act.put, List.setIfInBounds_toArray, List.set_cons_zero, List.set_cons_succ])
      refine wpAnyH_take (i := 17) (oi := ?oi17) (v := ?v17) ?ho17 (by kernel_rfl) (by kernel_rfl) (by kernel_rfl) ?hp17 ?hy17 hH0 ?hr17
      case ho17 => (simp only [List.getElem?_toArray, List.getElem?_cons_succ, List.getElem?_cons_zero]; exact rfl)
      case hp17 => exact fun _ _ _ h => h
      case hy17 => (refine Or.inl ⟨by rfl, ?_⟩; intro w hSw; (try dsimp only at hSw); go_simp; (try (with_reducible rfl)))
      case hr17 =>
      (try simp only [Act.put, List.setIfInBounds_toArray, List.set_cons_zero, List.set_cons_succ])
      refine wpAnyH_take (i := 18) (oi := ?oi18) (v := ?v18) ?ho18 (by kernel_rfl) (by kernel_rfl) (by kernel_rfl) ?hp18 ?hy18 hH0 ?hr18
      case ho18 => (simp only [List.getElem?_toArray, List.getElem?_cons_succ, List.getElem?_cons_zero]; exact rfl)
      case hp18 => exact fun _ _ _ h => h
      case hy18 => (refine Or.inl ⟨by rfl, ?_⟩; intro w hSw; (try dsimp only at hSw); go_simp; (try (with_reducible rfl)))
      case hr18 =>
      (try simp only [Act.put, List.setIfInBounds_toArray, List.set_cons_zero, List.set_cons_succ])
      refine wpAnyH_take (i := 19) (oi := ?oi19) (v := ?v19) ?ho19 (by kernel_rfl) (by kernel_rfl) (by kernel_rfl) ?hp19 ?hy19 hH0 ?hr19
      case ho19 => (simp only [List.getElem?_toArray, List.getElem?_cons_succ, List.getElem?_cons_zero]; exact rfl)
      case hp19 => exact fun _ _ _ h => h
      case hy19 => (refine Or.inl ⟨by rfl, ?_⟩; intro w hSw; (try dsimp only at hSw); go_simp; (try (with_reducible rfl)))
      case hr19 =>
      (try simp only [Act.put, List.setIfInBounds_toArray, List.set_cons_zero, List.set_cons_succ])
      refine wpAnyH_ready (rs := [1]) (by kernel_rfl) (by simp) (AllReadyH.cons (o := ?oi1) ?ho1 (fun K hK => ?hr1) AllReadyH.nil)
      case ho1 => (simp only [List.getElem?_toArray, List.getElem?_cons_succ, List.getElem?_cons_zero]; exact rfl)
      case hr1 =>
      go_simp
      refine Calls.mono (refNum_c X _ hX64) ?_
      rintro e w5 ⟨g5, cap5, rfl, own5, hb5⟩
      have HB5 : Below wr.heap.size wr w5 := bstep (drewB _) hb5
      have CA5 := hide (fun (w' : World) (hb : Below w5.heap.size w5 w') => conv28 w' g5 0 cap5 (form X) (own_conv (own_same own5 (fun k _ hlt => hb.block k hlt)) (form_pos X)))
      (try go_wp2_with fail)
      refine hK.out _ _ ?_ (fun hH1 => ?_)
      · exact ⟨HB5, fun o => (HB5.cell (p := ⟨h, o, none⟩) hh).trans (f1 o), CVW.out _ HB5⟩
      clear hK K own5 hb5 hH0
      (try simp only [Act.put, List.setIfInBounds_toArray, List.set_cons_zero, List.set_cons_succ])
      refine wpAnyH_mono (S2 := fun wq => (Below wr.heap.size wr wq ∧ (∀ o, wq.cell? ⟨h, o, none⟩ = (#[Value.slice (some ⟨b, off, none⟩) ns.length cap, Value.int .i64 (a : Int)] : Array Value)[o]?) ∧ Sem.run Try.prog (convert 28 9 (.slice (some ⟨b, off + a, none⟩) (E - a) (cap - a))) wq = .ok (.string SB) wq) ∧ Sem.run Try.prog (convert 28 9 (.slice (some ⟨g5, 0, none⟩) (form X).length cap5)) wq = .ok (.string (bstr (form X))) wq) (fun w h => h.1) _ _ _ _ ?_
      have hH2 := And.intro hH1 (CA5.out _ (Below.refl _ _))
      refine wpAnyH_take (i := 2) (oi := ?oi2) (v := ?v2) ?ho2 (by kernel_rfl) (by kernel_rfl) (by kernel_rfl) ?hp2 ?hy2 hH2 ?hr2
      case ho2 => (simp only [List.getElem?_toArray, List.getElem?_cons_succ, List.getElem?_cons_zero]; exact rfl)
      case hp2 => exact fun _ _ _ h => h
      case hy2 => (refine Or.inl ⟨by rfl, ?_⟩; intro w hSw; (try dsimp only at hSw); go_simp; (try (with_reducible rfl)))
      case hr2 =>
      (try simp only [Act.put, List.setIfInBounds_toArray, List.set_cons_zero, List.set_cons_succ])
      refine wpAnyH_take (i := 20) (oi := ?oi20) (v := ?v20) ?ho20 (by kernel_rfl) (by kernel_rfl) (by kernel_rfl) ?hp20 ?hy20 hH2 ?hr20
      case ho20 => (simp only [List.getElem?_toArray, List.getElem?_cons_succ, List.getElem?_cons_zero]; exact rfl)
      case hp20 => exact fun _ _ _ h => h
      case hy20 => (refine Or.inl ⟨by rfl, ?_⟩; intro w hSw; (try dsimp only at hSw); go_simp; (try (with_reducible rfl)))
      case hr20 =>
      (try simp only [Act.put, List.setIfInBounds_toArray, List.set_cons_zero, List.set_cons_succ])
      refine wpAnyH_done (by kernel_rfl) ?_ _
      have hD5 := HD2.out.below (rB.trans (HB5.mono hzr))
      have HD5 := hide hD5
      have HB6 := hide (bstep (bstep HB2.out rB) HB5)
      obtain ⟨k1, k2, k3, _, _, _, _, _⟩ := hD5
      clear f1 f2 hH1 hH2 e1 e2 e3 rB HB5
      go_wp2
      go_ret2
      exact ⟨rfl, Only.of_below HB6.out, HD5.out⟩
end Go.Proofs.Ytajkgecegefnmaa

namespace Go.Proofs.Ytajkgecegefnmaa
open Go.ChangeShapes Go.WideShapes Go.ChangeAt Go.RowKit Go.Deep
set_option linter.unusedSimpArgs false
set_option linter.unusedVariables false

/-- what 'pair' answers -/
def pa (ns : List Nat) (a : Nat) : Nat := if (rd ns a).2.1 ≠ 0 then 0 else (rd ns a).1
def pb (ns : List Nat) (a : Nat) : Nat := if (rd ns a).2.1 ≠ 0 then 0 else (rd ns (rd ns a).2.2).1
def pe (ns : List Nat) (a : Nat) : Nat := if (rd ns a).2.1 ≠ 0 then (rd ns a).2.1 else (rd ns (rd ns a).2.2).2.1
def pp (ns : List Nat) (a : Nat) : Nat := if (rd ns a).2.1 ≠ 0 then (rd ns a).2.2 else (rd ns (rd ns a).2.2).2.2
theorem eql44 (a b : Array Value) (w : World) : Sem.run Try.prog (binOp .eql 44 (.func (.func 21) a b) Value.nilFunc) w = .ok (.bool false) w := by kernel_rfl
theorem info43 : (Try.prog.info? 43).map (fun i => (i.zero, i.size, i.bytes)) = some (some (.agg #[.int .u64 0, .int .u64 0]), 2, 16) := by kernel_rfl

theorem Only.trans_b {g : Nat} {w w1 w2 : World} (h : Below w.heap.size w w1) (k : Only g w1 w2) : Only g w w2 :=
  ⟨k.os.trans h.os, k.tape.trans h.tape, k.output.trans h.output, Nat.le_trans h.size k.size, fun i hi h1 => (k.block i (Nat.lt_of_lt_of_le hi h.size) h1).trans (h.block i hi)⟩
theorem Only.trans {g : Nat} {w w1 w2 : World} (h : Only g w w1) (k : Only g w1 w2) : Only g w w2 :=
  ⟨k.os.trans h.os, k.tape.trans h.tape, k.output.trans h.output, Nat.le_trans h.size k.size, fun i hi h1 => (k.block i (Nat.lt_of_lt_of_le hi h.size) h1).trans (h.block i hi h1)⟩
theorem Only.set_new {g h : Nat} {w w1 : World} (k : Only g w w1) (hh : w.heap.size ≤ h) (o : Nat) (u : Value) : Only g w (w1.setCell ⟨h, o, none⟩ u) :=
  ⟨k.os, k.tape, k.output, by simp; exact k.size, fun i hi h1 => (Below.heap_setCell _ _ _ _ (by show i ≠ h; omega)).trans (k.block i hi h1)⟩

set_option maxRecDepth 100000 in
set_option maxHeartbeats 1000000 in
theorem pair_bad (g B : Nat) (ns : List Nat) (a : Nat) (w : World) (hR : RAny w g B ns a) (hE : (rd ns a).2.1 ≠ 0) : Calls Try.prog 21 #[.pointer (some ⟨g, 0, none⟩)] w (fun e w' => e = .returned (.tuple #[.agg #[.int .u64 (0 : Int), .int .u64 (0 : Int)], .int .i64 ((rd ns a).2.1 : Int)]) ∧ Only g w w' ∧ RAny w' g B ns (rd ns a).2.2) := by
  have hE2 : ((rd ns a).2.1 : Int) ≠ 0 := by omega
  have hB0 : Below w.heap.size w (w.alloc (.cells #[.int .u64 0, .int .u64 0] 43)) := by (focus repeat' (first | (with_reducible exact Below.refl _ _) | (with_reducible assumption) | (with_reducible refine Below.alloc ?_ ?_ _) | (with_reducible refine Below.drew ?_) | (with_reducible refine bdrewN ?_ _) | (with_reducible refine Below.setCell ?_ ?_ _) | (first | (with_reducible exact Nat.le_refl _) | (with_reducible assumption) | omega | (simp; omega) | (simp; done))))
  have HR0 := hide (hR.below hB0)
  have HB0 := hide hB0
  have hg : g < w.heap.size := hR.cells.1
  have hb : B ≤ w.heap.size := hR.1
  clear hR hB0
  go_enter Try.func21, Try.ntmps21
  go_wp2_with fail
  refine (RNum_any g B ns a _ HR0.out).mono ?_
  rintro e w1 ⟨rfl, ho1, hR1⟩
  have HR1 := hide hR1
  have hO1 := hide (Only.trans_b HB0.out ho1)
  have x1 : ∀ o, w1.cell? ⟨w.heap.size, o, none⟩ = (#[Value.int .u64 0, Value.int .u64 0] : Array Value)[o]? := fun o => (World.cell?_of_block (ho1.block w.heap.size (by simp) (by omega))).trans (by simp [go_sem])
  have x2 : ∀ o, w1.frozen? ⟨w.heap.size, o, none⟩ = false := fun o => (World.frozen?_of_block (ho1.block w.heap.size (by simp) (by omega))).trans (by simp [go_sem])
  have x3 : w.heap.size < w1.heap.size := Nat.lt_of_lt_of_le (by simp) ho1.size
  clear ho1 hR1 HR0 HB0
  go_wp2_with (go_at_call 23; go_in)
  refine bodyPost_ret (v := .tuple #[.agg #[.int .u64 0, .int .u64 0], .int .i64 ((rd ns a).2.1 : Int)]) (by simp [results, Try.results21, go_sem, *]) rfl ⟨rfl, ?_, ?_⟩
  · exact (hO1.out.set_new (Nat.le_refl _) 0 _).set_new (Nat.le_refl _) 1 _
  · exact (HR1.out.set (by omega) hb 0 _).set (by omega) hb 1 _

set_option maxRecDepth 100000 in
set_option maxHeartbeats 1000000 in
theorem pair_ok (g B : Nat) (ns : List Nat) (a : Nat) (w : World) (hR : RAny w g B ns a) (hE : (rd ns a).2.1 = 0) : Calls Try.prog 21 #[.pointer (some ⟨g, 0, none⟩)] w (fun e w' => e = .returned (.tuple #[.agg #[.int .u64 ((rd ns a).1 : Int), .int .u64 ((rd ns (rd ns a).2.2).1 : Int)], .int .i64 ((rd ns (rd ns a).2.2).2.1 : Int)]) ∧ Only g w w' ∧ RAny w' g B ns (rd ns (rd ns a).2.2).2.2) := by
  have hB0 : Below w.heap.size w (w.alloc (.cells #[.int .u64 0, .int .u64 0] 43)) := by (focus repeat' (first | (with_reducible exact Below.refl _ _) | (with_reducible assumption) | (with_reducible refine Below.alloc ?_ ?_ _) | (with_reducible refine Below.drew ?_) | (with_reducible refine bdrewN ?_ _) | (with_reducible refine Below.setCell ?_ ?_ _) | (first | (with_reducible exact Nat.le_refl _) | (with_reducible assumption) | omega | (simp; omega) | (simp; done))))
  have HR0 := hide (hR.below hB0)
  have HB0 := hide hB0
  have hg : g < w.heap.size := hR.cells.1
  have hb : B ≤ w.heap.size := hR.1
  clear hR hB0
  go_enter Try.func21, Try.ntmps21
  go_wp2_with fail
  refine (RNum_any g B ns a _ HR0.out).mono ?_
  rw [hE]
  rintro e w1 ⟨rfl, ho1, hR1⟩
  have HR1 := hide hR1
  have hO1 := hide (Only.trans_b HB0.out ho1)
  have x1 : ∀ o, w1.cell? ⟨w.heap.size, o, none⟩ = (#[Value.int .u64 0, Value.int .u64 0] : Array Value)[o]? := fun o => (World.cell?_of_block (ho1.block w.heap.size (by simp) (by omega))).trans (by simp [go_sem])
  have x2 : ∀ o, w1.frozen? ⟨w.heap.size, o, none⟩ = false := fun o => (World.frozen?_of_block (ho1.block w.heap.size (by simp) (by omega))).trans (by simp [go_sem])
  have x3 : w.heap.size < w1.heap.size := Nat.lt_of_lt_of_le (by simp) ho1.size
  clear ho1 hR1 HR0 HB0
  go_wp2_with (first | (go_at_call 23; go_in) | (go_at_call 40; refine (RNum_any g B ns _ _ HR1.out).mono ?_; rintro e w2 ⟨rfl, ho2, hR2⟩; have HR2 := hide hR2; have hO2 := hide (hO1.out.trans ho2); have y1 : ∀ o, w2.cell? ⟨w.heap.size, o, none⟩ = (#[Value.int .u64 0, Value.int .u64 0] : Array Value)[o]? := fun o => (World.cell?_of_block (ho2.block w.heap.size x3 (by omega))).trans (x1 o); have y2 : ∀ o, w2.frozen? ⟨w.heap.size, o, none⟩ = false := fun o => (World.frozen?_of_block (ho2.block w.heap.size x3 (by omega))).trans (x2 o); have y3 : w.heap.size < w2.heap.size := Nat.lt_of_lt_of_le x3 ho2.size; clear x1 x2 ho2 hR2 HR1 hO1))
  refine bodyPost_ret (v := .tuple #[.agg #[.int .u64 ((rd ns a).1 : Int), .int .u64 ((rd ns (rd ns a).2.2).1 : Int)], .int .i64 ((rd ns (rd ns a).2.2).2.1 : Int)]) (by simp [results, Try.results21, go_sem, *]) rfl ⟨rfl, ?_, ?_⟩
  · exact (hO2.out.set_new (Nat.le_refl _) 0 _).set_new (Nat.le_refl _) 1 _
  · exact (HR2.out.set (by omega) hb 0 _).set (by omega) hb 1 _

theorem elt_P (g B : Nat) (ns : List Nat) (a : Nat) (w : World) (hR : RAny w g B ns a) : Calls Try.prog 21 #[.pointer (some ⟨g, 0, none⟩)] w (fun e w' => e = .returned (.tuple #[.agg #[.int .u64 (pa ns a : Int), .int .u64 (pb ns a : Int)], .int .i64 (pe ns a : Int)]) ∧ Only g w w' ∧ RAny w' g B ns (pp ns a)) := by
  by_cases hE : (rd ns a).2.1 = 0
  · have e1 : pa ns a = (rd ns a).1 := by unfold pa; rw [if_neg (by omega)]
    have e2 : pb ns a = (rd ns (rd ns a).2.2).1 := by unfold pb; rw [if_neg (by omega)]
    have e3 : pe ns a = (rd ns (rd ns a).2.2).2.1 := by unfold pe; rw [if_neg (by omega)]
    have e4 : pp ns a = (rd ns (rd ns a).2.2).2.2 := by unfold pp; rw [if_neg (by omega)]
    rw [e1, e2, e3, e4]; exact pair_ok g B ns a w hR hE
  · have e1 : pa ns a = 0 := by unfold pa; rw [if_pos hE]
    have e2 : pb ns a = 0 := by unfold pb; rw [if_pos hE]
    have e3 : pe ns a = (rd ns a).2.1 := by unfold pe; rw [if_pos hE]
    have e4 : pp ns a = (rd ns a).2.2 := by unfold pp; rw [if_pos hE]
    rw [e1, e2, e3, e4]; exact pair_bad g B ns a w hR hE
end Go.Proofs.Ytajkgecegefnmaa

namespace Go.Proofs.Ytajkgecegefnmaa
open Go.ChangeShapes Go.WideShapes Go.ChangeAt Go.RowKit Go.Deep
set_option linter.unusedSimpArgs false
set_option linter.unusedVariables false

def RP (ns : List Nat) (a : Nat) : Value × Nat × Nat := (.agg #[.int .u64 (pa ns a : Int), .int .u64 (pb ns a : Int)], pe ns a, pp ns a)
/-- the cells of a row of things -/
def flat (xs : List Value) : List Value := xs.flatMap (fun v => v.cells.toList)
theorem flat_snoc (xs : List Value) (x y : Value) : flat (xs ++ [.agg #[x, y]]) = flat xs ++ [x, y] := by unfold flat; rw [List.flatMap_append]; rfl
theorem cell_two_new (w : World) (x y : Value) (t : TypeId) : ∀ j u, [x, y][j]? = some u → (w.alloc (.cells #[x, y] t)).cell? ((⟨w.heap.size, 0, none⟩ : Addr).add j) = some u := by
  intro j u hj
  rcases j with _ | _ | j
  · simp at hj; subst hj; simp [go_sem, Addr.add]
  · simp at hj; subst hj; simp [go_sem, Addr.add]
  · simp at hj
theorem cell_two_at (w : World) (b : Nat) (hb : w.heap.size = b) (x y : Value) (t : TypeId) : ∀ j u, [x, y][j]? = some u → (w.alloc (.cells #[x, y] t)).cell? ((⟨b, 0, none⟩ : Addr).add j) = some u := by subst hb; exact cell_two_new w x y t
theorem one_P (ns : List Nat) (p : Nat) : True := trivial

set_option maxRecDepth 100000 in
set_option maxHeartbeats 1000000 in
theorem tk_P_neg (g B B0 Br Bm Bt Bo bb : Nat) (ns : List Nat) (a : Nat) (m : Int) (w : World) (hR : RAny w g B ns a) (hB : ∀ o, w.cell? ⟨Br, o, none⟩ = (#[Value.pointer (some ⟨g, 0, none⟩)] : Array Value)[o]?) (hM : ∀ o, w.cell? ⟨Bm, o, none⟩ = (#[Value.int .i64 m] : Array Value)[o]?) (hT : ∀ o, w.cell? ⟨Bt, o, none⟩ = (#[Value.func (.func 21) #[] #[]] : Array Value)[o]?) (hO : ∀ o, w.cell? ⟨Bo, o, none⟩ = (#[Value.slice (some ⟨bb, 0, none⟩) 0 0] : Array Value)[o]?) (hOf : ∀ o, w.frozen? ⟨Bo, o, none⟩ = false) (hown : w.ownsRow B0 43 2 (.slice (some ⟨bb, 0, none⟩) 0 0) 0 []) (zB : Br < w.heap.size) (zM : Bm < w.heap.size) (zT : Bt < w.heap.size) (zO : Bo < w.heap.size) (hg : g < B0) (hBB : B ≤ B0) (hB0 : B0 ≤ Br ∧ B0 ≤ Bm ∧ B0 ≤ Bt ∧ B0 ≤ Bo) (hne : Br ≠ bb ∧ Bm ≠ bb ∧ Bt ≠ bb ∧ Bo ≠ bb) (hne2 : Bo ≠ Br ∧ Bo ≠ Bm ∧ Bo ≠ Bt) (hm : m < 0) : Calls Try.prog 53 #[.pointer (some ⟨Bt, 0, none⟩), .pointer (some ⟨Bm, 0, none⟩), .pointer (some ⟨Br, 0, none⟩), .pointer (some ⟨Bo, 0, none⟩)] w (fun e w' => ∃ v a', e = .returned (.int .i64 2) ∧ KB B0 g w w' ∧ RAny w' g B ns a' ∧ w'.cell? ⟨Bo, 0, none⟩ = some v) := by
  have HR := hide hR
  have HO := hide hO
  have HOF := hide hOf
  have HOWN := hide hown
  have HB := hide hB
  have HM := hide hM
  have HT := hide hT
  have HB0 := hide hB0
  have HNE := hide hne
  have HNE2 := hide hne2
  clear hR hO hOf hown hB0 hne hne2
  have Q := eql44
  have hB1 := hide HR.out.1
  go_enter Try.func53, Try.ntmps53
  go_wp2
  go_ret
  exact ⟨_, a, rfl, KB.refl _ _ _, HR.out, HO.out 0⟩

set_option maxRecDepth 100000 in
set_option maxHeartbeats 1000000 in
theorem tk_P_bad (g B B0 Br Bm Bt Bo bb : Nat) (ns : List Nat) (a : Nat) (m : Nat) (w : World) (hR : RAny w g B ns a) (hB : ∀ o, w.cell? ⟨Br, o, none⟩ = (#[Value.pointer (some ⟨g, 0, none⟩)] : Array Value)[o]?) (hM : ∀ o, w.cell? ⟨Bm, o, none⟩ = (#[Value.int .i64 (m : Int)] : Array Value)[o]?) (hT : ∀ o, w.cell? ⟨Bt, o, none⟩ = (#[Value.func (.func 21) #[] #[]] : Array Value)[o]?) (hO : ∀ o, w.cell? ⟨Bo, o, none⟩ = (#[Value.slice (some ⟨bb, 0, none⟩) 0 0] : Array Value)[o]?) (hOf : ∀ o, w.frozen? ⟨Bo, o, none⟩ = false) (hown : w.ownsRow B0 43 2 (.slice (some ⟨bb, 0, none⟩) 0 0) 0 []) (zB : Br < w.heap.size) (zM : Bm < w.heap.size) (zT : Bt < w.heap.size) (zO : Bo < w.heap.size) (hg : g < B0) (hBB : B ≤ B0) (hB0 : B0 ≤ Br ∧ B0 ≤ Bm ∧ B0 ≤ Bt ∧ B0 ≤ Bo) (hne : Br ≠ bb ∧ Bm ≠ bb ∧ Bt ≠ bb ∧ Bo ≠ bb) (hne2 : Bo ≠ Br ∧ Bo ≠ Bm ∧ Bo ≠ Bt) (hm : m ≤ 9223372036854775807) (hE : (lg ns a m).2.1 ≠ 0) : Calls Try.prog 53 #[.pointer (some ⟨Bt, 0, none⟩), .pointer (some ⟨Bm, 0, none⟩), .pointer (some ⟨Br, 0, none⟩), .pointer (some ⟨Bo, 0, none⟩)] w (fun e w' => ∃ v a', e = .returned (.int .i64 ((lg ns a m).2.1 : Int)) ∧ KB B0 g w w' ∧ RAny w' g B ns a' ∧ w'.cell? ⟨Bo, 0, none⟩ = some v) := by
  have hE2 : ((lg ns a m).2.1 : Int) ≠ 0 := by omega
  have HR := hide hR
  have HO := hide hO
  have HOF := hide hOf
  have HOWN := hide hown
  have HB := hide hB
  have HM := hide hM
  have HT := hide hT
  have HB0 := hide hB0
  have HNE := hide hne
  have HNE2 := hide hne2
  clear hR hO hOf hown hB0 hne hne2
  have Q := eql44
  go_enter Try.func53, Try.ntmps53
  go_wp2_with fail
  refine (long_c g B ns a m _ HR.out hm).mono ?_
  rintro e w1 ⟨rfl, ho1, hR1⟩
  have HR1 := hide hR1
  have k1 : KB B0 g w w1 := KB.of_only ho1 (by have := HB0.out; omega)
  have fOg : Bo ≠ g := by have := HB0.out; omega
  have fBg : Br ≠ g := by have := HB0.out; omega
  have fTg : Bt ≠ g := by have := HB0.out; omega
  have OC : ∀ o, w1.cell? ⟨Bo, o, none⟩ = (#[Value.slice (some ⟨bb, 0, none⟩) 0 0] : Array Value)[o]? := fun o => (World.cell?_of_block (ho1.block Bo zO fOg)).trans (HO.out o)
  have OF : ∀ o, w1.frozen? ⟨Bo, o, none⟩ = false := fun o => (World.frozen?_of_block (ho1.block Bo zO fOg)).trans (HOF.out o)
  have BC : ∀ o, w1.cell? ⟨Br, o, none⟩ = (#[Value.pointer (some ⟨g, 0, none⟩)] : Array Value)[o]? := fun o => (World.cell?_of_block (ho1.block Br zB fBg)).trans (HB.out o)
  have TC : ∀ o, w1.cell? ⟨Bt, o, none⟩ = (#[Value.func (.func 21) #[] #[]] : Array Value)[o]? := fun o => (World.cell?_of_block (ho1.block Bt zT fTg)).trans (HT.out o)
  have zO1 : Bo < w1.heap.size := Nat.lt_of_lt_of_le zO ho1.size
  have zB1 : Br < w1.heap.size := Nat.lt_of_lt_of_le zB ho1.size
  have zT1 : Bt < w1.heap.size := Nat.lt_of_lt_of_le zT ho1.size
  have own1 : w1.ownsRow B0 43 2 (.slice (some ⟨bb, 0, none⟩) 0 0) 0 [] := own_same HOWN.out (fun k hk hk2 => ho1.block k hk2 (by
    have e : bb = k := Option.some.inj hk
    have := HOWN.out.lt k hk
    omega))
  have OWN1 := hide own1
  clear hR1 own1 ho1 hB hM hT
  go_wp2
  go_loopw [6] (fun v6 wr => v6 = .int .i64 ((lg ns a m).2.1 : Int) ∧ wr = w1) (fun _ _ => 0)
  case atStart => exact ⟨rfl, rfl⟩
  case round =>
    obtain ⟨rfl, rfl⟩ := hrel
    go_wp2
    go_ret
    exact ⟨_, _, rfl, k1, HR1.out, OC 0⟩

set_option maxRecDepth 100000 in
set_option maxHeartbeats 2000000 in
theorem tk_P_ok (g B B0 Br Bm Bt Bo bb : Nat) (ns : List Nat) (a : Nat) (m n pl : Nat) (w : World) (hR : RAny w g B ns a) (hB : ∀ o, w.cell? ⟨Br, o, none⟩ = (#[Value.pointer (some ⟨g, 0, none⟩)] : Array Value)[o]?) (hM : ∀ o, w.cell? ⟨Bm, o, none⟩ = (#[Value.int .i64 (m : Int)] : Array Value)[o]?) (hT : ∀ o, w.cell? ⟨Bt, o, none⟩ = (#[Value.func (.func 21) #[] #[]] : Array Value)[o]?) (hO : ∀ o, w.cell? ⟨Bo, o, none⟩ = (#[Value.slice (some ⟨bb, 0, none⟩) 0 0] : Array Value)[o]?) (hOf : ∀ o, w.frozen? ⟨Bo, o, none⟩ = false) (hown : w.ownsRow B0 43 2 (.slice (some ⟨bb, 0, none⟩) 0 0) 0 []) (zB : Br < w.heap.size) (zM : Bm < w.heap.size) (zT : Bt < w.heap.size) (zO : Bo < w.heap.size) (hg : g < B0) (hBB : B ≤ B0) (hB0 : B0 ≤ Br ∧ B0 ≤ Bm ∧ B0 ≤ Bt ∧ B0 ≤ Bo) (hne : Br ≠ bb ∧ Bm ≠ bb ∧ Bt ≠ bb ∧ Bo ≠ bb) (hne2 : Bo ≠ Br ∧ Bo ≠ Bm ∧ Bo ≠ Bt) (hm : m ≤ 9223372036854775807) (hnl : ns.length ≤ 1099511627776) (hE : lg ns a m = (n, 0, pl)) : Calls Try.prog 53 #[.pointer (some ⟨Bt, 0, none⟩), .pointer (some ⟨Bm, 0, none⟩), .pointer (some ⟨Br, 0, none⟩), .pointer (some ⟨Bo, 0, none⟩)] w (fun e w' => ∃ v a', e = .returned (.int .i64 ((tk (RP ns) n pl).2.1 : Int)) ∧ KB B0 g w w' ∧ RAny w' g B ns a' ∧ w'.cell? ⟨Bo, 0, none⟩ = some v ∧ ((tk (RP ns) n pl).2.1 = 0 → a' = (tk (RP ns) n pl).2.2 ∧ w'.ownsRow B0 43 2 v (tk (RP ns) n pl).1.length (flat (tk (RP ns) n pl).1))) := by
  obtain ⟨i0, hi0, hz0, hz1, hz2⟩ := info_parts info43
  have hnn : n ≤ ns.length := by
    have q := lg_ok ns a m (by rw [hE])
    have q2 : (rd ns a).1 = n := by (have := q.2.2.2; rw [hE] at this; exact (Prod.mk.inj this).1.symm)
    omega
  have HR := hide hR
  have HO := hide hO
  have HOF := hide hOf
  have HOWN := hide hown
  have HB := hide hB
  have HM := hide hM
  have HT := hide hT
  have HB0 := hide hB0
  have HNE := hide hne
  have HNE2 := hide hne2
  clear hR hO hOf hown hB0 hne hne2
  have Q := eql44
  go_enter Try.func53, Try.ntmps53
  go_wp2_with fail
  refine (long_c g B ns a m _ HR.out hm).mono ?_
  rw [hE]
  rintro e w1 ⟨rfl, ho1, hR1⟩
  have HR1 := hide hR1
  have k1 : KB B0 g w w1 := KB.of_only ho1 (by have := HB0.out; omega)
  have fOg : Bo ≠ g := by have := HB0.out; omega
  have fBg : Br ≠ g := by have := HB0.out; omega
  have fTg : Bt ≠ g := by have := HB0.out; omega
  have OC : ∀ o, w1.cell? ⟨Bo, o, none⟩ = (#[Value.slice (some ⟨bb, 0, none⟩) 0 0] : Array Value)[o]? := fun o => (World.cell?_of_block (ho1.block Bo zO fOg)).trans (HO.out o)
  have OF : ∀ o, w1.frozen? ⟨Bo, o, none⟩ = false := fun o => (World.frozen?_of_block (ho1.block Bo zO fOg)).trans (HOF.out o)
  have BC : ∀ o, w1.cell? ⟨Br, o, none⟩ = (#[Value.pointer (some ⟨g, 0, none⟩)] : Array Value)[o]? := fun o => (World.cell?_of_block (ho1.block Br zB fBg)).trans (HB.out o)
  have TC : ∀ o, w1.cell? ⟨Bt, o, none⟩ = (#[Value.func (.func 21) #[] #[]] : Array Value)[o]? := fun o => (World.cell?_of_block (ho1.block Bt zT fTg)).trans (HT.out o)
  have zO1 : Bo < w1.heap.size := Nat.lt_of_lt_of_le zO ho1.size
  have zB1 : Br < w1.heap.size := Nat.lt_of_lt_of_le zB ho1.size
  have zT1 : Bt < w1.heap.size := Nat.lt_of_lt_of_le zT ho1.size
  have own1 : w1.ownsRow B0 43 2 (.slice (some ⟨bb, 0, none⟩) 0 0) 0 [] := own_same HOWN.out (fun k hk hk2 => ho1.block k hk2 (by
    have e : bb = k := Option.some.inj hk
    have := HOWN.out.lt k hk
    omega))
  have OWN1 := hide own1
  clear hR1 own1 ho1 hB hM hT
  clear HR HO HOF HOWN HB HM HT
  go_wp2_with fail
  go_loopw [5, 6] (fun v5 v6 wr => ∃ (j p er : Nat) (xs : List Value) (v : Value), v5 = .int .i64 (j : Int) ∧ v6 = .int .i64 (er : Int) ∧ j ≤ n ∧ xs.length ≤ n ∧ KB B0 g w wr ∧ RAny wr g B ns p ∧ wr.ownsRow B0 43 2 v xs.length (flat xs) ∧ (∀ k, v.ownBlock = some k → k ≠ Br ∧ k ≠ Bt ∧ k ≠ Bo) ∧ (∀ o, wr.cell? ⟨Bo, o, none⟩ = (#[v] : Array Value)[o]?) ∧ (∀ o, wr.frozen? ⟨Bo, o, none⟩ = false) ∧ (∀ o, wr.cell? ⟨Br, o, none⟩ = (#[Value.pointer (some ⟨g, 0, none⟩)] : Array Value)[o]?) ∧ (∀ o, wr.cell? ⟨Bt, o, none⟩ = (#[Value.func (.func 21) #[] #[]] : Array Value)[o]?) ∧ w1.heap.size ≤ wr.heap.size ∧ ((er = 0 ∧ xs.length + j = n ∧ tk (RP ns) n pl = (xs ++ (tk (RP ns) j p).1, (tk (RP ns) j p).2.1, (tk (RP ns) j p).2.2)) ∨ (er ≠ 0 ∧ (tk (RP ns) n pl).2.1 = er))) (fun v5 _ _ => (intOf v5).toNat)
  case atStart => exact ⟨n, pl, 0, [], _, rfl, rfl, Nat.le_refl _, Nat.zero_le _, k1, HR1.out, OWN1.out, fun k hk => by (have e : bb = k := Option.some.inj hk; have := HNE.out; subst e; exact ⟨fun h => this.1 h.symm, fun h => this.2.2.1 h.symm, fun h => this.2.2.2 h.symm⟩), OC, OF, BC, TC, Nat.le_refl _, .inl ⟨rfl, by simp, by simp⟩⟩
  case round =>
    obtain ⟨j, p, er, xs, v, rfl, rfl, hj, hxn, hk, hRr, hown, hvn, oc, of, bc, tc, hz, hl⟩ := hrel
    have HK := hide hk
    have HRr := hide hRr
    have HOW := hide hown
    have HVN := hide hvn
    clear hk hRr hown hvn OC OF BC TC k1 HR1 OWN1
    by_cases her : er = 0
    · subst her
      have hl1 := hl.resolve_right (fun h => h.1 rfl)
      clear hl
      have HL1 := hide hl1.2.2
      have hxl := hl1.2.1
      clear hl1
      by_cases hj0 : j = 0
      · subst hj0
        go_wp2
        go_ret
        have q := HL1.out
        have e2 : (tk (RP ns) n pl).2.1 = 0 := by rw [q]; rfl
        refine ⟨v, p, by rw [e2]; rfl, HK.out, HRr.out, oc 0, fun _ => ?_⟩
        rw [q]
        exact ⟨rfl, by (have e3 : xs ++ (tk (RP ns) 0 p).1 = xs := List.append_nil _); rw [e3]; exact HOW.out⟩
      · have hjp : (0 : Int) < (j : Int) := by omega
        obtain ⟨j2, rfl⟩ : ∃ j2, j = j2 + 1 := ⟨j - 1, by omega⟩
        have hA : Below wr.heap.size wr (wr.alloc (.cells #[.int .u64 0, .int .u64 0] 43)) := by (focus repeat' (first | (with_reducible exact Below.refl _ _) | (with_reducible assumption) | (with_reducible refine Below.alloc ?_ ?_ _) | (with_reducible refine Below.drew ?_) | (with_reducible refine bdrewN ?_ _) | (with_reducible refine Below.setCell ?_ ?_ _) | (first | (with_reducible exact Nat.le_refl _) | (with_reducible assumption) | omega | (simp; omega) | (simp; done))))
        have b0r : B0 ≤ wr.heap.size := by have := HB0.out; omega
        have HRz := hide (HRr.out.below hA)
        have HKz := hide (HK.out.trans (KB.of_below hA b0r))
        have HOWz := hide (HOW.out.alloc (.cells #[.int .u64 0, .int .u64 0] 43))
        have hgr : g ≠ wr.heap.size := by omega
        have hvr : ∀ k, v.ownBlock = some k → k < wr.heap.size := fun k hk => (HOW.out.lt k hk).2
        have HVR := hide hvr
        clear hvr
        have oz : ∀ o, (wr.alloc (.cells #[.int .u64 0, .int .u64 0] 43)).cell? ⟨Bo, o, none⟩ = (#[v] : Array Value)[o]? := fun o => (hA.cell (p := ⟨Bo, o, none⟩) (show Bo < wr.heap.size by omega)).trans (oc o)
        have ozf : ∀ o, (wr.alloc (.cells #[.int .u64 0, .int .u64 0] 43)).frozen? ⟨Bo, o, none⟩ = false := fun o => (hA.frozen (p := ⟨Bo, o, none⟩) (show Bo < wr.heap.size by omega)).trans (of o)
        have bz : ∀ o, (wr.alloc (.cells #[.int .u64 0, .int .u64 0] 43)).cell? ⟨Br, o, none⟩ = (#[Value.pointer (some ⟨g, 0, none⟩)] : Array Value)[o]? := fun o => (hA.cell (p := ⟨Br, o, none⟩) (show Br < wr.heap.size by omega)).trans (bc o)
        have tz : ∀ o, (wr.alloc (.cells #[.int .u64 0, .int .u64 0] 43)).cell? ⟨Bt, o, none⟩ = (#[Value.func (.func 21) #[] #[]] : Array Value)[o]? := fun o => (hA.cell (p := ⟨Bt, o, none⟩) (show Bt < wr.heap.size by omega)).trans (tc o)
        have xz : ∀ o, (wr.alloc (.cells #[.int .u64 0, .int .u64 0] 43)).cell? ⟨wr.heap.size, o, none⟩ = (#[Value.int .u64 0, Value.int .u64 0] : Array Value)[o]? := fun o => by simp [go_sem]
        have xzf : ∀ o, (wr.alloc (.cells #[.int .u64 0, .int .u64 0] 43)).frozen? ⟨wr.heap.size, o, none⟩ = false := fun o => by simp [go_sem]
        have hzz : (wr.alloc (.cells #[.int .u64 0, .int .u64 0] 43)).heap.size = wr.heap.size + 1 := by simp
        have OZ := hide oz
        have OZF := hide ozf
        have BZ := hide bz
        have TZ := hide tz
        have XZ := hide xz
        have XZF := hide xzf
        have HZZ := hide hzz
        have zOr : Bo < wr.heap.size := by omega
        have zBr : Br < wr.heap.size := by omega
        have zTr : Bt < wr.heap.size := by omega
        have ne1 : Bo ≠ wr.heap.size := by omega
        have ne2 : Br ≠ wr.heap.size := by omega
        have ne3 : Bt ≠ wr.heap.size := by omega
        have ne4 : wr.heap.size ≠ Bo := by omega
        have ne5 : wr.heap.size ≠ Br := by omega
        have ne6 : wr.heap.size ≠ Bt := by omega
        clear hA HRr HK HOW oz ozf bz tz xz xzf hzz
        go_wp2_with fail
        refine (elt_P g B ns p _ HRz.out).mono ?_
        rintro e w5 ⟨rfl, ho5, hR5⟩
        have q0 := tk_ok (RP ns) j2 p
        have q1 := tk_bad (RP ns) j2 p
        have HQ0 := hide q0
        have HQ1 := hide q1
        clear q0 q1
        have hRp : RP ns p = (.agg #[.int .u64 (pa ns p : Int), .int .u64 (pb ns p : Int)], pe ns p, pp ns p) := rfl
        have HRp := hide hRp
        clear hRp
        generalize pa ns p = ra at *
        generalize pb ns p = rb at *
        generalize pe ns p = re at *
        generalize pp ns p = rp at *
        have HR5 := hide hR5
        have fOg : Bo ≠ g := by have := HB0.out; omega
        have fBg : Br ≠ g := by have := HB0.out; omega
        have fTg : Bt ≠ g := by have := HB0.out; omega
        have oc5 : ∀ o, w5.cell? ⟨Bo, o, none⟩ = (#[v] : Array Value)[o]? := fun o => (World.cell?_of_block (ho5.block Bo (by have := HZZ.out; omega) fOg)).trans (OZ.out o)
        have of5 : ∀ o, w5.frozen? ⟨Bo, o, none⟩ = false := fun o => (World.frozen?_of_block (ho5.block Bo (by have := HZZ.out; omega) fOg)).trans (OZF.out o)
        have bc5 : ∀ o, w5.cell? ⟨Br, o, none⟩ = (#[Value.pointer (some ⟨g, 0, none⟩)] : Array Value)[o]? := fun o => (World.cell?_of_block (ho5.block Br (by have := HZZ.out; omega) fBg)).trans (BZ.out o)
        have tc5 : ∀ o, w5.cell? ⟨Bt, o, none⟩ = (#[Value.func (.func 21) #[] #[]] : Array Value)[o]? := fun o => (World.cell?_of_block (ho5.block Bt (by have := HZZ.out; omega) fTg)).trans (TZ.out o)
        have xc5 : ∀ o, w5.cell? ⟨wr.heap.size, o, none⟩ = (#[Value.int .u64 0, Value.int .u64 0] : Array Value)[o]? := fun o => (World.cell?_of_block (ho5.block wr.heap.size (by have := HZZ.out; omega) (fun e => hgr e.symm))).trans (XZ.out o)
        have xf5 : ∀ o, w5.frozen? ⟨wr.heap.size, o, none⟩ = false := fun o => (World.frozen?_of_block (ho5.block wr.heap.size (by have := HZZ.out; omega) (fun e => hgr e.symm))).trans (XZF.out o)
        have OW5 := hide (show w5.ownsRow B0 43 2 v xs.length (flat xs) from own_same HOWz.out (fun k hk hk2 => ho5.block k hk2 (by have := (HOWz.out.lt k hk).1; omega)))
        have hz5 : wr.heap.size + 1 ≤ w5.heap.size := by (have := HZZ.out; have := ho5.size; omega)
        have hz5x : wr.heap.size < w5.heap.size := by omega
        have HK5 := hide (HKz.out.trans (KB.of_only ho5 (by have := HZZ.out; omega)))
        clear hR5 ho5 oc of bc tc OZ OZF BZ TZ XZ XZF HOWz ne1 ne2 ne3 ne4 ne5 ne6 HRz HKz
        -- the box written
        have HR6 := hide ((HR5.out.set (h := wr.heap.size) (fun e => hgr e.symm) (by omega) 0 (.int .u64 (ra : Int))).set (h := wr.heap.size) (fun e => hgr e.symm) (by omega) 1 (.int .u64 (rb : Int)))
        have HK6 := hide ((HK5.out.set (h := wr.heap.size) b0r 0 (.int .u64 (ra : Int))).set (h := wr.heap.size) b0r 1 (.int .u64 (rb : Int)))
        have OW6 := hide (own_set (own_set OW5.out (b := wr.heap.size) (fun k hk => by have := HVR.out k hk; omega) 0 (.int .u64 (ra : Int))) (b := wr.heap.size) (fun k hk => by have := HVR.out k hk; omega) 1 (.int .u64 (rb : Int)))
        have w6s : ((w5.setCell ⟨wr.heap.size, 0, none⟩ (.int .u64 (ra : Int))).setCell ⟨wr.heap.size, 1, none⟩ (.int .u64 (rb : Int))).heap.size = w5.heap.size := by simp
        have w6b : ∀ i, i ≠ wr.heap.size → ((w5.setCell ⟨wr.heap.size, 0, none⟩ (.int .u64 (ra : Int))).setCell ⟨wr.heap.size, 1, none⟩ (.int .u64 (rb : Int))).heap[i]? = w5.heap[i]? := fun i hi => (Below.heap_setCell _ _ _ _ (by exact hi)).trans (Below.heap_setCell _ _ _ _ (by exact hi))
        have W6S := hide w6s
        have W6B := hide w6b
        clear w6s w6b HR5 HK5
        go_wp2_with (at_builtin; go_loud (refine wpList_append_lies _ rfl (.tmp 34) (.tmp 36) 40 rfl B0 43 i0 (.agg #[.int .u64 0, .int .u64 0]) 2 16 Try.underlying40 hi0 hz0 hz1 hz2 rfl (by decide) v xs.length (flat xs) rfl (OW6.out.alloc _) ⟨_, 0, none⟩ 1 1 [.int .u64 (ra : Int), .int .u64 (rb : Int)] rfl rfl (cell_two_at _ _ W6S.out _ _ _) (by intro u hu; simp at hu; rcases hu with rfl | rfl <;> rfl) (by decide) (by unfold maxLen; omega) (by omega) (by (simp; omega)) _ rfl ?_); intro g2 cap2 wn hown2 hg2 hgg hgl; have hbo : wn.heap[Bo]? = w5.heap[Bo]? := (far_block hg2 (by (simp; omega)) (fun e => (HVN.out Bo e.symm).2.2 rfl)).trans (W6B.out Bo (by omega)); have cOn : ∀ o, wn.cell? ⟨Bo, o, none⟩ = (#[v] : Array Value)[o]? := fun o => (World.cell?_of_block hbo).trans (oc5 o); have fOn : ∀ o, wn.frozen? ⟨Bo, o, none⟩ = false := fun o => (World.frozen?_of_block hbo).trans (of5 o))
        have hz6 : w5.heap.size ≤ wn.heap.size := Nat.le_trans (by simp) hg2.size
        have hvo : ∀ k, v.ownBlock = some k → k < wr.heap.size := HVR.out
        have hBk : ∀ k, v.ownBlock = some k → B0 ≤ k := fun k hk => (OW5.out.lt k hk).1
        have hb0 := HB0.out
        have hbn : ∀ i, i < B0 → wn.heap[i]? = ((w5.setCell ⟨wr.heap.size, 0, none⟩ (.int .u64 (ra : Int))).setCell ⟨wr.heap.size, 1, none⟩ (.int .u64 (rb : Int))).heap[i]? := fun i hi => far_block hg2 (by (simp; omega)) (fun e => by have := hBk i e.symm; omega)
        have hbb : wn.heap[Br]? = w5.heap[Br]? := (far_block hg2 (by (simp; omega)) (fun e => (HVN.out Br e.symm).1 rfl)).trans (W6B.out Br (by omega))
        have hbt : wn.heap[Bt]? = w5.heap[Bt]? := (far_block hg2 (by (simp; omega)) (fun e => (HVN.out Bt e.symm).2.1 rfl)).trans (W6B.out Bt (by omega))
        have HK7 := hide (HK6.out.trans ⟨hg2.os, hg2.tape, hg2.output, Nat.le_trans (by simp) hg2.size, fun i hi _ => hbn i hi⟩)
        have HR7 := hide (HR6.out.same (by (simp; exact hz6)) (hbn g hg) (fun i hi => hbn i (by omega)))
        have hgo : g2 ≠ Br ∧ g2 ≠ Bt ∧ g2 ≠ Bo := by
          rcases hgg with q | q
          · exact HVN.out g2 q
          · simp at q; omega
        have hn2 := HNE2.out
        have HOWN6 := hide (own_set hown2 (b := Bo) (fun k hk => by (have e : g2 = k := Option.some.inj hk); subst e; exact hgo.2.2) 0 (.slice (some ⟨g2, 0, none⟩) (xs.length + 1) cap2))
        have HTC := hide tc5
        have HBC := hide bc5
        have zOn : Bo < wn.heap.size := by omega
        have HHB := hide hbb
        have HHT := hide hbt
        have HGO := hide hgo
        clear hown2 hg2 hgg hbn hbb hbt hvo hBk HVN OW5 OW6 HK6 HR6 hbo tc5 bc5 oc5 of5 xc5 xf5 W6B W6S
        go_wp2
        go_roundw
        case rel =>
          refine ⟨j2, rp, re, xs ++ [.agg #[.int .u64 (ra : Int), .int .u64 (rb : Int)]], .slice (some ⟨g2, 0, none⟩) (xs.length + 1) cap2, by go_num, rfl, by omega, by (rw [List.length_append]; simp; omega), HK7.out.set hb0.2.2.2 0 _, HR7.out.set fOg (by omega) 0 _, by (have q := HOWN6.out; rw [flat_snoc]; simpa using q), fun k hk => by (have e : g2 = k := Option.some.inj hk); subst e; exact HGO.out, ?_, ?_, ?_, ?_, by (simp; omega), ?_⟩
          · intro o; rcases o with _ | o <;> simp [go_sem, cOn]
          · intro o; simp only [World.frozen?_setCell]; exact fOn o
          · intro o; exact (World.cell?_of_block (Below.heap_setCell _ _ _ _ (by exact fun e => hn2.1 e.symm))).trans ((World.cell?_of_block HHB.out).trans (HBC.out o))
          · intro o; exact (World.cell?_of_block (Below.heap_setCell _ _ _ _ (by exact fun e => hn2.2.2 e.symm))).trans ((World.cell?_of_block HHT.out).trans (HTC.out o))
          · have q0 := HQ0.out
            have q1 := HQ1.out
            rw [HRp.out] at q0 q1
            by_cases hre : re = 0
            · subst hre
              refine .inl ⟨rfl, by (rw [List.length_append]; simp; omega), ?_⟩
              rw [HL1.out, q0 rfl]
              simp
            · refine .inr ⟨hre, ?_⟩
              rw [HL1.out]
              exact q1 hre
        case measure => (first | (simp [intOf]; done) | (simp [intOf]; omega))
    · have hl1 := hl.resolve_left (fun h => her h.1)
      have her2 : ¬ (er : Int) = 0 := by omega
      go_wp2
      go_ret
      refine ⟨v, p, by (rw [hl1.2]; rfl), HK.out, HRr.out, oc 0, fun h => absurd (hl1.2.symm.trans h) her⟩
end Go.Proofs.Ytajkgecegefnmaa

namespace Go.Proofs.Ytajkgecegefnmaa
open Go.ChangeShapes Go.WideShapes Go.ChangeAt Go.RowKit Go.Deep
set_option linter.unusedSimpArgs false
set_option linter.unusedVariables false

set_option maxRecDepth 100000 in
set_option maxHeartbeats 2000000 in
theorem Take_P_neg (g B : Nat) (ns : List Nat) (a : Nat) (m : Int) (w : World) (hR : RAny w g B ns a) (hm : m < 0) : Calls Try.prog 20 #[.pointer (some ⟨g, 0, none⟩), .int .i64 m, .func (.func 21) #[] #[]] w (fun e w' => ∃ v, e = .returned (.tuple #[v, .int .i64 2]) ∧ Only g w w' ∧ RAny w' g B ns a ∧ w'.ownsRow w.heap.size 43 2 v ([] : List Value).length (flat ([] : List Value))) := by
  have hB0 : Below w.heap.size w (((((w.alloc (.cells #[Value.pointer (some ⟨g, 0, none⟩)] 35)).alloc (.cells #[Value.int .i64 m] 3)).alloc (.cells #[Value.func (.func 21) #[] #[]] 44)).alloc (.cells #[] 43)).alloc (.cells #[Value.slice (some ⟨w.heap.size + 3, 0, none⟩) 0 0] 40)) := by (focus repeat' (first | (with_reducible exact Below.refl _ _) | (with_reducible assumption) | (with_reducible refine Below.alloc ?_ ?_ _) | (with_reducible refine Below.drew ?_) | (with_reducible refine bdrewN ?_ _) | (with_reducible refine Below.setCell ?_ ?_ _) | (first | (with_reducible exact Nat.le_refl _) | (with_reducible assumption) | omega | (simp; omega) | (simp; done))))
  have HR0 := hide (hR.below hB0)
  have HB0 := hide hB0
  have cB : ∀ o, (((((w.alloc (.cells #[Value.pointer (some ⟨g, 0, none⟩)] 35)).alloc (.cells #[Value.int .i64 m] 3)).alloc (.cells #[Value.func (.func 21) #[] #[]] 44)).alloc (.cells #[] 43)).alloc (.cells #[Value.slice (some ⟨w.heap.size + 3, 0, none⟩) 0 0] 40)).cell? ⟨w.heap.size + 0, o, none⟩ = (#[Value.pointer (some ⟨g, 0, none⟩)] : Array Value)[o]? := fun o => by simp [go_sem]
  have cM : ∀ o, (((((w.alloc (.cells #[Value.pointer (some ⟨g, 0, none⟩)] 35)).alloc (.cells #[Value.int .i64 m] 3)).alloc (.cells #[Value.func (.func 21) #[] #[]] 44)).alloc (.cells #[] 43)).alloc (.cells #[Value.slice (some ⟨w.heap.size + 3, 0, none⟩) 0 0] 40)).cell? ⟨w.heap.size + 1, o, none⟩ = (#[Value.int .i64 m] : Array Value)[o]? := fun o => by simp [go_sem]
  have cT : ∀ o, (((((w.alloc (.cells #[Value.pointer (some ⟨g, 0, none⟩)] 35)).alloc (.cells #[Value.int .i64 m] 3)).alloc (.cells #[Value.func (.func 21) #[] #[]] 44)).alloc (.cells #[] 43)).alloc (.cells #[Value.slice (some ⟨w.heap.size + 3, 0, none⟩) 0 0] 40)).cell? ⟨w.heap.size + 2, o, none⟩ = (#[Value.func (.func 21) #[] #[]] : Array Value)[o]? := fun o => by simp [go_sem]
  have cO : ∀ o, (((((w.alloc (.cells #[Value.pointer (some ⟨g, 0, none⟩)] 35)).alloc (.cells #[Value.int .i64 m] 3)).alloc (.cells #[Value.func (.func 21) #[] #[]] 44)).alloc (.cells #[] 43)).alloc (.cells #[Value.slice (some ⟨w.heap.size + 3, 0, none⟩) 0 0] 40)).cell? ⟨w.heap.size + 4, o, none⟩ = (#[Value.slice (some ⟨w.heap.size + 3, 0, none⟩) 0 0] : Array Value)[o]? := fun o => by simp [go_sem]
  have fO : ∀ o, (((((w.alloc (.cells #[Value.pointer (some ⟨g, 0, none⟩)] 35)).alloc (.cells #[Value.int .i64 m] 3)).alloc (.cells #[Value.func (.func 21) #[] #[]] 44)).alloc (.cells #[] 43)).alloc (.cells #[Value.slice (some ⟨w.heap.size + 3, 0, none⟩) 0 0] 40)).frozen? ⟨w.heap.size + 4, o, none⟩ = false := fun o => by simp [go_sem]
  have zB : w.heap.size + 0 < (((((w.alloc (.cells #[Value.pointer (some ⟨g, 0, none⟩)] 35)).alloc (.cells #[Value.int .i64 m] 3)).alloc (.cells #[Value.func (.func 21) #[] #[]] 44)).alloc (.cells #[] 43)).alloc (.cells #[Value.slice (some ⟨w.heap.size + 3, 0, none⟩) 0 0] 40)).heap.size := by (first | (with_reducible exact Nat.le_refl _) | (with_reducible assumption) | omega | (simp; omega) | (simp; done))
  have zM : w.heap.size + 1 < (((((w.alloc (.cells #[Value.pointer (some ⟨g, 0, none⟩)] 35)).alloc (.cells #[Value.int .i64 m] 3)).alloc (.cells #[Value.func (.func 21) #[] #[]] 44)).alloc (.cells #[] 43)).alloc (.cells #[Value.slice (some ⟨w.heap.size + 3, 0, none⟩) 0 0] 40)).heap.size := by (first | (with_reducible exact Nat.le_refl _) | (with_reducible assumption) | omega | (simp; omega) | (simp; done))
  have zT : w.heap.size + 2 < (((((w.alloc (.cells #[Value.pointer (some ⟨g, 0, none⟩)] 35)).alloc (.cells #[Value.int .i64 m] 3)).alloc (.cells #[Value.func (.func 21) #[] #[]] 44)).alloc (.cells #[] 43)).alloc (.cells #[Value.slice (some ⟨w.heap.size + 3, 0, none⟩) 0 0] 40)).heap.size := by (first | (with_reducible exact Nat.le_refl _) | (with_reducible assumption) | omega | (simp; omega) | (simp; done))
  have zO : w.heap.size + 4 < (((((w.alloc (.cells #[Value.pointer (some ⟨g, 0, none⟩)] 35)).alloc (.cells #[Value.int .i64 m] 3)).alloc (.cells #[Value.func (.func 21) #[] #[]] 44)).alloc (.cells #[] 43)).alloc (.cells #[Value.slice (some ⟨w.heap.size + 3, 0, none⟩) 0 0] 40)).heap.size := by (first | (with_reducible exact Nat.le_refl _) | (with_reducible assumption) | omega | (simp; omega) | (simp; done))
  have own : (((((w.alloc (.cells #[Value.pointer (some ⟨g, 0, none⟩)] 35)).alloc (.cells #[Value.int .i64 m] 3)).alloc (.cells #[Value.func (.func 21) #[] #[]] 44)).alloc (.cells #[] 43)).alloc (.cells #[Value.slice (some ⟨w.heap.size + 3, 0, none⟩) 0 0] 40)).ownsRow w.heap.size 43 2 (.slice (some ⟨w.heap.size + 3, 0, none⟩) 0 0) 0 [] := by
    have q := (own_empty (((w.alloc (.cells #[Value.pointer (some ⟨g, 0, none⟩)] 35)).alloc (.cells #[Value.int .i64 m] 3)).alloc (.cells #[Value.func (.func 21) #[] #[]] 44)) 43 2 w.heap.size (by (simp; omega))).alloc (.cells #[Value.slice (some ⟨w.heap.size + 3, 0, none⟩) 0 0] 40)
    simpa using q
  have hg : g < w.heap.size := hR.cells.1
  have hb : B ≤ w.heap.size := hR.1
  have hle : a ≤ ns.length := hR.more.1
  obtain ⟨r1, r2, r3⟩ := HR0.out.cells
  clear hR hB0
  have CB := hide cB
  have CM := hide cM
  have CT := hide cT
  have CO := hide cO
  have FO := hide fO
  have OWN := hide own
  clear own cB cM cT cO fO
  go_enter Try.func20, Try.ntmps20
  go_wp2_with (go_at_call 52; go_in)
  refine (tk_P_neg g B w.heap.size (w.heap.size + 0) (w.heap.size + 1) (w.heap.size + 2) (w.heap.size + 4) (w.heap.size + 3) ns a m _ HR0.out CB.out CM.out CT.out CO.out FO.out OWN.out zB zM zT zO hg hb (by omega) (by omega) (by omega) hm).mono ?_
  rintro e w1 ⟨v, a', rfl, ho, hR1, hx⟩
  have HO := hide ho
  have HR1 := hide hR1
  obtain ⟨t1, t2, t3⟩ := hR1.cells
  clear ho hR1 r1 r2 r3 zB zM zT zO CB CM CT CO FO OWN
  go_wp2
  go_ret2
  exact ⟨_, rfl, (KB.only HB0.out HO.out).set 1 _, HR1.out.reset hle, by (refine ⟨rfl, .inl ⟨rfl, rfl⟩⟩)⟩

set_option maxRecDepth 100000 in
set_option maxHeartbeats 2000000 in
theorem Take_P_bad (g B : Nat) (ns : List Nat) (a : Nat) (m : Nat) (w : World) (hR : RAny w g B ns a) (hm : m ≤ 9223372036854775807) (hE : (lg ns a m).2.1 ≠ 0) : Calls Try.prog 20 #[.pointer (some ⟨g, 0, none⟩), .int .i64 (m : Int), .func (.func 21) #[] #[]] w (fun e w' => ∃ v, e = .returned (.tuple #[v, .int .i64 ((lg ns a m).2.1 : Int)]) ∧ Only g w w' ∧ RAny w' g B ns a ∧ w'.ownsRow w.heap.size 43 2 v ([] : List Value).length (flat ([] : List Value))) := by
  have hE2 : ((lg ns a m).2.1 : Int) ≠ 0 := by omega
  have hB0 : Below w.heap.size w (((((w.alloc (.cells #[Value.pointer (some ⟨g, 0, none⟩)] 35)).alloc (.cells #[Value.int .i64 (m : Int)] 3)).alloc (.cells #[Value.func (.func 21) #[] #[]] 44)).alloc (.cells #[] 43)).alloc (.cells #[Value.slice (some ⟨w.heap.size + 3, 0, none⟩) 0 0] 40)) := by (focus repeat' (first | (with_reducible exact Below.refl _ _) | (with_reducible assumption) | (with_reducible refine Below.alloc ?_ ?_ _) | (with_reducible refine Below.drew ?_) | (with_reducible refine bdrewN ?_ _) | (with_reducible refine Below.setCell ?_ ?_ _) | (first | (with_reducible exact Nat.le_refl _) | (with_reducible assumption) | omega | (simp; omega) | (simp; done))))
  have HR0 := hide (hR.below hB0)
  have HB0 := hide hB0
  have cB : ∀ o, (((((w.alloc (.cells #[Value.pointer (some ⟨g, 0, none⟩)] 35)).alloc (.cells #[Value.int .i64 (m : Int)] 3)).alloc (.cells #[Value.func (.func 21) #[] #[]] 44)).alloc (.cells #[] 43)).alloc (.cells #[Value.slice (some ⟨w.heap.size + 3, 0, none⟩) 0 0] 40)).cell? ⟨w.heap.size + 0, o, none⟩ = (#[Value.pointer (some ⟨g, 0, none⟩)] : Array Value)[o]? := fun o => by simp [go_sem]
  have cM : ∀ o, (((((w.alloc (.cells #[Value.pointer (some ⟨g, 0, none⟩)] 35)).alloc (.cells #[Value.int .i64 (m : Int)] 3)).alloc (.cells #[Value.func (.func 21) #[] #[]] 44)).alloc (.cells #[] 43)).alloc (.cells #[Value.slice (some ⟨w.heap.size + 3, 0, none⟩) 0 0] 40)).cell? ⟨w.heap.size + 1, o, none⟩ = (#[Value.int .i64 (m : Int)] : Array Value)[o]? := fun o => by simp [go_sem]
  have cT : ∀ o, (((((w.alloc (.cells #[Value.pointer (some ⟨g, 0, none⟩)] 35)).alloc (.cells #[Value.int .i64 (m : Int)] 3)).alloc (.cells #[Value.func (.func 21) #[] #[]] 44)).alloc (.cells #[] 43)).alloc (.cells #[Value.slice (some ⟨w.heap.size + 3, 0, none⟩) 0 0] 40)).cell? ⟨w.heap.size + 2, o, none⟩ = (#[Value.func (.func 21) #[] #[]] : Array Value)[o]? := fun o => by simp [go_sem]
  have cO : ∀ o, (((((w.alloc (.cells #[Value.pointer (some ⟨g, 0, none⟩)] 35)).alloc (.cells #[Value.int .i64 (m : Int)] 3)).alloc (.cells #[Value.func (.func 21) #[] #[]] 44)).alloc (.cells #[] 43)).alloc (.cells #[Value.slice (some ⟨w.heap.size + 3, 0, none⟩) 0 0] 40)).cell? ⟨w.heap.size + 4, o, none⟩ = (#[Value.slice (some ⟨w.heap.size + 3, 0, none⟩) 0 0] : Array Value)[o]? := fun o => by simp [go_sem]
  have fO : ∀ o, (((((w.alloc (.cells #[Value.pointer (some ⟨g, 0, none⟩)] 35)).alloc (.cells #[Value.int .i64 (m : Int)] 3)).alloc (.cells #[Value.func (.func 21) #[] #[]] 44)).alloc (.cells #[] 43)).alloc (.cells #[Value.slice (some ⟨w.heap.size + 3, 0, none⟩) 0 0] 40)).frozen? ⟨w.heap.size + 4, o, none⟩ = false := fun o => by simp [go_sem]
  have zB : w.heap.size + 0 < (((((w.alloc (.cells #[Value.pointer (some ⟨g, 0, none⟩)] 35)).alloc (.cells #[Value.int .i64 (m : Int)] 3)).alloc (.cells #[Value.func (.func 21) #[] #[]] 44)).alloc (.cells #[] 43)).alloc (.cells #[Value.slice (some ⟨w.heap.size + 3, 0, none⟩) 0 0] 40)).heap.size := by (first | (with_reducible exact Nat.le_refl _) | (with_reducible assumption) | omega | (simp; omega) | (simp; done))
  have zM : w.heap.size + 1 < (((((w.alloc (.cells #[Value.pointer (some ⟨g, 0, none⟩)] 35)).alloc (.cells #[Value.int .i64 (m : Int)] 3)).alloc (.cells #[Value.func (.func 21) #[] #[]] 44)).alloc (.cells #[] 43)).alloc (.cells #[Value.slice (some ⟨w.heap.size + 3, 0, none⟩) 0 0] 40)).heap.size := by (first | (with_reducible exact Nat.le_refl _) | (with_reducible assumption) | omega | (simp; omega) | (simp; done))
  have zT : w.heap.size + 2 < (((((w.alloc (.cells #[Value.pointer (some ⟨g, 0, none⟩)] 35)).alloc (.cells #[Value.int .i64 (m : Int)] 3)).alloc (.cells #[Value.func (.func 21) #[] #[]] 44)).alloc (.cells #[] 43)).alloc (.cells #[Value.slice (some ⟨w.heap.size + 3, 0, none⟩) 0 0] 40)).heap.size := by (first | (with_reducible exact Nat.le_refl _) | (with_reducible assumption) | omega | (simp; omega) | (simp; done))
  have zO : w.heap.size + 4 < (((((w.alloc (.cells #[Value.pointer (some ⟨g, 0, none⟩)] 35)).alloc (.cells #[Value.int .i64 (m : Int)] 3)).alloc (.cells #[Value.func (.func 21) #[] #[]] 44)).alloc (.cells #[] 43)).alloc (.cells #[Value.slice (some ⟨w.heap.size + 3, 0, none⟩) 0 0] 40)).heap.size := by (first | (with_reducible exact Nat.le_refl _) | (with_reducible assumption) | omega | (simp; omega) | (simp; done))
  have own : (((((w.alloc (.cells #[Value.pointer (some ⟨g, 0, none⟩)] 35)).alloc (.cells #[Value.int .i64 (m : Int)] 3)).alloc (.cells #[Value.func (.func 21) #[] #[]] 44)).alloc (.cells #[] 43)).alloc (.cells #[Value.slice (some ⟨w.heap.size + 3, 0, none⟩) 0 0] 40)).ownsRow w.heap.size 43 2 (.slice (some ⟨w.heap.size + 3, 0, none⟩) 0 0) 0 [] := by
    have q := (own_empty (((w.alloc (.cells #[Value.pointer (some ⟨g, 0, none⟩)] 35)).alloc (.cells #[Value.int .i64 (m : Int)] 3)).alloc (.cells #[Value.func (.func 21) #[] #[]] 44)) 43 2 w.heap.size (by (simp; omega))).alloc (.cells #[Value.slice (some ⟨w.heap.size + 3, 0, none⟩) 0 0] 40)
    simpa using q
  have hg : g < w.heap.size := hR.cells.1
  have hb : B ≤ w.heap.size := hR.1
  have hle : a ≤ ns.length := hR.more.1
  obtain ⟨r1, r2, r3⟩ := HR0.out.cells
  clear hR hB0
  have CB := hide cB
  have CM := hide cM
  have CT := hide cT
  have CO := hide cO
  have FO := hide fO
  have OWN := hide own
  clear own cB cM cT cO fO
  go_enter Try.func20, Try.ntmps20
  go_wp2_with (go_at_call 52; go_in)
  refine (tk_P_bad g B w.heap.size (w.heap.size + 0) (w.heap.size + 1) (w.heap.size + 2) (w.heap.size + 4) (w.heap.size + 3) ns a m _ HR0.out CB.out CM.out CT.out CO.out FO.out OWN.out zB zM zT zO hg hb (by omega) (by omega) (by omega) hm hE).mono ?_
  rintro e w1 ⟨v, a', rfl, ho, hR1, hx⟩
  have HO := hide ho
  have HR1 := hide hR1
  obtain ⟨t1, t2, t3⟩ := hR1.cells
  clear ho hR1 r1 r2 r3 zB zM zT zO CB CM CT CO FO OWN
  go_wp2
  go_ret2
  exact ⟨_, rfl, (KB.only HB0.out HO.out).set 1 _, HR1.out.reset hle, by (refine ⟨rfl, .inl ⟨rfl, rfl⟩⟩)⟩

set_option maxRecDepth 100000 in
set_option maxHeartbeats 2000000 in
theorem Take_P_cut (g B : Nat) (ns : List Nat) (a : Nat) (m n pl : Nat) (w : World) (hR : RAny w g B ns a) (hm : m ≤ 9223372036854775807) (hnl : ns.length ≤ 1099511627776) (hE : lg ns a m = (n, 0, pl)) (hC : (tk (RP ns) n pl).2.1 ≠ 0) : Calls Try.prog 20 #[.pointer (some ⟨g, 0, none⟩), .int .i64 (m : Int), .func (.func 21) #[] #[]] w (fun e w' => ∃ v, e = .returned (.tuple #[v, .int .i64 ((tk (RP ns) n pl).2.1 : Int)]) ∧ Only g w w' ∧ RAny w' g B ns a ∧ w'.ownsRow w.heap.size 43 2 v ([] : List Value).length (flat ([] : List Value))) := by
  have hE2 : ((tk (RP ns) n pl).2.1 : Int) ≠ 0 := by omega
  have hB0 : Below w.heap.size w (((((w.alloc (.cells #[Value.pointer (some ⟨g, 0, none⟩)] 35)).alloc (.cells #[Value.int .i64 (m : Int)] 3)).alloc (.cells #[Value.func (.func 21) #[] #[]] 44)).alloc (.cells #[] 43)).alloc (.cells #[Value.slice (some ⟨w.heap.size + 3, 0, none⟩) 0 0] 40)) := by (focus repeat' (first | (with_reducible exact Below.refl _ _) | (with_reducible assumption) | (with_reducible refine Below.alloc ?_ ?_ _) | (with_reducible refine Below.drew ?_) | (with_reducible refine bdrewN ?_ _) | (with_reducible refine Below.setCell ?_ ?_ _) | (first | (with_reducible exact Nat.le_refl _) | (with_reducible assumption) | omega | (simp; omega) | (simp; done))))
  have HR0 := hide (hR.below hB0)
  have HB0 := hide hB0
  have cB : ∀ o, (((((w.alloc (.cells #[Value.pointer (some ⟨g, 0, none⟩)] 35)).alloc (.cells #[Value.int .i64 (m : Int)] 3)).alloc (.cells #[Value.func (.func 21) #[] #[]] 44)).alloc (.cells #[] 43)).alloc (.cells #[Value.slice (some ⟨w.heap.size + 3, 0, none⟩) 0 0] 40)).cell? ⟨w.heap.size + 0, o, none⟩ = (#[Value.pointer (some ⟨g, 0, none⟩)] : Array Value)[o]? := fun o => by simp [go_sem]
  have cM : ∀ o, (((((w.alloc (.cells #[Value.pointer (some ⟨g, 0, none⟩)] 35)).alloc (.cells #[Value.int .i64 (m : Int)] 3)).alloc (.cells #[Value.func (.func 21) #[] #[]] 44)).alloc (.cells #[] 43)).alloc (.cells #[Value.slice (some ⟨w.heap.size + 3, 0, none⟩) 0 0] 40)).cell? ⟨w.heap.size + 1, o, none⟩ = (#[Value.int .i64 (m : Int)] : Array Value)[o]? := fun o => by simp [go_sem]
  have cT : ∀ o, (((((w.alloc (.cells #[Value.pointer (some ⟨g, 0, none⟩)] 35)).alloc (.cells #[Value.int .i64 (m : Int)] 3)).alloc (.cells #[Value.func (.func 21) #[] #[]] 44)).alloc (.cells #[] 43)).alloc (.cells #[Value.slice (some ⟨w.heap.size + 3, 0, none⟩) 0 0] 40)).cell? ⟨w.heap.size + 2, o, none⟩ = (#[Value.func (.func 21) #[] #[]] : Array Value)[o]? := fun o => by simp [go_sem]
  have cO : ∀ o, (((((w.alloc (.cells #[Value.pointer (some ⟨g, 0, none⟩)] 35)).alloc (.cells #[Value.int .i64 (m : Int)] 3)).alloc (.cells #[Value.func (.func 21) #[] #[]] 44)).alloc (.cells #[] 43)).alloc (.cells #[Value.slice (some ⟨w.heap.size + 3, 0, none⟩) 0 0] 40)).cell? ⟨w.heap.size + 4, o, none⟩ = (#[Value.slice (some ⟨w.heap.size + 3, 0, none⟩) 0 0] : Array Value)[o]? := fun o => by simp [go_sem]
  have fO : ∀ o, (((((w.alloc (.cells #[Value.pointer (some ⟨g, 0, none⟩)] 35)).alloc (.cells #[Value.int .i64 (m : Int)] 3)).alloc (.cells #[Value.func (.func 21) #[] #[]] 44)).alloc (.cells #[] 43)).alloc (.cells #[Value.slice (some ⟨w.heap.size + 3, 0, none⟩) 0 0] 40)).frozen? ⟨w.heap.size + 4, o, none⟩ = false := fun o => by simp [go_sem]
  have zB : w.heap.size + 0 < (((((w.alloc (.cells #[Value.pointer (some ⟨g, 0, none⟩)] 35)).alloc (.cells #[Value.int .i64 (m : Int)] 3)).alloc (.cells #[Value.func (.func 21) #[] #[]] 44)).alloc (.cells #[] 43)).alloc (.cells #[Value.slice (some ⟨w.heap.size + 3, 0, none⟩) 0 0] 40)).heap.size := by (first | (with_reducible exact Nat.le_refl _) | (with_reducible assumption) | omega | (simp; omega) | (simp; done))
  have zM : w.heap.size + 1 < (((((w.alloc (.cells #[Value.pointer (some ⟨g, 0, none⟩)] 35)).alloc (.cells #[Value.int .i64 (m : Int)] 3)).alloc (.cells #[Value.func (.func 21) #[] #[]] 44)).alloc (.cells #[] 43)).alloc (.cells #[Value.slice (some ⟨w.heap.size + 3, 0, none⟩) 0 0] 40)).heap.size := by (first | (with_reducible exact Nat.le_refl _) | (with_reducible assumption) | omega | (simp; omega) | (simp; done))
  have zT : w.heap.size + 2 < (((((w.alloc (.cells #[Value.pointer (some ⟨g, 0, none⟩)] 35)).alloc (.cells #[Value.int .i64 (m : Int)] 3)).alloc (.cells #[Value.func (.func 21) #[] #[]] 44)).alloc (.cells #[] 43)).alloc (.cells #[Value.slice (some ⟨w.heap.size + 3, 0, none⟩) 0 0] 40)).heap.size := by (first | (with_reducible exact Nat.le_refl _) | (with_reducible assumption) | omega | (simp; omega) | (simp; done))
  have zO : w.heap.size + 4 < (((((w.alloc (.cells #[Value.pointer (some ⟨g, 0, none⟩)] 35)).alloc (.cells #[Value.int .i64 (m : Int)] 3)).alloc (.cells #[Value.func (.func 21) #[] #[]] 44)).alloc (.cells #[] 43)).alloc (.cells #[Value.slice (some ⟨w.heap.size + 3, 0, none⟩) 0 0] 40)).heap.size := by (first | (with_reducible exact Nat.le_refl _) | (with_reducible assumption) | omega | (simp; omega) | (simp; done))
  have own : (((((w.alloc (.cells #[Value.pointer (some ⟨g, 0, none⟩)] 35)).alloc (.cells #[Value.int .i64 (m : Int)] 3)).alloc (.cells #[Value.func (.func 21) #[] #[]] 44)).alloc (.cells #[] 43)).alloc (.cells #[Value.slice (some ⟨w.heap.size + 3, 0, none⟩) 0 0] 40)).ownsRow w.heap.size 43 2 (.slice (some ⟨w.heap.size + 3, 0, none⟩) 0 0) 0 [] := by
    have q := (own_empty (((w.alloc (.cells #[Value.pointer (some ⟨g, 0, none⟩)] 35)).alloc (.cells #[Value.int .i64 (m : Int)] 3)).alloc (.cells #[Value.func (.func 21) #[] #[]] 44)) 43 2 w.heap.size (by (simp; omega))).alloc (.cells #[Value.slice (some ⟨w.heap.size + 3, 0, none⟩) 0 0] 40)
    simpa using q
  have hg : g < w.heap.size := hR.cells.1
  have hb : B ≤ w.heap.size := hR.1
  have hle : a ≤ ns.length := hR.more.1
  obtain ⟨r1, r2, r3⟩ := HR0.out.cells
  clear hR hB0
  have CB := hide cB
  have CM := hide cM
  have CT := hide cT
  have CO := hide cO
  have FO := hide fO
  have OWN := hide own
  clear own cB cM cT cO fO
  go_enter Try.func20, Try.ntmps20
  go_wp2_with (go_at_call 52; go_in)
  refine (tk_P_ok g B w.heap.size (w.heap.size + 0) (w.heap.size + 1) (w.heap.size + 2) (w.heap.size + 4) (w.heap.size + 3) ns a m n pl _ HR0.out CB.out CM.out CT.out CO.out FO.out OWN.out zB zM zT zO hg hb (by omega) (by omega) (by omega) hm hnl hE).mono ?_
  rintro e w1 ⟨v, a', rfl, ho, hR1, hx, hq⟩
  have HO := hide ho
  have HR1 := hide hR1
  obtain ⟨t1, t2, t3⟩ := hR1.cells
  clear ho hR1 r1 r2 r3 zB zM zT zO CB CM CT CO FO OWN
  clear hq
  go_wp2
  go_ret2
  exact ⟨_, rfl, (KB.only HB0.out HO.out).set 1 _, HR1.out.reset hle, by (refine ⟨rfl, .inl ⟨rfl, rfl⟩⟩)⟩

set_option maxRecDepth 100000 in
set_option maxHeartbeats 2000000 in
theorem Take_P_all (g B : Nat) (ns : List Nat) (a : Nat) (m n pl : Nat) (w : World) (hR : RAny w g B ns a) (hm : m ≤ 9223372036854775807) (hnl : ns.length ≤ 1099511627776) (hE : lg ns a m = (n, 0, pl)) (hC : (tk (RP ns) n pl).2.1 = 0) : Calls Try.prog 20 #[.pointer (some ⟨g, 0, none⟩), .int .i64 (m : Int), .func (.func 21) #[] #[]] w (fun e w' => ∃ v, e = .returned (.tuple #[v, .int .i64 0]) ∧ Only g w w' ∧ RAny w' g B ns (tk (RP ns) n pl).2.2 ∧ w'.ownsRow w.heap.size 43 2 v (tk (RP ns) n pl).1.length (flat (tk (RP ns) n pl).1)) := by
  have hB0 : Below w.heap.size w (((((w.alloc (.cells #[Value.pointer (some ⟨g, 0, none⟩)] 35)).alloc (.cells #[Value.int .i64 (m : Int)] 3)).alloc (.cells #[Value.func (.func 21) #[] #[]] 44)).alloc (.cells #[] 43)).alloc (.cells #[Value.slice (some ⟨w.heap.size + 3, 0, none⟩) 0 0] 40)) := by (focus repeat' (first | (with_reducible exact Below.refl _ _) | (with_reducible assumption) | (with_reducible refine Below.alloc ?_ ?_ _) | (with_reducible refine Below.drew ?_) | (with_reducible refine bdrewN ?_ _) | (with_reducible refine Below.setCell ?_ ?_ _) | (first | (with_reducible exact Nat.le_refl _) | (with_reducible assumption) | omega | (simp; omega) | (simp; done))))
  have HR0 := hide (hR.below hB0)
  have HB0 := hide hB0
  have cB : ∀ o, (((((w.alloc (.cells #[Value.pointer (some ⟨g, 0, none⟩)] 35)).alloc (.cells #[Value.int .i64 (m : Int)] 3)).alloc (.cells #[Value.func (.func 21) #[] #[]] 44)).alloc (.cells #[] 43)).alloc (.cells #[Value.slice (some ⟨w.heap.size + 3, 0, none⟩) 0 0] 40)).cell? ⟨w.heap.size + 0, o, none⟩ = (#[Value.pointer (some ⟨g, 0, none⟩)] : Array Value)[o]? := fun o => by simp [go_sem]
  have cM : ∀ o, (((((w.alloc (.cells #[Value.pointer (some ⟨g, 0, none⟩)] 35)).alloc (.cells #[Value.int .i64 (m : Int)] 3)).alloc (.cells #[Value.func (.func 21) #[] #[]] 44)).alloc (.cells #[] 43)).alloc (.cells #[Value.slice (some ⟨w.heap.size + 3, 0, none⟩) 0 0] 40)).cell? ⟨w.heap.size + 1, o, none⟩ = (#[Value.int .i64 (m : Int)] : Array Value)[o]? := fun o => by simp [go_sem]
  have cT : ∀ o, (((((w.alloc (.cells #[Value.pointer (some ⟨g, 0, none⟩)] 35)).alloc (.cells #[Value.int .i64 (m : Int)] 3)).alloc (.cells #[Value.func (.func 21) #[] #[]] 44)).alloc (.cells #[] 43)).alloc (.cells #[Value.slice (some ⟨w.heap.size + 3, 0, none⟩) 0 0] 40)).cell? ⟨w.heap.size + 2, o, none⟩ = (#[Value.func (.func 21) #[] #[]] : Array Value)[o]? := fun o => by simp [go_sem]
  have cO : ∀ o, (((((w.alloc (.cells #[Value.pointer (some ⟨g, 0, none⟩)] 35)).alloc (.cells #[Value.int .i64 (m : Int)] 3)).alloc (.cells #[Value.func (.func 21) #[] #[]] 44)).alloc (.cells #[] 43)).alloc (.cells #[Value.slice (some ⟨w.heap.size + 3, 0, none⟩) 0 0] 40)).cell? ⟨w.heap.size + 4, o, none⟩ = (#[Value.slice (some ⟨w.heap.size + 3, 0, none⟩) 0 0] : Array Value)[o]? := fun o => by simp [go_sem]
  have fO : ∀ o, (((((w.alloc (.cells #[Value.pointer (some ⟨g, 0, none⟩)] 35)).alloc (.cells #[Value.int .i64 (m : Int)] 3)).alloc (.cells #[Value.func (.func 21) #[] #[]] 44)).alloc (.cells #[] 43)).alloc (.cells #[Value.slice (some ⟨w.heap.size + 3, 0, none⟩) 0 0] 40)).frozen? ⟨w.heap.size + 4, o, none⟩ = false := fun o => by simp [go_sem]
  have zB : w.heap.size + 0 < (((((w.alloc (.cells #[Value.pointer (some ⟨g, 0, none⟩)] 35)).alloc (.cells #[Value.int .i64 (m : Int)] 3)).alloc (.cells #[Value.func (.func 21) #[] #[]] 44)).alloc (.cells #[] 43)).alloc (.cells #[Value.slice (some ⟨w.heap.size + 3, 0, none⟩) 0 0] 40)).heap.size := by (first | (with_reducible exact Nat.le_refl _) | (with_reducible assumption) | omega | (simp; omega) | (simp; done))
  have zM : w.heap.size + 1 < (((((w.alloc (.cells #[Value.pointer (some ⟨g, 0, none⟩)] 35)).alloc (.cells #[Value.int .i64 (m : Int)] 3)).alloc (.cells #[Value.func (.func 21) #[] #[]] 44)).alloc (.cells #[] 43)).alloc (.cells #[Value.slice (some ⟨w.heap.size + 3, 0, none⟩) 0 0] 40)).heap.size := by (first | (with_reducible exact Nat.le_refl _) | (with_reducible assumption) | omega | (simp; omega) | (simp; done))
  have zT : w.heap.size + 2 < (((((w.alloc (.cells #[Value.pointer (some ⟨g, 0, none⟩)] 35)).alloc (.cells #[Value.int .i64 (m : Int)] 3)).alloc (.cells #[Value.func (.func 21) #[] #[]] 44)).alloc (.cells #[] 43)).alloc (.cells #[Value.slice (some ⟨w.heap.size + 3, 0, none⟩) 0 0] 40)).heap.size := by (first | (with_reducible exact Nat.le_refl _) | (with_reducible assumption) | omega | (simp; omega) | (simp; done))
  have zO : w.heap.size + 4 < (((((w.alloc (.cells #[Value.pointer (some ⟨g, 0, none⟩)] 35)).alloc (.cells #[Value.int .i64 (m : Int)] 3)).alloc (.cells #[Value.func (.func 21) #[] #[]] 44)).alloc (.cells #[] 43)).alloc (.cells #[Value.slice (some ⟨w.heap.size + 3, 0, none⟩) 0 0] 40)).heap.size := by (first | (with_reducible exact Nat.le_refl _) | (with_reducible assumption) | omega | (simp; omega) | (simp; done))
  have own : (((((w.alloc (.cells #[Value.pointer (some ⟨g, 0, none⟩)] 35)).alloc (.cells #[Value.int .i64 (m : Int)] 3)).alloc (.cells #[Value.func (.func 21) #[] #[]] 44)).alloc (.cells #[] 43)).alloc (.cells #[Value.slice (some ⟨w.heap.size + 3, 0, none⟩) 0 0] 40)).ownsRow w.heap.size 43 2 (.slice (some ⟨w.heap.size + 3, 0, none⟩) 0 0) 0 [] := by
    have q := (own_empty (((w.alloc (.cells #[Value.pointer (some ⟨g, 0, none⟩)] 35)).alloc (.cells #[Value.int .i64 (m : Int)] 3)).alloc (.cells #[Value.func (.func 21) #[] #[]] 44)) 43 2 w.heap.size (by (simp; omega))).alloc (.cells #[Value.slice (some ⟨w.heap.size + 3, 0, none⟩) 0 0] 40)
    simpa using q
  have hg : g < w.heap.size := hR.cells.1
  have hb : B ≤ w.heap.size := hR.1
  have hle : a ≤ ns.length := hR.more.1
  obtain ⟨r1, r2, r3⟩ := HR0.out.cells
  clear hR hB0
  have CB := hide cB
  have CM := hide cM
  have CT := hide cT
  have CO := hide cO
  have FO := hide fO
  have OWN := hide own
  clear own cB cM cT cO fO
  go_enter Try.func20, Try.ntmps20
  go_wp2_with (go_at_call 52; go_in)
  refine (tk_P_ok g B w.heap.size (w.heap.size + 0) (w.heap.size + 1) (w.heap.size + 2) (w.heap.size + 4) (w.heap.size + 3) ns a m n pl _ HR0.out CB.out CM.out CT.out CO.out FO.out OWN.out zB zM zT zO hg hb (by omega) (by omega) (by omega) hm hnl hE).mono ?_
  rw [hC]
  rintro e w1 ⟨v, a', rfl, ho, hR1, hx, hq⟩
  obtain ⟨rfl, hown⟩ := hq rfl
  have HO := hide ho
  have HR1 := hide hR1
  have HOW := hide hown
  have HC := hide hC
  obtain ⟨t1, t2, t3⟩ := hR1.cells
  clear ho hR1 hq hC hown r1 r2 r3 zB zM zT zO CB CM CT CO FO OWN
  go_wp2
  go_ret2
  exact ⟨v, rfl, KB.only HB0.out HO.out, HR1.out, HOW.out⟩

theorem Take_P_c (g B : Nat) (ns : List Nat) (a : Nat) (m : Nat) (w : World) (hR : RAny w g B ns a) (hm : m ≤ 9223372036854775807) (hnl : ns.length ≤ 1099511627776) : Calls Try.prog 20 #[.pointer (some ⟨g, 0, none⟩), .int .i64 (m : Int), .func (.func 21) #[] #[]] w (fun e w' => ∃ v, e = .returned (.tuple #[v, .int .i64 ((tl (RP ns) ns a m).2.1 : Int)]) ∧ Only g w w' ∧ RAny w' g B ns (tl (RP ns) ns a m).2.2 ∧ w'.ownsRow w.heap.size 43 2 v (tl (RP ns) ns a m).1.length (flat (tl (RP ns) ns a m).1)) := by
  by_cases hE : (lg ns a m).2.1 = 0
  · by_cases hC : (tk (RP ns) (lg ns a m).1 (lg ns a m).2.2).2.1 = 0
    · have q : tl (RP ns) ns a m = tk (RP ns) (lg ns a m).1 (lg ns a m).2.2 := by unfold tl; rw [if_neg (by omega), if_neg (by omega)]
      rw [q, hC]
      exact Take_P_all g B ns a m _ _ w hR hm hnl (by rw [← hE]) hC
    · have q : tl (RP ns) ns a m = ([], (tk (RP ns) (lg ns a m).1 (lg ns a m).2.2).2.1, a) := by unfold tl; rw [if_neg (by omega), if_pos hC]
      rw [q]
      exact Take_P_cut g B ns a m _ _ w hR hm hnl (by rw [← hE]) hC
  · have q : tl (RP ns) ns a m = ([], (lg ns a m).2.1, a) := by unfold tl; rw [if_pos hE]
    rw [q]
    exact Take_P_bad g B ns a m w hR hm hE
end Go.Proofs.Ytajkgecegefnmaa

namespace Go.Proofs.Ytajkgecegefnmaa
open Go.ChangeShapes Go.WideShapes Go.ChangeAt Go.RowKit Go.Deep
set_option linter.unusedSimpArgs false
set_option linter.unusedVariables false

/-- 'append(s, xs...)', both empty -/
theorem wpList_append00 {P : Program} (w : World) {ops : Array Oper} {rest : List Oper} {o : Oper} {a : Act} {Q : Exit → Act → World → Prop} (hgd : o.guard = none) (s x : Operand) (t : TypeId)
    (ho : o.op = .call { callee := .builtin .append, args := #[s, x], argTypes := #[t, t] })
    (e : TypeId) (i : TypeInfo) (z : Value) (bytes : Nat) (ht : P.underlying t = some (.slice e)) (hi : P.info? e = some i) (hz : i.zero = some z)
    (hsize : i.size = 1) (hby : i.bytes = bytes) (hzs : z.cells.size = 1)
    (v : Value) (hs : a.eval s = v) (hown : w.ownsRow 0 e 1 v 0 [])
    (ad : Addr) (n0 c : Nat) (hx : a.eval x = .slice (some ad) n0 c) (hn0 : n0 = 0)
    (h : ∀ v' w', w'.ownsRow 0 e 1 v' 0 [] → w.grownBy w' v.ownBlock → wpList P ops Q rest (a.put o.dst v') w') : wpList P ops Q (o :: rest) a w := by
  subst hn0
  refine wpList_plain hgd fun K hK => ?_
  obtain ⟨v', w', hr, h2, h3, _, h5⟩ := run_append_own_at (P := P) w 0 t o.type e i z 1 bytes ht hi hz hsize hby hzs (by decide) v 0 [] hown ad 0 c [] rfl (by intro j u hj; simp at hj) (by intro u hu; simp at hu) (by unfold maxLen; omega) (by omega) (Nat.zero_le _)
  unfold Oper.wp execOp
  simp only [ho, resolve, invoke, builtin, Sem.run_bind, Sem.run_pure, Result.andThen_ok, List.map_toArray, List.map_cons, List.map_nil, hs, hx, hr]
  exact hK _ _ (h v' w' h2 h3)
/-- a slice of bytes that came in -/
structure Row8 (w : World) (ao : Option Addr) (cap : Nat) (ns : List Nat) : Prop where
  nil : ao = none → ns = [] ∧ cap = 0
  bytes : ns ≠ [] → ∃ b off, ao = some ⟨b, off, none⟩ ∧ b < w.heap.size ∧ ∀ j, j < ns.length → w.cell? ⟨b, off + j, none⟩ = some (.int .u8 (ns.getD j 0 : Int))
  small : ∀ x ∈ ns, x < 256
  len : ns.length ≤ 1099511627776
  cap_le : ns.length ≤ cap

set_option maxRecDepth 100000 in
set_option maxHeartbeats 1000000 in
theorem Clone8_zero (ad : Addr) (n0 cap : Nat) (w : World) (hn0 : n0 = 0) : Calls Try.prog 50 #[.slice (some ad) n0 cap] w (fun e w' => ∃ v', e = .returned v' ∧ w'.ownsRow 0 5 1 v' 0 [] ∧ Below w.heap.size w w') := by
  obtain ⟨i0, hi0, hz0, hz1, hz2⟩ := info_parts info5
  have Q := eql28
  have HN := hide hn0
  clear hn0
  go_enter Try.func50, Try.ntmps50
  go_wp2_with (at_builtin; refine wpList_append00 _ rfl (.tmp 5) (.tmp 6) 28 rfl 5 i0 (.int .u8 0) 1 Try.underlying28 hi0 hz0 hz1 hz2 rfl (.slice (some ⟨w.heap.size, 0, none⟩) 0 0) rfl (made0_5 w) ad n0 cap rfl HN.out ?_; intro v' wn hown2 hg2)
  go_ret
  refine ⟨v', rfl, hown2, ((Below.refl w.heap.size w).alloc (Nat.le_refl _) (.cells #[] 5)).grown hg2 (by simp) (fun k hk => ?_)⟩
  have q' : w.heap.size = k := Option.some.inj hk
  omega

set_option maxRecDepth 100000 in
set_option maxHeartbeats 1000000 in
theorem Clone8_nil  (w : World) : Calls Try.prog 50 #[.slice none 0 0] w fun e w' => e = .returned (.slice none 0 0) ∧ Below w.heap.size w w' := by
  have Q := eql28n
  go_enter Try.func50, Try.ntmps50
  go_wp2
  go_ret
  exact ⟨rfl, by (focus repeat' (first | (with_reducible exact Below.refl _ _) | (with_reducible assumption) | (with_reducible refine Below.alloc ?_ ?_ _) | (with_reducible refine Below.drew ?_) | (with_reducible refine bdrewN ?_ _) | (with_reducible refine Below.setCell ?_ ?_ _) | (first | (with_reducible exact Nat.le_refl _) | (with_reducible assumption) | omega | (simp; omega) | (simp; done))))⟩

set_option maxRecDepth 100000 in
set_option maxHeartbeats 1000000 in
theorem NewReader_nil  (w : World) : Calls Try.prog 19 #[.slice none 0 0] w (fun e w' => ∃ g, e = .returned (.pointer (some ⟨g, 0, none⟩)) ∧ w.heap.size ≤ g ∧ Below w.heap.size w w' ∧ RAny w' g w'.heap.size [] 0) := by
  go_enter Try.func19, Try.ntmps19
  go_wp2_with fail
  refine (Clone8_nil _).mono ?_
  rintro e w1 ⟨rfl, hb1⟩
  have HB1 := hide hb1
  clear hb1
  go_wp2
  go_ret
  have hz := HB1.out.size
  have hbl : Below w.heap.size w (w1.alloc (.cells #[.slice none 0 0, .int .i64 0] 93)) := (HB1.out).trans ((bstep (Below.refl _ _) (by (focus repeat' (first | (with_reducible exact Below.refl _ _) | (with_reducible assumption) | (with_reducible refine Below.alloc ?_ ?_ _) | (with_reducible refine Below.drew ?_) | (with_reducible refine bdrewN ?_ _) | (with_reducible refine Below.setCell ?_ ?_ _) | (first | (with_reducible exact Nat.le_refl _) | (with_reducible assumption) | omega | (simp; omega) | (simp; done)))))).mono hz)
  exact ⟨w1.heap.size, rfl, hz, hbl, Nat.le_refl _, .inr ⟨⟨by simp, fun o => by simp [go_sem], fun o => by simp [go_sem]⟩, rfl, rfl⟩⟩

set_option maxRecDepth 100000 in
set_option maxHeartbeats 1000000 in
theorem NewReader_zero (ad : Addr) (n0 cap : Nat) (w : World) (hn0 : n0 = 0) : Calls Try.prog 19 #[.slice (some ad) n0 cap] w (fun e w' => ∃ g, e = .returned (.pointer (some ⟨g, 0, none⟩)) ∧ w.heap.size ≤ g ∧ Below w.heap.size w w' ∧ RAny w' g w'.heap.size [] 0) := by
  have HN := hide hn0
  clear hn0
  go_enter Try.func19, Try.ntmps19
  go_wp2_with fail
  refine (Clone8_zero ad n0 cap _ HN.out).mono ?_
  rintro e w1 ⟨v', rfl, own1, hb1⟩
  have HB1 := hide hb1
  have OW := hide own1
  clear hb1 own1
  rcases OW.out.2 with ⟨rfl, _⟩ | ⟨k, c, cur, rfl, _, hk, _⟩
  · go_wp2
    go_ret
    have hz := HB1.out.size
    have hbl : Below w.heap.size w (w1.alloc (.cells #[.slice none 0 0, .int .i64 0] 93)) := (HB1.out).trans ((bstep (Below.refl _ _) (by (focus repeat' (first | (with_reducible exact Below.refl _ _) | (with_reducible assumption) | (with_reducible refine Below.alloc ?_ ?_ _) | (with_reducible refine Below.drew ?_) | (with_reducible refine bdrewN ?_ _) | (with_reducible refine Below.setCell ?_ ?_ _) | (first | (with_reducible exact Nat.le_refl _) | (with_reducible assumption) | omega | (simp; omega) | (simp; done)))))).mono hz)
    exact ⟨w1.heap.size, rfl, hz, hbl, Nat.le_refl _, .inr ⟨⟨by simp, fun o => by simp [go_sem], fun o => by simp [go_sem]⟩, rfl, rfl⟩⟩
  · go_wp2
    go_ret
    have hz := HB1.out.size
    have hbl : Below w.heap.size w (w1.alloc (.cells #[.slice (some ⟨k, 0, none⟩) 0 c, .int .i64 0] 93)) := (HB1.out).trans ((bstep (Below.refl _ _) (by (focus repeat' (first | (with_reducible exact Below.refl _ _) | (with_reducible assumption) | (with_reducible refine Below.alloc ?_ ?_ _) | (with_reducible refine Below.drew ?_) | (with_reducible refine bdrewN ?_ _) | (with_reducible refine Below.setCell ?_ ?_ _) | (first | (with_reducible exact Nat.le_refl _) | (with_reducible assumption) | omega | (simp; omega) | (simp; done)))))).mono hz)
    have hkl := (Array.getElem?_eq_some_iff.1 hk).1
    exact ⟨w1.heap.size, rfl, hz, hbl, Nat.le_refl _, .inl ⟨k, 0, c, by (simp; omega), by simp, fun o => by simp [go_sem], fun o => by simp [go_sem], by (simp; omega), by omega, fun j hj => by simp at hj, by simp, Nat.le_refl _, by simp, Nat.zero_le _⟩⟩

theorem NewReader_any (ao : Option Addr) (cap : Nat) (ns : List Nat) (w : World) (h : Row8 w ao cap ns) : Calls Try.prog 19 #[.slice ao ns.length cap] w (fun e w' => ∃ g, e = .returned (.pointer (some ⟨g, 0, none⟩)) ∧ w.heap.size ≤ g ∧ Below w.heap.size w w' ∧ RAny w' g w'.heap.size ns 0) := by
  by_cases hn : ns = []
  · subst hn
    cases ao with
    | none => obtain ⟨_, rfl⟩ := h.nil rfl; exact NewReader_nil w
    | some ad => exact NewReader_zero ad 0 cap w rfl
  · obtain ⟨b, off, rfl, hb, hc⟩ := h.bytes hn
    refine (NewReader_some ns b off cap w (List.length_pos_iff.2 hn) (by have := h.len; omega) h.small hc hb).mono ?_
    rintro e w' ⟨g, b2, cap2, rfl, hg, hb2, hbel, hR⟩
    exact ⟨g, rfl, hg, hbel, Nat.le_refl _, .inl ⟨b2, 0, cap2, hR.2.2.2.1, hR⟩⟩
end Go.Proofs.Ytajkgecegefnmaa

