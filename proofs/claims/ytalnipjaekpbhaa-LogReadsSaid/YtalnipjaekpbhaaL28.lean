import Derived.Test.YtalnipjaekpbhaaMf
import Derived.StillTailTactics
import Derived.BigRegion
import Derived.Deep.CutBlock
namespace Go.Proofs.Ytalnipjaekpbhaa
open Go.ChangeShapes Go.WideShapes Go.ChangeAt Go.RowKit Go.Deep
set_option linter.unusedSimpArgs false
set_option linter.unusedVariables false

theorem lg_good {ns : List Nat} {a : Nat} (h : (lg ns a 64).2.1 = 0) : ∃ m a5, lg ns a 64 = (m, 0, a5) ∧ m ≤ 64 ∧ pO ns 4 a = pF ns m a5 [] := by
  obtain ⟨h1, h2, h3, h4⟩ := lg_ok ns a 64 h
  refine ⟨_, _, h4, h2, ?_⟩
  have hn : nxt ns a = some ((rd ns a).1, (rd ns a).2.2) := by unfold nxt; rw [if_pos ⟨h1, by omega⟩]
  unfold pO
  rw [if_pos rfl, hn]
  simp only
  rw [if_neg (by omega)]
theorem lg_bad {ns : List Nat} {a : Nat} (h8 : ∀ x ∈ ns, x < 256) (ha : a ≤ ns.length) (h : (lg ns a 64).2.1 ≠ 0) : pO ns 4 a = none := by
  unfold pO
  rw [if_pos rfl]
  cases hn : nxt ns a with
  | none => rfl
  | some p =>
    obtain ⟨m, a5⟩ := p
    simp only
    by_cases h64 : 64 < m
    · rw [if_pos h64]
    · rw [if_neg h64]
      obtain ⟨e1, e2, e3, -⟩ := nxt_eq hn
      have hl : ns.length - a5 < m := by
        by_cases q : ns.length - a5 < m
        · exact q
        · exfalso
          apply h
          unfold lg
          rw [if_neg (by rw [e1]; simp), e2, e3, if_neg h64, if_neg q]
      cases hp : pF ns m a5 [] with
      | none => rfl
      | some p =>
        obtain ⟨fs, a6⟩ := p
        obtain ⟨-, q2, -⟩ := nxt_take h8 hn
        obtain ⟨mm, r1, r2, r3, r4, r5, r6⟩ := pF_take h8 m a5 [] fs a6 q2 hp
        omega
theorem wpList_load_midG {P : Program} {ops : Array Oper} {rest : List Oper} {op : Oper} {a : Act} {w : World} {Q : Exit → Act → World → Prop} (hw : Region.wanted op (yielded ops a.tmps) = true) (ty : TypeId) (x : Operand) (ho : op.op = .load ty x)
    (b o : Nat) (hx : a.eval x = .pointer (some ⟨b, o, none⟩)) (cs : List Value) (d : TypeDesc) (hc : w.rangeAt b o cs)
    (hu : P.underlying ty = some d) (hd : d.isRow = true) (hi : (P.info? ty).map (·.size) = some cs.length)
    (h : wpList P ops Q rest (a.put op.dst (.agg cs.toArray)) w) : wpList P ops Q (op :: rest) a w := by
  unfold wpList
  rw [if_pos hw]
  exact .inl (wp_load_mid ty x ho b o hx cs d hc hu hd hi h)
theorem offs_in {ns : List Nat} {k : Nat} {O : Ord} {a4 : Nat} {w : World} {B : Nat} {ov : Value} (h : (k = 0 ∧ readO ns = none) ∨ parse ns = some (O, a4)) (hc : chk O = true) (hk : O.kind = (k : Int)) (h8 : ∀ x ∈ ns, x < 256) (hv : w.ownsRow B 93 2 ov O.offs.length (flatF O.offs)) : OffsIn w ov O.offs := by
  rcases h with h | h
  · have q := ((chk_iff O).1 hc).k0
    rw [hk, h.1] at q
    omega
  · have q := parse_take h8 h
    exact OffsIn.of_own hv (fun x hx => (q.2.2.1.o1 x hx).1) (by have := q.2.2.2.2; omega)
theorem pF_all {ns : List Nat} (h8 : ∀ x ∈ ns, x < 256) : ∀ (n a : Nat) (l l2 : List (Nat × Int)) (a2 : Nat), pF ns n a l = some (l2, a2) → ∃ m, l2 = l ++ m ∧ m.length = n ∧ ∀ x ∈ m, x.1 < 4294967296
  | 0, a, l, l2, a2, h => by
    simp only [pF, Option.some.injEq, Prod.mk.injEq] at h
    obtain ⟨rfl, rfl⟩ := h
    exact ⟨[], by simp, rfl, fun x hx => by cases hx⟩
  | n + 1, a, l, l2, a2, h => by
    cases hn : nxt ns a with
    | none => rw [pF_none1 hn] at h; cases h
    | some p =>
      obtain ⟨g, a1⟩ := p
      by_cases hg : 4294967295 < g
      · rw [pF_big hn hg] at h; cases h
      · cases hn2 : nxt ns a1 with
        | none => rw [pF_none2 hn hn2] at h; cases h
        | some p =>
          obtain ⟨c, a3⟩ := p
          rw [pF_some hn hg hn2] at h
          obtain ⟨m, rfl, q2, q3⟩ := pF_all h8 n a3 _ l2 a2 h
          refine ⟨(g, (c : Int)) :: m, by simp, by simp [q2], fun y hy => ?_⟩
          rcases List.mem_cons.1 hy with rfl | hy
          · show g < 4294967296; omega
          · exact q3 y hy
theorem pO_all {ns : List Nat} {k a a2 : Nat} {fs : List (Nat × Int)} (h : pO ns k a = some (fs, a2)) (h8 : ∀ x ∈ ns, x < 256) : fs.length ≤ 64 ∧ ∀ x ∈ fs, x.1 < 4294967296 := by
  unfold pO at h
  by_cases hk : k = 4
  · rw [if_pos hk] at h
    cases hn : nxt ns a with
    | none => rw [hn] at h; cases h
    | some p =>
      obtain ⟨m, a1⟩ := p
      rw [hn] at h
      simp only at h
      by_cases hm : 64 < m
      · rw [if_pos hm] at h; cases h
      · rw [if_neg hm] at h
        obtain ⟨q, e, q2, q3⟩ := pF_all h8 m a1 [] fs a2 h
        rw [List.nil_append] at e
        subst e
        exact ⟨by omega, q3⟩
  · rw [if_neg hk] at h
    simp only [Option.some.injEq, Prod.mk.injEq] at h
    obtain ⟨rfl, rfl⟩ := h
    exact ⟨by simp, fun x hx => (by cases hx)⟩
theorem offs_lt {ns : List Nat} {k a a2 : Nat} {fs : List (Nat × Int)} (h : pO ns k a = some (fs, a2)) (h8 : ∀ x ∈ ns, x < 256) : ∀ x ∈ fs, x.1 < 4294967296 := (pO_all h h8).2
theorem pO_len {ns : List Nat} {k a a2 : Nat} {fs : List (Nat × Int)} (h : pO ns k a = some (fs, a2)) (h8 : ∀ x ∈ ns, x < 256) : fs.length ≤ 64 := (pO_all h h8).1
theorem wholeO_len (k : Int) : (wholeO k).length ≤ 8 := by unfold wholeO; (repeat' split) <;> decide
theorem wideO_len (k : Int) : (wideO k).length ≤ 8 := by unfold wideO; (repeat' split) <;> decide
theorem behindO_len (k : Int) : (behindO k).length ≤ 8 := by unfold behindO; (repeat' split) <;> decide
theorem fail_T {ns : List Nat} {k a : Nat} (h : (k = 0 ∧ readO ns = none) ∨ pK ns = some (k, a)) (ht : pT ns k a = none) : readO ns = none := by
  rcases h with h | h
  · exact h.2
  · exact readO_none (parse_noT h ht)
theorem fail_N {ns : List Nat} {k a a2 : Nat} {nm : List Nat} (h : (k = 0 ∧ readO ns = none) ∨ pK ns = some (k, a)) (ht : pT ns k a = some (nm, a2)) (hn : pN ns (numL (k : Int)).length a2 [] = none) : readO ns = none := by
  rcases h with h | h
  · exact h.2
  · exact readO_none (parse_noN h ht hn)
theorem fail_O {ns : List Nat} {k a a2 a3 : Nat} {nm l : List Nat} (h : (k = 0 ∧ readO ns = none) ∨ pK ns = some (k, a)) (ht : pT ns k a = some (nm, a2)) (hn : pN ns (numL (k : Int)).length a2 [] = some (l, a3)) (ho : pO ns k a3 = none) : readO ns = none := by
  rcases h with h | h
  · exact h.2
  · exact readO_none (parse_noO h ht hn ho)
theorem mkO_0 (k : Nat) : ({ zeroO 0 with kind := (k : Int) } : Ord) = mkO k [] [] [] := by
  unfold mkO ofO zeroO
  simp only [Ord.mk.injEq, true_and, and_true]
  funext j
  rw [assign_nil]; split <;> rfl
theorem numL_abc (k : Int) : numL k = wholeO k ++ (wideO k ++ behindO k) := by
  unfold numL wholeO wideO behindO
  by_cases k1 : k = 1
  · subst k1; rfl
  by_cases k2 : k = 2
  · subst k2; rfl
  by_cases k3 : k = 3
  · subst k3; rfl
  by_cases k4 : k = 4
  · subst k4; rfl
  by_cases k5 : k = 5
  · subst k5; rfl
  by_cases k6 : k = 6
  · subst k6; rfl
  simp [k1, k2, k3, k4, k5, k6]
set_option maxRecDepth 100000 in
set_option maxHeartbeats 16000000 in
theorem Read_c (ao : Option Addr) (cap : Nat) (ns : List Nat) (w : World) (hb : Row8 w ao cap ns) : Calls Try.prog 20 #[.slice ao ns.length cap] w fun e w' => (readO ns = none ∧ e = .returned (.tuple #[ordV (zeroO 0) (.slice none 0 0), .int .i64 332]) ∧ Below w.heap.size w w') ∨ (∃ o v', readO ns = some o ∧ e = .returned (.tuple #[ordV o v', .int .i64 0]) ∧ w'.ownsRow w.heap.size 93 2 v' o.offs.length (flatF o.offs) ∧ Below w.heap.size w w') := by
  obtain ⟨W, hW⟩ : ∃ W, W = (w.alloc (.cells #[Value.int .i64 0, .string ⟨#[]⟩, .int .i64 0, .int .i64 0, .int .i64 0, .int .i64 0, .int .i64 0, .int .i64 0, .int .i64 0, .int .i64 0, .int .i64 0, .int .i64 0, .int .i64 0, .int .i64 0, .int .i64 0, .int .i64 0, .slice none 0 0, .int .i64 0] 29)).alloc (.cells #[.int .i64 0] 35) := ⟨_, rfl⟩
  have hb1 : Below w.heap.size w (w.alloc (.cells #[Value.int .i64 0, .string ⟨#[]⟩, .int .i64 0, .int .i64 0, .int .i64 0, .int .i64 0, .int .i64 0, .int .i64 0, .int .i64 0, .int .i64 0, .int .i64 0, .int .i64 0, .int .i64 0, .int .i64 0, .int .i64 0, .int .i64 0, .slice none 0 0, .int .i64 0] 29)) := (Below.refl _ _).alloc (Nat.le_refl _) _
  have hb0 : Below w.heap.size w W := by rw [hW]; exact hb1.alloc hb1.size _
  have hy : ∀ ad, ao = some ad → ns ≠ [] → ad.block < w.heap.size := fun ad e hn => by
    obtain ⟨b, off, e2, h1, -⟩ := hb.bytes hn
    rw [e] at e2
    cases e2; exact h1
  have hsW : W.heap.size = w.heap.size + 2 := by rw [hW, World.size_alloc, World.size_alloc]
  have hN := NewReader_any ao cap ns W (hb.below hb0 hy)
  have hp0 : ∃ cs : Array Value, W.heap[w.heap.size]? = some (.cells cs 29) ∧ cs.size = 18 := ⟨#[Value.int .i64 0, .string ⟨#[]⟩, .int .i64 0, .int .i64 0, .int .i64 0, .int .i64 0, .int .i64 0, .int .i64 0, .int .i64 0, .int .i64 0, .int .i64 0, .int .i64 0, .int .i64 0, .int .i64 0, .int .i64 0, .int .i64 0, .slice none 0 0, .int .i64 0], by
    rw [hW]
    exact (((Below.refl _ _).alloc (Nat.le_refl _) _).block w.heap.size (by simp)).trans (heap_alloc_new w _), rfl⟩
  have hx0 : BoxO W w.heap.size (zeroO 0) (.slice none 0 0) := by
    rw [hW]
    exact (box_made w (zeroO 0) (.slice none 0 0)).below ((Below.refl _ _).alloc (Nat.le_refl _) _)
  have he0 : W.heap[w.heap.size + 1]? = some (.cells #[.int .i64 0] 35) := by
    rw [hW]
    have q := heap_alloc_new (w.alloc (.cells #[Value.int .i64 0, .string ⟨#[]⟩, .int .i64 0, .int .i64 0, .int .i64 0, .int .i64 0, .int .i64 0, .int .i64 0, .int .i64 0, .int .i64 0, .int .i64 0, .int .i64 0, .int .i64 0, .int .i64 0, .int .i64 0, .int .i64 0, .slice none 0 0, .int .i64 0] 29)) (.cells #[.int .i64 0] 35)
    rw [World.size_alloc] at q
    exact q
  have HN := hide (hN.mono (R' := fun e w' => ∃ g, e = .returned (.pointer (some ⟨g, 0, none⟩)) ∧ ESt g w'.heap.size w w' ns 0 (zeroO 0) (.slice none 0 0) 0) (fun e w' ⟨g, h1, h2, h3, h4⟩ => ⟨g, h1, by
    have b0 := h3.block w.heap.size (by omega)
    obtain ⟨cs, q1, q2⟩ := hp0
    exact ⟨bstep hb0 h3, ⟨cs, b0.trans q1, q2⟩, hx0.stays b0, (fun y e => by cases e), (h3.block _ (by omega)).trans he0, h4, by omega⟩⟩))
  have HR8 := hide hb
  have HW := hide hW
  have hmf : ∀ (fn : Fn) (first cap : Array Value) (w : World), (Instr.makeFunc fn first cap).run Try.prog w = .ok (.func fn first cap) w := fun _ _ _ _ => rfl
  clear hb1 hb0 hW hb hy hsW hN hp0 hx0 he0
  go_enter_defers Try.func20, Try.ntmps20
  go_upto_region 2 with fail
  rw [← HW.out]
  go_upto_region 3 with (go_at_call 58; (apply Calls.mono; focus (exact HN.out)); rintro e w2 ⟨g, rfl, hs⟩; have HS0 := hide hs; clear hs)
  obtain ⟨B, hB⟩ : ∃ B, B = w2.heap.size := ⟨_, rfl⟩
  rw [← hB] at HS0
  clear hB HN
  cases hn : nxt ns 0 with
  | none =>
    have HF := hide (readO_none (parse_noK (pK_none hn)))
    have CN := hide (number_die HS0.out.R (most := 6) (num_die1 hn (by decide)))
    clear hn
    go_wp2_with (go_at_call 59; (apply Calls.mono; focus (exact CN.out)); rintro e w3 ⟨rfl, ho, a2, hd⟩; have HS3 := hide (HS0.out.next ho hd); clear ho hd)
    exact read_die rfl rfl HS3.out.box.there HS3.out.ec (by omega) (.inl ⟨HF.out, rfl, (below_sets (Nat.le_refl _) _ _ _ HS3.out.b).setCell (p := ⟨w.heap.size + 1, 0, none⟩) (by simp) _⟩)
  | some p =>
    obtain ⟨k, a1⟩ := p
    by_cases hk6 : 6 < k
    · have HF := hide (readO_none (parse_noK (pK_bad hn (by omega))))
      have CN := hide (number_die HS0.out.R (most := 6) (num_die2 hn hk6))
      clear hn
      go_wp2_with (go_at_call 59; (apply Calls.mono; focus (exact CN.out)); rintro e w3 ⟨rfl, ho, a2, hd⟩; have HS3 := hide (HS0.out.next ho hd); clear ho hd)
      exact read_die rfl rfl HS3.out.box.there HS3.out.ec (by omega) (.inl ⟨HF.out, rfl, (below_sets (Nat.le_refl _) _ _ _ HS3.out.b).setCell (p := ⟨w.heap.size + 1, 0, none⟩) (by simp) _⟩)
    · have CN := hide (number_nxt HS0.out.R hn (most := 6) (by omega) (by decide))
      have HQ := hide (show (k = 0 ∧ readO ns = none) ∨ pK ns = some (k, a1) by
        by_cases hk0 : k = 0
        · exact .inl ⟨hk0, readO_none (parse_noK (pK_bad hn (by omega)))⟩
        · exact .inr (pK_some hn (by omega)))
      have hwk : wrap64 (k : Int) = (k : Int) := by unfold wrap64; omega
      clear hn
      go_upto_region 4 with (go_at_call 59; (apply Calls.mono; focus (exact CN.out)); rintro e w3 ⟨rfl, ho, hd⟩; have HS3 := hide (HS0.out.next ho hd); have z0 := HS3.out.box.c 0 (by decide); have f0 := HS3.out.box.f 0; clear ho hd)
      obtain ⟨W4, hW4⟩ : ∃ q, q = w3.setCell ⟨w.heap.size, 0, none⟩ (.int .i64 (k : Int)) := ⟨_, rfl⟩
      have HS4 := hide (show ESt g B w W4 ns a1 (mkO k [] [] []) (.slice none 0 0) 0 by
        rw [hW4, ← mkO_0]
        exact HS3.out.put (HS3.out.box.kinded (k : Int)) (fun y e => by cases e))
      rw [← hW4]
      have x0 : W4.cell? ⟨w.heap.size, 0, none⟩ = some (.int .i64 (k : Int)) := HS4.out.box.c 0 (by decide)
      obtain ⟨b1, hb1⟩ : ∃ b, ((k : Int) == 1) = b := ⟨_, rfl⟩
      have B1 := hide (show b1 = true ↔ k = 1 by rw [← hb1]; simp; omega)
      clear hW4 z0 f0 HS3 HS0 CN hwk
      go_upto_if 23 with fail
      go_cut [24] from 25 to 33 (fun v24 wx => ∃ (nm : List Nat) (a2 : Nat), pT ns k a1 = some (nm, a2) ∧ ESt g B w wx ns a2 (mkO k nm [] []) (.slice none 0 0) 0)
      case first =>
        by_cases h1 : k = 1
        · have db := B1.out.2 h1
          subst db
          have CT := RText_c g B ns a1 64 W4 HS4.out.R (by decide)
          obtain ⟨nm, hnm⟩ : ∃ q, q = (tx ns a1 64).1 := ⟨_, rfl⟩
          obtain ⟨er, her⟩ : ∃ q, q = (tx ns a1 64).2.1 := ⟨_, rfl⟩
          obtain ⟨a2, ha2⟩ : ∃ q, q = (tx ns a1 64).2.2 := ⟨_, rfl⟩
          rw [← hnm, ← her, ← ha2] at CT
          have CX := hide CT
          have PT : pT ns k a1 = if er = 0 then some (nm, a2) else none := by
            unfold pT; rw [if_pos h1, her, hnm, ha2]
          have PTT := hide PT
          clear CT hnm her ha2 PT h1 hb1
          go_upto_region 6 with (go_at_call 60; (apply Calls.mono; focus (exact CX.out)); rintro e w5 ⟨rfl, ho, hd⟩; have HS5 := hide (HS4.out.next ho hd); have z1 := HS5.out.box.c 1 (by decide); have f1 := HS5.out.box.f 1; have ze := (box_cell HS5.out.ec).1; have fe := (box_cell HS5.out.ec).2; have n1 : w.heap.size + 1 ≠ w.heap.size := (by omega); have n2 : w.heap.size ≠ w.heap.size + 1 := (by omega); clear ho hd)
          obtain ⟨W6, hW6⟩ : ∃ q, q = (w5.setCell ⟨w.heap.size, 1, none⟩ (.string (bstr nm))).setCell ⟨w.heap.size + 1, 0, none⟩ (.int .i64 (er : Int)) := ⟨_, rfl⟩
          have HS6 := hide (show ESt g B w W6 ns a2 (mkO k nm [] []) (.slice none 0 0) (er : Int) by
            rw [hW6]
            exact (HS5.out.put (HS5.out.box.named nm) (fun y e => by cases e)).err _)
          rw [← hW6]
          have ze6 := (box_cell HS6.out.ec).1
          clear z1 f1 ze fe n1 n2 hW6 HS5 HS4
          by_cases he : er = 0
          · subst he
            have PT2 := hide (show pT ns k a1 = some (nm, a2) by rw [PTT.out]; simp)
            clear PTT
            go_wp2_with fail
            go_meet
            exact ⟨nm, a2, PT2.out, HS6.out⟩
          · have HF := hide (fail_T HQ.out (show pT ns k a1 = none by rw [PTT.out, if_neg he]))
            have de : ((er : Int) != 0) = true := by simp; omega
            clear PTT he
            go_wp2_with fail
            exact read_die rfl rfl HS6.out.box.there HS6.out.ec (by omega) (.inl ⟨HF.out, rfl, (below_sets (Nat.le_refl _) _ _ _ HS6.out.b).setCell (p := ⟨w.heap.size + 1, 0, none⟩) (by simp) _⟩)
        · have db : b1 = false := by
            cases b1
            · rfl
            · exact absurd (B1.out.1 rfl) h1
          subst db
          have PT2 := hide (show pT ns k a1 = some ([], a1) by unfold pT; rw [if_neg h1])
          clear h1 hb1
          go_wp2_with fail
          go_meet
          exact ⟨[], a1, PT2.out, HS4.out⟩
      case rest =>
        obtain ⟨nm, a2, pt, hs2⟩ := hcut
        have PT := hide pt
        have HS7 := hide hs2
        clear pt hs2 hb1 HS4 B1 x0
        have x0 := HS7.out.box.c 0 (by decide)
        have C45 := hide (fields_c w.heap.size (k : Int) wc x0)
        clear x0
        go_upto_region 9 with (go_at_call 45; (apply Calls.mono; focus (exact C45.out)); rintro e w8 ⟨v1, v2, rfl, o1, o2, hb⟩; obtain ⟨p1, c1, rfl⟩ := own_any o1; obtain ⟨p2, c2, rfl⟩ := own_any o2; have HS8 := hide (HS7.out.grow hb); have O1 := hide o1; have O2 := hide o2; have HZ8 := hide hb.size; clear o1 o2 hb)
        obtain ⟨A, hA⟩ : ∃ A, A = wholeO (k : Int) := ⟨_, rfl⟩
        obtain ⟨Bw, hBw⟩ : ∃ A, A = wideO (k : Int) := ⟨_, rfl⟩
        obtain ⟨C, hC⟩ : ∃ A, A = behindO (k : Int) := ⟨_, rfl⟩
        have hAl : A.length ≤ 8 := by rw [hA]; exact wholeO_len _
        have hBl : Bw.length ≤ 8 := by rw [hBw]; exact wideO_len _
        have hCl : C.length ≤ 8 := by rw [hC]; exact behindO_len _
        obtain ⟨n, hn⟩ : ∃ n, n = (numL (k : Int)).length := ⟨_, rfl⟩
        have HNL := hide (show numL (k : Int) = A ++ (Bw ++ C) by rw [hA, hBw, hC]; exact numL_abc _)
        have HNN := hide (show n = A.length + (Bw.length + C.length) by rw [hn, HNL.out, List.length_append, List.length_append])
        have HN := hide hn
        obtain ⟨R, hR⟩ : ∃ R, R = pN ns n a2 [] := ⟨_, rfl⟩
        have HR := hide hR
        obtain ⟨BB, hBB⟩ : ∃ q, q = wc.heap.size := ⟨_, rfl⟩
        have hgB : g < BB := by rw [hBB]; exact HS7.out.R.cells.1
        have hzB : w.heap.size + 2 ≤ BB := by rw [hBB]; exact HS7.out.sz
        rw [← hA, ← hBB] at O1
        rw [← hBw, ← hBB] at O2
        rw [← hA, ← hBw]
        have HC := hide hC
        have HBB := hide (show BB ≤ w8.heap.size by rw [hBB]; exact HZ8.out)
        have HLEN := hide (show ([] : List Nat).length = 0 + 0 from rfl)
        have HPN := hide (show pN ns (n - ([] : List Nat).length) a2 [] = R by rw [hR]; rfl)
        have HST := hide HS8.out
        clear hA hBw hC hn hR hBB HS7 HS8 C45
        go_wp2_with fail
        go_loopw [41] (fun v41 wr => ∃ (j : Nat) (l : List Nat) (a : Nat), j ≤ A.length ∧ v41 = .int .i64 (j : Int) ∧ l.length = 0 + j ∧ pN ns (n - l.length) a l = R ∧ ESt g B w wr ns a (mkO k nm l []) (.slice none 0 0) 0 ∧ BB ≤ wr.heap.size ∧ wr.ownsRow BB 104 1 (.slice p1 A.length c1) A.length (ptrs w.heap.size A) ∧ wr.ownsRow BB 105 1 (.slice p2 Bw.length c2) Bw.length (ptrs w.heap.size Bw)) (fun v41 _ => A.length - (intOf v41).toNat)
        case atStart => exact ⟨0, _, _, Nat.zero_le _, rfl, HLEN.out, HPN.out, HST.out, HBB.out, O1.out, O2.out⟩
        case round =>
          obtain ⟨j, l, a, hj, rfl, hl, hp, hs, hbb, ho, ho0⟩ := hrel
          have HBB1 := hide hbb
          have HLEN1 := hide hl
          have HPN1 := hide hp
          have HST1 := hide hs
          have HRO := hide ho
          have HKO0 := hide ho0
          have hj0 : (0 : Int) ≤ (j : Int) := by omega
          clear hl hp hs hbb ho ho0 HLEN HPN HST HBB
          by_cases hlt : j < A.length
          · have hlt' : (j : Int) < (A.length : Int) := by omega
            obtain ⟨ga, ca, hv, -, -⟩ := HRO.out.form (by omega)
            injection hv with hv _ hc
            subst hv hc
            have c1 : wr.cell? ⟨ga, j, none⟩ = some (.pointer (some ⟨w.heap.size, A.getD j 0, none⟩)) := by
              have q := HRO.out.cellAt j (by omega)
              rwa [ptrs_at _ hlt] at q
            obtain ⟨q, hq⟩ : ∃ q, q = A.getD j 0 := ⟨_, rfl⟩
            rw [← hq] at c1
            have hl2 : l.length < (numL (k : Int)).length := by rw [HLEN1.out, ← HN.out, HNN.out]; omega
            have hqn : (numL (k : Int)).getD l.length 0 = q := by
              rw [HLEN1.out, HNL.out, hq]
              simp only [List.getD_eq_getElem?_getD]
              congr 1
              rw [Nat.zero_add, List.getElem?_append_left hlt]
            have hin : q ∈ numO := by rw [← hqn]; exact numL_sub _ _ (getD_mem hl2)
            have HQN := hide hqn
            have HL2 := hide hl2
            have HIN := hide hin
            clear hq hqn hin
            have e1 : n - l.length = (n - (l.length + 1)) + 1 := by rw [← HN.out] at hl2; omega
            rw [e1] at HPN1
            clear e1 hl2
            cases hx : nxt ns a with
            | none =>
              have HF := hide (fail_N HQ.out PT.out (show pN ns (numL (k : Int)).length a2 [] = none by rw [← HN.out, ← HR.out, ← HPN1.out, pN_none hx]))
              have CN := hide (number_die HST1.out.R (most := 9223372036854775807) (num_die1 hx (by decide)))
              clear hx
              go_wp2_with (go_at_call 59; (apply Calls.mono; focus (exact CN.out)); rintro e w9 ⟨rfl, ho, a3, hd⟩; have HS9 := hide (HST1.out.next ho hd); clear ho hd)
              exact read_die rfl rfl HS9.out.box.there HS9.out.ec (by omega) (.inl ⟨HF.out, rfl, (below_sets (Nat.le_refl _) _ _ _ HS9.out.b).setCell (p := ⟨w.heap.size + 1, 0, none⟩) (by simp) _⟩)
            | some p =>
              obtain ⟨x, a3⟩ := p
              have hxb := (nxt_eq hx).2.2.2
              have CN := hide (number_nxt HST1.out.R hx (most := 9223372036854775807) (by omega) (by decide))
              have HP2 := hide (show pN ns (n - (l.length + 1)) a3 (l ++ [x]) = R by rw [← pN_some hx]; exact HPN1.out)
              have hwx : wrap64 (x : Int) = (x : Int) := by unfold wrap64; omega
              clear hx
              go_wp2_with (go_at_call 59; (apply Calls.mono; focus (exact CN.out)); rintro e w9 ⟨rfl, ho, hd⟩; have HS9 := hide (HST1.out.next ho hd); have HBN := hide (Nat.le_trans HBB1.out ho.size); have HRN := hide (own_only HRO.out ho (by omega)); have HKN0 := hide (own_only HKO0.out ho (by omega)); have zq := HS9.out.box.num HIN.out; have fq := HS9.out.box.f q; clear ho hd)
              go_roundw
              case rel =>
                refine ⟨j + 1, l ++ [x], a3, by omega, by go_num, by rw [List.length_append, HLEN1.out, List.length_singleton]; omega, by rw [List.length_append]; exact HP2.out, ?_, by rw [World.size_setCell]; exact HBN.out, own_same HRN.out (fun q2 hq2 _ => heap_setCell_other _ _ _ _ (by have := (HRN.out.lt q2 hq2).1; show q2 ≠ w.heap.size; omega)), own_same HKN0.out (fun q2 hq2 _ => heap_setCell_other _ _ _ _ (by have := (HKN0.out.lt q2 hq2).1; show q2 ≠ w.heap.size; omega))⟩
                rw [← mkO_snoc k nm l [] x HL2.out, HQN.out]
                exact HS9.out.put (HS9.out.box.upd q (x : Int) HIN.out) (fun y e => by cases e)
              case measure => (first | (simp [intOf]; done) | (simp [intOf]; omega))
          obtain rfl : A.length = j := by omega
          have HLEN := hide (show l.length = A.length + 0 by rw [HLEN1.out]; omega)
          have HPN := hide HPN1.out
          have HST := hide HST1.out
          have O2x := hide HKO0.out
          have HBB := hide HBB1.out
          clear HLEN1 HPN1 HST1 HRO HKO0 O1 O2 HBB1
          go_wp2_with fail
          go_loopw [53] (fun v53 wr => ∃ (j : Nat) (l : List Nat) (a : Nat), j ≤ Bw.length ∧ v53 = .int .i64 (j : Int) ∧ l.length = A.length + j ∧ pN ns (n - l.length) a l = R ∧ ESt g B w wr ns a (mkO k nm l []) (.slice none 0 0) 0 ∧ BB ≤ wr.heap.size ∧ wr.ownsRow BB 105 1 (.slice p2 Bw.length c2) Bw.length (ptrs w.heap.size Bw)) (fun v53 _ => Bw.length - (intOf v53).toNat)
          case atStart => exact ⟨0, _, _, Nat.zero_le _, rfl, HLEN.out, HPN.out, HST.out, HBB.out, O2x.out⟩
          case round =>
            obtain ⟨j, l, a, hj, rfl, hl, hp, hs, hbb, ho⟩ := hrel
            have HBB1 := hide hbb
            have HLEN1 := hide hl
            have HPN1 := hide hp
            have HST1 := hide hs
            have HRO := hide ho
            have hj0 : (0 : Int) ≤ (j : Int) := by omega
            clear hl hp hs hbb ho HLEN HPN HST HBB
            by_cases hlt : j < Bw.length
            · have hlt' : (j : Int) < (Bw.length : Int) := by omega
              obtain ⟨ga, ca, hv, -, -⟩ := HRO.out.form (by omega)
              injection hv with hv _ hc
              subst hv hc
              have c1 : wr.cell? ⟨ga, j, none⟩ = some (.pointer (some ⟨w.heap.size, Bw.getD j 0, none⟩)) := by
                have q := HRO.out.cellAt j (by omega)
                rwa [ptrs_at _ hlt] at q
              obtain ⟨q, hq⟩ : ∃ q, q = Bw.getD j 0 := ⟨_, rfl⟩
              rw [← hq] at c1
              have hl2 : l.length < (numL (k : Int)).length := by rw [HLEN1.out, ← HN.out, HNN.out]; omega
              have hqn : (numL (k : Int)).getD l.length 0 = q := by
                rw [HLEN1.out, HNL.out, hq]
                simp only [List.getD_eq_getElem?_getD]
                congr 1
                rw [List.getElem?_append_right (by omega), Nat.add_sub_cancel_left, List.getElem?_append_left hlt]
              have hin : q ∈ numO := by rw [← hqn]; exact numL_sub _ _ (getD_mem hl2)
              have HQN := hide hqn
              have HL2 := hide hl2
              have HIN := hide hin
              clear hq hqn hin
              have e1 : n - l.length = (n - (l.length + 1)) + 1 := by rw [← HN.out] at hl2; omega
              rw [e1] at HPN1
              clear e1 hl2
              cases hx : nxt ns a with
              | none =>
                have HF := hide (fail_N HQ.out PT.out (show pN ns (numL (k : Int)).length a2 [] = none by rw [← HN.out, ← HR.out, ← HPN1.out, pN_none hx]))
                have CN := hide (number_die HST1.out.R (most := 9223372036854775807) (num_die1 hx (by decide)))
                clear hx
                go_wp2_with (go_at_call 59; (apply Calls.mono; focus (exact CN.out)); rintro e w9 ⟨rfl, ho, a3, hd⟩; have HS9 := hide (HST1.out.next ho hd); clear ho hd)
                exact read_die rfl rfl HS9.out.box.there HS9.out.ec (by omega) (.inl ⟨HF.out, rfl, (below_sets (Nat.le_refl _) _ _ _ HS9.out.b).setCell (p := ⟨w.heap.size + 1, 0, none⟩) (by simp) _⟩)
              | some p =>
                obtain ⟨x, a3⟩ := p
                have hxb := (nxt_eq hx).2.2.2
                have CN := hide (number_nxt HST1.out.R hx (most := 9223372036854775807) (by omega) (by decide))
                have HP2 := hide (show pN ns (n - (l.length + 1)) a3 (l ++ [x]) = R by rw [← pN_some hx]; exact HPN1.out)
                have hwx : wrap64 (x : Int) = (x : Int) := by unfold wrap64; omega
                clear hx
                go_wp2_with (go_at_call 59; (apply Calls.mono; focus (exact CN.out)); rintro e w9 ⟨rfl, ho, hd⟩; have HS9 := hide (HST1.out.next ho hd); have HBN := hide (Nat.le_trans HBB1.out ho.size); have HRN := hide (own_only HRO.out ho (by omega)); have zq := HS9.out.box.num HIN.out; have fq := HS9.out.box.f q; clear ho hd)
                go_roundw
                case rel =>
                  refine ⟨j + 1, l ++ [x], a3, by omega, by go_num, by rw [List.length_append, HLEN1.out, List.length_singleton]; omega, by rw [List.length_append]; exact HP2.out, ?_, by rw [World.size_setCell]; exact HBN.out, own_same HRN.out (fun q2 hq2 _ => heap_setCell_other _ _ _ _ (by have := (HRN.out.lt q2 hq2).1; show q2 ≠ w.heap.size; omega))⟩
                  rw [← mkO_snoc k nm l [] x HL2.out, HQN.out]
                  exact HS9.out.put (HS9.out.box.upd q (x : Int) HIN.out) (fun y e => by cases e)
                case measure => (first | (simp [intOf]; done) | (simp [intOf]; omega))
            obtain rfl : Bw.length = j := by omega
            have HLEN := hide (show l.length = A.length + Bw.length + 0 by rw [HLEN1.out]; omega)
            have HPN := hide HPN1.out
            have x0 := HST1.out.box.c 0 (by decide)
            have C46 := hide (behind_c w.heap.size (k : Int) wr x0)
            have HBBx := hide HBB1.out
            clear HLEN1 HPN1 HRO O2x x0 HBB1
            go_wp2_with (go_at_call 46; (apply Calls.mono; focus (exact C46.out)); rintro e w10 ⟨v3, rfl, o3, hb⟩; rw [← HC.out] at o3; obtain ⟨p3, c3, rfl⟩ := own_any o3; have HST := hide (HST1.out.grow hb); have O3 := hide (own_lower o3 HBBx.out); have HBB := hide (Nat.le_trans HBBx.out hb.size); clear o3 hb)
            clear HST1 HBBx
            go_loopw [65] (fun v65 wr => ∃ (j : Nat) (l : List Nat) (a : Nat), j ≤ C.length ∧ v65 = .int .i64 (j : Int) ∧ l.length = A.length + Bw.length + j ∧ pN ns (n - l.length) a l = R ∧ ESt g B w wr ns a (mkO k nm l []) (.slice none 0 0) 0 ∧ BB ≤ wr.heap.size ∧ wr.ownsRow BB 104 1 (.slice p3 C.length c3) C.length (ptrs w.heap.size C)) (fun v65 _ => C.length - (intOf v65).toNat)
            case atStart => exact ⟨0, _, _, Nat.zero_le _, rfl, HLEN.out, HPN.out, HST.out, HBB.out, O3.out⟩
            case round =>
              obtain ⟨j, l, a, hj, rfl, hl, hp, hs, hbb, ho⟩ := hrel
              have HBB1 := hide hbb
              have HLEN1 := hide hl
              have HPN1 := hide hp
              have HST1 := hide hs
              have HRO := hide ho
              have hj0 : (0 : Int) ≤ (j : Int) := by omega
              clear hl hp hs hbb ho HLEN HPN HST HBB
              by_cases hlt : j < C.length
              · have hlt' : (j : Int) < (C.length : Int) := by omega
                obtain ⟨ga, ca, hv, -, -⟩ := HRO.out.form (by omega)
                injection hv with hv _ hc
                subst hv hc
                have c1 : wr.cell? ⟨ga, j, none⟩ = some (.pointer (some ⟨w.heap.size, C.getD j 0, none⟩)) := by
                  have q := HRO.out.cellAt j (by omega)
                  rwa [ptrs_at _ hlt] at q
                obtain ⟨q, hq⟩ : ∃ q, q = C.getD j 0 := ⟨_, rfl⟩
                rw [← hq] at c1
                have hl2 : l.length < (numL (k : Int)).length := by rw [HLEN1.out, ← HN.out, HNN.out]; omega
                have hqn : (numL (k : Int)).getD l.length 0 = q := by
                  rw [HLEN1.out, HNL.out, hq]
                  simp only [List.getD_eq_getElem?_getD]
                  congr 1
                  rw [List.getElem?_append_right (by omega), List.getElem?_append_right (by omega)]; congr 1; omega
                have hin : q ∈ numO := by rw [← hqn]; exact numL_sub _ _ (getD_mem hl2)
                have HQN := hide hqn
                have HL2 := hide hl2
                have HIN := hide hin
                clear hq hqn hin
                have e1 : n - l.length = (n - (l.length + 1)) + 1 := by rw [← HN.out] at hl2; omega
                rw [e1] at HPN1
                clear e1 hl2
                cases hx : nxt ns a with
                | none =>
                  have HF := hide (fail_N HQ.out PT.out (show pN ns (numL (k : Int)).length a2 [] = none by rw [← HN.out, ← HR.out, ← HPN1.out, pN_none hx]))
                  have CN := hide (number_die HST1.out.R (most := 9223372036854775807) (num_die1 hx (by decide)))
                  clear hx
                  go_wp2_with (go_at_call 59; (apply Calls.mono; focus (exact CN.out)); rintro e w9 ⟨rfl, ho, a3, hd⟩; have HS9 := hide (HST1.out.next ho hd); clear ho hd)
                  exact read_die rfl rfl HS9.out.box.there HS9.out.ec (by omega) (.inl ⟨HF.out, rfl, (below_sets (Nat.le_refl _) _ _ _ HS9.out.b).setCell (p := ⟨w.heap.size + 1, 0, none⟩) (by simp) _⟩)
                | some p =>
                  obtain ⟨x, a3⟩ := p
                  have hxb := (nxt_eq hx).2.2.2
                  have CN := hide (number_nxt HST1.out.R hx (most := 9223372036854775807) (by omega) (by decide))
                  have HP2 := hide (show pN ns (n - (l.length + 1)) a3 (l ++ [x]) = R by rw [← pN_some hx]; exact HPN1.out)
                  have hwx : wrap64 (x : Int) = (x : Int) := by unfold wrap64; omega
                  clear hx
                  go_wp2_with (go_at_call 59; (apply Calls.mono; focus (exact CN.out)); rintro e w9 ⟨rfl, ho, hd⟩; have HS9 := hide (HST1.out.next ho hd); have HBN := hide (Nat.le_trans HBB1.out ho.size); have HRN := hide (own_only HRO.out ho (by omega)); have zq := HS9.out.box.num HIN.out; have fq := HS9.out.box.f q; clear ho hd)
                  go_roundw
                  case rel =>
                    refine ⟨j + 1, l ++ [x], a3, by omega, by go_num, by rw [List.length_append, HLEN1.out, List.length_singleton]; omega, by rw [List.length_append]; exact HP2.out, ?_, by rw [World.size_setCell]; exact HBN.out, own_same HRN.out (fun q2 hq2 _ => heap_setCell_other _ _ _ _ (by have := (HRN.out.lt q2 hq2).1; show q2 ≠ w.heap.size; omega))⟩
                    rw [← mkO_snoc k nm l [] x HL2.out, HQN.out]
                    exact HS9.out.put (HS9.out.box.upd q (x : Int) HIN.out) (fun y e => by cases e)
                  case measure => (first | (simp [intOf]; done) | (simp [intOf]; omega))
              obtain rfl : C.length = j := by omega
              have HPN := hide HPN1.out
              have HST := hide HST1.out
              have PN := hide (show pN ns (numL (k : Int)).length a2 [] = some (l, a) by
                rw [← HN.out, ← HR.out, ← HPN1.out, show n - l.length = 0 by rw [HLEN1.out, HNN.out]; omega]; rfl)
              have x0 : wr.cell? ⟨w.heap.size, 0, none⟩ = some (.int .i64 (k : Int)) := HST1.out.box.c 0 (by decide)
              clear HPN1 HRO HBB1 HST1 HPN HR C46 HC
              obtain ⟨b4, hb4⟩ : ∃ b, ((k : Int) == 4) = b := ⟨_, rfl⟩
              have B4 := hide (show b4 = true ↔ k = 4 by rw [← hb4]; simp; omega)
              go_upto_if 77 with fail
              go_cut [78] from 79 to 83 (fun v78 wx => (∃ (fs : List (Nat × Int)) (a4 : Nat) (ov : Value), pO ns k a = some (fs, a4) ∧ ESt g B w wx ns a4 (mkO k nm l fs) ov 0 ∧ wx.ownsRow (w.heap.size + 2) 93 2 ov fs.length (flatF fs)) ∨ (∃ (a4 : Nat) (x : Int), pO ns k a = none ∧ x ≠ 0 ∧ ESt g B w wx ns a4 (mkO k nm l []) (.slice none 0 0) x))
              case first =>
                by_cases h4 : k = 4
                · have db := B4.out.2 h4
                  subst db
                  subst h4
                  clear hb4 B4
                  by_cases he : (lg ns a 64).2.1 = 0
                  · obtain ⟨m, a5, hlg, hm64, hpo⟩ := lg_good he
                    cases hpf : pF ns m a5 [] with
                    | none =>
                      have HF := hide (fail_O HQ.out PT.out PN.out (show pO ns 4 a = none by rw [hpo, hpf]))
                      have CN := hide (Take_die HST.out.R hlg hm64 hpf)
                      clear he hlg hpo hpf
                      go_wp2_with (go_at_call 61; (apply Calls.mono; focus (exact CN.out)); rintro e w11 ⟨rfl, ho, a6, hd⟩; have HS9 := hide (HST.out.next ho hd); clear ho hd)
                      exact read_die rfl rfl HS9.out.box.there HS9.out.ec (by omega) (.inl ⟨HF.out, rfl, (below_sets (Nat.le_refl _) _ _ _ HS9.out.b).setCell (p := ⟨w.heap.size + 1, 0, none⟩) (by simp) _⟩)
                    | some p =>
                      obtain ⟨fs, a6⟩ := p
                      have CN := hide (Take_ok HST.out.R hlg hm64 hpf)
                      have PO := hide (show pO ns 4 a = some (fs, a6) by rw [hpo, hpf])
                      have hz := HST.out.sz
                      clear he hlg hpo hpf
                      go_wp2_with (go_at_call 61; (apply Calls.mono; focus (exact CN.out)); rintro e w11 ⟨v11, rfl, ho, hd, hv⟩; have HS11 := hide (HST.out.next ho hd); have z16 := HS11.out.box.c 16 (by decide); have f16 := HS11.out.box.f 16; have ze := (box_cell HS11.out.ec).1; have fe := (box_cell HS11.out.ec).2; have n1 : w.heap.size + 1 ≠ w.heap.size := (by omega); have n2 : w.heap.size ≠ w.heap.size + 1 := (by omega); obtain ⟨p11, c11, rfl⟩ := own_any hv; have HV := hide hv; clear ho hd)
                      go_meet
                      refine .inl ⟨fs, a6, _, PO.out, (HS11.out.put (HS11.out.box.offed fs _) (fun y e => by cases e)).err 0, ?_⟩
                      exact own_same (own_lower HV.out hz) (fun q hq _ => (heap_setCell_other _ _ _ _ (by have := (HV.out.lt q hq).1; show q ≠ w.heap.size + 1; omega)).trans (heap_setCell_other _ _ _ _ (by have := (HV.out.lt q hq).1; show q ≠ w.heap.size; omega)))
                  · have CN := hide (Take_err HST.out.R he)
                    have PO := hide (show pO ns 4 a = none from lg_bad HR8.out.small HST.out.R.more.1 he)
                    obtain ⟨er, her⟩ : ∃ q, q = (lg ns a 64).2.1 := ⟨_, rfl⟩
                    rw [← her] at CN he
                    have HE := hide he
                    clear her he
                    go_wp2_with (go_at_call 61; (apply Calls.mono; focus (exact CN.out)); rintro e w11 ⟨rfl, ho, a6, hd⟩; have HS11 := hide (HST.out.next ho hd); have z16 := HS11.out.box.c 16 (by decide); have f16 := HS11.out.box.f 16; have ze := (box_cell HS11.out.ec).1; have fe := (box_cell HS11.out.ec).2; have n1 : w.heap.size + 1 ≠ w.heap.size := (by omega); have n2 : w.heap.size ≠ w.heap.size + 1 := (by omega); clear ho hd)
                    go_meet
                    exact .inr ⟨a6, (er : Int), PO.out, (by have := HE.out; omega), (HS11.out.put (HS11.out.box.offed [] _) (fun y e => by cases e)).err _⟩
                · have db : b4 = false := by
                    cases b4
                    · rfl
                    · exact absurd (B4.out.1 rfl) h4
                  subst db
                  have PO := hide (show pO ns k a = some ([], a) by unfold pO; rw [if_neg h4])
                  clear h4 hb4
                  go_wp2_with fail
                  go_meet
                  exact .inl ⟨[], a, _, PO.out, HST.out, ⟨rfl, .inl ⟨rfl, rfl⟩⟩⟩
              case rest =>
                clear HST HLEN1 x0 hb4 B4
                rcases hcut with ⟨fs, a4, ov, po, hs, how⟩ | ⟨a4, x, po, hx, hs⟩
                · have HS12 := hide hs
                  have HV := hide how
                  have PO := hide po
                  have ze := (box_cell hs.ec).1
                  obtain ⟨O, hO⟩ : ∃ O, O = mkO k nm l fs := ⟨_, rfl⟩
                  have hof : O.offs = fs := by rw [hO]; rfl
                  have HOF := hide hof
                  have HOK := hide (show O.kind = (k : Int) by rw [hO]; rfl)
                  have PZ := hide (show (k = 0 ∧ readO ns = none) ∨ parse ns = some (O, a4) by
                    rcases HQ.out with h | h
                    · exact .inl h
                    · rw [hO]; exact .inr (parse_is h PT.out PN.out po))
                  rw [← hO] at HS12
                  rw [← hof] at HV
                  clear hs how po hO
                  by_cases hlt : a4 < ns.length
                  · have HF := hide (show readO ns = none by
                      rcases PZ.out with h | h
                      · exact h.2
                      · unfold readO; rw [h]; simp only
                        rw [if_neg (fun e => by omega)])
                    have CE := hide (End_yes g B ns a4 wc HS12.out.R hlt)
                    clear hlt
                    go_wp2_with (go_at_call 63; (apply Calls.mono; focus (exact CE.out)); rintro e w13 ⟨rfl, hb⟩; have HS9 := hide (HS12.out.grow hb); clear hb)
                    exact read_die rfl rfl HS9.out.box.there HS9.out.ec (by omega) (.inl ⟨HF.out, rfl, (below_sets (Nat.le_refl _) _ _ _ HS9.out.b).setCell (p := ⟨w.heap.size + 1, 0, none⟩) (by simp) _⟩)
                  · have CE := hide (End_no g B ns a4 wc HS12.out.R hlt)
                    have hle : a4 = ns.length := by have := HS12.out.R.more.1; omega
                    rcases (show chk O = true ∨ chk O = false by cases chk O <;> simp) with hc | hc
                    · have HR2 := hide (show readO ns = some O by
                        rcases PZ.out with h | h
                        · have q := ((chk_iff O).1 hc).k0
                          rw [HOK.out, h.1] at q
                          omega
                        · unfold readO; rw [h]; simp only
                          rw [if_pos ⟨hle, hc⟩])
                      have OI := hide (offs_in PZ.out hc HOK.out HR8.out.small HV.out)
                      have HCK := hide hc
                      clear hlt hle hc
                      go_upto_region 28 with (first
                        | (go_at_call 63; (apply Calls.mono; focus (exact CE.out)); rintro e w13 ⟨rfl, hb⟩; have HS13 := hide (HS12.out.grow hb); have HV13 := hide (own_below HV.out hb); have OI13 := hide (OI.out.below hb); clear hb)
                        | refine wpList_load_midG rfl 29 _ rfl w.heap.size 0 rfl (ordCells O ov) _ HS13.out.box.range Try.underlying29 rfl (by rw [ordCells_len]; kernel_rfl) ?_
                        | (go_at_call 16; (apply Calls.mono; focus (exact (Check_c O ov w13 OI13.out))); rw [HCK.out]; rintro e w14 ⟨rfl, hb⟩; have HS14 := hide (HS13.out.grow hb); have HV14 := hide (own_below HV13.out hb); have z14 := (box_cell HS14.out.ec).1; clear hb))
                      obtain ⟨W15, hW15⟩ : ∃ q, q = w14.setCells w.heap.size 0 (ordCells O ov) := ⟨_, rfl⟩
                      have HW15 := hide (show w14.setCells w.heap.size 0 (ordCells O ov).toArray.toList = W15 from hW15.symm)
                      have hb15 : BoxO W15 w.heap.size O ov := by rw [hW15]; exact HS14.out.box.set _ _
                      have he15 : W15.heap[w.heap.size + 1]? = some (.cells #[.int .i64 0] 35) := by rw [hW15]; exact (heap_sets_ne (by omega) _ _ _).trans HS14.out.ec
                      have ze15 := (box_cell he15).1
                      have fe15 := (box_cell he15).2
                      have hbw15 : Below w.heap.size w W15 := by rw [hW15]; exact below_sets (Nat.le_refl _) _ _ _ HS14.out.b
                      have hv15 : W15.ownsRow (w.heap.size + 2) 93 2 ov O.offs.length (flatF O.offs) := by rw [hW15]; exact own_same HV14.out (fun q hq _ => heap_sets_ne (by have := (HV14.out.lt q hq).1; omega) _ _ _)
                      have HB15 := hide hb15
                      have HE15 := hide he15
                      have HBW15 := hide hbw15
                      have HV15 := hide hv15
                      have TH14 := hide HS14.out.box.there
                      have HO1 := hide (show (ordCells O ov).toArray.all (fun x => x.oneCell') = true by
                        obtain ⟨pv, pc, h⟩ := own_any HV14.out
                        rw [h]; kernel_rfl)
                      clear hW15 hb15 he15 hbw15 hv15 z14
                      go_wp2_with (first
                        | refine wpList_load_mid rfl 29 _ rfl w.heap.size 0 rfl (ordCells O ov) _ HS14.out.box.range Try.underlying29 rfl (by rw [ordCells_len]; kernel_rfl) ?_
                        | (refine wpList_store_mid rfl 29 _ _ rfl w.heap.size 0 (ordCells O ov).toArray rfl rfl TH14.out (by kernel_rfl) HO1.out ?_; rw [HW15.out]))
                      have e2 : (W15.setCell ⟨w.heap.size + 1, 0, none⟩ (.int .i64 0)).heap[w.heap.size]? = W15.heap[w.heap.size]? := heap_setCell_other _ _ _ _ (by show w.heap.size ≠ w.heap.size + 1; omega)
                      refine read_ret rfl rfl (HB15.out.stays e2) (box_set HE15.out _) (.inr ⟨O, HR2.out, ov, rfl, own_lower (own_same HV15.out (fun q hq _ => heap_setCell_other _ _ _ _ (by have := (HV15.out.lt q hq).1; show q ≠ w.heap.size + 1; omega))) (by omega), HBW15.out.setCell (p := ⟨w.heap.size + 1, 0, none⟩) (by simp) _⟩)
                    · have HF := hide (show readO ns = none by
                        rcases PZ.out with h | h
                        · exact h.2
                        · unfold readO; rw [h]; simp only
                          rw [if_neg (fun e => by rw [hc] at e; cases e.2)])
                      have OI := hide (show OffsIn wc ov O.offs from OffsIn.of_own HV.out (fun x hx => offs_lt PO.out HR8.out.small x (by rw [← HOF.out]; exact hx)) (by have := pO_len PO.out HR8.out.small; rw [HOF.out]; omega))
                      have HCK := hide hc
                      clear hlt hle hc
                      go_wp2_with (first
                        | (go_at_call 63; (apply Calls.mono; focus (exact CE.out)); rintro e w13 ⟨rfl, hb⟩; have HS13 := hide (HS12.out.grow hb); have OI13 := hide (OI.out.below hb); clear hb)
                        | refine wpList_load_midG rfl 29 _ rfl w.heap.size 0 rfl (ordCells O ov) _ HS13.out.box.range Try.underlying29 rfl (by rw [ordCells_len]; kernel_rfl) ?_
                        | (go_at_call 16; (apply Calls.mono; focus (exact (Check_c O ov w13 OI13.out))); rw [HCK.out]; rintro e w14 ⟨rfl, hb⟩; have HS9 := hide (HS13.out.grow hb); clear hb))
                      exact read_die rfl rfl HS9.out.box.there HS9.out.ec (by omega) (.inl ⟨HF.out, rfl, (below_sets (Nat.le_refl _) _ _ _ HS9.out.b).setCell (p := ⟨w.heap.size + 1, 0, none⟩) (by simp) _⟩)
                · have HF := hide (fail_O HQ.out PT.out PN.out po)
                  have HS9 := hide hs
                  have ze := (box_cell hs.ec).1
                  have dx : (x != 0) = true := by simp; exact hx
                  clear hs po hx
                  go_wp2_with fail
                  exact read_die rfl rfl HS9.out.box.there HS9.out.ec (by omega) (.inl ⟨HF.out, rfl, (below_sets (Nat.le_refl _) _ _ _ HS9.out.b).setCell (p := ⟨w.heap.size + 1, 0, none⟩) (by simp) _⟩)
end Go.Proofs.Ytalnipjaekpbhaa

