import Derived.Deep.AppendLies
import Derived.Maps.AppendAt
import Derived.Deep.OwnRows
import Derived.Test.YtehpjipmlpaflaaU3
import Derived.Test.YtehpjipmlpaflaaT7
namespace Go.Proofs.Ytehpjipmlpaflaa.un
open Go.ChangeShapes Go.WideShapes Go.ChangeAt Go.RowKit Go.Deep Go.Shelf
set_option linter.unusedSimpArgs false
set_option linter.unusedVariables false

attribute [local go_sem] Oper.semAt_some

theorem info2 : (Try.prog.info? 2).map (fun i => (i.zero, i.size, i.bytes)) = some (some (.int .i64 0), 1, 8) := by kernel_rfl
theorem info41 : (Try.prog.info? 41).map (fun i => (i.zero, i.size, i.bytes)) = some (some (.slice none 0 0), 1, 24) := by kernel_rfl
abbrev I64 (x : Int) : Value := .int .i64 x
theorem made0_2 (w : World) : w.ownsRow w.heap.size 2 1 (.slice none 0 0) 0 [] := World.ownsRow_nil _ _ _ _
theorem below_grown {w w' : World} (h : w.grownBy w' none) : Below w.heap.size w w' :=
  ⟨h.os, h.tape, h.output, h.size, fun k hk => h.block k hk (fun e => by cases e)⟩
theorem addr_add (b off j : Nat) : (⟨b, off, none⟩ : Addr).add j = ⟨b, off + j, none⟩ := Addr.add_lit b off j
theorem own_any {w : World} {base : Nat} {e : TypeId} {size : Nat} {v : Value} {n : Nat} {xs : List Value} (own : w.ownsRow base e size v n xs) : ∃ ao cap, v = .slice ao n cap := by
  rcases own.2 with ⟨rfl, rfl⟩ | ⟨g, cap, cur, rfl, _⟩
  · exact ⟨_, _, rfl⟩
  · exact ⟨_, _, rfl⟩
/-- append(nil, row...) -/
theorem run_copy (si : Option Addr) (xs : List Int) (ci : Nat) (w : World) (hr : IRow si xs w) (hl : xs.length ≤ 4096) :
    ∃ ao c w', (Builtin.append_ #[41, 41] 41 #[.slice none 0 0, .slice si xs.length ci]).run Try.prog w = .ok (.slice ao xs.length c) w' ∧ w'.ownsRow w.heap.size 2 1 (.slice ao xs.length c) xs.length (xs.map I64) ∧ Below w.heap.size w w' := by
  obtain ⟨i0, hi0, hz0, hz1, hz2⟩ := info_parts info2
  have fin : ∀ v' w', (Builtin.append_ #[41, 41] 41 #[.slice none 0 0, .slice si xs.length ci]).run Try.prog w = .ok v' w' → w'.ownsRow w.heap.size 2 1 v' (0 + xs.length) ([] ++ xs.map I64) → w.grownBy w' none → ∃ ao c w', (Builtin.append_ #[41, 41] 41 #[.slice none 0 0, .slice si xs.length ci]).run Try.prog w = .ok (.slice ao xs.length c) w' ∧ w'.ownsRow w.heap.size 2 1 (.slice ao xs.length c) xs.length (xs.map I64) ∧ Below w.heap.size w w' := by
    intro v' w' h1 h2 h3
    rw [Nat.zero_add] at h2
    obtain ⟨ao, c, rfl⟩ := own_any h2
    exact ⟨ao, c, w', h1, by simpa using h2, below_grown h3⟩
  rcases Nat.eq_zero_or_pos xs.length with hz | hp
  · obtain rfl := List.length_eq_zero_iff.1 hz
    cases si with
    | none =>
      have hn : (Builtin.append_ #[41, 41] 41 #[.slice none 0 0, .slice none 0 ci]).run Try.prog w = .ok (.slice none 0 0) w := by
        simp [Builtin.append_, run_underlying Try.underlying41, sizeOf, typeInfo, hi0, Builtin.lenOf, Builtin.firstCells]
      exact ⟨none, 0, w, hn, World.ownsRow_nil _ _ _ _, Below.refl _ _⟩
    | some ad =>
      obtain ⟨v', w', h1, h2, h3, -, -⟩ := run_append_own_at (P := Try.prog) w w.heap.size 41 41 2 i0 (.int .i64 0) 1 8 Try.underlying41 hi0 hz0 hz1 hz2 rfl (by decide) (.slice none 0 0) 0 [] (made0_2 w) ad 0 ci [] (by simp) (fun j u hu => by simp at hu) (fun u hu => by simp at hu) (by decide) (by decide) (Nat.le_refl _)
      exact fin v' w' h1 h2 h3
  · obtain ⟨b, off, rfl, hc⟩ := hr.ex hp
    obtain ⟨v', w', h1, h2, h3, -, -⟩ := run_append_own_at (P := Try.prog) w w.heap.size 41 41 2 i0 (.int .i64 0) 1 8 Try.underlying41 hi0 hz0 hz1 hz2 rfl (by decide) (.slice none 0 0) 0 [] (made0_2 w) ⟨b, off, none⟩ xs.length ci (xs.map I64) (by simp)
      (fun j u hu => by
        have hj : j < xs.length := by
          have := (List.getElem?_eq_some_iff.1 hu).1
          simpa using this
        have e1 := hc j hj
        rw [List.getElem?_map, List.getElem?_eq_getElem hj] at hu
        simp only [Option.map_some, Option.some.injEq] at hu
        rw [← hu]
        rw [addr_add, e1, at0, List.getElem?_eq_getElem hj]; rfl)
      (fun u hu => by obtain ⟨x, -, rfl⟩ := List.mem_map.1 hu; rfl)
      (by unfold maxLen; omega) (by omega) (Nat.le_refl _)
    exact fin v' w' h1 h2 h3
theorem step_copy {w : World} {ops : Array Oper} {o : Oper} {a : Act} {K : Act → World → Prop} {Q : Exit → Act → World → Prop} {E : Prop} (hgd : o.guard = none) (s x : Operand)
    (ho : o.op = .call { callee := .builtin .append, args := #[s, x], argTypes := #[41, 41] }) (hty : o.type = 41)
    (si : Option Addr) (xs : List Int) (ci : Nat) (hs : a.eval s = .slice none 0 0) (hx : a.eval x = .slice si xs.length ci) (hr : IRow si xs w) (hl : xs.length ≤ 4096)
    (h : ∀ ao c w', w'.ownsRow w.heap.size 2 1 (.slice ao xs.length c) xs.length (xs.map I64) → Below w.heap.size w w' → K (a.put o.dst (.slice ao xs.length c)) w') : if Region.wanted o (yielded ops a.tmps) = true then Oper.wp Try.prog o a w K Q else E := by
  have hw : Region.wanted o (yielded ops a.tmps) = true := by simp [Region.wanted, hgd]
  rw [if_pos hw]
  obtain ⟨ao, c, w', h1, h2, h3⟩ := run_copy si xs ci w hr hl
  unfold Oper.wp execOp
  simp only [ho, hty, resolve, invoke, builtin, Sem.run_bind, Sem.run_pure, Result.andThen_ok, List.map_toArray, List.map_cons, List.map_nil, hs, hx, h1]
  exact h ao c w' h2 h3
/-- copies of the first i bids, in row G -/
structure Copies (L : List (List Int)) (n0 G i : Nat) (W : World) : Prop where
  done : ∀ j, j < i → ∃ ao c, W.cell? ⟨G, j, none⟩ = some (.slice ao (bidAt L j).length c) ∧ W.ownsRow (G + 1) 2 1 (.slice ao (bidAt L j).length c) (bidAt L j).length ((bidAt L j).map I64)
  room : ∀ j, i ≤ j → j < L.length → W.cell? ⟨G, j, none⟩ = some (.slice none 0 0)
  fz : ∀ o, W.frozen? ⟨G, o, none⟩ = false
  lt : G < W.heap.size
  ge : n0 ≤ G
theorem set_ne (w : World) (G i j : Nat) (u : Value) (h : i ≠ j) : (w.setCell ⟨G, i, none⟩ u).cell? ⟨G, j, none⟩ = w.cell? ⟨G, j, none⟩ :=
  World.cell?_setCell_other _ _ _ _ (by intro e; injection e with e1 e2; exact h e2)
theorem own_lower {w : World} {a b : Nat} {e : TypeId} {size : Nat} {v : Value} {n : Nat} {xs : List Value} (h : w.ownsRow a e size v n xs) (hb : b ≤ a) : w.ownsRow b e size v n xs := by
  refine ⟨h.1, ?_⟩
  rcases h.2 with q | ⟨g, cap, cur, h1, h2, h3⟩
  · exact .inl q
  · exact .inr ⟨g, cap, cur, h1, by omega, h3⟩
theorem Copies.step {L : List (List Int)} {n0 G i : Nat} {W W1 : World} (h : Copies L n0 G i W) (hi : i < L.length) {ao : Option Addr} {c : Nat} (hb : Below W.heap.size W W1) (own : W1.ownsRow W.heap.size 2 1 (.slice ao (bidAt L i).length c) (bidAt L i).length ((bidAt L i).map I64)) :
    Copies L n0 G (i + 1) (W1.setCell ⟨G, i, none⟩ (.slice ao (bidAt L i).length c)) := by
  have hG := h.lt
  have hb2 : Below (G + 1) W W1 := hb.mono (by omega)
  have keepO : ∀ {v : Value} {n : Nat} {xs : List Value} (k : Nat) (u : Value), W1.ownsRow (G + 1) 2 1 v n xs → (W1.setCell ⟨G, k, none⟩ u).ownsRow (G + 1) 2 1 v n xs := fun k u q => by
    refine ⟨q.1, ?_⟩
    rcases q.2 with e | ⟨g, cap, cur, h1, h2, h3, h4⟩
    · exact .inl e
    · exact .inr ⟨g, cap, cur, h1, h2, by rw [heap_setCell_other _ _ _ _ (by simp; omega)]; exact h3, h4⟩
  have cellO : ∀ j, W1.cell? ⟨G, j, none⟩ = W.cell? ⟨G, j, none⟩ := fun j => hb.cell (p := ⟨G, j, none⟩) hG
  refine ⟨fun j hj => ?_, fun j hj hl => ?_, fun o => by rw [World.frozen?_setCell]; exact (hb.frozen (p := ⟨G, o, none⟩) hG).trans (h.fz o), by rw [World.size_setCell]; exact Nat.lt_of_lt_of_le hG hb.size, h.ge⟩
  · rcases Nat.lt_or_ge j i with q | q
    · obtain ⟨a', c', h1, h2⟩ := h.done j q
      refine ⟨a', c', ?_, keepO _ _ (own_bel h2 hb)⟩
      rw [set_ne _ _ _ _ _ (by omega)]
      exact (cellO j).trans h1
    · obtain rfl : j = i := by omega
      refine ⟨ao, c, ?_, keepO _ _ (own_lower own (by omega))⟩
      exact World.cell?_setCell_same _ _ _ ((cellO j).trans (h.room j (Nat.le_refl _) hi))
  · rw [set_ne _ _ _ _ _ (by omega)]
    exact (cellO j).trans (h.room j (by omega) hl)

theorem Copies.below {L : List (List Int)} {n0 G i : Nat} {W W1 : World} (h : Copies L n0 G i W) (hb : Below W.heap.size W W1) : Copies L n0 G i W1 := by
  have hG := h.lt
  refine ⟨fun j hj => ?_, fun j hj hl => (hb.cell (p := ⟨G, j, none⟩) hG).trans (h.room j hj hl), fun o => (hb.frozen (p := ⟨G, o, none⟩) hG).trans (h.fz o), Nat.lt_of_lt_of_le hG hb.size, h.ge⟩
  obtain ⟨a, c, h1, h2⟩ := h.done j hj
  exact ⟨a, c, (hb.cell (p := ⟨G, j, none⟩) hG).trans h1, own_bel h2 hb⟩
theorem cell_lt {w : World} {b o : Nat} {v : Value} (h : w.cell? ⟨b, o, none⟩ = some v) : b < w.heap.size := by
  rcases Nat.lt_or_ge b w.heap.size with q | q
  · exact q
  · simp [World.cell?, Array.getElem?_eq_none q] at h
theorem drewB (w : World) : Below w.heap.size w w.drew := ⟨rfl, rfl, rfl, Nat.le_refl _, fun _ _ => rfl⟩
theorem made_at (n j : Nat) (h : j < n) (v : Value) : (madeCells #[v] n)[j]? = some v := by
  simp [madeCells, h, Nat.mod_one]
theorem IRow.below {si : Option Addr} {xs : List Int} {w w' : World} (h : IRow si xs w) (hb : Below w.heap.size w w') : IRow si xs w' := by
  refine ⟨fun h0 => ?_⟩
  obtain ⟨b, off, e2, hc⟩ := h.ex h0
  exact ⟨b, off, e2, fun k hk => (hb.cell (p := ⟨b, off + k, none⟩) (cell_lt (hc k hk))).trans (hc k hk)⟩
theorem BRows.below {so : Option Addr} {L : List (List Int)} {w w' : World} (h : BRows so L w) (hb : Below w.heap.size w w') : BRows so L w' := by
  refine ⟨fun h0 => ?_⟩
  obtain ⟨b, off, e2, hc⟩ := h.ex h0
  refine ⟨b, off, e2, fun i hi => ?_⟩
  obtain ⟨si, ci, h1, h2⟩ := hc i hi
  exact ⟨si, ci, (hb.cell (p := ⟨b, off + i, none⟩) (cell_lt h1)).trans h1, h2.below hb⟩
theorem BRows.spot {so : Option Addr} {L : List (List Int)} {w : World} (h : BRows so L w) {i : Nat} (hi : i < L.length) : ∃ b off si ci, so = some ⟨b, off, none⟩ ∧ w.cell? ⟨b, off + i, none⟩ = some (.slice si (bidAt L i).length ci) ∧ IRow si (bidAt L i) w := by
  obtain ⟨b, off, rfl, hc⟩ := h.ex (by omega)
  obtain ⟨si, ci, h1, h2⟩ := hc i hi
  exact ⟨b, off, si, ci, rfl, h1, h2⟩
set_option maxHeartbeats 2000000 in
theorem Order_c (count floor : Int) (so : Option Addr) (cap : Nat) (L : List (List Int)) (ew : Int) (w : World) (hb : BRows so L w) (hL : L.length ≤ 4096) (hLb : ∀ i, (bidAt L i).length ≤ 4096)
    (hw : ∀ w, BRows so L w → Calls Try.prog 27 #[.int .i64 count, .int .i64 floor, .slice so L.length cap] w fun e w' => e = .returned (.int .i64 ew) ∧ w' = w) :
    Calls Try.prog 21 #[.int .i64 count, .int .i64 floor, .slice so L.length cap] w fun e w' => ∃ Bb Br G, e = .returned (.func (.func 31) #[] #[.pointer (some ⟨Br, 0, none⟩), .pointer (some ⟨Bb, 0, none⟩)]) ∧ w.heap.size ≤ Bb ∧ Bb < w'.heap.size ∧ w.heap.size ≤ Br ∧ Br < w'.heap.size ∧
      w'.cell? ⟨Br, 0, none⟩ = some (.bool (ew == 0)) ∧ w'.cell? ⟨Bb, 0, none⟩ = some (.slice (some ⟨G, 0, none⟩) L.length L.length) ∧ Copies L w.heap.size G L.length w' ∧ Below w.heap.size w w' := by
  have HB := hide hb
  have HLB := hide hLb
  have HW := hide hw
  have hmk := run_make_row' (P := Try.prog) 22 41 (.slice none 0 0) 24 Try.underlying22 info41 rfl .i64 .i64 L.length (by omega) (by omega)
  clear hb hLb hw
  go_enter Try.func21, Try.ntmps21
  go_wp2_with fail
  obtain ⟨W0, hW0⟩ : ∃ W0, W0 = ((w.alloc (.cells (madeCells #[.slice none 0 0] L.length) 41)).alloc (.cells #[.slice (some ⟨w.heap.size, 0, none⟩) L.length L.length] 22)) := ⟨_, rfl⟩
  rw [← hW0]
  have hb0 : Below w.heap.size w W0 := by rw [hW0]; (focus repeat' (first | (with_reducible exact Below.refl _ _) | (with_reducible assumption) | (with_reducible refine Below.alloc ?_ ?_ _) | (with_reducible refine Below.drew ?_) | (with_reducible refine bdrewN ?_ _) | (with_reducible refine Below.setCell ?_ ?_ _) | (first | (with_reducible exact Nat.le_refl _) | (with_reducible assumption) | omega | (simp; omega) | (simp; done))))
  have hz0 : W0.heap.size = w.heap.size + 2 := by rw [hW0]; simp
  have HC0 := hide (show Copies L w.heap.size w.heap.size 0 W0 from ⟨fun j h => by omega, fun j _ h => by (rw [hW0]; simp [go_sem]; exact made_at L.length j h _), fun o => by (rw [hW0]; simp [go_sem]), by omega, Nat.le_refl _⟩)
  have HBB := hide (show W0.cell? ⟨w.heap.size + 1, 0, none⟩ = some (.slice (some ⟨w.heap.size, 0, none⟩) L.length L.length) from by (rw [hW0]; simp [go_sem]))
  have HB0 := hide hb0
  clear hW0 hb0 hmk
  go_loopw [16] (fun v16 wr => ∃ (i : Nat), i ≤ L.length ∧ v16 = .int .i64 (i : Int) ∧ Copies L w.heap.size w.heap.size i wr ∧ wr.cell? ⟨w.heap.size + 1, 0, none⟩ = some (.slice (some ⟨w.heap.size, 0, none⟩) L.length L.length) ∧ Below w.heap.size w wr ∧ w.heap.size + 1 < wr.heap.size) (fun v16 _ => L.length - (intOf v16).toNat)
  case atStart => exact ⟨0, Nat.zero_le _, rfl, HC0.out, HBB.out, HB0.out, by omega⟩
  case round =>
    obtain ⟨i, hi, rfl, hcp, hbb, hbw, hz⟩ := hrel
    have HCP := hide hcp
    have HBX := hide hbb
    have HBW := hide hbw
    have hi0 : (0 : Int) ≤ (i : Int) := by omega
    clear hcp hbb hbw
    by_cases hlt : i < L.length
    · have hlt' : (i : Int) < (L.length : Int) := by omega
      obtain ⟨b, off, si, ci, rfl, h1, h2⟩ := (HB.out.below HBW.out).spot hlt
      have HIR := hide h2
      clear h2
      go_wp2_with fail
      have b0 := HBX.out
      have f0 : ∀ o, wr.frozen? ⟨w.heap.size, o, none⟩ = false := HCP.out.fz
      have hlb := HLB.out i
      go_region_law (refine step_copy rfl _ _ rfl rfl si (bidAt L i) ci (by simp [Act.eval, Act.put]) (by simp [Act.eval, Act.put]) (HIR.out.below (drewB _)) hlb ?_; intro ao c w1 hown hbw1; have OX := hide hown; have BX := hide hbw1; have b1 : w1.cell? ⟨w.heap.size + 1, 0, none⟩ = some (.slice (some ⟨w.heap.size, 0, none⟩) L.length L.length) := (hbw1.cell (p := ⟨w.heap.size + 1, 0, none⟩) (by simp; omega)).trans (by simpa [go_sem] using HBX.out); have f1 : ∀ o, w1.frozen? ⟨w.heap.size, o, none⟩ = false := fun o => (hbw1.frozen (p := ⟨w.heap.size, o, none⟩) (by simp; omega)).trans (by simpa [go_sem] using HCP.out.fz o); have c1 : w1.cell? ⟨w.heap.size, i, none⟩ = some (.slice none 0 0) := (hbw1.cell (p := ⟨w.heap.size, i, none⟩) (by simp; omega)).trans (by simpa [go_sem] using HCP.out.room i (Nat.le_refl _) hlt); have s1 := hbw1.size; clear hown hbw1)
      all_goals
        go_wp2_with fail
        go_roundw
        case rel =>
          have q1 : Below wr.heap.size wr w1 := bstep (drewB _) BX.out
          have q2 := HCP.out.step hlt q1 OX.out
          refine ⟨i + 1, by omega, by go_num, q2, ?_, bstep HBW.out q1 |>.setCell (p := ⟨w.heap.size, i, none⟩) (Nat.le_refl _) _, by (rw [World.size_setCell]; have := q1.size; omega)⟩
          rw [World.cell?_setCell_far _ _ _ _ (by simp)]
          exact b1
        case measure => (first | (simp [intOf]; done) | (simp [intOf]; omega))
    · obtain rfl : i = L.length := by omega
      have HWW := hide (HW.out wr (HB.out.below HBW.out))
      go_wp2_with fail
      refine (HWW.out).mono ?_
      rintro e w5 ⟨rfl, rfl⟩
      go_wp2_with fail
      refine bodyPost_ret (v := .func (.func 31) #[] #[.pointer (some ⟨w5.heap.size, 0, none⟩), .pointer (some ⟨w.heap.size + 1, 0, none⟩)]) (by simp [results, Try.f21, go_sem]) rfl ⟨w.heap.size + 1, w5.heap.size, w.heap.size, rfl, by omega, by simp; omega, by have := HBW.out.size; omega, by simp, by simp [go_sem], ?_, ?_, HBW.out.alloc HBW.out.size _⟩
      · exact (((Below.refl _ _).alloc (Nat.le_refl _) _).cell (p := ⟨w.heap.size + 1, 0, none⟩) (by simp; omega)).trans HBX.out
      · exact HCP.out.below ((Below.refl _ _).alloc (Nat.le_refl _) _)
end Go.Proofs.Ytehpjipmlpaflaa.un
