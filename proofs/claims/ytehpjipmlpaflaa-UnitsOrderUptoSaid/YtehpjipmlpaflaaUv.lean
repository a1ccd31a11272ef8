import Derived.Test.YtehpjipmlpaflaaUg
namespace Go.Proofs.Ytehpjipmlpaflaa.un
open Go.ChangeShapes Go.WideShapes Go.ChangeAt Go.RowKit Go.Deep Go.Shelf
set_option linter.unusedSimpArgs false
set_option linter.unusedVariables false

attribute [local go_sem] Oper.semAt_some

/-- a world in which the blocks between B0 and B1 alone have changed -/
structure Within (B0 B1 : Nat) (W W' : World) : Prop where
  os : W'.os = W.os
  tape : W'.tape = W.tape
  output : W'.output = W.output
  size : W'.heap.size = W.heap.size
  block : ∀ k, k < B0 ∨ B1 ≤ k → W'.heap[k]? = W.heap[k]?
theorem Within.refl (B0 B1 : Nat) (W : World) : Within B0 B1 W W := ⟨rfl, rfl, rfl, rfl, fun _ _ => rfl⟩
theorem Within.put {B0 B1 : Nat} {W W' : World} (h : Within B0 B1 W W') {g : Nat} (h0 : B0 ≤ g) (h1 : g < B1) (o : Nat) (u : Value) : Within B0 B1 W (W'.setCell ⟨g, o, none⟩ u) :=
  ⟨h.os, h.tape, h.output, by rw [World.size_setCell]; exact h.size, fun k hk => (heap_setCell_other _ _ _ _ (by simp; omega)).trans (h.block k hk)⟩
theorem Within.below {B0 B1 B : Nat} {W W' : World} (h : Within B0 B1 W W') (hB : B ≤ B0) : Below B W W' := ⟨h.os, h.tape, h.output, by rw [h.size]; exact Nat.le_refl _, fun k hk => h.block k (.inl (by omega))⟩
/-- the lent rows from i on may be written -/
structure From (L : List (List Int)) (B0 B1 M i : Nat) (W : World) : Prop where
  rows : ∀ j, i ≤ j → j < L.length → ∃ g c ys, W.cell? ⟨M, j, none⟩ = some (.slice (some ⟨g, 0, none⟩) (bidAt L j).length c) ∧ B0 ≤ g ∧ g < B1 ∧ g ≠ M ∧ W.ownsRow B0 2 1 (.slice (some ⟨g, 0, none⟩) ((bidAt L j).length + 1) c) ((bidAt L j).length + 1) ys
  fz : ∀ o, W.frozen? ⟨M, o, none⟩ = false
  ge : B0 ≤ M
  lt : M < B1
theorem LentM.from {L : List (List Int)} {base M cM : Nat} {w0 W : World} (h : LentM L base M cM w0) (hb : Below w0.heap.size w0 W) : From L base w0.heap.size M 0 W := by
  obtain ⟨vs, z, h1, h2, h3, h4⟩ := h.row
  have hM := h1.lt M rfl
  refine ⟨fun j _ hj => ?_, fun o => (hb.frozen (p := ⟨M, o, none⟩) hM.2).trans (h1.frozenAt o), hM.1, hM.2⟩
  obtain ⟨v, hv, g, c, rfl, own⟩ := h4 j hj
  have hg := own.lt g rfl
  refine ⟨g, c, _, ?_, hg.1, hg.2, own_type own h1 (by decide), own_bel own hb⟩
  refine (hb.cell (p := ⟨M, j, none⟩) hM.2).trans ?_
  rw [h1.cellAt j (by omega), List.getElem?_append_left (by omega), hv]
theorem own_stored {w : World} {base : Nat} {e : TypeId} {g n c g2 : Nat} {xs : List Value} (h : w.ownsRow base e 1 (.slice (some ⟨g, 0, none⟩) n c) n xs) (k : Nat) (u : Value) : ∃ ys, (w.setCell ⟨g2, k, none⟩ u).ownsRow base e 1 (.slice (some ⟨g, 0, none⟩) n c) n ys := by
  by_cases q : g2 = g
  · subst q; exact ⟨_, (h.stored k u).1⟩
  · exact ⟨xs, own_old h (heap_setCell_other _ _ _ _ (by simpa using Ne.symm q))⟩
theorem From.store {L : List (List Int)} {B0 B1 M i : Nat} {W : World} (h : From L B0 B1 M i W) {g : Nat} (hg : g ≠ M) (k : Nat) (u : Value) : From L B0 B1 M i (W.setCell ⟨g, k, none⟩ u) := by
  refine ⟨fun j hj hl => ?_, fun o => by rw [World.frozen?_setCell]; exact h.fz o, h.ge, h.lt⟩
  obtain ⟨g1, c, ys, h1, h2, h3, h4, h5⟩ := h.rows j hj hl
  obtain ⟨zs, hz⟩ := own_stored (g2 := g) h5 k u
  exact ⟨g1, c, zs, (World.cell?_setCell_far _ _ _ _ (by simpa using hg)).trans h1, h2, h3, h4, hz⟩
theorem From.next {L : List (List Int)} {B0 B1 M i : Nat} {W : World} (h : From L B0 B1 M i W) (u : Value) : From L B0 B1 M (i + 1) (W.setCell ⟨M, i, none⟩ u) := by
  refine ⟨fun j hj hl => ?_, fun o => by rw [World.frozen?_setCell]; exact h.fz o, h.ge, h.lt⟩
  obtain ⟨g1, c, ys, h1, h2, h3, h4, h5⟩ := h.rows j (by omega) hl
  exact ⟨g1, c, ys, (set_ne _ _ _ _ _ (by omega)).trans h1, h2, h3, h4, own_old h5 (heap_setCell_other _ _ _ _ (by simpa using h4))⟩
set_option maxRecDepth 100000 in
set_option maxHeartbeats 4000000 in
theorem spoilt_c (L : List (List Int)) (base M cM : Nat) (w0 w : World) (hm : LentM L base M cM w0) (hb : Below w0.heap.size w0 w) : Calls Try.prog 22 #[.slice (some ⟨M, 0, none⟩) L.length cM] w fun e w' => (∃ v, e = .returned v) ∧ Within base w0.heap.size w w' := by
  have HF := hide (hm.from hb)
  have hLb : L.length ≤ 9223372036854775806 := by
    obtain ⟨vs, z, h1, h2, h3, h4⟩ := hm.row
    rcases h1.2 with ⟨q, _⟩ | ⟨g, cp, cur, hv, _, _, h5, h6, _⟩
    · cases q
    · unfold maxLen at h6; omega
  have hxb : ∀ i, i < L.length → (bidAt L i).length ≤ 9223372036854775806 := fun i hi => by
    obtain ⟨vs, z, h1, h2, h3, h4⟩ := hm.row
    obtain ⟨v, hv, g, c, rfl, own⟩ := h4 i hi
    rcases own.2 with ⟨q, _⟩ | ⟨g, cp, cur, hv, _, _, h5, h6, _⟩
    · cases q
    · unfold maxLen at h6; omega
  have HXB := hide hxb
  clear hm hb hxb
  go_enter Try.func22, Try.ntmps22
  go_wp2_with fail
  go_loopw [2] (fun v2 wr => ∃ i : Nat, i ≤ L.length ∧ v2 = .int .i64 (i : Int) ∧ From L base w0.heap.size M i wr ∧ Within base w0.heap.size w wr) (fun v2 _ => L.length - (intOf v2).toNat)
  case atStart => exact ⟨0, Nat.zero_le _, rfl, HF.out, Within.refl _ _ _⟩
  case round =>
    obtain ⟨i, hi, rfl, hf, hw⟩ := hrel
    have HFI := hide hf
    have HWI := hide hw
    have hi0 : (0 : Int) ≤ (i : Int) := by omega
    clear hf hw
    by_cases hlt : i < L.length
    · have hlt' : (i : Int) < (L.length : Int) := by omega
      have hxl := HXB.out i hlt
      obtain ⟨xl, hxl2⟩ : ∃ xl, xl = (bidAt L i).length := ⟨_, rfl⟩
      rw [← hxl2] at hxl
      have HXL := hide hxl2
      clear hxl2
      go_wp2_with fail
      obtain ⟨wo, hwo⟩ : ∃ q : World, q = wr := ⟨wr, rfl⟩
      subst hwo
      go_loopw [3] (fun v3 wk => ∃ k : Nat, k ≤ xl ∧ v3 = .int .i64 (k : Int) ∧ From L base w0.heap.size M i wk ∧ Within base w0.heap.size w wk) (fun v3 _ => xl - (intOf v3).toNat)
      case atStart => exact ⟨0, Nat.zero_le _, rfl, HFI.out, HWI.out⟩
      case round =>
        obtain ⟨k, hk, rfl, hf, hw⟩ := hrel
        have HFK := hide hf
        have HWK := hide hw
        obtain ⟨g, c, ys, h1, h2, h3, h4, h5⟩ := hf.rows i (Nat.le_refl _) hlt
        rw [← HXL.out] at h1 h5
        have HOW := hide h5
        have hfz := hf.fz
        have hgf : ∀ o, wr.frozen? ⟨g, o, none⟩ = false := h5.frozenAt
        have hMge := hf.ge
        have hMlt := hf.lt
        have hk0 : (0 : Int) ≤ (k : Int) := by omega
        clear hf hw h5
        by_cases hkl : k < xl
        · have hkl' : (k : Int) < (xl : Int) := by omega
          have hyl : k < ys.length := by have := HOW.out.1; omega
          have ck : wr.cell? ⟨g, k, none⟩ = some (ys[k]) := by rw [HOW.out.cellAt k (by omega), List.getElem?_eq_getElem hyl]
          go_wp2_with fail
          go_roundw
          case rel => exact ⟨k + 1, by omega, by go_num, HFK.out.store h4 k _, HWK.out.put h2 h3 k _⟩
          case measure => (first | (simp [intOf]; done) | (simp [intOf]; omega))
        · obtain rfl : xl = k := by omega
          go_wp2_with fail
          go_roundw
          case rel => exact ⟨i + 1, by omega, by go_num, HFK.out.next _, HWK.out.put hMge hMlt i _⟩
          case measure => (first | (simp [intOf]; done) | (simp [intOf]; omega))
    · obtain rfl : i = L.length := by omega
      go_wp2_with fail
      first | go_end0 | (refine bodyPost_ret (results_none rfl _ _ _) rfl ?_)
      exact ⟨⟨_, rfl⟩, HWI.out⟩
end Go.Proofs.Ytehpjipmlpaflaa.un
