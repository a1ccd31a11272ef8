import Derived.Test.YtehpjipmlpaflaaUe
namespace Go.Proofs.Ytehpjipmlpaflaa.un
open Go.ChangeShapes Go.WideShapes Go.ChangeAt Go.RowKit Go.Deep Go.Shelf
set_option linter.unusedSimpArgs false
set_option linter.unusedVariables false

attribute [local go_sem] Oper.semAt_some

/-- a lent bid: its numbers, and a mark behind -/
def LentAt (xs : List Int) (v : Value) (base : Nat) (W : World) : Prop :=
  ∃ g c, v = .slice (some ⟨g, 0, none⟩) xs.length c ∧ W.ownsRow base 2 1 (.slice (some ⟨g, 0, none⟩) (xs.length + 1) c) (xs.length + 1) ((xs ++ [4242]).map I64)
theorem own_cap {w : World} {base : Nat} {e : TypeId} {size g n cap : Nat} {xs : List Value} (h : w.ownsRow base e size (.slice (some ⟨g, 0, none⟩) n cap) n xs) : n ≤ cap := by
  rcases h.2 with ⟨q, _⟩ | ⟨g', cap', cur, hv, h2, h3, h4, _⟩
  · cases q
  · obtain ⟨rfl, rfl⟩ : g = g' ∧ cap = cap' := by (injection hv with e1 e2 e3; injection e1 with e1; injection e1 with e1; exact ⟨e1, e3⟩)
    exact h4
theorem own_type {w : World} {base base' : Nat} {e e' : TypeId} {size size' g g' n n' cap cap' : Nat} {xs xs' : List Value} (h : w.ownsRow base e size (.slice (some ⟨g, 0, none⟩) n cap) n xs) (h' : w.ownsRow base' e' size' (.slice (some ⟨g', 0, none⟩) n' cap') n' xs') (hne : e ≠ e') : g ≠ g' := by
  intro eg
  subst eg
  rcases h.2 with ⟨q, _⟩ | ⟨g1, cap1, cur, hv, h2, h3, h4⟩
  · cases q
  · rcases h'.2 with ⟨q, _⟩ | ⟨g2, cap2, cur2, hv2, i2, i3, i4⟩
    · cases q
    · have e1 : g = g1 := by (injection hv with e1 e2 e3; injection e1 with e1; injection e1 with e1)
      have e2 : g = g2 := by (injection hv2 with e1 e2 e3; injection e1 with e1; injection e1 with e1)
      rw [← e1] at h3
      rw [← e2] at i3
      rw [h3] at i3
      injection i3 with i3
      injection i3 with i3 i4
      exact hne i4
theorem LentAt.below {xs : List Int} {v : Value} {base : Nat} {W W' : World} (h : LentAt xs v base W) (hb : Below W.heap.size W W') : LentAt xs v base W' := by
  obtain ⟨g, c, e, own⟩ := h
  exact ⟨g, c, e, own_bel own hb⟩
/-- a row of slices grows: the lent bids stay -/
theorem LentAt.grown {xs : List Int} {v : Value} {base base' : Nat} {W W' : World} {vm : Value} {n : Nat} {ys : List Value} (h : LentAt xs v base W) (own : W.ownsRow base' 41 1 vm n ys) (hg : W.grownBy W' vm.ownBlock) : LentAt xs v base W' := by
  obtain ⟨g, c, e, h2⟩ := h
  refine ⟨g, c, e, own_old h2 (hg.block g (h2.lt g rfl).2 (fun eq => ?_))⟩
  rcases own.2 with ⟨q, _⟩ | ⟨g1, cap1, cur, rfl, _⟩
  · rw [q] at eq; simp [Value.ownBlock] at eq
  · have e1 : g = g1 := by simpa [Value.ownBlock] using eq
    exact own_type h2 own (by decide) e1
theorem lent_grow {W W' : World} {vm : Value} (hg : W.grownBy W' vm.ownBlock) {base' n : Nat} {ys : List Value} (own : W.ownsRow base' 41 1 vm n ys) {xs : List Int} {v : Value} {base : Nat} (h : LentAt xs v base W) : LentAt xs v base W' := h.grown own hg
/-- lent bids, and a mark behind them -/
structure LentM (L : List (List Int)) (base M cM : Nat) (W : World) : Prop where
  row : ∃ vs z, W.ownsRow base 41 1 (.slice (some ⟨M, 0, none⟩) (L.length + 1) cM) (L.length + 1) (vs ++ [.slice (some ⟨z, 0, none⟩) 1 1]) ∧ vs.length = L.length ∧ W.cell? ⟨z, 0, none⟩ = some (.int .i64 4243) ∧
    ∀ j, j < L.length → ∃ v, vs[j]? = some v ∧ LentAt (bidAt L j) v base W
theorem LentM.below {L : List (List Int)} {base M cM : Nat} {W W' : World} (h : LentM L base M cM W) (hb : Below W.heap.size W W') : LentM L base M cM W' := by
  obtain ⟨vs, z, h1, h2, h3, h4⟩ := h.row
  refine ⟨vs, z, own_bel h1 hb, h2, (hb.cell (p := ⟨z, 0, none⟩) (cell_lt h3)).trans h3, fun j hj => ?_⟩
  obtain ⟨v, hv, hl⟩ := h4 j hj
  exact ⟨v, hv, hl.below hb⟩
theorem lent_cells {xs : List Int} {g c base : Nat} {W : World} (own : W.ownsRow base 2 1 (.slice (some ⟨g, 0, none⟩) (xs.length + 1) c) (xs.length + 1) ((xs ++ [4242]).map I64)) : (∀ k, k < xs.length → W.cell? ⟨g, k, none⟩ = some (.int .i64 (at0 xs k))) ∧ W.cell? ⟨g, xs.length, none⟩ = some (.int .i64 4242) := by
  refine ⟨fun k hk => ?_, ?_⟩
  · rw [own.cellAt k (by omega), List.getElem?_map, List.getElem?_append_left hk, List.getElem?_eq_getElem hk]
    simp [at0, List.getElem?_eq_getElem hk]
  · rw [own.cellAt xs.length (by omega)]
    simp
theorem LentM.brows {L : List (List Int)} {base M cM : Nat} {W : World} (h : LentM L base M cM W) : BRows (some ⟨M, 0, none⟩) L W := by
  obtain ⟨vs, z, h1, h2, h3, h4⟩ := h.row
  refine ⟨fun _ => ⟨M, 0, rfl, fun i hi => ?_⟩⟩
  obtain ⟨v, hv, g, c, rfl, own⟩ := h4 i hi
  refine ⟨some ⟨g, 0, none⟩, c, ?_, ⟨fun _ => ?_⟩⟩
  · rw [Nat.zero_add, h1.cellAt i (by omega), List.getElem?_append_left (by omega), hv]
  · exact ⟨g, 0, rfl, fun k hk => by rw [Nat.zero_add]; exact (lent_cells own).1 k hk⟩
theorem hn29 (w : World) : ∀ j u, [Value.slice (some ⟨w.heap.size, 0, none⟩) 1 1][j]? = some u → ((w.alloc (.cells #[.int .i64 4243] 2)).alloc (.cells #[.slice (some ⟨w.heap.size, 0, none⟩) 1 1] 41)).cell? ((⟨w.heap.size + 1, 0, none⟩ : Addr).add j) = some u := by
  intro j u hu
  rcases j with _ | j
  · simp at hu
    subst hu
    simp [go_sem]
  · simp at hu
theorem one29 (w : World) : ∀ u ∈ [Value.slice (some ⟨w.heap.size, 0, none⟩) 1 1], u.oneCell' = true := by
  intro u hu
  simp at hu
  subst hu
  rfl
set_option maxRecDepth 100000 in
set_option maxHeartbeats 8000000 in
theorem lent_c (so : Option Addr) (cap : Nat) (L : List (List Int)) (w : World) (hb : BRows so L w) (hL : L.length ≤ 4096) (hLb : ∀ i, i < L.length → (bidAt L i).length ≤ 4000) :
    Calls Try.prog 11 #[.slice so L.length cap] w fun e w' => (∃ M cM, e = .returned (.slice (some ⟨M, 0, none⟩) L.length cM) ∧ LentM L w.heap.size M cM w') ∧ Below w.heap.size w w' := by
  obtain ⟨i0, hi0, hz0, hz1, hz2⟩ := info_parts info2
  obtain ⟨i1, hi1, hy0, hy1, hy2⟩ := info_parts info41
  have HB := hide hb
  have HLB := hide hLb
  clear hb hLb
  go_enter Try.func11, Try.ntmps11
  go_wp2_with fail
  go_loopw [3, 4] (fun v3 v4 wr => ∃ (i : Nat) (vs : List Value), i ≤ L.length ∧ v4 = .int .i64 (i : Int) ∧ vs.length = i ∧ wr.ownsRow w.heap.size 41 1 v3 i vs ∧ (∀ j, j < i → ∃ v, vs[j]? = some v ∧ LentAt (bidAt L j) v w.heap.size wr) ∧ Below w.heap.size w wr) (fun _ v4 _ => L.length - (intOf v4).toNat)
  case atStart => exact ⟨0, [], Nat.zero_le _, rfl, rfl, World.ownsRow_nil _ _ _ _, fun j h => by omega, Below.refl _ _⟩
  case round =>
    obtain ⟨i, vs, hi, rfl, hvl, own, hla, hbw⟩ := hrel
    have HM := hide own
    have HLA := hide hla
    have HBW := hide hbw
    have HVL := hide hvl
    have hi0' : (0 : Int) ≤ (i : Int) := by omega
    have hwr := hbw.size
    obtain ⟨v3, hv3⟩ : ∃ v3, v3 = u3 := ⟨u3, rfl⟩
    rw [← hv3] at HM ⊢
    clear own hla hbw hvl hv3
    by_cases hlt : i < L.length
    · have hlt' : (i : Int) < (L.length : Int) := by omega
      obtain ⟨b, off, si, ci, rfl, ck, h2⟩ := (HB.out.below HBW.out).spot hlt
      have hbz := cell_lt ck
      have HIR := hide h2
      have hbn0 : b ≠ wr.heap.size := Nat.ne_of_lt hbz
      have hbm0 : wr.heap.size ≠ b := Ne.symm hbn0
      have hlb4 : (bidAt L i).length ≤ 4096 := by have := HLB.out i hlt; omega
      have hlb4' : ((bidAt L i).length : Int) ≤ 4096 := by omega
      clear h2
      go_wp2_with fail
      go_region_law (first | (refine step_copy rfl (.const (.slice none 0 0)) (.tmp 15) rfl rfl si (bidAt L i) ci (by simp [Act.eval, Act.put]) (by simp [Act.eval, Act.put]) (HIR.out.below (by (focus repeat' (first | (with_reducible exact Below.refl _ _) | (with_reducible assumption) | (with_reducible refine Below.alloc ?_ ?_ _) | (with_reducible refine Below.drew ?_) | (with_reducible refine bdrewN ?_ _) | (with_reducible refine Below.setCell ?_ ?_ _) | (first | (with_reducible exact Nat.le_refl _) | (with_reducible assumption) | omega | (simp; omega) | (simp; done)))))) hlb4 ?_; intro a1 c1 w1 hown hbw1; have OX := hide (own_lower hown (show wr.heap.size ≤ _ by (first | (simp; done) | (simp; omega)))); have hs1 := hbw1.size; (try simp only [World.size_drew, World.size_alloc] at hs1); have HB1 := hide (show Below wr.heap.size wr w1 from bstep (by (focus repeat' (first | (with_reducible exact Below.refl _ _) | (with_reducible assumption) | (with_reducible refine Below.alloc ?_ ?_ _) | (with_reducible refine Below.drew ?_) | (with_reducible refine bdrewN ?_ _) | (with_reducible refine Below.setCell ?_ ?_ _) | (first | (with_reducible exact Nat.le_refl _) | (with_reducible assumption) | omega | (simp; omega) | (simp; done))))) hbw1); have k1 : w1.cell? ⟨b, off + i, none⟩ = some (.slice si (bidAt L i).length ci) := (HB1.out.cell (p := ⟨b, off + i, none⟩) hbz).trans ck; have k2 : _ → _ := (fun hlt => hbw1.cell (p := ⟨wr.heap.size, 0, none⟩) hlt); (try simp [go_sem] at k2); have hbs1 : wr.heap.size ≤ w1.heap.size := HB1.out.size; have hbl1 : b < w1.heap.size := Nat.lt_of_lt_of_le hbz hbs1; have hbn1 : b ≠ w1.heap.size := Nat.ne_of_lt hbl1; have hbm1 : w1.heap.size ≠ b := Ne.symm hbn1; clear hown hbw1) | (refine step_append_lies _ rfl (.tmp 16) (.tmp 17) 41 rfl wr.heap.size 2 i0 (.int .i64 0) 1 8 Try.underlying41 hi0 hz0 hz1 hz2 rfl (by decide) (.slice a1 (bidAt L i).length c1) (bidAt L i).length ((bidAt L i).map I64) (by simp [Act.eval, Act.put]) (own_bel OX.out (by (focus repeat' (first | (with_reducible exact Below.refl _ _) | (with_reducible assumption) | (with_reducible refine Below.alloc ?_ ?_ _) | (with_reducible refine Below.drew ?_) | (with_reducible refine bdrewN ?_ _) | (with_reducible refine Below.setCell ?_ ?_ _) | (first | (with_reducible exact Nat.le_refl _) | (with_reducible assumption) | omega | (simp; omega) | (simp; done)))))) _ 1 1 [.int .i64 4242] rfl rfl (by intro j u hu; (rcases j with _ | j <;> simp at hu); subst hu; simp [go_sem, *]) (by intro u hu; simp at hu; subst hu; rfl) (by decide) (by unfold maxLen; omega) (by omega) (by (first | (with_reducible exact Nat.le_refl _) | (with_reducible assumption) | omega | (simp; omega) | (simp; done))) _ rfl ?_; intro g2 c2 w2 hown2 hg2 hgg hgl; have OY := hide hown2; have hcap2 := own_cap hown2; have hc2 : (bidAt L i).length ≤ c2 := Nat.le_of_succ_le hcap2; have HB2 := hide (show Below wr.heap.size wr w2 from (show Below wr.heap.size wr _ from (HB1.out.trans (by (focus repeat' (first | (with_reducible exact Below.refl _ _) | (with_reducible assumption) | (with_reducible refine Below.alloc ?_ ?_ _) | (with_reducible refine Below.drew ?_) | (with_reducible refine bdrewN ?_ _) | (with_reducible refine Below.setCell ?_ ?_ _) | (first | (with_reducible exact Nat.le_refl _) | (with_reducible assumption) | omega | (simp; omega) | (simp; done))))))).grown hg2 (by (first | (with_reducible exact Nat.le_refl _) | (with_reducible assumption) | omega | (simp; omega) | (simp; done))) (fun r e => (OX.out.lt r e).1)); have hs2 : wr.heap.size ≤ w2.heap.size := HB2.out.size; have hbl2 : b < w2.heap.size := Nat.lt_of_lt_of_le hbz hs2; have hbn2 : b ≠ w2.heap.size := Nat.ne_of_lt hbl2; have hbm2 : w2.heap.size ≠ b := Ne.symm hbn2; have k3 : w2.cell? ⟨b, off + i, none⟩ = some (.slice si (bidAt L i).length ci) := (HB2.out.cell (p := ⟨b, off + i, none⟩) hbz).trans ck; clear hown2 hg2 hgg) | (refine step_append_lies _ rfl (.tmp 11) (.tmp 25) 22 rfl w.heap.size 41 i1 (.slice none 0 0) 1 24 Try.underlying22 hi1 hy0 hy1 hy2 rfl (by decide) v3 i vs (by simp [Act.eval, Act.put]) (own_bel (own_bel HM.out HB2.out) (by (focus repeat' (first | (with_reducible exact Below.refl _ _) | (with_reducible assumption) | (with_reducible refine Below.alloc ?_ ?_ _) | (with_reducible refine Below.drew ?_) | (with_reducible refine bdrewN ?_ _) | (with_reducible refine Below.setCell ?_ ?_ _) | (first | (with_reducible exact Nat.le_refl _) | (with_reducible assumption) | omega | (simp; omega) | (simp; done)))))) ⟨w2.heap.size, 0, none⟩ 1 1 [.slice (some ⟨g2, 0, none⟩) (bidAt L i).length c2] (by simp [Act.eval, Act.put]) rfl (by intro j u hu; (rcases j with _ | j <;> simp at hu); subst hu; simp [go_sem, *]) (by intro u hu; simp at hu; subst hu; rfl) (by decide) (by unfold maxLen; omega) (by omega) (by (first | (with_reducible exact Nat.le_refl _) | (with_reducible assumption) | omega | (simp; omega) | (simp; done))) _ rfl ?_; intro g3 c3 w3 hown3 hg3 hgg3 hgl3; have OZ := hide hown3; have HLN := hide (show ∀ j, j < i → ∃ v, vs[j]? = some v ∧ LentAt (bidAt L j) v w.heap.size w3 from fun j hj => (by obtain ⟨v, hv, hl⟩ := HLA.out j hj; exact ⟨v, hv, lent_grow hg3 (own_bel (own_bel HM.out HB2.out) (by (focus repeat' (first | (with_reducible exact Below.refl _ _) | (with_reducible assumption) | (with_reducible refine Below.alloc ?_ ?_ _) | (with_reducible refine Below.drew ?_) | (with_reducible refine bdrewN ?_ _) | (with_reducible refine Below.setCell ?_ ?_ _) | (first | (with_reducible exact Nat.le_refl _) | (with_reducible assumption) | omega | (simp; omega) | (simp; done)))))) ((hl.below HB2.out).below (by (focus repeat' (first | (with_reducible exact Below.refl _ _) | (with_reducible assumption) | (with_reducible refine Below.alloc ?_ ?_ _) | (with_reducible refine Below.drew ?_) | (with_reducible refine bdrewN ?_ _) | (with_reducible refine Below.setCell ?_ ?_ _) | (first | (with_reducible exact Nat.le_refl _) | (with_reducible assumption) | omega | (simp; omega) | (simp; done))))))⟩)); have HLI := hide (show LentAt (bidAt L i) (.slice (some ⟨g2, 0, none⟩) (bidAt L i).length c2) w.heap.size w3 from lent_grow hg3 (own_bel (own_bel HM.out HB2.out) (by (focus repeat' (first | (with_reducible exact Below.refl _ _) | (with_reducible assumption) | (with_reducible refine Below.alloc ?_ ?_ _) | (with_reducible refine Below.drew ?_) | (with_reducible refine bdrewN ?_ _) | (with_reducible refine Below.setCell ?_ ?_ _) | (first | (with_reducible exact Nat.le_refl _) | (with_reducible assumption) | omega | (simp; omega) | (simp; done)))))) (LentAt.below (W := w2) ⟨g2, c2, rfl, own_lower (by (rw [List.map_append]; exact OY.out)) hwr⟩ (by (focus repeat' (first | (with_reducible exact Below.refl _ _) | (with_reducible assumption) | (with_reducible refine Below.alloc ?_ ?_ _) | (with_reducible refine Below.drew ?_) | (with_reducible refine bdrewN ?_ _) | (with_reducible refine Below.setCell ?_ ?_ _) | (first | (with_reducible exact Nat.le_refl _) | (with_reducible assumption) | omega | (simp; omega) | (simp; done))))))); have HB3 := hide (show Below w.heap.size w w3 from (show Below w.heap.size w _ from ((HBW.out.trans (HB2.out.mono hwr)).trans (by (focus repeat' (first | (with_reducible exact Below.refl _ _) | (with_reducible assumption) | (with_reducible refine Below.alloc ?_ ?_ _) | (with_reducible refine Below.drew ?_) | (with_reducible refine bdrewN ?_ _) | (with_reducible refine Below.setCell ?_ ?_ _) | (first | (with_reducible exact Nat.le_refl _) | (with_reducible assumption) | omega | (simp; omega) | (simp; done))))))).grown hg3 (by (first | (with_reducible exact Nat.le_refl _) | (with_reducible assumption) | omega | (simp; omega) | (simp; done))) (fun r e => (HM.out.lt r e).1)); clear hown3 hg3 hgg3))
      all_goals
        go_wp2_with fail
        go_roundw
        case rel =>
          refine ⟨i + 1, vs ++ [.slice (some ⟨g2, 0, none⟩) (bidAt L i).length c2], by omega, by go_num, by rw [List.length_append, HVL.out]; rfl, OZ.out, fun j hj => ?_, HB3.out⟩
          rcases Nat.lt_or_ge j i with h3 | h3
          · obtain ⟨v, hv, hl⟩ := HLN.out j h3
            exact ⟨v, by (rw [List.getElem?_append_left (by rw [HVL.out]; exact h3)]; exact hv), hl⟩
          · obtain rfl : j = i := by omega
            exact ⟨_, by (rw [List.getElem?_append_right (by rw [HVL.out]; exact Nat.le_refl _), HVL.out, Nat.sub_self]; rfl), HLI.out⟩
        case measure => (first | (simp [intOf]; done) | (simp [intOf]; omega))
    · obtain rfl : i = L.length := by omega
      have q1 : L.length + 1 ≤ maxLen := by unfold maxLen; omega
      have q2 : (L.length + 1) * 24 ≤ 140737488355328 := by omega
      have q3 : w.heap.size ≤ ((wr.alloc (.cells #[.int .i64 4243] 2)).alloc (.cells #[.slice (some ⟨wr.heap.size, 0, none⟩) 1 1] 41)).heap.size := by (simp; omega)
      have HBW2 := hide ((HBW.out.alloc HBW.out.size (.cells #[.int .i64 4243] 2)).alloc (by (simp; omega)) (.cells #[.slice (some ⟨wr.heap.size, 0, none⟩) 1 1] 41))
      have HC43 := hide (show ((wr.alloc (.cells #[.int .i64 4243] 2)).alloc (.cells #[.slice (some ⟨wr.heap.size, 0, none⟩) 1 1] 41)).cell? ⟨wr.heap.size, 0, none⟩ = some (.int .i64 4243) from by simp [go_sem])
      go_wp2_with (at_builtin; (refine wpList_append_lies _ rfl _ _ 22 rfl w.heap.size 41 i1 (.slice none 0 0) 1 24 Try.underlying22 hi1 hy0 hy1 hy2 rfl (by decide) v3 L.length vs rfl (own_bel HM.out (((Below.refl wr.heap.size wr).alloc (Nat.le_refl _) (.cells #[.int .i64 4243] 2)).alloc (by simp) (.cells #[.slice (some ⟨wr.heap.size, 0, none⟩) 1 1] 41))) ⟨wr.heap.size + 1, 0, none⟩ 1 1 [.slice (some ⟨wr.heap.size, 0, none⟩) 1 1] rfl rfl (hn29 wr) (one29 wr) Nat.zero_lt_one q1 q2 q3 _ rfl ?_; intro g3 c3 w3 hown3 hg3 hgg3 hgl3; have hc3 : L.length ≤ c3 := Nat.le_of_succ_le (own_cap hown3); have OZ := hide hown3; have GZ := hide hg3; clear hown3 hg3 hgg3 q1 q2 q3))
      have hbn : Below wr.heap.size wr ((wr.alloc (.cells #[.int .i64 4243] 2)).alloc (.cells #[.slice (some ⟨wr.heap.size, 0, none⟩) 1 1] 41)) := ((Below.refl _ _).alloc (Nat.le_refl _) _).alloc (by simp) _
      refine bodyPost_ret (v := .slice (some ⟨g3, 0, none⟩) L.length c3) (by simp [results, Try.f11, go_sem]) rfl ⟨⟨g3, c3, rfl, ⟨vs, wr.heap.size, OZ.out, HVL.out, ?_, fun j hj => ?_⟩⟩, ?_⟩
      · refine GZ.out.cell HC43.out (fun e => ?_)
        exact absurd (HM.out.lt wr.heap.size e.symm).2 (Nat.lt_irrefl _)
      · obtain ⟨v, hv, hl⟩ := HLA.out j hj
        exact ⟨v, hv, lent_grow GZ.out (own_bel HM.out hbn) (hl.below hbn)⟩
      · exact HBW2.out.grown GZ.out (by simp; omega) (fun r e => (HM.out.lt r e).1)
end Go.Proofs.Ytehpjipmlpaflaa.un
