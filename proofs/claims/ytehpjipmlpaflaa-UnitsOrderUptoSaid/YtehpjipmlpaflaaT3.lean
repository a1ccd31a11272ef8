import Derived.Deep.RegionLaw
import Derived.Test.YtehpjipmlpaflaaT2
namespace Go.Proofs.Ytehpjipmlpaflaa.un
open Go.ChangeShapes Go.WideShapes Go.ChangeAt Go.RowKit Go.Deep Go.Shelf
set_option linter.unusedSimpArgs false
set_option linter.unusedVariables false

attribute [local go_sem] Oper.semAt_some

theorem cellsU_one (u : U) : ∀ v ∈ cellsU u, v.oneCell' = true := by
  intro v hv
  simp [cellsU] at hv
  rcases hv with rfl | rfl | rfl <;> rfl
theorem new3 (w : World) (u : U) (e : TypeId) : ∀ j v, (cellsU u)[j]? = some v → (w.alloc (.cells #[.int .i64 u.1, .int .i64 u.2.1, .int .i64 u.2.2] e)).cell? ((⟨w.heap.size, 0, none⟩ : Addr).add j) = some v := by
  intro j v hv
  have ha : (⟨w.heap.size, 0, none⟩ : Addr).add j = ⟨w.heap.size, j, none⟩ := by
    unfold Addr.add
    split
    · (rename_i h; subst h; rfl)
    · simp
  rw [ha]
  rcases j with _ | _ | _ | j <;> simp [cellsU] at hv <;> subst hv <;> simp [go_sem]
theorem ta52 (v : Value) (w : World) : Sem.run Try.prog (Instr.typeAssert (.iface 52 v) 20 52 false) w = .ok v w := by kernel_rfl
set_option maxRecDepth 100000 in
set_option maxHeartbeats 2000000 in
theorem Push_c (R : Nat) (xs : List U) (u : U) (w : World) (h : HObj R xs w) (hm : xs.length ≤ 1048575) : Calls Try.prog 66 #[.pointer (some ⟨R, 0, none⟩), .iface 52 (.agg #[.int .i64 u.1, .int .i64 u.2.1, .int .i64 u.2.2])] w fun e w' => (∃ v, e = .returned v) ∧ HObj R (xs ++ [u]) w' ∧ Chg R w w' := by
  obtain ⟨i0, hi0, hz0, hi1, hi2⟩ := info_parts info52
  obtain ⟨ao, cap, hv, own⟩ := h.any
  have hR := h.lt
  have hfz := h.fz
  have HO := hide own
  have HH := hide h
  have TA := ta52
  clear h own
  go_enter Try.func66, Try.ntmps66
  go_wp2
  go_region_law (refine step_append_lies _ rfl _ _ 44 rfl (R + 1) 52 i0 (.agg #[.int .i64 0, .int .i64 0, .int .i64 0]) 3 24 Try.underlying44 hi0 hz0 hi1 hi2 rfl (by decide) (.slice ao xs.length cap) xs.length (flat3 xs) (by simp [Act.eval, Act.put]) (World.ownsRow.alloc HO.out _) ⟨w.heap.size, 0, none⟩ 1 1 (cellsU u) (by simp [Act.eval, Act.put]) rfl (new3 _ u 52) (cellsU_one u) (by decide) (by unfold maxLen; omega) (by omega) (by simp; omega) _ rfl ?_; intro g2 cap2 wn hown2 hg2 hgg hgl; have OX := hide hown2; have GX := hide hg2; have NX := hide hgg; have HK := hide (show wn.heap[R]? = w.heap[R]? from (hg2.block R (by simp; omega) (fun e => by have := (HO.out.lt R e.symm).1; omega)).trans (((Below.refl w.heap.size w).drew.alloc (Nat.le_refl _) _).block R hR)); have c2 : wn.cell? ⟨R, 0, none⟩ = some (.slice ao xs.length cap) := (World.cell?_of_block (a := ⟨R, 0, none⟩) HK.out).trans hv; have f2 : wn.frozen? ⟨R, 0, none⟩ = false := (World.frozen?_of_block (a := ⟨R, 0, none⟩) HK.out).trans hfz; have HBW := hide (((Below.refl R w).drew.alloc (Nat.le_of_lt hR) _).grown hg2 (by simp; omega) (fun r e => by have := (HO.out.lt r e).1; omega)); have HKO := hide (show ∀ k, k < w.heap.size → (Value.slice ao xs.length cap).ownBlock ≠ some k → wn.heap[k]? = w.heap[k]? from fun k hk he => (hg2.block k (by simp; omega) (fun e => he e.symm)).trans (((Below.refl w.heap.size w).drew.alloc (Nat.le_refl _) _).block k hk)); clear hown2 hg2 hgg)
  all_goals
    have C3 := World.cell?_setCell_same' wn ⟨R, 0, none⟩ (.slice (some ⟨g2, 0, none⟩) (xs.length + 1) cap2) (by rw [c2]; rfl)
    go_end0
    refine ⟨⟨_, rfl⟩, ⟨⟨_, C3, ?_⟩, ?_, ?_, ?_⟩, ⟨HBW.out.setCell (p := ⟨R, 0, none⟩) (Nat.le_refl _) _, fun k hk hne ho => (heap_o hne).trans (HKO.out k hk (fun e => ho ⟨_, hv, e⟩)), fun k ⟨v, hv', e⟩ => ?_⟩⟩
    rotate_left 4
    · rw [C3] at hv'
      obtain rfl := Option.some.inj hv'
      have eg : g2 = k := by simpa [Value.ownBlock] using e
      subst eg
      rcases NX.out with q | q
      · exact .inl ⟨_, hv, q⟩
      · exact .inr (by rw [q]; simp)
    · rw [List.length_append, List.length_singleton, flat3_snoc]
      exact ownsRow_setCell_below OX.out (a := ⟨R, 0, none⟩) (Nat.lt_succ_self R) _
    · exact (World.cell?_setCell_other _ _ _ _ (by simp)).trans ((World.cell?_of_block (a := ⟨R, 1, none⟩) HK.out).trans HH.out.fn)
    · rw [World.frozen?_setCell]; exact f2
    · rw [World.size_setCell]
      have := HBW.out.size
      omega
/-- a row without its last -/
theorem own_less {w : World} {base g n cap : Nat} {xs : List U} (h : w.ownsRow base 52 3 (.slice (some ⟨g, 0, none⟩) (n + 1) cap) (n + 1) (flat3 xs)) (hn : xs.length = n + 1) : w.ownsRow base 52 3 (.slice (some ⟨g, 0, none⟩) n cap) n (flat3 (xs.take n)) := by
  have hl : (flat3 (xs.take n)).length = n * 3 := by rw [flat3_len, List.length_take]; omega
  refine ⟨hl, ?_⟩
  rcases h.2 with ⟨h', _⟩ | ⟨g', cap', cur, h', hb, hg, hnc, hcm, hcs, htake⟩
  · simp at h'
  · simp only [Value.slice.injEq, Option.some.injEq, Addr.mk.injEq, and_true, true_and] at h'
    obtain ⟨rfl, rfl⟩ := h'
    refine .inr ⟨g, cap, cur, rfl, hb, hg, by omega, hcm, hcs, ?_⟩
    have e : flat3 (xs.take n) = (flat3 xs).take (n * 3) := by
      have q : flat3 xs = flat3 (xs.take n) ++ flat3 (xs.drop n) := by
        unfold flat3
        rw [← List.flatMap_append, List.take_append_drop]
      rw [q, ← hl, List.take_left]
    rw [e, ← htake, List.take_take, Nat.min_eq_left (by omega)]
set_option maxRecDepth 100000 in
set_option maxHeartbeats 2000000 in
theorem Pop_c (R : Nat) (xs : List U) (n : Nat) (w : World) (h : HObj R xs w) (hn : xs.length = n + 1) (hm : xs.length ≤ 1048576) : Calls Try.prog 65 #[.pointer (some ⟨R, 0, none⟩)] w fun e w' => (∃ v, e = .returned v) ∧ HObj R (xs.take n) w' ∧ Chg R w w' := by
  obtain ⟨g, cap, hv, hRg, hg, own, hc, hfz⟩ := h.full (by omega)
  have hR := h.lt
  have hf := h.fz
  rw [hn] at hv own
  have HH := hide h
  have HO := hide (own_less own hn)
  have hcn : 0 < cap ∧ n + 1 ≤ cap := by
    rcases own.2 with ⟨h', _⟩ | ⟨g', cap', cur, h', hb, hg, hnc, hcm, hcs, htake⟩
    · simp at h'
    · simp only [Value.slice.injEq, Option.some.injEq, Addr.mk.injEq, and_true, true_and] at h'
      obtain ⟨rfl, rfl⟩ := h'
      omega
  obtain ⟨hc0, hcn⟩ := hcn
  have hcn' : (n : Int) ≤ (cap : Int) := by omega
  have hnm : n ≤ 1048576 := by omega
  have a0 : w.cell? ⟨g, n * 3, none⟩ = some (.int .i64 (get xs n).1) := hc n 0 (by omega) (by decide)
  have a1 : w.cell? ⟨g, n * 3 + 1, none⟩ = some (.int .i64 (get xs n).2.1) := hc n 1 (by omega) (by decide)
  have a2 : w.cell? ⟨g, n * 3 + 2, none⟩ = some (.int .i64 (get xs n).2.2) := hc n 2 (by omega) (by decide)
  have HN := hide hn
  clear h hc own hfz hn hm
  obtain ⟨p, hp⟩ : ∃ p, p = get xs n := ⟨_, rfl⟩
  rw [← hp] at a0 a1 a2
  clear hp
  go_enter Try.func65, Try.ntmps65
  go_wp2
  go_region
  all_goals
    go_wp2
    go_region
  all_goals
    go_wp2
    have C3 := World.cell?_setCell_same' w ⟨R, 0, none⟩ (.slice (some ⟨g, 0, none⟩) n cap) (by rw [hv]; rfl)
    have hl : (xs.take n).length = n := by rw [List.length_take, HN.out]; omega
    have H1 : HObj R (xs.take n) (w.setCell ⟨R, 0, none⟩ (.slice (some ⟨g, 0, none⟩) n cap)) := ⟨⟨_, C3, by rw [hl]; exact ownsRow_setCell_below HO.out (a := ⟨R, 0, none⟩) (Nat.lt_succ_self R) _⟩, (World.cell?_setCell_other _ _ _ _ (by simp)).trans HH.out.fn, by rw [World.frozen?_setCell]; exact hf, by rw [World.size_setCell]; exact hR⟩
    refine bodyPost_ret (v := .iface 52 (.agg #[.int .i64 p.1, .int .i64 p.2.1, .int .i64 p.2.2])) (by simp [results, Try.f65, go_sem]) rfl ⟨⟨_, rfl⟩, ?_, ?_⟩
    · exact H1.below (((Below.refl _ _).alloc (Nat.le_refl _) _).drew.drew)
    · have hbl := ((((Below.refl R w).setCell (p := ⟨R, 0, none⟩) (Nat.le_refl _) (.slice (some ⟨g, 0, none⟩) n cap)).alloc (by rw [World.size_setCell]; omega) (.cells #[.int .i64 p.1, .int .i64 p.2.1, .int .i64 p.2.2] 52)).drew.drew)
      have hA := (Below.refl (w.setCell ⟨R, 0, none⟩ (.slice (some ⟨g, 0, none⟩) n cap)).heap.size (w.setCell ⟨R, 0, none⟩ (.slice (some ⟨g, 0, none⟩) n cap))).alloc (Nat.le_refl _) (.cells #[.int .i64 p.1, .int .i64 p.2.1, .int .i64 p.2.2] 52)
      refine ⟨hbl, fun k hk hne _ => (hA.block k (by rw [World.size_setCell]; exact hk)).trans (heap_o hne), fun k ⟨v, hv', e⟩ => .inl ⟨_, hv, ?_⟩⟩
      have q := (hA.cell (p := ⟨R, 0, none⟩) (by rw [World.size_setCell]; exact hR)).trans C3
      have q2 : some v = some (Value.slice (some ⟨g, 0, none⟩) n cap) := hv'.symm.trans q
      obtain rfl := Option.some.inj q2
      exact e
end Go.Proofs.Ytehpjipmlpaflaa.un
