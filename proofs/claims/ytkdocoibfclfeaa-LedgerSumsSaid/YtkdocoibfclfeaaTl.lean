import Derived.Test.YtkdocoibfclfeaaTj
import Derived.Test.YtkdocoibfclfeaaTi
import Derived.Sort.LoopGhostIn
namespace Go.Proofs.Ytkdocoibfclfeaa
open Go.ChangeShapes Go.WideShapes Go.ChangeAt Go.RowKit Go.Deep Go.Shelf Go.Maps Go.WideMaps Ytkdocoibfclfeaa.it
set_option linter.unusedSimpArgs false
set_option linter.unusedVariables false

attribute [local go_sem] Oper.semAt_some

def CopyPost (I : Nat → Prop) (S : LS) (w : World) (e : Ending) (w' : World) : Prop := ∃ F2, e = .returned (.pointer (some ⟨F2.b, 0, none⟩)) ∧ LObj I F2 S w' ∧ (∀ k, F2.own k → w.heap.size ≤ k) ∧ Below w.heap.size w w'
theorem take_names {A : List Acc} (hn : (nms A).Nodup) {j : Nat} (hj : j < A.length) : idx (nms (A.take j)) (accAt0 A j).name = none := by
  rw [idx_none, show nms (A.take j) = (nms A).take j by simp [nms]]
  intro h
  obtain ⟨i, hi⟩ := List.getElem?_of_mem h
  have hi' : i < j := by
    rcases Nat.lt_or_ge i j with q | q
    · exact q
    · rw [List.getElem?_eq_none (by rw [List.length_take]; omega)] at hi; cases hi
  rw [List.getElem?_take_of_lt hi'] at hi
  have h2 : (nms A)[j]? = some (accAt0 A j).name := by simp [nms, accAt0_get hj]
  have := (idx_at hn hi).symm.trans (idx_at hn h2)
  have : i = j := Option.some.inj this
  omega
theorem own_zero {w : World} {base : Nat} {e : TypeId} {size : Nat} {v : Value} {n : Nat} {xs : List Value} (h : w.ownsRow base e size v n xs) : w.ownsRow 0 e size v n xs := by
  refine ⟨h.1, h.2.imp id ?_⟩
  rintro ⟨g, cap, cur, e, _, r⟩
  exact ⟨g, cap, cur, e, Nat.zero_le _, r⟩
theorem LObj.notDef {I : Nat → Prop} {F : Fp} {S : LS} {w : World} {D : Nat} {l : Option (List Deferred)} (h : LObj I F S w) (hD : w.heap[D]? = some (.deferred l)) : ¬ F.own D := by
  intro hk
  rcases hk with rfl | rfl | rfl | rfl | q | q
  · have := h.b0; simp [World.cell?, hD] at this
  · have := h.t0; simp [World.cell?, hD] at this
  · obtain ⟨es, ck, e⟩ := h.am.isMap; rw [hD] at e; cases e
  · obtain ⟨es, ck, e⟩ := h.mm.isMap; rw [hD] at e; cases e
  · rcases h.lr.2 with ⟨e, _⟩ | ⟨g, cap, cur, e, _, e2, _⟩
    · rw [e] at q; cases q
    · rw [e] at q; cases q; rw [hD] at e2; cases e2
  · obtain ⟨vs, hp, _⟩ := h.pr
    rcases hp.2 with ⟨e, _⟩ | ⟨g, cap, cur, e, _, e2, _⟩
    · rw [e] at q; cases q
    · rw [e] at q; cases q; rw [hD] at e2; cases e2
/-- the postings are others -/
theorem LObj.setPosts {I : Nat → Prop} {F : Fp} {A : List Acc} {ps0 ps : List (List Ent)} {v : Value} {vs : List Value} {w : World} (h : LObj I F ⟨A, ps0⟩ w) (hown : w.ownsRow 0 33 1 v ps.length vs) (hq : ∀ (i : Nat) (p : List Ent), ps[i]? = some p → ∃ u, vs[i]? = some u ∧ PostRow I w u p) (hd : ∀ k, v.ownBlock = some k → ¬ F.own k ∧ ¬ I k) : LObj I { F with pv := v } ⟨A, ps⟩ (w.setCell ⟨F.b, 2, none⟩ v) := by
  have hT : ∀ k, k ≠ F.b → (w.setCell ⟨F.b, 2, none⟩ v).heap[k]? = w.heap[k]? := fun k hk => heap_setCell_other _ _ _ _ hk
  have ap := h.ap
  have et := hT _ ap.bt.symm
  have ea := hT _ ap.ba.symm
  have em := hT _ ap.bm.symm
  refine ⟨?_, ?_, ?_, fun o => (World.frozen?_setCell _ _ _ _).trans (h.bf o), cell_stay h.t0 et, cell_stay h.t1 et, cell_stay h.t2 et, fro_stay h.tf et, own_stays h.lr (fun k q => hT k (ap.l k q).1), ⟨vs, own_stays hown (fun k q => hT k (fun e => (hd k q).1 (.inl e))), fun i p e => ?_⟩, h.am.stays (by simp) ea, h.mm.stays (by simp) em, ⟨ap.bt, ap.ba, ap.bm, ap.ta, ap.tm, ap.am, fun k q => ?_, fun k q => ?_⟩, fun k q hi => ?_, fun k hi => by simpa using h.ilt k hi⟩
  · have := h.b0
    simpa [go_sem] using this
  · have := h.b1
    simpa [go_sem] using this
  · exact World.cell?_setCell_same' w ⟨F.b, 2, none⟩ _ (by rw [h.b2]; rfl)
  · obtain ⟨u, e1, e2, e3⟩ := hq i p e
    exact ⟨u, e1, own_stays e2 (fun k q => hT k (fun e => h.imm k (.inl e) (e3 k q))), e3⟩
  · have := ap.l k q
    exact ⟨this.1, this.2.1, this.2.2.1, this.2.2.2.1, fun e => (hd k e).1 (.inr (.inr (.inr (.inr (.inl q)))))⟩
  · have := (hd k q).1
    exact ⟨fun e => this (.inl e), fun e => this (.inr (.inl e)), fun e => this (.inr (.inr (.inl e))), fun e => this (.inr (.inr (.inr (.inl e))))⟩
  · rcases q with q | q | q | q | q | q
    · exact h.imm k (.inl q) hi
    · exact h.imm k (.inr (.inl q)) hi
    · exact h.imm k (.inr (.inr (.inl q))) hi
    · exact h.imm k (.inr (.inr (.inr (.inl q)))) hi
    · exact h.imm k (.inr (.inr (.inr (.inr (.inl q))))) hi
    · exact (hd k q).2 hi
/-- no panic is waited for -/
def noPan (Q : Exit → Act → World → Prop) : Exit → Act → World → Prop
  | .panic _, _, _ => False
  | e, a, w => Q e a w
theorem wpIn_noPan {F : Fence} {n : Nat} {P : Program} {c : Code} {Q : Exit → Act → World → Prop} {a : Act} {w : World} (h : c.wpIn F n P (noPan Q) a w) : c.wpIn F n P Q a w :=
  Code.wpIn_mono (fun e a w q => by cases e <;> first | exact q | exact q.elim) h
set_option maxRecDepth 100000 in
set_option maxHeartbeats 8000000 in
theorem Copy_c (I : Nat → Prop) (F : Fp) (S : LS) (w : World) (h : LObj I F S w) (hS : Fine S) : Calls Try.prog 14 #[.pointer (some ⟨F.b, 0, none⟩)] w (CopyPost I S w) := by
  have H := hide h
  have HS := hide hS.snd
  have HP := hide hS.few
  clear h hS
  refine (callsIn_wide (n := 3)).1 ?_
  refine callsIn_of_wp_marks Try.func14 rfl trivial ?_ rfl
  simp only [Try.ntmps14, List.size_toArray, List.length_cons, List.length_nil, Nat.reduceAdd, Nat.reduceSub, Array.replicate_succ, Array.replicate_zero, List.push_toArray, List.append_toArray, List.nil_append, List.cons_append]
  gi_wp2_with fail
  refine (callsIn_wide.2 (isLedger w F.b F.t H.out.b0)).mono ?_
  rintro e w' ⟨rfl, rfl⟩
  gi_wp2_with fail
  refine (callsIn_wide.2 (New_c w)).mono ?_
  rintro e w1 ⟨rfl, hw1⟩
  have hb1 : Below w.heap.size w w1 := by rw [hw1]; (focus repeat' (first | (with_reducible exact Below.refl _ _) | (with_reducible assumption) | (with_reducible refine Below.alloc ?_ ?_ _) | (with_reducible refine Below.drew ?_) | (with_reducible refine bdrewN ?_ _) | (with_reducible refine Below.setCell ?_ ?_ _) | (first | (with_reducible exact Nat.le_refl _) | (with_reducible assumption) | omega | (simp; omega) | (simp; done))))
  have HN1 := hide (show LObj I (newFp w.heap.size) ⟨[], []⟩ w1 from hw1 ▸ New_obj I w H.out.ilt)
  have hz1 : w.heap.size + 4 ≤ w1.heap.size := by rw [hw1]; simp
  have HB1 := hide hb1
  clear hb1 hw1
  obtain ⟨w2, hw2⟩ : ∃ w2, w2 = w1.alloc (.cells #[.pointer (some ⟨w.heap.size + 3, 0, none⟩)] 25) := ⟨_, rfl⟩
  have hb2 : Below w1.heap.size w1 w2 := by rw [hw2]; (focus repeat' (first | (with_reducible exact Below.refl _ _) | (with_reducible assumption) | (with_reducible refine Below.alloc ?_ ?_ _) | (with_reducible refine Below.drew ?_) | (with_reducible refine bdrewN ?_ _) | (with_reducible refine Below.setCell ?_ ?_ _) | (first | (with_reducible exact Nat.le_refl _) | (with_reducible assumption) | omega | (simp; omega) | (simp; done))))
  have hz2 : w1.heap.size + 1 ≤ w2.heap.size := by rw [hw2]; simp
  have HB2 := hide (bstep HB1.out hb2)
  have c2 : w2.cell? ⟨w1.heap.size, 0, none⟩ = some (.pointer (some ⟨w.heap.size + 3, 0, none⟩)) := by rw [hw2]; simp [go_sem]
  have f2 : w2.frozen? ⟨w1.heap.size, 0, none⟩ = false := by rw [hw2]; simp [go_sem]
  have HN2 := hide (HN1.out.below hb2)
  gi_wp2_with fail
  rw [← hw2]
  clear hw2 hb2 HN1 HB1
  refine (callsIn_wide.2 (Accounts_c I F S _ (H.out.below HB2.out) HS.out.few)).mono ?_
  rintro e w5 ⟨Bx, g, rfl, hac, hb5⟩
  have hz5 := hb5.size
  have HB5 := hide (bstep HB2.out hb5)
  have HAC := hide hac
  have hlb := hac.lb
  have hlg := hac.lg
  have hlt := hac.lts
  have HI0 := hide (show CI w I S.acc w1.heap.size Bx g w5.heap.size (w.heap.size + 3) 0 w5 from ⟨⟨newFp w.heap.size, HN2.out.below hb5, rfl, by show w.heap.size + 1 < _; omega, by show w.heap.size < _; omega, by show w.heap.size + 2 < _; omega, fun k hk => by
    have hk2 := HN2.out.lt hk
    have hk3 : w.heap.size ≤ k ∧ k < w1.heap.size := by
      rcases hk with q | q | q | q | q | q
      · have q' : k = w.heap.size + 3 := q; omega
      · have q' : k = w.heap.size + 1 := q; omega
      · have q' : k = w.heap.size := q; omega
      · have q' : k = w.heap.size + 2 := q; omega
      · cases q
      · cases q
    omega⟩, cell_stay c2 (hb5.block _ (by omega)), fro_stay f2 (hb5.block _ (by omega))⟩)
  clear hac hb5 c2 f2 HB2 HN2
  gi_wp2_with fail
  refine range_X (n := 3) (by decide) (gf := 53) (lb := #[.pointer (some ⟨Bx, 0, none⟩)]) rfl (enters_of Try.func53 (by kernel_rfl) rfl)
    (acc_seqX 2 (by decide) HAC.out HS.out.few) (fun i hi => by rcases hi with rfl | rfl <;> omega) (Below.refl _ _) (fun _ => rfl)
    (fun pre W => (∃ j, j ≤ S.acc.length ∧ pre = upto (numA S.acc) j ∧ CI w I S.acc w1.heap.size Bx g w5.heap.size (w.heap.size + 3) j W) ∧ w5.heap.size ≤ W.heap.size ∧ Below w.heap.size w W) (fun _ _ _ => False)
    ?ext (fun _ _ _ _ hs _ => hs) ?putl (fun _ _ _ _ _ hs _ => hs)
    ⟨⟨0, Nat.zero_le _, rfl, HI0.out⟩, Nat.le_refl _, HB5.out⟩
    (fun pre x a' W => ∃ j By, j < S.acc.length ∧ pre = upto (numA S.acc) j ∧ x = numA S.acc j ∧ w5.heap.size + 2 ≤ By ∧ By < W.heap.size ∧ BoxH W By x.2 ∧ a' = { tmps := #[.pointer (some ⟨F.b, 0, none⟩), undef, .pointer none, .pointer (some ⟨w1.heap.size, 0, none⟩), undef, .pointer (some ⟨By, 0, none⟩), undef, undef, .pointer (some ⟨F.b, 0, none⟩), .bool false, .pointer (some ⟨w.heap.size + 3, 0, none⟩), .pointer (some ⟨F.b, 0, none⟩), .func (.func 53) #[] #[.pointer (some ⟨Bx, 0, none⟩)], .int .i64 (x.1 : Int), .agg #[.string x.2.name, .int .i64 x.2.least, .int .i64 x.2.has], undef, undef, undef, undef, undef, undef, undef, undef, undef, undef, undef, undef, undef, undef, undef, undef, undef, undef, undef, undef, undef, undef, undef, undef], defers := [] })
    (fun pre x a' W o hx => ?_) ?assign ?body ?done ?stop
  case ext =>
    rintro s W W' ⟨⟨j, h1, h2, h3⟩, hz, hB⟩ hb
    exact ⟨⟨j, h1, h2, h3.below hb⟩, Nat.le_trans hz hb.size, hB.trans (hb.mono hB.size)⟩
  case putl =>
    rintro s W lo lo' ⟨⟨j, h1, h2, h3⟩, hz, hB⟩ hlo
    refine ⟨⟨j, h1, h2, ?_⟩, by simpa using hz, below_putL hB (by omega) _⟩
    obtain ⟨Fc, q1, q2⟩ := h3.ex
    have hne := cell_noloop h3.c hlo
    exact ⟨⟨Fc, q1.putL hlo, q2⟩, (cell_put hne).trans h3.c, (fro_put hne).trans h3.cf⟩
  · obtain ⟨j, By, h1, h2, h3, h4, h5, h6, h7⟩ := hx
    exact ⟨j, By, h1, h2, h3, h4, by simpa using h5, h6.put (by omega) o, h7⟩
  case assign =>
    rintro l pre x W K' hI ⟨j, hj, rfl, rfl⟩ hlt2 hK
    gi_wp2
    have hb := (Below.refl W.heap.size W).alloc (Nat.le_refl _) (.cells #[.string (numA S.acc j).2.name, .int .i64 (numA S.acc j).2.least, .int .i64 (numA S.acc j).2.has] 70)
    refine hK _ _ (KeepsOthers.alloc _ _) (Fix.of_below hb) ?_ ⟨j, W.heap.size, hj, rfl, rfl, by omega, by simp, BoxH.new W _, rfl⟩
    obtain ⟨⟨j2, h1, h2, h3⟩, hz, hB⟩ := hI
    exact ⟨⟨j2, h1, h2, h3.below hb⟩, Nat.le_trans hz hb.size, hB.trans (hb.mono hB.size)⟩
  case body =>
    rintro l pre x a' W ⟨⟨j2, hj2, hp2, hCI⟩, hz, hB⟩ hlt2 ⟨j, By, hj, rfl, rfl, hBy, hByz, hbx, rfl⟩
    obtain rfl : j = j2 := by
      have := congrArg List.length hp2
      rw [upto_length, upto_length] at this
      exact this
    have HUP := hide (upto_succ (numA S.acc) j)
    obtain ⟨a, ha⟩ : ∃ a, a = accAt0 S.acc j := ⟨_, rfl⟩
    have hga := HS.out.good a (by rw [ha]; exact accAt0_mem hj)
    have HTA := hide (show S.acc.take (j + 1) = S.acc.take j ++ [a] by rw [take_snocA _ _ hj, ha])
    have HLN := hide (show (S.acc.take j).length = j by simp; omega)
    have hidx : idx (nms (S.acc.take j)) a.name = none := by rw [ha]; exact take_names HS.out.nd hj
    have hbx' : BoxH W By a := by rw [ha]; exact hbx
    obtain ⟨Fc, ho, hbn, hbt, hba, hbm, hown⟩ := hCI.ex
    have q := Open_ok I Fc ⟨S.acc.take j, []⟩ a.name a.least W ho hga.1 hga.2.1 hga.2.2.1 hidx (by have := HS.out.few; rw [HLN.out]; omega)
    rw [hbn] at q
    have HQ := hide q
    have HBX := hide hbx'
    have HO := hide ho
    have HFC := hide (show Fc.b = w.heap.size + 3 ∧ Fc.t < w5.heap.size ∧ Fc.a < w5.heap.size ∧ Fc.m < w5.heap.size ∧ Fc.b < w5.heap.size from ⟨hbn, hbt, hba, hbm, by omega⟩)
    have HOWN := hide hown
    have HCI := hide hCI
    have HBW := hide hB
    have HZ := hide hz
    have cc := hCI.c
    have b0 := hbx'.a.1
    have b1 := hbx'.a.2.1
    rw [show (numA S.acc j).2 = a from ha.symm, show (numA S.acc j).1 = j from rfl]
    clear hga hidx hbx' hbx hCI ho hbn hbt hba hbm hown q hp2 hB hz ha
    gi_wp2_with fail
    refine (CallsIn.inRound l (callsIn_wide.2 HQ.out)).mono ?_
    rintro e W2 ⟨rfl, F2, ho2, hs2⟩
    rw [show ((⟨S.acc.take j, []⟩ : LS).acc.length : Int) = (j : Int) by rw [HLN.out]]
    have HO2 := hide ho2
    have HS2 := hide hs2
    have hcz := World.block_lt_of_cell? W _ cc
    have hbz := World.block_lt_of_cell? W _ b0
    have hz2 := hs2.size
    have x0 : W2.cell? ⟨w1.heap.size, 0, none⟩ = some (.pointer (some ⟨w.heap.size + 3, 0, none⟩)) := cell_stay cc (hs2.keep _ hcz (fun q => (HOWN.out _ q).2.1 rfl))
    have hB2 : BoxH W2 By a := (hs2.keep _ hbz (HO.out.notBox HBX.out)).trans HBX.out
    have x1 : W2.cell? ⟨w.heap.size + 3, 1, none⟩ = some (.map (some F2.m)) := by have := ho2.b1; rw [hs2.b, HFC.out.1] at this; exact this
    have hlt0 : w1.heap.size < W2.heap.size := by omega
    have hlt1 : By < W2.heap.size := by omega
    have hlt2' := World.block_lt_of_cell? W2 _ x1
    have a0 : ∀ m : Aft W2, m.w.cell? ⟨w1.heap.size, 0, none⟩ = some (.pointer (some ⟨w.heap.size + 3, 0, none⟩)) := fun m => (m.le.cell (p := ⟨w1.heap.size, 0, none⟩) hlt0).trans x0
    have a1 : ∀ m : Aft W2, m.w.cell? ⟨w.heap.size + 3, 1, none⟩ = some (.map (some F2.m)) := fun m => (m.le.cell (p := ⟨w.heap.size + 3, 1, none⟩) hlt2').trans x1
    have a2 : ∀ m : Aft W2, m.w.cell? ⟨By, 0, none⟩ = some (.string a.name) := fun m => (m.le.cell (p := ⟨By, 0, none⟩) hlt1).trans hB2.a.1
    have a3 : ∀ m : Aft W2, m.w.cell? ⟨By, 1, none⟩ = some (.int .i64 a.least) := fun m => (m.le.cell (p := ⟨By, 1, none⟩) hlt1).trans hB2.a.2.1
    have a4 : ∀ m : Aft W2, m.w.cell? ⟨By, 2, none⟩ = some (.int .i64 a.has) := fun m => (m.le.cell (p := ⟨By, 2, none⟩) hlt1).trans hB2.a.2.2
    clear ho2 hs2 x0 x1 hB2 cc b0 b1
    gi_wp2_with fail
    refine wpIn_region_after_tail 6 (by kernel_rfl) (by kernel_rfl) (by kernel_rfl) ?_
    simp only [List.take_succ_cons, List.take_zero, List.drop_succ_cons, List.drop_zero]
    repeat (gi_big_quiet_step (fail))
    refine wpQuietIn_nil ?_
    intro _ hw'
    obtain ⟨m, hw''⟩ := hw'
    subst hw''
    have HMM := hide (show MapIs Try.prog 3 m.w F2.m (S.acc.take j ++ [(⟨a.name, a.least, 0⟩ : Acc)]).length (accAt (S.acc.take j ++ [⟨a.name, a.least, 0⟩])) from HO2.out.mm.stays m.le.size (m.le.block _ HO2.out.mm.lt))
    gi_wp2_with (gi_at_mapUpdate; refine wpListIn_mapUpdate_is _ rfl _ _ _ 57 rfl 3 70 law3 Try.underlying57 F2.m _ _ rfl HMM.out (by rw [List.length_append, HLN.out]; have := HS.out.few; unfold maxLen; simp; omega) _ _ _ rfl rfl (keyOf_int_mk Try.underlying3 (wf_small (by have := HS.out.few; omega))) ?_; intro W3 hm3 ht3; have HM3 := hide hm3; have HT3 := hide ht3; clear hm3 ht3)
    have hm3 := HM3.out
    have hset : (S.acc.take j ++ [(⟨a.name, a.least, 0⟩ : Acc)]).set j a = S.acc.take j ++ [a] := by
      rw [List.set_append, if_neg (by rw [HLN.out]; omega), HLN.out, Nat.sub_self]; rfl
    have hsome : (accAt (S.acc.take j ++ [(⟨a.name, a.least, 0⟩ : Acc)]) (.int .i64 (j : Int))).isSome = true := by
      rw [accAt_nat, List.getElem?_append_right (by rw [HLN.out]; omega), HLN.out, Nat.sub_self]; rfl
    rw [hsome, if_pos rfl, show (S.acc.take j ++ [(⟨a.name, a.least, 0⟩ : Acc)]).length = (S.acc.take j).length + 1 by simp] at hm3
    have hm4 := hm3.ext (fun x => acc_set (A := S.acc.take j ++ [(⟨a.name, a.least, 0⟩ : Acc)]) (a := a) (i := j) (by rw [List.length_append, HLN.out]; simp) x)
    rw [hset] at hm4
    have hobj : LObj I F2 ⟨S.acc.take (j + 1), []⟩ W3 := by
      rw [HTA.out]
      exact (HO2.out.below m.le).setHas (s := a.name) (l := a.least) (h0 := 0) (h1 := a.has) hm4 HT3.out
    have hF2 : ∀ k, F2.own k → w.heap.size ≤ k ∧ k ≠ w1.heap.size ∧ k ≠ Bx ∧ k ≠ g := fun k hk => by
      rcases HS2.out.own k hk with q | q
      · exact HOWN.out k q
      · have := HZ.out; omega
    have hFm : F2.own F2.m := .inr (.inr (.inr (.inl rfl)))
    have e3 : ∀ k, k < W.heap.size → ¬ Fc.own k → k ≠ F2.m → W3.heap[k]? = W.heap[k]? := fun k hk h1 h2 =>
      (turned_heap HT3.out h2 (by have := m.le.size; omega)).trans ((m.le.block k (by omega)).trans (HS2.out.keep k hk h1))
    have hm0 : F2.m = Fc.m := HS2.out.m
    refine ⟨((keeps_step HO.out HS2.out HFC.out.2.1 HFC.out.2.2.1 HFC.out.2.2.2.1 HFC.out.2.2.2.2).trans ⟨m.le.size, fun k o _ hk _ => (m.le.block k (Array.getElem?_eq_some_iff.1 hk).1).trans hk⟩).trans (KeepsFrom.of_grownBy HT3.out.grown (fun k hk => by cases hk; rw [hm0]; exact HFC.out.2.2.2.1)), ⟨by have := m.le.size; have := HT3.out.grown.size; omega, fun i hi hl => ?_⟩, ⟨j + 1, by omega, HUP.out.symm, ⟨⟨F2, hobj, HS2.out.b.trans HFC.out.1, by rw [HS2.out.t]; exact HFC.out.2.1, by rw [HS2.out.a]; exact HFC.out.2.2.1, by rw [HS2.out.m]; exact HFC.out.2.2.2.1, hF2⟩, ?_, ?_⟩⟩, ?_, ?_⟩
    · refine e3 i hl (fun q => ?_) (fun q => ?_)
      · have := HOWN.out i q
        rcases hi with rfl | rfl
        · exact this.2.2.1 rfl
        · exact this.2.2.2 rfl
      · have := hF2 _ hFm
        rcases hi with rfl | rfl
        · exact this.2.2.1 q.symm
        · exact this.2.2.2 q.symm
    · exact cell_stay HCI.out.c (e3 _ hcz (fun q => (HOWN.out _ q).2.1 rfl) (fun q => (hF2 _ hFm).2.1 q.symm))
    · exact fro_stay HCI.out.cf (e3 _ hcz (fun q => (HOWN.out _ q).2.1 rfl) (fun q => (hF2 _ hFm).2.1 q.symm))
    · have := m.le.size; have := HT3.out.grown.size; have := HZ.out; omega
    · have hst : Below w.heap.size w W2 := HBW.out.trans (HS2.out.below (fun k hk => (HOWN.out k hk).1) HBW.out.size)
      have hst2 : Below w.heap.size w m.w := hst.trans (m.le.mono hst.size)
      exact hst2.grown HT3.out.grown hst2.size (fun k hk => by cases hk; exact (hF2 _ hFm).1)
  case done =>
    rintro D ys W hD rfl ⟨⟨j, hj, hp, hCI⟩, hz, hB⟩ hKd
    obtain rfl : j = S.acc.length := by
      have := congrArg List.length hp
      rw [upto_length, upto_length] at this
      exact this.symm
    obtain ⟨Fc, ho, hbn, -, -, -, hown⟩ := hCI.ex
    rw [List.take_length] at ho
    have HW := hide (H.out.below hB)
    obtain ⟨vs, hrow, hone, hposts⟩ := (H.out.below hB).rows
    obtain ⟨pa, pc, hpv⟩ := own_any hrow
    have HPV := hide hpv
    have HROW := hide (show W.ownsRow 0 33 1 (.slice pa S.posts.length pc) S.posts.length vs by rw [← hpv]; exact hrow)
    have ONE := hide hone
    have HPO := hide hposts
    have b2 : W.cell? ⟨F.b, 2, none⟩ = some (.slice pa S.posts.length pc) := by rw [← hpv]; exact (H.out.below hB).b2
    have cc := hCI.c
    have n2 : W.cell? ⟨w.heap.size + 3, 2, none⟩ = some Fc.pv := by have := ho.b2; rw [hbn] at this; exact this
    have nf : W.frozen? ⟨w.heap.size + 3, 2, none⟩ = false := by have := ho.bf 2; rw [hbn] at this; exact this
    have cz := World.block_lt_of_cell? W _ cc
    have nz := World.block_lt_of_cell? W _ n2
    have bz := World.block_lt_of_cell? W _ b2
    have dz := (Array.getElem?_eq_some_iff.1 hKd).1
    have hpl := HS.out
    have HO := hide ho
    have HBN := hide hbn
    have HOWN := hide hown
    have HB := hide hB
    have HKD := hide hKd
    clear ho hbn hown hB hKd hrow hone hposts hpv hCI hp
    gi_wp2_with fail
    refine wpIn_noPan ?_
    gi_region_with (refine (callsIn_wide.2 (Clone30_c _ _ 0 vs _ HP.out (own_stays HROW.out (fun k hk => (drewB _).block _ (HROW.out.lt k hk).2)) ONE.out)).mono ?_; rintro e w6 ⟨v6, rfl, own6, hb6⟩; obtain ⟨a6, p6, rfl⟩ := own_any own6; have O6 := hide own6; have HB6 := hide (bstep (drewB _) hb6); have c6 := cell_stay cc (HB6.out.block _ cz); have n6 := cell_stay n2 (HB6.out.block _ nz); have f6 := fro_stay nf (HB6.out.block _ nz); clear own6 hb6)
    all_goals
      show Exit.then _ (bodyPostM Fence.wide 3 Try.prog Try.f14 (CopyPost I S w)) Exit.normal _ _
      have dx : w1.heap.size ≠ w.heap.size + 3 := by omega
      have dz6 := HB6.out.size
      gi_wp2
      obtain ⟨V, hV⟩ : ∃ V, V = w6.setCell ⟨w.heap.size + 3, 2, none⟩ (.slice a6 S.posts.length p6) := ⟨_, rfl⟩
      rw [← hV]
      have hoth : ∀ k, k ≠ w.heap.size + 3 → V.heap[k]? = w6.heap[k]? := fun k hk => by rw [hV]; exact heap_setCell_other _ _ _ _ hk
      have hK' : V.heap[D]? = some (.deferred (some [])) := (hoth D (by omega)).trans ((HB6.out.block D dz).trans HKD.out)
      refine ⟨by simp, .inl ⟨_, _, rfl, run_takeDeferred hK', ?_⟩⟩
      have h6 := HO.out.below HB6.out
      have n6' : ∀ k, (Value.slice a6 S.posts.length p6).ownBlock = some k → W.heap.size ≤ k := fun k hk => (O6.out.lt k hk).1
      have hset : LObj I { Fc with pv := .slice a6 S.posts.length p6 } S V := by
        have q := h6.setPosts (ps := S.posts) (own_zero O6.out) (fun i p hp => by
          obtain ⟨v, e1, e2, e3⟩ := HPO.out i p hp
          exact ⟨v, e1, own_stays e2 (fun k hk => HB6.out.block k (HO.out.ilt k (e3 k hk))), e3⟩) (fun k hk => ⟨fun q => by have := HO.out.lt q; have := n6' k hk; omega, fun q => by have := HO.out.ilt k q; have := n6' k hk; omega⟩)
        rw [hV, ← HBN.out]
        exact q
      have hV0 : Below w.heap.size w V := by rw [hV]; exact (HB.out.trans (HB6.out.mono HB.out.size)).setCell (p := ⟨w.heap.size + 3, 2, none⟩) (by show w.heap.size ≤ w.heap.size + 3; omega) _
      have hvz := hV0.size
      refine ⟨.pointer (some ⟨w.heap.size + 3, 0, none⟩), ?_, { Fc with pv := .slice a6 S.posts.length p6 }, by rw [← HBN.out], ?_, ?_, hV0.trans (belowK_b (w := w) (Nat.le_refl _) _ D _ _ (by omega) hK' rfl rfl)⟩
      · clear hV
        simp [results, Try.f14, go_sem]
      · have hnd := hset.notDef hK'
        refine hset.stays (by simp) (fun k q => World.putObj_heap_other (fun e => ?_)) (fun _ q => q) (fun _ q n => absurd q n)
        subst e
        rcases q with q | q
        · exact hnd q
        · have := H.out.ilt k q; omega
      · intro k hk
        rcases hk with q | q | q | q | q | q
        · exact (HOWN.out k (.inl q)).1
        · exact (HOWN.out k (.inr (.inl q))).1
        · exact (HOWN.out k (.inr (.inr (.inl q)))).1
        · exact (HOWN.out k (.inr (.inr (.inr (.inl q))))).1
        · exact (HOWN.out k (.inr (.inr (.inr (.inr (.inl q)))))).1
        · have := n6' k q; omega
  case stop =>
    rintro D c pre W hD _ hx _
    exact hx.elim
end Go.Proofs.Ytkdocoibfclfeaa
