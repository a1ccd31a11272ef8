/- Contracts of the layer's functions, each proved once, in the order in which they are used. No condition beyond each theorem's own. -/
import Derived.Test.YtkdocoibfclfeaaMf
import Derived.Test.YtkdocoibfclfeaaMc
import Derived.Sort.LoopGhostIn
import Derived.RangeFuncWrites
import Derived.Sort.QuietIn
import Derived.Sort.BigQuietIn
namespace Go.Proofs.Ytkdocoibfclfeaa
open Go.ChangeShapes Go.WideShapes Go.ChangeAt Go.RowKit Go.Deep Go.Shelf Go.Maps Go.WideMaps Ytkdocoibfclfeaa.it
set_option linter.unusedSimpArgs false
set_option linter.unusedVariables false

attribute [local go_sem] Oper.semAt_some

set_option maxRecDepth 100000 in
set_option maxHeartbeats 4000000 in
theorem told_law (I : Nat → Prop) (F : Fp) (R : RP) (S : LS) (x : Int) (w : World) (h : LObj I F S w) (hr : RObj I R S w) (hS : Fine S) (hA : Agree S) : Calls Try.prog 17 #[.pointer (some ⟨F.b, 0, none⟩), .pointer (some ⟨R.r, 0, none⟩), .int .i64 x] w fun e w' => e = .returned (.bool true) ∧ Below w.heap.size w w' := by
  obtain ⟨R, nv, lv, pv⟩ := R
  obtain ⟨no, nc, hnv⟩ := own_any hr.nr
  obtain ⟨vs, hpr, hpq⟩ := hr.pr
  obtain ⟨po, pc, hpv⟩ := own_any hpr
  simp only at hnv hpv
  subst hnv
  subst hpv
  obtain ⟨W, hW⟩ : ∃ W, W = ((w.alloc (.cells #[.pointer (some ⟨R, 0, none⟩)] 43)).alloc (.cells #[.int .i64 x] 2)).alloc (.cells #[.bool false] 4) := ⟨_, rfl⟩
  have hbW : Below w.heap.size w W := by rw [hW]; (focus repeat' (first | (with_reducible exact Below.refl _ _) | (with_reducible assumption) | (with_reducible refine Below.alloc ?_ ?_ _) | (with_reducible refine Below.drew ?_) | (with_reducible refine bdrewN ?_ _) | (with_reducible refine Below.setCell ?_ ?_ _) | (first | (with_reducible exact Nat.le_refl _) | (with_reducible assumption) | omega | (simp; omega) | (simp; done))))
  have H := hide (h.below hbW)
  have HR := hide (hr.below hbW)
  have HS := hide hS
  have HA := hide hA
  have HBW := hide hbW
  have cl := hide (show W.cell? ⟨w.heap.size, 0, none⟩ = some (.pointer (some ⟨R, 0, none⟩)) by rw [hW]; simp [go_sem])
  have cx := hide (show W.cell? ⟨w.heap.size + 1, 0, none⟩ = some (.int .i64 x) by rw [hW]; simp [go_sem])
  have cr := hide (show W.cell? ⟨w.heap.size + 2, 0, none⟩ = some (.bool false) by rw [hW]; simp [go_sem])
  have fr := hide (show W.frozen? ⟨w.heap.size + 2, 0, none⟩ = false by rw [hW]; simp [go_sem])
  have HW := hide hW
  have Q1 := eql80k
  have Q2 := eql102k
  clear h hr hS hA hbW hW hpr hpq vs
  refine (callsIn_wide (n := 4)).1 ?_
  refine callsIn_of_wp_marks Try.func17 rfl trivial ?_ rfl
  simp only [Try.ntmps17, List.size_toArray, List.length_cons, List.length_nil, Nat.reduceAdd, Nat.reduceSub, Array.replicate_succ, Array.replicate_zero, List.push_toArray, List.append_toArray, List.nil_append, List.cons_append]
  refine (wpIn_wide (n := 4)).2 ?_
  go_wp2_with fail
  rw [← HW.out]
  refine (Len_c I F S W H.out).mono ?_
  rintro e w1 ⟨rfl, hb1⟩
  have HB1 := hide hb1
  clear hb1
  go_wp2_with fail
  refine (Accounts_c I F S w1 (H.out.below HB1.out) HS.out.snd.few).mono ?_
  rintro e w2 ⟨Bx, g, rfl, hac, hb2⟩
  have HAC := hide hac
  have HB2 := hide hb2
  clear hac hb2
  go_wp2_with fail
  refine (All_c I F S w2 ((H.out.below HB1.out).below HB2.out) HS.out.few).mono ?_
  rintro e w3 ⟨By, rfl, hit, hb3⟩
  have HIT := hide hit
  have HB3 := hide hb3
  have z1 := HB1.out.size
  have z2 := HB2.out.size
  have z3 := hb3.size
  have B3 : Below W.heap.size W w3 := HB1.out.trans ((HB2.out.mono z1).trans (hb3.mono (by omega)))
  have BZ3 := hide B3
  have HR3 := hide (HR.out.below B3)
  have CL := hide (cell_stay cl.out (B3.block _ (World.block_lt_of_cell? W _ cl.out)))
  have cl3 := CL.out
  have c0 := HR3.out.c0
  have c2 := HR3.out.c2
  simp only at c0 c2
  have n1 : ((S.acc.length : Int) != (S.acc.length : Int)) = false := by simp
  have n2 : ((S.posts.length : Int) != (S.posts.length : Int)) = false := by simp
  have n3 : decide ((S.acc.length : Int) = (S.acc.length : Int)) = true := by simp
  have n4 : decide ((S.posts.length : Int) = (S.posts.length : Int)) = true := by simp
  clear hit hb3 B3
  go_wp2_with fail
  clear n1 n2 n3 n4 c0 c2 cl3 Q1 Q2

  have CX := hide (cell_stay cx.out (BZ3.out.block _ (World.block_lt_of_cell? W _ cx.out)))
  have CR := hide (cell_stay cr.out (BZ3.out.block _ (World.block_lt_of_cell? W _ cr.out)))
  have FRR := hide (fro_stay fr.out (BZ3.out.block _ (World.block_lt_of_cell? W _ cr.out)))
  have B8 := hide (HBW.out.trans (BZ3.out.mono HBW.out.size))
  have zw0 : w.heap.size + 2 < w3.heap.size := World.block_lt_of_cell? w3 _ CR.out
  have H3 := hide (H.out.below BZ3.out)
  obtain ⟨K, k1, k2, hseq⟩ := all_seqW 3 (by decide) HIT.out HA.out.few (fun p hp => (HS.out.frm p hp).2.1) (fun k hk => H3.out.ilt k hk)
  have HK1 := hide k1
  have HSQ := hide hseq
  clear cx cr fr k1 k2 hseq HW HBW BZ3 H HIT HR
  refine (wpIn_wide (n := 4)).1 ?_
  refine loop_turns 2 (fun t a X => ∃ (bt : Nat) (Ds : List Nat) (q12 q13 q53 q54 q55 q56 q57 q92 q130 q131 q132 q133 q134 q135 q136 q137 q138 q139 q140 q141 q142 q143 q144 q145 q146 q147 q148 q149 q150 q151 q152 q153 q154 q155 q156 q157 q158 q159 q160 q161 q162 q163 q164 q165 q166 q167 q168 q169 q170 q171 q172 q173 q174 q175 q176 q177 q178 q179 q180 q181 q182 : Value), TI w3 bt (t : Int) Ds X ∧ Ds.length = t + t ∧ a = { tmps := #[Value.pointer (some ⟨F.b, 0, none⟩), Value.pointer (some ⟨R, 0, none⟩), Value.int .i64 x, undef, Value.pointer (some ⟨w.heap.size, 0, none⟩), Value.pointer (some ⟨w.heap.size + 1, 0, none⟩), Value.pointer (some ⟨w.heap.size + 1 + 1, 0, none⟩), Value.int .i64 (S.acc.length : Int), Value.int .i64 (S.posts.length : Int), Value.func (Fn.func 53) #[] #[Value.pointer (some ⟨Bx, 0, none⟩)], Value.func (Fn.func 59) #[] #[Value.pointer (some ⟨By, 0, none⟩)], Value.pointer (some ⟨bt, 0, none⟩), q12, q13, undef, undef, undef, undef, undef, undef, Value.tuple #[Value.int .i64 (S.acc.length : Int), Value.int .i64 (S.posts.length : Int)], Value.pointer (some ⟨F.b, 0, none⟩), Value.tuple #[Value.int .i64 (S.acc.length : Int), Value.int .i64 (S.posts.length : Int)], Value.int .i64 (S.acc.length : Int), Value.int .i64 (S.posts.length : Int), Value.pointer (some ⟨F.b, 0, none⟩), Value.func (Fn.func 53) #[] #[Value.pointer (some ⟨Bx, 0, none⟩)], Value.pointer (some ⟨F.b, 0, none⟩), Value.func (Fn.func 59) #[] #[Value.pointer (some ⟨By, 0, none⟩)], Value.func (Fn.func 53) #[] #[Value.pointer (some ⟨Bx, 0, none⟩)], Value.bool false, Value.bool false, Value.func (Fn.func 59) #[] #[Value.pointer (some ⟨By, 0, none⟩)], Value.bool false, Value.bool false, Value.bool false, Value.int .i64 (S.acc.length : Int), Value.pointer (some ⟨R, 0, none⟩), Value.pointer (some ⟨R, 0, none⟩), Value.pointer (some ⟨R, 0, none⟩), Value.slice no S.acc.length nc, Value.int .i64 (S.acc.length : Int), Value.bool false, Value.bool false, Value.bool false, Value.int .i64 (S.posts.length : Int), Value.pointer (some ⟨R, 0, none⟩), Value.pointer (some ⟨R, 0, none⟩), Value.pointer (some ⟨R, 2, none⟩), Value.slice po S.posts.length pc, Value.int .i64 (S.posts.length : Int), Value.bool false, Value.bool false, q53, q54, q55, q56, q57, undef, undef, undef, undef, undef, undef, undef, undef, undef, undef, undef, undef, undef, undef, undef, undef, undef, undef, undef, undef, undef, undef, undef, undef, undef, undef, undef, undef, undef, undef, undef, undef, undef, undef, q92, undef, undef, undef, undef, undef, undef, undef, undef, undef, undef, undef, undef, undef, undef, undef, undef, undef, undef, undef, undef, undef, undef, undef, undef, undef, undef, undef, undef, undef, undef, undef, undef, undef, undef, undef, undef, undef, q130, q131, q132, q133, q134, q135, q136, q137, q138, q139, q140, q141, q142, q143, q144, q145, q146, q147, q148, q149, q150, q151, q152, q153, q154, q155, q156, q157, q158, q159, q160, q161, q162, q163, q164, q165, q166, q167, q168, q169, q170, q171, q172, q173, q174, q175, q176, q177, q178, q179, q180, q181, q182], defers := Ds.map mk }) ?round ?last
    ⟨w3.heap.size, [], _, _, _, _, _, _, _, _, _, _, _, _, _, _, _, _, _, _, _, _, _, _, _, _, _, _, _, _, _, _, _, _, _, _, _, _, _, _, _, _, _, _, _, _, _, _, _, _, _, _, _, _, _, _, _, _, _, _, _, _, _, TI.first w3 0, rfl, rfl⟩
  case last =>
    rintro a W ⟨bt, Ds, q12, q13, q53, q54, q55, q56, q57, q92, q130, q131, q132, q133, q134, q135, q136, q137, q138, q139, q140, q141, q142, q143, q144, q145, q146, q147, q148, q149, q150, q151, q152, q153, q154, q155, q156, q157, q158, q159, q160, q161, q162, q163, q164, q165, q166, q167, q168, q169, q170, q171, q172, q173, q174, q175, q176, q177, q178, q179, q180, q181, q182, hTI, hDs, rfl⟩ K2
    obtain ⟨D4, D3, D2, D1, rfl⟩ : ∃ D4 D3 D2 D1, Ds = [D4, D3, D2, D1] := by
      match Ds, hDs with
      | [a, b, c, d], _ => exact ⟨a, b, c, d, rfl⟩
    have cturn : W.cell? ⟨bt, 0, none⟩ = some (.int .i64 2) := hTI.turn
    have K1 := hide (fun D hD => hTI.marks D hD)
    have hnd := hTI.nodup
    simp only [List.nodup_cons, List.mem_cons, List.not_mem_nil, not_or, or_false, List.nodup_nil, and_true, not_false_iff] at hnd
    have HND := hide hnd
    have C9 := hide (cell_stay CR.out (hTI.below.block _ (World.block_lt_of_cell? w3 _ CR.out)))
    have f9 := fro_stay FRR.out (hTI.below.block _ (World.block_lt_of_cell? w3 _ CR.out))
    have HB9 := hide (B8.out.trans (hTI.below.mono (by have := B8.out.size; omega)))
    have c9 := C9.out
    clear hTI hDs hnd
    gi_wp2
    try (refine (wpIn_wide (n := 4)).1 ?_; gi_wp2)
    have p1 : ∀ D, D ∈ [D4, D3, D2, D1] → (W.setCell ⟨w.heap.size + 2, 0, none⟩ (.bool true)).heap[D]? = some (.deferred (some [])) := fun D hD => (KeepsOthers.setCell W ⟨w.heap.size + 2, 0, none⟩ (.bool true)).same D _ (K1.out D hD).2 rfl
    have h9 : ∀ D, D ∈ [D4, D3, D2, D1] → w.heap.size ≤ D := fun D hD => by have := (K1.out D hD).1; omega
    have q4 := p1 D4 (by simp)
    have q3 := (World.putObj_heap_other (w := W.setCell ⟨w.heap.size + 2, 0, none⟩ (.bool true)) (o := .deferred none) (show D3 ≠ D4 from fun e => HND.out.1.1 e.symm)).trans (p1 D3 (by simp))
    have q2' := (World.putObj_heap_other (w := W.setCell ⟨w.heap.size + 2, 0, none⟩ (.bool true)) (o := .deferred none) (show D2 ≠ D4 from fun e => HND.out.1.2.1 e.symm)).trans (p1 D2 (by simp))
    have q1' := (World.putObj_heap_other (w := W.setCell ⟨w.heap.size + 2, 0, none⟩ (.bool true)) (o := .deferred none) (show D1 ≠ D4 from fun e => HND.out.1.2.2 e.symm)).trans (p1 D1 (by simp))
    have q2 := (World.putObj_heap_other (o := .deferred none) (show D2 ≠ D3 from fun e => HND.out.2.1.1 e.symm)).trans q2'
    have q1'' := (World.putObj_heap_other (o := .deferred none) (show D1 ≠ D3 from fun e => HND.out.2.1.2 e.symm)).trans q1'
    have q1 := (World.putObj_heap_other (o := .deferred none) (show D1 ≠ D2 from fun e => HND.out.2.2 e.symm)).trans q1''
    have hc4 := cell_kept (World.cell?_setCell_same' W ⟨w.heap.size + 2, 0, none⟩ (.bool true) (by rw [C9.out]; rfl)) (grownBy_putObj' _ D4 (.deferred none)) (fun r e => by cases e; exact ⟨_, q4, rfl⟩)
    have hc3 := cell_kept hc4 (grownBy_putObj' _ D3 (.deferred none)) (fun r e => by cases e; exact ⟨_, q3, rfl⟩)
    have hc2 := cell_kept hc3 (grownBy_putObj' _ D2 (.deferred none)) (fun r e => by cases e; exact ⟨_, q2, rfl⟩)
    have hc1 := cell_kept hc2 (grownBy_putObj' _ D1 (.deferred none)) (fun r e => by cases e; exact ⟨_, q1, rfl⟩)
    refine ⟨by simp, .inl ⟨_, _, rfl, run_takeDeferred q4, ?_⟩⟩
    refine ⟨by simp, .inl ⟨_, _, rfl, run_takeDeferred q3, ?_⟩⟩
    refine ⟨by simp, .inl ⟨_, _, rfl, run_takeDeferred q2, ?_⟩⟩
    refine ⟨by simp, .inl ⟨_, _, rfl, run_takeDeferred q1, ?_⟩⟩
    refine ⟨.bool true, ?_, rfl, ((((HB9.out.setCell (p := ⟨w.heap.size + 2, 0, none⟩) (by simp) _).trans (belowK_b (w := w) (Nat.le_refl _) _ D4 _ _ (h9 _ (by simp)) q4 rfl rfl)).trans (belowK_b (w := w) (Nat.le_refl _) _ D3 _ _ (h9 _ (by simp)) q3 rfl rfl)).trans (belowK_b (w := w) (Nat.le_refl _) _ D2 _ _ (h9 _ (by simp)) q2 rfl rfl)).trans (belowK_b (w := w) (Nat.le_refl _) _ D1 _ _ (h9 _ (by simp)) q1 rfl rfl)⟩
    simp [results, Try.f17, go_sem, hc1]
  case round =>
    rintro t ht a W ⟨bt, Ds, q12, q13, q53, q54, q55, q56, q57, q92, q130, q131, q132, q133, q134, q135, q136, q137, q138, q139, q140, q141, q142, q143, q144, q145, q146, q147, q148, q149, q150, q151, q152, q153, q154, q155, q156, q157, q158, q159, q160, q161, q162, q163, q164, q165, q166, q167, q168, q169, q170, q171, q172, q173, q174, q175, q176, q177, q178, q179, q180, q181, q182, hTI, hDs, rfl⟩ K2 hK2
    have HTI := hide hTI
    have HK2 := hide hK2
    clear hTI hK2
    rcases Nat.lt_or_ge t 1 with h1 | h1
    · obtain rfl : t = 0 := by omega
      clear h1 ht
      have cturn : W.cell? ⟨bt, 0, none⟩ = some (.int .i64 0) := HTI.out.turn
      have btz := HTI.out.btz
      gi_wp2_with fail
      obtain ⟨V, hV⟩ : ∃ V, V = (W.alloc (.cells #[.int .i64 0] 3)).alloc (.cells #[.int .i64 0] 3) := ⟨_, rfl⟩
      rw [← hV]
      have hbV : Below W.heap.size W V := by rw [hV]; exact ((Below.refl _ _).alloc (Nat.le_refl _) _).alloc (by simp) _
      have zV : V.heap.size = W.heap.size + 2 := by rw [hV]; simp
      have v1 : V.cell? ⟨W.heap.size, 0, none⟩ = some (.int .i64 0) := by rw [hV]; simp [go_sem]
      have v2 : V.frozen? ⟨W.heap.size, 0, none⟩ = false := by rw [hV]; simp [go_sem]
      have M1 := hide (show V.cell? ⟨W.heap.size + 1, 0, none⟩ = some (.int .i64 0) by rw [hV]; simp [go_sem])
      have M2 := hide (show V.frozen? ⟨W.heap.size + 1, 0, none⟩ = false by rw [hV]; simp [go_sem])
      have hVw : Below w3.heap.size w3 V := HTI.out.below.trans (hbV.mono HTI.out.below.size)
      have z8W := HTI.out.below.size
      have HOLD := hide (show ∀ (k : Int) X, RI V W.heap.size k X → Below w3.heap.size w3 X ∧ TI w3 bt 0 Ds X ∧ Below W.heap.size W X from fun k X h => by
        have q : Below W.heap.size W X := h.below hbV (by omega) (Nat.le_refl _)
        exact ⟨h.below hVw (by omega) (by omega), HTI.out.later q, q⟩)
      have h0 : RI V W.heap.size 0 V := ⟨⟨rfl, rfl, rfl, Nat.le_refl _, fun _ _ _ => rfl⟩, v1, v2⟩
      have zac := HAC.out.lts
      clear hV cturn v1 v2
      refine range_G (n := 4) (by decide) (gf := 53) (lb := #[.pointer (some ⟨Bx, 0, none⟩)]) rfl (enters_of Try.func53 (by kernel_rfl) rfl)
        (acc_seqW 3 (by decide) HAC.out HS.out.snd.few) (fun i hi => by rcases hi with rfl | rfl <;> omega) (HB3.out.trans (hVw.mono z3) : Below w2.heap.size w2 V) (fun _ => rfl)
        (fun pre X => RI V W.heap.size (pre.length : Int) X ∧ (x ≤ 0 ∨ ((pre.length : Int) : Int) < x))
        (fun c pre X => c = .exit 2 ∧ (pre.length : Int) = x ∧ pre.length ≤ S.acc.length ∧ RI V W.heap.size (pre.length : Int) X)
        (fun pre X Y hs hb => ⟨hs.1.later (by omega) hb, hs.2⟩)
        (fun c pre X Y hs hb => ⟨hs.1, hs.2.1, hs.2.2.1, hs.2.2.2.later (by omega) hb⟩)
        ⟨h0, by simp; omega⟩
        (fun pre p a' X => ∃ j Bb, j < S.acc.length ∧ pre = upto (numA S.acc) j ∧ p = numA S.acc j ∧ V.heap.size + 2 ≤ Bb ∧ Bb < X.heap.size ∧ BoxA X Bb p.2 ∧ a' = { tmps := #[Value.pointer (some ⟨F.b, 0, none⟩), Value.pointer (some ⟨R, 0, none⟩), Value.int .i64 x, undef, Value.pointer (some ⟨w.heap.size, 0, none⟩), Value.pointer (some ⟨w.heap.size + 1, 0, none⟩), Value.pointer (some ⟨w.heap.size + 1 + 1, 0, none⟩), Value.int .i64 (S.acc.length : Int), Value.int .i64 (S.posts.length : Int), Value.func (Fn.func 53) #[] #[Value.pointer (some ⟨Bx, 0, none⟩)], Value.func (Fn.func 59) #[] #[Value.pointer (some ⟨By, 0, none⟩)], Value.pointer (some ⟨bt, 0, none⟩), Value.pointer (some ⟨W.heap.size, 0, none⟩), Value.pointer (some ⟨W.heap.size + 1, 0, none⟩), Value.int .i64 (p.1 : Int), Value.pointer (some ⟨Bb, 0, none⟩), undef, undef, undef, undef, Value.tuple #[Value.int .i64 (S.acc.length : Int), Value.int .i64 (S.posts.length : Int)], Value.pointer (some ⟨F.b, 0, none⟩), Value.tuple #[Value.int .i64 (S.acc.length : Int), Value.int .i64 (S.posts.length : Int)], Value.int .i64 (S.acc.length : Int), Value.int .i64 (S.posts.length : Int), Value.pointer (some ⟨F.b, 0, none⟩), Value.func (Fn.func 53) #[] #[Value.pointer (some ⟨Bx, 0, none⟩)], Value.pointer (some ⟨F.b, 0, none⟩), Value.func (Fn.func 59) #[] #[Value.pointer (some ⟨By, 0, none⟩)], Value.func (Fn.func 53) #[] #[Value.pointer (some ⟨Bx, 0, none⟩)], Value.bool false, Value.bool false, Value.func (Fn.func 59) #[] #[Value.pointer (some ⟨By, 0, none⟩)], Value.bool false, Value.bool false, Value.bool false, Value.int .i64 (S.acc.length : Int), Value.pointer (some ⟨R, 0, none⟩), Value.pointer (some ⟨R, 0, none⟩), Value.pointer (some ⟨R, 0, none⟩), Value.slice no S.acc.length nc, Value.int .i64 (S.acc.length : Int), Value.bool false, Value.bool false, Value.bool false, Value.int .i64 (S.posts.length : Int), Value.pointer (some ⟨R, 0, none⟩), Value.pointer (some ⟨R, 0, none⟩), Value.pointer (some ⟨R, 2, none⟩), Value.slice po S.posts.length pc, Value.int .i64 (S.posts.length : Int), Value.bool false, Value.bool false, Value.int .i64 0, Value.bool true, q55, q56, Value.func (Fn.func 53) #[] #[Value.pointer (some ⟨Bx, 0, none⟩)], Value.int .i64 (p.1 : Int), .agg #[.string p.2.name, .int .i64 p.2.least, .int .i64 p.2.has], undef, undef, undef, undef, undef, undef, undef, undef, undef, undef, undef, undef, undef, undef, undef, undef, undef, undef, undef, undef, undef, undef, undef, undef, undef, undef, undef, undef, undef, undef, undef, undef, q92, undef, undef, undef, undef, undef, undef, undef, undef, undef, undef, undef, undef, undef, undef, undef, undef, undef, undef, undef, undef, undef, undef, undef, undef, undef, undef, undef, undef, undef, undef, undef, undef, undef, undef, undef, undef, undef, q130, q131, q132, q133, q134, q135, q136, q137, q138, q139, q140, q141, q142, q143, q144, q145, q146, q147, q148, q149, q150, q151, q152, q153, q154, q155, q156, q157, q158, q159, q160, q161, q162, q163, q164, q165, q166, q167, q168, q169, q170, q171, q172, q173, q174, q175, q176, q177, q178, q179, q180, q181, q182], defers := [] })
        (fun pre p a' X o hx => ?_) ?assign ?body ?done ?stop
      · obtain ⟨j, Bb, h1, h2, h3, h4, h5, h6, h7⟩ := hx
        exact ⟨j, Bb, h1, h2, h3, h4, by simpa using h5, h6.put (by omega) o, h7⟩
      case assign =>
        rintro l pre p X K' hI ⟨j, hj, rfl, rfl⟩ hlt hK
        gi_wp2
        have hb := (Below.refl X.heap.size X).alloc (Nat.le_refl _) (.cells #[.string (numA S.acc j).2.name, .int .i64 (numA S.acc j).2.least, .int .i64 (numA S.acc j).2.has] 70)
        exact hK _ _ (KeepsOthers.alloc _ _) (Fix.of_below hb) ⟨hI.1.later (by omega) (hb.mono (by have := hI.1.g.size; omega)), hI.2⟩ ⟨j, X.heap.size, hj, rfl, rfl, by omega, by simp, BoxA.new X _, rfl⟩
      case body =>
        rintro l pre p a' X ⟨hRI, hinv⟩ hlt2 ⟨j, Bb, hj, rfl, rfl, hBb, hBz, hbx, rfl⟩
        rw [upto_length] at hRI hinv
        have HUP := hide (upto_succ (numA S.acc) j)
        obtain ⟨a, ha⟩ : ∃ a, a = accAt0 S.acc j := ⟨_, rfl⟩
        have HGA := hide (show S.acc[j]? = some a by rw [ha]; exact accAt0_get hj)
        obtain ⟨hb3, hTX, hbW⟩ := HOLD.out _ _ hRI
        have b0 : X.cell? ⟨Bb, 0, none⟩ = some (.string a.name) := by rw [ha]; exact hbx.1
        have b1 : X.cell? ⟨Bb, 1, none⟩ = some (.int .i64 a.least) := by rw [ha]; exact hbx.2.1
        have b2 : X.cell? ⟨Bb, 2, none⟩ = some (.int .i64 a.has) := by rw [ha]; exact hbx.2.2
        rw [show (numA S.acc j).2 = a from ha.symm, show (numA S.acc j).1 = j from rfl]
        have cl' := cell_stay CL.out (hb3.block _ (World.block_lt_of_cell? w3 _ CL.out))
        have cx' := cell_stay CX.out (hb3.block _ (World.block_lt_of_cell? w3 _ CX.out))
        have HRX := hide (HR3.out.below hb3)
        have c0 := HRX.out.c0
        have c2 := HRX.out.c2
        simp only at c0 c2
        have ct := hTX.turn
        have ck := hRI.at_
        have HRI := hide hRI
        have HB3 := hide hb3
        have hj9 : (j : Int) < 70000 := by have := HS.out.snd.few; omega
        have hj0 : (0 : Int) ≤ (j : Int) := by omega
        clear hbx ha hb3 hTX hbW hRI
        gi_wp2_with fail
        refine (CallsIn.inRound l (callsIn_wide.2 (Account_ryes I _ S j a X HRX.out HS.out HA.out HGA.out))).mono ?_
        rintro e Y ⟨rfl, hbY⟩
        obtain ⟨Y2, hY2⟩ : ∃ Y2, Y2 = Y.alloc (.cells #[.string a.name, .int .i64 a.least, .int .i64 a.has] 70) := ⟨_, rfl⟩
        have hb2 : Below X.heap.size X Y2 := by rw [hY2]; exact hbY.alloc hbY.size _
        have d0 : Y2.cell? ⟨Y.heap.size, 0, none⟩ = some (.string a.name) := by rw [hY2]; simp [go_sem]
        have d1 : Y2.cell? ⟨Y.heap.size, 1, none⟩ = some (.int .i64 a.least) := by rw [hY2]; simp [go_sem]
        have d2 : Y2.cell? ⟨Y.heap.size, 2, none⟩ = some (.int .i64 a.has) := by rw [hY2]; simp [go_sem]
        have b0 := cell_stay b0 (hb2.block _ hBz)
        have b1 := cell_stay b1 (hb2.block _ hBz)
        have b2 := cell_stay b2 (hb2.block _ hBz)
        have cl' := cell_stay cl' (hb2.block _ (World.block_lt_of_cell? X _ cl'))
        have cx' := cell_stay cx' (hb2.block _ (World.block_lt_of_cell? X _ cx'))
        have c0 := cell_stay c0 (hb2.block _ (World.block_lt_of_cell? X _ c0))
        have ct := cell_stay ct (hb2.block _ (World.block_lt_of_cell? X _ ct))
        have HR2 := hide (HRI.out.later (by omega) (hb2.mono (by have := HRI.out.g.size; omega)))
        have ck := HR2.out.at_
        have fk := HR2.out.f
        have HB2 := hide hb2
        have HY2 := hide hY2
        have n1 : ((j : Int) != (j : Int)) = false := by simp
        have n2 : decide ((S.acc.length : Int) ≤ (j : Int)) = false := by (rw [decide_eq_false_iff_not]; omega)
        have n3 : decide (S.acc.length ≤ j) = false := by (rw [decide_eq_false_iff_not]; omega)
        have n4 := neq70 a.name a.least a.has
        have n5 : decide ((j : Int) = (j : Int)) = true := by simp
        have FIN := hide (show ∀ nq, KeepsFrom V.heap.size X ((Y2.drewN nq).setCell ⟨W.heap.size, 0, none⟩ (.int .i64 ((j : Int) + 1))) ∧ Fix (fun i => i = Bx ∨ i = g) X ((Y2.drewN nq).setCell ⟨W.heap.size, 0, none⟩ (.int .i64 ((j : Int) + 1))) ∧ RI V W.heap.size ((j : Int) + 1) ((Y2.drewN nq).setCell ⟨W.heap.size, 0, none⟩ (.int .i64 ((j : Int) + 1))) from fun nq => by
          have q1 : Below X.heap.size X (Y2.drewN nq) := bdrewN HB2.out nq
          have q2 := HRI.out.later (by omega) (q1.mono (by have := HRI.out.g.size; omega))
          refine ⟨(KeepsFrom.of_below q1).trans ((q2.keeps (fun b hb => heap_setCell_other _ _ _ _ hb) (by rw [World.size_setCell])).from _), (Fix.of_below q1).set (by have := HAC.out.lts; omega) _ _, q2.step _⟩)
        clear hb2 hbY hY2
        gi_wp2_with fail
        rw [← HY2.out]
        gi_wp2_with fail
        refine wpIn_region_quiet_round (by kernel_rfl) (by kernel_rfl) (by kernel_rfl) ?_
        repeat (gi_big_quiet_step (fail))
        refine wpQuietIn_nil ?_
        intro _ hw'
        obtain ⟨nq, hw''⟩ := hw'
        subst hw''
        have EK := hide (show ((upto (numA S.acc) j ++ [numA S.acc j]).length : Int) = (j : Int) + 1 by simp [upto_length])
        by_cases hlv : (j : Int) + 1 = x
        · have b1 : decide ((j : Int) + 1 = x) = true := by simp [hlv]
          have b2 : ((j : Int) + 1 == x) = true := by simp [hlv]
          have HLV := hide hlv
          clear hlv hinv
          gi_wp2
          have q := FIN.out nq
          exact ⟨q.1, rfl, by rw [EK.out]; exact HLV.out, by rw [HUP.out.symm, upto_length]; omega, by rw [EK.out]; exact q.2.2⟩
        · have b1 : decide ((j : Int) + 1 = x) = false := by simp [hlv]
          have b2 : ((j : Int) + 1 == x) = false := by simp [hlv]
          have HLV := hide (show (x ≤ 0 ∨ ((j : Int) + 1 : Int) < x) from by omega)
          clear hlv hinv
          gi_wp2
          have q := FIN.out nq
          exact ⟨q.1, q.2.1, by rw [EK.out]; exact q.2.2, by rw [EK.out]; exact HLV.out⟩
      case done =>
        rintro D ys X hD rfl ⟨hRI, hinv⟩ hKd
        rw [upto_length] at hRI
        gi_wp2_with fail
        obtain ⟨hb3X, hTX, hbWX⟩ := HOLD.out _ _ hRI
        have hXV := hRI.g.size
        have mb1 := cell_stay M1.out (hRI.old (b := W.heap.size + 1) (by omega) (by omega))
        have mb2 := fro_stay M2.out (hRI.old (b := W.heap.size + 1) (by omega) (by omega))
        have hDz := (Array.getElem?_eq_some_iff.1 hKd).1
        have ck0 := hRI.at_
        have HOLD2 := hide (show ∀ (m : Int) Y, RI X (W.heap.size + 1) m Y → Below w3.heap.size w3 Y ∧ TI w3 bt 0 Ds Y ∧ Below W.heap.size W Y ∧ Y.cell? ⟨W.heap.size, 0, none⟩ = some (.int .i64 (S.acc.length : Int)) ∧ Y.heap[D]? = some (.deferred (some [])) from fun m Y h => by
          have q : Below W.heap.size W Y := h.below hbWX (by omega) (by omega)
          exact ⟨h.below hb3X (by omega) (by omega), HTI.out.later q, q, cell_stay ck0 (h.old (by omega) (by omega)), (h.old hDz (by omega)).trans hKd⟩)
        have h02 : RI X (W.heap.size + 1) 0 X := ⟨⟨rfl, rfl, rfl, Nat.le_refl _, fun _ _ _ => rfl⟩, mb1, mb2⟩
        have HSX := hide (HSQ.out X hb3X)
        have HDV := hide hD
        have HDX := hide hDz
        have HDS := hide hDs
        have HXI := hide hRI
        have hw3X := hb3X.size
        clear hTX mb1 mb2 hKd ck0 hb3X hbWX hRI
        refine range_L (n := 4) (by decide) (gf := 59) (lb := #[.pointer (some ⟨By, 0, none⟩)]) rfl (enters_of Try.func59 (by kernel_rfl) rfl)
          HSX.out (fun i hi => by have := HK1.out i hi; omega) (Below.refl _ _) (fun _ => rfl)
          (fun pre Y => RI X (W.heap.size + 1) (pre.length : Int) Y ∧ pre.length ≤ S.posts.length ∧ (x ≤ 0 ∨ ((pre.length : Int) : Int) < x))
          (fun c pre Y => c = .exit 4 ∧ (pre.length : Int) = x ∧ pre.length ≤ S.posts.length ∧ RI X (W.heap.size + 1) (pre.length : Int) Y)
          (fun pre Y Z hs hb => ⟨hs.1.later (by omega) hb, hs.2⟩)
          (fun c pre Y Z hs hb => ⟨hs.1, hs.2.1, hs.2.2.1, hs.2.2.2.later (by omega) hb⟩)
          ⟨h02, Nat.zero_le _, by simp; omega⟩
          (fun pre p a' Y => NxA S.posts X.heap.size pre p Y ∧ a' = { tmps := #[Value.pointer (some ⟨F.b, 0, none⟩), Value.pointer (some ⟨R, 0, none⟩), Value.int .i64 x, undef, Value.pointer (some ⟨w.heap.size, 0, none⟩), Value.pointer (some ⟨w.heap.size + 1, 0, none⟩), Value.pointer (some ⟨w.heap.size + 1 + 1, 0, none⟩), Value.int .i64 (S.acc.length : Int), Value.int .i64 (S.posts.length : Int), Value.func (Fn.func 53) #[] #[Value.pointer (some ⟨Bx, 0, none⟩)], Value.func (Fn.func 59) #[] #[Value.pointer (some ⟨By, 0, none⟩)], Value.pointer (some ⟨bt, 0, none⟩), Value.pointer (some ⟨W.heap.size, 0, none⟩), Value.pointer (some ⟨W.heap.size + 1, 0, none⟩), undef, undef, undef, undef, Value.int .i64 (p.1 : Int), p.2, Value.tuple #[Value.int .i64 (S.acc.length : Int), Value.int .i64 (S.posts.length : Int)], Value.pointer (some ⟨F.b, 0, none⟩), Value.tuple #[Value.int .i64 (S.acc.length : Int), Value.int .i64 (S.posts.length : Int)], Value.int .i64 (S.acc.length : Int), Value.int .i64 (S.posts.length : Int), Value.pointer (some ⟨F.b, 0, none⟩), Value.func (Fn.func 53) #[] #[Value.pointer (some ⟨Bx, 0, none⟩)], Value.pointer (some ⟨F.b, 0, none⟩), Value.func (Fn.func 59) #[] #[Value.pointer (some ⟨By, 0, none⟩)], Value.func (Fn.func 53) #[] #[Value.pointer (some ⟨Bx, 0, none⟩)], Value.bool false, Value.bool false, Value.func (Fn.func 59) #[] #[Value.pointer (some ⟨By, 0, none⟩)], Value.bool false, Value.bool false, Value.bool false, Value.int .i64 (S.acc.length : Int), Value.pointer (some ⟨R, 0, none⟩), Value.pointer (some ⟨R, 0, none⟩), Value.pointer (some ⟨R, 0, none⟩), Value.slice no S.acc.length nc, Value.int .i64 (S.acc.length : Int), Value.bool false, Value.bool false, Value.bool false, Value.int .i64 (S.posts.length : Int), Value.pointer (some ⟨R, 0, none⟩), Value.pointer (some ⟨R, 0, none⟩), Value.pointer (some ⟨R, 2, none⟩), Value.slice po S.posts.length pc, Value.int .i64 (S.posts.length : Int), Value.bool false, Value.bool false, Value.int .i64 0, Value.bool true, q55, q56, Value.func (Fn.func 53) #[] #[Value.pointer (some ⟨Bx, 0, none⟩)], undef, undef, undef, undef, undef, undef, undef, undef, undef, undef, undef, undef, undef, undef, undef, undef, undef, undef, undef, undef, undef, undef, undef, undef, undef, undef, undef, undef, undef, undef, undef, undef, undef, undef, Value.func (Fn.func 59) #[] #[Value.pointer (some ⟨By, 0, none⟩)], Value.int .i64 (p.1 : Int), p.2, undef, undef, undef, undef, undef, undef, undef, undef, undef, undef, undef, undef, undef, undef, undef, undef, undef, undef, undef, undef, undef, undef, undef, undef, undef, undef, undef, undef, undef, undef, undef, undef, undef, undef, undef, q130, q131, q132, q133, q134, q135, q136, q137, q138, q139, q140, q141, q142, q143, q144, q145, q146, q147, q148, q149, q150, q151, q152, q153, q154, q155, q156, q157, q158, q159, q160, q161, q162, q163, q164, q165, q166, q167, q168, q169, q170, q171, q172, q173, q174, q175, q176, q177, q178, q179, q180, q181, q182], defers := [] })
          (fun pre p a' Y o lp hl hx => ?_) ?assign2 ?body2 ?done2 ?stop2
        · obtain ⟨⟨h1, p, h2, h3⟩, h4⟩ := hx
          exact ⟨⟨h1, p, h2, own_stays h3 (fun k hk => World.putObj_heap_other (row_noloop h3 hl k hk))⟩, h4⟩
        case assign2 =>
          rintro l pre p Y K' hI hN hlt hK
          gi_wp2
          exact hK _ _ ⟨Nat.le_refl _, fun _ _ h _ => h⟩ (Fix.of_below (Below.refl _ _)) hI ⟨hN, rfl⟩
        case body2 =>
          rintro l pre ⟨n, v⟩ a' Y ⟨hRI2, hple, hinv⟩ hlt2 ⟨⟨hn, q, hq, hrow⟩, rfl⟩
          simp only at hn hrow
          subst hn
          obtain ⟨ao, ac, rfl⟩ := own_any hrow
          obtain ⟨m, hm⟩ : ∃ m, m = pre.length := ⟨_, rfl⟩
          have HKK := hide (show ∀ z : Nat × Value, ((pre ++ [z]).length : Int) = (m : Int) + 1 ∧ (pre ++ [z]).length = m + 1 from fun z => by rw [hm]; simp)
          rw [← hm] at hRI2 hple hq hinv ⊢
          have hmP : m < S.posts.length := (List.getElem?_eq_some_iff.1 hq).1
          obtain ⟨vs, hpr, hpq⟩ := (HR3.out.below (HOLD2.out _ _ hRI2).1).pr
          obtain ⟨v2, hv2, hpo⟩ := hpq m q hq
          obtain ⟨g2, cp2, hv2s, hc2⟩ := own_at hpr hmP
          injection hv2s with e1 e2 e3
          obtain ⟨ao2, ac2, rfl⟩ := own_any hpo.1
          rw [hv2] at hc2
          have HE1 := hide (show Ents ao ac q Y from by
            obtain ⟨so', cap', e, hE⟩ := Ents.of_own hrow
            injection e with e1 e2 e3
            rw [e1, e3]; exact hE)
          have HE2 := hide (show Ents ao2 ac2 q Y from by
            obtain ⟨so', cap', e, hE⟩ := Ents.of_own hpo.1
            injection e with e1 e2 e3
            rw [e1, e3]; exact hE)
          have HQL := hide (show q.length ≤ 4503599627370496 by have := (HS.out.frm q (List.mem_of_getElem? hq)).2.1; omega)
          obtain ⟨hb3, hTX, hbW, ck, hdd⟩ := HOLD2.out _ _ hRI2
          have cl' := cell_stay CL.out (hb3.block _ (World.block_lt_of_cell? w3 _ CL.out))
          have cx' := cell_stay CX.out (hb3.block _ (World.block_lt_of_cell? w3 _ CX.out))
          have HRX := hide (HR3.out.below hb3)
          have c0 := HRX.out.c0
          have c2 := HRX.out.c2
          simp only at c0 c2
          have ct := hTX.turn
          have cm := hRI2.at_
          have HDD := hide hdd
          have HBW2 := hide hbW
          rw [e1] at c2
          have fm := hRI2.f
          have HROW := hide hrow
          have HRI2 := hide hRI2
          have m9 : (m : Int) < 400 := by have := HA.out.few; omega
          have m0 : (0 : Int) ≤ (m : Int) := by omega
          have hmPi : (m : Int) < (S.posts.length : Int) := by omega
          have n1 : ((m : Int) != (m : Int)) = false := by simp
          have n5 : decide ((m : Int) = (m : Int)) = true := by simp
          have n2 : decide ((S.posts.length : Int) ≤ (m : Int)) = false := by (rw [decide_eq_false_iff_not]; omega)
          have n3 : decide (S.posts.length ≤ m) = false := by (rw [decide_eq_false_iff_not]; omega)
          have SME := hide (show ∀ nq, Calls Try.prog 36 #[.slice ao q.length ac, .slice ao2 q.length ac2] (Y.drewN nq) fun e w' => e = .returned (.bool true) ∧ ∃ m, w' = (Y.drewN nq).drewN m from fun nq => (SameEntries_d ao ao2 ac ac2 q q _ (HE1.out.below (bdrewN (Below.refl _ _) nq)) (HE2.out.below (bdrewN (Below.refl _ _) nq)) HQL.out).mono fun e w' hh => ⟨by rw [hh.1]; simp, hh.2⟩)
          clear hm hpr hpq hv2 hpo hq hb3 hTX hbW hdd e1 e2 e3 hrow hRI2 hlt2
          gi_wp2_with fail
          refine wpIn_region_quiet_round (by kernel_rfl) (by kernel_rfl) (by kernel_rfl) ?_
          repeat (gi_big_quiet_step ((gi_at_call 36; exact CallsIn.quiet_of (CallsIn.inRound l (callsIn_wide.2 (SME.out _))))))
          refine wpQuietIn_nil ?_
          intro _ hw'
          obtain ⟨nq, hw''⟩ := hw'
          subst hw''
          obtain ⟨Z, hZ⟩ : ∃ Z, Z = Y.drewN nq := ⟨_, rfl⟩
          rw [← hZ]
          have hbZ : Below Y.heap.size Y Z := by rw [hZ]; exact bdrewN (Below.refl _ _) nq
          have HRZ := hide (own_stays HROW.out (fun k hk => hbZ.block k (HROW.out.lt k hk).2))
          have HBZ := hide hbZ
          clear hZ hbZ
          gi_wp2_with fail
          refine (CallsIn.inRound l (callsIn_wide.2 (over_g X.heap.size q.length _ _ Z HRZ.out HQL.out))).mono ?_
          rintro e U ⟨⟨uu, rfl⟩, hg⟩
          have zXY := HRI2.out.g.size
          have hbU : Below X.heap.size Z U := (Below.refl _ _).grown hg (by have := HBZ.out.size; omega) (fun k e => (HRZ.out.lt k e).1)
          have hbYU : Below X.heap.size Y U := (HBZ.out.mono zXY).trans hbU
          have HKF := hide ((KeepsFrom.of_below (B := X.heap.size) HBZ.out).trans (KeepsFrom.of_grown HRZ.out hg))
          have RU := HRI2.out.later (by omega) hbYU
          have cm := RU.at_
          have fm := RU.f
          have ct := (HOLD2.out _ _ RU).2.1.turn
          have cx' := cell_stay CX.out ((HOLD2.out _ _ RU).1.block _ (World.block_lt_of_cell? w3 _ CX.out))
          have FIN := hide (show KeepsFrom X.heap.size Y (U.setCell ⟨W.heap.size + 1, 0, none⟩ (.int .i64 ((m : Int) + 1))) ∧ Fix K Y (U.setCell ⟨W.heap.size + 1, 0, none⟩ (.int .i64 ((m : Int) + 1))) ∧ RI X (W.heap.size + 1) ((m : Int) + 1) (U.setCell ⟨W.heap.size + 1, 0, none⟩ (.int .i64 ((m : Int) + 1))) from
            ⟨HKF.out.trans ((RU.keeps (fun b hb => heap_setCell_other _ _ _ _ hb) (by rw [World.size_setCell])).from _), (⟨hbYU.size, fun i hi _ => hbYU.block i (by have := HK1.out i hi; omega)⟩ : Fix K Y U).set (fun hi => by have := HK1.out _ hi; omega) _ _, RU.step _⟩)
          clear hg hbU hbYU RU
          by_cases hlv : (m : Int) + 1 = x
          · have b1 : decide ((m : Int) + 1 = x) = true := by simp [hlv]
            have b2 : ((m : Int) + 1 == x) = true := by simp [hlv]
            have HLV := hide hlv
            clear hlv hinv
            gi_wp2
            have q := FIN.out
            exact ⟨q.1, rfl, by rw [(HKK.out _).1]; exact HLV.out, by rw [(HKK.out _).2]; omega, by rw [(HKK.out _).1]; exact q.2.2⟩
          · have b1 : decide ((m : Int) + 1 = x) = false := by simp [hlv]
            have b2 : ((m : Int) + 1 == x) = false := by simp [hlv]
            have HLV := hide (show (x ≤ 0 ∨ ((m : Int) + 1 : Int) < x) from by omega)
            clear hlv hinv
            gi_wp2
            have q := FIN.out
            exact ⟨q.1, q.2.1, by rw [(HKK.out _).1]; exact q.2.2, by rw [(HKK.out _).2]; omega, by rw [(HKK.out _).1]; exact HLV.out⟩
        case done2 =>
          rintro D2 ys Y hD2 hys ⟨hRI2, -, hinv⟩ hKd2
          rw [hys] at hRI2
          obtain ⟨hb3, hTX, hbW, ck, hdd⟩ := HOLD2.out _ _ hRI2
          have cl' := cell_stay CL.out (hb3.block _ (World.block_lt_of_cell? w3 _ CL.out))
          have cx' := cell_stay CX.out (hb3.block _ (World.block_lt_of_cell? w3 _ CX.out))
          have HRX := hide (HR3.out.below hb3)
          have c0 := HRX.out.c0
          have c2 := HRX.out.c2
          simp only at c0 c2
          have ct := hTX.turn
          have cm := hRI2.at_
          have HDD := hide hdd
          have HBW2 := hide hbW
          have HD2 := hide (And.intro hD2 hKd2)
          clear hb3 hTX hbW hdd hRI2 hinv hKd2 hD2 hys
          have ek1 : ((S.acc.length : Int) != (S.acc.length : Int)) = false := by simp
          have ek2 : decide ((S.acc.length : Int) = (S.acc.length : Int)) = true := by simp
          have em1 : ((S.posts.length : Int) != (S.posts.length : Int)) = false := by simp
          have em2 : decide ((S.posts.length : Int) = (S.posts.length : Int)) = true := by simp
          gi_wp2_with fail
          gi_quiet (fail)
          obtain ⟨Z, hZ⟩ : ∃ Z, Z = Y.drewN nq := ⟨_, rfl⟩
          rw [← hZ]
          have hbZ : Below Y.heap.size Y Z := by rw [hZ]; exact bdrewN (Below.refl _ _) nq
          have ct := cell_stay ct (hbZ.block _ (World.block_lt_of_cell? Y _ ct))
          have HZD := hide (And.intro ((hbZ.block D (by have := (Array.getElem?_eq_some_iff.1 HDD.out).1; omega)).trans HDD.out) ((hbZ.block D2 (by have := (Array.getElem?_eq_some_iff.1 HD2.out.2).1; omega)).trans HD2.out.2))
          have HBZ := hide (bstep HBW2.out hbZ)
          clear hZ hbZ
          gi_wp2
          refine HK2.out _ _ ⟨Z.heap.size, [D2, D] ++ Ds, _, _, _, _, _, _, _, _, _, _, _, _, _, _, _, _, _, _, _, _, _, _, _, _, _, _, _, _, _, _, _, _, _, _, _, _, _, _, _, _, _, _, _, _, _, _, _, _, _, _, _, _, _, _, _, _, _, _, _, _, _, ?_, by have := HDS.out; simp [this], rfl⟩
          exact HTI.out.next 1 HBZ.out (fun E hE => by
            rcases List.mem_cons.1 hE with rfl | hE
            · exact ⟨by have := HD2.out.1; omega, HZD.out.2⟩
            · obtain rfl : E = D := by simpa using hE
              exact ⟨by have := HDV.out; omega, HZD.out.1⟩) (by have := HD2.out.1; have := HDX.out; simp; omega)
        case stop2 =>
          rintro D2 c pre Y hD2 - ⟨rfl, hpx2, hple2, hRI2⟩ hKd2
          obtain ⟨hb3, hTX, hbW, ck, hdd⟩ := HOLD2.out _ _ hRI2
          have cl' := cell_stay CL.out (hb3.block _ (World.block_lt_of_cell? w3 _ CL.out))
          have cx' := cell_stay CX.out (hb3.block _ (World.block_lt_of_cell? w3 _ CX.out))
          have HRX := hide (HR3.out.below hb3)
          have c0 := HRX.out.c0
          have c2 := HRX.out.c2
          simp only at c0 c2
          have ct := hTX.turn
          have cm := hRI2.at_
          have HDD := hide hdd
          have HBW2 := hide hbW
          have HD2 := hide (And.intro hD2 hKd2)
          clear hb3 hTX hbW hdd hRI2 hKd2 hD2
          by_cases hlP : pre.length = S.posts.length
          · rw [hlP] at cm
            clear hlP hpx2 hple2
            have ek1 : ((S.acc.length : Int) != (S.acc.length : Int)) = false := by simp
            have ek2 : decide ((S.acc.length : Int) = (S.acc.length : Int)) = true := by simp
            have em1 : ((S.posts.length : Int) != (S.posts.length : Int)) = false := by simp
            have em2 : decide ((S.posts.length : Int) = (S.posts.length : Int)) = true := by simp
            gi_wp2_with fail
            gi_quiet (fail)
            obtain ⟨Z, hZ⟩ : ∃ Z, Z = Y.drewN nq := ⟨_, rfl⟩
            rw [← hZ]
            have hbZ : Below Y.heap.size Y Z := by rw [hZ]; exact bdrewN (Below.refl _ _) nq
            have ct := cell_stay ct (hbZ.block _ (World.block_lt_of_cell? Y _ ct))
            have HZD := hide (And.intro ((hbZ.block D (by have := (Array.getElem?_eq_some_iff.1 HDD.out).1; omega)).trans HDD.out) ((hbZ.block D2 (by have := (Array.getElem?_eq_some_iff.1 HD2.out.2).1; omega)).trans HD2.out.2))
            have HBZ := hide (bstep HBW2.out hbZ)
            clear hZ hbZ
            gi_wp2
            refine HK2.out _ _ ⟨Z.heap.size, [D2, D] ++ Ds, _, _, _, _, _, _, _, _, _, _, _, _, _, _, _, _, _, _, _, _, _, _, _, _, _, _, _, _, _, _, _, _, _, _, _, _, _, _, _, _, _, _, _, _, _, _, _, _, _, _, _, _, _, _, _, _, _, _, _, _, _, ?_, by have := HDS.out; simp [this], rfl⟩
            exact HTI.out.next 1 HBZ.out (fun E hE => by
              rcases List.mem_cons.1 hE with rfl | hE
              · exact ⟨by have := HD2.out.1; omega, HZD.out.2⟩
              · obtain rfl : E = D := by simpa using hE
                exact ⟨by have := HDV.out; omega, HZD.out.1⟩) (by have := HD2.out.1; have := HDX.out; simp; omega)
          · 
            have ek1 : ((S.acc.length : Int) != (S.acc.length : Int)) = false := by simp
            have ek2 : decide ((S.acc.length : Int) = (S.acc.length : Int)) = true := by simp
            have em1 : ((pre.length : Int) != (S.posts.length : Int)) = true := by (rw [bne_iff_ne]; omega)
            have em2 : decide ((pre.length : Int) = (S.posts.length : Int)) = false := by (rw [decide_eq_false_iff_not]; omega)
            have em3 : ((pre.length : Int) != x) = false := by (rw [bne_eq_false_iff_eq]; omega)
            have em4 : decide ((pre.length : Int) = x) = true := by (rw [decide_eq_true_iff]; omega)
            clear hlP hpx2 hple2
            gi_wp2_with fail
            gi_quiet (fail)
            obtain ⟨Z, hZ⟩ : ∃ Z, Z = Y.drewN nq := ⟨_, rfl⟩
            rw [← hZ]
            have hbZ : Below Y.heap.size Y Z := by rw [hZ]; exact bdrewN (Below.refl _ _) nq
            have ct := cell_stay ct (hbZ.block _ (World.block_lt_of_cell? Y _ ct))
            have HZD := hide (And.intro ((hbZ.block D (by have := (Array.getElem?_eq_some_iff.1 HDD.out).1; omega)).trans HDD.out) ((hbZ.block D2 (by have := (Array.getElem?_eq_some_iff.1 HD2.out.2).1; omega)).trans HD2.out.2))
            have HBZ := hide (bstep HBW2.out hbZ)
            clear hZ hbZ
            gi_wp2
            refine HK2.out _ _ ⟨Z.heap.size, [D2, D] ++ Ds, _, _, _, _, _, _, _, _, _, _, _, _, _, _, _, _, _, _, _, _, _, _, _, _, _, _, _, _, _, _, _, _, _, _, _, _, _, _, _, _, _, _, _, _, _, _, _, _, _, _, _, _, _, _, _, _, _, _, _, _, _, ?_, by have := HDS.out; simp [this], rfl⟩
            exact HTI.out.next 1 HBZ.out (fun E hE => by
              rcases List.mem_cons.1 hE with rfl | hE
              · exact ⟨by have := HD2.out.1; omega, HZD.out.2⟩
              · obtain rfl : E = D := by simpa using hE
                exact ⟨by have := HDV.out; omega, HZD.out.1⟩) (by have := HD2.out.1; have := HDX.out; simp; omega)
      case stop =>
        rintro D c pre X hD - ⟨rfl, hpx, hple, hRI⟩ hKd
        by_cases hlk : pre.length = S.acc.length
        · rw [hlk] at hRI
          clear hlk hpx hple
          gi_wp2_with fail
          obtain ⟨hb3X, hTX, hbWX⟩ := HOLD.out _ _ hRI
          have hXV := hRI.g.size
          have mb1 := cell_stay M1.out (hRI.old (b := W.heap.size + 1) (by omega) (by omega))
          have mb2 := fro_stay M2.out (hRI.old (b := W.heap.size + 1) (by omega) (by omega))
          have hDz := (Array.getElem?_eq_some_iff.1 hKd).1
          have ck0 := hRI.at_
          have HOLD2 := hide (show ∀ (m : Int) Y, RI X (W.heap.size + 1) m Y → Below w3.heap.size w3 Y ∧ TI w3 bt 0 Ds Y ∧ Below W.heap.size W Y ∧ Y.cell? ⟨W.heap.size, 0, none⟩ = some (.int .i64 (S.acc.length : Int)) ∧ Y.heap[D]? = some (.deferred (some [])) from fun m Y h => by
            have q : Below W.heap.size W Y := h.below hbWX (by omega) (by omega)
            exact ⟨h.below hb3X (by omega) (by omega), HTI.out.later q, q, cell_stay ck0 (h.old (by omega) (by omega)), (h.old hDz (by omega)).trans hKd⟩)
          have h02 : RI X (W.heap.size + 1) 0 X := ⟨⟨rfl, rfl, rfl, Nat.le_refl _, fun _ _ _ => rfl⟩, mb1, mb2⟩
          have HSX := hide (HSQ.out X hb3X)
          have HDV := hide hD
          have HDX := hide hDz
          have HDS := hide hDs
          have HXI := hide hRI
          have hw3X := hb3X.size
          clear hTX mb1 mb2 hKd ck0 hb3X hbWX hRI
          refine range_L (n := 4) (by decide) (gf := 59) (lb := #[.pointer (some ⟨By, 0, none⟩)]) rfl (enters_of Try.func59 (by kernel_rfl) rfl)
            HSX.out (fun i hi => by have := HK1.out i hi; omega) (Below.refl _ _) (fun _ => rfl)
            (fun pre Y => RI X (W.heap.size + 1) (pre.length : Int) Y ∧ pre.length ≤ S.posts.length ∧ (x ≤ 0 ∨ ((pre.length : Int) : Int) < x))
            (fun c pre Y => c = .exit 4 ∧ (pre.length : Int) = x ∧ pre.length ≤ S.posts.length ∧ RI X (W.heap.size + 1) (pre.length : Int) Y)
            (fun pre Y Z hs hb => ⟨hs.1.later (by omega) hb, hs.2⟩)
            (fun c pre Y Z hs hb => ⟨hs.1, hs.2.1, hs.2.2.1, hs.2.2.2.later (by omega) hb⟩)
            ⟨h02, Nat.zero_le _, by simp; omega⟩
            (fun pre p a' Y => NxA S.posts X.heap.size pre p Y ∧ a' = { tmps := #[Value.pointer (some ⟨F.b, 0, none⟩), Value.pointer (some ⟨R, 0, none⟩), Value.int .i64 x, undef, Value.pointer (some ⟨w.heap.size, 0, none⟩), Value.pointer (some ⟨w.heap.size + 1, 0, none⟩), Value.pointer (some ⟨w.heap.size + 1 + 1, 0, none⟩), Value.int .i64 (S.acc.length : Int), Value.int .i64 (S.posts.length : Int), Value.func (Fn.func 53) #[] #[Value.pointer (some ⟨Bx, 0, none⟩)], Value.func (Fn.func 59) #[] #[Value.pointer (some ⟨By, 0, none⟩)], Value.pointer (some ⟨bt, 0, none⟩), Value.pointer (some ⟨W.heap.size, 0, none⟩), Value.pointer (some ⟨W.heap.size + 1, 0, none⟩), undef, undef, undef, undef, Value.int .i64 (p.1 : Int), p.2, Value.tuple #[Value.int .i64 (S.acc.length : Int), Value.int .i64 (S.posts.length : Int)], Value.pointer (some ⟨F.b, 0, none⟩), Value.tuple #[Value.int .i64 (S.acc.length : Int), Value.int .i64 (S.posts.length : Int)], Value.int .i64 (S.acc.length : Int), Value.int .i64 (S.posts.length : Int), Value.pointer (some ⟨F.b, 0, none⟩), Value.func (Fn.func 53) #[] #[Value.pointer (some ⟨Bx, 0, none⟩)], Value.pointer (some ⟨F.b, 0, none⟩), Value.func (Fn.func 59) #[] #[Value.pointer (some ⟨By, 0, none⟩)], Value.func (Fn.func 53) #[] #[Value.pointer (some ⟨Bx, 0, none⟩)], Value.bool false, Value.bool false, Value.func (Fn.func 59) #[] #[Value.pointer (some ⟨By, 0, none⟩)], Value.bool false, Value.bool false, Value.bool false, Value.int .i64 (S.acc.length : Int), Value.pointer (some ⟨R, 0, none⟩), Value.pointer (some ⟨R, 0, none⟩), Value.pointer (some ⟨R, 0, none⟩), Value.slice no S.acc.length nc, Value.int .i64 (S.acc.length : Int), Value.bool false, Value.bool false, Value.bool false, Value.int .i64 (S.posts.length : Int), Value.pointer (some ⟨R, 0, none⟩), Value.pointer (some ⟨R, 0, none⟩), Value.pointer (some ⟨R, 2, none⟩), Value.slice po S.posts.length pc, Value.int .i64 (S.posts.length : Int), Value.bool false, Value.bool false, Value.int .i64 0, Value.bool true, q55, q56, Value.func (Fn.func 53) #[] #[Value.pointer (some ⟨Bx, 0, none⟩)], undef, undef, undef, undef, undef, undef, undef, undef, undef, undef, undef, undef, undef, undef, undef, undef, undef, undef, undef, undef, undef, undef, undef, undef, undef, undef, undef, undef, undef, undef, undef, undef, undef, undef, Value.func (Fn.func 59) #[] #[Value.pointer (some ⟨By, 0, none⟩)], Value.int .i64 (p.1 : Int), p.2, undef, undef, undef, undef, undef, undef, undef, undef, undef, undef, undef, undef, undef, undef, undef, undef, undef, undef, undef, undef, undef, undef, undef, undef, undef, undef, undef, undef, undef, undef, undef, undef, undef, undef, undef, q130, q131, q132, q133, q134, q135, q136, q137, q138, q139, q140, q141, q142, q143, q144, q145, q146, q147, q148, q149, q150, q151, q152, q153, q154, q155, q156, q157, q158, q159, q160, q161, q162, q163, q164, q165, q166, q167, q168, q169, q170, q171, q172, q173, q174, q175, q176, q177, q178, q179, q180, q181, q182], defers := [] })
            (fun pre p a' Y o lp hl hx => ?_) ?assign2 ?body2 ?done2 ?stop2
          · obtain ⟨⟨h1, p, h2, h3⟩, h4⟩ := hx
            exact ⟨⟨h1, p, h2, own_stays h3 (fun k hk => World.putObj_heap_other (row_noloop h3 hl k hk))⟩, h4⟩
          case assign2 =>
            rintro l pre p Y K' hI hN hlt hK
            gi_wp2
            exact hK _ _ ⟨Nat.le_refl _, fun _ _ h _ => h⟩ (Fix.of_below (Below.refl _ _)) hI ⟨hN, rfl⟩
          case body2 =>
            rintro l pre ⟨n, v⟩ a' Y ⟨hRI2, hple, hinv⟩ hlt2 ⟨⟨hn, q, hq, hrow⟩, rfl⟩
            simp only at hn hrow
            subst hn
            obtain ⟨ao, ac, rfl⟩ := own_any hrow
            obtain ⟨m, hm⟩ : ∃ m, m = pre.length := ⟨_, rfl⟩
            have HKK := hide (show ∀ z : Nat × Value, ((pre ++ [z]).length : Int) = (m : Int) + 1 ∧ (pre ++ [z]).length = m + 1 from fun z => by rw [hm]; simp)
            rw [← hm] at hRI2 hple hq hinv ⊢
            have hmP : m < S.posts.length := (List.getElem?_eq_some_iff.1 hq).1
            obtain ⟨vs, hpr, hpq⟩ := (HR3.out.below (HOLD2.out _ _ hRI2).1).pr
            obtain ⟨v2, hv2, hpo⟩ := hpq m q hq
            obtain ⟨g2, cp2, hv2s, hc2⟩ := own_at hpr hmP
            injection hv2s with e1 e2 e3
            obtain ⟨ao2, ac2, rfl⟩ := own_any hpo.1
            rw [hv2] at hc2
            have HE1 := hide (show Ents ao ac q Y from by
              obtain ⟨so', cap', e, hE⟩ := Ents.of_own hrow
              injection e with e1 e2 e3
              rw [e1, e3]; exact hE)
            have HE2 := hide (show Ents ao2 ac2 q Y from by
              obtain ⟨so', cap', e, hE⟩ := Ents.of_own hpo.1
              injection e with e1 e2 e3
              rw [e1, e3]; exact hE)
            have HQL := hide (show q.length ≤ 4503599627370496 by have := (HS.out.frm q (List.mem_of_getElem? hq)).2.1; omega)
            obtain ⟨hb3, hTX, hbW, ck, hdd⟩ := HOLD2.out _ _ hRI2
            have cl' := cell_stay CL.out (hb3.block _ (World.block_lt_of_cell? w3 _ CL.out))
            have cx' := cell_stay CX.out (hb3.block _ (World.block_lt_of_cell? w3 _ CX.out))
            have HRX := hide (HR3.out.below hb3)
            have c0 := HRX.out.c0
            have c2 := HRX.out.c2
            simp only at c0 c2
            have ct := hTX.turn
            have cm := hRI2.at_
            have HDD := hide hdd
            have HBW2 := hide hbW
            rw [e1] at c2
            have fm := hRI2.f
            have HROW := hide hrow
            have HRI2 := hide hRI2
            have m9 : (m : Int) < 400 := by have := HA.out.few; omega
            have m0 : (0 : Int) ≤ (m : Int) := by omega
            have hmPi : (m : Int) < (S.posts.length : Int) := by omega
            have n1 : ((m : Int) != (m : Int)) = false := by simp
            have n5 : decide ((m : Int) = (m : Int)) = true := by simp
            have n2 : decide ((S.posts.length : Int) ≤ (m : Int)) = false := by (rw [decide_eq_false_iff_not]; omega)
            have n3 : decide (S.posts.length ≤ m) = false := by (rw [decide_eq_false_iff_not]; omega)
            have SME := hide (show ∀ nq, Calls Try.prog 36 #[.slice ao q.length ac, .slice ao2 q.length ac2] (Y.drewN nq) fun e w' => e = .returned (.bool true) ∧ ∃ m, w' = (Y.drewN nq).drewN m from fun nq => (SameEntries_d ao ao2 ac ac2 q q _ (HE1.out.below (bdrewN (Below.refl _ _) nq)) (HE2.out.below (bdrewN (Below.refl _ _) nq)) HQL.out).mono fun e w' hh => ⟨by rw [hh.1]; simp, hh.2⟩)
            clear hm hpr hpq hv2 hpo hq hb3 hTX hbW hdd e1 e2 e3 hrow hRI2 hlt2
            gi_wp2_with fail
            refine wpIn_region_quiet_round (by kernel_rfl) (by kernel_rfl) (by kernel_rfl) ?_
            repeat (gi_big_quiet_step ((gi_at_call 36; exact CallsIn.quiet_of (CallsIn.inRound l (callsIn_wide.2 (SME.out _))))))
            refine wpQuietIn_nil ?_
            intro _ hw'
            obtain ⟨nq, hw''⟩ := hw'
            subst hw''
            obtain ⟨Z, hZ⟩ : ∃ Z, Z = Y.drewN nq := ⟨_, rfl⟩
            rw [← hZ]
            have hbZ : Below Y.heap.size Y Z := by rw [hZ]; exact bdrewN (Below.refl _ _) nq
            have HRZ := hide (own_stays HROW.out (fun k hk => hbZ.block k (HROW.out.lt k hk).2))
            have HBZ := hide hbZ
            clear hZ hbZ
            gi_wp2_with fail
            refine (CallsIn.inRound l (callsIn_wide.2 (over_g X.heap.size q.length _ _ Z HRZ.out HQL.out))).mono ?_
            rintro e U ⟨⟨uu, rfl⟩, hg⟩
            have zXY := HRI2.out.g.size
            have hbU : Below X.heap.size Z U := (Below.refl _ _).grown hg (by have := HBZ.out.size; omega) (fun k e => (HRZ.out.lt k e).1)
            have hbYU : Below X.heap.size Y U := (HBZ.out.mono zXY).trans hbU
            have HKF := hide ((KeepsFrom.of_below (B := X.heap.size) HBZ.out).trans (KeepsFrom.of_grown HRZ.out hg))
            have RU := HRI2.out.later (by omega) hbYU
            have cm := RU.at_
            have fm := RU.f
            have ct := (HOLD2.out _ _ RU).2.1.turn
            have cx' := cell_stay CX.out ((HOLD2.out _ _ RU).1.block _ (World.block_lt_of_cell? w3 _ CX.out))
            have FIN := hide (show KeepsFrom X.heap.size Y (U.setCell ⟨W.heap.size + 1, 0, none⟩ (.int .i64 ((m : Int) + 1))) ∧ Fix K Y (U.setCell ⟨W.heap.size + 1, 0, none⟩ (.int .i64 ((m : Int) + 1))) ∧ RI X (W.heap.size + 1) ((m : Int) + 1) (U.setCell ⟨W.heap.size + 1, 0, none⟩ (.int .i64 ((m : Int) + 1))) from
              ⟨HKF.out.trans ((RU.keeps (fun b hb => heap_setCell_other _ _ _ _ hb) (by rw [World.size_setCell])).from _), (⟨hbYU.size, fun i hi _ => hbYU.block i (by have := HK1.out i hi; omega)⟩ : Fix K Y U).set (fun hi => by have := HK1.out _ hi; omega) _ _, RU.step _⟩)
            clear hg hbU hbYU RU
            by_cases hlv : (m : Int) + 1 = x
            · have b1 : decide ((m : Int) + 1 = x) = true := by simp [hlv]
              have b2 : ((m : Int) + 1 == x) = true := by simp [hlv]
              have HLV := hide hlv
              clear hlv hinv
              gi_wp2
              have q := FIN.out
              exact ⟨q.1, rfl, by rw [(HKK.out _).1]; exact HLV.out, by rw [(HKK.out _).2]; omega, by rw [(HKK.out _).1]; exact q.2.2⟩
            · have b1 : decide ((m : Int) + 1 = x) = false := by simp [hlv]
              have b2 : ((m : Int) + 1 == x) = false := by simp [hlv]
              have HLV := hide (show (x ≤ 0 ∨ ((m : Int) + 1 : Int) < x) from by omega)
              clear hlv hinv
              gi_wp2
              have q := FIN.out
              exact ⟨q.1, q.2.1, by rw [(HKK.out _).1]; exact q.2.2, by rw [(HKK.out _).2]; omega, by rw [(HKK.out _).1]; exact HLV.out⟩
          case done2 =>
            rintro D2 ys Y hD2 hys ⟨hRI2, -, hinv⟩ hKd2
            rw [hys] at hRI2
            obtain ⟨hb3, hTX, hbW, ck, hdd⟩ := HOLD2.out _ _ hRI2
            have cl' := cell_stay CL.out (hb3.block _ (World.block_lt_of_cell? w3 _ CL.out))
            have cx' := cell_stay CX.out (hb3.block _ (World.block_lt_of_cell? w3 _ CX.out))
            have HRX := hide (HR3.out.below hb3)
            have c0 := HRX.out.c0
            have c2 := HRX.out.c2
            simp only at c0 c2
            have ct := hTX.turn
            have cm := hRI2.at_
            have HDD := hide hdd
            have HBW2 := hide hbW
            have HD2 := hide (And.intro hD2 hKd2)
            clear hb3 hTX hbW hdd hRI2 hinv hKd2 hD2 hys
            have ek1 : ((S.acc.length : Int) != (S.acc.length : Int)) = false := by simp
            have ek2 : decide ((S.acc.length : Int) = (S.acc.length : Int)) = true := by simp
            have em1 : ((S.posts.length : Int) != (S.posts.length : Int)) = false := by simp
            have em2 : decide ((S.posts.length : Int) = (S.posts.length : Int)) = true := by simp
            gi_wp2_with fail
            gi_quiet (fail)
            obtain ⟨Z, hZ⟩ : ∃ Z, Z = Y.drewN nq := ⟨_, rfl⟩
            rw [← hZ]
            have hbZ : Below Y.heap.size Y Z := by rw [hZ]; exact bdrewN (Below.refl _ _) nq
            have ct := cell_stay ct (hbZ.block _ (World.block_lt_of_cell? Y _ ct))
            have HZD := hide (And.intro ((hbZ.block D (by have := (Array.getElem?_eq_some_iff.1 HDD.out).1; omega)).trans HDD.out) ((hbZ.block D2 (by have := (Array.getElem?_eq_some_iff.1 HD2.out.2).1; omega)).trans HD2.out.2))
            have HBZ := hide (bstep HBW2.out hbZ)
            clear hZ hbZ
            gi_wp2
            refine HK2.out _ _ ⟨Z.heap.size, [D2, D] ++ Ds, _, _, _, _, _, _, _, _, _, _, _, _, _, _, _, _, _, _, _, _, _, _, _, _, _, _, _, _, _, _, _, _, _, _, _, _, _, _, _, _, _, _, _, _, _, _, _, _, _, _, _, _, _, _, _, _, _, _, _, _, _, ?_, by have := HDS.out; simp [this], rfl⟩
            exact HTI.out.next 1 HBZ.out (fun E hE => by
              rcases List.mem_cons.1 hE with rfl | hE
              · exact ⟨by have := HD2.out.1; omega, HZD.out.2⟩
              · obtain rfl : E = D := by simpa using hE
                exact ⟨by have := HDV.out; omega, HZD.out.1⟩) (by have := HD2.out.1; have := HDX.out; simp; omega)
          case stop2 =>
            rintro D2 c pre Y hD2 - ⟨rfl, hpx2, hple2, hRI2⟩ hKd2
            obtain ⟨hb3, hTX, hbW, ck, hdd⟩ := HOLD2.out _ _ hRI2
            have cl' := cell_stay CL.out (hb3.block _ (World.block_lt_of_cell? w3 _ CL.out))
            have cx' := cell_stay CX.out (hb3.block _ (World.block_lt_of_cell? w3 _ CX.out))
            have HRX := hide (HR3.out.below hb3)
            have c0 := HRX.out.c0
            have c2 := HRX.out.c2
            simp only at c0 c2
            have ct := hTX.turn
            have cm := hRI2.at_
            have HDD := hide hdd
            have HBW2 := hide hbW
            have HD2 := hide (And.intro hD2 hKd2)
            clear hb3 hTX hbW hdd hRI2 hKd2 hD2
            by_cases hlP : pre.length = S.posts.length
            · rw [hlP] at cm
              clear hlP hpx2 hple2
              have ek1 : ((S.acc.length : Int) != (S.acc.length : Int)) = false := by simp
              have ek2 : decide ((S.acc.length : Int) = (S.acc.length : Int)) = true := by simp
              have em1 : ((S.posts.length : Int) != (S.posts.length : Int)) = false := by simp
              have em2 : decide ((S.posts.length : Int) = (S.posts.length : Int)) = true := by simp
              gi_wp2_with fail
              gi_quiet (fail)
              obtain ⟨Z, hZ⟩ : ∃ Z, Z = Y.drewN nq := ⟨_, rfl⟩
              rw [← hZ]
              have hbZ : Below Y.heap.size Y Z := by rw [hZ]; exact bdrewN (Below.refl _ _) nq
              have ct := cell_stay ct (hbZ.block _ (World.block_lt_of_cell? Y _ ct))
              have HZD := hide (And.intro ((hbZ.block D (by have := (Array.getElem?_eq_some_iff.1 HDD.out).1; omega)).trans HDD.out) ((hbZ.block D2 (by have := (Array.getElem?_eq_some_iff.1 HD2.out.2).1; omega)).trans HD2.out.2))
              have HBZ := hide (bstep HBW2.out hbZ)
              clear hZ hbZ
              gi_wp2
              refine HK2.out _ _ ⟨Z.heap.size, [D2, D] ++ Ds, _, _, _, _, _, _, _, _, _, _, _, _, _, _, _, _, _, _, _, _, _, _, _, _, _, _, _, _, _, _, _, _, _, _, _, _, _, _, _, _, _, _, _, _, _, _, _, _, _, _, _, _, _, _, _, _, _, _, _, _, _, ?_, by have := HDS.out; simp [this], rfl⟩
              exact HTI.out.next 1 HBZ.out (fun E hE => by
                rcases List.mem_cons.1 hE with rfl | hE
                · exact ⟨by have := HD2.out.1; omega, HZD.out.2⟩
                · obtain rfl : E = D := by simpa using hE
                  exact ⟨by have := HDV.out; omega, HZD.out.1⟩) (by have := HD2.out.1; have := HDX.out; simp; omega)
            · 
              have ek1 : ((S.acc.length : Int) != (S.acc.length : Int)) = false := by simp
              have ek2 : decide ((S.acc.length : Int) = (S.acc.length : Int)) = true := by simp
              have em1 : ((pre.length : Int) != (S.posts.length : Int)) = true := by (rw [bne_iff_ne]; omega)
              have em2 : decide ((pre.length : Int) = (S.posts.length : Int)) = false := by (rw [decide_eq_false_iff_not]; omega)
              have em3 : ((pre.length : Int) != x) = false := by (rw [bne_eq_false_iff_eq]; omega)
              have em4 : decide ((pre.length : Int) = x) = true := by (rw [decide_eq_true_iff]; omega)
              clear hlP hpx2 hple2
              gi_wp2_with fail
              gi_quiet (fail)
              obtain ⟨Z, hZ⟩ : ∃ Z, Z = Y.drewN nq := ⟨_, rfl⟩
              rw [← hZ]
              have hbZ : Below Y.heap.size Y Z := by rw [hZ]; exact bdrewN (Below.refl _ _) nq
              have ct := cell_stay ct (hbZ.block _ (World.block_lt_of_cell? Y _ ct))
              have HZD := hide (And.intro ((hbZ.block D (by have := (Array.getElem?_eq_some_iff.1 HDD.out).1; omega)).trans HDD.out) ((hbZ.block D2 (by have := (Array.getElem?_eq_some_iff.1 HD2.out.2).1; omega)).trans HD2.out.2))
              have HBZ := hide (bstep HBW2.out hbZ)
              clear hZ hbZ
              gi_wp2
              refine HK2.out _ _ ⟨Z.heap.size, [D2, D] ++ Ds, _, _, _, _, _, _, _, _, _, _, _, _, _, _, _, _, _, _, _, _, _, _, _, _, _, _, _, _, _, _, _, _, _, _, _, _, _, _, _, _, _, _, _, _, _, _, _, _, _, _, _, _, _, _, _, _, _, _, _, _, _, ?_, by have := HDS.out; simp [this], rfl⟩
              exact HTI.out.next 1 HBZ.out (fun E hE => by
                rcases List.mem_cons.1 hE with rfl | hE
                · exact ⟨by have := HD2.out.1; omega, HZD.out.2⟩
                · obtain rfl : E = D := by simpa using hE
                  exact ⟨by have := HDV.out; omega, HZD.out.1⟩) (by have := HD2.out.1; have := HDX.out; simp; omega)
        · obtain ⟨k1, hk1⟩ : ∃ k1, k1 = pre.length := ⟨_, rfl⟩
          rw [← hk1] at hRI hpx hlk
          have HPX := hide (And.intro hpx hlk)
          have hk19 : (k1 : Int) ≤ 70000 := by have := HS.out.snd.few; omega
          clear hlk hpx hple hk1
          gi_wp2_with fail
          obtain ⟨hb3X, hTX, hbWX⟩ := HOLD.out _ _ hRI
          have hXV := hRI.g.size
          have mb1 := cell_stay M1.out (hRI.old (b := W.heap.size + 1) (by omega) (by omega))
          have mb2 := fro_stay M2.out (hRI.old (b := W.heap.size + 1) (by omega) (by omega))
          have hDz := (Array.getElem?_eq_some_iff.1 hKd).1
          have ck0 := hRI.at_
          have HOLD2 := hide (show ∀ (m : Int) Y, RI X (W.heap.size + 1) m Y → Below w3.heap.size w3 Y ∧ TI w3 bt 0 Ds Y ∧ Below W.heap.size W Y ∧ Y.cell? ⟨W.heap.size, 0, none⟩ = some (.int .i64 (k1 : Int)) ∧ Y.heap[D]? = some (.deferred (some [])) from fun m Y h => by
            have q : Below W.heap.size W Y := h.below hbWX (by omega) (by omega)
            exact ⟨h.below hb3X (by omega) (by omega), HTI.out.later q, q, cell_stay ck0 (h.old (by omega) (by omega)), (h.old hDz (by omega)).trans hKd⟩)
          have h02 : RI X (W.heap.size + 1) 0 X := ⟨⟨rfl, rfl, rfl, Nat.le_refl _, fun _ _ _ => rfl⟩, mb1, mb2⟩
          have HSX := hide (HSQ.out X hb3X)
          have HDV := hide hD
          have HDX := hide hDz
          have HDS := hide hDs
          have HXI := hide hRI
          have hw3X := hb3X.size
          clear hTX mb1 mb2 hKd ck0 hb3X hbWX hRI
          refine range_L (n := 4) (by decide) (gf := 59) (lb := #[.pointer (some ⟨By, 0, none⟩)]) rfl (enters_of Try.func59 (by kernel_rfl) rfl)
            HSX.out (fun i hi => by have := HK1.out i hi; omega) (Below.refl _ _) (fun _ => rfl)
            (fun pre Y => RI X (W.heap.size + 1) (pre.length : Int) Y ∧ pre.length ≤ S.posts.length ∧ (x ≤ 0 ∨ ((pre.length : Int) : Int) < x))
            (fun c pre Y => c = .exit 4 ∧ (pre.length : Int) = x ∧ pre.length ≤ S.posts.length ∧ RI X (W.heap.size + 1) (pre.length : Int) Y)
            (fun pre Y Z hs hb => ⟨hs.1.later (by omega) hb, hs.2⟩)
            (fun c pre Y Z hs hb => ⟨hs.1, hs.2.1, hs.2.2.1, hs.2.2.2.later (by omega) hb⟩)
            ⟨h02, Nat.zero_le _, by simp; omega⟩
            (fun pre p a' Y => NxA S.posts X.heap.size pre p Y ∧ a' = { tmps := #[Value.pointer (some ⟨F.b, 0, none⟩), Value.pointer (some ⟨R, 0, none⟩), Value.int .i64 x, undef, Value.pointer (some ⟨w.heap.size, 0, none⟩), Value.pointer (some ⟨w.heap.size + 1, 0, none⟩), Value.pointer (some ⟨w.heap.size + 1 + 1, 0, none⟩), Value.int .i64 (S.acc.length : Int), Value.int .i64 (S.posts.length : Int), Value.func (Fn.func 53) #[] #[Value.pointer (some ⟨Bx, 0, none⟩)], Value.func (Fn.func 59) #[] #[Value.pointer (some ⟨By, 0, none⟩)], Value.pointer (some ⟨bt, 0, none⟩), Value.pointer (some ⟨W.heap.size, 0, none⟩), Value.pointer (some ⟨W.heap.size + 1, 0, none⟩), undef, undef, undef, undef, Value.int .i64 (p.1 : Int), p.2, Value.tuple #[Value.int .i64 (S.acc.length : Int), Value.int .i64 (S.posts.length : Int)], Value.pointer (some ⟨F.b, 0, none⟩), Value.tuple #[Value.int .i64 (S.acc.length : Int), Value.int .i64 (S.posts.length : Int)], Value.int .i64 (S.acc.length : Int), Value.int .i64 (S.posts.length : Int), Value.pointer (some ⟨F.b, 0, none⟩), Value.func (Fn.func 53) #[] #[Value.pointer (some ⟨Bx, 0, none⟩)], Value.pointer (some ⟨F.b, 0, none⟩), Value.func (Fn.func 59) #[] #[Value.pointer (some ⟨By, 0, none⟩)], Value.func (Fn.func 53) #[] #[Value.pointer (some ⟨Bx, 0, none⟩)], Value.bool false, Value.bool false, Value.func (Fn.func 59) #[] #[Value.pointer (some ⟨By, 0, none⟩)], Value.bool false, Value.bool false, Value.bool false, Value.int .i64 (S.acc.length : Int), Value.pointer (some ⟨R, 0, none⟩), Value.pointer (some ⟨R, 0, none⟩), Value.pointer (some ⟨R, 0, none⟩), Value.slice no S.acc.length nc, Value.int .i64 (S.acc.length : Int), Value.bool false, Value.bool false, Value.bool false, Value.int .i64 (S.posts.length : Int), Value.pointer (some ⟨R, 0, none⟩), Value.pointer (some ⟨R, 0, none⟩), Value.pointer (some ⟨R, 2, none⟩), Value.slice po S.posts.length pc, Value.int .i64 (S.posts.length : Int), Value.bool false, Value.bool false, Value.int .i64 0, Value.bool true, q55, q56, Value.func (Fn.func 53) #[] #[Value.pointer (some ⟨Bx, 0, none⟩)], undef, undef, undef, undef, undef, undef, undef, undef, undef, undef, undef, undef, undef, undef, undef, undef, undef, undef, undef, undef, undef, undef, undef, undef, undef, undef, undef, undef, undef, undef, undef, undef, undef, undef, Value.func (Fn.func 59) #[] #[Value.pointer (some ⟨By, 0, none⟩)], Value.int .i64 (p.1 : Int), p.2, undef, undef, undef, undef, undef, undef, undef, undef, undef, undef, undef, undef, undef, undef, undef, undef, undef, undef, undef, undef, undef, undef, undef, undef, undef, undef, undef, undef, undef, undef, undef, undef, undef, undef, undef, q130, q131, q132, q133, q134, q135, q136, q137, q138, q139, q140, q141, q142, q143, q144, q145, q146, q147, q148, q149, q150, q151, q152, q153, q154, q155, q156, q157, q158, q159, q160, q161, q162, q163, q164, q165, q166, q167, q168, q169, q170, q171, q172, q173, q174, q175, q176, q177, q178, q179, q180, q181, q182], defers := [] })
            (fun pre p a' Y o lp hl hx => ?_) ?assign2 ?body2 ?done2 ?stop2
          · obtain ⟨⟨h1, p, h2, h3⟩, h4⟩ := hx
            exact ⟨⟨h1, p, h2, own_stays h3 (fun k hk => World.putObj_heap_other (row_noloop h3 hl k hk))⟩, h4⟩
          case assign2 =>
            rintro l pre p Y K' hI hN hlt hK
            gi_wp2
            exact hK _ _ ⟨Nat.le_refl _, fun _ _ h _ => h⟩ (Fix.of_below (Below.refl _ _)) hI ⟨hN, rfl⟩
          case body2 =>
            rintro l pre ⟨n, v⟩ a' Y ⟨hRI2, hple, hinv⟩ hlt2 ⟨⟨hn, q, hq, hrow⟩, rfl⟩
            simp only at hn hrow
            subst hn
            obtain ⟨ao, ac, rfl⟩ := own_any hrow
            obtain ⟨m, hm⟩ : ∃ m, m = pre.length := ⟨_, rfl⟩
            have HKK := hide (show ∀ z : Nat × Value, ((pre ++ [z]).length : Int) = (m : Int) + 1 ∧ (pre ++ [z]).length = m + 1 from fun z => by rw [hm]; simp)
            rw [← hm] at hRI2 hple hq hinv ⊢
            have hmP : m < S.posts.length := (List.getElem?_eq_some_iff.1 hq).1
            obtain ⟨vs, hpr, hpq⟩ := (HR3.out.below (HOLD2.out _ _ hRI2).1).pr
            obtain ⟨v2, hv2, hpo⟩ := hpq m q hq
            obtain ⟨g2, cp2, hv2s, hc2⟩ := own_at hpr hmP
            injection hv2s with e1 e2 e3
            obtain ⟨ao2, ac2, rfl⟩ := own_any hpo.1
            rw [hv2] at hc2
            have HE1 := hide (show Ents ao ac q Y from by
              obtain ⟨so', cap', e, hE⟩ := Ents.of_own hrow
              injection e with e1 e2 e3
              rw [e1, e3]; exact hE)
            have HE2 := hide (show Ents ao2 ac2 q Y from by
              obtain ⟨so', cap', e, hE⟩ := Ents.of_own hpo.1
              injection e with e1 e2 e3
              rw [e1, e3]; exact hE)
            have HQL := hide (show q.length ≤ 4503599627370496 by have := (HS.out.frm q (List.mem_of_getElem? hq)).2.1; omega)
            obtain ⟨hb3, hTX, hbW, ck, hdd⟩ := HOLD2.out _ _ hRI2
            have cl' := cell_stay CL.out (hb3.block _ (World.block_lt_of_cell? w3 _ CL.out))
            have cx' := cell_stay CX.out (hb3.block _ (World.block_lt_of_cell? w3 _ CX.out))
            have HRX := hide (HR3.out.below hb3)
            have c0 := HRX.out.c0
            have c2 := HRX.out.c2
            simp only at c0 c2
            have ct := hTX.turn
            have cm := hRI2.at_
            have HDD := hide hdd
            have HBW2 := hide hbW
            rw [e1] at c2
            have fm := hRI2.f
            have HROW := hide hrow
            have HRI2 := hide hRI2
            have m9 : (m : Int) < 400 := by have := HA.out.few; omega
            have m0 : (0 : Int) ≤ (m : Int) := by omega
            have hmPi : (m : Int) < (S.posts.length : Int) := by omega
            have n1 : ((m : Int) != (m : Int)) = false := by simp
            have n5 : decide ((m : Int) = (m : Int)) = true := by simp
            have n2 : decide ((S.posts.length : Int) ≤ (m : Int)) = false := by (rw [decide_eq_false_iff_not]; omega)
            have n3 : decide (S.posts.length ≤ m) = false := by (rw [decide_eq_false_iff_not]; omega)
            have SME := hide (show ∀ nq, Calls Try.prog 36 #[.slice ao q.length ac, .slice ao2 q.length ac2] (Y.drewN nq) fun e w' => e = .returned (.bool true) ∧ ∃ m, w' = (Y.drewN nq).drewN m from fun nq => (SameEntries_d ao ao2 ac ac2 q q _ (HE1.out.below (bdrewN (Below.refl _ _) nq)) (HE2.out.below (bdrewN (Below.refl _ _) nq)) HQL.out).mono fun e w' hh => ⟨by rw [hh.1]; simp, hh.2⟩)
            clear hm hpr hpq hv2 hpo hq hb3 hTX hbW hdd e1 e2 e3 hrow hRI2 hlt2
            gi_wp2_with fail
            refine wpIn_region_quiet_round (by kernel_rfl) (by kernel_rfl) (by kernel_rfl) ?_
            repeat (gi_big_quiet_step ((gi_at_call 36; exact CallsIn.quiet_of (CallsIn.inRound l (callsIn_wide.2 (SME.out _))))))
            refine wpQuietIn_nil ?_
            intro _ hw'
            obtain ⟨nq, hw''⟩ := hw'
            subst hw''
            obtain ⟨Z, hZ⟩ : ∃ Z, Z = Y.drewN nq := ⟨_, rfl⟩
            rw [← hZ]
            have hbZ : Below Y.heap.size Y Z := by rw [hZ]; exact bdrewN (Below.refl _ _) nq
            have HRZ := hide (own_stays HROW.out (fun k hk => hbZ.block k (HROW.out.lt k hk).2))
            have HBZ := hide hbZ
            clear hZ hbZ
            gi_wp2_with fail
            refine (CallsIn.inRound l (callsIn_wide.2 (over_g X.heap.size q.length _ _ Z HRZ.out HQL.out))).mono ?_
            rintro e U ⟨⟨uu, rfl⟩, hg⟩
            have zXY := HRI2.out.g.size
            have hbU : Below X.heap.size Z U := (Below.refl _ _).grown hg (by have := HBZ.out.size; omega) (fun k e => (HRZ.out.lt k e).1)
            have hbYU : Below X.heap.size Y U := (HBZ.out.mono zXY).trans hbU
            have HKF := hide ((KeepsFrom.of_below (B := X.heap.size) HBZ.out).trans (KeepsFrom.of_grown HRZ.out hg))
            have RU := HRI2.out.later (by omega) hbYU
            have cm := RU.at_
            have fm := RU.f
            have ct := (HOLD2.out _ _ RU).2.1.turn
            have cx' := cell_stay CX.out ((HOLD2.out _ _ RU).1.block _ (World.block_lt_of_cell? w3 _ CX.out))
            have FIN := hide (show KeepsFrom X.heap.size Y (U.setCell ⟨W.heap.size + 1, 0, none⟩ (.int .i64 ((m : Int) + 1))) ∧ Fix K Y (U.setCell ⟨W.heap.size + 1, 0, none⟩ (.int .i64 ((m : Int) + 1))) ∧ RI X (W.heap.size + 1) ((m : Int) + 1) (U.setCell ⟨W.heap.size + 1, 0, none⟩ (.int .i64 ((m : Int) + 1))) from
              ⟨HKF.out.trans ((RU.keeps (fun b hb => heap_setCell_other _ _ _ _ hb) (by rw [World.size_setCell])).from _), (⟨hbYU.size, fun i hi _ => hbYU.block i (by have := HK1.out i hi; omega)⟩ : Fix K Y U).set (fun hi => by have := HK1.out _ hi; omega) _ _, RU.step _⟩)
            clear hg hbU hbYU RU
            by_cases hlv : (m : Int) + 1 = x
            · have b1 : decide ((m : Int) + 1 = x) = true := by simp [hlv]
              have b2 : ((m : Int) + 1 == x) = true := by simp [hlv]
              have HLV := hide hlv
              clear hlv hinv
              gi_wp2
              have q := FIN.out
              exact ⟨q.1, rfl, by rw [(HKK.out _).1]; exact HLV.out, by rw [(HKK.out _).2]; omega, by rw [(HKK.out _).1]; exact q.2.2⟩
            · have b1 : decide ((m : Int) + 1 = x) = false := by simp [hlv]
              have b2 : ((m : Int) + 1 == x) = false := by simp [hlv]
              have HLV := hide (show (x ≤ 0 ∨ ((m : Int) + 1 : Int) < x) from by omega)
              clear hlv hinv
              gi_wp2
              have q := FIN.out
              exact ⟨q.1, q.2.1, by rw [(HKK.out _).1]; exact q.2.2, by rw [(HKK.out _).2]; omega, by rw [(HKK.out _).1]; exact HLV.out⟩
          case done2 =>
            rintro D2 ys Y hD2 hys ⟨hRI2, -, hinv⟩ hKd2
            rw [hys] at hRI2
            obtain ⟨hb3, hTX, hbW, ck, hdd⟩ := HOLD2.out _ _ hRI2
            have cl' := cell_stay CL.out (hb3.block _ (World.block_lt_of_cell? w3 _ CL.out))
            have cx' := cell_stay CX.out (hb3.block _ (World.block_lt_of_cell? w3 _ CX.out))
            have HRX := hide (HR3.out.below hb3)
            have c0 := HRX.out.c0
            have c2 := HRX.out.c2
            simp only at c0 c2
            have ct := hTX.turn
            have cm := hRI2.at_
            have HDD := hide hdd
            have HBW2 := hide hbW
            have HD2 := hide (And.intro hD2 hKd2)
            clear hb3 hTX hbW hdd hRI2 hinv hKd2 hD2 hys
            have ek1 : ((k1 : Int) != (S.acc.length : Int)) = true := by (have hpp := HPX.out; rw [bne_iff_ne]; omega)
            have ek2 : decide ((k1 : Int) = (S.acc.length : Int)) = false := by (have hpp := HPX.out; rw [decide_eq_false_iff_not]; omega)
            have ek3 : ((k1 : Int) != x) = false := by (have hpp := HPX.out; rw [bne_eq_false_iff_eq]; omega)
            have ek4 : decide ((k1 : Int) = x) = true := by (have hpp := HPX.out; rw [decide_eq_true_iff]; omega)
            have em1 : ((S.posts.length : Int) != (S.posts.length : Int)) = false := by simp
            have em2 : decide ((S.posts.length : Int) = (S.posts.length : Int)) = true := by simp
            gi_wp2_with fail
            gi_quiet (fail)
            obtain ⟨Z, hZ⟩ : ∃ Z, Z = Y.drewN nq := ⟨_, rfl⟩
            rw [← hZ]
            have hbZ : Below Y.heap.size Y Z := by rw [hZ]; exact bdrewN (Below.refl _ _) nq
            have ct := cell_stay ct (hbZ.block _ (World.block_lt_of_cell? Y _ ct))
            have HZD := hide (And.intro ((hbZ.block D (by have := (Array.getElem?_eq_some_iff.1 HDD.out).1; omega)).trans HDD.out) ((hbZ.block D2 (by have := (Array.getElem?_eq_some_iff.1 HD2.out.2).1; omega)).trans HD2.out.2))
            have HBZ := hide (bstep HBW2.out hbZ)
            clear hZ hbZ
            gi_wp2
            refine HK2.out _ _ ⟨Z.heap.size, [D2, D] ++ Ds, _, _, _, _, _, _, _, _, _, _, _, _, _, _, _, _, _, _, _, _, _, _, _, _, _, _, _, _, _, _, _, _, _, _, _, _, _, _, _, _, _, _, _, _, _, _, _, _, _, _, _, _, _, _, _, _, _, _, _, _, _, ?_, by have := HDS.out; simp [this], rfl⟩
            exact HTI.out.next 1 HBZ.out (fun E hE => by
              rcases List.mem_cons.1 hE with rfl | hE
              · exact ⟨by have := HD2.out.1; omega, HZD.out.2⟩
              · obtain rfl : E = D := by simpa using hE
                exact ⟨by have := HDV.out; omega, HZD.out.1⟩) (by have := HD2.out.1; have := HDX.out; simp; omega)
          case stop2 =>
            rintro D2 c pre Y hD2 - ⟨rfl, hpx2, hple2, hRI2⟩ hKd2
            obtain ⟨hb3, hTX, hbW, ck, hdd⟩ := HOLD2.out _ _ hRI2
            have cl' := cell_stay CL.out (hb3.block _ (World.block_lt_of_cell? w3 _ CL.out))
            have cx' := cell_stay CX.out (hb3.block _ (World.block_lt_of_cell? w3 _ CX.out))
            have HRX := hide (HR3.out.below hb3)
            have c0 := HRX.out.c0
            have c2 := HRX.out.c2
            simp only at c0 c2
            have ct := hTX.turn
            have cm := hRI2.at_
            have HDD := hide hdd
            have HBW2 := hide hbW
            have HD2 := hide (And.intro hD2 hKd2)
            clear hb3 hTX hbW hdd hRI2 hKd2 hD2
            by_cases hlP : pre.length = S.posts.length
            · rw [hlP] at cm
              clear hlP hpx2 hple2
              have ek1 : ((k1 : Int) != (S.acc.length : Int)) = true := by (have hpp := HPX.out; rw [bne_iff_ne]; omega)
              have ek2 : decide ((k1 : Int) = (S.acc.length : Int)) = false := by (have hpp := HPX.out; rw [decide_eq_false_iff_not]; omega)
              have ek3 : ((k1 : Int) != x) = false := by (have hpp := HPX.out; rw [bne_eq_false_iff_eq]; omega)
              have ek4 : decide ((k1 : Int) = x) = true := by (have hpp := HPX.out; rw [decide_eq_true_iff]; omega)
              have em1 : ((S.posts.length : Int) != (S.posts.length : Int)) = false := by simp
              have em2 : decide ((S.posts.length : Int) = (S.posts.length : Int)) = true := by simp
              gi_wp2_with fail
              gi_quiet (fail)
              obtain ⟨Z, hZ⟩ : ∃ Z, Z = Y.drewN nq := ⟨_, rfl⟩
              rw [← hZ]
              have hbZ : Below Y.heap.size Y Z := by rw [hZ]; exact bdrewN (Below.refl _ _) nq
              have ct := cell_stay ct (hbZ.block _ (World.block_lt_of_cell? Y _ ct))
              have HZD := hide (And.intro ((hbZ.block D (by have := (Array.getElem?_eq_some_iff.1 HDD.out).1; omega)).trans HDD.out) ((hbZ.block D2 (by have := (Array.getElem?_eq_some_iff.1 HD2.out.2).1; omega)).trans HD2.out.2))
              have HBZ := hide (bstep HBW2.out hbZ)
              clear hZ hbZ
              gi_wp2
              refine HK2.out _ _ ⟨Z.heap.size, [D2, D] ++ Ds, _, _, _, _, _, _, _, _, _, _, _, _, _, _, _, _, _, _, _, _, _, _, _, _, _, _, _, _, _, _, _, _, _, _, _, _, _, _, _, _, _, _, _, _, _, _, _, _, _, _, _, _, _, _, _, _, _, _, _, _, _, ?_, by have := HDS.out; simp [this], rfl⟩
              exact HTI.out.next 1 HBZ.out (fun E hE => by
                rcases List.mem_cons.1 hE with rfl | hE
                · exact ⟨by have := HD2.out.1; omega, HZD.out.2⟩
                · obtain rfl : E = D := by simpa using hE
                  exact ⟨by have := HDV.out; omega, HZD.out.1⟩) (by have := HD2.out.1; have := HDX.out; simp; omega)
            · 
              have ek1 : ((k1 : Int) != (S.acc.length : Int)) = true := by (have hpp := HPX.out; rw [bne_iff_ne]; omega)
              have ek2 : decide ((k1 : Int) = (S.acc.length : Int)) = false := by (have hpp := HPX.out; rw [decide_eq_false_iff_not]; omega)
              have ek3 : ((k1 : Int) != x) = false := by (have hpp := HPX.out; rw [bne_eq_false_iff_eq]; omega)
              have ek4 : decide ((k1 : Int) = x) = true := by (have hpp := HPX.out; rw [decide_eq_true_iff]; omega)
              have em1 : ((pre.length : Int) != (S.posts.length : Int)) = true := by (rw [bne_iff_ne]; omega)
              have em2 : decide ((pre.length : Int) = (S.posts.length : Int)) = false := by (rw [decide_eq_false_iff_not]; omega)
              have em3 : ((pre.length : Int) != x) = false := by (rw [bne_eq_false_iff_eq]; omega)
              have em4 : decide ((pre.length : Int) = x) = true := by (rw [decide_eq_true_iff]; omega)
              clear hlP hpx2 hple2
              gi_wp2_with fail
              gi_quiet (fail)
              obtain ⟨Z, hZ⟩ : ∃ Z, Z = Y.drewN nq := ⟨_, rfl⟩
              rw [← hZ]
              have hbZ : Below Y.heap.size Y Z := by rw [hZ]; exact bdrewN (Below.refl _ _) nq
              have ct := cell_stay ct (hbZ.block _ (World.block_lt_of_cell? Y _ ct))
              have HZD := hide (And.intro ((hbZ.block D (by have := (Array.getElem?_eq_some_iff.1 HDD.out).1; omega)).trans HDD.out) ((hbZ.block D2 (by have := (Array.getElem?_eq_some_iff.1 HD2.out.2).1; omega)).trans HD2.out.2))
              have HBZ := hide (bstep HBW2.out hbZ)
              clear hZ hbZ
              gi_wp2
              refine HK2.out _ _ ⟨Z.heap.size, [D2, D] ++ Ds, _, _, _, _, _, _, _, _, _, _, _, _, _, _, _, _, _, _, _, _, _, _, _, _, _, _, _, _, _, _, _, _, _, _, _, _, _, _, _, _, _, _, _, _, _, _, _, _, _, _, _, _, _, _, _, _, _, _, _, _, _, ?_, by have := HDS.out; simp [this], rfl⟩
              exact HTI.out.next 1 HBZ.out (fun E hE => by
                rcases List.mem_cons.1 hE with rfl | hE
                · exact ⟨by have := HD2.out.1; omega, HZD.out.2⟩
                · obtain rfl : E = D := by simpa using hE
                  exact ⟨by have := HDV.out; omega, HZD.out.1⟩) (by have := HD2.out.1; have := HDX.out; simp; omega)
    · obtain rfl : t = 1 := by omega
      clear h1 ht
      have cturn : W.cell? ⟨bt, 0, none⟩ = some (.int .i64 1) := HTI.out.turn
      have btz := HTI.out.btz
      gi_wp2_with fail
      obtain ⟨V, hV⟩ : ∃ V, V = (W.alloc (.cells #[.int .i64 0] 3)).alloc (.cells #[.int .i64 0] 3) := ⟨_, rfl⟩
      rw [← hV]
      have hbV : Below W.heap.size W V := by rw [hV]; exact ((Below.refl _ _).alloc (Nat.le_refl _) _).alloc (by simp) _
      have zV : V.heap.size = W.heap.size + 2 := by rw [hV]; simp
      have v1 : V.cell? ⟨W.heap.size, 0, none⟩ = some (.int .i64 0) := by rw [hV]; simp [go_sem]
      have v2 : V.frozen? ⟨W.heap.size, 0, none⟩ = false := by rw [hV]; simp [go_sem]
      have M1 := hide (show V.cell? ⟨W.heap.size + 1, 0, none⟩ = some (.int .i64 0) by rw [hV]; simp [go_sem])
      have M2 := hide (show V.frozen? ⟨W.heap.size + 1, 0, none⟩ = false by rw [hV]; simp [go_sem])
      have hVw : Below w3.heap.size w3 V := HTI.out.below.trans (hbV.mono HTI.out.below.size)
      have z8W := HTI.out.below.size
      have HOLD := hide (show ∀ (k : Int) X, RI V W.heap.size k X → Below w3.heap.size w3 X ∧ TI w3 bt 1 Ds X ∧ Below W.heap.size W X from fun k X h => by
        have q : Below W.heap.size W X := h.below hbV (by omega) (Nat.le_refl _)
        exact ⟨h.below hVw (by omega) (by omega), HTI.out.later q, q⟩)
      have h0 : RI V W.heap.size 0 V := ⟨⟨rfl, rfl, rfl, Nat.le_refl _, fun _ _ _ => rfl⟩, v1, v2⟩
      have zac := HAC.out.lts
      clear hV cturn v1 v2
      refine range_G (n := 4) (by decide) (gf := 53) (lb := #[.pointer (some ⟨Bx, 0, none⟩)]) rfl (enters_of Try.func53 (by kernel_rfl) rfl)
        (acc_seqW 3 (by decide) HAC.out HS.out.snd.few) (fun i hi => by rcases hi with rfl | rfl <;> omega) (HB3.out.trans (hVw.mono z3) : Below w2.heap.size w2 V) (fun _ => rfl)
        (fun pre X => RI V W.heap.size (pre.length : Int) X ∧ 0 ≤ pre.length)
        (fun _ _ _ => False)
        (fun pre X Y hs hb => ⟨hs.1.later (by omega) hb, hs.2⟩)
        (fun _ _ _ _ hs _ => hs)
        ⟨h0, Nat.zero_le _⟩
        (fun pre p a' X => ∃ j Bb, j < S.acc.length ∧ pre = upto (numA S.acc) j ∧ p = numA S.acc j ∧ V.heap.size + 2 ≤ Bb ∧ Bb < X.heap.size ∧ BoxA X Bb p.2 ∧ a' = { tmps := #[Value.pointer (some ⟨F.b, 0, none⟩), Value.pointer (some ⟨R, 0, none⟩), Value.int .i64 x, undef, Value.pointer (some ⟨w.heap.size, 0, none⟩), Value.pointer (some ⟨w.heap.size + 1, 0, none⟩), Value.pointer (some ⟨w.heap.size + 1 + 1, 0, none⟩), Value.int .i64 (S.acc.length : Int), Value.int .i64 (S.posts.length : Int), Value.func (Fn.func 53) #[] #[Value.pointer (some ⟨Bx, 0, none⟩)], Value.func (Fn.func 59) #[] #[Value.pointer (some ⟨By, 0, none⟩)], Value.pointer (some ⟨bt, 0, none⟩), Value.pointer (some ⟨W.heap.size, 0, none⟩), Value.pointer (some ⟨W.heap.size + 1, 0, none⟩), Value.int .i64 (p.1 : Int), Value.pointer (some ⟨Bb, 0, none⟩), undef, undef, undef, undef, Value.tuple #[Value.int .i64 (S.acc.length : Int), Value.int .i64 (S.posts.length : Int)], Value.pointer (some ⟨F.b, 0, none⟩), Value.tuple #[Value.int .i64 (S.acc.length : Int), Value.int .i64 (S.posts.length : Int)], Value.int .i64 (S.acc.length : Int), Value.int .i64 (S.posts.length : Int), Value.pointer (some ⟨F.b, 0, none⟩), Value.func (Fn.func 53) #[] #[Value.pointer (some ⟨Bx, 0, none⟩)], Value.pointer (some ⟨F.b, 0, none⟩), Value.func (Fn.func 59) #[] #[Value.pointer (some ⟨By, 0, none⟩)], Value.func (Fn.func 53) #[] #[Value.pointer (some ⟨Bx, 0, none⟩)], Value.bool false, Value.bool false, Value.func (Fn.func 59) #[] #[Value.pointer (some ⟨By, 0, none⟩)], Value.bool false, Value.bool false, Value.bool false, Value.int .i64 (S.acc.length : Int), Value.pointer (some ⟨R, 0, none⟩), Value.pointer (some ⟨R, 0, none⟩), Value.pointer (some ⟨R, 0, none⟩), Value.slice no S.acc.length nc, Value.int .i64 (S.acc.length : Int), Value.bool false, Value.bool false, Value.bool false, Value.int .i64 (S.posts.length : Int), Value.pointer (some ⟨R, 0, none⟩), Value.pointer (some ⟨R, 0, none⟩), Value.pointer (some ⟨R, 2, none⟩), Value.slice po S.posts.length pc, Value.int .i64 (S.posts.length : Int), Value.bool false, Value.bool false, Value.int .i64 1, Value.bool true, q55, q56, Value.func (Fn.func 53) #[] #[Value.pointer (some ⟨Bx, 0, none⟩)], Value.int .i64 (p.1 : Int), .agg #[.string p.2.name, .int .i64 p.2.least, .int .i64 p.2.has], undef, undef, undef, undef, undef, undef, undef, undef, undef, undef, undef, undef, undef, undef, undef, undef, undef, undef, undef, undef, undef, undef, undef, undef, undef, undef, undef, undef, undef, undef, undef, undef, q92, undef, undef, undef, undef, undef, undef, undef, undef, undef, undef, undef, undef, undef, undef, undef, undef, undef, undef, undef, undef, undef, undef, undef, undef, undef, undef, undef, undef, undef, undef, undef, undef, undef, undef, undef, undef, undef, q130, q131, q132, q133, q134, q135, q136, q137, q138, q139, q140, q141, q142, q143, q144, q145, q146, q147, q148, q149, q150, q151, q152, q153, q154, q155, q156, q157, q158, q159, q160, q161, q162, q163, q164, q165, q166, q167, q168, q169, q170, q171, q172, q173, q174, q175, q176, q177, q178, q179, q180, q181, q182], defers := [] })
        (fun pre p a' X o hx => ?_) ?assign ?body ?done ?stop
      · obtain ⟨j, Bb, h1, h2, h3, h4, h5, h6, h7⟩ := hx
        exact ⟨j, Bb, h1, h2, h3, h4, by simpa using h5, h6.put (by omega) o, h7⟩
      case assign =>
        rintro l pre p X K' hI ⟨j, hj, rfl, rfl⟩ hlt hK
        gi_wp2
        have hb := (Below.refl X.heap.size X).alloc (Nat.le_refl _) (.cells #[.string (numA S.acc j).2.name, .int .i64 (numA S.acc j).2.least, .int .i64 (numA S.acc j).2.has] 70)
        exact hK _ _ (KeepsOthers.alloc _ _) (Fix.of_below hb) ⟨hI.1.later (by omega) (hb.mono (by have := hI.1.g.size; omega)), hI.2⟩ ⟨j, X.heap.size, hj, rfl, rfl, by omega, by simp, BoxA.new X _, rfl⟩
      case body =>
        rintro l pre p a' X ⟨hRI, hinv⟩ hlt2 ⟨j, Bb, hj, rfl, rfl, hBb, hBz, hbx, rfl⟩
        rw [upto_length] at hRI
        have HUP := hide (upto_succ (numA S.acc) j)
        obtain ⟨a, ha⟩ : ∃ a, a = accAt0 S.acc j := ⟨_, rfl⟩
        have HGA := hide (show S.acc[j]? = some a by rw [ha]; exact accAt0_get hj)
        obtain ⟨hb3, hTX, hbW⟩ := HOLD.out _ _ hRI
        have b0 : X.cell? ⟨Bb, 0, none⟩ = some (.string a.name) := by rw [ha]; exact hbx.1
        have b1 : X.cell? ⟨Bb, 1, none⟩ = some (.int .i64 a.least) := by rw [ha]; exact hbx.2.1
        have b2 : X.cell? ⟨Bb, 2, none⟩ = some (.int .i64 a.has) := by rw [ha]; exact hbx.2.2
        rw [show (numA S.acc j).2 = a from ha.symm, show (numA S.acc j).1 = j from rfl]
        have cl' := cell_stay CL.out (hb3.block _ (World.block_lt_of_cell? w3 _ CL.out))
        have cx' := cell_stay CX.out (hb3.block _ (World.block_lt_of_cell? w3 _ CX.out))
        have HRX := hide (HR3.out.below hb3)
        have c0 := HRX.out.c0
        have c2 := HRX.out.c2
        simp only at c0 c2
        have ct := hTX.turn
        have ck := hRI.at_
        have HRI := hide hRI
        have HB3 := hide hb3
        have hj9 : (j : Int) < 70000 := by have := HS.out.snd.few; omega
        have hj0 : (0 : Int) ≤ (j : Int) := by omega
        clear hbx ha hb3 hTX hbW hRI
        gi_wp2_with fail
        refine (CallsIn.inRound l (callsIn_wide.2 (Account_ryes I _ S j a X HRX.out HS.out HA.out HGA.out))).mono ?_
        rintro e Y ⟨rfl, hbY⟩
        obtain ⟨Y2, hY2⟩ : ∃ Y2, Y2 = Y.alloc (.cells #[.string a.name, .int .i64 a.least, .int .i64 a.has] 70) := ⟨_, rfl⟩
        have hb2 : Below X.heap.size X Y2 := by rw [hY2]; exact hbY.alloc hbY.size _
        have d0 : Y2.cell? ⟨Y.heap.size, 0, none⟩ = some (.string a.name) := by rw [hY2]; simp [go_sem]
        have d1 : Y2.cell? ⟨Y.heap.size, 1, none⟩ = some (.int .i64 a.least) := by rw [hY2]; simp [go_sem]
        have d2 : Y2.cell? ⟨Y.heap.size, 2, none⟩ = some (.int .i64 a.has) := by rw [hY2]; simp [go_sem]
        have b0 := cell_stay b0 (hb2.block _ hBz)
        have b1 := cell_stay b1 (hb2.block _ hBz)
        have b2 := cell_stay b2 (hb2.block _ hBz)
        have cl' := cell_stay cl' (hb2.block _ (World.block_lt_of_cell? X _ cl'))
        have cx' := cell_stay cx' (hb2.block _ (World.block_lt_of_cell? X _ cx'))
        have c0 := cell_stay c0 (hb2.block _ (World.block_lt_of_cell? X _ c0))
        have ct := cell_stay ct (hb2.block _ (World.block_lt_of_cell? X _ ct))
        have HR2 := hide (HRI.out.later (by omega) (hb2.mono (by have := HRI.out.g.size; omega)))
        have ck := HR2.out.at_
        have fk := HR2.out.f
        have HB2 := hide hb2
        have HY2 := hide hY2
        have n1 : ((j : Int) != (j : Int)) = false := by simp
        have n2 : decide ((S.acc.length : Int) ≤ (j : Int)) = false := by (rw [decide_eq_false_iff_not]; omega)
        have n3 : decide (S.acc.length ≤ j) = false := by (rw [decide_eq_false_iff_not]; omega)
        have n4 := neq70 a.name a.least a.has
        have n5 : decide ((j : Int) = (j : Int)) = true := by simp
        have FIN := hide (show ∀ nq, KeepsFrom V.heap.size X ((Y2.drewN nq).setCell ⟨W.heap.size, 0, none⟩ (.int .i64 ((j : Int) + 1))) ∧ Fix (fun i => i = Bx ∨ i = g) X ((Y2.drewN nq).setCell ⟨W.heap.size, 0, none⟩ (.int .i64 ((j : Int) + 1))) ∧ RI V W.heap.size ((j : Int) + 1) ((Y2.drewN nq).setCell ⟨W.heap.size, 0, none⟩ (.int .i64 ((j : Int) + 1))) from fun nq => by
          have q1 : Below X.heap.size X (Y2.drewN nq) := bdrewN HB2.out nq
          have q2 := HRI.out.later (by omega) (q1.mono (by have := HRI.out.g.size; omega))
          refine ⟨(KeepsFrom.of_below q1).trans ((q2.keeps (fun b hb => heap_setCell_other _ _ _ _ hb) (by rw [World.size_setCell])).from _), (Fix.of_below q1).set (by have := HAC.out.lts; omega) _ _, q2.step _⟩)
        clear hb2 hbY hY2
        gi_wp2_with fail
        rw [← HY2.out]
        gi_wp2_with fail
        refine wpIn_region_quiet_round (by kernel_rfl) (by kernel_rfl) (by kernel_rfl) ?_
        repeat (gi_big_quiet_step (fail))
        refine wpQuietIn_nil ?_
        intro _ hw'
        obtain ⟨nq, hw''⟩ := hw'
        subst hw''
        have EK := hide (show ((upto (numA S.acc) j ++ [numA S.acc j]).length : Int) = (j : Int) + 1 by simp [upto_length])
        gi_wp2
        have q := FIN.out nq
        exact ⟨q.1, q.2.1, by rw [EK.out]; exact q.2.2, Nat.zero_le _⟩
      case done =>
        rintro D ys X hD rfl ⟨hRI, hinv⟩ hKd
        rw [upto_length] at hRI
        gi_wp2_with fail
        obtain ⟨hb3X, hTX, hbWX⟩ := HOLD.out _ _ hRI
        have hXV := hRI.g.size
        have mb1 := cell_stay M1.out (hRI.old (b := W.heap.size + 1) (by omega) (by omega))
        have mb2 := fro_stay M2.out (hRI.old (b := W.heap.size + 1) (by omega) (by omega))
        have hDz := (Array.getElem?_eq_some_iff.1 hKd).1
        have ck0 := hRI.at_
        have HOLD2 := hide (show ∀ (m : Int) Y, RI X (W.heap.size + 1) m Y → Below w3.heap.size w3 Y ∧ TI w3 bt 1 Ds Y ∧ Below W.heap.size W Y ∧ Y.cell? ⟨W.heap.size, 0, none⟩ = some (.int .i64 (S.acc.length : Int)) ∧ Y.heap[D]? = some (.deferred (some [])) from fun m Y h => by
          have q : Below W.heap.size W Y := h.below hbWX (by omega) (by omega)
          exact ⟨h.below hb3X (by omega) (by omega), HTI.out.later q, q, cell_stay ck0 (h.old (by omega) (by omega)), (h.old hDz (by omega)).trans hKd⟩)
        have h02 : RI X (W.heap.size + 1) 0 X := ⟨⟨rfl, rfl, rfl, Nat.le_refl _, fun _ _ _ => rfl⟩, mb1, mb2⟩
        have HSX := hide (HSQ.out X hb3X)
        have HDV := hide hD
        have HDX := hide hDz
        have HDS := hide hDs
        have HXI := hide hRI
        have hw3X := hb3X.size
        clear hTX mb1 mb2 hKd ck0 hb3X hbWX hRI
        refine range_L (n := 4) (by decide) (gf := 59) (lb := #[.pointer (some ⟨By, 0, none⟩)]) rfl (enters_of Try.func59 (by kernel_rfl) rfl)
          HSX.out (fun i hi => by have := HK1.out i hi; omega) (Below.refl _ _) (fun _ => rfl)
          (fun pre Y => RI X (W.heap.size + 1) (pre.length : Int) Y ∧ pre.length ≤ S.posts.length ∧ 0 ≤ pre.length)
          (fun _ _ _ => False)
          (fun pre Y Z hs hb => ⟨hs.1.later (by omega) hb, hs.2⟩)
          (fun _ _ _ _ hs _ => hs)
          ⟨h02, Nat.zero_le _, Nat.zero_le _⟩
          (fun pre p a' Y => NxA S.posts X.heap.size pre p Y ∧ a' = { tmps := #[Value.pointer (some ⟨F.b, 0, none⟩), Value.pointer (some ⟨R, 0, none⟩), Value.int .i64 x, undef, Value.pointer (some ⟨w.heap.size, 0, none⟩), Value.pointer (some ⟨w.heap.size + 1, 0, none⟩), Value.pointer (some ⟨w.heap.size + 1 + 1, 0, none⟩), Value.int .i64 (S.acc.length : Int), Value.int .i64 (S.posts.length : Int), Value.func (Fn.func 53) #[] #[Value.pointer (some ⟨Bx, 0, none⟩)], Value.func (Fn.func 59) #[] #[Value.pointer (some ⟨By, 0, none⟩)], Value.pointer (some ⟨bt, 0, none⟩), Value.pointer (some ⟨W.heap.size, 0, none⟩), Value.pointer (some ⟨W.heap.size + 1, 0, none⟩), undef, undef, undef, undef, Value.int .i64 (p.1 : Int), p.2, Value.tuple #[Value.int .i64 (S.acc.length : Int), Value.int .i64 (S.posts.length : Int)], Value.pointer (some ⟨F.b, 0, none⟩), Value.tuple #[Value.int .i64 (S.acc.length : Int), Value.int .i64 (S.posts.length : Int)], Value.int .i64 (S.acc.length : Int), Value.int .i64 (S.posts.length : Int), Value.pointer (some ⟨F.b, 0, none⟩), Value.func (Fn.func 53) #[] #[Value.pointer (some ⟨Bx, 0, none⟩)], Value.pointer (some ⟨F.b, 0, none⟩), Value.func (Fn.func 59) #[] #[Value.pointer (some ⟨By, 0, none⟩)], Value.func (Fn.func 53) #[] #[Value.pointer (some ⟨Bx, 0, none⟩)], Value.bool false, Value.bool false, Value.func (Fn.func 59) #[] #[Value.pointer (some ⟨By, 0, none⟩)], Value.bool false, Value.bool false, Value.bool false, Value.int .i64 (S.acc.length : Int), Value.pointer (some ⟨R, 0, none⟩), Value.pointer (some ⟨R, 0, none⟩), Value.pointer (some ⟨R, 0, none⟩), Value.slice no S.acc.length nc, Value.int .i64 (S.acc.length : Int), Value.bool false, Value.bool false, Value.bool false, Value.int .i64 (S.posts.length : Int), Value.pointer (some ⟨R, 0, none⟩), Value.pointer (some ⟨R, 0, none⟩), Value.pointer (some ⟨R, 2, none⟩), Value.slice po S.posts.length pc, Value.int .i64 (S.posts.length : Int), Value.bool false, Value.bool false, Value.int .i64 1, Value.bool true, q55, q56, Value.func (Fn.func 53) #[] #[Value.pointer (some ⟨Bx, 0, none⟩)], undef, undef, undef, undef, undef, undef, undef, undef, undef, undef, undef, undef, undef, undef, undef, undef, undef, undef, undef, undef, undef, undef, undef, undef, undef, undef, undef, undef, undef, undef, undef, undef, undef, undef, Value.func (Fn.func 59) #[] #[Value.pointer (some ⟨By, 0, none⟩)], Value.int .i64 (p.1 : Int), p.2, undef, undef, undef, undef, undef, undef, undef, undef, undef, undef, undef, undef, undef, undef, undef, undef, undef, undef, undef, undef, undef, undef, undef, undef, undef, undef, undef, undef, undef, undef, undef, undef, undef, undef, undef, q130, q131, q132, q133, q134, q135, q136, q137, q138, q139, q140, q141, q142, q143, q144, q145, q146, q147, q148, q149, q150, q151, q152, q153, q154, q155, q156, q157, q158, q159, q160, q161, q162, q163, q164, q165, q166, q167, q168, q169, q170, q171, q172, q173, q174, q175, q176, q177, q178, q179, q180, q181, q182], defers := [] })
          (fun pre p a' Y o lp hl hx => ?_) ?assign2 ?body2 ?done2 ?stop2
        · obtain ⟨⟨h1, p, h2, h3⟩, h4⟩ := hx
          exact ⟨⟨h1, p, h2, own_stays h3 (fun k hk => World.putObj_heap_other (row_noloop h3 hl k hk))⟩, h4⟩
        case assign2 =>
          rintro l pre p Y K' hI hN hlt hK
          gi_wp2
          exact hK _ _ ⟨Nat.le_refl _, fun _ _ h _ => h⟩ (Fix.of_below (Below.refl _ _)) hI ⟨hN, rfl⟩
        case body2 =>
          rintro l pre ⟨n, v⟩ a' Y ⟨hRI2, hple, hinv⟩ hlt2 ⟨⟨hn, q, hq, hrow⟩, rfl⟩
          simp only at hn hrow
          subst hn
          obtain ⟨ao, ac, rfl⟩ := own_any hrow
          obtain ⟨m, hm⟩ : ∃ m, m = pre.length := ⟨_, rfl⟩
          have HKK := hide (show ∀ z : Nat × Value, ((pre ++ [z]).length : Int) = (m : Int) + 1 ∧ (pre ++ [z]).length = m + 1 from fun z => by rw [hm]; simp)
          rw [← hm] at hRI2 hple hq ⊢
          have hmP : m < S.posts.length := (List.getElem?_eq_some_iff.1 hq).1
          obtain ⟨vs, hpr, hpq⟩ := (HR3.out.below (HOLD2.out _ _ hRI2).1).pr
          obtain ⟨v2, hv2, hpo⟩ := hpq m q hq
          obtain ⟨g2, cp2, hv2s, hc2⟩ := own_at hpr hmP
          injection hv2s with e1 e2 e3
          obtain ⟨ao2, ac2, rfl⟩ := own_any hpo.1
          rw [hv2] at hc2
          have HE1 := hide (show Ents ao ac q Y from by
            obtain ⟨so', cap', e, hE⟩ := Ents.of_own hrow
            injection e with e1 e2 e3
            rw [e1, e3]; exact hE)
          have HE2 := hide (show Ents ao2 ac2 q Y from by
            obtain ⟨so', cap', e, hE⟩ := Ents.of_own hpo.1
            injection e with e1 e2 e3
            rw [e1, e3]; exact hE)
          have HQL := hide (show q.length ≤ 4503599627370496 by have := (HS.out.frm q (List.mem_of_getElem? hq)).2.1; omega)
          obtain ⟨hb3, hTX, hbW, ck, hdd⟩ := HOLD2.out _ _ hRI2
          have cl' := cell_stay CL.out (hb3.block _ (World.block_lt_of_cell? w3 _ CL.out))
          have cx' := cell_stay CX.out (hb3.block _ (World.block_lt_of_cell? w3 _ CX.out))
          have HRX := hide (HR3.out.below hb3)
          have c0 := HRX.out.c0
          have c2 := HRX.out.c2
          simp only at c0 c2
          have ct := hTX.turn
          have cm := hRI2.at_
          have HDD := hide hdd
          have HBW2 := hide hbW
          rw [e1] at c2
          have fm := hRI2.f
          have HROW := hide hrow
          have HRI2 := hide hRI2
          have m9 : (m : Int) < 400 := by have := HA.out.few; omega
          have m0 : (0 : Int) ≤ (m : Int) := by omega
          have hmPi : (m : Int) < (S.posts.length : Int) := by omega
          have n1 : ((m : Int) != (m : Int)) = false := by simp
          have n5 : decide ((m : Int) = (m : Int)) = true := by simp
          have n2 : decide ((S.posts.length : Int) ≤ (m : Int)) = false := by (rw [decide_eq_false_iff_not]; omega)
          have n3 : decide (S.posts.length ≤ m) = false := by (rw [decide_eq_false_iff_not]; omega)
          have SME := hide (show ∀ nq, Calls Try.prog 36 #[.slice ao q.length ac, .slice ao2 q.length ac2] (Y.drewN nq) fun e w' => e = .returned (.bool true) ∧ ∃ m, w' = (Y.drewN nq).drewN m from fun nq => (SameEntries_d ao ao2 ac ac2 q q _ (HE1.out.below (bdrewN (Below.refl _ _) nq)) (HE2.out.below (bdrewN (Below.refl _ _) nq)) HQL.out).mono fun e w' hh => ⟨by rw [hh.1]; simp, hh.2⟩)
          clear hm hpr hpq hv2 hpo hq hb3 hTX hbW hdd e1 e2 e3 hrow hRI2 hlt2
          gi_wp2_with fail
          refine wpIn_region_quiet_round (by kernel_rfl) (by kernel_rfl) (by kernel_rfl) ?_
          repeat (gi_big_quiet_step ((gi_at_call 36; exact CallsIn.quiet_of (CallsIn.inRound l (callsIn_wide.2 (SME.out _))))))
          refine wpQuietIn_nil ?_
          intro _ hw'
          obtain ⟨nq, hw''⟩ := hw'
          subst hw''
          obtain ⟨Z, hZ⟩ : ∃ Z, Z = Y.drewN nq := ⟨_, rfl⟩
          rw [← hZ]
          have hbZ : Below Y.heap.size Y Z := by rw [hZ]; exact bdrewN (Below.refl _ _) nq
          have HRZ := hide (own_stays HROW.out (fun k hk => hbZ.block k (HROW.out.lt k hk).2))
          have HBZ := hide hbZ
          clear hZ hbZ
          gi_wp2_with fail
          refine (CallsIn.inRound l (callsIn_wide.2 (over_g X.heap.size q.length _ _ Z HRZ.out HQL.out))).mono ?_
          rintro e U ⟨⟨uu, rfl⟩, hg⟩
          have zXY := HRI2.out.g.size
          have hbU : Below X.heap.size Z U := (Below.refl _ _).grown hg (by have := HBZ.out.size; omega) (fun k e => (HRZ.out.lt k e).1)
          have hbYU : Below X.heap.size Y U := (HBZ.out.mono zXY).trans hbU
          have HKF := hide ((KeepsFrom.of_below (B := X.heap.size) HBZ.out).trans (KeepsFrom.of_grown HRZ.out hg))
          have RU := HRI2.out.later (by omega) hbYU
          have cm := RU.at_
          have fm := RU.f
          have ct := (HOLD2.out _ _ RU).2.1.turn
          have cx' := cell_stay CX.out ((HOLD2.out _ _ RU).1.block _ (World.block_lt_of_cell? w3 _ CX.out))
          have FIN := hide (show KeepsFrom X.heap.size Y (U.setCell ⟨W.heap.size + 1, 0, none⟩ (.int .i64 ((m : Int) + 1))) ∧ Fix K Y (U.setCell ⟨W.heap.size + 1, 0, none⟩ (.int .i64 ((m : Int) + 1))) ∧ RI X (W.heap.size + 1) ((m : Int) + 1) (U.setCell ⟨W.heap.size + 1, 0, none⟩ (.int .i64 ((m : Int) + 1))) from
            ⟨HKF.out.trans ((RU.keeps (fun b hb => heap_setCell_other _ _ _ _ hb) (by rw [World.size_setCell])).from _), (⟨hbYU.size, fun i hi _ => hbYU.block i (by have := HK1.out i hi; omega)⟩ : Fix K Y U).set (fun hi => by have := HK1.out _ hi; omega) _ _, RU.step _⟩)
          clear hg hbU hbYU RU
          gi_wp2
          have q := FIN.out
          exact ⟨q.1, q.2.1, by rw [(HKK.out _).1]; exact q.2.2, by rw [(HKK.out _).2]; omega, Nat.zero_le _⟩
        case done2 =>
          rintro D2 ys Y hD2 hys ⟨hRI2, -, hinv⟩ hKd2
          rw [hys] at hRI2
          obtain ⟨hb3, hTX, hbW, ck, hdd⟩ := HOLD2.out _ _ hRI2
          have cl' := cell_stay CL.out (hb3.block _ (World.block_lt_of_cell? w3 _ CL.out))
          have cx' := cell_stay CX.out (hb3.block _ (World.block_lt_of_cell? w3 _ CX.out))
          have HRX := hide (HR3.out.below hb3)
          have c0 := HRX.out.c0
          have c2 := HRX.out.c2
          simp only at c0 c2
          have ct := hTX.turn
          have cm := hRI2.at_
          have HDD := hide hdd
          have HBW2 := hide hbW
          have HD2 := hide (And.intro hD2 hKd2)
          clear hb3 hTX hbW hdd hRI2 hinv hKd2 hD2 hys
          have ek1 : ((S.acc.length : Int) != (S.acc.length : Int)) = false := by simp
          have ek2 : decide ((S.acc.length : Int) = (S.acc.length : Int)) = true := by simp
          have em1 : ((S.posts.length : Int) != (S.posts.length : Int)) = false := by simp
          have em2 : decide ((S.posts.length : Int) = (S.posts.length : Int)) = true := by simp
          gi_wp2_with fail
          gi_quiet (fail)
          obtain ⟨Z, hZ⟩ : ∃ Z, Z = Y.drewN nq := ⟨_, rfl⟩
          rw [← hZ]
          have hbZ : Below Y.heap.size Y Z := by rw [hZ]; exact bdrewN (Below.refl _ _) nq
          have ct := cell_stay ct (hbZ.block _ (World.block_lt_of_cell? Y _ ct))
          have HZD := hide (And.intro ((hbZ.block D (by have := (Array.getElem?_eq_some_iff.1 HDD.out).1; omega)).trans HDD.out) ((hbZ.block D2 (by have := (Array.getElem?_eq_some_iff.1 HD2.out.2).1; omega)).trans HD2.out.2))
          have HBZ := hide (bstep HBW2.out hbZ)
          clear hZ hbZ
          gi_wp2
          refine HK2.out _ _ ⟨Z.heap.size, [D2, D] ++ Ds, _, _, _, _, _, _, _, _, _, _, _, _, _, _, _, _, _, _, _, _, _, _, _, _, _, _, _, _, _, _, _, _, _, _, _, _, _, _, _, _, _, _, _, _, _, _, _, _, _, _, _, _, _, _, _, _, _, _, _, _, _, ?_, by have := HDS.out; simp [this], rfl⟩
          exact HTI.out.next 2 HBZ.out (fun E hE => by
            rcases List.mem_cons.1 hE with rfl | hE
            · exact ⟨by have := HD2.out.1; omega, HZD.out.2⟩
            · obtain rfl : E = D := by simpa using hE
              exact ⟨by have := HDV.out; omega, HZD.out.1⟩) (by have := HD2.out.1; have := HDX.out; simp; omega)
        case stop2 =>
          rintro D2 c pre Y _ _ hh _
          exact hh.elim
      case stop =>
        rintro D c pre X _ _ hh _
        exact hh.elim
end Go.Proofs.Ytkdocoibfclfeaa

