/- Contracts of the layer's functions, each proved once, in the order in which they are used. No condition beyond each theorem's own. -/
import Derived.Test.YtkdocoibfclfeaaMf
import Derived.Test.YtkdocoibfclfeaaMe
import Derived.Test.YtkdocoibfclfeaaMc
import Derived.Sort.LoopGhostIn
import Derived.Deep.RegionLaw
import Derived.Test.YtkdocoibfclfeaaMg
import Derived.Test.YtkdocoibfclfeaaMd
import Derived.Maps.AppendAt
import Derived.Deep.AppendLies
import Derived.Deep.Matrix
import Derived.SliceStrings
import Derived.SizedLaws
namespace Go.Proofs.Ytkdocoibfclfeaa
open Go.ChangeShapes Go.WideShapes Go.ChangeAt Go.RowKit Go.Deep Go.Shelf Go.Maps Go.WideMaps Ytkdocoibfclfeaa.it
set_option linter.unusedSimpArgs false
set_option linter.unusedVariables false

attribute [local go_sem] Oper.semAt_some

theorem wp_noPan {P : Program} {c : Code} {Q : Exit → Act → World → Prop} {a : Act} {w : World} (h : c.wp P (noPan Q) a w) : c.wp P Q a w :=
  Code.wp_mono (fun e a w q => by cases e <;> first | exact q | exact q.elim) h
theorem noPan_n {Q : Exit → Act → World → Prop} {a : Act} {w : World} (h : Q .normal a w) : noPan Q .normal a w := h
/-- the result's box, the other ledger's box -/
structure SaI (S S2 : LS) (Bo Br b2 : Nat) (j : Nat) (W : World) : Prop where
  o : W.cell? ⟨Bo, 0, none⟩ = some (.pointer (some ⟨b2, 0, none⟩))
  r : W.cell? ⟨Br, 0, none⟩ = some (.bool false)
  rf : W.frozen? ⟨Br, 0, none⟩ = false
  sm : ∀ (i : Nat) (a b : Acc), i < j → S.acc[i]? = some a → S2.acc[i]? = some b → a.name = b.name ∧ a.least = b.least
theorem SaI.old {S S2 : LS} {Bo Br b2 j : Nat} {W W' : World} (h : SaI S S2 Bo Br b2 j W) (h1 : W'.heap[Bo]? = W.heap[Bo]?) (h2 : W'.heap[Br]? = W.heap[Br]?) : SaI S S2 Bo Br b2 j W' := ⟨cell_stay h.o h1, cell_stay h.r h2, fro_stay h.rf h2, h.sm⟩
set_option maxRecDepth 100000 in
set_option maxHeartbeats 4000000 in
theorem Same_ff (I : Nat → Prop) (F F2 : Fp) (S S2 : LS) (w : World) (h : LObj I F S w) (h2 : LObj I F2 S2 w) (hS : Fine S) (hl : S.posts.length ≤ 300) : Calls Try.prog 18 #[.pointer (some ⟨F.b, 0, none⟩), .pointer (some ⟨F2.b, 0, none⟩)] w fun e w' => e = .returned (.bool (sameB S S2)) ∧ Below w.heap.size w w' := by
  obtain ⟨W, hW⟩ : ∃ W, W = (w.alloc (.cells #[.pointer (some ⟨F2.b, 0, none⟩)] 25)).alloc (.cells #[.bool false] 4) := ⟨_, rfl⟩
  have hbW : Below w.heap.size w W := by rw [hW]; (focus repeat' (first | (with_reducible exact Below.refl _ _) | (with_reducible assumption) | (with_reducible refine Below.alloc ?_ ?_ _) | (with_reducible refine Below.drew ?_) | (with_reducible refine bdrewN ?_ _) | (with_reducible refine Below.setCell ?_ ?_ _) | (first | (with_reducible exact Nat.le_refl _) | (with_reducible assumption) | omega | (simp; omega) | (simp; done))))
  have H := hide (h.below hbW)
  have H2 := hide (h2.below hbW)
  have HS := hide hS
  have HL := hide hl
  have co : W.cell? ⟨w.heap.size, 0, none⟩ = some (.pointer (some ⟨F2.b, 0, none⟩)) := by rw [hW]; simp [go_sem]
  have cr : W.cell? ⟨w.heap.size + 1, 0, none⟩ = some (.bool false) := by rw [hW]; simp [go_sem]
  have fr : W.frozen? ⟨w.heap.size + 1, 0, none⟩ = false := by rw [hW]; simp [go_sem]
  have HBW := hide hbW
  have HW := hide hW
  have zw : w.heap.size + 1 < W.heap.size := World.block_lt_of_cell? W _ cr
  clear h h2 hS hl hbW hW
  refine (callsIn_wide (n := 3)).1 ?_
  refine callsIn_of_wp_marks Try.func18 rfl trivial ?_ rfl
  simp only [Try.ntmps18, List.size_toArray, List.length_cons, List.length_nil, Nat.reduceAdd, Nat.reduceSub, Array.replicate_succ, Array.replicate_zero, List.push_toArray, List.append_toArray, List.nil_append, List.cons_append]
  refine (wpIn_wide (n := 3)).2 ?_
  go_wp2_with fail
  rw [← HW.out]
  refine (isLedger W F.b F.t H.out.b0).mono ?_
  rintro e w1 ⟨rfl, rfl⟩
  go_wp2_with fail
  refine (isLedger W F2.b F2.t H2.out.b0).mono ?_
  rintro e w1 ⟨rfl, rfl⟩
  have m1 := H.out.b1
  have m2 := H2.out.b1
  have l1 : ∀ q, Sem.run Try.prog (Builtin.len_ #[57] 3 #[.map (some F.m)]) (W.drewN q) = .ok (.int .i64 (S.acc.length : Int)) (W.drewN q) := fun q => (H.out.mm.stays (w' := W.drewN q) (Nat.le_refl _) rfl).len Try.underlying57 3
  have l2 : ∀ q, Sem.run Try.prog (Builtin.len_ #[57] 3 #[.map (some F2.m)]) (W.drewN q) = .ok (.int .i64 (S2.acc.length : Int)) (W.drewN q) := fun q => (H2.out.mm.stays (w' := W.drewN q) (Nat.le_refl _) rfl).len Try.underlying57 3
  go_wp2_with fail
  by_cases he : S.acc.length = S2.acc.length
  · have HE := hide he
    rw [← he] at l2
    have q1 : ((S.acc.length : Int) != (S.acc.length : Int)) = false := by simp
    clear he
    go_quiet (fail)
    obtain ⟨V, hV⟩ : ∃ V, V = W.drewN nq := ⟨_, rfl⟩
    have hbV : Below W.heap.size W V := by rw [hV]; exact bdrewN (Below.refl _ _) _
    have co' := cell_stay co (hbV.block _ (by omega))
    have cr' := cell_stay cr (hbV.block _ zw)
    have fr' := fro_stay fr (hbV.block _ zw)
    have HV1 := hide (H.out.below hbV)
    have HV2 := hide (H2.out.below hbV)
    have HBV := hide (bstep HBW.out hbV)
    rw [← hV]
    clear l1 l2 m1 m2 co cr fr hV hbV q1
    go_wp2_with fail
    refine (Accounts_c I F S V HV1.out HS.out.snd.few).mono ?_
    rintro e w5 ⟨Bx, g, rfl, hac, hb5⟩
    have hz5 := hb5.size
    have zV : w.heap.size + 1 < V.heap.size := World.block_lt_of_cell? V _ cr'
    have HB5 := hide (bstep HBV.out hb5)
    have HAC := hide hac
    have hlb := hac.lb
    have hlg := hac.lg
    have hlt := hac.lts
    have HI0 := hide (show SaI S S2 w.heap.size (w.heap.size + 1) F2.b 0 w5 from ⟨cell_stay co' (hb5.block _ (by omega)), cell_stay cr' (hb5.block _ zV), fro_stay fr' (hb5.block _ zV), fun i a b hi => by omega⟩)
    have H51 := hide (HV1.out.below hb5)
    have H52 := hide (HV2.out.below hb5)
    clear hac hb5 co' cr' fr' HV1 HV2
    go_wp2_with fail
    refine (wpIn_wide (n := 3)).1 ?_
    refine range_G (n := 3) (by decide) (gf := 53) (lb := #[.pointer (some ⟨Bx, 0, none⟩)]) rfl (enters_of Try.func53 (by kernel_rfl) rfl)
      (acc_seqW 2 (by decide) HAC.out HS.out.snd.few) (fun i hi => by rcases hi with rfl | rfl <;> omega) (Below.refl _ _) (fun _ => rfl)
      (fun pre W => (w5.heap.size ≤ W.heap.size ∧ ∃ j, j ≤ S.acc.length ∧ pre = upto (numA S.acc) j ∧ SaI S S2 w.heap.size (w.heap.size + 1) F2.b j W) ∧ Below w5.heap.size w5 W)
      (fun c _ W => c = Code.ret ∧ sameB S S2 = false ∧ W.cell? ⟨w.heap.size + 1, 0, none⟩ = some (.bool false) ∧ Below w.heap.size w W)
      ((stays_old (fun s W W' hb hI => by
        obtain ⟨j, h1, h2, h3⟩ := hI
        exact ⟨j, h1, h2, h3.old (hb _ (by omega)) (hb _ (by omega))⟩)).both (stays_below (Nat.le_refl _))) ?stx
      ⟨⟨Nat.le_refl _, 0, Nat.zero_le _, rfl, HI0.out⟩, Below.refl _ _⟩
      (fun pre x a' W => ∃ j By, j < S.acc.length ∧ pre = upto (numA S.acc) j ∧ x = numA S.acc j ∧ w5.heap.size + 2 ≤ By ∧ By < W.heap.size ∧ BoxA W By x.2 ∧ a' = { tmps := #[.pointer (some ⟨F.b, 0, none⟩), .pointer (some ⟨F2.b, 0, none⟩), undef, .pointer (some ⟨w.heap.size, 0, none⟩), .pointer (some ⟨w.heap.size + 1, 0, none⟩), .int .i64 (x.1 : Int), .pointer (some ⟨By, 0, none⟩), undef, .pointer (some ⟨F.b, 0, none⟩), .bool false, .bool false, .pointer (some ⟨F2.b, 0, none⟩), .bool false, .bool false, undef, undef, undef, undef, undef, undef, .pointer (some ⟨F.b, 0, none⟩), .pointer (some ⟨F.b, 0, none⟩), .pointer (some ⟨F.b, 1, none⟩), .map (some F.m), .int .i64 (S.acc.length : Int), .pointer (some ⟨F2.b, 0, none⟩), .pointer (some ⟨F2.b, 0, none⟩), .pointer (some ⟨F2.b, 1, none⟩), .map (some F2.m), .int .i64 (S.acc.length : Int), .bool false, .pointer (some ⟨F.b, 0, none⟩), .func (.func 53) #[] #[.pointer (some ⟨Bx, 0, none⟩)], .int .i64 (x.1 : Int), .agg #[.string x.2.name, .int .i64 x.2.least, .int .i64 x.2.has], undef, undef, undef, undef, undef, undef, undef, undef, undef, undef, undef, undef, undef, undef, undef, undef, undef, undef, undef, undef, undef, undef, undef, undef, undef, undef, undef], defers := [] })
      (fun pre x a' W o hx => ?_) ?assign ?body ?done ?stop
    case stx =>
      rintro c s W W' ⟨h1, h2, h3, h4⟩ hb
      exact ⟨h1, h2, cell_stay h3 (hb.block _ (by omega)), h4.trans (hb.mono (by omega))⟩
    · obtain ⟨j, By, h1, h2, h3, h4, h5, h6, h7⟩ := hx
      exact ⟨j, By, h1, h2, h3, h4, by simpa using h5, h6.put (by omega) o, h7⟩
    case assign =>
      rintro l pre x W K' hI ⟨j, hj, rfl, rfl⟩ hlt2 hK
      gi_wp2
      have hb := (Below.refl W.heap.size W).alloc (Nat.le_refl _) (.cells #[.string (numA S.acc j).2.name, .int .i64 (numA S.acc j).2.least, .int .i64 (numA S.acc j).2.has] 70)
      refine hK _ _ (KeepsOthers.alloc _ _) (Fix.of_below hb) ?_ ⟨j, W.heap.size, hj, rfl, rfl, by omega, by simp, BoxA.new W _, rfl⟩
      obtain ⟨⟨hz, j2, h1, h2, h3⟩, hB⟩ := hI
      exact ⟨⟨Nat.le_trans hz hb.size, j2, h1, h2, h3.old (hb.block _ (by omega)) (hb.block _ (by omega))⟩, hB.trans (hb.mono hB.size)⟩
    case body =>
      rintro l pre x a' W ⟨⟨hz, j2, hj2, hp2, hSI⟩, hB⟩ hlt2 ⟨j, By, hj, rfl, rfl, hBy, hByz, hbx, rfl⟩
      obtain rfl : j = j2 := by
        have := congrArg List.length hp2
        rw [upto_length, upto_length] at this
        exact this
      have HUP := hide (upto_succ (numA S.acc) j)
      obtain ⟨a, ha⟩ : ∃ a, a = accAt0 S.acc j := ⟨_, rfl⟩
      obtain ⟨b, hb⟩ : ∃ b, S2.acc[j]? = some b := ⟨_, List.getElem?_eq_getElem (by have := HE.out; omega)⟩
      have h2W := H52.out.below hB
      have ql := acc_look h2W.mm (show j < 9223372036854775808 by have := HS.out.snd.few; omega) hb
      have cm := h2W.b1
      have co := hSI.o
      have crr := hSI.r
      have frr := hSI.rf
      have b0 : W.cell? ⟨By, 0, none⟩ = some (.string a.name) := by rw [ha]; exact hbx.1
      have b1 : W.cell? ⟨By, 1, none⟩ = some (.int .i64 a.least) := by rw [ha]; exact hbx.2.1
      have b2 : W.cell? ⟨By, 2, none⟩ = some (.int .i64 a.has) := by rw [ha]; exact hbx.2.2
      have HAB := hide (show S.acc[j]? = some a ∧ S2.acc[j]? = some b from ⟨by rw [ha]; exact accAt0_get hj, hb⟩)
      have HSI := hide hSI
      have HBW2 := hide hB
      have HHA := hide ha
      have zr : w.heap.size + 1 < W.heap.size := by omega
      rw [show (numA S.acc j).2 = a from ha.symm, show (numA S.acc j).1 = j from rfl]
      clear hp2 hSI hB hbx ha hb h2W
      by_cases e : a.name = b.name
      · by_cases e2 : a.least = b.least
        · have s1 : (a.name.toList == b.name.toList) = true := by rw [e]; exact ba_refl _
          have x1 : (a.least != b.least) = false := by rw [e2]; simp
          have x2 : (a.least == b.least) = true := by rw [e2]; simp
          have x3 : decide (a.least = b.least) = true := by (rw [decide_eq_true_iff]; exact e2)
          have HEE := hide (And.intro e e2)
          clear e e2
          gi_wp2
          have hbb := (Below.refl W.heap.size W).alloc (Nat.le_refl _) (.cells #[.string b.name, .int .i64 b.least, .int .i64 b.has] 70)
          refine ⟨(KeepsOthers.alloc _ _).from _, Fix.of_below hbb, ⟨Nat.le_trans hz hbb.size, j + 1, by omega, HUP.out.symm, ?_⟩, HBW2.out.trans (hbb.mono HBW2.out.size)⟩
          refine ⟨cell_stay HSI.out.o (hbb.block _ (by omega)), cell_stay HSI.out.r (hbb.block _ (by omega)), fro_stay HSI.out.rf (hbb.block _ (by omega)), fun i a' b' hi ha' hb' => ?_⟩
          rcases Nat.lt_or_ge i j with r | r
          · exact HSI.out.sm i a' b' r ha' hb'
          · obtain rfl : i = j := by omega
            rw [HAB.out.1] at ha'
            rw [HAB.out.2] at hb'
            cases ha'
            cases hb'
            exact HEE.out
        · have s1 : (a.name.toList == b.name.toList) = true := by rw [e]; exact ba_refl _
          have x1 : (a.least != b.least) = true := by (rw [bne_iff_ne]; exact e2)
          have x2 : (a.least == b.least) = false := by (rw [beq_eq_false_iff_ne]; exact e2)
          have x3 : decide (a.least = b.least) = false := by (rw [decide_eq_false_iff_not]; exact e2)
          have HN := hide (show sameB S S2 = false from sameB_least HAB.out.1 HAB.out.2 e2)
          clear e e2
          gi_wp2
          have hbw0 : Below w.heap.size w W := HB5.out.trans (HBW2.out.mono HB5.out.size)
          have hbs := hbw0.setCell (p := ⟨w.heap.size + 1, 0, none⟩) (by show w.heap.size ≤ w.heap.size + 1; omega) (.bool false)
          refine ⟨((KeepsOthers.setCell _ _ _).from _).trans ((KeepsOthers.alloc _ _).from _), rfl, HN.out, ?_, hbs.alloc hbs.size _⟩
          exact cell_stay (World.cell?_setCell_same' W ⟨w.heap.size + 1, 0, none⟩ _ (by rw [HSI.out.r]; rfl)) (Below.heap_alloc _ _ _ (by simpa using zr))
      · have s1 : (a.name.toList == b.name.toList) = false := ba_ne e
        have HN := hide (show sameB S S2 = false from sameB_name HAB.out.1 HAB.out.2 e)
        clear e
        gi_wp2
        have hbw0 : Below w.heap.size w W := HB5.out.trans (HBW2.out.mono HB5.out.size)
        have hbs := hbw0.setCell (p := ⟨w.heap.size + 1, 0, none⟩) (by show w.heap.size ≤ w.heap.size + 1; omega) (.bool false)
        refine ⟨((KeepsOthers.setCell _ _ _).from _).trans ((KeepsOthers.alloc _ _).from _), rfl, HN.out, ?_, hbs.alloc hbs.size _⟩
        exact cell_stay (World.cell?_setCell_same' W ⟨w.heap.size + 1, 0, none⟩ _ (by rw [HSI.out.r]; rfl)) (Below.heap_alloc _ _ _ (by simpa using zr))
    case done =>
      rintro D ys W hD rfl ⟨⟨hz, j, hj, hp, hSI⟩, hB⟩ hKd
      obtain rfl : j = S.acc.length := by
        have := congrArg List.length hp
        rw [upto_length, upto_length] at this
        exact this.symm
      have h1W := H51.out.below hB
      have h2W := H52.out.below hB
      obtain ⟨vs, hrow, -, hposts⟩ := h1W.rows
      obtain ⟨vs2, hrow2, -, hposts2⟩ := h2W.rows
      obtain ⟨pa, pc, hpv⟩ := own_any hrow
      obtain ⟨qa, qc, hqv⟩ := own_any hrow2
      have c1 : W.cell? ⟨F.b, 2, none⟩ = some (.slice pa S.posts.length pc) := by rw [← hpv]; exact h1W.b2
      have c2 : W.cell? ⟨F2.b, 2, none⟩ = some (.slice qa S2.posts.length qc) := by rw [← hqv]; exact h2W.b2
      have co := hSI.o
      have crr := hSI.r
      have frr := hSI.rf
      obtain ⟨y, hy⟩ : ∃ y, y = decide (S.posts = S2.posts) := ⟨_, rfl⟩
      have HY := hide (show y = sameB S S2 by
        rw [hy]
        by_cases e : S.posts = S2.posts
        · rw [sameB_yes HE.out (fun i a b ha hb => hSI.sm i a b (List.getElem?_eq_some_iff.1 ha).1 ha hb) e]; simpa using e
        · have : sameB S S2 = false := by
            unfold sameB
            rw [decide_eq_false_iff_not]
            exact fun q => e q.2.2
          rw [this]; simpa using e)
      rw [hpv] at hrow
      rw [hqv] at hrow2
      have HEF := hide (show Calls Try.prog 46 #[.slice pa S.posts.length pc, .slice qa S2.posts.length qc, .func (.func 47) #[] #[]] W.drew fun e w' => e = .returned (.bool y) ∧ Below W.heap.size W w' from by
        have hd := drewB W
        rw [hy]
        exact (EqualFunc_c I _ _ S.posts S2.posts vs vs2 W.drew (own_stays hrow (fun k hk => hd.block k (hrow.lt k hk).2)) (own_stays hrow2 (fun k hk => hd.block k (hrow2.lt k hk).2))
          (fun i p q => by obtain ⟨v, e1, e2, e3⟩ := hposts i p q; exact ⟨v, e1, own_stays e2 (fun k hk => hd.block k (h1W.ilt k (e3 k hk))), e3⟩)
          (fun i p q => by obtain ⟨v, e1, e2, e3⟩ := hposts2 i p q; exact ⟨v, e1, own_stays e2 (fun k hk => hd.block k (h1W.ilt k (e3 k hk))), e3⟩) HS.out.smalls HL.out).mono (fun e w' q => ⟨q.1, by obtain ⟨m, hm⟩ := q.2; rw [hm]; exact bdrewN (drewB W) m⟩))
      have zr : w.heap.size + 1 < W.heap.size := by omega
      have HB0 := hide (show Below w.heap.size w W from HB5.out.trans (hB.mono HB5.out.size))
      have HKD := hide hKd
      have dz := (Array.getElem?_eq_some_iff.1 hKd).1
      clear h1W h2W hrow hrow2 hposts hposts2 hpv hqv hy hSI hB hKd hp
      gi_wp2_with fail
      go_wp2_with fail
      refine wp_noPan ?_
      go_region_law (first
        | (go_simp; go_at_call 46; (apply Calls.mono; focus (exact HEF.out)); rintro e w6 ⟨rfl, hb6⟩; have HB6 := hide hb6; have cr6 := cell_stay crr (hb6.block _ zr); have fr6 := fro_stay frr (hb6.block _ zr); have co6 := cell_stay co (hb6.block _ (by omega)); clear hb6))
      all_goals
        refine noPan_n ?_
        go_wp2
        obtain ⟨V6, hV6⟩ : ∃ V6, V6 = w6.setCell ⟨w.heap.size + 1, 0, none⟩ (.bool y) := ⟨_, rfl⟩
        rw [← hV6]
        have hdd : w.heap.size + 1 ≠ D := by omega
        have hK' : V6.heap[D]? = some (.deferred (some [])) := by rw [hV6]; exact (heap_setCell_other _ _ _ _ (Ne.symm hdd)).trans ((HB6.out.block D dz).trans HKD.out)
        have hc6 : V6.cell? ⟨w.heap.size + 1, 0, none⟩ = some (.bool y) := by rw [hV6]; exact World.cell?_setCell_same' w6 ⟨w.heap.size + 1, 0, none⟩ _ (by rw [cr6]; rfl)
        have hb6 : Below w.heap.size w V6 := by rw [hV6]; exact (HB0.out.trans (HB6.out.mono HB0.out.size)).setCell (p := ⟨w.heap.size + 1, 0, none⟩) (by show w.heap.size ≤ w.heap.size + 1; omega) _
        clear hV6
        refine ⟨by simp, .inl ⟨_, _, rfl, run_takeDeferred hK', ?_⟩⟩
        have hc7 : (V6.putObj D (.deferred none)).cell? ⟨w.heap.size + 1, 0, none⟩ = some (.bool y) := (cell_put hdd).trans hc6
        refine ⟨.bool y, ?_, by rw [HY.out], hb6.trans (belowK_b (w := w) (Nat.le_refl _) _ D _ _ (by omega) hK' rfl rfl)⟩
        simp [results, Try.f18, go_sem, hc7]
    case stop =>
      rintro D c pre W hD _ ⟨rfl, hsm, hcr, hB⟩ hKd
      have HN := hide hsm
      have HBW2 := hide hB
      have HCR := hide hcr
      have HKD := hide hKd
      clear hsm hcr hB hKd
      gi_wp2
      refine ⟨by simp, .inl ⟨_, _, rfl, run_takeDeferred HKD.out, ?_⟩⟩
      have hc5 : (W.putObj D (.deferred none)).cell? ⟨w.heap.size + 1, 0, none⟩ = some (.bool false) := (cell_put (by omega)).trans HCR.out
      refine ⟨.bool false, ?_, by rw [HN.out], HBW2.out.trans (belowK_b (w := w) (Nat.le_refl _) _ D _ _ (by omega) HKD.out rfl rfl)⟩
      simp [results, Try.f18, go_sem, hc5]
  · have HN := hide (show sameB S S2 = false from sameB_acc he)
    have q1 : ((S.acc.length : Int) != (S2.acc.length : Int)) = true := by (rw [bne_iff_ne]; omega)
    have q2 : ((S.acc.length : Int) == (S2.acc.length : Int)) = false := by (rw [beq_eq_false_iff_ne]; omega)
    have q3 : decide ((S.acc.length : Int) = (S2.acc.length : Int)) = false := by (rw [decide_eq_false_iff_not]; omega)
    clear he
    go_quiet (fail)
    obtain ⟨V, hV⟩ : ∃ V, V = W.drewN nq := ⟨_, rfl⟩
    have hbV : Below W.heap.size W V := by rw [hV]; exact bdrewN (Below.refl _ _) _
    have cr' := cell_stay cr (hbV.block _ zw)
    have fr' := fro_stay fr (hbV.block _ zw)
    have HBV := hide (bstep HBW.out hbV)
    rw [← hV]
    clear l1 l2 m1 m2 co cr fr hV hbV
    go_wp2
    refine ⟨.bool false, ?_, by rw [HN.out], HBV.out.setCell (p := ⟨w.heap.size + 1, 0, none⟩) (by show w.heap.size ≤ w.heap.size + 1; omega) _⟩
    simp [results, Try.f18, go_sem, cr']
end Go.Proofs.Ytkdocoibfclfeaa

namespace Go.Proofs.Ytkdocoibfclfeaa
open Go.ChangeShapes Go.WideShapes Go.ChangeAt Go.RowKit Go.Deep Go.Shelf Go.Maps Go.WideMaps Ytkdocoibfclfeaa.it
set_option linter.unusedSimpArgs false
set_option linter.unusedVariables false

attribute [local go_sem] Oper.semAt_some

/-- a ledger of the program, the document's beside it, what both stand for -/
structure Tri where
  F : Fp
  R : RP
  S : LS
def Tri.own (t : Tri) (k : Nat) : Prop := t.F.own k ∨ k = t.R.r
def Tri.pl (t : Tri) : Value := .pointer (some ⟨t.F.b, 0, none⟩)
def Tri.pr (t : Tri) : Value := .pointer (some ⟨t.R.r, 0, none⟩)
structure Good (n : Nat) (S : LS) : Prop where
  fine : Fine S
  agree : Agree S
  known : Known S
  accs : S.acc.length ≤ n
  psts : S.posts.length ≤ n
theorem Good.mono {n m : Nat} {S : LS} (h : Good n S) (hm : n ≤ m) : Good m S := ⟨h.fine, h.agree, h.known, Nat.le_trans h.accs hm, Nat.le_trans h.psts hm⟩
structure Pair (n : Nat) (I : Nat → Prop) (t : Tri) (w : World) : Prop where
  l : LObj I t.F t.S w
  r : RObj I t.R t.S w
  d : ¬ t.F.own t.R.r
  g : Good n t.S
theorem Pair.lt {n : Nat} {I : Nat → Prop} {t : Tri} {w : World} (h : Pair n I t w) {k : Nat} (hk : t.own k) : k < w.heap.size := by
  rcases hk with q | rfl
  · exact h.l.lt q
  · exact h.r.lt
theorem Pair.imm {n : Nat} {I : Nat → Prop} {t : Tri} {w : World} (h : Pair n I t w) {k : Nat} (hk : t.own k) : ¬ I k := by
  rcases hk with q | rfl
  · exact h.l.imm k q
  · exact h.r.imm
theorem Pair.mono {n m : Nat} {I : Nat → Prop} {t : Tri} {w : World} (h : Pair n I t w) (hm : n ≤ m) : Pair m I t w := ⟨h.l, h.r, h.d, h.g.mono hm⟩
theorem Pair.aside {n : Nat} {o o' I I' : Nat → Prop} {t : Tri} {w w' : World} (h : Pair n I t w) (hs : Turn o I w o' I' w') (hd : ∀ k, t.own k → ¬ o k) (hi : ∀ k, o k → ¬ I k) : Pair n I' t w' :=
  ⟨h.l.aside hs (fun k q => hd k (.inl q)) hi, h.r.aside hs (hd _ (.inr rfl)) hi, h.d, h.g⟩
theorem Pair.below {n : Nat} {I : Nat → Prop} {t : Tri} {w w' : World} (h : Pair n I t w) (hb : Below w.heap.size w w') : Pair n I t w' := ⟨h.l.below hb, h.r.below hb, h.d, h.g⟩
/-- the program's call, then the document's -/
theorem Pair.both {n m : Nat} {I I1 I2 : Nat → Prop} {t : Tri} {F' : Fp} {R' : RP} {S' : LS} {w w1 w2 : World} (h : Pair n I t w) (l : LObj I1 F' S' w1) (s1 : Turn t.F.own I w F'.own I1 w1) (r : RObj I2 R' S' w2) (s2 : RTurn I1 t.R w1 I2 R' w2) (er : R'.r = t.R.r) (g : Good m S') :
    Pair m I2 ⟨F', R', S'⟩ w2 ∧ Turn t.own I w (Tri.own ⟨F', R', S'⟩) I2 w2 := by
  have nf : ¬ F'.own t.R.r := fun q => by
    rcases s1.own _ q with q | q
    · exact h.d q
    · have := h.r.lt; omega
  refine ⟨⟨l.aside s2 (fun k q e => nf (e ▸ q)) (fun k e hi => ?_), r, by show ¬ F'.own R'.r; rw [er]; exact nf, g⟩, s1.wide.trans (s2.wide2)⟩
  subst e
  have h1 : ¬ I t.R.r := h.r.imm
  have := s1.new _ hi h1
  have := h.r.lt
  omega
/-- the document's ledger, behind the program's call -/
theorem Pair.mid {n : Nat} {I I1 : Nat → Prop} {t : Tri} {F' : Fp} {w w1 : World} (h : Pair n I t w) (s1 : Turn t.F.own I w F'.own I1 w1) : RObj I1 t.R t.S w1 := h.r.aside s1 h.d (fun k q => h.l.imm k q)
/-- the law's world -/
structure St (w0 : World) (n : Nat) (I : Nat → Prop) (T : List Tri) (q : Nat) (ov wv : Value) (w : World) : Prop where
  two : 2 ≤ T.length
  few : T.length ≤ 12
  obj : ∀ (i : Nat) (t : Tri), T[i]? = some t → Pair n I t w
  dis : ∀ (i j : Nat) (t u : Tri), T[i]? = some t → T[j]? = some u → i ≠ j → ∀ k, t.own k → ¬ u.own k
  cur : ∀ (i : Nat) (t : Tri), i < 2 → T[i]? = some t → w.cell? ⟨q, i, none⟩ = some t.pl ∧ w.cell? ⟨q, 2 + i, none⟩ = some t.pr
  c4 : w.cell? ⟨q, 4, none⟩ = some ov
  c5 : w.cell? ⟨q, 5, none⟩ = some wv
  fr : ∀ o, w.frozen? ⟨q, o, none⟩ = false
  ovr : w.ownsRow w0.heap.size 25 1 ov (T.length - 2) ((T.map Tri.pl).drop 2)
  wvr : w.ownsRow w0.heap.size 43 1 wv (T.length - 2) ((T.map Tri.pr).drop 2)
  qd : ∀ (i : Nat) (t : Tri), T[i]? = some t → ∀ k, t.own k → w0.heap.size ≤ k ∧ k ≠ q ∧ ov.ownBlock ≠ some k ∧ wv.ownBlock ≠ some k
  qi : ∀ k, I k → k ≠ q ∧ ov.ownBlock ≠ some k ∧ wv.ownBlock ≠ some k
  qo : ov.ownBlock ≠ some q ∧ wv.ownBlock ≠ some q ∧ ∀ k, ov.ownBlock = some k → wv.ownBlock ≠ some k
  up : w0.heap.size ≤ q
  low : Below w0.heap.size w0 w
theorem St.qz {w0 : World} {n : Nat} {I : Nat → Prop} {T : List Tri} {q : Nat} {ov wv : Value} {w : World} (h : St w0 n I T q ov wv w) : q < w.heap.size := World.block_lt_of_cell? w _ h.c4
theorem map_set_same {α β : Type} (f : α → β) (T : List α) (i : Nat) (t t' : α) (hi : T[i]? = some t) (e : f t' = f t) : (T.set i t').map f = T.map f := by
  apply List.ext_getElem?
  intro j
  rw [List.getElem?_map, List.getElem?_map, List.getElem?_set]
  by_cases h : i = j
  · subst h
    have := (List.getElem?_eq_some_iff.1 hi).1
    rw [if_pos rfl, if_pos this, hi]
    simp [e]
  · rw [if_neg h]
theorem set_cases {α : Type} {T : List α} {i j : Nat} {t' u : α} (h : (T.set i t')[j]? = some u) : (j = i ∧ u = t') ∨ (j ≠ i ∧ T[j]? = some u) := by
  rw [List.getElem?_set] at h
  by_cases e : i = j
  · subst e
    rw [if_pos rfl] at h
    split at h
    · exact .inl ⟨rfl, (Option.some.inj h).symm⟩
    · cases h
  · rw [if_neg e] at h
    exact .inr ⟨fun e2 => e e2.symm, h⟩
theorem St.turn {w0 : World} {n m : Nat} {I I' : Nat → Prop} {T : List Tri} {q : Nat} {ov wv : Value} {w w' : World} (h : St w0 n I T q ov wv w) {i : Nat} {t t' : Tri} (hi : T[i]? = some t) (hs : Turn t.own I w t'.own I' w') (hp : Pair m I' t' w') (eb : t'.F.b = t.F.b) (er : t'.R.r = t.R.r) (hm : n ≤ m) : St w0 m I' (T.set i t') q ov wv w' := by
  have hpt := h.obj i t hi
  have imm : ∀ k, t.own k → ¬ I k := fun k hk => hpt.imm hk
  have qn : ¬ t.own q := fun e => (h.qd i t hi q e).2.1 rfl
  have on : ∀ k, ov.ownBlock = some k → ¬ t.own k := fun k e ht => (h.qd i t hi k ht).2.2.1 e
  have wn : ∀ k, wv.ownBlock = some k → ¬ t.own k := fun k e ht => (h.qd i t hi k ht).2.2.2 e
  have hq := hs.keep q h.qz qn
  have epl : t'.pl = t.pl := by unfold Tri.pl; rw [eb]
  have epr : t'.pr = t.pr := by unfold Tri.pr; rw [er]
  have up : w0.heap.size ≤ w.heap.size := h.low.size
  refine ⟨by rw [List.length_set]; exact h.two, by rw [List.length_set]; exact h.few, fun j u hj => ?_, fun j1 j2 u1 u2 h1 h2 hne k k1 k2 => ?_, fun j u hj hu => ?_, cell_stay h.c4 hq, cell_stay h.c5 hq, fun o => fro_stay (h.fr o) hq, ?_, ?_, fun j u hj k hk => ?_, fun k hk => ?_, h.qo, h.up, h.low.trans (hs.below (fun k hk => (h.qd i t hi k hk).1) up)⟩
  · rcases set_cases hj with ⟨rfl, rfl⟩ | ⟨hne, hu⟩
    · exact hp
    · exact ((h.obj j u hu).aside hs (fun k h1 h2 => h.dis j i u t hu hi hne k h1 h2) imm).mono hm
  · rcases set_cases h1 with ⟨rfl, rfl⟩ | ⟨hn1, h3⟩ <;> rcases set_cases h2 with ⟨rfl, rfl⟩ | ⟨hn2, h4⟩
    · exact hne rfl
    · rcases hs.own k k1 with k1 | k1
      · exact h.dis _ _ _ _ hi h4 hne k k1 k2
      · have := (h.obj _ _ h4).lt k2; omega
    · rcases hs.own k k2 with k2 | k2
      · exact h.dis _ _ _ _ h3 hi hne k k1 k2
      · have := (h.obj _ _ h3).lt k1; omega
    · exact h.dis _ _ _ _ h3 h4 hne k k1 k2
  · rcases set_cases hu with ⟨rfl, rfl⟩ | ⟨hne, hu⟩
    · have := h.cur j t hj hi
      exact ⟨by rw [epl]; exact cell_stay this.1 hq, by rw [epr]; exact cell_stay this.2 hq⟩
    · have := h.cur j u hj hu
      exact ⟨cell_stay this.1 hq, cell_stay this.2 hq⟩
  · rw [List.length_set, map_set_same Tri.pl T i t t' hi epl]
    exact own_stays h.ovr (fun k e => hs.keep k (h.ovr.lt k e).2 (on k e))
  · rw [List.length_set, map_set_same Tri.pr T i t t' hi epr]
    exact own_stays h.wvr (fun k e => hs.keep k (h.wvr.lt k e).2 (wn k e))
  · rcases set_cases hj with ⟨rfl, rfl⟩ | ⟨hne, hu⟩
    · rcases hs.own k hk with q1 | q1
      · exact h.qd _ _ hi k q1
      · have := h.qz
        exact ⟨by omega, by omega, fun e => by have := (h.ovr.lt k e).2; omega, fun e => by have := (h.wvr.lt k e).2; omega⟩
    · exact h.qd _ _ hu k hk
  · by_cases hk0 : I k
    · exact h.qi k hk0
    · have := (hs.new k hk hk0).1
      have := h.qz
      exact ⟨by omega, fun e => by have := (h.ovr.lt k e).2; omega, fun e => by have := (h.wvr.lt k e).2; omega⟩
theorem St.below {w0 : World} {n m : Nat} {I : Nat → Prop} {T : List Tri} {q : Nat} {ov wv : Value} {w w' : World} (h : St w0 n I T q ov wv w) (hb : Below w.heap.size w w') (hm : n ≤ m) : St w0 m I T q ov wv w' := by
  have hq := hb.block q h.qz
  exact ⟨h.two, h.few, fun i t hi => ((h.obj i t hi).below hb).mono hm, h.dis, fun i t h1 h2 => ⟨cell_stay (h.cur i t h1 h2).1 hq, cell_stay (h.cur i t h1 h2).2 hq⟩, cell_stay h.c4 hq, cell_stay h.c5 hq, fun o => fro_stay (h.fr o) hq,
    own_stays h.ovr (fun k e => hb.block k (h.ovr.lt k e).2), own_stays h.wvr (fun k e => hb.block k (h.wvr.lt k e).2), h.qd, h.qi, h.qo, h.up, h.low.trans (hb.mono h.low.size)⟩
/-- what a posting leaves -/
theorem Good.post {n : Nat} {S : LS} (h : Good n S) {p : List Ent} (hm : mayE S.acc p = 0) (hn : n < 299) : Good (n + 1) ⟨posted S.acc p, S.posts ++ [p]⟩ := by
  have hp := h.psts
  refine ⟨h.fine.posted hm (by omega), ⟨fun a ha => ?_, by simp; omega⟩, fun r hr => ?_, by show (posted S.acc p).length ≤ n + 1; rw [posted_len]; exact Nat.le_succ_of_le h.accs, by simp; omega⟩
  · obtain ⟨b, hb, rfl⟩ := List.mem_map.1 ha
    show b.has + sumOf p b.name = ofSum (S.posts ++ [p]) b.name
    rw [ofSum_snoc, h.agree.has b hb]
  · intro s hs
    show ∃ i, idx (nms (posted S.acc p)) s = some i
    rw [posted_nms]
    rcases List.mem_append.1 hr with q | q
    · exact h.known r q s hs
    · obtain rfl : r = p := by simpa using q
      exact (may0 hm).2.1 s hs
theorem ofSum_out {P : List (List Ent)} {s : ByteArray} (h : ∀ p ∈ P, s ∉ names p) : ofSum P s = 0 := by
  induction P with
  | nil => rfl
  | cons p r ih =>
    show sumOf p s + ofSum r s = 0
    rw [sumOf_out (h p (by simp)), ih (fun q hq => h q (by simp [hq]))]
    rfl
/-- what an opening leaves -/
theorem Good.open' {n : Nat} {S : LS} (h : Good n S) {s : ByteArray} {l : Int} (hs : goodName s) (h1 : -maxC ≤ l) (h2 : l ≤ 0) (hi : idx (nms S.acc) s = none) (hn : n < 299) : Good (n + 1) ⟨S.acc ++ [⟨s, l, 0⟩], S.posts⟩ := by
  have ha := h.accs
  refine ⟨⟨h.fine.snd.opened hs h1 h2 hi (by omega), h.fine.frm, h.fine.few⟩, ⟨fun a ha => ?_, h.agree.few⟩, fun p hp x hx => ?_, by simp; omega, Nat.le_succ_of_le h.psts⟩
  · rcases List.mem_append.1 ha with q | q
    · exact h.agree.has a q
    · obtain rfl : a = ⟨s, l, 0⟩ := by simpa using q
      refine (ofSum_out (fun p hp hx => ?_)).symm
      obtain ⟨i, hi2⟩ := h.known p hp _ hx
      rw [hi] at hi2; cases hi2
  · obtain ⟨i, hi2⟩ := h.known p hp x hx
    refine ⟨i, ?_⟩
    show idx (nms (S.acc ++ [⟨s, l, 0⟩])) x = some i
    rw [nms_snoc, idx_snoc hi x, if_neg (fun e => by rw [e, hi] at hi2; cases hi2)]
    exact hi2
theorem sameB_refl (S : LS) : sameB S S = true := by simp [sameB]
end Go.Proofs.Ytkdocoibfclfeaa

namespace Go.Proofs.Ytkdocoibfclfeaa
open Go.ChangeShapes Go.WideShapes Go.ChangeAt Go.RowKit Go.Deep Go.Shelf Go.Maps Go.WideMaps Ytkdocoibfclfeaa.it
set_option linter.unusedSimpArgs false
set_option linter.unusedVariables false

attribute [local go_sem] Oper.semAt_some

/-- a step's answer -/
def StepPost (w0 : World) (n : Nat) (q : Nat) (e : Ending) (w' : World) : Prop := e = .returned (.bool true) ∧ ∃ I T ov wv, St w0 (n + 1) I T q ov wv w'
/-- which of the two -/
def onK (on : Int) : Int := (wrap64 (on.tmod 2 + 2)).tmod 2
theorem onK_two (on : Int) : onK on = 0 ∨ onK on = 1 := by
  unfold onK
  rcases Int.tmod_two_eq on with q | q | q <;> rw [q] <;> unfold wrap64 <;> decide

set_option maxRecDepth 1000000 in
set_option maxHeartbeats 4000000 in
theorem step_5 (w0 : World) (n : Nat) (I : Nat → Prop) (T : List Tri) (q : Nat) (ov wv : Value) (on x : Int) (s : ByteArray) (lo : Option Addr) (lc : Nat) (p : List Ent) (w : World) (h : St w0 n I T q ov wv w) (hE : Ents lo lc p w0) (hs : s.size ≤ maxLen) (hn : n < 120) : Calls Try.prog 16 #[.pointer (some ⟨q, 0, none⟩), .agg #[.int .i64 5, .int .i64 on, .string s, .int .i64 x, .slice lo p.length lc]] w (StepPost w0 n q) := by
  obtain ⟨k, hk2, hk⟩ : ∃ k : Nat, k < 2 ∧ (wrap64 (on.tmod 2 + 2)).tmod 2 = (k : Int) := by
    rcases onK_two on with q | q
    · exact ⟨0, by omega, q⟩
    · exact ⟨1, by omega, q⟩
  obtain ⟨t, ht⟩ : ∃ t, T[k]? = some t := ⟨_, List.getElem?_eq_getElem (by have := h.two; omega)⟩
  obtain ⟨W, hW⟩ : ∃ W, W = w.alloc (.cells #[.int .i64 5, .int .i64 on, .string s, .int .i64 x, .slice lo p.length lc] 53) := ⟨_, rfl⟩
  have hbW : Below w.heap.size w W := by rw [hW]; (focus repeat' (first | (with_reducible exact Below.refl _ _) | (with_reducible assumption) | (with_reducible refine Below.alloc ?_ ?_ _) | (with_reducible refine Below.drew ?_) | (with_reducible refine bdrewN ?_ _) | (with_reducible refine Below.setCell ?_ ?_ _) | (first | (with_reducible exact Nat.le_refl _) | (with_reducible assumption) | omega | (simp; omega) | (simp; done))))
  have H := hide (h.below hbW (Nat.le_refl _))
  have HE := hide hE
  have HSS := hide hs
  have HN := hide hn
  have zq : q < w.heap.size := h.qz
  have d0 : W.cell? ⟨w.heap.size, 0, none⟩ = some (.int .i64 5) := by rw [hW]; simp [go_sem]
  have d1 : W.cell? ⟨w.heap.size, 1, none⟩ = some (.int .i64 on) := by rw [hW]; simp [go_sem]
  have d2 : W.cell? ⟨w.heap.size, 2, none⟩ = some (.string s) := by rw [hW]; simp [go_sem]
  have d3 : W.cell? ⟨w.heap.size, 3, none⟩ = some (.int .i64 x) := by rw [hW]; simp [go_sem]
  have d4 : W.cell? ⟨w.heap.size, 4, none⟩ = some (.slice lo p.length lc) := by rw [hW]; simp [go_sem]
  obtain ⟨e1, e2⟩ := H.out.cur k t hk2 ht
  unfold Tri.pl at e1
  unfold Tri.pr at e2
  have hk0 : (0 : Int) ≤ (k : Int) := by omega
  have hk9 : (k : Int) < 2 := by omega
  have HT := hide ht
  have HOW := hide (show ∀ k, t.own k → k < w.heap.size from fun j hj => (h.obj k t ht).lt hj)
  have HD := hide (And.intro d2 (And.intro d3 d4))
  have HK := hide hk2
  have HBW := hide hbW
  have HW := hide hW
  have zWq : w.heap.size < W.heap.size := World.block_lt_of_cell? W _ d0
  have d9 : wrap64 (on.tmod 2 + 2) = wrap64 (on.tmod 2 + 2) := rfl
  clear h hE hs hn hbW ht hk2 hW d9
  go_enter Try.func16, Try.ntmps16
  go_wp2_with fail
  rw [← HW.out]
  go_wp2_with fail
  go_quiet (fail)
  obtain ⟨Z, hZ⟩ : ∃ Z, Z = W.drewN nq := ⟨_, rfl⟩
  rw [← hZ]
  have hbZ : Below W.heap.size W Z := by rw [hZ]; exact bdrewN (Below.refl _ _) nq
  have d0 := cell_stay d0 (hbZ.block _ zWq)
  have d2 := cell_stay d2 (hbZ.block _ zWq)
  have d3 := cell_stay d3 (hbZ.block _ zWq)
  have d4 := cell_stay d4 (hbZ.block _ zWq)
  have zZ := hbZ.size
  have H := hide (H.out.below hbZ (Nat.le_refl _))
  clear hbZ hZ e1 e2
  have P := H.out.obj k t HT.out
  clear d2 d4
  go_wp2_with fail
  refine (told_law I t.F t.R t.S x Z P.l P.r P.g.fine P.g.agree).mono ?_
  rintro e w1 ⟨rfl, hb1⟩
  have HB1 := hide hb1
  clear hb1 P
  clear d0 d3
  go_wp2
  go_ret
  exact ⟨rfl, I, T, ov, wv, H.out.below HB1.out (Nat.le_succ n)⟩

set_option maxRecDepth 1000000 in
set_option maxHeartbeats 4000000 in
theorem step_other (w0 : World) (n : Nat) (I : Nat → Prop) (T : List Tri) (q : Nat) (ov wv : Value) (kind : Int) (on x : Int) (s : ByteArray) (lo : Option Addr) (lc : Nat) (p : List Ent) (w : World) (h : St w0 n I T q ov wv w) (hE : Ents lo lc p w0) (hs : s.size ≤ maxLen) (hn : n < 120) (hkd : ∀ j : Int, 1 ≤ j → j ≤ 8 → kind ≠ j) : Calls Try.prog 16 #[.pointer (some ⟨q, 0, none⟩), .agg #[.int .i64 kind, .int .i64 on, .string s, .int .i64 x, .slice lo p.length lc]] w (StepPost w0 n q) := by
  have q1 : (kind == 1) = false := by have := hkd 1 (by decide) (by decide); simpa using this
  have p1 : decide (kind = 1) = false := by have := hkd 1 (by decide) (by decide); simpa using this
  have q2 : (kind == 2) = false := by have := hkd 2 (by decide) (by decide); simpa using this
  have p2 : decide (kind = 2) = false := by have := hkd 2 (by decide) (by decide); simpa using this
  have q3 : (kind == 3) = false := by have := hkd 3 (by decide) (by decide); simpa using this
  have p3 : decide (kind = 3) = false := by have := hkd 3 (by decide) (by decide); simpa using this
  have q4 : (kind == 4) = false := by have := hkd 4 (by decide) (by decide); simpa using this
  have p4 : decide (kind = 4) = false := by have := hkd 4 (by decide) (by decide); simpa using this
  have q5 : (kind == 5) = false := by have := hkd 5 (by decide) (by decide); simpa using this
  have p5 : decide (kind = 5) = false := by have := hkd 5 (by decide) (by decide); simpa using this
  have q6 : (kind == 6) = false := by have := hkd 6 (by decide) (by decide); simpa using this
  have p6 : decide (kind = 6) = false := by have := hkd 6 (by decide) (by decide); simpa using this
  have q7 : (kind == 7) = false := by have := hkd 7 (by decide) (by decide); simpa using this
  have p7 : decide (kind = 7) = false := by have := hkd 7 (by decide) (by decide); simpa using this
  have q8 : (kind == 8) = false := by have := hkd 8 (by decide) (by decide); simpa using this
  have p8 : decide (kind = 8) = false := by have := hkd 8 (by decide) (by decide); simpa using this
  clear hkd
  obtain ⟨k, hk2, hk⟩ : ∃ k : Nat, k < 2 ∧ (wrap64 (on.tmod 2 + 2)).tmod 2 = (k : Int) := by
    rcases onK_two on with q | q
    · exact ⟨0, by omega, q⟩
    · exact ⟨1, by omega, q⟩
  obtain ⟨t, ht⟩ : ∃ t, T[k]? = some t := ⟨_, List.getElem?_eq_getElem (by have := h.two; omega)⟩
  obtain ⟨W, hW⟩ : ∃ W, W = w.alloc (.cells #[.int .i64 kind, .int .i64 on, .string s, .int .i64 x, .slice lo p.length lc] 53) := ⟨_, rfl⟩
  have hbW : Below w.heap.size w W := by rw [hW]; (focus repeat' (first | (with_reducible exact Below.refl _ _) | (with_reducible assumption) | (with_reducible refine Below.alloc ?_ ?_ _) | (with_reducible refine Below.drew ?_) | (with_reducible refine bdrewN ?_ _) | (with_reducible refine Below.setCell ?_ ?_ _) | (first | (with_reducible exact Nat.le_refl _) | (with_reducible assumption) | omega | (simp; omega) | (simp; done))))
  have H := hide (h.below hbW (Nat.le_refl _))
  have HE := hide hE
  have HSS := hide hs
  have HN := hide hn
  have zq : q < w.heap.size := h.qz
  have d0 : W.cell? ⟨w.heap.size, 0, none⟩ = some (.int .i64 kind) := by rw [hW]; simp [go_sem]
  have d1 : W.cell? ⟨w.heap.size, 1, none⟩ = some (.int .i64 on) := by rw [hW]; simp [go_sem]
  have d2 : W.cell? ⟨w.heap.size, 2, none⟩ = some (.string s) := by rw [hW]; simp [go_sem]
  have d3 : W.cell? ⟨w.heap.size, 3, none⟩ = some (.int .i64 x) := by rw [hW]; simp [go_sem]
  have d4 : W.cell? ⟨w.heap.size, 4, none⟩ = some (.slice lo p.length lc) := by rw [hW]; simp [go_sem]
  obtain ⟨e1, e2⟩ := H.out.cur k t hk2 ht
  unfold Tri.pl at e1
  unfold Tri.pr at e2
  have hk0 : (0 : Int) ≤ (k : Int) := by omega
  have hk9 : (k : Int) < 2 := by omega
  have HT := hide ht
  have HOW := hide (show ∀ k, t.own k → k < w.heap.size from fun j hj => (h.obj k t ht).lt hj)
  have HD := hide (And.intro d2 (And.intro d3 d4))
  have HK := hide hk2
  have HBW := hide hbW
  have HW := hide hW
  have zWq : w.heap.size < W.heap.size := World.block_lt_of_cell? W _ d0
  have d9 : wrap64 (on.tmod 2 + 2) = wrap64 (on.tmod 2 + 2) := rfl
  clear h hE hs hn hbW ht hk2 hW d9
  go_enter Try.func16, Try.ntmps16
  go_wp2_with fail
  rw [← HW.out]
  go_wp2_with fail
  go_quiet (fail)
  obtain ⟨Z, hZ⟩ : ∃ Z, Z = W.drewN nq := ⟨_, rfl⟩
  rw [← hZ]
  have hbZ : Below W.heap.size W Z := by rw [hZ]; exact bdrewN (Below.refl _ _) nq
  have d0 := cell_stay d0 (hbZ.block _ zWq)
  have d2 := cell_stay d2 (hbZ.block _ zWq)
  have d3 := cell_stay d3 (hbZ.block _ zWq)
  have d4 := cell_stay d4 (hbZ.block _ zWq)
  have zZ := hbZ.size
  have H := hide (H.out.below hbZ (Nat.le_refl _))
  clear hbZ hZ e1 e2
  clear d2 d3 d4
  go_wp2
  go_ret
  exact ⟨rfl, I, T, ov, wv, H.out.below (Below.refl _ _) (Nat.le_succ n)⟩

set_option maxRecDepth 1000000 in
set_option maxHeartbeats 4000000 in
theorem step_1 (w0 : World) (n : Nat) (I : Nat → Prop) (T : List Tri) (q : Nat) (ov wv : Value) (on x : Int) (s : ByteArray) (lo : Option Addr) (lc : Nat) (p : List Ent) (w : World) (h : St w0 n I T q ov wv w) (hE : Ents lo lc p w0) (hs : s.size ≤ maxLen) (hn : n < 120) : Calls Try.prog 16 #[.pointer (some ⟨q, 0, none⟩), .agg #[.int .i64 1, .int .i64 on, .string s, .int .i64 x, .slice lo p.length lc]] w (StepPost w0 n q) := by
  obtain ⟨k, hk2, hk⟩ : ∃ k : Nat, k < 2 ∧ (wrap64 (on.tmod 2 + 2)).tmod 2 = (k : Int) := by
    rcases onK_two on with q | q
    · exact ⟨0, by omega, q⟩
    · exact ⟨1, by omega, q⟩
  obtain ⟨t, ht⟩ : ∃ t, T[k]? = some t := ⟨_, List.getElem?_eq_getElem (by have := h.two; omega)⟩
  obtain ⟨W, hW⟩ : ∃ W, W = w.alloc (.cells #[.int .i64 1, .int .i64 on, .string s, .int .i64 x, .slice lo p.length lc] 53) := ⟨_, rfl⟩
  have hbW : Below w.heap.size w W := by rw [hW]; (focus repeat' (first | (with_reducible exact Below.refl _ _) | (with_reducible assumption) | (with_reducible refine Below.alloc ?_ ?_ _) | (with_reducible refine Below.drew ?_) | (with_reducible refine bdrewN ?_ _) | (with_reducible refine Below.setCell ?_ ?_ _) | (first | (with_reducible exact Nat.le_refl _) | (with_reducible assumption) | omega | (simp; omega) | (simp; done))))
  have H := hide (h.below hbW (Nat.le_refl _))
  have HE := hide hE
  have HSS := hide hs
  have HN := hide hn
  have zq : q < w.heap.size := h.qz
  have d0 : W.cell? ⟨w.heap.size, 0, none⟩ = some (.int .i64 1) := by rw [hW]; simp [go_sem]
  have d1 : W.cell? ⟨w.heap.size, 1, none⟩ = some (.int .i64 on) := by rw [hW]; simp [go_sem]
  have d2 : W.cell? ⟨w.heap.size, 2, none⟩ = some (.string s) := by rw [hW]; simp [go_sem]
  have d3 : W.cell? ⟨w.heap.size, 3, none⟩ = some (.int .i64 x) := by rw [hW]; simp [go_sem]
  have d4 : W.cell? ⟨w.heap.size, 4, none⟩ = some (.slice lo p.length lc) := by rw [hW]; simp [go_sem]
  obtain ⟨e1, e2⟩ := H.out.cur k t hk2 ht
  unfold Tri.pl at e1
  unfold Tri.pr at e2
  have hk0 : (0 : Int) ≤ (k : Int) := by omega
  have hk9 : (k : Int) < 2 := by omega
  have HT := hide ht
  have HOW := hide (show ∀ k, t.own k → k < w.heap.size from fun j hj => (h.obj k t ht).lt hj)
  have HD := hide (And.intro d2 (And.intro d3 d4))
  have HK := hide hk2
  have HBW := hide hbW
  have HW := hide hW
  have zWq : w.heap.size < W.heap.size := World.block_lt_of_cell? W _ d0
  have d9 : wrap64 (on.tmod 2 + 2) = wrap64 (on.tmod 2 + 2) := rfl
  clear h hE hs hn hbW ht hk2 hW d9
  go_enter Try.func16, Try.ntmps16
  go_wp2_with fail
  rw [← HW.out]
  go_wp2_with fail
  go_quiet (fail)
  obtain ⟨Z, hZ⟩ : ∃ Z, Z = W.drewN nq := ⟨_, rfl⟩
  rw [← hZ]
  have hbZ : Below W.heap.size W Z := by rw [hZ]; exact bdrewN (Below.refl _ _) nq
  have d0 := cell_stay d0 (hbZ.block _ zWq)
  have d2 := cell_stay d2 (hbZ.block _ zWq)
  have d3 := cell_stay d3 (hbZ.block _ zWq)
  have d4 := cell_stay d4 (hbZ.block _ zWq)
  have zZ := hbZ.size
  have H := hide (H.out.below hbZ (Nat.le_refl _))
  clear hbZ hZ e1 e2
  have P := H.out.obj k t HT.out
  by_cases hb : goodName s ∧ -maxC ≤ x ∧ x ≤ 0
  · obtain ⟨h1, h2, h3⟩ := hb
    cases hi : idx (nms t.S.acc) s with
    | some i =>
      have C1 := hide (Open_there I t.F t.S s x i Z P.l h1 h2 h3 hi)
      have C2 := hide (Open_rthere I t.R t.S s x i Z P.r h1 h2 h3 hi (by have := P.g.accs; have := HN.out; omega))
      clear h1 h2 h3 hi P
      go_wp2_with fail
      refine (C1.out).mono ?_
      rintro e w1 ⟨rfl, rfl⟩
      go_wp2_with fail
      refine (C2.out).mono ?_
      rintro e w2 ⟨rfl, rfl⟩
      go_wp2
      go_ret
      exact ⟨rfl, I, T, ov, wv, H.out.below (Below.refl _ _) (Nat.le_succ n)⟩
    | none =>
      have hacc : t.S.acc.length < 65536 := by have := P.g.accs; have := HN.out; omega
      have HG := hide (P.g.open' h1 h2 h3 hi (by have := HN.out; omega))
      have HP := hide P
      have C1 := hide (Open_ok I t.F t.S s x Z P.l h1 h2 h3 hi hacc)
      have C2 := hide (fun I1 w1 (r : RObj I1 t.R t.S w1) => Open_rok I1 t.R t.S s x w1 r h1 h2 h3 hi hacc)
      clear h1 h2 h3 hi P
      go_wp2_with fail
      refine (C1.out).mono ?_
      rintro e w1 ⟨rfl, F', l1, s1⟩
      have HL1 := hide l1
      have HS1 := hide s1
      have ow : ∀ k, t.F.own k → k ≠ w.heap.size := fun k hk e => by have := HOW.out k (.inl hk); omega
      have d2 := cell_stay d2 (s1.keep _ (by omega) (fun h => ow _ h rfl))
      have d3 := cell_stay d3 (s1.keep _ (by omega) (fun h => ow _ h rfl))
      clear l1 s1 ow
      go_wp2_with fail
      refine (C2.out _ w1 (HP.out.mid HS1.out.turn)).mono ?_
      rintro e w2 ⟨rfl, I2, R', r2, s2, er⟩
      have HR2 := hide r2
      have HS2 := hide s2
      have HER := hide er
      have n1 : ((t.S.acc.length : Int) == (t.S.acc.length : Int)) = true := by simp
      have n2 : decide ((t.S.acc.length : Int) = (t.S.acc.length : Int)) = true := by simp
      clear r2 s2 er d2 d3 d4
      go_wp2
      go_ret
      obtain ⟨p1, p2⟩ := HP.out.both HL1.out HS1.out.turn HR2.out HS2.out HER.out HG.out
      exact ⟨rfl, I2, _, ov, wv, H.out.turn HT.out p2 p1 HS1.out.b HER.out (Nat.le_succ n)⟩
  · have C1 := hide (Open_bad I t.F t.S s x Z P.l hb)
    have C2 := hide (Open_rbad t.R s x Z hb)
    clear hb P
    go_wp2_with fail
    refine (C1.out).mono ?_
    rintro e w1 ⟨rfl, rfl⟩
    go_wp2_with fail
    refine (C2.out).mono ?_
    rintro e w2 ⟨rfl, rfl⟩
    go_wp2
    go_ret
    exact ⟨rfl, I, T, ov, wv, H.out.below (Below.refl _ _) (Nat.le_succ n)⟩

set_option maxRecDepth 1000000 in
set_option maxHeartbeats 4000000 in
theorem step_3 (w0 : World) (n : Nat) (I : Nat → Prop) (T : List Tri) (q : Nat) (ov wv : Value) (on x : Int) (s : ByteArray) (lo : Option Addr) (lc : Nat) (p : List Ent) (w : World) (h : St w0 n I T q ov wv w) (hE : Ents lo lc p w0) (hs : s.size ≤ maxLen) (hn : n < 120) : Calls Try.prog 16 #[.pointer (some ⟨q, 0, none⟩), .agg #[.int .i64 3, .int .i64 on, .string s, .int .i64 x, .slice lo p.length lc]] w (StepPost w0 n q) := by
  obtain ⟨k, hk2, hk⟩ : ∃ k : Nat, k < 2 ∧ (wrap64 (on.tmod 2 + 2)).tmod 2 = (k : Int) := by
    rcases onK_two on with q | q
    · exact ⟨0, by omega, q⟩
    · exact ⟨1, by omega, q⟩
  obtain ⟨t, ht⟩ : ∃ t, T[k]? = some t := ⟨_, List.getElem?_eq_getElem (by have := h.two; omega)⟩
  obtain ⟨W, hW⟩ : ∃ W, W = w.alloc (.cells #[.int .i64 3, .int .i64 on, .string s, .int .i64 x, .slice lo p.length lc] 53) := ⟨_, rfl⟩
  have hbW : Below w.heap.size w W := by rw [hW]; (focus repeat' (first | (with_reducible exact Below.refl _ _) | (with_reducible assumption) | (with_reducible refine Below.alloc ?_ ?_ _) | (with_reducible refine Below.drew ?_) | (with_reducible refine bdrewN ?_ _) | (with_reducible refine Below.setCell ?_ ?_ _) | (first | (with_reducible exact Nat.le_refl _) | (with_reducible assumption) | omega | (simp; omega) | (simp; done))))
  have H := hide (h.below hbW (Nat.le_refl _))
  have HE := hide hE
  have HSS := hide hs
  have HN := hide hn
  have zq : q < w.heap.size := h.qz
  have d0 : W.cell? ⟨w.heap.size, 0, none⟩ = some (.int .i64 3) := by rw [hW]; simp [go_sem]
  have d1 : W.cell? ⟨w.heap.size, 1, none⟩ = some (.int .i64 on) := by rw [hW]; simp [go_sem]
  have d2 : W.cell? ⟨w.heap.size, 2, none⟩ = some (.string s) := by rw [hW]; simp [go_sem]
  have d3 : W.cell? ⟨w.heap.size, 3, none⟩ = some (.int .i64 x) := by rw [hW]; simp [go_sem]
  have d4 : W.cell? ⟨w.heap.size, 4, none⟩ = some (.slice lo p.length lc) := by rw [hW]; simp [go_sem]
  obtain ⟨e1, e2⟩ := H.out.cur k t hk2 ht
  unfold Tri.pl at e1
  unfold Tri.pr at e2
  have hk0 : (0 : Int) ≤ (k : Int) := by omega
  have hk9 : (k : Int) < 2 := by omega
  have HT := hide ht
  have HOW := hide (show ∀ k, t.own k → k < w.heap.size from fun j hj => (h.obj k t ht).lt hj)
  have HD := hide (And.intro d2 (And.intro d3 d4))
  have HK := hide hk2
  have HBW := hide hbW
  have HW := hide hW
  have zWq : w.heap.size < W.heap.size := World.block_lt_of_cell? W _ d0
  have d9 : wrap64 (on.tmod 2 + 2) = wrap64 (on.tmod 2 + 2) := rfl
  clear h hE hs hn hbW ht hk2 hW d9
  go_enter Try.func16, Try.ntmps16
  go_wp2_with fail
  rw [← HW.out]
  go_wp2_with fail
  go_quiet (fail)
  obtain ⟨Z, hZ⟩ : ∃ Z, Z = W.drewN nq := ⟨_, rfl⟩
  rw [← hZ]
  have hbZ : Below W.heap.size W Z := by rw [hZ]; exact bdrewN (Below.refl _ _) nq
  have d0 := cell_stay d0 (hbZ.block _ zWq)
  have d2 := cell_stay d2 (hbZ.block _ zWq)
  have d3 := cell_stay d3 (hbZ.block _ zWq)
  have d4 := cell_stay d4 (hbZ.block _ zWq)
  have zZ := hbZ.size
  have H := hide (H.out.below hbZ (Nat.le_refl _))
  clear hbZ hZ e1 e2
  have P := H.out.obj k t HT.out
  have CL := hide (line_law I t.F t.R t.S s x Z P.l P.r P.g.fine P.g.agree P.g.known)
  cases hi : idx (nms t.S.acc) s with
  | some i =>
    obtain ⟨hil, hia⟩ := idx_lt hi
    obtain ⟨a, ha⟩ : ∃ a, t.S.acc[i]? = some a := ⟨_, List.getElem?_eq_getElem (by simpa [nms] using hil)⟩
    have C1 := hide (Has_yes I t.F t.S s i a Z P.l HSS.out hi ha (by have := P.g.accs; have := HN.out; have := (List.getElem?_eq_some_iff.1 ha).1; omega))
    have C2 := hide (Has_ryes I t.R t.S s i a Z P.r P.g.fine P.g.agree hi ha)
    have n1 : (a.has == a.has) = true := by simp
    have n2 : decide (a.has = a.has) = true := by simp
    clear hi hil hia ha P d4
    go_wp2_with fail
    refine (C1.out).mono ?_
    rintro e w1 ⟨rfl, rfl⟩
    go_wp2_with fail
    refine (C2.out).mono ?_
    rintro e w2 ⟨rfl, rfl⟩
    go_wp2_with fail
    refine (CL.out).mono ?_
    rintro e w3 ⟨rfl, hb3⟩
    have HB3 := hide hb3
    clear hb3 d2 d3
    go_wp2
    go_ret
    exact ⟨rfl, I, T, ov, wv, H.out.below HB3.out (Nat.le_succ n)⟩
  | none =>
    have C1 := hide (Has_no I t.F t.S s Z P.l HSS.out hi)
    have C2 := hide (Has_rno I t.R t.S s Z P.r P.g.fine hi)
    clear hi P d4
    go_wp2_with fail
    refine (C1.out).mono ?_
    rintro e w1 ⟨rfl, rfl⟩
    go_wp2_with fail
    refine (C2.out).mono ?_
    rintro e w2 ⟨rfl, rfl⟩
    go_wp2_with fail
    refine (CL.out).mono ?_
    rintro e w3 ⟨rfl, hb3⟩
    have HB3 := hide hb3
    clear hb3 d2 d3
    go_wp2
    go_ret
    exact ⟨rfl, I, T, ov, wv, H.out.below HB3.out (Nat.le_succ n)⟩

set_option maxRecDepth 1000000 in
set_option maxHeartbeats 4000000 in
theorem step_6 (w0 : World) (n : Nat) (I : Nat → Prop) (T : List Tri) (q : Nat) (ov wv : Value) (on x : Int) (s : ByteArray) (lo : Option Addr) (lc : Nat) (p : List Ent) (w : World) (h : St w0 n I T q ov wv w) (hE : Ents lo lc p w0) (hs : s.size ≤ maxLen) (hn : n < 120) : Calls Try.prog 16 #[.pointer (some ⟨q, 0, none⟩), .agg #[.int .i64 6, .int .i64 on, .string s, .int .i64 x, .slice lo p.length lc]] w (StepPost w0 n q) := by
  obtain ⟨k, hk2, hk⟩ : ∃ k : Nat, k < 2 ∧ (wrap64 (on.tmod 2 + 2)).tmod 2 = (k : Int) := by
    rcases onK_two on with q | q
    · exact ⟨0, by omega, q⟩
    · exact ⟨1, by omega, q⟩
  obtain ⟨t, ht⟩ : ∃ t, T[k]? = some t := ⟨_, List.getElem?_eq_getElem (by have := h.two; omega)⟩
  obtain ⟨W, hW⟩ : ∃ W, W = w.alloc (.cells #[.int .i64 6, .int .i64 on, .string s, .int .i64 x, .slice lo p.length lc] 53) := ⟨_, rfl⟩
  have hbW : Below w.heap.size w W := by rw [hW]; (focus repeat' (first | (with_reducible exact Below.refl _ _) | (with_reducible assumption) | (with_reducible refine Below.alloc ?_ ?_ _) | (with_reducible refine Below.drew ?_) | (with_reducible refine bdrewN ?_ _) | (with_reducible refine Below.setCell ?_ ?_ _) | (first | (with_reducible exact Nat.le_refl _) | (with_reducible assumption) | omega | (simp; omega) | (simp; done))))
  have H := hide (h.below hbW (Nat.le_refl _))
  have HE := hide hE
  have HSS := hide hs
  have HN := hide hn
  have zq : q < w.heap.size := h.qz
  have d0 : W.cell? ⟨w.heap.size, 0, none⟩ = some (.int .i64 6) := by rw [hW]; simp [go_sem]
  have d1 : W.cell? ⟨w.heap.size, 1, none⟩ = some (.int .i64 on) := by rw [hW]; simp [go_sem]
  have d2 : W.cell? ⟨w.heap.size, 2, none⟩ = some (.string s) := by rw [hW]; simp [go_sem]
  have d3 : W.cell? ⟨w.heap.size, 3, none⟩ = some (.int .i64 x) := by rw [hW]; simp [go_sem]
  have d4 : W.cell? ⟨w.heap.size, 4, none⟩ = some (.slice lo p.length lc) := by rw [hW]; simp [go_sem]
  obtain ⟨e1, e2⟩ := H.out.cur k t hk2 ht
  unfold Tri.pl at e1
  unfold Tri.pr at e2
  have hk0 : (0 : Int) ≤ (k : Int) := by omega
  have hk9 : (k : Int) < 2 := by omega
  have HT := hide ht
  have HOW := hide (show ∀ k, t.own k → k < w.heap.size from fun j hj => (h.obj k t ht).lt hj)
  have HD := hide (And.intro d2 (And.intro d3 d4))
  have HK := hide hk2
  have HBW := hide hbW
  have HW := hide hW
  have zWq : w.heap.size < W.heap.size := World.block_lt_of_cell? W _ d0
  have d9 : wrap64 (on.tmod 2 + 2) = wrap64 (on.tmod 2 + 2) := rfl
  clear h hE hs hn hbW ht hk2 hW d9
  go_enter Try.func16, Try.ntmps16
  go_wp2_with fail
  rw [← HW.out]
  go_wp2_with fail
  go_quiet (fail)
  obtain ⟨Z, hZ⟩ : ∃ Z, Z = W.drewN nq := ⟨_, rfl⟩
  rw [← hZ]
  have hbZ : Below W.heap.size W Z := by rw [hZ]; exact bdrewN (Below.refl _ _) nq
  have d0 := cell_stay d0 (hbZ.block _ zWq)
  have d2 := cell_stay d2 (hbZ.block _ zWq)
  have d3 := cell_stay d3 (hbZ.block _ zWq)
  have d4 := cell_stay d4 (hbZ.block _ zWq)
  have zZ := hbZ.size
  have H := hide (H.out.below hbZ (Nat.le_refl _))
  clear hbZ hZ e1 e2
  have P := H.out.obj k t HT.out
  by_cases hx : x < 0 ∨ (t.S.posts.length : Int) ≤ x
  · have C1 := hide (Back_no I t.F t.S x Z P.l hx)
    have C2 := hide (Back_rno I t.R t.S x Z P.r hx)
    clear hx P d2 d4
    go_wp2_with fail
    refine (C1.out).mono ?_
    rintro e w1 ⟨rfl, rfl⟩
    go_wp2_with fail
    refine (C2.out).mono ?_
    rintro e w2 ⟨rfl, rfl⟩
    clear d3
    go_wp2
    go_ret
    exact ⟨rfl, I, T, ov, wv, H.out.below (Below.refl _ _) (Nat.le_succ n)⟩
  · obtain ⟨m, rfl⟩ : ∃ m : Nat, x = (m : Int) := ⟨x.toNat, by omega⟩
    obtain ⟨pp, hpp⟩ : ∃ pp, t.S.posts[m]? = some pp := ⟨_, List.getElem?_eq_getElem (by omega)⟩
    have C1 := hide (Back_yes I t.F t.S m pp Z P.l hpp P.g.fine)
    have C2 := hide (fun I1 w1 (r : RObj I1 t.R t.S w1) => Back_ryes I1 t.R t.S m pp w1 r hpp P.g.fine P.g.agree)
    have HP := hide P
    clear hx hpp P d2 d4
    by_cases hm : mayE t.S.acc (negE pp) = 0
    · have HM := hide hm
      go_wp2_with fail
      refine (C1.out).mono ?_
      rintro e w1 (⟨hno, -, -⟩ | ⟨-, rfl, I1, F', l1, s1⟩)
      · exact absurd HM.out hno
      have HL1 := hide l1
      have HS1 := hide s1
      have ow : ∀ k, t.F.own k → k ≠ w.heap.size := fun k hk e => by have := HOW.out k (.inl hk); omega
      have d3 := cell_stay d3 (s1.keep _ (by omega) (fun h => ow _ h rfl))
      clear l1 s1 ow hm
      go_wp2_with fail
      refine (C2.out _ w1 (HP.out.mid HS1.out.turn)).mono ?_
      rintro e w2 (⟨hno, -, -⟩ | ⟨-, rfl, I2, R', r2, s2, er⟩)
      · exact absurd HM.out hno
      have HR2 := hide r2
      have HS2 := hide s2
      have HER := hide er
      have n1 : ((t.S.posts.length : Int) == (t.S.posts.length : Int)) = true := by simp
      have n2 : decide ((t.S.posts.length : Int) = (t.S.posts.length : Int)) = true := by simp
      clear r2 s2 er d3
      go_wp2
      go_ret
      obtain ⟨p1, p2⟩ := HP.out.both HL1.out HS1.out.turn HR2.out HS2.out HER.out (HP.out.g.post HM.out (by have := HN.out; omega))
      exact ⟨rfl, I2, _, ov, wv, H.out.turn HT.out p2 p1 HS1.out.b HER.out (Nat.le_succ n)⟩
    · have HM := hide hm
      obtain ⟨mm, hmm⟩ : ∃ mm, mm = mayE t.S.acc (negE pp) := ⟨_, rfl⟩
      have HMM := hide hmm
      have n1 : (mm == mm) = true := by simp
      have n2 : decide (mm = mm) = true := by simp
      clear hmm
      go_wp2_with fail
      refine (C1.out).mono ?_
      rintro e w1 (⟨-, rfl, hb1⟩ | ⟨hno, -⟩)
      rotate_left
      · exact absurd hno HM.out
      rw [← HMM.out]
      have HB1 := hide hb1
      have d3 := cell_stay d3 (hb1.block _ (by omega))
      clear hb1 hm
      go_wp2_with fail
      refine (C2.out _ w1 (HP.out.r.below HB1.out)).mono ?_
      rintro e w2 (⟨-, rfl, hb2⟩ | ⟨hno, -⟩)
      rotate_left
      · exact absurd hno HM.out
      rw [← HMM.out]
      have HB2 := hide hb2
      clear hb2 d3
      go_wp2
      go_ret
      exact ⟨rfl, I, T, ov, wv, H.out.below (bstep HB1.out HB2.out) (Nat.le_succ n)⟩
end Go.Proofs.Ytkdocoibfclfeaa

namespace Go.Proofs.Ytkdocoibfclfeaa
open Go.ChangeShapes Go.WideShapes Go.ChangeAt Go.RowKit Go.Deep Go.Shelf Go.Maps Go.WideMaps Ytkdocoibfclfeaa.it
set_option linter.unusedSimpArgs false
set_option linter.unusedVariables false

attribute [local go_sem] Oper.semAt_some

/-- the law's world, its two rows what they are -/
structure SB (w0 : World) (n : Nat) (I : Nat → Prop) (T : List Tri) (q : Nat) (ov wv : Value) (a b : List Value) (w : World) : Prop where
  obj : ∀ (i : Nat) (t : Tri), T[i]? = some t → Pair n I t w
  dis : ∀ (i j : Nat) (t u : Tri), T[i]? = some t → T[j]? = some u → i ≠ j → ∀ k, t.own k → ¬ u.own k
  cur : ∀ (i : Nat) (t : Tri), i < 2 → T[i]? = some t → w.cell? ⟨q, i, none⟩ = some t.pl ∧ w.cell? ⟨q, 2 + i, none⟩ = some t.pr
  c4 : w.cell? ⟨q, 4, none⟩ = some ov
  c5 : w.cell? ⟨q, 5, none⟩ = some wv
  fr : ∀ o, w.frozen? ⟨q, o, none⟩ = false
  ovr : w.ownsRow w0.heap.size 25 1 ov a.length a
  wvr : w.ownsRow w0.heap.size 43 1 wv b.length b
  qd : ∀ (i : Nat) (t : Tri), T[i]? = some t → ∀ k, t.own k → w0.heap.size ≤ k ∧ k ≠ q ∧ ov.ownBlock ≠ some k ∧ wv.ownBlock ≠ some k
  qi : ∀ k, I k → k ≠ q ∧ ov.ownBlock ≠ some k ∧ wv.ownBlock ≠ some k
  qo : ov.ownBlock ≠ some q ∧ wv.ownBlock ≠ some q ∧ ∀ k, ov.ownBlock = some k → wv.ownBlock ≠ some k
  up : w0.heap.size ≤ q
  low : Below w0.heap.size w0 w
  ilt : ∀ k, I k → k < w.heap.size
section
variable {w0 : World} {n : Nat} {I : Nat → Prop} {T : List Tri} {q : Nat} {ov wv : Value} {a b : List Value} {w w' : World}
theorem St.toSB (h : St w0 n I T q ov wv w) : SB w0 n I T q ov wv ((T.map Tri.pl).drop 2) ((T.map Tri.pr).drop 2) w := by
  obtain ⟨t, ht⟩ : ∃ t, T[0]? = some t := ⟨_, List.getElem?_eq_getElem (by have := h.two; omega)⟩
  exact ⟨h.obj, h.dis, h.cur, h.c4, h.c5, h.fr, by have := h.ovr; simpa using this, by have := h.wvr; simpa using this, h.qd, h.qi, h.qo, h.up, h.low, (h.obj 0 t ht).l.ilt⟩
theorem SB.qz (h : SB w0 n I T q ov wv a b w) : q < w.heap.size := World.block_lt_of_cell? w _ h.c4
theorem SB.below (h : SB w0 n I T q ov wv a b w) (hb : Below w.heap.size w w') : SB w0 n I T q ov wv a b w' := by
  have hq := hb.block q h.qz
  exact ⟨fun i t hi => (h.obj i t hi).below hb, h.dis, fun i t h1 h2 => ⟨cell_stay (h.cur i t h1 h2).1 hq, cell_stay (h.cur i t h1 h2).2 hq⟩, cell_stay h.c4 hq, cell_stay h.c5 hq, fun o => fro_stay (h.fr o) hq,
    own_stays h.ovr (fun k e => hb.block k (h.ovr.lt k e).2), own_stays h.wvr (fun k e => hb.block k (h.wvr.lt k e).2), h.qd, h.qi, h.qo, h.up, h.low.trans (hb.mono h.low.size), fun k hk => Nat.lt_of_lt_of_le (h.ilt k hk) hb.size⟩
/-- the pairs, when nothing of theirs was written -/
theorem SB.pairs (h : SB w0 n I T q ov wv a b w) (os : w'.os = w.os) (tape : w'.tape = w.tape) (output : w'.output = w.output) (size : w.heap.size ≤ w'.heap.size) (o : Nat → Prop) (ho : ∀ k, k < w.heap.size → ¬ o k → w'.heap[k]? = w.heap[k]?)
    (h1 : ∀ (i : Nat) (t : Tri), T[i]? = some t → ∀ k, t.own k → ¬ o k) (h2 : ∀ k, o k → ¬ I k) (i : Nat) (t : Tri) (hi : T[i]? = some t) : Pair n I t w' :=
  (h.obj i t hi).aside (o := o) (o' := o) ⟨os, tape, output, size, ho, fun _ q => .inl q, fun _ q => q, fun _ q r => absurd q r⟩ (h1 i t hi) h2
theorem SB.push_o (h : SB w0 n I T q ov wv a b w) {v v' : Value} {W w1 : World} (hbW : Below w.heap.size w W) (own : w1.ownsRow w0.heap.size 25 1 v' (a.length + 1) (a ++ [v])) (hg : W.grownBy w1 ov.ownBlock) (loc : v'.ownBlock = ov.ownBlock ∨ ∃ g, v'.ownBlock = some g ∧ w.heap.size ≤ g) (one : v'.oneCell' = true) :
    SB w0 n I T q v' wv (a ++ [v]) b (w1.setCell ⟨q, 4, none⟩ v') := by
  have hW := h.below hbW
  have zq := hW.qz
  have hz := hbW.size
  have hold : ∀ k, k < W.heap.size → k ≠ q → ov.ownBlock ≠ some k → (w1.setCell ⟨q, 4, none⟩ v').heap[k]? = W.heap[k]? := fun k hk h1 h2 => (heap_setCell_other _ _ _ _ h1).trans (hg.block k hk (fun e => h2 e.symm))
  have hq1 : w1.heap[q]? = W.heap[q]? := hg.block q zq (fun e => hW.qo.1 e.symm)
  have hc : ∀ o u, o ≠ 4 → W.cell? ⟨q, o, none⟩ = some u → (w1.setCell ⟨q, 4, none⟩ v').cell? ⟨q, o, none⟩ = some u := fun o u ho hu => (World.cell?_setCell_other w1 ⟨q, 4, none⟩ ⟨q, o, none⟩ v' (by first | exact fun e => ho (congrArg Addr.off e) | exact fun e => ho (congrArg Addr.off e).symm)).trans (cell_stay hu hq1)
  have nv : ∀ k, k < w.heap.size → ov.ownBlock ≠ some k → v'.ownBlock ≠ some k := fun k hk h1 e => by
    rcases loc with l | ⟨g, l, hgz⟩
    · exact h1 (l ▸ e)
    · rw [l] at e; cases e; omega
  refine ⟨hW.pairs hg.os hg.tape hg.output (by rw [World.size_setCell]; exact hg.size) (fun k => k = q ∨ ov.ownBlock = some k) (fun k hk hn => hold k hk (fun e => hn (.inl e)) (fun e => hn (.inr e))) (fun i t hi k hk ho => by
      have := hW.qd i t hi k hk
      exact ho.elim this.2.1 this.2.2.1) (fun k ho hi => by
      have := hW.qi k hi
      exact ho.elim this.1 this.2.1), h.dis, fun i t h1 h2 => ⟨hc i _ (by omega) (hW.cur i t h1 h2).1, hc _ _ (by omega) (hW.cur i t h1 h2).2⟩,
    World.cell?_setCell_same' _ _ _ (by rw [cell_stay hW.c4 hq1]; rfl), hc 5 _ (by decide) hW.c5, fun o => (World.frozen?_setCell _ _ _ _).trans (fro_stay (hW.fr o) hq1), ?_, ?_, fun i t hi k hk => ?_, fun k hk => ?_, ?_, h.up, ?_, fun k hk => ?_⟩
  · rw [List.length_append]
    exact own_stays own (fun k e => heap_setCell_other _ _ _ _ (fun e2 => nv q (by have := h.qz; omega) h.qo.1 (by rw [e]; exact congrArg some e2)))
  · exact own_stays hW.wvr (fun k e => hold k (hW.wvr.lt k e).2 (fun e2 => hW.qo.2.1 (by rw [e, e2])) (fun e2 => hW.qo.2.2 k e2 e))
  · have := h.qd i t hi k hk
    exact ⟨this.1, this.2.1, nv k ((h.obj i t hi).lt hk) this.2.2.1, this.2.2.2⟩
  · have := h.qi k hk
    exact ⟨this.1, nv k (h.ilt k hk) this.2.1, this.2.2⟩
  · refine ⟨nv q h.qz h.qo.1, h.qo.2.1, fun k e e2 => ?_⟩
    exact nv k (h.wvr.lt k e2).2 (fun e3 => h.qo.2.2 k e3 e2) e
  · exact (hW.low.grown hg hW.low.size (fun k e => (hW.ovr.lt k e).1)).setCell (p := ⟨q, 4, none⟩) h.up _
  · rw [World.size_setCell]
    exact Nat.lt_of_lt_of_le (hW.ilt k hk) hg.size
theorem SB.push_w (h : SB w0 n I T q ov wv a b w) {v v' : Value} {W w1 : World} (hbW : Below w.heap.size w W) (own : w1.ownsRow w0.heap.size 43 1 v' (b.length + 1) (b ++ [v])) (hg : W.grownBy w1 wv.ownBlock) (loc : v'.ownBlock = wv.ownBlock ∨ ∃ g, v'.ownBlock = some g ∧ w.heap.size ≤ g) (one : v'.oneCell' = true) :
    SB w0 n I T q ov v' a (b ++ [v]) (w1.setCell ⟨q, 5, none⟩ v') := by
  have hW := h.below hbW
  have zq := hW.qz
  have hz := hbW.size
  have hold : ∀ k, k < W.heap.size → k ≠ q → wv.ownBlock ≠ some k → (w1.setCell ⟨q, 5, none⟩ v').heap[k]? = W.heap[k]? := fun k hk h1 h2 => (heap_setCell_other _ _ _ _ h1).trans (hg.block k hk (fun e => h2 e.symm))
  have hq1 : w1.heap[q]? = W.heap[q]? := hg.block q zq (fun e => hW.qo.2.1 e.symm)
  have hc : ∀ o u, o ≠ 5 → W.cell? ⟨q, o, none⟩ = some u → (w1.setCell ⟨q, 5, none⟩ v').cell? ⟨q, o, none⟩ = some u := fun o u ho hu => (World.cell?_setCell_other w1 ⟨q, 5, none⟩ ⟨q, o, none⟩ v' (by first | exact fun e => ho (congrArg Addr.off e) | exact fun e => ho (congrArg Addr.off e).symm)).trans (cell_stay hu hq1)
  have nv : ∀ k, k < w.heap.size → wv.ownBlock ≠ some k → v'.ownBlock ≠ some k := fun k hk h1 e => by
    rcases loc with l | ⟨g, l, hgz⟩
    · exact h1 (l ▸ e)
    · rw [l] at e; cases e; omega
  refine ⟨hW.pairs hg.os hg.tape hg.output (by rw [World.size_setCell]; exact hg.size) (fun k => k = q ∨ wv.ownBlock = some k) (fun k hk hn => hold k hk (fun e => hn (.inl e)) (fun e => hn (.inr e))) (fun i t hi k hk ho => by
      have := hW.qd i t hi k hk
      exact ho.elim this.2.1 this.2.2.2) (fun k ho hi => by
      have := hW.qi k hi
      exact ho.elim this.1 this.2.2), h.dis, fun i t h1 h2 => ⟨hc i _ (by omega) (hW.cur i t h1 h2).1, hc _ _ (by omega) (hW.cur i t h1 h2).2⟩,
    hc 4 _ (by decide) hW.c4, World.cell?_setCell_same' _ _ _ (by rw [cell_stay hW.c5 hq1]; rfl), fun o => (World.frozen?_setCell _ _ _ _).trans (fro_stay (hW.fr o) hq1), ?_, ?_, fun i t hi k hk => ?_, fun k hk => ?_, ?_, h.up, ?_, fun k hk => ?_⟩
  · exact own_stays hW.ovr (fun k e => hold k (hW.ovr.lt k e).2 (fun e2 => hW.qo.1 (by rw [e, e2])) (fun e2 => hW.qo.2.2 k e e2))
  · rw [List.length_append]
    exact own_stays own (fun k e => heap_setCell_other _ _ _ _ (fun e2 => nv q (by have := h.qz; omega) h.qo.2.1 (by rw [e]; exact congrArg some e2)))
  · have := h.qd i t hi k hk
    exact ⟨this.1, this.2.1, this.2.2.1, nv k ((h.obj i t hi).lt hk) this.2.2.2⟩
  · have := h.qi k hk
    exact ⟨this.1, this.2.1, nv k (h.ilt k hk) this.2.2⟩
  · refine ⟨h.qo.1, nv q h.qz h.qo.2.1, fun k e => ?_⟩
    exact nv k (h.ovr.lt k e).2 (h.qo.2.2 k e)
  · exact (hW.low.grown hg hW.low.size (fun k e => (hW.wvr.lt k e).1)).setCell (p := ⟨q, 5, none⟩) h.up _
  · rw [World.size_setCell]
    exact Nat.lt_of_lt_of_le (hW.ilt k hk) hg.size
theorem SB.toSt (h : SB w0 n I T q ov wv ((T.map Tri.pl).drop 2) ((T.map Tri.pr).drop 2) w) (h2 : 2 ≤ T.length) (h12 : T.length ≤ 12) : St w0 n I T q ov wv w :=
  ⟨h2, h12, h.obj, h.dis, h.cur, h.c4, h.c5, h.fr, by have := h.ovr; simpa using this, by have := h.wvr; simpa using this, h.qd, h.qi, h.qo, h.up, h.low⟩
end
end Go.Proofs.Ytkdocoibfclfeaa

namespace Go.Proofs.Ytkdocoibfclfeaa
open Go.ChangeShapes Go.WideShapes Go.ChangeAt Go.RowKit Go.Deep Go.Shelf Go.Maps Go.WideMaps Ytkdocoibfclfeaa.it
set_option linter.unusedSimpArgs false
set_option linter.unusedVariables false

attribute [local go_sem] Oper.semAt_some

section
variable {w0 : World} {n : Nat} {I : Nat → Prop} {T : List Tri} {q : Nat} {ov wv : Value} {a b : List Value} {w w' : World}
/-- in the place of one: its copy -/
theorem SB.swap (h : SB w0 n I T q ov wv a b w) {k : Nat} {t : Tri} {F2 : Fp} {w7 : World} (hk : k < 2) (ht : T[k]? = some t) (hb : Below w.heap.size w w7) (l : LObj I F2 t.S w7) (fresh : ∀ j, F2.own j → w.heap.size ≤ j) :
    SB w0 n I (T.set k ⟨F2, t.R, t.S⟩) q ov wv a b (w7.setCell ⟨q, k, none⟩ (.pointer (some ⟨F2.b, 0, none⟩))) ∧ LObj I F2 t.S (w7.setCell ⟨q, k, none⟩ (.pointer (some ⟨F2.b, 0, none⟩))) ∧ ∀ (i : Nat) (u : Tri), T[i]? = some u → Pair n I u (w7.setCell ⟨q, k, none⟩ (.pointer (some ⟨F2.b, 0, none⟩))) := by
  have h7 := h.below hb
  have zq := h7.qz
  have zq0 := h.qz
  have hold : ∀ j, j ≠ q → (w7.setCell ⟨q, k, none⟩ (.pointer (some ⟨F2.b, 0, none⟩))).heap[j]? = w7.heap[j]? := fun j hj => heap_setCell_other _ _ _ _ hj
  have hc : ∀ o u, o ≠ k → w7.cell? ⟨q, o, none⟩ = some u → (w7.setCell ⟨q, k, none⟩ (.pointer (some ⟨F2.b, 0, none⟩))).cell? ⟨q, o, none⟩ = some u := fun o u ho hu => (World.cell?_setCell_other w7 ⟨q, k, none⟩ ⟨q, o, none⟩ _ (by first | exact fun e => ho (congrArg Addr.off e) | exact fun e => ho (congrArg Addr.off e).symm)).trans hu
  have hpr := h7.pairs (w' := w7.setCell ⟨q, k, none⟩ (.pointer (some ⟨F2.b, 0, none⟩))) rfl rfl rfl (by rw [World.size_setCell]; exact Nat.le_refl _) (fun j => j = q) (fun j _ hn => hold j hn) (fun i t hi j hj e => (h7.qd i t hi j hj).2.1 e) (fun j e hi => (h7.qi j hi).1 e)
  have T1 : Turn (fun j => j = q) I w7 (fun j => j = q) I (w7.setCell ⟨q, k, none⟩ (.pointer (some ⟨F2.b, 0, none⟩))) := ⟨rfl, rfl, rfl, by rw [World.size_setCell]; exact Nat.le_refl _, fun j _ hn => hold j hn, fun _ e => .inl e, fun _ e => e, fun _ e r => absurd e r⟩
  have lX := l.aside T1 (fun j hj e => by have := fresh j hj; omega) (fun j e hi => (h7.qi j hi).1 e)
  refine ⟨⟨fun i u hi => ?_, fun i j u1 u2 h1 h2 hne x x1 x2 => ?_, fun i u hi hu => ?_, hc 4 _ (by omega) h7.c4, hc 5 _ (by omega) h7.c5, fun o => (World.frozen?_setCell _ _ _ _).trans (h7.fr o), own_stays h7.ovr (fun j e => hold j (fun e2 => h7.qo.1 (by rw [e, e2]))), own_stays h7.wvr (fun j e => hold j (fun e2 => h7.qo.2.1 (by rw [e, e2]))), fun i u hi x hx => ?_, h7.qi, h7.qo, h7.up, h7.low.setCell (p := ⟨q, k, none⟩) h.up _, fun j hj => by rw [World.size_setCell]; exact h7.ilt j hj⟩, lX, hpr⟩
  · rcases set_cases hi with ⟨rfl, rfl⟩ | ⟨hne, hu⟩
    · have p := hpr i t ht
      refine ⟨lX, p.r, fun e => ?_, p.g⟩
      have e2 : F2.own t.R.r := e
      have := fresh _ e2
      have := (h.obj i t ht).r.lt
      omega
    · exact hpr i u hu
  · rcases set_cases h1 with ⟨rfl, rfl⟩ | ⟨hn1, h3⟩ <;> rcases set_cases h2 with ⟨rfl, rfl⟩ | ⟨hn2, h4⟩
    · exact hne rfl
    · rcases x1 with x1 | x1
      · have := fresh _ x1; have := (h.obj _ _ h4).lt x2; omega
      · exact h.dis _ _ _ _ ht h4 hne x (.inr x1) x2
    · rcases x2 with x2 | x2
      · have := fresh _ x2; have := (h.obj _ _ h3).lt x1; omega
      · exact h.dis _ _ _ _ h3 ht hne x x1 (.inr x2)
    · exact h.dis _ _ _ _ h3 h4 hne x x1 x2
  · rcases set_cases hu with ⟨rfl, rfl⟩ | ⟨hne, hu⟩
    · have := h7.cur i t hi ht
      exact ⟨World.cell?_setCell_same' _ _ _ (by rw [this.1]; rfl), hc _ _ (by omega) this.2⟩
    · have := h7.cur i u hi hu
      exact ⟨hc _ _ hne this.1, hc _ _ (by omega) this.2⟩
  · rcases set_cases hi with ⟨rfl, rfl⟩ | ⟨hne, hu⟩
    · rcases hx with hx | hx
      · have := fresh _ hx
        have := h.low.size
        exact ⟨by omega, by omega, fun e => by have := (h.ovr.lt x e).2; omega, fun e => by have := (h.wvr.lt x e).2; omega⟩
      · exact h.qd _ _ ht x (.inr hx)
    · exact h.qd _ _ hu x hx
/-- one more -/
theorem SB.add (h : SB w0 n I T q ov wv a b w) (h2 : 2 ≤ T.length) {u : Tri} (hp : Pair n I u w) (hd : ∀ (i : Nat) (t : Tri), T[i]? = some t → ∀ k, u.own k → ¬ t.own k) (hq : ∀ k, u.own k → w0.heap.size ≤ k ∧ k ≠ q ∧ ov.ownBlock ≠ some k ∧ wv.ownBlock ≠ some k) :
    SB w0 n I (T ++ [u]) q ov wv a b w := by
  have key : ∀ i t, (T ++ [u])[i]? = some t → T[i]? = some t ∨ (i = T.length ∧ t = u) := fun i t hi => by
    rcases Nat.lt_or_ge i T.length with hl | hl
    · rw [List.getElem?_append_left hl] at hi; exact .inl hi
    · rw [List.getElem?_append_right hl] at hi
      rcases hz : i - T.length with _ | m
      · rw [hz] at hi
        exact .inr ⟨by omega, by simpa using hi.symm⟩
      · rw [hz] at hi; simp at hi
  refine ⟨fun i t hi => ?_, fun i j t s h1 h3 hne k k1 k2 => ?_, fun i t hi ht => ?_, h.c4, h.c5, h.fr, h.ovr, h.wvr, fun i t hi k hk => ?_, h.qi, h.qo, h.up, h.low, h.ilt⟩
  · rcases key i t hi with e | ⟨-, rfl⟩
    · exact h.obj i t e
    · exact hp
  · rcases key i t h1 with e1 | ⟨l1, rfl⟩ <;> rcases key j s h3 with e2 | ⟨l2, rfl⟩
    · exact h.dis i j t s e1 e2 hne k k1 k2
    · exact hd i t e1 k k2 k1
    · exact hd j s e2 k k1 k2
    · omega
  · rcases key i t ht with e | ⟨l, rfl⟩
    · exact h.cur i t hi e
    · omega
  · rcases key i t hi with e | ⟨-, rfl⟩
    · exact h.qd i t e k hk
    · exact hq k hk
theorem SB.mono {m : Nat} (h : SB w0 n I T q ov wv a b w) (hm : n ≤ m) : SB w0 m I T q ov wv a b w :=
  ⟨fun i t hi => (h.obj i t hi).mono hm, h.dis, h.cur, h.c4, h.c5, h.fr, h.ovr, h.wvr, h.qd, h.qi, h.qo, h.up, h.low, h.ilt⟩
end
theorem info25 : (Try.prog.info? 25).map (fun i => (i.zero, i.size, i.bytes)) = some (some (.pointer none), 1, 8) := by kernel_rfl
theorem info43 : (Try.prog.info? 43).map (fun i => (i.zero, i.size, i.bytes)) = some (some (.pointer none), 1, 8) := by kernel_rfl
theorem oneptr (p : Option Addr) : ∀ u ∈ [Value.pointer p], u.oneCell' = true := fun u hu => by simp at hu; subst hu; rfl
theorem map_drop_set (f : Tri → Value) (T : List Tri) (k : Nat) (hk : k < 2) (t : Tri) : ((T.set k t).map f).drop 2 = (T.map f).drop 2 := by
  rw [List.map_set]
  exact List.drop_set_of_lt hk
end Go.Proofs.Ytkdocoibfclfeaa

namespace Go.Proofs.Ytkdocoibfclfeaa
open Go.ChangeShapes Go.WideShapes Go.ChangeAt Go.RowKit Go.Deep Go.Shelf Go.Maps Go.WideMaps Ytkdocoibfclfeaa.it
set_option linter.unusedSimpArgs false
set_option linter.unusedVariables false

attribute [local go_sem] Oper.semAt_some

theorem map_drop_add (f : Tri → Value) (T : List Tri) (k : Nat) (hk : k < 2) (t u : Tri) (h : 2 ≤ T.length) : ((T.set k t ++ [u]).map f).drop 2 = (T.map f).drop 2 ++ [f u] := by
  rw [List.map_append, List.drop_append_of_le_length (by simpa using h), map_drop_set f T k hk]; rfl

set_option maxRecDepth 1000000 in
set_option maxHeartbeats 4000000 in
theorem step_7 (w0 : World) (n : Nat) (I : Nat → Prop) (T : List Tri) (q : Nat) (ov wv : Value) (on x : Int) (s : ByteArray) (lo : Option Addr) (lc : Nat) (p : List Ent) (w : World) (h : St w0 n I T q ov wv w) (hE : Ents lo lc p w0) (hs : s.size ≤ maxLen) (hn : n < 120) : Calls Try.prog 16 #[.pointer (some ⟨q, 0, none⟩), .agg #[.int .i64 7, .int .i64 on, .string s, .int .i64 x, .slice lo p.length lc]] w (StepPost w0 n q) := by
  obtain ⟨k, hk2, hk⟩ : ∃ k : Nat, k < 2 ∧ (wrap64 (on.tmod 2 + 2)).tmod 2 = (k : Int) := by
    rcases onK_two on with q | q
    · exact ⟨0, by omega, q⟩
    · exact ⟨1, by omega, q⟩
  obtain ⟨t, ht⟩ : ∃ t, T[k]? = some t := ⟨_, List.getElem?_eq_getElem (by have := h.two; omega)⟩
  obtain ⟨W, hW⟩ : ∃ W, W = w.alloc (.cells #[.int .i64 7, .int .i64 on, .string s, .int .i64 x, .slice lo p.length lc] 53) := ⟨_, rfl⟩
  have hbW : Below w.heap.size w W := by rw [hW]; (focus repeat' (first | (with_reducible exact Below.refl _ _) | (with_reducible assumption) | (with_reducible refine Below.alloc ?_ ?_ _) | (with_reducible refine Below.drew ?_) | (with_reducible refine bdrewN ?_ _) | (with_reducible refine Below.setCell ?_ ?_ _) | (first | (with_reducible exact Nat.le_refl _) | (with_reducible assumption) | omega | (simp; omega) | (simp; done))))
  have H := hide (h.below hbW (Nat.le_refl _))
  have HE := hide hE
  have HSS := hide hs
  have HN := hide hn
  have zq : q < w.heap.size := h.qz
  have d0 : W.cell? ⟨w.heap.size, 0, none⟩ = some (.int .i64 7) := by rw [hW]; simp [go_sem]
  have d1 : W.cell? ⟨w.heap.size, 1, none⟩ = some (.int .i64 on) := by rw [hW]; simp [go_sem]
  have d2 : W.cell? ⟨w.heap.size, 2, none⟩ = some (.string s) := by rw [hW]; simp [go_sem]
  have d3 : W.cell? ⟨w.heap.size, 3, none⟩ = some (.int .i64 x) := by rw [hW]; simp [go_sem]
  have d4 : W.cell? ⟨w.heap.size, 4, none⟩ = some (.slice lo p.length lc) := by rw [hW]; simp [go_sem]
  obtain ⟨e1, e2⟩ := H.out.cur k t hk2 ht
  unfold Tri.pl at e1
  unfold Tri.pr at e2
  have hk0 : (0 : Int) ≤ (k : Int) := by omega
  have hk9 : (k : Int) < 2 := by omega
  have HT := hide ht
  have HOW := hide (show ∀ k, t.own k → k < w.heap.size from fun j hj => (h.obj k t ht).lt hj)
  have HD := hide (And.intro d2 (And.intro d3 d4))
  have HK := hide hk2
  have HBW := hide hbW
  have HW := hide hW
  have zWq : w.heap.size < W.heap.size := World.block_lt_of_cell? W _ d0
  have d9 : wrap64 (on.tmod 2 + 2) = wrap64 (on.tmod 2 + 2) := rfl
  clear h hE hs hn hbW ht hk2 hW d9
  go_enter Try.func16, Try.ntmps16
  go_wp2_with fail
  rw [← HW.out]
  go_wp2_with fail
  go_quiet (fail)
  obtain ⟨Z, hZ⟩ : ∃ Z, Z = W.drewN nq := ⟨_, rfl⟩
  rw [← hZ]
  have hbZ : Below W.heap.size W Z := by rw [hZ]; exact bdrewN (Below.refl _ _) nq
  have d0 := cell_stay d0 (hbZ.block _ zWq)
  have d2 := cell_stay d2 (hbZ.block _ zWq)
  have d3 := cell_stay d3 (hbZ.block _ zWq)
  have d4 := cell_stay d4 (hbZ.block _ zWq)
  have zZ := hbZ.size
  have H := hide (H.out.below hbZ (Nat.le_refl _))
  clear hbZ hZ e1 e2
  have P := hide (H.out.obj k t HT.out)
  have SZ := H.out.toSB
  obtain ⟨oo, oc, hov⟩ := own_any SZ.ovr
  obtain ⟨wo, wc, hwv⟩ := own_any SZ.wvr
  obtain ⟨a, ha⟩ : ∃ a, a = (T.map Tri.pl).drop 2 := ⟨_, rfl⟩
  obtain ⟨b, hb⟩ : ∃ b, b = (T.map Tri.pr).drop 2 := ⟨_, rfl⟩
  rw [← ha] at SZ hov
  rw [← hb] at SZ hwv
  have hal : a.length = T.length - 2 := by rw [ha]; simp
  have hbl : b.length = T.length - 2 := by rw [hb]; simp
  subst hov
  subst hwv
  have HSZ := hide SZ
  have HA := hide ha
  have HBb := hide hb
  have hla : a.length ≤ 10 := by have := H.out.few; omega
  have hlb : b.length ≤ 10 := by have := H.out.few; omega
  have c4 := SZ.c4
  have f4 := SZ.fr 4
  have zqq := SZ.qz
  obtain ⟨i0, hi0, hz0, hz1, hz2⟩ := info_parts info25
  obtain ⟨i1, gi0, gz0, gz1, gz2⟩ := info_parts info43
  have HTN := hide hal
  have HTN2 := hide hbl
  clear SZ ha hb hal hbl d2 d3 d4 HD
  by_cases h10 : a.length < 10
  · have h11 : (a.length : Int) < 10 := by omega
    have H10 := hide h10
    have ON1 := hide (oneptr (some ⟨t.F.b, 0, none⟩))
    clear h10
    go_upto_region 38 with fail
    go_wp2_with (at_builtin; (refine wpList_append_own_at _ rfl _ _ 45 rfl w0.heap.size 25 i0 _ 1 8 Try.underlying45 hi0 hz0 hz1 hz2 rfl (by decide) _ _ _ rfl (HSZ.out.ovr.alloc _) ⟨Z.heap.size, 0, none⟩ 1 1 [.pointer (some ⟨t.F.b, 0, none⟩)] rfl rfl (cell_one_new _ _ _) ON1.out (by unfold maxLen; omega) (by omega) (by have := HSZ.out.low.size; simp; omega) ?_; intro ov' w1 own1 hg1 hnil hloc; obtain ⟨oo', oc', rfl⟩ := own_any own1; have G1 := hide (And.intro own1 (And.intro hg1 hloc)); have hq1 : w1.heap[q]? = Z.heap[q]? := (hg1.block q (by simp; omega) (fun e => HSZ.out.qo.1 e.symm)).trans (Below.heap_alloc _ _ _ zqq); have c41 := cell_stay c4 hq1; have f41 := fro_stay f4 hq1; clear own1 hg1 hnil hloc hq1))
    obtain ⟨X1, hX1⟩ : ∃ X1, X1 = w1.setCell ⟨q, 4, none⟩ (.slice oo' (a.length + 1) oc') := ⟨_, rfl⟩
    rw [← hX1]
    have q1 : SB w0 n I T q (.slice oo' (a.length + 1) oc') (.slice wo b.length wc) (a ++ [t.pl]) b X1 := by
      rw [hX1]
      exact HSZ.out.push_o ((Below.refl _ _).alloc (Nat.le_refl _) _) G1.out.1 G1.out.2.1 (G1.out.2.2.imp id (fun e => ⟨_, e, by simp⟩)) rfl
    have S1 := hide q1
    have z1 := q1.qz
    have c5 := q1.c5
    have f5 := q1.fr 5
    have PX1 := hide (q1.obj k t HT.out)
    have HB1 := hide (show Z.heap.size ≤ X1.heap.size by rw [hX1, World.size_setCell]; have := G1.out.2.1.size; simp at this; omega)
    clear q1 hX1 c41 f41 G1 c4 f4
    have ON2 := hide (oneptr (some ⟨X1.heap.size, 0, none⟩))
    go_region_law (first
      | (refine step_append_lies _ rfl _ _ 46 rfl w0.heap.size 43 i1 (.pointer none) 1 8 Try.underlying46 gi0 gz0 gz1 gz2 rfl (by decide) (.slice wo b.length wc) b.length b (by simp [Act.eval, Act.put]) (HO5.out.alloc _) ⟨w5.heap.size, 0, none⟩ 1 1 [.pointer (some ⟨X1.heap.size, 0, none⟩)] (by simp [Act.eval, Act.put]) (by simp) (cell_one_new _ _ _) ON2.out (by decide) (by unfold maxLen; omega) (by omega) (by have := S1.out.low.size; have := HB5.out.size; simp; omega) _ rfl ?_; intro g6 cap6 w6 own6 hg6 hloc6 hlt6; have G6 := hide (And.intro own6 (And.intro hg6 hloc6)); have hq6 : w6.heap[q]? = w5.heap[q]? := (hg6.block q (by have := HB5.out.size; simp; omega) (fun e => S1.out.qo.2.1 e.symm)).trans (Below.heap_alloc _ _ _ (by have := HB5.out.size; omega)); have c56 := cell_stay c55 hq6; have f56 := fro_stay f55 hq6; clear own6 hg6 hloc6 hlt6 hq6)
      | (go_simp; go_at_call 43; (apply Calls.mono; focus (exact Copy_r I t.R t.S _ (PX1.out.r.below (drewB _)))); rintro e w5 ⟨rfl, r5, hb5⟩; have HR5 := hide (show RObj I { t.R with r := X1.heap.size } t.S w5 from r5); have HB5 := hide (show Below X1.heap.size X1 w5 from bstep (drewB _) hb5); have hz5 : X1.heap.size < w5.heap.size := World.block_lt_of_cell? w5 _ HR5.out.c0; have zq5 : q < w5.heap.size := (by omega); have c55 := cell_stay c5 (HB5.out.block _ z1); have f55 := fro_stay f5 (HB5.out.block _ z1); have HO5 := hide (own_stays S1.out.wvr (fun j hj => HB5.out.block _ (S1.out.wvr.lt j hj).2)); clear r5 hb5))
    all_goals
      obtain ⟨X2, hX2⟩ : ∃ X2, X2 = w6.setCell ⟨q, 5, none⟩ (.slice (some ⟨g6, 0, none⟩) (b.length + 1) cap6) := ⟨_, rfl⟩
      rw [← hX2]
      have q2 : SB w0 n I T q (.slice oo' (a.length + 1) oc') (.slice (some ⟨g6, 0, none⟩) (b.length + 1) cap6) (a ++ [t.pl]) (b ++ [.pointer (some ⟨X1.heap.size, 0, none⟩)]) X2 := by
        rw [hX2]
        exact S1.out.push_w (HB5.out.alloc HB5.out.size _) G6.out.1 G6.out.2.1 (G6.out.2.2.imp (fun e => e.symm) (fun e => ⟨g6, rfl, by rw [e]; have := HB5.out.size; simp; omega⟩)) rfl
      have HR6 := hide (show RObj I { t.R with r := X1.heap.size } t.S X2 from by
        have nq : ∀ j, I j → j ≠ q := fun j hj => (S1.out.qi j hj).1
        have q5 := HR5.out.below ((Below.refl w5.heap.size w5).alloc (Nat.le_refl _) (.cells #[.pointer (some ⟨X1.heap.size, 0, none⟩)] 43))
        refine q5.stays (by rw [hX2, World.size_setCell]; exact G6.out.2.1.size) (fun j hj => ?_) (fun j h => h) (fun j h n => absurd h n)
        have hjq : j ≠ q ∧ (Value.slice wo b.length wc).ownBlock ≠ some j := by
          rcases hj with rfl | hj
          · exact ⟨by show X1.heap.size ≠ q; omega, fun e => by have := (S1.out.wvr.lt _ e).2; exact absurd this (Nat.lt_irrefl _)⟩
          · exact ⟨(S1.out.qi j hj).1, (S1.out.qi j hj).2.2⟩
        rw [hX2]
        refine (heap_setCell_other _ _ _ _ hjq.1).trans (G6.out.2.1.block j ?_ (fun e => hjq.2 e.symm))
        rcases hj with rfl | hj
        · show X1.heap.size < _; simp; omega
        · have := HR5.out.ilt j hj; simp; omega)
      have HG6 := hide (show g6 ≠ X1.heap.size from fun e => by
        rcases G6.out.2.2 with e2 | e2
        · have := (S1.out.wvr.lt g6 e2).2; omega
        · simp at e2; omega)
      have S2 := hide q2
      have hz2 : X1.heap.size < X2.heap.size := by rw [hX2, World.size_setCell]; have := G6.out.2.1.size; simp at this; omega
      clear q2 hX2 c56 f56 c55 f55 c5 f5
      have PX := hide (S2.out.obj k t HT.out)
      obtain ⟨e1, -⟩ := S2.out.cur k t HK.out HT.out
      unfold Tri.pl at e1
      have fk := S2.out.fr k
      have zqX := S2.out.qz
      go_wp2_with fail
      go_region_law (first
        | (go_simp; go_at_call 14; (apply Calls.mono; focus (exact Copy_c I t.F t.S _ (PX.out.l.below (drewB _)) PX.out.g.fine)); rintro e w7 ⟨F2, rfl, l7, f7, hb7⟩; have HL7 := hide l7; have HF7 := hide f7; have HB7 := hide (show Below X2.heap.size X2 w7 from bstep (drewB _) hb7); have e7 := cell_stay e1 (HB7.out.block _ zqX); have fk7 := fro_stay fk (HB7.out.block _ zqX); clear l7 f7 hb7))
      all_goals
        obtain ⟨Y, hY⟩ : ∃ Y, Y = w7.setCell ⟨q, k, none⟩ (.pointer (some ⟨F2.b, 0, none⟩)) := ⟨_, rfl⟩
        have q0 := S2.out.swap HK.out HT.out HB7.out HL7.out (fun j hj => by have := HF7.out j hj; simpa using this)
        rw [← hY] at q0 ⊢
        have HBT := hide (show Turn (fun j => j = q) I X2 (fun j => j = q) I Y from by rw [hY]; exact ⟨HB7.out.os, HB7.out.tape, HB7.out.output, by rw [World.size_setCell]; exact HB7.out.size, fun j hj hn => (heap_setCell_other _ _ _ _ hn).trans (HB7.out.block j hj), fun _ e => .inl e, fun _ e => e, fun _ e r => absurd e r⟩)
        have HQ := hide q0
        have cY : Y.cell? ⟨q, k, none⟩ = some (.pointer (some ⟨F2.b, 0, none⟩)) := by rw [hY]; exact World.cell?_setCell_same' _ _ _ (by rw [e7]; rfl)
        clear q0 hY e7 fk7 e1 fk
        go_wp2_with fail
        refine (Same_ff I t.F F2 t.S t.S Y (HQ.out.2.2 k t HT.out).l HQ.out.2.1 PX.out.g.fine PX.out.g.agree.few).mono ?_
        rintro e U ⟨rfl, hbU⟩
        rw [sameB_refl]
        have HBU := hide hbU
        clear hbU cY
        go_wp2
        go_ret
        have B1 := (HQ.out.1.below HBU.out).mono (Nat.le_succ n)
        have h2 := H.out.two
        have h12 := H.out.few
        have hb2' : (Value.slice oo' (a.length + 1) oc').ownBlock ≠ some X1.heap.size := fun e => by have := (S1.out.ovr.lt _ e).2; omega
        have lK := HOW.out
        have SA := B1.add (u := ⟨t.F, { t.R with r := X1.heap.size }, t.S⟩) (by rw [List.length_set]; exact h2) ?pair ?dis ?qd
        case pair =>
          have P9 := (HQ.out.2.2 k t HT.out).below HBU.out
          refine ⟨P9.l, ?_, fun e => ?_, P9.g.mono (Nat.le_succ n)⟩
          · have T9 : Turn (fun j => j = q) I X2 (fun j => j = q) I U := HBT.out.trans (Turn.of_below HBU.out)
            exact HR6.out.aside T9 (by show X1.heap.size ≠ q; omega) (fun j e hi => (S1.out.qi j hi).1 e)
          · have e2 : t.F.own X1.heap.size := e
            have := lK _ (.inl e2); have := HB1.out; omega
        case dis =>
          intro i u hi x hx hu
          rcases set_cases hi with ⟨rfl, rfl⟩ | ⟨hne, hi⟩
          · rcases hx with hx | hx <;> rcases hu with hu | hu
            · have := HF7.out x hu; have := lK _ (.inl hx); have := HB1.out; simp at *; omega
            · exact PX.out.d (hu ▸ hx)
            · have hx2 : x = X1.heap.size := hx
              have := HF7.out x hu; simp at this; omega
            · have hx2 : x = X1.heap.size := hx
              have hu2 : x = t.R.r := hu
              have := lK _ (.inr rfl); have := HB1.out; omega
          · rcases hx with hx | hx
            · exact S2.out.dis _ _ _ _ HT.out hi (fun e => hne e.symm) x (.inl hx) hu
            · have hx2 : x = X1.heap.size := hx
              have := (S1.out.obj i u hi).lt hu
              omega
        case qd =>
          intro x hx
          rcases hx with hx | hx
          · exact S2.out.qd k t HT.out x (.inl hx)
          · have hx2 : x = X1.heap.size := hx
            subst hx2
            exact ⟨by have := S1.out.low.size; omega, by omega, hb2', fun e => HG6.out (Option.some.inj e)⟩
        exact ⟨rfl, I, _, _, _, SB.toSt (by
          rw [map_drop_add Tri.pl T k HK.out _ _ h2, map_drop_add Tri.pr T k HK.out _ _ h2, ← HA.out, ← HBb.out]
          exact SA) (by simp; omega) (by simp; have := H10.out; have := HTN.out; omega)⟩
  · have h11 : ¬ (a.length : Int) < 10 := by omega
    clear h10
    have PX := hide (HSZ.out.obj k t HT.out)
    obtain ⟨e1, -⟩ := HSZ.out.cur k t HK.out HT.out
    unfold Tri.pl at e1
    have fk := HSZ.out.fr k
    have zqX := HSZ.out.qz
    go_wp2_with fail
    go_region_law (first
      | (go_simp; go_at_call 14; (apply Calls.mono; focus (exact Copy_c I t.F t.S _ (PX.out.l.below (drewB _)) PX.out.g.fine)); rintro e w7 ⟨F2, rfl, l7, f7, hb7⟩; have HL7 := hide l7; have HF7 := hide f7; have HB7 := hide (show Below Z.heap.size Z w7 from bstep (drewB _) hb7); have e7 := cell_stay e1 (HB7.out.block _ zqX); have fk7 := fro_stay fk (HB7.out.block _ zqX); clear l7 f7 hb7))
    all_goals
      obtain ⟨Y, hY⟩ : ∃ Y, Y = w7.setCell ⟨q, k, none⟩ (.pointer (some ⟨F2.b, 0, none⟩)) := ⟨_, rfl⟩
      have q0 := HSZ.out.swap HK.out HT.out HB7.out HL7.out (fun j hj => by have := HF7.out j hj; simpa using this)
      rw [← hY] at q0 ⊢
      have HQ := hide q0
      have cY : Y.cell? ⟨q, k, none⟩ = some (.pointer (some ⟨F2.b, 0, none⟩)) := by rw [hY]; exact World.cell?_setCell_same' _ _ _ (by rw [e7]; rfl)
      clear q0 hY e7 fk7 e1 fk
      go_wp2_with fail
      refine (Same_ff I t.F F2 t.S t.S Y (HQ.out.2.2 k t HT.out).l HQ.out.2.1 PX.out.g.fine PX.out.g.agree.few).mono ?_
      rintro e U ⟨rfl, hbU⟩
      rw [sameB_refl]
      have HBU := hide hbU
      clear hbU cY
      go_wp2
      go_ret
      have B1 := (HQ.out.1.below HBU.out).mono (Nat.le_succ n)
      have h2 := H.out.two
      have h12 := H.out.few
      have h2 := H.out.two
      exact ⟨rfl, I, _, _, _, SB.toSt (by
        rw [map_drop_set Tri.pl T k HK.out, map_drop_set Tri.pr T k HK.out, ← HA.out, ← HBb.out]
        exact B1) (by simp; omega) (by simp; omega)⟩
end Go.Proofs.Ytkdocoibfclfeaa

namespace Go.Proofs.Ytkdocoibfclfeaa
open Go.ChangeShapes Go.WideShapes Go.ChangeAt Go.RowKit Go.Deep Go.Shelf Go.Maps Go.WideMaps Ytkdocoibfclfeaa.it
set_option linter.unusedSimpArgs false
set_option linter.unusedVariables false

attribute [local go_sem] Oper.semAt_some

section
variable {H : Type} {enc : TypeId × Value → H} {w : World} {base : Nat} {spare : Nat → Bool} {held : Bool}
theorem spot_addr {a : Addr} (h : a.spot = none) (n : Nat) : a.add n = ⟨a.block, a.off + n, none⟩ := by
  obtain ⟨b, o, s⟩ := a
  simp at h
  subst h
  exact Addr.add_lit b o n
theorem spot_of {a : Addr} {v : Value} (h : w.cell? (a.add 0) = some v) : a.spot = none := by
  have := World.cell?_spot h
  simpa [Addr.add] using this
theorem addr_of {a : Addr} (h : a.spot = none) : a = ⟨a.block, a.off, none⟩ := by
  obtain ⟨b, o, s⟩ := a
  simp at h
  subst h
  rfl
theorem strs_of {fuel : Nat} {cs : List Value} {y : DataW H × List MemPlace} (h : DataW.trod enc Try.prog w base spare held fuel 22 cs = some y) : ∃ so cap L, cs = [.slice so (List.length L) cap] ∧ NRow w so L := by
  rcases open_strings Try.underlying22 Try.underlying9 (by kernel_rfl) h with ⟨h1, rfl⟩ | ⟨a, len, cap, zs, h1, _, hl, _, hz, rfl, hc, hw⟩
  · exact ⟨none, 0, [], h1, ⟨fun k hk => by simp at hk⟩⟩
  · have hzl : len ≤ zs.length := by rw [hz]; split <;> omega
    have hlen : (zs.take len).length = len := by simp; omega
    refine ⟨some a, cap, zs.take len, by rw [h1, hlen], ⟨fun k hk => ?_⟩⟩
    rw [hlen] at hk
    have hsp := spot_of (hc 0 (by omega))
    refine ⟨a.block, a.off, by rw [← addr_of hsp], ?_⟩
    have cj := hc k (by omega)
    rw [spot_addr hsp] at cj
    rw [cj]
    have hjz : k < zs.length := by omega
    simp [List.getD, hjz, hk]
set_option maxRecDepth 100000 in
theorem ent_of {fuel : Nat} {cs : List Value} {y : DataW H × List MemPlace} (h : DataW.trod enc Try.prog w base spare held fuel 63 cs = some y) : ∃ x : Ent, cs = [.string x.1, .int .i64 x.2] := by
  obtain ⟨ys, n, _, rfl, hlc, hlen, hg⟩ := DataW.trod_struct Try.underlying63 h
  rw [show Try.prog.cellsOf 63 = 2 from by kernel_rfl] at hlc
  match ys, hlen, cs, hlc with
  | [y0, y1], _, [c0, c1], _ =>
    have g0 : DataW.trod enc Try.prog w base spare held n 9 (([c0, c1].drop 0).take (Try.prog.cellsOf 9)) = some y0 := hg 0 _ rfl
    have g1 : DataW.trod enc Try.prog w base spare held n 2 (([c0, c1].drop 1).take (Try.prog.cellsOf 2)) = some y1 := hg 1 _ rfl
    rw [show Try.prog.cellsOf 9 = 1 from by kernel_rfl] at g0
    rw [show Try.prog.cellsOf 2 = 1 from by kernel_rfl] at g1
    simp only [List.drop, List.take] at g0 g1
    obtain ⟨s, e0, -, _⟩ := DataW.trod_string Try.underlying9 g0
    obtain ⟨z, e1, -, _⟩ := DataW.trod_int Try.underlying2 g1
    injection e0 with e0 _
    injection e1 with e1 _
    exact ⟨(s, z), by rw [e0, e1]⟩
theorem ents_of {fuel : Nat} {cs : List Value} {y : DataW H × List MemPlace} (h : DataW.trod enc Try.prog w base spare held fuel 33 cs = some y) : ∃ so cap p, cs = [.slice so (List.length p) cap] ∧ Ents so cap p w := by
  rcases DataW.trod_slice Try.underlying33 h with ⟨rfl, rfl⟩ | ⟨a, len, cap, elems, rest, n, _, rfl, rfl, hb, hl, hm, hlen, hel, hsp, hns⟩
  · exact ⟨none, 0, [], rfl, ⟨fun _ => ⟨rfl, rfl⟩, fun q => by simp at q, fun ad e => by cases e⟩⟩
  rw [show Try.prog.cellsOf 63 = 2 from by kernel_rfl] at hel
  have each : ∀ i, ∃ x : Ent, i < len → ∃ cs', w.cells? base (a.add (i * 2)) 2 = some cs' ∧ cs' = [.string x.1, .int .i64 x.2] := by
    intro i
    by_cases hi : i < len
    · have h2 := hel i hi
      have hie : i < elems.length := by omega
      rw [List.getElem?_eq_getElem hie, Option.bind_eq_some_iff] at h2
      obtain ⟨cs', hcs, hy'⟩ := h2
      obtain ⟨x, hx⟩ := ent_of hy'
      exact ⟨x, fun _ => ⟨_, hcs, hx⟩⟩
    · exact ⟨(⟨#[]⟩, 0), fun h => absurd h hi⟩
  obtain ⟨f, hf⟩ := Classical.axiomOfChoice each
  have cell : ∀ i, i < len → ∀ c, c < 2 → w.cell? ((a.add (i * 2)).add c) = ([Value.string (f i).1, .int .i64 (f i).2])[c]? := by
    intro i hi c hc
    obtain ⟨cs', hcs, e⟩ := hf i hi
    have := (World.cells?_some hcs).2.2 c hc
    rw [this, ← e]

  have hen : ∀ i, i < len → ent ((List.range len).map f) i = f i := fun i hi => by simp [ent, List.getD, hi]
  refine ⟨some a, cap, (List.range len).map f, by simp, ⟨(fun e => by cases e), fun h0 => ?_, fun ad e j u hu => ?_⟩⟩
  · have h0' : 0 < len := by simpa using h0
    have c0 := cell 0 h0' 0 (by decide)
    rw [Nat.zero_mul, show (a.add 0).add 0 = a.add 0 from by simp [Addr.add]] at c0
    have hs := spot_of c0
    exact ⟨a.block, a.off, by rw [← addr_of hs]⟩
  · cases e
    have hj : j < ((List.range len).map f).length * 2 := by
      rcases Nat.lt_or_ge j (((List.range len).map f).length * 2) with q | q
      · exact q
      · rw [List.getElem?_eq_none (by rw [flatE_len]; omega)] at hu; cases hu
    have hl' : ((List.range len).map f).length = len := by simp
    obtain ⟨i, hij⟩ : ∃ i, i = j / 2 := ⟨_, rfl⟩
    have hi : i < len := by omega
    have h0' : 0 < len := by omega
    have c0 := cell 0 h0' 0 (by decide)
    rw [Nat.zero_mul, show (a.add 0).add 0 = a.add 0 from by simp [Addr.add]] at c0
    have hs := spot_of c0
    have e2 := flatE_at ((List.range len).map f) i (by rw [hl']; exact hi)
    rw [hen _ hi] at e2
    have cc := cell i hi
    rcases (by omega : j = i * 2 ∨ j = i * 2 + 1) with q | q
    · rw [q, e2.1] at hu
      cases hu
      have c := cc 0 (by decide)
      rw [spot_addr hs, spot_addr rfl] at c
      rw [spot_addr hs, q]
      simpa using c
    · rw [q, e2.2] at hu
      cases hu
      have c := cc 1 (by decide)
      rw [spot_addr hs, spot_addr rfl] at c
      rw [spot_addr hs, q]
      simpa [Nat.add_assoc] using c
theorem postings_of {fuel : Nat} {cs : List Value} {y : DataW H × List MemPlace} (h : DataW.trod enc Try.prog w base spare held fuel 23 cs = some y) : ∃ so cap P, cs = [.slice so (List.length P) cap] ∧ PRow w so P := by
  rcases DataW.trod_slice Try.underlying23 h with ⟨rfl, rfl⟩ | ⟨a, len, cap, elems, rest, n, _, rfl, rfl, hb, hl, hm, hlen, hel, hsp, hns⟩
  · exact ⟨none, 0, [], rfl, ⟨fun k hk => by simp at hk⟩⟩
  rw [show Try.prog.cellsOf 33 = 1 from by kernel_rfl] at hel
  have each : ∀ i, ∃ p : List Ent, i < len → ∃ so' cap', (∃ cs', w.cells? base (a.add (i * 1)) 1 = some cs' ∧ cs' = [.slice so' p.length cap']) ∧ Ents so' cap' p w := by
    intro i
    by_cases hi : i < len
    · have h2 := hel i hi
      have hie : i < elems.length := by omega
      rw [List.getElem?_eq_getElem hie, Option.bind_eq_some_iff] at h2
      obtain ⟨cs', hcs, hy'⟩ := h2
      obtain ⟨so', cap', p, hx, hE⟩ := ents_of hy'
      exact ⟨p, fun _ => ⟨so', cap', ⟨_, hcs, hx⟩, hE⟩⟩
    · exact ⟨[], fun h => absurd h hi⟩
  obtain ⟨f, hf⟩ := Classical.axiomOfChoice each
  have hen : ∀ i, i < len → ((List.range len).map f).getD i [] = f i := fun i hi => by simp [List.getD, hi]
  refine ⟨some a, cap, (List.range len).map f, by simp, ⟨fun k hk => ?_⟩⟩
  have hk' : k < len := by simpa using hk
  have cell : ∀ i, i < len → ∃ so' cap', w.cell? (a.add i) = some (.slice so' (f i).length cap') ∧ Ents so' cap' (f i) w := by
    intro i hi
    obtain ⟨so', cap', ⟨cs', hcs, e⟩, hE⟩ := hf i hi
    have := (World.cells?_some hcs).2.2 0 (by decide)
    refine ⟨so', cap', ?_, hE⟩
    rw [Nat.mul_one, show (a.add i).add 0 = a.add i from by simp [Addr.add]] at this
    rw [this]
    have e0 := congrArg (fun l : List Value => l[0]?) e
    simpa using e0
  obtain ⟨so0, cap0, c0, -⟩ := cell 0 (by omega)
  have hs := spot_of c0
  obtain ⟨so', cap', c, hE⟩ := cell k hk'
  rw [spot_addr hs] at c
  exact ⟨a.block, a.off, so', cap', by rw [← addr_of hs], by rw [hen k hk']; exact c, by rw [hen k hk']; exact hE⟩
end
end Go.Proofs.Ytkdocoibfclfeaa

namespace Go.Proofs.Ytkdocoibfclfeaa
open Go.ChangeShapes Go.WideShapes Go.ChangeAt Go.RowKit Go.Deep Go.Shelf Go.Maps Go.WideMaps Ytkdocoibfclfeaa.it
set_option linter.unusedSimpArgs false
set_option linter.unusedVariables false

attribute [local go_sem] Oper.semAt_some

structure StepD where
  kind : Int
  on : Int
  s : ByteArray
  x : Int
  p : List Ent
def StepD.zero : StepD := ⟨0, 0, ByteArray.empty, 0, []⟩
/-- a step that came in at this place -/
structure StepAt (w : World) (g off : Nat) (d : StepD) : Prop where
  k : w.cell? ⟨g, off, none⟩ = some (.int .i64 d.kind)
  o : w.cell? ⟨g, off + 1, none⟩ = some (.int .i64 d.on)
  n : w.cell? ⟨g, off + 2, none⟩ = some (.string d.s)
  x : w.cell? ⟨g, off + 3, none⟩ = some (.int .i64 d.x)
  l : ∃ lo lc, w.cell? ⟨g, off + 4, none⟩ = some (.slice lo d.p.length lc) ∧ Ents lo lc d.p w
  z : d.s.size ≤ maxLen
  big : (d.p.length + 1) * 24 ≤ 140737488355328
structure SRow (w : World) (so : Option Addr) (L : List StepD) : Prop where
  cells : ∀ k, k < L.length → ∃ g off, so = some ⟨g, off, none⟩ ∧ StepAt w g (off + k * 5) (L.getD k StepD.zero)
section
variable {H : Type} {enc : TypeId × Value → H} {w : World} {base : Nat} {spare : Nat → Bool} {held : Bool}
theorem weightsAll_mem {P : Program} {e : TypeId} : ∀ {l : List (DataW H)} {d : DataW H}, d ∈ l → ∀ n ∈ d.weights P e, n ∈ DataW.weightsAll P e l
  | d' :: r, d, hd, n, hn => by
    simp only [DataW.weightsAll, List.mem_append]
    rcases List.mem_cons.1 hd with rfl | h
    · exact Or.inl hn
    · exact Or.inr (weightsAll_mem h n hn)
theorem bytes63 : Try.prog.bytesOf 63 = 24 := by kernel_rfl
theorem ents_size {fuel : Nat} {cs : List Value} {y : DataW H × List MemPlace} (h : DataW.trod enc Try.prog w base spare held fuel 33 cs = some y) (hw : ∀ n ∈ y.1.weights Try.prog 33, n ≤ reachBytes) {so : Option Addr} {cap n : Nat} (hc : cs = [.slice so n cap]) : (n + 1) * 24 ≤ 140737488355328 := by
  rcases DataW.trod_slice Try.underlying33 h with ⟨rfl, rfl⟩ | ⟨a, len, cap2, elems, rest, m, _, rfl, rfl, hb, hl, hm, hlen, hel, hsp, hns⟩
  · injection hc with hc _
    injection hc with _ hn _
    omega
  · injection hc with hc _
    injection hc with _ hn _
    have := hw ((elems.length + rest.length) * 24) (by simp [DataW.weights, Try.underlying33, bytes63])
    simp only [reachBytes] at this
    omega
set_option maxRecDepth 100000 in
theorem step_of {fuel : Nat} {cs : List Value} {y : DataW H × List MemPlace} (h : DataW.trod enc Try.prog w base spare held fuel 53 cs = some y) (hw : ∀ n ∈ y.1.weights Try.prog 53, n ≤ reachBytes) :
    ∃ (d : StepD) (lo : Option Addr) (lc : Nat), cs = [.int .i64 d.kind, .int .i64 d.on, .string d.s, .int .i64 d.x, .slice lo d.p.length lc] ∧ Ents lo lc d.p w ∧ d.s.size ≤ maxLen ∧ (d.p.length + 1) * 24 ≤ 140737488355328 := by
  obtain ⟨ys, n, _, rfl, hlc, hlen, hg⟩ := DataW.trod_struct Try.underlying53 h
  rw [show Try.prog.cellsOf 53 = 5 from by kernel_rfl] at hlc
  match ys, hlen, cs, hlc with
  | [y0, y1, y2, y3, y4], _, [c0, c1, c2, c3, c4], _ =>
    have g0 : DataW.trod enc Try.prog w base spare held n 3 (([c0, c1, c2, c3, c4].drop 0).take (Try.prog.cellsOf 3)) = some y0 := hg 0 _ rfl
    have g1 : DataW.trod enc Try.prog w base spare held n 3 (([c0, c1, c2, c3, c4].drop 1).take (Try.prog.cellsOf 3)) = some y1 := hg 1 _ rfl
    have g2 : DataW.trod enc Try.prog w base spare held n 9 (([c0, c1, c2, c3, c4].drop 2).take (Try.prog.cellsOf 9)) = some y2 := hg 2 _ rfl
    have g3 : DataW.trod enc Try.prog w base spare held n 2 (([c0, c1, c2, c3, c4].drop 3).take (Try.prog.cellsOf 2)) = some y3 := hg 3 _ rfl
    have g4 : DataW.trod enc Try.prog w base spare held n 33 (([c0, c1, c2, c3, c4].drop 4).take (Try.prog.cellsOf 33)) = some y4 := hg 4 _ rfl
    rw [show Try.prog.cellsOf 3 = 1 from by kernel_rfl] at g0 g1
    rw [show Try.prog.cellsOf 9 = 1 from by kernel_rfl] at g2
    rw [show Try.prog.cellsOf 2 = 1 from by kernel_rfl] at g3
    rw [show Try.prog.cellsOf 33 = 1 from by kernel_rfl] at g4
    simp only [List.drop, List.take] at g0 g1 g2 g3 g4
    obtain ⟨z0, e0, -, _⟩ := DataW.trod_int Try.underlying3 g0
    obtain ⟨z1, e1, -, _⟩ := DataW.trod_int Try.underlying3 g1
    obtain ⟨s, e2, -, hsz⟩ := DataW.trod_string Try.underlying9 g2
    obtain ⟨z3, e3, -, _⟩ := DataW.trod_int Try.underlying2 g3
    obtain ⟨lo, lc, p, e4, hE⟩ := ents_of g4
    have hb := ents_size g4 (fun m hm => hw m (by
      simp only [DataW.weights, Try.underlying53, List.map_cons, List.map_nil]
      exact DataW.weights_mem_each (j := 4) (t := 33) (d := y4.1) rfl rfl m hm)) e4
    injection e0 with e0 _
    injection e1 with e1 _
    injection e2 with e2 _
    injection e3 with e3 _
    injection e4 with e4 _
    exact ⟨⟨z0, z1, s, z3, p⟩, lo, lc, by rw [e0, e1, e2, e3, e4], hE, hsz, hb⟩
theorem steps_of {fuel : Nat} {cs : List Value} {y : DataW H × List MemPlace} (h : DataW.trod enc Try.prog w base spare held fuel 40 cs = some y) (hw : ∀ n ∈ y.1.weights Try.prog 40, n ≤ reachBytes) : ∃ so cap L, cs = [.slice so (List.length L) cap] ∧ SRow w so L := by
  rcases DataW.trod_slice Try.underlying40 h with ⟨rfl, rfl⟩ | ⟨a, len, cap, elems, rest, n, _, rfl, rfl, hb, hl, hm, hlen, hel, hsp, hns⟩
  · exact ⟨none, 0, [], rfl, ⟨fun k hk => by simp at hk⟩⟩
  rw [show Try.prog.cellsOf 53 = 5 from by kernel_rfl] at hel
  have each : ∀ i, ∃ d : StepD, i < len → ∃ lo lc, (∃ cs', w.cells? base (a.add (i * 5)) 5 = some cs' ∧ cs' = [.int .i64 d.kind, .int .i64 d.on, .string d.s, .int .i64 d.x, .slice lo d.p.length lc]) ∧ Ents lo lc d.p w ∧ d.s.size ≤ maxLen ∧ (d.p.length + 1) * 24 ≤ 140737488355328 := by
    intro i
    by_cases hi : i < len
    · have h2 := hel i hi
      have hie : i < elems.length := by omega
      rw [List.getElem?_eq_getElem hie, Option.bind_eq_some_iff] at h2
      obtain ⟨cs', hcs, hy'⟩ := h2
      obtain ⟨d, lo, lc, hx, hE, h3, h4⟩ := step_of hy' (fun m hm => hw m (by
        simp only [DataW.weights, Try.underlying40, List.mem_cons, List.mem_append]
        exact Or.inr (Or.inl (weightsAll_mem (List.mem_map_of_mem (List.getElem_mem hie)) m hm))))
      exact ⟨d, fun _ => ⟨lo, lc, ⟨_, hcs, hx⟩, hE, h3, h4⟩⟩
    · exact ⟨StepD.zero, fun h => absurd h hi⟩
  obtain ⟨f, hf⟩ := Classical.axiomOfChoice each
  have hen : ∀ i, i < len → ((List.range len).map f).getD i StepD.zero = f i := fun i hi => by simp [List.getD, hi]
  refine ⟨some a, cap, (List.range len).map f, by simp, ⟨fun k hk => ?_⟩⟩
  have hk' : k < len := by simpa using hk
  have c0 : ∃ u, w.cell? ((a.add (0 * 5)).add 0) = some u := by
    obtain ⟨lo, lc, ⟨cs', hcs, e⟩, -⟩ := hf 0 (by omega)
    have := (World.cells?_some hcs).2.2 0 (by decide)
    rw [e] at this
    exact ⟨_, this⟩
  obtain ⟨u, c0⟩ := c0
  rw [Nat.zero_mul, show (a.add 0).add 0 = a.add 0 from by simp [Addr.add]] at c0
  have hs := spot_of c0
  obtain ⟨lo, lc, ⟨cs', hcs, e⟩, hE, h3, h4⟩ := hf k hk'
  have cc : ∀ c, c < 5 → w.cell? ⟨a.block, a.off + k * 5 + c, none⟩ = cs'[c]? := fun c hc => by
    have := (World.cells?_some hcs).2.2 c hc
    rw [spot_addr hs, spot_addr rfl] at this
    exact this
  rw [e] at cc
  refine ⟨a.block, a.off, by rw [← addr_of hs], ?_⟩
  rw [hen k hk']
  exact ⟨by simpa using cc 0 (by decide), by simpa using cc 1 (by decide), by simpa using cc 2 (by decide), by simpa using cc 3 (by decide), ⟨lo, lc, by simpa using cc 4 (by decide), hE⟩, h3, h4⟩
end
/-- the starting state -/
theorem Good.nil : Good 0 ⟨[], []⟩ := ⟨⟨Sound.nil, (fun p h => by cases h), by simp⟩, ⟨(fun a h => by cases h), by simp⟩, (fun p h => by cases h), by simp, by simp⟩
end Go.Proofs.Ytkdocoibfclfeaa

