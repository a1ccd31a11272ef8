/- Contracts of the layer's functions, each proved once, in the order in which they are used. No condition beyond each theorem's own. -/
import Derived.Test.YtkdocoibfclfeaaMe
import Derived.Test.YtkdocoibfclfeaaMc
import Derived.Sort.LoopGhostIn
import Derived.Laws.EntriesVeiled
import Derived.Maps.AppendAt
import Derived.Deep.AppendLies
import Derived.Laws.OwnMore
import Derived.Laws.StructEq
import Derived.RangeFuncWrites
import Derived.Lib.BufferOwn
namespace Go.Proofs.Ytkdocoibfclfeaa
open Go.ChangeShapes Go.WideShapes Go.ChangeAt Go.RowKit Go.Deep Go.Shelf Go.Maps Go.WideMaps Ytkdocoibfclfeaa.it
set_option linter.unusedSimpArgs false
set_option linter.unusedVariables false

attribute [local go_sem] Oper.semAt_some

abbrev encI (x : Int × Int) : Array Value := #[.int .i64 x.1, .int .i64 x.2]
theorem lineTo_prefix (P : List (List Ent)) (s : ByteArray) {k m : Nat} (h : k ≤ m) : ∃ r, lineTo P s m = lineTo P s k ++ r := by
  induction m with
  | zero => obtain rfl : k = 0 := by omega
            exact ⟨[], by simp⟩
  | succ m ih =>
    rcases Nat.lt_or_ge k (m + 1) with q | q
    · obtain ⟨r, hr⟩ := ih (by omega)
      exact ⟨_, by rw [lineTo, hr, List.append_assoc]⟩
    · obtain rfl : k = m + 1 := by omega
      exact ⟨[], by simp⟩
/-- Line's boxes: yield's, the sum's -/
structure LiI (By Bs l : Nat) (t : Int) (W : World) : Prop where
  y : W.cell? ⟨By, 0, none⟩ = some (.func (.yield l) #[] #[])
  s : W.cell? ⟨Bs, 0, none⟩ = some (.int .i64 t)
  sf : W.frozen? ⟨Bs, 0, none⟩ = false
set_option maxRecDepth 100000 in
set_option maxHeartbeats 4000000 in
theorem line_ok (l Bf Bn Bx : Nat) (K : Nat → Prop) (P : List (List Ent)) (s : ByteArray) (hP : P.length ≤ 300) (hps : ∀ p ∈ P, small p) (WS : World) (J Jx : List (Int × Int) → World → Prop)
    (hY : ∀ pre x W, J pre W → (∃ r, lineTo P s P.length = pre ++ x :: r) → YieldAt Fence.wide 2 Try.prog l (encI x) W fun e W' => (e = .returned (.bool true) ∧ J (pre ++ [x]) W' ∧ Fix (fun i => K i ∨ WS.heap.size ≤ i) W W') ∨ (e = .returned (.bool false) ∧ Jx (pre ++ [x]) W' ∧ KeepsFrom WS.heap.size W W'))
    (hJ : Stays WS.heap.size J) (hJx : Stays WS.heap.size Jx) (hK : ∀ i, K i → i < WS.heap.size) (hKf : K Bf) (hKn : K Bn)
    (hf : WS.cell? ⟨Bf, 0, none⟩ = some (.func (.func 59) #[] #[.pointer (some ⟨Bx, 0, none⟩)])) (hn : WS.cell? ⟨Bn, 0, none⟩ = some (.string s))
    (hseq : ∀ V, Below WS.heap.size WS V → SeqW 2 Try.prog 59 #[.pointer (some ⟨Bx, 0, none⟩)] encP K (fun xs => xs.length = P.length) (fun pre => pre.length ≤ P.length) (fun pre x W => NxA P V.heap.size pre x W) V) (h0 : J [] WS) :
    CallsIn Fence.wide 3 Try.prog 60 #[.func (.yield l) #[] #[], .pointer (some ⟨Bf, 0, none⟩), .pointer (some ⟨Bn, 0, none⟩)] WS fun e W' => (∃ v, e = .returned v) ∧
      ((∃ xs, xs = lineTo P s P.length ∧ J xs W') ∨ (∃ pre, (∃ r, lineTo P s P.length = pre ++ r) ∧ Jx pre W')) := by
  have hKfz := hK Bf hKf
  have hKnz := hK Bn hKn
  obtain ⟨W0, hW0⟩ : ∃ W0, W0 = (WS.alloc (.cells #[.func (.yield l) #[] #[]] 127)).alloc (.cells #[.int .i64 0] 2) := ⟨_, rfl⟩
  have hb0 : Below WS.heap.size WS W0 := by rw [hW0]; (focus repeat' (first | (with_reducible exact Below.refl _ _) | (with_reducible assumption) | (with_reducible refine Below.alloc ?_ ?_ _) | (with_reducible refine Below.drew ?_) | (with_reducible refine bdrewN ?_ _) | (with_reducible refine Below.setCell ?_ ?_ _) | (first | (with_reducible exact Nat.le_refl _) | (with_reducible assumption) | omega | (simp; omega) | (simp; done))))
  have HI0 := hide (show LiI WS.heap.size (WS.heap.size + 1) l 0 W0 from ⟨by rw [hW0]; simp [go_sem], by rw [hW0]; simp [go_sem], by rw [hW0]; simp [go_sem]⟩)
  have f0 := cell_stay hf (hb0.block _ hKfz)
  have HN := hide hn
  have HB0 := hide hb0
  have HJ0 := hide (hJ _ _ _ h0 hb0)
  have zW0 : W0.heap.size = WS.heap.size + 2 := by rw [hW0]; simp
  have HZ0 := hide zW0
  have F0 := hide f0
  rw [hW0] at f0
  have HW0 := hide hW0
  clear hn hb0 hW0 h0 hf zW0
  refine callsIn_of_wp_marks Try.func60 rfl trivial ?_ rfl
  simp only [Try.ntmps60, List.size_toArray, List.length_cons, List.length_nil, Nat.reduceAdd, Nat.reduceSub, Array.replicate_succ, Array.replicate_zero, List.push_toArray, List.append_toArray, List.nil_append, List.cons_append]
  gi_wp2_with fail
  rw [← HW0.out]
  have HSQ := hide (hseq W0 HB0.out)
  have HY := hide hY
  have HJ := hide hJ
  have HJX := hide hJx
  have HPS := hide hps
  have HP := hide hP
  have cn0 := cell_stay HN.out (HB0.out.block _ hKnz)
  have CN0 := hide cn0
  clear hseq hY hJ hJx hps hP f0 cn0
  refine range_L (n := 3) (by decide) (gf := 59) (lb := #[.pointer (some ⟨Bx, 0, none⟩)]) rfl (enters_of Try.func59 (by kernel_rfl) rfl)
    HSQ.out (fun i hi => by have := hK i hi; rw [HZ0.out]; omega) (Below.refl _ _) (fun _ => rfl)
    (fun pre W => (W0.heap.size ≤ W.heap.size ∧ (pre.length ≤ P.length ∧ LiI WS.heap.size (WS.heap.size + 1) l (ofSum (P.take pre.length) s) W ∧ W.cell? ⟨Bn, 0, none⟩ = some (.string s))) ∧ J (lineTo P s pre.length) W)
    (fun c _ W => c = Code.ret ∧ ∃ pre, (∃ r, lineTo P s P.length = pre ++ r) ∧ Jx pre W)
    ((stays_old (fun t W W' hb hI => ⟨hI.1, ⟨cell_stay hI.2.1.y (hb _ (by rw [HZ0.out]; omega)), cell_stay hI.2.1.s (hb _ (by rw [HZ0.out]; omega)), fro_stay hI.2.1.sf (hb _ (by rw [HZ0.out]; omega))⟩, cell_stay hI.2.2 (hb _ (by rw [HZ0.out]; omega))⟩)).both (fun t W W' hs hb => HJ.out _ _ _ hs (hb.mono (by rw [HZ0.out]; omega))))
    (fun c t W W' hs hb => ⟨hs.1, by obtain ⟨pre, hr, hx⟩ := hs.2; exact ⟨pre, hr, HJX.out _ _ _ hx (hb.mono (by rw [HZ0.out]; omega))⟩⟩)
    ⟨⟨Nat.le_refl _, Nat.zero_le _, HI0.out, CN0.out⟩, HJ0.out⟩
    (fun pre x a' W => NxA P W0.heap.size pre x W ∧ a' = { tmps := #[.func (.yield l) #[] #[], .pointer (some ⟨Bf, 0, none⟩), .pointer (some ⟨Bn, 0, none⟩), .pointer (some ⟨WS.heap.size, 0, none⟩), .pointer (some ⟨WS.heap.size + 1, 0, none⟩), .int .i64 (x.1 : Int), x.2, undef, undef, undef, .func (.func 59) #[] #[.pointer (some ⟨Bx, 0, none⟩)], .int .i64 (x.1 : Int), x.2, undef, undef, undef, undef, undef, undef, undef, undef, undef, undef, undef, undef, undef, undef, undef, undef, undef, undef, undef, undef, undef, undef, undef], defers := [] })
    (fun pre x a' W o lp hl hx => ?_) ?assign ?body ?done ?stop
  · obtain ⟨⟨h1, p, h2, h3⟩, h4⟩ := hx
    exact ⟨⟨h1, p, h2, own_stays h3 (fun k hk => World.putObj_heap_other (row_noloop h3 hl k hk))⟩, h4⟩
  case assign =>
    rintro l' pre x W K' hI hN hlt2 hK'
    gi_wp2
    exact hK' _ _ ⟨Nat.le_refl _, fun _ _ h _ => h⟩ (Fix.of_below (Below.refl _ _)) hI ⟨hN, rfl⟩
  case body =>
    rintro l' pre ⟨kk, v⟩ a' W ⟨⟨hz, hpl, hLI, hcn⟩, hJW⟩ hlt2 ⟨⟨hx1, p, hp, hrow⟩, rfl⟩
    obtain rfl : kk = pre.length := hx1
    obtain ⟨ao, ac, rfl⟩ := own_any hrow
    have HE := hide (show Ents ao ac p W from by
      obtain ⟨so', cap', e, hE⟩ := Ents.of_own hrow
      injection e with e1 e2 e3
      rw [e1, e3]; exact hE)
    have HRW := hide hrow
    obtain ⟨k, hkk⟩ : ∃ k, k = pre.length := ⟨_, rfl⟩
    have HKK := hide (show ∀ v : Nat × Value, (pre ++ [v]).length = k + 1 from fun v => by rw [hkk]; simp)
    rw [← hkk] at hpl hLI hJW hp ⊢
    have hkl : k < P.length := (List.getElem?_eq_some_iff.1 hp).1
    have hsm := HPS.out p (List.mem_of_getElem? hp)
    have HSM := hide hsm
    have HT := hide (ofSum_snoc (P.take k) p s)
    rw [← takeP_snoc P k hkl hp] at HT
    have HLT := hide (show lineTo P s (k + 1) = lineTo P s k ++ (if thereB p s then [((k : Int), ofSum (P.take (k + 1)) s)] else []) by
      show lineTo P s k ++ (if thereB (P.getD k []) s then _ else _) = _
      rw [show P.getD k [] = p by rw [List.getD_eq_getElem?_getD, hp]; rfl])
    have b1 := ofSum_bd (P := P.take k) (fun q hq => HPS.out q (List.mem_of_mem_take hq)) s
    have b3 : (P.take k).length ≤ 300 := by have := HP.out; rw [List.length_take]; omega
    obtain ⟨T, hT⟩ : ∃ T, T = ofSum (P.take k) s := ⟨_, rfl⟩
    rw [← hT] at hLI HT b1
    have HTB := hide (show T ≤ 300 * (128 * maxC) ∧ -(300 * (128 * maxC)) ≤ T by unfold maxC at *; omega)
    have HLI := hide hLI
    have HCN := hide hcn
    have HJW := hide hJW
    have hZ := HZ0.out
    clear hrow hkk hpl hLI hcn hJW hp hsm b1 b3 hT
    gi_wp2_with fail
    gi_loopw [7, 15] (fun v7 v15 wr => ∃ i : Nat, i ≤ p.length ∧ v7 = .bool (thereB (p.take i) s) ∧ v15 = .int .i64 (i : Int) ∧ LiI WS.heap.size (WS.heap.size + 1) l (T + sumOf (p.take i) s) wr ∧ W.grownBy wr (some (WS.heap.size + 1))) (fun _ v15 _ => p.length - (intOf v15).toNat)
    case atStart => exact ⟨0, Nat.zero_le _, by rw [List.take_zero, thereB_nil], rfl, by simpa [sumOf] using HLI.out, ⟨rfl, rfl, rfl, Nat.le_refl _, fun _ _ _ => rfl⟩⟩
    case round =>
      obtain ⟨i, hi, rfl, rfl, hli, hgr⟩ := hrel
      have HGR := hide hgr
      have HL2 := hide hli
      have zr := hgr.size
      have hk0 : (0 : Int) ≤ (i : Int) := by omega
      have hk9 : (i : Int) < 100000 := by have := HSM.out.1; omega
      by_cases hlt : i < p.length
      · have hlt2 : (i : Int) < (p.length : Int) := by omega
        obtain ⟨g, off, rfl, hc⟩ := HE.out.spot (by omega)
        obtain ⟨c1, c2⟩ := hc i hlt
        have hgg : W0.heap.size ≤ g ∧ g < W.heap.size := by
          rcases HRW.out.2 with ⟨e, _⟩ | ⟨g', cap', cur, e, hb, hg, _⟩
          · cases e
          · injection e with e1 e2 e3
            cases e1
            exact ⟨hb, (Array.getElem?_eq_some_iff.1 hg).1⟩
        have c1 := cell_stay c1 (hgr.block g hgg.2 (fun e => by have := Option.some.inj e; omega))
        have c2 := cell_stay c2 (hgr.block g hgg.2 (fun e => by have := Option.some.inj e; omega))
        have cn := cell_stay HCN.out (hgr.block Bn (by omega) (fun e => by have := Option.some.inj e; omega))
        have cs := hli.s
        have fs := hli.sf
        have zs := World.block_lt_of_cell? wr _ cs
        have zg : g < wr.heap.size := by omega
        have zn : Bn < wr.heap.size := by omega
        have b1 := sum_take_bd HSM.out s i
        have b2 := sum_take_bd HSM.out s (i + 1)
        have HT1 := hide (sumOf_snoc (p.take i) (ent p i) s)
        have HT2 := hide (thereB_snoc (p.take i) (ent p i) s)
        rw [← take_snoc p i hlt] at HT1 HT2
        rw [HT1.out] at b2
        obtain ⟨a, ha⟩ : ∃ a, a = (ent p i).1 := ⟨_, rfl⟩
        obtain ⟨c, hcc⟩ : ∃ c, c = (ent p i).2 := ⟨_, rfl⟩
        obtain ⟨u, hu⟩ : ∃ u, u = sumOf (p.take i) s := ⟨_, rfl⟩
        obtain ⟨y, hy⟩ : ∃ y, y = thereB (p.take i) s := ⟨_, rfl⟩
        rw [← ha, ← hcc, ← hu] at HT1 b2
        rw [← ha, ← hy] at HT2
        rw [← ha] at c1
        rw [← hcc] at c2
        rw [← hu] at b1 cs HL2
        rw [← hy]
        clear hc ha hcc hu hy hli hgr
        by_cases e : a = s
        · subst e
          have s1 := ba_refl a
          rw [if_pos rfl] at b2
          have a0 : IntKind.i64.wrap (T + u + c) = T + u + c := IntWalk.i64_in _ (by have := HTB.out; unfold maxC at *; constructor <;> omega)
          have a1 : wrap64 (T + u + c) = T + u + c := by rw [← IntWalk.i64_left]; exact a0
          clear b1 b2
          gi_wp2_with fail
          go_roundw
          case rel =>
            refine ⟨i + 1, by omega, by rw [HT2.out, if_pos rfl], by go_num, ⟨?_, ?_, ?_⟩, ⟨HGR.out.os, HGR.out.tape, HGR.out.output, by simp; omega, fun q hq hne => ?_⟩⟩
            · exact cell_stay HL2.out.y ((Below.heap_alloc _ _ _ (by simp; omega)).trans (heap_setCell_other _ _ _ _ (by show WS.heap.size ≠ WS.heap.size + 1; omega)))
            · rw [HT1.out, if_pos rfl, ← Int.add_assoc]
              exact cell_stay (World.cell?_setCell_same' wr ⟨WS.heap.size + 1, 0, none⟩ _ (by rw [cs]; rfl)) (Below.heap_alloc _ _ _ (by simpa using zs))
            · exact fro_stay ((World.frozen?_setCell _ _ _ _).trans fs) (Below.heap_alloc _ _ _ (by simpa using zs))
            · exact (Below.heap_alloc _ _ _ (by simp; omega)).trans ((heap_setCell_other _ _ _ _ (fun e => hne (by rw [e]))).trans (HGR.out.block q hq hne))
          case measure => (first | (simp [intOf]; done) | (simp [intOf]; omega))
        · have s1 := ba_ne e
          have E := hide e
          clear e b1 b2
          gi_wp2_with fail
          go_roundw
          case rel =>
            refine ⟨i + 1, by omega, by rw [HT2.out, if_neg E.out], by go_num, ⟨?_, ?_, ?_⟩, ⟨HGR.out.os, HGR.out.tape, HGR.out.output, by simp; omega, fun q hq hne => ?_⟩⟩
            · exact cell_stay HL2.out.y (Below.heap_alloc _ _ _ (by omega))
            · rw [HT1.out, if_neg E.out, Int.add_zero]
              exact cell_stay cs (Below.heap_alloc _ _ _ zs)
            · exact fro_stay fs (Below.heap_alloc _ _ _ zs)
            · exact (Below.heap_alloc _ _ _ (by omega)).trans (HGR.out.block q hq hne)
          case measure => (first | (simp [intOf]; done) | (simp [intOf]; omega))
      · have hlt2 : ¬ (i : Int) < (p.length : Int) := by omega
        obtain rfl : i = p.length := by omega
        rw [List.take_length] at HL2 ⊢
        clear hlt hk0 hk9 zr hli hgr hi
        have cy := HL2.out.y
        have cs := HL2.out.s
        have hbj : Below WS.heap.size W wr := (Below.refl _ _).grown HGR.out (by omega) (fun q hq => by cases hq; omega)
        have HJr := hide (HJ.out _ _ _ HJW.out hbj)
        have HKF := hide (show KeepsFrom W0.heap.size W wr from KeepsFrom.of_grownBy HGR.out (fun q hq => by cases hq; omega))
        have HFX := hide (show Fix K W wr from ⟨HGR.out.size, fun q hq hl => HGR.out.block q hl (fun e => by have := Option.some.inj e; have := hK q hq; omega)⟩)
        have HCN2 := hide (cell_stay HCN.out (HGR.out.block Bn (by omega) (fun e => by have := Option.some.inj e; omega)))
        obtain ⟨t, ht⟩ : ∃ t, t = T + sumOf p s := ⟨_, rfl⟩
        rw [← ht] at cs HL2 HT
        obtain ⟨y, hy⟩ : ∃ y, y = thereB p s := ⟨_, rfl⟩
        rw [← hy, HT.out] at HLT
        rw [← hy]
        have hszr := HGR.out.size
        clear ht hy hbj hZ
        by_cases hyy : y = true
        · subst hyy
          obtain ⟨r, hr⟩ := lineTo_prefix P s (show k + 1 ≤ P.length by omega)
          rw [HLT.out, if_pos rfl, List.append_assoc] at hr
          obtain ⟨fn, tmps, assign, body, hyd, hR⟩ := HY.out (lineTo P s k) ((k : Int), t) wr HJr.out ⟨r, hr⟩
          (try dsimp only at hyd)
          gi_wp2_with fail
          refine RoundIn.mono (show RoundIn (Fence.wide.inRound l') _ Try.prog l fn tmps assign body wr _ from ⟨hR.1, fun c cs _ => hR.2 c cs (fun d h => by cases h)⟩) ?_
          have HR := hide (show ∃ r, lineTo P s P.length = (lineTo P s k ++ [((k : Int), t)]) ++ r from ⟨r, by rw [List.append_assoc]; exact hr⟩)
          clear hR hyd hr
          rintro e W3 (⟨rfl, hJ3, hk3⟩ | ⟨rfl, hJx3, hk3⟩)
          · have HJ3 := hide hJ3
            have HK3 := hide hk3
            clear hJ3 hk3
            gi_wp2
            have z3 := HK3.out.1
            have y1 := World.block_lt_of_cell? wr _ HL2.out.y
            have y2 := World.block_lt_of_cell? wr _ HL2.out.s
            have y3 := World.block_lt_of_cell? wr _ HCN2.out
            refine ⟨HKF.out.trans ⟨z3, fun q o hq ho _ => (HK3.out.2 q (.inr (by have := HZ0.out; omega)) (Array.getElem?_eq_some_iff.1 ho).1).trans ho⟩, HFX.out.trans (HK3.out.of (fun i _ q => .inl q)), ⟨by omega, by rw [HKK.out]; omega, ?_, ?_⟩, ?_⟩
            · rw [HKK.out, HT.out]
              exact ⟨cell_stay HL2.out.y (HK3.out.2 _ (.inr (Nat.le_refl _)) y1), cell_stay HL2.out.s (HK3.out.2 _ (.inr (by omega)) y2), fro_stay HL2.out.sf (HK3.out.2 _ (.inr (by omega)) y2)⟩
            · exact cell_stay HCN2.out (HK3.out.2 _ (.inl hKn) y3)
            · rw [HKK.out, HLT.out, if_pos trivial]
              exact HJ3.out
          · have HJ3 := hide hJx3
            have HK3 := hide hk3
            clear hJx3 hk3
            gi_wp2
            exact ⟨HKF.out.trans ⟨HK3.out.size, fun q o hq ho hc => HK3.out.same q o (by have := HZ0.out; omega) ho hc⟩, rfl, _, HR.out, HJ3.out⟩
        · obtain rfl : y = false := by simpa using hyy
          clear hyy
          gi_wp2_with fail
          refine ⟨HKF.out, HFX.out, ⟨by omega, by rw [HKK.out]; omega, by rw [HKK.out, HT.out]; exact HL2.out, HCN2.out⟩, ?_⟩
          rw [HKK.out, HLT.out, if_neg (by simp), List.append_nil]
          exact HJr.out
  case done =>
    rintro D ys W hD hys ⟨⟨hz, hpl, hLI, hcn⟩, hJW⟩ hKd
    have HKD := hide hKd
    rw [hys] at hJW
    have HJW := hide hJW
    have dz : WS.heap.size ≤ D := by have := HZ0.out; omega
    clear hKd hJW hLI hcn hys
    gi_wp2
    refine ⟨by simp, .inl ⟨_, _, rfl, run_takeDeferred HKD.out, ?_⟩⟩
    exact ⟨_, by simp [results, Try.f60, go_sem]; rfl, ⟨_, rfl⟩, .inl ⟨_, rfl, HJ.out _ _ _ HJW.out (below_put _ _ _ _ dz)⟩⟩
  case stop =>
    rintro D c pre W hD hpl ⟨rfl, pre', hr, hx⟩ hKd
    have HKD := hide hKd
    have HX := hide hx
    have HR := hide hr
    have dz : WS.heap.size ≤ D := by have := HZ0.out; omega
    clear hKd hx hr
    gi_wp2
    refine ⟨by simp, .inl ⟨_, _, rfl, run_takeDeferred HKD.out, ?_⟩⟩
    exact ⟨_, by simp [results, Try.f60, go_sem]; rfl, ⟨_, rfl⟩, .inr ⟨_, HR.out, HJX.out _ _ _ HX.out (below_put _ _ _ _ dz)⟩⟩
end Go.Proofs.Ytkdocoibfclfeaa

namespace Go.Proofs.Ytkdocoibfclfeaa
open Go.ChangeShapes Go.WideShapes Go.ChangeAt Go.RowKit Go.Deep Go.Shelf Go.Maps Go.WideMaps Ytkdocoibfclfeaa.it
set_option linter.unusedSimpArgs false
set_option linter.unusedVariables false

attribute [local go_sem] Oper.semAt_some

theorem line_seqN {I : Nat → Prop} {B : Nat} {P : List (List Ent)} {s : ByteArray} {Bf Bn : Nat} {w : World} (h : LineIt I B P s Bf Bn w) (hP : P.length ≤ 300) (hps : ∀ p ∈ P, small p) (hI : ∀ k, I k → k < w.heap.size) : ∃ K : Nat → Prop, (∀ k, K k → k < w.heap.size) ∧ (∀ k, K k → I k ∨ B ≤ k) ∧
    SeqN 3 Try.prog 60 #[.pointer (some ⟨Bf, 0, none⟩), .pointer (some ⟨Bn, 0, none⟩)] encI K (fun xs => xs = lineTo P s P.length) (fun pre => ∃ r, lineTo P s P.length = pre ++ r) (fun pre x => ∃ r, lineTo P s P.length = pre ++ x :: r) w := by
  obtain ⟨Bx, hf, hit⟩ := h.ex
  obtain ⟨K0, k1, k2, k3⟩ := all_seqW 2 (by decide) hit hP (fun p hp => (hps p hp).1) hI
  have zf : Bf < w.heap.size := World.block_lt_of_cell? w _ hf
  have zn : Bn < w.heap.size := World.block_lt_of_cell? w _ h.n
  refine ⟨fun k => k = Bf ∨ k = Bn ∨ K0 k, fun k hk => ?_, fun k hk => ?_, fun l J Jx W hbW hJ hJx hY h0 => ?_⟩
  · rcases hk with rfl | rfl | q
    · exact zf
    · exact zn
    · exact k1 k q
  · rcases hk with rfl | rfl | q
    · exact .inr h.lf
    · exact .inr h.ln
    · exact k2 k q
  · have hz := hbW.size
    refine line_ok l Bf Bn Bx (fun k => k = Bf ∨ k = Bn ∨ K0 k) P s hP hps W J Jx hY hJ hJx (fun i hi => ?_) (.inl rfl) (.inr (.inl rfl)) (cell_stay hf (hbW.block _ zf)) (cell_stay h.n (hbW.block _ zn)) (fun V hV => ?_) h0
    · rcases hi with rfl | rfl | q
      · omega
      · omega
      · have := k1 i q; omega
    · intro l2 J2 Jx2 W2 hb2 hJ2 hJx2 hY2 h02
      exact k3 V (hbW.trans (hV.mono hbW.size)) l2 J2 Jx2 W2 hb2 hJ2 hJx2 (fun pre x V' hj hn => by
        obtain ⟨fn, tmps, assign, body, hy, hR⟩ := hY2 pre x V' hj hn
        exact ⟨fn, tmps, assign, body, hy, hR.mono (fun e w' q => q.imp (fun q => ⟨q.1, q.2.1, q.2.2.of (fun i _ hi => .inr (.inr hi))⟩) id)⟩) h02
end Go.Proofs.Ytkdocoibfclfeaa

namespace Go.Proofs.Ytkdocoibfclfeaa
open Go.ChangeShapes Go.WideShapes Go.ChangeAt Go.RowKit Go.Deep Go.Maps Go.ChangeMaps Go.WideMaps
set_option linter.unusedSimpArgs false
set_option linter.unusedVariables false

def sameB (S S2 : LS) : Bool := decide (nms S.acc = nms S2.acc ∧ leasts S.acc = leasts S2.acc ∧ S.posts = S2.posts)
theorem sameB_acc {S S2 : LS} (h : S.acc.length ≠ S2.acc.length) : sameB S S2 = false := by
  unfold sameB
  rw [decide_eq_false_iff_not]
  intro q
  have := congrArg List.length q.1
  simp [nms] at this
  exact h this
theorem sameB_posts {S S2 : LS} (h : S.posts.length ≠ S2.posts.length) : sameB S S2 = false := by
  unfold sameB
  rw [decide_eq_false_iff_not]
  intro q
  exact h (congrArg List.length q.2.2)
theorem sameB_name {S S2 : LS} {k : Nat} {a b : Acc} (ha : S.acc[k]? = some a) (hb : S2.acc[k]? = some b) (h : a.name ≠ b.name) : sameB S S2 = false := by
  unfold sameB
  rw [decide_eq_false_iff_not]
  intro q
  have := congrArg (fun l : List ByteArray => l[k]?) q.1
  simp [nms, ha, hb] at this
  exact h this
theorem sameB_least {S S2 : LS} {k : Nat} {a b : Acc} (ha : S.acc[k]? = some a) (hb : S2.acc[k]? = some b) (h : a.least ≠ b.least) : sameB S S2 = false := by
  unfold sameB
  rw [decide_eq_false_iff_not]
  intro q
  have := congrArg (fun l : List Int => l[k]?) q.2.1
  simp [leasts, ha, hb] at this
  exact h this
theorem sameB_post {S S2 : LS} {k : Nat} {p q : List Ent} (ha : S.posts[k]? = some p) (hb : S2.posts[k]? = some q) (h : p ≠ q) : sameB S S2 = false := by
  unfold sameB
  rw [decide_eq_false_iff_not]
  intro e
  rw [e.2.2, hb] at ha
  exact h (Option.some.inj ha).symm
theorem sameB_yes {S S2 : LS} (h1 : S.acc.length = S2.acc.length) (h2 : ∀ (i : Nat) (a b : Acc), S.acc[i]? = some a → S2.acc[i]? = some b → a.name = b.name ∧ a.least = b.least) (h3 : S.posts = S2.posts) : sameB S S2 = true := by
  unfold sameB
  rw [decide_eq_true_iff]
  refine ⟨List.ext_getElem (by simp [nms, h1]) (fun i q1 q2 => ?_), List.ext_getElem (by simp [leasts, h1]) (fun i q1 q2 => ?_), h3⟩
  · have e1 : i < S.acc.length := by simpa [nms] using q1
    have := h2 i _ _ (List.getElem?_eq_getElem e1) (List.getElem?_eq_getElem (h1 ▸ e1))
    simp [nms, this.1]
  · have e1 : i < S.acc.length := by simpa [leasts] using q1
    have := h2 i _ _ (List.getElem?_eq_getElem e1) (List.getElem?_eq_getElem (h1 ▸ e1))
    simp [leasts, this.2]
set_option maxRecDepth 100000 in
set_option maxHeartbeats 2000000 in
theorem Same_rlen (I : Nat → Prop) (R R2 : RP) (S S2 : LS) (w : World) (h : RObj I R S w) (h2 : RObj I R2 S2 w) (hd : S.acc.length ≠ S2.acc.length) : Calls Try.prog 44 #[.pointer (some ⟨R.r, 0, none⟩), .pointer (some ⟨R2.r, 0, none⟩)] w fun e w' => e = .returned (.bool (sameB S S2)) ∧ Below w.heap.size w w' := by
  obtain ⟨nA, mA, hnA⟩ := own_any h.nr
  obtain ⟨vsA, hrA, hpA⟩ := h.pr
  obtain ⟨qA, rA, hqA⟩ := own_any hrA
  have cA0 : w.cell? ⟨R.r, 0, none⟩ = some (.slice nA S.acc.length mA) := by rw [← hnA]; exact h.c0
  have cA2 : w.cell? ⟨R.r, 2, none⟩ = some (.slice qA S.posts.length rA) := by rw [← hqA]; exact h.c2
  obtain ⟨nB, mB, hnB⟩ := own_any h2.nr
  obtain ⟨vsB, hrB, hpB⟩ := h2.pr
  obtain ⟨qB, rB, hqB⟩ := own_any hrB
  have cB0 : w.cell? ⟨R2.r, 0, none⟩ = some (.slice nB S2.acc.length mB) := by rw [← hnB]; exact h2.c0
  have cB2 : w.cell? ⟨R2.r, 2, none⟩ = some (.slice qB S2.posts.length rB) := by rw [← hqB]; exact h2.c2
  have HX := hide (sameB_acc hd)
  have q1 : ((S.acc.length : Int) != (S2.acc.length : Int)) = true := by (rw [bne_iff_ne]; omega)
  have q2 : ((S.acc.length : Int) == (S2.acc.length : Int)) = false := by (rw [beq_eq_false_iff_ne]; omega)
  have q3 : decide ((S.acc.length : Int) = (S2.acc.length : Int)) = false := by (rw [decide_eq_false_iff_not]; omega)
  clear h h2 hd hnA hnB hrA hrB hpA hpB hqA hqB
  go_enter Try.func44, Try.ntmps44
  go_wp2_with fail
  go_quiet (fail)
  go_wp2_with fail
  refine bodyPost_ret (v := .bool false) (by simp [results, Try.f44, go_sem]) rfl ⟨by rw [HX.out], bdrewN (Below.refl _ _) _⟩
set_option maxRecDepth 100000 in
set_option maxHeartbeats 2000000 in
theorem Same_rposts (I : Nat → Prop) (R R2 : RP) (S S2 : LS) (w : World) (h : RObj I R S w) (h2 : RObj I R2 S2 w) (he : S.acc.length = S2.acc.length) (hd : S.posts.length ≠ S2.posts.length) : Calls Try.prog 44 #[.pointer (some ⟨R.r, 0, none⟩), .pointer (some ⟨R2.r, 0, none⟩)] w fun e w' => e = .returned (.bool (sameB S S2)) ∧ Below w.heap.size w w' := by
  obtain ⟨nA, mA, hnA⟩ := own_any h.nr
  obtain ⟨vsA, hrA, hpA⟩ := h.pr
  obtain ⟨qA, rA, hqA⟩ := own_any hrA
  have cA0 : w.cell? ⟨R.r, 0, none⟩ = some (.slice nA S.acc.length mA) := by rw [← hnA]; exact h.c0
  have cA2 : w.cell? ⟨R.r, 2, none⟩ = some (.slice qA S.posts.length rA) := by rw [← hqA]; exact h.c2
  obtain ⟨nB, mB, hnB⟩ := own_any h2.nr
  obtain ⟨vsB, hrB, hpB⟩ := h2.pr
  obtain ⟨qB, rB, hqB⟩ := own_any hrB
  have cB0 : w.cell? ⟨R2.r, 0, none⟩ = some (.slice nB S2.acc.length mB) := by rw [← hnB]; exact h2.c0
  have cB2 : w.cell? ⟨R2.r, 2, none⟩ = some (.slice qB S2.posts.length rB) := by rw [← hqB]; exact h2.c2
  have HX := hide (sameB_posts hd)
  rw [← he] at cB0
  have q0 : ((S.acc.length : Int) != (S.acc.length : Int)) = false := by simp
  have q1 : ((S.posts.length : Int) != (S2.posts.length : Int)) = true := by (rw [bne_iff_ne]; omega)
  have q2 : ((S.posts.length : Int) == (S2.posts.length : Int)) = false := by (rw [beq_eq_false_iff_ne]; omega)
  have q3 : decide ((S.posts.length : Int) = (S2.posts.length : Int)) = false := by (rw [decide_eq_false_iff_not]; omega)
  clear h h2 hd hnA hnB hrA hrB hpA hpB hqA hqB he
  go_enter Try.func44, Try.ntmps44
  go_wp2_with fail
  go_quiet (fail)
  go_wp2_with fail
  refine bodyPost_ret (v := .bool false) (by simp [results, Try.f44, go_sem]) rfl ⟨by rw [HX.out], bdrewN (Below.refl _ _) _⟩
set_option maxRecDepth 100000 in
set_option maxHeartbeats 4000000 in
theorem Same_rloop (I : Nat → Prop) (R R2 : RP) (S S2 : LS) (w : World) (h : RObj I R S w) (h2 : RObj I R2 S2 w) (he : S.acc.length = S2.acc.length) (hd : S.posts.length = S2.posts.length) (hf : ∀ p ∈ S.posts, small p) (hl : S.posts.length ≤ 300) (hl2 : S.acc.length ≤ 70000) : Calls Try.prog 44 #[.pointer (some ⟨R.r, 0, none⟩), .pointer (some ⟨R2.r, 0, none⟩)] w fun e w' => e = .returned (.bool (sameB S S2)) ∧ Below w.heap.size w w' := by
  obtain ⟨nA, mA, hnA⟩ := own_any h.nr
  obtain ⟨vsA, hrA, hpA⟩ := h.pr
  obtain ⟨qA, rA, hqA⟩ := own_any hrA
  have cA0 : w.cell? ⟨R.r, 0, none⟩ = some (.slice nA S.acc.length mA) := by rw [← hnA]; exact h.c0
  have cA2 : w.cell? ⟨R.r, 2, none⟩ = some (.slice qA S.posts.length rA) := by rw [← hqA]; exact h.c2
  obtain ⟨nB, mB, hnB⟩ := own_any h2.nr
  obtain ⟨vsB, hrB, hpB⟩ := h2.pr
  obtain ⟨qB, rB, hqB⟩ := own_any hrB
  have cB0 : w.cell? ⟨R2.r, 0, none⟩ = some (.slice nB S2.acc.length mB) := by rw [← hnB]; exact h2.c0
  have cB2 : w.cell? ⟨R2.r, 2, none⟩ = some (.slice qB S2.posts.length rB) := by rw [← hqB]; exact h2.c2
  have H := hide h
  have H2 := hide h2
  have HE := hide he
  have HD := hide hd
  have HF := hide hf
  have HL := hide (And.intro hl hl2)
  rw [← he] at cB0
  rw [← hd] at cB2
  have q0 : ((S.acc.length : Int) != (S.acc.length : Int)) = false := by simp
  have q1 : ((S.posts.length : Int) != (S.posts.length : Int)) = false := by simp
  clear h h2 hd hnA hnB hrA hrB hpA hpB hqA hqB he hf hl hl2
  go_enter Try.func44, Try.ntmps44
  go_wp2_with fail
  go_quiet (fail)
  go_wp2_with fail
  clear cA0 cA2 cB0 cB2
  go_loopw [5] (fun v5 wr => ∃ k : Nat, k ≤ S.acc.length ∧ v5 = .int .i64 (k : Int) ∧ Below w.heap.size w wr ∧ ∀ (i : Nat) (a b : Acc), i < k → S.acc[i]? = some a → S2.acc[i]? = some b → a.name = b.name ∧ a.least = b.least) (fun v5 _ => S.acc.length - (intOf v5).toNat)
  case atStart => exact ⟨0, Nat.zero_le _, rfl, (by first | exact bdrewN (Below.refl _ _) _ | exact Below.refl _ _), fun i a b hi => by omega⟩
  case round =>
    obtain ⟨k, hk, rfl, hbw, hsm⟩ := hrel
    have HSM := hide hsm
    have HBW := hide hbw
    have h := H.out.below hbw
    have h2 := H2.out.below hbw
    clear hsm hbw
    have hk0 : (0 : Int) ≤ (k : Int) := by omega
    have hk9 : (k : Int) < 100000 := by have := HL.out; omega
    obtain ⟨na, ma, hna⟩ := own_any h.nr
    have cA0 : wr.cell? ⟨R.r, 0, none⟩ = some (.slice na S.acc.length ma) := by rw [← hna]; exact h.c0
    by_cases hlt : k < S.acc.length
    · have hlt2 : (k : Int) < (S.acc.length : Int) := by omega
      obtain ⟨a, ha⟩ : ∃ a, S.acc[k]? = some a := ⟨_, List.getElem?_eq_getElem hlt⟩
      obtain ⟨b, hb⟩ : ∃ b, S2.acc[k]? = some b := ⟨_, List.getElem?_eq_getElem (by have := HE.out; omega)⟩
      obtain ⟨gn, cn, hnv, hcn⟩ := own_at h.nr hlt
      obtain ⟨gl, cl, hlv, hcl⟩ := own_at h.lr hlt
      obtain ⟨gn2, cn2, hnv2, hcn2⟩ := own_at h2.nr (by have := HE.out; omega : k < S2.acc.length)
      obtain ⟨gl2, cl2, hlv2, hcl2⟩ := own_at h2.lr (by have := HE.out; omega : k < S2.acc.length)
      obtain ⟨rfl, rfl⟩ : na = some ⟨gn, 0, none⟩ ∧ ma = cn := by rw [hna] at hnv; (injection hnv with e1 e2 e3; exact ⟨e1, e3⟩)
      have cA1 : wr.cell? ⟨R.r, 1, none⟩ = some (.slice (some ⟨gl, 0, none⟩) S.acc.length cl) := by rw [← hlv]; exact h.c1
      have cB0 : wr.cell? ⟨R2.r, 0, none⟩ = some (.slice (some ⟨gn2, 0, none⟩) S.acc.length cn2) := by rw [HE.out, ← hnv2]; exact h2.c0
      have cB1 : wr.cell? ⟨R2.r, 1, none⟩ = some (.slice (some ⟨gl2, 0, none⟩) S.acc.length cl2) := by rw [HE.out, ← hlv2]; exact h2.c1
      have e0 : wr.cell? ⟨gn, k, none⟩ = some (.string a.name) := by rw [hcn]; simp [nms, ha]
      have e1 : wr.cell? ⟨gl, k, none⟩ = some (.int .i64 a.least) := by rw [hcl]; simp [leasts, ha]
      have d0 : wr.cell? ⟨gn2, k, none⟩ = some (.string b.name) := by rw [hcn2]; simp [nms, hb]
      have d1 : wr.cell? ⟨gl2, k, none⟩ = some (.int .i64 b.least) := by rw [hcl2]; simp [leasts, hb]
      have HAB := hide (And.intro ha hb)
      obtain ⟨s, hs⟩ : ∃ s, s = a.name := ⟨_, rfl⟩
      obtain ⟨x, hx⟩ : ∃ x, x = a.least := ⟨_, rfl⟩
      obtain ⟨t, ht⟩ : ∃ t, t = b.name := ⟨_, rfl⟩
      obtain ⟨y, hy⟩ : ∃ y, y = b.least := ⟨_, rfl⟩
      rw [← hs] at e0
      rw [← hx] at e1
      rw [← ht] at d0
      rw [← hy] at d1
      have HX := hide (show s = a.name ∧ x = a.least ∧ t = b.name ∧ y = b.least from ⟨hs, hx, ht, hy⟩)
      clear ha hb hnv hlv hnv2 hlv2 hcn hcl hcn2 hcl2 h h2 hna hs hx ht hy
      by_cases e : s = t
      · subst e
        have s1 := ba_refl s
        by_cases e : x = y
        · subst e
          have x1 : (x != x) = false := by simp
          go_wp2_with fail
          go_quiet (fail)
          go_wp2_with fail
          go_roundw
          case rel =>
            refine ⟨k + 1, by omega, by go_num, bdrewN HBW.out _, fun i a' b' hi ha' hb' => ?_⟩
            rcases Nat.lt_or_ge i k with r | r
            · exact HSM.out i a' b' r ha' hb'
            · obtain rfl : i = k := by omega
              rw [HAB.out.1] at ha'
              rw [HAB.out.2] at hb'
              cases ha'
              cases hb'
              exact ⟨HX.out.1.symm.trans HX.out.2.2.1, HX.out.2.1.symm.trans HX.out.2.2.2⟩
          case measure => (first | (simp [intOf]; done) | (simp [intOf]; omega))
        · have x1 : (x != y) = true := by (rw [bne_iff_ne]; exact e)
          have x2 : (x == y) = false := by (rw [beq_eq_false_iff_ne]; exact e)
          have x3 : decide (x = y) = false := by (rw [decide_eq_false_iff_not]; exact e)
          have HN := hide (show sameB S S2 = false from sameB_least HAB.out.1 HAB.out.2 (by rw [← HX.out.2.1, ← HX.out.2.2.2]; exact e))
          clear e
          go_wp2_with fail
          go_quiet (fail)
          go_wp2_with fail
          refine bodyPost_ret (v := .bool false) (by simp [results, Try.f44, go_sem]) rfl ⟨by rw [HN.out], bdrewN HBW.out _⟩
      · have s1 := ba_ne e
        have HN := hide (show sameB S S2 = false from sameB_name HAB.out.1 HAB.out.2 (by rw [← HX.out.1, ← HX.out.2.2.1]; exact e))
        clear e
        go_wp2_with fail
        go_quiet (fail)
        go_wp2_with fail
        refine bodyPost_ret (v := .bool false) (by simp [results, Try.f44, go_sem]) rfl ⟨by rw [HN.out], bdrewN HBW.out _⟩
    · have hlt2 : ¬ (k : Int) < (S.acc.length : Int) := by omega
      have HNM := hide (show ∀ (i : Nat) (a b : Acc), S.acc[i]? = some a → S2.acc[i]? = some b → a.name = b.name ∧ a.least = b.least from fun i a b ha hb => HSM.out i a b (by have := (List.getElem?_eq_some_iff.1 ha).1; omega) ha hb)
      clear h h2 hna
      have z0 := HBW.out
      go_wp2_with fail
      clear cA0 hlt2
      go_loopw [6] (fun v6 wq => ∃ j : Nat, j ≤ S.posts.length ∧ v6 = .int .i64 (j : Int) ∧ Below w.heap.size w wq ∧ ∀ (i : Nat), i < j → S.posts[i]? = S2.posts[i]?) (fun v6 _ => S.posts.length - (intOf v6).toNat)
      case atStart => exact ⟨0, Nat.zero_le _, rfl, z0, fun i hi => by omega⟩
      case round =>
        clear z0 hk0 hk9 hk hlt
        obtain ⟨j, hj, rfl, hbw, hsm⟩ := hrel
        have HSM2 := hide hsm
        have HBW2 := hide hbw
        have h := H.out.below hbw
        have h2 := H2.out.below hbw
        clear hsm hbw
        have hk0 : (0 : Int) ≤ (j : Int) := by omega
        have hk9 : (j : Int) < 100000 := by have := HL.out; omega
        obtain ⟨vs, hrow, hposts⟩ := h.pr
        obtain ⟨vs2, hrow2, hposts2⟩ := h2.pr
        obtain ⟨pa, pc, hpv⟩ := own_any hrow
        have cA2 : wr.cell? ⟨R.r, 2, none⟩ = some (.slice pa S.posts.length pc) := by rw [← hpv]; exact h.c2
        by_cases hlt : j < S.posts.length
        · have hlt2 : (j : Int) < (S.posts.length : Int) := by omega
          obtain ⟨p, hp⟩ : ∃ p, S.posts[j]? = some p := ⟨_, List.getElem?_eq_getElem hlt⟩
          obtain ⟨q, hq⟩ : ∃ q, S2.posts[j]? = some q := ⟨_, List.getElem?_eq_getElem (by have := HD.out; omega)⟩
          obtain ⟨g, c, hgv, hc⟩ := own_at hrow hlt
          obtain ⟨g2, c2, hgv2, hc2⟩ := own_at hrow2 (by have := HD.out; omega : j < S2.posts.length)
          obtain ⟨rfl, rfl⟩ : pa = some ⟨g, 0, none⟩ ∧ pc = c := by rw [hpv] at hgv; (injection hgv with e1 e2 e3; exact ⟨e1, e3⟩)
          have cB2 : wr.cell? ⟨R2.r, 2, none⟩ = some (.slice (some ⟨g2, 0, none⟩) S.posts.length c2) := by rw [HD.out, ← hgv2]; exact h2.c2
          obtain ⟨v, hv, hown, -⟩ := hposts j p hp
          obtain ⟨v2, hv2, hown2, -⟩ := hposts2 j q hq
          rw [hv] at hc
          rw [hv2] at hc2
          obtain ⟨so, cp, rfl, hE⟩ := Ents.of_own hown
          obtain ⟨so2, cp2, rfl, hE2⟩ := Ents.of_own hown2
          have hsm := HF.out p (List.mem_of_getElem? hp)
          have HQ := hide (show ∀ n, Calls Try.prog 36 #[.slice so p.length cp, .slice so2 q.length cp2] (wr.drewN n) fun e w' => e = .returned (.bool (decide (p = q))) ∧ ∃ m, w' = (wr.drewN n).drewN m from fun n =>
            SameEntries_d so so2 cp cp2 p q _ (hE.below (bdrewN (Below.refl _ _) n)) (hE2.below (bdrewN (Below.refl _ _) n)) (by have := hsm.1; omega))
          have HPQ := hide (And.intro hp hq)
          clear hp hq hgv hgv2 hv hv2 hown hown2 hE hE2 hsm h h2 hrow hrow2 hposts hposts2 hpv
          by_cases e : p = q
          · have e1 : decide (p = q) = true := by (rw [decide_eq_true_iff]; exact e)
            rw [e1] at HQ
            have HPE := hide e
            clear e e1
            go_wp2_with fail
            go_quiet ((go_at_call 36; exact Calls.quiet_of (HQ.out _)))
            go_wp2_with fail
            go_roundw
            case rel =>
              refine ⟨j + 1, by omega, by go_num, bdrewN HBW2.out _, fun i hi => ?_⟩
              rcases Nat.lt_or_ge i j with r | r
              · exact HSM2.out i r
              · obtain rfl : i = j := by omega
                rw [HPQ.out.1, HPQ.out.2, HPE.out]
            case measure => (first | (simp [intOf]; done) | (simp [intOf]; omega))
          · have e1 : decide (p = q) = false := by (rw [decide_eq_false_iff_not]; exact e)
            rw [e1] at HQ
            have HN := hide (show sameB S S2 = false from sameB_post HPQ.out.1 HPQ.out.2 e)
            clear e e1
            go_wp2_with fail
            go_quiet ((go_at_call 36; exact Calls.quiet_of (HQ.out _)))
            go_wp2_with fail
            refine bodyPost_ret (v := .bool false) (by simp [results, Try.f44, go_sem]) rfl ⟨by rw [HN.out], bdrewN HBW2.out _⟩
        · have hlt2 : ¬ (j : Int) < (S.posts.length : Int) := by omega
          have HY := hide (show sameB S S2 = true from sameB_yes HE.out HNM.out (List.ext_getElem? (fun i => by
            rcases Nat.lt_or_ge i S.posts.length with r | r
            · exact HSM2.out i (by omega)
            · rw [List.getElem?_eq_none r, List.getElem?_eq_none (by have := HD.out; omega)])))
          clear h h2 hrow hrow2 hposts hposts2 hpv
          go_wp2_with fail
          refine bodyPost_ret (v := .bool true) (by simp [results, Try.f44, go_sem]) rfl ⟨by rw [HY.out], HBW2.out⟩
theorem Same_r (I : Nat → Prop) (R R2 : RP) (S S2 : LS) (w : World) (h : RObj I R S w) (h2 : RObj I R2 S2 w) (hS : Fine S) (hA : Agree S) : Calls Try.prog 44 #[.pointer (some ⟨R.r, 0, none⟩), .pointer (some ⟨R2.r, 0, none⟩)] w fun e w' => e = .returned (.bool (sameB S S2)) ∧ Below w.heap.size w w' := by
  by_cases he : S.acc.length = S2.acc.length
  · by_cases hd : S.posts.length = S2.posts.length
    · exact Same_rloop I R R2 S S2 w h h2 he hd hS.smalls hA.few (by have := hS.snd.few; omega)
    · exact Same_rposts I R R2 S S2 w h h2 he hd
  · exact Same_rlen I R R2 S S2 w h h2 he
end Go.Proofs.Ytkdocoibfclfeaa

namespace Go.Proofs.Ytkdocoibfclfeaa
open Go.ChangeShapes Go.WideShapes Go.ChangeAt Go.RowKit Go.Deep Go.Shelf Go.Maps Go.WideMaps Ytkdocoibfclfeaa.it
set_option linter.unusedSimpArgs false
set_option linter.unusedVariables false

attribute [local go_sem] Oper.semAt_some
theorem loop_turns {F : Fence} {n : Nat} {P : Program} {Q : Exit → Act → World → Prop} {c : Code} (m : Nat) (I : Nat → Act → World → Prop)
    (round : ∀ t, t < m → ∀ a w, I t a w → ∀ K : Act → World → Prop, (∀ a' w', I (t + 1) a' w' → K a' w') → c.wpIn F n P (Exit.then K Q) a w)
    (last : ∀ a w, I m a w → ∀ K : Act → World → Prop, c.wpIn F n P (Exit.then K Q) a w) {a : Act} {w : World} (h0 : I 0 a w) : (Code.loop c).wpIn F n P Q a w := by
  have key : ∀ k t, t + k = m → ∀ a w, I t a w → Code.roundsIn F n P c Q (k + 1) a w := by
    intro k
    induction k with
    | zero =>
      intro t ht a w h
      obtain rfl : t = m := by omega
      exact last a w h _
    | succ k ih =>
      intro t ht a w h
      exact round t (by omega) a w h _ (fun a' w' h' => ih (t + 1) (by omega) a' w' h')
  exact wpIn_loop_rounds (m + 1) (key m 0 (by omega) a w h0)
def mk (D : Nat) : Deferred := { target := .collected D, args := #[] }
theorem turn_box (X : World) (b : Value) (e : TypeId) : (∀ k, k < X.heap.size → (X.alloc (.cells #[b] e)).heap[k]? = X.heap[k]?) ∧ (X.alloc (.cells #[b] e)).cell? ⟨X.heap.size, 0, none⟩ = some b ∧ (X.alloc (.cells #[b] e)).frozen? ⟨X.heap.size, 0, none⟩ = false ∧ (X.alloc (.cells #[b] e)).heap.size = X.heap.size + 1 :=
  ⟨fun k hk => ((Below.refl _ X).alloc (Nat.le_refl _) _).block k hk, by simp [go_sem], by simp [go_sem], by simp⟩

/-- what the turns lean on: the turn's box, the marks; all that stood ahead of the loop stands -/
structure TI (w8 : World) (bt : Nat) (t : Int) (Ds : List Nat) (W : World) : Prop where
  lo : w8.heap.size ≤ bt
  turn : W.cell? ⟨bt, 0, none⟩ = some (.int .i64 t)
  turnf : W.frozen? ⟨bt, 0, none⟩ = false
  below : Below w8.heap.size w8 W
  marks : ∀ D, D ∈ Ds → w8.heap.size ≤ D ∧ W.heap[D]? = some (.deferred (some []))
  nodup : Ds.Nodup
theorem TI.first (w8 : World) (t : Int) : TI w8 w8.heap.size t [] (w8.alloc (.cells #[.int .i64 t] 3)) := by
  obtain ⟨U1, U2, U3, U4⟩ := turn_box w8 (.int .i64 t) 3
  exact ⟨Nat.le_refl _, U2, U3, (Below.refl _ _).alloc (Nat.le_refl _) _, (fun D h => by cases h), List.nodup_nil⟩
theorem TI.btz {w8 W : World} {bt : Nat} {t : Int} {Ds : List Nat} (h : TI w8 bt t Ds W) : bt < W.heap.size := World.block_lt_of_cell? W _ h.turn
theorem TI.later {w8 W Y : World} {bt : Nat} {t : Int} {Ds : List Nat} (h : TI w8 bt t Ds W) (hb : Below W.heap.size W Y) : TI w8 bt t Ds Y :=
  ⟨h.lo, (hb.cell (p := ⟨bt, 0, none⟩) h.btz).trans h.turn, (hb.frozen (p := ⟨bt, 0, none⟩) h.btz).trans h.turnf, h.below.trans (hb.mono h.below.size),
    fun D hD => ⟨(h.marks D hD).1, (hb.block D (Array.getElem?_eq_some_iff.1 (h.marks D hD).2).1).trans (h.marks D hD).2⟩, h.nodup⟩
theorem TI.next {w8 W Y : World} {bt : Nat} {t : Int} {Ds Ns : List Nat} (t' : Int) (h : TI w8 bt t Ds W) (hb : Below W.heap.size W Y) (hN : ∀ D, D ∈ Ns → W.heap.size ≤ D ∧ Y.heap[D]? = some (.deferred (some []))) (hd : Ns.Nodup) :
    TI w8 Y.heap.size t' (Ns ++ Ds) (Y.alloc (.cells #[.int .i64 t'] 3)) := by
  obtain ⟨U1, U2, U3, U4⟩ := turn_box Y (.int .i64 t') 3
  have hz := h.below.size
  have q := h.later hb
  refine ⟨Nat.le_trans hz hb.size, U2, U3, q.below.alloc q.below.size _, fun D hD => ?_, List.nodup_append.2 ⟨hd, h.nodup, fun D h1 E h2 e => ?_⟩⟩
  · rcases List.mem_append.1 hD with h1 | h1
    · exact ⟨Nat.le_trans hz (hN D h1).1, (U1 D (Array.getElem?_eq_some_iff.1 (hN D h1).2).1).trans (hN D h1).2⟩
    · exact ⟨(q.marks D h1).1, (U1 D (Array.getElem?_eq_some_iff.1 (q.marks D h1).2).1).trans (q.marks D h1).2⟩
  · subst e
    have a := (hN D h1).1
    have b := (Array.getElem?_eq_some_iff.1 (h.marks D h2).2).1
    omega
/-- what a range over a function in a turn leans on: V is the world ahead of it, kb the counter's box -/
structure RI (V : World) (kb : Nat) (k : Int) (X : World) : Prop where
  g : V.grownBy X (some kb)
  at_ : X.cell? ⟨kb, 0, none⟩ = some (.int .i64 k)
  f : X.frozen? ⟨kb, 0, none⟩ = false
theorem RI.later {V X Y : World} {kb : Nat} {k : Int} (h : RI V kb k X) (hk : kb < V.heap.size) (hb : Below V.heap.size X Y) : RI V kb k Y :=
  ⟨⟨hb.os.trans h.g.os, hb.tape.trans h.g.tape, hb.output.trans h.g.output, Nat.le_trans h.g.size hb.size, fun i hi hn => (hb.block i hi).trans (h.g.block i hi hn)⟩,
    (World.cell?_of_block (a := ⟨kb, 0, none⟩) (hb.block kb hk)).trans h.at_, (World.frozen?_of_block (a := ⟨kb, 0, none⟩) (hb.block kb hk)).trans h.f⟩
theorem RI.stays {V : World} {kb : Nat} (hk : kb < V.heap.size) {β : Type} (f : β → Int) : Stays V.heap.size (fun (s : β) X => RI V kb (f s) X) := fun s X Y hs hb => hs.later hk hb
theorem RI.step {V X : World} {kb : Nat} {k : Int} (h : RI V kb k X) (k' : Int) : RI V kb k' (X.setCell ⟨kb, 0, none⟩ (.int .i64 k')) :=
  ⟨⟨h.g.os, h.g.tape, h.g.output, by simpa using h.g.size, fun i hi hn => (heap_setCell_other _ _ _ _ (fun e => hn (by rw [e]))).trans (h.g.block i hi hn)⟩,
    World.cell?_setCell_same' _ _ _ (by rw [h.at_]; rfl), (World.frozen?_setCell _ _ _ _).trans h.f⟩
theorem RI.keeps {V X X' : World} {kb : Nat} {k : Int} (h : RI V kb k X) (hoth : ∀ b, b ≠ kb → X'.heap[b]? = X.heap[b]?) (hsz : X'.heap.size = X.heap.size) : KeepsOthers X X' :=
  ⟨by omega, fun i o hi ho => (hoth i (fun e => by
    have hc := h.at_
    rw [e] at hi
    simp only [World.cell?, hi] at hc
    cases o <;> simp_all [Obj.isCells])).trans hi⟩
/-- a block but the counter's, as it stood ahead of the range -/
theorem RI.old {V X : World} {kb : Nat} {k : Int} (h : RI V kb k X) {b : Nat} (hb : b < V.heap.size) (hn : b ≠ kb) : X.heap[b]? = V.heap[b]? := h.g.block b hb (fun e => hn (Option.some.inj e))
theorem RI.below {V X : World} {kb : Nat} {k : Int} {B : Nat} {w : World} (h : RI V kb k X) (hw : Below B w V) (hB : B ≤ V.heap.size) (hk : B ≤ kb) : Below B w X := hw.grown h.g hB (fun q e => by cases e; exact hk)
end Go.Proofs.Ytkdocoibfclfeaa

namespace Go.Proofs.Ytkdocoibfclfeaa
open Go.ChangeShapes Go.WideShapes Go.ChangeAt Go.RowKit Go.Deep Go.Shelf Go.Maps Go.WideMaps Ytkdocoibfclfeaa.it
set_option linter.unusedSimpArgs false
set_option linter.unusedVariables false

attribute [local go_sem] Oper.semAt_some

theorem eql106L (f : Nat) (c : Array Value) (w : World) : Sem.run Try.prog (binOp .eql 106 (.func (.func f) #[] c) .nilFunc) w = .ok (.bool false) w := by kernel_rfl
/-- the names of all postings have accounts -/
def Known (S : LS) : Prop := ∀ p ∈ S.posts, allThere S.acc p
theorem line_none {S : LS} (h : Known S) {s : ByteArray} (hs : idx (nms S.acc) s = none) (k : Nat) (hk : k ≤ S.posts.length) : lineTo S.posts s k = [] := by
  induction k with
  | zero => rfl
  | succ k ih =>
    rw [lineTo, ih (by omega)]
    have hp : S.posts[k]? = some (S.posts[k]'(by omega)) := List.getElem?_eq_getElem (by omega)
    rw [show S.posts.getD k [] = S.posts[k]'(by omega) by rw [List.getD_eq_getElem?_getD, hp]; rfl]
    have : thereB (S.posts[k]'(by omega)) s = false := by
      unfold thereB
      rw [decide_eq_false_iff_not]
      intro q
      obtain ⟨i, hi⟩ := h _ (List.getElem_mem _) s q
      rw [hs] at hi; cases hi
    rw [this]; simp
theorem flatI_at : ∀ (L : List (Int × Int)) (i : Nat), i < L.length → (flatI L)[i * 2]? = some (.int .i64 (L.getD i (0, 0)).1) ∧ (flatI L)[i * 2 + 1]? = some (.int .i64 (L.getD i (0, 0)).2)
  | [], i, h => by simp at h
  | x :: r, 0, h => by simp [flatI]
  | x :: r, i + 1, h => by
    have q := flatI_at r i (by simpa using h)
    rw [show (i + 1) * 2 = i * 2 + 1 + 1 by omega]
    simpa [flatI] using q
/-- what stands ahead of the two turns: a row of points -/
structure Want (B : Nat) (L : List (Int × Int)) (v : Value) (w : World) : Prop where
  row : w.ownsRow B 125 2 v L.length (flatI L)
set_option maxRecDepth 100000 in
set_option maxHeartbeats 4000000 in
theorem line_law (I : Nat → Prop) (F : Fp) (R : RP) (S : LS) (s : ByteArray) (x : Int) (w : World) (h : LObj I F S w) (hr : RObj I R S w) (hS : Fine S) (hA : Agree S) (hKn : Known S) : Calls Try.prog 39 #[.pointer (some ⟨F.b, 0, none⟩), .pointer (some ⟨R.r, 0, none⟩), .string s, .int .i64 x] w fun e w' => e = .returned (.bool true) ∧ Below w.heap.size w w' := by
  obtain ⟨W, hW⟩ : ∃ W, W = (w.alloc (.cells #[.int .i64 x] 2)).alloc (.cells #[.bool false] 4) := ⟨_, rfl⟩
  have hbW : Below w.heap.size w W := by rw [hW]; (focus repeat' (first | (with_reducible exact Below.refl _ _) | (with_reducible assumption) | (with_reducible refine Below.alloc ?_ ?_ _) | (with_reducible refine Below.drew ?_) | (with_reducible refine bdrewN ?_ _) | (with_reducible refine Below.setCell ?_ ?_ _) | (first | (with_reducible exact Nat.le_refl _) | (with_reducible assumption) | omega | (simp; omega) | (simp; done))))
  have H := hide (h.below hbW)
  have HR := hide (hr.below hbW)
  have HS := hide hS
  have HA := hide hA
  have HKN := hide hKn
  have HBW := hide hbW
  have cx := hide (show W.cell? ⟨w.heap.size, 0, none⟩ = some (.int .i64 x) by rw [hW]; simp [go_sem])
  have cr := hide (show W.cell? ⟨w.heap.size + 1, 0, none⟩ = some (.bool false) by rw [hW]; simp [go_sem])
  have fr := hide (show W.frozen? ⟨w.heap.size + 1, 0, none⟩ = false by rw [hW]; simp [go_sem])
  have HW := hide hW
  have Q := eql106L
  clear h hr hS hA hKn hbW hW
  refine (callsIn_wide (n := 4)).1 ?_
  refine callsIn_of_wp_marks Try.func39 rfl trivial ?_ rfl
  simp only [Try.ntmps39, List.size_toArray, List.length_cons, List.length_nil, Nat.reduceAdd, Nat.reduceSub, Array.replicate_succ, Array.replicate_zero, List.push_toArray, List.append_toArray, List.nil_append, List.cons_append]
  refine (wpIn_wide (n := 4)).2 ?_
  go_wp2_with fail
  rw [← HW.out]
  refine (Line_c I F S s W H.out HS.out.few).mono ?_
  rintro e w1 ⟨Bf, Bn, rfl, hit, hb1⟩
  have HIT := hide hit
  have HB1 := hide hb1
  clear hit hb1
  go_wp2_with fail
  refine (Line_r I R S s w1 (HR.out.below HB1.out) HS.out.smalls HA.out.few).mono ?_
  rintro e w2 ⟨ao, ac, rfl, hrow, hb2⟩
  have HROW := hide hrow
  have HB2 := hide hb2
  clear hrow hb2
  obtain ⟨L, hL⟩ : ∃ L, L = lineTo S.posts s S.posts.length := ⟨_, rfl⟩
  rw [← hL] at HROW ⊢
  have HLL := hide hL
  clear hL
  go_upto_region 5 with fail
  go_cut [25, 26] from 27 (fun v25 v26 wx => ∃ b : Bool, v26 = .bool b ∧ (b = true → L = []) ∧ wx.cell? ⟨w2.heap.size, 0, none⟩ = some (.slice ao L.length ac) ∧ wx.frozen? ⟨w2.heap.size, 0, none⟩ = false ∧ Below w2.heap.size w2 wx)
  case first =>
    obtain ⟨V, hV⟩ : ∃ V, V = w2.alloc (.cells #[.slice ao L.length ac] 122) := ⟨_, rfl⟩
    have hbV : Below w2.heap.size w2 V := by rw [hV]; (focus repeat' (first | (with_reducible exact Below.refl _ _) | (with_reducible assumption) | (with_reducible refine Below.alloc ?_ ?_ _) | (with_reducible refine Below.drew ?_) | (with_reducible refine bdrewN ?_ _) | (with_reducible refine Below.setCell ?_ ?_ _) | (first | (with_reducible exact Nat.le_refl _) | (with_reducible assumption) | omega | (simp; omega) | (simp; done))))
    have HRV := hide ((HR.out.below (HB1.out)).below HB2.out |>.below hbV)
    have cw := hide (show V.cell? ⟨w2.heap.size, 0, none⟩ = some (.slice ao L.length ac) by rw [hV]; simp [go_sem])
    have fw := hide (show V.frozen? ⟨w2.heap.size, 0, none⟩ = false by rw [hV]; simp [go_sem])
    have HBV := hide hbV
    have HV := hide hV
    clear hbV hV
    go_wp2_with fail
    rw [← HV.out]
    refine (Find_r I R S s V HRV.out (by have := HS.out.snd.few; omega)).mono ?_
    rintro e w3 ⟨rfl, rfl⟩
    cases hi : idx (nms S.acc) s with
    | none =>
      rw [idxV_none hi]
      have HL0 := hide (show L = [] by rw [HLL.out]; exact line_none HKN.out hi _ (Nat.le_refl _))
      clear hi
      go_wp2_with fail
      go_meet
      exact ⟨true, by first | rfl | simp, fun _ => HL0.out, cw.out, fw.out, HBV.out⟩
    | some n =>
      rw [idxV_some hi]
      have n0 : decide ((n : Int) < 0) = false := by (rw [decide_eq_false_iff_not]; omega)
      clear hi
      go_wp2_with fail
      go_meet
      exact ⟨false, by first | rfl | simp, (fun e => by cases e), cw.out, fw.out, HBV.out⟩
  obtain ⟨b, rfl, hb0, cw, fw, hbx⟩ := hcut
  have HBX := hide hbx
  clear hbx
  apply_assumption
  go_cut [] from 25 to 26 (fun wx => ∃ ao ac, wx.cell? ⟨w2.heap.size, 0, none⟩ = some (.slice ao L.length ac) ∧ wx.ownsRow w1.heap.size 125 2 (.slice ao L.length ac) L.length (flatI L) ∧ Below w2.heap.size w2 wx)
  case first =>
    cases b with
    | true =>
      have HL0 := hide (hb0 rfl)
      clear hb0
      go_wp2_with fail
      go_meet
      refine ⟨none, 0, ?_, ?_, HBX.out.setCell (p := ⟨w2.heap.size, 0, none⟩) (Nat.le_refl _) _⟩
      · rw [HL0.out]
        exact World.cell?_setCell_same' _ ⟨w2.heap.size, 0, none⟩ _ (by rw [cw]; rfl)
      · rw [HL0.out]
        exact World.ownsRow_nil _ _ _ _
    | false =>
      go_wp2_with fail
      go_meet
      exact ⟨ao, ac, cw, own_stays HROW.out (fun k hk => HBX.out.block k (HROW.out.lt k hk).2), HBX.out⟩

  go_wp2_with fail

  obtain ⟨ao2, ac2, cw2, hrow2, hbx2⟩ := hcut
  have z1 := HB1.out.size
  have z2 := HB2.out.size
  have z3 := hbx2.size
  have B18 : Below w1.heap.size w1 wc := HB2.out.trans (hbx2.mono z2)
  have BW8 : Below W.heap.size W wc := HB1.out.trans (B18.mono z1)
  have CX := hide (cell_stay cx.out (BW8.block _ (World.block_lt_of_cell? W _ cx.out)))
  have CR := hide (cell_stay cr.out (BW8.block _ (World.block_lt_of_cell? W _ cr.out)))
  have FRR := hide (fro_stay fr.out (BW8.block _ (World.block_lt_of_cell? W _ cr.out)))
  have CW := hide cw2
  have HROW2 := hide hrow2
  have HB18 := hide B18
  have B8 := hide (HBW.out.trans (BW8.mono HBW.out.size))
  have HL3 := hide (show L.length ≤ 300 by rw [HLL.out]; exact Nat.le_trans (lineTo_len _ _ _) HA.out.few)
  obtain ⟨K, k1, k2, hseq⟩ := line_seqN HIT.out HA.out.few HS.out.smalls (fun k hk => Nat.lt_of_lt_of_le (H.out.ilt k hk) z1)
  rw [← HLL.out] at hseq
  have HK1 := hide k1
  have HSQ := hide hseq
  have zw2 := World.block_lt_of_cell? wc _ cw2
  have zw0 : w.heap.size + 1 < wc.heap.size := World.block_lt_of_cell? wc _ CR.out
  have z18 := B18.size
  clear cx cr fr cw fw hb0 HBX HROW HR HS HA HKN HBW HW HIT HB1 HB2 HLL hrow2 hbx2 B18 BW8 k1 k2 hseq H Q
  refine (wpIn_wide (n := 4)).1 ?_
  refine loop_turns 2 (fun t a X => ∃ (bt : Nat) (Ds : List Nat) (q12 q27 q28 q29 q30 q31 q32 q33 q65 q66 q67 q68 q69 q70 q71 q72 q73 q74 q75 q76 q77 q78 q79 q80 q81 q82 q83 q84 q85 q86 q87 q88 : Value), TI wc bt (t : Int) Ds X ∧ Ds.length = t ∧ a = { tmps := #[Value.pointer (some ⟨F.b, 0, none⟩), Value.pointer (some ⟨R.r, 0, none⟩), Value.string s, Value.int .i64 x, undef, undef, undef, Value.pointer (some ⟨w.heap.size, 0, none⟩), Value.pointer (some ⟨w.heap.size + 1, 0, none⟩), Value.func (.func 60) #[] #[.pointer (some ⟨Bf, 0, none⟩), .pointer (some ⟨Bn, 0, none⟩)], Value.pointer (some ⟨w2.heap.size, 0, none⟩), Value.pointer (some ⟨bt, 0, none⟩), q12, undef, undef, Value.pointer (some ⟨F.b, 0, none⟩), Value.string s, Value.func (.func 60) #[] #[.pointer (some ⟨Bf, 0, none⟩), .pointer (some ⟨Bn, 0, none⟩)], Value.func (.func 60) #[] #[.pointer (some ⟨Bf, 0, none⟩), .pointer (some ⟨Bn, 0, none⟩)], Value.bool false, Value.pointer (some ⟨R.r, 0, none⟩), Value.string s, Value.slice ao L.length ac, u23, u24, u25, u26, q27, q28, q29, q30, q31, q32, q33, u34, u35, u36, u37, u38, u39, u40, u41, u42, u43, u44, u45, u46, u47, u48, u49, u50, u51, u52, u53, u54, u55, u56, u57, u58, u59, u60, u61, u62, u63, u64, q65, q66, q67, q68, q69, q70, q71, q72, q73, q74, q75, q76, q77, q78, q79, q80, q81, q82, q83, q84, q85, q86, q87, q88], defers := Ds.map mk }) ?round ?last
    ⟨wc.heap.size, [], _, _, _, _, _, _, _, _, _, _, _, _, _, _, _, _, _, _, _, _, _, _, _, _, _, _, _, _, _, _, _, _, TI.first wc 0, rfl, rfl⟩
  case last =>
    rintro a W ⟨bt, Ds, q12, q27, q28, q29, q30, q31, q32, q33, q65, q66, q67, q68, q69, q70, q71, q72, q73, q74, q75, q76, q77, q78, q79, q80, q81, q82, q83, q84, q85, q86, q87, q88, hTI, hDs, rfl⟩ K2
    obtain ⟨D2, D1, rfl⟩ : ∃ D2 D1, Ds = [D2, D1] := by
      match Ds, hDs with
      | [a, b], _ => exact ⟨a, b, rfl⟩
    have cturn : W.cell? ⟨bt, 0, none⟩ = some (.int .i64 2) := hTI.turn
    have hk1 := hTI.marks D1 (by simp)
    have hk2 := hTI.marks D2 (by simp)
    have hD12 : D1 ≠ D2 := fun e => by have := hTI.nodup; subst e; simp at this
    have K1 := hide hk1
    have K2 := hide hk2
    have c9 := cell_stay CR.out (hTI.below.block _ (World.block_lt_of_cell? wc _ CR.out))
    have f9 := fro_stay FRR.out (hTI.below.block _ (World.block_lt_of_cell? wc _ CR.out))
    have HB9 := hide (B8.out.trans (hTI.below.mono (by have := B8.out.size; omega)))
    have C9 := hide c9
    clear hTI hk1 hk2 hDs
    gi_wp2
    refine (wpIn_wide (n := 4)).1 ?_
    gi_wp2
    have q1 := (KeepsOthers.setCell W ⟨w.heap.size + 1, 0, none⟩ (.bool true)).same D1 _ K1.out.2 rfl
    have q2 := (KeepsOthers.setCell W ⟨w.heap.size + 1, 0, none⟩ (.bool true)).same D2 _ K2.out.2 rfl
    have hc5 := cell_kept (World.cell?_setCell_same' W ⟨w.heap.size + 1, 0, none⟩ (.bool true) (by rw [C9.out]; rfl)) (grownBy_putObj' _ D2 (.deferred none)) (fun r e => by cases e; exact ⟨_, q2, rfl⟩)
    have q1' := (World.putObj_heap_other (w := W.setCell ⟨w.heap.size + 1, 0, none⟩ (.bool true)) (o := .deferred none) hD12).trans q1
    have hc6 := cell_kept hc5 (grownBy_putObj' _ D1 (.deferred none)) (fun r e => by cases e; exact ⟨_, q1', rfl⟩)
    refine ⟨by simp, .inl ⟨_, _, rfl, run_takeDeferred q2, ?_⟩⟩
    refine ⟨by simp, .inl ⟨_, _, rfl, run_takeDeferred q1', ?_⟩⟩
    refine ⟨.bool true, ?_, rfl, ((HB9.out.setCell (p := ⟨w.heap.size + 1, 0, none⟩) (by simp) _).trans (belowK_b (w := w) (Nat.le_refl _) _ D2 _ _ (by have := K2.out.1; omega) q2 rfl rfl)).trans (belowK_b (w := w) (Nat.le_refl _) _ D1 _ _ (by have := K1.out.1; omega) q1' rfl rfl)⟩
    simp [results, Try.f39, go_sem, hc6]
  case round =>
    rintro t ht a W ⟨bt, Ds, q12, q27, q28, q29, q30, q31, q32, q33, q65, q66, q67, q68, q69, q70, q71, q72, q73, q74, q75, q76, q77, q78, q79, q80, q81, q82, q83, q84, q85, q86, q87, q88, hTI, hDs, rfl⟩ K2 hK2
    have HTI := hide hTI
    have HK2 := hide hK2
    clear hTI hK2
    rcases Nat.lt_or_ge t 1 with h1 | h1
    · obtain rfl : t = 0 := by omega
      clear h1 ht
      have cturn : W.cell? ⟨bt, 0, none⟩ = some (.int .i64 0) := HTI.out.turn
      have btz := HTI.out.btz
      gi_wp2_with fail
      obtain ⟨V, hV⟩ : ∃ V, V = W.alloc (.cells #[.int .i64 0] 3) := ⟨_, rfl⟩
      rw [← hV]
      obtain ⟨U1, U2, U3, U4⟩ := turn_box W (.int .i64 0) 3
      rw [← hV] at U1 U2 U3 U4
      have hbV : Below W.heap.size W V := by rw [hV]; exact (Below.refl _ _).alloc (Nat.le_refl _) _
      have hVw : Below wc.heap.size wc V := HTI.out.below.trans (hbV.mono HTI.out.below.size)
      have z8W := HTI.out.below.size
      have HOLD := hide (show ∀ (k : Int) X, RI V W.heap.size k X → Below wc.heap.size wc X ∧ TI wc bt 0 Ds X ∧ Below W.heap.size W X from fun k X h => by
        have q : Below W.heap.size W X := h.below hbV (by omega) (Nat.le_refl _)
        exact ⟨h.below hVw (by omega) (by omega), HTI.out.later q, q⟩)
      have h0 : RI V W.heap.size 0 V := ⟨⟨rfl, rfl, rfl, Nat.le_refl _, fun _ _ _ => rfl⟩, U2, U3⟩
      clear hV cturn
      refine range_N (n := 4) (by decide) (gf := 60) (lb := #[.pointer (some ⟨Bf, 0, none⟩), .pointer (some ⟨Bn, 0, none⟩)]) rfl (enters_of Try.func60 (by kernel_rfl) rfl) HSQ.out (fun i hi => by have := HK1.out i hi; omega) (HB18.out.trans (hVw.mono (by have := HB18.out.size; omega))) (fun _ => rfl)
        (fun pre X => RI V W.heap.size (pre.length : Int) X ∧ (∃ rest, L = pre ++ rest) ∧ (x ≤ 0 ∨ (pre.length : Int) < x))
        (fun c pre X => c = .exit 2 ∧ (pre.length : Int) = x ∧ pre.length ≤ L.length ∧ RI V W.heap.size (pre.length : Int) X)
        (fun pre X Y hs hb => ⟨hs.1.later (by omega) hb, hs.2⟩)
        (fun c pre X Y hs hb => ⟨hs.1, hs.2.1, hs.2.2.1, hs.2.2.2.later (by omega) hb⟩)
        ⟨h0, ⟨L, rfl⟩, by simp; omega⟩
        (fun p a' X => a' = { tmps := #[Value.pointer (some ⟨F.b, 0, none⟩), Value.pointer (some ⟨R.r, 0, none⟩), Value.string s, Value.int .i64 x, undef, undef, undef, Value.pointer (some ⟨w.heap.size, 0, none⟩), Value.pointer (some ⟨w.heap.size + 1, 0, none⟩), Value.func (.func 60) #[] #[.pointer (some ⟨Bf, 0, none⟩), .pointer (some ⟨Bn, 0, none⟩)], Value.pointer (some ⟨w2.heap.size, 0, none⟩), Value.pointer (some ⟨bt, 0, none⟩), .pointer (some ⟨W.heap.size, 0, none⟩), .int .i64 p.1, .int .i64 p.2, Value.pointer (some ⟨F.b, 0, none⟩), Value.string s, Value.func (.func 60) #[] #[.pointer (some ⟨Bf, 0, none⟩), .pointer (some ⟨Bn, 0, none⟩)], Value.func (.func 60) #[] #[.pointer (some ⟨Bf, 0, none⟩), .pointer (some ⟨Bn, 0, none⟩)], Value.bool false, Value.pointer (some ⟨R.r, 0, none⟩), Value.string s, Value.slice ao L.length ac, u23, u24, u25, u26, .int .i64 0, .bool true, q29, q30, Value.func (.func 60) #[] #[.pointer (some ⟨Bf, 0, none⟩), .pointer (some ⟨Bn, 0, none⟩)], .int .i64 p.1, .int .i64 p.2, u34, u35, u36, u37, u38, u39, u40, u41, u42, u43, u44, u45, u46, u47, u48, u49, u50, u51, u52, u53, u54, u55, u56, u57, u58, u59, u60, u61, u62, u63, u64, q65, q66, q67, q68, q69, q70, q71, q72, q73, q74, q75, q76, q77, q78, q79, q80, q81, q82, q83, q84, q85, q86, q87, q88], defers := [] })
        (fun p a' X o hx => hx) ?assign ?body ?done ?stop
      case assign =>
        rintro l pre p X K' hI hNx hlt hK
        gi_wp2
        exact hK _ _ ⟨Nat.le_refl _, fun _ _ h _ => h⟩ (Fix.of_below (Below.refl _ _)) hI rfl
      case body =>
        rintro l pre ⟨y0, y1⟩ a' X ⟨hRI, -, hinv⟩ ⟨rest, hT⟩ rfl
        have hpL : pre.length < L.length := by (rw [hT]; simp)
        have hXL : (pre ++ [((y0, y1) : Int × Int)]).length ≤ L.length := by (rw [hT]; simp)
        have HP := hide (show ∃ rest, L = (pre ++ [((y0, y1) : Int × Int)]) ++ rest from ⟨rest, by rw [hT]; simp⟩)
        have hat := flatI_at L pre.length hpL
        rw [show L.getD pre.length (0, 0) = (y0, y1) by (rw [hT]; simp)] at hat
        obtain ⟨hb8, hTX, hbW⟩ := HOLD.out _ _ hRI
        obtain ⟨gw, hgw⟩ : ∃ gw, ao2 = some ⟨gw, 0, none⟩ := by
          obtain ⟨g, cp, hv, _, _⟩ := HROW2.out.form (by omega)
          injection hv with e1 e2 e3
          exact ⟨g, e1⟩
        have hrX := own_stays HROW2.out (fun k hk => hb8.block k (HROW2.out.lt k hk).2)
        rw [hgw] at hrX
        have c0 : X.cell? ⟨gw, pre.length * 2, none⟩ = some (.int .i64 y0) := by rw [hrX.cellAt _ (by omega)]; exact hat.1
        have c1 : X.cell? ⟨gw, pre.length * 2 + 1, none⟩ = some (.int .i64 y1) := by rw [hrX.cellAt _ (by omega)]; exact hat.2
        have cw : X.cell? ⟨w2.heap.size, 0, none⟩ = some (.slice (some ⟨gw, 0, none⟩) L.length ac2) := by rw [← hgw]; exact cell_stay CW.out (hb8.block _ (World.block_lt_of_cell? wc _ CW.out))
        have cx := cell_stay CX.out (hb8.block _ (World.block_lt_of_cell? wc _ CX.out))
        have ct := hTX.turn
        have ck := hRI.at_
        have fk := hRI.f
        have hpl0 : (0 : Int) ≤ (pre.length : Int) := by omega
        have hpl9 : (pre.length : Int) + 1 ≤ 400 := by have := HL3.out; omega
        have g1 : decide ((L.length : Int) ≤ (pre.length : Int)) = false := by (rw [decide_eq_false_iff_not]; omega)
        have g2 : decide (L.length ≤ pre.length) = false := by (rw [decide_eq_false_iff_not]; omega)
        have hpLi : (pre.length : Int) < (L.length : Int) := by omega
        have HRI := hide hRI
        have HXL := hide hXL
        have hk1 : decide ((pre.length : Int) < (L.length : Int)) = true := by (rw [decide_eq_true_iff]; omega)
        have hKz : ∀ i, K i → i ≠ W.heap.size := fun i hi => by have := HK1.out i hi; have := HB18.out.size; omega
        have FIN := hide (show ∀ Y : World, (∀ b, b ≠ W.heap.size → Y.heap[b]? = X.heap[b]?) → Y.heap.size = X.heap.size → KeepsOthers X Y ∧ Fix (fun i => K i ∨ V.heap.size ≤ i) X Y from fun Y hoth hsz => ⟨hRI.keeps hoth hsz, ⟨by omega, fun i hi hl => hoth i (fun e => hi.elim (fun h => hKz i h e) (fun h => by omega))⟩⟩)
        have EK := hide (show ((pre ++ [((y0, y1) : Int × Int)]).length : Int) = (pre.length : Int) + 1 by simp)
        clear hT hat hb8 hTX hbW hrX hRI hXL hKz hgw
        by_cases hlv : (pre.length : Int) + 1 = x
        · have b1 : decide ((pre.length : Int) + 1 = x) = true := by simp [hlv]
          have b2 : ((pre.length : Int) + 1 == x) = true := by simp [hlv]
          have HLV := hide hlv
          clear hlv hinv
          gi_wp2
          have q := FIN.out (X.setCell ⟨W.heap.size, 0, none⟩ (.int .i64 ((pre.length : Int) + 1))) (fun b hb => heap_setCell_other _ _ _ _ hb) (by rw [World.size_setCell])
          exact ⟨q.1, rfl, by rw [EK.out]; exact HLV.out, HXL.out, by rw [EK.out]; exact HRI.out.step _⟩
        · have HLV := hide (show x ≤ 0 ∨ (pre.length : Int) + 1 < x from by omega)
          have b1 : decide ((pre.length : Int) + 1 = x) = false := by simp [hlv]
          have b2 : ((pre.length : Int) + 1 == x) = false := by simp [hlv]
          clear hlv hinv
          gi_wp2
          have q := FIN.out (X.setCell ⟨W.heap.size, 0, none⟩ (.int .i64 ((pre.length : Int) + 1))) (fun b hb => heap_setCell_other _ _ _ _ hb) (by rw [World.size_setCell])
          exact ⟨q.1, q.2, by rw [EK.out]; exact HRI.out.step _, HP.out, by rw [EK.out]; exact HLV.out⟩
      case done =>
        rintro D ys X hD hys ⟨hRI, -, hinv⟩ hKd
        rw [hys] at hRI
        have HKD := hide hKd
        obtain ⟨hb8, hTX, hbW⟩ := HOLD.out _ _ hRI
        have HBW := hide hbW
        have cw := cell_stay CW.out (hb8.block _ (World.block_lt_of_cell? wc _ CW.out))
        have cx := cell_stay CX.out (hb8.block _ (World.block_lt_of_cell? wc _ CX.out))
        have ct := hTX.turn
        have ck := hRI.at_
        clear hKd hb8 hTX hbW hRI
        have m1 : decide ((L.length : Int) = (L.length : Int)) = true := by simp
        have m2 : ((L.length : Int) != (L.length : Int)) = false := by simp
        clear hinv hys
        gi_wp2
        refine HK2.out _ _ ⟨X.heap.size, [D] ++ Ds, _, _, _, _, _, _, _, _, _, _, _, _, _, _, _, _, _, _, _, _, _, _, _, _, _, _, _, _, _, _, _, _, HTI.out.next 1 HBW.out (fun E hE => by
          obtain rfl : E = D := by simpa using hE
          exact ⟨by omega, HKD.out⟩) (by simp), by simp [hDs], rfl⟩
      case stop =>
        rintro D c pre X hD - ⟨rfl, hpx, hple, hRI⟩ hKd
        have HKD := hide hKd
        obtain ⟨hb8, hTX, hbW⟩ := HOLD.out _ _ hRI
        have HBW := hide hbW
        have cw := cell_stay CW.out (hb8.block _ (World.block_lt_of_cell? wc _ CW.out))
        have cx := cell_stay CX.out (hb8.block _ (World.block_lt_of_cell? wc _ CX.out))
        have ct := hTX.turn
        have ck := hRI.at_
        clear hKd hb8 hTX hbW hRI
        have k1 : decide ((pre.length : Int) = x) = true := by simp [hpx]
        have k2 : ((pre.length : Int) != x) = false := by simp [hpx]
        by_cases hlT : pre.length = L.length
        · have m1 : decide ((pre.length : Int) = (L.length : Int)) = true := by simp [hlT]
          have m2 : ((pre.length : Int) != (L.length : Int)) = false := by simp [hlT]
          clear hlT hpx hple
          gi_wp2
          refine HK2.out _ _ ⟨X.heap.size, [D] ++ Ds, _, _, _, _, _, _, _, _, _, _, _, _, _, _, _, _, _, _, _, _, _, _, _, _, _, _, _, _, _, _, _, _, HTI.out.next 1 HBW.out (fun E hE => by
            obtain rfl : E = D := by simpa using hE
            exact ⟨by omega, HKD.out⟩) (by simp), by simp [hDs], rfl⟩
        · have m1 : decide ((pre.length : Int) = (L.length : Int)) = false := by (rw [decide_eq_false_iff_not]; omega)
          have m2 : ((pre.length : Int) != (L.length : Int)) = true := by (rw [bne_iff_ne]; omega)
          clear hlT hpx hple
          gi_wp2
          refine HK2.out _ _ ⟨X.heap.size, [D] ++ Ds, _, _, _, _, _, _, _, _, _, _, _, _, _, _, _, _, _, _, _, _, _, _, _, _, _, _, _, _, _, _, _, _, HTI.out.next 1 HBW.out (fun E hE => by
            obtain rfl : E = D := by simpa using hE
            exact ⟨by omega, HKD.out⟩) (by simp), by simp [hDs], rfl⟩
    · obtain rfl : t = 1 := by omega
      clear h1 ht
      have cturn : W.cell? ⟨bt, 0, none⟩ = some (.int .i64 1) := HTI.out.turn
      have btz := HTI.out.btz
      gi_wp2_with fail
      obtain ⟨V, hV⟩ : ∃ V, V = W.alloc (.cells #[.int .i64 0] 3) := ⟨_, rfl⟩
      rw [← hV]
      obtain ⟨U1, U2, U3, U4⟩ := turn_box W (.int .i64 0) 3
      rw [← hV] at U1 U2 U3 U4
      have hbV : Below W.heap.size W V := by rw [hV]; exact (Below.refl _ _).alloc (Nat.le_refl _) _
      have hVw : Below wc.heap.size wc V := HTI.out.below.trans (hbV.mono HTI.out.below.size)
      have z8W := HTI.out.below.size
      have HOLD := hide (show ∀ (k : Int) X, RI V W.heap.size k X → Below wc.heap.size wc X ∧ TI wc bt 1 Ds X ∧ Below W.heap.size W X from fun k X h => by
        have q : Below W.heap.size W X := h.below hbV (by omega) (Nat.le_refl _)
        exact ⟨h.below hVw (by omega) (by omega), HTI.out.later q, q⟩)
      have h0 : RI V W.heap.size 0 V := ⟨⟨rfl, rfl, rfl, Nat.le_refl _, fun _ _ _ => rfl⟩, U2, U3⟩
      clear hV cturn
      refine range_N (n := 4) (by decide) (gf := 60) (lb := #[.pointer (some ⟨Bf, 0, none⟩), .pointer (some ⟨Bn, 0, none⟩)]) rfl (enters_of Try.func60 (by kernel_rfl) rfl) HSQ.out (fun i hi => by have := HK1.out i hi; omega) (HB18.out.trans (hVw.mono (by have := HB18.out.size; omega))) (fun _ => rfl)
        (fun pre X => RI V W.heap.size (pre.length : Int) X ∧ (∃ rest, L = pre ++ rest) ∧ 0 ≤ pre.length)
        (fun _ _ _ => False)
        (fun pre X Y hs hb => ⟨hs.1.later (by omega) hb, hs.2⟩)
        (fun _ _ _ _ hs _ => hs)
        ⟨h0, ⟨L, rfl⟩, Nat.zero_le _⟩
        (fun p a' X => a' = { tmps := #[Value.pointer (some ⟨F.b, 0, none⟩), Value.pointer (some ⟨R.r, 0, none⟩), Value.string s, Value.int .i64 x, undef, undef, undef, Value.pointer (some ⟨w.heap.size, 0, none⟩), Value.pointer (some ⟨w.heap.size + 1, 0, none⟩), Value.func (.func 60) #[] #[.pointer (some ⟨Bf, 0, none⟩), .pointer (some ⟨Bn, 0, none⟩)], Value.pointer (some ⟨w2.heap.size, 0, none⟩), Value.pointer (some ⟨bt, 0, none⟩), .pointer (some ⟨W.heap.size, 0, none⟩), .int .i64 p.1, .int .i64 p.2, Value.pointer (some ⟨F.b, 0, none⟩), Value.string s, Value.func (.func 60) #[] #[.pointer (some ⟨Bf, 0, none⟩), .pointer (some ⟨Bn, 0, none⟩)], Value.func (.func 60) #[] #[.pointer (some ⟨Bf, 0, none⟩), .pointer (some ⟨Bn, 0, none⟩)], Value.bool false, Value.pointer (some ⟨R.r, 0, none⟩), Value.string s, Value.slice ao L.length ac, u23, u24, u25, u26, .int .i64 1, .bool true, q29, q30, Value.func (.func 60) #[] #[.pointer (some ⟨Bf, 0, none⟩), .pointer (some ⟨Bn, 0, none⟩)], .int .i64 p.1, .int .i64 p.2, u34, u35, u36, u37, u38, u39, u40, u41, u42, u43, u44, u45, u46, u47, u48, u49, u50, u51, u52, u53, u54, u55, u56, u57, u58, u59, u60, u61, u62, u63, u64, q65, q66, q67, q68, q69, q70, q71, q72, q73, q74, q75, q76, q77, q78, q79, q80, q81, q82, q83, q84, q85, q86, q87, q88], defers := [] })
        (fun p a' X o hx => hx) ?assign ?body ?done ?stop
      case assign =>
        rintro l pre p X K' hI hNx hlt hK
        gi_wp2
        exact hK _ _ ⟨Nat.le_refl _, fun _ _ h _ => h⟩ (Fix.of_below (Below.refl _ _)) hI rfl
      case body =>
        rintro l pre ⟨y0, y1⟩ a' X ⟨hRI, -, hinv⟩ ⟨rest, hT⟩ rfl
        have hpL : pre.length < L.length := by (rw [hT]; simp)
        have hXL : (pre ++ [((y0, y1) : Int × Int)]).length ≤ L.length := by (rw [hT]; simp)
        have HP := hide (show ∃ rest, L = (pre ++ [((y0, y1) : Int × Int)]) ++ rest from ⟨rest, by rw [hT]; simp⟩)
        have hat := flatI_at L pre.length hpL
        rw [show L.getD pre.length (0, 0) = (y0, y1) by (rw [hT]; simp)] at hat
        obtain ⟨hb8, hTX, hbW⟩ := HOLD.out _ _ hRI
        obtain ⟨gw, hgw⟩ : ∃ gw, ao2 = some ⟨gw, 0, none⟩ := by
          obtain ⟨g, cp, hv, _, _⟩ := HROW2.out.form (by omega)
          injection hv with e1 e2 e3
          exact ⟨g, e1⟩
        have hrX := own_stays HROW2.out (fun k hk => hb8.block k (HROW2.out.lt k hk).2)
        rw [hgw] at hrX
        have c0 : X.cell? ⟨gw, pre.length * 2, none⟩ = some (.int .i64 y0) := by rw [hrX.cellAt _ (by omega)]; exact hat.1
        have c1 : X.cell? ⟨gw, pre.length * 2 + 1, none⟩ = some (.int .i64 y1) := by rw [hrX.cellAt _ (by omega)]; exact hat.2
        have cw : X.cell? ⟨w2.heap.size, 0, none⟩ = some (.slice (some ⟨gw, 0, none⟩) L.length ac2) := by rw [← hgw]; exact cell_stay CW.out (hb8.block _ (World.block_lt_of_cell? wc _ CW.out))
        have cx := cell_stay CX.out (hb8.block _ (World.block_lt_of_cell? wc _ CX.out))
        have ct := hTX.turn
        have ck := hRI.at_
        have fk := hRI.f
        have hpl0 : (0 : Int) ≤ (pre.length : Int) := by omega
        have hpl9 : (pre.length : Int) + 1 ≤ 400 := by have := HL3.out; omega
        have g1 : decide ((L.length : Int) ≤ (pre.length : Int)) = false := by (rw [decide_eq_false_iff_not]; omega)
        have g2 : decide (L.length ≤ pre.length) = false := by (rw [decide_eq_false_iff_not]; omega)
        have hpLi : (pre.length : Int) < (L.length : Int) := by omega
        have HRI := hide hRI
        have HXL := hide hXL
        have hk1 : decide ((pre.length : Int) < (L.length : Int)) = true := by (rw [decide_eq_true_iff]; omega)
        have hKz : ∀ i, K i → i ≠ W.heap.size := fun i hi => by have := HK1.out i hi; have := HB18.out.size; omega
        have FIN := hide (show ∀ Y : World, (∀ b, b ≠ W.heap.size → Y.heap[b]? = X.heap[b]?) → Y.heap.size = X.heap.size → KeepsOthers X Y ∧ Fix (fun i => K i ∨ V.heap.size ≤ i) X Y from fun Y hoth hsz => ⟨hRI.keeps hoth hsz, ⟨by omega, fun i hi hl => hoth i (fun e => hi.elim (fun h => hKz i h e) (fun h => by omega))⟩⟩)
        have EK := hide (show ((pre ++ [((y0, y1) : Int × Int)]).length : Int) = (pre.length : Int) + 1 by simp)
        clear hT hat hb8 hTX hbW hrX hRI hXL hKz hgw
        clear hinv
        gi_wp2
        have q := FIN.out (X.setCell ⟨W.heap.size, 0, none⟩ (.int .i64 ((pre.length : Int) + 1))) (fun b hb => heap_setCell_other _ _ _ _ hb) (by rw [World.size_setCell])
        exact ⟨q.1, q.2, by rw [EK.out]; exact HRI.out.step _, HP.out, Nat.zero_le _⟩
      case done =>
        rintro D ys X hD hys ⟨hRI, -, hinv⟩ hKd
        rw [hys] at hRI
        have HKD := hide hKd
        obtain ⟨hb8, hTX, hbW⟩ := HOLD.out _ _ hRI
        have HBW := hide hbW
        have cw := cell_stay CW.out (hb8.block _ (World.block_lt_of_cell? wc _ CW.out))
        have cx := cell_stay CX.out (hb8.block _ (World.block_lt_of_cell? wc _ CX.out))
        have ct := hTX.turn
        have ck := hRI.at_
        clear hKd hb8 hTX hbW hRI
        have m1 : decide ((L.length : Int) = (L.length : Int)) = true := by simp
        have m2 : ((L.length : Int) != (L.length : Int)) = false := by simp
        clear hinv hys
        gi_wp2
        refine HK2.out _ _ ⟨X.heap.size, [D] ++ Ds, _, _, _, _, _, _, _, _, _, _, _, _, _, _, _, _, _, _, _, _, _, _, _, _, _, _, _, _, _, _, _, _, HTI.out.next 2 HBW.out (fun E hE => by
          obtain rfl : E = D := by simpa using hE
          exact ⟨by omega, HKD.out⟩) (by simp), by simp [hDs], rfl⟩
      case stop =>
        rintro D c pre X _ _ hh _
        exact hh.elim
end Go.Proofs.Ytkdocoibfclfeaa

namespace Go.Proofs.Ytkdocoibfclfeaa
open Go.ChangeShapes Go.WideShapes Go.ChangeAt Go.RowKit Go.Deep Go.Shelf Go.Maps Go.WideMaps Ytkdocoibfclfeaa.it
set_option linter.unusedSimpArgs false
set_option linter.unusedVariables false

attribute [local go_sem] Oper.semAt_some

set_option maxRecDepth 100000 in
set_option maxHeartbeats 2000000 in
theorem over_g (B n : Nat) (v : Value) (xs : List Value) (w : World) (h : w.ownsRow B 63 2 v n xs) (hm : n ≤ 4503599627370496) : Calls Try.prog 37 #[v] w fun e w' => (∃ u, e = .returned u) ∧ w.grownBy w' v.ownBlock := by
  obtain ⟨ao, cap, rfl⟩ := own_any h
  have H := hide h
  have HM := hide hm
  clear h hm
  go_enter Try.func37, Try.ntmps37
  go_wp2_with fail
  go_loopw [2] (fun v2 wr => ∃ (k : Nat) (ys : List Value), k ≤ n ∧ v2 = .int .i64 (k : Int) ∧ wr.ownsRow B 63 2 (.slice ao n cap) n ys ∧ w.grownBy wr (Value.slice ao n cap).ownBlock) (fun v2 _ => n - (intOf v2).toNat)
  case atStart => exact ⟨0, xs, Nat.zero_le _, rfl, H.out, rfl, rfl, rfl, Nat.le_refl _, fun _ _ _ => rfl⟩
  case round =>
    obtain ⟨k, ys, hk, rfl, hown, hbw⟩ := hrel
    have HO := hide hown
    have HBW := hide hbw
    have hk0 : (0 : Int) ≤ (k : Int) := by omega
    have hk9 : (k : Int) ≤ 4503599627370496 := by have := HM.out; omega
    by_cases hlt : k < n
    · have hl2 : (k : Int) < (n : Int) := by omega
      obtain ⟨g, c, hv, hg, _⟩ := hown.form (by omega)
      obtain ⟨rfl, rfl⟩ : ao = some ⟨g, 0, none⟩ ∧ cap = c := by (injection hv with e1 e2 e3; exact ⟨e1, e3⟩)
      have hyl : ys.length = n * 2 := hown.1
      have c0 : ∃ u, wr.cell? ⟨g, k * 2, none⟩ = some u := by
        rw [hown.cellAt (k * 2) (by omega), List.getElem?_eq_getElem (by omega)]; exact ⟨_, rfl⟩
      have c1 : ∃ u, wr.cell? ⟨g, k * 2 + 1, none⟩ = some u := by
        rw [hown.cellAt (k * 2 + 1) (by omega), List.getElem?_eq_getElem (by omega)]; exact ⟨_, rfl⟩
      obtain ⟨u0, c0⟩ := c0
      obtain ⟨u1, c1⟩ := c1
      have f0 := hown.frozenAt (k * 2)
      have f1 := hown.frozenAt (k * 2 + 1)
      clear hown hbw hv
      go_wp2_with fail
      go_roundw
      case rel =>
        have s0 := HO.out.stored (k * 2) (.string ⟨#[103, 111, 110, 101]⟩)
        have s1 := s0.1.stored (k * 2 + 1) (.int .i64 9)
        refine ⟨k + 1, _, by omega, by go_num, s1.1, ?_⟩
        have q : w.grownBy wr (some g) := HBW.out
        exact Lib.grownBy_setB (Lib.grownBy_setB q _ _) _ _
      case measure => (first | (simp [intOf]; done) | (simp [intOf]; omega))
    · have hl2 : ¬ (k : Int) < (n : Int) := by omega
      clear hown hbw
      go_wp2_with fail
      go_end0
      exact ⟨⟨_, rfl⟩, HBW.out⟩
theorem eql102k (f : Nat) (c : Array Value) (w : World) : Sem.run Try.prog (binOp .eql 102 (.func (.func f) #[] c) .nilFunc) w = .ok (.bool false) w := by kernel_rfl
theorem flds70 : (Try.prog.fieldsOf 70).toList.map (fun f => (decide (f.name = "_"), f.type, f.offset)) = [(false, 9, 0), (false, 2, 1), (false, 2, 2)] := by kernel_rfl
theorem eq70 (a : ByteArray) (x y : Int) (w : World) : Sem.run Try.prog (Op.equalIn 10000 70 (.agg #[.string a, .int .i64 x, .int .i64 y]) (.agg #[.string a, .int .i64 x, .int .i64 y])) w = .ok true w := by
  have p1 : Sem.run Try.prog (part 9 #[.string a, .int .i64 x, .int .i64 y] 0) w = .ok (.string a) w := by kernel_rfl
  have p2 : Sem.run Try.prog (part 2 #[.string a, .int .i64 x, .int .i64 y] 1) w = .ok (.int .i64 x) w := by kernel_rfl
  have p3 : Sem.run Try.prog (part 2 #[.string a, .int .i64 x, .int .i64 y] 2) w = .ok (.int .i64 y) w := by kernel_rfl
  rw [run_equalIn_agg w 9999 70 _ _ (by kernel_rfl) (by kernel_rfl)]
  have hf := flds70
  generalize (Try.prog.fieldsOf 70).toList = fs at hf
  obtain ⟨f, r, rfl, hf1, hf2⟩ := List.map_eq_cons_iff.1 hf
  obtain ⟨g, r2, rfl, hg1, hg2⟩ := List.map_eq_cons_iff.1 hf2
  obtain ⟨k, r3, rfl, hk1, hk2⟩ := List.map_eq_cons_iff.1 hg2
  obtain rfl : r3 = [] := by simpa using hk2
  simp only [Prod.mk.injEq, decide_eq_false_iff_not] at hf1 hg1 hk1
  obtain ⟨h1, h2, h3⟩ := hf1
  obtain ⟨h4, h5, h6⟩ := hg1
  obtain ⟨h7, h8, h9⟩ := hk1
  simp [Op.eqFields, ne_eq, h1, not_false_iff, if_true, h4, h2, h3, h5, h6, h7, h8, h9, Sem.run_bind, p1, p2, p3, Result.andThen_ok, run_equalIn_string w 9998 9 _ _ Try.underlying9, run_equalIn_int w 9998 2 _ _ _ _ Try.underlying2]
theorem neq70 (a : ByteArray) (x y : Int) (w : World) : Sem.run Try.prog (binOp .neq 70 (.agg #[.string a, .int .i64 x, .int .i64 y]) (.agg #[.string a, .int .i64 x, .int .i64 y])) w = .ok (.bool false) w := by
  rw [run_neq_struct, eq70]; rfl
theorem KeepsFrom.of_below {B : Nat} {X Y : World} (hb : Below X.heap.size X Y) : KeepsFrom B X Y := ⟨hb.size, fun k o _ hk _ => (hb.block k (Array.getElem?_eq_some_iff.1 hk).1).trans hk⟩
theorem KeepsFrom.of_grown {B : Nat} {X Y : World} {v : Value} {n size B0 : Nat} {t : TypeId} {xs : List Value} (hr : X.ownsRow B0 t size v n xs) (hg : X.grownBy Y v.ownBlock) : KeepsFrom B X Y := ⟨hg.size, fun k o _ hk ho => (hg.block k (Array.getElem?_eq_some_iff.1 hk).1 (fun e => by
  rcases hr.2 with ⟨e2, _⟩ | ⟨g, cp, cur, e2, _, hg2, _⟩
  · rw [e2] at e; cases e
  · rw [e2] at e
    have e3 : some k = some g := e
    injection e3 with e4
    subst e4
    rw [hg2] at hk
    injection hk with hk
    subst hk
    cases ho)).trans hk⟩
end Go.Proofs.Ytkdocoibfclfeaa

