import Derived.Test.YtkdocoibfclfeaaTk
import Derived.Sort.LoopGhostIn
namespace Go.Proofs.Ytkdocoibfclfeaa
open Go.ChangeShapes Go.WideShapes Go.ChangeAt Go.RowKit Go.Deep Go.Shelf Go.Maps Go.WideMaps Ytkdocoibfclfeaa.it
set_option linter.unusedSimpArgs false
set_option linter.unusedVariables false

attribute [local go_sem] Oper.semAt_some

def psum (A : List Acc) (j : Nat) : Int := ((A.take j).map Acc.has).sum
theorem psum_step (A : List Acc) (j : Nat) (h : j < A.length) : psum A (j + 1) = psum A j + (accAt0 A j).has := by
  unfold psum; rw [take_snocA A j h]; simp
theorem accAt0_mem {A : List Acc} {j : Nat} (h : j < A.length) : accAt0 A j ∈ A := List.mem_of_getElem? (accAt0_get h)
theorem psum_bd {A : List Acc} (h : Sound A) (j : Nat) (hj : j ≤ A.length) : psum A j ≤ 65536 * maxC ∧ -(65536 * maxC) ≤ psum A j := by
  have hl : ∀ a ∈ A, -maxC ≤ a.has := fun a ha => by have := h.good a ha; omega
  have h1 := sum_le (A.take j) (fun a ha => hl a (List.mem_of_mem_take ha))
  have h2 := sum_le (A.drop j) (fun a ha => hl a (List.mem_of_mem_drop ha))
  have h3 : psum A j + ((A.drop j).map Acc.has).sum = 0 := by
    rw [← h.sum]
    unfold psum
    rw [← List.sum_append, ← List.map_append, List.take_append_drop]
  have h4 := h.few
  have l1 : (A.take j).length = j := by simp; omega
  have l2 : (A.drop j).length ≤ A.length := by simp
  rw [l1] at h1
  unfold psum at h3 ⊢
  unfold maxC at *
  omega
structure NoI (A : List Acc) (Br Bs : Nat) (j : Nat) (W : World) : Prop where
  r : W.cell? ⟨Br, 0, none⟩ = some (.bool false)
  rf : W.frozen? ⟨Br, 0, none⟩ = false
  s : W.cell? ⟨Bs, 0, none⟩ = some (.int .i64 (psum A j))
  sf : W.frozen? ⟨Bs, 0, none⟩ = false
theorem NoI.old {A : List Acc} {Br Bs j : Nat} {W W' : World} (h : NoI A Br Bs j W) (h1 : W'.heap[Br]? = W.heap[Br]?) (h2 : W'.heap[Bs]? = W.heap[Bs]?) : NoI A Br Bs j W' := ⟨cell_stay h.r h1, fro_stay h.rf h1, cell_stay h.s h2, fro_stay h.sf h2⟩
set_option maxRecDepth 100000 in
set_option maxHeartbeats 4000000 in
theorem nought_c (I : Nat → Prop) (F : Fp) (S : LS) (w : World) (h : LObj I F S w) (hS : Sound S.acc) : Calls Try.prog 12 #[.pointer (some ⟨F.b, 0, none⟩)] w fun e w' => e = .returned (.bool true) ∧ Below w.heap.size w w' := by
  have H1 := hide (h.below ((Below.refl _ _).alloc (Nat.le_refl _) (.cells #[.bool false] 4)))
  have HS := hide hS
  have Q := eql80k
  clear h hS
  refine (callsIn_wide (n := 3)).1 ?_
  refine callsIn_of_wp_marks Try.func12 rfl trivial ?_ rfl
  simp only [Try.ntmps12, List.size_toArray, List.length_cons, List.length_nil, Nat.reduceAdd, Nat.reduceSub, Array.replicate_succ, Array.replicate_zero, List.push_toArray, List.append_toArray, List.nil_append, List.cons_append]
  gi_wp2_with fail
  refine ⟨trivial, ?_⟩
  refine (callsIn_wide.2 (Accounts_c I F S _ H1.out HS.out.few)).mono ?_
  rintro e w5 ⟨Bx, g, rfl, hac, hb5⟩
  have hz5 := hb5.size
  simp at hz5
  have c5 : w5.cell? ⟨w.heap.size, 0, none⟩ = some (.bool false) := cell_stay (show (w.alloc (.cells #[.bool false] 4)).cell? ⟨w.heap.size, 0, none⟩ = some (.bool false) by simp [go_sem]) (hb5.block _ (by simp))
  have f5 : w5.frozen? ⟨w.heap.size, 0, none⟩ = false := fro_stay (show (w.alloc (.cells #[.bool false] 4)).frozen? ⟨w.heap.size, 0, none⟩ = false by simp [go_sem]) (hb5.block _ (by simp))
  have HB5 := hide (show Below w.heap.size w w5 from bstep (by (focus repeat' (first | (with_reducible exact Below.refl _ _) | (with_reducible assumption) | (with_reducible refine Below.alloc ?_ ?_ _) | (with_reducible refine Below.drew ?_) | (with_reducible refine bdrewN ?_ _) | (with_reducible refine Below.setCell ?_ ?_ _) | (first | (with_reducible exact Nat.le_refl _) | (with_reducible assumption) | omega | (simp; omega) | (simp; done))))) hb5)
  have HAC := hide hac
  have hlb := hac.lb
  have hlg := hac.lg
  have hlt := hac.lts
  simp only [World.size_alloc] at hlb hlg
  clear hac hb5
  obtain ⟨V, hV⟩ : ∃ V, V = w5.alloc (.cells #[.int .i64 0] 2) := ⟨_, rfl⟩
  have hbV : Below w5.heap.size w5 V := by rw [hV]; (focus repeat' (first | (with_reducible exact Below.refl _ _) | (with_reducible assumption) | (with_reducible refine Below.alloc ?_ ?_ _) | (with_reducible refine Below.drew ?_) | (with_reducible refine bdrewN ?_ _) | (with_reducible refine Below.setCell ?_ ?_ _) | (first | (with_reducible exact Nat.le_refl _) | (with_reducible assumption) | omega | (simp; omega) | (simp; done))))
  have hVz : V.heap.size = w5.heap.size + 1 := by rw [hV]; simp
  have HI0 := hide (show NoI S.acc w.heap.size w5.heap.size 0 V from ⟨cell_stay c5 (hbV.block _ hz5), fro_stay f5 (hbV.block _ hz5), by rw [hV]; simp [go_sem, psum], by rw [hV]; simp [go_sem]⟩)
  have HBV := hide (bstep HB5.out hbV)
  gi_wp2_with fail
  rw [← hV]
  clear hV c5 f5
  refine range_G (n := 3) (by decide) (gf := 53) (lb := #[.pointer (some ⟨Bx, 0, none⟩)]) rfl (enters_of Try.func53 (by kernel_rfl) rfl)
    (acc_seqW 2 (by decide) HAC.out HS.out.few) (fun i hi => by rcases hi with rfl | rfl <;> omega) hbV (fun _ => rfl)
    (fun pre W => (V.heap.size ≤ W.heap.size ∧ ∃ j, j ≤ S.acc.length ∧ pre = upto (numA S.acc) j ∧ NoI S.acc w.heap.size w5.heap.size j W) ∧ Below w.heap.size w W) (fun _ _ _ => False)
    ((stays_old (fun s W W' hb hI => by
      obtain ⟨j, h1, h2, h3⟩ := hI
      exact ⟨j, h1, h2, h3.old (hb _ (by omega)) (hb _ (by omega))⟩)).both (stays_below (by omega))) (fun _ _ _ _ hs _ => hs)
    ⟨⟨Nat.le_refl _, 0, Nat.zero_le _, rfl, HI0.out⟩, HBV.out⟩
    (fun pre x a' W => ∃ j By, j < S.acc.length ∧ pre = upto (numA S.acc) j ∧ x = numA S.acc j ∧ V.heap.size + 2 ≤ By ∧ By < W.heap.size ∧ BoxA W By x.2 ∧ a' = { tmps := #[.pointer (some ⟨F.b, 0, none⟩), undef, .pointer (some ⟨w.heap.size, 0, none⟩), .func (.func 53) #[] #[.pointer (some ⟨Bx, 0, none⟩)], .pointer (some ⟨w5.heap.size, 0, none⟩), undef, .pointer (some ⟨By, 0, none⟩), .pointer (some ⟨F.b, 0, none⟩), .func (.func 53) #[] #[.pointer (some ⟨Bx, 0, none⟩)], .func (.func 53) #[] #[.pointer (some ⟨Bx, 0, none⟩)], .bool false, .func (.func 53) #[] #[.pointer (some ⟨Bx, 0, none⟩)], .int .i64 (x.1 : Int), .agg #[.string x.2.name, .int .i64 x.2.least, .int .i64 x.2.has], undef, undef, undef, undef, undef, undef, undef, undef, undef, undef, undef], defers := [] })
    (fun pre x a' W o hx => ?_) ?assign ?body ?done ?stop
  · obtain ⟨j, By, h1, h2, h3, h4, h5, h6, h7⟩ := hx
    exact ⟨j, By, h1, h2, h3, h4, by simpa using h5, h6.put (by omega) o, h7⟩
  case assign =>
    rintro l pre x W K' hI ⟨j, hj, rfl, rfl⟩ hlt2 hK
    gi_wp2
    have hb := (Below.refl W.heap.size W).alloc (Nat.le_refl _) (.cells #[.string (numA S.acc j).2.name, .int .i64 (numA S.acc j).2.least, .int .i64 (numA S.acc j).2.has] 70)
    refine hK _ _ (KeepsOthers.alloc _ _) (Fix.of_below hb) ?_ ⟨j, W.heap.size, hj, rfl, rfl, by omega, by simp, BoxA.new W _, rfl⟩
    obtain ⟨⟨hz, j2, h1, h2, h3⟩, hB⟩ := hI
    exact ⟨⟨Nat.le_trans hz hb.size, j2, h1, h2, h3.old (hb.block _ (by omega)) (hb.block _ (by omega))⟩, hB.trans (hb.mono hB.size)⟩
  case body =>
    rintro l pre x a' W ⟨⟨hz, j2, hj2, hp2, hNI⟩, hB⟩ hlt2 ⟨j, By, hj, rfl, rfl, hBy, hByz, hbx, rfl⟩
    obtain rfl : j = j2 := by
      have := congrArg List.length hp2
      rw [upto_length, upto_length] at this
      exact this
    have HUP := hide (upto_succ (numA S.acc) j)
    obtain ⟨a, ha⟩ : ∃ a, a = accAt0 S.acc j := ⟨_, rfl⟩
    have hga := HS.out.good a (by rw [ha]; exact accAt0_mem hj)
    have hps := psum_step S.acc j hj
    have hbd := psum_bd HS.out j (by omega)
    have hbd2 := psum_bd HS.out (j + 1) (by omega)
    rw [hps, ← ha] at hbd2
    rw [← ha] at hps
    obtain ⟨t, ht⟩ : ∃ t, t = psum S.acc j := ⟨_, rfl⟩
    rw [← ht] at hps hbd hbd2
    have cs : W.cell? ⟨w5.heap.size, 0, none⟩ = some (.int .i64 t) := by rw [ht]; exact hNI.s
    have fs := hNI.sf
    have d1 : decide (a.has < a.least) = false := by (rw [decide_eq_false_iff_not]; omega)
    have b0 : W.cell? ⟨By, 0, none⟩ = some (.string a.name) := by rw [ha]; exact hbx.1
    have b1 : W.cell? ⟨By, 1, none⟩ = some (.int .i64 a.least) := by rw [ha]; exact hbx.2.1
    have b2 : W.cell? ⟨By, 2, none⟩ = some (.int .i64 a.has) := by rw [ha]; exact hbx.2.2
    have a0 : IntKind.i64.wrap (t + a.has) = t + a.has := IntWalk.i64_in _ (by unfold maxC at *; constructor <;> omega)
    have a1 : wrap64 (t + a.has) = t + a.has := by rw [← IntWalk.i64_left]; exact a0
    have HNI := hide hNI
    have HPS := hide hps
    have HBW := hide hB
    have HA := hide ha
    have HT := hide ht
    have hsz : w5.heap.size < W.heap.size := by omega
    rw [show (numA S.acc j).2 = a from ha.symm, show (numA S.acc j).1 = j from rfl]
    clear hga hps hbd hbd2 hNI hB hp2 hbx ha ht
    gi_wp2
    refine ⟨(KeepsOthers.setCell _ _ _).from _, (Fix.of_below (Below.refl _ _)).set (by rintro (q | q) <;> omega) _ _, ⟨(by first | (simp; done) | (simp; omega)), j + 1, by omega, HUP.out.symm, ?_⟩, HBW.out.setCell (p := ⟨w5.heap.size, 0, none⟩) (by show w.heap.size ≤ w5.heap.size; omega) _⟩
    have e0 : (W.setCell ⟨w5.heap.size, 0, none⟩ (.int .i64 (t + a.has))).heap[w.heap.size]? = W.heap[w.heap.size]? := heap_setCell_other _ _ _ _ (by show w.heap.size ≠ w5.heap.size; omega)
    refine ⟨cell_stay HNI.out.r e0, fro_stay HNI.out.rf e0, ?_, by rw [World.frozen?_setCell]; exact HNI.out.sf⟩
    rw [HPS.out]
    exact World.cell?_setCell_same' W ⟨w5.heap.size, 0, none⟩ _ (by rw [HNI.out.s]; rfl)
  case done =>
    rintro D ys W hD rfl ⟨⟨hz, j, hj, hp, hNI⟩, hB⟩ hKd
    obtain rfl : j = S.acc.length := by
      have := congrArg List.length hp
      rw [upto_length, upto_length] at this
      exact this.symm
    have cs : W.cell? ⟨w5.heap.size, 0, none⟩ = some (.int .i64 0) := by
      rw [hNI.s]
      have : psum S.acc S.acc.length = 0 := by unfold psum; rw [List.take_length]; exact HS.out.sum
      rw [this]
    have cr := hNI.r
    have fr := hNI.rf
    have HBW := hide hB
    have HKD := hide hKd
    have hwz : w.heap.size < W.heap.size := by omega
    have hDz := (Array.getElem?_eq_some_iff.1 hKd).1
    clear hNI hB hp hKd
    gi_wp2
    have hK' := (KeepsOthers.setCell W ⟨w.heap.size, 0, none⟩ (.bool true)).same D _ HKD.out rfl
    have hc5 := cell_kept (World.cell?_setCell_same' W ⟨w.heap.size, 0, none⟩ (.bool true) (by rw [cr]; rfl)) (grownBy_putObj' _ D (.deferred none)) (fun r e => by cases e; exact ⟨_, hK', rfl⟩)
    refine ⟨by simp, .inl ⟨_, _, rfl, run_takeDeferred hK', ?_⟩⟩
    refine ⟨.bool true, ?_, rfl, (HBW.out.setCell (p := ⟨w.heap.size, 0, none⟩) (Nat.le_refl _) _).trans (belowK_b (w := w) (Nat.le_refl _) _ D _ _ (by omega) hK' rfl rfl)⟩
    simp [results, Try.f12, go_sem, hc5]
  case stop =>
    rintro D c pre W hD _ hx _
    exact hx.elim
end Go.Proofs.Ytkdocoibfclfeaa
