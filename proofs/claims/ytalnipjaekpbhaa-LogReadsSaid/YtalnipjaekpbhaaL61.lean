import Derived.Test.YtalnipjaekpbhaaL60
import Derived.Test.YtalnipjaekpbhaaRY
import Derived.Deep.CutBlock
import Derived.Laws.EntriesVeiled
import Derived.RangeFuncKeeps
import Derived.Deep.RegionHeld
namespace Go.Proofs.Ytalnipjaekpbhaa
open Go.ChangeShapes Go.WideShapes Go.ChangeAt Go.RowKit Go.Deep
set_option linter.unusedSimpArgs false
set_option linter.unusedVariables false
attribute [local go_sem] Oper.semAt_some

open rf
/-- what a range over a function in a turn leans on: V is the world ahead of it, kb the counter's box -/
structure RI (V : World) (kb : Nat) (k : Int) (X : World) : Prop where
  g : V.grownBy X (some kb)
  at_ : X.cell? ⟨kb, 0, none⟩ = some (.int .i64 k)
  f : X.frozen? ⟨kb, 0, none⟩ = false
theorem RI.later {V X Y : World} {kb : Nat} {k : Int} (h : RI V kb k X) (hk : kb < V.heap.size) (hb : Below V.heap.size X Y) : RI V kb k Y :=
  ⟨⟨hb.os.trans h.g.os, hb.tape.trans h.g.tape, hb.output.trans h.g.output, Nat.le_trans h.g.size hb.size, fun i hi hn => (hb.block i hi).trans (h.g.block i hi hn)⟩,
    (World.cell?_of_block (a := ⟨kb, 0, none⟩) (hb.block kb hk)).trans h.at_, (World.frozen?_of_block (a := ⟨kb, 0, none⟩) (hb.block kb hk)).trans h.f⟩
theorem RI.stays {V : World} {kb : Nat} (hk : kb < V.heap.size) {β : Type} (f : β → Int) : Stays V.heap.size (fun (s : β) X => RI V kb (f s) X) := fun s X Y hs hb => hs.later hk hb
theorem RI.step {V X : World} {kb : Nat} {k : Int} (h : RI V kb k X) (k' : Int) : RI V kb k' (X.setCell ⟨kb, 0, none⟩ (.int .i64 k')) :=
  ⟨⟨h.g.os, h.g.tape, h.g.output, by simpa using h.g.size, fun i hi hn => (heap_setCell_other _ _ _ _ (fun e => hn (by rw [e]))).trans (h.g.block i hi hn)⟩,
    World.cell?_setCell_same' _ _ _ (by rw [h.at_]; rfl), (World.frozen?_setCell _ _ _ _).trans h.f⟩
theorem RI.keeps {V X X' : World} {kb : Nat} {k : Int} (h : RI V kb k X) (hoth : ∀ b, b ≠ kb → X'.heap[b]? = X.heap[b]?) (hsz : X'.heap.size = X.heap.size) : KeepsOthers X X' :=
  ⟨by omega, fun i o hi ho => (hoth i (fun e => by
    have hc := h.at_
    rw [e] at hi
    simp only [World.cell?, hi] at hc
    cases o <;> simp_all [Obj.isCells])).trans hi⟩
/-- a block but the counter's, as it stood ahead of the range -/
theorem RI.old {V X : World} {kb : Nat} {k : Int} (h : RI V kb k X) {b : Nat} (hb : b < V.heap.size) (hn : b ≠ kb) : X.heap[b]? = V.heap[b]? := h.g.block b hb (fun e => hn (Option.some.inj e))
theorem RI.below {V X : World} {kb : Nat} {k : Int} {B : Nat} {w : World} (h : RI V kb k X) (hw : Below B w V) (hB : B ≤ V.heap.size) (hk : B ≤ kb) : Below B w X := hw.grown h.g hB (fun q e => by cases e; exact hk)

theorem row_noloop {w : World} {base : Nat} {e : TypeId} {size : Nat} {v : Value} {n : Nat} {xs : List Value} {B : Nat} {l : Loop} (h : w.ownsRow base e size v n xs) (hB : w.heap[B]? = some (.loop l)) : ∀ k, v.ownBlock = some k → k ≠ B := by
  intro k hk e
  rcases h.2 with ⟨q, _⟩ | ⟨g, cap, cur, q, _, h2, _⟩
  · rw [q] at hk; cases hk
  · rw [q] at hk
    have hk' : g = k := Option.some.inj hk
    rw [hk', e, hB] at h2
    cases h2
theorem box_noloop {w : World} {b B : Nat} {o : Ord} {ov : Value} {l : Loop} (h : BoxO w b o ov) (hB : w.heap[B]? = some (.loop l)) : b ≠ B := by
  rintro rfl
  have q := h.c 0 (by decide)
  simp only [World.cell?, hB] at q
  cases q
theorem keepsO_below {W W' : World} (h : Below W.heap.size W W') : KeepsOthers W W' := ⟨h.size, fun k o hk _ => (h.block k (Array.getElem?_eq_some_iff.1 hk).1).trans hk⟩
theorem keepsO_gone {W W' : World} {v : Value} {B n : Nat} {e : TypeId} {sz : Nat} {xs : List Value} (h : Gone W W' v) (hr : W.ownsRow B e sz v n xs) : KeepsOthers W W' := ⟨h.size, fun k o hk ho => (h.block k (Array.getElem?_eq_some_iff.1 hk).1 (fun q => by
  rcases hr.2 with ⟨q1, _⟩ | ⟨g, cap, cur, q1, _, h2, _⟩
  · rw [q1] at q; cases q
  · rw [q1] at q
    have e1 : g = k := Option.some.inj q
    rw [e1, hk] at h2
    obtain rfl := Option.some.inj h2
    cases ho)).trans hk⟩
theorem fix_gone {K : Nat → Prop} {W W' : World} {v : Value} (h : Gone W W' v) (hv : ∀ k, v.ownBlock = some k → ¬ K k) : Fix K W W' := ⟨h.size, fun i hi hl => h.block i hl (fun q => hv i q hi)⟩

set_option maxRecDepth 100000 in
set_option maxHeartbeats 4000000 in
theorem goes_c {gf : Nat} {lb : Array Value} (henter : ∀ args w, (callFunc gf args).run Try.prog w = .ok (.enter gf args) w) {K : Nat → Prop} {os ls : List Ord} {ps : List Nat} {lvs : List Value} {nv lv : Value} {Bn : Nat} {w : World} (hK : ∀ i, K i → i < w.heap.size)
    (hseq : ∀ V, Below w.heap.size w V → SeqW 3 Try.prog gf lb encO K (fun xs => xs.length = os.length) (fun pre => pre.length ≤ os.length) (fun pre x W => NxO ps os V.heap.size pre x W) V)
    (hn : w.ownsRow Bn 3 1 nv os.length (placeV ps)) (hl : OrdsIn w lv ls lvs) (hlen : ls.length = os.length) (hsame : ∀ i, i < os.length → sameO (os.getD i (zeroO 0)) (ls.getD i (zeroO 0)) = true) (hlim : os.length ≤ 1000000) (hof : ∀ o ∈ os, o.offs.length ≤ 64 ∧ ∀ x ∈ o.offs, x.1 < 4294967296) (leave : Int) :
    Calls Try.prog 32 #[.func (.func gf) #[] lb, nv, lv, .int .i64 leave] w fun e w' => e = .returned (.bool true) ∧ Below w.heap.size w w' := by
  obtain ⟨pn, cn, e⟩ := own_any hn
  subst e
  obtain ⟨pl, cl, e⟩ := hl.val
  subst e
  rw [hlen] at hl
  rw [hlen]
  have HL := hide hl
  have HN := hide hn
  have HSAME := hide hsame
  have HLEN := hide hlen
  have HOF := hide hof
  have HSQ := hide hseq
  have HK := hide hK
  have HLIM := hide hlim
  obtain ⟨V, hV⟩ : ∃ V, V = ((((w.alloc (.cells #[.slice pn os.length cn] 51)).alloc (.cells #[.slice pl os.length cl] 32)).alloc (.cells #[.int .i64 leave] 3)).alloc (.cells #[.bool false] 4)).alloc (.cells #[.int .i64 0] 3) := ⟨_, rfl⟩
  have hbV : Below w.heap.size w V := by
    have q1 : Below w.heap.size w (w.alloc (.cells #[.slice pn os.length cn] 51)) := (Below.refl _ _).alloc (Nat.le_refl _) _
    have q2 := q1.alloc q1.size (.cells #[.slice pl os.length cl] 32)
    have q3 := q2.alloc q2.size (.cells #[.int .i64 leave] 3)
    have q4 := q3.alloc q3.size (.cells #[.bool false] 4)
    rw [hV]; exact q4.alloc q4.size _
  obtain ⟨A0, h0⟩ : ∃ q, q = w.heap.size := ⟨_, rfl⟩
  obtain ⟨A1, h1⟩ : ∃ q, q = w.heap.size + 1 := ⟨_, rfl⟩
  obtain ⟨A2, h2⟩ : ∃ q, q = w.heap.size + 1 + 1 := ⟨_, rfl⟩
  obtain ⟨R, h3⟩ : ∃ q, q = w.heap.size + 1 + 1 + 1 := ⟨_, rfl⟩
  obtain ⟨N, h4⟩ : ∃ q, q = w.heap.size + 1 + 1 + 1 + 1 := ⟨_, rfl⟩
  have zV : V.heap.size = w.heap.size + 5 := by rw [hV]; simp
  have ZS := hide (show w.heap.size = A0 ∧ A1 = A0 + 1 ∧ A2 = A0 + 2 ∧ R = A0 + 3 ∧ N = A0 + 4 ∧ V.heap.size = A0 + 5 from ⟨by omega, by omega, by omega, by omega, by omega, by omega⟩)
  clear zV
  have b0 : V.cell? ⟨A0, 0, none⟩ = some (.slice pn os.length cn) := by rw [hV, h0]; simp [go_sem]
  have b1 : V.cell? ⟨A1, 0, none⟩ = some (.slice pl os.length cl) := by rw [hV, h1]; simp [go_sem]
  have b2 : V.cell? ⟨A2, 0, none⟩ = some (.int .i64 leave) := by rw [hV, h2]; simp [go_sem]
  have b3 : V.cell? ⟨R, 0, none⟩ = some (.bool false) := by rw [hV, h3]; simp [go_sem]
  have f3 : V.frozen? ⟨R, 0, none⟩ = false := by rw [hV, h3]; simp [go_sem]
  have b4 : V.cell? ⟨N, 0, none⟩ = some (.int .i64 0) := by rw [hV, h4]; simp [go_sem]
  have f4 : V.frozen? ⟨N, 0, none⟩ = false := by rw [hV, h4]; simp [go_sem]
  have HB0 := hide b0
  have HB1 := hide b1
  have HB2 := hide b2
  have HB3 := hide (And.intro b3 f3)
  have HBV := hide hbV
  have HV := hide hV
  have HH := hide (And.intro h0 (And.intro h1 (And.intro h2 (And.intro h3 h4))))
  have HRI0 := hide (show RI V N 0 V from ⟨⟨rfl, rfl, rfl, Nat.le_refl _, fun _ _ _ => rfl⟩, b4, f4⟩)
  have Q1 := eql59 gf
  clear hl hn hsame hlen hof hseq hK hlim hV hbV b0 b1 b2 b3 f3 b4 f4 h0 h1 h2 h3 h4
  refine (callsIn_wide (n := 4)).1 ?_
  refine callsIn_of_wp_marks Try.func32 rfl trivial ?_ rfl
  simp only [Try.ntmps32, List.size_toArray, List.length_cons, List.length_nil, Nat.reduceAdd, Nat.reduceSub, Array.replicate_succ, Array.replicate_zero, List.push_toArray, List.append_toArray, List.nil_append, List.cons_append]
  refine (wpIn_wide (n := 4)).2 ?_
  go_wp2_with fail
  rw [← HV.out, ← HH.out.2.2.2.2, ← HH.out.2.2.2.1, ← HH.out.2.2.1, ← HH.out.2.1, ← HH.out.1]
  have HSV := hide (HSQ.out V HBV.out)
  have HKV := hide (fun i (hi : K i) => show i < A0 from by have := HK.out i hi; have := ZS.out; omega)
  have HLV := hide (HL.out.below HBV.out)
  have HNV := hide (own_below HN.out HBV.out)
  clear Q1 HH HV HSQ HK
  have HOLD := hide (fun (m : Int) (Y : World) (h : RI V N m Y) => show Below A0 w Y ∧ (∀ b, b < V.heap.size → b ≠ N → Y.heap[b]? = V.heap[b]?) from ⟨(HBV.out.mono (by have := ZS.out; omega)).trans ⟨h.g.os, h.g.tape, h.g.output, h.g.size, fun i hi => h.old (by have := ZS.out; omega) (by have := ZS.out; omega)⟩, fun b hb hne => h.old hb hne⟩)
  refine (wpIn_wide (n := 4)).1 ?_
  refine range_L (n := 4) (by decide) (gf := gf) (lb := lb) rfl henter HSV.out (fun i hi => by have := HKV.out i hi; have := ZS.out; omega) (Below.refl _ _) (fun _ => rfl)
    (fun pre Y => RI V N (pre.length : Int) Y ∧ pre.length ≤ os.length ∧ (leave ≤ 0 ∨ (pre.length : Int) < leave))
    (fun c _ Y => c = .ret ∧ Below w.heap.size w Y ∧ Y.cell? ⟨R, 0, none⟩ = some (.bool true))
    (fun pre Y Z hs hb => ⟨hs.1.later (by have := ZS.out; omega) hb, hs.2⟩)
    (fun c pre Y Z hs hb => ⟨hs.1, hs.2.1.trans (hb.mono (by have := ZS.out; omega)), cell_stay hs.2.2 (hb.block _ (by have := ZS.out; omega))⟩)
    ⟨HRI0.out, Nat.zero_le _, by simp; omega⟩
    (fun pre x a' Y => NxO ps os V.heap.size pre x Y ∧ ∃ bx, V.heap.size ≤ bx ∧ BoxO Y bx x.2.1 x.2.2 ∧ x.2.2.ownBlock ≠ some bx ∧ a' = { tmps := #[Value.func (Fn.func gf) #[] lb, Value.slice pn os.length cn, Value.slice pl os.length cl, Value.int IntKind.i64 leave, undef, Value.pointer (some ⟨A0, 0, none⟩), Value.pointer (some ⟨A1, 0, none⟩), Value.pointer (some ⟨A2, 0, none⟩), Value.pointer (some ⟨R, 0, none⟩), Value.pointer (some ⟨N, 0, none⟩), Value.int .i64 (x.1 : Int), Value.pointer (some ⟨bx, 0, none⟩), Value.func (Fn.func gf) #[] lb, Value.bool false, Value.func (Fn.func gf) #[] lb, Value.int .i64 (x.1 : Int), .agg (ordCells x.2.1 x.2.2).toArray, undef, undef, undef, undef, undef, undef, undef, undef, undef, undef, undef, undef, undef, undef, undef, undef, undef, undef, undef, undef, undef, undef, undef, undef, undef, undef, undef, undef, undef, undef, undef, undef], defers := [] })
    (fun pre x a' Y o lp hl hx => ?_) ?assign ?body ?done ?stop
  · obtain ⟨⟨q1, q2, q3, q4⟩, bx, q5, q6, q7, q8⟩ := hx
    exact ⟨⟨q1, q2, q3, own_same q4 (fun k hk _ => World.putObj_heap_other (row_noloop q4 hl k hk))⟩, bx, q5, q6.stays (World.putObj_heap_other (box_noloop q6 hl)), q7, q8⟩
  case assign =>
    rintro l pre ⟨pl2, o, ov⟩ Y K' ⟨hRI, hpl, hinv⟩ hN hlt hK'
    obtain ⟨pv, cv, e⟩ := own_any hN.2.2.2
    simp only at e
    subst e
    have HK' := hide hK'
    have HNX := hide hN
    have HRI := hide hRI
    have HPL := hide hpl
    have HIN := hide hinv
    clear hK' hN hRI hpl hinv hlt
    unfold encO
    gi_wp2_with (refine wpListIn_store_mid rfl 29 _ _ rfl Y.heap.size 0 (ordCells o (.slice pv o.offs.length cv)).toArray rfl ?_ ?_ ?_ ?_ ?_; exact rfl; exact alloc_there Y o (.slice pv o.offs.length cv); kernel_rfl; kernel_rfl)
    obtain ⟨Y2, hY2⟩ : ∃ W4, W4 = (Y.alloc (.cells #[Value.int .i64 0, .string ⟨#[]⟩, .int .i64 0, .int .i64 0, .int .i64 0, .int .i64 0, .int .i64 0, .int .i64 0, .int .i64 0, .int .i64 0, .int .i64 0, .int .i64 0, .int .i64 0, .int .i64 0, .int .i64 0, .int .i64 0, .slice none 0 0, .int .i64 0] 29)).setCells Y.heap.size 0 (ordCells o (.slice pv o.offs.length cv)) := ⟨_, rfl⟩
    have hb2 : Below Y.heap.size Y Y2 := by rw [hY2]; exact below_sets (Nat.le_refl _) _ _ _ ((Below.refl _ _).alloc (Nat.le_refl _) _)
    have hby : BoxO Y2 Y.heap.size o (.slice pv o.offs.length cv) := by rw [hY2]; exact (box_made Y (zeroO 0) _).set _ _
    rw [show (Y.alloc (.cells #[Value.int .i64 0, .string ⟨#[]⟩, .int .i64 0, .int .i64 0, .int .i64 0, .int .i64 0, .int .i64 0, .int .i64 0, .int .i64 0, .int .i64 0, .int .i64 0, .int .i64 0, .int .i64 0, .int .i64 0, .int .i64 0, .int .i64 0, .slice none 0 0, .int .i64 0] 29)).setCells Y.heap.size 0 (ordCells o (.slice pv o.offs.length cv)).toArray.toList = Y2 from hY2.symm]
    obtain ⟨q1, q2, q3, q4⟩ := HNX.out
    have hzY := HRI.out.g.size
    exact HK'.out _ _ (keepsO_below hb2) (Fix.of_below hb2) ⟨HRI.out.later (by have := ZS.out; omega) (hb2.mono hzY), HPL.out, HIN.out⟩ ⟨⟨q1, q2, q3, own_below q4 hb2⟩, Y.heap.size, hzY, hby, fun e => by have := (q4.lt _ e).2; omega, rfl⟩
  case body =>
    rintro l pre ⟨pl2, o, ov⟩ a' Y ⟨hRI, hpl, hinv⟩ hlt2 ⟨⟨hx0, hx1, hx2, hx3⟩, bx, hbx, hbox, hne, rfl⟩
    simp only at hx1 hx2 hx3 hbox hne
    obtain ⟨pv, cv, e⟩ := own_any hx3
    subst e
    obtain ⟨m, hm⟩ : ∃ m, m = pre.length := ⟨_, rfl⟩
    have HKK := hide (show (pre ++ [((pl2, o, Value.slice pv o.offs.length cv) : Tld)]).length = m + 1 by rw [hm]; simp)
    rw [← hm] at hRI hpl hinv hx0 hx1 hx2
    obtain ⟨hbW, hold⟩ := HOLD.out _ _ hRI
    have zs := ZS.out
    rw [← zs.1] at hbW
    obtain ⟨ba, oa, pb, cb, e1, eb, hba, ra, ia⟩ := HL.out.at_j (j := m) (by rw [HLEN.out]; exact hx0)
    subst e1
    obtain ⟨B, hB⟩ : ∃ B, B = ls.getD m (zeroO 0) := ⟨_, rfl⟩
    rw [← hB] at ra ia
    have hsm := HSAME.out m hx0
    rw [← hx2, ← hB] at hsm
    obtain ⟨gp, e2, hgp, cgp⟩ := place_at (own_below HN.out hbW) hx0
    subst e2
    rw [← hx1] at cgp
    have hoo := HOF.out o (by rw [hx2, List.getD_eq_getElem?_getD, List.getElem?_eq_getElem hx0]; exact List.getElem_mem hx0)
    have cm := hRI.at_
    have ca1 := cell_stay HB1.out (hold A1 (by omega) (by omega))
    have ca0 := cell_stay HB0.out (hold A0 (by omega) (by omega))
    have zl : N < Y.heap.size := World.block_lt_of_cell? Y _ cm
    have SK := hide (fun (wq : World) (h : Below Y.heap.size Y wq) => (show wq.cell? ⟨N, 0, none⟩ = some (.int .i64 (m : Int)) ∧ wq.cell? ⟨A1, 0, none⟩ = some (.slice (some ⟨ba, oa, none⟩) os.length cl) ∧ wq.cell? ⟨A0, 0, none⟩ = some (.slice (some ⟨gp, 0, none⟩) os.length cn) ∧ wq.cell? ⟨gp, m, none⟩ = some (.int .i64 (pl2 : Int)) ∧ wq.rangeAt bx 0 (ordCells o (.slice pv o.offs.length cv)) ∧ wq.rangeAt ba (oa + m * 18) (ordCells B (.slice pb B.offs.length cb)) from ⟨cell_stay cm (h.block _ zl), cell_stay ca1 (h.block _ (World.block_lt_of_cell? Y _ ca1)), cell_stay ca0 (h.block _ (World.block_lt_of_cell? Y _ ca0)), cell_stay cgp (h.block _ hgp), (hbox.below h).range, ra _ (bstep hbW h)⟩))
    have C21 := hide (fun (wq : World) (h : Below Y.heap.size Y wq) => (show Calls Try.prog 21 #[.agg (ordCells o (.slice pv o.offs.length cv)).toArray, .agg (ordCells B (.slice pb B.offs.length cb)).toArray] wq (fun e w' => e = .returned (.bool true) ∧ Below wq.heap.size wq w') from by
      have q := Same_c o B (.slice pv o.offs.length cv) (.slice pb B.offs.length cb) wq (OffsIn.of_own (own_below hx3 h) hoo.2 (by have := hoo.1; omega)) (ia.below (bstep hbW h))
      rw [hsm] at q; exact q))
    have HRI := hide hRI
    have HROW := hide hx3
    have HBOX := hide hbox
    have HIN := hide hinv
    have HOO := hide hoo
    have HX0 := hide hx0
    have HZ := hide zs
    have ca2 := hide (cell_stay HB2.out (hold A2 (by omega) (by omega)))
    have cr := hide (And.intro (cell_stay HB3.out.1 (hold R (by omega) (by omega))) (fro_stay HB3.out.2 (hold R (by omega) (by omega))))
    have hm0 : (0 : Int) ≤ (m : Int) := by omega
    have hmI : (m : Int) < (os.length : Int) := by omega
    have hm9 : m < 1000000 := by have := HLIM.out; omega
    have n1 : ((pl2 : Int) != (pl2 : Int)) = false := by simp
    have n2 : decide ((os.length : Int) ≤ (m : Int)) = false := by (rw [decide_eq_false_iff_not]; omega)
    have n3 : decide (os.length ≤ m) = false := by (rw [decide_eq_false_iff_not]; omega)
    have n4 : ¬ os.length ≤ m := by omega
    clear hm hx0 hx1 hx2 hx3 hbox hne hRI hpl hinv hbW hold zs hba ra ia hB hsm hgp cgp hoo cm ca1 ca0 zl eb hlt2
    gi_wp2_with fail
    refine wpIn_regionX (fun wq => wq.cell? ⟨N, 0, none⟩ = some (.int .i64 (m : Int)) ∧ wq.cell? ⟨A1, 0, none⟩ = some (.slice (some ⟨ba, oa, none⟩) os.length cl) ∧ wq.cell? ⟨A0, 0, none⟩ = some (.slice (some ⟨gp, 0, none⟩) os.length cn) ∧ wq.cell? ⟨gp, m, none⟩ = some (.int .i64 (pl2 : Int)) ∧ wq.rangeAt bx 0 (ordCells o (.slice pv o.offs.length cv)) ∧ wq.rangeAt ba (oa + m * 18) (ordCells B (.slice pb B.offs.length cb))) (fun n => true) (by kernel_rfl) (SK.out _ (drewB _)) (fun hH0 => ?_)
    have B0 := hide (drewB Y)
    obtain ⟨wd, hwd⟩ : ∃ q, q = Y.drew := ⟨_, rfl⟩
    rw [← hwd] at B0 hH0
    rw [← hwd]
    clear hwd
    refine wpAnyXI_take (by kernel_rfl) (i := 0) (oi := ?oi0) (v := ?v0) ?ho0 (by kernel_rfl) (by kernel_rfl) (by kernel_rfl) (by kernel_rfl) (by kernel_rfl) ?hp0 ?hy0 ?ha0 hH0 ?hr0
    case ho0 => (simp only [List.getElem?_toArray, List.getElem?_cons_succ, List.getElem?_cons_zero]; exact rfl)
    case hp0 => exact fun _ _ _ h => h
    case ha0 => exact fun _ => rfl
    case hy0 => (refine Or.inl ⟨by rfl, ?_⟩; intro w hSw; (try dsimp only at hSw); (try go_split_ands); go_simp; (try (with_reducible rfl)))
    case hr0 =>
    (try simp only [Act.put, List.setIfInBounds_toArray, List.set_cons_zero, List.set_cons_succ])
    refine wpAnyXI_take (by kernel_rfl) (i := 1) (oi := ?oi1) (v := ?v1) ?ho1 (by kernel_rfl) (by kernel_rfl) (by kernel_rfl) (by kernel_rfl) (by kernel_rfl) ?hp1 ?hy1 ?ha1 hH0 ?hr1
    case ho1 => (simp only [List.getElem?_toArray, List.getElem?_cons_succ, List.getElem?_cons_zero]; exact rfl)
    case hp1 => exact fun _ _ _ h => h
    case ha1 => exact fun _ => rfl
    case hy1 => (refine Or.inl ⟨by rfl, ?_⟩; intro w hSw; (try dsimp only at hSw); (try go_split_ands); go_simp; (try (with_reducible rfl)))
    case hr1 =>
    (try simp only [Act.put, List.setIfInBounds_toArray, List.set_cons_zero, List.set_cons_succ])
    refine wpAnyXI_take (by kernel_rfl) (i := 2) (oi := ?oi2) (v := ?v2) ?ho2 (by kernel_rfl) (by kernel_rfl) (by kernel_rfl) (by kernel_rfl) (by kernel_rfl) ?hp2 ?hy2 ?ha2 hH0 ?hr2
    case ho2 => (simp only [List.getElem?_toArray, List.getElem?_cons_succ, List.getElem?_cons_zero]; exact rfl)
    case hp2 => exact fun _ _ _ h => h
    case ha2 => exact fun _ => rfl
    case hy2 => (refine Or.inl ⟨by rfl, ?_⟩; intro w hSw; (try dsimp only at hSw); (try go_split_ands); go_simp; (try (with_reducible rfl)))
    case hr2 =>
    (try simp only [Act.put, List.setIfInBounds_toArray, List.set_cons_zero, List.set_cons_succ])
    refine wpAnyXI_take (by kernel_rfl) (i := 3) (oi := ?oi3) (v := ?v3) ?ho3 (by kernel_rfl) (by kernel_rfl) (by kernel_rfl) (by kernel_rfl) (by kernel_rfl) ?hp3 ?hy3 ?ha3 hH0 ?hr3
    case ho3 => (simp only [List.getElem?_toArray, List.getElem?_cons_succ, List.getElem?_cons_zero]; exact rfl)
    case hp3 => exact fun _ _ _ h => h
    case ha3 => exact fun _ => rfl
    case hy3 => (refine Or.inl ⟨by rfl, ?_⟩; intro w hSw; (try dsimp only at hSw); (try go_split_ands); go_simp; (try (with_reducible rfl)))
    case hr3 =>
    (try simp only [Act.put, List.setIfInBounds_toArray, List.set_cons_zero, List.set_cons_succ])
    refine wpAnyXI_take (by kernel_rfl) (i := 4) (oi := ?oi4) (v := ?v4) ?ho4 (by kernel_rfl) (by kernel_rfl) (by kernel_rfl) (by kernel_rfl) (by kernel_rfl) ?hp4 ?hy4 ?ha4 hH0 ?hr4
    case ho4 => (simp only [List.getElem?_toArray, List.getElem?_cons_succ, List.getElem?_cons_zero]; exact rfl)
    case hp4 => exact fun _ _ _ h => h
    case ha4 => exact fun _ => rfl
    case hy4 => (refine Or.inl ⟨by rfl, ?_⟩; intro w hSw; (try dsimp only at hSw); (try go_split_ands); go_simp; (try (with_reducible rfl)))
    case hr4 =>
    (try simp only [Act.put, List.setIfInBounds_toArray, List.set_cons_zero, List.set_cons_succ])
    refine wpAnyXI_take (by kernel_rfl) (i := 5) (oi := ?oi5) (v := ?v5) ?ho5 (by kernel_rfl) (by kernel_rfl) (by kernel_rfl) (by kernel_rfl) (by kernel_rfl) ?hp5 ?hy5 ?ha5 hH0 ?hr5
    case ho5 => (simp only [List.getElem?_toArray, List.getElem?_cons_succ, List.getElem?_cons_zero]; exact rfl)
    case hp5 => exact fun _ _ _ h => h
    case ha5 => exact fun _ => rfl
    case hy5 => (refine Or.inl ⟨by rfl, ?_⟩; intro w hSw; (try dsimp only at hSw); (try go_split_ands); go_simp; (try (with_reducible rfl)))
    case hr5 =>
    (try simp only [Act.put, List.setIfInBounds_toArray, List.set_cons_zero, List.set_cons_succ])
    refine wpAnyXI_take (by kernel_rfl) (i := 6) (oi := ?oi6) (v := ?v6) ?ho6 (by kernel_rfl) (by kernel_rfl) (by kernel_rfl) (by kernel_rfl) (by kernel_rfl) ?hp6 ?hy6 ?ha6 hH0 ?hr6
    case ho6 => (simp only [List.getElem?_toArray, List.getElem?_cons_succ, List.getElem?_cons_zero]; exact rfl)
    case hp6 => exact fun _ _ _ h => h
    case ha6 => exact fun _ => rfl
    case hy6 => (refine Or.inl ⟨by rfl, ?_⟩; intro w hSw; (try dsimp only at hSw); (try go_split_ands); go_simp; (try (with_reducible rfl)))
    case hr6 =>
    (try simp only [Act.put, List.setIfInBounds_toArray, List.set_cons_zero, List.set_cons_succ])
    refine wpAnyXI_take (by kernel_rfl) (i := 7) (oi := ?oi7) (v := ?v7) ?ho7 (by kernel_rfl) (by kernel_rfl) (by kernel_rfl) (by kernel_rfl) (by kernel_rfl) ?hp7 ?hy7 ?ha7 hH0 ?hr7
    case ho7 => (simp only [List.getElem?_toArray, List.getElem?_cons_succ, List.getElem?_cons_zero]; exact rfl)
    case hp7 => exact fun _ _ _ h => h
    case ha7 => exact fun _ => rfl
    case hy7 => (refine Or.inl ⟨by rfl, ?_⟩; intro w hSw; (try dsimp only at hSw); (try go_split_ands); go_simp; (try (with_reducible rfl)))
    case hr7 =>
    (try simp only [Act.put, List.setIfInBounds_toArray, List.set_cons_zero, List.set_cons_succ])
    refine wpAnyXI_take (by kernel_rfl) (i := 8) (oi := ?oi8) (v := ?v8) ?ho8 (by kernel_rfl) (by kernel_rfl) (by kernel_rfl) (by kernel_rfl) (by kernel_rfl) ?hp8 ?hy8 ?ha8 hH0 ?hr8
    case ho8 => (simp only [List.getElem?_toArray, List.getElem?_cons_succ, List.getElem?_cons_zero]; exact rfl)
    case hp8 => exact fun _ _ _ h => h
    case ha8 => exact fun _ => rfl
    case hy8 => (refine Or.inl ⟨by rfl, ?_⟩; intro w hSw; (try dsimp only at hSw); (try go_split_ands); go_simp; (try (with_reducible rfl)))
    case hr8 =>
    (try simp only [Act.put, List.setIfInBounds_toArray, List.set_cons_zero, List.set_cons_succ])
    refine wpAnyXI_take (by kernel_rfl) (i := 9) (oi := ?oi9) (v := ?v9) ?ho9 (by kernel_rfl) (by kernel_rfl) (by kernel_rfl) (by kernel_rfl) (by kernel_rfl) ?hp9 ?hy9 ?ha9 hH0 ?hr9
    case ho9 => (simp only [List.getElem?_toArray, List.getElem?_cons_succ, List.getElem?_cons_zero]; exact rfl)
    case hp9 => exact fun _ _ _ h => h
    case ha9 => exact fun _ => rfl
    case hy9 => (refine Or.inl ⟨by rfl, ?_⟩; intro w hSw; (try dsimp only at hSw); (try go_split_ands); go_simp; (try (with_reducible rfl)))
    case hr9 =>
    (try simp only [Act.put, List.setIfInBounds_toArray, List.set_cons_zero, List.set_cons_succ])
    refine wpAnyXI_take (by kernel_rfl) (i := 10) (oi := ?oi10) (v := ?v10) ?ho10 (by kernel_rfl) (by kernel_rfl) (by kernel_rfl) (by kernel_rfl) (by kernel_rfl) ?hp10 ?hy10 ?ha10 hH0 ?hr10
    case ho10 => (simp only [List.getElem?_toArray, List.getElem?_cons_succ, List.getElem?_cons_zero]; exact rfl)
    case hp10 => exact fun _ _ _ h => h
    case ha10 => exact fun _ => rfl
    case hy10 => (refine Or.inl ⟨by rfl, ?_⟩; intro w hSw; (try dsimp only at hSw); (try go_split_ands); go_simp; (try (with_reducible rfl)))
    case hr10 =>
    (try simp only [Act.put, List.setIfInBounds_toArray, List.set_cons_zero, List.set_cons_succ])
    refine wpAnyXI_take (by kernel_rfl) (i := 11) (oi := ?oi11) (v := ?v11) ?ho11 (by kernel_rfl) (by kernel_rfl) (by kernel_rfl) (by kernel_rfl) (by kernel_rfl) ?hp11 ?hy11 ?ha11 hH0 ?hr11
    case ho11 => (simp only [List.getElem?_toArray, List.getElem?_cons_succ, List.getElem?_cons_zero]; exact rfl)
    case hp11 => exact fun _ _ _ h => h
    case ha11 => exact fun _ => rfl
    case hy11 => (refine Or.inl ⟨by rfl, ?_⟩; intro w hSw; (try dsimp only at hSw); (try go_split_ands); go_simp; (try (with_reducible rfl)))
    case hr11 =>
    (try simp only [Act.put, List.setIfInBounds_toArray, List.set_cons_zero, List.set_cons_succ])
    refine wpAnyXI_take (by kernel_rfl) (i := 12) (oi := ?oi12) (v := ?v12) ?ho12 (by kernel_rfl) (by kernel_rfl) (by kernel_rfl) (by kernel_rfl) (by kernel_rfl) ?hp12 ?hy12 ?ha12 hH0 ?hr12
    case ho12 => (simp only [List.getElem?_toArray, List.getElem?_cons_succ, List.getElem?_cons_zero]; exact rfl)
    case hp12 => exact fun _ _ _ h => h
    case ha12 => exact fun _ => rfl
    case hy12 => (refine Or.inl ⟨by rfl, ?_⟩; intro w hSw; (try dsimp only at hSw); (try go_split_ands); go_simp; (try (with_reducible rfl)))
    case hr12 =>
    (try simp only [Act.put, List.setIfInBounds_toArray, List.set_cons_zero, List.set_cons_succ])
    refine wpAnyXI_take (by kernel_rfl) (i := 13) (oi := ?oi13) (v := ?v13) ?ho13 (by kernel_rfl) (by kernel_rfl) (by kernel_rfl) (by kernel_rfl) (by kernel_rfl) ?hp13 ?hy13 ?ha13 hH0 ?hr13
    case ho13 => (simp only [List.getElem?_toArray, List.getElem?_cons_succ, List.getElem?_cons_zero]; exact rfl)
    case hp13 => exact fun _ _ _ h => h
    case ha13 => exact fun _ => rfl
    case hy13 =>
      refine yieldsIf_load_mid ?_ 29 (.tmp 11) ?_ bx 0 ?_ (ordCells o (.slice pv o.offs.length cv)) _ ?_ Try.underlying29 ?_ ?_
      · rfl
      · exact rfl
      · exact rfl
      · exact (fun _ h => h.2.2.2.2.1)
      · rfl
      · rw [ordCells_len]; kernel_rfl
    case hr13 =>
    (try simp only [Act.put, List.setIfInBounds_toArray, List.set_cons_zero, List.set_cons_succ])
    refine wpAnyXI_take (by kernel_rfl) (i := 14) (oi := ?oi14) (v := ?v14) ?ho14 (by kernel_rfl) (by kernel_rfl) (by kernel_rfl) (by kernel_rfl) (by kernel_rfl) ?hp14 ?hy14 ?ha14 hH0 ?hr14
    case ho14 => (simp only [List.getElem?_toArray, List.getElem?_cons_succ, List.getElem?_cons_zero]; exact rfl)
    case hp14 => exact fun _ _ _ h => h
    case ha14 => exact fun _ => rfl
    case hy14 => (refine Or.inl ⟨by rfl, ?_⟩; intro w hSw; (try dsimp only at hSw); (try go_split_ands); go_simp; (try (with_reducible rfl)))
    case hr14 =>
    (try simp only [Act.put, List.setIfInBounds_toArray, List.set_cons_zero, List.set_cons_succ])
    refine wpAnyXI_take (by kernel_rfl) (i := 15) (oi := ?oi15) (v := ?v15) ?ho15 (by kernel_rfl) (by kernel_rfl) (by kernel_rfl) (by kernel_rfl) (by kernel_rfl) ?hp15 ?hy15 ?ha15 hH0 ?hr15
    case ho15 => (simp only [List.getElem?_toArray, List.getElem?_cons_succ, List.getElem?_cons_zero]; exact rfl)
    case hp15 => exact fun _ _ _ h => h
    case ha15 => exact fun _ => rfl
    case hy15 => (refine Or.inl ⟨by rfl, ?_⟩; intro w hSw; (try dsimp only at hSw); (try go_split_ands); go_simp; (try (with_reducible rfl)))
    case hr15 =>
    (try simp only [Act.put, List.setIfInBounds_toArray, List.set_cons_zero, List.set_cons_succ])
    refine wpAnyXI_take (by kernel_rfl) (i := 16) (oi := ?oi16) (v := ?v16) ?ho16 (by kernel_rfl) (by kernel_rfl) (by kernel_rfl) (by kernel_rfl) (by kernel_rfl) ?hp16 ?hy16 ?ha16 hH0 ?hr16
    case ho16 => (simp only [List.getElem?_toArray, List.getElem?_cons_succ, List.getElem?_cons_zero]; exact rfl)
    case hp16 => exact fun _ _ _ h => h
    case ha16 => exact fun _ => rfl
    case hy16 => (refine Or.inl ⟨by rfl, ?_⟩; intro w hSw; (try dsimp only at hSw); (try go_split_ands); go_simp; (try (with_reducible rfl)))
    case hr16 =>
    (try simp only [Act.put, List.setIfInBounds_toArray, List.set_cons_zero, List.set_cons_succ])
    refine wpAnyXI_take (by kernel_rfl) (i := 17) (oi := ?oi17) (v := ?v17) ?ho17 (by kernel_rfl) (by kernel_rfl) (by kernel_rfl) (by kernel_rfl) (by kernel_rfl) ?hp17 ?hy17 ?ha17 hH0 ?hr17
    case ho17 => (simp only [List.getElem?_toArray, List.getElem?_cons_succ, List.getElem?_cons_zero]; exact rfl)
    case hp17 => exact fun _ _ _ h => h
    case ha17 => exact fun _ => rfl
    case hy17 =>
      refine yieldsIf_load_mid ?_ 29 (.tmp 33) ?_ ba (oa + m * 18) ?_ (ordCells B (.slice pb B.offs.length cb)) _ ?_ Try.underlying29 ?_ ?_
      · rfl
      · exact rfl
      · exact rfl
      · exact (fun _ h => h.2.2.2.2.2)
      · rfl
      · rw [ordCells_len]; kernel_rfl
    case hr17 =>
    (try simp only [Act.put, List.setIfInBounds_toArray, List.set_cons_zero, List.set_cons_succ])
    refine wpAnyXI_pick (rs := [18]) (by kernel_rfl) (by simp) (AllXI.cons (o := ?oi18r) ?ho18r (fun K hK => ?hr18r) (AllXI.nil))
    case ho18r => (simp only [List.getElem?_toArray, List.getElem?_cons_succ, List.getElem?_cons_zero]; exact rfl)
    case hr18r =>
      go_simp
      refine ⟨trivial, ?_⟩
      refine (CallsIn.inRound l (callsIn_wide.2 (C21.out _ B0.out))).mono ?_
      rintro e w2 ⟨rfl, hb⟩
      have B1 := hide (bstep B0.out hb)
      clear hb
      refine hK.out _ _ (fun _ => SK.out _ B1.out) ?_
      clear hK K
      (try simp only [Act.put, List.setIfInBounds_toArray, List.set_cons_zero, List.set_cons_succ])
      have hH1 := SK.out _ B1.out
      refine wpAnyXI_take (by kernel_rfl) (i := 19) (oi := ?oi19) (v := ?v19) ?ho19 (by kernel_rfl) (by kernel_rfl) (by kernel_rfl) (by kernel_rfl) (by kernel_rfl) ?hp19 ?hy19 ?ha19 hH1 ?hr19
      case ho19 => (simp only [List.getElem?_toArray, List.getElem?_cons_succ, List.getElem?_cons_zero]; exact rfl)
      case hp19 => exact fun _ _ _ h => h
      case ha19 => exact fun _ => rfl
      case hy19 => (refine Or.inl ⟨by rfl, ?_⟩; intro w hSw; (try dsimp only at hSw); (try go_split_ands); go_simp; (try (with_reducible rfl)))
      case hr19 =>
      (try simp only [Act.put, List.setIfInBounds_toArray, List.set_cons_zero, List.set_cons_succ])
      refine wpAnyXI_take (by kernel_rfl) (i := 20) (oi := ?oi20) (v := ?v20) ?ho20 (by kernel_rfl) (by kernel_rfl) (by kernel_rfl) (by kernel_rfl) (by kernel_rfl) ?hp20 ?hy20 ?ha20 hH1 ?hr20
      case ho20 => (simp only [List.getElem?_toArray, List.getElem?_cons_succ, List.getElem?_cons_zero]; exact rfl)
      case hp20 => exact fun _ _ _ h => h
      case ha20 => exact fun _ => rfl
      case hy20 => (refine Or.inl ⟨by rfl, ?_⟩; intro w hSw; (try dsimp only at hSw); (try go_split_ands); go_simp; (try (with_reducible rfl)))
      case hr20 =>
      (try simp only [Act.put, List.setIfInBounds_toArray, List.set_cons_zero, List.set_cons_succ])
      refine wpAnyXI_done (by kernel_rfl) ?_ _
      have XB := hide (HBOX.out.below B1.out)
      have RW2 := hide (own_below HROW.out B1.out)
      gi_wp2_with (refine wpListIn_load_mid rfl 29 _ rfl bx 0 rfl (ordCells o (.slice pv o.offs.length cv)) _ ?_ Try.underlying29 rfl ?_ ?_; exact XB.out.range; (rw [ordCells_len]; kernel_rfl))
      have hVs : V.heap.size ≤ w2.heap.size := Nat.le_trans HRI.out.g.size B1.out.size
      refine ⟨trivial, ?_⟩
      refine (CallsIn.inRound l (callsIn_wide.2 (spoilt_c o (.slice pv o.offs.length cv) o.offs.length V.heap.size _ w2 RW2.out (by have := HOO.out.1; omega) hVs))).mono ?_
      rintro e Z ⟨rfl, hg, -⟩
      have hbYZ : Below V.heap.size Y Z := hg.below (B1.out.mono HRI.out.g.size) hVs (fun k hk => (RW2.out.lt k hk).1)
      have RU := HRI.out.later (by have := HZ.out; omega) hbYZ
      have cm := RU.at_
      have fm := RU.f
      have ca2z := cell_stay ca2.out (hbYZ.block A2 (by have := HZ.out; omega))
      have crz := cell_stay cr.out.1 (hbYZ.block R (by have := HZ.out; omega))
      have frz := fro_stay cr.out.2 (hbYZ.block R (by have := HZ.out; omega))
      have FIN := hide (show KeepsOthers Y (Z.setCell ⟨N, 0, none⟩ (.int .i64 ((m : Int) + 1))) ∧ Fix K Y (Z.setCell ⟨N, 0, none⟩ (.int .i64 ((m : Int) + 1))) ∧ RI V N ((m : Int) + 1) (Z.setCell ⟨N, 0, none⟩ (.int .i64 ((m : Int) + 1))) from
        ⟨((keepsO_below B1.out).trans (keepsO_gone hg RW2.out)).trans (KeepsOthers.setCell _ _ _), (⟨hbYZ.size, fun i hi _ => hbYZ.block i (by have := HKV.out i hi; have := HZ.out; omega)⟩ : Fix K Y Z).set (fun hi => by have := HKV.out _ hi; have := HZ.out; omega) _ _, RU.step _⟩)
      have HBW1 := hide (show Below w.heap.size w (Z.setCell ⟨N, 0, none⟩ (.int .i64 ((m : Int) + 1))) from by rw [HZ.out.1]; exact (HOLD.out _ _ FIN.out.2.2).1)
      have hN2 : N ≠ A2 := by have := HZ.out; omega
      have hA2 : A2 ≠ N := fun e => hN2 e.symm
      have hRN : R ≠ N := by have := HZ.out; omega
      clear hg hbYZ RU hVs
      by_cases hlv : (m : Int) + 1 = leave
      · have b1 : decide ((m : Int) + 1 = leave) = true := by simp [hlv]
        have b2 : ((m : Int) + 1 == leave) = true := by simp [hlv]
        have hNR : N ≠ R := by have := HZ.out; omega
        clear hlv
        gi_wp2_with fail
        refine ⟨(FIN.out.1.trans (KeepsOthers.setCell _ _ _)).from _, rfl, HBW1.out.setCell (p := ⟨R, 0, none⟩) (show w.heap.size ≤ R by have := HZ.out; omega) _, World.cell?_setCell_same' _ _ _ ?_⟩
        rw [World.cell?_setCell_other _ _ _ _ (by intro e; injection e with e _; exact hNR e), crz]; rfl
      · have b1 : decide ((m : Int) + 1 = leave) = false := by simp [hlv]
        have b2 : ((m : Int) + 1 == leave) = false := by simp [hlv]
        have HLV2 := hide (show leave ≤ 0 ∨ (m : Int) + 1 < leave from by have := HIN.out; omega)
        clear hlv
        gi_wp2_with fail
        exact ⟨FIN.out.1.from _, FIN.out.2.1, by rw [HKK.out]; exact FIN.out.2.2, by rw [HKK.out]; have := HX0.out; omega, by rw [HKK.out]; exact HLV2.out⟩
  case done =>
    rintro D ys Y hD hys ⟨hRI, -, -⟩ hKd
    rw [hys] at hRI
    obtain ⟨hbW, hold⟩ := HOLD.out _ _ hRI
    have zs := ZS.out
    rw [← zs.1] at hbW
    have cm := hRI.at_
    have ca1 := cell_stay HB1.out (hold A1 (by omega) (by omega))
    have cr := cell_stay HB3.out.1 (hold R (by omega) (by omega))
    have fr := fro_stay HB3.out.2 (hold R (by omega) (by omega))
    have HBW2 := hide hbW
    have HKD := hide hKd
    have HCR := hide cr
    have n1 : decide ((os.length : Int) = (os.length : Int)) = true := by simp
    have HDZ := hide (show w.heap.size ≤ D by omega)
    have HRZ := hide (show w.heap.size ≤ R by omega)
    clear hRI hys hKd hbW hold zs hD
    go_wp2_with fail
    have p1 : (Y.setCell ⟨R, 0, none⟩ (.bool true)).heap[D]? = some (.deferred (some [])) := (KeepsOthers.setCell Y ⟨R, 0, none⟩ (.bool true)).same D _ HKD.out rfl
    have hc1 := cell_kept (World.cell?_setCell_same' Y ⟨R, 0, none⟩ (.bool true) (by rw [HCR.out]; rfl)) (grownBy_putObj' _ D (.deferred none)) (fun r e => by cases e; exact ⟨_, p1, rfl⟩)
    refine ⟨by simp, .inl ⟨_, _, rfl, run_takeDeferred p1, ?_⟩⟩
    refine ⟨.bool true, ?_, rfl, (HBW2.out.setCell (p := ⟨R, 0, none⟩) HRZ.out _).trans (belowK_b (w := w) (Nat.le_refl _) _ D _ _ HDZ.out p1 rfl rfl)⟩
    simp [results, Try.f32, go_sem, hc1]
  case stop =>
    rintro D c pre Y hD - ⟨rfl, hbW, hcr⟩ hKd
    have HBW2 := hide hbW
    have HKD := hide hKd
    have HDZ := hide (show w.heap.size ≤ D by have := ZS.out; omega)
    have HCR := hide hcr
    clear hbW hKd hD hcr
    gi_wp2_with fail
    have hc1 := cell_kept HCR.out (grownBy_putObj' _ D (.deferred none)) (fun r e => by cases e; exact ⟨_, HKD.out, rfl⟩)
    refine ⟨by simp, .inl ⟨_, _, rfl, run_takeDeferred HKD.out, ?_⟩⟩
    refine ⟨.bool true, ?_, rfl, HBW2.out.trans (belowK_b (w := w) (Nat.le_refl _) _ D _ _ HDZ.out HKD.out rfl rfl)⟩
    simp [results, Try.f32, go_sem, hc1]
end Go.Proofs.Ytalnipjaekpbhaa
