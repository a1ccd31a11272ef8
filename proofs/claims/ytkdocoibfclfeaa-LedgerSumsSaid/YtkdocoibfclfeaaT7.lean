import Derived.StillTailTactics
import Derived.Deep.RegionLaw
import Derived.Maps.AppendAt
import Derived.Deep.AppendLies
import Derived.Laws.OwnMore
import Derived.Test.YtkdocoibfclfeaaT6
namespace Go.Proofs.Ytkdocoibfclfeaa
open Go.ChangeShapes Go.WideShapes Go.ChangeAt Go.RowKit Go.Deep Go.Maps Go.ChangeMaps Go.WideMaps
set_option linter.unusedSimpArgs false
set_option linter.unusedVariables false

open Classical in
noncomputable def mixF (A : List Acc) (p : List Ent) (left : Lit → Bool) : Lit → Option Value
  | .int .i64 x => if 0 ≤ x then (match A[x.toNat]? with | some a => some (if a.name ∈ names p ∧ left (.int .i64 x) = false then accV { a with has := a.has + sumOf p a.name } else accV a) | none => none) else none
  | _ => none
theorem lit_int (x : Lit) : (∃ y, x = .int .i64 y) ∨ ((∀ A, accAt A x = none) ∧ ∀ A p l, mixF A p l x = none) := by
  cases x <;> try exact .inr ⟨fun _ => rfl, fun _ _ _ => rfl⟩
  rename_i k y
  cases k <;> first | exact .inl ⟨y, rfl⟩ | exact .inr ⟨fun _ => rfl, fun _ _ _ => rfl⟩
open Classical in
theorem mixF_int (A : List Acc) (p : List Ent) (left : Lit → Bool) (y : Int) (hy : 0 ≤ y) : mixF A p left (.int .i64 y) = (match A[y.toNat]? with | some a => some (if a.name ∈ names p ∧ left (.int .i64 y) = false then accV { a with has := a.has + sumOf p a.name } else accV a) | none => none) := by
  simp only [mixF, if_pos hy]
theorem mixF_neg (A : List Acc) (p : List Ent) (left : Lit → Bool) (y : Int) (hy : ¬ 0 ≤ y) : mixF A p left (.int .i64 y) = none := by
  simp only [mixF, if_neg hy]
theorem accAt_pos (A : List Acc) (y : Int) (hy : 0 ≤ y) : accAt A (.int .i64 y) = (A[y.toNat]?).map accV := by simp only [accAt, if_pos hy]
theorem accAt_neg' (A : List Acc) (y : Int) (hy : ¬ 0 ≤ y) : accAt A (.int .i64 y) = none := by simp only [accAt, if_neg hy]
theorem mix_start (A : List Acc) (p : List Ent) (x : Lit) : accAt A x = mixF A p (fun kl => (behF A p kl).isSome) x := by
  rcases lit_int x with ⟨y, rfl⟩ | ⟨h1, h2⟩
  · by_cases hy : 0 ≤ y
    · rw [accAt_pos _ _ hy, mixF_int _ _ _ _ hy]
      cases ha : A[y.toNat]? with
      | none => rfl
      | some a =>
        show some (accV a) = some _
        rw [if_neg]
        rintro ⟨h1, h2⟩
        have := behF_at ha h1
        rw [show ((y.toNat : Nat) : Int) = y by omega] at this
        rw [this] at h2
        cases h2
    · rw [accAt_neg' _ _ hy, mixF_neg _ _ _ _ hy]
  · rw [h1, h2]
theorem mix_end (A : List Acc) (p : List Ent) {left : Lit → Bool} (h : ∀ kl, left kl = false) (x : Lit) : mixF A p left x = accAt (posted A p) x := by
  rcases lit_int x with ⟨y, rfl⟩ | ⟨h1, h2⟩
  · by_cases hy : 0 ≤ y
    · rw [accAt_pos _ _ hy, mixF_int _ _ _ _ hy]
      simp only [posted, List.getElem?_map]
      cases ha : A[y.toNat]? with
      | none => rfl
      | some a =>
        show some _ = some (accV _)
        by_cases e : a.name ∈ names p
        · rw [if_pos ⟨e, h _⟩]
        · rw [if_neg (fun q => e q.1)]
          show some (accV a) = some (accV ⟨a.name, a.least, a.has + sumOf p a.name⟩)
          rw [sumOf_out e, Int.add_zero]
    · rw [accAt_neg' _ _ hy, mixF_neg _ _ _ _ hy]
  · rw [h1, h2]
theorem mix_left {A : List Acc} {p : List Ent} {left : Lit → Bool} {n : Nat} {a : Acc} (ha : A[n]? = some a) (hl : left (.int .i64 (n : Int)) = true) : mixF A p left (.int .i64 (n : Int)) = some (accV a) := by
  simp [mixF, ha, hl]
theorem mix_step {A : List Acc} {p : List Ent} {left : Lit → Bool} {n : Nat} {a : Acc} (ha : A[n]? = some a) (hm : a.name ∈ names p) (x : Lit) :
    setAt (mixF A p left) (.int .i64 (n : Int)) (accV { a with has := a.has + sumOf p a.name }) x = mixF A p (fun z => left z && !z.sameKey (.int .i64 (n : Int))) x := by
  by_cases e : x = .int .i64 (n : Int)
  · subst e
    rw [setAt_same]
    have : (Lit.int .i64 (n : Int)).sameKey (.int .i64 (n : Int)) = true := WideAt.sameKey_self trivial
    simp [mixF, ha, hm, this]
  · rw [setAt_other _ _ e]
    rcases lit_int x with ⟨y, rfl⟩ | ⟨h1, h2⟩
    · by_cases hy : 0 ≤ y
      · rw [mixF_int _ _ _ _ hy, mixF_int _ _ _ _ hy]
        have : (Lit.int .i64 y).sameKey (.int .i64 (n : Int)) = false := sameKey_ne e
        have e2 : (left (.int .i64 y) && !(Lit.int .i64 y).sameKey (.int .i64 (n : Int))) = left (.int .i64 y) := by rw [this]; simp
        rw [e2]
      · rw [mixF_neg _ _ _ _ hy, mixF_neg _ _ _ _ hy]
    · rw [h2, h2]
theorem mix_some {A : List Acc} {p : List Ent} {left : Lit → Bool} {n : Nat} {a : Acc} (ha : A[n]? = some a) : (mixF A p left (.int .i64 (n : Int))).isSome = true := by simp [mixF, ha]
theorem mix_look {w : World} {m c : Nat} {A : List Acc} {p : List Ent} {left : Lit → Bool} (h : MapIs Try.prog 3 w m c (mixF A p left)) {i : Nat} {a : Acc} (hl : i < 9223372036854775808) (hi : A[i]? = some a) (hf : left (.int .i64 (i : Int)) = true) : Sem.run Try.prog (Instr.lookup 57 (.map (some m)) (.int .i64 (i : Int)) false) w = .ok (.agg #[.string a.name, .int .i64 a.least, .int .i64 a.has]) w := by
  rw [h.look law3 Try.underlying57 (zero70 w) (keyOf_int_mk Try.underlying3 (wf_small hl)), mix_left hi hf]; rfl
/-- the loop that writes back -/
structure PZ (A : List Acc) (p : List Ent) (F : Fp) (mh r cnt : Nat) (wx : World) (left : Lit → Bool) (c2 : Nat) (wr : World) : Prop where
  rg : Ranging Try.prog 3 wr mh r cnt (behF A p) left c2
  mm : MapIs Try.prog 3 wr F.m A.length (mixF A p left)
  gr : wx.grownBy wr (some F.m)
theorem PZ.next {A : List Acc} {p : List Ent} {F : Fp} {mh r cnt : Nat} {wx : World} {left left' : Lit → Bool} {c2 c3 : Nat} {wr w1 w2 w3 : World} (h : PZ A p F mh r cnt wx left c2 wr) (hr : Ranging Try.prog 3 w1 mh r cnt (behF A p) left' c3) (hg : wr.grownBy w1 (some r)) (hx : wx.heap.size ≤ r) (hrm : r ≠ F.m) (hmm : mh ≠ F.m)
    (hb : Below w1.heap.size w1 w2) (ht : w2.mapTurned w3 F.m) (hm : MapIs Try.prog 3 w3 F.m A.length (mixF A p left')) : PZ A p F mh r cnt wx left' c3 w3 := by
  have g := ht.grown
  have e1 : ∀ k, k < w1.heap.size → k ≠ F.m → w3.heap[k]? = w1.heap[k]? := fun k hk hne => (g.block k (Nat.lt_of_lt_of_le hk hb.size) (fun e => hne (Option.some.inj e))).trans (hb.block k hk)
  refine ⟨hr.stays (e1 _ hr.map.lt hmm) (e1 _ hr.lt hrm), hm, ?_⟩
  refine ⟨g.os.trans (hb.os.trans (hg.os.trans h.gr.os)), g.tape.trans (hb.tape.trans (hg.tape.trans h.gr.tape)), g.output.trans (hb.output.trans (hg.output.trans h.gr.output)), Nat.le_trans h.gr.size (Nat.le_trans hg.size (Nat.le_trans hb.size g.size)), fun k hk hne => ?_⟩
  have hz := h.gr.size
  have hz1 := hg.size
  rw [e1 k (by omega) (fun e => hne (by rw [e])), hg.block k (by omega) (fun e => by have := Option.some.inj e; omega), h.gr.block k hk hne]

set_option maxHeartbeats 1000000 in
theorem Post_no (I : Nat → Prop) (F : Fp) (S : LS) (so : Option Addr) (cap : Nat) (p : List Ent) (w : World) (h : LObj I F S w) (hE : Ents so cap p w) (hS : Sound S.acc) (hm : mayE S.acc p ≠ 0) : Calls Try.prog 11 #[.pointer (some ⟨F.b, 0, none⟩), .slice so p.length cap] w fun e w' => e = .returned (.tuple #[.int .i64 0, .int .i64 (mayE S.acc p)]) ∧ Below w.heap.size w w' := by
  have H := hide h
  have HE := hide hE
  have HS := hide hS
  obtain ⟨c, hc⟩ : ∃ c, c = mayE S.acc p := ⟨_, rfl⟩
  rw [← hc] at hm ⊢
  have a1 : (c != 0) = true := by simpa using hm
  have a2 : (c == 0) = false := by (rw [beq_eq_false_iff_ne]; exact hm)
  have a3 : decide (c = 0) = false := by (rw [decide_eq_false_iff_not]; exact hm)
  have HC := hide hc
  clear h hE hS hc
  go_enter Try.func11, Try.ntmps11
  go_wp2_with (go_at_call 27; refine (behind_c I F S so cap p _ H.out HE.out HS.out).mono ?_; rintro e w1 ⟨v, rfl, hb1, -⟩; rw [← HC.out])
  refine bodyPost_ret (v := .tuple #[.int .i64 0, .int .i64 c]) (by simp [results, Try.f11, go_sem]) rfl ⟨rfl, hb1⟩

theorem info33 : (Try.prog.info? 33).map (fun i => (i.zero, i.size, i.bytes)) = some (some (.slice none 0 0), 1, 24) := by kernel_rfl
def PostPost (I : Nat → Prop) (F : Fp) (S : LS) (p : List Ent) (w : World) (e : Ending) (w' : World) : Prop := e = .returned (.tuple #[.int .i64 (S.posts.length : Int), .int .i64 0]) ∧ ∃ I' F', LObj I' F' ⟨posted S.acc p, S.posts ++ [p]⟩ w' ∧ Step I F w I' F' w'
theorem formed_of_may {A : List Acc} {p : List Ent} (h : mayE A p = 0) : 0 < p.length := by
  by_cases hf : Formed p
  · exact hf.1
  · rw [may_2 hf] at h; cases h
theorem formed_len {A : List Acc} {p : List Ent} (h : mayE A p = 0) : p.length ≤ 128 := by
  by_cases hf : Formed p
  · exact hf.2.1
  · rw [may_2 hf] at h; cases h
theorem drewB (w : World) : Below w.heap.size w w.drew := (Below.refl _ _).drew
theorem step_cell {w w' : World} {b o : Nat} {t : Obj} {v : Value} {r : Option Nat} (hg : (w.alloc t).grownBy w' r) (hc : w.cell? ⟨b, o, none⟩ = some v) (hf : w.frozen? ⟨b, o, none⟩ = false) (hr : r ≠ some b) : w'.cell? ⟨b, o, none⟩ = some v ∧ w'.frozen? ⟨b, o, none⟩ = false := by
  have hb := World.block_lt_of_cell? w _ hc
  have e : w'.heap[b]? = w.heap[b]? := (hg.block b (by simp; exact Nat.lt_succ_of_lt hb) (fun e => hr e.symm)).trans (Below.heap_alloc w t b hb)
  exact ⟨cell_stay hc e, fro_stay hf e⟩
theorem own_low {w : World} {base : Nat} {e : TypeId} {size : Nat} {v : Value} {n : Nat} {xs : List Value} (h : w.ownsRow base e size v n xs) : w.ownsRow 0 e size v n xs := ⟨h.1, h.2.imp id (fun ⟨g, cap, cur, a, b, r⟩ => ⟨g, cap, cur, a, Nat.zero_le _, r⟩)⟩
theorem Post_close {I : Nat → Prop} {F : Fp} {S : LS} {p : List Ent} {w wx wy w5 wn : World} {g5 cap5 g2 cap2 : Nat} {vs : List Value} {o : Obj} (h : LObj I F S w) (hb1 : Below w.heap.size w wx) (gr : wx.grownBy wy (some F.m)) (hm : MapIs Try.prog 3 wy F.m S.acc.length (accAt (posted S.acc p))) (hb5 : Below wy.heap.size wy w5)
    (own5 : w5.ownsRow wy.heap.size 63 2 (.slice (some ⟨g5, 0, none⟩) p.length cap5) p.length (flatE p)) (hg2 : (w5.alloc o).grownBy wn F.pv.ownBlock) (own2 : wn.ownsRow 0 33 1 (.slice (some ⟨g2, 0, none⟩) (S.posts.length + 1) cap2) (S.posts.length + 1) (vs ++ [.slice (some ⟨g5, 0, none⟩) p.length cap5]))
    (hl2 : F.pv.ownBlock = some g2 ∨ g2 = (w5.alloc o).heap.size) (hrow : w.ownsRow 0 33 1 F.pv S.posts.length vs) (hposts : ∀ (i : Nat) (p : List Ent), S.posts[i]? = some p → ∃ v, vs[i]? = some v ∧ PostRow I w v p) :
    ∃ I' F', LObj I' F' ⟨posted S.acc p, S.posts ++ [p]⟩ (wn.setCell ⟨F.b, 2, none⟩ (.slice (some ⟨g2, 0, none⟩) (S.posts.length + 1) cap2)) ∧ Step I F w I' F' (wn.setCell ⟨F.b, 2, none⟩ (.slice (some ⟨g2, 0, none⟩) (S.posts.length + 1) cap2)) := by
  have z1 := hb1.size
  have z2 := gr.size
  have z3 := hb5.size
  have z4 : w5.heap.size + 1 ≤ wn.heap.size := by have := hg2.size; simpa using this
  have hg5 := own5.lt g5 rfl
  have hg2w : g2 < wn.heap.size := (own2.lt g2 rfl).2
  obtain ⟨wf, hwf⟩ : ∃ wf, wf = wn.setCell ⟨F.b, 2, none⟩ (.slice (some ⟨g2, 0, none⟩) (S.posts.length + 1) cap2) := ⟨_, rfl⟩
  rw [← hwf]
  have zf : wf.heap.size = wn.heap.size := by rw [hwf]; simp
  have e1 : ∀ k, k < w.heap.size → k ≠ F.m → wy.heap[k]? = w.heap[k]? := fun k hk hne => (gr.block k (by omega) (fun e => hne (Option.some.inj e))).trans (hb1.block k hk)
  have e3 : ∀ k, k < w5.heap.size → F.pv.ownBlock ≠ some k → wn.heap[k]? = w5.heap[k]? := fun k hk hne => (hg2.block k (by simp; omega) (fun e => hne e.symm)).trans (Below.heap_alloc _ _ _ hk)
  have e4 : ∀ k, k ≠ F.b → wf.heap[k]? = wn.heap[k]? := fun k hk => by rw [hwf]; exact heap_setCell_other _ _ _ _ hk
  have e5 : ∀ k, k < wy.heap.size → F.pv.ownBlock ≠ some k → k ≠ F.b → wf.heap[k]? = wy.heap[k]? := fun k hk h1 h2 => (e4 k h2).trans ((e3 k (by omega) h1).trans (hb5.block k hk))
  have e6 : ∀ k, k < w.heap.size → k ≠ F.m → F.pv.ownBlock ≠ some k → k ≠ F.b → wf.heap[k]? = w.heap[k]? := fun k hk h1 h2 h3 => (e5 k (by omega) h2 h3).trans (e1 k hk h1)
  have ap := h.ap
  have lb := h.lt (.inl rfl)
  have lt_ := h.lt (.inr (.inl rfl))
  have la := h.lt (.inr (.inr (.inl rfl)))
  have lm := h.lt (.inr (.inr (.inr (.inl rfl))))
  have pb : F.pv.ownBlock ≠ some F.b := fun e => (ap.p _ e).1 rfl
  have pt : F.pv.ownBlock ≠ some F.t := fun e => (ap.p _ e).2.1 rfl
  have pa : F.pv.ownBlock ≠ some F.a := fun e => (ap.p _ e).2.2.1 rfl
  have pm : F.pv.ownBlock ≠ some F.m := fun e => (ap.p _ e).2.2.2 rfl
  have eb : wn.heap[F.b]? = w.heap[F.b]? := (e3 _ (by omega) pb).trans ((hb5.block _ (by omega)).trans (e1 _ lb ap.bm))
  have et : wf.heap[F.t]? = w.heap[F.t]? := e6 _ lt_ ap.tm pt ap.bt.symm
  have ea : wf.heap[F.a]? = w.heap[F.a]? := e6 _ la ap.am pa ap.ba.symm
  have em : wf.heap[F.m]? = wy.heap[F.m]? := e5 _ (by omega) pm ap.bm.symm
  have n0 := cell_stay h.b0 eb
  have n1 := cell_stay h.b1 eb
  have n2 := cell_stay h.b2 eb
  have g2F : ∀ k, F.own k ∨ I k → g2 = k → F.pv.ownBlock = some k := by
    intro k hk e
    subst e
    rcases hl2 with q | q
    · exact q
    · have := hk.elim (fun q2 => h.lt q2) (fun q2 => h.ilt _ q2)
      simp at q
      omega
  have g5F : ∀ k, F.own k ∨ I k → g5 ≠ k := by
    intro k hk e
    have := hk.elim (fun q2 => h.lt q2) (fun q2 => h.ilt _ q2)
    omega
  have g25 : g2 ≠ g5 := by
    rcases hl2 with q | q
    · intro e
      exact g5F g2 (.inl (.inr (.inr (.inr (.inr (.inr q)))))) e.symm
    · simp at q; omega
  refine ⟨fun k => I k ∨ k = g5, { F with pv := .slice (some ⟨g2, 0, none⟩) (S.posts.length + 1) cap2 }, ?_, ?_⟩
  · refine ⟨?_, ?_, ?_, ?_, cell_stay h.t0 et, cell_stay h.t1 et, cell_stay h.t2 et, fro_stay h.tf et, ?_, ⟨vs ++ [.slice (some ⟨g5, 0, none⟩) p.length cap5], ?_, ?_⟩, ?_, ?_, ?_, ?_, ?_⟩
    · rw [hwf]; simp [go_sem, n0, n2, Value.oneCell']
    · rw [hwf]; simp [go_sem, n1, n2, Value.oneCell']
    · rw [hwf]; simp [go_sem, n2, Value.oneCell']
    · intro o; rw [hwf, World.frozen?_setCell]; exact fro_stay (h.bf o) eb
    · show wf.ownsRow 0 9 1 F.lv (posted S.acc p).length ((nms (posted S.acc p)).map Value.string)
      rw [posted_nms, show (posted S.acc p).length = S.acc.length by simp [posted]]
      exact own_stays h.lr (fun k hk => by
        have q := ap.l k hk
        exact e6 k ((h.lr.lt k hk).2) q.2.2.2.1 q.2.2.2.2 q.1)
    · show wf.ownsRow 0 33 1 _ (S.posts ++ [p]).length _
      rw [show (S.posts ++ [p]).length = S.posts.length + 1 by simp]
      refine own_stays own2 (fun k hk => ?_)
      have hk' : g2 = k := Option.some.inj hk
      exact e4 k (fun e => pb (g2F _ (.inl (.inl rfl)) (hk'.trans e)))
    · intro i q hq
      have hlv : vs.length = S.posts.length := by have := hrow.1; omega
      rcases (by omega : i < S.posts.length ∨ i = S.posts.length ∨ S.posts.length < i) with hi | hi | hi
      · have hq' : S.posts[i]? = some q := by
          have := hq
          rw [show ((⟨posted S.acc p, S.posts ++ [p]⟩ : LS).posts)[i]? = (S.posts ++ [p])[i]? from rfl, List.getElem?_append_left hi] at this
          exact this
        obtain ⟨v, v1, v2, v3⟩ := hposts i q hq'
        refine ⟨v, by rw [List.getElem?_append_left (by omega)]; exact v1, own_stays v2 (fun k hk => ?_), fun k hk => .inl (v3 k hk)⟩
        have hik := v3 k hk
        have hni : ∀ k, F.own k → ¬ I k := h.imm
        exact e6 k (h.ilt k hik) (fun e => hni _ (.inr (.inr (.inr (.inl rfl)))) (e ▸ hik)) (fun e => hni k (.inr (.inr (.inr (.inr (.inr e))))) hik) (fun e => hni _ (.inl rfl) (e ▸ hik))
      · subst hi
        have hq' : q = p := by
          have := hq
          rw [show ((⟨posted S.acc p, S.posts ++ [p]⟩ : LS).posts)[S.posts.length]? = (S.posts ++ [p])[S.posts.length]? from rfl, List.getElem?_append_right (Nat.le_refl _)] at this
          simp at this
          exact this.symm
        subst hq'
        refine ⟨.slice (some ⟨g5, 0, none⟩) q.length cap5, by rw [List.getElem?_append_right (by omega)]; simp [hlv], ?_, fun k hk => .inr (Option.some.inj hk).symm⟩
        refine own_stays (own_low own5) (fun k hk => ?_)
        have hk' : g5 = k := Option.some.inj hk
        subst hk'
        exact (e4 _ (fun e => g5F _ (.inl (.inl rfl)) e)).trans (e3 _ hg5.2 (fun e => g5F _ (.inl (.inr (.inr (.inr (.inr (.inr e)))))) rfl))
      · have := hq
        rw [show ((⟨posted S.acc p, S.posts ++ [p]⟩ : LS).posts)[i]? = (S.posts ++ [p])[i]? from rfl, List.getElem?_eq_none (by simp; omega)] at this
        cases this
    · show MapIs Try.prog 9 wf F.a (posted S.acc p).length (nameAt (nms (posted S.acc p)))
      rw [posted_nms, show (posted S.acc p).length = S.acc.length by simp [posted]]
      exact h.am.stays (by omega) ea
    · show MapIs Try.prog 3 wf F.m (posted S.acc p).length (accAt (posted S.acc p))
      rw [show (posted S.acc p).length = S.acc.length by simp [posted]]
      exact hm.stays (by omega) em
    · refine ⟨ap.bt, ap.ba, ap.bm, ap.ta, ap.tm, ap.am, fun k hk => ?_, fun k hk => ?_⟩
      · have q := ap.l k hk
        exact ⟨q.1, q.2.1, q.2.2.1, q.2.2.2.1, fun e => q.2.2.2.2 (g2F k (.inl (.inr (.inr (.inr (.inr (.inl hk)))))) (Option.some.inj e))⟩
      · have hk' : g2 = k := Option.some.inj hk
        exact ⟨fun e => pb (g2F _ (.inl (.inl rfl)) (hk'.trans e)), fun e => pt (g2F _ (.inl (.inr (.inl rfl))) (hk'.trans e)), fun e => pa (g2F _ (.inl (.inr (.inr (.inl rfl)))) (hk'.trans e)), fun e => pm (g2F _ (.inl (.inr (.inr (.inr (.inl rfl))))) (hk'.trans e))⟩
    · intro k hk hi
      rcases hi with hi | hi
      · rcases hk with q | q | q | q | q | q
        · exact h.imm k (.inl q) hi
        · exact h.imm k (.inr (.inl q)) hi
        · exact h.imm k (.inr (.inr (.inl q))) hi
        · exact h.imm k (.inr (.inr (.inr (.inl q)))) hi
        · exact h.imm k (.inr (.inr (.inr (.inr (.inl q))))) hi
        · have := g2F k (.inr hi) (Option.some.inj q)
          exact h.imm k (.inr (.inr (.inr (.inr (.inr this))))) hi
      · subst hi
        rcases hk with q | q | q | q | q | q
        · exact g5F _ (.inl (.inl rfl)) q
        · exact g5F _ (.inl (.inr (.inl rfl))) q
        · exact g5F _ (.inl (.inr (.inr (.inl rfl)))) q
        · exact g5F _ (.inl (.inr (.inr (.inr (.inl rfl))))) q
        · exact g5F _ (.inl (.inr (.inr (.inr (.inr (.inl q)))))) rfl
        · exact g25 (Option.some.inj q)
    · intro k hk
      rcases hk with hk | rfl
      · have := h.ilt k hk; omega
      · omega
  · refine ⟨?_, ?_, ?_, by omega, fun k hk hn => ?_, fun k hk => ?_, fun k hk => .inl hk, fun k hk hn => ?_, rfl, rfl, rfl, rfl⟩
    · rw [hwf]; exact hg2.os.trans (hb5.os.trans (gr.os.trans hb1.os))
    · rw [hwf]; exact hg2.tape.trans (hb5.tape.trans (gr.tape.trans hb1.tape))
    · rw [hwf]; exact hg2.output.trans (hb5.output.trans (gr.output.trans hb1.output))
    · exact e6 k hk (fun e => hn (.inr (.inr (.inr (.inl e))))) (fun e => hn (.inr (.inr (.inr (.inr (.inr e)))))) (fun e => hn (.inl e))
    · rcases hk with q | q | q | q | q | q
      · exact .inl (.inl q)
      · exact .inl (.inr (.inl q))
      · exact .inl (.inr (.inr (.inl q)))
      · exact .inl (.inr (.inr (.inr (.inl q))))
      · exact .inl (.inr (.inr (.inr (.inr (.inl q)))))
      · have hk' : g2 = k := Option.some.inj q
        rcases hl2 with q2 | q2
        · exact .inl (.inr (.inr (.inr (.inr (.inr (by rw [← hk']; exact q2))))))
        · simp at q2; right; omega
    · rcases hk with hk | hk
      · exact absurd hk hn
      · subst hk; omega
set_option maxRecDepth 100000 in
set_option maxHeartbeats 4000000 in
theorem Post_yes (I : Nat → Prop) (F : Fp) (S : LS) (so : Option Addr) (cap : Nat) (p : List Ent) (w : World) (h : LObj I F S w) (hE : Ents so cap p w) (hS : Sound S.acc) (hm : mayE S.acc p = 0) (hP : S.posts.length ≤ 1048576) (hem : ∀ ad j, so = some ad → (ad.add j).block ≠ F.m) : Calls Try.prog 11 #[.pointer (some ⟨F.b, 0, none⟩), .slice so p.length cap] w (PostPost I F S p w) := by
  have H := hide h
  have HE := hide hE
  have HS := hide hS
  have HM := hide hm
  have hfm : F.m < w.heap.size := h.lt (.inr (.inr (.inr (.inl rfl))))
  have hfb : F.b < w.heap.size := h.lt (.inl rfl)
  have ONE1 := hide (show ∀ (x : Value) (n c : Nat) (a : Option Addr), x = .slice a n c → ∀ u ∈ [x], u.oneCell' = true from fun x n c a e u hu => by simp at hu; subst hu; rw [e]; rfl)
  have HNB := hide (show F.pv.ownBlock ≠ some F.b from fun e => (h.ap.p _ e).1 rfl)
  have HEM := hide hem
  clear h hE hS hm hem
  go_enter Try.func11, Try.ntmps11
  go_wp2_with (first
    | (go_at_call 27; refine (behind_c I F S so cap p _ H.out HE.out HS.out).mono ?_; rintro e wx ⟨v, rfl, hb1, hok⟩; rw [HM.out]; obtain ⟨mh, cnt, rfl, hmh, hcn, hmp⟩ := hok HM.out; have HMP := hide hmp; have HB1 := hide hb1; have HMH := hide hmh; have HCN := hide hcn; clear hok hmp hmh hcn hb1)
    | (at_range; refine wpList_range_is _ rfl _ 75 rfl 3 2 law3 Try.underlying75 mh cnt _ rfl HMP.out ?_; intro w0 hrg0 hg0 hs0))
  have HX0 := hide (show PZ S.acc p F mh wx.heap.size cnt wx (fun kl => (behF S.acc p kl).isSome) cnt w0 from ⟨hrg0, ((H.out.mm.stays (Nat.le_trans HB1.out.size hg0.size) ((hg0.block F.m (Nat.lt_of_lt_of_le hfm HB1.out.size) (fun e => by cases e)).trans (HB1.out.block F.m hfm))).ext (mix_start _ _)), hg0.but _⟩)
  have hzx := HB1.out.size
  have HNE := hide (show wx.heap.size ≠ F.m ∧ mh ≠ F.m from ⟨by omega, by have := HMH.out; omega⟩)
  clear hrg0 hg0 hs0
  go_frame
  go_loopw [8] (fun _ wy => ∃ left c2, PZ S.acc p F mh wx.heap.size cnt wx left c2 wy) (fun _ wy => wy.rangeLeft mh wx.heap.size)
  case atStart => exact ⟨_, _, HX0.out⟩
  case round =>
    obtain ⟨left, c2, hz⟩ := hrel
    have HZ := hide hz
    clear hz
    go_wp2_with (at_next; refine wpList_next_ii _ rfl _ rfl 3 law3 Try.underlying3 mh wx.heap.size cnt _ _ _ rfl HZ.out.rg (fun kl v q => by obtain ⟨n, a, -, -, -, rfl⟩ := behF_inv q; exact ⟨_, rfl⟩) ?_ ?_)
    · intro _ hl0
      have HL0 := hide hl0
      clear hl0
      have HMW := hide (HZ.out.mm.ext (mix_end S.acc p HL0.out))
      obtain ⟨wy, hwy⟩ : ∃ wy, wy = wr := ⟨_, rfl⟩
      rw [← hwy] at HZ HMW ⊢
      clear hwy
      have hzr := HZ.out.gr.size
      have HBB := hide (show wy.heap[F.b]? = w.heap[F.b]? from (HZ.out.gr.block F.b (by omega) (fun e => H.out.ap.bm (Option.some.inj e))).trans (HB1.out.block _ hfb))
      obtain ⟨vs, hrow, hposts⟩ := H.out.pr
      obtain ⟨pa, pc, hpv⟩ := own_any hrow
      have HPV := hide hpv
      have HROW := hide hrow
      have HPOSTS := hide hposts
      have hb2 : wy.cell? ⟨F.b, 2, none⟩ = some (.slice pa S.posts.length pc) := by rw [← HPV.out]; exact cell_stay H.out.b2 HBB.out
      have hf2 : wy.frozen? ⟨F.b, 2, none⟩ = false := fro_stay (H.out.bf 2) HBB.out
      have hpos := (formed_of_may HM.out)
      clear hrow hposts hpv
      have hbz : F.b < wy.heap.size := by omega
      go_wp2
      obtain ⟨i0, hi0, hy0, hy1, hy2⟩ := info_parts info33
      have HEY := hide (show Ents so cap p wy from HE.out.stays (fun ad j e hk => by
        have hne : (ad.add j).block ≠ F.m := fun q => HEM.out ad j e q
        exact (HZ.out.gr.block _ (by omega) (fun q => hne (Option.some.inj q))).trans (HB1.out.block _ hk)))
      have HOY := hide (show wy.ownsRow 0 33 1 (.slice pa S.posts.length pc) S.posts.length vs from by
        have q := HROW.out
        refine own_stays (w := w) (by rw [← HPV.out]; exact q) (fun k hk => ?_)
        rw [← HPV.out] at hk
        have hkz := (q.lt k hk).2
        exact (HZ.out.gr.block k (by omega) (fun e => (H.out.ap.p k hk).2.2.2 (Option.some.inj e))).trans (HB1.out.block _ hkz))
      have hl0 := formed_len HM.out
      go_region_law
        (first
          | (refine step_append_lies _ rfl _ _ 23 rfl 0 33 i0 (.slice none 0 0) 1 24 Try.underlying23 hi0 hy0 hy1 hy2 rfl (by decide) (.slice pa S.posts.length pc) S.posts.length vs (by simp [Act.eval, Act.put]) (own_stays HOW.out (fun k hk => Below.heap_alloc _ _ _ (HOW.out.lt k hk).2)) ⟨w5.heap.size, 0, none⟩ 1 1 [.slice (some ⟨g5, 0, none⟩) p.length cap5] (by simp [Act.eval, Act.put]) (by simp) (cell_one_new _ _ _) (ONE1.out _ _ _ _ rfl) (by decide) (by unfold maxLen; omega) (by omega) (Nat.zero_le _) _ rfl ?_; intro g2 cap2 wn hown2 hg2 hgl2 hlt2; have HO2 := hide hown2; have HG2 := hide hg2; have HGL2 := hide hgl2; have f2 := step_cell hg2 fq5 ff5 (by rw [← HPV.out]; exact HNB.out); clear hown2 hg2 hgl2)
          | (go_simp; go_at_call 28; (apply Calls.mono; focus (exact (Clone_c so cap p _ (by omega) (HEY.out.below (drewB _))))); rintro e w5 ⟨vf, rfl, ownf, hb5⟩; obtain ⟨g5, cap5, rfl, hg5, hg5z⟩ := ownf.form hpos; have OF := hide ownf; have HW5 := hide (bstep (drewB _) hb5); have hz5 : F.b < w5.heap.size := Nat.lt_of_lt_of_le hbz HW5.out.size; have fq5 := cell_stay hb2 (HW5.out.block _ hbz); have ff5 := fro_stay hf2 (HW5.out.block _ hbz); have HOW := hide (own_stays HOY.out (fun k hk => HW5.out.block _ (HOY.out.lt k hk).2)); clear ownf hb5))
      all_goals
        go_wp2
        refine bodyPost_ret (v := .tuple #[.int .i64 (S.posts.length : Int), .int .i64 0]) (by simp [results, Try.f11, go_sem]) rfl ⟨rfl, ?_⟩
        exact Post_close H.out HB1.out HZ.out.gr HMW.out HW5.out (by simpa using OF.out) (by rw [HPV.out]; exact HG2.out) HO2.out (by rw [HPV.out]; exact HGL2.out) HROW.out HPOSTS.out
    · intro x cc w1 cnt1 hwx hlx hfx hrg1 hlt1 hg1 hs1 hen
      have HRG := hide hrg1
      have HLT := hide hlt1
      have HLX := hide hlx
      have HG1 := hide hg1
      obtain ⟨n, a, hxn, han, hnm, hval⟩ := behF_inv hfx
      obtain rfl : x = (n : Int) := by simpa using hxn
      obtain rfl : cc = a.has + sumOf p a.name := by simpa using hval
      have HAN := hide han
      have HNM := hide hnm
      have hgw := grown_trans (World.grownBy.mk HZ.out.gr.os HZ.out.gr.tape HZ.out.gr.output HZ.out.gr.size HZ.out.gr.block : wx.grownBy wr (some F.m)) (World.grownBy.mk rfl rfl rfl (Nat.le_refl _) (fun _ _ _ => rfl) : wr.grownBy wr (some F.m))
      have hne := HNE.out
      have hzr := HZ.out.gr.size
      have hbm1 : w1.heap[F.m]? = wr.heap[F.m]? := hg1.block F.m (by omega) (fun e => hne.1 (Option.some.inj e).symm)
      have hbb1 : w1.heap[F.b]? = wr.heap[F.b]? := hg1.block F.b (by omega) (fun e => by have := Option.some.inj e; omega)
      have hbb2 : wr.heap[F.b]? = wx.heap[F.b]? := HZ.out.gr.block F.b (by omega) (fun e => H.out.ap.bm (Option.some.inj e))
      have hb1 : w1.cell? ⟨F.b, 1, none⟩ = some (.map (some F.m)) := cell_stay (cell_stay (cell_stay H.out.b1 (HB1.out.block _ hfb)) hbb2) hbb1
      have HMM1 := hide (show MapIs Try.prog 3 w1 F.m S.acc.length (mixF S.acc p left) from HZ.out.mm.stays hg1.size hbm1)
      have HN6 := hide (show n < 9223372036854775808 by
        have := (List.getElem?_eq_some_iff.1 han).1
        have q := HS.out.few
        omega)
      have HLN := hide (show S.acc.length < maxLen by have := HS.out.few; unfold maxLen; omega)
      have ql := mix_look HMM1.out HN6.out HAN.out HLX.out
      have hz1 : F.b < w1.heap.size := by have := hg1.size; omega
      clear hfx hxn hval han hnm hrg1 hlt1 hlx hg1 hs1 hgw hne hbm1 hbb1 hbb2
      obtain ⟨cv, hcv⟩ : ∃ cv, cv = a.has + sumOf p a.name := ⟨_, rfl⟩
      rw [← hcv] at hen ⊢
      have HCV := hide hcv
      clear hcv
      go_wp2
      obtain ⟨wz, hwz⟩ : ∃ wz, wz = w1.alloc (.cells #[.string a.name, .int .i64 a.least, .int .i64 cv] 70) := ⟨_, rfl⟩
      have z0 : wz.cell? ⟨w1.heap.size, 0, none⟩ = some (.string a.name) := by rw [hwz]; simp [go_sem]
      have z1 : wz.cell? ⟨w1.heap.size, 1, none⟩ = some (.int .i64 a.least) := by rw [hwz]; simp [go_sem]
      have z2 : wz.cell? ⟨w1.heap.size, 2, none⟩ = some (.int .i64 cv) := by rw [hwz]; simp [go_sem]
      have zb : wz.cell? ⟨F.b, 1, none⟩ = some (.map (some F.m)) := by rw [hwz]; exact cell_stay hb1 (Below.heap_alloc _ _ _ hz1)
      have HBZ := hide (show Below w1.heap.size w1 wz by rw [hwz]; (focus repeat' (first | (with_reducible exact Below.refl _ _) | (with_reducible assumption) | (with_reducible refine Below.alloc ?_ ?_ _) | (with_reducible refine Below.drew ?_) | (with_reducible refine bdrewN ?_ _) | (with_reducible refine Below.setCell ?_ ?_ _) | (first | (with_reducible exact Nat.le_refl _) | (with_reducible assumption) | omega | (simp; omega) | (simp; done)))))
      rw [← hwz]
      clear hwz hb1
      go_still_tail 6, (by kernel_rfl)
      (at_mapUpdate; refine wpList_mapUpdate_is _ rfl _ _ _ 57 rfl 3 70 law3 Try.underlying57 F.m S.acc.length (mixF S.acc p left) rfl (HMM1.out.stays HBZ.out.size (HBZ.out.block _ HMM1.out.lt)) HLN.out _ _ _ rfl rfl (keyOf_int_mk Try.underlying3 (wf_small HN6.out)) ?_; intro w3 hm3 ht3)
      (try go_frame)
      rw [mix_some HAN.out, if_pos rfl] at hm3
      have HM3 := hide hm3
      have HT3 := hide ht3
      clear hm3 ht3 ql z0 z1 z2 zb
      go_wp2
      go_roundw
      case rel =>
        have hm := HM3.out
        rw [HCV.out] at hm
        exact ⟨_, _, HZ.out.next HRG.out HG1.out (Nat.le_refl _) HNE.out.1 HNE.out.2 (w2 := wz.drew) ⟨HBZ.out.os, HBZ.out.tape, HBZ.out.output, HBZ.out.size, HBZ.out.block⟩ HT3.out (hm.ext (mix_step HAN.out HNM.out))⟩
      case measure =>
        have q := (HZ.out.next HRG.out HG1.out (Nat.le_refl _) HNE.out.1 HNE.out.2 (w2 := wz.drew) ⟨HBZ.out.os, HBZ.out.tape, HBZ.out.output, HBZ.out.size, HBZ.out.block⟩ HT3.out (by have hm := HM3.out; rw [HCV.out] at hm; exact hm.ext (mix_step HAN.out HNM.out))).rg.left_eq
        rw [q, HZ.out.rg.left_eq]; exact HLT.out
end Go.Proofs.Ytkdocoibfclfeaa
