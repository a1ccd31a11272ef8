/- Contracts of the layer's functions, each proved once, in the order in which they are used. No condition beyond each theorem's own. -/
import Derived.StillTailTactics
import Derived.Deep.RegionLaw
import Derived.Maps.AppendAt
import Derived.Deep.AppendLies
import Derived.Laws.OwnMore
import Derived.Test.YtkdocoibfclfeaaMa
import Derived.WalkKit
import Derived.ProofKit
import Derived.OpenShut
import Derived.Deep.RegionWith
import Derived.Deep.Fields
import Derived.Below
import Derived.RangeFuncNested
import Derived.RangeFuncBound
import Derived.RangeFuncCalls
import Derived.RangeFuncLeaves
import Derived.RangeFuncFrom
import Derived.Shelf.Abstract
import Derived.Shelf.RegionOpen
import Derived.OwnWalkIn
import Derived.TacticsInMore
import Derived.LoopNIn
import Derived.LoopIn
import Derived.Sort.LoopGhostIn
import Derived.RangeFuncWrites
namespace Go.Proofs.Ytkdocoibfclfeaa
open Go.ChangeShapes Go.WideShapes Go.ChangeAt Go.RowKit Go.Deep Go.Maps Go.ChangeMaps Go.WideMaps
set_option linter.unusedSimpArgs false
set_option linter.unusedVariables false

open Classical in
noncomputable def mixF (A : List Acc) (p : List Ent) (left : Lit → Bool) : Lit → Option Value
  | .int .i64 x => if 0 ≤ x then (match A[x.toNat]? with | some a => some (if a.name ∈ names p ∧ left (.int .i64 x) = false then accV { a with has := a.has + sumOf p a.name } else accV a) | none => none) else none
  | _ => none
theorem lit_int (x : Lit) : (∃ y, x = .int .i64 y) ∨ ((∀ A, accAt A x = none) ∧ ∀ A p l, mixF A p l x = none) := by
  cases x <;> try exact .inr ⟨fun _ => rfl, fun _ _ _ => rfl⟩
  rename_i k y
  cases k <;> first | exact .inl ⟨y, rfl⟩ | exact .inr ⟨fun _ => rfl, fun _ _ _ => rfl⟩
open Classical in
theorem mixF_int (A : List Acc) (p : List Ent) (left : Lit → Bool) (y : Int) (hy : 0 ≤ y) : mixF A p left (.int .i64 y) = (match A[y.toNat]? with | some a => some (if a.name ∈ names p ∧ left (.int .i64 y) = false then accV { a with has := a.has + sumOf p a.name } else accV a) | none => none) := by
  simp only [mixF, if_pos hy]
theorem mixF_neg (A : List Acc) (p : List Ent) (left : Lit → Bool) (y : Int) (hy : ¬ 0 ≤ y) : mixF A p left (.int .i64 y) = none := by
  simp only [mixF, if_neg hy]
theorem accAt_pos (A : List Acc) (y : Int) (hy : 0 ≤ y) : accAt A (.int .i64 y) = (A[y.toNat]?).map accV := by simp only [accAt, if_pos hy]
theorem accAt_neg' (A : List Acc) (y : Int) (hy : ¬ 0 ≤ y) : accAt A (.int .i64 y) = none := by simp only [accAt, if_neg hy]
theorem mix_start (A : List Acc) (p : List Ent) (x : Lit) : accAt A x = mixF A p (fun kl => (behF A p kl).isSome) x := by
  rcases lit_int x with ⟨y, rfl⟩ | ⟨h1, h2⟩
  · by_cases hy : 0 ≤ y
    · rw [accAt_pos _ _ hy, mixF_int _ _ _ _ hy]
      cases ha : A[y.toNat]? with
      | none => rfl
      | some a =>
        show some (accV a) = some _
        rw [if_neg]
        rintro ⟨h1, h2⟩
        have := behF_at ha h1
        rw [show ((y.toNat : Nat) : Int) = y by omega] at this
        rw [this] at h2
        cases h2
    · rw [accAt_neg' _ _ hy, mixF_neg _ _ _ _ hy]
  · rw [h1, h2]
theorem mix_end (A : List Acc) (p : List Ent) {left : Lit → Bool} (h : ∀ kl, left kl = false) (x : Lit) : mixF A p left x = accAt (posted A p) x := by
  rcases lit_int x with ⟨y, rfl⟩ | ⟨h1, h2⟩
  · by_cases hy : 0 ≤ y
    · rw [accAt_pos _ _ hy, mixF_int _ _ _ _ hy]
      simp only [posted, List.getElem?_map]
      cases ha : A[y.toNat]? with
      | none => rfl
      | some a =>
        show some _ = some (accV _)
        by_cases e : a.name ∈ names p
        · rw [if_pos ⟨e, h _⟩]
        · rw [if_neg (fun q => e q.1)]
          show some (accV a) = some (accV ⟨a.name, a.least, a.has + sumOf p a.name⟩)
          rw [sumOf_out e, Int.add_zero]
    · rw [accAt_neg' _ _ hy, mixF_neg _ _ _ _ hy]
  · rw [h1, h2]
theorem mix_left {A : List Acc} {p : List Ent} {left : Lit → Bool} {n : Nat} {a : Acc} (ha : A[n]? = some a) (hl : left (.int .i64 (n : Int)) = true) : mixF A p left (.int .i64 (n : Int)) = some (accV a) := by
  simp [mixF, ha, hl]
theorem mix_step {A : List Acc} {p : List Ent} {left : Lit → Bool} {n : Nat} {a : Acc} (ha : A[n]? = some a) (hm : a.name ∈ names p) (x : Lit) :
    setAt (mixF A p left) (.int .i64 (n : Int)) (accV { a with has := a.has + sumOf p a.name }) x = mixF A p (fun z => left z && !z.sameKey (.int .i64 (n : Int))) x := by
  by_cases e : x = .int .i64 (n : Int)
  · subst e
    rw [setAt_same]
    have : (Lit.int .i64 (n : Int)).sameKey (.int .i64 (n : Int)) = true := WideAt.sameKey_self trivial
    simp [mixF, ha, hm, this]
  · rw [setAt_other _ _ e]
    rcases lit_int x with ⟨y, rfl⟩ | ⟨h1, h2⟩
    · by_cases hy : 0 ≤ y
      · rw [mixF_int _ _ _ _ hy, mixF_int _ _ _ _ hy]
        have : (Lit.int .i64 y).sameKey (.int .i64 (n : Int)) = false := sameKey_ne e
        have e2 : (left (.int .i64 y) && !(Lit.int .i64 y).sameKey (.int .i64 (n : Int))) = left (.int .i64 y) := by rw [this]; simp
        rw [e2]
      · rw [mixF_neg _ _ _ _ hy, mixF_neg _ _ _ _ hy]
    · rw [h2, h2]
theorem mix_some {A : List Acc} {p : List Ent} {left : Lit → Bool} {n : Nat} {a : Acc} (ha : A[n]? = some a) : (mixF A p left (.int .i64 (n : Int))).isSome = true := by simp [mixF, ha]
theorem mix_look {w : World} {m c : Nat} {A : List Acc} {p : List Ent} {left : Lit → Bool} (h : MapIs Try.prog 3 w m c (mixF A p left)) {i : Nat} {a : Acc} (hl : i < 9223372036854775808) (hi : A[i]? = some a) (hf : left (.int .i64 (i : Int)) = true) : Sem.run Try.prog (Instr.lookup 57 (.map (some m)) (.int .i64 (i : Int)) false) w = .ok (.agg #[.string a.name, .int .i64 a.least, .int .i64 a.has]) w := by
  rw [h.look law3 Try.underlying57 (zero70 w) (keyOf_int_mk Try.underlying3 (wf_small hl)), mix_left hi hf]; rfl
/-- the loop that writes back -/
structure PZ (A : List Acc) (p : List Ent) (F : Fp) (mh r cnt : Nat) (wx : World) (left : Lit → Bool) (c2 : Nat) (wr : World) : Prop where
  rg : Ranging Try.prog 3 wr mh r cnt (behF A p) left c2
  mm : MapIs Try.prog 3 wr F.m A.length (mixF A p left)
  gr : wx.grownBy wr (some F.m)
theorem PZ.next {A : List Acc} {p : List Ent} {F : Fp} {mh r cnt : Nat} {wx : World} {left left' : Lit → Bool} {c2 c3 : Nat} {wr w1 w2 w3 : World} (h : PZ A p F mh r cnt wx left c2 wr) (hr : Ranging Try.prog 3 w1 mh r cnt (behF A p) left' c3) (hg : wr.grownBy w1 (some r)) (hx : wx.heap.size ≤ r) (hrm : r ≠ F.m) (hmm : mh ≠ F.m)
    (hb : Below w1.heap.size w1 w2) (ht : w2.mapTurned w3 F.m) (hm : MapIs Try.prog 3 w3 F.m A.length (mixF A p left')) : PZ A p F mh r cnt wx left' c3 w3 := by
  have g := ht.grown
  have e1 : ∀ k, k < w1.heap.size → k ≠ F.m → w3.heap[k]? = w1.heap[k]? := fun k hk hne => (g.block k (Nat.lt_of_lt_of_le hk hb.size) (fun e => hne (Option.some.inj e))).trans (hb.block k hk)
  refine ⟨hr.stays (e1 _ hr.map.lt hmm) (e1 _ hr.lt hrm), hm, ?_⟩
  refine ⟨g.os.trans (hb.os.trans (hg.os.trans h.gr.os)), g.tape.trans (hb.tape.trans (hg.tape.trans h.gr.tape)), g.output.trans (hb.output.trans (hg.output.trans h.gr.output)), Nat.le_trans h.gr.size (Nat.le_trans hg.size (Nat.le_trans hb.size g.size)), fun k hk hne => ?_⟩
  have hz := h.gr.size
  have hz1 := hg.size
  rw [e1 k (by omega) (fun e => hne (by rw [e])), hg.block k (by omega) (fun e => by have := Option.some.inj e; omega), h.gr.block k hk hne]

set_option maxHeartbeats 1000000 in
theorem Post_no (I : Nat → Prop) (F : Fp) (S : LS) (so : Option Addr) (cap : Nat) (p : List Ent) (w : World) (h : LObj I F S w) (hE : Ents so cap p w) (hS : Sound S.acc) (hm : mayE S.acc p ≠ 0) : Calls Try.prog 11 #[.pointer (some ⟨F.b, 0, none⟩), .slice so p.length cap] w fun e w' => e = .returned (.tuple #[.int .i64 0, .int .i64 (mayE S.acc p)]) ∧ Below w.heap.size w w' := by
  have H := hide h
  have HE := hide hE
  have HS := hide hS
  obtain ⟨c, hc⟩ : ∃ c, c = mayE S.acc p := ⟨_, rfl⟩
  rw [← hc] at hm ⊢
  have a1 : (c != 0) = true := by simpa using hm
  have a2 : (c == 0) = false := by (rw [beq_eq_false_iff_ne]; exact hm)
  have a3 : decide (c = 0) = false := by (rw [decide_eq_false_iff_not]; exact hm)
  have HC := hide hc
  clear h hE hS hc
  go_enter Try.func11, Try.ntmps11
  go_wp2_with (go_at_call 27; refine (behind_c I F S so cap p _ H.out HE.out HS.out).mono ?_; rintro e w1 ⟨v, rfl, hb1, -⟩; rw [← HC.out])
  refine bodyPost_ret (v := .tuple #[.int .i64 0, .int .i64 c]) (by simp [results, Try.f11, go_sem]) rfl ⟨rfl, hb1⟩

theorem info33 : (Try.prog.info? 33).map (fun i => (i.zero, i.size, i.bytes)) = some (some (.slice none 0 0), 1, 24) := by kernel_rfl
def PostPost (I : Nat → Prop) (F : Fp) (S : LS) (p : List Ent) (w : World) (e : Ending) (w' : World) : Prop := e = .returned (.tuple #[.int .i64 (S.posts.length : Int), .int .i64 0]) ∧ ∃ I' F', LObj I' F' ⟨posted S.acc p, S.posts ++ [p]⟩ w' ∧ Step I F w I' F' w'
theorem formed_of_may {A : List Acc} {p : List Ent} (h : mayE A p = 0) : 0 < p.length := by
  by_cases hf : Formed p
  · exact hf.1
  · rw [may_2 hf] at h; cases h
theorem formed_len {A : List Acc} {p : List Ent} (h : mayE A p = 0) : p.length ≤ 128 := by
  by_cases hf : Formed p
  · exact hf.2.1
  · rw [may_2 hf] at h; cases h
theorem drewB (w : World) : Below w.heap.size w w.drew := (Below.refl _ _).drew
theorem step_cell {w w' : World} {b o : Nat} {t : Obj} {v : Value} {r : Option Nat} (hg : (w.alloc t).grownBy w' r) (hc : w.cell? ⟨b, o, none⟩ = some v) (hf : w.frozen? ⟨b, o, none⟩ = false) (hr : r ≠ some b) : w'.cell? ⟨b, o, none⟩ = some v ∧ w'.frozen? ⟨b, o, none⟩ = false := by
  have hb := World.block_lt_of_cell? w _ hc
  have e : w'.heap[b]? = w.heap[b]? := (hg.block b (by simp; exact Nat.lt_succ_of_lt hb) (fun e => hr e.symm)).trans (Below.heap_alloc w t b hb)
  exact ⟨cell_stay hc e, fro_stay hf e⟩
theorem own_low {w : World} {base : Nat} {e : TypeId} {size : Nat} {v : Value} {n : Nat} {xs : List Value} (h : w.ownsRow base e size v n xs) : w.ownsRow 0 e size v n xs := ⟨h.1, h.2.imp id (fun ⟨g, cap, cur, a, b, r⟩ => ⟨g, cap, cur, a, Nat.zero_le _, r⟩)⟩
theorem Post_close {I : Nat → Prop} {F : Fp} {S : LS} {p : List Ent} {w wx wy w5 wn : World} {g5 cap5 g2 cap2 : Nat} {vs : List Value} {o : Obj} (h : LObj I F S w) (hb1 : Below w.heap.size w wx) (gr : wx.grownBy wy (some F.m)) (hm : MapIs Try.prog 3 wy F.m S.acc.length (accAt (posted S.acc p))) (hb5 : Below wy.heap.size wy w5)
    (own5 : w5.ownsRow wy.heap.size 63 2 (.slice (some ⟨g5, 0, none⟩) p.length cap5) p.length (flatE p)) (hg2 : (w5.alloc o).grownBy wn F.pv.ownBlock) (own2 : wn.ownsRow 0 33 1 (.slice (some ⟨g2, 0, none⟩) (S.posts.length + 1) cap2) (S.posts.length + 1) (vs ++ [.slice (some ⟨g5, 0, none⟩) p.length cap5]))
    (hl2 : F.pv.ownBlock = some g2 ∨ g2 = (w5.alloc o).heap.size) (hrow : w.ownsRow 0 33 1 F.pv S.posts.length vs) (hposts : ∀ (i : Nat) (p : List Ent), S.posts[i]? = some p → ∃ v, vs[i]? = some v ∧ PostRow I w v p) :
    ∃ I' F', LObj I' F' ⟨posted S.acc p, S.posts ++ [p]⟩ (wn.setCell ⟨F.b, 2, none⟩ (.slice (some ⟨g2, 0, none⟩) (S.posts.length + 1) cap2)) ∧ Step I F w I' F' (wn.setCell ⟨F.b, 2, none⟩ (.slice (some ⟨g2, 0, none⟩) (S.posts.length + 1) cap2)) := by
  have z1 := hb1.size
  have z2 := gr.size
  have z3 := hb5.size
  have z4 : w5.heap.size + 1 ≤ wn.heap.size := by have := hg2.size; simpa using this
  have hg5 := own5.lt g5 rfl
  have hg2w : g2 < wn.heap.size := (own2.lt g2 rfl).2
  obtain ⟨wf, hwf⟩ : ∃ wf, wf = wn.setCell ⟨F.b, 2, none⟩ (.slice (some ⟨g2, 0, none⟩) (S.posts.length + 1) cap2) := ⟨_, rfl⟩
  rw [← hwf]
  have zf : wf.heap.size = wn.heap.size := by rw [hwf]; simp
  have e1 : ∀ k, k < w.heap.size → k ≠ F.m → wy.heap[k]? = w.heap[k]? := fun k hk hne => (gr.block k (by omega) (fun e => hne (Option.some.inj e))).trans (hb1.block k hk)
  have e3 : ∀ k, k < w5.heap.size → F.pv.ownBlock ≠ some k → wn.heap[k]? = w5.heap[k]? := fun k hk hne => (hg2.block k (by simp; omega) (fun e => hne e.symm)).trans (Below.heap_alloc _ _ _ hk)
  have e4 : ∀ k, k ≠ F.b → wf.heap[k]? = wn.heap[k]? := fun k hk => by rw [hwf]; exact heap_setCell_other _ _ _ _ hk
  have e5 : ∀ k, k < wy.heap.size → F.pv.ownBlock ≠ some k → k ≠ F.b → wf.heap[k]? = wy.heap[k]? := fun k hk h1 h2 => (e4 k h2).trans ((e3 k (by omega) h1).trans (hb5.block k hk))
  have e6 : ∀ k, k < w.heap.size → k ≠ F.m → F.pv.ownBlock ≠ some k → k ≠ F.b → wf.heap[k]? = w.heap[k]? := fun k hk h1 h2 h3 => (e5 k (by omega) h2 h3).trans (e1 k hk h1)
  have ap := h.ap
  have lb := h.lt (.inl rfl)
  have lt_ := h.lt (.inr (.inl rfl))
  have la := h.lt (.inr (.inr (.inl rfl)))
  have lm := h.lt (.inr (.inr (.inr (.inl rfl))))
  have pb : F.pv.ownBlock ≠ some F.b := fun e => (ap.p _ e).1 rfl
  have pt : F.pv.ownBlock ≠ some F.t := fun e => (ap.p _ e).2.1 rfl
  have pa : F.pv.ownBlock ≠ some F.a := fun e => (ap.p _ e).2.2.1 rfl
  have pm : F.pv.ownBlock ≠ some F.m := fun e => (ap.p _ e).2.2.2 rfl
  have eb : wn.heap[F.b]? = w.heap[F.b]? := (e3 _ (by omega) pb).trans ((hb5.block _ (by omega)).trans (e1 _ lb ap.bm))
  have et : wf.heap[F.t]? = w.heap[F.t]? := e6 _ lt_ ap.tm pt ap.bt.symm
  have ea : wf.heap[F.a]? = w.heap[F.a]? := e6 _ la ap.am pa ap.ba.symm
  have em : wf.heap[F.m]? = wy.heap[F.m]? := e5 _ (by omega) pm ap.bm.symm
  have n0 := cell_stay h.b0 eb
  have n1 := cell_stay h.b1 eb
  have n2 := cell_stay h.b2 eb
  have g2F : ∀ k, F.own k ∨ I k → g2 = k → F.pv.ownBlock = some k := by
    intro k hk e
    subst e
    rcases hl2 with q | q
    · exact q
    · have := hk.elim (fun q2 => h.lt q2) (fun q2 => h.ilt _ q2)
      simp at q
      omega
  have g5F : ∀ k, F.own k ∨ I k → g5 ≠ k := by
    intro k hk e
    have := hk.elim (fun q2 => h.lt q2) (fun q2 => h.ilt _ q2)
    omega
  have g25 : g2 ≠ g5 := by
    rcases hl2 with q | q
    · intro e
      exact g5F g2 (.inl (.inr (.inr (.inr (.inr (.inr q)))))) e.symm
    · simp at q; omega
  refine ⟨fun k => I k ∨ k = g5, { F with pv := .slice (some ⟨g2, 0, none⟩) (S.posts.length + 1) cap2 }, ?_, ?_⟩
  · refine ⟨?_, ?_, ?_, ?_, cell_stay h.t0 et, cell_stay h.t1 et, cell_stay h.t2 et, fro_stay h.tf et, ?_, ⟨vs ++ [.slice (some ⟨g5, 0, none⟩) p.length cap5], ?_, ?_⟩, ?_, ?_, ?_, ?_, ?_⟩
    · rw [hwf]; simp [go_sem, n0, n2, Value.oneCell']
    · rw [hwf]; simp [go_sem, n1, n2, Value.oneCell']
    · rw [hwf]; simp [go_sem, n2, Value.oneCell']
    · intro o; rw [hwf, World.frozen?_setCell]; exact fro_stay (h.bf o) eb
    · show wf.ownsRow 0 9 1 F.lv (posted S.acc p).length ((nms (posted S.acc p)).map Value.string)
      rw [posted_nms, show (posted S.acc p).length = S.acc.length by simp [posted]]
      exact own_stays h.lr (fun k hk => by
        have q := ap.l k hk
        exact e6 k ((h.lr.lt k hk).2) q.2.2.2.1 q.2.2.2.2 q.1)
    · show wf.ownsRow 0 33 1 _ (S.posts ++ [p]).length _
      rw [show (S.posts ++ [p]).length = S.posts.length + 1 by simp]
      refine own_stays own2 (fun k hk => ?_)
      have hk' : g2 = k := Option.some.inj hk
      exact e4 k (fun e => pb (g2F _ (.inl (.inl rfl)) (hk'.trans e)))
    · intro i q hq
      have hlv : vs.length = S.posts.length := by have := hrow.1; omega
      rcases (by omega : i < S.posts.length ∨ i = S.posts.length ∨ S.posts.length < i) with hi | hi | hi
      · have hq' : S.posts[i]? = some q := by
          have := hq
          rw [show ((⟨posted S.acc p, S.posts ++ [p]⟩ : LS).posts)[i]? = (S.posts ++ [p])[i]? from rfl, List.getElem?_append_left hi] at this
          exact this
        obtain ⟨v, v1, v2, v3⟩ := hposts i q hq'
        refine ⟨v, by rw [List.getElem?_append_left (by omega)]; exact v1, own_stays v2 (fun k hk => ?_), fun k hk => .inl (v3 k hk)⟩
        have hik := v3 k hk
        have hni : ∀ k, F.own k → ¬ I k := h.imm
        exact e6 k (h.ilt k hik) (fun e => hni _ (.inr (.inr (.inr (.inl rfl)))) (e ▸ hik)) (fun e => hni k (.inr (.inr (.inr (.inr (.inr e))))) hik) (fun e => hni _ (.inl rfl) (e ▸ hik))
      · subst hi
        have hq' : q = p := by
          have := hq
          rw [show ((⟨posted S.acc p, S.posts ++ [p]⟩ : LS).posts)[S.posts.length]? = (S.posts ++ [p])[S.posts.length]? from rfl, List.getElem?_append_right (Nat.le_refl _)] at this
          simp at this
          exact this.symm
        subst hq'
        refine ⟨.slice (some ⟨g5, 0, none⟩) q.length cap5, by rw [List.getElem?_append_right (by omega)]; simp [hlv], ?_, fun k hk => .inr (Option.some.inj hk).symm⟩
        refine own_stays (own_low own5) (fun k hk => ?_)
        have hk' : g5 = k := Option.some.inj hk
        subst hk'
        exact (e4 _ (fun e => g5F _ (.inl (.inl rfl)) e)).trans (e3 _ hg5.2 (fun e => g5F _ (.inl (.inr (.inr (.inr (.inr (.inr e)))))) rfl))
      · have := hq
        rw [show ((⟨posted S.acc p, S.posts ++ [p]⟩ : LS).posts)[i]? = (S.posts ++ [p])[i]? from rfl, List.getElem?_eq_none (by simp; omega)] at this
        cases this
    · show MapIs Try.prog 9 wf F.a (posted S.acc p).length (nameAt (nms (posted S.acc p)))
      rw [posted_nms, show (posted S.acc p).length = S.acc.length by simp [posted]]
      exact h.am.stays (by omega) ea
    · show MapIs Try.prog 3 wf F.m (posted S.acc p).length (accAt (posted S.acc p))
      rw [show (posted S.acc p).length = S.acc.length by simp [posted]]
      exact hm.stays (by omega) em
    · refine ⟨ap.bt, ap.ba, ap.bm, ap.ta, ap.tm, ap.am, fun k hk => ?_, fun k hk => ?_⟩
      · have q := ap.l k hk
        exact ⟨q.1, q.2.1, q.2.2.1, q.2.2.2.1, fun e => q.2.2.2.2 (g2F k (.inl (.inr (.inr (.inr (.inr (.inl hk)))))) (Option.some.inj e))⟩
      · have hk' : g2 = k := Option.some.inj hk
        exact ⟨fun e => pb (g2F _ (.inl (.inl rfl)) (hk'.trans e)), fun e => pt (g2F _ (.inl (.inr (.inl rfl))) (hk'.trans e)), fun e => pa (g2F _ (.inl (.inr (.inr (.inl rfl)))) (hk'.trans e)), fun e => pm (g2F _ (.inl (.inr (.inr (.inr (.inl rfl))))) (hk'.trans e))⟩
    · intro k hk hi
      rcases hi with hi | hi
      · rcases hk with q | q | q | q | q | q
        · exact h.imm k (.inl q) hi
        · exact h.imm k (.inr (.inl q)) hi
        · exact h.imm k (.inr (.inr (.inl q))) hi
        · exact h.imm k (.inr (.inr (.inr (.inl q)))) hi
        · exact h.imm k (.inr (.inr (.inr (.inr (.inl q))))) hi
        · have := g2F k (.inr hi) (Option.some.inj q)
          exact h.imm k (.inr (.inr (.inr (.inr (.inr this))))) hi
      · subst hi
        rcases hk with q | q | q | q | q | q
        · exact g5F _ (.inl (.inl rfl)) q
        · exact g5F _ (.inl (.inr (.inl rfl))) q
        · exact g5F _ (.inl (.inr (.inr (.inl rfl)))) q
        · exact g5F _ (.inl (.inr (.inr (.inr (.inl rfl))))) q
        · exact g5F _ (.inl (.inr (.inr (.inr (.inr (.inl q)))))) rfl
        · exact g25 (Option.some.inj q)
    · intro k hk
      rcases hk with hk | rfl
      · have := h.ilt k hk; omega
      · omega
  · refine ⟨?_, ?_, ?_, by omega, fun k hk hn => ?_, fun k hk => ?_, fun k hk => .inl hk, fun k hk hn => ?_, rfl, rfl, rfl, rfl⟩
    · rw [hwf]; exact hg2.os.trans (hb5.os.trans (gr.os.trans hb1.os))
    · rw [hwf]; exact hg2.tape.trans (hb5.tape.trans (gr.tape.trans hb1.tape))
    · rw [hwf]; exact hg2.output.trans (hb5.output.trans (gr.output.trans hb1.output))
    · exact e6 k hk (fun e => hn (.inr (.inr (.inr (.inl e))))) (fun e => hn (.inr (.inr (.inr (.inr (.inr e)))))) (fun e => hn (.inl e))
    · rcases hk with q | q | q | q | q | q
      · exact .inl (.inl q)
      · exact .inl (.inr (.inl q))
      · exact .inl (.inr (.inr (.inl q)))
      · exact .inl (.inr (.inr (.inr (.inl q))))
      · exact .inl (.inr (.inr (.inr (.inr (.inl q)))))
      · have hk' : g2 = k := Option.some.inj q
        rcases hl2 with q2 | q2
        · exact .inl (.inr (.inr (.inr (.inr (.inr (by rw [← hk']; exact q2))))))
        · simp at q2; right; omega
    · rcases hk with hk | hk
      · exact absurd hk hn
      · subst hk; omega
set_option maxRecDepth 100000 in
set_option maxHeartbeats 4000000 in
theorem Post_yes (I : Nat → Prop) (F : Fp) (S : LS) (so : Option Addr) (cap : Nat) (p : List Ent) (w : World) (h : LObj I F S w) (hE : Ents so cap p w) (hS : Sound S.acc) (hm : mayE S.acc p = 0) (hP : S.posts.length ≤ 1048576) (hem : ∀ ad j, so = some ad → (ad.add j).block ≠ F.m) : Calls Try.prog 11 #[.pointer (some ⟨F.b, 0, none⟩), .slice so p.length cap] w (PostPost I F S p w) := by
  have H := hide h
  have HE := hide hE
  have HS := hide hS
  have HM := hide hm
  have hfm : F.m < w.heap.size := h.lt (.inr (.inr (.inr (.inl rfl))))
  have hfb : F.b < w.heap.size := h.lt (.inl rfl)
  have ONE1 := hide (show ∀ (x : Value) (n c : Nat) (a : Option Addr), x = .slice a n c → ∀ u ∈ [x], u.oneCell' = true from fun x n c a e u hu => by simp at hu; subst hu; rw [e]; rfl)
  have HNB := hide (show F.pv.ownBlock ≠ some F.b from fun e => (h.ap.p _ e).1 rfl)
  have HEM := hide hem
  clear h hE hS hm hem
  go_enter Try.func11, Try.ntmps11
  go_wp2_with (first
    | (go_at_call 27; refine (behind_c I F S so cap p _ H.out HE.out HS.out).mono ?_; rintro e wx ⟨v, rfl, hb1, hok⟩; rw [HM.out]; obtain ⟨mh, cnt, rfl, hmh, hcn, hmp⟩ := hok HM.out; have HMP := hide hmp; have HB1 := hide hb1; have HMH := hide hmh; have HCN := hide hcn; clear hok hmp hmh hcn hb1)
    | (at_range; refine wpList_range_is _ rfl _ 75 rfl 3 2 law3 Try.underlying75 mh cnt _ rfl HMP.out ?_; intro w0 hrg0 hg0 hs0))
  have HX0 := hide (show PZ S.acc p F mh wx.heap.size cnt wx (fun kl => (behF S.acc p kl).isSome) cnt w0 from ⟨hrg0, ((H.out.mm.stays (Nat.le_trans HB1.out.size hg0.size) ((hg0.block F.m (Nat.lt_of_lt_of_le hfm HB1.out.size) (fun e => by cases e)).trans (HB1.out.block F.m hfm))).ext (mix_start _ _)), hg0.but _⟩)
  have hzx := HB1.out.size
  have HNE := hide (show wx.heap.size ≠ F.m ∧ mh ≠ F.m from ⟨by omega, by have := HMH.out; omega⟩)
  clear hrg0 hg0 hs0
  go_frame
  go_loopw [8] (fun _ wy => ∃ left c2, PZ S.acc p F mh wx.heap.size cnt wx left c2 wy) (fun _ wy => wy.rangeLeft mh wx.heap.size)
  case atStart => exact ⟨_, _, HX0.out⟩
  case round =>
    obtain ⟨left, c2, hz⟩ := hrel
    have HZ := hide hz
    clear hz
    go_wp2_with (at_next; refine wpList_next_ii _ rfl _ rfl 3 law3 Try.underlying3 mh wx.heap.size cnt _ _ _ rfl HZ.out.rg (fun kl v q => by obtain ⟨n, a, -, -, -, rfl⟩ := behF_inv q; exact ⟨_, rfl⟩) ?_ ?_)
    · intro _ hl0
      have HL0 := hide hl0
      clear hl0
      have HMW := hide (HZ.out.mm.ext (mix_end S.acc p HL0.out))
      obtain ⟨wy, hwy⟩ : ∃ wy, wy = wr := ⟨_, rfl⟩
      rw [← hwy] at HZ HMW ⊢
      clear hwy
      have hzr := HZ.out.gr.size
      have HBB := hide (show wy.heap[F.b]? = w.heap[F.b]? from (HZ.out.gr.block F.b (by omega) (fun e => H.out.ap.bm (Option.some.inj e))).trans (HB1.out.block _ hfb))
      obtain ⟨vs, hrow, hposts⟩ := H.out.pr
      obtain ⟨pa, pc, hpv⟩ := own_any hrow
      have HPV := hide hpv
      have HROW := hide hrow
      have HPOSTS := hide hposts
      have hb2 : wy.cell? ⟨F.b, 2, none⟩ = some (.slice pa S.posts.length pc) := by rw [← HPV.out]; exact cell_stay H.out.b2 HBB.out
      have hf2 : wy.frozen? ⟨F.b, 2, none⟩ = false := fro_stay (H.out.bf 2) HBB.out
      have hpos := (formed_of_may HM.out)
      clear hrow hposts hpv
      have hbz : F.b < wy.heap.size := by omega
      go_wp2
      obtain ⟨i0, hi0, hy0, hy1, hy2⟩ := info_parts info33
      have HEY := hide (show Ents so cap p wy from HE.out.stays (fun ad j e hk => by
        have hne : (ad.add j).block ≠ F.m := fun q => HEM.out ad j e q
        exact (HZ.out.gr.block _ (by omega) (fun q => hne (Option.some.inj q))).trans (HB1.out.block _ hk)))
      have HOY := hide (show wy.ownsRow 0 33 1 (.slice pa S.posts.length pc) S.posts.length vs from by
        have q := HROW.out
        refine own_stays (w := w) (by rw [← HPV.out]; exact q) (fun k hk => ?_)
        rw [← HPV.out] at hk
        have hkz := (q.lt k hk).2
        exact (HZ.out.gr.block k (by omega) (fun e => (H.out.ap.p k hk).2.2.2 (Option.some.inj e))).trans (HB1.out.block _ hkz))
      have hl0 := formed_len HM.out
      go_region_law
        (first
          | (refine step_append_lies _ rfl _ _ 23 rfl 0 33 i0 (.slice none 0 0) 1 24 Try.underlying23 hi0 hy0 hy1 hy2 rfl (by decide) (.slice pa S.posts.length pc) S.posts.length vs (by simp [Act.eval, Act.put]) (own_stays HOW.out (fun k hk => Below.heap_alloc _ _ _ (HOW.out.lt k hk).2)) ⟨w5.heap.size, 0, none⟩ 1 1 [.slice (some ⟨g5, 0, none⟩) p.length cap5] (by simp [Act.eval, Act.put]) (by simp) (cell_one_new _ _ _) (ONE1.out _ _ _ _ rfl) (by decide) (by unfold maxLen; omega) (by omega) (Nat.zero_le _) _ rfl ?_; intro g2 cap2 wn hown2 hg2 hgl2 hlt2; have HO2 := hide hown2; have HG2 := hide hg2; have HGL2 := hide hgl2; have f2 := step_cell hg2 fq5 ff5 (by rw [← HPV.out]; exact HNB.out); clear hown2 hg2 hgl2)
          | (go_simp; go_at_call 28; (apply Calls.mono; focus (exact (Clone_c so cap p _ (by omega) (HEY.out.below (drewB _))))); rintro e w5 ⟨vf, rfl, ownf, hb5⟩; obtain ⟨g5, cap5, rfl, hg5, hg5z⟩ := ownf.form hpos; have OF := hide ownf; have HW5 := hide (bstep (drewB _) hb5); have hz5 : F.b < w5.heap.size := Nat.lt_of_lt_of_le hbz HW5.out.size; have fq5 := cell_stay hb2 (HW5.out.block _ hbz); have ff5 := fro_stay hf2 (HW5.out.block _ hbz); have HOW := hide (own_stays HOY.out (fun k hk => HW5.out.block _ (HOY.out.lt k hk).2)); clear ownf hb5))
      all_goals
        go_wp2
        refine bodyPost_ret (v := .tuple #[.int .i64 (S.posts.length : Int), .int .i64 0]) (by simp [results, Try.f11, go_sem]) rfl ⟨rfl, ?_⟩
        exact Post_close H.out HB1.out HZ.out.gr HMW.out HW5.out (by simpa using OF.out) (by rw [HPV.out]; exact HG2.out) HO2.out (by rw [HPV.out]; exact HGL2.out) HROW.out HPOSTS.out
    · intro x cc w1 cnt1 hwx hlx hfx hrg1 hlt1 hg1 hs1 hen
      have HRG := hide hrg1
      have HLT := hide hlt1
      have HLX := hide hlx
      have HG1 := hide hg1
      obtain ⟨n, a, hxn, han, hnm, hval⟩ := behF_inv hfx
      obtain rfl : x = (n : Int) := by simpa using hxn
      obtain rfl : cc = a.has + sumOf p a.name := by simpa using hval
      have HAN := hide han
      have HNM := hide hnm
      have hgw := grown_trans (World.grownBy.mk HZ.out.gr.os HZ.out.gr.tape HZ.out.gr.output HZ.out.gr.size HZ.out.gr.block : wx.grownBy wr (some F.m)) (World.grownBy.mk rfl rfl rfl (Nat.le_refl _) (fun _ _ _ => rfl) : wr.grownBy wr (some F.m))
      have hne := HNE.out
      have hzr := HZ.out.gr.size
      have hbm1 : w1.heap[F.m]? = wr.heap[F.m]? := hg1.block F.m (by omega) (fun e => hne.1 (Option.some.inj e).symm)
      have hbb1 : w1.heap[F.b]? = wr.heap[F.b]? := hg1.block F.b (by omega) (fun e => by have := Option.some.inj e; omega)
      have hbb2 : wr.heap[F.b]? = wx.heap[F.b]? := HZ.out.gr.block F.b (by omega) (fun e => H.out.ap.bm (Option.some.inj e))
      have hb1 : w1.cell? ⟨F.b, 1, none⟩ = some (.map (some F.m)) := cell_stay (cell_stay (cell_stay H.out.b1 (HB1.out.block _ hfb)) hbb2) hbb1
      have HMM1 := hide (show MapIs Try.prog 3 w1 F.m S.acc.length (mixF S.acc p left) from HZ.out.mm.stays hg1.size hbm1)
      have HN6 := hide (show n < 9223372036854775808 by
        have := (List.getElem?_eq_some_iff.1 han).1
        have q := HS.out.few
        omega)
      have HLN := hide (show S.acc.length < maxLen by have := HS.out.few; unfold maxLen; omega)
      have ql := mix_look HMM1.out HN6.out HAN.out HLX.out
      have hz1 : F.b < w1.heap.size := by have := hg1.size; omega
      clear hfx hxn hval han hnm hrg1 hlt1 hlx hg1 hs1 hgw hne hbm1 hbb1 hbb2
      obtain ⟨cv, hcv⟩ : ∃ cv, cv = a.has + sumOf p a.name := ⟨_, rfl⟩
      rw [← hcv] at hen ⊢
      have HCV := hide hcv
      clear hcv
      go_wp2
      obtain ⟨wz, hwz⟩ : ∃ wz, wz = w1.alloc (.cells #[.string a.name, .int .i64 a.least, .int .i64 cv] 70) := ⟨_, rfl⟩
      have z0 : wz.cell? ⟨w1.heap.size, 0, none⟩ = some (.string a.name) := by rw [hwz]; simp [go_sem]
      have z1 : wz.cell? ⟨w1.heap.size, 1, none⟩ = some (.int .i64 a.least) := by rw [hwz]; simp [go_sem]
      have z2 : wz.cell? ⟨w1.heap.size, 2, none⟩ = some (.int .i64 cv) := by rw [hwz]; simp [go_sem]
      have zb : wz.cell? ⟨F.b, 1, none⟩ = some (.map (some F.m)) := by rw [hwz]; exact cell_stay hb1 (Below.heap_alloc _ _ _ hz1)
      have HBZ := hide (show Below w1.heap.size w1 wz by rw [hwz]; (focus repeat' (first | (with_reducible exact Below.refl _ _) | (with_reducible assumption) | (with_reducible refine Below.alloc ?_ ?_ _) | (with_reducible refine Below.drew ?_) | (with_reducible refine bdrewN ?_ _) | (with_reducible refine Below.setCell ?_ ?_ _) | (first | (with_reducible exact Nat.le_refl _) | (with_reducible assumption) | omega | (simp; omega) | (simp; done)))))
      rw [← hwz]
      clear hwz hb1
      go_still_tail 6, (by kernel_rfl)
      (at_mapUpdate; refine wpList_mapUpdate_is _ rfl _ _ _ 57 rfl 3 70 law3 Try.underlying57 F.m S.acc.length (mixF S.acc p left) rfl (HMM1.out.stays HBZ.out.size (HBZ.out.block _ HMM1.out.lt)) HLN.out _ _ _ rfl rfl (keyOf_int_mk Try.underlying3 (wf_small HN6.out)) ?_; intro w3 hm3 ht3)
      (try go_frame)
      rw [mix_some HAN.out, if_pos rfl] at hm3
      have HM3 := hide hm3
      have HT3 := hide ht3
      clear hm3 ht3 ql z0 z1 z2 zb
      go_wp2
      go_roundw
      case rel =>
        have hm := HM3.out
        rw [HCV.out] at hm
        exact ⟨_, _, HZ.out.next HRG.out HG1.out (Nat.le_refl _) HNE.out.1 HNE.out.2 (w2 := wz.drew) ⟨HBZ.out.os, HBZ.out.tape, HBZ.out.output, HBZ.out.size, HBZ.out.block⟩ HT3.out (hm.ext (mix_step HAN.out HNM.out))⟩
      case measure =>
        have q := (HZ.out.next HRG.out HG1.out (Nat.le_refl _) HNE.out.1 HNE.out.2 (w2 := wz.drew) ⟨HBZ.out.os, HBZ.out.tape, HBZ.out.output, HBZ.out.size, HBZ.out.block⟩ HT3.out (by have hm := HM3.out; rw [HCV.out] at hm; exact hm.ext (mix_step HAN.out HNM.out))).rg.left_eq
        rw [q, HZ.out.rg.left_eq]; exact HLT.out
end Go.Proofs.Ytkdocoibfclfeaa

namespace Go.Proofs.Ytkdocoibfclfeaa
open Go.ChangeShapes Go.WideShapes Go.ChangeAt Go.RowKit Go.Deep Go.Maps Go.ChangeMaps Go.WideMaps
set_option linter.unusedSimpArgs false
set_option linter.unusedVariables false

theorem Ents.apart {so : Option Addr} {cap : Nat} {p : List Ent} {w : World} {k : TypeId} {mh cnt : Nat} {f : Lit → Option Value} (h : Ents so cap p w) (h0 : 0 < p.length) (hm : MapIs Try.prog k w mh cnt f) : ∀ ad j, so = some ad → (ad.add j).block ≠ mh := by
  obtain ⟨g, off, rfl, hc⟩ := h.spot h0
  have := not_map hm (hc 0 h0).1
  intro ad j e
  cases e
  rw [Addr.add_lit]
  exact this
def PostAny (I : Nat → Prop) (F : Fp) (S : LS) (p : List Ent) (w : World) (e : Ending) (w' : World) : Prop :=
  (mayE S.acc p ≠ 0 ∧ e = .returned (.tuple #[.int .i64 0, .int .i64 (mayE S.acc p)]) ∧ Below w.heap.size w w') ∨ (mayE S.acc p = 0 ∧ PostPost I F S p w e w')
theorem Post_c (I : Nat → Prop) (F : Fp) (S : LS) (so : Option Addr) (cap : Nat) (p : List Ent) (w : World) (h : LObj I F S w) (hE : Ents so cap p w) (hS : Sound S.acc) (hP : S.posts.length ≤ 1048576) : Calls Try.prog 11 #[.pointer (some ⟨F.b, 0, none⟩), .slice so p.length cap] w (PostAny I F S p w) := by
  by_cases hm : mayE S.acc p = 0
  · exact (Post_yes I F S so cap p w h hE hS hm hP (hE.apart (formed_of_may hm) h.mm)).mono fun e w' q => .inr ⟨hm, q⟩
  · exact (Post_no I F S so cap p w h hE hS hm).mono fun e w' q => .inl ⟨hm, q⟩
set_option maxHeartbeats 1000000 in
theorem Has_yes (I : Nat → Prop) (F : Fp) (S : LS) (s : ByteArray) (n : Nat) (a : Acc) (w : World) (h : LObj I F S w) (hs : s.size ≤ maxLen) (hi : idx (nms S.acc) s = some n) (ha : S.acc[n]? = some a) (hn : n < 65536) : Calls Try.prog 20 #[.pointer (some ⟨F.b, 0, none⟩), .string s] w fun e w' => e = .returned (.tuple #[.int .i64 a.has, .int .i64 0]) ∧ w = w' := by
  have H := hide h
  have b0 := h.b0
  have b1 := h.b1
  have ql := acc_look h.mm (show n < 9223372036854775808 by omega) ha
  have q4 := field70_2 a.name a.least a.has
  have HI := hide hi
  have HSZ := hide hs
  clear h hi hs ha
  go_enter Try.func20, Try.ntmps20
  go_wp2_with (first
    | (go_at_call 22; refine (isLedger _ F.b F.t H.out.b0).mono ?_; rintro e w' ⟨rfl, rfl⟩)
    | (go_at_call 49; refine (Find_yes _ F.t F.a _ n _ s H.out.t1 H.out.am HSZ.out HI.out).mono ?_; rintro e w' ⟨rfl, rfl⟩))
  refine bodyPost_ret (v := .tuple #[.int .i64 a.has, .int .i64 0]) (by simp [results, Try.f20, go_sem]) rfl ⟨rfl, rfl⟩
set_option maxHeartbeats 1000000 in
theorem Has_no (I : Nat → Prop) (F : Fp) (S : LS) (s : ByteArray) (w : World) (h : LObj I F S w) (hs : s.size ≤ maxLen) (hi : idx (nms S.acc) s = none) : Calls Try.prog 20 #[.pointer (some ⟨F.b, 0, none⟩), .string s] w fun e w' => e = .returned (.tuple #[.int .i64 0, .int .i64 4]) ∧ w = w' := by
  have H := hide h
  have b0 := h.b0
  have HI := hide hi
  have HSZ := hide hs
  clear h hi hs
  go_enter Try.func20, Try.ntmps20
  go_wp2_with (first
    | (go_at_call 22; refine (isLedger _ F.b F.t H.out.b0).mono ?_; rintro e w' ⟨rfl, rfl⟩)
    | (go_at_call 49; refine (Find_no _ F.t F.a _ _ s H.out.t1 H.out.am HSZ.out HI.out).mono ?_; rintro e w' ⟨rfl, rfl⟩))
  refine bodyPost_ret (v := .tuple #[.int .i64 0, .int .i64 4]) (by simp [results, Try.f20, go_sem]) rfl ⟨rfl, rfl⟩
set_option maxHeartbeats 1000000 in
theorem Account_yes (I : Nat → Prop) (F : Fp) (S : LS) (n : Nat) (a : Acc) (w : World) (h : LObj I F S w) (ha : S.acc[n]? = some a) (hn : n < 65536) : Calls Try.prog 26 #[.pointer (some ⟨F.b, 0, none⟩), .int .i64 (n : Int)] w fun e w' => e = .returned (.tuple #[.agg #[.string a.name, .int .i64 a.least, .int .i64 a.has], .int .i64 0]) ∧ Below w.heap.size w w' := by
  have hbz := h.lt (.inl rfl)
  obtain ⟨W, hW⟩ : ∃ W, W = w.alloc (.cells #[.string ⟨#[]⟩, .int .i64 0, .int .i64 0] 70) := ⟨_, rfl⟩
  have hbw : Below w.heap.size w W := by rw [hW]; (focus repeat' (first | (with_reducible exact Below.refl _ _) | (with_reducible assumption) | (with_reducible refine Below.alloc ?_ ?_ _) | (with_reducible refine Below.drew ?_) | (with_reducible refine bdrewN ?_ _) | (with_reducible refine Below.setCell ?_ ?_ _) | (first | (with_reducible exact Nat.le_refl _) | (with_reducible assumption) | omega | (simp; omega) | (simp; done))))
  have h2 := h.below hbw
  have ql := acc_look_ok h2.mm (show n < 9223372036854775808 by omega) ha
  have b0 := h.b0
  have b1 := h.b1
  have c0 := h2.b0
  have B0 := hide c0
  rw [hW] at ql c0 B0
  clear h h2 ha hbw hW
  go_enter Try.func26, Try.ntmps26
  go_wp2_with (go_at_call 22; refine (isLedger _ F.b F.t B0.out).mono ?_; rintro e w' ⟨rfl, rfl⟩)
  refine bodyPost_ret (v := .tuple #[.agg #[.string a.name, .int .i64 a.least, .int .i64 a.has], .int .i64 0]) (by simp [results, Try.f26, go_sem]) rfl ⟨rfl, by (focus repeat' (first | (with_reducible exact Below.refl _ _) | (with_reducible assumption) | (with_reducible refine Below.alloc ?_ ?_ _) | (with_reducible refine Below.drew ?_) | (with_reducible refine bdrewN ?_ _) | (with_reducible refine Below.setCell ?_ ?_ _) | (first | (with_reducible exact Nat.le_refl _) | (with_reducible assumption) | omega | (simp; omega) | (simp; done))))⟩
set_option maxHeartbeats 1000000 in
theorem Account_no (I : Nat → Prop) (F : Fp) (S : LS) (x : Int) (w : World) (h : LObj I F S w) (hx : (Lit.int .i64 x).wf = true) (hi : x < 0 ∨ S.acc.length ≤ x) : Calls Try.prog 26 #[.pointer (some ⟨F.b, 0, none⟩), .int .i64 x] w fun e w' => e = .returned (.tuple #[.agg #[.string ⟨#[]⟩, .int .i64 0, .int .i64 0], .int .i64 4]) ∧ Below w.heap.size w w' := by
  have hbz := h.lt (.inl rfl)
  obtain ⟨W, hW⟩ : ∃ W, W = w.alloc (.cells #[.string ⟨#[]⟩, .int .i64 0, .int .i64 0] 70) := ⟨_, rfl⟩
  have hbw : Below w.heap.size w W := by rw [hW]; (focus repeat' (first | (with_reducible exact Below.refl _ _) | (with_reducible assumption) | (with_reducible refine Below.alloc ?_ ?_ _) | (with_reducible refine Below.drew ?_) | (with_reducible refine bdrewN ?_ _) | (with_reducible refine Below.setCell ?_ ?_ _) | (first | (with_reducible exact Nat.le_refl _) | (with_reducible assumption) | omega | (simp; omega) | (simp; done))))
  have h2 := h.below hbw
  have ql := acc_look_no h2.mm hx hi
  have b0 := h.b0
  have b1 := h.b1
  have B0 := hide h2.b0
  rw [hW] at ql B0
  clear h h2 hbw hW hx hi
  go_enter Try.func26, Try.ntmps26
  go_wp2_with (go_at_call 22; refine (isLedger _ F.b F.t B0.out).mono ?_; rintro e w' ⟨rfl, rfl⟩)
  refine bodyPost_ret (v := .tuple #[.agg #[.string ⟨#[]⟩, .int .i64 0, .int .i64 0], .int .i64 4]) (by simp [results, Try.f26, go_sem]) rfl ⟨rfl, by (focus repeat' (first | (with_reducible exact Below.refl _ _) | (with_reducible assumption) | (with_reducible refine Below.alloc ?_ ?_ _) | (with_reducible refine Below.drew ?_) | (with_reducible refine bdrewN ?_ _) | (with_reducible refine Below.setCell ?_ ?_ _) | (first | (with_reducible exact Nat.le_refl _) | (with_reducible assumption) | omega | (simp; omega) | (simp; done))))⟩
set_option maxHeartbeats 1000000 in
theorem Posting_yes (I : Nat → Prop) (F : Fp) (S : LS) (n : Nat) (p : List Ent) (w : World) (h : LObj I F S w) (hp : S.posts[n]? = some p) (hn : S.posts.length ≤ 1048576) (hl : p.length ≤ 1048576) : Calls Try.prog 31 #[.pointer (some ⟨F.b, 0, none⟩), .int .i64 (n : Int)] w fun e w' => ∃ v', e = .returned (.tuple #[v', .int .i64 0]) ∧ w'.ownsRow w.heap.size 63 2 v' p.length (flatE p) ∧ Below w.heap.size w w' := by
  obtain ⟨vs, hrow, hposts⟩ := h.pr
  obtain ⟨v, hv, hown, _⟩ := hposts n p hp
  have hnl : n < S.posts.length := (List.getElem?_eq_some_iff.1 hp).1
  obtain ⟨g, cap, hpv, _, hg⟩ := hrow.form (by omega)
  have b0 := h.b0
  have b2 := h.b2
  rw [hpv] at b2 hrow
  have hc : w.cell? ⟨g, n, none⟩ = some v := by rw [hrow.cellAt n (by omega)]; exact hv
  obtain ⟨so, cp, rfl, hE⟩ := Ents.of_own hown
  have HE := hide hE
  have n0 : (0 : Int) ≤ (n : Int) := by omega
  have n1 : (n : Int) < (S.posts.length : Int) := by omega
  have n2 : decide ((n : Int) < 0) = false := by (rw [decide_eq_false_iff_not]; omega)
  have n3 : decide ((S.posts.length : Int) ≤ (n : Int)) = false := by (rw [decide_eq_false_iff_not]; omega)
  have H := hide h
  clear h hrow hposts hown hE hv hp hpv
  go_enter Try.func31, Try.ntmps31
  go_wp2_with (first
    | (go_at_call 22; refine (isLedger _ F.b F.t H.out.b0).mono ?_; rintro e w' ⟨rfl, rfl⟩)
    | (go_at_call 28; refine (Clone_c so cp p _ hl HE.out).mono ?_; rintro e w1 ⟨v', rfl, own1, hb1⟩))
  refine bodyPost_ret (v := .tuple #[v', .int .i64 0]) (by simp [results, Try.f31, go_sem]) rfl ⟨v', rfl, own1, hb1⟩
set_option maxHeartbeats 1000000 in
theorem Posting_no (I : Nat → Prop) (F : Fp) (S : LS) (x : Int) (w : World) (h : LObj I F S w) (hx : x < 0 ∨ S.posts.length ≤ x) : Calls Try.prog 31 #[.pointer (some ⟨F.b, 0, none⟩), .int .i64 x] w fun e w' => e = .returned (.tuple #[.slice none 0 0, .int .i64 4]) ∧ w = w' := by
  obtain ⟨vs, hrow, _⟩ := h.pr
  obtain ⟨pa, pc, hpv⟩ := own_any hrow
  have b2 := h.b2
  rw [hpv] at b2
  have H := hide h
  clear h hrow hpv
  rcases (by omega : x < 0 ∨ (0 ≤ x ∧ S.posts.length ≤ x)) with q | ⟨q1, q2⟩
  · have n2 : decide (x < 0) = true := by (rw [decide_eq_true_iff]; omega)
    clear hx q
    go_enter Try.func31, Try.ntmps31
    go_wp2_with (go_at_call 22; refine (isLedger _ F.b F.t H.out.b0).mono ?_; rintro e w' ⟨rfl, rfl⟩)
    refine bodyPost_ret (v := .tuple #[.slice none 0 0, .int .i64 4]) (by simp [results, Try.f31, go_sem]) rfl ⟨rfl, rfl⟩
  · have n2 : decide (x < 0) = false := by (rw [decide_eq_false_iff_not]; omega)
    have n3 : decide ((S.posts.length : Int) ≤ x) = true := by (rw [decide_eq_true_iff]; omega)
    clear hx
    go_enter Try.func31, Try.ntmps31
    go_wp2_with (go_at_call 22; refine (isLedger _ F.b F.t H.out.b0).mono ?_; rintro e w' ⟨rfl, rfl⟩)
    refine bodyPost_ret (v := .tuple #[.slice none 0 0, .int .i64 4]) (by simp [results, Try.f31, go_sem]) rfl ⟨rfl, rfl⟩

def newFp (k : Nat) : Fp := ⟨k + 3, k + 1, k, k + 2, .slice none 0 0, .slice none 0 0⟩
set_option maxHeartbeats 1000000 in
theorem New_c (w : World) : Calls Try.prog 7 #[] w fun e w' => e = .returned (.pointer (some ⟨w.heap.size + 3, 0, none⟩)) ∧ w' = (((w.alloc (.map #[] 0)).alloc (.cells #[.slice none 0 0, .map (some w.heap.size), .int .i64 65536] 112)).alloc (.map #[] 0)).alloc (.cells #[.pointer (some ⟨w.heap.size + 1, 0, none⟩), .map (some (w.heap.size + 2)), .slice none 0 0] 59) := by
  have hmm := @run_makeMap Try.prog
  go_enter Try.func7, Try.ntmps7
  go_wp2_with (go_at_call 21; refine (NewNames _).mono ?_; rintro e w1 ⟨rfl, rfl⟩)
  refine bodyPost_ret (v := .pointer (some ⟨w.heap.size + 3, 0, none⟩)) (by simp [results, Try.f7, go_sem]) rfl ⟨rfl, by simp⟩
theorem New_obj (I : Nat → Prop) (w : World) (hI : ∀ k, I k → k < w.heap.size) : LObj I (newFp w.heap.size) ⟨[], []⟩ ((((w.alloc (.map #[] 0)).alloc (.cells #[.slice none 0 0, .map (some w.heap.size), .int .i64 65536] 112)).alloc (.map #[] 0)).alloc (.cells #[.pointer (some ⟨w.heap.size + 1, 0, none⟩), .map (some (w.heap.size + 2)), .slice none 0 0] 59)) := by
  have e1 := Below.heap_alloc w (.map #[] 0)
  refine ⟨by simp [go_sem, newFp], by simp [go_sem, newFp], by simp [go_sem, newFp], by simp [go_sem, newFp], by simp [go_sem, newFp], by simp [go_sem, newFp], by simp [go_sem, newFp], by simp [go_sem, newFp], World.ownsRow_nil _ _ _ _, ⟨[], World.ownsRow_nil _ _ _ _, fun i p q => by simp at q⟩, ?_, ?_, ?_, ?_, fun k hk => by have := hI k hk; simp; omega⟩
  · have h := MapIs.made w Try.prog 9
    have h2 := h.stays (w' := ((((w.alloc (.map #[] 0)).alloc (.cells #[.slice none 0 0, .map (some w.heap.size), .int .i64 65536] 112)).alloc (.map #[] 0)).alloc (.cells #[.pointer (some ⟨w.heap.size + 1, 0, none⟩), .map (some (w.heap.size + 2)), .slice none 0 0] 59))) (by first | (simp; done) | (simp; omega)) (by rw [Below.heap_alloc _ _ _ (by first | (simp; done) | (simp; omega)), Below.heap_alloc _ _ _ (by first | (simp; done) | (simp; omega)), Below.heap_alloc _ _ _ (by simp)])
    exact h2.ext (fun x => by cases x <;> rfl)
  · have h := MapIs.made ((w.alloc (.map #[] 0)).alloc (.cells #[.slice none 0 0, .map (some w.heap.size), .int .i64 65536] 112)) Try.prog 3
    have h2 := h.stays (w' := ((((w.alloc (.map #[] 0)).alloc (.cells #[.slice none 0 0, .map (some w.heap.size), .int .i64 65536] 112)).alloc (.map #[] 0)).alloc (.cells #[.pointer (some ⟨w.heap.size + 1, 0, none⟩), .map (some (w.heap.size + 2)), .slice none 0 0] 59))) (by simp) (by rw [Below.heap_alloc _ _ _ (by simp)])
    have e : ((w.alloc (.map #[] 0)).alloc (.cells #[.slice none 0 0, .map (some w.heap.size), .int .i64 65536] 112)).heap.size = w.heap.size + 2 := by simp
    rw [e] at h2
    exact h2.ext (fun x => by
      cases x with
      | int k y => cases k <;> first | rfl | simp [accAt]
      | _ => rfl)
  · refine ⟨?_, ?_, ?_, ?_, ?_, ?_, (fun k q => by cases q), (fun k q => by cases q)⟩ <;> simp [newFp]
  · intro k hk hi
    have := hI k hi
    rcases hk with q | q | q | q | q | q
    · simp [newFp] at q; omega
    · simp [newFp] at q; omega
    · simp [newFp] at q; omega
    · simp [newFp] at q; omega
    · cases q
    · cases q
def OpenPost (I : Nat → Prop) (F : Fp) (S : LS) (s : ByteArray) (l : Int) (w : World) (e : Ending) (w' : World) : Prop := e = .returned (.tuple #[.int .i64 (S.acc.length : Int), .int .i64 0]) ∧ ∃ F', LObj I F' ⟨S.acc ++ [⟨s, l, 0⟩], S.posts⟩ w' ∧ Step I F w I F' w'

set_option maxHeartbeats 1000000 in
theorem Open_short (I : Nat → Prop) (F : Fp) (S : LS) (s : ByteArray) (l : Int) (w : World) (h : LObj I F S w) (hn : s.size = 0) : Calls Try.prog 8 #[.pointer (some ⟨F.b, 0, none⟩), .string s, .int .i64 l] w fun e w' => e = .returned (.tuple #[.int .i64 0, .int .i64 2]) ∧ w = w' := by
  have H := hide h
  have HN := hide hn
  clear h hn
  go_enter Try.func8, Try.ntmps8
  go_wp2_with (first | (go_at_call 22; refine (isLedger _ F.b F.t H.out.b0).mono ?_; rintro e w' ⟨rfl, rfl⟩) | (go_at_call 23; refine (Check_short s _ HN.out).mono ?_; rintro e w' ⟨rfl, rfl⟩))
  refine bodyPost_ret (v := .tuple #[.int .i64 0, .int .i64 2]) (by simp [results, Try.f8, go_sem]) rfl ⟨rfl, rfl⟩

set_option maxHeartbeats 1000000 in
theorem Open_long (I : Nat → Prop) (F : Fp) (S : LS) (s : ByteArray) (l : Int) (w : World) (h : LObj I F S w) (hn : 64 < s.size) : Calls Try.prog 8 #[.pointer (some ⟨F.b, 0, none⟩), .string s, .int .i64 l] w fun e w' => e = .returned (.tuple #[.int .i64 0, .int .i64 2]) ∧ w = w' := by
  have H := hide h
  have HN := hide hn
  clear h hn
  go_enter Try.func8, Try.ntmps8
  go_wp2_with (first | (go_at_call 22; refine (isLedger _ F.b F.t H.out.b0).mono ?_; rintro e w' ⟨rfl, rfl⟩) | (go_at_call 23; refine (Check_long s _ HN.out).mono ?_; rintro e w' ⟨rfl, rfl⟩))
  refine bodyPost_ret (v := .tuple #[.int .i64 0, .int .i64 2]) (by simp [results, Try.f8, go_sem]) rfl ⟨rfl, rfl⟩

set_option maxHeartbeats 1000000 in
theorem Open_high (I : Nat → Prop) (F : Fp) (S : LS) (s : ByteArray) (l : Int) (w : World) (h : LObj I F S w) (hn : goodName s) (hl : 0 < l) : Calls Try.prog 8 #[.pointer (some ⟨F.b, 0, none⟩), .string s, .int .i64 l] w fun e w' => e = .returned (.tuple #[.int .i64 0, .int .i64 2]) ∧ w = w' := by
  have H := hide h
  have HN := hide hn
  have d1 : decide (0 < l) = true := by (rw [decide_eq_true_iff]; exact hl)
  clear h hn
  go_enter Try.func8, Try.ntmps8
  go_wp2_with (first | (go_at_call 22; refine (isLedger _ F.b F.t H.out.b0).mono ?_; rintro e w' ⟨rfl, rfl⟩) | (go_at_call 23; refine (Check_ok s _ HN.out.1 HN.out.2).mono ?_; rintro e w' ⟨rfl, rfl⟩))
  refine bodyPost_ret (v := .tuple #[.int .i64 0, .int .i64 2]) (by simp [results, Try.f8, go_sem]) rfl ⟨rfl, rfl⟩

set_option maxHeartbeats 1000000 in
theorem Open_low (I : Nat → Prop) (F : Fp) (S : LS) (s : ByteArray) (l : Int) (w : World) (h : LObj I F S w) (hn : goodName s) (hl : l < -70368744177664) : Calls Try.prog 8 #[.pointer (some ⟨F.b, 0, none⟩), .string s, .int .i64 l] w fun e w' => e = .returned (.tuple #[.int .i64 0, .int .i64 2]) ∧ w = w' := by
  have H := hide h
  have HN := hide hn
  have d1 : decide (0 < l) = false := by (rw [decide_eq_false_iff_not]; omega)
  have d2 : decide (l < -70368744177664) = true := by (rw [decide_eq_true_iff]; exact hl)
  clear hl
  clear h hn
  go_enter Try.func8, Try.ntmps8
  go_wp2_with (first | (go_at_call 22; refine (isLedger _ F.b F.t H.out.b0).mono ?_; rintro e w' ⟨rfl, rfl⟩) | (go_at_call 23; refine (Check_ok s _ HN.out.1 HN.out.2).mono ?_; rintro e w' ⟨rfl, rfl⟩))
  refine bodyPost_ret (v := .tuple #[.int .i64 0, .int .i64 2]) (by simp [results, Try.f8, go_sem]) rfl ⟨rfl, rfl⟩

theorem Open_bad (I : Nat → Prop) (F : Fp) (S : LS) (s : ByteArray) (l : Int) (w : World) (h : LObj I F S w) (hb : ¬ (goodName s ∧ -maxC ≤ l ∧ l ≤ 0)) : Calls Try.prog 8 #[.pointer (some ⟨F.b, 0, none⟩), .string s, .int .i64 l] w fun e w' => e = .returned (.tuple #[.int .i64 0, .int .i64 2]) ∧ w = w' := by
  by_cases hn : goodName s
  · rcases (by unfold maxC at hb; simp only [hn, true_and] at hb; omega : 0 < l ∨ l < -70368744177664) with q | q
    · exact Open_high I F S s l w h hn q
    · exact Open_low I F S s l w h hn q
  · rcases (by unfold goodName at hn; omega : s.size = 0 ∨ 64 < s.size) with q | q
    · exact Open_short I F S s l w h q
    · exact Open_long I F S s l w h q
set_option maxHeartbeats 1000000 in
theorem Open_there (I : Nat → Prop) (F : Fp) (S : LS) (s : ByteArray) (l : Int) (i : Nat) (w : World) (h : LObj I F S w) (hn : goodName s) (h1 : -70368744177664 ≤ l) (h2 : l ≤ 0) (hi : idx (nms S.acc) s = some i) : Calls Try.prog 8 #[.pointer (some ⟨F.b, 0, none⟩), .string s, .int .i64 l] w fun e w' => e = .returned (.tuple #[.int .i64 0, .int .i64 5]) ∧ w = w' := by
  have H := hide h
  have HN := hide hn
  have HI := hide hi
  have b0 := h.b0
  have d1 : decide (0 < l) = false := by (rw [decide_eq_false_iff_not]; omega)
  have d2 : decide (l < -70368744177664) = false := by (rw [decide_eq_false_iff_not]; omega)
  clear h hn hi h1 h2
  go_enter Try.func8, Try.ntmps8
  go_wp2_with (first | (go_at_call 22; refine (isLedger _ F.b F.t H.out.b0).mono ?_; rintro e w' ⟨rfl, rfl⟩) | (go_at_call 23; refine (Check_ok s _ HN.out.1 HN.out.2).mono ?_; rintro e w' ⟨rfl, rfl⟩) | (go_at_call 24; refine (Add_there _ F.t F.a _ i _ s H.out.t1 H.out.am HN.out HI.out).mono ?_; rintro e w' ⟨rfl, rfl⟩))
  refine bodyPost_ret (v := .tuple #[.int .i64 0, .int .i64 5]) (by simp [results, Try.f8, go_sem]) rfl ⟨rfl, rfl⟩
theorem accV_of (s : ByteArray) (l h : Int) : accV ⟨s, l, h⟩ = .agg #[.string s, .int .i64 l, .int .i64 h] := rfl
theorem Open_close {I : Nat → Prop} {F : Fp} {S : LS} {s : ByteArray} {l : Int} {w w1 w2 : World} {e : Ending} (h : LObj I F S w) (hp : AddPost F.t F.a F.lv (nms S.acc) s w e w1) (hm : MapIs Try.prog 3 w2 F.m (S.acc.length + 1) (accAt (S.acc ++ [⟨s, l, 0⟩]))) (ht : w1.mapTurned w2 F.m) : ∃ F', LObj I F' ⟨S.acc ++ [⟨s, l, 0⟩], S.posts⟩ w2 ∧ Step I F w I F' w2 := by
  have hl : (nms S.acc).length = S.acc.length := by simp [nms]
  obtain ⟨-, lv', own, c0, c1, c2, f0, ham, hloc, hos, htp, hou, hsz, hkp⟩ := hp
  rw [hl] at own ham
  have ap := h.ap
  have z2 := ht.grown.size
  have hT : ∀ k, k < w1.heap.size → k ≠ F.m → w2.heap[k]? = w1.heap[k]? := fun k hk hne => turned_heap ht hne hk
  have hK : ∀ k, k < w.heap.size → k ≠ F.t → k ≠ F.a → F.lv.ownBlock ≠ some k → k ≠ F.m → w2.heap[k]? = w.heap[k]? := fun k hk h1 h2 h3 h4 => (hT k (by omega) h4).trans (hkp k hk h1 h2 h3)
  have lb := h.lt (.inl rfl)
  have lt_ := h.lt (.inr (.inl rfl))
  have la := h.lt (.inr (.inr (.inl rfl)))
  have eb : w2.heap[F.b]? = w.heap[F.b]? := hK _ lb ap.bt ap.ba (fun q => (ap.l _ q).1 rfl) ap.bm
  have et : w2.heap[F.t]? = w1.heap[F.t]? := hT _ (by omega) ap.tm
  have ea : w2.heap[F.a]? = w1.heap[F.a]? := hT _ (by omega) ap.am
  obtain ⟨vs, hrow, hposts⟩ := h.pr
  have lvF : ∀ k, lv'.ownBlock = some k → F.lv.ownBlock = some k ∨ w.heap.size ≤ k := fun k hk => by
    rcases hloc with q | ⟨k', q, hk'⟩
    · left; rw [← q]; exact hk
    · right; rw [q] at hk; cases hk; exact hk'
  refine ⟨{ F with lv := lv' }, ⟨cell_stay h.b0 eb, cell_stay h.b1 eb, cell_stay h.b2 eb, fun o => fro_stay (h.bf o) eb, cell_stay c0 et, cell_stay c1 et, cell_stay c2 et, fro_stay f0 et, ?_, ⟨vs, ?_, fun i p hp => ?_⟩, ?_, ?_, ?_, ?_, ?_⟩, ?_⟩
  · show w2.ownsRow 0 9 1 lv' (S.acc ++ [(⟨s, l, 0⟩ : Acc)]).length ((nms (S.acc ++ [⟨s, l, 0⟩])).map Value.string)
    rw [nms_snoc, show (S.acc ++ [(⟨s, l, 0⟩ : Acc)]).length = S.acc.length + 1 by simp]
    refine own_stays own (fun k hk => hT k (own.lt k hk).2 (fun e => ?_))
    rcases lvF k hk with q | q
    · exact (ap.l k q).2.2.2.1 e
    · have := h.mm.lt; omega
  · exact own_stays hrow (fun k hk => hK k (hrow.lt k hk).2 (ap.p k hk).2.1 (ap.p k hk).2.2.1 (fun q => (ap.l k q).2.2.2.2 hk) (ap.p k hk).2.2.2)
  · obtain ⟨v, v1, v2, v3⟩ := hposts i p hp
    refine ⟨v, v1, own_stays v2 (fun k hk => ?_), v3⟩
    have hik := v3 k hk
    exact hK k (h.ilt k hik) (fun e => h.imm k (.inr (.inl e)) hik) (fun e => h.imm k (.inr (.inr (.inl e))) hik) (fun e => h.imm k (.inr (.inr (.inr (.inr (.inl e))))) hik) (fun e => h.imm k (.inr (.inr (.inr (.inl e)))) hik)
  · show MapIs Try.prog 9 w2 F.a (S.acc ++ [(⟨s, l, 0⟩ : Acc)]).length (nameAt (nms (S.acc ++ [⟨s, l, 0⟩])))
    rw [nms_snoc, show (S.acc ++ [(⟨s, l, 0⟩ : Acc)]).length = S.acc.length + 1 by simp]
    exact ham.stays z2 ea
  · show MapIs Try.prog 3 w2 F.m (S.acc ++ [(⟨s, l, 0⟩ : Acc)]).length _
    rw [show (S.acc ++ [(⟨s, l, 0⟩ : Acc)]).length = S.acc.length + 1 by simp]
    exact hm
  · refine ⟨ap.bt, ap.ba, ap.bm, ap.ta, ap.tm, ap.am, (fun k hk => ?_), ap.p⟩
    rcases lvF k hk with q | q
    · exact ap.l k q
    · have lm := h.mm.lt
      exact ⟨fun e => by have e' : k = F.b := e; omega, fun e => by have e' : k = F.t := e; omega, fun e => by have e' : k = F.a := e; omega, fun e => by have e' : k = F.m := e; omega, fun e => by have := (hrow.lt k e).2; omega⟩
  · intro k hk hi
    rcases hk with q | q | q | q | q | q
    · exact h.imm k (.inl q) hi
    · exact h.imm k (.inr (.inl q)) hi
    · exact h.imm k (.inr (.inr (.inl q))) hi
    · exact h.imm k (.inr (.inr (.inr (.inl q)))) hi
    · rcases lvF k q with q2 | q2
      · exact h.imm k (.inr (.inr (.inr (.inr (.inl q2))))) hi
      · have := h.ilt k hi; omega
    · exact h.imm k (.inr (.inr (.inr (.inr (.inr q))))) hi
  · intro k hi
    have := h.ilt k hi
    omega
  · refine ⟨ht.grown.os.trans hos, ht.grown.tape.trans htp, ht.grown.output.trans hou, by omega, fun k hk hn => hK k hk (fun e => hn (.inr (.inl e))) (fun e => hn (.inr (.inr (.inl e)))) (fun e => hn (.inr (.inr (.inr (.inr (.inl e)))))) (fun e => hn (.inr (.inr (.inr (.inl e))))), fun k hk => ?_, fun _ q => q, fun _ q n => absurd q n, rfl, rfl, rfl, rfl⟩
    rcases hk with q | q | q | q | q | q
    · exact .inl (.inl q)
    · exact .inl (.inr (.inl q))
    · exact .inl (.inr (.inr (.inl q)))
    · exact .inl (.inr (.inr (.inr (.inl q))))
    · exact (lvF k q).imp (fun q2 => .inr (.inr (.inr (.inr (.inl q2))))) id
    · exact .inl (.inr (.inr (.inr (.inr (.inr q)))))
set_option maxRecDepth 100000 in
set_option maxHeartbeats 2000000 in
theorem Open_ok (I : Nat → Prop) (F : Fp) (S : LS) (s : ByteArray) (l : Int) (w : World) (h : LObj I F S w) (hn : goodName s) (h1 : -70368744177664 ≤ l) (h2 : l ≤ 0) (hi : idx (nms S.acc) s = none) (hf : S.acc.length < 65536) : Calls Try.prog 8 #[.pointer (some ⟨F.b, 0, none⟩), .string s, .int .i64 l] w (OpenPost I F S s l w) := by
  have H := hide h
  have HN := hide hn
  have HI := hide hi
  have b0 := h.b0
  have d1 : decide (0 < l) = false := by (rw [decide_eq_false_iff_not]; omega)
  have d2 : decide (l < -70368744177664) = false := by (rw [decide_eq_false_iff_not]; omega)
  have HL := hide (show (nms S.acc).length = S.acc.length by simp [nms])
  have HF := hide hf
  have HNA := hide (And.intro (show F.lv.ownBlock ≠ some F.t from fun q => (h.ap.l _ q).2.1 rfl) (And.intro (show F.lv.ownBlock ≠ some F.a from fun q => (h.ap.l _ q).2.2.1 rfl) h.ap.ta.symm))
  have HLR := hide (show w.ownsRow 0 9 1 F.lv (nms S.acc).length ((nms S.acc).map Value.string) by rw [HL.out]; exact h.lr)
  have HAM := hide (show MapIs Try.prog 9 w F.a (nms S.acc).length (nameAt (nms S.acc)) by rw [HL.out]; exact h.am)
  clear h hn hi h1 h2 hf
  go_enter Try.func8, Try.ntmps8
  go_wp2_with (first | (go_at_call 22; refine (isLedger _ F.b F.t H.out.b0).mono ?_; rintro e w' ⟨rfl, rfl⟩) | (go_at_call 23; refine (Check_ok s _ HN.out.1 HN.out.2).mono ?_; rintro e w' ⟨rfl, rfl⟩))
  refine (Add_ok w F.t F.a F.lv (nms S.acc) s H.out.t0 H.out.t1 H.out.t2 H.out.tf HLR.out HAM.out HN.out HI.out (by rw [HL.out]; exact HF.out) HNA.out.1 HNA.out.2.1 HNA.out.2.2).mono ?_
  rintro e w1 hadd
  have HADD := hide hadd
  have hz := hadd.2.choose_spec.2.2.2.2.2.2.2.2.2.2.1
  have hkp := hadd.2.choose_spec.2.2.2.2.2.2.2.2.2.2.2
  have ap := H.out.ap
  have lb := H.out.lt (.inl rfl)
  have HMM := hide (show MapIs Try.prog 3 w1 F.m S.acc.length (accAt S.acc) from H.out.mm.stays hz (hkp _ H.out.mm.lt ap.tm.symm ap.am.symm (fun q => (ap.l _ q).2.2.2.1 rfl)))
  have c1 : w1.cell? ⟨F.b, 1, none⟩ = some (.map (some F.m)) := cell_stay H.out.b1 (hkp _ lb ap.bt ap.ba (fun q => (ap.l _ q).1 rfl))
  have hbz : F.b < w1.heap.size := by omega
  obtain ⟨rfl, -⟩ := hadd
  rw [HL.out]
  clear hz hkp ap lb
  go_wp2_with (at_mapUpdate; refine wpList_mapUpdate_is _ rfl _ _ _ 57 rfl 3 70 law3 Try.underlying57 F.m S.acc.length (accAt S.acc) rfl HMM.out (by have := HF.out; unfold maxLen; omega) _ _ _ rfl rfl (keyOf_int_mk Try.underlying3 (wf_small (by have := HF.out; omega))) ?_; intro w2 hm2 ht2; have HM2 := hide hm2; have HT2 := hide ht2; clear hm2 ht2)
  refine bodyPost_ret (v := .tuple #[.int .i64 (S.acc.length : Int), .int .i64 0]) (by simp [results, Try.f8, go_sem]) rfl ⟨rfl, ?_⟩
  refine Open_close H.out HADD.out ?_ HT2.out
  have q := HM2.out
  have e0 : accAt S.acc (.int .i64 (S.acc.length : Int)) = none := by rw [accAt_nat]; simp
  rw [e0] at q
  exact q.ext (acc_snoc (a := ⟨s, l, 0⟩))
end Go.Proofs.Ytkdocoibfclfeaa

namespace Go.Proofs.Ytkdocoibfclfeaa
open Go.ChangeShapes Go.WideShapes Go.ChangeAt Go.RowKit Go.Deep Go.Maps Go.ChangeMaps Go.WideMaps
set_option linter.unusedSimpArgs false
set_option linter.unusedVariables false

def negE (p : List Ent) : List Ent := p.map fun x => (x.1, -x.2)
theorem negE_len (p : List Ent) : (negE p).length = p.length := by simp [negE]
def negTo (p : List Ent) (k : Nat) : List Ent := negE (p.take k) ++ p.drop k
theorem negTo_len (p : List Ent) (k : Nat) : (negTo p k).length = p.length := by simp [negTo, negE]; omega
theorem negTo_0 (p : List Ent) : negTo p 0 = p := rfl
theorem negTo_all (p : List Ent) : negTo p p.length = negE p := by simp [negTo]
theorem negTo_at {p : List Ent} {k : Nat} (hk : k < p.length) : ent (negTo p k) k = ent p k := by
  unfold ent negTo
  have hl : (negE (p.take k)).length = k := by simp [negE]; omega
  rw [List.getD_eq_getElem?_getD, List.getD_eq_getElem?_getD, List.getElem?_append_right (by omega), hl]
  simp
theorem negTo_step {p : List Ent} {k : Nat} (hk : k < p.length) : negTo p (k + 1) = (negTo p k).set k ((ent p k).1, -(ent p k).2) := by
  have hl : (negE (p.take k)).length = k := by simp [negE]; omega
  unfold negTo
  rw [take_snoc p k hk, show negE (p.take k ++ [ent p k]) = negE (p.take k) ++ [((ent p k).1, -(ent p k).2)] by simp [negE], List.set_append, if_neg (by omega), hl, Nat.sub_self, List.drop_eq_getElem_cons hk, List.set_cons_zero, List.append_assoc]
  rfl
theorem flatE_set (p : List Ent) : ∀ (i : Nat) (c : Int), i < p.length → flatE (p.set i ((ent p i).1, c)) = (flatE p).set (i * 2 + 1) (.int .i64 c) := by
  induction p with
  | nil => intro i c h; simp at h
  | cons x r ih =>
    intro i c h
    rcases i with _ | i
    · rfl
    · have e : (i + 1) * 2 + 1 = i * 2 + 1 + 1 + 1 := by omega
      have e2 : ent (x :: r) (i + 1) = ent r i := rfl
      rw [List.set_cons_succ, flatE_cons, flatE_cons, e, List.set_cons_succ, List.set_cons_succ, e2, ih i c (by simpa using h)]
theorem PostAny.from {I : Nat → Prop} {F : Fp} {S : LS} {p : List Ent} {w w1 : World} {e : Ending} {w' : World} (h : PostAny I F S p w1 e w') (hb : Below w.heap.size w w1) : PostAny I F S p w e w' := by
  rcases h with ⟨h1, h2, h3⟩ | ⟨h1, h2, I', F', h3, h4⟩
  · exact .inl ⟨h1, h2, bstep hb h3⟩
  · exact .inr ⟨h1, h2, I', F', h3, (Step.of_below hb).trans h4⟩
/-- what holds of a ledger at all times -/
structure Fine (S : LS) : Prop where
  snd : Sound S.acc
  frm : ∀ p ∈ S.posts, Formed p
  few : S.posts.length ≤ 1048576
theorem ent_good {p : List Ent} (h : Formed p) {k : Nat} (hk : k < p.length) : goodEnt (ent p k) := h.2.2.1 _ (ent_mem hk)
def BackPost (I : Nat → Prop) (F : Fp) (S : LS) (p : List Ent) (w : World) (e : Ending) (w' : World) : Prop := ∃ c r : Int, e = .returned (.tuple #[.int .i64 r, .int .i64 c]) ∧ PostAny I F S (negE p) w e w'
set_option maxRecDepth 100000 in
set_option maxHeartbeats 4000000 in
theorem Back_yes (I : Nat → Prop) (F : Fp) (S : LS) (n : Nat) (p : List Ent) (w : World) (h : LObj I F S w) (hp : S.posts[n]? = some p) (hS : Fine S) : Calls Try.prog 15 #[.pointer (some ⟨F.b, 0, none⟩), .int .i64 (n : Int)] w (PostAny I F S (negE p) w) := by
  have H := hide h
  have HP := hide hp
  have HS := hide hS
  have hfp := hS.frm p (List.mem_of_getElem? hp)
  have HFP := hide hfp
  have hl0 := hfp.1
  have hl1 := hfp.2.1
  clear h hp hS hfp
  go_enter Try.func15, Try.ntmps15
  go_wp2_with (go_at_call 31; refine (Posting_yes I F S n p _ H.out HP.out HS.out.few (by omega)).mono ?_; rintro e w1 ⟨v', rfl, own1, hb1⟩; obtain ⟨g, cap, rfl, hg1, hg2⟩ := own1.form (by omega); have OW := hide own1; have HB1 := hide hb1; clear own1 hb1)
  go_loopw [20] (fun v20 wr => ∃ k : Nat, k ≤ p.length ∧ v20 = .int .i64 (k : Int) ∧ wr.ownsRow w.heap.size 63 2 (.slice (some ⟨g, 0, none⟩) p.length cap) p.length (flatE (negTo p k)) ∧ Below w.heap.size w wr) (fun v20 _ => p.length - (intOf v20).toNat)
  case atStart => exact ⟨0, Nat.zero_le _, rfl, OW.out, HB1.out⟩
  case round =>
    obtain ⟨k, hk, rfl, hown, hbw⟩ := hrel
    have HO := hide hown
    have HBW := hide hbw
    clear hown hbw
    by_cases hlt : k < p.length
    · have c0 : wr.cell? ⟨g, k * 2, none⟩ = some (.string (ent p k).1) := by
        rw [HO.out.cellAt (k * 2) (by omega), (flatE_at (negTo p k) k (by rw [negTo_len]; exact hlt)).1, negTo_at hlt]
      have c1 : wr.cell? ⟨g, k * 2 + 1, none⟩ = some (.int .i64 (ent p k).2) := by
        rw [HO.out.cellAt (k * 2 + 1) (by omega), (flatE_at (negTo p k) k (by rw [negTo_len]; exact hlt)).2, negTo_at hlt]
      have f1 := HO.out.frozenAt (k * 2 + 1)
      have hge := ent_good HFP.out hlt
      obtain ⟨c, hcc⟩ : ∃ c, c = (ent p k).2 := ⟨_, rfl⟩
      rw [← hcc] at c1
      have HCC := hide hcc
      have a0 : IntKind.i64.wrap (-c) = -c := IntWalk.i64_in _ (by have q1 := hge.2.2.1; have q2 := hge.2.2.2; rw [← hcc] at q1 q2; unfold maxC at q1 q2; constructor <;> omega)
      have a1 : wrap64 (-c) = -c := by rw [← IntWalk.i64_left]; exact a0
      clear hge hcc
      go_wp2
      go_roundw
      case rel =>
        have st := HO.out.stored (k * 2 + 1) (.int .i64 (-c))
        refine ⟨k + 1, by omega, by go_num, ?_, HBW.out.setCell (p := ⟨g, k * 2 + 1, none⟩) hg1 _⟩
        rw [negTo_step hlt, ← negTo_at hlt, flatE_set _ _ _ (by rw [negTo_len]; exact hlt), negTo_at hlt, ← HCC.out]
        exact st.1
      case measure => simp [intOf]; omega
    · have hke : k = p.length := by omega
      have HE := hide (show ∃ so cp, (Value.slice (some ⟨g, 0, none⟩) p.length cap) = .slice so (negE p).length cp ∧ Ents so cp (negE p) wr from by
        have q := HO.out
        rw [hke, negTo_all] at q
        exact Ents.of_own q)
      clear hke
      obtain ⟨so, cp, hv, hE⟩ := HE.out
      obtain ⟨rfl, rfl⟩ : so = some ⟨g, 0, none⟩ ∧ cp = cap := by
        simp only [Value.slice.injEq] at hv
        exact ⟨hv.1.symm, hv.2.2.symm⟩
      have HEE := hide hE
      have HNL := hide (negE_len p)
      clear hv hE HE
      go_wp2_with fail
      have hcall := Post_c I F S (some ⟨g, 0, none⟩) cp (negE p) wr (H.out.below HBW.out) HEE.out HS.out.snd HS.out.few
      rw [HNL.out] at hcall
      refine hcall.mono ?_
      rintro e w3 hp3
      have hp4 := hp3.from HBW.out
      have hsh : ∃ r c : Int, e = .returned (.tuple #[.int .i64 r, .int .i64 c]) := by
        rcases hp3 with ⟨_, q, _⟩ | ⟨_, q, _⟩
        · exact ⟨_, _, q⟩
        · exact ⟨_, _, q⟩
      obtain ⟨r, c, rfl⟩ := hsh
      have HP4 := hide hp4
      clear hp3 hp4 hcall
      go_wp2
      refine bodyPost_ret (v := .tuple #[.int .i64 r, .int .i64 c]) (by simp [results, Try.f15, go_sem]) rfl HP4.out
set_option maxHeartbeats 1000000 in
theorem Back_no (I : Nat → Prop) (F : Fp) (S : LS) (x : Int) (w : World) (h : LObj I F S w) (hx : x < 0 ∨ S.posts.length ≤ x) : Calls Try.prog 15 #[.pointer (some ⟨F.b, 0, none⟩), .int .i64 x] w fun e w' => e = .returned (.tuple #[.int .i64 0, .int .i64 4]) ∧ w = w' := by
  have H := hide h
  have HX := hide hx
  clear h hx
  go_enter Try.func15, Try.ntmps15
  go_wp2_with (go_at_call 31; refine (Posting_no I F S x _ H.out HX.out).mono ?_; rintro e w1 ⟨rfl, rfl⟩)
  refine bodyPost_ret (v := .tuple #[.int .i64 0, .int .i64 4]) (by simp [results, Try.f15, go_sem]) rfl ⟨rfl, rfl⟩
theorem MapIs.block {P : Program} {k : TypeId} {w : World} {b n : Nat} {f : Lit → Option Value} (h : MapIs P k w b n f) : ∃ es ck, w.heap[b]? = some (.map es ck) ∧ es.size = n := by
  obtain ⟨D, ⟨es, ck, h1, h2, h3, h4⟩, h5, _⟩ := h
  refine ⟨es, ck, h1, ?_⟩
  rw [← h5, h4]
  simp [Maps.size, length_sorted]
set_option maxHeartbeats 1000000 in
theorem Len_c (I : Nat → Prop) (F : Fp) (S : LS) (w : World) (h : LObj I F S w) : Calls Try.prog 25 #[.pointer (some ⟨F.b, 0, none⟩)] w fun e w' => e = .returned (.tuple #[.int .i64 (S.acc.length : Int), .int .i64 (S.posts.length : Int)]) ∧ Below w.heap.size w w' := by
  obtain ⟨vs, hrow, _⟩ := h.pr
  obtain ⟨pa, pc, hpv⟩ := own_any hrow
  have b1 := h.b1
  have b2 := h.b2
  rw [hpv] at b2
  have hg : ∀ q, Sem.run Try.prog (Builtin.len_ #[57] 3 #[.map (some F.m)]) (w.drewN q) = .ok (.int .i64 (S.acc.length : Int)) (w.drewN q) := fun q => (h.mm.stays (w' := w.drewN q) (Nat.le_refl _) rfl).len Try.underlying57 3
  have H := hide h
  clear h hrow hpv
  go_enter Try.func25, Try.ntmps25
  go_wp2_with (go_at_call 22; refine (isLedger _ F.b F.t H.out.b0).mono ?_; rintro e w' ⟨rfl, rfl⟩)
  go_quiet (fail)
  go_wp2
  refine bodyPost_ret (v := .tuple #[.int .i64 (S.acc.length : Int), .int .i64 (S.posts.length : Int)]) (by simp [results, Try.f25, go_sem]) rfl ⟨rfl, by (focus repeat' (first | (with_reducible exact Below.refl _ _) | (with_reducible assumption) | (with_reducible refine Below.alloc ?_ ?_ _) | (with_reducible refine Below.drew ?_) | (with_reducible refine bdrewN ?_ _) | (with_reducible refine Below.setCell ?_ ?_ _) | (first | (with_reducible exact Nat.le_refl _) | (with_reducible assumption) | omega | (simp; omega) | (simp; done))))⟩
end Go.Proofs.Ytkdocoibfclfeaa

namespace Go.Proofs.Ytkdocoibfclfeaa
open Go.ChangeShapes Go.WideShapes Go.ChangeAt Go.RowKit Go.Deep Go.Maps Go.ChangeMaps Go.WideMaps
set_option linter.unusedSimpArgs false
set_option linter.unusedVariables false

/-- a ledger of the call's own -/
structure KL (w : World) (B : Nat) (I : Nat → Prop) (F : Fp) (S : LS) (w1 : World) : Prop where
  obj : LObj I F S w1
  b : F.b = B
  own : ∀ k, F.own k → w.heap.size ≤ k
  low : Below w.heap.size w w1
theorem KL.step {w : World} {B : Nat} {I I' : Nat → Prop} {F F' : Fp} {S S' : LS} {w1 w2 : World} (h : KL w B I F S w1) (ho : LObj I' F' S' w2) (hs : Step I F w1 I' F' w2) : KL w B I' F' S' w2 :=
  ⟨ho, hs.b.trans h.b, fun k hk => (hs.own k hk).elim (h.own k) (fun q => Nat.le_trans h.low.size q), h.low.trans (hs.below h.own h.low.size)⟩
theorem KL.below {w : World} {B : Nat} {I : Nat → Prop} {F : Fp} {S : LS} {w1 w2 : World} (h : KL w B I F S w1) (hb : Below w1.heap.size w1 w2) : KL w B I F S w2 := ⟨h.obj.below hb, h.b, h.own, bstep h.low hb⟩
theorem KL.new (w : World) : KL w (w.heap.size + 3) (fun _ => False) (newFp w.heap.size) ⟨[], []⟩ ((((w.alloc (.map #[] 0)).alloc (.cells #[.slice none 0 0, .map (some w.heap.size), .int .i64 65536] 112)).alloc (.map #[] 0)).alloc (.cells #[.pointer (some ⟨w.heap.size + 1, 0, none⟩), .map (some (w.heap.size + 2)), .slice none 0 0] 59)) := by
  refine ⟨New_obj _ w (fun _ q => q.elim), rfl, fun k hk => ?_, ?_⟩
  · rcases hk with q | q | q | q | q | q
    · simp [newFp] at q; omega
    · simp [newFp] at q; omega
    · simp [newFp] at q; omega
    · simp [newFp] at q; omega
    · cases q
    · cases q
  · (focus repeat' (first | (with_reducible exact Below.refl _ _) | (with_reducible assumption) | (with_reducible refine Below.alloc ?_ ?_ _) | (with_reducible refine Below.drew ?_) | (with_reducible refine bdrewN ?_ _) | (with_reducible refine Below.setCell ?_ ?_ _) | (first | (with_reducible exact Nat.le_refl _) | (with_reducible assumption) | omega | (simp; omega) | (simp; done))))
theorem Ents.two (w : World) (s1 s2 : ByteArray) (c1 c2 : Int) : Ents (some ⟨w.heap.size, 0, none⟩) 2 [(s1, c1), (s2, c2)] (w.alloc (.cells #[.string s1, .int .i64 c1, .string s2, .int .i64 c2] 63)) := by
  refine ⟨(fun q => by cases q), (fun _ => ⟨_, _, rfl⟩), (fun ad e j u hu => ?_)⟩
  cases e
  rw [Addr.add_lit]
  have hj : j < 4 := by
    rcases Nat.lt_or_ge j 4 with q | q
    · exact q
    · rw [List.getElem?_eq_none (by simpa [flatE] using q)] at hu; cases hu
  rcases (by omega : j = 0 ∨ j = 1 ∨ j = 2 ∨ j = 3) with rfl | rfl | rfl | rfl <;> simp [flatE] at hu <;> subst hu <;> simp [go_sem]
def hsN : ByteArray := (⟨#[104, 111, 117, 115, 101]⟩ : ByteArray)
def anN : ByteArray := (⟨#[97, 110, 110]⟩ : ByteArray)
theorem hs_an : hsN ≠ anN := fun h => by have := congrArg ByteArray.size h; revert this; decide
theorem an_hs : anN ≠ hsN := hs_an.symm
theorem good_hs : goodName hsN := by unfold goodName; decide
theorem good_an : goodName anN := by unfold goodName; decide
def A0 : List Acc := [⟨hsN, -1000, 0⟩, ⟨anN, 0, 0⟩]
def A1 : List Acc := [⟨hsN, -1000, -50⟩, ⟨anN, 0, 50⟩]
def p1 : List Ent := [(hsN, -50), (anN, 50)]
def p2 : List Ent := [(anN, -60), (hsN, 60)]
def p3 : List Ent := [(hsN, 50), (anN, -50)]
theorem neg_p1 : negE p1 = p3 := rfl
theorem form2 (s1 s2 : ByteArray) (c : Int) (h1 : goodName s1) (h2 : goodName s2) (hc : c ≠ 0) (hb : -100 ≤ c ∧ c ≤ 100) : Formed [(s1, c), (s2, -c)] := by
  refine ⟨by simp, by simp, fun x hx => ?_, by simp [total]; omega⟩
  simp at hx
  rcases hx with rfl | rfl
  · exact ⟨h1, hc, by unfold maxC; show c ≤ _; omega, by unfold maxC; show _ ≤ c; omega⟩
  · exact ⟨h2, by show -c ≠ 0; omega, by unfold maxC; show -c ≤ _; omega, by unfold maxC; show _ ≤ -c; omega⟩
theorem idx_hs (A : List Acc) (l h l2 h2 : Int) : idx (nms (⟨hsN, l, h⟩ :: ⟨anN, l2, h2⟩ :: A)) hsN = some 0 := by simp [nms, idx]
theorem idx_an (A : List Acc) (l h l2 h2 : Int) : idx (nms (⟨hsN, l, h⟩ :: ⟨anN, l2, h2⟩ :: A)) anN = some 1 := by simp [nms, idx, hs_an]
theorem there2 (l h l2 h2 : Int) (p : List Ent) (hp : ∀ s ∈ names p, s = hsN ∨ s = anN) : allThere [⟨hsN, l, h⟩, ⟨anN, l2, h2⟩] p := fun s hs => by
  rcases hp s hs with rfl | rfl
  · exact ⟨0, idx_hs [] _ _ _ _⟩
  · exact ⟨1, idx_an [] _ _ _ _⟩
theorem sum_hs1 : sumOf p1 hsN = -50 := by simp [p1, sumOf, an_hs]
theorem sum_an1 : sumOf p1 anN = 50 := by simp [p1, sumOf, hs_an]
theorem posted1 : posted A0 p1 = A1 := by simp [posted, A0, A1, sum_hs1, sum_an1]
theorem sum_an2 : sumOf p2 anN = -60 := by simp [p2, sumOf, hs_an]
theorem sum_hs3 : sumOf p3 hsN = 50 := by simp [p3, sumOf, an_hs]
theorem sum_an3 : sumOf p3 anN = -50 := by simp [p3, sumOf, hs_an]
theorem may1 : mayE A0 p1 = 0 := by
  unfold mayE
  rw [if_neg (fun q => q (form2 hsN anN (-50) good_hs good_an (by decide) (by decide))), if_neg (fun q => q (there2 _ _ _ _ _ (by simp [names, p1]))), if_neg]
  rintro ⟨a, ha, -, hl⟩
  simp [A0] at ha
  rcases ha with rfl | rfl
  · simp [sum_hs1] at hl
  · simp [sum_an1] at hl
theorem may2 : mayE A1 p2 = 7 := by
  unfold mayE
  rw [if_neg (fun q => q (form2 anN hsN (-60) good_an good_hs (by decide) (by decide))), if_neg (fun q => q (there2 _ _ _ _ _ (by simp [names, p2]))), if_pos]
  exact ⟨⟨anN, 0, 50⟩, by simp [A1], by simp [names, p2], by simp [sum_an2]⟩
theorem may3 : mayE A1 p3 = 0 := by
  unfold mayE
  rw [if_neg (fun q => q (form2 hsN anN 50 good_hs good_an (by decide) (by decide))), if_neg (fun q => q (there2 _ _ _ _ _ (by simp [names, p3]))), if_neg]
  rintro ⟨a, ha, -, hl⟩
  simp [A1] at ha
  rcases ha with rfl | rfl
  · simp [sum_hs3] at hl
  · simp [sum_an3] at hl
theorem sound0 : Sound A0 := (Sound.nil.opened good_hs (by decide) (by decide) rfl (by decide)).opened good_an (by decide) (by decide) (by simp [nms, idx, hs_an]) (by decide)
theorem formed1 : Formed p1 := form2 hsN anN (-50) good_hs good_an (by decide) (by decide)
theorem sound1 : Sound A1 := by
  rw [← posted1]
  exact sound0.posted formed1 (there2 _ _ _ _ _ (by simp [names, p1])) (fun ⟨a, ha, _, hl⟩ => by
    simp [A0] at ha
    rcases ha with rfl | rfl
    · simp [sum_hs1] at hl
    · simp [sum_an1] at hl)

set_option maxRecDepth 100000 in
set_option maxHeartbeats 4000000 in
theorem known_c (w : World) : Calls Try.prog 6 #[] w fun e w' => e = .returned (.bool true) ∧ Below w.heap.size w w' := by
  go_enter Try.func6, Try.ntmps6
  go_wp2_with fail
  refine (New_c w).mono ?_
  rintro e w1 ⟨rfl, hw1⟩
  have HK1 := hide (hw1 ▸ KL.new w)
  clear hw1
  go_wp2_with fail
  have q2 := Open_ok _ _ _ hsN (-1000) _ HK1.out.obj good_hs (by decide) (by decide) rfl (by decide)
  rw [HK1.out.b] at q2
  refine q2.mono ?_
  clear q2
  rintro e w2 ⟨rfl, F2, ho2, hs2⟩
  have HK2 := hide (HK1.out.step ho2 hs2)
  clear HK1 ho2 hs2
  go_wp2_with fail
  have q3 := Open_ok _ _ _ anN 0 _ HK2.out.obj good_an (by decide) (by decide) (by simp [nms, idx, hs_an]) (by simp)
  rw [HK2.out.b] at q3
  refine q3.mono ?_
  clear q3
  rintro e w3 ⟨rfl, F3, ho3, hs3⟩
  have HK3 := hide (HK2.out.step ho3 hs3)
  clear HK2 ho3 hs3
  obtain ⟨W3, hW3⟩ : ∃ W3, W3 = w3.alloc (.cells #[.string hsN, .int .i64 (-50), .string anN, .int .i64 50] 63) := ⟨_, rfl⟩
  have HE3 := hide (show Ents (some ⟨w3.heap.size, 0, none⟩) 2 p1 W3 from hW3 ▸ Ents.two w3 _ _ _ _)
  have HK3' := hide (show KL w (w.heap.size + 3) (fun _ => False) F3 ⟨A0, []⟩ W3 from HK3.out.below (by rw [hW3]; (focus repeat' (first | (with_reducible exact Below.refl _ _) | (with_reducible assumption) | (with_reducible refine Below.alloc ?_ ?_ _) | (with_reducible refine Below.drew ?_) | (with_reducible refine bdrewN ?_ _) | (with_reducible refine Below.setCell ?_ ?_ _) | (first | (with_reducible exact Nat.le_refl _) | (with_reducible assumption) | omega | (simp; omega) | (simp; done))))))
  clear HK3
  go_wp2_with fail
  rw [show (((⟨#[104, 111, 117, 115, 101]⟩ : ByteArray)) : ByteArray) = hsN from rfl, show (((⟨#[97, 110, 110]⟩ : ByteArray)) : ByteArray) = anN from rfl, ← hW3]
  clear hW3
  have q4 := Post_yes _ _ _ _ _ p1 _ HK3'.out.obj HE3.out sound0 may1 (by decide) (HE3.out.apart (by decide) HK3'.out.obj.mm)
  rw [HK3'.out.b] at q4
  refine q4.mono ?_
  clear q4
  rintro e w4 ⟨rfl, I4, F4, ho4, hs4⟩
  have HK4 := hide (show KL w (w.heap.size + 3) I4 F4 ⟨A1, [p1]⟩ w4 from by
    have q := HK3'.out.step ho4 hs4
    rw [posted1] at q
    exact q)
  clear ho4 hs4 HK3' HE3
  obtain ⟨W4, hW4⟩ : ∃ W4, W4 = w4.alloc (.cells #[.string anN, .int .i64 (-60), .string hsN, .int .i64 60] 63) := ⟨_, rfl⟩
  have HE4 := hide (show Ents (some ⟨w4.heap.size, 0, none⟩) 2 p2 W4 from hW4 ▸ Ents.two w4 _ _ _ _)
  have HK4' := hide (show KL w (w.heap.size + 3) I4 F4 ⟨A1, [p1]⟩ W4 from HK4.out.below (by rw [hW4]; (focus repeat' (first | (with_reducible exact Below.refl _ _) | (with_reducible assumption) | (with_reducible refine Below.alloc ?_ ?_ _) | (with_reducible refine Below.drew ?_) | (with_reducible refine bdrewN ?_ _) | (with_reducible refine Below.setCell ?_ ?_ _) | (first | (with_reducible exact Nat.le_refl _) | (with_reducible assumption) | omega | (simp; omega) | (simp; done))))))
  clear HK4
  go_wp2_with fail
  rw [show (((⟨#[104, 111, 117, 115, 101]⟩ : ByteArray)) : ByteArray) = hsN from rfl, show (((⟨#[97, 110, 110]⟩ : ByteArray)) : ByteArray) = anN from rfl, ← hW4]
  clear hW4
  have q5 := Post_no _ _ _ _ _ p2 _ HK4'.out.obj HE4.out sound1 (by rw [may2]; decide)
  rw [HK4'.out.b, may2] at q5
  refine q5.mono ?_
  clear q5
  rintro e w5 ⟨rfl, hb5⟩
  have HK5 := hide (HK4'.out.below hb5)
  clear hb5 HK4' HE4
  go_wp2_with fail
  have q6 := Has_yes _ _ _ anN 1 ⟨anN, 0, 50⟩ _ HK5.out.obj (by decide) (idx_an [] _ _ _ _) rfl (by decide)
  rw [HK5.out.b] at q6
  refine q6.mono ?_
  clear q6
  rintro e w6 ⟨rfl, rfl⟩
  go_wp2_with fail
  have q7 := Back_yes _ _ _ 0 p1 _ HK5.out.obj rfl ⟨sound1, by simp; exact formed1, by decide⟩
  rw [HK5.out.b] at q7
  refine q7.mono ?_
  clear q7
  rintro e w7 (⟨h1, -⟩ | ⟨-, rfl, I7, F7, ho7, hs7⟩)
  · rw [neg_p1] at h1
    exact absurd may3 h1
  have HK7 := hide (HK5.out.step ho7 hs7)
  clear ho7 hs7 HK5
  go_wp2
  go_ret
  exact ⟨rfl, HK7.out.low⟩
end Go.Proofs.Ytkdocoibfclfeaa

namespace Go.Proofs.Ytkdocoibfclfeaa
open Go.ChangeShapes Go.WideShapes Go.ChangeAt Go.RowKit Go.Deep Go.Maps Go.ChangeMaps Go.WideMaps
set_option linter.unusedSimpArgs false
set_option linter.unusedVariables false

def accAt0 (A : List Acc) (i : Nat) : Acc := A.getD i ⟨ByteArray.empty, 0, 0⟩
def flatA (A : List Acc) : List Value := A.flatMap fun a => [.string a.name, .int .i64 a.least, .int .i64 a.has]
theorem flatA_cons (a : Acc) (A : List Acc) : flatA (a :: A) = .string a.name :: .int .i64 a.least :: .int .i64 a.has :: flatA A := rfl
theorem flatA_len (A : List Acc) : (flatA A).length = A.length * 3 := by
  induction A with
  | nil => rfl
  | cons x r ih => rw [flatA_cons]; simp only [List.length_cons, ih]; omega
theorem flatA_at (A : List Acc) : ∀ i, i < A.length → (flatA A)[i * 3]? = some (.string (accAt0 A i).name) ∧ (flatA A)[i * 3 + 1]? = some (.int .i64 (accAt0 A i).least) ∧ (flatA A)[i * 3 + 2]? = some (.int .i64 (accAt0 A i).has) := by
  induction A with
  | nil => intro i h; simp at h
  | cons x r ih =>
    intro i h
    rcases i with _ | i
    · exact ⟨rfl, rfl, rfl⟩
    · have e : (i + 1) * 3 = i * 3 + 1 + 1 + 1 := by omega
      rw [flatA_cons, e]
      simp only [List.getElem?_cons_succ]
      exact ih i (by simpa using h)
theorem accAt0_get {A : List Acc} {i : Nat} (h : i < A.length) : A[i]? = some (accAt0 A i) := by
  unfold accAt0; rw [List.getD_eq_getElem?_getD, List.getElem?_eq_getElem h]; rfl
theorem flatA_snoc (A : List Acc) (a : Acc) : flatA (A ++ [a]) = flatA A ++ [.string a.name, .int .i64 a.least, .int .i64 a.has] := by simp [flatA]
theorem take_snocA (A : List Acc) (k : Nat) (h : k < A.length) : A.take (k + 1) = A.take k ++ [accAt0 A k] := by
  rw [List.take_succ_eq_append_getElem h]; unfold accAt0; rw [List.getD_eq_getElem?_getD, List.getElem?_eq_getElem h]; rfl
/-- three cells more are written -/
theorem fill3 {xs : List Value} {A : List Acc} {k : Nat} (hk : k < A.length) (hl : xs.length = A.length * 3) (ht : xs.take (k * 3) = flatA (A.take k)) :
    (((xs.set (k * 3) (.string (accAt0 A k).name)).set (k * 3 + 1) (.int .i64 (accAt0 A k).least)).set (k * 3 + 2) (.int .i64 (accAt0 A k).has)).take ((k + 1) * 3) = flatA (A.take (k + 1)) := by
  rw [take_snocA A k hk, flatA_snoc, ← ht]
  apply List.ext_getElem?
  intro i
  have hlen : (xs.take (k * 3)).length = k * 3 := by rw [List.length_take]; omega
  rcases Nat.lt_or_ge i ((k + 1) * 3) with hi | hi
  · rw [List.getElem?_take_of_lt hi]
    rcases Nat.lt_or_ge i (k * 3) with h2 | h2
    · rw [List.getElem?_append_left (by omega), List.getElem?_take_of_lt h2, List.getElem?_set_ne (by omega), List.getElem?_set_ne (by omega), List.getElem?_set_ne (by omega)]
    · rw [List.getElem?_append_right (by omega), hlen]
      rcases (by omega : i = k * 3 ∨ i = k * 3 + 1 ∨ i = k * 3 + 2) with rfl | rfl | rfl
      · rw [List.getElem?_set_ne (by omega), List.getElem?_set_ne (by omega), List.getElem?_set_self (by omega)]; simp
      · rw [List.getElem?_set_ne (by omega), List.getElem?_set_self (by simp; omega)]; simp
      · rw [List.getElem?_set_self (by simp; omega)]
        rw [show k * 3 + 2 - k * 3 = 2 by omega]; rfl
  · rw [List.getElem?_eq_none (by rw [List.length_take]; omega), List.getElem?_eq_none (by rw [List.length_append, hlen]; simp; omega)]
theorem info70 : (Try.prog.info? 70).map (fun i => (i.zero, i.size, i.bytes)) = some (some (.agg #[.string ⟨#[]⟩, .int .i64 0, .int .i64 0]), 3, 32) := by kernel_rfl
/-- an iterator over accounts, made -/
structure AccIt (B : Nat) (A : List Acc) (Bx g : Nat) (w : World) : Prop where
  lb : B ≤ Bx
  lg : B ≤ g
  ne : Bx ≠ g
  c : w.cell? ⟨Bx, 0, none⟩ = some (.slice (some ⟨g, 0, none⟩) A.length A.length)
  own : w.ownsRow B 70 3 (.slice (some ⟨g, 0, none⟩) A.length A.length) A.length (flatA A)
set_option maxRecDepth 100000 in
set_option maxHeartbeats 4000000 in
theorem Accounts_c (I : Nat → Prop) (F : Fp) (S : LS) (w : World) (h : LObj I F S w) (hm : S.acc.length ≤ 65536) : Calls Try.prog 29 #[.pointer (some ⟨F.b, 0, none⟩)] w (fun e w' => ∃ Bx g, e = .returned (.func (.func 53) #[] #[.pointer (some ⟨Bx, 0, none⟩)]) ∧ AccIt w.heap.size S.acc Bx g w' ∧ Below w.heap.size w w') := by
  obtain ⟨i0, hi0, hz0, hz1, hz2⟩ := info_parts info70
  have H := hide h
  have hbz := h.lt (.inl rfl)
  clear h
  go_enter Try.func29, Try.ntmps29
  go_wp2_with fail
  refine (Len_c I F S _ H.out).mono ?_
  rintro e w1 ⟨rfl, hb1⟩
  obtain ⟨wm, hrun, hown0, hgr0⟩ := run_make_full (P := Try.prog) w1 w.heap.size 117 70 i0 _ 3 Try.underlying117 hi0 hz0 hz1 .i64 .i64 S.acc.length (by rw [hz2]; omega) (by unfold maxLen; omega) hb1.size
  have hrun' : Sem.run Try.prog (Instr.makeSlice 117 (Value.int IntKind.i64 (S.acc.length : Int)) (Value.int IntKind.i64 (S.acc.length : Int))) w1 = .ok (.slice (some ⟨w1.heap.size, 0, none⟩) S.acc.length S.acc.length) wm := hrun
  have HOW0 := hide hown0
  have HBM := hide (show Below w.heap.size w wm from hb1.grown hgr0 hb1.size (fun k e => by cases e))
  have hzm : w1.heap.size < wm.heap.size := (hown0.lt _ rfl).2
  have hz1' := hb1.size
  have HZ := hide (And.intro hz1' hzm)
  clear hrun hown0 hgr0 hb1
  go_wp2
  go_loopw [16] (fun v16 wr => ∃ (k : Nat) (xs : List Value), k ≤ S.acc.length ∧ v16 = .int .i64 (k : Int) ∧ wr.cell? ⟨wm.heap.size, 0, none⟩ = some (.slice (some ⟨w1.heap.size, 0, none⟩) S.acc.length S.acc.length) ∧ wr.ownsRow w.heap.size 70 3 (.slice (some ⟨w1.heap.size, 0, none⟩) S.acc.length S.acc.length) S.acc.length xs ∧ xs.take (k * 3) = flatA (S.acc.take k) ∧ Below w.heap.size w wr) (fun v16 _ => S.acc.length - (intOf v16).toNat)
  case atStart => exact ⟨0, _, Nat.zero_le _, rfl, by simp [go_sem], HOW0.out.alloc _, by simp; rfl, HBM.out.alloc HBM.out.size _⟩
  case round =>
    obtain ⟨k, xs, hk, rfl, hcb, hown, htk, hbw⟩ := hrel
    have HCB := hide hcb
    have HO := hide hown
    have HT := hide htk
    have HBW := hide hbw
    clear hown htk hbw
    by_cases hlt : k < S.acc.length
    · have HOB := hide (H.out.below HBW.out)
      have hxl := HO.out.1
      have n0 : (0 : Int) ≤ (k : Int) := by omega
      have n1 : (k : Int) < (S.acc.length : Int) := by omega
      have b1 : wr.cell? ⟨F.b, 1, none⟩ = some (.map (some F.m)) := HOB.out.b1
      obtain ⟨a, ha⟩ : ∃ a, a = accAt0 S.acc k := ⟨_, rfl⟩
      have hget : S.acc[k]? = some a := by rw [ha]; exact accAt0_get hlt
      have ql := acc_look (w := wr.drew) (HOB.out.mm.stays (Nat.le_refl _) rfl) (show k < 9223372036854775808 by omega) hget
      have c0 : ∃ u, wr.cell? ⟨w1.heap.size, k * 3, none⟩ = some u := by
        rw [HO.out.cellAt (k * 3) (by omega), List.getElem?_eq_getElem (by omega)]; exact ⟨_, rfl⟩
      have c1 : ∃ u, wr.cell? ⟨w1.heap.size, k * 3 + 1, none⟩ = some u := by
        rw [HO.out.cellAt (k * 3 + 1) (by omega), List.getElem?_eq_getElem (by omega)]; exact ⟨_, rfl⟩
      have c2 : ∃ u, wr.cell? ⟨w1.heap.size, k * 3 + 2, none⟩ = some u := by
        rw [HO.out.cellAt (k * 3 + 2) (by omega), List.getElem?_eq_getElem (by omega)]; exact ⟨_, rfl⟩
      obtain ⟨u0, c0⟩ := c0
      obtain ⟨u1, c1⟩ := c1
      obtain ⟨u2, c2⟩ := c2
      have f0 := HO.out.frozenAt (k * 3)
      have f1 := HO.out.frozenAt (k * 3 + 1)
      have f2 := HO.out.frozenAt (k * 3 + 2)
      have HA := hide ha
      clear ha hxl hget
      go_wp2
      go_still_tail 9, (by kernel_rfl)
      obtain ⟨wd, hwd⟩ : ∃ wd : World, wd = ({ heap := wr.heap, tape := wr.tape, drawn := wr.drawn + 1, os := wr.os, output := wr.output } : World) := ⟨_, rfl⟩
      have d0 : wd.cell? ⟨w1.heap.size, k * 3, none⟩ = some u0 := by rw [hwd]; exact c0
      have d1 : wd.cell? ⟨w1.heap.size, k * 3 + 1, none⟩ = some u1 := by rw [hwd]; exact c1
      have d2 : wd.cell? ⟨w1.heap.size, k * 3 + 2, none⟩ = some u2 := by rw [hwd]; exact c2
      have e0 : wd.frozen? ⟨w1.heap.size, k * 3, none⟩ = false := by rw [hwd]; exact f0
      have e1 : wd.frozen? ⟨w1.heap.size, k * 3 + 1, none⟩ = false := by rw [hwd]; exact f1
      have e2 : wd.frozen? ⟨w1.heap.size, k * 3 + 2, none⟩ = false := by rw [hwd]; exact f2
      have HWO := hide (show wd.ownsRow w.heap.size 70 3 (.slice (some ⟨w1.heap.size, 0, none⟩) S.acc.length S.acc.length) S.acc.length xs from by rw [hwd]; exact HO.out)
      have HWB := hide (show Below w.heap.size w wd from by rw [hwd]; exact HBW.out.drew)
      have HWC := hide (show wd.cell? ⟨wm.heap.size, 0, none⟩ = some (.slice (some ⟨w1.heap.size, 0, none⟩) S.acc.length S.acc.length) from by rw [hwd]; exact HCB.out)
      rw [← hwd]
      clear hwd c0 c1 c2 f0 f1 f2 ql b1 hcb
      go_wp2
      go_roundw
      case rel =>
        have s0 := HWO.out.stored (k * 3) (.string a.name)
        have s1 := s0.1.stored (k * 3 + 1) (.int .i64 a.least)
        have s2 := s1.1.stored (k * 3 + 2) (.int .i64 a.has)
        refine ⟨k + 1, _, by omega, by go_num, ?_, s2.1, ?_, ?_⟩
        · have hz := HZ.out.2
          have hne : wm.heap.size ≠ w1.heap.size := by omega
          exact cell_stay (cell_stay (cell_stay HWC.out (heap_setCell_other wd ⟨w1.heap.size, k * 3, none⟩ _ _ hne)) (heap_setCell_other _ ⟨w1.heap.size, k * 3 + 1, none⟩ _ _ hne)) (heap_setCell_other _ ⟨w1.heap.size, k * 3 + 2, none⟩ _ _ hne)
        · rw [HA.out]
          exact fill3 hlt HO.out.1 HT.out
        · exact ((HWB.out.setCell (p := ⟨w1.heap.size, k * 3, none⟩) HZ.out.1 _).setCell (p := ⟨w1.heap.size, k * 3 + 1, none⟩) HZ.out.1 _).setCell (p := ⟨w1.heap.size, k * 3 + 2, none⟩) HZ.out.1 _
      case measure => simp [intOf]; omega
    · have hke : k = S.acc.length := by omega
      have HKE := hide hke
      clear hke
      go_wp2
      refine bodyPost_ret (v := .func (.func 53) #[] #[.pointer (some ⟨wm.heap.size, 0, none⟩)]) (by simp [results, Try.f29, go_sem]) rfl ⟨_, _, rfl, ⟨?_, HZ.out.1, ?_, HCB.out, ?_⟩, HBW.out⟩
      · have := HZ.out; omega
      · have := HZ.out; omega
      · have hx : xs = flatA S.acc := by
          have := HT.out
          rw [HKE.out, List.take_length, List.take_of_length_le (by have := HO.out.1; omega)] at this
          exact this
        rw [← hx]
        exact HO.out
set_option maxRecDepth 100000 in
set_option maxHeartbeats 2000000 in
theorem Accounts_none (pv : Option Addr) (w : World) (hlen : Calls Try.prog 25 #[.pointer pv] w fun e w' => e = .returned (.tuple #[.int .i64 0, .int .i64 0]) ∧ w = w') : Calls Try.prog 29 #[.pointer pv] w (fun e w' => ∃ Bx g, e = .returned (.func (.func 53) #[] #[.pointer (some ⟨Bx, 0, none⟩)]) ∧ AccIt w.heap.size [] Bx g w' ∧ Below w.heap.size w w') := by
  obtain ⟨i0, hi0, hz0, hz1, hz2⟩ := info_parts info70
  obtain ⟨wm, hrun, hown0, hgr0⟩ := run_make_full (P := Try.prog) w w.heap.size 117 70 i0 _ 3 Try.underlying117 hi0 hz0 hz1 .i64 .i64 0 (by omega) (by unfold maxLen; omega) (Nat.le_refl _)
  have hrun' : Sem.run Try.prog (Instr.makeSlice 117 (Value.int IntKind.i64 0) (Value.int IntKind.i64 0)) w = .ok (.slice (some ⟨w.heap.size, 0, none⟩) 0 0) wm := hrun
  have HOW0 := hide hown0
  have HBM := hide (show Below w.heap.size w wm from (Below.refl _ _).grown hgr0 (Nat.le_refl _) (fun k e => by cases e))
  have hzm : w.heap.size < wm.heap.size := (hown0.lt _ rfl).2
  have HL := hide hlen
  clear hrun hown0 hgr0 hlen
  go_enter Try.func29, Try.ntmps29
  go_wp2_with fail
  refine HL.out.mono ?_
  rintro e w1 ⟨rfl, rfl⟩
  go_wp2
  refine wp_loop_rounds 1 ?_
  rw [rounds_succ]
  go_wp2
  refine bodyPost_ret (v := .func (.func 53) #[] #[.pointer (some ⟨wm.heap.size, 0, none⟩)]) (by simp [results, Try.f29, go_sem]) rfl ⟨_, w.heap.size, rfl, ⟨by omega, Nat.le_refl _, by omega, by simp [go_sem], ?_⟩, HBM.out.alloc HBM.out.size _⟩
  have hx := List.length_eq_zero_iff.1 (HOW0.out.1.trans (Nat.zero_mul 3))
  have q := HOW0.out
  rw [hx] at q
  exact (own_stays q (fun k hk => Below.heap_alloc _ _ _ (q.lt k hk).2))
end Go.Proofs.Ytkdocoibfclfeaa

namespace Go.Proofs.Ytkdocoibfclfeaa.it
open Go.RowKit Go.Deep Go.Shelf
set_option linter.unusedVariables false
set_option linter.unusedSimpArgs false

/-- what speaks of blocks below B alone -/
def Stays {β : Type} (B : Nat) (J : β → World → Prop) : Prop := ∀ s W W', J s W → Below B W W' → J s W'
theorem below_put (B : Nat) (W : World) (l : Nat) (o : Obj) (hl : B ≤ l) : Below B W (W.putObj l o) :=
  ⟨rfl, rfl, rfl, by simp, fun i hi => World.putObj_heap_other (by omega)⟩
theorem Stays.put {β : Type} {B : Nat} {J : β → World → Prop} (h : Stays B J) {s : β} {W : World} {l : Nat} (o : Obj) (hs : J s W) (hl : B ≤ l) : J s (W.putObj l o) :=
  h s W _ hs (below_put B W l o hl)
theorem Stays.set {β : Type} {B : Nat} {J : β → World → Prop} (h : Stays B J) {s : β} {W : World} {b : Nat} (o : Nat) (u : Value) (hs : J s W) (hb : B ≤ b) : J s (W.setCell ⟨b, o, none⟩ u) :=
  h s W _ hs ((Below.refl B W).setCell (p := ⟨b, o, none⟩) hb u)
theorem Stays.step {β : Type} {B : Nat} {J : β → World → Prop} (h : Stays B J) {s : β} {W W' : World} (hs : J s W) (hb : Below W.heap.size W W') (hB : B ≤ W.heap.size) : J s W' :=
  h s W W' hs (hb.mono hB)
theorem Stays.lay {β : Type} {B : Nat} {J : β → World → Prop} (h : Stays B J) {s : β} {W : World} (o : Obj) (hs : J s W) (hB : B ≤ W.heap.size) : J s (W.alloc o) :=
  h s W _ hs ((Below.refl B W).alloc hB o)
theorem Stays.both {β : Type} {B : Nat} {J K : β → World → Prop} (h : Stays B J) (k : Stays B K) : Stays B (fun s W => J s W ∧ K s W) :=
  fun s W W' hs hb => ⟨h s W W' hs.1 hb, k s W W' hs.2 hb⟩
theorem stays_below {β : Type} {n₀ B : Nat} {w₀ : World} (hB : n₀ ≤ B) : Stays B (fun (_ : β) W => Below n₀ w₀ W) :=
  fun _ _ _ hs hb => hs.trans (hb.mono hB)
theorem stays_old {β : Type} {B : Nat} {I : β → World → Prop} (h : ∀ s W W', (∀ b, b < B → W'.heap[b]? = W.heap[b]?) → I s W → I s W') : Stays B (fun s W => B ≤ W.heap.size ∧ I s W) :=
  fun s W W' hs hb => ⟨Nat.le_trans hs.1 hb.size, h s W W' (fun b hlt => hb.block b hlt) hs.2⟩
/-- the blocks of K lie as they lay -/
structure Fix (K : Nat → Prop) (V V' : World) : Prop where
  size : V.heap.size ≤ V'.heap.size
  same : ∀ i, K i → i < V.heap.size → V'.heap[i]? = V.heap[i]?
theorem Fix.trans {K : Nat → Prop} {V V1 V2 : World} (h : Fix K V V1) (k : Fix K V1 V2) : Fix K V V2 :=
  ⟨Nat.le_trans h.size k.size, fun i hi hl => (k.same i hi (Nat.lt_of_lt_of_le hl h.size)).trans (h.same i hi hl)⟩
theorem Fix.of_below {K : Nat → Prop} {V V' : World} (h : Below V.heap.size V V') : Fix K V V' := ⟨h.size, fun i _ hl => h.block i hl⟩
theorem Fix.of {K K' : Nat → Prop} {V V' : World} (h : Fix K V V') (hk : ∀ i, i < V.heap.size → K' i → K i) : Fix K' V V' := ⟨h.size, fun i hi hl => h.same i (hk i hl hi) hl⟩
theorem Fix.set {K : Nat → Prop} {V V' : World} (h : Fix K V V') {b : Nat} (hb : ¬ K b) (o : Nat) (u : Value) : Fix K V (V'.setCell ⟨b, o, none⟩ u) :=
  ⟨by rw [World.size_setCell]; exact h.size, fun i hi hl => (heap_setCell_other V' ⟨b, o, none⟩ i u (fun e => hb (by (have e' : i = b := by simpa using e); exact e' ▸ hi))).trans (h.same i hi hl)⟩
theorem Fix.lay {K : Nat → Prop} {V V' : World} (h : Fix K V V') (o : Obj) : Fix K V (V'.alloc o) := h.trans (.of_below ((Below.refl _ V').alloc (Nat.le_refl _) o))
theorem Fix.cell {K : Nat → Prop} {V V' : World} (h : Fix K V V') {p : Addr} (hk : K p.block) (hl : p.block < V.heap.size) : V'.cell? p = V.cell? p := World.cell?_of_block (h.same _ hk hl)
/-- an iterator that may keep cells of its own: over whatever speaks of blocks older than its call -/
def SeqR {α : Type} (n : Nat) (P : Program) (g : Nat) (lb : Array Value) (encs : α → Array Value) (K : Nat → Prop) (S Sp : List α → Prop) (Nx : List α → α → Prop) (w : World) : Prop :=
  ∀ (l : Nat) (J Jx : List α → World → Prop) (W : World), Below w.heap.size w W → Stays W.heap.size J → Stays W.heap.size Jx →
    (∀ pre x V, J pre V → Nx pre x → YieldAt Fence.wide (n - 1) P l (encs x) V fun e V' => (e = .returned (.bool true) ∧ J (pre ++ [x]) V' ∧ Fix (fun i => K i ∨ W.heap.size ≤ i) V V') ∨ (e = .returned (.bool false) ∧ Jx (pre ++ [x]) V')) →
    J [] W → CallsIn Fence.wide n P g (#[.func (.yield l) #[] #[]] ++ lb) W fun e V' => (∃ v, e = .returned v) ∧ ((∃ xs, S xs ∧ J xs V') ∨ (∃ pre, Sp pre ∧ Jx pre V'))
section
variable {P : Program} {n : Nat}
/-- THE LAW: the loop over such an iterator -/
theorem range_R {α : Type} {g : Operand} {ps : Array Tmp} {assign body : Code} {Q : Exit → Act → World → Prop} {a : Act} {w : World} (h1 : 1 ≤ n) {gf : Nat} {lb : Array Value} (hg : a.eval g = .func (.func gf) #[] lb)
    (eg : ∀ args w, (callFunc gf args).run P w = .ok (.enter gf args) w) {encs : α → Array Value} {K : Nat → Prop} {S Sp : List α → Prop} {Nx : List α → α → Prop} {w0 : World} (hseq : SeqR (n - 1) P gf lb encs K S Sp Nx w0) (hK : ∀ i, K i → i < w.heap.size)
    (hb0 : Below w0.heap.size w0 w) (hps : ∀ x, (encs x).size = ps.size) (I : List α → World → Prop) (Ix : Code → List α → World → Prop) (hI : Stays w.heap.size I) (hIx : ∀ c, Stays w.heap.size (Ix c)) (h0 : I [] w) (Ax : α → Act → World → Prop) (hAx : ∀ x a' W o, Ax x a' W → Ax x a' (W.putObj (w.heap.size + 1) o))
    (hassign : ∀ (l : Nat) (pre : List α) (x : α) (W : World) (K' : Act → World → Prop), I pre W → Nx pre x → w.heap.size + 1 < W.heap.size → (∀ a' W', KeepsOthers W W' → Fix (fun i => K i ∨ w.heap.size ≤ i) W W' → I pre W' → Ax x a' W' → K' a' W') →
      assign.wpIn (Fence.wide.inRound l) (n - 1 - 1) P (Exit.then K' (fun _ _ _ => False)) { tmps := (ps.zip (encs x)).foldl (fun t (p, v) => t.setIfInBounds p v) a.tmps, defers := [] } W)
    (hbody : ∀ (l : Nat) (pre : List α) (x : α) (a' : Act) (W : World), I pre W → Nx pre x → Ax x a' W → body.wpIn (Fence.wide.inRound l) (n - 1 - 1) P (ownPostK (Fix (fun i => K i ∨ w.heap.size ≤ i)) I Ix (pre ++ [x]) W) a' W)
    (hdone : ∀ (D : Nat) (xs : List α) (W : World), w.heap.size ≤ D → S xs → I xs W → W.heap[D]? = some (.deferred (some [])) → Q .normal { a with defers := { target := .collected D, args := #[] } :: a.defers } W)
    (hstop : ∀ (D : Nat) (c : Code) (pre : List α) (W : World), w.heap.size ≤ D → Sp pre → Ix c pre W → W.heap[D]? = some (.deferred (some [])) → c.wpIn Fence.wide n P Q { a with defers := { target := .collected D, args := #[] } :: a.defers } W) :
    (Code.rangeFunc g ps assign body).wpIn Fence.wide n P Q a w := by
  refine wpIn_rangeFunc (fun fn hfn => ?_)
  -- the loop's record, in each of its states
  obtain ⟨lp, hlp⟩ : ∃ lp : LoopState → Option Code → Loop, ∀ st pe, lp st pe = { state := st, pending := pe, fn := fn, tmps := a.tmps, params := ps, assign := assign, body := body, defers := w.heap.size } := ⟨_, fun _ _ => rfl⟩
  obtain ⟨V, hV⟩ : ∃ V, V = (w.alloc (.deferred (some []))).alloc (.loop (lp .ready none)) := ⟨_, rfl⟩
  have hVz : V.heap.size = w.heap.size + 2 := by rw [hV]; simp
  have rec0 : V.heap[w.heap.size + 1]? = some (.loop (lp .ready none)) := by
    rw [hV]; have := World.alloc_heap_new (w.alloc (.deferred (some []))) (.loop (lp .ready none)); rwa [World.size_alloc] at this
  have def0 : V.heap[w.heap.size]? = some (.deferred (some [])) := by
    rw [hV]; exact (Below.heap_alloc _ _ _ (by simp)).trans (World.alloc_heap_new w _)
  have low0 : Below w0.heap.size w0 V := hb0.trans (by rw [hV]; exact (((Below.refl _ w).alloc (Nat.le_refl _) _).alloc (by simp) _).mono hb0.size)
  have enter0 : (Instr.enterLoop fn a.tmps ps assign body Fence.wide.round).run P w = .ok (w.heap.size + 1, [{ target := .collected w.heap.size, args := #[] }]) V := by
    rw [hV, hlp]; exact run_enterLoop_outer _ _ _ _ _
  -- the two blocks of the loop's own are no one's else
  have stay : ∀ (p : Nat) (o : Obj), p < V.heap.size → Stays V.heap.size (fun (_ : List α) X => X.heap[p]? = some o) := fun p o hp s A B hs hb => (hb.block p hp).trans hs
  have hIV : Stays V.heap.size I := fun s A B hs hb => hI s A B hs (hb.mono (by omega))
  have hIxV : ∀ c, Stays V.heap.size (Ix c) := fun c s A B hs hb => hIx c s A B hs (hb.mono (by omega))
  have kpt : ∀ (X : World) (o : Obj), Fix (fun i => K i ∨ V.heap.size ≤ i) X (X.putObj (w.heap.size + 1) o) := fun X o =>
    ⟨by simp, fun i hi _ => World.putObj_heap_other (by rcases hi with h | h; (have := hK i h; omega); omega)⟩
  refine ⟨w.heap.size + 1, [{ target := .collected w.heap.size, args := #[] }], V, { target := .fn (.func gf) lb, args := #[.func (.yield (w.heap.size + 1)) #[] #[]] }, V, gf, #[.func (.yield (w.heap.size + 1)) #[] #[]] ++ lb, V,
    enter0, by (simp only [resolve, hg]; simp [go_sem]), fun _ _ => trivial, by simp [invoke, go_sem, eg], fun _ => h1, ?_⟩
  refine (hseq (w.heap.size + 1) (fun pre X => I pre X ∧ X.heap[w.heap.size + 1]? = some (.loop (lp .ready none)) ∧ X.heap[w.heap.size]? = some (.deferred (some [])))
    (fun pre X => ∃ c, Ix c pre X ∧ X.heap[w.heap.size + 1]? = some (.loop (lp .done (some c))) ∧ X.heap[w.heap.size]? = some (.deferred (some []))) V low0
    (hIV.both ((stay _ _ (by omega)).both (stay _ _ (by omega))))
    (fun s A B ⟨c, hc⟩ hb => ⟨c, ((hIxV c).both ((stay _ _ (by omega)).both (stay _ _ (by omega)))) s A B hc hb⟩) ?_ ⟨hI.lay _ (hI.lay _ h0 (Nat.le_refl _)) (by simp) |> fun q => by rw [hV]; exact q, rec0, def0⟩).mono ?_
  · -- a round
    rintro pre x X0 ⟨hi0, hl0, hk0⟩ hlen
    have hlt0 : w.heap.size + 1 < X0.heap.size := (Array.getElem?_eq_some_iff.1 hl0).1
    have hy := run_yield (P := P) (args := encs x) hl0 (by rw [hlp]; exact hps x)
    rw [hlp] at hy
    refine ⟨fn, _, assign, body, hy, roundIn_of_wpIn hfn (hassign _ pre x X0 _ hi0 hlen hlt0 (fun a' X hko hfx hi hax => ?_))⟩
    have hl := hko.same _ _ hl0 rfl
    have hk := hko.same _ _ hk0 rfl
    have hlt : w.heap.size + 1 < X.heap.size := (Array.getElem?_eq_some_iff.1 hl).1
    refine ⟨_, run_beginRound hl (by rw [hlp]), ?_⟩
    have kp0 : Fix (fun i => K i ∨ V.heap.size ≤ i) X0 X := hfx.of (fun i _ h => h.imp id (fun h => by omega))
    obtain ⟨Y, hY⟩ : ∃ Y, Y = X.putObj (w.heap.size + 1) (.loop { lp .ready none with state := .busy }) := ⟨_, rfl⟩
    have busyY : Y.heap[w.heap.size + 1]? = some (.loop { lp .ready none with state := .busy }) := by rw [hY]; exact World.putObj_heap_same hlt
    have defY : Y.heap[w.heap.size]? = some (.deferred (some [])) := by rw [hY]; exact (World.putObj_heap_other (by omega)).trans hk
    have kpY : Fix (fun i => K i ∨ V.heap.size ≤ i) X Y := by rw [hY]; exact kpt _ _
    have haY : Ax x a' Y := by rw [hY]; exact hAx _ _ _ _ hax
    have hiY : I pre Y := by rw [hY]; exact hI.put _ hi (by omega)
    rw [← hY]
    -- the round's end
    have fin : ∀ (j : Option Code) (Z : World), KeepsOthers Y Z → ∃ Z', (Instr.endRound (w.heap.size + 1) j).run P Z = .ok (.bool j.isNone) Z' ∧ Z' = Z.putObj (w.heap.size + 1) (.loop (lp (if j.isNone then .ready else .done) j)) ∧
        Z'.heap[w.heap.size + 1]? = some (.loop (lp (if j.isNone then .ready else .done) j)) ∧ Z'.heap[w.heap.size]? = some (.deferred (some [])) := fun j Z hkZ => by
      have hb := hkZ.same _ _ busyY rfl
      have hrun := run_endRound (P := P) j hb
      rw [hlp] at hrun
      rw [hlp]
      exact ⟨_, hrun, rfl, World.putObj_heap_same (Array.getElem?_eq_some_iff.1 hb).1, (World.putObj_heap_other (by omega)).trans (hkZ.same _ _ defY rfl)⟩
    refine wpIn_mono (hbody _ pre x a' _ hiY hlen haY) ?_
    have out : ∀ (c : Code) (Z : World), KeepsOthers Y Z → Ix c (pre ++ [x]) Z → ∃ v Z', (Instr.endRound (w.heap.size + 1) (some c)).run P Z = .ok v Z' ∧
        ((Ending.returned v = .returned (.bool true) ∧ (I (pre ++ [x]) Z' ∧ Z'.heap[w.heap.size + 1]? = some (.loop (lp .ready none)) ∧ Z'.heap[w.heap.size]? = some (.deferred (some []))) ∧ Fix (fun i => K i ∨ V.heap.size ≤ i) X0 Z') ∨
          (Ending.returned v = .returned (.bool false) ∧ ∃ c, Ix c (pre ++ [x]) Z' ∧ Z'.heap[w.heap.size + 1]? = some (.loop (lp .done (some c))) ∧ Z'.heap[w.heap.size]? = some (.deferred (some [])))) := fun c Z hkZ hiZ => by
      obtain ⟨Z', hr, rfl, hl4, hk4⟩ := fin (some c) Z hkZ
      exact ⟨_, _, hr, .inr ⟨rfl, c, (hIx c).put _ hiZ (by omega), hl4, hk4⟩⟩
    rintro e a3 Z hp
    cases e with
    | normal =>
      obtain ⟨hkZ, hkp, hiZ⟩ := hp
      obtain ⟨Z', hr, rfl, hl4, hk4⟩ := fin none Z hkZ
      exact ⟨_, _, hr, .inl ⟨rfl, ⟨hI.put _ hiZ (by omega), hl4, hk4⟩, ((kp0.trans kpY).trans (hkp.of (fun i _ h => h.imp id (fun h => by omega)))).trans (kpt _ _)⟩⟩
    | ret => exact out .ret Z hp.1 hp.2
    | exit id => exact out (.exit id) Z hp.1 hp.2
    | goto t => exact out (.goto t) Z hp.1 hp.2
    | panic ch => exact hp.elim
    | outgrown => exact hp.elim
  · -- behind the iterator
    rintro e X ⟨⟨v, rfl⟩, (⟨xs, hS, hi, hl, hk⟩ | ⟨pre, hSp, c, hi, hl, hk⟩)⟩
    · have hrun := run_endLoop (P := P) hl (by rw [hlp]; simp)
      rw [hlp] at hrun
      exact ⟨none, _, hrun, hdone _ xs _ (Nat.le_refl _) hS (hI.put _ hi (by omega)) ((World.putObj_heap_other (by omega)).trans hk)⟩
    · have hrun := run_endLoop (P := P) hl (by rw [hlp]; simp)
      rw [hlp] at hrun
      exact ⟨some c, _, hrun, hstop _ c pre _ (Nat.le_refl _) hSp ((hIx c).put _ hi (by omega)) ((World.putObj_heap_other (by omega)).trans hk)⟩
end
end Go.Proofs.Ytkdocoibfclfeaa.it

namespace Go.Proofs.Ytkdocoibfclfeaa
open Go.ChangeShapes Go.WideShapes Go.ChangeAt Go.RowKit Go.Deep Go.Shelf Go.Maps Go.WideMaps Ytkdocoibfclfeaa.it
set_option linter.unusedSimpArgs false
set_option linter.unusedVariables false

attribute [local go_sem] Oper.semAt_some

/-- what has come when k rounds are over -/
def upto {α : Type} (f : Nat → α) (k : Nat) : List α := (List.range k).map f
theorem upto_succ {α : Type} (f : Nat → α) (k : Nat) : upto f (k + 1) = upto f k ++ [f k] := by simp [upto, List.range_succ]
theorem upto_length {α : Type} (f : Nat → α) (k : Nat) : (upto f k).length = k := by simp [upto]
def numA (A : List Acc) (j : Nat) : Nat × Acc := (j, accAt0 A j)
abbrev encA (x : Nat × Acc) : Array Value := #[.int .i64 (x.1 : Int), .agg #[.string x.2.name, .int .i64 x.2.least, .int .i64 x.2.has]]
set_option maxRecDepth 100000 in
set_option maxHeartbeats 4000000 in
theorem acc_ok (n : Nat) (hn : 1 ≤ n) (l Bx g : Nat) (K : Nat → Prop) (A : List Acc) (hA : A.length ≤ 65536) (WS : World) (J Jx : List (Nat × Acc) → World → Prop)
    (hY : ∀ pre x W, J pre W → (∃ j, j < A.length ∧ pre = upto (numA A) j ∧ x = numA A j) → YieldAt Fence.wide (n - 1) Try.prog l #[.int .i64 (x.1 : Int), .agg #[.string x.2.name, .int .i64 x.2.least, .int .i64 x.2.has]] W fun e W' =>
      (e = .returned (.bool true) ∧ J (pre ++ [x]) W' ∧ Fix (fun i => K i ∨ WS.heap.size ≤ i) W W') ∨ (e = .returned (.bool false) ∧ Jx (pre ++ [x]) W'))
    (hJ : Stays WS.heap.size J) (hB1 : K Bx) (hB2 : K g) (hK : ∀ i, K i → i < WS.heap.size) (hc : WS.cell? ⟨Bx, 0, none⟩ = some (.slice (some ⟨g, 0, none⟩) A.length A.length))
    (hcl : ∀ j, j < A.length → WS.cell? ⟨g, j * 3, none⟩ = some (.string (accAt0 A j).name) ∧ WS.cell? ⟨g, j * 3 + 1, none⟩ = some (.int .i64 (accAt0 A j).least) ∧ WS.cell? ⟨g, j * 3 + 2, none⟩ = some (.int .i64 (accAt0 A j).has)) (h0 : J [] WS) :
    CallsIn Fence.wide n Try.prog 53 #[.func (.yield l) #[] #[], .pointer (some ⟨Bx, 0, none⟩)] WS fun e W' => (∃ v, e = .returned v) ∧
      ((∃ ys, ys = upto (numA A) A.length ∧ J ys W') ∨ (∃ pre, (∃ k, k ≤ A.length ∧ pre = upto (numA A) k) ∧ Jx pre W')) := by
  have HCL := hide hcl
  have hKx := hK Bx hB1
  have hKg := hK g hB2
  clear hcl
  refine callsIn_of_wp Try.func53 rfl trivial ?_ rfl
  simp only [Try.ntmps53, List.size_toArray, List.length_cons, List.length_nil, Nat.reduceAdd, Nat.reduceSub, Array.replicate_succ, Array.replicate_zero, List.push_toArray, List.append_toArray, List.nil_append, List.cons_append]
  gi_wp2
  gi_loopw [7] (fun v7 wr => ∃ j : Nat, j ≤ A.length ∧ v7 = .int .i64 (j : Int) ∧ J (upto (numA A) j) wr ∧ Fix K WS wr) (fun v7 _ => A.length - (intOf v7).toNat)
  case atStart => exact ⟨0, Nat.zero_le _, rfl, h0, Fix.of_below (Below.refl _ _)⟩
  case round =>
    obtain ⟨j, hj, rfl, hJs, hBw⟩ := hrel
    have HJS := hide hJs
    have HBW := hide hBw
    clear hJs hBw
    by_cases hlt : j < A.length
    · have hlt' : (j : Int) < (A.length : Int) := by omega
      have hz := HBW.out.size
      have hgw : g < wr.heap.size := by omega
      have HC0 := hide ((HBW.out.cell (p := ⟨g, j * 3, none⟩) hB2 hKg).trans (HCL.out j hlt).1)
      have HC1 := hide ((HBW.out.cell (p := ⟨g, j * 3 + 1, none⟩) hB2 hKg).trans (HCL.out j hlt).2.1)
      have HC2 := hide ((HBW.out.cell (p := ⟨g, j * 3 + 2, none⟩) hB2 hKg).trans (HCL.out j hlt).2.2)
      obtain ⟨a, ha⟩ : ∃ a, a = accAt0 A j := ⟨_, rfl⟩
      rw [← ha] at HC0 HC1 HC2
      have hc0 := HC0.out
      have hc1 := HC1.out
      have hc2 := HC2.out
      have HA := hide ha
      clear ha
      obtain ⟨V1, hV1⟩ : ∃ V1, V1 = wr.alloc (.cells #[.string a.name, .int .i64 a.least, .int .i64 a.has] 70) := ⟨_, rfl⟩
      have hbV : Below wr.heap.size wr V1 := by rw [hV1]; exact (Below.refl _ _).alloc (Nat.le_refl _) _
      have J1 : J (upto (numA A) j) V1 := hJ.step HJS.out hbV hz
      obtain ⟨fn, tmps, assign, body, hy, hR⟩ := hY _ (j, a) V1 J1 ⟨j, hlt, rfl, by rw [HA.out]; rfl⟩
      dsimp only at hy
      have HF1 := hide (HBW.out.trans (Fix.of_below hbV))
      rw [hV1] at hy
      have HV1 := hide hV1
      clear hV1 hbV J1
      gi_wp2_with fail
      rw [← HV1.out]
      refine hR.mono ?_
      rintro e W3 (⟨rfl, hJ3, hk3⟩ | ⟨rfl, hJx3⟩)
      · have HJ3 := hide hJ3
        have HB3 := hide (HF1.out.trans (hk3.of (fun i _ q => .inl q)))
        clear hJ3 hk3 hR hy
        gi_wp2
        go_roundw
        case rel => exact ⟨j + 1, by omega, by go_num, by (rw [upto_succ]; have q := HJ3.out; rw [HA.out] at q; exact q), HB3.out⟩
        case measure => (first | (simp [intOf]; done) | (simp [intOf]; omega))
      · have HJx3 := hide hJx3
        clear hJx3 hR hy
        gi_wp2
        refine bodyPost_ret (results_none rfl _ _ _) rfl ?_
        exact ⟨⟨_, rfl⟩, .inr ⟨upto (numA A) (j + 1), ⟨j + 1, by omega, rfl⟩, by (rw [upto_succ]; have q := HJx3.out; rw [HA.out] at q; exact q)⟩⟩
    · obtain rfl : j = A.length := by omega
      gi_wp2
      go_end0
      exact ⟨⟨_, rfl⟩, .inl ⟨_, rfl, HJS.out⟩⟩
theorem AccIt.cells {B : Nat} {A : List Acc} {Bx g : Nat} {w : World} (h : AccIt B A Bx g w) (j : Nat) (hj : j < A.length) : w.cell? ⟨g, j * 3, none⟩ = some (.string (accAt0 A j).name) ∧ w.cell? ⟨g, j * 3 + 1, none⟩ = some (.int .i64 (accAt0 A j).least) ∧ w.cell? ⟨g, j * 3 + 2, none⟩ = some (.int .i64 (accAt0 A j).has) := by
  have q := flatA_at A j hj
  exact ⟨by rw [h.own.cellAt _ (by omega)]; exact q.1, by rw [h.own.cellAt _ (by omega)]; exact q.2.1, by rw [h.own.cellAt _ (by omega)]; exact q.2.2⟩
theorem AccIt.lts {B : Nat} {A : List Acc} {Bx g : Nat} {w : World} (h : AccIt B A Bx g w) : Bx < w.heap.size ∧ g < w.heap.size := ⟨World.block_lt_of_cell? w _ h.c, (h.own.lt g rfl).2⟩
theorem acc_seq (n : Nat) (hn : 1 ≤ n) {B : Nat} {A : List Acc} {Bx g : Nat} {w : World} (h : AccIt B A Bx g w) (hA : A.length ≤ 65536) : SeqR n Try.prog 53 #[.pointer (some ⟨Bx, 0, none⟩)] encA (fun i => i = Bx ∨ i = g) (fun xs => xs = upto (numA A) A.length) (fun pre => ∃ k, k ≤ A.length ∧ pre = upto (numA A) k) (fun pre x => ∃ j, j < A.length ∧ pre = upto (numA A) j ∧ x = numA A j) w := by
  intro l J Jx W hbW hJ hJx hY h0
  have hl := h.lts
  have hz := hbW.size
  exact acc_ok n hn l Bx g _ A hA W J Jx hY hJ (.inl rfl) (.inr rfl) (fun i hi => by rcases hi with rfl | rfl <;> omega) (cell_stay h.c (hbW.block _ hl.1)) (fun j hj => ⟨cell_stay (h.cells j hj).1 (hbW.block _ hl.2), cell_stay (h.cells j hj).2.1 (hbW.block _ hl.2), cell_stay (h.cells j hj).2.2 (hbW.block _ hl.2)⟩) h0
end Go.Proofs.Ytkdocoibfclfeaa

namespace Go.Proofs.Ytkdocoibfclfeaa.it
open Go.RowKit Go.Deep Go.Shelf
set_option linter.unusedVariables false
set_option linter.unusedSimpArgs false
/-- an iterator; Nx: what may be known at the time when it tells -/
def SeqW {α : Type} (n : Nat) (P : Program) (g : Nat) (lb : Array Value) (encs : α → Array Value) (K : Nat → Prop) (S Sp : List α → Prop) (Nx : List α → α → World → Prop) (w : World) : Prop :=
  ∀ (l : Nat) (J Jx : List α → World → Prop) (W : World), Below w.heap.size w W → Stays W.heap.size J → Stays W.heap.size Jx →
    (∀ pre x V, J pre V → Nx pre x V → YieldAt Fence.wide (n - 1) P l (encs x) V fun e V' => (e = .returned (.bool true) ∧ J (pre ++ [x]) V' ∧ Fix K V V') ∨ (e = .returned (.bool false) ∧ Jx (pre ++ [x]) V')) →
    J [] W → CallsIn Fence.wide n P g (#[.func (.yield l) #[] #[]] ++ lb) W fun e V' => (∃ v, e = .returned v) ∧ ((∃ xs, S xs ∧ J xs V') ∨ (∃ pre, Sp pre ∧ Jx pre V'))
section
variable {P : Program} {n : Nat}
/-- THE LAW: the loop over such an iterator -/
theorem range_G {α : Type} {g : Operand} {ps : Array Tmp} {assign body : Code} {Q : Exit → Act → World → Prop} {a : Act} {w : World} (h1 : 1 ≤ n) {gf : Nat} {lb : Array Value} (hg : a.eval g = .func (.func gf) #[] lb)
    (eg : ∀ args w, (callFunc gf args).run P w = .ok (.enter gf args) w) {encs : α → Array Value} {K : Nat → Prop} {S Sp : List α → Prop} {Nx : List α → α → World → Prop} {w0 : World} (hseq : SeqW (n - 1) P gf lb encs K S Sp Nx w0) (hK : ∀ i, K i → i < w.heap.size)
    (hb0 : Below w0.heap.size w0 w) (hps : ∀ x, (encs x).size = ps.size) (I : List α → World → Prop) (Ix : Code → List α → World → Prop) (hI : Stays w.heap.size I) (hIx : ∀ c, Stays w.heap.size (Ix c)) (h0 : I [] w) (Ax : List α → α → Act → World → Prop) (hAx : ∀ pre x a' W o, Ax pre x a' W → Ax pre x a' (W.putObj (w.heap.size + 1) o))
    (hassign : ∀ (l : Nat) (pre : List α) (x : α) (W : World) (K' : Act → World → Prop), I pre W → Nx pre x W → w.heap.size + 1 < W.heap.size → (∀ a' W', KeepsOthers W W' → Fix K W W' → I pre W' → Ax pre x a' W' → K' a' W') →
      assign.wpIn (Fence.wide.inRound l) (n - 1 - 1) P (Exit.then K' (fun _ _ _ => False)) { tmps := (ps.zip (encs x)).foldl (fun t (p, v) => t.setIfInBounds p v) a.tmps, defers := [] } W)
    (hbody : ∀ (l : Nat) (pre : List α) (x : α) (a' : Act) (W : World), I pre W → w.heap.size + 1 < W.heap.size → Ax pre x a' W → body.wpIn (Fence.wide.inRound l) (n - 1 - 1) P (ownPostG w.heap.size (Fix K) I Ix (pre ++ [x]) W) a' W)
    (hdone : ∀ (D : Nat) (xs : List α) (W : World), w.heap.size ≤ D → S xs → I xs W → W.heap[D]? = some (.deferred (some [])) → Q .normal { a with defers := { target := .collected D, args := #[] } :: a.defers } W)
    (hstop : ∀ (D : Nat) (c : Code) (pre : List α) (W : World), w.heap.size ≤ D → Sp pre → Ix c pre W → W.heap[D]? = some (.deferred (some [])) → c.wpIn Fence.wide n P Q { a with defers := { target := .collected D, args := #[] } :: a.defers } W) :
    (Code.rangeFunc g ps assign body).wpIn Fence.wide n P Q a w := by
  refine wpIn_rangeFunc (fun fn hfn => ?_)
  -- the loop's record, in each of its states
  obtain ⟨lp, hlp⟩ : ∃ lp : LoopState → Option Code → Loop, ∀ st pe, lp st pe = { state := st, pending := pe, fn := fn, tmps := a.tmps, params := ps, assign := assign, body := body, defers := w.heap.size } := ⟨_, fun _ _ => rfl⟩
  obtain ⟨V, hV⟩ : ∃ V, V = (w.alloc (.deferred (some []))).alloc (.loop (lp .ready none)) := ⟨_, rfl⟩
  have hVz : V.heap.size = w.heap.size + 2 := by rw [hV]; simp
  have rec0 : V.heap[w.heap.size + 1]? = some (.loop (lp .ready none)) := by
    rw [hV]; have := World.alloc_heap_new (w.alloc (.deferred (some []))) (.loop (lp .ready none)); rwa [World.size_alloc] at this
  have def0 : V.heap[w.heap.size]? = some (.deferred (some [])) := by
    rw [hV]; exact (Below.heap_alloc _ _ _ (by simp)).trans (World.alloc_heap_new w _)
  have low0 : Below w0.heap.size w0 V := hb0.trans (by rw [hV]; exact (((Below.refl _ w).alloc (Nat.le_refl _) _).alloc (by simp) _).mono hb0.size)
  have enter0 : (Instr.enterLoop fn a.tmps ps assign body Fence.wide.round).run P w = .ok (w.heap.size + 1, [{ target := .collected w.heap.size, args := #[] }]) V := by
    rw [hV, hlp]; exact run_enterLoop_outer _ _ _ _ _
  -- the two blocks of the loop's own are no one's else
  have stay : ∀ (p : Nat) (o : Obj), p < V.heap.size → Stays V.heap.size (fun (_ : List α) X => X.heap[p]? = some o) := fun p o hp s A B hs hb => (hb.block p hp).trans hs
  have hIV : Stays V.heap.size I := fun s A B hs hb => hI s A B hs (hb.mono (by omega))
  have hIxV : ∀ c, Stays V.heap.size (Ix c) := fun c s A B hs hb => hIx c s A B hs (hb.mono (by omega))
  have kpt : ∀ (X : World) (o : Obj), Fix K X (X.putObj (w.heap.size + 1) o) := fun X o =>
    ⟨by simp, fun i hi _ => World.putObj_heap_other (by have := hK i hi; omega)⟩
  refine ⟨w.heap.size + 1, [{ target := .collected w.heap.size, args := #[] }], V, { target := .fn (.func gf) lb, args := #[.func (.yield (w.heap.size + 1)) #[] #[]] }, V, gf, #[.func (.yield (w.heap.size + 1)) #[] #[]] ++ lb, V,
    enter0, by (simp only [resolve, hg]; simp [go_sem]), fun _ _ => trivial, by simp [invoke, go_sem, eg], fun _ => h1, ?_⟩
  refine (hseq (w.heap.size + 1) (fun pre X => I pre X ∧ X.heap[w.heap.size + 1]? = some (.loop (lp .ready none)) ∧ X.heap[w.heap.size]? = some (.deferred (some [])))
    (fun pre X => ∃ c, Ix c pre X ∧ X.heap[w.heap.size + 1]? = some (.loop (lp .done (some c))) ∧ X.heap[w.heap.size]? = some (.deferred (some []))) V low0
    (hIV.both ((stay _ _ (by omega)).both (stay _ _ (by omega))))
    (fun s A B ⟨c, hc⟩ hb => ⟨c, ((hIxV c).both ((stay _ _ (by omega)).both (stay _ _ (by omega)))) s A B hc hb⟩) ?_ ⟨hI.lay _ (hI.lay _ h0 (Nat.le_refl _)) (by simp) |> fun q => by rw [hV]; exact q, rec0, def0⟩).mono ?_
  · -- a round
    rintro pre x X0 ⟨hi0, hl0, hk0⟩ hlen
    have hlt0 : w.heap.size + 1 < X0.heap.size := (Array.getElem?_eq_some_iff.1 hl0).1
    have hy := run_yield (P := P) (args := encs x) hl0 (by rw [hlp]; exact hps x)
    rw [hlp] at hy
    refine ⟨fn, _, assign, body, hy, roundIn_of_wpIn hfn (hassign _ pre x X0 _ hi0 hlen hlt0 (fun a' X hko hfx hi hax => ?_))⟩
    have hl := hko.same _ _ hl0 rfl
    have hk := hko.same _ _ hk0 rfl
    have hlt : w.heap.size + 1 < X.heap.size := (Array.getElem?_eq_some_iff.1 hl).1
    refine ⟨_, run_beginRound hl (by rw [hlp]), ?_⟩
    have kp0 : Fix K X0 X := hfx
    obtain ⟨Y, hY⟩ : ∃ Y, Y = X.putObj (w.heap.size + 1) (.loop { lp .ready none with state := .busy }) := ⟨_, rfl⟩
    have busyY : Y.heap[w.heap.size + 1]? = some (.loop { lp .ready none with state := .busy }) := by rw [hY]; exact World.putObj_heap_same hlt
    have defY : Y.heap[w.heap.size]? = some (.deferred (some [])) := by rw [hY]; exact (World.putObj_heap_other (by omega)).trans hk
    have kpY : Fix K X Y := by rw [hY]; exact kpt _ _
    have haY : Ax pre x a' Y := by rw [hY]; exact hAx _ _ _ _ _ hax
    have hiY : I pre Y := by rw [hY]; exact hI.put _ hi (by omega)
    rw [← hY]
    -- the round's end
    have fin : ∀ (j : Option Code) (Z : World), KeepsFrom w.heap.size Y Z → ∃ Z', (Instr.endRound (w.heap.size + 1) j).run P Z = .ok (.bool j.isNone) Z' ∧ Z' = Z.putObj (w.heap.size + 1) (.loop (lp (if j.isNone then .ready else .done) j)) ∧
        Z'.heap[w.heap.size + 1]? = some (.loop (lp (if j.isNone then .ready else .done) j)) ∧ Z'.heap[w.heap.size]? = some (.deferred (some [])) := fun j Z hkZ => by
      have hb := hkZ.same _ _ (by omega) busyY rfl
      have hrun := run_endRound (P := P) j hb
      rw [hlp] at hrun
      rw [hlp]
      exact ⟨_, hrun, rfl, World.putObj_heap_same (Array.getElem?_eq_some_iff.1 hb).1, (World.putObj_heap_other (by omega)).trans (hkZ.same _ _ (Nat.le_refl _) defY rfl)⟩
    refine wpIn_mono (hbody _ pre x a' _ hiY (Array.getElem?_eq_some_iff.1 busyY).1 haY) ?_
    have out : ∀ (c : Code) (Z : World), KeepsFrom w.heap.size Y Z → Ix c (pre ++ [x]) Z → ∃ v Z', (Instr.endRound (w.heap.size + 1) (some c)).run P Z = .ok v Z' ∧
        ((Ending.returned v = .returned (.bool true) ∧ (I (pre ++ [x]) Z' ∧ Z'.heap[w.heap.size + 1]? = some (.loop (lp .ready none)) ∧ Z'.heap[w.heap.size]? = some (.deferred (some []))) ∧ Fix K X0 Z') ∨
          (Ending.returned v = .returned (.bool false) ∧ ∃ c, Ix c (pre ++ [x]) Z' ∧ Z'.heap[w.heap.size + 1]? = some (.loop (lp .done (some c))) ∧ Z'.heap[w.heap.size]? = some (.deferred (some [])))) := fun c Z hkZ hiZ => by
      obtain ⟨Z', hr, rfl, hl4, hk4⟩ := fin (some c) Z hkZ
      exact ⟨_, _, hr, .inr ⟨rfl, c, (hIx c).put _ hiZ (by omega), hl4, hk4⟩⟩
    rintro e a3 Z hp
    cases e with
    | normal =>
      obtain ⟨hkZ, hkp, hiZ⟩ := hp
      obtain ⟨Z', hr, rfl, hl4, hk4⟩ := fin none Z hkZ
      exact ⟨_, _, hr, .inl ⟨rfl, ⟨hI.put _ hiZ (by omega), hl4, hk4⟩, ((kp0.trans kpY).trans hkp).trans (kpt _ _)⟩⟩
    | ret => exact out .ret Z hp.1 hp.2
    | exit id => exact out (.exit id) Z hp.1 hp.2
    | goto t => exact out (.goto t) Z hp.1 hp.2
    | panic ch => exact hp.elim
    | outgrown => exact hp.elim
  · -- behind the iterator
    rintro e X ⟨⟨v, rfl⟩, (⟨xs, hS, hi, hl, hk⟩ | ⟨pre, hSp, c, hi, hl, hk⟩)⟩
    · have hrun := run_endLoop (P := P) hl (by rw [hlp]; simp)
      rw [hlp] at hrun
      exact ⟨none, _, hrun, hdone _ xs _ (Nat.le_refl _) hS (hI.put _ hi (by omega)) ((World.putObj_heap_other (by omega)).trans hk)⟩
    · have hrun := run_endLoop (P := P) hl (by rw [hlp]; simp)
      rw [hlp] at hrun
      exact ⟨some c, _, hrun, hstop _ c pre _ (Nat.le_refl _) hSp ((hIx c).put _ hi (by omega)) ((World.putObj_heap_other (by omega)).trans hk)⟩
end
end Go.Proofs.Ytkdocoibfclfeaa.it

