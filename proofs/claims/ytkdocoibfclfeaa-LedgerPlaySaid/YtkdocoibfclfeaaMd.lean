/- Contracts of the layer's functions, each proved once, in the order in which they are used. No condition beyond each theorem's own. -/
import Derived.Test.YtkdocoibfclfeaaMc
import Derived.StillTail
import Derived.Below
import Derived.Deep.RegionLaw
import Derived.Maps.OwnIn
import Derived.Sort.LoopGhostIn
import Derived.Maps.AppendAt
import Derived.Deep.AppendLies
import Derived.Laws.OwnMore
namespace Go.Proofs.Ytkdocoibfclfeaa.it
open Go.RowKit
set_option linter.unusedVariables false
set_option linter.unusedSimpArgs false

section
variable {F : Fence} {n : Nat} {P : Program} {ops : Array Oper} {md : Region.Mode} {C : World → Prop}
def wpAnyLQ (F : Fence) (n : Nat) (P : Program) (md : Region.Mode) (ops : Array Oper) (C : World → Prop) (k : Nat) (L : Array Bool → Act → Prop) : Nat → Array Bool → Act → Prop
  | 0, listed, a => L listed a
  | f + 1, listed, a =>
    Region.ready md ops listed ≠ [] ∧ ∀ i ∈ Region.ready md ops listed, i < k ∧ qOpIn F n P ops C i (wpAnyLQ F n P md ops C k L f (listed.setIfInBounds i true)) a
theorem wpAnyIn_of_headQ {k g : Nat} {L : Array Bool → Act → Prop} {Q' : Exit → Act → World → Prop} (hnd : ∀ (i : Nat) (o : Oper), ops[i]? = some o → noDefer o = true) (hL : ∀ listed a w, C w → L listed a → wpAnyIn F n P md ops Q' g listed a w) :
    ∀ (f : Nat) (listed : Array Bool) (a : Act) (w : World), C w → wpAnyLQ F n P md ops C k L f listed a → wpAnyIn F n P md ops Q' (f + g) listed a w
  | 0, listed, a, w, hw, h => by rw [Nat.zero_add]; exact hL _ _ _ hw h
  | f + 1, listed, a, w, hw, h => by
    rw [show f + 1 + g = (f + g) + 1 by omega]
    exact ⟨fun h0 => absurd h0 h.1, fun i hi => wpOpIn_of_qOpIn_round hnd hw (fun a' w' hw' h' => wpAnyIn_of_headQ hnd hL f _ a' w' hw' h') (h.2 i hi).2⟩
theorem wpAnyLQ_first {k i : Nat} {oi : Oper} {v : Value} {L : Array Bool → Act → Prop} (hi : ops[i]? = some oi) (hsel : ∀ (j : Nat) (o : Oper) cs b, ops[j]? = some o → o.op ≠ .select cs b)
    (hs : Region.sinkB md ops k = true) (hc : Region.chainB md ops k = true) (hn : k < ops.size) (hin : i < k)
    (hdone : ∀ listed a, L listed a → ∀ j ∈ Region.ready md ops listed, k ≤ j) :
    ∀ (f : Nat) (listed : Array Bool) (a : Act), HeadInv md ops k listed →
      (∀ j oj, ops[j]? = some oj → j ≠ i → listed.getD j true = false → (∀ e ∈ oj.after, Region.binds md e = true → e.on ≠ i) → oi.apart ops oj = true) →
      i ∈ Region.ready md ops listed → YieldsQuiet F n P ops C oi v a →
      wpAnyLQ F n P md ops C k L f (listed.setIfInBounds i true) (a.put oi.dst v) → wpAnyLQ F n P md ops C k L (f + 1) listed a := by
  intro f
  induction f with
  | zero =>
    intro listed a inv _ hr hy H
    have hun := (mem_ready.1 hr).1
    refine ⟨fun h => (by rw [h] at hr; cases hr), fun j hj => ?_⟩
    have hjn : j < k := by
      rcases Nat.lt_or_ge j k with h | h
      · exact h
      · exact absurd hj (tail_waits hs hc hn inv _ i rfl hin hun j h)
    refine ⟨hjn, ?_⟩
    by_cases hji : j = i
    · subst hji; exact hy.qOpIn hi H
    · have := hdone _ _ H j (ready_mono hj hji)
      omega
  | succ f ih =>
    intro listed a inv hfree hr hy H
    have hun := (mem_ready.1 hr).1
    refine ⟨fun h => (by rw [h] at hr; cases hr), fun j hj => ?_⟩
    have hjn : j < k := by
      rcases Nat.lt_or_ge j k with h | h
      · exact h
      · exact absurd hj (tail_waits hs hc hn inv _ i rfl hin hun j h)
    refine ⟨hjn, ?_⟩
    by_cases hji : j = i
    · subst hji; exact hy.qOpIn hi H
    · have h1 := (H.2 j (ready_mono hj hji)).2
      obtain ⟨hjun, oj, hoj, hall⟩ := mem_ready.1 hj
      have hnot : ∀ e ∈ oj.after, Region.binds md e = true → e.on ≠ i := fun e he hb heq => by
        have h1 := hall e he hb
        rw [heq, getD_both hun] at h1
        cases h1
      have h2 := qOpIn_put hoj (hfree j oj hoj hji hjun hnot) (fun cs b => hsel i oi cs b hi) (fun cs b => hsel j oj cs b hoj) hy h1
      have hfree' : ∀ k ok, ops[k]? = some ok → k ≠ i → (listed.setIfInBounds j true).getD k true = false →
          (∀ e ∈ ok.after, Region.binds md e = true → e.on ≠ i) → oi.apart ops ok = true := fun k ok hk hki hun hno => by
        refine hfree k ok hk hki ?_ hno
        by_cases hjk : j = k
        · subst hjk; exact hjun
        · rw [getD_set_ne true hjk] at hun; exact hun
      refine qOpIn_mono (fun a' h3 => ih (listed.setIfInBounds j true) a' (inv.set hj hjn) hfree' (ready_mono hr (Ne.symm hji)) h3.1 ?_) h2
      rw [Array.setIfInBounds_comm _ _ hji]
      exact h3.2
theorem wpAnyIn_of_seq {Q' : Exit → Act → World → Prop} : ∀ (l : List Oper) (k : Nat) (listed : Array Bool) (a : Act) (w : World), (∀ j, l[j]? = ops[k + j]?) →
    Region.seqB md ops l.length k listed = true → wpListIn F n P ops Q' l a w → wpAnyIn F n P md ops Q' l.length listed a w
  | [], _, _, _, _, _, hB, h => ⟨by simpa [Region.seqB] using hB, h⟩
  | o :: l, k, listed, a, w, hl, hB, h => by
    have h0 : ops[k]? = some o := by simpa using (hl 0).symm
    simp only [List.length_cons, Region.seqB, Bool.and_eq_true, decide_eq_true_eq] at hB
    refine ⟨fun h1 => (by rw [hB.1] at h1; cases h1), fun i hi => ?_⟩
    rw [hB.1] at hi
    have hik : i = k := by simpa using hi
    subst hik
    have hw : wpOpIn F n P ops Q' i (wpListIn F n P ops Q' l) a w := by unfold wpOpIn; simp only [h0]; exact h
    exact wpOpIn_mono (fun a' w' h' => wpAnyIn_of_seq l (i + 1) _ a' w' (fun j => by have := hl (j + 1); simpa [Nat.add_assoc, Nat.add_comm 1 j] using this) hB.2 h') hw
theorem wpAnyLQ_lex {k g : Nat} {Lq : Act → Prop} (hsel : Region.noSelect ops = true) (hs : Region.sinkB md ops k = true) (hc : Region.chainB md ops k = true) (hn : k < ops.size) :
    ∀ (l : List Oper) (j : Nat) (listed : Array Bool) (a : Act), (∀ i, i < l.length → l[i]? = ops[j + i]?) → j + l.length = k → HeadInv md ops k listed →
    Region.lexHead md ops g l.length j listed = true → wpQuietIn F n P ops C Lq l a →
    wpAnyLQ F n P md ops C k (fun listed' a' => Region.seqB md ops g k listed' = true ∧ Lq a') l.length listed a
  | [], j, listed, a, _, hk, _, hB, h => by
    have : j = k := by simpa using hk
    subst this
    exact ⟨by simpa [Region.lexHead] using hB, h⟩
  | o :: l, j, listed, a, hl, hk, inv, hB, h => by
    have h0 : ops[j]? = some o := by simpa using (hl 0 (by simp)).symm
    simp only [List.length_cons, Region.lexHead, Bool.and_eq_true] at hB
    obtain ⟨⟨hr, hf⟩, hB'⟩ := hB
    have hkn : j < k := by simp only [List.length_cons] at hk; omega
    have hr' : j ∈ Region.ready md ops listed := by simpa using hr
    have hst : qOpIn F n P ops C j (wpQuietIn F n P ops C Lq l) a := by unfold qOpIn; simp only [h0]; exact h
    obtain ⟨v, hy, hK⟩ := yieldsQuiet_of_qOpIn h0 hst
    exact wpAnyLQ_first h0 (Region.noSelect_spec hsel) hs hc hn hkn (fun listed' a' hL => seqB_ready hL.1) l.length listed a inv (Region.free_spec h0 hf) hr' hy
      (wpAnyLQ_lex hsel hs hc hn l (j + 1) _ _ (fun i hi => by have := hl (i + 1) (by simp; omega); simpa [Nat.add_assoc, Nat.add_comm 1 i] using this) (by simp only [List.length_cons] at hk; omega) (inv.set hr' hkn) hB' hK)
/-- a world behind X: what X held stands -/
structure Aft (X : World) where
  w : World
  le : Below X.heap.size X w
@[simp] theorem wide_fn (f : FuncId) : Fence.wide.fn f := trivial
@[simp] theorem wide_fn_round (l : Nat) (f : FuncId) : (Fence.wide.inRound l).fn f := trivial
instance aft_here (X : World) : Nonempty (Aft X) := ⟨⟨X, Below.refl _ _⟩⟩
theorem aft_call {X : World} {f : FuncId} {args : Array Value} {v : Value} {m : Aft X} (h : CallsIn F n P f args m.w fun e w' => e = .returned v ∧ Below m.w.heap.size m.w w') : CallsIn F n P f args m.w fun e w'' => e = .returned v ∧ ∃ m' : Aft X, w'' = m'.w :=
  h.mono fun e w' ⟨he, hb⟩ => ⟨he, ⟨w', m.le.trans (hb.mono m.le.size)⟩, rfl⟩
/-- **A REGION THAT DRAWS ITS ORDER: ahead, reads and calls that make memory alone; then a tail, in order.** k: the first of the tail. -/
theorem wpIn_region_after_tail {id : Nat} {Q : Exit → Act → World → Prop} {a : Act} {w : World} {l : List Oper} (k : Nat) (hnd : l.all noDefer = true) (hm : P.follows .mixedOrders = true) (hB : Region.lexTailB .any l.toArray k = true)
    (h : wpQuietIn F n P l.toArray (fun w' => ∃ m : Aft w, w' = m.w) (fun a' => ∀ w', (∃ m : Aft w, w' = m.w) → wpListIn F n P l.toArray Q (l.drop k) a' w') (l.take k) a) : (Code.region id l.toArray true).wpIn F n P Q a w := by
  simp only [Region.lexTailB, Bool.and_eq_true, decide_eq_true_eq] at hB
  obtain ⟨⟨⟨⟨hsel, hn⟩, hs⟩, hc⟩, hlex⟩ := hB
  have hnd' : ∀ (i : Nat) (o : Oper), l.toArray[i]? = some o → noDefer o = true := fun i o ho => by
    refine List.all_eq_true.1 hnd o ?_
    exact List.mem_of_getElem? (l := l) (i := i) (a := o) (by simpa using ho)
  have hn' : k < l.length := by simpa using hn
  have htl : (l.take k).length = k := by simp; omega
  have hdl : (l.drop k).length = l.toArray.size - k := by simp
  have inv0 : HeadInv .any l.toArray k (Array.replicate l.toArray.size false) :=
    ⟨by simp, fun j oj _ hl => (by rw [getD_replicate_false] at hl; cases hl), fun t _ ht => getD_in (by simpa using ht) (getD_replicate_false _ _)⟩
  have H := wpAnyLQ_lex (F := F) (n := n) (C := fun w' => ∃ m : Aft w, w' = m.w) (md := .any) (g := l.toArray.size - k) hsel hs hc hn (l.take k) 0 _ a (fun j hj => by
    have hj' : j < k := by rw [htl] at hj; exact hj
    simp [hj']) (by simpa using htl) inv0 (by rw [htl]; exact hlex) h
  refine wpIn_region_any hm ?_
  have := wpAnyIn_of_headQ (Q' := Q) (g := l.toArray.size - k) (C := fun w' => ∃ m : Aft w, w' = m.w) hnd' (fun listed a' w' hw' hL => by
    have := wpAnyIn_of_seq (F := F) (n := n) (md := .any) (Q' := Q) (l.drop k) k listed a' w' (fun j => by simp [List.getElem?_drop]) (by rw [hdl]; exact hL.1) (hL.2 w' hw')
    rwa [hdl] at this) _ _ _ { w with drawn := w.drawn + 1 } ⟨⟨_, (Below.refl _ w).drew⟩, rfl⟩ H
  rw [htl, show k + (l.toArray.size - k) = l.toArray.size by omega] at this
  exact this
end
end Go.Proofs.Ytkdocoibfclfeaa.it

namespace Go.Proofs.Ytkdocoibfclfeaa
open Go.ChangeShapes Go.WideShapes Go.ChangeAt Go.RowKit Go.Deep Go.Shelf Go.Maps Go.WideMaps Ytkdocoibfclfeaa.it
set_option linter.unusedSimpArgs false
set_option linter.unusedVariables false

attribute [local go_sem] Oper.semAt_some

theorem wpListIn_mapUpdate_is {F : Fence} {nF : Nat} {P : Program} (w : World) {ops : Array Oper} {rest : List Oper} {o : Oper} {a : Act} {Q : Exit → Act → World → Prop}
    (hg : o.guard = none) (m x v : Operand) (t : TypeId) (hop : o.op = Op.mapUpdate t m x v) (k e : TypeId) (K : Keyed P k) (ht : P.underlying t = some (.map k e)) (b n : Nat) (f : Lit → Option Value)
    (hm : a.eval m = .map (some b)) (h : MapIs P k w b n f) (hn : n < maxLen) (key val : Value) (kl : Lit) (hx : a.eval x = key) (hv : a.eval v = val) (hkey : keyOf P k key = some kl)
    (hK : ∀ w', MapIs P k w' b (if (f kl).isSome then n else n + 1) (setAt f kl val) → w.mapTurned w' b → wpListIn F nF P ops Q rest (a.put o.dst undef) w') :
    wpListIn F nF P ops Q (o :: rest) a w := by
  refine wpListIn_plain hg fun K' hK' => ?_
  obtain ⟨w', hrun, r1, r2⟩ := h.store K ht hn hkey (val := val)
  unfold Oper.wpIn
  refine ⟨by simp [Oper.about, hop], ?_⟩
  rw [Oper.semAt_plain F _ _ (by rw [hop]; intro c hc'; cases hc')]
  simp [execOp, hop, hm, hx, hv, hrun, Result.andThen]
  exact hK' _ _ (hK w' r1 r2)
theorem eql23 (a : Addr) (n cap : Nat) (w : World) : Sem.run Try.prog (binOp .eql 23 (.slice (some a) n cap) (.slice none 0 0)) w = .ok (.bool false) w := by kernel_rfl
theorem eql23n (w : World) : Sem.run Try.prog (binOp .eql 23 (.slice none 0 0) (.slice none 0 0)) w = .ok (.bool true) w := by kernel_rfl
set_option maxRecDepth 100000 in
set_option maxHeartbeats 2000000 in
theorem Clone30_some (g cap n B : Nat) (vs : List Value) (w : World) (hn : n ≤ 1048576) (own : w.ownsRow B 33 1 (.slice (some ⟨g, 0, none⟩) n cap) n vs) (h1 : ∀ u ∈ vs, u.oneCell' = true) : Calls Try.prog 30 #[.slice (some ⟨g, 0, none⟩) n cap] w (fun e w' => ∃ v', e = .returned v' ∧ w'.ownsRow w.heap.size 33 1 v' n vs ∧ Below w.heap.size w w') := by
  obtain ⟨i0, hi0, hz0, hz1, hz2⟩ := info_parts info33
  have hl : vs.length = n * 1 := own.1
  have Hn := hide (show ∀ j u, vs[j]? = some u → (w.alloc (.cells #[] 33)).cell? ((⟨g, 0, none⟩ : Addr).add j) = some u from fun j u hu => by
    have q := own.cells rfl j u hu
    exact ((Below.refl w.heap.size w).alloc (Nat.le_refl _) (.cells #[] 33)).cell (p := (⟨g, 0, none⟩ : Addr).add j) (World.block_lt_of_cell? w _ q) |>.trans q)
  have Q := eql23
  have ONE := hide h1
  clear own h1
  go_enter Try.func30, Try.ntmps30
  go_wp2_with (at_builtin; refine wpList_append_own _ rfl _ _ 23 rfl w.heap.size 33 i0 _ 1 24 Try.underlying23 hi0 hz0 hz1 hz2 rfl (by decide) (.slice (some ⟨w.heap.size, 0, none⟩) 0 0) 0 [] rfl (made0 w 33 1 (by decide)) ⟨g, 0, none⟩ n cap vs rfl hl Hn.out ONE.out (by unfold maxLen; omega) (by omega) (by simp) ?_; intro v' wn hown2 hg2 _)
  go_ret
  refine ⟨v', rfl, by (rw [Nat.zero_add, List.nil_append] at hown2; exact hown2), ((Below.refl w.heap.size w).alloc (Nat.le_refl _) (.cells #[] 33)).grown hg2 (by simp) (fun k hk => ?_)⟩
  have q' : w.heap.size = k := Option.some.inj hk
  omega
set_option maxHeartbeats 1000000 in
theorem Clone30_nil (w : World) : Calls Try.prog 30 #[.slice none 0 0] w (fun e w' => e = .returned (.slice none 0 0) ∧ Below w.heap.size w w') := by
  have Q := eql23n
  go_enter Try.func30, Try.ntmps30
  go_wp2
  go_ret
  exact ⟨rfl, by (focus repeat' (first | (with_reducible exact Below.refl _ _) | (with_reducible assumption) | (with_reducible refine Below.alloc ?_ ?_ _) | (with_reducible refine Below.drew ?_) | (with_reducible refine bdrewN ?_ _) | (with_reducible refine Below.setCell ?_ ?_ _) | (first | (with_reducible exact Nat.le_refl _) | (with_reducible assumption) | omega | (simp; omega) | (simp; done))))⟩
theorem Clone30_c (pv : Value) (n B : Nat) (vs : List Value) (w : World) (hn : n ≤ 1048576) (own : w.ownsRow B 33 1 pv n vs) (h1 : ∀ u ∈ vs, u.oneCell' = true) : Calls Try.prog 30 #[pv] w (fun e w' => ∃ v', e = .returned v' ∧ w'.ownsRow w.heap.size 33 1 v' n vs ∧ Below w.heap.size w w') := by
  rcases own.2 with ⟨rfl, rfl⟩ | ⟨g, cap, cur, rfl, _⟩
  · have hv : vs = [] := List.length_eq_zero_iff.1 (by have := own.1; omega)
    subst hv
    exact (Clone30_nil w).mono (fun e w' q => ⟨_, q.1, World.ownsRow_nil _ _ _ _, q.2⟩)
  · exact Clone30_some g cap n B vs w hn own h1
theorem LObj.rows {I : Nat → Prop} {F : Fp} {S : LS} {w : World} (h : LObj I F S w) : ∃ vs : List Value, w.ownsRow 0 33 1 F.pv S.posts.length vs ∧ (∀ u ∈ vs, u.oneCell' = true) ∧ ∀ (i : Nat) (p : List Ent), S.posts[i]? = some p → ∃ v, vs[i]? = some v ∧ PostRow I w v p := by
  obtain ⟨vs, h1, h2⟩ := h.pr
  refine ⟨vs, h1, fun u hu => ?_, h2⟩
  obtain ⟨i, hi⟩ := List.getElem?_of_mem hu
  have hl : i < S.posts.length := by
    have := (List.getElem?_eq_some_iff.1 hi).1
    have q := h1.1
    omega
  obtain ⟨v, hv, hp⟩ := h2 i _ (List.getElem?_eq_getElem hl)
  rw [hi] at hv
  cases hv
  obtain ⟨ao, cap, rfl⟩ := own_any hp.1
  rfl
/-- an account in a box, the whole block -/
def BoxH (W : World) (Bx : Nat) (a : Acc) : Prop := W.heap[Bx]? = some (.cells #[.string a.name, .int .i64 a.least, .int .i64 a.has] 70 (0, 0))
theorem BoxH.a {W : World} {Bx : Nat} {a : Acc} (h : BoxH W Bx a) : BoxA W Bx a := by
  unfold BoxH at h
  simp [BoxA, World.cell?, h]
theorem BoxH.new (W : World) (a : Acc) : BoxH (W.alloc (.cells #[.string a.name, .int .i64 a.least, .int .i64 a.has] 70)) W.heap.size a := heap_alloc_new W _
theorem BoxH.put {W : World} {Bx B : Nat} {a : Acc} (h : BoxH W Bx a) (hb : Bx ≠ B) (o : Obj) : BoxH (W.putObj B o) Bx a := (World.putObj_heap_other hb).trans h
theorem LObj.notBox {I : Nat → Prop} {F : Fp} {S : LS} {w : World} (h : LObj I F S w) {Bx : Nat} {a : Acc} (hb : BoxH w Bx a) : ¬ F.own Bx := by
  have ha := hb.a
  unfold BoxH at hb
  intro hk
  rcases hk with rfl | rfl | rfl | rfl | q | q
  · have := h.b0; rw [ha.1] at this; cases this
  · have := h.t1; rw [ha.2.1] at this; cases this
  · obtain ⟨es, ck, e⟩ := h.am.isMap; rw [hb] at e; cases e
  · obtain ⟨es, ck, e⟩ := h.mm.isMap; rw [hb] at e; cases e
  · rcases h.lr.2 with ⟨e, _⟩ | ⟨g, cap, cur, e, _, e2, _⟩
    · rw [e] at q; cases q
    · rw [e] at q; cases q; rw [hb] at e2; cases e2
  · obtain ⟨vs, hp, _⟩ := h.pr
    rcases hp.2 with ⟨e, _⟩ | ⟨g, cap, cur, e, _, e2, _⟩
    · rw [e] at q; cases q
    · rw [e] at q; cases q; rw [hb] at e2; cases e2
/-- the account is written over -/
theorem LObj.setHas {I : Nat → Prop} {F : Fp} {A : List Acc} {ps : List (List Ent)} {s : ByteArray} {l h0 h1 : Int} {w w2 : World} (h : LObj I F ⟨A ++ [⟨s, l, h0⟩], ps⟩ w) (hm : MapIs Try.prog 3 w2 F.m (A.length + 1) (accAt (A ++ [⟨s, l, h1⟩]))) (ht : w.mapTurned w2 F.m) : LObj I F ⟨A ++ [⟨s, l, h1⟩], ps⟩ w2 := by
  have ap := h.ap
  have z := ht.grown.size
  have hT : ∀ k, k < w.heap.size → k ≠ F.m → w2.heap[k]? = w.heap[k]? := fun k hk hne => turned_heap ht hne hk
  have lb := h.lt (.inl rfl)
  have lt_ := h.lt (.inr (.inl rfl))
  have la := h.lt (.inr (.inr (.inl rfl)))
  have eb := hT _ lb ap.bm
  have et := hT _ lt_ ap.tm
  have ea := hT _ la ap.am
  have en : nms (A ++ [⟨s, l, h1⟩]) = nms (A ++ [⟨s, l, h0⟩]) := by simp [nms]
  have el : (A ++ [(⟨s, l, h1⟩ : Acc)]).length = (A ++ [(⟨s, l, h0⟩ : Acc)]).length := by simp
  obtain ⟨vs, hrow, hposts⟩ := h.pr
  refine ⟨cell_stay h.b0 eb, cell_stay h.b1 eb, cell_stay h.b2 eb, fun o => fro_stay (h.bf o) eb, cell_stay h.t0 et, cell_stay h.t1 et, cell_stay h.t2 et, fro_stay h.tf et, ?_, ⟨vs, ?_, fun i p hp => ?_⟩, ?_, ?_, ap, h.imm, fun k hk => Nat.lt_of_lt_of_le (h.ilt k hk) z⟩
  · show w2.ownsRow 0 9 1 F.lv (A ++ [(⟨s, l, h1⟩ : Acc)]).length ((nms (A ++ [⟨s, l, h1⟩])).map Value.string)
    rw [en, el]
    exact own_stays h.lr (fun k hk => hT k (h.lr.lt k hk).2 (ap.l k hk).2.2.2.1)
  · exact own_stays hrow (fun k hk => hT k (hrow.lt k hk).2 (ap.p k hk).2.2.2)
  · obtain ⟨v, v1, v2, v3⟩ := hposts i p hp
    exact ⟨v, v1, own_stays v2 (fun k hk => hT k (h.ilt k (v3 k hk)) (fun e => h.imm k (.inr (.inr (.inr (.inl e)))) (v3 k hk))), v3⟩
  · show MapIs Try.prog 9 w2 F.a (A ++ [(⟨s, l, h1⟩ : Acc)]).length (nameAt (nms (A ++ [⟨s, l, h1⟩])))
    rw [en, el]
    exact h.am.stays z ea
  · show MapIs Try.prog 3 w2 F.m (A ++ [(⟨s, l, h1⟩ : Acc)]).length _
    rw [show (A ++ [(⟨s, l, h1⟩ : Acc)]).length = A.length + 1 by simp]
    exact hm
/-- the copy under way -/
structure CI (w : World) (I : Nat → Prop) (A : List Acc) (Bc Bx g V nb : Nat) (j : Nat) (W : World) : Prop where
  ex : ∃ Fc, LObj I Fc ⟨A.take j, []⟩ W ∧ Fc.b = nb ∧ Fc.t < V ∧ Fc.a < V ∧ Fc.m < V ∧ ∀ k, Fc.own k → w.heap.size ≤ k ∧ k ≠ Bc ∧ k ≠ Bx ∧ k ≠ g
  c : W.cell? ⟨Bc, 0, none⟩ = some (.pointer (some ⟨nb, 0, none⟩))
  cf : W.frozen? ⟨Bc, 0, none⟩ = false
theorem CI.below {w : World} {I : Nat → Prop} {A : List Acc} {Bc Bx g V nb j : Nat} {W W' : World} (h : CI w I A Bc Bx g V nb j W) (hb : Below W.heap.size W W') : CI w I A Bc Bx g V nb j W' := by
  obtain ⟨Fc, h1, h2⟩ := h.ex
  have hl := World.block_lt_of_cell? W _ h.c
  exact ⟨⟨Fc, h1.below hb, h2⟩, cell_stay h.c (hb.block _ hl), fro_stay h.cf (hb.block _ hl)⟩
/-- a row of cells stays no other thing -/
theorem keeps_step {I I' : Nat → Prop} {F F' : Fp} {S : LS} {V : Nat} {w w' : World} (h : LObj I F S w) (hs : Step I F w I' F' w') (ht : F.t < V) (ha : F.a < V) (hm : F.m < V) (hb : F.b < V) : KeepsFrom V w w' := by
  refine ⟨hs.size, fun k o hk ho hc => ?_⟩
  have hlt : k < w.heap.size := (Array.getElem?_eq_some_iff.1 ho).1
  refine (hs.keep k hlt (fun q => ?_)).trans ho
  rcases q with rfl | rfl | rfl | rfl | q | q
  · omega
  · omega
  · omega
  · omega
  · rcases h.lr.2 with ⟨e, _⟩ | ⟨g, cap, cur, e, _, e2, _⟩
    · rw [e] at q; cases q
    · rw [e] at q; cases q; rw [ho] at e2; cases e2; cases hc
  · obtain ⟨vs, hp, _⟩ := h.pr
    rcases hp.2 with ⟨e, _⟩ | ⟨g, cap, cur, e, _, e2, _⟩
    · rw [e] at q; cases q
    · rw [e] at q; cases q; rw [ho] at e2; cases e2; cases hc
end Go.Proofs.Ytkdocoibfclfeaa

namespace Go.Proofs.Ytkdocoibfclfeaa
open Go.ChangeShapes Go.WideShapes Go.ChangeAt Go.RowKit Go.Deep Go.Shelf Go.Maps Go.WideMaps Ytkdocoibfclfeaa.it
set_option linter.unusedSimpArgs false
set_option linter.unusedVariables false

attribute [local go_sem] Oper.semAt_some

def CopyPost (I : Nat → Prop) (S : LS) (w : World) (e : Ending) (w' : World) : Prop := ∃ F2, e = .returned (.pointer (some ⟨F2.b, 0, none⟩)) ∧ LObj I F2 S w' ∧ (∀ k, F2.own k → w.heap.size ≤ k) ∧ Below w.heap.size w w'
theorem take_names {A : List Acc} (hn : (nms A).Nodup) {j : Nat} (hj : j < A.length) : idx (nms (A.take j)) (accAt0 A j).name = none := by
  rw [idx_none, show nms (A.take j) = (nms A).take j by simp [nms]]
  intro h
  obtain ⟨i, hi⟩ := List.getElem?_of_mem h
  have hi' : i < j := by
    rcases Nat.lt_or_ge i j with q | q
    · exact q
    · rw [List.getElem?_eq_none (by rw [List.length_take]; omega)] at hi; cases hi
  rw [List.getElem?_take_of_lt hi'] at hi
  have h2 : (nms A)[j]? = some (accAt0 A j).name := by simp [nms, accAt0_get hj]
  have := (idx_at hn hi).symm.trans (idx_at hn h2)
  have : i = j := Option.some.inj this
  omega
theorem own_zero {w : World} {base : Nat} {e : TypeId} {size : Nat} {v : Value} {n : Nat} {xs : List Value} (h : w.ownsRow base e size v n xs) : w.ownsRow 0 e size v n xs := by
  refine ⟨h.1, h.2.imp id ?_⟩
  rintro ⟨g, cap, cur, e, _, r⟩
  exact ⟨g, cap, cur, e, Nat.zero_le _, r⟩
theorem LObj.notDef {I : Nat → Prop} {F : Fp} {S : LS} {w : World} {D : Nat} {l : Option (List Deferred)} (h : LObj I F S w) (hD : w.heap[D]? = some (.deferred l)) : ¬ F.own D := by
  intro hk
  rcases hk with rfl | rfl | rfl | rfl | q | q
  · have := h.b0; simp [World.cell?, hD] at this
  · have := h.t0; simp [World.cell?, hD] at this
  · obtain ⟨es, ck, e⟩ := h.am.isMap; rw [hD] at e; cases e
  · obtain ⟨es, ck, e⟩ := h.mm.isMap; rw [hD] at e; cases e
  · rcases h.lr.2 with ⟨e, _⟩ | ⟨g, cap, cur, e, _, e2, _⟩
    · rw [e] at q; cases q
    · rw [e] at q; cases q; rw [hD] at e2; cases e2
  · obtain ⟨vs, hp, _⟩ := h.pr
    rcases hp.2 with ⟨e, _⟩ | ⟨g, cap, cur, e, _, e2, _⟩
    · rw [e] at q; cases q
    · rw [e] at q; cases q; rw [hD] at e2; cases e2
/-- the postings are others -/
theorem LObj.setPosts {I : Nat → Prop} {F : Fp} {A : List Acc} {ps0 ps : List (List Ent)} {v : Value} {vs : List Value} {w : World} (h : LObj I F ⟨A, ps0⟩ w) (hown : w.ownsRow 0 33 1 v ps.length vs) (hq : ∀ (i : Nat) (p : List Ent), ps[i]? = some p → ∃ u, vs[i]? = some u ∧ PostRow I w u p) (hd : ∀ k, v.ownBlock = some k → ¬ F.own k ∧ ¬ I k) : LObj I { F with pv := v } ⟨A, ps⟩ (w.setCell ⟨F.b, 2, none⟩ v) := by
  have hT : ∀ k, k ≠ F.b → (w.setCell ⟨F.b, 2, none⟩ v).heap[k]? = w.heap[k]? := fun k hk => heap_setCell_other _ _ _ _ hk
  have ap := h.ap
  have et := hT _ ap.bt.symm
  have ea := hT _ ap.ba.symm
  have em := hT _ ap.bm.symm
  refine ⟨?_, ?_, ?_, fun o => (World.frozen?_setCell _ _ _ _).trans (h.bf o), cell_stay h.t0 et, cell_stay h.t1 et, cell_stay h.t2 et, fro_stay h.tf et, own_stays h.lr (fun k q => hT k (ap.l k q).1), ⟨vs, own_stays hown (fun k q => hT k (fun e => (hd k q).1 (.inl e))), fun i p e => ?_⟩, h.am.stays (by simp) ea, h.mm.stays (by simp) em, ⟨ap.bt, ap.ba, ap.bm, ap.ta, ap.tm, ap.am, fun k q => ?_, fun k q => ?_⟩, fun k q hi => ?_, fun k hi => by simpa using h.ilt k hi⟩
  · have := h.b0
    simpa [go_sem] using this
  · have := h.b1
    simpa [go_sem] using this
  · exact World.cell?_setCell_same' w ⟨F.b, 2, none⟩ _ (by rw [h.b2]; rfl)
  · obtain ⟨u, e1, e2, e3⟩ := hq i p e
    exact ⟨u, e1, own_stays e2 (fun k q => hT k (fun e => h.imm k (.inl e) (e3 k q))), e3⟩
  · have := ap.l k q
    exact ⟨this.1, this.2.1, this.2.2.1, this.2.2.2.1, fun e => (hd k e).1 (.inr (.inr (.inr (.inr (.inl q)))))⟩
  · have := (hd k q).1
    exact ⟨fun e => this (.inl e), fun e => this (.inr (.inl e)), fun e => this (.inr (.inr (.inl e))), fun e => this (.inr (.inr (.inr (.inl e))))⟩
  · rcases q with q | q | q | q | q | q
    · exact h.imm k (.inl q) hi
    · exact h.imm k (.inr (.inl q)) hi
    · exact h.imm k (.inr (.inr (.inl q))) hi
    · exact h.imm k (.inr (.inr (.inr (.inl q)))) hi
    · exact h.imm k (.inr (.inr (.inr (.inr (.inl q))))) hi
    · exact (hd k q).2 hi
/-- no panic is waited for -/
def noPan (Q : Exit → Act → World → Prop) : Exit → Act → World → Prop
  | .panic _, _, _ => False
  | e, a, w => Q e a w
theorem wpIn_noPan {F : Fence} {n : Nat} {P : Program} {c : Code} {Q : Exit → Act → World → Prop} {a : Act} {w : World} (h : c.wpIn F n P (noPan Q) a w) : c.wpIn F n P Q a w :=
  Code.wpIn_mono (fun e a w q => by cases e <;> first | exact q | exact q.elim) h
set_option maxRecDepth 100000 in
set_option maxHeartbeats 8000000 in
theorem Copy_c (I : Nat → Prop) (F : Fp) (S : LS) (w : World) (h : LObj I F S w) (hS : Fine S) : Calls Try.prog 14 #[.pointer (some ⟨F.b, 0, none⟩)] w (CopyPost I S w) := by
  have H := hide h
  have HS := hide hS.snd
  have HP := hide hS.few
  clear h hS
  refine (callsIn_wide (n := 3)).1 ?_
  refine callsIn_of_wp_marks Try.func14 rfl trivial ?_ rfl
  simp only [Try.ntmps14, List.size_toArray, List.length_cons, List.length_nil, Nat.reduceAdd, Nat.reduceSub, Array.replicate_succ, Array.replicate_zero, List.push_toArray, List.append_toArray, List.nil_append, List.cons_append]
  gi_wp2_with fail
  refine (callsIn_wide.2 (isLedger w F.b F.t H.out.b0)).mono ?_
  rintro e w' ⟨rfl, rfl⟩
  gi_wp2_with fail
  refine (callsIn_wide.2 (New_c w)).mono ?_
  rintro e w1 ⟨rfl, hw1⟩
  have hb1 : Below w.heap.size w w1 := by rw [hw1]; (focus repeat' (first | (with_reducible exact Below.refl _ _) | (with_reducible assumption) | (with_reducible refine Below.alloc ?_ ?_ _) | (with_reducible refine Below.drew ?_) | (with_reducible refine bdrewN ?_ _) | (with_reducible refine Below.setCell ?_ ?_ _) | (first | (with_reducible exact Nat.le_refl _) | (with_reducible assumption) | omega | (simp; omega) | (simp; done))))
  have HN1 := hide (show LObj I (newFp w.heap.size) ⟨[], []⟩ w1 from hw1 ▸ New_obj I w H.out.ilt)
  have hz1 : w.heap.size + 4 ≤ w1.heap.size := by rw [hw1]; simp
  have HB1 := hide hb1
  clear hb1 hw1
  obtain ⟨w2, hw2⟩ : ∃ w2, w2 = w1.alloc (.cells #[.pointer (some ⟨w.heap.size + 3, 0, none⟩)] 25) := ⟨_, rfl⟩
  have hb2 : Below w1.heap.size w1 w2 := by rw [hw2]; (focus repeat' (first | (with_reducible exact Below.refl _ _) | (with_reducible assumption) | (with_reducible refine Below.alloc ?_ ?_ _) | (with_reducible refine Below.drew ?_) | (with_reducible refine bdrewN ?_ _) | (with_reducible refine Below.setCell ?_ ?_ _) | (first | (with_reducible exact Nat.le_refl _) | (with_reducible assumption) | omega | (simp; omega) | (simp; done))))
  have hz2 : w1.heap.size + 1 ≤ w2.heap.size := by rw [hw2]; simp
  have HB2 := hide (bstep HB1.out hb2)
  have c2 : w2.cell? ⟨w1.heap.size, 0, none⟩ = some (.pointer (some ⟨w.heap.size + 3, 0, none⟩)) := by rw [hw2]; simp [go_sem]
  have f2 : w2.frozen? ⟨w1.heap.size, 0, none⟩ = false := by rw [hw2]; simp [go_sem]
  have HN2 := hide (HN1.out.below hb2)
  gi_wp2_with fail
  rw [← hw2]
  clear hw2 hb2 HN1 HB1
  refine (callsIn_wide.2 (Accounts_c I F S _ (H.out.below HB2.out) HS.out.few)).mono ?_
  rintro e w5 ⟨Bx, g, rfl, hac, hb5⟩
  have hz5 := hb5.size
  have HB5 := hide (bstep HB2.out hb5)
  have HAC := hide hac
  have hlb := hac.lb
  have hlg := hac.lg
  have hlt := hac.lts
  have HI0 := hide (show CI w I S.acc w1.heap.size Bx g w5.heap.size (w.heap.size + 3) 0 w5 from ⟨⟨newFp w.heap.size, HN2.out.below hb5, rfl, by show w.heap.size + 1 < _; omega, by show w.heap.size < _; omega, by show w.heap.size + 2 < _; omega, fun k hk => by
    have hk2 := HN2.out.lt hk
    have hk3 : w.heap.size ≤ k ∧ k < w1.heap.size := by
      rcases hk with q | q | q | q | q | q
      · have q' : k = w.heap.size + 3 := q; omega
      · have q' : k = w.heap.size + 1 := q; omega
      · have q' : k = w.heap.size := q; omega
      · have q' : k = w.heap.size + 2 := q; omega
      · cases q
      · cases q
    omega⟩, cell_stay c2 (hb5.block _ (by omega)), fro_stay f2 (hb5.block _ (by omega))⟩)
  clear hac hb5 c2 f2 HB2 HN2
  gi_wp2_with fail
  refine range_X (n := 3) (by decide) (gf := 53) (lb := #[.pointer (some ⟨Bx, 0, none⟩)]) rfl (enters_of Try.func53 (by kernel_rfl) rfl)
    (acc_seqX 2 (by decide) HAC.out HS.out.few) (fun i hi => by rcases hi with rfl | rfl <;> omega) (Below.refl _ _) (fun _ => rfl)
    (fun pre W => (∃ j, j ≤ S.acc.length ∧ pre = upto (numA S.acc) j ∧ CI w I S.acc w1.heap.size Bx g w5.heap.size (w.heap.size + 3) j W) ∧ w5.heap.size ≤ W.heap.size ∧ Below w.heap.size w W) (fun _ _ _ => False)
    ?ext (fun _ _ _ _ hs _ => hs) ?putl (fun _ _ _ _ _ hs _ => hs)
    ⟨⟨0, Nat.zero_le _, rfl, HI0.out⟩, Nat.le_refl _, HB5.out⟩
    (fun pre x a' W => ∃ j By, j < S.acc.length ∧ pre = upto (numA S.acc) j ∧ x = numA S.acc j ∧ w5.heap.size + 2 ≤ By ∧ By < W.heap.size ∧ BoxH W By x.2 ∧ a' = { tmps := #[.pointer (some ⟨F.b, 0, none⟩), undef, .pointer none, .pointer (some ⟨w1.heap.size, 0, none⟩), undef, .pointer (some ⟨By, 0, none⟩), undef, undef, .pointer (some ⟨F.b, 0, none⟩), .bool false, .pointer (some ⟨w.heap.size + 3, 0, none⟩), .pointer (some ⟨F.b, 0, none⟩), .func (.func 53) #[] #[.pointer (some ⟨Bx, 0, none⟩)], .int .i64 (x.1 : Int), .agg #[.string x.2.name, .int .i64 x.2.least, .int .i64 x.2.has], undef, undef, undef, undef, undef, undef, undef, undef, undef, undef, undef, undef, undef, undef, undef, undef, undef, undef, undef, undef, undef, undef, undef, undef], defers := [] })
    (fun pre x a' W o hx => ?_) ?assign ?body ?done ?stop
  case ext =>
    rintro s W W' ⟨⟨j, h1, h2, h3⟩, hz, hB⟩ hb
    exact ⟨⟨j, h1, h2, h3.below hb⟩, Nat.le_trans hz hb.size, hB.trans (hb.mono hB.size)⟩
  case putl =>
    rintro s W lo lo' ⟨⟨j, h1, h2, h3⟩, hz, hB⟩ hlo
    refine ⟨⟨j, h1, h2, ?_⟩, by simpa using hz, below_putL hB (by omega) _⟩
    obtain ⟨Fc, q1, q2⟩ := h3.ex
    have hne := cell_noloop h3.c hlo
    exact ⟨⟨Fc, q1.putL hlo, q2⟩, (cell_put hne).trans h3.c, (fro_put hne).trans h3.cf⟩
  · obtain ⟨j, By, h1, h2, h3, h4, h5, h6, h7⟩ := hx
    exact ⟨j, By, h1, h2, h3, h4, by simpa using h5, h6.put (by omega) o, h7⟩
  case assign =>
    rintro l pre x W K' hI ⟨j, hj, rfl, rfl⟩ hlt2 hK
    gi_wp2
    have hb := (Below.refl W.heap.size W).alloc (Nat.le_refl _) (.cells #[.string (numA S.acc j).2.name, .int .i64 (numA S.acc j).2.least, .int .i64 (numA S.acc j).2.has] 70)
    refine hK _ _ (KeepsOthers.alloc _ _) (Fix.of_below hb) ?_ ⟨j, W.heap.size, hj, rfl, rfl, by omega, by simp, BoxH.new W _, rfl⟩
    obtain ⟨⟨j2, h1, h2, h3⟩, hz, hB⟩ := hI
    exact ⟨⟨j2, h1, h2, h3.below hb⟩, Nat.le_trans hz hb.size, hB.trans (hb.mono hB.size)⟩
  case body =>
    rintro l pre x a' W ⟨⟨j2, hj2, hp2, hCI⟩, hz, hB⟩ hlt2 ⟨j, By, hj, rfl, rfl, hBy, hByz, hbx, rfl⟩
    obtain rfl : j = j2 := by
      have := congrArg List.length hp2
      rw [upto_length, upto_length] at this
      exact this
    have HUP := hide (upto_succ (numA S.acc) j)
    obtain ⟨a, ha⟩ : ∃ a, a = accAt0 S.acc j := ⟨_, rfl⟩
    have hga := HS.out.good a (by rw [ha]; exact accAt0_mem hj)
    have HTA := hide (show S.acc.take (j + 1) = S.acc.take j ++ [a] by rw [take_snocA _ _ hj, ha])
    have HLN := hide (show (S.acc.take j).length = j by simp; omega)
    have hidx : idx (nms (S.acc.take j)) a.name = none := by rw [ha]; exact take_names HS.out.nd hj
    have hbx' : BoxH W By a := by rw [ha]; exact hbx
    obtain ⟨Fc, ho, hbn, hbt, hba, hbm, hown⟩ := hCI.ex
    have q := Open_ok I Fc ⟨S.acc.take j, []⟩ a.name a.least W ho hga.1 hga.2.1 hga.2.2.1 hidx (by have := HS.out.few; rw [HLN.out]; omega)
    rw [hbn] at q
    have HQ := hide q
    have HBX := hide hbx'
    have HO := hide ho
    have HFC := hide (show Fc.b = w.heap.size + 3 ∧ Fc.t < w5.heap.size ∧ Fc.a < w5.heap.size ∧ Fc.m < w5.heap.size ∧ Fc.b < w5.heap.size from ⟨hbn, hbt, hba, hbm, by omega⟩)
    have HOWN := hide hown
    have HCI := hide hCI
    have HBW := hide hB
    have HZ := hide hz
    have cc := hCI.c
    have b0 := hbx'.a.1
    have b1 := hbx'.a.2.1
    rw [show (numA S.acc j).2 = a from ha.symm, show (numA S.acc j).1 = j from rfl]
    clear hga hidx hbx' hbx hCI ho hbn hbt hba hbm hown q hp2 hB hz ha
    gi_wp2_with fail
    refine (CallsIn.inRound l (callsIn_wide.2 HQ.out)).mono ?_
    rintro e W2 ⟨rfl, F2, ho2, hs2⟩
    rw [show ((⟨S.acc.take j, []⟩ : LS).acc.length : Int) = (j : Int) by rw [HLN.out]]
    have HO2 := hide ho2
    have HS2 := hide hs2
    have hcz := World.block_lt_of_cell? W _ cc
    have hbz := World.block_lt_of_cell? W _ b0
    have hz2 := hs2.size
    have x0 : W2.cell? ⟨w1.heap.size, 0, none⟩ = some (.pointer (some ⟨w.heap.size + 3, 0, none⟩)) := cell_stay cc (hs2.keep _ hcz (fun q => (HOWN.out _ q).2.1 rfl))
    have hB2 : BoxH W2 By a := (hs2.keep _ hbz (HO.out.notBox HBX.out)).trans HBX.out
    have x1 : W2.cell? ⟨w.heap.size + 3, 1, none⟩ = some (.map (some F2.m)) := by have := ho2.b1; rw [hs2.b, HFC.out.1] at this; exact this
    have hlt0 : w1.heap.size < W2.heap.size := by omega
    have hlt1 : By < W2.heap.size := by omega
    have hlt2' := World.block_lt_of_cell? W2 _ x1
    have a0 : ∀ m : Aft W2, m.w.cell? ⟨w1.heap.size, 0, none⟩ = some (.pointer (some ⟨w.heap.size + 3, 0, none⟩)) := fun m => (m.le.cell (p := ⟨w1.heap.size, 0, none⟩) hlt0).trans x0
    have a1 : ∀ m : Aft W2, m.w.cell? ⟨w.heap.size + 3, 1, none⟩ = some (.map (some F2.m)) := fun m => (m.le.cell (p := ⟨w.heap.size + 3, 1, none⟩) hlt2').trans x1
    have a2 : ∀ m : Aft W2, m.w.cell? ⟨By, 0, none⟩ = some (.string a.name) := fun m => (m.le.cell (p := ⟨By, 0, none⟩) hlt1).trans hB2.a.1
    have a3 : ∀ m : Aft W2, m.w.cell? ⟨By, 1, none⟩ = some (.int .i64 a.least) := fun m => (m.le.cell (p := ⟨By, 1, none⟩) hlt1).trans hB2.a.2.1
    have a4 : ∀ m : Aft W2, m.w.cell? ⟨By, 2, none⟩ = some (.int .i64 a.has) := fun m => (m.le.cell (p := ⟨By, 2, none⟩) hlt1).trans hB2.a.2.2
    clear ho2 hs2 x0 x1 hB2 cc b0 b1
    gi_wp2_with fail
    refine wpIn_region_after_tail 6 (by kernel_rfl) (by kernel_rfl) (by kernel_rfl) ?_
    simp only [List.take_succ_cons, List.take_zero, List.drop_succ_cons, List.drop_zero]
    repeat (gi_big_quiet_step (fail))
    refine wpQuietIn_nil ?_
    intro _ hw'
    obtain ⟨m, hw''⟩ := hw'
    subst hw''
    have HMM := hide (show MapIs Try.prog 3 m.w F2.m (S.acc.take j ++ [(⟨a.name, a.least, 0⟩ : Acc)]).length (accAt (S.acc.take j ++ [⟨a.name, a.least, 0⟩])) from HO2.out.mm.stays m.le.size (m.le.block _ HO2.out.mm.lt))
    gi_wp2_with (gi_at_mapUpdate; refine wpListIn_mapUpdate_is _ rfl _ _ _ 57 rfl 3 70 law3 Try.underlying57 F2.m _ _ rfl HMM.out (by rw [List.length_append, HLN.out]; have := HS.out.few; unfold maxLen; simp; omega) _ _ _ rfl rfl (keyOf_int_mk Try.underlying3 (wf_small (by have := HS.out.few; omega))) ?_; intro W3 hm3 ht3; have HM3 := hide hm3; have HT3 := hide ht3; clear hm3 ht3)
    have hm3 := HM3.out
    have hset : (S.acc.take j ++ [(⟨a.name, a.least, 0⟩ : Acc)]).set j a = S.acc.take j ++ [a] := by
      rw [List.set_append, if_neg (by rw [HLN.out]; omega), HLN.out, Nat.sub_self]; rfl
    have hsome : (accAt (S.acc.take j ++ [(⟨a.name, a.least, 0⟩ : Acc)]) (.int .i64 (j : Int))).isSome = true := by
      rw [accAt_nat, List.getElem?_append_right (by rw [HLN.out]; omega), HLN.out, Nat.sub_self]; rfl
    rw [hsome, if_pos rfl, show (S.acc.take j ++ [(⟨a.name, a.least, 0⟩ : Acc)]).length = (S.acc.take j).length + 1 by simp] at hm3
    have hm4 := hm3.ext (fun x => acc_set (A := S.acc.take j ++ [(⟨a.name, a.least, 0⟩ : Acc)]) (a := a) (i := j) (by rw [List.length_append, HLN.out]; simp) x)
    rw [hset] at hm4
    have hobj : LObj I F2 ⟨S.acc.take (j + 1), []⟩ W3 := by
      rw [HTA.out]
      exact (HO2.out.below m.le).setHas (s := a.name) (l := a.least) (h0 := 0) (h1 := a.has) hm4 HT3.out
    have hF2 : ∀ k, F2.own k → w.heap.size ≤ k ∧ k ≠ w1.heap.size ∧ k ≠ Bx ∧ k ≠ g := fun k hk => by
      rcases HS2.out.own k hk with q | q
      · exact HOWN.out k q
      · have := HZ.out; omega
    have hFm : F2.own F2.m := .inr (.inr (.inr (.inl rfl)))
    have e3 : ∀ k, k < W.heap.size → ¬ Fc.own k → k ≠ F2.m → W3.heap[k]? = W.heap[k]? := fun k hk h1 h2 =>
      (turned_heap HT3.out h2 (by have := m.le.size; omega)).trans ((m.le.block k (by omega)).trans (HS2.out.keep k hk h1))
    have hm0 : F2.m = Fc.m := HS2.out.m
    refine ⟨((keeps_step HO.out HS2.out HFC.out.2.1 HFC.out.2.2.1 HFC.out.2.2.2.1 HFC.out.2.2.2.2).trans ⟨m.le.size, fun k o _ hk _ => (m.le.block k (Array.getElem?_eq_some_iff.1 hk).1).trans hk⟩).trans (KeepsFrom.of_grownBy HT3.out.grown (fun k hk => by cases hk; rw [hm0]; exact HFC.out.2.2.2.1)), ⟨by have := m.le.size; have := HT3.out.grown.size; omega, fun i hi hl => ?_⟩, ⟨j + 1, by omega, HUP.out.symm, ⟨⟨F2, hobj, HS2.out.b.trans HFC.out.1, by rw [HS2.out.t]; exact HFC.out.2.1, by rw [HS2.out.a]; exact HFC.out.2.2.1, by rw [HS2.out.m]; exact HFC.out.2.2.2.1, hF2⟩, ?_, ?_⟩⟩, ?_, ?_⟩
    · refine e3 i hl (fun q => ?_) (fun q => ?_)
      · have := HOWN.out i q
        rcases hi with rfl | rfl
        · exact this.2.2.1 rfl
        · exact this.2.2.2 rfl
      · have := hF2 _ hFm
        rcases hi with rfl | rfl
        · exact this.2.2.1 q.symm
        · exact this.2.2.2 q.symm
    · exact cell_stay HCI.out.c (e3 _ hcz (fun q => (HOWN.out _ q).2.1 rfl) (fun q => (hF2 _ hFm).2.1 q.symm))
    · exact fro_stay HCI.out.cf (e3 _ hcz (fun q => (HOWN.out _ q).2.1 rfl) (fun q => (hF2 _ hFm).2.1 q.symm))
    · have := m.le.size; have := HT3.out.grown.size; have := HZ.out; omega
    · have hst : Below w.heap.size w W2 := HBW.out.trans (HS2.out.below (fun k hk => (HOWN.out k hk).1) HBW.out.size)
      have hst2 : Below w.heap.size w m.w := hst.trans (m.le.mono hst.size)
      exact hst2.grown HT3.out.grown hst2.size (fun k hk => by cases hk; exact (hF2 _ hFm).1)
  case done =>
    rintro D ys W hD rfl ⟨⟨j, hj, hp, hCI⟩, hz, hB⟩ hKd
    obtain rfl : j = S.acc.length := by
      have := congrArg List.length hp
      rw [upto_length, upto_length] at this
      exact this.symm
    obtain ⟨Fc, ho, hbn, -, -, -, hown⟩ := hCI.ex
    rw [List.take_length] at ho
    have HW := hide (H.out.below hB)
    obtain ⟨vs, hrow, hone, hposts⟩ := (H.out.below hB).rows
    obtain ⟨pa, pc, hpv⟩ := own_any hrow
    have HPV := hide hpv
    have HROW := hide (show W.ownsRow 0 33 1 (.slice pa S.posts.length pc) S.posts.length vs by rw [← hpv]; exact hrow)
    have ONE := hide hone
    have HPO := hide hposts
    have b2 : W.cell? ⟨F.b, 2, none⟩ = some (.slice pa S.posts.length pc) := by rw [← hpv]; exact (H.out.below hB).b2
    have cc := hCI.c
    have n2 : W.cell? ⟨w.heap.size + 3, 2, none⟩ = some Fc.pv := by have := ho.b2; rw [hbn] at this; exact this
    have nf : W.frozen? ⟨w.heap.size + 3, 2, none⟩ = false := by have := ho.bf 2; rw [hbn] at this; exact this
    have cz := World.block_lt_of_cell? W _ cc
    have nz := World.block_lt_of_cell? W _ n2
    have bz := World.block_lt_of_cell? W _ b2
    have dz := (Array.getElem?_eq_some_iff.1 hKd).1
    have hpl := HS.out
    have HO := hide ho
    have HBN := hide hbn
    have HOWN := hide hown
    have HB := hide hB
    have HKD := hide hKd
    clear ho hbn hown hB hKd hrow hone hposts hpv hCI hp
    gi_wp2_with fail
    refine wpIn_noPan ?_
    gi_region_with (refine (callsIn_wide.2 (Clone30_c _ _ 0 vs _ HP.out (own_stays HROW.out (fun k hk => (drewB _).block _ (HROW.out.lt k hk).2)) ONE.out)).mono ?_; rintro e w6 ⟨v6, rfl, own6, hb6⟩; obtain ⟨a6, p6, rfl⟩ := own_any own6; have O6 := hide own6; have HB6 := hide (bstep (drewB _) hb6); have c6 := cell_stay cc (HB6.out.block _ cz); have n6 := cell_stay n2 (HB6.out.block _ nz); have f6 := fro_stay nf (HB6.out.block _ nz); clear own6 hb6)
    all_goals
      show Exit.then _ (bodyPostM Fence.wide 3 Try.prog Try.f14 (CopyPost I S w)) Exit.normal _ _
      have dx : w1.heap.size ≠ w.heap.size + 3 := by omega
      have dz6 := HB6.out.size
      gi_wp2
      obtain ⟨V, hV⟩ : ∃ V, V = w6.setCell ⟨w.heap.size + 3, 2, none⟩ (.slice a6 S.posts.length p6) := ⟨_, rfl⟩
      rw [← hV]
      have hoth : ∀ k, k ≠ w.heap.size + 3 → V.heap[k]? = w6.heap[k]? := fun k hk => by rw [hV]; exact heap_setCell_other _ _ _ _ hk
      have hK' : V.heap[D]? = some (.deferred (some [])) := (hoth D (by omega)).trans ((HB6.out.block D dz).trans HKD.out)
      refine ⟨by simp, .inl ⟨_, _, rfl, run_takeDeferred hK', ?_⟩⟩
      have h6 := HO.out.below HB6.out
      have n6' : ∀ k, (Value.slice a6 S.posts.length p6).ownBlock = some k → W.heap.size ≤ k := fun k hk => (O6.out.lt k hk).1
      have hset : LObj I { Fc with pv := .slice a6 S.posts.length p6 } S V := by
        have q := h6.setPosts (ps := S.posts) (own_zero O6.out) (fun i p hp => by
          obtain ⟨v, e1, e2, e3⟩ := HPO.out i p hp
          exact ⟨v, e1, own_stays e2 (fun k hk => HB6.out.block k (HO.out.ilt k (e3 k hk))), e3⟩) (fun k hk => ⟨fun q => by have := HO.out.lt q; have := n6' k hk; omega, fun q => by have := HO.out.ilt k q; have := n6' k hk; omega⟩)
        rw [hV, ← HBN.out]
        exact q
      have hV0 : Below w.heap.size w V := by rw [hV]; exact (HB.out.trans (HB6.out.mono HB.out.size)).setCell (p := ⟨w.heap.size + 3, 2, none⟩) (by show w.heap.size ≤ w.heap.size + 3; omega) _
      have hvz := hV0.size
      refine ⟨.pointer (some ⟨w.heap.size + 3, 0, none⟩), ?_, { Fc with pv := .slice a6 S.posts.length p6 }, by rw [← HBN.out], ?_, ?_, hV0.trans (belowK_b (w := w) (Nat.le_refl _) _ D _ _ (by omega) hK' rfl rfl)⟩
      · clear hV
        simp [results, Try.f14, go_sem]
      · have hnd := hset.notDef hK'
        refine hset.stays (by simp) (fun k q => World.putObj_heap_other (fun e => ?_)) (fun _ q => q) (fun _ q n => absurd q n)
        subst e
        rcases q with q | q
        · exact hnd q
        · have := H.out.ilt k q; omega
      · intro k hk
        rcases hk with q | q | q | q | q | q
        · exact (HOWN.out k (.inl q)).1
        · exact (HOWN.out k (.inr (.inl q))).1
        · exact (HOWN.out k (.inr (.inr (.inl q)))).1
        · exact (HOWN.out k (.inr (.inr (.inr (.inl q))))).1
        · exact (HOWN.out k (.inr (.inr (.inr (.inr (.inl q)))))).1
        · have := n6' k q; omega
  case stop =>
    rintro D c pre W hD _ hx _
    exact hx.elim
end Go.Proofs.Ytkdocoibfclfeaa

namespace Go.Proofs.Ytkdocoibfclfeaa
open Go.ChangeShapes Go.WideShapes Go.ChangeAt Go.RowKit Go.Deep Go.Shelf Go.Maps Go.WideMaps Ytkdocoibfclfeaa.it
set_option linter.unusedSimpArgs false
set_option linter.unusedVariables false

attribute [local go_sem] Oper.semAt_some

theorem may0 {A : List Acc} {p : List Ent} (h : mayE A p = 0) : Formed p ∧ allThere A p ∧ ¬ isLow A p := by
  unfold mayE at h
  by_cases h1 : Formed p
  · rw [if_neg (fun q => q h1)] at h
    by_cases h2 : allThere A p
    · rw [if_neg (fun q => q h2)] at h
      by_cases h3 : isLow A p
      · rw [if_pos h3] at h; cases h
      · exact ⟨h1, h2, h3⟩
    · rw [if_pos h2] at h; cases h
  · rw [if_pos h1] at h; cases h
theorem may_is {A : List Acc} {p : List Ent} (h1 : Formed p) (h2 : allThere A p) : mayE A p = 0 ∨ mayE A p = 7 := by
  unfold mayE
  rw [if_neg (fun q => q h1), if_neg (fun q => q h2)]
  by_cases h3 : isLow A p
  · rw [if_pos h3]; exact .inr rfl
  · rw [if_neg h3]; exact .inl rfl
theorem names_neg (p : List Ent) : names (negE p) = names p := by simp [names, negE, Function.comp_def]
theorem total_neg (p : List Ent) : total (negE p) = - total p := by
  induction p with
  | nil => rfl
  | cons x r ih => show -x.2 + total (negE r) = -(x.2 + total r); rw [ih]; omega
theorem sumOf_neg (p : List Ent) (s : ByteArray) : sumOf (negE p) s = - sumOf p s := by
  induction p with
  | nil => rfl
  | cons x r ih =>
    show (if x.1 = s then -x.2 else 0) + sumOf (negE r) s = -((if x.1 = s then x.2 else 0) + sumOf r s)
    rw [ih]; split <;> omega
theorem Formed.neg {p : List Ent} (h : Formed p) : Formed (negE p) := by
  refine ⟨by rw [negE_len]; exact h.1, by rw [negE_len]; exact h.2.1, fun x hx => ?_, by rw [total_neg, h.2.2.2]; rfl⟩
  obtain ⟨y, hy, rfl⟩ := List.mem_map.1 hx
  obtain ⟨g1, g2, g3, g4⟩ := h.2.2.1 y hy
  exact ⟨g1, by show -y.2 ≠ 0; omega, by show -y.2 ≤ maxC; omega, by show -maxC ≤ -y.2; omega⟩
theorem posted_back (A : List Acc) (p : List Ent) : posted (posted A p) (negE p) = A := by
  unfold posted
  rw [List.map_map]
  conv => rhs; rw [← List.map_id A]
  refine List.map_congr_left (fun a _ => ?_)
  obtain ⟨n, l, h⟩ := a
  show (⟨n, l, h + sumOf p n + sumOf (negE p) n⟩ : Acc) = ⟨n, l, h⟩
  rw [sumOf_neg, Int.add_neg_cancel_right]
theorem allThere_posted {A : List Acc} {p q : List Ent} (h : allThere A p) (hn : names q = names p) (r : List Ent) : allThere (posted A r) q := by
  intro s hs
  rw [posted_nms]
  exact h s (hn ▸ hs)
theorem back_may {A : List Acc} {p : List Ent} (h : mayE A p = 0) : mayE (posted A p) (negE p) = 0 ∨ mayE (posted A p) (negE p) = 7 :=
  may_is (may0 h).1.neg (allThere_posted (may0 h).2.1 (names_neg p) p)
theorem Fine.posted {S : LS} (h : Fine S) {p : List Ent} (hm : mayE S.acc p = 0) (hl : S.posts.length < 1048576) : Fine ⟨posted S.acc p, S.posts ++ [p]⟩ := by
  obtain ⟨h1, h2, h3⟩ := may0 hm
  refine ⟨h.snd.posted h1 h2 h3, fun q hq => ?_, by simp; omega⟩
  rcases List.mem_append.1 hq with q1 | q1
  · exact h.frm q q1
  · simp at q1; subst q1; exact h1
theorem posted_len (A : List Acc) (p : List Ent) : (posted A p).length = A.length := by simp [posted]
def OpenAny (I : Nat → Prop) (F : Fp) (S : LS) (w : World) (e : Ending) (w' : World) : Prop := ∃ (a b : Int) (F' : Fp) (S' : LS), e = .returned (.tuple #[.int .i64 a, .int .i64 b]) ∧ LObj I F' S' w' ∧ Step I F w I F' w' ∧ Fine S' ∧ S'.posts = S.posts ∧ S'.acc.length ≤ S.acc.length + 1
theorem Open_any (I : Nat → Prop) (F : Fp) (S : LS) (s : ByteArray) (l : Int) (w : World) (h : LObj I F S w) (hS : Fine S) (hf : S.acc.length < 65536) : Calls Try.prog 8 #[.pointer (some ⟨F.b, 0, none⟩), .string s, .int .i64 l] w (OpenAny I F S w) := by
  by_cases hb : goodName s ∧ -maxC ≤ l ∧ l ≤ 0
  · obtain ⟨h1, h2, h3⟩ := hb
    cases hi : idx (nms S.acc) s with
    | some i =>
      refine (Open_there I F S s l i w h h1 h2 h3 hi).mono fun e w' q => ?_
      obtain ⟨rfl, rfl⟩ := q
      exact ⟨_, _, F, S, rfl, h, Step.of_below (Below.refl _ _), hS, rfl, by omega⟩
    | none =>
      refine (Open_ok I F S s l w h h1 h2 h3 hi hf).mono fun e w' q => ?_
      obtain ⟨rfl, F', h4, h5⟩ := q
      exact ⟨_, _, F', _, rfl, h4, h5, ⟨hS.snd.opened h1 h2 h3 hi hf, hS.frm, hS.few⟩, rfl, by simp⟩
  · refine (Open_bad I F S s l w h hb).mono fun e w' q => ?_
    obtain ⟨rfl, rfl⟩ := q
    exact ⟨_, _, F, S, rfl, h, Step.of_below (Below.refl _ _), hS, rfl, by omega⟩
/-- a row of strings that came in -/
structure NRow (w : World) (so : Option Addr) (L : List ByteArray) : Prop where
  cells : ∀ k, k < L.length → ∃ g off, so = some ⟨g, off, none⟩ ∧ w.cell? ⟨g, off + k, none⟩ = some (.string (L.getD k ⟨#[]⟩))
theorem NRow.below {w w' : World} {so : Option Addr} {L : List ByteArray} (h : NRow w so L) (hb : Below w.heap.size w w') : NRow w' so L := ⟨fun k hk => by
  obtain ⟨g, off, e, c⟩ := h.cells k hk
  exact ⟨g, off, e, cell_stay c (hb.block _ (World.block_lt_of_cell? w _ c))⟩⟩
/-- a row of rows of entries that came in -/
structure PRow (w : World) (so : Option Addr) (L : List (List Ent)) : Prop where
  cells : ∀ k, k < L.length → ∃ g off so' cap, so = some ⟨g, off, none⟩ ∧ w.cell? ⟨g, off + k, none⟩ = some (.slice so' (L.getD k []).length cap) ∧ Ents so' cap (L.getD k []) w
theorem PRow.below {w w' : World} {so : Option Addr} {L : List (List Ent)} (h : PRow w so L) (hb : Below w.heap.size w w') : PRow w' so L := ⟨fun k hk => by
  obtain ⟨g, off, so', cap, e, c, q⟩ := h.cells k hk
  exact ⟨g, off, so', cap, e, cell_stay c (hb.block _ (World.block_lt_of_cell? w _ c)), q.below hb⟩⟩
theorem KL.posts {w : World} {B : Nat} {I : Nat → Prop} {F : Fp} {S : LS} {w1 : World} (h : KL w B I F S w1) {so : Option Addr} {L : List (List Ent)} (q : PRow w so L) : PRow w1 so L := q.below h.low
theorem KL.names {w : World} {B : Nat} {I : Nat → Prop} {F : Fp} {S : LS} {w1 : World} (h : KL w B I F S w1) {so : Option Addr} {L : List ByteArray} (q : NRow w so L) : NRow w1 so L := q.below h.low

set_option maxRecDepth 100000 in
set_option maxHeartbeats 8000000 in
theorem sums_c (no po : Option Addr) (nc pc : Nat) (L : List ByteArray) (P : List (List Ent)) (x : Int) (w : World) (hN : NRow w no L) (hP : PRow w po P) : Calls Try.prog 3 #[.slice no L.length nc, .int .i64 x, .slice po P.length pc] w fun e w' => e = .returned (.bool true) ∧ Below w.heap.size w w' := by
  have HN := hide hN
  have HP := hide hP
  clear hN hP
  by_cases h1 : 50 < L.length
  · have d1 : decide ((50 : Int) < (L.length : Int)) = true := by (rw [decide_eq_true_iff]; omega)
    clear h1
    go_enter Try.func3, Try.ntmps3
    go_wp2_with fail
    refine (known_c w).mono ?_
    rintro e w1 ⟨rfl, hb1⟩
    go_wp2
    refine bodyPost_ret (v := .bool true) (by simp [results, Try.f3, go_sem]) rfl ⟨rfl, hb1⟩
  by_cases h2 : 60 < P.length
  · have d1 : decide ((50 : Int) < (L.length : Int)) = false := by (rw [decide_eq_false_iff_not]; omega)
    have d2 : decide ((60 : Int) < (P.length : Int)) = true := by (rw [decide_eq_true_iff]; omega)
    clear h1 h2
    go_enter Try.func3, Try.ntmps3
    go_wp2_with fail
    refine (known_c w).mono ?_
    rintro e w1 ⟨rfl, hb1⟩
    go_wp2
    refine bodyPost_ret (v := .bool true) (by simp [results, Try.f3, go_sem]) rfl ⟨rfl, hb1⟩
  have d1 : decide ((50 : Int) < (L.length : Int)) = false := by (rw [decide_eq_false_iff_not]; omega)
  have d2 : decide ((60 : Int) < (P.length : Int)) = false := by (rw [decide_eq_false_iff_not]; omega)
  have HL := hide (show L.length ≤ 50 by omega)
  have HPL := hide (show P.length ≤ 60 by omega)
  clear h1 h2
  go_enter Try.func3, Try.ntmps3
  go_wp2_with fail
  refine (New_c w).mono ?_
  rintro e w1 ⟨rfl, hw1⟩
  have HK1 := hide (hw1 ▸ KL.new w)
  clear hw1
  go_wp2_with fail
  go_loopw [8] (fun v8 wr => ∃ (i : Nat) (F : Fp) (S : LS), i ≤ L.length ∧ v8 = .int .i64 (i : Int) ∧ KL w (w.heap.size + 3) (fun _ => False) F S wr ∧ Fine S ∧ S.posts = [] ∧ S.acc.length ≤ i) (fun v8 _ => L.length - (intOf v8).toNat)
  case atStart => exact ⟨0, _, _, Nat.zero_le _, rfl, HK1.out, ⟨Sound.nil, by simp, by simp⟩, rfl, Nat.le_refl _⟩
  case round =>
    obtain ⟨i, F, S, hi, rfl, hk, hS, hp0, hal⟩ := hrel
    have HK := hide hk
    have HS := hide hS
    have HP0 := hide hp0
    have HAL := hide hal
    clear hk hS hp0 hal
    by_cases hlt : i < L.length
    · have hl2 : (i : Int) < (L.length : Int) := by omega
      have hi0 : (0 : Int) ≤ (i : Int) := by omega
      have hl3 : (i : Int) < 100 := by have := HL.out; omega
      obtain ⟨g, off, rfl, hc⟩ := (HK.out.names HN.out).cells i hlt
      have q := Open_any _ F S (L.getD i ⟨#[]⟩) x wr HK.out.obj HS.out (by have := HAL.out; have := HL.out; omega)
      rw [HK.out.b] at q
      have HQ := hide q
      obtain ⟨s, hs⟩ : ∃ s, s = L.getD i ⟨#[]⟩ := ⟨_, rfl⟩
      rw [← hs] at hc HQ
      clear q hs
      go_wp2_with fail
      refine HQ.out.mono ?_
      rintro e w2 ⟨a, b, F2, S2, rfl, ho2, hs2, hf2, hp2, hl2'⟩
      have HK2 := hide (HK.out.step ho2 hs2)
      have HF2 := hide hf2
      have HP2 := hide hp2
      have HL2 := hide hl2'
      clear ho2 hs2 hf2 hp2 hl2'
      go_wp2_with fail
      go_roundw
      case rel => exact ⟨i + 1, F2, S2, by omega, by go_num, HK2.out, HF2.out, HP2.out.trans HP0.out, by have := HL2.out; have := HAL.out; omega⟩
      case measure => (first | (simp [intOf]; done) | (simp [intOf]; omega))
    · have hl2 : ¬ (i : Int) < (L.length : Int) := by omega
      have HAL2 := hide (show S.acc.length ≤ 50 by have := HAL.out; have := HL.out; omega)
      clear HAL HK1 d1 d2
      go_wp2_with fail
      go_loopw [7, 9] (fun v7 v9 wr => ∃ (i B : Nat) (I : Nat → Prop) (F : Fp) (S : LS), i ≤ P.length ∧ v9 = .int .i64 (i : Int) ∧ v7 = .pointer (some ⟨B, 0, none⟩) ∧ KL w B I F S wr ∧ Fine S ∧ S.posts.length ≤ 2 * i ∧ S.acc.length ≤ 50) (fun _ v9 _ => P.length - (intOf v9).toNat)
      case atStart => exact ⟨0, _, _, F, S, Nat.zero_le _, rfl, rfl, HK.out, HS.out, by rw [HP0.out]; exact Nat.le_refl _, HAL2.out⟩
      case round =>
        clear HK HS HP0 HAL2 hl2 hlt hi
        obtain ⟨j, B, I, F, S, hj, rfl, rfl, hk, hS, hp0, hal⟩ := hrel
        have HK := hide hk
        have HS := hide hS
        have HP0 := hide hp0
        have HAL := hide hal
        clear hk hS hp0 hal
        by_cases hlt : j < P.length
        · have hl2 : (j : Int) < (P.length : Int) := by omega
          have hj0 : (0 : Int) ≤ (j : Int) := by omega
          have hl3 : (j : Int) < 100 := by have := HPL.out; omega
          obtain rfl : F.b = B := HK.out.b
          obtain ⟨g, off, so, cap, rfl, hc, hE⟩ := HP.out.cells j hlt
          obtain ⟨p, hp⟩ : ∃ p, p = P.getD j [] := ⟨_, rfl⟩
          rw [← hp] at hc hE
          have HC := hide hc
          have HE := hide hE
          have hcz := World.block_lt_of_cell? w _ hc
          have HCZ := hide hcz
          clear hp hc hE hcz
          go_wp2_with fail
          refine (hads_c I F S wr HK.out.obj (by have := HAL.out; omega)).mono ?_
          rintro e w2 ⟨ha, hk, rfl, hown2, hb2⟩
          have HH2 := hide hown2
          have HK2 := hide (HK.out.below hb2)
          have c2 := cell_stay HC.out (HK2.out.low.block _ HCZ.out)
          clear hown2 hb2
          go_wp2_with fail
          refine (May_c I F S so cap p w2 HK2.out.obj (HE.out.below HK2.out.low) HS.out.snd).mono ?_
          rintro e w3 ⟨rfl, hb3⟩
          have HK3 := hide (HK2.out.below hb3)
          have HH3 := hide (own_stays HH2.out (fun q hq => hb3.block q (HH2.out.lt q hq).2))
          have c3 := cell_stay HC.out (HK3.out.low.block _ HCZ.out)
          clear hb3 HK2 HH2 c2
          obtain ⟨m, hm⟩ : ∃ m, m = mayE S.acc p := ⟨_, rfl⟩
          have HM := hide hm
          rw [← hm]
          clear hm
          go_wp2_with fail
          refine (Post_c I F S so cap p w3 HK3.out.obj (HE.out.below HK3.out.low) HS.out.snd HS.out.few).mono ?_
          have e1 : (m == m) = true := by simp
          have e2 : (m != m) = false := by simp
          have e3 : decide (m = m) = true := by simp
          rintro e w4 (⟨hm4, rfl, hb4⟩ | ⟨hm4, rfl, I4, F4, ho4, hs4⟩)
          · rw [← HM.out] at hm4 ⊢
            have e4 : (m == 0) = false := by (rw [beq_eq_false_iff_ne]; exact hm4)
            have e5 : (m != 0) = true := by (rw [bne_iff_ne]; exact hm4)
            have e6 : decide (m = 0) = false := by (rw [decide_eq_false_iff_not]; exact hm4)
            have HK4 := hide (HK3.out.below hb4)
            have HH4 := hide (own_stays HH3.out (fun q hq => hb4.block q (HH3.out.lt q hq).2))
            clear hb4 HK3 HH3 c3 HM hm4
            go_wp2_with fail
            refine (nought_c I F S w4 HK4.out.obj HS.out.snd).mono ?_
            rintro e w5 ⟨rfl, hb5⟩
            have HK5 := hide (HK4.out.below hb5)
            have HH5 := hide (own_stays HH4.out (fun q hq => hb5.block q (HH4.out.lt q hq).2))
            clear hb5 HK4 HH4
            go_wp2_with fail
            refine (hads_c I F S w5 HK5.out.obj (by have := HAL.out; omega)).mono ?_
            rintro e w6 ⟨ha6, hk6, rfl, hown6, hb6⟩
            have HK6 := hide (HK5.out.below hb6)
            have HH6 := hide (own_stays HH5.out (fun q hq => hb6.block q (HH5.out.lt q hq).2))
            have HG6 := hide hown6
            clear hb6 HK5 HH5 hown6
            go_wp2_with fail
            refine (sameHads_c S.acc _ _ _ _ _ _ w6 HH6.out HG6.out (by have := HAL.out; omega)).mono ?_
            rintro e w7 ⟨rfl, hb7⟩
            have HK7 := hide (HK6.out.below hb7)
            clear hb7 HK6 HH6 HG6
            go_wp2_with fail
            go_roundw
            case rel => exact ⟨j + 1, _, I, F, S, by omega, by go_num, rfl, HK7.out, HS.out, by have := HP0.out; omega, HAL.out⟩
            case measure => (first | (simp [intOf]; done) | (simp [intOf]; omega))
          · rw [← HM.out] at hm4
            subst hm4
            have hS4 : Fine ⟨posted S.acc p, S.posts ++ [p]⟩ := HS.out.posted HM.out.symm (by have := HP0.out; have := HPL.out; omega)
            have HK4 := hide (HK3.out.step ho4 hs4)
            have HH4 := hide (own_stays HH3.out (fun q hq => hs4.keep q (HH3.out.lt q hq).2 (fun e => by have := HK.out.obj.lt e; have := (HH3.out.lt q hq).1; omega)))
            have HS4 := hide hS4
            have HN4 := hide (show ∀ k, (Value.slice ha S.acc.length hk).ownBlock = some k → ¬ F4.own k from fun k hk' h2 => by
              have := HH3.out.lt k hk'
              rcases hs4.own k h2 with h3 | h3
              · have := HK.out.obj.lt h3; omega
              · omega)
            have HLA := hide (show (posted S.acc p).length ≤ 50 by rw [posted_len]; exact HAL.out)
            obtain ⟨S4, hs4e⟩ : ∃ S4 : LS, S4 = ⟨posted S.acc p, S.posts ++ [p]⟩ := ⟨_, rfl⟩
            have HE4 := hide hs4e
            rw [← hs4e] at HK4 HS4
            have HLA := hide (show S4.acc.length ≤ 50 by rw [hs4e]; exact HLA.out)
            have HLP := hide (show S4.posts.length = S.posts.length + 1 by rw [hs4e]; simp)
            have HLG := hide (show S4.posts[S.posts.length]? = some p by rw [hs4e]; simp)
            clear ho4 hs4 HK3 HH3 c3 hS4 hs4e e1 e2 e3
            have q := nought_c I4 F4 S4 w4 HK4.out.obj HS4.out.snd
            rw [HK4.out.b] at q
            have HQ := hide q
            clear q
            go_wp2_with fail
            refine HQ.out.mono ?_
            rintro e w5 ⟨rfl, hb5⟩
            have HK5 := hide (HK4.out.below hb5)
            have HH5 := hide (own_stays HH4.out (fun q hq => hb5.block q (HH4.out.lt q hq).2))
            clear hb5 HK4 HH4 HQ
            have q := Copy_c I4 F4 S4 w5 HK5.out.obj HS4.out
            rw [HK5.out.b] at q
            have HQ := hide q
            clear q
            go_wp2_with fail
            refine HQ.out.mono ?_
            rintro e w6 ⟨F2, rfl, ho6, hown6, hb6⟩
            have HK6 := hide (HK5.out.below hb6)
            have HH6 := hide (own_stays HH5.out (fun q hq => hb6.block q (HH5.out.lt q hq).2))
            have HC6 := hide (show KL w F2.b I4 F2 S4 w6 from ⟨ho6, rfl, fun k hk => Nat.le_trans HK5.out.low.size (hown6 k hk), HK6.out.low⟩)
            have HD6 := hide (show ∀ k, F2.own k → ¬ F4.own k from fun k h1 h2 => by have := HK5.out.obj.lt h2; have := hown6 k h1; omega)
            clear ho6 hown6 hb6 HK5 HH5 HQ
            have q := Back_yes I4 F4 S4 S.posts.length p w6 HK6.out.obj HLG.out HS4.out
            rw [HK6.out.b] at q
            have HQ := hide q
            clear q
            go_wp2_with fail
            refine HQ.out.mono ?_
            have HB0 := hide (show mayE S4.acc (negE p) = 0 ∨ mayE S4.acc (negE p) = 7 by rw [HE4.out]; exact back_may HM.out.symm)
            rintro e w7 (⟨hm7, rfl, hb7⟩ | ⟨hm7, rfl, I8, F8, ho7, hs7⟩)
            · rw [HB0.out.resolve_left hm7]
              have HK7 := hide (HK6.out.below hb7)
              clear hb7 HK6 HH6 HC6 HD6 HQ HB0 hm7
              have q := nought_c I4 F4 S4 w7 HK7.out.obj HS4.out.snd
              rw [HK7.out.b] at q
              have HQ := hide q
              clear q
              go_wp2_with fail
              refine HQ.out.mono ?_
              rintro e w8 ⟨rfl, hb8⟩
              have HK8 := hide (HK7.out.below hb8)
              clear hb8 HK7 HQ
              go_wp2_with fail
              go_roundw
              case rel => exact ⟨j + 1, _, I4, F4, S4, by omega, by go_num, rfl, HK8.out, HS4.out, by have := HP0.out; have := HLP.out; omega, HLA.out⟩
              case measure => (first | (simp [intOf]; done) | (simp [intOf]; omega))
            · have HK7 := hide (HK6.out.step ho7 hs7)
              have HC7 := hide (show KL w F2.b I8 F2 S4 w7 from ⟨HC6.out.obj.other hs7 HD6.out HK6.out.obj.imm, rfl, HC6.out.own, HK7.out.low⟩)
              have HH7 := hide (own_stays HH6.out (fun q hq => hs7.keep q (HH6.out.lt q hq).2 (HN4.out q hq)))
              have HS7 := hide (HS4.out.posted hm7 (by have := HP0.out; have := HLP.out; have := HPL.out; omega))
              have HA7 := hide (show posted S4.acc (negE p) = S.acc by rw [HE4.out]; exact posted_back _ _)
              obtain ⟨S8, hs8e⟩ : ∃ S8 : LS, S8 = ⟨posted S4.acc (negE p), S4.posts ++ [negE p]⟩ := ⟨_, rfl⟩
              rw [← hs8e] at HK7 HS7
              have HA8 := hide (show S8.acc = S.acc by rw [hs8e]; exact HA7.out)
              have HL8 := hide (show S8.posts.length = S4.posts.length + 1 by rw [hs8e]; simp)
              clear ho7 hs7 HK6 HH6 HC6 HD6 HN4 hs8e HA7 HQ HB0 hm7
              have q := nought_c I8 F8 S8 w7 HK7.out.obj HS7.out.snd
              rw [HK7.out.b] at q
              have HQ := hide q
              clear q
              go_wp2_with fail
              refine HQ.out.mono ?_
              rintro e w8 ⟨rfl, hb8⟩
              have HK8 := hide (HK7.out.below hb8)
              have HC8 := hide (HC7.out.below hb8)
              have HH8 := hide (own_stays HH7.out (fun q hq => hb8.block q (HH7.out.lt q hq).2))
              clear hb8 HK7 HC7 HH7 HQ
              have q := hads_c I8 F8 S8 w8 HK8.out.obj (by rw [HA8.out]; have := HAL.out; omega)
              rw [HK8.out.b, HA8.out] at q
              have HQ := hide q
              clear q
              go_wp2_with fail
              refine HQ.out.mono ?_
              rintro e w9 ⟨ha9, hk9, rfl, hown9, hb9⟩
              have HK9 := hide (HK8.out.below hb9)
              have HC9 := hide (HC8.out.below hb9)
              have HH9 := hide (own_stays HH8.out (fun q hq => hb9.block q (HH8.out.lt q hq).2))
              have HG9 := hide hown9
              clear hb9 HK8 HC8 HH8 HQ hown9
              go_wp2_with fail
              refine (sameHads_c S.acc _ _ _ _ _ _ w9 HH9.out HG9.out (by have := HAL.out; omega)).mono ?_
              rintro e w10 ⟨rfl, hb10⟩
              have HK10 := hide (HK9.out.below hb10)
              have HC10 := hide (HC9.out.below hb10)
              clear hb10 HK9 HC9 HH9 HG9
              have r0 : (j : Int).tmod 2 = ((j % 2 : Nat) : Int) := by rw [Int.tmod_eq_emod_of_nonneg (by omega)]; omega
              rcases (by omega : j % 2 = 0 ∨ j % 2 = 1) with hj2 | hj2
              · rw [hj2] at r0
                go_wp2_with fail
                go_roundw
                case rel => exact ⟨j + 1, F2.b, I8, F2, S4, by omega, by go_num, rfl, HC10.out, HS4.out, by have := HP0.out; have := HLP.out; omega, HLA.out⟩
                case measure => (first | (simp [intOf]; done) | (simp [intOf]; omega))
              · rw [hj2] at r0
                go_wp2_with fail
                go_roundw
                case rel => exact ⟨j + 1, F8.b, I8, F8, S8, by omega, by go_num, by rw [HK10.out.b], by rw [HK10.out.b]; exact HK10.out, HS7.out, by have := HP0.out; have := HLP.out; have := HL8.out; omega, by rw [HA8.out]; exact HAL.out⟩
                case measure => (first | (simp [intOf]; done) | (simp [intOf]; omega))
        · have hl2 : ¬ (j : Int) < (P.length : Int) := by omega
          go_wp2_with fail
          refine (known_c _).mono ?_
          rintro e w2 ⟨rfl, hb2⟩
          go_wp2
          refine bodyPost_ret (v := .bool true) (by simp [results, Try.f3, go_sem]) rfl ⟨rfl, bstep HK.out.low hb2⟩
end Go.Proofs.Ytkdocoibfclfeaa

namespace Go.Proofs.Ytkdocoibfclfeaa
open Go.ChangeShapes Go.WideShapes Go.ChangeAt Go.RowKit Go.Deep Go.Maps Go.ChangeMaps Go.WideMaps
set_option linter.unusedSimpArgs false
set_option linter.unusedVariables false

/-- the document's ledger: its block, what stands in it -/
structure RP where
  r : Nat
  nv : Value
  lv : Value
  pv : Value
def leasts (A : List Acc) : List Int := A.map Acc.least
/-- the document's ledger stands so; what its slices hold nobody writes -/
structure RObj (I : Nat → Prop) (R : RP) (S : LS) (w : World) : Prop where
  c0 : w.cell? ⟨R.r, 0, none⟩ = some R.nv
  c1 : w.cell? ⟨R.r, 1, none⟩ = some R.lv
  c2 : w.cell? ⟨R.r, 2, none⟩ = some R.pv
  cf : ∀ o, w.frozen? ⟨R.r, o, none⟩ = false
  nr : w.ownsRow 0 9 1 R.nv S.acc.length ((nms S.acc).map Value.string)
  lr : w.ownsRow 0 2 1 R.lv S.acc.length ((leasts S.acc).map (Value.int .i64))
  pr : ∃ vs : List Value, w.ownsRow 0 33 1 R.pv S.posts.length vs ∧ ∀ (i : Nat) (p : List Ent), S.posts[i]? = some p → ∃ v, vs[i]? = some v ∧ PostRow I w v p
  ni : ∀ k, R.nv.ownBlock = some k → I k
  li : ∀ k, R.lv.ownBlock = some k → I k
  pi : ∀ k, R.pv.ownBlock = some k → I k
  imm : ¬ I R.r
  ilt : ∀ k, I k → k < w.heap.size
theorem RObj.lt {I : Nat → Prop} {R : RP} {S : LS} {w : World} (h : RObj I R S w) : R.r < w.heap.size := World.block_lt_of_cell? w _ h.c0
theorem RObj.stays {I I' : Nat → Prop} {R : RP} {S : LS} {w w' : World} (h : RObj I R S w) (hs : w.heap.size ≤ w'.heap.size) (hk : ∀ k, k = R.r ∨ I k → w'.heap[k]? = w.heap[k]?) (hI : ∀ k, I k → I' k) (hN : ∀ k, I' k → ¬ I k → w.heap.size ≤ k ∧ k < w'.heap.size) : RObj I' R S w' := by
  have hr := hk R.r (.inl rfl)
  obtain ⟨vs, hp, hq⟩ := h.pr
  refine ⟨cell_stay h.c0 hr, cell_stay h.c1 hr, cell_stay h.c2 hr, fun o => fro_stay (h.cf o) hr, own_stays h.nr (fun k q => hk k (.inr (h.ni k q))), own_stays h.lr (fun k q => hk k (.inr (h.li k q))), ⟨vs, own_stays hp (fun k q => hk k (.inr (h.pi k q))), fun i p e => ?_⟩, fun k q => hI k (h.ni k q), fun k q => hI k (h.li k q), fun k q => hI k (h.pi k q), fun hi => ?_, fun k hi => ?_⟩
  · obtain ⟨v, e1, e2, e3⟩ := hq i p e
    exact ⟨v, e1, own_stays e2 (fun k q => hk k (.inr (e3 k q))), fun k q => hI k (e3 k q)⟩
  · by_cases hi0 : I R.r
    · exact h.imm hi0
    · have := (hN _ hi hi0).1
      have := h.lt
      omega
  · by_cases hi0 : I k
    · exact Nat.lt_of_lt_of_le (h.ilt k hi0) hs
    · exact (hN k hi hi0).2
theorem RObj.below {I : Nat → Prop} {R : RP} {S : LS} {w w' : World} (h : RObj I R S w) (hb : Below w.heap.size w w') : RObj I R S w' :=
  h.stays hb.size (fun k q => hb.block k (by rcases q with rfl | q; exact h.lt; exact h.ilt k q)) (fun _ q => q) (fun _ q n => absurd q n)
/-- where a name stands, as the document says it -/
def idxV (A : List ByteArray) (s : ByteArray) : Int := match idx A s with
  | some i => (i : Int)
  | none => -1
theorem idx_first {A : List ByteArray} {s : ByteArray} {k : Nat} (h : ∀ j, j < k → A[j]? ≠ some s) (hk : A[k]? = some s) : idx A s = some k := by
  induction A generalizing k with
  | nil => simp at hk
  | cons a r ih =>
    unfold idx
    rcases k with _ | k
    · simp at hk; subst hk; simp
    · have h0 := h 0 (by omega)
      simp at h0
      rw [if_neg h0, ih (k := k) (fun j hj => by have := h (j + 1) (by omega); simpa using this) (by simpa using hk)]
      rfl
theorem idx_never {A : List ByteArray} {s : ByteArray} (h : ∀ j, j < A.length → A[j]? ≠ some s) : idx A s = none := by
  rw [idx_none]
  intro q
  obtain ⟨i, hi⟩ := List.getElem?_of_mem q
  exact h i (List.getElem?_eq_some_iff.1 hi).1 hi
theorem idxV_some {A : List ByteArray} {s : ByteArray} {i : Nat} (h : idx A s = some i) : idxV A s = (i : Int) := by unfold idxV; rw [h]
theorem idxV_none {A : List ByteArray} {s : ByteArray} (h : idx A s = none) : idxV A s = -1 := by unfold idxV; rw [h]
theorem own_at {w : World} {B n : Nat} {t : TypeId} {v : Value} {xs : List Value} (h : w.ownsRow B t 1 v n xs) {k : Nat} (hk : k < n) : ∃ g cap, v = .slice (some ⟨g, 0, none⟩) n cap ∧ w.cell? ⟨g, k, none⟩ = xs[k]? := by
  obtain ⟨g, c, hv, _, _⟩ := h.form (by omega)
  subst hv
  exact ⟨g, c, rfl, h.cellAt k (by omega)⟩
theorem ba_ne {a b : ByteArray} (h : a ≠ b) : (a.toList == b.toList) = false := by
  rw [ByteArray.toList_eq, ByteArray.toList_eq, beq_eq_false_iff_ne]
  intro e
  exact h (ByteArray.ext (Array.ext' e))
theorem ba_refl (a : ByteArray) : (a.toList == a.toList) = true := by simp
set_option maxRecDepth 100000 in
set_option maxHeartbeats 2000000 in
theorem Find_r (I : Nat → Prop) (R : RP) (S : LS) (s : ByteArray) (w : World) (h : RObj I R S w) (hl : S.acc.length ≤ 70000) : Calls Try.prog 55 #[.pointer (some ⟨R.r, 0, none⟩), .string s] w fun e w' => e = .returned (.int .i64 (idxV (nms S.acc) s)) ∧ w = w' := by
  obtain ⟨na, nc, hnv⟩ := own_any h.nr
  have H := hide h
  have HNV := hide hnv
  have HL := hide hl
  have c0 : w.cell? ⟨R.r, 0, none⟩ = some (.slice na S.acc.length nc) := by rw [← hnv]; exact h.c0
  clear h hnv hl
  go_enter Try.func55, Try.ntmps55
  go_wp2_with fail
  go_loopw [5] (fun v5 wr => ∃ k : Nat, k ≤ S.acc.length ∧ v5 = .int .i64 (k : Int) ∧ w = wr ∧ ∀ j, j < k → (nms S.acc)[j]? ≠ some s) (fun v5 _ => S.acc.length - (intOf v5).toNat)
  case atStart => exact ⟨0, Nat.zero_le _, rfl, rfl, fun j hj => by omega⟩
  case round =>
    obtain ⟨k, hk, rfl, rfl, hno⟩ := hrel
    have HNO := hide hno
    clear hno
    have hk0 : (0 : Int) ≤ (k : Int) := by omega
    have hk9 : (k : Int) < 100000 := by have := HL.out; omega
    by_cases hlt : k < S.acc.length
    · have hl2 : (k : Int) < (S.acc.length : Int) := by omega
      obtain ⟨g, cap, hv, hc⟩ := own_at (show w.ownsRow 0 9 1 (.slice na S.acc.length nc) S.acc.length ((nms S.acc).map Value.string) by rw [← HNV.out]; exact H.out.nr) hlt
      obtain ⟨rfl, rfl⟩ : na = some ⟨g, 0, none⟩ ∧ nc = cap := by (injection hv with e1 e2 e3; exact ⟨e1, e3⟩)
      obtain ⟨a, ha⟩ : ∃ a, (nms S.acc)[k]? = some a := ⟨_, List.getElem?_eq_getElem (by simp [nms]; exact hlt)⟩
      rw [List.getElem?_map, ha] at hc
      have hc : w.cell? ⟨g, k, none⟩ = some (.string a) := hc
      have HA := hide ha
      clear hv ha
      by_cases e : a = s
      · subst e
        have e2 := ba_refl a
        go_wp2_with fail
        refine bodyPost_ret (v := .int .i64 (k : Int)) (by simp [results, Try.f55, go_sem]) rfl ⟨?_, rfl⟩
        rw [idxV_some (idx_first HNO.out HA.out)]
      · have e2 := ba_ne e
        have E := hide e
        clear e
        go_wp2_with fail
        go_roundw
        case rel =>
          refine ⟨k + 1, by omega, by go_num, trivial, fun j hj => ?_⟩
          rcases Nat.lt_or_ge j k with q | q
          · exact HNO.out j q
          · obtain rfl : j = k := by omega
            rw [HA.out]; intro q2; exact E.out (Option.some.inj q2)
        case measure => (first | (simp [intOf]; done) | (simp [intOf]; omega))
    · have hl2 : ¬ (k : Int) < (S.acc.length : Int) := by omega
      obtain rfl : k = S.acc.length := by omega
      go_wp2_with fail
      refine bodyPost_ret (v := .int .i64 (-1)) (by simp [results, Try.f55, go_sem]) rfl ⟨?_, rfl⟩
      rw [idxV_none (idx_never (fun j hj => HNO.out j (by simpa [nms] using hj)))]
end Go.Proofs.Ytkdocoibfclfeaa

namespace Go.Proofs.Ytkdocoibfclfeaa
open Go.ChangeShapes Go.WideShapes Go.ChangeAt Go.RowKit Go.Deep Go.Maps Go.ChangeMaps Go.WideMaps
set_option linter.unusedSimpArgs false
set_option linter.unusedVariables false

def small (p : List Ent) : Prop := p.length ≤ 128 ∧ ∀ x ∈ p, x.2 ≤ maxC ∧ -maxC ≤ x.2
theorem Formed.small {p : List Ent} (h : Formed p) : small p := ⟨h.2.1, fun x hx => ⟨(h.2.2.1 x hx).2.2.1, (h.2.2.1 x hx).2.2.2⟩⟩
open Classical in
noncomputable def thereB (p : List Ent) (s : ByteArray) : Bool := decide (s ∈ names p)
theorem thereB_nil (s : ByteArray) : thereB [] s = false := by simp [thereB, names]
theorem thereB_snoc (p : List Ent) (x : Ent) (s : ByteArray) : thereB (p ++ [x]) s = (if x.1 = s then true else thereB p s) := by
  unfold thereB names
  split
  · rename_i e; subst e; simp
  · rename_i e
    rw [decide_eq_decide, List.map_append, List.mem_append]
    exact ⟨fun q => q.elim id (fun q2 => absurd (by simpa using q2 : s = x.1).symm e), .inl⟩
theorem sum_take_bd {p : List Ent} (h : small p) (s : ByteArray) (k : Nat) : sumOf (p.take k) s ≤ 128 * maxC ∧ -(128 * maxC) ≤ sumOf (p.take k) s := by
  have q := sumOf_bd (p := p.take k) (fun x hx => h.2 x (List.mem_of_mem_take hx)) s
  have : (p.take k).length ≤ 128 := by have := h.1; rw [List.length_take]; omega
  unfold maxC at *
  omega
set_option maxRecDepth 100000 in
set_option maxHeartbeats 2000000 in
theorem sum_r (so : Option Addr) (cap : Nat) (p : List Ent) (s : ByteArray) (w : World) (h : Ents so cap p w) (hs : small p) : Calls Try.prog 56 #[.slice so p.length cap, .string s] w fun e w' => e = .returned (.tuple #[.int .i64 (sumOf p s), .bool (thereB p s)]) ∧ w = w' := by
  have H := hide h
  have HS := hide hs
  clear h hs
  go_enter Try.func56, Try.ntmps56
  go_wp2_with fail
  go_loopw [6, 7, 8] (fun v6 v7 v8 wr => ∃ k : Nat, k ≤ p.length ∧ v6 = .int .i64 (sumOf (p.take k) s) ∧ v7 = .bool (thereB (p.take k) s) ∧ v8 = .int .i64 (k : Int) ∧ w = wr) (fun _ _ v8 _ => p.length - (intOf v8).toNat)
  case atStart => exact ⟨0, Nat.zero_le _, rfl, by rw [List.take_zero, thereB_nil], rfl, rfl⟩
  case round =>
    obtain ⟨k, hk, rfl, rfl, rfl, rfl⟩ := hrel
    have hk0 : (0 : Int) ≤ (k : Int) := by omega
    have hk9 : (k : Int) < 100000 := by have := HS.out.1; omega
    by_cases hlt : k < p.length
    · have hl2 : (k : Int) < (p.length : Int) := by omega
      obtain ⟨g, off, rfl, hc⟩ := H.out.spot (by omega)
      obtain ⟨c1, c2⟩ := hc k hlt
      clear hc
      have b1 := sum_take_bd HS.out s k
      have b2 := sum_take_bd HS.out s (k + 1)
      have HT1 := hide (sumOf_snoc (p.take k) (ent p k) s)
      have HT2 := hide (thereB_snoc (p.take k) (ent p k) s)
      rw [← take_snoc p k hlt] at HT1 HT2
      obtain ⟨a, ha⟩ : ∃ a, a = (ent p k).1 := ⟨_, rfl⟩
      obtain ⟨c, hc⟩ : ∃ c, c = (ent p k).2 := ⟨_, rfl⟩
      obtain ⟨t, ht⟩ : ∃ t, t = sumOf (p.take k) s := ⟨_, rfl⟩
      obtain ⟨y, hy⟩ : ∃ y, y = thereB (p.take k) s := ⟨_, rfl⟩
      rw [HT1.out] at b2
      rw [← ha, ← hc, ← ht] at HT1 b2
      rw [← ha, ← hy] at HT2
      rw [← ha] at c1
      rw [← hc] at c2
      rw [← ht] at b1 ⊢
      rw [← hy]
      clear ha hc ht hy
      by_cases e : a = s
      · subst e
        have e2 := ba_refl a
        rw [if_pos rfl] at b2
        have a0 : IntKind.i64.wrap (t + c) = t + c := IntWalk.i64_in _ (by unfold maxC at *; constructor <;> omega)
        have a1 : wrap64 (t + c) = t + c := by rw [← IntWalk.i64_left]; exact a0
        clear b1 b2
        go_wp2_with fail
        go_roundw
        case rel => exact ⟨k + 1, by omega, by rw [HT1.out, if_pos rfl], by rw [HT2.out, if_pos rfl], by go_num, trivial⟩
        case measure => (first | (simp [intOf]; done) | (simp [intOf]; omega))
      · have e2 := ba_ne e
        have E := hide e
        clear e b1 b2
        go_wp2_with fail
        go_roundw
        case rel => exact ⟨k + 1, by omega, by rw [HT1.out, if_neg E.out, Int.add_zero], by rw [HT2.out, if_neg E.out], by go_num, trivial⟩
        case measure => (first | (simp [intOf]; done) | (simp [intOf]; omega))
    · have hl2 : ¬ (k : Int) < (p.length : Int) := by omega
      obtain rfl : k = p.length := by omega
      rw [List.take_length]
      go_wp2_with fail
      refine bodyPost_ret (v := .tuple #[.int .i64 (sumOf p s), .bool (thereB p s)]) (by simp [results, Try.f56, go_sem]) rfl ⟨rfl, rfl⟩
/-- what a name has out of all postings -/
def ofSum : List (List Ent) → ByteArray → Int
  | [], _ => 0
  | p :: r, s => sumOf p s + ofSum r s
theorem ofSum_snoc (P : List (List Ent)) (p : List Ent) (s : ByteArray) : ofSum (P ++ [p]) s = ofSum P s + sumOf p s := by
  induction P with
  | nil => simp [ofSum]
  | cons q r ih => simp only [List.cons_append, ofSum, ih]; omega
theorem ofSum_bd {P : List (List Ent)} (h : ∀ p ∈ P, small p) (s : ByteArray) : ofSum P s ≤ P.length * (128 * maxC) ∧ -(P.length * (128 * maxC)) ≤ ofSum P s := by
  induction P with
  | nil => simp [ofSum]
  | cons p r ih =>
    have h1 := ih (fun q hq => h q (by simp [hq]))
    have h2 := sum_take_bd (h p (by simp)) s p.length
    rw [List.take_length] at h2
    simp only [ofSum, List.length_cons]
    unfold maxC at *
    omega
theorem takeP_snoc {α : Type} [Inhabited α] (P : List α) (k : Nat) (hk : k < P.length) {p : α} (hp : P[k]? = some p) : P.take (k + 1) = P.take k ++ [p] := by
  rw [List.take_add_one, hp]; rfl
set_option maxRecDepth 100000 in
set_option maxHeartbeats 2000000 in
theorem Of_r (I : Nat → Prop) (R : RP) (S : LS) (s : ByteArray) (w : World) (h : RObj I R S w) (hf : ∀ p ∈ S.posts, small p) (hl : S.posts.length ≤ 300) : Calls Try.prog 57 #[.pointer (some ⟨R.r, 0, none⟩), .string s] w fun e w' => e = .returned (.int .i64 (ofSum S.posts s)) ∧ w = w' := by
  obtain ⟨vs, hrow, hposts⟩ := h.pr
  obtain ⟨pa, pc, hpv⟩ := own_any hrow
  have HROW := hide (show w.ownsRow 0 33 1 (.slice pa S.posts.length pc) S.posts.length vs by rw [← hpv]; exact hrow)
  have HPO := hide hposts
  have HF := hide hf
  have HL := hide hl
  have c0 : w.cell? ⟨R.r, 2, none⟩ = some (.slice pa S.posts.length pc) := by rw [← hpv]; exact h.c2
  clear h hf hl hrow hposts hpv
  go_enter Try.func57, Try.ntmps57
  go_wp2_with fail
  go_loopw [5, 6] (fun v5 v6 wr => ∃ k : Nat, k ≤ S.posts.length ∧ v5 = .int .i64 (ofSum (S.posts.take k) s) ∧ v6 = .int .i64 (k : Int) ∧ w = wr) (fun _ v6 _ => S.posts.length - (intOf v6).toNat)
  case atStart => exact ⟨0, Nat.zero_le _, rfl, rfl, rfl⟩
  case round =>
    obtain ⟨k, hk, rfl, rfl, rfl⟩ := hrel
    have hk0 : (0 : Int) ≤ (k : Int) := by omega
    have hk9 : (k : Int) < 100000 := by have := HL.out; omega
    by_cases hlt : k < S.posts.length
    · have hl2 : (k : Int) < (S.posts.length : Int) := by omega
      obtain ⟨g, cap, hv, hc⟩ := own_at HROW.out hlt
      obtain ⟨rfl, rfl⟩ : pa = some ⟨g, 0, none⟩ ∧ pc = cap := by (injection hv with e1 e2 e3; exact ⟨e1, e3⟩)
      obtain ⟨p, hp⟩ : ∃ p, S.posts[k]? = some p := ⟨_, List.getElem?_eq_getElem hlt⟩
      obtain ⟨v, hvs, hown, -⟩ := HPO.out k p hp
      rw [hvs] at hc
      obtain ⟨so, cp, rfl, hE⟩ := Ents.of_own hown
      have hsm := HF.out p (List.mem_of_getElem? hp)
      have HE := hide hE
      have HSM := hide hsm
      have HT := hide (ofSum_snoc (S.posts.take k) p s)
      rw [← takeP_snoc S.posts k hlt hp] at HT
      have b1 := ofSum_bd (P := S.posts.take k) (fun q hq => HF.out q (List.mem_of_mem_take hq)) s
      have b2 := sum_take_bd hsm s p.length
      rw [List.take_length] at b2
      have b3 : (S.posts.take k).length ≤ 300 := by have := HL.out; rw [List.length_take]; omega
      obtain ⟨t, ht⟩ : ∃ t, t = ofSum (S.posts.take k) s := ⟨_, rfl⟩
      obtain ⟨c, hcc⟩ : ∃ c, c = sumOf p s := ⟨_, rfl⟩
      have HCC := hide hcc
      rw [← ht] at HT b1 ⊢
      rw [← hcc] at HT b2
      have a0 : IntKind.i64.wrap (t + c) = t + c := IntWalk.i64_in _ (by unfold maxC at *; constructor <;> omega)
      have a1 : wrap64 (t + c) = t + c := by rw [← IntWalk.i64_left]; exact a0
      clear hv hvs hown hE hsm b1 b2 b3 ht hcc hp
      go_wp2_with fail
      refine (sum_r so cp p s w HE.out HSM.out).mono ?_
      rintro e w1 ⟨rfl, rfl⟩
      rw [← HCC.out]
      go_wp2_with fail
      go_roundw
      case rel => exact ⟨k + 1, by omega, by rw [HT.out], by go_num, trivial⟩
      case measure => (first | (simp [intOf]; done) | (simp [intOf]; omega))
    · have hl2 : ¬ (k : Int) < (S.posts.length : Int) := by omega
      obtain rfl : k = S.posts.length := by omega
      rw [List.take_length]
      go_wp2_with fail
      refine bodyPost_ret (v := .int .i64 (ofSum S.posts s)) (by simp [results, Try.f57, go_sem]) rfl ⟨rfl, rfl⟩
end Go.Proofs.Ytkdocoibfclfeaa

namespace Go.Proofs.Ytkdocoibfclfeaa
open Go.ChangeShapes Go.WideShapes Go.ChangeAt Go.RowKit Go.Deep Go.Maps Go.ChangeMaps Go.WideMaps
set_option linter.unusedSimpArgs false
set_option linter.unusedVariables false

set_option maxHeartbeats 1000000 in
theorem Check54_ok (s : ByteArray) (w : World) (h1 : 1 ≤ s.size) (h2 : s.size ≤ 64) : Calls Try.prog 54 #[.string s] w fun e w' => e = .returned (.int .i64 0) ∧ w = w' := by
  have d1 : decide ((s.size : Int) < 1) = false := by (rw [decide_eq_false_iff_not]; omega)
  have d2 : decide ((64 : Int) < (s.size : Int)) = false := by (rw [decide_eq_false_iff_not]; omega)
  clear h1 h2
  go_enter Try.func54, Try.ntmps54
  go_wp2
  refine bodyPost_ret (v := .int .i64 0) (by simp [results, Try.f54, go_sem]) rfl ⟨rfl, rfl⟩
set_option maxHeartbeats 1000000 in
theorem Check54_bad (s : ByteArray) (w : World) (h : ¬ goodName s) : Calls Try.prog 54 #[.string s] w fun e w' => e = .returned (.int .i64 2) ∧ w = w' := by
  by_cases h1 : s.size < 1
  · have d1 : decide ((s.size : Int) < 1) = true := by (rw [decide_eq_true_iff]; omega)
    clear h h1
    go_enter Try.func54, Try.ntmps54
    go_wp2
    refine bodyPost_ret (v := .int .i64 2) (by simp [results, Try.f54, go_sem]) rfl ⟨rfl, rfl⟩
  · have h2 : 64 < s.size := by unfold goodName at h; omega
    have d1 : decide ((s.size : Int) < 1) = false := by (rw [decide_eq_false_iff_not]; omega)
    have d2 : decide ((64 : Int) < (s.size : Int)) = true := by (rw [decide_eq_true_iff]; omega)
    clear h h1 h2
    go_enter Try.func54, Try.ntmps54
    go_wp2
    refine bodyPost_ret (v := .int .i64 2) (by simp [results, Try.f54, go_sem]) rfl ⟨rfl, rfl⟩
/-- what an account has is what it has out of all postings -/
structure Agree (S : LS) : Prop where
  has : ∀ a ∈ S.acc, a.has = ofSum S.posts a.name
  few : S.posts.length ≤ 300
theorem may_7 {A : List Acc} {p : List Ent} (h1 : Formed p) (h2 : allThere A p) (h3 : isLow A p) : mayE A p = 7 := by
  unfold mayE
  rw [if_neg (fun q => q h1), if_neg (fun q => q h2), if_pos h3]
theorem may_00 {A : List Acc} {p : List Ent} (h1 : Formed p) (h2 : allThere A p) (h3 : ¬ isLow A p) : mayE A p = 0 := by
  unfold mayE
  rw [if_neg (fun q => q h1), if_neg (fun q => q h2), if_neg h3]
theorem Fine.smalls {S : LS} (h : Fine S) : ∀ p ∈ S.posts, small p := fun p hp => (h.frm p hp).small
theorem idxV_bd (A : List ByteArray) (s : ByteArray) : -1 ≤ idxV A s ∧ idxV A s < A.length := by
  unfold idxV
  split
  · rename_i i h
    have := (idx_lt h).1
    omega
  · omega

set_option maxRecDepth 100000 in
set_option maxHeartbeats 4000000 in
theorem May_loop (I : Nat → Prop) (R : RP) (S : LS) (so : Option Addr) (cap : Nat) (p : List Ent) (w : World) (h : RObj I R S w) (hE : Ents so cap p w) (hS : Fine S) (hA : Agree S) (h0 : 0 < p.length) (hl : p.length ≤ 128) : Calls Try.prog 34 #[.pointer (some ⟨R.r, 0, none⟩), .slice so p.length cap] w fun e w' => e = .returned (.int .i64 (mayE S.acc p)) ∧ Below w.heap.size w w' := by
  have HE := hide hE
  obtain ⟨g, off, rfl, hc⟩ := hE.spot h0
  have H := hide h
  have HC := hide hc
  have HL := hide hl
  have HS := hide hS
  have HA := hide hA
  have H0 := hide h0
  have b1 : decide ((p.length : Int) < 1) = false := by simp; omega
  have b2 : decide ((128 : Int) < (p.length : Int)) = false := by simp; omega
  clear h hc hE hS hA h0 hl
  go_enter Try.func34, Try.ntmps34
  go_wp2_with fail
  go_loopw [5, 6] (fun v5 v6 wr => ∃ k : Nat, k ≤ p.length ∧ v6 = .int .i64 (k : Int) ∧ v5 = .int .i64 (total (p.take k)) ∧ w = wr ∧ ∀ i, i < k → goodEnt (ent p i)) (fun _ v6 _ => p.length - (intOf v6).toNat)
  case atStart => exact ⟨0, Nat.zero_le _, rfl, rfl, rfl, fun i hi => by omega⟩
  case round =>
    obtain ⟨k, hkl, rfl, rfl, rfl, hgd⟩ := hrel
    have HG := hide hgd
    clear hgd
    have hk0 : (0 : Int) ≤ (k : Int) := by omega
    have hk9 : (k : Int) < 100000 := by have := HL.out; omega
    obtain ⟨T, hT⟩ : ∃ T, T = total (p.take k) := ⟨_, rfl⟩
    rw [← hT]
    have HT := hide hT
    clear hT
    by_cases hlt : k < p.length
    · have hl2 : (k : Int) < (p.length : Int) := by omega
      obtain ⟨c1, c2⟩ := HC.out k hlt
      obtain ⟨s, hs⟩ : ∃ s, s = (ent p k).1 := ⟨_, rfl⟩
      obtain ⟨c, hcc⟩ : ∃ c, c = (ent p k).2 := ⟨_, rfl⟩
      rw [← hs] at c1
      rw [← hcc] at c2
      have HSC := hide (show ent p k = (s, c) by rw [hs, hcc])
      clear hs hcc
      by_cases hg : goodEnt (s, c)
      · have HGE := hide hg
        have a1 : (c == 0) = false := by (rw [beq_eq_false_iff_ne]; exact hg.2.1)
        have a2 : decide (70368744177664 < c) = false := by (rw [decide_eq_false_iff_not]; have := hg.2.2.1; unfold maxC at this; show ¬ (70368744177664 : Int) < c; have q : c ≤ 70368744177664 := this; omega)
        have a3 : decide (c < -70368744177664) = false := by (rw [decide_eq_false_iff_not]; have q : -70368744177664 ≤ c := hg.2.2.2; omega)
        have a4 : decide (c = 0) = false := by (rw [decide_eq_false_iff_not]; exact hg.2.1)
        have TS := hide (tot_step hlt HG.out HL.out)
        have hadd : IntKind.i64.wrap (T + c) = T + c := IntWalk.i64_in _ (by have := TS.out; have q : c ≤ 70368744177664 := hg.2.2.1; have q2 : -70368744177664 ≤ c := hg.2.2.2; rw [← HT.out] at this; unfold maxC at this; constructor <;> omega)
        have hadd2 : wrap64 (T + c) = T + c := by rw [← IntWalk.i64_left]; exact hadd
        clear hg
        go_wp2_with (go_at_call 54; refine (Check54_ok s _ HGE.out.1.1 HGE.out.1.2).mono ?_; rintro e w' ⟨rfl, rfl⟩)
        go_roundw
        case rel =>
          refine ⟨k + 1, by omega, by go_num, ?_, trivial, fun i hi => ?_⟩
          · rw [TS.out.2.2, HSC.out, ← HT.out]
          · rcases (by omega : i < k ∨ i = k) with q | q
            · exact HG.out i q
            · rw [q, HSC.out]; exact HGE.out
        case measure => (first | (simp [intOf]; done) | (simp [intOf]; omega))
      · have HGE := hide hg
        have HF := hide (show mayE S.acc p = 2 from may_2 fun q => HGE.out (by rw [← HSC.out]; exact q.2.2.1 _ (ent_mem hlt)))
        clear hg
        by_cases hn : goodName s
        · have HN := hide hn
          clear hn
          by_cases h1 : c = 0
          · have a1 : (c == 0) = true := by (rw [h1]; rfl)
            have a4 : decide (c = 0) = true := by (rw [decide_eq_true_iff]; exact h1)
            clear h1
            go_wp2_with (go_at_call 54; refine (Check54_ok s _ HN.out.1 HN.out.2).mono ?_; rintro e w' ⟨rfl, rfl⟩)
            refine bodyPost_ret (v := .int .i64 2) (by simp [results, Try.f34, go_sem]) rfl ⟨by rw [HF.out], Below.refl _ _⟩
          · have a1 : (c == 0) = false := by (rw [beq_eq_false_iff_ne]; exact h1)
            have a4 : decide (c = 0) = false := by (rw [decide_eq_false_iff_not]; exact h1)
            have H1 := hide h1
            clear h1
            by_cases h2 : 70368744177664 < c
            · have a2 : decide (70368744177664 < c) = true := by (rw [decide_eq_true_iff]; exact h2)
              clear h2
              go_wp2_with (go_at_call 54; refine (Check54_ok s _ HN.out.1 HN.out.2).mono ?_; rintro e w' ⟨rfl, rfl⟩)
              refine bodyPost_ret (v := .int .i64 2) (by simp [results, Try.f34, go_sem]) rfl ⟨by rw [HF.out], Below.refl _ _⟩
            · have a2 : decide (70368744177664 < c) = false := by (rw [decide_eq_false_iff_not]; exact h2)
              have a3 : decide (c < -70368744177664) = true := by
                rw [decide_eq_true_iff]
                refine Classical.byContradiction fun q => HGE.out ⟨HN.out, H1.out, ?_, ?_⟩
                · show c ≤ (70368744177664 : Int); omega
                · show (-70368744177664 : Int) ≤ c; omega
              clear h2
              go_wp2_with (go_at_call 54; refine (Check54_ok s _ HN.out.1 HN.out.2).mono ?_; rintro e w' ⟨rfl, rfl⟩)
              refine bodyPost_ret (v := .int .i64 2) (by simp [results, Try.f34, go_sem]) rfl ⟨by rw [HF.out], Below.refl _ _⟩
        · have HN := hide hn
          clear hn
          go_wp2_with (go_at_call 54; refine (Check54_bad s _ HN.out).mono ?_; rintro e w' ⟨rfl, rfl⟩)
          refine bodyPost_ret (v := .int .i64 2) (by simp [results, Try.f34, go_sem]) rfl ⟨by rw [HF.out], Below.refl _ _⟩
    · have hl2 : ¬ (k : Int) < (p.length : Int) := by omega
      have hke : k = p.length := by omega
      have HTT := hide (show T = total p by rw [HT.out, hke, List.take_length])
      have HGG := hide (show ∀ x ∈ p, goodEnt x from all_good (fun i hi => HG.out i (by omega)))
      clear hke
      by_cases h1 : T = 0
      · have a1 : (T == 0) = true := by (rw [h1]; rfl)
        have a4 : decide (T = 0) = true := by (rw [decide_eq_true_iff]; exact h1)
        have a5 : (T != 0) = false := by (rw [h1]; rfl)
        have HFm := hide (show Formed p from ⟨by have := H0.out; omega, HL.out, HGG.out, by rw [← HTT.out]; exact h1⟩)
        clear h1 hkl hk0 hk9 HT HG b1 b2
        go_wp2_with fail
        go_loopw [7] (fun v7 wr => ∃ k : Nat, k ≤ p.length ∧ v7 = .int .i64 (k : Int) ∧ w = wr ∧ ∀ i, i < k → ∃ n, idx (nms S.acc) (ent p i).1 = some n) (fun v7 _ => p.length - (intOf v7).toNat)
        case atStart => exact ⟨0, Nat.zero_le _, rfl, rfl, fun i hi => by omega⟩
        case round =>
          clear hl2 a1 a4 a5
          obtain ⟨k, hkl, rfl, rfl, hth⟩ := hrel
          have HTH := hide hth
          clear hth
          have hk0 : (0 : Int) ≤ (k : Int) := by omega
          have hk9 : (k : Int) < 100000 := by have := HL.out; omega
          by_cases hlt : k < p.length
          · have hl2 : (k : Int) < (p.length : Int) := by omega
            obtain ⟨c1, c2⟩ := HC.out k hlt
            clear c2
            obtain ⟨s, hs⟩ : ∃ s, s = (ent p k).1 := ⟨_, rfl⟩
            rw [← hs] at c1
            have HSS := hide hs
            clear hs
            go_wp2_with fail
            refine (Find_r I R S s w H.out (by have := HS.out.snd.few; omega)).mono ?_
            rintro e w1 ⟨rfl, rfl⟩
            cases hi : idx (nms S.acc) s with
            | none =>
              rw [idxV_none hi]
              have HF := hide (show mayE S.acc p = 4 from may_4 HFm.out hlt (by rw [← HSS.out]; exact hi))
              clear hi
              go_wp2_with fail
              refine bodyPost_ret (v := .int .i64 4) (by simp [results, Try.f34, go_sem]) rfl ⟨by rw [HF.out], Below.refl _ _⟩
            | some n =>
              rw [idxV_some hi]
              have HI := hide hi
              have n0 : decide ((n : Int) < 0) = false := by (rw [decide_eq_false_iff_not]; omega)
              clear hi
              go_wp2_with fail
              go_roundw
              case rel =>
                refine ⟨k + 1, by omega, by go_num, trivial, fun i hi => ?_⟩
                rcases (by omega : i < k ∨ i = k) with q | q
                · exact HTH.out i q
                · rw [q, ← HSS.out]; exact ⟨n, HI.out⟩
              case measure => (first | (simp [intOf]; done) | (simp [intOf]; omega))
          · have hl2 : ¬ (k : Int) < (p.length : Int) := by omega
            have HAT := hide (show allThere S.acc p from all_there (fun i hi => HTH.out i (by omega)))
            clear HTH hkl hk0 hk9
            have hfz : ∀ p ∈ S.posts, small p := HS.out.smalls
            have HFZ := hide hfz
            clear hfz
            go_wp2_with fail
            go_loopw [8] (fun v8 wr => ∃ k : Nat, k ≤ p.length ∧ v8 = .int .i64 (k : Int) ∧ Below w.heap.size w wr ∧ ∀ i, i < k → ∀ n a, idx (nms S.acc) (ent p i).1 = some n → S.acc[n]? = some a → a.least ≤ a.has + sumOf p a.name) (fun v8 _ => p.length - (intOf v8).toNat)
            case atStart => exact ⟨0, Nat.zero_le _, rfl, Below.refl _ _, fun i hi => by omega⟩
            case round =>
              clear hl2
              obtain ⟨k, hkl, rfl, hbw, hth⟩ := hrel
              have HR := hide (H.out.below hbw)
              have HER := hide (HE.out.below hbw)
              have HBW := hide hbw
              clear hbw
              have HTH := hide hth
              clear hth
              have hk0 : (0 : Int) ≤ (k : Int) := by omega
              have hk9 : (k : Int) < 100000 := by have := HL.out; omega
              by_cases hlt : k < p.length
              · have hl2 : (k : Int) < (p.length : Int) := by omega
                obtain ⟨c1, c2⟩ := HC.out k hlt
                clear c2
                have c1 := cell_stay c1 (HBW.out.block _ (World.block_lt_of_cell? w _ c1))
                obtain ⟨s, hs⟩ : ∃ s, s = (ent p k).1 := ⟨_, rfl⟩
                rw [← hs] at c1
                have HSS := hide hs
                obtain ⟨n, hn⟩ := HAT.out s (List.mem_map.2 ⟨_, ent_mem hlt, hs.symm⟩)
                have HN := hide hn
                obtain ⟨hnl, hns⟩ := idx_lt hn
                have hnA : n < S.acc.length := by simpa [nms] using hnl
                obtain ⟨a, ha⟩ : ∃ a, S.acc[n]? = some a := ⟨_, List.getElem?_eq_getElem hnA⟩
                have hnm : a.name = s := by
                  have : (nms S.acc)[n]? = some a.name := by simp [nms, ha]
                  rw [hns] at this; exact (Option.some.inj this).symm
                have hhas : a.has = ofSum S.posts s := by rw [← hnm]; exact HA.out.has a (List.mem_of_getElem? ha)
                obtain ⟨gl, capl, hlv, hcl0⟩ := own_at HR.out.lr hnA
                have hcl : wr.cell? ⟨gl, n, none⟩ = some (.int .i64 a.least) := by rw [hcl0]; simp [leasts, ha]
                have cl : wr.cell? ⟨R.r, 1, none⟩ = some (.slice (some ⟨gl, 0, none⟩) S.acc.length capl) := by rw [← hlv]; exact HR.out.c1
                have bo := ofSum_bd HFZ.out s
                have bs := sum_take_bd HFm.out.small s p.length
                rw [List.take_length] at bs
                obtain ⟨o, ho⟩ : ∃ o, o = ofSum S.posts s := ⟨_, rfl⟩
                obtain ⟨c, hcc⟩ : ∃ c, c = sumOf p s := ⟨_, rfl⟩
                rw [← ho] at hhas bo
                rw [← hcc] at bs
                have hPl := HA.out.few
                have a0 : IntKind.i64.wrap (o + c) = o + c := IntWalk.i64_in _ (by unfold maxC at *; constructor <;> omega)
                have a1 : wrap64 (o + c) = o + c := by rw [← IntWalk.i64_left]; exact a0
                have HOF := hide (show ∀ q, Calls Try.prog 57 #[.pointer (some ⟨R.r, 0, none⟩), .string s] (wr.drewN q) fun e w' => e = .returned (.int .i64 o) ∧ w' = wr.drewN q from fun q => by
                  rw [ho]
                  exact (Of_r I R S s _ (HR.out.below (bdrewN (Below.refl _ _) q)) HFZ.out HA.out.few).mono (fun e w' h => ⟨h.1, h.2.symm⟩))
                have HFI := hide (show ∀ q, Calls Try.prog 55 #[.pointer (some ⟨R.r, 0, none⟩), .string s] (wr.drewN q) fun e w' => e = .returned (.int .i64 (n : Int)) ∧ w' = wr.drewN q from fun q => by
                  rw [← idxV_some hn]
                  exact (Find_r I R S s _ (HR.out.below (bdrewN (Below.refl _ _) q)) (by have := HS.out.snd.few; omega)).mono (fun e w' h => ⟨h.1, h.2.symm⟩))
                have HSUM := hide (show Calls Try.prog 56 #[.slice (some ⟨g, off, none⟩) p.length cap, .string s] wr fun e w' => e = .returned (.tuple #[.int .i64 c, .bool (thereB p s)]) ∧ wr = w' from by
                  rw [hcc]; exact sum_r _ cap p s wr HER.out HFm.out.small)
                have HX := hide (show a.has = o ∧ a.name = s ∧ c = sumOf p s from ⟨hhas, hnm, hcc⟩)
                have HAA := hide ha
                have n0 : (0 : Int) ≤ (n : Int) := by omega
                have n1 : (n : Int) < (S.acc.length : Int) := by omega
                obtain ⟨y, hy⟩ : ∃ y, y = a.least := ⟨_, rfl⟩
                rw [← hy] at hcl
                have HY := hide hy
                clear hcl0 hs hn hnl hns ha hnm hhas hlv bo bs ho hcc hPl hy
                by_cases hlow : o + c < y
                · have d1 : decide (o + c < y) = true := by (rw [decide_eq_true_iff]; exact hlow)
                  have HF := hide (show mayE S.acc p = 7 from may_7 HFm.out HAT.out ⟨a, List.mem_of_getElem? HAA.out, by rw [HX.out.2.1, HSS.out]; exact List.mem_map.2 ⟨_, ent_mem hlt, rfl⟩, by rw [HX.out.1, HX.out.2.1, ← HX.out.2.2, ← HY.out]; exact hlow⟩)
                  clear hlow
                  go_wp2_with fail
                  refine HSUM.out.mono ?_
                  rintro e w1 ⟨rfl, rfl⟩
                  go_wp2_with fail
                  go_quiet (first | (go_at_call 57; exact Calls.quiet_of_same (HOF.out _)) | (go_at_call 55; exact Calls.quiet_of_same (HFI.out _)))
                  go_wp2_with fail
                  refine bodyPost_ret (v := .int .i64 7) (by simp [results, Try.f34, go_sem]) rfl ⟨by rw [HF.out], bdrewN HBW.out _⟩
                · have d1 : decide (o + c < y) = false := by (rw [decide_eq_false_iff_not]; exact hlow)
                  have HLOW := hide hlow
                  clear hlow
                  go_wp2_with fail
                  refine HSUM.out.mono ?_
                  rintro e w1 ⟨rfl, rfl⟩
                  go_wp2_with fail
                  go_quiet (first | (go_at_call 57; exact Calls.quiet_of_same (HOF.out _)) | (go_at_call 55; exact Calls.quiet_of_same (HFI.out _)))
                  go_wp2_with fail
                  go_roundw
                  case rel =>
                    refine ⟨k + 1, by omega, by go_num, bdrewN HBW.out _, fun i hi n2 a2 hn2 ha2 => ?_⟩
                    rcases (by omega : i < k ∨ i = k) with q | q
                    · exact HTH.out i q n2 a2 hn2 ha2
                    · rw [q, ← HSS.out] at hn2
                      rw [HN.out] at hn2
                      cases hn2
                      rw [HAA.out] at ha2
                      cases ha2
                      rw [HX.out.1, HX.out.2.1, ← HX.out.2.2, ← HY.out]
                      have := HLOW.out; omega
                  case measure => (first | (simp [intOf]; done) | (simp [intOf]; omega))
              · have hl2 : ¬ (k : Int) < (p.length : Int) := by omega
                have HF := hide (show mayE S.acc p = 0 from may_00 HFm.out HAT.out (fun q => by
                  obtain ⟨a, ha, hn, hlow⟩ := q
                  obtain ⟨x, hx, hxe⟩ := List.mem_map.1 hn
                  obtain ⟨i, hi, rfl⟩ := ent_of_mem hx
                  obtain ⟨j, hj⟩ := List.getElem?_of_mem ha
                  have hj2 : (nms S.acc)[j]? = some a.name := by simp [nms, hj]
                  have := HTH.out i (by omega) j a (by rw [hxe]; exact idx_at HS.out.snd.nd hj2) hj; omega))
                go_wp2_with fail
                refine bodyPost_ret (v := .int .i64 0) (by simp [results, Try.f34, go_sem]) rfl ⟨by rw [HF.out], HBW.out⟩
      · have a1 : (T == 0) = false := by (rw [beq_eq_false_iff_ne]; exact h1)
        have a4 : decide (T = 0) = false := by (rw [decide_eq_false_iff_not]; exact h1)
        have a5 : (T != 0) = true := by (rw [bne_iff_ne]; exact h1)
        have HF := hide (show mayE S.acc p = 2 from may_2 (fun q => h1 (by rw [HTT.out]; exact q.2.2.2)))
        clear h1
        go_wp2_with fail
        refine bodyPost_ret (v := .int .i64 2) (by simp [results, Try.f34, go_sem]) rfl ⟨by rw [HF.out], Below.refl _ _⟩
end Go.Proofs.Ytkdocoibfclfeaa

namespace Go.Proofs.Ytkdocoibfclfeaa
open Go.ChangeShapes Go.WideShapes Go.ChangeAt Go.RowKit Go.Deep Go.Maps Go.ChangeMaps Go.WideMaps
set_option linter.unusedSimpArgs false
set_option linter.unusedVariables false

set_option maxHeartbeats 1000000 in
theorem May_short (R : RP) (A : List Acc) (so : Option Addr) (cap : Nat) (p : List Ent) (w : World) (h0 : p.length = 0) : Calls Try.prog 34 #[.pointer (some ⟨R.r, 0, none⟩), .slice so p.length cap] w fun e w' => e = .returned (.int .i64 (mayE A p)) ∧ Below w.heap.size w w' := by
  have HF := hide (show mayE A p = 2 from may_2 (fun q => by have := q.1; omega))
  have b1 : decide ((p.length : Int) < 1) = true := by simp; omega
  go_enter Try.func34, Try.ntmps34
  go_wp2
  refine bodyPost_ret (v := .int .i64 2) (by simp [results, Try.f34, go_sem]) rfl ⟨by rw [HF.out], Below.refl _ _⟩
set_option maxHeartbeats 1000000 in
theorem May_long (R : RP) (A : List Acc) (so : Option Addr) (cap : Nat) (p : List Ent) (w : World) (h0 : 128 < p.length) : Calls Try.prog 34 #[.pointer (some ⟨R.r, 0, none⟩), .slice so p.length cap] w fun e w' => e = .returned (.int .i64 (mayE A p)) ∧ Below w.heap.size w w' := by
  have HF := hide (show mayE A p = 2 from may_2 (fun q => by have := q.2.1; omega))
  have b1 : decide ((p.length : Int) < 1) = false := by simp; omega
  have b2 : decide ((128 : Int) < (p.length : Int)) = true := by simp; omega
  clear h0
  go_enter Try.func34, Try.ntmps34
  go_wp2
  refine bodyPost_ret (v := .int .i64 2) (by simp [results, Try.f34, go_sem]) rfl ⟨by rw [HF.out], Below.refl _ _⟩
theorem May_r (I : Nat → Prop) (R : RP) (S : LS) (so : Option Addr) (cap : Nat) (p : List Ent) (w : World) (h : RObj I R S w) (hE : Ents so cap p w) (hS : Fine S) (hA : Agree S) : Calls Try.prog 34 #[.pointer (some ⟨R.r, 0, none⟩), .slice so p.length cap] w fun e w' => e = .returned (.int .i64 (mayE S.acc p)) ∧ Below w.heap.size w w' := by
  rcases (by omega : p.length = 0 ∨ 128 < p.length ∨ (0 < p.length ∧ p.length ≤ 128)) with q | q | q
  · exact May_short R S.acc so cap p w q
  · exact May_long R S.acc so cap p w q
  · exact May_loop I R S so cap p w h hE hS hA q.1 q.2
set_option maxHeartbeats 1000000 in
theorem Has_rno (I : Nat → Prop) (R : RP) (S : LS) (s : ByteArray) (w : World) (h : RObj I R S w) (hS : Fine S) (hi : idx (nms S.acc) s = none) : Calls Try.prog 38 #[.pointer (some ⟨R.r, 0, none⟩), .string s] w fun e w' => e = .returned (.tuple #[.int .i64 0, .int .i64 4]) ∧ w = w' := by
  have H := hide h
  have HS := hide hS
  have HI := hide hi
  clear h hS hi
  go_enter Try.func38, Try.ntmps38
  go_wp2_with fail
  refine (Find_r I R S s w H.out (by have := HS.out.snd.few; omega)).mono ?_
  rintro e w1 ⟨rfl, rfl⟩
  rw [idxV_none HI.out]
  go_wp2_with fail
  refine bodyPost_ret (v := .tuple #[.int .i64 0, .int .i64 4]) (by simp [results, Try.f38, go_sem]) rfl ⟨rfl, rfl⟩
set_option maxHeartbeats 1000000 in
theorem Has_ryes (I : Nat → Prop) (R : RP) (S : LS) (s : ByteArray) (n : Nat) (a : Acc) (w : World) (h : RObj I R S w) (hS : Fine S) (hA : Agree S) (hi : idx (nms S.acc) s = some n) (ha : S.acc[n]? = some a) : Calls Try.prog 38 #[.pointer (some ⟨R.r, 0, none⟩), .string s] w fun e w' => e = .returned (.tuple #[.int .i64 a.has, .int .i64 0]) ∧ w = w' := by
  have H := hide h
  have HF := hide (show ∀ p ∈ S.posts, small p from hS.smalls)
  have HA := hide hA
  have HS := hide hS
  have HI := hide hi
  have HH := hide (show a.has = ofSum S.posts s by
    have hnm : a.name = s := by
      have : (nms S.acc)[n]? = some a.name := by simp [nms, ha]
      rw [(idx_lt hi).2] at this; exact (Option.some.inj this).symm
    rw [← hnm]; exact hA.has a (List.mem_of_getElem? ha))
  have n0 : decide ((n : Int) < 0) = false := by (rw [decide_eq_false_iff_not]; omega)
  clear h hS hA hi ha
  go_enter Try.func38, Try.ntmps38
  go_wp2_with fail
  refine (Find_r I R S s w H.out (by have := HS.out.snd.few; omega)).mono ?_
  rintro e w1 ⟨rfl, rfl⟩
  rw [idxV_some HI.out]
  go_wp2_with fail
  refine (Of_r I R S s w H.out HF.out HA.out.few).mono ?_
  rintro e w1 ⟨rfl, rfl⟩
  rw [← HH.out]
  go_wp2_with fail
  refine bodyPost_ret (v := .tuple #[.int .i64 a.has, .int .i64 0]) (by simp [results, Try.f38, go_sem]) rfl ⟨rfl, rfl⟩
set_option maxHeartbeats 1000000 in
theorem Posting_rno (I : Nat → Prop) (R : RP) (S : LS) (x : Int) (w : World) (h : RObj I R S w) (hx : x < 0 ∨ S.posts.length ≤ x) : Calls Try.prog 41 #[.pointer (some ⟨R.r, 0, none⟩), .int .i64 x] w fun e w' => e = .returned (.tuple #[.slice none 0 0, .int .i64 4]) ∧ w = w' := by
  obtain ⟨vs, hrow, hposts⟩ := h.pr
  obtain ⟨pa, pc, hpv⟩ := own_any hrow
  have c2 : w.cell? ⟨R.r, 2, none⟩ = some (.slice pa S.posts.length pc) := by rw [← hpv]; exact h.c2
  clear h hrow hposts hpv
  by_cases h0 : x < 0
  · have n0 : decide (x < 0) = true := by (rw [decide_eq_true_iff]; exact h0)
    clear hx h0
    go_enter Try.func41, Try.ntmps41
    go_wp2_with fail
    refine bodyPost_ret (v := .tuple #[.slice none 0 0, .int .i64 4]) (by simp [results, Try.f41, go_sem]) rfl ⟨rfl, rfl⟩
  · have n0 : decide (x < 0) = false := by (rw [decide_eq_false_iff_not]; exact h0)
    have n1 : decide ((S.posts.length : Int) ≤ x) = true := by (rw [decide_eq_true_iff]; omega)
    clear hx h0
    go_enter Try.func41, Try.ntmps41
    go_wp2_with fail
    refine bodyPost_ret (v := .tuple #[.slice none 0 0, .int .i64 4]) (by simp [results, Try.f41, go_sem]) rfl ⟨rfl, rfl⟩
set_option maxHeartbeats 1000000 in
theorem Posting_ryes (I : Nat → Prop) (R : RP) (S : LS) (n : Nat) (p : List Ent) (w : World) (h : RObj I R S w) (hp : S.posts[n]? = some p) : Calls Try.prog 41 #[.pointer (some ⟨R.r, 0, none⟩), .int .i64 (n : Int)] w fun e w' => (∃ so cap, e = .returned (.tuple #[.slice so p.length cap, .int .i64 0]) ∧ PostRow I w (.slice so p.length cap) p) ∧ w = w' := by
  obtain ⟨vs, hrow, hposts⟩ := h.pr
  have hn : n < S.posts.length := (List.getElem?_eq_some_iff.1 hp).1
  obtain ⟨g, pc, hpv, hc⟩ := own_at hrow hn
  obtain ⟨v, hv, hpr⟩ := hposts n p hp
  obtain ⟨so, cap, rfl⟩ := own_any hpr.1
  rw [hv] at hc
  have c2 : w.cell? ⟨R.r, 2, none⟩ = some (.slice (some ⟨g, 0, none⟩) S.posts.length pc) := by rw [← hpv]; exact h.c2
  have HPR := hide hpr
  have n0 : decide ((n : Int) < 0) = false := by (rw [decide_eq_false_iff_not]; omega)
  have n1 : decide ((S.posts.length : Int) ≤ (n : Int)) = false := by (rw [decide_eq_false_iff_not]; omega)
  have n2 : (0 : Int) ≤ (n : Int) := by omega
  have n3 : (n : Int) < (S.posts.length : Int) := by omega
  clear h hrow hposts hpv hv hpr hp hn
  go_enter Try.func41, Try.ntmps41
  go_wp2_with fail
  refine bodyPost_ret (v := .tuple #[.slice so p.length cap, .int .i64 0]) (by simp [results, Try.f41, go_sem]) rfl ⟨⟨so, cap, rfl, HPR.out⟩, rfl⟩
set_option maxHeartbeats 1000000 in
theorem Copy_r (I : Nat → Prop) (R : RP) (S : LS) (w : World) (h : RObj I R S w) : Calls Try.prog 43 #[.pointer (some ⟨R.r, 0, none⟩)] w fun e w' => e = .returned (.pointer (some ⟨w.heap.size, 0, none⟩)) ∧ RObj I { R with r := w.heap.size } S w' ∧ Below w.heap.size w w' := by
  have H := hide h
  have hb : Below w.heap.size w (w.alloc (.cells #[R.nv, R.lv, R.pv] 50)) := by (focus repeat' (first | (with_reducible exact Below.refl _ _) | (with_reducible assumption) | (with_reducible refine Below.alloc ?_ ?_ _) | (with_reducible refine Below.drew ?_) | (with_reducible refine bdrewN ?_ _) | (with_reducible refine Below.setCell ?_ ?_ _) | (first | (with_reducible exact Nat.le_refl _) | (with_reducible assumption) | omega | (simp; omega) | (simp; done))))
  have h2 := h.below hb
  have HR := hide (show RObj I { R with r := w.heap.size } S (w.alloc (.cells #[R.nv, R.lv, R.pv] 50)) from
    ⟨by simp [go_sem], by simp [go_sem], by simp [go_sem], by simp [go_sem], h2.nr, h2.lr, h2.pr, h2.ni, h2.li, h2.pi, (show ¬ I w.heap.size from fun q => by have := h.ilt _ q; omega), h2.ilt⟩)
  have c0 := h.c0
  have c1 := h.c1
  have c2 := h.c2
  obtain ⟨vs, hrow, -⟩ := h.pr
  obtain ⟨na, nc, hnv⟩ := own_any h.nr
  obtain ⟨la, lc, hlv⟩ := own_any h.lr
  obtain ⟨pa, pc, hpv⟩ := own_any hrow
  have e : w.alloc (.cells #[R.nv, R.lv, R.pv] 50) = w.alloc (.cells #[.slice na S.acc.length nc, .slice la S.acc.length lc, .slice pa S.posts.length pc] 50) := by rw [hnv, hlv, hpv]
  rw [e] at HR
  rw [hnv] at c0
  rw [hlv] at c1
  rw [hpv] at c2
  clear h h2 hb hrow hnv hlv hpv e
  go_enter Try.func43, Try.ntmps43
  go_wp2_with fail
  refine bodyPost_ret (v := .pointer (some ⟨w.heap.size, 0, none⟩)) (by simp [results, Try.f43, go_sem]) rfl ⟨rfl, HR.out, by (focus repeat' (first | (with_reducible exact Below.refl _ _) | (with_reducible assumption) | (with_reducible refine Below.alloc ?_ ?_ _) | (with_reducible refine Below.drew ?_) | (with_reducible refine bdrewN ?_ _) | (with_reducible refine Below.setCell ?_ ?_ _) | (first | (with_reducible exact Nat.le_refl _) | (with_reducible assumption) | omega | (simp; omega) | (simp; done))))⟩
end Go.Proofs.Ytkdocoibfclfeaa

