import Derived.Test.YtkdocoibfclfeaaTk
import Derived.Test.YtkdocoibfclfeaaRH
import Derived.Deep.RegionLaw
import Derived.Maps.OwnIn
import Derived.Sort.LoopGhostIn
namespace Go.Proofs.Ytkdocoibfclfeaa
open Go.ChangeShapes Go.WideShapes Go.ChangeAt Go.RowKit Go.Deep Go.Shelf Go.Maps Go.WideMaps Ytkdocoibfclfeaa.it
set_option linter.unusedSimpArgs false
set_option linter.unusedVariables false

attribute [local go_sem] Oper.semAt_some

theorem wpListIn_mapUpdate_is {F : Fence} {nF : Nat} {P : Program} (w : World) {ops : Array Oper} {rest : List Oper} {o : Oper} {a : Act} {Q : Exit → Act → World → Prop}
    (hg : o.guard = none) (m x v : Operand) (t : TypeId) (hop : o.op = Op.mapUpdate t m x v) (k e : TypeId) (K : Keyed P k) (ht : P.underlying t = some (.map k e)) (b n : Nat) (f : Lit → Option Value)
    (hm : a.eval m = .map (some b)) (h : MapIs P k w b n f) (hn : n < maxLen) (key val : Value) (kl : Lit) (hx : a.eval x = key) (hv : a.eval v = val) (hkey : keyOf P k key = some kl)
    (hK : ∀ w', MapIs P k w' b (if (f kl).isSome then n else n + 1) (setAt f kl val) → w.mapTurned w' b → wpListIn F nF P ops Q rest (a.put o.dst undef) w') :
    wpListIn F nF P ops Q (o :: rest) a w := by
  refine wpListIn_plain hg fun K' hK' => ?_
  obtain ⟨w', hrun, r1, r2⟩ := h.store K ht hn hkey (val := val)
  unfold Oper.wpIn
  refine ⟨by simp [Oper.about, hop], ?_⟩
  rw [Oper.semAt_plain F _ _ (by rw [hop]; intro c hc'; cases hc')]
  simp [execOp, hop, hm, hx, hv, hrun, Result.andThen]
  exact hK' _ _ (hK w' r1 r2)
theorem eql23 (a : Addr) (n cap : Nat) (w : World) : Sem.run Try.prog (binOp .eql 23 (.slice (some a) n cap) (.slice none 0 0)) w = .ok (.bool false) w := by kernel_rfl
theorem eql23n (w : World) : Sem.run Try.prog (binOp .eql 23 (.slice none 0 0) (.slice none 0 0)) w = .ok (.bool true) w := by kernel_rfl
set_option maxRecDepth 100000 in
set_option maxHeartbeats 2000000 in
theorem Clone30_some (g cap n B : Nat) (vs : List Value) (w : World) (hn : n ≤ 1048576) (own : w.ownsRow B 33 1 (.slice (some ⟨g, 0, none⟩) n cap) n vs) (h1 : ∀ u ∈ vs, u.oneCell' = true) : Calls Try.prog 30 #[.slice (some ⟨g, 0, none⟩) n cap] w (fun e w' => ∃ v', e = .returned v' ∧ w'.ownsRow w.heap.size 33 1 v' n vs ∧ Below w.heap.size w w') := by
  obtain ⟨i0, hi0, hz0, hz1, hz2⟩ := info_parts info33
  have hl : vs.length = n * 1 := own.1
  have Hn := hide (show ∀ j u, vs[j]? = some u → (w.alloc (.cells #[] 33)).cell? ((⟨g, 0, none⟩ : Addr).add j) = some u from fun j u hu => by
    have q := own.cells rfl j u hu
    exact ((Below.refl w.heap.size w).alloc (Nat.le_refl _) (.cells #[] 33)).cell (p := (⟨g, 0, none⟩ : Addr).add j) (World.block_lt_of_cell? w _ q) |>.trans q)
  have Q := eql23
  have ONE := hide h1
  clear own h1
  go_enter Try.func30, Try.ntmps30
  go_wp2_with (at_builtin; refine wpList_append_own _ rfl _ _ 23 rfl w.heap.size 33 i0 _ 1 24 Try.underlying23 hi0 hz0 hz1 hz2 rfl (by decide) (.slice (some ⟨w.heap.size, 0, none⟩) 0 0) 0 [] rfl (made0 w 33 1 (by decide)) ⟨g, 0, none⟩ n cap vs rfl hl Hn.out ONE.out (by unfold maxLen; omega) (by omega) (by simp) ?_; intro v' wn hown2 hg2 _)
  go_ret
  refine ⟨v', rfl, by (rw [Nat.zero_add, List.nil_append] at hown2; exact hown2), ((Below.refl w.heap.size w).alloc (Nat.le_refl _) (.cells #[] 33)).grown hg2 (by simp) (fun k hk => ?_)⟩
  have q' : w.heap.size = k := Option.some.inj hk
  omega
set_option maxHeartbeats 1000000 in
theorem Clone30_nil (w : World) : Calls Try.prog 30 #[.slice none 0 0] w (fun e w' => e = .returned (.slice none 0 0) ∧ Below w.heap.size w w') := by
  have Q := eql23n
  go_enter Try.func30, Try.ntmps30
  go_wp2
  go_ret
  exact ⟨rfl, by (focus repeat' (first | (with_reducible exact Below.refl _ _) | (with_reducible assumption) | (with_reducible refine Below.alloc ?_ ?_ _) | (with_reducible refine Below.drew ?_) | (with_reducible refine bdrewN ?_ _) | (with_reducible refine Below.setCell ?_ ?_ _) | (first | (with_reducible exact Nat.le_refl _) | (with_reducible assumption) | omega | (simp; omega) | (simp; done))))⟩
theorem Clone30_c (pv : Value) (n B : Nat) (vs : List Value) (w : World) (hn : n ≤ 1048576) (own : w.ownsRow B 33 1 pv n vs) (h1 : ∀ u ∈ vs, u.oneCell' = true) : Calls Try.prog 30 #[pv] w (fun e w' => ∃ v', e = .returned v' ∧ w'.ownsRow w.heap.size 33 1 v' n vs ∧ Below w.heap.size w w') := by
  rcases own.2 with ⟨rfl, rfl⟩ | ⟨g, cap, cur, rfl, _⟩
  · have hv : vs = [] := List.length_eq_zero_iff.1 (by have := own.1; omega)
    subst hv
    exact (Clone30_nil w).mono (fun e w' q => ⟨_, q.1, World.ownsRow_nil _ _ _ _, q.2⟩)
  · exact Clone30_some g cap n B vs w hn own h1
theorem LObj.rows {I : Nat → Prop} {F : Fp} {S : LS} {w : World} (h : LObj I F S w) : ∃ vs : List Value, w.ownsRow 0 33 1 F.pv S.posts.length vs ∧ (∀ u ∈ vs, u.oneCell' = true) ∧ ∀ (i : Nat) (p : List Ent), S.posts[i]? = some p → ∃ v, vs[i]? = some v ∧ PostRow I w v p := by
  obtain ⟨vs, h1, h2⟩ := h.pr
  refine ⟨vs, h1, fun u hu => ?_, h2⟩
  obtain ⟨i, hi⟩ := List.getElem?_of_mem hu
  have hl : i < S.posts.length := by
    have := (List.getElem?_eq_some_iff.1 hi).1
    have q := h1.1
    omega
  obtain ⟨v, hv, hp⟩ := h2 i _ (List.getElem?_eq_getElem hl)
  rw [hi] at hv
  cases hv
  obtain ⟨ao, cap, rfl⟩ := own_any hp.1
  rfl
/-- an account in a box, the whole block -/
def BoxH (W : World) (Bx : Nat) (a : Acc) : Prop := W.heap[Bx]? = some (.cells #[.string a.name, .int .i64 a.least, .int .i64 a.has] 70 (0, 0))
theorem BoxH.a {W : World} {Bx : Nat} {a : Acc} (h : BoxH W Bx a) : BoxA W Bx a := by
  unfold BoxH at h
  simp [BoxA, World.cell?, h]
theorem BoxH.new (W : World) (a : Acc) : BoxH (W.alloc (.cells #[.string a.name, .int .i64 a.least, .int .i64 a.has] 70)) W.heap.size a := heap_alloc_new W _
theorem BoxH.put {W : World} {Bx B : Nat} {a : Acc} (h : BoxH W Bx a) (hb : Bx ≠ B) (o : Obj) : BoxH (W.putObj B o) Bx a := (World.putObj_heap_other hb).trans h
theorem LObj.notBox {I : Nat → Prop} {F : Fp} {S : LS} {w : World} (h : LObj I F S w) {Bx : Nat} {a : Acc} (hb : BoxH w Bx a) : ¬ F.own Bx := by
  have ha := hb.a
  unfold BoxH at hb
  intro hk
  rcases hk with rfl | rfl | rfl | rfl | q | q
  · have := h.b0; rw [ha.1] at this; cases this
  · have := h.t1; rw [ha.2.1] at this; cases this
  · obtain ⟨es, ck, e⟩ := h.am.isMap; rw [hb] at e; cases e
  · obtain ⟨es, ck, e⟩ := h.mm.isMap; rw [hb] at e; cases e
  · rcases h.lr.2 with ⟨e, _⟩ | ⟨g, cap, cur, e, _, e2, _⟩
    · rw [e] at q; cases q
    · rw [e] at q; cases q; rw [hb] at e2; cases e2
  · obtain ⟨vs, hp, _⟩ := h.pr
    rcases hp.2 with ⟨e, _⟩ | ⟨g, cap, cur, e, _, e2, _⟩
    · rw [e] at q; cases q
    · rw [e] at q; cases q; rw [hb] at e2; cases e2
/-- the account is written over -/
theorem LObj.setHas {I : Nat → Prop} {F : Fp} {A : List Acc} {ps : List (List Ent)} {s : ByteArray} {l h0 h1 : Int} {w w2 : World} (h : LObj I F ⟨A ++ [⟨s, l, h0⟩], ps⟩ w) (hm : MapIs Try.prog 3 w2 F.m (A.length + 1) (accAt (A ++ [⟨s, l, h1⟩]))) (ht : w.mapTurned w2 F.m) : LObj I F ⟨A ++ [⟨s, l, h1⟩], ps⟩ w2 := by
  have ap := h.ap
  have z := ht.grown.size
  have hT : ∀ k, k < w.heap.size → k ≠ F.m → w2.heap[k]? = w.heap[k]? := fun k hk hne => turned_heap ht hne hk
  have lb := h.lt (.inl rfl)
  have lt_ := h.lt (.inr (.inl rfl))
  have la := h.lt (.inr (.inr (.inl rfl)))
  have eb := hT _ lb ap.bm
  have et := hT _ lt_ ap.tm
  have ea := hT _ la ap.am
  have en : nms (A ++ [⟨s, l, h1⟩]) = nms (A ++ [⟨s, l, h0⟩]) := by simp [nms]
  have el : (A ++ [(⟨s, l, h1⟩ : Acc)]).length = (A ++ [(⟨s, l, h0⟩ : Acc)]).length := by simp
  obtain ⟨vs, hrow, hposts⟩ := h.pr
  refine ⟨cell_stay h.b0 eb, cell_stay h.b1 eb, cell_stay h.b2 eb, fun o => fro_stay (h.bf o) eb, cell_stay h.t0 et, cell_stay h.t1 et, cell_stay h.t2 et, fro_stay h.tf et, ?_, ⟨vs, ?_, fun i p hp => ?_⟩, ?_, ?_, ap, h.imm, fun k hk => Nat.lt_of_lt_of_le (h.ilt k hk) z⟩
  · show w2.ownsRow 0 9 1 F.lv (A ++ [(⟨s, l, h1⟩ : Acc)]).length ((nms (A ++ [⟨s, l, h1⟩])).map Value.string)
    rw [en, el]
    exact own_stays h.lr (fun k hk => hT k (h.lr.lt k hk).2 (ap.l k hk).2.2.2.1)
  · exact own_stays hrow (fun k hk => hT k (hrow.lt k hk).2 (ap.p k hk).2.2.2)
  · obtain ⟨v, v1, v2, v3⟩ := hposts i p hp
    exact ⟨v, v1, own_stays v2 (fun k hk => hT k (h.ilt k (v3 k hk)) (fun e => h.imm k (.inr (.inr (.inr (.inl e)))) (v3 k hk))), v3⟩
  · show MapIs Try.prog 9 w2 F.a (A ++ [(⟨s, l, h1⟩ : Acc)]).length (nameAt (nms (A ++ [⟨s, l, h1⟩])))
    rw [en, el]
    exact h.am.stays z ea
  · show MapIs Try.prog 3 w2 F.m (A ++ [(⟨s, l, h1⟩ : Acc)]).length _
    rw [show (A ++ [(⟨s, l, h1⟩ : Acc)]).length = A.length + 1 by simp]
    exact hm
/-- the copy under way -/
structure CI (w : World) (I : Nat → Prop) (A : List Acc) (Bc Bx g V nb : Nat) (j : Nat) (W : World) : Prop where
  ex : ∃ Fc, LObj I Fc ⟨A.take j, []⟩ W ∧ Fc.b = nb ∧ Fc.t < V ∧ Fc.a < V ∧ Fc.m < V ∧ ∀ k, Fc.own k → w.heap.size ≤ k ∧ k ≠ Bc ∧ k ≠ Bx ∧ k ≠ g
  c : W.cell? ⟨Bc, 0, none⟩ = some (.pointer (some ⟨nb, 0, none⟩))
  cf : W.frozen? ⟨Bc, 0, none⟩ = false
theorem CI.below {w : World} {I : Nat → Prop} {A : List Acc} {Bc Bx g V nb j : Nat} {W W' : World} (h : CI w I A Bc Bx g V nb j W) (hb : Below W.heap.size W W') : CI w I A Bc Bx g V nb j W' := by
  obtain ⟨Fc, h1, h2⟩ := h.ex
  have hl := World.block_lt_of_cell? W _ h.c
  exact ⟨⟨Fc, h1.below hb, h2⟩, cell_stay h.c (hb.block _ hl), fro_stay h.cf (hb.block _ hl)⟩
/-- a row of cells stays no other thing -/
theorem keeps_step {I I' : Nat → Prop} {F F' : Fp} {S : LS} {V : Nat} {w w' : World} (h : LObj I F S w) (hs : Step I F w I' F' w') (ht : F.t < V) (ha : F.a < V) (hm : F.m < V) (hb : F.b < V) : KeepsFrom V w w' := by
  refine ⟨hs.size, fun k o hk ho hc => ?_⟩
  have hlt : k < w.heap.size := (Array.getElem?_eq_some_iff.1 ho).1
  refine (hs.keep k hlt (fun q => ?_)).trans ho
  rcases q with rfl | rfl | rfl | rfl | q | q
  · omega
  · omega
  · omega
  · omega
  · rcases h.lr.2 with ⟨e, _⟩ | ⟨g, cap, cur, e, _, e2, _⟩
    · rw [e] at q; cases q
    · rw [e] at q; cases q; rw [ho] at e2; cases e2; cases hc
  · obtain ⟨vs, hp, _⟩ := h.pr
    rcases hp.2 with ⟨e, _⟩ | ⟨g, cap, cur, e, _, e2, _⟩
    · rw [e] at q; cases q
    · rw [e] at q; cases q; rw [ho] at e2; cases e2; cases hc
end Go.Proofs.Ytkdocoibfclfeaa
