import Derived.Maps.RangeWalk
import Derived.Maps.OwnSet
import Derived.Maps.Ext
import Derived.Test.YtimabgakemgldaaB1
namespace Go.Proofs.Ytimabgakemgldaa
open Go.ChangeShapes Go.WideShapes Go.ChangeAt Go.RowKit Go.Deep Go.Maps Go.ChangeMaps Go.WideElems
set_option linter.unusedSimpArgs false
set_option linter.unusedVariables false

/-- each value as it is -/
def heldR (v : Value) : Option (DataW Value × List MemPlace) := some (.held v, [])
theorem heldR_eq (v : Value) : heldR v = some (.held v, []) := rfl
/-- block b is a map of n entries; f says what stands at each key -/
def MapIs (P : Program) (k : TypeId) (w : World) (b n : Nat) (f : Lit → Option Value) : Prop :=
  ∃ D, w.ownsMap P k heldR b n D ∧ Maps.size D = n ∧ (∀ kl, Maps.has D kl = (f kl).isSome) ∧ ∀ kl z, D.atKey kl (.held z) = .held ((f kl).getD z)
open Classical in
noncomputable def setAt (f : Lit → Option Value) (k : Lit) (v : Value) : Lit → Option Value := fun x => if x = k then some v else f x
theorem setAt_same (f : Lit → Option Value) (k : Lit) (v : Value) : setAt f k v k = some v := by simp [setAt]
theorem setAt_other (f : Lit → Option Value) {k x : Lit} (v : Value) (h : x ≠ k) : setAt f k v x = f x := by simp [setAt, h]
section
variable {P : Program} {k : TypeId} {w : World} {b n : Nat} {f : Lit → Option Value}
theorem MapIs.made (w : World) (P : Program) (k : TypeId) : MapIs P k (w.alloc (.map #[] 0)) w.heap.size 0 (fun _ => none) :=
  ⟨.map [], World.ownsMap_made w P k heldR, rfl, fun _ => rfl, fun _ _ => rfl⟩
theorem MapIs.lt (h : MapIs P k w b n f) : b < w.heap.size := by obtain ⟨D, h1, _⟩ := h; exact h1.lt
theorem MapIs.stays {w' : World} (h : MapIs P k w b n f) (hs : w.heap.size ≤ w'.heap.size) (hb : w'.heap[b]? = w.heap[b]?) : MapIs P k w' b n f := by
  obtain ⟨D, ⟨es, clock, h1, h2⟩, h3⟩ := h
  exact ⟨D, ⟨es, clock, hb.trans h1, h2⟩, h3⟩
theorem MapIs.ext {g : Lit → Option Value} (h : MapIs P k w b n f) (e : ∀ x, f x = g x) : MapIs P k w b n g := by
  obtain rfl : f = g := funext e
  exact h
theorem MapIs.isMap (h : MapIs P k w b n f) : ∃ es clock, w.heap[b]? = some (.map es clock) := by
  obtain ⟨D, ⟨es, clock, h1, _⟩, _⟩ := h
  exact ⟨es, clock, h1⟩
/-- 'm[k]' -/
theorem MapIs.look {t e : TypeId} (h : MapIs P k w b n f) (K : Keyed P k) (ht : P.underlying t = some (.map k e)) {z : Value} (hz : (zeroValue e).run P w = .ok z w) {key : Value} {kl : Lit} (hkey : keyOf P k key = some kl) :
    (Instr.lookup t (.map (some b)) key false).run P w = .ok ((f kl).getD z) w := by
  obtain ⟨D, h1, _, _, h4⟩ := h
  obtain ⟨v, ps, hrun, hv⟩ := h1.lookup K ht hz (heldR_eq z) hkey
  rw [h4] at hv
  simp only [heldR, Option.some.injEq, Prod.mk.injEq, DataW.held.injEq] at hv
  rw [hrun, hv.1]
/-- 'v, ok := m[k]' -/
theorem MapIs.look_ok {t e : TypeId} (h : MapIs P k w b n f) (K : Keyed P k) (ht : P.underlying t = some (.map k e)) {z : Value} (hz : (zeroValue e).run P w = .ok z w) {key : Value} {kl : Lit} (hkey : keyOf P k key = some kl) :
    (Instr.lookup t (.map (some b)) key true).run P w = .ok (.tuple #[(f kl).getD z, .bool (f kl).isSome]) w := by
  obtain ⟨D, h1, _, h3, h4⟩ := h
  obtain ⟨v, ps, hrun, hv⟩ := h1.look_ok K ht hz (heldR_eq z) hkey
  rw [h4] at hv
  simp only [heldR, Option.some.injEq, Prod.mk.injEq, DataW.held.injEq] at hv
  rw [hrun, hv.1, h3]
theorem MapIs.len {t e : TypeId} (h : MapIs P k w b n f) (ht : P.underlying t = some (.map k e)) (ty : TypeId) : (Builtin.len_ #[t] ty #[.map (some b)]).run P w = .ok (.int .i64 n) w := by
  obtain ⟨D, h1, h2, _⟩ := h
  rw [← h2]; exact h1.len ht ty
/-- 'm[k] = v' -/
theorem MapIs.store {t e : TypeId} (h : MapIs P k w b n f) (K : Keyed P k) (ht : P.underlying t = some (.map k e)) (hn : n < maxLen) {key val : Value} {kl : Lit} (hkey : keyOf P k key = some kl) :
    ∃ w', (Instr.mapUpdate t (.map (some b)) key val).run P w = .ok () w' ∧ MapIs P k w' b (if (f kl).isSome then n else n + 1) (setAt f kl val) ∧ w.mapTurned w' b := by
  obtain ⟨D, h1, h2, h3, h4⟩ := h
  obtain ⟨w', hrun, own, ht'⟩ := h1.store K ht hn hkey (heldR_eq val)
  have hk := K.key hkey
  refine ⟨w', hrun, ⟨D.put kl (.held val), ?_, ?_, ?_, ?_⟩, ht'⟩
  · obtain ⟨es, clock, q1, q2, q3, q4⟩ := own
    refine ⟨es, clock, q1, q2, ?_, q4⟩
    have e1 : Maps.size (D.put kl (.held val)) = es.size := by rw [q4]; simp [Maps.size, length_sorted]
    rw [size_put (h1.tidy K), h3, h2] at e1
    omega
  · rw [size_put (h1.tidy K), h3, h2]
  · intro x
    by_cases e : x = kl
    · subst e; rw [has_put_same h1.isMap hk, setAt_same]; rfl
    · rw [has_put_other e, h3, setAt_other _ _ e]
  · intro x z
    by_cases e : x = kl
    · subst e; rw [atKey_put_same h1.isMap hk, setAt_same]; rfl
    · rw [atKey_put_other e, h4, setAt_other _ _ e]
/-- 'for k, v := range m' under way -/
def Ranging (P : Program) (k : TypeId) (w : World) (b r n : Nat) (f : Lit → Option Value) (left : Lit → Bool) (cnt : Nat) : Prop :=
  ∃ D, w.ranges P k heldR b r n D left cnt ∧ Maps.size D = n ∧ (∀ kl, Maps.has D kl = (f kl).isSome) ∧ ∀ kl z, D.atKey kl (.held z) = .held ((f kl).getD z)
theorem Ranging.map {r : Nat} {left : Lit → Bool} {cnt : Nat} (h : Ranging P k w b r n f left cnt) : MapIs P k w b n f := by
  obtain ⟨D, h1, h2⟩ := h
  exact ⟨D, h1.owns, h2⟩
theorem Ranging.left_eq {r : Nat} {left : Lit → Bool} {cnt : Nat} (h : Ranging P k w b r n f left cnt) : w.rangeLeft b r = cnt := by
  obtain ⟨D, h1, h2⟩ := h
  exact h1.left_eq
theorem Ranging.lt {r : Nat} {left : Lit → Bool} {cnt : Nat} (h : Ranging P k w b r n f left cnt) : r < w.heap.size := by
  obtain ⟨D, h1, h2⟩ := h
  exact h1.lt
theorem Ranging.stays {r : Nat} {left : Lit → Bool} {cnt : Nat} {w' : World} (h : Ranging P k w b r n f left cnt) (hb : w'.heap[b]? = w.heap[b]?) (hr : w'.heap[r]? = w.heap[r]?) : Ranging P k w' b r n f left cnt := by
  obtain ⟨D, ⟨es, clock, since, seen, c0, q1, q2, q3, q4, q5, q6⟩, h2⟩ := h
  exact ⟨D, ⟨es, clock, since, seen, c0, hb.trans q1, q2, q3, q4, hr.trans q5, q6⟩, h2⟩
/-- what is left is there -/
theorem Ranging.has {r : Nat} {left : Lit → Bool} {cnt : Nat} (h : Ranging P k w b r n f left cnt) (K : Keyed P k) {kl : Lit} (hl : left kl = true) : ∃ v, f kl = some v := by
  obtain ⟨D, ⟨es, clock, since, seen, c0, q1, q2, q3, q4, q5, q6, q7, q8, q9, q10⟩, h2, h3, h4⟩ := h
  obtain ⟨x, hx, hk⟩ := q9 kl hl
  have : Maps.has D kl = true := by
    rw [q4, ← hk]
    obtain ⟨y, hy⟩ := q2.reads x hx
    exact List.any_eq_true.2 ⟨rg P k heldR x, mem_sorted.2 (List.mem_map.2 ⟨x, hx, rfl⟩), WideAt.sameKey_self (by rw [Go.WideElems.rg_of hy]; exact K.key (Go.WideElems.rd_key hy))⟩
  rw [h3] at this
  exact Option.isSome_iff_exists.1 this
end
section
variable {P : Program} (w : World) {ops : Array Oper} {rest : List Oper} {o : Oper} {a : Act} {Q : Exit → Act → World → Prop}
/-- 'range m' -/
theorem wpList_range_is (hg : o.guard = none) (m : Operand) (t : TypeId) (hop : o.op = Op.range t m) (k e : TypeId) (K : Keyed P k) (ht : P.underlying t = some (.map k e)) (b n : Nat) (f : Lit → Option Value)
    (hm : a.eval m = .map (some b)) (h : MapIs P k w b n f)
    (hK : ∀ w', Ranging P k w' b w.heap.size n f (fun kl => (f kl).isSome) n → w.grownBy w' none → w'.heap.size = w.heap.size + 1 → wpList P ops Q rest (a.put o.dst (.pointer (some ⟨w.heap.size, 0, none⟩))) w') :
    wpList P ops Q (o :: rest) a w := by
  obtain ⟨D, h1, h2, h3, h4⟩ := h
  refine wpList_range_own w hg m t hop k e K ht heldR b n D hm h1 ?_
  intro w' hr hgr hs
  refine hK w' ⟨D, ?_, h2, h3, h4⟩ hgr hs
  have e1 : Maps.has D = (fun kl => (f kl).isSome) := funext h3
  rw [← h2, ← e1, h2]
  rw [h2] at hr
  exact hr
/-- the next entry: keys and elements are ints -/
theorem wpList_next_ii (hg : o.guard = none) (it : Operand) (hop : o.op = Op.next it false) (k : TypeId) (K : Keyed P k) (hk : P.underlying k = some (.int .i64)) (b r n : Nat) (f : Lit → Option Value) (left : Lit → Bool) (cnt : Nat)
    (hit : a.eval it = .pointer (some ⟨r, 0, none⟩)) (h : Ranging P k w b r n f left cnt) (hf : ∀ kl v, f kl = some v → ∃ c, v = .int .i64 c)
    (hDone : cnt = 0 → (∀ kl, left kl = false) → wpList P ops Q rest (a.put o.dst (.tuple #[.bool false])) w)
    (hMore : ∀ (x c : Int) (w' : World) (cnt' : Nat), (Lit.int .i64 x).wf = true → left (.int .i64 x) = true → f (.int .i64 x) = some (.int .i64 c) → Ranging P k w' b r n f (fun z => left z && !z.sameKey (.int .i64 x)) cnt' → cnt' < cnt →
      w.grownBy w' (some r) → w'.heap.size = w.heap.size → (Instr.entry (.pointer (some ⟨r, 0, none⟩))).run P w' = .ok (.tuple #[.int .i64 x, .int .i64 c]) w' → wpList P ops Q rest (a.put o.dst (.tuple #[.bool true, .int .i64 x, .int .i64 c])) w') :
    wpList P ops Q (o :: rest) a w := by
  obtain ⟨D, h1, h2, h3, h4⟩ := h
  refine wpList_plain hg fun K' hK' => ?_
  unfold Oper.wp
  rcases h1.next K o.type with ⟨h0, hl, hrun⟩ | ⟨key, v, kl, y, w', cnt', hkey, hlk, hv, hat, hrun, hrg, hlt, hgr, hsz, hen⟩
  · simp [execOp, hop, hit, hrun, Result.andThen]
    exact hK' _ _ (hDone h0 hl)
  · obtain ⟨x, rfl, rfl, hwx⟩ := Maps.keyOf_int_inv hk hkey
    obtain ⟨v', hv'⟩ := Ranging.has ⟨D, h1, h2, h3, h4⟩ K hlk
    have e1 := hat (.held undef)
    rw [h4, hv'] at e1
    simp only [heldR, Option.some.injEq] at hv
    rw [← hv] at e1
    simp only [Option.getD_some, DataW.held.injEq] at e1
    subst e1
    obtain ⟨c, rfl⟩ := hf _ _ hv'
    simp [execOp, hop, hit, hrun, Result.andThen]
    exact hK' _ _ (hMore x c w' cnt' hwx hlk hv' ⟨D, hrg, h2, h3, h4⟩ hlt hgr hsz hen)
/-- 'm[k] = v' -/
theorem wpList_mapUpdate_is (hg : o.guard = none) (m x v : Operand) (t : TypeId) (hop : o.op = Op.mapUpdate t m x v) (k e : TypeId) (K : Keyed P k) (ht : P.underlying t = some (.map k e)) (b n : Nat) (f : Lit → Option Value)
    (hm : a.eval m = .map (some b)) (h : MapIs P k w b n f) (hn : n < maxLen) (key val : Value) (kl : Lit) (hx : a.eval x = key) (hv : a.eval v = val) (hkey : keyOf P k key = some kl)
    (hK : ∀ w', MapIs P k w' b (if (f kl).isSome then n else n + 1) (setAt f kl val) → w.mapTurned w' b → wpList P ops Q rest (a.put o.dst undef) w') :
    wpList P ops Q (o :: rest) a w := by
  refine wpList_plain hg fun K' hK' => ?_
  obtain ⟨w', hrun, r1, r2⟩ := h.store K ht hn hkey (val := val)
  unfold Oper.wp
  simp [execOp, hop, hm, hx, hv, hrun, Result.andThen]
  exact hK' _ _ (hK w' r1 r2)
end
end Go.Proofs.Ytimabgakemgldaa
