/- Contracts of the layer's functions, each proved once, in the order in which they are used. No condition beyond each theorem's own. -/
import Derived.Test.YtalnipjaekpbhaaL33
import Derived.Deep.CutBlock
import Derived.Maps.AppendAt
namespace Go.Proofs.Ytalnipjaekpbhaa
open Go.ChangeShapes Go.WideShapes Go.ChangeAt Go.RowKit Go.Deep
set_option linter.unusedSimpArgs false
set_option linter.unusedVariables false

/-- a book -/
structure KSt (w : World) (kb B : Nat) (os : List Ord) (bs : List Nat) (v p : Value) (vs : List Value) : Prop where
  hp : w.heap[kb]? = some (.cells #[.bool true, v, p] 86)
  o : OrdsOwn w B v os vs
  p_ : w.ownsRow B 5 1 p bs.length (u8L bs)
theorem KSt.lt {w : World} {kb B : Nat} {os : List Ord} {bs : List Nat} {v p : Value} {vs : List Value} (h : KSt w kb B os bs v p vs) : kb < w.heap.size := by
  have := h.hp
  by_cases e : kb < w.heap.size
  · exact e
  · rw [Array.getElem?_eq_none (by omega)] at this; cases this
theorem KSt.cells {w : World} {kb B : Nat} {os : List Ord} {bs : List Nat} {v p : Value} {vs : List Value} (h : KSt w kb B os bs v p vs) : w.cell? ⟨kb, 0, none⟩ = some (.bool true) ∧ w.cell? ⟨kb, 1, none⟩ = some v ∧ w.cell? ⟨kb, 2, none⟩ = some p := by
  refine ⟨?_, ?_, ?_⟩ <;> rw [cell_of_row w kb _ _ 86 (0, 0) h.hp] <;> rfl
theorem KSt.below {w w' : World} {kb B : Nat} {os : List Ord} {bs : List Nat} {v p : Value} {vs : List Value} (h : KSt w kb B os bs v p vs) (hb : Below w.heap.size w w') : KSt w' kb B os bs v p vs :=
  ⟨(hb.block _ h.lt).trans h.hp, h.o.below hb, own_below h.p_ hb⟩
theorem eql55 (a : Addr) (w : World) : Sem.run Try.prog (binOp .eql 55 (.pointer (some a)) (.pointer none)) w = .ok (.bool false) w := by kernel_rfl
theorem eql55n (w : World) : Sem.run Try.prog (binOp .eql 55 (.pointer none) (.pointer none)) w = .ok (.bool true) w := by kernel_rfl
set_option maxRecDepth 100000 in
theorem none_k {w : World} {kb : Nat} {m : Bool} (h : w.cell? ⟨kb, 0, none⟩ = some (.bool m)) : Calls Try.prog 73 #[.pointer (some ⟨kb, 0, none⟩)] w fun e w' => e = .returned (.bool (!m)) ∧ w' = w := by
  have q := eql55
  go_enter Try.func73, Try.ntmps73
  go_wp2_with fail
  refine bodyPost_ret (v := .bool (!m)) (by simp [results, Try.f73, go_sem]) rfl ⟨rfl, rfl⟩
set_option maxRecDepth 100000 in
theorem none_nil (w : World) : Calls Try.prog 73 #[.pointer none] w fun e w' => e = .returned (.bool true) ∧ w' = w := by
  have q := eql55n
  go_enter Try.func73, Try.ntmps73
  go_wp2_with fail
  refine bodyPost_ret (v := .bool true) (by simp [results, Try.f73, go_sem]) rfl ⟨rfl, rfl⟩
set_option maxRecDepth 100000 in
theorem New_c (w : World) : Calls Try.prog 33 #[] w fun e w' => e = .returned (.pointer (some ⟨w.heap.size, 0, none⟩)) ∧ KSt w' w.heap.size (w.heap.size + 1) [] [] (.slice none 0 0) (.slice none 0 0) [] ∧ Below w.heap.size w w' := by
  go_enter Try.func33, Try.ntmps33
  go_wp2_with fail
  refine bodyPost_ret (v := .pointer (some ⟨w.heap.size, 0, none⟩)) (by simp [results, Try.f33, go_sem]) rfl ⟨rfl, ⟨heap_alloc_new w _, OrdsOwn.nil _ _, ⟨rfl, .inl ⟨rfl, rfl⟩⟩⟩, (Below.refl _ _).alloc (Nat.le_refl _) _⟩
set_option maxRecDepth 100000 in
set_option maxHeartbeats 1000000 in
theorem KLen_c {w : World} {kb B : Nat} {os : List Ord} {bs : List Nat} {v p : Value} {vs : List Value} (h : KSt w kb B os bs v p vs) : Calls Try.prog 30 #[.pointer (some ⟨kb, 0, none⟩)] w fun e w' => e = .returned (.int .i64 (os.length : Int)) ∧ w' = w := by
  obtain ⟨c0, c1, c2⟩ := h.cells
  obtain ⟨pv, cv, hv⟩ := own_any h.o.row
  subst hv
  have CN := hide (none_k c0)
  go_enter Try.func30, Try.ntmps30
  go_wp2_with (go_at_call 73; (apply Calls.mono; focus (exact CN.out)); rintro e wz ⟨rfl, rfl⟩)
  refine bodyPost_ret (v := .int .i64 (os.length : Int)) (by simp [results, Try.f30, go_sem]) rfl ⟨rfl, rfl⟩
set_option maxRecDepth 100000 in
set_option maxHeartbeats 1000000 in
theorem KSize_c {w : World} {kb B : Nat} {os : List Ord} {bs : List Nat} {v p : Value} {vs : List Value} (h : KSt w kb B os bs v p vs) : Calls Try.prog 31 #[.pointer (some ⟨kb, 0, none⟩)] w fun e w' => e = .returned (.int .i64 (bs.length : Int)) ∧ w' = w := by
  obtain ⟨c0, c1, c2⟩ := h.cells
  obtain ⟨pv, cv, hv⟩ := own_any h.p_
  subst hv
  have CN := hide (none_k c0)
  go_enter Try.func31, Try.ntmps31
  go_wp2_with (go_at_call 73; (apply Calls.mono; focus (exact CN.out)); rintro e wz ⟨rfl, rfl⟩)
  refine bodyPost_ret (v := .int .i64 (bs.length : Int)) (by simp [results, Try.f31, go_sem]) rfl ⟨rfl, rfl⟩
set_option maxRecDepth 100000 in
set_option maxHeartbeats 2000000 in
theorem owned_c (o : Ord) (ov : Value) (w : World) (ho : OffsIn w ov o.offs) : Calls Try.prog 72 #[ordV o ov] w fun e w' => ∃ v', e = .returned (ordV o v') ∧ w'.ownsRow w.heap.size 93 2 v' o.offs.length (flatF o.offs) ∧ Below w.heap.size w w' := by
  have HO := hide ho
  obtain ⟨p, c, rfl⟩ := ho.val
  clear ho
  obtain ⟨W, hW⟩ : ∃ W, W = (w.alloc (.cells (ordCells o (.slice p o.offs.length c)).toArray 29)).alloc (.cells #[Value.int .i64 0, .string ⟨#[]⟩, .int .i64 0, .int .i64 0, .int .i64 0, .int .i64 0, .int .i64 0, .int .i64 0, .int .i64 0, .int .i64 0, .int .i64 0, .int .i64 0, .int .i64 0, .int .i64 0, .int .i64 0, .int .i64 0, .slice none 0 0, .int .i64 0] 29) := ⟨_, rfl⟩
  have hb1 : Below w.heap.size w (w.alloc (.cells (ordCells o (.slice p o.offs.length c)).toArray 29)) := (Below.refl _ _).alloc (Nat.le_refl _) _
  have hb0 : Below w.heap.size w W := by rw [hW]; exact hb1.alloc hb1.size _
  have bx : BoxO W w.heap.size o (.slice p o.offs.length c) := by rw [hW]; exact (box_made w o _).below ((Below.refl _ _).alloc (Nat.le_refl _) _)
  have bz : BoxO W (w.heap.size + 1) (zeroO 0) (.slice none 0 0) := by
    rw [hW]
    have q := box_made (w.alloc (.cells (ordCells o (.slice p o.offs.length c)).toArray 29)) (zeroO 0) (.slice none 0 0)
    rw [World.size_alloc] at q
    exact q
  have C82 := hide (CloneO_c (.slice p o.offs.length c) o.offs W (HO.out.below hb0))
  have HW := hide hW
  have HB0 := hide hb0
  have BX := hide bx
  have BZ := hide bz
  have x16 : W.cell? ⟨w.heap.size, 16, none⟩ = some (.slice p o.offs.length c) := bx.c 16 (by decide)
  clear hW hb0 hb1 bx bz
  unfold ordV
  go_enter Try.func72, Try.ntmps72
  go_upto_region 1 with fail
  rw [← HW.out]
  go_upto_region 2 with (go_at_call 82; (apply Calls.mono; focus (exact C82.out)); rintro e w2 ⟨v2, rfl, o2, hb2⟩; obtain ⟨p2, c2, rfl⟩ := own_any o2; have HB2 := hide hb2; have O2 := hide o2; have BX2 := hide (BX.out.below hb2); have BZ2 := hide (BZ.out.below hb2); have y16 := BX2.out.c 16 (by decide); have g16 := BX2.out.f 16; clear o2 hb2)
  obtain ⟨W3, hW3⟩ : ∃ q, q = w2.setCell ⟨w.heap.size, 16, none⟩ (.slice p2 o.offs.length c2) := ⟨_, rfl⟩
  have HZ := hide (show w.heap.size + 2 ≤ W.heap.size from BZ.out.lt)
  have BX3 := hide (show BoxO W3 w.heap.size o (.slice p2 o.offs.length c2) by rw [hW3]; exact BX2.out.offed o.offs _)
  have BZ3 := hide (show BoxO W3 (w.heap.size + 1) (zeroO 0) (.slice none 0 0) by rw [hW3]; exact BZ2.out.stays (heap_setCell_other _ _ _ _ (by show w.heap.size + 1 ≠ w.heap.size; omega)))
  have O3 := hide (show W3.ownsRow W.heap.size 93 2 (.slice p2 o.offs.length c2) o.offs.length (flatF o.offs) by
    rw [hW3]
    exact own_same O2.out (fun q hq _ => heap_setCell_other _ _ _ _ (by have := (O2.out.lt q hq).1; have := HZ.out; show q ≠ w.heap.size; omega)))
  have HB3 := hide (show Below w.heap.size w W3 by rw [hW3]; exact (bstep HB0.out HB2.out).setCell (p := ⟨w.heap.size, 16, none⟩) (Nat.le_refl _) _)
  rw [← hW3]
  clear hW3 y16 g16 x16
  have TH := hide BZ3.out.there
  have HO1 := hide (show (ordCells o (.slice p2 o.offs.length c2)).toArray.all (fun x => x.oneCell') = true by kernel_rfl)
  go_wp2_with (first
    | (refine wpList_load_mid rfl 29 _ rfl w.heap.size 0 rfl (ordCells o (.slice p2 o.offs.length c2)) _ ?_ Try.underlying29 rfl ?_ ?_; exact BX3.out.range; kernel_rfl)
    | (refine wpList_store_mid rfl 29 _ _ rfl (w.heap.size + 1) 0 (ordCells o (.slice p2 o.offs.length c2)).toArray rfl ?_ ?_ ?_ ?_ ?_; exact rfl; exact TH.out; kernel_rfl; exact HO1.out))
  have hl := run_loadVar_mid (P := Try.prog) (W3.setCells (w.heap.size + 1) 0 (ordCells o (.slice p2 o.offs.length c2))) (w.heap.size + 1) 0 29 (ordCells o (.slice p2 o.offs.length c2)) _ (World.rangeAt_setCells_same _ _ _ _ TH.out) Try.underlying29 rfl (by rw [ordCells_len]; kernel_rfl)
  refine bodyPost_ret (v := ordV o (.slice p2 o.offs.length c2)) (results_cell1 rfl rfl hl) rfl ⟨_, rfl, ?_, below_sets (by omega) _ _ _ HB3.out⟩
  exact own_lower (own_same O3.out (fun q hq _ => heap_sets_ne (by have := (O3.out.lt q hq).1; have := HZ.out; omega) _ _ _)) (by have := HZ.out; omega)
end Go.Proofs.Ytalnipjaekpbhaa

namespace Go.Proofs.Ytalnipjaekpbhaa
open Go.ChangeShapes Go.WideShapes Go.ChangeAt Go.RowKit Go.Deep
set_option linter.unusedSimpArgs false
set_option linter.unusedVariables false

theorem form_len9 {x : Nat} (h : x < 18446744073709551616) : (form x).length ≤ 9 := form_le h
theorem formO_len {o : Ord} (hr : OrdR o) (hc : chk o = true) : (formO o).length ≤ 2000 := by
  have ct := (chk_iff o).1 hc
  have h1 := form_le (x := o.kind.toNat) (by have := ct.k1; omega)
  have h2 := text_le (bstr o.name) (by rw [bstr_size]; have := ct.nl; omega)
  rw [bstr_size] at h2
  have h3 := flat_le (f := numF o) (l := numL o.kind) (fun x _ => numF_le hr x)
  have h4 := numL_len o.kind
  have h5 := offFs_le (l := o.offs) (fun x hx => ⟨(hr.o1 x hx).1, ct.oc x hx, (hr.o1 x hx).2.2⟩)
  have h6 := form_le (x := o.offs.length) (by have := ct.ol; omega)
  have h7 := ct.ol
  have h8 := ct.nl
  rw [formO_eq]
  simp only [List.length_append]
  have a1 : (if o.kind = 1 then text (bstr o.name) else []).length ≤ 9 + 64 := by
    split
    · omega
    · simp
  have a2 : (if o.kind = 4 then offsF o.offs else []).length ≤ 9 + 18 * 64 := by
    split
    · unfold offsF; rw [List.length_append]; omega
    · simp
  omega
theorem frameO_len {o : Ord} (hr : OrdR o) (hc : chk o = true) : (frameO o).length = (formO o).length + 6 := by
  unfold frameO headF le4
  simp only [List.length_append, List.length_cons, List.length_nil]; omega
/-- orders that are read -/
structure OrdsIn (w : World) (v : Value) (ls : List Ord) (lvs : List Value) : Prop where
  val : ∃ p c, v = .slice p ls.length c
  l : ls.length = lvs.length
  at_ : ∀ i, i < ls.length → ∃ b o c, v = .slice (some ⟨b, o, none⟩) ls.length c ∧ b < w.heap.size ∧ ∀ j, j < 18 → w.cell? ⟨b, o + i * 18 + j, none⟩ = (ordCells (ls.getD i (zeroO 0)) (lvs.getD i undef))[j]?
  offs : ∀ i, i < ls.length → OffsIn w (lvs.getD i undef) (ls.getD i (zeroO 0)).offs
  len : ls.length ≤ 1099511627776
theorem OrdsIn.keep {w w' : World} {v : Value} {ls : List Ord} {lvs : List Value} (h : OrdsIn w v ls lvs) (hs : w.heap.size ≤ w'.heap.size) (h1 : ∀ b, v.ownBlock = some b → w'.heap[b]? = w.heap[b]?) (h2 : ∀ i, i < ls.length → 0 < (ls.getD i (zeroO 0)).offs.length → ∀ b, (lvs.getD i undef).ownBlock = some b → w'.heap[b]? = w.heap[b]?) : OrdsIn w' v ls lvs :=
  ⟨h.val, h.l, fun i hi => by
    obtain ⟨b, o, c, e, hb, hc⟩ := h.at_ i hi
    exact ⟨b, o, c, e, Nat.lt_of_lt_of_le hb hs, fun j hj => (World.cell?_of_block (a := ⟨b, o + i * 18 + j, none⟩) (h1 b (by rw [e]; rfl))).trans (hc j hj)⟩, fun i hi => (h.offs i hi).stays (fun h0 b hb => h2 i hi h0 b hb), h.len⟩
theorem OffsIn.blk {w : World} {v : Value} {l : List (Nat × Int)} (h : OffsIn w v l) (hl : 0 < l.length) : ∀ b, v.ownBlock = some b → b < w.heap.size := fun b hb => by
  obtain ⟨b', o, c, e, q, -⟩ := h.at_ 0 hl
  rw [e] at hb
  obtain rfl : b' = b := Option.some.inj hb
  exact World.block_lt_of_cell? w _ q
theorem OrdsIn.below {w w' : World} {v : Value} {ls : List Ord} {lvs : List Value} (h : OrdsIn w v ls lvs) (hb : Below w.heap.size w w') : OrdsIn w' v ls lvs :=
  ⟨h.val, h.l, fun i hi => by
    obtain ⟨b, o, c, e, hbl, hc⟩ := h.at_ i hi
    exact ⟨b, o, c, e, Nat.lt_of_lt_of_le hbl hb.size, fun j hj => (World.cell?_of_block (a := ⟨b, o + i * 18 + j, none⟩) (hb.block b hbl)).trans (hc j hj)⟩, fun i hi => (h.offs i hi).below hb, h.len⟩
/-- what a book's turn may write -/
structure KT (w w' : World) (kb : Nat) (v p : Value) : Prop where
  os : w'.os = w.os
  tape : w'.tape = w.tape
  output : w'.output = w.output
  size : w.heap.size ≤ w'.heap.size
  block : ∀ i, i < w.heap.size → i ≠ kb → v.ownBlock ≠ some i → p.ownBlock ≠ some i → w'.heap[i]? = w.heap[i]?
/-- orders that lie apart from a book -/
structure Apt (v : Value) (ls : List Ord) (lvs : List Value) (kb : Nat) (kv kp : Value) : Prop where
  a : ∀ b, v.ownBlock = some b → b ≠ kb ∧ kv.ownBlock ≠ some b ∧ kp.ownBlock ≠ some b
  o : ∀ i, i < ls.length → 0 < (ls.getD i (zeroO 0)).offs.length → ∀ b, (lvs.getD i undef).ownBlock = some b → b ≠ kb ∧ kv.ownBlock ≠ some b ∧ kp.ownBlock ≠ some b
theorem OrdsIn.turn {w w' : World} {v : Value} {ls : List Ord} {lvs : List Value} {kb : Nat} {kv kp : Value} (h : OrdsIn w v ls lvs) (ha : Apt v ls lvs kb kv kp) (k : KT w w' kb kv kp) (hn : 0 < ls.length) : OrdsIn w' v ls lvs := by
  refine h.keep k.size (fun b hb => ?_) (fun i hi h0 b hb => ?_)
  · obtain ⟨b', o, c, e, hlt, -⟩ := h.at_ 0 hn
    have hb2 := hb
    rw [e] at hb2
    obtain rfl : b' = b := Option.some.inj hb2
    have q := ha.a b' hb
    exact k.block b' hlt q.1 q.2.1 q.2.2
  · have q := ha.o i hi h0 b hb
    exact k.block b ((h.offs i hi).blk h0 b hb) q.1 q.2.1 q.2.2
def Nr (w : World) (v v' : Value) : Prop := ∀ k, v'.ownBlock = some k → v.ownBlock = some k ∨ w.heap.size ≤ k
theorem Nr.refl (w : World) (v : Value) : Nr w v v := fun k h => .inl h
theorem KT.of_below {w w' : World} {kb : Nat} {v p : Value} (h : Below w.heap.size w w') : KT w w' kb v p := ⟨h.os, h.tape, h.output, h.size, fun i hi _ _ _ => h.block i hi⟩
theorem KT.trans {w w1 w2 : World} {kb : Nat} {v p v1 p1 : Value} (h : KT w w1 kb v p) (k : KT w1 w2 kb v1 p1) (hv : Nr w v v1) (hp : Nr w p p1) : KT w w2 kb v p :=
  ⟨k.os.trans h.os, k.tape.trans h.tape, k.output.trans h.output, Nat.le_trans h.size k.size, fun i hi h1 h2 h3 => (k.block i (Nat.lt_of_lt_of_le hi h.size) h1 (fun e => by rcases hv i e with q | q; exact h2 q; omega) (fun e => by rcases hp i e with q | q; exact h3 q; omega)).trans (h.block i hi h1 h2 h3)⟩
theorem Nr.trans {w w1 : World} {v v1 v2 : Value} (h : Nr w v v1) (k : Nr w1 v1 v2) (hs : w.heap.size ≤ w1.heap.size) : Nr w v v2 := fun b hb => by
  rcases k b hb with q | q
  · exact h b q
  · exact .inr (by omega)
theorem KT.below {w0 w w' : World} {kb B : Nat} {v p : Value} (h : Below B w0 w) (k : KT w w' kb v p) (hk : B ≤ kb) (hv : ∀ r, v.ownBlock = some r → B ≤ r) (hp : ∀ r, p.ownBlock = some r → B ≤ r) (hs : B ≤ w.heap.size) : Below B w0 w' :=
  h.trans ⟨k.os, k.tape, k.output, k.size, fun i hi => k.block i (by omega) (by omega) (fun e => by have := hv i e; omega) (fun e => by have := hp i e; omega)⟩
end Go.Proofs.Ytalnipjaekpbhaa

namespace Go.Proofs.Ytalnipjaekpbhaa
open Go.ChangeShapes Go.WideShapes Go.ChangeAt Go.RowKit Go.Deep
set_option linter.unusedSimpArgs false
set_option linter.unusedVariables false

/-- append(row, things...), and where the row lies then -/
theorem wpList_append_n {P : Program} (w : World) {ops : Array Oper} {rest : List Oper} {o : Oper} {a : Act} {Q : Exit → Act → World → Prop} (hgd : o.guard = none) (s x : Operand) (t : TypeId)
    (ho : o.op = .call { callee := .builtin .append, args := #[s, x], argTypes := #[t, t] })
    (e : TypeId) (i : TypeInfo) (z : Value) (size bytes : Nat) (ht : P.underlying t = some (.slice e)) (hi : P.info? e = some i) (hz : i.zero = some z) (hsize : i.size = size) (hby : i.bytes = bytes) (hzs : z.cells.size = size) (hsz : 0 < size)
    (B : Nat) (v1 : Value) (n1 : Nat) (xs1 : List Value) (hs : a.eval s = v1) (own1 : w.ownsRow B e size v1 n1 xs1) (p : Option Addr) (n2 c2 : Nat) (xs2 : List Value) (hx : a.eval x = .slice p n2 c2) (hl2 : xs2.length = n2 * size) (hp : p = none → n2 = 0 ∧ c2 = 0) (hc : ∀ ad, p = some ad → ∀ j u, xs2[j]? = some u → w.cell? (ad.add j) = some u) (h1 : ∀ u ∈ xs2, u.oneCell' = true)
    (h63 : n1 + n2 ≤ maxLen) (hbytes : (n1 + n2) * bytes ≤ 140737488355328) (hB : B ≤ w.heap.size)
    (h : ∀ v' w', w'.ownsRow B e size v' (n1 + n2) (xs1 ++ xs2) → w.grownBy w' v1.ownBlock → Nr w v1 v' → wpList P ops Q rest (a.put o.dst v') w') : wpList P ops Q (o :: rest) a w := by
  have key : ∃ v' w', (Builtin.append_ #[t, t] o.type #[v1, .slice p n2 c2]).run P w = .ok v' w' ∧ w'.ownsRow B e size v' (n1 + n2) (xs1 ++ xs2) ∧ w.grownBy w' v1.ownBlock ∧ Nr w v1 v' := by
    cases p with
    | none =>
      obtain ⟨rfl, rfl⟩ := hp rfl
      have hx2 : xs2 = [] := List.length_eq_zero_iff.1 (by omega)
      subst hx2
      rcases own1.2 with ⟨rfl, rfl⟩ | ⟨g1, cap1, cur1, rfl, _, _, hle, _⟩
      · exact ⟨_, w, app_none ht hi _ _ _ (Nat.le_refl _) w, by simpa using own1, World.grownBy.refl w _, Nr.refl _ _⟩
      · exact ⟨_, w, app_none ht hi _ _ _ hle w, by simpa using own1, World.grownBy.refl w _, Nr.refl _ _⟩
    | some ad =>
      obtain ⟨v', w', q1, q2, q3, -, q5⟩ := run_append_own_at (P := P) w B t o.type e i z size bytes ht hi hz hsize hby hzs hsz v1 n1 xs1 own1 ad n2 c2 xs2 hl2 (hc ad rfl) h1 h63 hbytes hB
      refine ⟨v', w', q1, q2, q3, fun k hk => ?_⟩
      rcases q5 with q | q
      · exact .inl (by rw [← q]; exact hk)
      · rw [q] at hk
        have := Option.some.inj hk
        exact .inr (by omega)
  obtain ⟨v', w', q1, q2, q3, q4⟩ := key
  refine wpList_plain hgd fun K hK => ?_
  unfold Oper.wp execOp
  simp only [ho, resolve, invoke, builtin, Sem.run_bind, Sem.run_pure, Result.andThen_ok, List.map_toArray, List.map_cons, List.map_nil, hs, hx, q1]
  exact hK _ _ (h v' w' q2 q3 q4)
theorem set_box {w : World} {B b j : Nat} {e e2 : TypeId} {size n : Nat} {v u : Value} {xs : List Value} {cs : Array Value} (h : w.ownsRow B e size v n xs) (hb : w.heap[b]? = some (.cells cs e2)) (hne : e ≠ e2) : (w.setCell ⟨b, j, none⟩ u).ownsRow B e size v n xs :=
  own_same h (fun k hk _ => heap_setCell_other _ _ _ _ (fun e3 => own_ne_box h hb hne (by rw [hk]; exact congrArg some e3)))
theorem OrdsOwn.box {w : World} {B b j : Nat} {v u : Value} {os : List Ord} {vs : List Value} {cs : Array Value} (h : OrdsOwn w B v os vs) (hb : w.heap[b]? = some (.cells cs 86)) : OrdsOwn (w.setCell ⟨b, j, none⟩ u) B v os vs :=
  ⟨h.l, set_box h.row hb (by decide), fun i hi => set_box (h.offs i hi) hb (by decide)⟩
/-- one order more in a book -/
theorem append_turn {wr W4 WA w6 : World} {kb B : Nat} {OS : List Ord} {bs : List Nat} {v' p : Value} {vs' : List Value} (hk : KSt W4 kb B OS bs v' p vs') (h4 : Below wr.heap.size wr W4) (hA : Below W4.heap.size W4 WA) (hkw : kb < wr.heap.size) {L : Ord} {v5 : Value} (ho : WA.ownsRow B 93 2 v5 L.offs.length (flatF L.offs)) {g6 c6 : Nat} (h6 : w6.ownsRow B 29 18 (.slice (some ⟨g6, 0, none⟩) (OS.length + 1) c6) (OS.length + 1) (flatO OS vs' ++ ordCells L v5)) (hg : WA.grownBy w6 v'.ownBlock) (hgg : v'.ownBlock = some g6 ∨ g6 = WA.heap.size) :
    KSt (w6.setCell ⟨kb, 1, none⟩ (.slice (some ⟨g6, 0, none⟩) (OS.length + 1) c6)) kb B (OS ++ [L]) bs (.slice (some ⟨g6, 0, none⟩) (OS.length + 1) c6) p (vs' ++ [v5]) ∧ KT wr (w6.setCell ⟨kb, 1, none⟩ (.slice (some ⟨g6, 0, none⟩) (OS.length + 1) c6)) kb v' p ∧ Nr wr v' (.slice (some ⟨g6, 0, none⟩) (OS.length + 1) c6) ∧ ∀ (X n : Nat) (a : Value) (xs : List Value), wr.ownsRow X 5 1 a n xs → (w6.setCell ⟨kb, 1, none⟩ (.slice (some ⟨g6, 0, none⟩) (OS.length + 1) c6)).ownsRow X 5 1 a n xs := by
  have hkA := hk.below hA
  have hne : v'.ownBlock ≠ some kb := own_ne_box hkA.o.row hkA.hp (by decide)
  have hsA : wr.heap.size ≤ WA.heap.size := Nat.le_trans h4.size hA.size
  have hkb6 : w6.heap[kb]? = some (.cells #[.bool true, v', p] 86) := (hg.block kb (by omega) (fun e => hne e.symm)).trans hkA.hp
  have st : ∀ i, i ≠ kb → (w6.setCell ⟨kb, 1, none⟩ (.slice (some ⟨g6, 0, none⟩) (OS.length + 1) c6)).heap[i]? = w6.heap[i]? := fun i hi => heap_setCell_other _ _ _ _ hi
  have sz : (w6.setCell ⟨kb, 1, none⟩ (.slice (some ⟨g6, 0, none⟩) (OS.length + 1) c6)).heap.size = w6.heap.size := World.size_setCell _ _ _
  have bA : ∀ i, i < wr.heap.size → WA.heap[i]? = wr.heap[i]? := fun i hi => (hA.block i (Nat.lt_of_lt_of_le hi h4.size)).trans (h4.block i hi)
  refine ⟨⟨?_, (hkA.o.snoc ho h6 hg).box hkb6, set_box (own_apart hkA.o.row hkA.p_ (by decide) hg) hkb6 (by decide)⟩, ⟨hg.os.trans (hA.os.trans h4.os), hg.tape.trans (hA.tape.trans h4.tape), hg.output.trans (hA.output.trans h4.output), by rw [sz]; exact Nat.le_trans hsA hg.size, fun i hi h1 h2 _ => (st i h1).trans ((hg.block i (by omega) (fun e => h2 e.symm)).trans (bA i hi))⟩, fun k hkk => ?_, fun X n a xs hx => ?_⟩
  · rw [heap_setCell_same w6 kb 1 _ 86 _ hkb6]; rfl
  · have e : g6 = k := Option.some.inj hkk
    rcases hgg with q | q
    · exact .inl (by rw [q, e])
    · exact .inr (by omega)
  · have q : WA.ownsRow X 5 1 a n xs := own_same hx (fun k _ hlt => bA k hlt)
    exact set_box (own_apart hkA.o.row q (by decide) hg) hkb6 (by decide)
theorem bytes_turn {wr w8 : World} {kb B : Nat} {OS : List Ord} {bs fs : List Nat} {v' p p8 : Value} {vs' : List Value} (hk : KSt wr kb B OS bs v' p vs') (h8 : w8.ownsRow B 5 1 p8 (bs.length + fs.length) (u8L bs ++ u8L fs)) (hg : wr.grownBy w8 p.ownBlock) :
    KSt (w8.setCell ⟨kb, 2, none⟩ p8) kb B OS (bs ++ fs) v' p8 vs' ∧ KT wr (w8.setCell ⟨kb, 2, none⟩ p8) kb v' p := by
  have hlt := hk.lt
  have hne : p.ownBlock ≠ some kb := own_ne_box hk.p_ hk.hp (by decide)
  have hkb8 : w8.heap[kb]? = some (.cells #[.bool true, v', p] 86) := (hg.block kb hlt (fun e => hne e.symm)).trans hk.hp
  have st : ∀ i, i ≠ kb → (w8.setCell ⟨kb, 2, none⟩ p8).heap[i]? = w8.heap[i]? := fun i hi => heap_setCell_other _ _ _ _ hi
  have ho : OrdsOwn w8 B v' OS vs' := ⟨hk.o.l, own_apart hk.p_ hk.o.row (by decide) hg, fun i hi => own_apart hk.p_ (hk.o.offs i hi) (by decide) hg⟩
  refine ⟨⟨?_, ho.box hkb8, set_box (by rw [u8L_app, List.length_append]; exact h8) hkb8 (by decide)⟩, ⟨hg.os, hg.tape, hg.output, by rw [World.size_setCell]; exact hg.size, fun i hi h1 _ h3 => (st i h1).trans (hg.block i hi (fun e => h3 e.symm))⟩⟩
  rw [heap_setCell_same w8 kb 2 _ 86 _ hkb8]; rfl
theorem own_nil0 {w : World} {B n c : Nat} {e : TypeId} {size : Nat} {xs : List Value} (h : w.ownsRow B e size (.slice none n c) n xs) : n = 0 ∧ c = 0 := by
  rcases h.2 with ⟨h1, h2⟩ | ⟨g, cap, cur, h1, _⟩
  · injection h1 with _ h3 h4; exact ⟨h3, h4⟩
  · cases h1
theorem own_some8 {w : World} {B n c : Nat} {ad : Addr} {xs : List Value} (h : w.ownsRow B 5 1 (.slice (some ad) n c) n xs) : ∀ j u, xs[j]? = some u → w.cell? (ad.add j) = some u := by
  rcases h.2 with ⟨h1, h2⟩ | ⟨g, cap, cur, h1, _⟩
  · cases h1
  · injection h1 with h1 _ h3
    cases h1
    subst h3
    exact own_cells h
def OrdsOk (ls : List Ord) : Prop := ∀ i, i < ls.length → chk (ls.getD i (zeroO 0)) = true
def framesO (ls : List Ord) : List Nat := ls.flatMap frameO
theorem frames_take {ls : List Ord} {j : Nat} (h : j < ls.length) : framesO (ls.take (j + 1)) = framesO (ls.take j) ++ frameO (ls.getD j (zeroO 0)) := by
  unfold framesO
  rw [List.take_add_one, List.getElem?_eq_getElem h, List.flatMap_append, List.getD_eq_getElem?_getD, List.getElem?_eq_getElem h]
  simp
theorem take_snocO {ls : List Ord} {j : Nat} (h : j < ls.length) : ls.take (j + 1) = ls.take j ++ [ls.getD j (zeroO 0)] := by
  rw [List.take_add_one, List.getElem?_eq_getElem h, List.getD_eq_getElem?_getD, List.getElem?_eq_getElem h]; rfl
theorem frames_len {ls : List Ord} (h : ∀ o ∈ ls, chk o = true ∧ OrdR o) : (framesO ls).length ≤ 2006 * ls.length := by
  unfold framesO
  induction ls with
  | nil => simp
  | cons o ls ih =>
    have q := h o (List.mem_cons_self ..)
    have q1 := frameO_len q.2 q.1
    have q2 := formO_len q.2 q.1
    have q3 := ih (fun x hx => h x (List.mem_cons_of_mem _ hx))
    rw [List.flatMap_cons, List.length_append, List.length_cons]
    omega
theorem frames_len_take {ls : List Ord} (hr : ∀ o ∈ ls, OrdR o) {j : Nat} (hc : ∀ i, i < j → chk (ls.getD i (zeroO 0)) = true) (hj : j ≤ ls.length) : (framesO (ls.take j)).length ≤ 2006 * ls.length := by
  have q := frames_len (ls := ls.take j) (fun o ho => by
    obtain ⟨i, hi, rfl⟩ := List.mem_iff_getElem.1 ho
    have hi2 : i < j := by rw [List.length_take] at hi; omega
    rw [List.getElem_take]
    have h1 := hc i hi2
    rw [List.getD_eq_getElem?_getD, List.getElem?_eq_getElem (by omega)] at h1
    exact ⟨h1, hr _ (List.getElem_mem _)⟩)
  rw [List.length_take] at q
  have : min j ls.length ≤ ls.length := Nat.min_le_right _ _
  calc _ ≤ _ := q
    _ ≤ _ := Nat.mul_le_mul_left _ this
end Go.Proofs.Ytalnipjaekpbhaa

namespace Go.Proofs.Ytalnipjaekpbhaa
open Go.ChangeShapes Go.WideShapes Go.ChangeAt Go.RowKit Go.Deep
set_option linter.unusedSimpArgs false
set_option linter.unusedVariables false

theorem EqO.symm {a b : Ord} (h : EqO a b) : EqO b a := ⟨h.k.symm, h.n.symm, h.f.symm, fun i hi => (h.j i hi).symm⟩
theorem EqO.trans {a b c : Ord} (h : EqO a b) (g : EqO b c) : EqO a c := ⟨h.k.trans g.k, h.n.trans g.n, h.f.trans g.f, fun i hi => (h.j i hi).trans (g.j i hi)⟩
theorem EqO.of_same {a b : Ord} (ha : OrdR a) (hb : OrdR b) (h : sameO a b = true) : EqO a b := by
  obtain ⟨h1, h2, h3, h4⟩ := (sameO_iff a b).1 h
  exact ⟨h1, bstr_inj ha.nm hb.nm h2, h4, h3⟩
/-- orders that are the same have one form -/
theorem EqO.form {a b : Ord} (h : EqO a b) : formO a = formO b := by
  have e : (numL a.kind).flatMap (numF a) = (numL b.kind).flatMap (numF b) := by
    rw [h.k, List.flatMap_def, List.flatMap_def]
    congr 1
    refine List.map_congr_left (fun j hj => ?_)
    unfold numF
    rw [h.j j (numL_sub _ j hj)]
  rw [formO_eq, formO_eq, e, h.k, h.n, h.f]
/-- a form tells its order -/
theorem form_tells {a b : Ord} (ca : chk a = true) (cb : chk b = true) (ra : OrdR a) (rb : OrdR b) (h : formO a = formO b) : EqO a b := by
  obtain ⟨x, hx, ex⟩ := readO_form ca ra
  obtain ⟨y, hy, ey⟩ := readO_form cb rb
  rw [h, hy] at hx
  obtain rfl : y = x := Option.some.inj hx
  exact ex.symm.trans ey
theorem form_same {a b : Ord} (ca : chk a = true) (cb : chk b = true) (ra : OrdR a) (rb : OrdR b) : decide (formO a = formO b) = sameO a b := by
  rw [Bool.eq_iff_iff, decide_eq_true_eq]
  exact ⟨fun h => (form_tells ca cb ra rb h).same, fun h => (EqO.of_same ra rb h).form⟩
theorem headF_len (f : List Nat) : (headF f).length = f.length + 2 := by unfold headF; simp
theorem frame_form {a b : Ord} (h : frameO a = frameO b) : formO a = formO b := by
  have h1 : ∀ f : List Nat, ((headF f) ++ le4 (crc (headF f))).length = f.length + 6 := fun f => by
    rw [List.length_append, headF_len]; unfold le4; simp
  have hl : (formO a).length = (formO b).length := by
    have q := congrArg List.length h
    unfold frameO at q
    rw [h1, h1] at q
    omega
  have q := congrArg (fun l => (l.drop 2).take (formO a).length) h
  have e : ∀ o : Ord, ((frameO o).drop 2).take (formO o).length = formO o := fun o => by
    unfold frameO headF
    simp
  have q2 : ((frameO a).drop 2).take (formO a).length = ((frameO b).drop 2).take (formO a).length := q
  rw [e a, hl, e b] at q2
  exact q2
theorem frame_same {a b : Ord} (ca : chk a = true) (cb : chk b = true) (ra : OrdR a) (rb : OrdR b) : decide (frameO a = frameO b) = sameO a b := by
  rw [← form_same ca cb ra rb, decide_eq_decide]
  exact ⟨frame_form, fun h => by unfold frameO; rw [h]⟩
theorem frameO_lt {o : Ord} (hr : OrdR o) (hc : chk o = true) : ∀ b ∈ frameO o, b < 256 := by
  have h1 := formO_lt hr ((chk_iff o).1 hc).k1 hc
  intro b hb
  unfold frameO at hb
  rcases List.mem_append.1 hb with hb | hb
  · unfold headF at hb
    rcases List.mem_append.1 hb with hb | hb
    · simp at hb; omega
    · exact h1 b hb
  · unfold le4 at hb
    simp at hb
    omega
end Go.Proofs.Ytalnipjaekpbhaa

namespace Go.Proofs.Ytalnipjaekpbhaa
open Go.ChangeShapes Go.WideShapes Go.ChangeAt Go.RowKit Go.Deep
set_option linter.unusedSimpArgs false
set_option linter.unusedVariables false

theorem flatO_at : ∀ (os : List Ord) (vs : List Value) (n j : Nat), os.length = vs.length → n < os.length → j < 18 → (flatO os vs)[n * 18 + j]? = (ordCells (os.getD n (zeroO 0)) (vs.getD n undef))[j]?
  | [], _, n, j, _, h, _ => by cases h
  | o :: os, [], n, j, h, _, _ => by cases h
  | o :: os, v :: vs, 0, j, _, _, hj => by
    show (ordCells o v ++ flatO os vs)[0 * 18 + j]? = _
    rw [Nat.zero_mul, Nat.zero_add, List.getElem?_append_left (by rw [ordCells_len]; exact hj)]; rfl
  | o :: os, v :: vs, n + 1, j, h, hn, hj => by
    have q := flatO_at os vs n j (by simpa using h) (by simpa using hn) hj
    show (ordCells o v ++ flatO os vs)[(n + 1) * 18 + j]? = _
    rw [List.getElem?_append_right (by rw [ordCells_len]; omega), ordCells_len, show (n + 1) * 18 + j - 18 = n * 18 + j by omega, q]
    simp [List.getD_eq_getElem?_getD]
theorem OrdsIn.of_own {w : World} {B : Nat} {v : Value} {os : List Ord} {vs : List Value} (h : OrdsOwn w B v os vs) (hr : ∀ o ∈ os, OrdR o ∧ o.offs.length ≤ 64) (hl : os.length ≤ 1099511627776) : OrdsIn w v os vs := by
  refine ⟨own_any h.row, h.l, fun i hi => ?_, fun i hi => ?_, hl⟩
  · obtain ⟨g, c, rfl, -, -⟩ := h.row.form (by omega)
    refine ⟨g, 0, c, rfl, (h.row.lt g rfl).2, fun j hj => ?_⟩
    rw [Nat.zero_add, h.row.cellAt (i * 18 + j) (by omega)]
    exact flatO_at os vs i j h.l hi hj
  · have q := hr (os.getD i (zeroO 0)) (by rw [List.getD_eq_getElem?_getD, List.getElem?_eq_getElem hi]; exact List.getElem_mem hi)
    exact OffsIn.of_own (h.offs i hi) (fun x hx => (q.1.o1 x hx).1) (by have := q.2; omega)
set_option maxRecDepth 100000 in
set_option maxHeartbeats 2000000 in
theorem Order_yes {w : World} {kb B : Nat} {os : List Ord} {bs : List Nat} {v p : Value} {vs : List Value} (h : KSt w kb B os bs v p vs) (hr : ∀ o ∈ os, OrdR o ∧ o.offs.length ≤ 64) (hl : os.length ≤ 1099511627776) (n : Nat) (hn : n < os.length) : Calls Try.prog 41 #[.pointer (some ⟨kb, 0, none⟩), .int .i64 (n : Int)] w fun e w' => ∃ v', e = .returned (.tuple #[ordV (os.getD n (zeroO 0)) v', .bool true]) ∧ w'.ownsRow w.heap.size 93 2 v' (os.getD n (zeroO 0)).offs.length (flatF (os.getD n (zeroO 0)).offs) ∧ Below w.heap.size w w' := by
  obtain ⟨W, hW⟩ : ∃ W, W = w.alloc (.cells #[Value.int .i64 0, .string ⟨#[]⟩, .int .i64 0, .int .i64 0, .int .i64 0, .int .i64 0, .int .i64 0, .int .i64 0, .int .i64 0, .int .i64 0, .int .i64 0, .int .i64 0, .int .i64 0, .int .i64 0, .int .i64 0, .int .i64 0, .slice none 0 0, .int .i64 0] 29) := ⟨_, rfl⟩
  have hb0 : Below w.heap.size w W := by rw [hW]; exact (Below.refl _ _).alloc (Nat.le_refl _) _
  have th : W.there w.heap.size 0 18 := by rw [hW]; exact (box_made w (zeroO 0) (.slice none 0 0)).there
  have hk := h.below hb0
  obtain ⟨c0, c1, c2⟩ := hk.cells
  have CN := hide (none_k c0)
  have hin := OrdsIn.of_own hk.o hr hl
  obtain ⟨b, off, c, e1, hbl, hcell⟩ := hin.at_ n hn
  subst e1
  obtain ⟨L, hL⟩ : ∃ L, L = os.getD n (zeroO 0) := ⟨_, rfl⟩
  obtain ⟨lv, hlv⟩ : ∃ L, L = vs.getD n undef := ⟨_, rfl⟩
  have hoin := hin.offs n hn
  rw [← hL, ← hlv] at hcell hoin
  rw [← hL]
  have RL := hide (show W.rangeAt b (off + n * 18) (ordCells L lv) from fun q u hu => by
    have hq := (List.getElem?_eq_some_iff.1 hu).1
    rw [ordCells_len] at hq
    rw [hcell q hq]; exact hu)
  have CO := owned_c L lv W hoin
  unfold ordV at CO
  have CX := hide CO
  have hnI : (n : Int) < (os.length : Int) := by omega
  have hn0 : (0 : Int) ≤ (n : Int) := by omega
  have d2 : decide ((os.length : Int) ≤ (n : Int)) = false := decide_eq_false (by omega)
  have d3 : decide ((n : Int) < 0) = false := decide_eq_false (by omega)
  have HW := hide hW
  have HB0 := hide hb0
  have TH := hide th
  have ROW := hide (show (Value.slice (some ⟨b, off, none⟩) os.length c).ownBlock = some b from rfl)
  clear hW hb0 th h hk hin hcell hoin hlv hL CO hr
  go_enter Try.func41, Try.ntmps41
  go_upto_region 1 with fail
  rw [← HW.out]
  go_wp2_with (first
    | (go_at_call 73; (apply Calls.mono; focus (exact CN.out)); rintro e wz ⟨rfl, rfl⟩)
    | (refine wpList_load_mid rfl 29 _ rfl b (off + n * 18) rfl (ordCells L lv) _ ?_ Try.underlying29 rfl ?_ ?_; exact RL.out; (rw [ordCells_len]; kernel_rfl))
    | (go_at_call 72; (apply Calls.mono; focus (exact CX.out)); rintro e w5 ⟨v5, rfl, o5, hb5⟩; obtain ⟨p5, c5, rfl⟩ := own_any o5; have O5 := hide o5; have HB5 := hide hb5; have T5 := hide (there_stays TH.out (hb5.block _ (there_lt TH.out (by decide)))); have HO1 := hide (show (ordCells L (.slice p5 L.offs.length c5)).toArray.all (fun x => x.oneCell') = true by kernel_rfl); clear o5 hb5)
    | (refine wpList_store_mid rfl 29 _ _ rfl w.heap.size 0 (ordCells L (.slice p5 L.offs.length c5)).toArray rfl ?_ ?_ ?_ ?_ ?_; exact rfl; exact T5.out; kernel_rfl; exact HO1.out))
  have hl2 := run_loadVar_mid (P := Try.prog) (w5.setCells w.heap.size 0 (ordCells L (.slice p5 L.offs.length c5))) w.heap.size 0 29 (ordCells L (.slice p5 L.offs.length c5)) _ (World.rangeAt_setCells_same _ _ _ _ T5.out) Try.underlying29 rfl (by rw [ordCells_len]; kernel_rfl)
  refine bodyPost_ret (v := .tuple #[ordV L (.slice p5 L.offs.length c5), .bool true]) (results_ct rfl rfl hl2 rfl) rfl ⟨_, rfl, ?_, below_sets (Nat.le_refl _) _ _ _ (bstep HB0.out HB5.out)⟩
  exact own_lower (own_same O5.out (fun q hq _ => heap_sets_ne (by have := (O5.out.lt q hq).1; have := there_lt TH.out (by decide); omega) _ _ _)) HB0.out.size
end Go.Proofs.Ytalnipjaekpbhaa

namespace Go.Proofs.Ytalnipjaekpbhaa
open Go.ChangeShapes Go.WideShapes Go.ChangeAt Go.RowKit Go.Deep
set_option linter.unusedSimpArgs false
set_option linter.unusedVariables false

theorem eql30b (a : Addr) (n cap : Nat) (w : World) : Sem.run Try.prog (binOp .eql 30 (.slice (some a) n cap) (.slice none 0 0)) w = .ok (.bool false) w := by kernel_rfl
theorem eql30bn (w : World) : Sem.run Try.prog (binOp .eql 30 (.slice none 0 0) (.slice none 0 0)) w = .ok (.bool true) w := by kernel_rfl
set_option maxRecDepth 100000 in
set_option maxHeartbeats 2000000 in
theorem BClone_own {w : World} {B : Nat} {v : Value} {l : List Nat} (h : w.ownsRow B 5 1 v l.length (u8L l)) (hl : l.length ≤ 100000000000) : Calls Try.prog 74 #[v] w fun e w' => ∃ v', e = .returned v' ∧ w'.ownsRow w.heap.size 5 1 v' l.length (u8L l) ∧ Below w.heap.size w w' := by
  obtain ⟨i5, hi5, hz5, hs5, hb5⟩ := info_parts info5
  obtain ⟨p, c, hv⟩ := own_any h
  subst hv
  cases p with
  | none =>
    obtain ⟨h0, rfl⟩ := own_nil0 h
    obtain rfl : l = [] := List.length_eq_zero_iff.1 h0
    have q := eql30bn
    clear h h0 hl
    go_enter Try.func74, Try.ntmps74
    go_wp2_with fail
    refine bodyPost_ret (v := .slice none 0 0) (by simp [results, Try.f74, go_sem]) rfl ⟨_, rfl, ⟨rfl, .inl ⟨rfl, rfl⟩⟩, Below.refl _ _⟩
  | some ad =>
    have q := eql30b ad l.length c
    have H := hide h
    clear h
    go_enter Try.func74, Try.ntmps74
    go_wp2_with (at_builtin; refine wpList_append_at _ rfl _ _ 30 rfl 5 i5 (.int .u8 0) 1 1 Try.underlying30 hi5 hz5 hs5 hb5 rfl (by decide) w.heap.size (.slice (some ⟨w.heap.size, 0, none⟩) 0 0) 0 [] rfl (made_row w 5 1) (some ad) l.length c (u8L l) rfl (by rw [u8L_len, Nat.mul_one]) (fun e => by cases e) (fun ad2 e => by cases e; exact own_some8 (own_below H.out ((Below.refl _ _).alloc (Nat.le_refl _) _))) (u8_one l) (by unfold maxLen; omega) (by omega) (by rw [World.size_alloc]; omega) ?_; intro v7 w7 h7 g7 _; obtain ⟨p7, c7, rfl⟩ := own_any h7; have H7 := hide h7; have G7 := hide g7; clear h7 g7)
    refine bodyPost_ret (v := .slice p7 (0 + l.length) c7) (by simp [results, Try.f74, go_sem]) rfl ⟨_, rfl, ?_, ?_⟩
    · have q2 := H7.out
      rw [List.nil_append] at q2
      rw [Nat.zero_add] at q2 ⊢
      exact q2
    · exact ((Below.refl w.heap.size w).alloc (Nat.le_refl _) _).grown G7.out (by rw [World.size_alloc]; omega) (fun r e => by have e2 : w.heap.size = r := Option.some.inj e; omega)
set_option maxRecDepth 100000 in
set_option maxHeartbeats 2000000 in
theorem Bytes_k {w : World} {kb B : Nat} {os : List Ord} {bs : List Nat} {v p : Value} {vs : List Value} (h : KSt w kb B os bs v p vs) (hl : bs.length ≤ 100000000000) : Calls Try.prog 29 #[.pointer (some ⟨kb, 0, none⟩)] w fun e w' => ∃ v', e = .returned v' ∧ w'.ownsRow w.heap.size 5 1 v' bs.length (u8L bs) ∧ Below w.heap.size w w' := by
  obtain ⟨c0, c1, c2⟩ := h.cells
  have CN := hide (none_k c0)
  have CB := hide (BClone_own h.p_ hl)
  clear h
  go_enter Try.func29, Try.ntmps29
  go_wp2_with (first
    | (go_at_call 73; (apply Calls.mono; focus (exact CN.out)); rintro e wz ⟨rfl, rfl⟩)
    | (go_at_call 74; (apply Calls.mono; focus (exact CB.out)); rintro e w2 ⟨v2, rfl, o2, hb2⟩; have O2 := hide o2; have HB2 := hide hb2; clear o2 hb2))
  refine bodyPost_ret (v := v2) (by simp [results, Try.f29, go_sem]) rfl ⟨v2, rfl, O2.out, HB2.out⟩
end Go.Proofs.Ytalnipjaekpbhaa

