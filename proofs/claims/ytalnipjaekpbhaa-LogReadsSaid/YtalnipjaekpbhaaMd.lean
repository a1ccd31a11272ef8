/- Contracts of the layer's functions, each proved once, in the order in which they are used. No condition beyond each theorem's own. -/
import Derived.Test.YtalnipjaekpbhaaMc
import Derived.Deep.AppendLies
import Derived.Maps.AppendAt
import Derived.Deep.OwnRows
import Derived.Deep.MidRow
import Derived.Deep.CutRange
namespace Go.Proofs.Ytalnipjaekpbhaa
open Go.ChangeShapes Go.WideShapes Go.ChangeAt Go.RowKit Go.Deep
set_option linter.unusedSimpArgs false
set_option linter.unusedVariables false

theorem info93 : (Try.prog.info? 93).map (fun i => (i.zero, i.size, i.bytes)) = some (some (.agg #[.int .u32 0, .int .i64 0]), 2, 16) := by kernel_rfl
def offV (o : Nat × Int) : List Value := [.int .u32 (o.1 : Int), .int .i64 o.2]
def flatF (l : List (Nat × Int)) : List Value := l.flatMap offV
theorem flatF_len (l : List (Nat × Int)) : (flatF l).length = l.length * 2 := by
  induction l with
  | nil => rfl
  | cons a l ih => show (offV a ++ flatF l).length = _; rw [List.length_append, ih, List.length_cons]; show 2 + _ = _; omega
theorem flatF_app (l m : List (Nat × Int)) : flatF (l ++ m) = flatF l ++ flatF m := List.flatMap_append
theorem flatF_at (l : List (Nat × Int)) (j : Nat) (hj : j < l.length) : (flatF l)[j * 2]? = some (.int .u32 ((l.getD j (0, 0)).1 : Int)) ∧ (flatF l)[j * 2 + 1]? = some (.int .i64 (l.getD j (0, 0)).2) := by
  induction l generalizing j with
  | nil => cases hj
  | cons a l ih =>
    cases j with
    | zero => exact ⟨rfl, rfl⟩
    | succ j =>
      have q := ih j (by simpa using hj)
      rw [show (j + 1) * 2 = j * 2 + 2 by omega, show j * 2 + 2 + 1 = j * 2 + 1 + 2 by omega]
      exact q
theorem flatF_one (l : List (Nat × Int)) : ∀ u ∈ flatF l, u.oneCell' = true := fun u hu => by
  unfold flatF at hu
  rw [List.mem_flatMap] at hu
  obtain ⟨o, -, hu⟩ := hu
  simp [offV] at hu
  rcases hu with rfl | rfl <;> rfl
theorem flatF_cell {w : World} {b o : Nat} {l : List (Nat × Int)} (h : ∀ j, j < l.length → w.cell? ⟨b, o + j * 2, none⟩ = some (.int .u32 ((l.getD j (0, 0)).1 : Int)) ∧ w.cell? ⟨b, o + j * 2 + 1, none⟩ = some (.int .i64 (l.getD j (0, 0)).2)) : ∀ j u, (flatF l)[j]? = some u → w.cell? ⟨b, o + j, none⟩ = some u := by
  intro j u hu
  have hj := (List.getElem?_eq_some_iff.1 hu).1
  rw [flatF_len] at hj
  obtain ⟨q, rfl | rfl⟩ : ∃ q, j = q * 2 ∨ j = q * 2 + 1 := ⟨j / 2, by omega⟩
  · rw [(flatF_at l q (by omega)).1] at hu
    rw [← hu]; exact (h q (by omega)).1
  · rw [(flatF_at l q (by omega)).2] at hu
    rw [← hu, show o + (q * 2 + 1) = o + q * 2 + 1 by omega]; exact (h q (by omega)).2
theorem addr_add (b off j : Nat) : (⟨b, off, none⟩ : Addr).add j = ⟨b, off + j, none⟩ := Addr.add_lit b off j
theorem OffsIn.of_own {w : World} {B : Nat} {v : Value} {l : List (Nat × Int)} (h : w.ownsRow B 93 2 v l.length (flatF l)) (h32 : ∀ x ∈ l, x.1 < 4294967296) (hl : l.length ≤ 4398046511104) : OffsIn w v l := by
  refine ⟨own_any h, fun j hj => ?_, h32, hl, fun n c e => ?_⟩
  · obtain ⟨g, c, rfl, -, -⟩ := h.form (by omega)
    have q := flatF_at l j hj
    exact ⟨g, 0, c, rfl, by rw [Nat.zero_add, h.cellAt (j * 2) (by omega)]; exact q.1, by rw [Nat.zero_add, h.cellAt (j * 2 + 1) (by omega)]; exact q.2⟩
  · rcases h.2 with ⟨rfl, _⟩ | ⟨g, cap, cur, rfl, _⟩
    · injection e with _ _ e; exact e.symm
    · cases e
/-- append(row, things...): the things lie where they will, none of them too -/
theorem wpList_append_at {P : Program} (w : World) {ops : Array Oper} {rest : List Oper} {o : Oper} {a : Act} {Q : Exit → Act → World → Prop} (hgd : o.guard = none) (s x : Operand) (t : TypeId)
    (ho : o.op = .call { callee := .builtin .append, args := #[s, x], argTypes := #[t, t] })
    (e : TypeId) (i : TypeInfo) (z : Value) (size bytes : Nat) (ht : P.underlying t = some (.slice e)) (hi : P.info? e = some i) (hz : i.zero = some z) (hsize : i.size = size) (hby : i.bytes = bytes) (hzs : z.cells.size = size) (hsz : 0 < size)
    (B : Nat) (v1 : Value) (n1 : Nat) (xs1 : List Value) (hs : a.eval s = v1) (own1 : w.ownsRow B e size v1 n1 xs1) (p : Option Addr) (n2 c2 : Nat) (xs2 : List Value) (hx : a.eval x = .slice p n2 c2) (hl2 : xs2.length = n2 * size) (hp : p = none → n2 = 0 ∧ c2 = 0) (hc : ∀ ad, p = some ad → ∀ j u, xs2[j]? = some u → w.cell? (ad.add j) = some u) (h1 : ∀ u ∈ xs2, u.oneCell' = true)
    (h63 : n1 + n2 ≤ maxLen) (hbytes : (n1 + n2) * bytes ≤ 140737488355328) (hB : B ≤ w.heap.size)
    (h : ∀ v' w', w'.ownsRow B e size v' (n1 + n2) (xs1 ++ xs2) → w.grownBy w' v1.ownBlock → (v' = .slice none 0 0 → v1 = .slice none 0 0) → wpList P ops Q rest (a.put o.dst v') w') : wpList P ops Q (o :: rest) a w := by
  have key : ∃ v' w', (Builtin.append_ #[t, t] o.type #[v1, .slice p n2 c2]).run P w = .ok v' w' ∧ w'.ownsRow B e size v' (n1 + n2) (xs1 ++ xs2) ∧ w.grownBy w' v1.ownBlock ∧ (v' = .slice none 0 0 → v1 = .slice none 0 0) := by
    cases p with
    | none =>
      obtain ⟨rfl, rfl⟩ := hp rfl
      have hx2 : xs2 = [] := List.length_eq_zero_iff.1 (by omega)
      subst hx2
      rcases own1.2 with ⟨rfl, rfl⟩ | ⟨g1, cap1, cur1, rfl, _, _, hle, _⟩
      · exact ⟨_, w, app_none ht hi _ _ _ (Nat.le_refl _) w, by simpa using own1, World.grownBy.refl w _, fun h => h⟩
      · exact ⟨_, w, app_none ht hi _ _ _ hle w, by simpa using own1, World.grownBy.refl w _, fun h => h⟩
    | some ad =>
      obtain ⟨v', w', q1, q2, q3, q4, -⟩ := run_append_own_at (P := P) w B t o.type e i z size bytes ht hi hz hsize hby hzs hsz v1 n1 xs1 own1 ad n2 c2 xs2 hl2 (hc ad rfl) h1 h63 hbytes hB
      exact ⟨v', w', q1, q2, q3, fun e => (q4.1 e).1⟩
  obtain ⟨v', w', q1, q2, q3, q4⟩ := key
  refine wpList_plain hgd fun K hK => ?_
  unfold Oper.wp execOp
  simp only [ho, resolve, invoke, builtin, Sem.run_bind, Sem.run_pure, Result.andThen_ok, List.map_toArray, List.map_cons, List.map_nil, hs, hx, q1]
  exact hK _ _ (h v' w' q2 q3 q4)
theorem eql27 (a : Addr) (n cap : Nat) (w : World) : Sem.run Try.prog (binOp .eql 27 (.slice (some a) n cap) (.slice none 0 0)) w = .ok (.bool false) w := by kernel_rfl
theorem eql27n (w : World) : Sem.run Try.prog (binOp .eql 27 (.slice none 0 0) (.slice none 0 0)) w = .ok (.bool true) w := by kernel_rfl
theorem made_row (w : World) (e : TypeId) (size : Nat) : (w.alloc (.cells #[] e)).ownsRow w.heap.size e size (.slice (some ⟨w.heap.size, 0, none⟩) 0 0) 0 [] := World.ownsRow_lit (base := w.heap.size) (e := e) (size := size) w #[] 0 (Nat.le_refl _) (by decide) (by simp)
set_option maxRecDepth 100000 in
set_option maxHeartbeats 4000000 in
theorem CloneO_c (v : Value) (l : List (Nat × Int)) (w : World) (h : OffsIn w v l) : Calls Try.prog 82 #[v] w fun e w' => ∃ v', e = .returned v' ∧ w'.ownsRow w.heap.size 93 2 v' l.length (flatF l) ∧ Below w.heap.size w w' := by
  have H := hide h
  obtain ⟨p, c, rfl⟩ := h.val
  have hl := h.len
  have hnil := h.nil
  clear h
  cases p with
  | none =>
    have hl0 : l.length = 0 := by
      rcases Nat.eq_zero_or_pos l.length with h0 | h0
      · exact h0
      · obtain ⟨b, o, c, e, -⟩ := H.out.at_ 0 h0; cases e
    obtain rfl := List.length_eq_zero_iff.1 hl0
    obtain rfl := hnil _ _ rfl
    have Q := eql27n
    go_enter Try.func82, Try.ntmps82
    go_wp2
    refine bodyPost_ret (v := .slice none 0 0) (by simp [results, Try.f82, go_sem]) rfl ⟨_, rfl, World.ownsRow_nil _ _ _ _, Below.refl _ _⟩
  | some ad =>
    have Q := eql27
    obtain ⟨i93, hi93, hz93, hs93, hb93⟩ := info_parts info93
    have HC := hide (show ∀ V, Below w.heap.size w V → ∀ j u, (flatF l)[j]? = some u → V.cell? (ad.add j) = some u from fun V hV j u hu => by
      have hj := (List.getElem?_eq_some_iff.1 hu).1
      rw [flatF_len] at hj
      obtain ⟨b, o, c', e, -⟩ := (H.out.below hV).at_ 0 (by omega)
      injection e with e _ _
      injection e with e
      subst e
      rw [addr_add]
      refine flatF_cell (l := l) (fun i hi => ?_) j u hu
      obtain ⟨b', o', c2, e2, q1, q2⟩ := (H.out.below hV).at_ i hi
      injection e2 with e2 _ _
      injection e2 with e2
      injection e2 with e3 e4
      subst e3 e4
      exact ⟨q1, q2⟩)
    go_enter Try.func82, Try.ntmps82
    go_wp2_with (at_builtin; refine wpList_append_at _ rfl _ _ 27 rfl 93 i93 (.agg #[.int .u32 0, .int .i64 0]) 2 16 Try.underlying27 hi93 hz93 hs93 hb93 rfl (by decide) w.heap.size (.slice (some ⟨w.heap.size, 0, none⟩) 0 0) 0 [] rfl (made_row w 93 2) (some ad) l.length c (flatF l) rfl (flatF_len l) (fun e => by cases e) (fun ad' e => by cases e; exact HC.out _ ((Below.refl _ _).alloc (Nat.le_refl _) _)) (flatF_one l) (by unfold maxLen; omega) (by omega) (by simp) ?_; intro v4 w4 own4 hg4 hn4; have HO4 := hide own4; have HG4 := hide hg4; clear own4 hg4 hn4)
    refine bodyPost_ret (v := v4) (by simp [results, Try.f82, go_sem]) rfl ⟨_, rfl, ?_, ?_⟩
    · have q := HO4.out
      rw [Nat.zero_add, List.nil_append] at q
      exact q
    · exact ((Below.refl w.heap.size w).alloc (Nat.le_refl _) (.cells #[] 93)).grown HG4.out (by simp) (fun k hk => by
        have q' : w.heap.size = k := Option.some.inj hk
        omega)
end Go.Proofs.Ytalnipjaekpbhaa

namespace Go.Proofs.Ytalnipjaekpbhaa
open Go.ChangeShapes Go.WideShapes Go.ChangeAt Go.RowKit Go.Deep
set_option linter.unusedSimpArgs false
set_option linter.unusedVariables false

/-- a writer that a call has made, under way -/
structure WSt (w0 w : World) (g : Nat) (v : Value) (bs : List Nat) : Prop where
  o : WObj w g v bs
  g0 : w0.heap.size ≤ g
  v0 : ∀ k, v.ownBlock = some k → w0.heap.size ≤ k
  b : Below w0.heap.size w0 w
/-- a block that is none of the writer's -/
def Sep (w : World) (g : Nat) (v : Value) (b : Nat) : Prop := b < w.heap.size ∧ b ≠ g ∧ v.ownBlock ≠ some b
/-- what is not the writer's stays -/
def Kp (g : Nat) (w : World) (v : Value) (w' : World) (v' : Value) : Prop := ∀ b, Sep w g v b → Sep w' g v' b ∧ w'.heap[b]? = w.heap[b]?
theorem Kp.refl (g : Nat) (w : World) (v : Value) : Kp g w v w v := fun b h => ⟨h, rfl⟩
theorem Kp.trans {g : Nat} {w w1 w2 : World} {v v1 v2 : Value} (h : Kp g w v w1 v1) (k : Kp g w1 v1 w2 v2) : Kp g w v w2 v2 := fun b hb => ⟨(k b (h b hb).1).1, (k b (h b hb).1).2.trans (h b hb).2⟩
theorem Kp.of_below {g : Nat} {w w' : World} {v : Value} (h : Below w.heap.size w w') : Kp g w v w' v := fun b hb => ⟨⟨Nat.lt_of_lt_of_le hb.1 h.size, hb.2⟩, h.block b hb.1⟩
theorem Kp.of_keep {g : Nat} {w w' : World} {v v' : Value} (hk : WKeep g v w w') (hn : Near w v v') : Kp g w v w' v' := fun b hb => by
  obtain ⟨h1, h2, h3⟩ := hb
  refine ⟨⟨Nat.lt_of_lt_of_le h1 hk.2.2.2.1, h2, ?_⟩, hk.2.2.2.2 b h1 h2 (fun e => h3 e.symm)⟩
  rcases hn with q | ⟨k, q, hk⟩
  · rw [q]; exact h3
  · rw [q]; intro e; cases e; omega
theorem WSt.below {w0 w w' : World} {g : Nat} {v : Value} {bs : List Nat} (h : WSt w0 w g v bs) (hb : Below w.heap.size w w') : WSt w0 w' g v bs := ⟨h.o.below hb, h.g0, h.v0, bstep h.b hb⟩
theorem WSt.step {w0 w w' : World} {g : Nat} {v v' : Value} {bs bs' : List Nat} (h : WSt w0 w g v bs) (ho : WObj w' g v' bs') (hk : WKeep g v w w') (hn : Near w v v') : WSt w0 w' g v' bs' := by
  have z := h.b.size
  refine ⟨ho, h.g0, fun k e => ?_, ⟨hk.1.trans h.b.os, hk.2.1.trans h.b.tape, hk.2.2.1.trans h.b.output, Nat.le_trans z hk.2.2.2.1, fun b hb => (hk.2.2.2.2 b (by omega) (by have := h.g0; omega) (fun e => by have := h.v0 b e.symm; omega)).trans (h.b.block b hb)⟩⟩
  rcases hn with q | ⟨k', q, hk'⟩
  · exact h.v0 k (by rw [← q]; exact e)
  · rw [q] at e; cases e; omega
theorem Num_w {w0 w : World} {g : Nat} {v : Value} {bs : List Nat} (h : WSt w0 w g v bs) (x : Nat) (hl : bs.length ≤ 8796093022208) (hx : x < 18446744073709551616) : Calls Try.prog 43 #[.pointer (some ⟨g, 0, none⟩), .int .u64 (x : Int)] w fun e w' => ∃ v', e = .returned (.int .i64 0) ∧ WSt w0 w' g v' (bs ++ form x) ∧ Kp g w v w' v' :=
  (Number_c g v bs x w h.o hl hx).mono (fun e w' ⟨v', he, ho, hk, hn⟩ => ⟨v', he, h.step ho hk hn, Kp.of_keep hk hn⟩)
theorem Text_w {w0 w : World} {g : Nat} {v : Value} {bs : List Nat} (h : WSt w0 w g v bs) (s : ByteArray) (hl : bs.length ≤ 8796093022208) (hs : s.size ≤ 1099511627776) : Calls Try.prog 44 #[.pointer (some ⟨g, 0, none⟩), .string s] w fun e w' => ∃ v', e = .returned (.int .i64 0) ∧ WSt w0 w' g v' (bs ++ text s) ∧ Kp g w v w' v' := by
  rcases Nat.eq_zero_or_pos s.size with h0 | h0
  · exact (Text_none g v bs s w h.o hl h0).mono (fun e w' ⟨v', he, ho, hk, hn⟩ => ⟨v', he, h.step ho hk hn, Kp.of_keep hk hn⟩)
  · exact (Text_some g v bs s w h.o hl hs h0).mono (fun e w' ⟨v', he, ho, hk, hn⟩ => ⟨v', he, h.step ho hk hn, Kp.of_keep hk hn⟩)
/-- an offer as it is written -/
def offF (x : Nat × Int) : List Nat := form x.1 ++ form x.2.toNat
def offsF (l : List (Nat × Int)) : List Nat := form l.length ++ l.flatMap offF
def okOff (x : Nat × Int) : Prop := x.1 < 4294967296 ∧ 0 ≤ x.2 ∧ x.2 ≤ 9223372036854775807
theorem offF_le {x : Nat × Int} (h : okOff x) : (offF x).length ≤ 18 := by
  unfold offF
  have h1 := form_le (x := x.1) (by have := h.1; omega)
  have h2 := form_le (x := x.2.toNat) (by have := h.2; omega)
  rw [List.length_append]; omega
theorem offFs_le {l : List (Nat × Int)} (h : ∀ x ∈ l, okOff x) : (l.flatMap offF).length ≤ 18 * l.length := by
  induction l with
  | nil => simp
  | cons a l ih =>
    rw [List.flatMap_cons, List.length_append, List.length_cons]
    have h1 := offF_le (h a (List.mem_cons_self ..))
    have h2 := ih (fun x hx => h x (List.mem_cons_of_mem _ hx))
    omega
theorem wrap_nat {x : Nat} (h : x < 9223372036854775808) : IntKind.u64.wrap (x : Int) = (x : Int) := by
  rw [IntKind.wrap_u64]; omega
theorem wrap_pos {x : Int} (h0 : 0 ≤ x) (h1 : x ≤ 9223372036854775807) : IntKind.u64.wrap x = ((x.toNat : Nat) : Int) := by
  rw [IntKind.wrap_u64]; omega
set_option maxRecDepth 100000 in
set_option maxHeartbeats 4000000 in
theorem Form1_c {w0 w : World} {g : Nat} {v : Value} {bs : List Nat} (h : WSt w0 w g v bs) (x : Nat × Int) (hl : bs.length ≤ 8796093022000) (hx : okOff x) : Calls Try.prog 48 #[.pointer (some ⟨g, 0, none⟩), .agg #[.int .u32 (x.1 : Int), .int .i64 x.2]] w fun e w' => ∃ v', e = .returned (.tuple #[]) ∧ WSt w0 w' g v' (bs ++ offF x) ∧ Kp g w v w' v' := by
  have H := hide h
  obtain ⟨x1, x2⟩ := x
  have hx1 : x1 < 4294967296 := hx.1
  have hx2 : 0 ≤ x2 := hx.2.1
  have hx3 : x2 ≤ 9223372036854775807 := hx.2.2
  obtain ⟨n2, rfl⟩ : ∃ n2 : Nat, x2 = (n2 : Int) := ⟨x2.toNat, by omega⟩
  have hw := wrap_nat (x := n2) (by omega)
  have f1 := form_le (x := x1) (by omega)
  clear h hx
  simp only
  obtain ⟨W, hW⟩ : ∃ W, W = w.alloc (.cells #[.int .u32 (x1 : Int), .int .i64 (n2 : Int)] 93) := ⟨_, rfl⟩
  have hb0 : Below w.heap.size w W := by rw [hW]; exact (Below.refl _ _).alloc (Nat.le_refl _) _
  have c0 : W.cell? ⟨w.heap.size, 0, none⟩ = some (.int .u32 (x1 : Int)) := by rw [hW]; simp [go_sem]
  have c1 : W.cell? ⟨w.heap.size, 1, none⟩ = some (.int .i64 (n2 : Int)) := by rw [hW]; simp [go_sem]
  have hsp : Sep W g v w.heap.size := ⟨World.block_lt_of_cell? W _ c0, fun e => by have := H.out.o.1; omega, fun e => by have := (H.out.o.2.2.2.1.lt _ e).2; omega⟩
  have HS := hide hsp
  have HW := hide hW
  have HB0 := hide hb0
  have HW0 := hide (H.out.below hb0)
  clear hW hb0 hsp
  go_enter Try.func48, Try.ntmps48
  go_upto_region 1 with fail
  rw [← HW.out]
  go_wp2_with fail
  refine (Num_w HW0.out x1 (by omega) (by omega)).mono ?_
  rintro e w1 ⟨v1, rfl, h1, k1⟩
  have H1 := hide h1
  have K1 := hide k1
  have c1 := cell_stay c1 (k1 _ HS.out).2
  clear h1 k1 c0
  go_wp2_with fail
  refine (Num_w H1.out n2 (by rw [List.length_append]; omega) (by omega)).mono ?_
  rintro e w2 ⟨v2, rfl, h2, k2⟩
  go_wp2
  go_end0
  exact ⟨v2, rfl, by unfold offF; rw [← List.append_assoc, Int.toNat_natCast]; exact h2, ((Kp.of_below HB0.out).trans K1.out).trans k2⟩
theorem OffsIn.stays {w w' : World} {v : Value} {l : List (Nat × Int)} (h : OffsIn w v l) (hs : 0 < l.length → ∀ b, v.ownBlock = some b → w'.heap[b]? = w.heap[b]?) : OffsIn w' v l :=
  ⟨h.val, fun j hj => by obtain ⟨b, o, c, e, q1, q2⟩ := h.at_ j hj; exact ⟨b, o, c, e, cell_stay q1 (hs (by omega) b (by rw [e]; rfl)), cell_stay q2 (hs (by omega) b (by rw [e]; rfl))⟩, h.g32, h.len, h.nil⟩
theorem eql108 (w : World) : Sem.run Try.prog (binOp .eql 108 (.func (.func 48) #[] #[]) .nilFunc) w = .ok (.bool false) w := by kernel_rfl
theorem offTake {l : List (Nat × Int)} {j : Nat} (h : j < l.length) : (l.take (j + 1)).flatMap offF = (l.take j).flatMap offF ++ offF (l.getD j (0, 0)) := by
  rw [List.take_add_one, List.getElem?_eq_getElem h, List.getD_eq_getElem?_getD, List.getElem?_eq_getElem h, List.flatMap_append]
  simp
set_option maxRecDepth 100000 in
set_option maxHeartbeats 4000000 in
theorem List_w {w0 w : World} {g : Nat} {v : Value} {bs : List Nat} (h : WSt w0 w g v bs) (ov : Value) (l : List (Nat × Int)) (ho : OffsIn w ov l) (hsep : 0 < l.length → ∀ b, ov.ownBlock = some b → Sep w g v b) (hl : bs.length + 18 * (l.length + 1) ≤ 8796093022000) (hx : ∀ x ∈ l, okOff x) :
    Calls Try.prog 47 #[.pointer (some ⟨g, 0, none⟩), ov, .func (.func 48) #[] #[]] w fun e w' => ∃ v', e = .returned (.int .i64 0) ∧ WSt w0 w' g v' (bs ++ offsF l) ∧ Kp g w v w' v' := by
  have H := hide h
  have HO := hide ho
  have HSP := hide hsep
  have HX := hide hx
  have f1 := form_le (x := l.length) (by omega)
  have F1 := hide f1
  have Q := eql108
  obtain ⟨p, c, rfl⟩ := ho.val
  have hll := ho.len
  clear h ho hsep hx
  go_enter Try.func47, Try.ntmps47
  go_wp2_with fail
  refine (Num_w H.out l.length (by omega) (by omega)).mono ?_
  rintro e w1 ⟨v1, rfl, h1, k1⟩
  have H1 := hide h1
  have K1 := hide k1
  have HO1 := hide (HO.out.stays (fun h0 b e => (k1 b (HSP.out h0 b e)).2))
  clear h1 k1
  go_wp2_with fail
  refine (CloneO_c _ l w1 HO1.out).mono ?_
  rintro e w2 ⟨v2, rfl, own2, hb2⟩
  obtain ⟨a2, c2, rfl⟩ := own_any own2
  have H2 := hide (H1.out.below hb2)
  have HO2 := hide (OffsIn.of_own own2 HO.out.g32 hll)
  have HS2 := hide (show ∀ b, (Value.slice a2 l.length c2).ownBlock = some b → Sep w2 g v1 b from fun b e => by
    have q := own2.lt b e
    exact ⟨q.2, fun e => by have := H1.out.o.1; omega, fun e => by have := (H1.out.o.2.2.2.1.lt _ e).2; omega⟩)
  have K2 := hide (K1.out.trans (Kp.of_below hb2))
  clear own2 hb2
  go_wp2_with fail
  go_loopw [8, 23] (fun v8 v23 wr => ∃ (j : Nat) (v' : Value), j ≤ l.length ∧ v23 = .int .i64 (j : Int) ∧ WSt w0 wr g v' (bs ++ form l.length ++ (l.take j).flatMap offF) ∧ Kp g w2 v1 wr v') (fun _ v23 _ => l.length - (intOf v23).toNat)
  case atStart => exact ⟨0, v1, Nat.zero_le _, rfl, by simpa using H2.out, Kp.refl _ _ _⟩
  case round =>
    obtain ⟨j, v', hj, rfl, hs, hk⟩ := hrel
    have HSt := hide hs
    have HK := hide hk
    have hj0 : (0 : Int) ≤ (j : Int) := by omega
    by_cases hlt : j < l.length
    · have hlt' : (j : Int) < (l.length : Int) := by omega
      obtain ⟨b, o, c3, e, q1, q2⟩ := (HO2.out.stays (fun _ b e => (hk b (HS2.out b e)).2)).at_ j hlt
      injection e with e _ ec
      subst e ec
      have hok := HX.out (l.getD j (0, 0)) (by rw [List.getD_eq_getElem?_getD, List.getElem?_eq_getElem hlt]; exact List.getElem_mem hlt)
      have HT := hide (offTake hlt)
      have hfl : ((l.take j).flatMap offF).length ≤ 18 * l.length := by
        have q := offFs_le (l := l.take j) (fun x hx => HX.out x (List.mem_of_mem_take hx))
        rw [List.length_take] at q; omega
      clear hs hk
      obtain ⟨x, hx⟩ : ∃ x, x = l.getD j (0, 0) := ⟨_, rfl⟩
      rw [← hx] at q1 q2 hok HT
      have HOK := hide hok
      clear hx hok
      obtain ⟨x1, x2⟩ := x
      simp only at q1 q2
      go_wp2_with fail
      obtain ⟨wz, hwz⟩ : ∃ wz, wz = wr.alloc (.cells #[.int .u32 (x1 : Int), .int .i64 x2] 93) := ⟨_, rfl⟩
      have hbz : Below wr.heap.size wr wz := by rw [hwz]; exact (Below.refl _ _).alloc (Nat.le_refl _) _
      rw [← hwz]
      have HBZ := hide hbz
      clear hwz hbz
      refine (Form1_c (HSt.out.below HBZ.out) (x1, x2) (by simp only [List.length_append]; have := F1.out; omega) HOK.out).mono ?_
      rintro e w5 ⟨v5, rfl, h5, k5⟩
      have H5 := hide h5
      have K5 := hide k5
      clear h5 k5
      go_wp2
      go_roundw
      case rel => exact ⟨j + 1, v5, by omega, by go_num, by rw [HT.out, ← List.append_assoc]; exact H5.out, (HK.out.trans (Kp.of_below HBZ.out)).trans K5.out⟩
      case measure => (first | (simp [intOf]; done) | (simp [intOf]; omega))
    · obtain rfl : j = l.length := by omega
      have hle : ¬ ((l.length : Int) < (l.length : Int)) := by omega
      clear hs hk
      go_wp2
      go_ret
      have q := HSt.out
      rw [List.take_length, List.append_assoc] at q
      first | exact ⟨v', rfl, q, K2.out.trans HK.out⟩ | exact ⟨rfl, v', q, K2.out.trans HK.out⟩
end Go.Proofs.Ytalnipjaekpbhaa

namespace Go.Proofs.Ytalnipjaekpbhaa
open Go.ChangeShapes Go.WideShapes Go.ChangeAt Go.RowKit Go.Deep
set_option linter.unusedSimpArgs false
set_option linter.unusedVariables false

/-- an order's numbers are such as Go's are -/
structure OrdR (o : Ord) : Prop where
  k0 : -9223372036854775808 ≤ o.kind
  k1 : o.kind ≤ 9223372036854775807
  n0 : ∀ j, -9223372036854775808 ≤ o.num j
  n1 : ∀ j, o.num j ≤ 9223372036854775807
  o1 : ∀ x ∈ o.offs, x.1 < 4294967296 ∧ -9223372036854775808 ≤ x.2 ∧ x.2 ≤ 9223372036854775807
  nm : ∀ x ∈ o.name, x < 256
  nl : o.name.length ≤ 1099511627776
theorem BoxO.range {w : World} {ob : Nat} {o : Ord} {ov : Value} (h : BoxO w ob o ov) : w.rangeAt ob 0 (ordCells o ov) := fun j v hv => by
  rw [Nat.zero_add, h.c j (by have := (List.getElem?_eq_some_iff.1 hv).1; rw [ordCells_len] at this; exact this)]; exact hv
def numF (o : Ord) (j : Nat) : List Nat := form (o.num j).toNat
/-- an order's form -/
def formO (o : Ord) : List Nat := ((((form o.kind.toNat ++ (if o.kind = 1 then text (bstr o.name) else [])) ++ (wholeO o.kind).flatMap (numF o)) ++ (wideO o.kind).flatMap (numF o)) ++ (behindO o.kind).flatMap (numF o)) ++ (if o.kind = 4 then offsF o.offs else [])
structure ChkT (o : Ord) : Prop where
  k0 : 1 ≤ o.kind
  k1 : o.kind ≤ 6
  ol : o.offs.length ≤ 64
  nl : o.name.length ≤ 64
  nm : o.name = [] ↔ o.kind ≠ 1
  of4 : o.kind ≠ 4 → o.offs = []
  oc : ∀ x ∈ o.offs, 0 ≤ x.2
  ln : ∀ j ∈ listed o.kind, 0 ≤ o.num j
  lz : ∀ j ∈ numO, j ∉ listed o.kind → o.num j = 0
theorem chk_iff (o : Ord) : chk o = true ↔ ChkT o := by
  unfold chk bad2 isKind anyNeg
  simp only [Bool.and_eq_true, decide_eq_true_eq, Bool.not_eq_true', Bool.or_eq_false_iff, decide_eq_false_iff_not, Bool.and_eq_false_iff, List.all_eq_true, List.any_eq_false, Nat.not_lt]
  constructor
  · rintro ⟨⟨⟨⟨⟨h1, h2⟩, ⟨⟨h3, h4⟩, h5⟩, h6⟩, h7⟩, h8⟩, h9⟩
    refine ⟨h1, h2, h3, h4, ?_, fun h => ?_, fun x hx => ?_, h8, fun j hj hn => ?_⟩
    · cases hn : o.name with
      | nil => rw [hn] at h5; simp at h5 ⊢; exact h5
      | cons a l => rw [hn] at h5; simp at h5 ⊢; exact h5
    · rcases h6 with h6 | h6
      · exact List.length_eq_zero_iff.1 (by omega)
      · simp at h6; exact absurd h6 h
    · have := h7 x hx; omega
    · have q := h9 j hj
      unfold Ord.zero at q
      simpa [hn] using q
  · rintro ⟨h1, h2, h3, h4, h5, h6, h7, h8, h9⟩
    refine ⟨⟨⟨⟨⟨h1, h2⟩, ⟨⟨h3, h4⟩, ?_⟩, ?_⟩, fun x hx => ?_⟩, h8⟩, fun j hj => ?_⟩
    · by_cases k : o.kind = 1
      · have hne : o.name ≠ [] := fun e => (h5.1 e) k
        cases hn : o.name with
        | nil => exact absurd hn hne
        | cons a l => simp [k]
      · rw [h5.2 k]; simp [k]
    · by_cases k : o.kind = 4
      · exact .inr (by simp [k])
      · exact .inl (by rw [h6 k]; simp)
    · have := h7 x hx; omega
    · unfold Ord.zero
      show (if j ∈ listed o.kind then 0 else o.num j) = 0
      split
      · rfl
      · rename_i h; exact h9 j hj h
theorem flat_le {f : Nat → List Nat} {l : List Nat} (h : ∀ j ∈ l, (f j).length ≤ 9) : (l.flatMap f).length ≤ 9 * l.length := by
  induction l with
  | nil => simp
  | cons a l ih =>
    rw [List.flatMap_cons, List.length_append, List.length_cons]
    have h1 := h a (List.mem_cons_self ..)
    have h2 := ih (fun x hx => h x (List.mem_cons_of_mem _ hx))
    omega
theorem numF_le {o : Ord} (h : OrdR o) (j : Nat) : (numF o j).length ≤ 9 := form_le (by have := h.n1 j; omega)
theorem numTake {o : Ord} {l : List Nat} {j : Nat} (h : j < l.length) : (l.take (j + 1)).flatMap (numF o) = (l.take j).flatMap (numF o) ++ numF o (l.getD j 0) := by
  rw [take_snoc h, List.flatMap_append]; simp
set_option maxRecDepth 100000 in
set_option maxHeartbeats 8000000 in
theorem Form_bad (o : Ord) (ov : Value) (w : World) (ho : OffsIn w ov o.offs) (hc : chk o = false) : Calls Try.prog 11 #[ordV o ov] w fun e w' => e = .returned (.tuple #[.slice none 0 0, .int .i64 2]) ∧ Below w.heap.size w w' := by
  obtain ⟨W, hW⟩ : ∃ W, W = w.alloc (.cells (ordCells o ov).toArray 29) := ⟨_, rfl⟩
  have hb0 : Below w.heap.size w W := by rw [hW]; exact (Below.refl _ _).alloc (Nat.le_refl _) _
  have hbox : BoxO W w.heap.size o ov := by rw [hW]; exact box_made w o _
  have C16 := hide (show Calls Try.prog 16 #[ordV o ov] W fun e w' => e = .returned (.int .i64 2) ∧ Below W.heap.size W w' from by
    have q := Check_c o ov W (ho.below hb0)
    rw [hc] at q; exact q)
  have HW := hide hW
  have HB0 := hide hb0
  have HBX := hide hbox
  clear hb0 hbox hW ho hc
  unfold ordV at C16 ⊢
  go_enter Try.func11, Try.ntmps11
  go_upto_region 1 with fail
  rw [← HW.out]
  go_wp2_with (refine wpList_load_mid rfl 29 _ rfl w.heap.size 0 rfl (ordCells o ov) _ HBX.out.range Try.underlying29 rfl (by rw [ordCells_len]; kernel_rfl) ?_)
  refine C16.out.mono ?_
  rintro e w1 ⟨rfl, hb⟩
  go_wp2_with fail
  refine bodyPost_ret (v := .tuple #[.slice none 0 0, .int .i64 2]) (by simp [results, Try.f11, go_sem]) rfl ⟨rfl, bstep HB0.out hb⟩
end Go.Proofs.Ytalnipjaekpbhaa

namespace Go.Proofs.Ytalnipjaekpbhaa
open Go.ChangeShapes Go.WideShapes Go.ChangeAt Go.RowKit Go.Deep
set_option linter.unusedSimpArgs false
set_option linter.unusedVariables false

theorem own_base {w : World} {B : Nat} {e : TypeId} {size g n c : Nat} {xs : List Value} (h : w.ownsRow 0 e size (.slice (some ⟨g, 0, none⟩) n c) n xs) (hB : B ≤ g) : w.ownsRow B e size (.slice (some ⟨g, 0, none⟩) n c) n xs := by
  refine ⟨h.1, ?_⟩
  rcases h.2 with ⟨q, _⟩ | ⟨g', cap, cur, q, _, r⟩
  · cases q
  · refine .inr ⟨g', cap, cur, q, ?_, r⟩
    have e1 : g = g' := by (injection q with e1 e2 e3; injection e1 with e1; injection e1 with e1)
    omega
theorem text_le (s : ByteArray) (h : s.size ≤ 1099511627776) : (text s).length ≤ 9 + s.size := by
  unfold text
  have := form_le (x := s.size) (by omega)
  rw [List.length_append, sb_length]; omega
set_option maxRecDepth 100000 in
set_option maxHeartbeats 8000000 in
theorem Form_ok (o : Ord) (ov : Value) (w : World) (ho : OffsIn w ov o.offs) (hc : chk o = true) (hr : OrdR o) : Calls Try.prog 11 #[ordV o ov] w fun e w' => ∃ v, e = .returned (.tuple #[v, .int .i64 0]) ∧ w'.ownsRow w.heap.size 5 1 v (formO o).length ((formO o).map (fun (b : Nat) => Value.int .u8 (b : Int))) ∧ Below w.heap.size w w' := by
  have CT := hide ((chk_iff o).1 hc)
  have OR := hide hr
  have SB := hide (listed_sub o.kind)
  have LN := hide (listed_len o.kind)
  have HO := hide ho
  obtain ⟨W, hW⟩ : ∃ W, W = w.alloc (.cells (ordCells o ov).toArray 29) := ⟨_, rfl⟩
  have hb0 : Below w.heap.size w W := by rw [hW]; exact (Below.refl _ _).alloc (Nat.le_refl _) _
  have hbox : BoxO W w.heap.size o ov := by rw [hW]; exact box_made w o _
  have C16 := hide (show Calls Try.prog 16 #[ordV o ov] W fun e w' => e = .returned (.int .i64 0) ∧ Below W.heap.size W w' from by
    have q := Check_c o ov W (ho.below hb0)
    rw [hc] at q; exact q)
  have HW := hide hW
  have HB0 := hide hb0
  have HBX := hide hbox
  obtain ⟨kn, hkn⟩ : ∃ kn : Nat, o.kind = (kn : Int) := ⟨o.kind.toNat, by have := CT.out.k0; omega⟩
  have hk6 : kn ≤ 6 := by have := CT.out.k1; omega
  have HKN := hide hkn
  clear hb0 hbox hW ho hc hr
  unfold ordV at C16 ⊢
  go_enter Try.func11, Try.ntmps11
  go_upto_region 1 with fail
  rw [← HW.out]
  go_wp2_with (refine wpList_load_mid rfl 29 _ rfl w.heap.size 0 rfl (ordCells o ov) _ HBX.out.range Try.underlying29 rfl (by rw [ordCells_len]; kernel_rfl) ?_)
  refine C16.out.mono ?_
  rintro e w1 ⟨rfl, hb⟩
  have HX1 := hide (HBX.out.below hb)
  have HB1 := hide (bstep HB0.out hb)
  have hz1 := hb.size
  clear hb C16
  go_wp2_with fail
  refine (NewWriter_c _).mono ?_
  rintro e w2 ⟨g, rfl, hg, hb2, hW2⟩
  have HX2 := hide (HX1.out.below hb2)
  have H2 := hide (show WSt w w2 g (.slice none 0 0) [] from ⟨hW2, by have := HB1.out.size; omega, (fun k e => by cases e), bstep HB1.out hb2⟩)
  have HBX2 := hide (show Below w.heap.size w w2 from bstep HB1.out hb2)
  have S2 := hide (show Sep w2 g (.slice none 0 0) w.heap.size from ⟨HX2.out.lt, (fun e => by have := HX1.out.lt; omega), (fun e => by cases e)⟩)
  have S2o := hide (show 0 < o.offs.length → ∀ b, ov.ownBlock = some b → Sep w2 g (.slice none 0 0) b from fun h0 b e => by
    obtain ⟨b', o', c', e', q, -⟩ := HO.out.at_ 0 h0
    rw [e'] at e
    obtain rfl : b' = b := Option.some.inj e
    have q1 : b' < w.heap.size := World.block_lt_of_cell? w _ q
    have q2 := HB1.out.size
    have q3 := hb2.size
    exact ⟨by omega, (fun e => by omega), (fun e => by cases e)⟩)
  have x0 : w2.cell? ⟨w.heap.size, 0, none⟩ = some (.int .i64 (kn : Int)) := by rw [← HKN.out]; exact HX2.out.c 0 (by decide)
  have hw := wrap_nat (x := kn) (by omega)
  clear hb2 hW2 hg
  go_wp2_with fail
  refine (Num_w H2.out kn (by simp) (by omega)).mono ?_
  rintro e w3 ⟨v3, rfl, h3, k3⟩
  have H3 := hide (show WSt w w3 g v3 (form kn) from by simpa using h3)
  have K3 := hide k3
  have x0 := cell_stay x0 (k3 _ S2.out).2
  have x1 : w3.cell? ⟨w.heap.size, 1, none⟩ = some (.string (bstr o.name)) := cell_stay (HX2.out.c 1 (by decide)) (k3 _ S2.out).2
  clear h3 k3 hw
  go_upto_region 6 with fail
  go_cut [28] from 26 to 27 (fun v28 wx => v28 = .bool (decide (kn = 1)) ∧ wx = w3)
  case first =>
    go_wp2_with fail
    go_meet
    exact ⟨by congr 1; rw [Bool.eq_iff_iff]; simp; try omega, rfl⟩
  case rest =>
  obtain ⟨hv28, hwc⟩ := hcut
  subst wc
  obtain ⟨q28, hq, hq2⟩ : ∃ q28, u28 = q28 ∧ q28 = .bool (decide (kn = 1)) := ⟨_, rfl, hv28⟩
  clear hv28
  subst hq
  have HQ2 := hide hq2
  clear hq2
  go_wp2_with fail
  go_cut [32] from 26 to 31 (fun v32 wx => ∃ v', WSt w wx g v' (form o.kind.toNat ++ (if o.kind = 1 then text (bstr o.name) else [])) ∧ Kp g w3 v3 wx v')
  case first =>
    have hq2 := HQ2.out
    by_cases hk1 : kn = 1
    · rw [decide_eq_true hk1] at hq2
      subst hq2
      have HK1 := hide hk1
      clear hk1
      go_wp2_with fail
      refine (Text_w H3.out (bstr o.name) (by have := form_le (x := kn) (by omega); omega) (by rw [bstr_size]; have := CT.out.nl; omega)).mono ?_
      rintro e w4 ⟨v4, rfl, h4, k4⟩
      go_wp2_with fail
      go_meet
      have z : WSt w w4 g v4 (form o.kind.toNat ++ (if o.kind = 1 then text (bstr o.name) else [])) := by
        rw [HKN.out, Int.toNat_natCast, if_pos (by have := HK1.out; omega)]; exact h4
      first | exact ⟨⟨v4, z, k4⟩, rfl⟩ | exact ⟨_, ⟨v4, z, k4⟩, rfl⟩ | exact ⟨v4, z, k4⟩
    · rw [decide_eq_false hk1] at hq2
      subst hq2
      have HK1 := hide hk1
      clear hk1
      go_wp2_with fail
      go_meet
      have z : WSt w w3 g v3 (form o.kind.toNat ++ (if o.kind = 1 then text (bstr o.name) else [])) := by
        rw [HKN.out, Int.toNat_natCast, if_neg (by have := HK1.out; omega), List.append_nil]; exact H3.out
      first | exact ⟨⟨v3, z, Kp.refl _ _ _⟩, rfl⟩ | exact ⟨_, ⟨v3, z, Kp.refl _ _ _⟩, rfl⟩ | exact ⟨v3, z, Kp.refl _ _ _⟩
  case rest =>
  obtain ⟨v4, h4, k4⟩ := hcut
  have X4 := hide (show BoxO wc w.heap.size o ov ∧ Sep wc g v4 w.heap.size from ⟨(HX2.out.stays (K3.out _ S2.out).2).stays (k4 _ (K3.out _ S2.out).1).2, (k4 _ (K3.out _ S2.out).1).1⟩)
  have S4 := hide (show 0 < o.offs.length → ∀ b, ov.ownBlock = some b → Sep wc g v4 b ∧ wc.heap[b]? = w.heap[b]? from fun h0 b e => by
    have q := S2o.out h0 b e
    refine ⟨(k4 b (K3.out b q).1).1, (k4 b (K3.out b q).1).2.trans ((K3.out b q).2.trans ?_)⟩
    obtain ⟨b', o', c', e', q', -⟩ := HO.out.at_ 0 h0
    rw [e'] at e
    obtain rfl : b' = b := Option.some.inj e
    exact HBX2.out.block b' (World.block_lt_of_cell? w _ q'))
  obtain ⟨pre1, hpre1⟩ : ∃ q, q = form o.kind.toNat ++ (if o.kind = 1 then text (bstr o.name) else []) := ⟨_, rfl⟩
  rw [← hpre1] at h4
  have P4 := hide (show pre1.length ≤ 100 by
    rw [hpre1, List.length_append]
    have q1 := form_le (x := o.kind.toNat) (by rw [HKN.out]; omega)
    split
    · have q2 := text_le (bstr o.name) (by rw [bstr_size]; have := CT.out.nl; omega)
      have := bstr_size o.name
      have := CT.out.nl
      omega
    · simp; omega)
  have Epre1 := hide hpre1
  have H4 := hide h4
  have C45 := hide (fields_c w.heap.size o.kind wc (X4.out.1.c 0 (by decide)))
  clear hpre1 h4 k4 x0 x1
  go_wp2_with fail
  refine C45.out.mono ?_
  rintro e w5 ⟨v1, v2, rfl, o1, o2, hb5⟩
  obtain ⟨a1, c1, rfl⟩ := own_any o1
  obtain ⟨a2, c2, rfl⟩ := own_any o2
  have Hw5 := hide (H4.out.below hb5)
  have Kw5 : Kp g wc v4 w5 v4 := Kp.of_below hb5
  have Xw5 := hide (show BoxO w5 w.heap.size o ov ∧ Sep w5 g v4 w.heap.size from ⟨X4.out.1.below hb5, (Kw5 _ X4.out.2).1⟩)
  have Sw5 := hide (show 0 < o.offs.length → ∀ b, ov.ownBlock = some b → Sep w5 g v4 b ∧ w5.heap[b]? = w.heap[b]? from fun h0 b e => ⟨(Kw5 b (S4.out h0 b e).1).1, (Kw5 b (S4.out h0 b e).1).2.trans (S4.out h0 b e).2⟩)
  have newSep : ∀ b, wc.heap.size ≤ b → b < w5.heap.size → Sep w5 g v4 b := fun b h1 h2 => ⟨h2, (fun e => by have := H4.out.o.1; omega), fun e => by have := (H4.out.o.2.2.2.1.lt _ e).2; omega⟩
  have R1 := hide (show w5.ownsRow wc.heap.size 104 1 (.slice a1 (wholeO o.kind).length c1) (wholeO o.kind).length (ptrs w.heap.size (wholeO o.kind)) ∧ ∀ b, (Value.slice a1 (wholeO o.kind).length c1).ownBlock = some b → Sep w5 g v4 b from ⟨o1, fun b e => newSep b (o1.lt b e).1 (o1.lt b e).2⟩)
  have R2 := hide (show w5.ownsRow wc.heap.size 105 1 (.slice a2 (wideO o.kind).length c2) (wideO o.kind).length (ptrs w.heap.size (wideO o.kind)) ∧ ∀ b, (Value.slice a2 (wideO o.kind).length c2).ownBlock = some b → Sep w5 g v4 b from ⟨o2, fun b e => newSep b (o2.lt b e).1 (o2.lt b e).2⟩)
  have Pw5 := hide (show pre1.length ≤ 100 by have := P4.out; omega)
  obtain ⟨A, hA⟩ : ∃ A, A = wholeO o.kind := ⟨_, rfl⟩
  obtain ⟨B, hB⟩ : ∃ B, B = wideO o.kind := ⟨_, rfl⟩
  obtain ⟨C, hC⟩ : ∃ C, C = behindO o.kind := ⟨_, rfl⟩
  have inA := hide (show ∀ j, j ∈ A → j ∈ listed o.kind from fun j h => by rw [hA] at h; unfold listed; exact List.mem_append_left _ (List.mem_append_left _ h))
  have inB := hide (show ∀ j, j ∈ B → j ∈ listed o.kind from fun j h => by rw [hB] at h; unfold listed; exact List.mem_append_right _ h)
  have inC := hide (show ∀ j, j ∈ C → j ∈ listed o.kind from fun j h => by rw [hC] at h; unfold listed; exact List.mem_append_left _ (List.mem_append_right _ h))
  have EA := hide (And.intro hA (And.intro hB hC))
  rw [← hA, ← hB, ← hC] at LN
  rw [← hA] at R1
  rw [← hB] at R2
  rw [← hA, ← hB]
  have hAl : A.length ≤ 2 := LN.out.1
  have hBl : B.length ≤ 8 := LN.out.2.2
  have hCl : C.length ≤ 2 := LN.out.2.1
  clear o1 o2 hb5 newSep hA hB hC Kw5
  go_wp2_with fail
  go_loopw [40] (fun v40 wr => ∃ (j : Nat) (v' : Value), j ≤ A.length ∧ v40 = .int .i64 (j : Int) ∧ WSt w wr g v' (pre1 ++ (A.take j).flatMap (numF o)) ∧ Kp g w5 v4 wr v') (fun v40 _ => A.length - (intOf v40).toNat)
  case atStart => exact ⟨0, v4, Nat.zero_le _, rfl, by simpa using Hw5.out, Kp.refl _ _ _⟩
  case round =>
  obtain ⟨j, v', hj, rfl, hs, hk⟩ := hrel
  have HSt := hide hs
  have HKr := hide hk
  have hj0 : (0 : Int) ≤ (j : Int) := by omega
  clear hs hk
  by_cases hlt : j < A.length
  · have hlt' : (j : Int) < (A.length : Int) := by omega
    obtain ⟨ga, ca, hv, -, -⟩ := R1.out.1.form (by omega)
    injection hv with hv _ hc
    subst hv hc
    have c1 : wr.cell? ⟨ga, j, none⟩ = some (.pointer (some ⟨w.heap.size, A.getD j 0, none⟩)) := by
      have q := R1.out.1.cellAt j (by omega)
      rw [ptrs_at _ hlt] at q
      exact cell_stay q (HKr.out ga (R1.out.2 ga rfl)).2
    have hmem : A.getD j 0 ∈ A := by rw [List.getD_eq_getElem?_getD, List.getElem?_eq_getElem hlt]; exact List.getElem_mem hlt
    have hin : A.getD j 0 ∈ numO := SB.out _ (inA.out _ hmem)
    have hx0 := CT.out.ln _ (inA.out _ hmem)
    have hx1 := OR.out.n1 (A.getD j 0)
    have c2 := cell_stay (Xw5.out.1.num hin) (HKr.out w.heap.size Xw5.out.2).2
    have HT := hide (numTake (o := o) hlt)
    have hfl : ((A.take j).flatMap (numF o)).length ≤ 9 * A.length := by
      have q := flat_le (f := numF o) (l := A.take j) (fun x _ => numF_le OR.out x)
      rw [List.length_take] at q; omega
    clear hin hmem
    obtain ⟨q, hq⟩ : ∃ q, q = A.getD j 0 := ⟨_, rfl⟩
    rw [← hq] at c1 c2 hx0 hx1 HT
    obtain ⟨x, hx⟩ : ∃ x : Nat, o.num q = (x : Int) := ⟨(o.num q).toNat, by omega⟩
    have hnf : numF o q = form x := by unfold numF; rw [hx, Int.toNat_natCast]
    rw [hnf] at HT
    rw [hx] at c2 hx0 hx1
    have hw := wrap_nat (x := x) (by omega)
    clear hq hx hnf
    go_wp2_with fail
    refine (Num_w HSt.out x (by have := LN.out; have := Pw5.out; simp only [List.length_append]; omega) (by omega)).mono ?_
    rintro e wt ⟨vt, rfl, h5, k5⟩
    have H5 := hide h5
    have K5 := hide k5
    clear h5 k5
    go_wp2_with fail
    go_roundw
    case rel => exact ⟨j + 1, vt, by omega, by go_num, by rw [HT.out, ← List.append_assoc]; exact H5.out, HKr.out.trans K5.out⟩
    case measure => (first | (simp [intOf]; done) | (simp [intOf]; omega))
  obtain rfl : j = A.length := by omega
  rw [List.take_length] at HSt
  have hle40 : ¬ ((A.length : Int) < (A.length : Int)) := by omega
  obtain ⟨w6, hnw⟩ : ∃ q : World, q = wr := ⟨wr, rfl⟩
  subst hnw
  obtain ⟨v6, hnv⟩ : ∃ q : Value, q = v' := ⟨v', rfl⟩
  subst hnv
  have Pw6 := hide (show (pre1 ++ A.flatMap (numF o)).length ≤ 118 by
    have q := flat_le (f := numF o) (l := A) (fun x _ => numF_le OR.out x)
    have := LN.out
    have := Pw5.out
    simp only [List.length_append]; omega)
  obtain ⟨pre2, hpre⟩ : ∃ q, q = pre1 ++ A.flatMap (numF o) := ⟨_, rfl⟩
  rw [← hpre] at HSt Pw6
  have Epre2 := hide hpre
  have Hw6 := hide HSt.out
  have Xw6 := hide (show BoxO w6 w.heap.size o ov ∧ Sep w6 g v6 w.heap.size from ⟨Xw5.out.1.stays (HKr.out _ Xw5.out.2).2, (HKr.out _ Xw5.out.2).1⟩)
  have Sw6 := hide (show 0 < o.offs.length → ∀ b, ov.ownBlock = some b → Sep w6 g v6 b ∧ w6.heap[b]? = w.heap[b]? from fun h0 b e => ⟨(HKr.out b (Sw5.out h0 b e).1).1, (HKr.out b (Sw5.out h0 b e).1).2.trans (Sw5.out h0 b e).2⟩)
  have Kw6 := hide HKr.out
  clear hpre HSt HKr hj hj0 hlt
  have R2b := hide (show w6.ownsRow wc.heap.size 105 1 (.slice a2 B.length c2) B.length (ptrs w.heap.size B) ∧ ∀ b, (Value.slice a2 B.length c2).ownBlock = some b → Sep w6 g v6 b from ⟨own_same R2.out.1 (fun k hk _ => (Kw6.out k (R2.out.2 k hk)).2), fun b e => (Kw6.out b (R2.out.2 b e)).1⟩)
  go_wp2_with fail
  go_loopw [53] (fun v53 wr => ∃ (j : Nat) (v' : Value), j ≤ B.length ∧ v53 = .int .i64 (j : Int) ∧ WSt w wr g v' (pre2 ++ (B.take j).flatMap (numF o)) ∧ Kp g w6 v6 wr v') (fun v53 _ => B.length - (intOf v53).toNat)
  case atStart => exact ⟨0, v6, Nat.zero_le _, rfl, by simpa using Hw6.out, Kp.refl _ _ _⟩
  case round =>
  obtain ⟨j, v', hj, rfl, hs, hk⟩ := hrel
  have HSt := hide hs
  have HKr := hide hk
  have hj0 : (0 : Int) ≤ (j : Int) := by omega
  clear hs hk
  by_cases hlt : j < B.length
  · have hlt' : (j : Int) < (B.length : Int) := by omega
    obtain ⟨ga, ca, hv, -, -⟩ := R2b.out.1.form (by omega)
    injection hv with hv _ hc
    subst hv hc
    have c1 : wr.cell? ⟨ga, j, none⟩ = some (.pointer (some ⟨w.heap.size, B.getD j 0, none⟩)) := by
      have q := R2b.out.1.cellAt j (by omega)
      rw [ptrs_at _ hlt] at q
      exact cell_stay q (HKr.out ga (R2b.out.2 ga rfl)).2
    have hmem : B.getD j 0 ∈ B := by rw [List.getD_eq_getElem?_getD, List.getElem?_eq_getElem hlt]; exact List.getElem_mem hlt
    have hin : B.getD j 0 ∈ numO := SB.out _ (inB.out _ hmem)
    have hx0 := CT.out.ln _ (inB.out _ hmem)
    have hx1 := OR.out.n1 (B.getD j 0)
    have c2 := cell_stay (Xw6.out.1.num hin) (HKr.out w.heap.size Xw6.out.2).2
    have HT := hide (numTake (o := o) hlt)
    have hfl : ((B.take j).flatMap (numF o)).length ≤ 9 * B.length := by
      have q := flat_le (f := numF o) (l := B.take j) (fun x _ => numF_le OR.out x)
      rw [List.length_take] at q; omega
    clear hin hmem
    obtain ⟨q, hq⟩ : ∃ q, q = B.getD j 0 := ⟨_, rfl⟩
    rw [← hq] at c1 c2 hx0 hx1 HT
    obtain ⟨x, hx⟩ : ∃ x : Nat, o.num q = (x : Int) := ⟨(o.num q).toNat, by omega⟩
    have hnf : numF o q = form x := by unfold numF; rw [hx, Int.toNat_natCast]
    rw [hnf] at HT
    rw [hx] at c2 hx0 hx1
    have hw := wrap_nat (x := x) (by omega)
    clear hq hx hnf
    go_wp2_with fail
    refine (Num_w HSt.out x (by have := LN.out; have := Pw6.out; simp only [List.length_append]; omega) (by omega)).mono ?_
    rintro e wt ⟨vt, rfl, h5, k5⟩
    have H5 := hide h5
    have K5 := hide k5
    clear h5 k5
    go_wp2_with fail
    go_roundw
    case rel => exact ⟨j + 1, vt, by omega, by go_num, by rw [HT.out, ← List.append_assoc]; exact H5.out, HKr.out.trans K5.out⟩
    case measure => (first | (simp [intOf]; done) | (simp [intOf]; omega))
  obtain rfl : j = B.length := by omega
  rw [List.take_length] at HSt
  have hle53 : ¬ ((B.length : Int) < (B.length : Int)) := by omega
  obtain ⟨w7, hnw⟩ : ∃ q : World, q = wr := ⟨wr, rfl⟩
  subst hnw
  obtain ⟨v7, hnv⟩ : ∃ q : Value, q = v' := ⟨v', rfl⟩
  subst hnv
  have Pw7 := hide (show (pre2 ++ B.flatMap (numF o)).length ≤ 190 by
    have q := flat_le (f := numF o) (l := B) (fun x _ => numF_le OR.out x)
    have := LN.out
    have := Pw6.out
    simp only [List.length_append]; omega)
  obtain ⟨pre3, hpre⟩ : ∃ q, q = pre2 ++ B.flatMap (numF o) := ⟨_, rfl⟩
  rw [← hpre] at HSt Pw7
  have Epre3 := hide hpre
  have Hw7 := hide HSt.out
  have Xw7 := hide (show BoxO w7 w.heap.size o ov ∧ Sep w7 g v7 w.heap.size from ⟨Xw6.out.1.stays (HKr.out _ Xw6.out.2).2, (HKr.out _ Xw6.out.2).1⟩)
  have Sw7 := hide (show 0 < o.offs.length → ∀ b, ov.ownBlock = some b → Sep w7 g v7 b ∧ w7.heap[b]? = w.heap[b]? from fun h0 b e => ⟨(HKr.out b (Sw6.out h0 b e).1).1, (HKr.out b (Sw6.out h0 b e).1).2.trans (Sw6.out h0 b e).2⟩)
  have Kw7 := hide HKr.out
  clear hpre HSt HKr hj hj0 hlt
  have C46 := hide (behind_c w.heap.size o.kind w7 (Xw7.out.1.c 0 (by decide)))
  go_wp2_with fail
  refine C46.out.mono ?_
  rintro e w8 ⟨v3', rfl, o3, hb8⟩
  obtain ⟨a3, c3, rfl⟩ := own_any o3
  rw [← EA.out.2.2] at o3
  rw [← EA.out.2.2]
  obtain ⟨v8, hv8⟩ : ∃ q : Value, q = v7 := ⟨_, rfl⟩
  have Kw8 : Kp g w7 v7 w8 v7 := Kp.of_below hb8
  have Hw8 := hide (Hw7.out.below hb8)
  have Xw8 := hide (show BoxO w8 w.heap.size o ov ∧ Sep w8 g v7 w.heap.size from ⟨Xw7.out.1.below hb8, (Kw8 _ Xw7.out.2).1⟩)
  have Sw8 := hide (show 0 < o.offs.length → ∀ b, ov.ownBlock = some b → Sep w8 g v7 b ∧ w8.heap[b]? = w.heap[b]? from fun h0 b e => ⟨(Kw8 b (Sw7.out h0 b e).1).1, (Kw8 b (Sw7.out h0 b e).1).2.trans (Sw7.out h0 b e).2⟩)
  have R3 := hide (show w8.ownsRow w7.heap.size 104 1 (.slice a3 C.length c3) C.length (ptrs w.heap.size C) ∧ ∀ b, (Value.slice a3 C.length c3).ownBlock = some b → Sep w8 g v7 b from ⟨o3, fun b e => ⟨(o3.lt b e).2, (fun e2 => by have := Hw7.out.o.1; have := (o3.lt b e).1; omega), fun e2 => by have := (Hw7.out.o.2.2.2.1.lt _ e2).2; have := (o3.lt b e).1; omega⟩⟩)
  have Pw8 := hide Pw7.out
  rw [← hv8] at Hw8 Xw8 Sw8 R3
  clear o3 hb8 hv8 C46 Kw8
  go_wp2_with fail
  go_loopw [66] (fun v66 wr => ∃ (j : Nat) (v' : Value), j ≤ C.length ∧ v66 = .int .i64 (j : Int) ∧ WSt w wr g v' (pre3 ++ (C.take j).flatMap (numF o)) ∧ Kp g w8 v8 wr v') (fun v66 _ => C.length - (intOf v66).toNat)
  case atStart => exact ⟨0, v8, Nat.zero_le _, rfl, by simpa using Hw8.out, Kp.refl _ _ _⟩
  case round =>
  obtain ⟨j, v', hj, rfl, hs, hk⟩ := hrel
  have HSt := hide hs
  have HKr := hide hk
  have hj0 : (0 : Int) ≤ (j : Int) := by omega
  clear hs hk
  by_cases hlt : j < C.length
  · have hlt' : (j : Int) < (C.length : Int) := by omega
    obtain ⟨ga, ca, hv, -, -⟩ := R3.out.1.form (by omega)
    injection hv with hv _ hc
    subst hv hc
    have c1 : wr.cell? ⟨ga, j, none⟩ = some (.pointer (some ⟨w.heap.size, C.getD j 0, none⟩)) := by
      have q := R3.out.1.cellAt j (by omega)
      rw [ptrs_at _ hlt] at q
      exact cell_stay q (HKr.out ga (R3.out.2 ga rfl)).2
    have hmem : C.getD j 0 ∈ C := by rw [List.getD_eq_getElem?_getD, List.getElem?_eq_getElem hlt]; exact List.getElem_mem hlt
    have hin : C.getD j 0 ∈ numO := SB.out _ (inC.out _ hmem)
    have hx0 := CT.out.ln _ (inC.out _ hmem)
    have hx1 := OR.out.n1 (C.getD j 0)
    have c2 := cell_stay (Xw8.out.1.num hin) (HKr.out w.heap.size Xw8.out.2).2
    have HT := hide (numTake (o := o) hlt)
    have hfl : ((C.take j).flatMap (numF o)).length ≤ 9 * C.length := by
      have q := flat_le (f := numF o) (l := C.take j) (fun x _ => numF_le OR.out x)
      rw [List.length_take] at q; omega
    clear hin hmem
    obtain ⟨q, hq⟩ : ∃ q, q = C.getD j 0 := ⟨_, rfl⟩
    rw [← hq] at c1 c2 hx0 hx1 HT
    obtain ⟨x, hx⟩ : ∃ x : Nat, o.num q = (x : Int) := ⟨(o.num q).toNat, by omega⟩
    have hnf : numF o q = form x := by unfold numF; rw [hx, Int.toNat_natCast]
    rw [hnf] at HT
    rw [hx] at c2 hx0 hx1
    have hw := wrap_nat (x := x) (by omega)
    clear hq hx hnf
    go_wp2_with fail
    refine (Num_w HSt.out x (by have := LN.out; have := Pw8.out; simp only [List.length_append]; omega) (by omega)).mono ?_
    rintro e wt ⟨vt, rfl, h5, k5⟩
    have H5 := hide h5
    have K5 := hide k5
    clear h5 k5
    go_wp2_with fail
    go_roundw
    case rel => exact ⟨j + 1, vt, by omega, by go_num, by rw [HT.out, ← List.append_assoc]; exact H5.out, HKr.out.trans K5.out⟩
    case measure => (first | (simp [intOf]; done) | (simp [intOf]; omega))
  obtain rfl : j = C.length := by omega
  rw [List.take_length] at HSt
  have hle66 : ¬ ((C.length : Int) < (C.length : Int)) := by omega
  obtain ⟨w9, hnw⟩ : ∃ q : World, q = wr := ⟨wr, rfl⟩
  subst hnw
  obtain ⟨v9, hnv⟩ : ∃ q : Value, q = v' := ⟨v', rfl⟩
  subst hnv
  have Pw9 := hide (show (pre3 ++ C.flatMap (numF o)).length ≤ 208 by
    have q := flat_le (f := numF o) (l := C) (fun x _ => numF_le OR.out x)
    have := LN.out
    have := Pw8.out
    simp only [List.length_append]; omega)
  obtain ⟨pre4, hpre⟩ : ∃ q, q = pre3 ++ C.flatMap (numF o) := ⟨_, rfl⟩
  rw [← hpre] at HSt Pw9
  have Epre4 := hide hpre
  have Hw9 := hide HSt.out
  have Xw9 := hide (show BoxO w9 w.heap.size o ov ∧ Sep w9 g v9 w.heap.size from ⟨Xw8.out.1.stays (HKr.out _ Xw8.out.2).2, (HKr.out _ Xw8.out.2).1⟩)
  have Sw9 := hide (show 0 < o.offs.length → ∀ b, ov.ownBlock = some b → Sep w9 g v9 b ∧ w9.heap[b]? = w.heap[b]? from fun h0 b e => ⟨(HKr.out b (Sw8.out h0 b e).1).1, (HKr.out b (Sw8.out h0 b e).1).2.trans (Sw8.out h0 b e).2⟩)
  have Kw9 := hide HKr.out
  clear hpre HSt HKr hj hj0 hlt
  have FO := hide (show formO o = pre4 ++ (if o.kind = 4 then offsF o.offs else []) by
    unfold formO
    rw [Epre4.out, Epre3.out, Epre2.out, Epre1.out, EA.out.1, EA.out.2.1, EA.out.2.2])
  have OKO := hide (show ∀ x ∈ o.offs, okOff x from fun x hx => ⟨(OR.out.o1 x hx).1, CT.out.oc x hx, (OR.out.o1 x hx).2.2⟩)
  have LF := hide (show (formO o).length ≤ 2000 by
    rw [FO.out, List.length_append]
    have := Pw9.out
    split
    · unfold offsF
      rw [List.length_append]
      have q1 := offFs_le OKO.out
      have q2 := form_le (x := o.offs.length) (by have := CT.out.ol; omega)
      have := CT.out.ol
      omega
    · simp; omega)
  have FP := hide (show 0 < (formO o).length by
    unfold formO
    simp only [List.length_append]
    have := form_pos o.kind.toNat
    omega)
  have x0 : w9.cell? ⟨w.heap.size, 0, none⟩ = some (.int .i64 (kn : Int)) := by rw [← HKN.out]; exact Xw9.out.1.c 0 (by decide)
  have x16 : w9.cell? ⟨w.heap.size, 16, none⟩ = some ov := Xw9.out.1.c 16 (by decide)
  by_cases hk4 : kn = 4
  · have e4 : o.kind = 4 := by rw [HKN.out]; omega
    have HF := hide (show formO o = pre4 ++ offsF o.offs by rw [FO.out, if_pos e4])
    have d4 : ((kn : Int) == 4) = true := by rw [beq_iff_eq]; omega
    clear e4
    go_wp2_with fail
    refine (List_w Hw9.out ov o.offs (HO.out.stays (fun h0 b e => (Sw9.out h0 b e).2)) (fun h0 b e => (Sw9.out h0 b e).1) (by have := Pw9.out; have := CT.out.ol; omega) OKO.out).mono ?_
    rintro e w10 ⟨v10, rfl, h10, k10⟩
    have H10 := hide (show WSt w w10 g v10 (formO o) by rw [HF.out]; exact h10)
    clear h10 k10
    go_wp2_with fail
    refine (Bytes_c g _ _ _ H10.out.o (by have := LF.out; omega) FP.out).mono ?_
    rintro e wb ⟨g2, cap2, rfl, hg2, own2, hb2⟩
    have HB2 := hide (bstep H10.out.b hb2)
    have OW2 := hide (own_base own2 (Nat.le_trans H10.out.b.size hg2))
    clear own2 hb2 hg2
    go_wp2_with fail
    refine bodyPost_ret (v := .tuple #[.slice (some ⟨g2, 0, none⟩) (formO o).length cap2, .int .i64 0]) (by simp [results, Try.f11, go_sem]) rfl ⟨_, rfl, OW2.out, HB2.out⟩
  · have e4 : ¬ o.kind = 4 := by rw [HKN.out]; omega
    have H10 := hide (show WSt w w9 g v9 (formO o) by rw [FO.out, if_neg e4, List.append_nil]; exact Hw9.out)
    have d4 : ((kn : Int) == 4) = false := by rw [beq_eq_false_iff_ne]; omega
    clear e4
    go_wp2_with fail
    refine (Bytes_c g _ _ _ H10.out.o (by have := LF.out; omega) FP.out).mono ?_
    rintro e wb ⟨g2, cap2, rfl, hg2, own2, hb2⟩
    have HB2 := hide (bstep H10.out.b hb2)
    have OW2 := hide (own_base own2 (Nat.le_trans H10.out.b.size hg2))
    clear own2 hb2 hg2
    go_wp2_with fail
    refine bodyPost_ret (v := .tuple #[.slice (some ⟨g2, 0, none⟩) (formO o).length cap2, .int .i64 0]) (by simp [results, Try.f11, go_sem]) rfl ⟨_, rfl, OW2.out, HB2.out⟩

end Go.Proofs.Ytalnipjaekpbhaa

namespace Go.Proofs.Ytalnipjaekpbhaa
open Go.ChangeShapes Go.WideShapes Go.ChangeAt Go.RowKit Go.Deep
set_option linter.unusedSimpArgs false
set_option linter.unusedVariables false

def le4 (s : Nat) : List Nat := [s % 256, s / 256 % 256, s / 65536 % 256, s / 16777216 % 256]
def headF (f : List Nat) : List Nat := [f.length / 256 % 256, f.length % 256] ++ f
/-- an order's frame -/
def frameO (o : Ord) : List Nat := headF (formO o) ++ le4 (crc (headF (formO o)))
abbrev u8L (l : List Nat) : List Value := l.map (fun (b : Nat) => Value.int .u8 (b : Int))
set_option maxRecDepth 100000 in
set_option maxHeartbeats 8000000 in
theorem Frame_bad (o : Ord) (ov : Value) (w : World) (ho : OffsIn w ov o.offs) (hc : chk o = false) : Calls Try.prog 12 #[ordV o ov] w fun e w' => e = .returned (.tuple #[.slice none 0 0, .int .i64 2]) ∧ Below w.heap.size w w' := by
  obtain ⟨W, hW⟩ : ∃ W, W = w.alloc (.cells (ordCells o ov).toArray 29) := ⟨_, rfl⟩
  have hb0 : Below w.heap.size w W := by rw [hW]; exact (Below.refl _ _).alloc (Nat.le_refl _) _
  have hbox : BoxO W w.heap.size o ov := by rw [hW]; exact box_made w o _
  have C := hide (Form_bad o ov W (ho.below hb0) hc)
  have HW := hide hW
  have HB0 := hide hb0
  have HBX := hide hbox
  clear hb0 hbox hW ho hc
  unfold ordV at C ⊢
  go_enter Try.func12, Try.ntmps12
  go_upto_region 1 with fail
  rw [← HW.out]
  go_wp2_with (refine wpList_load_mid rfl 29 _ rfl w.heap.size 0 rfl (ordCells o ov) _ HBX.out.range Try.underlying29 rfl (by rw [ordCells_len]; kernel_rfl) ?_)
  refine C.out.mono ?_
  rintro e w1 ⟨rfl, hb⟩
  go_wp2_with fail
  refine bodyPost_ret (v := .tuple #[.slice none 0 0, .int .i64 2]) (by simp [results, Try.f12, go_sem]) rfl ⟨rfl, bstep HB0.out hb⟩
theorem own_lower {w : World} {a b : Nat} {e : TypeId} {size : Nat} {v : Value} {n : Nat} {xs : List Value} (h : w.ownsRow a e size v n xs) (hb : b ≤ a) : w.ownsRow b e size v n xs := by
  refine ⟨h.1, ?_⟩
  rcases h.2 with q | ⟨g, cap, cur, h1, h2, h3⟩
  · exact .inl q
  · exact .inr ⟨g, cap, cur, h1, by omega, h3⟩
theorem ByteIn.of_own {w : World} {B : Nat} {v : Value} {l : List Nat} (h : w.ownsRow B 5 1 v l.length (u8L l)) (h8 : ∀ x ∈ l, x < 256) (hl : l.length ≤ 1099511627776) : ByteIn w v l := by
  refine ⟨own_any h, fun j hj => ?_, h8, hl⟩
  obtain ⟨g, c, rfl, -, -⟩ := h.form (by omega)
  refine ⟨g, 0, c, rfl, ?_⟩
  rw [Nat.zero_add, h.cellAt j (by omega), List.getElem?_map, List.getD_eq_getElem?_getD, List.getElem?_eq_getElem hj]
  rfl
theorem form_lt' {x : Nat} (hx : x < 18446744073709551616) : ∀ b ∈ form x, b < 256 := form_lt hx
theorem sb_lt (s : ByteArray) : ∀ b ∈ sb s, b < 256 := by
  unfold sb
  intro b hb
  simp at hb
  obtain ⟨u, -, rfl⟩ := hb
  exact UInt8.toNat_lt u
set_option maxRecDepth 100000 in
set_option maxHeartbeats 8000000 in
theorem Frame_ok (o : Ord) (ov : Value) (w : World) (ho : OffsIn w ov o.offs) (hc : chk o = true) (hr : OrdR o) (hl : (formO o).length ≤ 2000) (h8 : ∀ b ∈ formO o, b < 256) : Calls Try.prog 12 #[ordV o ov] w fun e w' => ∃ v, e = .returned (.tuple #[v, .int .i64 0]) ∧ w'.ownsRow w.heap.size 5 1 v (frameO o).length (u8L (frameO o)) ∧ Below w.heap.size w w' := by
  obtain ⟨W, hW⟩ : ∃ W, W = w.alloc (.cells (ordCells o ov).toArray 29) := ⟨_, rfl⟩
  have hb0 : Below w.heap.size w W := by rw [hW]; exact (Below.refl _ _).alloc (Nat.le_refl _) _
  have hbox : BoxO W w.heap.size o ov := by rw [hW]; exact box_made w o _
  have C := hide (Form_ok o ov W (ho.below hb0) hc hr)
  have HW := hide hW
  have HB0 := hide hb0
  have HBX := hide hbox
  obtain ⟨i5, hi5, hz5, hs5, hb5⟩ := info_parts info5
  clear hb0 hbox hW ho hc hr
  unfold ordV at C ⊢
  go_enter Try.func12, Try.ntmps12
  go_upto_region 1 with fail
  rw [← HW.out]
  go_wp2_with (refine wpList_load_mid rfl 29 _ rfl w.heap.size 0 rfl (ordCells o ov) _ HBX.out.range Try.underlying29 rfl (by rw [ordCells_len]; kernel_rfl) ?_)
  refine C.out.mono ?_
  rintro e w1 ⟨v1, rfl, own1, hb1⟩
  obtain ⟨a1, c1, rfl⟩ := own_any own1
  have HB1 := hide (bstep HB0.out hb1)
  have O1 := hide own1
  obtain ⟨f, hf⟩ : ∃ f, f = formO o := ⟨_, rfl⟩
  rw [← hf] at O1 hl h8
  have HF := hide hf
  rw [← hf]
  clear own1 hb1 C hf
  have hl' : (f.length : Int) ≤ 2000 := by omega
  have hv2 : ∀ u ∈ u8L f, u.oneCell' = true := fun u hu => by obtain ⟨x, _, rfl⟩ := List.mem_map.1 hu; rfl
  have hz1 := HB1.out.size
  have hzW := HB0.out.size
  go_wp2_with (at_builtin; refine wpList_append_rows _ rfl _ _ 30 rfl 5 i5 (.int .u8 0) 1 1 Try.underlying30 hi5 hz5 hs5 hb5 rfl (by decide) w1.heap.size W.heap.size (.slice (some ⟨w1.heap.size, 0, none⟩) 2 2) 2 [.int .u8 ((f.length : Int) / 256), .int .u8 ((f.length : Int) % 256)] rfl (World.ownsRow_lit w1 #[.int .u8 ((f.length : Int) / 256), .int .u8 ((f.length : Int) % 256)] 2 (Nat.le_refl _) (by decide) rfl) (.slice a1 f.length c1) f.length (u8L f) rfl (own_below O1.out ((Below.refl _ _).alloc (Nat.le_refl _) _)) hv2 (by unfold maxLen; omega) (by omega) (by simp) ?_; intro v2 w2 own2 hg2; obtain ⟨a2, c2, rfl⟩ := own_any own2; have OW2 := hide own2; have HG2 := hide hg2; clear own2 hg2)
  have HB2 := hide (show Below w.heap.size w w2 from (show Below w.heap.size w _ from HB1.out.alloc HB1.out.size _).grown HG2.out (by simp; omega) (fun r e => by
    have q : w1.heap.size = r := Option.some.inj e
    omega))
  have HZ2 := hide (show w1.heap.size ≤ w2.heap.size by have q := HG2.out.size; rw [World.size_alloc] at q; omega)
  obtain ⟨hd, hhd⟩ : ∃ hd, hd = headF f := ⟨_, rfl⟩
  have hdl : 2 + f.length = hd.length := by rw [hhd]; unfold headF; simp; omega
  have R2 := hide (show w2.ownsRow w1.heap.size 5 1 (.slice a2 hd.length c2) hd.length (u8L hd) by
    have q := OW2.out
    rw [hdl] at q
    have e : [Value.int .u8 ((f.length : Int) / 256), Value.int .u8 ((f.length : Int) % 256)] ++ u8L f = u8L hd := by
      rw [hhd]
      unfold headF u8L
      rw [List.map_append]
      congr 1
      simp
      omega
    rw [e] at q; exact q)
  have HHD := hide hhd
  try rw [hdl]
  have hdl0 := hdl
  have hdl2 : hd.length ≤ 2002 := by omega
  have hd8 : ∀ b ∈ hd, b < 256 := by
    rw [hhd]; unfold headF
    intro b hb
    rcases List.mem_append.1 hb with h | h
    · simp at h; omega
    · exact h8 b h
  have BI2 := hide (show ByteIn w2 (.slice a2 hd.length c2) hd from ByteIn.of_own R2.out hd8 (by omega))
  clear hdl hhd OW2 HG2 hv2
  go_wp2_with fail
  obtain ⟨W3, hW3⟩ : ∃ W3, W3 = w2.alloc (.cells #[.slice a2 hd.length c2] 30) := ⟨_, rfl⟩
  have hb3 : Below w2.heap.size w2 W3 := by rw [hW3]; exact (Below.refl _ _).alloc (Nat.le_refl _) _
  have hc3 : W3.cell? ⟨w2.heap.size, 0, none⟩ = some (.slice a2 hd.length c2) := by rw [hW3]; simp [go_sem]
  try rw [hdl0]
  rw [← hW3]
  have R3 := hide (own_below R2.out hb3)
  have HB3 := hide (bstep HB2.out hb3)
  have hzz := hb3.size
  refine (Sum_c w2.heap.size 1 (fun _ => .slice a2 hd.length c2) [hd] W3 (fun i hi => by
    obtain rfl : i = 0 := by simpa using hi
    exact ⟨hc3, BI2.out.below hb3⟩) (by simp)).mono ?_
  rintro e w3 ⟨rfl, hw3⟩
  subst w3
  obtain ⟨s, hs⟩ : ∃ s, s = crc hd := ⟨_, rfl⟩
  have e1 : crc [hd].flatten = s := by rw [hs]; simp
  rw [e1]
  have hs32 : s < 4294967296 := by rw [hs]; unfold crc; omega
  have HS := hide hs
  have HS32 := hide hs32
  have HZ3 := hide (show w1.heap.size ≤ W3.heap.size by have := HZ2.out; omega)
  clear hs e1 hW3 hb3 hc3 BI2 hs32 hdl0 hzz
  go_wp2_with (at_builtin; refine wpList_append_rows _ rfl _ _ 30 rfl 5 i5 (.int .u8 0) 1 1 Try.underlying30 hi5 hz5 hs5 hb5 rfl (by decide) w1.heap.size W3.heap.size (.slice a2 hd.length c2) hd.length (u8L hd) rfl (own_below R3.out ((Below.refl _ _).alloc (Nat.le_refl _) _)) (.slice (some ⟨W3.heap.size, 0, none⟩) 4 4) 4 [.int .u8 ((s : Int) % 256), .int .u8 ((s : Int) / 256 % 256), .int .u8 ((s : Int) / 65536 % 256), .int .u8 ((s : Int) / 16777216 % 256)] rfl (World.ownsRow_lit W3 #[.int .u8 ((s : Int) % 256), .int .u8 ((s : Int) / 256 % 256), .int .u8 ((s : Int) / 65536 % 256), .int .u8 ((s : Int) / 16777216 % 256)] 4 (Nat.le_refl _) (by decide) rfl) (by intro u hu; simp at hu; rcases hu with rfl | rfl | rfl | rfl <;> rfl) (by unfold maxLen; omega) (by omega) (by have := HZ3.out; simp; omega) ?_; intro v4 w4 own4 hg4; obtain ⟨a4, c4, rfl⟩ := own_any own4; have OW4 := hide own4; have HG4 := hide hg4; clear own4 hg4)
  have HB4 := hide (show Below w.heap.size w w4 from (show Below w.heap.size w _ from HB3.out.alloc HB3.out.size _).grown HG4.out (by have := HB3.out.size; simp; omega) (fun r e => by have := (R3.out.lt r e).1; have := HB1.out.size; omega))
  have hfl : hd.length + 4 = (frameO o).length := by
    unfold frameO; rw [← HF.out, ← HHD.out, List.length_append]; rfl
  have R4 := hide (show w4.ownsRow w.heap.size 5 1 (.slice a4 (frameO o).length c4) (frameO o).length (u8L (frameO o)) by
    have q := OW4.out
    rw [hfl] at q
    have e : u8L hd ++ [.int .u8 ((s : Int) % 256), .int .u8 ((s : Int) / 256 % 256), .int .u8 ((s : Int) / 65536 % 256), .int .u8 ((s : Int) / 16777216 % 256)] = u8L (frameO o) := by
      unfold frameO
      rw [← HF.out, ← HHD.out, ← HS.out]
      unfold u8L le4
      rw [List.map_append]
      congr 1
    rw [e] at q
    exact own_lower q (by have := HB1.out.size; omega))
  go_wp2_with fail
  refine bodyPost_ret (v := .tuple #[.slice a4 (frameO o).length c4, .int .i64 0]) (by simp [results, Try.f12, go_sem, hfl]) rfl ⟨_, rfl, R4.out, HB4.out⟩
end Go.Proofs.Ytalnipjaekpbhaa

namespace Go.Proofs.Ytalnipjaekpbhaa
open Go.ChangeShapes Go.WideShapes Go.ChangeAt Go.RowKit Go.Deep
set_option linter.unusedSimpArgs false
set_option linter.unusedVariables false

theorem flds93 : (Try.prog.fieldsOf 93).toList.map (fun f => (decide (f.name = "_"), f.type, f.offset)) = [(false, 91, 0), (false, 2, 1)] := by kernel_rfl
theorem off_neq (a b : Nat) (x y : Int) (w : World) : Sem.run Try.prog (binOp .neq 93 (.agg #[.int .u32 (a : Int), .int .i64 x]) (.agg #[.int .u32 (b : Int), .int .i64 y])) w = .ok (.bool (!(((a : Int) == (b : Int)) && (x == y)))) w := by
  rw [run_neq_struct, run_equalIn_agg w 9999 93 _ _ (by kernel_rfl) (by kernel_rfl)]
  have hf := flds93
  generalize (Try.prog.fieldsOf 93).toList = fs at hf
  obtain ⟨f, r, rfl, hf1, hf2⟩ := List.map_eq_cons_iff.1 hf
  obtain ⟨g, r2, rfl, hg1, hg2⟩ := List.map_eq_cons_iff.1 hf2
  obtain rfl : r2 = [] := by simpa using hg2
  simp only [Prod.mk.injEq, decide_eq_false_iff_not] at hf1 hg1
  obtain ⟨f1, f2, f3⟩ := hf1
  obtain ⟨g1, g2, g3⟩ := hg1
  have pa : ∀ (c : Nat) (z : Int), (part f.type #[.int .u32 (c : Int), .int .i64 z] f.offset).run Try.prog w = .ok (.int .u32 (c : Int)) w := fun c z => by rw [f2, f3]; kernel_rfl
  have pb : ∀ (c : Nat) (z : Int), (part g.type #[.int .u32 (c : Int), .int .i64 z] g.offset).run Try.prog w = .ok (.int .i64 z) w := fun c z => by rw [g2, g3]; kernel_rfl
  rw [eqFields_all w 9999 _ _ [f, g] (fun q => if q.offset = 0 then ((a : Int) == (b : Int)) else (x == y)) (fun q hq => by
    rcases List.mem_cons.1 hq with rfl | hq
    · exact ⟨f1, _, _, pa a x, pa b y, by rw [run_equalIn_int w 9998 _ .u32 .u32 _ _ (by rw [f2]; kernel_rfl), if_pos f3]⟩
    · obtain rfl : q = g := by simpa using hq
      exact ⟨g1, _, _, pb a x, pb b y, by rw [run_equalIn_int w 9998 _ .i64 .i64 _ _ (by rw [g2]; kernel_rfl), if_neg (by rw [g3]; decide)]⟩)]
  simp [f3, g3, Result.andThen_ok]
set_option maxRecDepth 100000 in
set_option maxHeartbeats 8000000 in
theorem SameOff_c (va vb : Value) (la lb : List (Nat × Int)) (w : World) (ha : OffsIn w va la) (hb : OffsIn w vb lb) : Calls Try.prog 64 #[va, vb] w fun e w' => e = .returned (.bool (decide (la = lb))) ∧ Below w.heap.size w w' := by
  have HA := hide ha
  have HB := hide hb
  obtain ⟨pa, ca, rfl⟩ := ha.val
  obtain ⟨pb, cb, rfl⟩ := hb.val
  have hla := ha.len
  have hlb := hb.len
  clear ha hb
  by_cases hl : la.length = lb.length
  · have hli : (la.length : Int) = (lb.length : Int) := by omega
    have d0 : ((la.length : Int) != (lb.length : Int)) = false := by simp [hl]
    obtain ⟨n, hn⟩ : ∃ n, n = lb.length := ⟨_, rfl⟩
    rw [hl, ← hn] at HA
    rw [← hn] at HB hlb
    rw [hl, ← hn]
    have hn1 : la.length = n := hl.trans hn.symm
    have HN1 := hide hn1
    have HN2 := hide hn
    clear hl hli d0 hn1 hn hla
    go_enter Try.func64, Try.ntmps64
    go_wp2_with fail
    go_loopw [5] (fun v5 wr => ∃ j : Nat, j ≤ n ∧ v5 = .int .i64 (j : Int) ∧ la.take j = lb.take j ∧ Below w.heap.size w wr) (fun v5 _ => n - (intOf v5).toNat)
    case atStart => exact ⟨0, Nat.zero_le _, rfl, by simp, Below.refl _ _⟩
    case round =>
      obtain ⟨j, hj, rfl, ht, hbw⟩ := hrel
      have HT := hide ht
      have HBW := hide hbw
      have hj0 : (0 : Int) ≤ (j : Int) := by omega
      clear ht hbw
      by_cases hlt : j < n
      · have hlt' : (j : Int) < (n : Int) := by omega
        obtain ⟨b1, o1, c1, e1, x1, x2⟩ := (HA.out.below HBW.out).at_ j (by rw [HN1.out]; exact hlt)
        obtain ⟨b2, o2, c2, e2, y1, y2⟩ := (HB.out.below HBW.out).at_ j (by rw [← HN2.out]; exact hlt)
        injection e1 with e1 _ ec1
        injection e2 with e2 _ ec2
        subst e1 e2 ec1 ec2
        have ga : la[j]? = some (la.getD j (0, 0)) := by rw [List.getD_eq_getElem?_getD, List.getElem?_eq_getElem (by rw [HN1.out]; exact hlt)]; rfl
        have gb : lb[j]? = some (lb.getD j (0, 0)) := by rw [List.getD_eq_getElem?_getD, List.getElem?_eq_getElem (by rw [← HN2.out]; exact hlt)]; rfl
        obtain ⟨p, hp⟩ : ∃ p, p = la.getD j (0, 0) := ⟨_, rfl⟩
        obtain ⟨q, hq⟩ : ∃ q, q = lb.getD j (0, 0) := ⟨_, rfl⟩
        rw [← hp] at x1 x2 ga
        rw [← hq] at y1 y2 gb
        have GA := hide ga
        have GB := hide gb
        clear hp hq ga gb
        have hne := off_neq p.1 q.1 p.2 q.2
        by_cases hpq : p = q
        · have d : (!(((p.1 : Int) == (q.1 : Int)) && (p.2 == q.2))) = false := by rw [hpq]; simp
          rw [d] at hne
          have HPQ := hide hpq
          clear hpq d
          go_wp2_with fail
          go_quiet (fail)
          go_wp2_with fail
          go_roundw
          case rel =>
            refine ⟨j + 1, by omega, by go_num, ?_, bdrewN HBW.out _⟩
            rw [List.take_add_one, List.take_add_one, HT.out, GA.out, GB.out, HPQ.out]
          case measure => (first | (simp [intOf]; done) | (simp [intOf]; omega))
        · have d : (!(((p.1 : Int) == (q.1 : Int)) && (p.2 == q.2))) = true := by
            rw [Bool.not_eq_true', Bool.and_eq_false_iff]
            by_cases h1 : p.1 = q.1
            · exact .inr (by rw [beq_eq_false_iff_ne]; exact fun h2 => hpq (Prod.ext h1 h2))
            · exact .inl (by rw [beq_eq_false_iff_ne]; omega)
          rw [d] at hne
          have HC := hide (show decide (la = lb) = false from decide_eq_false (fun e => hpq (by
            have e1 := GA.out
            rw [e, GB.out] at e1
            exact (Option.some.inj e1).symm)))
          clear hpq d
          go_wp2_with fail
          go_quiet (fail)
          go_wp2_with fail
          refine bodyPost_ret (v := .bool false) (by simp [results, Try.f64, go_sem]) rfl ⟨by rw [HC.out], bdrewN HBW.out _⟩
      · obtain rfl : j = n := by omega
        have HC := hide (show decide (la = lb) = true from decide_eq_true (by
          have q := HT.out
          rw [List.take_of_length_le (by rw [HN1.out]; exact Nat.le_refl _), List.take_of_length_le (by rw [← HN2.out]; exact Nat.le_refl _)] at q
          exact q))
        go_wp2_with fail
        refine bodyPost_ret (v := .bool true) (by simp [results, Try.f64, go_sem]) rfl ⟨by rw [HC.out], HBW.out⟩
  · have d0 : ((la.length : Int) != (lb.length : Int)) = true := by simp; omega
    have hli : ¬ (la.length : Int) = (lb.length : Int) := by omega
    have HC := hide (show decide (la = lb) = false from decide_eq_false (fun e => hl (by rw [e])))
    clear hl
    go_enter Try.func64, Try.ntmps64
    go_wp2_with fail
    refine bodyPost_ret (v := .bool false) (by simp [results, Try.f64, go_sem]) rfl ⟨by rw [HC.out], Below.refl _ _⟩
/-- are two orders the same? -/
def sameO (a b : Ord) : Bool := decide (a.kind = b.kind) && (decide ((bstr a.name).toList = (bstr b.name).toList) && (decide (a.num 2 = b.num 2) && (decide (a.num 3 = b.num 3) && (decide (a.num 4 = b.num 4) && ((lotO.all fun j => a.num j == b.num j) && (decide (a.num 17 = b.num 17) && decide (a.offs = b.offs)))))))
set_option maxRecDepth 100000 in
set_option maxHeartbeats 16000000 in
theorem Same_c (a b : Ord) (va vb : Value) (w : World) (ha : OffsIn w va a.offs) (hb : OffsIn w vb b.offs) : Calls Try.prog 21 #[ordV a va, ordV b vb] w fun e w' => e = .returned (.bool (sameO a b)) ∧ Below w.heap.size w w' := by
  obtain ⟨W, hW⟩ : ∃ W, W = (w.alloc (.cells (ordCells a va).toArray 29)).alloc (.cells (ordCells b vb).toArray 29) := ⟨_, rfl⟩
  have hb1 : Below w.heap.size w (w.alloc (.cells (ordCells a va).toArray 29)) := (Below.refl _ _).alloc (Nat.le_refl _) _
  have hb0 : Below w.heap.size w W := by rw [hW]; exact hb1.alloc hb1.size _
  have bx1 : BoxO W w.heap.size a va := by rw [hW]; exact (box_made w a va).below ((Below.refl _ _).alloc (Nat.le_refl _) _)
  have bx2 : BoxO W (w.heap.size + 1) b vb := by
    rw [hW]
    have q := box_made (w.alloc (.cells (ordCells a va).toArray 29)) b vb
    rw [World.size_alloc] at q
    exact q
  have CO := hide (SameOff_c va vb a.offs b.offs W (ha.below hb0) (hb.below hb0))
  have HW := hide hW
  have HB0 := hide hb0
  have x0 : W.cell? ⟨w.heap.size, 0, none⟩ = some (.int .i64 a.kind) := bx1.c 0 (by decide)
  have x1 : W.cell? ⟨w.heap.size, 1, none⟩ = some (.string (bstr a.name)) := bx1.c 1 (by decide)
  have x2 : W.cell? ⟨w.heap.size, 2, none⟩ = some (.int .i64 (a.num 2)) := bx1.c 2 (by decide)
  have x3 : W.cell? ⟨w.heap.size, 3, none⟩ = some (.int .i64 (a.num 3)) := bx1.c 3 (by decide)
  have x4 : W.cell? ⟨w.heap.size, 4, none⟩ = some (.int .i64 (a.num 4)) := bx1.c 4 (by decide)
  have x5 : W.cell? ⟨w.heap.size, 5, none⟩ = some (.int .i64 (a.num 5)) := bx1.c 5 (by decide)
  have x6 : W.cell? ⟨w.heap.size, 6, none⟩ = some (.int .i64 (a.num 6)) := bx1.c 6 (by decide)
  have x7 : W.cell? ⟨w.heap.size, 7, none⟩ = some (.int .i64 (a.num 7)) := bx1.c 7 (by decide)
  have x8 : W.cell? ⟨w.heap.size, 8, none⟩ = some (.int .i64 (a.num 8)) := bx1.c 8 (by decide)
  have x9 : W.cell? ⟨w.heap.size, 9, none⟩ = some (.int .i64 (a.num 9)) := bx1.c 9 (by decide)
  have x10 : W.cell? ⟨w.heap.size, 10, none⟩ = some (.int .i64 (a.num 10)) := bx1.c 10 (by decide)
  have x11 : W.cell? ⟨w.heap.size, 11, none⟩ = some (.int .i64 (a.num 11)) := bx1.c 11 (by decide)
  have x12 : W.cell? ⟨w.heap.size, 12, none⟩ = some (.int .i64 (a.num 12)) := bx1.c 12 (by decide)
  have x13 : W.cell? ⟨w.heap.size, 13, none⟩ = some (.int .i64 (a.num 13)) := bx1.c 13 (by decide)
  have x14 : W.cell? ⟨w.heap.size, 14, none⟩ = some (.int .i64 (a.num 14)) := bx1.c 14 (by decide)
  have x15 : W.cell? ⟨w.heap.size, 15, none⟩ = some (.int .i64 (a.num 15)) := bx1.c 15 (by decide)
  have x16 : W.cell? ⟨w.heap.size, 16, none⟩ = some (va) := bx1.c 16 (by decide)
  have x17 : W.cell? ⟨w.heap.size, 17, none⟩ = some (.int .i64 (a.num 17)) := bx1.c 17 (by decide)
  have y0 : W.cell? ⟨w.heap.size + 1, 0, none⟩ = some (.int .i64 b.kind) := bx2.c 0 (by decide)
  have y1 : W.cell? ⟨w.heap.size + 1, 1, none⟩ = some (.string (bstr b.name)) := bx2.c 1 (by decide)
  have y2 : W.cell? ⟨w.heap.size + 1, 2, none⟩ = some (.int .i64 (b.num 2)) := bx2.c 2 (by decide)
  have y3 : W.cell? ⟨w.heap.size + 1, 3, none⟩ = some (.int .i64 (b.num 3)) := bx2.c 3 (by decide)
  have y4 : W.cell? ⟨w.heap.size + 1, 4, none⟩ = some (.int .i64 (b.num 4)) := bx2.c 4 (by decide)
  have y5 : W.cell? ⟨w.heap.size + 1, 5, none⟩ = some (.int .i64 (b.num 5)) := bx2.c 5 (by decide)
  have y6 : W.cell? ⟨w.heap.size + 1, 6, none⟩ = some (.int .i64 (b.num 6)) := bx2.c 6 (by decide)
  have y7 : W.cell? ⟨w.heap.size + 1, 7, none⟩ = some (.int .i64 (b.num 7)) := bx2.c 7 (by decide)
  have y8 : W.cell? ⟨w.heap.size + 1, 8, none⟩ = some (.int .i64 (b.num 8)) := bx2.c 8 (by decide)
  have y9 : W.cell? ⟨w.heap.size + 1, 9, none⟩ = some (.int .i64 (b.num 9)) := bx2.c 9 (by decide)
  have y10 : W.cell? ⟨w.heap.size + 1, 10, none⟩ = some (.int .i64 (b.num 10)) := bx2.c 10 (by decide)
  have y11 : W.cell? ⟨w.heap.size + 1, 11, none⟩ = some (.int .i64 (b.num 11)) := bx2.c 11 (by decide)
  have y12 : W.cell? ⟨w.heap.size + 1, 12, none⟩ = some (.int .i64 (b.num 12)) := bx2.c 12 (by decide)
  have y13 : W.cell? ⟨w.heap.size + 1, 13, none⟩ = some (.int .i64 (b.num 13)) := bx2.c 13 (by decide)
  have y14 : W.cell? ⟨w.heap.size + 1, 14, none⟩ = some (.int .i64 (b.num 14)) := bx2.c 14 (by decide)
  have y15 : W.cell? ⟨w.heap.size + 1, 15, none⟩ = some (.int .i64 (b.num 15)) := bx2.c 15 (by decide)
  have y16 : W.cell? ⟨w.heap.size + 1, 16, none⟩ = some (vb) := bx2.c 16 (by decide)
  have y17 : W.cell? ⟨w.heap.size + 1, 17, none⟩ = some (.int .i64 (b.num 17)) := bx2.c 17 (by decide)
  have hlot : ∀ V, Sem.run Try.prog (binOp .eql 26 (.agg #[.int .i64 (a.num 5), .int .i64 (a.num 6), .int .i64 (a.num 7), .int .i64 (a.num 8), .int .i64 (a.num 9), .int .i64 (a.num 10), .int .i64 (a.num 11), .int .i64 (a.num 12), .int .i64 (a.num 13), .int .i64 (a.num 14), .int .i64 (a.num 15)]) (.agg #[.int .i64 (b.num 5), .int .i64 (b.num 6), .int .i64 (b.num 7), .int .i64 (b.num 8), .int .i64 (b.num 9), .int .i64 (b.num 10), .int .i64 (b.num 11), .int .i64 (b.num 12), .int .i64 (b.num 13), .int .i64 (b.num 14), .int .i64 (b.num 15)])) V = .ok (.bool (lotO.all fun j => a.num j == b.num j)) V := fun V => lot_eql a.num b.num V
  obtain ⟨lb, hlb⟩ : ∃ lb, lb = (lotO.all fun j => a.num j == b.num j) := ⟨_, rfl⟩
  rw [← hlb] at hlot
  have HLB := hide hlb
  clear hlb
  obtain ⟨pa, ca, rfl⟩ := ha.val
  obtain ⟨pb, cb, rfl⟩ := hb.val
  clear hb0 hb1 bx1 bx2 hW ha hb
  unfold ordV
  go_enter Try.func21, Try.ntmps21
  go_upto_region 1 with fail
  rw [← HW.out]
  by_cases z0 : a.kind = b.kind
  · have dz0 : (a.kind == b.kind) = true := by simp [z0]
    by_cases z1 : (bstr a.name).toList = (bstr b.name).toList
    · have dz1 : ((bstr a.name).toList == (bstr b.name).toList) = true := by simp [z1]
      by_cases z2 : a.num 2 = b.num 2
      · have dz2 : (a.num 2 == b.num 2) = true := by simp [z2]
        by_cases z3 : a.num 3 = b.num 3
        · have dz3 : (a.num 3 == b.num 3) = true := by simp [z3]
          by_cases z4 : a.num 4 = b.num 4
          · have dz4 : (a.num 4 == b.num 4) = true := by simp [z4]
            by_cases z5 : lb = true
            · rw [z5] at hlot
              by_cases z17 : a.num 17 = b.num 17
              · have dz17 : (a.num 17 == b.num 17) = true := by simp [z17]
                go_wp2_with fail
                refine CO.out.mono ?_
                rintro e w2 ⟨rfl, hb2⟩
                have HB2 := hide (bstep HB0.out hb2)
                have HC := hide (show sameO a b = decide (a.offs = b.offs) by unfold sameO; rw [← HLB.out]; simp [z0, z1, z2, z3, z4, z5, z17])
                clear hb2
                go_wp2_with fail
                refine bodyPost_ret (v := .bool (decide (a.offs = b.offs))) (by simp [results, Try.f21, go_sem]) rfl ⟨by rw [HC.out], HB2.out⟩
              · have dz17 : (a.num 17 == b.num 17) = false := by simp [z17]
                have HC := hide (show sameO a b = false by unfold sameO; rw [← HLB.out]; simp [z0, z1, z2, z3, z4, z5, z17])
                skip
                go_wp2_with fail
                refine bodyPost_ret (v := .bool false) (by simp [results, Try.f21, go_sem]) rfl ⟨by rw [HC.out], HB0.out⟩
            · have z5' : lb = false := (by simpa using z5); rw [z5'] at hlot
              have HC := hide (show sameO a b = false by unfold sameO; rw [← HLB.out]; simp [z0, z1, z2, z3, z4, z5])
              clear z5 z5'
              go_wp2_with fail
              refine bodyPost_ret (v := .bool false) (by simp [results, Try.f21, go_sem]) rfl ⟨by rw [HC.out], HB0.out⟩
          · have dz4 : (a.num 4 == b.num 4) = false := by simp [z4]
            have HC := hide (show sameO a b = false by unfold sameO; rw [← HLB.out]; simp [z0, z1, z2, z3, z4])
            skip
            go_wp2_with fail
            refine bodyPost_ret (v := .bool false) (by simp [results, Try.f21, go_sem]) rfl ⟨by rw [HC.out], HB0.out⟩
        · have dz3 : (a.num 3 == b.num 3) = false := by simp [z3]
          have HC := hide (show sameO a b = false by unfold sameO; rw [← HLB.out]; simp [z0, z1, z2, z3])
          skip
          go_wp2_with fail
          refine bodyPost_ret (v := .bool false) (by simp [results, Try.f21, go_sem]) rfl ⟨by rw [HC.out], HB0.out⟩
      · have dz2 : (a.num 2 == b.num 2) = false := by simp [z2]
        have HC := hide (show sameO a b = false by unfold sameO; rw [← HLB.out]; simp [z0, z1, z2])
        skip
        go_wp2_with fail
        refine bodyPost_ret (v := .bool false) (by simp [results, Try.f21, go_sem]) rfl ⟨by rw [HC.out], HB0.out⟩
    · have dz1 : ((bstr a.name).toList == (bstr b.name).toList) = false := by simp [z1]
      have HC := hide (show sameO a b = false by unfold sameO; rw [← HLB.out]; simp [z0, z1])
      skip
      go_wp2_with fail
      refine bodyPost_ret (v := .bool false) (by simp [results, Try.f21, go_sem]) rfl ⟨by rw [HC.out], HB0.out⟩
  · have dz0 : (a.kind == b.kind) = false := by simp [z0]
    have HC := hide (show sameO a b = false by unfold sameO; rw [← HLB.out]; simp [z0])
    skip
    go_wp2_with fail
    refine bodyPost_ret (v := .bool false) (by simp [results, Try.f21, go_sem]) rfl ⟨by rw [HC.out], HB0.out⟩
end Go.Proofs.Ytalnipjaekpbhaa

namespace Go.Proofs.Ytalnipjaekpbhaa
open Go.ChangeShapes Go.WideShapes Go.ChangeAt Go.RowKit Go.Deep
set_option linter.unusedSimpArgs false
set_option linter.unusedVariables false

/-- the numbers that a kind names, in the document's order -/
def numL (k : Int) : List Nat := if k = 1 then [2] else if k = 2 then [3, 2] else if k = 3 then [5, 6, 7, 8, 9, 10, 11, 12, 13, 14, 15] else if k = 4 ∨ k = 5 then [3, 4] else if k = 6 then [17] else []
def numV (o : Ord) (l : List Nat) : List Value := l.map fun j => .int .i64 (o.num j)
set_option maxRecDepth 100000 in
set_option maxHeartbeats 8000000 in
theorem numbers_c (o : Ord) (ov : Value) (w : World) : Calls Try.prog 53 #[ordV o ov] w fun e w' => ∃ v, e = .returned v ∧ w'.ownsRow w.heap.size 2 1 v (numL o.kind).length (numV o (numL o.kind)) ∧ Below w.heap.size w w' := by
  obtain ⟨W, hW⟩ : ∃ W, W = w.alloc (.cells (ordCells o ov).toArray 29) := ⟨_, rfl⟩
  have hb0 : Below w.heap.size w W := by rw [hW]; exact (Below.refl _ _).alloc (Nat.le_refl _) _
  have bx1 : BoxO W w.heap.size o ov := by rw [hW]; exact box_made w o ov
  have HW := hide hW
  have HB0 := hide hb0
  have x0 : W.cell? ⟨w.heap.size, 0, none⟩ = some (.int .i64 o.kind) := bx1.c 0 (by decide)
  have x1 : W.cell? ⟨w.heap.size, 1, none⟩ = some (.string (bstr o.name)) := bx1.c 1 (by decide)
  have x2 : W.cell? ⟨w.heap.size, 2, none⟩ = some (.int .i64 (o.num 2)) := bx1.c 2 (by decide)
  have x3 : W.cell? ⟨w.heap.size, 3, none⟩ = some (.int .i64 (o.num 3)) := bx1.c 3 (by decide)
  have x4 : W.cell? ⟨w.heap.size, 4, none⟩ = some (.int .i64 (o.num 4)) := bx1.c 4 (by decide)
  have x5 : W.cell? ⟨w.heap.size, 5, none⟩ = some (.int .i64 (o.num 5)) := bx1.c 5 (by decide)
  have x6 : W.cell? ⟨w.heap.size, 6, none⟩ = some (.int .i64 (o.num 6)) := bx1.c 6 (by decide)
  have x7 : W.cell? ⟨w.heap.size, 7, none⟩ = some (.int .i64 (o.num 7)) := bx1.c 7 (by decide)
  have x8 : W.cell? ⟨w.heap.size, 8, none⟩ = some (.int .i64 (o.num 8)) := bx1.c 8 (by decide)
  have x9 : W.cell? ⟨w.heap.size, 9, none⟩ = some (.int .i64 (o.num 9)) := bx1.c 9 (by decide)
  have x10 : W.cell? ⟨w.heap.size, 10, none⟩ = some (.int .i64 (o.num 10)) := bx1.c 10 (by decide)
  have x11 : W.cell? ⟨w.heap.size, 11, none⟩ = some (.int .i64 (o.num 11)) := bx1.c 11 (by decide)
  have x12 : W.cell? ⟨w.heap.size, 12, none⟩ = some (.int .i64 (o.num 12)) := bx1.c 12 (by decide)
  have x13 : W.cell? ⟨w.heap.size, 13, none⟩ = some (.int .i64 (o.num 13)) := bx1.c 13 (by decide)
  have x14 : W.cell? ⟨w.heap.size, 14, none⟩ = some (.int .i64 (o.num 14)) := bx1.c 14 (by decide)
  have x15 : W.cell? ⟨w.heap.size, 15, none⟩ = some (.int .i64 (o.num 15)) := bx1.c 15 (by decide)
  have x16 : W.cell? ⟨w.heap.size, 16, none⟩ = some (ov) := bx1.c 16 (by decide)
  have x17 : W.cell? ⟨w.heap.size, 17, none⟩ = some (.int .i64 (o.num 17)) := bx1.c 17 (by decide)
  clear hb0 bx1 hW
  unfold ordV
  go_enter Try.func53, Try.ntmps53
  go_upto_region 1 with fail
  rw [← HW.out]
  by_cases k1 : o.kind = 1
  · have HL := hide (show numL o.kind = [2] by unfold numL; simp [k1])
    rw [k1] at x0
    go_wp2
    refine bodyPost_ret (v := .slice (some ⟨W.heap.size, 0, none⟩) 1 1) (by simp [results, Try.f53, go_sem]) rfl ⟨_, rfl, ?_, ?_⟩
    · rw [HL.out]; exact own_lower (World.ownsRow_lit W #[.int .i64 (o.num 2)] 1 (Nat.le_refl _) (by decide) rfl) HB0.out.size
    · exact HB0.out.alloc HB0.out.size _
  by_cases k2 : o.kind = 2
  · have HL := hide (show numL o.kind = [3, 2] by unfold numL; simp [k2])
    rw [k2] at x0
    go_wp2
    refine bodyPost_ret (v := .slice (some ⟨W.heap.size, 0, none⟩) 2 2) (by simp [results, Try.f53, go_sem]) rfl ⟨_, rfl, ?_, ?_⟩
    · rw [HL.out]; exact own_lower (World.ownsRow_lit W #[.int .i64 (o.num 3), .int .i64 (o.num 2)] 2 (Nat.le_refl _) (by decide) rfl) HB0.out.size
    · exact HB0.out.alloc HB0.out.size _
  by_cases k3 : o.kind = 3
  · have HL := hide (show numL o.kind = [5, 6, 7, 8, 9, 10, 11, 12, 13, 14, 15] by unfold numL; simp [k3])
    rw [k3] at x0
    go_wp2
    refine bodyPost_ret (v := .slice (some ⟨W.heap.size + 1, 0, none⟩) 11 11) (by simp [results, Try.f53, go_sem]) rfl ⟨_, rfl, ?_, ?_⟩
    · rw [HL.out]; exact own_lower (lit_second W _ W.heap.size 2 #[.int .i64 (o.num 5), .int .i64 (o.num 6), .int .i64 (o.num 7), .int .i64 (o.num 8), .int .i64 (o.num 9), .int .i64 (o.num 10), .int .i64 (o.num 11), .int .i64 (o.num 12), .int .i64 (o.num 13), .int .i64 (o.num 14), .int .i64 (o.num 15)] 11 (by decide) rfl) HB0.out.size
    · exact bstep HB0.out (two_below W _ _)
  by_cases k4 : o.kind = 4
  · have HL := hide (show numL o.kind = [3, 4] by unfold numL; simp [k4])
    rw [k4] at x0
    go_wp2
    refine bodyPost_ret (v := .slice (some ⟨W.heap.size, 0, none⟩) 2 2) (by simp [results, Try.f53, go_sem]) rfl ⟨_, rfl, ?_, ?_⟩
    · rw [HL.out]; exact own_lower (World.ownsRow_lit W #[.int .i64 (o.num 3), .int .i64 (o.num 4)] 2 (Nat.le_refl _) (by decide) rfl) HB0.out.size
    · exact HB0.out.alloc HB0.out.size _
  by_cases k5 : o.kind = 5
  · have HL := hide (show numL o.kind = [3, 4] by unfold numL; simp [k5])
    rw [k5] at x0
    go_wp2
    refine bodyPost_ret (v := .slice (some ⟨W.heap.size, 0, none⟩) 2 2) (by simp [results, Try.f53, go_sem]) rfl ⟨_, rfl, ?_, ?_⟩
    · rw [HL.out]; exact own_lower (World.ownsRow_lit W #[.int .i64 (o.num 3), .int .i64 (o.num 4)] 2 (Nat.le_refl _) (by decide) rfl) HB0.out.size
    · exact HB0.out.alloc HB0.out.size _
  by_cases k6 : o.kind = 6
  · have HL := hide (show numL o.kind = [17] by unfold numL; simp [k6])
    rw [k6] at x0
    go_wp2
    refine bodyPost_ret (v := .slice (some ⟨W.heap.size, 0, none⟩) 1 1) (by simp [results, Try.f53, go_sem]) rfl ⟨_, rfl, ?_, ?_⟩
    · rw [HL.out]; exact own_lower (World.ownsRow_lit W #[.int .i64 (o.num 17)] 1 (Nat.le_refl _) (by decide) rfl) HB0.out.size
    · exact HB0.out.alloc HB0.out.size _
  have HL := hide (show numL o.kind = [] by unfold numL; simp [k1, k2, k3, k4, k5, k6])
  go_wp2
  refine bodyPost_ret (v := .slice none 0 0) (by simp [results, Try.f53, go_sem]) rfl ⟨_, rfl, ?_, HB0.out⟩
  rw [HL.out]; exact World.ownsRow_nil _ _ _ _
end Go.Proofs.Ytalnipjaekpbhaa

