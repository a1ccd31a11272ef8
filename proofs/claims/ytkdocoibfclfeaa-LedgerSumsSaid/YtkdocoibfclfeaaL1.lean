import Derived.Maps.AppendAt
import Derived.Deep.AppendLies
import Derived.Laws.OwnMore
import Derived.Test.YtkdocoibfclfeaaT3
namespace Go.Proofs.Ytkdocoibfclfeaa
open Go.ChangeShapes Go.WideShapes Go.ChangeAt Go.RowKit Go.Deep Go.Maps Go.ChangeMaps Go.WideMaps
set_option linter.unusedSimpArgs false
set_option linter.unusedVariables false

/-- a ledger's blocks -/
structure Fp where
  b : Nat
  t : Nat
  a : Nat
  m : Nat
  lv : Value
  pv : Value
def Fp.own (F : Fp) (k : Nat) : Prop := k = F.b ∨ k = F.t ∨ k = F.a ∨ k = F.m ∨ F.lv.ownBlock = some k ∨ F.pv.ownBlock = some k
def accV (a : Acc) : Value := .agg #[.string a.name, .int .i64 a.least, .int .i64 a.has]
def accAt (A : List Acc) : Lit → Option Value
  | .int .i64 x => if 0 ≤ x then (A[x.toNat]?).map accV else none
  | _ => none
theorem accAt_nat (A : List Acc) (i : Nat) : accAt A (.int .i64 (i : Int)) = (A[i]?).map accV := by simp [accAt]
theorem accAt_neg (A : List Acc) (x : Int) (h : x < 0) : accAt A (.int .i64 x) = none := by simp [accAt]; omega
/-- a posting's row, that nobody writes -/
def PostRow (I : Nat → Prop) (w : World) (v : Value) (p : List Ent) : Prop := w.ownsRow 0 63 2 v p.length (flatE p) ∧ ∀ k, v.ownBlock = some k → I k
structure Apart (F : Fp) : Prop where
  bt : F.b ≠ F.t
  ba : F.b ≠ F.a
  bm : F.b ≠ F.m
  ta : F.t ≠ F.a
  tm : F.t ≠ F.m
  am : F.a ≠ F.m
  l : ∀ k, F.lv.ownBlock = some k → k ≠ F.b ∧ k ≠ F.t ∧ k ≠ F.a ∧ k ≠ F.m ∧ F.pv.ownBlock ≠ some k
  p : ∀ k, F.pv.ownBlock = some k → k ≠ F.b ∧ k ≠ F.t ∧ k ≠ F.a ∧ k ≠ F.m
/-- a ledger that stands so; I: the blocks that nobody writes any more -/
structure LObj (I : Nat → Prop) (F : Fp) (S : LS) (w : World) : Prop where
  b0 : w.cell? ⟨F.b, 0, none⟩ = some (.pointer (some ⟨F.t, 0, none⟩))
  b1 : w.cell? ⟨F.b, 1, none⟩ = some (.map (some F.m))
  b2 : w.cell? ⟨F.b, 2, none⟩ = some F.pv
  bf : ∀ o, w.frozen? ⟨F.b, o, none⟩ = false
  t0 : w.cell? ⟨F.t, 0, none⟩ = some F.lv
  t1 : w.cell? ⟨F.t, 1, none⟩ = some (.map (some F.a))
  t2 : w.cell? ⟨F.t, 2, none⟩ = some (.int .i64 65536)
  tf : w.frozen? ⟨F.t, 0, none⟩ = false
  lr : w.ownsRow 0 9 1 F.lv S.acc.length ((nms S.acc).map Value.string)
  pr : ∃ vs : List Value, w.ownsRow 0 33 1 F.pv S.posts.length vs ∧ ∀ (i : Nat) (p : List Ent), S.posts[i]? = some p → ∃ v, vs[i]? = some v ∧ PostRow I w v p
  am : MapIs Try.prog 9 w F.a S.acc.length (nameAt (nms S.acc))
  mm : MapIs Try.prog 3 w F.m S.acc.length (accAt S.acc)
  ap : Apart F
  imm : ∀ k, F.own k → ¬ I k
  ilt : ∀ k, I k → k < w.heap.size
theorem LObj.lt {I : Nat → Prop} {F : Fp} {S : LS} {w : World} (h : LObj I F S w) {k : Nat} (hk : F.own k) : k < w.heap.size := by
  obtain ⟨vs, hp, _⟩ := h.pr
  rcases hk with rfl | rfl | rfl | rfl | q | q
  · exact World.block_lt_of_cell? w _ h.b0
  · exact World.block_lt_of_cell? w _ h.t0
  · exact h.am.lt
  · exact h.mm.lt
  · exact (h.lr.lt k q).2
  · exact (hp.lt k q).2
theorem cell_stay {w w' : World} {b o : Nat} {v : Value} (h : w.cell? ⟨b, o, none⟩ = some v) (e : w'.heap[b]? = w.heap[b]?) : w'.cell? ⟨b, o, none⟩ = some v := (World.cell?_of_block (a := ⟨b, o, none⟩) e).trans h
theorem fro_stay {w w' : World} {b o : Nat} {v : Bool} (h : w.frozen? ⟨b, o, none⟩ = v) (e : w'.heap[b]? = w.heap[b]?) : w'.frozen? ⟨b, o, none⟩ = v := (World.frozen?_of_block (a := ⟨b, o, none⟩) e).trans h
/-- nothing of it was written; more blocks may have been given up -/
theorem LObj.stays {I I' : Nat → Prop} {F : Fp} {S : LS} {w w' : World} (h : LObj I F S w) (hs : w.heap.size ≤ w'.heap.size) (hk : ∀ k, F.own k ∨ I k → w'.heap[k]? = w.heap[k]?) (hI : ∀ k, I k → I' k) (hN : ∀ k, I' k → ¬ I k → w.heap.size ≤ k ∧ k < w'.heap.size) : LObj I' F S w' := by
  have hb := hk F.b (.inl (.inl rfl))
  have ht := hk F.t (.inl (.inr (.inl rfl)))
  have ha := hk F.a (.inl (.inr (.inr (.inl rfl))))
  have hm := hk F.m (.inl (.inr (.inr (.inr (.inl rfl)))))
  obtain ⟨vs, hp, hq⟩ := h.pr
  refine ⟨cell_stay h.b0 hb, cell_stay h.b1 hb, cell_stay h.b2 hb, fun o => fro_stay (h.bf o) hb, cell_stay h.t0 ht, cell_stay h.t1 ht, cell_stay h.t2 ht, fro_stay h.tf ht,
    own_stays h.lr (fun k q => hk k (.inl (.inr (.inr (.inr (.inr (.inl q))))))), ⟨vs, own_stays hp (fun k q => hk k (.inl (.inr (.inr (.inr (.inr (.inr q))))))), fun i p e => ?_⟩, h.am.stays hs ha, h.mm.stays hs hm, h.ap, fun k q hi => ?_, fun k hi => ?_⟩
  · obtain ⟨v, e1, e2, e3⟩ := hq i p e
    exact ⟨v, e1, own_stays e2 (fun k q => hk k (.inr (e3 k q))), fun k q => hI k (e3 k q)⟩
  · by_cases hi0 : I k
    · exact h.imm k q hi0
    · have := h.lt q
      have := (hN k hi hi0).1
      omega
  · by_cases hi0 : I k
    · exact Nat.lt_of_lt_of_le (h.ilt k hi0) hs
    · exact (hN k hi hi0).2
/-- what a call on the ledger F may do -/
structure Step (I : Nat → Prop) (F : Fp) (w : World) (I' : Nat → Prop) (F' : Fp) (w' : World) : Prop where
  os : w'.os = w.os
  tape : w'.tape = w.tape
  output : w'.output = w.output
  size : w.heap.size ≤ w'.heap.size
  keep : ∀ k, k < w.heap.size → ¬ F.own k → w'.heap[k]? = w.heap[k]?
  own : ∀ k, F'.own k → F.own k ∨ w.heap.size ≤ k
  sub : ∀ k, I k → I' k
  new : ∀ k, I' k → ¬ I k → w.heap.size ≤ k ∧ k < w'.heap.size
  b : F'.b = F.b
  t : F'.t = F.t
  a : F'.a = F.a
  m : F'.m = F.m
theorem Step.of_below {I : Nat → Prop} {F : Fp} {w w' : World} (h : Below w.heap.size w w') : Step I F w I F w' :=
  ⟨h.os, h.tape, h.output, h.size, fun k hk _ => h.block k hk, fun _ q => .inl q, fun _ q => q, fun _ q n => absurd q n, rfl, rfl, rfl, rfl⟩
theorem Step.trans {I I1 I2 : Nat → Prop} {F F1 F2 : Fp} {w w1 w2 : World} (h : Step I F w I1 F1 w1) (g : Step I1 F1 w1 I2 F2 w2) : Step I F w I2 F2 w2 := by
  refine ⟨g.os.trans h.os, g.tape.trans h.tape, g.output.trans h.output, Nat.le_trans h.size g.size, fun k hk hn => ?_, fun k hk => ?_, fun k q => g.sub k (h.sub k q), fun k q hn => ?_, g.b.trans h.b, g.t.trans h.t, g.a.trans h.a, g.m.trans h.m⟩
  · refine (g.keep k (Nat.lt_of_lt_of_le hk h.size) (fun q => ?_)).trans (h.keep k hk hn)
    rcases h.own k q with q | q
    · exact hn q
    · omega
  · rcases g.own k hk with q | q
    · exact h.own k q
    · exact .inr (Nat.le_trans h.size q)
  · by_cases h1 : I1 k
    · have := h.new k h1 hn
      exact ⟨this.1, Nat.lt_of_lt_of_le this.2 g.size⟩
    · have := g.new k q h1
      exact ⟨Nat.le_trans h.size this.1, this.2⟩
/-- a ledger beside -/
theorem LObj.other {I I' : Nat → Prop} {F F' F2 : Fp} {S2 : LS} {w w' : World} (h : LObj I F2 S2 w) (hs : Step I F w I' F' w') (hd : ∀ k, F2.own k → ¬ F.own k) (hi : ∀ k, F.own k → ¬ I k) : LObj I' F2 S2 w' :=
  h.stays hs.size (fun k q => by
    rcases q with q | q
    · exact hs.keep k (h.lt q) (hd k q)
    · exact hs.keep k (h.ilt k q) (fun e => hi k e q)) hs.sub hs.new
theorem LObj.below {I : Nat → Prop} {F : Fp} {S : LS} {w w' : World} (h : LObj I F S w) (hb : Below w.heap.size w w') : LObj I F S w' :=
  h.stays hb.size (fun k q => hb.block k (by rcases q with q | q; exact h.lt q; exact h.ilt k q)) (fun _ q => q) (fun _ q n => absurd q n)
/-- apart they stay -/
theorem Step.apart {I I' : Nat → Prop} {F F' F2 : Fp} {w w' : World} (hs : Step I F w I' F' w') (hl : ∀ k, F2.own k → k < w.heap.size) (hd : ∀ k, F2.own k → ¬ F.own k) : ∀ k, F2.own k → ¬ F'.own k := fun k q e => by
  rcases hs.own k e with e | e
  · exact hd k q e
  · have := hl k q; omega
theorem Step.below {I I' : Nat → Prop} {F F' : Fp} {B : Nat} {w w' : World} (hs : Step I F w I' F' w') (hl : ∀ k, F.own k → B ≤ k) (hB : B ≤ w.heap.size) : Below B w w' :=
  ⟨hs.os, hs.tape, hs.output, hs.size, fun k hk => hs.keep k (by omega) (fun q => by have := hl k q; omega)⟩
theorem zero70 (w : World) : (zeroValue 70).run Try.prog w = .ok (.agg #[.string ⟨#[]⟩, .int .i64 0, .int .i64 0]) w := by kernel_rfl
theorem wf_small {i : Nat} (h : i < 9223372036854775808) : (Lit.int .i64 (i : Int)).wf = true := WalkArith.wf_i64 (by omega)
theorem acc_look {w : World} {m n : Nat} {A : List Acc} (h : MapIs Try.prog 3 w m n (accAt A)) {i : Nat} {a : Acc} (hl : i < 9223372036854775808) (hi : A[i]? = some a) : Sem.run Try.prog (Instr.lookup 57 (.map (some m)) (.int .i64 (i : Int)) false) w = .ok (.agg #[.string a.name, .int .i64 a.least, .int .i64 a.has]) w := by
  rw [h.look law3 Try.underlying57 (zero70 w) (keyOf_int_mk Try.underlying3 (wf_small hl)), accAt_nat, hi]; rfl
theorem acc_look_ok {w : World} {m n : Nat} {A : List Acc} (h : MapIs Try.prog 3 w m n (accAt A)) {i : Nat} {a : Acc} (hl : i < 9223372036854775808) (hi : A[i]? = some a) : Sem.run Try.prog (Instr.lookup 57 (.map (some m)) (.int .i64 (i : Int)) true) w = .ok (.tuple #[.agg #[.string a.name, .int .i64 a.least, .int .i64 a.has], .bool true]) w := by
  rw [h.look_ok law3 Try.underlying57 (zero70 w) (keyOf_int_mk Try.underlying3 (wf_small hl)), accAt_nat, hi]; rfl
theorem acc_look_no {w : World} {m n : Nat} {A : List Acc} (h : MapIs Try.prog 3 w m n (accAt A)) {x : Int} (hl : (Lit.int .i64 x).wf = true) (hi : x < 0 ∨ A.length ≤ x) : Sem.run Try.prog (Instr.lookup 57 (.map (some m)) (.int .i64 x) true) w = .ok (.tuple #[.agg #[.string ⟨#[]⟩, .int .i64 0, .int .i64 0], .bool false]) w := by
  have e : accAt A (.int .i64 x) = none := by
    simp only [accAt]
    split
    · rw [List.getElem?_eq_none (by omega)]; rfl
    · rfl
  rw [h.look_ok law3 Try.underlying57 (zero70 w) (keyOf_int_mk Try.underlying3 hl), e]; rfl
theorem acc_set {A : List Acc} {i : Nat} {a : Acc} (hi : i < A.length) (x : Lit) : setAt (accAt A) (.int .i64 (i : Int)) (accV a) x = accAt (A.set i a) x := by
  by_cases e : x = .int .i64 (i : Int)
  · subst e; rw [setAt_same, accAt_nat]; simp [hi]
  · rw [setAt_other _ _ e]
    unfold accAt
    split
    · split
      · rename_i y hy
        have : i ≠ y.toNat := fun q => e (by rw [q]; congr; omega)
        rw [List.getElem?_set_ne this]
      · rfl
    · rfl
theorem acc_snoc {A : List Acc} {a : Acc} (x : Lit) : setAt (accAt A) (.int .i64 (A.length : Int)) (accV a) x = accAt (A ++ [a]) x := by
  by_cases e : x = .int .i64 (A.length : Int)
  · subst e; rw [setAt_same, accAt_nat]; simp
  · rw [setAt_other _ _ e]
    unfold accAt
    split
    · split
      · rename_i y hy
        have : A.length ≠ y.toNat := fun q => e (by rw [q]; congr; omega)
        rcases (by omega : y.toNat < A.length ∨ A.length < y.toNat) with q | q
        · rw [List.getElem?_append_left q]
        · rw [List.getElem?_eq_none (by omega), List.getElem?_eq_none (by simp; omega)]
      · rfl
    · rfl
end Go.Proofs.Ytkdocoibfclfeaa
