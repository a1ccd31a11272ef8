import Derived.Test.YtimabgakemgldaaT13
import Derived.Laws.LoneSync
import Derived.WalkKit
import Derived.StillTailTactics
import Derived.Deep.RegionLaw
import Derived.Deep.RegionHeld3
import Derived.Laws.OwnMore
import Derived.Deep.Matrix
import Derived.BigQuiet
import Derived.Deep.QuietTactic
import Derived.Laws.EntriesVeiled
namespace Go.Proofs.Ytimabgakemgldaa
open Go.ChangeShapes Go.WideShapes Go.ChangeAt Go.RowKit Go.Deep
set_option linter.unusedSimpArgs false
set_option linter.unusedVariables false

/-- what stands -/
structure Ab where
  S : List Int
  mark : Int
  bs : Option (Int × Int)
  ar : Int
  gt : Int
  tk : Int
  tt : Int
def bWho (o : Option (Int × Int)) : Int := match o with | none => 0 | some z => z.1
def bX (o : Option (Int × Int)) : Int := match o with | none => 0 | some z => z.2
/-- the blocks of T alone may have been written -/
structure Tch (T : Nat → Prop) (w w' : World) : Prop where
  os : w'.os = w.os
  tape : w'.tape = w.tape
  output : w'.output = w.output
  size : w.heap.size ≤ w'.heap.size
  heap : ∀ k, k < w.heap.size → ¬ T k → w'.heap[k]? = w.heap[k]?
theorem Tch.trans {T : Nat → Prop} {w w1 w' : World} (h : Tch T w w1) (k : Tch T w1 w') : Tch T w w' := ⟨k.os.trans h.os, k.tape.trans h.tape, k.output.trans h.output, Nat.le_trans h.size k.size, fun i hi hn => (k.heap i (Nat.lt_of_lt_of_le hi h.size) hn).trans (h.heap i hi hn)⟩
theorem Tch.of {T : Nat → Prop} {w w' : World} (h : Below w.heap.size w w') : Tch T w w' := ⟨h.os, h.tape, h.output, h.size, fun k hk _ => h.block k hk⟩
theorem Tch.set {T : Nat → Prop} {w w' : World} (h : Tch T w w') {b : Nat} (hb : T b) (o : Nat) (u : Value) : Tch T w (w'.setCell ⟨b, o, none⟩ u) := ⟨h.os, h.tape, h.output, by rw [World.size_setCell]; exact h.size, fun k hk hn => (heap_setCell_other _ _ _ _ (fun e => hn (by rw [show k = b from e]; exact hb))).trans (h.heap k hk hn)⟩
theorem Tch.setN {T : Nat → Prop} {w w' : World} (h : Tch T w w') {b : Nat} (hb : w.heap.size ≤ b) (o : Nat) (u : Value) : Tch T w (w'.setCell ⟨b, o, none⟩ u) := ⟨h.os, h.tape, h.output, by rw [World.size_setCell]; exact h.size, fun k hk hn => (heap_setCell_other _ _ _ _ (show k ≠ b by omega)).trans (h.heap k hk hn)⟩
theorem Tch.drew {T : Nat → Prop} {w w' : World} (h : Tch T w w') (n : Nat) : Tch T w (w'.drewN n) := ⟨h.os, h.tape, h.output, h.size, h.heap⟩
theorem Tch.imp {T T' : Nat → Prop} {w w' : World} (h : Tch T w w') (hT : ∀ k, k < w.heap.size → T k → T' k) : Tch T' w w' := ⟨h.os, h.tape, h.output, h.size, fun k hk hn => h.heap k hk (fun e => hn (hT k hk e))⟩
theorem WrN.tch {w w' : World} {b o : Nat} {u : Value} (h : WrN w b o u w') : Tch (fun k => k = b) w w' := ⟨h.os, h.tape, h.output, h.size, fun k hk hn => h.heap k hk hn⟩
/-- the document's cells -/
structure RObj (w : World) (r rs : Nat) (A : Ab) : Prop where
  c0 : w.cell? ⟨r, 0, none⟩ = some (.slice (some ⟨rs, 0, none⟩) A.S.length A.S.length)
  c1 : w.cell? ⟨r, 1, none⟩ = some (.int .i64 A.mark)
  c2 : w.cell? ⟨r, 2, none⟩ = some (.int .i64 (bWho A.bs))
  c3 : w.cell? ⟨r, 3, none⟩ = some (.int .i64 (bX A.bs))
  c4 : w.cell? ⟨r, 4, none⟩ = some (.bool A.bs.isSome)
  c5 : w.cell? ⟨r, 5, none⟩ = some (.int .i64 A.ar)
  c6 : w.cell? ⟨r, 6, none⟩ = some (.int .i64 A.gt)
  c7 : w.cell? ⟨r, 7, none⟩ = some (.int .i64 A.tk)
  c8 : w.cell? ⟨r, 8, none⟩ = some (.int .i64 A.tt)
  f : ∀ o, w.frozen? ⟨r, o, none⟩ = false
  row : w.ownsRow 0 2 1 (.slice (some ⟨rs, 0, none⟩) A.S.length A.S.length) A.S.length (ints A.S)
  ne : r ≠ rs
theorem RObj.lt {w : World} {r rs : Nat} {A : Ab} (h : RObj w r rs A) : r < w.heap.size ∧ rs < w.heap.size := ⟨World.block_lt_of_cell? w _ h.c0, (h.row.lt rs rfl).2⟩
theorem RObj.stays {w w' : World} {r rs : Nat} {A : Ab} (h : RObj w r rs A) (h1 : w'.heap[r]? = w.heap[r]?) (h2 : w'.heap[rs]? = w.heap[rs]?) : RObj w' r rs A :=
  ⟨cell_stay h.c0 h1, cell_stay h.c1 h1, cell_stay h.c2 h1, cell_stay h.c3 h1, cell_stay h.c4 h1, cell_stay h.c5 h1, cell_stay h.c6 h1, cell_stay h.c7 h1, cell_stay h.c8 h1, fun o => fro_stay (h.f o) h1, own_stays h.row (fun k e => by cases e; exact h2), h.ne⟩
theorem RObj.below {w w' : World} {r rs : Nat} {A : Ab} (h : RObj w r rs A) (hb : Below w.heap.size w w') : RObj w' r rs A := h.stays (hb.block _ h.lt.1) (hb.block _ h.lt.2)
/-- one of its plain cells written -/
theorem RObj.set {w : World} {r rs : Nat} {A : Ab} (h : RObj w r rs A) (A' : Ab) (o : Nat) (u : Value) (hS : A'.S = A.S)
    (h1 : (if 1 = o then u else .int .i64 A.mark) = .int .i64 A'.mark) (h2 : (if 2 = o then u else .int .i64 (bWho A.bs)) = .int .i64 (bWho A'.bs)) (h3 : (if 3 = o then u else .int .i64 (bX A.bs)) = .int .i64 (bX A'.bs)) (h4 : (if 4 = o then u else .bool A.bs.isSome) = .bool A'.bs.isSome)
    (h5 : (if 5 = o then u else .int .i64 A.ar) = .int .i64 A'.ar) (h6 : (if 6 = o then u else .int .i64 A.gt) = .int .i64 A'.gt) (h7 : (if 7 = o then u else .int .i64 A.tk) = .int .i64 A'.tk) (h8 : (if 8 = o then u else .int .i64 A.tt) = .int .i64 A'.tt) (ho : o ≠ 0) : RObj (w.setCell ⟨r, o, none⟩ u) r rs A' := by
  have key : ∀ p v, w.cell? ⟨r, p, none⟩ = some v → (w.setCell ⟨r, o, none⟩ u).cell? ⟨r, p, none⟩ = some (if p = o then u else v) := fun p v hv => by
    by_cases e : p = o
    · subst e; rw [if_pos rfl]; exact World.cell?_setCell_same' _ _ _ (by rw [hv]; rfl)
    · rw [if_neg e]; exact (cell_ne e).trans hv
  have k0 := key 0 _ h.c0
  rw [if_neg (Ne.symm ho), ← hS] at k0
  refine ⟨k0, (key 1 _ h.c1).trans (by rw [h1]), (key 2 _ h.c2).trans (by rw [h2]), (key 3 _ h.c3).trans (by rw [h3]), (key 4 _ h.c4).trans (by rw [h4]), (key 5 _ h.c5).trans (by rw [h5]), (key 6 _ h.c6).trans (by rw [h6]), (key 7 _ h.c7).trans (by rw [h7]), (key 8 _ h.c8).trans (by rw [h8]), fun p => (World.frozen?_setCell _ _ _ _).trans (h.f p), ?_, h.ne⟩
  rw [hS]
  exact own_stays h.row (fun k e => by cases e; exact heap_setCell_other _ _ _ _ (Ne.symm h.ne))
def doA (A : Ab) (who : Int) (k x : Int) : Int × Bool :=
  if k = 1 then (wrap64 (A.S.getD who.toNat 0 + x), true) else if k = 2 then (A.mark, decide (A.mark < x)) else if k = 3 then (x, !(idleB A.bs who x)) else if k = 4 then (A.ar, decide (A.gt ≤ wrap64 (A.ar + 1))) else if k = 5 then (takeA A.tt A.tk, decide (A.tk < A.tt)) else (0, false)
def doS (A : Ab) (who : Int) (k x : Int) : Ab :=
  if k = 1 then { A with S := A.S.set who.toNat (wrap64 (A.S.getD who.toNat 0 + x)) } else if k = 2 then { A with mark := max A.mark x } else if k = 3 then { A with bs := offerO A.bs who x } else if k = 4 then { A with ar := wrap64 (A.ar + 1) } else if k = 5 then { A with tk := takeN A.tt A.tk } else A
def DoPost (r rs : Nat) (A : Ab) (who k x : Int) (w : World) (e : Ending) (w' : World) : Prop := e = .returned (.agg #[.int .i64 (doA A who k x).1, .bool (doA A who k x).2, .int .i64 0]) ∧ RObj w' r rs (doS A who k x) ∧ Tch (fun k => k = r ∨ k = rs) w w'

/-- the document's op's boxes: the op, the result, the answer -/
structure DoB (W : World) (n : Nat) (kind x a : Int) (y : Bool) : Prop where
  b0 : W.cell? ⟨n, 0, none⟩ = some (.int .i64 kind)
  b1 : W.cell? ⟨n, 1, none⟩ = some (.int .i64 x)
  d0 : W.cell? ⟨n + 1, 0, none⟩ = some (.int .i64 0)
  d1 : W.cell? ⟨n + 1, 1, none⟩ = some (.bool false)
  d2 : W.cell? ⟨n + 1, 2, none⟩ = some (.int .i64 0)
  df : ∀ o, W.frozen? ⟨n + 1, o, none⟩ = false
  e0 : W.cell? ⟨n + 1 + 1, 0, none⟩ = some (.int .i64 a)
  e1 : W.cell? ⟨n + 1 + 1, 1, none⟩ = some (.bool y)
  e2 : W.cell? ⟨n + 1 + 1, 2, none⟩ = some (.int .i64 0)
  ef : ∀ o, W.frozen? ⟨n + 1 + 1, o, none⟩ = false
theorem DoB.made (w : World) (k x : Int) : DoB (((w.alloc (.cells #[.int .i64 k, .int .i64 x] 57)).alloc (.cells #[.int .i64 0, .bool false, .int .i64 0] 52)).alloc (.cells #[.int .i64 0, .bool false, .int .i64 0] 52)) w.heap.size k x 0 false :=
  ⟨by simp [go_sem], by simp [go_sem], by simp [go_sem], by simp [go_sem], by simp [go_sem], fun o => by simp [go_sem], by simp [go_sem], by simp [go_sem], by simp [go_sem], fun o => by simp [go_sem]⟩
theorem DoB.stays {W V : World} {n : Nat} {k x a : Int} {y : Bool} (h : DoB W n k x a y) (h0 : V.heap[n]? = W.heap[n]?) (h1 : V.heap[n + 1]? = W.heap[n + 1]?) (h2 : V.heap[n + 1 + 1]? = W.heap[n + 1 + 1]?) : DoB V n k x a y :=
  ⟨cell_stay h.b0 h0, cell_stay h.b1 h0, cell_stay h.d0 h1, cell_stay h.d1 h1, cell_stay h.d2 h1, fun o => fro_stay (h.df o) h1, cell_stay h.e0 h2, cell_stay h.e1 h2, cell_stay h.e2 h2, fun o => fro_stay (h.ef o) h2⟩
theorem DoB.drew {W : World} {n : Nat} {k x a : Int} {y : Bool} (h : DoB W n k x a y) (m : Nat) : DoB (W.drewN m) n k x a y := h.stays rfl rfl rfl
theorem DoB.seta {W : World} {n : Nat} {k x a : Int} {y : Bool} (h : DoB W n k x a y) (v : Int) : DoB (W.setCell ⟨n + 1 + 1, 0, none⟩ (.int .i64 v)) n k x v y :=
  ⟨cell_stay h.b0 (heap_setCell_other _ _ _ _ (show n ≠ n + 1 + 1 by omega)), cell_stay h.b1 (heap_setCell_other _ _ _ _ (show n ≠ n + 1 + 1 by omega)), cell_stay h.d0 (heap_setCell_other _ _ _ _ (show n + 1 ≠ n + 1 + 1 by omega)), cell_stay h.d1 (heap_setCell_other _ _ _ _ (show n + 1 ≠ n + 1 + 1 by omega)), cell_stay h.d2 (heap_setCell_other _ _ _ _ (show n + 1 ≠ n + 1 + 1 by omega)), fun o => (World.frozen?_setCell _ _ _ _).trans (h.df o),
   World.cell?_setCell_same' _ _ _ (by rw [h.e0]; rfl), (cell_ne (by decide)).trans h.e1, (cell_ne (by decide)).trans h.e2, fun o => (World.frozen?_setCell _ _ _ _).trans (h.ef o)⟩
theorem DoB.sety {W : World} {n : Nat} {k x a : Int} {y : Bool} (h : DoB W n k x a y) (v : Bool) : DoB (W.setCell ⟨n + 1 + 1, 1, none⟩ (.bool v)) n k x a v :=
  ⟨cell_stay h.b0 (heap_setCell_other _ _ _ _ (show n ≠ n + 1 + 1 by omega)), cell_stay h.b1 (heap_setCell_other _ _ _ _ (show n ≠ n + 1 + 1 by omega)), cell_stay h.d0 (heap_setCell_other _ _ _ _ (show n + 1 ≠ n + 1 + 1 by omega)), cell_stay h.d1 (heap_setCell_other _ _ _ _ (show n + 1 ≠ n + 1 + 1 by omega)), cell_stay h.d2 (heap_setCell_other _ _ _ _ (show n + 1 ≠ n + 1 + 1 by omega)), fun o => (World.frozen?_setCell _ _ _ _).trans (h.df o),
   (cell_ne (by decide)).trans h.e0, World.cell?_setCell_same' _ _ _ (by rw [h.e1]; rfl), (cell_ne (by decide)).trans h.e2, fun o => (World.frozen?_setCell _ _ _ _).trans (h.ef o)⟩
theorem DoB.setr {W : World} {n : Nat} {k x a : Int} {y : Bool} (h : DoB W n k x a y) {b : Nat} (hb : b < n) (o : Nat) (u : Value) : DoB (W.setCell ⟨b, o, none⟩ u) n k x a y :=
  h.stays (heap_setCell_other _ _ _ _ (show n ≠ b by omega)) (heap_setCell_other _ _ _ _ (show n + 1 ≠ b by omega)) (heap_setCell_other _ _ _ _ (show n + 1 + 1 ≠ b by omega))
/-- the end of an op: what was answered is copied to the result -/
theorem DoB.fin {w V : World} {r rs : Nat} {A A' : Ab} {who k x a : Int} {y : Bool} (hR : RObj V r rs A') (hT : Tch (fun k => k = r ∨ k = rs) w V) (l1 : r < w.heap.size) (l2 : rs < w.heap.size) (hA : (doA A who k x) = (a, y)) (hS : doS A who k x = A') (v0 v1 v2 : Value) :
    DoPost r rs A who k x w (.returned (.agg #[.int .i64 a, .bool y, .int .i64 0])) (((V.setCell ⟨w.heap.size + 1, 0, none⟩ v0).setCell ⟨w.heap.size + 1, 1, none⟩ v1).setCell ⟨w.heap.size + 1, 2, none⟩ v2) := by
  refine ⟨by rw [hA], ?_, ((hT.setN (by omega) _ _).setN (by omega) _ _).setN (by omega) _ _⟩
  rw [hS]
  have q : ∀ b, b < w.heap.size → (((V.setCell ⟨w.heap.size + 1, 0, none⟩ v0).setCell ⟨w.heap.size + 1, 1, none⟩ v1).setCell ⟨w.heap.size + 1, 2, none⟩ v2).heap[b]? = V.heap[b]? := fun b hb =>
    (heap_setCell_other _ _ _ _ (show b ≠ w.heap.size + 1 by omega)).trans ((heap_setCell_other _ _ _ _ (show b ≠ w.heap.size + 1 by omega)).trans (heap_setCell_other _ _ _ _ (show b ≠ w.heap.size + 1 by omega)))
  exact hR.stays (q r l1) (q rs l2)

set_option maxRecDepth 100000 in
set_option maxHeartbeats 2000000 in
theorem Do2 (r rs : Nat) (A : Ab) (who x : Int) (w : World) (h : RObj w r rs A) : Calls Try.prog 17 #[.pointer (some ⟨r, 0, none⟩), .int .i64 who, .agg #[.int .i64 2, .int .i64 x]] w (DoPost r rs A who 2 x w) := by
  obtain ⟨W, hW⟩ : ∃ W, W = ((w.alloc (.cells #[.int .i64 2, .int .i64 x] 57)).alloc (.cells #[.int .i64 0, .bool false, .int .i64 0] 52)).alloc (.cells #[.int .i64 0, .bool false, .int .i64 0] 52) := ⟨_, rfl⟩
  have hb : Below w.heap.size w W := by rw [hW]; (focus repeat' (first | (with_reducible exact Below.refl _ _) | (with_reducible assumption) | (with_reducible refine Below.alloc ?_ ?_ _) | (with_reducible refine Below.drew ?_) | (with_reducible refine bdrewN ?_ _) | (with_reducible refine Below.setCell ?_ ?_ _) | (first | (with_reducible exact Nat.le_refl _) | (with_reducible assumption) | omega | (simp; omega) | (simp; done))))
  have H := hide (h.below hb)
  have l1 := h.lt.1
  have l2 := h.lt.2
  have m0 : r ≠ rs := h.ne
  have n1 : r ≠ w.heap.size := by omega
  have n2 : r ≠ w.heap.size + 1 := by omega
  have n3 : r ≠ w.heap.size + 1 + 1 := by omega
  have m1 := Ne.symm n1
  have m2 := Ne.symm n2
  have m3 := Ne.symm n3
  have DB : DoB W w.heap.size 2 x 0 false := by rw [hW]; exact DoB.made w 2 x
  have HW := hide hW
  clear h hW
  have b0 := DB.b0
  have b1 := DB.b1
  have d0 := DB.d0
  have d1 := DB.d1
  have d2 := DB.d2
  have df0 := DB.df 0
  have df1 := DB.df 1
  have df2 := DB.df 2
  have e0 := DB.e0
  have e1 := DB.e1
  have e2 := DB.e2
  have ef0 := DB.ef 0
  have ef1 := DB.ef 1
  have c1 := H.out.c1
  have f1 := H.out.f 1
  have HDB := hide DB
  clear DB
  go_enter Try.func17, Try.ntmps17
  go_upto_region 4 with fail
  rw [← HW.out]
  go_region
  obtain ⟨V, hV⟩ : ∃ V, V = ((W.setCell ⟨w.heap.size + 1 + 1, 0, none⟩ (.int .i64 A.mark)).setCell ⟨w.heap.size + 1 + 1, 1, none⟩ (.bool (decide (A.mark < x)))).drew := ⟨_, rfl⟩
  rw [← hV]
  have HT := hide (show Tch (fun k => k = r ∨ k = rs) w V by rw [hV]; exact ((((Tch.of hb).setN (by omega) _ _).setN (by omega) _ _).drew 1))
  have HV := hide (show DoB V w.heap.size 2 x A.mark (decide (A.mark < x)) by rw [hV]; exact ((HDB.out.seta _).sety _).drew 1)
  have HR := hide (show RObj V r rs A by rw [hV]; exact H.out.stays ((heap_setCell_other _ _ _ _ n3).trans (heap_setCell_other _ _ _ _ n3)) ((heap_setCell_other _ _ _ _ (show rs ≠ w.heap.size + 1 + 1 by omega)).trans (heap_setCell_other _ _ _ _ (show rs ≠ w.heap.size + 1 + 1 by omega))))
  clear hV c1 f1
  clear b0 b1 d0 d1 d2 df0 df1 df2 e0 e1 e2 ef0 ef1
  have b0 := HV.out.b0
  have b1 := HV.out.b1
  have d0 := HV.out.d0
  have d1 := HV.out.d1
  have d2 := HV.out.d2
  have df0 := HV.out.df 0
  have df1 := HV.out.df 1
  have df2 := HV.out.df 2
  have e0 := HV.out.e0
  have e1 := HV.out.e1
  have e2 := HV.out.e2
  have ef0 := HV.out.ef 0
  have ef1 := HV.out.ef 1
  have c1 := HR.out.c1
  have f1 := HR.out.f 1
  by_cases hx : A.mark < x
  · have g1 : decide (A.mark < x) = true := by simp [hx]
    rw [g1] at e1 HV
    go_wp2
    refine bodyPost_ret (v := .agg #[.int .i64 A.mark, .bool true, .int .i64 0]) (by simp [results, Try.f17, go_sem, *]) rfl (DoB.fin (A' := { A with mark := x }) (HR.out.set { A with mark := x } 1 (.int .i64 x) rfl rfl rfl rfl rfl rfl rfl rfl rfl (by decide)) (HT.out.set (.inl rfl) _ _) l1 l2 (by simp [doA, hx]) (by simp [doS]; omega) _ _ _)
  · have g1 : decide (A.mark < x) = false := by simp [hx]
    rw [g1] at e1 HV
    go_wp2
    refine bodyPost_ret (v := .agg #[.int .i64 A.mark, .bool false, .int .i64 0]) (by simp [results, Try.f17, go_sem, *]) rfl (DoB.fin (A' := A) HR.out HT.out l1 l2 (by simp [doA, hx]) (by obtain ⟨S, m, bs, ar, gt, tk, tt⟩ := A; simp [doS]; simp at hx; omega) _ _ _)
end Go.Proofs.Ytimabgakemgldaa
