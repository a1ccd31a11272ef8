import Derived.Test.YtimabgakemgldaaT37
import Derived.Test.YtimabgakemgldaaT33
import Derived.Laws.LoneSync
import Derived.WalkKit
import Derived.StillTailTactics
import Derived.Deep.RegionLaw
import Derived.Deep.RegionHeld3
import Derived.Laws.OwnMore
import Derived.Deep.Matrix
import Derived.BigQuiet
import Derived.Deep.QuietTactic
import Derived.Laws.EntriesVeiled
namespace Go.Proofs.Ytimabgakemgldaa
open Go.ChangeShapes Go.WideShapes Go.ChangeAt Go.RowKit Go.Deep
set_option linter.unusedSimpArgs false
set_option linter.unusedVariables false

/-- whose a block is: 0 nobody's, 1 a cell of the things, 2 an offer, 3 + i the walker i's -/
def tg (tag : Nat → Nat) (B v : Nat) : Nat → Nat := fun b => if b < B then tag b else v
theorem tg_lt {tag : Nat → Nat} {B v b : Nat} (h : b < B) : tg tag B v b = tag b := if_pos h
theorem tg_ge {tag : Nat → Nat} {B v b : Nat} (h : B ≤ b) : tg tag B v b = v := if_neg (by omega)
/-- what the walkers share -/
structure WI (w : World) (tag : Nat → Nat) (wp : Nat) (L : Nat → Nat) (po : Option Addr) (A : Ab) : Prop where
  c : CObj w L po A
  l : LW w wp L
  t1 : ∀ i, i < 9 → tag (L i) = 1
  tw : tag wp = 0
  tp : ∀ k, po = some ⟨k, 0, none⟩ → tag k = 2
/-- a walker -/
structure WB (w : World) (tag : Nat → Nat) (kb i : Nat) (ov dv : Value) : Prop where
  h8 : Has8 w kb
  f : ∀ o, w.frozen? ⟨kb, o, none⟩ = false
  c0 : w.cell? ⟨kb, 0, none⟩ = some (.int .i64 (i : Int))
  c1 : w.cell? ⟨kb, 1, none⟩ = some ov
  c2 : w.cell? ⟨kb, 2, none⟩ = some dv
  t : tag kb = 3 + i
theorem WB.lt {w : World} {tag : Nat → Nat} {kb i : Nat} {ov dv : Value} (h : WB w tag kb i ov dv) : kb < w.heap.size := World.block_lt_of_cell? w _ h.c0
/-- an op under way -/
structure UB (w : World) (tag : Nat → Nat) (kb i tb fa fb : Nat) (ca cb : Array Value) : Prop where
  t : tag tb = 3 + i
  n : tb ≠ kb
  c3 : w.cell? ⟨kb, 3, none⟩ = some (.pointer (some ⟨tb, 0, none⟩))
  c4 : w.cell? ⟨kb, 4, none⟩ = some (.bool true)
  p0 : w.cell? ⟨tb, 0, none⟩ = some (.func (.func fa) #[] ca)
  p1 : w.cell? ⟨tb, 1, none⟩ = some (.func (.func fb) #[] cb)
  y : w.cell? ⟨kb, 6, none⟩ = some (.bool false)
  z : w.cell? ⟨kb, 7, none⟩ = some (.int .i64 0)
/-- a box of a walker's op -/
def Bx (tag : Nat → Nat) (kb i b : Nat) : Prop := tag b = 3 + i ∧ b ≠ kb
def UR (w : World) (tag : Nat → Nat) (m kb i : Nat) (x v : Int) : Prop := ∃ tb bm ba bx, UB w tag kb i tb 91 92 #[.pointer (some ⟨bm, 0, none⟩), .pointer (some ⟨ba, 0, none⟩), .pointer (some ⟨bx, 0, none⟩)] #[.pointer (some ⟨bm, 0, none⟩), .pointer (some ⟨ba, 0, none⟩), .pointer (some ⟨bx, 0, none⟩)] ∧ RaiseT w bm ba bx m kb 5 x ∧ w.cell? ⟨kb, 5, none⟩ = some (.int .i64 v) ∧ Bx tag kb i bm ∧ Bx tag kb i ba ∧ Bx tag kb i bx
def UT (w : World) (tag : Nat → Nat) (t kb i : Nat) (s : Int) : Prop := ∃ tb bt b2 ba, UB w tag kb i tb 94 95 #[.pointer (some ⟨bt, 0, none⟩), .pointer (some ⟨b2, 0, none⟩)] #[.pointer (some ⟨bt, 0, none⟩), .pointer (some ⟨b2, 0, none⟩), .pointer (some ⟨ba, 0, none⟩)] ∧ TakeT w bt b2 ba t kb 5 s ∧ w.cell? ⟨kb, 5, none⟩ = some (.int .i64 0) ∧ Bx tag kb i bt ∧ Bx tag kb i b2 ∧ Bx tag kb i ba ∧ b2 ≠ bt ∧ b2 ≠ ba
def UO (w : World) (tag : Nat → Nat) (b kb i : Nat) (x : Int) (po : Option Addr) (bs o : Option (Int × Int)) : Prop := ∃ tb bb b2 bw bx ba q, UB w tag kb i tb 96 97 #[.pointer (some ⟨bb, 0, none⟩), .pointer (some ⟨b2, 0, none⟩), .pointer (some ⟨bx, 0, none⟩), .pointer (some ⟨bw, 0, none⟩)] #[.pointer (some ⟨bb, 0, none⟩), .pointer (some ⟨b2, 0, none⟩), .pointer (some ⟨bw, 0, none⟩), .pointer (some ⟨bx, 0, none⟩), .pointer (some ⟨ba, 0, none⟩)] ∧ OfferT w bb b2 bw bx ba b kb 5 q (i : Int) x ∧ w.cell? ⟨kb, 5, none⟩ = some (.int .i64 x) ∧ Bx tag kb i bb ∧ Bx tag kb i b2 ∧ Bx tag kb i bw ∧ Bx tag kb i bx ∧ Bx tag kb i ba ∧ (b2 ≠ bb ∧ b2 ≠ bw ∧ b2 ≠ bx ∧ b2 ≠ ba) ∧ OffOk w q o ∧ (∀ k, q = some ⟨k, 0, none⟩ → tag k = 2) ∧ ((q = po ∧ o = bs) ∨ (q ≠ po ∧ o ≠ bs))
/-- what a walker is at -/
def UA (w : World) (tag : Nat → Nat) (L : Nat → Nat) (po : Option Addr) (bs : Option (Int × Int)) (kb i : Nat) (k x : Int) : Sn → Prop
  | .no => w.cell? ⟨kb, 3, none⟩ = some (.pointer none)
  | .num v => (k = 2 ∧ UR w tag (L 0) kb i x v) ∨ (k = 5 ∧ UT w tag (L 7) kb i v)
  | .off o => k = 3 ∧ UO w tag (L 2) kb i x po bs o
theorem UB.stays {w w' : World} {tag tag' : Nat → Nat} {kb i tb fa fb : Nat} {ca cb : Array Value} (h : UB w tag kb i tb fa fb ca cb) (hk : w'.heap[kb]? = w.heap[kb]?) (hs : ∀ b, b < w.heap.size → tag b = 3 + i → w'.heap[b]? = w.heap[b]? ∧ tag' b = tag b) : UB w' tag' kb i tb fa fb ca cb := by
  have q := hs tb (World.block_lt_of_cell? w _ h.p0) h.t
  exact ⟨q.2.trans h.t, h.n, cell_stay h.c3 hk, cell_stay h.c4 hk, cell_stay h.p0 q.1, cell_stay h.p1 q.1, cell_stay h.y hk, cell_stay h.z hk⟩
/-- the best's pointer, ahead and behind a step -/
def PoR (w : World) (po po' : Option Addr) (o o' : Option (Int × Int)) : Prop := (po' = po ∧ o' = o) ∨ (∃ k who x, po' = some ⟨k, 0, none⟩ ∧ w.heap.size ≤ k ∧ idleB o who x = false ∧ o' = some (who, x))
theorem beats_not {o bs : Option (Int × Int)} {who x : Int} (h : beats o bs) (hi : idleB bs who x = false) : o ≠ some (who, x) := by
  rintro rfl
  cases bs with
  | none => exact h
  | some y =>
    simp only [idleB, Bool.or_eq_false_iff, Bool.and_eq_false_iff, decide_eq_false_iff_not] at hi
    simp only [beats] at h
    omega
/-- another's step leaves it -/
theorem UA.stays {w w' : World} {tag tag' : Nat → Nat} {L : Nat → Nat} {po po' : Option Addr} {bs bs' : Option (Int × Int)} {kb i : Nat} {k x : Int} {s : Sn} (h : UA w tag L po bs kb i k x s) (hk : kb < w.heap.size) (ht : tag kb = 3 + i)
    (hs : ∀ b, b < w.heap.size → (tag b = 3 + i ∨ tag b = 2) → w'.heap[b]? = w.heap[b]? ∧ tag' b = tag b) (hp : PoR w po po' bs bs') (hb : ∀ o, s = .off o → beats o bs) : UA w' tag' L po' bs' kb i k x s := by
  have hkk := (hs kb hk (.inl ht)).1
  have hs1 : ∀ b, b < w.heap.size → tag b = 3 + i → w'.heap[b]? = w.heap[b]? ∧ tag' b = tag b := fun b h1 h2 => hs b h1 (.inl h2)
  have bx : ∀ {b}, Bx tag kb i b → b < w.heap.size → Bx tag' kb i b ∧ w'.heap[b]? = w.heap[b]? := fun h1 h2 => ⟨⟨(hs1 _ h2 h1.1).2.trans h1.1, h1.2⟩, (hs1 _ h2 h1.1).1⟩
  cases s with
  | no => exact cell_stay h hkk
  | num v =>
    rcases h with ⟨e, tb, bm, ba, b1, hU, hT, h5, q1, q2, q3⟩ | ⟨e, tb, bt, b2, ba, hU, hT, h5, q1, q2, q3, n1, n2⟩
    · obtain ⟨q1, r1⟩ := bx q1 (World.block_lt_of_cell? w _ hT.m)
      obtain ⟨q2, r2⟩ := bx q2 (World.block_lt_of_cell? w _ hT.a)
      obtain ⟨q3, r3⟩ := bx q3 (World.block_lt_of_cell? w _ hT.x)
      exact .inl ⟨e, tb, bm, ba, b1, hU.stays hkk hs1, hT.stays r1 r2 r3, cell_stay h5 hkk, q1, q2, q3⟩
    · obtain ⟨q1, r1⟩ := bx q1 (World.block_lt_of_cell? w _ hT.t)
      obtain ⟨q2, r2⟩ := bx q2 (World.block_lt_of_cell? w _ hT.s)
      obtain ⟨q3, r3⟩ := bx q3 (World.block_lt_of_cell? w _ hT.a)
      exact .inr ⟨e, tb, bt, b2, ba, hU.stays hkk hs1, hT.stays r1 r2 r3, cell_stay h5 hkk, q1, q2, q3, n1, n2⟩
  | off o =>
    obtain ⟨e, tb, bb, b2, bw, b1, ba, q, hU, hT, h5, q1, q2, q3, q4, q5, n, hO, hq, hr⟩ := h
    obtain ⟨q1, r1⟩ := bx q1 (World.block_lt_of_cell? w _ hT.b)
    obtain ⟨q2, r2⟩ := bx q2 (World.block_lt_of_cell? w _ hT.s)
    obtain ⟨q3, r3⟩ := bx q3 (World.block_lt_of_cell? w _ hT.wh)
    obtain ⟨q4, r4⟩ := bx q4 (World.block_lt_of_cell? w _ hT.x)
    obtain ⟨q5, r5⟩ := bx q5 (World.block_lt_of_cell? w _ hT.a)
    have hql : ∀ k, q = some ⟨k, 0, none⟩ → w'.heap[k]? = w.heap[k]? ∧ tag' k = tag k := fun k ek => hs k (hO.lt ek) (.inr (hq k ek))
    refine ⟨e, tb, bb, b2, bw, b1, ba, q, hU.stays hkk hs1, hT.stays r1 r2 r3 r4 r5, cell_stay h5 hkk, q1, q2, q3, q4, q5, n, hO.stays (fun k ek => (hql k ek).1), fun k ek => (hql k ek).2.trans (hq k ek), ?_⟩
    rcases hp with ⟨rfl, rfl⟩ | ⟨k, who, x2, rfl, hk2, hi, rfl⟩
    · exact hr
    · refine .inr ⟨fun eq => ?_, ?_⟩
      · have := hO.lt eq; omega
      · exact beats_not (hb o rfl) hi
/-- what a step leaves of what is shared, and of the walker itself -/
structure StepE (w w' : World) (tag tag' : Nat → Nat) (wp : Nat) (L : Nat → Nat) (po po' : Option Addr) (A A' : Ab) (kb i : Nat) (ov dv : Value) : Prop where
  tgs : ∀ b, b < w.heap.size → tag' b = tag b
  t : Tch (fun b => CW L b ∨ tag b = 3 + i) w w'
  I : WI w' tag' wp L po' A'
  B : WB w' tag' kb i ov dv
  p : PoR w po po' A.bs A'.bs
def StepQ (w : World) (tag : Nat → Nat) (wp : Nat) (L : Nat → Nat) (po : Option Addr) (A : Ab) (kb i : Nat) (ov dv : Value) (k x : Int) (s : Sn) (w' : World) : Prop := ∃ tag' po',
  (doneA A (i : Int) k x s = true ∧ StepE w w' tag tag' wp L po po' A (doS A (i : Int) k x) kb i ov dv ∧ w'.cell? ⟨kb, 5, none⟩ = some (.int .i64 (doA A (i : Int) k x).1) ∧ w'.cell? ⟨kb, 6, none⟩ = some (.bool (doA A (i : Int) k x).2) ∧ w'.cell? ⟨kb, 7, none⟩ = some (.int .i64 0)) ∨
  (doneA A (i : Int) k x s = false ∧ StepE w w' tag tag' wp L po po' A A kb i ov dv ∧ UA w' tag' L po' A.bs kb i k x (nowA A k))
theorem WI.stay {w w' : World} {tag tag' : Nat → Nat} {wp : Nat} {L : Nat → Nat} {po : Option Addr} {A : Ab} {i : Nat} (h : WI w tag wp L po A) (ht : Tch (fun k => tag k = 3 + i) w w') (ha : ∀ b, b < w.heap.size → tag' b = tag b) : WI w' tag' wp L po A := by
  have hL : ∀ j, j < 9 → w'.heap[L j]? = w.heap[L j]? := fun j hj => ht.heap _ (h.c.lt j hj) (fun e => by rw [h.t1 j hj] at e; omega)
  refine ⟨h.c.keep hL (fun k e => ht.heap _ (h.c.best.o.lt e) (fun e2 => by rw [h.tp k e] at e2; omega)), h.l.stays (ht.heap _ h.l.lt (fun e => by rw [h.tw] at e; omega)), fun j hj => (ha _ (h.c.lt j hj)).trans (h.t1 j hj), (ha _ h.l.lt).trans h.tw, fun k e => (ha _ (h.c.best.o.lt e)).trans (h.tp k e)⟩
/-- the things changed -/
theorem WI.of {w w' : World} {tag tag' : Nat → Nat} {wp : Nat} {L : Nat → Nat} {po po' : Option Addr} {A A' : Ab} {i : Nat} (h : WI w tag wp L po A) (ht : Tch (fun b => CW L b ∨ tag b = 3 + i) w w') (hc : CObj w' L po' A') (ha : ∀ b, b < w.heap.size → tag' b = tag b) (hp : ∀ k, po' = some ⟨k, 0, none⟩ → tag' k = 2) : WI w' tag' wp L po' A' := by
  refine ⟨hc, h.l.stays (ht.heap _ h.l.lt (fun e => ?_)), fun j hj => (ha _ (h.c.lt j hj)).trans (h.t1 j hj), (ha _ h.l.lt).trans h.tw, hp⟩
  rcases e with e | e
  · have q : ∀ j, j < 9 → wp ≠ L j := fun j hj e2 => by have := h.t1 j hj; rw [← e2, h.tw] at this; omega
    rcases e with e | e | e | e | e
    · exact q 1 (by decide) e
    · exact q 3 (by decide) e
    · exact q 5 (by decide) e
    · exact q 6 (by decide) e
    · exact q 8 (by decide) e
  · rw [h.tw] at e; omega
theorem WI.nL {w : World} {tag : Nat → Nat} {wp : Nat} {L : Nat → Nat} {po : Option Addr} {A : Ab} (h : WI w tag wp L po A) {b i : Nat} (hb : tag b = 3 + i) (j : Nat) (hj : j < 9) : b ≠ L j := fun e => by have := h.t1 j hj; rw [← e, hb] at this; omega
theorem WI.nw {w : World} {tag : Nat → Nat} {wp : Nat} {L : Nat → Nat} {po : Option Addr} {A : Ab} (h : WI w tag wp L po A) {b i : Nat} (hb : tag b = 3 + i) : b ≠ wp := fun e => by have := h.tw; rw [← e, hb] at this; omega
theorem WI.wL {w : World} {tag : Nat → Nat} {wp : Nat} {L : Nat → Nat} {po : Option Addr} {A : Ab} (h : WI w tag wp L po A) (j : Nat) (hj : j < 9) : wp ≠ L j := fun e => by have := h.t1 j hj; rw [← e, h.tw] at this; omega
theorem WI.np {w : World} {tag : Nat → Nat} {wp : Nat} {L : Nat → Nat} {po : Option Addr} {A : Ab} (h : WI w tag wp L po A) {b i : Nat} (hb : tag b = 3 + i) (k : Nat) (hk : po = some ⟨k, 0, none⟩) : k ≠ b := fun e => by have := h.tp k hk; rw [e, hb] at this; omega
/-- the walker as it stands ahead of the first look -/
structure YOk (w : World) (kb tb : Nat) (Y : World) : Prop where
  t : Tch (fun k => k = kb) w Y
  h8 : Has8 Y kb
  f : ∀ o, Y.frozen? ⟨kb, o, none⟩ = false
  old : ∀ p, p < 3 → Y.cell? ⟨kb, p, none⟩ = w.cell? ⟨kb, p, none⟩
  y : Y.cell? ⟨kb, 6, none⟩ = some (.bool false)
  z : Y.cell? ⟨kb, 7, none⟩ = some (.int .i64 0)
theorem fresh_ob {w : World} {kb k : Nat} (h : k ≠ kb) : (fresh w kb).heap[k]? = w.heap[k]? := (heap_setCell_other _ _ _ _ h).trans ((heap_setCell_other _ _ _ _ h).trans (heap_setCell_other _ _ _ _ h))
theorem fresh_size (w : World) (kb : Nat) : (fresh w kb).heap.size = w.heap.size := by unfold fresh; rw [World.size_setCell, World.size_setCell, World.size_setCell]
theorem FrY.ok {w V w1 Y : World} {kb tb fa : Nat} {ca : Array Value} {gb : Value} (h8 : Has8 w kb) (hf : ∀ o, w.frozen? ⟨kb, o, none⟩ = false) (hV : Below w.heap.size (fresh w kb) V) (hx : Nx kb V w1) (h5 : ∃ u, w1.cell? ⟨kb, 5, none⟩ = some u) (hY : FrY kb w V w1 tb fa ca gb Y) : YOk w kb tb Y := by
  have lk := h8.lt
  have zV : w.heap.size ≤ V.heap.size := by have := hV.size; rw [fresh_size] at this; exact this
  have lkV : kb < V.heap.size := by omega
  have z1 := hx.size
  have bV := hV.block kb lk
  have cV : ∀ p, p ≠ 3 → p ≠ 4 → p ≠ 5 → Y.cell? ⟨kb, p, none⟩ = (fresh w kb).cell? ⟨kb, p, none⟩ := fun p a b c => (hY.oth p a b).trans ((hx.oth p c).trans (World.cell?_of_block (a := ⟨kb, p, none⟩) bV))
  have i6 : (fresh w kb).cell? ⟨kb, 6, none⟩ = some (.bool false) := (cell_ne (by decide)).trans (World.cell?_setCell_same' _ _ _ (by rw [cell_ne (by decide)]; exact (h8 6 (by decide)).1))
  have i7 : (fresh w kb).cell? ⟨kb, 7, none⟩ = some (.int .i64 0) := World.cell?_setCell_same' _ _ _ (by rw [cell_ne (by decide), cell_ne (by decide)]; exact (h8 7 (by decide)).1)
  have io : ∀ p, p < 3 → (fresh w kb).cell? ⟨kb, p, none⟩ = w.cell? ⟨kb, p, none⟩ := fun p hp => (cell_ne (by omega)).trans ((cell_ne (by omega)).trans (cell_ne (by omega)))
  have ff : ∀ o, Y.frozen? ⟨kb, o, none⟩ = false := fun o => (hY.fro o).trans ((hx.fro o).trans ((World.frozen?_of_block (a := ⟨kb, o, none⟩) bV).trans ((World.frozen?_setCell _ _ _ _).trans ((World.frozen?_setCell _ _ _ _).trans ((World.frozen?_setCell _ _ _ _).trans (hf o))))))
  have old : ∀ p, p < 3 → Y.cell? ⟨kb, p, none⟩ = w.cell? ⟨kb, p, none⟩ := fun p hp => (cV p (by omega) (by omega) (by omega)).trans (io p hp)
  refine ⟨⟨hY.os.trans (hx.os.trans hV.os), hY.tape.trans (hx.tape.trans hV.tape), hY.output.trans (hx.output.trans hV.output), by have := hY.size; omega, fun k hk hn => ?_⟩, fun o ho => ⟨?_, ff o⟩, ff, old, (cV 6 (by decide) (by decide) (by decide)).trans i6, (cV 7 (by decide) (by decide) (by decide)).trans i7⟩
  · have := hY.lo
    exact (hY.heap k (by omega) hn (by omega)).trans ((hx.heap k (by omega) hn).trans ((hV.block k hk).trans (fresh_ob hn)))
  · obtain rfl | rfl | rfl | rfl | rfl | rfl | rfl | rfl : o = 0 ∨ o = 1 ∨ o = 2 ∨ o = 3 ∨ o = 4 ∨ o = 5 ∨ o = 6 ∨ o = 7 := by omega
    · rw [old 0 (by decide)]; exact (h8 0 (by decide)).1
    · rw [old 1 (by decide)]; exact (h8 1 (by decide)).1
    · rw [old 2 (by decide)]; exact (h8 2 (by decide)).1
    · rw [hY.c3]; rfl
    · rw [hY.c4]; rfl
    · obtain ⟨u, hu⟩ := h5
      rw [hY.oth 5 (by decide) (by decide), hu]; rfl
    · rw [(cV 6 (by decide) (by decide) (by decide)), i6]; rfl
    · rw [(cV 7 (by decide) (by decide) (by decide)), i7]; rfl
theorem FrY.box {w V w1 Y : World} {kb tb fa : Nat} {ca : Array Value} {gb : Value} (hk : kb < V.heap.size) (hY : FrY kb w V w1 tb fa ca gb Y) {b : Nat} (h1 : V.heap.size ≤ b) (h2 : b < w1.heap.size) : Y.heap[b]? = w1.heap[b]? := hY.heap b h2 (by omega) (by have := hY.ap; omega)
theorem Has8.wr {w w' : World} {n b o : Nat} {u : Value} (h : Has8 w n) (hw : Wr1 w b o u w') : Has8 w' n := fun p hp => by
  obtain ⟨v, hv⟩ := Option.isSome_iff_exists.1 (h p hp).1
  by_cases e : n = b
  · subst e
    refine ⟨?_, (hw.fro p).trans (h p hp).2⟩
    by_cases e2 : p = o
    · subst e2; rw [hw.at_]; rfl
    · rw [hw.oth p e2, hv]; rfl
  · exact ⟨by rw [cell_stay hv (hw.heap n e)]; rfl, fro_stay (h p hp).2 (hw.heap n e)⟩
theorem Tch.wr {T : Nat → Prop} {w w1 w' : World} {b o : Nat} {u : Value} (h : Tch T w w1) (hw : Wr1 w1 b o u w') (hb : T b ∨ w.heap.size ≤ b) : Tch T w w' :=
  ⟨hw.os.trans h.os, hw.tape.trans h.tape, hw.output.trans h.output, by rw [← hw.size]; exact h.size, fun k hk hn => (hw.heap k (fun e => by subst e; rcases hb with hb | hb; exact hn hb; omega)).trans (h.heap k hk hn)⟩
end Go.Proofs.Ytimabgakemgldaa
