/- Contracts of the layer's functions, each proved once, in the order in which they are used. No condition beyond each theorem's own. -/
import Derived.Test.YtimabgakemgldaaX3
import Derived.Laws.LoneSync
import Derived.WalkKit
import Derived.StillTailTactics
import Derived.Deep.RegionLaw
import Derived.Deep.RegionHeld3
import Derived.Laws.OwnMore
import Derived.Deep.Matrix
import Derived.BigQuiet
import Derived.Deep.QuietTactic
import Derived.Laws.EntriesVeiled
import Derived.Laws.StructEq
import Derived.Deep.CutRange
namespace Go.Proofs.Ytimabgakemgldaa
open Go.ChangeShapes Go.WideShapes Go.ChangeAt Go.RowKit Go.Deep
set_option linter.unusedSimpArgs false
set_option linter.unusedVariables false

theorem flds131 : (Try.prog.fieldsOf 131).toList.map (fun f => (decide (f.name = "_"), f.type, f.offset)) = [(false, 4, 0), (false, 2, 1), (false, 3, 2), (false, 4, 3)] := by kernel_rfl
theorem part131a (a c : Bool) (x s : Int) (w : World) : Sem.run Try.prog (part 4 #[.bool a, .int .i64 x, .int .i64 s, .bool c] 0) w = .ok (.bool a) w := by kernel_rfl
theorem part131b (a c : Bool) (x s : Int) (w : World) : Sem.run Try.prog (part 2 #[.bool a, .int .i64 x, .int .i64 s, .bool c] 1) w = .ok (.int .i64 x) w := by kernel_rfl
theorem part131c (a c : Bool) (x s : Int) (w : World) : Sem.run Try.prog (part 3 #[.bool a, .int .i64 x, .int .i64 s, .bool c] 2) w = .ok (.int .i64 s) w := by kernel_rfl
theorem part131d (a c : Bool) (x s : Int) (w : World) : Sem.run Try.prog (part 4 #[.bool a, .int .i64 x, .int .i64 s, .bool c] 3) w = .ok (.bool c) w := by kernel_rfl
theorem eq131 (a b c d : Bool) (x y s t : Int) (w : World) : Sem.run Try.prog (binOp .eql 131 (.agg #[.bool a, .int .i64 x, .int .i64 s, .bool c]) (.agg #[.bool b, .int .i64 y, .int .i64 t, .bool d])) w = .ok (.bool ((a == b) && ((x == y) && ((s == t) && (c == d))))) w := by
  rw [run_eql_struct, run_equalIn_agg w 9999 131 _ _ (by kernel_rfl) (by kernel_rfl)]
  have hf := flds131
  generalize (Try.prog.fieldsOf 131).toList = fs at hf
  obtain ⟨f, r, rfl, hf1, hf2⟩ := List.map_eq_cons_iff.1 hf
  obtain ⟨g, r2, rfl, hg1, hg2⟩ := List.map_eq_cons_iff.1 hf2
  obtain ⟨h, r3, rfl, hh1, hh2⟩ := List.map_eq_cons_iff.1 hg2
  obtain ⟨k, r4, rfl, hk1, hk2⟩ := List.map_eq_cons_iff.1 hh2
  obtain rfl : r4 = [] := by simpa using hk2
  simp only [Prod.mk.injEq, decide_eq_false_iff_not] at hf1 hg1 hh1 hk1
  obtain ⟨f1, f2, f3⟩ := hf1
  obtain ⟨g1, g2, g3⟩ := hg1
  obtain ⟨h1, h2, h3⟩ := hh1
  obtain ⟨k1, k2, k3⟩ := hk1
  simp only [Op.eqFields, ne_eq, f1, g1, h1, k1, not_false_iff, if_true, f2, f3, g2, g3, h2, h3, k2, k3, Sem.run_bind, part131a, part131b, part131c, part131d, Result.andThen_ok, run_equalIn_bool w 9998 4 _ _ Try.underlying4, run_equalIn_int w 9998 2 _ _ _ _ Try.underlying2, run_equalIn_int w 9998 3 _ _ _ _ Try.underlying3]
  cases hab : (a == b) <;> cases hxy : (x == y) <;> cases hst : (s == t) <;> cases hcd : (c == d) <;> simp [part131b, part131c, part131d, run_equalIn_bool w 9998 4 _ _ Try.underlying4, run_equalIn_int w 9998 2 .i64 .i64 x y Try.underlying2, run_equalIn_int w 9998 3 .i64 .i64 s t Try.underlying3, hxy, hst, hcd]

def RStepPost (A : Ab) (i : Nat) (k x : Int) (u : Sn) (r rs : Nat) (w : World) (e : Ending) (w' : World) : Prop :=
  e = .returned (.tuple #[snV (cond (doneA A (i : Int) k x u) .no (nowA A k)), .agg #[.int .i64 (cond (doneA A (i : Int) k x u) (doA A (i : Int) k x).1 0), .bool (cond (doneA A (i : Int) k x u) (doA A (i : Int) k x).2 false), .int .i64 0], .bool (doneA A (i : Int) k x u)]) ∧ RObj w' r rs (cond (doneA A (i : Int) k x u) (doS A (i : Int) k x) A) ∧ Tch (fun b => b = r ∨ b = rs) w w'
theorem RS_done {A A' : Ab} {i : Nat} {k x a : Int} {y : Bool} {u : Sn} {r rs : Nat} {w : World} {args : Array Value} (hd : doneA A (i : Int) k x u = true) (ha : (doA A (i : Int) k x).1 = a) (hy : (doA A (i : Int) k x).2 = y) (hA : doS A (i : Int) k x = A')
    (h : Calls Try.prog 45 args w fun e w' => e = .returned (.tuple #[.agg #[.bool false, .int .i64 0, .int .i64 0, .bool false], .agg #[.int .i64 a, .bool y, .int .i64 0], .bool true]) ∧ RObj w' r rs A' ∧ Tch (fun b => b = r ∨ b = rs) w w') : Calls Try.prog 45 args w (RStepPost A i k x u r rs w) :=
  h.mono (fun e w' q => by unfold RStepPost; rw [hd, ha, hy, hA]; exact q)
theorem RS_look {A : Ab} {i : Nat} {k x : Int} {u : Sn} {r rs : Nat} {w : World} {args : Array Value} {v : Value} (hd : doneA A (i : Int) k x u = false) (hv : snV (nowA A k) = v)
    (h : Calls Try.prog 45 args w fun e w' => e = .returned (.tuple #[v, .agg #[.int .i64 0, .bool false, .int .i64 0], .bool false]) ∧ RObj w' r rs A ∧ Tch (fun b => b = r ∨ b = rs) w w') : Calls Try.prog 45 args w (RStepPost A i k x u r rs w) :=
  h.mono (fun e w' q => by unfold RStepPost; rw [hd]; subst hv; exact q)
theorem off_eq (o p : Option (Int × Int)) : ((true == true) && ((bX o == bX p) && ((bWho o == bWho p) && (o.isSome == p.isSome)))) = decide (o = p) := by
  rcases o with _ | ⟨a, b⟩ <;> rcases p with _ | ⟨c, d⟩
  · rfl
  · simp
  · simp
  · by_cases h1 : a = c <;> by_cases h2 : b = d <;> simp [bX, bWho, h1, h2]
theorem idle_doA {A : Ab} {i : Nat} {x : Int} :
    (idleA A (i : Int) 2 x = true → doA A (i : Int) 2 x = (A.mark, false)) ∧ (idleA A (i : Int) 3 x = true → doA A (i : Int) 3 x = (x, false)) ∧ (idleA A (i : Int) 5 x = true → doA A (i : Int) 5 x = (0, false)) := by
  refine ⟨fun h => ?_, fun h => ?_, fun h => ?_⟩
  · have h : decide (x ≤ A.mark) = true := h
    rw [decide_eq_true_eq] at h
    show (A.mark, decide (A.mark < x)) = _
    rw [decide_eq_false (by omega)]
  · have h : idleB A.bs (i : Int) x = true := h
    show (x, !(idleB A.bs (i : Int) x)) = _
    rw [h]; rfl
  · have h : decide (A.tt ≤ A.tk) = true := h
    rw [decide_eq_true_eq] at h
    unfold doA
    simp [takeA, show ¬ A.tk < A.tt by omega]
theorem rstep_c (r rs i n : Nat) (A : Ab) (k x c : Int) (u : Sn) (w : World) (h : RObj w r rs A) (hA : AbOk A n c) (hc : c ≤ 4611686018427387904) (hi : i < n) (hs : SnOk A (i : Int) k x u) :
    Calls Try.prog 45 #[.pointer (some ⟨r, 0, none⟩), .int .i64 (i : Int), .agg #[.int .i64 k, .int .i64 x], snV u] w (RStepPost A i k x u r rs w) := by
  by_cases k2 : k = 2
  · subst k2
    have lk : loopK 2 = true := rfl
    cases u with
    | off o => exact absurd hs.1 (by decide)
    | no =>
      cases hid : idleA A (i : Int) 2 x with
      | true =>
        have d := idle_doA.1 hid
        exact RS_done (by unfold doneA; rw [hid]; simp) (by rw [d]) (by rw [d]) (idle_doS lk hid) (ridle_2f r rs i n A x c 0 0 false w h hA hc hi hid)
      | false => exact RS_look (by unfold doneA; rw [hid, lk]; rfl) rfl (rlook_2f r rs i n A x c 0 0 false w h hA hc hi hid)
    | num v =>
      have q : ∀ w, Sem.run Try.prog (binOp .eql 131 (.agg #[.bool true, .int .i64 v, .int .i64 0, .bool false]) (.agg #[.bool true, .int .i64 A.mark, .int .i64 0, .bool false])) w = .ok (.bool (decide (v = A.mark))) w := fun w => by
        rw [eq131]; by_cases e : v = A.mark <;> simp [e]
      by_cases e : v = A.mark
      · rw [decide_eq_true e] at q
        exact RS_done (by unfold doneA; rw [lk, show hitA A 2 (.num v) = true from decide_eq_true e]; simp) rfl rfl rfl (rhit_2 r rs i n A x c v 0 false w h hA hc hi q)
      · rw [decide_eq_false e] at q
        cases hid : idleA A (i : Int) 2 x with
        | true =>
          have d := idle_doA.1 hid
          exact RS_done (by unfold doneA; rw [hid]; simp) (by rw [d]) (by rw [d]) (idle_doS lk hid) (ridle_2s r rs i n A x c v 0 false w h hA hc hi q hid)
        | false => exact RS_look (by unfold doneA; rw [hid, lk, show hitA A 2 (.num v) = false from decide_eq_false e]; rfl) rfl (rlook_2s r rs i n A x c v 0 false w h hA hc hi q hid)
  by_cases k3 : k = 3
  · subst k3
    have lk : loopK 3 = true := rfl
    cases u with
    | num v => rcases hs with hs | hs <;> exact absurd hs.1 (by decide)
    | no =>
      cases hid : idleA A (i : Int) 3 x with
      | true =>
        have d := idle_doA.2.1 hid
        exact RS_done (by unfold doneA; rw [hid]; simp) (by rw [d]) (by rw [d]) (idle_doS lk hid) (ridle_3f r rs i n A x c 0 0 false w h hA hc hi hid)
      | false => exact RS_look (by unfold doneA; rw [hid, lk]; rfl) rfl (rlook_3f r rs i n A x c 0 0 false w h hA hc hi hid)
    | off o =>
      have q : ∀ w, Sem.run Try.prog (binOp .eql 131 (.agg #[.bool true, .int .i64 (bX o), .int .i64 (bWho o), .bool o.isSome]) (.agg #[.bool true, .int .i64 (bX A.bs), .int .i64 (bWho A.bs), .bool A.bs.isSome])) w = .ok (.bool (decide (o = A.bs))) w := fun w => by
        rw [eq131, off_eq]
      by_cases e : o = A.bs
      · rw [decide_eq_true e] at q
        exact RS_done (by unfold doneA; rw [lk, show hitA A 3 (.off o) = true from decide_eq_true e]; simp) rfl rfl rfl (rhit_3 r rs i n A x c (bX o) (bWho o) o.isSome w h hA hc hi q)
      · rw [decide_eq_false e] at q
        cases hid : idleA A (i : Int) 3 x with
        | true =>
          have d := idle_doA.2.1 hid
          exact RS_done (by unfold doneA; rw [hid]; simp) (by rw [d]) (by rw [d]) (idle_doS lk hid) (ridle_3s r rs i n A x c (bX o) (bWho o) o.isSome w h hA hc hi q hid)
        | false => exact RS_look (by unfold doneA; rw [hid, lk, show hitA A 3 (.off o) = false from decide_eq_false e]; rfl) rfl (rlook_3s r rs i n A x c (bX o) (bWho o) o.isSome w h hA hc hi q hid)
  by_cases k5 : k = 5
  · subst k5
    have lk : loopK 5 = true := rfl
    cases u with
    | off o => exact absurd hs.1 (by decide)
    | no =>
      cases hid : idleA A (i : Int) 5 x with
      | true =>
        have d := idle_doA.2.2 hid
        exact RS_done (by unfold doneA; rw [hid]; simp) (by rw [d]) (by rw [d]) (idle_doS lk hid) (ridle_5f r rs i n A x c 0 0 false w h hA hc hi hid)
      | false => exact RS_look (by unfold doneA; rw [hid, lk]; rfl) rfl (rlook_5f r rs i n A x c 0 0 false w h hA hc hi hid)
    | num v =>
      have q : ∀ w, Sem.run Try.prog (binOp .eql 131 (.agg #[.bool true, .int .i64 v, .int .i64 0, .bool false]) (.agg #[.bool true, .int .i64 A.tk, .int .i64 0, .bool false])) w = .ok (.bool (decide (v = A.tk))) w := fun w => by
        rw [eq131]; by_cases e : v = A.tk <;> simp [e]
      by_cases e : v = A.tk
      · rw [decide_eq_true e] at q
        exact RS_done (by unfold doneA; rw [lk, show hitA A 5 (.num v) = true from decide_eq_true e]; simp) rfl rfl rfl (rhit_5 r rs i n A x c v 0 false w h hA hc hi q)
      · rw [decide_eq_false e] at q
        cases hid : idleA A (i : Int) 5 x with
        | true =>
          have d := idle_doA.2.2 hid
          exact RS_done (by unfold doneA; rw [hid]; simp) (by rw [d]) (by rw [d]) (idle_doS lk hid) (ridle_5s r rs i n A x c v 0 false w h hA hc hi q hid)
        | false => exact RS_look (by unfold doneA; rw [hid, lk, show hitA A 5 (.num v) = false from decide_eq_false e]; rfl) rfl (rlook_5s r rs i n A x c v 0 false w h hA hc hi q hid)
  have lk : loopK k = false := by unfold loopK; simp [k2, k3, k5]
  exact RS_done (by unfold doneA; rw [lk]; rfl) rfl rfl rfl (rstep_X r rs i n A k x c (snX u) (snW u) (snL u) (snA u) w h hA hc hi k2 k3 k5)
end Go.Proofs.Ytimabgakemgldaa

namespace Go.Proofs.Ytimabgakemgldaa
open Go.ChangeShapes Go.WideShapes Go.ChangeAt Go.RowKit Go.Deep
set_option linter.unusedSimpArgs false
set_option linter.unusedVariables false

def sn4 (s : Sn) : List Value := [.bool (snL s), .int .i64 (snX s), .int .i64 (snW s), .bool (snA s)]
def looksL (n : Nat) (ws : List WS) : List Value := (List.range n).flatMap fun i => sn4 (wsAt ws i).s
theorem flat4_len (f : Nat → List Value) (hf : ∀ i, (f i).length = 4) (n : Nat) : ((List.range n).flatMap f).length = n * 4 := by
  induction n with
  | zero => rfl
  | succ n ih => rw [List.range_succ, List.flatMap_append, List.length_append, ih]; simp [hf]; omega
theorem flat4_at (f : Nat → List Value) (hf : ∀ i, (f i).length = 4) (n i p : Nat) (hi : i < n) (hp : p < 4) : ((List.range n).flatMap f)[i * 4 + p]? = (f i)[p]? := by
  induction n with
  | zero => omega
  | succ n ih =>
    rw [List.range_succ, List.flatMap_append]
    by_cases e : i < n
    · rw [List.getElem?_append_left (by rw [flat4_len f hf]; omega)]; exact ih e
    · obtain rfl : i = n := by omega
      rw [List.getElem?_append_right (by rw [flat4_len f hf]; omega), flat4_len f hf]
      simp
theorem looksL_len (n : Nat) (ws : List WS) : (looksL n ws).length = n * 4 := flat4_len _ (fun _ => rfl) n
theorem looksL_at (n : Nat) (ws : List WS) (i p : Nat) (hi : i < n) (hp : p < 4) : (looksL n ws)[i * 4 + p]? = (sn4 (wsAt ws i).s)[p]? := flat4_at _ (fun _ => rfl) n i p hi hp
theorem looksL_set (n : Nat) (ws : List WS) (i : Nat) (u : WS) (hi : i < n) (hn : ws.length = n) :
    looksL n (ws.set i u) = ((((looksL n ws).set (i * 4) (.bool (snL u.s))).set (i * 4 + 1) (.int .i64 (snX u.s))).set (i * 4 + 2) (.int .i64 (snW u.s))).set (i * 4 + 3) (.bool (snA u.s)) := by
  apply List.ext_getElem?
  intro j
  by_cases hj : j < n * 4
  · obtain ⟨q, p, hq, hp, rfl⟩ : ∃ q p, q < n ∧ p < 4 ∧ j = q * 4 + p := ⟨j / 4, j % 4, by omega, by omega, by omega⟩
    rw [looksL_at n _ q p hq hp]
    by_cases e : q = i
    · subst e
      have z : wsAt (ws.set q u) q = u := by unfold wsAt; rw [List.getD_eq_getElem?_getD, List.getElem?_set_self (by omega)]; rfl
      rw [z]
      obtain rfl | rfl | rfl | rfl : p = 0 ∨ p = 1 ∨ p = 2 ∨ p = 3 := by omega
      all_goals simp [List.getElem?_set, looksL_len, sn4]
      all_goals omega
    · have z : wsAt (ws.set i u) q = wsAt ws q := by unfold wsAt; rw [List.getD_eq_getElem?_getD, List.getElem?_set_ne (fun h => e h.symm), ← List.getD_eq_getElem?_getD]
      rw [z, List.getElem?_set_ne (by omega), List.getElem?_set_ne (by omega), List.getElem?_set_ne (by omega), List.getElem?_set_ne (by omega), looksL_at n _ q p hq hp]
  · rw [List.getElem?_eq_none (by rw [looksL_len]; omega), List.getElem?_eq_none (by simp [looksL_len]; omega)]
theorem dvs_set (n : Nat) (dv : Nat → Value) (i : Nat) (v : Value) (hi : i < n) : (List.range n).map (upd dv i v) = ((List.range n).map dv).set i v := by
  apply List.ext_getElem (by simp)
  intro j h1 h2
  simp at h1
  by_cases e : i = j
  · subst e; simp [upd_same]
  · rw [List.getElem_set_ne e]; simp [upd_ne _ _ e]
/-- the document's Walk under way -/
structure RW (w0 W : World) (tag : Nat → Nat) (r rs lb ob n : Nat) (dv : Nat → Value) (A : Ab) (ws : List WS) : Prop where
  below : Below w0.heap.size w0 W
  lo : ∀ b, b < w0.heap.size → tag b = 0
  ro : RObj W r rs A
  tr : tag r = 1
  ts : tag rs = 1
  tl : tag lb = 2
  to_ : tag ob = 3
  lk : W.ownsRow w0.heap.size 131 4 (.slice (some ⟨lb, 0, none⟩) n n) n (looksL n ws)
  out : W.ownsRow w0.heap.size 77 1 (.slice (some ⟨ob, 0, none⟩) n n) n ((List.range n).map dv)
  D : ∀ i, i < n → W.ownsRow w0.heap.size 52 3 (dv i) (wsAt ws i).did.length (flatA (wsAt ws i).did)
  Dt : ∀ i, i < n → ∀ b, (dv i).ownBlock = some b → tag b = 4 + i
/-- a step of the document's: its own blocks alone -/
theorem RW.stepped {w0 W W' : World} {tag : Nat → Nat} {r rs lb ob n : Nat} {dv : Nat → Value} {A A' : Ab} {ws : List WS} (h : RW w0 W tag r rs lb ob n dv A ws) (ht : Tch (fun b => b = r ∨ b = rs) W W') (hr : RObj W' r rs A') : RW w0 W' tag r rs lb ob n dv A' ws := by
  have z0 := h.below.size
  have s : ∀ b, b < W.heap.size → tag b ≠ 1 → W'.heap[b]? = W.heap[b]? := fun b hb hn => ht.heap b hb (fun e => by rcases e with rfl | rfl; exact hn h.tr; exact hn h.ts)
  refine ⟨⟨ht.os.trans h.below.os, ht.tape.trans h.below.tape, ht.output.trans h.below.output, Nat.le_trans z0 ht.size, fun b hb => (s b (by omega) (by rw [h.lo b hb]; decide)).trans (h.below.block b hb)⟩, h.lo, hr, h.tr, h.ts, h.tl, h.to_, own_stays h.lk (fun b e => ?_), own_stays h.out (fun b e => ?_), fun i hi => own_stays (h.D i hi) (fun b e => s b ((h.D i hi).lt b e).2 (by rw [h.Dt i hi b e]; omega)), h.Dt⟩
  · obtain rfl : lb = b := Option.some.inj e
    exact s _ (h.lk.lt _ e).2 (by rw [h.tl]; decide)
  · obtain rfl : ob = b := Option.some.inj e
    exact s _ (h.out.lt _ e).2 (by rw [h.to_]; decide)
/-- what is laid anew beside it -/
theorem RW.later {w0 W W' : World} {tag : Nat → Nat} {r rs lb ob n : Nat} {dv : Nat → Value} {A : Ab} {ws : List WS} (h : RW w0 W tag r rs lb ob n dv A ws) (hb : Below W.heap.size W W') : RW w0 W' tag r rs lb ob n dv A ws :=
  h.stepped (Tch.of hb) (h.ro.below hb)

theorem RW.look {w0 W : World} {tag : Nat → Nat} {r rs lb ob n : Nat} {dv : Nat → Value} {A : Ab} {ws : List WS} (h : RW w0 W tag r rs lb ob n dv A ws) {i : Nat} (hi : i < n) (hn : ws.length = n) (s : Sn) :
    RW w0 ((((W.setCell ⟨lb, i * 4, none⟩ (.bool (snL s))).setCell ⟨lb, i * 4 + 1, none⟩ (.int .i64 (snX s))).setCell ⟨lb, i * 4 + 2, none⟩ (.int .i64 (snW s))).setCell ⟨lb, i * 4 + 3, none⟩ (.bool (snA s))) tag r rs lb ob n dv A (ws.set i ⟨(wsAt ws i).did, s⟩) := by
  have z0 := h.below.size
  obtain ⟨W', hW⟩ : ∃ W', W' = (((W.setCell ⟨lb, i * 4, none⟩ (.bool (snL s))).setCell ⟨lb, i * 4 + 1, none⟩ (.int .i64 (snX s))).setCell ⟨lb, i * 4 + 2, none⟩ (.int .i64 (snW s))).setCell ⟨lb, i * 4 + 3, none⟩ (.bool (snA s)) := ⟨_, rfl⟩
  have ht : Tch (fun b => b = lb) W W' := by
    rw [hW]
    have t0 : Tch (fun b => b = lb) W W := Tch.of (Below.refl _ W)
    exact (((t0.set (b := lb) rfl _ _).set (b := lb) rfl _ _).set (b := lb) rfl _ _).set (b := lb) rfl _ _
  have hl : W'.ownsRow w0.heap.size 131 4 (.slice (some ⟨lb, 0, none⟩) n n) n (looksL n (ws.set i ⟨(wsAt ws i).did, s⟩)) := by
    rw [hW, looksL_set n ws i _ hi hn]
    exact ((((h.lk.stored _ _).1.stored _ _).1.stored _ _).1.stored _ _).1
  rw [← hW]
  clear hW
  have q : ∀ b, b < W.heap.size → tag b ≠ 2 → W'.heap[b]? = W.heap[b]? := fun b hb hne => ht.heap b hb (fun e => by subst e; exact hne h.tl)
  have hd : ∀ j, (wsAt (ws.set i ⟨(wsAt ws i).did, s⟩) j).did = (wsAt ws j).did := fun j => by
    rw [wsAt_set (by omega)]
    split
    · rename_i e; subst e; rfl
    · rfl
  refine ⟨⟨ht.os.trans h.below.os, ht.tape.trans h.below.tape, ht.output.trans h.below.output, Nat.le_trans z0 ht.size, fun b hb => (q b (by omega) (by rw [h.lo b hb]; decide)).trans (h.below.block b hb)⟩, h.lo, h.ro.stays (q _ h.ro.lt.1 (by rw [h.tr]; decide)) (q _ h.ro.lt.2 (by rw [h.ts]; decide)), h.tr, h.ts, h.tl, h.to_, hl, own_stays h.out (fun b e => ?_), fun j hj => ?_, h.Dt⟩
  · obtain rfl : ob = b := Option.some.inj e
    exact q _ (h.out.lt _ e).2 (by rw [h.to_]; decide)
  · rw [hd]
    exact own_stays (h.D j hj) (fun b e => q b ((h.D j hj).lt b e).2 (by rw [h.Dt j hj b e]; omega))
theorem RW.did {w0 W W' : World} {tag : Nat → Nat} {r rs lb ob n : Nat} {dv : Nat → Value} {A : Ab} {ws : List WS} (h : RW w0 W tag r rs lb ob n dv A ws) {i : Nat} (hi : i < n) (hn : ws.length = n) (a : Int × Bool × Int) (v : Value)
    (ht : Tch (fun b => b = ob ∨ (dv i).ownBlock = some b) W W') (ho : W'.ownsRow w0.heap.size 77 1 (.slice (some ⟨ob, 0, none⟩) n n) n (((List.range n).map dv).set i v))
    (hd : W'.ownsRow w0.heap.size 52 3 v ((wsAt ws i).did.length + 1) (flatA (wsAt ws i).did ++ ansV a)) (hv : ∀ b, v.ownBlock = some b → (dv i).ownBlock = some b ∨ W.heap.size ≤ b) :
    RW w0 W' (tg tag W.heap.size (4 + i)) r rs lb ob n (upd dv i v) A (ws.set i ⟨(wsAt ws i).did ++ [a], (wsAt ws i).s⟩) := by
  have z0 := h.below.size
  have q : ∀ b, b < W.heap.size → tag b ≠ 3 → tag b ≠ 4 + i → W'.heap[b]? = W.heap[b]? := fun b hb h3 h4 => ht.heap b hb (fun e => by
    rcases e with e | e
    · subst e; exact h3 h.to_
    · exact h4 (h.Dt i hi b e))
  have ll := (h.lk.lt lb rfl).2
  have lo := (h.out.lt ob rfl).2
  have hs : ∀ j, (wsAt (ws.set i ⟨(wsAt ws i).did ++ [a], (wsAt ws i).s⟩) j).s = (wsAt ws j).s := fun j => by
    rw [wsAt_set (by omega)]
    split
    · rename_i e; subst e; rfl
    · rfl
  have hl : looksL n (ws.set i ⟨(wsAt ws i).did ++ [a], (wsAt ws i).s⟩) = looksL n ws := by
    unfold looksL
    simp only [hs]
  refine ⟨⟨ht.os.trans h.below.os, ht.tape.trans h.below.tape, ht.output.trans h.below.output, Nat.le_trans z0 ht.size, fun b hb => (q b (by omega) (by rw [h.lo b hb]; decide) (by rw [h.lo b hb]; omega)).trans (h.below.block b hb)⟩, fun b hb => (tg_lt (by omega)).trans (h.lo b hb), h.ro.stays (q _ h.ro.lt.1 (by rw [h.tr]; decide) (by rw [h.tr]; omega)) (q _ h.ro.lt.2 (by rw [h.ts]; decide) (by rw [h.ts]; omega)), (tg_lt h.ro.lt.1).trans h.tr, (tg_lt h.ro.lt.2).trans h.ts, (tg_lt ll).trans h.tl, (tg_lt lo).trans h.to_, ?_, ?_, fun j hj => ?_, fun j hj b hb => ?_⟩
  · rw [hl]
    refine own_stays h.lk (fun b e => ?_)
    obtain rfl : lb = b := Option.some.inj e
    exact q _ ll (by rw [h.tl]; decide) (by rw [h.tl]; omega)
  · rw [dvs_set n dv i v hi]; exact ho
  · by_cases e : i = j
    · subst e
      rw [upd_same, wsAt_set (by omega), if_pos rfl]
      show W'.ownsRow w0.heap.size 52 3 v ((wsAt ws i).did ++ [a]).length (flatA ((wsAt ws i).did ++ [a]))
      rw [List.length_append, flatA_snoc]; exact hd
    · rw [upd_ne _ _ e, wsAt_set (by omega), if_neg e]
      exact own_stays (h.D j hj) (fun b eb => q b ((h.D j hj).lt b eb).2 (by rw [h.Dt j hj b eb]; omega) (by rw [h.Dt j hj b eb]; omega))
  · by_cases e : i = j
    · subst e
      rw [upd_same] at hb
      rcases hv b hb with e | e
      · exact (tg_lt ((h.D i hi).lt b e).2).trans (h.Dt i hi b e)
      · exact tg_ge e
    · rw [upd_ne _ _ e] at hb
      exact (tg_lt ((h.D j hj).lt b hb).2).trans (h.Dt j hj b hb)

theorem info131 : (Try.prog.info? 131).map (fun i => (i.zero, i.size, i.bytes)) = some (some (.agg #[.bool false, .int .i64 0, .int .i64 0, .bool false]), 4, 32) := by kernel_rfl
theorem made_nil (n : Nat) : (madeCells (Value.slice none 0 0).cells (n * 1)).toList = (List.range n).map (fun _ => Value.slice none 0 0) := by
  rw [Nat.mul_one]
  show (madeCells #[Value.slice none 0 0] n).toList = _
  apply List.ext_getElem
  · simp [madeCells]
  · intro i h1 h2
    simp [madeCells, Nat.mod_one]
theorem made_sn (n : Nat) : (madeCells (Value.agg #[.bool false, .int .i64 0, .int .i64 0, .bool false]).cells (n * 4)).toList = looksL n (List.replicate n ⟨[], .no⟩) := by
  show (madeCells #[.bool false, .int .i64 0, .int .i64 0, .bool false] (n * 4)).toList = _
  apply List.ext_getElem?
  intro j
  by_cases hj : j < n * 4
  · obtain ⟨q, p, hq, hp, rfl⟩ : ∃ q p, q < n ∧ p < 4 ∧ j = q * 4 + p := ⟨j / 4, j % 4, by omega, by omega, by omega⟩
    rw [looksL_at n _ q p hq hp, wsAt_rep hq]
    have e : (q * 4 + p) % 4 = p := by omega
    have g : (madeCells #[Value.bool false, .int .i64 0, .int .i64 0, .bool false] (n * 4)).toList[q * 4 + p]? = some ((#[Value.bool false, .int .i64 0, .int .i64 0, .bool false] : Array Value)[p]!) := by
      unfold madeCells
      rw [Array.toList_map, Array.toList_range, List.getElem?_map, List.getElem?_range hj]
      show some ((#[Value.bool false, .int .i64 0, .int .i64 0, .bool false] : Array Value)[(q * 4 + p) % 4]!) = _
      rw [e]
    rw [g]
    clear g e
    obtain rfl | rfl | rfl | rfl : p = 0 ∨ p = 1 ∨ p = 2 ∨ p = 3 := by omega
    all_goals rfl
  · rw [List.getElem?_eq_none (by simp [madeCells]; omega), List.getElem?_eq_none (by rw [looksL_len]; omega)]
theorem RW.first {w0 w1 w2 w3 : World} {r rs n : Nat} {A : Ab} (hb : Below w0.heap.size w0 w1) (hr : RObj w1 r rs A) (lr : w0.heap.size ≤ r) (ls : w0.heap.size ≤ rs)
    (ho : w2.ownsRow w1.heap.size 77 1 (.slice (some ⟨w1.heap.size, 0, none⟩) n n) n (madeCells (Value.slice none 0 0).cells (n * 1)).toList) (hg : w1.grownBy w2 none)
    (ho2 : w3.ownsRow w2.heap.size 131 4 (.slice (some ⟨w2.heap.size, 0, none⟩) n n) n (madeCells (Value.agg #[.bool false, .int .i64 0, .int .i64 0, .bool false]).cells (n * 4)).toList) (hg2 : w2.grownBy w3 none) :
    ∃ tag, RW w0 w3 tag r rs w2.heap.size w1.heap.size n (fun _ => .slice none 0 0) A (List.replicate n ⟨[], .no⟩) := by
  have z0 := hb.size
  have b1 : Below w1.heap.size w1 w2 := (Below.refl _ _).grown hg (Nat.le_refl _) (fun q e => by cases e)
  have b2 : Below w2.heap.size w2 w3 := (Below.refl _ _).grown hg2 (Nat.le_refl _) (fun q e => by cases e)
  have l1 : w1.heap.size < w2.heap.size := (ho.lt _ rfl).2
  have lt := hr.lt
  have z1 := b1.size
  rw [made_nil] at ho
  rw [made_sn] at ho2
  refine ⟨fun b => if b < w0.heap.size then 0 else if b = w2.heap.size then 2 else if b = w1.heap.size then 3 else 1, bstep (bstep hb b1) b2, fun b hb => if_pos hb, (hr.below b1).below b2, ?_, ?_, ?_, ?_, own_low ho2 (by omega), own_low (own_stays ho (fun b e => ?_)) z0, fun i hi => ?_, fun i hi b e => by cases e⟩
  · show (if _ then _ else _) = _
    rw [if_neg (by omega), if_neg (by omega), if_neg (by omega)]
  · show (if _ then _ else _) = _
    rw [if_neg (by omega), if_neg (by omega), if_neg (by omega)]
  · show (if _ then _ else _) = _
    rw [if_neg (by omega), if_pos rfl]
  · show (if _ then _ else _) = _
    rw [if_neg (by omega), if_neg (by omega), if_pos rfl]
  · obtain rfl : w1.heap.size = b := Option.some.inj e
    exact b2.block _ l1
  · rw [wsAt_rep hi]
    exact ⟨rfl, .inl ⟨rfl, rfl⟩⟩
end Go.Proofs.Ytimabgakemgldaa

namespace Go.Proofs.Ytimabgakemgldaa
open Go.ChangeShapes Go.WideShapes Go.ChangeAt Go.RowKit Go.Deep
set_option linter.unusedSimpArgs false
set_option linter.unusedVariables false

/-- the step's answer in its two boxes -/
structure Mid (w w' : World) (r rs : Nat) (A : Ab) (tb zb : Nat) (l0 : Bool) (l1 l2 : Int) (l3 : Bool) (aa : Int) (ay : Bool) : Prop where
  ro : RObj w' r rs A
  t : Tch (fun b => b = r ∨ b = rs) w w'
  t0 : w'.cell? ⟨tb, 0, none⟩ = some (.bool l0)
  t1 : w'.cell? ⟨tb, 1, none⟩ = some (.int .i64 l1)
  t2 : w'.cell? ⟨tb, 2, none⟩ = some (.int .i64 l2)
  t3 : w'.cell? ⟨tb, 3, none⟩ = some (.bool l3)
  z0 : w'.cell? ⟨zb, 0, none⟩ = some (.int .i64 aa)
  z1 : w'.cell? ⟨zb, 1, none⟩ = some (.bool ay)
  z2 : w'.cell? ⟨zb, 2, none⟩ = some (.int .i64 0)
  zf : w'.frozen? ⟨zb, 2, none⟩ = false
  lt : w.heap.size ≤ tb
  lz : w.heap.size ≤ zb
theorem frP {W V w1 : World} {T : Nat → Prop} (hT : ∀ b, W.heap.size ≤ b → ¬ T b) (h : Tch T V w1) (e : V.heap = (W.alloc (.cells #[.bool false, .int .i64 0, .int .i64 0, .bool false] 131)).heap) : w1.cell? ⟨W.heap.size, 0, none⟩ = some (.bool false) ∧ w1.cell? ⟨W.heap.size, 1, none⟩ = some (.int .i64 0) ∧ w1.cell? ⟨W.heap.size, 2, none⟩ = some (.int .i64 0) ∧ w1.cell? ⟨W.heap.size, 3, none⟩ = some (.bool false) ∧ w1.frozen? ⟨W.heap.size, 0, none⟩ = false ∧ w1.frozen? ⟨W.heap.size, 1, none⟩ = false ∧ w1.frozen? ⟨W.heap.size, 2, none⟩ = false ∧ w1.frozen? ⟨W.heap.size, 3, none⟩ = false := by
  have q4 : w1.heap[W.heap.size]? = (W.alloc (.cells #[.bool false, .int .i64 0, .int .i64 0, .bool false] 131)).heap[W.heap.size]? := by rw [← e]; exact h.heap _ (by rw [e]; simp only [World.size_alloc]; omega) (hT _ (by omega))
  exact ⟨(World.cell?_of_block (a := ⟨W.heap.size, 0, none⟩) q4).trans (by simp [go_sem]), (World.cell?_of_block (a := ⟨W.heap.size, 1, none⟩) q4).trans (by simp [go_sem]), (World.cell?_of_block (a := ⟨W.heap.size, 2, none⟩) q4).trans (by simp [go_sem]), (World.cell?_of_block (a := ⟨W.heap.size, 3, none⟩) q4).trans (by simp [go_sem]), (World.frozen?_of_block (a := ⟨W.heap.size, 0, none⟩) q4).trans (by simp [go_sem]), (World.frozen?_of_block (a := ⟨W.heap.size, 1, none⟩) q4).trans (by simp [go_sem]), (World.frozen?_of_block (a := ⟨W.heap.size, 2, none⟩) q4).trans (by simp [go_sem]), (World.frozen?_of_block (a := ⟨W.heap.size, 3, none⟩) q4).trans (by simp [go_sem])⟩
theorem frQ {W V w1 : World} {T : Nat → Prop} (hT : ∀ b, W.heap.size ≤ b → ¬ T b) (h : Tch T V w1) (e : V.heap = (W.alloc (.cells #[.int .i64 0, .bool false, .int .i64 0] 52)).heap) : w1.cell? ⟨W.heap.size, 0, none⟩ = some (.int .i64 0) ∧ w1.cell? ⟨W.heap.size, 1, none⟩ = some (.bool false) ∧ w1.cell? ⟨W.heap.size, 2, none⟩ = some (.int .i64 0) ∧ w1.frozen? ⟨W.heap.size, 0, none⟩ = false ∧ w1.frozen? ⟨W.heap.size, 1, none⟩ = false ∧ w1.frozen? ⟨W.heap.size, 2, none⟩ = false := by
  have q3 : w1.heap[W.heap.size]? = (W.alloc (.cells #[.int .i64 0, .bool false, .int .i64 0] 52)).heap[W.heap.size]? := by rw [← e]; exact h.heap _ (by rw [e]; simp only [World.size_alloc]; omega) (hT _ (by omega))
  exact ⟨(World.cell?_of_block (a := ⟨W.heap.size, 0, none⟩) q3).trans (by simp [go_sem]), (World.cell?_of_block (a := ⟨W.heap.size, 1, none⟩) q3).trans (by simp [go_sem]), (World.cell?_of_block (a := ⟨W.heap.size, 2, none⟩) q3).trans (by simp [go_sem]), (World.frozen?_of_block (a := ⟨W.heap.size, 0, none⟩) q3).trans (by simp [go_sem]), (World.frozen?_of_block (a := ⟨W.heap.size, 1, none⟩) q3).trans (by simp [go_sem]), (World.frozen?_of_block (a := ⟨W.heap.size, 2, none⟩) q3).trans (by simp [go_sem])⟩
theorem frA {W V w1 : World} {T : Nat → Prop} (hT : ∀ b, W.heap.size ≤ b → ¬ T b) (h : Tch T V w1) (e : V.heap = ((W.alloc (.cells #[.bool false, .int .i64 0, .int .i64 0, .bool false] 131)).alloc (.cells #[.int .i64 0, .bool false, .int .i64 0] 52)).heap) : w1.cell? ⟨W.heap.size, 0, none⟩ = some (.bool false) ∧ w1.cell? ⟨W.heap.size, 1, none⟩ = some (.int .i64 0) ∧ w1.cell? ⟨W.heap.size, 2, none⟩ = some (.int .i64 0) ∧ w1.cell? ⟨W.heap.size, 3, none⟩ = some (.bool false) ∧ w1.frozen? ⟨W.heap.size, 0, none⟩ = false ∧ w1.frozen? ⟨W.heap.size, 1, none⟩ = false ∧ w1.frozen? ⟨W.heap.size, 2, none⟩ = false ∧ w1.frozen? ⟨W.heap.size, 3, none⟩ = false ∧ w1.cell? ⟨W.heap.size + 1, 0, none⟩ = some (.int .i64 0) ∧ w1.cell? ⟨W.heap.size + 1, 1, none⟩ = some (.bool false) ∧ w1.cell? ⟨W.heap.size + 1, 2, none⟩ = some (.int .i64 0) ∧ w1.frozen? ⟨W.heap.size + 1, 0, none⟩ = false ∧ w1.frozen? ⟨W.heap.size + 1, 1, none⟩ = false ∧ w1.frozen? ⟨W.heap.size + 1, 2, none⟩ = false := by
  have q4 : w1.heap[W.heap.size]? = ((W.alloc (.cells #[.bool false, .int .i64 0, .int .i64 0, .bool false] 131)).alloc (.cells #[.int .i64 0, .bool false, .int .i64 0] 52)).heap[W.heap.size]? := by rw [← e]; exact h.heap _ (by rw [e]; simp only [World.size_alloc]; omega) (hT _ (by omega))
  have q3 : w1.heap[W.heap.size + 1]? = ((W.alloc (.cells #[.bool false, .int .i64 0, .int .i64 0, .bool false] 131)).alloc (.cells #[.int .i64 0, .bool false, .int .i64 0] 52)).heap[W.heap.size + 1]? := by rw [← e]; exact h.heap _ (by rw [e]; simp only [World.size_alloc]; omega) (hT _ (by omega))
  exact ⟨(World.cell?_of_block (a := ⟨W.heap.size, 0, none⟩) q4).trans (by simp [go_sem]), (World.cell?_of_block (a := ⟨W.heap.size, 1, none⟩) q4).trans (by simp [go_sem]), (World.cell?_of_block (a := ⟨W.heap.size, 2, none⟩) q4).trans (by simp [go_sem]), (World.cell?_of_block (a := ⟨W.heap.size, 3, none⟩) q4).trans (by simp [go_sem]), (World.frozen?_of_block (a := ⟨W.heap.size, 0, none⟩) q4).trans (by simp [go_sem]), (World.frozen?_of_block (a := ⟨W.heap.size, 1, none⟩) q4).trans (by simp [go_sem]), (World.frozen?_of_block (a := ⟨W.heap.size, 2, none⟩) q4).trans (by simp [go_sem]), (World.frozen?_of_block (a := ⟨W.heap.size, 3, none⟩) q4).trans (by simp [go_sem]), (World.cell?_of_block (a := ⟨W.heap.size + 1, 0, none⟩) q3).trans (by simp [go_sem]), (World.cell?_of_block (a := ⟨W.heap.size + 1, 1, none⟩) q3).trans (by simp [go_sem]), (World.cell?_of_block (a := ⟨W.heap.size + 1, 2, none⟩) q3).trans (by simp [go_sem]), (World.frozen?_of_block (a := ⟨W.heap.size + 1, 0, none⟩) q3).trans (by simp [go_sem]), (World.frozen?_of_block (a := ⟨W.heap.size + 1, 1, none⟩) q3).trans (by simp [go_sem]), (World.frozen?_of_block (a := ⟨W.heap.size + 1, 2, none⟩) q3).trans (by simp [go_sem])⟩
theorem frB {W V w1 : World} {T : Nat → Prop} (hT : ∀ b, W.heap.size ≤ b → ¬ T b) (h : Tch T V w1) (e : V.heap = ((W.alloc (.cells #[.int .i64 0, .bool false, .int .i64 0] 52)).alloc (.cells #[.bool false, .int .i64 0, .int .i64 0, .bool false] 131)).heap) : w1.cell? ⟨W.heap.size, 0, none⟩ = some (.int .i64 0) ∧ w1.cell? ⟨W.heap.size, 1, none⟩ = some (.bool false) ∧ w1.cell? ⟨W.heap.size, 2, none⟩ = some (.int .i64 0) ∧ w1.frozen? ⟨W.heap.size, 0, none⟩ = false ∧ w1.frozen? ⟨W.heap.size, 1, none⟩ = false ∧ w1.frozen? ⟨W.heap.size, 2, none⟩ = false ∧ w1.cell? ⟨W.heap.size + 1, 0, none⟩ = some (.bool false) ∧ w1.cell? ⟨W.heap.size + 1, 1, none⟩ = some (.int .i64 0) ∧ w1.cell? ⟨W.heap.size + 1, 2, none⟩ = some (.int .i64 0) ∧ w1.cell? ⟨W.heap.size + 1, 3, none⟩ = some (.bool false) ∧ w1.frozen? ⟨W.heap.size + 1, 0, none⟩ = false ∧ w1.frozen? ⟨W.heap.size + 1, 1, none⟩ = false ∧ w1.frozen? ⟨W.heap.size + 1, 2, none⟩ = false ∧ w1.frozen? ⟨W.heap.size + 1, 3, none⟩ = false := by
  have q3 : w1.heap[W.heap.size]? = ((W.alloc (.cells #[.int .i64 0, .bool false, .int .i64 0] 52)).alloc (.cells #[.bool false, .int .i64 0, .int .i64 0, .bool false] 131)).heap[W.heap.size]? := by rw [← e]; exact h.heap _ (by rw [e]; simp only [World.size_alloc]; omega) (hT _ (by omega))
  have q4 : w1.heap[W.heap.size + 1]? = ((W.alloc (.cells #[.int .i64 0, .bool false, .int .i64 0] 52)).alloc (.cells #[.bool false, .int .i64 0, .int .i64 0, .bool false] 131)).heap[W.heap.size + 1]? := by rw [← e]; exact h.heap _ (by rw [e]; simp only [World.size_alloc]; omega) (hT _ (by omega))
  exact ⟨(World.cell?_of_block (a := ⟨W.heap.size, 0, none⟩) q3).trans (by simp [go_sem]), (World.cell?_of_block (a := ⟨W.heap.size, 1, none⟩) q3).trans (by simp [go_sem]), (World.cell?_of_block (a := ⟨W.heap.size, 2, none⟩) q3).trans (by simp [go_sem]), (World.frozen?_of_block (a := ⟨W.heap.size, 0, none⟩) q3).trans (by simp [go_sem]), (World.frozen?_of_block (a := ⟨W.heap.size, 1, none⟩) q3).trans (by simp [go_sem]), (World.frozen?_of_block (a := ⟨W.heap.size, 2, none⟩) q3).trans (by simp [go_sem]), (World.cell?_of_block (a := ⟨W.heap.size + 1, 0, none⟩) q4).trans (by simp [go_sem]), (World.cell?_of_block (a := ⟨W.heap.size + 1, 1, none⟩) q4).trans (by simp [go_sem]), (World.cell?_of_block (a := ⟨W.heap.size + 1, 2, none⟩) q4).trans (by simp [go_sem]), (World.cell?_of_block (a := ⟨W.heap.size + 1, 3, none⟩) q4).trans (by simp [go_sem]), (World.frozen?_of_block (a := ⟨W.heap.size + 1, 0, none⟩) q4).trans (by simp [go_sem]), (World.frozen?_of_block (a := ⟨W.heap.size + 1, 1, none⟩) q4).trans (by simp [go_sem]), (World.frozen?_of_block (a := ⟨W.heap.size + 1, 2, none⟩) q4).trans (by simp [go_sem]), (World.frozen?_of_block (a := ⟨W.heap.size + 1, 3, none⟩) q4).trans (by simp [go_sem])⟩
theorem set4 {W : World} {b : Nat} {u0 u1 u2 u3 : Value} (v0 v1 v2 v3 : Value) (x0 : W.cell? ⟨b, 0, none⟩ = some u0) (x1 : W.cell? ⟨b, 1, none⟩ = some u1) (x2 : W.cell? ⟨b, 2, none⟩ = some u2) (x3 : W.cell? ⟨b, 3, none⟩ = some u3) :
    (((((W.setCell ⟨b, 0, none⟩ (v0)).setCell ⟨b, 1, none⟩ (v1)).setCell ⟨b, 2, none⟩ (v2)).setCell ⟨b, 3, none⟩ (v3)).cell? ⟨b, 0, none⟩ = some v0 ∧ ((((W.setCell ⟨b, 0, none⟩ (v0)).setCell ⟨b, 1, none⟩ (v1)).setCell ⟨b, 2, none⟩ (v2)).setCell ⟨b, 3, none⟩ (v3)).cell? ⟨b, 1, none⟩ = some v1 ∧ ((((W.setCell ⟨b, 0, none⟩ (v0)).setCell ⟨b, 1, none⟩ (v1)).setCell ⟨b, 2, none⟩ (v2)).setCell ⟨b, 3, none⟩ (v3)).cell? ⟨b, 2, none⟩ = some v2 ∧ ((((W.setCell ⟨b, 0, none⟩ (v0)).setCell ⟨b, 1, none⟩ (v1)).setCell ⟨b, 2, none⟩ (v2)).setCell ⟨b, 3, none⟩ (v3)).cell? ⟨b, 3, none⟩ = some v3) ∧ (∀ k, k ≠ b → ((((W.setCell ⟨b, 0, none⟩ (v0)).setCell ⟨b, 1, none⟩ (v1)).setCell ⟨b, 2, none⟩ (v2)).setCell ⟨b, 3, none⟩ (v3)).heap[k]? = W.heap[k]?) ∧ (∀ p, ((((W.setCell ⟨b, 0, none⟩ (v0)).setCell ⟨b, 1, none⟩ (v1)).setCell ⟨b, 2, none⟩ (v2)).setCell ⟨b, 3, none⟩ (v3)).frozen? ⟨b, p, none⟩ = W.frozen? ⟨b, p, none⟩) ∧ ((((W.setCell ⟨b, 0, none⟩ (v0)).setCell ⟨b, 1, none⟩ (v1)).setCell ⟨b, 2, none⟩ (v2)).setCell ⟨b, 3, none⟩ (v3)).heap.size = W.heap.size := by
  exact ⟨⟨(cell_ne (by decide)).trans ((cell_ne (by decide)).trans ((cell_ne (by decide)).trans (World.cell?_setCell_same' _ _ _ (by rw [x0]; rfl)))), (cell_ne (by decide)).trans ((cell_ne (by decide)).trans (World.cell?_setCell_same' _ _ _ (by rw [cell_ne (by decide), x1]; rfl))), (cell_ne (by decide)).trans (World.cell?_setCell_same' _ _ _ (by rw [cell_ne (by decide), cell_ne (by decide), x2]; rfl)), World.cell?_setCell_same' _ _ _ (by rw [cell_ne (by decide), cell_ne (by decide), cell_ne (by decide), x3]; rfl)⟩, fun k hk => ((heap_setCell_other _ _ _ _ hk).trans ((heap_setCell_other _ _ _ _ hk).trans ((heap_setCell_other _ _ _ _ hk).trans (heap_setCell_other _ _ _ _ hk)))), fun p => ((World.frozen?_setCell _ _ _ _).trans ((World.frozen?_setCell _ _ _ _).trans ((World.frozen?_setCell _ _ _ _).trans (World.frozen?_setCell _ _ _ _)))), by simp only [World.size_setCell]⟩
theorem set3 {W : World} {b : Nat} {u0 u1 u2 : Value} (v0 v1 v2 : Value) (x0 : W.cell? ⟨b, 0, none⟩ = some u0) (x1 : W.cell? ⟨b, 1, none⟩ = some u1) (x2 : W.cell? ⟨b, 2, none⟩ = some u2) :
    ((((W.setCell ⟨b, 0, none⟩ (v0)).setCell ⟨b, 1, none⟩ (v1)).setCell ⟨b, 2, none⟩ (v2)).cell? ⟨b, 0, none⟩ = some v0 ∧ (((W.setCell ⟨b, 0, none⟩ (v0)).setCell ⟨b, 1, none⟩ (v1)).setCell ⟨b, 2, none⟩ (v2)).cell? ⟨b, 1, none⟩ = some v1 ∧ (((W.setCell ⟨b, 0, none⟩ (v0)).setCell ⟨b, 1, none⟩ (v1)).setCell ⟨b, 2, none⟩ (v2)).cell? ⟨b, 2, none⟩ = some v2) ∧ (∀ k, k ≠ b → (((W.setCell ⟨b, 0, none⟩ (v0)).setCell ⟨b, 1, none⟩ (v1)).setCell ⟨b, 2, none⟩ (v2)).heap[k]? = W.heap[k]?) ∧ (∀ p, (((W.setCell ⟨b, 0, none⟩ (v0)).setCell ⟨b, 1, none⟩ (v1)).setCell ⟨b, 2, none⟩ (v2)).frozen? ⟨b, p, none⟩ = W.frozen? ⟨b, p, none⟩) ∧ (((W.setCell ⟨b, 0, none⟩ (v0)).setCell ⟨b, 1, none⟩ (v1)).setCell ⟨b, 2, none⟩ (v2)).heap.size = W.heap.size := by
  exact ⟨⟨(cell_ne (by decide)).trans ((cell_ne (by decide)).trans (World.cell?_setCell_same' _ _ _ (by rw [x0]; rfl))), (cell_ne (by decide)).trans (World.cell?_setCell_same' _ _ _ (by rw [cell_ne (by decide), x1]; rfl)), World.cell?_setCell_same' _ _ _ (by rw [cell_ne (by decide), cell_ne (by decide), x2]; rfl)⟩, fun k hk => ((heap_setCell_other _ _ _ _ hk).trans ((heap_setCell_other _ _ _ _ hk).trans (heap_setCell_other _ _ _ _ hk))), fun p => ((World.frozen?_setCell _ _ _ _).trans ((World.frozen?_setCell _ _ _ _).trans (World.frozen?_setCell _ _ _ _))), by simp only [World.size_setCell]⟩
theorem midA1 {wr w5 : World} {r rs : Nat} {A : Ab} {l0 l3 ay : Bool} {l1 l2 aa : Int} (hr : r < wr.heap.size) (hs : rs < wr.heap.size) (ho : RObj w5 r rs A) (ht : Tch (fun b => b = r ∨ b = rs) wr w5)  : Mid wr ((w5.alloc (.cells #[.bool l0, .int .i64 l1, .int .i64 l2, .bool l3] 131)).alloc (.cells #[.int .i64 aa, .bool ay, .int .i64 0] 52)) r rs A (w5.heap.size) (w5.heap.size + 1) l0 l1 l2 l3 aa ay := by
  have z := ht.size
  have hb : Below w5.heap.size w5 ((w5.alloc (.cells #[.bool l0, .int .i64 l1, .int .i64 l2, .bool l3] 131)).alloc (.cells #[.int .i64 aa, .bool ay, .int .i64 0] 52)) := ((Below.refl _ _).alloc (Nat.le_refl _) _).alloc (by rw [World.size_alloc]; omega) _
  refine ⟨ho.below hb, ht.trans (Tch.of hb), ?_, ?_, ?_, ?_, ?_, ?_, ?_, ?_, by omega, by omega⟩ <;> simp [go_sem]
theorem midA2 {wr w5 : World} {r rs : Nat} {A : Ab} {l0 l3 ay : Bool} {l1 l2 aa : Int} (hr : r < wr.heap.size) (hs : rs < wr.heap.size) (ho : RObj w5 r rs A) (ht : Tch (fun b => b = r ∨ b = rs) wr w5)  : Mid wr ((w5.alloc (.cells #[.int .i64 aa, .bool ay, .int .i64 0] 52)).alloc (.cells #[.bool l0, .int .i64 l1, .int .i64 l2, .bool l3] 131)) r rs A (w5.heap.size + 1) (w5.heap.size) l0 l1 l2 l3 aa ay := by
  have z := ht.size
  have hb : Below w5.heap.size w5 ((w5.alloc (.cells #[.int .i64 aa, .bool ay, .int .i64 0] 52)).alloc (.cells #[.bool l0, .int .i64 l1, .int .i64 l2, .bool l3] 131)) := ((Below.refl _ _).alloc (Nat.le_refl _) _).alloc (by rw [World.size_alloc]; omega) _
  refine ⟨ho.below hb, ht.trans (Tch.of hb), ?_, ?_, ?_, ?_, ?_, ?_, ?_, ?_, by omega, by omega⟩ <;> simp [go_sem]
theorem midB1 {wr w5 : World} {r rs : Nat} {A : Ab} {l0 l3 ay : Bool} {l1 l2 aa : Int} (hr : r < wr.heap.size) (hs : rs < wr.heap.size) (ho : RObj w5 r rs A) (ht : Tch (fun b => b = r ∨ b = rs) wr w5) (e0 : w5.cell? ⟨wr.heap.size, 0, none⟩ = some (.bool false)) (e1 : w5.cell? ⟨wr.heap.size, 1, none⟩ = some (.int .i64 0)) (e2 : w5.cell? ⟨wr.heap.size, 2, none⟩ = some (.int .i64 0)) (e3 : w5.cell? ⟨wr.heap.size, 3, none⟩ = some (.bool false)) : Mid wr (((((w5.setCell ⟨wr.heap.size, 0, none⟩ (.bool l0)).setCell ⟨wr.heap.size, 1, none⟩ (.int .i64 l1)).setCell ⟨wr.heap.size, 2, none⟩ (.int .i64 l2)).setCell ⟨wr.heap.size, 3, none⟩ (.bool l3)).alloc (.cells #[.int .i64 aa, .bool ay, .int .i64 0] 52)) r rs A (wr.heap.size) (w5.heap.size) l0 l1 l2 l3 aa ay := by
  have z := ht.size
  have lt := World.block_lt_of_cell? w5 _ e0
  have lt : wr.heap.size < w5.heap.size := lt
  obtain ⟨⟨q0, q1, q2, q3⟩, qh, qf, qs⟩ := set4 (.bool l0) (.int .i64 l1) (.int .i64 l2) (.bool l3) e0 e1 e2 e3
  have t1 : Tch (fun b => b = r ∨ b = rs) wr (((((w5.setCell ⟨wr.heap.size, 0, none⟩ (.bool l0)).setCell ⟨wr.heap.size, 1, none⟩ (.int .i64 l1)).setCell ⟨wr.heap.size, 2, none⟩ (.int .i64 l2)).setCell ⟨wr.heap.size, 3, none⟩ (.bool l3))) := (((ht.setN (Nat.le_refl _) _ _).setN (Nat.le_refl _) _ _).setN (Nat.le_refl _) _ _).setN (Nat.le_refl _) _ _
  obtain ⟨X, hX⟩ : ∃ X, X = ((((w5.setCell ⟨wr.heap.size, 0, none⟩ (.bool l0)).setCell ⟨wr.heap.size, 1, none⟩ (.int .i64 l1)).setCell ⟨wr.heap.size, 2, none⟩ (.int .i64 l2)).setCell ⟨wr.heap.size, 3, none⟩ (.bool l3)) := ⟨_, rfl⟩
  rw [← hX] at t1 q0 q1 q2 qh qf qs ⊢
  try rw [← hX] at q3
  clear hX
  have hb : Below X.heap.size X (X.alloc (.cells #[.int .i64 aa, .bool ay, .int .i64 0] 52)) := (Below.refl _ _).alloc (Nat.le_refl _) _
  have st : ∀ o, X.cell? ⟨wr.heap.size, o, none⟩ = (X.alloc (.cells #[.int .i64 aa, .bool ay, .int .i64 0] 52)).cell? ⟨wr.heap.size, o, none⟩ := fun o => (World.cell?_of_block (a := ⟨wr.heap.size, o, none⟩) (hb.block wr.heap.size (show wr.heap.size < X.heap.size by omega))).symm
  rw [st] at q0 q1 q2 q3
  refine ⟨(ho.stays (qh r (by omega)) (qh rs (by omega))).below hb, t1.trans (Tch.of hb), q0, q1, q2, q3, ?_, ?_, ?_, ?_, by omega, by omega⟩ <;> rw [← qs] <;> simp [go_sem]
theorem midC1 {wr w5 : World} {r rs : Nat} {A : Ab} {l0 l3 ay : Bool} {l1 l2 aa : Int} (hr : r < wr.heap.size) (hs : rs < wr.heap.size) (ho : RObj w5 r rs A) (ht : Tch (fun b => b = r ∨ b = rs) wr w5) (h0 : w5.cell? ⟨wr.heap.size, 0, none⟩ = some (.int .i64 0)) (h1 : w5.cell? ⟨wr.heap.size, 1, none⟩ = some (.bool false)) (h2 : w5.cell? ⟨wr.heap.size, 2, none⟩ = some (.int .i64 0)) (h5 : w5.frozen? ⟨wr.heap.size, 2, none⟩ = false) : Mid wr ((((w5.setCell ⟨wr.heap.size, 0, none⟩ (.int .i64 aa)).setCell ⟨wr.heap.size, 1, none⟩ (.bool ay)).setCell ⟨wr.heap.size, 2, none⟩ (.int .i64 0)).alloc (.cells #[.bool l0, .int .i64 l1, .int .i64 l2, .bool l3] 131)) r rs A (w5.heap.size) (wr.heap.size) l0 l1 l2 l3 aa ay := by
  have z := ht.size
  have lt := World.block_lt_of_cell? w5 _ h0
  have lt : wr.heap.size < w5.heap.size := lt
  obtain ⟨⟨q0, q1, q2⟩, qh, qf, qs⟩ := set3 (.int .i64 aa) (.bool ay) (.int .i64 0) h0 h1 h2
  have t1 : Tch (fun b => b = r ∨ b = rs) wr ((((w5.setCell ⟨wr.heap.size, 0, none⟩ (.int .i64 aa)).setCell ⟨wr.heap.size, 1, none⟩ (.bool ay)).setCell ⟨wr.heap.size, 2, none⟩ (.int .i64 0))) := ((ht.setN (Nat.le_refl _) _ _).setN (Nat.le_refl _) _ _).setN (Nat.le_refl _) _ _
  obtain ⟨X, hX⟩ : ∃ X, X = (((w5.setCell ⟨wr.heap.size, 0, none⟩ (.int .i64 aa)).setCell ⟨wr.heap.size, 1, none⟩ (.bool ay)).setCell ⟨wr.heap.size, 2, none⟩ (.int .i64 0)) := ⟨_, rfl⟩
  rw [← hX] at t1 q0 q1 q2 qh qf qs ⊢
  try rw [← hX] at q3
  clear hX
  have hb : Below X.heap.size X (X.alloc (.cells #[.bool l0, .int .i64 l1, .int .i64 l2, .bool l3] 131)) := (Below.refl _ _).alloc (Nat.le_refl _) _
  have st : ∀ o, X.cell? ⟨wr.heap.size, o, none⟩ = (X.alloc (.cells #[.bool l0, .int .i64 l1, .int .i64 l2, .bool l3] 131)).cell? ⟨wr.heap.size, o, none⟩ := fun o => (World.cell?_of_block (a := ⟨wr.heap.size, o, none⟩) (hb.block wr.heap.size (show wr.heap.size < X.heap.size by omega))).symm
  have sf : X.frozen? ⟨wr.heap.size, 2, none⟩ = (X.alloc (.cells #[.bool l0, .int .i64 l1, .int .i64 l2, .bool l3] 131)).frozen? ⟨wr.heap.size, 2, none⟩ := (World.frozen?_of_block (a := ⟨wr.heap.size, 2, none⟩) (hb.block wr.heap.size (show wr.heap.size < X.heap.size by omega))).symm
  rw [st] at q0 q1 q2
  have qz := (qf 2).trans h5
  rw [sf] at qz
  refine ⟨(ho.stays (qh r (by omega)) (qh rs (by omega))).below hb, t1.trans (Tch.of hb), ?_, ?_, ?_, ?_, q0, q1, q2, qz, by omega, by omega⟩ <;> rw [← qs] <;> simp [go_sem]
theorem midB2 {wr w5 : World} {r rs : Nat} {A : Ab} {l0 l3 ay : Bool} {l1 l2 aa : Int} (hr : r < wr.heap.size) (hs : rs < wr.heap.size) (ho : RObj w5 r rs A) (ht : Tch (fun b => b = r ∨ b = rs) wr w5) (e0 : w5.cell? ⟨wr.heap.size, 0, none⟩ = some (.bool false)) (e1 : w5.cell? ⟨wr.heap.size, 1, none⟩ = some (.int .i64 0)) (e2 : w5.cell? ⟨wr.heap.size, 2, none⟩ = some (.int .i64 0)) (e3 : w5.cell? ⟨wr.heap.size, 3, none⟩ = some (.bool false)) (h0 : w5.cell? ⟨wr.heap.size + 1, 0, none⟩ = some (.int .i64 0)) (h1 : w5.cell? ⟨wr.heap.size + 1, 1, none⟩ = some (.bool false)) (h2 : w5.cell? ⟨wr.heap.size + 1, 2, none⟩ = some (.int .i64 0)) (h5 : w5.frozen? ⟨wr.heap.size + 1, 2, none⟩ = false) : Mid wr (((((((w5.setCell ⟨wr.heap.size, 0, none⟩ (.bool l0)).setCell ⟨wr.heap.size, 1, none⟩ (.int .i64 l1)).setCell ⟨wr.heap.size, 2, none⟩ (.int .i64 l2)).setCell ⟨wr.heap.size, 3, none⟩ (.bool l3)).setCell ⟨wr.heap.size + 1, 0, none⟩ (.int .i64 aa)).setCell ⟨wr.heap.size + 1, 1, none⟩ (.bool ay)).setCell ⟨wr.heap.size + 1, 2, none⟩ (.int .i64 0)) r rs A (wr.heap.size) (wr.heap.size + 1) l0 l1 l2 l3 aa ay := by
  have z := ht.size
  obtain ⟨⟨q0, q1, q2, q3⟩, qh, qf, qs⟩ := set4 (.bool l0) (.int .i64 l1) (.int .i64 l2) (.bool l3) e0 e1 e2 e3
  have t1 : Tch (fun b => b = r ∨ b = rs) wr (((((w5.setCell ⟨wr.heap.size, 0, none⟩ (.bool l0)).setCell ⟨wr.heap.size, 1, none⟩ (.int .i64 l1)).setCell ⟨wr.heap.size, 2, none⟩ (.int .i64 l2)).setCell ⟨wr.heap.size, 3, none⟩ (.bool l3))) := (((ht.setN (by omega) _ _).setN (by omega) _ _).setN (by omega) _ _).setN (by omega) _ _
  obtain ⟨X, hX⟩ : ∃ X, X = ((((w5.setCell ⟨wr.heap.size, 0, none⟩ (.bool l0)).setCell ⟨wr.heap.size, 1, none⟩ (.int .i64 l1)).setCell ⟨wr.heap.size, 2, none⟩ (.int .i64 l2)).setCell ⟨wr.heap.size, 3, none⟩ (.bool l3)) := ⟨_, rfl⟩
  rw [← hX] at t1 q0 q1 q2 qh qf qs ⊢
  try rw [← hX] at q3
  clear hX
  have g0 := cell_stay h0 (qh (wr.heap.size + 1) (by omega))
  have g1 := cell_stay h1 (qh (wr.heap.size + 1) (by omega))
  have g2 := cell_stay h2 (qh (wr.heap.size + 1) (by omega))
  have g5 := fro_stay h5 (qh (wr.heap.size + 1) (by omega))
  obtain ⟨⟨p0, p1, p2⟩, ph, pf, ps⟩ := set3 (.int .i64 aa) (.bool ay) (.int .i64 0) g0 g1 g2
  have t2 : Tch (fun b => b = r ∨ b = rs) wr ((((X.setCell ⟨wr.heap.size + 1, 0, none⟩ (.int .i64 aa)).setCell ⟨wr.heap.size + 1, 1, none⟩ (.bool ay)).setCell ⟨wr.heap.size + 1, 2, none⟩ (.int .i64 0))) := ((t1.setN (by omega) _ _).setN (by omega) _ _).setN (by omega) _ _
  exact ⟨(ho.stays (qh r (by omega)) (qh rs (by omega))).stays (ph r (by omega)) (ph rs (by omega)), t2, cell_stay q0 (ph (wr.heap.size) (by omega)), cell_stay q1 (ph (wr.heap.size) (by omega)), cell_stay q2 (ph (wr.heap.size) (by omega)), cell_stay q3 (ph (wr.heap.size) (by omega)), p0, p1, p2, (pf 2).trans g5, by omega, by omega⟩
theorem midC2 {wr w5 : World} {r rs : Nat} {A : Ab} {l0 l3 ay : Bool} {l1 l2 aa : Int} (hr : r < wr.heap.size) (hs : rs < wr.heap.size) (ho : RObj w5 r rs A) (ht : Tch (fun b => b = r ∨ b = rs) wr w5) (e0 : w5.cell? ⟨wr.heap.size + 1, 0, none⟩ = some (.bool false)) (e1 : w5.cell? ⟨wr.heap.size + 1, 1, none⟩ = some (.int .i64 0)) (e2 : w5.cell? ⟨wr.heap.size + 1, 2, none⟩ = some (.int .i64 0)) (e3 : w5.cell? ⟨wr.heap.size + 1, 3, none⟩ = some (.bool false)) (h0 : w5.cell? ⟨wr.heap.size, 0, none⟩ = some (.int .i64 0)) (h1 : w5.cell? ⟨wr.heap.size, 1, none⟩ = some (.bool false)) (h2 : w5.cell? ⟨wr.heap.size, 2, none⟩ = some (.int .i64 0)) (h5 : w5.frozen? ⟨wr.heap.size, 2, none⟩ = false) : Mid wr (((((((w5.setCell ⟨wr.heap.size + 1, 0, none⟩ (.bool l0)).setCell ⟨wr.heap.size + 1, 1, none⟩ (.int .i64 l1)).setCell ⟨wr.heap.size + 1, 2, none⟩ (.int .i64 l2)).setCell ⟨wr.heap.size + 1, 3, none⟩ (.bool l3)).setCell ⟨wr.heap.size, 0, none⟩ (.int .i64 aa)).setCell ⟨wr.heap.size, 1, none⟩ (.bool ay)).setCell ⟨wr.heap.size, 2, none⟩ (.int .i64 0)) r rs A (wr.heap.size + 1) (wr.heap.size) l0 l1 l2 l3 aa ay := by
  have z := ht.size
  obtain ⟨⟨q0, q1, q2, q3⟩, qh, qf, qs⟩ := set4 (.bool l0) (.int .i64 l1) (.int .i64 l2) (.bool l3) e0 e1 e2 e3
  have t1 : Tch (fun b => b = r ∨ b = rs) wr (((((w5.setCell ⟨wr.heap.size + 1, 0, none⟩ (.bool l0)).setCell ⟨wr.heap.size + 1, 1, none⟩ (.int .i64 l1)).setCell ⟨wr.heap.size + 1, 2, none⟩ (.int .i64 l2)).setCell ⟨wr.heap.size + 1, 3, none⟩ (.bool l3))) := (((ht.setN (by omega) _ _).setN (by omega) _ _).setN (by omega) _ _).setN (by omega) _ _
  obtain ⟨X, hX⟩ : ∃ X, X = ((((w5.setCell ⟨wr.heap.size + 1, 0, none⟩ (.bool l0)).setCell ⟨wr.heap.size + 1, 1, none⟩ (.int .i64 l1)).setCell ⟨wr.heap.size + 1, 2, none⟩ (.int .i64 l2)).setCell ⟨wr.heap.size + 1, 3, none⟩ (.bool l3)) := ⟨_, rfl⟩
  rw [← hX] at t1 q0 q1 q2 qh qf qs ⊢
  try rw [← hX] at q3
  clear hX
  have g0 := cell_stay h0 (qh (wr.heap.size) (by omega))
  have g1 := cell_stay h1 (qh (wr.heap.size) (by omega))
  have g2 := cell_stay h2 (qh (wr.heap.size) (by omega))
  have g5 := fro_stay h5 (qh (wr.heap.size) (by omega))
  obtain ⟨⟨p0, p1, p2⟩, ph, pf, ps⟩ := set3 (.int .i64 aa) (.bool ay) (.int .i64 0) g0 g1 g2
  have t2 : Tch (fun b => b = r ∨ b = rs) wr ((((X.setCell ⟨wr.heap.size, 0, none⟩ (.int .i64 aa)).setCell ⟨wr.heap.size, 1, none⟩ (.bool ay)).setCell ⟨wr.heap.size, 2, none⟩ (.int .i64 0))) := ((t1.setN (by omega) _ _).setN (by omega) _ _).setN (by omega) _ _
  exact ⟨(ho.stays (qh r (by omega)) (qh rs (by omega))).stays (ph r (by omega)) (ph rs (by omega)), t2, cell_stay q0 (ph (wr.heap.size + 1) (by omega)), cell_stay q1 (ph (wr.heap.size + 1) (by omega)), cell_stay q2 (ph (wr.heap.size + 1) (by omega)), cell_stay q3 (ph (wr.heap.size + 1) (by omega)), p0, p1, p2, (pf 2).trans g5, by omega, by omega⟩
/-- a box beside it is written -/
theorem RW.aside {w0 W : World} {tag : Nat → Nat} {r rs lb ob n : Nat} {dv : Nat → Value} {A : Ab} {ws : List WS} (h : RW w0 W tag r rs lb ob n dv A ws) {z : Nat} (h0 : w0.heap.size ≤ z) (h1 : r ≠ z) (h2 : rs ≠ z) (h3 : lb ≠ z) (h4 : ob ≠ z) (h5 : ∀ j, j < n → (dv j).ownBlock ≠ some z) (o : Nat) (u : Value) : RW w0 (W.setCell ⟨z, o, none⟩ u) tag r rs lb ob n dv A ws :=
  ⟨below_set h0 h.below _ _, h.lo, h.ro.stays (heap_setCell_other _ _ _ _ h1) (heap_setCell_other _ _ _ _ h2), h.tr, h.ts, h.tl, h.to_, own_stays h.lk (fun b e => heap_setCell_other _ _ _ _ (by obtain rfl : lb = b := Option.some.inj e; exact h3)), own_stays h.out (fun b e => heap_setCell_other _ _ _ _ (by obtain rfl : ob = b := Option.some.inj e; exact h4)), fun i hi => own_stays (h.D i hi) (fun b e => heap_setCell_other _ _ _ _ (fun q => h5 i hi (by rw [show z = b from (show b = z from q).symm]; exact e))), h.Dt⟩
theorem set_twice {ws : List WS} {i : Nat} (hi : i < ws.length) {d : List (Int × Bool × Int)} {s : Sn} {a : Int × Bool × Int} : (ws.set i ⟨d, s⟩).set i ⟨(wsAt (ws.set i ⟨d, s⟩) i).did ++ [a], (wsAt (ws.set i ⟨d, s⟩) i).s⟩ = ws.set i ⟨d ++ [a], s⟩ := by
  rw [wsAt_set hi, if_pos rfl, List.set_set]
theorem AppOk.made2 {w0 V1 WA wn : World} {dl g2 c2 H : Nat} {dvi : Value} {did : List (Int × Bool × Int)} {a : Int × Bool × Int} {cs : Array Value} (hd : ∀ b, dvi.ownBlock = some b → b < V1.heap.size) (own : wn.ownsRow w0.heap.size 52 3 (.slice (some ⟨g2, 0, none⟩) (dl + 1) c2) (dl + 1) (flatA did ++ ansV a)) (hg : WA.grownBy wn dvi.ownBlock) (hA : WA.heap = (V1.alloc (.cells cs 52)).heap) (hA1 : WA.os = V1.os ∧ WA.tape = V1.tape ∧ WA.output = V1.output) (hat : dvi.ownBlock = some g2 ∨ g2 = H) (hH : H = WA.heap.size) :
    AppOk w0 V1 V1 0 dvi dl did a g2 c2 wn := by
  have zA : WA.heap.size = V1.heap.size + 1 := by rw [hA]; exact World.size_alloc _ _
  have hs := hg.size
  refine ⟨own, by omega, ⟨hg.os.trans hA1.1, hg.tape.trans hA1.2.1, hg.output.trans hA1.2.2⟩, fun b hb hn => ?_, hat.imp id (fun q => by omega)⟩
  refine (hg.block b (by omega) (fun q => hn q.symm)).trans ?_
  rw [hA]; exact al_blk V1 _ hb
theorem RW.took {w0 W wn : World} {tag : Nat → Nat} {r rs lb ob n : Nat} {dv : Nat → Value} {A : Ab} {ws : List WS} (h : RW w0 W tag r rs lb ob n dv A ws) {i dl g2 c2 : Nat} (hi : i < n) (hn : ws.length = n) {a : Int × Bool × Int} (hdl : dl = (wsAt ws i).did.length) (hA : AppOk w0 W W 0 (dv i) dl (wsAt ws i).did a g2 c2 wn) :
    RW w0 (wn.setCell ⟨ob, i, none⟩ (.slice (some ⟨g2, 0, none⟩) (dl + 1) c2)) (tg tag W.heap.size (4 + i)) r rs lb ob n (upd dv i (.slice (some ⟨g2, 0, none⟩) (dl + 1) c2)) A (ws.set i ⟨(wsAt ws i).did ++ [a], (wsAt ws i).s⟩) := by
  have lo := (h.out.lt ob rfl).2
  have od : (dv i).ownBlock ≠ some ob := fun e => by have q := h.Dt i hi ob e; rw [h.to_] at q; omega
  have oo := hA.blk ob lo od
  have g2o : g2 ≠ ob := fun e => by
    rcases hA.at_ with q | q
    · exact od (e ▸ q)
    · omega
  have t0 : Tch (fun b => b = ob ∨ (dv i).ownBlock = some b) W wn := ⟨hA.os.1, hA.os.2.1, hA.os.2.2, hA.size, fun b hb hne => hA.blk b hb (fun e => hne (.inr e))⟩
  refine h.did hi hn a _ (t0.set (.inl rfl) _ _) ?_ ?_ (fun b e => ?_)
  · exact ((own_stays h.out (fun b e => by obtain rfl : ob = b := Option.some.inj e; exact oo)).stored i _).1
  · have q := hA.own
    rw [hdl] at q
    rw [hdl]
    exact own_stays q (fun b e => heap_setCell_other _ _ _ _ (by obtain rfl : g2 = b := Option.some.inj e; exact g2o))
  · obtain rfl : g2 = b := Option.some.inj e
    exact hA.at_
theorem c_st {w : World} {b p b2 : Nat} {v : Value} (h : w.cell? ⟨b, p, none⟩ = some v) (hn : b ≠ b2) (o : Nat) (u : Value) : (w.setCell ⟨b2, o, none⟩ u).cell? ⟨b, p, none⟩ = some v := cell_stay h (heap_setCell_other _ _ _ _ hn)
theorem tch_cell3 {T : Nat → Prop} {V w1 : World} {b o : Nat} {v : Value} (h : Tch T V w1) (hn : ¬ T b) (hv : V.cell? ⟨b, o, none⟩ = some v) : w1.cell? ⟨b, o, none⟩ = some v := cell_stay hv (h.heap b (World.block_lt_of_cell? V _ hv) hn)
theorem pk_two2 {n : Nat} (h : 0 < n) (h64 : (n : Int) ≤ 4503599627370496) (p : Int) : (0 ≤ p.tmod (n : Int) ∧ p.tmod (n : Int) = ((pk n p : Nat) : Int)) ∨ (p.tmod (n : Int) < 0 ∧ p.tmod (n : Int) + (n : Int) = ((pk n p : Nat) : Int) ∧ wrap64 (p.tmod (n : Int) + (n : Int)) = ((pk n p : Nat) : Int)) := by
  have e := pk_tmod h p
  have h1 := Int.emod_nonneg p (show (n : Int) ≠ 0 by omega)
  have h3 := Int.emod_lt_of_pos p (show (0 : Int) < (n : Int) by omega)
  have e2 := Int.tmod_eq_emod (a := p) (b := (n : Int))
  have e4 : (((n : Int).natAbs : Nat) : Int) = (n : Int) := by simp
  have e5 : ((pk n p : Nat) : Int) = p % (n : Int) := by unfold pk; rw [Int.toNat_of_nonneg h1]
  have e6 := wrap_tm h h64 (p := p)
  split at e2
  · have e0 : (((0 : Nat)) : Int) = 0 := rfl
    rw [e0] at e2
    exact .inl ⟨by omega, by omega⟩
  · rw [e4] at e2
    by_cases hz : 0 ≤ p.tmod (n : Int)
    · omega
    · exact .inr ⟨by omega, by omega, by rw [e6]; omega⟩
/-- what the document's Walk answers: Same reads it -/
structure ROut (w : World) (B : Nat) (ob n : Nat) (dv : Nat → Value) (did : Nat → List (Int × Bool × Int)) : Prop where
  out : w.ownsRow B 77 1 (.slice (some ⟨ob, 0, none⟩) n n) n ((List.range n).map dv)
  D : ∀ i, i < n → w.ownsRow B 52 3 (dv i) (did i).length (flatA (did i))
def RWalkPost (A : Ab) (n : Nat) (ws : List WS) (w : World) (e : Ending) (w' : World) : Prop := ∃ ob dv, e = .returned (.tuple #[.slice (some ⟨ob, 0, none⟩) n n, endV A, .int .i64 0]) ∧ ROut w' w.heap.size ob n dv (fun i => (wsAt ws i).did) ∧ Below w.heap.size w w'
set_option maxRecDepth 100000 in
set_option maxHeartbeats 4000000 in
theorem RWalk_ok (mark gate tick : Int) (ab ao oc pc : Nat) (pp : Option Addr) (ops : Ops) (ps : List Int) (rp : Nat → Option Addr) (rc rb ro : Nat → Nat) (w : World) (hO : OpsIn w ab ao ops rp rc rb ro) (hP : PicksIn w pp ps) (h1 : 1 ≤ ops.length) (h2 : ops.length ≤ 64) (hg : 1 ≤ gate) (ht : 0 ≤ tick) (ht2 : tick ≤ 9223372036854775807) :
    Calls Try.prog 23 #[.agg #[.int .i64 mark, .int .i64 gate, .int .i64 tick], .slice (some ⟨ab, ao, none⟩) ops.length oc, .slice pp ps.length pc] w (RWalkPost (walkA (ab0 ops.length mark gate tick) ops ps ps.length).1 ops.length (walkA (ab0 ops.length mark gate tick) ops ps ps.length).2 w) := by
  have H1 := hide h1
  have H2 := hide h2
  have HG := hide hg
  have HT := hide ht
  have HT2 := hide ht2
  have C11 := hide (fun W => RNew_ok mark gate tick ops.length W h1 h2 hg ht)
  obtain ⟨n, hn⟩ : ∃ n, n = ops.length := ⟨_, rfl⟩
  have HN := hide hn
  rw [← hn] at C11 ⊢
  have HO0 := hide hO
  have HP0 := hide hP
  clear hO hP h1 h2 hg ht ht2 hn
  obtain ⟨i131, hi131, hz131, hs131, hb131⟩ := info_parts info131
  obtain ⟨i77, hi77, hz77, hs77, hb77⟩ := info_parts info77
  obtain ⟨i52, hi52, hz52, hs52, hb52⟩ := info_parts info52
  go_enter Try.func23, Try.ntmps23
  go_wp2_with fail
  obtain ⟨w00, hw⟩ : ∃ w00, w00 = (w.alloc (.cells #[.int .i64 mark, .int .i64 gate, .int .i64 tick] 23)).alloc (.cells #[.int .i64 0, .int .i64 0, .int .i64 0, .int .i64 0, .bool false, .int .i64 0, .bool false, .int .i64 0] 63) := ⟨_, rfl⟩
  rw [← hw]
  have hb0 : Below w.heap.size w w00 := by rw [hw]; (focus repeat' (first | (with_reducible exact Below.refl _ _) | (with_reducible assumption) | (with_reducible refine Below.alloc ?_ ?_ _) | (with_reducible refine Below.drew ?_) | (with_reducible refine bdrewN ?_ _) | (first | (with_reducible exact Nat.le_refl _) | (with_reducible assumption) | omega | (simp; omega) | (simp; done))))
  have HO := hide (HO0.out.below hb0)
  have HP := hide (HP0.out.below hb0)
  have HB0 := hide hb0
  have h80 : Has8 w00 (w.heap.size + 1) := by
    rw [hw]
    have q := fr8_made (w.alloc (.cells #[.int .i64 mark, .int .i64 gate, .int .i64 tick] 23))
    rw [World.size_alloc] at q
    exact q
  have HH8 := hide h80
  clear hw hb0 h80
  refine (C11.out w00).mono ?_
  rintro e w1 ⟨r, rs, rfl, hr, lr, ls, hb⟩
  obtain ⟨w2, hrun, hown, hgr⟩ := run_make_full (P := Try.prog) w1 w1.heap.size 70 77 i77 _ 1 Try.underlying70 hi77 hz77 hs77 .i64 .i64 n (by rw [hb77]; have := H2.out; have := HN.out; omega) (by have := H2.out; have := HN.out; unfold maxLen; omega) (Nat.le_refl _)
  have hrun1 : Sem.run Try.prog (Instr.makeSlice 70 (Value.int .i64 (n : Int)) (Value.int .i64 (n : Int))) w1 = .ok (.slice (some ⟨w1.heap.size, 0, none⟩) n n) w2 := hrun
  obtain ⟨w3, hrun, hown2, hgr2⟩ := run_make_full (P := Try.prog) w2 w2.heap.size 129 131 i131 _ 4 Try.underlying129 hi131 hz131 hs131 .i64 .i64 n (by rw [hb131]; have := H2.out; have := HN.out; omega) (by have := H2.out; have := HN.out; unfold maxLen; omega) (Nat.le_refl _)
  have hrun2 : Sem.run Try.prog (Instr.makeSlice 129 (Value.int .i64 (n : Int)) (Value.int .i64 (n : Int))) w2 = .ok (.slice (some ⟨w2.heap.size, 0, none⟩) n n) w3 := hrun
  have R0 := hide (RW.first hb hr lr ls hown hgr hown2 hgr2)
  clear hr lr ls hb hown hgr hown2 hgr2 hrun C11
  obtain ⟨m, hm⟩ : ∃ m, m = ps.length := ⟨_, rfl⟩
  have HM := hide hm
  rw [← hm]
  have hm9 := hide (show (m : Int) ≤ 4503599627370496 by have := HP.out.ml; omega)
  clear hm
  go_wp2_with fail
  obtain ⟨ob, hob⟩ : ∃ ob, ob = w1.heap.size := ⟨_, rfl⟩
  obtain ⟨lb, hlb⟩ : ∃ lb, lb = w2.heap.size := ⟨_, rfl⟩
  rw [← hob, ← hlb] at R0 ⊢
  clear hob hlb hrun1 hrun2
  go_loopw [13] (fun v13 wr => ∃ (k : Nat) (tag : Nat → Nat) (dv : Nat → Value), k ≤ m ∧ v13 = .int .i64 (k : Int) ∧ RW w00 wr tag r rs lb ob n dv (walkA (ab0 n mark gate tick) ops ps k).1 (walkA (ab0 n mark gate tick) ops ps k).2) (fun v13 _ => m - (intOf v13).toNat)
  case atStart =>
    obtain ⟨tag, q⟩ := R0.out
    exact ⟨0, tag, _, Nat.zero_le _, rfl, by rw [HN.out] at q ⊢; exact q⟩
  case round =>
    obtain ⟨k, tag, dv, hk, rfl, hor⟩ := hrel
    have hk0 : (0 : Int) ≤ (k : Int) := by omega
    have hk9 : (k : Int) ≤ 4503599627370496 := by have := hm9.out; omega
    by_cases hlt : k < m
    · have hl2 : (k : Int) < (m : Int) := by omega
      obtain ⟨qb, qo, rfl, hq0⟩ := (HP.out.below hor.below).at_ k (by have := HM.out; omega)
      obtain ⟨p, hp⟩ : ∃ p, p = ps.getD k 0 := ⟨_, rfl⟩
      rw [← hp] at hq0
      have np : 0 < n := by have := H1.out; have := HN.out; omega
      have n64 : (n : Int) ≤ 64 := by have := H2.out; have := HN.out; omega
      obtain ⟨i, hi⟩ : ∃ i, i = pk n p := ⟨_, rfl⟩
      have il : i < n := by rw [hi]; exact pk_lt np p
      have PT := hide (pk_two2 np (by omega) p)
      rw [← hi] at PT
      have il2 : (i : Int) < (n : Int) := by omega
      have il0 : (0 : Int) ≤ (i : Int) := by omega
      obtain ⟨st, hst⟩ : ∃ st, st = walkA (ab0 n mark gate tick) ops ps k := ⟨_, rfl⟩
      rw [← hst] at hor
      have HR := hide hor
      have WK := hide (show WOk ops st (k : Int) by rw [hst, HN.out]; exact walkA_ok mark gate tick (k : Int) (by omega) ops ps H1.out HG.out HT.out HT2.out k (Int.le_refl _))
      have IL := hide il
      have IP := hide (show i = pk ops.length p by rw [hi, HN.out])
      have NXT := hide (show walkA (ab0 n mark gate tick) ops ps (k + 1) = pickA ops st (k : Int) p by rw [hst, hp]; rfl)
      have OPW := HO.out.below hor.below
      have f2 : wr.cell? ⟨ob, i, none⟩ = some (dv i) := by rw [hor.out.cellAt i (by omega), List.getElem?_map, List.getElem?_range il]; rfl
      have f3 := OPW.row i (by rw [← HN.out]; exact il)
      obtain ⟨dp, dc, hdv⟩ := own_any (hor.D i il)
      rw [hdv] at f2
      obtain ⟨dl, hdl⟩ : ∃ dl, dl = (wsAt st.2 i).did.length := ⟨_, rfl⟩
      obtain ⟨ol, hol⟩ : ∃ ol, ol = (ops.getD i []).length := ⟨_, rfl⟩
      obtain ⟨rpi, hrp⟩ : ∃ rpi, rpi = rp i := ⟨_, rfl⟩
      obtain ⟨rci, hrc⟩ : ∃ rci, rci = rc i := ⟨_, rfl⟩
      rw [← hdl] at f2 hdv
      rw [← hol, ← hrp, ← hrc] at f3
      have HDV := hide (And.intro hdv (And.intro hdl (And.intro hol hrp)))
      clear hor hp hi hst hdv hdl hol hrp hrc OPW il np
      by_cases hde : dl = ol
      · have d1 : decide ((dl : Int) = (ol : Int)) = true := decide_eq_true (by omega)
        have d3 : ((dl : Int) == (ol : Int)) = true := by rw [beq_iff_eq]; omega
        rcases PT.out with ⟨z1, z2⟩ | ⟨z1, z2, z3⟩
        · have d7 : decide ((i : Int) < 0) = false := decide_eq_false (by omega)
          have d8 : ¬ (i : Int) < 0 := by omega
          clear z1
          subst hde
          go_wp2_with fail
          go_quiet (fail)
          go_wp2_with fail
          go_roundw
          case rel =>
            refine ⟨k + 1, tag, dv, by omega, by go_num, ?_⟩
            rw [NXT.out, pickA_skip (i := i) IP.out (by rw [← HDV.out.2.1]; exact HDV.out.2.2.1)]
            exact HR.out.later (bdrewN (Below.refl _ _) _)
          case measure => (first | (simp [intOf]; done) | (simp [intOf]; omega))
        · subst hde
          go_wp2_with fail
          go_quiet (fail)
          go_wp2_with fail
          go_roundw
          case rel =>
            refine ⟨k + 1, tag, dv, by omega, by go_num, ?_⟩
            rw [NXT.out, pickA_skip (i := i) IP.out (by rw [← HDV.out.2.1]; exact HDV.out.2.2.1)]
            exact HR.out.later (bdrewN (Below.refl _ _) _)
          case measure => (first | (simp [intOf]; done) | (simp [intOf]; omega))
      · have hd1 : decide ((dl : Int) = (ol : Int)) = false := by rw [decide_eq_false_iff_not]; omega
        have hd2 : ((dl : Int) == (ol : Int)) = false := by rw [beq_eq_false_iff_ne]; omega
        have hd3 : decide (dl = ol) = false := by rw [decide_eq_false_iff_not]; exact hde
        have hd4 : (dl == ol) = false := by rw [beq_eq_false_iff_ne]; exact hde
        have hlt2 : dl < ol := by
          have q := WK.out.le i (by rw [← HN.out]; exact IL.out)
          rw [← HDV.out.2.1, ← HDV.out.2.2.1] at q; omega
        obtain ⟨kx, hkx⟩ : ∃ kx, kx = opAt ops i dl := ⟨_, rfl⟩
        have OPW := HO.out.below HR.out.below
        have oc1 := OPW.k i dl (by rw [← HN.out]; exact IL.out) (by rw [← HDV.out.2.2.1]; exact hlt2)
        have oc2 := OPW.x i dl (by rw [← HN.out]; exact IL.out) (by rw [← HDV.out.2.2.1]; exact hlt2)
        rw [← hkx] at oc1 oc2
        have HKX := hide hkx
        have CS := hide (fun V (hV : Below wr.heap.size wr V) => rstep_c r rs i ops.length st.1 kx.1 kx.2 (k : Int) (wsAt st.2 i).s V (HR.out.ro.below hV) WK.out.a (by omega) (by rw [← HN.out]; exact IL.out) (by rw [HKX.out, HDV.out.2.1]; exact WK.out.sn i (by rw [← HN.out]; exact IL.out)))
        have ra := OPW.adr i (by rw [← HN.out]; exact IL.out) (by rw [← HDV.out.2.2.1]; omega)
        rw [← HDV.out.2.2.2] at ra
        subst ra
        have lk : ∀ p, p < 4 → wr.cell? ⟨lb, i * 4 + p, none⟩ = (sn4 (wsAt st.2 i).s)[p]? := fun p hp => by
          rw [HR.out.lk.cellAt (i * 4 + p) (by omega), looksL_at n st.2 i p IL.out hp]
        have k0 : wr.cell? ⟨lb, i * 4, none⟩ = some (.bool (snL (wsAt st.2 i).s)) := lk 0 (by omega)
        have k1 : wr.cell? ⟨lb, i * 4 + 1, none⟩ = some (.int .i64 (snX (wsAt st.2 i).s)) := lk 1 (by omega)
        have k2 : wr.cell? ⟨lb, i * 4 + 2, none⟩ = some (.int .i64 (snW (wsAt st.2 i).s)) := lk 2 (by omega)
        have k3 : wr.cell? ⟨lb, i * 4 + 3, none⟩ = some (.bool (snA (wsAt st.2 i).s)) := lk 3 (by omega)
        clear hkx OPW lk
        obtain ⟨dd, hdd⟩ : ∃ dd, dd = doneA st.1 (i : Int) kx.1 kx.2 (wsAt st.2 i).s := ⟨_, rfl⟩
        obtain ⟨s9, hs9⟩ : ∃ s9, s9 = cond dd .no (nowA st.1 kx.1) := ⟨_, rfl⟩
        obtain ⟨aa, haa⟩ : ∃ aa, aa = cond dd (doA st.1 (i : Int) kx.1 kx.2).1 0 := ⟨_, rfl⟩
        obtain ⟨ay, hay⟩ : ∃ ay, ay = cond dd (doA st.1 (i : Int) kx.1 kx.2).2 false := ⟨_, rfl⟩
        obtain ⟨A9, hA9⟩ : ∃ A9, A9 = cond dd (doS st.1 (i : Int) kx.1 kx.2) st.1 := ⟨_, rfl⟩
        obtain ⟨p0, hp0⟩ : ∃ p0, p0 = snL (wsAt st.2 i).s := ⟨_, rfl⟩
        obtain ⟨p1, hp1⟩ : ∃ p1, p1 = snX (wsAt st.2 i).s := ⟨_, rfl⟩
        obtain ⟨p2, hp2⟩ : ∃ p2, p2 = snW (wsAt st.2 i).s := ⟨_, rfl⟩
        obtain ⟨p3, hp3⟩ : ∃ p3, p3 = snA (wsAt st.2 i).s := ⟨_, rfl⟩
        obtain ⟨l0, hl0⟩ : ∃ l0, l0 = snL s9 := ⟨_, rfl⟩
        obtain ⟨l1, hl1⟩ : ∃ l1, l1 = snX s9 := ⟨_, rfl⟩
        obtain ⟨l2, hl22⟩ : ∃ l2, l2 = snW s9 := ⟨_, rfl⟩
        obtain ⟨l3, hl3⟩ : ∃ l3, l3 = snA s9 := ⟨_, rfl⟩
        rw [← hp0] at k0
        rw [← hp1] at k1
        rw [← hp2] at k2
        rw [← hp3] at k3
        have C45 := hide (show ∀ V, Below wr.heap.size wr V → Calls Try.prog 45 #[.pointer (some ⟨r, 0, none⟩), .int .i64 (i : Int), .agg #[.int .i64 kx.1, .int .i64 kx.2], .agg #[.bool p0, .int .i64 p1, .int .i64 p2, .bool p3]] V fun e w5 => e = .returned (.tuple #[.agg #[.bool l0, .int .i64 l1, .int .i64 l2, .bool l3], .agg #[.int .i64 aa, .bool ay, .int .i64 0], .bool dd]) ∧ RObj w5 r rs A9 ∧ Tch (fun b => b = r ∨ b = rs) wr w5 ∧ Tch (fun b => b = r ∨ b = rs) V w5 from fun V hV => by
          have q := CS.out V hV
          unfold RStepPost at q
          rw [← hdd, ← hs9, ← haa, ← hay, ← hA9] at q
          rw [hp0, hp1, hp2, hp3, hl0, hl1, hl22, hl3]
          exact q.mono fun e w5 z => ⟨z.1, z.2.1, (Tch.of hV).trans z.2.2, z.2.2⟩)
        have HNT := hide (show ∀ b, tag b ≠ 1 → ¬ (b = r ∨ b = rs) from fun b h1 h2 => by rcases h2 with rfl | rfl; exact h1 HR.out.tr; exact h1 HR.out.ts)
        have HNL := hide (show ∀ b, wr.heap.size ≤ b → ¬ (b = r ∨ b = rs) from fun b h1 h2 => by have q1 := HR.out.ro.lt.1; have q2 := HR.out.ro.lt.2; omega)
        have HRB := hide (show rb i < w00.heap.size from World.block_lt_of_cell? w00 _ (HO.out.k i dl (by rw [← HN.out]; exact IL.out) (by rw [← HDV.out.2.2.1]; exact hlt2)))
        have HAB := hide (show ab < w00.heap.size from World.block_lt_of_cell? w00 _ (HO.out.row i (by rw [← HN.out]; exact IL.out)))
        have HNM := hide (And.intro hdd (And.intro hs9 (And.intro haa (And.intro hay hA9))))
        have HLN := hide (And.intro hl0 (And.intro hl1 (And.intro hl22 hl3)))
        clear hdd hs9 haa hay hA9 hp0 hp1 hp2 hp3 hl0 hl1 hl22 hl3 CS
        go_upto_region 10 with fail
        go_cut [49] from 48 to 48 (fun v49 wx => v49 = .bool (decide (p.tmod (n : Int) < 0)) ∧ wx = wr)
        case first =>
          go_wp2_with fail
          go_meet
          exact ⟨rfl, rfl⟩
        case rest =>
        obtain ⟨hq49, hwc⟩ := hcut
        subst wc
        obtain ⟨q49, hq, hq2⟩ : ∃ q49, u49 = q49 ∧ q49 = .bool (decide (p.tmod (n : Int) < 0)) := ⟨_, rfl, hq49⟩
        clear hq49
        subst hq
        have HQ2 := hide hq2
        clear hq2
        go_wp2_with fail
        go_cut [14] from 48 to 53 (fun v14 wx => v14 = .int .i64 (i : Int) ∧ wx = wr)
        case first =>
          have hq2 := HQ2.out
          subst hq2
          rcases PT.out with ⟨z1, z2⟩ | ⟨z1, z2, z3⟩
          · have d7 : decide (p.tmod (n : Int) < 0) = false := decide_eq_false (by omega)
            have d8 : ¬ p.tmod (n : Int) < 0 := by omega
            have Z2 := hide z2
            clear z1 z2
            go_wp2_with fail
            go_meet
            exact ⟨by rw [Z2.out], rfl⟩
          · go_wp2_with fail
            go_meet
            exact ⟨rfl, rfl⟩
        case rest =>
          obtain ⟨hv14, hwc⟩ := hcut
          subst hv14
          subst wc
          go_wp2_with fail
          go_quiet (fail)
          go_upto_region 13 with fail
          go_cut [15, 16, 17] from 35 to 103 (fun v15 v16 v17 wx => ∃ tb zb, v15 = .pointer (some ⟨tb, 0, none⟩) ∧ v16 = .pointer (some ⟨zb, 0, none⟩) ∧ v17 = .bool dd ∧ Mid wr wx r rs A9 tb zb l0 l1 l2 l3 aa ay)
          case first =>
            have NTab : ¬ (ab = r ∨ ab = rs) := HNT.out ab (by rw [HR.out.lo _ HAB.out]; decide)
            have NTob : ¬ (ob = r ∨ ob = rs) := HNT.out ob (by rw [HR.out.to_]; decide)
            have NTrb : ¬ (rb i = r ∨ rb i = rs) := HNT.out (rb i) (by rw [HR.out.lo _ HRB.out]; decide)
            have NTlb : ¬ (lb = r ∨ lb = rs) := HNT.out lb (by rw [HR.out.tl]; decide)
            have lab := World.block_lt_of_cell? wr _ f3
            have lob := World.block_lt_of_cell? wr _ f2
            have lrb := World.block_lt_of_cell? wr _ oc1
            have llb := World.block_lt_of_cell? wr _ k0
            have lob : ob < wr.heap.size := lob
            have lab : ab < wr.heap.size := lab
            have lrb : rb i < wr.heap.size := lrb
            have llb : lb < wr.heap.size := llb
            go_region_held3 (fun w' => w'.cell? ⟨ab, ao + i, none⟩ = some (.slice (some ⟨rb i, ro i, none⟩) ol rci) ∧ w'.cell? ⟨ob, i, none⟩ = some (.slice dp dl dc) ∧ w'.cell? ⟨rb i, ro i + dl * 2, none⟩ = some (.int .i64 kx.1) ∧ w'.cell? ⟨rb i, ro i + dl * 2 + 1, none⟩ = some (.int .i64 kx.2) ∧ w'.cell? ⟨lb, i * 4, none⟩ = some (.bool p0) ∧ w'.cell? ⟨lb, i * 4 + 1, none⟩ = some (.int .i64 p1) ∧ w'.cell? ⟨lb, i * 4 + 2, none⟩ = some (.int .i64 p2) ∧ w'.cell? ⟨lb, i * 4 + 3, none⟩ = some (.bool p3))
              (((try go_split_ands); refine ⟨?_, ?_, ?_, ?_, ?_, ?_, ?_, ?_⟩; (focus (first | (with_reducible assumption) | ((repeat (first | with_reducible refine c_dr ?_ | with_reducible refine c_al ?_ _ | with_reducible refine c_drN ?_ _ | with_reducible refine c_st ?_ (by omega) _ _)); with_reducible assumption) | (simp [go_sem, *]; done))); (focus (first | (with_reducible assumption) | ((repeat (first | with_reducible refine c_dr ?_ | with_reducible refine c_al ?_ _ | with_reducible refine c_drN ?_ _ | with_reducible refine c_st ?_ (by omega) _ _)); with_reducible assumption) | (simp [go_sem, *]; done))); (focus (first | (with_reducible assumption) | ((repeat (first | with_reducible refine c_dr ?_ | with_reducible refine c_al ?_ _ | with_reducible refine c_drN ?_ _ | with_reducible refine c_st ?_ (by omega) _ _)); with_reducible assumption) | (simp [go_sem, *]; done))); (focus (first | (with_reducible assumption) | ((repeat (first | with_reducible refine c_dr ?_ | with_reducible refine c_al ?_ _ | with_reducible refine c_drN ?_ _ | with_reducible refine c_st ?_ (by omega) _ _)); with_reducible assumption) | (simp [go_sem, *]; done))); (focus (first | (with_reducible assumption) | ((repeat (first | with_reducible refine c_dr ?_ | with_reducible refine c_al ?_ _ | with_reducible refine c_drN ?_ _ | with_reducible refine c_st ?_ (by omega) _ _)); with_reducible assumption) | (simp [go_sem, *]; done))); (focus (first | (with_reducible assumption) | ((repeat (first | with_reducible refine c_dr ?_ | with_reducible refine c_al ?_ _ | with_reducible refine c_drN ?_ _ | with_reducible refine c_st ?_ (by omega) _ _)); with_reducible assumption) | (simp [go_sem, *]; done))); (focus (first | (with_reducible assumption) | ((repeat (first | with_reducible refine c_dr ?_ | with_reducible refine c_al ?_ _ | with_reducible refine c_drN ?_ _ | with_reducible refine c_st ?_ (by omega) _ _)); with_reducible assumption) | (simp [go_sem, *]; done))); (focus (first | (with_reducible assumption) | ((repeat (first | with_reducible refine c_dr ?_ | with_reducible refine c_al ?_ _ | with_reducible refine c_drN ?_ _ | with_reducible refine c_st ?_ (by omega) _ _)); with_reducible assumption) | (simp [go_sem, *]; done)))))
              (first | (go_at_call 45; (apply Calls.mono; focus (exact C45.out _ (by (focus repeat' (first | (with_reducible exact Below.refl _ _) | (with_reducible assumption) | (with_reducible refine Below.alloc ?_ ?_ _) | (with_reducible refine Below.drew ?_) | (with_reducible refine bdrewN ?_ _) | (with_reducible refine Below.setCell ?_ ?_ _) | (first | (with_reducible exact Nat.le_refl _) | (with_reducible assumption) | omega | (simp; omega) | (simp; done))))))); rintro e w5 ⟨rfl, hro, hwt, ht⟩; have g0 : w5.cell? ⟨ab, ao + i, none⟩ = some (.slice (some ⟨rb i, ro i, none⟩) ol rci) := tch_cell3 hwt NTab f3; have g1 : w5.cell? ⟨ob, i, none⟩ = some (.slice dp dl dc) := tch_cell3 hwt NTob f2; have g2 : w5.cell? ⟨rb i, ro i + dl * 2, none⟩ = some (.int .i64 kx.1) := tch_cell3 hwt NTrb oc1; have g3 : w5.cell? ⟨rb i, ro i + dl * 2 + 1, none⟩ = some (.int .i64 kx.2) := tch_cell3 hwt NTrb oc2; have g4 : w5.cell? ⟨lb, i * 4, none⟩ = some (.bool p0) := tch_cell3 hwt NTlb k0; have g5 : w5.cell? ⟨lb, i * 4 + 1, none⟩ = some (.int .i64 p1) := tch_cell3 hwt NTlb k1; have g6 : w5.cell? ⟨lb, i * 4 + 2, none⟩ = some (.int .i64 p2) := tch_cell3 hwt NTlb k2; have g7 : w5.cell? ⟨lb, i * 4 + 3, none⟩ = some (.bool p3) := tch_cell3 hwt NTlb k3; have OV := hide (And.intro hro (And.intro hwt ht)); have hsz := hwt.size; (first | (obtain ⟨e0, e1, e2, e3, e4, e5, e6, e7, h0, h1, h2, h3, h4, h5⟩ := frA (W := wr) HNL.out ht rfl) | (obtain ⟨h0, h1, h2, h3, h4, h5, e0, e1, e2, e3, e4, e5, e6, e7⟩ := frB (W := wr) HNL.out ht rfl) | (obtain ⟨e0, e1, e2, e3, e4, e5, e6, e7⟩ := frP (W := wr) HNL.out ht rfl; have LW := World.block_lt_of_cell? w5 _ e0; have a0 := cell_stay e0 (al_blk w5 (.cells #[.int .i64 0, .bool false, .int .i64 0] 52) LW); have a1 := cell_stay e1 (al_blk w5 (.cells #[.int .i64 0, .bool false, .int .i64 0] 52) LW); have a2 := cell_stay e2 (al_blk w5 (.cells #[.int .i64 0, .bool false, .int .i64 0] 52) LW); have a3 := cell_stay e3 (al_blk w5 (.cells #[.int .i64 0, .bool false, .int .i64 0] 52) LW); have b0 := fro_stay e4 (al_blk w5 (.cells #[.int .i64 0, .bool false, .int .i64 0] 52) LW); have b1 := fro_stay e5 (al_blk w5 (.cells #[.int .i64 0, .bool false, .int .i64 0] 52) LW); have b2 := fro_stay e6 (al_blk w5 (.cells #[.int .i64 0, .bool false, .int .i64 0] 52) LW); have b3 := fro_stay e7 (al_blk w5 (.cells #[.int .i64 0, .bool false, .int .i64 0] 52) LW); have n0 : wr.heap.size ≠ w5.heap.size := Nat.ne_of_lt (World.block_lt_of_cell? w5 _ e0); have n1 : w5.heap.size ≠ wr.heap.size := Ne.symm n0) | (obtain ⟨h0, h1, h2, h3, h4, h5⟩ := frQ (W := wr) HNL.out ht rfl; have LW := World.block_lt_of_cell? w5 _ h0; have a0 := cell_stay h0 (al_blk w5 (.cells #[.bool false, .int .i64 0, .int .i64 0, .bool false] 131) LW); have a1 := cell_stay h1 (al_blk w5 (.cells #[.bool false, .int .i64 0, .int .i64 0, .bool false] 131) LW); have a2 := cell_stay h2 (al_blk w5 (.cells #[.bool false, .int .i64 0, .int .i64 0, .bool false] 131) LW); have b0 := fro_stay h3 (al_blk w5 (.cells #[.bool false, .int .i64 0, .int .i64 0, .bool false] 131) LW); have b1 := fro_stay h4 (al_blk w5 (.cells #[.bool false, .int .i64 0, .int .i64 0, .bool false] 131) LW); have b2 := fro_stay h5 (al_blk w5 (.cells #[.bool false, .int .i64 0, .int .i64 0, .bool false] 131) LW); have n0 : wr.heap.size ≠ w5.heap.size := Nat.ne_of_lt (World.block_lt_of_cell? w5 _ h0); have n1 : w5.heap.size ≠ wr.heap.size := Ne.symm n0) | skip); clear hro hwt ht))
            all_goals go_wp2_with fail
            all_goals go_meet
            all_goals have rl1 := HR.out.ro.lt.1
            all_goals have rl2 := HR.out.ro.lt.2
            · exact ⟨_, _, rfl, rfl, rfl, midA1 rl1 rl2 OV.out.1 OV.out.2.1⟩
            · exact ⟨_, _, rfl, rfl, rfl, midA2 rl1 rl2 OV.out.1 OV.out.2.1⟩
            · exact ⟨_, _, rfl, rfl, rfl, midB1 rl1 rl2 OV.out.1 OV.out.2.1 e0 e1 e2 e3⟩
            · exact ⟨_, _, rfl, rfl, rfl, midB2 rl1 rl2 OV.out.1 OV.out.2.1 e0 e1 e2 e3 h0 h1 h2 h5⟩
            · exact ⟨_, _, rfl, rfl, rfl, midC1 rl1 rl2 OV.out.1 OV.out.2.1 h0 h1 h2 h5⟩
            · exact ⟨_, _, rfl, rfl, rfl, midC2 rl1 rl2 OV.out.1 OV.out.2.1 e0 e1 e2 e3 h0 h1 h2 h5⟩
          case rest =>
            obtain ⟨tb, zb, h15, h16, h17, hmid⟩ := hcut
            subst h15 h16 h17
            clear f2 f3 oc1 oc2 k0 k1 k2 k3
            have RS0 := HR.out.stepped hmid.t hmid.ro
            have NL := hide (show st.2.length = n by rw [WK.out.n, HN.out])
            have t0 := hmid.t0
            have t1 := hmid.t1
            have t2 := hmid.t2
            have t3 := hmid.t3
            have lk : ∀ p, p < 4 → wc.cell? ⟨lb, i * 4 + p, none⟩ = (sn4 (wsAt st.2 i).s)[p]? := fun p hp => by
              rw [RS0.lk.cellAt (i * 4 + p) (by have := IL.out; omega), looksL_at n st.2 i p IL.out hp]
            have k0 : wc.cell? ⟨lb, i * 4, none⟩ = some (.bool (snL (wsAt st.2 i).s)) := lk 0 (by omega)
            have k1 : wc.cell? ⟨lb, i * 4 + 1, none⟩ = some (.int .i64 (snX (wsAt st.2 i).s)) := lk 1 (by omega)
            have k2 : wc.cell? ⟨lb, i * 4 + 2, none⟩ = some (.int .i64 (snW (wsAt st.2 i).s)) := lk 2 (by omega)
            have k3 : wc.cell? ⟨lb, i * 4 + 3, none⟩ = some (.bool (snA (wsAt st.2 i).s)) := lk 3 (by omega)
            have q0 := RS0.lk.frozenAt (i * 4)
            have q1 := RS0.lk.frozenAt (i * 4 + 1)
            have q2 := RS0.lk.frozenAt (i * 4 + 2)
            have q3 := RS0.lk.frozenAt (i * 4 + 3)
            have RS := hide RS0
            have HM2 := hide hmid
            clear hmid lk RS0
            go_upto_region 15 with fail
            obtain ⟨Y, hY⟩ : ∃ Y, Y = (((wc.setCell ⟨lb, i * 4, none⟩ (.bool l0)).setCell ⟨lb, i * 4 + 1, none⟩ (.int .i64 l1)).setCell ⟨lb, i * 4 + 2, none⟩ (.int .i64 l2)).setCell ⟨lb, i * 4 + 3, none⟩ (.bool l3) := ⟨_, rfl⟩
            rw [← hY]
            have RL := hide (show RW w00 Y tag r rs lb ob n dv A9 (st.2.set i ⟨(wsAt st.2 i).did, s9⟩) by
              have q := RS.out.look IL.out NL.out s9
              rw [← HLN.out.1, ← HLN.out.2.1, ← HLN.out.2.2.1, ← HLN.out.2.2.2, ← hY] at q
              exact q)
            have zY : ∀ b, b ≠ lb → Y.heap[b]? = wc.heap[b]? := fun b hb => by rw [hY]; exact (heap_setCell_other _ _ _ _ hb).trans ((heap_setCell_other _ _ _ _ hb).trans ((heap_setCell_other _ _ _ _ hb).trans (heap_setCell_other _ _ _ _ hb)))
            have zlb : zb ≠ lb := by have q1 := HM2.out.lz; have q2 := (HR.out.lk.lt lb rfl).2; omega
            have z0 := cell_stay HM2.out.z0 (zY zb zlb)
            have z1 := cell_stay HM2.out.z1 (zY zb zlb)
            have z2 := cell_stay HM2.out.z2 (zY zb zlb)
            have zf := fro_stay HM2.out.zf (zY zb zlb)
            clear t0 t1 t2 t3 k0 k1 k2 k3 q0 q1 q2 q3 hY zY
            rcases (show dd = false ∨ dd = true by cases dd <;> simp) with hdd | hdd
            · subst hdd
              go_wp2_with fail
              go_roundw
              case rel =>
                refine ⟨k + 1, tag, dv, by omega, by go_num, ?_⟩
                have hdf := HNM.out.1.symm
                rw [HKX.out, HDV.out.2.1] at hdf
                rw [NXT.out, pickA_look (i := i) IP.out (by rw [← HDV.out.2.1, ← HDV.out.2.2.1]; exact hde) hdf]
                have q := RL.out
                rw [HNM.out.2.1, HNM.out.2.2.2.2, HKX.out, HDV.out.2.1] at q
                exact q
              case measure => (first | (simp [intOf]; done) | (simp [intOf]; omega))
            · subst hdd
              go_upto_region 17 with fail
              obtain ⟨Y1, hY1⟩ : ∃ Y1, Y1 = Y.setCell ⟨zb, 2, none⟩ (.int .i64 (k : Int)) := ⟨_, rfl⟩
              rw [← hY1]
              have y0 : Y1.cell? ⟨zb, 0, none⟩ = some (.int .i64 aa) := by rw [hY1]; exact (cell_ne (by decide)).trans z0
              have y1 : Y1.cell? ⟨zb, 1, none⟩ = some (.bool ay) := by rw [hY1]; exact (cell_ne (by decide)).trans z1
              have y2 : Y1.cell? ⟨zb, 2, none⟩ = some (.int .i64 (k : Int)) := by rw [hY1]; exact World.cell?_setCell_same' _ _ _ (by rw [z2]; rfl)
              have RY := hide (show RW w00 Y1 tag r rs lb ob n dv A9 (st.2.set i ⟨(wsAt st.2 i).did, s9⟩) by
                have lz := HM2.out.lz
                have u1 := HR.out.ro.lt.1
                have u2 := HR.out.ro.lt.2
                have u3 := (HR.out.lk.lt lb rfl).2
                have u4 := (HR.out.out.lt ob rfl).2
                have u5 := HR.out.below.size
                rw [hY1]
                exact RL.out.aside (z := zb) (by omega) (by omega) (by omega) (by omega) (by omega) (fun j hj e => by have q := ((HR.out.D j hj).lt zb e).2; omega) _ _)
              clear z0 z1 z2 zf hY1
              have f2 : Y1.cell? ⟨ob, i, none⟩ = some (.slice dp dl dc) := by rw [RY.out.out.cellAt i (by have := IL.out; omega), List.getElem?_map, List.getElem?_range IL.out]; exact congrArg some HDV.out.1
              have f2a := c_al f2 (.cells #[.int .i64 aa, .bool ay, .int .i64 (k : Int)] 52)
              have fo := RY.out.out.frozenAt i
              have ES := hide (show (wsAt (st.2.set i ⟨(wsAt st.2 i).did, s9⟩) i).did = (wsAt st.2 i).did by rw [wsAt_set (by rw [NL.out]; exact IL.out), if_pos rfl])
              have OW := hide (show Y1.ownsRow w00.heap.size 52 3 (.slice dp dl dc) dl (flatA (wsAt st.2 i).did) by
                have q := RY.out.D i IL.out
                rw [ES.out, HDV.out.1, ← HDV.out.2.1] at q
                exact q)
              have LOB := hide (RY.out.out.lt ob rfl).2
              have NOB := hide (show (Value.slice dp dl dc).ownBlock ≠ some ob from fun e => by have q := RY.out.Dt i IL.out ob (by rw [HDV.out.1]; exact e); rw [RY.out.to_] at q; omega)
              have HDL := hide (show (dl : Int) + 1 ≤ 5864062014801 by have := HO.out.ml i (by rw [← HN.out]; exact IL.out); have := HDV.out.2.2.1; omega)
              have HZ := hide RY.out.below.size
              have FIN := hide (fun (g2 c2 : Nat) (wn : World) (OX : AppOk w00 Y1 Y1 0 (.slice dp dl dc) dl (wsAt st.2 i).did (aa, ay, (k : Int)) g2 c2 wn) => show ∃ tag4 dv4, RW w00 (wn.setCell ⟨ob, i, none⟩ (.slice (some ⟨g2, 0, none⟩) (dl + 1) c2)) tag4 r rs lb ob n dv4 (walkA (ab0 n mark gate tick) ops ps (k + 1)).1 (walkA (ab0 n mark gate tick) ops ps (k + 1)).2 by
                have hdf := HNM.out.1.symm
                rw [HKX.out, HDV.out.2.1] at hdf
                rw [NXT.out, pickA_done (i := i) IP.out (by rw [← HDV.out.2.1, ← HDV.out.2.2.1]; exact hde) hdf]
                have q := RW.took (dl := dl) (g2 := g2) (c2 := c2) (wn := wn) RY.out IL.out (by rw [List.length_set]; exact NL.out) (a := (aa, ay, (k : Int))) (by rw [ES.out]; exact HDV.out.2.1) (by rw [HDV.out.1, ES.out]; exact OX)
                rw [set_twice (by rw [NL.out]; exact IL.out), HNM.out.2.1, HNM.out.2.2.2.2, HNM.out.2.2.1, HNM.out.2.2.2.1, HKX.out, HDV.out.2.1] at q
                rw [HDV.out.2.1]
                exact ⟨_, _, q⟩)
              go_region_law (refine step_append_lies _ rfl _ _ 77 rfl w00.heap.size 52 i52 (.agg #[.int .i64 0, .bool false, .int .i64 0]) 3 24 Try.underlying77 hi52 hz52 hs52 hb52 rfl (by decide) (.slice dp dl dc) dl (flatA (wsAt st.2 i).did) (by simp [Act.eval, Act.put]) (World.ownsRow.alloc OW.out _) ⟨Y1.heap.size, 0, none⟩ 1 1 (ansV (aa, ay, (k : Int))) (by simp [Act.eval, Act.put]) rfl (new3 rfl) (ansV_one _) (by decide) (by unfold maxLen; have := HDL.out; omega) (by have := HDL.out; omega) (by simp; have := HZ.out; omega) _ rfl ?_; intro g2 c2 wn hown2 hg2 hgg hgl; have OX := hide (AppOk.made2 (V1 := Y1) (dl := dl) (fun b eb => (OW.out.lt b eb).2) hown2 hg2 rfl ⟨rfl, rfl, rfl⟩ hgg rfl); have kx := OX.out.blk ob LOB.out NOB.out; have w2c := cell_stay f2 kx; have w2f := fro_stay fo kx; clear hown2 hg2 hgg kx)
              all_goals
                go_wp2_with fail
                go_roundw
                case rel =>
                  obtain ⟨tag4, dv4, q⟩ := FIN.out g2 c2 wn OX.out
                  exact ⟨k + 1, tag4, dv4, by omega, by go_num, q⟩
                case measure => (first | (simp [intOf]; done) | (simp [intOf]; omega))
    · have hl2 : ¬ (k : Int) < (m : Int) := by omega
      obtain rfl : k = m := by omega
      have hst := walkA_ok mark gate tick (k : Int) (by omega) ops ps H1.out HG.out HT.out HT2.out k (Int.le_refl _)
      rw [← HN.out] at hst
      obtain ⟨st, hst0⟩ : ∃ st, st = walkA (ab0 n mark gate tick) ops ps k := ⟨_, rfl⟩
      have HS0 := hide hst0
      rw [← hst0] at hor hst
      have HR := hide hor
      have HST := hide hst
      have C20 := hide (show Calls Try.prog 20 #[.pointer (some ⟨r, 0, none⟩)] wr fun e w' => e = .returned (.agg #[.int .i64 (sumI st.1.S), .int .i64 st.1.mark, .int .i64 (bWho st.1.bs), .int .i64 (bX st.1.bs), .bool st.1.bs.isSome, .int .i64 st.1.ar, .bool (decide (st.1.gt ≤ st.1.ar)), .int .i64 st.1.tk]) ∧ Below wr.heap.size wr w' from
        REnd_c r rs st.1 wr HR.out.ro (by rw [HST.out.a.S]; exact H2.out))
      clear hor hst hst0
      go_wp2_with fail
      refine C20.out.mono ?_
      rintro e w6 ⟨rfl, hb6⟩
      have h86 := (HH8.out.below (HR.out.below)).below hb6
      obtain ⟨n0, hn0⟩ := Option.isSome_iff_exists.1 (h86 0 (by decide)).1
      have nf0 := (h86 0 (by decide)).2
      obtain ⟨n1, hn1⟩ := Option.isSome_iff_exists.1 (h86 1 (by decide)).1
      have nf1 := (h86 1 (by decide)).2
      obtain ⟨n2, hn2⟩ := Option.isSome_iff_exists.1 (h86 2 (by decide)).1
      have nf2 := (h86 2 (by decide)).2
      obtain ⟨n3, hn3⟩ := Option.isSome_iff_exists.1 (h86 3 (by decide)).1
      have nf3 := (h86 3 (by decide)).2
      obtain ⟨n4, hn4⟩ := Option.isSome_iff_exists.1 (h86 4 (by decide)).1
      have nf4 := (h86 4 (by decide)).2
      obtain ⟨n5, hn5⟩ := Option.isSome_iff_exists.1 (h86 5 (by decide)).1
      have nf5 := (h86 5 (by decide)).2
      obtain ⟨n6, hn6⟩ := Option.isSome_iff_exists.1 (h86 6 (by decide)).1
      have nf6 := (h86 6 (by decide)).2
      obtain ⟨n7, hn7⟩ := Option.isSome_iff_exists.1 (h86 7 (by decide)).1
      have nf7 := (h86 7 (by decide)).2
      have OUT := hide (HR.out.later hb6)
      have HB1 := hide (HB0.out.trans ((HR.out.below.trans (hb6.mono HR.out.below.size)).mono HB0.out.size))
      clear hb6 h86
      go_wp2
      refine bodyPost_ret (v := .tuple #[.slice (some ⟨ob, 0, none⟩) n n, endV st.1, .int .i64 0]) (by simp [results, Try.f23, go_sem, endV, hn0, hn1, hn2, hn3, hn4, hn5, hn6, hn7]) rfl ?_
      have l8 := HH8.out.lt
      have l00 := HB0.out.size
      unfold RWalkPost
      rw [← HM.out, ← HS0.out]
      refine ⟨ob, dv, rfl, ⟨own_low (own_stays OUT.out.out (fun b eb => ?_)) l00, fun i hi => own_low (own_stays (OUT.out.D i hi) (fun b eb => ?_)) l00⟩, ?_⟩
      · have q := (OUT.out.out.lt b eb).1
        refine (heap_setCell_other _ _ _ _ ?_).trans ((heap_setCell_other _ _ _ _ ?_).trans ((heap_setCell_other _ _ _ _ ?_).trans ((heap_setCell_other _ _ _ _ ?_).trans ((heap_setCell_other _ _ _ _ ?_).trans ((heap_setCell_other _ _ _ _ ?_).trans ((heap_setCell_other _ _ _ _ ?_).trans (heap_setCell_other _ _ _ _ ?_)))))))
        all_goals (show b ≠ w.heap.size + 1; omega)
      · have q := ((OUT.out.D i hi).lt b eb).1
        refine (heap_setCell_other _ _ _ _ ?_).trans ((heap_setCell_other _ _ _ _ ?_).trans ((heap_setCell_other _ _ _ _ ?_).trans ((heap_setCell_other _ _ _ _ ?_).trans ((heap_setCell_other _ _ _ _ ?_).trans ((heap_setCell_other _ _ _ _ ?_).trans ((heap_setCell_other _ _ _ _ ?_).trans (heap_setCell_other _ _ _ _ ?_)))))))
        all_goals (show b ≠ w.heap.size + 1; omega)
      · (repeat (with_reducible refine below_set (by omega) ?_ _ _))
        exact HB1.out
end Go.Proofs.Ytimabgakemgldaa

