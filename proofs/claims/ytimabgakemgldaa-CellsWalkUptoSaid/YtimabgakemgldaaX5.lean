/- Contracts of the layer's functions, each proved once, in the order in which they are used. No condition beyond each theorem's own. -/
import Derived.Test.YtimabgakemgldaaT46
import Derived.Laws.LoneSync
import Derived.WalkKit
import Derived.StillTailTactics
import Derived.Deep.RegionLaw
import Derived.Deep.RegionHeld3
import Derived.Laws.OwnMore
import Derived.Deep.Matrix
import Derived.BigQuiet
import Derived.Deep.QuietTactic
import Derived.Laws.EntriesVeiled
import Derived.Test.YtimabgakemgldaaX4
import Derived.Deep.AppendLies
import Derived.Maps.AppendAt
import Derived.Deep.OwnRows
import Derived.Deep.CutRange
namespace Go.Proofs.Ytimabgakemgldaa
open Go.ChangeShapes Go.WideShapes Go.ChangeAt Go.RowKit Go.Deep
set_option linter.unusedSimpArgs false
set_option linter.unusedVariables false

/-- the program's cells and the document's -/
structure PB (w0 V : World) (L : Nat → Nat) (wp r rs sb : Nat) (tick : Int) (A1 A2 : Ab) : Prop where
  k : KO w0 V L A1
  l : LW V wp L
  nw : ∀ i, i < 9 → wp ≠ L i
  ro : RObj V r rs A2
  nr : ∀ i, i < 9 → r ≠ L i ∧ rs ≠ L i
  rw : wp ≠ r ∧ wp ≠ rs
  lo : w0.heap.size ≤ r ∧ w0.heap.size ≤ rs
  s2 : V.cell? ⟨sb, 2, none⟩ = some (.int .i64 tick)
  sn : (∀ i, i < 9 → sb ≠ L i) ∧ sb ≠ r ∧ sb ≠ rs
theorem CW.of {L : Nat → Nat} {b : Nat} (h : ∀ i, i < 9 → b ≠ L i) : ¬ CW L b := by
  rintro (e | e | e | e | e)
  · exact h 1 (by decide) e
  · exact h 3 (by decide) e
  · exact h 5 (by decide) e
  · exact h 6 (by decide) e
  · exact h 8 (by decide) e
theorem PB.prog {w0 V w' : World} {L : Nat → Nat} {wp r rs sb : Nat} {tick : Int} {A1 A2 A' : Ab} (h : PB w0 V L wp r rs sb tick A1 A2) (hc : ∃ po, CObj w' L po A') (ht : Tch (CW L) V w') : PB w0 w' L wp r rs sb tick A' A2 :=
  ⟨h.k.tch hc ht, h.l.stays (ht.heap _ h.l.lt (CW.of h.nw)), h.nw, h.ro.stays (ht.heap _ h.ro.lt.1 (CW.of fun i hi => (h.nr i hi).1)) (ht.heap _ h.ro.lt.2 (CW.of fun i hi => (h.nr i hi).2)), h.nr, h.rw, h.lo, cell_stay h.s2 (ht.heap _ (World.block_lt_of_cell? V _ h.s2) (CW.of h.sn.1)), h.sn⟩
theorem PB.doc {w0 V w' : World} {L : Nat → Nat} {wp r rs sb : Nat} {tick : Int} {A1 A2 A' : Ab} (h : PB w0 V L wp r rs sb tick A1 A2) (hr : RObj w' r rs A') (ht : Tch (fun k => k = r ∨ k = rs) V w') (hp : ∀ po, CObj V L po A1 → ∀ k, po = some ⟨k, 0, none⟩ → k ≠ r ∧ k ≠ rs) : PB w0 w' L wp r rs sb tick A1 A' := by
  obtain ⟨po, hc⟩ := h.k.c
  have st : ∀ b, b < V.heap.size → b ≠ r → b ≠ rs → w'.heap[b]? = V.heap[b]? := fun b hb h1 h2 => ht.heap b hb (fun e => by rcases e with e | e; exact h1 e; exact h2 e)
  refine ⟨⟨⟨po, hc.keep (fun i hi => st _ (hc.lt i hi) (Ne.symm (h.nr i hi).1) (Ne.symm (h.nr i hi).2)) (fun k e => st k (hc.best.o.lt e) (hp po hc k e).1 (hp po hc k e).2)⟩, ⟨ht.os.trans h.k.b.os, ht.tape.trans h.k.b.tape, ht.output.trans h.k.b.output, Nat.le_trans h.k.b.size ht.size, fun b hb => (st b (Nat.lt_of_lt_of_le hb h.k.b.size) (by have := h.lo; omega) (by have := h.lo; omega)).trans (h.k.b.block b hb)⟩, h.k.lo⟩, h.l.stays (st _ h.l.lt h.rw.1 h.rw.2), h.nw, hr, h.nr, h.rw, h.lo, cell_stay h.s2 (st _ (World.block_lt_of_cell? V _ h.s2) h.sn.2.1 h.sn.2.2), h.sn⟩
theorem PB.later {w0 V w' : World} {L : Nat → Nat} {wp r rs sb : Nat} {tick : Int} {A1 A2 : Ab} (h : PB w0 V L wp r rs sb tick A1 A2) (hb : Below V.heap.size V w') : PB w0 w' L wp r rs sb tick A1 A2 :=
  ⟨h.k.later hb, h.l.stays (hb.block _ h.l.lt), h.nw, h.ro.below hb, h.nr, h.rw, h.lo, cell_stay h.s2 (hb.block _ (World.block_lt_of_cell? V _ h.s2)), h.sn⟩
theorem PB.dr {w0 V : World} {L : Nat → Nat} {wp r rs sb : Nat} {tick : Int} {A1 A2 : Ab} (h : PB w0 V L wp r rs sb tick A1 A2) : PB w0 V.drew L wp r rs sb tick A1 A2 := h.later ((Below.refl _ _).drew)
theorem PB.drN {w0 V : World} {L : Nat → Nat} {wp r rs sb : Nat} {tick : Int} {A1 A2 : Ab} (h : PB w0 V L wp r rs sb tick A1 A2) (n : Nat) : PB w0 (V.drewN n) L wp r rs sb tick A1 A2 := h.later (bdrewN (Below.refl _ _) n)
theorem PB.al {w0 V : World} {L : Nat → Nat} {wp r rs sb : Nat} {tick : Int} {A1 A2 : Ab} (h : PB w0 V L wp r rs sb tick A1 A2) (o : Obj) : PB w0 (V.alloc o) L wp r rs sb tick A1 A2 := h.later ((Below.refl _ _).alloc (Nat.le_refl _) o)
theorem opt_ne {w : World} {p : Option Addr} {o : Option (Int × Int)} (h : OffOk w p o) {k : Nat} (e : p = some ⟨k, 0, none⟩) : ∃ who x, w.heap[k]? = some (.cells #[.int .i64 who, .int .i64 x] 154) := by
  cases o with
  | none => obtain rfl : p = none := h; cases e
  | some z => obtain ⟨k2, e2, q⟩ := h; rw [e2] at e; cases e; exact ⟨_, _, q⟩
/-- an offer's block is none of the document's -/
theorem PB.off {w0 V : World} {L : Nat → Nat} {wp r rs sb : Nat} {tick : Int} {A1 A2 : Ab} (h : PB w0 V L wp r rs sb tick A1 A2) : ∀ po, CObj V L po A1 → ∀ k, po = some ⟨k, 0, none⟩ → k ≠ r ∧ k ≠ rs := fun po hc k e => by
  obtain ⟨who, x, hk⟩ := opt_ne hc.best.o e
  refine ⟨fun e2 => ?_, fun e2 => ?_⟩
  · subst e2
    have := h.ro.c8
    simp [World.cell?, hk] at this
  · subst e2
    rcases h.ro.row.2 with ⟨e3, _⟩ | ⟨g, cap, cur, e3, _, e4, _⟩
    · cases e3
    · injection e3 with e3 _ _
      injection e3 with e3
      injection e3 with e3 _ _
      subst e3
      rw [hk] at e4
      injection e4 with e4
      injection e4 with _ e4
      cases e4
def aV (A : Ab) (who k x : Int) : Value := .agg #[.int .i64 (doA A who k x).1, .bool (doA A who k x).2, .int .i64 0]
theorem PB.does {w0 V : World} {L : Nat → Nat} {wp r rs sb : Nat} {tick : Int} {A1 A2 : Ab} (h : PB w0 V L wp r rs sb tick A1 A2) {n : Nat} {c : Int} (hA : AbOk A1 n c) (hc : c ≤ 4611686018427387904) (k who x : Int) (h1 : 1 ≤ k) (h5 : k ≤ 5) (hw : k = 1 → 0 ≤ who ∧ who < n) :
    Calls Try.prog 16 #[.pointer (some ⟨wp, 0, none⟩), .agg #[.int .i64 k, .int .i64 who, .int .i64 x]] V fun e w' => e = .returned (aV A1 who k x) ∧ PB w0 w' L wp r rs sb tick (doS A1 who k x) A2 ∧ Tch (CW L) V w' := by
  obtain ⟨po, hC⟩ := h.k.c
  have fin : ∀ e w', DoesPost L A1 who k x V e w' → e = .returned (aV A1 who k x) ∧ PB w0 w' L wp r rs sb tick (doS A1 who k x) A2 ∧ Tch (CW L) V w' := fun e w' q => ⟨q.1, by obtain ⟨po2, q1, q2⟩ := q.2; exact ⟨h.prog ⟨po2, q1⟩ q2, q2⟩⟩
  have t1 := hA.tk
  have t2 := hA.tk2
  have t3 := hA.tt
  have t6 := hA.tk3
  obtain rfl | rfl | rfl | rfl | rfl : k = 1 ∨ k = 2 ∨ k = 3 ∨ k = 4 ∨ k = 5 := by omega
  · obtain ⟨w1, w2⟩ := hw rfl
    exact (does1 wp L po A1 who x V hC h.l who.toNat (by omega) (by rw [hA.S]; omega) h.nw).mono fin
  · exact (does2 wp L po A1 who x V hC h.l h.nw).mono fin
  · exact (does3 wp L po A1 who x V hC h.l h.nw).mono fin
  · exact (does4 wp L po A1 who x V hC h.l hA.gt hA.ar (Int.le_trans hA.ar2 hc)).mono fin
  · by_cases e : A1.tk < A1.tt
    · exact (does5 wp L po A1 who x V hC h.l ⟨by omega, by omega⟩).mono fin
    · exact (does5 wp L po A1 who x V hC h.l ⟨by omega, by omega⟩).mono fin
theorem PB.doo {w0 V : World} {L : Nat → Nat} {wp r rs sb : Nat} {tick : Int} {A1 A2 : Ab} (h : PB w0 V L wp r rs sb tick A1 A2) {n : Nat} {c : Int} (hA : AbOk A2 n c) (hc : c ≤ 4611686018427387904) (k who x : Int) (h1 : 1 ≤ k) (h5 : k ≤ 5) (hw : k = 1 → 0 ≤ who ∧ who < n) :
    Calls Try.prog 17 #[.pointer (some ⟨r, 0, none⟩), .int .i64 who, .agg #[.int .i64 k, .int .i64 x]] V fun e w' => e = .returned (aV A2 who k x) ∧ PB w0 w' L wp r rs sb tick A1 (doS A2 who k x) ∧ Tch (fun b => b = r ∨ b = rs) V w' := by
  have fin : ∀ e w', DoPost r rs A2 who k x V e w' → e = .returned (aV A2 who k x) ∧ PB w0 w' L wp r rs sb tick A1 (doS A2 who k x) ∧ Tch (fun b => b = r ∨ b = rs) V w' := fun e w' q => ⟨q.1, h.doc q.2.1 q.2.2 h.off, q.2.2⟩
  have t1 := hA.tk
  have t2 := hA.tk2
  have t3 := hA.tt
  have t6 := hA.tk3
  have t4 := hA.ar
  have t5 := hA.ar2
  obtain rfl | rfl | rfl | rfl | rfl : k = 1 ∨ k = 2 ∨ k = 3 ∨ k = 4 ∨ k = 5 := by omega
  · obtain ⟨w1, w2⟩ := hw rfl
    exact (Do1 r rs A2 who x V h.ro who.toNat (by omega) (by rw [hA.S]; omega)).mono fin
  · exact (Do2 r rs A2 who x V h.ro).mono fin
  · exact (Do3 r rs A2 who x V h.ro).mono fin
  · exact (Do4 r rs A2 who x V h.ro ⟨by omega, by omega⟩).mono fin
  · exact (Do5 r rs A2 who x V h.ro ⟨by omega, by omega⟩).mono fin
theorem PB.addBad {w0 V : World} {L : Nat → Nat} {wp r rs sb : Nat} {tick : Int} {A1 A2 : Ab} (h : PB w0 V L wp r rs sb tick A1 A2) (h0 : 0 < A1.S.length) (i x : Int) (hi : i < 0 ∨ A1.S.length ≤ i) : Calls Try.prog 15 #[.pointer (some ⟨L 4, 0, none⟩), .int .i64 i, .int .i64 x] V fun e w' => e = .returned (.tuple #[.int .i64 0, .int .i64 2]) ∧ V = w' := h.k.addBad h0 i x hi
theorem PB.goes {w0 V : World} {L : Nat → Nat} {wp r rs sb : Nat} {tick : Int} {A : Ab} (h : PB w0 V L wp r rs sb tick A A) (hS : A.S.length ≤ 64) (x : Int) : Calls Try.prog 18 #[.pointer (some ⟨L 4, 0, none⟩), .slice (some ⟨rs, 0, none⟩) A.S.length A.S.length, .int .i64 x] V fun e w' => e = .returned (.bool true) ∧ Below V.heap.size V w' := by
  obtain ⟨po, hc⟩ := h.k.c
  exact goes_c (L 4) (L 5) rs A.S x V hc.cnt h.ro.row hS
theorem PB.stands {w0 V : World} {L : Nat → Nat} {wp r rs sb : Nat} {tick : Int} {A1 A2 : Ab} (h : PB w0 V L wp r rs sb tick A1 A2) {n : Nat} {c : Int} (hA : AbOk A1 n c) (hn : n ≤ 64) : Calls Try.prog 19 #[.pointer (some ⟨wp, 0, none⟩), .int .i64 A1.tt] V fun e w' => e = .returned (endV A1) ∧ Below V.heap.size V w' := by
  obtain ⟨po, hc⟩ := h.k.c
  exact Stands_c wp L po A1 V hc h.l (by rw [hA.S]; exact hn) hA.gt hA.tk hA.tk2 hA.tt
theorem PB.endd {w0 V : World} {L : Nat → Nat} {wp r rs sb : Nat} {tick : Int} {A1 A2 : Ab} (h : PB w0 V L wp r rs sb tick A1 A2) {n : Nat} {c : Int} (hA : AbOk A2 n c) (hn : n ≤ 64) : Calls Try.prog 20 #[.pointer (some ⟨r, 0, none⟩)] V fun e w' => e = .returned (endV A2) ∧ Below V.heap.size V w' :=
  REnd_c r rs A2 V h.ro (by rw [hA.S]; exact hn)
/-- a script that came in -/
structure ScrIn (w : World) (sp : Option Addr) (l : List (Int × Int × Int)) : Prop where
  at_ : ∀ k, k < l.length → ∃ b o, sp = some ⟨b, o, none⟩ ∧ w.cell? ⟨b, o + k * 3, none⟩ = some (.int .i64 (l.getD k (0, 0, 0)).1) ∧ w.cell? ⟨b, o + k * 3 + 1, none⟩ = some (.int .i64 (l.getD k (0, 0, 0)).2.1) ∧ w.cell? ⟨b, o + k * 3 + 2, none⟩ = some (.int .i64 (l.getD k (0, 0, 0)).2.2)
  ml : l.length ≤ 4503599627370496
theorem ScrIn.below {w w' : World} {sp : Option Addr} {l : List (Int × Int × Int)} (h : ScrIn w sp l) (hb : Below w.heap.size w w') : ScrIn w' sp l :=
  ⟨fun k hk => by obtain ⟨b, o, e, c0, c1, c2⟩ := h.at_ k hk; have s := hb.block _ (World.block_lt_of_cell? w _ c0); exact ⟨b, o, e, cell_stay c0 s, cell_stay c1 s, cell_stay c2 s⟩, h.ml⟩

theorem eqFields_self {P : Program} (w : World) (d : Nat) (xs : Array Value) (fs : List Field) (h : ∀ f ∈ fs, ∃ a, (part f.type xs f.offset).run P w = .ok a w ∧ (Op.equalIn d f.type a a).run P w = .ok true w) : (Op.eqFields d xs xs fs).run P w = .ok true w := by
  induction fs with
  | nil => simp [Op.eqFields]
  | cons f fs ih =>
    obtain ⟨a, ha, he⟩ := h f (List.mem_cons_self ..)
    have q := ih (fun g hg => h g (List.mem_cons_of_mem _ hg))
    simp only [Op.eqFields]
    split
    · simp only [Sem.run_bind, ha, Result.andThen_ok, he, Bool.not_true, Bool.false_eq_true, if_false, q]
    · exact q
theorem eqAgg_self {P : Program} (w : World) (d : Nat) (t : TypeId) (xs : Array Value) (tys : List (TypeId × Nat)) (ht : P.underlying t = some (.struct (P.fieldsOf t))) (hp : P.stoodInHeld t = false) (hf : (P.fieldsOf t).toList.map (fun f => (f.type, f.offset)) = tys)
    (h : ∀ x ∈ tys, ∃ a, (part x.1 xs x.2).run P w = .ok a w ∧ (Op.equalIn d x.1 a a).run P w = .ok true w) : (Op.equalIn (d + 1) t (.agg xs) (.agg xs)).run P w = .ok true w := by
  rw [run_equalIn_struct w d t xs xs ht hp]
  refine eqFields_self w d xs _ (fun f hfm => ?_)
  exact h (f.type, f.offset) (by rw [← hf]; exact List.mem_map_of_mem hfm)
theorem flds52 : (Try.prog.fieldsOf 52).toList.map (fun f => (f.type, f.offset)) = [(2, 0), (4, 1), (3, 2)] := by kernel_rfl
theorem flds63 : (Try.prog.fieldsOf 63).toList.map (fun f => (f.type, f.offset)) = [(2, 0), (2, 1), (3, 2), (2, 3), (4, 4), (3, 5), (4, 6), (2, 7)] := by kernel_rfl
theorem same52 (a t : Int) (y : Bool) (w : World) : (Op.equalIn 10000 52 (.agg #[.int .i64 a, .bool y, .int .i64 t]) (.agg #[.int .i64 a, .bool y, .int .i64 t])).run Try.prog w = .ok true w := by
  refine eqAgg_self w 9999 52 _ _ (by kernel_rfl) (by kernel_rfl) flds52 (fun x hx => ?_)
  simp only [List.mem_cons, List.not_mem_nil, or_false] at hx
  rcases hx with rfl | rfl | rfl
  · exact ⟨.int .i64 a, by kernel_rfl, by rw [run_equalIn_int w 9998 2 .i64 .i64 a a Try.underlying2]; simp⟩
  · exact ⟨.bool y, by kernel_rfl, by rw [run_equalIn_bool w 9998 4 y y Try.underlying4]; simp⟩
  · exact ⟨.int .i64 t, by kernel_rfl, by rw [run_equalIn_int w 9998 3 .i64 .i64 t t Try.underlying3]; simp⟩
theorem ans_neq (a t : Int) (y : Bool) (w : World) : Sem.run Try.prog (binOp .neq 52 (.agg #[.int .i64 a, .bool y, .int .i64 t]) (.agg #[.int .i64 a, .bool y, .int .i64 t])) w = .ok (.bool false) w := by
  rw [run_neq_struct, same52]; rfl
theorem same63 (a b c d f h : Int) (e g : Bool) (w : World) : (Op.equalIn 10000 63 (.agg #[.int .i64 a, .int .i64 b, .int .i64 c, .int .i64 d, .bool e, .int .i64 f, .bool g, .int .i64 h]) (.agg #[.int .i64 a, .int .i64 b, .int .i64 c, .int .i64 d, .bool e, .int .i64 f, .bool g, .int .i64 h])).run Try.prog w = .ok true w := by
  refine eqAgg_self w 9999 63 _ _ (by kernel_rfl) (by kernel_rfl) flds63 (fun x hx => ?_)
  simp only [List.mem_cons, List.not_mem_nil, or_false] at hx
  rcases hx with rfl | rfl | rfl | rfl | rfl | rfl | rfl | rfl
  · exact ⟨.int .i64 a, by kernel_rfl, by rw [run_equalIn_int w 9998 2 .i64 .i64 a a Try.underlying2]; simp⟩
  · exact ⟨.int .i64 b, by kernel_rfl, by rw [run_equalIn_int w 9998 2 .i64 .i64 b b Try.underlying2]; simp⟩
  · exact ⟨.int .i64 c, by kernel_rfl, by rw [run_equalIn_int w 9998 3 .i64 .i64 c c Try.underlying3]; simp⟩
  · exact ⟨.int .i64 d, by kernel_rfl, by rw [run_equalIn_int w 9998 2 .i64 .i64 d d Try.underlying2]; simp⟩
  · exact ⟨.bool e, by kernel_rfl, by rw [run_equalIn_bool w 9998 4 e e Try.underlying4]; simp⟩
  · exact ⟨.int .i64 f, by kernel_rfl, by rw [run_equalIn_int w 9998 3 .i64 .i64 f f Try.underlying3]; simp⟩
  · exact ⟨.bool g, by kernel_rfl, by rw [run_equalIn_bool w 9998 4 g g Try.underlying4]; simp⟩
  · exact ⟨.int .i64 h, by kernel_rfl, by rw [run_equalIn_int w 9998 2 .i64 .i64 h h Try.underlying2]; simp⟩
theorem end_neq (a b c d f h : Int) (e g : Bool) (w : World) : Sem.run Try.prog (binOp .neq 63 (.agg #[.int .i64 a, .int .i64 b, .int .i64 c, .int .i64 d, .bool e, .int .i64 f, .bool g, .int .i64 h]) (.agg #[.int .i64 a, .int .i64 b, .int .i64 c, .int .i64 d, .bool e, .int .i64 f, .bool g, .int .i64 h])) w = .ok (.bool false) w := by
  rw [run_neq_struct, same63]; rfl
theorem end_eql (a b c d f h : Int) (e g : Bool) (w : World) : Sem.run Try.prog (binOp .eql 63 (.agg #[.int .i64 a, .int .i64 b, .int .i64 c, .int .i64 d, .bool e, .int .i64 f, .bool g, .int .i64 h]) (.agg #[.int .i64 a, .int .i64 b, .int .i64 c, .int .i64 d, .bool e, .int .i64 f, .bool g, .int .i64 h])) w = .ok (.bool true) w := by
  rw [run_eql_struct, same63]; rfl
end Go.Proofs.Ytimabgakemgldaa

namespace Go.Proofs.Ytimabgakemgldaa
open Go.ChangeShapes Go.WideShapes Go.ChangeAt Go.RowKit Go.Deep
set_option linter.unusedSimpArgs false
set_option linter.unusedVariables false

theorem info57 : (Try.prog.info? 57).map (fun i => (i.zero, i.size, i.bytes)) = some (some (.agg #[.int .i64 0, .int .i64 0]), 2, 16) := by kernel_rfl
theorem info79 : (Try.prog.info? 79).map (fun i => (i.zero, i.size, i.bytes)) = some (some (.slice none 0 0), 1, 24) := by kernel_rfl
def opV (o : Int × Int) : List Value := [.int .i64 o.1, .int .i64 o.2]
def flatO (l : List (Int × Int)) : List Value := l.flatMap opV
theorem flatO_len (l : List (Int × Int)) : (flatO l).length = l.length * 2 := by
  induction l with
  | nil => rfl
  | cons a l ih => show (opV a ++ flatO l).length = _; rw [List.length_append, ih, List.length_cons]; show 2 + _ = _; omega
theorem flatO_app (l m : List (Int × Int)) : flatO (l ++ m) = flatO l ++ flatO m := List.flatMap_append
theorem flatO_at (l : List (Int × Int)) (j : Nat) (hj : j < l.length) : (flatO l)[j * 2]? = some (.int .i64 (l.getD j (0, 0)).1) ∧ (flatO l)[j * 2 + 1]? = some (.int .i64 (l.getD j (0, 0)).2) := by
  induction l generalizing j with
  | nil => cases hj
  | cons a l ih =>
    cases j with
    | zero => exact ⟨rfl, rfl⟩
    | succ j =>
      have q := ih j (by simpa using hj)
      rw [show (j + 1) * 2 = j * 2 + 2 by omega, show j * 2 + 2 + 1 = j * 2 + 1 + 2 by omega]
      exact q
theorem flatO_one (l : List (Int × Int)) : ∀ u ∈ flatO l, u.oneCell' = true := fun u hu => by
  unfold flatO at hu
  rw [List.mem_flatMap] at hu
  obtain ⟨o, -, hu⟩ := hu
  simp [opV] at hu
  rcases hu with rfl | rfl <;> rfl
theorem flatO_cell {w : World} {b o : Nat} {l : List (Int × Int)} (h1 : ∀ j, j < l.length → w.cell? ⟨b, o + j * 2, none⟩ = some (.int .i64 (l.getD j (0, 0)).1)) (h2 : ∀ j, j < l.length → w.cell? ⟨b, o + j * 2 + 1, none⟩ = some (.int .i64 (l.getD j (0, 0)).2)) : ∀ j u, (flatO l)[j]? = some u → w.cell? ⟨b, o + j, none⟩ = some u := by
  intro j u hu
  have hj := (List.getElem?_eq_some_iff.1 hu).1
  rw [flatO_len] at hj
  obtain ⟨q, rfl | rfl⟩ : ∃ q, j = q * 2 ∨ j = q * 2 + 1 := ⟨j / 2, by omega⟩
  · rw [(flatO_at l q (by omega)).1] at hu
    rw [← hu]; exact h1 q (by omega)
  · rw [(flatO_at l q (by omega)).2] at hu
    rw [← hu, show o + (q * 2 + 1) = o + q * 2 + 1 by omega]; exact h2 q (by omega)
theorem own_bel {w w' : World} {base : Nat} {e : TypeId} {size : Nat} {v : Value} {n : Nat} {xs : List Value} (h : w.ownsRow base e size v n xs) (hb : Below w.heap.size w w') : w'.ownsRow base e size v n xs := own_stays h (fun b e => hb.block b (h.lt b e).2)
theorem below_grown {w w' : World} (h : w.grownBy w' none) : Below w.heap.size w w' :=
  ⟨h.os, h.tape, h.output, h.size, fun k hk => h.block k hk (fun e => by cases e)⟩
theorem addr_add (b off j : Nat) : (⟨b, off, none⟩ : Addr).add j = ⟨b, off + j, none⟩ := Addr.add_lit b off j
/-- append(nil, row...) -/
theorem run_copy {t e : TypeId} {i : TypeInfo} {z : Value} {size bytes : Nat} (ht : Try.prog.underlying t = some (.slice e)) (hi : Try.prog.info? e = some i) (hz : i.zero = some z) (hsize : i.size = size) (hby : i.bytes = bytes) (hzs : z.cells.size = size) (hsz : 0 < size)
    (si : Option Addr) (n ci : Nat) (news : List Value) (w : World) (hl : news.length = n * size) (hc : 0 < n → ∃ b off, si = some ⟨b, off, none⟩ ∧ ∀ j u, news[j]? = some u → w.cell? ⟨b, off + j, none⟩ = some u) (h1 : ∀ u ∈ news, u.oneCell' = true) (h63 : n ≤ maxLen) (hbytes : n * bytes ≤ 140737488355328)
    (hnil : (Builtin.append_ #[t, t] t #[.slice none 0 0, .slice none 0 ci]).run Try.prog w = .ok (.slice none 0 0) w) :
    ∃ ao c w', (Builtin.append_ #[t, t] t #[.slice none 0 0, .slice si n ci]).run Try.prog w = .ok (.slice ao n c) w' ∧ w'.ownsRow w.heap.size e size (.slice ao n c) n news ∧ Below w.heap.size w w' := by
  have made0 : w.ownsRow w.heap.size e size (.slice none 0 0) 0 [] := World.ownsRow_nil _ _ _ _
  have fin : ∀ v' w', (Builtin.append_ #[t, t] t #[.slice none 0 0, .slice si n ci]).run Try.prog w = .ok v' w' → w'.ownsRow w.heap.size e size v' (0 + n) ([] ++ news) → w.grownBy w' none → ∃ ao c w', (Builtin.append_ #[t, t] t #[.slice none 0 0, .slice si n ci]).run Try.prog w = .ok (.slice ao n c) w' ∧ w'.ownsRow w.heap.size e size (.slice ao n c) n news ∧ Below w.heap.size w w' := by
    intro v' w' h1 h2 h3
    rw [Nat.zero_add] at h2
    obtain ⟨ao, c, rfl⟩ := own_any h2
    exact ⟨ao, c, w', h1, by simpa using h2, below_grown h3⟩
  rcases Nat.eq_zero_or_pos n with rfl | hp
  · have hn0 : news = [] := List.length_eq_zero_iff.1 (by rw [hl]; omega)
    subst hn0
    cases si with
    | none => exact ⟨none, 0, w, hnil, made0, Below.refl _ _⟩
    | some ad =>
      obtain ⟨v', w', h1, h2, h3, -, -⟩ := run_append_own_at (P := Try.prog) w w.heap.size t t e i z size bytes ht hi hz hsize hby hzs hsz (.slice none 0 0) 0 [] made0 ad 0 ci [] (by simp) (fun j u hu => by simp at hu) (fun u hu => by simp at hu) (by decide) (by simp) (Nat.le_refl _)
      exact fin v' w' h1 h2 h3
  · obtain ⟨b, off, rfl, hcc⟩ := hc hp
    obtain ⟨v', w', h1, h2, h3, -, -⟩ := run_append_own_at (P := Try.prog) w w.heap.size t t e i z size bytes ht hi hz hsize hby hzs hsz (.slice none 0 0) 0 [] made0 ⟨b, off, none⟩ n ci news hl (fun j u hu => by rw [addr_add]; exact hcc j u hu) h1
      (by rw [Nat.zero_add]; exact h63) (by rw [Nat.zero_add]; exact hbytes) (Nat.le_refl _)
    exact fin v' w' h1 h2 h3
theorem step_copy {t e : TypeId} {i : TypeInfo} {z : Value} {size bytes : Nat} {w : World} {ops : Array Oper} {o : Oper} {a : Act} {K : Act → World → Prop} {Q : Exit → Act → World → Prop} {E : Prop} (hgd : o.guard = none) (s x : Operand)
    (ho : o.op = .call { callee := .builtin .append, args := #[s, x], argTypes := #[t, t] }) (hty : o.type = t) (ht : Try.prog.underlying t = some (.slice e)) (hi : Try.prog.info? e = some i) (hz : i.zero = some z) (hsize : i.size = size) (hby : i.bytes = bytes) (hzs : z.cells.size = size) (hsz : 0 < size)
    (si : Option Addr) (n ci : Nat) (news : List Value) (hs : a.eval s = .slice none 0 0) (hx : a.eval x = .slice si n ci) (hl : news.length = n * size) (hc : 0 < n → ∃ b off, si = some ⟨b, off, none⟩ ∧ ∀ j u, news[j]? = some u → w.cell? ⟨b, off + j, none⟩ = some u) (h1 : ∀ u ∈ news, u.oneCell' = true) (h63 : n ≤ maxLen) (hbytes : n * bytes ≤ 140737488355328)
    (hnil : ∀ W, (Builtin.append_ #[t, t] t #[.slice none 0 0, .slice none 0 ci]).run Try.prog W = .ok (.slice none 0 0) W)
    (h : ∀ ao c w', w'.ownsRow w.heap.size e size (.slice ao n c) n news → Below w.heap.size w w' → K (a.put o.dst (.slice ao n c)) w') : if Region.wanted o (yielded ops a.tmps) = true then Oper.wp Try.prog o a w K Q else E := by
  have hw : Region.wanted o (yielded ops a.tmps) = true := by simp [Region.wanted, hgd]
  rw [if_pos hw]
  obtain ⟨ao, c, w', q1, q2, q3⟩ := run_copy ht hi hz hsize hby hzs hsz si n ci news w hl hc h1 h63 hbytes (hnil w)
  unfold Oper.wp execOp
  simp only [ho, hty, resolve, invoke, builtin, Sem.run_bind, Sem.run_pure, Result.andThen_ok, List.map_toArray, List.map_cons, List.map_nil, hs, hx, q1]
  exact h ao c w' q2 q3
theorem nil79 (ci : Nat) (W : World) : (Builtin.append_ #[79, 79] 79 #[.slice none 0 0, .slice none 0 ci]).run Try.prog W = .ok (.slice none 0 0) W := by
  obtain ⟨i, hi, hz, hs, hb⟩ := info_parts info57
  simp [Builtin.append_, run_underlying Try.underlying79, sizeOf, typeInfo, hi, Builtin.lenOf, Builtin.firstCells]
theorem info3' : (Try.prog.info? 3).map (fun i => (i.zero, i.size, i.bytes)) = some (some (.int .i64 0), 1, 8) := by kernel_rfl
theorem nil68 (ci : Nat) (W : World) : (Builtin.append_ #[68, 68] 68 #[.slice none 0 0, .slice none 0 ci]).run Try.prog W = .ok (.slice none 0 0) W := by
  obtain ⟨i, hi, hz, hs, hb⟩ := info_parts info3'
  simp [Builtin.append_, run_underlying Try.underlying68, sizeOf, typeInfo, hi, Builtin.lenOf, Builtin.firstCells]

/-- lent ops: their numbers, and a mark behind -/
def LentAt (l : List (Int × Int)) (v : Value) (base : Nat) (W : World) : Prop :=
  ∃ g c, v = .slice (some ⟨g, 0, none⟩) l.length c ∧ W.ownsRow base 57 2 (.slice (some ⟨g, 0, none⟩) (l.length + 1) c) (l.length + 1) (flatO (l ++ [(0, 771)]))
theorem own_cap {w : World} {base : Nat} {e : TypeId} {size g n cap : Nat} {xs : List Value} (h : w.ownsRow base e size (.slice (some ⟨g, 0, none⟩) n cap) n xs) : n ≤ cap := by
  rcases h.2 with ⟨q, _⟩ | ⟨g', cap', cur, hv, h2, h3, h4, _⟩
  · cases q
  · obtain ⟨rfl, rfl⟩ : g = g' ∧ cap = cap' := by (injection hv with e1 e2 e3; injection e1 with e1; injection e1 with e1; exact ⟨e1, e3⟩)
    exact h4
theorem own_type {w : World} {base base' : Nat} {e e' : TypeId} {size size' g g' n n' cap cap' : Nat} {xs xs' : List Value} (h : w.ownsRow base e size (.slice (some ⟨g, 0, none⟩) n cap) n xs) (h' : w.ownsRow base' e' size' (.slice (some ⟨g', 0, none⟩) n' cap') n' xs') (hne : e ≠ e') : g ≠ g' := by
  intro eg
  subst eg
  rcases h.2 with ⟨q, _⟩ | ⟨g1, cap1, cur, hv, h2, h3, h4⟩
  · cases q
  · rcases h'.2 with ⟨q, _⟩ | ⟨g2, cap2, cur2, hv2, i2, i3, i4⟩
    · cases q
    · have e1 : g = g1 := by (injection hv with e1 e2 e3; injection e1 with e1; injection e1 with e1)
      have e2 : g = g2 := by (injection hv2 with e1 e2 e3; injection e1 with e1; injection e1 with e1)
      rw [← e1] at h3
      rw [← e2] at i3
      rw [h3] at i3
      injection i3 with i3
      injection i3 with i3 i4
      exact hne i4
theorem LentAt.below {l : List (Int × Int)} {v : Value} {base : Nat} {W W' : World} (h : LentAt l v base W) (hb : Below W.heap.size W W') : LentAt l v base W' := by
  obtain ⟨g, c, e, own⟩ := h
  exact ⟨g, c, e, own_bel own hb⟩
/-- a row of slices grows: the lent ops stay -/
theorem lent_grow {W W' : World} {vm : Value} (hg : W.grownBy W' vm.ownBlock) {base' n : Nat} {ys : List Value} (own : W.ownsRow base' 79 1 vm n ys) {l : List (Int × Int)} {v : Value} {base : Nat} (h : LentAt l v base W) : LentAt l v base W' := by
  obtain ⟨g, c, e, h2⟩ := h
  refine ⟨g, c, e, own_stays h2 (fun b eb => ?_)⟩
  obtain rfl : g = b := Option.some.inj eb
  refine hg.block g (h2.lt g rfl).2 (fun eq => ?_)
  rcases own.2 with ⟨q, _⟩ | ⟨g1, cap1, cur, rfl, _⟩
  · rw [q] at eq; simp [Value.ownBlock] at eq
  · have e1 : g = g1 := by simpa [Value.ownBlock] using eq
    exact own_type h2 own (by decide) e1
/-- lent rows of ops, and a mark behind them -/
structure LentM (ops : Ops) (base M cM : Nat) (W : World) : Prop where
  row : ∃ vs z, W.ownsRow base 79 1 (.slice (some ⟨M, 0, none⟩) (ops.length + 1) cM) (ops.length + 1) (vs ++ [.slice (some ⟨z, 0, none⟩) 1 1]) ∧ vs.length = ops.length ∧ W.cell? ⟨z, 1, none⟩ = some (.int .i64 772) ∧
    ∀ j, j < ops.length → ∃ v, vs[j]? = some v ∧ LentAt (ops.getD j []) v base W
theorem LentM.below {ops : Ops} {base M cM : Nat} {W W' : World} (h : LentM ops base M cM W) (hb : Below W.heap.size W W') : LentM ops base M cM W' := by
  obtain ⟨vs, z, h1, h2, h3, h4⟩ := h.row
  refine ⟨vs, z, own_bel h1 hb, h2, cell_stay h3 (hb.block _ (World.block_lt_of_cell? W _ h3)), fun j hj => ?_⟩
  obtain ⟨v, hv, hl⟩ := h4 j hj
  exact ⟨v, hv, hl.below hb⟩
theorem lent_cells {l : List (Int × Int)} {g c base : Nat} {W : World} (own : W.ownsRow base 57 2 (.slice (some ⟨g, 0, none⟩) (l.length + 1) c) (l.length + 1) (flatO (l ++ [(0, 771)]))) : (∀ k, k < l.length → W.cell? ⟨g, k * 2, none⟩ = some (.int .i64 (l.getD k (0, 0)).1) ∧ W.cell? ⟨g, k * 2 + 1, none⟩ = some (.int .i64 (l.getD k (0, 0)).2)) ∧ W.cell? ⟨g, l.length * 2 + 1, none⟩ = some (.int .i64 771) := by
  have ll : (l ++ [((0 : Int), (771 : Int))]).length = l.length + 1 := by simp
  refine ⟨fun k hk => ?_, ?_⟩
  · have q := flatO_at (l ++ [((0 : Int), (771 : Int))]) k (by omega)
    rw [List.getD_eq_getElem?_getD, List.getElem?_append_left hk, ← List.getD_eq_getElem?_getD] at q
    exact ⟨(own.cellAt (k * 2) (by omega)).trans q.1, (own.cellAt (k * 2 + 1) (by omega)).trans q.2⟩
  · have q := (flatO_at (l ++ [((0 : Int), (771 : Int))]) l.length (by omega)).2
    rw [List.getD_eq_getElem?_getD, List.getElem?_append_right (Nat.le_refl _), Nat.sub_self] at q
    exact (own.cellAt (l.length * 2 + 1) (by omega)).trans q
theorem LentM.at {ops : Ops} {base M cM : Nat} {W : World} (h : LentM ops base M cM W) (i : Nat) (hi : i < ops.length) : ∃ g c, W.cell? ⟨M, i, none⟩ = some (.slice (some ⟨g, 0, none⟩) (ops.getD i []).length c) ∧ (ops.getD i []).length + 1 ≤ c ∧ (∀ k, k < (ops.getD i []).length → W.cell? ⟨g, k * 2, none⟩ = some (.int .i64 ((ops.getD i []).getD k (0, 0)).1) ∧ W.cell? ⟨g, k * 2 + 1, none⟩ = some (.int .i64 ((ops.getD i []).getD k (0, 0)).2)) ∧ W.cell? ⟨g, (ops.getD i []).length * 2 + 1, none⟩ = some (.int .i64 771) := by
  obtain ⟨vs, z, h1, h2, h3, h4⟩ := h.row
  obtain ⟨v, hv, g, c, rfl, own⟩ := h4 i hi
  refine ⟨g, c, ?_, own_cap own, (lent_cells own).1, (lent_cells own).2⟩
  rw [h1.cellAt i (by omega), List.getElem?_append_left (by omega), hv]
theorem LentM.mark {ops : Ops} {base M cM : Nat} {W : World} (h : LentM ops base M cM W) : ∃ z, W.cell? ⟨M, ops.length, none⟩ = some (.slice (some ⟨z, 0, none⟩) 1 1) ∧ ops.length + 1 ≤ cM ∧ W.cell? ⟨z, 1, none⟩ = some (.int .i64 772) := by
  obtain ⟨vs, z, h1, h2, h3, h4⟩ := h.row
  refine ⟨z, ?_, own_cap h1, h3⟩
  rw [h1.cellAt ops.length (by omega), List.getElem?_append_right (by omega), h2, Nat.sub_self]
  rfl
theorem OpsIn.lent {w : World} {ab ao : Nat} {ops : Ops} {rp : Nat → Option Addr} {rc rb ro : Nat → Nat} (h : OpsIn w ab ao ops rp rc rb ro) {base M cM : Nat} {W : World} (hm : LentM ops base M cM W) : ∃ rp' rc' rb' ro', OpsIn W M 0 ops rp' rc' rb' ro' := by
  have each : ∀ i, ∃ z : Nat × Nat, i < ops.length → (W.cell? ⟨M, i, none⟩ = some (.slice (some ⟨z.1, 0, none⟩) (ops.getD i []).length z.2) ∧ (∀ k, k < (ops.getD i []).length → W.cell? ⟨z.1, k * 2, none⟩ = some (.int .i64 ((ops.getD i []).getD k (0, 0)).1) ∧ W.cell? ⟨z.1, k * 2 + 1, none⟩ = some (.int .i64 ((ops.getD i []).getD k (0, 0)).2))) := by
    intro i
    by_cases hi : i < ops.length
    · obtain ⟨g, c, h1, -, h2, -⟩ := hm.at i hi
      exact ⟨(g, c), fun _ => ⟨h1, h2⟩⟩
    · exact ⟨(0, 0), fun h => absurd h hi⟩
  obtain ⟨f, hf⟩ := Classical.axiomOfChoice each
  refine ⟨fun i => some ⟨(f i).1, 0, none⟩, fun i => (f i).2, fun i => (f i).1, fun _ => 0, ⟨fun i hi => by rw [Nat.zero_add]; exact (hf i hi).1, fun i hi _ => rfl, fun i j hi hj => ?_, fun i j hi hj => ?_, h.wf, h.ml⟩⟩
  · rw [Nat.zero_add]; exact ((hf i hi).2 j hj).1
  · rw [Nat.zero_add]; exact ((hf i hi).2 j hj).2
end Go.Proofs.Ytimabgakemgldaa

namespace Go.Proofs.Ytimabgakemgldaa
open Go.ChangeShapes Go.WideShapes Go.ChangeAt Go.RowKit Go.Deep
set_option linter.unusedSimpArgs false
set_option linter.unusedVariables false

theorem hn31 (w : World) : ∀ j u, [Value.slice (some ⟨w.heap.size, 0, none⟩) 1 1][j]? = some u → ((w.alloc (.cells #[.int .i64 0, .int .i64 772] 57)).alloc (.cells #[.slice (some ⟨w.heap.size, 0, none⟩) 1 1] 79)).cell? ((⟨w.heap.size + 1, 0, none⟩ : Addr).add j) = some u := by
  intro j u hu
  rcases j with _ | j
  · simp at hu
    subst hu
    simp [go_sem]
  · simp at hu
theorem one31 (w : World) : ∀ u ∈ [Value.slice (some ⟨w.heap.size, 0, none⟩) 1 1], u.oneCell' = true := by
  intro u hu
  simp at hu
  subst hu
  rfl
set_option maxRecDepth 100000 in
set_option maxHeartbeats 8000000 in
theorem lent_c (pa : Option Addr) (ab ao oc : Nat) (ops : Ops) (rp : Nat → Option Addr) (rc rb ro : Nat → Nat) (w : World) (hpa : 0 < ops.length → pa = some ⟨ab, ao, none⟩) (hO : OpsIn w ab ao ops rp rc rb ro) (hn : ops.length ≤ 1048576) :
    Calls Try.prog 21 #[.slice pa ops.length oc] w fun e w' => (∃ M cM, e = .returned (.slice (some ⟨M, 0, none⟩) ops.length cM) ∧ LentM ops w.heap.size M cM w') ∧ Below w.heap.size w w' := by
  obtain ⟨i57, hi57, hz57, hs57, hb57⟩ := info_parts info57
  obtain ⟨i79, hi79, hz79, hs79, hb79⟩ := info_parts info79
  have HO := hide hO
  have HPA := hide hpa
  clear hO hpa
  go_enter Try.func21, Try.ntmps21
  go_wp2_with fail
  go_loopw [3, 4] (fun v3 v4 wr => ∃ (i : Nat) (vs : List Value), i ≤ ops.length ∧ v4 = .int .i64 (i : Int) ∧ vs.length = i ∧ wr.ownsRow w.heap.size 79 1 v3 i vs ∧ (∀ j, j < i → ∃ v, vs[j]? = some v ∧ LentAt (ops.getD j []) v w.heap.size wr) ∧ Below w.heap.size w wr) (fun _ v4 _ => ops.length - (intOf v4).toNat)
  case atStart => exact ⟨0, [], Nat.zero_le _, rfl, rfl, World.ownsRow_nil _ _ _ _, fun j h => by omega, Below.refl _ _⟩
  case round =>
    obtain ⟨i, vs, hi, rfl, hvl, own, hla, hbw⟩ := hrel
    have HM := hide own
    have HLA := hide hla
    have HBW := hide hbw
    have HVL := hide hvl
    have hi0' : (0 : Int) ≤ (i : Int) := by omega
    have hwr := hbw.size
    obtain ⟨v3, hv3⟩ : ∃ v3, v3 = u3 := ⟨u3, rfl⟩
    rw [← hv3] at HM ⊢
    clear own hla hbw hvl hv3
    by_cases hlt : i < ops.length
    · have hlt' : (i : Int) < (ops.length : Int) := by omega
      have OPW := HO.out.below HBW.out
      obtain rfl := HPA.out (by omega)
      have ck := OPW.row i hlt
      have HIR := hide (show ∀ V, Below wr.heap.size wr V → (0 < (ops.getD i []).length → ∃ b off, rp i = some ⟨b, off, none⟩ ∧ ∀ j u, (flatO (ops.getD i []))[j]? = some u → V.cell? ⟨b, off + j, none⟩ = some u) from fun V hV h0 =>
        ⟨rb i, ro i, OPW.adr i hlt h0, flatO_cell (fun j hj => (OPW.below hV).k i j hlt hj) (fun j hj => (OPW.below hV).x i j hlt hj)⟩)
      have hlb4 := OPW.ml i hlt
      obtain ⟨l, hl⟩ : ∃ l, l = ops.getD i [] := ⟨_, rfl⟩
      obtain ⟨si, hsi⟩ : ∃ si, si = rp i := ⟨_, rfl⟩
      obtain ⟨ci, hci⟩ : ∃ ci, ci = rc i := ⟨_, rfl⟩
      have HL := hide hl
      rw [← hl, ← hsi] at HIR
      rw [← hl] at hlb4
      rw [← hl, ← hsi, ← hci] at ck
      have hbz : ab < wr.heap.size := World.block_lt_of_cell? wr _ ck
      have hbn0 : ab ≠ wr.heap.size := Nat.ne_of_lt hbz
      have hbm0 : wr.heap.size ≠ ab := Ne.symm hbn0
      have hlb4' : (l.length : Int) ≤ 5864062014800 := by omega
      clear hl hsi hci OPW
      go_wp2_with fail
      go_region_law (first | (refine step_copy rfl (.const (.slice none 0 0)) (.tmp 15) rfl rfl Try.underlying79 hi57 hz57 hs57 hb57 rfl (by decide) si l.length ci (flatO l) (by simp [Act.eval, Act.put]) (by simp [Act.eval, Act.put]) (flatO_len l) (HIR.out _ (by (focus repeat' (first | (with_reducible exact Below.refl _ _) | (with_reducible assumption) | (with_reducible refine Below.alloc ?_ ?_ _) | (with_reducible refine Below.drew ?_) | (with_reducible refine bdrewN ?_ _) | (with_reducible refine Below.setCell ?_ ?_ _) | (first | (with_reducible exact Nat.le_refl _) | (with_reducible assumption) | omega | (simp; omega) | (simp; done)))))) (flatO_one l) (by unfold maxLen; omega) (by omega) (nil79 ci) ?_; intro a1 c1 w1 hown hbw1; have OX := hide (own_low hown (show wr.heap.size ≤ _ by (first | (simp; done) | (simp; omega)))); have hs1 := hbw1.size; (try simp only [World.size_drew, World.size_alloc] at hs1); have HB1 := hide (show Below wr.heap.size wr w1 from bstep (by (focus repeat' (first | (with_reducible exact Below.refl _ _) | (with_reducible assumption) | (with_reducible refine Below.alloc ?_ ?_ _) | (with_reducible refine Below.drew ?_) | (with_reducible refine bdrewN ?_ _) | (with_reducible refine Below.setCell ?_ ?_ _) | (first | (with_reducible exact Nat.le_refl _) | (with_reducible assumption) | omega | (simp; omega) | (simp; done))))) hbw1); have k1 : w1.cell? ⟨ab, ao + i, none⟩ = some (.slice si l.length ci) := cell_stay ck (HB1.out.block _ hbz); have k2 : _ → _ := (fun hlt => hbw1.cell (p := ⟨wr.heap.size, 0, none⟩) hlt); (try simp [go_sem] at k2); have k4 : _ → _ := (fun hlt => hbw1.cell (p := ⟨wr.heap.size, 1, none⟩) hlt); (try simp [go_sem] at k4); have hbs1 : wr.heap.size ≤ w1.heap.size := HB1.out.size; have hbl1 : ab < w1.heap.size := Nat.lt_of_lt_of_le hbz hbs1; have hbn1 : ab ≠ w1.heap.size := Nat.ne_of_lt hbl1; have hbm1 : w1.heap.size ≠ ab := Ne.symm hbn1; clear hown hbw1) | (refine step_append_lies _ rfl (.tmp 16) (.tmp 18) 79 rfl wr.heap.size 57 i57 (.agg #[.int .i64 0, .int .i64 0]) 2 16 Try.underlying79 hi57 hz57 hs57 hb57 rfl (by decide) (.slice a1 l.length c1) l.length (flatO l) (by simp [Act.eval, Act.put]) (own_bel OX.out (by (focus repeat' (first | (with_reducible exact Below.refl _ _) | (with_reducible assumption) | (with_reducible refine Below.alloc ?_ ?_ _) | (with_reducible refine Below.drew ?_) | (with_reducible refine bdrewN ?_ _) | (with_reducible refine Below.setCell ?_ ?_ _) | (first | (with_reducible exact Nat.le_refl _) | (with_reducible assumption) | omega | (simp; omega) | (simp; done)))))) _ 1 1 [.int .i64 0, .int .i64 771] rfl rfl (by intro j u hu; (rcases j with _ | _ | j <;> simp at hu); all_goals (subst hu; simp [go_sem, *])) (by intro u hu; simp at hu; rcases hu with rfl | rfl <;> rfl) (by decide) (by unfold maxLen; omega) (by omega) (by (first | (with_reducible exact Nat.le_refl _) | (with_reducible assumption) | omega | (simp; omega) | (simp; done))) _ rfl ?_; intro g2 c2 w2 hown2 hg2 hgg hgl; have OY := hide hown2; have hcap2 := own_cap hown2; have hc2 : l.length ≤ c2 := Nat.le_of_succ_le hcap2; have HB2 := hide (show Below wr.heap.size wr w2 from (show Below wr.heap.size wr _ from (HB1.out.trans (by (focus repeat' (first | (with_reducible exact Below.refl _ _) | (with_reducible assumption) | (with_reducible refine Below.alloc ?_ ?_ _) | (with_reducible refine Below.drew ?_) | (with_reducible refine bdrewN ?_ _) | (with_reducible refine Below.setCell ?_ ?_ _) | (first | (with_reducible exact Nat.le_refl _) | (with_reducible assumption) | omega | (simp; omega) | (simp; done))))))).grown hg2 (by (first | (with_reducible exact Nat.le_refl _) | (with_reducible assumption) | omega | (simp; omega) | (simp; done))) (fun r e => (OX.out.lt r e).1)); have hs2 : wr.heap.size ≤ w2.heap.size := HB2.out.size; have hbl2 : ab < w2.heap.size := Nat.lt_of_lt_of_le hbz hs2; have hbn2 : ab ≠ w2.heap.size := Nat.ne_of_lt hbl2; have hbm2 : w2.heap.size ≠ ab := Ne.symm hbn2; have k3 : w2.cell? ⟨ab, ao + i, none⟩ = some (.slice si l.length ci) := cell_stay ck (HB2.out.block _ hbz); clear hown2 hg2 hgg) | (refine step_append_lies _ rfl (.tmp 11) (.tmp 26) 67 rfl w.heap.size 79 i79 (.slice none 0 0) 1 24 Try.underlying67 hi79 hz79 hs79 hb79 rfl (by decide) v3 i vs (by simp [Act.eval, Act.put]) (own_bel (own_bel HM.out HB2.out) (by (focus repeat' (first | (with_reducible exact Below.refl _ _) | (with_reducible assumption) | (with_reducible refine Below.alloc ?_ ?_ _) | (with_reducible refine Below.drew ?_) | (with_reducible refine bdrewN ?_ _) | (with_reducible refine Below.setCell ?_ ?_ _) | (first | (with_reducible exact Nat.le_refl _) | (with_reducible assumption) | omega | (simp; omega) | (simp; done)))))) ⟨w2.heap.size, 0, none⟩ 1 1 [.slice (some ⟨g2, 0, none⟩) l.length c2] (by simp [Act.eval, Act.put]) rfl (by intro j u hu; (rcases j with _ | j <;> simp at hu); subst hu; simp [go_sem, *]) (by intro u hu; simp at hu; subst hu; rfl) (by decide) (by unfold maxLen; omega) (by omega) (by (first | (with_reducible exact Nat.le_refl _) | (with_reducible assumption) | omega | (simp; omega) | (simp; done))) _ rfl ?_; intro g3 c3 w3 hown3 hg3 hgg3 hgl3; have OZ := hide hown3; have HLN := hide (show ∀ j, j < i → ∃ v, vs[j]? = some v ∧ LentAt (ops.getD j []) v w.heap.size w3 from fun j hj => (by obtain ⟨v, hv, hl⟩ := HLA.out j hj; exact ⟨v, hv, lent_grow hg3 (own_bel (own_bel HM.out HB2.out) (by (focus repeat' (first | (with_reducible exact Below.refl _ _) | (with_reducible assumption) | (with_reducible refine Below.alloc ?_ ?_ _) | (with_reducible refine Below.drew ?_) | (with_reducible refine bdrewN ?_ _) | (with_reducible refine Below.setCell ?_ ?_ _) | (first | (with_reducible exact Nat.le_refl _) | (with_reducible assumption) | omega | (simp; omega) | (simp; done)))))) ((hl.below HB2.out).below (by (focus repeat' (first | (with_reducible exact Below.refl _ _) | (with_reducible assumption) | (with_reducible refine Below.alloc ?_ ?_ _) | (with_reducible refine Below.drew ?_) | (with_reducible refine bdrewN ?_ _) | (with_reducible refine Below.setCell ?_ ?_ _) | (first | (with_reducible exact Nat.le_refl _) | (with_reducible assumption) | omega | (simp; omega) | (simp; done))))))⟩)); have HLI := hide (show LentAt l (.slice (some ⟨g2, 0, none⟩) l.length c2) w.heap.size w3 from lent_grow hg3 (own_bel (own_bel HM.out HB2.out) (by (focus repeat' (first | (with_reducible exact Below.refl _ _) | (with_reducible assumption) | (with_reducible refine Below.alloc ?_ ?_ _) | (with_reducible refine Below.drew ?_) | (with_reducible refine bdrewN ?_ _) | (with_reducible refine Below.setCell ?_ ?_ _) | (first | (with_reducible exact Nat.le_refl _) | (with_reducible assumption) | omega | (simp; omega) | (simp; done)))))) (LentAt.below (W := w2) ⟨g2, c2, rfl, own_low (by (rw [flatO_app]; exact OY.out)) hwr⟩ (by (focus repeat' (first | (with_reducible exact Below.refl _ _) | (with_reducible assumption) | (with_reducible refine Below.alloc ?_ ?_ _) | (with_reducible refine Below.drew ?_) | (with_reducible refine bdrewN ?_ _) | (with_reducible refine Below.setCell ?_ ?_ _) | (first | (with_reducible exact Nat.le_refl _) | (with_reducible assumption) | omega | (simp; omega) | (simp; done))))))); have HB3 := hide (show Below w.heap.size w w3 from (show Below w.heap.size w _ from ((HBW.out.trans (HB2.out.mono hwr)).trans (by (focus repeat' (first | (with_reducible exact Below.refl _ _) | (with_reducible assumption) | (with_reducible refine Below.alloc ?_ ?_ _) | (with_reducible refine Below.drew ?_) | (with_reducible refine bdrewN ?_ _) | (with_reducible refine Below.setCell ?_ ?_ _) | (first | (with_reducible exact Nat.le_refl _) | (with_reducible assumption) | omega | (simp; omega) | (simp; done))))))).grown hg3 (by (first | (with_reducible exact Nat.le_refl _) | (with_reducible assumption) | omega | (simp; omega) | (simp; done))) (fun r e => (HM.out.lt r e).1)); clear hown3 hg3 hgg3))
      all_goals
        go_wp2_with fail
        go_roundw
        case rel =>
          refine ⟨i + 1, vs ++ [.slice (some ⟨g2, 0, none⟩) l.length c2], by omega, by go_num, by rw [List.length_append, HVL.out]; rfl, OZ.out, fun j hj => ?_, HB3.out⟩
          rcases Nat.lt_or_ge j i with h3 | h3
          · obtain ⟨v, hv, hl⟩ := HLN.out j h3
            exact ⟨v, by (rw [List.getElem?_append_left (by rw [HVL.out]; exact h3)]; exact hv), hl⟩
          · obtain rfl : j = i := by omega
            exact ⟨_, by (rw [List.getElem?_append_right (by rw [HVL.out]; exact Nat.le_refl _), HVL.out, Nat.sub_self]; rfl), by rw [← HL.out]; exact HLI.out⟩
        case measure => (first | (simp [intOf]; done) | (simp [intOf]; omega))
    · obtain rfl : i = ops.length := by omega
      have q1 : ops.length + 1 ≤ maxLen := by unfold maxLen; omega
      have q2 : (ops.length + 1) * 24 ≤ 140737488355328 := by omega
      have q3 : w.heap.size ≤ ((wr.alloc (.cells #[.int .i64 0, .int .i64 772] 57)).alloc (.cells #[.slice (some ⟨wr.heap.size, 0, none⟩) 1 1] 79)).heap.size := by (simp; omega)
      have HBW2 := hide ((HBW.out.alloc HBW.out.size (.cells #[.int .i64 0, .int .i64 772] 57)).alloc (by (simp; omega)) (.cells #[.slice (some ⟨wr.heap.size, 0, none⟩) 1 1] 79))
      have HC43 := hide (show ((wr.alloc (.cells #[.int .i64 0, .int .i64 772] 57)).alloc (.cells #[.slice (some ⟨wr.heap.size, 0, none⟩) 1 1] 79)).cell? ⟨wr.heap.size, 1, none⟩ = some (.int .i64 772) from by simp [go_sem])
      go_wp2_with (at_builtin; (refine wpList_append_lies _ rfl _ _ 67 rfl w.heap.size 79 i79 (.slice none 0 0) 1 24 Try.underlying67 hi79 hz79 hs79 hb79 rfl (by decide) v3 ops.length vs rfl (own_bel HM.out (((Below.refl wr.heap.size wr).alloc (Nat.le_refl _) (.cells #[.int .i64 0, .int .i64 772] 57)).alloc (by simp) (.cells #[.slice (some ⟨wr.heap.size, 0, none⟩) 1 1] 79))) ⟨wr.heap.size + 1, 0, none⟩ 1 1 [.slice (some ⟨wr.heap.size, 0, none⟩) 1 1] rfl rfl (hn31 wr) (one31 wr) Nat.zero_lt_one q1 q2 q3 _ rfl ?_; intro g3 c3 w3 hown3 hg3 hgg3 hgl3; have hc3 : ops.length ≤ c3 := Nat.le_of_succ_le (own_cap hown3); have OZ := hide hown3; have GZ := hide hg3; clear hown3 hg3 hgg3 q1 q2 q3))
      have hbn : Below wr.heap.size wr ((wr.alloc (.cells #[.int .i64 0, .int .i64 772] 57)).alloc (.cells #[.slice (some ⟨wr.heap.size, 0, none⟩) 1 1] 79)) := ((Below.refl _ _).alloc (Nat.le_refl _) _).alloc (by simp) _
      refine bodyPost_ret (v := .slice (some ⟨g3, 0, none⟩) ops.length c3) (by simp [results, Try.f21, go_sem]) rfl ⟨⟨g3, c3, rfl, ⟨vs, wr.heap.size, OZ.out, HVL.out, ?_, fun j hj => ?_⟩⟩, ?_⟩
      · refine GZ.out.cell HC43.out (fun e => ?_)
        exact absurd (HM.out.lt wr.heap.size e.symm).2 (Nat.lt_irrefl _)
      · obtain ⟨v, hv, hl⟩ := HLA.out j hj
        exact ⟨v, hv, lent_grow GZ.out (own_bel HM.out hbn) (hl.below hbn)⟩
      · exact HBW2.out.grown GZ.out (by simp; omega) (fun r e => (HM.out.lt r e).1)
end Go.Proofs.Ytimabgakemgldaa

namespace Go.Proofs.Ytimabgakemgldaa
open Go.ChangeShapes Go.WideShapes Go.ChangeAt Go.RowKit Go.Deep
set_option linter.unusedSimpArgs false
set_option linter.unusedVariables false

theorem flds57 : (Try.prog.fieldsOf 57).toList.map (fun f => (f.type, f.offset)) = [(55, 0), (2, 1)] := by kernel_rfl
theorem same57 (a x : Int) (w : World) : (Op.equalIn 10000 57 (.agg #[.int .i64 a, .int .i64 x]) (.agg #[.int .i64 a, .int .i64 x])).run Try.prog w = .ok true w := by
  refine eqAgg_self w 9999 57 _ _ (by kernel_rfl) (by kernel_rfl) flds57 (fun y hy => ?_)
  simp only [List.mem_cons, List.not_mem_nil, or_false] at hy
  rcases hy with rfl | rfl
  · exact ⟨.int .i64 a, by kernel_rfl, by rw [run_equalIn_int w 9998 55 .i64 .i64 a a (by kernel_rfl)]; simp⟩
  · exact ⟨.int .i64 x, by kernel_rfl, by rw [run_equalIn_int w 9998 2 .i64 .i64 x x Try.underlying2]; simp⟩
theorem op_neq (a x : Int) (w : World) : Sem.run Try.prog (binOp .neq 57 (.agg #[.int .i64 a, .int .i64 x]) (.agg #[.int .i64 a, .int .i64 x])) w = .ok (.bool false) w := by
  rw [run_neq_struct, same57]; rfl
set_option maxRecDepth 100000 in
set_option maxHeartbeats 8000000 in
theorem left_c (pa : Option Addr) (ab ao oc : Nat) (ops : Ops) (rp : Nat → Option Addr) (rc rb ro : Nat → Nat) (base M cM : Nat) (w : World) (hpa : 0 < ops.length → pa = some ⟨ab, ao, none⟩) (hO : OpsIn w ab ao ops rp rc rb ro) (hm : LentM ops base M cM w) (hn : ops.length ≤ 1048576) :
    Calls Try.prog 25 #[.slice (some ⟨M, 0, none⟩) ops.length cM, .slice pa ops.length oc] w fun e w' => e = .returned (.bool true) ∧ Below w.heap.size w w' := by
  have HO := hide hO
  have HPA := hide hpa
  have HM := hide hm
  have hcM : ops.length + 1 ≤ cM := by obtain ⟨z, _, h, _⟩ := hm.mark; exact h
  clear hO hm hpa
  go_enter Try.func25, Try.ntmps25
  go_wp2_with fail
  go_loopw [5] (fun v5 wr => ∃ i : Nat, i ≤ ops.length ∧ v5 = .int .i64 (i : Int) ∧ Below w.heap.size w wr) (fun v5 _ => ops.length - (intOf v5).toNat)
  case atStart => exact ⟨0, Nat.zero_le _, rfl, Below.refl _ _⟩
  case round =>
    obtain ⟨i, hi, rfl, hbw⟩ := hrel
    have HBW := hide hbw
    have hi0 : (0 : Int) ≤ (i : Int) := by omega
    clear hbw
    by_cases hlt : i < ops.length
    · have hlt' : (i : Int) < (ops.length : Int) := by omega
      have OPW := HO.out.below HBW.out
      obtain rfl := HPA.out (by omega)
      have cb := OPW.row i hlt
      obtain ⟨g, c, cm, hc, hcs, hmk⟩ := (HM.out.below HBW.out).at i hlt
      have HRW := hide (show ∀ V, Below wr.heap.size wr V → ∀ k, k < (ops.getD i []).length → ∃ b2 off2, rp i = some ⟨b2, off2, none⟩ ∧ V.cell? ⟨b2, off2 + k * 2, none⟩ = some (.int .i64 ((ops.getD i []).getD k (0, 0)).1) ∧ V.cell? ⟨b2, off2 + k * 2 + 1, none⟩ = some (.int .i64 ((ops.getD i []).getD k (0, 0)).2) from fun V hV k hk =>
        ⟨rb i, ro i, OPW.adr i hlt (by omega), (OPW.below hV).k i k hlt hk, (OPW.below hV).x i k hlt hk⟩)
      have HCS := hide hcs
      have hlb := OPW.ml i hlt
      clear hcs OPW
      obtain ⟨xs, hxs⟩ : ∃ xs, xs = ops.getD i [] := ⟨_, rfl⟩
      obtain ⟨si, hsi⟩ : ∃ si, si = rp i := ⟨_, rfl⟩
      obtain ⟨ci, hci⟩ : ∃ ci, ci = rc i := ⟨_, rfl⟩
      rw [← hxs, ← hsi] at HRW
      rw [← hxs, ← hsi, ← hci] at cb
      rw [← hxs] at HCS hlb cm hc hmk
      have HXS := hide hxs
      clear hxs hsi hci
      have e1 : decide ((xs.length : Int) = (xs.length : Int)) = true := by simp
      have e2 : ((xs.length : Int) == (xs.length : Int)) = true := by simp
      have e3 : ((xs.length : Int) != (xs.length : Int)) = false := by simp
      have e4 : ((xs.length + 1 : Nat) : Int) = (xs.length : Int) + 1 := by omega
      have e5 : ((xs.length : Int) + 1).toNat = xs.length + 1 := by omega
      have hc' : (xs.length : Int) + 1 ≤ (c : Int) := by omega
      have hcm' : (i : Int) < (cM : Int) := by omega
      go_wp2_with fail
      obtain ⟨wo, hwo⟩ : ∃ q : World, q = wr := ⟨wr, rfl⟩
      subst hwo
      go_loopw [7] (fun v7 wk => ∃ k : Nat, k ≤ xs.length ∧ v7 = .int .i64 (k : Int) ∧ Below wo.heap.size wo wk) (fun v7 _ => xs.length - (intOf v7).toNat)
      case atStart => exact ⟨0, Nat.zero_le _, rfl, by (focus repeat' (first | (with_reducible exact Below.refl _ _) | (with_reducible assumption) | (with_reducible refine Below.alloc ?_ ?_ _) | (with_reducible refine Below.drew ?_) | (with_reducible refine bdrewN ?_ _) | (with_reducible refine Below.setCell ?_ ?_ _) | (first | (with_reducible exact Nat.le_refl _) | (with_reducible assumption) | omega | (simp; omega) | (simp; done))))⟩
      case round =>
        obtain ⟨k, hk, rfl, hbk⟩ := hrel
        have HBK := hide hbk
        have cb2 : wr.cell? ⟨ab, ao + i, none⟩ = some (.slice si xs.length ci) := cell_stay cb (hbk.block _ (World.block_lt_of_cell? wo _ cb))
        have cm2 : wr.cell? ⟨M, i, none⟩ = some (.slice (some ⟨g, 0, none⟩) xs.length c) := cell_stay cm (hbk.block _ (World.block_lt_of_cell? wo _ cm))
        have hk0 : (0 : Int) ≤ (k : Int) := by omega
        clear hbk
        by_cases hkl : k < xs.length
        · have hkl' : (k : Int) < (xs.length : Int) := by omega
          obtain ⟨b2, off2, rfl, ck1, ck2⟩ := HRW.out _ HBK.out k hkl
          have gc := HCS.out k hkl
          have cg1 := cell_stay gc.1 (HBK.out.block _ (World.block_lt_of_cell? wo _ gc.1))
          have cg2 := cell_stay gc.2 (HBK.out.block _ (World.block_lt_of_cell? wo _ gc.2))
          obtain ⟨x, hx⟩ : ∃ x, x = (xs.getD k (0, 0)).1 := ⟨_, rfl⟩
          obtain ⟨y, hy⟩ : ∃ y, y = (xs.getD k (0, 0)).2 := ⟨_, rfl⟩
          rw [← hx] at ck1 cg1
          rw [← hy] at ck2 cg2
          have hne := op_neq x y
          clear hx hy gc
          go_wp2_with fail
          go_quiet (fail)
          go_wp2_with fail
          go_roundw
          case rel => exact ⟨k + 1, by omega, by go_num, by (have := HBK.out; (focus repeat' (first | (with_reducible exact Below.refl _ _) | (with_reducible assumption) | (with_reducible refine Below.alloc ?_ ?_ _) | (with_reducible refine Below.drew ?_) | (with_reducible refine bdrewN ?_ _) | (with_reducible refine Below.setCell ?_ ?_ _) | (first | (with_reducible exact Nat.le_refl _) | (with_reducible assumption) | omega | (simp; omega) | (simp; done)))))⟩
          case measure => (first | (simp [intOf]; done) | (simp [intOf]; omega))
        · obtain rfl : k = xs.length := by omega
          go_wp2_with fail
          go_roundw
          case rel => exact ⟨i + 1, by omega, by go_num, bstep HBW.out HBK.out⟩
          case measure => (first | (simp [intOf]; done) | (simp [intOf]; omega))
    · obtain rfl : i = ops.length := by omega
      obtain ⟨z, z1, z2, z3⟩ := (HM.out.below HBW.out).mark
      have e4 : ((ops.length + 1 : Nat) : Int) = (ops.length : Int) + 1 := by omega
      have e5 : ((ops.length : Int) + 1).toNat = ops.length + 1 := by omega
      have hc' : (ops.length : Int) + 1 ≤ (cM : Int) := by omega
      go_wp2_with fail
      refine bodyPost_ret (v := .bool true) (by simp [results, Try.f25, go_sem]) rfl ⟨rfl, HBW.out⟩
end Go.Proofs.Ytimabgakemgldaa

namespace Go.Proofs.Ytimabgakemgldaa
open Go.ChangeShapes Go.WideShapes Go.ChangeAt Go.RowKit Go.Deep
set_option linter.unusedSimpArgs false
set_option linter.unusedVariables false

/-- answers as they are read -/
structure OutR (w : World) (v : Value) (n : Nat) (did : Nat → List (Int × Bool × Int)) : Prop where
  val : ∃ p c, v = .slice p n c
  row : ∀ i, i < n → ∃ b o c dp dc, v = .slice (some ⟨b, o, none⟩) n c ∧ w.cell? ⟨b, o + i, none⟩ = some (.slice dp (did i).length dc) ∧ ∀ k, k < (did i).length → ∃ g q, dp = some ⟨g, q, none⟩ ∧ w.cell? ⟨g, q + k * 3, none⟩ = some (.int .i64 ((did i).getD k (0, false, 0)).1) ∧ w.cell? ⟨g, q + k * 3 + 1, none⟩ = some (.bool ((did i).getD k (0, false, 0)).2.1) ∧ w.cell? ⟨g, q + k * 3 + 2, none⟩ = some (.int .i64 ((did i).getD k (0, false, 0)).2.2)
  ml : ∀ i, i < n → (did i).length ≤ 4503599627370496
  ln : n ≤ 4503599627370496
theorem OutR.stays {w w' : World} {v : Value} {n : Nat} {did : Nat → List (Int × Bool × Int)} (h : OutR w v n did) {S : Nat → Prop} (hs : ∀ b, S b → w'.heap[b]? = w.heap[b]?) (h1 : ∀ b, v.ownBlock = some b → S b) (h2 : ∀ i, i < n → ∀ b o c u g q, v = .slice (some ⟨b, o, none⟩) n c → w.cell? ⟨b, o + i, none⟩ = some u → u.ownBlock = some g → q = g → S q) : OutR w' v n did := by
  refine ⟨h.val, fun i hi => ?_, h.ml, h.ln⟩
  obtain ⟨b, o, c, dp, dc, e, c1, c2⟩ := h.row i hi
  refine ⟨b, o, c, dp, dc, e, cell_stay c1 (hs b (h1 b (by rw [e]; rfl))), fun k hk => ?_⟩
  obtain ⟨g, q, e2, x1, x2, x3⟩ := c2 k hk
  have hg := hs g (h2 i hi b o c _ g g e c1 (by rw [e2]; rfl) rfl)
  exact ⟨g, q, e2, cell_stay x1 hg, cell_stay x2 hg, cell_stay x3 hg⟩
theorem OutR.below {w w' : World} {v : Value} {n : Nat} {did : Nat → List (Int × Bool × Int)} (h : OutR w v n did) (hb : Below w.heap.size w w') : OutR w' v n did := by
  refine ⟨h.val, fun i hi => ?_, h.ml, h.ln⟩
  obtain ⟨b, o, c, dp, dc, e, c1, c2⟩ := h.row i hi
  refine ⟨b, o, c, dp, dc, e, cell_stay c1 (hb.block _ (World.block_lt_of_cell? w _ c1)), fun k hk => ?_⟩
  obtain ⟨g, q, e2, x1, x2, x3⟩ := c2 k hk
  have hg := hb.block g (World.block_lt_of_cell? w _ x1)
  exact ⟨g, q, e2, cell_stay x1 hg, cell_stay x2 hg, cell_stay x3 hg⟩
set_option maxRecDepth 100000 in
set_option maxHeartbeats 8000000 in
theorem Same_c (va vb : Value) (n : Nat) (did : Nat → List (Int × Bool × Int)) (w : World) (ha : OutR w va n did) (hb : OutR w vb n did) :
    Calls Try.prog 24 #[va, vb] w fun e w' => e = .returned (.bool true) ∧ Below w.heap.size w w' := by
  have HA := hide ha
  have HB := hide hb
  obtain ⟨pa, ca, rfl⟩ := ha.val
  obtain ⟨pb, cb, rfl⟩ := hb.val
  have hln : (n : Int) ≤ 4503599627370496 := by have := ha.ln; omega
  clear ha hb
  go_enter Try.func24, Try.ntmps24
  go_wp2_with fail
  go_loopw [5] (fun v5 wr => ∃ i : Nat, i ≤ n ∧ v5 = .int .i64 (i : Int) ∧ Below w.heap.size w wr) (fun v5 _ => n - (intOf v5).toNat)
  case atStart => exact ⟨0, Nat.zero_le _, rfl, Below.refl _ _⟩
  case round =>
    obtain ⟨i, hi, rfl, hbw⟩ := hrel
    have HBW := hide hbw
    have hi0 : (0 : Int) ≤ (i : Int) := by omega
    clear hbw
    by_cases hlt : i < n
    · have hlt' : (i : Int) < (n : Int) := by omega
      obtain ⟨b, o, c, dp, dc, e1, a1, a2⟩ := (HA.out.below HBW.out).row i hlt
      obtain ⟨b', o', c', dp', dc', e2, b1, b2⟩ := (HB.out.below HBW.out).row i hlt
      injection e1 with e1 _ ec1
      injection e2 with e2 _ ec2
      subst e1 e2 ec1 ec2
      have hml := HA.out.ml i hlt
      have AC := hide (show ∀ V, Below wr.heap.size wr V → ∀ k, k < (did i).length → ∃ g q, dp = some ⟨g, q, none⟩ ∧ V.cell? ⟨g, q + k * 3, none⟩ = some (.int .i64 ((did i).getD k (0, false, 0)).1) ∧ V.cell? ⟨g, q + k * 3 + 1, none⟩ = some (.bool ((did i).getD k (0, false, 0)).2.1) ∧ V.cell? ⟨g, q + k * 3 + 2, none⟩ = some (.int .i64 ((did i).getD k (0, false, 0)).2.2) from fun V hV k hk => by
        obtain ⟨g, q, e, x1, x2, x3⟩ := a2 k hk
        have hg := hV.block g (World.block_lt_of_cell? wr _ x1)
        exact ⟨g, q, e, cell_stay x1 hg, cell_stay x2 hg, cell_stay x3 hg⟩)
      have BC := hide (show ∀ V, Below wr.heap.size wr V → ∀ k, k < (did i).length → ∃ g q, dp' = some ⟨g, q, none⟩ ∧ V.cell? ⟨g, q + k * 3, none⟩ = some (.int .i64 ((did i).getD k (0, false, 0)).1) ∧ V.cell? ⟨g, q + k * 3 + 1, none⟩ = some (.bool ((did i).getD k (0, false, 0)).2.1) ∧ V.cell? ⟨g, q + k * 3 + 2, none⟩ = some (.int .i64 ((did i).getD k (0, false, 0)).2.2) from fun V hV k hk => by
        obtain ⟨g, q, e, x1, x2, x3⟩ := b2 k hk
        have hg := hV.block g (World.block_lt_of_cell? wr _ x1)
        exact ⟨g, q, e, cell_stay x1 hg, cell_stay x2 hg, cell_stay x3 hg⟩)
      clear a2 b2
      obtain ⟨xs, hxs⟩ : ∃ xs, xs = did i := ⟨_, rfl⟩
      rw [← hxs] at AC BC a1 b1 hml
      clear hxs
      have e3 : ((xs.length : Int) != (xs.length : Int)) = false := by simp
      have e4 : decide ((xs.length : Int) = (xs.length : Int)) = true := by simp
      go_wp2_with fail
      go_quiet (fail)
      go_wp2_with fail
      obtain ⟨wo, hwo⟩ : ∃ q : World, q = wr := ⟨wr, rfl⟩
      subst hwo
      go_loopw [6] (fun v6 wk => ∃ k : Nat, k ≤ xs.length ∧ v6 = .int .i64 (k : Int) ∧ Below wo.heap.size wo wk) (fun v6 _ => xs.length - (intOf v6).toNat)
      case atStart => exact ⟨0, Nat.zero_le _, rfl, by (focus repeat' (first | (with_reducible exact Below.refl _ _) | (with_reducible assumption) | (with_reducible refine Below.alloc ?_ ?_ _) | (with_reducible refine Below.drew ?_) | (with_reducible refine bdrewN ?_ _) | (with_reducible refine Below.setCell ?_ ?_ _) | (first | (with_reducible exact Nat.le_refl _) | (with_reducible assumption) | omega | (simp; omega) | (simp; done))))⟩
      case round =>
        obtain ⟨k, hk, rfl, hbk⟩ := hrel
        have HBK := hide hbk
        have a3 := cell_stay a1 (hbk.block _ (World.block_lt_of_cell? wo _ a1))
        have b3 := cell_stay b1 (hbk.block _ (World.block_lt_of_cell? wo _ b1))
        have hk0 : (0 : Int) ≤ (k : Int) := by omega
        clear hbk
        by_cases hkl : k < xs.length
        · have hkl' : (k : Int) < (xs.length : Int) := by omega
          obtain ⟨ga, qa, rfl, x1, x2, x3⟩ := AC.out _ HBK.out k hkl
          obtain ⟨gb, qb, rfl, y1, y2, y3⟩ := BC.out _ HBK.out k hkl
          obtain ⟨z, hz⟩ : ∃ z, z = xs.getD k (0, false, 0) := ⟨_, rfl⟩
          rw [← hz] at x1 x2 x3 y1 y2 y3
          obtain ⟨z1, z2, z3⟩ := z
          simp only at x1 x2 x3 y1 y2 y3
          have hne := ans_neq z1 z3 z2
          clear hz
          go_wp2_with fail
          go_quiet (fail)
          go_wp2_with fail
          go_roundw
          case rel => exact ⟨k + 1, by omega, by go_num, by (have := HBK.out; (focus repeat' (first | (with_reducible exact Below.refl _ _) | (with_reducible assumption) | (with_reducible refine Below.alloc ?_ ?_ _) | (with_reducible refine Below.drew ?_) | (with_reducible refine bdrewN ?_ _) | (with_reducible refine Below.setCell ?_ ?_ _) | (first | (with_reducible exact Nat.le_refl _) | (with_reducible assumption) | omega | (simp; omega) | (simp; done)))))⟩
          case measure => (first | (simp [intOf]; done) | (simp [intOf]; omega))
        · obtain rfl : k = xs.length := by omega
          go_wp2_with fail
          go_roundw
          case rel => exact ⟨i + 1, by omega, by go_num, bstep HBW.out HBK.out⟩
          case measure => (first | (simp [intOf]; done) | (simp [intOf]; omega))
    · obtain rfl : i = n := by omega
      go_wp2_with fail
      refine bodyPost_ret (v := .bool true) (by simp [results, Try.f24, go_sem]) rfl ⟨rfl, HBW.out⟩
end Go.Proofs.Ytimabgakemgldaa

namespace Go.Proofs.Ytimabgakemgldaa
open Go.ChangeShapes Go.WideShapes Go.ChangeAt Go.RowKit Go.Deep
set_option linter.unusedSimpArgs false
set_option linter.unusedVariables false

theorem wpList_copy {t e : TypeId} {i : TypeInfo} {z : Value} {size bytes : Nat} {w : World} {ops : Array Oper} {rest : List Oper} {o : Oper} {a : Act} {Q : Exit → Act → World → Prop} (hgd : o.guard = none) (s x : Operand)
    (ho : o.op = .call { callee := .builtin .append, args := #[s, x], argTypes := #[t, t] }) (hty : o.type = t) (ht : Try.prog.underlying t = some (.slice e)) (hi : Try.prog.info? e = some i) (hz : i.zero = some z) (hsize : i.size = size) (hby : i.bytes = bytes) (hzs : z.cells.size = size) (hsz : 0 < size)
    (si : Option Addr) (n ci : Nat) (news : List Value) (hs : a.eval s = .slice none 0 0) (hx : a.eval x = .slice si n ci) (hl : news.length = n * size) (hc : 0 < n → ∃ b off, si = some ⟨b, off, none⟩ ∧ ∀ j u, news[j]? = some u → w.cell? ⟨b, off + j, none⟩ = some u) (h1 : ∀ u ∈ news, u.oneCell' = true) (h63 : n ≤ maxLen) (hbytes : n * bytes ≤ 140737488355328)
    (hnil : ∀ W, (Builtin.append_ #[t, t] t #[.slice none 0 0, .slice none 0 ci]).run Try.prog W = .ok (.slice none 0 0) W)
    (h : ∀ ao c w', w'.ownsRow w.heap.size e size (.slice ao n c) n news → Below w.heap.size w w' → wpList Try.prog ops Q rest (a.put o.dst (.slice ao n c)) w') : wpList Try.prog ops Q (o :: rest) a w := by
  obtain ⟨ao, c, w', q1, q2, q3⟩ := run_copy ht hi hz hsize hby hzs hsz si n ci news w hl hc h1 h63 hbytes (hnil w)
  refine wpList_plain hgd fun K hK => ?_
  unfold Oper.wp execOp
  simp only [ho, hty, resolve, invoke, builtin, Sem.run_bind, Sem.run_pure, Result.andThen_ok, List.map_toArray, List.map_cons, List.map_nil, hs, hx, q1]
  exact hK _ _ (h ao c w' q2 q3)
set_option maxRecDepth 100000 in
set_option maxHeartbeats 4000000 in
theorem RWalk_bad (mark gate tick : Int) (n oc : Nat) (pa : Option Addr) (pv : Value) (w : World) (h : (n : Int) < 1 ∨ 64 < (n : Int) ∨ gate < 1 ∨ tick < 0) :
    Calls Try.prog 23 #[.agg #[.int .i64 mark, .int .i64 gate, .int .i64 tick], .slice pa n oc, pv] w fun e w' => e = .returned (.tuple #[.slice none 0 0, zeroEnd, .int .i64 2]) ∧ Below w.heap.size w w' := by
  have C11 := hide (fun W => RNew_bad mark gate tick (n : Int) W h)
  clear h
  go_enter Try.func23, Try.ntmps23
  go_wp2_with fail
  obtain ⟨w00, hw⟩ : ∃ w00, w00 = (w.alloc (.cells #[.int .i64 mark, .int .i64 gate, .int .i64 tick] 23)).alloc (.cells #[.int .i64 0, .int .i64 0, .int .i64 0, .int .i64 0, .bool false, .int .i64 0, .bool false, .int .i64 0] 63) := ⟨_, rfl⟩
  rw [← hw]
  have hb0 : Below w.heap.size w w00 := by rw [hw]; (focus repeat' (first | (with_reducible exact Below.refl _ _) | (with_reducible assumption) | (with_reducible refine Below.alloc ?_ ?_ _) | (with_reducible refine Below.drew ?_) | (with_reducible refine bdrewN ?_ _) | (with_reducible refine Below.setCell ?_ ?_ _) | (first | (with_reducible exact Nat.le_refl _) | (with_reducible assumption) | omega | (simp; omega) | (simp; done))))
  have HB0 := hide hb0
  have h80 : Has8 w00 (w.heap.size + 1) := by
    rw [hw]
    have q := fr8_made (w.alloc (.cells #[.int .i64 mark, .int .i64 gate, .int .i64 tick] 23))
    rw [World.size_alloc] at q
    exact q
  have HH8 := hide h80
  clear hw hb0 h80
  refine (C11.out w00).mono ?_
  rintro e w1 ⟨rfl, hb⟩
  have h86 := HH8.out.below hb
  obtain ⟨n0, hn0⟩ := Option.isSome_iff_exists.1 (h86 0 (by decide)).1
  have nf0 := (h86 0 (by decide)).2
  obtain ⟨n1, hn1⟩ := Option.isSome_iff_exists.1 (h86 1 (by decide)).1
  have nf1 := (h86 1 (by decide)).2
  obtain ⟨n2, hn2⟩ := Option.isSome_iff_exists.1 (h86 2 (by decide)).1
  have nf2 := (h86 2 (by decide)).2
  obtain ⟨n3, hn3⟩ := Option.isSome_iff_exists.1 (h86 3 (by decide)).1
  have nf3 := (h86 3 (by decide)).2
  obtain ⟨n4, hn4⟩ := Option.isSome_iff_exists.1 (h86 4 (by decide)).1
  have nf4 := (h86 4 (by decide)).2
  obtain ⟨n5, hn5⟩ := Option.isSome_iff_exists.1 (h86 5 (by decide)).1
  have nf5 := (h86 5 (by decide)).2
  obtain ⟨n6, hn6⟩ := Option.isSome_iff_exists.1 (h86 6 (by decide)).1
  have nf6 := (h86 6 (by decide)).2
  obtain ⟨n7, hn7⟩ := Option.isSome_iff_exists.1 (h86 7 (by decide)).1
  have nf7 := (h86 7 (by decide)).2
  have HB1 := hide (HB0.out.trans (hb.mono HB0.out.size))
  clear hb h86
  go_wp2
  refine bodyPost_ret (v := .tuple #[.slice none 0 0, zeroEnd, .int .i64 2]) (by simp [results, Try.f23, go_sem, zeroEnd, hn0, hn1, hn2, hn3, hn4, hn5, hn6, hn7]) rfl ⟨rfl, ?_⟩
  (repeat (with_reducible refine below_set (by omega) ?_ _ _))
  exact HB1.out
theorem flatA_at (l : List (Int × Bool × Int)) (k : Nat) (hk : k < l.length) : (flatA l)[k * 3]? = some (.int .i64 (l.getD k (0, false, 0)).1) ∧ (flatA l)[k * 3 + 1]? = some (.bool (l.getD k (0, false, 0)).2.1) ∧ (flatA l)[k * 3 + 2]? = some (.int .i64 (l.getD k (0, false, 0)).2.2) := by
  induction l generalizing k with
  | nil => cases hk
  | cons a l ih =>
    cases k with
    | zero => exact ⟨rfl, rfl, rfl⟩
    | succ k =>
      have q := ih k (by simpa using hk)
      rw [show (k + 1) * 3 = k * 3 + 3 by omega, show k * 3 + 3 + 1 = k * 3 + 1 + 3 by omega, show k * 3 + 3 + 2 = k * 3 + 2 + 3 by omega]
      exact q
theorem OutIs.read {w : World} {B : Nat} {v : Value} {n : Nat} {dv : Nat → Value} {did : Nat → List (Int × Bool × Int)} (h : OutIs w B v n dv did) (hm : ∀ i, i < n → (did i).length ≤ 4503599627370496) (hn : n ≤ 4503599627370496) : OutR w v n did := by
  refine ⟨own_any h.o, fun i hi => ?_, hm, hn⟩
  obtain ⟨b, c, rfl, -, -⟩ := h.o.form (by omega)
  obtain ⟨dp, dc, e⟩ := own_any (h.d i hi)
  refine ⟨b, 0, c, dp, dc, rfl, ?_, fun k hk => ?_⟩
  · rw [Nat.zero_add, h.o.cellAt i (by omega), List.getElem?_map, List.getElem?_range hi, ← e]; rfl
  · have hd := h.d i hi
    obtain ⟨g, gc, e2, -, -⟩ := hd.form (by omega)
    rw [e2] at e hd
    injection e with e _ _
    have q := flatA_at (did i) k hk
    refine ⟨g, 0, e.symm, ?_, ?_, ?_⟩
    · rw [Nat.zero_add, hd.cellAt (k * 3) (by omega)]; exact q.1
    · rw [Nat.zero_add, hd.cellAt (k * 3 + 1) (by omega)]; exact q.2.1
    · rw [Nat.zero_add, hd.cellAt (k * 3 + 2) (by omega)]; exact q.2.2
theorem OutIs.nil (w : World) (B : Nat) (dv : Nat → Value) (did : Nat → List (Int × Bool × Int)) : OutIs w B (.slice none 0 0) 0 dv did := ⟨World.ownsRow_nil _ _ _ _, fun i hi => absurd hi (Nat.not_lt_zero i), fun i hi => absurd hi (Nat.not_lt_zero i)⟩
theorem ROut.is {w : World} {B ob n : Nat} {dv : Nat → Value} {did : Nat → List (Int × Bool × Int)} (h : ROut w B ob n dv did) : OutIs w B (.slice (some ⟨ob, 0, none⟩) n n) n dv did := by
  refine ⟨h.out, h.D, fun i hi b e e2 => ?_⟩
  obtain rfl : ob = b := Option.some.inj e2
  have hd := h.D i hi
  rcases hd.2 with ⟨q, _⟩ | ⟨g1, cap1, cur, e3, _⟩
  · rw [q] at e; cases e
  · rw [e3] at e hd
    obtain rfl : g1 = ob := Option.some.inj e
    exact own_type hd h.out (by decide) rfl
theorem OutIs.tch {T : Nat → Prop} {w w' : World} {B : Nat} {v : Value} {n : Nat} {dv : Nat → Value} {did : Nat → List (Int × Bool × Int)} (h : OutIs w B v n dv did) (ht : Tch T w w') (hT : ∀ b, B ≤ b → ¬ T b) : OutIs w' B v n dv did :=
  ⟨own_stays h.o (fun b eb => ht.heap b (h.o.lt b eb).2 (hT b (h.o.lt b eb).1)), fun i hi => own_stays (h.d i hi) (fun b eb => ht.heap b ((h.d i hi).lt b eb).2 (hT b ((h.d i hi).lt b eb).1)), h.ne⟩
/-- answers are being spoilt -/
def SpT (n : Nat) (dv : Nat → Value) (b : Nat) : Prop := ∃ i, i < n ∧ (dv i).ownBlock = some b
structure Spl (W0 W : World) (v : Value) (n : Nat) (dv : Nat → Value) (ln : Nat → Nat) : Prop where
  t : Tch (SpT n dv) W0 W
  val : ∃ p c, v = .slice p n c
  row : ∀ i, i < n → ∃ b c dp dc, v = .slice (some ⟨b, 0, none⟩) n c ∧ W.cell? ⟨b, i, none⟩ = some (.slice dp (ln i) dc) ∧ ¬ SpT n dv b ∧ (0 < ln i → ∃ g, dp = some ⟨g, 0, none⟩ ∧ SpT n dv g ∧ ∀ k, k < ln i * 3 → (∃ u, W.cell? ⟨g, k, none⟩ = some u) ∧ W.frozen? ⟨g, k, none⟩ = false)
theorem Spl.first {w : World} {B : Nat} {v : Value} {n : Nat} {dv : Nat → Value} {did : Nat → List (Int × Bool × Int)} (h : OutIs w B v n dv did) : Spl w w v n dv (fun i => (did i).length) := by
  refine ⟨Tch.rfl' w, own_any h.o, fun i hi => ?_⟩
  have hne := h.ne
  obtain ⟨b, c, rfl, -, -⟩ := h.o.form (by omega)
  obtain ⟨dp, dc, e⟩ := own_any (h.d i hi)
  refine ⟨b, c, dp, dc, rfl, ?_, fun ⟨j, hj, e2⟩ => hne j hj b e2 rfl, fun h0 => ?_⟩
  · rw [h.o.cellAt i (by omega), List.getElem?_map, List.getElem?_range hi, ← e]; rfl
  · have hd := h.d i hi
    obtain ⟨g, gc, e2, -, -⟩ := hd.form h0
    have hg : SpT n dv g := ⟨i, hi, by rw [e2]; rfl⟩
    rw [e2] at e hd
    injection e with e _ _
    refine ⟨g, e.symm, hg, fun k hk => ⟨?_, hd.frozenAt k⟩⟩
    rw [hd.cellAt k hk]
    exact ⟨_, List.getElem?_eq_getElem (by rw [flatA_len]; exact hk)⟩
theorem set_some {W : World} {a b : Addr} {u : Value} (h : ∃ u, W.cell? b = some u) : ∃ u', (W.setCell a u).cell? b = some u' := by
  obtain ⟨v, hv⟩ := h
  by_cases e : a = b
  · subst e; exact ⟨u, World.cell?_setCell_same' _ _ _ (by rw [hv]; rfl)⟩
  · exact ⟨v, (World.cell?_setCell_other _ _ _ _ e).trans hv⟩
theorem Spl.set {W0 W : World} {v : Value} {n : Nat} {dv : Nat → Value} {ln : Nat → Nat} (h : Spl W0 W v n dv ln) {g : Nat} (hg : SpT n dv g) (o : Nat) (u : Value) : Spl W0 (W.setCell ⟨g, o, none⟩ u) v n dv ln := by
  refine ⟨h.t.set hg _ _, h.val, fun i hi => ?_⟩
  obtain ⟨b, c, dp, dc, e, c1, nb, c2⟩ := h.row i hi
  refine ⟨b, c, dp, dc, e, cell_stay c1 (heap_setCell_other _ _ _ _ (fun e => nb (by rw [show b = g from e]; exact hg))), nb, fun h0 => ?_⟩
  obtain ⟨g2, e2, t2, q⟩ := c2 h0
  exact ⟨g2, e2, t2, fun k hk => ⟨set_some (q k hk).1, (World.frozen?_setCell _ _ _ _).trans (q k hk).2⟩⟩
end Go.Proofs.Ytimabgakemgldaa

namespace Go.Proofs.Ytimabgakemgldaa
open Go.ChangeShapes Go.WideShapes Go.ChangeAt Go.RowKit Go.Deep
set_option linter.unusedSimpArgs false
set_option linter.unusedVariables false

structure EndV (w : World) (eb : Nat) (s0 s1 s2 s3 : Int) (s4 : Bool) (s5 : Int) (s6 : Bool) (s7 : Int) : Prop where
  c0 : w.cell? ⟨eb, 0, none⟩ = some (.int .i64 s0)
  c1 : w.cell? ⟨eb, 1, none⟩ = some (.int .i64 s1)
  c2 : w.cell? ⟨eb, 2, none⟩ = some (.int .i64 s2)
  c3 : w.cell? ⟨eb, 3, none⟩ = some (.int .i64 s3)
  c4 : w.cell? ⟨eb, 4, none⟩ = some (.bool s4)
  c5 : w.cell? ⟨eb, 5, none⟩ = some (.int .i64 s5)
  c6 : w.cell? ⟨eb, 6, none⟩ = some (.bool s6)
  c7 : w.cell? ⟨eb, 7, none⟩ = some (.int .i64 s7)
theorem EndV.stays {w w' : World} {eb : Nat} {s0 s1 s2 s3 : Int} {s4 : Bool} {s5 : Int} {s6 : Bool} {s7 : Int} (h : EndV w eb s0 s1 s2 s3 s4 s5 s6 s7) (s : w'.heap[eb]? = w.heap[eb]?) : EndV w' eb s0 s1 s2 s3 s4 s5 s6 s7 :=
  ⟨cell_stay h.c0 s, cell_stay h.c1 s, cell_stay h.c2 s, cell_stay h.c3 s, cell_stay h.c4 s, cell_stay h.c5 s, cell_stay h.c6 s, cell_stay h.c7 s⟩
theorem EndV.below {w w' : World} {eb : Nat} {s0 s1 s2 s3 : Int} {s4 : Bool} {s5 : Int} {s6 : Bool} {s7 : Int} (h : EndV w eb s0 s1 s2 s3 s4 s5 s6 s7) (hb : Below w.heap.size w w') : EndV w' eb s0 s1 s2 s3 s4 s5 s6 s7 := h.stays (hb.block eb (World.block_lt_of_cell? w _ h.c0))
theorem EndV.made (w : World) (s0 s1 s2 s3 : Int) (s4 : Bool) (s5 : Int) (s6 : Bool) (s7 : Int) : EndV (w.alloc (.cells #[.int .i64 s0, .int .i64 s1, .int .i64 s2, .int .i64 s3, .bool s4, .int .i64 s5, .bool s6, .int .i64 s7] 63)) w.heap.size s0 s1 s2 s3 s4 s5 s6 s7 :=
  ⟨by simp [go_sem], by simp [go_sem], by simp [go_sem], by simp [go_sem], by simp [go_sem], by simp [go_sem], by simp [go_sem], by simp [go_sem]⟩
theorem fr8s {W V w1 : World} (h : Below V.heap.size V w1) (e : V.heap = (W.alloc (.cells #[.int .i64 0, .int .i64 0, .int .i64 0, .int .i64 0, .bool false, .int .i64 0, .bool false, .int .i64 0] 63)).heap) : w1.cell? ⟨W.heap.size, 0, none⟩ = some (Value.int .i64 0) ∧ w1.cell? ⟨W.heap.size, 1, none⟩ = some (Value.int .i64 0) ∧ w1.cell? ⟨W.heap.size, 2, none⟩ = some (Value.int .i64 0) ∧ w1.cell? ⟨W.heap.size, 3, none⟩ = some (Value.int .i64 0) ∧ w1.cell? ⟨W.heap.size, 4, none⟩ = some (Value.bool false) ∧ w1.cell? ⟨W.heap.size, 5, none⟩ = some (Value.int .i64 0) ∧ w1.cell? ⟨W.heap.size, 6, none⟩ = some (Value.bool false) ∧ w1.cell? ⟨W.heap.size, 7, none⟩ = some (Value.int .i64 0) ∧ w1.frozen? ⟨W.heap.size, 0, none⟩ = false ∧ w1.frozen? ⟨W.heap.size, 1, none⟩ = false ∧ w1.frozen? ⟨W.heap.size, 2, none⟩ = false ∧ w1.frozen? ⟨W.heap.size, 3, none⟩ = false ∧ w1.frozen? ⟨W.heap.size, 4, none⟩ = false ∧ w1.frozen? ⟨W.heap.size, 5, none⟩ = false ∧ w1.frozen? ⟨W.heap.size, 6, none⟩ = false ∧ w1.frozen? ⟨W.heap.size, 7, none⟩ = false := by
  have q : w1.heap[W.heap.size]? = (W.alloc (.cells #[.int .i64 0, .int .i64 0, .int .i64 0, .int .i64 0, .bool false, .int .i64 0, .bool false, .int .i64 0] 63)).heap[W.heap.size]? := by rw [← e]; exact h.block _ (by rw [e, World.size_alloc]; omega)
  exact ⟨(World.cell?_of_block (a := ⟨W.heap.size, 0, none⟩) q).trans (by simp [go_sem]), (World.cell?_of_block (a := ⟨W.heap.size, 1, none⟩) q).trans (by simp [go_sem]), (World.cell?_of_block (a := ⟨W.heap.size, 2, none⟩) q).trans (by simp [go_sem]), (World.cell?_of_block (a := ⟨W.heap.size, 3, none⟩) q).trans (by simp [go_sem]), (World.cell?_of_block (a := ⟨W.heap.size, 4, none⟩) q).trans (by simp [go_sem]), (World.cell?_of_block (a := ⟨W.heap.size, 5, none⟩) q).trans (by simp [go_sem]), (World.cell?_of_block (a := ⟨W.heap.size, 6, none⟩) q).trans (by simp [go_sem]), (World.cell?_of_block (a := ⟨W.heap.size, 7, none⟩) q).trans (by simp [go_sem]), (World.frozen?_of_block (a := ⟨W.heap.size, 0, none⟩) q).trans (by simp [go_sem]), (World.frozen?_of_block (a := ⟨W.heap.size, 1, none⟩) q).trans (by simp [go_sem]), (World.frozen?_of_block (a := ⟨W.heap.size, 2, none⟩) q).trans (by simp [go_sem]), (World.frozen?_of_block (a := ⟨W.heap.size, 3, none⟩) q).trans (by simp [go_sem]), (World.frozen?_of_block (a := ⟨W.heap.size, 4, none⟩) q).trans (by simp [go_sem]), (World.frozen?_of_block (a := ⟨W.heap.size, 5, none⟩) q).trans (by simp [go_sem]), (World.frozen?_of_block (a := ⟨W.heap.size, 6, none⟩) q).trans (by simp [go_sem]), (World.frozen?_of_block (a := ⟨W.heap.size, 7, none⟩) q).trans (by simp [go_sem])⟩
/-- what a Walk answers -/
def WPost (V : World) (nn : Nat) (did : Nat → List (Int × Bool × Int)) (s0 s1 s2 s3 : Int) (s4 : Bool) (s5 : Int) (s6 : Bool) (s7 : Int) (er : Int) (e : Ending) (w' : World) : Prop :=
  ∃ v dv, e = .returned (.tuple #[v, .agg #[.int .i64 s0, .int .i64 s1, .int .i64 s2, .int .i64 s3, .bool s4, .int .i64 s5, .bool s6, .int .i64 s7], .int .i64 er]) ∧ OutIs w' V.heap.size v nn dv did ∧ Below V.heap.size V w'
/-- a Walk, and its end in a box -/
structure Got (w w' : World) (v : Value) (eb nn : Nat) (dv : Nat → Value) (did : Nat → List (Int × Bool × Int)) (s0 s1 s2 s3 : Int) (s4 : Bool) (s5 : Int) (s6 : Bool) (s7 : Int) : Prop where
  o : OutIs w' w.heap.size v nn dv did
  b : Below w.heap.size w w'
  e : EndV w' eb s0 s1 s2 s3 s4 s5 s6 s7
  le : w.heap.size ≤ eb
theorem Got.after {w V w5 : World} {v : Value} {nn : Nat} {dv : Nat → Value} {did : Nat → List (Int × Bool × Int)} {s0 s1 s2 s3 : Int} {s4 : Bool} {s5 : Int} {s6 : Bool} {s7 : Int} (hV : Below w.heap.size w V) (ho : OutIs w5 V.heap.size v nn dv did) (hb : Below V.heap.size V w5) : Got w (w5.alloc (.cells #[.int .i64 s0, .int .i64 s1, .int .i64 s2, .int .i64 s3, .bool s4, .int .i64 s5, .bool s6, .int .i64 s7] 63)) v w5.heap.size nn dv did s0 s1 s2 s3 s4 s5 s6 s7 := by
  have hb2 : Below w5.heap.size w5 (w5.alloc (.cells #[.int .i64 s0, .int .i64 s1, .int .i64 s2, .int .i64 s3, .bool s4, .int .i64 s5, .bool s6, .int .i64 s7] 63)) := (Below.refl _ _).alloc (Nat.le_refl _) _
  have z1 := hV.size
  have z2 := hb.size
  exact ⟨⟨own_low (own_bel ho.o hb2) z1, fun i hi => own_low (own_bel (ho.d i hi) hb2) z1, ho.ne⟩, bstep (bstep hV hb) hb2, EndV.made _ s0 s1 s2 s3 s4 s5 s6 s7, by omega⟩
theorem Got.before {w V w5 : World} {v : Value} {nn : Nat} {dv : Nat → Value} {did : Nat → List (Int × Bool × Int)} {s0 s1 s2 s3 : Int} {s4 : Bool} {s5 : Int} {s6 : Bool} {s7 : Int} (hV : Below w.heap.size w V) (ho : OutIs w5 V.heap.size v nn dv did) (hb : Below V.heap.size V w5) (hlt : w.heap.size < V.heap.size) (e0 : w5.cell? ⟨w.heap.size, 0, none⟩ = some (Value.int .i64 0)) (e1 : w5.cell? ⟨w.heap.size, 1, none⟩ = some (Value.int .i64 0)) (e2 : w5.cell? ⟨w.heap.size, 2, none⟩ = some (Value.int .i64 0)) (e3 : w5.cell? ⟨w.heap.size, 3, none⟩ = some (Value.int .i64 0)) (e4 : w5.cell? ⟨w.heap.size, 4, none⟩ = some (Value.bool false)) (e5 : w5.cell? ⟨w.heap.size, 5, none⟩ = some (Value.int .i64 0)) (e6 : w5.cell? ⟨w.heap.size, 6, none⟩ = some (Value.bool false)) (e7 : w5.cell? ⟨w.heap.size, 7, none⟩ = some (Value.int .i64 0)) : Got w (((((((((w5.setCell ⟨w.heap.size, 0, none⟩ (.int .i64 s0)).setCell ⟨w.heap.size, 1, none⟩ (.int .i64 s1)).setCell ⟨w.heap.size, 2, none⟩ (.int .i64 s2)).setCell ⟨w.heap.size, 3, none⟩ (.int .i64 s3)).setCell ⟨w.heap.size, 4, none⟩ (.bool s4)).setCell ⟨w.heap.size, 5, none⟩ (.int .i64 s5)).setCell ⟨w.heap.size, 6, none⟩ (.bool s6)).setCell ⟨w.heap.size, 7, none⟩ (.int .i64 s7))) v w.heap.size nn dv did s0 s1 s2 s3 s4 s5 s6 s7 := by
  have z1 := hV.size
  have z2 := hb.size
  obtain ⟨X, hX⟩ : ∃ X, X = ((((((((w5.setCell ⟨w.heap.size, 0, none⟩ (.int .i64 s0)).setCell ⟨w.heap.size, 1, none⟩ (.int .i64 s1)).setCell ⟨w.heap.size, 2, none⟩ (.int .i64 s2)).setCell ⟨w.heap.size, 3, none⟩ (.int .i64 s3)).setCell ⟨w.heap.size, 4, none⟩ (.bool s4)).setCell ⟨w.heap.size, 5, none⟩ (.int .i64 s5)).setCell ⟨w.heap.size, 6, none⟩ (.bool s6)).setCell ⟨w.heap.size, 7, none⟩ (.int .i64 s7)) := ⟨_, rfl⟩
  have t : Tch (fun b => b = w.heap.size) w5 X := by
    rw [hX]
    refine Tch.set (T := fun b => b = w.heap.size) ?_ rfl _ _
    refine Tch.set (T := fun b => b = w.heap.size) ?_ rfl _ _
    refine Tch.set (T := fun b => b = w.heap.size) ?_ rfl _ _
    refine Tch.set (T := fun b => b = w.heap.size) ?_ rfl _ _
    refine Tch.set (T := fun b => b = w.heap.size) ?_ rfl _ _
    refine Tch.set (T := fun b => b = w.heap.size) ?_ rfl _ _
    refine Tch.set (T := fun b => b = w.heap.size) ?_ rfl _ _
    refine Tch.set (T := fun b => b = w.heap.size) ?_ rfl _ _
    exact Tch.rfl' w5
  have s : ∀ b, b < w5.heap.size → b ≠ w.heap.size → X.heap[b]? = w5.heap[b]? := fun b h1 h2 => t.heap b h1 h2
  have ev : EndV X w.heap.size s0 s1 s2 s3 s4 s5 s6 s7 := by
    rw [hX]
    exact ⟨(cell_ne (by decide)).trans ((cell_ne (by decide)).trans ((cell_ne (by decide)).trans ((cell_ne (by decide)).trans ((cell_ne (by decide)).trans ((cell_ne (by decide)).trans ((cell_ne (by decide)).trans (World.cell?_setCell_same' _ _ _ (by rw [e0]; rfl)))))))), (cell_ne (by decide)).trans ((cell_ne (by decide)).trans ((cell_ne (by decide)).trans ((cell_ne (by decide)).trans ((cell_ne (by decide)).trans ((cell_ne (by decide)).trans (World.cell?_setCell_same' _ _ _ (by rw [cell_ne (by decide), e1]; rfl))))))), (cell_ne (by decide)).trans ((cell_ne (by decide)).trans ((cell_ne (by decide)).trans ((cell_ne (by decide)).trans ((cell_ne (by decide)).trans (World.cell?_setCell_same' _ _ _ (by rw [cell_ne (by decide), cell_ne (by decide), e2]; rfl)))))), (cell_ne (by decide)).trans ((cell_ne (by decide)).trans ((cell_ne (by decide)).trans ((cell_ne (by decide)).trans (World.cell?_setCell_same' _ _ _ (by rw [cell_ne (by decide), cell_ne (by decide), cell_ne (by decide), e3]; rfl))))), (cell_ne (by decide)).trans ((cell_ne (by decide)).trans ((cell_ne (by decide)).trans (World.cell?_setCell_same' _ _ _ (by rw [cell_ne (by decide), cell_ne (by decide), cell_ne (by decide), cell_ne (by decide), e4]; rfl)))), (cell_ne (by decide)).trans ((cell_ne (by decide)).trans (World.cell?_setCell_same' _ _ _ (by rw [cell_ne (by decide), cell_ne (by decide), cell_ne (by decide), cell_ne (by decide), cell_ne (by decide), e5]; rfl))), (cell_ne (by decide)).trans (World.cell?_setCell_same' _ _ _ (by rw [cell_ne (by decide), cell_ne (by decide), cell_ne (by decide), cell_ne (by decide), cell_ne (by decide), cell_ne (by decide), e6]; rfl)), World.cell?_setCell_same' _ _ _ (by rw [cell_ne (by decide), cell_ne (by decide), cell_ne (by decide), cell_ne (by decide), cell_ne (by decide), cell_ne (by decide), cell_ne (by decide), e7]; rfl)⟩
  rw [← hX]
  have z3 := t.size
  refine ⟨⟨own_low (own_stays ho.o (fun b eb => s b (ho.o.lt b eb).2 (by have := (ho.o.lt b eb).1; omega))) z1, fun i hi => own_low (own_stays (ho.d i hi) (fun b eb => s b ((ho.d i hi).lt b eb).2 (by have := ((ho.d i hi).lt b eb).1; omega))) z1, ho.ne⟩, ?_, ev, Nat.le_refl _⟩
  have q := bstep hV hb
  exact ⟨t.os.trans q.os, t.tape.trans q.tape, t.output.trans q.output, Nat.le_trans q.size z3, fun b hb2 => (s b (by omega) (by omega)).trans (q.block b hb2)⟩

set_option maxRecDepth 100000 in
set_option maxHeartbeats 16000000 in
theorem law_c (mark gate tick : Int) (ab ao oc pc : Nat) (pa pp : Option Addr) (ops : Ops) (ps : List Int) (rp : Nat → Option Addr) (rc rb ro : Nat → Nat) (w : World) (hpa : 0 < ops.length → pa = some ⟨ab, ao, none⟩) (hO : OpsIn w ab ao ops rp rc rb ro) (hn : ops.length ≤ 1048576) (hP : PicksIn w pp ps) (hpl : ps.length ≤ 1048576)
    (nn : Nat) (did : Nat → List (Int × Bool × Int)) (s0 s1 s2 s3 : Int) (s4 : Bool) (s5 : Int) (s6 : Bool) (s7 : Int) (er : Int) (hnn : nn ≤ 1048576) (hdid : ∀ i, i < nn → (did i).length ≤ 4503599627370496)
    (hC22 : ∀ (V : World) (base M cM pb pcap : Nat), LentM ops base M cM V → PicksIn V (some ⟨pb, 0, none⟩) ps → Calls Try.prog 22 #[.agg #[.int .i64 mark, .int .i64 gate, .int .i64 tick], .slice (some ⟨M, 0, none⟩) ops.length cM, .slice (some ⟨pb, 0, none⟩) ps.length pcap] V (WPost V nn did s0 s1 s2 s3 s4 s5 s6 s7 er))
    (hC23 : ∀ V, Below w.heap.size w V → Calls Try.prog 23 #[.agg #[.int .i64 mark, .int .i64 gate, .int .i64 tick], .slice pa ops.length oc, .slice pp ps.length pc] V (WPost V nn did s0 s1 s2 s3 s4 s5 s6 s7 er)) :
    Calls Try.prog 4 #[.agg #[.int .i64 mark, .int .i64 gate, .int .i64 tick], .slice pa ops.length oc, .slice pp ps.length pc] w fun e w' => e = .returned (.bool true) ∧ Below w.heap.size w w' := by
  obtain ⟨W, hW⟩ : ∃ W, W = w.alloc (.cells #[.int .i64 mark, .int .i64 gate, .int .i64 tick] 23) := ⟨_, rfl⟩
  have hb0 : Below w.heap.size w W := by rw [hW]; (focus repeat' (first | (with_reducible exact Below.refl _ _) | (with_reducible assumption) | (with_reducible refine Below.alloc ?_ ?_ _) | (with_reducible refine Below.drew ?_) | (with_reducible refine bdrewN ?_ _) | (with_reducible refine Below.setCell ?_ ?_ _) | (first | (with_reducible exact Nat.le_refl _) | (with_reducible assumption) | omega | (simp; omega) | (simp; done))))
  have b0 : W.cell? ⟨w.heap.size, 0, none⟩ = some (.int .i64 mark) := by rw [hW]; simp [go_sem]
  have b1 : W.cell? ⟨w.heap.size, 1, none⟩ = some (.int .i64 gate) := by rw [hW]; simp [go_sem]
  have b2 : W.cell? ⟨w.heap.size, 2, none⟩ = some (.int .i64 tick) := by rw [hW]; simp [go_sem]
  have l0 : w.heap.size < W.heap.size := World.block_lt_of_cell? W _ b0
  have HB0 := hide hb0
  have HW := hide hW
  have HO := hide (hO.below hb0)
  have HP := hide (hP.below hb0)
  have HPA := hide hpa
  have HDID := hide hdid
  have C22 := hide hC22
  have C23 := hide hC23
  have C21 := hide (lent_c pa ab ao oc ops rp rc rb ro W hpa (hO.below hb0) hn)
  obtain ⟨i3, hi3, hz3, hs3, hb3⟩ := info_parts info3'
  obtain ⟨n, hnd⟩ : ∃ n, n = ops.length := ⟨_, rfl⟩
  obtain ⟨m, hmd⟩ : ∃ m, m = ps.length := ⟨_, rfl⟩
  have HN := hide hnd
  have HM := hide hmd
  rw [← hnd, ← hmd] at C22 C23
  rw [← hnd] at C21 hn
  rw [← hmd] at hpl
  rw [← hnd, ← hmd]
  clear hb0 hO hP hC22 hC23 hpa hdid hnd hmd hW
  have hn' : (n : Int) ≤ 1048576 := by omega
  have hpl' : (m : Int) ≤ 1048576 := by omega
  go_enter Try.func4, Try.ntmps4
  go_upto_region 1 with fail
  rw [← HW.out]
  go_wp2_with fail
  refine C21.out.mono ?_
  rintro e w1 ⟨⟨M, cM, rfl, hlm⟩, hb⟩
  have b0 := cell_stay b0 (hb.block _ l0)
  have b1 := cell_stay b1 (hb.block _ l0)
  have b2 := cell_stay b2 (hb.block _ l0)
  have HB1 := hide (show Below w.heap.size w w1 from bstep HB0.out hb)
  have l1 : w.heap.size < w1.heap.size := Nat.lt_of_lt_of_le l0 hb.size
  have HLM := hide hlm
  have HPW := hide (HP.out.below hb)
  have HBW1 := hide hb
  clear hb l0 hlm C21
  have hsrc : 0 < m → ∃ b off, pp = some ⟨b, off, none⟩ ∧ ∀ j u, (ints ps)[j]? = some u → w1.cell? ⟨b, off + j, none⟩ = some u := fun h0 => by
    obtain ⟨b, o, e, -⟩ := HPW.out.at_ 0 (by rw [← HM.out]; exact h0)
    refine ⟨b, o, e, fun j u hu => ?_⟩
    have hj := (List.getElem?_eq_some_iff.1 hu).1
    rw [ints_len] at hj
    obtain ⟨b', o', e', c⟩ := HPW.out.at_ j hj
    rw [e] at e'
    injection e' with e'
    injection e' with e1 e2
    subst e1 e2
    rw [ints_at hj] at hu
    rw [← hu]; exact c
  have HSRC := hide hsrc
  clear hsrc
  go_wp2_with (first | (at_builtin; refine wpList_copy rfl _ _ rfl rfl Try.underlying68 hi3 hz3 hs3 hb3 rfl (by decide) pp m pc (ints ps) rfl rfl (by rw [ints_len, HM.out]; omega) HSRC.out (fun u hu => by obtain ⟨x, -, rfl⟩ := List.mem_map.1 hu; rfl) (by unfold maxLen; omega) (by omega) (nil68 pc) ?_; intro a1 c1 w2 hown1 hbw1; have OX := hide hown1; have HB2 := hide hbw1; clear hown1 hbw1) | (at_builtin; refine wpList_append_lies _ rfl _ _ 68 rfl w1.heap.size 3 i3 (.int .i64 0) 1 8 Try.underlying68 hi3 hz3 hs3 hb3 rfl (by decide) (.slice a1 m c1) m (ints ps) rfl (own_bel OX.out (by (focus repeat' (first | (with_reducible exact Below.refl _ _) | (with_reducible assumption) | (with_reducible refine Below.alloc ?_ ?_ _) | (with_reducible refine Below.drew ?_) | (with_reducible refine bdrewN ?_ _) | (with_reducible refine Below.setCell ?_ ?_ _) | (first | (with_reducible exact Nat.le_refl _) | (with_reducible assumption) | omega | (simp; omega) | (simp; done)))))) ⟨w2.heap.size, 0, none⟩ 1 1 [.int .i64 771] rfl rfl (new1 (by simp)) (one1 _ rfl) (by decide) (by unfold maxLen; omega) (by omega) (by have := HB2.out.size; simp; omega) _ rfl ?_; intro g3 c3 w3 hown3 hg3 hgg3 hgl3; have OY := hide hown3; have GY := hide hg3; clear hown3 hg3 hgg3))
  have hcap3 : m + 1 ≤ c3 := own_cap OY.out
  have hcap3' : (m : Int) ≤ (c3 : Int) := by omega
  have hcap0 : (0 : Int) ≤ (m : Int) := by omega
  have HB3 := hide (show Below w1.heap.size w1 w3 from (show Below w1.heap.size w1 _ from (HB2.out.trans (by have := HB2.out.size; (focus repeat' (first | (with_reducible exact Below.refl _ _) | (with_reducible assumption) | (with_reducible refine Below.alloc ?_ ?_ _) | (with_reducible refine Below.drew ?_) | (with_reducible refine bdrewN ?_ _) | (with_reducible refine Below.setCell ?_ ?_ _) | (first | (with_reducible exact Nat.le_refl _) | (with_reducible assumption) | omega | (simp; omega) | (simp; done))))))).grown GY.out (by have := HB2.out.size; simp only [World.size_alloc]; omega) (fun r e => (OX.out.lt r e).1))
  have l3 : w.heap.size < w3.heap.size := Nat.lt_of_lt_of_le l1 HB3.out.size
  have b0 := cell_stay b0 (HB3.out.block _ l1)
  have b1 := cell_stay b1 (HB3.out.block _ l1)
  have b2 := cell_stay b2 (HB3.out.block _ l1)
  have HB4 := hide (show Below w.heap.size w w3 from bstep HB1.out HB3.out)
  have HB31 := hide (show Below W.heap.size W w3 from bstep HBW1.out HB3.out)
  have HLM3 := hide (HLM.out.below HB3.out)
  have HP3 := hide (show PicksIn w3 (some ⟨g3, 0, none⟩) ps from ⟨fun k hk => ⟨g3, 0, rfl, by rw [Nat.zero_add, OY.out.cellAt k (by have := HM.out; omega), List.getElem?_append_left (by rw [ints_len]; exact hk), ints_at hk]⟩, by have := HM.out; omega⟩)
  have C22a := hide (fun (V : World) (hV : Below w3.heap.size w3 V) => C22.out V W.heap.size M cM g3 c3 (HLM3.out.below hV) (HP3.out.below hV))
  have lw := l3
  clear l1 C22
  go_upto_region 3 with fail
  go_cut [9, 10, 11] from 27 to 37 (fun v9 v10 v11 wx => ∃ v eb dv, v9 = v ∧ v10 = .pointer (some ⟨eb, 0, none⟩) ∧ v11 = .int .i64 er ∧ Got w3 wx v eb nn dv did s0 s1 s2 s3 s4 s5 s6 s7)
  case first =>
    go_region_held3 (fun w' => w'.cell? ⟨w.heap.size, 0, none⟩ = some (.int .i64 mark) ∧ w'.cell? ⟨w.heap.size, 1, none⟩ = some (.int .i64 gate) ∧ w'.cell? ⟨w.heap.size, 2, none⟩ = some (.int .i64 tick))
      (((try go_split_ands); refine ⟨?_, ?_, ?_⟩; (focus (first | (with_reducible assumption) | ((repeat (first | with_reducible refine c_dr ?_ | with_reducible refine c_al ?_ _ | with_reducible refine c_drN ?_ _ | with_reducible refine c_st ?_ (by omega) _ _)); with_reducible assumption) | (simp [go_sem, *]; done))); (focus (first | (with_reducible assumption) | ((repeat (first | with_reducible refine c_dr ?_ | with_reducible refine c_al ?_ _ | with_reducible refine c_drN ?_ _ | with_reducible refine c_st ?_ (by omega) _ _)); with_reducible assumption) | (simp [go_sem, *]; done))); (focus (first | (with_reducible assumption) | ((repeat (first | with_reducible refine c_dr ?_ | with_reducible refine c_al ?_ _ | with_reducible refine c_drN ?_ _ | with_reducible refine c_st ?_ (by omega) _ _)); with_reducible assumption) | (simp [go_sem, *]; done)))))
      (first | (go_at_call 22; (apply Calls.mono; focus (exact C22a.out _ (by (focus repeat' (first | (with_reducible exact Below.refl _ _) | (with_reducible assumption) | (with_reducible refine Below.alloc ?_ ?_ _) | (with_reducible refine Below.drew ?_) | (with_reducible refine bdrewN ?_ _) | (with_reducible refine Below.setCell ?_ ?_ _) | (first | (with_reducible exact Nat.le_refl _) | (with_reducible assumption) | omega | (simp; omega) | (simp; done))))))); rintro e w5 ⟨v, dv, rfl, ho, hb⟩; have g0 : w5.cell? ⟨w.heap.size, 0, none⟩ = some (.int .i64 mark) := cell_stay b0 ((bstep (show Below w3.heap.size w3 _ by (focus repeat' (first | (with_reducible exact Below.refl _ _) | (with_reducible assumption) | (with_reducible refine Below.alloc ?_ ?_ _) | (with_reducible refine Below.drew ?_) | (with_reducible refine bdrewN ?_ _) | (with_reducible refine Below.setCell ?_ ?_ _) | (first | (with_reducible exact Nat.le_refl _) | (with_reducible assumption) | omega | (simp; omega) | (simp; done))))) hb).block _ lw); have g1 : w5.cell? ⟨w.heap.size, 1, none⟩ = some (.int .i64 gate) := cell_stay b1 ((bstep (show Below w3.heap.size w3 _ by (focus repeat' (first | (with_reducible exact Below.refl _ _) | (with_reducible assumption) | (with_reducible refine Below.alloc ?_ ?_ _) | (with_reducible refine Below.drew ?_) | (with_reducible refine bdrewN ?_ _) | (with_reducible refine Below.setCell ?_ ?_ _) | (first | (with_reducible exact Nat.le_refl _) | (with_reducible assumption) | omega | (simp; omega) | (simp; done))))) hb).block _ lw); have g2 : w5.cell? ⟨w.heap.size, 2, none⟩ = some (.int .i64 tick) := cell_stay b2 ((bstep (show Below w3.heap.size w3 _ by (focus repeat' (first | (with_reducible exact Below.refl _ _) | (with_reducible assumption) | (with_reducible refine Below.alloc ?_ ?_ _) | (with_reducible refine Below.drew ?_) | (with_reducible refine bdrewN ?_ _) | (with_reducible refine Below.setCell ?_ ?_ _) | (first | (with_reducible exact Nat.le_refl _) | (with_reducible assumption) | omega | (simp; omega) | (simp; done))))) hb).block _ lw); have OV := hide (And.intro ho hb); have hsz : w3.heap.size ≤ w5.heap.size := (bstep (show Below w3.heap.size w3 _ by (focus repeat' (first | (with_reducible exact Below.refl _ _) | (with_reducible assumption) | (with_reducible refine Below.alloc ?_ ?_ _) | (with_reducible refine Below.drew ?_) | (with_reducible refine bdrewN ?_ _) | (with_reducible refine Below.setCell ?_ ?_ _) | (first | (with_reducible exact Nat.le_refl _) | (with_reducible assumption) | omega | (simp; omega) | (simp; done))))) hb).size; (first | (obtain ⟨e0, e1, e2, e3, e4, e5, e6, e7, f0, f1, f2, f3, f4, f5, f6, f7⟩ := fr8s (W := w3) hb rfl) | skip); clear ho hb))
    all_goals go_wp2_with fail
    all_goals go_meet
    · exact ⟨_, _, _, rfl, rfl, rfl, Got.after (by (focus repeat' (first | (with_reducible exact Below.refl _ _) | (with_reducible assumption) | (with_reducible refine Below.alloc ?_ ?_ _) | (with_reducible refine Below.drew ?_) | (with_reducible refine bdrewN ?_ _) | (with_reducible refine Below.setCell ?_ ?_ _) | (first | (with_reducible exact Nat.le_refl _) | (with_reducible assumption) | omega | (simp; omega) | (simp; done))))) OV.out.1 OV.out.2⟩
    · exact ⟨_, _, _, rfl, rfl, rfl, Got.before (by (focus repeat' (first | (with_reducible exact Below.refl _ _) | (with_reducible assumption) | (with_reducible refine Below.alloc ?_ ?_ _) | (with_reducible refine Below.drew ?_) | (with_reducible refine bdrewN ?_ _) | (with_reducible refine Below.setCell ?_ ?_ _) | (first | (with_reducible exact Nat.le_refl _) | (with_reducible assumption) | omega | (simp; omega) | (simp; done))))) OV.out.1 OV.out.2 (by simp) e0 e1 e2 e3 e4 e5 e6 e7⟩
  case rest =>
  obtain ⟨va, ea, dva, h9, h10, h11, hg⟩ := hcut
  subst u9 u10 u11
  obtain ⟨w4, hw4⟩ : ∃ q : World, q = wc := ⟨wc, rfl⟩
  subst hw4
  have GA := hide hg
  have b0 := cell_stay b0 (hg.b.block _ lw)
  have b1 := cell_stay b1 (hg.b.block _ lw)
  have b2 := cell_stay b2 (hg.b.block _ lw)
  have lw : w.heap.size < w4.heap.size := Nat.lt_of_lt_of_le lw hg.b.size
  have C22b := hide (fun (V : World) (hV : Below w4.heap.size w4 V) => C22a.out V (bstep GA.out.b hV))
  clear hg C22a
  go_upto_region 4 with fail
  go_cut [12, 13, 14] from 38 to 48 (fun v12 v13 v14 wx => ∃ v eb dv, v12 = v ∧ v13 = .pointer (some ⟨eb, 0, none⟩) ∧ v14 = .int .i64 er ∧ Got w4 wx v eb nn dv did s0 s1 s2 s3 s4 s5 s6 s7)
  case first =>
    go_region_held3 (fun w' => w'.cell? ⟨w.heap.size, 0, none⟩ = some (.int .i64 mark) ∧ w'.cell? ⟨w.heap.size, 1, none⟩ = some (.int .i64 gate) ∧ w'.cell? ⟨w.heap.size, 2, none⟩ = some (.int .i64 tick))
      (((try go_split_ands); refine ⟨?_, ?_, ?_⟩; (focus (first | (with_reducible assumption) | ((repeat (first | with_reducible refine c_dr ?_ | with_reducible refine c_al ?_ _ | with_reducible refine c_drN ?_ _ | with_reducible refine c_st ?_ (by omega) _ _)); with_reducible assumption) | (simp [go_sem, *]; done))); (focus (first | (with_reducible assumption) | ((repeat (first | with_reducible refine c_dr ?_ | with_reducible refine c_al ?_ _ | with_reducible refine c_drN ?_ _ | with_reducible refine c_st ?_ (by omega) _ _)); with_reducible assumption) | (simp [go_sem, *]; done))); (focus (first | (with_reducible assumption) | ((repeat (first | with_reducible refine c_dr ?_ | with_reducible refine c_al ?_ _ | with_reducible refine c_drN ?_ _ | with_reducible refine c_st ?_ (by omega) _ _)); with_reducible assumption) | (simp [go_sem, *]; done)))))
      (first | (go_at_call 22; (apply Calls.mono; focus (exact C22b.out _ (by (focus repeat' (first | (with_reducible exact Below.refl _ _) | (with_reducible assumption) | (with_reducible refine Below.alloc ?_ ?_ _) | (with_reducible refine Below.drew ?_) | (with_reducible refine bdrewN ?_ _) | (with_reducible refine Below.setCell ?_ ?_ _) | (first | (with_reducible exact Nat.le_refl _) | (with_reducible assumption) | omega | (simp; omega) | (simp; done))))))); rintro e w5 ⟨v, dv, rfl, ho, hb⟩; have g0 : w5.cell? ⟨w.heap.size, 0, none⟩ = some (.int .i64 mark) := cell_stay b0 ((bstep (show Below w4.heap.size w4 _ by (focus repeat' (first | (with_reducible exact Below.refl _ _) | (with_reducible assumption) | (with_reducible refine Below.alloc ?_ ?_ _) | (with_reducible refine Below.drew ?_) | (with_reducible refine bdrewN ?_ _) | (with_reducible refine Below.setCell ?_ ?_ _) | (first | (with_reducible exact Nat.le_refl _) | (with_reducible assumption) | omega | (simp; omega) | (simp; done))))) hb).block _ lw); have g1 : w5.cell? ⟨w.heap.size, 1, none⟩ = some (.int .i64 gate) := cell_stay b1 ((bstep (show Below w4.heap.size w4 _ by (focus repeat' (first | (with_reducible exact Below.refl _ _) | (with_reducible assumption) | (with_reducible refine Below.alloc ?_ ?_ _) | (with_reducible refine Below.drew ?_) | (with_reducible refine bdrewN ?_ _) | (with_reducible refine Below.setCell ?_ ?_ _) | (first | (with_reducible exact Nat.le_refl _) | (with_reducible assumption) | omega | (simp; omega) | (simp; done))))) hb).block _ lw); have g2 : w5.cell? ⟨w.heap.size, 2, none⟩ = some (.int .i64 tick) := cell_stay b2 ((bstep (show Below w4.heap.size w4 _ by (focus repeat' (first | (with_reducible exact Below.refl _ _) | (with_reducible assumption) | (with_reducible refine Below.alloc ?_ ?_ _) | (with_reducible refine Below.drew ?_) | (with_reducible refine bdrewN ?_ _) | (with_reducible refine Below.setCell ?_ ?_ _) | (first | (with_reducible exact Nat.le_refl _) | (with_reducible assumption) | omega | (simp; omega) | (simp; done))))) hb).block _ lw); have OV := hide (And.intro ho hb); have hsz : w4.heap.size ≤ w5.heap.size := (bstep (show Below w4.heap.size w4 _ by (focus repeat' (first | (with_reducible exact Below.refl _ _) | (with_reducible assumption) | (with_reducible refine Below.alloc ?_ ?_ _) | (with_reducible refine Below.drew ?_) | (with_reducible refine bdrewN ?_ _) | (with_reducible refine Below.setCell ?_ ?_ _) | (first | (with_reducible exact Nat.le_refl _) | (with_reducible assumption) | omega | (simp; omega) | (simp; done))))) hb).size; (first | (obtain ⟨e0, e1, e2, e3, e4, e5, e6, e7, f0, f1, f2, f3, f4, f5, f6, f7⟩ := fr8s (W := w4) hb rfl) | skip); clear ho hb))
    all_goals go_wp2_with fail
    all_goals go_meet
    · exact ⟨_, _, _, rfl, rfl, rfl, Got.after (by (focus repeat' (first | (with_reducible exact Below.refl _ _) | (with_reducible assumption) | (with_reducible refine Below.alloc ?_ ?_ _) | (with_reducible refine Below.drew ?_) | (with_reducible refine bdrewN ?_ _) | (with_reducible refine Below.setCell ?_ ?_ _) | (first | (with_reducible exact Nat.le_refl _) | (with_reducible assumption) | omega | (simp; omega) | (simp; done))))) OV.out.1 OV.out.2⟩
    · exact ⟨_, _, _, rfl, rfl, rfl, Got.before (by (focus repeat' (first | (with_reducible exact Below.refl _ _) | (with_reducible assumption) | (with_reducible refine Below.alloc ?_ ?_ _) | (with_reducible refine Below.drew ?_) | (with_reducible refine bdrewN ?_ _) | (with_reducible refine Below.setCell ?_ ?_ _) | (first | (with_reducible exact Nat.le_refl _) | (with_reducible assumption) | omega | (simp; omega) | (simp; done))))) OV.out.1 OV.out.2 (by simp) e0 e1 e2 e3 e4 e5 e6 e7⟩
  case rest =>
  obtain ⟨vb, eb, dvb, h9, h10, h11, hg⟩ := hcut
  subst u12 u13 u14
  obtain ⟨w5, hw5⟩ : ∃ q : World, q = wc := ⟨wc, rfl⟩
  subst hw5
  have GB := hide hg
  have b0 := cell_stay b0 (hg.b.block _ lw)
  have b1 := cell_stay b1 (hg.b.block _ lw)
  have b2 := cell_stay b2 (hg.b.block _ lw)
  have lw : w.heap.size < w5.heap.size := Nat.lt_of_lt_of_le lw hg.b.size
  have HB5 := hide (show Below w.heap.size w w5 from bstep (bstep HB4.out GA.out.b) GB.out.b)
  clear hg C22b
  go_wp2_with fail
  refine (C23.out w5 HB5.out).mono ?_
  rintro e w6 ⟨vc, dvc, rfl, ho, hb⟩
  have HOC := hide (And.intro ho hb)
  clear ho hb b0 b1 b2
  go_upto_region 6 with fail
  obtain ⟨w7, hw7⟩ : ∃ w7, w7 = w6.alloc (.cells #[.int .i64 s0, .int .i64 s1, .int .i64 s2, .int .i64 s3, .bool s4, .int .i64 s5, .bool s6, .int .i64 s7] 63) := ⟨_, rfl⟩
  rw [← hw7]
  obtain ⟨ec, hec⟩ : ∃ ec, ec = w6.heap.size := ⟨_, rfl⟩
  rw [← hec]
  have hb7 : Below w6.heap.size w6 w7 := by rw [hw7]; exact (Below.refl _ _).alloc (Nat.le_refl _) _
  have HB7 := hide (show Below w5.heap.size w5 w7 from bstep HOC.out.2 hb7)
  have EC7 := hide (show EndV w7 ec s0 s1 s2 s3 s4 s5 s6 s7 by rw [hw7, hec]; exact EndV.made _ s0 s1 s2 s3 s4 s5 s6 s7)
  have OC7 := hide (show OutIs w7 w5.heap.size vc nn dvc did from ⟨own_bel HOC.out.1.o hb7, fun i hi => own_bel (HOC.out.1.d i hi) hb7, HOC.out.1.ne⟩)
  clear hw7 hec hb7
  have HB75 := hide (bstep GB.out.b HB7.out)
  have HB74 := hide (bstep GA.out.b HB75.out)
  have HB75a := hide GB.out.b.size
  have OA7 := hide (show OutIs w7 w3.heap.size va nn dva did from ⟨own_bel GA.out.o.o HB75.out, fun i hi => own_bel (GA.out.o.d i hi) HB75.out, GA.out.o.ne⟩)
  have OB7 := hide (show OutIs w7 w4.heap.size vb nn dvb did from ⟨own_bel GB.out.o.o HB7.out, fun i hi => own_bel (GB.out.o.d i hi) HB7.out, GB.out.o.ne⟩)
  have EA7 := hide (GA.out.e.below HB75.out)
  have OY7 := hide (own_bel OY.out HB74.out)
  have HBW7 := hide (show Below w.heap.size w w7 from bstep HB5.out HB7.out)
  have HB37 := hide (show Below W.heap.size W w7 from bstep HB31.out HB74.out)
  have HOW7 := hide (show OpsIn w7 ab ao ops rp rc rb ro from HO.out.below (show Below W.heap.size W w7 from HB37.out))
  have HLM7 := hide (HLM3.out.below HB74.out)
  have HP7 := hide (HP.out.below (show Below W.heap.size W w7 from HB37.out))
  have SPB := hide (show ∀ b, w4.heap.size ≤ b → ¬ SpT nn dva b from fun b hb ⟨i, hi, e⟩ => by have q := ((GA.out.o.d i hi).lt b e).2; omega)
  have SPL := hide (show ∀ b, SpT nn dva b → w.heap.size ≤ b from fun b ⟨i, hi, e⟩ => by have q := ((GA.out.o.d i hi).lt b e).1; have q2 := HB4.out.size; omega)
  obtain ⟨pA, cA, rfl⟩ := own_any OA7.out.o
  have C24 := hide (fun (V : World) (hV : Below w7.heap.size w7 V) => Same_c _ vc nn did V ((OA7.out.read HDID.out (by omega)).below hV) ((OC7.out.read HDID.out (by omega)).below hV))
  have C25 := hide (fun (V : World) (hV : Below w7.heap.size w7 V) => left_c pa ab ao oc ops rp rc rb ro W.heap.size M cM V HPA.out (HOW7.out.below hV) (HLM7.out.below hV) (by have := HN.out; omega))
  rw [← HN.out] at C25
  have hne := end_neq s0 s1 s2 s3 s5 s7 s4 s6
  have hnn' : (nn : Int) ≤ 1048576 := by omega
  clear GA GB
  go_wp2_with (first | (go_at_call 10; (apply Calls.mono; focus (exact num_c _ _)); rintro e w' ⟨rfl, rfl⟩) | (go_at_call 24; (apply Calls.mono; focus (exact C24.out _ (by (focus repeat' (first | (with_reducible exact Below.refl _ _) | (with_reducible assumption) | (with_reducible refine Below.alloc ?_ ?_ _) | (with_reducible refine Below.drew ?_) | (with_reducible refine bdrewN ?_ _) | (with_reducible refine Below.setCell ?_ ?_ _) | (first | (with_reducible exact Nat.le_refl _) | (with_reducible assumption) | omega | (simp; omega) | (simp; done))))))); rintro e w8 ⟨rfl, hb8⟩; have HB8 := hide hb8; obtain ⟨x0, x1, x2, x3, x4, x5, x6, x7⟩ := EA7.out.below hb8; obtain ⟨y0, y1, y2, y3, y4, y5, y6, y7⟩ := EC7.out.below hb8; clear hb8) | (go_at_call 25; (apply Calls.mono; focus (exact C25.out _ HB8.out)); rintro e w9 ⟨rfl, hb9⟩; have HB9 := hide (show Below w7.heap.size w7 w9 from bstep HB8.out hb9); have pm : w9.cell? ⟨g3, m, none⟩ = some (.int .i64 771) := (by rw [(own_bel OY7.out HB9.out).cellAt m (by omega), List.getElem?_append_right (by rw [ints_len, HM.out]; exact Nat.le_refl _), ints_len, HM.out, Nat.sub_self]; rfl); clear hb9))
  clear x0 x1 x2 x3 x4 x5 x6 x7 y0 y1 y2 y3 y4 y5 y6 y7
  go_loopw [18] (fun v18 wr => ∃ k : Nat, k ≤ m ∧ v18 = .int .i64 (k : Int) ∧ Below w9.heap.size w9 wr) (fun v18 _ => m - (intOf v18).toNat)
  case atStart => exact ⟨0, Nat.zero_le _, rfl, Below.refl _ _⟩
  case round =>
    obtain ⟨k, hk, rfl, hbk⟩ := hrel
    have HBK := hide (show Below w7.heap.size w7 wr from bstep HB9.out hbk)
    have HBK9 := hide hbk
    have hk0 : (0 : Int) ≤ (k : Int) := by omega
    clear hbk
    by_cases hlt : k < m
    · have hlt' : (k : Int) < (m : Int) := by omega
      have hlt3 : (k : Int) < (m : Int) + 1 := by omega
      have pk : wr.cell? ⟨g3, k, none⟩ = some (.int .i64 (ps.getD k 0)) := by
        rw [(own_bel OY7.out HBK.out).cellAt k (by omega), List.getElem?_append_left (by rw [ints_len]; have := HM.out; omega), ints_at (by have := HM.out; omega)]
      obtain ⟨qb, qo, rfl, hq⟩ := (HP7.out.below HBK.out).at_ k (by have := HM.out; omega)
      obtain ⟨z, hz⟩ : ∃ z, z = ps.getD k 0 := ⟨_, rfl⟩
      rw [← hz] at pk hq
      have x3 : (z != z) = false := by simp
      clear hz
      go_wp2_with fail
      go_quiet (fail)
      go_wp2_with fail
      go_roundw
      case rel => exact ⟨k + 1, by omega, by go_num, by (have := HBK9.out; (focus repeat' (first | (with_reducible exact Below.refl _ _) | (with_reducible assumption) | (with_reducible refine Below.alloc ?_ ?_ _) | (with_reducible refine Below.drew ?_) | (with_reducible refine bdrewN ?_ _) | (with_reducible refine Below.setCell ?_ ?_ _) | (first | (with_reducible exact Nat.le_refl _) | (with_reducible assumption) | omega | (simp; omega) | (simp; done)))))⟩
      case measure => (first | (simp [intOf]; done) | (simp [intOf]; omega))
    · obtain rfl : k = m := by omega
      obtain ⟨wq, hwq⟩ : ∃ q : World, q = wr := ⟨wr, rfl⟩
      subst hwq
      have S0 := hide (Spl.first (show OutIs wq w3.heap.size (.slice pA nn cA) nn dva did from ⟨own_bel OA7.out.o HBK.out, fun i hi => own_bel (OA7.out.d i hi) HBK.out, OA7.out.ne⟩))
      go_wp2_with fail
      go_loopw [19] (fun v19 wr => ∃ i : Nat, i ≤ nn ∧ v19 = .int .i64 (i : Int) ∧ Spl wq wr (.slice pA nn cA) nn dva (fun i => (did i).length)) (fun v19 _ => nn - (intOf v19).toNat)
      case atStart => exact ⟨0, Nat.zero_le _, rfl, S0.out⟩
      case round =>
        obtain ⟨i, hi, rfl, hs⟩ := hrel
        have HS := hide hs
        have hi0 : (0 : Int) ≤ (i : Int) := by omega
        clear hs
        by_cases hli : i < nn
        · have hli' : (i : Int) < (nn : Int) := by omega
          have hml := HDID.out i hli
          go_wp2_with fail
          go_loopw [20] (fun v20 wk => ∃ k : Nat, k ≤ (did i).length ∧ v20 = .int .i64 (k : Int) ∧ Spl wq wk (.slice pA nn cA) nn dva (fun i => (did i).length)) (fun v20 _ => (did i).length - (intOf v20).toNat)
          case atStart => exact ⟨0, Nat.zero_le _, rfl, HS.out⟩
          case round =>
            obtain ⟨k, hk, rfl, hs2⟩ := hrel
            have HS2 := hide hs2
            have hk0 : (0 : Int) ≤ (k : Int) := by omega
            obtain ⟨b, c, dp, dc, e, c1, nb, c2⟩ := hs2.row i hli
            injection e with e _ ec
            subst e ec
            have HC2 := hide c2
            clear hs2 nb c2
            obtain ⟨ln, hln⟩ : ∃ ln, ln = (did i).length := ⟨_, rfl⟩
            rw [← hln] at HC2 hml
            rw [← hln] at hk
            rw [← hln] at c1
            rw [← hln]
            have HLN := hide hln
            clear hln
            by_cases hkl : k < ln
            · have hkl' : (k : Int) < (ln : Int) := by omega
              obtain ⟨g, rfl, hg, q⟩ := HC2.out (by omega)
              obtain ⟨⟨u0, x0⟩, f0⟩ := q (k * 3) (by omega)
              obtain ⟨⟨u1, x1⟩, f1⟩ := q (k * 3 + 1) (by omega)
              obtain ⟨⟨u2, x2⟩, f2⟩ := q (k * 3 + 2) (by omega)
              have HG := hide hg
              clear q hg
              go_wp2_with fail
              go_roundw
              case rel => exact ⟨k + 1, by omega, by go_num, ((HS2.out.set HG.out _ _).set HG.out _ _).set HG.out _ _⟩
              case measure => (first | (simp [intOf]; done) | (simp [intOf]; omega))
            · obtain rfl : k = ln := by omega
              go_wp2_with fail
              go_roundw
              case rel => exact ⟨i + 1, by omega, by go_num, HS2.out⟩
              case measure => (first | (simp [intOf]; done) | (simp [intOf]; omega))
        · obtain rfl : i = nn := by omega
          have hno : ¬ ((i : Int) < (i : Int)) := by omega
          have C24b := hide (show ∀ V, Below wr.heap.size wr V → Calls Try.prog 24 #[vb, vc] V fun e w' => e = .returned (.bool true) ∧ Below V.heap.size V w' from fun V hV => by
            have ht := HS.out.t
            have q1 : OutIs wr w4.heap.size vb i dvb did := OutIs.tch ⟨own_bel OB7.out.o HBK.out, fun j hj => own_bel (OB7.out.d j hj) HBK.out, OB7.out.ne⟩ ht SPB.out
            have q2 : OutIs wr w5.heap.size vc i dvc did := OutIs.tch ⟨own_bel OC7.out.o HBK.out, fun j hj => own_bel (OC7.out.d j hj) HBK.out, OC7.out.ne⟩ ht (fun b hb => SPB.out b (Nat.le_trans HB75a.out hb))
            exact Same_c vb vc i did V ((q1.read HDID.out (by omega)).below hV) ((q2.read HDID.out (by omega)).below hV))
          have HBF := hide (show Below w.heap.size w wr by
            have ht := HS.out.t
            have q := bstep HBW7.out HBK.out
            exact ⟨ht.os.trans q.os, ht.tape.trans q.tape, ht.output.trans q.output, Nat.le_trans q.size ht.size, fun b hb => (ht.heap b (Nat.lt_of_lt_of_le hb q.size) (fun e => by have := SPL.out b e; omega)).trans (q.block b hb)⟩)
          go_wp2_with (first | (go_at_call 24; (apply Calls.mono; focus (exact C24b.out _ (Below.refl _ _))); rintro e wy ⟨rfl, hby⟩; have HBY := hide hby; clear hby) | (go_at_call 12; (apply Calls.mono; focus (exact known_c _)); rintro e wz ⟨rfl, hbz⟩))
          go_ret
          exact ⟨rfl, bstep (bstep HBF.out HBY.out) hbz⟩
end Go.Proofs.Ytimabgakemgldaa

