import Derived.Test.YtimabgakemgldaaT46
import Derived.Laws.LoneSync
import Derived.WalkKit
import Derived.StillTailTactics
import Derived.Deep.RegionLaw
import Derived.Deep.RegionHeld3
import Derived.Laws.OwnMore
import Derived.Deep.Matrix
import Derived.BigQuiet
import Derived.Deep.QuietTactic
import Derived.Laws.EntriesVeiled
namespace Go.Proofs.Ytimabgakemgldaa
open Go.ChangeShapes Go.WideShapes Go.ChangeAt Go.RowKit Go.Deep
set_option linter.unusedSimpArgs false
set_option linter.unusedVariables false

/-- the program's cells and the document's -/
structure PB (w0 V : World) (L : Nat → Nat) (wp r rs sb : Nat) (tick : Int) (A1 A2 : Ab) : Prop where
  k : KO w0 V L A1
  l : LW V wp L
  nw : ∀ i, i < 9 → wp ≠ L i
  ro : RObj V r rs A2
  nr : ∀ i, i < 9 → r ≠ L i ∧ rs ≠ L i
  rw : wp ≠ r ∧ wp ≠ rs
  lo : w0.heap.size ≤ r ∧ w0.heap.size ≤ rs
  s2 : V.cell? ⟨sb, 2, none⟩ = some (.int .i64 tick)
  sn : (∀ i, i < 9 → sb ≠ L i) ∧ sb ≠ r ∧ sb ≠ rs
theorem CW.of {L : Nat → Nat} {b : Nat} (h : ∀ i, i < 9 → b ≠ L i) : ¬ CW L b := by
  rintro (e | e | e | e | e)
  · exact h 1 (by decide) e
  · exact h 3 (by decide) e
  · exact h 5 (by decide) e
  · exact h 6 (by decide) e
  · exact h 8 (by decide) e
theorem PB.prog {w0 V w' : World} {L : Nat → Nat} {wp r rs sb : Nat} {tick : Int} {A1 A2 A' : Ab} (h : PB w0 V L wp r rs sb tick A1 A2) (hc : ∃ po, CObj w' L po A') (ht : Tch (CW L) V w') : PB w0 w' L wp r rs sb tick A' A2 :=
  ⟨h.k.tch hc ht, h.l.stays (ht.heap _ h.l.lt (CW.of h.nw)), h.nw, h.ro.stays (ht.heap _ h.ro.lt.1 (CW.of fun i hi => (h.nr i hi).1)) (ht.heap _ h.ro.lt.2 (CW.of fun i hi => (h.nr i hi).2)), h.nr, h.rw, h.lo, cell_stay h.s2 (ht.heap _ (World.block_lt_of_cell? V _ h.s2) (CW.of h.sn.1)), h.sn⟩
theorem PB.doc {w0 V w' : World} {L : Nat → Nat} {wp r rs sb : Nat} {tick : Int} {A1 A2 A' : Ab} (h : PB w0 V L wp r rs sb tick A1 A2) (hr : RObj w' r rs A') (ht : Tch (fun k => k = r ∨ k = rs) V w') (hp : ∀ po, CObj V L po A1 → ∀ k, po = some ⟨k, 0, none⟩ → k ≠ r ∧ k ≠ rs) : PB w0 w' L wp r rs sb tick A1 A' := by
  obtain ⟨po, hc⟩ := h.k.c
  have st : ∀ b, b < V.heap.size → b ≠ r → b ≠ rs → w'.heap[b]? = V.heap[b]? := fun b hb h1 h2 => ht.heap b hb (fun e => by rcases e with e | e; exact h1 e; exact h2 e)
  refine ⟨⟨⟨po, hc.keep (fun i hi => st _ (hc.lt i hi) (Ne.symm (h.nr i hi).1) (Ne.symm (h.nr i hi).2)) (fun k e => st k (hc.best.o.lt e) (hp po hc k e).1 (hp po hc k e).2)⟩, ⟨ht.os.trans h.k.b.os, ht.tape.trans h.k.b.tape, ht.output.trans h.k.b.output, Nat.le_trans h.k.b.size ht.size, fun b hb => (st b (Nat.lt_of_lt_of_le hb h.k.b.size) (by have := h.lo; omega) (by have := h.lo; omega)).trans (h.k.b.block b hb)⟩, h.k.lo⟩, h.l.stays (st _ h.l.lt h.rw.1 h.rw.2), h.nw, hr, h.nr, h.rw, h.lo, cell_stay h.s2 (st _ (World.block_lt_of_cell? V _ h.s2) h.sn.2.1 h.sn.2.2), h.sn⟩
theorem PB.later {w0 V w' : World} {L : Nat → Nat} {wp r rs sb : Nat} {tick : Int} {A1 A2 : Ab} (h : PB w0 V L wp r rs sb tick A1 A2) (hb : Below V.heap.size V w') : PB w0 w' L wp r rs sb tick A1 A2 :=
  ⟨h.k.later hb, h.l.stays (hb.block _ h.l.lt), h.nw, h.ro.below hb, h.nr, h.rw, h.lo, cell_stay h.s2 (hb.block _ (World.block_lt_of_cell? V _ h.s2)), h.sn⟩
theorem PB.dr {w0 V : World} {L : Nat → Nat} {wp r rs sb : Nat} {tick : Int} {A1 A2 : Ab} (h : PB w0 V L wp r rs sb tick A1 A2) : PB w0 V.drew L wp r rs sb tick A1 A2 := h.later ((Below.refl _ _).drew)
theorem PB.drN {w0 V : World} {L : Nat → Nat} {wp r rs sb : Nat} {tick : Int} {A1 A2 : Ab} (h : PB w0 V L wp r rs sb tick A1 A2) (n : Nat) : PB w0 (V.drewN n) L wp r rs sb tick A1 A2 := h.later (bdrewN (Below.refl _ _) n)
theorem PB.al {w0 V : World} {L : Nat → Nat} {wp r rs sb : Nat} {tick : Int} {A1 A2 : Ab} (h : PB w0 V L wp r rs sb tick A1 A2) (o : Obj) : PB w0 (V.alloc o) L wp r rs sb tick A1 A2 := h.later ((Below.refl _ _).alloc (Nat.le_refl _) o)
theorem opt_ne {w : World} {p : Option Addr} {o : Option (Int × Int)} (h : OffOk w p o) {k : Nat} (e : p = some ⟨k, 0, none⟩) : ∃ who x, w.heap[k]? = some (.cells #[.int .i64 who, .int .i64 x] 154) := by
  cases o with
  | none => obtain rfl : p = none := h; cases e
  | some z => obtain ⟨k2, e2, q⟩ := h; rw [e2] at e; cases e; exact ⟨_, _, q⟩
/-- an offer's block is none of the document's -/
theorem PB.off {w0 V : World} {L : Nat → Nat} {wp r rs sb : Nat} {tick : Int} {A1 A2 : Ab} (h : PB w0 V L wp r rs sb tick A1 A2) : ∀ po, CObj V L po A1 → ∀ k, po = some ⟨k, 0, none⟩ → k ≠ r ∧ k ≠ rs := fun po hc k e => by
  obtain ⟨who, x, hk⟩ := opt_ne hc.best.o e
  refine ⟨fun e2 => ?_, fun e2 => ?_⟩
  · subst e2
    have := h.ro.c8
    simp [World.cell?, hk] at this
  · subst e2
    rcases h.ro.row.2 with ⟨e3, _⟩ | ⟨g, cap, cur, e3, _, e4, _⟩
    · cases e3
    · injection e3 with e3 _ _
      injection e3 with e3
      injection e3 with e3 _ _
      subst e3
      rw [hk] at e4
      injection e4 with e4
      injection e4 with _ e4
      cases e4
def aV (A : Ab) (who k x : Int) : Value := .agg #[.int .i64 (doA A who k x).1, .bool (doA A who k x).2, .int .i64 0]
theorem PB.does {w0 V : World} {L : Nat → Nat} {wp r rs sb : Nat} {tick : Int} {A1 A2 : Ab} (h : PB w0 V L wp r rs sb tick A1 A2) {n : Nat} {c : Int} (hA : AbOk A1 n c) (hc : c ≤ 4611686018427387904) (k who x : Int) (h1 : 1 ≤ k) (h5 : k ≤ 5) (hw : k = 1 → 0 ≤ who ∧ who < n) :
    Calls Try.prog 16 #[.pointer (some ⟨wp, 0, none⟩), .agg #[.int .i64 k, .int .i64 who, .int .i64 x]] V fun e w' => e = .returned (aV A1 who k x) ∧ PB w0 w' L wp r rs sb tick (doS A1 who k x) A2 ∧ Tch (CW L) V w' := by
  obtain ⟨po, hC⟩ := h.k.c
  have fin : ∀ e w', DoesPost L A1 who k x V e w' → e = .returned (aV A1 who k x) ∧ PB w0 w' L wp r rs sb tick (doS A1 who k x) A2 ∧ Tch (CW L) V w' := fun e w' q => ⟨q.1, by obtain ⟨po2, q1, q2⟩ := q.2; exact ⟨h.prog ⟨po2, q1⟩ q2, q2⟩⟩
  have t1 := hA.tk
  have t2 := hA.tk2
  have t3 := hA.tt
  have t6 := hA.tk3
  obtain rfl | rfl | rfl | rfl | rfl : k = 1 ∨ k = 2 ∨ k = 3 ∨ k = 4 ∨ k = 5 := by omega
  · obtain ⟨w1, w2⟩ := hw rfl
    exact (does1 wp L po A1 who x V hC h.l who.toNat (by omega) (by rw [hA.S]; omega) h.nw).mono fin
  · exact (does2 wp L po A1 who x V hC h.l h.nw).mono fin
  · exact (does3 wp L po A1 who x V hC h.l h.nw).mono fin
  · exact (does4 wp L po A1 who x V hC h.l hA.gt hA.ar (Int.le_trans hA.ar2 hc)).mono fin
  · by_cases e : A1.tk < A1.tt
    · exact (does5 wp L po A1 who x V hC h.l ⟨by omega, by omega⟩).mono fin
    · exact (does5 wp L po A1 who x V hC h.l ⟨by omega, by omega⟩).mono fin
theorem PB.doo {w0 V : World} {L : Nat → Nat} {wp r rs sb : Nat} {tick : Int} {A1 A2 : Ab} (h : PB w0 V L wp r rs sb tick A1 A2) {n : Nat} {c : Int} (hA : AbOk A2 n c) (hc : c ≤ 4611686018427387904) (k who x : Int) (h1 : 1 ≤ k) (h5 : k ≤ 5) (hw : k = 1 → 0 ≤ who ∧ who < n) :
    Calls Try.prog 17 #[.pointer (some ⟨r, 0, none⟩), .int .i64 who, .agg #[.int .i64 k, .int .i64 x]] V fun e w' => e = .returned (aV A2 who k x) ∧ PB w0 w' L wp r rs sb tick A1 (doS A2 who k x) ∧ Tch (fun b => b = r ∨ b = rs) V w' := by
  have fin : ∀ e w', DoPost r rs A2 who k x V e w' → e = .returned (aV A2 who k x) ∧ PB w0 w' L wp r rs sb tick A1 (doS A2 who k x) ∧ Tch (fun b => b = r ∨ b = rs) V w' := fun e w' q => ⟨q.1, h.doc q.2.1 q.2.2 h.off, q.2.2⟩
  have t1 := hA.tk
  have t2 := hA.tk2
  have t3 := hA.tt
  have t6 := hA.tk3
  have t4 := hA.ar
  have t5 := hA.ar2
  obtain rfl | rfl | rfl | rfl | rfl : k = 1 ∨ k = 2 ∨ k = 3 ∨ k = 4 ∨ k = 5 := by omega
  · obtain ⟨w1, w2⟩ := hw rfl
    exact (Do1 r rs A2 who x V h.ro who.toNat (by omega) (by rw [hA.S]; omega)).mono fin
  · exact (Do2 r rs A2 who x V h.ro).mono fin
  · exact (Do3 r rs A2 who x V h.ro).mono fin
  · exact (Do4 r rs A2 who x V h.ro ⟨by omega, by omega⟩).mono fin
  · exact (Do5 r rs A2 who x V h.ro ⟨by omega, by omega⟩).mono fin
theorem PB.addBad {w0 V : World} {L : Nat → Nat} {wp r rs sb : Nat} {tick : Int} {A1 A2 : Ab} (h : PB w0 V L wp r rs sb tick A1 A2) (h0 : 0 < A1.S.length) (i x : Int) (hi : i < 0 ∨ A1.S.length ≤ i) : Calls Try.prog 15 #[.pointer (some ⟨L 4, 0, none⟩), .int .i64 i, .int .i64 x] V fun e w' => e = .returned (.tuple #[.int .i64 0, .int .i64 2]) ∧ V = w' := h.k.addBad h0 i x hi
theorem PB.goes {w0 V : World} {L : Nat → Nat} {wp r rs sb : Nat} {tick : Int} {A : Ab} (h : PB w0 V L wp r rs sb tick A A) (hS : A.S.length ≤ 64) (x : Int) : Calls Try.prog 18 #[.pointer (some ⟨L 4, 0, none⟩), .slice (some ⟨rs, 0, none⟩) A.S.length A.S.length, .int .i64 x] V fun e w' => e = .returned (.bool true) ∧ Below V.heap.size V w' := by
  obtain ⟨po, hc⟩ := h.k.c
  exact goes_c (L 4) (L 5) rs A.S x V hc.cnt h.ro.row hS
theorem PB.stands {w0 V : World} {L : Nat → Nat} {wp r rs sb : Nat} {tick : Int} {A1 A2 : Ab} (h : PB w0 V L wp r rs sb tick A1 A2) {n : Nat} {c : Int} (hA : AbOk A1 n c) (hn : n ≤ 64) : Calls Try.prog 19 #[.pointer (some ⟨wp, 0, none⟩), .int .i64 A1.tt] V fun e w' => e = .returned (endV A1) ∧ Below V.heap.size V w' := by
  obtain ⟨po, hc⟩ := h.k.c
  exact Stands_c wp L po A1 V hc h.l (by rw [hA.S]; exact hn) hA.gt hA.tk hA.tk2 hA.tt
theorem PB.endd {w0 V : World} {L : Nat → Nat} {wp r rs sb : Nat} {tick : Int} {A1 A2 : Ab} (h : PB w0 V L wp r rs sb tick A1 A2) {n : Nat} {c : Int} (hA : AbOk A2 n c) (hn : n ≤ 64) : Calls Try.prog 20 #[.pointer (some ⟨r, 0, none⟩)] V fun e w' => e = .returned (endV A2) ∧ Below V.heap.size V w' :=
  REnd_c r rs A2 V h.ro (by rw [hA.S]; exact hn)
/-- a script that came in -/
structure ScrIn (w : World) (sp : Option Addr) (l : List (Int × Int × Int)) : Prop where
  at_ : ∀ k, k < l.length → ∃ b o, sp = some ⟨b, o, none⟩ ∧ w.cell? ⟨b, o + k * 3, none⟩ = some (.int .i64 (l.getD k (0, 0, 0)).1) ∧ w.cell? ⟨b, o + k * 3 + 1, none⟩ = some (.int .i64 (l.getD k (0, 0, 0)).2.1) ∧ w.cell? ⟨b, o + k * 3 + 2, none⟩ = some (.int .i64 (l.getD k (0, 0, 0)).2.2)
  ml : l.length ≤ 4503599627370496
theorem ScrIn.below {w w' : World} {sp : Option Addr} {l : List (Int × Int × Int)} (h : ScrIn w sp l) (hb : Below w.heap.size w w') : ScrIn w' sp l :=
  ⟨fun k hk => by obtain ⟨b, o, e, c0, c1, c2⟩ := h.at_ k hk; have s := hb.block _ (World.block_lt_of_cell? w _ c0); exact ⟨b, o, e, cell_stay c0 s, cell_stay c1 s, cell_stay c2 s⟩, h.ml⟩

theorem eqFields_self {P : Program} (w : World) (d : Nat) (xs : Array Value) (fs : List Field) (h : ∀ f ∈ fs, ∃ a, (part f.type xs f.offset).run P w = .ok a w ∧ (Op.equalIn d f.type a a).run P w = .ok true w) : (Op.eqFields d xs xs fs).run P w = .ok true w := by
  induction fs with
  | nil => simp [Op.eqFields]
  | cons f fs ih =>
    obtain ⟨a, ha, he⟩ := h f (List.mem_cons_self ..)
    have q := ih (fun g hg => h g (List.mem_cons_of_mem _ hg))
    simp only [Op.eqFields]
    split
    · simp only [Sem.run_bind, ha, Result.andThen_ok, he, Bool.not_true, Bool.false_eq_true, if_false, q]
    · exact q
theorem eqAgg_self {P : Program} (w : World) (d : Nat) (t : TypeId) (xs : Array Value) (tys : List (TypeId × Nat)) (ht : P.underlying t = some (.struct (P.fieldsOf t))) (hp : P.stoodInHeld t = false) (hf : (P.fieldsOf t).toList.map (fun f => (f.type, f.offset)) = tys)
    (h : ∀ x ∈ tys, ∃ a, (part x.1 xs x.2).run P w = .ok a w ∧ (Op.equalIn d x.1 a a).run P w = .ok true w) : (Op.equalIn (d + 1) t (.agg xs) (.agg xs)).run P w = .ok true w := by
  rw [run_equalIn_struct w d t xs xs ht hp]
  refine eqFields_self w d xs _ (fun f hfm => ?_)
  exact h (f.type, f.offset) (by rw [← hf]; exact List.mem_map_of_mem hfm)
theorem flds52 : (Try.prog.fieldsOf 52).toList.map (fun f => (f.type, f.offset)) = [(2, 0), (4, 1), (3, 2)] := by kernel_rfl
theorem flds63 : (Try.prog.fieldsOf 63).toList.map (fun f => (f.type, f.offset)) = [(2, 0), (2, 1), (3, 2), (2, 3), (4, 4), (3, 5), (4, 6), (2, 7)] := by kernel_rfl
theorem same52 (a t : Int) (y : Bool) (w : World) : (Op.equalIn 10000 52 (.agg #[.int .i64 a, .bool y, .int .i64 t]) (.agg #[.int .i64 a, .bool y, .int .i64 t])).run Try.prog w = .ok true w := by
  refine eqAgg_self w 9999 52 _ _ (by kernel_rfl) (by kernel_rfl) flds52 (fun x hx => ?_)
  simp only [List.mem_cons, List.not_mem_nil, or_false] at hx
  rcases hx with rfl | rfl | rfl
  · exact ⟨.int .i64 a, by kernel_rfl, by rw [run_equalIn_int w 9998 2 .i64 .i64 a a Try.underlying2]; simp⟩
  · exact ⟨.bool y, by kernel_rfl, by rw [run_equalIn_bool w 9998 4 y y Try.underlying4]; simp⟩
  · exact ⟨.int .i64 t, by kernel_rfl, by rw [run_equalIn_int w 9998 3 .i64 .i64 t t Try.underlying3]; simp⟩
theorem ans_neq (a t : Int) (y : Bool) (w : World) : Sem.run Try.prog (binOp .neq 52 (.agg #[.int .i64 a, .bool y, .int .i64 t]) (.agg #[.int .i64 a, .bool y, .int .i64 t])) w = .ok (.bool false) w := by
  rw [run_neq_struct, same52]; rfl
theorem same63 (a b c d f h : Int) (e g : Bool) (w : World) : (Op.equalIn 10000 63 (.agg #[.int .i64 a, .int .i64 b, .int .i64 c, .int .i64 d, .bool e, .int .i64 f, .bool g, .int .i64 h]) (.agg #[.int .i64 a, .int .i64 b, .int .i64 c, .int .i64 d, .bool e, .int .i64 f, .bool g, .int .i64 h])).run Try.prog w = .ok true w := by
  refine eqAgg_self w 9999 63 _ _ (by kernel_rfl) (by kernel_rfl) flds63 (fun x hx => ?_)
  simp only [List.mem_cons, List.not_mem_nil, or_false] at hx
  rcases hx with rfl | rfl | rfl | rfl | rfl | rfl | rfl | rfl
  · exact ⟨.int .i64 a, by kernel_rfl, by rw [run_equalIn_int w 9998 2 .i64 .i64 a a Try.underlying2]; simp⟩
  · exact ⟨.int .i64 b, by kernel_rfl, by rw [run_equalIn_int w 9998 2 .i64 .i64 b b Try.underlying2]; simp⟩
  · exact ⟨.int .i64 c, by kernel_rfl, by rw [run_equalIn_int w 9998 3 .i64 .i64 c c Try.underlying3]; simp⟩
  · exact ⟨.int .i64 d, by kernel_rfl, by rw [run_equalIn_int w 9998 2 .i64 .i64 d d Try.underlying2]; simp⟩
  · exact ⟨.bool e, by kernel_rfl, by rw [run_equalIn_bool w 9998 4 e e Try.underlying4]; simp⟩
  · exact ⟨.int .i64 f, by kernel_rfl, by rw [run_equalIn_int w 9998 3 .i64 .i64 f f Try.underlying3]; simp⟩
  · exact ⟨.bool g, by kernel_rfl, by rw [run_equalIn_bool w 9998 4 g g Try.underlying4]; simp⟩
  · exact ⟨.int .i64 h, by kernel_rfl, by rw [run_equalIn_int w 9998 2 .i64 .i64 h h Try.underlying2]; simp⟩
theorem end_neq (a b c d f h : Int) (e g : Bool) (w : World) : Sem.run Try.prog (binOp .neq 63 (.agg #[.int .i64 a, .int .i64 b, .int .i64 c, .int .i64 d, .bool e, .int .i64 f, .bool g, .int .i64 h]) (.agg #[.int .i64 a, .int .i64 b, .int .i64 c, .int .i64 d, .bool e, .int .i64 f, .bool g, .int .i64 h])) w = .ok (.bool false) w := by
  rw [run_neq_struct, same63]; rfl
theorem end_eql (a b c d f h : Int) (e g : Bool) (w : World) : Sem.run Try.prog (binOp .eql 63 (.agg #[.int .i64 a, .int .i64 b, .int .i64 c, .int .i64 d, .bool e, .int .i64 f, .bool g, .int .i64 h]) (.agg #[.int .i64 a, .int .i64 b, .int .i64 c, .int .i64 d, .bool e, .int .i64 f, .bool g, .int .i64 h])) w = .ok (.bool true) w := by
  rw [run_eql_struct, same63]; rfl
end Go.Proofs.Ytimabgakemgldaa
