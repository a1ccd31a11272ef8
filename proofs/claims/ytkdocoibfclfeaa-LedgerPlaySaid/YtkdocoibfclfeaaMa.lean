/- Contracts of the layer's functions, each proved once, in the order in which they are used. No condition beyond each theorem's own. -/
import Derived.Test.YtkdocoibfclfeaaRows
import Derived.WalkKit
import Derived.ProofKit
import Derived.OpenShut
import Derived.BigQuiet
import Derived.Deep.QuietTactic
import Derived.WalkLawsBesides
import Derived.WalkSpells
import Derived.Deep.RegionWith
import Derived.Deep.RegionHeld3
import Derived.Deep.RegionLaw
import Derived.Deep.DeepCutAuto
import Derived.Lib.SmallJoins
import Derived.Deep.Fields
import Derived.IntWalk
import Derived.Maps.RangeWalk
import Derived.Maps.OwnSet
import Derived.Maps.Ext
import Derived.Maps.AppendAt
import Derived.Deep.AppendLies
import Derived.Laws.OwnMore
import Derived.StillTailTactics
namespace Go.Proofs.Ytkdocoibfclfeaa
open Go.ChangeShapes Go.WideShapes Go.ChangeAt Go.RowKit Go.Deep
set_option linter.unusedSimpArgs false
set_option linter.unusedVariables false

theorem ret_int {k : IntKind} {a b : Int} (h : a = b) : Ending.returned (.int k a) = .returned (.int k b) := by rw [h]
theorem ret_bool {a b : Bool} (h : a = b) : Ending.returned (.bool a) = .returned (.bool b) := by rw [h]
theorem ret_two {k k2 : IntKind} {a b c d : Int} (h : a = b) (h2 : c = d) : Ending.returned (.tuple #[.int k a, .int k2 c]) = .returned (.tuple #[.int k b, .int k2 d]) := by rw [h, h2]
theorem ret_ib {k : IntKind} {a b : Int} {c d : Bool} (h : a = b) (h2 : c = d) : Ending.returned (.tuple #[.int k a, .bool c]) = .returned (.tuple #[.int k b, .bool d]) := by rw [h, h2]
theorem bcell {W w1 : World} (hb : Below W.heap.size W w1) : (∀ b o, b < W.heap.size → w1.cell? ⟨b, o, none⟩ = W.cell? ⟨b, o, none⟩) ∧ (∀ b o, b < W.heap.size → w1.frozen? ⟨b, o, none⟩ = W.frozen? ⟨b, o, none⟩) :=
  ⟨fun b o h => hb.cell (p := ⟨b, o, none⟩) h, fun b o h => hb.frozen (p := ⟨b, o, none⟩) h⟩
theorem bstep {w W W' : World} (h : Below w.heap.size w W) (hb : Below W.heap.size W W') : Below w.heap.size w W' := h.trans (hb.mono h.size)
theorem hide {p : Prop} (h : p) : Hid p := h
theorem bdrewN {B : Nat} {a w : World} (h : Below B a w) (n : Nat) : Below B a (w.drewN n) := ⟨h.os, h.tape, h.output, h.size, h.block⟩
theorem undraw {B : Nat} {W w w' : World} (h : Below W.heap.size W w') (e : W.heap = w.heap) (e1 : W.os = w.os) (e2 : W.tape = w.tape) (e3 : W.output = w.output) (hB : B ≤ w.heap.size) : Below B w w' := by
  have h2 := h.mono (B' := B) (by rw [e]; exact hB)
  exact ⟨h2.os.trans e1, h2.tape.trans e2, h2.output.trans e3, by rw [← e]; exact h2.size, by rw [← e]; exact h2.block⟩
/-- every field is an int of 64 bits -/
def allInts (P : Program) (fs : Array Field) : Bool := (List.range fs.size).all fun i => match fs[i]? with
  | some f => match P.underlying f.type with
    | some (.int .i64) => true
    | _ => false
  | none => false
theorem ints_of {P : Program} {fs : Array Field} (h : allInts P fs = true) : ∀ (i : Nat) (f : Field), fs[i]? = some f → P.underlying f.type = some (.int .i64) := by
  intro i f hi
  have hlt : i < fs.size := (Array.getElem?_eq_some_iff.1 hi).1
  have := List.all_eq_true.1 h i (List.mem_range.2 hlt)
  simp only [hi] at this
  split at this
  · assumption
  · cases this
section
variable {H : Type} {enc : TypeId × Value → H} {P : Program} {w : World} {base : Nat} {spare : Nat → Bool} {held : Bool}
/-- A struct by value, however many fields, each an int of 64 bits: opened to its numbers. -/
theorem open_ints_agg {r : Reach} {b0 : Nat} {t : TypeId} {fs : Array Field} {v : Value} {d : DataW H} {p : List MemPlace} (hs : P.underlying t = some (.struct fs)) (hone : oneCellFields P fs = true) (hint : allInts P fs = true) (hC : P.cellsOf t = fs.size)
    (hv : Value.okWide P w r b0 t v) (h : DataW.Trod enc P w base spare held t v d p) :
    ∃ xs : List Int, xs.length = fs.size ∧ v = .agg (xs.map (Value.int .i64)).toArray ∧ ∀ x ∈ xs, (Lit.int .i64 x).wf = true := by
  obtain ⟨cs, rfl, hsz⟩ := okWide_struct hs hv
  obtain ⟨l⟩ := cs
  have hl : l.length = fs.size := by simpa using hsz.trans hC
  obtain ⟨fuel, hf⟩ := h
  obtain ⟨ys, n, _, hx, _, hlen, hg⟩ := DataW.trod_struct hs hf
  have cell : ∀ i, i < l.length → ∃ x, l[i]? = some (Value.int .i64 x) ∧ (Lit.int .i64 x).wf = true := by
    intro i hi
    have hfi : fs[i]? = some (fs[i]'(by omega)) := Array.getElem?_eq_getElem (by omega)
    obtain ⟨ho, hk⟩ := hone_of hone i _ hfi
    have h1 := hg i _ hfi
    rw [ho, hk] at h1
    have hone' : (((Value.agg { toList := l }).cells.toList).drop i).take 1 = [l[i]] := by
      rw [show (Value.agg { toList := l }).cells.toList = l from rfl, List.drop_eq_getElem_cons (by omega)]
      rfl
    rw [hone'] at h1
    have hys : ys[i]? = some (ys[i]'(by omega)) := List.getElem?_eq_getElem (by omega)
    rw [hys] at h1
    obtain ⟨x, hx, _, hw⟩ := DataW.trod_int (ints_of hint i _ hfi) h1
    refine ⟨x, ?_, hw⟩
    rw [List.getElem?_eq_getElem hi]
    simpa using hx
  clear hx hg hf
  have : ∀ l : List Value, (∀ i, i < l.length → ∃ x, l[i]? = some (Value.int .i64 x) ∧ (Lit.int .i64 x).wf = true) → ∃ xs : List Int, xs.length = l.length ∧ l = xs.map (Value.int .i64) ∧ ∀ x ∈ xs, (Lit.int .i64 x).wf = true := by
    intro l
    induction l with
    | nil => intro _; exact ⟨[], rfl, rfl, by simp⟩
    | cons a r ih =>
      intro hc
      obtain ⟨x, hx, hw⟩ := hc 0 (by simp)
      obtain ⟨xs, e1, e2, e3⟩ := ih (fun i hi => by simpa using hc (i + 1) (by simpa using hi))
      refine ⟨x :: xs, by simp [e1], ?_, ?_⟩
      · simp at hx
        rw [hx, e2]; rfl
      · intro y hy
        rcases List.mem_cons.1 hy with rfl | hy
        · exact hw
        · exact e3 y hy
  obtain ⟨xs, e1, e2, e3⟩ := this l cell
  exact ⟨xs, by omega, by rw [e2], e3⟩
end
theorem list4 {α : Type} {l : List α} (h : l.length = 4) : ∃ a b c d, l = [a, b, c, d] := by
  match l, h with
  | [a, b, c, d], _ => exact ⟨a, b, c, d, rfl⟩
theorem list11 {α : Type} {l : List α} (h : l.length = 11) : ∃ a b c d e f g i j k m, l = [a, b, c, d, e, f, g, i, j, k, m] := by
  match l, h with
  | [a, b, c, d, e, f, g, i, j, k, m], _ => exact ⟨a, b, c, d, e, f, g, i, j, k, m, rfl⟩
theorem i64_le {x : Int} (h : (Lit.int .i64 x).wf = true) : -9223372036854775808 ≤ x ∧ x ≤ 9223372036854775807 := by
  simpa [Lit.wf, IntKind.min, IntKind.max, IntKind.signed, IntKind.bits] using h
end Go.Proofs.Ytkdocoibfclfeaa

namespace Go.Proofs.Ytkdocoibfclfeaa
open Go.ChangeShapes Go.WideShapes Go.ChangeAt Go.RowKit Go.Deep
set_option linter.unusedSimpArgs false
set_option linter.unusedVariables false

set_option maxHeartbeats 1000000 in
theorem Check_ok (s : ByteArray) (w : World) (h1 : 1 ≤ s.size) (h2 : s.size ≤ 64) : Calls Try.prog 23 #[.string s] w fun e w' => e = .returned (.int .i64 0) ∧ w = w' := by
  have a1 : decide ((s.size : Int) < 1) = false := by simp; omega
  have a2 : decide ((64 : Int) < (s.size : Int)) = false := by simp; omega
  go_enter Try.func23, Try.ntmps23
  go_wp2
  refine bodyPost_ret (v := .int .i64 0) (by simp [results, Try.f23, go_sem]) rfl ⟨rfl, rfl⟩

set_option maxHeartbeats 1000000 in
theorem Check_short (s : ByteArray) (w : World) (h1 : s.size = 0) : Calls Try.prog 23 #[.string s] w fun e w' => e = .returned (.int .i64 2) ∧ w = w' := by
  have a1 : decide ((s.size : Int) < 1) = true := by simp; omega
  go_enter Try.func23, Try.ntmps23
  go_wp2
  refine bodyPost_ret (v := .int .i64 2) (by simp [results, Try.f23, go_sem]) rfl ⟨rfl, rfl⟩

set_option maxHeartbeats 1000000 in
theorem Check_long (s : ByteArray) (w : World) (h1 : 64 < s.size) : Calls Try.prog 23 #[.string s] w fun e w' => e = .returned (.int .i64 2) ∧ w = w' := by
  have a1 : decide ((s.size : Int) < 1) = false := by simp; omega
  have a2 : decide ((64 : Int) < (s.size : Int)) = true := by simp; omega
  go_enter Try.func23, Try.ntmps23
  go_wp2
  refine bodyPost_ret (v := .int .i64 2) (by simp [results, Try.f23, go_sem]) rfl ⟨rfl, rfl⟩

set_option maxHeartbeats 1000000 in
theorem rCheck_ok (s : ByteArray) (w : World) (h1 : 1 ≤ s.size) (h2 : s.size ≤ 64) : Calls Try.prog 54 #[.string s] w fun e w' => e = .returned (.int .i64 0) ∧ w = w' := by
  have a1 : decide ((s.size : Int) < 1) = false := by simp; omega
  have a2 : decide ((64 : Int) < (s.size : Int)) = false := by simp; omega
  go_enter Try.func54, Try.ntmps54
  go_wp2
  refine bodyPost_ret (v := .int .i64 0) (by simp [results, Try.f54, go_sem]) rfl ⟨rfl, rfl⟩

set_option maxHeartbeats 1000000 in
theorem rCheck_short (s : ByteArray) (w : World) (h1 : s.size = 0) : Calls Try.prog 54 #[.string s] w fun e w' => e = .returned (.int .i64 2) ∧ w = w' := by
  have a1 : decide ((s.size : Int) < 1) = true := by simp; omega
  go_enter Try.func54, Try.ntmps54
  go_wp2
  refine bodyPost_ret (v := .int .i64 2) (by simp [results, Try.f54, go_sem]) rfl ⟨rfl, rfl⟩

set_option maxHeartbeats 1000000 in
theorem rCheck_long (s : ByteArray) (w : World) (h1 : 64 < s.size) : Calls Try.prog 54 #[.string s] w fun e w' => e = .returned (.int .i64 2) ∧ w = w' := by
  have a1 : decide ((s.size : Int) < 1) = false := by simp; omega
  have a2 : decide ((64 : Int) < (s.size : Int)) = true := by simp; omega
  go_enter Try.func54, Try.ntmps54
  go_wp2
  refine bodyPost_ret (v := .int .i64 2) (by simp [results, Try.f54, go_sem]) rfl ⟨rfl, rfl⟩

theorem NewNames (w : World) : Calls Try.prog 21 #[.int .i64 65536] w fun e w' => e = .returned (.tuple #[.pointer (some ⟨w.heap.size + 1, 0, none⟩), .int .i64 0]) ∧ w' = (w.alloc (.map #[] 0)).alloc (.cells #[.slice none 0 0, .map (some w.heap.size), .int .i64 65536] 112) := by
  have hmm := @run_makeMap Try.prog
  go_enter Try.func21, Try.ntmps21
  go_wp2
  refine bodyPost_ret (v := .tuple #[.pointer (some ⟨w.heap.size + 1, 0, none⟩), .int .i64 0]) (by simp [results, Try.f21, go_sem]) rfl ⟨rfl, rfl⟩
theorem noNames (w : World) : Calls Try.prog 50 #[.pointer none] w fun e w' => e = .returned (.bool true) ∧ w = w' := by
  go_enter Try.func50, Try.ntmps50
  go_wp2
  refine bodyPost_ret (v := .bool true) (by simp [results, Try.f50, go_sem]) rfl ⟨rfl, rfl⟩
theorem noLedger (w : World) : Calls Try.prog 22 #[.pointer none] w fun e w' => e = .returned (.bool true) ∧ w = w' := by
  go_enter Try.func22, Try.ntmps22
  go_wp2
  refine bodyPost_ret (v := .bool true) (by simp [results, Try.f22, go_sem]) rfl ⟨rfl, rfl⟩
theorem zeroLedger (w : World) (b : Nat) (h : w.cell? ⟨b, 0, none⟩ = some (.pointer none)) : Calls Try.prog 22 #[.pointer (some ⟨b, 0, none⟩)] w fun e w' => e = .returned (.bool true) ∧ w = w' := by
  go_enter Try.func22, Try.ntmps22
  go_wp2
  refine bodyPost_ret (v := .bool true) (by simp [results, Try.f22, go_sem]) rfl ⟨rfl, rfl⟩
theorem isLedger (w : World) (b t : Nat) (h : w.cell? ⟨b, 0, none⟩ = some (.pointer (some ⟨t, 0, none⟩))) : Calls Try.prog 22 #[.pointer (some ⟨b, 0, none⟩)] w fun e w' => e = .returned (.bool false) ∧ w = w' := by
  go_enter Try.func22, Try.ntmps22
  go_wp2
  refine bodyPost_ret (v := .bool false) (by simp [results, Try.f22, go_sem]) rfl ⟨rfl, rfl⟩
theorem eql110 (m : Nat) (w : World) : Sem.run Try.prog (binOp .eql 110 (.map (some m)) (.map none)) w = .ok (.bool false) w := by kernel_rfl
theorem isNames (w : World) (b m : Nat) (h : w.cell? ⟨b, 1, none⟩ = some (.map (some m))) : Calls Try.prog 50 #[.pointer (some ⟨b, 0, none⟩)] w fun e w' => e = .returned (.bool false) ∧ w = w' := by
  have Q := eql110 m
  go_enter Try.func50, Try.ntmps50
  go_wp2
  refine bodyPost_ret (v := .bool false) (by simp [results, Try.f50, go_sem]) rfl ⟨rfl, rfl⟩
end Go.Proofs.Ytkdocoibfclfeaa

namespace Go.Proofs.Ytkdocoibfclfeaa
set_option linter.unusedSimpArgs false
set_option linter.unusedVariables false
abbrev Ent := ByteArray × Int
structure Acc where
  name : ByteArray
  least : Int
  has : Int
structure LS where
  acc : List Acc
  posts : List (List Ent)
instance : Inhabited Acc := ⟨⟨ByteArray.empty, 0, 0⟩⟩
def nms (A : List Acc) : List ByteArray := A.map Acc.name
/-- where a name stands -/
def idx : List ByteArray → ByteArray → Option Nat
  | [], _ => none
  | a :: r, s => if a = s then some 0 else (idx r s).map (· + 1)
def sumOf : List Ent → ByteArray → Int
  | [], _ => 0
  | x :: r, s => (if x.1 = s then x.2 else 0) + sumOf r s
def names (p : List Ent) : List ByteArray := p.map Prod.fst
def total : List Ent → Int
  | [] => 0
  | x :: r => x.2 + total r
def maxC : Int := 70368744177664
def goodName (s : ByteArray) : Prop := 1 ≤ s.size ∧ s.size ≤ 64
def goodEnt (x : Ent) : Prop := goodName x.1 ∧ x.2 ≠ 0 ∧ x.2 ≤ maxC ∧ -maxC ≤ x.2
def Formed (p : List Ent) : Prop := 1 ≤ p.length ∧ p.length ≤ 128 ∧ (∀ x ∈ p, goodEnt x) ∧ total p = 0
def allThere (A : List Acc) (p : List Ent) : Prop := ∀ s ∈ names p, ∃ i, idx (nms A) s = some i
def isLow (A : List Acc) (p : List Ent) : Prop := ∃ a ∈ A, a.name ∈ names p ∧ a.has + sumOf p a.name < a.least
open Classical in
noncomputable def mayE (A : List Acc) (p : List Ent) : Int := if ¬ Formed p then 2 else if ¬ allThere A p then 4 else if isLow A p then 7 else 0
def posted (A : List Acc) (p : List Ent) : List Acc := A.map fun a => { a with has := a.has + sumOf p a.name }
/-- what holds of the accounts at all times -/
structure Sound (A : List Acc) : Prop where
  nd : (nms A).Nodup
  few : A.length ≤ 65536
  good : ∀ a ∈ A, goodName a.name ∧ -maxC ≤ a.least ∧ a.least ≤ 0 ∧ a.least ≤ a.has
  sum : (A.map Acc.has).sum = 0
theorem idx_lt {A : List ByteArray} {s : ByteArray} {i : Nat} (h : idx A s = some i) : i < A.length ∧ A[i]? = some s := by
  induction A generalizing i with
  | nil => cases h
  | cons a r ih =>
    unfold idx at h
    split at h
    · cases h; rename_i e; subst e; exact ⟨by simp, rfl⟩
    · obtain ⟨j, hj, rfl⟩ := Option.map_eq_some_iff.1 h
      have := ih hj
      exact ⟨by simp; omega, by simpa using this.2⟩
theorem idx_none {A : List ByteArray} {s : ByteArray} : idx A s = none ↔ s ∉ A := by
  induction A with
  | nil => simp [idx]
  | cons a r ih =>
    unfold idx
    split
    · rename_i e; subst e; simp
    · rename_i e
      rw [Option.map_eq_none_iff, ih]
      simp [Ne.symm e]
theorem idx_at {A : List ByteArray} (hn : A.Nodup) {i : Nat} {s : ByteArray} (h : A[i]? = some s) : idx A s = some i := by
  induction A generalizing i with
  | nil => simp at h
  | cons a r ih =>
    rw [List.nodup_cons] at hn
    unfold idx
    rcases i with _ | i
    · simp at h; subst h; simp
    · simp at h
      have hm : s ∈ r := List.mem_of_getElem? h
      rw [if_neg (fun e : a = s => hn.1 (by rw [e]; exact hm)), ih hn.2 h]
      rfl
theorem idx_snoc {A : List ByteArray} {s : ByteArray} (h : idx A s = none) (x : ByteArray) : idx (A ++ [s]) x = if x = s then some A.length else idx A x := by
  induction A with
  | nil => simp [idx]; by_cases e : s = x <;> simp [e, eq_comm]
  | cons a r ih =>
    have h' := idx_none.1 h
    have hr : idx r s = none := idx_none.2 (fun q => h' (by simp [q]))
    show idx (a :: (r ++ [s])) x = _
    unfold idx
    by_cases e : a = x
    · subst e
      rw [if_pos rfl, if_pos rfl, if_neg (fun e => h' (by simp [e]))]
    · rw [if_neg e, if_neg e, ih hr]
      split <;> simp
theorem sumOf_out {p : List Ent} {s : ByteArray} (h : s ∉ names p) : sumOf p s = 0 := by
  induction p with
  | nil => rfl
  | cons x r ih =>
    simp only [names, List.map_cons, List.mem_cons, not_or] at h
    unfold sumOf
    rw [if_neg (Ne.symm h.1), ih h.2]; rfl
theorem sumOf_snoc (p : List Ent) (x : Ent) (s : ByteArray) : sumOf (p ++ [x]) s = sumOf p s + if x.1 = s then x.2 else 0 := by
  induction p with
  | nil => simp [sumOf]
  | cons y r ih => simp only [List.cons_append, sumOf, ih]; omega
theorem total_snoc (p : List Ent) (x : Ent) : total (p ++ [x]) = total p + x.2 := by
  induction p with
  | nil => simp [total]
  | cons y r ih => simp only [List.cons_append, total, ih]; omega
theorem sumOf_bd {p : List Ent} (h : ∀ x ∈ p, x.2 ≤ maxC ∧ -maxC ≤ x.2) (s : ByteArray) : sumOf p s ≤ p.length * maxC ∧ -(p.length * maxC) ≤ sumOf p s := by
  induction p with
  | nil => simp [sumOf]
  | cons x r ih =>
    have := ih (fun y hy => h y (by simp [hy]))
    have hx := h x (by simp)
    simp only [sumOf, List.length_cons]
    unfold maxC at *
    split <;> omega
theorem total_bd {p : List Ent} (h : ∀ x ∈ p, x.2 ≤ maxC ∧ -maxC ≤ x.2) : total p ≤ p.length * maxC ∧ -(p.length * maxC) ≤ total p := by
  induction p with
  | nil => simp [total]
  | cons x r ih =>
    have := ih (fun y hy => h y (by simp [hy]))
    have hx := h x (by simp)
    simp only [total, List.length_cons]
    unfold maxC at *
    omega
theorem posted_nms (A : List Acc) (p : List Ent) : nms (posted A p) = nms A := by simp [nms, posted, Function.comp_def]
theorem sum_le (A : List Acc) (h : ∀ a ∈ A, -maxC ≤ a.has) : -(A.length * maxC) ≤ (A.map Acc.has).sum := by
  induction A with
  | nil => simp
  | cons a r ih =>
    have := ih (fun y hy => h y (by simp [hy]))
    have := h a (by simp)
    simp only [List.map_cons, List.sum_cons, List.length_cons]
    unfold maxC at *
    omega
theorem sum_split (A : List Acc) (i : Nat) (a : Acc) (hi : A[i]? = some a) : (A.map Acc.has).sum = a.has + ((A.eraseIdx i).map Acc.has).sum := by
  induction A generalizing i with
  | nil => simp at hi
  | cons b r ih =>
    rcases i with _ | i
    · simp at hi; subst hi; simp
    · simp at hi
      simp only [List.map_cons, List.sum_cons, List.eraseIdx_cons_succ, ih i hi]
      omega
/-- what an account has is small -/
theorem Sound.small {A : List Acc} (h : Sound A) {a : Acc} (ha : a ∈ A) : -maxC ≤ a.has ∧ a.has ≤ 65536 * maxC := by
  have g := h.good a ha
  refine ⟨by omega, ?_⟩
  obtain ⟨i, hi⟩ := List.getElem?_of_mem ha
  have e := sum_split A i a hi
  rw [h.sum] at e
  have l := sum_le (A.eraseIdx i) (fun y hy => by
    have := h.good y (List.mem_of_mem_eraseIdx hy)
    omega)
  have hl : (A.eraseIdx i).length ≤ A.length := List.length_eraseIdx_le _ _
  have := h.few
  unfold maxC at *
  omega
theorem sum_posted (A : List Acc) (p : List Ent) : ((posted A p).map Acc.has).sum = (A.map Acc.has).sum + ((nms A).map (sumOf p)).sum := by
  induction A with
  | nil => rfl
  | cons a r ih =>
    simp only [posted, nms, List.map_cons, List.sum_cons, List.map_map] at ih ⊢
    omega
theorem sum_total (A : List ByteArray) (p : List Ent) (hn : A.Nodup) (ht : ∀ s ∈ names p, s ∈ A) : (A.map (sumOf p)).sum = total p := by
  induction p with
  | nil =>
    have : A.map (sumOf []) = A.map (fun _ => (0 : Int)) := List.map_congr_left (fun _ _ => rfl)
    rw [this]
    clear this ht
    clear hn
    induction A with
    | nil => rfl
    | cons a r ih => simp only [List.map_cons, List.sum_cons]; rw [ih]; rfl
  | cons x r ih =>
    have ihr := ih (fun s hs => ht s (by simp only [names, List.map_cons, List.mem_cons] at hs ⊢; exact .inr hs))
    have hx : x.1 ∈ A := ht _ (by simp [names])
    have e1 : (A.map (sumOf (x :: r))).sum = (A.map (fun s => if x.1 = s then x.2 else 0)).sum + (A.map (sumOf r)).sum := by
      clear ihr hx ht ih hn
      induction A with
      | nil => rfl
      | cons a q ih2 =>
        simp only [List.map_cons, List.sum_cons]
        rw [ih2]
        show _ = _
        simp only [sumOf]; omega
    have e2 : (A.map (fun s => if x.1 = s then x.2 else 0)).sum = x.2 := by
      clear ihr e1 ht ih
      induction A with
      | nil => cases hx
      | cons a q ih2 =>
        rw [List.nodup_cons] at hn
        simp only [List.map_cons, List.sum_cons]
        by_cases e : x.1 = a
        · rw [if_pos e]
          have z : (q.map (fun s => if x.1 = s then x.2 else 0)).sum = 0 := by
            have hq : x.1 ∉ q := e ▸ hn.1
            clear ih2 hn hx
            induction q with
            | nil => rfl
            | cons b q ih3 =>
              simp only [List.mem_cons, not_or] at hq
              simp only [List.map_cons, List.sum_cons, if_neg hq.1, ih3 hq.2]; rfl
          rw [z]; omega
        · rw [if_neg e, ih2 hn.2 ((List.mem_cons.1 hx).resolve_left e)]; omega
    rw [e1, e2, ihr]; rfl
/-- a posting that may be done leaves all sound -/
theorem Sound.posted {A : List Acc} (h : Sound A) {p : List Ent} (hf : Formed p) (ht : allThere A p) (hl : ¬ isLow A p) : Sound (posted A p) := by
  refine ⟨by rw [posted_nms]; exact h.nd, by simp [Ytkdocoibfclfeaa.posted, h.few], fun a ha => ?_, ?_⟩
  · obtain ⟨b, hb, rfl⟩ := List.mem_map.1 ha
    have g := h.good b hb
    refine ⟨g.1, g.2.1, g.2.2.1, ?_⟩
    by_cases e : b.name ∈ names p
    · have : ¬ (b.has + sumOf p b.name < b.least) := fun q => hl ⟨b, hb, e, q⟩
      show b.least ≤ b.has + sumOf p b.name
      omega
    · show b.least ≤ b.has + sumOf p b.name
      rw [sumOf_out e]; omega
  · rw [sum_posted, h.sum, sum_total _ _ h.nd, hf.2.2.2]
    · rfl
    · intro s hs
      obtain ⟨i, hi⟩ := ht s hs
      exact List.mem_of_getElem? (idx_lt hi).2
theorem Sound.nil : Sound [] := ⟨List.nodup_nil, by simp, by simp, rfl⟩
theorem nms_snoc (A : List Acc) (a : Acc) : nms (A ++ [a]) = nms A ++ [a.name] := by simp [nms]
theorem Sound.opened {A : List Acc} (h : Sound A) {s : ByteArray} {l : Int} (hs : goodName s) (h1 : -maxC ≤ l) (h2 : l ≤ 0) (hi : idx (nms A) s = none) (hf : A.length < 65536) : Sound (A ++ [⟨s, l, 0⟩]) := by
  refine ⟨?_, by simp; omega, fun a ha => ?_, by simp [h.sum]⟩
  · rw [nms_snoc, List.nodup_append]
    exact ⟨h.nd, by simp, fun x hx y hy e => by simp at hy; subst hy; subst e; exact idx_none.1 hi hx⟩
  · rcases List.mem_append.1 ha with q | q
    · exact h.good a q
    · simp at q; subst q; exact ⟨hs, h1, h2, h2⟩
end Go.Proofs.Ytkdocoibfclfeaa

namespace Go.Proofs.Ytkdocoibfclfeaa
open Go.ChangeShapes Go.WideShapes Go.ChangeAt Go.RowKit Go.Deep Go.Maps Go.ChangeMaps Go.WideElems
set_option linter.unusedSimpArgs false
set_option linter.unusedVariables false

/-- each value as it is -/
def heldR (v : Value) : Option (DataW Value × List MemPlace) := some (.held v, [])
theorem heldR_eq (v : Value) : heldR v = some (.held v, []) := rfl
/-- block b is a map of n entries; f says what stands at each key -/
def MapIs (P : Program) (k : TypeId) (w : World) (b n : Nat) (f : Lit → Option Value) : Prop :=
  ∃ D, w.ownsMap P k heldR b n D ∧ Maps.size D = n ∧ (∀ kl, Maps.has D kl = (f kl).isSome) ∧ ∀ kl z, D.atKey kl (.held z) = .held ((f kl).getD z)
open Classical in
noncomputable def setAt (f : Lit → Option Value) (k : Lit) (v : Value) : Lit → Option Value := fun x => if x = k then some v else f x
theorem setAt_same (f : Lit → Option Value) (k : Lit) (v : Value) : setAt f k v k = some v := by simp [setAt]
theorem setAt_other (f : Lit → Option Value) {k x : Lit} (v : Value) (h : x ≠ k) : setAt f k v x = f x := by simp [setAt, h]
section
variable {P : Program} {k : TypeId} {w : World} {b n : Nat} {f : Lit → Option Value}
theorem MapIs.made (w : World) (P : Program) (k : TypeId) : MapIs P k (w.alloc (.map #[] 0)) w.heap.size 0 (fun _ => none) :=
  ⟨.map [], World.ownsMap_made w P k heldR, rfl, fun _ => rfl, fun _ _ => rfl⟩
theorem MapIs.lt (h : MapIs P k w b n f) : b < w.heap.size := by obtain ⟨D, h1, _⟩ := h; exact h1.lt
theorem MapIs.stays {w' : World} (h : MapIs P k w b n f) (hs : w.heap.size ≤ w'.heap.size) (hb : w'.heap[b]? = w.heap[b]?) : MapIs P k w' b n f := by
  obtain ⟨D, ⟨es, clock, h1, h2⟩, h3⟩ := h
  exact ⟨D, ⟨es, clock, hb.trans h1, h2⟩, h3⟩
theorem MapIs.ext {g : Lit → Option Value} (h : MapIs P k w b n f) (e : ∀ x, f x = g x) : MapIs P k w b n g := by
  obtain rfl : f = g := funext e
  exact h
theorem MapIs.isMap (h : MapIs P k w b n f) : ∃ es clock, w.heap[b]? = some (.map es clock) := by
  obtain ⟨D, ⟨es, clock, h1, _⟩, _⟩ := h
  exact ⟨es, clock, h1⟩
/-- 'm[k]' -/
theorem MapIs.look {t e : TypeId} (h : MapIs P k w b n f) (K : Keyed P k) (ht : P.underlying t = some (.map k e)) {z : Value} (hz : (zeroValue e).run P w = .ok z w) {key : Value} {kl : Lit} (hkey : keyOf P k key = some kl) :
    (Instr.lookup t (.map (some b)) key false).run P w = .ok ((f kl).getD z) w := by
  obtain ⟨D, h1, _, _, h4⟩ := h
  obtain ⟨v, ps, hrun, hv⟩ := h1.lookup K ht hz (heldR_eq z) hkey
  rw [h4] at hv
  simp only [heldR, Option.some.injEq, Prod.mk.injEq, DataW.held.injEq] at hv
  rw [hrun, hv.1]
/-- 'v, ok := m[k]' -/
theorem MapIs.look_ok {t e : TypeId} (h : MapIs P k w b n f) (K : Keyed P k) (ht : P.underlying t = some (.map k e)) {z : Value} (hz : (zeroValue e).run P w = .ok z w) {key : Value} {kl : Lit} (hkey : keyOf P k key = some kl) :
    (Instr.lookup t (.map (some b)) key true).run P w = .ok (.tuple #[(f kl).getD z, .bool (f kl).isSome]) w := by
  obtain ⟨D, h1, _, h3, h4⟩ := h
  obtain ⟨v, ps, hrun, hv⟩ := h1.look_ok K ht hz (heldR_eq z) hkey
  rw [h4] at hv
  simp only [heldR, Option.some.injEq, Prod.mk.injEq, DataW.held.injEq] at hv
  rw [hrun, hv.1, h3]
theorem MapIs.len {t e : TypeId} (h : MapIs P k w b n f) (ht : P.underlying t = some (.map k e)) (ty : TypeId) : (Builtin.len_ #[t] ty #[.map (some b)]).run P w = .ok (.int .i64 n) w := by
  obtain ⟨D, h1, h2, _⟩ := h
  rw [← h2]; exact h1.len ht ty
/-- 'm[k] = v' -/
theorem MapIs.store {t e : TypeId} (h : MapIs P k w b n f) (K : Keyed P k) (ht : P.underlying t = some (.map k e)) (hn : n < maxLen) {key val : Value} {kl : Lit} (hkey : keyOf P k key = some kl) :
    ∃ w', (Instr.mapUpdate t (.map (some b)) key val).run P w = .ok () w' ∧ MapIs P k w' b (if (f kl).isSome then n else n + 1) (setAt f kl val) ∧ w.mapTurned w' b := by
  obtain ⟨D, h1, h2, h3, h4⟩ := h
  obtain ⟨w', hrun, own, ht'⟩ := h1.store K ht hn hkey (heldR_eq val)
  have hk := K.key hkey
  refine ⟨w', hrun, ⟨D.put kl (.held val), ?_, ?_, ?_, ?_⟩, ht'⟩
  · obtain ⟨es, clock, q1, q2, q3, q4⟩ := own
    refine ⟨es, clock, q1, q2, ?_, q4⟩
    have e1 : Maps.size (D.put kl (.held val)) = es.size := by rw [q4]; simp [Maps.size, length_sorted]
    rw [size_put (h1.tidy K), h3, h2] at e1
    omega
  · rw [size_put (h1.tidy K), h3, h2]
  · intro x
    by_cases e : x = kl
    · subst e; rw [has_put_same h1.isMap hk, setAt_same]; rfl
    · rw [has_put_other e, h3, setAt_other _ _ e]
  · intro x z
    by_cases e : x = kl
    · subst e; rw [atKey_put_same h1.isMap hk, setAt_same]; rfl
    · rw [atKey_put_other e, h4, setAt_other _ _ e]
/-- 'for k, v := range m' under way -/
def Ranging (P : Program) (k : TypeId) (w : World) (b r n : Nat) (f : Lit → Option Value) (left : Lit → Bool) (cnt : Nat) : Prop :=
  ∃ D, w.ranges P k heldR b r n D left cnt ∧ Maps.size D = n ∧ (∀ kl, Maps.has D kl = (f kl).isSome) ∧ ∀ kl z, D.atKey kl (.held z) = .held ((f kl).getD z)
theorem Ranging.map {r : Nat} {left : Lit → Bool} {cnt : Nat} (h : Ranging P k w b r n f left cnt) : MapIs P k w b n f := by
  obtain ⟨D, h1, h2⟩ := h
  exact ⟨D, h1.owns, h2⟩
theorem Ranging.left_eq {r : Nat} {left : Lit → Bool} {cnt : Nat} (h : Ranging P k w b r n f left cnt) : w.rangeLeft b r = cnt := by
  obtain ⟨D, h1, h2⟩ := h
  exact h1.left_eq
theorem Ranging.lt {r : Nat} {left : Lit → Bool} {cnt : Nat} (h : Ranging P k w b r n f left cnt) : r < w.heap.size := by
  obtain ⟨D, h1, h2⟩ := h
  exact h1.lt
theorem Ranging.stays {r : Nat} {left : Lit → Bool} {cnt : Nat} {w' : World} (h : Ranging P k w b r n f left cnt) (hb : w'.heap[b]? = w.heap[b]?) (hr : w'.heap[r]? = w.heap[r]?) : Ranging P k w' b r n f left cnt := by
  obtain ⟨D, ⟨es, clock, since, seen, c0, q1, q2, q3, q4, q5, q6⟩, h2⟩ := h
  exact ⟨D, ⟨es, clock, since, seen, c0, hb.trans q1, q2, q3, q4, hr.trans q5, q6⟩, h2⟩
/-- what is left is there -/
theorem Ranging.has {r : Nat} {left : Lit → Bool} {cnt : Nat} (h : Ranging P k w b r n f left cnt) (K : Keyed P k) {kl : Lit} (hl : left kl = true) : ∃ v, f kl = some v := by
  obtain ⟨D, ⟨es, clock, since, seen, c0, q1, q2, q3, q4, q5, q6, q7, q8, q9, q10⟩, h2, h3, h4⟩ := h
  obtain ⟨x, hx, hk⟩ := q9 kl hl
  have : Maps.has D kl = true := by
    rw [q4, ← hk]
    obtain ⟨y, hy⟩ := q2.reads x hx
    exact List.any_eq_true.2 ⟨rg P k heldR x, mem_sorted.2 (List.mem_map.2 ⟨x, hx, rfl⟩), WideAt.sameKey_self (by rw [Go.WideElems.rg_of hy]; exact K.key (Go.WideElems.rd_key hy))⟩
  rw [h3] at this
  exact Option.isSome_iff_exists.1 this
end
section
variable {P : Program} (w : World) {ops : Array Oper} {rest : List Oper} {o : Oper} {a : Act} {Q : Exit → Act → World → Prop}
/-- 'range m' -/
theorem wpList_range_is (hg : o.guard = none) (m : Operand) (t : TypeId) (hop : o.op = Op.range t m) (k e : TypeId) (K : Keyed P k) (ht : P.underlying t = some (.map k e)) (b n : Nat) (f : Lit → Option Value)
    (hm : a.eval m = .map (some b)) (h : MapIs P k w b n f)
    (hK : ∀ w', Ranging P k w' b w.heap.size n f (fun kl => (f kl).isSome) n → w.grownBy w' none → w'.heap.size = w.heap.size + 1 → wpList P ops Q rest (a.put o.dst (.pointer (some ⟨w.heap.size, 0, none⟩))) w') :
    wpList P ops Q (o :: rest) a w := by
  obtain ⟨D, h1, h2, h3, h4⟩ := h
  refine wpList_range_own w hg m t hop k e K ht heldR b n D hm h1 ?_
  intro w' hr hgr hs
  refine hK w' ⟨D, ?_, h2, h3, h4⟩ hgr hs
  have e1 : Maps.has D = (fun kl => (f kl).isSome) := funext h3
  rw [← h2, ← e1, h2]
  rw [h2] at hr
  exact hr
/-- the next entry: keys and elements are ints -/
theorem wpList_next_ii (hg : o.guard = none) (it : Operand) (hop : o.op = Op.next it false) (k : TypeId) (K : Keyed P k) (hk : P.underlying k = some (.int .i64)) (b r n : Nat) (f : Lit → Option Value) (left : Lit → Bool) (cnt : Nat)
    (hit : a.eval it = .pointer (some ⟨r, 0, none⟩)) (h : Ranging P k w b r n f left cnt) (hf : ∀ kl v, f kl = some v → ∃ c, v = .int .i64 c)
    (hDone : cnt = 0 → (∀ kl, left kl = false) → wpList P ops Q rest (a.put o.dst (.tuple #[.bool false])) w)
    (hMore : ∀ (x c : Int) (w' : World) (cnt' : Nat), (Lit.int .i64 x).wf = true → left (.int .i64 x) = true → f (.int .i64 x) = some (.int .i64 c) → Ranging P k w' b r n f (fun z => left z && !z.sameKey (.int .i64 x)) cnt' → cnt' < cnt →
      w.grownBy w' (some r) → w'.heap.size = w.heap.size → (Instr.entry (.pointer (some ⟨r, 0, none⟩))).run P w' = .ok (.tuple #[.int .i64 x, .int .i64 c]) w' → wpList P ops Q rest (a.put o.dst (.tuple #[.bool true, .int .i64 x, .int .i64 c])) w') :
    wpList P ops Q (o :: rest) a w := by
  obtain ⟨D, h1, h2, h3, h4⟩ := h
  refine wpList_plain hg fun K' hK' => ?_
  unfold Oper.wp
  rcases h1.next K o.type with ⟨h0, hl, hrun⟩ | ⟨key, v, kl, y, w', cnt', hkey, hlk, hv, hat, hrun, hrg, hlt, hgr, hsz, hen⟩
  · simp [execOp, hop, hit, hrun, Result.andThen]
    exact hK' _ _ (hDone h0 hl)
  · obtain ⟨x, rfl, rfl, hwx⟩ := Maps.keyOf_int_inv hk hkey
    obtain ⟨v', hv'⟩ := Ranging.has ⟨D, h1, h2, h3, h4⟩ K hlk
    have e1 := hat (.held undef)
    rw [h4, hv'] at e1
    simp only [heldR, Option.some.injEq] at hv
    rw [← hv] at e1
    simp only [Option.getD_some, DataW.held.injEq] at e1
    subst e1
    obtain ⟨c, rfl⟩ := hf _ _ hv'
    simp [execOp, hop, hit, hrun, Result.andThen]
    exact hK' _ _ (hMore x c w' cnt' hwx hlk hv' ⟨D, hrg, h2, h3, h4⟩ hlt hgr hsz hen)
/-- 'm[k] = v' -/
theorem wpList_mapUpdate_is (hg : o.guard = none) (m x v : Operand) (t : TypeId) (hop : o.op = Op.mapUpdate t m x v) (k e : TypeId) (K : Keyed P k) (ht : P.underlying t = some (.map k e)) (b n : Nat) (f : Lit → Option Value)
    (hm : a.eval m = .map (some b)) (h : MapIs P k w b n f) (hn : n < maxLen) (key val : Value) (kl : Lit) (hx : a.eval x = key) (hv : a.eval v = val) (hkey : keyOf P k key = some kl)
    (hK : ∀ w', MapIs P k w' b (if (f kl).isSome then n else n + 1) (setAt f kl val) → w.mapTurned w' b → wpList P ops Q rest (a.put o.dst undef) w') :
    wpList P ops Q (o :: rest) a w := by
  refine wpList_plain hg fun K' hK' => ?_
  obtain ⟨w', hrun, r1, r2⟩ := h.store K ht hn hkey (val := val)
  unfold Oper.wp
  simp [execOp, hop, hm, hx, hv, hrun, Result.andThen]
  exact hK' _ _ (hK w' r1 r2)
end
end Go.Proofs.Ytkdocoibfclfeaa

namespace Go.Proofs.Ytkdocoibfclfeaa
open Go.ChangeShapes Go.WideShapes Go.ChangeAt Go.RowKit Go.Deep Go.Maps Go.ChangeMaps Go.WideMaps
set_option linter.unusedSimpArgs false
set_option linter.unusedVariables false

theorem law9 : Keyed Try.prog 9 := string_keyed Try.underlying9
theorem law3 : Keyed Try.prog 3 := int_keyed Try.underlying3
theorem zero3 (w : World) : (zeroValue 3).run Try.prog w = .ok (.int .i64 0) w := by kernel_rfl
theorem info9 : (Try.prog.info? 9).map (fun i => (i.zero, i.size, i.bytes)) = some (some (.string ⟨#[]⟩), 1, 16) := by kernel_rfl
/-- the number of a name, as the table tells it -/
def nameAt (A : List ByteArray) : Lit → Option Value
  | .string bs => (idx A ⟨bs.toArray⟩).map (fun (i : Nat) => Value.int .i64 (i : Int))
  | _ => none
theorem nameAt_str (A : List ByteArray) (s : ByteArray) : nameAt A (.string s.data.toList) = (idx A s).map (fun (i : Nat) => Value.int .i64 (i : Int)) := by simp [nameAt]
theorem nameAt_snoc {A : List ByteArray} {s : ByteArray} (h : idx A s = none) (x : Lit) : setAt (nameAt A) (.string s.data.toList) (.int .i64 (A.length : Int)) x = nameAt (A ++ [s]) x := by
  by_cases e : x = .string s.data.toList
  · subst e; rw [setAt_same, nameAt_str, idx_snoc h, if_pos rfl]; rfl
  · rw [setAt_other _ _ e]
    cases x <;> try rfl
    rename_i bs
    simp only [nameAt]
    rw [idx_snoc h, if_neg (fun q => e (by rw [← q]))]
theorem find_run {w : World} {a n : Nat} {A : List ByteArray} (h : MapIs Try.prog 9 w a n (nameAt A)) {s : ByteArray} (hs : s.size ≤ maxLen) : Sem.run Try.prog (Instr.lookup 110 (.map (some a)) (.string s) true) w = .ok (.tuple #[((idx A s).map (fun (i : Nat) => Value.int .i64 (i : Int))).getD (.int .i64 0), .bool (idx A s).isSome]) w := by
  rw [h.look_ok law9 Try.underlying110 (zero3 w) (keyOf_string_mk Try.underlying9 hs), nameAt_str]
  cases idx A s <;> rfl
set_option maxHeartbeats 1000000 in
theorem Find_yes (w : World) (t a n i : Nat) (A : List ByteArray) (s : ByteArray) (t1 : w.cell? ⟨t, 1, none⟩ = some (.map (some a))) (h : MapIs Try.prog 9 w a n (nameAt A)) (hs : s.size ≤ maxLen) (hi : idx A s = some i) : Calls Try.prog 49 #[.pointer (some ⟨t, 0, none⟩), .string s] w fun e w' => e = .returned (.tuple #[.int .i64 (i : Int), .bool true]) ∧ w = w' := by
  have q := find_run h hs
  rw [hi] at q
  simp only [Option.map_some, Option.getD_some, Option.isSome_some] at q
  clear h hi
  go_enter Try.func49, Try.ntmps49
  go_wp2_with (go_at_call 50; refine (isNames _ t a t1).mono ?_; rintro e w' ⟨rfl, rfl⟩)
  refine bodyPost_ret (v := .tuple #[.int .i64 (i : Int), .bool true]) (by simp [results, Try.f49, go_sem]) rfl ⟨rfl, rfl⟩
set_option maxHeartbeats 1000000 in
theorem Find_no (w : World) (t a n : Nat) (A : List ByteArray) (s : ByteArray) (t1 : w.cell? ⟨t, 1, none⟩ = some (.map (some a))) (h : MapIs Try.prog 9 w a n (nameAt A)) (hs : s.size ≤ maxLen) (hi : idx A s = none) : Calls Try.prog 49 #[.pointer (some ⟨t, 0, none⟩), .string s] w fun e w' => e = .returned (.tuple #[.int .i64 0, .bool false]) ∧ w = w' := by
  have q := find_run h hs
  rw [hi] at q
  simp only [Option.map_none, Option.getD_none, Option.isSome_none] at q
  clear h hi
  go_enter Try.func49, Try.ntmps49
  go_wp2_with (go_at_call 50; refine (isNames _ t a t1).mono ?_; rintro e w' ⟨rfl, rfl⟩)
  refine bodyPost_ret (v := .tuple #[.int .i64 0, .bool false]) (by simp [results, Try.f49, go_sem]) rfl ⟨rfl, rfl⟩
set_option maxHeartbeats 1000000 in
theorem Add_there (w : World) (t a n i : Nat) (A : List ByteArray) (s : ByteArray) (t1 : w.cell? ⟨t, 1, none⟩ = some (.map (some a))) (h : MapIs Try.prog 9 w a n (nameAt A)) (hs : goodName s) (hi : idx A s = some i) : Calls Try.prog 24 #[.pointer (some ⟨t, 0, none⟩), .string s] w fun e w' => e = .returned (.tuple #[.int .i64 0, .int .i64 5]) ∧ w = w' := by
  have q := find_run h (s := s) (by have := hs.2; unfold maxLen; omega)
  rw [hi] at q
  simp only [Option.map_some, Option.getD_some, Option.isSome_some] at q
  have HS := hide hs
  clear h hi hs
  go_enter Try.func24, Try.ntmps24
  go_wp2_with (first | (go_at_call 50; refine (isNames _ t a t1).mono ?_; rintro e w' ⟨rfl, rfl⟩) | (go_at_call 23; refine (Check_ok s _ HS.out.1 HS.out.2).mono ?_; rintro e w' ⟨rfl, rfl⟩))
  refine bodyPost_ret (v := .tuple #[.int .i64 0, .int .i64 5]) (by simp [results, Try.f24, go_sem]) rfl ⟨rfl, rfl⟩
/-- what Add does to the heap -/
def AddPost (t a : Nat) (lv : Value) (A : List ByteArray) (s : ByteArray) (w : World) (e : Ending) (w' : World) : Prop :=
  e = .returned (.tuple #[.int .i64 (A.length : Int), .int .i64 0]) ∧ ∃ lv', w'.ownsRow 0 9 1 lv' (A.length + 1) ((A ++ [s]).map Value.string) ∧ w'.cell? ⟨t, 0, none⟩ = some lv' ∧ w'.cell? ⟨t, 1, none⟩ = some (.map (some a)) ∧ w'.cell? ⟨t, 2, none⟩ = some (.int .i64 65536) ∧ w'.frozen? ⟨t, 0, none⟩ = false ∧ MapIs Try.prog 9 w' a (A.length + 1) (nameAt (A ++ [s])) ∧
    (lv'.ownBlock = lv.ownBlock ∨ ∃ k, lv'.ownBlock = some k ∧ w.heap.size ≤ k) ∧ w'.os = w.os ∧ w'.tape = w.tape ∧ w'.output = w.output ∧ w.heap.size ≤ w'.heap.size ∧ ∀ k, k < w.heap.size → k ≠ t → k ≠ a → lv.ownBlock ≠ some k → w'.heap[k]? = w.heap[k]?
theorem grown_heap {w w' : World} {r : Option Nat} (h : w.grownBy w' r) {k : Nat} (hk : k < w.heap.size) (hr : r ≠ some k) : w'.heap[k]? = w.heap[k]? := h.block k hk (fun e => hr e.symm)
theorem turned_heap {w w' : World} {b : Nat} (h : w.mapTurned w' b) {k : Nat} (hk : k ≠ b) (hl : k < w.heap.size) : w'.heap[k]? = w.heap[k]? := h.grown.block k hl (fun e => hk (Option.some.inj e))
theorem MapIs.grown {P : Program} {k : TypeId} {w : World} {b n : Nat} {f : Lit → Option Value} {w' : World} {r : Option Nat} (h : MapIs P k w b n f) (hg : w.grownBy w' r) (hr : r ≠ some b) : MapIs P k w' b n f := h.stays hg.size (hg.block b h.lt (fun e => hr e.symm))
theorem own_any {w : World} {base : Nat} {e : TypeId} {size : Nat} {v : Value} {n : Nat} {xs : List Value} (own : w.ownsRow base e size v n xs) : ∃ ao cap, v = .slice ao n cap := by
  rcases own.2 with ⟨rfl, rfl, _⟩ | ⟨k, c, cur, rfl, _⟩
  · exact ⟨none, 0, rfl⟩
  · exact ⟨_, _, rfl⟩
theorem behind1 {w w1 : World} {t : Nat} {lv : Value} {o : Obj} {x0 x1 x2 : Value} (hg : (w.alloc o).grownBy w1 lv.ownBlock) (t0 : w.cell? ⟨t, 0, none⟩ = some x0) (t1 : w.cell? ⟨t, 1, none⟩ = some x1) (t2 : w.cell? ⟨t, 2, none⟩ = some x2) (tf : w.frozen? ⟨t, 0, none⟩ = false) (hl : lv.ownBlock ≠ some t) :
    w1.cell? ⟨t, 0, none⟩ = some x0 ∧ w1.cell? ⟨t, 1, none⟩ = some x1 ∧ w1.cell? ⟨t, 2, none⟩ = some x2 ∧ w1.frozen? ⟨t, 0, none⟩ = false ∧ t < w1.heap.size := by
  have ht : t < w.heap.size := World.block_lt_of_cell? w _ t0
  have hb : w1.heap[t]? = w.heap[t]? := (hg.block t (by simp; omega) (fun e => hl e.symm)).trans (Below.heap_alloc w o t ht)
  refine ⟨(World.cell?_of_block (a := ⟨t, 0, none⟩) hb).trans t0, (World.cell?_of_block (a := ⟨t, 1, none⟩) hb).trans t1, (World.cell?_of_block (a := ⟨t, 2, none⟩) hb).trans t2, (World.frozen?_of_block (a := ⟨t, 0, none⟩) hb).trans tf, ?_⟩
  have := hg.size
  simp at this
  omega
theorem own_stays {w w' : World} {base : Nat} {e : TypeId} {size : Nat} {v : Value} {n : Nat} {xs : List Value} (h : w.ownsRow base e size v n xs) (hs : ∀ k, v.ownBlock = some k → w'.heap[k]? = w.heap[k]?) : w'.ownsRow base e size v n xs := by
  refine ⟨h.1, h.2.imp id ?_⟩
  rintro ⟨g, cap, cur, rfl, hb, hg, r⟩
  exact ⟨g, cap, cur, rfl, hb, (hs g rfl).trans hg, r⟩
theorem Add_close {w w1 w2 : World} {t a : Nat} {lv lv' : Value} {A : List ByteArray} {s : ByteArray} {o : Obj} (own1 : w1.ownsRow 0 9 1 lv' (A.length + 1) (A.map Value.string ++ [.string s])) (hg : (w.alloc o).grownBy w1 lv.ownBlock) (hloc : lv'.ownBlock = lv.ownBlock ∨ lv'.ownBlock = some (w.alloc o).heap.size)
    (b1 : w1.cell? ⟨t, 0, none⟩ = some lv) (b2 : w1.cell? ⟨t, 1, none⟩ = some (.map (some a))) (b3 : w1.cell? ⟨t, 2, none⟩ = some (.int .i64 65536)) (b4 : w1.frozen? ⟨t, 0, none⟩ = false) (ht : t < w.heap.size) (ha : a < w.heap.size) (hlt : lv.ownBlock ≠ some t) (hla : lv.ownBlock ≠ some a) (hat : a ≠ t)
    (hone : lv.oneCell' = true ∧ lv'.oneCell' = true) (hi : idx A s = none) (hm : MapIs Try.prog 9 w2 a (if (nameAt A (.string s.data.toList)).isSome then A.length else A.length + 1) (setAt (nameAt A) (.string s.data.toList) (.int .i64 (A.length : Int)))) (ht2 : (w1.setCell ⟨t, 0, none⟩ lv').mapTurned w2 a) :
    ∃ lv', w2.ownsRow 0 9 1 lv' (A.length + 1) ((A ++ [s]).map Value.string) ∧ w2.cell? ⟨t, 0, none⟩ = some lv' ∧ w2.cell? ⟨t, 1, none⟩ = some (.map (some a)) ∧ w2.cell? ⟨t, 2, none⟩ = some (.int .i64 65536) ∧ w2.frozen? ⟨t, 0, none⟩ = false ∧ MapIs Try.prog 9 w2 a (A.length + 1) (nameAt (A ++ [s])) ∧
    (lv'.ownBlock = lv.ownBlock ∨ ∃ k, lv'.ownBlock = some k ∧ w.heap.size ≤ k) ∧ w2.os = w.os ∧ w2.tape = w.tape ∧ w2.output = w.output ∧ w.heap.size ≤ w2.heap.size ∧ ∀ k, k < w.heap.size → k ≠ t → k ≠ a → lv.ownBlock ≠ some k → w2.heap[k]? = w.heap[k]? := by
  have hz1 : w.heap.size < w1.heap.size := by have := hg.size; simp at this; omega
  have hz2 : w1.heap.size ≤ w2.heap.size := by have := ht2.grown.size; simpa using this
  have hS : ∀ k, k < w1.heap.size → k ≠ a → w2.heap[k]? = (w1.setCell ⟨t, 0, none⟩ lv').heap[k]? := fun k hk hne => turned_heap ht2 hne (by simpa using hk)
  have hT : w2.heap[t]? = (w1.setCell ⟨t, 0, none⟩ lv').heap[t]? := hS t (by omega) (Ne.symm hat)
  have hO : ∀ k, k < w1.heap.size → k ≠ a → k ≠ t → w2.heap[k]? = w1.heap[k]? := fun k hk h1 h2 => (hS k hk h1).trans (heap_setCell_other _ _ _ _ h2)
  have hne' : ∀ k, lv'.ownBlock = some k → k ≠ t ∧ k ≠ a := by
    intro k hk
    rcases hloc with e | e
    · rw [e] at hk; exact ⟨fun q => hlt (q ▸ hk), fun q => hla (q ▸ hk)⟩
    · rw [e] at hk; simp at hk; omega
  refine ⟨lv', ?_, ?_, ?_, ?_, ?_, ?_, ?_, ?_, ?_, ?_, ?_, ?_⟩
  · rw [List.map_append]
    exact own_stays own1 (fun k hk => hO k (own1.lt k hk).2 (hne' k hk).2 (hne' k hk).1)
  · rw [World.cell?_of_block (a := ⟨t, 0, none⟩) hT]; simp [go_sem, b1, hone]
  · rw [World.cell?_of_block (a := ⟨t, 1, none⟩) hT]; simp [go_sem, b1, b2, hone]
  · rw [World.cell?_of_block (a := ⟨t, 2, none⟩) hT]; simp [go_sem, b1, b3, hone]
  · rw [World.frozen?_of_block (a := ⟨t, 0, none⟩) hT]; simp [go_sem, b4]
  · rw [nameAt_str, hi] at hm
    exact hm.ext (nameAt_snoc hi)
  · rcases hloc with e | e
    · exact .inl e
    · exact .inr ⟨_, e, by simp⟩
  · exact ht2.grown.os.trans hg.os
  · exact ht2.grown.tape.trans hg.tape
  · exact ht2.grown.output.trans hg.output
  · omega
  · intro k hk h1 h2 h3
    rw [hO k (by omega) h2 h1, hg.block k (by simp; omega) (fun e => h3 e.symm), Below.heap_alloc w o k hk]
set_option maxRecDepth 100000 in
set_option maxHeartbeats 2000000 in
theorem Add_ok (w : World) (t a : Nat) (lv : Value) (A : List ByteArray) (s : ByteArray) (t0 : w.cell? ⟨t, 0, none⟩ = some lv) (t1 : w.cell? ⟨t, 1, none⟩ = some (.map (some a))) (t2 : w.cell? ⟨t, 2, none⟩ = some (.int .i64 65536)) (tf : w.frozen? ⟨t, 0, none⟩ = false)
    (own : w.ownsRow 0 9 1 lv A.length (A.map Value.string)) (h : MapIs Try.prog 9 w a A.length (nameAt A)) (hs : goodName s) (hi : idx A s = none) (hm : A.length < 65536) (hlt : lv.ownBlock ≠ some t) (hla : lv.ownBlock ≠ some a) (hat : a ≠ t) :
    Calls Try.prog 24 #[.pointer (some ⟨t, 0, none⟩), .string s] w (AddPost t a lv A s w) := by
  have q := find_run h (s := s) (by have := hs.2; unfold maxLen; omega)
  rw [hi] at q
  simp only [Option.map_none, Option.getD_none, Option.isSome_none] at q
  have HS := hide hs
  have H := hide h
  have HI := hide hi
  have hta : t < w.heap.size := World.block_lt_of_cell? w _ t0
  obtain ⟨ao, cap, rfl⟩ := own_any own
  have OW := hide own
  have HL := hide (And.intro hlt (And.intro hla hat))
  obtain ⟨i0, hi0, hz0, hz1, hz2⟩ := info_parts info9
  have hne : ((A.length : Int) == 65536) = false := by (rw [beq_eq_false_iff_ne]; omega)
  have hne2 : decide ((A.length : Int) = 65536) = false := by (rw [decide_eq_false_iff_not]; omega)
  have C0 := hide t0
  have C1 := hide t1
  have C2 := hide t2
  have F0 := hide tf
  have ONE := hide (show ∀ u ∈ [Value.string s], u.oneCell' = true from fun u hu => by simp at hu; subst hu; rfl)
  have HSZ := hide (show s.size ≤ maxLen by have := hs.2; unfold maxLen; omega)
  clear h hi hs own hlt hla hat
  go_enter Try.func24, Try.ntmps24
  go_wp2_with (first
    | (go_at_call 50; refine (isNames _ t a C1.out).mono ?_; rintro e w' ⟨rfl, rfl⟩)
    | (go_at_call 23; refine (Check_ok s _ HS.out.1 HS.out.2).mono ?_; rintro e w' ⟨rfl, rfl⟩)
    | (at_builtin; (refine wpList_append_own_at _ rfl _ _ 22 rfl 0 9 i0 _ 1 16 Try.underlying22 hi0 hz0 hz1 hz2 rfl (by decide) _ _ _ rfl (OW.out.alloc _) ⟨w.heap.size, 0, none⟩ 1 1 [.string s] rfl rfl (cell_one_new _ _ _) ONE.out (by unfold maxLen; omega) (by omega) (Nat.zero_le _) ?_; intro lv' w1 own1 hg1 hnil hloc; obtain ⟨ao', cap', rfl⟩ := own_any own1; have GO1 := hide (And.intro own1 (And.intro hg1 (And.intro hnil hloc))); obtain ⟨b1, b2, b3, b4, b5⟩ := behind1 hg1 C0.out C1.out C2.out F0.out HL.out.1; have H1 := hide ((H.out.stays (by simp) (Below.heap_alloc w _ a H.out.lt)).grown hg1 HL.out.2.1); clear own1 hg1 hnil hloc))
    | (at_mapUpdate; (refine wpList_mapUpdate_is _ rfl _ _ _ 110 rfl 9 3 law9 Try.underlying110 a A.length (nameAt A) rfl (H1.out.stays (by simp) (heap_setCell_other _ _ _ _ HL.out.2.2)) (by unfold maxLen; omega) _ _ _ rfl rfl (keyOf_string_mk Try.underlying9 HSZ.out) ?_; intro w2 hm2 ht2; have HM2 := hide hm2; have HT2 := hide ht2; clear hm2 ht2)))
  refine bodyPost_ret (v := .tuple #[.int .i64 (A.length : Int), .int .i64 0]) (by simp [results, Try.f24, go_sem]) rfl ⟨rfl, ?_⟩
  exact Add_close (by simpa using GO1.out.1) GO1.out.2.1 GO1.out.2.2.2 b1 b2 b3 b4 hta H.out.lt HL.out.1 HL.out.2.1 HL.out.2.2 ⟨rfl, rfl⟩ HI.out HM2.out HT2.out
end Go.Proofs.Ytkdocoibfclfeaa

namespace Go.Proofs.Ytkdocoibfclfeaa
open Go.ChangeShapes Go.WideShapes Go.ChangeAt Go.RowKit Go.Deep Go.Maps Go.ChangeMaps Go.WideMaps
set_option linter.unusedSimpArgs false
set_option linter.unusedVariables false

def ent (p : List Ent) (i : Nat) : Ent := p.getD i (ByteArray.empty, 0)
def flatE (p : List Ent) : List Value := p.flatMap fun x => [.string x.1, .int .i64 x.2]
theorem flatE_cons (x : Ent) (p : List Ent) : flatE (x :: p) = .string x.1 :: .int .i64 x.2 :: flatE p := rfl
theorem flatE_snoc (p : List Ent) (x : Ent) : flatE (p ++ [x]) = flatE p ++ [.string x.1, .int .i64 x.2] := by simp [flatE]
theorem flatE_len (p : List Ent) : (flatE p).length = p.length * 2 := by
  induction p with
  | nil => rfl
  | cons x r ih => rw [flatE_cons]; simp only [List.length_cons, ih]; omega
theorem flatE_one (p : List Ent) : ∀ u ∈ flatE p, u.oneCell' = true := by
  intro u hu
  obtain ⟨x, _, hx⟩ := List.mem_flatMap.1 hu
  simp at hx
  rcases hx with rfl | rfl <;> rfl
theorem flatE_at (p : List Ent) : ∀ i, i < p.length → (flatE p)[i * 2]? = some (.string (ent p i).1) ∧ (flatE p)[i * 2 + 1]? = some (.int .i64 (ent p i).2) := by
  induction p with
  | nil => intro i h; simp at h
  | cons x r ih =>
    intro i h
    rcases i with _ | i
    · exact ⟨rfl, rfl⟩
    · have e : (i + 1) * 2 = i * 2 + 1 + 1 := by omega
      rw [flatE_cons, e, List.getElem?_cons_succ, List.getElem?_cons_succ, List.getElem?_cons_succ, List.getElem?_cons_succ]
      exact ih i (by simpa using h)
theorem ent_mem {p : List Ent} {i : Nat} (h : i < p.length) : ent p i ∈ p := by
  unfold ent; rw [List.getD_eq_getElem?_getD, List.getElem?_eq_getElem h]; exact List.getElem_mem h
theorem ent_of_mem {p : List Ent} {x : Ent} (h : x ∈ p) : ∃ i, i < p.length ∧ ent p i = x := by
  obtain ⟨i, hi, e⟩ := List.getElem_of_mem h
  exact ⟨i, hi, by unfold ent; rw [List.getD_eq_getElem?_getD, List.getElem?_eq_getElem hi]; exact e⟩
theorem take_snoc (p : List Ent) (k : Nat) (h : k < p.length) : p.take (k + 1) = p.take k ++ [ent p k] := by
  rw [List.take_succ_eq_append_getElem h]; unfold ent; rw [List.getD_eq_getElem?_getD, List.getElem?_eq_getElem h]; rfl
/-- entries that a slice shows -/
structure Ents (so : Option Addr) (cap : Nat) (p : List Ent) (w : World) : Prop where
  nil : so = none → p.length = 0 ∧ cap = 0
  ex : 0 < p.length → ∃ g off, so = some ⟨g, off, none⟩
  cells : ∀ ad, so = some ad → ∀ j u, (flatE p)[j]? = some u → w.cell? (ad.add j) = some u
theorem Ents.spot {so : Option Addr} {cap : Nat} {p : List Ent} {w : World} (h : Ents so cap p w) (h0 : 0 < p.length) : ∃ g off, so = some ⟨g, off, none⟩ ∧ ∀ i, i < p.length → w.cell? ⟨g, off + i * 2, none⟩ = some (.string (ent p i).1) ∧ w.cell? ⟨g, off + i * 2 + 1, none⟩ = some (.int .i64 (ent p i).2) := by
  obtain ⟨g, off, rfl⟩ := h.ex h0
  refine ⟨g, off, rfl, fun i hi => ⟨by have := h.cells _ rfl (i * 2) _ (flatE_at p i hi).1; rw [Addr.add_lit] at this; exact this, ?_⟩⟩
  have := h.cells _ rfl (i * 2 + 1) _ (flatE_at p i hi).2
  rw [Addr.add_lit] at this
  rw [show off + i * 2 + 1 = off + (i * 2 + 1) by omega]
  exact this
theorem Ents.stays {so : Option Addr} {cap : Nat} {p : List Ent} {w w' : World} (h : Ents so cap p w) (hk : ∀ ad j, so = some ad → (ad.add j).block < w.heap.size → w'.heap[(ad.add j).block]? = w.heap[(ad.add j).block]?) : Ents so cap p w' :=
  ⟨h.nil, h.ex, fun ad e j u hu => by
    have q := h.cells ad e j u hu
    exact (World.cell?_of_block (a := ad.add j) (hk ad j e (World.block_lt_of_cell? w _ q))).trans q⟩
theorem Ents.below {so : Option Addr} {cap : Nat} {p : List Ent} {w w' : World} (h : Ents so cap p w) (hb : Below w.heap.size w w') : Ents so cap p w' := h.stays fun ad j _ hk => hb.block _ hk
theorem Ents.of_own {w : World} {base n : Nat} {v : Value} {p : List Ent} (h : w.ownsRow base 63 2 v n (flatE p)) : ∃ so cap, v = .slice so p.length cap ∧ Ents so cap p w := by
  have hn : n = p.length := by have := h.1; rw [flatE_len] at this; omega
  subst hn
  rcases h.2 with ⟨rfl, h0⟩ | ⟨g, cap, cur, rfl, _⟩
  · exact ⟨none, 0, by rw [h0], ⟨fun _ => ⟨h0, rfl⟩, fun q => by omega, fun ad q => by cases q⟩⟩
  · refine ⟨_, cap, rfl, ⟨fun q => by (exact absurd q (by simp)), fun _ => ⟨g, 0, rfl⟩, fun ad q j u hu => ?_⟩⟩
    cases q
    exact h.cells rfl j u hu
open Classical in
noncomputable def formedB (p : List Ent) : Bool := decide (Formed p)
theorem formedB_yes {p : List Ent} (h : Formed p) : formedB p = true := by simp [formedB, h]
theorem formedB_no {p : List Ent} (h : ¬ Formed p) : formedB p = false := by simp [formedB, h]
def fRel (p : List Ent) (w : World) (k : Nat) (wr : World) : Prop := k ≤ p.length ∧ (∀ i, i < k → goodEnt (ent p i)) ∧ Below w.heap.size w wr
theorem all_good {p : List Ent} (h : ∀ i, i < p.length → goodEnt (ent p i)) : ∀ x ∈ p, goodEnt x := fun x hx => by
  obtain ⟨i, hi, rfl⟩ := ent_of_mem hx
  exact h i hi
theorem tot_step {p : List Ent} {k : Nat} (hk : k < p.length) (h : ∀ i, i < k → goodEnt (ent p i)) (hl : p.length ≤ 128) : total (p.take k) ≤ 128 * maxC ∧ -(128 * maxC) ≤ total (p.take k) ∧ total (p.take (k + 1)) = total (p.take k) + (ent p k).2 := by
  have hg : ∀ x ∈ p.take k, x.2 ≤ maxC ∧ -maxC ≤ x.2 := fun x hx => by
    obtain ⟨i, hi, rfl⟩ := List.getElem_of_mem hx
    have hi' : i < k ∧ i < p.length := by rw [List.length_take] at hi; omega
    have := h i hi'.1
    have e : ent p i = (p.take k)[i] := by
      unfold ent; rw [List.getD_eq_getElem?_getD, List.getElem?_eq_getElem hi'.2]; simp
    rw [e] at this
    exact ⟨this.2.2.1, this.2.2.2⟩
  have hb := total_bd hg
  have hlen : (p.take k).length = k := by simp; omega
  rw [hlen] at hb
  rw [take_snoc p k hk, total_snoc]
  unfold maxC at *
  omega

set_option maxRecDepth 100000 in
set_option maxHeartbeats 2000000 in
theorem formed_loop (so : Option Addr) (cap : Nat) (p : List Ent) (w : World) (h : Ents so cap p w) (h0 : 0 < p.length) (hl : p.length ≤ 128) : Calls Try.prog 51 #[.slice so p.length cap] w fun e w' => e = .returned (.bool (formedB p)) ∧ Below w.heap.size w w' := by
  obtain ⟨g, off, rfl, hc⟩ := h.spot h0
  have hgz : g < w.heap.size := World.block_lt_of_cell? w _ (hc 0 h0).1
  have HC := hide hc
  have HL := hide hl
  have b1 : decide ((p.length : Int) < 1) = false := by simp; omega
  have b2 : decide ((128 : Int) < (p.length : Int)) = false := by simp; omega
  clear h hc
  go_enter Try.func51, Try.ntmps51
  go_wp2
  go_loopw [3, 16] (fun v3 v16 wr => ∃ k : Nat, v16 = .int .i64 (k : Int) ∧ v3 = .int .i64 (total (p.take k)) ∧ fRel p w k wr) (fun _ v16 _ => p.length - (intOf v16).toNat)
  case atStart => exact ⟨0, rfl, rfl, Nat.zero_le _, fun i h => by omega, Below.refl _ _⟩
  case round =>
    obtain ⟨k, rfl, rfl, hkl, hgd, hbw⟩ := hrel
    have HG := hide hgd
    have HBW := hide hbw
    clear hgd hbw
    obtain ⟨T, hT⟩ : ∃ T, T = total (p.take k) := ⟨_, rfl⟩
    rw [← hT]
    have HT := hide hT
    clear hT
    by_cases hlt : k < p.length
    · have hc0 : wr.cell? ⟨g, off + k * 2, none⟩ = some (.string (ent p k).1) := (HBW.out.cell (p := ⟨g, off + k * 2, none⟩) hgz).trans (HC.out k hlt).1
      have hc1 : wr.cell? ⟨g, off + k * 2 + 1, none⟩ = some (.int .i64 (ent p k).2) := (HBW.out.cell (p := ⟨g, off + k * 2 + 1, none⟩) hgz).trans (HC.out k hlt).2
      obtain ⟨s, hs⟩ : ∃ s, s = (ent p k).1 := ⟨_, rfl⟩
      obtain ⟨c, hcc⟩ : ∃ c, c = (ent p k).2 := ⟨_, rfl⟩
      rw [← hs] at hc0
      rw [← hcc] at hc1
      have HSC := hide (show ent p k = (s, c) by rw [hs, hcc])
      clear hs hcc
      by_cases hg : goodEnt (s, c)
      · have HGE := hide hg
        have a1 : (c == 0) = false := by (rw [beq_eq_false_iff_ne]; exact hg.2.1)
        have a2 : decide (70368744177664 < c) = false := by (rw [decide_eq_false_iff_not]; have := hg.2.2.1; unfold maxC at this; show ¬ (70368744177664 : Int) < c; have q : c ≤ 70368744177664 := this; omega)
        have a3 : decide (c < -70368744177664) = false := by (rw [decide_eq_false_iff_not]; have q : -70368744177664 ≤ c := hg.2.2.2; omega)
        have a4 : decide (c = 0) = false := by (rw [decide_eq_false_iff_not]; exact hg.2.1)
        have TS := hide (tot_step hlt HG.out HL.out)
        have hadd : IntKind.i64.wrap (T + c) = T + c := IntWalk.i64_in _ (by have := TS.out; have q : c ≤ 70368744177664 := hg.2.2.1; have q2 : -70368744177664 ≤ c := hg.2.2.2; rw [← HT.out] at this; unfold maxC at this; constructor <;> omega)
        have hadd2 : wrap64 (T + c) = T + c := by rw [← IntWalk.i64_left]; exact hadd
        clear hg
        go_wp2_with (go_at_call 23; refine (Check_ok s _ HGE.out.1.1 HGE.out.1.2).mono ?_; rintro e w' ⟨rfl, rfl⟩)
        go_roundw
        case rel =>
          refine ⟨k + 1, by go_num, ?_, by omega, fun i hi => ?_, HBW.out.trans ((Below.refl _ _).alloc HBW.out.size _)⟩
          · rw [TS.out.2.2, HSC.out, ← HT.out]
          · rcases (by omega : i < k ∨ i = k) with q | q
            · exact HG.out i q
            · rw [q, HSC.out]; exact HGE.out
        case measure => simp [intOf]; omega
      · have HGE := hide hg
        have HF := hide (show formedB p = false from formedB_no fun q => HGE.out (by rw [← HSC.out]; exact q.2.2.1 _ (ent_mem hlt)))
        clear hg
        by_cases hn : goodName s
        · have HN := hide hn
          clear hn
          by_cases h1 : c = 0
          · have a1 : (c == 0) = true := by (rw [h1]; rfl)
            have a4 : decide (c = 0) = true := by (rw [decide_eq_true_iff]; exact h1)
            clear h1
            go_wp2_with (go_at_call 23; refine (Check_ok s _ HN.out.1 HN.out.2).mono ?_; rintro e w' ⟨rfl, rfl⟩)
            go_ret
            exact ⟨ret_bool HF.out.symm, HBW.out.trans ((Below.refl _ _).alloc HBW.out.size _)⟩
          · have a1 : (c == 0) = false := by (rw [beq_eq_false_iff_ne]; exact h1)
            have a4 : decide (c = 0) = false := by (rw [decide_eq_false_iff_not]; exact h1)
            have H1 := hide h1
            clear h1
            by_cases h2 : 70368744177664 < c
            · have a2 : decide (70368744177664 < c) = true := by (rw [decide_eq_true_iff]; exact h2)
              clear h2
              go_wp2_with (go_at_call 23; refine (Check_ok s _ HN.out.1 HN.out.2).mono ?_; rintro e w' ⟨rfl, rfl⟩)
              go_ret
              exact ⟨ret_bool HF.out.symm, HBW.out.trans ((Below.refl _ _).alloc HBW.out.size _)⟩
            · have a2 : decide (70368744177664 < c) = false := by (rw [decide_eq_false_iff_not]; exact h2)
              have a3 : decide (c < -70368744177664) = true := by
                rw [decide_eq_true_iff]
                refine Classical.byContradiction fun q => HGE.out ⟨HN.out, H1.out, ?_, ?_⟩
                · show c ≤ (70368744177664 : Int); omega
                · show (-70368744177664 : Int) ≤ c; omega
              clear h2
              go_wp2_with (go_at_call 23; refine (Check_ok s _ HN.out.1 HN.out.2).mono ?_; rintro e w' ⟨rfl, rfl⟩)
              go_ret
              exact ⟨ret_bool HF.out.symm, HBW.out.trans ((Below.refl _ _).alloc HBW.out.size _)⟩
        · have HN := hide (show s.size = 0 ∨ 64 < s.size by unfold goodName at hn; omega)
          clear hn
          rcases HN.out with q | q
          · have Q := hide q
            clear q
            go_wp2_with (go_at_call 23; refine (Check_short s _ Q.out).mono ?_; rintro e w' ⟨rfl, rfl⟩)
            go_ret
            exact ⟨ret_bool HF.out.symm, HBW.out.trans ((Below.refl _ _).alloc HBW.out.size _)⟩
          · have Q := hide q
            clear q
            go_wp2_with (go_at_call 23; refine (Check_long s _ Q.out).mono ?_; rintro e w' ⟨rfl, rfl⟩)
            go_ret
            exact ⟨ret_bool HF.out.symm, HBW.out.trans ((Below.refl _ _).alloc HBW.out.size _)⟩
    · have hke : k = p.length := by omega
      have HTT := hide (show T = total p by rw [HT.out, hke, List.take_length])
      have HGG := hide (show ∀ x ∈ p, goodEnt x from all_good (fun i hi => HG.out i (by omega)))
      clear hke
      by_cases h1 : T = 0
      · have a1 : (T == 0) = true := by (rw [h1]; rfl)
        have a4 : decide (T = 0) = true := by (rw [decide_eq_true_iff]; exact h1)
        have HF := hide (show formedB p = true from formedB_yes ⟨by omega, HL.out, HGG.out, by rw [← HTT.out]; exact h1⟩)
        clear h1
        go_wp2
        go_ret
        exact ⟨ret_bool HF.out.symm, HBW.out⟩
      · have a1 : (T == 0) = false := by (rw [beq_eq_false_iff_ne]; exact h1)
        have a4 : decide (T = 0) = false := by (rw [decide_eq_false_iff_not]; exact h1)
        have HF := hide (show formedB p = false from formedB_no (fun q => h1 (by rw [HTT.out]; exact q.2.2.2)))
        clear h1
        go_wp2
        go_ret
        exact ⟨ret_bool HF.out.symm, HBW.out⟩

set_option maxHeartbeats 1000000 in
theorem formed_short (so : Option Addr) (cap : Nat) (p : List Ent) (w : World) (h0 : p.length = 0) : Calls Try.prog 51 #[.slice so p.length cap] w fun e w' => e = .returned (.bool (formedB p)) ∧ Below w.heap.size w w' := by
  have HF := hide (show formedB p = false from formedB_no (fun q => by have := q.1; omega))
  have b1 : decide ((p.length : Int) < 1) = true := by simp; omega
  go_enter Try.func51, Try.ntmps51
  go_wp2
  go_ret
  exact ⟨ret_bool HF.out.symm, Below.refl _ _⟩
set_option maxHeartbeats 1000000 in
theorem formed_long (so : Option Addr) (cap : Nat) (p : List Ent) (w : World) (h0 : 128 < p.length) : Calls Try.prog 51 #[.slice so p.length cap] w fun e w' => e = .returned (.bool (formedB p)) ∧ Below w.heap.size w w' := by
  have HF := hide (show formedB p = false from formedB_no (fun q => by have := q.2.1; omega))
  have b1 : decide ((p.length : Int) < 1) = false := by simp; omega
  have b2 : decide ((128 : Int) < (p.length : Int)) = true := by simp; omega
  go_enter Try.func51, Try.ntmps51
  go_wp2
  go_ret
  exact ⟨ret_bool HF.out.symm, Below.refl _ _⟩
theorem formed_c (so : Option Addr) (cap : Nat) (p : List Ent) (w : World) (h : Ents so cap p w) : Calls Try.prog 51 #[.slice so p.length cap] w fun e w' => e = .returned (.bool (formedB p)) ∧ Below w.heap.size w w' := by
  rcases (by omega : p.length = 0 ∨ 128 < p.length ∨ (0 < p.length ∧ p.length ≤ 128)) with q | q | q
  · exact formed_short so cap p w q
  · exact formed_long so cap p w q
  · exact formed_loop so cap p w h q.1 q.2
end Go.Proofs.Ytkdocoibfclfeaa

namespace Go.Proofs.Ytkdocoibfclfeaa
open Go.ChangeShapes Go.WideShapes Go.ChangeAt Go.RowKit Go.Deep Go.Maps Go.ChangeMaps Go.WideMaps
set_option linter.unusedSimpArgs false
set_option linter.unusedVariables false

/-- a ledger's blocks -/
structure Fp where
  b : Nat
  t : Nat
  a : Nat
  m : Nat
  lv : Value
  pv : Value
def Fp.own (F : Fp) (k : Nat) : Prop := k = F.b ∨ k = F.t ∨ k = F.a ∨ k = F.m ∨ F.lv.ownBlock = some k ∨ F.pv.ownBlock = some k
def accV (a : Acc) : Value := .agg #[.string a.name, .int .i64 a.least, .int .i64 a.has]
def accAt (A : List Acc) : Lit → Option Value
  | .int .i64 x => if 0 ≤ x then (A[x.toNat]?).map accV else none
  | _ => none
theorem accAt_nat (A : List Acc) (i : Nat) : accAt A (.int .i64 (i : Int)) = (A[i]?).map accV := by simp [accAt]
theorem accAt_neg (A : List Acc) (x : Int) (h : x < 0) : accAt A (.int .i64 x) = none := by simp [accAt]; omega
/-- a posting's row, that nobody writes -/
def PostRow (I : Nat → Prop) (w : World) (v : Value) (p : List Ent) : Prop := w.ownsRow 0 63 2 v p.length (flatE p) ∧ ∀ k, v.ownBlock = some k → I k
structure Apart (F : Fp) : Prop where
  bt : F.b ≠ F.t
  ba : F.b ≠ F.a
  bm : F.b ≠ F.m
  ta : F.t ≠ F.a
  tm : F.t ≠ F.m
  am : F.a ≠ F.m
  l : ∀ k, F.lv.ownBlock = some k → k ≠ F.b ∧ k ≠ F.t ∧ k ≠ F.a ∧ k ≠ F.m ∧ F.pv.ownBlock ≠ some k
  p : ∀ k, F.pv.ownBlock = some k → k ≠ F.b ∧ k ≠ F.t ∧ k ≠ F.a ∧ k ≠ F.m
/-- a ledger that stands so; I: the blocks that nobody writes any more -/
structure LObj (I : Nat → Prop) (F : Fp) (S : LS) (w : World) : Prop where
  b0 : w.cell? ⟨F.b, 0, none⟩ = some (.pointer (some ⟨F.t, 0, none⟩))
  b1 : w.cell? ⟨F.b, 1, none⟩ = some (.map (some F.m))
  b2 : w.cell? ⟨F.b, 2, none⟩ = some F.pv
  bf : ∀ o, w.frozen? ⟨F.b, o, none⟩ = false
  t0 : w.cell? ⟨F.t, 0, none⟩ = some F.lv
  t1 : w.cell? ⟨F.t, 1, none⟩ = some (.map (some F.a))
  t2 : w.cell? ⟨F.t, 2, none⟩ = some (.int .i64 65536)
  tf : w.frozen? ⟨F.t, 0, none⟩ = false
  lr : w.ownsRow 0 9 1 F.lv S.acc.length ((nms S.acc).map Value.string)
  pr : ∃ vs : List Value, w.ownsRow 0 33 1 F.pv S.posts.length vs ∧ ∀ (i : Nat) (p : List Ent), S.posts[i]? = some p → ∃ v, vs[i]? = some v ∧ PostRow I w v p
  am : MapIs Try.prog 9 w F.a S.acc.length (nameAt (nms S.acc))
  mm : MapIs Try.prog 3 w F.m S.acc.length (accAt S.acc)
  ap : Apart F
  imm : ∀ k, F.own k → ¬ I k
  ilt : ∀ k, I k → k < w.heap.size
theorem LObj.lt {I : Nat → Prop} {F : Fp} {S : LS} {w : World} (h : LObj I F S w) {k : Nat} (hk : F.own k) : k < w.heap.size := by
  obtain ⟨vs, hp, _⟩ := h.pr
  rcases hk with rfl | rfl | rfl | rfl | q | q
  · exact World.block_lt_of_cell? w _ h.b0
  · exact World.block_lt_of_cell? w _ h.t0
  · exact h.am.lt
  · exact h.mm.lt
  · exact (h.lr.lt k q).2
  · exact (hp.lt k q).2
theorem cell_stay {w w' : World} {b o : Nat} {v : Value} (h : w.cell? ⟨b, o, none⟩ = some v) (e : w'.heap[b]? = w.heap[b]?) : w'.cell? ⟨b, o, none⟩ = some v := (World.cell?_of_block (a := ⟨b, o, none⟩) e).trans h
theorem fro_stay {w w' : World} {b o : Nat} {v : Bool} (h : w.frozen? ⟨b, o, none⟩ = v) (e : w'.heap[b]? = w.heap[b]?) : w'.frozen? ⟨b, o, none⟩ = v := (World.frozen?_of_block (a := ⟨b, o, none⟩) e).trans h
/-- nothing of it was written; more blocks may have been given up -/
theorem LObj.stays {I I' : Nat → Prop} {F : Fp} {S : LS} {w w' : World} (h : LObj I F S w) (hs : w.heap.size ≤ w'.heap.size) (hk : ∀ k, F.own k ∨ I k → w'.heap[k]? = w.heap[k]?) (hI : ∀ k, I k → I' k) (hN : ∀ k, I' k → ¬ I k → w.heap.size ≤ k ∧ k < w'.heap.size) : LObj I' F S w' := by
  have hb := hk F.b (.inl (.inl rfl))
  have ht := hk F.t (.inl (.inr (.inl rfl)))
  have ha := hk F.a (.inl (.inr (.inr (.inl rfl))))
  have hm := hk F.m (.inl (.inr (.inr (.inr (.inl rfl)))))
  obtain ⟨vs, hp, hq⟩ := h.pr
  refine ⟨cell_stay h.b0 hb, cell_stay h.b1 hb, cell_stay h.b2 hb, fun o => fro_stay (h.bf o) hb, cell_stay h.t0 ht, cell_stay h.t1 ht, cell_stay h.t2 ht, fro_stay h.tf ht,
    own_stays h.lr (fun k q => hk k (.inl (.inr (.inr (.inr (.inr (.inl q))))))), ⟨vs, own_stays hp (fun k q => hk k (.inl (.inr (.inr (.inr (.inr (.inr q))))))), fun i p e => ?_⟩, h.am.stays hs ha, h.mm.stays hs hm, h.ap, fun k q hi => ?_, fun k hi => ?_⟩
  · obtain ⟨v, e1, e2, e3⟩ := hq i p e
    exact ⟨v, e1, own_stays e2 (fun k q => hk k (.inr (e3 k q))), fun k q => hI k (e3 k q)⟩
  · by_cases hi0 : I k
    · exact h.imm k q hi0
    · have := h.lt q
      have := (hN k hi hi0).1
      omega
  · by_cases hi0 : I k
    · exact Nat.lt_of_lt_of_le (h.ilt k hi0) hs
    · exact (hN k hi hi0).2
/-- what a call on the ledger F may do -/
structure Step (I : Nat → Prop) (F : Fp) (w : World) (I' : Nat → Prop) (F' : Fp) (w' : World) : Prop where
  os : w'.os = w.os
  tape : w'.tape = w.tape
  output : w'.output = w.output
  size : w.heap.size ≤ w'.heap.size
  keep : ∀ k, k < w.heap.size → ¬ F.own k → w'.heap[k]? = w.heap[k]?
  own : ∀ k, F'.own k → F.own k ∨ w.heap.size ≤ k
  sub : ∀ k, I k → I' k
  new : ∀ k, I' k → ¬ I k → w.heap.size ≤ k ∧ k < w'.heap.size
  b : F'.b = F.b
  t : F'.t = F.t
  a : F'.a = F.a
  m : F'.m = F.m
theorem Step.of_below {I : Nat → Prop} {F : Fp} {w w' : World} (h : Below w.heap.size w w') : Step I F w I F w' :=
  ⟨h.os, h.tape, h.output, h.size, fun k hk _ => h.block k hk, fun _ q => .inl q, fun _ q => q, fun _ q n => absurd q n, rfl, rfl, rfl, rfl⟩
theorem Step.trans {I I1 I2 : Nat → Prop} {F F1 F2 : Fp} {w w1 w2 : World} (h : Step I F w I1 F1 w1) (g : Step I1 F1 w1 I2 F2 w2) : Step I F w I2 F2 w2 := by
  refine ⟨g.os.trans h.os, g.tape.trans h.tape, g.output.trans h.output, Nat.le_trans h.size g.size, fun k hk hn => ?_, fun k hk => ?_, fun k q => g.sub k (h.sub k q), fun k q hn => ?_, g.b.trans h.b, g.t.trans h.t, g.a.trans h.a, g.m.trans h.m⟩
  · refine (g.keep k (Nat.lt_of_lt_of_le hk h.size) (fun q => ?_)).trans (h.keep k hk hn)
    rcases h.own k q with q | q
    · exact hn q
    · omega
  · rcases g.own k hk with q | q
    · exact h.own k q
    · exact .inr (Nat.le_trans h.size q)
  · by_cases h1 : I1 k
    · have := h.new k h1 hn
      exact ⟨this.1, Nat.lt_of_lt_of_le this.2 g.size⟩
    · have := g.new k q h1
      exact ⟨Nat.le_trans h.size this.1, this.2⟩
/-- a ledger beside -/
theorem LObj.other {I I' : Nat → Prop} {F F' F2 : Fp} {S2 : LS} {w w' : World} (h : LObj I F2 S2 w) (hs : Step I F w I' F' w') (hd : ∀ k, F2.own k → ¬ F.own k) (hi : ∀ k, F.own k → ¬ I k) : LObj I' F2 S2 w' :=
  h.stays hs.size (fun k q => by
    rcases q with q | q
    · exact hs.keep k (h.lt q) (hd k q)
    · exact hs.keep k (h.ilt k q) (fun e => hi k e q)) hs.sub hs.new
theorem LObj.below {I : Nat → Prop} {F : Fp} {S : LS} {w w' : World} (h : LObj I F S w) (hb : Below w.heap.size w w') : LObj I F S w' :=
  h.stays hb.size (fun k q => hb.block k (by rcases q with q | q; exact h.lt q; exact h.ilt k q)) (fun _ q => q) (fun _ q n => absurd q n)
/-- apart they stay -/
theorem Step.apart {I I' : Nat → Prop} {F F' F2 : Fp} {w w' : World} (hs : Step I F w I' F' w') (hl : ∀ k, F2.own k → k < w.heap.size) (hd : ∀ k, F2.own k → ¬ F.own k) : ∀ k, F2.own k → ¬ F'.own k := fun k q e => by
  rcases hs.own k e with e | e
  · exact hd k q e
  · have := hl k q; omega
theorem Step.below {I I' : Nat → Prop} {F F' : Fp} {B : Nat} {w w' : World} (hs : Step I F w I' F' w') (hl : ∀ k, F.own k → B ≤ k) (hB : B ≤ w.heap.size) : Below B w w' :=
  ⟨hs.os, hs.tape, hs.output, hs.size, fun k hk => hs.keep k (by omega) (fun q => by have := hl k q; omega)⟩
theorem zero70 (w : World) : (zeroValue 70).run Try.prog w = .ok (.agg #[.string ⟨#[]⟩, .int .i64 0, .int .i64 0]) w := by kernel_rfl
theorem wf_small {i : Nat} (h : i < 9223372036854775808) : (Lit.int .i64 (i : Int)).wf = true := WalkArith.wf_i64 (by omega)
theorem acc_look {w : World} {m n : Nat} {A : List Acc} (h : MapIs Try.prog 3 w m n (accAt A)) {i : Nat} {a : Acc} (hl : i < 9223372036854775808) (hi : A[i]? = some a) : Sem.run Try.prog (Instr.lookup 57 (.map (some m)) (.int .i64 (i : Int)) false) w = .ok (.agg #[.string a.name, .int .i64 a.least, .int .i64 a.has]) w := by
  rw [h.look law3 Try.underlying57 (zero70 w) (keyOf_int_mk Try.underlying3 (wf_small hl)), accAt_nat, hi]; rfl
theorem acc_look_ok {w : World} {m n : Nat} {A : List Acc} (h : MapIs Try.prog 3 w m n (accAt A)) {i : Nat} {a : Acc} (hl : i < 9223372036854775808) (hi : A[i]? = some a) : Sem.run Try.prog (Instr.lookup 57 (.map (some m)) (.int .i64 (i : Int)) true) w = .ok (.tuple #[.agg #[.string a.name, .int .i64 a.least, .int .i64 a.has], .bool true]) w := by
  rw [h.look_ok law3 Try.underlying57 (zero70 w) (keyOf_int_mk Try.underlying3 (wf_small hl)), accAt_nat, hi]; rfl
theorem acc_look_no {w : World} {m n : Nat} {A : List Acc} (h : MapIs Try.prog 3 w m n (accAt A)) {x : Int} (hl : (Lit.int .i64 x).wf = true) (hi : x < 0 ∨ A.length ≤ x) : Sem.run Try.prog (Instr.lookup 57 (.map (some m)) (.int .i64 x) true) w = .ok (.tuple #[.agg #[.string ⟨#[]⟩, .int .i64 0, .int .i64 0], .bool false]) w := by
  have e : accAt A (.int .i64 x) = none := by
    simp only [accAt]
    split
    · rw [List.getElem?_eq_none (by omega)]; rfl
    · rfl
  rw [h.look_ok law3 Try.underlying57 (zero70 w) (keyOf_int_mk Try.underlying3 hl), e]; rfl
theorem acc_set {A : List Acc} {i : Nat} {a : Acc} (hi : i < A.length) (x : Lit) : setAt (accAt A) (.int .i64 (i : Int)) (accV a) x = accAt (A.set i a) x := by
  by_cases e : x = .int .i64 (i : Int)
  · subst e; rw [setAt_same, accAt_nat]; simp [hi]
  · rw [setAt_other _ _ e]
    unfold accAt
    split
    · split
      · rename_i y hy
        have : i ≠ y.toNat := fun q => e (by rw [q]; congr; omega)
        rw [List.getElem?_set_ne this]
      · rfl
    · rfl
theorem acc_snoc {A : List Acc} {a : Acc} (x : Lit) : setAt (accAt A) (.int .i64 (A.length : Int)) (accV a) x = accAt (A ++ [a]) x := by
  by_cases e : x = .int .i64 (A.length : Int)
  · subst e; rw [setAt_same, accAt_nat]; simp
  · rw [setAt_other _ _ e]
    unfold accAt
    split
    · split
      · rename_i y hy
        have : A.length ≠ y.toNat := fun q => e (by rw [q]; congr; omega)
        rcases (by omega : y.toNat < A.length ∨ A.length < y.toNat) with q | q
        · rw [List.getElem?_append_left q]
        · rw [List.getElem?_eq_none (by omega), List.getElem?_eq_none (by simp; omega)]
      · rfl
    · rfl
end Go.Proofs.Ytkdocoibfclfeaa

namespace Go.Proofs.Ytkdocoibfclfeaa
open Go.ChangeShapes Go.WideShapes Go.ChangeAt Go.RowKit Go.Deep Go.Maps Go.ChangeMaps Go.WideMaps
set_option linter.unusedSimpArgs false
set_option linter.unusedVariables false

theorem zero2 (w : World) : (zeroValue 2).run Try.prog w = .ok (.int .i64 0) w := by kernel_rfl
theorem has_look {w : World} {m n : Nat} {f : Lit → Option Value} (h : MapIs Try.prog 3 w m n f) {i : Nat} {v : Int} (hl : i < 9223372036854775808) (hi : f (.int .i64 (i : Int)) = some (.int .i64 v)) : Sem.run Try.prog (Instr.lookup 75 (.map (some m)) (.int .i64 (i : Int)) false) w = .ok (.int .i64 v) w := by
  rw [h.look law3 Try.underlying75 (zero2 w) (keyOf_int_mk Try.underlying3 (wf_small hl)), hi]; rfl
theorem has_look_ok {w : World} {m n : Nat} {f : Lit → Option Value} (h : MapIs Try.prog 3 w m n f) {i : Nat} {v : Int} (hl : i < 9223372036854775808) (hi : f (.int .i64 (i : Int)) = some (.int .i64 v)) : Sem.run Try.prog (Instr.lookup 75 (.map (some m)) (.int .i64 (i : Int)) true) w = .ok (.tuple #[.int .i64 v, .bool true]) w := by
  rw [h.look_ok law3 Try.underlying75 (zero2 w) (keyOf_int_mk Try.underlying3 (wf_small hl)), hi]; rfl
theorem has_look_no {w : World} {m n : Nat} {f : Lit → Option Value} (h : MapIs Try.prog 3 w m n f) {i : Nat} (hl : i < 9223372036854775808) (hi : f (.int .i64 (i : Int)) = none) : Sem.run Try.prog (Instr.lookup 75 (.map (some m)) (.int .i64 (i : Int)) true) w = .ok (.tuple #[.int .i64 0, .bool false]) w := by
  rw [h.look_ok law3 Try.underlying75 (zero2 w) (keyOf_int_mk Try.underlying3 (wf_small hl)), hi]; rfl
def AddedTo (mh n : Nat) (f : Lit → Option Value) (k : Lit) (v : Value) (w w' : World) : Prop := MapIs Try.prog 3 w' mh n (setAt f k v) ∧ w.grownBy w' (some mh)
theorem grown_of_turned {w w1 : World} {b : Nat} (h : w.mapTurned w1 b) : w.grownBy w1 (some b) := h.grown
theorem grown_trans {w w1 w2 : World} {r : Option Nat} (h : w.grownBy w1 r) (g : w1.grownBy w2 r) : w.grownBy w2 r :=
  ⟨g.os.trans h.os, g.tape.trans h.tape, g.output.trans h.output, Nat.le_trans h.size g.size, fun k hk hr => (g.block k (Nat.lt_of_lt_of_le hk h.size) hr).trans (h.block k hk hr)⟩
theorem setAt_twice (f : Lit → Option Value) (k : Lit) (u v : Value) (x : Lit) : setAt (setAt f k u) k v x = setAt f k v x := by
  by_cases e : x = k
  · subst e; rw [setAt_same, setAt_same]
  · rw [setAt_other _ _ e, setAt_other _ _ e, setAt_other _ _ e]
theorem field70_2 (s : ByteArray) (l h : Int) (w : World) : Sem.run Try.prog (Instr.field 70 (.agg #[.string s, .int .i64 l, .int .i64 h]) 2) w = .ok (.int .i64 h) w := by kernel_rfl
theorem field70_1 (s : ByteArray) (l h : Int) (w : World) : Sem.run Try.prog (Instr.field 70 (.agg #[.string s, .int .i64 l, .int .i64 h]) 1) w = .ok (.int .i64 l) w := by kernel_rfl
set_option maxRecDepth 100000 in
set_option maxHeartbeats 2000000 in
theorem add_yes (Bh Bl mh cnt n : Nat) (f : Lit → Option Value) (v c : Int) (w : World) (h0 : w.cell? ⟨Bh, 0, none⟩ = some (.map (some mh))) (hf : MapIs Try.prog 3 w mh cnt f) (hn : n < 65536) (hc : cnt < 65536) (hi : f (.int .i64 (n : Int)) = some (.int .i64 v)) (hb1 : -9223372036854775808 ≤ v + c) (hb2 : v + c ≤ 9223372036854775807) :
    Calls Try.prog 52 #[.int .i64 (n : Int), .int .i64 c, .pointer (some ⟨Bh, 0, none⟩), .pointer (some ⟨Bl, 0, none⟩)] w fun e w' => (∃ r, e = .returned r) ∧ AddedTo mh cnt f (.int .i64 (n : Int)) (.int .i64 (v + c)) w w' := by
  have q1 := has_look_ok hf (by omega) hi
  have q2 := has_look hf (by omega) hi
  have a1 : IntKind.i64.wrap (v + c) = v + c := IntWalk.i64_in _ ⟨hb1, hb2⟩
  have a2 : wrap64 (v + c) = v + c := by rw [← IntWalk.i64_left]; exact a1
  have HF := hide hf
  have HI := hide hi
  have HN := hide (show n < 9223372036854775808 by omega)
  clear hf hi hb1 hb2
  go_enter Try.func52, Try.ntmps52
  go_wp2_with (at_mapUpdate; refine wpList_mapUpdate_is _ rfl _ _ _ 75 rfl 3 2 law3 Try.underlying75 mh cnt f rfl HF.out (by unfold maxLen; omega) _ _ _ rfl rfl (keyOf_int_mk Try.underlying3 (wf_small HN.out)) ?_; intro w2 hm2 ht2; have HM2 := hide hm2; have HT2 := hide ht2; clear hm2 ht2)
  go_end0
  refine ⟨⟨_, rfl⟩, ?_, HT2.out.grown⟩
  have := HM2.out
  rw [HI.out] at this
  exact this
set_option maxRecDepth 100000 in
set_option maxHeartbeats 2000000 in
theorem add_no (Bh Bl b m mh cnt n : Nat) (A : List Acc) (a : Acc) (f : Lit → Option Value) (c : Int) (w : World) (h0 : w.cell? ⟨Bh, 0, none⟩ = some (.map (some mh))) (h1 : w.cell? ⟨Bl, 0, none⟩ = some (.pointer (some ⟨b, 0, none⟩))) (h2 : w.cell? ⟨b, 1, none⟩ = some (.map (some m))) (hA : MapIs Try.prog 3 w m A.length (accAt A)) (ha : A[n]? = some a) (hf : MapIs Try.prog 3 w mh cnt f) (hn : n < 65536) (hc : cnt < 65536) (hi : f (.int .i64 (n : Int)) = none) (hb1 : -9223372036854775808 ≤ a.has + c) (hb2 : a.has + c ≤ 9223372036854775807) :
    Calls Try.prog 52 #[.int .i64 (n : Int), .int .i64 c, .pointer (some ⟨Bh, 0, none⟩), .pointer (some ⟨Bl, 0, none⟩)] w fun e w' => (∃ r, e = .returned r) ∧ AddedTo mh (cnt + 1) f (.int .i64 (n : Int)) (.int .i64 (a.has + c)) w w' := by
  have q1 := has_look_no hf (by omega) hi
  have q2 : Sem.run Try.prog (Instr.lookup 57 (.map (some m)) (.int .i64 (n : Int)) false) ({ heap := w.heap, tape := w.tape, drawn := w.drawn + 1, os := w.os, output := w.output } : World) = .ok (.agg #[.string a.name, .int .i64 a.least, .int .i64 a.has]) ({ heap := w.heap, tape := w.tape, drawn := w.drawn + 1, os := w.os, output := w.output } : World) := acc_look (w := w.drew) (hA.stays (Nat.le_refl _) rfl) (by omega) ha
  have q2' := acc_look (w := w.drew) (hA.stays (Nat.le_refl _) rfl) (by omega) ha
  have q4 := field70_2 a.name a.least a.has
  have a1 : IntKind.i64.wrap (a.has + c) = a.has + c := IntWalk.i64_in _ ⟨hb1, hb2⟩
  have a2 : wrap64 (a.has + c) = a.has + c := by rw [← IntWalk.i64_left]; exact a1
  have hBh : Bh ≠ mh := by
    intro e
    obtain ⟨es, ck, hes⟩ := hf.isMap
    subst e
    simp [World.cell?, hes] at h0
  have HF := hide hf
  have HI := hide hi
  have H0 := hide h0
  have HBh := hide hBh
  have HN := hide (show n < 9223372036854775808 by omega)
  have HC := hide (show cnt + 1 < maxLen by unfold maxLen; omega)
  clear hA ha hf hi hb1 hb2 hBh
  go_enter Try.func52, Try.ntmps52
  go_wp2
  go_still_tail 9, (by kernel_rfl)
  (at_mapUpdate; refine wpList_mapUpdate_is _ rfl _ _ _ 75 rfl 3 2 law3 Try.underlying75 mh cnt f rfl (HF.out.stays (Nat.le_refl _) rfl) (by unfold maxLen; omega) _ _ _ rfl rfl (keyOf_int_mk Try.underlying3 (wf_small HN.out)) ?_; intro w2 hm2 ht2)
  rw [HI.out] at hm2
  have g2 := grown_of_turned ht2
  have c2 : w2.cell? ⟨Bh, 0, none⟩ = some (.map (some mh)) := cell_stay H0.out (grown_heap g2 (World.block_lt_of_cell? w _ H0.out) (fun e => HBh.out (Option.some.inj e).symm))
  have q3 := has_look hm2 HN.out (setAt_same _ _ _)
  have HG2 := hide (show w.grownBy w2 (some mh) from ⟨g2.os, g2.tape, g2.output, g2.size, g2.block⟩)
  have HM2 := hide hm2
  clear g2 ht2 hm2
  go_wp2_with (at_mapUpdate; refine wpList_mapUpdate_is _ rfl _ _ _ 75 rfl 3 2 law3 Try.underlying75 mh (cnt + 1) _ rfl HM2.out HC.out _ _ _ rfl rfl (keyOf_int_mk Try.underlying3 (wf_small HN.out)) ?_; intro w3 hm3 ht3; have HM3 := hide hm3; have HT3 := hide ht3; clear hm3 ht3)
  go_end0
  refine ⟨⟨_, rfl⟩, ?_, grown_trans HG2.out HT3.out.grown⟩
  have := HM3.out
  rw [setAt_same] at this
  exact this.ext (setAt_twice _ _ _ _)
end Go.Proofs.Ytkdocoibfclfeaa

namespace Go.Proofs.Ytkdocoibfclfeaa
open Go.ChangeShapes Go.WideShapes Go.ChangeAt Go.RowKit Go.Deep Go.Maps Go.ChangeMaps Go.WideMaps
set_option linter.unusedSimpArgs false
set_option linter.unusedVariables false

open Classical in
noncomputable def behF (A : List Acc) (q : List Ent) : Lit → Option Value
  | .int .i64 x => if 0 ≤ x then (match A[x.toNat]? with | some a => if a.name ∈ names q then some (.int .i64 (a.has + sumOf q a.name)) else none | none => none) else none
  | _ => none
theorem behF_at {A : List Acc} {q : List Ent} {n : Nat} {a : Acc} (h : A[n]? = some a) (hm : a.name ∈ names q) : behF A q (.int .i64 (n : Int)) = some (.int .i64 (a.has + sumOf q a.name)) := by
  simp [behF, h, hm]
theorem behF_not {A : List Acc} {q : List Ent} {n : Nat} {a : Acc} (h : A[n]? = some a) (hm : a.name ∉ names q) : behF A q (.int .i64 (n : Int)) = none := by
  simp [behF, h, hm]
theorem behF_nil (A : List Acc) (x : Lit) : behF A [] x = none := by
  unfold behF
  split
  · split
    · split
      · rw [if_neg (by simp [names])]
      · rfl
    · rfl
  · rfl
theorem behF_inv {A : List Acc} {q : List Ent} {x : Lit} {v : Value} (h : behF A q x = some v) : ∃ (n : Nat) (a : Acc), x = .int .i64 (n : Int) ∧ A[n]? = some a ∧ a.name ∈ names q ∧ v = .int .i64 (a.has + sumOf q a.name) := by
  unfold behF at h
  split at h
  · rename_i y
    split at h
    · rename_i hy
      split at h
      · rename_i a ha
        split at h
        · rename_i hm
          cases h
          exact ⟨y.toNat, a, by congr; omega, ha, hm, rfl⟩
        · cases h
      · cases h
    · cases h
  · cases h
theorem names_snoc (q : List Ent) (x : Ent) : names (q ++ [x]) = names q ++ [x.1] := by simp [names]
theorem behF_step {A : List Acc} (hn : (nms A).Nodup) {q : List Ent} {s : ByteArray} {c : Int} {n : Nat} {a : Acc} (h : A[n]? = some a) (hs : a.name = s) (x : Lit) : setAt (behF A q) (.int .i64 (n : Int)) (.int .i64 (a.has + sumOf q s + c)) x = behF A (q ++ [(s, c)]) x := by
  subst hs
  by_cases e : x = .int .i64 (n : Int)
  · subst e
    rw [setAt_same, behF_at h (by rw [names_snoc]; simp), sumOf_snoc]
    simp only [if_true, Option.some.injEq, Value.int.injEq, true_and]
    omega
  · rw [setAt_other _ _ e]
    unfold behF
    split
    · split
      · rename_i y hy
        split
        · rename_i b hb
          have hne : b.name ≠ a.name := by
            intro q2
            have h1 : (nms A)[y.toNat]? = some b.name := by simp [nms, hb]
            have h2 : (nms A)[n]? = some a.name := by simp [nms, h]
            rw [q2] at h1
            have e1 := (idx_at hn h1).symm.trans (idx_at hn h2)
            have : y.toNat = n := Option.some.inj e1
            exact e (by congr; omega)
          have e1 : (b.name ∈ names (q ++ [(a.name, c)])) ↔ b.name ∈ names q := by rw [names_snoc]; simp [hne]
          by_cases hm : b.name ∈ names q
          · rw [if_pos hm, if_pos (e1.2 hm), sumOf_snoc, if_neg (Ne.symm hne)]
            simp
          · rw [if_neg hm, if_neg (fun q2 => hm (e1.1 q2))]
        · rfl
      · rfl
    · rfl
theorem idx_acc {A : List Acc} {s : ByteArray} {n : Nat} (h : idx (nms A) s = some n) : ∃ a, A[n]? = some a ∧ a.name = s := by
  obtain ⟨h1, h2⟩ := idx_lt h
  have hl : n < A.length := by simpa [nms] using h1
  refine ⟨A[n], List.getElem?_eq_getElem hl, ?_⟩
  have : (nms A)[n]? = some (A[n]).name := by simp [nms, List.getElem?_eq_getElem hl]
  rw [this] at h2
  exact Option.some.inj h2
/-- what stands in the first loop -/
structure BR (A : List Acc) (p : List Ent) (F : Fp) (Bl Bh mh : Nat) (w : World) (k : Nat) (wr : World) : Prop where
  le : k ≤ p.length
  found : ∀ i, i < k → ∃ n, idx (nms A) (ent p i).1 = some n
  map : ∃ cnt, cnt ≤ k ∧ MapIs Try.prog 3 wr mh cnt (behF A (p.take k))
  cl : wr.cell? ⟨Bl, 0, none⟩ = some (.pointer (some ⟨F.b, 0, none⟩))
  ch : wr.cell? ⟨Bh, 0, none⟩ = some (.map (some mh))
  low : Below w.heap.size w wr
theorem BR.below {A : List Acc} {p : List Ent} {F : Fp} {Bl Bh mh : Nat} {w : World} {k : Nat} {wr wq : World} (h : BR A p F Bl Bh mh w k wr) (hb : Below wr.heap.size wr wq) : BR A p F Bl Bh mh w k wq := by
  obtain ⟨cnt, h1, h2⟩ := h.map
  exact ⟨h.le, h.found, ⟨cnt, h1, h2.stays hb.size (hb.block _ h2.lt)⟩, cell_stay h.cl (hb.block _ (World.block_lt_of_cell? wr _ h.cl)), cell_stay h.ch (hb.block _ (World.block_lt_of_cell? wr _ h.ch)), h.low.trans (hb.mono h.low.size)⟩
theorem not_map {w : World} {b o mh cnt : Nat} {v : Value} {k : TypeId} {f : Lit → Option Value} (h : MapIs Try.prog k w mh cnt f) (hc : w.cell? ⟨b, o, none⟩ = some v) : b ≠ mh := by
  intro e
  obtain ⟨es, ck, hes⟩ := h.isMap
  subst e
  simp [World.cell?, hes] at hc
theorem BR.step {A : List Acc} {p : List Ent} {F : Fp} {Bl Bh mh : Nat} {w : World} {k : Nat} {wq wn : World} {s : ByteArray} {c : Int} {n cnt' : Nat} {a : Acc} (h : BR A p F Bl Bh mh w k wq) (hk : k < p.length) (he : ent p k = (s, c)) (hn : (nms A).Nodup) (hi : idx (nms A) s = some n) (ha : A[n]? = some a) (hs : a.name = s) (hm : w.heap.size ≤ mh) (hc : cnt' ≤ k + 1)
    (hadd : AddedTo mh cnt' (behF A (p.take k)) (.int .i64 (n : Int)) (.int .i64 (a.has + sumOf (p.take k) s + c)) wq wn) : BR A p F Bl Bh mh w (k + 1) wn := by
  obtain ⟨cnt, h1, h2⟩ := h.map
  have e1 : ∀ b o v, wq.cell? ⟨b, o, none⟩ = some v → wn.heap[b]? = wq.heap[b]? := fun b o v q => grown_heap hadd.2 (World.block_lt_of_cell? wq _ q) (fun e => not_map h2 q (Option.some.inj e).symm)
  refine ⟨hk, fun i hi' => ?_, ⟨cnt', hc, ?_⟩, cell_stay h.cl (e1 _ _ _ h.cl), cell_stay h.ch (e1 _ _ _ h.ch), h.low.grown hadd.2 h.low.size (fun k' hk' => by cases hk'; exact hm)⟩
  · rcases (by omega : i < k ∨ i = k) with q | q
    · exact h.found i q
    · subst q; rw [he]; exact ⟨n, hi⟩
  · rw [take_snoc p k hk, he]
    exact hadd.1.ext (behF_step hn ha hs)
def LowSeen (A : List Acc) (q : List Ent) (left : Lit → Bool) (ev : Int) : Prop :=
  (ev = 0 ∧ ∀ (n : Nat) (a : Acc), A[n]? = some a → a.name ∈ names q → left (.int .i64 (n : Int)) = false → ¬ (a.has + sumOf q a.name < a.least)) ∨ (ev = 7 ∧ isLow A q)
theorem low_start (A : List Acc) (q : List Ent) : LowSeen A q (fun kl => (behF A q kl).isSome) 0 := .inl ⟨rfl, fun n a h hm hl => by have hl' : (behF A q (.int .i64 (n : Int))).isSome = false := hl; rw [behF_at h hm] at hl'; cases hl'⟩
theorem low_more {A : List Acc} {q : List Ent} {left : Lit → Bool} {n : Nat} {a : Acc} (h : LowSeen A q left 0) (ha : A[n]? = some a) (hl : ¬ (a.has + sumOf q a.name < a.least)) : LowSeen A q (fun z => left z && !z.sameKey (.int .i64 (n : Int))) 0 := by
  rcases h with ⟨_, h⟩ | ⟨h, _⟩
  · refine .inl ⟨rfl, fun n' a' h1 h2 h3 => ?_⟩
    by_cases e : n' = n
    · subst e
      rw [ha] at h1
      cases h1
      exact hl
    · refine h n' a' h1 h2 ?_
      simp only [Bool.and_eq_false_iff, Bool.not_eq_false'] at h3
      rcases h3 with h3 | h3
      · exact h3
      · have := WideAt.sameKey_eq h3
        simp only [Lit.int.injEq, true_and] at this
        omega
  · cases h
theorem low_hit {A : List Acc} {q : List Ent} {left : Lit → Bool} {n : Nat} {a : Acc} (ha : A[n]? = some a) (hm : a.name ∈ names q) (hl : a.has + sumOf q a.name < a.least) : LowSeen A q left 7 := .inr ⟨rfl, a, List.mem_of_getElem? ha, hm, hl⟩
theorem low_later {A : List Acc} {q : List Ent} {left left' : Lit → Bool} (h : LowSeen A q left 7) : LowSeen A q left' 7 := by
  rcases h with ⟨h, _⟩ | h
  · cases h
  · exact .inr h
theorem low_end {A : List Acc} {p : List Ent} {left : Lit → Bool} {ev : Int} (h : LowSeen A p left ev) (hf : Formed p) (ht : allThere A p) (hl : ∀ kl, left kl = false) : ev = mayE A p := by
  unfold mayE
  rw [if_neg (fun q => q hf), if_neg (fun q => q ht)]
  rcases h with ⟨rfl, h⟩ | ⟨rfl, h⟩
  · rw [if_neg]
    rintro ⟨a, ha, h1, h2⟩
    obtain ⟨n, hn⟩ := List.getElem?_of_mem ha
    exact h n a hn h1 (hl _) h2
  · rw [if_pos h]
theorem may_4 {A : List Acc} {p : List Ent} {k : Nat} (hf : Formed p) (hk : k < p.length) (h : idx (nms A) (ent p k).1 = none) : mayE A p = 4 := by
  unfold mayE
  rw [if_neg (fun q => q hf), if_pos]
  intro q
  obtain ⟨i, hi⟩ := q _ (show (ent p k).1 ∈ names p from List.mem_map.2 ⟨_, ent_mem hk, rfl⟩)
  rw [h] at hi
  cases hi
theorem all_there {A : List Acc} {p : List Ent} (h : ∀ i, i < p.length → ∃ n, idx (nms A) (ent p i).1 = some n) : allThere A p := fun s hs => by
  obtain ⟨x, hx, rfl⟩ := List.mem_map.1 hs
  obtain ⟨i, hi, rfl⟩ := ent_of_mem hx
  exact h i hi
/-- the second loop -/
structure BZ (A : List Acc) (q : List Ent) (F : Fp) (Bl Bh mh r : Nat) (w wx : World) (cnt : Nat) (left : Lit → Bool) (c2 : Nat) (wr : World) : Prop where
  rg : Ranging Try.prog 3 wr mh r cnt (behF A q) left c2
  cl : wr.cell? ⟨Bl, 0, none⟩ = some (.pointer (some ⟨F.b, 0, none⟩))
  ch : wr.cell? ⟨Bh, 0, none⟩ = some (.map (some mh))
  low : Below wx.heap.size wx wr
theorem BZ.next {A : List Acc} {q : List Ent} {F : Fp} {Bl Bh mh r : Nat} {w wx : World} {cnt : Nat} {left left' : Lit → Bool} {c2 c3 : Nat} {wr w1 : World} (h : BZ A q F Bl Bh mh r w wx cnt left c2 wr) (hr : Ranging Try.prog 3 w1 mh r cnt (behF A q) left' c3) (hg : wr.grownBy w1 (some r)) (hl : Bl < r) (hh : Bh < r) (hx : wx.heap.size ≤ r) : BZ A q F Bl Bh mh r w wx cnt left' c3 w1 :=
  ⟨hr, cell_stay h.cl (grown_heap hg (World.block_lt_of_cell? wr _ h.cl) (fun e => by have := Option.some.inj e; omega)), cell_stay h.ch (grown_heap hg (World.block_lt_of_cell? wr _ h.ch) (fun e => by have := Option.some.inj e; omega)), h.low.grown hg h.low.size (fun k' hk' => by cases hk'; exact hx)⟩

set_option maxRecDepth 100000 in
set_option maxHeartbeats 4000000 in
theorem behind_a (I : Nat → Prop) (F : Fp) (S : LS) (so : Option Addr) (cap : Nat) (p : List Ent) (w : World) (h : LObj I F S w) (hE : Ents so cap p w) (hS : Sound S.acc) (hf : Formed p) : Calls Try.prog 27 #[.pointer (some ⟨F.b, 0, none⟩), .slice so p.length cap] w (fun e w' => ∃ v, e = .returned (.tuple #[v, .int .i64 (mayE S.acc p)]) ∧ Below w.heap.size w w' ∧ (mayE S.acc p = 0 → ∃ mh cnt, v = .map (some mh) ∧ w.heap.size ≤ mh ∧ cnt ≤ p.length ∧ MapIs Try.prog 3 w' mh cnt (behF S.acc p))) := by
  have H := hide h
  have HE := hide hE
  have HS := hide hS
  have HFm := hide hf
  have hb := h.lt (.inl rfl)
  have hmm := @run_makeMap Try.prog
  have HB0 := hide h.b0
  clear h hE hS hf
  go_enter Try.func27, Try.ntmps27
  go_wp2
  go_step3
  go_wp2_with (first
    | (go_at_call 22; refine (isLedger _ F.b F.t (((Below.refl w.heap.size w).alloc (Nat.le_refl _) _).cell (p := ⟨F.b, 0, none⟩) hb |>.trans HB0.out)).mono ?_; rintro e w' ⟨rfl, rfl⟩)
    | (go_at_call 51; refine (formed_c so cap p _ (HE.out.below ((Below.refl w.heap.size w).alloc (Nat.le_refl _) _))).mono ?_; rintro e wF ⟨rfl, hbF⟩; rw [formedB_yes HFm.out]))
  go_step3
  have hzF := hbF.size
  simp at hzF
  have hB0 : Below w.heap.size w ((wF.alloc (.map #[] 0)).alloc (.cells #[.map (some wF.heap.size)] 75)) := (((((Below.refl w.heap.size w).alloc (Nat.le_refl _) _).trans (hbF.mono (by simp)))).alloc (by omega) _).alloc (by simp; omega) _
  have hBR := hide (show BR S.acc p F w.heap.size (wF.heap.size + 1) wF.heap.size w 0 ((wF.alloc (.map #[] 0)).alloc (.cells #[.map (some wF.heap.size)] 75)) from ⟨Nat.zero_le _, fun i q => by omega,
    ⟨0, Nat.le_refl _, ((MapIs.made wF Try.prog 3).stays (by simp) (Below.heap_alloc _ _ _ (by simp))).ext (fun x => (behF_nil _ x).symm)⟩,
    cell_stay (cell_stay ((hbF.cell (p := ⟨w.heap.size, 0, none⟩) (by simp)).trans (by simp [go_sem])) (Below.heap_alloc _ _ _ hzF)) (Below.heap_alloc _ _ _ (by simp; omega)), by simp [go_sem], hB0⟩)
  obtain ⟨wB, hwB⟩ : ∃ wB, wB = ((wF.alloc (.map #[] 0)).alloc (.cells #[.map (some wF.heap.size)] 75)) := ⟨_, rfl⟩
  have hMF := hide (show w.heap.size < wF.heap.size from hzF)
  rw [← hwB] at hBR ⊢
  clear hwB hB0
  obtain ⟨mh, hmh⟩ : ∃ mh, mh = wF.heap.size := ⟨_, rfl⟩
  rw [← hmh] at hBR hMF ⊢
  clear hmh hzF hbF
  have hl0 := HFm.out.2.1
  go_wp2
  go_loopw [8, 26] (fun v8 v26 wr => ∃ k : Nat, v8 = .int .i64 0 ∧ v26 = .int .i64 (k : Int) ∧ BR S.acc p F w.heap.size (mh + 1) mh w k wr) (fun _ v26 _ => p.length - (intOf v26).toNat)
  case atStart => exact ⟨0, rfl, rfl, hBR.out⟩
  case round =>
    obtain ⟨k, rfl, rfl, hr⟩ := hrel
    have HR := hide hr
    clear hr
    by_cases hlt : k < p.length
    · obtain ⟨g, off, rfl, hsp⟩ := HE.out.spot (by omega)
      have hgz : g < w.heap.size := World.block_lt_of_cell? w _ (hsp k hlt).1
      have hc0 : wr.cell? ⟨g, off + k * 2, none⟩ = some (.string (ent p k).1) := (HR.out.low.cell (p := ⟨g, off + k * 2, none⟩) hgz).trans (hsp k hlt).1
      have hc1 : wr.cell? ⟨g, off + k * 2 + 1, none⟩ = some (.int .i64 (ent p k).2) := (HR.out.low.cell (p := ⟨g, off + k * 2 + 1, none⟩) hgz).trans (hsp k hlt).2
      have HG := hide (HFm.out.2.2.1 _ (ent_mem hlt))
      obtain ⟨s, hs⟩ : ∃ s, s = (ent p k).1 := ⟨_, rfl⟩
      obtain ⟨c, hcc⟩ : ∃ c, c = (ent p k).2 := ⟨_, rfl⟩
      rw [← hs] at hc0
      rw [← hcc] at hc1
      have HSC := hide (show ent p k = (s, c) by rw [hs, hcc])
      rw [HSC.out] at HG
      clear hs hcc hsp
      have HO := hide (H.out.below HR.out.low)
      have hbl : F.b < wr.heap.size := HO.out.lt (.inl rfl)
      have htl : F.t < wr.heap.size := HO.out.lt (.inr (.inl rfl))
      have r0 : wr.cell? ⟨F.b, 0, none⟩ = some (.pointer (some ⟨F.t, 0, none⟩)) := HO.out.b0
      have rl : wr.cell? ⟨w.heap.size, 0, none⟩ = some (.pointer (some ⟨F.b, 0, none⟩)) := HR.out.cl
      have rz : w.heap.size < wr.heap.size := World.block_lt_of_cell? wr _ rl
      have HSZ := hide (show s.size ≤ maxLen by have := HG.out.1.2; have q : s.size ≤ 64 := this; unfold maxLen; omega)
      cases hidx : idx (nms S.acc) s with
      | none =>
        have HI := hide hidx
        clear hidx
        obtain ⟨WQ, hWQ⟩ : ∃ WQ, WQ = wr.alloc (.cells #[.string s, .int .i64 c] 63) := ⟨_, rfl⟩
        have HFd := hide (show ∀ q, Calls Try.prog 49 #[.pointer (some ⟨F.t, 0, none⟩), .string s] (WQ.drewN q) fun e w' => e = .returned (.tuple #[.int .i64 0, .bool false]) ∧ w' = WQ.drewN q from fun q => by
          have HOQ : LObj I F S (WQ.drewN q) := HO.out.below (by rw [hWQ]; (focus repeat' (first | (with_reducible exact Below.refl _ _) | (with_reducible assumption) | (with_reducible refine Below.alloc ?_ ?_ _) | (with_reducible refine Below.drew ?_) | (with_reducible refine bdrewN ?_ _) | (with_reducible refine Below.setCell ?_ ?_ _) | (first | (with_reducible exact Nat.le_refl _) | (with_reducible assumption) | omega | (simp; omega) | (simp; done)))))
          exact (Find_no _ F.t F.a _ _ s HOQ.t1 HOQ.am HSZ.out HI.out).mono (fun e w' h => ⟨h.1, h.2.symm⟩))
        rw [hWQ] at HFd
        clear hWQ
        go_wp2
        go_quiet ((go_at_call 49; exact Calls.quiet_of_same (HFd.out _)))
        obtain ⟨wx, hwq⟩ : ∃ wx, wx = (wr.alloc (.cells #[.string s, .int .i64 c] 63)).drewN nq := ⟨_, rfl⟩
        have hbq : Below wr.heap.size wr wx := by rw [hwq]; (focus repeat' (first | (with_reducible exact Below.refl _ _) | (with_reducible assumption) | (with_reducible refine Below.alloc ?_ ?_ _) | (with_reducible refine Below.drew ?_) | (with_reducible refine bdrewN ?_ _) | (with_reducible refine Below.setCell ?_ ?_ _) | (first | (with_reducible exact Nat.le_refl _) | (with_reducible assumption) | omega | (simp; omega) | (simp; done))))
        rw [← hwq]
        have HRQ := hide (HR.out.below hbq)
        have HM4 := hide (show mayE S.acc p = 4 from may_4 HFm.out hlt (by rw [HSC.out]; exact HI.out))
        clear hwq hbq hc0 hc1 r0 rl hlt
        obtain ⟨cnt, hcnt, hmp⟩ := HRQ.out.map
        have HC := hide hcnt
        have HMP := hide hmp
        have hcx : wx.cell? ⟨mh + 1, 0, none⟩ = some (.map (some mh)) := HRQ.out.ch
        have hbx := World.block_lt_of_cell? wx _ HRQ.out.cl
        have hhx := World.block_lt_of_cell? wx _ hcx
        have HX := hide (And.intro hbx hhx)
        clear hcnt hmp hbx hhx
        go_wp2_with (at_range; refine wpList_range_is _ rfl _ 75 rfl 3 2 law3 Try.underlying75 mh cnt _ rfl HMP.out ?_; intro w0 hrg0 hg0 hs0)
        have HZ0 := hide (show BZ S.acc (p.take k) F w.heap.size (mh + 1) mh wx.heap.size w wx cnt (fun kl => (behF S.acc (p.take k) kl).isSome) cnt w0 from ⟨hrg0, cell_stay HRQ.out.cl (grown_heap (r := none) hg0 HX.out.1 (fun e => by cases e)), cell_stay HRQ.out.ch (grown_heap (r := none) hg0 HX.out.2 (fun e => by cases e)), ⟨hg0.os, hg0.tape, hg0.output, hg0.size, fun k hk => hg0.block k hk (by simp)⟩⟩)
        clear hrg0 hg0 hs0 hcx
        (try go_frame)
        go_loopw [8] (fun v8 wy => ∃ left c2 ev, v8 = .int .i64 ev ∧ ev = 4 ∧ BZ S.acc (p.take k) F w.heap.size (mh + 1) mh wx.heap.size w wx cnt left c2 wy) (fun _ wy => wy.rangeLeft mh wx.heap.size)
        case atStart => exact ⟨_, _, 4, rfl, rfl, HZ0.out⟩
        case round =>
          obtain ⟨left, c2, ev, rfl, hev, hz⟩ := hrel
          have HEV := hide hev
          have HZ := hide hz
          clear hev hz
          go_wp2_with (at_next; refine wpList_next_ii _ rfl _ rfl 3 law3 Try.underlying3 mh wx.heap.size cnt _ _ _ rfl HZ.out.rg (fun kl v q => by obtain ⟨n, a, -, -, -, rfl⟩ := behF_inv q; exact ⟨_, rfl⟩) ?_ ?_)
          · intro _ hl0
            have HL0 := hide hl0
            clear hl0
            have hcz : wr.cell? ⟨mh + 1, 0, none⟩ = some (.map (some mh)) := HZ.out.ch
            go_wp2
            rw [Exit.noGoto_ret]
            refine bodyPost_ret (v := .tuple #[.map (some mh), .int .i64 ev]) (by simp [results, Try.f27, go_sem]) rfl ?_
            have HBL := hide (HRQ.out.low.trans (HZ.out.low.mono HRQ.out.low.size))
            obtain rfl : ev = 4 := HEV.out
            exact ⟨_, by rw [HM4.out], HBL.out, fun q => by rw [HM4.out] at q; cases q⟩
          · intro x cc w1 cnt1 hwx hlx hfx hrg1 hlt1 hg1 hs1 hen
            have HRG := hide hrg1
            have HLT := hide hlt1
            have HLX := hide hlx
            obtain ⟨n, a, hxn, han, hnm, hval⟩ := behF_inv hfx
            obtain rfl : x = (n : Int) := by simpa using hxn
            obtain rfl : cc = a.has + sumOf (p.take k) a.name := by simpa using hval
            have HAN := hide han
            have HNM := hide hnm
            have HZN := hide (HZ.out.next hrg1 hg1 HX.out.1 HX.out.2 (Nat.le_refl _))
            have HOB := hide (H.out.below (HRQ.out.low.trans (HZN.out.low.mono HRQ.out.low.size)))
            have hcl : w1.cell? ⟨w.heap.size, 0, none⟩ = some (.pointer (some ⟨F.b, 0, none⟩)) := HZN.out.cl
            have hb1 : w1.cell? ⟨F.b, 1, none⟩ = some (.map (some F.m)) := HOB.out.b1
            have hN6 : n < 65536 := by
              have := (List.getElem?_eq_some_iff.1 han).1
              have q := HS.out.few
              omega
            have ql := acc_look HOB.out.mm (show n < 9223372036854775808 by omega) han
            have q4 := field70_1 a.name a.least a.has
            clear hfx hxn hval han hnm hrg1 hlt1 hlx hg1 hs1 hN6
            obtain ⟨cv, hcv⟩ : ∃ cv, cv = a.has + sumOf (p.take k) a.name := ⟨_, rfl⟩
            rw [← hcv] at hen ⊢
            have HCV := hide hcv
            clear hcv
            obtain rfl : ev = 4 := HEV.out
            go_wp2
            go_roundw
            case rel => exact ⟨_, _, 4, rfl, rfl, HZN.out⟩
            case measure => rw [HRG.out.left_eq, HZ.out.rg.left_eq]; exact HLT.out
      | some n =>
        have HI := hide hidx
        clear hidx
        obtain ⟨WQ, hWQ⟩ : ∃ WQ, WQ = wr.alloc (.cells #[.string s, .int .i64 c] 63) := ⟨_, rfl⟩
        have HFd := hide (show ∀ q, Calls Try.prog 49 #[.pointer (some ⟨F.t, 0, none⟩), .string s] (WQ.drewN q) fun e w' => e = .returned (.tuple #[.int .i64 (n : Int), .bool true]) ∧ w' = WQ.drewN q from fun q => by
          have HOQ : LObj I F S (WQ.drewN q) := HO.out.below (by rw [hWQ]; (focus repeat' (first | (with_reducible exact Below.refl _ _) | (with_reducible assumption) | (with_reducible refine Below.alloc ?_ ?_ _) | (with_reducible refine Below.drew ?_) | (with_reducible refine bdrewN ?_ _) | (with_reducible refine Below.setCell ?_ ?_ _) | (first | (with_reducible exact Nat.le_refl _) | (with_reducible assumption) | omega | (simp; omega) | (simp; done)))))
          exact (Find_yes _ F.t F.a _ n _ s HOQ.t1 HOQ.am HSZ.out HI.out).mono (fun e w' h => ⟨h.1, h.2.symm⟩))
        rw [hWQ] at HFd
        clear hWQ
        go_wp2
        go_quiet ((go_at_call 49; exact Calls.quiet_of_same (HFd.out _)))
        obtain ⟨a, ha, has⟩ := idx_acc HI.out
        obtain ⟨wq, hwq⟩ : ∃ wq, wq = (wr.alloc (.cells #[.string s, .int .i64 c] 63)).drewN nq := ⟨_, rfl⟩
        have hbq : Below wr.heap.size wr wq := by rw [hwq]; (focus repeat' (first | (with_reducible exact Below.refl _ _) | (with_reducible assumption) | (with_reducible refine Below.alloc ?_ ?_ _) | (with_reducible refine Below.drew ?_) | (with_reducible refine bdrewN ?_ _) | (with_reducible refine Below.setCell ?_ ?_ _) | (first | (with_reducible exact Nat.le_refl _) | (with_reducible assumption) | omega | (simp; omega) | (simp; done))))
        have q0 : wq.cell? ⟨wr.heap.size, 1, none⟩ = some (.int .i64 c) := by rw [hwq]; simp [go_sem]
        rw [← hwq]
        have HRQ := hide (HR.out.below hbq)
        have HOQ := hide (HO.out.below hbq)
        have HA := hide ha
        have HAS := hide has
        have sm := HS.out.small (List.mem_of_getElem? ha)
        have bd := sumOf_bd (p := p.take k) (fun x hx => ⟨(HFm.out.2.2.1 x (List.mem_of_mem_take hx)).2.2.1, (HFm.out.2.2.1 x (List.mem_of_mem_take hx)).2.2.2⟩) s
        have bl : ((p.take k).length : Int) ≤ 128 := by rw [List.length_take]; omega
        have hcb : c ≤ maxC ∧ -maxC ≤ c := ⟨HG.out.2.2.1, HG.out.2.2.2⟩
        have BND := hide (show -9223372036854775808 ≤ a.has + sumOf (p.take k) s + c ∧ a.has + sumOf (p.take k) s + c ≤ 9223372036854775807 by unfold maxC at *; omega)
        have HN6 := hide (show n < 65536 by have := idx_lt HI.out; have q : (nms S.acc).length = S.acc.length := by simp [nms]
                                            have := HS.out.few; omega)
        have HM0 := hide hMF.out
        clear hwq hbq ha has sm bd bl hcb hc0 hc1 r0 rl
        obtain ⟨cnt, hcnt, hmp⟩ := HRQ.out.map
        have HC := hide hcnt
        have HMP := hide hmp
        clear hcnt hmp
        by_cases hm : s ∈ names (p.take k)
        · have HFK := hide (show behF S.acc (p.take k) (.int .i64 (n : Int)) = some (.int .i64 (a.has + sumOf (p.take k) s)) from by
            have := behF_at (q := p.take k) HA.out (by rw [HAS.out]; exact hm)
            rw [HAS.out] at this; exact this)
          clear hm
          go_wp2_with (go_at_call 52; refine (add_yes (mh + 1) w.heap.size mh cnt n _ _ c wq HRQ.out.ch HMP.out HN6.out (by have := HC.out; omega) HFK.out BND.out.1 BND.out.2).mono ?_; rintro e w7 ⟨⟨r7, rfl⟩, hadd⟩; have HAD := hide hadd; clear hadd)
          go_roundw
          case rel => exact ⟨k + 1, rfl, by go_num, HRQ.out.step hlt HSC.out HS.out.nd HI.out HA.out HAS.out (by have := HM0.out; omega) (by have := HC.out; omega) HAD.out⟩
          case measure => simp [intOf]; omega
        · have HFK := hide (show behF S.acc (p.take k) (.int .i64 (n : Int)) = none from behF_not HA.out (by rw [HAS.out]; exact hm))
          have HZ := hide (sumOf_out hm)
          clear hm
          go_wp2_with (go_at_call 52; refine (add_no (mh + 1) w.heap.size F.b F.m mh cnt n S.acc a _ c wq HRQ.out.ch HRQ.out.cl HOQ.out.b1 HOQ.out.mm HA.out HMP.out HN6.out (by have := HC.out; omega) HFK.out (by have := BND.out.1; rw [HZ.out] at this; omega) (by have := BND.out.2; rw [HZ.out] at this; omega)).mono ?_; rintro e w7 ⟨⟨r7, rfl⟩, hadd⟩; have HAD := hide hadd; clear hadd)
          go_roundw
          case rel =>
            have := HAD.out
            rw [show a.has + c = a.has + sumOf (p.take k) s + c by rw [HZ.out]; omega] at this
            exact ⟨k + 1, rfl, by go_num, HRQ.out.step hlt HSC.out HS.out.nd HI.out HA.out HAS.out (by have := HM0.out; omega) (by have := HC.out; omega) this⟩
          case measure => simp [intOf]; omega
    · have hke : k = p.length := by have := HR.out.le; omega
      obtain ⟨wx, hwx⟩ : ∃ wx, wx = wr := ⟨_, rfl⟩
      rw [← hwx] at HR ⊢
      have HK := hide hke
      clear hwx hke
      have HRX := hide (show BR S.acc p F w.heap.size (mh + 1) mh w k wx from HR.out)
      have HMAP := hide (show ∃ cnt, cnt ≤ k ∧ MapIs Try.prog 3 wx mh cnt (behF S.acc p) by have := HRX.out.map; rw [show p.take k = p by rw [HK.out, List.take_length]] at this; exact this)
      obtain ⟨cnt, hcnt, hmp⟩ := HMAP.out
      have HC := hide hcnt
      have HMP := hide hmp
      have hcx : wx.cell? ⟨mh + 1, 0, none⟩ = some (.map (some mh)) := HRX.out.ch
      have hbx := World.block_lt_of_cell? wx _ HRX.out.cl
      have hhx := World.block_lt_of_cell? wx _ hcx
      have HX := hide (And.intro hbx hhx)
      clear hcnt hmp hbx hhx
      go_wp2_with (at_range; refine wpList_range_is _ rfl _ 75 rfl 3 2 law3 Try.underlying75 mh cnt _ rfl HMP.out ?_; intro w0 hrg0 hg0 hs0)
      have HZ0 := hide (show BZ S.acc p F w.heap.size (mh + 1) mh wx.heap.size w wx cnt (fun kl => (behF S.acc p kl).isSome) cnt w0 from ⟨hrg0, cell_stay HRX.out.cl (grown_heap (r := none) hg0 HX.out.1 (fun e => by cases e)), cell_stay HRX.out.ch (grown_heap (r := none) hg0 HX.out.2 (fun e => by cases e)), ⟨hg0.os, hg0.tape, hg0.output, hg0.size, fun k hk => hg0.block k hk (by simp)⟩⟩)
      clear hrg0 hg0 hs0 hcx
      (try go_frame)
      go_loopw [8] (fun v8 wy => ∃ left c2 ev, v8 = .int .i64 ev ∧ LowSeen S.acc p left ev ∧ BZ S.acc p F w.heap.size (mh + 1) mh wx.heap.size w wx cnt left c2 wy) (fun _ wy => wy.rangeLeft mh wx.heap.size)
      case atStart => exact ⟨_, _, 0, rfl, low_start _ _, HZ0.out⟩
      case round =>
        obtain ⟨left, c2, ev, rfl, hev, hz⟩ := hrel
        have HEV := hide hev
        have HZ := hide hz
        clear hev hz
        go_wp2_with (at_next; refine wpList_next_ii _ rfl _ rfl 3 law3 Try.underlying3 mh wx.heap.size cnt _ _ _ rfl HZ.out.rg (fun kl v q => by obtain ⟨n, a, -, -, -, rfl⟩ := behF_inv q; exact ⟨_, rfl⟩) ?_ ?_)
        · intro _ hl0
          have HL0 := hide hl0
          clear hl0
          have hcz : wr.cell? ⟨mh + 1, 0, none⟩ = some (.map (some mh)) := HZ.out.ch
          go_wp2
          rw [Exit.noGoto_ret]
          refine bodyPost_ret (v := .tuple #[.map (some mh), .int .i64 ev]) (by simp [results, Try.f27, go_sem]) rfl ?_
          have HBL := hide (HRX.out.low.trans (HZ.out.low.mono HRX.out.low.size))
          have HBL' := HBL.out
          have e1 : ev = mayE S.acc p := low_end HEV.out HFm.out (all_there (fun i hi => HR.out.found i (by rw [HK.out]; exact hi))) HL0.out
          refine ⟨_, by rw [e1], HBL', fun _ => ⟨mh, cnt, rfl, Nat.le_of_lt hMF.out, by have := HC.out; have q := HK.out; omega, HZ.out.rg.map⟩⟩
        · intro x cc w1 cnt1 hwx hlx hfx hrg1 hlt1 hg1 hs1 hen
          have HRG := hide hrg1
          have HLT := hide hlt1
          have HLX := hide hlx
          obtain ⟨n, a, hxn, han, hnm, hval⟩ := behF_inv hfx
          obtain rfl : x = (n : Int) := by simpa using hxn
          obtain rfl : cc = a.has + sumOf p a.name := by simpa using hval
          have HAN := hide han
          have HNM := hide hnm
          have HZN := hide (HZ.out.next hrg1 hg1 HX.out.1 HX.out.2 (Nat.le_refl _))
          have HOB := hide (H.out.below (HRX.out.low.trans (HZN.out.low.mono HRX.out.low.size)))
          have hcl : w1.cell? ⟨w.heap.size, 0, none⟩ = some (.pointer (some ⟨F.b, 0, none⟩)) := HZN.out.cl
          have hb1 : w1.cell? ⟨F.b, 1, none⟩ = some (.map (some F.m)) := HOB.out.b1
          have hN6 : n < 65536 := by
            have := (List.getElem?_eq_some_iff.1 han).1
            have q := HS.out.few
            omega
          have ql := acc_look HOB.out.mm (show n < 9223372036854775808 by omega) han
          have q4 := field70_1 a.name a.least a.has
          clear hfx hxn hval han hnm hrg1 hlt1 hlx hg1 hs1 hN6
          obtain ⟨cv, hcv⟩ : ∃ cv, cv = a.has + sumOf p a.name := ⟨_, rfl⟩
          rw [← hcv] at hen ⊢
          have HCV := hide hcv
          clear hcv
          rcases HEV.out with ⟨rfl, -⟩ | ⟨rfl, -⟩
          · by_cases hlo : cv < a.least
            · have d1 : decide (cv < a.least) = true := by (rw [decide_eq_true_iff]; exact hlo)
              have HLO := hide hlo
              clear hlo
              go_wp2
              go_roundw
              case rel => exact ⟨_, _, 7, rfl, low_hit HAN.out HNM.out (by rw [← HCV.out]; exact HLO.out), HZN.out⟩
              case measure => rw [HRG.out.left_eq, HZ.out.rg.left_eq]; exact HLT.out
            · have d1 : decide (cv < a.least) = false := by (rw [decide_eq_false_iff_not]; exact hlo)
              have HLO := hide hlo
              clear hlo
              go_wp2
              go_roundw
              case rel => exact ⟨_, _, 0, rfl, low_more HEV.out HAN.out (by rw [← HCV.out]; exact HLO.out), HZN.out⟩
              case measure => rw [HRG.out.left_eq, HZ.out.rg.left_eq]; exact HLT.out
          · go_wp2
            go_roundw
            case rel => exact ⟨_, _, 7, rfl, low_later HEV.out, HZN.out⟩
            case measure => rw [HRG.out.left_eq, HZ.out.rg.left_eq]; exact HLT.out
end Go.Proofs.Ytkdocoibfclfeaa

namespace Go.Proofs.Ytkdocoibfclfeaa
open Go.ChangeShapes Go.WideShapes Go.ChangeAt Go.RowKit Go.Deep Go.Maps Go.ChangeMaps Go.WideMaps
set_option linter.unusedSimpArgs false
set_option linter.unusedVariables false

def BehPost (A : List Acc) (p : List Ent) (w : World) (e : Ending) (w' : World) : Prop := ∃ v, e = .returned (.tuple #[v, .int .i64 (mayE A p)]) ∧ Below w.heap.size w w' ∧ (mayE A p = 0 → ∃ mh cnt, v = .map (some mh) ∧ w.heap.size ≤ mh ∧ cnt ≤ p.length ∧ MapIs Try.prog 3 w' mh cnt (behF A p))
theorem may_2 {A : List Acc} {p : List Ent} (h : ¬ Formed p) : mayE A p = 2 := by unfold mayE; rw [if_pos h]
set_option maxRecDepth 100000 in
set_option maxHeartbeats 4000000 in
theorem behind_b (I : Nat → Prop) (F : Fp) (S : LS) (so : Option Addr) (cap : Nat) (p : List Ent) (w : World) (h : LObj I F S w) (hE : Ents so cap p w) (hf : ¬ Formed p) : Calls Try.prog 27 #[.pointer (some ⟨F.b, 0, none⟩), .slice so p.length cap] w (BehPost S.acc p w) := by
  have HE := hide hE
  have HFm := hide hf
  have hb := h.lt (.inl rfl)
  have HB0 := hide h.b0
  clear h hE hf
  go_enter Try.func27, Try.ntmps27
  go_wp2
  go_step3
  go_wp2_with (first
    | (go_at_call 22; refine (isLedger _ F.b F.t (((Below.refl w.heap.size w).alloc (Nat.le_refl _) _).cell (p := ⟨F.b, 0, none⟩) hb |>.trans HB0.out)).mono ?_; rintro e w' ⟨rfl, rfl⟩)
    | (go_at_call 51; refine (formed_c so cap p _ (HE.out.below ((Below.refl w.heap.size w).alloc (Nat.le_refl _) _))).mono ?_; rintro e wF ⟨rfl, hbF⟩; rw [formedB_no HFm.out]))
  rw [Exit.noGoto_ret]
  refine bodyPost_ret (v := .tuple #[.map none, .int .i64 2]) (by simp [results, Try.f27, go_sem]) rfl ?_
  exact ⟨_, by rw [may_2 HFm.out], ((Below.refl w.heap.size w).alloc (Nat.le_refl _) _).trans (hbF.mono (by simp)), fun q => by rw [may_2 HFm.out] at q; cases q⟩
theorem behind_c (I : Nat → Prop) (F : Fp) (S : LS) (so : Option Addr) (cap : Nat) (p : List Ent) (w : World) (h : LObj I F S w) (hE : Ents so cap p w) (hS : Sound S.acc) : Calls Try.prog 27 #[.pointer (some ⟨F.b, 0, none⟩), .slice so p.length cap] w (BehPost S.acc p w) := by
  by_cases hf : Formed p
  · exact behind_a I F S so cap p w h hE hS hf
  · exact behind_b I F S so cap p w h hE hf
set_option maxHeartbeats 1000000 in
theorem behind_nil (so : Option Addr) (n cap : Nat) (w : World) : Calls Try.prog 27 #[.pointer none, .slice so n cap] w fun e w' => e = .returned (.tuple #[.map none, .int .i64 1]) ∧ Below w.heap.size w w' := by
  go_enter Try.func27, Try.ntmps27
  go_wp2
  go_step3
  go_wp2_with (go_at_call 22; refine (noLedger _).mono ?_; rintro e w' ⟨rfl, rfl⟩)
  rw [Exit.noGoto_ret]
  exact bodyPost_ret (v := .tuple #[.map none, .int .i64 1]) (by simp [results, Try.f27, go_sem]) rfl ⟨rfl, (Below.refl w.heap.size w).alloc (Nat.le_refl _) _⟩
set_option maxHeartbeats 1000000 in
theorem behind_zero (b : Nat) (so : Option Addr) (n cap : Nat) (w : World) (h : w.cell? ⟨b, 0, none⟩ = some (.pointer none)) : Calls Try.prog 27 #[.pointer (some ⟨b, 0, none⟩), .slice so n cap] w fun e w' => e = .returned (.tuple #[.map none, .int .i64 1]) ∧ Below w.heap.size w w' := by
  have hb := World.block_lt_of_cell? w _ h
  have h' := cell_stay h (Below.heap_alloc w (.cells #[.pointer (some ⟨b, 0, none⟩)] 25) _ hb)
  go_enter Try.func27, Try.ntmps27
  go_wp2
  go_step3
  go_wp2_with (go_at_call 22; refine (zeroLedger _ b h').mono ?_; rintro e w' ⟨rfl, rfl⟩)
  rw [Exit.noGoto_ret]
  exact bodyPost_ret (v := .tuple #[.map none, .int .i64 1]) (by simp [results, Try.f27, go_sem]) rfl ⟨rfl, (Below.refl w.heap.size w).alloc (Nat.le_refl _) _⟩
set_option maxHeartbeats 1000000 in
theorem May_c (I : Nat → Prop) (F : Fp) (S : LS) (so : Option Addr) (cap : Nat) (p : List Ent) (w : World) (h : LObj I F S w) (hE : Ents so cap p w) (hS : Sound S.acc) : Calls Try.prog 10 #[.pointer (some ⟨F.b, 0, none⟩), .slice so p.length cap] w fun e w' => e = .returned (.int .i64 (mayE S.acc p)) ∧ Below w.heap.size w w' := by
  have H := hide h
  have HE := hide hE
  have HS := hide hS
  clear h hE hS
  go_enter Try.func10, Try.ntmps10
  go_wp2_with (go_at_call 27; refine (behind_c I F S so cap p _ H.out HE.out HS.out).mono ?_; rintro e w1 ⟨v, rfl, hb1, -⟩)
  refine bodyPost_ret (v := .int .i64 (mayE S.acc p)) (by simp [results, Try.f10, go_sem]) rfl ⟨rfl, hb1⟩
set_option maxHeartbeats 1000000 in
theorem May_nil (so : Option Addr) (n cap : Nat) (w : World) : Calls Try.prog 10 #[.pointer none, .slice so n cap] w fun e w' => e = .returned (.int .i64 1) ∧ Below w.heap.size w w' := by
  go_enter Try.func10, Try.ntmps10
  go_wp2_with (go_at_call 27; refine (behind_nil so n cap _).mono ?_; rintro e w1 ⟨rfl, hb1⟩)
  exact bodyPost_ret (v := .int .i64 1) (by simp [results, Try.f10, go_sem]) rfl ⟨rfl, hb1⟩
set_option maxHeartbeats 1000000 in
theorem May_zero (b : Nat) (so : Option Addr) (n cap : Nat) (w : World) (h : w.cell? ⟨b, 0, none⟩ = some (.pointer none)) : Calls Try.prog 10 #[.pointer (some ⟨b, 0, none⟩), .slice so n cap] w fun e w' => e = .returned (.int .i64 1) ∧ Below w.heap.size w w' := by
  have H := hide h
  clear h
  go_enter Try.func10, Try.ntmps10
  go_wp2_with (go_at_call 27; refine (behind_zero b so n cap _ H.out).mono ?_; rintro e w1 ⟨rfl, hb1⟩)
  exact bodyPost_ret (v := .int .i64 1) (by simp [results, Try.f10, go_sem]) rfl ⟨rfl, hb1⟩
theorem info63 : (Try.prog.info? 63).map (fun i => (i.zero, i.size, i.bytes)) = some (some (.agg #[.string ⟨#[]⟩, .int .i64 0]), 2, 24) := by kernel_rfl
theorem eql33 (a : Addr) (n cap : Nat) (w : World) : Sem.run Try.prog (binOp .eql 33 (.slice (some a) n cap) (.slice none 0 0)) w = .ok (.bool false) w := by kernel_rfl
theorem eql33n (w : World) : Sem.run Try.prog (binOp .eql 33 (.slice none 0 0) (.slice none 0 0)) w = .ok (.bool true) w := by kernel_rfl
theorem made0 (w : World) (t size : Nat) (hs : 0 < size) : (w.alloc (.cells #[] t)).ownsRow w.heap.size t size (.slice (some ⟨w.heap.size, 0, none⟩) 0 0) 0 [] :=
  ⟨by simp, .inr ⟨_, 0, #[], rfl, Nat.le_refl _, heap_alloc_new w _, by decide, by decide, by simp, by simp⟩⟩
set_option maxRecDepth 100000 in
set_option maxHeartbeats 2000000 in
theorem Clone_some (ad : Addr) (cap : Nat) (p : List Ent) (w : World) (hL : p.length ≤ 1048576) (hc : ∀ j u, (flatE p)[j]? = some u → w.cell? (ad.add j) = some u) : Calls Try.prog 28 #[.slice (some ad) p.length cap] w (fun e w' => ∃ v', e = .returned v' ∧ w'.ownsRow w.heap.size 63 2 v' p.length (flatE p) ∧ Below w.heap.size w w') := by
  obtain ⟨i0, hi0, hz0, hz1, hz2⟩ := info_parts info63
  have Hn := hide (show ∀ j u, (flatE p)[j]? = some u → (w.alloc (.cells #[] 63)).cell? (ad.add j) = some u from fun j u hu =>
    ((Below.refl w.heap.size w).alloc (Nat.le_refl _) (.cells #[] 63)).cell (p := ad.add j) (World.block_lt_of_cell? w _ (hc j u hu)) |>.trans (hc j u hu))
  have Q := eql33
  clear hc
  go_enter Try.func28, Try.ntmps28
  go_wp2_with (at_builtin; refine wpList_append_own _ rfl _ _ 33 rfl w.heap.size 63 i0 _ 2 24 Try.underlying33 hi0 hz0 hz1 hz2 rfl (by decide) (.slice (some ⟨w.heap.size, 0, none⟩) 0 0) 0 [] rfl (made0 w 63 2 (by decide)) ad p.length cap (flatE p) rfl (flatE_len p) Hn.out (flatE_one p) (by unfold maxLen; omega) (by omega) (by simp) ?_; intro v' wn hown2 hg2 _)
  go_ret
  refine ⟨v', rfl, by (rw [Nat.zero_add, List.nil_append] at hown2; exact hown2), ((Below.refl w.heap.size w).alloc (Nat.le_refl _) (.cells #[] 63)).grown hg2 (by simp) (fun k hk => ?_)⟩
  have q' : w.heap.size = k := Option.some.inj hk
  omega
set_option maxHeartbeats 1000000 in
theorem Clone_nil (w : World) : Calls Try.prog 28 #[.slice none 0 0] w (fun e w' => e = .returned (.slice none 0 0) ∧ Below w.heap.size w w') := by
  have Q := eql33n
  go_enter Try.func28, Try.ntmps28
  go_wp2
  go_ret
  exact ⟨rfl, by (focus repeat' (first | (with_reducible exact Below.refl _ _) | (with_reducible assumption) | (with_reducible refine Below.alloc ?_ ?_ _) | (with_reducible refine Below.drew ?_) | (with_reducible refine bdrewN ?_ _) | (with_reducible refine Below.setCell ?_ ?_ _) | (first | (with_reducible exact Nat.le_refl _) | (with_reducible assumption) | omega | (simp; omega) | (simp; done))))⟩
theorem Clone_c (so : Option Addr) (cap : Nat) (p : List Ent) (w : World) (hL : p.length ≤ 1048576) (h : Ents so cap p w) : Calls Try.prog 28 #[.slice so p.length cap] w (fun e w' => ∃ v', e = .returned v' ∧ w'.ownsRow w.heap.size 63 2 v' p.length (flatE p) ∧ Below w.heap.size w w') := by
  cases so with
  | none =>
    obtain ⟨h1, rfl⟩ := h.nil rfl
    have e : p = [] := List.length_eq_zero_iff.1 h1
    subst e
    exact (Clone_nil w).mono (fun e w' q => ⟨_, q.1, World.ownsRow_nil _ _ _ _, q.2⟩)
  | some ad => exact Clone_some ad cap p w hL (h.cells ad rfl)
end Go.Proofs.Ytkdocoibfclfeaa

