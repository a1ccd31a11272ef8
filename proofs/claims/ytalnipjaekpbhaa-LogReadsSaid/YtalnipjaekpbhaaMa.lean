/- Contracts of the layer's functions, each proved once, in the order in which they are used. No condition beyond each theorem's own. -/
import Derived.Test.YtalnipjaekpbhaaRows
import Derived.WalkKit
import Derived.ProofKit
import Derived.OpenShut
import Derived.BigQuiet
import Derived.Deep.QuietTactic
import Derived.WalkLawsBesides
import Derived.WalkSpells
import Derived.Deep.RegionWith
import Derived.Deep.RegionHeld3
import Derived.Deep.RegionLaw
import Derived.Deep.DeepCutAuto
import Derived.Lib.SmallJoins
import Derived.Deep.Fields
import Derived.IntWalk
import Derived.Deep.AppendLies
import Derived.Maps.AppendAt
import Derived.Lib.ConvBytes
import Derived.Laws.Bits64b

namespace Go.Proofs.Ytalnipjaekpbhaa
open Go.ChangeShapes Go.WideShapes Go.ChangeAt Go.RowKit Go.Deep
set_option linter.unusedSimpArgs false
set_option linter.unusedVariables false

theorem ret_int {k : IntKind} {a b : Int} (h : a = b) : Ending.returned (.int k a) = .returned (.int k b) := by rw [h]
theorem ret_bool {a b : Bool} (h : a = b) : Ending.returned (.bool a) = .returned (.bool b) := by rw [h]
theorem ret_two {k k2 : IntKind} {a b c d : Int} (h : a = b) (h2 : c = d) : Ending.returned (.tuple #[.int k a, .int k2 c]) = .returned (.tuple #[.int k b, .int k2 d]) := by rw [h, h2]
theorem ret_ib {k : IntKind} {a b : Int} {c d : Bool} (h : a = b) (h2 : c = d) : Ending.returned (.tuple #[.int k a, .bool c]) = .returned (.tuple #[.int k b, .bool d]) := by rw [h, h2]
theorem bcell {W w1 : World} (hb : Below W.heap.size W w1) : (∀ b o, b < W.heap.size → w1.cell? ⟨b, o, none⟩ = W.cell? ⟨b, o, none⟩) ∧ (∀ b o, b < W.heap.size → w1.frozen? ⟨b, o, none⟩ = W.frozen? ⟨b, o, none⟩) :=
  ⟨fun b o h => hb.cell (p := ⟨b, o, none⟩) h, fun b o h => hb.frozen (p := ⟨b, o, none⟩) h⟩
theorem bstep {w W W' : World} (h : Below w.heap.size w W) (hb : Below W.heap.size W W') : Below w.heap.size w W' := h.trans (hb.mono h.size)
theorem hide {p : Prop} (h : p) : Hid p := h
theorem bdrewN {B : Nat} {a w : World} (h : Below B a w) (n : Nat) : Below B a (w.drewN n) := ⟨h.os, h.tape, h.output, h.size, h.block⟩
theorem undraw {B : Nat} {W w w' : World} (h : Below W.heap.size W w') (e : W.heap = w.heap) (e1 : W.os = w.os) (e2 : W.tape = w.tape) (e3 : W.output = w.output) (hB : B ≤ w.heap.size) : Below B w w' := by
  have h2 := h.mono (B' := B) (by rw [e]; exact hB)
  exact ⟨h2.os.trans e1, h2.tape.trans e2, h2.output.trans e3, by rw [← e]; exact h2.size, by rw [← e]; exact h2.block⟩
/-- every field is an int of 64 bits -/
def allInts (P : Program) (fs : Array Field) : Bool := (List.range fs.size).all fun i => match fs[i]? with
  | some f => match P.underlying f.type with
    | some (.int .i64) => true
    | _ => false
  | none => false
theorem ints_of {P : Program} {fs : Array Field} (h : allInts P fs = true) : ∀ (i : Nat) (f : Field), fs[i]? = some f → P.underlying f.type = some (.int .i64) := by
  intro i f hi
  have hlt : i < fs.size := (Array.getElem?_eq_some_iff.1 hi).1
  have := List.all_eq_true.1 h i (List.mem_range.2 hlt)
  simp only [hi] at this
  split at this
  · assumption
  · cases this
section
variable {H : Type} {enc : TypeId × Value → H} {P : Program} {w : World} {base : Nat} {spare : Nat → Bool} {held : Bool}
/-- A struct by value, however many fields, each an int of 64 bits: opened to its numbers. -/
theorem open_ints_agg {r : Reach} {b0 : Nat} {t : TypeId} {fs : Array Field} {v : Value} {d : DataW H} {p : List MemPlace} (hs : P.underlying t = some (.struct fs)) (hone : oneCellFields P fs = true) (hint : allInts P fs = true) (hC : P.cellsOf t = fs.size)
    (hv : Value.okWide P w r b0 t v) (h : DataW.Trod enc P w base spare held t v d p) :
    ∃ xs : List Int, xs.length = fs.size ∧ v = .agg (xs.map (Value.int .i64)).toArray ∧ ∀ x ∈ xs, (Lit.int .i64 x).wf = true := by
  obtain ⟨cs, rfl, hsz⟩ := okWide_struct hs hv
  obtain ⟨l⟩ := cs
  have hl : l.length = fs.size := by simpa using hsz.trans hC
  obtain ⟨fuel, hf⟩ := h
  obtain ⟨ys, n, _, hx, _, hlen, hg⟩ := DataW.trod_struct hs hf
  have cell : ∀ i, i < l.length → ∃ x, l[i]? = some (Value.int .i64 x) ∧ (Lit.int .i64 x).wf = true := by
    intro i hi
    have hfi : fs[i]? = some (fs[i]'(by omega)) := Array.getElem?_eq_getElem (by omega)
    obtain ⟨ho, hk⟩ := hone_of hone i _ hfi
    have h1 := hg i _ hfi
    rw [ho, hk] at h1
    have hone' : (((Value.agg { toList := l }).cells.toList).drop i).take 1 = [l[i]] := by
      rw [show (Value.agg { toList := l }).cells.toList = l from rfl, List.drop_eq_getElem_cons (by omega)]
      rfl
    rw [hone'] at h1
    have hys : ys[i]? = some (ys[i]'(by omega)) := List.getElem?_eq_getElem (by omega)
    rw [hys] at h1
    obtain ⟨x, hx, _, hw⟩ := DataW.trod_int (ints_of hint i _ hfi) h1
    refine ⟨x, ?_, hw⟩
    rw [List.getElem?_eq_getElem hi]
    simpa using hx
  clear hx hg hf
  have : ∀ l : List Value, (∀ i, i < l.length → ∃ x, l[i]? = some (Value.int .i64 x) ∧ (Lit.int .i64 x).wf = true) → ∃ xs : List Int, xs.length = l.length ∧ l = xs.map (Value.int .i64) ∧ ∀ x ∈ xs, (Lit.int .i64 x).wf = true := by
    intro l
    induction l with
    | nil => intro _; exact ⟨[], rfl, rfl, by simp⟩
    | cons a r ih =>
      intro hc
      obtain ⟨x, hx, hw⟩ := hc 0 (by simp)
      obtain ⟨xs, e1, e2, e3⟩ := ih (fun i hi => by simpa using hc (i + 1) (by simpa using hi))
      refine ⟨x :: xs, by simp [e1], ?_, ?_⟩
      · simp at hx
        rw [hx, e2]; rfl
      · intro y hy
        rcases List.mem_cons.1 hy with rfl | hy
        · exact hw
        · exact e3 y hy
  obtain ⟨xs, e1, e2, e3⟩ := this l cell
  exact ⟨xs, by omega, by rw [e2], e3⟩
end
theorem list4 {α : Type} {l : List α} (h : l.length = 4) : ∃ a b c d, l = [a, b, c, d] := by
  match l, h with
  | [a, b, c, d], _ => exact ⟨a, b, c, d, rfl⟩
theorem list11 {α : Type} {l : List α} (h : l.length = 11) : ∃ a b c d e f g i j k m, l = [a, b, c, d, e, f, g, i, j, k, m] := by
  match l, h with
  | [a, b, c, d, e, f, g, i, j, k, m], _ => exact ⟨a, b, c, d, e, f, g, i, j, k, m, rfl⟩
theorem i64_le {x : Int} (h : (Lit.int .i64 x).wf = true) : -9223372036854775808 ≤ x ∧ x ≤ 9223372036854775807 := by
  simpa [Lit.wf, IntKind.min, IntKind.max, IntKind.signed, IntKind.bits] using h
end Go.Proofs.Ytalnipjaekpbhaa

/- PLAIN LAW: the forms of numbers, as bytes. No program in sight. -/
namespace Go.Proofs.Ytalnipjaekpbhaa
set_option linter.unusedSimpArgs false
set_option linter.unusedVariables false

/-- how many bytes a number has, at least one -/
def many (x : Nat) : Nat := if h : x < 256 then 1 else 1 + many (x / 256)
termination_by x
decreasing_by exact Nat.div_lt_self (by omega) (by decide)
/-- likewise, of 0 none -/
def many0 (x : Nat) : Nat := if x = 0 then 0 else many x
theorem many_step (x : Nat) : many x = 1 + many0 (x / 256) := by
  rw [many]
  unfold many0
  by_cases h : x < 256
  · rw [dif_pos h, if_pos (by omega)]
  · rw [dif_neg h, if_neg (by omega)]
theorem many0_pos {x : Nat} (h : 0 < x) : many0 x = many x := by unfold many0; rw [if_neg (by omega)]
theorem many0_zero : many0 0 = 0 := rfl
theorem many_le (k : Nat) : ∀ x, x < 256 ^ (k + 1) → many x ≤ k + 1 := by
  induction k with
  | zero => intro x h; rw [many, dif_pos (by simpa using h)]; omega
  | succ k ih =>
    intro x h
    rw [many]
    by_cases c : x < 256
    · rw [dif_pos c]; omega
    · rw [dif_neg c]
      have := ih (x / 256) (by rw [Nat.div_lt_iff_lt_mul (by decide)]; rw [Nat.pow_succ] at h; exact h)
      omega
theorem many_pos (x : Nat) : 1 ≤ many x := by rw [many_step]; omega
theorem many_u64 {x : Nat} (h : x < 18446744073709551616) : many x ≤ 8 := many_le 7 x (by simpa using h)
/-- the lowest n bytes, the highest first -/
def hi : Nat → Nat → List Nat
  | 0, _ => []
  | n + 1, x => (x / 256 ^ n % 256) :: hi n x
theorem hi_length (n x : Nat) : (hi n x).length = n := by
  induction n with
  | zero => rfl
  | succ n ih => simp [hi, ih]
/-- a number's form -/
def form (x : Nat) : List Nat := if x ≤ 247 then [x] else (247 + many x) :: hi (many x) x
end Go.Proofs.Ytalnipjaekpbhaa


namespace Go.Proofs.Ytalnipjaekpbhaa
open Go.ChangeShapes Go.WideShapes Go.ChangeAt Go.RowKit Go.Deep
set_option linter.unusedSimpArgs false
set_option linter.unusedVariables false

set_option maxHeartbeats 1000000 in
theorem many_c (x : Nat) (w : World) (hx : x < 18446744073709551616) : Calls Try.prog 80 #[.int .u64 (x : Int)] w fun e w' => e = .returned (.int .i64 (many x : Int)) ∧ Below w.heap.size w w' := by
  have hm := many_step x
  have hs := many_u64 hx
  have HM := hide hm
  have HS := hide hs
  clear hm hs
  go_enter Try.func80, Try.ntmps80
  go_wp2
  go_loopw [0, 3] (fun v0 v3 wr => ∃ y c : Nat, v0 = .int .u64 (y : Int) ∧ v3 = .int .i64 (c : Int) ∧ many x = c + many0 y ∧ c ≤ 8 ∧ wr = w) (fun v0 _ _ => (intOf v0).toNat)
  case atStart => exact ⟨x / 256, 1, by simp, rfl, HM.out, by omega, rfl⟩
  case round =>
    obtain ⟨y, c, rfl, rfl, hm, hc, rfl⟩ := hrel
    have hm' := hide hm
    clear hm
    by_cases h0 : 0 < y
    · have h0' : (0 : Int) < (y : Int) := by omega
      go_wp2
      go_roundw
      case rel =>
        have q := hm'.out
        rw [many0_pos h0, many_step y] at q
        have p := HS.out
        have z : c + 1 ≤ 8 := by omega
        exact ⟨y / 256, c + 1, by simp, by go_num, by omega, z, by simp⟩
      case measure => simp [intOf]; omega
    · have hy : y = 0 := by omega
      subst hy
      go_wp2
      go_ret
      exact ⟨ret_int (by have q := hm'.out; rw [many0_zero] at q; omega), Below.refl _ _⟩

set_option maxHeartbeats 1000000 in
theorem Size_c (x : Nat) (w : World) (hx : x < 18446744073709551616) : Calls Try.prog 97 #[.int .u64 (x : Int)] w fun e w' => e = .returned (.int .i64 ((form x).length : Int)) ∧ Below w.heap.size w w' := by
  by_cases h : x ≤ 247
  · have e : (form x).length = 1 := by unfold form; rw [if_pos h]; rfl
    have E := hide e
    clear e
    have h1 : (x : Int) ≤ 247 := by omega
    go_enter Try.func97, Try.ntmps97
    go_wp2
    go_ret
    exact ⟨ret_int (by rw [E.out]; rfl), by (focus repeat' (first | (with_reducible exact Below.refl _ _) | (with_reducible assumption) | (with_reducible refine Below.alloc ?_ ?_ _) | (with_reducible refine Below.drew ?_) | (with_reducible refine bdrewN ?_ _) | (with_reducible refine Below.setCell ?_ ?_ _) | (first | (with_reducible exact Nat.le_refl _) | (with_reducible assumption) | omega | (simp; omega) | (simp; done))))⟩
  · have e : (form x).length = 1 + many x := by unfold form; rw [if_neg h, List.length_cons, hi_length]; omega
    have E := hide e
    clear e
    have h1 : (247 : Int) < (x : Int) := by omega
    have hs := many_u64 hx
    go_enter Try.func97, Try.ntmps97
    go_wp2_with fail
    refine (many_c x _ hx).mono ?_
    rintro e w1 ⟨rfl, hb1⟩
    go_wp2
    go_ret
    exact ⟨ret_int (by rw [E.out]; omega), by (focus repeat' (first | (with_reducible exact Below.refl _ _) | (with_reducible assumption) | (with_reducible refine Below.alloc ?_ ?_ _) | (with_reducible refine Below.drew ?_) | (with_reducible refine bdrewN ?_ _) | (with_reducible refine Below.setCell ?_ ?_ _) | (first | (with_reducible exact Nat.le_refl _) | (with_reducible assumption) | omega | (simp; omega) | (simp; done))))⟩
end Go.Proofs.Ytalnipjaekpbhaa


namespace Go.Proofs.Ytalnipjaekpbhaa
open Go.ChangeShapes Go.WideShapes Go.ChangeAt Go.RowKit Go.Deep
set_option linter.unusedSimpArgs false
set_option linter.unusedVariables false

/-- a row that a call has appended to: v before, v' behind; whatever lay and is not v's block lies as it lay -/
def Gr (w w' : World) (v v' : Value) : Prop := w.grownBy w' v.ownBlock ∧ (v'.ownBlock = v.ownBlock ∨ ∃ k, v'.ownBlock = some k ∧ w.heap.size ≤ k)
theorem Gr.refl (w : World) (v : Value) : Gr w w v v := ⟨World.grownBy.refl w _, .inl rfl⟩
theorem Gr.trans {w w1 w2 : World} {v v1 v2 : Value} (h : Gr w w1 v v1) (k : Gr w1 w2 v1 v2) : Gr w w2 v v2 := by
  obtain ⟨h1, h2⟩ := h
  obtain ⟨k1, k2⟩ := k
  refine ⟨⟨k1.os.trans h1.os, k1.tape.trans h1.tape, k1.output.trans h1.output, Nat.le_trans h1.size k1.size, fun i hi hne => ?_⟩, ?_⟩
  · have q : some i ≠ v1.ownBlock := by
      rcases h2 with h2 | ⟨j, h2, h3⟩
      · rw [h2]; exact hne
      · rw [h2]; intro e; cases e; omega
    exact (k1.block i (Nat.lt_of_lt_of_le hi h1.size) q).trans (h1.block i hi hne)
  · rcases k2 with k2 | ⟨j, k2, k3⟩
    · rcases h2 with h2 | ⟨j, h2, h3⟩
      · exact .inl (k2.trans h2)
      · exact .inr ⟨j, k2.trans h2, h3⟩
    · exact .inr ⟨j, k2, Nat.le_trans h1.size k3⟩
theorem Gr.alloc {w w' : World} {v v' : Value} (o : Obj) (h : Gr (w.alloc o) w' v v') (hv : ∀ k, v.ownBlock = some k → k < w.heap.size) : Gr w w' v v' := by
  obtain ⟨h1, h2⟩ := h
  refine ⟨⟨h1.os, h1.tape, h1.output, Nat.le_trans (by simp) h1.size, fun i hi hne => ?_⟩, ?_⟩
  · exact (h1.block i (by simp; omega) hne).trans (Below.heap_alloc w o i hi)
  · rcases h2 with h2 | ⟨j, h2, h3⟩
    · exact .inl h2
    · exact .inr ⟨j, h2, Nat.le_trans (by simp) h3⟩

theorem Gr.step {w w2 : World} {v : Value} {n m cap g : Nat} {xs : List Value} {o : Obj} {e : TypeId} (own : w.ownsRow 0 e 1 v n xs) (hg2 : (w.alloc o).grownBy w2 v.ownBlock) (hgg : v.ownBlock = some g ∨ g = (w.alloc o).heap.size) : Gr w w2 v (.slice (some ⟨g, 0, none⟩) m cap) := by
  refine Gr.alloc o ⟨hg2, ?_⟩ (fun k hk => (own.lt k hk).2)
  rcases hgg with h | h
  · exact .inl h.symm
  · exact .inr ⟨g, rfl, by rw [h]; exact Nat.le_refl _⟩
theorem info5 : (Try.prog.info? 5).map (fun i => (i.zero, i.size, i.bytes)) = some (some (.int .u8 0), 1, 1) := by kernel_rfl

set_option maxRecDepth 100000 in
set_option maxHeartbeats 2000000 in
theorem highest_c (v : Value) (bs : List Nat) (n x : Nat) (w : World) (hx : x < 18446744073709551616) (hn : n ≤ 8) (hl : bs.length ≤ 1099511627776) (own : w.ownsRow 0 5 1 v bs.length (bs.map (fun (b : Nat) => Value.int .u8 (b : Int)))) : Calls Try.prog 81 #[v, .int .i64 (n : Int), .int .u64 (x : Int)] w (fun e w' => ∃ v', e = .returned v' ∧ w'.ownsRow 0 5 1 v' (bs.length + n) ((bs ++ hi n x).map (fun (b : Nat) => Value.int .u8 (b : Int))) ∧ Gr w w' v v') := by
  obtain ⟨i0, hi0, hz0, hz1, hz2⟩ := info_parts info5
  have Hown0 := hide own
  clear own
  go_enter Try.func81, Try.ntmps81
  go_wp2
  go_loopw [0, 1] (fun v0 v1 wr => ∃ (k : Nat) (os : List Nat), k ≤ n ∧ v1 = .int .i64 ((k : Int) - 1) ∧ bs ++ hi n x = os ++ hi k x ∧ wr.ownsRow 0 5 1 v0 os.length (os.map (fun (b : Nat) => Value.int .u8 (b : Int))) ∧ Gr w wr v v0) (fun _ v1 _ => (intOf v1 + 1).toNat)
  case atStart => exact ⟨n, bs, Nat.le_refl _, by go_num, rfl, Hown0.out, Gr.refl _ _⟩
  case round =>
    obtain ⟨k, os, hk, rfl, he, own, gr⟩ := hrel
    have hol : bs.length + n = os.length + k := by (have q := congrArg List.length he; simp only [List.length_append, hi_length] at q; exact q)
    have He := hide he
    have Hown := hide own
    have HGr := hide gr
    have HL := hide (show os.length ≤ 1099511627776 + 8 from by omega)
    clear he own gr hol
    by_cases h0 : k = 0
    · subst h0
      go_wp2
      go_ret
      have e : bs ++ hi n x = os := by (rw [He.out]; simp [hi])
      have el : bs.length + n = os.length := by (rw [← e, List.length_append, hi_length])
      exact ⟨_, rfl, by (rw [el, e]; exact Hown.out), HGr.out⟩
    · have hk1 : k = 1 ∨ k = 2 ∨ k = 3 ∨ k = 4 ∨ k = 5 ∨ k = 6 ∨ k = 7 ∨ k = 8 := by omega
      rcases hk1 with rfl | rfl | rfl | rfl | rfl | rfl | rfl | rfl
      · have hlast : hi 1 x = (x / 256 ^ 0 % 256) :: hi 0 x := rfl
        have HE := hide (show bs ++ hi n x = (os ++ [x / 256 ^ 0 % 256]) ++ hi 0 x from by (rw [He.out, hlast]; simp))
        clear hlast He
        go_wp2_with (at_builtin; refine wpList_append_lies _ rfl (.tmp 13) (.tmp 19) 30 rfl 0 5 i0 (.int .u8 0) 1 1 Try.underlying30 hi0 hz0 hz1 hz2 rfl (by decide) _ os.length (os.map (fun (b : Nat) => Value.int .u8 (b : Int))) rfl (Hown.out.alloc _) ⟨wr.heap.size, 0, none⟩ 1 1 [.int .u8 _] rfl rfl (cell_one_new _ _ _) (by intro u hu; simp at hu; subst hu; rfl) (by decide) (by unfold maxLen; have := HL.out; omega) (by have := HL.out; omega) (Nat.zero_le _) _ rfl ?_; intro g cap w2 hown2 hg2 hgg hgl)
        have own2 : w2.ownsRow 0 5 1 (.slice (some ⟨g, 0, none⟩) (os.length + 1) cap) (os ++ [x / 256 ^ 0 % 256]).length ((os ++ [x / 256 ^ 0 % 256]).map (fun (b : Nat) => Value.int .u8 (b : Int))) := by
          rw [List.length_append, List.map_append]
          first | (simpa using hown2) | (simpa [show ((x : Int) / 72057594037927936 % 256) = (x : Int) / 72057594037927936 from by omega] using hown2)
        refine ⟨⟨0, os ++ [x / 256 ^ 0 % 256], by omega, by go_num, HE.out, own2, HGr.out.trans (Gr.step Hown.out hg2 hgg)⟩, by first | (simp [intOf]; done) | (simp [intOf]; omega)⟩
      · have hlast : hi 2 x = (x / 256 ^ 1 % 256) :: hi 1 x := rfl
        have HE := hide (show bs ++ hi n x = (os ++ [x / 256 ^ 1 % 256]) ++ hi 1 x from by (rw [He.out, hlast]; simp))
        clear hlast He
        go_wp2_with (at_builtin; refine wpList_append_lies _ rfl (.tmp 13) (.tmp 19) 30 rfl 0 5 i0 (.int .u8 0) 1 1 Try.underlying30 hi0 hz0 hz1 hz2 rfl (by decide) _ os.length (os.map (fun (b : Nat) => Value.int .u8 (b : Int))) rfl (Hown.out.alloc _) ⟨wr.heap.size, 0, none⟩ 1 1 [.int .u8 _] rfl rfl (cell_one_new _ _ _) (by intro u hu; simp at hu; subst hu; rfl) (by decide) (by unfold maxLen; have := HL.out; omega) (by have := HL.out; omega) (Nat.zero_le _) _ rfl ?_; intro g cap w2 hown2 hg2 hgg hgl)
        have own2 : w2.ownsRow 0 5 1 (.slice (some ⟨g, 0, none⟩) (os.length + 1) cap) (os ++ [x / 256 ^ 1 % 256]).length ((os ++ [x / 256 ^ 1 % 256]).map (fun (b : Nat) => Value.int .u8 (b : Int))) := by
          rw [List.length_append, List.map_append]
          first | (simpa using hown2) | (simpa [show ((x : Int) / 72057594037927936 % 256) = (x : Int) / 72057594037927936 from by omega] using hown2)
        refine ⟨⟨1, os ++ [x / 256 ^ 1 % 256], by omega, by go_num, HE.out, own2, HGr.out.trans (Gr.step Hown.out hg2 hgg)⟩, by first | (simp [intOf]; done) | (simp [intOf]; omega)⟩
      · have hlast : hi 3 x = (x / 256 ^ 2 % 256) :: hi 2 x := rfl
        have HE := hide (show bs ++ hi n x = (os ++ [x / 256 ^ 2 % 256]) ++ hi 2 x from by (rw [He.out, hlast]; simp))
        clear hlast He
        go_wp2_with (at_builtin; refine wpList_append_lies _ rfl (.tmp 13) (.tmp 19) 30 rfl 0 5 i0 (.int .u8 0) 1 1 Try.underlying30 hi0 hz0 hz1 hz2 rfl (by decide) _ os.length (os.map (fun (b : Nat) => Value.int .u8 (b : Int))) rfl (Hown.out.alloc _) ⟨wr.heap.size, 0, none⟩ 1 1 [.int .u8 _] rfl rfl (cell_one_new _ _ _) (by intro u hu; simp at hu; subst hu; rfl) (by decide) (by unfold maxLen; have := HL.out; omega) (by have := HL.out; omega) (Nat.zero_le _) _ rfl ?_; intro g cap w2 hown2 hg2 hgg hgl)
        have own2 : w2.ownsRow 0 5 1 (.slice (some ⟨g, 0, none⟩) (os.length + 1) cap) (os ++ [x / 256 ^ 2 % 256]).length ((os ++ [x / 256 ^ 2 % 256]).map (fun (b : Nat) => Value.int .u8 (b : Int))) := by
          rw [List.length_append, List.map_append]
          first | (simpa using hown2) | (simpa [show ((x : Int) / 72057594037927936 % 256) = (x : Int) / 72057594037927936 from by omega] using hown2)
        refine ⟨⟨2, os ++ [x / 256 ^ 2 % 256], by omega, by go_num, HE.out, own2, HGr.out.trans (Gr.step Hown.out hg2 hgg)⟩, by first | (simp [intOf]; done) | (simp [intOf]; omega)⟩
      · have hlast : hi 4 x = (x / 256 ^ 3 % 256) :: hi 3 x := rfl
        have HE := hide (show bs ++ hi n x = (os ++ [x / 256 ^ 3 % 256]) ++ hi 3 x from by (rw [He.out, hlast]; simp))
        clear hlast He
        go_wp2_with (at_builtin; refine wpList_append_lies _ rfl (.tmp 13) (.tmp 19) 30 rfl 0 5 i0 (.int .u8 0) 1 1 Try.underlying30 hi0 hz0 hz1 hz2 rfl (by decide) _ os.length (os.map (fun (b : Nat) => Value.int .u8 (b : Int))) rfl (Hown.out.alloc _) ⟨wr.heap.size, 0, none⟩ 1 1 [.int .u8 _] rfl rfl (cell_one_new _ _ _) (by intro u hu; simp at hu; subst hu; rfl) (by decide) (by unfold maxLen; have := HL.out; omega) (by have := HL.out; omega) (Nat.zero_le _) _ rfl ?_; intro g cap w2 hown2 hg2 hgg hgl)
        have own2 : w2.ownsRow 0 5 1 (.slice (some ⟨g, 0, none⟩) (os.length + 1) cap) (os ++ [x / 256 ^ 3 % 256]).length ((os ++ [x / 256 ^ 3 % 256]).map (fun (b : Nat) => Value.int .u8 (b : Int))) := by
          rw [List.length_append, List.map_append]
          first | (simpa using hown2) | (simpa [show ((x : Int) / 72057594037927936 % 256) = (x : Int) / 72057594037927936 from by omega] using hown2)
        refine ⟨⟨3, os ++ [x / 256 ^ 3 % 256], by omega, by go_num, HE.out, own2, HGr.out.trans (Gr.step Hown.out hg2 hgg)⟩, by first | (simp [intOf]; done) | (simp [intOf]; omega)⟩
      · have hlast : hi 5 x = (x / 256 ^ 4 % 256) :: hi 4 x := rfl
        have HE := hide (show bs ++ hi n x = (os ++ [x / 256 ^ 4 % 256]) ++ hi 4 x from by (rw [He.out, hlast]; simp))
        clear hlast He
        go_wp2_with (at_builtin; refine wpList_append_lies _ rfl (.tmp 13) (.tmp 19) 30 rfl 0 5 i0 (.int .u8 0) 1 1 Try.underlying30 hi0 hz0 hz1 hz2 rfl (by decide) _ os.length (os.map (fun (b : Nat) => Value.int .u8 (b : Int))) rfl (Hown.out.alloc _) ⟨wr.heap.size, 0, none⟩ 1 1 [.int .u8 _] rfl rfl (cell_one_new _ _ _) (by intro u hu; simp at hu; subst hu; rfl) (by decide) (by unfold maxLen; have := HL.out; omega) (by have := HL.out; omega) (Nat.zero_le _) _ rfl ?_; intro g cap w2 hown2 hg2 hgg hgl)
        have own2 : w2.ownsRow 0 5 1 (.slice (some ⟨g, 0, none⟩) (os.length + 1) cap) (os ++ [x / 256 ^ 4 % 256]).length ((os ++ [x / 256 ^ 4 % 256]).map (fun (b : Nat) => Value.int .u8 (b : Int))) := by
          rw [List.length_append, List.map_append]
          first | (simpa using hown2) | (simpa [show ((x : Int) / 72057594037927936 % 256) = (x : Int) / 72057594037927936 from by omega] using hown2)
        refine ⟨⟨4, os ++ [x / 256 ^ 4 % 256], by omega, by go_num, HE.out, own2, HGr.out.trans (Gr.step Hown.out hg2 hgg)⟩, by first | (simp [intOf]; done) | (simp [intOf]; omega)⟩
      · have hlast : hi 6 x = (x / 256 ^ 5 % 256) :: hi 5 x := rfl
        have HE := hide (show bs ++ hi n x = (os ++ [x / 256 ^ 5 % 256]) ++ hi 5 x from by (rw [He.out, hlast]; simp))
        clear hlast He
        go_wp2_with (at_builtin; refine wpList_append_lies _ rfl (.tmp 13) (.tmp 19) 30 rfl 0 5 i0 (.int .u8 0) 1 1 Try.underlying30 hi0 hz0 hz1 hz2 rfl (by decide) _ os.length (os.map (fun (b : Nat) => Value.int .u8 (b : Int))) rfl (Hown.out.alloc _) ⟨wr.heap.size, 0, none⟩ 1 1 [.int .u8 _] rfl rfl (cell_one_new _ _ _) (by intro u hu; simp at hu; subst hu; rfl) (by decide) (by unfold maxLen; have := HL.out; omega) (by have := HL.out; omega) (Nat.zero_le _) _ rfl ?_; intro g cap w2 hown2 hg2 hgg hgl)
        have own2 : w2.ownsRow 0 5 1 (.slice (some ⟨g, 0, none⟩) (os.length + 1) cap) (os ++ [x / 256 ^ 5 % 256]).length ((os ++ [x / 256 ^ 5 % 256]).map (fun (b : Nat) => Value.int .u8 (b : Int))) := by
          rw [List.length_append, List.map_append]
          first | (simpa using hown2) | (simpa [show ((x : Int) / 72057594037927936 % 256) = (x : Int) / 72057594037927936 from by omega] using hown2)
        refine ⟨⟨5, os ++ [x / 256 ^ 5 % 256], by omega, by go_num, HE.out, own2, HGr.out.trans (Gr.step Hown.out hg2 hgg)⟩, by first | (simp [intOf]; done) | (simp [intOf]; omega)⟩
      · have hlast : hi 7 x = (x / 256 ^ 6 % 256) :: hi 6 x := rfl
        have HE := hide (show bs ++ hi n x = (os ++ [x / 256 ^ 6 % 256]) ++ hi 6 x from by (rw [He.out, hlast]; simp))
        clear hlast He
        go_wp2_with (at_builtin; refine wpList_append_lies _ rfl (.tmp 13) (.tmp 19) 30 rfl 0 5 i0 (.int .u8 0) 1 1 Try.underlying30 hi0 hz0 hz1 hz2 rfl (by decide) _ os.length (os.map (fun (b : Nat) => Value.int .u8 (b : Int))) rfl (Hown.out.alloc _) ⟨wr.heap.size, 0, none⟩ 1 1 [.int .u8 _] rfl rfl (cell_one_new _ _ _) (by intro u hu; simp at hu; subst hu; rfl) (by decide) (by unfold maxLen; have := HL.out; omega) (by have := HL.out; omega) (Nat.zero_le _) _ rfl ?_; intro g cap w2 hown2 hg2 hgg hgl)
        have own2 : w2.ownsRow 0 5 1 (.slice (some ⟨g, 0, none⟩) (os.length + 1) cap) (os ++ [x / 256 ^ 6 % 256]).length ((os ++ [x / 256 ^ 6 % 256]).map (fun (b : Nat) => Value.int .u8 (b : Int))) := by
          rw [List.length_append, List.map_append]
          first | (simpa using hown2) | (simpa [show ((x : Int) / 72057594037927936 % 256) = (x : Int) / 72057594037927936 from by omega] using hown2)
        refine ⟨⟨6, os ++ [x / 256 ^ 6 % 256], by omega, by go_num, HE.out, own2, HGr.out.trans (Gr.step Hown.out hg2 hgg)⟩, by first | (simp [intOf]; done) | (simp [intOf]; omega)⟩
      · have hlast : hi 8 x = (x / 256 ^ 7 % 256) :: hi 7 x := rfl
        have HE := hide (show bs ++ hi n x = (os ++ [x / 256 ^ 7 % 256]) ++ hi 7 x from by (rw [He.out, hlast]; simp))
        clear hlast He
        go_wp2_with (at_builtin; refine wpList_append_lies _ rfl (.tmp 13) (.tmp 19) 30 rfl 0 5 i0 (.int .u8 0) 1 1 Try.underlying30 hi0 hz0 hz1 hz2 rfl (by decide) _ os.length (os.map (fun (b : Nat) => Value.int .u8 (b : Int))) rfl (Hown.out.alloc _) ⟨wr.heap.size, 0, none⟩ 1 1 [.int .u8 _] rfl rfl (cell_one_new _ _ _) (by intro u hu; simp at hu; subst hu; rfl) (by decide) (by unfold maxLen; have := HL.out; omega) (by have := HL.out; omega) (Nat.zero_le _) _ rfl ?_; intro g cap w2 hown2 hg2 hgg hgl)
        have own2 : w2.ownsRow 0 5 1 (.slice (some ⟨g, 0, none⟩) (os.length + 1) cap) (os ++ [x / 256 ^ 7 % 256]).length ((os ++ [x / 256 ^ 7 % 256]).map (fun (b : Nat) => Value.int .u8 (b : Int))) := by
          rw [List.length_append, List.map_append]
          first | (simpa using hown2) | (simpa [show ((x : Int) / 72057594037927936 % 256) = (x : Int) / 72057594037927936 from by omega] using hown2)
        refine ⟨⟨7, os ++ [x / 256 ^ 7 % 256], by omega, by go_num, HE.out, own2, HGr.out.trans (Gr.step Hown.out hg2 hgg)⟩, by first | (simp [intOf]; done) | (simp [intOf]; omega)⟩
end Go.Proofs.Ytalnipjaekpbhaa


namespace Go.Proofs.Ytalnipjaekpbhaa
open Go.ChangeShapes Go.WideShapes Go.ChangeAt Go.RowKit Go.Deep
set_option linter.unusedSimpArgs false
set_option linter.unusedVariables false

/-- the writer at g holds the bytes bs, in the row v -/
def WObj (w : World) (g : Nat) (v : Value) (bs : List Nat) : Prop :=
  g < w.heap.size ∧ w.cell? ⟨g, 0, none⟩ = some v ∧ w.frozen? ⟨g, 0, none⟩ = false ∧ w.ownsRow 0 5 1 v bs.length (bs.map (fun (b : Nat) => Value.int .u8 (b : Int))) ∧ v.ownBlock ≠ some g ∧ (bs = [] → v = .slice none 0 0)
/-- what a writer's call writes: its own block, its row, what is new -/
def WKeep (g : Nat) (v : Value) (w w' : World) : Prop := w'.os = w.os ∧ w'.tape = w.tape ∧ w'.output = w.output ∧ w.heap.size ≤ w'.heap.size ∧ ∀ i, i < w.heap.size → i ≠ g → some i ≠ v.ownBlock → w'.heap[i]? = w.heap[i]?
def Near (w : World) (v v' : Value) : Prop := v'.ownBlock = v.ownBlock ∨ ∃ k, v'.ownBlock = some k ∧ w.heap.size ≤ k
theorem WKeep.of_below {g : Nat} {v : Value} {w w' : World} (h : Below w.heap.size w w') : WKeep g v w w' := ⟨h.os, h.tape, h.output, h.size, fun i hi _ _ => h.block i hi⟩
theorem WKeep.trans {g : Nat} {v v1 : Value} {w w1 w2 : World} (h : WKeep g v w w1) (n : Near w v v1) (k : WKeep g v1 w1 w2) : WKeep g v w w2 := by
  obtain ⟨a1, a2, a3, a4, a5⟩ := h
  obtain ⟨b1, b2, b3, b4, b5⟩ := k
  refine ⟨b1.trans a1, b2.trans a2, b3.trans a3, Nat.le_trans a4 b4, fun i hi h1 h2 => (b5 i (Nat.lt_of_lt_of_le hi a4) h1 ?_).trans (a5 i hi h1 h2)⟩
  rcases n with n | ⟨k, n, hk⟩
  · rw [n]; exact h2
  · rw [n]; intro e; cases e; omega
theorem Near.trans {v v1 v2 : Value} {w w1 : World} (h : Near w v v1) (hs : w.heap.size ≤ w1.heap.size) (k : Near w1 v1 v2) : Near w v v2 := by
  rcases k with k | ⟨j, k, hk⟩
  · rcases h with h | ⟨i, h, hi⟩
    · exact .inl (k.trans h)
    · exact .inr ⟨i, k.trans h, hi⟩
  · exact .inr ⟨j, k, Nat.le_trans hs hk⟩
theorem WObj.below {g : Nat} {v : Value} {bs : List Nat} {w w' : World} (h : WObj w g v bs) (hb : Below w.heap.size w w') : WObj w' g v bs := by
  obtain ⟨h1, h2, h3, h4, h5, h6⟩ := h
  refine ⟨Nat.lt_of_lt_of_le h1 hb.size, (hb.cell (p := ⟨g, 0, none⟩) h1).trans h2, (hb.frozen (p := ⟨g, 0, none⟩) h1).trans h3, ?_, h5, h6⟩
  exact h4.kept (row := none) ⟨hb.os, hb.tape, hb.output, hb.size, fun k hk _ => hb.block k hk⟩ (by
    cases e : v.ownBlock with
    | none => exact .inl rfl
    | some k => exact .inr (by simp))

set_option maxHeartbeats 2000000 in
theorem raw_c (g : Nat) (v : Value) (bs ns : List Nat) (b off cap : Nat) (w : World) (hW : WObj w g v bs) (hm : 0 < ns.length) (hl : bs.length + ns.length ≤ 17592186044416) (hb : ∀ j, j < ns.length → w.cell? ⟨b, off + j, none⟩ = some (.int .u8 (ns.getD j 0 : Int))) : Calls Try.prog 79 #[.pointer (some ⟨g, 0, none⟩), .slice (some ⟨b, off, none⟩) ns.length cap] w (fun e w' => ∃ v', e = .returned (.int .i64 0) ∧ WObj w' g v' (bs ++ ns) ∧ WKeep g v w w' ∧ Near w v v') := by
  obtain ⟨i0, hi0, hz0, hz1, hz2⟩ := info_parts info5
  obtain ⟨w1, w2, w3, w4, w5, w6⟩ := hW
  clear w6
  have Hown := hide w4
  have Hne := hide w5
  have Hn := hide (show ∀ j u, (ns.map (fun (b : Nat) => Value.int .u8 (b : Int)))[j]? = some u → w.cell? ((⟨b, off, none⟩ : Addr).add j) = some u from fun j u hu => by
    rw [List.getElem?_map] at hu
    cases e : ns[j]? with
    | none => rw [e] at hu; cases hu
    | some x =>
      rw [e] at hu
      have hj : j < ns.length := (List.getElem?_eq_some_iff.1 e).1
      have q := hb j hj
      have ha : (⟨b, off, none⟩ : Addr).add j = ⟨b, off + j, none⟩ := by
        unfold Addr.add
        split
        · (rename_i h; subst h; rfl)
        · rfl
      rw [ha, q, ← hu]
      simp [List.getD, e])
  have HO := hide (show ∀ u ∈ ns.map (fun (b : Nat) => Value.int .u8 (b : Int)), u.oneCell' = true from fun u hu => by obtain ⟨x, _, rfl⟩ := List.mem_map.1 hu; rfl)
  clear w4 w5 hb
  go_enter Try.func79, Try.ntmps79
  go_wp2_with (at_builtin; refine wpList_append_lies _ rfl (.tmp 11) (.tmp 12) 30 rfl 0 5 i0 (.int .u8 0) 1 1 Try.underlying30 hi0 hz0 hz1 hz2 rfl (by decide) v bs.length (bs.map (fun (b : Nat) => Value.int .u8 (b : Int))) rfl Hown.out ⟨b, off, none⟩ ns.length cap (ns.map (fun (b : Nat) => Value.int .u8 (b : Int))) rfl (by simp) Hn.out HO.out hm (by unfold maxLen; omega) (by omega) (Nat.zero_le _) _ rfl ?_; intro g2 cap2 wn hown2 hg2 hgg hgl; have cg : wn.cell? ⟨g, 0, none⟩ = some v := (hg2.cell_far ⟨g, 0, none⟩ w1 (fun e => Hne.out e.symm)).trans w2; have fg : wn.frozen? ⟨g, 0, none⟩ = false := (hg2.frozen_far ⟨g, 0, none⟩ w1 (fun e => Hne.out e.symm)).trans w3)
  go_ret
  have hgne : g2 ≠ g := by
    rintro rfl
    rcases hgg with q | q
    · exact Hne.out q
    · omega
  have own2 : wn.ownsRow 0 5 1 (.slice (some ⟨g2, 0, none⟩) (bs.length + ns.length) cap2) (bs ++ ns).length ((bs ++ ns).map (fun (b : Nat) => Value.int .u8 (b : Int))) := by
    rw [List.length_append, List.map_append]; exact hown2
  have hs2 : w.heap.size ≤ wn.heap.size := hg2.size
  refine ⟨_, rfl, ⟨by (simp; omega), by (simp [go_sem, cg]; done), by (simp [go_sem, fg]; done), ownsRow_setCell_other own2 (a := ⟨g, 0, none⟩) (by (simp [Value.ownBlock]; exact hgne)) _, by (simp [Value.ownBlock]; exact hgne), fun h => by (have q := congrArg List.length h; simp only [List.length_append, List.length_nil] at q; omega)⟩, ⟨?_, ?_, ?_, ?_, ?_⟩, ?_⟩
  · exact hg2.os
  · exact hg2.tape
  · exact hg2.output
  · (simp; omega)
  · intro i hi h1 h2
    rw [Below.heap_setCell _ _ _ _ (by exact h1)]
    exact hg2.block i hi h2
  · rcases hgg with q | q
    · exact .inl q.symm
    · exact .inr ⟨g2, rfl, by omega⟩
end Go.Proofs.Ytalnipjaekpbhaa


namespace Go.Proofs.Ytalnipjaekpbhaa
open Go.ChangeShapes Go.WideShapes Go.ChangeAt Go.RowKit Go.Deep
set_option linter.unusedSimpArgs false
set_option linter.unusedVariables false
theorem own_form {w : World} {base : Nat} {e : TypeId} {n : Nat} {v : Value} {xs : List Value} (h : w.ownsRow base e 1 v n xs) (hn : 0 < n) :
    ∃ g cap, v = .slice (some ⟨g, 0, none⟩) n cap ∧ base ≤ g ∧ g < w.heap.size ∧ n ≤ cap ∧ (∀ j, j < n → w.cell? ⟨g, j, none⟩ = xs[j]?) ∧ ∀ j, w.frozen? ⟨g, j, none⟩ = false := by
  obtain ⟨hl, hh⟩ := h
  rcases hh with ⟨_, h0⟩ | ⟨g, cap, cur, rfl, hg, hb, hle, _, hs, ht⟩
  · omega
  · have hlt : g < w.heap.size := by
      rcases Nat.lt_or_ge g w.heap.size with h | h
      · exact h
      · rw [Array.getElem?_eq_none h] at hb; cases hb
    refine ⟨g, cap, rfl, hg, hlt, hle, fun j hj => ?_, fun j => by simp [World.frozen?, hb]⟩
    simp only [World.cell?, hb]
    rw [← ht]
    simp
    rw [List.getElem?_take]
    simp [hj]


theorem heap_new (w : World) (o : Obj) : (w.alloc o).heap[w.heap.size]? = some o := by
  show (w.heap.push o)[w.heap.size]? = some o
  simp
/-- a row of bytes that a call has just made -/
theorem made1 (w : World) (y : Value) : (w.alloc (.cells #[y] 5)).ownsRow 0 5 1 (.slice (some ⟨w.heap.size, 0, none⟩) 1 1) 1 [y] :=
  ⟨rfl, .inr ⟨_, 1, #[y], rfl, Nat.zero_le _, heap_new _ _, by decide, by decide, rfl, rfl⟩⟩
theorem Gr.fresh {w w2 : World} {o : Obj} {n c : Nat} {v' : Value} (h : Gr (w.alloc o) w2 (.slice (some ⟨w.heap.size, 0, none⟩) n c) v') : Below w.heap.size w w2 := by
  obtain ⟨h1, _⟩ := h
  refine ⟨h1.os, h1.tape, h1.output, Nat.le_trans (by simp) h1.size, fun i hi => ?_⟩
  exact (h1.block i (by simp; omega) (by simp [Value.ownBlock]; omega)).trans (Below.heap_alloc w o i hi)
theorem Gr.fresh0 {w w2 : World} {v' : Value} (h : Gr w w2 (.slice none 0 0) v') : Below w.heap.size w w2 := by
  obtain ⟨h1, _⟩ := h
  exact ⟨h1.os, h1.tape, h1.output, h1.size, fun i hi => h1.block i hi (by simp [Value.ownBlock])⟩
theorem row_cells {w : World} {g cap : Nat} {ns : List Nat} (h : ∀ j, j < ns.length → w.cell? ⟨g, j, none⟩ = (ns.map (fun (b : Nat) => Value.int .u8 (b : Int)))[j]?) : ∀ j, j < ns.length → w.cell? ⟨g, 0 + j, none⟩ = some (.int .u8 (ns.getD j 0 : Int)) := fun j hj => by
  rw [Nat.zero_add, h j hj]; simp [List.getD, hj]

set_option maxHeartbeats 2000000 in
theorem Number_c (g : Nat) (v : Value) (bs : List Nat) (x : Nat) (w : World) (hW : WObj w g v bs) (hl : bs.length ≤ 8796093022208) (hx : x < 18446744073709551616) : Calls Try.prog 43 #[.pointer (some ⟨g, 0, none⟩), .int .u64 (x : Int)] w (fun e w' => ∃ v', e = .returned (.int .i64 0) ∧ WObj w' g v' (bs ++ form x) ∧ WKeep g v w w' ∧ Near w v v') := by
  have hmb := many_u64 hx
  have hmp := many_pos x
  by_cases h : x ≤ 247
  · have e : form x = [x] := by unfold form; rw [if_pos h]
    rw [e]
    have h1 : (x : Int) ≤ 247 := by omega
    have HWh := hide hW
    clear hW
    go_enter Try.func43, Try.ntmps43
    go_wp2_with fail
    have hB : Below w.heap.size w (w.alloc (.cells #[.int .u8 (x : Int)] 5)) := by (focus repeat' (first | (with_reducible exact Below.refl _ _) | (with_reducible assumption) | (with_reducible refine Below.alloc ?_ ?_ _) | (with_reducible refine Below.drew ?_) | (with_reducible refine bdrewN ?_ _) | (with_reducible refine Below.setCell ?_ ?_ _) | (first | (with_reducible exact Nat.le_refl _) | (with_reducible assumption) | omega | (simp; omega) | (simp; done))))
    refine (raw_c g v bs [x] w.heap.size 0 1 _ (HWh.out.below hB) (by simp) (by simp; omega) (fun j hj => by
      have hj0 : j = 0 := by simpa using hj
      subst hj0
      simp)).mono ?_
    rintro e w1 ⟨v', rfl, hW1, hk1, hn1⟩
    go_wp2
    go_ret
    have hs : w.heap.size ≤ (w.alloc (.cells #[.int .u8 (x : Int)] 5)).heap.size := by simp
    exact ⟨v', rfl, hW1, (WKeep.of_below hB).trans (.inl rfl) hk1, Near.trans (.inl rfl) hs hn1⟩
  · have e : form x = (247 + many x) :: hi (many x) x := by unfold form; rw [if_neg h]
    rw [e]
    have h1 : (247 : Int) < (x : Int) := by omega
    have HWh := hide hW
    clear hW
    go_enter Try.func43, Try.ntmps43
    go_wp2_with fail
    refine (many_c x _ hx).mono ?_
    rintro e w1 ⟨rfl, hb1⟩
    have HW1 := hide (HWh.out.below hb1)
    go_wp2_with fail
    have hm1 := made1 w1 (.int .u8 ((247 + many x : Nat) : Int))
    refine (highest_c (.slice (some ⟨w1.heap.size, 0, none⟩) 1 1) [247 + many x] (many x) x _ hx hmb (by simp) (by first | (simpa using hm1) | exact hm1)).mono ?_
    rintro e w2 ⟨v2, rfl, own2, gr2⟩
    have hb2 := gr2.fresh
    obtain ⟨g2, cap2, rfl, _, hgl, hcp, hcl, _⟩ := own_form own2 (by simp only [List.length_singleton]; omega)
    have HW2 := hide (HW1.out.below hb2)
    have hlen : [247 + many x].length + many x = ((247 + many x) :: hi (many x) x).length := by simp [hi_length]; omega
    have HC := hide (row_cells (cap := cap2) (ns := (247 + many x) :: hi (many x) x) (fun j hj => hcl j (by rw [hlen]; exact hj)))
    clear hcl own2
    go_wp2_with fail
    have hlen2 : 1 + many x = ((247 + many x) :: hi (many x) x).length := hlen
    rw [hlen2]
    refine (raw_c g v bs ((247 + many x) :: hi (many x) x) g2 0 cap2 _ HW2.out (by simp) (by simp [hi_length]; omega) HC.out).mono ?_
    rintro e w3 ⟨v', rfl, hW3, hk3, hn3⟩
    go_wp2
    go_ret
    have hB : Below w.heap.size w w2 := hb1.trans (hb2.mono hb1.size)
    exact ⟨v', rfl, hW3, (WKeep.of_below hB).trans (.inl rfl) hk3, Near.trans (.inl rfl) hB.size hn3⟩
end Go.Proofs.Ytalnipjaekpbhaa


namespace Go.Proofs.Ytalnipjaekpbhaa
open Go.ChangeShapes Go.WideShapes Go.ChangeAt Go.RowKit Go.Deep
set_option linter.unusedSimpArgs false
set_option linter.unusedVariables false

def NWPost (w : World) (e : Ending) (w' : World) : Prop := ∃ g, e = .returned (.pointer (some ⟨g, 0, none⟩)) ∧ w.heap.size ≤ g ∧ Below w.heap.size w w' ∧ WObj w' g (.slice none 0 0) []

set_option maxHeartbeats 1000000 in
theorem NewWriter_c  (w : World) : Calls Try.prog 42 #[] w (NWPost w) := by
  go_enter Try.func42, Try.ntmps42
  go_wp2
  go_ret
  exact ⟨w.heap.size, rfl, Nat.le_refl _, by (focus repeat' (first | (with_reducible exact Below.refl _ _) | (with_reducible assumption) | (with_reducible refine Below.alloc ?_ ?_ _) | (with_reducible refine Below.drew ?_) | (with_reducible refine bdrewN ?_ _) | (with_reducible refine Below.setCell ?_ ?_ _) | (first | (with_reducible exact Nat.le_refl _) | (with_reducible assumption) | omega | (simp; omega) | (simp; done)))), by simp, by simp, by simp, World.ownsRow_nil _ _ _ _, by simp [Value.ownBlock], fun _ => rfl⟩

theorem xor_zero_u64 (a : Nat) (ha : a < 18446744073709551616) : bits .xor .u64 (a : Int) (0 : Int) = (a : Int) := by
  have := bits_xor_u64_nat a 0 ha (by decide)
  simpa using this
theorem xor_ones (a : Nat) (ha : a < 18446744073709551616) : a ^^^ 18446744073709551615 = 18446744073709551615 - a := by
  have h := congrArg BitVec.toNat (BitVec.xor_allOnes (x := BitVec.ofNat 64 a))
  rw [BitVec.toNat_xor, BitVec.toNat_not, BitVec.toNat_allOnes, BitVec.toNat_ofNat, Nat.mod_eq_of_lt (by simpa using ha)] at h
  simpa using h
theorem xor_ones_u64 (a : Nat) (ha : a < 18446744073709551616) : bits .xor .u64 (a : Int) (18446744073709551615 : Int) = ((18446744073709551615 - a : Nat) : Int) := by
  have := bits_xor_u64_nat a 18446744073709551615 ha (by decide)
  rw [xor_ones a ha] at this
  simpa using this

/-- an int64 folded -/
def fold (x : Int) : Nat := if 0 ≤ x then (2 * x).toNat else (-2 * x - 1).toNat
theorem fold_lt {x : Int} (h0 : -9223372036854775808 ≤ x) (h1 : x ≤ 9223372036854775807) : fold x < 18446744073709551616 := by unfold fold; split <;> omega
end Go.Proofs.Ytalnipjaekpbhaa


namespace Go.Proofs.Ytalnipjaekpbhaa
open Go.ChangeShapes Go.WideShapes Go.ChangeAt Go.RowKit Go.Deep
set_option linter.unusedSimpArgs false
set_option linter.unusedVariables false

theorem eql30 (a : Addr) (n cap : Nat) (w : World) : Sem.run Try.prog (binOp .eql 30 (.slice (some a) n cap) (.slice none 0 0)) w = .ok (.bool false) w := by kernel_rfl
theorem eql30n (w : World) : Sem.run Try.prog (binOp .eql 30 (.slice none 0 0) (.slice none 0 0)) w = .ok (.bool true) w := by kernel_rfl
theorem made0_5 (w : World) : (w.alloc (.cells #[] 5)).ownsRow 0 5 1 (.slice (some ⟨w.heap.size, 0, none⟩) 0 0) 0 [] :=
  ⟨rfl, .inr ⟨_, 0, #[], rfl, Nat.zero_le _, heap_new _ _, by decide, by decide, rfl, rfl⟩⟩

set_option maxRecDepth 100000 in
set_option maxHeartbeats 2000000 in
theorem Clone8_c (ns : List Nat) (b off cap : Nat) (w : World) (hm : 0 < ns.length) (hl : ns.length * 1 ≤ 140737488351232) (hb : ∀ j, j < ns.length → w.cell? ⟨b, off + j, none⟩ = some (.int .u8 (ns.getD j 0 : Int))) (hbz : b < w.heap.size) : Calls Try.prog 83 #[.slice (some ⟨b, off, none⟩) ns.length cap] w (fun e w' => ∃ g2 cap2, e = .returned (.slice (some ⟨g2, 0, none⟩) ns.length cap2) ∧ w.heap.size ≤ g2 ∧ w'.ownsRow 0 5 1 (.slice (some ⟨g2, 0, none⟩) ns.length cap2) ns.length (ns.map (fun (b : Nat) => Value.int .u8 (b : Int))) ∧ Below w.heap.size w w') := by
  obtain ⟨i0, hi0, hz0, hz1, hz2⟩ := info_parts info5
  have Hn := hide (show ∀ j u, (ns.map (fun (b : Nat) => Value.int .u8 (b : Int)))[j]? = some u → (w.alloc (.cells #[] 5)).cell? ((⟨b, off, none⟩ : Addr).add j) = some u from fun j u hu => by
    rw [List.getElem?_map] at hu
    cases e : ns[j]? with
    | none => rw [e] at hu; cases hu
    | some x =>
      rw [e] at hu
      have hj : j < ns.length := (List.getElem?_eq_some_iff.1 e).1
      have q := hb j hj
      have ha : (⟨b, off, none⟩ : Addr).add j = ⟨b, off + j, none⟩ := by
        unfold Addr.add
        split
        · (rename_i h; subst h; rfl)
        · rfl
      rw [ha, World.cell?_alloc_past _ _ _ (by first | omega | (simp; omega)), q, ← hu]
      simp [List.getD, e])
  have HO := hide (show ∀ u ∈ ns.map (fun (b : Nat) => Value.int .u8 (b : Int)), u.oneCell' = true from fun u hu => by obtain ⟨x, _, rfl⟩ := List.mem_map.1 hu; rfl)
  have Q := eql30
  clear hb
  go_enter Try.func83, Try.ntmps83
  go_wp2_with (at_builtin; refine wpList_append_lies _ rfl (.tmp 5) (.tmp 6) 30 rfl 0 5 i0 (.int .u8 0) 1 1 Try.underlying30 hi0 hz0 hz1 hz2 rfl (by decide) _ 0 [] rfl (made0_5 w) ⟨b, off, none⟩ ns.length cap (ns.map (fun (b : Nat) => Value.int .u8 (b : Int))) rfl (by simp) Hn.out HO.out hm (by unfold maxLen; omega) (by omega) (Nat.zero_le _) _ rfl ?_; intro g2 cap2 wn hown2 hg2 hgg hgl)
  go_ret
  have own2 : wn.ownsRow 0 5 1 (.slice (some ⟨g2, 0, none⟩) ns.length cap2) ns.length (ns.map (fun (b : Nat) => Value.int .u8 (b : Int))) := by simpa using hown2
  have hbel : Below w.heap.size w wn := by
    refine ((Below.refl w.heap.size w).alloc (Nat.le_refl _) (.cells #[] 5)).grown hg2 (by simp) (fun k hk => ?_)
    have q' : w.heap.size = k := Option.some.inj hk
    omega
  have hz0' : 0 + ns.length = ns.length := Nat.zero_add _
  refine ⟨g2, cap2, by first | rfl | (rw [← hz0']; rfl) | (simp; done), ?_, own2, hbel⟩
  rcases hgg with q | q
  · have q' : w.heap.size = g2 := Option.some.inj q
    omega
  · have q' : g2 = w.heap.size + 1 := by simpa using q
    omega

theorem made0_22 (w : World) : (w.alloc (.cells #[] 97)).ownsRow 0 97 1 (.slice (some ⟨w.heap.size, 0, none⟩) 0 0) 0 [] :=
  ⟨rfl, .inr ⟨_, 0, #[], rfl, Nat.zero_le _, heap_new _ _, by decide, by decide, rfl, rfl⟩⟩
theorem info97 : (Try.prog.info? 97).map (fun i => (i.zero, i.size, i.bytes)) = some (some (.int .u64 0), 1, 8) := by kernel_rfl

end Go.Proofs.Ytalnipjaekpbhaa


namespace Go.Proofs.Ytalnipjaekpbhaa
open Go.ChangeShapes Go.WideShapes Go.ChangeAt Go.RowKit Go.Deep
set_option linter.unusedSimpArgs false
set_option linter.unusedVariables false

set_option maxRecDepth 100000 in
set_option maxHeartbeats 2000000 in
theorem Bytes_nil (g : Nat) (v : Value) (w : World) (hW : WObj w g v []) : Calls Try.prog 49 #[.pointer (some ⟨g, 0, none⟩)] w fun e w' => e = .returned (.slice none 0 0) ∧ Below w.heap.size w w' := by
  obtain ⟨w1, w2, w3, w4, w5, w6⟩ := hW
  obtain rfl := w6 rfl
  have Q := eql30n
  clear w4 w5 w6
  go_enter Try.func49, Try.ntmps49
  go_wp2_with (go_at_call 83; go_in)
  go_ret
  exact ⟨rfl, by (focus repeat' (first | (with_reducible exact Below.refl _ _) | (with_reducible assumption) | (with_reducible refine Below.alloc ?_ ?_ _) | (with_reducible refine Below.drew ?_) | (with_reducible refine bdrewN ?_ _) | (with_reducible refine Below.setCell ?_ ?_ _) | (first | (with_reducible exact Nat.le_refl _) | (with_reducible assumption) | omega | (simp; omega) | (simp; done))))⟩

set_option maxRecDepth 100000 in
set_option maxHeartbeats 2000000 in
theorem Bytes_c (g : Nat) (v : Value) (bs : List Nat) (w : World) (hW : WObj w g v bs) (hl : bs.length ≤ 8796093022208) (hm : 0 < bs.length) : Calls Try.prog 49 #[.pointer (some ⟨g, 0, none⟩)] w (fun e w' => ∃ g2 cap2, e = .returned (.slice (some ⟨g2, 0, none⟩) bs.length cap2) ∧ w.heap.size ≤ g2 ∧ w'.ownsRow 0 5 1 (.slice (some ⟨g2, 0, none⟩) bs.length cap2) bs.length (bs.map (fun (b : Nat) => Value.int .u8 (b : Int))) ∧ Below w.heap.size w w') := by
  obtain ⟨w1, w2, w3, w4, w5, w6⟩ := hW
  obtain ⟨g1, cap1, rfl, _, hgl, hcp, hcl, _⟩ := own_form w4 hm
  have HC := hide (row_cells (cap := cap1) hcl)
  clear w4 w5 w6 hcl
  go_enter Try.func49, Try.ntmps49
  go_wp2_with fail
  refine (Clone8_c bs g1 0 cap1 _ hm (by omega) HC.out hgl).mono ?_
  rintro e w2 ⟨g2, cap2, rfl, hg2, own2, hb2⟩
  go_wp2
  go_ret
  exact ⟨g2, cap2, rfl, hg2, own2, hb2⟩
end Go.Proofs.Ytalnipjaekpbhaa


namespace Go.Proofs.Ytalnipjaekpbhaa
open Go.ChangeShapes Go.WideShapes Go.ChangeAt Go.RowKit Go.Deep
set_option linter.unusedSimpArgs false
set_option linter.unusedVariables false
/- 'append(nil, xs...)', xs empty, of whatever address: nil -/
theorem wpList_append_empty {P : Program} (w : World) {ops : Array Oper} {rest : List Oper} {o : Oper} {a : Act} {Q : Exit → Act → World → Prop} (hg : o.guard = none) (s x : Operand) (t : TypeId)
    (ho : o.op = .call { callee := .builtin .append, args := #[s, x], argTypes := #[t, t] })
    (e : TypeId) (i : TypeInfo) (z : Value) (size bytes : Nat) (ht : P.underlying t = some (.slice e)) (hi : P.info? e = some i) (hz : i.zero = some z)
    (hsize : i.size = size) (hby : i.bytes = bytes) (hzs : z.cells.size = size) (hsz : 0 < size)
    (hs : a.eval s = .slice none 0 0) (ao : Option Addr) (n0 c : Nat) (hx : a.eval x = .slice ao n0 c) (hn : n0 = 0) (hnone : ao = none → c = 0)
    (h : ∀ w', w.grownBy w' none → wpList P ops Q rest (a.put o.dst (.slice none 0 0)) w') : wpList P ops Q (o :: rest) a w := by
  subst hn
  have hown : w.ownsRow w.heap.size e size (.slice none 0 0) 0 [] := ⟨by simp, .inl ⟨rfl, rfl⟩⟩
  cases ao with
  | some ad => exact wpList_append_own w hg s x t ho w.heap.size e i z size bytes ht hi hz hsize hby hzs hsz (.slice none 0 0) 0 [] hs hown ad 0 c [] hx (by simp) (by intro j u h; simp at h) (by intro u h; simp at h) (by decide) (by omega) (Nat.le_refl _) (fun v' w' h1 h2 h3 => by
      obtain rfl : v' = .slice none 0 0 := h3.2 ⟨rfl, rfl⟩
      exact h w' h2)
  | none =>
    obtain rfl := hnone rfl
    refine wpList_plain hg fun K hK' => ?_
    have hrun := run_append_owned_none (P := P) w w.heap.size t o.type e i size ht hi _ 0 [] hown
    unfold Oper.wp
    simp [execOp, ho, resolve, invoke, builtin, hs, hx, hrun, Result.andThen]
    exact hK' _ _ (by simpa using h w (World.grownBy.refl _ _))

/-- 'append(s, xs...)', xs empty, s a row of the call's own that is not empty -/
theorem wpList_append0 {P : Program} (w : World) {ops : Array Oper} {rest : List Oper} {o : Oper} {a : Act} {Q : Exit → Act → World → Prop} (hgd : o.guard = none) (s x : Operand) (t : TypeId)
    (ho : o.op = .call { callee := .builtin .append, args := #[s, x], argTypes := #[t, t] })
    (e : TypeId) (i : TypeInfo) (z : Value) (bytes : Nat) (ht : P.underlying t = some (.slice e)) (hi : P.info? e = some i) (hz : i.zero = some z)
    (hsize : i.size = 1) (hby : i.bytes = bytes) (hzs : z.cells.size = 1)
    (v : Value) (n : Nat) (xs : List Value) (hs : a.eval s = v) (hown : w.ownsRow 0 e 1 v n xs) (hn : 0 < n) (hmx : n ≤ maxLen) (hmb : n * bytes ≤ 140737488355328)
    (ad : Addr) (n0 c : Nat) (hx : a.eval x = .slice (some ad) n0 c) (hn0 : n0 = 0)
    (h : ∀ g cap w', w'.ownsRow 0 e 1 (.slice (some ⟨g, 0, none⟩) n cap) n xs → w.grownBy w' v.ownBlock → (v.ownBlock = some g ∨ g = w.heap.size) → g < w'.heap.size → wpList P ops Q rest (a.put o.dst (.slice (some ⟨g, 0, none⟩) n cap)) w') : wpList P ops Q (o :: rest) a w := by
  subst hn0
  refine wpList_plain hgd fun K hK => ?_
  obtain ⟨v', w', hr, h2, h3, _, h5⟩ := run_append_own_at (P := P) w 0 t o.type e i z 1 bytes ht hi hz hsize hby hzs (by decide) v n xs hown ad 0 c [] rfl (by intro j u hj; simp at hj) (by intro u hu; simp at hu) (by omega) (by simpa using hmb) (Nat.zero_le _)
  rw [Nat.add_zero, List.append_nil] at h2
  obtain ⟨g, cap, rfl, _, hlt⟩ := h2.form hn
  unfold Oper.wp execOp
  simp only [ho, resolve, invoke, builtin, Sem.run_bind, Sem.run_pure, Result.andThen_ok, List.map_toArray, List.map_cons, List.map_nil, hs, hx, hr]
  refine hK _ _ (h g cap w' h2 h3 ?_ hlt)
  rcases h5 with h5 | h5
  · exact .inl (by rw [← h5]; rfl)
  · exact .inr (by simpa [Value.ownBlock] using h5)

set_option maxHeartbeats 2000000 in
theorem raw_none (g : Nat) (v : Value) (b : Addr) (n0 cap : Nat) (w : World) (hW : WObj w g v []) (hn0 : n0 = 0) : Calls Try.prog 79 #[.pointer (some ⟨g, 0, none⟩), .slice (some b) n0 cap] w (fun e w' => ∃ v', e = .returned (.int .i64 0) ∧ WObj w' g v' [] ∧ WKeep g v w w' ∧ Near w v v') := by
  obtain ⟨i0, hi0, hz0, hz1, hz2⟩ := info_parts info5
  obtain ⟨w1, w2, w3, w4, w5, w6⟩ := hW
  obtain rfl := w6 rfl
  have HN := hide hn0
  clear w4 w6 hn0
  go_enter Try.func79, Try.ntmps79
  go_wp2_with (at_builtin; refine wpList_append_empty _ rfl (.tmp 11) (.tmp 12) 30 rfl 5 i0 (.int .u8 0) 1 1 Try.underlying30 hi0 hz0 hz1 hz2 rfl (by decide) rfl (some b) n0 cap rfl HN.out (fun h => by cases h) ?_; intro wn hg2; have cg : wn.cell? ⟨g, 0, none⟩ = some (.slice none 0 0) := (hg2.cell_far ⟨g, 0, none⟩ w1 (by simp)).trans w2; have fg : wn.frozen? ⟨g, 0, none⟩ = false := (hg2.frozen_far ⟨g, 0, none⟩ w1 (by simp)).trans w3)
  go_ret
  have hs2 : w.heap.size ≤ wn.heap.size := hg2.size
  refine ⟨.slice none 0 0, rfl, ⟨by (simp; omega), by (simp [go_sem, cg]; done), by (simp [go_sem, fg]; done), World.ownsRow_nil _ _ _ _, by simp [Value.ownBlock], fun _ => rfl⟩, ⟨?_, ?_, ?_, ?_, ?_⟩, .inl rfl⟩
  · exact hg2.os
  · exact hg2.tape
  · exact hg2.output
  · (simp; omega)
  · intro i hi h1 h2
    rw [Below.heap_setCell _ _ _ _ (by exact h1)]
    exact hg2.block i hi (by simp)

set_option maxHeartbeats 2000000 in
theorem raw_some (g : Nat) (v : Value) (bs : List Nat) (b : Addr) (n0 cap : Nat) (w : World) (hW : WObj w g v bs) (hm : 0 < bs.length) (hl : bs.length ≤ 17592186044416) (hn0 : n0 = 0) : Calls Try.prog 79 #[.pointer (some ⟨g, 0, none⟩), .slice (some b) n0 cap] w (fun e w' => ∃ v', e = .returned (.int .i64 0) ∧ WObj w' g v' bs ∧ WKeep g v w w' ∧ Near w v v') := by
  obtain ⟨i0, hi0, hz0, hz1, hz2⟩ := info_parts info5
  obtain ⟨w1, w2, w3, w4, w5, w6⟩ := hW
  have HN := hide hn0
  have Hown := hide w4
  have Hne := hide w5
  clear w4 w5 w6 hn0
  go_enter Try.func79, Try.ntmps79
  go_wp2_with (at_builtin; refine wpList_append0 _ rfl (.tmp 11) (.tmp 12) 30 rfl 5 i0 (.int .u8 0) 1 Try.underlying30 hi0 hz0 hz1 hz2 rfl v bs.length (bs.map (fun (b : Nat) => Value.int .u8 (b : Int))) rfl Hown.out hm (by unfold maxLen; omega) (by omega) b n0 cap rfl HN.out ?_; intro g2 cap2 wn hown2 hg2 hgg hgl; have cg : wn.cell? ⟨g, 0, none⟩ = some v := (hg2.cell_far ⟨g, 0, none⟩ w1 (fun e => Hne.out e.symm)).trans w2; have fg : wn.frozen? ⟨g, 0, none⟩ = false := (hg2.frozen_far ⟨g, 0, none⟩ w1 (fun e => Hne.out e.symm)).trans w3)
  go_ret
  have hgne : g2 ≠ g := by
    rintro rfl
    rcases hgg with q | q
    · exact Hne.out q
    · omega
  have hs2 : w.heap.size ≤ wn.heap.size := hg2.size
  refine ⟨_, rfl, ⟨by (simp; omega), by (simp [go_sem, cg]; done), by (simp [go_sem, fg]; done), ownsRow_setCell_other hown2 (a := ⟨g, 0, none⟩) (by (simp [Value.ownBlock]; exact hgne)) _, by (simp [Value.ownBlock]; exact hgne), fun h => by (rw [h] at hm; simp at hm)⟩, ⟨?_, ?_, ?_, ?_, ?_⟩, ?_⟩
  · exact hg2.os
  · exact hg2.tape
  · exact hg2.output
  · (simp; omega)
  · intro i hi h1 h2
    rw [Below.heap_setCell _ _ _ _ (by exact h1)]
    exact hg2.block i hi h2
  · rcases hgg with q | q
    · exact .inl q.symm
    · exact .inr ⟨g2, rfl, by omega⟩
end Go.Proofs.Ytalnipjaekpbhaa


namespace Go.Proofs.Ytalnipjaekpbhaa
open Go.ChangeShapes Go.WideShapes Go.ChangeAt Go.RowKit Go.Deep
set_option linter.unusedSimpArgs false
set_option linter.unusedVariables false

/-- a text's bytes -/
def sb (s : ByteArray) : List Nat := s.data.toList.map (fun b => b.toNat)
theorem sb_length (s : ByteArray) : (sb s).length = s.size := by simp [sb]
theorem bytes_below (w : World) (e : TypeId) (s : ByteArray) : Below w.heap.size w (Go.Lib.bytesWorld w e s) :=
  ⟨rfl, rfl, rfl, by rw [Go.Lib.bytesWorld_size]; omega, fun i hi => Go.Lib.bytesWorld_at_old w e s i hi⟩
theorem bytes_cells (w : World) (e : TypeId) (s : ByteArray) : ∀ j, j < (sb s).length → (Go.Lib.bytesWorld w e s).cell? ⟨w.heap.size, 0 + j, none⟩ = some (.int .u8 ((sb s).getD j 0 : Int)) := fun j hj => by
  rw [sb_length] at hj
  rw [Nat.zero_add, Go.Lib.bytesWorld_cell w e s j hj]
  have hj' : j < s.data.size := hj
  simp [sb, List.getD, Array.getElem?_eq_getElem hj']
def text (s : ByteArray) : List Nat := form s.size ++ sb s
theorem form_pos (x : Nat) : 0 < (form x).length := by unfold form; split <;> simp
theorem form_le {x : Nat} (h : x < 18446744073709551616) : (form x).length ≤ 9 := by
  have := many_u64 h
  unfold form; split <;> simp [hi_length]; omega

set_option maxRecDepth 100000 in
set_option maxHeartbeats 2000000 in
theorem Text_some (g : Nat) (v : Value) (bs : List Nat) (s : ByteArray) (w : World) (hW : WObj w g v bs) (hl : bs.length ≤ 8796093022208) (hs : s.size ≤ 1099511627776) (hp : 0 < s.size) : Calls Try.prog 44 #[.pointer (some ⟨g, 0, none⟩), .string s] w (fun e w' => ∃ v', e = .returned (.int .i64 0) ∧ WObj w' g v' (bs ++ text s) ∧ WKeep g v w w' ∧ Near w v v') := by
  have hx : s.size < 18446744073709551616 := by omega
  have hfp := form_pos s.size
  have hfl := form_le hx
  have HWh := hide hW
  clear hW
  go_enter Try.func44, Try.ntmps44
  go_wp2_with fail
  refine (Number_c g v bs s.size _ HWh.out hl hx).mono ?_
  rintro e w1 ⟨v1, rfl, hW1, hk1, hn1⟩
  have HW1 := hide hW1
  clear hW1
  go_wp2_with fail
  rw [Go.Lib.run_convert_string_bytes w1 9 30 5 s Try.underlying9 Try.underlying30 Try.underlying5]
  have hB := bytes_below w1 5 s
  have HW2 := hide (HW1.out.below hB)
  have HC := hide (bytes_cells w1 5 s)
  generalize grownCap w1 s.size 0 5 = cap
  go_wp2_with fail
  rw [show (.slice (some ⟨w1.heap.size, 0, none⟩) s.size cap : Value) = .slice (some ⟨w1.heap.size, 0, none⟩) (sb s).length cap from by rw [sb_length]]
  refine (raw_c g v1 (bs ++ form s.size) (sb s) w1.heap.size 0 cap _ HW2.out (by rw [sb_length]; exact hp) (by rw [sb_length, List.length_append]; omega) HC.out).mono ?_
  rintro e w3 ⟨v', rfl, hW3, hk3, hn3⟩
  go_wp2
  go_ret
  have hs1 : w.heap.size ≤ w1.heap.size := hk1.2.2.2.1
  have hs2 : w.heap.size ≤ (Go.Lib.bytesWorld w1 5 s).heap.size := Nat.le_trans hs1 hB.size
  have hk12 : WKeep g v1 w1 (Go.Lib.bytesWorld w1 5 s) := WKeep.of_below hB
  exact ⟨v', rfl, by (have q := hW3; rw [List.append_assoc] at q; exact q), (hk1.trans hn1 hk12).trans hn1 hk3, hn1.trans hs2 hn3⟩

set_option maxRecDepth 100000 in
set_option maxHeartbeats 2000000 in
theorem Text_none (g : Nat) (v : Value) (bs : List Nat) (s : ByteArray) (w : World) (hW : WObj w g v bs) (hl : bs.length ≤ 8796093022208) (hp : s.size = 0) : Calls Try.prog 44 #[.pointer (some ⟨g, 0, none⟩), .string s] w (fun e w' => ∃ v', e = .returned (.int .i64 0) ∧ WObj w' g v' (bs ++ text s) ∧ WKeep g v w w' ∧ Near w v v') := by
  have hx : s.size < 18446744073709551616 := by omega
  have HP := hide hp
  clear hp
  have hfp := form_pos s.size
  have hfl := form_le hx
  have HWh := hide hW
  clear hW
  go_enter Try.func44, Try.ntmps44
  go_wp2_with fail
  refine (Number_c g v bs s.size _ HWh.out hl hx).mono ?_
  rintro e w1 ⟨v1, rfl, hW1, hk1, hn1⟩
  have HW1 := hide hW1
  clear hW1
  go_wp2_with fail
  rw [Go.Lib.run_convert_string_bytes w1 9 30 5 s Try.underlying9 Try.underlying30 Try.underlying5]
  have hB := bytes_below w1 5 s
  have HW2 := hide (HW1.out.below hB)
  generalize grownCap w1 s.size 0 5 = cap
  go_wp2_with fail
  refine (raw_some g v1 (bs ++ form s.size) ⟨w1.heap.size, 0, none⟩ s.size cap _ HW2.out (by rw [List.length_append]; omega) (by rw [List.length_append]; omega) HP.out).mono ?_
  rintro e w3 ⟨v', rfl, hW3, hk3, hn3⟩
  go_wp2
  go_ret
  have hs1 : w.heap.size ≤ w1.heap.size := hk1.2.2.2.1
  have hs2 : w.heap.size ≤ (Go.Lib.bytesWorld w1 5 s).heap.size := Nat.le_trans hs1 hB.size
  have hk12 : WKeep g v1 w1 (Go.Lib.bytesWorld w1 5 s) := WKeep.of_below hB
  have e : text s = form s.size := by
    have q : sb s = [] := List.eq_nil_of_length_eq_zero (by rw [sb_length]; exact HP.out)
    unfold text; rw [q, List.append_nil]
  rw [e]
  exact ⟨v', rfl, hW3, (hk1.trans hn1 hk12).trans hn1 hk3, hn1.trans hs2 hn3⟩
end Go.Proofs.Ytalnipjaekpbhaa


namespace Go.Proofs.Ytalnipjaekpbhaa
open Go.ChangeShapes Go.WideShapes Go.ChangeAt Go.RowKit Go.Deep
set_option linter.unusedSimpArgs false
set_option linter.unusedVariables false

/-- the reader at g has the bytes ns, which lie at b, and has read 'at' of them -/
def RObj (w : World) (g b off cap : Nat) (ns : List Nat) (at_ : Nat) : Prop :=
  g < w.heap.size ∧ (∀ o, w.cell? ⟨g, o, none⟩ = (#[Value.slice (some ⟨b, off, none⟩) ns.length cap, Value.int .i64 (at_ : Int)] : Array Value)[o]?) ∧ (∀ o, w.frozen? ⟨g, o, none⟩ = false) ∧
  b < w.heap.size ∧ b ≠ g ∧ (∀ j, j < ns.length → w.cell? ⟨b, off + j, none⟩ = some (.int .u8 (ns.getD j 0 : Int))) ∧ (∀ x ∈ ns, x < 256) ∧ at_ ≤ ns.length ∧ ns.length ≤ 1152921504606846976 ∧ ns.length ≤ cap
theorem RObj.below {w w' : World} {g b off cap : Nat} {ns : List Nat} {at_ : Nat} (h : RObj w g b off cap ns at_) (hb : Below w.heap.size w w') : RObj w' g b off cap ns at_ := by
  obtain ⟨h1, h2, h3, h4, h5, h6, h7, h8, h9, h10⟩ := h
  exact ⟨Nat.lt_of_lt_of_le h1 hb.size, fun o => (hb.cell (p := ⟨g, o, none⟩) h1).trans (h2 o), fun o => (hb.frozen (p := ⟨g, o, none⟩) h1).trans (h3 o), Nat.lt_of_lt_of_le h4 hb.size, h5, fun j hj => (hb.cell (p := ⟨b, off + j, none⟩) h4).trans (h6 j hj), h7, h8, h9, h10⟩
/-- only block g may have changed -/
structure Only (g : Nat) (w w' : World) : Prop where
  os : w'.os = w.os
  tape : w'.tape = w.tape
  output : w'.output = w.output
  size : w.heap.size ≤ w'.heap.size
  block : ∀ i, i < w.heap.size → i ≠ g → w'.heap[i]? = w.heap[i]?

set_option maxRecDepth 100000 in
set_option maxHeartbeats 1000000 in
theorem Left_c (g b off cap : Nat) (ns : List Nat) (at_ : Nat) (w : World) (hR : RObj w g b off cap ns at_) : Calls Try.prog 91 #[.pointer (some ⟨g, 0, none⟩)] w fun e w' => e = .returned (.int .i64 ((ns.length : Int) - (at_ : Int))) ∧ Below w.heap.size w w' := by
  obtain ⟨h1, h2, h3, h4, h5, h6, h7, h8, h9, h10⟩ := hR
  have H6 := hide h6
  have H7 := hide h7
  clear h6 h7
  go_enter Try.func91, Try.ntmps91
  go_wp2
  go_quiet (fail)
  go_wp2
  go_ret
  exact ⟨rfl, by (focus repeat' (first | (with_reducible exact Below.refl _ _) | (with_reducible assumption) | (with_reducible refine Below.alloc ?_ ?_ _) | (with_reducible refine Below.drew ?_) | (with_reducible refine bdrewN ?_ _) | (with_reducible refine Below.setCell ?_ ?_ _) | (first | (with_reducible exact Nat.le_refl _) | (with_reducible assumption) | omega | (simp; omega) | (simp; done))))⟩

set_option maxRecDepth 100000 in
set_option maxHeartbeats 1000000 in
theorem next_end (g b off cap : Nat) (ns : List Nat) (at_ : Nat) (n : Nat) (w : World) (hR : RObj w g b off cap ns at_) (hn : ns.length < at_ + n) (hnn : n ≤ 8) : Calls Try.prog 96 #[.pointer (some ⟨g, 0, none⟩), .int .i64 (n : Int)] w fun e w' => e = .returned (.tuple #[.int .u64 0, .int .i64 110]) ∧ Below w.heap.size w w' := by
  have hR' := hide hR
  obtain ⟨h1, h2, h3, h4, h5, h6, h7, h8, h9, h10⟩ := hR
  have H6 := hide h6
  have H7 := hide h7
  clear h6 h7
  go_enter Try.func96, Try.ntmps96
  go_wp2_with fail
  refine (Left_c g b off cap ns at_ _ hR'.out).mono ?_
  rintro e w1 ⟨rfl, hb1⟩
  go_wp2
  go_ret2
  exact ⟨rfl, by (focus repeat' (first | (with_reducible exact Below.refl _ _) | (with_reducible assumption) | (with_reducible refine Below.alloc ?_ ?_ _) | (with_reducible refine Below.drew ?_) | (with_reducible refine bdrewN ?_ _) | (with_reducible refine Below.setCell ?_ ?_ _) | (first | (with_reducible exact Nat.le_refl _) | (with_reducible assumption) | omega | (simp; omega) | (simp; done))))⟩
end Go.Proofs.Ytalnipjaekpbhaa


namespace Go.Proofs.Ytalnipjaekpbhaa
open Go.ChangeShapes Go.WideShapes Go.ChangeAt Go.RowKit Go.Deep
set_option linter.unusedSimpArgs false
set_option linter.unusedVariables false

/-- bytes as a number, the highest first -/
def num (l : List Nat) : Nat := l.foldl (fun a b => 256 * a + b) 0
theorem num_app (l : List Nat) (b : Nat) : num (l ++ [b]) = 256 * num l + b := by unfold num; rw [List.foldl_append]; rfl
theorem num_lt (k : Nat) : ∀ l : List Nat, l.length = k → (∀ x ∈ l, x < 256) → num l < 256 ^ k := by
  induction k with
  | zero => intro l hl _; obtain rfl := List.eq_nil_of_length_eq_zero hl; decide
  | succ k ih =>
    intro l hl hx
    have hne : l ≠ [] := by rintro rfl; simp at hl
    have e := List.dropLast_concat_getLast hne
    rw [← e, num_app]
    have h1 := ih l.dropLast (by rw [List.length_dropLast]; omega) (fun x h => hx x ((List.dropLast_sublist l).subset h))
    have h2 := hx _ (List.getLast_mem hne)
    rw [Nat.pow_succ]; omega
theorem or_add (x b : Nat) (hb : b < 256) (hx : x < 72057594037927936) : bits .or .u64 ((256 * x : Nat) : Int) (b : Int) = ((256 * x + b : Nat) : Int) := by
  rw [bits_or_u64_nat (256 * x) b (by omega) (by omega)]
  congr 1
  have := Nat.two_pow_add_eq_or_of_lt (i := 8) (b := b) (by simpa using hb) x
  rw [show (2 : Nat) ^ 8 = 256 from rfl] at this
  exact this.symm

set_option maxRecDepth 100000 in
set_option maxHeartbeats 2000000 in
theorem next_c (g b off cap : Nat) (ns : List Nat) (at_ : Nat) (n : Nat) (w : World) (hR : RObj w g b off cap ns at_) (hn : at_ + n ≤ ns.length) (hn1 : 1 ≤ n) (hnn : n ≤ 8) : Calls Try.prog 96 #[.pointer (some ⟨g, 0, none⟩), .int .i64 (n : Int)] w (fun e w' => e = .returned (.tuple #[.int .u64 (num ((ns.drop at_).take n) : Int), .int .i64 0]) ∧ Only g w w' ∧ RObj w' g b off cap ns (at_ + n)) := by
  have hR' := hide hR
  obtain ⟨h1, h2, h3, h4, h5, h6, h7, h8, h9, h10⟩ := hR
  have H6 := hide h6
  have H7 := hide h7
  clear h6 h7
  have q1 : ¬ ((ns.length : Int) - (at_ : Int) < (n : Int)) := by omega
  go_enter Try.func96, Try.ntmps96
  go_wp2_with fail
  refine (Left_c g b off cap ns at_ _ hR'.out).mono ?_
  rintro e w1 ⟨rfl, hb1⟩
  have hR1 := hide (hR'.out.below hb1)
  obtain ⟨r1, r2, r3, r4, r5, r6, r7, r8, r9, r10⟩ := hR'.out.below hb1
  clear h1 h2 h3 h4 hR'
  have R6 := hide r6
  clear r6 r7
  have hca : ¬ cap = at_ := by omega
  have hz1 : w.heap.size ≤ w1.heap.size := hb1.size
  have HB1 := hide hb1
  clear hb1
  go_wp2
  go_quiet (fail)
  go_wp2
  go_loopw [6, 8, 29] (fun v6 v8 v29 wr => ∃ j : Nat, j ≤ n ∧ v6 = .int .u64 (num ((ns.drop at_).take j) : Int) ∧ v29 = .int .i64 (j : Int) ∧ Below w1.heap.size w1 wr) (fun _ _ v29 _ => n - (intOf v29).toNat)
  case atStart => exact ⟨0, Nat.zero_le _, rfl, rfl, by (focus repeat' (first | (with_reducible exact Below.refl _ _) | (with_reducible assumption) | (with_reducible refine Below.alloc ?_ ?_ _) | (with_reducible refine Below.drew ?_) | (with_reducible refine bdrewN ?_ _) | (with_reducible refine Below.setCell ?_ ?_ _) | (first | (with_reducible exact Nat.le_refl _) | (with_reducible assumption) | omega | (simp; omega) | (simp; done))))⟩
  case round =>
    obtain ⟨j, hj, rfl, rfl, rB⟩ := hrel
    by_cases hlt : j < n
    · have hlt' : (j : Int) < (n : Int) := by omega
      have c1 : wr.cell? ⟨b, off + at_ + j, none⟩ = some (.int .u8 (ns.getD (at_ + j) 0 : Int)) := by
        have q := (rB.cell (p := ⟨b, off + (at_ + j), none⟩) r4).trans (R6.out (at_ + j) (by omega))
        rw [← Nat.add_assoc] at q
        exact q
      have hy : ns.getD (at_ + j) 0 < 256 := H7.out _ (by (have e : ns.getD (at_ + j) 0 = ns[at_ + j]'(by omega) := by simp [List.getD, show at_ + j < ns.length by omega]); rw [e]; exact List.getElem_mem _)
      have hnx := hide (show num ((ns.drop at_).take (j + 1)) = 256 * num ((ns.drop at_).take j) + ns.getD (at_ + j) 0 from by
        rw [← num_app]
        congr 1
        rw [List.take_add_one]
        congr 1
        simp [List.getD, show at_ + j < ns.length by omega])
      have hX : num ((ns.drop at_).take j) < 72057594037927936 := by
        have q := num_lt j ((ns.drop at_).take j) (by rw [List.length_take, List.length_drop]; omega) (fun x hx => H7.out x (List.mem_of_mem_drop (List.mem_of_mem_take hx)))
        have p : 256 ^ j ≤ 256 ^ 7 := Nat.pow_le_pow_right (by decide) (by omega)
        have p7 : (256 : Nat) ^ 7 = 72057594037927936 := by decide
        omega
      generalize num ((ns.drop at_).take j) = X at *
      generalize ns.getD (at_ + j) 0 = y at *
      have HO := hide (or_add X y hy hX)
      go_wp2
      go_roundw
      case rel => exact ⟨j + 1, by omega, by rw [hnx.out, ← HO.out]; first | rfl | (congr 2; omega), by go_num, by (focus repeat' (first | (with_reducible exact Below.refl _ _) | (with_reducible assumption) | (with_reducible refine Below.alloc ?_ ?_ _) | (with_reducible refine Below.drew ?_) | (with_reducible refine bdrewN ?_ _) | (with_reducible refine Below.setCell ?_ ?_ _) | (first | (with_reducible exact Nat.le_refl _) | (with_reducible assumption) | omega | (simp; omega) | (simp; done))))⟩
      case measure => simp [intOf]; omega
    · have hjn : j = n := by omega
      subst hjn
      have hle : ¬ ((j : Int) < (j : Int)) := by omega
      obtain ⟨t1, t2, t3, t4, t5, t6, t7, t8, t9, t10⟩ := hR1.out.below rB
      have T6 := hide t6
      have T7 := hide t7
      have hB : Below w.heap.size w wr := HB1.out.trans (rB.mono hz1)
      clear t6 t7 r1 r2 r3 r4 R6 rB
      go_wp2
      go_ret2
      refine ⟨by first | rfl | (congr 4), ⟨hB.os, hB.tape, hB.output, by (simp; exact hB.size), fun i hi hne => by rw [Below.heap_setCell _ _ _ _ (by exact hne)]; exact hB.block i hi⟩, by simpa using t1, ?_, ?_, by simpa using t4, t5, ?_, T7.out, by omega, t9, t10⟩
      · intro o
        rcases o with _ | _ | o
        · simp [go_sem, t2]
        · simp [go_sem, t2]
        · simp [go_sem, t2]
      · intro o; simp only [World.frozen?_setCell]; exact t3 o
      · intro i hi
        refine (World.cell?_of_block (Below.heap_setCell _ _ _ _ ?_)).trans (T6.out i hi)
        exact t5
end Go.Proofs.Ytalnipjaekpbhaa


namespace Go.Proofs.Ytalnipjaekpbhaa
open Go.ChangeShapes Go.WideShapes Go.ChangeAt Go.RowKit Go.Deep
set_option linter.unusedSimpArgs false
set_option linter.unusedVariables false

def Only2 (g h : Nat) (w w' : World) : Prop := w'.os = w.os ∧ w'.tape = w.tape ∧ w'.output = w.output ∧ w.heap.size ≤ w'.heap.size ∧ ∀ i, i < w.heap.size → i ≠ g → i ≠ h → w'.heap[i]? = w.heap[i]?
theorem Only2.of_below {g h : Nat} {w w' : World} (k : Below w.heap.size w w') : Only2 g h w w' := ⟨k.os, k.tape, k.output, k.size, fun i hi _ _ => k.block i hi⟩
theorem Only2.of_only {g h : Nat} {w w' : World} (k : Only g w w') : Only2 g h w w' := ⟨k.os, k.tape, k.output, k.size, fun i hi h1 _ => k.block i hi h1⟩
theorem Only2.trans {g h : Nat} {w w1 w2 : World} (k : Only2 g h w w1) (l : Only2 g h w1 w2) : Only2 g h w w2 :=
  ⟨l.1.trans k.1, l.2.1.trans k.2.1, l.2.2.1.trans k.2.2.1, Nat.le_trans k.2.2.2.1 l.2.2.2.1, fun i hi h1 h2 => (l.2.2.2.2 i (Nat.lt_of_lt_of_le hi k.2.2.2.1) h1 h2).trans (k.2.2.2.2 i hi h1 h2)⟩
theorem Only2.set {g h : Nat} {w w1 : World} (k : Only2 g h w w1) (o : Nat) (u : Value) : Only2 g h w (w1.setCell ⟨h, o, none⟩ u) :=
  k.trans ⟨rfl, rfl, rfl, by simp, fun i hi _ h2 => Below.heap_setCell _ _ _ _ h2⟩
theorem Only2.cell {g h : Nat} {w w1 : World} (k : Only2 g h w w1) {p : Addr} (hp : p.block < w.heap.size) (h1 : p.block ≠ g) (h2 : p.block ≠ h) : w1.cell? p = w.cell? p := World.cell?_of_block (k.2.2.2.2 _ hp h1 h2)
theorem Only2.frozen {g h : Nat} {w w1 : World} (k : Only2 g h w w1) {p : Addr} (hp : p.block < w.heap.size) (h1 : p.block ≠ g) (h2 : p.block ≠ h) : w1.frozen? p = w.frozen? p := World.frozen?_of_block (k.2.2.2.2 _ hp h1 h2)
theorem RObj.set {w : World} {g b off cap : Nat} {ns : List Nat} {at_ h : Nat} (k : RObj w g b off cap ns at_) (h1 : h ≠ g) (h2 : h ≠ b) (o : Nat) (u : Value) : RObj (w.setCell ⟨h, o, none⟩ u) g b off cap ns at_ := by
  obtain ⟨r1, r2, r3, r4, r5, r6, r7, r8, r9, r10⟩ := k
  refine ⟨by simpa using r1, fun i => (World.cell?_of_block (Below.heap_setCell _ _ _ _ (fun e => h1 e.symm))).trans (r2 i), fun i => by simp only [World.frozen?_setCell]; exact r3 i, by simpa using r4, r5, fun j hj => (World.cell?_of_block (Below.heap_setCell _ _ _ _ (fun e => h2 e.symm))).trans (r6 j hj), r7, r8, r9, r10⟩
theorem num1 (x : Nat) : num [x] = x := by unfold num; simp

theorem next1_c (g b off cap : Nat) (ns : List Nat) (at_ : Nat) (w : World) (hR : RObj w g b off cap ns at_) (hn : at_ < ns.length) : Calls Try.prog 96 #[.pointer (some ⟨g, 0, none⟩), .int .i64 1] w fun e w' => e = .returned (.tuple #[.int .u64 (ns.getD at_ 0 : Int), .int .i64 0]) ∧ Only g w w' ∧ RObj w' g b off cap ns (at_ + 1) := by
  have q := next_c g b off cap ns at_ 1 w hR (by omega) (by omega) (by omega)
  have e : (ns.drop at_).take 1 = [ns.getD at_ 0] := by
    rw [List.drop_eq_getElem_cons hn, List.take_succ_cons, List.take_zero]
    simp [List.getD, hn]
  rw [e, num1] at q
  exact q
theorem next1_end (g b off cap : Nat) (ns : List Nat) (at_ : Nat) (w : World) (hR : RObj w g b off cap ns at_) (hn : ns.length ≤ at_) : Calls Try.prog 96 #[.pointer (some ⟨g, 0, none⟩), .int .i64 1] w fun e w' => e = .returned (.tuple #[.int .u64 0, .int .i64 110]) ∧ Below w.heap.size w w' := next_end g b off cap ns at_ 1 w hR (by omega) (by omega)

set_option maxRecDepth 100000 in
set_option maxHeartbeats 1000000 in
theorem num1_end (g b off cap Br Bx : Nat) (ns : List Nat) (at_ : Nat) (w : World) (hR : RObj w g b off cap ns at_) (hB : ∀ o, w.cell? ⟨Br, o, none⟩ = (#[Value.pointer (some ⟨g, 0, none⟩)] : Array Value)[o]?) (hBz : Br < w.heap.size) (hXz : Bx < w.heap.size) (hX : ∀ o, w.cell? ⟨Bx, o, none⟩ = (#[Value.int .u64 0] : Array Value)[o]?) (hXf : ∀ o, w.frozen? ⟨Bx, o, none⟩ = false) (d1 : Br ≠ g) (d2 : Bx ≠ g) (d3 : Bx ≠ Br) (d4 : Bx ≠ b) (hn : ns.length ≤ at_) : Calls Try.prog 95 #[.pointer (some ⟨Br, 0, none⟩), .pointer (some ⟨Bx, 0, none⟩)] w (fun e w' => e = .returned (.int .i64 110) ∧ Only2 g Bx w w' ∧ RObj w' g b off cap ns at_ ∧ w'.cell? ⟨Bx, 0, none⟩ = some (.int .u64 (0 : Int))) := by
  have HR := hide hR
  have HX := hide hX
  have HXF := hide hXf
  clear hR hX hXf
  go_enter Try.func95, Try.ntmps95
  go_wp2_with fail
  refine (next1_end g b off cap ns at_ _ HR.out hn).mono ?_
  rintro e w1 ⟨rfl, hb1⟩
  have XC : ∀ o, w1.cell? ⟨Bx, o, none⟩ = (#[Value.int .u64 0] : Array Value)[o]? := fun o => (hb1.cell (p := ⟨Bx, o, none⟩) hXz).trans (HX.out o)
  have XF : ∀ o, w1.frozen? ⟨Bx, o, none⟩ = false := fun o => (hb1.frozen (p := ⟨Bx, o, none⟩) hXz).trans (HXF.out o)
  have hR1 := hide (HR.out.below hb1)
  go_wp2
  go_ret
  exact ⟨rfl, (Only2.of_below hb1).set 0 _, hR1.out.set d2 d4 0 _, by simp [go_sem, XC]⟩

set_option maxRecDepth 100000 in
set_option maxHeartbeats 1000000 in
theorem num1_short (g b off cap Br Bx : Nat) (ns : List Nat) (at_ : Nat) (w : World) (hR : RObj w g b off cap ns at_) (hB : ∀ o, w.cell? ⟨Br, o, none⟩ = (#[Value.pointer (some ⟨g, 0, none⟩)] : Array Value)[o]?) (hBz : Br < w.heap.size) (hXz : Bx < w.heap.size) (hX : ∀ o, w.cell? ⟨Bx, o, none⟩ = (#[Value.int .u64 0] : Array Value)[o]?) (hXf : ∀ o, w.frozen? ⟨Bx, o, none⟩ = false) (d1 : Br ≠ g) (d2 : Bx ≠ g) (d3 : Bx ≠ Br) (d4 : Bx ≠ b) (hn : at_ < ns.length) (hf : (ns.getD at_ 0) ≤ 247) : Calls Try.prog 95 #[.pointer (some ⟨Br, 0, none⟩), .pointer (some ⟨Bx, 0, none⟩)] w (fun e w' => e = .returned (.int .i64 0) ∧ Only2 g Bx w w' ∧ RObj w' g b off cap ns (at_ + 1) ∧ w'.cell? ⟨Bx, 0, none⟩ = some (.int .u64 ((ns.getD at_ 0) : Int))) := by
  have HR := hide hR
  have HX := hide hX
  have HXF := hide hXf
  clear hR hX hXf
  generalize hx : (ns.getD at_ 0) = f at *
  have Hx := hide hx
  clear hx
  have hf' : (f : Int) ≤ 247 := by omega
  go_enter Try.func95, Try.ntmps95
  go_wp2_with fail
  refine (next1_c g b off cap ns at_ _ HR.out hn).mono ?_
  rw [Hx.out]
  rintro e w1 ⟨rfl, ho1, hR1⟩
  have HR1 := hide hR1
  have k1 : Only2 g Bx w w1 := Only2.of_only ho1
  have XC : ∀ o, w1.cell? ⟨Bx, o, none⟩ = (#[Value.int .u64 0] : Array Value)[o]? := fun o => (World.cell?_of_block (ho1.block Bx hXz d2)).trans (HX.out o)
  have XF : ∀ o, w1.frozen? ⟨Bx, o, none⟩ = false := fun o => (World.frozen?_of_block (ho1.block Bx hXz d2)).trans (HXF.out o)
  have BC : ∀ o, w1.cell? ⟨Br, o, none⟩ = (#[Value.pointer (some ⟨g, 0, none⟩)] : Array Value)[o]? := fun o => (World.cell?_of_block (ho1.block Br hBz d1)).trans (hB o)
  have hXz1 : Bx < w1.heap.size := Nat.lt_of_lt_of_le hXz ho1.size
  have hBz1 : Br < w1.heap.size := Nat.lt_of_lt_of_le hBz ho1.size
  clear hR1 ho1 hB
  go_wp2
  go_ret
  exact ⟨rfl, k1.set 0 _, HR1.out.set d2 d4 0 _, by (simp [go_sem, XC]; first | done | exact Hx.out.symm)⟩
end Go.Proofs.Ytalnipjaekpbhaa


namespace Go.Proofs.Ytalnipjaekpbhaa
open Go.ChangeShapes Go.WideShapes Go.ChangeAt Go.RowKit Go.Deep
set_option linter.unusedSimpArgs false
set_option linter.unusedVariables false

set_option maxRecDepth 100000 in
set_option maxHeartbeats 1000000 in
theorem num1_cut (g b off cap Br Bx : Nat) (ns : List Nat) (at_ : Nat) (w : World) (hR : RObj w g b off cap ns at_) (hB : ∀ o, w.cell? ⟨Br, o, none⟩ = (#[Value.pointer (some ⟨g, 0, none⟩)] : Array Value)[o]?) (hBz : Br < w.heap.size) (hXz : Bx < w.heap.size) (hX : ∀ o, w.cell? ⟨Bx, o, none⟩ = (#[Value.int .u64 0] : Array Value)[o]?) (hXf : ∀ o, w.frozen? ⟨Bx, o, none⟩ = false) (d1 : Br ≠ g) (d2 : Bx ≠ g) (d3 : Bx ≠ Br) (d4 : Bx ≠ b) (hn : at_ < ns.length) (hf : 247 < (ns.getD at_ 0)) (hc : ns.length < at_ + 1 + ((ns.getD at_ 0) - 247)) : Calls Try.prog 95 #[.pointer (some ⟨Br, 0, none⟩), .pointer (some ⟨Bx, 0, none⟩)] w (fun e w' => e = .returned (.int .i64 110) ∧ Only2 g Bx w w' ∧ RObj w' g b off cap ns (at_ + 1) ∧ w'.cell? ⟨Bx, 0, none⟩ = some (.int .u64 (0 : Int))) := by
  have HR := hide hR
  have HX := hide hX
  have HXF := hide hXf
  clear hR hX hXf
  have hfl : (ns.getD at_ 0) < 256 := HR.out.2.2.2.2.2.2.1 _ (by (have e : ns.getD at_ 0 = ns[at_] := by simp [List.getD, hn]); rw [e]; exact List.getElem_mem hn)
  have HE := hide (rfl : ns.getD at_ 0 = ns.getD at_ 0)
  generalize hx : (ns.getD at_ 0) = f at *
  have Hx := hide hx
  clear hx HE
  have hf1 : (247 : Int) < (f : Int) := by omega
  have hf2 : ¬ (f : Int) ≤ 247 := by omega
  have hf3 : (f : Int) - 247 = ((f - 247 : Nat) : Int) := by omega
  have HF3 := hide hf3
  clear hf3
  go_enter Try.func95, Try.ntmps95
  go_wp2_with fail
  refine (next1_c g b off cap ns at_ _ HR.out hn).mono ?_
  rw [Hx.out]
  rintro e w1 ⟨rfl, ho1, hR1⟩
  have HR1 := hide hR1
  have k1 : Only2 g Bx w w1 := Only2.of_only ho1
  have XC : ∀ o, w1.cell? ⟨Bx, o, none⟩ = (#[Value.int .u64 0] : Array Value)[o]? := fun o => (World.cell?_of_block (ho1.block Bx hXz d2)).trans (HX.out o)
  have XF : ∀ o, w1.frozen? ⟨Bx, o, none⟩ = false := fun o => (World.frozen?_of_block (ho1.block Bx hXz d2)).trans (HXF.out o)
  have BC : ∀ o, w1.cell? ⟨Br, o, none⟩ = (#[Value.pointer (some ⟨g, 0, none⟩)] : Array Value)[o]? := fun o => (World.cell?_of_block (ho1.block Br hBz d1)).trans (hB o)
  have hXz1 : Bx < w1.heap.size := Nat.lt_of_lt_of_le hXz ho1.size
  have hBz1 : Br < w1.heap.size := Nat.lt_of_lt_of_le hBz ho1.size
  clear hR1 ho1 hB
  have k2 := hide (k1.set 0 (.int .u64 (f : Int)))
  have HR2 := hide (HR1.out.set d2 d4 0 (.int .u64 (f : Int)))
  go_wp2_with fail
  rw [HF3.out]
  have XC2 : ∀ o, (w1.setCell ⟨Bx, 0, none⟩ (.int .u64 (f : Int))).cell? ⟨Bx, o, none⟩ = (#[Value.int .u64 (f : Int)] : Array Value)[o]? := fun o => by rcases o with _ | o <;> simp [go_sem, XC]
  have XF2 : ∀ o, (w1.setCell ⟨Bx, 0, none⟩ (.int .u64 (f : Int))).frozen? ⟨Bx, o, none⟩ = false := fun o => by simp only [World.frozen?_setCell]; exact XF o
  have hXz2 : Bx < (w1.setCell ⟨Bx, 0, none⟩ (.int .u64 (f : Int))).heap.size := by simpa using hXz1
  refine (next_end g b off cap ns (at_ + 1) (f - 247) _ HR2.out (by omega) (by omega)).mono ?_
  rintro e w2 ⟨rfl, hb2⟩
  have XC3 : ∀ o, w2.cell? ⟨Bx, o, none⟩ = (#[Value.int .u64 (f : Int)] : Array Value)[o]? := fun o => (hb2.cell (p := ⟨Bx, o, none⟩) hXz2).trans (XC2 o)
  have XF3 : ∀ o, w2.frozen? ⟨Bx, o, none⟩ = false := fun o => (hb2.frozen (p := ⟨Bx, o, none⟩) hXz2).trans (XF2 o)
  have HR3 := hide (HR2.out.below hb2)
  have k3 := hide (k2.out.trans (Only2.of_below hb2))
  clear XC XF XC2 XF2 hb2 BC
  go_wp2
  go_ret
  exact ⟨rfl, k3.out.set 0 _, HR3.out.set d2 d4 0 _, by simp [go_sem, XC3]⟩

set_option maxRecDepth 100000 in
set_option maxHeartbeats 2000000 in
theorem num1_form (g b off cap Br Bx : Nat) (ns : List Nat) (at_ : Nat) (w : World) (hR : RObj w g b off cap ns at_) (hB : ∀ o, w.cell? ⟨Br, o, none⟩ = (#[Value.pointer (some ⟨g, 0, none⟩)] : Array Value)[o]?) (hBz : Br < w.heap.size) (hXz : Bx < w.heap.size) (hX : ∀ o, w.cell? ⟨Bx, o, none⟩ = (#[Value.int .u64 0] : Array Value)[o]?) (hXf : ∀ o, w.frozen? ⟨Bx, o, none⟩ = false) (d1 : Br ≠ g) (d2 : Bx ≠ g) (d3 : Bx ≠ Br) (d4 : Bx ≠ b) (hn : at_ < ns.length) (hf : 247 < (ns.getD at_ 0)) (hc : at_ + 1 + ((ns.getD at_ 0) - 247) ≤ ns.length) (hs : (form (num ((ns.drop (at_ + 1)).take ((ns.getD at_ 0) - 247)))).length ≠ 1 + ((ns.getD at_ 0) - 247)) : Calls Try.prog 95 #[.pointer (some ⟨Br, 0, none⟩), .pointer (some ⟨Bx, 0, none⟩)] w (fun e w' => e = .returned (.int .i64 111) ∧ Only2 g Bx w w' ∧ RObj w' g b off cap ns (at_ + 1 + ((ns.getD at_ 0) - 247)) ∧ w'.cell? ⟨Bx, 0, none⟩ = some (.int .u64 ((num ((ns.drop (at_ + 1)).take ((ns.getD at_ 0) - 247))) : Int))) := by
  have HS0 := hide hs
  clear hs
  have HR := hide hR
  have HX := hide hX
  have HXF := hide hXf
  clear hR hX hXf
  have hfl : (ns.getD at_ 0) < 256 := HR.out.2.2.2.2.2.2.1 _ (by (have e : ns.getD at_ 0 = ns[at_] := by simp [List.getD, hn]); rw [e]; exact List.getElem_mem hn)
  have HE := hide (rfl : ns.getD at_ 0 = ns.getD at_ 0)
  generalize hx : (ns.getD at_ 0) = f at *
  have Hx := hide hx
  clear hx HE
  have hf1 : (247 : Int) < (f : Int) := by omega
  have hf2 : ¬ (f : Int) ≤ 247 := by omega
  have hf3 : (f : Int) - 247 = ((f - 247 : Nat) : Int) := by omega
  have HF3 := hide hf3
  clear hf3
  go_enter Try.func95, Try.ntmps95
  go_wp2_with fail
  refine (next1_c g b off cap ns at_ _ HR.out hn).mono ?_
  rw [Hx.out]
  rintro e w1 ⟨rfl, ho1, hR1⟩
  have HR1 := hide hR1
  have k1 : Only2 g Bx w w1 := Only2.of_only ho1
  have XC : ∀ o, w1.cell? ⟨Bx, o, none⟩ = (#[Value.int .u64 0] : Array Value)[o]? := fun o => (World.cell?_of_block (ho1.block Bx hXz d2)).trans (HX.out o)
  have XF : ∀ o, w1.frozen? ⟨Bx, o, none⟩ = false := fun o => (World.frozen?_of_block (ho1.block Bx hXz d2)).trans (HXF.out o)
  have BC : ∀ o, w1.cell? ⟨Br, o, none⟩ = (#[Value.pointer (some ⟨g, 0, none⟩)] : Array Value)[o]? := fun o => (World.cell?_of_block (ho1.block Br hBz d1)).trans (hB o)
  have hXz1 : Bx < w1.heap.size := Nat.lt_of_lt_of_le hXz ho1.size
  have hBz1 : Br < w1.heap.size := Nat.lt_of_lt_of_le hBz ho1.size
  clear hR1 ho1 hB
  have k2 := hide (k1.set 0 (.int .u64 (f : Int)))
  have HR2 := hide (HR1.out.set d2 d4 0 (.int .u64 (f : Int)))
  go_wp2_with fail
  rw [HF3.out]
  have XC2 : ∀ o, (w1.setCell ⟨Bx, 0, none⟩ (.int .u64 (f : Int))).cell? ⟨Bx, o, none⟩ = (#[Value.int .u64 (f : Int)] : Array Value)[o]? := fun o => by rcases o with _ | o <;> simp [go_sem, XC]
  have XF2 : ∀ o, (w1.setCell ⟨Bx, 0, none⟩ (.int .u64 (f : Int))).frozen? ⟨Bx, o, none⟩ = false := fun o => by simp only [World.frozen?_setCell]; exact XF o
  have hXz2 : Bx < (w1.setCell ⟨Bx, 0, none⟩ (.int .u64 (f : Int))).heap.size := by simpa using hXz1
  refine (next_c g b off cap ns (at_ + 1) (f - 247) _ HR2.out (by omega) (by omega) (by omega)).mono ?_
  rintro e w2 ⟨rfl, ho2, hR3⟩
  have hx2 : num ((ns.drop (at_ + 1)).take (f - 247)) < 18446744073709551616 := by
    have q := num_lt (f - 247) ((ns.drop (at_ + 1)).take (f - 247)) (by rw [List.length_take, List.length_drop]; omega) (fun x hx => HR.out.2.2.2.2.2.2.1 x (List.mem_of_mem_drop (List.mem_of_mem_take hx)))
    have p : 256 ^ (f - 247) ≤ 256 ^ 8 := Nat.pow_le_pow_right (by decide) (by omega)
    have p8 : (256 : Nat) ^ 8 = 18446744073709551616 := by decide
    omega
  have HS := HS0
  clear HS0
  generalize hx2e : num ((ns.drop (at_ + 1)).take (f - 247)) = x2 at *
  have HX2 := hide hx2e
  clear hx2e
  have XC3 : ∀ o, w2.cell? ⟨Bx, o, none⟩ = (#[Value.int .u64 (f : Int)] : Array Value)[o]? := fun o => (World.cell?_of_block (ho2.block Bx hXz2 d2)).trans (XC2 o)
  have XF3 : ∀ o, w2.frozen? ⟨Bx, o, none⟩ = false := fun o => (World.frozen?_of_block (ho2.block Bx hXz2 d2)).trans (XF2 o)
  have HR3 := hide (hR3.set d2 d4 0 (.int .u64 (x2 : Int)))
  have k3 := hide ((k2.out.trans (Only2.of_only ho2)).set 0 (.int .u64 (x2 : Int)))
  have XC4 : ∀ o, (w2.setCell ⟨Bx, 0, none⟩ (.int .u64 (x2 : Int))).cell? ⟨Bx, o, none⟩ = (#[Value.int .u64 (x2 : Int)] : Array Value)[o]? := fun o => by rcases o with _ | o <;> simp [go_sem, XC3]
  have hXz4 : Bx < (w2.setCell ⟨Bx, 0, none⟩ (.int .u64 (x2 : Int))).heap.size := by (simp; exact Nat.lt_of_lt_of_le hXz2 ho2.size)
  have hsz : (((form x2).length : Int) == 1 + ((f - 247 : Nat) : Int)) = false := by (have q := HS.out; simp; omega)
  clear XC XF XC2 XF2 BC hR3 ho2
  go_wp2_with fail
  refine (Size_c x2 _ hx2).mono ?_
  rintro e w3 ⟨rfl, hb3⟩
  have XC5 : ∀ o, w3.cell? ⟨Bx, o, none⟩ = (#[Value.int .u64 (x2 : Int)] : Array Value)[o]? := fun o => (hb3.cell (p := ⟨Bx, o, none⟩) hXz4).trans (XC4 o)
  have HR4 := hide (HR3.out.below hb3)
  have k4 := hide (k3.out.trans (Only2.of_below hb3))
  have HSZ := hsz
  go_wp2
  go_ret
  exact ⟨rfl, k4.out, HR4.out, by (rw [HX2.out]; simpa using XC5 0)⟩

set_option maxRecDepth 100000 in
set_option maxHeartbeats 2000000 in
theorem num1_ok (g b off cap Br Bx : Nat) (ns : List Nat) (at_ : Nat) (w : World) (hR : RObj w g b off cap ns at_) (hB : ∀ o, w.cell? ⟨Br, o, none⟩ = (#[Value.pointer (some ⟨g, 0, none⟩)] : Array Value)[o]?) (hBz : Br < w.heap.size) (hXz : Bx < w.heap.size) (hX : ∀ o, w.cell? ⟨Bx, o, none⟩ = (#[Value.int .u64 0] : Array Value)[o]?) (hXf : ∀ o, w.frozen? ⟨Bx, o, none⟩ = false) (d1 : Br ≠ g) (d2 : Bx ≠ g) (d3 : Bx ≠ Br) (d4 : Bx ≠ b) (hn : at_ < ns.length) (hf : 247 < (ns.getD at_ 0)) (hc : at_ + 1 + ((ns.getD at_ 0) - 247) ≤ ns.length) (hs : (form (num ((ns.drop (at_ + 1)).take ((ns.getD at_ 0) - 247)))).length = 1 + ((ns.getD at_ 0) - 247)) : Calls Try.prog 95 #[.pointer (some ⟨Br, 0, none⟩), .pointer (some ⟨Bx, 0, none⟩)] w (fun e w' => e = .returned (.int .i64 0) ∧ Only2 g Bx w w' ∧ RObj w' g b off cap ns (at_ + 1 + ((ns.getD at_ 0) - 247)) ∧ w'.cell? ⟨Bx, 0, none⟩ = some (.int .u64 ((num ((ns.drop (at_ + 1)).take ((ns.getD at_ 0) - 247))) : Int))) := by
  have HS0 := hide hs
  clear hs
  have HR := hide hR
  have HX := hide hX
  have HXF := hide hXf
  clear hR hX hXf
  have hfl : (ns.getD at_ 0) < 256 := HR.out.2.2.2.2.2.2.1 _ (by (have e : ns.getD at_ 0 = ns[at_] := by simp [List.getD, hn]); rw [e]; exact List.getElem_mem hn)
  have HE := hide (rfl : ns.getD at_ 0 = ns.getD at_ 0)
  generalize hx : (ns.getD at_ 0) = f at *
  have Hx := hide hx
  clear hx HE
  have hf1 : (247 : Int) < (f : Int) := by omega
  have hf2 : ¬ (f : Int) ≤ 247 := by omega
  have hf3 : (f : Int) - 247 = ((f - 247 : Nat) : Int) := by omega
  have HF3 := hide hf3
  clear hf3
  go_enter Try.func95, Try.ntmps95
  go_wp2_with fail
  refine (next1_c g b off cap ns at_ _ HR.out hn).mono ?_
  rw [Hx.out]
  rintro e w1 ⟨rfl, ho1, hR1⟩
  have HR1 := hide hR1
  have k1 : Only2 g Bx w w1 := Only2.of_only ho1
  have XC : ∀ o, w1.cell? ⟨Bx, o, none⟩ = (#[Value.int .u64 0] : Array Value)[o]? := fun o => (World.cell?_of_block (ho1.block Bx hXz d2)).trans (HX.out o)
  have XF : ∀ o, w1.frozen? ⟨Bx, o, none⟩ = false := fun o => (World.frozen?_of_block (ho1.block Bx hXz d2)).trans (HXF.out o)
  have BC : ∀ o, w1.cell? ⟨Br, o, none⟩ = (#[Value.pointer (some ⟨g, 0, none⟩)] : Array Value)[o]? := fun o => (World.cell?_of_block (ho1.block Br hBz d1)).trans (hB o)
  have hXz1 : Bx < w1.heap.size := Nat.lt_of_lt_of_le hXz ho1.size
  have hBz1 : Br < w1.heap.size := Nat.lt_of_lt_of_le hBz ho1.size
  clear hR1 ho1 hB
  have k2 := hide (k1.set 0 (.int .u64 (f : Int)))
  have HR2 := hide (HR1.out.set d2 d4 0 (.int .u64 (f : Int)))
  go_wp2_with fail
  rw [HF3.out]
  have XC2 : ∀ o, (w1.setCell ⟨Bx, 0, none⟩ (.int .u64 (f : Int))).cell? ⟨Bx, o, none⟩ = (#[Value.int .u64 (f : Int)] : Array Value)[o]? := fun o => by rcases o with _ | o <;> simp [go_sem, XC]
  have XF2 : ∀ o, (w1.setCell ⟨Bx, 0, none⟩ (.int .u64 (f : Int))).frozen? ⟨Bx, o, none⟩ = false := fun o => by simp only [World.frozen?_setCell]; exact XF o
  have hXz2 : Bx < (w1.setCell ⟨Bx, 0, none⟩ (.int .u64 (f : Int))).heap.size := by simpa using hXz1
  refine (next_c g b off cap ns (at_ + 1) (f - 247) _ HR2.out (by omega) (by omega) (by omega)).mono ?_
  rintro e w2 ⟨rfl, ho2, hR3⟩
  have hx2 : num ((ns.drop (at_ + 1)).take (f - 247)) < 18446744073709551616 := by
    have q := num_lt (f - 247) ((ns.drop (at_ + 1)).take (f - 247)) (by rw [List.length_take, List.length_drop]; omega) (fun x hx => HR.out.2.2.2.2.2.2.1 x (List.mem_of_mem_drop (List.mem_of_mem_take hx)))
    have p : 256 ^ (f - 247) ≤ 256 ^ 8 := Nat.pow_le_pow_right (by decide) (by omega)
    have p8 : (256 : Nat) ^ 8 = 18446744073709551616 := by decide
    omega
  have HS := HS0
  clear HS0
  generalize hx2e : num ((ns.drop (at_ + 1)).take (f - 247)) = x2 at *
  have HX2 := hide hx2e
  clear hx2e
  have XC3 : ∀ o, w2.cell? ⟨Bx, o, none⟩ = (#[Value.int .u64 (f : Int)] : Array Value)[o]? := fun o => (World.cell?_of_block (ho2.block Bx hXz2 d2)).trans (XC2 o)
  have XF3 : ∀ o, w2.frozen? ⟨Bx, o, none⟩ = false := fun o => (World.frozen?_of_block (ho2.block Bx hXz2 d2)).trans (XF2 o)
  have HR3 := hide (hR3.set d2 d4 0 (.int .u64 (x2 : Int)))
  have k3 := hide ((k2.out.trans (Only2.of_only ho2)).set 0 (.int .u64 (x2 : Int)))
  have XC4 : ∀ o, (w2.setCell ⟨Bx, 0, none⟩ (.int .u64 (x2 : Int))).cell? ⟨Bx, o, none⟩ = (#[Value.int .u64 (x2 : Int)] : Array Value)[o]? := fun o => by rcases o with _ | o <;> simp [go_sem, XC3]
  have hXz4 : Bx < (w2.setCell ⟨Bx, 0, none⟩ (.int .u64 (x2 : Int))).heap.size := by (simp; exact Nat.lt_of_lt_of_le hXz2 ho2.size)
  have hsz : (((form x2).length : Int) == 1 + ((f - 247 : Nat) : Int)) = true := by (have q := HS.out; simp; omega)
  clear XC XF XC2 XF2 BC hR3 ho2
  go_wp2_with fail
  refine (Size_c x2 _ hx2).mono ?_
  rintro e w3 ⟨rfl, hb3⟩
  have XC5 : ∀ o, w3.cell? ⟨Bx, o, none⟩ = (#[Value.int .u64 (x2 : Int)] : Array Value)[o]? := fun o => (hb3.cell (p := ⟨Bx, o, none⟩) hXz4).trans (XC4 o)
  have HR4 := hide (HR3.out.below hb3)
  have k4 := hide (k3.out.trans (Only2.of_below hb3))
  have HSZ := hsz
  go_wp2
  go_ret
  exact ⟨rfl, k4.out, HR4.out, by (rw [HX2.out]; simpa using XC5 0)⟩
end Go.Proofs.Ytalnipjaekpbhaa


namespace Go.Proofs.Ytalnipjaekpbhaa
open Go.ChangeShapes Go.WideShapes Go.ChangeAt Go.RowKit Go.Deep
set_option linter.unusedSimpArgs false
set_option linter.unusedVariables false

/-- what the reader answers to Number: the number, the error, the place behind it -/
def rd (ns : List Nat) (a : Nat) : Nat × Nat × Nat :=
  if ns.length ≤ a then (0, 110, a)
  else if ns.getD a 0 ≤ 247 then (ns.getD a 0, 0, a + 1)
  else if ns.length < a + 1 + (ns.getD a 0 - 247) then (0, 110, a)
  else if (form (num ((ns.drop (a + 1)).take (ns.getD a 0 - 247)))).length = 1 + (ns.getD a 0 - 247) then (num ((ns.drop (a + 1)).take (ns.getD a 0 - 247)), 0, a + 1 + (ns.getD a 0 - 247))
  else (0, 111, a)
theorem Only2.only {W w w' : World} {g h : Nat} (hB : Below w.heap.size w W) (k : Only2 g h W w') (hh : w.heap.size ≤ h) : Only g w w' :=
  ⟨k.1.trans hB.os, k.2.1.trans hB.tape, k.2.2.1.trans hB.output, Nat.le_trans hB.size k.2.2.2.1, fun i hi h1 => (k.2.2.2.2 i (Nat.lt_of_lt_of_le hi hB.size) h1 (by omega)).trans (hB.block i hi)⟩
theorem Only.set {w w' : World} {g : Nat} (k : Only g w w') (o : Nat) (u : Value) : Only g w (w'.setCell ⟨g, o, none⟩ u) :=
  ⟨k.os, k.tape, k.output, by simp; exact k.size, fun i hi h1 => (Below.heap_setCell _ _ _ _ h1).trans (k.block i hi h1)⟩
theorem RObj.reset {w : World} {g b off cap : Nat} {ns : List Nat} {a a0 : Nat} (k : RObj w g b off cap ns a) (h : a0 ≤ ns.length) : RObj (w.setCell ⟨g, 1, none⟩ (.int .i64 (a0 : Int))) g b off cap ns a0 := by
  obtain ⟨r1, r2, r3, r4, r5, r6, r7, r8, r9, r10⟩ := k
  refine ⟨by simpa using r1, ?_, fun i => by simp only [World.frozen?_setCell]; exact r3 i, by simpa using r4, r5, fun j hj => (World.cell?_of_block (Below.heap_setCell _ _ _ _ r5)).trans (r6 j hj), r7, h, r9, r10⟩
  intro o
  rcases o with _ | _ | o
  · simp [go_sem, r2]
  · simp [go_sem, r2]
  · simp [go_sem, r2]
theorem rd_place (ns : List Nat) (a : Nat) (h : a ≤ ns.length) : (rd ns a).2.2 ≤ ns.length := by unfold rd; split <;> (try split) <;> (try split) <;> (try split) <;> dsimp only <;> omega
theorem rd_err (ns : List Nat) (a : Nat) : (rd ns a).2.1 = 0 ∨ (rd ns a).2.1 = 110 ∨ (rd ns a).2.1 = 111 := by unfold rd; split <;> (try split) <;> (try split) <;> (try split) <;> simp
theorem rd_zero (ns : List Nat) (a : Nat) (h : (rd ns a).2.1 ≠ 0) : (rd ns a).1 = 0 ∧ (rd ns a).2.2 = a := by revert h; unfold rd; split <;> (try split) <;> (try split) <;> (try split) <;> simp
set_option maxRecDepth 100000 in
theorem rd_lt (ns : List Nat) (a : Nat) (h7 : ∀ x ∈ ns, x < 256) : (rd ns a).1 < 18446744073709551616 := by
  unfold rd
  split
  · simp
  split
  · dsimp only; omega
  split
  · simp
  split
  · have hn : a < ns.length := by omega
    have hfl : ns.getD a 0 < 256 := h7 _ (by (have e : ns.getD a 0 = ns[a] := by simp [List.getD, hn]); rw [e]; exact List.getElem_mem hn)
    generalize ns.getD a 0 = f at *
    have q := num_lt (f - 247) ((ns.drop (a + 1)).take (f - 247)) (by rw [List.length_take, List.length_drop]; omega) (fun x hx => h7 x (List.mem_of_mem_drop (List.mem_of_mem_take hx)))
    have p : 256 ^ (f - 247) ≤ 256 ^ 8 := Nat.pow_le_pow_right (by decide) (by omega)
    have p8 : (256 : Nat) ^ 8 = 18446744073709551616 := by decide
    show num _ < _
    omega
  · simp
theorem rd_grows (ns : List Nat) (a : Nat) (h : (rd ns a).2.1 = 0) : a + 1 ≤ (rd ns a).2.2 := by
  revert h; unfold rd; split <;> (try split) <;> (try split) <;> (try split) <;> dsimp only <;> omega
set_option maxRecDepth 100000 in
theorem num1_all (g b off cap Br Bx : Nat) (ns : List Nat) (at_ : Nat) (w : World) (hR : RObj w g b off cap ns at_) (hB : ∀ o, w.cell? ⟨Br, o, none⟩ = (#[Value.pointer (some ⟨g, 0, none⟩)] : Array Value)[o]?) (hBz : Br < w.heap.size) (hXz : Bx < w.heap.size) (hX : ∀ o, w.cell? ⟨Bx, o, none⟩ = (#[Value.int .u64 0] : Array Value)[o]?) (hXf : ∀ o, w.frozen? ⟨Bx, o, none⟩ = false) (d1 : Br ≠ g) (d2 : Bx ≠ g) (d3 : Bx ≠ Br) (d4 : Bx ≠ b) : Calls Try.prog 95 #[.pointer (some ⟨Br, 0, none⟩), .pointer (some ⟨Bx, 0, none⟩)] w (fun e w' => ∃ x a', e = .returned (.int .i64 ((rd ns at_).2.1 : Int)) ∧ Only2 g Bx w w' ∧ RObj w' g b off cap ns a' ∧ w'.cell? ⟨Bx, 0, none⟩ = some (.int .u64 (x : Int)) ∧ ((rd ns at_).2.1 = 0 → x = (rd ns at_).1 ∧ a' = (rd ns at_).2.2)) := by
  by_cases c1 : ns.length ≤ at_
  · have q : rd ns at_ = (0, 110, at_) := by unfold rd; rw [if_pos c1]
    exact (num1_end g b off cap Br Bx ns at_ w hR hB hBz hXz hX hXf d1 d2 d3 d4 c1).mono (fun e w' h => by obtain ⟨h1, h2, h3, h4⟩ := h; exact ⟨_, _, by rw [q]; exact h1, h2, h3, h4, fun c => by rw [q] at c; cases c⟩)
  by_cases c2 : ns.getD at_ 0 ≤ 247
  · have q : rd ns at_ = (ns.getD at_ 0, 0, at_ + 1) := by unfold rd; rw [if_neg c1, if_pos c2]
    exact (num1_short g b off cap Br Bx ns at_ w hR hB hBz hXz hX hXf d1 d2 d3 d4 (by omega) c2).mono (fun e w' h => by obtain ⟨h1, h2, h3, h4⟩ := h; exact ⟨_, _, by rw [q]; exact h1, h2, h3, h4, fun _ => by rw [q]; exact ⟨rfl, rfl⟩⟩)
  by_cases c3 : ns.length < at_ + 1 + (ns.getD at_ 0 - 247)
  · have q : rd ns at_ = (0, 110, at_) := by unfold rd; rw [if_neg c1, if_neg c2, if_pos c3]
    exact (num1_cut g b off cap Br Bx ns at_ w hR hB hBz hXz hX hXf d1 d2 d3 d4 (by omega) (by omega) c3).mono (fun e w' h => by obtain ⟨h1, h2, h3, h4⟩ := h; exact ⟨_, _, by rw [q]; exact h1, h2, h3, h4, fun c => by rw [q] at c; cases c⟩)
  by_cases c4 : (form (num ((ns.drop (at_ + 1)).take (ns.getD at_ 0 - 247)))).length = 1 + (ns.getD at_ 0 - 247)
  · have q : rd ns at_ = (num ((ns.drop (at_ + 1)).take (ns.getD at_ 0 - 247)), 0, at_ + 1 + (ns.getD at_ 0 - 247)) := by unfold rd; rw [if_neg c1, if_neg c2, if_neg c3, if_pos c4]
    exact (num1_ok g b off cap Br Bx ns at_ w hR hB hBz hXz hX hXf d1 d2 d3 d4 (by omega) (by omega) (by omega) c4).mono (fun e w' h => by obtain ⟨h1, h2, h3, h4⟩ := h; exact ⟨_, _, by rw [q]; exact h1, h2, h3, h4, fun _ => by rw [q]; exact ⟨rfl, rfl⟩⟩)
  · have q : rd ns at_ = (0, 111, at_) := by unfold rd; rw [if_neg c1, if_neg c2, if_neg c3, if_neg c4]
    exact (num1_form g b off cap Br Bx ns at_ w hR hB hBz hXz hX hXf d1 d2 d3 d4 (by omega) (by omega) (by omega) c4).mono (fun e w' h => by obtain ⟨h1, h2, h3, h4⟩ := h; exact ⟨_, _, by rw [q]; exact h1, h2, h3, h4, fun c => by rw [q] at c; cases c⟩)

set_option maxRecDepth 100000 in
set_option maxHeartbeats 2000000 in
theorem RNum_ok (g b off cap : Nat) (ns : List Nat) (at_ : Nat) (w : World) (hR : RObj w g b off cap ns at_) (hE : (rd ns at_).2.1 = 0) : Calls Try.prog 86 #[.pointer (some ⟨g, 0, none⟩)] w (fun e w' => e = .returned (.tuple #[.int .u64 ((rd ns at_).1 : Int), .int .i64 ((rd ns at_).2.1 : Int)]) ∧ Only g w w' ∧ RObj w' g b off cap ns (rd ns at_).2.2) := by
  have hB0 : Below w.heap.size w ((w.alloc (.cells #[Value.pointer (some ⟨g, 0, none⟩)] 119)).alloc (.cells #[Value.int .u64 0] 97)) := by (focus repeat' (first | (with_reducible exact Below.refl _ _) | (with_reducible assumption) | (with_reducible refine Below.alloc ?_ ?_ _) | (with_reducible refine Below.drew ?_) | (with_reducible refine bdrewN ?_ _) | (with_reducible refine Below.setCell ?_ ?_ _) | (first | (with_reducible exact Nat.le_refl _) | (with_reducible assumption) | omega | (simp; omega) | (simp; done))))
  have HR0 := hide (hR.below hB0)
  have HB0 := hide hB0
  have cB : ∀ o, ((w.alloc (.cells #[Value.pointer (some ⟨g, 0, none⟩)] 119)).alloc (.cells #[Value.int .u64 0] 97)).cell? ⟨w.heap.size, o, none⟩ = (#[Value.pointer (some ⟨g, 0, none⟩)] : Array Value)[o]? := fun o => by simp [go_sem]
  have cX : ∀ o, ((w.alloc (.cells #[Value.pointer (some ⟨g, 0, none⟩)] 119)).alloc (.cells #[Value.int .u64 0] 97)).cell? ⟨w.heap.size + 1, o, none⟩ = (#[Value.int .u64 0] : Array Value)[o]? := fun o => by simp [go_sem]
  have fX : ∀ o, ((w.alloc (.cells #[Value.pointer (some ⟨g, 0, none⟩)] 119)).alloc (.cells #[Value.int .u64 0] 97)).frozen? ⟨w.heap.size + 1, o, none⟩ = false := fun o => by simp [go_sem]
  have zB : w.heap.size < ((w.alloc (.cells #[Value.pointer (some ⟨g, 0, none⟩)] 119)).alloc (.cells #[Value.int .u64 0] 97)).heap.size := by (simp; omega)
  have zX : w.heap.size + 1 < ((w.alloc (.cells #[Value.pointer (some ⟨g, 0, none⟩)] 119)).alloc (.cells #[Value.int .u64 0] 97)).heap.size := by simp
  have hg : g < w.heap.size := hR.1
  have hb : b < w.heap.size := hR.2.2.2.1
  have hle : at_ ≤ ns.length := hR.2.2.2.2.2.2.2.1
  obtain ⟨r1, r2, r3, _⟩ := HR0.out
  clear hR hB0
  go_enter Try.func86, Try.ntmps86
  go_wp2_with (go_at_call 87; go_in)
  refine (num1_all g b off cap w.heap.size (w.heap.size + 1) ns at_ _ HR0.out cB zB zX cX fX (by omega) (by omega) (by omega) (by omega)).mono ?_
  rintro e w1 ⟨x, a', rfl, ho, hR1, hx, hq⟩
  obtain ⟨rfl, rfl⟩ := hq hE
  rw [hE]
  have hE' := hide hE
  clear hq
  have HO := hide ho
  have HR1 := hide hR1
  obtain ⟨t1, t2, t3, _⟩ := hR1
  clear ho r1 r2 r3 cB cX fX zB zX
  go_wp2
  go_ret2
  exact ⟨by (rw [hE'.out]; rfl), Only2.only HB0.out HO.out (by omega), HR1.out⟩

set_option maxRecDepth 100000 in
set_option maxHeartbeats 2000000 in
theorem RNum_bad (g b off cap : Nat) (ns : List Nat) (at_ : Nat) (w : World) (hR : RObj w g b off cap ns at_) (hE : (rd ns at_).2.1 ≠ 0) : Calls Try.prog 86 #[.pointer (some ⟨g, 0, none⟩)] w (fun e w' => e = .returned (.tuple #[.int .u64 ((rd ns at_).1 : Int), .int .i64 ((rd ns at_).2.1 : Int)]) ∧ Only g w w' ∧ RObj w' g b off cap ns (rd ns at_).2.2) := by
  have hB0 : Below w.heap.size w ((w.alloc (.cells #[Value.pointer (some ⟨g, 0, none⟩)] 119)).alloc (.cells #[Value.int .u64 0] 97)) := by (focus repeat' (first | (with_reducible exact Below.refl _ _) | (with_reducible assumption) | (with_reducible refine Below.alloc ?_ ?_ _) | (with_reducible refine Below.drew ?_) | (with_reducible refine bdrewN ?_ _) | (with_reducible refine Below.setCell ?_ ?_ _) | (first | (with_reducible exact Nat.le_refl _) | (with_reducible assumption) | omega | (simp; omega) | (simp; done))))
  have HR0 := hide (hR.below hB0)
  have HB0 := hide hB0
  have cB : ∀ o, ((w.alloc (.cells #[Value.pointer (some ⟨g, 0, none⟩)] 119)).alloc (.cells #[Value.int .u64 0] 97)).cell? ⟨w.heap.size, o, none⟩ = (#[Value.pointer (some ⟨g, 0, none⟩)] : Array Value)[o]? := fun o => by simp [go_sem]
  have cX : ∀ o, ((w.alloc (.cells #[Value.pointer (some ⟨g, 0, none⟩)] 119)).alloc (.cells #[Value.int .u64 0] 97)).cell? ⟨w.heap.size + 1, o, none⟩ = (#[Value.int .u64 0] : Array Value)[o]? := fun o => by simp [go_sem]
  have fX : ∀ o, ((w.alloc (.cells #[Value.pointer (some ⟨g, 0, none⟩)] 119)).alloc (.cells #[Value.int .u64 0] 97)).frozen? ⟨w.heap.size + 1, o, none⟩ = false := fun o => by simp [go_sem]
  have zB : w.heap.size < ((w.alloc (.cells #[Value.pointer (some ⟨g, 0, none⟩)] 119)).alloc (.cells #[Value.int .u64 0] 97)).heap.size := by (simp; omega)
  have zX : w.heap.size + 1 < ((w.alloc (.cells #[Value.pointer (some ⟨g, 0, none⟩)] 119)).alloc (.cells #[Value.int .u64 0] 97)).heap.size := by simp
  have hg : g < w.heap.size := hR.1
  have hb : b < w.heap.size := hR.2.2.2.1
  have hle : at_ ≤ ns.length := hR.2.2.2.2.2.2.2.1
  obtain ⟨r1, r2, r3, _⟩ := HR0.out
  clear hR hB0
  obtain ⟨hz1, hz2⟩ := rd_zero ns at_ hE
  go_enter Try.func86, Try.ntmps86
  go_wp2_with (go_at_call 87; go_in)
  refine (num1_all g b off cap w.heap.size (w.heap.size + 1) ns at_ _ HR0.out cB zB zX cX fX (by omega) (by omega) (by omega) (by omega)).mono ?_
  rintro e w1 ⟨x, a', rfl, ho, hR1, hx, hq⟩
  have HO := hide ho
  have HR1 := hide hR1
  obtain ⟨t1, t2, t3, _⟩ := hR1
  have hE2 : ((rd ns at_).2.1 : Int) ≠ 0 := by omega
  have Hz1 := hide hz1
  have Hz2 := hide hz2
  clear hq hz1 hz2 ho r1 r2 r3 cB cX fX zB zX
  go_wp2
  go_ret2
  exact ⟨by (rw [Hz1.out]; rfl), (Only2.only HB0.out HO.out (by omega)).set 1 _, by (rw [Hz2.out]; exact HR1.out.reset hle)⟩

theorem RNum_c (g b off cap : Nat) (ns : List Nat) (at_ : Nat) (w : World) (hR : RObj w g b off cap ns at_) : Calls Try.prog 86 #[.pointer (some ⟨g, 0, none⟩)] w (fun e w' => e = .returned (.tuple #[.int .u64 ((rd ns at_).1 : Int), .int .i64 ((rd ns at_).2.1 : Int)]) ∧ Only g w w' ∧ RObj w' g b off cap ns (rd ns at_).2.2) := by
  by_cases hE : (rd ns at_).2.1 = 0
  · exact RNum_ok g b off cap ns at_ w hR hE
  · exact RNum_bad g b off cap ns at_ w hR hE
end Go.Proofs.Ytalnipjaekpbhaa


namespace Go.Proofs.Ytalnipjaekpbhaa
open Go.ChangeShapes Go.WideShapes Go.ChangeAt Go.RowKit Go.Deep
set_option linter.unusedSimpArgs false
set_option linter.unusedVariables false

/-- the reader at g has the bytes nil -/
def RNil (w : World) (g : Nat) : Prop :=
  g < w.heap.size ∧ (∀ o, w.cell? ⟨g, o, none⟩ = (#[Value.slice none 0 0, Value.int .i64 0] : Array Value)[o]?) ∧ (∀ o, w.frozen? ⟨g, o, none⟩ = false)
theorem RNil.below {w w' : World} {g : Nat} (h : RNil w g) (hb : Below w.heap.size w w') : RNil w' g :=
  ⟨Nat.lt_of_lt_of_le h.1 hb.size, fun o => (hb.cell (p := ⟨g, o, none⟩) h.1).trans (h.2.1 o), fun o => (hb.frozen (p := ⟨g, o, none⟩) h.1).trans (h.2.2 o)⟩
theorem RNil.set {w : World} {g h : Nat} (k : RNil w g) (h1 : h ≠ g) (o : Nat) (u : Value) : RNil (w.setCell ⟨h, o, none⟩ u) g := by
  obtain ⟨r1, r2, r3⟩ := k
  exact ⟨by simpa using r1, fun i => (World.cell?_of_block (Below.heap_setCell _ _ _ _ (fun e => h1 e.symm))).trans (r2 i), fun i => by simp only [World.frozen?_setCell]; exact r3 i⟩
theorem RNil.reset {w : World} {g : Nat} (k : RNil w g) : RNil (w.setCell ⟨g, 1, none⟩ (.int .i64 0)) g := by
  obtain ⟨r1, r2, r3⟩ := k
  refine ⟨by simpa using r1, ?_, fun i => by simp only [World.frozen?_setCell]; exact r3 i⟩
  intro o
  rcases o with _ | _ | o
  · simp [go_sem, r2]
  · simp [go_sem, r2]
  · simp [go_sem, r2]
/-- the reader at g has the bytes ns, in a block below B, and has read a of them -/
def RAny (w : World) (g B : Nat) (ns : List Nat) (a : Nat) : Prop := B ≤ w.heap.size ∧ ((∃ b off cap, b < B ∧ RObj w g b off cap ns a) ∨ (RNil w g ∧ ns = [] ∧ a = 0))
theorem RAny.below {w w' : World} {g B : Nat} {ns : List Nat} {a : Nat} (h : RAny w g B ns a) (hb : Below w.heap.size w w') : RAny w' g B ns a := by
  obtain ⟨hB, ⟨b, off, cap, hb2, h⟩ | ⟨h, h2⟩⟩ := h
  · exact ⟨Nat.le_trans hB hb.size, .inl ⟨b, off, cap, hb2, h.below hb⟩⟩
  · exact ⟨Nat.le_trans hB hb.size, .inr ⟨h.below hb, h2⟩⟩
theorem RAny.set {w : World} {g B : Nat} {ns : List Nat} {a h : Nat} (k : RAny w g B ns a) (h1 : h ≠ g) (h2 : B ≤ h) (o : Nat) (u : Value) : RAny (w.setCell ⟨h, o, none⟩ u) g B ns a := by
  obtain ⟨hB, ⟨b, off, cap, hb2, k⟩ | ⟨k, k2⟩⟩ := k
  · exact ⟨by simpa using hB, .inl ⟨b, off, cap, hb2, k.set h1 (by omega) o u⟩⟩
  · exact ⟨by simpa using hB, .inr ⟨k.set h1 o u, k2⟩⟩
theorem RAny.reset {w : World} {g B : Nat} {ns : List Nat} {a a0 : Nat} (k : RAny w g B ns a) (h : a0 ≤ ns.length) : RAny (w.setCell ⟨g, 1, none⟩ (.int .i64 (a0 : Int))) g B ns a0 := by
  obtain ⟨hB, ⟨b, off, cap, hb2, k⟩ | ⟨k, rfl, rfl⟩⟩ := k
  · exact ⟨by simpa using hB, .inl ⟨b, off, cap, hb2, k.reset h⟩⟩
  · obtain rfl : a0 = 0 := by simpa using h
    exact ⟨by simpa using hB, .inr ⟨k.reset, rfl, rfl⟩⟩
theorem RAny.cells {w : World} {g B : Nat} {ns : List Nat} {a : Nat} (k : RAny w g B ns a) : g < w.heap.size ∧ w.cell? ⟨g, 1, none⟩ = some (.int .i64 (a : Int)) ∧ (∀ o, w.frozen? ⟨g, o, none⟩ = false) := by
  obtain ⟨hB, ⟨b, off, cap, hb2, k⟩ | ⟨k, rfl, rfl⟩⟩ := k
  · exact ⟨k.1, by simpa using k.2.1 1, k.2.2.1⟩
  · exact ⟨k.1, by simpa using k.2.1 1, k.2.2⟩
theorem RAny.more {w : World} {g B : Nat} {ns : List Nat} {a : Nat} (k : RAny w g B ns a) : a ≤ ns.length ∧ ns.length ≤ 1152921504606846976 ∧ (∀ x ∈ ns, x < 256) := by
  obtain ⟨hB, ⟨b, off, cap, hb2, k⟩ | ⟨k, rfl, rfl⟩⟩ := k
  · exact ⟨k.2.2.2.2.2.2.2.1, k.2.2.2.2.2.2.2.2.1, k.2.2.2.2.2.2.1⟩
  · exact ⟨Nat.le_refl _, by simp, by simp⟩
theorem RAny.obj {w : World} {g B : Nat} {ns : List Nat} {a : Nat} (k : RAny w g B ns a) (h : ns ≠ []) : ∃ b off cap, b < B ∧ RObj w g b off cap ns a := by
  obtain ⟨hB, ⟨b, off, cap, hb2, k⟩ | ⟨k, rfl, rfl⟩⟩ := k
  · exact ⟨b, off, cap, hb2, k⟩
  · exact absurd rfl h

set_option maxRecDepth 100000 in
set_option maxHeartbeats 1000000 in
theorem Left_nil (g : Nat) (w : World) (hR : RNil w g) : Calls Try.prog 91 #[.pointer (some ⟨g, 0, none⟩)] w fun e w' => e = .returned (.int .i64 0) ∧ Below w.heap.size w w' := by
  obtain ⟨h1, h2, h3⟩ := hR
  go_enter Try.func91, Try.ntmps91
  go_wp2
  go_quiet (fail)
  go_wp2
  go_ret
  exact ⟨rfl, by (focus repeat' (first | (with_reducible exact Below.refl _ _) | (with_reducible assumption) | (with_reducible refine Below.alloc ?_ ?_ _) | (with_reducible refine Below.drew ?_) | (with_reducible refine bdrewN ?_ _) | (with_reducible refine Below.setCell ?_ ?_ _) | (first | (with_reducible exact Nat.le_refl _) | (with_reducible assumption) | omega | (simp; omega) | (simp; done))))⟩

set_option maxRecDepth 100000 in
set_option maxHeartbeats 1000000 in
theorem next_nil (g : Nat) (n : Nat) (w : World) (hR : RNil w g) (h1n : 1 ≤ n) (hnn : n ≤ 8) : Calls Try.prog 96 #[.pointer (some ⟨g, 0, none⟩), .int .i64 (n : Int)] w fun e w' => e = .returned (.tuple #[.int .u64 0, .int .i64 110]) ∧ Below w.heap.size w w' := by
  have hR' := hide hR
  obtain ⟨h1, h2, h3⟩ := hR
  go_enter Try.func96, Try.ntmps96
  go_wp2_with fail
  refine (Left_nil g _ hR'.out).mono ?_
  rintro e w1 ⟨rfl, hb1⟩
  go_wp2
  go_ret2
  exact ⟨rfl, by (focus repeat' (first | (with_reducible exact Below.refl _ _) | (with_reducible assumption) | (with_reducible refine Below.alloc ?_ ?_ _) | (with_reducible refine Below.drew ?_) | (with_reducible refine bdrewN ?_ _) | (with_reducible refine Below.setCell ?_ ?_ _) | (first | (with_reducible exact Nat.le_refl _) | (with_reducible assumption) | omega | (simp; omega) | (simp; done))))⟩

set_option maxRecDepth 100000 in
set_option maxHeartbeats 1000000 in
theorem num1_nil (g Br Bx : Nat) (w : World) (hR : RNil w g) (hB : ∀ o, w.cell? ⟨Br, o, none⟩ = (#[Value.pointer (some ⟨g, 0, none⟩)] : Array Value)[o]?) (hBz : Br < w.heap.size) (hXz : Bx < w.heap.size) (hX : ∀ o, w.cell? ⟨Bx, o, none⟩ = (#[Value.int .u64 0] : Array Value)[o]?) (hXf : ∀ o, w.frozen? ⟨Bx, o, none⟩ = false) (d1 : Br ≠ g) (d2 : Bx ≠ g) (d3 : Bx ≠ Br) : Calls Try.prog 95 #[.pointer (some ⟨Br, 0, none⟩), .pointer (some ⟨Bx, 0, none⟩)] w (fun e w' => e = .returned (.int .i64 110) ∧ Only2 g Bx w w' ∧ RNil w' g) := by
  have HR := hide hR
  have HX := hide hX
  have HXF := hide hXf
  clear hR hX hXf
  go_enter Try.func95, Try.ntmps95
  go_wp2_with fail
  refine (next_nil g 1 _ HR.out (by omega) (by omega)).mono ?_
  rintro e w1 ⟨rfl, hb1⟩
  have XC : ∀ o, w1.cell? ⟨Bx, o, none⟩ = (#[Value.int .u64 0] : Array Value)[o]? := fun o => (hb1.cell (p := ⟨Bx, o, none⟩) hXz).trans (HX.out o)
  have XF : ∀ o, w1.frozen? ⟨Bx, o, none⟩ = false := fun o => (hb1.frozen (p := ⟨Bx, o, none⟩) hXz).trans (HXF.out o)
  have hR1 := hide (HR.out.below hb1)
  go_wp2
  go_ret
  exact ⟨rfl, (Only2.of_below hb1).set 0 _, hR1.out.set d2 0 _⟩

set_option maxRecDepth 100000 in
set_option maxHeartbeats 2000000 in
theorem RNum_nil (g : Nat) (w : World) (hR : RNil w g) : Calls Try.prog 86 #[.pointer (some ⟨g, 0, none⟩)] w (fun e w' => e = .returned (.tuple #[.int .u64 0, .int .i64 110]) ∧ Only g w w' ∧ RNil w' g) := by
  have hB0 : Below w.heap.size w ((w.alloc (.cells #[Value.pointer (some ⟨g, 0, none⟩)] 119)).alloc (.cells #[Value.int .u64 0] 97)) := by (focus repeat' (first | (with_reducible exact Below.refl _ _) | (with_reducible assumption) | (with_reducible refine Below.alloc ?_ ?_ _) | (with_reducible refine Below.drew ?_) | (with_reducible refine bdrewN ?_ _) | (with_reducible refine Below.setCell ?_ ?_ _) | (first | (with_reducible exact Nat.le_refl _) | (with_reducible assumption) | omega | (simp; omega) | (simp; done))))
  have HR0 := hide (hR.below hB0)
  have HB0 := hide hB0
  have cB : ∀ o, ((w.alloc (.cells #[Value.pointer (some ⟨g, 0, none⟩)] 119)).alloc (.cells #[Value.int .u64 0] 97)).cell? ⟨w.heap.size, o, none⟩ = (#[Value.pointer (some ⟨g, 0, none⟩)] : Array Value)[o]? := fun o => by simp [go_sem]
  have cX : ∀ o, ((w.alloc (.cells #[Value.pointer (some ⟨g, 0, none⟩)] 119)).alloc (.cells #[Value.int .u64 0] 97)).cell? ⟨w.heap.size + 1, o, none⟩ = (#[Value.int .u64 0] : Array Value)[o]? := fun o => by simp [go_sem]
  have fX : ∀ o, ((w.alloc (.cells #[Value.pointer (some ⟨g, 0, none⟩)] 119)).alloc (.cells #[Value.int .u64 0] 97)).frozen? ⟨w.heap.size + 1, o, none⟩ = false := fun o => by simp [go_sem]
  have zB : w.heap.size < ((w.alloc (.cells #[Value.pointer (some ⟨g, 0, none⟩)] 119)).alloc (.cells #[Value.int .u64 0] 97)).heap.size := by (simp; omega)
  have zX : w.heap.size + 1 < ((w.alloc (.cells #[Value.pointer (some ⟨g, 0, none⟩)] 119)).alloc (.cells #[Value.int .u64 0] 97)).heap.size := by simp
  have hg : g < w.heap.size := hR.1
  obtain ⟨r1, r2, r3⟩ := HR0.out
  clear hR hB0
  go_enter Try.func86, Try.ntmps86
  go_wp2_with (go_at_call 87; go_in)
  refine (num1_nil g w.heap.size (w.heap.size + 1) _ HR0.out cB zB zX cX fX (by omega) (by omega) (by omega)).mono ?_
  rintro e w1 ⟨rfl, ho, hR1⟩
  have HO := hide ho
  have HR1 := hide hR1
  obtain ⟨t1, t2, t3⟩ := hR1
  clear ho r1 r2 r3 cB cX fX zB zX
  go_wp2
  go_ret2
  exact ⟨rfl, (Only2.only HB0.out HO.out (by omega)).set 1 _, HR1.out.reset⟩

theorem Only.size' {g : Nat} {w w' : World} (k : Only g w w') {B : Nat} (h : B ≤ w.heap.size) : B ≤ w'.heap.size := Nat.le_trans h k.size
theorem Left_any (g B : Nat) (ns : List Nat) (a : Nat) (w : World) (hR : RAny w g B ns a) : Calls Try.prog 91 #[.pointer (some ⟨g, 0, none⟩)] w fun e w' => e = .returned (.int .i64 ((ns.length : Int) - (a : Int))) ∧ Below w.heap.size w w' := by
  obtain ⟨hB, ⟨b, off, cap, hb2, k⟩ | ⟨k, rfl, rfl⟩⟩ := hR
  · exact Left_c g b off cap ns a w k
  · exact Left_nil g w k
theorem rd_nil : rd [] 0 = (0, 110, 0) := rfl
theorem RNum_any (g B : Nat) (ns : List Nat) (a : Nat) (w : World) (hR : RAny w g B ns a) : Calls Try.prog 86 #[.pointer (some ⟨g, 0, none⟩)] w fun e w' => e = .returned (.tuple #[.int .u64 ((rd ns a).1 : Int), .int .i64 ((rd ns a).2.1 : Int)]) ∧ Only g w w' ∧ RAny w' g B ns (rd ns a).2.2 := by
  obtain ⟨hB, ⟨b, off, cap, hb2, k⟩ | ⟨k, rfl, rfl⟩⟩ := hR
  · exact (RNum_c g b off cap ns a w k).mono (fun e w' h => ⟨h.1, h.2.1, h.2.1.size' hB, .inl ⟨b, off, cap, hb2, h.2.2⟩⟩)
  · exact (RNum_nil g w k).mono (fun e w' h => ⟨h.1, h.2.1, h.2.1.size' hB, .inr ⟨h.2.2, rfl, rfl⟩⟩)

set_option maxRecDepth 100000 in
set_option maxHeartbeats 1000000 in
theorem End_yes (g B : Nat) (ns : List Nat) (a : Nat) (w : World) (hR : RAny w g B ns a) (hlt : a < ns.length) : Calls Try.prog 63 #[.pointer (some ⟨g, 0, none⟩)] w fun e w' => e = .returned (.int .i64 112) ∧ Below w.heap.size w w' := by
  have hR' := hide hR
  obtain ⟨h1, h2, h3⟩ := hR.cells
  have hle := hR.more.1
  have hx : (0 : Int) < (ns.length : Int) - (a : Int) := by omega
  clear hR
  go_enter Try.func63, Try.ntmps63
  go_wp2_with fail
  refine (Left_any g B ns a _ hR'.out).mono ?_
  rintro e w1 ⟨rfl, hb1⟩
  go_wp2
  go_ret
  exact ⟨rfl, by (focus repeat' (first | (with_reducible exact Below.refl _ _) | (with_reducible assumption) | (with_reducible refine Below.alloc ?_ ?_ _) | (with_reducible refine Below.drew ?_) | (with_reducible refine bdrewN ?_ _) | (with_reducible refine Below.setCell ?_ ?_ _) | (first | (with_reducible exact Nat.le_refl _) | (with_reducible assumption) | omega | (simp; omega) | (simp; done))))⟩

set_option maxRecDepth 100000 in
set_option maxHeartbeats 1000000 in
theorem End_no (g B : Nat) (ns : List Nat) (a : Nat) (w : World) (hR : RAny w g B ns a) (hlt : ¬ a < ns.length) : Calls Try.prog 63 #[.pointer (some ⟨g, 0, none⟩)] w fun e w' => e = .returned (.int .i64 0) ∧ Below w.heap.size w w' := by
  have hR' := hide hR
  obtain ⟨h1, h2, h3⟩ := hR.cells
  have hle := hR.more.1
  have hx : ¬ (0 : Int) < (ns.length : Int) - (a : Int) := by omega
  clear hR
  go_enter Try.func63, Try.ntmps63
  go_wp2_with fail
  refine (Left_any g B ns a _ hR'.out).mono ?_
  rintro e w1 ⟨rfl, hb1⟩
  go_wp2
  go_ret
  exact ⟨rfl, by (focus repeat' (first | (with_reducible exact Below.refl _ _) | (with_reducible assumption) | (with_reducible refine Below.alloc ?_ ?_ _) | (with_reducible refine Below.drew ?_) | (with_reducible refine bdrewN ?_ _) | (with_reducible refine Below.setCell ?_ ?_ _) | (first | (with_reducible exact Nat.le_refl _) | (with_reducible assumption) | omega | (simp; omega) | (simp; done))))⟩

theorem End_c (g B : Nat) (ns : List Nat) (a : Nat) (w : World) (hR : RAny w g B ns a) : Calls Try.prog 63 #[.pointer (some ⟨g, 0, none⟩)] w fun e w' => e = .returned (.int .i64 (if a < ns.length then 112 else 0)) ∧ Below w.heap.size w w' := by
  by_cases h : a < ns.length
  · rw [if_pos h]; exact End_yes g B ns a w hR h
  · rw [if_neg h]; exact End_no g B ns a w hR h
end Go.Proofs.Ytalnipjaekpbhaa


namespace Go.Proofs.Ytalnipjaekpbhaa
open Go.ChangeShapes Go.WideShapes Go.ChangeAt Go.RowKit Go.Deep
set_option linter.unusedSimpArgs false
set_option linter.unusedVariables false

/-- what the reader answers to long: how many, the error, the place -/
def lg (ns : List Nat) (a m : Nat) : Nat × Nat × Nat :=
  if (rd ns a).2.1 ≠ 0 then (0, (rd ns a).2.1, (rd ns a).2.2)
  else if m < (rd ns a).1 then (0, 3, (rd ns a).2.2)
  else if ns.length - (rd ns a).2.2 < (rd ns a).1 then (0, 110, (rd ns a).2.2)
  else ((rd ns a).1, 0, (rd ns a).2.2)
theorem lg_err (ns : List Nat) (a m : Nat) : (lg ns a m).2.1 = 0 ∨ (lg ns a m).2.1 = 3 ∨ (lg ns a m).2.1 = 110 ∨ (lg ns a m).2.1 = 111 := by
  have h := rd_err ns a
  unfold lg; split
  · simp only; omega
  split
  · simp
  split <;> simp
theorem lg_fits (ns : List Nat) (a m : Nat) (h : (lg ns a m).2.1 = 0) : (lg ns a m).1 ≤ m ∧ (lg ns a m).2.2 + (lg ns a m).1 ≤ ns.length ∨ (lg ns a m).1 = 0 := by
  revert h; unfold lg; split
  · intro h; exact .inr rfl
  split
  · intro h; cases h
  split
  · intro h; cases h
  · intro h; simp only; omega
theorem lg_ok (ns : List Nat) (a m : Nat) (h : (lg ns a m).2.1 = 0) : (rd ns a).2.1 = 0 ∧ (rd ns a).1 ≤ m ∧ (rd ns a).1 ≤ ns.length - (rd ns a).2.2 ∧ lg ns a m = ((rd ns a).1, 0, (rd ns a).2.2) := by
  revert h; unfold lg; split
  · intro h; simp only at h; omega
  split
  · intro h; cases h
  split
  · intro h; cases h
  · intro h; exact ⟨by omega, by omega, by omega, rfl⟩

set_option maxRecDepth 100000 in
set_option maxHeartbeats 2000000 in
theorem long_bad (g B : Nat) (ns : List Nat) (a : Nat) (m : Nat) (w : World) (hR : RAny w g B ns a) (hm : m ≤ 9223372036854775807) (hE : (rd ns a).2.1 ≠ 0) : Calls Try.prog 89 #[.pointer (some ⟨g, 0, none⟩), .int .i64 (m : Int)] w (fun e w' => e = .returned (.tuple #[.int .i64 ((lg ns a m).1 : Int), .int .i64 ((lg ns a m).2.1 : Int)]) ∧ Only g w w' ∧ RAny w' g B ns (lg ns a m).2.2) := by
  have eq : lg ns a m = (0, (rd ns a).2.1, (rd ns a).2.2) := by unfold lg; rw [if_pos hE]
  have hle := hR.more
  have hle2 := rd_place ns a hle.1
  have hlt := rd_lt ns a hle.2.2
  have hcl := hide hR.cells
  have hR' := hide hR
  clear hR
  rw [eq]
  clear eq
  go_enter Try.func89, Try.ntmps89
  go_wp2_with fail
  refine (RNum_any g B ns a _ hR'.out).mono ?_
  rintro e w1 ⟨rfl, ho1, hR1⟩
  have HR1 := hide hR1
  clear hR1
  have HO1 := hide ho1
  clear ho1
  have hE' : ¬ ((rd ns a).2.1 : Int) = 0 := by omega
  go_wp2
  go_ret2
  exact ⟨rfl, HO1.out, HR1.out⟩

set_option maxRecDepth 100000 in
set_option maxHeartbeats 2000000 in
theorem long_many (g B : Nat) (ns : List Nat) (a : Nat) (m : Nat) (w : World) (hR : RAny w g B ns a) (hm : m ≤ 9223372036854775807) (hE : (rd ns a).2.1 = 0) (hM : m < (rd ns a).1) : Calls Try.prog 89 #[.pointer (some ⟨g, 0, none⟩), .int .i64 (m : Int)] w (fun e w' => e = .returned (.tuple #[.int .i64 ((lg ns a m).1 : Int), .int .i64 ((lg ns a m).2.1 : Int)]) ∧ Only g w w' ∧ RAny w' g B ns (lg ns a m).2.2) := by
  have eq : lg ns a m = (0, 3, (rd ns a).2.2) := by unfold lg; rw [if_neg (by omega), if_pos hM]
  have hle := hR.more
  have hle2 := rd_place ns a hle.1
  have hlt := rd_lt ns a hle.2.2
  have hcl := hide hR.cells
  have hR' := hide hR
  clear hR
  rw [eq]
  clear eq
  go_enter Try.func89, Try.ntmps89
  go_wp2_with fail
  refine (RNum_any g B ns a _ hR'.out).mono ?_
  rintro e w1 ⟨rfl, ho1, hR1⟩
  have HR1 := hide hR1
  clear hR1
  have HO1 := hide ho1
  clear ho1
  have hE' : ((rd ns a).2.1 : Int) = 0 := by omega
  have hM' : (m : Int) < ((rd ns a).1 : Int) := by omega
  go_wp2
  go_ret2
  exact ⟨rfl, HO1.out, HR1.out⟩

theorem Only.trans_below {g : Nat} {w w1 w2 : World} (k : Only g w w1) (h : Below w1.heap.size w1 w2) : Only g w w2 :=
  ⟨h.os.trans k.os, h.tape.trans k.tape, h.output.trans k.output, Nat.le_trans k.size h.size, fun i hi h1 => (h.block i (Nat.lt_of_lt_of_le hi k.size)).trans (k.block i hi h1)⟩

set_option maxRecDepth 100000 in
set_option maxHeartbeats 2000000 in
theorem long_end (g B : Nat) (ns : List Nat) (a : Nat) (m : Nat) (w : World) (hR : RAny w g B ns a) (hm : m ≤ 9223372036854775807) (hE : (rd ns a).2.1 = 0) (hM : ¬ m < (rd ns a).1) (hL : ns.length - (rd ns a).2.2 < (rd ns a).1) : Calls Try.prog 89 #[.pointer (some ⟨g, 0, none⟩), .int .i64 (m : Int)] w (fun e w' => e = .returned (.tuple #[.int .i64 ((lg ns a m).1 : Int), .int .i64 ((lg ns a m).2.1 : Int)]) ∧ Only g w w' ∧ RAny w' g B ns (lg ns a m).2.2) := by
  have eq : lg ns a m = (0, 110, (rd ns a).2.2) := by unfold lg; rw [if_neg (by omega), if_neg hM, if_pos hL]
  have hle := hR.more
  have hle2 := rd_place ns a hle.1
  have hlt := rd_lt ns a hle.2.2
  have hcl := hide hR.cells
  have hR' := hide hR
  clear hR
  rw [eq]
  clear eq
  go_enter Try.func89, Try.ntmps89
  go_wp2_with fail
  refine (RNum_any g B ns a _ hR'.out).mono ?_
  rintro e w1 ⟨rfl, ho1, hR1⟩
  have HR1 := hide hR1
  clear hR1
  have HO1 := hide ho1
  clear ho1
  have hE' : ((rd ns a).2.1 : Int) = 0 := by omega
  have hM' : ¬ (m : Int) < ((rd ns a).1 : Int) := by omega
  have hL' : ((ns.length - (rd ns a).2.2 : Nat) : Int) < ((rd ns a).1 : Int) := by omega
  go_wp2_with fail
  refine (Left_any g B ns (rd ns a).2.2 _ HR1.out).mono ?_
  rintro e w2 ⟨rfl, hb2⟩
  have HR2 := hide (HR1.out.below hb2)
  have HB2 := hide hb2
  clear hb2
  have hk : ((ns.length : Int) - ((rd ns a).2.2 : Int)) = ((ns.length - (rd ns a).2.2 : Nat) : Int) := by omega
  rw [hk]
  go_wp2
  go_ret2
  exact ⟨rfl, HO1.out.trans_below HB2.out, HR2.out⟩

set_option maxRecDepth 100000 in
set_option maxHeartbeats 2000000 in
theorem long_ok (g B : Nat) (ns : List Nat) (a : Nat) (m : Nat) (w : World) (hR : RAny w g B ns a) (hm : m ≤ 9223372036854775807) (hE : (rd ns a).2.1 = 0) (hM : ¬ m < (rd ns a).1) (hL : ¬ ns.length - (rd ns a).2.2 < (rd ns a).1) : Calls Try.prog 89 #[.pointer (some ⟨g, 0, none⟩), .int .i64 (m : Int)] w (fun e w' => e = .returned (.tuple #[.int .i64 ((lg ns a m).1 : Int), .int .i64 ((lg ns a m).2.1 : Int)]) ∧ Only g w w' ∧ RAny w' g B ns (lg ns a m).2.2) := by
  have eq : lg ns a m = ((rd ns a).1, 0, (rd ns a).2.2) := by unfold lg; rw [if_neg (by omega), if_neg hM, if_neg hL]
  have hle := hR.more
  have hle2 := rd_place ns a hle.1
  have hlt := rd_lt ns a hle.2.2
  have hcl := hide hR.cells
  have hR' := hide hR
  clear hR
  rw [eq]
  clear eq
  go_enter Try.func89, Try.ntmps89
  go_wp2_with fail
  refine (RNum_any g B ns a _ hR'.out).mono ?_
  rintro e w1 ⟨rfl, ho1, hR1⟩
  have HR1 := hide hR1
  clear hR1
  have HO1 := hide ho1
  clear ho1
  have hE' : ((rd ns a).2.1 : Int) = 0 := by omega
  have hM' : ¬ (m : Int) < ((rd ns a).1 : Int) := by omega
  have hL' : ¬ ((ns.length - (rd ns a).2.2 : Nat) : Int) < ((rd ns a).1 : Int) := by omega
  go_wp2_with fail
  refine (Left_any g B ns (rd ns a).2.2 _ HR1.out).mono ?_
  rintro e w2 ⟨rfl, hb2⟩
  have HR2 := hide (HR1.out.below hb2)
  have HB2 := hide hb2
  clear hb2
  have hk : ((ns.length : Int) - ((rd ns a).2.2 : Int)) = ((ns.length - (rd ns a).2.2 : Nat) : Int) := by omega
  rw [hk]
  go_wp2
  go_ret2
  exact ⟨rfl, HO1.out.trans_below HB2.out, HR2.out⟩

theorem long_c (g B : Nat) (ns : List Nat) (a : Nat) (m : Nat) (w : World) (hR : RAny w g B ns a) (hm : m ≤ 9223372036854775807) : Calls Try.prog 89 #[.pointer (some ⟨g, 0, none⟩), .int .i64 (m : Int)] w (fun e w' => e = .returned (.tuple #[.int .i64 ((lg ns a m).1 : Int), .int .i64 ((lg ns a m).2.1 : Int)]) ∧ Only g w w' ∧ RAny w' g B ns (lg ns a m).2.2) := by
  by_cases hE : (rd ns a).2.1 = 0
  · by_cases hM : m < (rd ns a).1
    · exact long_many g B ns a m w hR hm hE hM
    · by_cases hL : ns.length - (rd ns a).2.2 < (rd ns a).1
      · exact long_end g B ns a m w hR hm hE hM hL
      · exact long_ok g B ns a m w hR hm hE hM hL
  · exact long_bad g B ns a m w hR hm hE
end Go.Proofs.Ytalnipjaekpbhaa


namespace Go.Proofs.Ytalnipjaekpbhaa
open Go.ChangeShapes Go.WideShapes Go.ChangeAt Go.RowKit Go.Deep
set_option linter.unusedSimpArgs false
set_option linter.unusedVariables false

/-- what the reader answers to next -/
def nx (ns : List Nat) (a n : Nat) : Nat × Nat × Nat := if ns.length < a + n then (0, 110, a) else (num ((ns.drop a).take n), 0, a + n)
theorem Only.of_below {g : Nat} {w w' : World} (k : Below w.heap.size w w') : Only g w w' := ⟨k.os, k.tape, k.output, k.size, fun i hi _ => k.block i hi⟩
theorem nx_one {ns : List Nat} {a : Nat} (hn : a < ns.length) : nx ns a 1 = (ns.getD a 0, 0, a + 1) := by
  have e : (ns.drop a).take 1 = [ns.getD a 0] := by
    rw [List.drop_eq_getElem_cons hn, List.take_succ_cons, List.take_zero]
    simp [List.getD, hn]
  unfold nx; rw [if_neg (by omega), e, num1]
theorem nx_end {ns : List Nat} {a n : Nat} (hn : ns.length < a + n) : nx ns a n = (0, 110, a) := by unfold nx; rw [if_pos hn]
theorem nx_ok {ns : List Nat} {a n : Nat} (hn : a + n ≤ ns.length) : nx ns a n = (num ((ns.drop a).take n), 0, a + n) := by unfold nx; rw [if_neg (by omega)]
/-- what the reader answers to Flag, to Real -/
def fl (ns : List Nat) (a : Nat) : Bool × Nat × Nat := if ns.length ≤ a then (false, 110, a) else if 1 < ns.getD a 0 then (false, 111, a) else (decide (ns.getD a 0 = 1), 0, a + 1)
theorem getD_lt {ns : List Nat} (h : ∀ x ∈ ns, x < 256) (a : Nat) : ns.getD a 0 < 256 := by
  by_cases hn : a < ns.length
  · have e : ns.getD a 0 = ns[a] := by simp [List.getD, hn]
    rw [e]; exact h _ (List.getElem_mem hn)
  · simp [List.getD, List.getElem?_eq_none (show ns.length ≤ a by omega)]

theorem next_any (g B : Nat) (ns : List Nat) (a n : Nat) (w : World) (hR : RAny w g B ns a) (hn1 : 1 ≤ n) (hnn : n ≤ 8) : Calls Try.prog 96 #[.pointer (some ⟨g, 0, none⟩), .int .i64 (n : Int)] w fun e w' => e = .returned (.tuple #[.int .u64 ((nx ns a n).1 : Int), .int .i64 ((nx ns a n).2.1 : Int)]) ∧ Only g w w' ∧ RAny w' g B ns (nx ns a n).2.2 := by
  by_cases hn : ns.length < a + n
  · rw [nx_end hn]
    obtain ⟨hB, ⟨b, off, cap, hb2, k⟩ | ⟨k, rfl, rfl⟩⟩ := hR
    · exact (next_end g b off cap ns a n w k hn hnn).mono (fun e w' h => ⟨h.1, .of_below h.2, Nat.le_trans hB h.2.size, .inl ⟨b, off, cap, hb2, k.below h.2⟩⟩)
    · exact (next_nil g n w k hn1 hnn).mono (fun e w' h => ⟨h.1, .of_below h.2, Nat.le_trans hB h.2.size, .inr ⟨k.below h.2, rfl, rfl⟩⟩)
  · rw [nx_ok (by omega)]
    obtain ⟨hB, ⟨b, off, cap, hb2, k⟩ | ⟨k, rfl, rfl⟩⟩ := hR
    · exact (next_c g b off cap ns a n w k (by omega) hn1 hnn).mono (fun e w' h => ⟨h.1, h.2.1, Nat.le_trans hB h.2.1.size, .inl ⟨b, off, cap, hb2, h.2.2⟩⟩)
    · simp at hn; omega

theorem fl_err (ns : List Nat) (a : Nat) (h : (fl ns a).2.1 ≠ 0) : (fl ns a).2.2 = a := by revert h; unfold fl; split <;> (try split) <;> simp
end Go.Proofs.Ytalnipjaekpbhaa

