import Derived.Test.YtimabgakemgldaaT17
import Derived.Laws.LoneSync
import Derived.WalkKit
import Derived.StillTailTactics
import Derived.Deep.RegionLaw
import Derived.Deep.RegionHeld3
import Derived.Laws.OwnMore
import Derived.Deep.Matrix
import Derived.BigQuiet
import Derived.Deep.QuietTactic
import Derived.Laws.EntriesVeiled
namespace Go.Proofs.Ytimabgakemgldaa
open Go.ChangeShapes Go.WideShapes Go.ChangeAt Go.RowKit Go.Deep
set_option linter.unusedSimpArgs false
set_option linter.unusedVariables false

/-- what a worker has seen -/
inductive Sn where
  | no : Sn
  | num (v : Int) : Sn
  | off (o : Option (Int × Int)) : Sn
def nowA (A : Ab) (k : Int) : Sn := if k = 2 then .num A.mark else if k = 3 then .off A.bs else .num A.tk
def loopK (k : Int) : Bool := decide (k = 2) || (decide (k = 3) || decide (k = 5))
def idleA (A : Ab) (who k x : Int) : Bool := if k = 2 then decide (x ≤ A.mark) else if k = 3 then idleB A.bs who x else decide (A.tt ≤ A.tk)
/-- does what was seen still stand? -/
def hitA (A : Ab) (k : Int) : Sn → Bool
  | .no => false
  | .num v => if k = 2 then decide (v = A.mark) else decide (v = A.tk)
  | .off o => decide (o = A.bs)
def doneA (A : Ab) (who k x : Int) (s : Sn) : Bool := !loopK k || hitA A k s || idleA A who k x
/-- is it a better one? -/
def beats : Option (Int × Int) → Option (Int × Int) → Prop
  | none, _ => True
  | some _, none => False
  | some (w1, x1), some (w2, x2) => x1 < x2 ∨ x1 = x2 ∧ w2 ≤ w1
/-- what was seen fits -/
def SnOk (A : Ab) (who k x : Int) : Sn → Prop
  | .no => True
  | .num v => (k = 2 ∧ v < x ∧ v ≤ A.mark) ∨ (k = 5 ∧ 0 ≤ v ∧ v < A.tt ∧ v ≤ A.tk)
  | .off o => k = 3 ∧ idleB o who x = false ∧ beats o A.bs
/-- a worker: its answers (with their places), what it has seen -/
structure WS where
  did : List (Int × Bool × Int)
  s : Sn
abbrev Ops := List (List (Int × Int))
def opAt (ops : Ops) (i j : Nat) : Int × Int := (ops.getD i []).getD j (0, 0)
def wsAt (ws : List WS) (i : Nat) : WS := ws.getD i ⟨[], .no⟩
def pk (n : Nat) (p : Int) : Nat := (p % (n : Int)).toNat
/-- a worker's step, at a pick -/
def stepW (A : Ab) (u : WS) (who : Int) (o : Int × Int) (at_ : Int) : Ab × WS :=
  if doneA A who o.1 o.2 u.s = true then (doS A who o.1 o.2, ⟨u.did ++ [((doA A who o.1 o.2).1, (doA A who o.1 o.2).2, at_)], .no⟩)
  else (A, ⟨u.did, nowA A o.1⟩)
def pickA (ops : Ops) (st : Ab × List WS) (at_ : Int) (p : Int) : Ab × List WS :=
  let i := pk ops.length p
  let u := wsAt st.2 i
  if u.did.length = (ops.getD i []).length then st
  else
    let r := stepW st.1 u (i : Int) (opAt ops i u.did.length) at_
    (r.1, st.2.set i r.2)
def walkA (A0 : Ab) (ops : Ops) (ps : List Int) : Nat → Ab × List WS
  | 0 => (A0, List.replicate ops.length ⟨[], .no⟩)
  | k + 1 => pickA ops (walkA A0 ops ps k) (k : Int) (ps.getD k 0)
theorem pk_lt {n : Nat} (h : 0 < n) (p : Int) : pk n p < n := by
  unfold pk
  have h1 := Int.emod_nonneg p (show (n : Int) ≠ 0 by omega)
  have h2 := Int.emod_lt_of_pos p (show (0 : Int) < (n : Int) by omega)
  omega
theorem pk_tmod {n : Nat} (h : 0 < n) (p : Int) : ((p.tmod n + n).tmod n) = ((pk n p : Nat) : Int) := by
  unfold pk
  have h1 := Int.emod_nonneg p (show (n : Int) ≠ 0 by omega)
  have h2 := Int.emod_lt_of_pos p (show (0 : Int) < (n : Int) by omega)
  rw [Int.toNat_of_nonneg h1, Int.tmod_eq_emod (a := p)]
  split
  · rw [show (((0 : Nat)) : Int) = 0 from rfl, Int.sub_zero, Int.tmod_eq_emod_of_nonneg (by omega), Int.add_emod_right, Int.emod_emod]
  · rw [show (((n : Int).natAbs : Nat) : Int) = (n : Int) by simp, Int.sub_add_cancel, Int.tmod_eq_emod_of_nonneg h1, Int.emod_emod]
theorem wsAt_set {ws : List WS} {i : Nat} (h : i < ws.length) (j : Nat) (u : WS) : wsAt (ws.set i u) j = if i = j then u else wsAt ws j := by
  unfold wsAt
  rw [List.getD_eq_getElem?_getD, List.getD_eq_getElem?_getD, List.getElem?_set]
  by_cases e : i = j
  · subst e; rw [if_pos rfl, if_pos rfl, if_pos h]; rfl
  · rw [if_neg e, if_neg e]
theorem doS_S (A : Ab) (who k x : Int) : (doS A who k x).S.length = A.S.length := by
  unfold doS; (repeat' split) <;> simp
theorem doS_gt (A : Ab) (who k x : Int) : (doS A who k x).gt = A.gt := by
  unfold doS; (repeat' split) <;> rfl
theorem doS_tt (A : Ab) (who k x : Int) : (doS A who k x).tt = A.tt := by
  unfold doS; (repeat' split) <;> rfl
/-- the bounds of what stands -/
structure AbOk (A : Ab) (n : Nat) (c : Int) : Prop where
  S : A.S.length = n
  gt : 1 ≤ A.gt
  ar : 0 ≤ A.ar
  ar2 : A.ar ≤ c
  tk : 0 ≤ A.tk
  tk2 : A.tk ≤ A.tt
  tt : A.tt ≤ 9223372036854775807
  tk3 : A.tk ≤ c
theorem wrap_in {a : Int} (h : 0 ≤ a) (h2 : a ≤ 4611686018427387904) : wrap64 (a + 1) = a + 1 := IntWalk.wrap64_in _ ⟨by omega, by omega⟩
theorem AbOk.step {A : Ab} {n : Nat} {c : Int} (h : AbOk A n c) (hc : c ≤ 4611686018427387904) (who k x : Int) : AbOk (doS A who k x) n (c + 1) := by
  refine ⟨(doS_S A who k x).trans h.S, by rw [doS_gt]; exact h.gt, ?_, ?_, ?_, ?_, by rw [doS_tt]; exact h.tt, ?_⟩
  · unfold doS; (repeat' split) <;> first | exact h.ar | (show 0 ≤ wrap64 (A.ar + 1); rw [wrap_in h.ar (Int.le_trans h.ar2 hc)]; have := h.ar; omega)
  · have := h.ar2; unfold doS; (repeat' split) <;> first | (show A.ar ≤ _; omega) | (show wrap64 (A.ar + 1) ≤ _; rw [wrap_in h.ar (Int.le_trans h.ar2 hc)]; omega)
  · have := h.tk; unfold doS; (repeat' split) <;> first | exact h.tk | (show 0 ≤ takeN A.tt A.tk; unfold takeN; split <;> omega)
  · have := h.tk2; rw [doS_tt]; unfold doS; (repeat' split) <;> first | exact h.tk2 | (show takeN A.tt A.tk ≤ _; unfold takeN; split <;> omega)
  · have := h.tk3; unfold doS; (repeat' split) <;> first | (show A.tk ≤ _; omega) | (show takeN A.tt A.tk ≤ _; unfold takeN; split <;> omega)
theorem AbOk.more {A : Ab} {n : Nat} {c : Int} (h : AbOk A n c) : AbOk A n (c + 1) := ⟨h.S, h.gt, h.ar, by have := h.ar2; omega, h.tk, h.tk2, h.tt, by have := h.tk3; omega⟩
theorem beats_refl (o : Option (Int × Int)) : beats o o := by
  cases o with
  | none => trivial
  | some z => exact .inr ⟨rfl, Int.le_refl _⟩
theorem beats_offer {o p : Option (Int × Int)} (h : beats o p) (who x : Int) : beats o (offerO p who x) := by
  unfold offerO
  split
  · exact h
  · rename_i hi
    cases o with
    | none => trivial
    | some z =>
      cases p with
      | none => exact absurd h id
      | some y =>
        simp only [idleB, Bool.or_eq_true, Bool.and_eq_true, decide_eq_true_eq] at hi
        simp only [beats] at h ⊢
        omega
theorem SnOk.mono {A : Ab} {who k x : Int} {s : Sn} (h : SnOk A who k x s) (who2 k2 x2 : Int) : SnOk (doS A who2 k2 x2) who k x s := by
  have m1 : A.mark ≤ (doS A who2 k2 x2).mark := by
    unfold doS; (repeat' split) <;> first | exact Int.le_refl _ | (show A.mark ≤ max A.mark x2; omega)
  have m2 : A.tk ≤ (doS A who2 k2 x2).tk := by
    unfold doS; (repeat' split) <;> first | exact Int.le_refl _ | (show A.tk ≤ takeN A.tt A.tk; unfold takeN; split <;> omega)
  cases s with
  | no => trivial
  | num v =>
    rcases h with ⟨a, b, c⟩ | ⟨a, b, c, d⟩
    · exact .inl ⟨a, b, by omega⟩
    · exact .inr ⟨a, b, by rw [doS_tt]; exact c, by omega⟩
  | off o =>
    refine ⟨h.1, h.2.1, ?_⟩
    unfold doS; (repeat' split) <;> first | exact h.2.2 | exact beats_offer h.2.2 _ _
/-- what a look leaves -/
theorem SnOk.now {A : Ab} {n : Nat} {c : Int} (h : AbOk A n c) {who k x : Int} (hl : loopK k = true) (hi : idleA A who k x = false) : SnOk A who k x (nowA A k) := by
  unfold loopK at hl
  simp only [Bool.or_eq_true, decide_eq_true_eq] at hl
  unfold idleA at hi; unfold nowA
  rcases hl with rfl | rfl | rfl
  · simp at hi; exact .inl ⟨rfl, by omega, Int.le_refl _⟩
  · simp at hi; exact ⟨rfl, hi, beats_refl _⟩
  · simp at hi; exact .inr ⟨rfl, h.tk, hi, Int.le_refl _⟩
/-- the state of a walk after some picks -/
structure WOk (ops : Ops) (st : Ab × List WS) (c : Int) : Prop where
  a : AbOk st.1 ops.length c
  n : st.2.length = ops.length
  le : ∀ i, i < ops.length → (wsAt st.2 i).did.length ≤ (ops.getD i []).length
  sn : ∀ i, i < ops.length → SnOk st.1 (i : Int) (opAt ops i (wsAt st.2 i).did.length).1 (opAt ops i (wsAt st.2 i).did.length).2 (wsAt st.2 i).s
theorem WOk.pick {ops : Ops} {st : Ab × List WS} {c : Int} (h : WOk ops st c) (h0 : 0 < ops.length) (hc : c ≤ 4611686018427387904) (at_ p : Int) : WOk ops (pickA ops st at_ p) (c + 1) := by
  have hp := pk_lt h0 p
  unfold pickA
  simp only
  split
  · exact ⟨h.a.more, h.n, h.le, h.sn⟩
  · rename_i hne
    have hle := h.le _ hp
    unfold stepW
    split
    · refine ⟨h.a.step hc _ _ _, by rw [List.length_set]; exact h.n, fun i hi => ?_, fun i hi => ?_⟩
      · simp only [wsAt_set (show pk ops.length p < st.2.length by rw [h.n]; exact hp)]
        split
        · rename_i e; subst e; show (_ ++ [_]).length ≤ _; rw [List.length_append]; show _ + 1 ≤ _; omega
        · exact h.le i hi
      · simp only [wsAt_set (show pk ops.length p < st.2.length by rw [h.n]; exact hp)]
        split
        · trivial
        · exact (h.sn i hi).mono _ _ _
    · rename_i hd
      refine ⟨h.a.more, by rw [List.length_set]; exact h.n, fun i hi => ?_, fun i hi => ?_⟩
      · simp only [wsAt_set (show pk ops.length p < st.2.length by rw [h.n]; exact hp)]
        split
        · rename_i e; subst e; exact hle
        · exact h.le i hi
      · simp only [wsAt_set (show pk ops.length p < st.2.length by rw [h.n]; exact hp)]
        split
        · rename_i e; subst e
          unfold doneA at hd
          simp only [Bool.or_eq_true, Bool.not_eq_true', not_or, Bool.not_eq_true, Bool.not_eq_false] at hd
          exact SnOk.now h.a hd.1.1 hd.2
        · exact h.sn i hi
theorem walkA_ok (mark gate tick B : Int) (hB : B ≤ 4611686018427387904) (ops : Ops) (ps : List Int) (h0 : 0 < ops.length) (hg : 1 ≤ gate) (ht : 0 ≤ tick) (ht2 : tick ≤ 9223372036854775807) (k : Nat) (hk : (k : Int) ≤ B) : WOk ops (walkA (ab0 ops.length mark gate tick) ops ps k) (k : Int) := by
  induction k with
  | zero => exact ⟨⟨by simp [walkA, ab0], hg, Int.le_refl _, Int.le_refl _, Int.le_refl _, ht, ht2, Int.le_refl _⟩, by simp [walkA], fun i hi => by simp [walkA, wsAt, hi], fun i hi => by simp [walkA, wsAt, hi, SnOk]⟩
  | succ k ih =>
    have q := (ih (by omega)).pick h0 (by omega) (k : Int) (ps.getD k 0)
    rw [show ((k + 1 : Nat) : Int) = (k : Int) + 1 by omega]
    exact q
end Go.Proofs.Ytimabgakemgldaa
