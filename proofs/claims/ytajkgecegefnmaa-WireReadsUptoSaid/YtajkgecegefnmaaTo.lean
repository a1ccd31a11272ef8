import Derived.Deep.AppendLies
import Derived.Test.YtajkgecegefnmaaTn
namespace Go.Proofs.Ytajkgecegefnmaa
open Go.ChangeShapes Go.WideShapes Go.ChangeAt Go.RowKit Go.Deep
set_option linter.unusedSimpArgs false
set_option linter.unusedVariables false

/-- k things read one behind the other by R: their values, the first error, the place -/
def tk (R : Nat → Value × Nat × Nat) : Nat → Nat → List Value × Nat × Nat
  | 0, a => ([], 0, a)
  | k + 1, a => if (R a).2.1 ≠ 0 then ([(R a).1], (R a).2.1, (R a).2.2) else ((R a).1 :: (tk R k (R a).2.2).1, (tk R k (R a).2.2).2.1, (tk R k (R a).2.2).2.2)
theorem tk_bad (R : Nat → Value × Nat × Nat) (k a : Nat) (h : (R a).2.1 ≠ 0) : (tk R (k + 1) a).2.1 = (R a).2.1 := by rw [tk, if_pos h]
theorem tk_ok (R : Nat → Value × Nat × Nat) (k a : Nat) (h : (R a).2.1 = 0) : tk R (k + 1) a = ((R a).1 :: (tk R k (R a).2.2).1, (tk R k (R a).2.2).2.1, (tk R k (R a).2.2).2.2) := by rw [tk, if_neg (by omega)]
/-- what the reader answers to Take -/
def tl (R : Nat → Value × Nat × Nat) (ns : List Nat) (a m : Nat) : List Value × Nat × Nat :=
  if (lg ns a m).2.1 ≠ 0 then ([], (lg ns a m).2.1, a)
  else if (tk R (lg ns a m).1 (lg ns a m).2.2).2.1 ≠ 0 then ([], (tk R (lg ns a m).1 (lg ns a m).2.2).2.1, a)
  else tk R (lg ns a m).1 (lg ns a m).2.2
/-- below B0, block g alone may have changed -/
structure KB (B0 g : Nat) (w w' : World) : Prop where
  os : w'.os = w.os
  tape : w'.tape = w.tape
  output : w'.output = w.output
  size : w.heap.size ≤ w'.heap.size
  block : ∀ i, i < B0 → i ≠ g → w'.heap[i]? = w.heap[i]?
theorem KB.refl (B0 g : Nat) (w : World) : KB B0 g w w := ⟨rfl, rfl, rfl, Nat.le_refl _, fun _ _ _ => rfl⟩
theorem KB.trans {B0 g : Nat} {w w1 w2 : World} (h : KB B0 g w w1) (k : KB B0 g w1 w2) : KB B0 g w w2 :=
  ⟨k.os.trans h.os, k.tape.trans h.tape, k.output.trans h.output, Nat.le_trans h.size k.size, fun i hi h1 => (k.block i hi h1).trans (h.block i hi h1)⟩
theorem KB.of_only {B0 g : Nat} {w w' : World} (k : Only g w w') (h : B0 ≤ w.heap.size) : KB B0 g w w' := ⟨k.os, k.tape, k.output, k.size, fun i hi h1 => k.block i (by omega) h1⟩
theorem KB.of_below {B0 g : Nat} {w w' : World} (k : Below w.heap.size w w') (h : B0 ≤ w.heap.size) : KB B0 g w w' := KB.of_only (Only.of_below k) h
theorem KB.set {B0 g h : Nat} {w w1 : World} (k : KB B0 g w w1) (hh : B0 ≤ h) (o : Nat) (u : Value) : KB B0 g w (w1.setCell ⟨h, o, none⟩ u) :=
  k.trans ⟨rfl, rfl, rfl, by simp, fun i hi _ => Below.heap_setCell _ _ _ _ (by show i ≠ h; omega)⟩
theorem KB.grown {B0 g : Nat} {w w1 : World} {row : Option Nat} (h : w.grownBy w1 row) (hr : ∀ k, row = some k → B0 ≤ k) (hs : B0 ≤ w.heap.size) : KB B0 g w w1 :=
  ⟨h.os, h.tape, h.output, h.size, fun i hi _ => h.block i (by omega) (fun e => by have := hr i e.symm; omega)⟩
theorem KB.only {w w' : World} {g : Nat} {w0 : World} (h : Below w0.heap.size w0 w) (k : KB w0.heap.size g w w') : Only g w0 w' :=
  ⟨k.os.trans h.os, k.tape.trans h.tape, k.output.trans h.output, Nat.le_trans h.size k.size, fun i hi h1 => (k.block i hi h1).trans (h.block i hi)⟩
theorem RObj.same {w w' : World} {g b off cap : Nat} {ns : List Nat} {at_ : Nat} (h : RObj w g b off cap ns at_) (hs : w.heap.size ≤ w'.heap.size) (h1 : w'.heap[g]? = w.heap[g]?) (h2 : w'.heap[b]? = w.heap[b]?) : RObj w' g b off cap ns at_ := by
  obtain ⟨r1, r2, r3, r4, r5, r6, r7, r8, r9, r10⟩ := h
  exact ⟨Nat.lt_of_lt_of_le r1 hs, fun o => (World.cell?_of_block h1).trans (r2 o), fun o => (World.frozen?_of_block h1).trans (r3 o), Nat.lt_of_lt_of_le r4 hs, r5, fun j hj => (World.cell?_of_block h2).trans (r6 j hj), r7, r8, r9, r10⟩
theorem RAny.same {w w' : World} {g B : Nat} {ns : List Nat} {a : Nat} (h : RAny w g B ns a) (hs : w.heap.size ≤ w'.heap.size) (h1 : w'.heap[g]? = w.heap[g]?) (h2 : ∀ i, i < B → w'.heap[i]? = w.heap[i]?) : RAny w' g B ns a := by
  obtain ⟨hB, ⟨b, off, cap, hb2, k⟩ | ⟨⟨k1, k2, k3⟩, k4⟩⟩ := h
  · exact ⟨Nat.le_trans hB hs, .inl ⟨b, off, cap, hb2, k.same hs h1 (h2 b hb2)⟩⟩
  · exact ⟨Nat.le_trans hB hs, .inr ⟨⟨Nat.lt_of_lt_of_le k1 hs, fun o => (World.cell?_of_block h1).trans (k2 o), fun o => (World.frozen?_of_block h1).trans (k3 o)⟩, k4⟩⟩
theorem own_empty (w : World) (e : TypeId) (size base : Nat) (h : base ≤ w.heap.size) : (w.alloc (.cells #[] e)).ownsRow base e size (.slice (some ⟨w.heap.size, 0, none⟩) 0 0) 0 [] :=
  ⟨by simp, .inr ⟨_, 0, #[], rfl, h, heap_new _ _, Nat.le_refl _, by unfold maxLen; omega, by simp, by simp⟩⟩
theorem own_set {w : World} {base : Nat} {e : TypeId} {size : Nat} {v : Value} {n : Nat} {xs : List Value} (h : w.ownsRow base e size v n xs) {b : Nat} (hb : ∀ k, v.ownBlock = some k → k ≠ b) (o : Nat) (u : Value) : (w.setCell ⟨b, o, none⟩ u).ownsRow base e size v n xs := by
  obtain ⟨h0, h⟩ := h
  refine ⟨h0, ?_⟩
  rcases h with h | ⟨g, cap, cur, h1, h2, h3, h4⟩
  · exact .inl h
  · subst h1
    exact .inr ⟨g, cap, cur, rfl, h2, by rw [Below.heap_setCell _ _ _ _ (by exact hb g rfl)]; exact h3, h4⟩
theorem own_same {w w' : World} {base : Nat} {e : TypeId} {size : Nat} {v : Value} {n : Nat} {xs : List Value} (h : w.ownsRow base e size v n xs) (hs : ∀ k, v.ownBlock = some k → k < w.heap.size → w'.heap[k]? = w.heap[k]?) : w'.ownsRow base e size v n xs := by
  obtain ⟨h0, h⟩ := h
  refine ⟨h0, ?_⟩
  rcases h with h | ⟨g, cap, cur, h1, h2, h3, h4⟩
  · exact .inl h
  · subst h1
    exact .inr ⟨g, cap, cur, rfl, h2, by rw [hs g rfl (Array.getElem?_eq_some_iff.1 h3).1]; exact h3, h4⟩
end Go.Proofs.Ytajkgecegefnmaa
