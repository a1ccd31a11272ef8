import Derived.Test.YtalnipjaekpbhaaL52
import Derived.Deep.CutBlock
import Derived.Great.BuildSlice
namespace Go.Proofs.Ytalnipjaekpbhaa
open Go.ChangeShapes Go.WideShapes Go.ChangeAt Go.RowKit Go.Deep
set_option linter.unusedSimpArgs false
set_option linter.unusedVariables false

theorem own_setc {w : World} {B n c g sz : Nat} {e : TypeId} {xs : List Value} (h : w.ownsRow B e sz (.slice (some ⟨g, 0, none⟩) n c) n xs) (j : Nat) (u : Value) : ∃ xs', (w.setCell ⟨g, j, none⟩ u).ownsRow B e sz (.slice (some ⟨g, 0, none⟩) n c) n xs' := by
  rcases h.2 with ⟨q, _⟩ | ⟨g1, cap1, cur1, e1, h2, h3, h4, h5, h6, h7⟩
  · cases q
  · injection e1 with e1 _ e2
    injection e1 with e1
    injection e1 with e1
    subst e1 e2
    refine ⟨(cur1.setIfInBounds j u).toList.take (n * sz), ?_, .inr ⟨g, c, cur1.setIfInBounds j u, rfl, h2, ?_, h4, h5, by rw [Array.size_setIfInBounds]; exact h6, rfl⟩⟩
    · rw [List.length_take, Array.length_toList, Array.size_setIfInBounds, h6]
      exact Nat.min_eq_left (Nat.mul_le_mul_right _ h4)
    · exact heap_setCell_same w g j _ e _ h3
theorem own_cellx {w : World} {B n c g sz : Nat} {e : TypeId} {xs : List Value} (h : w.ownsRow B e sz (.slice (some ⟨g, 0, none⟩) n c) n xs) {j : Nat} (hj : j < n * sz) : ∃ u, w.cell? ⟨g, j, none⟩ = some u ∧ w.frozen? ⟨g, j, none⟩ = false := by
  have q := h.cellAt j hj
  rw [List.getElem?_eq_getElem (by rw [h.1]; exact hj)] at q
  refine ⟨_, q, ?_⟩
  rcases h.2 with ⟨q, _⟩ | ⟨g1, cap1, cur1, e1, h2, h3, _⟩
  · cases q
  · injection e1 with e1 _ e2
    injection e1 with e1
    injection e1 with e1
    subst e1
    exact frozen_of_row w g j _ e h3
/-- a row is written over, and nothing else -/
structure Wip (w wr : World) (B : Nat) (e : TypeId) (sz : Nat) (v : Value) (n : Nat) : Prop where
  os : wr.os = w.os
  tape : wr.tape = w.tape
  output : wr.output = w.output
  size : wr.heap.size = w.heap.size
  block : ∀ i, v.ownBlock ≠ some i → wr.heap[i]? = w.heap[i]?
  row : ∃ xs, wr.ownsRow B e sz v n xs
theorem Wip.refl {w : World} {B : Nat} {e : TypeId} {sz : Nat} {v : Value} {n : Nat} {xs : List Value} (h : w.ownsRow B e sz v n xs) : Wip w w B e sz v n := ⟨rfl, rfl, rfl, rfl, fun _ _ => rfl, _, h⟩
theorem Wip.set {w wr : World} {B g c : Nat} {e : TypeId} {sz n : Nat} (h : Wip w wr B e sz (.slice (some ⟨g, 0, none⟩) n c) n) (j : Nat) (u : Value) : Wip w (wr.setCell ⟨g, j, none⟩ u) B e sz (.slice (some ⟨g, 0, none⟩) n c) n := by
  obtain ⟨xs, hx⟩ := h.row
  exact ⟨h.os, h.tape, h.output, (World.size_setCell _ _ _).trans h.size, fun i hi => (heap_setCell_other _ _ _ _ (fun e => hi (by show some g = some i; rw [e]))).trans (h.block i hi), own_setc hx j u⟩
theorem Wip.below {w0 w wr : World} {B b0 : Nat} {e : TypeId} {sz n : Nat} {v : Value} (h : Wip w wr B e sz v n) (hb : Below b0 w0 w) (hB : b0 ≤ B) : Below b0 w0 wr := by
  obtain ⟨xs, hx⟩ := h.row
  exact ⟨h.os.trans hb.os, h.tape.trans hb.tape, h.output.trans hb.output, by rw [h.size]; exact hb.size, fun i hi => (h.block i (fun e => by have := (hx.lt i e).1; omega)).trans (hb.block i hi)⟩
theorem Wip.own {w wr : World} {B B2 : Nat} {e e2 : TypeId} {sz n sz2 n2 : Nat} {v v2 : Value} {xs : List Value} (h : Wip w wr B e sz v n) (h2 : w.ownsRow B2 e2 sz2 v2 n2 xs) (hne : ∀ k, v.ownBlock = some k → v2.ownBlock ≠ some k) : wr.ownsRow B2 e2 sz2 v2 n2 xs :=
  own_same h2 (fun k hk _ => h.block k (fun e => hne k e hk))
theorem ByteIn.of_row8 {w : World} {ao : Option Addr} {cap : Nat} {ns : List Nat} (h : Row8 w ao cap ns) : ByteIn w (.slice ao ns.length cap) ns := h.byteIn
/-- what append(append([]byte{}, b...), x) leaves -/
theorem row_part {w : World} {B g c : Nat} {ns : List Nat} {x : Nat} (h : w.ownsRow B 5 1 (.slice (some ⟨g, 0, none⟩) (ns.length + 1) c) (ns.length + 1) (u8L (ns ++ [x]))) (h8 : ∀ y ∈ ns, y < 256) (hl : ns.length ≤ 1099511627000) : Row8 w (some ⟨g, 0, none⟩) c ns := by
  have hcap := own_cap h
  refine ⟨fun e => (by cases e), fun hne => ⟨g, 0, rfl, (h.lt g rfl).2, fun j hj => ?_⟩, h8, by omega, by omega⟩
  rw [Nat.zero_add, h.cellAt j (by omega)]
  unfold u8L
  rw [List.map_append, List.getElem?_append_left (by rw [List.length_map]; exact hj), List.getElem?_map, List.getElem?_eq_getElem hj, List.getD_eq_getElem?_getD, List.getElem?_eq_getElem hj]; rfl
theorem row_last {w : World} {B g c : Nat} {ns : List Nat} {x : Nat} (h : w.ownsRow B 5 1 (.slice (some ⟨g, 0, none⟩) (ns.length + 1) c) (ns.length + 1) (u8L (ns ++ [x]))) : w.cell? ⟨g, ns.length, none⟩ = some (.int .u8 (x : Int)) := by
  rw [h.cellAt ns.length (by omega)]
  unfold u8L
  rw [List.map_append, List.getElem?_append_right (by rw [List.length_map]; omega), List.length_map, Nat.sub_self]; rfl
theorem tdiv_two (n : Nat) : Int.tdiv (n : Int) 2 = ((n / 2 : Nat) : Int) := by rw [Int.tdiv_eq_ediv_of_nonneg (by omega)]; omega
end Go.Proofs.Ytalnipjaekpbhaa
