import Derived.Test.YtajkgecegefnmaaTb
namespace Go.Proofs.Ytajkgecegefnmaa
open Go.ChangeShapes Go.WideShapes Go.ChangeAt Go.RowKit Go.Deep
set_option linter.unusedSimpArgs false
set_option linter.unusedVariables false

/-- the reader at g has the bytes ns, which lie at b, and has read 'at' of them -/
def RObj (w : World) (g b off cap : Nat) (ns : List Nat) (at_ : Nat) : Prop :=
  g < w.heap.size ∧ (∀ o, w.cell? ⟨g, o, none⟩ = (#[Value.slice (some ⟨b, off, none⟩) ns.length cap, Value.int .i64 (at_ : Int)] : Array Value)[o]?) ∧ (∀ o, w.frozen? ⟨g, o, none⟩ = false) ∧
  b < w.heap.size ∧ b ≠ g ∧ (∀ j, j < ns.length → w.cell? ⟨b, off + j, none⟩ = some (.int .u8 (ns.getD j 0 : Int))) ∧ (∀ x ∈ ns, x < 256) ∧ at_ ≤ ns.length ∧ ns.length ≤ 1152921504606846976 ∧ ns.length ≤ cap
theorem RObj.below {w w' : World} {g b off cap : Nat} {ns : List Nat} {at_ : Nat} (h : RObj w g b off cap ns at_) (hb : Below w.heap.size w w') : RObj w' g b off cap ns at_ := by
  obtain ⟨h1, h2, h3, h4, h5, h6, h7, h8, h9, h10⟩ := h
  exact ⟨Nat.lt_of_lt_of_le h1 hb.size, fun o => (hb.cell (p := ⟨g, o, none⟩) h1).trans (h2 o), fun o => (hb.frozen (p := ⟨g, o, none⟩) h1).trans (h3 o), Nat.lt_of_lt_of_le h4 hb.size, h5, fun j hj => (hb.cell (p := ⟨b, off + j, none⟩) h4).trans (h6 j hj), h7, h8, h9, h10⟩
/-- only block g may have changed -/
structure Only (g : Nat) (w w' : World) : Prop where
  os : w'.os = w.os
  tape : w'.tape = w.tape
  output : w'.output = w.output
  size : w.heap.size ≤ w'.heap.size
  block : ∀ i, i < w.heap.size → i ≠ g → w'.heap[i]? = w.heap[i]?

set_option maxRecDepth 100000 in
set_option maxHeartbeats 1000000 in
theorem Left_c (g b off cap : Nat) (ns : List Nat) (at_ : Nat) (w : World) (hR : RObj w g b off cap ns at_) : Calls Try.prog 31 #[.pointer (some ⟨g, 0, none⟩)] w fun e w' => e = .returned (.int .i64 ((ns.length : Int) - (at_ : Int))) ∧ Below w.heap.size w w' := by
  obtain ⟨h1, h2, h3, h4, h5, h6, h7, h8, h9, h10⟩ := hR
  have H6 := hide h6
  have H7 := hide h7
  clear h6 h7
  go_enter Try.func31, Try.ntmps31
  go_wp2
  go_quiet (fail)
  go_wp2
  go_ret
  exact ⟨rfl, by (focus repeat' (first | (with_reducible exact Below.refl _ _) | (with_reducible assumption) | (with_reducible refine Below.alloc ?_ ?_ _) | (with_reducible refine Below.drew ?_) | (with_reducible refine bdrewN ?_ _) | (with_reducible refine Below.setCell ?_ ?_ _) | (first | (with_reducible exact Nat.le_refl _) | (with_reducible assumption) | omega | (simp; omega) | (simp; done))))⟩

set_option maxRecDepth 100000 in
set_option maxHeartbeats 1000000 in
theorem Place_c (g b off cap : Nat) (ns : List Nat) (at_ : Nat) (w : World) (hR : RObj w g b off cap ns at_) : Calls Try.prog 24 #[.pointer (some ⟨g, 0, none⟩)] w fun e w' => e = .returned (.int .i64 (at_ : Int)) ∧ Below w.heap.size w w' := by
  obtain ⟨h1, h2, h3, h4, h5, h6, h7, h8, h9, h10⟩ := hR
  have H6 := hide h6
  have H7 := hide h7
  clear h6 h7
  go_enter Try.func24, Try.ntmps24
  go_wp2
  go_ret
  exact ⟨rfl, by (focus repeat' (first | (with_reducible exact Below.refl _ _) | (with_reducible assumption) | (with_reducible refine Below.alloc ?_ ?_ _) | (with_reducible refine Below.drew ?_) | (with_reducible refine bdrewN ?_ _) | (with_reducible refine Below.setCell ?_ ?_ _) | (first | (with_reducible exact Nat.le_refl _) | (with_reducible assumption) | omega | (simp; omega) | (simp; done))))⟩

set_option maxRecDepth 100000 in
set_option maxHeartbeats 1000000 in
theorem next_end (g b off cap : Nat) (ns : List Nat) (at_ : Nat) (n : Nat) (w : World) (hR : RObj w g b off cap ns at_) (hn : ns.length < at_ + n) (hnn : n ≤ 8) : Calls Try.prog 72 #[.pointer (some ⟨g, 0, none⟩), .int .i64 (n : Int)] w fun e w' => e = .returned (.tuple #[.int .u64 0, .int .i64 110]) ∧ Below w.heap.size w w' := by
  have hR' := hide hR
  obtain ⟨h1, h2, h3, h4, h5, h6, h7, h8, h9, h10⟩ := hR
  have H6 := hide h6
  have H7 := hide h7
  clear h6 h7
  go_enter Try.func72, Try.ntmps72
  go_wp2_with fail
  refine (Left_c g b off cap ns at_ _ hR'.out).mono ?_
  rintro e w1 ⟨rfl, hb1⟩
  go_wp2
  go_ret2
  exact ⟨rfl, by (focus repeat' (first | (with_reducible exact Below.refl _ _) | (with_reducible assumption) | (with_reducible refine Below.alloc ?_ ?_ _) | (with_reducible refine Below.drew ?_) | (with_reducible refine bdrewN ?_ _) | (with_reducible refine Below.setCell ?_ ?_ _) | (first | (with_reducible exact Nat.le_refl _) | (with_reducible assumption) | omega | (simp; omega) | (simp; done))))⟩
end Go.Proofs.Ytajkgecegefnmaa
