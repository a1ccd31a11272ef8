import Derived.Test.YtajkgecegefnmaaTs
namespace Go.Proofs.Ytajkgecegefnmaa
open Go.ChangeShapes Go.WideShapes Go.ChangeAt Go.RowKit Go.Deep
set_option linter.unusedSimpArgs false
set_option linter.unusedVariables false

theorem WObj.same {g : Nat} {v : Value} {bs : List Nat} {w w' : World} (h : WObj w g v bs) (hs : w.heap.size ≤ w'.heap.size) (h1 : w'.heap[g]? = w.heap[g]?) (h2 : ∀ k, v.ownBlock = some k → k < w.heap.size → w'.heap[k]? = w.heap[k]?) : WObj w' g v bs := by
  obtain ⟨a1, a2, a3, a4, a5, a6⟩ := h
  exact ⟨Nat.lt_of_lt_of_le a1 hs, (World.cell?_of_block h1).trans a2, (World.frozen?_of_block h1).trans a3, own_same a4 h2, a5, a6⟩
/-- a writer and a reader, apart, both new since w0 -/
structure KN (w0 w : World) (g1 : Nat) (v : Value) (bs : List Nat) (g2 b cap : Nat) (ns : List Nat) (a : Nat) : Prop where
  wr : WObj w g1 v bs
  rd : RObj w g2 b 0 cap ns a
  n1 : g1 ≠ g2
  n2 : b ≠ g1
  n3 : v.ownBlock ≠ some g2
  n4 : v.ownBlock ≠ some b
  low : Below w0.heap.size w0 w
  lo1 : w0.heap.size ≤ g1
  lo2 : w0.heap.size ≤ g2
  lo3 : ∀ k, v.ownBlock = some k → w0.heap.size ≤ k
theorem KN.write {w0 w w' : World} {g1 : Nat} {v v' : Value} {bs bs' : List Nat} {g2 b cap : Nat} {ns : List Nat} {a : Nat} (h : KN w0 w g1 v bs g2 b cap ns a) (hW : WObj w' g1 v' bs') (hk : WKeep g1 v w w') (hn : Near w v v') : KN w0 w' g1 v' bs' g2 b cap ns a := by
  obtain ⟨r1, r2, r3, r4, _⟩ := h.rd
  have hz := hk.2.2.2.1
  have hl := h.low.size
  refine ⟨hW, h.rd.same hz (hk.2.2.2.2 g2 r1 h.n1.symm (fun e => h.n3 e.symm)) (hk.2.2.2.2 b r4 h.n2 (fun e => h.n4 e.symm)), h.n1, h.n2, ?_, ?_, h.low.trans ⟨hk.1, hk.2.1, hk.2.2.1, hz, fun i hi => hk.2.2.2.2 i (by omega) (fun e => by have := h.lo1; omega) (fun e => by have := h.lo3 i e.symm; omega)⟩, h.lo1, h.lo2, ?_⟩
  · rcases hn with q | ⟨k, q, hk⟩
    · rw [q]; exact h.n3
    · rw [q]; intro e; cases e; omega
  · rcases hn with q | ⟨k, q, hk⟩
    · rw [q]; exact h.n4
    · rw [q]; intro e; cases e; omega
  · rcases hn with q | ⟨k, q, hk⟩
    · rw [q]; exact h.lo3
    · rw [q]; intro j e; cases e; omega
theorem KN.below {w0 w w' : World} {g1 : Nat} {v : Value} {bs : List Nat} {g2 b cap : Nat} {ns : List Nat} {a : Nat} (h : KN w0 w g1 v bs g2 b cap ns a) (hb : Below w.heap.size w w') : KN w0 w' g1 v bs g2 b cap ns a :=
  ⟨h.wr.below hb, h.rd.below hb, h.n1, h.n2, h.n3, h.n4, h.low.trans (hb.mono h.low.size), h.lo1, h.lo2, h.lo3⟩
/-- a writer, and a reader that is read, both new since w0 -/
structure KR (w0 w : World) (g1 : Nat) (v : Value) (bs : List Nat) (g2 B : Nat) (ns : List Nat) (a : Nat) : Prop where
  wr : WObj w g1 v bs
  rd : RAny w g2 B ns a
  n1 : g1 ≠ g2
  n3 : v.ownBlock ≠ some g2
  low : Below w0.heap.size w0 w
  lo2 : w0.heap.size ≤ g2
theorem KN.reads {w0 w : World} {g1 : Nat} {v : Value} {bs : List Nat} {g2 b cap : Nat} {ns : List Nat} {a : Nat} (h : KN w0 w g1 v bs g2 b cap ns a) : KR w0 w g1 v bs g2 w.heap.size ns a :=
  ⟨h.wr, ⟨Nat.le_refl _, .inl ⟨b, 0, cap, h.rd.2.2.2.1, h.rd⟩⟩, h.n1, h.n3, h.low, h.lo2⟩
theorem KR.read {w0 w w' : World} {g1 : Nat} {v : Value} {bs : List Nat} {g2 B : Nat} {ns : List Nat} {a a' : Nat} (h : KR w0 w g1 v bs g2 B ns a) (ho : Only g2 w w') (hR : RAny w' g2 B ns a') : KR w0 w' g1 v bs g2 B ns a' := by
  have hl := h.low.size
  exact ⟨h.wr.same ho.size (ho.block g1 h.wr.1 h.n1) (fun k hk hlt => ho.block k hlt (fun e => h.n3 (by rw [hk, e]))), hR, h.n1, h.n3, h.low.trans ⟨ho.os, ho.tape, ho.output, ho.size, fun i hi => ho.block i (by omega) (by have := h.lo2; omega)⟩, h.lo2⟩
theorem KR.below {w0 w w' : World} {g1 : Nat} {v : Value} {bs : List Nat} {g2 B : Nat} {ns : List Nat} {a : Nat} (h : KR w0 w g1 v bs g2 B ns a) (hb : Below w.heap.size w w') : KR w0 w' g1 v bs g2 B ns a :=
  ⟨h.wr.below hb, h.rd.below hb, h.n1, h.n3, h.low.trans (hb.mono h.low.size), h.lo2⟩

set_option maxRecDepth 100000 in
set_option maxHeartbeats 2000000 in
theorem NewReader_some (ns : List Nat) (b off cap : Nat) (w : World) (hm : 0 < ns.length) (hl : ns.length ≤ 140737488351232) (hx : ∀ x ∈ ns, x < 256) (hb : ∀ j, j < ns.length → w.cell? ⟨b, off + j, none⟩ = some (.int .u8 (ns.getD j 0 : Int))) (hbz : b < w.heap.size) : Calls Try.prog 19 #[.slice (some ⟨b, off, none⟩) ns.length cap] w (fun e w' => ∃ g b2 cap2, e = .returned (.pointer (some ⟨g, 0, none⟩)) ∧ w.heap.size ≤ g ∧ w.heap.size ≤ b2 ∧ Below w.heap.size w w' ∧ RObj w' g b2 0 cap2 ns 0) := by
  have HX := hide hx
  clear hx
  go_enter Try.func19, Try.ntmps19
  go_wp2_with fail
  refine (Clone8_c ns b off cap _ hm (by omega) hb hbz).mono ?_
  rintro e w1 ⟨g2, cap2, rfl, hg2, own, hb1⟩
  obtain ⟨g', cap', hv, _, hlt, hcp, hcl, _⟩ := own_form own hm
  obtain ⟨h1, h2, h3⟩ : g2 = g' ∧ ns.length = ns.length ∧ cap2 = cap' := by (injection hv with e1 e2 e3; injection e1 with e1; injection e1 with e4; exact ⟨e4, e2, e3⟩)
  subst h1; subst h3
  have HC := hide (row_cells (cap := cap2) hcl)
  have HB1 := hide hb1
  clear hb own hv hcl hb1
  go_wp2
  go_ret
  have hz := HB1.out.size
  refine ⟨w1.heap.size, g2, cap2, rfl, hz, hg2, (HB1.out).trans ((bstep (Below.refl _ _) (by (focus repeat' (first | (with_reducible exact Below.refl _ _) | (with_reducible assumption) | (with_reducible refine Below.alloc ?_ ?_ _) | (with_reducible refine Below.drew ?_) | (with_reducible refine bdrewN ?_ _) | (with_reducible refine Below.setCell ?_ ?_ _) | (first | (with_reducible exact Nat.le_refl _) | (with_reducible assumption) | omega | (simp; omega) | (simp; done)))))).mono hz), by simp, fun o => by simp [go_sem], fun o => by simp [go_sem], by (simp; omega), by omega, fun j hj => ?_, HX.out, Nat.zero_le _, by omega, hcp⟩
  rw [World.cell?_alloc_past _ _ _ (by first | omega | (simp; omega))]
  exact HC.out j hj
end Go.Proofs.Ytajkgecegefnmaa
