import Derived.Test.YtimabgakemgldaaT6
import Derived.Laws.LoneSync
import Derived.WalkKit
import Derived.StillTailTactics
import Derived.Deep.RegionLaw
import Derived.Deep.RegionHeld3
import Derived.Laws.OwnMore
import Derived.Deep.Matrix
import Derived.BigQuiet
import Derived.Deep.QuietTactic
import Derived.Laws.EntriesVeiled
namespace Go.Proofs.Ytimabgakemgldaa
open Go.ChangeShapes Go.WideShapes Go.ChangeAt Go.RowKit Go.Deep
set_option linter.unusedSimpArgs false
set_option linter.unusedVariables false

/-- one cell of an elder block written, new blocks laid -/
structure WrN (w : World) (b o : Nat) (u : Value) (w' : World) : Prop where
  os : w'.os = w.os
  tape : w'.tape = w.tape
  output : w'.output = w.output
  size : w.heap.size ≤ w'.heap.size
  heap : ∀ k, k < w.heap.size → k ≠ b → w'.heap[k]? = w.heap[k]?
  at_ : w'.cell? ⟨b, o, none⟩ = some u
  oth : ∀ p, p ≠ o → w'.cell? ⟨b, p, none⟩ = w.cell? ⟨b, p, none⟩
  fro : ∀ p, w'.frozen? ⟨b, p, none⟩ = w.frozen? ⟨b, p, none⟩
theorem WrN.of {w W w' : World} {b o : Nat} {u : Value} (hb : Below w.heap.size w W) (hl : b < w.heap.size) (h : Wr1 W b o u w') : WrN w b o u w' :=
  ⟨h.os.trans hb.os, h.tape.trans hb.tape, h.output.trans hb.output, by rw [← h.size]; exact hb.size, fun k hk hne => (h.heap k hne).trans (hb.block k hk), h.at_, fun p hp => (h.oth p hp).trans (World.cell?_of_block (a := ⟨b, p, none⟩) (hb.block b hl)), fun p => (h.fro p).trans (World.frozen?_of_block (a := ⟨b, p, none⟩) (hb.block b hl))⟩
/-- an offering's boxes: the best's, what was seen, whose, what, the answer's -/
structure OfferT (w : World) (bb bs bw bx ba b ab ao : Nat) (p : Option Addr) (who x : Int) : Prop where
  b : w.cell? ⟨bb, 0, none⟩ = some (.pointer (some ⟨b, 0, none⟩))
  s : w.cell? ⟨bs, 0, none⟩ = some (.pointer p)
  sf : w.frozen? ⟨bs, 0, none⟩ = false
  wh : w.cell? ⟨bw, 0, none⟩ = some (.int .i64 who)
  x : w.cell? ⟨bx, 0, none⟩ = some (.int .i64 x)
  a : w.cell? ⟨ba, 0, none⟩ = some (.pointer (some ⟨ab, ao, none⟩))
theorem OfferT.stays {w w' : World} {bb bs bw bx ba b ab ao : Nat} {p : Option Addr} {who x : Int} (h : OfferT w bb bs bw bx ba b ab ao p who x) (h1 : w'.heap[bb]? = w.heap[bb]?) (h2 : w'.heap[bs]? = w.heap[bs]?) (h3 : w'.heap[bw]? = w.heap[bw]?) (h4 : w'.heap[bx]? = w.heap[bx]?) (h5 : w'.heap[ba]? = w.heap[ba]?) : OfferT w' bb bs bw bx ba b ab ao p who x :=
  ⟨cell_stay h.b h1, cell_stay h.s h2, fro_stay h.sf h2, cell_stay h.wh h3, cell_stay h.x h4, cell_stay h.a h5⟩
def offerV (bb bs bw bx ba : Nat) : Value := .agg #[.func (.func 96) #[] #[.pointer (some ⟨bb, 0, none⟩), .pointer (some ⟨bs, 0, none⟩), .pointer (some ⟨bx, 0, none⟩), .pointer (some ⟨bw, 0, none⟩)], .func (.func 97) #[] #[.pointer (some ⟨bb, 0, none⟩), .pointer (some ⟨bs, 0, none⟩), .pointer (some ⟨bw, 0, none⟩), .pointer (some ⟨bx, 0, none⟩), .pointer (some ⟨ba, 0, none⟩)]]
set_option maxRecDepth 100000 in
set_option maxHeartbeats 1000000 in
theorem offer_c (b ab ao : Nat) (who x : Int) (w : World) (ha : (w.cell? ⟨ab, ao, none⟩).isSome = true) (hf : w.frozen? ⟨ab, ao, none⟩ = false) : Calls Try.prog 58 #[.pointer (some ⟨b, 0, none⟩), .int .i64 who, .int .i64 x, .pointer (some ⟨ab, ao, none⟩)] w fun e w' => e = .returned (offerV w.heap.size (w.heap.size + 5) (w.heap.size + 1) (w.heap.size + 2) (w.heap.size + 3)) ∧ OfferT w' w.heap.size (w.heap.size + 5) (w.heap.size + 1) (w.heap.size + 2) (w.heap.size + 3) b ab ao none who x ∧ WrN w ab ao (.int .i64 x) w' := by
  obtain ⟨u, hu⟩ := Option.isSome_iff_exists.1 ha
  have hl := World.block_lt_of_cell? w _ hu
  simp only at hl
  go_enter Try.func58, Try.ntmps58
  go_upto_region 2 with fail
  obtain ⟨W, hW⟩ : ∃ W, W = (((((w.alloc (.cells #[.pointer (some ⟨b, 0, none⟩)] 43)).alloc (.cells #[.int .i64 who] 3)).alloc (.cells #[.int .i64 x] 2)).alloc (.cells #[.pointer (some ⟨ab, ao, none⟩)] 145)).alloc (.cells #[.nilFunc, .nilFunc] 143)).alloc (.cells #[.pointer none] 108) := ⟨_, rfl⟩
  rw [← hW]
  have hbW : Below w.heap.size w W := by rw [hW]; (focus repeat' (first | (with_reducible exact Below.refl _ _) | (with_reducible assumption) | (with_reducible refine Below.alloc ?_ ?_ _) | (with_reducible refine Below.drew ?_) | (with_reducible refine bdrewN ?_ _) | (with_reducible refine Below.setCell ?_ ?_ _) | (first | (with_reducible exact Nat.le_refl _) | (with_reducible assumption) | omega | (simp; omega) | (simp; done))))
  have zW : W.heap.size = w.heap.size + 6 := by rw [hW]; simp
  have k0 : W.cell? ⟨w.heap.size, 0, none⟩ = some (.pointer (some ⟨b, 0, none⟩)) := by rw [hW]; simp [go_sem]
  have k1 : W.cell? ⟨w.heap.size + 1, 0, none⟩ = some (.int .i64 who) := by rw [hW]; simp [go_sem]
  have k2 : W.cell? ⟨w.heap.size + 2, 0, none⟩ = some (.int .i64 x) := by rw [hW]; simp [go_sem]
  have k3 : W.cell? ⟨w.heap.size + 3, 0, none⟩ = some (.pointer (some ⟨ab, ao, none⟩)) := by rw [hW]; simp [go_sem]
  have k4 : W.cell? ⟨w.heap.size + 4, 0, none⟩ = some .nilFunc := by rw [hW]; simp [go_sem]
  have k4' : W.cell? ⟨w.heap.size + 4, 1, none⟩ = some .nilFunc := by rw [hW]; simp [go_sem]
  have f4 : ∀ o, W.frozen? ⟨w.heap.size + 4, o, none⟩ = false := fun o => by rw [hW]; simp [go_sem]
  have k5 : W.cell? ⟨w.heap.size + 5, 0, none⟩ = some (.pointer none) := by rw [hW]; simp [go_sem]
  have f5 : W.frozen? ⟨w.heap.size + 5, 0, none⟩ = false := by rw [hW]; simp [go_sem]
  have hu1 := cell_stay hu (hbW.block _ hl)
  have hf1 := fro_stay hf (hbW.block _ hl)
  have HW := hide hW
  clear hW
  go_upto_region 3 with fail
  obtain ⟨V, hV⟩ : ∃ V, V = W.setCell ⟨ab, ao, none⟩ (.int .i64 x) := ⟨_, rfl⟩
  rw [← hV]
  have hw : Wr1 W ab ao (.int .i64 x) V := by rw [hV]; exact Wr1.mk0 (by rw [hu1]; rfl)
  have k4 := cell_stay k4 (hw.heap _ (by omega))
  have k4' := cell_stay k4' (hw.heap _ (by omega))
  have f40 := fro_stay (f4 0) (hw.heap _ (by omega))
  have f41 := fro_stay (f4 1) (hw.heap _ (by omega))
  have HT := hide (show OfferT V w.heap.size (w.heap.size + 5) (w.heap.size + 1) (w.heap.size + 2) (w.heap.size + 3) b ab ao none who x from ⟨cell_stay k0 (hw.heap _ (by omega)), cell_stay k5 (hw.heap _ (by omega)), fro_stay f5 (hw.heap _ (by omega)), cell_stay k1 (hw.heap _ (by omega)), cell_stay k2 (hw.heap _ (by omega)), cell_stay k3 (hw.heap _ (by omega))⟩)
  have HWN := hide (WrN.of hbW hl hw)
  clear hV hbW hw k0 k1 k2 k3 k5 f5 f4 hu1 ha
  go_wp2
  refine bodyPost_ret (v := offerV w.heap.size (w.heap.size + 5) (w.heap.size + 1) (w.heap.size + 2) (w.heap.size + 3)) (by simp [results, Try.f58, go_sem, offerV, k4, k4']) rfl ⟨rfl, HT.out.stays ?_ ?_ ?_ ?_ ?_, ?_⟩
  · exact (heap_setCell_other _ _ _ _ (show w.heap.size ≠ w.heap.size + 1 + 1 + 1 + 1 by omega)).trans (heap_setCell_other _ _ _ _ (show w.heap.size ≠ w.heap.size + 1 + 1 + 1 + 1 by omega))
  · exact (heap_setCell_other _ _ _ _ (show w.heap.size + 5 ≠ w.heap.size + 1 + 1 + 1 + 1 by omega)).trans (heap_setCell_other _ _ _ _ (show w.heap.size + 5 ≠ w.heap.size + 1 + 1 + 1 + 1 by omega))
  · exact (heap_setCell_other _ _ _ _ (show w.heap.size + 1 ≠ w.heap.size + 1 + 1 + 1 + 1 by omega)).trans (heap_setCell_other _ _ _ _ (show w.heap.size + 1 ≠ w.heap.size + 1 + 1 + 1 + 1 by omega))
  · exact (heap_setCell_other _ _ _ _ (show w.heap.size + 2 ≠ w.heap.size + 1 + 1 + 1 + 1 by omega)).trans (heap_setCell_other _ _ _ _ (show w.heap.size + 2 ≠ w.heap.size + 1 + 1 + 1 + 1 by omega))
  · exact (heap_setCell_other _ _ _ _ (show w.heap.size + 3 ≠ w.heap.size + 1 + 1 + 1 + 1 by omega)).trans (heap_setCell_other _ _ _ _ (show w.heap.size + 3 ≠ w.heap.size + 1 + 1 + 1 + 1 by omega))
  · have q := HWN.out
    have hk : ∀ k, k < w.heap.size → k ≠ w.heap.size + 1 + 1 + 1 + 1 := fun k hk => by omega
    refine ⟨q.os, q.tape, q.output, by rw [World.size_setCell, World.size_setCell]; exact q.size, fun k hk2 hne => ((heap_setCell_other _ _ _ _ (hk k hk2)).trans (heap_setCell_other _ _ _ _ (hk k hk2))).trans (q.heap k hk2 hne), ?_, fun p hp => ?_, fun p => ?_⟩
    · exact cell_stay (cell_stay q.at_ (heap_setCell_other _ _ _ _ (hk _ hl))) (heap_setCell_other _ _ _ _ (hk _ hl))
    · exact ((World.cell?_of_block (a := ⟨ab, p, none⟩) (heap_setCell_other _ _ _ _ (hk _ hl))).trans (World.cell?_of_block (a := ⟨ab, p, none⟩) (heap_setCell_other _ _ _ _ (hk _ hl)))).trans (q.oth p hp)
    · exact ((World.frozen?_of_block (a := ⟨ab, p, none⟩) (heap_setCell_other _ _ _ _ (hk _ hl))).trans (World.frozen?_of_block (a := ⟨ab, p, none⟩) (heap_setCell_other _ _ _ _ (hk _ hl)))).trans (q.fro p)
/-- is there nothing to be done? -/
def idleB (o : Option (Int × Int)) (who x : Int) : Bool := match o with
  | none => false
  | some (w2, x2) => decide (x < x2) || (decide (x = x2) && decide (w2 ≤ who))
set_option maxRecDepth 100000 in
set_option maxHeartbeats 1000000 in
theorem offer_look (bb bs bw bx ba b bc ab ao : Nat) (p q : Option Addr) (o : Option (Int × Int)) (who x : Int) (w : World) (hT : OfferT w bb bs bw bx ba b ab ao p who x) (hm : BestIs w b bc q o) (n1 : bs ≠ bx) (n2 : bs ≠ bw) (n3 : ∀ k, q = some ⟨k, 0, none⟩ → bs ≠ k) :
    Calls Try.prog 96 #[.pointer (some ⟨bb, 0, none⟩), .pointer (some ⟨bs, 0, none⟩), .pointer (some ⟨bx, 0, none⟩), .pointer (some ⟨bw, 0, none⟩)] w fun e w' => e = .returned (.bool (idleB o who x)) ∧ Wr1 w bs 0 (.pointer q) w' := by
  have t0 := hT.b
  have t1 := hT.s
  have f1 := hT.sf
  have t2 := hT.x
  have t3 := hT.wh
  have m0 := hm.c
  have C := hide (PLoad bc q w hm.v (.of hm.o))
  have HW := hide (Wr1.mk0 (u := .pointer q) (by rw [hT.s]; rfl : (w.cell? ⟨bs, 0, none⟩).isSome = true))
  have HO := hide hm.o
  clear hT hm
  go_enter Try.func96, Try.ntmps96
  go_wp2_with fail
  refine C.out.mono ?_
  rintro e w1 ⟨rfl, rfl⟩
  go_upto_region 2 with fail
  obtain ⟨W, hW⟩ : ∃ W, W = w.setCell ⟨bs, 0, none⟩ (.pointer q) := ⟨_, rfl⟩
  rw [← hW]
  have hw := HW.out
  rw [← hW] at hw
  have t2 := cell_stay t2 (hw.heap _ (Ne.symm n1))
  have t3 := cell_stay t3 (hw.heap _ (Ne.symm n2))
  have ca := hw.at_
  have HWW := hide hw
  clear hW hw t0 t1 f1 m0
  cases o with
  | none =>
    obtain rfl : q = none := HO.out
    go_quiet (fail)
    go_wp2
    go_ret
    exact ⟨rfl, HWW.out.drew _⟩
  | some z =>
    obtain ⟨w2, x2⟩ := z
    obtain ⟨k, rfl, hk⟩ := HO.out
    obtain ⟨c0, c1⟩ := hk.cell
    have c0 := cell_stay c0 (HWW.out.heap _ (Ne.symm (n3 k rfl)))
    have c1 := cell_stay c1 (HWW.out.heap _ (Ne.symm (n3 k rfl)))
    clear hk n3
    by_cases h1 : x < x2
    · have e : idleB (some (w2, x2)) who x = true := by simp [idleB, h1]
      have d1 : decide (x < x2) = true := by simp [h1]
      have HE := hide e
      clear e
      go_quiet (fail)
      go_wp2
      go_ret
      exact ⟨by (rw [HE.out]; first | rfl | (simp [*]; done)), HWW.out.drew _⟩
    · have d1 : decide (x < x2) = false := by simp [h1]
      by_cases h2 : x = x2
      · have d2 : decide (x = x2) = true := by simp [h2]
        have d3 : (x == x2) = true := by simp [h2]
        by_cases h3 : w2 ≤ who
        · have e : idleB (some (w2, x2)) who x = true := by simp [idleB, h2, h3]
          have d4 : decide (w2 ≤ who) = true := by simp [h3]
          have HE := hide e
          clear e h1 h2 h3
          go_quiet (fail)
          go_wp2
          go_ret
          exact ⟨by (rw [HE.out]; first | rfl | (simp [*]; done)), HWW.out.drew _⟩
        · have e : idleB (some (w2, x2)) who x = false := by simp [idleB, h2, h3]
          have d4 : decide (w2 ≤ who) = false := by simp [h3]
          have HE := hide e
          clear e h1 h2 h3
          go_quiet (fail)
          go_wp2
          go_ret
          exact ⟨by (rw [HE.out]; first | rfl | (simp [*]; done)), HWW.out.drew _⟩
      · have e : idleB (some (w2, x2)) who x = false := by simp [idleB, h1, h2]
        have d2 : decide (x = x2) = false := by simp [h2]
        have d3 : (x == x2) = false := by simp [h2]
        have HE := hide e
        clear e h1 h2
        go_quiet (fail)
        go_wp2
        go_ret
        exact ⟨by (rw [HE.out]; first | rfl | (simp [*]; done)), HWW.out.drew _⟩
end Go.Proofs.Ytimabgakemgldaa
