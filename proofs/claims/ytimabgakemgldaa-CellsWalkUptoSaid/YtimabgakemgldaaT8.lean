import Derived.Test.YtimabgakemgldaaT7
import Derived.Laws.LoneSync
import Derived.WalkKit
import Derived.StillTailTactics
import Derived.Deep.RegionLaw
import Derived.Deep.RegionHeld3
import Derived.Laws.OwnMore
import Derived.Deep.Matrix
import Derived.BigQuiet
import Derived.Deep.QuietTactic
import Derived.Laws.EntriesVeiled
namespace Go.Proofs.Ytimabgakemgldaa
open Go.ChangeShapes Go.WideShapes Go.ChangeAt Go.RowKit Go.Deep
set_option linter.unusedSimpArgs false
set_option linter.unusedVariables false

theorem OfferAt.made (w : World) (who x : Int) : OfferAt (w.alloc (.cells #[.int .i64 who, .int .i64 x] 154)) w.heap.size who x := by show (w.heap.push _)[w.heap.size]? = _; simp
/-- the best's pointer set to a new offer -/
structure PutR (w : World) (bc : Nat) (who x : Int) (w' : World) : Prop where
  wr : WrN w bc 0 (.pointer (some ⟨w.heap.size, 0, none⟩)) w'
  at_ : OfferAt w' w.heap.size who x
set_option maxRecDepth 100000 in
set_option maxHeartbeats 1000000 in
theorem offer_hit (bb bs bw bx ba b bc ab ao : Nat) (p : Option Addr) (o : Option (Int × Int)) (who x : Int) (w : World) (hT : OfferT w bb bs bw bx ba b ab ao p who x) (hm : BestIs w b bc p o) (hy : (w.cell? ⟨ab, ao + 1, none⟩).isSome = true) (hf : w.frozen? ⟨ab, ao + 1, none⟩ = false) (n1 : bc ≠ ba) (n2 : ab ≠ ba) (n3 : ab ≠ bc) (n4 : bc ≠ bb) (n5 : bc ≠ b) (n6 : bc ≠ bs) (n7 : bc ≠ bw) (n8 : bc ≠ bx) :
    Calls Try.prog 97 #[.pointer (some ⟨bb, 0, none⟩), .pointer (some ⟨bs, 0, none⟩), .pointer (some ⟨bw, 0, none⟩), .pointer (some ⟨bx, 0, none⟩), .pointer (some ⟨ba, 0, none⟩)] w fun e w' => e = .returned (.bool true) ∧ ∃ w1, PutR w bc who x w1 ∧ Wr1 w1 ab (ao + 1) (.bool true) w' := by
  have t0 := hT.a
  have t1 := hT.b
  have t2 := hT.s
  have t3 := hT.wh
  have t4 := hT.x
  have m0 := hm.c
  have hl0 := World.block_lt_of_cell? w _ t0
  have hl1 := World.block_lt_of_cell? w _ t1
  have hl2 := World.block_lt_of_cell? w _ t2
  have hl3 := World.block_lt_of_cell? w _ t3
  have hl4 := World.block_lt_of_cell? w _ t4
  have hl5 := World.block_lt_of_cell? w _ m0
  have hlc := World.block_lt_of_cell? w _ hm.v
  simp only at hl0 hl1 hl2 hl3 hl4 hl5 hlc
  obtain ⟨u, hu⟩ := Option.isSome_iff_exists.1 hy
  have hla := World.block_lt_of_cell? w _ hu
  simp only at hla
  have C := hide (show ∀ W : World, Below w.heap.size w W → OfferAt W w.heap.size who x → Calls Try.prog 98 #[.pointer (some ⟨bc, 0, none⟩), .pointer p, .pointer (some ⟨w.heap.size, 0, none⟩)] W fun e w' => e = .returned (.bool true) ∧ PutR w bc who x w' from fun W hb ho =>
    (PCas_hit bc p (some ⟨w.heap.size, 0, none⟩) W (cell_stay hm.v (hb.block _ hlc)) (fro_stay hm.f (hb.block _ hlc)) (.of (hm.o.stays fun k e => hb.block _ (hm.o.lt e))) ⟨_, _, _, rfl, ho⟩).mono fun e w' q => ⟨q.1, by rw [q.2]; exact ⟨.of hb hlc (.mk0 (by rw [cell_stay hm.v (hb.block _ hlc)]; rfl)), ho.stays (heap_setCell_other _ _ _ _ (show w.heap.size ≠ bc by omega))⟩⟩)
  clear hT hm hy
  go_enter Try.func97, Try.ntmps97
  go_wp2_with fail
  go_region_held3 (fun w' => w'.cell? ⟨ba, 0, none⟩ = some (.pointer (some ⟨ab, ao, none⟩)) ∧ w'.cell? ⟨bb, 0, none⟩ = some (.pointer (some ⟨b, 0, none⟩)) ∧ w'.cell? ⟨b, 0, none⟩ = some (.pointer (some ⟨bc, 0, none⟩)) ∧ w'.cell? ⟨bs, 0, none⟩ = some (.pointer p) ∧ w'.cell? ⟨bw, 0, none⟩ = some (.int .i64 who) ∧ w'.cell? ⟨bx, 0, none⟩ = some (.int .i64 x))
    (((try go_split_ands); refine ⟨?_, ?_, ?_, ?_, ?_, ?_⟩; (focus (first | (with_reducible assumption) | (simp [go_sem, *]; done))); (focus (first | (with_reducible assumption) | (simp [go_sem, *]; done))); (focus (first | (with_reducible assumption) | (simp [go_sem, *]; done))); (focus (first | (with_reducible assumption) | (simp [go_sem, *]; done))); (focus (first | (with_reducible assumption) | (simp [go_sem, *]; done))); (focus (first | (with_reducible assumption) | (simp [go_sem, *]; done)))))
    (first | (go_at_call 98; (apply Calls.mono; focus (exact C.out _ (by (focus repeat' (first | (with_reducible exact Below.refl _ _) | (with_reducible assumption) | (with_reducible refine Below.alloc ?_ ?_ _) | (with_reducible refine Below.drew ?_) | (with_reducible refine bdrewN ?_ _) | (with_reducible refine Below.setCell ?_ ?_ _) | (first | (with_reducible exact Nat.le_refl _) | (with_reducible assumption) | omega | (simp; omega) | (simp; done))))) ((OfferAt.made w who x).stays rfl))); rintro e w1 ⟨rfl, hw1⟩; have H1 := hide hw1; have t01 := cell_stay t0 (hw1.wr.heap _ hl0 (Ne.symm n1)); have t11 := cell_stay t1 (hw1.wr.heap _ hl1 (Ne.symm n4)); have t21 := cell_stay t2 (hw1.wr.heap _ hl2 (Ne.symm n6)); have t31 := cell_stay t3 (hw1.wr.heap _ hl3 (Ne.symm n7)); have t41 := cell_stay t4 (hw1.wr.heap _ hl4 (Ne.symm n8)); have m01 := cell_stay m0 (hw1.wr.heap _ hl5 (Ne.symm n5)); have hu1 := cell_stay hu (hw1.wr.heap _ hla n3); have hf1 := fro_stay hf (hw1.wr.heap _ hla n3); clear hw1))
  all_goals
    obtain ⟨W, hW⟩ : ∃ W, W = w1.setCell ⟨ab, ao + 1, none⟩ (.bool true) := ⟨_, rfl⟩
    rw [← hW]
    have hw : Wr1 w1 ab (ao + 1) (.bool true) W := by rw [hW]; exact Wr1.mk0 (by rw [hu1]; rfl)
    have t0 := cell_stay t01 (hw.heap _ (Ne.symm n2))
    have ca := hw.at_
    have HWW := hide hw
    clear hW hw
    go_wp2
    go_ret
    exact ⟨rfl, w1, H1.out, HWW.out⟩
set_option maxRecDepth 100000 in
set_option maxHeartbeats 1000000 in
theorem offer_miss (bb bs bw bx ba b bc ab ao : Nat) (p q : Option Addr) (o : Option (Int × Int)) (who x : Int) (w : World) (hT : OfferT w bb bs bw bx ba b ab ao q who x) (hm : BestIs w b bc p o) (hq : PtrOk w q) (hy : (w.cell? ⟨ab, ao + 1, none⟩).isSome = true) (hf : w.frozen? ⟨ab, ao + 1, none⟩ = false) (n2 : ab ≠ ba) (hne : p ≠ q) :
    Calls Try.prog 97 #[.pointer (some ⟨bb, 0, none⟩), .pointer (some ⟨bs, 0, none⟩), .pointer (some ⟨bw, 0, none⟩), .pointer (some ⟨bx, 0, none⟩), .pointer (some ⟨ba, 0, none⟩)] w fun e w' => e = .returned (.bool false) ∧ ∃ w1, Below w.heap.size w w1 ∧ Wr1 w1 ab (ao + 1) (.bool false) w' := by
  have t0 := hT.a
  have t1 := hT.b
  have t2 := hT.s
  have t3 := hT.wh
  have t4 := hT.x
  have m0 := hm.c
  have hl0 := World.block_lt_of_cell? w _ t0
  have hl1 := World.block_lt_of_cell? w _ t1
  have hl2 := World.block_lt_of_cell? w _ t2
  have hl3 := World.block_lt_of_cell? w _ t3
  have hl4 := World.block_lt_of_cell? w _ t4
  have hl5 := World.block_lt_of_cell? w _ m0
  have hlc := World.block_lt_of_cell? w _ hm.v
  simp only at hl0 hl1 hl2 hl3 hl4 hl5 hlc
  obtain ⟨u, hu⟩ := Option.isSome_iff_exists.1 hy
  have hla := World.block_lt_of_cell? w _ hu
  simp only at hla
  have C := hide (show ∀ W : World, Below w.heap.size w W → OfferAt W w.heap.size who x → Calls Try.prog 98 #[.pointer (some ⟨bc, 0, none⟩), .pointer q, .pointer (some ⟨w.heap.size, 0, none⟩)] W fun e w' => e = .returned (.bool false) ∧ Below w.heap.size w w' from fun W hb ho =>
    (PCas_miss bc p q (some ⟨w.heap.size, 0, none⟩) W (cell_stay hm.v (hb.block _ hlc)) (fro_stay hm.f (hb.block _ hlc)) (.of (hm.o.stays fun k e => hb.block _ (hm.o.lt e))) (by
      cases q with
      | none => trivial
      | some a => obtain ⟨k, w2, x2, rfl, h2⟩ := hq; exact ⟨k, w2, x2, rfl, h2.stays (hb.block _ (Array.getElem?_eq_some_iff.1 h2).1)⟩) ⟨_, _, _, rfl, ho⟩ hne).mono fun e w' q => ⟨q.1, by rw [← q.2]; exact hb⟩)
  clear hT hm hy hq hne
  go_enter Try.func97, Try.ntmps97
  go_wp2_with fail
  go_region_held3 (fun w' => w'.cell? ⟨ba, 0, none⟩ = some (.pointer (some ⟨ab, ao, none⟩)) ∧ w'.cell? ⟨bb, 0, none⟩ = some (.pointer (some ⟨b, 0, none⟩)) ∧ w'.cell? ⟨b, 0, none⟩ = some (.pointer (some ⟨bc, 0, none⟩)) ∧ w'.cell? ⟨bs, 0, none⟩ = some (.pointer q) ∧ w'.cell? ⟨bw, 0, none⟩ = some (.int .i64 who) ∧ w'.cell? ⟨bx, 0, none⟩ = some (.int .i64 x))
    (((try go_split_ands); refine ⟨?_, ?_, ?_, ?_, ?_, ?_⟩; (focus (first | (with_reducible assumption) | (simp [go_sem, *]; done))); (focus (first | (with_reducible assumption) | (simp [go_sem, *]; done))); (focus (first | (with_reducible assumption) | (simp [go_sem, *]; done))); (focus (first | (with_reducible assumption) | (simp [go_sem, *]; done))); (focus (first | (with_reducible assumption) | (simp [go_sem, *]; done))); (focus (first | (with_reducible assumption) | (simp [go_sem, *]; done)))))
    (first | (go_at_call 98; (apply Calls.mono; focus (exact C.out _ (by (focus repeat' (first | (with_reducible exact Below.refl _ _) | (with_reducible assumption) | (with_reducible refine Below.alloc ?_ ?_ _) | (with_reducible refine Below.drew ?_) | (with_reducible refine bdrewN ?_ _) | (with_reducible refine Below.setCell ?_ ?_ _) | (first | (with_reducible exact Nat.le_refl _) | (with_reducible assumption) | omega | (simp; omega) | (simp; done))))) ((OfferAt.made w who x).stays rfl))); rintro e w1 ⟨rfl, hw1⟩; have H1 := hide hw1; have t01 := cell_stay t0 (hw1.block _ hl0); have t11 := cell_stay t1 (hw1.block _ hl1); have t21 := cell_stay t2 (hw1.block _ hl2); have t31 := cell_stay t3 (hw1.block _ hl3); have t41 := cell_stay t4 (hw1.block _ hl4); have m01 := cell_stay m0 (hw1.block _ hl5); have hu1 := cell_stay hu (hw1.block _ hla); have hf1 := fro_stay hf (hw1.block _ hla); clear hw1))
  all_goals
    obtain ⟨W, hW⟩ : ∃ W, W = w1.setCell ⟨ab, ao + 1, none⟩ (.bool false) := ⟨_, rfl⟩
    rw [← hW]
    have hw : Wr1 w1 ab (ao + 1) (.bool false) W := by rw [hW]; exact Wr1.mk0 (by rw [hu1]; rfl)
    have t0 := cell_stay t01 (hw.heap _ (Ne.symm n2))
    have ca := hw.at_
    have HWW := hide hw
    clear hW hw
    go_wp2
    go_ret
    exact ⟨rfl, w1, H1.out, HWW.out⟩
end Go.Proofs.Ytimabgakemgldaa
