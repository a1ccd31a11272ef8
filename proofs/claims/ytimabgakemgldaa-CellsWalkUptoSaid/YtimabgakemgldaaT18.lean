import Derived.Test.YtimabgakemgldaaT17
import Derived.Laws.LoneSync
import Derived.WalkKit
import Derived.StillTailTactics
import Derived.Deep.RegionLaw
import Derived.Deep.RegionHeld3
import Derived.Laws.OwnMore
import Derived.Deep.Matrix
import Derived.BigQuiet
import Derived.Deep.QuietTactic
import Derived.Laws.EntriesVeiled
namespace Go.Proofs.Ytimabgakemgldaa
open Go.ChangeShapes Go.WideShapes Go.ChangeAt Go.RowKit Go.Deep
set_option linter.unusedSimpArgs false
set_option linter.unusedVariables false

set_option maxHeartbeats 2000000 in
theorem REnd_c (r rs : Nat) (A : Ab) (w : World) (h : RObj w r rs A) (hS : A.S.length ≤ 64) : Calls Try.prog 20 #[.pointer (some ⟨r, 0, none⟩)] w fun e w' => e = .returned (endV A) ∧ Below w.heap.size w w' := by
  obtain ⟨W, hW⟩ : ∃ W, W = w.alloc (.cells #[.int .i64 0, .int .i64 0, .int .i64 0, .int .i64 0, .bool false, .int .i64 0, .bool false, .int .i64 0] 63) := ⟨_, rfl⟩
  have hb : Below w.heap.size w W := by rw [hW]; (focus repeat' (first | (with_reducible exact Below.refl _ _) | (with_reducible assumption) | (with_reducible refine Below.alloc ?_ ?_ _) | (with_reducible refine Below.drew ?_) | (with_reducible refine bdrewN ?_ _) | (with_reducible refine Below.setCell ?_ ?_ _) | (first | (with_reducible exact Nat.le_refl _) | (with_reducible assumption) | omega | (simp; omega) | (simp; done))))
  have H := hide (h.below hb)
  have l1 := h.lt.1
  have l2 := h.lt.2
  have b0 : W.cell? ⟨w.heap.size, 0, none⟩ = some (.int .i64 0) := by rw [hW]; simp [go_sem]
  have l0 := World.block_lt_of_cell? W _ b0
  simp only at l0
  have d := hide (show ∀ o, o < 8 → (W.cell? ⟨w.heap.size, o, none⟩).isSome = true by intro o ho; rw [hW]; simp [go_sem]; omega)
  have df := hide (show ∀ o, W.frozen? ⟨w.heap.size, o, none⟩ = false by rw [hW]; exact fun o => by simp [go_sem])
  have c0 := H.out.c0
  have HW := hide hW
  clear h hW b0
  go_enter Try.func20, Try.ntmps20
  go_upto_region 2 with fail
  rw [← HW.out]
  go_wp2
  go_loopw [3, 4] (fun v3 v4 wr => ∃ j : Nat, j ≤ A.S.length ∧ v4 = .int .i64 (j : Int) ∧ v3 = .int .i64 (sumI (A.S.take j)) ∧ wr = W) (fun _ v4 _ => A.S.length - (intOf v4).toNat)
  case atStart => exact ⟨0, Nat.zero_le _, rfl, rfl, rfl⟩
  case round =>
    obtain ⟨j, hj, rfl, rfl, rfl⟩ := hrel
    have hk0 : (0 : Int) ≤ (j : Int) := by omega
    have hk9 : (j : Int) < 1000 := by omega
    by_cases hlt : j < A.S.length
    · have hlt' : (j : Int) < (A.S.length : Int) := by omega
      have hlt2 : ¬ (A.S.length : Int) ≤ (j : Int) := by omega
      have ST := hide (sumI_take A.S hlt)
      obtain ⟨z, hz⟩ : ∃ z, z = A.S.getD j 0 := ⟨_, rfl⟩
      obtain ⟨s, hs⟩ : ∃ s, s = sumI (A.S.take j) := ⟨_, rfl⟩
      have cz : wr.cell? ⟨rs, j, none⟩ = some (.int .i64 z) := by rw [H.out.row.cellAt j (by omega), hz]; exact ints_at hlt
      rw [← hz, ← hs] at ST
      rw [← hs]
      clear hz hs
      go_wp2
      go_roundw
      case rel => exact ⟨j + 1, by omega, by go_num, by rw [ST.out], by first | rfl | trivial⟩
      case measure => (first | (simp [intOf]; done) | (simp [intOf]; omega))
    · obtain rfl : j = A.S.length := by omega
      rw [List.take_length]
      obtain ⟨s, hs⟩ : ∃ s, s = sumI A.S := ⟨_, rfl⟩
      rw [← hs]
      have HS := hide hs
      have c1 := H.out.c1
      have c2 := H.out.c2
      have c3 := H.out.c3
      have c4 := H.out.c4
      have c5 := H.out.c5
      have c6 := H.out.c6
      have c7 := H.out.c7
      obtain ⟨d0, hd0⟩ := Option.isSome_iff_exists.1 (d.out 0 (by decide))
      obtain ⟨d1, hd1⟩ := Option.isSome_iff_exists.1 (d.out 1 (by decide))
      obtain ⟨d2, hd2⟩ := Option.isSome_iff_exists.1 (d.out 2 (by decide))
      obtain ⟨d3, hd3⟩ := Option.isSome_iff_exists.1 (d.out 3 (by decide))
      obtain ⟨d4, hd4⟩ := Option.isSome_iff_exists.1 (d.out 4 (by decide))
      obtain ⟨d5, hd5⟩ := Option.isSome_iff_exists.1 (d.out 5 (by decide))
      obtain ⟨d6, hd6⟩ := Option.isSome_iff_exists.1 (d.out 6 (by decide))
      obtain ⟨d7, hd7⟩ := Option.isSome_iff_exists.1 (d.out 7 (by decide))
      have df0 := df.out 0
      have df1 := df.out 1
      have df2 := df.out 2
      have df3 := df.out 3
      have df4 := df.out 4
      have df5 := df.out 5
      have df6 := df.out 6
      have df7 := df.out 7
      have n1 : w.heap.size ≠ r := by omega
      clear hs
      go_wp2_with fail
      go_region
      go_wp2
      refine bodyPost_ret (v := endV A) (by simp [results, Try.f20, go_sem, endV, HS.out, *]) rfl ⟨rfl, ?_⟩
      exact ((((((((hb.setCell (p := ⟨w.heap.size, 0, none⟩) (Nat.le_refl _) _).setCell (p := ⟨w.heap.size, 1, none⟩) (Nat.le_refl _) _).setCell (p := ⟨w.heap.size, 2, none⟩) (Nat.le_refl _) _).setCell (p := ⟨w.heap.size, 3, none⟩) (Nat.le_refl _) _).setCell (p := ⟨w.heap.size, 4, none⟩) (Nat.le_refl _) _).setCell (p := ⟨w.heap.size, 5, none⟩) (Nat.le_refl _) _).setCell (p := ⟨w.heap.size, 6, none⟩) (Nat.le_refl _) _).setCell (p := ⟨w.heap.size, 7, none⟩) (Nat.le_refl _) _).drew
end Go.Proofs.Ytimabgakemgldaa
