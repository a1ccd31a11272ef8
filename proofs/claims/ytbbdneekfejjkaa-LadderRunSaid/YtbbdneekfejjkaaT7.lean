import Derived.Test.YtbbdneekfejjkaaT6
namespace Go.Proofs.Ytbbdneekfejjkaa
open Go.ChangeShapes Go.WideShapes Go.ChangeAt Go.RowKit
set_option linter.unusedSimpArgs false
set_option linter.unusedVariables false

def nLd (ld li bd bl : Int) : Int := if ld < 0 then bd else if ld = bd then bd else if li < bl then bd else ld
def nLi (ld li bd bl : Int) : Int := if ld < 0 then bl else if ld = bd then bl else if li < bl then bl else li
def nPr (st sp ld li pr bd bl : Int) : Int := if ld < 0 then st else if ld = bd then pr else if li < bl then min (li + sp) bl else min (bl + sp) li
def nCl (ex la rc bn : Int) : Int := if rc - bn < ex then min (bn + ex) la else rc

theorem goodBid (k op cl st sp ex la fl fa co ru ld li pr rc bd bl bf bn : Int) (h : LotOK k op cl st sp ex la fl fa co ru) (hr : RiseOK st cl la ld li pr rc) (he : bidErr op st sp ld li pr rc bd bl bf bn = 0) :
    0 ≤ bd ∧ 0 ≤ bl ∧ bl ≤ 1099511627776 ∧ 0 ≤ bf ∧ 0 ≤ bn ∧ bn ≤ 1099511627776 ∧ op ≤ bn ∧ bn < rc ∧ rc ≤ 1099511627776 ∧ 0 ≤ ex ∧ ex ≤ 1099511627776 ∧ 0 ≤ la ∧ la ≤ 1099511627776 ∧ 0 ≤ rc := by
  unfold bidErr at he
  by_cases a : bd < 0 ∨ bl < 0 ∨ 1099511627776 < bl ∨ bf < 0 ∨ bn < 0 ∨ 1099511627776 < bn
  · rw [if_pos a] at he; omega
  · rw [if_neg a] at he
    by_cases b : bn < op ∨ rc ≤ bn
    · rw [if_pos b] at he; omega
    · unfold LotOK at h
      unfold RiseOK at hr
      omega

set_option maxHeartbeats 1000000 in
theorem broken_good (k op cl st sp ex la fl fa co ru ld li pr rc bd bl bf bn : Int) (w : World) (h : LotOK k op cl st sp ex la fl fa co ru) (hr : RiseOK st cl la ld li pr rc) (hf : bf ≤ 9223372036854775807) (he : bidErr op st sp ld li pr rc bd bl bf bn = 0) : Calls Try.prog 24 #[.agg #[.int .i64 k, .int .i64 op, .int .i64 cl, .int .i64 st, .int .i64 sp, .int .i64 ex, .int .i64 la, .int .i64 fl, .int .i64 fa, .int .i64 co, .int .i64 ru], .agg #[.int .i64 ld, .int .i64 li, .int .i64 pr, .int .i64 rc], .agg #[.int .i64 bd, .int .i64 bl, .int .i64 bf, .int .i64 bn]] w fun e w' => e = .returned (.int .i64 0) ∧ Below w.heap.size w w' := by
  exact (broken_ok k op cl st sp ex la fl fa co ru ld li pr rc bd bl bf bn w h hr hf).mono fun _ _ ⟨a, b⟩ => ⟨by rw [a, he], b⟩

set_option maxHeartbeats 1000000 in
theorem Bid_no (k op cl st sp ex la fl fa co ru ld li pr rc bd bl bf bn : Int) (w : World) (h : ¬ (LotOK k op cl st sp ex la fl fa co ru ∧ RiseOK st cl la ld li pr rc)) : Calls Try.prog 9 #[.agg #[.int .i64 k, .int .i64 op, .int .i64 cl, .int .i64 st, .int .i64 sp, .int .i64 ex, .int .i64 la, .int .i64 fl, .int .i64 fa, .int .i64 co, .int .i64 ru], .agg #[.int .i64 ld, .int .i64 li, .int .i64 pr, .int .i64 rc], .agg #[.int .i64 bd, .int .i64 bl, .int .i64 bf, .int .i64 bn]] w fun e w' => e = .returned (.tuple #[.agg #[.int .i64 0, .int .i64 0, .int .i64 0, .int .i64 0], .int .i64 2]) ∧ Below w.heap.size w w' := by
  go_enter Try.func9, Try.ntmps9
  go_wp2_with fail
  (apply Calls.mono; focus ((apply broken_no <;> (first | (with_reducible assumption) | (with_reducible rfl) | omega)); done)); rintro e w1 ⟨rfl, hb1⟩
  have B1 : Below w.heap.size w w1 := (((((Below.refl w.heap.size w).alloc (Nat.le_refl _) _).alloc (by (first | (with_reducible exact Nat.le_refl _) | (with_reducible assumption) | omega | (simp only [World.size_alloc, World.size_setCell, World.size_drew]; omega) | (simp; omega) | (simp; done))) _).alloc (by (first | (with_reducible exact Nat.le_refl _) | (with_reducible assumption) | omega | (simp only [World.size_alloc, World.size_setCell, World.size_drew]; omega) | (simp; omega) | (simp; done))) _).alloc (by (first | (with_reducible exact Nat.le_refl _) | (with_reducible assumption) | omega | (simp only [World.size_alloc, World.size_setCell, World.size_drew]; omega) | (simp; omega) | (simp; done))) _).trans (hb1.mono (by simp; omega))
  have hz1_3 : w.heap.size + 3 < w1.heap.size := by have := hb1.size; simp at this; omega
  have hz1_2 : w.heap.size + 2 < w1.heap.size := by have := hb1.size; simp at this; omega
  have hz1_1 : w.heap.size + 1 < w1.heap.size := by have := hb1.size; simp at this; omega
  have hz1_0 : w.heap.size < w1.heap.size := by have := hb1.size; simp at this; omega
  obtain ⟨hc1, hf1⟩ := bcell hb1
  clear hb1
  go_wp2
  refine bodyPost_ret (v := .tuple #[.agg #[.int .i64 0, .int .i64 0, .int .i64 0, .int .i64 0], .int .i64 2]) (by simp [results, Try.results9, go_sem, *]) rfl ⟨rfl, by (repeat' (first | (with_reducible exact Below.refl _ _) | (with_reducible assumption) | (with_reducible refine Below.alloc ?_ ?_ _) | (with_reducible refine Below.drew ?_) | (with_reducible refine Below.setCell ?_ ?_ _) | (first | (with_reducible exact Nat.le_refl _) | (with_reducible assumption) | omega | (simp only [World.size_alloc, World.size_setCell, World.size_drew]; omega) | (simp; omega) | (simp; done))))⟩

set_option maxHeartbeats 1000000 in
theorem Bid_bad (k op cl st sp ex la fl fa co ru ld li pr rc bd bl bf bn : Int) (w : World) (h : LotOK k op cl st sp ex la fl fa co ru) (hr : RiseOK st cl la ld li pr rc) (hf : bf ≤ 9223372036854775807) (he : bidErr op st sp ld li pr rc bd bl bf bn ≠ 0) : Calls Try.prog 9 #[.agg #[.int .i64 k, .int .i64 op, .int .i64 cl, .int .i64 st, .int .i64 sp, .int .i64 ex, .int .i64 la, .int .i64 fl, .int .i64 fa, .int .i64 co, .int .i64 ru], .agg #[.int .i64 ld, .int .i64 li, .int .i64 pr, .int .i64 rc], .agg #[.int .i64 bd, .int .i64 bl, .int .i64 bf, .int .i64 bn]] w fun e w' => e = .returned (.tuple #[.agg #[.int .i64 0, .int .i64 0, .int .i64 0, .int .i64 0], .int .i64 (bidErr op st sp ld li pr rc bd bl bf bn)]) ∧ Below w.heap.size w w' := by
  have he2 : (bidErr op st sp ld li pr rc bd bl bf bn != 0) = true := by rw [bne_iff_ne]; exact he
  have he3 : (bidErr op st sp ld li pr rc bd bl bf bn == 0) = false := by rw [beq_eq_false_iff_ne]; exact he
  clear he
  go_enter Try.func9, Try.ntmps9
  go_wp2_with fail
  (apply Calls.mono; focus ((apply broken_ok <;> (first | (with_reducible assumption) | (with_reducible rfl) | omega)); done)); rintro e w1 ⟨rfl, hb1⟩
  have B1 : Below w.heap.size w w1 := (((((Below.refl w.heap.size w).alloc (Nat.le_refl _) _).alloc (by (first | (with_reducible exact Nat.le_refl _) | (with_reducible assumption) | omega | (simp only [World.size_alloc, World.size_setCell, World.size_drew]; omega) | (simp; omega) | (simp; done))) _).alloc (by (first | (with_reducible exact Nat.le_refl _) | (with_reducible assumption) | omega | (simp only [World.size_alloc, World.size_setCell, World.size_drew]; omega) | (simp; omega) | (simp; done))) _).alloc (by (first | (with_reducible exact Nat.le_refl _) | (with_reducible assumption) | omega | (simp only [World.size_alloc, World.size_setCell, World.size_drew]; omega) | (simp; omega) | (simp; done))) _).trans (hb1.mono (by simp; omega))
  have hz1_3 : w.heap.size + 3 < w1.heap.size := by have := hb1.size; simp at this; omega
  have hz1_2 : w.heap.size + 2 < w1.heap.size := by have := hb1.size; simp at this; omega
  have hz1_1 : w.heap.size + 1 < w1.heap.size := by have := hb1.size; simp at this; omega
  have hz1_0 : w.heap.size < w1.heap.size := by have := hb1.size; simp at this; omega
  obtain ⟨hc1, hf1⟩ := bcell hb1
  clear hb1
  go_wp2
  refine bodyPost_ret (v := .tuple #[.agg #[.int .i64 0, .int .i64 0, .int .i64 0, .int .i64 0], .int .i64 (bidErr op st sp ld li pr rc bd bl bf bn)]) (by simp [results, Try.results9, go_sem, *]) rfl ⟨rfl, by (repeat' (first | (with_reducible exact Below.refl _ _) | (with_reducible assumption) | (with_reducible refine Below.alloc ?_ ?_ _) | (with_reducible refine Below.drew ?_) | (with_reducible refine Below.setCell ?_ ?_ _) | (first | (with_reducible exact Nat.le_refl _) | (with_reducible assumption) | omega | (simp only [World.size_alloc, World.size_setCell, World.size_drew]; omega) | (simp; omega) | (simp; done))))⟩
end Go.Proofs.Ytbbdneekfejjkaa
