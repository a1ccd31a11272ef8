import Derived.Test.YtajkgecegefnmaaT3
namespace Go.Proofs.Ytajkgecegefnmaa
open Go.ChangeShapes Go.WideShapes Go.ChangeAt Go.RowKit Go.Deep
set_option linter.unusedSimpArgs false
set_option linter.unusedVariables false
theorem own_form {w : World} {base : Nat} {e : TypeId} {n : Nat} {v : Value} {xs : List Value} (h : w.ownsRow base e 1 v n xs) (hn : 0 < n) :
    ∃ g cap, v = .slice (some ⟨g, 0, none⟩) n cap ∧ base ≤ g ∧ g < w.heap.size ∧ n ≤ cap ∧ (∀ j, j < n → w.cell? ⟨g, j, none⟩ = xs[j]?) ∧ ∀ j, w.frozen? ⟨g, j, none⟩ = false := by
  obtain ⟨hl, hh⟩ := h
  rcases hh with ⟨_, h0⟩ | ⟨g, cap, cur, rfl, hg, hb, hle, _, hs, ht⟩
  · omega
  · have hlt : g < w.heap.size := by
      rcases Nat.lt_or_ge g w.heap.size with h | h
      · exact h
      · rw [Array.getElem?_eq_none h] at hb; cases hb
    refine ⟨g, cap, rfl, hg, hlt, hle, fun j hj => ?_, fun j => by simp [World.frozen?, hb]⟩
    simp only [World.cell?, hb]
    rw [← ht]
    simp
    rw [List.getElem?_take]
    simp [hj]


theorem heap_new (w : World) (o : Obj) : (w.alloc o).heap[w.heap.size]? = some o := by
  show (w.heap.push o)[w.heap.size]? = some o
  simp
/-- a row of bytes that a call has just made -/
theorem made1 (w : World) (y : Value) : (w.alloc (.cells #[y] 5)).ownsRow 0 5 1 (.slice (some ⟨w.heap.size, 0, none⟩) 1 1) 1 [y] :=
  ⟨rfl, .inr ⟨_, 1, #[y], rfl, Nat.zero_le _, heap_new _ _, by decide, by decide, rfl, rfl⟩⟩
theorem Gr.fresh {w w2 : World} {o : Obj} {n c : Nat} {v' : Value} (h : Gr (w.alloc o) w2 (.slice (some ⟨w.heap.size, 0, none⟩) n c) v') : Below w.heap.size w w2 := by
  obtain ⟨h1, _⟩ := h
  refine ⟨h1.os, h1.tape, h1.output, Nat.le_trans (by simp) h1.size, fun i hi => ?_⟩
  exact (h1.block i (by simp; omega) (by simp [Value.ownBlock]; omega)).trans (Below.heap_alloc w o i hi)
theorem Gr.fresh0 {w w2 : World} {v' : Value} (h : Gr w w2 (.slice none 0 0) v') : Below w.heap.size w w2 := by
  obtain ⟨h1, _⟩ := h
  exact ⟨h1.os, h1.tape, h1.output, h1.size, fun i hi => h1.block i hi (by simp [Value.ownBlock])⟩
theorem row_cells {w : World} {g cap : Nat} {ns : List Nat} (h : ∀ j, j < ns.length → w.cell? ⟨g, j, none⟩ = (ns.map (fun (b : Nat) => Value.int .u8 (b : Int)))[j]?) : ∀ j, j < ns.length → w.cell? ⟨g, 0 + j, none⟩ = some (.int .u8 (ns.getD j 0 : Int)) := fun j hj => by
  rw [Nat.zero_add, h j hj]; simp [List.getD, hj]

set_option maxHeartbeats 2000000 in
theorem Number_c (g : Nat) (v : Value) (bs : List Nat) (x : Nat) (w : World) (hW : WObj w g v bs) (hl : bs.length ≤ 8796093022208) (hx : x < 18446744073709551616) : Calls Try.prog 11 #[.pointer (some ⟨g, 0, none⟩), .int .u64 (x : Int)] w (fun e w' => ∃ v', e = .returned (.int .i64 0) ∧ WObj w' g v' (bs ++ form x) ∧ WKeep g v w w' ∧ Near w v v') := by
  have hmb := many_u64 hx
  have hmp := many_pos x
  by_cases h : x ≤ 247
  · have e : form x = [x] := by unfold form; rw [if_pos h]
    rw [e]
    have h1 : (x : Int) ≤ 247 := by omega
    have HWh := hide hW
    clear hW
    go_enter Try.func11, Try.ntmps11
    go_wp2_with fail
    have hB : Below w.heap.size w (w.alloc (.cells #[.int .u8 (x : Int)] 5)) := by (focus repeat' (first | (with_reducible exact Below.refl _ _) | (with_reducible assumption) | (with_reducible refine Below.alloc ?_ ?_ _) | (with_reducible refine Below.drew ?_) | (with_reducible refine bdrewN ?_ _) | (with_reducible refine Below.setCell ?_ ?_ _) | (first | (with_reducible exact Nat.le_refl _) | (with_reducible assumption) | omega | (simp; omega) | (simp; done))))
    refine (raw_c g v bs [x] w.heap.size 0 1 _ (HWh.out.below hB) (by simp) (by simp; omega) (fun j hj => by
      have hj0 : j = 0 := by simpa using hj
      subst hj0
      simp)).mono ?_
    rintro e w1 ⟨v', rfl, hW1, hk1, hn1⟩
    go_wp2
    go_ret
    have hs : w.heap.size ≤ (w.alloc (.cells #[.int .u8 (x : Int)] 5)).heap.size := by simp
    exact ⟨v', rfl, hW1, (WKeep.of_below hB).trans (.inl rfl) hk1, Near.trans (.inl rfl) hs hn1⟩
  · have e : form x = (247 + many x) :: hi (many x) x := by unfold form; rw [if_neg h]
    rw [e]
    have h1 : (247 : Int) < (x : Int) := by omega
    have HWh := hide hW
    clear hW
    go_enter Try.func11, Try.ntmps11
    go_wp2_with fail
    refine (many_c x _ hx).mono ?_
    rintro e w1 ⟨rfl, hb1⟩
    have HW1 := hide (HWh.out.below hb1)
    go_wp2_with fail
    have hm1 := made1 w1 (.int .u8 ((247 + many x : Nat) : Int))
    refine (highest_c (.slice (some ⟨w1.heap.size, 0, none⟩) 1 1) [247 + many x] (many x) x _ hx hmb (by simp) (by first | (simpa using hm1) | exact hm1)).mono ?_
    rintro e w2 ⟨v2, rfl, own2, gr2⟩
    have hb2 := gr2.fresh
    obtain ⟨g2, cap2, rfl, _, hgl, hcp, hcl, _⟩ := own_form own2 (by simp only [List.length_singleton]; omega)
    have HW2 := hide (HW1.out.below hb2)
    have hlen : [247 + many x].length + many x = ((247 + many x) :: hi (many x) x).length := by simp [hi_length]; omega
    have HC := hide (row_cells (cap := cap2) (ns := (247 + many x) :: hi (many x) x) (fun j hj => hcl j (by rw [hlen]; exact hj)))
    clear hcl own2
    go_wp2_with fail
    have hlen2 : 1 + many x = ((247 + many x) :: hi (many x) x).length := hlen
    rw [hlen2]
    refine (raw_c g v bs ((247 + many x) :: hi (many x) x) g2 0 cap2 _ HW2.out (by simp) (by simp [hi_length]; omega) HC.out).mono ?_
    rintro e w3 ⟨v', rfl, hW3, hk3, hn3⟩
    go_wp2
    go_ret
    have hB : Below w.heap.size w w2 := hb1.trans (hb2.mono hb1.size)
    exact ⟨v', rfl, hW3, (WKeep.of_below hB).trans (.inl rfl) hk3, Near.trans (.inl rfl) hB.size hn3⟩
end Go.Proofs.Ytajkgecegefnmaa
