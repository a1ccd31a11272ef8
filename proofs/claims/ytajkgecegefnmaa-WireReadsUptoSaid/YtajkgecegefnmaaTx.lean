import Derived.Deep.AppendLies
import Derived.Test.YtajkgecegefnmaaTw
namespace Go.Proofs.Ytajkgecegefnmaa
open Go.ChangeShapes Go.WideShapes Go.ChangeAt Go.RowKit Go.Deep
set_option linter.unusedSimpArgs false
set_option linter.unusedVariables false

set_option maxRecDepth 100000 in
set_option maxHeartbeats 1000000 in
theorem refNum_short (x : Nat) (w : World) (hx : x < 18446744073709551616) (hs : x ≤ 247) : Calls Try.prog 14 #[.int .u64 (x : Int)] w (fun e w' => ∃ g cap, e = .returned (.slice (some ⟨g, 0, none⟩) (form x).length cap) ∧ w'.ownsRow w.heap.size 5 1 (.slice (some ⟨g, 0, none⟩) (form x).length cap) (form x).length ((form x).map (fun (b : Nat) => Value.int .u8 (b : Int))) ∧ Below w.heap.size w w') := by
  have hs' : (x : Int) ≤ 247 := by omega
  have hf : form x = [x] := by unfold form; rw [if_pos hs]
  have HF := hide hf
  clear hf
  go_enter Try.func14, Try.ntmps14
  go_wp2
  go_ret
  refine ⟨w.heap.size, 1, by (rw [HF.out]; rfl), ?_, by (focus repeat' (first | (with_reducible exact Below.refl _ _) | (with_reducible assumption) | (with_reducible refine Below.alloc ?_ ?_ _) | (with_reducible refine Below.drew ?_) | (with_reducible refine bdrewN ?_ _) | (with_reducible refine Below.setCell ?_ ?_ _) | (first | (with_reducible exact Nat.le_refl _) | (with_reducible assumption) | omega | (simp; omega) | (simp; done))))⟩
  rw [HF.out]
  have q := own_one w 5 w.heap.size (.int .u8 (x : Int)) (Nat.le_refl _)
  simpa using q

set_option maxRecDepth 100000 in
set_option maxHeartbeats 2000000 in
theorem refNum_long (x : Nat) (w : World) (hx : x < 18446744073709551616) (hs : ¬ x ≤ 247) : Calls Try.prog 14 #[.int .u64 (x : Int)] w (fun e w' => ∃ g cap, e = .returned (.slice (some ⟨g, 0, none⟩) (form x).length cap) ∧ w'.ownsRow w.heap.size 5 1 (.slice (some ⟨g, 0, none⟩) (form x).length cap) (form x).length ((form x).map (fun (b : Nat) => Value.int .u8 (b : Int))) ∧ Below w.heap.size w w') := by
  obtain ⟨i0, hi0, hz0, hz1, hz2⟩ := info_parts info5
  have hs' : (247 : Int) < (x : Int) := by omega
  have hmu := many_u64 hx
  have hmp := many_pos x
  have hf : form x = (247 + many x) :: hi (many x) x := by unfold form; rw [if_neg hs]
  have HF := hide hf
  clear hf
  go_enter Try.func14, Try.ntmps14
  go_wp2_with fail
  refine (refBytes_c x _ hx).mono ?_
  rintro e w1 ⟨g1, cap1, rfl, own1, hb1⟩
  rw [hi_length] at own1
  rw [hi_length]
  have HOW := hide own1
  have HB1 := hide hb1
  have hz : w.heap.size ≤ w1.heap.size := hb1.size
  clear own1 hb1
  generalize hm : many x = m at *
  have HM := hide hm
  clear hm
  have hw8 : (247 + (m : Int)) % 256 = 247 + (m : Int) := by omega
  go_wp2_with (at_builtin; refine wpList_append_lies _ rfl (.tmp 15) (.tmp 16) 28 rfl w.heap.size 5 i0 (.int .u8 0) 1 1 Try.underlying28 hi0 hz0 hz1 hz2 rfl (by decide) (.slice (some ⟨w1.heap.size, 0, none⟩) 1 1) 1 [.int .u8 _] rfl (own_one w1 5 w.heap.size (.int .u8 _) hz) ⟨g1, 0, none⟩ m cap1 ((hi m x).map (fun (b : Nat) => Value.int .u8 (b : Int))) rfl (by simp [hi_length]) (own_cells (HOW.out.alloc _)) (u8_one _) (by omega) (by unfold maxLen; omega) (by omega) (by (simp; omega)) _ rfl ?_; intro g2 cap2 wn hown2 hg2 hgg hgl)
  go_ret
  have hgk : ∀ k, (Value.slice (some ⟨w1.heap.size, 0, none⟩) 1 1).ownBlock = some k → w.heap.size ≤ k := fun k hk => by
    have e : w1.heap.size = k := Option.some.inj hk
    omega
  refine ⟨g2, cap2, ?_, ?_, below_grown (Below.alloc HB1.out hz _) hg2 hgk (by (simp; omega))⟩
  · rw [HF.out, List.length_cons, hi_length, Nat.add_comm m 1]; rfl
  · rw [HF.out, List.length_cons, hi_length, List.map_cons, Nat.add_comm m 1]
    simpa using hown2

theorem refNum_c (x : Nat) (w : World) (hx : x < 18446744073709551616) : Calls Try.prog 14 #[.int .u64 (x : Int)] w (fun e w' => ∃ g cap, e = .returned (.slice (some ⟨g, 0, none⟩) (form x).length cap) ∧ w'.ownsRow w.heap.size 5 1 (.slice (some ⟨g, 0, none⟩) (form x).length cap) (form x).length ((form x).map (fun (b : Nat) => Value.int .u8 (b : Int))) ∧ Below w.heap.size w w') := by
  by_cases hs : x ≤ 247
  · exact refNum_short x w hx hs
  · exact refNum_long x w hx hs
end Go.Proofs.Ytajkgecegefnmaa
