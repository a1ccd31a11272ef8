import Derived.Test.YtajkgecegefnmaaT7
namespace Go.Proofs.Ytajkgecegefnmaa
open Go.ChangeShapes Go.WideShapes Go.ChangeAt Go.RowKit Go.Deep
set_option linter.unusedSimpArgs false
set_option linter.unusedVariables false

set_option maxRecDepth 100000 in
set_option maxHeartbeats 2000000 in
theorem Bytes_nil (g : Nat) (v : Value) (w : World) (hW : WObj w g v []) : Calls Try.prog 12 #[.pointer (some ⟨g, 0, none⟩)] w fun e w' => e = .returned (.slice none 0 0) ∧ Below w.heap.size w w' := by
  obtain ⟨w1, w2, w3, w4, w5, w6⟩ := hW
  obtain rfl := w6 rfl
  have Q := eql28n
  clear w4 w5 w6
  go_enter Try.func12, Try.ntmps12
  go_wp2_with (go_at_call 50; go_in)
  go_ret
  exact ⟨rfl, by (focus repeat' (first | (with_reducible exact Below.refl _ _) | (with_reducible assumption) | (with_reducible refine Below.alloc ?_ ?_ _) | (with_reducible refine Below.drew ?_) | (with_reducible refine bdrewN ?_ _) | (with_reducible refine Below.setCell ?_ ?_ _) | (first | (with_reducible exact Nat.le_refl _) | (with_reducible assumption) | omega | (simp; omega) | (simp; done))))⟩

set_option maxRecDepth 100000 in
set_option maxHeartbeats 2000000 in
theorem Bytes_c (g : Nat) (v : Value) (bs : List Nat) (w : World) (hW : WObj w g v bs) (hl : bs.length ≤ 8796093022208) (hm : 0 < bs.length) : Calls Try.prog 12 #[.pointer (some ⟨g, 0, none⟩)] w (fun e w' => ∃ g2 cap2, e = .returned (.slice (some ⟨g2, 0, none⟩) bs.length cap2) ∧ w.heap.size ≤ g2 ∧ w'.ownsRow 0 5 1 (.slice (some ⟨g2, 0, none⟩) bs.length cap2) bs.length (bs.map (fun (b : Nat) => Value.int .u8 (b : Int))) ∧ Below w.heap.size w w') := by
  obtain ⟨w1, w2, w3, w4, w5, w6⟩ := hW
  obtain ⟨g1, cap1, rfl, _, hgl, hcp, hcl, _⟩ := own_form w4 hm
  have HC := hide (row_cells (cap := cap1) hcl)
  clear w4 w5 w6 hcl
  go_enter Try.func12, Try.ntmps12
  go_wp2_with fail
  refine (Clone8_c bs g1 0 cap1 _ hm (by omega) HC.out hgl).mono ?_
  rintro e w2 ⟨g2, cap2, rfl, hg2, own2, hb2⟩
  go_wp2
  go_ret
  exact ⟨g2, cap2, rfl, hg2, own2, hb2⟩
end Go.Proofs.Ytajkgecegefnmaa
