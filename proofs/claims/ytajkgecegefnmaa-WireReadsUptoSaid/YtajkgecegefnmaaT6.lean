import Derived.Test.YtajkgecegefnmaaT5
namespace Go.Proofs.Ytajkgecegefnmaa
open Go.ChangeShapes Go.WideShapes Go.ChangeAt Go.RowKit Go.Deep
set_option linter.unusedSimpArgs false
set_option linter.unusedVariables false
theorem run63 (x : Nat) (w : World) : Sem.run Try.prog (callFunc 63 #[.float .f64 x]) w = .ok (.value (.int .u64 (x : Int))) w := by kernel_rfl

set_option maxRecDepth 100000 in
set_option maxHeartbeats 2000000 in
theorem Real_c (g : Nat) (v : Value) (bs : List Nat) (x : Nat) (w : World) (hW : WObj w g v bs) (hl : bs.length ≤ 8796093022208) (hx : x < 18446744073709551616) : Calls Try.prog 36 #[.pointer (some ⟨g, 0, none⟩), .float .f64 x] w (fun e w' => ∃ v', e = .returned (.int .i64 0) ∧ WObj w' g v' (bs ++ hi 8 x) ∧ WKeep g v w w' ∧ Near w v v') := by
  have HWh := hide hW
  clear hW
  go_enter Try.func36, Try.ntmps36
  go_wp2_with fail
  rw [run63]
  go_wp2_with fail
  refine (highest_c (.slice none 0 0) [] 8 x _ hx (by decide) (by simp) (World.ownsRow_nil _ _ _ _)).mono ?_
  rintro e w2 ⟨v2, rfl, own2, gr2⟩
  have hb2 := gr2.fresh0
  obtain ⟨g2, cap2, rfl, _, hgl, hcp, hcl, _⟩ := own_form own2 (by simp)
  have HW2 := hide (HWh.out.below hb2)
  have hlen : ([] : List Nat).length + 8 = (hi 8 x).length := by simp [hi_length]
  have HC := hide (row_cells (cap := cap2) (ns := hi 8 x) (fun j hj => hcl j (by rw [hlen]; exact hj)))
  clear hcl own2 hlen hcp
  go_wp2_with fail
  rw [show (.slice (some ⟨g2, 0, none⟩) 8 cap2 : Value) = .slice (some ⟨g2, 0, none⟩) (hi 8 x).length cap2 from by rw [hi_length]]
  refine (raw_c g v bs (hi 8 x) g2 0 cap2 _ HW2.out (by simp [hi_length]) (by simp [hi_length]; omega) HC.out).mono ?_
  rintro e w3 ⟨v', rfl, hW3, hk3, hn3⟩
  go_wp2
  go_ret
  exact ⟨v', rfl, hW3, (WKeep.of_below hb2).trans (.inl rfl) hk3, Near.trans (.inl rfl) hb2.size hn3⟩
end Go.Proofs.Ytajkgecegefnmaa
