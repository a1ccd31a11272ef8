/-
  The law UnitsTruth of the given program returns true for every input, and what is handed in stays. No condition.
-/
import Derived.Test.YtehpjipmlpaflaaUr
namespace Go.Proofs.Ytehpjipmlpaflaa.unitsTruth
open Go.ChangeShapes Go.WideShapes Go.ChangeAt Go.RowKit
set_option linter.unusedVariables false
theorem own : ownKnob Try.prog.godebug = none := by kernel_rfl
theorem laidOut : laidOutB Try.prog = true := by kernel_rfl

set_option maxRecDepth 100000 in
theorem lifted (os : Os) (started : os.Started) (H : Type) (enc : TypeId × Value → H) :
    ReturnsInHanded {} Try.checked os 8 .any (Rows.unitsTruthSpec.pre6 enc Try.prog Try.f8 Rows.unitsTruthRow.domain false) (Rows.unitsTruthSpec.post enc Try.prog Try.f8 false true false false) := by
  refine returnsInHanded_of_change (C := Try.checked) own started (by kernel_rfl) Try.func8
    (ChangeSpec.witness6 (enc := enc) (C := Try.checked) false ⟨#[], #[.agg #[.int .i64 0, .int .i64 0, .slice none 0 0], .int .i64 0, .int .i64 0], []⟩ 8 (by kernel_rfl) (by kernel_rfl) (by kernel_rfl) (by kernel_rfl)) ?_
  intro W base args ds gs before hval0 hW hcnd _
  have hval : ∀ (j : Nat) t v, Try.f8.params[j]? = some t → args[j]? = some v → Value.okWide Try.prog W .any base t v := hval0
  have hW' := hW
  obtain ⟨p, q, hA0, hV, rfl, hfz, hnd⟩ := hW
  have hA : DataW.TrodAll enc Try.prog W 0 (fun _ => true) true Try.f8.params.toList args.toList ds p := hA0
  rw [Try.params8] at hA hval
  obtain ⟨v0, vs0, d0, ds0, p0, q0, hargs, rfl, rfl, k0, r0⟩ := trodAll_cons hA
  obtain ⟨v1, vs1, d1, ds1, p1, q1, rfl, rfl, rfl, k1, r1⟩ := trodAll_cons r0
  obtain ⟨v2, vs2, d2, ds2, p2, q2, rfl, rfl, rfl, k2, r2⟩ := trodAll_cons r1
  obtain ⟨rfl, rfl, rfl⟩ := trodAll_nil r2
  obtain rfl : args = #[v0, v1, v2] := by cases args; simp_all
  obtain ⟨rfl, rfl⟩ := trodVars_none hV
  have hv0 := hval 0 24 v0 rfl rfl
  have lt0 : ∀ x ∈ p0, x.block < W.heap.size := by (obtain ⟨m, hm⟩ := k0; exact DataW.trod_lt m _ _ _ hm)
  have hv1 := hval 1 3 v1 rfl rfl
  have lt1 : ∀ x ∈ p1, x.block < W.heap.size := by (obtain ⟨m, hm⟩ := k1; exact DataW.trod_lt m _ _ _ hm)
  have hv2 := hval 2 2 v2 rfl rfl
  have lt2 : ∀ x ∈ p2, x.block < W.heap.size := by (obtain ⟨m, hm⟩ := k2; exact DataW.trod_lt m _ _ _ hm)
  have w0 : ∃ count floor so L cap, v0 = .agg #[.int .i64 count, .int .i64 floor, .slice so (List.length L) cap] ∧ un.BRows so L W ∧ (∀ b, b < L.length → ∀ bS offS si ci, so = some ⟨bS, offS, none⟩ → W.cell? ⟨bS, offS + b, none⟩ = some (.slice si (un.bidAt L b).length ci) → (un.bidAt L b).length ≤ ci) := by
    obtain ⟨cs, rfl, hsz⟩ := okWide_struct Try.underlying24 hv0
    obtain ⟨fuel, hf⟩ := k0
    obtain ⟨count, floor, so, L, cap, hcs, hr⟩ := un.ask_of2 hf
    refine ⟨count, floor, so, L, cap, ?_, hr⟩
    have hcs' : cs.toList = _ := hcs
    rw [← Array.toArray_toList (xs := cs), hcs']
  obtain ⟨count, floor, so, L, cap, rfl, hbr, hcp⟩ := w0
  obtain ⟨who, rfl⟩ : ∃ z : Int, v1 = .int .i64 z := by
    obtain ⟨z, hz, _⟩ := open_int Try.underlying3 hv1 k1
    exact ⟨z, hz⟩
  obtain ⟨other, rfl⟩ : ∃ z : Int, v2 = .int .i64 z := by
    obtain ⟨z, hz, _⟩ := open_int Try.underlying2 hv2 k2
    exact ⟨z, hz⟩
  refine (un.UnitsTruth_c count floor who other so cap L W hbr hcp).mono fun e W' ⟨he, bel⟩ => ?_
  subst he
  exact ⟨_, rfl, _, _, _, [], _, [], hW', trodAll_mk1 (shut_bool Try.underlying4 _), (trodAll_cons_mk (Below.trod laidOut (by kernel_rfl) (of_decide_eq_true (by kernel_rfl)) k0 bel lt0) (trodAll_cons_mk (Below.trod laidOut (by kernel_rfl) (of_decide_eq_true (by kernel_rfl)) k1 bel lt1) (trodAll_cons_mk (Below.trod laidOut (by kernel_rfl) (of_decide_eq_true (by kernel_rfl)) k2 bel lt2) trodAll_mk0))), rfl, bel.frame _, fun h => by cases h⟩

theorem over : Rows.unitsTruthRow.holds Try.pinned (OpenSpec.ofChange Rows.unitsTruthSpec) :=
  OpenClaim.holds_of_wide 8 Try.f8 rfl rfl rfl rfl rfl rfl rfl ⟨rfl, rfl, rfl, rfl, rfl⟩ rfl rfl rfl rfl rfl (by kernel_rfl) Try.func8 (by kernel_rfl)
    (of_decide_eq_true (by kernel_rfl)) (by unfold Func.isWrapper; first | (rw [if_pos (by decide +kernel)]; kernel_rfl) | (rw [if_neg (by decide +kernel)]; exact ⟨rfl, rfl⟩))
    (fun os started H enc _ => lifted os started H enc)
end Go.Proofs.Ytehpjipmlpaflaa.unitsTruth
namespace Go.Proofs.Ytehpjipmlpaflaa
theorem unitsTruth_holds : Rows.UnitsTruthSaid := unitsTruth.over
#print axioms unitsTruth_holds
end Go.Proofs.Ytehpjipmlpaflaa
