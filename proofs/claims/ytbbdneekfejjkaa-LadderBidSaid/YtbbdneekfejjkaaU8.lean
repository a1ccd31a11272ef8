/-
  The law LadderBid of the given program returns true for every input, and what is handed in stays. No condition.
-/
import Derived.Test.YtbbdneekfejjkaaB1
import Derived.Test.YtbbdneekfejjkaaU4
import Derived.Test.YtbbdneekfejjkaaU5
import Derived.Test.YtbbdneekfejjkaaU6
import Derived.Test.YtbbdneekfejjkaaU7
namespace Go.Proofs.Ytbbdneekfejjkaa.ladderBid
open Go.ChangeShapes Go.WideShapes Go.ChangeAt Go.RowKit
set_option linter.unusedSimpArgs false
set_option linter.unusedVariables false
theorem own : ownKnob Try.prog.godebug = none := by kernel_rfl
theorem laidOut : laidOutB Try.prog = true := by kernel_rfl

theorem walk (k op cl st sp ex la fl fa co ru ld li pr rc bd bl bf bn : Int) (w : World) (hf : bf ≤ 9223372036854775807) : Calls Try.prog 4 #[.agg #[.int .i64 k, .int .i64 op, .int .i64 cl, .int .i64 st, .int .i64 sp, .int .i64 ex, .int .i64 la, .int .i64 fl, .int .i64 fa, .int .i64 co, .int .i64 ru], .agg #[.int .i64 ld, .int .i64 li, .int .i64 pr, .int .i64 rc], .agg #[.int .i64 bd, .int .i64 bl, .int .i64 bf, .int .i64 bn]] w fun e w' => e = .returned (.bool true) ∧ Below w.heap.size w w' := by
  by_cases hL : LotOK k op cl st sp ex la fl fa co ru
  · by_cases hR : RiseOK st cl la ld li pr rc
    · by_cases he : bidErr op st sp ld li pr rc bd bl bf bn = 0
      · have hb : 0 ≤ bd := (goodBid k op cl st sp ex la fl fa co ru ld li pr rc bd bl bf bn hL hR he).1
        by_cases hl : ld < 0
        · exact LadderBid_7 k op cl st sp ex la fl fa co ru ld li pr rc bd bl bf bn w hL hR hf he hb hl
        · exact LadderBid_8 k op cl st sp ex la fl fa co ru ld li pr rc bd bl bf bn w hL hR hf he hb (by omega)
      · by_cases hb : 0 ≤ bd
        · by_cases hl : ld < 0
          · exact LadderBid_5 k op cl st sp ex la fl fa co ru ld li pr rc bd bl bf bn w hL hR hf he hb hl
          · exact LadderBid_6 k op cl st sp ex la fl fa co ru ld li pr rc bd bl bf bn w hL hR hf he hb (by omega)
        · by_cases hl : ld < 0
          · exact LadderBid_3 k op cl st sp ex la fl fa co ru ld li pr rc bd bl bf bn w hL hR hf he (fun x => hb x.2) hl
          · exact LadderBid_4 k op cl st sp ex la fl fa co ru ld li pr rc bd bl bf bn w hL hR hf he (fun x => hb x.2) (by omega)
    · exact LadderBid_2 k op cl st sp ex la fl fa co ru ld li pr rc bd bl bf bn w hL (fun x => hR x.2) (fun x => hR x.1.2)
  · exact LadderBid_1 k op cl st sp ex la fl fa co ru ld li pr rc bd bl bf bn w hL (fun x => hL x.1) (fun x => hL x.1.1)

set_option maxRecDepth 100000 in
theorem lifted (os : Os) (started : os.Started) (H : Type) (enc : TypeId × Value → H) :
    ReturnsInHanded {} Try.checked os 4 .any (Rows.ladderBidSpec.pre6 enc Try.prog Try.f4 Rows.ladderBidRow.domain false) (Rows.ladderBidSpec.post enc Try.prog Try.f4 false true false false) := by
  refine returnsInHanded_of_change (C := Try.checked) own started (by kernel_rfl) Try.func4
    (ChangeSpec.witness6 (enc := enc) (C := Try.checked) false ⟨#[], #[.agg #[.int .i64 0, .int .i64 0, .int .i64 0, .int .i64 0, .int .i64 0, .int .i64 0, .int .i64 0, .int .i64 0, .int .i64 0, .int .i64 0, .int .i64 0], .agg #[.int .i64 0, .int .i64 0, .int .i64 0, .int .i64 0], .agg #[.int .i64 0, .int .i64 0, .int .i64 0, .int .i64 0]], []⟩ 8 (by kernel_rfl) (by kernel_rfl) (by kernel_rfl) (by kernel_rfl)) ?_
  intro W base args ds gs before hval0 hW hcnd _
  have hval : ∀ (j : Nat) t v, Try.f4.params[j]? = some t → args[j]? = some v → Value.okWide Try.prog W .any base t v := hval0
  have hW' := hW
  obtain ⟨p, q, hA0, hV, rfl, hfz, hnd⟩ := hW
  have hA : DataW.TrodAll enc Try.prog W 0 (fun _ => true) true Try.f4.params.toList args.toList ds p := hA0
  rw [Try.params4] at hA hval
  obtain ⟨v0, vs0, d0, ds0, p0, q0, hargs, rfl, rfl, k0, r0⟩ := trodAll_cons hA
  obtain ⟨v1, vs1, d1, ds1, p1, q1, rfl, rfl, rfl, k1, r1⟩ := trodAll_cons r0
  obtain ⟨v2, vs2, d2, ds2, p2, q2, rfl, rfl, rfl, k2, r2⟩ := trodAll_cons r1
  obtain ⟨rfl, rfl, rfl⟩ := trodAll_nil r2
  obtain rfl : args = #[v0, v1, v2] := by cases args; simp_all
  obtain ⟨rfl, rfl⟩ := trodVars_none hV
  have hv0 := hval 0 27 v0 rfl rfl
  have lt0 : ∀ x ∈ p0, x.block < W.heap.size := by (obtain ⟨m, hm⟩ := k0; exact DataW.trod_lt m _ _ _ hm)
  have hv1 := hval 1 29 v1 rfl rfl
  have lt1 : ∀ x ∈ p1, x.block < W.heap.size := by (obtain ⟨m, hm⟩ := k1; exact DataW.trod_lt m _ _ _ hm)
  have hv2 := hval 2 35 v2 rfl rfl
  have lt2 : ∀ x ∈ p2, x.block < W.heap.size := by (obtain ⟨m, hm⟩ := k2; exact DataW.trod_lt m _ _ _ hm)
  obtain ⟨xs, e1, rfl, _⟩ := open_ints_agg Try.underlying27 (by kernel_rfl) (by kernel_rfl) (by kernel_rfl) hv0 k0
  obtain ⟨ys, e2, rfl, _⟩ := open_ints_agg Try.underlying29 (by kernel_rfl) (by kernel_rfl) (by kernel_rfl) hv1 k1
  obtain ⟨zs, e3, rfl, wz⟩ := open_ints_agg Try.underlying35 (by kernel_rfl) (by kernel_rfl) (by kernel_rfl) hv2 k2
  obtain ⟨k, op, cl, st, sp, ex, la, fl, fa, co, ru, rfl⟩ := list11 e1
  obtain ⟨ld, li, pr, rc, rfl⟩ := list4 e2
  obtain ⟨bd, bl, bf, bn, rfl⟩ := list4 e3
  have hf := (i64_le (wz bf (by simp))).2
  refine (walk k op cl st sp ex la fl fa co ru ld li pr rc bd bl bf bn W hf).mono fun e W' ⟨he, bel⟩ => ?_
  subst he
  exact ⟨_, rfl, _, _, _, [], _, [], hW', trodAll_mk1 (shut_bool Try.underlying4 _), (trodAll_cons_mk (Below.trod laidOut (by kernel_rfl) (of_decide_eq_true (by kernel_rfl)) k0 bel lt0) (trodAll_cons_mk (Below.trod laidOut (by kernel_rfl) (of_decide_eq_true (by kernel_rfl)) k1 bel lt1) (trodAll_cons_mk (Below.trod laidOut (by kernel_rfl) (of_decide_eq_true (by kernel_rfl)) k2 bel lt2) trodAll_mk0))), rfl, bel.frame _, fun h => by cases h⟩

theorem over : Rows.ladderBidRow.holds Try.pinned (OpenSpec.ofChange Rows.ladderBidSpec) :=
  OpenClaim.holds_of_wide 4 Try.f4 rfl rfl rfl rfl rfl rfl rfl ⟨rfl, rfl, rfl, rfl, rfl⟩ rfl rfl rfl rfl rfl (by kernel_rfl) Try.func4 (by kernel_rfl)
    (of_decide_eq_true (by kernel_rfl)) (by unfold Func.isWrapper; first | (rw [if_pos (by decide +kernel)]; kernel_rfl) | (rw [if_neg (by decide +kernel)]; exact ⟨rfl, rfl⟩))
    (fun os started H enc _ => lifted os started H enc)
end Go.Proofs.Ytbbdneekfejjkaa.ladderBid
namespace Go.Proofs.Ytbbdneekfejjkaa
theorem ladderBid_holds : Rows.LadderBidSaid := ladderBid.over
#print axioms ladderBid_holds
end Go.Proofs.Ytbbdneekfejjkaa
