/-
  The law LadderBest of the given program returns true for every input, and what is handed in stays. No condition.
-/
import Derived.Test.YtbbdneekfejjkaaB1
import Derived.Test.YtbbdneekfejjkaaX3
namespace Go.Proofs.Ytbbdneekfejjkaa.ladderBest
open Go.Proofs.Ytbbdneekfejjkaa.best Go.ChangeShapes Go.WideShapes Go.ChangeAt Go.RowKit
set_option linter.unusedVariables false
theorem own : ownKnob Try.prog.godebug = none := by kernel_rfl
theorem laidOut : laidOutB Try.prog = true := by kernel_rfl

/-- what the walk is told of a slice of int64 that came in -/
def Row (w : World) (v : Value) : Prop :=
  (∃ ao n0 cap, v = .slice ao n0 cap ∧ n0 = 0) ∨
  ∃ b off cap zs, v = .slice (some ⟨b, off, none⟩) (List.length zs) cap ∧ b < w.heap.size ∧ 0 < zs.length ∧ (∀ j, j < zs.length → w.cell? ⟨b, off + j, none⟩ = some (.int .i64 (zs.getD j 0)))
theorem walk (v : Value) (st sp : Int) (w : World) (hv : Row w v) : Calls Try.prog 3 #[v, .int .i64 st, .int .i64 sp] w fun e w' => e = .returned (.bool true) ∧ Below w.heap.size w w' := by
  rcases hv with ⟨ao, n0, cap, rfl, h0⟩ | ⟨b, off, cap, zs, rfl, hb, hp, hc⟩
  · by_cases hL : 0 ≤ st ∧ st ≤ 1099511627776 ∧ 1 ≤ sp ∧ sp ≤ 1099511627776
    · exact Best_empty ao n0 cap st sp w hL h0
    · exact Best_early ao n0 cap st sp w (by omega)
  · by_cases h1 : zs.length ≤ 100
    · by_cases hL : 0 ≤ st ∧ st ≤ 1099511627776 ∧ 1 ≤ sp ∧ sp ≤ 1099511627776
      · exact Best_row b off cap zs st sp w hL hb hc h1 hp
      · exact Best_early _ _ cap st sp w (by omega)
    · exact Best_early _ _ cap st sp w (by omega)

theorem Row_slice {w : World} {x : Addr} {l c : Nat} {zs : List Int} (hl : l ≤ c) (hz : zs.length = c)
    (hcell : ∀ i, i < zs.length → w.cell? (x.add i) = some (.int .i64 (zs.getD i 0))) : Row w (.slice (some x) l c) := by
  by_cases h0 : l = 0
  · exact .inl ⟨_, l, c, rfl, h0⟩
  · obtain ⟨b, off, spot⟩ := x
    have hc := hcell 0 (by omega)
    have hspot : spot = none := by simpa [Addr.add] using World.cell?_spot hc
    subst hspot
    have hlen : (zs.take l).length = l := by simp; omega
    refine .inr ⟨b, off, c, zs.take l, by rw [hlen], World.block_lt_of_cell? w _ hc, by omega, fun j hj => ?_⟩
    rw [hlen] at hj
    rw [show (zs.take l).getD j 0 = zs.getD j 0 by simp [List.getD, hj]]
    have ha : (⟨b, off, none⟩ : Addr).add j = ⟨b, off + j, none⟩ := by
      unfold Addr.add
      split
      · (rename_i h; subst h; rfl)
      · rfl
    exact ha ▸ hcell j (by omega)

set_option maxRecDepth 100000 in
theorem lifted (os : Os) (started : os.Started) (H : Type) (enc : TypeId × Value → H) :
    ReturnsInHanded {} Try.checked os 3 .any (Rows.ladderBestSpec.pre6 enc Try.prog Try.f3 Rows.ladderBestRow.domain false) (Rows.ladderBestSpec.post enc Try.prog Try.f3 false true false false) := by
  refine returnsInHanded_of_change (C := Try.checked) own started (by kernel_rfl) Try.func3
    (ChangeSpec.witness6 (enc := enc) (C := Try.checked) false ⟨#[], #[.slice none 0 0, .int .i64 0, .int .i64 0], []⟩ 8 (by kernel_rfl) (by kernel_rfl) (by kernel_rfl) (by kernel_rfl)) ?_
  intro W base args ds gs before hval0 hW hcnd _
  have hval : ∀ (j : Nat) t v, Try.f3.params[j]? = some t → args[j]? = some v → Value.okWide Try.prog W .any base t v := hval0
  have hW' := hW
  obtain ⟨p, q, hA0, hV, rfl, hfz, hnd⟩ := hW
  have hA : DataW.TrodAll enc Try.prog W 0 (fun _ => true) true Try.f3.params.toList args.toList ds p := hA0
  rw [Try.params3] at hA hval
  obtain ⟨v0, vs0, d0, ds0, p0, q0, hargs, rfl, rfl, k0, r0⟩ := trodAll_cons hA
  obtain ⟨v1, vs1, d1, ds1, p1, q1, rfl, rfl, rfl, k1, r1⟩ := trodAll_cons r0
  obtain ⟨v2, vs2, d2, ds2, p2, q2, rfl, rfl, rfl, k2, r2⟩ := trodAll_cons r1
  obtain ⟨rfl, rfl, rfl⟩ := trodAll_nil r2
  obtain rfl : args = #[v0, v1, v2] := by cases args; simp_all
  obtain ⟨rfl, rfl⟩ := trodVars_none hV
  have hv0 := hval 0 22 v0 rfl rfl
  have lt0 : ∀ x ∈ p0, x.block < W.heap.size := by (obtain ⟨m, hm⟩ := k0; exact DataW.trod_lt m _ _ _ hm)
  have hv1 := hval 1 2 v1 rfl rfl
  have lt1 : ∀ x ∈ p1, x.block < W.heap.size := by (obtain ⟨m, hm⟩ := k1; exact DataW.trod_lt m _ _ _ hm)
  have hv2 := hval 2 2 v2 rfl rfl
  have lt2 : ∀ x ∈ p2, x.block < W.heap.size := by (obtain ⟨m, hm⟩ := k2; exact DataW.trod_lt m _ _ _ hm)
  have w0 : Row W v0 := by
    obtain ⟨a0, len0, cap0, rfl⟩ := okWide_slice Try.underlying22 hv0
    obtain ⟨fuel, hf⟩ := k0
    rcases open_ints Try.underlying22 Try.underlying2 (by kernel_rfl) hf with ⟨hcs, _⟩ | ⟨x, l, c, zs, hcs, _, hl, hm, hz, hx, hcell, hwz⟩
    · simp [Value.cells] at hcs
      obtain ⟨rfl, rfl, rfl⟩ := hcs
      exact .inl ⟨none, 0, 0, rfl, rfl⟩
    · simp [Value.cells] at hcs
      obtain ⟨rfl, rfl, rfl⟩ := hcs
      exact Row_slice hl (by simpa using hz) hcell
  obtain ⟨st, rfl, rfl, rfl, w1⟩ := open_int Try.underlying2 hv1 k1
  obtain ⟨sp, rfl, rfl, rfl, w2⟩ := open_int Try.underlying2 hv2 k2
  refine (walk _ st sp W w0).mono fun e W' ⟨he, bel⟩ => ?_
  subst he
  exact ⟨_, rfl, _, _, _, [], _, [], hW', trodAll_mk1 (shut_bool Try.underlying4 _), (trodAll_cons_mk (Below.trod laidOut (by kernel_rfl) (of_decide_eq_true (by kernel_rfl)) k0 bel lt0) (trodAll_cons_mk (Below.trod laidOut (by kernel_rfl) (of_decide_eq_true (by kernel_rfl)) k1 bel lt1) (trodAll_cons_mk (Below.trod laidOut (by kernel_rfl) (of_decide_eq_true (by kernel_rfl)) k2 bel lt2) trodAll_mk0))), rfl, bel.frame _, fun h => by cases h⟩

theorem over : Rows.ladderBestRow.holds Try.pinned (OpenSpec.ofChange Rows.ladderBestSpec) :=
  OpenClaim.holds_of_wide 3 Try.f3 rfl rfl rfl rfl rfl rfl rfl ⟨rfl, rfl, rfl, rfl, rfl⟩ rfl rfl rfl rfl rfl (by kernel_rfl) Try.func3 (by kernel_rfl)
    (of_decide_eq_true (by kernel_rfl)) (by unfold Func.isWrapper; first | (rw [if_pos (by decide +kernel)]; kernel_rfl) | (rw [if_neg (by decide +kernel)]; exact ⟨rfl, rfl⟩))
    (fun os started H enc _ => lifted os started H enc)
end Go.Proofs.Ytbbdneekfejjkaa.ladderBest
namespace Go.Proofs.Ytbbdneekfejjkaa
theorem ladderBest_holds : Rows.LadderBestSaid := ladderBest.over
#print axioms ladderBest_holds
end Go.Proofs.Ytbbdneekfejjkaa
