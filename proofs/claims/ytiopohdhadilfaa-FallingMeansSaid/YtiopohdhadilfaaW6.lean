/-
  The law FallingMeans of the given program returns true for every input, and what is handed in stays. No condition.
-/
import Derived.Test.YtiopohdhadilfaaB1
import Derived.Test.YtiopohdhadilfaaW3
import Derived.Test.YtiopohdhadilfaaW4
import Derived.Test.YtiopohdhadilfaaW5
import Derived.SizedLaws
namespace Go.Proofs.Ytiopohdhadilfaa.fallingMeans
open Go.ChangeShapes Go.WideShapes Go.ChangeAt Go.RowKit
set_option linter.unusedVariables false
theorem own : ownKnob Try.prog.godebug = none := by kernel_rfl
theorem laidOut : laidOutB Try.prog = true := by kernel_rfl

/-- what the walk is told of a slice of int64 that came in -/
def Row (w : World) (v : Value) : Prop :=
  (∃ ao n0 cap, v = .slice ao n0 cap ∧ n0 = 0 ∧ (ao = none → cap = 0)) ∨
  ∃ b off cap zs, v = .slice (some ⟨b, off, none⟩) (List.length zs) cap ∧ b < w.heap.size ∧ 0 < zs.length ∧ zs.length * 8 ≤ 140737488351232 ∧ (∀ j, j < zs.length → w.cell? ⟨b, off + j, none⟩ = some (.int .i64 (zs.getD j 0)))


theorem walk (k op cl st sp ex la fl fa co ru tick : Int) (v : Value) (w : World) (hv : Row w v) (hw : -9223372036854775808 ≤ tick ∧ tick ≤ 9223372036854775807) : Calls Try.prog 4 #[.agg #[.int .i64 k, .int .i64 op, .int .i64 cl, .int .i64 st, .int .i64 sp, .int .i64 ex, .int .i64 la, .int .i64 fl, .int .i64 fa, .int .i64 co, .int .i64 ru], v, .int .i64 tick] w fun e w' => e = .returned (.bool true) ∧ Below w.heap.size w w' := by
  rcases hv with ⟨ao, n0, cap, rfl, h0, hn⟩ | ⟨b, off, cap, zs, rfl, hb, hp, hm, hc⟩
  · by_cases h : LotOK k op cl st sp ex la fl fa co ru
    · exact Means_empty k op cl st sp ex la fl fa co ru tick ao n0 cap w h hw h0
    · exact Means_bad0 k op cl st sp ex la fl fa co ru tick ao n0 cap w h h0
  · by_cases h : LotOK k op cl st sp ex la fl fa co ru
    · rcases tk_spec k op cl st sp ex la fl fa co ru zs zs.length with ⟨a, l⟩ | ⟨i, t, hi, a, v1, v2, f, l⟩
      · exact Means_lost k op cl st sp ex la fl fa co ru tick b off cap zs w h hb hp (by omega) hc hw a l
      · exact Means_won k op cl st sp ex la fl fa co ru tick b off cap zs w h hb hp (by omega) hc hw i t hi a v1 v2 f l
    · exact Means_bad k op cl st sp ex la fl fa co ru tick b off cap zs w h hb hp (by omega) hc
theorem bytes2 : Try.prog.bytesOf 2 = 8 := by kernel_rfl

theorem Row_slice {w : World} {x : Addr} {l c : Nat} {zs : List Int} (hl : l ≤ c) (hz : zs.length = c) (hs : (zs.take l).length * 8 ≤ 140737488351232)
    (hcell : ∀ i, i < zs.length → w.cell? (x.add i) = some (.int .i64 (zs.getD i 0))) : Row w (.slice (some x) l c) := by
  by_cases h0 : l = 0
  · exact .inl ⟨_, l, c, rfl, h0, by intro h; cases h⟩
  · obtain ⟨b, off, spot⟩ := x
    have hc := hcell 0 (by omega)
    have hspot : spot = none := by simpa [Addr.add] using World.cell?_spot hc
    subst hspot
    have hlen : (zs.take l).length = l := by simp; omega
    refine .inr ⟨b, off, c, zs.take l, by rw [hlen], World.block_lt_of_cell? w _ hc, by omega, hs, fun j hj => ?_⟩
    rw [hlen] at hj
    rw [show (zs.take l).getD j 0 = zs.getD j 0 by simp [List.getD, hj]]
    have ha : (⟨b, off, none⟩ : Addr).add j = ⟨b, off + j, none⟩ := by
      unfold Addr.add
      split
      · (rename_i h; subst h; rfl)
      · rfl
    exact ha ▸ hcell j (by omega)

set_option maxRecDepth 100000 in
theorem lifted (os : Os) (started : os.Started) (H : Type) (enc : TypeId × Value → H) :
    ReturnsInHanded {} Try.checked os 4 .any (Rows.fallingMeansSpec.pre6 enc Try.prog Try.f4 Rows.fallingMeansRow.domain false) (Rows.fallingMeansSpec.post enc Try.prog Try.f4 false true false false) := by
  refine returnsInHanded_of_change_sized (C := Try.checked) own started (by kernel_rfl) Try.func4
    (ChangeSpec.witness6 (enc := enc) (C := Try.checked) false ⟨#[], #[.agg #[.int .i64 0, .int .i64 0, .int .i64 0, .int .i64 0, .int .i64 0, .int .i64 0, .int .i64 0, .int .i64 0, .int .i64 0, .int .i64 0, .int .i64 0], .slice none 0 0, .int .i64 0], []⟩ 8 (by kernel_rfl) (by kernel_rfl) (by kernel_rfl) (by kernel_rfl)) ?_
  intro W base args ds gs before hval0 hW hcnd hsz0 _
  have hval : ∀ (j : Nat) t v, Try.f4.params[j]? = some t → args[j]? = some v → Value.okWide Try.prog W .any base t v := hval0
  have hW' := hW
  obtain ⟨p, q, hA0, hV, rfl, hfz, hnd⟩ := hW
  have hA : DataW.TrodAll enc Try.prog W 0 (fun _ => true) true Try.f4.params.toList args.toList ds p := hA0
  have hsz : (DataW.weightsEach Try.prog (Try.f4.params.toList ++ Rows.fallingMeansSpec.plain.varTypes Try.prog) (ds ++ gs)).all (· ≤ reachBytes) = true := hsz0
  rw [Try.params4] at hA hval hsz
  obtain ⟨v0, vs0, d0, ds0, p0, q0, hargs, rfl, rfl, k0, r0⟩ := trodAll_cons hA
  obtain ⟨v1, vs1, d1, ds1, p1, q1, rfl, rfl, rfl, k1, r1⟩ := trodAll_cons r0
  obtain ⟨v2, vs2, d2, ds2, p2, q2, rfl, rfl, rfl, k2, r2⟩ := trodAll_cons r1
  obtain ⟨rfl, rfl, rfl⟩ := trodAll_nil r2
  obtain rfl : args = #[v0, v1, v2] := by cases args; simp_all
  obtain ⟨rfl, rfl⟩ := trodVars_none hV
  have hv0 := hval 0 25 v0 rfl rfl
  have lt0 : ∀ x ∈ p0, x.block < W.heap.size := by (obtain ⟨m, hm⟩ := k0; exact DataW.trod_lt m _ _ _ hm)
  have hv1 := hval 1 26 v1 rfl rfl
  have lt1 : ∀ x ∈ p1, x.block < W.heap.size := by (obtain ⟨m, hm⟩ := k1; exact DataW.trod_lt m _ _ _ hm)
  have hv2 := hval 2 2 v2 rfl rfl
  have lt2 : ∀ x ∈ p2, x.block < W.heap.size := by (obtain ⟨m, hm⟩ := k2; exact DataW.trod_lt m _ _ _ hm)
  obtain ⟨xs, e1, rfl, _⟩ := open_ints_agg Try.underlying25 (by kernel_rfl) (by kernel_rfl) (by kernel_rfl) hv0 k0
  obtain ⟨k, op, cl, st, sp, ex, la, fl, fa, co, ru, rfl⟩ := list11 e1
  have w1 : Row W v1 := by
    obtain ⟨a0, len0, cap0, rfl⟩ := okWide_slice Try.underlying26 hv1
    obtain ⟨fuel, hf⟩ := k1
    rcases open_ints Try.underlying26 Try.underlying2 (by kernel_rfl) hf with ⟨hcs, _⟩ | ⟨x, l, c, zs, hcs, _, hl, hm, hz, hx, hcell, hwz⟩
    · simp [Value.cells] at hcs
      obtain ⟨rfl, rfl, rfl⟩ := hcs
      exact .inl ⟨none, 0, 0, rfl, rfl, fun _ => rfl⟩
    · simp [Value.cells] at hcs
      obtain ⟨rfl, rfl, rfl⟩ := hcs
      have hz' : zs.length = cap0 := by simpa using hz
      have hd := (Prod.mk.inj hx).1
      subst hd
      have hs := sized_slice hsz (j := 1) (t := 26) (e := 2) rfl rfl Try.underlying26
      rw [bytes2] at hs
      simp only [lits, List.length_map, List.length_drop, reachBytes] at hs
      exact Row_slice hl hz' (by omega) hcell
  obtain ⟨tick, rfl, rfl, rfl, w2⟩ := open_int Try.underlying2 hv2 k2
  have hw := i64_le w2
  refine (walk k op cl st sp ex la fl fa co ru tick _ W w1 hw).mono fun e W' ⟨he, bel⟩ => ?_
  subst he
  exact ⟨_, rfl, _, _, _, [], _, [], hW', trodAll_mk1 (shut_bool Try.underlying4 _), (trodAll_cons_mk (Below.trod laidOut (by kernel_rfl) (of_decide_eq_true (by kernel_rfl)) k0 bel lt0) (trodAll_cons_mk (Below.trod laidOut (by kernel_rfl) (of_decide_eq_true (by kernel_rfl)) k1 bel lt1) (trodAll_cons_mk (Below.trod laidOut (by kernel_rfl) (of_decide_eq_true (by kernel_rfl)) k2 bel lt2) trodAll_mk0))), rfl, bel.frame _, fun h => by cases h⟩

theorem over : Rows.fallingMeansRow.holds Try.pinned (OpenSpec.ofChange Rows.fallingMeansSpec) :=
  OpenClaim.holds_of_wide 4 Try.f4 rfl rfl rfl rfl rfl rfl rfl ⟨rfl, rfl, rfl, rfl, rfl⟩ rfl rfl rfl rfl rfl (by kernel_rfl) Try.func4 (by kernel_rfl)
    (of_decide_eq_true (by kernel_rfl)) (by unfold Func.isWrapper; first | (rw [if_pos (by decide +kernel)]; kernel_rfl) | (rw [if_neg (by decide +kernel)]; exact ⟨rfl, rfl⟩))
    (fun os started H enc _ => lifted os started H enc)
end Go.Proofs.Ytiopohdhadilfaa.fallingMeans
namespace Go.Proofs.Ytiopohdhadilfaa
theorem fallingMeans_holds : Rows.FallingMeansSaid := fallingMeans.over
#print axioms fallingMeans_holds
end Go.Proofs.Ytiopohdhadilfaa
