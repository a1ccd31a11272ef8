/-
  The law LadderRun of the given program returns true for every input, and what is handed in stays. No condition.
-/
import Derived.Test.YtbbdneekfejjkaaB1
import Derived.Test.YtbbdneekfejjkaaY9
namespace Go.Proofs.Ytbbdneekfejjkaa.ladderRun
open Go.ChangeShapes Go.WideShapes Go.ChangeAt Go.RowKit
set_option linter.unusedVariables false
theorem own : ownKnob Try.prog.godebug = none := by kernel_rfl
theorem laidOut : laidOutB Try.prog = true := by kernel_rfl

section
open Go.Deep
variable {H : Type} {enc : TypeId × Value → H} {P : Program} {w : World} {base : Nat} {spare : Nat → Bool} {held : Bool}
theorem ints_of_trod {t : TypeId} {fs : Array Field} {fuel : Nat} {l : List Value} {x : DataW H × List MemPlace} (hs : P.underlying t = some (.struct fs)) (hone : oneCellFields P fs = true) (hint : allInts P fs = true) (hC : P.cellsOf t = fs.size)
    (hf : DataW.trod enc P w base spare held fuel t l = some x) : ∃ xs : List Int, xs.length = fs.size ∧ l = xs.map (Value.int .i64) ∧ ∀ x ∈ xs, (Lit.int .i64 x).wf = true := by
  obtain ⟨ys, n, _, hx, hlc, hlen, hg⟩ := DataW.trod_struct hs hf
  have hl : l.length = fs.size := hlc.trans hC
  have cell : ∀ i, i < l.length → ∃ x, l[i]? = some (Value.int .i64 x) ∧ (Lit.int .i64 x).wf = true := by
    intro i hi
    have hfi : fs[i]? = some (fs[i]'(by omega)) := Array.getElem?_eq_getElem (by omega)
    obtain ⟨ho, hk⟩ := hone_of hone i _ hfi
    have h1 := hg i _ hfi
    rw [ho, hk] at h1
    have hone' : (l.drop i).take 1 = [l[i]] := by
      rw [List.drop_eq_getElem_cons (by omega)]
      rfl
    rw [hone'] at h1
    have hys : ys[i]? = some (ys[i]'(by omega)) := List.getElem?_eq_getElem (by omega)
    rw [hys] at h1
    obtain ⟨x, hx, _, hw⟩ := DataW.trod_int (ints_of hint i _ hfi) h1
    refine ⟨x, ?_, hw⟩
    rw [List.getElem?_eq_getElem hi]
    simpa using hx
  clear hx hg hf
  have : ∀ l : List Value, (∀ i, i < l.length → ∃ x, l[i]? = some (Value.int .i64 x) ∧ (Lit.int .i64 x).wf = true) → ∃ xs : List Int, xs.length = l.length ∧ l = xs.map (Value.int .i64) ∧ ∀ x ∈ xs, (Lit.int .i64 x).wf = true := by
    intro l
    induction l with
    | nil => intro _; exact ⟨[], rfl, rfl, by simp⟩
    | cons a r ih =>
      intro hc
      obtain ⟨x, hx, hw⟩ := hc 0 (by simp)
      obtain ⟨xs, e1, e2, e3⟩ := ih (fun i hi => by simpa using hc (i + 1) (by simpa using hi))
      refine ⟨x :: xs, by simp [e1], ?_, ?_⟩
      · simp at hx
        rw [hx, e2]; rfl
      · intro y hy
        rcases List.mem_cons.1 hy with rfl | hy
        · exact hw
        · exact e3 y hy
  obtain ⟨xs, e1, e2, e3⟩ := this l cell
  exact ⟨xs, by omega, e2, e3⟩
theorem add_none (b off m : Nat) : (⟨b, off, none⟩ : Addr).add m = ⟨b, off + m, none⟩ := by
  unfold Addr.add
  split
  · (rename_i h; subst h; rfl)
  · rfl
/-- a slice of structs that are int64s alone, in memory: nil, empty, or rows of numbers -/
theorem open_int_rows {t e : TypeId} {fs : Array Field} {fuel : Nat} {cs : List Value} {x : DataW H × List MemPlace} (ht : P.underlying t = some (.slice e)) (he : P.underlying e = some (.struct fs)) (hone : oneCellFields P fs = true) (hint : allInts P fs = true) (hC : P.cellsOf e = fs.size) (h0 : 0 < fs.size)
    (h : DataW.trod enc P w base spare held fuel t cs = some x) :
    (∃ ao cap, cs = [.slice ao 0 cap] ∧ (ao = none → cap = 0)) ∨
    ∃ (b off len cap : Nat) (zz : Nat → Nat → Int), cs = [.slice (some ⟨b, off, none⟩) len cap] ∧ 0 < len ∧ len ≤ maxLen ∧ b < w.heap.size ∧ (∀ i, i < len → ∀ c, c < fs.size → w.cell? ⟨b, off + i * fs.size + c, none⟩ = some (.int .i64 (zz i c)) ∧ (Lit.int .i64 (zz i c)).wf = true) := by
  rcases DataW.trod_slice ht h with h1 | ⟨a, len, cap, elems, rest, n, _, rfl, rfl, hb, hl, hm, hlen, hel, hsp, hns⟩
  · exact .inl ⟨none, 0, h1.1, fun _ => rfl⟩
  by_cases hz : len = 0
  · subst hz; exact .inl ⟨some a, cap, rfl, fun e => by cases e⟩
  have each : ∀ i, ∃ xs : List Int, i < len → (∀ c, c < fs.size → w.cell? ((a.add (i * fs.size)).add c) = some (.int .i64 (xs.getD c 0)) ∧ (Lit.int .i64 (xs.getD c 0)).wf = true) := by
    intro i
    by_cases hi : i < len
    · have h2 := hel i hi
      have hy : elems[i]? = some (elems[i]'(by omega)) := List.getElem?_eq_getElem (by omega)
      rw [hy, Option.bind_eq_some_iff] at h2
      obtain ⟨cs', hcs, hy'⟩ := h2
      obtain ⟨xs, hxl, rfl, hw⟩ := ints_of_trod he hone hint hC hy'
      rw [hC] at hcs
      obtain ⟨_, _, hcell⟩ := World.cells?_some hcs
      refine ⟨xs, fun _ c hc => ⟨(hcell c hc).trans ?_, ?_⟩⟩
      · simp [List.getD, show c < xs.length by omega]
      · apply hw
        simp [List.getD, show c < xs.length by omega]
    · exact ⟨[], fun h => absurd h hi⟩
  obtain ⟨f, hf⟩ := Classical.axiomOfChoice each
  have hc0 := (hf 0 (by omega) 0 h0).1
  rw [Nat.zero_mul, show (a.add 0).add 0 = a from by simp [Addr.add]] at hc0
  obtain ⟨b, off, spot⟩ := a
  have hspot : spot = none := World.cell?_spot hc0
  subst hspot
  refine .inr ⟨b, off, len, cap, fun i c => (f i).getD c 0, rfl, by omega, by omega, World.block_lt_of_cell? w _ hc0, fun i hi c hc => ?_⟩
  have q := hf i hi c hc
  rw [add_none, add_none] at q
  exact q
end

open Go.Deep

set_option maxRecDepth 100000 in
theorem lifted (os : Os) (started : os.Started) (H : Type) (enc : TypeId × Value → H) :
    ReturnsInHanded {} Try.checked os 6 .any (Rows.ladderRunSpec.pre6 enc Try.prog Try.f6 Rows.ladderRunRow.domain false) (Rows.ladderRunSpec.post enc Try.prog Try.f6 false true false false) := by
  refine returnsInHanded_of_change (C := Try.checked) own started (by kernel_rfl) Try.func6
    (ChangeSpec.witness6 (enc := enc) (C := Try.checked) false ⟨#[], #[.agg #[.int .i64 0, .int .i64 0, .int .i64 0, .int .i64 0, .int .i64 0, .int .i64 0, .int .i64 0, .int .i64 0, .int .i64 0, .int .i64 0, .int .i64 0], .slice none 0 0, .int .i64 0], []⟩ 8 (by kernel_rfl) (by kernel_rfl) (by kernel_rfl) (by kernel_rfl)) ?_
  intro W base args ds gs before hval0 hW hcnd _
  have hval : ∀ (j : Nat) t v, Try.f6.params[j]? = some t → args[j]? = some v → Value.okWide Try.prog W .any base t v := hval0
  have hW' := hW
  obtain ⟨p, q, hA0, hV, rfl, hfz, hnd⟩ := hW
  have hA : DataW.TrodAll enc Try.prog W 0 (fun _ => true) true Try.f6.params.toList args.toList ds p := hA0
  rw [Try.params6] at hA hval
  obtain ⟨v0, vs0, d0, ds0, p0, q0, hargs, rfl, rfl, k0, r0⟩ := trodAll_cons hA
  obtain ⟨v1, vs1, d1, ds1, p1, q1, rfl, rfl, rfl, k1, r1⟩ := trodAll_cons r0
  obtain ⟨v2, vs2, d2, ds2, p2, q2, rfl, rfl, rfl, k2, r2⟩ := trodAll_cons r1
  obtain ⟨rfl, rfl, rfl⟩ := trodAll_nil r2
  obtain rfl : args = #[v0, v1, v2] := by cases args; simp_all
  obtain ⟨rfl, rfl⟩ := trodVars_none hV
  have hv0 := hval 0 27 v0 rfl rfl
  have lt0 : ∀ x ∈ p0, x.block < W.heap.size := by (obtain ⟨m, hm⟩ := k0; exact DataW.trod_lt m _ _ _ hm)
  have hv1 := hval 1 50 v1 rfl rfl
  have lt1 : ∀ x ∈ p1, x.block < W.heap.size := by (obtain ⟨m, hm⟩ := k1; exact DataW.trod_lt m _ _ _ hm)
  have hv2 := hval 2 3 v2 rfl rfl
  have lt2 : ∀ x ∈ p2, x.block < W.heap.size := by (obtain ⟨m, hm⟩ := k2; exact DataW.trod_lt m _ _ _ hm)
  obtain ⟨xs, e1, rfl, _⟩ := open_ints_agg Try.underlying27 (by kernel_rfl) (by kernel_rfl) (by kernel_rfl) hv0 k0
  obtain ⟨k, op, cl, st, sp, ex, la, fl, fa, co, ru, rfl⟩ := list11 e1
  have w1 : ∃ so sc L zz, v1 = .slice so L sc ∧ runs.RowB W so sc L zz ∧ ∀ j, j < L → zz j 2 ≤ 9223372036854775807 := by
    obtain ⟨a0, len0, cap0, rfl⟩ := okWide_slice Try.underlying50 hv1
    obtain ⟨fuel, hf⟩ := k1
    rcases open_int_rows Try.underlying50 Try.underlying35 (by kernel_rfl) (by kernel_rfl) (by kernel_rfl) (by decide) hf with ⟨ao, cap, hcs, hn⟩ | ⟨b, off, len, cap, zz, hcs, _, hm, hb, hc⟩
    · simp [Value.cells] at hcs
      obtain ⟨rfl, rfl, rfl⟩ := hcs
      exact ⟨_, _, 0, fun _ _ => 0, rfl, ⟨fun h => ⟨rfl, hn h⟩, fun ad e j u hu => by simp [runs.flat4] at hu, by decide⟩, fun j hj => by omega⟩
    · simp [Value.cells] at hcs
      obtain ⟨rfl, rfl, rfl⟩ := hcs
      refine ⟨_, _, len0, zz, rfl, ⟨(fun h => by cases h), fun ad e j u hu => ?_, hm⟩, fun j hj => ?_⟩
      · cases e
        have hj : j < len0 * 4 := by
          have := (List.getElem?_eq_some_iff.1 hu).1
          rwa [runs.flat4_length] at this
        have q := (hc (j / 4) (by omega) (j % 4) (by (show j % 4 < 4); omega)).1
        rw [show j = j / 4 * 4 + j % 4 by omega, runs.flat4_at zz len0 (j / 4) (j % 4) (by omega) (by omega)] at hu
        rw [← hu, add_none, ← q]
        exact congrArg _ (by (show (⟨b, off + j, none⟩ : Addr) = ⟨b, off + j / 4 * 4 + j % 4, none⟩); congr 1; omega)
      · have hw := (hc j hj 2 (by decide)).2
        simp [Lit.wf, IntKind.min, IntKind.max, IntKind.bits, IntKind.signed] at hw
        exact (by omega : zz j 2 ≤ 9223372036854775807)
  obtain ⟨so, sc, L, zz, rfl, hrb, hzz⟩ := w1
  obtain ⟨leave, rfl, rfl, rfl, w2⟩ := open_int Try.underlying3 hv2 k2
  refine (runs.LadderRun_c k op cl st sp ex la fl fa co ru so sc L zz leave W hrb hzz).mono fun e W' ⟨he, bel⟩ => ?_
  subst he
  exact ⟨_, rfl, _, _, _, [], _, [], hW', trodAll_mk1 (shut_bool Try.underlying4 _), (trodAll_cons_mk (Below.trod laidOut (by kernel_rfl) (of_decide_eq_true (by kernel_rfl)) k0 bel lt0) (trodAll_cons_mk (Below.trod laidOut (by kernel_rfl) (of_decide_eq_true (by kernel_rfl)) k1 bel lt1) (trodAll_cons_mk (Below.trod laidOut (by kernel_rfl) (of_decide_eq_true (by kernel_rfl)) k2 bel lt2) trodAll_mk0))), rfl, bel.frame _, fun h => by cases h⟩

theorem over : Rows.ladderRunRow.holds Try.pinned (OpenSpec.ofChange Rows.ladderRunSpec) :=
  OpenClaim.holds_of_wide 6 Try.f6 rfl rfl rfl rfl rfl rfl rfl ⟨rfl, rfl, rfl, rfl, rfl⟩ rfl rfl rfl rfl rfl (by kernel_rfl) Try.func6 (by kernel_rfl)
    (of_decide_eq_true (by kernel_rfl)) (by unfold Func.isWrapper; first | (rw [if_pos (by decide +kernel)]; kernel_rfl) | (rw [if_neg (by decide +kernel)]; exact ⟨rfl, rfl⟩))
    (fun os started H enc _ => lifted os started H enc)
end Go.Proofs.Ytbbdneekfejjkaa.ladderRun
namespace Go.Proofs.Ytbbdneekfejjkaa
theorem ladderRun_holds : Rows.LadderRunSaid := ladderRun.over
#print axioms ladderRun_holds
end Go.Proofs.Ytbbdneekfejjkaa
