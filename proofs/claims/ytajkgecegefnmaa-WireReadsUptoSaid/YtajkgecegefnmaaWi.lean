/-
  The law WireReads of the given program, where what comes in is of bulk at most 1048576, returns true, and what is handed in stays.
-/
import Derived.Test.YtajkgecegefnmaaB1
import Derived.Test.YtajkgecegefnmaaWh
import Derived.Deep.MidRow
import Derived.JoinedCond
namespace Go.Proofs.Ytajkgecegefnmaa.wireReads
open Go.ChangeShapes Go.WideShapes Go.ChangeAt Go.RowKit
set_option linter.unusedVariables false
theorem own : ownKnob Try.prog.godebug = none := by kernel_rfl
theorem laidOut : laidOutB Try.prog = true := by kernel_rfl

theorem bulk_one {H : Type} (d : DataW H) : 1 ≤ Rows.uptoBulk d := by
  cases d with
  | lit l => cases l <;> simp [Rows.uptoBulk]
  | nil => simp [Rows.uptoBulk]
  | ptr d => simp [Rows.uptoBulk]
  | slice elems spare => simp [Rows.uptoBulk]
  | agg parts => simp [Rows.uptoBulk]
  | iface t d => simp [Rows.uptoBulk]
  | map entries => simp [Rows.uptoBulk]
  | held h => simp [Rows.uptoBulk]
theorem bulk_part {H : Type} {d : DataW H} {l : List (DataW H)} (h : d ∈ l) : Rows.uptoBulk d ≤ Rows.uptoBulkAll l := by
  induction l with
  | nil => cases h
  | cons x r ih =>
    simp only [Rows.uptoBulkAll]
    cases List.mem_cons.1 h with
    | inl e => subst e; omega
    | inr e => have := ih e; omega
theorem bulk_len {H : Type} (l : List (DataW H)) : l.length ≤ Rows.uptoBulkAll l := by
  induction l with
  | nil => simp [Rows.uptoBulkAll]
  | cons x r ih => have := bulk_one x; simp only [Rows.uptoBulkAll, List.length_cons]; omega
theorem bulk_slice {H : Type} (elems spare : List (DataW H)) : elems.length + spare.length + 1 ≤ Rows.uptoBulk (.slice elems spare) := by
  have h1 := bulk_len elems
  have h2 := bulk_len spare
  simp only [Rows.uptoBulk]
  omega
theorem bulk_all {H : Type} {l : List (DataW H)} (hk : Rows.uptoSmall H l = true) : Rows.uptoBulkAll l ≤ 1048576 := of_decide_eq_true hk

section
open Go.Deep
variable {H : Type} {enc : TypeId × Value → H} {P : Program} {w : World} {base : Nat} {spare : Nat → Bool} {held : Bool}
theorem ints_of_trod {t : TypeId} {fs : Array Field} {fuel : Nat} {l : List Value} {x : DataW H × List MemPlace} (hs : P.underlying t = some (.struct fs)) (hone : oneCellFields P fs = true) (hint : allInts P fs = true) (hC : P.cellsOf t = fs.size)
    (hf : DataW.trod enc P w base spare held fuel t l = some x) : ∃ xs : List Int, xs.length = fs.size ∧ l = xs.map (Value.int .i64) ∧ ∀ x ∈ xs, (Lit.int .i64 x).wf = true := by
  obtain ⟨ys, n, _, hx, hlc, hlen, hg⟩ := DataW.trod_struct hs hf
  have hl : l.length = fs.size := hlc.trans hC
  have cell : ∀ i, i < l.length → ∃ x, l[i]? = some (Value.int .i64 x) ∧ (Lit.int .i64 x).wf = true := by
    intro i hi
    have hfi : fs[i]? = some (fs[i]'(by omega)) := Array.getElem?_eq_getElem (by omega)
    obtain ⟨ho, hk⟩ := hone_of hone i _ hfi
    have h1 := hg i _ hfi
    rw [ho, hk] at h1
    have hone' : (l.drop i).take 1 = [l[i]] := by
      rw [List.drop_eq_getElem_cons (by omega)]
      rfl
    rw [hone'] at h1
    have hys : ys[i]? = some (ys[i]'(by omega)) := List.getElem?_eq_getElem (by omega)
    rw [hys] at h1
    obtain ⟨x, hx, _, hw⟩ := DataW.trod_int (ints_of hint i _ hfi) h1
    refine ⟨x, ?_, hw⟩
    rw [List.getElem?_eq_getElem hi]
    simpa using hx
  clear hx hg hf
  have : ∀ l : List Value, (∀ i, i < l.length → ∃ x, l[i]? = some (Value.int .i64 x) ∧ (Lit.int .i64 x).wf = true) → ∃ xs : List Int, xs.length = l.length ∧ l = xs.map (Value.int .i64) ∧ ∀ x ∈ xs, (Lit.int .i64 x).wf = true := by
    intro l
    induction l with
    | nil => intro _; exact ⟨[], rfl, rfl, by simp⟩
    | cons a r ih =>
      intro hc
      obtain ⟨x, hx, hw⟩ := hc 0 (by simp)
      obtain ⟨xs, e1, e2, e3⟩ := ih (fun i hi => by simpa using hc (i + 1) (by simpa using hi))
      refine ⟨x :: xs, by simp [e1], ?_, ?_⟩
      · simp at hx
        rw [hx, e2]; rfl
      · intro y hy
        rcases List.mem_cons.1 hy with rfl | hy
        · exact hw
        · exact e3 y hy
  obtain ⟨xs, e1, e2, e3⟩ := this l cell
  exact ⟨xs, by omega, e2, e3⟩
theorem add_none (b off m : Nat) : (⟨b, off, none⟩ : Addr).add m = ⟨b, off + m, none⟩ := by
  unfold Addr.add
  split
  · (rename_i h; subst h; rfl)
  · rfl
/-- a slice of structs that are int64s alone, in memory: nil, empty, or rows of numbers -/
theorem open_int_rows {t e : TypeId} {fs : Array Field} {fuel : Nat} {cs : List Value} {x : DataW H × List MemPlace} (ht : P.underlying t = some (.slice e)) (he : P.underlying e = some (.struct fs)) (hone : oneCellFields P fs = true) (hint : allInts P fs = true) (hC : P.cellsOf e = fs.size) (h0 : 0 < fs.size)
    (h : DataW.trod enc P w base spare held fuel t cs = some x) :
    (∃ ao cap, cs = [.slice ao 0 cap]) ∨
    ∃ (b off len cap : Nat) (zz : Nat → Nat → Int), cs = [.slice (some ⟨b, off, none⟩) len cap] ∧ 0 < len ∧ len ≤ maxLen ∧ b < w.heap.size ∧ (∀ i, i < len → ∀ c, c < fs.size → w.cell? ⟨b, off + i * fs.size + c, none⟩ = some (.int .i64 (zz i c)) ∧ (Lit.int .i64 (zz i c)).wf = true) := by
  rcases DataW.trod_slice ht h with h1 | ⟨a, len, cap, elems, rest, n, _, rfl, rfl, hb, hl, hm, hlen, hel, hsp, hns⟩
  · exact .inl ⟨none, 0, h1.1⟩
  by_cases hz : len = 0
  · subst hz; exact .inl ⟨some a, cap, rfl⟩
  have each : ∀ i, ∃ xs : List Int, i < len → (∀ c, c < fs.size → w.cell? ((a.add (i * fs.size)).add c) = some (.int .i64 (xs.getD c 0)) ∧ (Lit.int .i64 (xs.getD c 0)).wf = true) := by
    intro i
    by_cases hi : i < len
    · have h2 := hel i hi
      have hy : elems[i]? = some (elems[i]'(by omega)) := List.getElem?_eq_getElem (by omega)
      rw [hy, Option.bind_eq_some_iff] at h2
      obtain ⟨cs', hcs, hy'⟩ := h2
      obtain ⟨xs, hxl, rfl, hw⟩ := ints_of_trod he hone hint hC hy'
      rw [hC] at hcs
      obtain ⟨_, _, hcell⟩ := World.cells?_some hcs
      refine ⟨xs, fun _ c hc => ⟨(hcell c hc).trans ?_, ?_⟩⟩
      · simp [List.getD, show c < xs.length by omega]
      · apply hw
        simp [List.getD, show c < xs.length by omega]
    · exact ⟨[], fun h => absurd h hi⟩
  obtain ⟨f, hf⟩ := Classical.axiomOfChoice each
  have hc0 := (hf 0 (by omega) 0 h0).1
  rw [Nat.zero_mul, show (a.add 0).add 0 = a from by simp [Addr.add]] at hc0
  obtain ⟨b, off, spot⟩ := a
  have hspot : spot = none := World.cell?_spot hc0
  subst hspot
  refine .inr ⟨b, off, len, cap, fun i c => (f i).getD c 0, rfl, by omega, by omega, World.block_lt_of_cell? w _ hc0, fun i hi c hc => ?_⟩
  have q := hf i hi c hc
  rw [add_none, add_none] at q
  exact q
end
theorem u8_wf {x : Int} (h : (Lit.int .u8 x).wf = true) : 0 ≤ x ∧ x < 256 := by
  simp [Lit.wf, IntKind.min, IntKind.max, IntKind.bits, IntKind.signed] at h
  omega
theorem row_slice {w : World} {x : Addr} {l c : Nat} {zs : List Int} (hl : l ≤ c) (hz : zs.length = c) (hb : c ≤ 1048576) (hw : ∀ n ∈ zs, (Lit.int .u8 n).wf = true)
    (hcell : ∀ i, i < zs.length → w.cell? (x.add i) = some (.int .u8 (zs.getD i 0))) : ∃ ns : List Nat, ns.length = l ∧ Row8 w (some x) c ns := by
  refine ⟨(zs.take l).map Int.toNat, (by (simp; omega)), ⟨(fun h => by cases h), fun hn => ?_, fun y hy => ?_, (by (simp; omega)), (by (simp; omega))⟩⟩
  · have h0 : 0 < l := by
      rcases Nat.eq_zero_or_pos l with h | h
      · subst h; exact absurd (by simp) hn
      · exact h
    obtain ⟨b, off, spot⟩ := x
    have hc := hcell 0 (by omega)
    have hspot : spot = none := by simpa [Addr.add] using World.cell?_spot hc
    subst hspot
    refine ⟨b, off, rfl, World.block_lt_of_cell? w _ hc, fun j hj => ?_⟩
    have hj' : j < l := by simp at hj; omega
    have ha : (⟨b, off, none⟩ : Addr).add j = ⟨b, off + j, none⟩ := by
      unfold Addr.add
      split
      · (rename_i h; subst h; rfl)
      · rfl
    have q := hcell j (by omega)
    rw [ha] at q
    rw [q]
    have hr := u8_wf (hw (zs.getD j 0) (by (have e : zs.getD j 0 = zs[j]'(by omega) := by simp [List.getD, show j < zs.length by omega]); rw [e]; exact List.getElem_mem _))
    have e2 : ((zs.take l).map Int.toNat).getD j 0 = (zs.getD j 0).toNat := by simp [List.getD, hj', show j < zs.length by omega]
    rw [e2]
    congr 2
    omega
  · obtain ⟨z, hz2, rfl⟩ := List.mem_map.1 hy
    have := u8_wf (hw z (List.mem_of_mem_take hz2))
    omega

set_option maxRecDepth 100000 in
theorem contract (H : Type) (enc : TypeId × Value → H) (W : World) (base : Nat) (args : Array Value) (ds gs : List (DataW H)) (before : List MemPlace)
    (hval0 : ∀ (j : Nat) t v, Try.f6.params[j]? = some t → args[j]? = some v → Value.okWide Try.prog W .any base t v)
    (hW : DataW.Whole enc Try.prog Try.f6.params.toList Rows.wireReadsSpec.vars false W args.toList ds gs before) (hk : Rows.uptoSmall H (ds ++ gs) = true) :
    Calls Try.prog 6 args W fun e W' => ∃ v, e = .returned v ∧ Rows.wireReadsSpec.post enc Try.prog Try.f6 false true false false W args v W' := by
  have hval : ∀ (j : Nat) t v, Try.f6.params[j]? = some t → args[j]? = some v → Value.okWide Try.prog W .any base t v := hval0
  have hW' := hW
  obtain ⟨p, q, hA0, hV, rfl, hfz, hnd⟩ := hW
  have hA : DataW.TrodAll enc Try.prog W 0 (fun _ => true) true Try.f6.params.toList args.toList ds p := hA0
  have hbulk := bulk_all hk
  rw [Try.params6] at hA hval
  obtain ⟨v0, vs0, d0, ds0, p0, q0, hargs, rfl, rfl, k0, r0⟩ := trodAll_cons hA
  obtain ⟨v1, vs1, d1, ds1, p1, q1, rfl, rfl, rfl, k1, r1⟩ := trodAll_cons r0
  obtain ⟨rfl, rfl, rfl⟩ := trodAll_nil r1
  obtain rfl : args = #[v0, v1] := by cases args; simp_all
  obtain ⟨rfl, rfl⟩ := trodVars_none hV
  have hv0 := hval 0 28 v0 rfl rfl
  have lt0 : ∀ x ∈ p0, x.block < W.heap.size := by (obtain ⟨m, hm⟩ := k0; exact DataW.trod_lt m _ _ _ hm)
  have hv1 := hval 1 64 v1 rfl rfl
  have lt1 : ∀ x ∈ p1, x.block < W.heap.size := by (obtain ⟨m, hm⟩ := k1; exact DataW.trod_lt m _ _ _ hm)
  have w0 : ∃ ao cap ns, v0 = .slice ao (List.length ns) cap ∧ Row8 W ao cap ns ∧ ns.length ≤ 1048576 := by
    obtain ⟨a0, len0, cap0, rfl⟩ := okWide_slice Try.underlying28 hv0
    obtain ⟨fuel, hf⟩ := k0
    rcases open_ints Try.underlying28 Try.underlying5 (by kernel_rfl) hf with ⟨hcs, _⟩ | ⟨x, l, c, zs, hcs, _, hl, hm, hz, hx, hcell, hwz⟩
    · simp [Value.cells] at hcs
      obtain ⟨rfl, rfl, rfl⟩ := hcs
      exact ⟨none, 0, [], rfl, ⟨fun _ => ⟨rfl, rfl⟩, fun h => absurd rfl h, (fun x hx => by cases hx), (by (simp only [List.length_nil]; omega)), Nat.le_refl _⟩, Nat.zero_le _⟩
    · simp [Value.cells] at hcs
      obtain ⟨rfl, rfl, rfl⟩ := hcs
      have hz' : zs.length = cap0 := by simpa using hz
      have hd := (Prod.mk.inj hx).1
      subst hd
      have h2 := bulk_slice (H := H) (lits .u8 (zs.take len0)) (lits .u8 (zs.drop len0))
      have h3 : cap0 ≤ 1048576 := by
        have q := Nat.le_trans h2 (Nat.le_trans (bulk_part (List.mem_append_left _ (List.mem_cons_self ..))) hbulk)
        simp only [lits, List.length_map, List.length_take, List.length_drop] at q
        omega
      obtain ⟨ns, hn, hr⟩ := row_slice hl hz' h3 hwz hcell
      exact ⟨_, _, ns, by rw [hn], hr, by omega⟩
  obtain ⟨ao, cap, ns, rfl, hrow, hsmall⟩ := w0
  have w1 : ∃ so sc qs, v1 = .slice so (List.length qs) sc ∧ RowQ W so qs := by
    obtain ⟨a1, len1, cap1, rfl⟩ := okWide_slice Try.underlying64 hv1
    obtain ⟨fuel, hf⟩ := k1
    rcases open_int_rows (fs := _) Try.underlying64 Try.underlying67 (by kernel_rfl) (by kernel_rfl) (by kernel_rfl) (by decide) hf with ⟨ao2, cap2, hcs⟩ | ⟨b, off, len, cp, zz, hcs, hpos, hm, hb, hz⟩
    · simp [Value.cells] at hcs
      obtain ⟨rfl, rfl, rfl⟩ := hcs
      exact ⟨_, _, [], rfl, ⟨fun h => absurd rfl h, (fun q hq => by cases hq), Nat.zero_le _⟩⟩
    · simp [Value.cells] at hcs
      obtain ⟨rfl, rfl, rfl⟩ := hcs
      refine ⟨_, cap1, (List.range len1).map (fun i => (zz i 0, zz i 1)), by simp, ⟨fun _ => ⟨b, off, rfl, hb, fun i hi => ?_⟩, fun q hq => ?_, by simpa using hm⟩⟩
      · have hi' : i < len1 := by simpa using hi
        have e : ((List.range len1).map (fun i => (zz i 0, zz i 1))).getD i (0, 0) = (zz i 0, zz i 1) := by simp [List.getD, hi']
        rw [e]
        have q0 := (hz i hi' 0 (by decide)).1
        have q1 := (hz i hi' 1 (by decide)).1
        exact ⟨q0, q1⟩
      · obtain ⟨i, hi, rfl⟩ := List.mem_map.1 hq
        have hw := (hz i (by simpa using hi) 1 (by decide)).2
        simp [Lit.wf, IntKind.min, IntKind.max, IntKind.bits, IntKind.signed] at hw
        show zz i 1 ≤ _
        omega
  obtain ⟨so, sc, qs, rfl, hrq⟩ := w1
  refine (WireReads_c ao so cap sc ns qs W hrow hrq hsmall).mono fun e W' ⟨he, bel⟩ => ?_
  subst he
  exact ⟨_, rfl, _, _, _, [], _, [], hW', trodAll_mk1 (shut_bool Try.underlying4 _), (trodAll_cons_mk (Below.trod laidOut (by kernel_rfl) (of_decide_eq_true (by kernel_rfl)) k0 bel lt0) (trodAll_cons_mk (Below.trod laidOut (by kernel_rfl) (of_decide_eq_true (by kernel_rfl)) k1 bel lt1) trodAll_mk0)), rfl, bel.frame _, fun h => by cases h⟩

set_option maxRecDepth 100000 in
theorem lifted (os : Os) (started : os.Started) (H : Type) (enc : TypeId × Value → H) (F : Stop.Interp) :
    ReturnsInHanded {} Try.checked os 6 .any ((Rows.OpenSpec.upto Rows.wireReadsSpec).pre6 enc Try.prog Try.f6 Rows.wireReadsUptoRow.domain false) (((Rows.OpenSpec.upto Rows.wireReadsSpec).at F).post enc Try.prog Try.f6 false true false false) := by
  refine returnsInHanded_of_cond (C := Try.checked) (s := Rows.OpenSpec.upto Rows.wireReadsSpec) (k := Rows.uptoSmall) rfl own started (by kernel_rfl) Try.func6
    (OpenSpec.witness (enc := enc) (C := Try.checked) (s := Rows.OpenSpec.upto Rows.wireReadsSpec) (k := Rows.uptoSmall) rfl false ⟨#[], #[.slice none 0 0, .slice none 0 0], []⟩ 8 (by kernel_rfl) (by kernel_rfl) (by kernel_rfl)
      (x := ([.nil, .nil], [], [])) (by kernel_rfl) rfl (by kernel_rfl)) ?_
  intro W base args ds gs before hval hW _ hk _
  exact contract H enc W base args ds gs before hval hW hk

theorem over : Rows.wireReadsUptoRow.holds Try.pinned (Rows.OpenSpec.upto Rows.wireReadsSpec) :=
  OpenClaim.holds_of_cond 6 Try.f6 rfl rfl rfl rfl rfl rfl rfl ⟨rfl, rfl, rfl, rfl, rfl⟩ rfl rfl rfl rfl rfl (by kernel_rfl) Try.func6 (by kernel_rfl)
    (of_decide_eq_true (by kernel_rfl)) (by unfold Func.isWrapper; first | (rw [if_pos (by decide +kernel)]; kernel_rfl) | (rw [if_neg (by decide +kernel)]; exact ⟨rfl, rfl⟩))
    (fun os started H enc _ F => lifted os started H enc F)
end Go.Proofs.Ytajkgecegefnmaa.wireReads
namespace Go.Proofs.Ytajkgecegefnmaa
theorem wireReads_upto_holds : Rows.WireReadsUptoSaid := wireReads.over
#print axioms wireReads_upto_holds
end Go.Proofs.Ytajkgecegefnmaa
