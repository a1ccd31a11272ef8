/-
  The law WirePairs of the given program, where what comes in is of bulk at most 1048576, returns true, and what is handed in stays.
-/
import Derived.Test.YtajkgecegefnmaaB1
import Derived.Test.YtajkgecegefnmaaV9
import Derived.JoinedCond
namespace Go.Proofs.Ytajkgecegefnmaa.wirePairs
open Go.ChangeShapes Go.WideShapes Go.ChangeAt Go.RowKit
set_option linter.unusedVariables false
theorem own : ownKnob Try.prog.godebug = none := by kernel_rfl
theorem laidOut : laidOutB Try.prog = true := by kernel_rfl

theorem bulk_one {H : Type} (d : DataW H) : 1 ≤ Rows.uptoBulk d := by
  cases d with
  | lit l => cases l <;> simp [Rows.uptoBulk]
  | nil => simp [Rows.uptoBulk]
  | ptr d => simp [Rows.uptoBulk]
  | slice elems spare => simp [Rows.uptoBulk]
  | agg parts => simp [Rows.uptoBulk]
  | iface t d => simp [Rows.uptoBulk]
  | map entries => simp [Rows.uptoBulk]
  | held h => simp [Rows.uptoBulk]
theorem bulk_part {H : Type} {d : DataW H} {l : List (DataW H)} (h : d ∈ l) : Rows.uptoBulk d ≤ Rows.uptoBulkAll l := by
  induction l with
  | nil => cases h
  | cons x r ih =>
    simp only [Rows.uptoBulkAll]
    cases List.mem_cons.1 h with
    | inl e => subst e; omega
    | inr e => have := ih e; omega
theorem bulk_len {H : Type} (l : List (DataW H)) : l.length ≤ Rows.uptoBulkAll l := by
  induction l with
  | nil => simp [Rows.uptoBulkAll]
  | cons x r ih => have := bulk_one x; simp only [Rows.uptoBulkAll, List.length_cons]; omega
theorem bulk_slice {H : Type} (elems spare : List (DataW H)) : elems.length + spare.length + 1 ≤ Rows.uptoBulk (.slice elems spare) := by
  have h1 := bulk_len elems
  have h2 := bulk_len spare
  simp only [Rows.uptoBulk]
  omega
theorem bulk_all {H : Type} {l : List (DataW H)} (hk : Rows.uptoSmall H l = true) : Rows.uptoBulkAll l ≤ 1048576 := of_decide_eq_true hk

theorem walk (ao : Option Addr) (cap : Nat) (ns : List Nat) (m : Int) (w : World) (hb : Row8 w ao cap ns) (hm : (Lit.int .i64 m).wf = true) : Calls Try.prog 4 #[.slice ao ns.length cap, .int .i64 m] w fun e w' => e = .returned (.bool true) ∧ Below w.heap.size w w' := by
  have hm2 : m ≤ 9223372036854775807 := by
    simp [Lit.wf, IntKind.min, IntKind.max, IntKind.bits, IntKind.signed] at hm
    omega
  by_cases h : m < 0
  · exact WirePairs_neg ao cap ns m w hb h
  · obtain ⟨k, rfl⟩ : ∃ k : Nat, m = (k : Int) := ⟨m.toNat, by omega⟩
    have hk : k ≤ 9223372036854775807 := by omega
    by_cases hE : (rd ns 0).2.1 = 0
    · by_cases hM : k < (rd ns 0).1
      · exact WirePairs_B ao cap ns k w hb hk hE hM
      · by_cases hL : ns.length - (rd ns 0).2.2 < (rd ns 0).1
        · exact WirePairs_C ao cap ns k w hb hk hE hM hL
        · exact WirePairs_D ao cap ns k w hb hk hE hM hL
    · exact WirePairs_A ao cap ns k w hb hk hE
theorem u8_wf {x : Int} (h : (Lit.int .u8 x).wf = true) : 0 ≤ x ∧ x < 256 := by
  simp [Lit.wf, IntKind.min, IntKind.max, IntKind.bits, IntKind.signed] at h
  omega
theorem row_slice {w : World} {x : Addr} {l c : Nat} {zs : List Int} (hl : l ≤ c) (hz : zs.length = c) (hb : c ≤ 1048576) (hw : ∀ n ∈ zs, (Lit.int .u8 n).wf = true)
    (hcell : ∀ i, i < zs.length → w.cell? (x.add i) = some (.int .u8 (zs.getD i 0))) : ∃ ns : List Nat, ns.length = l ∧ Row8 w (some x) c ns := by
  refine ⟨(zs.take l).map Int.toNat, (by (simp; omega)), ⟨(fun h => by cases h), fun hn => ?_, fun y hy => ?_, (by (simp; omega)), (by (simp; omega))⟩⟩
  · have h0 : 0 < l := by
      rcases Nat.eq_zero_or_pos l with h | h
      · subst h; exact absurd (by simp) hn
      · exact h
    obtain ⟨b, off, spot⟩ := x
    have hc := hcell 0 (by omega)
    have hspot : spot = none := by simpa [Addr.add] using World.cell?_spot hc
    subst hspot
    refine ⟨b, off, rfl, World.block_lt_of_cell? w _ hc, fun j hj => ?_⟩
    have hj' : j < l := by simp at hj; omega
    have ha : (⟨b, off, none⟩ : Addr).add j = ⟨b, off + j, none⟩ := by
      unfold Addr.add
      split
      · (rename_i h; subst h; rfl)
      · rfl
    have q := hcell j (by omega)
    rw [ha] at q
    rw [q]
    have hr := u8_wf (hw (zs.getD j 0) (by (have e : zs.getD j 0 = zs[j]'(by omega) := by simp [List.getD, show j < zs.length by omega]); rw [e]; exact List.getElem_mem _))
    have e2 : ((zs.take l).map Int.toNat).getD j 0 = (zs.getD j 0).toNat := by simp [List.getD, hj', show j < zs.length by omega]
    rw [e2]
    congr 2
    omega
  · obtain ⟨z, hz2, rfl⟩ := List.mem_map.1 hy
    have := u8_wf (hw z (List.mem_of_mem_take hz2))
    omega

set_option maxRecDepth 100000 in
theorem contract (H : Type) (enc : TypeId × Value → H) (W : World) (base : Nat) (args : Array Value) (ds gs : List (DataW H)) (before : List MemPlace)
    (hval0 : ∀ (j : Nat) t v, Try.f4.params[j]? = some t → args[j]? = some v → Value.okWide Try.prog W .any base t v)
    (hW : DataW.Whole enc Try.prog Try.f4.params.toList Rows.wirePairsSpec.vars false W args.toList ds gs before) (hk : Rows.uptoSmall H (ds ++ gs) = true) :
    Calls Try.prog 4 args W fun e W' => ∃ v, e = .returned v ∧ Rows.wirePairsSpec.post enc Try.prog Try.f4 false true false false W args v W' := by
  have hval : ∀ (j : Nat) t v, Try.f4.params[j]? = some t → args[j]? = some v → Value.okWide Try.prog W .any base t v := hval0
  have hW' := hW
  obtain ⟨p, q, hA0, hV, rfl, hfz, hnd⟩ := hW
  have hA : DataW.TrodAll enc Try.prog W 0 (fun _ => true) true Try.f4.params.toList args.toList ds p := hA0
  have hbulk := bulk_all hk
  rw [Try.params4] at hA hval
  obtain ⟨v0, vs0, d0, ds0, p0, q0, hargs, rfl, rfl, k0, r0⟩ := trodAll_cons hA
  obtain ⟨v1, vs1, d1, ds1, p1, q1, rfl, rfl, rfl, k1, r1⟩ := trodAll_cons r0
  obtain ⟨rfl, rfl, rfl⟩ := trodAll_nil r1
  obtain rfl : args = #[v0, v1] := by cases args; simp_all
  obtain ⟨rfl, rfl⟩ := trodVars_none hV
  have hv0 := hval 0 28 v0 rfl rfl
  have lt0 : ∀ x ∈ p0, x.block < W.heap.size := by (obtain ⟨m, hm⟩ := k0; exact DataW.trod_lt m _ _ _ hm)
  have hv1 := hval 1 3 v1 rfl rfl
  have lt1 : ∀ x ∈ p1, x.block < W.heap.size := by (obtain ⟨m, hm⟩ := k1; exact DataW.trod_lt m _ _ _ hm)
  have w0 : ∃ ao cap ns, v0 = .slice ao (List.length ns) cap ∧ Row8 W ao cap ns := by
    obtain ⟨a0, len0, cap0, rfl⟩ := okWide_slice Try.underlying28 hv0
    obtain ⟨fuel, hf⟩ := k0
    rcases open_ints Try.underlying28 Try.underlying5 (by kernel_rfl) hf with ⟨hcs, _⟩ | ⟨x, l, c, zs, hcs, _, hl, hm, hz, hx, hcell, hwz⟩
    · simp [Value.cells] at hcs
      obtain ⟨rfl, rfl, rfl⟩ := hcs
      exact ⟨none, 0, [], rfl, ⟨fun _ => ⟨rfl, rfl⟩, fun h => absurd rfl h, (fun x hx => by cases hx), (by (simp only [List.length_nil]; omega)), Nat.le_refl _⟩⟩
    · simp [Value.cells] at hcs
      obtain ⟨rfl, rfl, rfl⟩ := hcs
      have hz' : zs.length = cap0 := by simpa using hz
      have hd := (Prod.mk.inj hx).1
      subst hd
      have h2 := bulk_slice (H := H) (lits .u8 (zs.take len0)) (lits .u8 (zs.drop len0))
      have h3 : cap0 ≤ 1048576 := by
        have q := Nat.le_trans h2 (Nat.le_trans (bulk_part (List.mem_append_left _ (List.mem_cons_self ..))) hbulk)
        simp only [lits, List.length_map, List.length_take, List.length_drop] at q
        omega
      obtain ⟨ns, hn, hr⟩ := row_slice hl hz' h3 hwz hcell
      exact ⟨_, _, ns, by rw [hn], hr⟩
  obtain ⟨ao, cap, ns, rfl, hrow⟩ := w0
  obtain ⟨m, rfl, _, _, hwm⟩ := open_int Try.underlying3 hv1 k1
  refine (walk ao cap ns m W hrow hwm).mono fun e W' ⟨he, bel⟩ => ?_
  subst he
  exact ⟨_, rfl, _, _, _, [], _, [], hW', trodAll_mk1 (shut_bool Try.underlying4 _), (trodAll_cons_mk (Below.trod laidOut (by kernel_rfl) (of_decide_eq_true (by kernel_rfl)) k0 bel lt0) (trodAll_cons_mk (Below.trod laidOut (by kernel_rfl) (of_decide_eq_true (by kernel_rfl)) k1 bel lt1) trodAll_mk0)), rfl, bel.frame _, fun h => by cases h⟩

set_option maxRecDepth 100000 in
theorem lifted (os : Os) (started : os.Started) (H : Type) (enc : TypeId × Value → H) (F : Stop.Interp) :
    ReturnsInHanded {} Try.checked os 4 .any ((Rows.OpenSpec.upto Rows.wirePairsSpec).pre6 enc Try.prog Try.f4 Rows.wirePairsUptoRow.domain false) (((Rows.OpenSpec.upto Rows.wirePairsSpec).at F).post enc Try.prog Try.f4 false true false false) := by
  refine returnsInHanded_of_cond (C := Try.checked) (s := Rows.OpenSpec.upto Rows.wirePairsSpec) (k := Rows.uptoSmall) rfl own started (by kernel_rfl) Try.func4
    (OpenSpec.witness (enc := enc) (C := Try.checked) (s := Rows.OpenSpec.upto Rows.wirePairsSpec) (k := Rows.uptoSmall) rfl false ⟨#[], #[.slice none 0 0, .int .i64 0], []⟩ 8 (by kernel_rfl) (by kernel_rfl) (by kernel_rfl)
      (x := ([.nil, .lit (.int .i64 0)], [], [])) (by kernel_rfl) rfl (by kernel_rfl)) ?_
  intro W base args ds gs before hval hW _ hk _
  exact contract H enc W base args ds gs before hval hW hk

theorem over : Rows.wirePairsUptoRow.holds Try.pinned (Rows.OpenSpec.upto Rows.wirePairsSpec) :=
  OpenClaim.holds_of_cond 4 Try.f4 rfl rfl rfl rfl rfl rfl rfl ⟨rfl, rfl, rfl, rfl, rfl⟩ rfl rfl rfl rfl rfl (by kernel_rfl) Try.func4 (by kernel_rfl)
    (of_decide_eq_true (by kernel_rfl)) (by unfold Func.isWrapper; first | (rw [if_pos (by decide +kernel)]; kernel_rfl) | (rw [if_neg (by decide +kernel)]; exact ⟨rfl, rfl⟩))
    (fun os started H enc _ F => lifted os started H enc F)
end Go.Proofs.Ytajkgecegefnmaa.wirePairs
namespace Go.Proofs.Ytajkgecegefnmaa
theorem wirePairs_upto_holds : Rows.WirePairsUptoSaid := wirePairs.over
#print axioms wirePairs_upto_holds
end Go.Proofs.Ytajkgecegefnmaa
