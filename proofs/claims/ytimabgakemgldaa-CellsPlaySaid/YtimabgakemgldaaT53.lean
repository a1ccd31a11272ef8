/-
  The law CellsPlay of the given program returns true for every input, and what is handed in stays. No condition.
-/
import Derived.ChangeMaps5
import Derived.Test.YtimabgakemgldaaB1
import Derived.Test.YtimabgakemgldaaT47
import Derived.Test.YtimabgakemgldaaT48
import Derived.Test.YtimabgakemgldaaT49
import Derived.Test.YtimabgakemgldaaT51
import Derived.SizedLaws
import Derived.Conc.Holds
import Derived.Leaving
import Derived.Deep.Fields
namespace Go.Proofs.Ytimabgakemgldaa.cellsPlay
open Go.ChangeShapes Go.WideShapes Go.ChangeAt Go.RowKit
set_option linter.unusedVariables false
theorem own : ownKnob Try.prog.godebug = none := by kernel_rfl
theorem laidOut : laidOutB Try.prog = true := by kernel_rfl

theorem leaving_of_handed {a : Assume} {C : Checked} {os : Os} {f : FuncId} {r : Reach} {Pre : World → Array Value → Prop} {Post : World → Array Value → Value → World → Prop} (h : ReturnsInHanded a C os f r Pre Post) : ReturnsInLeavingWide a C os f r Pre Post := fun enter => by
  obtain ⟨e1, e2, e3, e4, e5⟩ := h enter
  refine ⟨e1, e2, e3, e4, fun w tape i hf => ?_⟩
  obtain ⟨n, v, w', x1, x2, x3, x4, ⟨j, last, y1, y2, z⟩, al⟩ := e5 w tape i hf
  exact ⟨n, v, w', x1, x2, x3, x4, ⟨j, last, y1, y2, z.2.1, onlyLeaving_of_quiet z.1, z.2.2⟩, al⟩

section
open Go.Deep
variable {H : Type} {enc : TypeId × Value → H} {P : Program} {w : World} {base : Nat} {spare : Nat → Bool} {held : Bool}
theorem ints_of_trod {t : TypeId} {fs : Array Field} {fuel : Nat} {l : List Value} {x : DataW H × List MemPlace} (hs : P.underlying t = some (.struct fs)) (hone : oneCellFields P fs = true) (hint : allInts P fs = true) (hC : P.cellsOf t = fs.size)
    (hf : DataW.trod enc P w base spare held fuel t l = some x) : ∃ xs : List Int, xs.length = fs.size ∧ l = xs.map (Value.int .i64) ∧ ∀ x ∈ xs, (Lit.int .i64 x).wf = true := by
  obtain ⟨ys, n, _, hx, hlc, hlen, hg⟩ := DataW.trod_struct hs hf
  have hl : l.length = fs.size := hlc.trans hC
  have cell : ∀ i, i < l.length → ∃ x, l[i]? = some (Value.int .i64 x) ∧ (Lit.int .i64 x).wf = true := by
    intro i hi
    have hfi : fs[i]? = some (fs[i]'(by omega)) := Array.getElem?_eq_getElem (by omega)
    obtain ⟨ho, hk⟩ := hone_of hone i _ hfi
    have h1 := hg i _ hfi
    rw [ho, hk] at h1
    have hone' : (l.drop i).take 1 = [l[i]] := by
      rw [List.drop_eq_getElem_cons (by omega)]
      rfl
    rw [hone'] at h1
    have hys : ys[i]? = some (ys[i]'(by omega)) := List.getElem?_eq_getElem (by omega)
    rw [hys] at h1
    obtain ⟨x, hx, _, hw⟩ := DataW.trod_int (ints_of hint i _ hfi) h1
    refine ⟨x, ?_, hw⟩
    rw [List.getElem?_eq_getElem hi]
    simpa using hx
  clear hx hg hf
  have : ∀ l : List Value, (∀ i, i < l.length → ∃ x, l[i]? = some (Value.int .i64 x) ∧ (Lit.int .i64 x).wf = true) → ∃ xs : List Int, xs.length = l.length ∧ l = xs.map (Value.int .i64) ∧ ∀ x ∈ xs, (Lit.int .i64 x).wf = true := by
    intro l
    induction l with
    | nil => intro _; exact ⟨[], rfl, rfl, by simp⟩
    | cons a r ih =>
      intro hc
      obtain ⟨x, hx, hw⟩ := hc 0 (by simp)
      obtain ⟨xs, e1, e2, e3⟩ := ih (fun i hi => by simpa using hc (i + 1) (by simpa using hi))
      refine ⟨x :: xs, by simp [e1], ?_, ?_⟩
      · simp at hx
        rw [hx, e2]; rfl
      · intro y hy
        rcases List.mem_cons.1 hy with rfl | hy
        · exact hw
        · exact e3 y hy
  obtain ⟨xs, e1, e2, e3⟩ := this l cell
  exact ⟨xs, by omega, e2, e3⟩
theorem add_none (b off m : Nat) : (⟨b, off, none⟩ : Addr).add m = ⟨b, off + m, none⟩ := by
  unfold Addr.add
  split
  · (rename_i h; subst h; rfl)
  · rfl
/-- a slice of structs that are int64s alone, in memory: nil, empty, or rows of numbers -/
theorem open_int_rows {t e : TypeId} {fs : Array Field} {fuel : Nat} {cs : List Value} {x : DataW H × List MemPlace} (ht : P.underlying t = some (.slice e)) (he : P.underlying e = some (.struct fs)) (hone : oneCellFields P fs = true) (hint : allInts P fs = true) (hC : P.cellsOf e = fs.size) (h0 : 0 < fs.size)
    (h : DataW.trod enc P w base spare held fuel t cs = some x) :
    (∃ ao cap, cs = [.slice ao 0 cap]) ∨
    ∃ (b off len cap : Nat) (zz : Nat → Nat → Int), cs = [.slice (some ⟨b, off, none⟩) len cap] ∧ 0 < len ∧ len ≤ maxLen ∧ b < w.heap.size ∧ (∀ i, i < len → ∀ c, c < fs.size → w.cell? ⟨b, off + i * fs.size + c, none⟩ = some (.int .i64 (zz i c)) ∧ (Lit.int .i64 (zz i c)).wf = true) := by
  rcases DataW.trod_slice ht h with h1 | ⟨a, len, cap, elems, rest, n, _, rfl, rfl, hb, hl, hm, hlen, hel, hsp, hns⟩
  · exact .inl ⟨none, 0, h1.1⟩
  by_cases hz : len = 0
  · subst hz; exact .inl ⟨some a, cap, rfl⟩
  have each : ∀ i, ∃ xs : List Int, i < len → (∀ c, c < fs.size → w.cell? ((a.add (i * fs.size)).add c) = some (.int .i64 (xs.getD c 0)) ∧ (Lit.int .i64 (xs.getD c 0)).wf = true) := by
    intro i
    by_cases hi : i < len
    · have h2 := hel i hi
      have hy : elems[i]? = some (elems[i]'(by omega)) := List.getElem?_eq_getElem (by omega)
      rw [hy, Option.bind_eq_some_iff] at h2
      obtain ⟨cs', hcs, hy'⟩ := h2
      obtain ⟨xs, hxl, rfl, hw⟩ := ints_of_trod he hone hint hC hy'
      rw [hC] at hcs
      obtain ⟨_, _, hcell⟩ := World.cells?_some hcs
      refine ⟨xs, fun _ c hc => ⟨(hcell c hc).trans ?_, ?_⟩⟩
      · simp [List.getD, show c < xs.length by omega]
      · apply hw
        simp [List.getD, show c < xs.length by omega]
    · exact ⟨[], fun h => absurd h hi⟩
  obtain ⟨f, hf⟩ := Classical.axiomOfChoice each
  have hc0 := (hf 0 (by omega) 0 h0).1
  rw [Nat.zero_mul, show (a.add 0).add 0 = a from by simp [Addr.add]] at hc0
  obtain ⟨b, off, spot⟩ := a
  have hspot : spot = none := World.cell?_spot hc0
  subst hspot
  refine .inr ⟨b, off, len, cap, fun i c => (f i).getD c 0, rfl, by omega, by omega, World.block_lt_of_cell? w _ hc0, fun i hi c hc => ?_⟩
  have q := hf i hi c hc
  rw [add_none, add_none] at q
  exact q
end

theorem i64_le {x : Int} (h : (Lit.int .i64 x).wf = true) : -9223372036854775808 ≤ x ∧ x ≤ 9223372036854775807 := by
  simp [Lit.wf, IntKind.min, IntKind.max, IntKind.bits, IntKind.signed] at h
  omega
theorem list3 {α : Type} {l : List α} (h : l.length = 3) : ∃ a b c, l = [a, b, c] := by
  match l, h with
  | [a, b, c], _ => exact ⟨a, b, c, rfl⟩

section
variable {H : Type} {enc : TypeId × Value → H} {w : World} {base : Nat} {spare : Nat → Bool} {held : Bool}
theorem bytes48 : Try.prog.bytesOf 48 = 24 := by kernel_rfl
theorem scr_size {fuel : Nat} {cs : List Value} {y : DataW H × List MemPlace} (h : DataW.trod enc Try.prog w base spare held fuel 24 cs = some y) (hw : ∀ n ∈ y.1.weights Try.prog 24, n ≤ reachBytes) {so : Option Addr} {cap n : Nat} (hc : cs = [.slice so n cap]) : n * 24 ≤ 140737488355328 := by
  rcases DataW.trod_slice Try.underlying24 h with ⟨rfl, rfl⟩ | ⟨a, len, cap2, elems, rest, m, _, rfl, rfl, hb, hl, hm, hlen, hel, hsp, hns⟩
  · injection hc with hc _
    injection hc with _ hn _
    omega
  · injection hc with hc _
    injection hc with _ hn _
    have := hw ((elems.length + rest.length) * 24) (by simp [DataW.weights, Try.underlying24, bytes48])
    simp only [reachBytes] at this
    omega
end
theorem play_c (mark gate tick stripes : Int) (cap : Nat) (sp : Option Addr) (l : List (Int × Int × Int)) (w : World) (hs : ScrIn w sp l) (ht2 : tick ≤ 9223372036854775807) :
    Calls Try.prog 3 #[.agg #[.int .i64 mark, .int .i64 gate, .int .i64 tick], .int .i64 stripes, .slice sp l.length cap] w fun e w' => e = .returned (.bool true) ∧ Below w.heap.size w w' := by
  by_cases s1 : stripes < 1
  · by_cases g : gate < 1
    · by_cases t : tick < 0
      · exact Play_lo_b_b mark gate tick stripes _ w s1 g t
      · exact Play_lo_b_o mark gate tick stripes _ w s1 g (by omega)
    · by_cases t : tick < 0
      · exact Play_lo_o_b mark gate tick stripes _ w s1 (by omega) t
      · exact Play_lo_o_o mark gate tick stripes _ w s1 (by omega) (by omega)
  · by_cases s2 : 64 < stripes
    · by_cases g : gate < 1
      · by_cases t : tick < 0
        · exact Play_hi_b_b mark gate tick stripes _ w s2 g t
        · exact Play_hi_b_o mark gate tick stripes _ w s2 g (by omega)
      · by_cases t : tick < 0
        · exact Play_hi_o_b mark gate tick stripes _ w s2 (by omega) t
        · exact Play_hi_o_o mark gate tick stripes _ w s2 (by omega) (by omega)
    · by_cases g : gate < 1
      · by_cases t : tick < 0
        · exact Play_ok_b_b mark gate tick stripes _ w (by omega) (by omega) g t
        · exact Play_ok_b_o mark gate tick stripes _ w (by omega) (by omega) g (by omega)
      · by_cases t : tick < 0
        · exact Play_ok_o_b mark gate tick stripes _ w (by omega) (by omega) (by omega) t
        · have q := Play_ok mark gate tick stripes.toNat cap sp l w hs (by omega) (by omega) (by omega) (by omega) ht2
          rw [Int.toNat_of_nonneg (by omega)] at q
          exact q

set_option maxRecDepth 100000 in
theorem lifted (os : Os) (started : os.Started) (H : Type) (enc : TypeId × Value → H) :
    ReturnsInHanded {} Try.checked os 3 .any (Rows.cellsPlaySpec.pre6 enc Try.prog Try.f3 Rows.cellsPlayRow.domain false) (Rows.cellsPlaySpec.post enc Try.prog Try.f3 false true false false) := by
  refine returnsInHanded_of_change_sized (C := Try.checked) own started (by kernel_rfl) Try.func3
    (ChangeSpec.witness6 (enc := enc) (C := Try.checked) false ⟨#[], #[.agg #[.int .i64 0, .int .i64 0, .int .i64 0], .int .i64 0, .slice none 0 0], []⟩ 8 (by kernel_rfl) (by kernel_rfl) (by kernel_rfl) (by kernel_rfl)) ?_
  intro W base args ds gs before hval0 hW hcnd hsz0 _
  have hval : ∀ (j : Nat) t v, Try.f3.params[j]? = some t → args[j]? = some v → Value.okWide Try.prog W .any base t v := hval0
  have hW' := hW
  obtain ⟨p, q, hA0, hV, rfl, hfz, hnd⟩ := hW
  have hA : DataW.TrodAll enc Try.prog W 0 (fun _ => true) true Try.f3.params.toList args.toList ds p := hA0
  have hsz : (DataW.weightsEach Try.prog (Try.f3.params.toList ++ Rows.cellsPlaySpec.plain.varTypes Try.prog) (ds ++ gs)).all (· ≤ reachBytes) = true := hsz0
  rw [Try.params3] at hA hval hsz
  obtain ⟨v0, vs0, d0, ds0, p0, q0, hargs, rfl, rfl, k0, r0⟩ := trodAll_cons hA
  obtain ⟨v1, vs1, d1, ds1, p1, q1, rfl, rfl, rfl, k1, r1⟩ := trodAll_cons r0
  obtain ⟨v2, vs2, d2, ds2, p2, q2, rfl, rfl, rfl, k2, r2⟩ := trodAll_cons r1
  obtain ⟨rfl, rfl, rfl⟩ := trodAll_nil r2
  obtain rfl : args = #[v0, v1, v2] := by cases args; simp_all
  obtain ⟨rfl, rfl⟩ := trodVars_none hV
  have hv0 := hval 0 23 v0 rfl rfl
  have lt0 : ∀ x ∈ p0, x.block < W.heap.size := by (obtain ⟨m, hm⟩ := k0; exact DataW.trod_lt m _ _ _ hm)
  have hv1 := hval 1 3 v1 rfl rfl
  have lt1 : ∀ x ∈ p1, x.block < W.heap.size := by (obtain ⟨m, hm⟩ := k1; exact DataW.trod_lt m _ _ _ hm)
  have hv2 := hval 2 24 v2 rfl rfl
  have lt2 : ∀ x ∈ p2, x.block < W.heap.size := by (obtain ⟨m, hm⟩ := k2; exact DataW.trod_lt m _ _ _ hm)
  obtain ⟨xs, e1, rfl, hwx⟩ := open_ints_agg Try.underlying23 (by kernel_rfl) (by kernel_rfl) (by kernel_rfl) hv0 k0
  obtain ⟨mark, gate, tick, rfl⟩ := list3 e1
  have ht2 := (i64_le (hwx tick (by simp))).2
  obtain ⟨stripes, rfl⟩ := okWide_int Try.underlying3 hv1
  have w2 : ∃ sp cap l, v2 = .slice sp (List.length l) cap ∧ ScrIn W sp l := by
    obtain ⟨a0, len0, cap0, rfl⟩ := okWide_slice Try.underlying24 hv2
    obtain ⟨fuel, hf⟩ := k2
    have hsize := scr_size hf (fun n hn => of_decide_eq_true (List.all_eq_true.1 hsz _ (DataW.weights_mem_each (j := 2) (t := 24) rfl rfl n hn))) rfl
    rcases open_int_rows Try.underlying24 Try.underlying48 (by kernel_rfl) (by kernel_rfl) (by kernel_rfl) (by decide) hf with ⟨ao, cap, hcs⟩ | ⟨b, off, len, cap, zz, hcs, _, hm, hb, hc⟩
    · simp [Value.cells] at hcs
      obtain ⟨rfl, rfl, rfl⟩ := hcs
      exact ⟨_, _, [], rfl, ⟨(fun k hk => by cases hk), by decide⟩⟩
    · simp [Value.cells] at hcs
      obtain ⟨rfl, rfl, rfl⟩ := hcs
      refine ⟨_, _, (List.range len0).map (fun i => (zz i 0, zz i 1, zz i 2)), by rw [List.length_map, List.length_range], ⟨fun k hk => ?_, by rw [List.length_map, List.length_range]; omega⟩⟩
      rw [List.length_map, List.length_range] at hk
      have e : ((List.range len0).map (fun i => (zz i 0, zz i 1, zz i 2))).getD k (0, 0, 0) = (zz k 0, zz k 1, zz k 2) := by
        rw [List.getD_eq_getElem?_getD, List.getElem?_map, List.getElem?_range hk]; rfl
      rw [e]
      exact ⟨b, off, rfl, (hc k hk 0 (by decide)).1, (hc k hk 1 (by decide)).1, (hc k hk 2 (by decide)).1⟩
  obtain ⟨sp, sc, l, rfl, hS⟩ := w2
  refine (play_c mark gate tick stripes sc sp l W hS ht2).mono fun e W' ⟨he, bel⟩ => ?_
  subst he
  exact ⟨_, rfl, _, _, _, [], _, [], hW', trodAll_mk1 (shut_bool Try.underlying4 _), (trodAll_cons_mk (Below.trod laidOut (by kernel_rfl) (of_decide_eq_true (by kernel_rfl)) k0 bel lt0) (trodAll_cons_mk (Below.trod laidOut (by kernel_rfl) (of_decide_eq_true (by kernel_rfl)) k1 bel lt1) (trodAll_cons_mk (Below.trod laidOut (by kernel_rfl) (of_decide_eq_true (by kernel_rfl)) k2 bel lt2) trodAll_mk0))), rfl, bel.frame _, fun h => by cases h⟩

theorem over : Rows.cellsPlayRow.holds Try.pinned (OpenSpec.ofChange Rows.cellsPlaySpec) :=
  OpenClaim.holds_of_wide_leaving 3 Try.f3 rfl rfl rfl rfl rfl rfl rfl ⟨rfl, rfl, rfl, rfl, rfl⟩ rfl rfl rfl rfl rfl (by kernel_rfl) Try.func3 (by kernel_rfl)
    (of_decide_eq_true (by kernel_rfl)) (by unfold Func.isWrapper; first | (rw [if_pos (by decide +kernel)]; kernel_rfl) | (rw [if_neg (by decide +kernel)]; exact ⟨rfl, rfl⟩))
    (fun os started H enc _ => leaving_of_handed (lifted os started H enc))
end Go.Proofs.Ytimabgakemgldaa.cellsPlay
namespace Go.Proofs.Ytimabgakemgldaa
theorem cellsPlay_holds : Rows.CellsPlaySaid := cellsPlay.over
#print axioms cellsPlay_holds
end Go.Proofs.Ytimabgakemgldaa
