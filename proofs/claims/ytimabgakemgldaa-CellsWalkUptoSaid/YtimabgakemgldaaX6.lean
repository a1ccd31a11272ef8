/-
  The law CellsWalk of the given program, where what comes in is of bulk at most 1048576, returns true, and what is handed in stays.
-/
import Derived.ChangeMaps5
import Derived.Test.YtimabgakemgldaaB1
import Derived.Test.YtimabgakemgldaaX5
import Derived.SizedLaws
import Derived.Conc.Holds
import Derived.Leaving
import Derived.Deep.Fields
import Derived.JoinedCond
namespace Go.Proofs.Ytimabgakemgldaa.cellsWalk
open Go.ChangeShapes Go.WideShapes Go.ChangeAt Go.RowKit
set_option linter.unusedVariables false
theorem own : ownKnob Try.prog.godebug = none := by kernel_rfl
theorem laidOut : laidOutB Try.prog = true := by kernel_rfl

theorem bulk_one {H : Type} (d : DataW H) : 1 ≤ Rows.uptoBulk d := by
  cases d with
  | lit l => cases l <;> simp [Rows.uptoBulk]
  | nil => simp [Rows.uptoBulk]
  | ptr d => simp [Rows.uptoBulk]
  | slice elems spare => simp [Rows.uptoBulk]
  | agg parts => simp [Rows.uptoBulk]
  | iface t d => simp [Rows.uptoBulk]
  | map entries => simp [Rows.uptoBulk]
  | held h => simp [Rows.uptoBulk]
theorem bulk_part {H : Type} {d : DataW H} {l : List (DataW H)} (h : d ∈ l) : Rows.uptoBulk d ≤ Rows.uptoBulkAll l := by
  induction l with
  | nil => cases h
  | cons x r ih =>
    simp only [Rows.uptoBulkAll]
    cases List.mem_cons.1 h with
    | inl e => subst e; omega
    | inr e => have := ih e; omega
theorem bulk_len {H : Type} (l : List (DataW H)) : l.length ≤ Rows.uptoBulkAll l := by
  induction l with
  | nil => simp [Rows.uptoBulkAll]
  | cons x r ih => have := bulk_one x; simp only [Rows.uptoBulkAll, List.length_cons]; omega
theorem bulk_slice {H : Type} (elems spare : List (DataW H)) : elems.length + spare.length + 1 ≤ Rows.uptoBulk (.slice elems spare) := by
  have h1 := bulk_len elems
  have h2 := bulk_len spare
  simp only [Rows.uptoBulk]
  omega
theorem bulk_all {H : Type} {l : List (DataW H)} (hk : Rows.uptoSmall H l = true) : Rows.uptoBulkAll l ≤ 1048576 := of_decide_eq_true hk

/-- a row that asks that all others have ended says the row that asks that they are only leaving -/
theorem leaving_of_alone {p : Pinned} {s : OpenSpec} {c : OpenClaim} (h : OpenClaim.holds p s { c with leaving := false }) (hlv : c.leaving = true) (hst : c.start = .entering) (hs0 : c.stops = []) (hwf : c.wf s = true) : c.holds p s := by
  obtain ⟨a1, a2, a3, a4, a5, a6, a7, a8, f, fn, b1, b2, b3, b4, b5, b6, b7, b8, b9, c1, c2, c3, c4, c5, c6, c7, c8, c9, d1, d2, hw, L, hL, hall⟩ := h
  refine ⟨hwf, a2, a3, a4, a5, a6, a7, a8, f, fn, b1, b2, b3, b4, b5, b6, b7, b8, b9, c1, c2, c3, c4, c5, c6, c7, c8, c9, d1, d2, hw, L, hL, fun os h1 h2 H enc inj => ?_⟩
  have q := hall os h1 h2 H enc inj
  unfold OpenClaim.form at q ⊢
  have e1 : ({ c with leaving := false } : OpenClaim).start = .entering := hst
  have e2 : ({ c with leaving := false } : OpenClaim).stops = [] := hs0
  rw [e1, e2] at q
  rw [hst, hs0]
  intro F
  have q := q F
  have e4 : c.atReturn p.checked.prog = leavingAtReturn p.checked.prog := by unfold OpenClaim.atReturn; rw [hlv]
  rw [e4]
  obtain ⟨x1, x2, x3, x4, x5⟩ := q
  refine ⟨x1, x2, x3, x4, fun w tape i hf => ?_⟩
  obtain ⟨n, v, w', y1, y2, y3, y4, ⟨j, last, z1, z2, z0⟩, al⟩ := x5 w tape i hf
  have z : aloneAtReturn p.checked.prog last w' (runNT p.checked.prog n (Machine.entering p.checked.prog w tape f i) #[]).2 := z0
  exact ⟨n, v, w', y1, y2, y3, y4, ⟨j, last, z1, z2, z.2.1, onlyLeaving_of_quiet z.1, z.2.2⟩, al⟩

section
open Go.Deep
variable {H : Type} {enc : TypeId × Value → H} {P : Program} {w : World} {base : Nat} {spare : Nat → Bool} {held : Bool}
theorem ints_of_trod {t : TypeId} {fs : Array Field} {fuel : Nat} {l : List Value} {x : DataW H × List MemPlace} (hs : P.underlying t = some (.struct fs)) (hone : oneCellFields P fs = true) (hint : allInts P fs = true) (hC : P.cellsOf t = fs.size)
    (hf : DataW.trod enc P w base spare held fuel t l = some x) : ∃ xs : List Int, xs.length = fs.size ∧ l = xs.map (Value.int .i64) ∧ ∀ x ∈ xs, (Lit.int .i64 x).wf = true := by
  obtain ⟨ys, n, _, hx, hlc, hlen, hg⟩ := DataW.trod_struct hs hf
  have hl : l.length = fs.size := hlc.trans hC
  have cell : ∀ i, i < l.length → ∃ x, l[i]? = some (Value.int .i64 x) ∧ (Lit.int .i64 x).wf = true := by
    intro i hi
    have hfi : fs[i]? = some (fs[i]'(by omega)) := Array.getElem?_eq_getElem (by omega)
    obtain ⟨ho, hk⟩ := hone_of hone i _ hfi
    have h1 := hg i _ hfi
    rw [ho, hk] at h1
    have hone' : (l.drop i).take 1 = [l[i]] := by
      rw [List.drop_eq_getElem_cons (by omega)]
      rfl
    rw [hone'] at h1
    have hys : ys[i]? = some (ys[i]'(by omega)) := List.getElem?_eq_getElem (by omega)
    rw [hys] at h1
    obtain ⟨x, hx, _, hw⟩ := DataW.trod_int (ints_of hint i _ hfi) h1
    refine ⟨x, ?_, hw⟩
    rw [List.getElem?_eq_getElem hi]
    simpa using hx
  clear hx hg hf
  have : ∀ l : List Value, (∀ i, i < l.length → ∃ x, l[i]? = some (Value.int .i64 x) ∧ (Lit.int .i64 x).wf = true) → ∃ xs : List Int, xs.length = l.length ∧ l = xs.map (Value.int .i64) ∧ ∀ x ∈ xs, (Lit.int .i64 x).wf = true := by
    intro l
    induction l with
    | nil => intro _; exact ⟨[], rfl, rfl, by simp⟩
    | cons a r ih =>
      intro hc
      obtain ⟨x, hx, hw⟩ := hc 0 (by simp)
      obtain ⟨xs, e1, e2, e3⟩ := ih (fun i hi => by simpa using hc (i + 1) (by simpa using hi))
      refine ⟨x :: xs, by simp [e1], ?_, ?_⟩
      · simp at hx
        rw [hx, e2]; rfl
      · intro y hy
        rcases List.mem_cons.1 hy with rfl | hy
        · exact hw
        · exact e3 y hy
  obtain ⟨xs, e1, e2, e3⟩ := this l cell
  exact ⟨xs, by omega, e2, e3⟩
theorem add_none (b off m : Nat) : (⟨b, off, none⟩ : Addr).add m = ⟨b, off + m, none⟩ := by
  unfold Addr.add
  split
  · (rename_i h; subst h; rfl)
  · rfl
/-- a slice of structs that are int64s alone, in memory: nil, empty, or rows of numbers -/
theorem open_int_rows {t e : TypeId} {fs : Array Field} {fuel : Nat} {cs : List Value} {x : DataW H × List MemPlace} (ht : P.underlying t = some (.slice e)) (he : P.underlying e = some (.struct fs)) (hone : oneCellFields P fs = true) (hint : allInts P fs = true) (hC : P.cellsOf e = fs.size) (h0 : 0 < fs.size)
    (h : DataW.trod enc P w base spare held fuel t cs = some x) :
    (∃ ao cap, cs = [.slice ao 0 cap]) ∨
    ∃ (b off len cap : Nat) (zz : Nat → Nat → Int), cs = [.slice (some ⟨b, off, none⟩) len cap] ∧ 0 < len ∧ len ≤ maxLen ∧ b < w.heap.size ∧ (∀ i, i < len → ∀ c, c < fs.size → w.cell? ⟨b, off + i * fs.size + c, none⟩ = some (.int .i64 (zz i c)) ∧ (Lit.int .i64 (zz i c)).wf = true) := by
  rcases DataW.trod_slice ht h with h1 | ⟨a, len, cap, elems, rest, n, _, rfl, rfl, hb, hl, hm, hlen, hel, hsp, hns⟩
  · exact .inl ⟨none, 0, h1.1⟩
  by_cases hz : len = 0
  · subst hz; exact .inl ⟨some a, cap, rfl⟩
  have each : ∀ i, ∃ xs : List Int, i < len → (∀ c, c < fs.size → w.cell? ((a.add (i * fs.size)).add c) = some (.int .i64 (xs.getD c 0)) ∧ (Lit.int .i64 (xs.getD c 0)).wf = true) := by
    intro i
    by_cases hi : i < len
    · have h2 := hel i hi
      have hy : elems[i]? = some (elems[i]'(by omega)) := List.getElem?_eq_getElem (by omega)
      rw [hy, Option.bind_eq_some_iff] at h2
      obtain ⟨cs', hcs, hy'⟩ := h2
      obtain ⟨xs, hxl, rfl, hw⟩ := ints_of_trod he hone hint hC hy'
      rw [hC] at hcs
      obtain ⟨_, _, hcell⟩ := World.cells?_some hcs
      refine ⟨xs, fun _ c hc => ⟨(hcell c hc).trans ?_, ?_⟩⟩
      · simp [List.getD, show c < xs.length by omega]
      · apply hw
        simp [List.getD, show c < xs.length by omega]
    · exact ⟨[], fun h => absurd h hi⟩
  obtain ⟨f, hf⟩ := Classical.axiomOfChoice each
  have hc0 := (hf 0 (by omega) 0 h0).1
  rw [Nat.zero_mul, show (a.add 0).add 0 = a from by simp [Addr.add]] at hc0
  obtain ⟨b, off, spot⟩ := a
  have hspot : spot = none := World.cell?_spot hc0
  subst hspot
  refine .inr ⟨b, off, len, cap, fun i c => (f i).getD c 0, rfl, by omega, by omega, World.block_lt_of_cell? w _ hc0, fun i hi c hc => ?_⟩
  have q := hf i hi c hc
  rw [add_none, add_none] at q
  exact q
end

theorem i64_le {x : Int} (h : (Lit.int .i64 x).wf = true) : -9223372036854775808 ≤ x ∧ x ≤ 9223372036854775807 := by
  simp [Lit.wf, IntKind.min, IntKind.max, IntKind.bits, IntKind.signed] at h
  omega
theorem list3 {α : Type} {l : List α} (h : l.length = 3) : ∃ a b c, l = [a, b, c] := by
  match l, h with
  | [a, b, c], _ => exact ⟨a, b, c, rfl⟩

section
variable {H : Type} {enc : TypeId × Value → H} {w : World} {base : Nat} {spare : Nat → Bool} {held : Bool}
theorem inner_len {fuel : Nat} {cs : List Value} {y : DataW H × List MemPlace} (h : DataW.trod enc Try.prog w base spare held fuel 79 cs = some y) {p : Option Addr} {l c : Nat} (hc : cs = [.slice p l c]) : l ≤ Rows.uptoBulk y.1 := by
  rcases DataW.trod_slice Try.underlying79 h with ⟨rfl, rfl⟩ | ⟨a, len, cap2, elems, rest, m, _, rfl, rfl, hb, hl, hm, hlen, hel, hsp, hns⟩
  · injection hc with hc _
    injection hc with _ hn _
    omega
  · injection hc with hc _
    injection hc with _ hn _
    have := bulk_slice (elems.map (·.1)) (rest.map (·.1))
    simp only [List.length_map] at this
    show l ≤ Rows.uptoBulk (DataW.slice (elems.map (·.1)) (rest.map (·.1)))
    omega
/-- a row that came in: where it lies, how long it is, what stands in it -/
structure RowIn (w : World) (p : Option Addr) (l b o : Nat) (zz : Nat → Nat → Int) : Prop where
  adr : 0 < l → p = some ⟨b, o, none⟩
  c : ∀ j, j < l → w.cell? ⟨b, o + j * 2, none⟩ = some (.int .i64 (zz j 0)) ∧ w.cell? ⟨b, o + j * 2 + 1, none⟩ = some (.int .i64 (zz j 1)) ∧ (Lit.int .i64 (zz j 0)).wf = true
  ml : l ≤ 1048576
theorem row_of {fuel : Nat} {cs : List Value} {y : DataW H × List MemPlace} (h : DataW.trod enc Try.prog w base spare held fuel 79 cs = some y) (hy : Rows.uptoBulk y.1 ≤ 1048576) : ∃ z : Option Addr × Nat × Nat × Nat × Nat × (Nat → Nat → Int), cs = [.slice z.1 z.2.1 z.2.2.1] ∧ RowIn w z.1 z.2.1 z.2.2.2.1 z.2.2.2.2.1 z.2.2.2.2.2 := by
  rcases open_int_rows Try.underlying79 Try.underlying57 (by kernel_rfl) (by kernel_rfl) (by kernel_rfl) (by decide) h with ⟨ao, cap, hcs⟩ | ⟨b, off, len, cap, zz, hcs, _, hm, hb, hc⟩
  · exact ⟨(ao, 0, cap, 0, 0, fun _ _ => 0), hcs, ⟨(fun h => absurd h (Nat.lt_irrefl 0)), (fun j hj => absurd hj (Nat.not_lt_zero j)), Nat.zero_le _⟩⟩
  · refine ⟨(some ⟨b, off, none⟩, len, cap, b, off, zz), hcs, ⟨fun _ => rfl, fun j hj => ?_, Nat.le_trans (inner_len h hcs) hy⟩⟩
    exact ⟨(hc j hj 0 (by decide)).1, (hc j hj 1 (by decide)).1, (hc j hj 0 (by decide)).2⟩
theorem cells79 : Try.prog.cellsOf 79 = 1 := by kernel_rfl
theorem ops_of {fuel : Nat} {cs : List Value} {x : DataW H × List MemPlace} (h : DataW.trod enc Try.prog w base spare held fuel 67 cs = some x) (hb : Rows.uptoBulk x.1 ≤ 1048576) :
    ∃ pa n oc, cs = [.slice pa n oc] ∧ (0 < n → ∃ ab ao ops rp rc rb ro, pa = some ⟨ab, ao, none⟩ ∧ List.length ops = n ∧ OpsIn w ab ao ops rp rc rb ro) := by
  rcases DataW.trod_slice Try.underlying67 h with ⟨rfl, rfl⟩ | ⟨a, len, cap, elems, rest, m, _, rfl, rfl, hba, hl, hm, hlen, hel, hsp, hns⟩
  · exact ⟨none, 0, 0, rfl, fun h => by omega⟩
  refine ⟨some a, len, cap, rfl, fun hpos => ?_⟩
  have hb2 : Rows.uptoBulkAll (elems.map (·.1)) ≤ 1048576 := by
    have : Rows.uptoBulk (DataW.slice (elems.map (·.1)) (rest.map (·.1))) ≤ 1048576 := hb
    simp only [Rows.uptoBulk] at this
    omega
  have each : ∀ i, ∃ z : Option Addr × Nat × Nat × Nat × Nat × (Nat → Nat → Int), i < len → (w.cell? (a.add i) = some (.slice z.1 z.2.1 z.2.2.1) ∧ RowIn w z.1 z.2.1 z.2.2.2.1 z.2.2.2.2.1 z.2.2.2.2.2) := by
    intro i
    by_cases hi : i < len
    · have h2 := hel i hi
      have hy : elems[i]? = some (elems[i]'(by omega)) := List.getElem?_eq_getElem (by omega)
      rw [hy, Option.bind_eq_some_iff] at h2
      obtain ⟨cs', hcs, hy'⟩ := h2
      rw [cells79, Nat.mul_one] at hcs
      obtain ⟨_, _, hcell⟩ := World.cells?_some hcs
      obtain ⟨z, hz, hr⟩ := row_of hy' (Nat.le_trans (bulk_part (List.mem_map_of_mem (List.getElem_mem _))) hb2)
      subst hz
      refine ⟨z, fun _ => ⟨?_, hr⟩⟩
      have q := hcell 0 (by decide)
      rw [show (a.add i).add 0 = a.add i from by simp [Addr.add]] at q
      exact q
    · exact ⟨(none, 0, 0, 0, 0, fun _ _ => 0), fun h => absurd h hi⟩
  obtain ⟨f, hf⟩ := Classical.axiomOfChoice each
  have hc0 := (hf 0 hpos).1
  rw [show a.add 0 = a from by simp [Addr.add]] at hc0
  obtain ⟨b, off, spot⟩ := a
  have hspot : spot = none := World.cell?_spot hc0
  subst hspot
  have lg : ∀ i, i < len → (((List.range len).map fun i => (List.range (f i).2.1).map fun j => ((f i).2.2.2.2.2 j 0, (f i).2.2.2.2.2 j 1)) : Ops).getD i [] = (List.range (f i).2.1).map fun j => ((f i).2.2.2.2.2 j 0, (f i).2.2.2.2.2 j 1) := fun i hi => by
    rw [List.getD_eq_getElem?_getD, List.getElem?_map, List.getElem?_range hi]; rfl
  have ll : ((((List.range len).map fun i => (List.range (f i).2.1).map fun j => ((f i).2.2.2.2.2 j 0, (f i).2.2.2.2.2 j 1)) : Ops)).length = len := by rw [List.length_map, List.length_range]
  have oa : ∀ i j, i < len → j < (f i).2.1 → opAt ((List.range len).map fun i => (List.range (f i).2.1).map fun j => ((f i).2.2.2.2.2 j 0, (f i).2.2.2.2.2 j 1)) i j = ((f i).2.2.2.2.2 j 0, (f i).2.2.2.2.2 j 1) := fun i j hi hj => by
    unfold opAt
    rw [lg i hi, List.getD_eq_getElem?_getD, List.getElem?_map, List.getElem?_range hj]; rfl
  refine ⟨b, off, _, fun i => (f i).1, fun i => (f i).2.2.1, fun i => (f i).2.2.2.1, fun i => (f i).2.2.2.2.1, rfl, ll, ⟨fun i hi => ?_, fun i hi hp => ?_, fun i j hi hj => ?_, fun i j hi hj => ?_, fun i j hi hj => ?_, fun i hi => ?_⟩⟩
  all_goals rw [ll] at hi
  · rw [lg i hi, List.length_map, List.length_range]
    have q := (hf i hi).1
    rw [add_none] at q
    exact q
  · rw [lg i hi, List.length_map, List.length_range] at hp
    exact (hf i hi).2.adr hp
  · rw [lg i hi, List.length_map, List.length_range] at hj
    rw [oa i j hi hj]; exact ((hf i hi).2.c j hj).1
  · rw [lg i hi, List.length_map, List.length_range] at hj
    rw [oa i j hi hj]; exact ((hf i hi).2.c j hj).2.1
  · rw [lg i hi, List.length_map, List.length_range] at hj
    rw [oa i j hi hj]; exact ((hf i hi).2.c j hj).2.2
  · rw [lg i hi, List.length_map, List.length_range]
    have := (hf i hi).2.ml; omega
theorem picks_of {fuel : Nat} {cs : List Value} {x : DataW H × List MemPlace} (h : DataW.trod enc Try.prog w base spare held fuel 68 cs = some x) (hb : Rows.uptoBulk x.1 ≤ 1048576) :
    ∃ pp pc ps, cs = [.slice pp (List.length ps) pc] ∧ PicksIn w pp ps ∧ List.length ps ≤ 1048576 := by
  rcases open_ints Try.underlying68 Try.underlying3 (by kernel_rfl) h with ⟨rfl, rfl⟩ | ⟨a, len, cap, zs, rfl, _, hl, hm, hz, rfl, hcell, hwz⟩
  · exact ⟨none, 0, [], rfl, ⟨(fun k hk => by cases hk), by decide⟩, by decide⟩
  · have hlz : len ≤ zs.length := by rw [hz]; split <;> omega
    have h1 := bulk_slice (H := H) (lits .i64 (zs.take len)) (lits .i64 (zs.drop len))
    have h2 : Rows.uptoBulk (DataW.slice (lits (H := H) .i64 (zs.take len)) (lits .i64 (zs.drop len))) ≤ 1048576 := hb
    have e : (zs.take len).length = len := by rw [List.length_take]; omega
    simp only [lits, List.length_map, e] at h1
    simp only [lits] at h2
    refine ⟨some a, cap, zs.take len, by rw [e], ⟨fun k hk => ?_, by omega⟩, by omega⟩
    rw [e] at hk
    have q := hcell k (by omega)
    have hsp := World.cell?_spot q
    obtain ⟨b, o, spot⟩ := a
    have hs : spot = none := by
      by_cases h0 : k = 0
      · subst h0
        rw [show (⟨b, o, spot⟩ : Addr).add 0 = ⟨b, o, spot⟩ from by simp [Addr.add]] at hsp
        exact hsp
      · have q0 := hcell 0 (by omega)
        have hsp0 := World.cell?_spot q0
        rw [show (⟨b, o, spot⟩ : Addr).add 0 = ⟨b, o, spot⟩ from by simp [Addr.add]] at hsp0
        exact hsp0
    subst hs
    rw [add_none] at q
    refine ⟨b, o, rfl, q.trans ?_⟩
    rw [List.getD_eq_getElem?_getD, List.getD_eq_getElem?_getD, List.getElem?_take, if_pos hk]
end

section
variable {H : Type} {enc : TypeId × Value → H} {w : World} {base : Nat} {spare : Nat → Bool} {held : Bool}
theorem outer_len {fuel : Nat} {cs : List Value} {y : DataW H × List MemPlace} (h : DataW.trod enc Try.prog w base spare held fuel 67 cs = some y) {p : Option Addr} {l c : Nat} (hc : cs = [.slice p l c]) : l ≤ Rows.uptoBulk y.1 := by
  rcases DataW.trod_slice Try.underlying67 h with ⟨rfl, rfl⟩ | ⟨a, len, cap2, elems, rest, m, _, rfl, rfl, hb, hl, hm, hlen, hel, hsp, hns⟩
  · injection hc with hc _
    injection hc with _ hn _
    omega
  · injection hc with hc _
    injection hc with _ hn _
    have := bulk_slice (elems.map (·.1)) (rest.map (·.1))
    simp only [List.length_map] at this
    show l ≤ Rows.uptoBulk (DataW.slice (elems.map (·.1)) (rest.map (·.1)))
    omega
end
theorem walk_c (mark gate tick : Int) (n oc pc : Nat) (pa pp : Option Addr) (ps : List Int) (w : World) (hO : 0 < n → ∃ ab ao ops rp rc rb ro, pa = some ⟨ab, ao, none⟩ ∧ List.length ops = n ∧ OpsIn w ab ao ops rp rc rb ro) (hn : n ≤ 1048576) (hP : PicksIn w pp ps) (hpl : ps.length ≤ 1048576) (ht2 : tick ≤ 9223372036854775807) :
    Calls Try.prog 4 #[.agg #[.int .i64 mark, .int .i64 gate, .int .i64 tick], .slice pa n oc, .slice pp ps.length pc] w fun e w' => e = .returned (.bool true) ∧ Below w.heap.size w w' := by
  have hex : ∃ ab ao ops rp rc rb ro, (0 < n → pa = some ⟨ab, ao, none⟩) ∧ List.length ops = n ∧ OpsIn w ab ao ops rp rc rb ro := by
    rcases Nat.eq_zero_or_pos n with rfl | h0
    · exact ⟨0, 0, [], fun _ => none, fun _ => 0, fun _ => 0, fun _ => 0, fun h => absurd h (Nat.lt_irrefl 0), rfl, ⟨fun i hi => absurd hi (Nat.not_lt_zero i), fun i hi => absurd hi (Nat.not_lt_zero i), fun i j hi => absurd hi (Nat.not_lt_zero i), fun i j hi => absurd hi (Nat.not_lt_zero i), fun i j hi => absurd hi (Nat.not_lt_zero i), fun i hi => absurd hi (Nat.not_lt_zero i)⟩⟩
    · obtain ⟨ab, ao, ops, rp, rc, rb, ro, e, l, ho⟩ := hO h0
      exact ⟨ab, ao, ops, rp, rc, rb, ro, fun _ => e, l, ho⟩
  obtain ⟨ab, ao, ops, rp, rc, rb, ro, hpa, rfl, ho⟩ := hex
  by_cases h : (ops.length : Int) < 1 ∨ 64 < (ops.length : Int) ∨ gate < 1 ∨ tick < 0
  · refine law_c mark gate tick ab ao oc pc pa pp ops ps rp rc rb ro w hpa ho hn hP hpl 0 (fun _ => []) 0 0 0 0 false 0 false 0 2 (Nat.zero_le _) (fun i hi => absurd hi (Nat.not_lt_zero i)) (fun V base M cM pb pcap _ _ => ?_) (fun V _ => ?_)
    · exact (Walk_bad mark gate tick ops.length cM _ _ V h).mono (fun e w' q => ⟨_, fun _ => .slice none 0 0, q.1, OutIs.nil _ _ _ _, q.2⟩)
    · exact (RWalk_bad mark gate tick ops.length oc pa _ V h).mono (fun e w' q => ⟨_, fun _ => .slice none 0 0, q.1, OutIs.nil _ _ _ _, q.2⟩)
  · have h1 : 1 ≤ ops.length := by omega
    have h2 : ops.length ≤ 64 := by omega
    obtain rfl := hpa (by omega)
    obtain ⟨fin, hfin⟩ : ∃ fin, fin = walkA (ab0 ops.length mark gate tick) ops ps ps.length := ⟨_, rfl⟩
    have hfok := walkA_ok mark gate tick (ps.length : Int) (by omega) ops ps h1 (by omega) (by omega) ht2 ps.length (Int.le_refl _)
    rw [← hfin] at hfok
    refine law_c mark gate tick ab ao oc pc _ pp ops ps rp rc rb ro w (fun _ => rfl) ho hn hP hpl ops.length (fun i => (wsAt fin.2 i).did) (sumI fin.1.S) fin.1.mark (bWho fin.1.bs) (bX fin.1.bs) fin.1.bs.isSome fin.1.ar (decide (fin.1.gt ≤ fin.1.ar)) fin.1.tk 0 hn (fun i hi => ?_) (fun V base M cM pb pcap hm hp => ?_) (fun V hV => ?_)
    · have q1 := hfok.le i hi
      have q2 := ho.ml i hi
      show (wsAt fin.2 i).did.length ≤ _
      omega
    · obtain ⟨rp', rc', rb', ro', ho'⟩ := ho.lent hm
      have q := Walk_ok mark gate tick M 0 cM pcap (some ⟨pb, 0, none⟩) ops ps rp' rc' rb' ro' V ho' hp h1 h2 (by omega) (by omega) ht2
      rw [← hfin] at q
      exact q
    · have q := RWalk_ok mark gate tick ab ao oc pc pp ops ps rp rc rb ro V (ho.below hV) (hP.below hV) h1 h2 (by omega) (by omega) ht2
      rw [← hfin] at q
      refine q.mono ?_
      rintro e w' ⟨ob, dv, rfl, hr, hb⟩
      exact ⟨_, dv, rfl, hr.is, hb⟩

set_option maxRecDepth 100000 in
theorem contract (H : Type) (enc : TypeId × Value → H) (W : World) (base : Nat) (args : Array Value) (ds gs : List (DataW H)) (before : List MemPlace)
    (hval0 : ∀ (j : Nat) t v, Try.f4.params[j]? = some t → args[j]? = some v → Value.okWide Try.prog W .any base t v)
    (hW : DataW.Whole enc Try.prog Try.f4.params.toList Rows.cellsWalkSpec.vars false W args.toList ds gs before) (hk : Rows.uptoSmall H (ds ++ gs) = true) :
    Calls Try.prog 4 args W fun e W' => ∃ v, e = .returned v ∧ Rows.cellsWalkSpec.post enc Try.prog Try.f4 false true false false W args v W' := by
  have hval : ∀ (j : Nat) t v, Try.f4.params[j]? = some t → args[j]? = some v → Value.okWide Try.prog W .any base t v := hval0
  have hW' := hW
  obtain ⟨p, q, hA0, hV, rfl, hfz, hnd⟩ := hW
  have hA : DataW.TrodAll enc Try.prog W 0 (fun _ => true) true Try.f4.params.toList args.toList ds p := hA0
  have hbulk := bulk_all hk
  rw [Try.params4] at hA hval
  obtain ⟨v0, vs0, d0, ds0, p0, q0, hargs, rfl, rfl, k0, r0⟩ := trodAll_cons hA
  obtain ⟨v1, vs1, d1, ds1, p1, q1, rfl, rfl, rfl, k1, r1⟩ := trodAll_cons r0
  obtain ⟨v2, vs2, d2, ds2, p2, q2, rfl, rfl, rfl, k2, r2⟩ := trodAll_cons r1
  obtain ⟨rfl, rfl, rfl⟩ := trodAll_nil r2
  obtain rfl : args = #[v0, v1, v2] := by cases args; simp_all
  obtain ⟨rfl, rfl⟩ := trodVars_none hV
  have hv0 := hval 0 23 v0 rfl rfl
  have lt0 : ∀ x ∈ p0, x.block < W.heap.size := by (obtain ⟨m, hm⟩ := k0; exact DataW.trod_lt m _ _ _ hm)
  have hv1 := hval 1 67 v1 rfl rfl
  have lt1 : ∀ x ∈ p1, x.block < W.heap.size := by (obtain ⟨m, hm⟩ := k1; exact DataW.trod_lt m _ _ _ hm)
  have hv2 := hval 2 68 v2 rfl rfl
  have lt2 : ∀ x ∈ p2, x.block < W.heap.size := by (obtain ⟨m, hm⟩ := k2; exact DataW.trod_lt m _ _ _ hm)
  obtain ⟨xs, e1, rfl, hwx⟩ := open_ints_agg Try.underlying23 (by kernel_rfl) (by kernel_rfl) (by kernel_rfl) hv0 k0
  obtain ⟨mark, gate, tick, rfl⟩ := list3 e1
  have ht2 := (i64_le (hwx tick (by simp))).2
  have w1 : ∃ pa n oc, v1 = .slice pa n oc ∧ n ≤ 1048576 ∧ (0 < n → ∃ ab ao ops rp rc rb ro, pa = some ⟨ab, ao, none⟩ ∧ List.length ops = n ∧ OpsIn W ab ao ops rp rc rb ro) := by
    obtain ⟨a0, len0, cap0, rfl⟩ := okWide_slice Try.underlying67 hv1
    obtain ⟨fuel, hf⟩ := k1
    obtain ⟨pa, n, oc, hcs, ho⟩ := ops_of hf (Nat.le_trans (bulk_part (List.mem_append_left _ (List.mem_cons_of_mem _ (List.mem_cons_self ..)))) hbulk)
    have hl := outer_len hf hcs
    simp [Value.cells] at hcs
    obtain ⟨rfl, rfl, rfl⟩ := hcs
    exact ⟨_, _, _, rfl, Nat.le_trans hl (Nat.le_trans (bulk_part (List.mem_append_left _ (List.mem_cons_of_mem _ (List.mem_cons_self ..)))) hbulk), ho⟩
  obtain ⟨pa, n, oc, rfl, hn, hO⟩ := w1
  have w2 : ∃ pp pc ps, v2 = .slice pp (List.length ps) pc ∧ PicksIn W pp ps ∧ List.length ps ≤ 1048576 := by
    obtain ⟨a0, len0, cap0, rfl⟩ := okWide_slice Try.underlying68 hv2
    obtain ⟨fuel, hf⟩ := k2
    obtain ⟨pp, pc, ps, hcs, hp⟩ := picks_of hf (Nat.le_trans (bulk_part (List.mem_append_left _ (List.mem_cons_of_mem _ (List.mem_cons_of_mem _ (List.mem_cons_self ..))))) hbulk)
    simp [Value.cells] at hcs
    obtain ⟨rfl, rfl, rfl⟩ := hcs
    exact ⟨_, _, ps, rfl, hp⟩
  obtain ⟨pp, pc, ps, rfl, hP, hPl⟩ := w2
  refine (walk_c mark gate tick n oc pc pa pp ps W hO hn hP hPl ht2).mono fun e W' ⟨he, bel⟩ => ?_
  subst he
  exact ⟨_, rfl, _, _, _, [], _, [], hW', trodAll_mk1 (shut_bool Try.underlying4 _), (trodAll_cons_mk (Below.trod laidOut (by kernel_rfl) (of_decide_eq_true (by kernel_rfl)) k0 bel lt0) (trodAll_cons_mk (Below.trod laidOut (by kernel_rfl) (of_decide_eq_true (by kernel_rfl)) k1 bel lt1) (trodAll_cons_mk (Below.trod laidOut (by kernel_rfl) (of_decide_eq_true (by kernel_rfl)) k2 bel lt2) trodAll_mk0))), rfl, bel.frame _, fun h => by cases h⟩

set_option maxRecDepth 100000 in
theorem lifted (os : Os) (started : os.Started) (H : Type) (enc : TypeId × Value → H) (F : Stop.Interp) :
    ReturnsInHanded {} Try.checked os 4 .any ((Rows.OpenSpec.upto Rows.cellsWalkSpec).pre6 enc Try.prog Try.f4 Rows.cellsWalkUptoRow.domain false) (((Rows.OpenSpec.upto Rows.cellsWalkSpec).at F).post enc Try.prog Try.f4 false true false false) := by
  refine returnsInHanded_of_cond (C := Try.checked) (s := Rows.OpenSpec.upto Rows.cellsWalkSpec) (k := Rows.uptoSmall) rfl own started (by kernel_rfl) Try.func4
    (OpenSpec.witness (enc := enc) (C := Try.checked) (s := Rows.OpenSpec.upto Rows.cellsWalkSpec) (k := Rows.uptoSmall) rfl false ⟨#[], #[.agg #[.int .i64 0, .int .i64 0, .int .i64 0], .slice none 0 0, .slice none 0 0], []⟩ 8 (by kernel_rfl) (by kernel_rfl) (by kernel_rfl)
      (x := ([.agg [.lit (.int .i64 0), .lit (.int .i64 0), .lit (.int .i64 0)], .nil, .nil], [], [])) (by kernel_rfl) rfl (by kernel_rfl)) ?_
  intro W base args ds gs before hval hW _ hk _
  exact contract H enc W base args ds gs before hval hW hk

theorem over : Rows.cellsWalkUptoRow.holds Try.pinned (Rows.OpenSpec.upto Rows.cellsWalkSpec) :=
  leaving_of_alone (c := Rows.cellsWalkUptoRow) (OpenClaim.holds_of_cond (c := { Rows.cellsWalkUptoRow with leaving := false }) 4 Try.f4 rfl rfl rfl rfl rfl rfl rfl ⟨rfl, rfl, rfl, rfl, rfl⟩ rfl rfl rfl rfl rfl (by kernel_rfl) Try.func4 (by kernel_rfl)
    (of_decide_eq_true (by kernel_rfl)) (by unfold Func.isWrapper; first | (rw [if_pos (by decide +kernel)]; kernel_rfl) | (rw [if_neg (by decide +kernel)]; exact ⟨rfl, rfl⟩))
    (fun os started H enc _ F => lifted os started H enc F)) rfl rfl rfl (by kernel_rfl)
end Go.Proofs.Ytimabgakemgldaa.cellsWalk
namespace Go.Proofs.Ytimabgakemgldaa
theorem cellsWalk_upto_holds : Rows.CellsWalkUptoSaid := cellsWalk.over
#print axioms cellsWalk_upto_holds
end Go.Proofs.Ytimabgakemgldaa

