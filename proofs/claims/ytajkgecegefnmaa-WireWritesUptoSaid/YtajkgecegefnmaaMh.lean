/- Contracts of the layer's functions, each proved once, in the order in which they are used. No condition beyond each theorem's own. -/
import Derived.SliceStrings
import Derived.Test.YtajkgecegefnmaaMg
import Derived.Lib.AppendStr
import Derived.Test.YtajkgecegefnmaaMd
import Derived.Deep.AppendLies
import Derived.Test.YtajkgecegefnmaaMf
import Derived.Laws.OwnMore
import Derived.Laws.AppendOwnNone
namespace Go.Proofs.Ytajkgecegefnmaa
open Go.ChangeShapes Go.WideShapes Go.ChangeAt Go.RowKit Go.Deep
set_option linter.unusedSimpArgs false
set_option linter.unusedVariables false

/-- a thing that is written, as the memory holds it -/
structure PutA where
  kd : Int
  X : Nat
  s : ByteArray
  lo : Option Addr
  lc : Nat
  ls : List Nat
  to_ : Option Addr
  tc : Nat
  ts : List ByteArray
def PutA.cells (p : PutA) : List Value := [.int .i64 p.kd, .int .u64 (p.X : Int), .string p.s, .slice p.lo p.ls.length p.lc, .slice p.to_ p.ts.length p.tc]
def PutA.none : PutA := ⟨0, 0, ⟨#[]⟩, .none, 0, [], .none, 0, []⟩
def tsum : List ByteArray → Nat
  | [] => 0
  | t :: r => t.size + 1 + tsum r
def PutA.bulk (p : PutA) : Nat := p.s.size + p.ls.length + tsum p.ts + 1
def psum : List PutA → Nat
  | [] => 0
  | t :: r => t.bulk + psum r
structure PutOk (w : World) (p : PutA) : Prop where
  X : p.X < 18446744073709551616
  s : p.s.size ≤ 1048576
  L : RowN w p.lo p.lc p.ls
  T : RowS w p.to_ p.tc p.ts
/-- what a law is told of a slice of such things -/
structure PRow (w : World) (so : Option Addr) (l : List PutA) : Prop where
  cells : l ≠ [] → ∃ b off, so = some ⟨b, off, none⟩ ∧ b < w.heap.size ∧ ∀ i, i < l.length → ∀ c, c < 5 → w.cell? ⟨b, off + i * 5 + c, none⟩ = (l.getD i PutA.none).cells[c]?
  each : ∀ p ∈ l, PutOk w p
  len : l.length ≤ 1048576
  bulk : psum l ≤ 1048576
section
variable {H : Type} {enc : TypeId × Value → H} {w : World} {base : Nat} {spare : Nat → Bool} {held : Bool}
theorem bulkAll_append (a b : List (DataW H)) : Rows.uptoBulkAll (a ++ b) = Rows.uptoBulkAll a + Rows.uptoBulkAll b := by
  induction a with
  | nil => simp [Rows.uptoBulkAll]
  | cons x r ih => simp only [List.cons_append, Rows.uptoBulkAll, ih]; omega
theorem bulk_pos (d : DataW H) : 1 ≤ Rows.uptoBulk d := by
  cases d with
  | lit l => cases l <;> simp [Rows.uptoBulk]
  | nil => simp [Rows.uptoBulk]
  | ptr d => simp [Rows.uptoBulk]
  | slice elems spare => simp [Rows.uptoBulk]
  | agg parts => simp [Rows.uptoBulk]
  | iface t d => simp [Rows.uptoBulk]
  | map entries => simp [Rows.uptoBulk]
  | held h => simp [Rows.uptoBulk]
theorem bulk_size (l : List (DataW H)) : l.length ≤ Rows.uptoBulkAll l := by
  induction l with
  | nil => simp [Rows.uptoBulkAll]
  | cons x r ih => have := bulk_pos x; simp only [Rows.uptoBulkAll, List.length_cons]; omega
theorem bulk_strs : ∀ l : List ByteArray, Rows.uptoBulkAll (strs l : List (DataW H)) = tsum l
  | [] => rfl
  | t :: r => by
    have ih := bulk_strs r
    show Rows.uptoBulk (.lit (.string t.data.toList)) + Rows.uptoBulkAll (strs r) = _
    rw [ih]
    show t.data.toList.length + 1 + tsum r = t.size + 1 + tsum r
    rw [Array.length_toList]; rfl
theorem tsum_len : ∀ l : List ByteArray, l.length ≤ tsum l
  | [] => Nat.le_refl _
  | t :: r => by have := tsum_len r; simp [tsum]; omega
theorem tsum_mem : ∀ {l : List ByteArray} {t : ByteArray}, t ∈ l → t.size ≤ tsum l
  | a :: r, t, h => by
    rcases List.mem_cons.1 h with rfl | h
    · simp [tsum]; omega
    · have := tsum_mem h; simp [tsum]; omega
theorem spot_addr {a : Addr} (h : a.spot = none) (n : Nat) : a.add n = ⟨a.block, a.off + n, none⟩ := by
  obtain ⟨b, o, s⟩ := a
  simp at h
  subst h
  unfold Addr.add
  split
  · (rename_i h; subst h; rfl)
  · rfl
theorem rowN_of {fuel : Nat} {v : Value} {y : DataW H × List MemPlace} (h : DataW.trod enc Try.prog w base spare held fuel 57 [v] = some y) (hk : Rows.uptoBulk y.1 ≤ 1048576) : ∃ lo lc ls, v = .slice lo (List.length ls) lc ∧ RowN w lo lc ls ∧ ls.length + 1 ≤ Rows.uptoBulk y.1 := by
  rcases open_ints Try.underlying57 Try.underlying22 (by kernel_rfl) h with ⟨h1, rfl⟩ | ⟨a, len, cap, zs, h1, _, hl, _, hz, rfl, hc, hw⟩
  · injection h1 with h1 _
    exact ⟨none, 0, [], h1, ⟨fun _ => ⟨rfl, rfl⟩, fun h => absurd rfl h, (fun x h => by cases h), by simp⟩, by simp [Rows.uptoBulk]⟩
  · injection h1 with h1 _
    have hzl : len ≤ zs.length := by rw [hz]; split <;> omega
    have hlen : ((zs.take len).map Int.toNat).length = len := by simp; omega
    have hb : len + 1 ≤ Rows.uptoBulk (DataW.slice (lits .u64 (zs.take len)) (lits .u64 (zs.drop len)) : DataW H) := by
      have q := bulk_size (lits .u64 (zs.take len) : List (DataW H))
      have : (lits .u64 (zs.take len) : List (DataW H)).length = len := by simp [lits]; omega
      simp only [Rows.uptoBulk]
      omega
    have hk' : len + 1 ≤ 1048576 := Nat.le_trans hb hk
    have hwf : ∀ z ∈ zs, 0 ≤ z ∧ z < 18446744073709551616 := by
      intro z hz'
      have := hw z hz'
      simp [Lit.wf, IntKind.min, IntKind.max, IntKind.bits, IntKind.signed] at this
      omega
    refine ⟨some a, cap, (zs.take len).map Int.toNat, by rw [h1, hlen], ⟨(fun h => by cases h), fun hne => ?_, ?_, ?_⟩, by rw [hlen]; exact hb⟩
    · have hpos : 0 < len := by
        rw [← hlen]; exact List.length_pos_iff.2 hne
      have c0 := hc 0 (by omega)
      have hsp : a.spot = none := by
        have := World.cell?_spot c0
        simpa [Addr.add] using this
      refine ⟨a.block, a.off, by (obtain ⟨b, o, s⟩ := a; simp at hsp; subst hsp; rfl), ?_, fun j hj => ?_⟩
      · have := World.block_lt_of_cell? w _ c0
        simpa [Addr.add] using this
      · rw [hlen] at hj
        have cj := hc j (by omega)
        rw [spot_addr hsp] at cj
        rw [cj]
        have hjz : j < zs.length := by omega
        have e1 : zs.getD j 0 = zs[j] := by simp [List.getD, hjz]
        have e2 : ((zs.take len).map Int.toNat).getD j 0 = (zs[j]).toNat := by simp [List.getD, hjz, hj]
        rw [e1, e2]
        have := hwf zs[j] (List.getElem_mem hjz)
        rw [Int.toNat_of_nonneg this.1]
    · intro x hx
      obtain ⟨z, hz', rfl⟩ := List.mem_map.1 hx
      have := hwf z (List.mem_of_mem_take hz')
      omega
    · rw [hlen]; omega
theorem rowS_of {fuel : Nat} {v : Value} {y : DataW H × List MemPlace} (h : DataW.trod enc Try.prog w base spare held fuel 58 [v] = some y) (hk : Rows.uptoBulk y.1 ≤ 1048576) : ∃ to_ tc ts, v = .slice to_ (List.length ts) tc ∧ RowS w to_ tc ts ∧ tsum ts + 1 ≤ Rows.uptoBulk y.1 := by
  rcases open_strings Try.underlying58 Try.underlying9 (by kernel_rfl) h with ⟨h1, rfl⟩ | ⟨a, len, cap, zs, h1, _, hl, _, hz, rfl, hc, hw⟩
  · injection h1 with h1 _
    exact ⟨none, 0, [], h1, ⟨fun _ => ⟨rfl, rfl⟩, fun h => absurd rfl h, (fun x h => by cases h), by simp⟩, by simp [Rows.uptoBulk, tsum]⟩
  · injection h1 with h1 _
    have hzl : len ≤ zs.length := by rw [hz]; split <;> omega
    have hlen : (zs.take len).length = len := by simp; omega
    have hb : tsum (zs.take len) + 1 ≤ Rows.uptoBulk (DataW.slice (strs (zs.take len)) (strs (zs.drop len)) : DataW H) := by
      simp only [Rows.uptoBulk, bulk_strs]
      omega
    have hk' : tsum (zs.take len) + 1 ≤ 1048576 := Nat.le_trans hb hk
    refine ⟨some a, cap, zs.take len, by rw [h1, hlen], ⟨(fun h => by cases h), fun hne => ?_, ?_, ?_⟩, hb⟩
    · have hpos : 0 < len := by
        rw [← hlen]; exact List.length_pos_iff.2 hne
      have c0 := hc 0 (by omega)
      have hsp : a.spot = none := by
        have := World.cell?_spot c0
        simpa [Addr.add] using this
      refine ⟨a.block, a.off, by (obtain ⟨b, o, s⟩ := a; simp at hsp; subst hsp; rfl), ?_, fun j hj => ?_⟩
      · have := World.block_lt_of_cell? w _ c0
        simpa [Addr.add] using this
      · rw [hlen] at hj
        have cj := hc j (by omega)
        rw [spot_addr hsp] at cj
        rw [cj]
        have hjz : j < zs.length := by omega
        simp [List.getD, hjz, hj]
    · intro x hx
      have := tsum_mem hx
      omega
    · have := tsum_len (zs.take len)
      omega
set_option maxRecDepth 100000 in
theorem put_of {fuel : Nat} {cs : List Value} {y : DataW H × List MemPlace} (h : DataW.trod enc Try.prog w base spare held fuel 60 cs = some y) (hk : Rows.uptoBulk y.1 ≤ 1048576) : ∃ p : PutA, cs = p.cells ∧ PutOk w p ∧ p.bulk ≤ Rows.uptoBulk y.1 := by
  obtain ⟨ys, n, _, rfl, hlc, hlen, hg⟩ := DataW.trod_struct Try.underlying60 h
  rw [show Try.prog.cellsOf 60 = 5 from by kernel_rfl] at hlc
  match ys, hlen, cs, hlc with
  | [y0, y1, y2, y3, y4], _, [c0, c1, c2, c3, c4], _ =>
    have g0 : DataW.trod enc Try.prog w base spare held n 3 (([c0, c1, c2, c3, c4].drop 0).take (Try.prog.cellsOf 3)) = some y0 := hg 0 _ rfl
    have g1 : DataW.trod enc Try.prog w base spare held n 22 (([c0, c1, c2, c3, c4].drop 1).take (Try.prog.cellsOf 22)) = some y1 := hg 1 _ rfl
    have g2 : DataW.trod enc Try.prog w base spare held n 9 (([c0, c1, c2, c3, c4].drop 2).take (Try.prog.cellsOf 9)) = some y2 := hg 2 _ rfl
    have g3 : DataW.trod enc Try.prog w base spare held n 57 (([c0, c1, c2, c3, c4].drop 3).take (Try.prog.cellsOf 57)) = some y3 := hg 3 _ rfl
    have g4 : DataW.trod enc Try.prog w base spare held n 58 (([c0, c1, c2, c3, c4].drop 4).take (Try.prog.cellsOf 58)) = some y4 := hg 4 _ rfl
    rw [show Try.prog.cellsOf 3 = 1 from by kernel_rfl] at g0
    rw [show Try.prog.cellsOf 22 = 1 from by kernel_rfl] at g1
    rw [show Try.prog.cellsOf 9 = 1 from by kernel_rfl] at g2
    rw [show Try.prog.cellsOf 57 = 1 from by kernel_rfl] at g3
    rw [show Try.prog.cellsOf 58 = 1 from by kernel_rfl] at g4
    simp only [List.drop, List.take] at g0 g1 g2 g3 g4
    obtain ⟨k, e0, rfl, _⟩ := DataW.trod_int Try.underlying3 g0
    obtain ⟨z, e1, rfl, hz⟩ := DataW.trod_int Try.underlying22 g1
    obtain ⟨s, e2, rfl, _⟩ := DataW.trod_string Try.underlying9 g2
    injection e0 with e0 _
    injection e1 with e1 _
    injection e2 with e2 _
    have hsum : Rows.uptoBulk (DataW.agg ([((.lit (.int .i64 k), []) : DataW H × List MemPlace), (.lit (.int .u64 z), []), (.lit (.string s.data.toList), []), y3, y4].map (·.1))) = s.size + 1 + Rows.uptoBulk y3.1 + Rows.uptoBulk y4.1 + 3 := by
      have e : s.data.toList.length = s.size := by rw [Array.length_toList]; rfl
      simp only [List.map, Rows.uptoBulk, Rows.uptoBulkAll, e]
      omega
    rw [hsum] at hk
    obtain ⟨lo, lc, ls, rfl, hL, hbl⟩ := rowN_of g3 (by omega)
    obtain ⟨to_, tc, ts, rfl, hT, hbt⟩ := rowS_of g4 (by omega)
    have hwz : 0 ≤ z ∧ z < 18446744073709551616 := by
      simp [Lit.wf, IntKind.min, IntKind.max, IntKind.bits, IntKind.signed] at hz
      omega
    refine ⟨⟨k, z.toNat, s, lo, lc, ls, to_, tc, ts⟩, ?_, ⟨?_, ?_, hL, hT⟩, ?_⟩
    · simp only [PutA.cells, e0, e1, e2]
      rw [Int.toNat_of_nonneg hwz.1]
    · show z.toNat < _
      omega
    · show s.size ≤ _
      omega
    · show s.size + ls.length + tsum ts + 1 ≤ _
      refine Nat.le_trans ?_ (Nat.le_of_eq hsum.symm)
      omega
theorem psum_le : ∀ (l : List PutA) (es : List (DataW H)), l.length = es.length → (∀ i (h : i < l.length) (h' : i < es.length), l[i].bulk ≤ Rows.uptoBulk es[i]) → psum l ≤ Rows.uptoBulkAll es
  | [], _, _, _ => Nat.zero_le _
  | p :: r, [], h, _ => by simp at h
  | p :: r, e :: q, h, hb => by
    have h0 := hb 0 (by simp) (by simp)
    have ih := psum_le r q (by simpa using h) (fun i h1 h2 => by have := hb (i + 1) (by simpa using h1) (by simpa using h2); simpa using this)
    simp only [List.getElem_cons_zero] at h0
    simp only [psum, Rows.uptoBulkAll]
    omega
theorem bulk_mem : ∀ {es : List (DataW H)} (i : Nat) (h : i < es.length), Rows.uptoBulk es[i] ≤ Rows.uptoBulkAll es
  | e :: q, 0, _ => by simp [Rows.uptoBulkAll]
  | e :: q, i + 1, h => by
    have := bulk_mem (es := q) i (by simpa using h)
    simp only [List.getElem_cons_succ, Rows.uptoBulkAll]
    omega
theorem puts_of {fuel : Nat} {cs : List Value} {y : DataW H × List MemPlace} (h : DataW.trod enc Try.prog w base spare held fuel 50 cs = some y) (hk : Rows.uptoBulk y.1 ≤ 1048576) : ∃ so cap l, cs = [.slice so (List.length l) cap] ∧ PRow w so l ∧ psum l + 1 ≤ Rows.uptoBulk y.1 := by
  rcases DataW.trod_slice Try.underlying50 h with ⟨rfl, rfl⟩ | ⟨a, len, cap, elems, rest, n, _, rfl, rfl, hb, hl, hm, hlen, hel, hsp, hns⟩
  · exact ⟨none, 0, [], rfl, ⟨fun h => absurd rfl h, (fun p hp => by cases hp), Nat.zero_le _, Nat.zero_le _⟩, by simp [Rows.uptoBulk, psum]⟩
  rw [show Try.prog.cellsOf 60 = 5 from by kernel_rfl] at hel
  have hall : Rows.uptoBulkAll (elems.map (·.1)) + 1 ≤ Rows.uptoBulk (DataW.slice (elems.map (·.1)) (rest.map (·.1)) : DataW H) := by
    simp only [Rows.uptoBulk]
    omega
  have hk2 : Rows.uptoBulkAll (elems.map (·.1)) + 1 ≤ 1048576 := Nat.le_trans hall hk
  have each : ∀ i, ∃ p : PutA, i < len → (∃ cs', w.cells? base (a.add (i * 5)) 5 = some cs' ∧ cs' = p.cells) ∧ PutOk w p ∧ ∀ h : i < elems.length, p.bulk ≤ Rows.uptoBulk elems[i].1 := by
    intro i
    by_cases hi : i < len
    · have h2 := hel i hi
      have hie : i < elems.length := by omega
      rw [List.getElem?_eq_getElem hie, Option.bind_eq_some_iff] at h2
      obtain ⟨cs', hcs, hy'⟩ := h2
      have hbi : Rows.uptoBulk elems[i].1 ≤ Rows.uptoBulkAll (elems.map (·.1)) := by
        have := bulk_mem (es := elems.map (·.1)) i (by simpa using hie)
        simpa using this
      obtain ⟨p, hp, hok, hbp⟩ := put_of hy' (by omega)
      exact ⟨p, fun _ => ⟨⟨cs', hcs, hp⟩, hok, fun _ => hbp⟩⟩
    · exact ⟨PutA.none, fun h => absurd h hi⟩
  obtain ⟨f, hf⟩ := Classical.axiomOfChoice each
  have hsum : psum ((List.range len).map f) ≤ Rows.uptoBulkAll (elems.map (·.1)) := by
    refine psum_le _ _ (by simp [hlen]) (fun i h1 h2 => ?_)
    have h1' : i < len := by simpa using h1
    have := (hf i h1').2.2 (by omega)
    simpa using this
  have hlb := bulk_size (elems.map (·.1) : List (DataW H))
  rw [List.length_map] at hlb
  refine ⟨some a, cap, (List.range len).map f, by simp, ⟨fun hne => ?_, ?_, by (simp; omega), by omega⟩, Nat.le_trans (by omega) hall⟩
  · have hpos : 0 < len := by
      have := List.length_pos_iff.2 hne
      simpa using this
    have cell : ∀ i, i < len → ∀ c, c < 5 → w.cell? ((a.add (i * 5)).add c) = (f i).cells[c]? := by
      intro i hi c hc
      obtain ⟨⟨cs', hcs, rfl⟩, _⟩ := hf i hi
      exact (World.cells?_some hcs).2.2 c hc
    have c0 := cell 0 hpos 0 (by decide)
    rw [Nat.zero_mul, show (a.add 0).add 0 = a from by simp [Addr.add]] at c0
    have c0' : w.cell? a = some (.int .i64 (f 0).kd) := c0
    have hspot : a.spot = none := World.cell?_spot c0'
    refine ⟨a.block, a.off, by (obtain ⟨b, o, s⟩ := a; simp at hspot; subst hspot; rfl), World.block_lt_of_cell? w _ c0', fun i hi c hc => ?_⟩
    have hi' : i < len := by simpa using hi
    have q := cell i hi' c hc
    rw [spot_addr hspot, spot_addr rfl] at q
    rw [q]
    simp [List.getD, hi']
  · intro p hp
    obtain ⟨i, hi, rfl⟩ := List.mem_map.1 hp
    exact (hf i (by simpa using hi)).2.1
end
end Go.Proofs.Ytajkgecegefnmaa

namespace Go.Proofs.Ytajkgecegefnmaa
open Go.ChangeShapes Go.WideShapes Go.ChangeAt Go.RowKit Go.Deep
set_option linter.unusedSimpArgs false
set_option linter.unusedVariables false

def PutA.form (p : PutA) : List Nat := formP p.kd p.X p.s p.ls p.ts
def formsP (l : List PutA) : List Nat := l.flatMap PutA.form
theorem formsP_next (l : List PutA) (j : Nat) (h : j < l.length) : formsP (l.take (j + 1)) = formsP (l.take j) ++ (l.getD j PutA.none).form := by
  unfold formsP
  rw [List.take_add_one, List.flatMap_append]
  simp [List.getD, h]
theorem formsP_split (l : List PutA) (j : Nat) (h : j < l.length) : formsP l = formsP (l.take j) ++ ((l.getD j PutA.none).form ++ formsP (l.drop (j + 1))) := by
  rw [← List.append_assoc, ← formsP_next l j h]
  unfold formsP
  rw [← List.flatMap_append, List.take_append_drop]
theorem texts_le : ∀ (ts : List ByteArray), (∀ x ∈ ts, x.size < 18446744073709551616) → (texts ts).length ≤ 9 * tsum ts
  | [], _ => Nat.le_refl _
  | t :: r, h => by
    have ih := texts_le r (fun x hx => h x (by simp [hx]))
    have h1 := form_le (h t (by simp))
    have e : texts (t :: r) = text t ++ texts r := by unfold texts; rw [List.flatMap_cons]
    have e2 : (text t).length = (form t.size).length + t.size := by unfold text; rw [List.length_append, sb_length]
    rw [e, List.length_append, e2, tsum]
    omega
theorem form_size {w : World} {p : PutA} (h : PutOk w p) : p.form.length ≤ 9 * p.bulk + 9 := by
  have hX := h.X
  have h1 := form_le (x := p.X) hX
  have h3 := forms_le p.ls h.L.size
  have h4 := texts_le p.ts (fun x hx => by have := h.T.size x hx; omega)
  have h5 := form_le (x := p.ls.length) (by have := h.L.len; omega)
  have h6 := form_le (x := p.ts.length) (by have := h.T.len; omega)
  have h7 := form_le (x := p.s.size) (by have := h.s; omega)
  have h8 : (form (fold (IntKind.i64.wrap (p.X : Int)))).length ≤ 9 := by
    obtain ⟨sx, hsx, a0, a1⟩ := i64_of p.X
    rw [hsx]
    exact form_le (fold_lt a0 a1)
  unfold PutA.form formP PutA.bulk
  repeat' split
  all_goals (try simp only [List.length_append, List.length_cons, List.length_nil, hi_length, text, sb_length])
  all_goals omega
theorem formsP_le : ∀ (l : List PutA) {w : World}, (∀ p ∈ l, PutOk w p) → (formsP l).length ≤ 9 * psum l + 9 * l.length
  | [], _, _ => by simp [formsP]
  | p :: r, w, h => by
    have ih := formsP_le r (fun q hq => h q (by simp [hq]))
    have h1 := form_size (h p (by simp))
    unfold formsP at ih ⊢
    rw [List.flatMap_cons, List.length_append, psum, List.length_cons]
    omega
theorem texts_split (l : List ByteArray) (j : Nat) (h : j < l.length) : texts l = texts (l.take j) ++ (text (l.getD j ⟨#[]⟩) ++ texts (l.drop (j + 1))) := by
  rw [← List.append_assoc, ← texts_next l j h]
  unfold texts
  rw [← List.flatMap_append, List.take_append_drop]
theorem RowN.below {w w' : World} {so : Option Addr} {cap : Nat} {l : List Nat} (h : RowN w so cap l) (hb : Below w.heap.size w w') : RowN w' so cap l :=
  ⟨h.nil, fun hn => by
    obtain ⟨b, off, h1, h2, h3⟩ := h.cells hn
    exact ⟨b, off, h1, Nat.lt_of_lt_of_le h2 hb.size, fun j hj => (hb.cell (p := ⟨b, off + j, none⟩) h2).trans (h3 j hj)⟩, h.size, h.len⟩
theorem RowS.below {w w' : World} {so : Option Addr} {cap : Nat} {l : List ByteArray} (h : RowS w so cap l) (hb : Below w.heap.size w w') : RowS w' so cap l :=
  ⟨h.nil, fun hn => by
    obtain ⟨b, off, h1, h2, h3⟩ := h.cells hn
    exact ⟨b, off, h1, Nat.lt_of_lt_of_le h2 hb.size, fun j hj => (hb.cell (p := ⟨b, off + j, none⟩) h2).trans (h3 j hj)⟩, h.size, h.len⟩
theorem PutOk.below {w w' : World} {p : PutA} (h : PutOk w p) (hb : Below w.heap.size w w') : PutOk w' p := ⟨h.X, h.s, h.L.below hb, h.T.below hb⟩
theorem RowN.far {w : World} {so : Option Addr} {cap : Nat} {l : List Nat} (h : RowN w so cap l) : ∀ ad, so = some ad → l ≠ [] → ad.block < w.heap.size := fun ad e hn => by
  obtain ⟨b, off, h1, h2, _⟩ := h.cells hn
  rw [h1] at e; cases e; exact h2
theorem RowS.far {w : World} {so : Option Addr} {cap : Nat} {l : List ByteArray} (h : RowS w so cap l) : ∀ ad, so = some ad → l ≠ [] → ad.block < w.heap.size := fun ad e hn => by
  obtain ⟨b, off, h1, h2, _⟩ := h.cells hn
  rw [h1] at e; cases e; exact h2
theorem sb_lt (s : ByteArray) : ∀ b ∈ sb s, b < 256 := by
  intro b hb
  unfold sb at hb
  obtain ⟨x, _, rfl⟩ := List.mem_map.1 hb
  exact x.toNat_lt
theorem text_lt {s : ByteArray} (h : s.size < 18446744073709551616) : ∀ b ∈ text s, b < 256 := by
  intro b hb
  unfold text at hb
  rcases List.mem_append.1 hb with h1 | h1
  · exact form_lt h b h1
  · exact sb_lt s b h1
theorem formP_lt {w : World} {p : PutA} (h : PutOk w p) : ∀ b ∈ p.form, b < 256 := by
  have hX := h.X
  intro b hb
  unfold PutA.form formP at hb
  split at hb
  · exact form_lt hX b hb
  split at hb
  · obtain ⟨sx, hsx, a0, a1⟩ := i64_of p.X
    rw [hsx] at hb
    exact form_lt (fold_lt a0 a1) b hb
  split at hb
  · have := List.mem_singleton.1 hb
    omega
  split at hb
  · exact hi_lt 8 p.X b hb
  split at hb
  · exact text_lt (by have := h.s; omega) b hb
  split at hb
  · rcases List.mem_append.1 hb with h1 | h1
    · exact form_lt (by have := h.L.len; omega) b h1
    · obtain ⟨x, hx, h2⟩ := List.mem_flatMap.1 h1
      exact form_lt (h.L.size x hx) b h2
  split at hb
  · rcases List.mem_append.1 hb with h1 | h1
    · exact form_lt (by have := h.T.len; omega) b h1
    · obtain ⟨x, hx, h2⟩ := List.mem_flatMap.1 h1
      exact text_lt (by have := h.T.size x hx; omega) b h2
  · cases hb
theorem formsP_lt {w : World} {l : List PutA} (h : ∀ p ∈ l, PutOk w p) : ∀ b ∈ formsP l, b < 256 := by
  intro b hb
  obtain ⟨p, hp, h1⟩ := List.mem_flatMap.1 hb
  exact formP_lt (h p hp) b h1
theorem psum_take : ∀ (l : List PutA) (j : Nat), psum (l.take j) ≤ psum l
  | [], j => by simp
  | p :: r, 0 => Nat.zero_le _
  | p :: r, j + 1 => by
    have := psum_take r j
    simp only [List.take_succ_cons, psum]
    omega
theorem psum_mem : ∀ {l : List PutA} {p : PutA}, p ∈ l → p.bulk ≤ psum l
  | a :: r, p, h => by
    rcases List.mem_cons.1 h with rfl | h
    · simp only [psum]; omega
    · have := psum_mem h; simp only [psum]; omega
theorem getD_mem {l : List PutA} {j : Nat} (h : j < l.length) : l.getD j PutA.none ∈ l := by
  have e : l.getD j PutA.none = l[j] := by simp [List.getD, h]
  rw [e]; exact List.getElem_mem h
/-- 'puts', of a thing of the row, by a writer that is newer than the row -/
theorem puts_row (p : PutA) (g : Nat) (v : Value) (bs : List Nat) (w0 w : World) (hok : PutOk w0 p) (hb : Below w0.heap.size w0 w) (hW : WObj w g v bs) (hg : w0.heap.size ≤ g) (hv : ∀ k, v.ownBlock = some k → w0.heap.size ≤ k) (hl : bs.length + 9 * p.bulk + 18 ≤ 8796093022208) : Calls Try.prog 27 #[.pointer (some ⟨g, 0, none⟩), .agg #[.int .i64 p.kd, .int .u64 (p.X : Int), .string p.s, .slice p.lo p.ls.length p.lc, .slice p.to_ p.ts.length p.tc]] w (fun e w' => ∃ v', e = .returned (.bool true) ∧ WObj w' g v' (bs ++ p.form) ∧ WKeep g v w w' ∧ Near w v v') := by
  have h4 := texts_le p.ts (fun x hx => by have := hok.T.size x hx; omega)
  have hbk : p.bulk = p.s.size + p.ls.length + tsum p.ts + 1 := rfl
  refine puts_c p.kd g v bs p.X p.s p.lo p.to_ p.lc p.tc p.ls p.ts w hW (by omega) hok.X (by have := hok.s; omega) (hok.L.below hb) (hok.T.below hb) (fun ad h hn => ?_) (fun ad h hn => ?_) (by omega)
  · have := hok.L.far ad h hn
    exact ⟨by omega, fun e => by have := hv _ e.symm; omega⟩
  · have := hok.T.far ad h hn
    exact ⟨by omega, fun e => by have := hv _ e.symm; omega⟩
end Go.Proofs.Ytajkgecegefnmaa

namespace Go.Proofs.Ytajkgecegefnmaa
open Go.ChangeShapes Go.WideShapes Go.ChangeAt Go.RowKit Go.Deep
set_option linter.unusedSimpArgs false
set_option linter.unusedVariables false

theorem own_mono {w : World} {base base' : Nat} {e : TypeId} {size : Nat} {v : Value} {n : Nat} {xs : List Value} (h : w.ownsRow base e size v n xs) (hb : base' ≤ base) : w.ownsRow base' e size v n xs :=
  ⟨h.1, h.2.imp id (fun ⟨g, cap, cur, a, b, r⟩ => ⟨g, cap, cur, a, Nat.le_trans hb b, r⟩)⟩
theorem strCells_sb (s : ByteArray) : Go.Lib.strCells s = (sb s).map (fun (b : Nat) => Value.int .u8 (b : Int)) := by
  unfold Go.Lib.strCells sb
  rw [List.map_map]
  rfl

set_option maxRecDepth 100000 in
set_option maxHeartbeats 2000000 in
theorem refText_c (s : ByteArray) (w : World) (hs : s.size ≤ 1099511627776) : Calls Try.prog 57 #[.string s] w (fun e w' => ∃ g cap, e = .returned (.slice (some ⟨g, 0, none⟩) (text s).length cap) ∧ w'.ownsRow w.heap.size 5 1 (.slice (some ⟨g, 0, none⟩) (text s).length cap) (text s).length ((text s).map (fun (b : Nat) => Value.int .u8 (b : Int))) ∧ Below w.heap.size w w') := by
  obtain ⟨i0, hi0, hz0, hz1, hz2⟩ := info_parts info5
  have hfp := form_pos s.size
  have hfl := form_le (x := s.size) (by omega)
  go_enter Try.func57, Try.ntmps57
  go_wp2_with fail
  refine (refNum_c s.size _ (by omega)).mono ?_
  rintro e w1 ⟨g1, cap1, rfl, own1, hb1⟩
  have HOW := hide own1
  have HB1 := hide hb1
  clear own1 hb1
  go_wp2_with (at_builtin; refine Go.Lib.wpList_append_own_string _ rfl _ _ 28 9 rfl w.heap.size 5 i0 Try.underlying28 Try.underlying9 hi0 hz0 hz1 hz2 (.slice (some ⟨g1, 0, none⟩) (form s.size).length cap1) _ _ rfl HOW.out s rfl (by unfold maxLen; omega) (by omega) HB1.out.size ?_; intro v2 w2 own2 hg2 hiff)
  go_ret
  obtain ⟨g2, cap2, rfl, hg20, hg2z, hcp, hcl, hcf⟩ := own_form own2 (by omega)
  have e1 : (text s).length = (form s.size).length + s.size := by unfold text; rw [List.length_append, sb_length]
  have e2 : (text s).map (fun (b : Nat) => Value.int .u8 (b : Int)) = (form s.size).map (fun (b : Nat) => Value.int .u8 (b : Int)) ++ Go.Lib.strCells s := by rw [strCells_sb, ← List.map_append]; rfl
  have hgk : ∀ k, (Value.slice (some ⟨g1, 0, none⟩) (form s.size).length cap1).ownBlock = some k → w.heap.size ≤ k := fun k hk => by
    have e : g1 = k := Option.some.inj hk
    have := (HOW.out.lt g1 rfl).1
    omega
  exact ⟨g2, cap2, by (rw [e1]; rfl), by (rw [e1, e2]; exact own2), below_grown HB1.out hg2 hgk HB1.out.size⟩

set_option maxRecDepth 100000 in
set_option maxHeartbeats 4000000 in
theorem formD_1 (X : Nat) (s : ByteArray) (lo to_ : Option Addr) (lc tc : Nat) (ls : List Nat) (ts : List ByteArray) (w : World) (hX : X < 18446744073709551616) : Calls Try.prog 26 #[.agg #[.int .i64 1, .int .u64 (X : Int), .string s, (.slice lo ls.length lc), (.slice to_ ts.length tc)]] w (fun e w' => ∃ v, e = .returned v ∧ w'.ownsRow w.heap.size 5 1 v (form X).length ((form X).map (fun (b : Nat) => Value.int .u8 (b : Int))) ∧ Below w.heap.size w w') := by
  have hB0 : Below w.heap.size w (w.alloc (.cells #[.int .i64 1, .int .u64 (X : Int), .string s, (.slice lo ls.length lc), (.slice to_ ts.length tc)] 60)) := by (focus repeat' (first | (with_reducible exact Below.refl _ _) | (with_reducible assumption) | (with_reducible refine Below.alloc ?_ ?_ _) | (with_reducible refine Below.drew ?_) | (with_reducible refine bdrewN ?_ _) | (with_reducible refine Below.setCell ?_ ?_ _) | (first | (with_reducible exact Nat.le_refl _) | (with_reducible assumption) | omega | (simp; omega) | (simp; done))))
  have HB0 := hide hB0
  have hz0 : w.heap.size ≤ (w.alloc (.cells #[.int .i64 1, .int .u64 (X : Int), .string s, (.slice lo ls.length lc), (.slice to_ ts.length tc)] 60)).heap.size := hB0.size
  clear hB0
  go_enter Try.func26, Try.ntmps26
  go_wp2_with fail
  refine (refNum_c X _ hX).mono ?_
  rintro e w1 ⟨g1, cap1, rfl, own1, hb1⟩
  have own2 := own_mono own1 hz0
  have HOW := hide own2
  have HB1 := hide (HB0.out.trans (hb1.mono hz0))
  clear own1 own2 hb1
  go_wp2
  go_ret
  exact ⟨_, rfl, HOW.out, HB1.out⟩

set_option maxRecDepth 100000 in
set_option maxHeartbeats 4000000 in
theorem formD_2 (X : Nat) (s : ByteArray) (lo to_ : Option Addr) (lc tc : Nat) (ls : List Nat) (ts : List ByteArray) (sx : Int) (w : World) (hX : X < 18446744073709551616) (hsx : IntKind.i64.wrap (X : Int) = sx) (h0 : -9223372036854775808 ≤ sx) (h1 : sx ≤ 9223372036854775807) : Calls Try.prog 26 #[.agg #[.int .i64 2, .int .u64 (X : Int), .string s, (.slice lo ls.length lc), (.slice to_ ts.length tc)]] w (fun e w' => ∃ v, e = .returned v ∧ w'.ownsRow w.heap.size 5 1 v (form (fold sx)).length ((form (fold sx)).map (fun (b : Nat) => Value.int .u8 (b : Int))) ∧ Below w.heap.size w w') := by
  have hB0 : Below w.heap.size w (w.alloc (.cells #[.int .i64 2, .int .u64 (X : Int), .string s, (.slice lo ls.length lc), (.slice to_ ts.length tc)] 60)) := by (focus repeat' (first | (with_reducible exact Below.refl _ _) | (with_reducible assumption) | (with_reducible refine Below.alloc ?_ ?_ _) | (with_reducible refine Below.drew ?_) | (with_reducible refine bdrewN ?_ _) | (with_reducible refine Below.setCell ?_ ?_ _) | (first | (with_reducible exact Nat.le_refl _) | (with_reducible assumption) | omega | (simp; omega) | (simp; done))))
  have HB0 := hide hB0
  have hz0 : w.heap.size ≤ (w.alloc (.cells #[.int .i64 2, .int .u64 (X : Int), .string s, (.slice lo ls.length lc), (.slice to_ ts.length tc)] 60)).heap.size := hB0.size
  clear hB0
  go_enter Try.func26, Try.ntmps26
  go_wp2_with fail
  refine (refFold_c' sx _ h0 h1).mono ?_
  rintro e w1 ⟨rfl, rfl⟩
  go_wp2_with fail
  refine (refNum_c (fold sx) _ (fold_lt h0 h1)).mono ?_
  rintro e w1 ⟨g1, cap1, rfl, own1, hb1⟩
  have own2 := own_mono own1 hz0
  have HOW := hide own2
  have HB1 := hide (HB0.out.trans (hb1.mono hz0))
  clear own1 own2 hb1
  go_wp2
  go_ret
  exact ⟨_, rfl, HOW.out, HB1.out⟩

set_option maxRecDepth 100000 in
set_option maxHeartbeats 4000000 in
theorem formD_3 (X : Nat) (s : ByteArray) (lo to_ : Option Addr) (lc tc : Nat) (ls : List Nat) (ts : List ByteArray) (w : World) (hX : X < 18446744073709551616) : Calls Try.prog 26 #[.agg #[.int .i64 3, .int .u64 (X : Int), .string s, (.slice lo ls.length lc), (.slice to_ ts.length tc)]] w (fun e w' => ∃ v, e = .returned v ∧ w'.ownsRow w.heap.size 5 1 v ([X % 2]).length (([X % 2]).map (fun (b : Nat) => Value.int .u8 (b : Int))) ∧ Below w.heap.size w w') := by
  have hB0 : Below w.heap.size w (w.alloc (.cells #[.int .i64 3, .int .u64 (X : Int), .string s, (.slice lo ls.length lc), (.slice to_ ts.length tc)] 60)) := by (focus repeat' (first | (with_reducible exact Below.refl _ _) | (with_reducible assumption) | (with_reducible refine Below.alloc ?_ ?_ _) | (with_reducible refine Below.drew ?_) | (with_reducible refine bdrewN ?_ _) | (with_reducible refine Below.setCell ?_ ?_ _) | (first | (with_reducible exact Nat.le_refl _) | (with_reducible assumption) | omega | (simp; omega) | (simp; done))))
  have HB0 := hide hB0
  have hz0 : w.heap.size ≤ (w.alloc (.cells #[.int .i64 3, .int .u64 (X : Int), .string s, (.slice lo ls.length lc), (.slice to_ ts.length tc)] 60)).heap.size := hB0.size
  clear hB0
  go_enter Try.func26, Try.ntmps26
  go_wp2
  go_ret
  have q := own_one (w.alloc (.cells #[.int .i64 3, .int .u64 (X : Int), .string s, (.slice lo ls.length lc), (.slice to_ ts.length tc)] 60)) 5 w.heap.size (.int .u8 ((X % 2 : Nat) : Int)) hz0
  exact ⟨_, rfl, by simpa using q, by (focus repeat' (first | (with_reducible exact Below.refl _ _) | (with_reducible assumption) | (with_reducible refine Below.alloc ?_ ?_ _) | (with_reducible refine Below.drew ?_) | (with_reducible refine bdrewN ?_ _) | (with_reducible refine Below.setCell ?_ ?_ _) | (first | (with_reducible exact Nat.le_refl _) | (with_reducible assumption) | omega | (simp; omega) | (simp; done))))⟩

set_option maxRecDepth 100000 in
set_option maxHeartbeats 4000000 in
theorem formD_4 (X : Nat) (s : ByteArray) (lo to_ : Option Addr) (lc tc : Nat) (ls : List Nat) (ts : List ByteArray) (w : World) (hX : X < 18446744073709551616) : Calls Try.prog 26 #[.agg #[.int .i64 4, .int .u64 (X : Int), .string s, (.slice lo ls.length lc), (.slice to_ ts.length tc)]] w (fun e w' => ∃ v, e = .returned v ∧ w'.ownsRow w.heap.size 5 1 v (hi 8 X).length ((hi 8 X).map (fun (b : Nat) => Value.int .u8 (b : Int))) ∧ Below w.heap.size w w') := by
  have hB0 : Below w.heap.size w (w.alloc (.cells #[.int .i64 4, .int .u64 (X : Int), .string s, (.slice lo ls.length lc), (.slice to_ ts.length tc)] 60)) := by (focus repeat' (first | (with_reducible exact Below.refl _ _) | (with_reducible assumption) | (with_reducible refine Below.alloc ?_ ?_ _) | (with_reducible refine Below.drew ?_) | (with_reducible refine bdrewN ?_ _) | (with_reducible refine Below.setCell ?_ ?_ _) | (first | (with_reducible exact Nat.le_refl _) | (with_reducible assumption) | omega | (simp; omega) | (simp; done))))
  have HB0 := hide hB0
  have hz0 : w.heap.size ≤ (w.alloc (.cells #[.int .i64 4, .int .u64 (X : Int), .string s, (.slice lo ls.length lc), (.slice to_ ts.length tc)] 60)).heap.size := hB0.size
  clear hB0
  go_enter Try.func26, Try.ntmps26
  go_wp2_with fail
  rw [run56]
  go_wp2_with fail
  refine (refReal_c X _ hX).mono ?_
  rintro e w1 ⟨g1, cap1, rfl, own1, hb1⟩
  have own2 := own_mono own1 hz0
  have HOW := hide own2
  have HB1 := hide (HB0.out.trans (hb1.mono hz0))
  clear own1 own2 hb1
  go_wp2
  go_ret
  exact ⟨_, rfl, HOW.out, HB1.out⟩

set_option maxRecDepth 100000 in
set_option maxHeartbeats 4000000 in
theorem formD_5 (X : Nat) (s : ByteArray) (lo to_ : Option Addr) (lc tc : Nat) (ls : List Nat) (ts : List ByteArray) (w : World) (hX : X < 18446744073709551616) (hs : s.size ≤ 1099511627776) : Calls Try.prog 26 #[.agg #[.int .i64 5, .int .u64 (X : Int), .string s, (.slice lo ls.length lc), (.slice to_ ts.length tc)]] w (fun e w' => ∃ v, e = .returned v ∧ w'.ownsRow w.heap.size 5 1 v (text s).length ((text s).map (fun (b : Nat) => Value.int .u8 (b : Int))) ∧ Below w.heap.size w w') := by
  have hB0 : Below w.heap.size w (w.alloc (.cells #[.int .i64 5, .int .u64 (X : Int), .string s, (.slice lo ls.length lc), (.slice to_ ts.length tc)] 60)) := by (focus repeat' (first | (with_reducible exact Below.refl _ _) | (with_reducible assumption) | (with_reducible refine Below.alloc ?_ ?_ _) | (with_reducible refine Below.drew ?_) | (with_reducible refine bdrewN ?_ _) | (with_reducible refine Below.setCell ?_ ?_ _) | (first | (with_reducible exact Nat.le_refl _) | (with_reducible assumption) | omega | (simp; omega) | (simp; done))))
  have HB0 := hide hB0
  have hz0 : w.heap.size ≤ (w.alloc (.cells #[.int .i64 5, .int .u64 (X : Int), .string s, (.slice lo ls.length lc), (.slice to_ ts.length tc)] 60)).heap.size := hB0.size
  clear hB0
  go_enter Try.func26, Try.ntmps26
  go_wp2_with fail
  refine (refText_c s _ hs).mono ?_
  rintro e w1 ⟨g1, cap1, rfl, own1, hb1⟩
  have own2 := own_mono own1 hz0
  have HOW := hide own2
  have HB1 := hide (HB0.out.trans (hb1.mono hz0))
  clear own1 own2 hb1
  go_wp2
  go_ret
  exact ⟨_, rfl, HOW.out, HB1.out⟩

set_option maxRecDepth 100000 in
set_option maxHeartbeats 4000000 in
theorem formD_0none (X : Nat) (s : ByteArray) (lo to_ : Option Addr) (lc tc : Nat) (ls : List Nat) (ts : List ByteArray) (kd : Int) (w : World) (hX : X < 18446744073709551616) (k1 : ¬ kd = 1) (k2 : ¬ kd = 2) (k3 : ¬ kd = 3) (k4 : ¬ kd = 4) (k5 : ¬ kd = 5) (k6 : ¬ kd = 6) (k7 : ¬ kd = 7) : Calls Try.prog 26 #[.agg #[.int .i64 kd, .int .u64 (X : Int), .string s, (.slice lo ls.length lc), (.slice to_ ts.length tc)]] w (fun e w' => e = .returned (.slice none 0 0) ∧ Below w.heap.size w w') := by
  have hB0 : Below w.heap.size w (w.alloc (.cells #[.int .i64 kd, .int .u64 (X : Int), .string s, (.slice lo ls.length lc), (.slice to_ ts.length tc)] 60)) := by (focus repeat' (first | (with_reducible exact Below.refl _ _) | (with_reducible assumption) | (with_reducible refine Below.alloc ?_ ?_ _) | (with_reducible refine Below.drew ?_) | (with_reducible refine bdrewN ?_ _) | (with_reducible refine Below.setCell ?_ ?_ _) | (first | (with_reducible exact Nat.le_refl _) | (with_reducible assumption) | omega | (simp; omega) | (simp; done))))
  have HB0 := hide hB0
  have hz0 : w.heap.size ≤ (w.alloc (.cells #[.int .i64 kd, .int .u64 (X : Int), .string s, (.slice lo ls.length lc), (.slice to_ ts.length tc)] 60)).heap.size := hB0.size
  clear hB0
  go_enter Try.func26, Try.ntmps26
  go_wp2
  go_ret
  exact ⟨rfl, HB0.out⟩
end Go.Proofs.Ytajkgecegefnmaa

namespace Go.Proofs.Ytajkgecegefnmaa
open Go.ChangeShapes Go.WideShapes Go.ChangeAt Go.RowKit Go.Deep
set_option linter.unusedSimpArgs false
set_option linter.unusedVariables false

theorem own_later {w w' : World} {base : Nat} {e : TypeId} {size : Nat} {v : Value} {n : Nat} {xs : List Value} (h : w.ownsRow base e size v n xs) (hb : Below w.heap.size w w') : w'.ownsRow base e size v n xs :=
  h.kept (row := none) ⟨hb.os, hb.tape, hb.output, hb.size, fun k hk _ => hb.block k hk⟩ (by
    cases e : v.ownBlock with
    | none => exact .inl rfl
    | some k => exact .inr (by simp))

set_option maxRecDepth 100000 in
set_option maxHeartbeats 4000000 in
theorem formD_6 (X : Nat) (s : ByteArray) (lo to_ : Option Addr) (lc tc : Nat) (ls : List Nat) (ts : List ByteArray) (w : World) (hX : X < 18446744073709551616) (hn : RowN w lo lc ls) : Calls Try.prog 26 #[.agg #[.int .i64 6, .int .u64 (X : Int), .string s, (.slice lo ls.length lc), (.slice to_ ts.length tc)]] w (fun e w' => ∃ v, e = .returned v ∧ w'.ownsRow w.heap.size 5 1 v (form ls.length ++ forms ls).length ((form ls.length ++ forms ls).map (fun (b : Nat) => Value.int .u8 (b : Int))) ∧ Below w.heap.size w w') := by
  obtain ⟨i0, hi0, hz0', hz1, hz2⟩ := info_parts info5
  have hll := hn.len
  have HR := hide hn
  clear hn
  obtain ⟨wA, hwA⟩ : ∃ wA, wA = (w.alloc (.cells #[.int .i64 6, .int .u64 (X : Int), .string s, (.slice lo ls.length lc), (.slice to_ ts.length tc)] 60)) := ⟨_, rfl⟩
  have hzA : wA.heap.size = w.heap.size + 1 := by rw [hwA]; simp
  have HWA := hide hwA
  have cA : ∀ o, wA.cell? ⟨w.heap.size, o, none⟩ = (#[Value.int .i64 6, .int .u64 (X : Int), .string s, (.slice lo ls.length lc), (.slice to_ ts.length tc)] : Array Value)[o]? := fun o => by rw [hwA]; simp [go_sem]
  have hB0 : Below w.heap.size w wA := by rw [hwA]; (focus repeat' (first | (with_reducible exact Below.refl _ _) | (with_reducible assumption) | (with_reducible refine Below.alloc ?_ ?_ _) | (with_reducible refine Below.drew ?_) | (with_reducible refine bdrewN ?_ _) | (with_reducible refine Below.setCell ?_ ?_ _) | (first | (with_reducible exact Nat.le_refl _) | (with_reducible assumption) | omega | (simp; omega) | (simp; done))))
  have HB0 := hide hB0
  have hfl := form_le (x := ls.length) (by omega)
  clear hB0
  go_enter Try.func26, Try.ntmps26
  go_wp2_with fail
  rw [← HWA.out]
  clear hwA
  refine (refNum_c ls.length _ (by omega)).mono ?_
  rintro e w1 ⟨g1, cap1, rfl, own1, hb1⟩
  have HOW1 := hide own1
  have HB1 := hide hb1
  have HCA := hide cA
  clear own1 hb1 cA
  go_wp2
  go_loopw [3, 4] (fun v2 v3 wr => ∃ (j g cap : Nat), j ≤ ls.length ∧ v2 = .slice (some ⟨g, 0, none⟩) (form ls.length ++ forms (ls.take j)).length cap ∧ v3 = .int .i64 (j : Int) ∧ wr.ownsRow wA.heap.size 5 1 (.slice (some ⟨g, 0, none⟩) (form ls.length ++ forms (ls.take j)).length cap) (form ls.length ++ forms (ls.take j)).length ((form ls.length ++ forms (ls.take j)).map (fun (b : Nat) => Value.int .u8 (b : Int))) ∧ Below wA.heap.size wA wr) (fun _ v3 _ => ls.length - (intOf v3).toNat)
  case atStart =>
    have e0 : form ls.length ++ forms (ls.take 0) = form ls.length := by simp [forms]
    exact ⟨0, g1, cap1, Nat.zero_le _, by rw [e0], rfl, by (rw [e0]; exact HOW1.out), HB1.out⟩
  case round =>
    obtain ⟨j, g, cap, hj, rfl, rfl, hown, hB⟩ := hrel
    have HOW := hide hown
    have HBr := hide hB
    have bxr : ∀ o, wr.cell? ⟨w.heap.size, o, none⟩ = (#[Value.int .i64 6, .int .u64 (X : Int), .string s, (.slice lo ls.length lc), (.slice to_ ts.length tc)] : Array Value)[o]? := fun o => (hB.cell (p := ⟨w.heap.size, o, none⟩) (show w.heap.size < wA.heap.size by omega)).trans (HCA.out o)
    clear hown hB HOW1 HB1
    by_cases hlt : j < ls.length
    · have hlt' : (j : Int) < (ls.length : Int) := by omega
      obtain ⟨b, off, rfl, hbz, hbc⟩ := HR.out.cells (by intro e; rw [e] at hlt; simp at hlt)
      have c1 := (HBr.out.cell (p := ⟨b, off + j, none⟩) (show b < wA.heap.size by omega)).trans ((HB0.out.cell (p := ⟨b, off + j, none⟩) hbz).trans (hbc j hlt))
      have hsz := HR.out.size (ls.getD j 0) (by (have e : ls.getD j 0 = ls[j] := by simp [List.getD, hlt]); rw [e]; exact List.getElem_mem hlt)
      have HNX := hide (forms_next ls j hlt)
      have HLE := hide (show (form ls.length ++ forms (ls.take j)).length ≤ 9 + 9 * ls.length from by
        have q1 := forms_le (ls.take j) (fun x hx => HR.out.size x (List.mem_of_mem_take hx))
        have q2 : (ls.take j).length ≤ ls.length := by simp; omega
        rw [List.length_append]; omega)
      have hle := HLE.out
      clear hbc
      generalize ls.getD j 0 = y at *
      have HSZ := hide hsz
      generalize hFF : form ls.length ++ forms (ls.take j) = F at *
      have HFF := hide hFF
      clear hFF hsz
      go_wp2_with fail
      refine (refNum_c y _ HSZ.out).mono ?_
      rintro e w5 ⟨g5, cap5, rfl, own5, hb5⟩
      have HO5 := hide own5
      have HB5 := hide hb5
      have HOW5 := hide (own_later HOW.out hb5)
      have HBs := hide (HBr.out.size)
      have HS5 := hide hb5.size
      have hfy : 0 < (form y).length ∧ (form y).length ≤ 9 := ⟨form_pos y, form_le HSZ.out⟩
      clear own5 hb5
      go_wp2_with (at_builtin; refine wpList_append_lies _ rfl _ _ 28 rfl wA.heap.size 5 i0 (.int .u8 0) 1 1 Try.underlying28 hi0 hz0' hz1 hz2 rfl (by decide) (.slice (some ⟨g, 0, none⟩) F.length cap) F.length (F.map (fun (b : Nat) => Value.int .u8 (b : Int))) rfl HOW5.out ⟨g5, 0, none⟩ (form y).length cap5 ((form y).map (fun (b : Nat) => Value.int .u8 (b : Int))) rfl (by simp) (own_cells HO5.out) (u8_one _) hfy.1 (by unfold maxLen; omega) (by omega) (by (have := HBs.out; have := HS5.out; omega)) _ rfl ?_; intro g2 cap2 wn hown2 hg2 hgg hgl)
      have e9 : form ls.length ++ forms (ls.take (j + 1)) = F ++ form y := by rw [HNX.out, ← List.append_assoc, HFF.out]
      have E9 := hide e9
      clear e9
      go_roundw
      case rel =>
        refine ⟨j + 1, g2, cap2, by omega, by (rw [E9.out, List.length_append]), by go_num, ?_, ?_⟩
        · rw [E9.out, List.length_append, List.map_append]
          exact hown2
        · refine below_grown (HBr.out.trans (HB5.out.mono HBs.out)) hg2 (fun k hk => ?_) (Nat.le_trans HBs.out HS5.out)
          exact (HOW5.out.lt k hk).1
      case measure => (first | (simp [intOf]; done) | (simp [intOf]; omega))
    · have hlt' : ¬ (j : Int) < (ls.length : Int) := by omega
      obtain rfl : j = ls.length := by omega
      rw [List.take_length] at HOW
      go_wp2
      go_ret
      refine ⟨.slice (some ⟨g, 0, none⟩) (form ls.length ++ forms ls).length cap, by (rw [List.length_append]; rfl), (by (have q := own_mono (base := wA.heap.size) (base' := w.heap.size) HOW.out (by omega)); simpa only [List.length_append, List.map_append] using q), HB0.out.trans (HBr.out.mono (B' := w.heap.size) (by omega))⟩

set_option maxRecDepth 100000 in
set_option maxHeartbeats 4000000 in
theorem formD_7 (X : Nat) (s : ByteArray) (lo to_ : Option Addr) (lc tc : Nat) (ls : List Nat) (ts : List ByteArray) (w : World) (hX : X < 18446744073709551616) (hn : RowS w to_ tc ts) (hl2 : (texts ts).length ≤ 8796093022208) : Calls Try.prog 26 #[.agg #[.int .i64 7, .int .u64 (X : Int), .string s, (.slice lo ls.length lc), (.slice to_ ts.length tc)]] w (fun e w' => ∃ v, e = .returned v ∧ w'.ownsRow w.heap.size 5 1 v (form ts.length ++ texts ts).length ((form ts.length ++ texts ts).map (fun (b : Nat) => Value.int .u8 (b : Int))) ∧ Below w.heap.size w w') := by
  obtain ⟨i0, hi0, hz0', hz1, hz2⟩ := info_parts info5
  have hll := hn.len
  have HR := hide hn
  clear hn
  obtain ⟨wA, hwA⟩ : ∃ wA, wA = (w.alloc (.cells #[.int .i64 7, .int .u64 (X : Int), .string s, (.slice lo ls.length lc), (.slice to_ ts.length tc)] 60)) := ⟨_, rfl⟩
  have hzA : wA.heap.size = w.heap.size + 1 := by rw [hwA]; simp
  have HWA := hide hwA
  have cA : ∀ o, wA.cell? ⟨w.heap.size, o, none⟩ = (#[Value.int .i64 7, .int .u64 (X : Int), .string s, (.slice lo ls.length lc), (.slice to_ ts.length tc)] : Array Value)[o]? := fun o => by rw [hwA]; simp [go_sem]
  have hB0 : Below w.heap.size w wA := by rw [hwA]; (focus repeat' (first | (with_reducible exact Below.refl _ _) | (with_reducible assumption) | (with_reducible refine Below.alloc ?_ ?_ _) | (with_reducible refine Below.drew ?_) | (with_reducible refine bdrewN ?_ _) | (with_reducible refine Below.setCell ?_ ?_ _) | (first | (with_reducible exact Nat.le_refl _) | (with_reducible assumption) | omega | (simp; omega) | (simp; done))))
  have HB0 := hide hB0
  have hfl := form_le (x := ts.length) (by omega)
  clear hB0
  go_enter Try.func26, Try.ntmps26
  go_wp2_with fail
  rw [← HWA.out]
  clear hwA
  refine (refNum_c ts.length _ (by omega)).mono ?_
  rintro e w1 ⟨g1, cap1, rfl, own1, hb1⟩
  have HOW1 := hide own1
  have HB1 := hide hb1
  have HCA := hide cA
  clear own1 hb1 cA
  go_wp2
  go_loopw [5, 6] (fun v2 v3 wr => ∃ (j g cap : Nat), j ≤ ts.length ∧ v2 = .slice (some ⟨g, 0, none⟩) (form ts.length ++ texts (ts.take j)).length cap ∧ v3 = .int .i64 (j : Int) ∧ wr.ownsRow wA.heap.size 5 1 (.slice (some ⟨g, 0, none⟩) (form ts.length ++ texts (ts.take j)).length cap) (form ts.length ++ texts (ts.take j)).length ((form ts.length ++ texts (ts.take j)).map (fun (b : Nat) => Value.int .u8 (b : Int))) ∧ Below wA.heap.size wA wr) (fun _ v3 _ => ts.length - (intOf v3).toNat)
  case atStart =>
    have e0 : form ts.length ++ texts (ts.take 0) = form ts.length := by simp [texts]
    exact ⟨0, g1, cap1, Nat.zero_le _, by rw [e0], rfl, by (rw [e0]; exact HOW1.out), HB1.out⟩
  case round =>
    obtain ⟨j, g, cap, hj, rfl, rfl, hown, hB⟩ := hrel
    have HOW := hide hown
    have HBr := hide hB
    have bxr : ∀ o, wr.cell? ⟨w.heap.size, o, none⟩ = (#[Value.int .i64 7, .int .u64 (X : Int), .string s, (.slice lo ls.length lc), (.slice to_ ts.length tc)] : Array Value)[o]? := fun o => (hB.cell (p := ⟨w.heap.size, o, none⟩) (show w.heap.size < wA.heap.size by omega)).trans (HCA.out o)
    clear hown hB HOW1 HB1
    by_cases hlt : j < ts.length
    · have hlt' : (j : Int) < (ts.length : Int) := by omega
      obtain ⟨b, off, rfl, hbz, hbc⟩ := HR.out.cells (by intro e; rw [e] at hlt; simp at hlt)
      have c1 := (HBr.out.cell (p := ⟨b, off + j, none⟩) (show b < wA.heap.size by omega)).trans ((HB0.out.cell (p := ⟨b, off + j, none⟩) hbz).trans (hbc j hlt))
      have hsz := HR.out.size (ts.getD j ⟨#[]⟩) (by (have e : ts.getD j ⟨#[]⟩ = ts[j] := by simp [List.getD, hlt]); rw [e]; exact List.getElem_mem hlt)
      have HNX := hide (texts_next ts j hlt)
      have HLE := hide (show (form ts.length ++ texts (ts.take j)).length ≤ 9 + 8796093022208 from by
        have q1 := texts_take ts j
        rw [List.length_append]; omega)
      have hle := HLE.out
      clear hbc
      generalize ts.getD j ⟨#[]⟩ = y at *
      have HSZ := hide hsz
      generalize hFF : form ts.length ++ texts (ts.take j) = F at *
      have HFF := hide hFF
      clear hFF hsz
      go_wp2_with fail
      refine (refText_c y _ HSZ.out).mono ?_
      rintro e w5 ⟨g5, cap5, rfl, own5, hb5⟩
      have HO5 := hide own5
      have HB5 := hide hb5
      have HOW5 := hide (own_later HOW.out hb5)
      have HBs := hide (HBr.out.size)
      have HS5 := hide hb5.size
      have hfy : 0 < (text y).length ∧ (text y).length ≤ 1099511627776 + 9 := (by (have e : (text y).length = (form y.size).length + y.size := by unfold text; rw [List.length_append, sb_length]); (have q1 := form_pos y.size); (have q2 := form_le (x := y.size) (by have := HSZ.out; omega)); (have := HSZ.out); rw [e]; omega)
      clear own5 hb5
      go_wp2_with (at_builtin; refine wpList_append_lies _ rfl _ _ 28 rfl wA.heap.size 5 i0 (.int .u8 0) 1 1 Try.underlying28 hi0 hz0' hz1 hz2 rfl (by decide) (.slice (some ⟨g, 0, none⟩) F.length cap) F.length (F.map (fun (b : Nat) => Value.int .u8 (b : Int))) rfl HOW5.out ⟨g5, 0, none⟩ (text y).length cap5 ((text y).map (fun (b : Nat) => Value.int .u8 (b : Int))) rfl (by simp) (own_cells HO5.out) (u8_one _) hfy.1 (by unfold maxLen; omega) (by omega) (by (have := HBs.out; have := HS5.out; omega)) _ rfl ?_; intro g2 cap2 wn hown2 hg2 hgg hgl)
      have e9 : form ts.length ++ texts (ts.take (j + 1)) = F ++ text y := by rw [HNX.out, ← List.append_assoc, HFF.out]
      have E9 := hide e9
      clear e9
      go_roundw
      case rel =>
        refine ⟨j + 1, g2, cap2, by omega, by (rw [E9.out, List.length_append]), by go_num, ?_, ?_⟩
        · rw [E9.out, List.length_append, List.map_append]
          exact hown2
        · refine below_grown (HBr.out.trans (HB5.out.mono HBs.out)) hg2 (fun k hk => ?_) (Nat.le_trans HBs.out HS5.out)
          exact (HOW5.out.lt k hk).1
      case measure => (first | (simp [intOf]; done) | (simp [intOf]; omega))
    · have hlt' : ¬ (j : Int) < (ts.length : Int) := by omega
      obtain rfl : j = ts.length := by omega
      rw [List.take_length] at HOW
      go_wp2
      go_ret
      refine ⟨.slice (some ⟨g, 0, none⟩) (form ts.length ++ texts ts).length cap, by (rw [List.length_append]; rfl), (by (have q := own_mono (base := wA.heap.size) (base' := w.heap.size) HOW.out (by omega)); simpa only [List.length_append, List.map_append] using q), HB0.out.trans (HBr.out.mono (B' := w.heap.size) (by omega))⟩
end Go.Proofs.Ytajkgecegefnmaa

namespace Go.Proofs.Ytajkgecegefnmaa
open Go.ChangeShapes Go.WideShapes Go.ChangeAt Go.RowKit Go.Deep
set_option linter.unusedSimpArgs false
set_option linter.unusedVariables false

set_option maxRecDepth 100000 in
set_option maxHeartbeats 4000000 in
theorem back_1 (g B : Nat) (ns : List Nat) (a : Nat) (X : Nat) (s : ByteArray) (lo to_ : Option Addr) (lc tc : Nat) (ls : List Nat) (ts : List ByteArray) (p : Nat) (w : World) (hR : RAny w g B ns a) (hX : X < 18446744073709551616) (hr : rd ns a = (X, 0, p)) : Calls Try.prog 32 #[.pointer (some ⟨g, 0, none⟩), .agg #[.int .i64 1, .int .u64 (X : Int), .string s, (.slice lo ls.length lc), (.slice to_ ts.length tc)]] w (fun e w' => e = .returned (.bool true) ∧ Only g w w' ∧ RAny w' g B ns p) := by
  have hB0 : Below w.heap.size w (w.alloc (.cells #[.int .i64 1, .int .u64 (X : Int), .string s, (.slice lo ls.length lc), (.slice to_ ts.length tc)] 60)) := by (focus repeat' (first | (with_reducible exact Below.refl _ _) | (with_reducible assumption) | (with_reducible refine Below.alloc ?_ ?_ _) | (with_reducible refine Below.drew ?_) | (with_reducible refine bdrewN ?_ _) | (with_reducible refine Below.setCell ?_ ?_ _) | (first | (with_reducible exact Nat.le_refl _) | (with_reducible assumption) | omega | (simp; omega) | (simp; done))))
  have HR0 := hide (hR.below hB0)
  have HB0 := hide hB0
  have hg0 := hR.cells.1
  have hbx : w.heap.size ≠ g := by omega
  clear hR hB0
  go_enter Try.func32, Try.ntmps32
  go_wp2_with fail
  refine (RNum_any g B ns a _ HR0.out).mono ?_
  rw [hr]
  rintro e w1 ⟨rfl, ho1, hR1⟩
  have HR1 := hide hR1
  have HO1 := hide (Only.trans_b HB0.out ho1)
  have bx1 : ∀ o, w1.cell? ⟨w.heap.size, o, none⟩ = (#[Value.int .i64 1, .int .u64 (X : Int), .string s, (.slice lo ls.length lc), (.slice to_ ts.length tc)] : Array Value)[o]? := fun o => (World.cell?_of_block (ho1.block w.heap.size (by simp) hbx)).trans (by simp [go_sem])
  clear hR1 ho1 HR0 HB0
  go_wp2_with (go_at_call 23; go_in)
  go_ret
  exact ⟨rfl, HO1.out, HR1.out⟩

set_option maxRecDepth 100000 in
set_option maxHeartbeats 4000000 in
theorem back_2 (g B : Nat) (ns : List Nat) (a : Nat) (X : Nat) (s : ByteArray) (lo to_ : Option Addr) (lc tc : Nat) (ls : List Nat) (ts : List ByteArray) (p : Nat) (sx : Int) (w : World) (hR : RAny w g B ns a) (hX : X < 18446744073709551616) (hr : rd ns a = (fold sx, 0, p)) (hsx : IntKind.i64.wrap (X : Int) = sx) : Calls Try.prog 32 #[.pointer (some ⟨g, 0, none⟩), .agg #[.int .i64 2, .int .u64 (X : Int), .string s, (.slice lo ls.length lc), (.slice to_ ts.length tc)]] w (fun e w' => e = .returned (.bool true) ∧ Only g w w' ∧ RAny w' g B ns p) := by
  have hB0 : Below w.heap.size w (w.alloc (.cells #[.int .i64 2, .int .u64 (X : Int), .string s, (.slice lo ls.length lc), (.slice to_ ts.length tc)] 60)) := by (focus repeat' (first | (with_reducible exact Below.refl _ _) | (with_reducible assumption) | (with_reducible refine Below.alloc ?_ ?_ _) | (with_reducible refine Below.drew ?_) | (with_reducible refine bdrewN ?_ _) | (with_reducible refine Below.setCell ?_ ?_ _) | (first | (with_reducible exact Nat.le_refl _) | (with_reducible assumption) | omega | (simp; omega) | (simp; done))))
  have HR0 := hide (hR.below hB0)
  have HB0 := hide hB0
  have hg0 := hR.cells.1
  have hbx : w.heap.size ≠ g := by omega
  clear hR hB0
  go_enter Try.func32, Try.ntmps32
  go_wp2_with fail
  refine (RSigned_c g B ns a _ HR0.out).mono ?_
  rw [hr, unf_fold]
  rintro e w1 ⟨rfl, ho1, hR1⟩
  have HR1 := hide hR1
  have HO1 := hide (Only.trans_b HB0.out ho1)
  have bx1 : ∀ o, w1.cell? ⟨w.heap.size, o, none⟩ = (#[Value.int .i64 2, .int .u64 (X : Int), .string s, (.slice lo ls.length lc), (.slice to_ ts.length tc)] : Array Value)[o]? := fun o => (World.cell?_of_block (ho1.block w.heap.size (by simp) hbx)).trans (by simp [go_sem])
  clear hR1 ho1 HR0 HB0
  go_wp2_with (go_at_call 23; go_in)
  go_ret
  exact ⟨rfl, HO1.out, HR1.out⟩

set_option maxRecDepth 100000 in
set_option maxHeartbeats 4000000 in
theorem back_5 (g B : Nat) (ns : List Nat) (a : Nat) (X : Nat) (s : ByteArray) (lo to_ : Option Addr) (lc tc : Nat) (ls : List Nat) (ts : List ByteArray) (p : Nat) (w : World) (hR : RAny w g B ns a) (hX : X < 18446744073709551616) (hr : tx ns a s.size = (sb s, 0, p)) (hs : s.size ≤ 1099511627776) : Calls Try.prog 32 #[.pointer (some ⟨g, 0, none⟩), .agg #[.int .i64 5, .int .u64 (X : Int), .string s, (.slice lo ls.length lc), (.slice to_ ts.length tc)]] w (fun e w' => e = .returned (.bool true) ∧ Only g w w' ∧ RAny w' g B ns p) := by
  have hB0 : Below w.heap.size w (w.alloc (.cells #[.int .i64 5, .int .u64 (X : Int), .string s, (.slice lo ls.length lc), (.slice to_ ts.length tc)] 60)) := by (focus repeat' (first | (with_reducible exact Below.refl _ _) | (with_reducible assumption) | (with_reducible refine Below.alloc ?_ ?_ _) | (with_reducible refine Below.drew ?_) | (with_reducible refine bdrewN ?_ _) | (with_reducible refine Below.setCell ?_ ?_ _) | (first | (with_reducible exact Nat.le_refl _) | (with_reducible assumption) | omega | (simp; omega) | (simp; done))))
  have HR0 := hide (hR.below hB0)
  have HB0 := hide hB0
  have hg0 := hR.cells.1
  have hbx : w.heap.size ≠ g := by omega
  clear hR hB0
  go_enter Try.func32, Try.ntmps32
  go_wp2_with fail
  refine (RText_c g B ns a s.size _ HR0.out (by omega)).mono ?_
  rw [hr, bstr_sb]
  rintro e w1 ⟨rfl, ho1, hR1⟩
  have HR1 := hide hR1
  have HO1 := hide (Only.trans_b HB0.out ho1)
  have bx1 : ∀ o, w1.cell? ⟨w.heap.size, o, none⟩ = (#[Value.int .i64 5, .int .u64 (X : Int), .string s, (.slice lo ls.length lc), (.slice to_ ts.length tc)] : Array Value)[o]? := fun o => (World.cell?_of_block (ho1.block w.heap.size (by simp) hbx)).trans (by simp [go_sem])
  clear hR1 ho1 HR0 HB0
  go_wp2_with (go_at_call 23; go_in)
  go_ret
  exact ⟨rfl, HO1.out, HR1.out⟩
end Go.Proofs.Ytajkgecegefnmaa

namespace Go.Proofs.Ytajkgecegefnmaa
open Go.ChangeShapes Go.WideShapes Go.ChangeAt Go.RowKit Go.Deep
set_option linter.unusedSimpArgs false
set_option linter.unusedVariables false

set_option maxRecDepth 100000 in
set_option maxHeartbeats 4000000 in
theorem back_3y (g B : Nat) (ns : List Nat) (a : Nat) (X : Nat) (s : ByteArray) (lo to_ : Option Addr) (lc tc : Nat) (ls : List Nat) (ts : List ByteArray) (p : Nat) (w : World) (hR : RAny w g B ns a) (hX : X < 18446744073709551616) (hr : fl ns a = (true, 0, p)) (hx2 : X % 2 = 1) : Calls Try.prog 32 #[.pointer (some ⟨g, 0, none⟩), .agg #[.int .i64 3, .int .u64 (X : Int), .string s, (.slice lo ls.length lc), (.slice to_ ts.length tc)]] w (fun e w' => e = .returned (.bool true) ∧ Only g w w' ∧ RAny w' g B ns p) := by
  obtain ⟨Z, hZ⟩ : ∃ Z : Int, (X : Int) = Z := ⟨_, rfl⟩
  have hm : Z % 2 = 1 := by omega
  have hZ0 : 0 ≤ Z := by omega
  rw [hZ]
  have hB0 : Below w.heap.size w (w.alloc (.cells #[.int .i64 3, .int .u64 Z, .string s, (.slice lo ls.length lc), (.slice to_ ts.length tc)] 60)) := by (focus repeat' (first | (with_reducible exact Below.refl _ _) | (with_reducible assumption) | (with_reducible refine Below.alloc ?_ ?_ _) | (with_reducible refine Below.drew ?_) | (with_reducible refine bdrewN ?_ _) | (with_reducible refine Below.setCell ?_ ?_ _) | (first | (with_reducible exact Nat.le_refl _) | (with_reducible assumption) | omega | (simp; omega) | (simp; done))))
  have HR0 := hide (hR.below hB0)
  have HB0 := hide hB0
  have hg0 := hR.cells.1
  have hbx : w.heap.size ≠ g := by omega
  clear hR hB0
  clear hZ hx2 hX
  go_enter Try.func32, Try.ntmps32
  go_wp2_with fail
  refine (RFlag_c g B ns a _ HR0.out).mono ?_
  rw [hr]
  rintro e w1 ⟨rfl, ho1, hR1⟩
  have HR1 := hide hR1
  have HO1 := hide (Only.trans_b HB0.out ho1)
  have bx1 : ∀ o, w1.cell? ⟨w.heap.size, o, none⟩ = (#[Value.int .i64 3, .int .u64 Z, .string s, (.slice lo ls.length lc), (.slice to_ ts.length tc)] : Array Value)[o]? := fun o => (World.cell?_of_block (ho1.block w.heap.size (by simp) hbx)).trans (by simp [go_sem])
  clear hR1 ho1 HR0 HB0
  go_wp2_with (go_at_call 23; go_in)
  go_ret
  exact ⟨rfl, HO1.out, HR1.out⟩

set_option maxRecDepth 100000 in
set_option maxHeartbeats 4000000 in
theorem back_3n (g B : Nat) (ns : List Nat) (a : Nat) (X : Nat) (s : ByteArray) (lo to_ : Option Addr) (lc tc : Nat) (ls : List Nat) (ts : List ByteArray) (p : Nat) (w : World) (hR : RAny w g B ns a) (hX : X < 18446744073709551616) (hr : fl ns a = (false, 0, p)) (hx2 : X % 2 = 0) : Calls Try.prog 32 #[.pointer (some ⟨g, 0, none⟩), .agg #[.int .i64 3, .int .u64 (X : Int), .string s, (.slice lo ls.length lc), (.slice to_ ts.length tc)]] w (fun e w' => e = .returned (.bool true) ∧ Only g w w' ∧ RAny w' g B ns p) := by
  obtain ⟨Z, hZ⟩ : ∃ Z : Int, (X : Int) = Z := ⟨_, rfl⟩
  have hm : Z % 2 = 0 := by omega
  have hZ0 : 0 ≤ Z := by omega
  rw [hZ]
  have hB0 : Below w.heap.size w (w.alloc (.cells #[.int .i64 3, .int .u64 Z, .string s, (.slice lo ls.length lc), (.slice to_ ts.length tc)] 60)) := by (focus repeat' (first | (with_reducible exact Below.refl _ _) | (with_reducible assumption) | (with_reducible refine Below.alloc ?_ ?_ _) | (with_reducible refine Below.drew ?_) | (with_reducible refine bdrewN ?_ _) | (with_reducible refine Below.setCell ?_ ?_ _) | (first | (with_reducible exact Nat.le_refl _) | (with_reducible assumption) | omega | (simp; omega) | (simp; done))))
  have HR0 := hide (hR.below hB0)
  have HB0 := hide hB0
  have hg0 := hR.cells.1
  have hbx : w.heap.size ≠ g := by omega
  clear hR hB0
  clear hZ hx2 hX
  go_enter Try.func32, Try.ntmps32
  go_wp2_with fail
  refine (RFlag_c g B ns a _ HR0.out).mono ?_
  rw [hr]
  rintro e w1 ⟨rfl, ho1, hR1⟩
  have HR1 := hide hR1
  have HO1 := hide (Only.trans_b HB0.out ho1)
  have bx1 : ∀ o, w1.cell? ⟨w.heap.size, o, none⟩ = (#[Value.int .i64 3, .int .u64 Z, .string s, (.slice lo ls.length lc), (.slice to_ ts.length tc)] : Array Value)[o]? := fun o => (World.cell?_of_block (ho1.block w.heap.size (by simp) hbx)).trans (by simp [go_sem])
  clear hR1 ho1 HR0 HB0
  go_wp2_with (go_at_call 23; go_in)
  go_ret
  exact ⟨rfl, HO1.out, HR1.out⟩

set_option maxRecDepth 100000 in
set_option maxHeartbeats 4000000 in
theorem back_0 (g B : Nat) (ns : List Nat) (a : Nat) (X : Nat) (s : ByteArray) (lo to_ : Option Addr) (lc tc : Nat) (ls : List Nat) (ts : List ByteArray) (kd : Int) (w : World) (hR : RAny w g B ns a) (hX : X < 18446744073709551616) (k1 : ¬ kd = 1) (k2 : ¬ kd = 2) (k3 : ¬ kd = 3) (k4 : ¬ kd = 4) (k5 : ¬ kd = 5) (k6 : ¬ kd = 6) (k7 : ¬ kd = 7) : Calls Try.prog 32 #[.pointer (some ⟨g, 0, none⟩), .agg #[.int .i64 kd, .int .u64 (X : Int), .string s, (.slice lo ls.length lc), (.slice to_ ts.length tc)]] w (fun e w' => e = .returned (.bool true) ∧ Only g w w' ∧ RAny w' g B ns a) := by
  have hB0 : Below w.heap.size w (w.alloc (.cells #[.int .i64 kd, .int .u64 (X : Int), .string s, (.slice lo ls.length lc), (.slice to_ ts.length tc)] 60)) := by (focus repeat' (first | (with_reducible exact Below.refl _ _) | (with_reducible assumption) | (with_reducible refine Below.alloc ?_ ?_ _) | (with_reducible refine Below.drew ?_) | (with_reducible refine bdrewN ?_ _) | (with_reducible refine Below.setCell ?_ ?_ _) | (first | (with_reducible exact Nat.le_refl _) | (with_reducible assumption) | omega | (simp; omega) | (simp; done))))
  have HR0 := hide (hR.below hB0)
  have HB0 := hide hB0
  have hg0 := hR.cells.1
  have hbx : w.heap.size ≠ g := by omega
  clear hR hB0
  go_enter Try.func32, Try.ntmps32
  go_wp2
  go_ret
  exact ⟨rfl, Only.of_below HB0.out, HR0.out⟩
end Go.Proofs.Ytajkgecegefnmaa

namespace Go.Proofs.Ytajkgecegefnmaa
open Go.ChangeShapes Go.WideShapes Go.ChangeAt Go.RowKit Go.Deep
set_option linter.unusedSimpArgs false
set_option linter.unusedVariables false

set_option maxRecDepth 100000 in
set_option maxHeartbeats 4000000 in
theorem back_4 (g B : Nat) (ns : List Nat) (a : Nat) (X : Nat) (s : ByteArray) (lo to_ : Option Addr) (lc tc : Nat) (ls : List Nat) (ts : List ByteArray) (p : Nat) (w : World) (hR : RAny w g B ns a) (hX : X < 18446744073709551616) (hr : nx ns a 8 = (X, 0, p)) : Calls Try.prog 32 #[.pointer (some ⟨g, 0, none⟩), .agg #[.int .i64 4, .int .u64 (X : Int), .string s, (.slice lo ls.length lc), (.slice to_ ts.length tc)]] w (fun e w' => e = .returned (.bool true) ∧ Only g w w' ∧ RAny w' g B ns p) := by
  have hB0 : Below w.heap.size w (w.alloc (.cells #[.int .i64 4, .int .u64 (X : Int), .string s, (.slice lo ls.length lc), (.slice to_ ts.length tc)] 60)) := by (focus repeat' (first | (with_reducible exact Below.refl _ _) | (with_reducible assumption) | (with_reducible refine Below.alloc ?_ ?_ _) | (with_reducible refine Below.drew ?_) | (with_reducible refine bdrewN ?_ _) | (with_reducible refine Below.setCell ?_ ?_ _) | (first | (with_reducible exact Nat.le_refl _) | (with_reducible assumption) | omega | (simp; omega) | (simp; done))))
  have HR0 := hide (hR.below hB0)
  have HB0 := hide hB0
  have hg0 := hR.cells.1
  have hbx : w.heap.size ≠ g := by omega
  clear hR hB0
  go_enter Try.func32, Try.ntmps32
  go_wp2_with fail
  refine (RReal_c g B ns a _ HR0.out).mono ?_
  rw [hr]
  rintro e w1 ⟨rfl, ho1, hR1⟩
  have HR1 := hide hR1
  have HO1 := hide (Only.trans_b HB0.out ho1)
  have bx1 : ∀ o, w1.cell? ⟨w.heap.size, o, none⟩ = (#[Value.int .i64 4, .int .u64 (X : Int), .string s, (.slice lo ls.length lc), (.slice to_ ts.length tc)] : Array Value)[o]? := fun o => (World.cell?_of_block (ho1.block w.heap.size (by simp) hbx)).trans (by simp [go_sem])
  clear hR1 ho1 HR0 HB0
  have R63 := run63 X
  go_wp2_with fail
  go_region_with (first | (go_at_call 23; (apply Calls.mono; focus (exact (num_n _ _))); rintro e w7 ⟨rfl, hw7⟩; have hw8 := hw7.symm; clear hw7; subst hw8) | (rw [run63]))
  all_goals
    go_wp2
    go_ret
    exact ⟨rfl, HO1.out.trans_below (by (focus repeat' (first | (with_reducible exact Below.refl _ _) | (with_reducible assumption) | (with_reducible refine Below.alloc ?_ ?_ _) | (with_reducible refine Below.drew ?_) | (with_reducible refine bdrewN ?_ _) | (with_reducible refine Below.setCell ?_ ?_ _) | (first | (with_reducible exact Nat.le_refl _) | (with_reducible assumption) | omega | (simp; omega) | (simp; done))))), HR1.out.below (by (focus repeat' (first | (with_reducible exact Below.refl _ _) | (with_reducible assumption) | (with_reducible refine Below.alloc ?_ ?_ _) | (with_reducible refine Below.drew ?_) | (with_reducible refine bdrewN ?_ _) | (with_reducible refine Below.setCell ?_ ?_ _) | (first | (with_reducible exact Nat.le_refl _) | (with_reducible assumption) | omega | (simp; omega) | (simp; done)))))⟩
end Go.Proofs.Ytajkgecegefnmaa

namespace Go.Proofs.Ytajkgecegefnmaa
open Go.ChangeShapes Go.WideShapes Go.ChangeAt Go.RowKit Go.Deep
set_option linter.unusedSimpArgs false
set_option linter.unusedVariables false

set_option maxRecDepth 100000 in
set_option maxHeartbeats 4000000 in
theorem back_6 (g B : Nat) (ns : List Nat) (a : Nat) (X : Nat) (s : ByteArray) (lo to_ : Option Addr) (lc tc : Nat) (ls : List Nat) (ts : List ByteArray) (p : Nat) (w : World) (hR : RAny w g B ns a) (hX : X < 18446744073709551616) (hr : tl (RU ns) ns a ls.length = ((ls.map (fun (x : Nat) => Value.int .u64 (x : Int))), 0, p)) (hnl : ns.length ≤ 1099511627776) (hn : RowN w lo lc ls) (hfar : ∀ ad, lo = some ad → ls ≠ [] → ad.block ≠ g) : Calls Try.prog 32 #[.pointer (some ⟨g, 0, none⟩), .agg #[.int .i64 6, .int .u64 (X : Int), .string s, (.slice lo ls.length lc), (.slice to_ ts.length tc)]] w (fun e w' => e = .returned (.bool true) ∧ Only g w w' ∧ RAny w' g B ns p) := by
  have hll := hn.len
  have HNr := hide hn
  clear hn
  have hB0 : Below w.heap.size w (w.alloc (.cells #[.int .i64 6, .int .u64 (X : Int), .string s, (.slice lo ls.length lc), (.slice to_ ts.length tc)] 60)) := by (focus repeat' (first | (with_reducible exact Below.refl _ _) | (with_reducible assumption) | (with_reducible refine Below.alloc ?_ ?_ _) | (with_reducible refine Below.drew ?_) | (with_reducible refine bdrewN ?_ _) | (with_reducible refine Below.setCell ?_ ?_ _) | (first | (with_reducible exact Nat.le_refl _) | (with_reducible assumption) | omega | (simp; omega) | (simp; done))))
  have HR0 := hide (hR.below hB0)
  have HB0 := hide hB0
  have hg0 := hR.cells.1
  have hbx : w.heap.size ≠ g := by omega
  clear hR hB0
  go_enter Try.func32, Try.ntmps32
  go_wp2_with fail
  refine (Take_U_c g B ns a ls.length _ HR0.out (by omega) hnl).mono ?_
  rw [hr]
  rintro e w1 ⟨v1, rfl, ho1, hR1, own1⟩
  have HOW := hide own1
  have hwz : w.heap.size ≤ w1.heap.size := by (have q := ho1.size; simp at q; omega)
  clear own1
  have HR1 := hide hR1
  have HO1 := hide (Only.trans_b HB0.out ho1)
  have bx1 : ∀ o, w1.cell? ⟨w.heap.size, o, none⟩ = (#[Value.int .i64 6, .int .u64 (X : Int), .string s, (.slice lo ls.length lc), (.slice to_ ts.length tc)] : Array Value)[o]? := fun o => (World.cell?_of_block (ho1.block w.heap.size (by simp) hbx)).trans (by simp [go_sem])
  clear hR1 ho1 HR0 HB0
  by_cases he : ls = []
  · subst he
    obtain ⟨a1, c1, rfl⟩ := own_any HOW.out
    go_wp2_with (first | (go_at_call 23; go_in) | (go_at_call 58; refine (Same_none a1 lo c1 lc _).mono ?_; rintro e w2 ⟨rfl, hb2⟩; have HB2 := hide hb2; clear hb2))
    go_ret
    exact ⟨rfl, HO1.out.trans_below HB2.out, HR1.out.below HB2.out⟩
  · obtain ⟨b, off, rfl, hbz, hbc⟩ := HNr.out.cells he
    have hpos : 0 < ls.length := List.length_pos_iff.2 he
    have hbg := hfar _ rfl he
    obtain ⟨g1, c1, rfl, _, z1, _, f1, _⟩ := own_form HOW.out (by simpa using hpos)
    have HF1 := hide (show ∀ j, j < ls.length → w1.cell? ⟨g1, 0 + j, none⟩ = some (.int .u64 (ls.getD j 0 : Int)) from fun j hj => by (rw [Nat.zero_add, f1 j (by simpa using hj)]; simp [List.getD, hj]))
    have HF2 := hide (show ∀ j, j < ls.length → w1.cell? ⟨b, off + j, none⟩ = some (.int .u64 (ls.getD j 0 : Int)) from fun j hj => (World.cell?_of_block (HO1.out.block b hbz hbg)).trans (hbc j hj))
    have hb1 : b < w1.heap.size := by omega
    rw [List.length_map]
    clear f1 hbc
    go_wp2_with (first | (go_at_call 23; go_in) | (go_at_call 58; refine (Same_cells g1 0 c1 b off lc ls _ z1 hb1 hll HF1.out HF2.out).mono ?_; rintro e w2 ⟨rfl, hb2⟩; have HB2 := hide hb2; clear hb2))
    go_ret
    exact ⟨rfl, HO1.out.trans_below HB2.out, HR1.out.below HB2.out⟩
end Go.Proofs.Ytajkgecegefnmaa

namespace Go.Proofs.Ytajkgecegefnmaa
open Go.ChangeShapes Go.WideShapes Go.ChangeAt Go.RowKit Go.Deep
set_option linter.unusedSimpArgs false
set_option linter.unusedVariables false

set_option maxRecDepth 100000 in
set_option maxHeartbeats 4000000 in
theorem back_7 (g B : Nat) (ns : List Nat) (a : Nat) (X : Nat) (s : ByteArray) (lo to_ : Option Addr) (lc tc : Nat) (ls : List Nat) (ts : List ByteArray) (q : Nat → Nat) (w : World) (hR : RAny w g B ns a) (hr : rd ns a = (ts.length, 0, q 0)) (htx : ∀ j, j < ts.length → tx ns (q j) (ts.getD j ⟨#[]⟩).size = (sb (ts.getD j ⟨#[]⟩), 0, q (j + 1))) (ht : RowS w to_ tc ts) (hfar : ∀ ad, to_ = some ad → ts ≠ [] → ad.block ≠ g) : Calls Try.prog 32 #[.pointer (some ⟨g, 0, none⟩), .agg #[.int .i64 7, .int .u64 (X : Int), .string s, (.slice lo ls.length lc), (.slice to_ ts.length tc)]] w (fun e w' => e = .returned (.bool true) ∧ Only g w w' ∧ RAny w' g B ns (q ts.length)) := by
  have htl := ht.len
  have HT := hide ht
  have HTX := hide htx
  clear ht htx
  have hB0 : Below w.heap.size w (w.alloc (.cells #[.int .i64 7, .int .u64 (X : Int), .string s, (.slice lo ls.length lc), (.slice to_ ts.length tc)] 60)) := by (focus repeat' (first | (with_reducible exact Below.refl _ _) | (with_reducible assumption) | (with_reducible refine Below.alloc ?_ ?_ _) | (with_reducible refine Below.drew ?_) | (with_reducible refine bdrewN ?_ _) | (with_reducible refine Below.setCell ?_ ?_ _) | (first | (with_reducible exact Nat.le_refl _) | (with_reducible assumption) | omega | (simp; omega) | (simp; done))))
  have HR0 := hide (hR.below hB0)
  have HB0 := hide hB0
  have hg0 := hR.cells.1
  have hbx : w.heap.size ≠ g := by omega
  clear hR hB0
  go_enter Try.func32, Try.ntmps32
  go_wp2_with fail
  refine (RNum_any g B ns a _ HR0.out).mono ?_
  rw [hr]
  rintro e w1 ⟨rfl, ho1, hR1⟩
  have hz1 : w.heap.size < w1.heap.size := Nat.lt_of_lt_of_le (by simp) ho1.size
  have HR1 := hide hR1
  have HO1 := hide (Only.trans_b HB0.out ho1)
  have bx1 : ∀ o, w1.cell? ⟨w.heap.size, o, none⟩ = (#[Value.int .i64 7, .int .u64 (X : Int), .string s, (.slice lo ls.length lc), (.slice to_ ts.length tc)] : Array Value)[o]? := fun o => (World.cell?_of_block (ho1.block w.heap.size (by simp) hbx)).trans (by simp [go_sem])
  clear hR1 ho1 HR0 HB0
  go_wp2_with (go_at_call 23; go_in)
  go_loopw [19] (fun v19 wr => ∃ j : Nat, j ≤ ts.length ∧ v19 = .int .i64 (j : Int) ∧ Only g w1 wr ∧ RAny wr g B ns (q j)) (fun v19 _ => ts.length - (intOf v19).toNat)
  case atStart => exact ⟨0, Nat.zero_le _, rfl, Only.of_below (Below.refl _ _), HR1.out⟩
  case round =>
    obtain ⟨j, hj, rfl, hO, hRr⟩ := hrel
    have HOr := hide hO
    have HRr := hide hRr
    have bxr : ∀ o, wr.cell? ⟨w.heap.size, o, none⟩ = (#[Value.int .i64 7, .int .u64 (X : Int), .string s, (.slice lo ls.length lc), (.slice to_ ts.length tc)] : Array Value)[o]? := fun o => (World.cell?_of_block (hO.block w.heap.size hz1 hbx)).trans (bx1 o)
    clear hO hRr
    by_cases hlt : j < ts.length
    · have hlt' : (j : Int) < (ts.length : Int) := by omega
      have hne : ts ≠ [] := (by intro e; rw [e] at hlt; simp at hlt)
      obtain ⟨b, off, rfl, hbz, hbc⟩ := HT.out.cells hne
      have hbg := hfar _ rfl hne
      have c1 := (World.cell?_of_block (HOr.out.block b (by omega) hbg)).trans ((World.cell?_of_block (HO1.out.block b hbz hbg)).trans (hbc j hlt))
      have hx := HTX.out j hlt
      have hsz := HT.out.size (ts.getD j ⟨#[]⟩) (by (have e : ts.getD j ⟨#[]⟩ = ts[j] := by simp [List.getD, hlt]); rw [e]; exact List.getElem_mem hlt)
      clear hbc
      generalize ts.getD j ⟨#[]⟩ = t at *
      have HX := hide hx
      clear hx
      go_wp2_with fail
      refine (RText_c g B ns (q j) t.size _ HRr.out (by omega)).mono ?_
      rw [HX.out, bstr_sb]
      rintro e w5 ⟨rfl, ho5, hR5⟩
      have HR5 := hide hR5
      have HO5 := hide (HOr.out.trans ho5)
      have hzr : w1.heap.size ≤ wr.heap.size := HOr.out.size
      have bx5 : ∀ o, w5.cell? ⟨w.heap.size, o, none⟩ = (#[Value.int .i64 7, .int .u64 (X : Int), .string s, (.slice lo ls.length lc), (.slice (some ⟨b, off, none⟩) ts.length tc)] : Array Value)[o]? := fun o => (World.cell?_of_block (ho5.block w.heap.size (by omega) hbx)).trans (bxr o)
      have c5 := (World.cell?_of_block (ho5.block b (by omega) hbg)).trans c1
      clear ho5 hR5 bxr
      go_wp2_with (go_at_call 23; go_in)
      (refine ⟨?_, ?measure⟩; (repeat apply Exists.intro); refine ⟨?rel, rfl⟩)
      case rel => exact ⟨j + 1, by omega, by go_num, HO5.out, HR5.out⟩
      case measure => (first | (simp [intOf]; done) | (simp [intOf]; omega))
    · have hlt' : ¬ (j : Int) < (ts.length : Int) := by omega
      obtain rfl : j = ts.length := by omega
      go_wp2
      go_ret
      exact ⟨rfl, HO1.out.trans HOr.out, HRr.out⟩
end Go.Proofs.Ytajkgecegefnmaa

namespace Go.Proofs.Ytajkgecegefnmaa
open Go.ChangeShapes Go.WideShapes Go.ChangeAt Go.RowKit Go.Deep
set_option linter.unusedSimpArgs false
set_option linter.unusedVariables false

set_option maxHeartbeats 1000000 in
theorem back_row (p : PutA) (g B : Nat) (pre post : List Nat) (w0 w : World) (hok : PutOk w0 p) (hb : Below w0.heap.size w0 w) (hR : RAny w g B (pre ++ (p.form ++ post)) pre.length) (hg : w0.heap.size ≤ g) (hnl : (pre ++ (p.form ++ post)).length ≤ 1099511627776) : Calls Try.prog 32 #[.pointer (some ⟨g, 0, none⟩), .agg #[.int .i64 p.kd, .int .u64 (p.X : Int), .string p.s, .slice p.lo p.ls.length p.lc, .slice p.to_ p.ts.length p.tc]] w (fun e w' => e = .returned (.bool true) ∧ Only g w w' ∧ RAny w' g B (pre ++ (p.form ++ post)) (pre.length + p.form.length)) := by
  obtain ⟨kd, X, s, lo, lc, ls, to_, tc, ts⟩ := p
  have hX : X < 18446744073709551616 := hok.X
  have hs : s.size ≤ 1048576 := hok.s
  have hL : RowN w0 lo lc ls := hok.L
  have hT : RowS w0 to_ tc ts := hok.T
  clear hok
  show Calls Try.prog 32 #[.pointer (some ⟨g, 0, none⟩), .agg #[.int .i64 kd, .int .u64 (X : Int), .string s, .slice lo ls.length lc, .slice to_ ts.length tc]] w _
  have hform : PutA.form ⟨kd, X, s, lo, lc, ls, to_, tc, ts⟩ = formP kd X s ls ts := rfl
  rw [hform] at hR hnl ⊢
  clear hform
  unfold formP at hR hnl ⊢
  by_cases k1 : kd = 1
  · subst k1; rw [if_pos rfl] at hR ⊢
    exact back_1 g B _ pre.length X s lo to_ lc tc ls ts _ w hR hX (rd_form pre post X hX)
  rw [if_neg k1] at hR hnl ⊢
  by_cases k2 : kd = 2
  · subst k2; rw [if_pos rfl] at hR ⊢
    obtain ⟨sx, hsx, h0, h1⟩ := i64_of X
    rw [hsx] at hR ⊢
    exact back_2 g B _ pre.length X s lo to_ lc tc ls ts _ sx w hR hX (rd_form pre post (fold sx) (fold_lt h0 h1)) hsx
  rw [if_neg k2] at hR hnl ⊢
  by_cases k3 : kd = 3
  · subst k3; rw [if_pos rfl] at hR ⊢
    have hf := fl_bit pre post (X % 2) (by omega)
    by_cases hx : X % 2 = 1
    · rw [hx] at hR hf ⊢
      exact back_3y g B _ pre.length X s lo to_ lc tc ls ts _ w hR hX (by simpa using hf) hx
    · have hx0 : X % 2 = 0 := by omega
      rw [hx0] at hR hf ⊢
      exact back_3n g B _ pre.length X s lo to_ lc tc ls ts _ w hR hX (by simpa using hf) hx0
  rw [if_neg k3] at hR hnl ⊢
  by_cases k4 : kd = 4
  · subst k4; rw [if_pos rfl] at hR ⊢
    have hf := nx_hi pre post X hX
    rw [hi_length]
    exact back_4 g B _ pre.length X s lo to_ lc tc ls ts _ w hR hX hf
  rw [if_neg k4] at hR hnl ⊢
  by_cases k5 : kd = 5
  · subst k5; rw [if_pos rfl] at hR ⊢
    exact back_5 g B _ pre.length X s lo to_ lc tc ls ts _ w hR hX (tx_text pre post s s.size (by omega) (Nat.le_refl _)) (by omega)
  rw [if_neg k5] at hR hnl ⊢
  by_cases k6 : kd = 6
  · subst k6; rw [if_pos rfl] at hR hnl ⊢
    exact back_6 g B _ pre.length X s lo to_ lc tc ls ts _ w hR hX (tl_forms pre post ls ls.length hL.size (by have := hL.len; omega) (Nat.le_refl _)) hnl (hL.below hb) (fun ad h hn => by have := hL.far ad h hn; omega)
  rw [if_neg k6] at hR hnl ⊢
  by_cases k7 : kd = 7
  · subst k7; rw [if_pos rfl] at hR ⊢
    have hrd : rd (pre ++ ((form ts.length ++ texts ts) ++ post)) pre.length = (ts.length, 0, pre.length + (form ts.length).length) := by
      have := rd_form pre (texts ts ++ post) ts.length (by have := hT.len; omega)
      rw [← List.append_assoc] at this
      rw [← List.append_assoc, ← List.append_assoc]
      rw [← List.append_assoc] at this
      rw [List.append_assoc pre, ← List.append_assoc] at this
      simpa [List.append_assoc] using this
    have htx : ∀ j, j < ts.length → tx (pre ++ ((form ts.length ++ texts ts) ++ post)) (pre.length + (form ts.length).length + (texts (ts.take j)).length) (ts.getD j ⟨#[]⟩).size = (sb (ts.getD j ⟨#[]⟩), 0, pre.length + (form ts.length).length + (texts (ts.take (j + 1))).length) := by
      intro j hj
      have hz : (ts.getD j ⟨#[]⟩).size ≤ 1099511627776 := hT.size _ (by (have e : ts.getD j ⟨#[]⟩ = ts[j] := by simp [List.getD, hj]); rw [e]; exact List.getElem_mem hj)
      have := tx_text (pre ++ form ts.length ++ texts (ts.take j)) (texts (ts.drop (j + 1)) ++ post) (ts.getD j ⟨#[]⟩) (ts.getD j ⟨#[]⟩).size (by omega) (Nat.le_refl _)
      have e1 : pre ++ form ts.length ++ texts (ts.take j) ++ (text (ts.getD j ⟨#[]⟩) ++ (texts (ts.drop (j + 1)) ++ post)) = pre ++ ((form ts.length ++ texts ts) ++ post) := by
        rw [texts_split ts j hj]
        simp only [List.append_assoc]
      rw [e1] at this
      have e2 : (pre ++ form ts.length ++ texts (ts.take j)).length = pre.length + (form ts.length).length + (texts (ts.take j)).length := by simp only [List.length_append]
      rw [e2] at this
      rw [this, texts_next ts j hj, List.length_append]
      simp only [Nat.add_assoc]
    have := back_7 g B _ pre.length X s lo to_ lc tc ls ts (fun j => pre.length + (form ts.length).length + (texts (ts.take j)).length) w hR hrd htx (hT.below hb) (fun ad h hn => by have := hT.far ad h hn; omega)
    have e3 : pre.length + (form ts.length).length + (texts (ts.take ts.length)).length = pre.length + (form ts.length ++ texts ts).length := by
      rw [List.take_length, List.length_append, Nat.add_assoc]
    simp only [e3] at this
    exact this
  rw [if_neg k7] at hR hnl ⊢
  exact back_0 g B _ pre.length X s lo to_ lc tc ls ts kd w hR hX k1 k2 k3 k4 k5 k6 k7
end Go.Proofs.Ytajkgecegefnmaa

namespace Go.Proofs.Ytajkgecegefnmaa
open Go.ChangeShapes Go.WideShapes Go.ChangeAt Go.RowKit Go.Deep
set_option linter.unusedSimpArgs false
set_option linter.unusedVariables false

theorem Bytes_any (g : Nat) (v : Value) (bs : List Nat) (w : World) (hW : WObj w g v bs) (hl : bs.length ≤ 1099511627776) (hs : ∀ x ∈ bs, x < 256) : Calls Try.prog 12 #[.pointer (some ⟨g, 0, none⟩)] w (fun e w' => ∃ ao cap, e = .returned (.slice ao bs.length cap) ∧ Below w.heap.size w w' ∧ Row8 w' ao cap bs) := by
  by_cases hn : bs = []
  · subst hn
    refine (Bytes_nil g v w hW).mono ?_
    rintro e w' ⟨rfl, hb⟩
    exact ⟨none, 0, rfl, hb, ⟨fun _ => ⟨rfl, rfl⟩, fun h => absurd rfl h, hs, hl, Nat.le_refl _⟩⟩
  · refine (Bytes_c g v bs w hW (by omega) (List.length_pos_iff.2 hn)).mono ?_
    rintro e w' ⟨g2, cap2, rfl, hg2, own, hb⟩
    obtain ⟨h1, h2, h3, h4, h5⟩ := own_at own (List.length_pos_iff.2 hn)
    exact ⟨_, _, rfl, hb, ⟨(fun h => by cases h), fun _ => ⟨g2, 0, rfl, h2, fun j hj => by (rw [Nat.zero_add, h4 j hj]; simp [List.getD, hj])⟩, hs, hl, h3⟩⟩
theorem WKeep.low {w0 w w' : World} {g : Nat} {v : Value} (hb : Below w0.heap.size w0 w) (k : WKeep g v w w') (hg : w0.heap.size ≤ g) (hv : ∀ b, v.ownBlock = some b → w0.heap.size ≤ b) : Below w0.heap.size w0 w' := by
  obtain ⟨k1, k2, k3, k4, k5⟩ := k
  exact hb.trans ⟨k1, k2, k3, k4, fun i hi => k5 i (by have := hb.size; omega) (by omega) (fun e => by have := hv i e.symm; omega)⟩
theorem Near.new {w0 w : World} {v v' : Value} (n : Near w v v') (hs : w0.heap.size ≤ w.heap.size) (hv : ∀ b, v.ownBlock = some b → w0.heap.size ≤ b) : ∀ b, v'.ownBlock = some b → w0.heap.size ≤ b := by
  intro b hb
  rcases n with n | ⟨k, n, hk⟩
  · exact hv b (n ▸ hb)
  · rw [n] at hb; cases hb; omega
/-- the five cells of a thing of the row, in a later world -/
theorem PRow.at {w0 w : World} {so : Option Addr} {l : List PutA} (h : PRow w0 so l) (hb : Below w0.heap.size w0 w) (hl : l ≠ []) : ∃ b off, so = some ⟨b, off, none⟩ ∧ b < w0.heap.size ∧ ∀ i, i < l.length → ∀ c, c < 5 → w.cell? ⟨b, off + i * 5 + c, none⟩ = (l.getD i PutA.none).cells[c]? := by
  obtain ⟨b, off, h1, h2, h3⟩ := h.cells hl
  exact ⟨b, off, h1, h2, fun i hi c hc => (hb.cell (p := ⟨b, off + i * 5 + c, none⟩) h2).trans (h3 i hi c hc)⟩

set_option maxRecDepth 100000 in
set_option maxHeartbeats 8000000 in
theorem WireBack_c (so : Option Addr) (cap : Nat) (l : List PutA) (w : World) (hrow : PRow w so l) : Calls Try.prog 7 #[.slice so l.length cap] w (fun e w' => e = .returned (.bool true) ∧ Below w.heap.size w w') := by
  have HRW := hide hrow
  have hll := hrow.len
  have htot : (formsP l).length ≤ 18874368 := by
    have q1 := formsP_le l hrow.each
    have q2 := hrow.bulk
    omega
  have HPT := hide (fun j => show (formsP (l.take j)).length ≤ 18874368 from by
    have q1 := formsP_le (l.take j) (fun p hp => hrow.each p (List.mem_of_mem_take hp))
    have q2 := hrow.bulk
    have q3 := psum_take l j
    have q4 : (l.take j).length ≤ l.length := by simp; omega
    omega)
  have HLT := hide (formsP_lt hrow.each)
  have hbulk := hrow.bulk
  clear hrow
  go_enter Try.func7, Try.ntmps7
  go_wp2_with fail
  refine (NewWriter_c _).mono ?_
  rintro e w1 ⟨g, rfl, hg, hb1, hW1⟩
  have HW1 := hide hW1
  have HB1 := hide hb1
  clear hW1 hb1
  go_wp2_with (go_at_call 10; refine (known_c _).mono ?_; rintro e w2 ⟨rfl, hb2⟩; have HB2 := hide (bstep HB1.out hb2); have HW2 := hide (HW1.out.below hb2); clear hb2)
  go_loopw [4] (fun v5 wr => ∃ (i : Nat) (v : Value), i ≤ l.length ∧ v5 = .int .i64 (i : Int) ∧ Below w.heap.size w wr ∧ WObj wr g v (formsP (l.take i)) ∧ (∀ k, v.ownBlock = some k → w.heap.size ≤ k)) (fun v5 _ => l.length - (intOf v5).toNat)
  case atStart => exact ⟨0, _, Nat.zero_le _, rfl, HB2.out, HW2.out, fun k h => by cases h⟩
  case round =>
    obtain ⟨i, v, hi, rfl, hB, hW, hv⟩ := hrel
    have HBr := hide hB
    have HWr := hide hW
    have HVr := hide hv
    clear hB hW hv HB2 HW2 HB1 HW1
    by_cases hlt : i < l.length
    · have hi1 : (i : Int) < (l.length : Int) := by omega
      obtain ⟨sb, soff, rfl, hsb, hsc⟩ := HRW.out.at HBr.out (by (intro e; rw [e] at hlt; simp at hlt))
      have hpi := HPT.out i
      focus
        have c0 := hsc i hlt 0 (by decide)
        have c1 := hsc i hlt 1 (by decide)
        have c2 := hsc i hlt 2 (by decide)
        have c3 := hsc i hlt 3 (by decide)
        have c4 := hsc i hlt 4 (by decide)
        have HOK := hide (HRW.out.each _ (getD_mem hlt))
        have HBK := hide (psum_mem (getD_mem hlt))
        have HNX := hide (formsP_next l i hlt)
        have HSP := hide (formsP_split l i hlt)
        clear hsc
        generalize l.getD i PutA.none = p at *
        change _ = some (Value.int .i64 p.kd) at c0
        change _ = some (Value.int .u64 (p.X : Int)) at c1
        change _ = some (Value.string p.s) at c2
        change _ = some (Value.slice p.lo p.ls.length p.lc) at c3
        change _ = some (Value.slice p.to_ p.ts.length p.tc) at c4
        rw [Nat.add_zero] at c0
        go_wp2_with fail
        refine (puts_row p g v (formsP (l.take i)) w _ HOK.out HBr.out HWr.out hg HVr.out (by have := HBK.out; omega)).mono ?_
        rintro e w5 ⟨v5, rfl, hW5, hk5, hn5⟩
        rw [← HNX.out] at hW5
        have HW5 := hide hW5
        have HB5 := hide (hk5.low HBr.out hg HVr.out)
        have HV5 := hide (hn5.new HBr.out.size HVr.out)
        clear hW5 hk5 hn5 c0 c1 c2 c3 c4
        go_wp2
        go_roundw
        case rel => exact ⟨i + 1, v5, by omega, by go_num, HB5.out, HW5.out, HV5.out⟩
        case measure => (first | (simp [intOf]; done) | (simp [intOf]; omega))
    · have hi1 : ¬ (i : Int) < (l.length : Int) := by omega
      obtain rfl : i = l.length := by omega
      rw [List.take_length] at HWr
      go_wp2_with fail
      refine (Bytes_any g v (formsP l) _ HWr.out (by omega) HLT.out).mono ?_
      rintro e w6 ⟨ao, acap, rfl, hb6, hr6⟩
      have HW6 := hide (HWr.out.below hb6)
      have HB6 := hide (bstep HBr.out hb6)
      have HR6 := hide hr6
      clear hb6 hr6
      go_wp2_with fail
      refine (NewReader_any ao acap (formsP l) _ HR6.out).mono ?_
      rintro e w7 ⟨h, rfl, hh, hb7, hR7⟩
      have HW7 := hide (HW6.out.below hb7)
      have HB7 := hide (bstep HB6.out hb7)
      have HR7 := hide hR7
      have hz6 := HB6.out.size
      have hhw : w.heap.size ≤ h := by omega
      have hgh : g ≠ h := by (have := HW6.out.1; omega)
      have HVh := hide (show v.ownBlock ≠ some h from fun e => by
        have q := HW6.out.2.2.2.1
        by_cases hz : formsP l = []
        · rw [HW6.out.2.2.2.2.2 hz] at e; cases e
        · obtain ⟨g2, cap2, q1, q2, q3, _⟩ := own_form q (List.length_pos_iff.2 hz)
          rw [q1] at e; (have e' : g2 = h := Option.some.inj e); omega)
      clear hb7 hR7
      go_wp2_with fail
      go_loopw [6] (fun v7 wr => ∃ (j : Nat), j ≤ l.length ∧ v7 = .int .i64 (j : Int) ∧ Below w.heap.size w wr ∧ WObj wr g v (formsP l) ∧ RAny wr h w7.heap.size (formsP l) (formsP (l.take j)).length) (fun v7 _ => l.length - (intOf v7).toNat)
      case atStart => exact ⟨0, Nat.zero_le _, rfl, HB7.out, HW7.out, HR7.out⟩
      case round =>
        obtain ⟨i, hi, rfl, hB, hW, hR⟩ := hrel
        have HBs := hide hB
        have HWs := hide hW
        have HRs := hide hR
        clear hB hW hR HB7 HW7 HR7 HB6 HW6
        by_cases hlt : i < l.length
        · have hi1 : (i : Int) < (l.length : Int) := by omega
          obtain ⟨sb, soff, rfl, hsb, hsc⟩ := HRW.out.at HBs.out (by (intro e; rw [e] at hlt; simp at hlt))
          have hpi := HPT.out i
          focus
            have c0 := hsc i hlt 0 (by decide)
            have c1 := hsc i hlt 1 (by decide)
            have c2 := hsc i hlt 2 (by decide)
            have c3 := hsc i hlt 3 (by decide)
            have c4 := hsc i hlt 4 (by decide)
            have HOK := hide (HRW.out.each _ (getD_mem hlt))
            have HBK := hide (psum_mem (getD_mem hlt))
            have HNX := hide (formsP_next l i hlt)
            have HSP := hide (formsP_split l i hlt)
            clear hsc
            generalize l.getD i PutA.none = p at *
            change _ = some (Value.int .i64 p.kd) at c0
            change _ = some (Value.int .u64 (p.X : Int)) at c1
            change _ = some (Value.string p.s) at c2
            change _ = some (Value.slice p.lo p.ls.length p.lc) at c3
            change _ = some (Value.slice p.to_ p.ts.length p.tc) at c4
            rw [Nat.add_zero] at c0
            have hR := HRs.out
            rw [HSP.out] at hR
            have HRt := hide hR
            clear hR
            go_wp2_with fail
            refine (back_row p h w7.heap.size (formsP (l.take i)) (formsP (l.drop (i + 1))) w _ HOK.out HBs.out HRt.out hhw (by (rw [← HSP.out]; omega))).mono ?_
            rw [← HSP.out, ← List.length_append, ← HNX.out]
            rintro e w8 ⟨rfl, ho8, hR8⟩
            have HR8 := hide hR8
            have HB8 := hide (Only.low HBs.out ho8 hhw)
            have HW8 := hide (show WObj w8 g v (formsP l) from HWs.out.same ho8.size (ho8.block g HWs.out.1 hgh) (fun k hk hkz => ho8.block k hkz (fun e => HVh.out (e ▸ hk))))
            clear hR8 ho8 c0 c1 c2 c3 c4
            go_wp2
            go_roundw
            case rel => exact ⟨i + 1, by omega, by go_num, HB8.out, HW8.out, HR8.out⟩
            case measure => (first | (simp [intOf]; done) | (simp [intOf]; omega))
        · have hi1 : ¬ (i : Int) < (l.length : Int) := by omega
          obtain rfl : i = l.length := by omega
          rw [List.take_length] at HRs
          go_wp2_with fail
          refine (End_c h w7.heap.size (formsP l) (formsP l).length _ HRs.out).mono ?_
          rw [if_neg (Nat.lt_irrefl _)]
          rintro e w9 ⟨rfl, hb9⟩
          have HB9 := hide (bstep HBs.out hb9)
          have HR9 := hide (HRs.out.below hb9)
          have HW9 := hide (HWs.out.below hb9)
          clear hb9
          go_wp2_with (go_at_call 23; go_in)
          refine (Left_any h w7.heap.size (formsP l) (formsP l).length _ HR9.out).mono ?_
          rw [Int.sub_self]
          rintro e wa ⟨rfl, hba⟩
          have HBa := hide (bstep HB9.out hba)
          have HRa := hide (HR9.out.below hba)
          have HWa := hide (HW9.out.below hba)
          clear hba
          go_wp2_with fail
          refine (Place_any h w7.heap.size (formsP l) (formsP l).length _ HRa.out).mono ?_
          rintro e wb ⟨rfl, hbb⟩
          have HBb := hide (bstep HBa.out hbb)
          have HWb := hide (HWa.out.below hbb)
          clear hbb
          go_wp2_with fail
          refine (Len_c g v (formsP l) _ HWb.out).mono ?_
          rintro e wc ⟨rfl, hbc⟩
          have HBc := hide (bstep HBb.out hbc)
          clear hbc
          go_wp2
          go_ret
          exact ⟨by simp, HBc.out⟩
end Go.Proofs.Ytajkgecegefnmaa

namespace Go.Proofs.Ytajkgecegefnmaa
open Go.ChangeShapes Go.WideShapes Go.ChangeAt Go.RowKit Go.Deep
set_option linter.unusedSimpArgs false
set_option linter.unusedVariables false

/-- the blocks of two writers, two rows, three boxes -/
def blk (A L Q : Nat) (g : Nat → Nat) (v q : Nat → Value) (i : Nat) : Option Nat :=
  if i < 2 then some (g i) else if i < 4 then (v (i - 2)).ownBlock else if i < 6 then (q (i - 4)).ownBlock else if i = 6 then some A else if i = 7 then some L else if i = 8 then some Q else none
def Apart (f : Nat → Option Nat) : Prop := ∀ i j, i ≠ j → ∀ b, f i = some b → f j ≠ some b
def upd {α : Type} (v : Nat → α) (k : Nat) (x : α) : Nat → α := fun i => if i = k then x else v i
theorem upd_same {α : Type} (v : Nat → α) (k : Nat) (x : α) : upd v k x k = x := by unfold upd; rw [if_pos rfl]
theorem upd_other {α : Type} (v : Nat → α) (k : Nat) (x : α) {j : Nat} (h : j ≠ k) : upd v k x j = v j := by unfold upd; rw [if_neg h]
theorem Apart.upd {f : Nat → Option Nat} {n : Nat} (h : Apart f) (lt : ∀ i b, f i = some b → b < n) (i0 : Nat) (y : Option Nat) (hy : y = f i0 ∨ ∃ b, y = some b ∧ n ≤ b) : Apart (fun i => if i = i0 then y else f i) := by
  rcases hy with rfl | ⟨b, rfl, hb⟩
  · have e : (fun i => if i = i0 then f i0 else f i) = f := by
      funext i
      split
      · (rename_i h; rw [h])
      · rfl
    rw [e]; exact h
  · intro i j hij c hi hj
    simp only at hi hj
    split at hi <;> split at hj
    · omega
    · cases hi; have := lt j _ hj; omega
    · cases hj; have := lt i _ hi; omega
    · exact h i j hij c hi hj
theorem blk_v (A L Q : Nat) (g : Nat → Nat) (v q : Nat → Value) (k : Nat) (hk : k < 2) (x : Value) : blk A L Q g (upd v k x) q = fun i => if i = 2 + k then x.ownBlock else blk A L Q g v q i := by
  funext i
  by_cases h : i = 2 + k
  · subst h
    rw [if_pos rfl]
    unfold blk
    rw [if_neg (by omega), if_pos (by omega), show 2 + k - 2 = k by omega, upd_same]
  · rw [if_neg h]
    unfold blk
    by_cases h1 : i < 2
    · rw [if_pos h1, if_pos h1]
    rw [if_neg h1, if_neg h1]
    by_cases h2 : i < 4
    · rw [if_pos h2, if_pos h2, upd_other _ _ _ (by omega)]
    rw [if_neg h2, if_neg h2]
theorem blk_q (A L Q : Nat) (g : Nat → Nat) (v q : Nat → Value) (k : Nat) (hk : k < 2) (x : Value) : blk A L Q g v (upd q k x) = fun i => if i = 4 + k then x.ownBlock else blk A L Q g v q i := by
  funext i
  by_cases h : i = 4 + k
  · subst h
    rw [if_pos rfl]
    unfold blk
    rw [if_neg (by omega), if_neg (by omega), if_pos (by omega), show 4 + k - 4 = k by omega, upd_same]
  · rw [if_neg h]
    unfold blk
    by_cases h1 : i < 2
    · rw [if_pos h1, if_pos h1]
    rw [if_neg h1, if_neg h1]
    by_cases h2 : i < 4
    · rw [if_pos h2, if_pos h2]
    rw [if_neg h2, if_neg h2]
    by_cases h3 : i < 6
    · rw [if_pos h3, if_pos h3, upd_other _ _ _ (by omega)]
    rw [if_neg h3, if_neg h3]
theorem blk_at (A L Q : Nat) (g : Nat → Nat) (v q : Nat → Value) {k : Nat} (hk : k < 2) : blk A L Q g v q k = some (g k) ∧ blk A L Q g v q (2 + k) = (v k).ownBlock ∧ blk A L Q g v q (4 + k) = (q k).ownBlock := by
  refine ⟨?_, ?_, ?_⟩
  · unfold blk; rw [if_pos hk]
  · unfold blk; rw [if_neg (by omega), if_pos (by omega), show 2 + k - 2 = k by omega]
  · unfold blk; rw [if_neg (by omega), if_neg (by omega), if_pos (by omega), show 4 + k - 4 = k by omega]
/-- where the two writers and the two rows stand -/
structure St (w wr : World) (A L Q : Nat) (so : Nat → Option Addr) (R : Nat → List PutA) (cap : Nat → Nat) (g : Nat → Nat) (v q : Nat → Value) (s t : Nat → List Nat) : Prop where
  low : Below w.heap.size w wr
  ap : Apart (blk A L Q g v q)
  lt : ∀ i b, blk A L Q g v q i = some b → b < wr.heap.size
  ge : ∀ i b, blk A L Q g v q i = some b → w.heap.size ≤ b
  W : ∀ k, k < 2 → WObj wr (g k) (v k) (s k)
  O : ∀ k, k < 2 → wr.ownsRow w.heap.size 5 1 (q k) (t k).length ((t k).map (fun (b : Nat) => Value.int .u8 (b : Int)))
  cA : ∀ k, k < 2 → wr.cell? ⟨A, k, none⟩ = some (.pointer (some ⟨g k, 0, none⟩))
  cL : ∀ k, k < 2 → wr.cell? ⟨L, k, none⟩ = some (.slice (so k) (R k).length (cap k))
  cQ : ∀ k, k < 2 → wr.cell? ⟨Q, k, none⟩ = some (q k)
  fQ : ∀ o, wr.frozen? ⟨Q, o, none⟩ = false
section
variable {w wr wr' : World} {A L Q : Nat} {so : Nat → Option Addr} {R : Nat → List PutA} {cap : Nat → Nat} {g : Nat → Nat} {v q : Nat → Value} {s t : Nat → List Nat}
theorem St.below (h : St w wr A L Q so R cap g v q s t) (hb : Below wr.heap.size wr wr') : St w wr' A L Q so R cap g v q s t :=
  ⟨h.low.trans (hb.mono h.low.size), h.ap, fun i b e => Nat.lt_of_lt_of_le (h.lt i b e) hb.size, h.ge, fun k hk => (h.W k hk).below hb, fun k hk => own_below (h.O k hk) hb,
    fun k hk => (hb.cell (p := ⟨A, k, none⟩) (h.lt 6 A rfl)).trans (h.cA k hk), fun k hk => (hb.cell (p := ⟨L, k, none⟩) (h.lt 7 L rfl)).trans (h.cL k hk), fun k hk => (hb.cell (p := ⟨Q, k, none⟩) (h.lt 8 Q rfl)).trans (h.cQ k hk), fun o => (hb.frozen (p := ⟨Q, o, none⟩) (h.lt 8 Q rfl)).trans (h.fQ o)⟩
theorem St.congr (h : St w wr A L Q so R cap g v q s t) {s' t' : Nat → List Nat} (hs : ∀ k, k < 2 → s k = s' k) (ht : ∀ k, k < 2 → t k = t' k) : St w wr A L Q so R cap g v q s' t' :=
  ⟨h.low, h.ap, h.lt, h.ge, fun k hk => hs k hk ▸ h.W k hk, fun k hk => ht k hk ▸ h.O k hk, h.cA, h.cL, h.cQ, h.fQ⟩
/-- another block of the nine -/
theorem St.ne (h : St w wr A L Q so R cap g v q s t) {i j b : Nat} (hij : i ≠ j) (hi : blk A L Q g v q i = some b) : blk A L Q g v q j ≠ some b := h.ap i j hij b hi
theorem St.write (h : St w wr A L Q so R cap g v q s t) {k : Nat} (hk : k < 2) {v' : Value} {s' : List Nat} (hW : WObj wr' (g k) v' s') (hp : WKeep (g k) (v k) wr wr') (hn : Near wr (v k) v') : St w wr' A L Q so R cap g (upd v k v') q (upd s k s') t := by
  obtain ⟨ek, ev, eq⟩ := blk_at A L Q g v q hk
  have hz := hp.2.2.2.1
  have gk0 := h.ge k _ ek
  have vk0 : ∀ b, (v k).ownBlock = some b → w.heap.size ≤ b := fun b hb => h.ge (2 + k) b (by rw [ev]; exact hb)
  have keep : ∀ i b, i ≠ k → i ≠ 2 + k → blk A L Q g v q i = some b → wr'.heap[b]? = wr.heap[b]? := fun i b h1 h2 hb =>
    hp.2.2.2.2 b (h.lt i b hb) (fun e => h.ne h1 hb (by rw [ek, e])) (fun e => h.ne h2 hb (by rw [ev]; exact e.symm))
  refine ⟨hp.low h.low gk0 vk0, ?_, ?_, ?_, ?_, ?_, ?_, ?_, ?_, ?_⟩
  · rw [blk_v _ _ _ _ _ _ _ hk]
    exact h.ap.upd h.lt (2 + k) _ (by rw [ev]; exact hn)
  · rw [blk_v _ _ _ _ _ _ _ hk]
    intro i b hb
    simp only at hb
    split at hb
    · exact (hW.2.2.2.1.lt b hb).2
    · exact Nat.lt_of_lt_of_le (h.lt i b hb) hz
  · rw [blk_v _ _ _ _ _ _ _ hk]
    intro i b hb
    simp only at hb
    split at hb
    · exact hn.new h.low.size vk0 b hb
    · exact h.ge i b hb
  · intro j hj
    by_cases e : j = k
    · subst e; rw [upd_same, upd_same]; exact hW
    · rw [upd_other _ _ _ e, upd_other _ _ _ e]
      obtain ⟨fj, fv, fq⟩ := blk_at A L Q g v q hj
      exact (h.W j hj).same hz (keep j _ e (by omega) fj) (fun b hb _ => keep (2 + j) b (by omega) (by omega) (by rw [fv]; exact hb))
  · intro j hj
    obtain ⟨fj, fv, fq⟩ := blk_at A L Q g v q hj
    exact own_same (h.O j hj) (fun b hb _ => keep (4 + j) b (by omega) (by omega) (by rw [fq]; exact hb))
  · exact fun j hj => (World.cell?_of_block (keep 6 A (by omega) (by omega) rfl)).trans (h.cA j hj)
  · exact fun j hj => (World.cell?_of_block (keep 7 L (by omega) (by omega) rfl)).trans (h.cL j hj)
  · exact fun j hj => (World.cell?_of_block (keep 8 Q (by omega) (by omega) rfl)).trans (h.cQ j hj)
  · exact fun o => (World.frozen?_of_block (keep 8 Q (by omega) (by omega) rfl)).trans (h.fQ o)
theorem St.append (h : St w wr A L Q so R cap g v q s t) {k : Nat} (hk : k < 2) {x : Value} {t' : List Nat} (hO : wr'.ownsRow w.heap.size 5 1 x t'.length (t'.map (fun (b : Nat) => Value.int .u8 (b : Int)))) (hp : wr.grownBy wr' (q k).ownBlock) (hn : Near wr (q k) x) : St w (wr'.setCell ⟨Q, k, none⟩ x) A L Q so R cap g v (upd q k x) s (upd t k t') := by
  obtain ⟨ek, ev, eq⟩ := blk_at A L Q g v q hk
  have hz := hp.size
  have qk0 : ∀ b, (q k).ownBlock = some b → w.heap.size ≤ b := fun b hb => h.ge (4 + k) b (by rw [eq]; exact hb)
  have hQ0 := h.ge 8 Q rfl
  have hQl := h.lt 8 Q rfl
  have low' : Below w.heap.size w wr' := below_grown h.low hp qk0 h.low.size
  have keep1 : ∀ i b, i ≠ 4 + k → blk A L Q g v q i = some b → wr'.heap[b]? = wr.heap[b]? := fun i b h2 hb =>
    hp.block b (h.lt i b hb) (fun e => h.ne h2 hb (by rw [eq]; exact e.symm))
  have keep : ∀ i b, i ≠ 4 + k → i ≠ 8 → blk A L Q g v q i = some b → (wr'.setCell ⟨Q, k, none⟩ x).heap[b]? = wr.heap[b]? := fun i b h2 h8 hb =>
    (heap_setCell_other wr' ⟨Q, k, none⟩ b x (fun e => h.ne h8 hb (by (have e' : b = Q := by simpa using e); rw [e']; rfl))).trans (keep1 i b h2 hb)
  have hxQ : x.ownBlock ≠ some Q := by
    rcases hn with e | ⟨b, e, hb⟩
    · rw [e, ← eq]; exact h.ne (i := 8) (by omega) rfl
    · rw [e]; intro e2; cases e2; omega
  refine ⟨Below.setCell low' hQ0 x, ?_, ?_, ?_, ?_, ?_, ?_, ?_, ?_, ?_⟩
  · rw [blk_q _ _ _ _ _ _ _ hk]
    exact h.ap.upd h.lt (4 + k) _ (by rw [eq]; exact hn)
  · rw [blk_q _ _ _ _ _ _ _ hk]
    intro i b hb
    simp only at hb
    rw [World.size_setCell]
    split at hb
    · exact (hO.lt b hb).2
    · exact Nat.lt_of_lt_of_le (h.lt i b hb) hz
  · rw [blk_q _ _ _ _ _ _ _ hk]
    intro i b hb
    simp only at hb
    split at hb
    · exact hn.new h.low.size qk0 b hb
    · exact h.ge i b hb
  · intro j hj
    obtain ⟨fj, fv, fq⟩ := blk_at A L Q g v q hj
    exact (h.W j hj).same (by rw [World.size_setCell]; exact hz) (keep j _ (by omega) (by omega) fj) (fun b hb _ => keep (2 + j) b (by omega) (by omega) (by rw [fv]; exact hb))
  · intro j hj
    by_cases e : j = k
    · subst e; rw [upd_same, upd_same]
      exact own_set hO (fun b hb e2 => hxQ (by rw [hb, e2])) _ _
    · rw [upd_other _ _ _ e, upd_other _ _ _ e]
      obtain ⟨fj, fv, fq⟩ := blk_at A L Q g v q hj
      exact own_same (h.O j hj) (fun b hb _ => keep (4 + j) b (by omega) (by omega) (by rw [fq]; exact hb))
  · exact fun j hj => (World.cell?_of_block (keep 6 A (by omega) (by omega) rfl)).trans (h.cA j hj)
  · exact fun j hj => (World.cell?_of_block (keep 7 L (by omega) (by omega) rfl)).trans (h.cL j hj)
  · intro j hj
    have c1 := (World.cell?_of_block (a := ⟨Q, j, none⟩) (keep1 8 Q (by omega) rfl)).trans (h.cQ j hj)
    by_cases e : j = k
    · subst e; rw [upd_same]; simp [go_sem, c1]
    · rw [upd_other _ _ _ e]; simp [go_sem, c1, e, Ne.symm e]
  · intro o
    simp only [World.frozen?_setCell]
    exact (World.frozen?_of_block (a := ⟨Q, o, none⟩) (keep1 8 Q (by omega) rfl)).trans (h.fQ o)
end
end Go.Proofs.Ytajkgecegefnmaa

namespace Go.Proofs.Ytajkgecegefnmaa
open Go.ChangeShapes Go.WideShapes Go.ChangeAt Go.RowKit Go.Deep
set_option linter.unusedSimpArgs false
set_option linter.unusedVariables false

theorem own_rebase {w : World} {base base' : Nat} {e : TypeId} {size : Nat} {v : Value} {n : Nat} {xs : List Value} (h : w.ownsRow base e size v n xs) (hb : ∀ k, v.ownBlock = some k → base' ≤ k) : w.ownsRow base' e size v n xs := by
  obtain ⟨h0, h⟩ := h
  refine ⟨h0, ?_⟩
  rcases h with h | ⟨g, cap, cur, rfl, _, r⟩
  · exact .inl h
  · exact .inr ⟨g, cap, cur, rfl, hb g rfl, r⟩
theorem Bytes_own (g : Nat) (v : Value) (bs : List Nat) (w : World) (hW : WObj w g v bs) (hl : bs.length ≤ 1099511627776) : Calls Try.prog 12 #[.pointer (some ⟨g, 0, none⟩)] w (fun e w' => ∃ vx, e = .returned vx ∧ w'.ownsRow w.heap.size 5 1 vx bs.length (bs.map (fun (b : Nat) => Value.int .u8 (b : Int))) ∧ Below w.heap.size w w') := by
  by_cases hn : bs = []
  · subst hn
    refine (Bytes_nil g v w hW).mono ?_
    rintro e w' ⟨rfl, hb⟩
    exact ⟨_, rfl, World.ownsRow_nil _ _ _ _, hb⟩
  · refine (Bytes_c g v bs w hW (by omega) (List.length_pos_iff.2 hn)).mono ?_
    rintro e w' ⟨g2, cap2, rfl, hg2, own, hb⟩
    exact ⟨_, rfl, own_rebase own (fun k hk => by cases hk; exact hg2), hb⟩
theorem own_bytes {w : World} {base : Nat} {v : Value} {ns : List Nat} (h : w.ownsRow base 5 1 v ns.length (ns.map (fun (b : Nat) => Value.int .u8 (b : Int)))) : Sem.run Try.prog (convert 28 9 v) w = .ok (.string (bstr ns)) w := by
  by_cases hn : ns = []
  · subst hn
    rcases h.2 with ⟨rfl, _⟩ | ⟨g, cap, cur, rfl, _⟩
    · exact convert_zero w none 0
    · exact convert_zero w _ cap
  · obtain ⟨g, cap, rfl, _, _, _, hc, _⟩ := own_form h (List.length_pos_iff.2 hn)
    exact conv28 w g 0 cap ns (fun j hj => by (rw [Nat.zero_add, hc j (by omega)]; simp [List.getD, hj]))
theorem grown_of {w w' : World} {r : Option Nat} (h : Below w.heap.size w w') : w.grownBy w' r := ⟨h.os, h.tape, h.output, h.size, fun k hk _ => h.block k hk⟩
theorem grown_trans {w w1 w2 : World} {r r' : Option Nat} (h : w.grownBy w1 r) (k : w1.grownBy w2 r') (hr : r' = r ∨ ∃ b, r' = some b ∧ w.heap.size ≤ b) : w.grownBy w2 r :=
  ⟨k.os.trans h.os, k.tape.trans h.tape, k.output.trans h.output, Nat.le_trans h.size k.size, fun i hi hne => (k.block i (Nat.lt_of_lt_of_le hi h.size) (fun e => by
    rcases hr with rfl | ⟨b, rfl, hb⟩
    · exact hne e
    · cases e; omega)).trans (h.block i hi hne)⟩
theorem own_grown {w w' : World} {base : Nat} {e : TypeId} {size : Nat} {v : Value} {n : Nat} {xs : List Value} {r : Option Nat} (h : w.ownsRow base e size v n xs) (hg : w.grownBy w' r) (hr : ∀ k, v.ownBlock = some k → r ≠ some k) : w'.ownsRow base e size v n xs :=
  own_same h (fun k hk hlt => hg.block k hlt (fun e2 => hr k hk e2.symm))
set_option maxRecDepth 100000 in
set_option maxHeartbeats 2000000 in
theorem spoil_own (g n cap base : Nat) (xs : List Value) (w : World) (hl : n ≤ 1099511627776) (hown : w.ownsRow base 5 1 (.slice (some ⟨g, 0, none⟩) n cap) n xs) : Calls Try.prog 29 #[.slice (some ⟨g, 0, none⟩) n cap] w (fun e w' => (∃ u, e = .returned u) ∧ (∃ ys, w'.ownsRow base 5 1 (.slice (some ⟨g, 0, none⟩) n cap) n ys) ∧ w.grownBy w' (some g)) := by
  have HO := hide hown
  clear hown
  go_enter Try.func29, Try.ntmps29
  go_wp2
  go_loopw [2] (fun v1 wr => ∃ (k : Nat) (ys : List Value), k ≤ n ∧ v1 = .int .i64 (k : Int) ∧ wr.ownsRow base 5 1 (.slice (some ⟨g, 0, none⟩) n cap) n ys ∧ w.grownBy wr (some g)) (fun v1 _ => n - (intOf v1).toNat)
  case atStart => exact ⟨0, xs, Nat.zero_le _, rfl, HO.out, grown_of (Below.refl _ _)⟩
  case round =>
    obtain ⟨k, ys, hk, rfl, hO, hgr⟩ := hrel
    have HO2 := hide hO
    have HG := hide hgr
    clear hgr
    by_cases hlt : k < n
    · have hk1 : (k : Int) < (n : Int) := by omega
      have hyl : ys.length = n := by (have q := hO.1; omega)
      have c0 := hO.cellAt k (by omega)
      rw [List.getElem?_eq_getElem (by omega)] at c0
      have f0 := hO.frozenAt k
      generalize ys[k] = u at *
      have ST := hide (hO.stored k (.int .u8 99))
      clear hO hyl
      go_wp2
      go_roundw
      case rel => exact ⟨k + 1, _, by omega, by go_num, ST.out.1, grown_trans HG.out ST.out.2 (.inl rfl)⟩
      case measure => (first | (simp [intOf]; done) | (simp [intOf]; omega))
    · have hk1 : ¬ (k : Int) < (n : Int) := by omega
      clear hO
      go_wp2
      go_end0
      exact ⟨⟨_, rfl⟩, ⟨ys, HO2.out⟩, HG.out⟩
set_option maxRecDepth 100000 in
theorem spoil_nil (w : World) : Calls Try.prog 29 #[.slice none 0 0] w (fun e w' => (∃ u, e = .returned u) ∧ Below w.heap.size w w') := by
  go_enter Try.func29, Try.ntmps29
  go_wp2
  go_loopw [2] (fun v1 wr => v1 = .int .i64 0 ∧ Below w.heap.size w wr) (fun _ _ => 0)
  case atStart => exact ⟨rfl, Below.refl _ _⟩
  case round =>
    obtain ⟨rfl, hB⟩ := hrel
    have HB := hide hB
    clear hB
    go_wp2
    go_end0
    exact ⟨⟨_, rfl⟩, HB.out⟩
/-- 'spoil' writes over a row's things, and nothing else -/
theorem spoil_any (vx : Value) (n base : Nat) (xs : List Value) (w : World) (hl : n ≤ 1099511627776) (hown : w.ownsRow base 5 1 vx n xs) : Calls Try.prog 29 #[vx] w (fun e w' => (∃ u, e = .returned u) ∧ (∃ ys, w'.ownsRow base 5 1 vx n ys) ∧ w.grownBy w' vx.ownBlock) := by
  have h0 := hown
  rcases hown.2 with ⟨rfl, hn, hx⟩ | ⟨g, cap, cur, rfl, _⟩
  · refine (spoil_nil w).mono ?_
    rintro e w' ⟨hu, hb⟩
    exact ⟨hu, ⟨xs, own_below h0 hb⟩, grown_of hb⟩
  · exact spoil_own g n cap base xs w hl h0
theorem form_some {w : World} {p : PutA} : p.kd = 1 ∨ p.kd = 2 ∨ p.kd = 3 ∨ p.kd = 4 ∨ p.kd = 5 ∨ p.kd = 6 ∨ p.kd = 7 → p.form ≠ [] := by
  intro h e
  have q : p.form.length = 0 := by rw [e]; rfl
  unfold PutA.form formP at q
  have f1 := form_pos p.X
  have f2 := form_pos (fold (IntKind.i64.wrap (p.X : Int)))
  have f3 := form_pos p.s.size
  have f4 := form_pos p.ls.length
  have f5 := form_pos p.ts.length
  rcases h with h | h | h | h | h | h | h <;> rw [h] at q <;> simp [text, hi_length] at q <;> (first | omega | (rw [q] at f1; simp at f1) | (rw [q] at f2; simp at f2) | (rw [q.1] at f3; simp at f3) | (rw [q.1] at f4; simp at f4) | (rw [q.1] at f5; simp at f5))
/-- the document's form of a thing of the row -/
theorem formD_row (p : PutA) (w : World) (hok : PutOk w p) (hbk : p.bulk ≤ 1048576) : Calls Try.prog 26 #[.agg #[.int .i64 p.kd, .int .u64 (p.X : Int), .string p.s, .slice p.lo p.ls.length p.lc, .slice p.to_ p.ts.length p.tc]] w (fun e w' => ∃ v, e = .returned v ∧ w'.ownsRow w.heap.size 5 1 v p.form.length (p.form.map (fun (b : Nat) => Value.int .u8 (b : Int))) ∧ (p.form = [] → v = .slice none 0 0) ∧ Below w.heap.size w w') := by
  obtain ⟨kd, X, s, lo, lc, ls, to_, tc, ts⟩ := p
  have hX : X < 18446744073709551616 := hok.X
  have hs : s.size ≤ 1048576 := hok.s
  have hL : RowN w lo lc ls := hok.L
  have hT : RowS w to_ tc ts := hok.T
  have h4 := texts_le ts (fun x hx => by have := hT.size x hx; omega)
  have hbk' : s.size + ls.length + tsum ts + 1 ≤ 1048576 := hbk
  have hfs := fun h => form_some (w := w) (p := ⟨kd, X, s, lo, lc, ls, to_, tc, ts⟩) h
  clear hok hbk
  show Calls Try.prog 26 #[.agg #[.int .i64 kd, .int .u64 (X : Int), .string s, .slice lo ls.length lc, .slice to_ ts.length tc]] w _
  have hform : PutA.form ⟨kd, X, s, lo, lc, ls, to_, tc, ts⟩ = formP kd X s ls ts := rfl
  rw [hform] at hfs ⊢
  clear hform
  change (kd = 1 ∨ kd = 2 ∨ kd = 3 ∨ kd = 4 ∨ kd = 5 ∨ kd = 6 ∨ kd = 7 → formP kd X s ls ts ≠ []) at hfs
  have fin : ∀ (l : List Nat), l = formP kd X s ls ts → (kd = 1 ∨ kd = 2 ∨ kd = 3 ∨ kd = 4 ∨ kd = 5 ∨ kd = 6 ∨ kd = 7) → ∀ e w', (∃ v, e = Ending.returned v ∧ w'.ownsRow w.heap.size 5 1 v l.length (l.map (fun (b : Nat) => Value.int .u8 (b : Int))) ∧ Below w.heap.size w w') → (∃ v, e = Ending.returned v ∧ w'.ownsRow w.heap.size 5 1 v (formP kd X s ls ts).length ((formP kd X s ls ts).map (fun (b : Nat) => Value.int .u8 (b : Int))) ∧ (formP kd X s ls ts = [] → v = .slice none 0 0) ∧ Below w.heap.size w w') := by
    rintro l rfl hk e w' ⟨v, he, ho, hb⟩
    exact ⟨v, he, ho, fun e2 => absurd e2 (hfs hk), hb⟩
  by_cases k1 : kd = 1
  · subst k1; exact (formD_1 X s lo to_ lc tc ls ts w hX).mono (fin _ rfl (by simp))
  by_cases k2 : kd = 2
  · subst k2
    obtain ⟨sx, hsx, h0, h1⟩ := i64_of X
    exact (formD_2 X s lo to_ lc tc ls ts sx w hX hsx h0 h1).mono (fin _ (by rw [← hsx]; rfl) (by simp))
  by_cases k3 : kd = 3
  · subst k3; exact (formD_3 X s lo to_ lc tc ls ts w hX).mono (fin _ rfl (by simp))
  by_cases k4 : kd = 4
  · subst k4; exact (formD_4 X s lo to_ lc tc ls ts w hX).mono (fin _ rfl (by simp))
  by_cases k5 : kd = 5
  · subst k5; exact (formD_5 X s lo to_ lc tc ls ts w hX (by omega)).mono (fin _ rfl (by simp))
  by_cases k6 : kd = 6
  · subst k6; exact (formD_6 X s lo to_ lc tc ls ts w hX hL).mono (fin _ rfl (by simp))
  by_cases k7 : kd = 7
  · subst k7; exact (formD_7 X s lo to_ lc tc ls ts w hX hT (by omega)).mono (fin _ rfl (by simp))
  have e0 : formP kd X s ls ts = [] := by unfold formP; rw [if_neg k1, if_neg k2, if_neg k3, if_neg k4, if_neg k5, if_neg k6, if_neg k7]
  rw [e0]
  exact (formD_0none X s lo to_ lc tc ls ts kd w hX k1 k2 k3 k4 k5 k6 k7).mono (by
    rintro e w' ⟨rfl, hb⟩
    exact ⟨_, rfl, World.ownsRow_nil _ _ _ _, fun _ => rfl, hb⟩)
end Go.Proofs.Ytajkgecegefnmaa

namespace Go.Proofs.Ytajkgecegefnmaa
open Go.ChangeShapes Go.WideShapes Go.ChangeAt Go.RowKit Go.Deep
set_option linter.unusedSimpArgs false
set_option linter.unusedVariables false

/-- how far the writers are, when the inner loop has come to k -/
def sK (R : Nat → List PutA) (i k : Nat) (j : Nat) : List Nat := formsP ((R j).take (if j < k then i + 1 else i))
theorem sK_zero (R : Nat → List PutA) (i j : Nat) : sK R i 0 j = formsP ((R j).take i) := by unfold sK; rw [if_neg (by omega)]
theorem sK_two (R : Nat → List PutA) (i j : Nat) (h : j < 2) : sK R i 2 j = formsP ((R j).take (i + 1)) := by unfold sK; rw [if_pos h]
theorem sK_stop (R : Nat → List PutA) (i k j : Nat) (h : (R k).length ≤ i) : sK R i k j = sK R i (k + 1) j := by
  unfold sK
  by_cases e : j = k
  · subst e
    rw [if_neg (by omega), if_pos (by omega), List.take_of_length_le h, List.take_of_length_le (by omega)]
  · by_cases h2 : j < k
    · rw [if_pos h2, if_pos (by omega)]
    · rw [if_neg h2, if_neg (by omega)]
theorem sK_at (R : Nat → List PutA) (i k : Nat) : sK R i k k = formsP ((R k).take i) := by unfold sK; rw [if_neg (by omega)]
theorem sK_next (R : Nat → List PutA) (i k : Nat) (h : i < (R k).length) (j : Nat) : upd (sK R i k) k (sK R i k k ++ ((R k).getD i PutA.none).form) j = sK R i (k + 1) j := by
  by_cases e : j = k
  · subst e
    rw [upd_same, sK_at, ← formsP_next _ _ h]
    unfold sK
    rw [if_pos (by omega)]
  · rw [upd_other _ _ _ e]
    unfold sK
    by_cases h2 : j < k
    · rw [if_pos h2, if_pos (by omega)]
    · rw [if_neg h2, if_neg (by omega)]
theorem sK_len (R : Nat → List PutA) (i k j : Nat) {w : World} (h : ∀ p ∈ R j, PutOk w p) (hb : psum (R j) ≤ 1048576) (hl : (R j).length ≤ 1048576) : (sK R i k j).length ≤ 18874368 := by
  unfold sK
  generalize (if j < k then i + 1 else i) = m
  have q1 := formsP_le ((R j).take m) (fun p hp => h p (List.mem_of_mem_take hp))
  have q3 := psum_take (R j) m
  have q4 : ((R j).take m).length ≤ (R j).length := by simp; omega
  omega
theorem St.start {w wr : World} {so : Nat → Option Addr} {R : Nat → List PutA} {cap : Nat → Nat} {g0 n : Nat} (hb : Below w.heap.size w wr) (hn : w.heap.size ≤ n) (hg : w.heap.size ≤ g0) (hgn : g0 < n) (hz : wr.heap.size = n + 4)
    (h0 : WObj wr g0 (.slice none 0 0) []) (h1 : WObj wr n (.slice none 0 0) [])
    (c0 : wr.cell? ⟨n + 1, 0, none⟩ = some (.pointer (some ⟨g0, 0, none⟩))) (c1 : wr.cell? ⟨n + 1, 1, none⟩ = some (.pointer (some ⟨n, 0, none⟩)))
    (l0 : wr.cell? ⟨n + 2, 0, none⟩ = some (.slice (so 0) (R 0).length (cap 0))) (l1 : wr.cell? ⟨n + 2, 1, none⟩ = some (.slice (so 1) (R 1).length (cap 1)))
    (q0 : wr.cell? ⟨n + 3, 0, none⟩ = some (.slice none 0 0)) (q1 : wr.cell? ⟨n + 3, 1, none⟩ = some (.slice none 0 0)) (f : ∀ o, wr.frozen? ⟨n + 3, o, none⟩ = false) :
    St w wr (n + 1) (n + 2) (n + 3) so R cap (fun k => if k = 0 then g0 else n) (fun _ => .slice none 0 0) (fun _ => .slice none 0 0) (sK R 0 0) (sK R 0 0) := by
  have two : ∀ (P : Nat → Prop), P 0 → P 1 → ∀ k, k < 2 → P k := fun P a b k hk => by
    rcases Nat.lt_or_ge k 1 with h | h
    · obtain rfl : k = 0 := by omega
      exact a
    · obtain rfl : k = 1 := by omega
      exact b
  have es : ∀ j, sK R 0 0 j = [] := fun j => by rw [sK_zero]; simp [formsP]
  have form : ∀ i b, blk (n + 1) (n + 2) (n + 3) (fun k => if k = 0 then g0 else n) (fun _ => .slice none 0 0) (fun _ => .slice none 0 0) i = some b → (i = 0 ∧ b = g0) ∨ (i = 1 ∧ b = n) ∨ (i = 6 ∧ b = n + 1) ∨ (i = 7 ∧ b = n + 2) ∨ (i = 8 ∧ b = n + 3) := by
    intro i b h
    unfold blk at h
    split at h
    · by_cases e : i = 0
      · subst e; simp at h; omega
      · have : i = 1 := by omega
        subst this; simp at h; omega
    split at h
    · simp [Value.ownBlock] at h
    split at h
    · simp [Value.ownBlock] at h
    split at h
    · simp at h; omega
    split at h
    · simp at h; omega
    split at h
    · simp at h; omega
    · simp at h
  refine ⟨hb, ?_, ?_, ?_, two _ ?_ ?_, two _ ?_ ?_, two _ c0 c1, two _ l0 l1, two _ q0 q1, f⟩
  · intro i j hij b hi hj
    have := form i b hi
    have := form j b hj
    omega
  · intro i b hi
    have := form i b hi
    omega
  · intro i b hi
    have := form i b hi
    omega
  · rw [es]; exact h0
  · rw [es]; exact h1
  · rw [es]; exact World.ownsRow_nil _ _ _ _
  · rw [es]; exact World.ownsRow_nil _ _ _ _

theorem step_append_none {P : Program} {w : World} {ops : Array Oper} {o : Oper} {a : Act} {K : Act → World → Prop} {Q : Exit → Act → World → Prop} {E : Prop} (hgd : o.guard = none) (s x : Operand) (t : TypeId)
    (ho : o.op = .call { callee := .builtin .append, args := #[s, x], argTypes := #[t, t] })
    (base : Nat) (e : TypeId) (i : TypeInfo) (size : Nat) (ht : P.underlying t = some (.slice e)) (hi : P.info? e = some i)
    (v : Value) (n : Nat) (xs : List Value) (hs : a.eval s = v) (hown : w.ownsRow base e size v n xs) (hx : a.eval x = .slice none 0 0)
    (h : K (a.put o.dst v) w) : if Region.wanted o (yielded ops a.tmps) = true then Oper.wp P o a w K Q else E := by
  have hw : Region.wanted o (yielded ops a.tmps) = true := by simp [Region.wanted, hgd]
  rw [if_pos hw]
  have hrun := run_append_owned_none (P := P) (w := w) base t o.type e i size ht hi v n xs hown
  unfold Oper.wp
  simp [execOp, ho, resolve, invoke, builtin, hs, hx, hrun, Result.andThen]
  exact h
theorem St.load {w wr wn : World} {A L Q : Nat} {so : Nat → Option Addr} {R : Nat → List PutA} {cap : Nat → Nat} {g : Nat → Nat} {v q : Nat → Value} {s t : Nat → List Nat} (h : St w wr A L Q so R cap g v q s t) {k b off i : Nat} {p : PutA} {x : Value} (hk : k < 2) (hso : so k = some ⟨b, off, none⟩) (hb : b < w.heap.size) (hc : ∀ c, c < 5 → w.cell? ⟨b, off + i * 5 + c, none⟩ = p.cells[c]?) (hp : wr.grownBy wn (q k).ownBlock) (hx : q k = x) :
    wn.cell? ⟨A, k, none⟩ = some (.pointer (some ⟨g k, 0, none⟩)) ∧ wn.cell? ⟨L, k, none⟩ = some (.slice (some ⟨b, off, none⟩) (R k).length (cap k)) ∧ wn.cell? ⟨Q, k, none⟩ = some x ∧ wn.frozen? ⟨Q, k, none⟩ = false ∧
      wn.cell? ⟨b, off + i * 5, none⟩ = some (.int .i64 p.kd) ∧ wn.cell? ⟨b, off + i * 5 + 1, none⟩ = some (.int .u64 (p.X : Int)) ∧ wn.cell? ⟨b, off + i * 5 + 2, none⟩ = some (.string p.s) ∧ wn.cell? ⟨b, off + i * 5 + 3, none⟩ = some (.slice p.lo p.ls.length p.lc) ∧ wn.cell? ⟨b, off + i * 5 + 4, none⟩ = some (.slice p.to_ p.ts.length p.tc) := by
  obtain ⟨ek, ev, eq⟩ := blk_at A L Q g v q hk
  subst hx
  have keep : ∀ j d, j ≠ 4 + k → blk A L Q g v q j = some d → wn.heap[d]? = wr.heap[d]? := fun j d h2 hd =>
    hp.block d (h.lt j d hd) (fun e => h.ne h2 hd (by rw [eq]; exact e.symm))
  have old : ∀ o u, w.cell? ⟨b, o, none⟩ = some u → wn.cell? ⟨b, o, none⟩ = some u := fun o u hu => by
    have e1 := (h.low.cell (p := ⟨b, o, none⟩) hb).trans hu
    refine (World.cell?_of_block (a := ⟨b, o, none⟩) (hp.block b (Nat.lt_of_lt_of_le hb h.low.size) (fun e => ?_))).trans e1
    have := h.ge (4 + k) b (by rw [eq]; exact e.symm)
    omega
  refine ⟨?_, ?_, ?_, ?_, old _ _ (hc 0 (by decide)), old _ _ (hc 1 (by decide)), old _ _ (hc 2 (by decide)), old _ _ (hc 3 (by decide)), old _ _ (hc 4 (by decide))⟩
  · exact (World.cell?_of_block (a := ⟨A, k, none⟩) (keep 6 A (by omega) rfl)).trans (h.cA k hk)
  · have := h.cL k hk
    rw [hso] at this
    exact (World.cell?_of_block (a := ⟨L, k, none⟩) (keep 7 L (by omega) rfl)).trans this
  · exact (World.cell?_of_block (a := ⟨Q, k, none⟩) (keep 8 Q (by omega) rfl)).trans (h.cQ k hk)
  · exact (World.frozen?_of_block (a := ⟨Q, k, none⟩) (keep 8 Q (by omega) rfl)).trans (h.fQ k)
end Go.Proofs.Ytajkgecegefnmaa

