import Derived.Test.YtkdocoibfclfeaaTm
import Derived.Sort.LoopGhostIn
import Derived.Deep.Matrix
import Derived.SliceStrings
namespace Go.Proofs.Ytkdocoibfclfeaa
open Go.ChangeShapes Go.WideShapes Go.ChangeAt Go.RowKit Go.Deep Go.Shelf Go.Maps Go.WideMaps Ytkdocoibfclfeaa.it
set_option linter.unusedSimpArgs false
set_option linter.unusedVariables false

attribute [local go_sem] Oper.semAt_some

section
variable {H : Type} {enc : TypeId × Value → H} {w : World} {base : Nat} {spare : Nat → Bool} {held : Bool}
theorem spot_addr {a : Addr} (h : a.spot = none) (n : Nat) : a.add n = ⟨a.block, a.off + n, none⟩ := by
  obtain ⟨b, o, s⟩ := a
  simp at h
  subst h
  exact Addr.add_lit b o n
theorem spot_of {a : Addr} {v : Value} (h : w.cell? (a.add 0) = some v) : a.spot = none := by
  have := World.cell?_spot h
  simpa [Addr.add] using this
theorem addr_of {a : Addr} (h : a.spot = none) : a = ⟨a.block, a.off, none⟩ := by
  obtain ⟨b, o, s⟩ := a
  simp at h
  subst h
  rfl
theorem strs_of {fuel : Nat} {cs : List Value} {y : DataW H × List MemPlace} (h : DataW.trod enc Try.prog w base spare held fuel 22 cs = some y) : ∃ so cap L, cs = [.slice so (List.length L) cap] ∧ NRow w so L := by
  rcases open_strings Try.underlying22 Try.underlying9 (by kernel_rfl) h with ⟨h1, rfl⟩ | ⟨a, len, cap, zs, h1, _, hl, _, hz, rfl, hc, hw⟩
  · exact ⟨none, 0, [], h1, ⟨fun k hk => by simp at hk⟩⟩
  · have hzl : len ≤ zs.length := by rw [hz]; split <;> omega
    have hlen : (zs.take len).length = len := by simp; omega
    refine ⟨some a, cap, zs.take len, by rw [h1, hlen], ⟨fun k hk => ?_⟩⟩
    rw [hlen] at hk
    have hsp := spot_of (hc 0 (by omega))
    refine ⟨a.block, a.off, by rw [← addr_of hsp], ?_⟩
    have cj := hc k (by omega)
    rw [spot_addr hsp] at cj
    rw [cj]
    have hjz : k < zs.length := by omega
    simp [List.getD, hjz, hk]
set_option maxRecDepth 100000 in
theorem ent_of {fuel : Nat} {cs : List Value} {y : DataW H × List MemPlace} (h : DataW.trod enc Try.prog w base spare held fuel 63 cs = some y) : ∃ x : Ent, cs = [.string x.1, .int .i64 x.2] := by
  obtain ⟨ys, n, _, rfl, hlc, hlen, hg⟩ := DataW.trod_struct Try.underlying63 h
  rw [show Try.prog.cellsOf 63 = 2 from by kernel_rfl] at hlc
  match ys, hlen, cs, hlc with
  | [y0, y1], _, [c0, c1], _ =>
    have g0 : DataW.trod enc Try.prog w base spare held n 9 (([c0, c1].drop 0).take (Try.prog.cellsOf 9)) = some y0 := hg 0 _ rfl
    have g1 : DataW.trod enc Try.prog w base spare held n 2 (([c0, c1].drop 1).take (Try.prog.cellsOf 2)) = some y1 := hg 1 _ rfl
    rw [show Try.prog.cellsOf 9 = 1 from by kernel_rfl] at g0
    rw [show Try.prog.cellsOf 2 = 1 from by kernel_rfl] at g1
    simp only [List.drop, List.take] at g0 g1
    obtain ⟨s, e0, -, _⟩ := DataW.trod_string Try.underlying9 g0
    obtain ⟨z, e1, -, _⟩ := DataW.trod_int Try.underlying2 g1
    injection e0 with e0 _
    injection e1 with e1 _
    exact ⟨(s, z), by rw [e0, e1]⟩
theorem ents_of {fuel : Nat} {cs : List Value} {y : DataW H × List MemPlace} (h : DataW.trod enc Try.prog w base spare held fuel 33 cs = some y) : ∃ so cap p, cs = [.slice so (List.length p) cap] ∧ Ents so cap p w := by
  rcases DataW.trod_slice Try.underlying33 h with ⟨rfl, rfl⟩ | ⟨a, len, cap, elems, rest, n, _, rfl, rfl, hb, hl, hm, hlen, hel, hsp, hns⟩
  · exact ⟨none, 0, [], rfl, ⟨fun _ => ⟨rfl, rfl⟩, fun q => by simp at q, fun ad e => by cases e⟩⟩
  rw [show Try.prog.cellsOf 63 = 2 from by kernel_rfl] at hel
  have each : ∀ i, ∃ x : Ent, i < len → ∃ cs', w.cells? base (a.add (i * 2)) 2 = some cs' ∧ cs' = [.string x.1, .int .i64 x.2] := by
    intro i
    by_cases hi : i < len
    · have h2 := hel i hi
      have hie : i < elems.length := by omega
      rw [List.getElem?_eq_getElem hie, Option.bind_eq_some_iff] at h2
      obtain ⟨cs', hcs, hy'⟩ := h2
      obtain ⟨x, hx⟩ := ent_of hy'
      exact ⟨x, fun _ => ⟨_, hcs, hx⟩⟩
    · exact ⟨(⟨#[]⟩, 0), fun h => absurd h hi⟩
  obtain ⟨f, hf⟩ := Classical.axiomOfChoice each
  have cell : ∀ i, i < len → ∀ c, c < 2 → w.cell? ((a.add (i * 2)).add c) = ([Value.string (f i).1, .int .i64 (f i).2])[c]? := by
    intro i hi c hc
    obtain ⟨cs', hcs, e⟩ := hf i hi
    have := (World.cells?_some hcs).2.2 c hc
    rw [this, ← e]

  have hen : ∀ i, i < len → ent ((List.range len).map f) i = f i := fun i hi => by simp [ent, List.getD, hi]
  refine ⟨some a, cap, (List.range len).map f, by simp, ⟨(fun e => by cases e), fun h0 => ?_, fun ad e j u hu => ?_⟩⟩
  · have h0' : 0 < len := by simpa using h0
    have c0 := cell 0 h0' 0 (by decide)
    rw [Nat.zero_mul, show (a.add 0).add 0 = a.add 0 from by simp [Addr.add]] at c0
    have hs := spot_of c0
    exact ⟨a.block, a.off, by rw [← addr_of hs]⟩
  · cases e
    have hj : j < ((List.range len).map f).length * 2 := by
      rcases Nat.lt_or_ge j (((List.range len).map f).length * 2) with q | q
      · exact q
      · rw [List.getElem?_eq_none (by rw [flatE_len]; omega)] at hu; cases hu
    have hl' : ((List.range len).map f).length = len := by simp
    obtain ⟨i, hij⟩ : ∃ i, i = j / 2 := ⟨_, rfl⟩
    have hi : i < len := by omega
    have h0' : 0 < len := by omega
    have c0 := cell 0 h0' 0 (by decide)
    rw [Nat.zero_mul, show (a.add 0).add 0 = a.add 0 from by simp [Addr.add]] at c0
    have hs := spot_of c0
    have e2 := flatE_at ((List.range len).map f) i (by rw [hl']; exact hi)
    rw [hen _ hi] at e2
    have cc := cell i hi
    rcases (by omega : j = i * 2 ∨ j = i * 2 + 1) with q | q
    · rw [q, e2.1] at hu
      cases hu
      have c := cc 0 (by decide)
      rw [spot_addr hs, spot_addr rfl] at c
      rw [spot_addr hs, q]
      simpa using c
    · rw [q, e2.2] at hu
      cases hu
      have c := cc 1 (by decide)
      rw [spot_addr hs, spot_addr rfl] at c
      rw [spot_addr hs, q]
      simpa [Nat.add_assoc] using c
theorem postings_of {fuel : Nat} {cs : List Value} {y : DataW H × List MemPlace} (h : DataW.trod enc Try.prog w base spare held fuel 23 cs = some y) : ∃ so cap P, cs = [.slice so (List.length P) cap] ∧ PRow w so P := by
  rcases DataW.trod_slice Try.underlying23 h with ⟨rfl, rfl⟩ | ⟨a, len, cap, elems, rest, n, _, rfl, rfl, hb, hl, hm, hlen, hel, hsp, hns⟩
  · exact ⟨none, 0, [], rfl, ⟨fun k hk => by simp at hk⟩⟩
  rw [show Try.prog.cellsOf 33 = 1 from by kernel_rfl] at hel
  have each : ∀ i, ∃ p : List Ent, i < len → ∃ so' cap', (∃ cs', w.cells? base (a.add (i * 1)) 1 = some cs' ∧ cs' = [.slice so' p.length cap']) ∧ Ents so' cap' p w := by
    intro i
    by_cases hi : i < len
    · have h2 := hel i hi
      have hie : i < elems.length := by omega
      rw [List.getElem?_eq_getElem hie, Option.bind_eq_some_iff] at h2
      obtain ⟨cs', hcs, hy'⟩ := h2
      obtain ⟨so', cap', p, hx, hE⟩ := ents_of hy'
      exact ⟨p, fun _ => ⟨so', cap', ⟨_, hcs, hx⟩, hE⟩⟩
    · exact ⟨[], fun h => absurd h hi⟩
  obtain ⟨f, hf⟩ := Classical.axiomOfChoice each
  have hen : ∀ i, i < len → ((List.range len).map f).getD i [] = f i := fun i hi => by simp [List.getD, hi]
  refine ⟨some a, cap, (List.range len).map f, by simp, ⟨fun k hk => ?_⟩⟩
  have hk' : k < len := by simpa using hk
  have cell : ∀ i, i < len → ∃ so' cap', w.cell? (a.add i) = some (.slice so' (f i).length cap') ∧ Ents so' cap' (f i) w := by
    intro i hi
    obtain ⟨so', cap', ⟨cs', hcs, e⟩, hE⟩ := hf i hi
    have := (World.cells?_some hcs).2.2 0 (by decide)
    refine ⟨so', cap', ?_, hE⟩
    rw [Nat.mul_one, show (a.add i).add 0 = a.add i from by simp [Addr.add]] at this
    rw [this]
    have e0 := congrArg (fun l : List Value => l[0]?) e
    simpa using e0
  obtain ⟨so0, cap0, c0, -⟩ := cell 0 (by omega)
  have hs := spot_of c0
  obtain ⟨so', cap', c, hE⟩ := cell k hk'
  rw [spot_addr hs] at c
  exact ⟨a.block, a.off, so', cap', by rw [← addr_of hs], by rw [hen k hk']; exact c, by rw [hen k hk']; exact hE⟩
end
end Go.Proofs.Ytkdocoibfclfeaa
