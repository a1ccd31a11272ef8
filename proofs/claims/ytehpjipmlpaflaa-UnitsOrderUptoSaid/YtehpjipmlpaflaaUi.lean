import Derived.Test.YtehpjipmlpaflaaUh
import Derived.Deep.Matrix
import Derived.SliceStrings
namespace Go.Proofs.Ytehpjipmlpaflaa.un
open Go.ChangeShapes Go.WideShapes Go.ChangeAt Go.RowKit Go.Deep Go.Shelf
set_option linter.unusedSimpArgs false
set_option linter.unusedVariables false

attribute [local go_sem] Oper.semAt_some

section
variable {H : Type} {enc : TypeId × Value → H} {w : World} {base : Nat} {held : Bool}
theorem spot_addr {a : Addr} (h : a.spot = none) (n : Nat) : a.add n = ⟨a.block, a.off + n, none⟩ := by
  obtain ⟨b, o, s⟩ := a
  simp at h
  subst h
  exact Addr.add_lit b o n
theorem spot_of {a : Addr} {v : Value} (h : w.cell? (a.add 0) = some v) : a.spot = none := by
  have := World.cell?_spot h
  simpa [Addr.add] using this
theorem addr_of {a : Addr} (h : a.spot = none) : a = ⟨a.block, a.off, none⟩ := by
  obtain ⟨b, o, s⟩ := a
  simp at h
  subst h
  rfl
theorem at0_take (zs : List Int) (n k : Nat) (hk : k < n) : at0 (zs.take n) k = zs.getD k 0 := by
  unfold at0
  rw [List.getElem?_take, if_pos hk]
  rfl
theorem bidAt_map (f : Nat → List Int) (n i : Nat) (hi : i < n) : bidAt ((List.range n).map f) i = f i := by
  simp [bidAt, hi]
theorem ints_of {fuel : Nat} {cs : List Value} {y : DataW H × List MemPlace} (h : DataW.trod enc Try.prog w base (fun _ => true) held fuel 41 cs = some y) : ∃ so xs cap, cs = [.slice so (List.length xs) cap] ∧ IRow so xs w := by
  rcases open_ints Try.underlying41 Try.underlying2 (by kernel_rfl) h with ⟨rfl, rfl⟩ | ⟨a, len, cap, zs, rfl, _, hl, _, hz, rfl, hc, hw⟩
  · exact ⟨none, [], 0, rfl, ⟨fun h => by simp at h⟩⟩
  · have hzl : len ≤ zs.length := by rw [hz]; first | (split <;> omega) | (simp; omega) | omega
    have hlen : (zs.take len).length = len := by simp; omega
    refine ⟨some a, zs.take len, cap, by rw [hlen], ⟨fun h0 => ?_⟩⟩
    rw [hlen] at h0
    have hsp := spot_of (hc 0 (by omega))
    refine ⟨a.block, a.off, by rw [← addr_of hsp], fun k hk => ?_⟩
    rw [hlen] at hk
    have ck := hc k (by omega)
    rw [spot_addr hsp] at ck
    rw [ck, at0_take _ _ _ hk]
theorem bids_of {fuel : Nat} {cs : List Value} {y : DataW H × List MemPlace} (h : DataW.trod enc Try.prog w base (fun _ => true) held fuel 22 cs = some y) : ∃ so L cap, cs = [.slice so (List.length L) cap] ∧ BRows so L w := by
  rcases open_int_rows Try.underlying22 Try.underlying41 Try.underlying2 (by kernel_rfl) (by kernel_rfl) h with ⟨rfl, rfl⟩ | ⟨a, len, cap, A, Ln, C, Z, rfl, _, hl, _, -, hr⟩
  · exact ⟨none, [], 0, rfl, ⟨fun h => by simp at h⟩⟩
  · have hlen : ((List.range len).map (fun r => (Z r).take (Ln r))).length = len := by simp
    refine ⟨some a, (List.range len).map (fun r => (Z r).take (Ln r)), cap, by rw [hlen], ⟨fun h0 => ?_⟩⟩
    rw [hlen] at h0
    have hsp := spot_of (hr 0 (by omega)).1
    refine ⟨a.block, a.off, by rw [← addr_of hsp], fun i hi => ?_⟩
    rw [hlen] at hi
    obtain ⟨h1, h2, h3, h4, h5, h6, h7⟩ := hr i (by omega)
    rw [spot_addr hsp] at h1
    have hli : (bidAt ((List.range len).map (fun r => (Z r).take (Ln r))) i).length = Ln i := by
      rw [bidAt_map _ _ _ hi, List.length_take]; omega
    refine ⟨A i, C i, by rw [hli]; exact h1, ⟨fun h8 => ?_⟩⟩
    rw [hli] at h8
    cases hA : A i with
    | none => have := h6 hA; omega
    | some a' =>
      obtain ⟨_, hc⟩ := h7 a' hA
      have hsp2 := spot_of (hc 0 (by omega))
      refine ⟨a'.block, a'.off, by rw [← addr_of hsp2], fun k hk => ?_⟩
      rw [hli] at hk
      have ck := hc k (by omega)
      rw [spot_addr hsp2] at ck
      rw [ck, bidAt_map _ _ _ hi, at0_take _ _ _ hk]
set_option maxRecDepth 100000 in
theorem ask_of {fuel : Nat} {cs : List Value} {y : DataW H × List MemPlace} (h : DataW.trod enc Try.prog w base (fun _ => true) held fuel 24 cs = some y) : ∃ count floor so L cap, cs = [.int .i64 count, .int .i64 floor, .slice so (List.length L) cap] ∧ BRows so L w := by
  obtain ⟨ys, n, _, rfl, hlc, hlen, hg⟩ := DataW.trod_struct Try.underlying24 h
  rw [show Try.prog.cellsOf 24 = 3 from by kernel_rfl] at hlc
  match ys, hlen, cs, hlc with
  | [y0, y1, y2], _, [c0, c1, c2], _ =>
    have g0 : DataW.trod enc Try.prog w base (fun _ => true) held n 3 (([c0, c1, c2].drop 0).take (Try.prog.cellsOf 3)) = some y0 := hg 0 _ rfl
    have g1 : DataW.trod enc Try.prog w base (fun _ => true) held n 2 (([c0, c1, c2].drop 1).take (Try.prog.cellsOf 2)) = some y1 := hg 1 _ rfl
    have g2 : DataW.trod enc Try.prog w base (fun _ => true) held n 22 (([c0, c1, c2].drop 2).take (Try.prog.cellsOf 22)) = some y2 := hg 2 _ rfl
    rw [show Try.prog.cellsOf 3 = 1 from by kernel_rfl] at g0
    rw [show Try.prog.cellsOf 2 = 1 from by kernel_rfl] at g1
    rw [show Try.prog.cellsOf 22 = 1 from by kernel_rfl] at g2
    simp only [List.drop, List.take] at g0 g1 g2
    obtain ⟨k, e0, -, _⟩ := DataW.trod_int Try.underlying3 g0
    obtain ⟨z, e1, -, _⟩ := DataW.trod_int Try.underlying2 g1
    obtain ⟨so, L, cap, e2, hr⟩ := bids_of g2
    injection e0 with e0 _
    injection e1 with e1 _
    injection e2 with e2 _
    exact ⟨k, z, so, L, cap, by rw [e0, e1, e2], hr⟩
end
end Go.Proofs.Ytehpjipmlpaflaa.un
