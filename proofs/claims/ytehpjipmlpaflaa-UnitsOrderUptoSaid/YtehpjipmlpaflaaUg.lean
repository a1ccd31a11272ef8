import Derived.Test.YtehpjipmlpaflaaUf
namespace Go.Proofs.Ytehpjipmlpaflaa.un
open Go.ChangeShapes Go.WideShapes Go.ChangeAt Go.RowKit Go.Deep Go.Shelf
set_option linter.unusedSimpArgs false
set_option linter.unusedVariables false

attribute [local go_sem] Oper.semAt_some

theorem LentM.at {L : List (List Int)} {base M cM : Nat} {W : World} (h : LentM L base M cM W) {i : Nat} (hi : i < L.length) : ∃ g c, W.cell? ⟨M, i, none⟩ = some (.slice (some ⟨g, 0, none⟩) (bidAt L i).length c) ∧ (bidAt L i).length + 1 ≤ c ∧ (∀ k, k < (bidAt L i).length → W.cell? ⟨g, k, none⟩ = some (.int .i64 (at0 (bidAt L i) k))) ∧ W.cell? ⟨g, (bidAt L i).length, none⟩ = some (.int .i64 4242) := by
  obtain ⟨vs, z, h1, h2, h3, h4⟩ := h.row
  obtain ⟨v, hv, g, c, rfl, own⟩ := h4 i hi
  refine ⟨g, c, ?_, own_cap own, (lent_cells own).1, (lent_cells own).2⟩
  rw [h1.cellAt i (by omega), List.getElem?_append_left (by omega), hv]
theorem LentM.mark {L : List (List Int)} {base M cM : Nat} {W : World} (h : LentM L base M cM W) : ∃ z, W.cell? ⟨M, L.length, none⟩ = some (.slice (some ⟨z, 0, none⟩) 1 1) ∧ L.length + 1 ≤ cM ∧ W.cell? ⟨z, 0, none⟩ = some (.int .i64 4243) := by
  obtain ⟨vs, z, h1, h2, h3, h4⟩ := h.row
  refine ⟨z, ?_, own_cap h1, h3⟩
  rw [h1.cellAt L.length (by omega), List.getElem?_append_right (by omega), h2, Nat.sub_self]
  rfl
set_option maxRecDepth 100000 in
set_option maxHeartbeats 8000000 in
theorem kept_c (so : Option Addr) (cap : Nat) (L : List (List Int)) (base M cM : Nat) (w : World) (hb : BRows so L w) (hm : LentM L base M cM w) (hL : L.length ≤ 4096) (hLb : ∀ i, i < L.length → (bidAt L i).length ≤ 4000) :
    Calls Try.prog 15 #[.slice (some ⟨M, 0, none⟩) L.length cM, .slice so L.length cap] w fun e w' => e = .returned (.bool true) ∧ Below w.heap.size w w' := by
  have HB := hide hb
  have HM := hide hm
  have HLB := hide hLb
  have hcM : L.length + 1 ≤ cM := by obtain ⟨z, _, h, _⟩ := hm.mark; exact h
  clear hb hm hLb
  go_enter Try.func15, Try.ntmps15
  go_wp2_with fail
  go_loopw [5] (fun v5 wr => ∃ i : Nat, i ≤ L.length ∧ v5 = .int .i64 (i : Int) ∧ Below w.heap.size w wr) (fun v5 _ => L.length - (intOf v5).toNat)
  case atStart => exact ⟨0, Nat.zero_le _, rfl, Below.refl _ _⟩
  case round =>
    obtain ⟨i, hi, rfl, hbw⟩ := hrel
    have HBW := hide hbw
    have hi0 : (0 : Int) ≤ (i : Int) := by omega
    clear hbw
    by_cases hlt : i < L.length
    · have hlt' : (i : Int) < (L.length : Int) := by omega
      obtain ⟨b, off, si, ci, rfl, cb, hrow⟩ := (HB.out.below HBW.out).spot hlt
      obtain ⟨g, c, cm, hc, hcs, hmk⟩ := (HM.out.below HBW.out).at hlt
      have HRW := hide hrow
      have HCS := hide hcs
      have hlb := HLB.out i hlt
      clear hrow hcs
      obtain ⟨xs, hxs⟩ : ∃ xs, xs = bidAt L i := ⟨_, rfl⟩
      rw [← hxs] at HRW HCS hlb cb cm hc hmk
      have HXS := hide hxs
      clear hxs
      have e1 : decide ((xs.length : Int) = (xs.length : Int)) = true := by simp
      have e2 : ((xs.length : Int) == (xs.length : Int)) = true := by simp
      have e3 : ((xs.length : Int) != (xs.length : Int)) = false := by simp
      have e4 : ((xs.length + 1 : Nat) : Int) = (xs.length : Int) + 1 := by omega
      have e5 : ((xs.length : Int) + 1).toNat = xs.length + 1 := by omega
      have hc' : (xs.length : Int) + 1 ≤ (c : Int) := by omega
      have hcm' : (i : Int) < (cM : Int) := by omega
      go_wp2_with fail
      go_quiet (fail)
      go_wp2_with fail
      obtain ⟨wo, hwo⟩ : ∃ q : World, q = wr := ⟨wr, rfl⟩
      subst hwo
      go_loopw [6] (fun v6 wk => ∃ k : Nat, k ≤ xs.length ∧ v6 = .int .i64 (k : Int) ∧ Below wo.heap.size wo wk) (fun v6 _ => xs.length - (intOf v6).toNat)
      case atStart => exact ⟨0, Nat.zero_le _, rfl, by (focus repeat' (first | (with_reducible exact Below.refl _ _) | (with_reducible assumption) | (with_reducible refine Below.alloc ?_ ?_ _) | (with_reducible refine Below.drew ?_) | (with_reducible refine bdrewN ?_ _) | (with_reducible refine Below.setCell ?_ ?_ _) | (first | (with_reducible exact Nat.le_refl _) | (with_reducible assumption) | omega | (simp; omega) | (simp; done))))⟩
      case round =>
        obtain ⟨k, hk, rfl, hbk⟩ := hrel
        have HBK := hide hbk
        have cb2 : wr.cell? ⟨b, off + i, none⟩ = some (.slice si xs.length ci) := (hbk.cell (p := ⟨b, off + i, none⟩) (cell_lt cb)).trans cb
        have cm2 : wr.cell? ⟨M, i, none⟩ = some (.slice (some ⟨g, 0, none⟩) xs.length c) := (hbk.cell (p := ⟨M, i, none⟩) (cell_lt cm)).trans cm
        have hk0 : (0 : Int) ≤ (k : Int) := by omega
        clear hbk
        by_cases hkl : k < xs.length
        · have hkl' : (k : Int) < (xs.length : Int) := by omega
          obtain ⟨b2, off2, rfl, ck⟩ := (HRW.out.below HBK.out).cell hkl
          have cgk := (HBK.out.cell (p := ⟨g, k, none⟩) (cell_lt (HCS.out k hkl))).trans (HCS.out k hkl)
          obtain ⟨x, hx⟩ : ∃ x, x = at0 xs k := ⟨_, rfl⟩
          rw [← hx] at ck cgk
          have x1 : decide (x = x) = true := by simp
          have x2 : (x == x) = true := by simp
          have x3 : (x != x) = false := by simp
          clear hx
          go_wp2_with fail
          go_quiet (fail)
          go_wp2_with fail
          go_roundw
          case rel => exact ⟨k + 1, by omega, by go_num, by (have := HBK.out; (focus repeat' (first | (with_reducible exact Below.refl _ _) | (with_reducible assumption) | (with_reducible refine Below.alloc ?_ ?_ _) | (with_reducible refine Below.drew ?_) | (with_reducible refine bdrewN ?_ _) | (with_reducible refine Below.setCell ?_ ?_ _) | (first | (with_reducible exact Nat.le_refl _) | (with_reducible assumption) | omega | (simp; omega) | (simp; done)))))⟩
          case measure => (first | (simp [intOf]; done) | (simp [intOf]; omega))
        · obtain rfl : k = xs.length := by omega
          go_wp2_with fail
          go_roundw
          case rel => exact ⟨i + 1, by omega, by go_num, bstep HBW.out HBK.out⟩
          case measure => (first | (simp [intOf]; done) | (simp [intOf]; omega))
    · obtain rfl : i = L.length := by omega
      obtain ⟨z, z1, z2, z3⟩ := (HM.out.below HBW.out).mark
      have e4 : ((L.length + 1 : Nat) : Int) = (L.length : Int) + 1 := by omega
      have e5 : ((L.length : Int) + 1).toNat = L.length + 1 := by omega
      have hc' : (L.length : Int) + 1 ≤ (cM : Int) := by omega
      go_wp2_with fail
      refine bodyPost_ret (v := .bool true) (by simp [results, Try.f15, go_sem]) rfl ⟨rfl, HBW.out⟩
end Go.Proofs.Ytehpjipmlpaflaa.un
