import Derived.Deep.AppendLies
import Derived.Test.YtajkgecegefnmaaTu
namespace Go.Proofs.Ytajkgecegefnmaa
open Go.ChangeShapes Go.WideShapes Go.ChangeAt Go.RowKit Go.Deep
set_option linter.unusedSimpArgs false
set_option linter.unusedVariables false

theorem own_one (w : World) (e : TypeId) (base : Nat) (x : Value) (h : base ≤ w.heap.size) : (w.alloc (.cells #[x] e)).ownsRow base e 1 (.slice (some ⟨w.heap.size, 0, none⟩) 1 1) 1 [x] :=
  ⟨rfl, .inr ⟨_, 1, #[x], rfl, h, heap_new _ _, Nat.le_refl _, by unfold maxLen; omega, rfl, rfl⟩⟩
theorem own_cells {w : World} {base g cap n : Nat} {e : TypeId} {xs : List Value} (own : w.ownsRow base e 1 (.slice (some ⟨g, 0, none⟩) n cap) n xs) : ∀ j u, xs[j]? = some u → w.cell? ((⟨g, 0, none⟩ : Addr).add j) = some u := by
  intro j u hj
  have hlt : j < xs.length := (List.getElem?_eq_some_iff.1 hj).1
  have hx : xs.length = n := by have := own.1; omega
  obtain ⟨g', cap', hv, _, _, _, hcl, _⟩ := own_form own (by omega)
  have e : g = g' := by (injection hv with e1 e2 e3; injection e1 with e1; injection e1 with e4)
  subst e
  have ha : (⟨g, 0, none⟩ : Addr).add j = ⟨g, j, none⟩ := by
    unfold Addr.add
    split
    · (rename_i h; subst h; rfl)
    · simp
  rw [ha, hcl j (by omega), hj]
theorem u8_one (l : List Nat) : ∀ u ∈ l.map (fun (b : Nat) => Value.int .u8 (b : Int)), u.oneCell' = true := fun u hu => by obtain ⟨x, _, rfl⟩ := List.mem_map.1 hu; rfl
theorem below_grown {W w w' : World} {base : Nat} {row : Option Nat} (h : Below base W w) (hg : w.grownBy w' row) (hr : ∀ k, row = some k → base ≤ k) (hs : base ≤ w.heap.size) : Below base W w' :=
  h.trans ⟨hg.os, hg.tape, hg.output, hg.size, fun i hi => hg.block i (by omega) (fun e => by have := hr i e.symm; omega)⟩
theorem many_div (X : Nat) (j : Nat) (h : X / 256 ^ j ≤ 255) (h2 : ∀ i, i < j → 255 < X / 256 ^ i) : many X = j + 1 := by
  induction j generalizing X with
  | zero => rw [many, dif_pos (by simp at h; omega)]
  | succ j ih =>
    have h0 := h2 0 (by omega)
    simp at h0
    rw [many, dif_neg (by omega), ih (X / 256) (by rw [Nat.div_div_eq_div_mul, ← Nat.pow_succ']; exact h) (fun i hi => by rw [Nat.div_div_eq_div_mul, ← Nat.pow_succ']; exact h2 (i + 1) (by omega))]
    omega

set_option maxRecDepth 100000 in
set_option maxHeartbeats 2000000 in
theorem refBytes_c (x : Nat) (w : World) (hx : x < 18446744073709551616) : Calls Try.prog 51 #[.int .u64 (x : Int)] w (fun e w' => ∃ g cap, e = .returned (.slice (some ⟨g, 0, none⟩) (hi (many x) x).length cap) ∧ w'.ownsRow w.heap.size 5 1 (.slice (some ⟨g, 0, none⟩) (hi (many x) x).length cap) (hi (many x) x).length ((hi (many x) x).map (fun (b : Nat) => Value.int .u8 (b : Int))) ∧ Below w.heap.size w w') := by
  obtain ⟨i0, hi0, hz0, hz1, hz2⟩ := info_parts info5
  have HX := hide hx
  have Hone := hide (own_one w 5 w.heap.size (.int .u8 ((x % 256 : Nat) : Int)) (Nat.le_refl _))
  clear hx
  go_enter Try.func51, Try.ntmps51
  go_wp2
  go_loopw [0, 3] (fun v0 v3 wr => ∃ (j g cap : Nat), v0 = .int .u64 ((x / 256 ^ j : Nat) : Int) ∧ v3 = .slice (some ⟨g, 0, none⟩) (j + 1) cap ∧ (∀ i, i < j → 255 < x / 256 ^ i) ∧ wr.ownsRow w.heap.size 5 1 (.slice (some ⟨g, 0, none⟩) (j + 1) cap) (j + 1) ((hi (j + 1) x).map (fun (b : Nat) => Value.int .u8 (b : Int))) ∧ Below w.heap.size w wr) (fun v0 _ _ => (intOf v0).toNat)
  case atStart => exact ⟨0, w.heap.size, 1, by simp, rfl, fun i hi => by omega, by (have q := Hone.out; simpa [hi] using q), by (focus repeat' (first | (with_reducible exact Below.refl _ _) | (with_reducible assumption) | (with_reducible refine Below.alloc ?_ ?_ _) | (with_reducible refine Below.drew ?_) | (with_reducible refine bdrewN ?_ _) | (with_reducible refine Below.setCell ?_ ?_ _) | (first | (with_reducible exact Nat.le_refl _) | (with_reducible assumption) | omega | (simp; omega) | (simp; done))))⟩
  case round =>
    obtain ⟨j, g, cap, rfl, rfl, hj, hown, hB⟩ := hrel
    have HJ := hide hj
    have HOW := hide hown
    have HB := hide hB
    clear hj hown hB
    by_cases hlt : 255 < x / 256 ^ j
    · have hj7 : j < 7 := by
        rcases Nat.lt_or_ge j 7 with h | h
        · exact h
        · have p : 256 ^ 7 ≤ 256 ^ j := Nat.pow_le_pow_right (by decide) h
          have q : x / 256 ^ j ≤ x / 256 ^ 7 := Nat.div_le_div_left p (by decide)
          have p7 : (256 : Nat) ^ 7 = 72057594037927936 := by decide
          rw [p7] at q
          have := HX.out
          omega
      have hdiv : x / 256 ^ (j + 1) = x / 256 ^ j / 256 := by rw [Nat.pow_succ, Nat.div_div_eq_div_mul]
      have HD := hide hdiv
      have hnx : hi (j + 1 + 1) x = (x / 256 ^ j / 256 % 256) :: hi (j + 1) x := by rw [← hdiv]; rfl
      have HN := hide hnx
      clear hdiv hnx
      have hy64 : x / 256 ^ j < 18446744073709551616 := Nat.lt_of_le_of_lt (Nat.div_le_self _ _) HX.out
      generalize hy : x / 256 ^ j = y at *
      have hy' : (255 : Int) < (y : Int) := by omega
      have HY := hide hy
      clear hy
      have HB2 := hide HB.out.size
      go_wp2_with (at_builtin; refine wpList_append_lies _ rfl (.tmp 15) (.tmp 16) 28 rfl w.heap.size 5 i0 (.int .u8 0) 1 1 Try.underlying28 hi0 hz0 hz1 hz2 rfl (by decide) (.slice (some ⟨wr.heap.size, 0, none⟩) 1 1) 1 [.int .u8 _] rfl (own_one wr 5 w.heap.size (.int .u8 _) HB2.out) ⟨g, 0, none⟩ (j + 1) cap ((hi (j + 1) x).map (fun (b : Nat) => Value.int .u8 (b : Int))) rfl (by simp [hi_length]) (own_cells (HOW.out.alloc _)) (u8_one _) (by omega) (by unfold maxLen; omega) (by omega) (by (simp; have := HB2.out; omega)) _ rfl ?_; intro g2 cap2 wn hown2 hg2 hgg hgl)
      go_roundw
      case rel =>
        have hgk : ∀ k, (Value.slice (some ⟨wr.heap.size, 0, none⟩) 1 1).ownBlock = some k → w.heap.size ≤ k := fun k hk => by
          have e : wr.heap.size = k := Option.some.inj hk
          have := HB2.out
          omega
        refine ⟨j + 1, g2, cap2, by (rw [HD.out]; first | rfl | (simp; done)), by (rw [Nat.add_comm 1]), fun i hi => ?_, ?_, ?_⟩
        · rcases Nat.lt_or_ge i j with h | h
          · exact HJ.out i h
          · obtain rfl : i = j := by omega
            rw [HY.out]; exact hlt
        · rw [HN.out, List.map_cons]
          have q := hown2
          rw [Nat.add_comm 1] at q
          simpa using q
        · exact below_grown (Below.alloc HB.out HB2.out _) hg2 hgk (by (simp; have := HB2.out; omega))
      case measure => (simp [intOf]; omega)
    · have hle : ¬ ((255 : Int) < ((x / 256 ^ j : Nat) : Int)) := by omega
      have hm := many_div x j (by omega) HJ.out
      have Hm := hide hm
      clear hm
      generalize hy : x / 256 ^ j = y at *
      go_wp2
      go_ret
      refine ⟨g, cap, ?_, ?_, HB.out⟩
      · rw [hi_length, Hm.out]; rfl
      · rw [hi_length, Hm.out]; exact HOW.out
end Go.Proofs.Ytajkgecegefnmaa
