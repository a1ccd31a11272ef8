import Derived.Maps.AppendAt
import Derived.Deep.AppendLies
import Derived.Laws.OwnMore
import Derived.Test.YtkdocoibfclfeaaTb
namespace Go.Proofs.Ytkdocoibfclfeaa
open Go.ChangeShapes Go.WideShapes Go.ChangeAt Go.RowKit Go.Deep Go.Maps Go.ChangeMaps Go.WideMaps
set_option linter.unusedSimpArgs false
set_option linter.unusedVariables false

theorem info2 : (Try.prog.info? 2).map (fun i => (i.zero, i.size, i.bytes)) = some (some (.int .i64 0), 1, 8) := by kernel_rfl
def hasV (A : List Acc) : List Value := A.map fun a => .int .i64 a.has
theorem hasV_len (A : List Acc) : (hasV A).length = A.length := by simp [hasV]
theorem hasV_at (A : List Acc) (k : Nat) (h : k < A.length) : (hasV A)[k]? = some (.int .i64 (accAt0 A k).has) := by
  unfold hasV; rw [List.getElem?_map, accAt0_get h]; rfl
theorem hasV_step (A : List Acc) (k : Nat) (h : k < A.length) : hasV (A.take (k + 1)) = hasV (A.take k) ++ [.int .i64 (accAt0 A k).has] := by
  rw [take_snocA A k h]; simp [hasV]
theorem cell_one_new' {w : World} {x : Value} {t : TypeId} {B : Nat} (h : B = w.heap.size) : ∀ j u, [x][j]? = some u → (w.alloc (.cells #[x] t)).cell? ((⟨B, 0, none⟩ : Addr).add j) = some u := by
  subst h; exact cell_one_new _ _ _
def HadsPost (A : List Acc) (w : World) (e : Ending) (w' : World) : Prop := ∃ ao cap, e = .returned (.slice ao A.length cap) ∧ w'.ownsRow w.heap.size 2 1 (.slice ao A.length cap) A.length (hasV A) ∧ Below w.heap.size w w'
set_option maxRecDepth 100000 in
set_option maxHeartbeats 4000000 in
theorem hads_c (I : Nat → Prop) (F : Fp) (S : LS) (w : World) (h : LObj I F S w) (hm : S.acc.length ≤ 99) : Calls Try.prog 9 #[.pointer (some ⟨F.b, 0, none⟩)] w (HadsPost S.acc w) := by
  obtain ⟨i0, hi0, hz0, hz1, hz2⟩ := info_parts info2
  have H := hide h
  clear h
  go_enter Try.func9, Try.ntmps9
  go_wp2_with fail
  refine (Len_c I F S _ H.out).mono ?_
  rintro e w1 ⟨rfl, hb1⟩
  have HB1 := hide hb1
  clear hb1
  go_wp2
  go_loopw [5, 6] (fun v5 v6 wr => ∃ k : Nat, k ≤ S.acc.length ∧ v6 = .int .i64 (k : Int) ∧ wr.ownsRow w.heap.size 2 1 v5 k (hasV (S.acc.take k)) ∧ Below w.heap.size w wr) (fun _ v6 _ => S.acc.length - (intOf v6).toNat)
  case atStart => exact ⟨0, Nat.zero_le _, rfl, World.ownsRow_nil _ _ _ _, HB1.out⟩
  case round =>
    obtain ⟨k, hk, rfl, hown, hbw⟩ := hrel
    obtain ⟨ao, cap, rfl⟩ := own_any hown
    have HO := hide hown
    have HBW := hide hbw
    clear hown hbw
    by_cases hlt : k < S.acc.length
    · have HOB := hide (H.out.below HBW.out)
      have hl2 : (k : Int) < (S.acc.length : Int) := by omega
      have hl3 : (k : Int) < 100 := by omega
      obtain ⟨a, ha⟩ : ∃ a, a = accAt0 S.acc k := ⟨_, rfl⟩
      have HG := hide (show S.acc[k]? = some a by rw [ha]; exact accAt0_get hlt)
      have HA := hide ha
      have ONE := hide (show ∀ u ∈ [Value.int .i64 a.has], u.oneCell' = true from fun u hu => by simp at hu; subst hu; rfl)
      clear ha
      go_wp2_with fail
      refine (Account_yes I F S k a _ HOB.out HG.out (by omega)).mono ?_
      rintro e w2 ⟨rfl, hb2⟩
      have hb3 : Below wr.heap.size wr (w2.alloc (.cells #[.string a.name, .int .i64 a.least, .int .i64 a.has] 70)) := hb2.trans ((Below.refl _ _).alloc hb2.size _)
      have HB3 := hide (bstep HBW.out hb3)
      have HO3 := hide (own_stays HO.out (fun q hq => hb3.block q (HO.out.lt q hq).2))
      have hz3 := HB3.out.size
      simp only [World.size_alloc] at hz3
      clear hb2 hb3
      go_wp2_with (at_builtin; refine wpList_append_own _ rfl _ _ 30 rfl w.heap.size 2 i0 (.int .i64 0) 1 8 Try.underlying30 hi0 hz0 hz1 hz2 rfl (by decide) _ _ _ rfl (HO3.out.alloc _) ⟨w2.heap.size + 1, 0, none⟩ 1 1 [.int .i64 a.has] rfl rfl (cell_one_new' (by simp)) ONE.out (by unfold maxLen; omega) (by omega) (by simp; omega) ?_; intro v' w4 own4 hg4 _; obtain ⟨ao4, cap4, rfl⟩ := own_any own4; have HO4 := hide own4; have HG4 := hide hg4; clear own4 hg4)
      go_roundw
      case rel =>
        refine ⟨k + 1, by omega, by go_num, ?_, ?_⟩
        · rw [hasV_step _ _ hlt, ← HA.out]; exact HO4.out
        · exact (HB3.out.alloc (by simp; omega) _).grown HG4.out (by simp; omega) (fun q hq => (HO3.out.lt q hq).1)
      case measure => simp [intOf]; omega
    · obtain rfl : k = S.acc.length := by omega
      go_wp2
      refine bodyPost_ret (v := .slice ao S.acc.length cap) (by simp [results, Try.f9, go_sem]) rfl ⟨ao, cap, rfl, ?_, HBW.out⟩
      have q := HO.out
      rw [List.take_length] at q
      exact q
theorem own_cell {w : World} {B n cap : Nat} {ao : Option Addr} {xs : List Value} (h : w.ownsRow B 2 1 (.slice ao n cap) n xs) {k : Nat} (hk : k < n) : ∃ g, ao = some ⟨g, 0, none⟩ ∧ w.cell? ⟨g, k, none⟩ = xs[k]? := by
  obtain ⟨g, c, hv, _, _⟩ := h.form (by omega)
  obtain ⟨rfl, rfl⟩ : ao = some ⟨g, 0, none⟩ ∧ c = cap := by (injection hv with e1 e2 e3; exact ⟨e1, e3.symm⟩)
  exact ⟨g, rfl, h.cellAt k (by omega)⟩
set_option maxRecDepth 100000 in
set_option maxHeartbeats 2000000 in
theorem sameHads_c (A : List Acc) (ao bo : Option Addr) (ca cb B1 B2 : Nat) (w : World) (h1 : w.ownsRow B1 2 1 (.slice ao A.length ca) A.length (hasV A)) (h2 : w.ownsRow B2 2 1 (.slice bo A.length cb) A.length (hasV A)) (hm : A.length ≤ 65536) : Calls Try.prog 13 #[.slice ao A.length ca, .slice bo A.length cb] w fun e w' => e = .returned (.bool true) ∧ Below w.heap.size w w' := by
  have H1 := hide h1
  have H2 := hide h2
  have q1 : decide ((A.length : Int) = (A.length : Int)) = true := by simp
  have q2 : ((A.length : Int) == (A.length : Int)) = true := by simp
  have q3 : ((A.length : Int) != (A.length : Int)) = false := by simp
  clear h1 h2
  go_enter Try.func13, Try.ntmps13
  go_wp2_with fail
  go_loopw [5] (fun v5 wr => ∃ k : Nat, k ≤ A.length ∧ v5 = .int .i64 (k : Int) ∧ Below w.heap.size w wr) (fun v5 _ => A.length - (intOf v5).toNat)
  case atStart => exact ⟨0, Nat.zero_le _, rfl, Below.refl _ _⟩
  case round =>
    obtain ⟨k, hk, rfl, hbw⟩ := hrel
    have HBW := hide hbw
    have hk0 : (0 : Int) ≤ (k : Int) := by omega
    clear hbw
    by_cases hlt : k < A.length
    · have hlt' : (k : Int) < (A.length : Int) := by omega
      obtain ⟨g1, rfl, c1⟩ := own_cell H1.out hlt
      obtain ⟨g2, rfl, c2⟩ := own_cell H2.out hlt
      rw [hasV_at A k hlt] at c1 c2
      have c1 := cell_stay c1 (HBW.out.block _ (World.block_lt_of_cell? w _ c1))
      have c2 := cell_stay c2 (HBW.out.block _ (World.block_lt_of_cell? w _ c2))
      obtain ⟨x, hx⟩ : ∃ x, x = (accAt0 A k).has := ⟨_, rfl⟩
      rw [← hx] at c1 c2
      have d1 : decide (x = x) = true := by simp
      have d2 : (x == x) = true := by simp
      have d3 : (x != x) = false := by simp
      clear hx
      go_wp2_with fail
      go_quiet (fail)
      go_wp2_with fail
      go_roundw
      case rel => exact ⟨k + 1, by omega, by go_num, by (have := HBW.out; (focus repeat' (first | (with_reducible exact Below.refl _ _) | (with_reducible assumption) | (with_reducible refine Below.alloc ?_ ?_ _) | (with_reducible refine Below.drew ?_) | (with_reducible refine bdrewN ?_ _) | (with_reducible refine Below.setCell ?_ ?_ _) | (first | (with_reducible exact Nat.le_refl _) | (with_reducible assumption) | omega | (simp; omega) | (simp; done)))))⟩
      case measure => (first | (simp [intOf]; done) | (simp [intOf]; omega))
    · obtain rfl : k = A.length := by omega
      go_wp2
      refine bodyPost_ret (v := .bool true) (by simp [results, Try.f13, go_sem]) rfl ⟨rfl, by (have := HBW.out; (focus repeat' (first | (with_reducible exact Below.refl _ _) | (with_reducible assumption) | (with_reducible refine Below.alloc ?_ ?_ _) | (with_reducible refine Below.drew ?_) | (with_reducible refine bdrewN ?_ _) | (with_reducible refine Below.setCell ?_ ?_ _) | (first | (with_reducible exact Nat.le_refl _) | (with_reducible assumption) | omega | (simp; omega) | (simp; done)))))⟩
end Go.Proofs.Ytkdocoibfclfeaa
