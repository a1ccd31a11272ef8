import Derived.StillTailTactics
import Derived.Maps.AppendAt
import Derived.Deep.AppendLies
import Derived.Laws.OwnMore
import Derived.Test.YtkdocoibfclfeaaTa
namespace Go.Proofs.Ytkdocoibfclfeaa
open Go.ChangeShapes Go.WideShapes Go.ChangeAt Go.RowKit Go.Deep Go.Maps Go.ChangeMaps Go.WideMaps
set_option linter.unusedSimpArgs false
set_option linter.unusedVariables false

def accAt0 (A : List Acc) (i : Nat) : Acc := A.getD i ⟨ByteArray.empty, 0, 0⟩
def flatA (A : List Acc) : List Value := A.flatMap fun a => [.string a.name, .int .i64 a.least, .int .i64 a.has]
theorem flatA_cons (a : Acc) (A : List Acc) : flatA (a :: A) = .string a.name :: .int .i64 a.least :: .int .i64 a.has :: flatA A := rfl
theorem flatA_len (A : List Acc) : (flatA A).length = A.length * 3 := by
  induction A with
  | nil => rfl
  | cons x r ih => rw [flatA_cons]; simp only [List.length_cons, ih]; omega
theorem flatA_at (A : List Acc) : ∀ i, i < A.length → (flatA A)[i * 3]? = some (.string (accAt0 A i).name) ∧ (flatA A)[i * 3 + 1]? = some (.int .i64 (accAt0 A i).least) ∧ (flatA A)[i * 3 + 2]? = some (.int .i64 (accAt0 A i).has) := by
  induction A with
  | nil => intro i h; simp at h
  | cons x r ih =>
    intro i h
    rcases i with _ | i
    · exact ⟨rfl, rfl, rfl⟩
    · have e : (i + 1) * 3 = i * 3 + 1 + 1 + 1 := by omega
      rw [flatA_cons, e]
      simp only [List.getElem?_cons_succ]
      exact ih i (by simpa using h)
theorem accAt0_get {A : List Acc} {i : Nat} (h : i < A.length) : A[i]? = some (accAt0 A i) := by
  unfold accAt0; rw [List.getD_eq_getElem?_getD, List.getElem?_eq_getElem h]; rfl
theorem flatA_snoc (A : List Acc) (a : Acc) : flatA (A ++ [a]) = flatA A ++ [.string a.name, .int .i64 a.least, .int .i64 a.has] := by simp [flatA]
theorem take_snocA (A : List Acc) (k : Nat) (h : k < A.length) : A.take (k + 1) = A.take k ++ [accAt0 A k] := by
  rw [List.take_succ_eq_append_getElem h]; unfold accAt0; rw [List.getD_eq_getElem?_getD, List.getElem?_eq_getElem h]; rfl
/-- three cells more are written -/
theorem fill3 {xs : List Value} {A : List Acc} {k : Nat} (hk : k < A.length) (hl : xs.length = A.length * 3) (ht : xs.take (k * 3) = flatA (A.take k)) :
    (((xs.set (k * 3) (.string (accAt0 A k).name)).set (k * 3 + 1) (.int .i64 (accAt0 A k).least)).set (k * 3 + 2) (.int .i64 (accAt0 A k).has)).take ((k + 1) * 3) = flatA (A.take (k + 1)) := by
  rw [take_snocA A k hk, flatA_snoc, ← ht]
  apply List.ext_getElem?
  intro i
  have hlen : (xs.take (k * 3)).length = k * 3 := by rw [List.length_take]; omega
  rcases Nat.lt_or_ge i ((k + 1) * 3) with hi | hi
  · rw [List.getElem?_take_of_lt hi]
    rcases Nat.lt_or_ge i (k * 3) with h2 | h2
    · rw [List.getElem?_append_left (by omega), List.getElem?_take_of_lt h2, List.getElem?_set_ne (by omega), List.getElem?_set_ne (by omega), List.getElem?_set_ne (by omega)]
    · rw [List.getElem?_append_right (by omega), hlen]
      rcases (by omega : i = k * 3 ∨ i = k * 3 + 1 ∨ i = k * 3 + 2) with rfl | rfl | rfl
      · rw [List.getElem?_set_ne (by omega), List.getElem?_set_ne (by omega), List.getElem?_set_self (by omega)]; simp
      · rw [List.getElem?_set_ne (by omega), List.getElem?_set_self (by simp; omega)]; simp
      · rw [List.getElem?_set_self (by simp; omega)]
        rw [show k * 3 + 2 - k * 3 = 2 by omega]; rfl
  · rw [List.getElem?_eq_none (by rw [List.length_take]; omega), List.getElem?_eq_none (by rw [List.length_append, hlen]; simp; omega)]
theorem info70 : (Try.prog.info? 70).map (fun i => (i.zero, i.size, i.bytes)) = some (some (.agg #[.string ⟨#[]⟩, .int .i64 0, .int .i64 0]), 3, 32) := by kernel_rfl
/-- an iterator over accounts, made -/
structure AccIt (B : Nat) (A : List Acc) (Bx g : Nat) (w : World) : Prop where
  lb : B ≤ Bx
  lg : B ≤ g
  ne : Bx ≠ g
  c : w.cell? ⟨Bx, 0, none⟩ = some (.slice (some ⟨g, 0, none⟩) A.length A.length)
  own : w.ownsRow B 70 3 (.slice (some ⟨g, 0, none⟩) A.length A.length) A.length (flatA A)
set_option maxRecDepth 100000 in
set_option maxHeartbeats 4000000 in
theorem Accounts_c (I : Nat → Prop) (F : Fp) (S : LS) (w : World) (h : LObj I F S w) (hm : S.acc.length ≤ 65536) : Calls Try.prog 29 #[.pointer (some ⟨F.b, 0, none⟩)] w (fun e w' => ∃ Bx g, e = .returned (.func (.func 53) #[] #[.pointer (some ⟨Bx, 0, none⟩)]) ∧ AccIt w.heap.size S.acc Bx g w' ∧ Below w.heap.size w w') := by
  obtain ⟨i0, hi0, hz0, hz1, hz2⟩ := info_parts info70
  have H := hide h
  have hbz := h.lt (.inl rfl)
  clear h
  go_enter Try.func29, Try.ntmps29
  go_wp2_with fail
  refine (Len_c I F S _ H.out).mono ?_
  rintro e w1 ⟨rfl, hb1⟩
  obtain ⟨wm, hrun, hown0, hgr0⟩ := run_make_full (P := Try.prog) w1 w.heap.size 117 70 i0 _ 3 Try.underlying117 hi0 hz0 hz1 .i64 .i64 S.acc.length (by rw [hz2]; omega) (by unfold maxLen; omega) hb1.size
  have hrun' : Sem.run Try.prog (Instr.makeSlice 117 (Value.int IntKind.i64 (S.acc.length : Int)) (Value.int IntKind.i64 (S.acc.length : Int))) w1 = .ok (.slice (some ⟨w1.heap.size, 0, none⟩) S.acc.length S.acc.length) wm := hrun
  have HOW0 := hide hown0
  have HBM := hide (show Below w.heap.size w wm from hb1.grown hgr0 hb1.size (fun k e => by cases e))
  have hzm : w1.heap.size < wm.heap.size := (hown0.lt _ rfl).2
  have hz1' := hb1.size
  have HZ := hide (And.intro hz1' hzm)
  clear hrun hown0 hgr0 hb1
  go_wp2
  go_loopw [16] (fun v16 wr => ∃ (k : Nat) (xs : List Value), k ≤ S.acc.length ∧ v16 = .int .i64 (k : Int) ∧ wr.cell? ⟨wm.heap.size, 0, none⟩ = some (.slice (some ⟨w1.heap.size, 0, none⟩) S.acc.length S.acc.length) ∧ wr.ownsRow w.heap.size 70 3 (.slice (some ⟨w1.heap.size, 0, none⟩) S.acc.length S.acc.length) S.acc.length xs ∧ xs.take (k * 3) = flatA (S.acc.take k) ∧ Below w.heap.size w wr) (fun v16 _ => S.acc.length - (intOf v16).toNat)
  case atStart => exact ⟨0, _, Nat.zero_le _, rfl, by simp [go_sem], HOW0.out.alloc _, by simp; rfl, HBM.out.alloc HBM.out.size _⟩
  case round =>
    obtain ⟨k, xs, hk, rfl, hcb, hown, htk, hbw⟩ := hrel
    have HCB := hide hcb
    have HO := hide hown
    have HT := hide htk
    have HBW := hide hbw
    clear hown htk hbw
    by_cases hlt : k < S.acc.length
    · have HOB := hide (H.out.below HBW.out)
      have hxl := HO.out.1
      have n0 : (0 : Int) ≤ (k : Int) := by omega
      have n1 : (k : Int) < (S.acc.length : Int) := by omega
      have b1 : wr.cell? ⟨F.b, 1, none⟩ = some (.map (some F.m)) := HOB.out.b1
      obtain ⟨a, ha⟩ : ∃ a, a = accAt0 S.acc k := ⟨_, rfl⟩
      have hget : S.acc[k]? = some a := by rw [ha]; exact accAt0_get hlt
      have ql := acc_look (w := wr.drew) (HOB.out.mm.stays (Nat.le_refl _) rfl) (show k < 9223372036854775808 by omega) hget
      have c0 : ∃ u, wr.cell? ⟨w1.heap.size, k * 3, none⟩ = some u := by
        rw [HO.out.cellAt (k * 3) (by omega), List.getElem?_eq_getElem (by omega)]; exact ⟨_, rfl⟩
      have c1 : ∃ u, wr.cell? ⟨w1.heap.size, k * 3 + 1, none⟩ = some u := by
        rw [HO.out.cellAt (k * 3 + 1) (by omega), List.getElem?_eq_getElem (by omega)]; exact ⟨_, rfl⟩
      have c2 : ∃ u, wr.cell? ⟨w1.heap.size, k * 3 + 2, none⟩ = some u := by
        rw [HO.out.cellAt (k * 3 + 2) (by omega), List.getElem?_eq_getElem (by omega)]; exact ⟨_, rfl⟩
      obtain ⟨u0, c0⟩ := c0
      obtain ⟨u1, c1⟩ := c1
      obtain ⟨u2, c2⟩ := c2
      have f0 := HO.out.frozenAt (k * 3)
      have f1 := HO.out.frozenAt (k * 3 + 1)
      have f2 := HO.out.frozenAt (k * 3 + 2)
      have HA := hide ha
      clear ha hxl hget
      go_wp2
      go_still_tail 9, (by kernel_rfl)
      obtain ⟨wd, hwd⟩ : ∃ wd : World, wd = ({ heap := wr.heap, tape := wr.tape, drawn := wr.drawn + 1, os := wr.os, output := wr.output } : World) := ⟨_, rfl⟩
      have d0 : wd.cell? ⟨w1.heap.size, k * 3, none⟩ = some u0 := by rw [hwd]; exact c0
      have d1 : wd.cell? ⟨w1.heap.size, k * 3 + 1, none⟩ = some u1 := by rw [hwd]; exact c1
      have d2 : wd.cell? ⟨w1.heap.size, k * 3 + 2, none⟩ = some u2 := by rw [hwd]; exact c2
      have e0 : wd.frozen? ⟨w1.heap.size, k * 3, none⟩ = false := by rw [hwd]; exact f0
      have e1 : wd.frozen? ⟨w1.heap.size, k * 3 + 1, none⟩ = false := by rw [hwd]; exact f1
      have e2 : wd.frozen? ⟨w1.heap.size, k * 3 + 2, none⟩ = false := by rw [hwd]; exact f2
      have HWO := hide (show wd.ownsRow w.heap.size 70 3 (.slice (some ⟨w1.heap.size, 0, none⟩) S.acc.length S.acc.length) S.acc.length xs from by rw [hwd]; exact HO.out)
      have HWB := hide (show Below w.heap.size w wd from by rw [hwd]; exact HBW.out.drew)
      have HWC := hide (show wd.cell? ⟨wm.heap.size, 0, none⟩ = some (.slice (some ⟨w1.heap.size, 0, none⟩) S.acc.length S.acc.length) from by rw [hwd]; exact HCB.out)
      rw [← hwd]
      clear hwd c0 c1 c2 f0 f1 f2 ql b1 hcb
      go_wp2
      go_roundw
      case rel =>
        have s0 := HWO.out.stored (k * 3) (.string a.name)
        have s1 := s0.1.stored (k * 3 + 1) (.int .i64 a.least)
        have s2 := s1.1.stored (k * 3 + 2) (.int .i64 a.has)
        refine ⟨k + 1, _, by omega, by go_num, ?_, s2.1, ?_, ?_⟩
        · have hz := HZ.out.2
          have hne : wm.heap.size ≠ w1.heap.size := by omega
          exact cell_stay (cell_stay (cell_stay HWC.out (heap_setCell_other wd ⟨w1.heap.size, k * 3, none⟩ _ _ hne)) (heap_setCell_other _ ⟨w1.heap.size, k * 3 + 1, none⟩ _ _ hne)) (heap_setCell_other _ ⟨w1.heap.size, k * 3 + 2, none⟩ _ _ hne)
        · rw [HA.out]
          exact fill3 hlt HO.out.1 HT.out
        · exact ((HWB.out.setCell (p := ⟨w1.heap.size, k * 3, none⟩) HZ.out.1 _).setCell (p := ⟨w1.heap.size, k * 3 + 1, none⟩) HZ.out.1 _).setCell (p := ⟨w1.heap.size, k * 3 + 2, none⟩) HZ.out.1 _
      case measure => simp [intOf]; omega
    · have hke : k = S.acc.length := by omega
      have HKE := hide hke
      clear hke
      go_wp2
      refine bodyPost_ret (v := .func (.func 53) #[] #[.pointer (some ⟨wm.heap.size, 0, none⟩)]) (by simp [results, Try.f29, go_sem]) rfl ⟨_, _, rfl, ⟨?_, HZ.out.1, ?_, HCB.out, ?_⟩, HBW.out⟩
      · have := HZ.out; omega
      · have := HZ.out; omega
      · have hx : xs = flatA S.acc := by
          have := HT.out
          rw [HKE.out, List.take_length, List.take_of_length_le (by have := HO.out.1; omega)] at this
          exact this
        rw [← hx]
        exact HO.out
set_option maxRecDepth 100000 in
set_option maxHeartbeats 2000000 in
theorem Accounts_none (pv : Option Addr) (w : World) (hlen : Calls Try.prog 25 #[.pointer pv] w fun e w' => e = .returned (.tuple #[.int .i64 0, .int .i64 0]) ∧ w = w') : Calls Try.prog 29 #[.pointer pv] w (fun e w' => ∃ Bx g, e = .returned (.func (.func 53) #[] #[.pointer (some ⟨Bx, 0, none⟩)]) ∧ AccIt w.heap.size [] Bx g w' ∧ Below w.heap.size w w') := by
  obtain ⟨i0, hi0, hz0, hz1, hz2⟩ := info_parts info70
  obtain ⟨wm, hrun, hown0, hgr0⟩ := run_make_full (P := Try.prog) w w.heap.size 117 70 i0 _ 3 Try.underlying117 hi0 hz0 hz1 .i64 .i64 0 (by omega) (by unfold maxLen; omega) (Nat.le_refl _)
  have hrun' : Sem.run Try.prog (Instr.makeSlice 117 (Value.int IntKind.i64 0) (Value.int IntKind.i64 0)) w = .ok (.slice (some ⟨w.heap.size, 0, none⟩) 0 0) wm := hrun
  have HOW0 := hide hown0
  have HBM := hide (show Below w.heap.size w wm from (Below.refl _ _).grown hgr0 (Nat.le_refl _) (fun k e => by cases e))
  have hzm : w.heap.size < wm.heap.size := (hown0.lt _ rfl).2
  have HL := hide hlen
  clear hrun hown0 hgr0 hlen
  go_enter Try.func29, Try.ntmps29
  go_wp2_with fail
  refine HL.out.mono ?_
  rintro e w1 ⟨rfl, rfl⟩
  go_wp2
  refine wp_loop_rounds 1 ?_
  rw [rounds_succ]
  go_wp2
  refine bodyPost_ret (v := .func (.func 53) #[] #[.pointer (some ⟨wm.heap.size, 0, none⟩)]) (by simp [results, Try.f29, go_sem]) rfl ⟨_, w.heap.size, rfl, ⟨by omega, Nat.le_refl _, by omega, by simp [go_sem], ?_⟩, HBM.out.alloc HBM.out.size _⟩
  have hx := List.length_eq_zero_iff.1 (HOW0.out.1.trans (Nat.zero_mul 3))
  have q := HOW0.out
  rw [hx] at q
  exact (own_stays q (fun k hk => Below.heap_alloc _ _ _ (q.lt k hk).2))
end Go.Proofs.Ytkdocoibfclfeaa
