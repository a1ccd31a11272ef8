import Derived.Test.YtajkgecegefnmaaTa
namespace Go.Proofs.Ytajkgecegefnmaa
open Go.ChangeShapes Go.WideShapes Go.ChangeAt Go.RowKit Go.Deep
set_option linter.unusedSimpArgs false
set_option linter.unusedVariables false

set_option maxHeartbeats 2000000 in
theorem put_c (g : Nat) (v : Value) (bs : List Nat) (x : Nat) (w : World) (hW : WObj w g v bs) (hl : bs.length ≤ 8796093022208) (hx : x < 18446744073709551616) : Calls Try.prog 39 #[.pointer (some ⟨g, 0, none⟩), .int .u64 (x : Int)] w (fun e w' => ∃ u v', e = .returned u ∧ WObj w' g v' (bs ++ form x) ∧ WKeep g v w w' ∧ Near w v v') := by
  have HWh := hide hW
  clear hW
  go_enter Try.func39, Try.ntmps39
  go_wp2_with fail
  refine (Number_c g v bs x _ HWh.out hl hx).mono ?_
  rintro e w1 ⟨v1, rfl, hW1, hk1, hn1⟩
  go_wp2
  go_end0
  exact ⟨_, v1, rfl, hW1, hk1, hn1⟩

theorem eql72 (a b : Array Value) (w : World) : Sem.run Try.prog (binOp .eql 72 (.func (.func 39) a b) Value.nilFunc) w = .ok (.bool false) w := by kernel_rfl
def forms (l : List Nat) : List Nat := l.flatMap form
theorem forms_next (ns : List Nat) (j : Nat) (h : j < ns.length) : forms (ns.take (j + 1)) = forms (ns.take j) ++ form (ns.getD j 0) := by
  unfold forms
  rw [List.take_add_one, List.flatMap_append]
  simp [List.getD, h]
theorem forms_le (ns : List Nat) (hx : ∀ x ∈ ns, x < 18446744073709551616) : (forms ns).length ≤ 9 * ns.length := by
  unfold forms
  induction ns with
  | nil => simp
  | cons x xs ih =>
    have := ih (fun y hy => hx y (List.mem_cons_of_mem _ hy))
    have := form_le (hx x (List.mem_cons_self ..))
    rw [List.flatMap_cons, List.length_append, List.length_cons]; omega

set_option maxRecDepth 100000 in
set_option maxHeartbeats 2000000 in
theorem List64_c (g : Nat) (v : Value) (bs ns : List Nat) (b off cap : Nat) (w : World) (hW : WObj w g v bs) (hl : bs.length + 9 * (ns.length + 1) ≤ 8796093022208) (hm : 0 < ns.length) (hx : ∀ x ∈ ns, x < 18446744073709551616) (hb : ∀ j, j < ns.length → w.cell? ⟨b, off + j, none⟩ = some (.int .u64 (ns.getD j 0 : Int))) (hbz : b < w.heap.size) (hbg : b ≠ g) (hbv : some b ≠ v.ownBlock) : Calls Try.prog 38 #[.pointer (some ⟨g, 0, none⟩), .slice (some ⟨b, off, none⟩) ns.length cap, .func (.func 39) #[] #[]] w (fun e w' => ∃ v', e = .returned (.int .i64 0) ∧ WObj w' g v' (bs ++ (form ns.length ++ forms ns)) ∧ WKeep g v w w' ∧ Near w v v') := by
  have hxl : ns.length < 18446744073709551616 := by omega
  have hfl := form_le hxl
  have HWh := hide hW
  have Hb := hide hb
  have HX := hide hx
  clear hW hb hx
  have Q := eql72
  go_enter Try.func38, Try.ntmps38
  go_wp2_with fail
  refine (Number_c g v bs ns.length _ HWh.out (by omega) hxl).mono ?_
  rintro e w1 ⟨v1, rfl, hW1, hk1, hn1⟩
  have HW1 := hide hW1
  have hz1 : w.heap.size ≤ w1.heap.size := hk1.2.2.2.1
  have Hb1 := hide (show ∀ j, j < ns.length → w1.cell? ⟨b, off + j, none⟩ = some (.int .u64 (ns.getD j 0 : Int)) from fun j hj => (World.cell?_of_block (hk1.2.2.2.2 b hbz hbg hbv)).trans (Hb.out j hj))
  have hb1 : b < w1.heap.size := Nat.lt_of_lt_of_le hbz hz1
  clear hW1
  go_wp2_with fail
  refine (Clone64_c ns b off cap _ hm (by omega) Hb1.out hb1).mono ?_
  rintro e w2 ⟨g2, cap2, rfl, hg2, own2, hb2⟩
  obtain ⟨g2', cap2', hsl, _, hgl, _, hcl, _⟩ := own_form own2 hm
  cases hsl
  have HW2 := hide (HW1.out.below hb2)
  have HC := hide (show ∀ j, j < ns.length → w2.cell? ⟨g2, j, none⟩ = some (.int .u64 (ns.getD j 0 : Int)) from fun j hj => (hcl j hj).trans (by simp [List.getD, hj]))
  have hgw : g < w1.heap.size := HW1.out.1
  have hk2 : WKeep g v w w2 := hk1.trans hn1 (WKeep.of_below hb2)
  have hz2 : w1.heap.size ≤ w2.heap.size := hb2.size
  have hvo : ∀ k, v1.ownBlock = some k → k < w1.heap.size := fun k hk => (HW1.out.2.2.2.1.lt k hk).2
  have hgv : some g2 ≠ v1.ownBlock := fun e => by (have := hvo g2 e.symm; omega)
  have HK := hide hk2
  have HN := hide hn1
  have HV := hide hgv
  clear hk1 hk2 hn1 hgv hvo own2 hcl hb2
  go_wp2
  go_loopw [8, 23] (fun v8 v23 wr => ∃ (j : Nat) (v' : Value), j ≤ ns.length ∧ v23 = .int .i64 (j : Int) ∧ WObj wr g v' (bs ++ form ns.length ++ forms (ns.take j)) ∧ WKeep g v w wr ∧ Near w v v' ∧ some g2 ≠ v'.ownBlock ∧ g2 < wr.heap.size ∧ w2.heap.size ≤ wr.heap.size ∧ (∀ j, j < ns.length → wr.cell? ⟨g2, j, none⟩ = some (.int .u64 (ns.getD j 0 : Int)))) (fun _ v23 _ => ns.length - (intOf v23).toNat)
  case atStart => exact ⟨0, v1, Nat.zero_le _, rfl, by (have q := HW2.out; simpa [forms] using q), HK.out, HN.out, HV.out, hgl, Nat.le_refl _, HC.out⟩
  case round =>
    obtain ⟨j, v', hj, rfl, hWr, hkr, hnr, hvr, hgr, hzr, hcr⟩ := hrel
    have HWr := hide hWr
    have HKr := hide hkr
    have HNr := hide hnr
    have HVr := hide hvr
    have HCr := hide hcr
    clear hWr hkr hnr hvr hcr
    by_cases hlt : j < ns.length
    · have c1 := HCr.out j hlt
      have hlt' : (j : Int) < (ns.length : Int) := by omega
      have hnx := hide (forms_next ns j hlt)
      have hxj : ns.getD j 0 < 18446744073709551616 := HX.out _ (by (have e : ns.getD j 0 = ns[j] := by simp [List.getD, hlt]); rw [e]; exact List.getElem_mem hlt)
      have hfb : (forms (ns.take j)).length ≤ 9 * ns.length := by
        have q := forms_le (ns.take j) (fun x hx => HX.out x (List.mem_of_mem_take hx))
        rw [List.length_take] at q; omega
      generalize ns.getD j 0 = x at *
      go_wp2_with fail
      refine (put_c g v' (bs ++ form ns.length ++ forms (ns.take j)) x _ HWr.out (by simp only [List.length_append]; omega) hxj).mono ?_
      rintro e w5 ⟨u, v5, rfl, hW5, hk5, hn5⟩
      have hz5 : wr.heap.size ≤ w5.heap.size := hk5.2.2.2.1
      have hzw : w.heap.size ≤ wr.heap.size := by omega
      have g2g : g2 ≠ g := by omega
      go_wp2
      go_roundw
      case rel =>
        refine ⟨j + 1, v5, by omega, by go_num, ?_, HKr.out.trans HNr.out hk5, HNr.out.trans hzw hn5, ?_, by omega, by omega, fun i hi => ?_⟩
        · rw [hnx.out, ← List.append_assoc]; exact hW5
        · rcases hn5 with q | ⟨k, q, hk⟩
          · rw [q]; exact HVr.out
          · rw [q]; intro e; cases e; omega
        · exact (World.cell?_of_block (hk5.2.2.2.2 g2 hgr g2g HVr.out)).trans (HCr.out i hi)
      case measure => simp [intOf]; omega
    · have hjn : j = ns.length := by omega
      subst hjn
      have hle : ¬ ((ns.length : Int) < (ns.length : Int)) := by omega
      go_wp2
      go_ret
      have q := HWr.out
      rw [List.take_length, List.append_assoc] at q
      first | exact ⟨v', rfl, q, HKr.out, HNr.out⟩ | exact ⟨rfl, v', q, HKr.out, HNr.out⟩
end Go.Proofs.Ytajkgecegefnmaa
