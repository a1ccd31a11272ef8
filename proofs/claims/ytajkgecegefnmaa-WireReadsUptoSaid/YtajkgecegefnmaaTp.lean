import Derived.Deep.AppendLies
import Derived.Test.YtajkgecegefnmaaTo
namespace Go.Proofs.Ytajkgecegefnmaa
open Go.ChangeShapes Go.WideShapes Go.ChangeAt Go.RowKit Go.Deep
set_option linter.unusedSimpArgs false
set_option linter.unusedVariables false

theorem far_block {w wn : World} {o : Obj} {row : Option Nat} (hg : (w.alloc o).grownBy wn row) {b : Nat} (hb : b < w.heap.size) (hn : some b ≠ row) : wn.heap[b]? = w.heap[b]? :=
  (hg.block b (by simp; omega) hn).trans (Below.heap_alloc w o b hb)
/-- what 'take', 'word' answer -/
def RU (ns : List Nat) (a : Nat) : Value × Nat × Nat := (.int .u64 ((rd ns a).1 : Int), (rd ns a).2.1, (rd ns a).2.2)
theorem eql73 (a b : Array Value) (w : World) : Sem.run Try.prog (binOp .eql 73 (.func (.func 46) a b) Value.nilFunc) w = .ok (.bool false) w := by kernel_rfl
theorem one_U (ns : List Nat) (a : Nat) : (RU ns a).1.oneCell' = true := rfl

set_option maxRecDepth 100000 in
set_option maxHeartbeats 1000000 in
theorem elt_U (g B : Nat) (ns : List Nat) (a : Nat) (w : World) (hR : RAny w g B ns a) : Calls Try.prog 46 #[.pointer (some ⟨g, 0, none⟩)] w (fun e w' => e = .returned (.tuple #[.int .u64 ((rd ns a).1 : Int), .int .i64 ((rd ns a).2.1 : Int)]) ∧ Only g w w' ∧ RAny w' g B ns (rd ns a).2.2) := by
  go_enter Try.func46, Try.ntmps46
  go_wp2_with fail
  refine (RNum_any g B ns a _ hR).mono ?_
  rintro e w1 ⟨rfl, ho1, hR1⟩
  have HR1 := hide hR1
  clear hR hR1
  go_wp2
  go_ret2
  exact ⟨rfl, ho1, HR1.out⟩
theorem place_U (ns : List Nat) (a : Nat) (h : (RU ns a).2.1 = 0) : a + 1 ≤ (RU ns a).2.2 := rd_grows ns a h

set_option maxRecDepth 100000 in
set_option maxHeartbeats 1000000 in
theorem tk_U_neg (g B B0 Br Bm Bt Bo bb : Nat) (ns : List Nat) (a : Nat) (m : Int) (w : World) (hR : RAny w g B ns a) (hB : ∀ o, w.cell? ⟨Br, o, none⟩ = (#[Value.pointer (some ⟨g, 0, none⟩)] : Array Value)[o]?) (hM : ∀ o, w.cell? ⟨Bm, o, none⟩ = (#[Value.int .i64 m] : Array Value)[o]?) (hT : ∀ o, w.cell? ⟨Bt, o, none⟩ = (#[Value.func (.func 46) #[] #[]] : Array Value)[o]?) (hO : ∀ o, w.cell? ⟨Bo, o, none⟩ = (#[Value.slice (some ⟨bb, 0, none⟩) 0 0] : Array Value)[o]?) (hOf : ∀ o, w.frozen? ⟨Bo, o, none⟩ = false) (hown : w.ownsRow B0 22 1 (.slice (some ⟨bb, 0, none⟩) 0 0) 0 []) (zB : Br < w.heap.size) (zM : Bm < w.heap.size) (zT : Bt < w.heap.size) (zO : Bo < w.heap.size) (hg : g < B0) (hBB : B ≤ B0) (hB0 : B0 ≤ Br ∧ B0 ≤ Bm ∧ B0 ≤ Bt ∧ B0 ≤ Bo) (hne : Br ≠ bb ∧ Bm ≠ bb ∧ Bt ≠ bb ∧ Bo ≠ bb) (hne2 : Bo ≠ Br ∧ Bo ≠ Bm ∧ Bo ≠ Bt) (hm : m < 0) : Calls Try.prog 76 #[.pointer (some ⟨Bt, 0, none⟩), .pointer (some ⟨Bm, 0, none⟩), .pointer (some ⟨Br, 0, none⟩), .pointer (some ⟨Bo, 0, none⟩)] w (fun e w' => ∃ v a', e = .returned (.int .i64 2) ∧ KB B0 g w w' ∧ RAny w' g B ns a' ∧ w'.cell? ⟨Bo, 0, none⟩ = some v) := by
  have HR := hide hR
  have HO := hide hO
  have HOF := hide hOf
  have HOWN := hide hown
  have HB := hide hB
  have HM := hide hM
  have HT := hide hT
  have HB0 := hide hB0
  have HNE := hide hne
  have HNE2 := hide hne2
  clear hR hO hOf hown hB0 hne hne2
  have Q := eql73
  have hB1 := hide HR.out.1
  go_enter Try.func76, Try.ntmps76
  go_wp2
  go_ret
  exact ⟨_, a, rfl, KB.refl _ _ _, HR.out, HO.out 0⟩

set_option maxRecDepth 100000 in
set_option maxHeartbeats 1000000 in
theorem tk_U_bad (g B B0 Br Bm Bt Bo bb : Nat) (ns : List Nat) (a : Nat) (m : Nat) (w : World) (hR : RAny w g B ns a) (hB : ∀ o, w.cell? ⟨Br, o, none⟩ = (#[Value.pointer (some ⟨g, 0, none⟩)] : Array Value)[o]?) (hM : ∀ o, w.cell? ⟨Bm, o, none⟩ = (#[Value.int .i64 (m : Int)] : Array Value)[o]?) (hT : ∀ o, w.cell? ⟨Bt, o, none⟩ = (#[Value.func (.func 46) #[] #[]] : Array Value)[o]?) (hO : ∀ o, w.cell? ⟨Bo, o, none⟩ = (#[Value.slice (some ⟨bb, 0, none⟩) 0 0] : Array Value)[o]?) (hOf : ∀ o, w.frozen? ⟨Bo, o, none⟩ = false) (hown : w.ownsRow B0 22 1 (.slice (some ⟨bb, 0, none⟩) 0 0) 0 []) (zB : Br < w.heap.size) (zM : Bm < w.heap.size) (zT : Bt < w.heap.size) (zO : Bo < w.heap.size) (hg : g < B0) (hBB : B ≤ B0) (hB0 : B0 ≤ Br ∧ B0 ≤ Bm ∧ B0 ≤ Bt ∧ B0 ≤ Bo) (hne : Br ≠ bb ∧ Bm ≠ bb ∧ Bt ≠ bb ∧ Bo ≠ bb) (hne2 : Bo ≠ Br ∧ Bo ≠ Bm ∧ Bo ≠ Bt) (hm : m ≤ 9223372036854775807) (hE : (lg ns a m).2.1 ≠ 0) : Calls Try.prog 76 #[.pointer (some ⟨Bt, 0, none⟩), .pointer (some ⟨Bm, 0, none⟩), .pointer (some ⟨Br, 0, none⟩), .pointer (some ⟨Bo, 0, none⟩)] w (fun e w' => ∃ v a', e = .returned (.int .i64 ((lg ns a m).2.1 : Int)) ∧ KB B0 g w w' ∧ RAny w' g B ns a' ∧ w'.cell? ⟨Bo, 0, none⟩ = some v) := by
  have hE2 : ((lg ns a m).2.1 : Int) ≠ 0 := by omega
  have HR := hide hR
  have HO := hide hO
  have HOF := hide hOf
  have HOWN := hide hown
  have HB := hide hB
  have HM := hide hM
  have HT := hide hT
  have HB0 := hide hB0
  have HNE := hide hne
  have HNE2 := hide hne2
  clear hR hO hOf hown hB0 hne hne2
  have Q := eql73
  go_enter Try.func76, Try.ntmps76
  go_wp2_with fail
  refine (long_c g B ns a m _ HR.out hm).mono ?_
  rintro e w1 ⟨rfl, ho1, hR1⟩
  have HR1 := hide hR1
  have k1 : KB B0 g w w1 := KB.of_only ho1 (by have := HB0.out; omega)
  have fOg : Bo ≠ g := by have := HB0.out; omega
  have fBg : Br ≠ g := by have := HB0.out; omega
  have fTg : Bt ≠ g := by have := HB0.out; omega
  have OC : ∀ o, w1.cell? ⟨Bo, o, none⟩ = (#[Value.slice (some ⟨bb, 0, none⟩) 0 0] : Array Value)[o]? := fun o => (World.cell?_of_block (ho1.block Bo zO fOg)).trans (HO.out o)
  have OF : ∀ o, w1.frozen? ⟨Bo, o, none⟩ = false := fun o => (World.frozen?_of_block (ho1.block Bo zO fOg)).trans (HOF.out o)
  have BC : ∀ o, w1.cell? ⟨Br, o, none⟩ = (#[Value.pointer (some ⟨g, 0, none⟩)] : Array Value)[o]? := fun o => (World.cell?_of_block (ho1.block Br zB fBg)).trans (HB.out o)
  have TC : ∀ o, w1.cell? ⟨Bt, o, none⟩ = (#[Value.func (.func 46) #[] #[]] : Array Value)[o]? := fun o => (World.cell?_of_block (ho1.block Bt zT fTg)).trans (HT.out o)
  have zO1 : Bo < w1.heap.size := Nat.lt_of_lt_of_le zO ho1.size
  have zB1 : Br < w1.heap.size := Nat.lt_of_lt_of_le zB ho1.size
  have zT1 : Bt < w1.heap.size := Nat.lt_of_lt_of_le zT ho1.size
  have own1 : w1.ownsRow B0 22 1 (.slice (some ⟨bb, 0, none⟩) 0 0) 0 [] := own_same HOWN.out (fun k hk hk2 => ho1.block k hk2 (by
    have e : bb = k := Option.some.inj hk
    have := HOWN.out.lt k hk
    omega))
  have OWN1 := hide own1
  clear hR1 own1 ho1 hB hM hT
  go_wp2
  go_loopw [6] (fun v6 wr => v6 = .int .i64 ((lg ns a m).2.1 : Int) ∧ wr = w1) (fun _ _ => 0)
  case atStart => exact ⟨rfl, rfl⟩
  case round =>
    obtain ⟨rfl, rfl⟩ := hrel
    go_wp2
    go_ret
    exact ⟨_, _, rfl, k1, HR1.out, OC 0⟩

set_option maxRecDepth 100000 in
set_option maxHeartbeats 2000000 in
theorem tk_U_ok (g B B0 Br Bm Bt Bo bb : Nat) (ns : List Nat) (a : Nat) (m n pl : Nat) (w : World) (hR : RAny w g B ns a) (hB : ∀ o, w.cell? ⟨Br, o, none⟩ = (#[Value.pointer (some ⟨g, 0, none⟩)] : Array Value)[o]?) (hM : ∀ o, w.cell? ⟨Bm, o, none⟩ = (#[Value.int .i64 (m : Int)] : Array Value)[o]?) (hT : ∀ o, w.cell? ⟨Bt, o, none⟩ = (#[Value.func (.func 46) #[] #[]] : Array Value)[o]?) (hO : ∀ o, w.cell? ⟨Bo, o, none⟩ = (#[Value.slice (some ⟨bb, 0, none⟩) 0 0] : Array Value)[o]?) (hOf : ∀ o, w.frozen? ⟨Bo, o, none⟩ = false) (hown : w.ownsRow B0 22 1 (.slice (some ⟨bb, 0, none⟩) 0 0) 0 []) (zB : Br < w.heap.size) (zM : Bm < w.heap.size) (zT : Bt < w.heap.size) (zO : Bo < w.heap.size) (hg : g < B0) (hBB : B ≤ B0) (hB0 : B0 ≤ Br ∧ B0 ≤ Bm ∧ B0 ≤ Bt ∧ B0 ≤ Bo) (hne : Br ≠ bb ∧ Bm ≠ bb ∧ Bt ≠ bb ∧ Bo ≠ bb) (hne2 : Bo ≠ Br ∧ Bo ≠ Bm ∧ Bo ≠ Bt) (hm : m ≤ 9223372036854775807) (hnl : ns.length ≤ 1099511627776) (hE : lg ns a m = (n, 0, pl)) : Calls Try.prog 76 #[.pointer (some ⟨Bt, 0, none⟩), .pointer (some ⟨Bm, 0, none⟩), .pointer (some ⟨Br, 0, none⟩), .pointer (some ⟨Bo, 0, none⟩)] w (fun e w' => ∃ v a', e = .returned (.int .i64 ((tk (RU ns) n pl).2.1 : Int)) ∧ KB B0 g w w' ∧ RAny w' g B ns a' ∧ w'.cell? ⟨Bo, 0, none⟩ = some v ∧ ((tk (RU ns) n pl).2.1 = 0 → a' = (tk (RU ns) n pl).2.2 ∧ w'.ownsRow B0 22 1 v (tk (RU ns) n pl).1.length (tk (RU ns) n pl).1)) := by
  obtain ⟨i0, hi0, hz0, hz1, hz2⟩ := info_parts info22
  have hnn : n ≤ ns.length := by
    have q := lg_ok ns a m (by rw [hE])
    have q2 : (rd ns a).1 = n := by (have := q.2.2.2; rw [hE] at this; exact (Prod.mk.inj this).1.symm)
    omega
  have HR := hide hR
  have HO := hide hO
  have HOF := hide hOf
  have HOWN := hide hown
  have HB := hide hB
  have HM := hide hM
  have HT := hide hT
  have HB0 := hide hB0
  have HNE := hide hne
  have HNE2 := hide hne2
  clear hR hO hOf hown hB0 hne hne2
  have Q := eql73
  go_enter Try.func76, Try.ntmps76
  go_wp2_with fail
  refine (long_c g B ns a m _ HR.out hm).mono ?_
  rw [hE]
  rintro e w1 ⟨rfl, ho1, hR1⟩
  have HR1 := hide hR1
  have k1 : KB B0 g w w1 := KB.of_only ho1 (by have := HB0.out; omega)
  have fOg : Bo ≠ g := by have := HB0.out; omega
  have fBg : Br ≠ g := by have := HB0.out; omega
  have fTg : Bt ≠ g := by have := HB0.out; omega
  have OC : ∀ o, w1.cell? ⟨Bo, o, none⟩ = (#[Value.slice (some ⟨bb, 0, none⟩) 0 0] : Array Value)[o]? := fun o => (World.cell?_of_block (ho1.block Bo zO fOg)).trans (HO.out o)
  have OF : ∀ o, w1.frozen? ⟨Bo, o, none⟩ = false := fun o => (World.frozen?_of_block (ho1.block Bo zO fOg)).trans (HOF.out o)
  have BC : ∀ o, w1.cell? ⟨Br, o, none⟩ = (#[Value.pointer (some ⟨g, 0, none⟩)] : Array Value)[o]? := fun o => (World.cell?_of_block (ho1.block Br zB fBg)).trans (HB.out o)
  have TC : ∀ o, w1.cell? ⟨Bt, o, none⟩ = (#[Value.func (.func 46) #[] #[]] : Array Value)[o]? := fun o => (World.cell?_of_block (ho1.block Bt zT fTg)).trans (HT.out o)
  have zO1 : Bo < w1.heap.size := Nat.lt_of_lt_of_le zO ho1.size
  have zB1 : Br < w1.heap.size := Nat.lt_of_lt_of_le zB ho1.size
  have zT1 : Bt < w1.heap.size := Nat.lt_of_lt_of_le zT ho1.size
  have own1 : w1.ownsRow B0 22 1 (.slice (some ⟨bb, 0, none⟩) 0 0) 0 [] := own_same HOWN.out (fun k hk hk2 => ho1.block k hk2 (by
    have e : bb = k := Option.some.inj hk
    have := HOWN.out.lt k hk
    omega))
  have OWN1 := hide own1
  clear hR1 own1 ho1 hB hM hT
  clear HR HO HOF HOWN HB HM HT
  go_wp2_with fail
  go_loopw [5, 6] (fun v5 v6 wr => ∃ (j p er : Nat) (xs : List Value) (v : Value), v5 = .int .i64 (j : Int) ∧ v6 = .int .i64 (er : Int) ∧ j ≤ n ∧ xs.length ≤ n ∧ KB B0 g w wr ∧ RAny wr g B ns p ∧ wr.ownsRow B0 22 1 v xs.length xs ∧ (∀ k, v.ownBlock = some k → k ≠ Br ∧ k ≠ Bt ∧ k ≠ Bo) ∧ (∀ o, wr.cell? ⟨Bo, o, none⟩ = (#[v] : Array Value)[o]?) ∧ (∀ o, wr.frozen? ⟨Bo, o, none⟩ = false) ∧ (∀ o, wr.cell? ⟨Br, o, none⟩ = (#[Value.pointer (some ⟨g, 0, none⟩)] : Array Value)[o]?) ∧ (∀ o, wr.cell? ⟨Bt, o, none⟩ = (#[Value.func (.func 46) #[] #[]] : Array Value)[o]?) ∧ w1.heap.size ≤ wr.heap.size ∧ ((er = 0 ∧ xs.length + j = n ∧ tk (RU ns) n pl = (xs ++ (tk (RU ns) j p).1, (tk (RU ns) j p).2.1, (tk (RU ns) j p).2.2)) ∨ (er ≠ 0 ∧ (tk (RU ns) n pl).2.1 = er))) (fun v5 _ _ => (intOf v5).toNat)
  case atStart => exact ⟨n, pl, 0, [], _, rfl, rfl, Nat.le_refl _, Nat.zero_le _, k1, HR1.out, OWN1.out, fun k hk => by (have e : bb = k := Option.some.inj hk; have := HNE.out; subst e; exact ⟨fun h => this.1 h.symm, fun h => this.2.2.1 h.symm, fun h => this.2.2.2 h.symm⟩), OC, OF, BC, TC, Nat.le_refl _, .inl ⟨rfl, by simp, by simp⟩⟩
  case round =>
    obtain ⟨j, p, er, xs, v, rfl, rfl, hj, hxn, hk, hRr, hown, hvn, oc, of, bc, tc, hz, hl⟩ := hrel
    have HK := hide hk
    have HRr := hide hRr
    have HOW := hide hown
    have HVN := hide hvn
    clear hk hRr hown hvn OC OF BC TC k1 HR1 OWN1
    by_cases her : er = 0
    · subst her
      have hl1 := hl.resolve_right (fun h => h.1 rfl)
      clear hl
      have HL1 := hide hl1.2.2
      have hxl := hl1.2.1
      clear hl1
      by_cases hj0 : j = 0
      · subst hj0
        go_wp2
        go_ret
        have q := HL1.out
        have e2 : (tk (RU ns) n pl).2.1 = 0 := by rw [q]; rfl
        refine ⟨v, p, by rw [e2]; rfl, HK.out, HRr.out, oc 0, fun _ => ?_⟩
        rw [q]
        exact ⟨rfl, by (have e3 : xs ++ (tk (RU ns) 0 p).1 = xs := List.append_nil _); rw [e3]; exact HOW.out⟩
      · have hjp : (0 : Int) < (j : Int) := by omega
        obtain ⟨j2, rfl⟩ : ∃ j2, j = j2 + 1 := ⟨j - 1, by omega⟩
        go_wp2_with fail
        refine (elt_U g B ns p _ HRr.out).mono ?_
        rintro e w5 ⟨rfl, ho5, hR5⟩
        have q0 := tk_ok (RU ns) j2 p
        have q1 := tk_bad (RU ns) j2 p
        have hOne := one_U ns p
        have HQ0 := hide q0
        have HQ1 := hide q1
        clear q0 q1
        have hRp : RU ns p = (.int .u64 ((rd ns p).1 : Int), (rd ns p).2.1, (rd ns p).2.2) := rfl
        rw [hRp] at hOne
        have HRp := hide hRp
        clear hRp
        generalize (rd ns p).1 = rv at *
        generalize (rd ns p).2.1 = re at *
        generalize (rd ns p).2.2 = rp at *
        have HR5 := hide hR5
        have fOg : Bo ≠ g := by have := HB0.out; omega
        have fBg : Br ≠ g := by have := HB0.out; omega
        have fTg : Bt ≠ g := by have := HB0.out; omega
        have zOr : Bo < wr.heap.size := by omega
        have zBr : Br < wr.heap.size := by omega
        have zTr : Bt < wr.heap.size := by omega
        have oc5 : ∀ o, w5.cell? ⟨Bo, o, none⟩ = (#[v] : Array Value)[o]? := fun o => (World.cell?_of_block (ho5.block Bo zOr fOg)).trans (oc o)
        have of5 : ∀ o, w5.frozen? ⟨Bo, o, none⟩ = false := fun o => (World.frozen?_of_block (ho5.block Bo zOr fOg)).trans (of o)
        have bc5 : ∀ o, w5.cell? ⟨Br, o, none⟩ = (#[Value.pointer (some ⟨g, 0, none⟩)] : Array Value)[o]? := fun o => (World.cell?_of_block (ho5.block Br zBr fBg)).trans (bc o)
        have tc5 : ∀ o, w5.cell? ⟨Bt, o, none⟩ = (#[Value.func (.func 46) #[] #[]] : Array Value)[o]? := fun o => (World.cell?_of_block (ho5.block Bt zTr fTg)).trans (tc o)
        have OW5 := hide (show w5.ownsRow B0 22 1 v xs.length xs from own_same HOW.out (fun k hk hk2 => ho5.block k hk2 (by have := (HOW.out.lt k hk).1; omega)))
        have hz5 : wr.heap.size ≤ w5.heap.size := ho5.size
        have HB5 := hide (show B0 ≤ wr.heap.size from by have := HB0.out; omega)
        have HK5 := hide (HK.out.trans (KB.of_only ho5 HB5.out))
        clear hR5 ho5 oc of bc tc HOW HRr HK
        go_wp2_with (at_builtin; refine wpList_append_lies _ rfl (.tmp 34) (.tmp 36) 57 rfl B0 22 i0 (.int .u64 0) 1 8 Try.underlying57 hi0 hz0 hz1 hz2 rfl (by decide) v xs.length xs rfl (OW5.out.alloc _) ⟨w5.heap.size, 0, none⟩ 1 1 [.int .u64 (rv : Int)] rfl rfl (cell_one_new _ _ _) (by intro u hu; simp at hu; subst hu; exact hOne) (by decide) (by unfold maxLen; omega) (by omega) (by (simp; have := HB5.out; omega)) _ rfl ?_; intro g2 cap2 wn hown2 hg2 hgg hgl; have hbo : wn.heap[Bo]? = w5.heap[Bo]? := far_block hg2 (by omega) (fun e => (HVN.out Bo e.symm).2.2 rfl); have cOn : ∀ o, wn.cell? ⟨Bo, o, none⟩ = (#[v] : Array Value)[o]? := fun o => (World.cell?_of_block hbo).trans (oc5 o); have fOn : ∀ o, wn.frozen? ⟨Bo, o, none⟩ = false := fun o => (World.frozen?_of_block hbo).trans (of5 o))
        have hz6 : w5.heap.size ≤ wn.heap.size := Nat.le_trans (by simp) hg2.size
        have hvo : ∀ k, v.ownBlock = some k → k < w5.heap.size := fun k hk => (OW5.out.lt k hk).2
        have hBk : ∀ k, v.ownBlock = some k → B0 ≤ k := fun k hk => (OW5.out.lt k hk).1
        have hb0 := HB0.out
        have hb5 := HB5.out
        have hbn : ∀ i, i < B0 → wn.heap[i]? = w5.heap[i]? := fun i hi => far_block hg2 (by omega) (fun e => by have := hBk i e.symm; omega)
        have hbb : wn.heap[Br]? = w5.heap[Br]? := far_block hg2 (by omega) (fun e => (HVN.out Br e.symm).1 rfl)
        have hbt : wn.heap[Bt]? = w5.heap[Bt]? := far_block hg2 (by omega) (fun e => (HVN.out Bt e.symm).2.1 rfl)
        have HK6 := hide (HK5.out.trans ⟨hg2.os, hg2.tape, hg2.output, Nat.le_trans (by simp) hg2.size, fun i hi _ => hbn i hi⟩)
        have HR6 := hide (HR5.out.same hz6 (hbn g hg) (fun i hi => hbn i (by omega)))
        have hgo : g2 ≠ Br ∧ g2 ≠ Bt ∧ g2 ≠ Bo := by
          rcases hgg with q | q
          · exact HVN.out g2 q
          · simp at q; omega
        have hn2 := HNE2.out
        have HOWN6 := hide (own_set hown2 (b := Bo) (fun k hk => by (have e : g2 = k := Option.some.inj hk); subst e; exact hgo.2.2) 0 (.slice (some ⟨g2, 0, none⟩) (xs.length + 1) cap2))
        have HTC := hide tc5
        have HBC := hide bc5
        have zOn : Bo < wn.heap.size := by omega
        have HHB := hide hbb
        have HHT := hide hbt
        have HGO := hide hgo
        clear hown2 hg2 hgg hbn hbb hbt hvo hBk HVN OW5 HK5 HR5 hbo tc5 bc5 oc5 of5
        go_wp2
        go_roundw
        case rel =>
          refine ⟨j2, rp, re, xs ++ [.int .u64 (rv : Int)], .slice (some ⟨g2, 0, none⟩) (xs.length + 1) cap2, by go_num, rfl, by omega, by (rw [List.length_append]; simp; omega), HK6.out.set hb0.2.2.2 0 _, HR6.out.set fOg (by omega) 0 _, by (have q := HOWN6.out; simpa using q), fun k hk => by (have e : g2 = k := Option.some.inj hk); subst e; exact HGO.out, ?_, ?_, ?_, ?_, by (simp; omega), ?_⟩
          · intro o; rcases o with _ | o <;> simp [go_sem, cOn]
          · intro o; simp only [World.frozen?_setCell]; exact fOn o
          · intro o; exact (World.cell?_of_block (Below.heap_setCell _ _ _ _ (by exact fun e => hn2.1 e.symm))).trans ((World.cell?_of_block HHB.out).trans (HBC.out o))
          · intro o; exact (World.cell?_of_block (Below.heap_setCell _ _ _ _ (by exact fun e => hn2.2.2 e.symm))).trans ((World.cell?_of_block HHT.out).trans (HTC.out o))
          · have q0 := HQ0.out
            have q1 := HQ1.out
            rw [HRp.out] at q0 q1
            by_cases hre : re = 0
            · subst hre
              refine .inl ⟨rfl, by (rw [List.length_append]; simp; omega), ?_⟩
              rw [HL1.out, q0 rfl]
              simp
            · refine .inr ⟨hre, ?_⟩
              rw [HL1.out]
              exact q1 hre
        case measure => (first | (simp [intOf]; done) | (simp [intOf]; omega))
    · have hl1 := hl.resolve_left (fun h => her h.1)
      have her2 : ¬ (er : Int) = 0 := by omega
      go_wp2
      go_ret
      refine ⟨v, p, by (rw [hl1.2]; rfl), HK.out, HRr.out, oc 0, fun h => absurd (hl1.2.symm.trans h) her⟩
end Go.Proofs.Ytajkgecegefnmaa
