/- Contracts of the layer's functions, each proved once, in the order in which they are used. No condition beyond each theorem's own. -/
import Derived.Deep.AppendLies
import Derived.Test.YtajkgecegefnmaaMb
import Derived.Laws.BytesArg
namespace Go.Proofs.Ytajkgecegefnmaa
open Go.ChangeShapes Go.WideShapes Go.ChangeAt Go.RowKit Go.Deep
set_option linter.unusedSimpArgs false
set_option linter.unusedVariables false

theorem far_block {w wn : World} {o : Obj} {row : Option Nat} (hg : (w.alloc o).grownBy wn row) {b : Nat} (hb : b < w.heap.size) (hn : some b ≠ row) : wn.heap[b]? = w.heap[b]? :=
  (hg.block b (by simp; omega) hn).trans (Below.heap_alloc w o b hb)
/-- what 'take', 'word' answer -/
def RU (ns : List Nat) (a : Nat) : Value × Nat × Nat := (.int .u64 ((rd ns a).1 : Int), (rd ns a).2.1, (rd ns a).2.2)
theorem eql73 (a b : Array Value) (w : World) : Sem.run Try.prog (binOp .eql 73 (.func (.func 46) a b) Value.nilFunc) w = .ok (.bool false) w := by kernel_rfl
theorem one_U (ns : List Nat) (a : Nat) : (RU ns a).1.oneCell' = true := rfl

set_option maxRecDepth 100000 in
set_option maxHeartbeats 1000000 in
theorem elt_U (g B : Nat) (ns : List Nat) (a : Nat) (w : World) (hR : RAny w g B ns a) : Calls Try.prog 46 #[.pointer (some ⟨g, 0, none⟩)] w (fun e w' => e = .returned (.tuple #[.int .u64 ((rd ns a).1 : Int), .int .i64 ((rd ns a).2.1 : Int)]) ∧ Only g w w' ∧ RAny w' g B ns (rd ns a).2.2) := by
  go_enter Try.func46, Try.ntmps46
  go_wp2_with fail
  refine (RNum_any g B ns a _ hR).mono ?_
  rintro e w1 ⟨rfl, ho1, hR1⟩
  have HR1 := hide hR1
  clear hR hR1
  go_wp2
  go_ret2
  exact ⟨rfl, ho1, HR1.out⟩
theorem place_U (ns : List Nat) (a : Nat) (h : (RU ns a).2.1 = 0) : a + 1 ≤ (RU ns a).2.2 := rd_grows ns a h

set_option maxRecDepth 100000 in
set_option maxHeartbeats 1000000 in
theorem tk_U_neg (g B B0 Br Bm Bt Bo bb : Nat) (ns : List Nat) (a : Nat) (m : Int) (w : World) (hR : RAny w g B ns a) (hB : ∀ o, w.cell? ⟨Br, o, none⟩ = (#[Value.pointer (some ⟨g, 0, none⟩)] : Array Value)[o]?) (hM : ∀ o, w.cell? ⟨Bm, o, none⟩ = (#[Value.int .i64 m] : Array Value)[o]?) (hT : ∀ o, w.cell? ⟨Bt, o, none⟩ = (#[Value.func (.func 46) #[] #[]] : Array Value)[o]?) (hO : ∀ o, w.cell? ⟨Bo, o, none⟩ = (#[Value.slice (some ⟨bb, 0, none⟩) 0 0] : Array Value)[o]?) (hOf : ∀ o, w.frozen? ⟨Bo, o, none⟩ = false) (hown : w.ownsRow B0 22 1 (.slice (some ⟨bb, 0, none⟩) 0 0) 0 []) (zB : Br < w.heap.size) (zM : Bm < w.heap.size) (zT : Bt < w.heap.size) (zO : Bo < w.heap.size) (hg : g < B0) (hBB : B ≤ B0) (hB0 : B0 ≤ Br ∧ B0 ≤ Bm ∧ B0 ≤ Bt ∧ B0 ≤ Bo) (hne : Br ≠ bb ∧ Bm ≠ bb ∧ Bt ≠ bb ∧ Bo ≠ bb) (hne2 : Bo ≠ Br ∧ Bo ≠ Bm ∧ Bo ≠ Bt) (hm : m < 0) : Calls Try.prog 76 #[.pointer (some ⟨Bt, 0, none⟩), .pointer (some ⟨Bm, 0, none⟩), .pointer (some ⟨Br, 0, none⟩), .pointer (some ⟨Bo, 0, none⟩)] w (fun e w' => ∃ v a', e = .returned (.int .i64 2) ∧ KB B0 g w w' ∧ RAny w' g B ns a' ∧ w'.cell? ⟨Bo, 0, none⟩ = some v) := by
  have HR := hide hR
  have HO := hide hO
  have HOF := hide hOf
  have HOWN := hide hown
  have HB := hide hB
  have HM := hide hM
  have HT := hide hT
  have HB0 := hide hB0
  have HNE := hide hne
  have HNE2 := hide hne2
  clear hR hO hOf hown hB0 hne hne2
  have Q := eql73
  have hB1 := hide HR.out.1
  go_enter Try.func76, Try.ntmps76
  go_wp2
  go_ret
  exact ⟨_, a, rfl, KB.refl _ _ _, HR.out, HO.out 0⟩

set_option maxRecDepth 100000 in
set_option maxHeartbeats 1000000 in
theorem tk_U_bad (g B B0 Br Bm Bt Bo bb : Nat) (ns : List Nat) (a : Nat) (m : Nat) (w : World) (hR : RAny w g B ns a) (hB : ∀ o, w.cell? ⟨Br, o, none⟩ = (#[Value.pointer (some ⟨g, 0, none⟩)] : Array Value)[o]?) (hM : ∀ o, w.cell? ⟨Bm, o, none⟩ = (#[Value.int .i64 (m : Int)] : Array Value)[o]?) (hT : ∀ o, w.cell? ⟨Bt, o, none⟩ = (#[Value.func (.func 46) #[] #[]] : Array Value)[o]?) (hO : ∀ o, w.cell? ⟨Bo, o, none⟩ = (#[Value.slice (some ⟨bb, 0, none⟩) 0 0] : Array Value)[o]?) (hOf : ∀ o, w.frozen? ⟨Bo, o, none⟩ = false) (hown : w.ownsRow B0 22 1 (.slice (some ⟨bb, 0, none⟩) 0 0) 0 []) (zB : Br < w.heap.size) (zM : Bm < w.heap.size) (zT : Bt < w.heap.size) (zO : Bo < w.heap.size) (hg : g < B0) (hBB : B ≤ B0) (hB0 : B0 ≤ Br ∧ B0 ≤ Bm ∧ B0 ≤ Bt ∧ B0 ≤ Bo) (hne : Br ≠ bb ∧ Bm ≠ bb ∧ Bt ≠ bb ∧ Bo ≠ bb) (hne2 : Bo ≠ Br ∧ Bo ≠ Bm ∧ Bo ≠ Bt) (hm : m ≤ 9223372036854775807) (hE : (lg ns a m).2.1 ≠ 0) : Calls Try.prog 76 #[.pointer (some ⟨Bt, 0, none⟩), .pointer (some ⟨Bm, 0, none⟩), .pointer (some ⟨Br, 0, none⟩), .pointer (some ⟨Bo, 0, none⟩)] w (fun e w' => ∃ v a', e = .returned (.int .i64 ((lg ns a m).2.1 : Int)) ∧ KB B0 g w w' ∧ RAny w' g B ns a' ∧ w'.cell? ⟨Bo, 0, none⟩ = some v) := by
  have hE2 : ((lg ns a m).2.1 : Int) ≠ 0 := by omega
  have HR := hide hR
  have HO := hide hO
  have HOF := hide hOf
  have HOWN := hide hown
  have HB := hide hB
  have HM := hide hM
  have HT := hide hT
  have HB0 := hide hB0
  have HNE := hide hne
  have HNE2 := hide hne2
  clear hR hO hOf hown hB0 hne hne2
  have Q := eql73
  go_enter Try.func76, Try.ntmps76
  go_wp2_with fail
  refine (long_c g B ns a m _ HR.out hm).mono ?_
  rintro e w1 ⟨rfl, ho1, hR1⟩
  have HR1 := hide hR1
  have k1 : KB B0 g w w1 := KB.of_only ho1 (by have := HB0.out; omega)
  have fOg : Bo ≠ g := by have := HB0.out; omega
  have fBg : Br ≠ g := by have := HB0.out; omega
  have fTg : Bt ≠ g := by have := HB0.out; omega
  have OC : ∀ o, w1.cell? ⟨Bo, o, none⟩ = (#[Value.slice (some ⟨bb, 0, none⟩) 0 0] : Array Value)[o]? := fun o => (World.cell?_of_block (ho1.block Bo zO fOg)).trans (HO.out o)
  have OF : ∀ o, w1.frozen? ⟨Bo, o, none⟩ = false := fun o => (World.frozen?_of_block (ho1.block Bo zO fOg)).trans (HOF.out o)
  have BC : ∀ o, w1.cell? ⟨Br, o, none⟩ = (#[Value.pointer (some ⟨g, 0, none⟩)] : Array Value)[o]? := fun o => (World.cell?_of_block (ho1.block Br zB fBg)).trans (HB.out o)
  have TC : ∀ o, w1.cell? ⟨Bt, o, none⟩ = (#[Value.func (.func 46) #[] #[]] : Array Value)[o]? := fun o => (World.cell?_of_block (ho1.block Bt zT fTg)).trans (HT.out o)
  have zO1 : Bo < w1.heap.size := Nat.lt_of_lt_of_le zO ho1.size
  have zB1 : Br < w1.heap.size := Nat.lt_of_lt_of_le zB ho1.size
  have zT1 : Bt < w1.heap.size := Nat.lt_of_lt_of_le zT ho1.size
  have own1 : w1.ownsRow B0 22 1 (.slice (some ⟨bb, 0, none⟩) 0 0) 0 [] := own_same HOWN.out (fun k hk hk2 => ho1.block k hk2 (by
    have e : bb = k := Option.some.inj hk
    have := HOWN.out.lt k hk
    omega))
  have OWN1 := hide own1
  clear hR1 own1 ho1 hB hM hT
  go_wp2
  go_loopw [6] (fun v6 wr => v6 = .int .i64 ((lg ns a m).2.1 : Int) ∧ wr = w1) (fun _ _ => 0)
  case atStart => exact ⟨rfl, rfl⟩
  case round =>
    obtain ⟨rfl, rfl⟩ := hrel
    go_wp2
    go_ret
    exact ⟨_, _, rfl, k1, HR1.out, OC 0⟩

set_option maxRecDepth 100000 in
set_option maxHeartbeats 2000000 in
theorem tk_U_ok (g B B0 Br Bm Bt Bo bb : Nat) (ns : List Nat) (a : Nat) (m n pl : Nat) (w : World) (hR : RAny w g B ns a) (hB : ∀ o, w.cell? ⟨Br, o, none⟩ = (#[Value.pointer (some ⟨g, 0, none⟩)] : Array Value)[o]?) (hM : ∀ o, w.cell? ⟨Bm, o, none⟩ = (#[Value.int .i64 (m : Int)] : Array Value)[o]?) (hT : ∀ o, w.cell? ⟨Bt, o, none⟩ = (#[Value.func (.func 46) #[] #[]] : Array Value)[o]?) (hO : ∀ o, w.cell? ⟨Bo, o, none⟩ = (#[Value.slice (some ⟨bb, 0, none⟩) 0 0] : Array Value)[o]?) (hOf : ∀ o, w.frozen? ⟨Bo, o, none⟩ = false) (hown : w.ownsRow B0 22 1 (.slice (some ⟨bb, 0, none⟩) 0 0) 0 []) (zB : Br < w.heap.size) (zM : Bm < w.heap.size) (zT : Bt < w.heap.size) (zO : Bo < w.heap.size) (hg : g < B0) (hBB : B ≤ B0) (hB0 : B0 ≤ Br ∧ B0 ≤ Bm ∧ B0 ≤ Bt ∧ B0 ≤ Bo) (hne : Br ≠ bb ∧ Bm ≠ bb ∧ Bt ≠ bb ∧ Bo ≠ bb) (hne2 : Bo ≠ Br ∧ Bo ≠ Bm ∧ Bo ≠ Bt) (hm : m ≤ 9223372036854775807) (hnl : ns.length ≤ 1099511627776) (hE : lg ns a m = (n, 0, pl)) : Calls Try.prog 76 #[.pointer (some ⟨Bt, 0, none⟩), .pointer (some ⟨Bm, 0, none⟩), .pointer (some ⟨Br, 0, none⟩), .pointer (some ⟨Bo, 0, none⟩)] w (fun e w' => ∃ v a', e = .returned (.int .i64 ((tk (RU ns) n pl).2.1 : Int)) ∧ KB B0 g w w' ∧ RAny w' g B ns a' ∧ w'.cell? ⟨Bo, 0, none⟩ = some v ∧ ((tk (RU ns) n pl).2.1 = 0 → a' = (tk (RU ns) n pl).2.2 ∧ w'.ownsRow B0 22 1 v (tk (RU ns) n pl).1.length (tk (RU ns) n pl).1)) := by
  obtain ⟨i0, hi0, hz0, hz1, hz2⟩ := info_parts info22
  have hnn : n ≤ ns.length := by
    have q := lg_ok ns a m (by rw [hE])
    have q2 : (rd ns a).1 = n := by (have := q.2.2.2; rw [hE] at this; exact (Prod.mk.inj this).1.symm)
    omega
  have HR := hide hR
  have HO := hide hO
  have HOF := hide hOf
  have HOWN := hide hown
  have HB := hide hB
  have HM := hide hM
  have HT := hide hT
  have HB0 := hide hB0
  have HNE := hide hne
  have HNE2 := hide hne2
  clear hR hO hOf hown hB0 hne hne2
  have Q := eql73
  go_enter Try.func76, Try.ntmps76
  go_wp2_with fail
  refine (long_c g B ns a m _ HR.out hm).mono ?_
  rw [hE]
  rintro e w1 ⟨rfl, ho1, hR1⟩
  have HR1 := hide hR1
  have k1 : KB B0 g w w1 := KB.of_only ho1 (by have := HB0.out; omega)
  have fOg : Bo ≠ g := by have := HB0.out; omega
  have fBg : Br ≠ g := by have := HB0.out; omega
  have fTg : Bt ≠ g := by have := HB0.out; omega
  have OC : ∀ o, w1.cell? ⟨Bo, o, none⟩ = (#[Value.slice (some ⟨bb, 0, none⟩) 0 0] : Array Value)[o]? := fun o => (World.cell?_of_block (ho1.block Bo zO fOg)).trans (HO.out o)
  have OF : ∀ o, w1.frozen? ⟨Bo, o, none⟩ = false := fun o => (World.frozen?_of_block (ho1.block Bo zO fOg)).trans (HOF.out o)
  have BC : ∀ o, w1.cell? ⟨Br, o, none⟩ = (#[Value.pointer (some ⟨g, 0, none⟩)] : Array Value)[o]? := fun o => (World.cell?_of_block (ho1.block Br zB fBg)).trans (HB.out o)
  have TC : ∀ o, w1.cell? ⟨Bt, o, none⟩ = (#[Value.func (.func 46) #[] #[]] : Array Value)[o]? := fun o => (World.cell?_of_block (ho1.block Bt zT fTg)).trans (HT.out o)
  have zO1 : Bo < w1.heap.size := Nat.lt_of_lt_of_le zO ho1.size
  have zB1 : Br < w1.heap.size := Nat.lt_of_lt_of_le zB ho1.size
  have zT1 : Bt < w1.heap.size := Nat.lt_of_lt_of_le zT ho1.size
  have own1 : w1.ownsRow B0 22 1 (.slice (some ⟨bb, 0, none⟩) 0 0) 0 [] := own_same HOWN.out (fun k hk hk2 => ho1.block k hk2 (by
    have e : bb = k := Option.some.inj hk
    have := HOWN.out.lt k hk
    omega))
  have OWN1 := hide own1
  clear hR1 own1 ho1 hB hM hT
  clear HR HO HOF HOWN HB HM HT
  go_wp2_with fail
  go_loopw [5, 6] (fun v5 v6 wr => ∃ (j p er : Nat) (xs : List Value) (v : Value), v5 = .int .i64 (j : Int) ∧ v6 = .int .i64 (er : Int) ∧ j ≤ n ∧ xs.length ≤ n ∧ KB B0 g w wr ∧ RAny wr g B ns p ∧ wr.ownsRow B0 22 1 v xs.length xs ∧ (∀ k, v.ownBlock = some k → k ≠ Br ∧ k ≠ Bt ∧ k ≠ Bo) ∧ (∀ o, wr.cell? ⟨Bo, o, none⟩ = (#[v] : Array Value)[o]?) ∧ (∀ o, wr.frozen? ⟨Bo, o, none⟩ = false) ∧ (∀ o, wr.cell? ⟨Br, o, none⟩ = (#[Value.pointer (some ⟨g, 0, none⟩)] : Array Value)[o]?) ∧ (∀ o, wr.cell? ⟨Bt, o, none⟩ = (#[Value.func (.func 46) #[] #[]] : Array Value)[o]?) ∧ w1.heap.size ≤ wr.heap.size ∧ ((er = 0 ∧ xs.length + j = n ∧ tk (RU ns) n pl = (xs ++ (tk (RU ns) j p).1, (tk (RU ns) j p).2.1, (tk (RU ns) j p).2.2)) ∨ (er ≠ 0 ∧ (tk (RU ns) n pl).2.1 = er))) (fun v5 _ _ => (intOf v5).toNat)
  case atStart => exact ⟨n, pl, 0, [], _, rfl, rfl, Nat.le_refl _, Nat.zero_le _, k1, HR1.out, OWN1.out, fun k hk => by (have e : bb = k := Option.some.inj hk; have := HNE.out; subst e; exact ⟨fun h => this.1 h.symm, fun h => this.2.2.1 h.symm, fun h => this.2.2.2 h.symm⟩), OC, OF, BC, TC, Nat.le_refl _, .inl ⟨rfl, by simp, by simp⟩⟩
  case round =>
    obtain ⟨j, p, er, xs, v, rfl, rfl, hj, hxn, hk, hRr, hown, hvn, oc, of, bc, tc, hz, hl⟩ := hrel
    have HK := hide hk
    have HRr := hide hRr
    have HOW := hide hown
    have HVN := hide hvn
    clear hk hRr hown hvn OC OF BC TC k1 HR1 OWN1
    by_cases her : er = 0
    · subst her
      have hl1 := hl.resolve_right (fun h => h.1 rfl)
      clear hl
      have HL1 := hide hl1.2.2
      have hxl := hl1.2.1
      clear hl1
      by_cases hj0 : j = 0
      · subst hj0
        go_wp2
        go_ret
        have q := HL1.out
        have e2 : (tk (RU ns) n pl).2.1 = 0 := by rw [q]; rfl
        refine ⟨v, p, by rw [e2]; rfl, HK.out, HRr.out, oc 0, fun _ => ?_⟩
        rw [q]
        exact ⟨rfl, by (have e3 : xs ++ (tk (RU ns) 0 p).1 = xs := List.append_nil _); rw [e3]; exact HOW.out⟩
      · have hjp : (0 : Int) < (j : Int) := by omega
        obtain ⟨j2, rfl⟩ : ∃ j2, j = j2 + 1 := ⟨j - 1, by omega⟩
        go_wp2_with fail
        refine (elt_U g B ns p _ HRr.out).mono ?_
        rintro e w5 ⟨rfl, ho5, hR5⟩
        have q0 := tk_ok (RU ns) j2 p
        have q1 := tk_bad (RU ns) j2 p
        have hOne := one_U ns p
        have HQ0 := hide q0
        have HQ1 := hide q1
        clear q0 q1
        have hRp : RU ns p = (.int .u64 ((rd ns p).1 : Int), (rd ns p).2.1, (rd ns p).2.2) := rfl
        rw [hRp] at hOne
        have HRp := hide hRp
        clear hRp
        generalize (rd ns p).1 = rv at *
        generalize (rd ns p).2.1 = re at *
        generalize (rd ns p).2.2 = rp at *
        have HR5 := hide hR5
        have fOg : Bo ≠ g := by have := HB0.out; omega
        have fBg : Br ≠ g := by have := HB0.out; omega
        have fTg : Bt ≠ g := by have := HB0.out; omega
        have zOr : Bo < wr.heap.size := by omega
        have zBr : Br < wr.heap.size := by omega
        have zTr : Bt < wr.heap.size := by omega
        have oc5 : ∀ o, w5.cell? ⟨Bo, o, none⟩ = (#[v] : Array Value)[o]? := fun o => (World.cell?_of_block (ho5.block Bo zOr fOg)).trans (oc o)
        have of5 : ∀ o, w5.frozen? ⟨Bo, o, none⟩ = false := fun o => (World.frozen?_of_block (ho5.block Bo zOr fOg)).trans (of o)
        have bc5 : ∀ o, w5.cell? ⟨Br, o, none⟩ = (#[Value.pointer (some ⟨g, 0, none⟩)] : Array Value)[o]? := fun o => (World.cell?_of_block (ho5.block Br zBr fBg)).trans (bc o)
        have tc5 : ∀ o, w5.cell? ⟨Bt, o, none⟩ = (#[Value.func (.func 46) #[] #[]] : Array Value)[o]? := fun o => (World.cell?_of_block (ho5.block Bt zTr fTg)).trans (tc o)
        have OW5 := hide (show w5.ownsRow B0 22 1 v xs.length xs from own_same HOW.out (fun k hk hk2 => ho5.block k hk2 (by have := (HOW.out.lt k hk).1; omega)))
        have hz5 : wr.heap.size ≤ w5.heap.size := ho5.size
        have HB5 := hide (show B0 ≤ wr.heap.size from by have := HB0.out; omega)
        have HK5 := hide (HK.out.trans (KB.of_only ho5 HB5.out))
        clear hR5 ho5 oc of bc tc HOW HRr HK
        go_wp2_with (at_builtin; refine wpList_append_lies _ rfl (.tmp 34) (.tmp 36) 57 rfl B0 22 i0 (.int .u64 0) 1 8 Try.underlying57 hi0 hz0 hz1 hz2 rfl (by decide) v xs.length xs rfl (OW5.out.alloc _) ⟨w5.heap.size, 0, none⟩ 1 1 [.int .u64 (rv : Int)] rfl rfl (cell_one_new _ _ _) (by intro u hu; simp at hu; subst hu; exact hOne) (by decide) (by unfold maxLen; omega) (by omega) (by (simp; have := HB5.out; omega)) _ rfl ?_; intro g2 cap2 wn hown2 hg2 hgg hgl; have hbo : wn.heap[Bo]? = w5.heap[Bo]? := far_block hg2 (by omega) (fun e => (HVN.out Bo e.symm).2.2 rfl); have cOn : ∀ o, wn.cell? ⟨Bo, o, none⟩ = (#[v] : Array Value)[o]? := fun o => (World.cell?_of_block hbo).trans (oc5 o); have fOn : ∀ o, wn.frozen? ⟨Bo, o, none⟩ = false := fun o => (World.frozen?_of_block hbo).trans (of5 o))
        have hz6 : w5.heap.size ≤ wn.heap.size := Nat.le_trans (by simp) hg2.size
        have hvo : ∀ k, v.ownBlock = some k → k < w5.heap.size := fun k hk => (OW5.out.lt k hk).2
        have hBk : ∀ k, v.ownBlock = some k → B0 ≤ k := fun k hk => (OW5.out.lt k hk).1
        have hb0 := HB0.out
        have hb5 := HB5.out
        have hbn : ∀ i, i < B0 → wn.heap[i]? = w5.heap[i]? := fun i hi => far_block hg2 (by omega) (fun e => by have := hBk i e.symm; omega)
        have hbb : wn.heap[Br]? = w5.heap[Br]? := far_block hg2 (by omega) (fun e => (HVN.out Br e.symm).1 rfl)
        have hbt : wn.heap[Bt]? = w5.heap[Bt]? := far_block hg2 (by omega) (fun e => (HVN.out Bt e.symm).2.1 rfl)
        have HK6 := hide (HK5.out.trans ⟨hg2.os, hg2.tape, hg2.output, Nat.le_trans (by simp) hg2.size, fun i hi _ => hbn i hi⟩)
        have HR6 := hide (HR5.out.same hz6 (hbn g hg) (fun i hi => hbn i (by omega)))
        have hgo : g2 ≠ Br ∧ g2 ≠ Bt ∧ g2 ≠ Bo := by
          rcases hgg with q | q
          · exact HVN.out g2 q
          · simp at q; omega
        have hn2 := HNE2.out
        have HOWN6 := hide (own_set hown2 (b := Bo) (fun k hk => by (have e : g2 = k := Option.some.inj hk); subst e; exact hgo.2.2) 0 (.slice (some ⟨g2, 0, none⟩) (xs.length + 1) cap2))
        have HTC := hide tc5
        have HBC := hide bc5
        have zOn : Bo < wn.heap.size := by omega
        have HHB := hide hbb
        have HHT := hide hbt
        have HGO := hide hgo
        clear hown2 hg2 hgg hbn hbb hbt hvo hBk HVN OW5 HK5 HR5 hbo tc5 bc5 oc5 of5
        go_wp2
        go_roundw
        case rel =>
          refine ⟨j2, rp, re, xs ++ [.int .u64 (rv : Int)], .slice (some ⟨g2, 0, none⟩) (xs.length + 1) cap2, by go_num, rfl, by omega, by (rw [List.length_append]; simp; omega), HK6.out.set hb0.2.2.2 0 _, HR6.out.set fOg (by omega) 0 _, by (have q := HOWN6.out; simpa using q), fun k hk => by (have e : g2 = k := Option.some.inj hk); subst e; exact HGO.out, ?_, ?_, ?_, ?_, by (simp; omega), ?_⟩
          · intro o; rcases o with _ | o <;> simp [go_sem, cOn]
          · intro o; simp only [World.frozen?_setCell]; exact fOn o
          · intro o; exact (World.cell?_of_block (Below.heap_setCell _ _ _ _ (by exact fun e => hn2.1 e.symm))).trans ((World.cell?_of_block HHB.out).trans (HBC.out o))
          · intro o; exact (World.cell?_of_block (Below.heap_setCell _ _ _ _ (by exact fun e => hn2.2.2 e.symm))).trans ((World.cell?_of_block HHT.out).trans (HTC.out o))
          · have q0 := HQ0.out
            have q1 := HQ1.out
            rw [HRp.out] at q0 q1
            by_cases hre : re = 0
            · subst hre
              refine .inl ⟨rfl, by (rw [List.length_append]; simp; omega), ?_⟩
              rw [HL1.out, q0 rfl]
              simp
            · refine .inr ⟨hre, ?_⟩
              rw [HL1.out]
              exact q1 hre
        case measure => (first | (simp [intOf]; done) | (simp [intOf]; omega))
    · have hl1 := hl.resolve_left (fun h => her h.1)
      have her2 : ¬ (er : Int) = 0 := by omega
      go_wp2
      go_ret
      refine ⟨v, p, by (rw [hl1.2]; rfl), HK.out, HRr.out, oc 0, fun h => absurd (hl1.2.symm.trans h) her⟩
end Go.Proofs.Ytajkgecegefnmaa

namespace Go.Proofs.Ytajkgecegefnmaa
open Go.ChangeShapes Go.WideShapes Go.ChangeAt Go.RowKit Go.Deep
set_option linter.unusedSimpArgs false
set_option linter.unusedVariables false

def RS (ns : List Nat) (a : Nat) : Value × Nat × Nat := (.string (bstr (tx ns a 9).1), (tx ns a 9).2.1, (tx ns a 9).2.2)
theorem eql117 (a b : Array Value) (w : World) : Sem.run Try.prog (binOp .eql 117 (.func (.func 67) a b) Value.nilFunc) w = .ok (.bool false) w := by kernel_rfl
theorem info9 : (Try.prog.info? 9).map (fun i => (i.zero, i.size, i.bytes)) = some (some (.string ⟨#[]⟩), 1, 16) := by kernel_rfl
theorem one_S (ns : List Nat) (a : Nat) : (RS ns a).1.oneCell' = true := rfl

set_option maxRecDepth 100000 in
set_option maxHeartbeats 1000000 in
theorem elt_S (g B : Nat) (ns : List Nat) (a : Nat) (w : World) (hR : RAny w g B ns a) : Calls Try.prog 67 #[.pointer (some ⟨g, 0, none⟩)] w (fun e w' => e = .returned (.tuple #[.string (bstr (tx ns a 9).1), .int .i64 ((tx ns a 9).2.1 : Int)]) ∧ Only g w w' ∧ RAny w' g B ns (tx ns a 9).2.2) := by
  go_enter Try.func67, Try.ntmps67
  go_wp2_with fail
  refine (RText_c g B ns a 9 _ hR (by decide)).mono ?_
  rintro e w1 ⟨rfl, ho1, hR1⟩
  have HR1 := hide hR1
  clear hR hR1
  go_wp2
  go_ret2
  exact ⟨rfl, ho1, HR1.out⟩

set_option maxRecDepth 100000 in
set_option maxHeartbeats 1000000 in
theorem tk_S_neg (g B B0 Br Bm Bt Bo bb : Nat) (ns : List Nat) (a : Nat) (m : Int) (w : World) (hR : RAny w g B ns a) (hB : ∀ o, w.cell? ⟨Br, o, none⟩ = (#[Value.pointer (some ⟨g, 0, none⟩)] : Array Value)[o]?) (hM : ∀ o, w.cell? ⟨Bm, o, none⟩ = (#[Value.int .i64 m] : Array Value)[o]?) (hT : ∀ o, w.cell? ⟨Bt, o, none⟩ = (#[Value.func (.func 67) #[] #[]] : Array Value)[o]?) (hO : ∀ o, w.cell? ⟨Bo, o, none⟩ = (#[Value.slice (some ⟨bb, 0, none⟩) 0 0] : Array Value)[o]?) (hOf : ∀ o, w.frozen? ⟨Bo, o, none⟩ = false) (hown : w.ownsRow B0 9 1 (.slice (some ⟨bb, 0, none⟩) 0 0) 0 []) (zB : Br < w.heap.size) (zM : Bm < w.heap.size) (zT : Bt < w.heap.size) (zO : Bo < w.heap.size) (hg : g < B0) (hBB : B ≤ B0) (hB0 : B0 ≤ Br ∧ B0 ≤ Bm ∧ B0 ≤ Bt ∧ B0 ≤ Bo) (hne : Br ≠ bb ∧ Bm ≠ bb ∧ Bt ≠ bb ∧ Bo ≠ bb) (hne2 : Bo ≠ Br ∧ Bo ≠ Bm ∧ Bo ≠ Bt) (hm : m < 0) : Calls Try.prog 78 #[.pointer (some ⟨Bt, 0, none⟩), .pointer (some ⟨Bm, 0, none⟩), .pointer (some ⟨Br, 0, none⟩), .pointer (some ⟨Bo, 0, none⟩)] w (fun e w' => ∃ v a', e = .returned (.int .i64 2) ∧ KB B0 g w w' ∧ RAny w' g B ns a' ∧ w'.cell? ⟨Bo, 0, none⟩ = some v) := by
  have HR := hide hR
  have HO := hide hO
  have HOF := hide hOf
  have HOWN := hide hown
  have HB := hide hB
  have HM := hide hM
  have HT := hide hT
  have HB0 := hide hB0
  have HNE := hide hne
  have HNE2 := hide hne2
  clear hR hO hOf hown hB0 hne hne2
  have Q := eql117
  have hB1 := hide HR.out.1
  go_enter Try.func78, Try.ntmps78
  go_wp2
  go_ret
  exact ⟨_, a, rfl, KB.refl _ _ _, HR.out, HO.out 0⟩

set_option maxRecDepth 100000 in
set_option maxHeartbeats 1000000 in
theorem tk_S_bad (g B B0 Br Bm Bt Bo bb : Nat) (ns : List Nat) (a : Nat) (m : Nat) (w : World) (hR : RAny w g B ns a) (hB : ∀ o, w.cell? ⟨Br, o, none⟩ = (#[Value.pointer (some ⟨g, 0, none⟩)] : Array Value)[o]?) (hM : ∀ o, w.cell? ⟨Bm, o, none⟩ = (#[Value.int .i64 (m : Int)] : Array Value)[o]?) (hT : ∀ o, w.cell? ⟨Bt, o, none⟩ = (#[Value.func (.func 67) #[] #[]] : Array Value)[o]?) (hO : ∀ o, w.cell? ⟨Bo, o, none⟩ = (#[Value.slice (some ⟨bb, 0, none⟩) 0 0] : Array Value)[o]?) (hOf : ∀ o, w.frozen? ⟨Bo, o, none⟩ = false) (hown : w.ownsRow B0 9 1 (.slice (some ⟨bb, 0, none⟩) 0 0) 0 []) (zB : Br < w.heap.size) (zM : Bm < w.heap.size) (zT : Bt < w.heap.size) (zO : Bo < w.heap.size) (hg : g < B0) (hBB : B ≤ B0) (hB0 : B0 ≤ Br ∧ B0 ≤ Bm ∧ B0 ≤ Bt ∧ B0 ≤ Bo) (hne : Br ≠ bb ∧ Bm ≠ bb ∧ Bt ≠ bb ∧ Bo ≠ bb) (hne2 : Bo ≠ Br ∧ Bo ≠ Bm ∧ Bo ≠ Bt) (hm : m ≤ 9223372036854775807) (hE : (lg ns a m).2.1 ≠ 0) : Calls Try.prog 78 #[.pointer (some ⟨Bt, 0, none⟩), .pointer (some ⟨Bm, 0, none⟩), .pointer (some ⟨Br, 0, none⟩), .pointer (some ⟨Bo, 0, none⟩)] w (fun e w' => ∃ v a', e = .returned (.int .i64 ((lg ns a m).2.1 : Int)) ∧ KB B0 g w w' ∧ RAny w' g B ns a' ∧ w'.cell? ⟨Bo, 0, none⟩ = some v) := by
  have hE2 : ((lg ns a m).2.1 : Int) ≠ 0 := by omega
  have HR := hide hR
  have HO := hide hO
  have HOF := hide hOf
  have HOWN := hide hown
  have HB := hide hB
  have HM := hide hM
  have HT := hide hT
  have HB0 := hide hB0
  have HNE := hide hne
  have HNE2 := hide hne2
  clear hR hO hOf hown hB0 hne hne2
  have Q := eql117
  go_enter Try.func78, Try.ntmps78
  go_wp2_with fail
  refine (long_c g B ns a m _ HR.out hm).mono ?_
  rintro e w1 ⟨rfl, ho1, hR1⟩
  have HR1 := hide hR1
  have k1 : KB B0 g w w1 := KB.of_only ho1 (by have := HB0.out; omega)
  have fOg : Bo ≠ g := by have := HB0.out; omega
  have fBg : Br ≠ g := by have := HB0.out; omega
  have fTg : Bt ≠ g := by have := HB0.out; omega
  have OC : ∀ o, w1.cell? ⟨Bo, o, none⟩ = (#[Value.slice (some ⟨bb, 0, none⟩) 0 0] : Array Value)[o]? := fun o => (World.cell?_of_block (ho1.block Bo zO fOg)).trans (HO.out o)
  have OF : ∀ o, w1.frozen? ⟨Bo, o, none⟩ = false := fun o => (World.frozen?_of_block (ho1.block Bo zO fOg)).trans (HOF.out o)
  have BC : ∀ o, w1.cell? ⟨Br, o, none⟩ = (#[Value.pointer (some ⟨g, 0, none⟩)] : Array Value)[o]? := fun o => (World.cell?_of_block (ho1.block Br zB fBg)).trans (HB.out o)
  have TC : ∀ o, w1.cell? ⟨Bt, o, none⟩ = (#[Value.func (.func 67) #[] #[]] : Array Value)[o]? := fun o => (World.cell?_of_block (ho1.block Bt zT fTg)).trans (HT.out o)
  have zO1 : Bo < w1.heap.size := Nat.lt_of_lt_of_le zO ho1.size
  have zB1 : Br < w1.heap.size := Nat.lt_of_lt_of_le zB ho1.size
  have zT1 : Bt < w1.heap.size := Nat.lt_of_lt_of_le zT ho1.size
  have own1 : w1.ownsRow B0 9 1 (.slice (some ⟨bb, 0, none⟩) 0 0) 0 [] := own_same HOWN.out (fun k hk hk2 => ho1.block k hk2 (by
    have e : bb = k := Option.some.inj hk
    have := HOWN.out.lt k hk
    omega))
  have OWN1 := hide own1
  clear hR1 own1 ho1 hB hM hT
  go_wp2
  go_loopw [6] (fun v6 wr => v6 = .int .i64 ((lg ns a m).2.1 : Int) ∧ wr = w1) (fun _ _ => 0)
  case atStart => exact ⟨rfl, rfl⟩
  case round =>
    obtain ⟨rfl, rfl⟩ := hrel
    go_wp2
    go_ret
    exact ⟨_, _, rfl, k1, HR1.out, OC 0⟩

set_option maxRecDepth 100000 in
set_option maxHeartbeats 2000000 in
theorem tk_S_ok (g B B0 Br Bm Bt Bo bb : Nat) (ns : List Nat) (a : Nat) (m n pl : Nat) (w : World) (hR : RAny w g B ns a) (hB : ∀ o, w.cell? ⟨Br, o, none⟩ = (#[Value.pointer (some ⟨g, 0, none⟩)] : Array Value)[o]?) (hM : ∀ o, w.cell? ⟨Bm, o, none⟩ = (#[Value.int .i64 (m : Int)] : Array Value)[o]?) (hT : ∀ o, w.cell? ⟨Bt, o, none⟩ = (#[Value.func (.func 67) #[] #[]] : Array Value)[o]?) (hO : ∀ o, w.cell? ⟨Bo, o, none⟩ = (#[Value.slice (some ⟨bb, 0, none⟩) 0 0] : Array Value)[o]?) (hOf : ∀ o, w.frozen? ⟨Bo, o, none⟩ = false) (hown : w.ownsRow B0 9 1 (.slice (some ⟨bb, 0, none⟩) 0 0) 0 []) (zB : Br < w.heap.size) (zM : Bm < w.heap.size) (zT : Bt < w.heap.size) (zO : Bo < w.heap.size) (hg : g < B0) (hBB : B ≤ B0) (hB0 : B0 ≤ Br ∧ B0 ≤ Bm ∧ B0 ≤ Bt ∧ B0 ≤ Bo) (hne : Br ≠ bb ∧ Bm ≠ bb ∧ Bt ≠ bb ∧ Bo ≠ bb) (hne2 : Bo ≠ Br ∧ Bo ≠ Bm ∧ Bo ≠ Bt) (hm : m ≤ 9223372036854775807) (hnl : ns.length ≤ 1099511627776) (hE : lg ns a m = (n, 0, pl)) : Calls Try.prog 78 #[.pointer (some ⟨Bt, 0, none⟩), .pointer (some ⟨Bm, 0, none⟩), .pointer (some ⟨Br, 0, none⟩), .pointer (some ⟨Bo, 0, none⟩)] w (fun e w' => ∃ v a', e = .returned (.int .i64 ((tk (RS ns) n pl).2.1 : Int)) ∧ KB B0 g w w' ∧ RAny w' g B ns a' ∧ w'.cell? ⟨Bo, 0, none⟩ = some v ∧ ((tk (RS ns) n pl).2.1 = 0 → a' = (tk (RS ns) n pl).2.2 ∧ w'.ownsRow B0 9 1 v (tk (RS ns) n pl).1.length (tk (RS ns) n pl).1)) := by
  obtain ⟨i0, hi0, hz0, hz1, hz2⟩ := info_parts info9
  have hnn : n ≤ ns.length := by
    have q := lg_ok ns a m (by rw [hE])
    have q2 : (rd ns a).1 = n := by (have := q.2.2.2; rw [hE] at this; exact (Prod.mk.inj this).1.symm)
    omega
  have HR := hide hR
  have HO := hide hO
  have HOF := hide hOf
  have HOWN := hide hown
  have HB := hide hB
  have HM := hide hM
  have HT := hide hT
  have HB0 := hide hB0
  have HNE := hide hne
  have HNE2 := hide hne2
  clear hR hO hOf hown hB0 hne hne2
  have Q := eql117
  go_enter Try.func78, Try.ntmps78
  go_wp2_with fail
  refine (long_c g B ns a m _ HR.out hm).mono ?_
  rw [hE]
  rintro e w1 ⟨rfl, ho1, hR1⟩
  have HR1 := hide hR1
  have k1 : KB B0 g w w1 := KB.of_only ho1 (by have := HB0.out; omega)
  have fOg : Bo ≠ g := by have := HB0.out; omega
  have fBg : Br ≠ g := by have := HB0.out; omega
  have fTg : Bt ≠ g := by have := HB0.out; omega
  have OC : ∀ o, w1.cell? ⟨Bo, o, none⟩ = (#[Value.slice (some ⟨bb, 0, none⟩) 0 0] : Array Value)[o]? := fun o => (World.cell?_of_block (ho1.block Bo zO fOg)).trans (HO.out o)
  have OF : ∀ o, w1.frozen? ⟨Bo, o, none⟩ = false := fun o => (World.frozen?_of_block (ho1.block Bo zO fOg)).trans (HOF.out o)
  have BC : ∀ o, w1.cell? ⟨Br, o, none⟩ = (#[Value.pointer (some ⟨g, 0, none⟩)] : Array Value)[o]? := fun o => (World.cell?_of_block (ho1.block Br zB fBg)).trans (HB.out o)
  have TC : ∀ o, w1.cell? ⟨Bt, o, none⟩ = (#[Value.func (.func 67) #[] #[]] : Array Value)[o]? := fun o => (World.cell?_of_block (ho1.block Bt zT fTg)).trans (HT.out o)
  have zO1 : Bo < w1.heap.size := Nat.lt_of_lt_of_le zO ho1.size
  have zB1 : Br < w1.heap.size := Nat.lt_of_lt_of_le zB ho1.size
  have zT1 : Bt < w1.heap.size := Nat.lt_of_lt_of_le zT ho1.size
  have own1 : w1.ownsRow B0 9 1 (.slice (some ⟨bb, 0, none⟩) 0 0) 0 [] := own_same HOWN.out (fun k hk hk2 => ho1.block k hk2 (by
    have e : bb = k := Option.some.inj hk
    have := HOWN.out.lt k hk
    omega))
  have OWN1 := hide own1
  clear hR1 own1 ho1 hB hM hT
  clear HR HO HOF HOWN HB HM HT
  go_wp2_with fail
  go_loopw [5, 6] (fun v5 v6 wr => ∃ (j p er : Nat) (xs : List Value) (v : Value), v5 = .int .i64 (j : Int) ∧ v6 = .int .i64 (er : Int) ∧ j ≤ n ∧ xs.length ≤ n ∧ KB B0 g w wr ∧ RAny wr g B ns p ∧ wr.ownsRow B0 9 1 v xs.length xs ∧ (∀ k, v.ownBlock = some k → k ≠ Br ∧ k ≠ Bt ∧ k ≠ Bo) ∧ (∀ o, wr.cell? ⟨Bo, o, none⟩ = (#[v] : Array Value)[o]?) ∧ (∀ o, wr.frozen? ⟨Bo, o, none⟩ = false) ∧ (∀ o, wr.cell? ⟨Br, o, none⟩ = (#[Value.pointer (some ⟨g, 0, none⟩)] : Array Value)[o]?) ∧ (∀ o, wr.cell? ⟨Bt, o, none⟩ = (#[Value.func (.func 67) #[] #[]] : Array Value)[o]?) ∧ w1.heap.size ≤ wr.heap.size ∧ ((er = 0 ∧ xs.length + j = n ∧ tk (RS ns) n pl = (xs ++ (tk (RS ns) j p).1, (tk (RS ns) j p).2.1, (tk (RS ns) j p).2.2)) ∨ (er ≠ 0 ∧ (tk (RS ns) n pl).2.1 = er))) (fun v5 _ _ => (intOf v5).toNat)
  case atStart => exact ⟨n, pl, 0, [], _, rfl, rfl, Nat.le_refl _, Nat.zero_le _, k1, HR1.out, OWN1.out, fun k hk => by (have e : bb = k := Option.some.inj hk; have := HNE.out; subst e; exact ⟨fun h => this.1 h.symm, fun h => this.2.2.1 h.symm, fun h => this.2.2.2 h.symm⟩), OC, OF, BC, TC, Nat.le_refl _, .inl ⟨rfl, by simp, by simp⟩⟩
  case round =>
    obtain ⟨j, p, er, xs, v, rfl, rfl, hj, hxn, hk, hRr, hown, hvn, oc, of, bc, tc, hz, hl⟩ := hrel
    have HK := hide hk
    have HRr := hide hRr
    have HOW := hide hown
    have HVN := hide hvn
    clear hk hRr hown hvn OC OF BC TC k1 HR1 OWN1
    by_cases her : er = 0
    · subst her
      have hl1 := hl.resolve_right (fun h => h.1 rfl)
      clear hl
      have HL1 := hide hl1.2.2
      have hxl := hl1.2.1
      clear hl1
      by_cases hj0 : j = 0
      · subst hj0
        go_wp2
        go_ret
        have q := HL1.out
        have e2 : (tk (RS ns) n pl).2.1 = 0 := by rw [q]; rfl
        refine ⟨v, p, by rw [e2]; rfl, HK.out, HRr.out, oc 0, fun _ => ?_⟩
        rw [q]
        exact ⟨rfl, by (have e3 : xs ++ (tk (RS ns) 0 p).1 = xs := List.append_nil _); rw [e3]; exact HOW.out⟩
      · have hjp : (0 : Int) < (j : Int) := by omega
        obtain ⟨j2, rfl⟩ : ∃ j2, j = j2 + 1 := ⟨j - 1, by omega⟩
        go_wp2_with fail
        refine (elt_S g B ns p _ HRr.out).mono ?_
        rintro e w5 ⟨rfl, ho5, hR5⟩
        have q0 := tk_ok (RS ns) j2 p
        have q1 := tk_bad (RS ns) j2 p
        have hOne := one_S ns p
        have HQ0 := hide q0
        have HQ1 := hide q1
        clear q0 q1
        have hRp : RS ns p = (.string (bstr (tx ns p 9).1), (tx ns p 9).2.1, (tx ns p 9).2.2) := rfl
        rw [hRp] at hOne
        have HRp := hide hRp
        clear hRp
        generalize bstr (tx ns p 9).1 = rv at *
        generalize (tx ns p 9).2.1 = re at *
        generalize (tx ns p 9).2.2 = rp at *
        have HR5 := hide hR5
        have fOg : Bo ≠ g := by have := HB0.out; omega
        have fBg : Br ≠ g := by have := HB0.out; omega
        have fTg : Bt ≠ g := by have := HB0.out; omega
        have zOr : Bo < wr.heap.size := by omega
        have zBr : Br < wr.heap.size := by omega
        have zTr : Bt < wr.heap.size := by omega
        have oc5 : ∀ o, w5.cell? ⟨Bo, o, none⟩ = (#[v] : Array Value)[o]? := fun o => (World.cell?_of_block (ho5.block Bo zOr fOg)).trans (oc o)
        have of5 : ∀ o, w5.frozen? ⟨Bo, o, none⟩ = false := fun o => (World.frozen?_of_block (ho5.block Bo zOr fOg)).trans (of o)
        have bc5 : ∀ o, w5.cell? ⟨Br, o, none⟩ = (#[Value.pointer (some ⟨g, 0, none⟩)] : Array Value)[o]? := fun o => (World.cell?_of_block (ho5.block Br zBr fBg)).trans (bc o)
        have tc5 : ∀ o, w5.cell? ⟨Bt, o, none⟩ = (#[Value.func (.func 67) #[] #[]] : Array Value)[o]? := fun o => (World.cell?_of_block (ho5.block Bt zTr fTg)).trans (tc o)
        have OW5 := hide (show w5.ownsRow B0 9 1 v xs.length xs from own_same HOW.out (fun k hk hk2 => ho5.block k hk2 (by have := (HOW.out.lt k hk).1; omega)))
        have hz5 : wr.heap.size ≤ w5.heap.size := ho5.size
        have HB5 := hide (show B0 ≤ wr.heap.size from by have := HB0.out; omega)
        have HK5 := hide (HK.out.trans (KB.of_only ho5 HB5.out))
        clear hR5 ho5 oc of bc tc HOW HRr HK
        go_wp2_with (at_builtin; refine wpList_append_lies _ rfl (.tmp 34) (.tmp 36) 58 rfl B0 9 i0 (.string ⟨#[]⟩) 1 16 Try.underlying58 hi0 hz0 hz1 hz2 rfl (by decide) v xs.length xs rfl (OW5.out.alloc _) ⟨w5.heap.size, 0, none⟩ 1 1 [.string rv] rfl rfl (cell_one_new _ _ _) (by intro u hu; simp at hu; subst hu; exact hOne) (by decide) (by unfold maxLen; omega) (by omega) (by (simp; have := HB5.out; omega)) _ rfl ?_; intro g2 cap2 wn hown2 hg2 hgg hgl; have hbo : wn.heap[Bo]? = w5.heap[Bo]? := far_block hg2 (by omega) (fun e => (HVN.out Bo e.symm).2.2 rfl); have cOn : ∀ o, wn.cell? ⟨Bo, o, none⟩ = (#[v] : Array Value)[o]? := fun o => (World.cell?_of_block hbo).trans (oc5 o); have fOn : ∀ o, wn.frozen? ⟨Bo, o, none⟩ = false := fun o => (World.frozen?_of_block hbo).trans (of5 o))
        have hz6 : w5.heap.size ≤ wn.heap.size := Nat.le_trans (by simp) hg2.size
        have hvo : ∀ k, v.ownBlock = some k → k < w5.heap.size := fun k hk => (OW5.out.lt k hk).2
        have hBk : ∀ k, v.ownBlock = some k → B0 ≤ k := fun k hk => (OW5.out.lt k hk).1
        have hb0 := HB0.out
        have hb5 := HB5.out
        have hbn : ∀ i, i < B0 → wn.heap[i]? = w5.heap[i]? := fun i hi => far_block hg2 (by omega) (fun e => by have := hBk i e.symm; omega)
        have hbb : wn.heap[Br]? = w5.heap[Br]? := far_block hg2 (by omega) (fun e => (HVN.out Br e.symm).1 rfl)
        have hbt : wn.heap[Bt]? = w5.heap[Bt]? := far_block hg2 (by omega) (fun e => (HVN.out Bt e.symm).2.1 rfl)
        have HK6 := hide (HK5.out.trans ⟨hg2.os, hg2.tape, hg2.output, Nat.le_trans (by simp) hg2.size, fun i hi _ => hbn i hi⟩)
        have HR6 := hide (HR5.out.same hz6 (hbn g hg) (fun i hi => hbn i (by omega)))
        have hgo : g2 ≠ Br ∧ g2 ≠ Bt ∧ g2 ≠ Bo := by
          rcases hgg with q | q
          · exact HVN.out g2 q
          · simp at q; omega
        have hn2 := HNE2.out
        have HOWN6 := hide (own_set hown2 (b := Bo) (fun k hk => by (have e : g2 = k := Option.some.inj hk); subst e; exact hgo.2.2) 0 (.slice (some ⟨g2, 0, none⟩) (xs.length + 1) cap2))
        have HTC := hide tc5
        have HBC := hide bc5
        have zOn : Bo < wn.heap.size := by omega
        have HHB := hide hbb
        have HHT := hide hbt
        have HGO := hide hgo
        clear hown2 hg2 hgg hbn hbb hbt hvo hBk HVN OW5 HK5 HR5 hbo tc5 bc5 oc5 of5
        go_wp2
        go_roundw
        case rel =>
          refine ⟨j2, rp, re, xs ++ [.string rv], .slice (some ⟨g2, 0, none⟩) (xs.length + 1) cap2, by go_num, rfl, by omega, by (rw [List.length_append]; simp; omega), HK6.out.set hb0.2.2.2 0 _, HR6.out.set fOg (by omega) 0 _, by (have q := HOWN6.out; simpa using q), fun k hk => by (have e : g2 = k := Option.some.inj hk); subst e; exact HGO.out, ?_, ?_, ?_, ?_, by (simp; omega), ?_⟩
          · intro o; rcases o with _ | o <;> simp [go_sem, cOn]
          · intro o; simp only [World.frozen?_setCell]; exact fOn o
          · intro o; exact (World.cell?_of_block (Below.heap_setCell _ _ _ _ (by exact fun e => hn2.1 e.symm))).trans ((World.cell?_of_block HHB.out).trans (HBC.out o))
          · intro o; exact (World.cell?_of_block (Below.heap_setCell _ _ _ _ (by exact fun e => hn2.2.2 e.symm))).trans ((World.cell?_of_block HHT.out).trans (HTC.out o))
          · have q0 := HQ0.out
            have q1 := HQ1.out
            rw [HRp.out] at q0 q1
            by_cases hre : re = 0
            · subst hre
              refine .inl ⟨rfl, by (rw [List.length_append]; simp; omega), ?_⟩
              rw [HL1.out, q0 rfl]
              simp
            · refine .inr ⟨hre, ?_⟩
              rw [HL1.out]
              exact q1 hre
        case measure => (first | (simp [intOf]; done) | (simp [intOf]; omega))
    · have hl1 := hl.resolve_left (fun h => her h.1)
      have her2 : ¬ (er : Int) = 0 := by omega
      go_wp2
      go_ret
      refine ⟨v, p, by (rw [hl1.2]; rfl), HK.out, HRr.out, oc 0, fun h => absurd (hl1.2.symm.trans h) her⟩
end Go.Proofs.Ytajkgecegefnmaa

namespace Go.Proofs.Ytajkgecegefnmaa
open Go.ChangeShapes Go.WideShapes Go.ChangeAt Go.RowKit Go.Deep
set_option linter.unusedSimpArgs false
set_option linter.unusedVariables false

set_option maxRecDepth 100000 in
set_option maxHeartbeats 2000000 in
theorem Take_U_neg (g B : Nat) (ns : List Nat) (a : Nat) (m : Int) (w : World) (hR : RAny w g B ns a) (hm : m < 0) : Calls Try.prog 45 #[.pointer (some ⟨g, 0, none⟩), .int .i64 m, .func (.func 46) #[] #[]] w (fun e w' => ∃ v, e = .returned (.tuple #[v, .int .i64 2]) ∧ Only g w w' ∧ RAny w' g B ns a ∧ w'.ownsRow w.heap.size 22 1 v ([] : List Value).length ([] : List Value)) := by
  have hB0 : Below w.heap.size w (((((w.alloc (.cells #[Value.pointer (some ⟨g, 0, none⟩)] 35)).alloc (.cells #[Value.int .i64 m] 3)).alloc (.cells #[Value.func (.func 46) #[] #[]] 73)).alloc (.cells #[] 22)).alloc (.cells #[Value.slice (some ⟨w.heap.size + 3, 0, none⟩) 0 0] 57)) := by (focus repeat' (first | (with_reducible exact Below.refl _ _) | (with_reducible assumption) | (with_reducible refine Below.alloc ?_ ?_ _) | (with_reducible refine Below.drew ?_) | (with_reducible refine bdrewN ?_ _) | (with_reducible refine Below.setCell ?_ ?_ _) | (first | (with_reducible exact Nat.le_refl _) | (with_reducible assumption) | omega | (simp; omega) | (simp; done))))
  have HR0 := hide (hR.below hB0)
  have HB0 := hide hB0
  have cB : ∀ o, (((((w.alloc (.cells #[Value.pointer (some ⟨g, 0, none⟩)] 35)).alloc (.cells #[Value.int .i64 m] 3)).alloc (.cells #[Value.func (.func 46) #[] #[]] 73)).alloc (.cells #[] 22)).alloc (.cells #[Value.slice (some ⟨w.heap.size + 3, 0, none⟩) 0 0] 57)).cell? ⟨w.heap.size + 0, o, none⟩ = (#[Value.pointer (some ⟨g, 0, none⟩)] : Array Value)[o]? := fun o => by simp [go_sem]
  have cM : ∀ o, (((((w.alloc (.cells #[Value.pointer (some ⟨g, 0, none⟩)] 35)).alloc (.cells #[Value.int .i64 m] 3)).alloc (.cells #[Value.func (.func 46) #[] #[]] 73)).alloc (.cells #[] 22)).alloc (.cells #[Value.slice (some ⟨w.heap.size + 3, 0, none⟩) 0 0] 57)).cell? ⟨w.heap.size + 1, o, none⟩ = (#[Value.int .i64 m] : Array Value)[o]? := fun o => by simp [go_sem]
  have cT : ∀ o, (((((w.alloc (.cells #[Value.pointer (some ⟨g, 0, none⟩)] 35)).alloc (.cells #[Value.int .i64 m] 3)).alloc (.cells #[Value.func (.func 46) #[] #[]] 73)).alloc (.cells #[] 22)).alloc (.cells #[Value.slice (some ⟨w.heap.size + 3, 0, none⟩) 0 0] 57)).cell? ⟨w.heap.size + 2, o, none⟩ = (#[Value.func (.func 46) #[] #[]] : Array Value)[o]? := fun o => by simp [go_sem]
  have cO : ∀ o, (((((w.alloc (.cells #[Value.pointer (some ⟨g, 0, none⟩)] 35)).alloc (.cells #[Value.int .i64 m] 3)).alloc (.cells #[Value.func (.func 46) #[] #[]] 73)).alloc (.cells #[] 22)).alloc (.cells #[Value.slice (some ⟨w.heap.size + 3, 0, none⟩) 0 0] 57)).cell? ⟨w.heap.size + 4, o, none⟩ = (#[Value.slice (some ⟨w.heap.size + 3, 0, none⟩) 0 0] : Array Value)[o]? := fun o => by simp [go_sem]
  have fO : ∀ o, (((((w.alloc (.cells #[Value.pointer (some ⟨g, 0, none⟩)] 35)).alloc (.cells #[Value.int .i64 m] 3)).alloc (.cells #[Value.func (.func 46) #[] #[]] 73)).alloc (.cells #[] 22)).alloc (.cells #[Value.slice (some ⟨w.heap.size + 3, 0, none⟩) 0 0] 57)).frozen? ⟨w.heap.size + 4, o, none⟩ = false := fun o => by simp [go_sem]
  have zB : w.heap.size + 0 < (((((w.alloc (.cells #[Value.pointer (some ⟨g, 0, none⟩)] 35)).alloc (.cells #[Value.int .i64 m] 3)).alloc (.cells #[Value.func (.func 46) #[] #[]] 73)).alloc (.cells #[] 22)).alloc (.cells #[Value.slice (some ⟨w.heap.size + 3, 0, none⟩) 0 0] 57)).heap.size := by (first | (with_reducible exact Nat.le_refl _) | (with_reducible assumption) | omega | (simp; omega) | (simp; done))
  have zM : w.heap.size + 1 < (((((w.alloc (.cells #[Value.pointer (some ⟨g, 0, none⟩)] 35)).alloc (.cells #[Value.int .i64 m] 3)).alloc (.cells #[Value.func (.func 46) #[] #[]] 73)).alloc (.cells #[] 22)).alloc (.cells #[Value.slice (some ⟨w.heap.size + 3, 0, none⟩) 0 0] 57)).heap.size := by (first | (with_reducible exact Nat.le_refl _) | (with_reducible assumption) | omega | (simp; omega) | (simp; done))
  have zT : w.heap.size + 2 < (((((w.alloc (.cells #[Value.pointer (some ⟨g, 0, none⟩)] 35)).alloc (.cells #[Value.int .i64 m] 3)).alloc (.cells #[Value.func (.func 46) #[] #[]] 73)).alloc (.cells #[] 22)).alloc (.cells #[Value.slice (some ⟨w.heap.size + 3, 0, none⟩) 0 0] 57)).heap.size := by (first | (with_reducible exact Nat.le_refl _) | (with_reducible assumption) | omega | (simp; omega) | (simp; done))
  have zO : w.heap.size + 4 < (((((w.alloc (.cells #[Value.pointer (some ⟨g, 0, none⟩)] 35)).alloc (.cells #[Value.int .i64 m] 3)).alloc (.cells #[Value.func (.func 46) #[] #[]] 73)).alloc (.cells #[] 22)).alloc (.cells #[Value.slice (some ⟨w.heap.size + 3, 0, none⟩) 0 0] 57)).heap.size := by (first | (with_reducible exact Nat.le_refl _) | (with_reducible assumption) | omega | (simp; omega) | (simp; done))
  have own : (((((w.alloc (.cells #[Value.pointer (some ⟨g, 0, none⟩)] 35)).alloc (.cells #[Value.int .i64 m] 3)).alloc (.cells #[Value.func (.func 46) #[] #[]] 73)).alloc (.cells #[] 22)).alloc (.cells #[Value.slice (some ⟨w.heap.size + 3, 0, none⟩) 0 0] 57)).ownsRow w.heap.size 22 1 (.slice (some ⟨w.heap.size + 3, 0, none⟩) 0 0) 0 [] := by
    have q := (own_empty (((w.alloc (.cells #[Value.pointer (some ⟨g, 0, none⟩)] 35)).alloc (.cells #[Value.int .i64 m] 3)).alloc (.cells #[Value.func (.func 46) #[] #[]] 73)) 22 1 w.heap.size (by (simp; omega))).alloc (.cells #[Value.slice (some ⟨w.heap.size + 3, 0, none⟩) 0 0] 57)
    simpa using q
  have hg : g < w.heap.size := hR.cells.1
  have hb : B ≤ w.heap.size := hR.1
  have hle : a ≤ ns.length := hR.more.1
  obtain ⟨r1, r2, r3⟩ := HR0.out.cells
  clear hR hB0
  have CB := hide cB
  have CM := hide cM
  have CT := hide cT
  have CO := hide cO
  have FO := hide fO
  have OWN := hide own
  clear own cB cM cT cO fO
  go_enter Try.func45, Try.ntmps45
  go_wp2_with (go_at_call 52; go_in)
  refine (tk_U_neg g B w.heap.size (w.heap.size + 0) (w.heap.size + 1) (w.heap.size + 2) (w.heap.size + 4) (w.heap.size + 3) ns a m _ HR0.out CB.out CM.out CT.out CO.out FO.out OWN.out zB zM zT zO hg hb (by omega) (by omega) (by omega) hm).mono ?_
  rintro e w1 ⟨v, a', rfl, ho, hR1, hx⟩
  have HO := hide ho
  have HR1 := hide hR1
  obtain ⟨t1, t2, t3⟩ := hR1.cells
  clear ho hR1 r1 r2 r3 zB zM zT zO CB CM CT CO FO OWN
  go_wp2
  go_ret2
  exact ⟨_, rfl, (KB.only HB0.out HO.out).set 1 _, HR1.out.reset hle, by (refine ⟨rfl, .inl ⟨rfl, rfl⟩⟩)⟩

set_option maxRecDepth 100000 in
set_option maxHeartbeats 2000000 in
theorem Take_U_bad (g B : Nat) (ns : List Nat) (a : Nat) (m : Nat) (w : World) (hR : RAny w g B ns a) (hm : m ≤ 9223372036854775807) (hE : (lg ns a m).2.1 ≠ 0) : Calls Try.prog 45 #[.pointer (some ⟨g, 0, none⟩), .int .i64 (m : Int), .func (.func 46) #[] #[]] w (fun e w' => ∃ v, e = .returned (.tuple #[v, .int .i64 ((lg ns a m).2.1 : Int)]) ∧ Only g w w' ∧ RAny w' g B ns a ∧ w'.ownsRow w.heap.size 22 1 v ([] : List Value).length ([] : List Value)) := by
  have hE2 : ((lg ns a m).2.1 : Int) ≠ 0 := by omega
  have hB0 : Below w.heap.size w (((((w.alloc (.cells #[Value.pointer (some ⟨g, 0, none⟩)] 35)).alloc (.cells #[Value.int .i64 (m : Int)] 3)).alloc (.cells #[Value.func (.func 46) #[] #[]] 73)).alloc (.cells #[] 22)).alloc (.cells #[Value.slice (some ⟨w.heap.size + 3, 0, none⟩) 0 0] 57)) := by (focus repeat' (first | (with_reducible exact Below.refl _ _) | (with_reducible assumption) | (with_reducible refine Below.alloc ?_ ?_ _) | (with_reducible refine Below.drew ?_) | (with_reducible refine bdrewN ?_ _) | (with_reducible refine Below.setCell ?_ ?_ _) | (first | (with_reducible exact Nat.le_refl _) | (with_reducible assumption) | omega | (simp; omega) | (simp; done))))
  have HR0 := hide (hR.below hB0)
  have HB0 := hide hB0
  have cB : ∀ o, (((((w.alloc (.cells #[Value.pointer (some ⟨g, 0, none⟩)] 35)).alloc (.cells #[Value.int .i64 (m : Int)] 3)).alloc (.cells #[Value.func (.func 46) #[] #[]] 73)).alloc (.cells #[] 22)).alloc (.cells #[Value.slice (some ⟨w.heap.size + 3, 0, none⟩) 0 0] 57)).cell? ⟨w.heap.size + 0, o, none⟩ = (#[Value.pointer (some ⟨g, 0, none⟩)] : Array Value)[o]? := fun o => by simp [go_sem]
  have cM : ∀ o, (((((w.alloc (.cells #[Value.pointer (some ⟨g, 0, none⟩)] 35)).alloc (.cells #[Value.int .i64 (m : Int)] 3)).alloc (.cells #[Value.func (.func 46) #[] #[]] 73)).alloc (.cells #[] 22)).alloc (.cells #[Value.slice (some ⟨w.heap.size + 3, 0, none⟩) 0 0] 57)).cell? ⟨w.heap.size + 1, o, none⟩ = (#[Value.int .i64 (m : Int)] : Array Value)[o]? := fun o => by simp [go_sem]
  have cT : ∀ o, (((((w.alloc (.cells #[Value.pointer (some ⟨g, 0, none⟩)] 35)).alloc (.cells #[Value.int .i64 (m : Int)] 3)).alloc (.cells #[Value.func (.func 46) #[] #[]] 73)).alloc (.cells #[] 22)).alloc (.cells #[Value.slice (some ⟨w.heap.size + 3, 0, none⟩) 0 0] 57)).cell? ⟨w.heap.size + 2, o, none⟩ = (#[Value.func (.func 46) #[] #[]] : Array Value)[o]? := fun o => by simp [go_sem]
  have cO : ∀ o, (((((w.alloc (.cells #[Value.pointer (some ⟨g, 0, none⟩)] 35)).alloc (.cells #[Value.int .i64 (m : Int)] 3)).alloc (.cells #[Value.func (.func 46) #[] #[]] 73)).alloc (.cells #[] 22)).alloc (.cells #[Value.slice (some ⟨w.heap.size + 3, 0, none⟩) 0 0] 57)).cell? ⟨w.heap.size + 4, o, none⟩ = (#[Value.slice (some ⟨w.heap.size + 3, 0, none⟩) 0 0] : Array Value)[o]? := fun o => by simp [go_sem]
  have fO : ∀ o, (((((w.alloc (.cells #[Value.pointer (some ⟨g, 0, none⟩)] 35)).alloc (.cells #[Value.int .i64 (m : Int)] 3)).alloc (.cells #[Value.func (.func 46) #[] #[]] 73)).alloc (.cells #[] 22)).alloc (.cells #[Value.slice (some ⟨w.heap.size + 3, 0, none⟩) 0 0] 57)).frozen? ⟨w.heap.size + 4, o, none⟩ = false := fun o => by simp [go_sem]
  have zB : w.heap.size + 0 < (((((w.alloc (.cells #[Value.pointer (some ⟨g, 0, none⟩)] 35)).alloc (.cells #[Value.int .i64 (m : Int)] 3)).alloc (.cells #[Value.func (.func 46) #[] #[]] 73)).alloc (.cells #[] 22)).alloc (.cells #[Value.slice (some ⟨w.heap.size + 3, 0, none⟩) 0 0] 57)).heap.size := by (first | (with_reducible exact Nat.le_refl _) | (with_reducible assumption) | omega | (simp; omega) | (simp; done))
  have zM : w.heap.size + 1 < (((((w.alloc (.cells #[Value.pointer (some ⟨g, 0, none⟩)] 35)).alloc (.cells #[Value.int .i64 (m : Int)] 3)).alloc (.cells #[Value.func (.func 46) #[] #[]] 73)).alloc (.cells #[] 22)).alloc (.cells #[Value.slice (some ⟨w.heap.size + 3, 0, none⟩) 0 0] 57)).heap.size := by (first | (with_reducible exact Nat.le_refl _) | (with_reducible assumption) | omega | (simp; omega) | (simp; done))
  have zT : w.heap.size + 2 < (((((w.alloc (.cells #[Value.pointer (some ⟨g, 0, none⟩)] 35)).alloc (.cells #[Value.int .i64 (m : Int)] 3)).alloc (.cells #[Value.func (.func 46) #[] #[]] 73)).alloc (.cells #[] 22)).alloc (.cells #[Value.slice (some ⟨w.heap.size + 3, 0, none⟩) 0 0] 57)).heap.size := by (first | (with_reducible exact Nat.le_refl _) | (with_reducible assumption) | omega | (simp; omega) | (simp; done))
  have zO : w.heap.size + 4 < (((((w.alloc (.cells #[Value.pointer (some ⟨g, 0, none⟩)] 35)).alloc (.cells #[Value.int .i64 (m : Int)] 3)).alloc (.cells #[Value.func (.func 46) #[] #[]] 73)).alloc (.cells #[] 22)).alloc (.cells #[Value.slice (some ⟨w.heap.size + 3, 0, none⟩) 0 0] 57)).heap.size := by (first | (with_reducible exact Nat.le_refl _) | (with_reducible assumption) | omega | (simp; omega) | (simp; done))
  have own : (((((w.alloc (.cells #[Value.pointer (some ⟨g, 0, none⟩)] 35)).alloc (.cells #[Value.int .i64 (m : Int)] 3)).alloc (.cells #[Value.func (.func 46) #[] #[]] 73)).alloc (.cells #[] 22)).alloc (.cells #[Value.slice (some ⟨w.heap.size + 3, 0, none⟩) 0 0] 57)).ownsRow w.heap.size 22 1 (.slice (some ⟨w.heap.size + 3, 0, none⟩) 0 0) 0 [] := by
    have q := (own_empty (((w.alloc (.cells #[Value.pointer (some ⟨g, 0, none⟩)] 35)).alloc (.cells #[Value.int .i64 (m : Int)] 3)).alloc (.cells #[Value.func (.func 46) #[] #[]] 73)) 22 1 w.heap.size (by (simp; omega))).alloc (.cells #[Value.slice (some ⟨w.heap.size + 3, 0, none⟩) 0 0] 57)
    simpa using q
  have hg : g < w.heap.size := hR.cells.1
  have hb : B ≤ w.heap.size := hR.1
  have hle : a ≤ ns.length := hR.more.1
  obtain ⟨r1, r2, r3⟩ := HR0.out.cells
  clear hR hB0
  have CB := hide cB
  have CM := hide cM
  have CT := hide cT
  have CO := hide cO
  have FO := hide fO
  have OWN := hide own
  clear own cB cM cT cO fO
  go_enter Try.func45, Try.ntmps45
  go_wp2_with (go_at_call 52; go_in)
  refine (tk_U_bad g B w.heap.size (w.heap.size + 0) (w.heap.size + 1) (w.heap.size + 2) (w.heap.size + 4) (w.heap.size + 3) ns a m _ HR0.out CB.out CM.out CT.out CO.out FO.out OWN.out zB zM zT zO hg hb (by omega) (by omega) (by omega) hm hE).mono ?_
  rintro e w1 ⟨v, a', rfl, ho, hR1, hx⟩
  have HO := hide ho
  have HR1 := hide hR1
  obtain ⟨t1, t2, t3⟩ := hR1.cells
  clear ho hR1 r1 r2 r3 zB zM zT zO CB CM CT CO FO OWN
  go_wp2
  go_ret2
  exact ⟨_, rfl, (KB.only HB0.out HO.out).set 1 _, HR1.out.reset hle, by (refine ⟨rfl, .inl ⟨rfl, rfl⟩⟩)⟩

set_option maxRecDepth 100000 in
set_option maxHeartbeats 2000000 in
theorem Take_U_cut (g B : Nat) (ns : List Nat) (a : Nat) (m n pl : Nat) (w : World) (hR : RAny w g B ns a) (hm : m ≤ 9223372036854775807) (hnl : ns.length ≤ 1099511627776) (hE : lg ns a m = (n, 0, pl)) (hC : (tk (RU ns) n pl).2.1 ≠ 0) : Calls Try.prog 45 #[.pointer (some ⟨g, 0, none⟩), .int .i64 (m : Int), .func (.func 46) #[] #[]] w (fun e w' => ∃ v, e = .returned (.tuple #[v, .int .i64 ((tk (RU ns) n pl).2.1 : Int)]) ∧ Only g w w' ∧ RAny w' g B ns a ∧ w'.ownsRow w.heap.size 22 1 v ([] : List Value).length ([] : List Value)) := by
  have hE2 : ((tk (RU ns) n pl).2.1 : Int) ≠ 0 := by omega
  have hB0 : Below w.heap.size w (((((w.alloc (.cells #[Value.pointer (some ⟨g, 0, none⟩)] 35)).alloc (.cells #[Value.int .i64 (m : Int)] 3)).alloc (.cells #[Value.func (.func 46) #[] #[]] 73)).alloc (.cells #[] 22)).alloc (.cells #[Value.slice (some ⟨w.heap.size + 3, 0, none⟩) 0 0] 57)) := by (focus repeat' (first | (with_reducible exact Below.refl _ _) | (with_reducible assumption) | (with_reducible refine Below.alloc ?_ ?_ _) | (with_reducible refine Below.drew ?_) | (with_reducible refine bdrewN ?_ _) | (with_reducible refine Below.setCell ?_ ?_ _) | (first | (with_reducible exact Nat.le_refl _) | (with_reducible assumption) | omega | (simp; omega) | (simp; done))))
  have HR0 := hide (hR.below hB0)
  have HB0 := hide hB0
  have cB : ∀ o, (((((w.alloc (.cells #[Value.pointer (some ⟨g, 0, none⟩)] 35)).alloc (.cells #[Value.int .i64 (m : Int)] 3)).alloc (.cells #[Value.func (.func 46) #[] #[]] 73)).alloc (.cells #[] 22)).alloc (.cells #[Value.slice (some ⟨w.heap.size + 3, 0, none⟩) 0 0] 57)).cell? ⟨w.heap.size + 0, o, none⟩ = (#[Value.pointer (some ⟨g, 0, none⟩)] : Array Value)[o]? := fun o => by simp [go_sem]
  have cM : ∀ o, (((((w.alloc (.cells #[Value.pointer (some ⟨g, 0, none⟩)] 35)).alloc (.cells #[Value.int .i64 (m : Int)] 3)).alloc (.cells #[Value.func (.func 46) #[] #[]] 73)).alloc (.cells #[] 22)).alloc (.cells #[Value.slice (some ⟨w.heap.size + 3, 0, none⟩) 0 0] 57)).cell? ⟨w.heap.size + 1, o, none⟩ = (#[Value.int .i64 (m : Int)] : Array Value)[o]? := fun o => by simp [go_sem]
  have cT : ∀ o, (((((w.alloc (.cells #[Value.pointer (some ⟨g, 0, none⟩)] 35)).alloc (.cells #[Value.int .i64 (m : Int)] 3)).alloc (.cells #[Value.func (.func 46) #[] #[]] 73)).alloc (.cells #[] 22)).alloc (.cells #[Value.slice (some ⟨w.heap.size + 3, 0, none⟩) 0 0] 57)).cell? ⟨w.heap.size + 2, o, none⟩ = (#[Value.func (.func 46) #[] #[]] : Array Value)[o]? := fun o => by simp [go_sem]
  have cO : ∀ o, (((((w.alloc (.cells #[Value.pointer (some ⟨g, 0, none⟩)] 35)).alloc (.cells #[Value.int .i64 (m : Int)] 3)).alloc (.cells #[Value.func (.func 46) #[] #[]] 73)).alloc (.cells #[] 22)).alloc (.cells #[Value.slice (some ⟨w.heap.size + 3, 0, none⟩) 0 0] 57)).cell? ⟨w.heap.size + 4, o, none⟩ = (#[Value.slice (some ⟨w.heap.size + 3, 0, none⟩) 0 0] : Array Value)[o]? := fun o => by simp [go_sem]
  have fO : ∀ o, (((((w.alloc (.cells #[Value.pointer (some ⟨g, 0, none⟩)] 35)).alloc (.cells #[Value.int .i64 (m : Int)] 3)).alloc (.cells #[Value.func (.func 46) #[] #[]] 73)).alloc (.cells #[] 22)).alloc (.cells #[Value.slice (some ⟨w.heap.size + 3, 0, none⟩) 0 0] 57)).frozen? ⟨w.heap.size + 4, o, none⟩ = false := fun o => by simp [go_sem]
  have zB : w.heap.size + 0 < (((((w.alloc (.cells #[Value.pointer (some ⟨g, 0, none⟩)] 35)).alloc (.cells #[Value.int .i64 (m : Int)] 3)).alloc (.cells #[Value.func (.func 46) #[] #[]] 73)).alloc (.cells #[] 22)).alloc (.cells #[Value.slice (some ⟨w.heap.size + 3, 0, none⟩) 0 0] 57)).heap.size := by (first | (with_reducible exact Nat.le_refl _) | (with_reducible assumption) | omega | (simp; omega) | (simp; done))
  have zM : w.heap.size + 1 < (((((w.alloc (.cells #[Value.pointer (some ⟨g, 0, none⟩)] 35)).alloc (.cells #[Value.int .i64 (m : Int)] 3)).alloc (.cells #[Value.func (.func 46) #[] #[]] 73)).alloc (.cells #[] 22)).alloc (.cells #[Value.slice (some ⟨w.heap.size + 3, 0, none⟩) 0 0] 57)).heap.size := by (first | (with_reducible exact Nat.le_refl _) | (with_reducible assumption) | omega | (simp; omega) | (simp; done))
  have zT : w.heap.size + 2 < (((((w.alloc (.cells #[Value.pointer (some ⟨g, 0, none⟩)] 35)).alloc (.cells #[Value.int .i64 (m : Int)] 3)).alloc (.cells #[Value.func (.func 46) #[] #[]] 73)).alloc (.cells #[] 22)).alloc (.cells #[Value.slice (some ⟨w.heap.size + 3, 0, none⟩) 0 0] 57)).heap.size := by (first | (with_reducible exact Nat.le_refl _) | (with_reducible assumption) | omega | (simp; omega) | (simp; done))
  have zO : w.heap.size + 4 < (((((w.alloc (.cells #[Value.pointer (some ⟨g, 0, none⟩)] 35)).alloc (.cells #[Value.int .i64 (m : Int)] 3)).alloc (.cells #[Value.func (.func 46) #[] #[]] 73)).alloc (.cells #[] 22)).alloc (.cells #[Value.slice (some ⟨w.heap.size + 3, 0, none⟩) 0 0] 57)).heap.size := by (first | (with_reducible exact Nat.le_refl _) | (with_reducible assumption) | omega | (simp; omega) | (simp; done))
  have own : (((((w.alloc (.cells #[Value.pointer (some ⟨g, 0, none⟩)] 35)).alloc (.cells #[Value.int .i64 (m : Int)] 3)).alloc (.cells #[Value.func (.func 46) #[] #[]] 73)).alloc (.cells #[] 22)).alloc (.cells #[Value.slice (some ⟨w.heap.size + 3, 0, none⟩) 0 0] 57)).ownsRow w.heap.size 22 1 (.slice (some ⟨w.heap.size + 3, 0, none⟩) 0 0) 0 [] := by
    have q := (own_empty (((w.alloc (.cells #[Value.pointer (some ⟨g, 0, none⟩)] 35)).alloc (.cells #[Value.int .i64 (m : Int)] 3)).alloc (.cells #[Value.func (.func 46) #[] #[]] 73)) 22 1 w.heap.size (by (simp; omega))).alloc (.cells #[Value.slice (some ⟨w.heap.size + 3, 0, none⟩) 0 0] 57)
    simpa using q
  have hg : g < w.heap.size := hR.cells.1
  have hb : B ≤ w.heap.size := hR.1
  have hle : a ≤ ns.length := hR.more.1
  obtain ⟨r1, r2, r3⟩ := HR0.out.cells
  clear hR hB0
  have CB := hide cB
  have CM := hide cM
  have CT := hide cT
  have CO := hide cO
  have FO := hide fO
  have OWN := hide own
  clear own cB cM cT cO fO
  go_enter Try.func45, Try.ntmps45
  go_wp2_with (go_at_call 52; go_in)
  refine (tk_U_ok g B w.heap.size (w.heap.size + 0) (w.heap.size + 1) (w.heap.size + 2) (w.heap.size + 4) (w.heap.size + 3) ns a m n pl _ HR0.out CB.out CM.out CT.out CO.out FO.out OWN.out zB zM zT zO hg hb (by omega) (by omega) (by omega) hm hnl hE).mono ?_
  rintro e w1 ⟨v, a', rfl, ho, hR1, hx, hq⟩
  have HO := hide ho
  have HR1 := hide hR1
  obtain ⟨t1, t2, t3⟩ := hR1.cells
  clear ho hR1 r1 r2 r3 zB zM zT zO CB CM CT CO FO OWN
  clear hq
  go_wp2
  go_ret2
  exact ⟨_, rfl, (KB.only HB0.out HO.out).set 1 _, HR1.out.reset hle, by (refine ⟨rfl, .inl ⟨rfl, rfl⟩⟩)⟩

set_option maxRecDepth 100000 in
set_option maxHeartbeats 2000000 in
theorem Take_U_all (g B : Nat) (ns : List Nat) (a : Nat) (m n pl : Nat) (w : World) (hR : RAny w g B ns a) (hm : m ≤ 9223372036854775807) (hnl : ns.length ≤ 1099511627776) (hE : lg ns a m = (n, 0, pl)) (hC : (tk (RU ns) n pl).2.1 = 0) : Calls Try.prog 45 #[.pointer (some ⟨g, 0, none⟩), .int .i64 (m : Int), .func (.func 46) #[] #[]] w (fun e w' => ∃ v, e = .returned (.tuple #[v, .int .i64 0]) ∧ Only g w w' ∧ RAny w' g B ns (tk (RU ns) n pl).2.2 ∧ w'.ownsRow w.heap.size 22 1 v (tk (RU ns) n pl).1.length (tk (RU ns) n pl).1) := by
  have hB0 : Below w.heap.size w (((((w.alloc (.cells #[Value.pointer (some ⟨g, 0, none⟩)] 35)).alloc (.cells #[Value.int .i64 (m : Int)] 3)).alloc (.cells #[Value.func (.func 46) #[] #[]] 73)).alloc (.cells #[] 22)).alloc (.cells #[Value.slice (some ⟨w.heap.size + 3, 0, none⟩) 0 0] 57)) := by (focus repeat' (first | (with_reducible exact Below.refl _ _) | (with_reducible assumption) | (with_reducible refine Below.alloc ?_ ?_ _) | (with_reducible refine Below.drew ?_) | (with_reducible refine bdrewN ?_ _) | (with_reducible refine Below.setCell ?_ ?_ _) | (first | (with_reducible exact Nat.le_refl _) | (with_reducible assumption) | omega | (simp; omega) | (simp; done))))
  have HR0 := hide (hR.below hB0)
  have HB0 := hide hB0
  have cB : ∀ o, (((((w.alloc (.cells #[Value.pointer (some ⟨g, 0, none⟩)] 35)).alloc (.cells #[Value.int .i64 (m : Int)] 3)).alloc (.cells #[Value.func (.func 46) #[] #[]] 73)).alloc (.cells #[] 22)).alloc (.cells #[Value.slice (some ⟨w.heap.size + 3, 0, none⟩) 0 0] 57)).cell? ⟨w.heap.size + 0, o, none⟩ = (#[Value.pointer (some ⟨g, 0, none⟩)] : Array Value)[o]? := fun o => by simp [go_sem]
  have cM : ∀ o, (((((w.alloc (.cells #[Value.pointer (some ⟨g, 0, none⟩)] 35)).alloc (.cells #[Value.int .i64 (m : Int)] 3)).alloc (.cells #[Value.func (.func 46) #[] #[]] 73)).alloc (.cells #[] 22)).alloc (.cells #[Value.slice (some ⟨w.heap.size + 3, 0, none⟩) 0 0] 57)).cell? ⟨w.heap.size + 1, o, none⟩ = (#[Value.int .i64 (m : Int)] : Array Value)[o]? := fun o => by simp [go_sem]
  have cT : ∀ o, (((((w.alloc (.cells #[Value.pointer (some ⟨g, 0, none⟩)] 35)).alloc (.cells #[Value.int .i64 (m : Int)] 3)).alloc (.cells #[Value.func (.func 46) #[] #[]] 73)).alloc (.cells #[] 22)).alloc (.cells #[Value.slice (some ⟨w.heap.size + 3, 0, none⟩) 0 0] 57)).cell? ⟨w.heap.size + 2, o, none⟩ = (#[Value.func (.func 46) #[] #[]] : Array Value)[o]? := fun o => by simp [go_sem]
  have cO : ∀ o, (((((w.alloc (.cells #[Value.pointer (some ⟨g, 0, none⟩)] 35)).alloc (.cells #[Value.int .i64 (m : Int)] 3)).alloc (.cells #[Value.func (.func 46) #[] #[]] 73)).alloc (.cells #[] 22)).alloc (.cells #[Value.slice (some ⟨w.heap.size + 3, 0, none⟩) 0 0] 57)).cell? ⟨w.heap.size + 4, o, none⟩ = (#[Value.slice (some ⟨w.heap.size + 3, 0, none⟩) 0 0] : Array Value)[o]? := fun o => by simp [go_sem]
  have fO : ∀ o, (((((w.alloc (.cells #[Value.pointer (some ⟨g, 0, none⟩)] 35)).alloc (.cells #[Value.int .i64 (m : Int)] 3)).alloc (.cells #[Value.func (.func 46) #[] #[]] 73)).alloc (.cells #[] 22)).alloc (.cells #[Value.slice (some ⟨w.heap.size + 3, 0, none⟩) 0 0] 57)).frozen? ⟨w.heap.size + 4, o, none⟩ = false := fun o => by simp [go_sem]
  have zB : w.heap.size + 0 < (((((w.alloc (.cells #[Value.pointer (some ⟨g, 0, none⟩)] 35)).alloc (.cells #[Value.int .i64 (m : Int)] 3)).alloc (.cells #[Value.func (.func 46) #[] #[]] 73)).alloc (.cells #[] 22)).alloc (.cells #[Value.slice (some ⟨w.heap.size + 3, 0, none⟩) 0 0] 57)).heap.size := by (first | (with_reducible exact Nat.le_refl _) | (with_reducible assumption) | omega | (simp; omega) | (simp; done))
  have zM : w.heap.size + 1 < (((((w.alloc (.cells #[Value.pointer (some ⟨g, 0, none⟩)] 35)).alloc (.cells #[Value.int .i64 (m : Int)] 3)).alloc (.cells #[Value.func (.func 46) #[] #[]] 73)).alloc (.cells #[] 22)).alloc (.cells #[Value.slice (some ⟨w.heap.size + 3, 0, none⟩) 0 0] 57)).heap.size := by (first | (with_reducible exact Nat.le_refl _) | (with_reducible assumption) | omega | (simp; omega) | (simp; done))
  have zT : w.heap.size + 2 < (((((w.alloc (.cells #[Value.pointer (some ⟨g, 0, none⟩)] 35)).alloc (.cells #[Value.int .i64 (m : Int)] 3)).alloc (.cells #[Value.func (.func 46) #[] #[]] 73)).alloc (.cells #[] 22)).alloc (.cells #[Value.slice (some ⟨w.heap.size + 3, 0, none⟩) 0 0] 57)).heap.size := by (first | (with_reducible exact Nat.le_refl _) | (with_reducible assumption) | omega | (simp; omega) | (simp; done))
  have zO : w.heap.size + 4 < (((((w.alloc (.cells #[Value.pointer (some ⟨g, 0, none⟩)] 35)).alloc (.cells #[Value.int .i64 (m : Int)] 3)).alloc (.cells #[Value.func (.func 46) #[] #[]] 73)).alloc (.cells #[] 22)).alloc (.cells #[Value.slice (some ⟨w.heap.size + 3, 0, none⟩) 0 0] 57)).heap.size := by (first | (with_reducible exact Nat.le_refl _) | (with_reducible assumption) | omega | (simp; omega) | (simp; done))
  have own : (((((w.alloc (.cells #[Value.pointer (some ⟨g, 0, none⟩)] 35)).alloc (.cells #[Value.int .i64 (m : Int)] 3)).alloc (.cells #[Value.func (.func 46) #[] #[]] 73)).alloc (.cells #[] 22)).alloc (.cells #[Value.slice (some ⟨w.heap.size + 3, 0, none⟩) 0 0] 57)).ownsRow w.heap.size 22 1 (.slice (some ⟨w.heap.size + 3, 0, none⟩) 0 0) 0 [] := by
    have q := (own_empty (((w.alloc (.cells #[Value.pointer (some ⟨g, 0, none⟩)] 35)).alloc (.cells #[Value.int .i64 (m : Int)] 3)).alloc (.cells #[Value.func (.func 46) #[] #[]] 73)) 22 1 w.heap.size (by (simp; omega))).alloc (.cells #[Value.slice (some ⟨w.heap.size + 3, 0, none⟩) 0 0] 57)
    simpa using q
  have hg : g < w.heap.size := hR.cells.1
  have hb : B ≤ w.heap.size := hR.1
  have hle : a ≤ ns.length := hR.more.1
  obtain ⟨r1, r2, r3⟩ := HR0.out.cells
  clear hR hB0
  have CB := hide cB
  have CM := hide cM
  have CT := hide cT
  have CO := hide cO
  have FO := hide fO
  have OWN := hide own
  clear own cB cM cT cO fO
  go_enter Try.func45, Try.ntmps45
  go_wp2_with (go_at_call 52; go_in)
  refine (tk_U_ok g B w.heap.size (w.heap.size + 0) (w.heap.size + 1) (w.heap.size + 2) (w.heap.size + 4) (w.heap.size + 3) ns a m n pl _ HR0.out CB.out CM.out CT.out CO.out FO.out OWN.out zB zM zT zO hg hb (by omega) (by omega) (by omega) hm hnl hE).mono ?_
  rw [hC]
  rintro e w1 ⟨v, a', rfl, ho, hR1, hx, hq⟩
  obtain ⟨rfl, hown⟩ := hq rfl
  have HO := hide ho
  have HR1 := hide hR1
  have HOW := hide hown
  have HC := hide hC
  obtain ⟨t1, t2, t3⟩ := hR1.cells
  clear ho hR1 hq hC hown r1 r2 r3 zB zM zT zO CB CM CT CO FO OWN
  go_wp2
  go_ret2
  exact ⟨v, rfl, KB.only HB0.out HO.out, HR1.out, HOW.out⟩

theorem Take_U_c (g B : Nat) (ns : List Nat) (a : Nat) (m : Nat) (w : World) (hR : RAny w g B ns a) (hm : m ≤ 9223372036854775807) (hnl : ns.length ≤ 1099511627776) : Calls Try.prog 45 #[.pointer (some ⟨g, 0, none⟩), .int .i64 (m : Int), .func (.func 46) #[] #[]] w (fun e w' => ∃ v, e = .returned (.tuple #[v, .int .i64 ((tl (RU ns) ns a m).2.1 : Int)]) ∧ Only g w w' ∧ RAny w' g B ns (tl (RU ns) ns a m).2.2 ∧ w'.ownsRow w.heap.size 22 1 v (tl (RU ns) ns a m).1.length (tl (RU ns) ns a m).1) := by
  by_cases hE : (lg ns a m).2.1 = 0
  · by_cases hC : (tk (RU ns) (lg ns a m).1 (lg ns a m).2.2).2.1 = 0
    · have q : tl (RU ns) ns a m = tk (RU ns) (lg ns a m).1 (lg ns a m).2.2 := by unfold tl; rw [if_neg (by omega), if_neg (by omega)]
      rw [q, hC]
      exact Take_U_all g B ns a m _ _ w hR hm hnl (by rw [← hE]) hC
    · have q : tl (RU ns) ns a m = ([], (tk (RU ns) (lg ns a m).1 (lg ns a m).2.2).2.1, a) := by unfold tl; rw [if_neg (by omega), if_pos hC]
      rw [q]
      exact Take_U_cut g B ns a m _ _ w hR hm hnl (by rw [← hE]) hC
  · have q : tl (RU ns) ns a m = ([], (lg ns a m).2.1, a) := by unfold tl; rw [if_pos hE]
    rw [q]
    exact Take_U_bad g B ns a m w hR hm hE
end Go.Proofs.Ytajkgecegefnmaa

namespace Go.Proofs.Ytajkgecegefnmaa
open Go.ChangeShapes Go.WideShapes Go.ChangeAt Go.RowKit Go.Deep
set_option linter.unusedSimpArgs false
set_option linter.unusedVariables false

set_option maxRecDepth 100000 in
set_option maxHeartbeats 2000000 in
theorem Take_S_neg (g B : Nat) (ns : List Nat) (a : Nat) (m : Int) (w : World) (hR : RAny w g B ns a) (hm : m < 0) : Calls Try.prog 66 #[.pointer (some ⟨g, 0, none⟩), .int .i64 m, .func (.func 67) #[] #[]] w (fun e w' => ∃ v, e = .returned (.tuple #[v, .int .i64 2]) ∧ Only g w w' ∧ RAny w' g B ns a ∧ w'.ownsRow w.heap.size 9 1 v ([] : List Value).length ([] : List Value)) := by
  have hB0 : Below w.heap.size w (((((w.alloc (.cells #[Value.pointer (some ⟨g, 0, none⟩)] 35)).alloc (.cells #[Value.int .i64 m] 3)).alloc (.cells #[Value.func (.func 67) #[] #[]] 117)).alloc (.cells #[] 9)).alloc (.cells #[Value.slice (some ⟨w.heap.size + 3, 0, none⟩) 0 0] 58)) := by (focus repeat' (first | (with_reducible exact Below.refl _ _) | (with_reducible assumption) | (with_reducible refine Below.alloc ?_ ?_ _) | (with_reducible refine Below.drew ?_) | (with_reducible refine bdrewN ?_ _) | (with_reducible refine Below.setCell ?_ ?_ _) | (first | (with_reducible exact Nat.le_refl _) | (with_reducible assumption) | omega | (simp; omega) | (simp; done))))
  have HR0 := hide (hR.below hB0)
  have HB0 := hide hB0
  have cB : ∀ o, (((((w.alloc (.cells #[Value.pointer (some ⟨g, 0, none⟩)] 35)).alloc (.cells #[Value.int .i64 m] 3)).alloc (.cells #[Value.func (.func 67) #[] #[]] 117)).alloc (.cells #[] 9)).alloc (.cells #[Value.slice (some ⟨w.heap.size + 3, 0, none⟩) 0 0] 58)).cell? ⟨w.heap.size + 0, o, none⟩ = (#[Value.pointer (some ⟨g, 0, none⟩)] : Array Value)[o]? := fun o => by simp [go_sem]
  have cM : ∀ o, (((((w.alloc (.cells #[Value.pointer (some ⟨g, 0, none⟩)] 35)).alloc (.cells #[Value.int .i64 m] 3)).alloc (.cells #[Value.func (.func 67) #[] #[]] 117)).alloc (.cells #[] 9)).alloc (.cells #[Value.slice (some ⟨w.heap.size + 3, 0, none⟩) 0 0] 58)).cell? ⟨w.heap.size + 1, o, none⟩ = (#[Value.int .i64 m] : Array Value)[o]? := fun o => by simp [go_sem]
  have cT : ∀ o, (((((w.alloc (.cells #[Value.pointer (some ⟨g, 0, none⟩)] 35)).alloc (.cells #[Value.int .i64 m] 3)).alloc (.cells #[Value.func (.func 67) #[] #[]] 117)).alloc (.cells #[] 9)).alloc (.cells #[Value.slice (some ⟨w.heap.size + 3, 0, none⟩) 0 0] 58)).cell? ⟨w.heap.size + 2, o, none⟩ = (#[Value.func (.func 67) #[] #[]] : Array Value)[o]? := fun o => by simp [go_sem]
  have cO : ∀ o, (((((w.alloc (.cells #[Value.pointer (some ⟨g, 0, none⟩)] 35)).alloc (.cells #[Value.int .i64 m] 3)).alloc (.cells #[Value.func (.func 67) #[] #[]] 117)).alloc (.cells #[] 9)).alloc (.cells #[Value.slice (some ⟨w.heap.size + 3, 0, none⟩) 0 0] 58)).cell? ⟨w.heap.size + 4, o, none⟩ = (#[Value.slice (some ⟨w.heap.size + 3, 0, none⟩) 0 0] : Array Value)[o]? := fun o => by simp [go_sem]
  have fO : ∀ o, (((((w.alloc (.cells #[Value.pointer (some ⟨g, 0, none⟩)] 35)).alloc (.cells #[Value.int .i64 m] 3)).alloc (.cells #[Value.func (.func 67) #[] #[]] 117)).alloc (.cells #[] 9)).alloc (.cells #[Value.slice (some ⟨w.heap.size + 3, 0, none⟩) 0 0] 58)).frozen? ⟨w.heap.size + 4, o, none⟩ = false := fun o => by simp [go_sem]
  have zB : w.heap.size + 0 < (((((w.alloc (.cells #[Value.pointer (some ⟨g, 0, none⟩)] 35)).alloc (.cells #[Value.int .i64 m] 3)).alloc (.cells #[Value.func (.func 67) #[] #[]] 117)).alloc (.cells #[] 9)).alloc (.cells #[Value.slice (some ⟨w.heap.size + 3, 0, none⟩) 0 0] 58)).heap.size := by (first | (with_reducible exact Nat.le_refl _) | (with_reducible assumption) | omega | (simp; omega) | (simp; done))
  have zM : w.heap.size + 1 < (((((w.alloc (.cells #[Value.pointer (some ⟨g, 0, none⟩)] 35)).alloc (.cells #[Value.int .i64 m] 3)).alloc (.cells #[Value.func (.func 67) #[] #[]] 117)).alloc (.cells #[] 9)).alloc (.cells #[Value.slice (some ⟨w.heap.size + 3, 0, none⟩) 0 0] 58)).heap.size := by (first | (with_reducible exact Nat.le_refl _) | (with_reducible assumption) | omega | (simp; omega) | (simp; done))
  have zT : w.heap.size + 2 < (((((w.alloc (.cells #[Value.pointer (some ⟨g, 0, none⟩)] 35)).alloc (.cells #[Value.int .i64 m] 3)).alloc (.cells #[Value.func (.func 67) #[] #[]] 117)).alloc (.cells #[] 9)).alloc (.cells #[Value.slice (some ⟨w.heap.size + 3, 0, none⟩) 0 0] 58)).heap.size := by (first | (with_reducible exact Nat.le_refl _) | (with_reducible assumption) | omega | (simp; omega) | (simp; done))
  have zO : w.heap.size + 4 < (((((w.alloc (.cells #[Value.pointer (some ⟨g, 0, none⟩)] 35)).alloc (.cells #[Value.int .i64 m] 3)).alloc (.cells #[Value.func (.func 67) #[] #[]] 117)).alloc (.cells #[] 9)).alloc (.cells #[Value.slice (some ⟨w.heap.size + 3, 0, none⟩) 0 0] 58)).heap.size := by (first | (with_reducible exact Nat.le_refl _) | (with_reducible assumption) | omega | (simp; omega) | (simp; done))
  have own : (((((w.alloc (.cells #[Value.pointer (some ⟨g, 0, none⟩)] 35)).alloc (.cells #[Value.int .i64 m] 3)).alloc (.cells #[Value.func (.func 67) #[] #[]] 117)).alloc (.cells #[] 9)).alloc (.cells #[Value.slice (some ⟨w.heap.size + 3, 0, none⟩) 0 0] 58)).ownsRow w.heap.size 9 1 (.slice (some ⟨w.heap.size + 3, 0, none⟩) 0 0) 0 [] := by
    have q := (own_empty (((w.alloc (.cells #[Value.pointer (some ⟨g, 0, none⟩)] 35)).alloc (.cells #[Value.int .i64 m] 3)).alloc (.cells #[Value.func (.func 67) #[] #[]] 117)) 9 1 w.heap.size (by (simp; omega))).alloc (.cells #[Value.slice (some ⟨w.heap.size + 3, 0, none⟩) 0 0] 58)
    simpa using q
  have hg : g < w.heap.size := hR.cells.1
  have hb : B ≤ w.heap.size := hR.1
  have hle : a ≤ ns.length := hR.more.1
  obtain ⟨r1, r2, r3⟩ := HR0.out.cells
  clear hR hB0
  have CB := hide cB
  have CM := hide cM
  have CT := hide cT
  have CO := hide cO
  have FO := hide fO
  have OWN := hide own
  clear own cB cM cT cO fO
  go_enter Try.func66, Try.ntmps66
  go_wp2_with (go_at_call 52; go_in)
  refine (tk_S_neg g B w.heap.size (w.heap.size + 0) (w.heap.size + 1) (w.heap.size + 2) (w.heap.size + 4) (w.heap.size + 3) ns a m _ HR0.out CB.out CM.out CT.out CO.out FO.out OWN.out zB zM zT zO hg hb (by omega) (by omega) (by omega) hm).mono ?_
  rintro e w1 ⟨v, a', rfl, ho, hR1, hx⟩
  have HO := hide ho
  have HR1 := hide hR1
  obtain ⟨t1, t2, t3⟩ := hR1.cells
  clear ho hR1 r1 r2 r3 zB zM zT zO CB CM CT CO FO OWN
  go_wp2
  go_ret2
  exact ⟨_, rfl, (KB.only HB0.out HO.out).set 1 _, HR1.out.reset hle, by (refine ⟨rfl, .inl ⟨rfl, rfl⟩⟩)⟩

set_option maxRecDepth 100000 in
set_option maxHeartbeats 2000000 in
theorem Take_S_bad (g B : Nat) (ns : List Nat) (a : Nat) (m : Nat) (w : World) (hR : RAny w g B ns a) (hm : m ≤ 9223372036854775807) (hE : (lg ns a m).2.1 ≠ 0) : Calls Try.prog 66 #[.pointer (some ⟨g, 0, none⟩), .int .i64 (m : Int), .func (.func 67) #[] #[]] w (fun e w' => ∃ v, e = .returned (.tuple #[v, .int .i64 ((lg ns a m).2.1 : Int)]) ∧ Only g w w' ∧ RAny w' g B ns a ∧ w'.ownsRow w.heap.size 9 1 v ([] : List Value).length ([] : List Value)) := by
  have hE2 : ((lg ns a m).2.1 : Int) ≠ 0 := by omega
  have hB0 : Below w.heap.size w (((((w.alloc (.cells #[Value.pointer (some ⟨g, 0, none⟩)] 35)).alloc (.cells #[Value.int .i64 (m : Int)] 3)).alloc (.cells #[Value.func (.func 67) #[] #[]] 117)).alloc (.cells #[] 9)).alloc (.cells #[Value.slice (some ⟨w.heap.size + 3, 0, none⟩) 0 0] 58)) := by (focus repeat' (first | (with_reducible exact Below.refl _ _) | (with_reducible assumption) | (with_reducible refine Below.alloc ?_ ?_ _) | (with_reducible refine Below.drew ?_) | (with_reducible refine bdrewN ?_ _) | (with_reducible refine Below.setCell ?_ ?_ _) | (first | (with_reducible exact Nat.le_refl _) | (with_reducible assumption) | omega | (simp; omega) | (simp; done))))
  have HR0 := hide (hR.below hB0)
  have HB0 := hide hB0
  have cB : ∀ o, (((((w.alloc (.cells #[Value.pointer (some ⟨g, 0, none⟩)] 35)).alloc (.cells #[Value.int .i64 (m : Int)] 3)).alloc (.cells #[Value.func (.func 67) #[] #[]] 117)).alloc (.cells #[] 9)).alloc (.cells #[Value.slice (some ⟨w.heap.size + 3, 0, none⟩) 0 0] 58)).cell? ⟨w.heap.size + 0, o, none⟩ = (#[Value.pointer (some ⟨g, 0, none⟩)] : Array Value)[o]? := fun o => by simp [go_sem]
  have cM : ∀ o, (((((w.alloc (.cells #[Value.pointer (some ⟨g, 0, none⟩)] 35)).alloc (.cells #[Value.int .i64 (m : Int)] 3)).alloc (.cells #[Value.func (.func 67) #[] #[]] 117)).alloc (.cells #[] 9)).alloc (.cells #[Value.slice (some ⟨w.heap.size + 3, 0, none⟩) 0 0] 58)).cell? ⟨w.heap.size + 1, o, none⟩ = (#[Value.int .i64 (m : Int)] : Array Value)[o]? := fun o => by simp [go_sem]
  have cT : ∀ o, (((((w.alloc (.cells #[Value.pointer (some ⟨g, 0, none⟩)] 35)).alloc (.cells #[Value.int .i64 (m : Int)] 3)).alloc (.cells #[Value.func (.func 67) #[] #[]] 117)).alloc (.cells #[] 9)).alloc (.cells #[Value.slice (some ⟨w.heap.size + 3, 0, none⟩) 0 0] 58)).cell? ⟨w.heap.size + 2, o, none⟩ = (#[Value.func (.func 67) #[] #[]] : Array Value)[o]? := fun o => by simp [go_sem]
  have cO : ∀ o, (((((w.alloc (.cells #[Value.pointer (some ⟨g, 0, none⟩)] 35)).alloc (.cells #[Value.int .i64 (m : Int)] 3)).alloc (.cells #[Value.func (.func 67) #[] #[]] 117)).alloc (.cells #[] 9)).alloc (.cells #[Value.slice (some ⟨w.heap.size + 3, 0, none⟩) 0 0] 58)).cell? ⟨w.heap.size + 4, o, none⟩ = (#[Value.slice (some ⟨w.heap.size + 3, 0, none⟩) 0 0] : Array Value)[o]? := fun o => by simp [go_sem]
  have fO : ∀ o, (((((w.alloc (.cells #[Value.pointer (some ⟨g, 0, none⟩)] 35)).alloc (.cells #[Value.int .i64 (m : Int)] 3)).alloc (.cells #[Value.func (.func 67) #[] #[]] 117)).alloc (.cells #[] 9)).alloc (.cells #[Value.slice (some ⟨w.heap.size + 3, 0, none⟩) 0 0] 58)).frozen? ⟨w.heap.size + 4, o, none⟩ = false := fun o => by simp [go_sem]
  have zB : w.heap.size + 0 < (((((w.alloc (.cells #[Value.pointer (some ⟨g, 0, none⟩)] 35)).alloc (.cells #[Value.int .i64 (m : Int)] 3)).alloc (.cells #[Value.func (.func 67) #[] #[]] 117)).alloc (.cells #[] 9)).alloc (.cells #[Value.slice (some ⟨w.heap.size + 3, 0, none⟩) 0 0] 58)).heap.size := by (first | (with_reducible exact Nat.le_refl _) | (with_reducible assumption) | omega | (simp; omega) | (simp; done))
  have zM : w.heap.size + 1 < (((((w.alloc (.cells #[Value.pointer (some ⟨g, 0, none⟩)] 35)).alloc (.cells #[Value.int .i64 (m : Int)] 3)).alloc (.cells #[Value.func (.func 67) #[] #[]] 117)).alloc (.cells #[] 9)).alloc (.cells #[Value.slice (some ⟨w.heap.size + 3, 0, none⟩) 0 0] 58)).heap.size := by (first | (with_reducible exact Nat.le_refl _) | (with_reducible assumption) | omega | (simp; omega) | (simp; done))
  have zT : w.heap.size + 2 < (((((w.alloc (.cells #[Value.pointer (some ⟨g, 0, none⟩)] 35)).alloc (.cells #[Value.int .i64 (m : Int)] 3)).alloc (.cells #[Value.func (.func 67) #[] #[]] 117)).alloc (.cells #[] 9)).alloc (.cells #[Value.slice (some ⟨w.heap.size + 3, 0, none⟩) 0 0] 58)).heap.size := by (first | (with_reducible exact Nat.le_refl _) | (with_reducible assumption) | omega | (simp; omega) | (simp; done))
  have zO : w.heap.size + 4 < (((((w.alloc (.cells #[Value.pointer (some ⟨g, 0, none⟩)] 35)).alloc (.cells #[Value.int .i64 (m : Int)] 3)).alloc (.cells #[Value.func (.func 67) #[] #[]] 117)).alloc (.cells #[] 9)).alloc (.cells #[Value.slice (some ⟨w.heap.size + 3, 0, none⟩) 0 0] 58)).heap.size := by (first | (with_reducible exact Nat.le_refl _) | (with_reducible assumption) | omega | (simp; omega) | (simp; done))
  have own : (((((w.alloc (.cells #[Value.pointer (some ⟨g, 0, none⟩)] 35)).alloc (.cells #[Value.int .i64 (m : Int)] 3)).alloc (.cells #[Value.func (.func 67) #[] #[]] 117)).alloc (.cells #[] 9)).alloc (.cells #[Value.slice (some ⟨w.heap.size + 3, 0, none⟩) 0 0] 58)).ownsRow w.heap.size 9 1 (.slice (some ⟨w.heap.size + 3, 0, none⟩) 0 0) 0 [] := by
    have q := (own_empty (((w.alloc (.cells #[Value.pointer (some ⟨g, 0, none⟩)] 35)).alloc (.cells #[Value.int .i64 (m : Int)] 3)).alloc (.cells #[Value.func (.func 67) #[] #[]] 117)) 9 1 w.heap.size (by (simp; omega))).alloc (.cells #[Value.slice (some ⟨w.heap.size + 3, 0, none⟩) 0 0] 58)
    simpa using q
  have hg : g < w.heap.size := hR.cells.1
  have hb : B ≤ w.heap.size := hR.1
  have hle : a ≤ ns.length := hR.more.1
  obtain ⟨r1, r2, r3⟩ := HR0.out.cells
  clear hR hB0
  have CB := hide cB
  have CM := hide cM
  have CT := hide cT
  have CO := hide cO
  have FO := hide fO
  have OWN := hide own
  clear own cB cM cT cO fO
  go_enter Try.func66, Try.ntmps66
  go_wp2_with (go_at_call 52; go_in)
  refine (tk_S_bad g B w.heap.size (w.heap.size + 0) (w.heap.size + 1) (w.heap.size + 2) (w.heap.size + 4) (w.heap.size + 3) ns a m _ HR0.out CB.out CM.out CT.out CO.out FO.out OWN.out zB zM zT zO hg hb (by omega) (by omega) (by omega) hm hE).mono ?_
  rintro e w1 ⟨v, a', rfl, ho, hR1, hx⟩
  have HO := hide ho
  have HR1 := hide hR1
  obtain ⟨t1, t2, t3⟩ := hR1.cells
  clear ho hR1 r1 r2 r3 zB zM zT zO CB CM CT CO FO OWN
  go_wp2
  go_ret2
  exact ⟨_, rfl, (KB.only HB0.out HO.out).set 1 _, HR1.out.reset hle, by (refine ⟨rfl, .inl ⟨rfl, rfl⟩⟩)⟩

set_option maxRecDepth 100000 in
set_option maxHeartbeats 2000000 in
theorem Take_S_cut (g B : Nat) (ns : List Nat) (a : Nat) (m n pl : Nat) (w : World) (hR : RAny w g B ns a) (hm : m ≤ 9223372036854775807) (hnl : ns.length ≤ 1099511627776) (hE : lg ns a m = (n, 0, pl)) (hC : (tk (RS ns) n pl).2.1 ≠ 0) : Calls Try.prog 66 #[.pointer (some ⟨g, 0, none⟩), .int .i64 (m : Int), .func (.func 67) #[] #[]] w (fun e w' => ∃ v, e = .returned (.tuple #[v, .int .i64 ((tk (RS ns) n pl).2.1 : Int)]) ∧ Only g w w' ∧ RAny w' g B ns a ∧ w'.ownsRow w.heap.size 9 1 v ([] : List Value).length ([] : List Value)) := by
  have hE2 : ((tk (RS ns) n pl).2.1 : Int) ≠ 0 := by omega
  have hB0 : Below w.heap.size w (((((w.alloc (.cells #[Value.pointer (some ⟨g, 0, none⟩)] 35)).alloc (.cells #[Value.int .i64 (m : Int)] 3)).alloc (.cells #[Value.func (.func 67) #[] #[]] 117)).alloc (.cells #[] 9)).alloc (.cells #[Value.slice (some ⟨w.heap.size + 3, 0, none⟩) 0 0] 58)) := by (focus repeat' (first | (with_reducible exact Below.refl _ _) | (with_reducible assumption) | (with_reducible refine Below.alloc ?_ ?_ _) | (with_reducible refine Below.drew ?_) | (with_reducible refine bdrewN ?_ _) | (with_reducible refine Below.setCell ?_ ?_ _) | (first | (with_reducible exact Nat.le_refl _) | (with_reducible assumption) | omega | (simp; omega) | (simp; done))))
  have HR0 := hide (hR.below hB0)
  have HB0 := hide hB0
  have cB : ∀ o, (((((w.alloc (.cells #[Value.pointer (some ⟨g, 0, none⟩)] 35)).alloc (.cells #[Value.int .i64 (m : Int)] 3)).alloc (.cells #[Value.func (.func 67) #[] #[]] 117)).alloc (.cells #[] 9)).alloc (.cells #[Value.slice (some ⟨w.heap.size + 3, 0, none⟩) 0 0] 58)).cell? ⟨w.heap.size + 0, o, none⟩ = (#[Value.pointer (some ⟨g, 0, none⟩)] : Array Value)[o]? := fun o => by simp [go_sem]
  have cM : ∀ o, (((((w.alloc (.cells #[Value.pointer (some ⟨g, 0, none⟩)] 35)).alloc (.cells #[Value.int .i64 (m : Int)] 3)).alloc (.cells #[Value.func (.func 67) #[] #[]] 117)).alloc (.cells #[] 9)).alloc (.cells #[Value.slice (some ⟨w.heap.size + 3, 0, none⟩) 0 0] 58)).cell? ⟨w.heap.size + 1, o, none⟩ = (#[Value.int .i64 (m : Int)] : Array Value)[o]? := fun o => by simp [go_sem]
  have cT : ∀ o, (((((w.alloc (.cells #[Value.pointer (some ⟨g, 0, none⟩)] 35)).alloc (.cells #[Value.int .i64 (m : Int)] 3)).alloc (.cells #[Value.func (.func 67) #[] #[]] 117)).alloc (.cells #[] 9)).alloc (.cells #[Value.slice (some ⟨w.heap.size + 3, 0, none⟩) 0 0] 58)).cell? ⟨w.heap.size + 2, o, none⟩ = (#[Value.func (.func 67) #[] #[]] : Array Value)[o]? := fun o => by simp [go_sem]
  have cO : ∀ o, (((((w.alloc (.cells #[Value.pointer (some ⟨g, 0, none⟩)] 35)).alloc (.cells #[Value.int .i64 (m : Int)] 3)).alloc (.cells #[Value.func (.func 67) #[] #[]] 117)).alloc (.cells #[] 9)).alloc (.cells #[Value.slice (some ⟨w.heap.size + 3, 0, none⟩) 0 0] 58)).cell? ⟨w.heap.size + 4, o, none⟩ = (#[Value.slice (some ⟨w.heap.size + 3, 0, none⟩) 0 0] : Array Value)[o]? := fun o => by simp [go_sem]
  have fO : ∀ o, (((((w.alloc (.cells #[Value.pointer (some ⟨g, 0, none⟩)] 35)).alloc (.cells #[Value.int .i64 (m : Int)] 3)).alloc (.cells #[Value.func (.func 67) #[] #[]] 117)).alloc (.cells #[] 9)).alloc (.cells #[Value.slice (some ⟨w.heap.size + 3, 0, none⟩) 0 0] 58)).frozen? ⟨w.heap.size + 4, o, none⟩ = false := fun o => by simp [go_sem]
  have zB : w.heap.size + 0 < (((((w.alloc (.cells #[Value.pointer (some ⟨g, 0, none⟩)] 35)).alloc (.cells #[Value.int .i64 (m : Int)] 3)).alloc (.cells #[Value.func (.func 67) #[] #[]] 117)).alloc (.cells #[] 9)).alloc (.cells #[Value.slice (some ⟨w.heap.size + 3, 0, none⟩) 0 0] 58)).heap.size := by (first | (with_reducible exact Nat.le_refl _) | (with_reducible assumption) | omega | (simp; omega) | (simp; done))
  have zM : w.heap.size + 1 < (((((w.alloc (.cells #[Value.pointer (some ⟨g, 0, none⟩)] 35)).alloc (.cells #[Value.int .i64 (m : Int)] 3)).alloc (.cells #[Value.func (.func 67) #[] #[]] 117)).alloc (.cells #[] 9)).alloc (.cells #[Value.slice (some ⟨w.heap.size + 3, 0, none⟩) 0 0] 58)).heap.size := by (first | (with_reducible exact Nat.le_refl _) | (with_reducible assumption) | omega | (simp; omega) | (simp; done))
  have zT : w.heap.size + 2 < (((((w.alloc (.cells #[Value.pointer (some ⟨g, 0, none⟩)] 35)).alloc (.cells #[Value.int .i64 (m : Int)] 3)).alloc (.cells #[Value.func (.func 67) #[] #[]] 117)).alloc (.cells #[] 9)).alloc (.cells #[Value.slice (some ⟨w.heap.size + 3, 0, none⟩) 0 0] 58)).heap.size := by (first | (with_reducible exact Nat.le_refl _) | (with_reducible assumption) | omega | (simp; omega) | (simp; done))
  have zO : w.heap.size + 4 < (((((w.alloc (.cells #[Value.pointer (some ⟨g, 0, none⟩)] 35)).alloc (.cells #[Value.int .i64 (m : Int)] 3)).alloc (.cells #[Value.func (.func 67) #[] #[]] 117)).alloc (.cells #[] 9)).alloc (.cells #[Value.slice (some ⟨w.heap.size + 3, 0, none⟩) 0 0] 58)).heap.size := by (first | (with_reducible exact Nat.le_refl _) | (with_reducible assumption) | omega | (simp; omega) | (simp; done))
  have own : (((((w.alloc (.cells #[Value.pointer (some ⟨g, 0, none⟩)] 35)).alloc (.cells #[Value.int .i64 (m : Int)] 3)).alloc (.cells #[Value.func (.func 67) #[] #[]] 117)).alloc (.cells #[] 9)).alloc (.cells #[Value.slice (some ⟨w.heap.size + 3, 0, none⟩) 0 0] 58)).ownsRow w.heap.size 9 1 (.slice (some ⟨w.heap.size + 3, 0, none⟩) 0 0) 0 [] := by
    have q := (own_empty (((w.alloc (.cells #[Value.pointer (some ⟨g, 0, none⟩)] 35)).alloc (.cells #[Value.int .i64 (m : Int)] 3)).alloc (.cells #[Value.func (.func 67) #[] #[]] 117)) 9 1 w.heap.size (by (simp; omega))).alloc (.cells #[Value.slice (some ⟨w.heap.size + 3, 0, none⟩) 0 0] 58)
    simpa using q
  have hg : g < w.heap.size := hR.cells.1
  have hb : B ≤ w.heap.size := hR.1
  have hle : a ≤ ns.length := hR.more.1
  obtain ⟨r1, r2, r3⟩ := HR0.out.cells
  clear hR hB0
  have CB := hide cB
  have CM := hide cM
  have CT := hide cT
  have CO := hide cO
  have FO := hide fO
  have OWN := hide own
  clear own cB cM cT cO fO
  go_enter Try.func66, Try.ntmps66
  go_wp2_with (go_at_call 52; go_in)
  refine (tk_S_ok g B w.heap.size (w.heap.size + 0) (w.heap.size + 1) (w.heap.size + 2) (w.heap.size + 4) (w.heap.size + 3) ns a m n pl _ HR0.out CB.out CM.out CT.out CO.out FO.out OWN.out zB zM zT zO hg hb (by omega) (by omega) (by omega) hm hnl hE).mono ?_
  rintro e w1 ⟨v, a', rfl, ho, hR1, hx, hq⟩
  have HO := hide ho
  have HR1 := hide hR1
  obtain ⟨t1, t2, t3⟩ := hR1.cells
  clear ho hR1 r1 r2 r3 zB zM zT zO CB CM CT CO FO OWN
  clear hq
  go_wp2
  go_ret2
  exact ⟨_, rfl, (KB.only HB0.out HO.out).set 1 _, HR1.out.reset hle, by (refine ⟨rfl, .inl ⟨rfl, rfl⟩⟩)⟩

set_option maxRecDepth 100000 in
set_option maxHeartbeats 2000000 in
theorem Take_S_all (g B : Nat) (ns : List Nat) (a : Nat) (m n pl : Nat) (w : World) (hR : RAny w g B ns a) (hm : m ≤ 9223372036854775807) (hnl : ns.length ≤ 1099511627776) (hE : lg ns a m = (n, 0, pl)) (hC : (tk (RS ns) n pl).2.1 = 0) : Calls Try.prog 66 #[.pointer (some ⟨g, 0, none⟩), .int .i64 (m : Int), .func (.func 67) #[] #[]] w (fun e w' => ∃ v, e = .returned (.tuple #[v, .int .i64 0]) ∧ Only g w w' ∧ RAny w' g B ns (tk (RS ns) n pl).2.2 ∧ w'.ownsRow w.heap.size 9 1 v (tk (RS ns) n pl).1.length (tk (RS ns) n pl).1) := by
  have hB0 : Below w.heap.size w (((((w.alloc (.cells #[Value.pointer (some ⟨g, 0, none⟩)] 35)).alloc (.cells #[Value.int .i64 (m : Int)] 3)).alloc (.cells #[Value.func (.func 67) #[] #[]] 117)).alloc (.cells #[] 9)).alloc (.cells #[Value.slice (some ⟨w.heap.size + 3, 0, none⟩) 0 0] 58)) := by (focus repeat' (first | (with_reducible exact Below.refl _ _) | (with_reducible assumption) | (with_reducible refine Below.alloc ?_ ?_ _) | (with_reducible refine Below.drew ?_) | (with_reducible refine bdrewN ?_ _) | (with_reducible refine Below.setCell ?_ ?_ _) | (first | (with_reducible exact Nat.le_refl _) | (with_reducible assumption) | omega | (simp; omega) | (simp; done))))
  have HR0 := hide (hR.below hB0)
  have HB0 := hide hB0
  have cB : ∀ o, (((((w.alloc (.cells #[Value.pointer (some ⟨g, 0, none⟩)] 35)).alloc (.cells #[Value.int .i64 (m : Int)] 3)).alloc (.cells #[Value.func (.func 67) #[] #[]] 117)).alloc (.cells #[] 9)).alloc (.cells #[Value.slice (some ⟨w.heap.size + 3, 0, none⟩) 0 0] 58)).cell? ⟨w.heap.size + 0, o, none⟩ = (#[Value.pointer (some ⟨g, 0, none⟩)] : Array Value)[o]? := fun o => by simp [go_sem]
  have cM : ∀ o, (((((w.alloc (.cells #[Value.pointer (some ⟨g, 0, none⟩)] 35)).alloc (.cells #[Value.int .i64 (m : Int)] 3)).alloc (.cells #[Value.func (.func 67) #[] #[]] 117)).alloc (.cells #[] 9)).alloc (.cells #[Value.slice (some ⟨w.heap.size + 3, 0, none⟩) 0 0] 58)).cell? ⟨w.heap.size + 1, o, none⟩ = (#[Value.int .i64 (m : Int)] : Array Value)[o]? := fun o => by simp [go_sem]
  have cT : ∀ o, (((((w.alloc (.cells #[Value.pointer (some ⟨g, 0, none⟩)] 35)).alloc (.cells #[Value.int .i64 (m : Int)] 3)).alloc (.cells #[Value.func (.func 67) #[] #[]] 117)).alloc (.cells #[] 9)).alloc (.cells #[Value.slice (some ⟨w.heap.size + 3, 0, none⟩) 0 0] 58)).cell? ⟨w.heap.size + 2, o, none⟩ = (#[Value.func (.func 67) #[] #[]] : Array Value)[o]? := fun o => by simp [go_sem]
  have cO : ∀ o, (((((w.alloc (.cells #[Value.pointer (some ⟨g, 0, none⟩)] 35)).alloc (.cells #[Value.int .i64 (m : Int)] 3)).alloc (.cells #[Value.func (.func 67) #[] #[]] 117)).alloc (.cells #[] 9)).alloc (.cells #[Value.slice (some ⟨w.heap.size + 3, 0, none⟩) 0 0] 58)).cell? ⟨w.heap.size + 4, o, none⟩ = (#[Value.slice (some ⟨w.heap.size + 3, 0, none⟩) 0 0] : Array Value)[o]? := fun o => by simp [go_sem]
  have fO : ∀ o, (((((w.alloc (.cells #[Value.pointer (some ⟨g, 0, none⟩)] 35)).alloc (.cells #[Value.int .i64 (m : Int)] 3)).alloc (.cells #[Value.func (.func 67) #[] #[]] 117)).alloc (.cells #[] 9)).alloc (.cells #[Value.slice (some ⟨w.heap.size + 3, 0, none⟩) 0 0] 58)).frozen? ⟨w.heap.size + 4, o, none⟩ = false := fun o => by simp [go_sem]
  have zB : w.heap.size + 0 < (((((w.alloc (.cells #[Value.pointer (some ⟨g, 0, none⟩)] 35)).alloc (.cells #[Value.int .i64 (m : Int)] 3)).alloc (.cells #[Value.func (.func 67) #[] #[]] 117)).alloc (.cells #[] 9)).alloc (.cells #[Value.slice (some ⟨w.heap.size + 3, 0, none⟩) 0 0] 58)).heap.size := by (first | (with_reducible exact Nat.le_refl _) | (with_reducible assumption) | omega | (simp; omega) | (simp; done))
  have zM : w.heap.size + 1 < (((((w.alloc (.cells #[Value.pointer (some ⟨g, 0, none⟩)] 35)).alloc (.cells #[Value.int .i64 (m : Int)] 3)).alloc (.cells #[Value.func (.func 67) #[] #[]] 117)).alloc (.cells #[] 9)).alloc (.cells #[Value.slice (some ⟨w.heap.size + 3, 0, none⟩) 0 0] 58)).heap.size := by (first | (with_reducible exact Nat.le_refl _) | (with_reducible assumption) | omega | (simp; omega) | (simp; done))
  have zT : w.heap.size + 2 < (((((w.alloc (.cells #[Value.pointer (some ⟨g, 0, none⟩)] 35)).alloc (.cells #[Value.int .i64 (m : Int)] 3)).alloc (.cells #[Value.func (.func 67) #[] #[]] 117)).alloc (.cells #[] 9)).alloc (.cells #[Value.slice (some ⟨w.heap.size + 3, 0, none⟩) 0 0] 58)).heap.size := by (first | (with_reducible exact Nat.le_refl _) | (with_reducible assumption) | omega | (simp; omega) | (simp; done))
  have zO : w.heap.size + 4 < (((((w.alloc (.cells #[Value.pointer (some ⟨g, 0, none⟩)] 35)).alloc (.cells #[Value.int .i64 (m : Int)] 3)).alloc (.cells #[Value.func (.func 67) #[] #[]] 117)).alloc (.cells #[] 9)).alloc (.cells #[Value.slice (some ⟨w.heap.size + 3, 0, none⟩) 0 0] 58)).heap.size := by (first | (with_reducible exact Nat.le_refl _) | (with_reducible assumption) | omega | (simp; omega) | (simp; done))
  have own : (((((w.alloc (.cells #[Value.pointer (some ⟨g, 0, none⟩)] 35)).alloc (.cells #[Value.int .i64 (m : Int)] 3)).alloc (.cells #[Value.func (.func 67) #[] #[]] 117)).alloc (.cells #[] 9)).alloc (.cells #[Value.slice (some ⟨w.heap.size + 3, 0, none⟩) 0 0] 58)).ownsRow w.heap.size 9 1 (.slice (some ⟨w.heap.size + 3, 0, none⟩) 0 0) 0 [] := by
    have q := (own_empty (((w.alloc (.cells #[Value.pointer (some ⟨g, 0, none⟩)] 35)).alloc (.cells #[Value.int .i64 (m : Int)] 3)).alloc (.cells #[Value.func (.func 67) #[] #[]] 117)) 9 1 w.heap.size (by (simp; omega))).alloc (.cells #[Value.slice (some ⟨w.heap.size + 3, 0, none⟩) 0 0] 58)
    simpa using q
  have hg : g < w.heap.size := hR.cells.1
  have hb : B ≤ w.heap.size := hR.1
  have hle : a ≤ ns.length := hR.more.1
  obtain ⟨r1, r2, r3⟩ := HR0.out.cells
  clear hR hB0
  have CB := hide cB
  have CM := hide cM
  have CT := hide cT
  have CO := hide cO
  have FO := hide fO
  have OWN := hide own
  clear own cB cM cT cO fO
  go_enter Try.func66, Try.ntmps66
  go_wp2_with (go_at_call 52; go_in)
  refine (tk_S_ok g B w.heap.size (w.heap.size + 0) (w.heap.size + 1) (w.heap.size + 2) (w.heap.size + 4) (w.heap.size + 3) ns a m n pl _ HR0.out CB.out CM.out CT.out CO.out FO.out OWN.out zB zM zT zO hg hb (by omega) (by omega) (by omega) hm hnl hE).mono ?_
  rw [hC]
  rintro e w1 ⟨v, a', rfl, ho, hR1, hx, hq⟩
  obtain ⟨rfl, hown⟩ := hq rfl
  have HO := hide ho
  have HR1 := hide hR1
  have HOW := hide hown
  have HC := hide hC
  obtain ⟨t1, t2, t3⟩ := hR1.cells
  clear ho hR1 hq hC hown r1 r2 r3 zB zM zT zO CB CM CT CO FO OWN
  go_wp2
  go_ret2
  exact ⟨v, rfl, KB.only HB0.out HO.out, HR1.out, HOW.out⟩

theorem Take_S_c (g B : Nat) (ns : List Nat) (a : Nat) (m : Nat) (w : World) (hR : RAny w g B ns a) (hm : m ≤ 9223372036854775807) (hnl : ns.length ≤ 1099511627776) : Calls Try.prog 66 #[.pointer (some ⟨g, 0, none⟩), .int .i64 (m : Int), .func (.func 67) #[] #[]] w (fun e w' => ∃ v, e = .returned (.tuple #[v, .int .i64 ((tl (RS ns) ns a m).2.1 : Int)]) ∧ Only g w w' ∧ RAny w' g B ns (tl (RS ns) ns a m).2.2 ∧ w'.ownsRow w.heap.size 9 1 v (tl (RS ns) ns a m).1.length (tl (RS ns) ns a m).1) := by
  by_cases hE : (lg ns a m).2.1 = 0
  · by_cases hC : (tk (RS ns) (lg ns a m).1 (lg ns a m).2.2).2.1 = 0
    · have q : tl (RS ns) ns a m = tk (RS ns) (lg ns a m).1 (lg ns a m).2.2 := by unfold tl; rw [if_neg (by omega), if_neg (by omega)]
      rw [q, hC]
      exact Take_S_all g B ns a m _ _ w hR hm hnl (by rw [← hE]) hC
    · have q : tl (RS ns) ns a m = ([], (tk (RS ns) (lg ns a m).1 (lg ns a m).2.2).2.1, a) := by unfold tl; rw [if_neg (by omega), if_pos hC]
      rw [q]
      exact Take_S_cut g B ns a m _ _ w hR hm hnl (by rw [← hE]) hC
  · have q : tl (RS ns) ns a m = ([], (lg ns a m).2.1, a) := by unfold tl; rw [if_pos hE]
    rw [q]
    exact Take_S_bad g B ns a m w hR hm hE
end Go.Proofs.Ytajkgecegefnmaa

namespace Go.Proofs.Ytajkgecegefnmaa
open Go.ChangeShapes Go.WideShapes Go.ChangeAt Go.RowKit Go.Deep
set_option linter.unusedSimpArgs false
set_option linter.unusedVariables false

theorem WObj.same {g : Nat} {v : Value} {bs : List Nat} {w w' : World} (h : WObj w g v bs) (hs : w.heap.size ≤ w'.heap.size) (h1 : w'.heap[g]? = w.heap[g]?) (h2 : ∀ k, v.ownBlock = some k → k < w.heap.size → w'.heap[k]? = w.heap[k]?) : WObj w' g v bs := by
  obtain ⟨a1, a2, a3, a4, a5, a6⟩ := h
  exact ⟨Nat.lt_of_lt_of_le a1 hs, (World.cell?_of_block h1).trans a2, (World.frozen?_of_block h1).trans a3, own_same a4 h2, a5, a6⟩
/-- a writer and a reader, apart, both new since w0 -/
structure KN (w0 w : World) (g1 : Nat) (v : Value) (bs : List Nat) (g2 b cap : Nat) (ns : List Nat) (a : Nat) : Prop where
  wr : WObj w g1 v bs
  rd : RObj w g2 b 0 cap ns a
  n1 : g1 ≠ g2
  n2 : b ≠ g1
  n3 : v.ownBlock ≠ some g2
  n4 : v.ownBlock ≠ some b
  low : Below w0.heap.size w0 w
  lo1 : w0.heap.size ≤ g1
  lo2 : w0.heap.size ≤ g2
  lo3 : ∀ k, v.ownBlock = some k → w0.heap.size ≤ k
theorem KN.write {w0 w w' : World} {g1 : Nat} {v v' : Value} {bs bs' : List Nat} {g2 b cap : Nat} {ns : List Nat} {a : Nat} (h : KN w0 w g1 v bs g2 b cap ns a) (hW : WObj w' g1 v' bs') (hk : WKeep g1 v w w') (hn : Near w v v') : KN w0 w' g1 v' bs' g2 b cap ns a := by
  obtain ⟨r1, r2, r3, r4, _⟩ := h.rd
  have hz := hk.2.2.2.1
  have hl := h.low.size
  refine ⟨hW, h.rd.same hz (hk.2.2.2.2 g2 r1 h.n1.symm (fun e => h.n3 e.symm)) (hk.2.2.2.2 b r4 h.n2 (fun e => h.n4 e.symm)), h.n1, h.n2, ?_, ?_, h.low.trans ⟨hk.1, hk.2.1, hk.2.2.1, hz, fun i hi => hk.2.2.2.2 i (by omega) (fun e => by have := h.lo1; omega) (fun e => by have := h.lo3 i e.symm; omega)⟩, h.lo1, h.lo2, ?_⟩
  · rcases hn with q | ⟨k, q, hk⟩
    · rw [q]; exact h.n3
    · rw [q]; intro e; cases e; omega
  · rcases hn with q | ⟨k, q, hk⟩
    · rw [q]; exact h.n4
    · rw [q]; intro e; cases e; omega
  · rcases hn with q | ⟨k, q, hk⟩
    · rw [q]; exact h.lo3
    · rw [q]; intro j e; cases e; omega
theorem KN.below {w0 w w' : World} {g1 : Nat} {v : Value} {bs : List Nat} {g2 b cap : Nat} {ns : List Nat} {a : Nat} (h : KN w0 w g1 v bs g2 b cap ns a) (hb : Below w.heap.size w w') : KN w0 w' g1 v bs g2 b cap ns a :=
  ⟨h.wr.below hb, h.rd.below hb, h.n1, h.n2, h.n3, h.n4, h.low.trans (hb.mono h.low.size), h.lo1, h.lo2, h.lo3⟩
/-- a writer, and a reader that is read, both new since w0 -/
structure KR (w0 w : World) (g1 : Nat) (v : Value) (bs : List Nat) (g2 B : Nat) (ns : List Nat) (a : Nat) : Prop where
  wr : WObj w g1 v bs
  rd : RAny w g2 B ns a
  n1 : g1 ≠ g2
  n3 : v.ownBlock ≠ some g2
  low : Below w0.heap.size w0 w
  lo2 : w0.heap.size ≤ g2
theorem KN.reads {w0 w : World} {g1 : Nat} {v : Value} {bs : List Nat} {g2 b cap : Nat} {ns : List Nat} {a : Nat} (h : KN w0 w g1 v bs g2 b cap ns a) : KR w0 w g1 v bs g2 w.heap.size ns a :=
  ⟨h.wr, ⟨Nat.le_refl _, .inl ⟨b, 0, cap, h.rd.2.2.2.1, h.rd⟩⟩, h.n1, h.n3, h.low, h.lo2⟩
theorem KR.read {w0 w w' : World} {g1 : Nat} {v : Value} {bs : List Nat} {g2 B : Nat} {ns : List Nat} {a a' : Nat} (h : KR w0 w g1 v bs g2 B ns a) (ho : Only g2 w w') (hR : RAny w' g2 B ns a') : KR w0 w' g1 v bs g2 B ns a' := by
  have hl := h.low.size
  exact ⟨h.wr.same ho.size (ho.block g1 h.wr.1 h.n1) (fun k hk hlt => ho.block k hlt (fun e => h.n3 (by rw [hk, e]))), hR, h.n1, h.n3, h.low.trans ⟨ho.os, ho.tape, ho.output, ho.size, fun i hi => ho.block i (by omega) (by have := h.lo2; omega)⟩, h.lo2⟩
theorem KR.below {w0 w w' : World} {g1 : Nat} {v : Value} {bs : List Nat} {g2 B : Nat} {ns : List Nat} {a : Nat} (h : KR w0 w g1 v bs g2 B ns a) (hb : Below w.heap.size w w') : KR w0 w' g1 v bs g2 B ns a :=
  ⟨h.wr.below hb, h.rd.below hb, h.n1, h.n3, h.low.trans (hb.mono h.low.size), h.lo2⟩

set_option maxRecDepth 100000 in
set_option maxHeartbeats 2000000 in
theorem NewReader_some (ns : List Nat) (b off cap : Nat) (w : World) (hm : 0 < ns.length) (hl : ns.length ≤ 140737488351232) (hx : ∀ x ∈ ns, x < 256) (hb : ∀ j, j < ns.length → w.cell? ⟨b, off + j, none⟩ = some (.int .u8 (ns.getD j 0 : Int))) (hbz : b < w.heap.size) : Calls Try.prog 19 #[.slice (some ⟨b, off, none⟩) ns.length cap] w (fun e w' => ∃ g b2 cap2, e = .returned (.pointer (some ⟨g, 0, none⟩)) ∧ w.heap.size ≤ g ∧ w.heap.size ≤ b2 ∧ Below w.heap.size w w' ∧ RObj w' g b2 0 cap2 ns 0) := by
  have HX := hide hx
  clear hx
  go_enter Try.func19, Try.ntmps19
  go_wp2_with fail
  refine (Clone8_c ns b off cap _ hm (by omega) hb hbz).mono ?_
  rintro e w1 ⟨g2, cap2, rfl, hg2, own, hb1⟩
  obtain ⟨g', cap', hv, _, hlt, hcp, hcl, _⟩ := own_form own hm
  obtain ⟨h1, h2, h3⟩ : g2 = g' ∧ ns.length = ns.length ∧ cap2 = cap' := by (injection hv with e1 e2 e3; injection e1 with e1; injection e1 with e4; exact ⟨e4, e2, e3⟩)
  subst h1; subst h3
  have HC := hide (row_cells (cap := cap2) hcl)
  have HB1 := hide hb1
  clear hb own hv hcl hb1
  go_wp2
  go_ret
  have hz := HB1.out.size
  refine ⟨w1.heap.size, g2, cap2, rfl, hz, hg2, (HB1.out).trans ((bstep (Below.refl _ _) (by (focus repeat' (first | (with_reducible exact Below.refl _ _) | (with_reducible assumption) | (with_reducible refine Below.alloc ?_ ?_ _) | (with_reducible refine Below.drew ?_) | (with_reducible refine bdrewN ?_ _) | (with_reducible refine Below.setCell ?_ ?_ _) | (first | (with_reducible exact Nat.le_refl _) | (with_reducible assumption) | omega | (simp; omega) | (simp; done)))))).mono hz), by simp, fun o => by simp [go_sem], fun o => by simp [go_sem], by (simp; omega), by omega, fun j hj => ?_, HX.out, Nat.zero_le _, by omega, hcp⟩
  rw [World.cell?_alloc_past _ _ _ (by first | omega | (simp; omega))]
  exact HC.out j hj
end Go.Proofs.Ytajkgecegefnmaa

namespace Go.Proofs.Ytajkgecegefnmaa
open Go.ChangeShapes Go.WideShapes Go.ChangeAt Go.RowKit Go.Deep
set_option linter.unusedSimpArgs false
set_option linter.unusedVariables false

theorem conv28 (w : World) (b off cap : Nat) (ns : List Nat) (h : ∀ j, j < ns.length → w.cell? ⟨b, off + j, none⟩ = some (.int .u8 (ns.getD j 0 : Int))) : Sem.run Try.prog (convert 28 9 (.slice (some ⟨b, off, none⟩) ns.length cap)) w = .ok (.string (bstr ns)) w :=
  run_convert_bytes_arg (P := Try.prog) w 28 5 Try.underlying28 Try.underlying5 b off ns.length cap (ns.map (fun (x : Nat) => (x : Int))) (by simp) (fun i hi => by
    rw [h i hi]
    have e1 : (ns.map (fun (x : Nat) => (x : Int))).getD i 0 = ((ns.getD i 0 : Nat) : Int) := by simp [List.getD, hi]
    rw [e1]) 9 Try.underlying9
theorem own_conv {w : World} {base g cap : Nat} {ns : List Nat} (own : w.ownsRow base 5 1 (.slice (some ⟨g, 0, none⟩) ns.length cap) ns.length (ns.map (fun (b : Nat) => Value.int .u8 (b : Int)))) (hm : 0 < ns.length) : ∀ j, j < ns.length → w.cell? ⟨g, 0 + j, none⟩ = some (.int .u8 (ns.getD j 0 : Int)) := by
  obtain ⟨g', cap', hv, _, _, _, hcl, _⟩ := own_form own hm
  have e : g = g' := by (injection hv with e1 e2 e3; injection e1 with e1; injection e1 with e4)
  subst e
  exact row_cells (cap := cap) hcl

/-- the bytes that 'known' reads, writes -/
def d8 : List Nat := [249, 1, 0, 2, 3, 248, 5, 9]
def d18 : List Nat := [248, 255, 1, 1, 2, 97, 98, 2, 3, 4, 63, 240, 0, 0, 0, 0, 0, 0]
theorem form255 : form 255 = [248, 255] := by
  have h : many 255 = 1 := by rw [many, dif_pos (by decide)]
  unfold form; rw [if_neg (by decide), h]; rfl
theorem form256 : form 256 = [249, 1, 0] := by
  have h : many 256 = 2 := by rw [many, dif_neg (by decide), many, dif_pos (by decide)]
  unfold form; rw [if_neg (by decide), h]; rfl
theorem form248 : (form 248).length = 2 := by
  have h : many 248 = 1 := by rw [many, dif_pos (by decide)]
  unfold form; rw [if_neg (by decide), h]; rfl
set_option maxRecDepth 100000 in
theorem d18_is : (((((([] ++ form 255) ++ form (fold (-1))) ++ [1]) ++ text ⟨#[97, 98]⟩) ++ (form 2 ++ forms [3, 4])) ++ hi 8 4607182418800017408) = d18 := by rw [form255]; rfl
theorem d8_lt : ∀ x ∈ d8, x < 256 := by unfold d8; simp
set_option maxRecDepth 100000 in
theorem d8_rd : rd d8 0 = (256, 0, 3) := by
  unfold rd
  rw [if_neg (by decide), if_neg (by decide), if_neg (by decide), if_pos (by show (form 256).length = 3; rw [form256]; rfl)]
  rfl
theorem d8_rd3 : rd d8 3 = (2, 0, 4) := by
  unfold rd; rw [if_neg (by decide), if_pos (by decide)]; rfl
theorem d8_rd4 : rd d8 4 = (3, 0, 5) := by
  unfold rd; rw [if_neg (by decide), if_pos (by decide)]; rfl
theorem d8_rd5 : rd d8 5 = (0, 111, 5) := by
  unfold rd
  rw [if_neg (by decide), if_neg (by decide), if_neg (by decide), if_neg (by show ¬ (form 5).length = 2; decide)]
theorem d8_lg9 : lg d8 3 9 = (2, 0, 4) := by unfold lg; rw [d8_rd3]; rfl
theorem d8_lg1 : lg d8 3 1 = (0, 3, 4) := by unfold lg; rw [d8_rd3]; rfl
theorem d8_tk : (tk (RU d8) 2 4).2.1 = 111 := by
  have h4 : RU d8 4 = (.int .u64 3, 0, 5) := by unfold RU; rw [d8_rd4]; rfl
  have h5 : RU d8 5 = (.int .u64 0, 111, 5) := by unfold RU; rw [d8_rd5]; rfl
  rw [tk_ok _ _ _ (by rw [h4]), h4]
  show (tk (RU d8) 1 5).2.1 = 111
  rw [tk_bad _ _ _ (by rw [h5]; decide), h5]
theorem d8_tl9 : tl (RU d8) d8 3 9 = ([], 111, 3) := by
  unfold tl
  rw [d8_lg9, if_neg (by decide), if_pos (by rw [d8_tk]; decide), d8_tk]
theorem d8_tl1 : tl (RU d8) d8 3 1 = ([], 3, 3) := by
  unfold tl
  rw [d8_lg1, if_pos (by decide)]
end Go.Proofs.Ytajkgecegefnmaa

namespace Go.Proofs.Ytajkgecegefnmaa
open Go.ChangeShapes Go.WideShapes Go.ChangeAt Go.RowKit Go.Deep
set_option linter.unusedSimpArgs false
set_option linter.unusedVariables false

theorem own_one (w : World) (e : TypeId) (base : Nat) (x : Value) (h : base ≤ w.heap.size) : (w.alloc (.cells #[x] e)).ownsRow base e 1 (.slice (some ⟨w.heap.size, 0, none⟩) 1 1) 1 [x] :=
  ⟨rfl, .inr ⟨_, 1, #[x], rfl, h, heap_new _ _, Nat.le_refl _, by unfold maxLen; omega, rfl, rfl⟩⟩
theorem own_cells {w : World} {base g cap n : Nat} {e : TypeId} {xs : List Value} (own : w.ownsRow base e 1 (.slice (some ⟨g, 0, none⟩) n cap) n xs) : ∀ j u, xs[j]? = some u → w.cell? ((⟨g, 0, none⟩ : Addr).add j) = some u := by
  intro j u hj
  have hlt : j < xs.length := (List.getElem?_eq_some_iff.1 hj).1
  have hx : xs.length = n := by have := own.1; omega
  obtain ⟨g', cap', hv, _, _, _, hcl, _⟩ := own_form own (by omega)
  have e : g = g' := by (injection hv with e1 e2 e3; injection e1 with e1; injection e1 with e4)
  subst e
  have ha : (⟨g, 0, none⟩ : Addr).add j = ⟨g, j, none⟩ := by
    unfold Addr.add
    split
    · (rename_i h; subst h; rfl)
    · simp
  rw [ha, hcl j (by omega), hj]
theorem u8_one (l : List Nat) : ∀ u ∈ l.map (fun (b : Nat) => Value.int .u8 (b : Int)), u.oneCell' = true := fun u hu => by obtain ⟨x, _, rfl⟩ := List.mem_map.1 hu; rfl
theorem below_grown {W w w' : World} {base : Nat} {row : Option Nat} (h : Below base W w) (hg : w.grownBy w' row) (hr : ∀ k, row = some k → base ≤ k) (hs : base ≤ w.heap.size) : Below base W w' :=
  h.trans ⟨hg.os, hg.tape, hg.output, hg.size, fun i hi => hg.block i (by omega) (fun e => by have := hr i e.symm; omega)⟩
theorem many_div (X : Nat) (j : Nat) (h : X / 256 ^ j ≤ 255) (h2 : ∀ i, i < j → 255 < X / 256 ^ i) : many X = j + 1 := by
  induction j generalizing X with
  | zero => rw [many, dif_pos (by simp at h; omega)]
  | succ j ih =>
    have h0 := h2 0 (by omega)
    simp at h0
    rw [many, dif_neg (by omega), ih (X / 256) (by rw [Nat.div_div_eq_div_mul, ← Nat.pow_succ']; exact h) (fun i hi => by rw [Nat.div_div_eq_div_mul, ← Nat.pow_succ']; exact h2 (i + 1) (by omega))]
    omega

set_option maxRecDepth 100000 in
set_option maxHeartbeats 2000000 in
theorem refBytes_c (x : Nat) (w : World) (hx : x < 18446744073709551616) : Calls Try.prog 51 #[.int .u64 (x : Int)] w (fun e w' => ∃ g cap, e = .returned (.slice (some ⟨g, 0, none⟩) (hi (many x) x).length cap) ∧ w'.ownsRow w.heap.size 5 1 (.slice (some ⟨g, 0, none⟩) (hi (many x) x).length cap) (hi (many x) x).length ((hi (many x) x).map (fun (b : Nat) => Value.int .u8 (b : Int))) ∧ Below w.heap.size w w') := by
  obtain ⟨i0, hi0, hz0, hz1, hz2⟩ := info_parts info5
  have HX := hide hx
  have Hone := hide (own_one w 5 w.heap.size (.int .u8 ((x % 256 : Nat) : Int)) (Nat.le_refl _))
  clear hx
  go_enter Try.func51, Try.ntmps51
  go_wp2
  go_loopw [0, 3] (fun v0 v3 wr => ∃ (j g cap : Nat), v0 = .int .u64 ((x / 256 ^ j : Nat) : Int) ∧ v3 = .slice (some ⟨g, 0, none⟩) (j + 1) cap ∧ (∀ i, i < j → 255 < x / 256 ^ i) ∧ wr.ownsRow w.heap.size 5 1 (.slice (some ⟨g, 0, none⟩) (j + 1) cap) (j + 1) ((hi (j + 1) x).map (fun (b : Nat) => Value.int .u8 (b : Int))) ∧ Below w.heap.size w wr) (fun v0 _ _ => (intOf v0).toNat)
  case atStart => exact ⟨0, w.heap.size, 1, by simp, rfl, fun i hi => by omega, by (have q := Hone.out; simpa [hi] using q), by (focus repeat' (first | (with_reducible exact Below.refl _ _) | (with_reducible assumption) | (with_reducible refine Below.alloc ?_ ?_ _) | (with_reducible refine Below.drew ?_) | (with_reducible refine bdrewN ?_ _) | (with_reducible refine Below.setCell ?_ ?_ _) | (first | (with_reducible exact Nat.le_refl _) | (with_reducible assumption) | omega | (simp; omega) | (simp; done))))⟩
  case round =>
    obtain ⟨j, g, cap, rfl, rfl, hj, hown, hB⟩ := hrel
    have HJ := hide hj
    have HOW := hide hown
    have HB := hide hB
    clear hj hown hB
    by_cases hlt : 255 < x / 256 ^ j
    · have hj7 : j < 7 := by
        rcases Nat.lt_or_ge j 7 with h | h
        · exact h
        · have p : 256 ^ 7 ≤ 256 ^ j := Nat.pow_le_pow_right (by decide) h
          have q : x / 256 ^ j ≤ x / 256 ^ 7 := Nat.div_le_div_left p (by decide)
          have p7 : (256 : Nat) ^ 7 = 72057594037927936 := by decide
          rw [p7] at q
          have := HX.out
          omega
      have hdiv : x / 256 ^ (j + 1) = x / 256 ^ j / 256 := by rw [Nat.pow_succ, Nat.div_div_eq_div_mul]
      have HD := hide hdiv
      have hnx : hi (j + 1 + 1) x = (x / 256 ^ j / 256 % 256) :: hi (j + 1) x := by rw [← hdiv]; rfl
      have HN := hide hnx
      clear hdiv hnx
      have hy64 : x / 256 ^ j < 18446744073709551616 := Nat.lt_of_le_of_lt (Nat.div_le_self _ _) HX.out
      generalize hy : x / 256 ^ j = y at *
      have hy' : (255 : Int) < (y : Int) := by omega
      have HY := hide hy
      clear hy
      have HB2 := hide HB.out.size
      go_wp2_with (at_builtin; refine wpList_append_lies _ rfl (.tmp 15) (.tmp 16) 28 rfl w.heap.size 5 i0 (.int .u8 0) 1 1 Try.underlying28 hi0 hz0 hz1 hz2 rfl (by decide) (.slice (some ⟨wr.heap.size, 0, none⟩) 1 1) 1 [.int .u8 _] rfl (own_one wr 5 w.heap.size (.int .u8 _) HB2.out) ⟨g, 0, none⟩ (j + 1) cap ((hi (j + 1) x).map (fun (b : Nat) => Value.int .u8 (b : Int))) rfl (by simp [hi_length]) (own_cells (HOW.out.alloc _)) (u8_one _) (by omega) (by unfold maxLen; omega) (by omega) (by (simp; have := HB2.out; omega)) _ rfl ?_; intro g2 cap2 wn hown2 hg2 hgg hgl)
      go_roundw
      case rel =>
        have hgk : ∀ k, (Value.slice (some ⟨wr.heap.size, 0, none⟩) 1 1).ownBlock = some k → w.heap.size ≤ k := fun k hk => by
          have e : wr.heap.size = k := Option.some.inj hk
          have := HB2.out
          omega
        refine ⟨j + 1, g2, cap2, by (rw [HD.out]; first | rfl | (simp; done)), by (rw [Nat.add_comm 1]), fun i hi => ?_, ?_, ?_⟩
        · rcases Nat.lt_or_ge i j with h | h
          · exact HJ.out i h
          · obtain rfl : i = j := by omega
            rw [HY.out]; exact hlt
        · rw [HN.out, List.map_cons]
          have q := hown2
          rw [Nat.add_comm 1] at q
          simpa using q
        · exact below_grown (Below.alloc HB.out HB2.out _) hg2 hgk (by (simp; have := HB2.out; omega))
      case measure => (simp [intOf]; omega)
    · have hle : ¬ ((255 : Int) < ((x / 256 ^ j : Nat) : Int)) := by omega
      have hm := many_div x j (by omega) HJ.out
      have Hm := hide hm
      clear hm
      generalize hy : x / 256 ^ j = y at *
      go_wp2
      go_ret
      refine ⟨g, cap, ?_, ?_, HB.out⟩
      · rw [hi_length, Hm.out]; rfl
      · rw [hi_length, Hm.out]; exact HOW.out
end Go.Proofs.Ytajkgecegefnmaa

namespace Go.Proofs.Ytajkgecegefnmaa
open Go.ChangeShapes Go.WideShapes Go.ChangeAt Go.RowKit Go.Deep
set_option linter.unusedSimpArgs false
set_option linter.unusedVariables false

set_option maxRecDepth 100000 in
set_option maxHeartbeats 1000000 in
theorem refNum_short (x : Nat) (w : World) (hx : x < 18446744073709551616) (hs : x ≤ 247) : Calls Try.prog 14 #[.int .u64 (x : Int)] w (fun e w' => ∃ g cap, e = .returned (.slice (some ⟨g, 0, none⟩) (form x).length cap) ∧ w'.ownsRow w.heap.size 5 1 (.slice (some ⟨g, 0, none⟩) (form x).length cap) (form x).length ((form x).map (fun (b : Nat) => Value.int .u8 (b : Int))) ∧ Below w.heap.size w w') := by
  have hs' : (x : Int) ≤ 247 := by omega
  have hf : form x = [x] := by unfold form; rw [if_pos hs]
  have HF := hide hf
  clear hf
  go_enter Try.func14, Try.ntmps14
  go_wp2
  go_ret
  refine ⟨w.heap.size, 1, by (rw [HF.out]; rfl), ?_, by (focus repeat' (first | (with_reducible exact Below.refl _ _) | (with_reducible assumption) | (with_reducible refine Below.alloc ?_ ?_ _) | (with_reducible refine Below.drew ?_) | (with_reducible refine bdrewN ?_ _) | (with_reducible refine Below.setCell ?_ ?_ _) | (first | (with_reducible exact Nat.le_refl _) | (with_reducible assumption) | omega | (simp; omega) | (simp; done))))⟩
  rw [HF.out]
  have q := own_one w 5 w.heap.size (.int .u8 (x : Int)) (Nat.le_refl _)
  simpa using q

set_option maxRecDepth 100000 in
set_option maxHeartbeats 2000000 in
theorem refNum_long (x : Nat) (w : World) (hx : x < 18446744073709551616) (hs : ¬ x ≤ 247) : Calls Try.prog 14 #[.int .u64 (x : Int)] w (fun e w' => ∃ g cap, e = .returned (.slice (some ⟨g, 0, none⟩) (form x).length cap) ∧ w'.ownsRow w.heap.size 5 1 (.slice (some ⟨g, 0, none⟩) (form x).length cap) (form x).length ((form x).map (fun (b : Nat) => Value.int .u8 (b : Int))) ∧ Below w.heap.size w w') := by
  obtain ⟨i0, hi0, hz0, hz1, hz2⟩ := info_parts info5
  have hs' : (247 : Int) < (x : Int) := by omega
  have hmu := many_u64 hx
  have hmp := many_pos x
  have hf : form x = (247 + many x) :: hi (many x) x := by unfold form; rw [if_neg hs]
  have HF := hide hf
  clear hf
  go_enter Try.func14, Try.ntmps14
  go_wp2_with fail
  refine (refBytes_c x _ hx).mono ?_
  rintro e w1 ⟨g1, cap1, rfl, own1, hb1⟩
  rw [hi_length] at own1
  rw [hi_length]
  have HOW := hide own1
  have HB1 := hide hb1
  have hz : w.heap.size ≤ w1.heap.size := hb1.size
  clear own1 hb1
  generalize hm : many x = m at *
  have HM := hide hm
  clear hm
  have hw8 : (247 + (m : Int)) % 256 = 247 + (m : Int) := by omega
  go_wp2_with (at_builtin; refine wpList_append_lies _ rfl (.tmp 15) (.tmp 16) 28 rfl w.heap.size 5 i0 (.int .u8 0) 1 1 Try.underlying28 hi0 hz0 hz1 hz2 rfl (by decide) (.slice (some ⟨w1.heap.size, 0, none⟩) 1 1) 1 [.int .u8 _] rfl (own_one w1 5 w.heap.size (.int .u8 _) hz) ⟨g1, 0, none⟩ m cap1 ((hi m x).map (fun (b : Nat) => Value.int .u8 (b : Int))) rfl (by simp [hi_length]) (own_cells (HOW.out.alloc _)) (u8_one _) (by omega) (by unfold maxLen; omega) (by omega) (by (simp; omega)) _ rfl ?_; intro g2 cap2 wn hown2 hg2 hgg hgl)
  go_ret
  have hgk : ∀ k, (Value.slice (some ⟨w1.heap.size, 0, none⟩) 1 1).ownBlock = some k → w.heap.size ≤ k := fun k hk => by
    have e : w1.heap.size = k := Option.some.inj hk
    omega
  refine ⟨g2, cap2, ?_, ?_, below_grown (Below.alloc HB1.out hz _) hg2 hgk (by (simp; omega))⟩
  · rw [HF.out, List.length_cons, hi_length, Nat.add_comm m 1]; rfl
  · rw [HF.out, List.length_cons, hi_length, List.map_cons, Nat.add_comm m 1]
    simpa using hown2

theorem refNum_c (x : Nat) (w : World) (hx : x < 18446744073709551616) : Calls Try.prog 14 #[.int .u64 (x : Int)] w (fun e w' => ∃ g cap, e = .returned (.slice (some ⟨g, 0, none⟩) (form x).length cap) ∧ w'.ownsRow w.heap.size 5 1 (.slice (some ⟨g, 0, none⟩) (form x).length cap) (form x).length ((form x).map (fun (b : Nat) => Value.int .u8 (b : Int))) ∧ Below w.heap.size w w') := by
  by_cases hs : x ≤ 247
  · exact refNum_short x w hx hs
  · exact refNum_long x w hx hs
end Go.Proofs.Ytajkgecegefnmaa

