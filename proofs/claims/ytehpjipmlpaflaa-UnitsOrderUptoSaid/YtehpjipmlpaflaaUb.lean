import Derived.Test.YtehpjipmlpaflaaUa
namespace Go.Proofs.Ytehpjipmlpaflaa.un
open Go.ChangeShapes Go.WideShapes Go.ChangeAt Go.RowKit Go.Deep Go.Shelf
set_option linter.unusedSimpArgs false
set_option linter.unusedVariables false

attribute [local go_sem] Oper.semAt_some

set_option maxRecDepth 100000 in
set_option maxHeartbeats 4000000 in
theorem rSell_no (count floor : Int) (so : Option Addr) (cap : Nat) (L : List (List Int)) (v : Int) (w : World) (hb : BRows so L w) (hw : WrongIs count floor L v) (hv : v ≠ 0) :
    Calls Try.prog 13 #[.int .i64 count, .int .i64 floor, .slice so L.length cap] w fun e w' => e = .returned (.tuple #[.agg #[.int .i64 0, .slice none 0 0, .int .i64 0], .int .i64 v]) ∧ Below w.heap.size w w' := by
  have HB := hide hb
  have HW := hide hw
  have hv2 : decide (v = 0) = false := by simp [hv]
  have hv3 : (v == 0) = false := by simp [hv]
  have hv4 : (v != 0) = true := by simp [hv]
  clear hb hw hv
  go_enter Try.func13, Try.ntmps13
  go_wp2_with fail
  refine (rwrong_is HW.out _ (HB.out.below (by (focus repeat' (first | (with_reducible exact Below.refl _ _) | (with_reducible assumption) | (with_reducible refine Below.alloc ?_ ?_ _) | (with_reducible refine Below.drew ?_) | (with_reducible refine bdrewN ?_ _) | (with_reducible refine Below.setCell ?_ ?_ _) | (first | (with_reducible exact Nat.le_refl _) | (with_reducible assumption) | omega | (simp; omega) | (simp; done))))))).mono ?_
  rintro e w5 ⟨rfl, hb5⟩
  have c0 : w5.cell? ⟨w.heap.size, 0, none⟩ = some (.int .i64 0) := (hb5.cell (p := ⟨w.heap.size, 0, none⟩) (by simp)).trans (by simp [go_sem])
  have c1 : w5.cell? ⟨w.heap.size, 1, none⟩ = some (.slice none 0 0) := (hb5.cell (p := ⟨w.heap.size, 1, none⟩) (by simp)).trans (by simp [go_sem])
  have c2 : w5.cell? ⟨w.heap.size, 2, none⟩ = some (.int .i64 0) := (hb5.cell (p := ⟨w.heap.size, 2, none⟩) (by simp)).trans (by simp [go_sem])
  have cf : ∀ o, w5.frozen? ⟨w.heap.size, o, none⟩ = false := fun o => (hb5.frozen (p := ⟨w.heap.size, o, none⟩) (by simp)).trans (by simp [go_sem])
  have HB5 := hide (show Below w.heap.size w w5 from bstep (by (focus repeat' (first | (with_reducible exact Below.refl _ _) | (with_reducible assumption) | (with_reducible refine Below.alloc ?_ ?_ _) | (with_reducible refine Below.drew ?_) | (with_reducible refine bdrewN ?_ _) | (with_reducible refine Below.setCell ?_ ?_ _) | (first | (with_reducible exact Nat.le_refl _) | (with_reducible assumption) | omega | (simp; omega) | (simp; done))))) hb5)
  clear hb5
  go_wp2
  refine bodyPost_ret (v := .tuple #[.agg #[.int .i64 0, .slice none 0 0, .int .i64 0], .int .i64 v]) (by simp [results, Try.f13, go_sem, c0, c1, c2]) rfl ⟨rfl, by (have := HB5.out; (focus repeat' (first | (with_reducible exact Below.refl _ _) | (with_reducible assumption) | (with_reducible refine Below.alloc ?_ ?_ _) | (with_reducible refine Below.drew ?_) | (with_reducible refine bdrewN ?_ _) | (with_reducible refine Below.setCell ?_ ?_ _) | (first | (with_reducible exact Nat.le_refl _) | (with_reducible assumption) | omega | (simp; omega) | (simp; done)))))⟩
theorem take_snoc (T : List U) (i : Nat) (h : i < T.length) : T.take i ++ [get T i] = T.take (i + 1) := by
  rw [List.take_add_one, List.getElem?_eq_getElem h]
  unfold get
  rw [List.getElem?_eq_getElem h]
  rfl
theorem SE.next {R S G base : Nat} {price nx : Int} {n : Nat} {pre : List U} {W : World} (h : SE R S G base price nx n pre W) (x : U) (b : Nat) (hb : b < n) (hx : x.1 = (b : Int)) (h3 : R ≠ G) (h4 : S ≠ G) :
    SE R S G base price nx n (pre ++ [x]) (W.setCell ⟨G, b, none⟩ (.int .i64 ((cnt pre b : Int) + 1))) := by
  have e : ∀ k, k ≠ G → (W.setCell ⟨G, b, none⟩ (.int .i64 ((cnt pre b : Int) + 1))).heap[k]? = W.heap[k]? := fun k hk => heap_setCell_other _ _ _ _ hk
  refine ⟨fun o => (World.cell?_of_block (a := ⟨R, o, none⟩) (e _ h3)).trans (h.cr o), fun o => (World.frozen?_of_block (a := ⟨R, o, none⟩) (e _ h3)).trans (h.fr o), fun o => (World.cell?_of_block (a := ⟨S, o, none⟩) (e _ h4)).trans (h.cs o), ?_⟩
  have q := (h.own.stored b (.int .i64 ((cnt pre b : Int) + 1))).1
  rwa [wonI_set n pre x b hb hx] at q
set_option maxRecDepth 100000 in
set_option maxHeartbeats 4000000 in
theorem rSell_yes (count floor : Int) (so : Option Addr) (cap : Nat) (L : List (List Int)) (w : World) (hb : BRows so L w) (hw : WrongIs count floor L 0) :
    Calls Try.prog 13 #[.int .i64 count, .int .i64 floor, .slice so L.length cap] w fun e w' => (∃ G, e = .returned (.tuple #[.agg #[.int .i64 (priceOf (ordT L) count floor), .slice (some ⟨G, 0, none⟩) L.length L.length, .int .i64 (nextOf (ordT L) count)], .int .i64 0]) ∧ w'.ownsRow w.heap.size 3 1 (.slice (some ⟨G, 0, none⟩) L.length L.length) L.length ((wonI L.length ((ordT L).take count.toNat)).map I64)) ∧ Below w.heap.size w w' := by
  refine (callsIn_wide (n := 3)).1 ?_
  refine callsIn_of_wp Try.func13 rfl trivial ?_ rfl
  simp only [Try.ntmps13, List.size_toArray, List.length_cons, List.length_nil, Nat.reduceAdd, Nat.reduceSub, Array.replicate_succ, Array.replicate_zero, List.push_toArray, List.append_toArray, List.nil_append, List.cons_append]
  have HB := hide hb
  have HW := hide hw
  have HMY := hide hw.may
  have hLL := hw.may.len
  have hmk := run_make_row' (P := Try.prog) 28 3 (.int .i64 0) 8 Try.underlying28 info28 rfl .i64 .i64 L.length (by omega) (by omega)
  clear hb hw
  gi_wp2_with fail
  refine (callsIn_wide.2 (rwrong_is HW.out _ (HB.out.below (by (focus repeat' (first | (with_reducible exact Below.refl _ _) | (with_reducible assumption) | (with_reducible refine Below.alloc ?_ ?_ _) | (with_reducible refine Below.drew ?_) | (with_reducible refine bdrewN ?_ _) | (with_reducible refine Below.setCell ?_ ?_ _) | (first | (with_reducible exact Nat.le_refl _) | (with_reducible assumption) | omega | (simp; omega) | (simp; done)))))))).mono ?_
  rintro e w5 ⟨rfl, hb5⟩
  have HR5 := hide (show ∀ o, w5.cell? ⟨w.heap.size, o, none⟩ = (#[Value.int .i64 0, .slice none 0 0, .int .i64 0] : Array Value)[o]? from fun o => (hb5.cell (p := ⟨w.heap.size, o, none⟩) (by simp)).trans (by simp [go_sem]))
  have FR5 := hide (show ∀ o, w5.frozen? ⟨w.heap.size, o, none⟩ = false from fun o => (hb5.frozen (p := ⟨w.heap.size, o, none⟩) (by simp)).trans (by simp [go_sem]))
  have hz5 : w.heap.size + 1 ≤ w5.heap.size := by have := hb5.size; simp at this; omega
  have HB5 := hide (show Below w.heap.size w w5 from bstep (by (focus repeat' (first | (with_reducible exact Below.refl _ _) | (with_reducible assumption) | (with_reducible refine Below.alloc ?_ ?_ _) | (with_reducible refine Below.drew ?_) | (with_reducible refine bdrewN ?_ _) | (with_reducible refine Below.setCell ?_ ?_ _) | (first | (with_reducible exact Nat.le_refl _) | (with_reducible assumption) | omega | (simp; omega) | (simp; done))))) hb5)
  clear hb5
  gi_wp2_with fail
  refine (callsIn_wide.2 (rOrder_c so cap L _ (HB.out.below HB5.out) hLL HMY.out.short)).mono ?_
  rintro e w6 ⟨⟨ao, c, rfl, own⟩, hb6⟩
  have hz6 := hb6.size
  have HOT := hide own
  have HR6 := hide (fun o => (hb6.cell (p := ⟨w.heap.size, o, none⟩) (show w.heap.size < w5.heap.size by omega)).trans (HR5.out o))
  have FR6 := hide (fun o => (hb6.frozen (p := ⟨w.heap.size, o, none⟩) (show w.heap.size < w5.heap.size by omega)).trans (FR5.out o))
  have HB6 := hide (bstep HB5.out hb6)
  clear own hb6 HR5 FR5
  gi_wp2_with fail
  obtain ⟨G, hG⟩ : ∃ G, G = w6.heap.size := ⟨_, rfl⟩
  obtain ⟨S, hS⟩ : ∃ S, S = w6.heap.size + 1 := ⟨_, rfl⟩
  obtain ⟨W7, hW7⟩ : ∃ W7, W7 = (w6.alloc (.cells (madeCells #[.int .i64 0] L.length) 3)).alloc (.cells #[.int .i64 floor, .slice (some ⟨G, 0, none⟩) L.length L.length, .int .i64 (-1)] 30) := ⟨_, rfl⟩
  rw [← hS, ← hG, ← hW7]
  have hb7 : Below w6.heap.size w6 W7 := by rw [hW7]; exact ((Below.refl _ _).alloc (Nat.le_refl _) _).alloc (by simp) _
  have hz7 : W7.heap.size = w6.heap.size + 2 := by rw [hW7]; simp
  have HS7 := hide (show SE w.heap.size S G w.heap.size floor (-1) L.length [] W7 from ⟨fun o => (hb7.cell (p := ⟨w.heap.size, o, none⟩) (show w.heap.size < w6.heap.size by omega)).trans (HR6.out o), fun o => (hb7.frozen (p := ⟨w.heap.size, o, none⟩) (show w.heap.size < w6.heap.size by omega)).trans (FR6.out o),
    fun o => by rw [hW7, hS]; simp [go_sem], by
      have q := own_make w6 w.heap.size L.length (by omega) hLL
      rw [hW7, hG]
      exact own_bel q ((Below.refl _ _).alloc (Nat.le_refl _) _)⟩)
  have HF7 := hide (show ∀ o, W7.frozen? ⟨S, o, none⟩ = false from fun o => by rw [hW7, hS]; simp [go_sem])
  have HT7 := hide (own_bel HOT.out hb7)
  have HB7 := hide (bstep HB6.out hb7)
  have hGT : ∀ g, (Value.slice ao (ordT L).length c).ownBlock = some g → g < G := fun g e => by rw [hG]; exact (HOT.out.lt g e).2
  have hc1 : (1 : Int) ≤ count := HMY.out.one
  have hc64 : count ≤ 64 := HMY.out.most
  have hTl : (ordT L).length ≤ 262144 := by
    have e : (ordT L).length = sumL L L.length := ordB_len L L.length
    have := sumL_le HMY.out.short L.length
    omega
  have hGS : G + 1 = S := by omega
  have hwG : w.heap.size < G := by omega
  have HX := hide (show ∀ i, i < (ordT L).length → ∃ b : Nat, b < L.length ∧ (get (ordT L) i).1 = (b : Int) ∧ floor ≤ (get (ordT L) i).2.2 from fun i hi => by
    refine unit_of HMY.out (pre := (ordT L).take i) (rest := (ordT L).drop (i + 1)) ?_
    rw [show get (ordT L) i = (ordT L)[i] from by (unfold get; rw [List.getElem?_eq_getElem hi]; rfl), List.getElem_cons_drop hi, List.take_append_drop])
  obtain ⟨T, hT⟩ : ∃ T, T = ordT L := ⟨_, rfl⟩
  have HTT := hide hT
  rw [← hT] at HT7 hGT hTl HX ⊢
  have hSW : S < W7.heap.size := by omega
  clear hW7 hb7 hT HOT hmk hS hG
  gi_loopw [11] (fun v11 wr => ∃ i : Nat, i ≤ T.length ∧ (i : Int) ≤ count ∧ v11 = .int .i64 (i : Int) ∧ SE w.heap.size S G w.heap.size floor (-1) L.length (T.take i) wr ∧ (∀ o, wr.frozen? ⟨S, o, none⟩ = false) ∧ wr.ownsRow w5.heap.size 52 3 (.slice ao T.length c) T.length (flat3 T) ∧ Below w.heap.size w wr ∧ S < wr.heap.size) (fun v11 _ => T.length - (intOf v11).toNat)
  case atStart => exact ⟨0, Nat.zero_le _, by omega, rfl, HS7.out, HF7.out, HT7.out, HB7.out, by omega⟩
  case round =>
    obtain ⟨i, hi, hic, rfl, hse, hfs, own, hbw, hSz⟩ := hrel
    have HSE := hide hse
    have HFS := hide hfs
    have HOW := hide own
    have HBW := hide hbw
    have hi0 : (0 : Int) ≤ (i : Int) := by omega
    clear hse hfs own hbw HS7 HF7 HT7 HB7
    by_cases hlt : i < T.length
    · have hlt' : (i : Int) < (T.length : Int) := by omega
      obtain ⟨b, hbL, hxb, hfl⟩ := HX.out i hlt
      obtain ⟨g, cp, hv, hg0, hgl⟩ := HOW.out.form (by omega)
      obtain ⟨rfl, rfl⟩ : ao = some ⟨g, 0, none⟩ ∧ c = cp := by (injection hv with e1 e2 e3; exact ⟨e1, e3⟩)
      have hgG := hGT g rfl
      have cells : ∀ cc, cc < 3 → wr.cell? ⟨g, i * 3 + cc, none⟩ = (cellsU (get T i))[cc]? := fun cc hcc => by rw [HOW.out.cellAt (i * 3 + cc) (by omega)]; exact flat3_at T i cc hlt hcc
      have x0 : wr.cell? ⟨g, i * 3, none⟩ = some (.int .i64 (b : Int)) := by rw [← hxb]; exact cells 0 (by decide)
      obtain ⟨xc, hxc⟩ : ∃ xc, xc = (get T i).2.2 := ⟨_, rfl⟩
      have x2 : wr.cell? ⟨g, i * 3 + 2, none⟩ = some (.int .i64 xc) := by rw [hxc]; exact cells 2 (by decide)
      rw [← hxc] at hfl
      have HXC := hide hxc
      have HXB := hide hxb
      have s1 : wr.cell? ⟨S, 1, none⟩ = some (.slice (some ⟨G, 0, none⟩) L.length L.length) := HSE.out.cs 1
      clear hv cells hxc hxb
      by_cases hlc : (i : Int) < count
      · have gb : wr.cell? ⟨G, b, none⟩ = some (.int .i64 (cnt (T.take i) b : Int)) := by rw [HSE.out.own.cellAt b (by omega)]; exact wonI_at _ _ _ hbL
        have gf : ∀ o, wr.frozen? ⟨G, o, none⟩ = false := HSE.out.own.frozenAt
        have hcn := cnt_le (T.take i) b
        have hcn2 : (T.take i).length ≤ 64 := by rw [List.length_take]; omega
        obtain ⟨cb, hcb⟩ : ∃ cb, cb = cnt (T.take i) b := ⟨_, rfl⟩
        rw [← hcb] at gb hcn
        have HCB := hide hcb
        have hcb64 : (cb : Int) + 1 ≤ 65 := by omega
        have hbL' : (b : Int) < (L.length : Int) := by omega
        have hb0 : (0 : Int) ≤ (b : Int) := by omega
        have a0 : ∀ m : Aft wr, m.w.cell? ⟨g, i * 3, none⟩ = some (.int .i64 (b : Int)) := fun m => (m.le.cell (p := ⟨g, i * 3, none⟩) hgl).trans x0
        have a1 : ∀ m : Aft wr, m.w.cell? ⟨S, 1, none⟩ = some (.slice (some ⟨G, 0, none⟩) L.length L.length) := fun m => (m.le.cell (p := ⟨S, 1, none⟩) hSz).trans s1
        have a2 : ∀ m : Aft wr, m.w.cell? ⟨G, b, none⟩ = some (.int .i64 (cb : Int)) := fun m => (m.le.cell (p := ⟨G, b, none⟩) (show G < wr.heap.size by omega)).trans gb
        have a3 : ∀ (m : Aft wr) o, m.w.frozen? ⟨G, o, none⟩ = false := fun m o => (m.le.frozen (p := ⟨G, o, none⟩) (show G < wr.heap.size by omega)).trans (gf o)
        have l1 : decide ((i : Int) < (T.length : Int)) = true := by (rw [decide_eq_true_eq]; exact hlt')
        have l2 : decide ((i : Int) < count) = true := by (rw [decide_eq_true_eq]; exact hlc)
        clear hcb hcn hcn2 x0 x2 s1 gb gf
        gi_wp2_with fail
        refine wpIn_region_after_tail 11 (by kernel_rfl) (by kernel_rfl) (by kernel_rfl) ?_
        simp only [List.take_succ_cons, List.take_zero, List.drop_succ_cons, List.drop_zero]
        repeat (gi_big_quiet_step (fail))
        refine wpQuietIn_nil ?_
        intro _ hw'
        obtain ⟨m, hw''⟩ := hw'
        subst hw''
        gi_wp2_with fail
        go_roundw
        case rel =>
          have q := (HSE.out.old (D := wr.heap.size) (by omega) (by omega) (by omega) (fun k h => m.le.block k h)).next (get T i) b hbL HXB.out (by omega) (by omega)
          rw [take_snoc T i hlt, ← HCB.out] at q
          refine ⟨i + 1, by omega, by omega, by go_num, q, fun o => by (rw [World.frozen?_setCell]; exact (m.le.frozen (p := ⟨S, o, none⟩) hSz).trans (HFS.out o)), own_old (HOW.out) ?_, (HBW.out.trans (m.le.mono HBW.out.size)).setCell (p := ⟨G, b, none⟩) (show w.heap.size ≤ G by omega) _, by rw [World.size_setCell]; exact Nat.lt_of_lt_of_le hSz m.le.size⟩
          rw [heap_setCell_other _ _ _ _ (by (simp; omega))]
          exact m.le.block g hgl
        case measure => (first | (simp [intOf]; done) | (simp [intOf]; omega))
      · have hce : count = (i : Int) := by omega
        have l1 : decide ((i : Int) < (T.length : Int)) = true := by (rw [decide_eq_true_eq]; exact hlt')
        have l2 : decide ((i : Int) < count) = false := by (rw [decide_eq_false_iff_not]; omega)
        have l3 : decide (count < (T.length : Int)) = true := by (rw [decide_eq_true_eq]; omega)
        have s0 : wr.cell? ⟨S, 0, none⟩ = some (.int .i64 floor) := HSE.out.cs 0
        have s2 : wr.cell? ⟨S, 2, none⟩ = some (.int .i64 (-1)) := HSE.out.cs 2
        have fs := HFS.out
        have hgS : g ≠ S := by omega
        have hSg : S ≠ g := by omega
        have HCE := hide hce
        have hRS : w.heap.size ≠ S := by omega
        have hSR : S ≠ w.heap.size := by omega
        have hfl1 : ¬ xc < floor := by omega
        have HFL := hide hfl
        subst hce
        gi_wp2_with fail
        have r0 : wr.cell? ⟨w.heap.size, 0, none⟩ = some (.int .i64 0) := HSE.out.cr 0
        have r1 : wr.cell? ⟨w.heap.size, 1, none⟩ = some (.slice none 0 0) := HSE.out.cr 1
        have r2 : wr.cell? ⟨w.heap.size, 2, none⟩ = some (.int .i64 0) := HSE.out.cr 2
        have fr := HSE.out.fr
        gi_region
        gi_wp2_with fail
        · have hgt : ¬ (T.length : Int) ≤ (i : Int) := by omega
          have hcn : ((i : Int)).toNat = i := by omega
          have SP1 : priceOf T (i : Int) floor = xc := by rw [priceOf, if_neg hgt, hcn, ← HXC.out]
          have SP2 : nextOf T (i : Int) = (b : Int) := by rw [nextOf, if_neg hgt, hcn, HXB.out]
          have hSB : w.heap.size ≤ S := by omega
          refine bodyPost_ret (v := .tuple #[.agg #[.int .i64 xc, .slice (some ⟨G, 0, none⟩) L.length L.length, .int .i64 (b : Int)], .int .i64 0]) (by simp [results, Try.f13, go_sem, r0, r1, r2, s0, s1, s2, hRS, hSR]) rfl ⟨⟨G, by rw [← HTT.out, SP1, SP2], ?_⟩, ?_⟩
          · rw [← HTT.out]
            refine own_old (w := wr) ?_ ?_
            · first | (rw [hcn]; exact HSE.out.own) | exact HSE.out.own
            · rw [show ∀ (V : World), V.drew.heap = V.heap from fun _ => rfl, heap_setCell_other _ _ _ _ (by (simp; omega)), heap_setCell_other _ _ _ _ (by (simp; omega)), heap_setCell_other _ _ _ _ (by (simp; omega)), heap_setCell_other _ _ _ _ (by (simp; omega)), heap_setCell_other _ _ _ _ (by (simp; omega))]
          · exact (((((HBW.out.setCell (p := ⟨S, 0, none⟩) hSB _).setCell (p := ⟨S, 2, none⟩) hSB _).setCell (p := ⟨w.heap.size, 0, none⟩) (Nat.le_refl _) _).setCell (p := ⟨w.heap.size, 1, none⟩) (Nat.le_refl _) _).setCell (p := ⟨w.heap.size, 2, none⟩) (Nat.le_refl _) _).drew
        · have e5 : xc = floor := by omega
          have hgt : ¬ (T.length : Int) ≤ (i : Int) := by omega
          have hcn : ((i : Int)).toNat = i := by omega
          have SP1 : priceOf T (i : Int) floor = floor := by rw [priceOf, if_neg hgt, hcn, ← HXC.out, e5]
          have SP2 : nextOf T (i : Int) = (b : Int) := by rw [nextOf, if_neg hgt, hcn, HXB.out]
          have hSB : w.heap.size ≤ S := by omega
          refine bodyPost_ret (v := .tuple #[.agg #[.int .i64 floor, .slice (some ⟨G, 0, none⟩) L.length L.length, .int .i64 (b : Int)], .int .i64 0]) (by simp [results, Try.f13, go_sem, r0, r1, r2, s0, s1, s2, hRS, hSR]) rfl ⟨⟨G, by rw [← HTT.out, SP1, SP2], ?_⟩, ?_⟩
          · rw [← HTT.out]
            refine own_old (w := wr) ?_ ?_
            · first | (rw [hcn]; exact HSE.out.own) | exact HSE.out.own
            · rw [show ∀ (V : World), V.drew.heap = V.heap from fun _ => rfl, heap_setCell_other _ _ _ _ (by (simp; omega)), heap_setCell_other _ _ _ _ (by (simp; omega)), heap_setCell_other _ _ _ _ (by (simp; omega)), heap_setCell_other _ _ _ _ (by (simp; omega)), heap_setCell_other _ _ _ _ (by (simp; omega))]
          · exact (((((HBW.out.setCell (p := ⟨S, 0, none⟩) hSB _).setCell (p := ⟨S, 2, none⟩) hSB _).setCell (p := ⟨w.heap.size, 0, none⟩) (Nat.le_refl _) _).setCell (p := ⟨w.heap.size, 1, none⟩) (Nat.le_refl _) _).setCell (p := ⟨w.heap.size, 2, none⟩) (Nat.le_refl _) _).drew
    · obtain rfl : i = T.length := by omega
      have l1 : decide ((T.length : Int) < (T.length : Int)) = false := by simp
      have l3 : decide (count < (T.length : Int)) = false := by (rw [decide_eq_false_iff_not]; omega)
      have s0 : wr.cell? ⟨S, 0, none⟩ = some (.int .i64 floor) := HSE.out.cs 0
      have s1 : wr.cell? ⟨S, 1, none⟩ = some (.slice (some ⟨G, 0, none⟩) L.length L.length) := HSE.out.cs 1
      have s2 : wr.cell? ⟨S, 2, none⟩ = some (.int .i64 (-1)) := HSE.out.cs 2
      have r0 : wr.cell? ⟨w.heap.size, 0, none⟩ = some (.int .i64 0) := HSE.out.cr 0
      have r1 : wr.cell? ⟨w.heap.size, 1, none⟩ = some (.slice none 0 0) := HSE.out.cr 1
      have r2 : wr.cell? ⟨w.heap.size, 2, none⟩ = some (.int .i64 0) := HSE.out.cr 2
      have fr := HSE.out.fr
      gi_wp2_with fail
      have hlc : (T.length : Int) ≤ count := hic
      have SP1 : priceOf T count floor = floor := if_pos hlc
      have SP2 : nextOf T count = -1 := if_pos hlc
      have SP3 : T.take count.toNat = T.take T.length := by rw [List.take_of_length_le (by omega), List.take_of_length_le (Nat.le_refl _)]
      refine bodyPost_ret (v := .tuple #[.agg #[.int .i64 floor, .slice (some ⟨G, 0, none⟩) L.length L.length, .int .i64 (-1)], .int .i64 0]) (by simp [results, Try.f13, go_sem, r0, r1, r2]) rfl ⟨⟨G, by rw [← HTT.out, SP1, SP2], ?_⟩, ?_⟩
      · rw [← HTT.out, SP3]
        refine own_old HSE.out.own ?_
        rw [heap_setCell_other _ _ _ _ (by (simp; omega)), heap_setCell_other _ _ _ _ (by (simp; omega)), heap_setCell_other _ _ _ _ (by (simp; omega))]
      · exact ((HBW.out.setCell (p := ⟨w.heap.size, 0, none⟩) (Nat.le_refl _) _).setCell (p := ⟨w.heap.size, 1, none⟩) (Nat.le_refl _) _).setCell (p := ⟨w.heap.size, 2, none⟩) (Nat.le_refl _) _
end Go.Proofs.Ytehpjipmlpaflaa.un
