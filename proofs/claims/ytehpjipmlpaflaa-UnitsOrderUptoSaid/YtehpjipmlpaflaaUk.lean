import Derived.Test.YtehpjipmlpaflaaUi
namespace Go.Proofs.Ytehpjipmlpaflaa.un
open Go.ChangeShapes Go.WideShapes Go.ChangeAt Go.RowKit Go.Deep Go.Shelf
set_option linter.unusedSimpArgs false
set_option linter.unusedVariables false

attribute [local go_sem] Oper.semAt_some

theorem get_of_lt {T : List U} {k : Nat} (h : k < T.length) : get T k ∈ T := get_mem T k h
theorem sale_bounds {count floor : Int} {L : List (List Int)} {v p nx : Int} {won : List Int} (hw : WrongIs count floor L v) (hs : SaleIs count floor L v p nx won) : (0 ≤ p ∧ p ≤ 1099511627776) ∧ (∀ b, b < won.length → 0 ≤ at0 won b ∧ at0 won b ≤ 64) ∧ (won.length = 0 ∨ won.length = L.length) ∧ won.length ≤ 4096 := by
  rcases hs with ⟨hv, rfl, rfl, rfl⟩ | ⟨rfl, rfl, rfl, rfl⟩
  · exact ⟨⟨by decide, by decide⟩, fun b h => by simp at h, .inl rfl, by simp⟩
  · have hm := hw.may
    refine ⟨?_, fun b hb => ?_, .inr (wonI_len _ _), by rw [wonI_len]; exact hm.len⟩
    · unfold priceOf
      split
      · exact hm.fl
      · rename_i h
        obtain ⟨b, q, hbL, -, hq, e⟩ := ((ordT_rest L).are _).1 (get_of_lt (show count.toNat < (ordT L).length by have := hm.one; omega))
        rw [e]
        exact ((hm.formed b hbL).good q hq).1
    · rw [wonI_len] at hb
      have e : at0 (wonI L.length ((ordT L).take count.toNat)) b = (cnt ((ordT L).take count.toNat) b : Int) := by
        simp [at0, wonI, hb]
      rw [e]
      have h1 := cnt_le ((ordT L).take count.toNat) b
      have h2 : ((ordT L).take count.toNat).length ≤ count.toNat := by rw [List.length_take]; omega
      have h3 := hm.most
      have h4 := hm.one
      omega
theorem pay_bounds {p y : Int} (h0 : 0 ≤ p) (h1 : p ≤ 1099511627776) (h2 : 0 ≤ y) (h3 : y ≤ 64) : 0 ≤ p * y ∧ p * y ≤ 9000000000000000000 := by
  refine ⟨Int.mul_nonneg h0 h2, Int.le_trans (Int.mul_le_mul h1 h3 h2 (by decide)) (by decide)⟩
theorem own_keep {w w' : World} {base : Nat} {e : TypeId} {size n : Nat} {v : Value} {xs : List Value} (h : w.ownsRow base e size v n xs) (hb : ∀ k, v.ownBlock = some k → w'.heap[k]? = w.heap[k]?) : w'.ownsRow base e size v n xs := by
  refine ⟨h.1, ?_⟩
  rcases h.2 with q | ⟨g', cap', cur, rfl, h2, h3, h4⟩
  · exact .inl q
  · exact .inr ⟨g', cap', cur, rfl, h2, (hb g' rfl).trans h3, h4⟩
theorem own_row3 {W : World} {base : Nat} {ao : Option Addr} {c : Nat} {xs : List Int} (own : W.ownsRow base 3 1 (.slice ao xs.length c) xs.length (xs.map I64)) (h0 : 0 < xs.length) : ∃ g, ao = some ⟨g, 0, none⟩ ∧ base ≤ g ∧ g < W.heap.size ∧ ∀ q, q < xs.length → W.cell? ⟨g, q, none⟩ = some (.int .i64 (at0 xs q)) := by
  obtain ⟨g, cap, hv, hb, hlt⟩ := own.form h0
  obtain ⟨rfl, rfl⟩ : ao = some ⟨g, 0, none⟩ ∧ c = cap := by (injection hv with e1 e2 e3; exact ⟨e1, e3⟩)
  refine ⟨g, rfl, hb, hlt, fun q hq => ?_⟩
  rw [own.cellAt q (by omega), List.getElem?_map, List.getElem?_eq_getElem hq]
  simp [at0, List.getElem?_eq_getElem hq]
set_option maxHeartbeats 2000000 in
theorem USell_long (count floor bid : Int) (so : Option Addr) (cap : Nat) (L : List (List Int)) (w : World) (hb : BRows so L w) (hl : isLong L) : Calls Try.prog 3 #[.agg #[.int .i64 count, .int .i64 floor, .slice so L.length cap], .int .i64 bid] w fun e w' => e = .returned (.bool true) ∧ Below w.heap.size w w' := by
  have HB := hide hb
  have HL := hide hl
  clear hb hl
  go_enter Try.func3, Try.ntmps3
  go_wp2_with fail
  refine (long_yes count floor so cap L _ (HB.out.below (by (focus repeat' (first | (with_reducible exact Below.refl _ _) | (with_reducible assumption) | (with_reducible refine Below.alloc ?_ ?_ _) | (with_reducible refine Below.drew ?_) | (with_reducible refine bdrewN ?_ _) | (with_reducible refine Below.setCell ?_ ?_ _) | (first | (with_reducible exact Nat.le_refl _) | (with_reducible assumption) | omega | (simp; omega) | (simp; done)))))) HL.out).mono ?_
  rintro e w5 ⟨rfl, hb5⟩
  have HB5 := hide (show Below w.heap.size w w5 from bstep (by (focus repeat' (first | (with_reducible exact Below.refl _ _) | (with_reducible assumption) | (with_reducible refine Below.alloc ?_ ?_ _) | (with_reducible refine Below.drew ?_) | (with_reducible refine bdrewN ?_ _) | (with_reducible refine Below.setCell ?_ ?_ _) | (first | (with_reducible exact Nat.le_refl _) | (with_reducible assumption) | omega | (simp; omega) | (simp; done))))) hb5)
  clear hb5
  go_wp2_with fail
  refine (known_c _).mono ?_
  rintro e w6 ⟨rfl, hb6⟩
  have HB6 := hide (bstep HB5.out hb6)
  clear hb6
  go_wp2
  refine bodyPost_ret (v := .bool true) (by simp [results, Try.f3, go_sem]) rfl ⟨rfl, HB6.out⟩
set_option maxRecDepth 100000 in
set_option maxHeartbeats 8000000 in
theorem USell_main (count floor bid : Int) (so : Option Addr) (cap : Nat) (L : List (List Int)) (w : World) (hb : BRows so L w) (hl : L.length ≤ 40 ∧ ∀ i, i < L.length → (bidAt L i).length ≤ 100) : Calls Try.prog 3 #[.agg #[.int .i64 count, .int .i64 floor, .slice so L.length cap], .int .i64 bid] w fun e w' => e = .returned (.bool true) ∧ Below w.heap.size w w' := by
  refine (callsIn_wide (n := 3)).1 ?_
  refine callsIn_of_wp Try.func3 rfl trivial ?_ rfl
  simp only [Try.ntmps3, List.size_toArray, List.length_cons, List.length_nil, Nat.reduceAdd, Nat.reduceSub, Array.replicate_succ, Array.replicate_zero, List.push_toArray, List.append_toArray, List.nil_append, List.cons_append]
  have HB := hide hb
  have HL := hide hl
  have hL40 : L.length ≤ 4096 := by omega
  have HLB := hide (short_all hl.2)
  clear hb hl
  gi_wp2_with fail
  refine (callsIn_wide.2 (long_no count floor so cap L _ (HB.out.below (by (focus repeat' (first | (with_reducible exact Below.refl _ _) | (with_reducible assumption) | (with_reducible refine Below.alloc ?_ ?_ _) | (with_reducible refine Below.drew ?_) | (with_reducible refine bdrewN ?_ _) | (with_reducible refine Below.setCell ?_ ?_ _) | (first | (with_reducible exact Nat.le_refl _) | (with_reducible assumption) | omega | (simp; omega) | (simp; done)))))) HL.out)).mono ?_
  rintro e w1 ⟨rfl, hb1⟩
  have HA1 := hide (show ∀ o, w1.cell? ⟨w.heap.size, o, none⟩ = (#[Value.int .i64 count, .int .i64 floor, .slice so L.length cap] : Array Value)[o]? from fun o => (hb1.cell (p := ⟨w.heap.size, o, none⟩) (by simp)).trans (by simp [go_sem]))
  have HB1 := hide (show Below w.heap.size w w1 from bstep (by (focus repeat' (first | (with_reducible exact Below.refl _ _) | (with_reducible assumption) | (with_reducible refine Below.alloc ?_ ?_ _) | (with_reducible refine Below.drew ?_) | (with_reducible refine bdrewN ?_ _) | (with_reducible refine Below.setCell ?_ ?_ _) | (first | (with_reducible exact Nat.le_refl _) | (with_reducible assumption) | omega | (simp; omega) | (simp; done))))) hb1)
  have hz1 : w.heap.size + 1 ≤ w1.heap.size := by have := hb1.size; simp at this; omega
  clear hb1
  have x2 : w1.cell? ⟨w.heap.size, 2, none⟩ = some (.slice so L.length cap) := HA1.out 2
  gi_wp2_with fail
  refine (callsIn_wide.2 (lent_c so cap L _ (HB.out.below HB1.out) hL40 (fun i hi => by have := HLB.out i; omega))).mono ?_
  rintro e w2 ⟨⟨M, cM, rfl, hlm⟩, hb2⟩
  have HM2 := hide hlm
  have HB2 := hide (bstep HB1.out hb2)
  have hz2 := hb2.size
  have HA2 := hide (fun o => (hb2.cell (p := ⟨w.heap.size, o, none⟩) (show w.heap.size < w1.heap.size by omega)).trans (HA1.out o))
  clear hb2 hlm x2
  obtain ⟨v, hw⟩ := wrong_one count floor L
  obtain ⟨p, nx, won, hs⟩ := sale_one count floor L v
  have HW := hide hw
  have HS := hide hs
  obtain ⟨hp, hwon, hwl, hwl2⟩ := sale_bounds hw hs
  have HWN := hide hwon
  clear hw hs hwon
  have x0 : w2.cell? ⟨w.heap.size, 0, none⟩ = some (.int .i64 count) := HA2.out 0
  have x1 : w2.cell? ⟨w.heap.size, 1, none⟩ = some (.int .i64 floor) := HA2.out 1
  gi_wp2_with fail
  refine (callsIn_wide.2 (Sell_is HW.out HS.out _ HM2.out.brows)).mono ?_
  rintro e w3 ⟨⟨a3, c3, rfl, own3⟩, hb3⟩
  have HO3 := hide own3
  have HM3 := hide (HM2.out.below hb3)
  have HB3 := hide (bstep HB2.out hb3)
  have hz3 := hb3.size
  have HA3 := hide (fun o => (hb3.cell (p := ⟨w.heap.size, o, none⟩) (show w.heap.size < w2.heap.size by omega)).trans (HA2.out o))
  clear hb3 own3 x0 x1
  obtain ⟨V3, hV3⟩ : ∃ V3, V3 = w3.alloc (.cells #[.int .i64 p, .slice a3 won.length c3, .int .i64 nx] 30) := ⟨_, rfl⟩
  have hbv3 : Below w3.heap.size w3 V3 := by rw [hV3]; exact (Below.refl _ _).alloc (Nat.le_refl _) _
  have HSv3 := hide (show ∀ o, V3.cell? ⟨w3.heap.size, o, none⟩ = (#[Value.int .i64 p, .slice a3 won.length c3, .int .i64 nx] : Array Value)[o]? from fun o => by rw [hV3]; simp [go_sem])
  have hzv3 : V3.heap.size = w3.heap.size + 1 := by rw [hV3]; simp
  have HO3_3 := HO3
  have ha0 : V3.cell? ⟨w.heap.size, 0, none⟩ = some (.int .i64 count) := (hbv3.cell (p := ⟨w.heap.size, 0, none⟩) (show w.heap.size < w3.heap.size by omega)).trans (HA3.out 0)
  have ha1 : V3.cell? ⟨w.heap.size, 1, none⟩ = some (.int .i64 floor) := (hbv3.cell (p := ⟨w.heap.size, 1, none⟩) (show w.heap.size < w3.heap.size by omega)).trans (HA3.out 1)
  have ha2 : V3.cell? ⟨w.heap.size, 2, none⟩ = some (.slice so L.length cap) := (hbv3.cell (p := ⟨w.heap.size, 2, none⟩) (show w.heap.size < w3.heap.size by omega)).trans (HA3.out 2)
  rw [hV3] at ha0 ha1 ha2
  gi_wp2_with fail
  rw [← hV3]
  refine (callsIn_wide.2 (Sell_is HW.out HS.out _ (HM3.out.below hbv3).brows)).mono ?_
  rintro e w4 ⟨⟨a4, c4, rfl, own4⟩, hb4⟩
  have hb34 : Below w3.heap.size w3 w4 := bstep hbv3 hb4
  have hz4 := hb4.size
  have HA4 := hide (show ∀ o, w4.cell? ⟨w.heap.size, o, none⟩ = (#[Value.int .i64 count, .int .i64 floor, .slice so L.length cap] : Array Value)[o]? from fun o => (hb34.cell (p := ⟨w.heap.size, o, none⟩) (show w.heap.size < w3.heap.size by omega)).trans (HA3.out o))
  have HO3_4 := hide (own_bel HO3_3.out hb34)
  have HM4 := hide (HM3.out.below hb34)
  have HB4 := hide (bstep HB3.out hb34)
  have HS4 := hide (fun o => (hb4.cell (p := ⟨w3.heap.size, o, none⟩) (show w3.heap.size < V3.heap.size by omega)).trans (HSv3.out o))
  have HO4_4 := hide own4
  clear own4 hb4 hb34 ha0 ha1 ha2
  obtain ⟨V4, hV4⟩ : ∃ V4, V4 = w4.alloc (.cells #[.int .i64 p, .slice a4 won.length c4, .int .i64 nx] 30) := ⟨_, rfl⟩
  have hbv4 : Below w4.heap.size w4 V4 := by rw [hV4]; exact (Below.refl _ _).alloc (Nat.le_refl _) _
  have HTv4 := hide (show ∀ o, V4.cell? ⟨w4.heap.size, o, none⟩ = (#[Value.int .i64 p, .slice a4 won.length c4, .int .i64 nx] : Array Value)[o]? from fun o => by rw [hV4]; simp [go_sem])
  have hzv4 : V4.heap.size = w4.heap.size + 1 := by rw [hV4]; simp
  have ha0 : V4.cell? ⟨w.heap.size, 0, none⟩ = some (.int .i64 count) := (hbv4.cell (p := ⟨w.heap.size, 0, none⟩) (show w.heap.size < w4.heap.size by omega)).trans (HA4.out 0)
  have ha1 : V4.cell? ⟨w.heap.size, 1, none⟩ = some (.int .i64 floor) := (hbv4.cell (p := ⟨w.heap.size, 1, none⟩) (show w.heap.size < w4.heap.size by omega)).trans (HA4.out 1)
  have ha2 : V4.cell? ⟨w.heap.size, 2, none⟩ = some (.slice so L.length cap) := (hbv4.cell (p := ⟨w.heap.size, 2, none⟩) (show w.heap.size < w4.heap.size by omega)).trans (HA4.out 2)
  rw [hV4] at ha0 ha1 ha2
  gi_wp2_with fail
  rw [← hV4]
  refine (callsIn_wide.2 (rSell_is HW.out HS.out _ (HB.out.below (bstep HB4.out hbv4)))).mono ?_
  rintro e w5 ⟨⟨a5, c5, rfl, own5⟩, hb5⟩
  have hb45 : Below w4.heap.size w4 w5 := bstep hbv4 hb5
  have hz5 := hb5.size
  have HA5 := hide (show ∀ o, w5.cell? ⟨w.heap.size, o, none⟩ = (#[Value.int .i64 count, .int .i64 floor, .slice so L.length cap] : Array Value)[o]? from fun o => (hb45.cell (p := ⟨w.heap.size, o, none⟩) (show w.heap.size < w4.heap.size by omega)).trans (HA4.out o))
  have HS5 := hide (show ∀ o, w5.cell? ⟨w3.heap.size, o, none⟩ = (#[Value.int .i64 p, .slice a3 won.length c3, .int .i64 nx] : Array Value)[o]? from fun o => (hb45.cell (p := ⟨w3.heap.size, o, none⟩) (show w3.heap.size < w4.heap.size by omega)).trans (HS4.out o))
  have HO3_5 := hide (own_bel HO3_4.out hb45)
  have HO4_5 := hide (own_bel HO4_4.out hb45)
  have HM5 := hide (HM4.out.below hb45)
  have HB5 := hide (bstep HB4.out hb45)
  have HT5 := hide (fun o => (hb5.cell (p := ⟨w4.heap.size, o, none⟩) (show w4.heap.size < V4.heap.size by omega)).trans (HTv4.out o))
  have HO5_5 := hide own5
  clear own5 hb5 hb45 ha0 ha1 ha2
  obtain ⟨V5, hV5⟩ : ∃ V5, V5 = w5.alloc (.cells #[.int .i64 p, .slice a5 won.length c5, .int .i64 nx] 30) := ⟨_, rfl⟩
  have hbv5 : Below w5.heap.size w5 V5 := by rw [hV5]; exact (Below.refl _ _).alloc (Nat.le_refl _) _
  have HWv5 := hide (show ∀ o, V5.cell? ⟨w5.heap.size, o, none⟩ = (#[Value.int .i64 p, .slice a5 won.length c5, .int .i64 nx] : Array Value)[o]? from fun o => by rw [hV5]; simp [go_sem])
  have hzv5 : V5.heap.size = w5.heap.size + 1 := by rw [hV5]; simp
  have q1 : decide (v = v) = true := by simp
  have q2 : (v == v) = true := by simp
  have q3 : (v != v) = false := by simp
  have hs0 : V5.cell? ⟨w3.heap.size, 0, none⟩ = some (.int .i64 p) := (hbv5.cell (p := ⟨w3.heap.size, 0, none⟩) (show w3.heap.size < w5.heap.size by omega)).trans (HS5.out 0)
  have hs1 : V5.cell? ⟨w3.heap.size, 1, none⟩ = some (.slice a3 won.length c3) := (hbv5.cell (p := ⟨w3.heap.size, 1, none⟩) (show w3.heap.size < w5.heap.size by omega)).trans (HS5.out 1)
  have hs2 : V5.cell? ⟨w3.heap.size, 2, none⟩ = some (.int .i64 nx) := (hbv5.cell (p := ⟨w3.heap.size, 2, none⟩) (show w3.heap.size < w5.heap.size by omega)).trans (HS5.out 2)
  have ha0 : V5.cell? ⟨w.heap.size, 0, none⟩ = some (.int .i64 count) := (hbv5.cell (p := ⟨w.heap.size, 0, none⟩) (show w.heap.size < w5.heap.size by omega)).trans (HA5.out 0)
  have ha1 : V5.cell? ⟨w.heap.size, 1, none⟩ = some (.int .i64 floor) := (hbv5.cell (p := ⟨w.heap.size, 1, none⟩) (show w.heap.size < w5.heap.size by omega)).trans (HA5.out 1)
  have ha2 : V5.cell? ⟨w.heap.size, 2, none⟩ = some (.slice so L.length cap) := (hbv5.cell (p := ⟨w.heap.size, 2, none⟩) (show w.heap.size < w5.heap.size by omega)).trans (HA5.out 2)
  have hw0 : V5.cell? ⟨w5.heap.size, 0, none⟩ = some (.int .i64 p) := HWv5.out 0
  have hw1 : V5.cell? ⟨w5.heap.size, 1, none⟩ = some (.slice a5 won.length c5) := HWv5.out 1
  have hw2 : V5.cell? ⟨w5.heap.size, 2, none⟩ = some (.int .i64 nx) := HWv5.out 2
  rw [hV5] at hs0 hs1 hs2 ha0 ha1 ha2 hw0 hw1 hw2
  gi_wp2_with fail
  rw [← hV5]
  refine (callsIn_wide.2 (Same_yes p nx won a3 a5 c3 c5 _ (IRow.of_own (own_bel HO3_5.out hbv5)) (IRow.of_own (own_bel HO5_5.out hbv5)) (by omega))).mono ?_
  rintro e w6 ⟨rfl, hb6⟩
  have hb56 : Below w5.heap.size w5 w6 := bstep hbv5 hb6
  have hz6 := hb6.size
  have HA6 := hide (show ∀ o, w6.cell? ⟨w.heap.size, o, none⟩ = (#[Value.int .i64 count, .int .i64 floor, .slice so L.length cap] : Array Value)[o]? from fun o => (hb56.cell (p := ⟨w.heap.size, o, none⟩) (show w.heap.size < w5.heap.size by omega)).trans (HA5.out o))
  have HS6 := hide (show ∀ o, w6.cell? ⟨w3.heap.size, o, none⟩ = (#[Value.int .i64 p, .slice a3 won.length c3, .int .i64 nx] : Array Value)[o]? from fun o => (hb56.cell (p := ⟨w3.heap.size, o, none⟩) (show w3.heap.size < w5.heap.size by omega)).trans (HS5.out o))
  have HT6 := hide (show ∀ o, w6.cell? ⟨w4.heap.size, o, none⟩ = (#[Value.int .i64 p, .slice a4 won.length c4, .int .i64 nx] : Array Value)[o]? from fun o => (hb56.cell (p := ⟨w4.heap.size, o, none⟩) (show w4.heap.size < w5.heap.size by omega)).trans (HT5.out o))
  have HO3_6 := hide (own_bel HO3_5.out hb56)
  have HO4_6 := hide (own_bel HO4_5.out hb56)
  have HO5_6 := hide (own_bel HO5_5.out hb56)
  have HM6 := hide (HM5.out.below hb56)
  have HB6 := hide (bstep HB5.out hb56)
  have HW6 := hide (fun o => (hb6.cell (p := ⟨w5.heap.size, o, none⟩) (show w5.heap.size < V5.heap.size by omega)).trans (HWv5.out o))
  clear hb6 hb56 hs0 hs1 hs2 ha0 ha1 ha2 hw0 hw1 hw2
  have ha0 : w6.cell? ⟨w.heap.size, 0, none⟩ = some (.int .i64 count) := ((Below.refl w6.heap.size w6).cell (p := ⟨w.heap.size, 0, none⟩) (show w.heap.size < w6.heap.size by omega)).trans (HA6.out 0)
  have ha1 : w6.cell? ⟨w.heap.size, 1, none⟩ = some (.int .i64 floor) := ((Below.refl w6.heap.size w6).cell (p := ⟨w.heap.size, 1, none⟩) (show w.heap.size < w6.heap.size by omega)).trans (HA6.out 1)
  have ha2 : w6.cell? ⟨w.heap.size, 2, none⟩ = some (.slice so L.length cap) := ((Below.refl w6.heap.size w6).cell (p := ⟨w.heap.size, 2, none⟩) (show w.heap.size < w6.heap.size by omega)).trans (HA6.out 2)
  gi_wp2_with fail
  refine (callsIn_wide.2 (kept_c so cap L _ M cM _ (HB.out.below HB6.out) HM6.out hL40 (fun i hi => by have := HLB.out i; omega))).mono ?_
  rintro e w7 ⟨rfl, hb7⟩
  have hz7 := hb7.size
  have HA7 := hide (show ∀ o, w7.cell? ⟨w.heap.size, o, none⟩ = (#[Value.int .i64 count, .int .i64 floor, .slice so L.length cap] : Array Value)[o]? from fun o => (hb7.cell (p := ⟨w.heap.size, o, none⟩) (show w.heap.size < w6.heap.size by omega)).trans (HA6.out o))
  have HS7 := hide (show ∀ o, w7.cell? ⟨w3.heap.size, o, none⟩ = (#[Value.int .i64 p, .slice a3 won.length c3, .int .i64 nx] : Array Value)[o]? from fun o => (hb7.cell (p := ⟨w3.heap.size, o, none⟩) (show w3.heap.size < w6.heap.size by omega)).trans (HS6.out o))
  have HT7 := hide (show ∀ o, w7.cell? ⟨w4.heap.size, o, none⟩ = (#[Value.int .i64 p, .slice a4 won.length c4, .int .i64 nx] : Array Value)[o]? from fun o => (hb7.cell (p := ⟨w4.heap.size, o, none⟩) (show w4.heap.size < w6.heap.size by omega)).trans (HT6.out o))
  have HW7 := hide (show ∀ o, w7.cell? ⟨w5.heap.size, o, none⟩ = (#[Value.int .i64 p, .slice a5 won.length c5, .int .i64 nx] : Array Value)[o]? from fun o => (hb7.cell (p := ⟨w5.heap.size, o, none⟩) (show w5.heap.size < w6.heap.size by omega)).trans (HW6.out o))
  have HO3_7 := hide (own_bel HO3_6.out hb7)
  have HO4_7 := hide (own_bel HO4_6.out hb7)
  have HO5_7 := hide (own_bel HO5_6.out hb7)
  have HM7 := hide (HM6.out.below hb7)
  have HB7 := hide (bstep HB6.out hb7)
  clear hb7 ha0 ha1 ha2
  have hs0 : w7.cell? ⟨w3.heap.size, 0, none⟩ = some (.int .i64 p) := ((Below.refl w7.heap.size w7).cell (p := ⟨w3.heap.size, 0, none⟩) (show w3.heap.size < w7.heap.size by omega)).trans (HS7.out 0)
  have hs1 : w7.cell? ⟨w3.heap.size, 1, none⟩ = some (.slice a3 won.length c3) := ((Below.refl w7.heap.size w7).cell (p := ⟨w3.heap.size, 1, none⟩) (show w3.heap.size < w7.heap.size by omega)).trans (HS7.out 1)
  have hs2 : w7.cell? ⟨w3.heap.size, 2, none⟩ = some (.int .i64 nx) := ((Below.refl w7.heap.size w7).cell (p := ⟨w3.heap.size, 2, none⟩) (show w3.heap.size < w7.heap.size by omega)).trans (HS7.out 2)
  gi_wp2_with fail
  have hg3 : ∀ g, (Value.slice a3 won.length c3).ownBlock = some g → g < w3.heap.size := fun g e => (HO3.out.lt g e).2
  have hg4 : ∀ g, (Value.slice a4 won.length c4).ownBlock = some g → w3.heap.size < g := fun g e => by have := (HO4_4.out.lt g e).1; omega
  have hg5 : ∀ g, (Value.slice a5 won.length c5).ownBlock = some g → w3.heap.size < g := fun g e => by have := (HO5_5.out.lt g e).1; omega
  clear hs0 hs1 hs2 q1 q2 q3
  rcases Int.lt_or_le bid 0 with hbid | hbid
  · refine (callsIn_wide.2 (Spent_low p nx bid won a3 c3 _ hbid)).mono ?_
    rintro e w8 ⟨rfl, hb8⟩
    have hz8 := hb8.size
    have HS8 := hide (show ∀ o, w8.cell? ⟨w3.heap.size, o, none⟩ = (#[Value.int .i64 p, .slice a3 won.length c3, .int .i64 nx] : Array Value)[o]? from fun o => (hb8.cell (p := ⟨w3.heap.size, o, none⟩) (show w3.heap.size < w7.heap.size by omega)).trans (HS7.out o))
    have HT8 := hide (show ∀ o, w8.cell? ⟨w4.heap.size, o, none⟩ = (#[Value.int .i64 p, .slice a4 won.length c4, .int .i64 nx] : Array Value)[o]? from fun o => (hb8.cell (p := ⟨w4.heap.size, o, none⟩) (show w4.heap.size < w7.heap.size by omega)).trans (HT7.out o))
    have HW8 := hide (show ∀ o, w8.cell? ⟨w5.heap.size, o, none⟩ = (#[Value.int .i64 p, .slice a5 won.length c5, .int .i64 nx] : Array Value)[o]? from fun o => (hb8.cell (p := ⟨w5.heap.size, o, none⟩) (show w5.heap.size < w7.heap.size by omega)).trans (HW7.out o))
    have HO3_8 := hide (own_bel HO3_7.out hb8)
    have HO4_8 := hide (own_bel HO4_7.out hb8)
    have HO5_8 := hide (own_bel HO5_7.out hb8)
    have HM8 := hide (HM7.out.below hb8)
    have HB8 := hide (bstep HB7.out hb8)
    clear hb8
    gi_wp2_with fail
    gi_loopw [14] (fun v14 wx => ∃ (i : Nat) (zs : List Value), i ≤ won.length ∧ v14 = .int .i64 (i : Int) ∧ wx.ownsRow w2.heap.size 3 1 (.slice a3 won.length c3) won.length zs ∧ (∀ k, (Value.slice a3 won.length c3).ownBlock ≠ some k → wx.heap[k]? = w8.heap[k]?) ∧ wx.heap.size = w8.heap.size ∧ Below w.heap.size w wx) (fun v14 _ => won.length - (intOf v14).toNat)
    case atStart => exact ⟨0, _, Nat.zero_le _, rfl, HO3_8.out, fun _ _ => rfl, rfl, HB8.out⟩
    case round =>
      obtain ⟨i, zs, hi, rfl, own, hoth, hsz, hbx⟩ := hrel
      have HOW := hide own
      have HOT := hide hoth
      have HBX := hide hbx
      have hi0 : (0 : Int) ≤ (i : Int) := by omega
      have hn3 : (Value.slice a3 won.length c3).ownBlock ≠ some w3.heap.size := fun e => absurd (hg3 _ e) (Nat.lt_irrefl _)
      have cs1 : wr.cell? ⟨w3.heap.size, 1, none⟩ = some (.slice a3 won.length c3) := (World.cell?_of_block (a := ⟨w3.heap.size, 1, none⟩) (hoth _ hn3)).trans (HS8.out 1)
      clear own hoth hbx
      by_cases hlt : i < won.length
      · have hlt' : (i : Int) < (won.length : Int) := by omega
        obtain ⟨g, cp, hv, hg0, hgl⟩ := HOW.out.form (by omega)
        obtain ⟨rfl, rfl⟩ : a3 = some ⟨g, 0, none⟩ ∧ c3 = cp := by (injection hv with e1 e2 e3; exact ⟨e1, e3⟩)
        have hzl : i < zs.length := by have := HOW.out.1; omega
        have ck : wr.cell? ⟨g, i, none⟩ = some (zs[i]) := by rw [HOW.out.cellAt i (by omega), List.getElem?_eq_getElem hzl]
        have fk : ∀ o, wr.frozen? ⟨g, o, none⟩ = false := HOW.out.frozenAt
        have hgw : w.heap.size ≤ g := by omega
        clear hv
        gi_wp2_with fail
        go_roundw
        case rel =>
          refine ⟨i + 1, _, by omega, by go_num, (HOW.out.stored i (.int .i64 (-9))).1, fun k hk => ?_, by rw [World.size_setCell]; exact hsz, HBX.out.setCell (p := ⟨g, i, none⟩) hgw _⟩
          rw [heap_setCell_other _ _ _ _ (fun e => hk (by rw [e]; rfl))]
          exact HOT.out k hk
        case measure => (first | (simp [intOf]; done) | (simp [intOf]; omega))
      · obtain rfl : i = won.length := by omega
        have hn4 : (Value.slice a3 won.length c3).ownBlock ≠ some w4.heap.size := fun e => by have := hg3 _ e; omega
        have hn5 : (Value.slice a3 won.length c3).ownBlock ≠ some w5.heap.size := fun e => by have := hg3 _ e; omega
        have t0 : wr.cell? ⟨w4.heap.size, 0, none⟩ = some (.int .i64 p) := (World.cell?_of_block (a := ⟨w4.heap.size, 0, none⟩) (HOT.out _ hn4)).trans (HT8.out 0)
        have t1 : wr.cell? ⟨w4.heap.size, 1, none⟩ = some (.slice a4 won.length c4) := (World.cell?_of_block (a := ⟨w4.heap.size, 1, none⟩) (HOT.out _ hn4)).trans (HT8.out 1)
        have t2 : wr.cell? ⟨w4.heap.size, 2, none⟩ = some (.int .i64 nx) := (World.cell?_of_block (a := ⟨w4.heap.size, 2, none⟩) (HOT.out _ hn4)).trans (HT8.out 2)
        have u0 : wr.cell? ⟨w5.heap.size, 0, none⟩ = some (.int .i64 p) := (World.cell?_of_block (a := ⟨w5.heap.size, 0, none⟩) (HOT.out _ hn5)).trans (HW8.out 0)
        have u1 : wr.cell? ⟨w5.heap.size, 1, none⟩ = some (.slice a5 won.length c5) := (World.cell?_of_block (a := ⟨w5.heap.size, 1, none⟩) (HOT.out _ hn5)).trans (HW8.out 1)
        have u2 : wr.cell? ⟨w5.heap.size, 2, none⟩ = some (.int .i64 nx) := (World.cell?_of_block (a := ⟨w5.heap.size, 2, none⟩) (HOT.out _ hn5)).trans (HW8.out 2)
        have o4 := own_keep HO4_8.out (fun k e => HOT.out k (fun e3 => by have := hg3 _ e3; have := hg4 _ e; omega))
        have o5 := own_keep HO5_8.out (fun k e => HOT.out k (fun e3 => by have := hg3 _ e3; have := hg5 _ e; omega))
        have O4 := hide o4
        have O5 := hide o5
        clear o4 o5
        gi_wp2_with fail
        refine (callsIn_wide.2 (Same_yes p nx won a4 a5 c4 c5 _ (IRow.of_own O4.out) (IRow.of_own O5.out) (by omega))).mono ?_
        rintro e y1 ⟨rfl, hby1⟩
        have HY1 := hide (bstep HBX.out hby1)
        clear hby1
        gi_wp2_with fail
        refine (callsIn_wide.2 (known_c _)).mono ?_
        rintro e y2 ⟨rfl, hby2⟩
        have HY2 := hide (bstep HY1.out hby2)
        clear hby2
        gi_wp2
        refine bodyPost_ret (v := .bool true) (by simp [results, Try.f3, go_sem]) rfl ⟨rfl, HY2.out⟩
  rcases Int.lt_or_le bid (won.length : Int) with hbid2 | hbid2
  rotate_left
  · refine (callsIn_wide.2 (Spent_high p nx bid won a3 c3 _ hbid hbid2)).mono ?_
    rintro e w8 ⟨rfl, hb8⟩
    have hz8 := hb8.size
    have HS8 := hide (show ∀ o, w8.cell? ⟨w3.heap.size, o, none⟩ = (#[Value.int .i64 p, .slice a3 won.length c3, .int .i64 nx] : Array Value)[o]? from fun o => (hb8.cell (p := ⟨w3.heap.size, o, none⟩) (show w3.heap.size < w7.heap.size by omega)).trans (HS7.out o))
    have HT8 := hide (show ∀ o, w8.cell? ⟨w4.heap.size, o, none⟩ = (#[Value.int .i64 p, .slice a4 won.length c4, .int .i64 nx] : Array Value)[o]? from fun o => (hb8.cell (p := ⟨w4.heap.size, o, none⟩) (show w4.heap.size < w7.heap.size by omega)).trans (HT7.out o))
    have HW8 := hide (show ∀ o, w8.cell? ⟨w5.heap.size, o, none⟩ = (#[Value.int .i64 p, .slice a5 won.length c5, .int .i64 nx] : Array Value)[o]? from fun o => (hb8.cell (p := ⟨w5.heap.size, o, none⟩) (show w5.heap.size < w7.heap.size by omega)).trans (HW7.out o))
    have HO3_8 := hide (own_bel HO3_7.out hb8)
    have HO4_8 := hide (own_bel HO4_7.out hb8)
    have HO5_8 := hide (own_bel HO5_7.out hb8)
    have HM8 := hide (HM7.out.below hb8)
    have HB8 := hide (bstep HB7.out hb8)
    have hw0 : w8.cell? ⟨w5.heap.size, 0, none⟩ = some (.int .i64 p) := ((Below.refl w8.heap.size w8).cell (p := ⟨w5.heap.size, 0, none⟩) (show w5.heap.size < w8.heap.size by omega)).trans (HW8.out 0)
    have hw1 : w8.cell? ⟨w5.heap.size, 1, none⟩ = some (.slice a5 won.length c5) := ((Below.refl w8.heap.size w8).cell (p := ⟨w5.heap.size, 1, none⟩) (show w5.heap.size < w8.heap.size by omega)).trans (HW8.out 1)
    have hw2 : w8.cell? ⟨w5.heap.size, 2, none⟩ = some (.int .i64 nx) := ((Below.refl w8.heap.size w8).cell (p := ⟨w5.heap.size, 2, none⟩) (show w5.heap.size < w8.heap.size by omega)).trans (HW8.out 2)
    clear hb8
    gi_wp2_with fail
    gi_loopw [14] (fun v14 wx => ∃ (i : Nat) (zs : List Value), i ≤ won.length ∧ v14 = .int .i64 (i : Int) ∧ wx.ownsRow w2.heap.size 3 1 (.slice a3 won.length c3) won.length zs ∧ (∀ k, (Value.slice a3 won.length c3).ownBlock ≠ some k → wx.heap[k]? = w8.heap[k]?) ∧ wx.heap.size = w8.heap.size ∧ Below w.heap.size w wx) (fun v14 _ => won.length - (intOf v14).toNat)
    case atStart => exact ⟨0, _, Nat.zero_le _, rfl, HO3_8.out, fun _ _ => rfl, rfl, HB8.out⟩
    case round =>
      obtain ⟨i, zs, hi, rfl, own, hoth, hsz, hbx⟩ := hrel
      have HOW := hide own
      have HOT := hide hoth
      have HBX := hide hbx
      have hi0 : (0 : Int) ≤ (i : Int) := by omega
      have hn3 : (Value.slice a3 won.length c3).ownBlock ≠ some w3.heap.size := fun e => absurd (hg3 _ e) (Nat.lt_irrefl _)
      have cs1 : wr.cell? ⟨w3.heap.size, 1, none⟩ = some (.slice a3 won.length c3) := (World.cell?_of_block (a := ⟨w3.heap.size, 1, none⟩) (hoth _ hn3)).trans (HS8.out 1)
      clear own hoth hbx
      by_cases hlt : i < won.length
      · have hlt' : (i : Int) < (won.length : Int) := by omega
        obtain ⟨g, cp, hv, hg0, hgl⟩ := HOW.out.form (by omega)
        obtain ⟨rfl, rfl⟩ : a3 = some ⟨g, 0, none⟩ ∧ c3 = cp := by (injection hv with e1 e2 e3; exact ⟨e1, e3⟩)
        have hzl : i < zs.length := by have := HOW.out.1; omega
        have ck : wr.cell? ⟨g, i, none⟩ = some (zs[i]) := by rw [HOW.out.cellAt i (by omega), List.getElem?_eq_getElem hzl]
        have fk : ∀ o, wr.frozen? ⟨g, o, none⟩ = false := HOW.out.frozenAt
        have hgw : w.heap.size ≤ g := by omega
        clear hv
        gi_wp2_with fail
        go_roundw
        case rel =>
          refine ⟨i + 1, _, by omega, by go_num, (HOW.out.stored i (.int .i64 (-9))).1, fun k hk => ?_, by rw [World.size_setCell]; exact hsz, HBX.out.setCell (p := ⟨g, i, none⟩) hgw _⟩
          rw [heap_setCell_other _ _ _ _ (fun e => hk (by rw [e]; rfl))]
          exact HOT.out k hk
        case measure => (first | (simp [intOf]; done) | (simp [intOf]; omega))
      · obtain rfl : i = won.length := by omega
        have hn4 : (Value.slice a3 won.length c3).ownBlock ≠ some w4.heap.size := fun e => by have := hg3 _ e; omega
        have hn5 : (Value.slice a3 won.length c3).ownBlock ≠ some w5.heap.size := fun e => by have := hg3 _ e; omega
        have t0 : wr.cell? ⟨w4.heap.size, 0, none⟩ = some (.int .i64 p) := (World.cell?_of_block (a := ⟨w4.heap.size, 0, none⟩) (HOT.out _ hn4)).trans (HT8.out 0)
        have t1 : wr.cell? ⟨w4.heap.size, 1, none⟩ = some (.slice a4 won.length c4) := (World.cell?_of_block (a := ⟨w4.heap.size, 1, none⟩) (HOT.out _ hn4)).trans (HT8.out 1)
        have t2 : wr.cell? ⟨w4.heap.size, 2, none⟩ = some (.int .i64 nx) := (World.cell?_of_block (a := ⟨w4.heap.size, 2, none⟩) (HOT.out _ hn4)).trans (HT8.out 2)
        have u0 : wr.cell? ⟨w5.heap.size, 0, none⟩ = some (.int .i64 p) := (World.cell?_of_block (a := ⟨w5.heap.size, 0, none⟩) (HOT.out _ hn5)).trans (HW8.out 0)
        have u1 : wr.cell? ⟨w5.heap.size, 1, none⟩ = some (.slice a5 won.length c5) := (World.cell?_of_block (a := ⟨w5.heap.size, 1, none⟩) (HOT.out _ hn5)).trans (HW8.out 1)
        have u2 : wr.cell? ⟨w5.heap.size, 2, none⟩ = some (.int .i64 nx) := (World.cell?_of_block (a := ⟨w5.heap.size, 2, none⟩) (HOT.out _ hn5)).trans (HW8.out 2)
        have o4 := own_keep HO4_8.out (fun k e => HOT.out k (fun e3 => by have := hg3 _ e3; have := hg4 _ e; omega))
        have o5 := own_keep HO5_8.out (fun k e => HOT.out k (fun e3 => by have := hg3 _ e3; have := hg5 _ e; omega))
        have O4 := hide o4
        have O5 := hide o5
        clear o4 o5
        gi_wp2_with fail
        refine (callsIn_wide.2 (Same_yes p nx won a4 a5 c4 c5 _ (IRow.of_own O4.out) (IRow.of_own O5.out) (by omega))).mono ?_
        rintro e y1 ⟨rfl, hby1⟩
        have HY1 := hide (bstep HBX.out hby1)
        clear hby1
        gi_wp2_with fail
        refine (callsIn_wide.2 (known_c _)).mono ?_
        rintro e y2 ⟨rfl, hby2⟩
        have HY2 := hide (bstep HY1.out hby2)
        clear hby2
        gi_wp2
        refine bodyPost_ret (v := .bool true) (by simp [results, Try.f3, go_sem]) rfl ⟨rfl, HY2.out⟩
  · obtain ⟨b, rfl⟩ : ∃ b : Nat, bid = (b : Int) := ⟨bid.toNat, by omega⟩
    have hbw : b < won.length := by omega
    have hbL : b < L.length := by omega
    obtain ⟨y, hy⟩ : ∃ y, y = at0 won b := ⟨_, rfl⟩
    have hyb := HWN.out b hbw
    rw [← hy] at hyb
    have HY := hide hy
    obtain ⟨hpy0, hpy9⟩ := pay_bounds hp.1 hp.2 hyb.1 hyb.2
    refine (callsIn_wide.2 (Spent_at p nx y b won a3 c3 _ (IRow.of_own HO3_7.out) hbw hy.symm (by omega) hpy0 hpy9)).mono ?_
    rintro e w8 ⟨rfl, hb8⟩
    have hz8 := hb8.size
    have HA8 := hide (show ∀ o, w8.cell? ⟨w.heap.size, o, none⟩ = (#[Value.int .i64 count, .int .i64 floor, .slice so L.length cap] : Array Value)[o]? from fun o => (hb8.cell (p := ⟨w.heap.size, o, none⟩) (show w.heap.size < w7.heap.size by omega)).trans (HA7.out o))
    have HS8 := hide (show ∀ o, w8.cell? ⟨w3.heap.size, o, none⟩ = (#[Value.int .i64 p, .slice a3 won.length c3, .int .i64 nx] : Array Value)[o]? from fun o => (hb8.cell (p := ⟨w3.heap.size, o, none⟩) (show w3.heap.size < w7.heap.size by omega)).trans (HS7.out o))
    have HT8 := hide (show ∀ o, w8.cell? ⟨w4.heap.size, o, none⟩ = (#[Value.int .i64 p, .slice a4 won.length c4, .int .i64 nx] : Array Value)[o]? from fun o => (hb8.cell (p := ⟨w4.heap.size, o, none⟩) (show w4.heap.size < w7.heap.size by omega)).trans (HT7.out o))
    have HW8 := hide (show ∀ o, w8.cell? ⟨w5.heap.size, o, none⟩ = (#[Value.int .i64 p, .slice a5 won.length c5, .int .i64 nx] : Array Value)[o]? from fun o => (hb8.cell (p := ⟨w5.heap.size, o, none⟩) (show w5.heap.size < w7.heap.size by omega)).trans (HW7.out o))
    have HO3_8 := hide (own_bel HO3_7.out hb8)
    have HO4_8 := hide (own_bel HO4_7.out hb8)
    have HO5_8 := hide (own_bel HO5_7.out hb8)
    have HM8 := hide (HM7.out.below hb8)
    have HB8 := hide (bstep HB7.out hb8)
    clear hb8 hy
    have e1 : wrap64 (p * y) = p * y := by (generalize p * y = t at *; unfold wrap64; omega)
    have e2 : IntKind.i64.wrap (p * y) = p * y := by (generalize p * y = t at *; exact IntWalk.i64_in _ (by omega))
    obtain ⟨t, ht⟩ : ∃ t, t = p * y := ⟨_, rfl⟩
    rw [← ht]
    have e3 : wrap64 (p * y) = t := by rw [ht]; exact e1
    have e4 : IntKind.i64.wrap (p * y) = t := by rw [ht]; exact e2
    clear e1 e2
    obtain ⟨bb, off, si, ci, hso, cb, hrow⟩ := (HB.out.below HB8.out).spot hbL
    obtain ⟨g5, rfl, hcy⟩ : ∃ g5, a5 = some ⟨g5, 0, none⟩ ∧ w8.cell? ⟨g5, b, none⟩ = some (.int .i64 y) := by
      obtain ⟨g, rfl, hg, hl, hcs⟩ := own_row3 HO5_8.out (by omega)
      exact ⟨g, rfl, by rw [HY.out]; exact hcs b hbw⟩
    obtain ⟨r, hr⟩ := check_one count floor (bidAt L b)
    have HRW := hide hrow
    have hgz := cell_lt hcy
    have hbz := cell_lt cb
    have A17 := hide (show ∀ m : Aft w8, Calls Try.prog 17 #[.int .i64 count, .int .i64 floor, .slice si (bidAt L b).length ci] m.w fun e w' => e = .returned (.int .i64 r) ∧ Below m.w.heap.size m.w w' from fun m => (check_is count floor si ci (bidAt L b) _ (HRW.out.below m.le) r hr).mono (fun e w' q => ⟨q.1, by rw [← q.2]; exact Below.refl _ _⟩))
    have A18 := hide (show ∀ m : Aft w8, Calls Try.prog 18 #[.int .i64 count, .int .i64 floor, .slice si (bidAt L b).length ci] m.w fun e w' => e = .returned (.int .i64 r) ∧ Below m.w.heap.size m.w w' from fun m => rcheck_is count floor si ci (bidAt L b) _ (HRW.out.below m.le) r hr)
    have a0 : ∀ m : Aft w8, m.w.cell? ⟨w.heap.size, 0, none⟩ = some (.int .i64 count) := fun m => (m.le.cell (p := ⟨w.heap.size, 0, none⟩) (show w.heap.size < w8.heap.size by omega)).trans (HA8.out 0)
    have a1 : ∀ m : Aft w8, m.w.cell? ⟨w.heap.size, 1, none⟩ = some (.int .i64 floor) := fun m => (m.le.cell (p := ⟨w.heap.size, 1, none⟩) (show w.heap.size < w8.heap.size by omega)).trans (HA8.out 1)
    have a2 : ∀ m : Aft w8, m.w.cell? ⟨w.heap.size, 2, none⟩ = some (.slice (some ⟨bb, off, none⟩) L.length cap) := fun m => (m.le.cell (p := ⟨w.heap.size, 2, none⟩) (show w.heap.size < w8.heap.size by omega)).trans (by rw [← hso]; exact HA8.out 2)
    have b0 : ∀ m : Aft w8, m.w.cell? ⟨w5.heap.size, 0, none⟩ = some (.int .i64 p) := fun m => (m.le.cell (p := ⟨w5.heap.size, 0, none⟩) (show w5.heap.size < w8.heap.size by omega)).trans (HW8.out 0)
    have b1 : ∀ m : Aft w8, m.w.cell? ⟨w5.heap.size, 1, none⟩ = some (.slice (some ⟨g5, 0, none⟩) won.length c5) := fun m => (m.le.cell (p := ⟨w5.heap.size, 1, none⟩) (show w5.heap.size < w8.heap.size by omega)).trans (HW8.out 1)
    have k1 : ∀ m : Aft w8, m.w.cell? ⟨g5, b, none⟩ = some (.int .i64 y) := fun m => (m.le.cell (p := ⟨g5, b, none⟩) hgz).trans hcy
    have k2 : ∀ m : Aft w8, m.w.cell? ⟨bb, off + b, none⟩ = some (.slice si (bidAt L b).length ci) := fun m => (m.le.cell (p := ⟨bb, off + b, none⟩) hbz).trans cb
    have z1 : w8.cell? ⟨w5.heap.size, 1, none⟩ = some (.slice (some ⟨g5, 0, none⟩) won.length c5) := HW8.out 1
    have d1 : decide (r = r) = true := by simp
    have d2 : (r == r) = true := by simp
    have d3 : decide (t = t) = true := by simp
    have d4 : (t == t) = true := by simp
    have d5 : (t != t) = false := by simp
    have d6 : (r != r) = false := by simp
    have hbw' : (b : Int) < (won.length : Int) := by omega
    have hbL' : (b : Int) < (L.length : Int) := by omega
    have HT0 := hide ht
    clear hr hrow cb hcy hpy0 hpy9 ht
    gi_wp2_with fail
    refine wpIn_region_after_tail 36 (by kernel_rfl) (by kernel_rfl) (by kernel_rfl) ?_
    simp only [List.take_succ_cons, List.take_zero, List.drop_succ_cons, List.drop_zero]
    repeat (gi_big_quiet_step ((first | (gi_at_call 17; exact aft_call (callsIn_wide.2 (A17.out _))) | (gi_at_call 18; exact aft_call (callsIn_wide.2 (A18.out _))))))
    refine wpQuietIn_nil ?_
    intro _ hw'
    obtain ⟨m, hw''⟩ := hw'
    subst hw''
    obtain ⟨w9, hb9⟩ := m
    dsimp only
    clear a0 a1 a2 b0 b1 k1 k2 z1 A17 A18 e3 e4 d1 d2 d3 d4 d5 d6 HRW HY hyb hp hbw' hbL' hgz hbz HT0
    have HS9 := hide (show ∀ o, w9.cell? ⟨w3.heap.size, o, none⟩ = (#[Value.int .i64 p, .slice a3 won.length c3, .int .i64 nx] : Array Value)[o]? from fun o => (hb9.cell (p := ⟨w3.heap.size, o, none⟩) (show w3.heap.size < w8.heap.size by omega)).trans (HS8.out o))
    have HT9 := hide (show ∀ o, w9.cell? ⟨w4.heap.size, o, none⟩ = (#[Value.int .i64 p, .slice a4 won.length c4, .int .i64 nx] : Array Value)[o]? from fun o => (hb9.cell (p := ⟨w4.heap.size, o, none⟩) (show w4.heap.size < w8.heap.size by omega)).trans (HT8.out o))
    have HW9 := hide (show ∀ o, w9.cell? ⟨w5.heap.size, o, none⟩ = (#[Value.int .i64 p, .slice (some ⟨g5, 0, none⟩) won.length c5, .int .i64 nx] : Array Value)[o]? from fun o => (hb9.cell (p := ⟨w5.heap.size, o, none⟩) (show w5.heap.size < w8.heap.size by omega)).trans (HW8.out o))
    have HO3_9 := hide (own_bel HO3_8.out hb9)
    have HO4_9 := hide (own_bel HO4_8.out hb9)
    have HO5_9 := hide (own_bel HO5_8.out hb9)
    have HM9 := hide (HM8.out.below hb9)
    have HB9 := hide (bstep HB8.out hb9)
    have hz9 := hb9.size
    clear hb9
    gi_wp2_with fail
    gi_loopw [14] (fun v14 wx => ∃ (i : Nat) (zs : List Value), i ≤ won.length ∧ v14 = .int .i64 (i : Int) ∧ wx.ownsRow w2.heap.size 3 1 (.slice a3 won.length c3) won.length zs ∧ (∀ k, (Value.slice a3 won.length c3).ownBlock ≠ some k → wx.heap[k]? = w9.heap[k]?) ∧ wx.heap.size = w9.heap.size ∧ Below w.heap.size w wx) (fun v14 _ => won.length - (intOf v14).toNat)
    case atStart => exact ⟨0, _, Nat.zero_le _, rfl, HO3_9.out, fun _ _ => rfl, rfl, HB9.out⟩
    case round =>
      obtain ⟨i, zs, hi, rfl, own, hoth, hsz, hbx⟩ := hrel
      have HOW := hide own
      have HOT := hide hoth
      have HBX := hide hbx
      have hi0 : (0 : Int) ≤ (i : Int) := by omega
      have hn3 : (Value.slice a3 won.length c3).ownBlock ≠ some w3.heap.size := fun e => absurd (hg3 _ e) (Nat.lt_irrefl _)
      have cs1 : wr.cell? ⟨w3.heap.size, 1, none⟩ = some (.slice a3 won.length c3) := (World.cell?_of_block (a := ⟨w3.heap.size, 1, none⟩) (hoth _ hn3)).trans (HS9.out 1)
      clear own hoth hbx
      by_cases hlt : i < won.length
      · have hlt' : (i : Int) < (won.length : Int) := by omega
        obtain ⟨g, cp, hv, hg0, hgl⟩ := HOW.out.form (by omega)
        obtain ⟨rfl, rfl⟩ : a3 = some ⟨g, 0, none⟩ ∧ c3 = cp := by (injection hv with e1 e2 e3; exact ⟨e1, e3⟩)
        have hzl : i < zs.length := by have := HOW.out.1; omega
        have ck : wr.cell? ⟨g, i, none⟩ = some (zs[i]) := by rw [HOW.out.cellAt i (by omega), List.getElem?_eq_getElem hzl]
        have fk : ∀ o, wr.frozen? ⟨g, o, none⟩ = false := HOW.out.frozenAt
        have hgw : w.heap.size ≤ g := by omega
        clear hv
        gi_wp2_with fail
        go_roundw
        case rel =>
          refine ⟨i + 1, _, by omega, by go_num, (HOW.out.stored i (.int .i64 (-9))).1, fun k hk => ?_, by rw [World.size_setCell]; exact hsz, HBX.out.setCell (p := ⟨g, i, none⟩) hgw _⟩
          rw [heap_setCell_other _ _ _ _ (fun e => hk (by rw [e]; rfl))]
          exact HOT.out k hk
        case measure => (first | (simp [intOf]; done) | (simp [intOf]; omega))
      · obtain rfl : i = won.length := by omega
        have hn4 : (Value.slice a3 won.length c3).ownBlock ≠ some w4.heap.size := fun e => by have := hg3 _ e; omega
        have hn5 : (Value.slice a3 won.length c3).ownBlock ≠ some w5.heap.size := fun e => by have := hg3 _ e; omega
        have t0 : wr.cell? ⟨w4.heap.size, 0, none⟩ = some (.int .i64 p) := (World.cell?_of_block (a := ⟨w4.heap.size, 0, none⟩) (HOT.out _ hn4)).trans (HT9.out 0)
        have t1 : wr.cell? ⟨w4.heap.size, 1, none⟩ = some (.slice a4 won.length c4) := (World.cell?_of_block (a := ⟨w4.heap.size, 1, none⟩) (HOT.out _ hn4)).trans (HT9.out 1)
        have t2 : wr.cell? ⟨w4.heap.size, 2, none⟩ = some (.int .i64 nx) := (World.cell?_of_block (a := ⟨w4.heap.size, 2, none⟩) (HOT.out _ hn4)).trans (HT9.out 2)
        have u0 : wr.cell? ⟨w5.heap.size, 0, none⟩ = some (.int .i64 p) := (World.cell?_of_block (a := ⟨w5.heap.size, 0, none⟩) (HOT.out _ hn5)).trans (HW9.out 0)
        have u1 : wr.cell? ⟨w5.heap.size, 1, none⟩ = some (.slice (some ⟨g5, 0, none⟩) won.length c5) := (World.cell?_of_block (a := ⟨w5.heap.size, 1, none⟩) (HOT.out _ hn5)).trans (HW9.out 1)
        have u2 : wr.cell? ⟨w5.heap.size, 2, none⟩ = some (.int .i64 nx) := (World.cell?_of_block (a := ⟨w5.heap.size, 2, none⟩) (HOT.out _ hn5)).trans (HW9.out 2)
        have o4 := own_keep HO4_9.out (fun k e => HOT.out k (fun e3 => by have := hg3 _ e3; have := hg4 _ e; omega))
        have o5 := own_keep HO5_9.out (fun k e => HOT.out k (fun e3 => by have := hg3 _ e3; have := hg5 _ e; omega))
        have O4 := hide o4
        have O5 := hide o5
        clear o4 o5
        gi_wp2_with fail
        refine (callsIn_wide.2 (Same_yes p nx won a4 (some ⟨g5, 0, none⟩) c4 c5 _ (IRow.of_own O4.out) (IRow.of_own O5.out) (by omega))).mono ?_
        rintro e y1 ⟨rfl, hby1⟩
        have HY1 := hide (bstep HBX.out hby1)
        clear hby1
        gi_wp2_with fail
        refine (callsIn_wide.2 (known_c _)).mono ?_
        rintro e y2 ⟨rfl, hby2⟩
        have HY2 := hide (bstep HY1.out hby2)
        clear hby2
        gi_wp2
        refine bodyPost_ret (v := .bool true) (by simp [results, Try.f3, go_sem]) rfl ⟨rfl, HY2.out⟩
theorem UnitsSell_c (count floor bid : Int) (so : Option Addr) (cap : Nat) (L : List (List Int)) (w : World) (hb : BRows so L w) : Calls Try.prog 3 #[.agg #[.int .i64 count, .int .i64 floor, .slice so L.length cap], .int .i64 bid] w fun e w' => e = .returned (.bool true) ∧ Below w.heap.size w w' := by
  rcases long_one L with h | h
  · exact USell_long count floor bid so cap L w hb h
  · exact USell_main count floor bid so cap L w hb h
end Go.Proofs.Ytehpjipmlpaflaa.un
