import Derived.Test.YtiopohdhadilfaaY5
namespace Go.Proofs.Ytiopohdhadilfaa
open Go.ChangeShapes Go.WideShapes Go.ChangeAt Go.RowKit Go.Deep
set_option linter.unusedSimpArgs false
set_option linter.unusedVariables false

set_option maxRecDepth 100000 in
set_option maxHeartbeats 4000000 in
theorem Plays_row (k op cl st sp ex la fl fa co ru : Int) (b off cap len : Nat) (zz : Nat → Nat → Int) (w : World) (hb : b < w.heap.size) (hc : ∀ j, j < len → ∀ c, c < 6 → w.cell? ⟨b, off + j * 6 + c, none⟩ = some (.int .i64 (zz j c))) (hmax : len ≤ 9223372036854775807) : Calls Try.prog 6 #[.agg #[.int .i64 k, .int .i64 op, .int .i64 cl, .int .i64 st, .int .i64 sp, .int .i64 ex, .int .i64 la, .int .i64 fl, .int .i64 fa, .int .i64 co, .int .i64 ru], .slice (some ⟨b, off, none⟩) len cap] w fun e w' => e = .returned (.bool true) ∧ Below w.heap.size w w' := by
  have Hc := hide hc
  clear hc
  go_enter Try.func6, Try.ntmps6
  go_wp2_with fail
  refine (New_abs k op cl st sp ex la fl fa co ru _).mono ?_
  rintro e w1 ⟨p0, rfl, hb1, hF1, hg1⟩
  have HB1 : Below w.heap.size w w1 := bstep (by (focus repeat' (first | (with_reducible exact Below.refl _ _) | (with_reducible assumption) | (with_reducible refine Below.alloc ?_ ?_ _) | (with_reducible refine Below.drew ?_) | (with_reducible refine bdrewN ?_ _) | (with_reducible refine Below.setCell ?_ ?_ _) | (first | (with_reducible exact Nat.le_refl _) | (with_reducible assumption) | omega | (simp; omega) | (simp; done))))) hb1
  have hz1 := hb1.size
  (try simp only [World.size_drew, World.size_alloc] at hz1)
  have hz1_0 : w.heap.size < w1.heap.size := by omega
  have HC1_0 : ∀ o, w1.cell? ⟨w.heap.size, o, none⟩ = (#[Value.int .i64 k, Value.int .i64 op, Value.int .i64 cl, Value.int .i64 st, Value.int .i64 sp, Value.int .i64 ex, Value.int .i64 la, Value.int .i64 fl, Value.int .i64 fa, Value.int .i64 co, Value.int .i64 ru] : Array Value)[o]? := fun o => (hb1.cell (p := ⟨w.heap.size, o, none⟩) (by first | (simp; done) | omega | (simp; omega))).trans (by first | (with_reducible assumption) | (simp [go_sem, *]; done))
  have hz1' : w.heap.size + 1 ≤ w1.heap.size := hz1_0
  clear hz1
  go_wp2_with fail
  refine (rNew_abs k op cl st sp ex la fl fa co ru _).mono ?_
  rintro e w2 ⟨q0, rfl, hb2, hR2, hg2⟩
  have hF2 := hF1.below hb2
  have HB2 : Below w.heap.size w w2 := bstep (by (focus repeat' (first | (with_reducible exact Below.refl _ _) | (with_reducible assumption) | (with_reducible refine Below.alloc ?_ ?_ _) | (with_reducible refine Below.drew ?_) | (with_reducible refine bdrewN ?_ _) | (with_reducible refine Below.setCell ?_ ?_ _) | (first | (with_reducible exact Nat.le_refl _) | (with_reducible assumption) | omega | (simp; omega) | (simp; done))))) hb2
  have hz2 := hb2.size
  (try simp only [World.size_drew, World.size_alloc] at hz2)
  have hz2_0 : w.heap.size < w2.heap.size := by omega
  have HC2_0 : ∀ o, w2.cell? ⟨w.heap.size, o, none⟩ = (#[Value.int .i64 k, Value.int .i64 op, Value.int .i64 cl, Value.int .i64 st, Value.int .i64 sp, Value.int .i64 ex, Value.int .i64 la, Value.int .i64 fl, Value.int .i64 fa, Value.int .i64 co, Value.int .i64 ru] : Array Value)[o]? := fun o => (hb2.cell (p := ⟨w.heap.size, o, none⟩) (by first | (simp; done) | omega | (simp; omega))).trans (by first | (with_reducible assumption) | (simp [go_sem, *]; done))
  have HF := hide hF2
  have HR := hide hR2
  have HG1 := hide hg1
  have HG2 := hide hg2
  clear hF1 hF2 hR2 hg1 hg2 hb1 hb2 hz2 HB1 hz1_0 HC1_0
  go_upto_region 3 with fail
  go_cut [38] (fun s wx => s = .bool false ∧ wx = w2)
  case first =>
    rcases both HF.out HR.out with ⟨rfl, rfl⟩ | ⟨g, h, rfl, rfl⟩
    · go_wp2_with (go_at_call 11; go_in)
      go_meet
      exact ⟨by simp [pa], rfl⟩
    · go_wp2_with (go_at_call 11; go_in)
      go_meet
      exact ⟨by simp [pa], rfl⟩
  case rest =>
    obtain ⟨rfl, hwc⟩ := hcut
    have hwc := hwc.symm
    subst hwc
    go_wp2
    go_loopw [11] (fun v wr => ∃ (n : Nat) (p0 : Option Nat) (S0 : St) (q0 p1 : Option Nat) (S1 : St) (q1 : Option Nat), n ≤ len ∧ v = .int .i64 n ∧ Two k op cl st sp ex la fl fa co ru w w.heap.size w2.heap.size (w2.heap.size + 1) wr p0 S0 q0 S0 p1 S1 q1 S1) (fun v _ => len - (intOf v).toNat)
    case atStart =>
      refine ⟨0, p0, S00 k op cl st sp ex la fl fa co ru, q0, none, none, none, Nat.zero_le _, rfl, ?_⟩
      unfold Two
      refine ⟨⟨?_, ?_, ?_, ?_, by omega, by omega, by omega⟩, ⟨?_, ?_, ?_, ?_, ?_⟩, ⟨HF.out.below ?_, HR.out.below ?_, trivial, trivial⟩, ⟨fun g _ h => (by cases h), fun g _ h => (by cases h)⟩, ?_⟩
      · (focus repeat' (first | (with_reducible exact Below.refl _ _) | (with_reducible assumption) | (with_reducible refine Below.alloc ?_ ?_ _) | (with_reducible refine Below.drew ?_) | (with_reducible refine bdrewN ?_ _) | (with_reducible refine Below.setCell ?_ ?_ _) | (first | (with_reducible exact Nat.le_refl _) | (with_reducible assumption) | omega | (simp; omega) | (simp; done))))
      · (first | (simp; done) | (simp; omega))
      · (first | (simp; done) | (simp; omega))
      · (first | (simp; done) | (simp; omega))
      · intro o; simp [go_sem, *]
      · (intro o; (rcases o with _ | _ | o <;> simp [go_sem, pa]))
      · (intro o; (rcases o with _ | _ | o <;> simp [go_sem, pa]))
      · intro o; simp [go_sem, *]
      · intro o; simp [go_sem, *]
      · (focus repeat' (first | (with_reducible exact Below.refl _ _) | (with_reducible assumption) | (with_reducible refine Below.alloc ?_ ?_ _) | (with_reducible refine Below.drew ?_) | (with_reducible refine bdrewN ?_ _) | (with_reducible refine Below.setCell ?_ ?_ _) | (first | (with_reducible exact Nat.le_refl _) | (with_reducible assumption) | omega | (simp; omega) | (simp; done))))
      · (focus repeat' (first | (with_reducible exact Below.refl _ _) | (with_reducible assumption) | (with_reducible refine Below.alloc ?_ ?_ _) | (with_reducible refine Below.drew ?_) | (with_reducible refine bdrewN ?_ _) | (with_reducible refine Below.setCell ?_ ?_ _) | (first | (with_reducible exact Nat.le_refl _) | (with_reducible assumption) | omega | (simp; omega) | (simp; done))))
      · rintro g (h | h | h | h)
        · have := HG1.out g h; simp at this; omega
        · cases h
        · have := HG2.out g h; omega
        · cases h
    case round =>
      obtain ⟨n, p0, S0, q0, p1, S1, q1, hn, rfl, tw⟩ := hrel
      have TW := hide tw
      obtain ⟨⟨HBr, t2, t3, t4, t5, t6, t7⟩, ⟨CL, CF, CR, FF, FR⟩, _, _, _⟩ := tw
      unfold Cells at CL CF CR
      by_cases hlt : n < len
      · have hlt' : (n : Int) < (len : Int) := by omega
        have hcr := hide (show ∀ c, c < 6 → wr.cell? ⟨b, off + n * 6 + c, none⟩ = some (.int .i64 (zz n c)) from fun c h6 => (HBr.cell (p := ⟨b, off + n * 6 + c, none⟩) hb).trans (Hc.out n hlt c h6))
        have k0 := hcr.out 0 (by decide)
        have k1 := hcr.out 1 (by decide)
        have k2 := hcr.out 2 (by decide)
        have k3 := hcr.out 3 (by decide)
        have k4 := hcr.out 4 (by decide)
        have k5 := hcr.out 5 (by decide)
        rw [Nat.add_zero] at k0
        clear hcr
        generalize zz n 0 = kd at *
        generalize zz n 1 = on at *
        generalize zz n 2 = bd at *
        generalize zz n 3 = tk at *
        generalize zz n 4 = co2 at *
        generalize zz n 5 = fr at *
        have hk2 : (wrap64 (on.tmod 2 + 2)).tmod 2 = 0 ∨ (wrap64 (on.tmod 2 + 2)).tmod 2 = 1 := by
          rcases Int.tmod_two_eq on with q | q | q <;> rw [q] <;> unfold wrap64 <;> decide
        have HK := hide hk2
        have TW3' := hide (TW.out.below ((Below.refl _ _).alloc (Nat.le_refl _) (.cells #[Value.int .i64 kd, Value.int .i64 on, Value.int .i64 bd, Value.int .i64 tk, Value.int .i64 co2, Value.int .i64 fr] 59)))
        clear hk2 CL CF CR FF FR
        go_upto_region 12 with fail
        have CB3' : ∀ o, (wr.alloc (.cells #[Value.int .i64 kd, Value.int .i64 on, Value.int .i64 bd, Value.int .i64 tk, Value.int .i64 co2, Value.int .i64 fr] 59)).cell? ⟨wr.heap.size, o, none⟩ = (#[Value.int .i64 kd, Value.int .i64 on, Value.int .i64 bd, Value.int .i64 tk, Value.int .i64 co2, Value.int .i64 fr] : Array Value)[o]? := by (intro o; simp)
        have zB3' : wr.heap.size < (wr.alloc (.cells #[Value.int .i64 kd, Value.int .i64 on, Value.int .i64 bd, Value.int .i64 tk, Value.int .i64 co2, Value.int .i64 fr] 59)).heap.size := by simp
        obtain ⟨w3, hw3⟩ : ∃ q : World, q = wr.alloc (.cells #[Value.int .i64 kd, Value.int .i64 on, Value.int .i64 bd, Value.int .i64 tk, Value.int .i64 co2, Value.int .i64 fr] 59) := ⟨_, rfl⟩
        rw [← hw3] at CB3' zB3' TW3' ⊢
        clear hw3 k0 k1 k2 k3 k4 k5
        have CB3 := CB3'
        have zB3 := zB3'
        have TW3 := TW3'
        have nb1 : ¬ wr.heap.size = w2.heap.size := by omega
        have nb2 : ¬ wr.heap.size = (w2.heap.size + 1) := by omega
        have nb3 : ¬ w2.heap.size = wr.heap.size := by omega
        have nb4 : ¬ (w2.heap.size + 1) = wr.heap.size := by omega
        clear CB3' zB3' TW3' t2 t3 t4 t5 t6 t7 HBr TW
        generalize (wrap64 (on.tmod 2 + 2)).tmod 2 = kk at *
        have HB3 := TW3.out.hb
        have zL3 := TW3.out.z0
        have zF3 := TW3.out.zF
        have zR3 := TW3.out.zR
        have CL3 := TW3.out.cL
        have CF3 := TW3.out.cF
        have CR3 := TW3.out.cR
        have FF3 := TW3.out.fF
        have FR3 := TW3.out.fR
        by_cases d1 : kd = 1
        · have e1 : (kd == 1) = true := by simp [d1]
          clear d1
          rcases HK.out with rfl | rfl
          · clear HK
            go_upto_region 14 with fail
            go_region_held3 (fun wq => Below w.heap.size w wq ∧ (w2.heap.size < wq.heap.size ∧ ∀ o, wq.cell? ⟨w2.heap.size, o, none⟩ = (#[Value.pointer (pa p0), Value.pointer (pa p1)] : Array Value)[o]?) ∧ (wr.heap.size < wq.heap.size ∧ ∀ o, wq.cell? ⟨wr.heap.size, o, none⟩ = (#[Value.int .i64 kd, Value.int .i64 on, Value.int .i64 bd, Value.int .i64 tk, Value.int .i64 co2, Value.int .i64 fr] : Array Value)[o]?)) (((try go_split_ands); refine ⟨?_, ⟨?_, ?_⟩, ⟨?_, ?_⟩⟩; (focus (first | (exact HB4) | (focus repeat' (first | (with_reducible exact Below.refl _ _) | (with_reducible assumption) | (with_reducible refine Below.alloc ?_ ?_ _) | (with_reducible refine Below.drew ?_) | (with_reducible refine bdrewN ?_ _) | (with_reducible refine Below.setCell ?_ ?_ _) | (first | (with_reducible exact Nat.le_refl _) | (with_reducible assumption) | omega | (simp; omega) | (simp; done)))))); (focus (first | (with_reducible assumption) | (simp; done) | omega | (simp; omega))); (focus (first | (with_reducible assumption) | (intro o; simp [go_sem, *]; done))); (focus (first | (with_reducible assumption) | (simp; done) | omega | (simp; omega))); (focus (first | (with_reducible assumption) | (intro o; simp [go_sem, *]; done)))))
              (first | (go_at_call 16; refine (Bid_abs k op cl st sp ex la fl fa co ru bd tk co2 fr p0 S0 _ (Two.gF0 (TW3.out.below (by (focus repeat' (first | (with_reducible exact Below.refl _ _) | (with_reducible assumption) | (with_reducible refine Below.alloc ?_ ?_ _) | (with_reducible refine Below.drew ?_) | (with_reducible refine bdrewN ?_ _) | (with_reducible refine Below.setCell ?_ ?_ _) | (first | (with_reducible exact Nat.le_refl _) | (with_reducible assumption) | omega | (simp; omega) | (simp; done)))))))).mono ?_; rintro e w4 ⟨rfl, ho4, hN4⟩; (try go_split_ands); have TW4 := hide (Two.f0 (TW3.out.below (by (focus repeat' (first | (with_reducible exact Below.refl _ _) | (with_reducible assumption) | (with_reducible refine Below.alloc ?_ ?_ _) | (with_reducible refine Below.drew ?_) | (with_reducible refine bdrewN ?_ _) | (with_reducible refine Below.setCell ?_ ?_ _) | (first | (with_reducible exact Nat.le_refl _) | (with_reducible assumption) | omega | (simp; omega) | (simp; done)))))) ho4 hN4); have HB4 := TW4.out.hb; have zF4 := TW4.out.zF; have CF4 := TW4.out.cF; have CB4 : ∀ o, w4.cell? ⟨wr.heap.size, o, none⟩ = (#[Value.int .i64 kd, Value.int .i64 on, Value.int .i64 bd, Value.int .i64 tk, Value.int .i64 co2, Value.int .i64 fr] : Array Value)[o]? := Two.own (c := #[Value.int .i64 kd, Value.int .i64 on, Value.int .i64 bd, Value.int .i64 tk, Value.int .i64 co2, Value.int .i64 fr]) (by (first | (with_reducible assumption) | (intro o; simp [go_sem, *]; done))) (by first | (with_reducible assumption) | (simp; omega)) ho4 (.inl ⟨S0, Two.gF0 (TW3.out.below (by (focus repeat' (first | (with_reducible exact Below.refl _ _) | (with_reducible assumption) | (with_reducible refine Below.alloc ?_ ?_ _) | (with_reducible refine Below.drew ?_) | (with_reducible refine bdrewN ?_ _) | (with_reducible refine Below.setCell ?_ ?_ _) | (first | (with_reducible exact Nat.le_refl _) | (with_reducible assumption) | omega | (simp; omega) | (simp; done))))))⟩) (by simp) (by simp); have zB4 : wr.heap.size < w4.heap.size := by (have := OnlyP.size ho4; simp at this; omega)))
            clear ho4 hN4 TW3 HB3 zL3 zF3 zR3 CL3 CF3 CR3 FF3 FR3 CB3 zB3
            (try clear HB4 zF4 CF4)
            have HB4 := TW4.out.hb
            have zL4 := TW4.out.z0
            have zF4 := TW4.out.zF
            have zR4 := TW4.out.zR
            have CL4 := TW4.out.cL
            have CF4 := TW4.out.cF
            have CR4 := TW4.out.cR
            have FF4 := TW4.out.fF
            have FR4 := TW4.out.fR
            go_upto_region 15 with fail
            go_region_held3 (fun wq => Below w.heap.size w wq ∧ ((w2.heap.size + 1) < wq.heap.size ∧ ∀ o, wq.cell? ⟨(w2.heap.size + 1), o, none⟩ = (#[Value.pointer (pa q0), Value.pointer (pa q1)] : Array Value)[o]?) ∧ (wr.heap.size < wq.heap.size ∧ ∀ o, wq.cell? ⟨wr.heap.size, o, none⟩ = (#[Value.int .i64 kd, Value.int .i64 on, Value.int .i64 bd, Value.int .i64 tk, Value.int .i64 co2, Value.int .i64 fr] : Array Value)[o]?)) (((try go_split_ands); refine ⟨?_, ⟨?_, ?_⟩, ⟨?_, ?_⟩⟩; (focus (first | (exact HB5) | (focus repeat' (first | (with_reducible exact Below.refl _ _) | (with_reducible assumption) | (with_reducible refine Below.alloc ?_ ?_ _) | (with_reducible refine Below.drew ?_) | (with_reducible refine bdrewN ?_ _) | (with_reducible refine Below.setCell ?_ ?_ _) | (first | (with_reducible exact Nat.le_refl _) | (with_reducible assumption) | omega | (simp; omega) | (simp; done)))))); (focus (first | (with_reducible assumption) | (simp; done) | omega | (simp; omega))); (focus (first | (with_reducible assumption) | (intro o; simp [go_sem, *]; done))); (focus (first | (with_reducible assumption) | (simp; done) | omega | (simp; omega))); (focus (first | (with_reducible assumption) | (intro o; simp [go_sem, *]; done)))))
              (first | (go_at_call 20; refine (rBid_abs k op cl st sp ex la fl fa co ru bd tk co2 fr q0 S0 _ (Two.gR0 (TW4.out.below (by (focus repeat' (first | (with_reducible exact Below.refl _ _) | (with_reducible assumption) | (with_reducible refine Below.alloc ?_ ?_ _) | (with_reducible refine Below.drew ?_) | (with_reducible refine bdrewN ?_ _) | (with_reducible refine Below.setCell ?_ ?_ _) | (first | (with_reducible exact Nat.le_refl _) | (with_reducible assumption) | omega | (simp; omega) | (simp; done)))))))).mono ?_; rintro e w5 ⟨rfl, ho5, hN5⟩; (try go_split_ands); have TW5 := hide (Two.r0 (TW4.out.below (by (focus repeat' (first | (with_reducible exact Below.refl _ _) | (with_reducible assumption) | (with_reducible refine Below.alloc ?_ ?_ _) | (with_reducible refine Below.drew ?_) | (with_reducible refine bdrewN ?_ _) | (with_reducible refine Below.setCell ?_ ?_ _) | (first | (with_reducible exact Nat.le_refl _) | (with_reducible assumption) | omega | (simp; omega) | (simp; done)))))) ho5 hN5); have HB5 := TW5.out.hb; have zR5 := TW5.out.zR; have CR5 := TW5.out.cR; have CB5 : ∀ o, w5.cell? ⟨wr.heap.size, o, none⟩ = (#[Value.int .i64 kd, Value.int .i64 on, Value.int .i64 bd, Value.int .i64 tk, Value.int .i64 co2, Value.int .i64 fr] : Array Value)[o]? := Two.own (c := #[Value.int .i64 kd, Value.int .i64 on, Value.int .i64 bd, Value.int .i64 tk, Value.int .i64 co2, Value.int .i64 fr]) (by (first | (with_reducible assumption) | (intro o; simp [go_sem, *]; done))) (by first | (with_reducible assumption) | (simp; omega)) ho5 (.inr ⟨S0, Two.gR0 (TW4.out.below (by (focus repeat' (first | (with_reducible exact Below.refl _ _) | (with_reducible assumption) | (with_reducible refine Below.alloc ?_ ?_ _) | (with_reducible refine Below.drew ?_) | (with_reducible refine bdrewN ?_ _) | (with_reducible refine Below.setCell ?_ ?_ _) | (first | (with_reducible exact Nat.le_refl _) | (with_reducible assumption) | omega | (simp; omega) | (simp; done))))))⟩) (by simp) (by simp); have zB5 : wr.heap.size < w5.heap.size := by (have := OnlyP.size ho5; simp at this; omega)))
            clear ho5 hN5 TW4 HB4 zL4 zF4 zR4 CL4 CF4 CR4 FF4 FR4 CB4 zB4
            (try clear HB5 zR5 CR5)
            generalize (bR k op cl st sp ex la fl fa co ru S0 bd tk co2 fr).1 = b1 at *
            generalize (bR k op cl st sp ex la fl fa co ru S0 bd tk co2 fr).2.1 = b2 at *
            generalize (bR k op cl st sp ex la fl fa co ru S0 bd tk co2 fr).2.2 = SN at *
            go_upto_region 22 with (go_at_call 11; go_in)
            have HB5 := TW5.out.hb
            have zL5 := TW5.out.z0
            have zF5 := TW5.out.zF
            have zR5 := TW5.out.zR
            have CL5 := TW5.out.cL
            have CF5 := TW5.out.cF
            have CR5 := TW5.out.cR
            have FF5 := TW5.out.fF
            have FR5 := TW5.out.fR
            go_wp2_with fail
            refine (tells_abs k op cl st sp ex la fl fa co ru tk p0 q0 _ _ TW5.out.gF0 TW5.out.gR0).mono ?_
            rintro e w6 ⟨rfl, hb6⟩
            have TW6 := hide (TW5.out.below hb6)
            have CB6 : ∀ o, w6.cell? ⟨wr.heap.size, o, none⟩ = (#[Value.int .i64 kd, Value.int .i64 on, Value.int .i64 bd, Value.int .i64 tk, Value.int .i64 co2, Value.int .i64 fr] : Array Value)[o]? := fun o => (hb6.cell (p := ⟨wr.heap.size, o, none⟩) zB5).trans (CB5 o)
            have zB6 : wr.heap.size < w6.heap.size := Nat.lt_of_lt_of_le zB5 hb6.size
            clear hb6 TW5 HB5 zL5 zF5 zR5 CL5 CF5 CR5 FF5 FR5 CB5 zB5
            have HB6 := TW6.out.hb
            have zL6 := TW6.out.z0
            have zF6 := TW6.out.zF
            have zR6 := TW6.out.zR
            have CL6 := TW6.out.cL
            have CF6 := TW6.out.cF
            have CR6 := TW6.out.cR
            have FF6 := TW6.out.fF
            have FR6 := TW6.out.fR
            go_wp2_with fail
            refine (tells_abs k op cl st sp ex la fl fa co ru tk p1 q1 _ _ TW6.out.gF1 TW6.out.gR1).mono ?_
            rintro e w7 ⟨rfl, hb7⟩
            have TW7 := hide (TW6.out.below hb7)
            clear hb7 TW6 HB6 zL6 zF6 zR6 CL6 CF6 CR6 FF6 FR6 CB6 zB6
            go_wp2
            go_roundw
            case rel => first | exact ⟨n + 1, p0, SN, q0, p1, S1, q1, by omega, by go_num, TW7.out⟩ | ((repeat apply Exists.intro); exact ⟨⟨n + 1, p0, SN, q0, p1, S1, q1, by omega, by go_num, TW7.out⟩, rfl⟩)
            case measure => simp [intOf]; omega
          · clear HK
            go_upto_region 14 with fail
            go_region_held3 (fun wq => Below w.heap.size w wq ∧ (w2.heap.size < wq.heap.size ∧ ∀ o, wq.cell? ⟨w2.heap.size, o, none⟩ = (#[Value.pointer (pa p0), Value.pointer (pa p1)] : Array Value)[o]?) ∧ (wr.heap.size < wq.heap.size ∧ ∀ o, wq.cell? ⟨wr.heap.size, o, none⟩ = (#[Value.int .i64 kd, Value.int .i64 on, Value.int .i64 bd, Value.int .i64 tk, Value.int .i64 co2, Value.int .i64 fr] : Array Value)[o]?)) (((try go_split_ands); refine ⟨?_, ⟨?_, ?_⟩, ⟨?_, ?_⟩⟩; (focus (first | (exact HB4) | (focus repeat' (first | (with_reducible exact Below.refl _ _) | (with_reducible assumption) | (with_reducible refine Below.alloc ?_ ?_ _) | (with_reducible refine Below.drew ?_) | (with_reducible refine bdrewN ?_ _) | (with_reducible refine Below.setCell ?_ ?_ _) | (first | (with_reducible exact Nat.le_refl _) | (with_reducible assumption) | omega | (simp; omega) | (simp; done)))))); (focus (first | (with_reducible assumption) | (simp; done) | omega | (simp; omega))); (focus (first | (with_reducible assumption) | (intro o; simp [go_sem, *]; done))); (focus (first | (with_reducible assumption) | (simp; done) | omega | (simp; omega))); (focus (first | (with_reducible assumption) | (intro o; simp [go_sem, *]; done)))))
              (first | (go_at_call 16; refine (Bid_abs k op cl st sp ex la fl fa co ru bd tk co2 fr p1 S1 _ (Two.gF1 (TW3.out.below (by (focus repeat' (first | (with_reducible exact Below.refl _ _) | (with_reducible assumption) | (with_reducible refine Below.alloc ?_ ?_ _) | (with_reducible refine Below.drew ?_) | (with_reducible refine bdrewN ?_ _) | (with_reducible refine Below.setCell ?_ ?_ _) | (first | (with_reducible exact Nat.le_refl _) | (with_reducible assumption) | omega | (simp; omega) | (simp; done)))))))).mono ?_; rintro e w4 ⟨rfl, ho4, hN4⟩; (try go_split_ands); have TW4 := hide (Two.f1 (TW3.out.below (by (focus repeat' (first | (with_reducible exact Below.refl _ _) | (with_reducible assumption) | (with_reducible refine Below.alloc ?_ ?_ _) | (with_reducible refine Below.drew ?_) | (with_reducible refine bdrewN ?_ _) | (with_reducible refine Below.setCell ?_ ?_ _) | (first | (with_reducible exact Nat.le_refl _) | (with_reducible assumption) | omega | (simp; omega) | (simp; done)))))) ho4 hN4); have HB4 := TW4.out.hb; have zF4 := TW4.out.zF; have CF4 := TW4.out.cF; have CB4 : ∀ o, w4.cell? ⟨wr.heap.size, o, none⟩ = (#[Value.int .i64 kd, Value.int .i64 on, Value.int .i64 bd, Value.int .i64 tk, Value.int .i64 co2, Value.int .i64 fr] : Array Value)[o]? := Two.own (c := #[Value.int .i64 kd, Value.int .i64 on, Value.int .i64 bd, Value.int .i64 tk, Value.int .i64 co2, Value.int .i64 fr]) (by (first | (with_reducible assumption) | (intro o; simp [go_sem, *]; done))) (by first | (with_reducible assumption) | (simp; omega)) ho4 (.inl ⟨S1, Two.gF1 (TW3.out.below (by (focus repeat' (first | (with_reducible exact Below.refl _ _) | (with_reducible assumption) | (with_reducible refine Below.alloc ?_ ?_ _) | (with_reducible refine Below.drew ?_) | (with_reducible refine bdrewN ?_ _) | (with_reducible refine Below.setCell ?_ ?_ _) | (first | (with_reducible exact Nat.le_refl _) | (with_reducible assumption) | omega | (simp; omega) | (simp; done))))))⟩) (by simp) (by simp); have zB4 : wr.heap.size < w4.heap.size := by (have := OnlyP.size ho4; simp at this; omega)))
            clear ho4 hN4 TW3 HB3 zL3 zF3 zR3 CL3 CF3 CR3 FF3 FR3 CB3 zB3
            (try clear HB4 zF4 CF4)
            have HB4 := TW4.out.hb
            have zL4 := TW4.out.z0
            have zF4 := TW4.out.zF
            have zR4 := TW4.out.zR
            have CL4 := TW4.out.cL
            have CF4 := TW4.out.cF
            have CR4 := TW4.out.cR
            have FF4 := TW4.out.fF
            have FR4 := TW4.out.fR
            go_upto_region 15 with fail
            go_region_held3 (fun wq => Below w.heap.size w wq ∧ ((w2.heap.size + 1) < wq.heap.size ∧ ∀ o, wq.cell? ⟨(w2.heap.size + 1), o, none⟩ = (#[Value.pointer (pa q0), Value.pointer (pa q1)] : Array Value)[o]?) ∧ (wr.heap.size < wq.heap.size ∧ ∀ o, wq.cell? ⟨wr.heap.size, o, none⟩ = (#[Value.int .i64 kd, Value.int .i64 on, Value.int .i64 bd, Value.int .i64 tk, Value.int .i64 co2, Value.int .i64 fr] : Array Value)[o]?)) (((try go_split_ands); refine ⟨?_, ⟨?_, ?_⟩, ⟨?_, ?_⟩⟩; (focus (first | (exact HB5) | (focus repeat' (first | (with_reducible exact Below.refl _ _) | (with_reducible assumption) | (with_reducible refine Below.alloc ?_ ?_ _) | (with_reducible refine Below.drew ?_) | (with_reducible refine bdrewN ?_ _) | (with_reducible refine Below.setCell ?_ ?_ _) | (first | (with_reducible exact Nat.le_refl _) | (with_reducible assumption) | omega | (simp; omega) | (simp; done)))))); (focus (first | (with_reducible assumption) | (simp; done) | omega | (simp; omega))); (focus (first | (with_reducible assumption) | (intro o; simp [go_sem, *]; done))); (focus (first | (with_reducible assumption) | (simp; done) | omega | (simp; omega))); (focus (first | (with_reducible assumption) | (intro o; simp [go_sem, *]; done)))))
              (first | (go_at_call 20; refine (rBid_abs k op cl st sp ex la fl fa co ru bd tk co2 fr q1 S1 _ (Two.gR1 (TW4.out.below (by (focus repeat' (first | (with_reducible exact Below.refl _ _) | (with_reducible assumption) | (with_reducible refine Below.alloc ?_ ?_ _) | (with_reducible refine Below.drew ?_) | (with_reducible refine bdrewN ?_ _) | (with_reducible refine Below.setCell ?_ ?_ _) | (first | (with_reducible exact Nat.le_refl _) | (with_reducible assumption) | omega | (simp; omega) | (simp; done)))))))).mono ?_; rintro e w5 ⟨rfl, ho5, hN5⟩; (try go_split_ands); have TW5 := hide (Two.r1 (TW4.out.below (by (focus repeat' (first | (with_reducible exact Below.refl _ _) | (with_reducible assumption) | (with_reducible refine Below.alloc ?_ ?_ _) | (with_reducible refine Below.drew ?_) | (with_reducible refine bdrewN ?_ _) | (with_reducible refine Below.setCell ?_ ?_ _) | (first | (with_reducible exact Nat.le_refl _) | (with_reducible assumption) | omega | (simp; omega) | (simp; done)))))) ho5 hN5); have HB5 := TW5.out.hb; have zR5 := TW5.out.zR; have CR5 := TW5.out.cR; have CB5 : ∀ o, w5.cell? ⟨wr.heap.size, o, none⟩ = (#[Value.int .i64 kd, Value.int .i64 on, Value.int .i64 bd, Value.int .i64 tk, Value.int .i64 co2, Value.int .i64 fr] : Array Value)[o]? := Two.own (c := #[Value.int .i64 kd, Value.int .i64 on, Value.int .i64 bd, Value.int .i64 tk, Value.int .i64 co2, Value.int .i64 fr]) (by (first | (with_reducible assumption) | (intro o; simp [go_sem, *]; done))) (by first | (with_reducible assumption) | (simp; omega)) ho5 (.inr ⟨S1, Two.gR1 (TW4.out.below (by (focus repeat' (first | (with_reducible exact Below.refl _ _) | (with_reducible assumption) | (with_reducible refine Below.alloc ?_ ?_ _) | (with_reducible refine Below.drew ?_) | (with_reducible refine bdrewN ?_ _) | (with_reducible refine Below.setCell ?_ ?_ _) | (first | (with_reducible exact Nat.le_refl _) | (with_reducible assumption) | omega | (simp; omega) | (simp; done))))))⟩) (by simp) (by simp); have zB5 : wr.heap.size < w5.heap.size := by (have := OnlyP.size ho5; simp at this; omega)))
            clear ho5 hN5 TW4 HB4 zL4 zF4 zR4 CL4 CF4 CR4 FF4 FR4 CB4 zB4
            (try clear HB5 zR5 CR5)
            generalize (bR k op cl st sp ex la fl fa co ru S1 bd tk co2 fr).1 = b1 at *
            generalize (bR k op cl st sp ex la fl fa co ru S1 bd tk co2 fr).2.1 = b2 at *
            generalize (bR k op cl st sp ex la fl fa co ru S1 bd tk co2 fr).2.2 = SN at *
            go_upto_region 22 with (go_at_call 11; go_in)
            have HB5 := TW5.out.hb
            have zL5 := TW5.out.z0
            have zF5 := TW5.out.zF
            have zR5 := TW5.out.zR
            have CL5 := TW5.out.cL
            have CF5 := TW5.out.cF
            have CR5 := TW5.out.cR
            have FF5 := TW5.out.fF
            have FR5 := TW5.out.fR
            go_wp2_with fail
            refine (tells_abs k op cl st sp ex la fl fa co ru tk p0 q0 _ _ TW5.out.gF0 TW5.out.gR0).mono ?_
            rintro e w6 ⟨rfl, hb6⟩
            have TW6 := hide (TW5.out.below hb6)
            have CB6 : ∀ o, w6.cell? ⟨wr.heap.size, o, none⟩ = (#[Value.int .i64 kd, Value.int .i64 on, Value.int .i64 bd, Value.int .i64 tk, Value.int .i64 co2, Value.int .i64 fr] : Array Value)[o]? := fun o => (hb6.cell (p := ⟨wr.heap.size, o, none⟩) zB5).trans (CB5 o)
            have zB6 : wr.heap.size < w6.heap.size := Nat.lt_of_lt_of_le zB5 hb6.size
            clear hb6 TW5 HB5 zL5 zF5 zR5 CL5 CF5 CR5 FF5 FR5 CB5 zB5
            have HB6 := TW6.out.hb
            have zL6 := TW6.out.z0
            have zF6 := TW6.out.zF
            have zR6 := TW6.out.zR
            have CL6 := TW6.out.cL
            have CF6 := TW6.out.cF
            have CR6 := TW6.out.cR
            have FF6 := TW6.out.fF
            have FR6 := TW6.out.fR
            go_wp2_with fail
            refine (tells_abs k op cl st sp ex la fl fa co ru tk p1 q1 _ _ TW6.out.gF1 TW6.out.gR1).mono ?_
            rintro e w7 ⟨rfl, hb7⟩
            have TW7 := hide (TW6.out.below hb7)
            clear hb7 TW6 HB6 zL6 zF6 zR6 CL6 CF6 CR6 FF6 FR6 CB6 zB6
            go_wp2
            go_roundw
            case rel => first | exact ⟨n + 1, p0, S0, q0, p1, SN, q1, by omega, by go_num, TW7.out⟩ | ((repeat apply Exists.intro); exact ⟨⟨n + 1, p0, S0, q0, p1, SN, q1, by omega, by go_num, TW7.out⟩, rfl⟩)
            case measure => simp [intOf]; omega
        · have e1 : (kd == 1) = false := by simp [d1]
          by_cases d3 : kd = 3
          · have e3 : (kd == 3) = true := by simp [d3]
            clear d1 d3
            rcases HK.out with rfl | rfl
            · clear HK
              go_upto_region 19 with fail
              go_cut [] (fun wx => ∃ pn qn : Option Nat, Two k op cl st sp ex la fl fa co ru w w.heap.size w2.heap.size (w2.heap.size + 1) wx p0 S0 q0 S0 pn S0 qn S0 ∧ wr.heap.size < wx.heap.size ∧ ∀ o, wx.cell? ⟨wr.heap.size, o, none⟩ = (#[Value.int .i64 kd, Value.int .i64 on, Value.int .i64 bd, Value.int .i64 tk, Value.int .i64 co2, Value.int .i64 fr] : Array Value)[o]?)
              case first =>
                have hw1 : IntKind.i64.wrap (1 - 0) = 1 := by decide
                have hw2 : IntKind.i64.wrap 1 = 1 := by decide
                have hw3 : wrap64 (1 - 0) = 1 := by (unfold wrap64; decide)
                go_region_held3 (fun wq => Below w.heap.size w wq ∧ (w2.heap.size < wq.heap.size ∧ wq.cell? ⟨w2.heap.size, 0, none⟩ = some (.pointer (pa p0))) ∧ ((w2.heap.size + 1) < wq.heap.size ∧ wq.cell? ⟨(w2.heap.size + 1), 0, none⟩ = some (.pointer (pa q0)))) (((try go_split_ands); refine ⟨?_, ⟨?_, ?_⟩, ⟨?_, ?_⟩⟩; (focus (first | (exact HB5) | (exact HB4) | (focus repeat' (first | (with_reducible exact Below.refl _ _) | (with_reducible assumption) | (with_reducible refine Below.alloc ?_ ?_ _) | (with_reducible refine Below.drew ?_) | (with_reducible refine bdrewN ?_ _) | (with_reducible refine Below.setCell ?_ ?_ _) | (first | (with_reducible exact Nat.le_refl _) | (with_reducible assumption) | omega | (simp; omega) | (simp; done)))))); (focus (first | (with_reducible assumption) | (simp; done) | omega | (simp; omega))); (focus (first | (with_reducible assumption) | (simp [go_sem, *]; done))); (focus (first | (with_reducible assumption) | (simp; done) | omega | (simp; omega))); (focus (first | (with_reducible assumption) | (simp [go_sem, *]; done)))))
                  (first | (go_at_call 21; refine (Copy_abs k op cl st sp ex la fl fa co ru p0 S0 _ (Two.gF0 (TW3.out.below (by (focus repeat' (first | (with_reducible exact Below.refl _ _) | (with_reducible assumption) | (with_reducible refine Below.alloc ?_ ?_ _) | (with_reducible refine Below.drew ?_) | (with_reducible refine bdrewN ?_ _) | (with_reducible refine Below.setCell ?_ ?_ _) | (first | (with_reducible exact Nat.le_refl _) | (with_reducible assumption) | omega | (simp; omega) | (simp; done)))))))).mono ?_; rintro e w4 ⟨pn, rfl, hb4, hN4, hg4⟩; (try go_split_ands); have TW4 := hide (Two.below (TW3.out.below (by (focus repeat' (first | (with_reducible exact Below.refl _ _) | (with_reducible assumption) | (with_reducible refine Below.alloc ?_ ?_ _) | (with_reducible refine Below.drew ?_) | (with_reducible refine bdrewN ?_ _) | (with_reducible refine Below.setCell ?_ ?_ _) | (first | (with_reducible exact Nat.le_refl _) | (with_reducible assumption) | omega | (simp; omega) | (simp; done)))))) hb4); have HB4 := TW4.out.hb; have zF4 := TW4.out.zF; have CF4 := TW4.out.cF; have zR4 := TW4.out.zR; have CR4 := TW4.out.cR; have FF4 := TW4.out.fF; have FR4 := TW4.out.fR; have CB4 : ∀ o, w4.cell? ⟨wr.heap.size, o, none⟩ = (#[Value.int .i64 kd, Value.int .i64 on, Value.int .i64 bd, Value.int .i64 tk, Value.int .i64 co2, Value.int .i64 fr] : Array Value)[o]? := fun o => (hb4.cell (p := ⟨wr.heap.size, o, none⟩) (by first | (with_reducible assumption) | (simp; omega))).trans (by first | (with_reducible exact CB3 o) | (simp [go_sem, *]; done)); have zB4 : wr.heap.size < w4.heap.size := by (have := hb4.size; (try simp at this); omega)) | (go_at_call 22; refine (rCopy_abs k op cl st sp ex la fl fa co ru q0 S0 _ (Two.gR0 (TW4.out.below (by (focus repeat' (first | (with_reducible exact Below.refl _ _) | (with_reducible assumption) | (with_reducible refine Below.alloc ?_ ?_ _) | (with_reducible refine Below.drew ?_) | (with_reducible refine bdrewN ?_ _) | (with_reducible refine Below.setCell ?_ ?_ _) | (first | (with_reducible exact Nat.le_refl _) | (with_reducible assumption) | omega | (simp; omega) | (simp; done)))))))).mono ?_; rintro e w5 ⟨qn, rfl, hb5, hN5, hg5⟩; (try go_split_ands); have TW5 := hide (Two.below (TW4.out.below (by (focus repeat' (first | (with_reducible exact Below.refl _ _) | (with_reducible assumption) | (with_reducible refine Below.alloc ?_ ?_ _) | (with_reducible refine Below.drew ?_) | (with_reducible refine bdrewN ?_ _) | (with_reducible refine Below.setCell ?_ ?_ _) | (first | (with_reducible exact Nat.le_refl _) | (with_reducible assumption) | omega | (simp; omega) | (simp; done)))))) hb5); have hM5 := hN4.below (undraw hb5 rfl rfl rfl rfl (Nat.le_refl _)); have hs5 : ∀ g, qn = some g → w3.heap.size ≤ g := fun g hg => Nat.le_trans (show w3.heap.size ≤ w4.heap.size from hb4.size) (hg5 g hg); have HB5 := TW5.out.hb; have zF5 := TW5.out.zF; have CF5 := TW5.out.cF; have zR5 := TW5.out.zR; have CR5 := TW5.out.cR; have FF5 := TW5.out.fF; have FR5 := TW5.out.fR; have CB5 : ∀ o, w5.cell? ⟨wr.heap.size, o, none⟩ = (#[Value.int .i64 kd, Value.int .i64 on, Value.int .i64 bd, Value.int .i64 tk, Value.int .i64 co2, Value.int .i64 fr] : Array Value)[o]? := fun o => (hb5.cell (p := ⟨wr.heap.size, o, none⟩) (by first | (with_reducible assumption) | (simp; omega))).trans (by first | (with_reducible exact CB4 o) | (simp [go_sem, *]; done)); have zB5 : wr.heap.size < w5.heap.size := by (have := hb5.size; (try simp at this); omega)))
                all_goals
                  go_wp2_with fail
                  go_meet
                  refine ⟨pn, qn, Two.copy1 TW5.out hM5 hN5 ?_ ?_, ?_, ?_⟩
                  · intro g hg
                    have q1 := hg4 g hg
                    (try simp at q1)
                    refine ⟨?_, fun hp => ?_⟩
                    · have q2 := TW3.out.hb.size
                      omega
                    · have c := TW3.out.gF0
                      rw [hp] at c
                      have q2 := c.cells.1
                      omega
                  · intro g hg
                    have q1 := hs5 g hg
                    (try simp at q1)
                    refine ⟨?_, fun hp => ?_⟩
                    · have q2 := TW3.out.hb.size
                      omega
                    · have c := TW3.out.gR0
                      rw [hp] at c
                      have q2 := c.cells.1
                      omega
                  · (first | (simp; done) | (simp; omega))
                  · (intro o; simp [go_sem, *]; done)
              case rest =>
                obtain ⟨pn, qn, tw6, zB6, CB6⟩ := hcut
                have TW6 := hide tw6
                clear tw6 TW3 HB3 zL3 zF3 zR3 CL3 CF3 CR3 FF3 FR3 CB3 zB3
                obtain ⟨w6, hwn⟩ : ∃ q : World, q = wc := ⟨wc, rfl⟩
                subst hwn
                have HB6 := TW6.out.hb
                have zL6 := TW6.out.z0
                have zF6 := TW6.out.zF
                have zR6 := TW6.out.zR
                have CL6 := TW6.out.cL
                have CF6 := TW6.out.cF
                have CR6 := TW6.out.cR
                have FF6 := TW6.out.fF
                have FR6 := TW6.out.fR
                go_upto_region 20 with fail
                go_cut [127] (fun s wx => s = .bool false ∧ Two k op cl st sp ex la fl fa co ru w w.heap.size w2.heap.size (w2.heap.size + 1) wx p0 S0 q0 S0 pn S0 qn S0 ∧ wr.heap.size < wx.heap.size ∧ ∀ o, wx.cell? ⟨wr.heap.size, o, none⟩ = (#[Value.int .i64 kd, Value.int .i64 on, Value.int .i64 bd, Value.int .i64 tk, Value.int .i64 co2, Value.int .i64 fr] : Array Value)[o]?)
                case first =>
                  rcases both TW6.out.gF1 TW6.out.gR1 with ⟨rfl, rfl⟩ | ⟨g, h, rfl, rfl⟩
                  · have pn0 : pa none = none := rfl
                    go_wp2_with fail
                    go_quiet (fail)
                    go_wp2_with fail
                    go_meet
                    exact ⟨by first | rfl | (simp [pa]; done), TW6.out.below (by (focus repeat' (first | (with_reducible exact Below.refl _ _) | (with_reducible assumption) | (with_reducible refine Below.alloc ?_ ?_ _) | (with_reducible refine Below.drew ?_) | (with_reducible refine bdrewN ?_ _) | (with_reducible refine Below.setCell ?_ ?_ _) | (first | (with_reducible exact Nat.le_refl _) | (with_reducible assumption) | omega | (simp; omega) | (simp; done))))), by (first | (simp; done) | (simp; omega)), by (first | (exact CB6) | (intro o; simp [go_sem, *]; done))⟩
                  · have pn0 : pa (some g) = some ⟨g, 0, none⟩ := rfl
                    have pn1 : pa (some h) = some ⟨h, 0, none⟩ := rfl
                    go_wp2_with fail
                    go_quiet (fail)
                    go_wp2_with fail
                    go_meet
                    exact ⟨by first | rfl | (simp [pa]; done), TW6.out.below (by (focus repeat' (first | (with_reducible exact Below.refl _ _) | (with_reducible assumption) | (with_reducible refine Below.alloc ?_ ?_ _) | (with_reducible refine Below.drew ?_) | (with_reducible refine bdrewN ?_ _) | (with_reducible refine Below.setCell ?_ ?_ _) | (first | (with_reducible exact Nat.le_refl _) | (with_reducible assumption) | omega | (simp; omega) | (simp; done))))), by (first | (simp; done) | (simp; omega)), by (first | (exact CB6) | (intro o; simp [go_sem, *]; done))⟩
                case rest =>
                  obtain ⟨rfl, tw7, zB7, CB7⟩ := hcut
                  have TW7 := hide tw7
                  clear tw7 TW6 HB6 zL6 zF6 zR6 CL6 CF6 CR6 FF6 FR6 CB6 zB6
                  obtain ⟨w7, hwn⟩ : ∃ q : World, q = wc := ⟨wc, rfl⟩
                  subst hwn
                  go_upto_region 22 with fail
                  have HB7 := TW7.out.hb
                  have zL7 := TW7.out.z0
                  have zF7 := TW7.out.zF
                  have zR7 := TW7.out.zR
                  have CL7 := TW7.out.cL
                  have CF7 := TW7.out.cF
                  have CR7 := TW7.out.cR
                  have FF7 := TW7.out.fF
                  have FR7 := TW7.out.fR
                  go_wp2_with fail
                  refine (tells_abs k op cl st sp ex la fl fa co ru tk p0 q0 _ _ TW7.out.gF0 TW7.out.gR0).mono ?_
                  rintro e w8 ⟨rfl, hb8⟩
                  have TW8 := hide (TW7.out.below hb8)
                  have CB8 : ∀ o, w8.cell? ⟨wr.heap.size, o, none⟩ = (#[Value.int .i64 kd, Value.int .i64 on, Value.int .i64 bd, Value.int .i64 tk, Value.int .i64 co2, Value.int .i64 fr] : Array Value)[o]? := fun o => (hb8.cell (p := ⟨wr.heap.size, o, none⟩) zB7).trans (CB7 o)
                  have zB8 : wr.heap.size < w8.heap.size := Nat.lt_of_lt_of_le zB7 hb8.size
                  clear hb8 TW7 HB7 zL7 zF7 zR7 CL7 CF7 CR7 FF7 FR7 CB7 zB7
                  have HB8 := TW8.out.hb
                  have zL8 := TW8.out.z0
                  have zF8 := TW8.out.zF
                  have zR8 := TW8.out.zR
                  have CL8 := TW8.out.cL
                  have CF8 := TW8.out.cF
                  have CR8 := TW8.out.cR
                  have FF8 := TW8.out.fF
                  have FR8 := TW8.out.fR
                  go_wp2_with fail
                  refine (tells_abs k op cl st sp ex la fl fa co ru tk pn qn _ _ TW8.out.gF1 TW8.out.gR1).mono ?_
                  rintro e w9 ⟨rfl, hb9⟩
                  have TW9 := hide (TW8.out.below hb9)
                  clear hb9 TW8 HB8 zL8 zF8 zR8 CL8 CF8 CR8 FF8 FR8 CB8 zB8
                  go_wp2
                  go_roundw
                  case rel => first | exact ⟨n + 1, p0, S0, q0, pn, S0, qn, by omega, by go_num, TW9.out⟩ | ((repeat apply Exists.intro); exact ⟨⟨n + 1, p0, S0, q0, pn, S0, qn, by omega, by go_num, TW9.out⟩, rfl⟩)
                  case measure => simp [intOf]; omega
            · clear HK
              go_upto_region 19 with fail
              go_cut [] (fun wx => ∃ pn qn : Option Nat, Two k op cl st sp ex la fl fa co ru w w.heap.size w2.heap.size (w2.heap.size + 1) wx pn S1 qn S1 p1 S1 q1 S1 ∧ wr.heap.size < wx.heap.size ∧ ∀ o, wx.cell? ⟨wr.heap.size, o, none⟩ = (#[Value.int .i64 kd, Value.int .i64 on, Value.int .i64 bd, Value.int .i64 tk, Value.int .i64 co2, Value.int .i64 fr] : Array Value)[o]?)
              case first =>
                have hw1 : IntKind.i64.wrap (1 - 1) = 0 := by decide
                have hw2 : IntKind.i64.wrap 0 = 0 := by decide
                have hw3 : wrap64 (1 - 1) = 0 := by (unfold wrap64; decide)
                go_region_held3 (fun wq => Below w.heap.size w wq ∧ (w2.heap.size < wq.heap.size ∧ wq.cell? ⟨w2.heap.size, 1, none⟩ = some (.pointer (pa p1))) ∧ ((w2.heap.size + 1) < wq.heap.size ∧ wq.cell? ⟨(w2.heap.size + 1), 1, none⟩ = some (.pointer (pa q1)))) (((try go_split_ands); refine ⟨?_, ⟨?_, ?_⟩, ⟨?_, ?_⟩⟩; (focus (first | (exact HB5) | (exact HB4) | (focus repeat' (first | (with_reducible exact Below.refl _ _) | (with_reducible assumption) | (with_reducible refine Below.alloc ?_ ?_ _) | (with_reducible refine Below.drew ?_) | (with_reducible refine bdrewN ?_ _) | (with_reducible refine Below.setCell ?_ ?_ _) | (first | (with_reducible exact Nat.le_refl _) | (with_reducible assumption) | omega | (simp; omega) | (simp; done)))))); (focus (first | (with_reducible assumption) | (simp; done) | omega | (simp; omega))); (focus (first | (with_reducible assumption) | (simp [go_sem, *]; done))); (focus (first | (with_reducible assumption) | (simp; done) | omega | (simp; omega))); (focus (first | (with_reducible assumption) | (simp [go_sem, *]; done)))))
                  (first | (go_at_call 21; refine (Copy_abs k op cl st sp ex la fl fa co ru p1 S1 _ (Two.gF1 (TW3.out.below (by (focus repeat' (first | (with_reducible exact Below.refl _ _) | (with_reducible assumption) | (with_reducible refine Below.alloc ?_ ?_ _) | (with_reducible refine Below.drew ?_) | (with_reducible refine bdrewN ?_ _) | (with_reducible refine Below.setCell ?_ ?_ _) | (first | (with_reducible exact Nat.le_refl _) | (with_reducible assumption) | omega | (simp; omega) | (simp; done)))))))).mono ?_; rintro e w4 ⟨pn, rfl, hb4, hN4, hg4⟩; (try go_split_ands); have TW4 := hide (Two.below (TW3.out.below (by (focus repeat' (first | (with_reducible exact Below.refl _ _) | (with_reducible assumption) | (with_reducible refine Below.alloc ?_ ?_ _) | (with_reducible refine Below.drew ?_) | (with_reducible refine bdrewN ?_ _) | (with_reducible refine Below.setCell ?_ ?_ _) | (first | (with_reducible exact Nat.le_refl _) | (with_reducible assumption) | omega | (simp; omega) | (simp; done)))))) hb4); have HB4 := TW4.out.hb; have zF4 := TW4.out.zF; have CF4 := TW4.out.cF; have zR4 := TW4.out.zR; have CR4 := TW4.out.cR; have FF4 := TW4.out.fF; have FR4 := TW4.out.fR; have CB4 : ∀ o, w4.cell? ⟨wr.heap.size, o, none⟩ = (#[Value.int .i64 kd, Value.int .i64 on, Value.int .i64 bd, Value.int .i64 tk, Value.int .i64 co2, Value.int .i64 fr] : Array Value)[o]? := fun o => (hb4.cell (p := ⟨wr.heap.size, o, none⟩) (by first | (with_reducible assumption) | (simp; omega))).trans (by first | (with_reducible exact CB3 o) | (simp [go_sem, *]; done)); have zB4 : wr.heap.size < w4.heap.size := by (have := hb4.size; (try simp at this); omega)) | (go_at_call 22; refine (rCopy_abs k op cl st sp ex la fl fa co ru q1 S1 _ (Two.gR1 (TW4.out.below (by (focus repeat' (first | (with_reducible exact Below.refl _ _) | (with_reducible assumption) | (with_reducible refine Below.alloc ?_ ?_ _) | (with_reducible refine Below.drew ?_) | (with_reducible refine bdrewN ?_ _) | (with_reducible refine Below.setCell ?_ ?_ _) | (first | (with_reducible exact Nat.le_refl _) | (with_reducible assumption) | omega | (simp; omega) | (simp; done)))))))).mono ?_; rintro e w5 ⟨qn, rfl, hb5, hN5, hg5⟩; (try go_split_ands); have TW5 := hide (Two.below (TW4.out.below (by (focus repeat' (first | (with_reducible exact Below.refl _ _) | (with_reducible assumption) | (with_reducible refine Below.alloc ?_ ?_ _) | (with_reducible refine Below.drew ?_) | (with_reducible refine bdrewN ?_ _) | (with_reducible refine Below.setCell ?_ ?_ _) | (first | (with_reducible exact Nat.le_refl _) | (with_reducible assumption) | omega | (simp; omega) | (simp; done)))))) hb5); have hM5 := hN4.below (undraw hb5 rfl rfl rfl rfl (Nat.le_refl _)); have hs5 : ∀ g, qn = some g → w3.heap.size ≤ g := fun g hg => Nat.le_trans (show w3.heap.size ≤ w4.heap.size from hb4.size) (hg5 g hg); have HB5 := TW5.out.hb; have zF5 := TW5.out.zF; have CF5 := TW5.out.cF; have zR5 := TW5.out.zR; have CR5 := TW5.out.cR; have FF5 := TW5.out.fF; have FR5 := TW5.out.fR; have CB5 : ∀ o, w5.cell? ⟨wr.heap.size, o, none⟩ = (#[Value.int .i64 kd, Value.int .i64 on, Value.int .i64 bd, Value.int .i64 tk, Value.int .i64 co2, Value.int .i64 fr] : Array Value)[o]? := fun o => (hb5.cell (p := ⟨wr.heap.size, o, none⟩) (by first | (with_reducible assumption) | (simp; omega))).trans (by first | (with_reducible exact CB4 o) | (simp [go_sem, *]; done)); have zB5 : wr.heap.size < w5.heap.size := by (have := hb5.size; (try simp at this); omega)))
                all_goals
                  go_wp2_with fail
                  go_meet
                  refine ⟨pn, qn, Two.copy0 TW5.out hM5 hN5 ?_ ?_, ?_, ?_⟩
                  · intro g hg
                    have q1 := hg4 g hg
                    (try simp at q1)
                    refine ⟨?_, fun hp => ?_⟩
                    · have q2 := TW3.out.hb.size
                      omega
                    · have c := TW3.out.gF1
                      rw [hp] at c
                      have q2 := c.cells.1
                      omega
                  · intro g hg
                    have q1 := hs5 g hg
                    (try simp at q1)
                    refine ⟨?_, fun hp => ?_⟩
                    · have q2 := TW3.out.hb.size
                      omega
                    · have c := TW3.out.gR1
                      rw [hp] at c
                      have q2 := c.cells.1
                      omega
                  · (first | (simp; done) | (simp; omega))
                  · (intro o; simp [go_sem, *]; done)
              case rest =>
                obtain ⟨pn, qn, tw6, zB6, CB6⟩ := hcut
                have TW6 := hide tw6
                clear tw6 TW3 HB3 zL3 zF3 zR3 CL3 CF3 CR3 FF3 FR3 CB3 zB3
                obtain ⟨w6, hwn⟩ : ∃ q : World, q = wc := ⟨wc, rfl⟩
                subst hwn
                have HB6 := TW6.out.hb
                have zL6 := TW6.out.z0
                have zF6 := TW6.out.zF
                have zR6 := TW6.out.zR
                have CL6 := TW6.out.cL
                have CF6 := TW6.out.cF
                have CR6 := TW6.out.cR
                have FF6 := TW6.out.fF
                have FR6 := TW6.out.fR
                go_upto_region 20 with fail
                go_cut [127] (fun s wx => s = .bool false ∧ Two k op cl st sp ex la fl fa co ru w w.heap.size w2.heap.size (w2.heap.size + 1) wx pn S1 qn S1 p1 S1 q1 S1 ∧ wr.heap.size < wx.heap.size ∧ ∀ o, wx.cell? ⟨wr.heap.size, o, none⟩ = (#[Value.int .i64 kd, Value.int .i64 on, Value.int .i64 bd, Value.int .i64 tk, Value.int .i64 co2, Value.int .i64 fr] : Array Value)[o]?)
                case first =>
                  rcases both TW6.out.gF0 TW6.out.gR0 with ⟨rfl, rfl⟩ | ⟨g, h, rfl, rfl⟩
                  · have pn0 : pa none = none := rfl
                    go_wp2_with fail
                    go_quiet (fail)
                    go_wp2_with fail
                    go_meet
                    exact ⟨by first | rfl | (simp [pa]; done), TW6.out.below (by (focus repeat' (first | (with_reducible exact Below.refl _ _) | (with_reducible assumption) | (with_reducible refine Below.alloc ?_ ?_ _) | (with_reducible refine Below.drew ?_) | (with_reducible refine bdrewN ?_ _) | (with_reducible refine Below.setCell ?_ ?_ _) | (first | (with_reducible exact Nat.le_refl _) | (with_reducible assumption) | omega | (simp; omega) | (simp; done))))), by (first | (simp; done) | (simp; omega)), by (first | (exact CB6) | (intro o; simp [go_sem, *]; done))⟩
                  · have pn0 : pa (some g) = some ⟨g, 0, none⟩ := rfl
                    have pn1 : pa (some h) = some ⟨h, 0, none⟩ := rfl
                    go_wp2_with fail
                    go_quiet (fail)
                    go_wp2_with fail
                    go_meet
                    exact ⟨by first | rfl | (simp [pa]; done), TW6.out.below (by (focus repeat' (first | (with_reducible exact Below.refl _ _) | (with_reducible assumption) | (with_reducible refine Below.alloc ?_ ?_ _) | (with_reducible refine Below.drew ?_) | (with_reducible refine bdrewN ?_ _) | (with_reducible refine Below.setCell ?_ ?_ _) | (first | (with_reducible exact Nat.le_refl _) | (with_reducible assumption) | omega | (simp; omega) | (simp; done))))), by (first | (simp; done) | (simp; omega)), by (first | (exact CB6) | (intro o; simp [go_sem, *]; done))⟩
                case rest =>
                  obtain ⟨rfl, tw7, zB7, CB7⟩ := hcut
                  have TW7 := hide tw7
                  clear tw7 TW6 HB6 zL6 zF6 zR6 CL6 CF6 CR6 FF6 FR6 CB6 zB6
                  obtain ⟨w7, hwn⟩ : ∃ q : World, q = wc := ⟨wc, rfl⟩
                  subst hwn
                  go_upto_region 22 with fail
                  have HB7 := TW7.out.hb
                  have zL7 := TW7.out.z0
                  have zF7 := TW7.out.zF
                  have zR7 := TW7.out.zR
                  have CL7 := TW7.out.cL
                  have CF7 := TW7.out.cF
                  have CR7 := TW7.out.cR
                  have FF7 := TW7.out.fF
                  have FR7 := TW7.out.fR
                  go_wp2_with fail
                  refine (tells_abs k op cl st sp ex la fl fa co ru tk pn qn _ _ TW7.out.gF0 TW7.out.gR0).mono ?_
                  rintro e w8 ⟨rfl, hb8⟩
                  have TW8 := hide (TW7.out.below hb8)
                  have CB8 : ∀ o, w8.cell? ⟨wr.heap.size, o, none⟩ = (#[Value.int .i64 kd, Value.int .i64 on, Value.int .i64 bd, Value.int .i64 tk, Value.int .i64 co2, Value.int .i64 fr] : Array Value)[o]? := fun o => (hb8.cell (p := ⟨wr.heap.size, o, none⟩) zB7).trans (CB7 o)
                  have zB8 : wr.heap.size < w8.heap.size := Nat.lt_of_lt_of_le zB7 hb8.size
                  clear hb8 TW7 HB7 zL7 zF7 zR7 CL7 CF7 CR7 FF7 FR7 CB7 zB7
                  have HB8 := TW8.out.hb
                  have zL8 := TW8.out.z0
                  have zF8 := TW8.out.zF
                  have zR8 := TW8.out.zR
                  have CL8 := TW8.out.cL
                  have CF8 := TW8.out.cF
                  have CR8 := TW8.out.cR
                  have FF8 := TW8.out.fF
                  have FR8 := TW8.out.fR
                  go_wp2_with fail
                  refine (tells_abs k op cl st sp ex la fl fa co ru tk p1 q1 _ _ TW8.out.gF1 TW8.out.gR1).mono ?_
                  rintro e w9 ⟨rfl, hb9⟩
                  have TW9 := hide (TW8.out.below hb9)
                  clear hb9 TW8 HB8 zL8 zF8 zR8 CL8 CF8 CR8 FF8 FR8 CB8 zB8
                  go_wp2
                  go_roundw
                  case rel => first | exact ⟨n + 1, pn, S1, qn, p1, S1, q1, by omega, by go_num, TW9.out⟩ | ((repeat apply Exists.intro); exact ⟨⟨n + 1, pn, S1, qn, p1, S1, q1, by omega, by go_num, TW9.out⟩, rfl⟩)
                  case measure => simp [intOf]; omega
          · have e3 : (kd == 3) = false := by simp [d3]
            clear d1 d3
            go_upto_region 22 with fail
            have HB3 := TW3.out.hb
            have zL3 := TW3.out.z0
            have zF3 := TW3.out.zF
            have zR3 := TW3.out.zR
            have CL3 := TW3.out.cL
            have CF3 := TW3.out.cF
            have CR3 := TW3.out.cR
            have FF3 := TW3.out.fF
            have FR3 := TW3.out.fR
            go_wp2_with fail
            refine (tells_abs k op cl st sp ex la fl fa co ru tk p0 q0 _ _ TW3.out.gF0 TW3.out.gR0).mono ?_
            rintro e w4 ⟨rfl, hb4⟩
            have TW4 := hide (TW3.out.below hb4)
            have CB4 : ∀ o, w4.cell? ⟨wr.heap.size, o, none⟩ = (#[Value.int .i64 kd, Value.int .i64 on, Value.int .i64 bd, Value.int .i64 tk, Value.int .i64 co2, Value.int .i64 fr] : Array Value)[o]? := fun o => (hb4.cell (p := ⟨wr.heap.size, o, none⟩) zB3).trans (CB3 o)
            have zB4 : wr.heap.size < w4.heap.size := Nat.lt_of_lt_of_le zB3 hb4.size
            clear hb4 TW3 HB3 zL3 zF3 zR3 CL3 CF3 CR3 FF3 FR3 CB3 zB3
            have HB4 := TW4.out.hb
            have zL4 := TW4.out.z0
            have zF4 := TW4.out.zF
            have zR4 := TW4.out.zR
            have CL4 := TW4.out.cL
            have CF4 := TW4.out.cF
            have CR4 := TW4.out.cR
            have FF4 := TW4.out.fF
            have FR4 := TW4.out.fR
            go_wp2_with fail
            refine (tells_abs k op cl st sp ex la fl fa co ru tk p1 q1 _ _ TW4.out.gF1 TW4.out.gR1).mono ?_
            rintro e w5 ⟨rfl, hb5⟩
            have TW5 := hide (TW4.out.below hb5)
            clear hb5 TW4 HB4 zL4 zF4 zR4 CL4 CF4 CR4 FF4 FR4 CB4 zB4
            go_wp2
            go_roundw
            case rel => first | exact ⟨n + 1, p0, S0, q0, p1, S1, q1, by omega, by go_num, TW5.out⟩ | ((repeat apply Exists.intro); exact ⟨⟨n + 1, p0, S0, q0, p1, S1, q1, by omega, by go_num, TW5.out⟩, rfl⟩)
            case measure => simp [intOf]; omega
      · have hnz : n = len := by omega
        subst hnz
        have hle : ¬ ((n : Int) < (n : Int)) := by omega
        go_wp2_with fail
        refine (tells_abs k op cl st sp ex la fl fa co ru op p0 q0 _ _ TW.out.gF0 TW.out.gR0).mono ?_
        rintro e w4 ⟨rfl, hb4⟩
        have TW4 := hide (TW.out.below hb4)
        clear hb4 TW CL CF CR FF FR HBr t2 t3 t4 t5 t6 t7
        have HB4 := TW4.out.hb
        have zL4 := TW4.out.z0
        have zF4 := TW4.out.zF
        have zR4 := TW4.out.zR
        have CL4 := TW4.out.cL
        have CF4 := TW4.out.cF
        have CR4 := TW4.out.cR
        have FF4 := TW4.out.fF
        have FR4 := TW4.out.fR
        go_wp2_with fail
        refine (tells_abs k op cl st sp ex la fl fa co ru op p1 q1 _ _ TW4.out.gF1 TW4.out.gR1).mono ?_
        rintro e w5 ⟨rfl, hb5⟩
        have TW5 := hide (TW4.out.below hb5)
        clear hb5 TW4 HB4 zL4 zF4 zR4 CL4 CF4 CR4 FF4 FR4
        go_wp2_with fail
        refine (known_any _).mono ?_
        rintro e w6 ⟨rfl, hb6⟩
        have HB6 : Below w.heap.size w w6 := bstep TW5.out.hb hb6
        go_wp2
        go_ret
        exact ⟨rfl, HB6⟩
end Go.Proofs.Ytiopohdhadilfaa
