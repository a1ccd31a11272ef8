import Derived.Test.YtimabgakemgldaaT50
import Derived.Laws.LoneSync
import Derived.WalkKit
import Derived.StillTailTactics
import Derived.Deep.RegionLaw
import Derived.Deep.RegionHeld3
import Derived.Laws.OwnMore
import Derived.Deep.Matrix
import Derived.BigQuiet
import Derived.Deep.QuietTactic
import Derived.Laws.EntriesVeiled
import Derived.Deep.RegionLaw
namespace Go.Proofs.Ytimabgakemgldaa
open Go.ChangeShapes Go.WideShapes Go.ChangeAt Go.RowKit Go.Deep
set_option linter.unusedSimpArgs false
set_option linter.unusedVariables false

theorem LL_all {P : Nat → Prop} {m mc b bc c cs g t tn : Nat} (h0 : P m) (h1 : P mc) (h2 : P b) (h3 : P bc) (h4 : P c) (h5 : P cs) (h6 : P g) (h7 : P t) (h8 : P tn) : ∀ i, i < 9 → P (LL m mc b bc c cs g t tn i) := by
  intro i hi
  obtain rfl | rfl | rfl | rfl | rfl | rfl | rfl | rfl | rfl : i = 0 ∨ i = 1 ∨ i = 2 ∨ i = 3 ∨ i = 4 ∨ i = 5 ∨ i = 6 ∨ i = 7 ∨ i = 8 := by omega
  all_goals assumption
theorem tch_cell {T : Nat → Prop} {V w' : World} {b o : Nat} {v : Value} (h : Tch T V w') (hn : ¬ T b) (hv : V.cell? ⟨b, o, none⟩ = some v) : w'.cell? ⟨b, o, none⟩ = some v := cell_stay hv (h.heap b (World.block_lt_of_cell? V _ hv) hn)
theorem rep_len (n : Nat) : (List.replicate n (0 : Int)).length = n := List.length_replicate
set_option maxRecDepth 100000 in
set_option maxHeartbeats 16000000 in
theorem Play_ok (mark gate tick : Int) (n cap : Nat) (sp : Option Addr) (l : List (Int × Int × Int)) (w : World) (hs : ScrIn w sp l) (h1 : 1 ≤ n) (h2 : n ≤ 64) (hg : 1 ≤ gate) (ht : 0 ≤ tick) (ht2 : tick ≤ 9223372036854775807) :
    Calls Try.prog 3 #[.agg #[.int .i64 mark, .int .i64 gate, .int .i64 tick], .int .i64 (n : Int), .slice sp l.length cap] w fun e w' => e = .returned (.bool true) ∧ Below w.heap.size w w' := by
  obtain ⟨W, hW⟩ : ∃ W, W = w.alloc (.cells #[.int .i64 mark, .int .i64 gate, .int .i64 tick] 23) := ⟨_, rfl⟩
  have hb0 : Below w.heap.size w W := by rw [hW]; (focus repeat' (first | (with_reducible exact Below.refl _ _) | (with_reducible assumption) | (with_reducible refine Below.alloc ?_ ?_ _) | (with_reducible refine Below.drew ?_) | (with_reducible refine bdrewN ?_ _) | (with_reducible refine Below.setCell ?_ ?_ _) | (first | (with_reducible exact Nat.le_refl _) | (with_reducible assumption) | omega | (simp; omega) | (simp; done))))
  have b0 : W.cell? ⟨w.heap.size, 0, none⟩ = some (.int .i64 mark) := by rw [hW]; simp [go_sem]
  have b1 : W.cell? ⟨w.heap.size, 1, none⟩ = some (.int .i64 gate) := by rw [hW]; simp [go_sem]
  have b2 : W.cell? ⟨w.heap.size, 2, none⟩ = some (.int .i64 tick) := by rw [hW]; simp [go_sem]
  have l0 := World.block_lt_of_cell? W _ b0
  simp only at l0
  have HB0 := hide hb0
  have HW := hide hW
  have HS := hide hs
  have H1 := hide h1
  have H2 := hide h2
  have HG := hide hg
  have HT := hide ht
  have HT2 := hide ht2
  have C7 := hide (fun V => NewCount_f n V h1 h2)
  have C8 := hide (fun V => NewGate_f gate V hg)
  have C9 := hide (fun V => NewTickets_f tick V ht)
  have C11 := hide (fun V => RNew_ok mark gate tick n V h1 h2 hg ht)
  have h3 : ¬ (n : Int) < 1 := by omega
  have h4 : ¬ 64 < (n : Int) := by omega
  have hg' : ¬ gate < 1 := by omega
  have ht' : ¬ tick < 0 := by omega
  clear hW hb0 hs h1 h2
  go_enter Try.func3, Try.ntmps3
  go_upto_region 1 with fail
  rw [← HW.out]
  go_wp2_with fail
  refine (C7.out W).mono ?_
  rintro e w1 ⟨c, cs, rfl, hc, n1, l1, m1, k1, j1, hb⟩
  have b0 := cell_stay b0 (hb.block _ l0)
  have b1 := cell_stay b1 (hb.block _ l0)
  have b2 := cell_stay b2 (hb.block _ l0)
  have F1 := hide (And.intro hc (And.intro n1 (And.intro l1 (And.intro m1 (And.intro k1 (And.intro j1 hb))))))
  have l0 : w.heap.size < w1.heap.size := Nat.lt_of_lt_of_le l0 hb.size
  clear hc n1 l1 m1 k1 j1 hb
  go_wp2_with fail
  refine (C8.out w1).mono ?_
  rintro e w2 ⟨g, rfl, hc, l1, k1, hb⟩
  have b0 := cell_stay b0 (hb.block _ l0)
  have b1 := cell_stay b1 (hb.block _ l0)
  have b2 := cell_stay b2 (hb.block _ l0)
  have F2 := hide (And.intro hc (And.intro l1 (And.intro k1 hb)))
  have l0 : w.heap.size < w2.heap.size := Nat.lt_of_lt_of_le l0 hb.size
  clear hc l1 k1 hb
  go_wp2_with fail
  refine (C9.out w2).mono ?_
  rintro e w3 ⟨t, tn, rfl, hc, n1, l1, m1, k1, j1, hb⟩
  have b0 := cell_stay b0 (hb.block _ l0)
  have b1 := cell_stay b1 (hb.block _ l0)
  have b2 := cell_stay b2 (hb.block _ l0)
  have F3 := hide (And.intro hc (And.intro n1 (And.intro l1 (And.intro m1 (And.intro k1 (And.intro j1 hb))))))
  have l0 : w.heap.size < w3.heap.size := Nat.lt_of_lt_of_le l0 hb.size
  clear hc n1 l1 m1 k1 j1 hb
  go_wp2_with fail
  go_quiet ((go_at_call 10; exact Calls.quiet_of_same ((num_c _ _).mono (fun e w' q => ⟨q.1, q.2.symm⟩))))
  go_wp2_with fail
  refine (C11.out _).mono ?_
  rintro e w4 ⟨r, rs, rfl, hr, l4r, l4s, hb⟩
  have hb4 : Below w3.heap.size w3 w4 := ⟨hb.os, hb.tape, hb.output, hb.size, hb.block⟩
  have b0 := cell_stay b0 (hb4.block _ l0)
  have b2 := cell_stay b2 (hb4.block _ l0)
  have F4 := hide (show RObj w4 r rs (ab0 n mark gate tick) ∧ w3.heap.size ≤ r ∧ w3.heap.size ≤ rs ∧ Below w3.heap.size w3 w4 from ⟨hr, l4r, l4s, hb4⟩)
  have l0 : w.heap.size < w4.heap.size := Nat.lt_of_lt_of_le l0 hb4.size
  clear hr l4r l4s hb hb4 b1
  go_wp2_with fail
  refine (NewMark_f mark w4).mono ?_
  rintro e w5 ⟨m, mc, rfl, hc, n1, l1, m1, k1, j1, hb⟩
  have b0 := cell_stay b0 (hb.block _ l0)
  have b2 := cell_stay b2 (hb.block _ l0)
  have F5 := hide (And.intro hc (And.intro n1 (And.intro l1 (And.intro m1 (And.intro k1 (And.intro j1 hb))))))
  have l0 : w.heap.size < w5.heap.size := Nat.lt_of_lt_of_le l0 hb.size
  clear hc n1 l1 m1 k1 j1 hb
  go_wp2_with fail
  refine (NewBest_f w5).mono ?_
  rintro e w6 ⟨b, bc, rfl, hc, n1, l1, m1, k1, j1, hb⟩
  have b0 := cell_stay b0 (hb.block _ l0)
  have b2 := cell_stay b2 (hb.block _ l0)
  have F6 := hide (And.intro hc (And.intro n1 (And.intro l1 (And.intro m1 (And.intro k1 (And.intro j1 hb))))))
  have l0 : w.heap.size < w6.heap.size := Nat.lt_of_lt_of_le l0 hb.size
  clear hc n1 l1 m1 k1 j1 hb
  go_upto_region 10 with fail
  obtain ⟨W0, hW0⟩ : ∃ W0, W0 = w6.alloc (.cells #[.pointer (some ⟨c, 0, none⟩), .pointer (some ⟨m, 0, none⟩), .pointer (some ⟨b, 0, none⟩), .pointer (some ⟨g, 0, none⟩), .pointer (some ⟨t, 0, none⟩)] 46) := ⟨_, rfl⟩
  rw [← hW0]
  obtain ⟨wp, hwp⟩ : ∃ wp, wp = w6.heap.size := ⟨_, rfl⟩
  rw [← hwp]
  have q0 : W0.cell? ⟨wp, 0, none⟩ = some (.pointer (some ⟨c, 0, none⟩)) := by rw [hW0, hwp]; simp [go_sem]
  have q1 : W0.cell? ⟨wp, 1, none⟩ = some (.pointer (some ⟨m, 0, none⟩)) := by rw [hW0, hwp]; simp [go_sem]
  have q2 : W0.cell? ⟨wp, 2, none⟩ = some (.pointer (some ⟨b, 0, none⟩)) := by rw [hW0, hwp]; simp [go_sem]
  have q3 : W0.cell? ⟨wp, 3, none⟩ = some (.pointer (some ⟨g, 0, none⟩)) := by rw [hW0, hwp]; simp [go_sem]
  have q4 : W0.cell? ⟨wp, 4, none⟩ = some (.pointer (some ⟨t, 0, none⟩)) := by rw [hW0, hwp]; simp [go_sem]
  obtain ⟨L, rfl, rfl, rfl, rfl, rfl, hP⟩ : ∃ L : Nat → Nat, L 0 = m ∧ L 2 = b ∧ L 4 = c ∧ L 6 = g ∧ L 7 = t ∧ PB w W0 L wp r rs w.heap.size tick (ab0 n mark gate tick) (ab0 n mark gate tick) := by
    obtain ⟨c1, n1, l1, m1, k1, j1, b1⟩ := F1.out
    obtain ⟨c2, l2, k2, b2'⟩ := F2.out
    obtain ⟨c3, n3, l3, m3, k3, j3, b3⟩ := F3.out
    obtain ⟨c4, l4, m4, b4⟩ := F4.out
    obtain ⟨c5, n5, l5, m5, k5, j5, b5⟩ := F5.out
    obtain ⟨c6, n6, l6, m6, k6, j6, b6⟩ := F6.out
    have b7 : Below w6.heap.size w6 W0 := by rw [hW0]; exact (Below.refl _ _).alloc (Nat.le_refl _) _
    have zW : W.heap.size = w.heap.size + 1 := by rw [HW.out, World.size_alloc]
    have e57 := bstep b6 b7
    have e47 := bstep b5 e57
    have e37 := bstep b4 e47
    have e27 := bstep b3 e37
    have e17 := bstep b2' e27
    have eW7 := bstep b1 e17
    have z1 := b1.size
    have z2 := b2'.size
    have z3 := b3.size
    have z4 := b4.size
    have z5 := b5.size
    have z6 := b6.size
    have rl := c4.lt
    have b27 := cell_stay b2 (b7.block _ l0)
    refine ⟨LL m mc b bc c cs g t tn, rfl, rfl, rfl, rfl, rfl, ⟨⟨⟨none, mkCObj (c5.below e57) (c6.below b7) (c1.below e17) (c2.below e27) (c3.below e37) ?_⟩, bstep HB0.out eW7, LL_all (P := fun z => w.heap.size ≤ z) (by omega) (by omega) (by omega) (by omega) (by omega) (by omega) (by omega) (by omega) (by omega)⟩, ⟨q0, q1, q2, q3, q4⟩, LL_all (P := fun z => wp ≠ z) (by omega) (by omega) (by omega) (by omega) (by omega) (by omega) (by omega) (by omega) (by omega), c4.below e47, LL_all (P := fun z => r ≠ z ∧ rs ≠ z) (by omega) (by omega) (by omega) (by omega) (by omega) (by omega) (by omega) (by omega) (by omega), ⟨by omega, by omega⟩, ⟨by omega, by omega⟩, b27, LL_all (P := fun z => w.heap.size ≠ z) (by omega) (by omega) (by omega) (by omega) (by omega) (by omega) (by omega) (by omega) (by omega), by omega, by omega⟩⟩
    simp only [List.nodup_cons, List.mem_cons, List.not_mem_nil, or_false, not_or, not_false_iff, List.nodup_nil, and_true]
    omega
  have HP := hide hP
  have HA := hide (show AbOk (ab0 n mark gate tick) n 0 ∧ (ab0 n mark gate tick).tt = tick from ⟨⟨List.length_replicate, HG.out, Int.le_refl _, Int.le_refl _, Int.le_refl _, HT.out, HT2.out, Int.le_refl _⟩, rfl⟩)
  have z0 := hP.l.lt
  have p1 := hP.l.c1
  have p2 := hP.l.c2
  clear hP hW0 hwp q0 q1 q2 q3 q4 F1 F2 F3 F4 F5 F6 C7 C8 C9 C11 l0 b0 b2 HW
  go_wp2_with fail
  obtain ⟨m, hm⟩ : ∃ m, m = l.length := ⟨_, rfl⟩
  rw [← hm]
  have HM := hide hm
  have ml := HS.out.ml
  rw [← hm] at ml
  have ML := hide (show (m : Int) ≤ 4503599627370496 by omega)
  clear h3 h4 hg' ht' hg ht ht2 z0 p1 p2 hm ml
  go_loopw [16] (fun v16 wr => ∃ (k : Nat) (A : Ab), k ≤ m ∧ v16 = .int .i64 (k : Int) ∧ PB w wr L wp r rs w.heap.size tick A A ∧ (AbOk A n (k : Int) ∧ A.tt = tick)) (fun v16 _ => m - (intOf v16).toNat)
  case atStart => exact ⟨0, _, Nat.zero_le _, rfl, HP.out, HA.out⟩
  case round =>
    obtain ⟨k, A, hk, rfl, hp, hab⟩ := hrel
    have HPB := hide hp
    have HAB := hide hab
    have hk0 : (0 : Int) ≤ (k : Int) := by omega
    have hk9 : (k : Int) ≤ 4503599627370496 := by have := ML.out; omega
    have hN9 : (n : Int) ≤ 64 := by have := H2.out; omega
    have hN0 : (1 : Int) ≤ (n : Int) := by have := H1.out; omega
    by_cases hlt : k < m
    · have hl2 : (k : Int) < (m : Int) := by omega
      obtain ⟨sb, so, rfl, s0, s1, s2⟩ := (HS.out.below hp.k.b).at_ k (by have := HM.out; omega)
      obtain ⟨⟨kd, who, x⟩, hst⟩ : ∃ st, st = l.getD k (0, 0, 0) := ⟨_, rfl⟩
      rw [← hst] at s0 s1 s2
      simp only at s0 s1 s2
      have lr := hp.ro.lt
      have lL := (show ∀ i, i < 9 → L i < wr.heap.size from fun i hi => by obtain ⟨po, h⟩ := hp.k.c; exact h.lt i hi)
      have NX := hide (show ¬ CW L wr.heap.size ∧ ¬ (wr.heap.size = r ∨ wr.heap.size = rs) from ⟨CW.of (fun i hi => by have := lL i hi; omega), by omega⟩)
      clear hp hab hst lr lL
      go_upto_region 16 with fail
      obtain ⟨V, hV⟩ : ∃ V, V = wr.alloc (.cells #[.int .i64 kd, .int .i64 who, .int .i64 x] 48) := ⟨_, rfl⟩
      rw [← hV]
      have HV := hide (show PB w V L wp r rs w.heap.size tick A A by rw [hV]; exact HPB.out.al _)
      obtain ⟨xb, hxb⟩ : ∃ xb, xb = wr.heap.size := ⟨_, rfl⟩
      have v0 : V.cell? ⟨xb, 0, none⟩ = some (.int .i64 kd) := by rw [hV, hxb]; simp [go_sem]
      have v1 : V.cell? ⟨xb, 1, none⟩ = some (.int .i64 who) := by rw [hV, hxb]; simp [go_sem]
      have v2 : V.cell? ⟨xb, 2, none⟩ = some (.int .i64 x) := by rw [hV, hxb]; simp [go_sem]
      rw [← hxb] at NX ⊢
      clear hV hxb s0 s1 s2
      by_cases c1 : kd = 1 ∧ (who < 0 ∨ (n : Int) ≤ who)
      · obtain ⟨rfl, hw⟩ := c1
        have C15 := hide (HV.out.addBad (by rw [HAB.out.1.S]; omega) who x (by rw [HAB.out.1.S]; exact hw))
        by_cases hw0 : who < 0
        · have d1 : decide (who < 0) = true := decide_eq_true hw0
          clear hw
          go_wp2_with (go_at_call 10; (apply Calls.mono; focus (exact num_c _ _)); rintro e w' ⟨rfl, rfl⟩)
          refine C15.out.mono ?_
          rintro e w' ⟨rfl, rfl⟩
          go_wp2_with (go_at_call 10; (apply Calls.mono; focus (exact num_c _ _)); rintro e w' ⟨rfl, rfl⟩)
          go_roundw
          case rel => exact ⟨k + 1, A, by omega, by go_num, HV.out, ⟨by rw [show ((k + 1 : Nat) : Int) = (k : Int) + 1 by omega]; exact HAB.out.1.more, HAB.out.2⟩⟩
          case measure => (first | (simp [intOf]; done) | (simp [intOf]; omega))
        · have d1 : decide (who < 0) = false := decide_eq_false hw0
          have d2 : decide ((n : Int) ≤ who) = true := decide_eq_true (by omega)
          have d3 : (n : Int) ≤ who := by omega
          clear hw
          go_wp2_with (go_at_call 10; (apply Calls.mono; focus (exact num_c _ _)); rintro e w' ⟨rfl, rfl⟩)
          refine C15.out.mono ?_
          rintro e w' ⟨rfl, rfl⟩
          go_wp2_with (go_at_call 10; (apply Calls.mono; focus (exact num_c _ _)); rintro e w' ⟨rfl, rfl⟩)
          go_roundw
          case rel => exact ⟨k + 1, A, by omega, by go_num, HV.out, ⟨by rw [show ((k + 1 : Nat) : Int) = (k : Int) + 1 by omega]; exact HAB.out.1.more, HAB.out.2⟩⟩
          case measure => (first | (simp [intOf]; done) | (simp [intOf]; omega))
      · by_cases c5 : 1 ≤ kd ∧ kd ≤ 5
        · have hw : kd = 1 → 0 ≤ who ∧ who < n := fun e => by omega
          have C16 := hide (fun V A2 (h : PB w V L wp r rs w.heap.size tick A A2) => (h.does HAB.out.1 (by omega) kd who x c5.1 c5.2 hw).mono (fun e w' q => (⟨q.1, q.2.1, fun o v hv => tch_cell q.2.2 NX.out.1 hv⟩ : _ ∧ _ ∧ ∀ o v, V.cell? ⟨xb, o, none⟩ = some v → w'.cell? ⟨xb, o, none⟩ = some v)))
          have C17 := hide (fun V A1 (h : PB w V L wp r rs w.heap.size tick A1 A) => (h.doo HAB.out.1 (by omega) kd who x c5.1 c5.2 hw).mono (fun e w' q => (⟨q.1, q.2.1, fun o v hv => tch_cell q.2.2 NX.out.2 hv⟩ : _ ∧ _ ∧ ∀ o v, V.cell? ⟨xb, o, none⟩ = some v → w'.cell? ⟨xb, o, none⟩ = some v)))
          obtain ⟨aa, haa⟩ : ∃ aa, aa = (doA A who kd x).1 := ⟨_, rfl⟩
          obtain ⟨ay, hay⟩ : ∃ ay, ay = (doA A who kd x).2 := ⟨_, rfl⟩
          unfold aV at C16 C17
          rw [← haa, ← hay] at C16 C17
          have hne := ans_neq aa 0 ay
          have FIN := hide (show AbOk (doS A who kd x) n ((k + 1 : Nat) : Int) ∧ (doS A who kd x).tt = tick from ⟨by have := HAB.out.1.step (by omega) who kd x; rw [show ((k + 1 : Nat) : Int) = (k : Int) + 1 by omega]; exact this, (doS_tt _ _ _ _).trans HAB.out.2⟩)
          clear haa hay
          have d5 : decide (1 ≤ kd) = true := decide_eq_true c5.1
          have d6 : decide (kd ≤ 5) = true := decide_eq_true c5.2
          have C5 := hide c5
          clear c5
          by_cases k1 : kd = 1
          · have hw5 := hw k1
            have d1 : decide (who < 0) = false := decide_eq_false (by omega)
            have d2 : decide ((n : Int) ≤ who) = false := decide_eq_false (by omega)
            have d3 : decide (kd = 1) = true := decide_eq_true k1
            have d4 : (kd == 1) = true := by rw [beq_iff_eq]; exact k1
            clear hw c1 hw5 k1
            go_upto_region 21 with fail
            go_region_held3 (fun w' => w'.cell? ⟨xb, 0, none⟩ = some (.int .i64 kd) ∧ w'.cell? ⟨xb, 1, none⟩ = some (.int .i64 who) ∧ w'.cell? ⟨xb, 2, none⟩ = some (.int .i64 x))
              (((try go_split_ands); refine ⟨?_, ?_, ?_⟩; (focus (first | (with_reducible assumption) | ((repeat (first | with_reducible refine c_dr ?_ | with_reducible refine c_al ?_ _ | with_reducible refine c_drN ?_ _)); with_reducible assumption) | (simp [go_sem, *]; done))); (focus (first | (with_reducible assumption) | ((repeat (first | with_reducible refine c_dr ?_ | with_reducible refine c_al ?_ _ | with_reducible refine c_drN ?_ _)); with_reducible assumption) | (simp [go_sem, *]; done))); (focus (first | (with_reducible assumption) | ((repeat (first | with_reducible refine c_dr ?_ | with_reducible refine c_al ?_ _ | with_reducible refine c_drN ?_ _)); with_reducible assumption) | (simp [go_sem, *]; done)))))
              (first | (go_at_call 16; (apply Calls.mono; focus (first | with_reducible exact C16.out _ _ HV.out.dr | with_reducible exact C16.out _ _ P17.out.dr | with_reducible exact C16.out _ _ P17.out | with_reducible exact C16.out _ _ HV.out)); rintro e w16 ⟨rfl, hp, ht⟩; have P16 := hide hp; have x0 : w16.cell? ⟨xb, 0, none⟩ = some (.int .i64 kd) := ht 0 _ (by ((repeat (first | with_reducible refine c_dr ?_ | with_reducible refine c_al ?_ _ | with_reducible refine c_drN ?_ _)); with_reducible assumption)); have x1 : w16.cell? ⟨xb, 1, none⟩ = some (.int .i64 who) := ht 1 _ (by ((repeat (first | with_reducible refine c_dr ?_ | with_reducible refine c_al ?_ _ | with_reducible refine c_drN ?_ _)); with_reducible assumption)); have x2 : w16.cell? ⟨xb, 2, none⟩ = some (.int .i64 x) := ht 2 _ (by ((repeat (first | with_reducible refine c_dr ?_ | with_reducible refine c_al ?_ _ | with_reducible refine c_drN ?_ _)); with_reducible assumption)); clear hp ht) | (go_at_call 17; (apply Calls.mono; focus (first | with_reducible exact C17.out _ _ HV.out.dr | with_reducible exact C17.out _ _ P16.out.dr | with_reducible exact C17.out _ _ P16.out | with_reducible exact C17.out _ _ HV.out)); rintro e w17 ⟨rfl, hp, ht⟩; have P17 := hide hp; have y0 : w17.cell? ⟨xb, 0, none⟩ = some (.int .i64 kd) := ht 0 _ (by ((repeat (first | with_reducible refine c_dr ?_ | with_reducible refine c_al ?_ _ | with_reducible refine c_drN ?_ _)); with_reducible assumption)); have y1 : w17.cell? ⟨xb, 1, none⟩ = some (.int .i64 who) := ht 1 _ (by ((repeat (first | with_reducible refine c_dr ?_ | with_reducible refine c_al ?_ _ | with_reducible refine c_drN ?_ _)); with_reducible assumption)); have y2 : w17.cell? ⟨xb, 2, none⟩ = some (.int .i64 x) := ht 2 _ (by ((repeat (first | with_reducible refine c_dr ?_ | with_reducible refine c_al ?_ _ | with_reducible refine c_drN ?_ _)); with_reducible assumption)); clear hp ht))

            all_goals
              go_wp2_with fail
              go_roundw
              case rel => exact ⟨k + 1, doS A who kd x, by omega, by go_num, (by first | with_reducible exact P17.out | with_reducible exact P16.out), FIN.out⟩
              case measure => (first | (simp [intOf]; done) | (simp [intOf]; omega))
          · have d3 : decide (kd = 1) = false := decide_eq_false k1
            have d4 : (kd == 1) = false := by rw [beq_eq_false_iff_ne]; exact k1
            clear hw c1 k1
            go_upto_region 21 with fail
            go_region_held3 (fun w' => w'.cell? ⟨xb, 0, none⟩ = some (.int .i64 kd) ∧ w'.cell? ⟨xb, 1, none⟩ = some (.int .i64 who) ∧ w'.cell? ⟨xb, 2, none⟩ = some (.int .i64 x))
              (((try go_split_ands); refine ⟨?_, ?_, ?_⟩; (focus (first | (with_reducible assumption) | ((repeat (first | with_reducible refine c_dr ?_ | with_reducible refine c_al ?_ _ | with_reducible refine c_drN ?_ _)); with_reducible assumption) | (simp [go_sem, *]; done))); (focus (first | (with_reducible assumption) | ((repeat (first | with_reducible refine c_dr ?_ | with_reducible refine c_al ?_ _ | with_reducible refine c_drN ?_ _)); with_reducible assumption) | (simp [go_sem, *]; done))); (focus (first | (with_reducible assumption) | ((repeat (first | with_reducible refine c_dr ?_ | with_reducible refine c_al ?_ _ | with_reducible refine c_drN ?_ _)); with_reducible assumption) | (simp [go_sem, *]; done)))))
              (first | (go_at_call 16; (apply Calls.mono; focus (first | with_reducible exact C16.out _ _ HV.out.dr | with_reducible exact C16.out _ _ P17.out.dr | with_reducible exact C16.out _ _ P17.out | with_reducible exact C16.out _ _ HV.out)); rintro e w16 ⟨rfl, hp, ht⟩; have P16 := hide hp; have x0 : w16.cell? ⟨xb, 0, none⟩ = some (.int .i64 kd) := ht 0 _ (by ((repeat (first | with_reducible refine c_dr ?_ | with_reducible refine c_al ?_ _ | with_reducible refine c_drN ?_ _)); with_reducible assumption)); have x1 : w16.cell? ⟨xb, 1, none⟩ = some (.int .i64 who) := ht 1 _ (by ((repeat (first | with_reducible refine c_dr ?_ | with_reducible refine c_al ?_ _ | with_reducible refine c_drN ?_ _)); with_reducible assumption)); have x2 : w16.cell? ⟨xb, 2, none⟩ = some (.int .i64 x) := ht 2 _ (by ((repeat (first | with_reducible refine c_dr ?_ | with_reducible refine c_al ?_ _ | with_reducible refine c_drN ?_ _)); with_reducible assumption)); clear hp ht) | (go_at_call 17; (apply Calls.mono; focus (first | with_reducible exact C17.out _ _ HV.out.dr | with_reducible exact C17.out _ _ P16.out.dr | with_reducible exact C17.out _ _ P16.out | with_reducible exact C17.out _ _ HV.out)); rintro e w17 ⟨rfl, hp, ht⟩; have P17 := hide hp; have y0 : w17.cell? ⟨xb, 0, none⟩ = some (.int .i64 kd) := ht 0 _ (by ((repeat (first | with_reducible refine c_dr ?_ | with_reducible refine c_al ?_ _ | with_reducible refine c_drN ?_ _)); with_reducible assumption)); have y1 : w17.cell? ⟨xb, 1, none⟩ = some (.int .i64 who) := ht 1 _ (by ((repeat (first | with_reducible refine c_dr ?_ | with_reducible refine c_al ?_ _ | with_reducible refine c_drN ?_ _)); with_reducible assumption)); have y2 : w17.cell? ⟨xb, 2, none⟩ = some (.int .i64 x) := ht 2 _ (by ((repeat (first | with_reducible refine c_dr ?_ | with_reducible refine c_al ?_ _ | with_reducible refine c_drN ?_ _)); with_reducible assumption)); clear hp ht))

            all_goals
              go_wp2_with fail
              go_roundw
              case rel => exact ⟨k + 1, doS A who kd x, by omega, by go_num, (by first | with_reducible exact P17.out | with_reducible exact P16.out), FIN.out⟩
              case measure => (first | (simp [intOf]; done) | (simp [intOf]; omega))
        · have G5 : decide (1 ≤ kd) = false ∨ decide (kd ≤ 5) = false := by
            by_cases e : 1 ≤ kd
            · exact .inr (decide_eq_false (by omega))
            · exact .inl (decide_eq_false e)
          have k1 : ¬ kd = 1 := fun e => by omega
          have d3 : decide (kd = 1) = false := decide_eq_false k1
          have d4 : (kd == 1) = false := by rw [beq_eq_false_iff_ne]; exact k1
          have r0 := HV.out.ro.c0
          have rS : A.S.length = n := HAB.out.1.S
          rw [rS] at r0
          by_cases k6 : kd = 6
          · have d6 : decide (kd = 6) = true := decide_eq_true k6
            have d7 : (kd == 6) = true := by rw [beq_iff_eq]; exact k6
            have e5 : decide (1 ≤ kd) = true := decide_eq_true (by omega)
            have e6 : decide (kd ≤ 5) = false := decide_eq_false (by omega)
            have C18 := hide (show Calls Try.prog 18 #[.pointer (some ⟨L 4, 0, none⟩), .slice (some ⟨rs, 0, none⟩) n n, .int .i64 x] V.drew fun e w' => e = .returned (.bool true) ∧ Below V.drew.heap.size V.drew w' by
              have q := HV.out.dr.goes (by rw [rS]; exact H2.out) x
              rw [rS] at q
              exact q)
            clear c1 c5 G5 k1 k6 rS
            go_upto_region 24 with fail
            go_still_tail 7, (by kernel_rfl)
            go_wp2_with fail
            refine C18.out.mono ?_
            rintro e w7 ⟨rfl, hb⟩
            have P7 := hide (HV.out.dr.later hb)
            clear hb C18
            go_wp2_with fail
            go_roundw
            case rel => exact ⟨k + 1, A, by omega, by go_num, P7.out, ⟨by rw [show ((k + 1 : Nat) : Int) = (k : Int) + 1 by omega]; exact HAB.out.1.more, HAB.out.2⟩⟩
            case measure => (first | (simp [intOf]; done) | (simp [intOf]; omega))
          · have d6 : decide (kd = 6) = false := decide_eq_false k6
            have d7 : (kd == 6) = false := by rw [beq_eq_false_iff_ne]; exact k6
            by_cases k7 : kd = 7
            · have d8 : decide (kd = 7) = true := decide_eq_true k7
              have d9 : (kd == 7) = true := by rw [beq_iff_eq]; exact k7
              have e5 : decide (1 ≤ kd) = true := decide_eq_true (by omega)
              have e6 : decide (kd ≤ 5) = false := decide_eq_false (by omega)
              have s2 := HV.out.s2
              have C19 := hide (show Calls Try.prog 19 #[.pointer (some ⟨wp, 0, none⟩), .int .i64 tick] V fun e w' => e = .returned (endV A) ∧ Below V.heap.size V w' by
                have q := HV.out.stands HAB.out.1 H2.out
                rw [HAB.out.2] at q
                exact q)
              have C20 := hide (fun V2 (h : Below V.heap.size V V2) => (HV.out.later h).endd HAB.out.1 H2.out)
              unfold endV at C19 C20
              have hne := end_neq (sumI A.S) A.mark (bWho A.bs) (bX A.bs) A.ar A.tk A.bs.isSome (decide (A.gt ≤ A.ar))
              clear c1 c5 G5 k1 k6 k7 rS r0
              go_wp2_with fail
              refine C19.out.mono ?_
              rintro e w7 ⟨rfl, hb⟩
              have P7 := hide hb
              clear hb C19
              go_wp2_with fail
              refine (C20.out w7 P7.out).mono ?_
              rintro e w8 ⟨rfl, hb⟩
              have P8 := hide ((HV.out.later P7.out).later hb)
              clear hb C20
              go_wp2_with fail
              go_roundw
              case rel => exact ⟨k + 1, A, by omega, by go_num, P8.out, ⟨by rw [show ((k + 1 : Nat) : Int) = (k : Int) + 1 by omega]; exact HAB.out.1.more, HAB.out.2⟩⟩
              case measure => (first | (simp [intOf]; done) | (simp [intOf]; omega))
            · have d8 : decide (kd = 7) = false := decide_eq_false k7
              have d9 : (kd == 7) = false := by rw [beq_eq_false_iff_ne]; exact k7
              clear c1 c5 k1 k6 k7 rS r0
              by_cases e1 : 1 ≤ kd
              · have e5 : decide (1 ≤ kd) = true := decide_eq_true e1
                have e6 : decide (kd ≤ 5) = false := by rcases G5 with q | q; rw [e5] at q; cases q; exact q
                clear G5
                go_wp2_with fail
                go_roundw
                case rel => exact ⟨k + 1, A, by omega, by go_num, HV.out, ⟨by rw [show ((k + 1 : Nat) : Int) = (k : Int) + 1 by omega]; exact HAB.out.1.more, HAB.out.2⟩⟩
                case measure => (first | (simp [intOf]; done) | (simp [intOf]; omega))
              · have e5 : decide (1 ≤ kd) = false := decide_eq_false e1
                clear G5
                go_wp2_with fail
                go_roundw
                case rel => exact ⟨k + 1, A, by omega, by go_num, HV.out, ⟨by rw [show ((k + 1 : Nat) : Int) = (k : Int) + 1 by omega]; exact HAB.out.1.more, HAB.out.2⟩⟩
                case measure => (first | (simp [intOf]; done) | (simp [intOf]; omega))
    · have hl2 : ¬ (k : Int) < (m : Int) := by omega
      have s2 := hp.s2
      have rS : A.S.length = n := hab.1.S
      have C19 := hide (show Calls Try.prog 19 #[.pointer (some ⟨wp, 0, none⟩), .int .i64 tick] wr fun e w' => e = .returned (endV A) ∧ Below wr.heap.size wr w' by
        have q := hp.stands hab.1 H2.out
        rw [hab.2] at q
        exact q)
      have C20 := hide (fun V2 (h : Below wr.heap.size wr V2) => (HPB.out.later h).endd HAB.out.1 H2.out)
      have C18 := hide (show ∀ V2, PB w V2 L wp r rs w.heap.size tick A A → Calls Try.prog 18 #[.pointer (some ⟨L 4, 0, none⟩), .slice (some ⟨rs, 0, none⟩) n n, .int .i64 0] V2 fun e w' => e = .returned (.bool true) ∧ Below V2.heap.size V2 w' from fun V2 h => by
        have q := h.goes (by rw [rS]; exact H2.out) 0
        rw [rS] at q
        exact q)
      have C0 := hide (show ∀ V2, PB w V2 L wp r rs w.heap.size tick A A → V2.cell? ⟨r, 0, none⟩ = some (.slice (some ⟨rs, 0, none⟩) n n) from fun V2 h => by
        have q := h.ro.c0
        rw [rS] at q; exact q)
      unfold endV at C19 C20
      have hne := end_eql (sumI A.S) A.mark (bWho A.bs) (bX A.bs) A.ar A.tk A.bs.isSome (decide (A.gt ≤ A.ar))
      clear hp hab rS
      go_wp2_with fail
      refine C19.out.mono ?_
      rintro e w7 ⟨rfl, hb⟩
      have P7 := hide hb
      clear hb C19
      go_wp2_with fail
      refine (C20.out w7 P7.out).mono ?_
      rintro e w8 ⟨rfl, hb⟩
      have P8 := hide ((HPB.out.later P7.out).later hb)
      have r0 := C0.out w8 P8.out
      clear hb C20 P7
      go_wp2_with fail
      refine (C18.out w8 P8.out).mono ?_
      rintro e w9 ⟨rfl, hb⟩
      have P9 := hide (P8.out.later hb)
      clear hb C18 r0 C0
      go_wp2_with fail
      refine (known_c w9).mono ?_
      rintro e wa ⟨rfl, hb⟩
      have BA := hide (bstep P9.out.k.b hb)
      clear hb
      go_wp2_with fail
      go_ret
      exact ⟨rfl, BA.out⟩
end Go.Proofs.Ytimabgakemgldaa
