import Derived.Test.YtehpjipmlpaflaaUn
namespace Go.Proofs.Ytehpjipmlpaflaa.un
open Go.ChangeShapes Go.WideShapes Go.ChangeAt Go.RowKit Go.Deep Go.Shelf
set_option linter.unusedSimpArgs false
set_option linter.unusedVariables false

attribute [local go_sem] Oper.semAt_some

/-- both answer alike -/
theorem better_both (count floor who : Int) (L : List (List Int)) (xs : List Int) (hL : L.length ≤ 4096) : ∃ A B V : Int,
    (∀ (so : Option Addr) (cap : Nat) (sb : Option Addr) (cb : Nat) (w : World), BRows so L w → IRow sb xs w → (∀ b, b < L.length → ∀ bS offS si ci, so = some ⟨bS, offS, none⟩ → w.cell? ⟨bS, offS + b, none⟩ = some (.slice si (bidAt L b).length ci) → (bidAt L b).length ≤ ci) → Calls Try.prog 25 #[.int .i64 count, .int .i64 floor, .slice so L.length cap, .int .i64 who, .slice sb xs.length cb] w fun e w' => e = .returned (.tuple #[.int .i64 A, .int .i64 B, .int .i64 V]) ∧ Below w.heap.size w w') ∧
    (∀ (so : Option Addr) (cap : Nat) (sb : Option Addr) (cb : Nat) (w : World), BRows so L w → IRow sb xs w → Calls Try.prog 26 #[.int .i64 count, .int .i64 floor, .slice so L.length cap, .int .i64 who, .slice sb xs.length cb] w fun e w' => e = .returned (.tuple #[.int .i64 A, .int .i64 B, .int .i64 V]) ∧ Below w.heap.size w w') := by
  obtain ⟨v1, h1⟩ := wrong_one count floor L
  obtain ⟨p1, nx1, won1, s1⟩ := sale_one count floor L v1
  by_cases hlo : who < 0
  · obtain ⟨A, B, V, hA⟩ : ∃ A B V : Int, BetterIs false v1 v1 0 0 A B V := by
      by_cases h : v1 = 2
      · exact ⟨0, 0, 2, .inl ⟨.inl h, rfl, rfl, rfl⟩⟩
      · exact ⟨0, 0, 4, .inr (.inl ⟨⟨h, h⟩, rfl, rfl, rfl, rfl⟩)⟩
    exact ⟨A, B, V, fun so cap sb cb w hb hx _ => Better_low count floor so cap L sb cb xs w hb hx hL who hlo h1 s1 hA, fun so cap sb cb w hb hx => rBetter_low count floor so cap L sb cb xs w hb hx hL who hlo h1 s1 hA⟩
  · by_cases hhi : (L.length : Int) ≤ who
    · obtain ⟨A, B, V, hA⟩ : ∃ A B V : Int, BetterIs false v1 v1 0 0 A B V := by
        by_cases h : v1 = 2
        · exact ⟨0, 0, 2, .inl ⟨.inl h, rfl, rfl, rfl⟩⟩
        · exact ⟨0, 0, 4, .inr (.inl ⟨⟨h, h⟩, rfl, rfl, rfl, rfl⟩)⟩
      exact ⟨A, B, V, fun so cap sb cb w hb hx _ => Better_high count floor so cap L sb cb xs w hb hx hL who (by omega) hhi h1 s1 hA, fun so cap sb cb w hb hx => rBetter_high count floor so cap L sb cb xs w hb hx hL who (by omega) hhi h1 s1 hA⟩
    · obtain ⟨b, rfl⟩ : ∃ b : Nat, who = (b : Int) := ⟨who.toNat, by omega⟩
      have hbl : b < L.length := by omega
      obtain ⟨v2, h2⟩ := wrong_one count floor (L.set b xs)
      obtain ⟨p2, nx2, won2, s2⟩ := sale_one count floor (L.set b xs) v2
      obtain ⟨A, B, V, hA⟩ : ∃ A B V : Int, BetterIs true v1 v2 (gainI p1 (at0 won1 b).toNat (bidAt L b)) (gainI p2 (at0 won2 b).toNat (bidAt L b)) A B V := by
        by_cases h : v1 = 2 ∨ v2 = 2
        · exact ⟨0, 0, 2, .inl ⟨h, rfl, rfl, rfl⟩⟩
        · by_cases h' : v1 ≠ 0 ∨ v2 ≠ 0
          · exact ⟨0, 0, 7, .inr (.inr (.inl ⟨⟨fun q => h (.inl q), fun q => h (.inr q)⟩, rfl, h', rfl, rfl, rfl⟩))⟩
          · exact ⟨_, _, 0, .inr (.inr (.inr ⟨rfl, by omega, by omega, rfl, rfl, rfl⟩))⟩
      exact ⟨A, B, V, fun so cap sb cb w hb hx hcp => Better_there count floor so cap L sb cb xs w hb hx hL b hbl (hcp b hbl) h1 h2 s1 s2 hA, fun so cap sb cb w hb hx => rBetter_there count floor so cap L sb cb xs w hb hx hL b hbl h1 h2 s1 s2 hA⟩
theorem LentM.caps {L : List (List Int)} {base M cM : Nat} {w : World} (h : LentM L base M cM w) : ∀ b, b < L.length → ∀ bS offS si ci, (some ⟨M, 0, none⟩ : Option Addr) = some ⟨bS, offS, none⟩ → w.cell? ⟨bS, offS + b, none⟩ = some (.slice si (bidAt L b).length ci) → (bidAt L b).length ≤ ci := by
  intro b hb bS offS si ci e hc
  cases e
  obtain ⟨g, c, h1, h2, -, -⟩ := h.at hb
  rw [Nat.zero_add] at hc
  have := h1.symm.trans hc
  simp at this
  omega
theorem one_row {sb : Option Addr} {xs : List Int} {cb : Nat} {w : World} (hx : IRow sb xs w) : BRows (some ⟨w.heap.size, 0, none⟩) [xs] (w.alloc (.cells #[.slice sb xs.length cb] 41)) := by
  refine ⟨fun _ => ⟨_, _, rfl, fun i hi => ?_⟩⟩
  have : i = 0 := by simpa using hi
  subst this
  exact ⟨sb, cb, by simp [go_sem, bidAt], hx.below ((Below.refl _ _).alloc (Nat.le_refl _) _)⟩

set_option maxHeartbeats 2000000 in
theorem UBetter_long (count floor who : Int) (so : Option Addr) (cap : Nat) (L : List (List Int)) (sb : Option Addr) (cb : Nat) (xs : List Int) (w : World) (hb : BRows so L w) (hx : IRow sb xs w) (hl : isLong L) : Calls Try.prog 7 #[.agg #[.int .i64 count, .int .i64 floor, .slice so L.length cap], .int .i64 who, .slice sb xs.length cb] w fun e w' => e = .returned (.bool true) ∧ Below w.heap.size w w' := by
  have HB := hide hb
  have HL := hide hl
  clear hb hl hx
  go_enter Try.func7, Try.ntmps7
  go_wp2_with fail
  refine (long_yes count floor so cap L _ (HB.out.below (by (focus repeat' (first | (with_reducible exact Below.refl _ _) | (with_reducible assumption) | (with_reducible refine Below.alloc ?_ ?_ _) | (with_reducible refine Below.drew ?_) | (with_reducible refine bdrewN ?_ _) | (with_reducible refine Below.setCell ?_ ?_ _) | (first | (with_reducible exact Nat.le_refl _) | (with_reducible assumption) | omega | (simp; omega) | (simp; done)))))) HL.out).mono ?_
  rintro e w5 ⟨rfl, hb5⟩
  have HB5 := hide (show Below w.heap.size w w5 from bstep (by (focus repeat' (first | (with_reducible exact Below.refl _ _) | (with_reducible assumption) | (with_reducible refine Below.alloc ?_ ?_ _) | (with_reducible refine Below.drew ?_) | (with_reducible refine bdrewN ?_ _) | (with_reducible refine Below.setCell ?_ ?_ _) | (first | (with_reducible exact Nat.le_refl _) | (with_reducible assumption) | omega | (simp; omega) | (simp; done))))) hb5)
  clear hb5
  go_wp2_with fail
  refine (known_c _).mono ?_
  rintro e w6 ⟨rfl, hb6⟩
  have HB6 := hide (bstep HB5.out hb6)
  clear hb6
  go_wp2
  refine bodyPost_ret (v := .bool true) (by simp [results, Try.f7, go_sem]) rfl ⟨rfl, HB6.out⟩

set_option maxHeartbeats 2000000 in
theorem UBetter_wide (count floor who : Int) (so : Option Addr) (cap : Nat) (L : List (List Int)) (sb : Option Addr) (cb : Nat) (xs : List Int) (w : World) (hb : BRows so L w) (hx : IRow sb xs w) (hl : L.length ≤ 40 ∧ ∀ i, i < L.length → (bidAt L i).length ≤ 100) (h2 : 100 < xs.length) : Calls Try.prog 7 #[.agg #[.int .i64 count, .int .i64 floor, .slice so L.length cap], .int .i64 who, .slice sb xs.length cb] w fun e w' => e = .returned (.bool true) ∧ Below w.heap.size w w' := by
  have HB := hide hb
  have HL := hide hl
  have h3 : (100 : Int) < (xs.length : Int) := by omega
  clear hb hl hx
  go_enter Try.func7, Try.ntmps7
  go_wp2_with fail
  refine (long_no count floor so cap L _ (HB.out.below (by (focus repeat' (first | (with_reducible exact Below.refl _ _) | (with_reducible assumption) | (with_reducible refine Below.alloc ?_ ?_ _) | (with_reducible refine Below.drew ?_) | (with_reducible refine bdrewN ?_ _) | (with_reducible refine Below.setCell ?_ ?_ _) | (first | (with_reducible exact Nat.le_refl _) | (with_reducible assumption) | omega | (simp; omega) | (simp; done)))))) HL.out).mono ?_
  rintro e w5 ⟨rfl, hb5⟩
  have HB5 := hide (show Below w.heap.size w w5 from bstep (by (focus repeat' (first | (with_reducible exact Below.refl _ _) | (with_reducible assumption) | (with_reducible refine Below.alloc ?_ ?_ _) | (with_reducible refine Below.drew ?_) | (with_reducible refine bdrewN ?_ _) | (with_reducible refine Below.setCell ?_ ?_ _) | (first | (with_reducible exact Nat.le_refl _) | (with_reducible assumption) | omega | (simp; omega) | (simp; done))))) hb5)
  clear hb5
  go_wp2_with fail
  refine (known_c _).mono ?_
  rintro e w6 ⟨rfl, hb6⟩
  have HB6 := hide (bstep HB5.out hb6)
  clear hb6
  go_wp2
  refine bodyPost_ret (v := .bool true) (by simp [results, Try.f7, go_sem]) rfl ⟨rfl, HB6.out⟩

set_option maxRecDepth 100000 in
set_option maxHeartbeats 8000000 in
theorem UBetter_main (count floor who : Int) (so : Option Addr) (cap : Nat) (L : List (List Int)) (sb : Option Addr) (cb : Nat) (xs : List Int) (w : World) (hb : BRows so L w) (hx : IRow sb xs w) (hl : L.length ≤ 40 ∧ ∀ i, i < L.length → (bidAt L i).length ≤ 100) (h2 : xs.length ≤ 100) : Calls Try.prog 7 #[.agg #[.int .i64 count, .int .i64 floor, .slice so L.length cap], .int .i64 who, .slice sb xs.length cb] w fun e w' => e = .returned (.bool true) ∧ Below w.heap.size w w' := by
  refine (callsIn_wide (n := 3)).1 ?_
  refine callsIn_of_wp Try.func7 rfl trivial ?_ rfl
  simp only [Try.ntmps7, List.size_toArray, List.length_cons, List.length_nil, Nat.reduceAdd, Nat.reduceSub, Array.replicate_succ, Array.replicate_zero, List.push_toArray, List.append_toArray, List.nil_append, List.cons_append]
  have HB := hide hb
  have HX := hide hx
  have HL := hide hl
  have h3 : (xs.length : Int) ≤ 100 := by omega
  have hL40 : L.length ≤ 4096 := by omega
  have HLB := hide (short_all hl.2)
  clear hb hl hx
  gi_wp2_with fail
  refine (callsIn_wide.2 (long_no count floor so cap L _ (HB.out.below (by (focus repeat' (first | (with_reducible exact Below.refl _ _) | (with_reducible assumption) | (with_reducible refine Below.alloc ?_ ?_ _) | (with_reducible refine Below.drew ?_) | (with_reducible refine bdrewN ?_ _) | (with_reducible refine Below.setCell ?_ ?_ _) | (first | (with_reducible exact Nat.le_refl _) | (with_reducible assumption) | omega | (simp; omega) | (simp; done)))))) HL.out)).mono ?_
  rintro e w1 ⟨rfl, hb1⟩
  have HA1 := hide (show ∀ o, w1.cell? ⟨w.heap.size, o, none⟩ = (#[Value.int .i64 count, .int .i64 floor, .slice so L.length cap] : Array Value)[o]? from fun o => (hb1.cell (p := ⟨w.heap.size, o, none⟩) (by simp)).trans (by simp [go_sem]))
  have HB1 := hide (show Below w.heap.size w w1 from bstep (by (focus repeat' (first | (with_reducible exact Below.refl _ _) | (with_reducible assumption) | (with_reducible refine Below.alloc ?_ ?_ _) | (with_reducible refine Below.drew ?_) | (with_reducible refine bdrewN ?_ _) | (with_reducible refine Below.setCell ?_ ?_ _) | (first | (with_reducible exact Nat.le_refl _) | (with_reducible assumption) | omega | (simp; omega) | (simp; done))))) hb1)
  have hz1 : w.heap.size + 1 ≤ w1.heap.size := by have := hb1.size; simp at this; omega
  clear hb1
  have x2 : w1.cell? ⟨w.heap.size, 2, none⟩ = some (.slice so L.length cap) := HA1.out 2
  gi_wp2_with fail
  refine (callsIn_wide.2 (lent_c so cap L _ (HB.out.below HB1.out) hL40 (fun i hi => by have := HLB.out i; omega))).mono ?_
  rintro e w2 ⟨⟨M, cM, rfl, hlm⟩, hb2⟩
  have HM2 := hide hlm
  have HA2 := hide (fun o => (hb2.cell (p := ⟨w.heap.size, o, none⟩) (show w.heap.size < w1.heap.size by omega)).trans (HA1.out o))
  have HB2 := hide (bstep HB1.out hb2)
  have hz2 := hb2.size
  clear hb2 hlm x2
  have HX2 := hide (HX.out.below HB2.out)
  have q2 := one_row (cb := cb) HX2.out
  have hbv2 : Below w2.heap.size w2 (w2.alloc (.cells #[.slice sb xs.length cb] 41)) := (Below.refl _ _).alloc (Nat.le_refl _) _
  have Q2 := hide (lent_c (some ⟨w2.heap.size, 0, none⟩) 1 [xs] _ q2 (by simp) (fun i hi => by
    have : i = 0 := by simpa using hi
    subst this
    simp [bidAt]; omega))
  have HBV2 := hide hbv2
  clear q2 hbv2
  gi_wp2_with fail
  refine (callsIn_wide.2 Q2.out).mono ?_
  rintro e w3 ⟨⟨M3, cM3, rfl, hlm3⟩, hb3⟩
  have hb23 : Below w2.heap.size w2 w3 := bstep HBV2.out hb3
  have hz3 := hb23.size
  have HM3 := hide (HM2.out.below hb23)
  have HN3 := hide hlm3
  have HA3 := hide (fun o => (hb23.cell (p := ⟨w.heap.size, o, none⟩) (show w.heap.size < w2.heap.size by omega)).trans (HA2.out o))
  have HB3 := hide (bstep HB2.out hb23)
  clear hb3 hb23 hlm3 Q2 HBV2
  obtain ⟨g0, c0, hm0, hc0, hcs0, -⟩ := HN3.out.at (i := 0) (by simp)
  have hr0 : IRow (some ⟨g0, 0, none⟩) xs w3 := ⟨fun _ => ⟨g0, 0, rfl, fun k hk => by rw [Nat.zero_add]; exact hcs0 k hk⟩⟩
  have HR0 := hide hr0
  have hm0' : w3.cell? ⟨M3, 0, none⟩ = some (.slice (some ⟨g0, 0, none⟩) xs.length c0) := hm0
  have hM3z := cell_lt hm0'
  obtain ⟨A, B, V, hY, hZ⟩ := better_both count floor who L xs hL40
  have HY := hide hY
  have HZ := hide hZ
  clear hY hZ hm0 hc0 hcs0 hr0
  have A25 := hide (show ∀ m : Aft w3, Calls Try.prog 25 #[.int .i64 count, .int .i64 floor, .slice (some ⟨M, 0, none⟩) L.length cM, .int .i64 who, .slice (some ⟨g0, 0, none⟩) xs.length c0] m.w fun e w' => e = .returned (.tuple #[.int .i64 A, .int .i64 B, .int .i64 V]) ∧ Below m.w.heap.size m.w w' from fun m => HY.out _ cM _ c0 _ (HM3.out.below m.le).brows (HR0.out.below m.le) (HM3.out.below m.le).caps)
  have a0 : ∀ m : Aft w3, m.w.cell? ⟨w.heap.size, 0, none⟩ = some (.int .i64 count) := fun m => (m.le.cell (p := ⟨w.heap.size, 0, none⟩) (show w.heap.size < w3.heap.size by omega)).trans (HA3.out 0)
  have a1 : ∀ m : Aft w3, m.w.cell? ⟨w.heap.size, 1, none⟩ = some (.int .i64 floor) := fun m => (m.le.cell (p := ⟨w.heap.size, 1, none⟩) (show w.heap.size < w3.heap.size by omega)).trans (HA3.out 1)
  have a2 : ∀ m : Aft w3, m.w.cell? ⟨M3, 0, none⟩ = some (.slice (some ⟨g0, 0, none⟩) xs.length c0) := fun m => (m.le.cell (p := ⟨M3, 0, none⟩) hM3z).trans hm0'
  clear hm0'
  simp only [List.length_cons, List.length_nil, Nat.zero_add]
  gi_wp2_with fail
  refine wpIn_region_after_tail 16 (by kernel_rfl) (by kernel_rfl) (by kernel_rfl) ?_
  simp only [List.take_succ_cons, List.take_zero, List.drop_succ_cons, List.drop_zero]
  repeat (gi_big_quiet_step ((first | (gi_at_call 25; exact aft_call (callsIn_wide.2 (A25.out _))))))
  refine wpQuietIn_nil ?_
  intro _ hw'
  obtain ⟨m, hw''⟩ := hw'
  subst hw''
  obtain ⟨w4, hb4⟩ := m
  dsimp only
  have hz4 := hb4.size
  have HA4 := hide (fun o => (hb4.cell (p := ⟨w.heap.size, o, none⟩) (show w.heap.size < w3.heap.size by omega)).trans (HA3.out o))
  have HM4 := hide (HM3.out.below hb4)
  have HN4 := hide (HN3.out.below hb4)
  have HB4 := hide (bstep HB3.out hb4)
  clear hb4 a0 a1 a2 A25 HR0
  have x0 : w4.cell? ⟨w.heap.size, 0, none⟩ = some (.int .i64 count) := HA4.out 0
  have x1 : w4.cell? ⟨w.heap.size, 1, none⟩ = some (.int .i64 floor) := HA4.out 1
  have x2 : w4.cell? ⟨w.heap.size, 2, none⟩ = some (.slice so L.length cap) := HA4.out 2
  gi_wp2_with fail
  refine (callsIn_wide.2 (HZ.out so cap sb cb _ (HB.out.below HB4.out) (HX.out.below HB4.out))).mono ?_
  rintro e w5 ⟨rfl, hb5⟩
  have hz5 := hb5.size
  have HA5 := hide (fun o => (hb5.cell (p := ⟨w.heap.size, o, none⟩) (show w.heap.size < w4.heap.size by omega)).trans (HA4.out o))
  have HM5 := hide (HM4.out.below hb5)
  have HN5 := hide (HN4.out.below hb5)
  have HB5 := hide (bstep HB4.out hb5)
  clear hb5 x0 x1 x2
  have x2 : w5.cell? ⟨w.heap.size, 2, none⟩ = some (.slice so L.length cap) := HA5.out 2
  have d1 : decide (A = A) = true := by simp
  have d2 : (A == A) = true := by simp
  have d3 : decide (B = B) = true := by simp
  have d4 : (B == B) = true := by simp
  have d5 : decide (V = V) = true := by simp
  have d6 : (V == V) = true := by simp
  gi_wp2_with fail
  refine (callsIn_wide.2 (kept_c so cap L _ M cM _ (HB.out.below HB5.out) HM5.out hL40 (fun i hi => by have := HLB.out i; omega))).mono ?_
  rintro e w6 ⟨rfl, hb6⟩
  have HN6 := hide (HN5.out.below hb6)
  have HB6 := hide (bstep HB5.out hb6)
  clear hb6 x2 d1 d2 d3 d4 d5 d6
  have HX6 := hide (HX.out.below HB6.out)
  have q6 := one_row (cb := cb) HX6.out
  have hbv6 : Below w6.heap.size w6 (w6.alloc (.cells #[.slice sb xs.length cb] 41)) := (Below.refl _ _).alloc (Nat.le_refl _) _
  have Q6 := hide (kept_c (some ⟨w6.heap.size, 0, none⟩) 1 [xs] _ M3 cM3 _ q6 (HN6.out.below hbv6) (by simp) (fun i hi => by
    have : i = 0 := by simpa using hi
    subst this
    simp [bidAt]; omega))
  have HB66 := hide (bstep HB6.out hbv6)
  clear q6 hbv6
  gi_wp2_with fail
  refine (callsIn_wide.2 Q6.out).mono ?_
  rintro e w7 ⟨rfl, hb7⟩
  have HB7 := hide (bstep HB66.out hb7)
  clear hb7 Q6
  gi_wp2_with fail
  refine (callsIn_wide.2 (known_c _)).mono ?_
  rintro e w8 ⟨rfl, hb8⟩
  have HB8 := hide (bstep HB7.out hb8)
  clear hb8
  gi_wp2
  refine bodyPost_ret (v := .bool true) (by simp [results, Try.f7, go_sem]) rfl ⟨rfl, HB8.out⟩
theorem UnitsBetter_c (count floor who : Int) (so : Option Addr) (cap : Nat) (L : List (List Int)) (sb : Option Addr) (cb : Nat) (xs : List Int) (w : World) (hb : BRows so L w) (hx : IRow sb xs w) : Calls Try.prog 7 #[.agg #[.int .i64 count, .int .i64 floor, .slice so L.length cap], .int .i64 who, .slice sb xs.length cb] w fun e w' => e = .returned (.bool true) ∧ Below w.heap.size w w' := by
  rcases long_one L with h | h
  · exact UBetter_long count floor who so cap L sb cb xs w hb hx h
  · rcases Nat.lt_or_ge 100 xs.length with h2 | h2
    · exact UBetter_wide count floor who so cap L sb cb xs w hb hx h h2
    · exact UBetter_main count floor who so cap L sb cb xs w hb hx h h2
end Go.Proofs.Ytehpjipmlpaflaa.un
