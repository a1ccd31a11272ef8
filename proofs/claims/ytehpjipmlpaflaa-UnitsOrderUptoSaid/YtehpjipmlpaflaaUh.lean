import Derived.Test.YtehpjipmlpaflaaUg
namespace Go.Proofs.Ytehpjipmlpaflaa.un
open Go.ChangeShapes Go.WideShapes Go.ChangeAt Go.RowKit Go.Deep Go.Shelf
set_option linter.unusedSimpArgs false
set_option linter.unusedVariables false

attribute [local go_sem] Oper.semAt_some

theorem long_one (L : List (List Int)) : isLong L ∨ (L.length ≤ 40 ∧ ∀ i, i < L.length → (bidAt L i).length ≤ 100) := by
  by_cases h : isLong L
  · exact .inl h
  · refine .inr ⟨?_, fun i hi => ?_⟩
    · rcases Nat.lt_or_ge 40 L.length with q | q
      · exact absurd (.inl q) h
      · exact q
    · rcases Nat.lt_or_ge 100 (bidAt L i).length with q | q
      · exact absurd (.inr ⟨i, hi, q⟩) h
      · exact q
theorem short_all {L : List (List Int)} (h : ∀ i, i < L.length → (bidAt L i).length ≤ 100) (i : Nat) : (bidAt L i).length ≤ 100 := by
  rcases Nat.lt_or_ge i L.length with q | q
  · exact h i q
  · rw [bidAt_ge q]; simp
set_option maxHeartbeats 2000000 in
theorem UCheck_long (count floor price : Int) (so : Option Addr) (cap : Nat) (L : List (List Int)) (sb : Option Addr) (cb : Nat) (xs : List Int) (w : World) (hb : BRows so L w) (hx : IRow sb xs w) (hl : isLong L) : Calls Try.prog 5 #[.agg #[.int .i64 count, .int .i64 floor, .slice so L.length cap], .slice sb xs.length cb, .int .i64 price] w fun e w' => e = .returned (.bool true) ∧ Below w.heap.size w w' := by
  have HB := hide hb
  have HL := hide hl
  clear hb hl hx
  go_enter Try.func5, Try.ntmps5
  go_wp2_with fail
  refine (long_yes count floor so cap L _ (HB.out.below (by (focus repeat' (first | (with_reducible exact Below.refl _ _) | (with_reducible assumption) | (with_reducible refine Below.alloc ?_ ?_ _) | (with_reducible refine Below.drew ?_) | (with_reducible refine bdrewN ?_ _) | (with_reducible refine Below.setCell ?_ ?_ _) | (first | (with_reducible exact Nat.le_refl _) | (with_reducible assumption) | omega | (simp; omega) | (simp; done)))))) HL.out).mono ?_
  rintro e w5 ⟨rfl, hb5⟩
  have HB5 := hide (show Below w.heap.size w w5 from bstep (by (focus repeat' (first | (with_reducible exact Below.refl _ _) | (with_reducible assumption) | (with_reducible refine Below.alloc ?_ ?_ _) | (with_reducible refine Below.drew ?_) | (with_reducible refine bdrewN ?_ _) | (with_reducible refine Below.setCell ?_ ?_ _) | (first | (with_reducible exact Nat.le_refl _) | (with_reducible assumption) | omega | (simp; omega) | (simp; done))))) hb5)
  clear hb5
  go_wp2_with fail
  refine (known_c _).mono ?_
  rintro e w6 ⟨rfl, hb6⟩
  have HB6 := hide (bstep HB5.out hb6)
  clear hb6
  go_wp2
  refine bodyPost_ret (v := .bool true) (by simp [results, Try.f5, go_sem]) rfl ⟨rfl, HB6.out⟩
set_option maxHeartbeats 2000000 in
theorem UCheck_wide (count floor price : Int) (so : Option Addr) (cap : Nat) (L : List (List Int)) (sb : Option Addr) (cb : Nat) (xs : List Int) (w : World) (hb : BRows so L w) (hx : IRow sb xs w) (hl : L.length ≤ 40 ∧ ∀ i, i < L.length → (bidAt L i).length ≤ 100) (h2 : 100 < xs.length) : Calls Try.prog 5 #[.agg #[.int .i64 count, .int .i64 floor, .slice so L.length cap], .slice sb xs.length cb, .int .i64 price] w fun e w' => e = .returned (.bool true) ∧ Below w.heap.size w w' := by
  have HB := hide hb
  have HL := hide hl
  have h3 : (100 : Int) < (xs.length : Int) := by omega
  clear hb hl hx
  go_enter Try.func5, Try.ntmps5
  go_wp2_with fail
  refine (long_no count floor so cap L _ (HB.out.below (by (focus repeat' (first | (with_reducible exact Below.refl _ _) | (with_reducible assumption) | (with_reducible refine Below.alloc ?_ ?_ _) | (with_reducible refine Below.drew ?_) | (with_reducible refine bdrewN ?_ _) | (with_reducible refine Below.setCell ?_ ?_ _) | (first | (with_reducible exact Nat.le_refl _) | (with_reducible assumption) | omega | (simp; omega) | (simp; done)))))) HL.out).mono ?_
  rintro e w5 ⟨rfl, hb5⟩
  have HB5 := hide (show Below w.heap.size w w5 from bstep (by (focus repeat' (first | (with_reducible exact Below.refl _ _) | (with_reducible assumption) | (with_reducible refine Below.alloc ?_ ?_ _) | (with_reducible refine Below.drew ?_) | (with_reducible refine bdrewN ?_ _) | (with_reducible refine Below.setCell ?_ ?_ _) | (first | (with_reducible exact Nat.le_refl _) | (with_reducible assumption) | omega | (simp; omega) | (simp; done))))) hb5)
  clear hb5
  go_wp2_with fail
  refine (known_c _).mono ?_
  rintro e w6 ⟨rfl, hb6⟩
  have HB6 := hide (bstep HB5.out hb6)
  clear hb6
  go_wp2
  refine bodyPost_ret (v := .bool true) (by simp [results, Try.f5, go_sem]) rfl ⟨rfl, HB6.out⟩
set_option maxRecDepth 100000 in
set_option maxHeartbeats 4000000 in
theorem UCheck_main (count floor price : Int) (so : Option Addr) (cap : Nat) (L : List (List Int)) (sb : Option Addr) (cb : Nat) (xs : List Int) (w : World) (hb : BRows so L w) (hx : IRow sb xs w) (hl : L.length ≤ 40 ∧ ∀ i, i < L.length → (bidAt L i).length ≤ 100) (h2 : xs.length ≤ 100) : Calls Try.prog 5 #[.agg #[.int .i64 count, .int .i64 floor, .slice so L.length cap], .slice sb xs.length cb, .int .i64 price] w fun e w' => e = .returned (.bool true) ∧ Below w.heap.size w w' := by
  refine (callsIn_wide (n := 3)).1 ?_
  refine callsIn_of_wp Try.func5 rfl trivial ?_ rfl
  simp only [Try.ntmps5, List.size_toArray, List.length_cons, List.length_nil, Nat.reduceAdd, Nat.reduceSub, Array.replicate_succ, Array.replicate_zero, List.push_toArray, List.append_toArray, List.nil_append, List.cons_append]
  have HB := hide hb
  have HX := hide hx
  have HL := hide hl
  have h3 : (xs.length : Int) ≤ 100 := by omega
  have hL40 : L.length ≤ 4096 := by omega
  have HLB := hide (short_all hl.2)
  clear hb hl hx
  gi_wp2_with fail
  refine (callsIn_wide.2 (long_no count floor so cap L _ (HB.out.below (by (focus repeat' (first | (with_reducible exact Below.refl _ _) | (with_reducible assumption) | (with_reducible refine Below.alloc ?_ ?_ _) | (with_reducible refine Below.drew ?_) | (with_reducible refine bdrewN ?_ _) | (with_reducible refine Below.setCell ?_ ?_ _) | (first | (with_reducible exact Nat.le_refl _) | (with_reducible assumption) | omega | (simp; omega) | (simp; done)))))) HL.out)).mono ?_
  rintro e w5 ⟨rfl, hb5⟩
  have HC5 := hide (show ∀ o, w5.cell? ⟨w.heap.size, o, none⟩ = (#[Value.int .i64 count, .int .i64 floor, .slice so L.length cap] : Array Value)[o]? from fun o => (hb5.cell (p := ⟨w.heap.size, o, none⟩) (by simp)).trans (by simp [go_sem]))
  have HB5 := hide (show Below w.heap.size w w5 from bstep (by (focus repeat' (first | (with_reducible exact Below.refl _ _) | (with_reducible assumption) | (with_reducible refine Below.alloc ?_ ?_ _) | (with_reducible refine Below.drew ?_) | (with_reducible refine bdrewN ?_ _) | (with_reducible refine Below.setCell ?_ ?_ _) | (first | (with_reducible exact Nat.le_refl _) | (with_reducible assumption) | omega | (simp; omega) | (simp; done))))) hb5)
  have hz5 : w.heap.size + 1 ≤ w5.heap.size := by have := hb5.size; simp at this; omega
  clear hb5
  have c2 : w5.cell? ⟨w.heap.size, 2, none⟩ = some (.slice so L.length cap) := HC5.out 2
  gi_wp2_with fail
  refine (callsIn_wide.2 (lent_c so cap L _ (HB.out.below HB5.out) hL40 (fun i hi => by have := HLB.out i; omega))).mono ?_
  rintro e w6 ⟨⟨M, cM, rfl, hlm⟩, hb6⟩
  have HM6 := hide hlm
  have HC6 := hide (fun o => (hb6.cell (p := ⟨w.heap.size, o, none⟩) (show w.heap.size < w5.heap.size by omega)).trans (HC5.out o))
  have HB6 := hide (bstep HB5.out hb6)
  have hz6 := hb6.size
  clear hb6 hlm c2
  gi_wp2_with fail
  refine (callsIn_wide.2 (Wanted_c price (some ⟨M, 0, none⟩) cM L _ HM6.out.brows hL40 (fun b => by have := HLB.out b; omega))).mono ?_
  rintro e w7 ⟨rfl, hb7⟩
  have HM7 := hide (HM6.out.below hb7)
  have HC7 := hide (fun o => (hb7.cell (p := ⟨w.heap.size, o, none⟩) (show w.heap.size < w6.heap.size by omega)).trans (HC6.out o))
  have HB7 := hide (bstep HB6.out hb7)
  have hz7 := hb7.size
  clear hb7
  obtain ⟨r, hr⟩ := check_one count floor xs
  obtain ⟨nw, hnw⟩ : ∃ nw, nw = wantB price L L.length := ⟨_, rfl⟩
  rw [← hnw]
  have HR7 := hide (HB.out.below HB7.out)
  have HX7 := hide (HX.out.below HB7.out)
  have A17 := hide (show ∀ m : Aft w7, Calls Try.prog 17 #[.int .i64 count, .int .i64 floor, .slice sb xs.length cb] m.w fun e w' => e = .returned (.int .i64 r) ∧ Below m.w.heap.size m.w w' from fun m => (check_is count floor sb cb xs _ (HX7.out.below m.le) r hr).mono (fun e w' q => ⟨q.1, by rw [← q.2]; exact Below.refl _ _⟩))
  have A18 := hide (show ∀ m : Aft w7, Calls Try.prog 18 #[.int .i64 count, .int .i64 floor, .slice sb xs.length cb] m.w fun e w' => e = .returned (.int .i64 r) ∧ Below m.w.heap.size m.w w' from fun m => rcheck_is count floor sb cb xs _ (HX7.out.below m.le) r hr)
  have A24 := hide (show ∀ m : Aft w7, Calls Try.prog 24 #[.int .i64 price, .slice so L.length cap] m.w fun e w' => e = .returned (.int .i64 (nw : Int)) ∧ Below m.w.heap.size m.w w' from fun m => by rw [hnw]; exact rWanted_c price so cap L _ (HR7.out.below m.le) hL40 (fun b => by have := HLB.out b; omega))
  have A15 := hide (show ∀ m : Aft w7, Calls Try.prog 15 #[.slice (some ⟨M, 0, none⟩) L.length cM, .slice so L.length cap] m.w fun e w' => e = .returned (.bool true) ∧ Below m.w.heap.size m.w w' from fun m => kept_c so cap L _ M cM _ (HR7.out.below m.le) (HM7.out.below m.le) hL40 (fun i hi => by have := HLB.out i; omega))
  have a0 : ∀ m : Aft w7, m.w.cell? ⟨w.heap.size, 0, none⟩ = some (.int .i64 count) := fun m => (m.le.cell (p := ⟨w.heap.size, 0, none⟩) (show w.heap.size < w7.heap.size by omega)).trans (HC7.out 0)
  have a1 : ∀ m : Aft w7, m.w.cell? ⟨w.heap.size, 1, none⟩ = some (.int .i64 floor) := fun m => (m.le.cell (p := ⟨w.heap.size, 1, none⟩) (show w.heap.size < w7.heap.size by omega)).trans (HC7.out 1)
  have a2 : ∀ m : Aft w7, m.w.cell? ⟨w.heap.size, 2, none⟩ = some (.slice so L.length cap) := fun m => (m.le.cell (p := ⟨w.heap.size, 2, none⟩) (show w.heap.size < w7.heap.size by omega)).trans (HC7.out 2)
  have d1 : decide (r = r) = true := by simp
  have d2 : (r == r) = true := by simp
  have d3 : decide ((nw : Int) = (nw : Int)) = true := by simp
  have d4 : ((nw : Int) == (nw : Int)) = true := by simp
  clear hr hnw
  gi_wp2_with fail
  refine wpIn_region_after_tail 30 (by kernel_rfl) (by kernel_rfl) (by kernel_rfl) ?_
  simp only [List.take_succ_cons, List.take_zero, List.drop_succ_cons, List.drop_zero]
  repeat (gi_big_quiet_step ((first | (gi_at_call 17; exact aft_call (callsIn_wide.2 (A17.out _))) | (gi_at_call 18; exact aft_call (callsIn_wide.2 (A18.out _))) | (gi_at_call 24; exact aft_call (callsIn_wide.2 (A24.out _))) | (gi_at_call 15; exact aft_call (callsIn_wide.2 (A15.out _))) | (gi_at_call 10; exact aft_call (callsIn_wide.2 (known_c _))))))
  refine wpQuietIn_nil ?_
  intro _ hw'
  obtain ⟨m, hw''⟩ := hw'
  subst hw''
  gi_wp2
  refine bodyPost_ret (v := .bool true) (by simp [results, Try.f5, go_sem]) rfl ⟨rfl, HB7.out.trans (m.le.mono HB7.out.size)⟩
theorem UnitsCheck_c (count floor price : Int) (so : Option Addr) (cap : Nat) (L : List (List Int)) (sb : Option Addr) (cb : Nat) (xs : List Int) (w : World) (hb : BRows so L w) (hx : IRow sb xs w) : Calls Try.prog 5 #[.agg #[.int .i64 count, .int .i64 floor, .slice so L.length cap], .slice sb xs.length cb, .int .i64 price] w fun e w' => e = .returned (.bool true) ∧ Below w.heap.size w w' := by
  rcases long_one L with h | h
  · exact UCheck_long count floor price so cap L sb cb xs w hb hx h
  · rcases Nat.lt_or_ge 100 xs.length with h2 | h2
    · exact UCheck_wide count floor price so cap L sb cb xs w hb hx h h2
    · exact UCheck_main count floor price so cap L sb cb xs w hb hx h h2
end Go.Proofs.Ytehpjipmlpaflaa.un
