import Derived.Test.YtimabgakemgldaaT45
import Derived.Laws.LoneSync
import Derived.WalkKit
import Derived.StillTailTactics
import Derived.Deep.RegionLaw
import Derived.Deep.RegionHeld3
import Derived.Laws.OwnMore
import Derived.Deep.Matrix
import Derived.BigQuiet
import Derived.Deep.QuietTactic
import Derived.Laws.EntriesVeiled
namespace Go.Proofs.Ytimabgakemgldaa
open Go.ChangeShapes Go.WideShapes Go.ChangeAt Go.RowKit Go.Deep
set_option linter.unusedSimpArgs false
set_option linter.unusedVariables false

def kOps : Ops := [[(5, 0)], [(5, 0)]]
def kPs : List Int := [0, 1, 1, 0]
theorem kWalk : walkA (ab0 kOps.length 0 1 1) kOps kPs kPs.length = (⟨[0, 0], 0, none, 0, 1, 1, 1⟩, [⟨[(0, false, 3)], .no⟩, ⟨[(0, true, 2)], .no⟩]) := by rfl
/-- what Walk has answered -/
structure KR (W : World) (ob d0 e0 d1 e1 tb : Nat) : Prop where
  o0 : W.cell? ⟨ob, 0, none⟩ = some (.slice (some ⟨d0, 0, none⟩) 1 e0)
  o1 : W.cell? ⟨ob, 1, none⟩ = some (.slice (some ⟨d1, 0, none⟩) 1 e1)
  y0 : W.cell? ⟨d0, 1, none⟩ = some (.bool false)
  a0 : W.cell? ⟨d0, 2, none⟩ = some (.int .i64 3)
  y1 : W.cell? ⟨d1, 1, none⟩ = some (.bool true)
  t : W.cell? ⟨tb, 7, none⟩ = some (.int .i64 1)
theorem KR.stays {W W' : World} {ob d0 e0 d1 e1 tb B : Nat} (h : KR W ob d0 e0 d1 e1 tb) (hs : ∀ b, B ≤ b → b < W.heap.size → W'.heap[b]? = W.heap[b]?) (h1 : B ≤ ob ∧ B ≤ d0 ∧ B ≤ d1 ∧ B ≤ tb) : KR W' ob d0 e0 d1 e1 tb := by
  have s1 := hs ob h1.1 (World.block_lt_of_cell? W _ h.o0)
  have s2 := hs d0 h1.2.1 (World.block_lt_of_cell? W _ h.y0)
  have s3 := hs d1 h1.2.2.1 (World.block_lt_of_cell? W _ h.y1)
  have s4 := hs tb h1.2.2.2 (World.block_lt_of_cell? W _ h.t)
  exact ⟨cell_stay h.o0 s1, cell_stay h.o1 s1, cell_stay h.y0 s2, cell_stay h.a0 s2, cell_stay h.y1 s3, cell_stay h.t s4⟩
/-- the same, ahead of the end's box -/
structure KQ (W : World) (ob d0 e0 d1 e1 : Nat) : Prop where
  o0 : W.cell? ⟨ob, 0, none⟩ = some (.slice (some ⟨d0, 0, none⟩) 1 e0)
  o1 : W.cell? ⟨ob, 1, none⟩ = some (.slice (some ⟨d1, 0, none⟩) 1 e1)
  y0 : W.cell? ⟨d0, 1, none⟩ = some (.bool false)
  a0 : W.cell? ⟨d0, 2, none⟩ = some (.int .i64 3)
  y1 : W.cell? ⟨d1, 1, none⟩ = some (.bool true)
def kEnd : Value := .agg #[.int .i64 0, .int .i64 0, .int .i64 0, .int .i64 0, .bool false, .int .i64 0, .bool false, .int .i64 1]
theorem sum00 : sumI [0, 0] = 0 := by
  show wrap64 (wrap64 (0 + 0) + 0) = 0
  rw [IntWalk.wrap64_in (0 + 0) (by decide)]
  exact IntWalk.wrap64_in _ (by decide)
theorem sum05 : sumI [0, 5] = 5 := by
  show wrap64 (wrap64 (0 + 0) + 5) = 5
  rw [IntWalk.wrap64_in (0 + 0) (by decide)]
  exact IntWalk.wrap64_in _ (by decide)
theorem kEnd_eq : endV ⟨[0, 0], 0, none, 0, 1, 1, 1⟩ = kEnd := by
  unfold endV; rw [show (⟨[0, 0], 0, none, 0, 1, 1, 1⟩ : Ab).S = [0, 0] from rfl, sum00]; rfl
theorem kWalk_c (B : Nat) (W : World) (h0 : ∀ i, i < 2 → W.cell? ⟨B + 2, i, none⟩ = some (.slice (some ⟨B + i, 0, none⟩) 1 1)) (h1 : ∀ i, i < 2 → W.cell? ⟨B + i, 0, none⟩ = some (.int .i64 5) ∧ W.cell? ⟨B + i, 1, none⟩ = some (.int .i64 0)) (h2 : ∀ k, k < 4 → W.cell? ⟨B + 3, k, none⟩ = some (.int .i64 (kPs.getD k 0))) :
    Calls Try.prog 22 #[.agg #[.int .i64 0, .int .i64 1, .int .i64 1], .slice (some ⟨B + 2, 0, none⟩) 2 2, .slice (some ⟨B + 3, 0, none⟩) 4 4] W fun e w' => ∃ ob oc d0 e0 d1 e1, e = .returned (.tuple #[.slice (some ⟨ob, 0, none⟩) 2 oc, .agg #[.int .i64 0, .int .i64 0, .int .i64 0, .int .i64 0, .bool false, .int .i64 0, .bool false, .int .i64 1], .int .i64 0]) ∧ KQ w' ob d0 e0 d1 e1 ∧ (W.heap.size ≤ ob ∧ W.heap.size ≤ d0 ∧ W.heap.size ≤ d1) ∧ Below W.heap.size W w' := by
  have q : ∀ i j, i < kOps.length → j < (kOps.getD i []).length → j = 0 ∧ opAt kOps i j = (5, 0) ∧ i < 2 := fun i j hi hj => by
    have hi2 : i < 2 := hi
    obtain rfl | rfl : i = 0 ∨ i = 1 := by omega
    all_goals
      have hj2 : j < 1 := hj
      obtain rfl : j = 0 := by omega
      exact ⟨rfl, rfl, by decide⟩
  have hO : OpsIn W (B + 2) 0 kOps (fun i => some ⟨B + i, 0, none⟩) (fun _ => 1) (fun i => B + i) (fun _ => 0) := by
    refine ⟨fun i hi => ?_, fun i _ _ => rfl, fun i j hi hj => ?_, fun i j hi hj => ?_, fun i j hi hj => ?_, fun i hi => ?_⟩
    · have hi2 : i < 2 := hi
      have c := h0 i hi2
      rw [Nat.zero_add]
      obtain rfl | rfl : i = 0 ∨ i = 1 := by omega
      · exact c
      · exact c
    · obtain ⟨rfl, e, hi2⟩ := q i j hi hj
      rw [e]; exact (h1 i hi2).1
    · obtain ⟨rfl, e, hi2⟩ := q i j hi hj
      rw [e]; exact (h1 i hi2).2
    · obtain ⟨rfl, e, hi2⟩ := q i j hi hj
      rw [e]; rfl
    · have hi2 : i < 2 := hi
      obtain rfl | rfl : i = 0 ∨ i = 1 := by omega
      · show 1 ≤ _; omega
      · show 1 ≤ _; omega
  have hP : PicksIn W (some ⟨B + 3, 0, none⟩) kPs := ⟨fun k hk => ⟨_, _, rfl, by rw [Nat.zero_add]; exact h2 k hk⟩, by show 4 ≤ _; omega⟩
  refine (Walk_ok 0 1 1 (B + 2) 0 2 4 (some ⟨B + 3, 0, none⟩) kOps kPs _ _ _ _ W hO hP (by decide) (by decide) (by decide) (by decide) (by decide)).mono ?_
  rintro e w' ⟨v, dv, he, ho, hb⟩
  rw [kWalk] at he ho
  rw [kEnd_eq] at he
  obtain ⟨ob, oc, rfl, l1, -⟩ := ho.o.form (by decide)
  have r0 := ho.d 0 (by decide)
  have r1 := ho.d 1 (by decide)
  have c0 := ho.o.cellAt 0 (by decide)
  have c1 := ho.o.cellAt 1 (by decide)
  obtain ⟨d0, e0, hd0, l2, -⟩ := r0.form (by decide)
  obtain ⟨d1, e1, hd1, l3, -⟩ := r1.form (by decide)
  rw [hd0] at r0
  rw [hd1] at r1
  have x1 := r0.cellAt 1 (by decide)
  have x2 := r0.cellAt 2 (by decide)
  have x3 := r1.cellAt 1 (by decide)
  exact ⟨ob, oc, d0, e0, d1, e1, he, ⟨c0.trans (congrArg some hd0), c1.trans (congrArg some hd1), x1, x2, x3⟩, ⟨l1, l2, l3⟩, hb⟩
def Fr2 (w : World) (a b : Nat) (w' : World) : Prop := a ≠ b ∧ w.heap.size ≤ a ∧ w.heap.size ≤ b ∧ a < w'.heap.size ∧ b < w'.heap.size ∧ Below w.heap.size w w'
theorem NewCount_f (n : Nat) (w : World) (h : 1 ≤ n) (h2 : n ≤ 64) : Calls Try.prog 7 #[.int .i64 (n : Int)] w fun e w' => ∃ c cs, e = .returned (.tuple #[.pointer (some ⟨c, 0, none⟩), .int .i64 0]) ∧ CntIs w' c cs (List.replicate n 0) ∧ Fr2 w c cs w' :=
  (NewCount_ok n w h h2).mono fun e w' ⟨c, cs, he, h, hn, h1, h2, hb⟩ => ⟨c, cs, he, h, hn, h1, h2, World.block_lt_of_cell? w' _ h.c, (h.r.lt cs rfl).2, hb⟩
theorem NewMark_f (x : Int) (w : World) : Calls Try.prog 13 #[.int .i64 x] w fun e w' => ∃ m mc, e = .returned (.pointer (some ⟨m, 0, none⟩)) ∧ MarkIs w' m mc x ∧ Fr2 w m mc w' :=
  (NewMark_c x w).mono fun e w' ⟨he, h, hb⟩ => ⟨_, _, he, h, by omega, by omega, by omega, World.block_lt_of_cell? w' _ h.c, World.block_lt_of_cell? w' _ h.v, hb⟩
theorem NewBest_f (w : World) : Calls Try.prog 14 #[] w fun e w' => ∃ m mc, e = .returned (.pointer (some ⟨m, 0, none⟩)) ∧ BestIs w' m mc none none ∧ Fr2 w m mc w' :=
  (NewBest_c w).mono fun e w' ⟨he, h, hb⟩ => ⟨_, _, he, h, by omega, by omega, by omega, World.block_lt_of_cell? w' _ h.c, World.block_lt_of_cell? w' _ h.v, hb⟩
theorem NewGate_f (n : Int) (w : World) (h : 1 ≤ n) : Calls Try.prog 8 #[.int .i64 n] w fun e w' => ∃ g, e = .returned (.tuple #[.pointer (some ⟨g, 0, none⟩), .int .i64 0]) ∧ GateIs w' g n 0 ∧ w.heap.size ≤ g ∧ g < w'.heap.size ∧ Below w.heap.size w w' :=
  (NewGate_ok n w h).mono fun e w' ⟨he, h, hb⟩ => ⟨_, he, h, Nat.le_refl _, World.block_lt_of_cell? w' _ h.n, hb⟩
theorem NewTickets_f (n : Int) (w : World) (h : 0 ≤ n) : Calls Try.prog 9 #[.int .i64 n] w fun e w' => ∃ m mc, e = .returned (.tuple #[.pointer (some ⟨m, 0, none⟩), .int .i64 0]) ∧ TickIs w' m mc n 0 ∧ Fr2 w m mc w' :=
  (NewTickets_ok n w h).mono fun e w' ⟨he, h, hb⟩ => ⟨_, _, he, h, by omega, by omega, by omega, World.block_lt_of_cell? w' _ h.m, World.block_lt_of_cell? w' _ h.v, hb⟩

set_option maxRecDepth 100000 in
set_option maxHeartbeats 8000000 in
theorem known_c (w : World) : Calls Try.prog 12 #[] w fun e w' => e = .returned (.bool true) ∧ Below w.heap.size w w' := by
  have C7 := hide (fun W => NewCount_f 2 W (by decide) (by decide))
  go_enter Try.func12, Try.ntmps12
  go_wp2_with (go_at_call 10; (apply Calls.mono; focus (exact num_c _ _)); rintro e w' ⟨rfl, rfl⟩)
  refine (C7.out _).mono ?_
  rintro e w1 ⟨c, cs, rfl, h1, f1⟩
  have H1 := hide h1
  have F1 := hide f1
  clear h1 f1 C7
  go_wp2_with (go_at_call 10; (apply Calls.mono; focus (exact num_c _ _)); rintro e w' ⟨rfl, rfl⟩)
  refine (NewMark_f 4 w1).mono ?_
  rintro e w2 ⟨m, mc, rfl, h2, f2⟩
  have H2 := hide h2
  have F2 := hide f2
  clear h2 f2
  go_wp2_with (go_at_call 10; (apply Calls.mono; focus (exact num_c _ _)); rintro e w' ⟨rfl, rfl⟩)
  refine (NewBest_f w2).mono ?_
  rintro e w3 ⟨b, bc, rfl, h3, f3⟩
  have H3 := hide h3
  have F3 := hide f3
  clear h3 f3
  go_wp2_with (go_at_call 10; (apply Calls.mono; focus (exact num_c _ _)); rintro e w' ⟨rfl, rfl⟩)
  refine (NewGate_f 2 w3 (by decide)).mono ?_
  rintro e w4 ⟨g, rfl, h4, f4⟩
  have H4 := hide h4
  have F4 := hide f4
  clear h4 f4
  go_wp2_with (go_at_call 10; (apply Calls.mono; focus (exact num_c _ _)); rintro e w' ⟨rfl, rfl⟩)
  refine (NewTickets_f 1 w4 (by decide)).mono ?_
  rintro e w5 ⟨t, tn, rfl, h5, f5⟩
  have H5 := hide h5
  have F5 := hide f5
  clear h5 f5
  obtain ⟨L, rfl, rfl, rfl, rfl, rfl, hK⟩ : ∃ L : Nat → Nat, L 0 = m ∧ L 2 = b ∧ L 4 = c ∧ L 6 = g ∧ L 7 = t ∧ KO w w5 L ⟨[0, 0], 4, none, 0, 2, 0, 1⟩ := by
    obtain ⟨n1, l1, m1, k1, j1, b1⟩ := F1.out
    obtain ⟨n2, l2, m2, k2, j2, b2⟩ := F2.out
    obtain ⟨n3, l3, m3, k3, j3, b3⟩ := F3.out
    obtain ⟨l4, k4, b4⟩ := F4.out
    obtain ⟨n5, l5, m5, k5, j5, b5⟩ := F5.out
    have z1 := b1.size
    have z2 := b2.size
    have z3 := b3.size
    have z4 := b4.size
    have z5 := b5.size
    refine KO.made (w0 := w) (w := w5) (mc := mc) (bc := bc) (cs := cs) (tn := tn) ((((H2.out.below b3).below b4).below b5)) ((H3.out.below b4).below b5) ((((H1.out.below b2).below b3).below b4).below b5) (H4.out.below b5) H5.out ?_ (b1.trans ((b2.mono z1).trans ((b3.mono (by omega)).trans ((b4.mono (by omega)).trans (b5.mono (by omega)))))) ⟨by omega, by omega, by omega, by omega, by omega, by omega, by omega, by omega, by omega⟩
    simp only [List.nodup_cons, List.mem_cons, List.not_mem_nil, or_false, not_or, not_false_iff, List.nodup_nil, and_true]
    omega
  have K5 := hide hK
  clear hK H1 H2 H3 H4 H5 F1 F2 F3 F4 F5
  have C15 := hide (show Calls Try.prog 15 #[.pointer (some ⟨L 4, 0, none⟩), .int .i64 1, .int .i64 5] w5 fun e w' => e = .returned (.tuple #[.int .i64 5, .int .i64 0]) ∧ KO w w' L ⟨[0, 5], 4, none, 0, 2, 0, 1⟩ from by
    have q := K5.out.add 1 (by decide) 5
    rw [show wrap64 ((⟨[0, 0], 4, none, 0, 2, 0, 1⟩ : Ab).S.getD 1 0 + 5) = 5 from IntWalk.wrap64_in _ (by decide)] at q
    exact q)
  go_wp2_with (go_at_call 10; (apply Calls.mono; focus (exact num_c _ _)); rintro e w' ⟨rfl, rfl⟩)
  refine (C15.out).mono ?_
  rintro e w6 ⟨rfl, hK⟩
  have K6 := hide hK
  clear hK C15 K5
  have C15 := hide (show Calls Try.prog 15 #[.pointer (some ⟨L 4, 0, none⟩), .int .i64 2, .int .i64 1] w6 fun e w' => e = .returned (.tuple #[.int .i64 0, .int .i64 2]) ∧ w6 = w' from K6.out.addBad (by decide) 2 1 (.inr (by decide)))
  go_wp2_with (go_at_call 10; (apply Calls.mono; focus (exact num_c _ _)); rintro e w' ⟨rfl, rfl⟩)
  refine (C15.out).mono ?_
  rintro e w' ⟨rfl, rfl⟩
  clear C15
  have C28 := hide (show Calls Try.prog 28 #[.pointer (some ⟨L 0, 0, none⟩), .int .i64 9] w6 fun e w' => e = .returned (.tuple #[.int .i64 4, .bool true]) ∧ KO w w' L ⟨[0, 5], 9, none, 0, 2, 0, 1⟩ from K6.out.raise 9)
  go_wp2_with (go_at_call 10; (apply Calls.mono; focus (exact num_c _ _)); rintro e w' ⟨rfl, rfl⟩)
  refine (C28.out).mono ?_
  rintro e w7 ⟨rfl, hK⟩
  have K7 := hide hK
  clear hK C28 K6
  have C29 := hide (show Calls Try.prog 29 #[.pointer (some ⟨L 6, 0, none⟩)] w7 fun e w' => e = .returned (.tuple #[.int .i64 0, .bool false]) ∧ KO w w' L ⟨[0, 5], 9, none, 1, 2, 0, 1⟩ from K7.out.arrive (by decide) (by decide) (by decide))
  go_wp2_with (go_at_call 10; (apply Calls.mono; focus (exact num_c _ _)); rintro e w' ⟨rfl, rfl⟩)
  refine (C29.out).mono ?_
  rintro e w8 ⟨rfl, hK⟩
  have K8 := hide hK
  clear hK C29 K7
  have C30 := hide (show Calls Try.prog 30 #[.pointer (some ⟨L 7, 0, none⟩)] w8 fun e w' => e = .returned (.tuple #[.int .i64 0, .bool true]) ∧ KO w w' L ⟨[0, 5], 9, none, 1, 2, 1, 1⟩ from K8.out.take (by decide))
  go_wp2_with (go_at_call 10; (apply Calls.mono; focus (exact num_c _ _)); rintro e w' ⟨rfl, rfl⟩)
  refine (C30.out).mono ?_
  rintro e w9 ⟨rfl, hK⟩
  have K9 := hide hK
  clear hK C30 K8
  have C30 := hide (show Calls Try.prog 30 #[.pointer (some ⟨L 7, 0, none⟩)] w9 fun e w' => e = .returned (.tuple #[.int .i64 0, .bool false]) ∧ KO w w' L ⟨[0, 5], 9, none, 1, 2, 1, 1⟩ from K9.out.take (by decide))
  go_wp2_with (go_at_call 10; (apply Calls.mono; focus (exact num_c _ _)); rintro e w' ⟨rfl, rfl⟩)
  refine (C30.out).mono ?_
  rintro e wa ⟨rfl, hK⟩
  have KA := hide hK
  clear hK C30 K9
  go_wp2_with (go_at_call 10; (apply Calls.mono; focus (exact num_c _ _)); rintro e w' ⟨rfl, rfl⟩)
  refine (kWalk_c wa.heap.size _ (fun i hi => by obtain rfl | rfl : i = 0 ∨ i = 1 := by omega
                                                 all_goals simp [go_sem]) (fun i hi => by obtain rfl | rfl : i = 0 ∨ i = 1 := by omega
                                                                                          all_goals simp [go_sem]) (fun k hk => by
    obtain rfl | rfl | rfl | rfl : k = 0 ∨ k = 1 ∨ k = 2 ∨ k = 3 := by omega
    all_goals simp [go_sem, kPs])).mono ?_
  rintro e wb ⟨ob, oc, d0, e0, d1, e1, rfl, hq, hl, hb⟩
  have za : wa.heap.size ≤ ob ∧ wa.heap.size ≤ d0 ∧ wa.heap.size ≤ d1 := by simp at hl; omega
  have hba : Below wa.heap.size wa wb := Below.trans (by (focus repeat' (first | (with_reducible exact Below.refl _ _) | (with_reducible assumption) | (with_reducible refine Below.alloc ?_ ?_ _) | (with_reducible refine Below.drew ?_) | (with_reducible refine bdrewN ?_ _) | (with_reducible refine Below.setCell ?_ ?_ _) | (first | (with_reducible exact Nat.le_refl _) | (with_reducible assumption) | omega | (simp; omega) | (simp; done))))) (hb.mono (by simp; omega))
  have KB := hide (KA.out.later hba)
  have QB := hide hq
  have ZA := hide za
  have LA := hide (show ∀ i, i < 9 → L i < wa.heap.size from fun i hi => by obtain ⟨po, h⟩ := KA.out.c; exact h.lt i hi)
  have ZB := hide hba.size
  have C31 := hide (show ∀ X : World, Below wb.heap.size wb X → Calls Try.prog 31 #[.pointer (some ⟨L 4, 0, none⟩)] X fun e w' => e = .returned (.int .i64 5) ∧ KO w w' L ⟨[0, 5], 9, none, 1, 2, 1, 1⟩ ∧ Below X.heap.size X w' from fun X hX => by
    have q := (KB.out.later hX).sum (by decide)
    rw [show (⟨[0, 5], 9, none, 1, 2, 1, 1⟩ : Ab).S = [0, 5] from rfl, sum05] at q
    exact q)
  clear hq hl hb za hba KA
  go_wp2_with (go_at_call 10; (apply Calls.mono; focus (exact num_c _ _)); rintro e w' ⟨rfl, rfl⟩)
  have TB := hide (show wa.heap.size ≤ ob ∧ wa.heap.size ≤ d0 ∧ wa.heap.size ≤ d1 ∧ wa.heap.size ≤ wb.heap.size from ⟨ZA.out.1, ZA.out.2.1, ZA.out.2.2, ZB.out⟩)
  have RX := hide (show KR (wb.alloc (.cells #[.int .i64 0, .int .i64 0, .int .i64 0, .int .i64 0, .bool false, .int .i64 0, .bool false, .int .i64 1] 63)) ob d0 e0 d1 e1 wb.heap.size from
    ⟨c_al QB.out.o0 _, c_al QB.out.o1 _, c_al QB.out.y0 _, c_al QB.out.a0 _, c_al QB.out.y1 _, by simp [go_sem]⟩)
  refine (C31.out _ ((Below.refl _ _).alloc (Nat.le_refl _) _)).mono ?_
  rintro e wc ⟨rfl, hK, hb⟩
  have KC := hide hK
  have RC := hide (RX.out.stays (B := wa.heap.size) (fun b _ hl => hb.block b hl) TB.out)
  clear hK hb C31 RX QB KB
  have C32 := hide (show Calls Try.prog 32 #[.pointer (some ⟨L 2, 0, none⟩), .int .i64 2, .int .i64 5] wc fun e w' => e = .returned (.bool true) ∧ KO w w' L ⟨[0, 5], 9, some (2, 5), 1, 2, 1, 1⟩ ∧ Tch (CW L) wc w' from KC.out.offer 2 5)
  go_wp2_with (go_at_call 10; (apply Calls.mono; focus (exact num_c _ _)); rintro e w' ⟨rfl, rfl⟩)
  refine C32.out.mono ?_
  rintro e wd ⟨rfl, hK, ht⟩
  have KD := hide hK
  have RD := hide (RC.out.stays (B := wa.heap.size) (fun b hb hl => ht.heap b hl (fun e => by
    have q : ∀ j, j < 9 → b ≠ L j := fun j hj e2 => by have := LA.out j hj; omega
    rcases e with e | e | e | e | e
    · exact q 1 (by decide) e
    · exact q 3 (by decide) e
    · exact q 5 (by decide) e
    · exact q 6 (by decide) e
    · exact q 8 (by decide) e)) TB.out)
  clear hK ht C32 KC RC
  have C32 := hide (show Calls Try.prog 32 #[.pointer (some ⟨L 2, 0, none⟩), .int .i64 1, .int .i64 5] wd fun e w' => e = .returned (.bool true) ∧ KO w w' L ⟨[0, 5], 9, some (1, 5), 1, 2, 1, 1⟩ ∧ Tch (CW L) wd w' from KD.out.offer 1 5)
  go_wp2_with (go_at_call 10; (apply Calls.mono; focus (exact num_c _ _)); rintro e w' ⟨rfl, rfl⟩)
  refine C32.out.mono ?_
  rintro e we ⟨rfl, hK, ht⟩
  have KE := hide hK
  have RE := hide (RD.out.stays (B := wa.heap.size) (fun b hb hl => ht.heap b hl (fun e => by
    have q : ∀ j, j < 9 → b ≠ L j := fun j hj e2 => by have := LA.out j hj; omega
    rcases e with e | e | e | e | e
    · exact q 1 (by decide) e
    · exact q 3 (by decide) e
    · exact q 5 (by decide) e
    · exact q 6 (by decide) e
    · exact q 8 (by decide) e)) TB.out)
  clear hK ht C32 KD RD
  have C32 := hide (show Calls Try.prog 32 #[.pointer (some ⟨L 2, 0, none⟩), .int .i64 3, .int .i64 5] we fun e w' => e = .returned (.bool false) ∧ KO w w' L ⟨[0, 5], 9, some (1, 5), 1, 2, 1, 1⟩ ∧ Tch (CW L) we w' from KE.out.offer 3 5)
  go_wp2_with (go_at_call 10; (apply Calls.mono; focus (exact num_c _ _)); rintro e w' ⟨rfl, rfl⟩)
  refine C32.out.mono ?_
  rintro e wf ⟨rfl, hK, ht⟩
  have KF := hide hK
  have RF := hide (RE.out.stays (B := wa.heap.size) (fun b hb hl => ht.heap b hl (fun e => by
    have q : ∀ j, j < 9 → b ≠ L j := fun j hj e2 => by have := LA.out j hj; omega
    rcases e with e | e | e | e | e
    · exact q 1 (by decide) e
    · exact q 3 (by decide) e
    · exact q 5 (by decide) e
    · exact q 6 (by decide) e
    · exact q 8 (by decide) e)) TB.out)
  clear hK ht C32 KE RE
  obtain ⟨o0, o1, y0, a0, y1, tt⟩ := RF.out
  go_wp2_with (go_at_call 10; (apply Calls.mono; focus (exact num_c _ _)); rintro e w' ⟨rfl, rfl⟩)
  go_ret
  exact ⟨rfl, KF.out.b⟩
end Go.Proofs.Ytimabgakemgldaa
