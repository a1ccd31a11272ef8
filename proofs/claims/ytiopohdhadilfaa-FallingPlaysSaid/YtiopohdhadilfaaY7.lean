import Derived.Test.YtiopohdhadilfaaY5
namespace Go.Proofs.Ytiopohdhadilfaa
open Go.ChangeShapes Go.WideShapes Go.ChangeAt Go.RowKit Go.Deep
set_option linter.unusedSimpArgs false
set_option linter.unusedVariables false

set_option maxRecDepth 100000 in
set_option maxHeartbeats 4000000 in
theorem Plays_empty (k op cl st sp ex la fl fa co ru : Int) (ao : Option Addr) (len cap : Nat) (w : World) (hn0 : len = 0) : Calls Try.prog 6 #[.agg #[.int .i64 k, .int .i64 op, .int .i64 cl, .int .i64 st, .int .i64 sp, .int .i64 ex, .int .i64 la, .int .i64 fl, .int .i64 fa, .int .i64 co, .int .i64 ru], .slice ao len cap] w fun e w' => e = .returned (.bool true) ∧ Below w.heap.size w w' := by
  have HN := hide hn0
  clear hn0
  go_enter Try.func6, Try.ntmps6
  go_wp2_with fail
  refine (New_abs k op cl st sp ex la fl fa co ru _).mono ?_
  rintro e w1 ⟨p0, rfl, hb1, hF1, hg1⟩
  have HB1 : Below w.heap.size w w1 := bstep (by (focus repeat' (first | (with_reducible exact Below.refl _ _) | (with_reducible assumption) | (with_reducible refine Below.alloc ?_ ?_ _) | (with_reducible refine Below.drew ?_) | (with_reducible refine bdrewN ?_ _) | (with_reducible refine Below.setCell ?_ ?_ _) | (first | (with_reducible exact Nat.le_refl _) | (with_reducible assumption) | omega | (simp; omega) | (simp; done))))) hb1
  have hz1 := hb1.size
  (try simp only [World.size_drew, World.size_alloc] at hz1)
  have hz1_0 : w.heap.size < w1.heap.size := by omega
  have HC1_0 : ∀ o, w1.cell? ⟨w.heap.size, o, none⟩ = (#[Value.int .i64 k, Value.int .i64 op, Value.int .i64 cl, Value.int .i64 st, Value.int .i64 sp, Value.int .i64 ex, Value.int .i64 la, Value.int .i64 fl, Value.int .i64 fa, Value.int .i64 co, Value.int .i64 ru] : Array Value)[o]? := fun o => (hb1.cell (p := ⟨w.heap.size, o, none⟩) (by first | (simp; done) | omega | (simp; omega))).trans (by first | (with_reducible assumption) | (simp [go_sem, *]; done))
  have hz1' : w.heap.size + 1 ≤ w1.heap.size := hz1_0
  clear hz1
  go_wp2_with fail
  refine (rNew_abs k op cl st sp ex la fl fa co ru _).mono ?_
  rintro e w2 ⟨q0, rfl, hb2, hR2, hg2⟩
  have hF2 := hF1.below hb2
  have HB2 : Below w.heap.size w w2 := bstep (by (focus repeat' (first | (with_reducible exact Below.refl _ _) | (with_reducible assumption) | (with_reducible refine Below.alloc ?_ ?_ _) | (with_reducible refine Below.drew ?_) | (with_reducible refine bdrewN ?_ _) | (with_reducible refine Below.setCell ?_ ?_ _) | (first | (with_reducible exact Nat.le_refl _) | (with_reducible assumption) | omega | (simp; omega) | (simp; done))))) hb2
  have hz2 := hb2.size
  (try simp only [World.size_drew, World.size_alloc] at hz2)
  have hz2_0 : w.heap.size < w2.heap.size := by omega
  have HC2_0 : ∀ o, w2.cell? ⟨w.heap.size, o, none⟩ = (#[Value.int .i64 k, Value.int .i64 op, Value.int .i64 cl, Value.int .i64 st, Value.int .i64 sp, Value.int .i64 ex, Value.int .i64 la, Value.int .i64 fl, Value.int .i64 fa, Value.int .i64 co, Value.int .i64 ru] : Array Value)[o]? := fun o => (hb2.cell (p := ⟨w.heap.size, o, none⟩) (by first | (simp; done) | omega | (simp; omega))).trans (by first | (with_reducible assumption) | (simp [go_sem, *]; done))
  have HF := hide hF2
  have HR := hide hR2
  have HG1 := hide hg1
  have HG2 := hide hg2
  clear hF1 hF2 hR2 hg1 hg2 hb1 hb2 hz2 HB1 hz1_0 HC1_0
  go_upto_region 3 with fail
  go_cut [38] (fun s wx => s = .bool false ∧ wx = w2)
  case first =>
    rcases both HF.out HR.out with ⟨rfl, rfl⟩ | ⟨g, h, rfl, rfl⟩
    · go_wp2_with (go_at_call 11; go_in)
      go_meet
      exact ⟨by simp [pa], rfl⟩
    · go_wp2_with (go_at_call 11; go_in)
      go_meet
      exact ⟨by simp [pa], rfl⟩
  case rest =>
    obtain ⟨rfl, hwc⟩ := hcut
    have hwc := hwc.symm
    subst hwc
    go_wp2
    go_loopw [11] (fun v wr => ∃ (n : Nat) (p0 : Option Nat) (S0 : St) (q0 p1 : Option Nat) (S1 : St) (q1 : Option Nat), n ≤ len ∧ v = .int .i64 n ∧ Two k op cl st sp ex la fl fa co ru w w.heap.size w2.heap.size (w2.heap.size + 1) wr p0 S0 q0 S0 p1 S1 q1 S1) (fun v _ => len - (intOf v).toNat)
    case atStart =>
      refine ⟨0, p0, S00 k op cl st sp ex la fl fa co ru, q0, none, none, none, Nat.zero_le _, rfl, ?_⟩
      unfold Two
      refine ⟨⟨?_, ?_, ?_, ?_, by omega, by omega, by omega⟩, ⟨?_, ?_, ?_, ?_, ?_⟩, ⟨HF.out.below ?_, HR.out.below ?_, trivial, trivial⟩, ⟨fun g _ h => (by cases h), fun g _ h => (by cases h)⟩, ?_⟩
      · (focus repeat' (first | (with_reducible exact Below.refl _ _) | (with_reducible assumption) | (with_reducible refine Below.alloc ?_ ?_ _) | (with_reducible refine Below.drew ?_) | (with_reducible refine bdrewN ?_ _) | (with_reducible refine Below.setCell ?_ ?_ _) | (first | (with_reducible exact Nat.le_refl _) | (with_reducible assumption) | omega | (simp; omega) | (simp; done))))
      · (first | (simp; done) | (simp; omega))
      · (first | (simp; done) | (simp; omega))
      · (first | (simp; done) | (simp; omega))
      · intro o; simp [go_sem, *]
      · (intro o; (rcases o with _ | _ | o <;> simp [go_sem, pa]))
      · (intro o; (rcases o with _ | _ | o <;> simp [go_sem, pa]))
      · intro o; simp [go_sem, *]
      · intro o; simp [go_sem, *]
      · (focus repeat' (first | (with_reducible exact Below.refl _ _) | (with_reducible assumption) | (with_reducible refine Below.alloc ?_ ?_ _) | (with_reducible refine Below.drew ?_) | (with_reducible refine bdrewN ?_ _) | (with_reducible refine Below.setCell ?_ ?_ _) | (first | (with_reducible exact Nat.le_refl _) | (with_reducible assumption) | omega | (simp; omega) | (simp; done))))
      · (focus repeat' (first | (with_reducible exact Below.refl _ _) | (with_reducible assumption) | (with_reducible refine Below.alloc ?_ ?_ _) | (with_reducible refine Below.drew ?_) | (with_reducible refine bdrewN ?_ _) | (with_reducible refine Below.setCell ?_ ?_ _) | (first | (with_reducible exact Nat.le_refl _) | (with_reducible assumption) | omega | (simp; omega) | (simp; done))))
      · rintro g (h | h | h | h)
        · have := HG1.out g h; simp at this; omega
        · cases h
        · have := HG2.out g h; omega
        · cases h
    case round =>
      obtain ⟨n, p0, S0, q0, p1, S1, q1, hn, rfl, tw⟩ := hrel
      have TW := hide tw
      obtain ⟨⟨HBr, t2, t3, t4, t5, t6, t7⟩, ⟨CL, CF, CR, FF, FR⟩, _, _, _⟩ := tw
      unfold Cells at CL CF CR
      have hnz : n = len := by (have := HN.out; omega)
      subst hnz
      have hle : ¬ ((n : Int) < (n : Int)) := by omega
      go_wp2_with fail
      refine (tells_abs k op cl st sp ex la fl fa co ru op p0 q0 _ _ TW.out.gF0 TW.out.gR0).mono ?_
      rintro e w4 ⟨rfl, hb4⟩
      have TW4 := hide (TW.out.below hb4)
      clear hb4 TW CL CF CR FF FR HBr t2 t3 t4 t5 t6 t7
      have HB4 := TW4.out.hb
      have zL4 := TW4.out.z0
      have zF4 := TW4.out.zF
      have zR4 := TW4.out.zR
      have CL4 := TW4.out.cL
      have CF4 := TW4.out.cF
      have CR4 := TW4.out.cR
      have FF4 := TW4.out.fF
      have FR4 := TW4.out.fR
      go_wp2_with fail
      refine (tells_abs k op cl st sp ex la fl fa co ru op p1 q1 _ _ TW4.out.gF1 TW4.out.gR1).mono ?_
      rintro e w5 ⟨rfl, hb5⟩
      have TW5 := hide (TW4.out.below hb5)
      clear hb5 TW4 HB4 zL4 zF4 zR4 CL4 CF4 CR4 FF4 FR4
      go_wp2_with fail
      refine (known_any _).mono ?_
      rintro e w6 ⟨rfl, hb6⟩
      have HB6 : Below w.heap.size w w6 := bstep TW5.out.hb hb6
      go_wp2
      go_ret
      exact ⟨rfl, HB6⟩
end Go.Proofs.Ytiopohdhadilfaa
