import Derived.Test.YtehpjipmlpaflaaUc
namespace Go.Proofs.Ytehpjipmlpaflaa.un
open Go.ChangeShapes Go.WideShapes Go.ChangeAt Go.RowKit Go.Deep Go.Shelf
set_option linter.unusedSimpArgs false
set_option linter.unusedVariables false

attribute [local go_sem] Oper.semAt_some

/-- the sale, or the refusal -/
def SaleIs (count floor : Int) (L : List (List Int)) (v p nx : Int) (won : List Int) : Prop :=
  (v ≠ 0 ∧ p = 0 ∧ nx = 0 ∧ won = []) ∨ (v = 0 ∧ p = priceOf (ordT L) count floor ∧ nx = nextOf (ordT L) count ∧ won = wonI L.length ((ordT L).take count.toNat))
theorem sale_one (count floor : Int) (L : List (List Int)) (v : Int) : ∃ p nx won, SaleIs count floor L v p nx won := by
  by_cases h : v = 0
  · exact ⟨_, _, _, .inr ⟨h, rfl, rfl, rfl⟩⟩
  · exact ⟨_, _, _, .inl ⟨h, rfl, rfl, rfl⟩⟩

theorem Sell_is {count floor : Int} {so : Option Addr} {cap : Nat} {L : List (List Int)} {v p nx : Int} {won : List Int} (hw : WrongIs count floor L v) (hs : SaleIs count floor L v p nx won) (w : World) (hb : BRows so L w) :
    Calls Try.prog 12 #[.int .i64 count, .int .i64 floor, .slice so L.length cap] w fun e w' => (∃ ao c, e = .returned (.tuple #[.agg #[.int .i64 p, .slice ao won.length c, .int .i64 nx], .int .i64 v]) ∧ w'.ownsRow w.heap.size 3 1 (.slice ao won.length c) won.length (won.map I64)) ∧ Below w.heap.size w w' := by
  rcases hs with ⟨hv, rfl, rfl, rfl⟩ | ⟨rfl, rfl, rfl, rfl⟩
  · refine (Sell_no count floor so cap L v w hb hw hv).mono ?_
    rintro e w' ⟨rfl, hb'⟩
    exact ⟨⟨none, 0, rfl, World.ownsRow_nil _ _ _ _⟩, hb'⟩
  · refine (Sell_yes count floor so cap L w hb hw).mono ?_
    rintro e w' ⟨⟨G, rfl, own⟩, hb'⟩
    refine ⟨⟨some ⟨G, 0, none⟩, L.length, ?_, ?_⟩, hb'⟩
    · rw [wonI_len]
    · rw [wonI_len]; exact own

theorem rSell_is {count floor : Int} {so : Option Addr} {cap : Nat} {L : List (List Int)} {v p nx : Int} {won : List Int} (hw : WrongIs count floor L v) (hs : SaleIs count floor L v p nx won) (w : World) (hb : BRows so L w) :
    Calls Try.prog 13 #[.int .i64 count, .int .i64 floor, .slice so L.length cap] w fun e w' => (∃ ao c, e = .returned (.tuple #[.agg #[.int .i64 p, .slice ao won.length c, .int .i64 nx], .int .i64 v]) ∧ w'.ownsRow w.heap.size 3 1 (.slice ao won.length c) won.length (won.map I64)) ∧ Below w.heap.size w w' := by
  rcases hs with ⟨hv, rfl, rfl, rfl⟩ | ⟨rfl, rfl, rfl, rfl⟩
  · refine (rSell_no count floor so cap L v w hb hw hv).mono ?_
    rintro e w' ⟨rfl, hb'⟩
    exact ⟨⟨none, 0, rfl, World.ownsRow_nil _ _ _ _⟩, hb'⟩
  · refine (rSell_yes count floor so cap L w hb hw).mono ?_
    rintro e w' ⟨⟨G, rfl, own⟩, hb'⟩
    refine ⟨⟨some ⟨G, 0, none⟩, L.length, ?_, ?_⟩, hb'⟩
    · rw [wonI_len]
    · rw [wonI_len]; exact own

def LK : List (List Int) := [[9, 5, 2], [7, 7]]
theorem known_check : CheckIs 3 1 [9, 5, 2] 0 := by
  refine .inr (.inr ⟨⟨by decide, by decide, by unfold okC; decide, by decide, by decide, fun k hk => ?_⟩, by decide, rfl⟩)
  rcases k with _ | _ | _ | k
  · exact ⟨by unfold okC; decide, by decide⟩
  · exact ⟨by unfold okC; decide, by decide⟩
  · exact ⟨by unfold okC; decide, by decide⟩
  · simp at hk; omega
theorem known_check2 : CheckIs 3 1 [7, 7] 0 := by
  refine .inr (.inr ⟨⟨by decide, by decide, by unfold okC; decide, by decide, by decide, fun k hk => ?_⟩, by decide, rfl⟩)
  rcases k with _ | _ | k
  · exact ⟨by unfold okC; decide, by decide⟩
  · exact ⟨by unfold okC; decide, by decide⟩
  · simp at hk; omega
theorem known_check3 : CheckIs 2 0 [1, 2] 2 := by
  refine .inl ⟨fun h => ?_, rfl⟩
  have := (h.good 1 (by decide)).2 (by decide)
  revert this
  decide
theorem known_wrong : WrongIs 3 1 LK 0 := by
  refine .inr ⟨⟨by decide, by decide, by unfold okC; decide, by decide⟩, fun _ => 0, fun i hi => ?_, .inr ⟨fun i hi => by show (0 : Int) ≠ 2; decide, by decide⟩⟩
  rcases i with _ | _ | i
  · exact known_check
  · exact known_check2
  · simp [LK] at hi; omega
theorem known_sale : SaleIs 3 1 LK 0 5 0 [1, 2] := by
  refine .inr ⟨rfl, by decide, by decide, by decide⟩

set_option maxRecDepth 100000 in
set_option maxHeartbeats 4000000 in
theorem known_c (w : World) : Calls Try.prog 10 #[] w fun e w' => e = .returned (.bool true) ∧ Below w.heap.size w w' := by
  have KW := hide known_wrong
  have KS := hide known_sale
  have KC := hide known_check3
  go_enter Try.func10, Try.ntmps10
  have HL := hide (show BRows (some ⟨w.heap.size + 2, 0, none⟩) LK (((w.alloc (.cells #[.int .i64 9, .int .i64 5, .int .i64 2] 2)).alloc (.cells #[.int .i64 7, .int .i64 7] 2)).alloc (.cells #[.slice (some ⟨w.heap.size, 0, none⟩) 3 3, .slice (some ⟨w.heap.size + 1, 0, none⟩) 2 2] 41)) from by
    refine ⟨fun _ => ?_⟩
    refine ⟨_, _, rfl, fun i hi => ?_⟩
    rcases i with _ | _ | i
    · refine ⟨some ⟨w.heap.size, 0, none⟩, 3, by simp [go_sem, bidAt, LK], ⟨fun _ => ?_⟩⟩
      refine ⟨_, _, rfl, fun k hk => ?_⟩
      rcases k with _ | _ | _ | k
      · simp [go_sem, bidAt, LK, at0]
      · simp [go_sem, bidAt, LK, at0]
      · simp [go_sem, bidAt, LK, at0]
      · simp [bidAt, LK] at hk; omega
    · refine ⟨some ⟨w.heap.size + 1, 0, none⟩, 2, by simp [go_sem, bidAt, LK], ⟨fun _ => ?_⟩⟩
      refine ⟨_, _, rfl, fun k hk => ?_⟩
      rcases k with _ | _ | k
      · simp [go_sem, bidAt, LK, at0]
      · simp [go_sem, bidAt, LK, at0]
      · simp [bidAt, LK] at hk; omega
    · simp [LK] at hi; omega)
  go_wp2_with fail
  refine (Sell_is KW.out KS.out _ HL.out).mono ?_
  rintro e w5 ⟨⟨ao, c, rfl, own⟩, hb5⟩
  have HI := hide (show IRow ao [1, 2] w5 from IRow.of_own own)
  have HB5 := hide (show Below w.heap.size w w5 from bstep (by (focus repeat' (first | (with_reducible exact Below.refl _ _) | (with_reducible assumption) | (with_reducible refine Below.alloc ?_ ?_ _) | (with_reducible refine Below.drew ?_) | (with_reducible refine bdrewN ?_ _) | (with_reducible refine Below.setCell ?_ ?_ _) | (first | (with_reducible exact Nat.le_refl _) | (with_reducible assumption) | omega | (simp; omega) | (simp; done))))) hb5)
  clear own hb5 HL
  simp only [List.length_cons, List.length_nil, Nat.reduceAdd]
  go_wp2_with fail
  have hb6 : Below w5.heap.size w5 (w5.alloc (.cells #[.int .i64 5, .slice ao 2 c, .int .i64 0] 30)) := (Below.refl _ _).alloc (Nat.le_refl _) _
  refine (Spent_at 5 0 2 1 [1, 2] ao c _ (HI.out.below hb6) (by decide) rfl (by decide) (by decide) (by decide)).mono ?_
  rintro e w7 ⟨rfl, hb7⟩
  have c0 : w7.cell? ⟨w5.heap.size, 0, none⟩ = some (.int .i64 5) := (hb7.cell (p := ⟨w5.heap.size, 0, none⟩) (by simp)).trans (by simp [go_sem])
  have c1 : w7.cell? ⟨w5.heap.size, 1, none⟩ = some (.slice ao 2 c) := (hb7.cell (p := ⟨w5.heap.size, 1, none⟩) (by simp)).trans (by simp [go_sem])
  have c2 : w7.cell? ⟨w5.heap.size, 2, none⟩ = some (.int .i64 0) := (hb7.cell (p := ⟨w5.heap.size, 2, none⟩) (by simp)).trans (by simp [go_sem])
  have HI7 := hide ((HI.out.below hb6).below hb7)
  have HB7 := hide (bstep (bstep HB5.out hb6) hb7)
  clear hb6 hb7
  go_wp2_with fail
  have hI8 : IRow (some ⟨w7.heap.size, 0, none⟩) [1, 2] (w7.alloc (.cells #[.int .i64 1, .int .i64 2] 3)) := by
    refine ⟨fun _ => ?_⟩
    refine ⟨_, _, rfl, fun k hk => ?_⟩
    rcases k with _ | _ | k
    · simp [go_sem, at0]
    · simp [go_sem, at0]
    · simp at hk; omega
  have hb8 : Below w7.heap.size w7 (w7.alloc (.cells #[.int .i64 1, .int .i64 2] 3)) := (Below.refl _ _).alloc (Nat.le_refl _) _
  refine (Same_yes 5 0 [1, 2] ao (some ⟨w7.heap.size, 0, none⟩) c 2 _ (HI7.out.below hb8) hI8 (by decide)).mono ?_
  rintro e w9 ⟨rfl, hb9⟩
  have HB9 := hide (bstep (bstep HB7.out hb8) hb9)
  clear hb8 hb9 hI8
  go_wp2_with fail
  have hI10 : IRow (some ⟨w9.heap.size, 0, none⟩) [1, 2] (w9.alloc (.cells #[.int .i64 1, .int .i64 2] 2)) := by
    refine ⟨fun _ => ?_⟩
    refine ⟨_, _, rfl, fun k hk => ?_⟩
    rcases k with _ | _ | k
    · simp [go_sem, at0]
    · simp [go_sem, at0]
    · simp at hk; omega
  refine (check_is 2 0 (some ⟨w9.heap.size, 0, none⟩) 2 [1, 2] _ hI10 2 KC.out).mono ?_
  rintro e w11 ⟨rfl, rfl⟩
  clear hI10
  go_wp2
  refine bodyPost_ret (v := .bool true) (by simp [results, Try.f10, go_sem]) rfl ⟨rfl, HB9.out.alloc HB9.out.size _⟩
end Go.Proofs.Ytehpjipmlpaflaa.un
