import Derived.Test.YtajkgecegefnmaaTh
namespace Go.Proofs.Ytajkgecegefnmaa
open Go.ChangeShapes Go.WideShapes Go.ChangeAt Go.RowKit Go.Deep
set_option linter.unusedSimpArgs false
set_option linter.unusedVariables false

/-- what the reader answers to long: how many, the error, the place -/
def lg (ns : List Nat) (a m : Nat) : Nat × Nat × Nat :=
  if (rd ns a).2.1 ≠ 0 then (0, (rd ns a).2.1, (rd ns a).2.2)
  else if m < (rd ns a).1 then (0, 3, (rd ns a).2.2)
  else if ns.length - (rd ns a).2.2 < (rd ns a).1 then (0, 110, (rd ns a).2.2)
  else ((rd ns a).1, 0, (rd ns a).2.2)
theorem lg_err (ns : List Nat) (a m : Nat) : (lg ns a m).2.1 = 0 ∨ (lg ns a m).2.1 = 3 ∨ (lg ns a m).2.1 = 110 ∨ (lg ns a m).2.1 = 111 := by
  have h := rd_err ns a
  unfold lg; split
  · simp only; omega
  split
  · simp
  split <;> simp
theorem lg_fits (ns : List Nat) (a m : Nat) (h : (lg ns a m).2.1 = 0) : (lg ns a m).1 ≤ m ∧ (lg ns a m).2.2 + (lg ns a m).1 ≤ ns.length ∨ (lg ns a m).1 = 0 := by
  revert h; unfold lg; split
  · intro h; exact .inr rfl
  split
  · intro h; cases h
  split
  · intro h; cases h
  · intro h; simp only; omega
theorem lg_ok (ns : List Nat) (a m : Nat) (h : (lg ns a m).2.1 = 0) : (rd ns a).2.1 = 0 ∧ (rd ns a).1 ≤ m ∧ (rd ns a).1 ≤ ns.length - (rd ns a).2.2 ∧ lg ns a m = ((rd ns a).1, 0, (rd ns a).2.2) := by
  revert h; unfold lg; split
  · intro h; simp only at h; omega
  split
  · intro h; cases h
  split
  · intro h; cases h
  · intro h; exact ⟨by omega, by omega, by omega, rfl⟩

set_option maxRecDepth 100000 in
set_option maxHeartbeats 2000000 in
theorem long_bad (g B : Nat) (ns : List Nat) (a : Nat) (m : Nat) (w : World) (hR : RAny w g B ns a) (hm : m ≤ 9223372036854775807) (hE : (rd ns a).2.1 ≠ 0) : Calls Try.prog 54 #[.pointer (some ⟨g, 0, none⟩), .int .i64 (m : Int)] w (fun e w' => e = .returned (.tuple #[.int .i64 ((lg ns a m).1 : Int), .int .i64 ((lg ns a m).2.1 : Int)]) ∧ Only g w w' ∧ RAny w' g B ns (lg ns a m).2.2) := by
  have eq : lg ns a m = (0, (rd ns a).2.1, (rd ns a).2.2) := by unfold lg; rw [if_pos hE]
  have hle := hR.more
  have hle2 := rd_place ns a hle.1
  have hlt := rd_lt ns a hle.2.2
  have hcl := hide hR.cells
  have hR' := hide hR
  clear hR
  rw [eq]
  clear eq
  go_enter Try.func54, Try.ntmps54
  go_wp2_with fail
  refine (RNum_any g B ns a _ hR'.out).mono ?_
  rintro e w1 ⟨rfl, ho1, hR1⟩
  have HR1 := hide hR1
  clear hR1
  have HO1 := hide ho1
  clear ho1
  have hE' : ¬ ((rd ns a).2.1 : Int) = 0 := by omega
  go_wp2
  go_ret2
  exact ⟨rfl, HO1.out, HR1.out⟩

set_option maxRecDepth 100000 in
set_option maxHeartbeats 2000000 in
theorem long_many (g B : Nat) (ns : List Nat) (a : Nat) (m : Nat) (w : World) (hR : RAny w g B ns a) (hm : m ≤ 9223372036854775807) (hE : (rd ns a).2.1 = 0) (hM : m < (rd ns a).1) : Calls Try.prog 54 #[.pointer (some ⟨g, 0, none⟩), .int .i64 (m : Int)] w (fun e w' => e = .returned (.tuple #[.int .i64 ((lg ns a m).1 : Int), .int .i64 ((lg ns a m).2.1 : Int)]) ∧ Only g w w' ∧ RAny w' g B ns (lg ns a m).2.2) := by
  have eq : lg ns a m = (0, 3, (rd ns a).2.2) := by unfold lg; rw [if_neg (by omega), if_pos hM]
  have hle := hR.more
  have hle2 := rd_place ns a hle.1
  have hlt := rd_lt ns a hle.2.2
  have hcl := hide hR.cells
  have hR' := hide hR
  clear hR
  rw [eq]
  clear eq
  go_enter Try.func54, Try.ntmps54
  go_wp2_with fail
  refine (RNum_any g B ns a _ hR'.out).mono ?_
  rintro e w1 ⟨rfl, ho1, hR1⟩
  have HR1 := hide hR1
  clear hR1
  have HO1 := hide ho1
  clear ho1
  have hE' : ((rd ns a).2.1 : Int) = 0 := by omega
  have hM' : (m : Int) < ((rd ns a).1 : Int) := by omega
  go_wp2
  go_ret2
  exact ⟨rfl, HO1.out, HR1.out⟩

theorem Only.trans_below {g : Nat} {w w1 w2 : World} (k : Only g w w1) (h : Below w1.heap.size w1 w2) : Only g w w2 :=
  ⟨h.os.trans k.os, h.tape.trans k.tape, h.output.trans k.output, Nat.le_trans k.size h.size, fun i hi h1 => (h.block i (Nat.lt_of_lt_of_le hi k.size)).trans (k.block i hi h1)⟩

set_option maxRecDepth 100000 in
set_option maxHeartbeats 2000000 in
theorem long_end (g B : Nat) (ns : List Nat) (a : Nat) (m : Nat) (w : World) (hR : RAny w g B ns a) (hm : m ≤ 9223372036854775807) (hE : (rd ns a).2.1 = 0) (hM : ¬ m < (rd ns a).1) (hL : ns.length - (rd ns a).2.2 < (rd ns a).1) : Calls Try.prog 54 #[.pointer (some ⟨g, 0, none⟩), .int .i64 (m : Int)] w (fun e w' => e = .returned (.tuple #[.int .i64 ((lg ns a m).1 : Int), .int .i64 ((lg ns a m).2.1 : Int)]) ∧ Only g w w' ∧ RAny w' g B ns (lg ns a m).2.2) := by
  have eq : lg ns a m = (0, 110, (rd ns a).2.2) := by unfold lg; rw [if_neg (by omega), if_neg hM, if_pos hL]
  have hle := hR.more
  have hle2 := rd_place ns a hle.1
  have hlt := rd_lt ns a hle.2.2
  have hcl := hide hR.cells
  have hR' := hide hR
  clear hR
  rw [eq]
  clear eq
  go_enter Try.func54, Try.ntmps54
  go_wp2_with fail
  refine (RNum_any g B ns a _ hR'.out).mono ?_
  rintro e w1 ⟨rfl, ho1, hR1⟩
  have HR1 := hide hR1
  clear hR1
  have HO1 := hide ho1
  clear ho1
  have hE' : ((rd ns a).2.1 : Int) = 0 := by omega
  have hM' : ¬ (m : Int) < ((rd ns a).1 : Int) := by omega
  have hL' : ((ns.length - (rd ns a).2.2 : Nat) : Int) < ((rd ns a).1 : Int) := by omega
  go_wp2_with fail
  refine (Left_any g B ns (rd ns a).2.2 _ HR1.out).mono ?_
  rintro e w2 ⟨rfl, hb2⟩
  have HR2 := hide (HR1.out.below hb2)
  have HB2 := hide hb2
  clear hb2
  have hk : ((ns.length : Int) - ((rd ns a).2.2 : Int)) = ((ns.length - (rd ns a).2.2 : Nat) : Int) := by omega
  rw [hk]
  go_wp2
  go_ret2
  exact ⟨rfl, HO1.out.trans_below HB2.out, HR2.out⟩

set_option maxRecDepth 100000 in
set_option maxHeartbeats 2000000 in
theorem long_ok (g B : Nat) (ns : List Nat) (a : Nat) (m : Nat) (w : World) (hR : RAny w g B ns a) (hm : m ≤ 9223372036854775807) (hE : (rd ns a).2.1 = 0) (hM : ¬ m < (rd ns a).1) (hL : ¬ ns.length - (rd ns a).2.2 < (rd ns a).1) : Calls Try.prog 54 #[.pointer (some ⟨g, 0, none⟩), .int .i64 (m : Int)] w (fun e w' => e = .returned (.tuple #[.int .i64 ((lg ns a m).1 : Int), .int .i64 ((lg ns a m).2.1 : Int)]) ∧ Only g w w' ∧ RAny w' g B ns (lg ns a m).2.2) := by
  have eq : lg ns a m = ((rd ns a).1, 0, (rd ns a).2.2) := by unfold lg; rw [if_neg (by omega), if_neg hM, if_neg hL]
  have hle := hR.more
  have hle2 := rd_place ns a hle.1
  have hlt := rd_lt ns a hle.2.2
  have hcl := hide hR.cells
  have hR' := hide hR
  clear hR
  rw [eq]
  clear eq
  go_enter Try.func54, Try.ntmps54
  go_wp2_with fail
  refine (RNum_any g B ns a _ hR'.out).mono ?_
  rintro e w1 ⟨rfl, ho1, hR1⟩
  have HR1 := hide hR1
  clear hR1
  have HO1 := hide ho1
  clear ho1
  have hE' : ((rd ns a).2.1 : Int) = 0 := by omega
  have hM' : ¬ (m : Int) < ((rd ns a).1 : Int) := by omega
  have hL' : ¬ ((ns.length - (rd ns a).2.2 : Nat) : Int) < ((rd ns a).1 : Int) := by omega
  go_wp2_with fail
  refine (Left_any g B ns (rd ns a).2.2 _ HR1.out).mono ?_
  rintro e w2 ⟨rfl, hb2⟩
  have HR2 := hide (HR1.out.below hb2)
  have HB2 := hide hb2
  clear hb2
  have hk : ((ns.length : Int) - ((rd ns a).2.2 : Int)) = ((ns.length - (rd ns a).2.2 : Nat) : Int) := by omega
  rw [hk]
  go_wp2
  go_ret2
  exact ⟨rfl, HO1.out.trans_below HB2.out, HR2.out⟩

theorem long_c (g B : Nat) (ns : List Nat) (a : Nat) (m : Nat) (w : World) (hR : RAny w g B ns a) (hm : m ≤ 9223372036854775807) : Calls Try.prog 54 #[.pointer (some ⟨g, 0, none⟩), .int .i64 (m : Int)] w (fun e w' => e = .returned (.tuple #[.int .i64 ((lg ns a m).1 : Int), .int .i64 ((lg ns a m).2.1 : Int)]) ∧ Only g w w' ∧ RAny w' g B ns (lg ns a m).2.2) := by
  by_cases hE : (rd ns a).2.1 = 0
  · by_cases hM : m < (rd ns a).1
    · exact long_many g B ns a m w hR hm hE hM
    · by_cases hL : ns.length - (rd ns a).2.2 < (rd ns a).1
      · exact long_end g B ns a m w hR hm hE hM hL
      · exact long_ok g B ns a m w hR hm hE hM hL
  · exact long_bad g B ns a m w hR hm hE
end Go.Proofs.Ytajkgecegefnmaa
