import Derived.Laws.Bits64b
import Derived.Test.YtajkgecegefnmaaTc
namespace Go.Proofs.Ytajkgecegefnmaa
open Go.ChangeShapes Go.WideShapes Go.ChangeAt Go.RowKit Go.Deep
set_option linter.unusedSimpArgs false
set_option linter.unusedVariables false

/-- bytes as a number, the highest first -/
def num (l : List Nat) : Nat := l.foldl (fun a b => 256 * a + b) 0
theorem num_app (l : List Nat) (b : Nat) : num (l ++ [b]) = 256 * num l + b := by unfold num; rw [List.foldl_append]; rfl
theorem num_lt (k : Nat) : ∀ l : List Nat, l.length = k → (∀ x ∈ l, x < 256) → num l < 256 ^ k := by
  induction k with
  | zero => intro l hl _; obtain rfl := List.eq_nil_of_length_eq_zero hl; decide
  | succ k ih =>
    intro l hl hx
    have hne : l ≠ [] := by rintro rfl; simp at hl
    have e := List.dropLast_concat_getLast hne
    rw [← e, num_app]
    have h1 := ih l.dropLast (by rw [List.length_dropLast]; omega) (fun x h => hx x ((List.dropLast_sublist l).subset h))
    have h2 := hx _ (List.getLast_mem hne)
    rw [Nat.pow_succ]; omega
theorem or_add (x b : Nat) (hb : b < 256) (hx : x < 72057594037927936) : bits .or .u64 ((256 * x : Nat) : Int) (b : Int) = ((256 * x + b : Nat) : Int) := by
  rw [bits_or_u64_nat (256 * x) b (by omega) (by omega)]
  congr 1
  have := Nat.two_pow_add_eq_or_of_lt (i := 8) (b := b) (by simpa using hb) x
  rw [show (2 : Nat) ^ 8 = 256 from rfl] at this
  exact this.symm

set_option maxRecDepth 100000 in
set_option maxHeartbeats 2000000 in
theorem next_c (g b off cap : Nat) (ns : List Nat) (at_ : Nat) (n : Nat) (w : World) (hR : RObj w g b off cap ns at_) (hn : at_ + n ≤ ns.length) (hn1 : 1 ≤ n) (hnn : n ≤ 8) : Calls Try.prog 72 #[.pointer (some ⟨g, 0, none⟩), .int .i64 (n : Int)] w (fun e w' => e = .returned (.tuple #[.int .u64 (num ((ns.drop at_).take n) : Int), .int .i64 0]) ∧ Only g w w' ∧ RObj w' g b off cap ns (at_ + n)) := by
  have hR' := hide hR
  obtain ⟨h1, h2, h3, h4, h5, h6, h7, h8, h9, h10⟩ := hR
  have H6 := hide h6
  have H7 := hide h7
  clear h6 h7
  have q1 : ¬ ((ns.length : Int) - (at_ : Int) < (n : Int)) := by omega
  go_enter Try.func72, Try.ntmps72
  go_wp2_with fail
  refine (Left_c g b off cap ns at_ _ hR'.out).mono ?_
  rintro e w1 ⟨rfl, hb1⟩
  have hR1 := hide (hR'.out.below hb1)
  obtain ⟨r1, r2, r3, r4, r5, r6, r7, r8, r9, r10⟩ := hR'.out.below hb1
  clear h1 h2 h3 h4 hR'
  have R6 := hide r6
  clear r6 r7
  have hca : ¬ cap = at_ := by omega
  have hz1 : w.heap.size ≤ w1.heap.size := hb1.size
  have HB1 := hide hb1
  clear hb1
  go_wp2
  go_quiet (fail)
  go_wp2
  go_loopw [6, 8, 29] (fun v6 v8 v29 wr => ∃ j : Nat, j ≤ n ∧ v6 = .int .u64 (num ((ns.drop at_).take j) : Int) ∧ v29 = .int .i64 (j : Int) ∧ Below w1.heap.size w1 wr) (fun _ _ v29 _ => n - (intOf v29).toNat)
  case atStart => exact ⟨0, Nat.zero_le _, rfl, rfl, by (focus repeat' (first | (with_reducible exact Below.refl _ _) | (with_reducible assumption) | (with_reducible refine Below.alloc ?_ ?_ _) | (with_reducible refine Below.drew ?_) | (with_reducible refine bdrewN ?_ _) | (with_reducible refine Below.setCell ?_ ?_ _) | (first | (with_reducible exact Nat.le_refl _) | (with_reducible assumption) | omega | (simp; omega) | (simp; done))))⟩
  case round =>
    obtain ⟨j, hj, rfl, rfl, rB⟩ := hrel
    by_cases hlt : j < n
    · have hlt' : (j : Int) < (n : Int) := by omega
      have c1 : wr.cell? ⟨b, off + at_ + j, none⟩ = some (.int .u8 (ns.getD (at_ + j) 0 : Int)) := by
        have q := (rB.cell (p := ⟨b, off + (at_ + j), none⟩) r4).trans (R6.out (at_ + j) (by omega))
        rw [← Nat.add_assoc] at q
        exact q
      have hy : ns.getD (at_ + j) 0 < 256 := H7.out _ (by (have e : ns.getD (at_ + j) 0 = ns[at_ + j]'(by omega) := by simp [List.getD, show at_ + j < ns.length by omega]); rw [e]; exact List.getElem_mem _)
      have hnx := hide (show num ((ns.drop at_).take (j + 1)) = 256 * num ((ns.drop at_).take j) + ns.getD (at_ + j) 0 from by
        rw [← num_app]
        congr 1
        rw [List.take_add_one]
        congr 1
        simp [List.getD, show at_ + j < ns.length by omega])
      have hX : num ((ns.drop at_).take j) < 72057594037927936 := by
        have q := num_lt j ((ns.drop at_).take j) (by rw [List.length_take, List.length_drop]; omega) (fun x hx => H7.out x (List.mem_of_mem_drop (List.mem_of_mem_take hx)))
        have p : 256 ^ j ≤ 256 ^ 7 := Nat.pow_le_pow_right (by decide) (by omega)
        have p7 : (256 : Nat) ^ 7 = 72057594037927936 := by decide
        omega
      generalize num ((ns.drop at_).take j) = X at *
      generalize ns.getD (at_ + j) 0 = y at *
      have HO := hide (or_add X y hy hX)
      go_wp2
      go_roundw
      case rel => exact ⟨j + 1, by omega, by rw [hnx.out, ← HO.out]; first | rfl | (congr 2; omega), by go_num, by (focus repeat' (first | (with_reducible exact Below.refl _ _) | (with_reducible assumption) | (with_reducible refine Below.alloc ?_ ?_ _) | (with_reducible refine Below.drew ?_) | (with_reducible refine bdrewN ?_ _) | (with_reducible refine Below.setCell ?_ ?_ _) | (first | (with_reducible exact Nat.le_refl _) | (with_reducible assumption) | omega | (simp; omega) | (simp; done))))⟩
      case measure => simp [intOf]; omega
    · have hjn : j = n := by omega
      subst hjn
      have hle : ¬ ((j : Int) < (j : Int)) := by omega
      obtain ⟨t1, t2, t3, t4, t5, t6, t7, t8, t9, t10⟩ := hR1.out.below rB
      have T6 := hide t6
      have T7 := hide t7
      have hB : Below w.heap.size w wr := HB1.out.trans (rB.mono hz1)
      clear t6 t7 r1 r2 r3 r4 R6 rB
      go_wp2
      go_ret2
      refine ⟨by first | rfl | (congr 4), ⟨hB.os, hB.tape, hB.output, by (simp; exact hB.size), fun i hi hne => by rw [Below.heap_setCell _ _ _ _ (by exact hne)]; exact hB.block i hi⟩, by simpa using t1, ?_, ?_, by simpa using t4, t5, ?_, T7.out, by omega, t9, t10⟩
      · intro o
        rcases o with _ | _ | o
        · simp [go_sem, t2]
        · simp [go_sem, t2]
        · simp [go_sem, t2]
      · intro o; simp only [World.frozen?_setCell]; exact t3 o
      · intro i hi
        refine (World.cell?_of_block (Below.heap_setCell _ _ _ _ ?_)).trans (T6.out i hi)
        exact t5
end Go.Proofs.Ytajkgecegefnmaa
