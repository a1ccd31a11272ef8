import Derived.Test.YtimabgakemgldaaX2
import Derived.Laws.LoneSync
import Derived.WalkKit
import Derived.StillTailTactics
import Derived.Deep.RegionLaw
import Derived.Deep.RegionHeld3
import Derived.Laws.OwnMore
import Derived.Deep.Matrix
import Derived.BigQuiet
import Derived.Deep.QuietTactic
import Derived.Laws.EntriesVeiled
namespace Go.Proofs.Ytimabgakemgldaa
open Go.ChangeShapes Go.WideShapes Go.ChangeAt Go.RowKit Go.Deep
set_option linter.unusedSimpArgs false
set_option linter.unusedVariables false

theorem stay_set {w : World} {b k : Nat} (h : k ≠ b) (o : Nat) (u : Value) : (w.setCell ⟨b, o, none⟩ u).heap[k]? = w.heap[k]? := heap_setCell_other _ _ _ _ h
theorem stay_drN {w : World} (n k : Nat) : (w.drewN n).heap[k]? = w.heap[k]? := rfl
theorem stay_dr {w : World} (k : Nat) : w.drew.heap[k]? = w.heap[k]? := rfl
theorem robj_dr {w : World} {r rs : Nat} {A : Ab} (h : RObj w r rs A) : RObj w.drew r rs A := h.stays rfl rfl
theorem robj_set {w : World} {r rs b : Nat} {A : Ab} (h : RObj w r rs A) (h1 : r ≠ b) (h2 : rs ≠ b) (o : Nat) (u : Value) : RObj (w.setCell ⟨b, o, none⟩ u) r rs A := h.stays (stay_set h1 o u) (stay_set h2 o u)
theorem tch_dr {T : Nat → Prop} {w w' : World} (h : Tch T w w') : Tch T w w'.drew := ⟨h.os, h.tape, h.output, h.size, h.heap⟩

set_option maxRecDepth 100000 in
set_option maxHeartbeats 4000000 in
theorem rstep_X (r rs i n : Nat) (A : Ab) (k x c sx sw : Int) (sl sa : Bool) (w : World) (h : RObj w r rs A) (hA : AbOk A n c) (hc : c ≤ 4611686018427387904) (hi : i < n) (k2 : ¬ k = 2) (k3 : ¬ k = 3) (k5 : ¬ k = 5) : Calls Try.prog 45 #[.pointer (some ⟨r, 0, none⟩), .int .i64 (i : Int), .agg #[.int .i64 k, .int .i64 x], .agg #[.bool sl, .int .i64 sx, .int .i64 sw, .bool sa]] w fun e w' => e = .returned (.tuple #[.agg #[.bool false, .int .i64 0, .int .i64 0, .bool false], .agg #[.int .i64 (doA A (i : Int) k x).1, .bool (doA A (i : Int) k x).2, .int .i64 0], .bool true]) ∧ RObj w' r rs (doS A (i : Int) k x) ∧ Tch (fun b => b = r ∨ b = rs) w w' := by
  have lr := h.lt
  have CD := hide (fun V (hV : Below w.heap.size w V) => Do_any r rs A i n k x c V (h.below hV) hA hc hi)
  have d2 : decide (k = 2) = false := decide_eq_false k2
  have d3 : decide (k = 3) = false := decide_eq_false k3
  have d5 : decide (k = 5) = false := decide_eq_false k5
  have e2 : (k != 2) = true := by rw [bne_iff_ne]; exact k2
  have e3 : (k != 3) = true := by rw [bne_iff_ne]; exact k3
  have e5 : (k != 5) = true := by rw [bne_iff_ne]; exact k5
  have g2 : (k == 2) = false := by rw [beq_eq_false_iff_ne]; exact k2
  have g3 : (k == 3) = false := by rw [beq_eq_false_iff_ne]; exact k3
  have g5 : (k == 5) = false := by rw [beq_eq_false_iff_ne]; exact k5
  obtain ⟨aa, haa⟩ : ∃ aa, aa = (doA A (i : Int) k x).1 := ⟨_, rfl⟩
  obtain ⟨ay, hay⟩ : ∃ ay, ay = (doA A (i : Int) k x).2 := ⟨_, rfl⟩
  unfold DoPost at CD
  rw [← haa, ← hay] at CD ⊢
  have H := hide h
  clear h hA hc hi haa hay k2 k3 k5
  go_enter Try.func45, Try.ntmps45
  go_upto_region 1 with fail
  obtain ⟨W, hW⟩ : ∃ W, W = (((w.alloc (.cells #[.int .i64 k, .int .i64 x] 57)).alloc (.cells #[.bool sl, .int .i64 sx, .int .i64 sw, .bool sa] 131)).alloc (.cells #[.bool false, .int .i64 0, .int .i64 0, .bool false] 131)).alloc (.cells #[.int .i64 0, .bool false, .int .i64 0] 52) := ⟨_, rfl⟩
  rw [← hW]
  obtain ⟨B, hB⟩ : ∃ B, B = w.heap.size := ⟨_, rfl⟩
  rw [← hB]
  have p0 : W.cell? ⟨B, 0, none⟩ = some (.int .i64 k) := by rw [hW, hB]; simp [go_sem]
  have p1 : W.cell? ⟨B, 1, none⟩ = some (.int .i64 x) := by rw [hW, hB]; simp [go_sem]
  have q0 : W.cell? ⟨B + 1, 0, none⟩ = some (.bool sl) := by rw [hW, hB]; simp [go_sem]
  have q1 : W.cell? ⟨B + 1, 1, none⟩ = some (.int .i64 sx) := by rw [hW, hB]; simp [go_sem]
  have q2 : W.cell? ⟨B + 1, 2, none⟩ = some (.int .i64 sw) := by rw [hW, hB]; simp [go_sem]
  have q3 : W.cell? ⟨B + 1, 3, none⟩ = some (.bool sa) := by rw [hW, hB]; simp [go_sem]
  have u0 : W.cell? ⟨B + 1 + 1, 0, none⟩ = some (.bool false) := by rw [hW, hB]; simp [go_sem]
  have u1 : W.cell? ⟨B + 1 + 1, 1, none⟩ = some (.int .i64 0) := by rw [hW, hB]; simp [go_sem]
  have u2 : W.cell? ⟨B + 1 + 1, 2, none⟩ = some (.int .i64 0) := by rw [hW, hB]; simp [go_sem]
  have u3 : W.cell? ⟨B + 1 + 1, 3, none⟩ = some (.bool false) := by rw [hW, hB]; simp [go_sem]
  have v0 : W.cell? ⟨B + 1 + 1 + 1, 0, none⟩ = some (.int .i64 0) := by rw [hW, hB]; simp [go_sem]
  have v1 : W.cell? ⟨B + 1 + 1 + 1, 1, none⟩ = some (.bool false) := by rw [hW, hB]; simp [go_sem]
  have v2 : W.cell? ⟨B + 1 + 1 + 1, 2, none⟩ = some (.int .i64 0) := by rw [hW, hB]; simp [go_sem]
  have fu0 : W.frozen? ⟨B + 1 + 1, 0, none⟩ = false := by rw [hW, hB]; simp [go_sem]
  have fu1 : W.frozen? ⟨B + 1 + 1, 1, none⟩ = false := by rw [hW, hB]; simp [go_sem]
  have fu2 : W.frozen? ⟨B + 1 + 1, 2, none⟩ = false := by rw [hW, hB]; simp [go_sem]
  have fu3 : W.frozen? ⟨B + 1 + 1, 3, none⟩ = false := by rw [hW, hB]; simp [go_sem]
  have fv0 : W.frozen? ⟨B + 1 + 1 + 1, 0, none⟩ = false := by rw [hW, hB]; simp [go_sem]
  have fv1 : W.frozen? ⟨B + 1 + 1 + 1, 1, none⟩ = false := by rw [hW, hB]; simp [go_sem]
  have fv2 : W.frozen? ⟨B + 1 + 1 + 1, 2, none⟩ = false := by rw [hW, hB]; simp [go_sem]
  have hb : Below w.heap.size w W := by rw [hW]; (focus repeat' (first | (with_reducible exact Below.refl _ _) | (with_reducible assumption) | (with_reducible refine Below.alloc ?_ ?_ _) | (with_reducible refine Below.drew ?_) | (with_reducible refine bdrewN ?_ _) | (with_reducible refine Below.setCell ?_ ?_ _) | (first | (with_reducible exact Nat.le_refl _) | (with_reducible assumption) | omega | (simp; omega) | (simp; done))))
  have zW : W.heap.size = w.heap.size + 4 := by rw [hW]; simp
  have HB := hide hb
  have HBB := hide hB
  have ZW := hide zW
  have hBW : B + 1 + 1 + 1 < W.heap.size := by omega
  have lrB : r < B ∧ rs < B := by omega
  have HLR := hide lrB
  clear hW hb hB zW lr lrB
  go_wp2_with fail
  refine (CD.out W HB.out).mono ?_
  rintro e w5 ⟨rfl, hro, ht⟩
  have sD : ∀ b, B ≤ b → b < W.heap.size → w5.heap[b]? = W.heap[b]? := fun b hb hl => ht.heap b hl (fun e => by have := HLR.out; omega)
  have p0 := cell_stay p0 (sD (B) (by omega) (by omega))
  have p1 := cell_stay p1 (sD (B) (by omega) (by omega))
  have q0 := cell_stay q0 (sD (B + 1) (by omega) (by omega))
  have q1 := cell_stay q1 (sD (B + 1) (by omega) (by omega))
  have q2 := cell_stay q2 (sD (B + 1) (by omega) (by omega))
  have q3 := cell_stay q3 (sD (B + 1) (by omega) (by omega))
  have u0 := cell_stay u0 (sD (B + 1 + 1) (by omega) (by omega))
  have u1 := cell_stay u1 (sD (B + 1 + 1) (by omega) (by omega))
  have u2 := cell_stay u2 (sD (B + 1 + 1) (by omega) (by omega))
  have u3 := cell_stay u3 (sD (B + 1 + 1) (by omega) (by omega))
  have v0 := cell_stay v0 (sD (B + 1 + 1 + 1) (by omega) (by omega))
  have v1 := cell_stay v1 (sD (B + 1 + 1 + 1) (by omega) (by omega))
  have v2 := cell_stay v2 (sD (B + 1 + 1 + 1) (by omega) (by omega))
  have fu0 := fro_stay fu0 (sD (B + 1 + 1) (by omega) (by omega))
  have fu1 := fro_stay fu1 (sD (B + 1 + 1) (by omega) (by omega))
  have fu2 := fro_stay fu2 (sD (B + 1 + 1) (by omega) (by omega))
  have fu3 := fro_stay fu3 (sD (B + 1 + 1) (by omega) (by omega))
  have fv0 := fro_stay fv0 (sD (B + 1 + 1 + 1) (by omega) (by omega))
  have fv1 := fro_stay fv1 (sD (B + 1 + 1 + 1) (by omega) (by omega))
  have fv2 := fro_stay fv2 (sD (B + 1 + 1 + 1) (by omega) (by omega))
  have HRO := hide hro
  have HT := hide ((Tch.of HB.out).trans ht)
  have z5 := HT.out.size
  have HL5 := hide (show r < w5.heap.size ∧ rs < w5.heap.size from hro.lt)
  clear hro ht sD z5
  go_wp2
  refine bodyPost_ret (v := .tuple #[.agg #[.bool false, .int .i64 0, .int .i64 0, .bool false], .agg #[.int .i64 (aa), .bool ay, .int .i64 0], .bool true]) (by simp [results, Try.f45, go_sem, u0, u1, u2, u3, v0, v1, v2]) rfl ⟨rfl, ?_, ?_⟩
  · have lrb := HLR.out
    repeat (first | with_reducible refine robj_dr ?_ | with_reducible refine robj_set ?_ (by omega) (by omega) _ _)
    with_reducible exact HRO.out
  · have hBB := HBB.out
    repeat (first | with_reducible refine tch_dr ?_ | with_reducible refine Tch.setN ?_ (by omega) _ _)
    with_reducible exact HT.out

set_option maxRecDepth 100000 in
set_option maxHeartbeats 4000000 in
theorem rhit_2 (r rs i n : Nat) (A : Ab) (x c sx sw : Int) (sa : Bool) (w : World) (h : RObj w r rs A) (hA : AbOk A n c) (hc : c ≤ 4611686018427387904) (hi : i < n) (heq : ∀ w, Sem.run Try.prog (binOp .eql 131 (.agg #[.bool true, .int .i64 sx, .int .i64 sw, .bool sa]) (.agg #[.bool true, .int .i64 A.mark, .int .i64 0, .bool false])) w = .ok (.bool true) w) : Calls Try.prog 45 #[.pointer (some ⟨r, 0, none⟩), .int .i64 (i : Int), .agg #[.int .i64 2, .int .i64 x], .agg #[.bool true, .int .i64 sx, .int .i64 sw, .bool sa]] w fun e w' => e = .returned (.tuple #[.agg #[.bool false, .int .i64 0, .int .i64 0, .bool false], .agg #[.int .i64 (doA A (i : Int) 2 x).1, .bool (doA A (i : Int) 2 x).2, .int .i64 0], .bool true]) ∧ RObj w' r rs (doS A (i : Int) 2 x) ∧ Tch (fun b => b = r ∨ b = rs) w w' := by
  have lr := h.lt
  have CD := hide (fun V (hV : Below w.heap.size w V) => Do_any r rs A i n 2 x c V (h.below hV) hA hc hi)
  have CL := hide (fun V (hV : Below w.heap.size w V) => look_2 r rs A V (h.below hV))
  have CI := hide (fun V (hV : Below w.heap.size w V) => idle_2 0 (i : Int) (.pointer (some ⟨r, 0, none⟩)) x A.mark V)
  obtain ⟨aa, haa⟩ : ∃ aa, aa = (doA A (i : Int) 2 x).1 := ⟨_, rfl⟩
  obtain ⟨ay, hay⟩ : ∃ ay, ay = (doA A (i : Int) 2 x).2 := ⟨_, rfl⟩
  unfold DoPost at CD
  rw [← haa, ← hay] at CD ⊢
  have H := hide h
  clear h hA hc hi haa hay
  go_enter Try.func45, Try.ntmps45
  go_upto_region 1 with fail
  obtain ⟨W, hW⟩ : ∃ W, W = (((w.alloc (.cells #[.int .i64 2, .int .i64 x] 57)).alloc (.cells #[.bool true, .int .i64 sx, .int .i64 sw, .bool sa] 131)).alloc (.cells #[.bool false, .int .i64 0, .int .i64 0, .bool false] 131)).alloc (.cells #[.int .i64 0, .bool false, .int .i64 0] 52) := ⟨_, rfl⟩
  rw [← hW]
  obtain ⟨B, hB⟩ : ∃ B, B = w.heap.size := ⟨_, rfl⟩
  rw [← hB]
  have p0 : W.cell? ⟨B, 0, none⟩ = some (.int .i64 2) := by rw [hW, hB]; simp [go_sem]
  have p1 : W.cell? ⟨B, 1, none⟩ = some (.int .i64 x) := by rw [hW, hB]; simp [go_sem]
  have q0 : W.cell? ⟨B + 1, 0, none⟩ = some (.bool true) := by rw [hW, hB]; simp [go_sem]
  have q1 : W.cell? ⟨B + 1, 1, none⟩ = some (.int .i64 sx) := by rw [hW, hB]; simp [go_sem]
  have q2 : W.cell? ⟨B + 1, 2, none⟩ = some (.int .i64 sw) := by rw [hW, hB]; simp [go_sem]
  have q3 : W.cell? ⟨B + 1, 3, none⟩ = some (.bool sa) := by rw [hW, hB]; simp [go_sem]
  have u0 : W.cell? ⟨B + 1 + 1, 0, none⟩ = some (.bool false) := by rw [hW, hB]; simp [go_sem]
  have u1 : W.cell? ⟨B + 1 + 1, 1, none⟩ = some (.int .i64 0) := by rw [hW, hB]; simp [go_sem]
  have u2 : W.cell? ⟨B + 1 + 1, 2, none⟩ = some (.int .i64 0) := by rw [hW, hB]; simp [go_sem]
  have u3 : W.cell? ⟨B + 1 + 1, 3, none⟩ = some (.bool false) := by rw [hW, hB]; simp [go_sem]
  have v0 : W.cell? ⟨B + 1 + 1 + 1, 0, none⟩ = some (.int .i64 0) := by rw [hW, hB]; simp [go_sem]
  have v1 : W.cell? ⟨B + 1 + 1 + 1, 1, none⟩ = some (.bool false) := by rw [hW, hB]; simp [go_sem]
  have v2 : W.cell? ⟨B + 1 + 1 + 1, 2, none⟩ = some (.int .i64 0) := by rw [hW, hB]; simp [go_sem]
  have fu0 : W.frozen? ⟨B + 1 + 1, 0, none⟩ = false := by rw [hW, hB]; simp [go_sem]
  have fu1 : W.frozen? ⟨B + 1 + 1, 1, none⟩ = false := by rw [hW, hB]; simp [go_sem]
  have fu2 : W.frozen? ⟨B + 1 + 1, 2, none⟩ = false := by rw [hW, hB]; simp [go_sem]
  have fu3 : W.frozen? ⟨B + 1 + 1, 3, none⟩ = false := by rw [hW, hB]; simp [go_sem]
  have fv0 : W.frozen? ⟨B + 1 + 1 + 1, 0, none⟩ = false := by rw [hW, hB]; simp [go_sem]
  have fv1 : W.frozen? ⟨B + 1 + 1 + 1, 1, none⟩ = false := by rw [hW, hB]; simp [go_sem]
  have fv2 : W.frozen? ⟨B + 1 + 1 + 1, 2, none⟩ = false := by rw [hW, hB]; simp [go_sem]
  have hb : Below w.heap.size w W := by rw [hW]; (focus repeat' (first | (with_reducible exact Below.refl _ _) | (with_reducible assumption) | (with_reducible refine Below.alloc ?_ ?_ _) | (with_reducible refine Below.drew ?_) | (with_reducible refine bdrewN ?_ _) | (with_reducible refine Below.setCell ?_ ?_ _) | (first | (with_reducible exact Nat.le_refl _) | (with_reducible assumption) | omega | (simp; omega) | (simp; done))))
  have zW : W.heap.size = w.heap.size + 4 := by rw [hW]; simp
  have HB := hide hb
  have HBB := hide hB
  have ZW := hide zW
  have hBW : B + 1 + 1 + 1 < W.heap.size := by omega
  have lrB : r < B ∧ rs < B := by omega
  have HLR := hide lrB
  clear hW hb hB zW lr lrB
  go_wp2_with fail
  refine (CL.out W HB.out).mono ?_
  rintro e w3 ⟨rfl, hb3⟩
  go_upto_region 5 with fail
  obtain ⟨X, hX⟩ : ∃ X, X = w3.alloc (.cells #[.bool true, .int .i64 A.mark, .int .i64 0, .bool false] 131) := ⟨_, rfl⟩
  rw [← hX]
  obtain ⟨tn, htn⟩ : ∃ tn, tn = w3.heap.size := ⟨_, rfl⟩
  rw [← htn]
  have sX : ∀ b, b < W.heap.size → X.heap[b]? = W.heap[b]? := fun b hl => by rw [hX]; exact (al_blk _ _ (Nat.lt_of_lt_of_le hl hb3.size)).trans (hb3.block b hl)
  have p0 := cell_stay p0 (sX (B) (by omega))
  have p1 := cell_stay p1 (sX (B) (by omega))
  have q0 := cell_stay q0 (sX (B + 1) (by omega))
  have q1 := cell_stay q1 (sX (B + 1) (by omega))
  have q2 := cell_stay q2 (sX (B + 1) (by omega))
  have q3 := cell_stay q3 (sX (B + 1) (by omega))
  have u0 := cell_stay u0 (sX (B + 1 + 1) (by omega))
  have u1 := cell_stay u1 (sX (B + 1 + 1) (by omega))
  have u2 := cell_stay u2 (sX (B + 1 + 1) (by omega))
  have u3 := cell_stay u3 (sX (B + 1 + 1) (by omega))
  have v0 := cell_stay v0 (sX (B + 1 + 1 + 1) (by omega))
  have v1 := cell_stay v1 (sX (B + 1 + 1 + 1) (by omega))
  have v2 := cell_stay v2 (sX (B + 1 + 1 + 1) (by omega))
  have fu0 := fro_stay fu0 (sX (B + 1 + 1) (by omega))
  have fu1 := fro_stay fu1 (sX (B + 1 + 1) (by omega))
  have fu2 := fro_stay fu2 (sX (B + 1 + 1) (by omega))
  have fu3 := fro_stay fu3 (sX (B + 1 + 1) (by omega))
  have fv0 := fro_stay fv0 (sX (B + 1 + 1 + 1) (by omega))
  have fv1 := fro_stay fv1 (sX (B + 1 + 1 + 1) (by omega))
  have fv2 := fro_stay fv2 (sX (B + 1 + 1 + 1) (by omega))
  have t0 : X.cell? ⟨tn, 0, none⟩ = some (.bool true) := by rw [hX, htn]; simp [go_sem]
  have t1 : X.cell? ⟨tn, 1, none⟩ = some (.int .i64 A.mark) := by rw [hX, htn]; simp [go_sem]
  have t2 : X.cell? ⟨tn, 2, none⟩ = some (.int .i64 0) := by rw [hX, htn]; simp [go_sem]
  have t3 : X.cell? ⟨tn, 3, none⟩ = some (.bool false) := by rw [hX, htn]; simp [go_sem]
  have bX : Below w.heap.size w X := by rw [hX]; exact (bstep HB.out hb3).alloc (bstep HB.out hb3).size _
  have HBX := hide bX
  have htb : B + 1 + 1 + 1 < tn := by have := hb3.size; omega
  have ltn : tn < X.heap.size := World.block_lt_of_cell? X _ t0
  have hXs : B + 1 + 1 + 1 < X.heap.size := by omega
  have hBW := hXs
  clear hX htn sX bX hb3
  go_wp2_with fail
  refine (CD.out X HBX.out).mono ?_
  rintro e w5 ⟨rfl, hro, ht⟩
  have sD : ∀ b, B ≤ b → b < X.heap.size → w5.heap[b]? = X.heap[b]? := fun b hb hl => ht.heap b hl (fun e => by have := HLR.out; omega)
  have p0 := cell_stay p0 (sD (B) (by omega) (by omega))
  have p1 := cell_stay p1 (sD (B) (by omega) (by omega))
  have q0 := cell_stay q0 (sD (B + 1) (by omega) (by omega))
  have q1 := cell_stay q1 (sD (B + 1) (by omega) (by omega))
  have q2 := cell_stay q2 (sD (B + 1) (by omega) (by omega))
  have q3 := cell_stay q3 (sD (B + 1) (by omega) (by omega))
  have u0 := cell_stay u0 (sD (B + 1 + 1) (by omega) (by omega))
  have u1 := cell_stay u1 (sD (B + 1 + 1) (by omega) (by omega))
  have u2 := cell_stay u2 (sD (B + 1 + 1) (by omega) (by omega))
  have u3 := cell_stay u3 (sD (B + 1 + 1) (by omega) (by omega))
  have v0 := cell_stay v0 (sD (B + 1 + 1 + 1) (by omega) (by omega))
  have v1 := cell_stay v1 (sD (B + 1 + 1 + 1) (by omega) (by omega))
  have v2 := cell_stay v2 (sD (B + 1 + 1 + 1) (by omega) (by omega))
  have fu0 := fro_stay fu0 (sD (B + 1 + 1) (by omega) (by omega))
  have fu1 := fro_stay fu1 (sD (B + 1 + 1) (by omega) (by omega))
  have fu2 := fro_stay fu2 (sD (B + 1 + 1) (by omega) (by omega))
  have fu3 := fro_stay fu3 (sD (B + 1 + 1) (by omega) (by omega))
  have fv0 := fro_stay fv0 (sD (B + 1 + 1 + 1) (by omega) (by omega))
  have fv1 := fro_stay fv1 (sD (B + 1 + 1 + 1) (by omega) (by omega))
  have fv2 := fro_stay fv2 (sD (B + 1 + 1 + 1) (by omega) (by omega))
  have HRO := hide hro
  have HT := hide ((Tch.of HBX.out).trans ht)
  have z5 := HT.out.size
  have HL5 := hide (show r < w5.heap.size ∧ rs < w5.heap.size from hro.lt)
  clear hro ht sD z5
  go_wp2
  refine bodyPost_ret (v := .tuple #[.agg #[.bool false, .int .i64 0, .int .i64 0, .bool false], .agg #[.int .i64 (aa), .bool ay, .int .i64 0], .bool true]) (by simp [results, Try.f45, go_sem, u0, u1, u2, u3, v0, v1, v2]) rfl ⟨rfl, ?_, ?_⟩
  · have lrb := HLR.out
    repeat (first | with_reducible refine robj_dr ?_ | with_reducible refine robj_set ?_ (by omega) (by omega) _ _)
    with_reducible exact HRO.out
  · have hBB := HBB.out
    repeat (first | with_reducible refine tch_dr ?_ | with_reducible refine Tch.setN ?_ (by omega) _ _)
    with_reducible exact HT.out

set_option maxRecDepth 100000 in
set_option maxHeartbeats 4000000 in
theorem ridle_2f (r rs i n : Nat) (A : Ab) (x c sx sw : Int) (sa : Bool) (w : World) (h : RObj w r rs A) (hA : AbOk A n c) (hc : c ≤ 4611686018427387904) (hi : i < n) (hid : idleA A (i : Int) 2 x = true) : Calls Try.prog 45 #[.pointer (some ⟨r, 0, none⟩), .int .i64 (i : Int), .agg #[.int .i64 2, .int .i64 x], .agg #[.bool false, .int .i64 sx, .int .i64 sw, .bool sa]] w fun e w' => e = .returned (.tuple #[.agg #[.bool false, .int .i64 0, .int .i64 0, .bool false], .agg #[.int .i64 (A.mark), .bool false, .int .i64 0], .bool true]) ∧ RObj w' r rs A ∧ Tch (fun b => b = r ∨ b = rs) w w' := by
  have lr := h.lt
  have CD := hide (fun V (hV : Below w.heap.size w V) => Do_any r rs A i n 2 x c V (h.below hV) hA hc hi)
  have CL := hide (fun V (hV : Below w.heap.size w V) => look_2 r rs A V (h.below hV))
  have CI := hide (fun V (hV : Below w.heap.size w V) => idle_2 0 (i : Int) (.pointer (some ⟨r, 0, none⟩)) x A.mark V)
  have hid2 : decide (x ≤ A.mark) = true := hid
  rw [hid2] at CI
  have H := hide h
  clear h hA hc hi hid hid2
  go_enter Try.func45, Try.ntmps45
  go_upto_region 1 with fail
  obtain ⟨W, hW⟩ : ∃ W, W = (((w.alloc (.cells #[.int .i64 2, .int .i64 x] 57)).alloc (.cells #[.bool false, .int .i64 sx, .int .i64 sw, .bool sa] 131)).alloc (.cells #[.bool false, .int .i64 0, .int .i64 0, .bool false] 131)).alloc (.cells #[.int .i64 0, .bool false, .int .i64 0] 52) := ⟨_, rfl⟩
  rw [← hW]
  obtain ⟨B, hB⟩ : ∃ B, B = w.heap.size := ⟨_, rfl⟩
  rw [← hB]
  have p0 : W.cell? ⟨B, 0, none⟩ = some (.int .i64 2) := by rw [hW, hB]; simp [go_sem]
  have p1 : W.cell? ⟨B, 1, none⟩ = some (.int .i64 x) := by rw [hW, hB]; simp [go_sem]
  have q0 : W.cell? ⟨B + 1, 0, none⟩ = some (.bool false) := by rw [hW, hB]; simp [go_sem]
  have q1 : W.cell? ⟨B + 1, 1, none⟩ = some (.int .i64 sx) := by rw [hW, hB]; simp [go_sem]
  have q2 : W.cell? ⟨B + 1, 2, none⟩ = some (.int .i64 sw) := by rw [hW, hB]; simp [go_sem]
  have q3 : W.cell? ⟨B + 1, 3, none⟩ = some (.bool sa) := by rw [hW, hB]; simp [go_sem]
  have u0 : W.cell? ⟨B + 1 + 1, 0, none⟩ = some (.bool false) := by rw [hW, hB]; simp [go_sem]
  have u1 : W.cell? ⟨B + 1 + 1, 1, none⟩ = some (.int .i64 0) := by rw [hW, hB]; simp [go_sem]
  have u2 : W.cell? ⟨B + 1 + 1, 2, none⟩ = some (.int .i64 0) := by rw [hW, hB]; simp [go_sem]
  have u3 : W.cell? ⟨B + 1 + 1, 3, none⟩ = some (.bool false) := by rw [hW, hB]; simp [go_sem]
  have v0 : W.cell? ⟨B + 1 + 1 + 1, 0, none⟩ = some (.int .i64 0) := by rw [hW, hB]; simp [go_sem]
  have v1 : W.cell? ⟨B + 1 + 1 + 1, 1, none⟩ = some (.bool false) := by rw [hW, hB]; simp [go_sem]
  have v2 : W.cell? ⟨B + 1 + 1 + 1, 2, none⟩ = some (.int .i64 0) := by rw [hW, hB]; simp [go_sem]
  have fu0 : W.frozen? ⟨B + 1 + 1, 0, none⟩ = false := by rw [hW, hB]; simp [go_sem]
  have fu1 : W.frozen? ⟨B + 1 + 1, 1, none⟩ = false := by rw [hW, hB]; simp [go_sem]
  have fu2 : W.frozen? ⟨B + 1 + 1, 2, none⟩ = false := by rw [hW, hB]; simp [go_sem]
  have fu3 : W.frozen? ⟨B + 1 + 1, 3, none⟩ = false := by rw [hW, hB]; simp [go_sem]
  have fv0 : W.frozen? ⟨B + 1 + 1 + 1, 0, none⟩ = false := by rw [hW, hB]; simp [go_sem]
  have fv1 : W.frozen? ⟨B + 1 + 1 + 1, 1, none⟩ = false := by rw [hW, hB]; simp [go_sem]
  have fv2 : W.frozen? ⟨B + 1 + 1 + 1, 2, none⟩ = false := by rw [hW, hB]; simp [go_sem]
  have hb : Below w.heap.size w W := by rw [hW]; (focus repeat' (first | (with_reducible exact Below.refl _ _) | (with_reducible assumption) | (with_reducible refine Below.alloc ?_ ?_ _) | (with_reducible refine Below.drew ?_) | (with_reducible refine bdrewN ?_ _) | (with_reducible refine Below.setCell ?_ ?_ _) | (first | (with_reducible exact Nat.le_refl _) | (with_reducible assumption) | omega | (simp; omega) | (simp; done))))
  have zW : W.heap.size = w.heap.size + 4 := by rw [hW]; simp
  have HB := hide hb
  have HBB := hide hB
  have ZW := hide zW
  have hBW : B + 1 + 1 + 1 < W.heap.size := by omega
  have lrB : r < B ∧ rs < B := by omega
  have HLR := hide lrB
  clear hW hb hB zW lr lrB
  go_wp2_with fail
  refine (CL.out W HB.out).mono ?_
  rintro e w3 ⟨rfl, hb3⟩
  go_upto_region 5 with fail
  obtain ⟨X, hX⟩ : ∃ X, X = w3.alloc (.cells #[.bool true, .int .i64 A.mark, .int .i64 0, .bool false] 131) := ⟨_, rfl⟩
  rw [← hX]
  obtain ⟨tn, htn⟩ : ∃ tn, tn = w3.heap.size := ⟨_, rfl⟩
  rw [← htn]
  have sX : ∀ b, b < W.heap.size → X.heap[b]? = W.heap[b]? := fun b hl => by rw [hX]; exact (al_blk _ _ (Nat.lt_of_lt_of_le hl hb3.size)).trans (hb3.block b hl)
  have p0 := cell_stay p0 (sX (B) (by omega))
  have p1 := cell_stay p1 (sX (B) (by omega))
  have q0 := cell_stay q0 (sX (B + 1) (by omega))
  have q1 := cell_stay q1 (sX (B + 1) (by omega))
  have q2 := cell_stay q2 (sX (B + 1) (by omega))
  have q3 := cell_stay q3 (sX (B + 1) (by omega))
  have u0 := cell_stay u0 (sX (B + 1 + 1) (by omega))
  have u1 := cell_stay u1 (sX (B + 1 + 1) (by omega))
  have u2 := cell_stay u2 (sX (B + 1 + 1) (by omega))
  have u3 := cell_stay u3 (sX (B + 1 + 1) (by omega))
  have v0 := cell_stay v0 (sX (B + 1 + 1 + 1) (by omega))
  have v1 := cell_stay v1 (sX (B + 1 + 1 + 1) (by omega))
  have v2 := cell_stay v2 (sX (B + 1 + 1 + 1) (by omega))
  have fu0 := fro_stay fu0 (sX (B + 1 + 1) (by omega))
  have fu1 := fro_stay fu1 (sX (B + 1 + 1) (by omega))
  have fu2 := fro_stay fu2 (sX (B + 1 + 1) (by omega))
  have fu3 := fro_stay fu3 (sX (B + 1 + 1) (by omega))
  have fv0 := fro_stay fv0 (sX (B + 1 + 1 + 1) (by omega))
  have fv1 := fro_stay fv1 (sX (B + 1 + 1 + 1) (by omega))
  have fv2 := fro_stay fv2 (sX (B + 1 + 1 + 1) (by omega))
  have t0 : X.cell? ⟨tn, 0, none⟩ = some (.bool true) := by rw [hX, htn]; simp [go_sem]
  have t1 : X.cell? ⟨tn, 1, none⟩ = some (.int .i64 A.mark) := by rw [hX, htn]; simp [go_sem]
  have t2 : X.cell? ⟨tn, 2, none⟩ = some (.int .i64 0) := by rw [hX, htn]; simp [go_sem]
  have t3 : X.cell? ⟨tn, 3, none⟩ = some (.bool false) := by rw [hX, htn]; simp [go_sem]
  have bX : Below w.heap.size w X := by rw [hX]; exact (bstep HB.out hb3).alloc (bstep HB.out hb3).size _
  have HBX := hide bX
  have htb : B + 1 + 1 + 1 < tn := by have := hb3.size; omega
  have ltn : tn < X.heap.size := World.block_lt_of_cell? X _ t0
  have hXs : B + 1 + 1 + 1 < X.heap.size := by omega
  have hBW := hXs
  clear hX htn sX bX hb3
  go_wp2_with fail
  refine (CI.out X HBX.out).mono ?_
  rintro e w6 ⟨rfl, hb6⟩
  have sY : ∀ b, b < X.heap.size → w6.heap[b]? = X.heap[b]? := fun b hl => hb6.block b hl
  have p0 := cell_stay p0 (sY (B) (by omega))
  have p1 := cell_stay p1 (sY (B) (by omega))
  have q0 := cell_stay q0 (sY (B + 1) (by omega))
  have q1 := cell_stay q1 (sY (B + 1) (by omega))
  have q2 := cell_stay q2 (sY (B + 1) (by omega))
  have q3 := cell_stay q3 (sY (B + 1) (by omega))
  have u0 := cell_stay u0 (sY (B + 1 + 1) (by omega))
  have u1 := cell_stay u1 (sY (B + 1 + 1) (by omega))
  have u2 := cell_stay u2 (sY (B + 1 + 1) (by omega))
  have u3 := cell_stay u3 (sY (B + 1 + 1) (by omega))
  have v0 := cell_stay v0 (sY (B + 1 + 1 + 1) (by omega))
  have v1 := cell_stay v1 (sY (B + 1 + 1 + 1) (by omega))
  have v2 := cell_stay v2 (sY (B + 1 + 1 + 1) (by omega))
  have t0 := cell_stay t0 (sY (tn) (by omega))
  have t1 := cell_stay t1 (sY (tn) (by omega))
  have t2 := cell_stay t2 (sY (tn) (by omega))
  have t3 := cell_stay t3 (sY (tn) (by omega))
  have fu0 := fro_stay fu0 (sY (B + 1 + 1) (by omega))
  have fu1 := fro_stay fu1 (sY (B + 1 + 1) (by omega))
  have fu2 := fro_stay fu2 (sY (B + 1 + 1) (by omega))
  have fu3 := fro_stay fu3 (sY (B + 1 + 1) (by omega))
  have fv0 := fro_stay fv0 (sY (B + 1 + 1 + 1) (by omega))
  have fv1 := fro_stay fv1 (sY (B + 1 + 1 + 1) (by omega))
  have fv2 := fro_stay fv2 (sY (B + 1 + 1 + 1) (by omega))
  have HB6 := hide (bstep HBX.out hb6)
  have z6 := hb6.size
  have l6 : B + 1 + 1 + 1 < w6.heap.size := by omega
  have lt6 : tn < w6.heap.size := by omega
  have nn1 : B + 1 + 1 ≠ tn := by omega
  have nn2 : B + 1 + 1 + 1 ≠ tn := by omega
  clear hb6 sY z6 ltn hXs hBW htb
  go_upto_region 8 with fail
  obtain ⟨Z, hZ⟩ : ∃ Z, Z = w6.alloc (.cells #[.int .i64 (A.mark), .bool false, .int .i64 0] 52) := ⟨_, rfl⟩
  rw [← hZ]
  obtain ⟨zn, hzn⟩ : ∃ zn, zn = w6.heap.size := ⟨_, rfl⟩
  rw [← hzn]
  have sZ : ∀ b, b < w6.heap.size → Z.heap[b]? = w6.heap[b]? := fun b hl => by rw [hZ]; exact al_blk _ _ hl
  have p0 := cell_stay p0 (sZ (B) (by omega))
  have p1 := cell_stay p1 (sZ (B) (by omega))
  have q0 := cell_stay q0 (sZ (B + 1) (by omega))
  have q1 := cell_stay q1 (sZ (B + 1) (by omega))
  have q2 := cell_stay q2 (sZ (B + 1) (by omega))
  have q3 := cell_stay q3 (sZ (B + 1) (by omega))
  have u0 := cell_stay u0 (sZ (B + 1 + 1) (by omega))
  have u1 := cell_stay u1 (sZ (B + 1 + 1) (by omega))
  have u2 := cell_stay u2 (sZ (B + 1 + 1) (by omega))
  have u3 := cell_stay u3 (sZ (B + 1 + 1) (by omega))
  have v0 := cell_stay v0 (sZ (B + 1 + 1 + 1) (by omega))
  have v1 := cell_stay v1 (sZ (B + 1 + 1 + 1) (by omega))
  have v2 := cell_stay v2 (sZ (B + 1 + 1 + 1) (by omega))
  have t0 := cell_stay t0 (sZ (tn) (by omega))
  have t1 := cell_stay t1 (sZ (tn) (by omega))
  have t2 := cell_stay t2 (sZ (tn) (by omega))
  have t3 := cell_stay t3 (sZ (tn) (by omega))
  have fu0 := fro_stay fu0 (sZ (B + 1 + 1) (by omega))
  have fu1 := fro_stay fu1 (sZ (B + 1 + 1) (by omega))
  have fu2 := fro_stay fu2 (sZ (B + 1 + 1) (by omega))
  have fu3 := fro_stay fu3 (sZ (B + 1 + 1) (by omega))
  have fv0 := fro_stay fv0 (sZ (B + 1 + 1 + 1) (by omega))
  have fv1 := fro_stay fv1 (sZ (B + 1 + 1 + 1) (by omega))
  have fv2 := fro_stay fv2 (sZ (B + 1 + 1 + 1) (by omega))
  have a0 : Z.cell? ⟨zn, 0, none⟩ = some (.int .i64 (A.mark)) := by rw [hZ, hzn]; simp [go_sem]
  have a1 : Z.cell? ⟨zn, 1, none⟩ = some (.bool false) := by rw [hZ, hzn]; simp [go_sem]
  have a2 : Z.cell? ⟨zn, 2, none⟩ = some (.int .i64 0) := by rw [hZ, hzn]; simp [go_sem]
  have HBZ := hide (show Below w.heap.size w Z by rw [hZ]; exact HB6.out.alloc HB6.out.size _)
  have nz1 : B + 1 + 1 ≠ zn := by omega
  have nz2 : B + 1 + 1 + 1 ≠ zn := by omega
  clear hZ hzn sZ l6 lt6
  go_wp2_with fail
  go_region
  go_wp2
  refine bodyPost_ret (v := .tuple #[.agg #[.bool false, .int .i64 0, .int .i64 0, .bool false], .agg #[.int .i64 (A.mark), .bool false, .int .i64 0], .bool true]) (by simp [results, Try.f45, go_sem, u0, u1, u2, u3, v0, v1, v2]) rfl ⟨rfl, ?_, ?_⟩
  · have lrb := HLR.out
    repeat (first | with_reducible refine robj_dr ?_ | with_reducible refine robj_set ?_ (by omega) (by omega) _ _)
    with_reducible exact H.out.below HBZ.out
  · have hBB := HBB.out
    repeat (first | with_reducible refine tch_dr ?_ | with_reducible refine Tch.setN ?_ (by omega) _ _)
    with_reducible exact Tch.of HBZ.out

set_option maxRecDepth 100000 in
set_option maxHeartbeats 4000000 in
theorem ridle_2s (r rs i n : Nat) (A : Ab) (x c sx sw : Int) (sa : Bool) (w : World) (h : RObj w r rs A) (hA : AbOk A n c) (hc : c ≤ 4611686018427387904) (hi : i < n) (heq : ∀ w, Sem.run Try.prog (binOp .eql 131 (.agg #[.bool true, .int .i64 sx, .int .i64 sw, .bool sa]) (.agg #[.bool true, .int .i64 A.mark, .int .i64 0, .bool false])) w = .ok (.bool false) w) (hid : idleA A (i : Int) 2 x = true) : Calls Try.prog 45 #[.pointer (some ⟨r, 0, none⟩), .int .i64 (i : Int), .agg #[.int .i64 2, .int .i64 x], .agg #[.bool true, .int .i64 sx, .int .i64 sw, .bool sa]] w fun e w' => e = .returned (.tuple #[.agg #[.bool false, .int .i64 0, .int .i64 0, .bool false], .agg #[.int .i64 (A.mark), .bool false, .int .i64 0], .bool true]) ∧ RObj w' r rs A ∧ Tch (fun b => b = r ∨ b = rs) w w' := by
  have lr := h.lt
  have CD := hide (fun V (hV : Below w.heap.size w V) => Do_any r rs A i n 2 x c V (h.below hV) hA hc hi)
  have CL := hide (fun V (hV : Below w.heap.size w V) => look_2 r rs A V (h.below hV))
  have CI := hide (fun V (hV : Below w.heap.size w V) => idle_2 0 (i : Int) (.pointer (some ⟨r, 0, none⟩)) x A.mark V)
  have hid2 : decide (x ≤ A.mark) = true := hid
  rw [hid2] at CI
  have H := hide h
  clear h hA hc hi hid hid2
  go_enter Try.func45, Try.ntmps45
  go_upto_region 1 with fail
  obtain ⟨W, hW⟩ : ∃ W, W = (((w.alloc (.cells #[.int .i64 2, .int .i64 x] 57)).alloc (.cells #[.bool true, .int .i64 sx, .int .i64 sw, .bool sa] 131)).alloc (.cells #[.bool false, .int .i64 0, .int .i64 0, .bool false] 131)).alloc (.cells #[.int .i64 0, .bool false, .int .i64 0] 52) := ⟨_, rfl⟩
  rw [← hW]
  obtain ⟨B, hB⟩ : ∃ B, B = w.heap.size := ⟨_, rfl⟩
  rw [← hB]
  have p0 : W.cell? ⟨B, 0, none⟩ = some (.int .i64 2) := by rw [hW, hB]; simp [go_sem]
  have p1 : W.cell? ⟨B, 1, none⟩ = some (.int .i64 x) := by rw [hW, hB]; simp [go_sem]
  have q0 : W.cell? ⟨B + 1, 0, none⟩ = some (.bool true) := by rw [hW, hB]; simp [go_sem]
  have q1 : W.cell? ⟨B + 1, 1, none⟩ = some (.int .i64 sx) := by rw [hW, hB]; simp [go_sem]
  have q2 : W.cell? ⟨B + 1, 2, none⟩ = some (.int .i64 sw) := by rw [hW, hB]; simp [go_sem]
  have q3 : W.cell? ⟨B + 1, 3, none⟩ = some (.bool sa) := by rw [hW, hB]; simp [go_sem]
  have u0 : W.cell? ⟨B + 1 + 1, 0, none⟩ = some (.bool false) := by rw [hW, hB]; simp [go_sem]
  have u1 : W.cell? ⟨B + 1 + 1, 1, none⟩ = some (.int .i64 0) := by rw [hW, hB]; simp [go_sem]
  have u2 : W.cell? ⟨B + 1 + 1, 2, none⟩ = some (.int .i64 0) := by rw [hW, hB]; simp [go_sem]
  have u3 : W.cell? ⟨B + 1 + 1, 3, none⟩ = some (.bool false) := by rw [hW, hB]; simp [go_sem]
  have v0 : W.cell? ⟨B + 1 + 1 + 1, 0, none⟩ = some (.int .i64 0) := by rw [hW, hB]; simp [go_sem]
  have v1 : W.cell? ⟨B + 1 + 1 + 1, 1, none⟩ = some (.bool false) := by rw [hW, hB]; simp [go_sem]
  have v2 : W.cell? ⟨B + 1 + 1 + 1, 2, none⟩ = some (.int .i64 0) := by rw [hW, hB]; simp [go_sem]
  have fu0 : W.frozen? ⟨B + 1 + 1, 0, none⟩ = false := by rw [hW, hB]; simp [go_sem]
  have fu1 : W.frozen? ⟨B + 1 + 1, 1, none⟩ = false := by rw [hW, hB]; simp [go_sem]
  have fu2 : W.frozen? ⟨B + 1 + 1, 2, none⟩ = false := by rw [hW, hB]; simp [go_sem]
  have fu3 : W.frozen? ⟨B + 1 + 1, 3, none⟩ = false := by rw [hW, hB]; simp [go_sem]
  have fv0 : W.frozen? ⟨B + 1 + 1 + 1, 0, none⟩ = false := by rw [hW, hB]; simp [go_sem]
  have fv1 : W.frozen? ⟨B + 1 + 1 + 1, 1, none⟩ = false := by rw [hW, hB]; simp [go_sem]
  have fv2 : W.frozen? ⟨B + 1 + 1 + 1, 2, none⟩ = false := by rw [hW, hB]; simp [go_sem]
  have hb : Below w.heap.size w W := by rw [hW]; (focus repeat' (first | (with_reducible exact Below.refl _ _) | (with_reducible assumption) | (with_reducible refine Below.alloc ?_ ?_ _) | (with_reducible refine Below.drew ?_) | (with_reducible refine bdrewN ?_ _) | (with_reducible refine Below.setCell ?_ ?_ _) | (first | (with_reducible exact Nat.le_refl _) | (with_reducible assumption) | omega | (simp; omega) | (simp; done))))
  have zW : W.heap.size = w.heap.size + 4 := by rw [hW]; simp
  have HB := hide hb
  have HBB := hide hB
  have ZW := hide zW
  have hBW : B + 1 + 1 + 1 < W.heap.size := by omega
  have lrB : r < B ∧ rs < B := by omega
  have HLR := hide lrB
  clear hW hb hB zW lr lrB
  go_wp2_with fail
  refine (CL.out W HB.out).mono ?_
  rintro e w3 ⟨rfl, hb3⟩
  go_upto_region 5 with fail
  obtain ⟨X, hX⟩ : ∃ X, X = w3.alloc (.cells #[.bool true, .int .i64 A.mark, .int .i64 0, .bool false] 131) := ⟨_, rfl⟩
  rw [← hX]
  obtain ⟨tn, htn⟩ : ∃ tn, tn = w3.heap.size := ⟨_, rfl⟩
  rw [← htn]
  have sX : ∀ b, b < W.heap.size → X.heap[b]? = W.heap[b]? := fun b hl => by rw [hX]; exact (al_blk _ _ (Nat.lt_of_lt_of_le hl hb3.size)).trans (hb3.block b hl)
  have p0 := cell_stay p0 (sX (B) (by omega))
  have p1 := cell_stay p1 (sX (B) (by omega))
  have q0 := cell_stay q0 (sX (B + 1) (by omega))
  have q1 := cell_stay q1 (sX (B + 1) (by omega))
  have q2 := cell_stay q2 (sX (B + 1) (by omega))
  have q3 := cell_stay q3 (sX (B + 1) (by omega))
  have u0 := cell_stay u0 (sX (B + 1 + 1) (by omega))
  have u1 := cell_stay u1 (sX (B + 1 + 1) (by omega))
  have u2 := cell_stay u2 (sX (B + 1 + 1) (by omega))
  have u3 := cell_stay u3 (sX (B + 1 + 1) (by omega))
  have v0 := cell_stay v0 (sX (B + 1 + 1 + 1) (by omega))
  have v1 := cell_stay v1 (sX (B + 1 + 1 + 1) (by omega))
  have v2 := cell_stay v2 (sX (B + 1 + 1 + 1) (by omega))
  have fu0 := fro_stay fu0 (sX (B + 1 + 1) (by omega))
  have fu1 := fro_stay fu1 (sX (B + 1 + 1) (by omega))
  have fu2 := fro_stay fu2 (sX (B + 1 + 1) (by omega))
  have fu3 := fro_stay fu3 (sX (B + 1 + 1) (by omega))
  have fv0 := fro_stay fv0 (sX (B + 1 + 1 + 1) (by omega))
  have fv1 := fro_stay fv1 (sX (B + 1 + 1 + 1) (by omega))
  have fv2 := fro_stay fv2 (sX (B + 1 + 1 + 1) (by omega))
  have t0 : X.cell? ⟨tn, 0, none⟩ = some (.bool true) := by rw [hX, htn]; simp [go_sem]
  have t1 : X.cell? ⟨tn, 1, none⟩ = some (.int .i64 A.mark) := by rw [hX, htn]; simp [go_sem]
  have t2 : X.cell? ⟨tn, 2, none⟩ = some (.int .i64 0) := by rw [hX, htn]; simp [go_sem]
  have t3 : X.cell? ⟨tn, 3, none⟩ = some (.bool false) := by rw [hX, htn]; simp [go_sem]
  have bX : Below w.heap.size w X := by rw [hX]; exact (bstep HB.out hb3).alloc (bstep HB.out hb3).size _
  have HBX := hide bX
  have htb : B + 1 + 1 + 1 < tn := by have := hb3.size; omega
  have ltn : tn < X.heap.size := World.block_lt_of_cell? X _ t0
  have hXs : B + 1 + 1 + 1 < X.heap.size := by omega
  have hBW := hXs
  clear hX htn sX bX hb3
  go_wp2_with fail
  refine (CI.out X HBX.out).mono ?_
  rintro e w6 ⟨rfl, hb6⟩
  have sY : ∀ b, b < X.heap.size → w6.heap[b]? = X.heap[b]? := fun b hl => hb6.block b hl
  have p0 := cell_stay p0 (sY (B) (by omega))
  have p1 := cell_stay p1 (sY (B) (by omega))
  have q0 := cell_stay q0 (sY (B + 1) (by omega))
  have q1 := cell_stay q1 (sY (B + 1) (by omega))
  have q2 := cell_stay q2 (sY (B + 1) (by omega))
  have q3 := cell_stay q3 (sY (B + 1) (by omega))
  have u0 := cell_stay u0 (sY (B + 1 + 1) (by omega))
  have u1 := cell_stay u1 (sY (B + 1 + 1) (by omega))
  have u2 := cell_stay u2 (sY (B + 1 + 1) (by omega))
  have u3 := cell_stay u3 (sY (B + 1 + 1) (by omega))
  have v0 := cell_stay v0 (sY (B + 1 + 1 + 1) (by omega))
  have v1 := cell_stay v1 (sY (B + 1 + 1 + 1) (by omega))
  have v2 := cell_stay v2 (sY (B + 1 + 1 + 1) (by omega))
  have t0 := cell_stay t0 (sY (tn) (by omega))
  have t1 := cell_stay t1 (sY (tn) (by omega))
  have t2 := cell_stay t2 (sY (tn) (by omega))
  have t3 := cell_stay t3 (sY (tn) (by omega))
  have fu0 := fro_stay fu0 (sY (B + 1 + 1) (by omega))
  have fu1 := fro_stay fu1 (sY (B + 1 + 1) (by omega))
  have fu2 := fro_stay fu2 (sY (B + 1 + 1) (by omega))
  have fu3 := fro_stay fu3 (sY (B + 1 + 1) (by omega))
  have fv0 := fro_stay fv0 (sY (B + 1 + 1 + 1) (by omega))
  have fv1 := fro_stay fv1 (sY (B + 1 + 1 + 1) (by omega))
  have fv2 := fro_stay fv2 (sY (B + 1 + 1 + 1) (by omega))
  have HB6 := hide (bstep HBX.out hb6)
  have z6 := hb6.size
  have l6 : B + 1 + 1 + 1 < w6.heap.size := by omega
  have lt6 : tn < w6.heap.size := by omega
  have nn1 : B + 1 + 1 ≠ tn := by omega
  have nn2 : B + 1 + 1 + 1 ≠ tn := by omega
  clear hb6 sY z6 ltn hXs hBW htb
  go_upto_region 8 with fail
  obtain ⟨Z, hZ⟩ : ∃ Z, Z = w6.alloc (.cells #[.int .i64 (A.mark), .bool false, .int .i64 0] 52) := ⟨_, rfl⟩
  rw [← hZ]
  obtain ⟨zn, hzn⟩ : ∃ zn, zn = w6.heap.size := ⟨_, rfl⟩
  rw [← hzn]
  have sZ : ∀ b, b < w6.heap.size → Z.heap[b]? = w6.heap[b]? := fun b hl => by rw [hZ]; exact al_blk _ _ hl
  have p0 := cell_stay p0 (sZ (B) (by omega))
  have p1 := cell_stay p1 (sZ (B) (by omega))
  have q0 := cell_stay q0 (sZ (B + 1) (by omega))
  have q1 := cell_stay q1 (sZ (B + 1) (by omega))
  have q2 := cell_stay q2 (sZ (B + 1) (by omega))
  have q3 := cell_stay q3 (sZ (B + 1) (by omega))
  have u0 := cell_stay u0 (sZ (B + 1 + 1) (by omega))
  have u1 := cell_stay u1 (sZ (B + 1 + 1) (by omega))
  have u2 := cell_stay u2 (sZ (B + 1 + 1) (by omega))
  have u3 := cell_stay u3 (sZ (B + 1 + 1) (by omega))
  have v0 := cell_stay v0 (sZ (B + 1 + 1 + 1) (by omega))
  have v1 := cell_stay v1 (sZ (B + 1 + 1 + 1) (by omega))
  have v2 := cell_stay v2 (sZ (B + 1 + 1 + 1) (by omega))
  have t0 := cell_stay t0 (sZ (tn) (by omega))
  have t1 := cell_stay t1 (sZ (tn) (by omega))
  have t2 := cell_stay t2 (sZ (tn) (by omega))
  have t3 := cell_stay t3 (sZ (tn) (by omega))
  have fu0 := fro_stay fu0 (sZ (B + 1 + 1) (by omega))
  have fu1 := fro_stay fu1 (sZ (B + 1 + 1) (by omega))
  have fu2 := fro_stay fu2 (sZ (B + 1 + 1) (by omega))
  have fu3 := fro_stay fu3 (sZ (B + 1 + 1) (by omega))
  have fv0 := fro_stay fv0 (sZ (B + 1 + 1 + 1) (by omega))
  have fv1 := fro_stay fv1 (sZ (B + 1 + 1 + 1) (by omega))
  have fv2 := fro_stay fv2 (sZ (B + 1 + 1 + 1) (by omega))
  have a0 : Z.cell? ⟨zn, 0, none⟩ = some (.int .i64 (A.mark)) := by rw [hZ, hzn]; simp [go_sem]
  have a1 : Z.cell? ⟨zn, 1, none⟩ = some (.bool false) := by rw [hZ, hzn]; simp [go_sem]
  have a2 : Z.cell? ⟨zn, 2, none⟩ = some (.int .i64 0) := by rw [hZ, hzn]; simp [go_sem]
  have HBZ := hide (show Below w.heap.size w Z by rw [hZ]; exact HB6.out.alloc HB6.out.size _)
  have nz1 : B + 1 + 1 ≠ zn := by omega
  have nz2 : B + 1 + 1 + 1 ≠ zn := by omega
  clear hZ hzn sZ l6 lt6
  go_wp2_with fail
  go_region
  go_wp2
  refine bodyPost_ret (v := .tuple #[.agg #[.bool false, .int .i64 0, .int .i64 0, .bool false], .agg #[.int .i64 (A.mark), .bool false, .int .i64 0], .bool true]) (by simp [results, Try.f45, go_sem, u0, u1, u2, u3, v0, v1, v2]) rfl ⟨rfl, ?_, ?_⟩
  · have lrb := HLR.out
    repeat (first | with_reducible refine robj_dr ?_ | with_reducible refine robj_set ?_ (by omega) (by omega) _ _)
    with_reducible exact H.out.below HBZ.out
  · have hBB := HBB.out
    repeat (first | with_reducible refine tch_dr ?_ | with_reducible refine Tch.setN ?_ (by omega) _ _)
    with_reducible exact Tch.of HBZ.out

set_option maxRecDepth 100000 in
set_option maxHeartbeats 4000000 in
theorem rlook_2f (r rs i n : Nat) (A : Ab) (x c sx sw : Int) (sa : Bool) (w : World) (h : RObj w r rs A) (hA : AbOk A n c) (hc : c ≤ 4611686018427387904) (hi : i < n) (hid : idleA A (i : Int) 2 x = false) : Calls Try.prog 45 #[.pointer (some ⟨r, 0, none⟩), .int .i64 (i : Int), .agg #[.int .i64 2, .int .i64 x], .agg #[.bool false, .int .i64 sx, .int .i64 sw, .bool sa]] w fun e w' => e = .returned (.tuple #[.agg #[.bool true, .int .i64 A.mark, .int .i64 0, .bool false], .agg #[.int .i64 (0), .bool false, .int .i64 0], .bool false]) ∧ RObj w' r rs A ∧ Tch (fun b => b = r ∨ b = rs) w w' := by
  have lr := h.lt
  have CD := hide (fun V (hV : Below w.heap.size w V) => Do_any r rs A i n 2 x c V (h.below hV) hA hc hi)
  have CL := hide (fun V (hV : Below w.heap.size w V) => look_2 r rs A V (h.below hV))
  have CI := hide (fun V (hV : Below w.heap.size w V) => idle_2 0 (i : Int) (.pointer (some ⟨r, 0, none⟩)) x A.mark V)
  have hid2 : decide (x ≤ A.mark) = false := hid
  rw [hid2] at CI
  have H := hide h
  clear h hA hc hi hid hid2
  go_enter Try.func45, Try.ntmps45
  go_upto_region 1 with fail
  obtain ⟨W, hW⟩ : ∃ W, W = (((w.alloc (.cells #[.int .i64 2, .int .i64 x] 57)).alloc (.cells #[.bool false, .int .i64 sx, .int .i64 sw, .bool sa] 131)).alloc (.cells #[.bool false, .int .i64 0, .int .i64 0, .bool false] 131)).alloc (.cells #[.int .i64 0, .bool false, .int .i64 0] 52) := ⟨_, rfl⟩
  rw [← hW]
  obtain ⟨B, hB⟩ : ∃ B, B = w.heap.size := ⟨_, rfl⟩
  rw [← hB]
  have p0 : W.cell? ⟨B, 0, none⟩ = some (.int .i64 2) := by rw [hW, hB]; simp [go_sem]
  have p1 : W.cell? ⟨B, 1, none⟩ = some (.int .i64 x) := by rw [hW, hB]; simp [go_sem]
  have q0 : W.cell? ⟨B + 1, 0, none⟩ = some (.bool false) := by rw [hW, hB]; simp [go_sem]
  have q1 : W.cell? ⟨B + 1, 1, none⟩ = some (.int .i64 sx) := by rw [hW, hB]; simp [go_sem]
  have q2 : W.cell? ⟨B + 1, 2, none⟩ = some (.int .i64 sw) := by rw [hW, hB]; simp [go_sem]
  have q3 : W.cell? ⟨B + 1, 3, none⟩ = some (.bool sa) := by rw [hW, hB]; simp [go_sem]
  have u0 : W.cell? ⟨B + 1 + 1, 0, none⟩ = some (.bool false) := by rw [hW, hB]; simp [go_sem]
  have u1 : W.cell? ⟨B + 1 + 1, 1, none⟩ = some (.int .i64 0) := by rw [hW, hB]; simp [go_sem]
  have u2 : W.cell? ⟨B + 1 + 1, 2, none⟩ = some (.int .i64 0) := by rw [hW, hB]; simp [go_sem]
  have u3 : W.cell? ⟨B + 1 + 1, 3, none⟩ = some (.bool false) := by rw [hW, hB]; simp [go_sem]
  have v0 : W.cell? ⟨B + 1 + 1 + 1, 0, none⟩ = some (.int .i64 0) := by rw [hW, hB]; simp [go_sem]
  have v1 : W.cell? ⟨B + 1 + 1 + 1, 1, none⟩ = some (.bool false) := by rw [hW, hB]; simp [go_sem]
  have v2 : W.cell? ⟨B + 1 + 1 + 1, 2, none⟩ = some (.int .i64 0) := by rw [hW, hB]; simp [go_sem]
  have fu0 : W.frozen? ⟨B + 1 + 1, 0, none⟩ = false := by rw [hW, hB]; simp [go_sem]
  have fu1 : W.frozen? ⟨B + 1 + 1, 1, none⟩ = false := by rw [hW, hB]; simp [go_sem]
  have fu2 : W.frozen? ⟨B + 1 + 1, 2, none⟩ = false := by rw [hW, hB]; simp [go_sem]
  have fu3 : W.frozen? ⟨B + 1 + 1, 3, none⟩ = false := by rw [hW, hB]; simp [go_sem]
  have fv0 : W.frozen? ⟨B + 1 + 1 + 1, 0, none⟩ = false := by rw [hW, hB]; simp [go_sem]
  have fv1 : W.frozen? ⟨B + 1 + 1 + 1, 1, none⟩ = false := by rw [hW, hB]; simp [go_sem]
  have fv2 : W.frozen? ⟨B + 1 + 1 + 1, 2, none⟩ = false := by rw [hW, hB]; simp [go_sem]
  have hb : Below w.heap.size w W := by rw [hW]; (focus repeat' (first | (with_reducible exact Below.refl _ _) | (with_reducible assumption) | (with_reducible refine Below.alloc ?_ ?_ _) | (with_reducible refine Below.drew ?_) | (with_reducible refine bdrewN ?_ _) | (with_reducible refine Below.setCell ?_ ?_ _) | (first | (with_reducible exact Nat.le_refl _) | (with_reducible assumption) | omega | (simp; omega) | (simp; done))))
  have zW : W.heap.size = w.heap.size + 4 := by rw [hW]; simp
  have HB := hide hb
  have HBB := hide hB
  have ZW := hide zW
  have hBW : B + 1 + 1 + 1 < W.heap.size := by omega
  have lrB : r < B ∧ rs < B := by omega
  have HLR := hide lrB
  clear hW hb hB zW lr lrB
  go_wp2_with fail
  refine (CL.out W HB.out).mono ?_
  rintro e w3 ⟨rfl, hb3⟩
  go_upto_region 5 with fail
  obtain ⟨X, hX⟩ : ∃ X, X = w3.alloc (.cells #[.bool true, .int .i64 A.mark, .int .i64 0, .bool false] 131) := ⟨_, rfl⟩
  rw [← hX]
  obtain ⟨tn, htn⟩ : ∃ tn, tn = w3.heap.size := ⟨_, rfl⟩
  rw [← htn]
  have sX : ∀ b, b < W.heap.size → X.heap[b]? = W.heap[b]? := fun b hl => by rw [hX]; exact (al_blk _ _ (Nat.lt_of_lt_of_le hl hb3.size)).trans (hb3.block b hl)
  have p0 := cell_stay p0 (sX (B) (by omega))
  have p1 := cell_stay p1 (sX (B) (by omega))
  have q0 := cell_stay q0 (sX (B + 1) (by omega))
  have q1 := cell_stay q1 (sX (B + 1) (by omega))
  have q2 := cell_stay q2 (sX (B + 1) (by omega))
  have q3 := cell_stay q3 (sX (B + 1) (by omega))
  have u0 := cell_stay u0 (sX (B + 1 + 1) (by omega))
  have u1 := cell_stay u1 (sX (B + 1 + 1) (by omega))
  have u2 := cell_stay u2 (sX (B + 1 + 1) (by omega))
  have u3 := cell_stay u3 (sX (B + 1 + 1) (by omega))
  have v0 := cell_stay v0 (sX (B + 1 + 1 + 1) (by omega))
  have v1 := cell_stay v1 (sX (B + 1 + 1 + 1) (by omega))
  have v2 := cell_stay v2 (sX (B + 1 + 1 + 1) (by omega))
  have fu0 := fro_stay fu0 (sX (B + 1 + 1) (by omega))
  have fu1 := fro_stay fu1 (sX (B + 1 + 1) (by omega))
  have fu2 := fro_stay fu2 (sX (B + 1 + 1) (by omega))
  have fu3 := fro_stay fu3 (sX (B + 1 + 1) (by omega))
  have fv0 := fro_stay fv0 (sX (B + 1 + 1 + 1) (by omega))
  have fv1 := fro_stay fv1 (sX (B + 1 + 1 + 1) (by omega))
  have fv2 := fro_stay fv2 (sX (B + 1 + 1 + 1) (by omega))
  have t0 : X.cell? ⟨tn, 0, none⟩ = some (.bool true) := by rw [hX, htn]; simp [go_sem]
  have t1 : X.cell? ⟨tn, 1, none⟩ = some (.int .i64 A.mark) := by rw [hX, htn]; simp [go_sem]
  have t2 : X.cell? ⟨tn, 2, none⟩ = some (.int .i64 0) := by rw [hX, htn]; simp [go_sem]
  have t3 : X.cell? ⟨tn, 3, none⟩ = some (.bool false) := by rw [hX, htn]; simp [go_sem]
  have bX : Below w.heap.size w X := by rw [hX]; exact (bstep HB.out hb3).alloc (bstep HB.out hb3).size _
  have HBX := hide bX
  have htb : B + 1 + 1 + 1 < tn := by have := hb3.size; omega
  have ltn : tn < X.heap.size := World.block_lt_of_cell? X _ t0
  have hXs : B + 1 + 1 + 1 < X.heap.size := by omega
  have hBW := hXs
  clear hX htn sX bX hb3
  go_wp2_with fail
  refine (CI.out X HBX.out).mono ?_
  rintro e w6 ⟨rfl, hb6⟩
  have sY : ∀ b, b < X.heap.size → w6.heap[b]? = X.heap[b]? := fun b hl => hb6.block b hl
  have p0 := cell_stay p0 (sY (B) (by omega))
  have p1 := cell_stay p1 (sY (B) (by omega))
  have q0 := cell_stay q0 (sY (B + 1) (by omega))
  have q1 := cell_stay q1 (sY (B + 1) (by omega))
  have q2 := cell_stay q2 (sY (B + 1) (by omega))
  have q3 := cell_stay q3 (sY (B + 1) (by omega))
  have u0 := cell_stay u0 (sY (B + 1 + 1) (by omega))
  have u1 := cell_stay u1 (sY (B + 1 + 1) (by omega))
  have u2 := cell_stay u2 (sY (B + 1 + 1) (by omega))
  have u3 := cell_stay u3 (sY (B + 1 + 1) (by omega))
  have v0 := cell_stay v0 (sY (B + 1 + 1 + 1) (by omega))
  have v1 := cell_stay v1 (sY (B + 1 + 1 + 1) (by omega))
  have v2 := cell_stay v2 (sY (B + 1 + 1 + 1) (by omega))
  have t0 := cell_stay t0 (sY (tn) (by omega))
  have t1 := cell_stay t1 (sY (tn) (by omega))
  have t2 := cell_stay t2 (sY (tn) (by omega))
  have t3 := cell_stay t3 (sY (tn) (by omega))
  have fu0 := fro_stay fu0 (sY (B + 1 + 1) (by omega))
  have fu1 := fro_stay fu1 (sY (B + 1 + 1) (by omega))
  have fu2 := fro_stay fu2 (sY (B + 1 + 1) (by omega))
  have fu3 := fro_stay fu3 (sY (B + 1 + 1) (by omega))
  have fv0 := fro_stay fv0 (sY (B + 1 + 1 + 1) (by omega))
  have fv1 := fro_stay fv1 (sY (B + 1 + 1 + 1) (by omega))
  have fv2 := fro_stay fv2 (sY (B + 1 + 1 + 1) (by omega))
  have HB6 := hide (bstep HBX.out hb6)
  have z6 := hb6.size
  have l6 : B + 1 + 1 + 1 < w6.heap.size := by omega
  have lt6 : tn < w6.heap.size := by omega
  have nn1 : B + 1 + 1 ≠ tn := by omega
  have nn2 : B + 1 + 1 + 1 ≠ tn := by omega
  clear hb6 sY z6 ltn hXs hBW htb
  go_upto_region 8 with fail
  obtain ⟨Z, hZ⟩ : ∃ Z, Z = w6.alloc (.cells #[.int .i64 (A.mark), .bool false, .int .i64 0] 52) := ⟨_, rfl⟩
  rw [← hZ]
  obtain ⟨zn, hzn⟩ : ∃ zn, zn = w6.heap.size := ⟨_, rfl⟩
  rw [← hzn]
  have sZ : ∀ b, b < w6.heap.size → Z.heap[b]? = w6.heap[b]? := fun b hl => by rw [hZ]; exact al_blk _ _ hl
  have p0 := cell_stay p0 (sZ (B) (by omega))
  have p1 := cell_stay p1 (sZ (B) (by omega))
  have q0 := cell_stay q0 (sZ (B + 1) (by omega))
  have q1 := cell_stay q1 (sZ (B + 1) (by omega))
  have q2 := cell_stay q2 (sZ (B + 1) (by omega))
  have q3 := cell_stay q3 (sZ (B + 1) (by omega))
  have u0 := cell_stay u0 (sZ (B + 1 + 1) (by omega))
  have u1 := cell_stay u1 (sZ (B + 1 + 1) (by omega))
  have u2 := cell_stay u2 (sZ (B + 1 + 1) (by omega))
  have u3 := cell_stay u3 (sZ (B + 1 + 1) (by omega))
  have v0 := cell_stay v0 (sZ (B + 1 + 1 + 1) (by omega))
  have v1 := cell_stay v1 (sZ (B + 1 + 1 + 1) (by omega))
  have v2 := cell_stay v2 (sZ (B + 1 + 1 + 1) (by omega))
  have t0 := cell_stay t0 (sZ (tn) (by omega))
  have t1 := cell_stay t1 (sZ (tn) (by omega))
  have t2 := cell_stay t2 (sZ (tn) (by omega))
  have t3 := cell_stay t3 (sZ (tn) (by omega))
  have fu0 := fro_stay fu0 (sZ (B + 1 + 1) (by omega))
  have fu1 := fro_stay fu1 (sZ (B + 1 + 1) (by omega))
  have fu2 := fro_stay fu2 (sZ (B + 1 + 1) (by omega))
  have fu3 := fro_stay fu3 (sZ (B + 1 + 1) (by omega))
  have fv0 := fro_stay fv0 (sZ (B + 1 + 1 + 1) (by omega))
  have fv1 := fro_stay fv1 (sZ (B + 1 + 1 + 1) (by omega))
  have fv2 := fro_stay fv2 (sZ (B + 1 + 1 + 1) (by omega))
  have a0 : Z.cell? ⟨zn, 0, none⟩ = some (.int .i64 (A.mark)) := by rw [hZ, hzn]; simp [go_sem]
  have a1 : Z.cell? ⟨zn, 1, none⟩ = some (.bool false) := by rw [hZ, hzn]; simp [go_sem]
  have a2 : Z.cell? ⟨zn, 2, none⟩ = some (.int .i64 0) := by rw [hZ, hzn]; simp [go_sem]
  have HBZ := hide (show Below w.heap.size w Z by rw [hZ]; exact HB6.out.alloc HB6.out.size _)
  have nz1 : B + 1 + 1 ≠ zn := by omega
  have nz2 : B + 1 + 1 + 1 ≠ zn := by omega
  clear hZ hzn sZ l6 lt6
  go_wp2_with fail
  try go_wp2
  refine bodyPost_ret (v := .tuple #[.agg #[.bool true, .int .i64 A.mark, .int .i64 0, .bool false], .agg #[.int .i64 (0), .bool false, .int .i64 0], .bool false]) (by simp [results, Try.f45, go_sem, u0, u1, u2, u3, v0, v1, v2]) rfl ⟨rfl, ?_, ?_⟩
  · have lrb := HLR.out
    repeat (first | with_reducible refine robj_dr ?_ | with_reducible refine robj_set ?_ (by omega) (by omega) _ _)
    with_reducible exact H.out.below HBZ.out
  · have hBB := HBB.out
    repeat (first | with_reducible refine tch_dr ?_ | with_reducible refine Tch.setN ?_ (by omega) _ _)
    with_reducible exact Tch.of HBZ.out

set_option maxRecDepth 100000 in
set_option maxHeartbeats 4000000 in
theorem rlook_2s (r rs i n : Nat) (A : Ab) (x c sx sw : Int) (sa : Bool) (w : World) (h : RObj w r rs A) (hA : AbOk A n c) (hc : c ≤ 4611686018427387904) (hi : i < n) (heq : ∀ w, Sem.run Try.prog (binOp .eql 131 (.agg #[.bool true, .int .i64 sx, .int .i64 sw, .bool sa]) (.agg #[.bool true, .int .i64 A.mark, .int .i64 0, .bool false])) w = .ok (.bool false) w) (hid : idleA A (i : Int) 2 x = false) : Calls Try.prog 45 #[.pointer (some ⟨r, 0, none⟩), .int .i64 (i : Int), .agg #[.int .i64 2, .int .i64 x], .agg #[.bool true, .int .i64 sx, .int .i64 sw, .bool sa]] w fun e w' => e = .returned (.tuple #[.agg #[.bool true, .int .i64 A.mark, .int .i64 0, .bool false], .agg #[.int .i64 (0), .bool false, .int .i64 0], .bool false]) ∧ RObj w' r rs A ∧ Tch (fun b => b = r ∨ b = rs) w w' := by
  have lr := h.lt
  have CD := hide (fun V (hV : Below w.heap.size w V) => Do_any r rs A i n 2 x c V (h.below hV) hA hc hi)
  have CL := hide (fun V (hV : Below w.heap.size w V) => look_2 r rs A V (h.below hV))
  have CI := hide (fun V (hV : Below w.heap.size w V) => idle_2 0 (i : Int) (.pointer (some ⟨r, 0, none⟩)) x A.mark V)
  have hid2 : decide (x ≤ A.mark) = false := hid
  rw [hid2] at CI
  have H := hide h
  clear h hA hc hi hid hid2
  go_enter Try.func45, Try.ntmps45
  go_upto_region 1 with fail
  obtain ⟨W, hW⟩ : ∃ W, W = (((w.alloc (.cells #[.int .i64 2, .int .i64 x] 57)).alloc (.cells #[.bool true, .int .i64 sx, .int .i64 sw, .bool sa] 131)).alloc (.cells #[.bool false, .int .i64 0, .int .i64 0, .bool false] 131)).alloc (.cells #[.int .i64 0, .bool false, .int .i64 0] 52) := ⟨_, rfl⟩
  rw [← hW]
  obtain ⟨B, hB⟩ : ∃ B, B = w.heap.size := ⟨_, rfl⟩
  rw [← hB]
  have p0 : W.cell? ⟨B, 0, none⟩ = some (.int .i64 2) := by rw [hW, hB]; simp [go_sem]
  have p1 : W.cell? ⟨B, 1, none⟩ = some (.int .i64 x) := by rw [hW, hB]; simp [go_sem]
  have q0 : W.cell? ⟨B + 1, 0, none⟩ = some (.bool true) := by rw [hW, hB]; simp [go_sem]
  have q1 : W.cell? ⟨B + 1, 1, none⟩ = some (.int .i64 sx) := by rw [hW, hB]; simp [go_sem]
  have q2 : W.cell? ⟨B + 1, 2, none⟩ = some (.int .i64 sw) := by rw [hW, hB]; simp [go_sem]
  have q3 : W.cell? ⟨B + 1, 3, none⟩ = some (.bool sa) := by rw [hW, hB]; simp [go_sem]
  have u0 : W.cell? ⟨B + 1 + 1, 0, none⟩ = some (.bool false) := by rw [hW, hB]; simp [go_sem]
  have u1 : W.cell? ⟨B + 1 + 1, 1, none⟩ = some (.int .i64 0) := by rw [hW, hB]; simp [go_sem]
  have u2 : W.cell? ⟨B + 1 + 1, 2, none⟩ = some (.int .i64 0) := by rw [hW, hB]; simp [go_sem]
  have u3 : W.cell? ⟨B + 1 + 1, 3, none⟩ = some (.bool false) := by rw [hW, hB]; simp [go_sem]
  have v0 : W.cell? ⟨B + 1 + 1 + 1, 0, none⟩ = some (.int .i64 0) := by rw [hW, hB]; simp [go_sem]
  have v1 : W.cell? ⟨B + 1 + 1 + 1, 1, none⟩ = some (.bool false) := by rw [hW, hB]; simp [go_sem]
  have v2 : W.cell? ⟨B + 1 + 1 + 1, 2, none⟩ = some (.int .i64 0) := by rw [hW, hB]; simp [go_sem]
  have fu0 : W.frozen? ⟨B + 1 + 1, 0, none⟩ = false := by rw [hW, hB]; simp [go_sem]
  have fu1 : W.frozen? ⟨B + 1 + 1, 1, none⟩ = false := by rw [hW, hB]; simp [go_sem]
  have fu2 : W.frozen? ⟨B + 1 + 1, 2, none⟩ = false := by rw [hW, hB]; simp [go_sem]
  have fu3 : W.frozen? ⟨B + 1 + 1, 3, none⟩ = false := by rw [hW, hB]; simp [go_sem]
  have fv0 : W.frozen? ⟨B + 1 + 1 + 1, 0, none⟩ = false := by rw [hW, hB]; simp [go_sem]
  have fv1 : W.frozen? ⟨B + 1 + 1 + 1, 1, none⟩ = false := by rw [hW, hB]; simp [go_sem]
  have fv2 : W.frozen? ⟨B + 1 + 1 + 1, 2, none⟩ = false := by rw [hW, hB]; simp [go_sem]
  have hb : Below w.heap.size w W := by rw [hW]; (focus repeat' (first | (with_reducible exact Below.refl _ _) | (with_reducible assumption) | (with_reducible refine Below.alloc ?_ ?_ _) | (with_reducible refine Below.drew ?_) | (with_reducible refine bdrewN ?_ _) | (with_reducible refine Below.setCell ?_ ?_ _) | (first | (with_reducible exact Nat.le_refl _) | (with_reducible assumption) | omega | (simp; omega) | (simp; done))))
  have zW : W.heap.size = w.heap.size + 4 := by rw [hW]; simp
  have HB := hide hb
  have HBB := hide hB
  have ZW := hide zW
  have hBW : B + 1 + 1 + 1 < W.heap.size := by omega
  have lrB : r < B ∧ rs < B := by omega
  have HLR := hide lrB
  clear hW hb hB zW lr lrB
  go_wp2_with fail
  refine (CL.out W HB.out).mono ?_
  rintro e w3 ⟨rfl, hb3⟩
  go_upto_region 5 with fail
  obtain ⟨X, hX⟩ : ∃ X, X = w3.alloc (.cells #[.bool true, .int .i64 A.mark, .int .i64 0, .bool false] 131) := ⟨_, rfl⟩
  rw [← hX]
  obtain ⟨tn, htn⟩ : ∃ tn, tn = w3.heap.size := ⟨_, rfl⟩
  rw [← htn]
  have sX : ∀ b, b < W.heap.size → X.heap[b]? = W.heap[b]? := fun b hl => by rw [hX]; exact (al_blk _ _ (Nat.lt_of_lt_of_le hl hb3.size)).trans (hb3.block b hl)
  have p0 := cell_stay p0 (sX (B) (by omega))
  have p1 := cell_stay p1 (sX (B) (by omega))
  have q0 := cell_stay q0 (sX (B + 1) (by omega))
  have q1 := cell_stay q1 (sX (B + 1) (by omega))
  have q2 := cell_stay q2 (sX (B + 1) (by omega))
  have q3 := cell_stay q3 (sX (B + 1) (by omega))
  have u0 := cell_stay u0 (sX (B + 1 + 1) (by omega))
  have u1 := cell_stay u1 (sX (B + 1 + 1) (by omega))
  have u2 := cell_stay u2 (sX (B + 1 + 1) (by omega))
  have u3 := cell_stay u3 (sX (B + 1 + 1) (by omega))
  have v0 := cell_stay v0 (sX (B + 1 + 1 + 1) (by omega))
  have v1 := cell_stay v1 (sX (B + 1 + 1 + 1) (by omega))
  have v2 := cell_stay v2 (sX (B + 1 + 1 + 1) (by omega))
  have fu0 := fro_stay fu0 (sX (B + 1 + 1) (by omega))
  have fu1 := fro_stay fu1 (sX (B + 1 + 1) (by omega))
  have fu2 := fro_stay fu2 (sX (B + 1 + 1) (by omega))
  have fu3 := fro_stay fu3 (sX (B + 1 + 1) (by omega))
  have fv0 := fro_stay fv0 (sX (B + 1 + 1 + 1) (by omega))
  have fv1 := fro_stay fv1 (sX (B + 1 + 1 + 1) (by omega))
  have fv2 := fro_stay fv2 (sX (B + 1 + 1 + 1) (by omega))
  have t0 : X.cell? ⟨tn, 0, none⟩ = some (.bool true) := by rw [hX, htn]; simp [go_sem]
  have t1 : X.cell? ⟨tn, 1, none⟩ = some (.int .i64 A.mark) := by rw [hX, htn]; simp [go_sem]
  have t2 : X.cell? ⟨tn, 2, none⟩ = some (.int .i64 0) := by rw [hX, htn]; simp [go_sem]
  have t3 : X.cell? ⟨tn, 3, none⟩ = some (.bool false) := by rw [hX, htn]; simp [go_sem]
  have bX : Below w.heap.size w X := by rw [hX]; exact (bstep HB.out hb3).alloc (bstep HB.out hb3).size _
  have HBX := hide bX
  have htb : B + 1 + 1 + 1 < tn := by have := hb3.size; omega
  have ltn : tn < X.heap.size := World.block_lt_of_cell? X _ t0
  have hXs : B + 1 + 1 + 1 < X.heap.size := by omega
  have hBW := hXs
  clear hX htn sX bX hb3
  go_wp2_with fail
  refine (CI.out X HBX.out).mono ?_
  rintro e w6 ⟨rfl, hb6⟩
  have sY : ∀ b, b < X.heap.size → w6.heap[b]? = X.heap[b]? := fun b hl => hb6.block b hl
  have p0 := cell_stay p0 (sY (B) (by omega))
  have p1 := cell_stay p1 (sY (B) (by omega))
  have q0 := cell_stay q0 (sY (B + 1) (by omega))
  have q1 := cell_stay q1 (sY (B + 1) (by omega))
  have q2 := cell_stay q2 (sY (B + 1) (by omega))
  have q3 := cell_stay q3 (sY (B + 1) (by omega))
  have u0 := cell_stay u0 (sY (B + 1 + 1) (by omega))
  have u1 := cell_stay u1 (sY (B + 1 + 1) (by omega))
  have u2 := cell_stay u2 (sY (B + 1 + 1) (by omega))
  have u3 := cell_stay u3 (sY (B + 1 + 1) (by omega))
  have v0 := cell_stay v0 (sY (B + 1 + 1 + 1) (by omega))
  have v1 := cell_stay v1 (sY (B + 1 + 1 + 1) (by omega))
  have v2 := cell_stay v2 (sY (B + 1 + 1 + 1) (by omega))
  have t0 := cell_stay t0 (sY (tn) (by omega))
  have t1 := cell_stay t1 (sY (tn) (by omega))
  have t2 := cell_stay t2 (sY (tn) (by omega))
  have t3 := cell_stay t3 (sY (tn) (by omega))
  have fu0 := fro_stay fu0 (sY (B + 1 + 1) (by omega))
  have fu1 := fro_stay fu1 (sY (B + 1 + 1) (by omega))
  have fu2 := fro_stay fu2 (sY (B + 1 + 1) (by omega))
  have fu3 := fro_stay fu3 (sY (B + 1 + 1) (by omega))
  have fv0 := fro_stay fv0 (sY (B + 1 + 1 + 1) (by omega))
  have fv1 := fro_stay fv1 (sY (B + 1 + 1 + 1) (by omega))
  have fv2 := fro_stay fv2 (sY (B + 1 + 1 + 1) (by omega))
  have HB6 := hide (bstep HBX.out hb6)
  have z6 := hb6.size
  have l6 : B + 1 + 1 + 1 < w6.heap.size := by omega
  have lt6 : tn < w6.heap.size := by omega
  have nn1 : B + 1 + 1 ≠ tn := by omega
  have nn2 : B + 1 + 1 + 1 ≠ tn := by omega
  clear hb6 sY z6 ltn hXs hBW htb
  go_upto_region 8 with fail
  obtain ⟨Z, hZ⟩ : ∃ Z, Z = w6.alloc (.cells #[.int .i64 (A.mark), .bool false, .int .i64 0] 52) := ⟨_, rfl⟩
  rw [← hZ]
  obtain ⟨zn, hzn⟩ : ∃ zn, zn = w6.heap.size := ⟨_, rfl⟩
  rw [← hzn]
  have sZ : ∀ b, b < w6.heap.size → Z.heap[b]? = w6.heap[b]? := fun b hl => by rw [hZ]; exact al_blk _ _ hl
  have p0 := cell_stay p0 (sZ (B) (by omega))
  have p1 := cell_stay p1 (sZ (B) (by omega))
  have q0 := cell_stay q0 (sZ (B + 1) (by omega))
  have q1 := cell_stay q1 (sZ (B + 1) (by omega))
  have q2 := cell_stay q2 (sZ (B + 1) (by omega))
  have q3 := cell_stay q3 (sZ (B + 1) (by omega))
  have u0 := cell_stay u0 (sZ (B + 1 + 1) (by omega))
  have u1 := cell_stay u1 (sZ (B + 1 + 1) (by omega))
  have u2 := cell_stay u2 (sZ (B + 1 + 1) (by omega))
  have u3 := cell_stay u3 (sZ (B + 1 + 1) (by omega))
  have v0 := cell_stay v0 (sZ (B + 1 + 1 + 1) (by omega))
  have v1 := cell_stay v1 (sZ (B + 1 + 1 + 1) (by omega))
  have v2 := cell_stay v2 (sZ (B + 1 + 1 + 1) (by omega))
  have t0 := cell_stay t0 (sZ (tn) (by omega))
  have t1 := cell_stay t1 (sZ (tn) (by omega))
  have t2 := cell_stay t2 (sZ (tn) (by omega))
  have t3 := cell_stay t3 (sZ (tn) (by omega))
  have fu0 := fro_stay fu0 (sZ (B + 1 + 1) (by omega))
  have fu1 := fro_stay fu1 (sZ (B + 1 + 1) (by omega))
  have fu2 := fro_stay fu2 (sZ (B + 1 + 1) (by omega))
  have fu3 := fro_stay fu3 (sZ (B + 1 + 1) (by omega))
  have fv0 := fro_stay fv0 (sZ (B + 1 + 1 + 1) (by omega))
  have fv1 := fro_stay fv1 (sZ (B + 1 + 1 + 1) (by omega))
  have fv2 := fro_stay fv2 (sZ (B + 1 + 1 + 1) (by omega))
  have a0 : Z.cell? ⟨zn, 0, none⟩ = some (.int .i64 (A.mark)) := by rw [hZ, hzn]; simp [go_sem]
  have a1 : Z.cell? ⟨zn, 1, none⟩ = some (.bool false) := by rw [hZ, hzn]; simp [go_sem]
  have a2 : Z.cell? ⟨zn, 2, none⟩ = some (.int .i64 0) := by rw [hZ, hzn]; simp [go_sem]
  have HBZ := hide (show Below w.heap.size w Z by rw [hZ]; exact HB6.out.alloc HB6.out.size _)
  have nz1 : B + 1 + 1 ≠ zn := by omega
  have nz2 : B + 1 + 1 + 1 ≠ zn := by omega
  clear hZ hzn sZ l6 lt6
  go_wp2_with fail
  try go_wp2
  refine bodyPost_ret (v := .tuple #[.agg #[.bool true, .int .i64 A.mark, .int .i64 0, .bool false], .agg #[.int .i64 (0), .bool false, .int .i64 0], .bool false]) (by simp [results, Try.f45, go_sem, u0, u1, u2, u3, v0, v1, v2]) rfl ⟨rfl, ?_, ?_⟩
  · have lrb := HLR.out
    repeat (first | with_reducible refine robj_dr ?_ | with_reducible refine robj_set ?_ (by omega) (by omega) _ _)
    with_reducible exact H.out.below HBZ.out
  · have hBB := HBB.out
    repeat (first | with_reducible refine tch_dr ?_ | with_reducible refine Tch.setN ?_ (by omega) _ _)
    with_reducible exact Tch.of HBZ.out

set_option maxRecDepth 100000 in
set_option maxHeartbeats 4000000 in
theorem rhit_3 (r rs i n : Nat) (A : Ab) (x c sx sw : Int) (sa : Bool) (w : World) (h : RObj w r rs A) (hA : AbOk A n c) (hc : c ≤ 4611686018427387904) (hi : i < n) (heq : ∀ w, Sem.run Try.prog (binOp .eql 131 (.agg #[.bool true, .int .i64 sx, .int .i64 sw, .bool sa]) (.agg #[.bool true, .int .i64 (bX A.bs), .int .i64 (bWho A.bs), .bool A.bs.isSome])) w = .ok (.bool true) w) : Calls Try.prog 45 #[.pointer (some ⟨r, 0, none⟩), .int .i64 (i : Int), .agg #[.int .i64 3, .int .i64 x], .agg #[.bool true, .int .i64 sx, .int .i64 sw, .bool sa]] w fun e w' => e = .returned (.tuple #[.agg #[.bool false, .int .i64 0, .int .i64 0, .bool false], .agg #[.int .i64 (doA A (i : Int) 3 x).1, .bool (doA A (i : Int) 3 x).2, .int .i64 0], .bool true]) ∧ RObj w' r rs (doS A (i : Int) 3 x) ∧ Tch (fun b => b = r ∨ b = rs) w w' := by
  have lr := h.lt
  have CD := hide (fun V (hV : Below w.heap.size w V) => Do_any r rs A i n 3 x c V (h.below hV) hA hc hi)
  have CL := hide (fun V (hV : Below w.heap.size w V) => look_3 r rs A V (h.below hV))
  have CI := hide (fun V (hV : Below w.heap.size w V) => idle_3 A.bs (i : Int) x (.pointer (some ⟨r, 0, none⟩)) V)
  obtain ⟨aa, haa⟩ : ∃ aa, aa = (doA A (i : Int) 3 x).1 := ⟨_, rfl⟩
  obtain ⟨ay, hay⟩ : ∃ ay, ay = (doA A (i : Int) 3 x).2 := ⟨_, rfl⟩
  unfold DoPost at CD
  rw [← haa, ← hay] at CD ⊢
  have H := hide h
  clear h hA hc hi haa hay
  go_enter Try.func45, Try.ntmps45
  go_upto_region 1 with fail
  obtain ⟨W, hW⟩ : ∃ W, W = (((w.alloc (.cells #[.int .i64 3, .int .i64 x] 57)).alloc (.cells #[.bool true, .int .i64 sx, .int .i64 sw, .bool sa] 131)).alloc (.cells #[.bool false, .int .i64 0, .int .i64 0, .bool false] 131)).alloc (.cells #[.int .i64 0, .bool false, .int .i64 0] 52) := ⟨_, rfl⟩
  rw [← hW]
  obtain ⟨B, hB⟩ : ∃ B, B = w.heap.size := ⟨_, rfl⟩
  rw [← hB]
  have p0 : W.cell? ⟨B, 0, none⟩ = some (.int .i64 3) := by rw [hW, hB]; simp [go_sem]
  have p1 : W.cell? ⟨B, 1, none⟩ = some (.int .i64 x) := by rw [hW, hB]; simp [go_sem]
  have q0 : W.cell? ⟨B + 1, 0, none⟩ = some (.bool true) := by rw [hW, hB]; simp [go_sem]
  have q1 : W.cell? ⟨B + 1, 1, none⟩ = some (.int .i64 sx) := by rw [hW, hB]; simp [go_sem]
  have q2 : W.cell? ⟨B + 1, 2, none⟩ = some (.int .i64 sw) := by rw [hW, hB]; simp [go_sem]
  have q3 : W.cell? ⟨B + 1, 3, none⟩ = some (.bool sa) := by rw [hW, hB]; simp [go_sem]
  have u0 : W.cell? ⟨B + 1 + 1, 0, none⟩ = some (.bool false) := by rw [hW, hB]; simp [go_sem]
  have u1 : W.cell? ⟨B + 1 + 1, 1, none⟩ = some (.int .i64 0) := by rw [hW, hB]; simp [go_sem]
  have u2 : W.cell? ⟨B + 1 + 1, 2, none⟩ = some (.int .i64 0) := by rw [hW, hB]; simp [go_sem]
  have u3 : W.cell? ⟨B + 1 + 1, 3, none⟩ = some (.bool false) := by rw [hW, hB]; simp [go_sem]
  have v0 : W.cell? ⟨B + 1 + 1 + 1, 0, none⟩ = some (.int .i64 0) := by rw [hW, hB]; simp [go_sem]
  have v1 : W.cell? ⟨B + 1 + 1 + 1, 1, none⟩ = some (.bool false) := by rw [hW, hB]; simp [go_sem]
  have v2 : W.cell? ⟨B + 1 + 1 + 1, 2, none⟩ = some (.int .i64 0) := by rw [hW, hB]; simp [go_sem]
  have fu0 : W.frozen? ⟨B + 1 + 1, 0, none⟩ = false := by rw [hW, hB]; simp [go_sem]
  have fu1 : W.frozen? ⟨B + 1 + 1, 1, none⟩ = false := by rw [hW, hB]; simp [go_sem]
  have fu2 : W.frozen? ⟨B + 1 + 1, 2, none⟩ = false := by rw [hW, hB]; simp [go_sem]
  have fu3 : W.frozen? ⟨B + 1 + 1, 3, none⟩ = false := by rw [hW, hB]; simp [go_sem]
  have fv0 : W.frozen? ⟨B + 1 + 1 + 1, 0, none⟩ = false := by rw [hW, hB]; simp [go_sem]
  have fv1 : W.frozen? ⟨B + 1 + 1 + 1, 1, none⟩ = false := by rw [hW, hB]; simp [go_sem]
  have fv2 : W.frozen? ⟨B + 1 + 1 + 1, 2, none⟩ = false := by rw [hW, hB]; simp [go_sem]
  have hb : Below w.heap.size w W := by rw [hW]; (focus repeat' (first | (with_reducible exact Below.refl _ _) | (with_reducible assumption) | (with_reducible refine Below.alloc ?_ ?_ _) | (with_reducible refine Below.drew ?_) | (with_reducible refine bdrewN ?_ _) | (with_reducible refine Below.setCell ?_ ?_ _) | (first | (with_reducible exact Nat.le_refl _) | (with_reducible assumption) | omega | (simp; omega) | (simp; done))))
  have zW : W.heap.size = w.heap.size + 4 := by rw [hW]; simp
  have HB := hide hb
  have HBB := hide hB
  have ZW := hide zW
  have hBW : B + 1 + 1 + 1 < W.heap.size := by omega
  have lrB : r < B ∧ rs < B := by omega
  have HLR := hide lrB
  clear hW hb hB zW lr lrB
  go_wp2_with fail
  refine (CL.out W HB.out).mono ?_
  rintro e w3 ⟨rfl, hb3⟩
  go_upto_region 5 with fail
  obtain ⟨X, hX⟩ : ∃ X, X = w3.alloc (.cells #[.bool true, .int .i64 (bX A.bs), .int .i64 (bWho A.bs), .bool A.bs.isSome] 131) := ⟨_, rfl⟩
  rw [← hX]
  obtain ⟨tn, htn⟩ : ∃ tn, tn = w3.heap.size := ⟨_, rfl⟩
  rw [← htn]
  have sX : ∀ b, b < W.heap.size → X.heap[b]? = W.heap[b]? := fun b hl => by rw [hX]; exact (al_blk _ _ (Nat.lt_of_lt_of_le hl hb3.size)).trans (hb3.block b hl)
  have p0 := cell_stay p0 (sX (B) (by omega))
  have p1 := cell_stay p1 (sX (B) (by omega))
  have q0 := cell_stay q0 (sX (B + 1) (by omega))
  have q1 := cell_stay q1 (sX (B + 1) (by omega))
  have q2 := cell_stay q2 (sX (B + 1) (by omega))
  have q3 := cell_stay q3 (sX (B + 1) (by omega))
  have u0 := cell_stay u0 (sX (B + 1 + 1) (by omega))
  have u1 := cell_stay u1 (sX (B + 1 + 1) (by omega))
  have u2 := cell_stay u2 (sX (B + 1 + 1) (by omega))
  have u3 := cell_stay u3 (sX (B + 1 + 1) (by omega))
  have v0 := cell_stay v0 (sX (B + 1 + 1 + 1) (by omega))
  have v1 := cell_stay v1 (sX (B + 1 + 1 + 1) (by omega))
  have v2 := cell_stay v2 (sX (B + 1 + 1 + 1) (by omega))
  have fu0 := fro_stay fu0 (sX (B + 1 + 1) (by omega))
  have fu1 := fro_stay fu1 (sX (B + 1 + 1) (by omega))
  have fu2 := fro_stay fu2 (sX (B + 1 + 1) (by omega))
  have fu3 := fro_stay fu3 (sX (B + 1 + 1) (by omega))
  have fv0 := fro_stay fv0 (sX (B + 1 + 1 + 1) (by omega))
  have fv1 := fro_stay fv1 (sX (B + 1 + 1 + 1) (by omega))
  have fv2 := fro_stay fv2 (sX (B + 1 + 1 + 1) (by omega))
  have t0 : X.cell? ⟨tn, 0, none⟩ = some (.bool true) := by rw [hX, htn]; simp [go_sem]
  have t1 : X.cell? ⟨tn, 1, none⟩ = some (.int .i64 (bX A.bs)) := by rw [hX, htn]; simp [go_sem]
  have t2 : X.cell? ⟨tn, 2, none⟩ = some (.int .i64 (bWho A.bs)) := by rw [hX, htn]; simp [go_sem]
  have t3 : X.cell? ⟨tn, 3, none⟩ = some (.bool A.bs.isSome) := by rw [hX, htn]; simp [go_sem]
  have bX : Below w.heap.size w X := by rw [hX]; exact (bstep HB.out hb3).alloc (bstep HB.out hb3).size _
  have HBX := hide bX
  have htb : B + 1 + 1 + 1 < tn := by have := hb3.size; omega
  have ltn : tn < X.heap.size := World.block_lt_of_cell? X _ t0
  have hXs : B + 1 + 1 + 1 < X.heap.size := by omega
  have hBW := hXs
  clear hX htn sX bX hb3
  go_wp2_with fail
  refine (CD.out X HBX.out).mono ?_
  rintro e w5 ⟨rfl, hro, ht⟩
  have sD : ∀ b, B ≤ b → b < X.heap.size → w5.heap[b]? = X.heap[b]? := fun b hb hl => ht.heap b hl (fun e => by have := HLR.out; omega)
  have p0 := cell_stay p0 (sD (B) (by omega) (by omega))
  have p1 := cell_stay p1 (sD (B) (by omega) (by omega))
  have q0 := cell_stay q0 (sD (B + 1) (by omega) (by omega))
  have q1 := cell_stay q1 (sD (B + 1) (by omega) (by omega))
  have q2 := cell_stay q2 (sD (B + 1) (by omega) (by omega))
  have q3 := cell_stay q3 (sD (B + 1) (by omega) (by omega))
  have u0 := cell_stay u0 (sD (B + 1 + 1) (by omega) (by omega))
  have u1 := cell_stay u1 (sD (B + 1 + 1) (by omega) (by omega))
  have u2 := cell_stay u2 (sD (B + 1 + 1) (by omega) (by omega))
  have u3 := cell_stay u3 (sD (B + 1 + 1) (by omega) (by omega))
  have v0 := cell_stay v0 (sD (B + 1 + 1 + 1) (by omega) (by omega))
  have v1 := cell_stay v1 (sD (B + 1 + 1 + 1) (by omega) (by omega))
  have v2 := cell_stay v2 (sD (B + 1 + 1 + 1) (by omega) (by omega))
  have fu0 := fro_stay fu0 (sD (B + 1 + 1) (by omega) (by omega))
  have fu1 := fro_stay fu1 (sD (B + 1 + 1) (by omega) (by omega))
  have fu2 := fro_stay fu2 (sD (B + 1 + 1) (by omega) (by omega))
  have fu3 := fro_stay fu3 (sD (B + 1 + 1) (by omega) (by omega))
  have fv0 := fro_stay fv0 (sD (B + 1 + 1 + 1) (by omega) (by omega))
  have fv1 := fro_stay fv1 (sD (B + 1 + 1 + 1) (by omega) (by omega))
  have fv2 := fro_stay fv2 (sD (B + 1 + 1 + 1) (by omega) (by omega))
  have HRO := hide hro
  have HT := hide ((Tch.of HBX.out).trans ht)
  have z5 := HT.out.size
  have HL5 := hide (show r < w5.heap.size ∧ rs < w5.heap.size from hro.lt)
  clear hro ht sD z5
  go_wp2
  refine bodyPost_ret (v := .tuple #[.agg #[.bool false, .int .i64 0, .int .i64 0, .bool false], .agg #[.int .i64 (aa), .bool ay, .int .i64 0], .bool true]) (by simp [results, Try.f45, go_sem, u0, u1, u2, u3, v0, v1, v2]) rfl ⟨rfl, ?_, ?_⟩
  · have lrb := HLR.out
    repeat (first | with_reducible refine robj_dr ?_ | with_reducible refine robj_set ?_ (by omega) (by omega) _ _)
    with_reducible exact HRO.out
  · have hBB := HBB.out
    repeat (first | with_reducible refine tch_dr ?_ | with_reducible refine Tch.setN ?_ (by omega) _ _)
    with_reducible exact HT.out

set_option maxRecDepth 100000 in
set_option maxHeartbeats 4000000 in
theorem ridle_3f (r rs i n : Nat) (A : Ab) (x c sx sw : Int) (sa : Bool) (w : World) (h : RObj w r rs A) (hA : AbOk A n c) (hc : c ≤ 4611686018427387904) (hi : i < n) (hid : idleA A (i : Int) 3 x = true) : Calls Try.prog 45 #[.pointer (some ⟨r, 0, none⟩), .int .i64 (i : Int), .agg #[.int .i64 3, .int .i64 x], .agg #[.bool false, .int .i64 sx, .int .i64 sw, .bool sa]] w fun e w' => e = .returned (.tuple #[.agg #[.bool false, .int .i64 0, .int .i64 0, .bool false], .agg #[.int .i64 (x), .bool false, .int .i64 0], .bool true]) ∧ RObj w' r rs A ∧ Tch (fun b => b = r ∨ b = rs) w w' := by
  have lr := h.lt
  have CD := hide (fun V (hV : Below w.heap.size w V) => Do_any r rs A i n 3 x c V (h.below hV) hA hc hi)
  have CL := hide (fun V (hV : Below w.heap.size w V) => look_3 r rs A V (h.below hV))
  have CI := hide (fun V (hV : Below w.heap.size w V) => idle_3 A.bs (i : Int) x (.pointer (some ⟨r, 0, none⟩)) V)
  have hid2 : idleB A.bs (i : Int) x = true := hid
  rw [hid2] at CI
  have H := hide h
  clear h hA hc hi hid hid2
  go_enter Try.func45, Try.ntmps45
  go_upto_region 1 with fail
  obtain ⟨W, hW⟩ : ∃ W, W = (((w.alloc (.cells #[.int .i64 3, .int .i64 x] 57)).alloc (.cells #[.bool false, .int .i64 sx, .int .i64 sw, .bool sa] 131)).alloc (.cells #[.bool false, .int .i64 0, .int .i64 0, .bool false] 131)).alloc (.cells #[.int .i64 0, .bool false, .int .i64 0] 52) := ⟨_, rfl⟩
  rw [← hW]
  obtain ⟨B, hB⟩ : ∃ B, B = w.heap.size := ⟨_, rfl⟩
  rw [← hB]
  have p0 : W.cell? ⟨B, 0, none⟩ = some (.int .i64 3) := by rw [hW, hB]; simp [go_sem]
  have p1 : W.cell? ⟨B, 1, none⟩ = some (.int .i64 x) := by rw [hW, hB]; simp [go_sem]
  have q0 : W.cell? ⟨B + 1, 0, none⟩ = some (.bool false) := by rw [hW, hB]; simp [go_sem]
  have q1 : W.cell? ⟨B + 1, 1, none⟩ = some (.int .i64 sx) := by rw [hW, hB]; simp [go_sem]
  have q2 : W.cell? ⟨B + 1, 2, none⟩ = some (.int .i64 sw) := by rw [hW, hB]; simp [go_sem]
  have q3 : W.cell? ⟨B + 1, 3, none⟩ = some (.bool sa) := by rw [hW, hB]; simp [go_sem]
  have u0 : W.cell? ⟨B + 1 + 1, 0, none⟩ = some (.bool false) := by rw [hW, hB]; simp [go_sem]
  have u1 : W.cell? ⟨B + 1 + 1, 1, none⟩ = some (.int .i64 0) := by rw [hW, hB]; simp [go_sem]
  have u2 : W.cell? ⟨B + 1 + 1, 2, none⟩ = some (.int .i64 0) := by rw [hW, hB]; simp [go_sem]
  have u3 : W.cell? ⟨B + 1 + 1, 3, none⟩ = some (.bool false) := by rw [hW, hB]; simp [go_sem]
  have v0 : W.cell? ⟨B + 1 + 1 + 1, 0, none⟩ = some (.int .i64 0) := by rw [hW, hB]; simp [go_sem]
  have v1 : W.cell? ⟨B + 1 + 1 + 1, 1, none⟩ = some (.bool false) := by rw [hW, hB]; simp [go_sem]
  have v2 : W.cell? ⟨B + 1 + 1 + 1, 2, none⟩ = some (.int .i64 0) := by rw [hW, hB]; simp [go_sem]
  have fu0 : W.frozen? ⟨B + 1 + 1, 0, none⟩ = false := by rw [hW, hB]; simp [go_sem]
  have fu1 : W.frozen? ⟨B + 1 + 1, 1, none⟩ = false := by rw [hW, hB]; simp [go_sem]
  have fu2 : W.frozen? ⟨B + 1 + 1, 2, none⟩ = false := by rw [hW, hB]; simp [go_sem]
  have fu3 : W.frozen? ⟨B + 1 + 1, 3, none⟩ = false := by rw [hW, hB]; simp [go_sem]
  have fv0 : W.frozen? ⟨B + 1 + 1 + 1, 0, none⟩ = false := by rw [hW, hB]; simp [go_sem]
  have fv1 : W.frozen? ⟨B + 1 + 1 + 1, 1, none⟩ = false := by rw [hW, hB]; simp [go_sem]
  have fv2 : W.frozen? ⟨B + 1 + 1 + 1, 2, none⟩ = false := by rw [hW, hB]; simp [go_sem]
  have hb : Below w.heap.size w W := by rw [hW]; (focus repeat' (first | (with_reducible exact Below.refl _ _) | (with_reducible assumption) | (with_reducible refine Below.alloc ?_ ?_ _) | (with_reducible refine Below.drew ?_) | (with_reducible refine bdrewN ?_ _) | (with_reducible refine Below.setCell ?_ ?_ _) | (first | (with_reducible exact Nat.le_refl _) | (with_reducible assumption) | omega | (simp; omega) | (simp; done))))
  have zW : W.heap.size = w.heap.size + 4 := by rw [hW]; simp
  have HB := hide hb
  have HBB := hide hB
  have ZW := hide zW
  have hBW : B + 1 + 1 + 1 < W.heap.size := by omega
  have lrB : r < B ∧ rs < B := by omega
  have HLR := hide lrB
  clear hW hb hB zW lr lrB
  go_wp2_with fail
  refine (CL.out W HB.out).mono ?_
  rintro e w3 ⟨rfl, hb3⟩
  go_upto_region 5 with fail
  obtain ⟨X, hX⟩ : ∃ X, X = w3.alloc (.cells #[.bool true, .int .i64 (bX A.bs), .int .i64 (bWho A.bs), .bool A.bs.isSome] 131) := ⟨_, rfl⟩
  rw [← hX]
  obtain ⟨tn, htn⟩ : ∃ tn, tn = w3.heap.size := ⟨_, rfl⟩
  rw [← htn]
  have sX : ∀ b, b < W.heap.size → X.heap[b]? = W.heap[b]? := fun b hl => by rw [hX]; exact (al_blk _ _ (Nat.lt_of_lt_of_le hl hb3.size)).trans (hb3.block b hl)
  have p0 := cell_stay p0 (sX (B) (by omega))
  have p1 := cell_stay p1 (sX (B) (by omega))
  have q0 := cell_stay q0 (sX (B + 1) (by omega))
  have q1 := cell_stay q1 (sX (B + 1) (by omega))
  have q2 := cell_stay q2 (sX (B + 1) (by omega))
  have q3 := cell_stay q3 (sX (B + 1) (by omega))
  have u0 := cell_stay u0 (sX (B + 1 + 1) (by omega))
  have u1 := cell_stay u1 (sX (B + 1 + 1) (by omega))
  have u2 := cell_stay u2 (sX (B + 1 + 1) (by omega))
  have u3 := cell_stay u3 (sX (B + 1 + 1) (by omega))
  have v0 := cell_stay v0 (sX (B + 1 + 1 + 1) (by omega))
  have v1 := cell_stay v1 (sX (B + 1 + 1 + 1) (by omega))
  have v2 := cell_stay v2 (sX (B + 1 + 1 + 1) (by omega))
  have fu0 := fro_stay fu0 (sX (B + 1 + 1) (by omega))
  have fu1 := fro_stay fu1 (sX (B + 1 + 1) (by omega))
  have fu2 := fro_stay fu2 (sX (B + 1 + 1) (by omega))
  have fu3 := fro_stay fu3 (sX (B + 1 + 1) (by omega))
  have fv0 := fro_stay fv0 (sX (B + 1 + 1 + 1) (by omega))
  have fv1 := fro_stay fv1 (sX (B + 1 + 1 + 1) (by omega))
  have fv2 := fro_stay fv2 (sX (B + 1 + 1 + 1) (by omega))
  have t0 : X.cell? ⟨tn, 0, none⟩ = some (.bool true) := by rw [hX, htn]; simp [go_sem]
  have t1 : X.cell? ⟨tn, 1, none⟩ = some (.int .i64 (bX A.bs)) := by rw [hX, htn]; simp [go_sem]
  have t2 : X.cell? ⟨tn, 2, none⟩ = some (.int .i64 (bWho A.bs)) := by rw [hX, htn]; simp [go_sem]
  have t3 : X.cell? ⟨tn, 3, none⟩ = some (.bool A.bs.isSome) := by rw [hX, htn]; simp [go_sem]
  have bX : Below w.heap.size w X := by rw [hX]; exact (bstep HB.out hb3).alloc (bstep HB.out hb3).size _
  have HBX := hide bX
  have htb : B + 1 + 1 + 1 < tn := by have := hb3.size; omega
  have ltn : tn < X.heap.size := World.block_lt_of_cell? X _ t0
  have hXs : B + 1 + 1 + 1 < X.heap.size := by omega
  have hBW := hXs
  clear hX htn sX bX hb3
  go_wp2_with fail
  refine (CI.out X HBX.out).mono ?_
  rintro e w6 ⟨rfl, hb6⟩
  have sY : ∀ b, b < X.heap.size → w6.heap[b]? = X.heap[b]? := fun b hl => hb6.block b hl
  have p0 := cell_stay p0 (sY (B) (by omega))
  have p1 := cell_stay p1 (sY (B) (by omega))
  have q0 := cell_stay q0 (sY (B + 1) (by omega))
  have q1 := cell_stay q1 (sY (B + 1) (by omega))
  have q2 := cell_stay q2 (sY (B + 1) (by omega))
  have q3 := cell_stay q3 (sY (B + 1) (by omega))
  have u0 := cell_stay u0 (sY (B + 1 + 1) (by omega))
  have u1 := cell_stay u1 (sY (B + 1 + 1) (by omega))
  have u2 := cell_stay u2 (sY (B + 1 + 1) (by omega))
  have u3 := cell_stay u3 (sY (B + 1 + 1) (by omega))
  have v0 := cell_stay v0 (sY (B + 1 + 1 + 1) (by omega))
  have v1 := cell_stay v1 (sY (B + 1 + 1 + 1) (by omega))
  have v2 := cell_stay v2 (sY (B + 1 + 1 + 1) (by omega))
  have t0 := cell_stay t0 (sY (tn) (by omega))
  have t1 := cell_stay t1 (sY (tn) (by omega))
  have t2 := cell_stay t2 (sY (tn) (by omega))
  have t3 := cell_stay t3 (sY (tn) (by omega))
  have fu0 := fro_stay fu0 (sY (B + 1 + 1) (by omega))
  have fu1 := fro_stay fu1 (sY (B + 1 + 1) (by omega))
  have fu2 := fro_stay fu2 (sY (B + 1 + 1) (by omega))
  have fu3 := fro_stay fu3 (sY (B + 1 + 1) (by omega))
  have fv0 := fro_stay fv0 (sY (B + 1 + 1 + 1) (by omega))
  have fv1 := fro_stay fv1 (sY (B + 1 + 1 + 1) (by omega))
  have fv2 := fro_stay fv2 (sY (B + 1 + 1 + 1) (by omega))
  have HB6 := hide (bstep HBX.out hb6)
  have z6 := hb6.size
  have l6 : B + 1 + 1 + 1 < w6.heap.size := by omega
  have lt6 : tn < w6.heap.size := by omega
  have nn1 : B + 1 + 1 ≠ tn := by omega
  have nn2 : B + 1 + 1 + 1 ≠ tn := by omega
  clear hb6 sY z6 ltn hXs hBW htb
  go_upto_region 8 with fail
  obtain ⟨Z, hZ⟩ : ∃ Z, Z = w6.alloc (.cells #[.int .i64 (x), .bool false, .int .i64 0] 52) := ⟨_, rfl⟩
  rw [← hZ]
  obtain ⟨zn, hzn⟩ : ∃ zn, zn = w6.heap.size := ⟨_, rfl⟩
  rw [← hzn]
  have sZ : ∀ b, b < w6.heap.size → Z.heap[b]? = w6.heap[b]? := fun b hl => by rw [hZ]; exact al_blk _ _ hl
  have p0 := cell_stay p0 (sZ (B) (by omega))
  have p1 := cell_stay p1 (sZ (B) (by omega))
  have q0 := cell_stay q0 (sZ (B + 1) (by omega))
  have q1 := cell_stay q1 (sZ (B + 1) (by omega))
  have q2 := cell_stay q2 (sZ (B + 1) (by omega))
  have q3 := cell_stay q3 (sZ (B + 1) (by omega))
  have u0 := cell_stay u0 (sZ (B + 1 + 1) (by omega))
  have u1 := cell_stay u1 (sZ (B + 1 + 1) (by omega))
  have u2 := cell_stay u2 (sZ (B + 1 + 1) (by omega))
  have u3 := cell_stay u3 (sZ (B + 1 + 1) (by omega))
  have v0 := cell_stay v0 (sZ (B + 1 + 1 + 1) (by omega))
  have v1 := cell_stay v1 (sZ (B + 1 + 1 + 1) (by omega))
  have v2 := cell_stay v2 (sZ (B + 1 + 1 + 1) (by omega))
  have t0 := cell_stay t0 (sZ (tn) (by omega))
  have t1 := cell_stay t1 (sZ (tn) (by omega))
  have t2 := cell_stay t2 (sZ (tn) (by omega))
  have t3 := cell_stay t3 (sZ (tn) (by omega))
  have fu0 := fro_stay fu0 (sZ (B + 1 + 1) (by omega))
  have fu1 := fro_stay fu1 (sZ (B + 1 + 1) (by omega))
  have fu2 := fro_stay fu2 (sZ (B + 1 + 1) (by omega))
  have fu3 := fro_stay fu3 (sZ (B + 1 + 1) (by omega))
  have fv0 := fro_stay fv0 (sZ (B + 1 + 1 + 1) (by omega))
  have fv1 := fro_stay fv1 (sZ (B + 1 + 1 + 1) (by omega))
  have fv2 := fro_stay fv2 (sZ (B + 1 + 1 + 1) (by omega))
  have a0 : Z.cell? ⟨zn, 0, none⟩ = some (.int .i64 (x)) := by rw [hZ, hzn]; simp [go_sem]
  have a1 : Z.cell? ⟨zn, 1, none⟩ = some (.bool false) := by rw [hZ, hzn]; simp [go_sem]
  have a2 : Z.cell? ⟨zn, 2, none⟩ = some (.int .i64 0) := by rw [hZ, hzn]; simp [go_sem]
  have HBZ := hide (show Below w.heap.size w Z by rw [hZ]; exact HB6.out.alloc HB6.out.size _)
  have nz1 : B + 1 + 1 ≠ zn := by omega
  have nz2 : B + 1 + 1 + 1 ≠ zn := by omega
  clear hZ hzn sZ l6 lt6
  go_wp2_with fail
  go_region
  go_wp2
  refine bodyPost_ret (v := .tuple #[.agg #[.bool false, .int .i64 0, .int .i64 0, .bool false], .agg #[.int .i64 (x), .bool false, .int .i64 0], .bool true]) (by simp [results, Try.f45, go_sem, u0, u1, u2, u3, v0, v1, v2]) rfl ⟨rfl, ?_, ?_⟩
  · have lrb := HLR.out
    repeat (first | with_reducible refine robj_dr ?_ | with_reducible refine robj_set ?_ (by omega) (by omega) _ _)
    with_reducible exact H.out.below HBZ.out
  · have hBB := HBB.out
    repeat (first | with_reducible refine tch_dr ?_ | with_reducible refine Tch.setN ?_ (by omega) _ _)
    with_reducible exact Tch.of HBZ.out

set_option maxRecDepth 100000 in
set_option maxHeartbeats 4000000 in
theorem ridle_3s (r rs i n : Nat) (A : Ab) (x c sx sw : Int) (sa : Bool) (w : World) (h : RObj w r rs A) (hA : AbOk A n c) (hc : c ≤ 4611686018427387904) (hi : i < n) (heq : ∀ w, Sem.run Try.prog (binOp .eql 131 (.agg #[.bool true, .int .i64 sx, .int .i64 sw, .bool sa]) (.agg #[.bool true, .int .i64 (bX A.bs), .int .i64 (bWho A.bs), .bool A.bs.isSome])) w = .ok (.bool false) w) (hid : idleA A (i : Int) 3 x = true) : Calls Try.prog 45 #[.pointer (some ⟨r, 0, none⟩), .int .i64 (i : Int), .agg #[.int .i64 3, .int .i64 x], .agg #[.bool true, .int .i64 sx, .int .i64 sw, .bool sa]] w fun e w' => e = .returned (.tuple #[.agg #[.bool false, .int .i64 0, .int .i64 0, .bool false], .agg #[.int .i64 (x), .bool false, .int .i64 0], .bool true]) ∧ RObj w' r rs A ∧ Tch (fun b => b = r ∨ b = rs) w w' := by
  have lr := h.lt
  have CD := hide (fun V (hV : Below w.heap.size w V) => Do_any r rs A i n 3 x c V (h.below hV) hA hc hi)
  have CL := hide (fun V (hV : Below w.heap.size w V) => look_3 r rs A V (h.below hV))
  have CI := hide (fun V (hV : Below w.heap.size w V) => idle_3 A.bs (i : Int) x (.pointer (some ⟨r, 0, none⟩)) V)
  have hid2 : idleB A.bs (i : Int) x = true := hid
  rw [hid2] at CI
  have H := hide h
  clear h hA hc hi hid hid2
  go_enter Try.func45, Try.ntmps45
  go_upto_region 1 with fail
  obtain ⟨W, hW⟩ : ∃ W, W = (((w.alloc (.cells #[.int .i64 3, .int .i64 x] 57)).alloc (.cells #[.bool true, .int .i64 sx, .int .i64 sw, .bool sa] 131)).alloc (.cells #[.bool false, .int .i64 0, .int .i64 0, .bool false] 131)).alloc (.cells #[.int .i64 0, .bool false, .int .i64 0] 52) := ⟨_, rfl⟩
  rw [← hW]
  obtain ⟨B, hB⟩ : ∃ B, B = w.heap.size := ⟨_, rfl⟩
  rw [← hB]
  have p0 : W.cell? ⟨B, 0, none⟩ = some (.int .i64 3) := by rw [hW, hB]; simp [go_sem]
  have p1 : W.cell? ⟨B, 1, none⟩ = some (.int .i64 x) := by rw [hW, hB]; simp [go_sem]
  have q0 : W.cell? ⟨B + 1, 0, none⟩ = some (.bool true) := by rw [hW, hB]; simp [go_sem]
  have q1 : W.cell? ⟨B + 1, 1, none⟩ = some (.int .i64 sx) := by rw [hW, hB]; simp [go_sem]
  have q2 : W.cell? ⟨B + 1, 2, none⟩ = some (.int .i64 sw) := by rw [hW, hB]; simp [go_sem]
  have q3 : W.cell? ⟨B + 1, 3, none⟩ = some (.bool sa) := by rw [hW, hB]; simp [go_sem]
  have u0 : W.cell? ⟨B + 1 + 1, 0, none⟩ = some (.bool false) := by rw [hW, hB]; simp [go_sem]
  have u1 : W.cell? ⟨B + 1 + 1, 1, none⟩ = some (.int .i64 0) := by rw [hW, hB]; simp [go_sem]
  have u2 : W.cell? ⟨B + 1 + 1, 2, none⟩ = some (.int .i64 0) := by rw [hW, hB]; simp [go_sem]
  have u3 : W.cell? ⟨B + 1 + 1, 3, none⟩ = some (.bool false) := by rw [hW, hB]; simp [go_sem]
  have v0 : W.cell? ⟨B + 1 + 1 + 1, 0, none⟩ = some (.int .i64 0) := by rw [hW, hB]; simp [go_sem]
  have v1 : W.cell? ⟨B + 1 + 1 + 1, 1, none⟩ = some (.bool false) := by rw [hW, hB]; simp [go_sem]
  have v2 : W.cell? ⟨B + 1 + 1 + 1, 2, none⟩ = some (.int .i64 0) := by rw [hW, hB]; simp [go_sem]
  have fu0 : W.frozen? ⟨B + 1 + 1, 0, none⟩ = false := by rw [hW, hB]; simp [go_sem]
  have fu1 : W.frozen? ⟨B + 1 + 1, 1, none⟩ = false := by rw [hW, hB]; simp [go_sem]
  have fu2 : W.frozen? ⟨B + 1 + 1, 2, none⟩ = false := by rw [hW, hB]; simp [go_sem]
  have fu3 : W.frozen? ⟨B + 1 + 1, 3, none⟩ = false := by rw [hW, hB]; simp [go_sem]
  have fv0 : W.frozen? ⟨B + 1 + 1 + 1, 0, none⟩ = false := by rw [hW, hB]; simp [go_sem]
  have fv1 : W.frozen? ⟨B + 1 + 1 + 1, 1, none⟩ = false := by rw [hW, hB]; simp [go_sem]
  have fv2 : W.frozen? ⟨B + 1 + 1 + 1, 2, none⟩ = false := by rw [hW, hB]; simp [go_sem]
  have hb : Below w.heap.size w W := by rw [hW]; (focus repeat' (first | (with_reducible exact Below.refl _ _) | (with_reducible assumption) | (with_reducible refine Below.alloc ?_ ?_ _) | (with_reducible refine Below.drew ?_) | (with_reducible refine bdrewN ?_ _) | (with_reducible refine Below.setCell ?_ ?_ _) | (first | (with_reducible exact Nat.le_refl _) | (with_reducible assumption) | omega | (simp; omega) | (simp; done))))
  have zW : W.heap.size = w.heap.size + 4 := by rw [hW]; simp
  have HB := hide hb
  have HBB := hide hB
  have ZW := hide zW
  have hBW : B + 1 + 1 + 1 < W.heap.size := by omega
  have lrB : r < B ∧ rs < B := by omega
  have HLR := hide lrB
  clear hW hb hB zW lr lrB
  go_wp2_with fail
  refine (CL.out W HB.out).mono ?_
  rintro e w3 ⟨rfl, hb3⟩
  go_upto_region 5 with fail
  obtain ⟨X, hX⟩ : ∃ X, X = w3.alloc (.cells #[.bool true, .int .i64 (bX A.bs), .int .i64 (bWho A.bs), .bool A.bs.isSome] 131) := ⟨_, rfl⟩
  rw [← hX]
  obtain ⟨tn, htn⟩ : ∃ tn, tn = w3.heap.size := ⟨_, rfl⟩
  rw [← htn]
  have sX : ∀ b, b < W.heap.size → X.heap[b]? = W.heap[b]? := fun b hl => by rw [hX]; exact (al_blk _ _ (Nat.lt_of_lt_of_le hl hb3.size)).trans (hb3.block b hl)
  have p0 := cell_stay p0 (sX (B) (by omega))
  have p1 := cell_stay p1 (sX (B) (by omega))
  have q0 := cell_stay q0 (sX (B + 1) (by omega))
  have q1 := cell_stay q1 (sX (B + 1) (by omega))
  have q2 := cell_stay q2 (sX (B + 1) (by omega))
  have q3 := cell_stay q3 (sX (B + 1) (by omega))
  have u0 := cell_stay u0 (sX (B + 1 + 1) (by omega))
  have u1 := cell_stay u1 (sX (B + 1 + 1) (by omega))
  have u2 := cell_stay u2 (sX (B + 1 + 1) (by omega))
  have u3 := cell_stay u3 (sX (B + 1 + 1) (by omega))
  have v0 := cell_stay v0 (sX (B + 1 + 1 + 1) (by omega))
  have v1 := cell_stay v1 (sX (B + 1 + 1 + 1) (by omega))
  have v2 := cell_stay v2 (sX (B + 1 + 1 + 1) (by omega))
  have fu0 := fro_stay fu0 (sX (B + 1 + 1) (by omega))
  have fu1 := fro_stay fu1 (sX (B + 1 + 1) (by omega))
  have fu2 := fro_stay fu2 (sX (B + 1 + 1) (by omega))
  have fu3 := fro_stay fu3 (sX (B + 1 + 1) (by omega))
  have fv0 := fro_stay fv0 (sX (B + 1 + 1 + 1) (by omega))
  have fv1 := fro_stay fv1 (sX (B + 1 + 1 + 1) (by omega))
  have fv2 := fro_stay fv2 (sX (B + 1 + 1 + 1) (by omega))
  have t0 : X.cell? ⟨tn, 0, none⟩ = some (.bool true) := by rw [hX, htn]; simp [go_sem]
  have t1 : X.cell? ⟨tn, 1, none⟩ = some (.int .i64 (bX A.bs)) := by rw [hX, htn]; simp [go_sem]
  have t2 : X.cell? ⟨tn, 2, none⟩ = some (.int .i64 (bWho A.bs)) := by rw [hX, htn]; simp [go_sem]
  have t3 : X.cell? ⟨tn, 3, none⟩ = some (.bool A.bs.isSome) := by rw [hX, htn]; simp [go_sem]
  have bX : Below w.heap.size w X := by rw [hX]; exact (bstep HB.out hb3).alloc (bstep HB.out hb3).size _
  have HBX := hide bX
  have htb : B + 1 + 1 + 1 < tn := by have := hb3.size; omega
  have ltn : tn < X.heap.size := World.block_lt_of_cell? X _ t0
  have hXs : B + 1 + 1 + 1 < X.heap.size := by omega
  have hBW := hXs
  clear hX htn sX bX hb3
  go_wp2_with fail
  refine (CI.out X HBX.out).mono ?_
  rintro e w6 ⟨rfl, hb6⟩
  have sY : ∀ b, b < X.heap.size → w6.heap[b]? = X.heap[b]? := fun b hl => hb6.block b hl
  have p0 := cell_stay p0 (sY (B) (by omega))
  have p1 := cell_stay p1 (sY (B) (by omega))
  have q0 := cell_stay q0 (sY (B + 1) (by omega))
  have q1 := cell_stay q1 (sY (B + 1) (by omega))
  have q2 := cell_stay q2 (sY (B + 1) (by omega))
  have q3 := cell_stay q3 (sY (B + 1) (by omega))
  have u0 := cell_stay u0 (sY (B + 1 + 1) (by omega))
  have u1 := cell_stay u1 (sY (B + 1 + 1) (by omega))
  have u2 := cell_stay u2 (sY (B + 1 + 1) (by omega))
  have u3 := cell_stay u3 (sY (B + 1 + 1) (by omega))
  have v0 := cell_stay v0 (sY (B + 1 + 1 + 1) (by omega))
  have v1 := cell_stay v1 (sY (B + 1 + 1 + 1) (by omega))
  have v2 := cell_stay v2 (sY (B + 1 + 1 + 1) (by omega))
  have t0 := cell_stay t0 (sY (tn) (by omega))
  have t1 := cell_stay t1 (sY (tn) (by omega))
  have t2 := cell_stay t2 (sY (tn) (by omega))
  have t3 := cell_stay t3 (sY (tn) (by omega))
  have fu0 := fro_stay fu0 (sY (B + 1 + 1) (by omega))
  have fu1 := fro_stay fu1 (sY (B + 1 + 1) (by omega))
  have fu2 := fro_stay fu2 (sY (B + 1 + 1) (by omega))
  have fu3 := fro_stay fu3 (sY (B + 1 + 1) (by omega))
  have fv0 := fro_stay fv0 (sY (B + 1 + 1 + 1) (by omega))
  have fv1 := fro_stay fv1 (sY (B + 1 + 1 + 1) (by omega))
  have fv2 := fro_stay fv2 (sY (B + 1 + 1 + 1) (by omega))
  have HB6 := hide (bstep HBX.out hb6)
  have z6 := hb6.size
  have l6 : B + 1 + 1 + 1 < w6.heap.size := by omega
  have lt6 : tn < w6.heap.size := by omega
  have nn1 : B + 1 + 1 ≠ tn := by omega
  have nn2 : B + 1 + 1 + 1 ≠ tn := by omega
  clear hb6 sY z6 ltn hXs hBW htb
  go_upto_region 8 with fail
  obtain ⟨Z, hZ⟩ : ∃ Z, Z = w6.alloc (.cells #[.int .i64 (x), .bool false, .int .i64 0] 52) := ⟨_, rfl⟩
  rw [← hZ]
  obtain ⟨zn, hzn⟩ : ∃ zn, zn = w6.heap.size := ⟨_, rfl⟩
  rw [← hzn]
  have sZ : ∀ b, b < w6.heap.size → Z.heap[b]? = w6.heap[b]? := fun b hl => by rw [hZ]; exact al_blk _ _ hl
  have p0 := cell_stay p0 (sZ (B) (by omega))
  have p1 := cell_stay p1 (sZ (B) (by omega))
  have q0 := cell_stay q0 (sZ (B + 1) (by omega))
  have q1 := cell_stay q1 (sZ (B + 1) (by omega))
  have q2 := cell_stay q2 (sZ (B + 1) (by omega))
  have q3 := cell_stay q3 (sZ (B + 1) (by omega))
  have u0 := cell_stay u0 (sZ (B + 1 + 1) (by omega))
  have u1 := cell_stay u1 (sZ (B + 1 + 1) (by omega))
  have u2 := cell_stay u2 (sZ (B + 1 + 1) (by omega))
  have u3 := cell_stay u3 (sZ (B + 1 + 1) (by omega))
  have v0 := cell_stay v0 (sZ (B + 1 + 1 + 1) (by omega))
  have v1 := cell_stay v1 (sZ (B + 1 + 1 + 1) (by omega))
  have v2 := cell_stay v2 (sZ (B + 1 + 1 + 1) (by omega))
  have t0 := cell_stay t0 (sZ (tn) (by omega))
  have t1 := cell_stay t1 (sZ (tn) (by omega))
  have t2 := cell_stay t2 (sZ (tn) (by omega))
  have t3 := cell_stay t3 (sZ (tn) (by omega))
  have fu0 := fro_stay fu0 (sZ (B + 1 + 1) (by omega))
  have fu1 := fro_stay fu1 (sZ (B + 1 + 1) (by omega))
  have fu2 := fro_stay fu2 (sZ (B + 1 + 1) (by omega))
  have fu3 := fro_stay fu3 (sZ (B + 1 + 1) (by omega))
  have fv0 := fro_stay fv0 (sZ (B + 1 + 1 + 1) (by omega))
  have fv1 := fro_stay fv1 (sZ (B + 1 + 1 + 1) (by omega))
  have fv2 := fro_stay fv2 (sZ (B + 1 + 1 + 1) (by omega))
  have a0 : Z.cell? ⟨zn, 0, none⟩ = some (.int .i64 (x)) := by rw [hZ, hzn]; simp [go_sem]
  have a1 : Z.cell? ⟨zn, 1, none⟩ = some (.bool false) := by rw [hZ, hzn]; simp [go_sem]
  have a2 : Z.cell? ⟨zn, 2, none⟩ = some (.int .i64 0) := by rw [hZ, hzn]; simp [go_sem]
  have HBZ := hide (show Below w.heap.size w Z by rw [hZ]; exact HB6.out.alloc HB6.out.size _)
  have nz1 : B + 1 + 1 ≠ zn := by omega
  have nz2 : B + 1 + 1 + 1 ≠ zn := by omega
  clear hZ hzn sZ l6 lt6
  go_wp2_with fail
  go_region
  go_wp2
  refine bodyPost_ret (v := .tuple #[.agg #[.bool false, .int .i64 0, .int .i64 0, .bool false], .agg #[.int .i64 (x), .bool false, .int .i64 0], .bool true]) (by simp [results, Try.f45, go_sem, u0, u1, u2, u3, v0, v1, v2]) rfl ⟨rfl, ?_, ?_⟩
  · have lrb := HLR.out
    repeat (first | with_reducible refine robj_dr ?_ | with_reducible refine robj_set ?_ (by omega) (by omega) _ _)
    with_reducible exact H.out.below HBZ.out
  · have hBB := HBB.out
    repeat (first | with_reducible refine tch_dr ?_ | with_reducible refine Tch.setN ?_ (by omega) _ _)
    with_reducible exact Tch.of HBZ.out

set_option maxRecDepth 100000 in
set_option maxHeartbeats 4000000 in
theorem rlook_3f (r rs i n : Nat) (A : Ab) (x c sx sw : Int) (sa : Bool) (w : World) (h : RObj w r rs A) (hA : AbOk A n c) (hc : c ≤ 4611686018427387904) (hi : i < n) (hid : idleA A (i : Int) 3 x = false) : Calls Try.prog 45 #[.pointer (some ⟨r, 0, none⟩), .int .i64 (i : Int), .agg #[.int .i64 3, .int .i64 x], .agg #[.bool false, .int .i64 sx, .int .i64 sw, .bool sa]] w fun e w' => e = .returned (.tuple #[.agg #[.bool true, .int .i64 (bX A.bs), .int .i64 (bWho A.bs), .bool A.bs.isSome], .agg #[.int .i64 (0), .bool false, .int .i64 0], .bool false]) ∧ RObj w' r rs A ∧ Tch (fun b => b = r ∨ b = rs) w w' := by
  have lr := h.lt
  have CD := hide (fun V (hV : Below w.heap.size w V) => Do_any r rs A i n 3 x c V (h.below hV) hA hc hi)
  have CL := hide (fun V (hV : Below w.heap.size w V) => look_3 r rs A V (h.below hV))
  have CI := hide (fun V (hV : Below w.heap.size w V) => idle_3 A.bs (i : Int) x (.pointer (some ⟨r, 0, none⟩)) V)
  have hid2 : idleB A.bs (i : Int) x = false := hid
  rw [hid2] at CI
  have H := hide h
  clear h hA hc hi hid hid2
  go_enter Try.func45, Try.ntmps45
  go_upto_region 1 with fail
  obtain ⟨W, hW⟩ : ∃ W, W = (((w.alloc (.cells #[.int .i64 3, .int .i64 x] 57)).alloc (.cells #[.bool false, .int .i64 sx, .int .i64 sw, .bool sa] 131)).alloc (.cells #[.bool false, .int .i64 0, .int .i64 0, .bool false] 131)).alloc (.cells #[.int .i64 0, .bool false, .int .i64 0] 52) := ⟨_, rfl⟩
  rw [← hW]
  obtain ⟨B, hB⟩ : ∃ B, B = w.heap.size := ⟨_, rfl⟩
  rw [← hB]
  have p0 : W.cell? ⟨B, 0, none⟩ = some (.int .i64 3) := by rw [hW, hB]; simp [go_sem]
  have p1 : W.cell? ⟨B, 1, none⟩ = some (.int .i64 x) := by rw [hW, hB]; simp [go_sem]
  have q0 : W.cell? ⟨B + 1, 0, none⟩ = some (.bool false) := by rw [hW, hB]; simp [go_sem]
  have q1 : W.cell? ⟨B + 1, 1, none⟩ = some (.int .i64 sx) := by rw [hW, hB]; simp [go_sem]
  have q2 : W.cell? ⟨B + 1, 2, none⟩ = some (.int .i64 sw) := by rw [hW, hB]; simp [go_sem]
  have q3 : W.cell? ⟨B + 1, 3, none⟩ = some (.bool sa) := by rw [hW, hB]; simp [go_sem]
  have u0 : W.cell? ⟨B + 1 + 1, 0, none⟩ = some (.bool false) := by rw [hW, hB]; simp [go_sem]
  have u1 : W.cell? ⟨B + 1 + 1, 1, none⟩ = some (.int .i64 0) := by rw [hW, hB]; simp [go_sem]
  have u2 : W.cell? ⟨B + 1 + 1, 2, none⟩ = some (.int .i64 0) := by rw [hW, hB]; simp [go_sem]
  have u3 : W.cell? ⟨B + 1 + 1, 3, none⟩ = some (.bool false) := by rw [hW, hB]; simp [go_sem]
  have v0 : W.cell? ⟨B + 1 + 1 + 1, 0, none⟩ = some (.int .i64 0) := by rw [hW, hB]; simp [go_sem]
  have v1 : W.cell? ⟨B + 1 + 1 + 1, 1, none⟩ = some (.bool false) := by rw [hW, hB]; simp [go_sem]
  have v2 : W.cell? ⟨B + 1 + 1 + 1, 2, none⟩ = some (.int .i64 0) := by rw [hW, hB]; simp [go_sem]
  have fu0 : W.frozen? ⟨B + 1 + 1, 0, none⟩ = false := by rw [hW, hB]; simp [go_sem]
  have fu1 : W.frozen? ⟨B + 1 + 1, 1, none⟩ = false := by rw [hW, hB]; simp [go_sem]
  have fu2 : W.frozen? ⟨B + 1 + 1, 2, none⟩ = false := by rw [hW, hB]; simp [go_sem]
  have fu3 : W.frozen? ⟨B + 1 + 1, 3, none⟩ = false := by rw [hW, hB]; simp [go_sem]
  have fv0 : W.frozen? ⟨B + 1 + 1 + 1, 0, none⟩ = false := by rw [hW, hB]; simp [go_sem]
  have fv1 : W.frozen? ⟨B + 1 + 1 + 1, 1, none⟩ = false := by rw [hW, hB]; simp [go_sem]
  have fv2 : W.frozen? ⟨B + 1 + 1 + 1, 2, none⟩ = false := by rw [hW, hB]; simp [go_sem]
  have hb : Below w.heap.size w W := by rw [hW]; (focus repeat' (first | (with_reducible exact Below.refl _ _) | (with_reducible assumption) | (with_reducible refine Below.alloc ?_ ?_ _) | (with_reducible refine Below.drew ?_) | (with_reducible refine bdrewN ?_ _) | (with_reducible refine Below.setCell ?_ ?_ _) | (first | (with_reducible exact Nat.le_refl _) | (with_reducible assumption) | omega | (simp; omega) | (simp; done))))
  have zW : W.heap.size = w.heap.size + 4 := by rw [hW]; simp
  have HB := hide hb
  have HBB := hide hB
  have ZW := hide zW
  have hBW : B + 1 + 1 + 1 < W.heap.size := by omega
  have lrB : r < B ∧ rs < B := by omega
  have HLR := hide lrB
  clear hW hb hB zW lr lrB
  go_wp2_with fail
  refine (CL.out W HB.out).mono ?_
  rintro e w3 ⟨rfl, hb3⟩
  go_upto_region 5 with fail
  obtain ⟨X, hX⟩ : ∃ X, X = w3.alloc (.cells #[.bool true, .int .i64 (bX A.bs), .int .i64 (bWho A.bs), .bool A.bs.isSome] 131) := ⟨_, rfl⟩
  rw [← hX]
  obtain ⟨tn, htn⟩ : ∃ tn, tn = w3.heap.size := ⟨_, rfl⟩
  rw [← htn]
  have sX : ∀ b, b < W.heap.size → X.heap[b]? = W.heap[b]? := fun b hl => by rw [hX]; exact (al_blk _ _ (Nat.lt_of_lt_of_le hl hb3.size)).trans (hb3.block b hl)
  have p0 := cell_stay p0 (sX (B) (by omega))
  have p1 := cell_stay p1 (sX (B) (by omega))
  have q0 := cell_stay q0 (sX (B + 1) (by omega))
  have q1 := cell_stay q1 (sX (B + 1) (by omega))
  have q2 := cell_stay q2 (sX (B + 1) (by omega))
  have q3 := cell_stay q3 (sX (B + 1) (by omega))
  have u0 := cell_stay u0 (sX (B + 1 + 1) (by omega))
  have u1 := cell_stay u1 (sX (B + 1 + 1) (by omega))
  have u2 := cell_stay u2 (sX (B + 1 + 1) (by omega))
  have u3 := cell_stay u3 (sX (B + 1 + 1) (by omega))
  have v0 := cell_stay v0 (sX (B + 1 + 1 + 1) (by omega))
  have v1 := cell_stay v1 (sX (B + 1 + 1 + 1) (by omega))
  have v2 := cell_stay v2 (sX (B + 1 + 1 + 1) (by omega))
  have fu0 := fro_stay fu0 (sX (B + 1 + 1) (by omega))
  have fu1 := fro_stay fu1 (sX (B + 1 + 1) (by omega))
  have fu2 := fro_stay fu2 (sX (B + 1 + 1) (by omega))
  have fu3 := fro_stay fu3 (sX (B + 1 + 1) (by omega))
  have fv0 := fro_stay fv0 (sX (B + 1 + 1 + 1) (by omega))
  have fv1 := fro_stay fv1 (sX (B + 1 + 1 + 1) (by omega))
  have fv2 := fro_stay fv2 (sX (B + 1 + 1 + 1) (by omega))
  have t0 : X.cell? ⟨tn, 0, none⟩ = some (.bool true) := by rw [hX, htn]; simp [go_sem]
  have t1 : X.cell? ⟨tn, 1, none⟩ = some (.int .i64 (bX A.bs)) := by rw [hX, htn]; simp [go_sem]
  have t2 : X.cell? ⟨tn, 2, none⟩ = some (.int .i64 (bWho A.bs)) := by rw [hX, htn]; simp [go_sem]
  have t3 : X.cell? ⟨tn, 3, none⟩ = some (.bool A.bs.isSome) := by rw [hX, htn]; simp [go_sem]
  have bX : Below w.heap.size w X := by rw [hX]; exact (bstep HB.out hb3).alloc (bstep HB.out hb3).size _
  have HBX := hide bX
  have htb : B + 1 + 1 + 1 < tn := by have := hb3.size; omega
  have ltn : tn < X.heap.size := World.block_lt_of_cell? X _ t0
  have hXs : B + 1 + 1 + 1 < X.heap.size := by omega
  have hBW := hXs
  clear hX htn sX bX hb3
  go_wp2_with fail
  refine (CI.out X HBX.out).mono ?_
  rintro e w6 ⟨rfl, hb6⟩
  have sY : ∀ b, b < X.heap.size → w6.heap[b]? = X.heap[b]? := fun b hl => hb6.block b hl
  have p0 := cell_stay p0 (sY (B) (by omega))
  have p1 := cell_stay p1 (sY (B) (by omega))
  have q0 := cell_stay q0 (sY (B + 1) (by omega))
  have q1 := cell_stay q1 (sY (B + 1) (by omega))
  have q2 := cell_stay q2 (sY (B + 1) (by omega))
  have q3 := cell_stay q3 (sY (B + 1) (by omega))
  have u0 := cell_stay u0 (sY (B + 1 + 1) (by omega))
  have u1 := cell_stay u1 (sY (B + 1 + 1) (by omega))
  have u2 := cell_stay u2 (sY (B + 1 + 1) (by omega))
  have u3 := cell_stay u3 (sY (B + 1 + 1) (by omega))
  have v0 := cell_stay v0 (sY (B + 1 + 1 + 1) (by omega))
  have v1 := cell_stay v1 (sY (B + 1 + 1 + 1) (by omega))
  have v2 := cell_stay v2 (sY (B + 1 + 1 + 1) (by omega))
  have t0 := cell_stay t0 (sY (tn) (by omega))
  have t1 := cell_stay t1 (sY (tn) (by omega))
  have t2 := cell_stay t2 (sY (tn) (by omega))
  have t3 := cell_stay t3 (sY (tn) (by omega))
  have fu0 := fro_stay fu0 (sY (B + 1 + 1) (by omega))
  have fu1 := fro_stay fu1 (sY (B + 1 + 1) (by omega))
  have fu2 := fro_stay fu2 (sY (B + 1 + 1) (by omega))
  have fu3 := fro_stay fu3 (sY (B + 1 + 1) (by omega))
  have fv0 := fro_stay fv0 (sY (B + 1 + 1 + 1) (by omega))
  have fv1 := fro_stay fv1 (sY (B + 1 + 1 + 1) (by omega))
  have fv2 := fro_stay fv2 (sY (B + 1 + 1 + 1) (by omega))
  have HB6 := hide (bstep HBX.out hb6)
  have z6 := hb6.size
  have l6 : B + 1 + 1 + 1 < w6.heap.size := by omega
  have lt6 : tn < w6.heap.size := by omega
  have nn1 : B + 1 + 1 ≠ tn := by omega
  have nn2 : B + 1 + 1 + 1 ≠ tn := by omega
  clear hb6 sY z6 ltn hXs hBW htb
  go_upto_region 8 with fail
  obtain ⟨Z, hZ⟩ : ∃ Z, Z = w6.alloc (.cells #[.int .i64 (x), .bool false, .int .i64 0] 52) := ⟨_, rfl⟩
  rw [← hZ]
  obtain ⟨zn, hzn⟩ : ∃ zn, zn = w6.heap.size := ⟨_, rfl⟩
  rw [← hzn]
  have sZ : ∀ b, b < w6.heap.size → Z.heap[b]? = w6.heap[b]? := fun b hl => by rw [hZ]; exact al_blk _ _ hl
  have p0 := cell_stay p0 (sZ (B) (by omega))
  have p1 := cell_stay p1 (sZ (B) (by omega))
  have q0 := cell_stay q0 (sZ (B + 1) (by omega))
  have q1 := cell_stay q1 (sZ (B + 1) (by omega))
  have q2 := cell_stay q2 (sZ (B + 1) (by omega))
  have q3 := cell_stay q3 (sZ (B + 1) (by omega))
  have u0 := cell_stay u0 (sZ (B + 1 + 1) (by omega))
  have u1 := cell_stay u1 (sZ (B + 1 + 1) (by omega))
  have u2 := cell_stay u2 (sZ (B + 1 + 1) (by omega))
  have u3 := cell_stay u3 (sZ (B + 1 + 1) (by omega))
  have v0 := cell_stay v0 (sZ (B + 1 + 1 + 1) (by omega))
  have v1 := cell_stay v1 (sZ (B + 1 + 1 + 1) (by omega))
  have v2 := cell_stay v2 (sZ (B + 1 + 1 + 1) (by omega))
  have t0 := cell_stay t0 (sZ (tn) (by omega))
  have t1 := cell_stay t1 (sZ (tn) (by omega))
  have t2 := cell_stay t2 (sZ (tn) (by omega))
  have t3 := cell_stay t3 (sZ (tn) (by omega))
  have fu0 := fro_stay fu0 (sZ (B + 1 + 1) (by omega))
  have fu1 := fro_stay fu1 (sZ (B + 1 + 1) (by omega))
  have fu2 := fro_stay fu2 (sZ (B + 1 + 1) (by omega))
  have fu3 := fro_stay fu3 (sZ (B + 1 + 1) (by omega))
  have fv0 := fro_stay fv0 (sZ (B + 1 + 1 + 1) (by omega))
  have fv1 := fro_stay fv1 (sZ (B + 1 + 1 + 1) (by omega))
  have fv2 := fro_stay fv2 (sZ (B + 1 + 1 + 1) (by omega))
  have a0 : Z.cell? ⟨zn, 0, none⟩ = some (.int .i64 (x)) := by rw [hZ, hzn]; simp [go_sem]
  have a1 : Z.cell? ⟨zn, 1, none⟩ = some (.bool false) := by rw [hZ, hzn]; simp [go_sem]
  have a2 : Z.cell? ⟨zn, 2, none⟩ = some (.int .i64 0) := by rw [hZ, hzn]; simp [go_sem]
  have HBZ := hide (show Below w.heap.size w Z by rw [hZ]; exact HB6.out.alloc HB6.out.size _)
  have nz1 : B + 1 + 1 ≠ zn := by omega
  have nz2 : B + 1 + 1 + 1 ≠ zn := by omega
  clear hZ hzn sZ l6 lt6
  go_wp2_with fail
  try go_wp2
  refine bodyPost_ret (v := .tuple #[.agg #[.bool true, .int .i64 (bX A.bs), .int .i64 (bWho A.bs), .bool A.bs.isSome], .agg #[.int .i64 (0), .bool false, .int .i64 0], .bool false]) (by simp [results, Try.f45, go_sem, u0, u1, u2, u3, v0, v1, v2]) rfl ⟨rfl, ?_, ?_⟩
  · have lrb := HLR.out
    repeat (first | with_reducible refine robj_dr ?_ | with_reducible refine robj_set ?_ (by omega) (by omega) _ _)
    with_reducible exact H.out.below HBZ.out
  · have hBB := HBB.out
    repeat (first | with_reducible refine tch_dr ?_ | with_reducible refine Tch.setN ?_ (by omega) _ _)
    with_reducible exact Tch.of HBZ.out

set_option maxRecDepth 100000 in
set_option maxHeartbeats 4000000 in
theorem rlook_3s (r rs i n : Nat) (A : Ab) (x c sx sw : Int) (sa : Bool) (w : World) (h : RObj w r rs A) (hA : AbOk A n c) (hc : c ≤ 4611686018427387904) (hi : i < n) (heq : ∀ w, Sem.run Try.prog (binOp .eql 131 (.agg #[.bool true, .int .i64 sx, .int .i64 sw, .bool sa]) (.agg #[.bool true, .int .i64 (bX A.bs), .int .i64 (bWho A.bs), .bool A.bs.isSome])) w = .ok (.bool false) w) (hid : idleA A (i : Int) 3 x = false) : Calls Try.prog 45 #[.pointer (some ⟨r, 0, none⟩), .int .i64 (i : Int), .agg #[.int .i64 3, .int .i64 x], .agg #[.bool true, .int .i64 sx, .int .i64 sw, .bool sa]] w fun e w' => e = .returned (.tuple #[.agg #[.bool true, .int .i64 (bX A.bs), .int .i64 (bWho A.bs), .bool A.bs.isSome], .agg #[.int .i64 (0), .bool false, .int .i64 0], .bool false]) ∧ RObj w' r rs A ∧ Tch (fun b => b = r ∨ b = rs) w w' := by
  have lr := h.lt
  have CD := hide (fun V (hV : Below w.heap.size w V) => Do_any r rs A i n 3 x c V (h.below hV) hA hc hi)
  have CL := hide (fun V (hV : Below w.heap.size w V) => look_3 r rs A V (h.below hV))
  have CI := hide (fun V (hV : Below w.heap.size w V) => idle_3 A.bs (i : Int) x (.pointer (some ⟨r, 0, none⟩)) V)
  have hid2 : idleB A.bs (i : Int) x = false := hid
  rw [hid2] at CI
  have H := hide h
  clear h hA hc hi hid hid2
  go_enter Try.func45, Try.ntmps45
  go_upto_region 1 with fail
  obtain ⟨W, hW⟩ : ∃ W, W = (((w.alloc (.cells #[.int .i64 3, .int .i64 x] 57)).alloc (.cells #[.bool true, .int .i64 sx, .int .i64 sw, .bool sa] 131)).alloc (.cells #[.bool false, .int .i64 0, .int .i64 0, .bool false] 131)).alloc (.cells #[.int .i64 0, .bool false, .int .i64 0] 52) := ⟨_, rfl⟩
  rw [← hW]
  obtain ⟨B, hB⟩ : ∃ B, B = w.heap.size := ⟨_, rfl⟩
  rw [← hB]
  have p0 : W.cell? ⟨B, 0, none⟩ = some (.int .i64 3) := by rw [hW, hB]; simp [go_sem]
  have p1 : W.cell? ⟨B, 1, none⟩ = some (.int .i64 x) := by rw [hW, hB]; simp [go_sem]
  have q0 : W.cell? ⟨B + 1, 0, none⟩ = some (.bool true) := by rw [hW, hB]; simp [go_sem]
  have q1 : W.cell? ⟨B + 1, 1, none⟩ = some (.int .i64 sx) := by rw [hW, hB]; simp [go_sem]
  have q2 : W.cell? ⟨B + 1, 2, none⟩ = some (.int .i64 sw) := by rw [hW, hB]; simp [go_sem]
  have q3 : W.cell? ⟨B + 1, 3, none⟩ = some (.bool sa) := by rw [hW, hB]; simp [go_sem]
  have u0 : W.cell? ⟨B + 1 + 1, 0, none⟩ = some (.bool false) := by rw [hW, hB]; simp [go_sem]
  have u1 : W.cell? ⟨B + 1 + 1, 1, none⟩ = some (.int .i64 0) := by rw [hW, hB]; simp [go_sem]
  have u2 : W.cell? ⟨B + 1 + 1, 2, none⟩ = some (.int .i64 0) := by rw [hW, hB]; simp [go_sem]
  have u3 : W.cell? ⟨B + 1 + 1, 3, none⟩ = some (.bool false) := by rw [hW, hB]; simp [go_sem]
  have v0 : W.cell? ⟨B + 1 + 1 + 1, 0, none⟩ = some (.int .i64 0) := by rw [hW, hB]; simp [go_sem]
  have v1 : W.cell? ⟨B + 1 + 1 + 1, 1, none⟩ = some (.bool false) := by rw [hW, hB]; simp [go_sem]
  have v2 : W.cell? ⟨B + 1 + 1 + 1, 2, none⟩ = some (.int .i64 0) := by rw [hW, hB]; simp [go_sem]
  have fu0 : W.frozen? ⟨B + 1 + 1, 0, none⟩ = false := by rw [hW, hB]; simp [go_sem]
  have fu1 : W.frozen? ⟨B + 1 + 1, 1, none⟩ = false := by rw [hW, hB]; simp [go_sem]
  have fu2 : W.frozen? ⟨B + 1 + 1, 2, none⟩ = false := by rw [hW, hB]; simp [go_sem]
  have fu3 : W.frozen? ⟨B + 1 + 1, 3, none⟩ = false := by rw [hW, hB]; simp [go_sem]
  have fv0 : W.frozen? ⟨B + 1 + 1 + 1, 0, none⟩ = false := by rw [hW, hB]; simp [go_sem]
  have fv1 : W.frozen? ⟨B + 1 + 1 + 1, 1, none⟩ = false := by rw [hW, hB]; simp [go_sem]
  have fv2 : W.frozen? ⟨B + 1 + 1 + 1, 2, none⟩ = false := by rw [hW, hB]; simp [go_sem]
  have hb : Below w.heap.size w W := by rw [hW]; (focus repeat' (first | (with_reducible exact Below.refl _ _) | (with_reducible assumption) | (with_reducible refine Below.alloc ?_ ?_ _) | (with_reducible refine Below.drew ?_) | (with_reducible refine bdrewN ?_ _) | (with_reducible refine Below.setCell ?_ ?_ _) | (first | (with_reducible exact Nat.le_refl _) | (with_reducible assumption) | omega | (simp; omega) | (simp; done))))
  have zW : W.heap.size = w.heap.size + 4 := by rw [hW]; simp
  have HB := hide hb
  have HBB := hide hB
  have ZW := hide zW
  have hBW : B + 1 + 1 + 1 < W.heap.size := by omega
  have lrB : r < B ∧ rs < B := by omega
  have HLR := hide lrB
  clear hW hb hB zW lr lrB
  go_wp2_with fail
  refine (CL.out W HB.out).mono ?_
  rintro e w3 ⟨rfl, hb3⟩
  go_upto_region 5 with fail
  obtain ⟨X, hX⟩ : ∃ X, X = w3.alloc (.cells #[.bool true, .int .i64 (bX A.bs), .int .i64 (bWho A.bs), .bool A.bs.isSome] 131) := ⟨_, rfl⟩
  rw [← hX]
  obtain ⟨tn, htn⟩ : ∃ tn, tn = w3.heap.size := ⟨_, rfl⟩
  rw [← htn]
  have sX : ∀ b, b < W.heap.size → X.heap[b]? = W.heap[b]? := fun b hl => by rw [hX]; exact (al_blk _ _ (Nat.lt_of_lt_of_le hl hb3.size)).trans (hb3.block b hl)
  have p0 := cell_stay p0 (sX (B) (by omega))
  have p1 := cell_stay p1 (sX (B) (by omega))
  have q0 := cell_stay q0 (sX (B + 1) (by omega))
  have q1 := cell_stay q1 (sX (B + 1) (by omega))
  have q2 := cell_stay q2 (sX (B + 1) (by omega))
  have q3 := cell_stay q3 (sX (B + 1) (by omega))
  have u0 := cell_stay u0 (sX (B + 1 + 1) (by omega))
  have u1 := cell_stay u1 (sX (B + 1 + 1) (by omega))
  have u2 := cell_stay u2 (sX (B + 1 + 1) (by omega))
  have u3 := cell_stay u3 (sX (B + 1 + 1) (by omega))
  have v0 := cell_stay v0 (sX (B + 1 + 1 + 1) (by omega))
  have v1 := cell_stay v1 (sX (B + 1 + 1 + 1) (by omega))
  have v2 := cell_stay v2 (sX (B + 1 + 1 + 1) (by omega))
  have fu0 := fro_stay fu0 (sX (B + 1 + 1) (by omega))
  have fu1 := fro_stay fu1 (sX (B + 1 + 1) (by omega))
  have fu2 := fro_stay fu2 (sX (B + 1 + 1) (by omega))
  have fu3 := fro_stay fu3 (sX (B + 1 + 1) (by omega))
  have fv0 := fro_stay fv0 (sX (B + 1 + 1 + 1) (by omega))
  have fv1 := fro_stay fv1 (sX (B + 1 + 1 + 1) (by omega))
  have fv2 := fro_stay fv2 (sX (B + 1 + 1 + 1) (by omega))
  have t0 : X.cell? ⟨tn, 0, none⟩ = some (.bool true) := by rw [hX, htn]; simp [go_sem]
  have t1 : X.cell? ⟨tn, 1, none⟩ = some (.int .i64 (bX A.bs)) := by rw [hX, htn]; simp [go_sem]
  have t2 : X.cell? ⟨tn, 2, none⟩ = some (.int .i64 (bWho A.bs)) := by rw [hX, htn]; simp [go_sem]
  have t3 : X.cell? ⟨tn, 3, none⟩ = some (.bool A.bs.isSome) := by rw [hX, htn]; simp [go_sem]
  have bX : Below w.heap.size w X := by rw [hX]; exact (bstep HB.out hb3).alloc (bstep HB.out hb3).size _
  have HBX := hide bX
  have htb : B + 1 + 1 + 1 < tn := by have := hb3.size; omega
  have ltn : tn < X.heap.size := World.block_lt_of_cell? X _ t0
  have hXs : B + 1 + 1 + 1 < X.heap.size := by omega
  have hBW := hXs
  clear hX htn sX bX hb3
  go_wp2_with fail
  refine (CI.out X HBX.out).mono ?_
  rintro e w6 ⟨rfl, hb6⟩
  have sY : ∀ b, b < X.heap.size → w6.heap[b]? = X.heap[b]? := fun b hl => hb6.block b hl
  have p0 := cell_stay p0 (sY (B) (by omega))
  have p1 := cell_stay p1 (sY (B) (by omega))
  have q0 := cell_stay q0 (sY (B + 1) (by omega))
  have q1 := cell_stay q1 (sY (B + 1) (by omega))
  have q2 := cell_stay q2 (sY (B + 1) (by omega))
  have q3 := cell_stay q3 (sY (B + 1) (by omega))
  have u0 := cell_stay u0 (sY (B + 1 + 1) (by omega))
  have u1 := cell_stay u1 (sY (B + 1 + 1) (by omega))
  have u2 := cell_stay u2 (sY (B + 1 + 1) (by omega))
  have u3 := cell_stay u3 (sY (B + 1 + 1) (by omega))
  have v0 := cell_stay v0 (sY (B + 1 + 1 + 1) (by omega))
  have v1 := cell_stay v1 (sY (B + 1 + 1 + 1) (by omega))
  have v2 := cell_stay v2 (sY (B + 1 + 1 + 1) (by omega))
  have t0 := cell_stay t0 (sY (tn) (by omega))
  have t1 := cell_stay t1 (sY (tn) (by omega))
  have t2 := cell_stay t2 (sY (tn) (by omega))
  have t3 := cell_stay t3 (sY (tn) (by omega))
  have fu0 := fro_stay fu0 (sY (B + 1 + 1) (by omega))
  have fu1 := fro_stay fu1 (sY (B + 1 + 1) (by omega))
  have fu2 := fro_stay fu2 (sY (B + 1 + 1) (by omega))
  have fu3 := fro_stay fu3 (sY (B + 1 + 1) (by omega))
  have fv0 := fro_stay fv0 (sY (B + 1 + 1 + 1) (by omega))
  have fv1 := fro_stay fv1 (sY (B + 1 + 1 + 1) (by omega))
  have fv2 := fro_stay fv2 (sY (B + 1 + 1 + 1) (by omega))
  have HB6 := hide (bstep HBX.out hb6)
  have z6 := hb6.size
  have l6 : B + 1 + 1 + 1 < w6.heap.size := by omega
  have lt6 : tn < w6.heap.size := by omega
  have nn1 : B + 1 + 1 ≠ tn := by omega
  have nn2 : B + 1 + 1 + 1 ≠ tn := by omega
  clear hb6 sY z6 ltn hXs hBW htb
  go_upto_region 8 with fail
  obtain ⟨Z, hZ⟩ : ∃ Z, Z = w6.alloc (.cells #[.int .i64 (x), .bool false, .int .i64 0] 52) := ⟨_, rfl⟩
  rw [← hZ]
  obtain ⟨zn, hzn⟩ : ∃ zn, zn = w6.heap.size := ⟨_, rfl⟩
  rw [← hzn]
  have sZ : ∀ b, b < w6.heap.size → Z.heap[b]? = w6.heap[b]? := fun b hl => by rw [hZ]; exact al_blk _ _ hl
  have p0 := cell_stay p0 (sZ (B) (by omega))
  have p1 := cell_stay p1 (sZ (B) (by omega))
  have q0 := cell_stay q0 (sZ (B + 1) (by omega))
  have q1 := cell_stay q1 (sZ (B + 1) (by omega))
  have q2 := cell_stay q2 (sZ (B + 1) (by omega))
  have q3 := cell_stay q3 (sZ (B + 1) (by omega))
  have u0 := cell_stay u0 (sZ (B + 1 + 1) (by omega))
  have u1 := cell_stay u1 (sZ (B + 1 + 1) (by omega))
  have u2 := cell_stay u2 (sZ (B + 1 + 1) (by omega))
  have u3 := cell_stay u3 (sZ (B + 1 + 1) (by omega))
  have v0 := cell_stay v0 (sZ (B + 1 + 1 + 1) (by omega))
  have v1 := cell_stay v1 (sZ (B + 1 + 1 + 1) (by omega))
  have v2 := cell_stay v2 (sZ (B + 1 + 1 + 1) (by omega))
  have t0 := cell_stay t0 (sZ (tn) (by omega))
  have t1 := cell_stay t1 (sZ (tn) (by omega))
  have t2 := cell_stay t2 (sZ (tn) (by omega))
  have t3 := cell_stay t3 (sZ (tn) (by omega))
  have fu0 := fro_stay fu0 (sZ (B + 1 + 1) (by omega))
  have fu1 := fro_stay fu1 (sZ (B + 1 + 1) (by omega))
  have fu2 := fro_stay fu2 (sZ (B + 1 + 1) (by omega))
  have fu3 := fro_stay fu3 (sZ (B + 1 + 1) (by omega))
  have fv0 := fro_stay fv0 (sZ (B + 1 + 1 + 1) (by omega))
  have fv1 := fro_stay fv1 (sZ (B + 1 + 1 + 1) (by omega))
  have fv2 := fro_stay fv2 (sZ (B + 1 + 1 + 1) (by omega))
  have a0 : Z.cell? ⟨zn, 0, none⟩ = some (.int .i64 (x)) := by rw [hZ, hzn]; simp [go_sem]
  have a1 : Z.cell? ⟨zn, 1, none⟩ = some (.bool false) := by rw [hZ, hzn]; simp [go_sem]
  have a2 : Z.cell? ⟨zn, 2, none⟩ = some (.int .i64 0) := by rw [hZ, hzn]; simp [go_sem]
  have HBZ := hide (show Below w.heap.size w Z by rw [hZ]; exact HB6.out.alloc HB6.out.size _)
  have nz1 : B + 1 + 1 ≠ zn := by omega
  have nz2 : B + 1 + 1 + 1 ≠ zn := by omega
  clear hZ hzn sZ l6 lt6
  go_wp2_with fail
  try go_wp2
  refine bodyPost_ret (v := .tuple #[.agg #[.bool true, .int .i64 (bX A.bs), .int .i64 (bWho A.bs), .bool A.bs.isSome], .agg #[.int .i64 (0), .bool false, .int .i64 0], .bool false]) (by simp [results, Try.f45, go_sem, u0, u1, u2, u3, v0, v1, v2]) rfl ⟨rfl, ?_, ?_⟩
  · have lrb := HLR.out
    repeat (first | with_reducible refine robj_dr ?_ | with_reducible refine robj_set ?_ (by omega) (by omega) _ _)
    with_reducible exact H.out.below HBZ.out
  · have hBB := HBB.out
    repeat (first | with_reducible refine tch_dr ?_ | with_reducible refine Tch.setN ?_ (by omega) _ _)
    with_reducible exact Tch.of HBZ.out

set_option maxRecDepth 100000 in
set_option maxHeartbeats 4000000 in
theorem rhit_5 (r rs i n : Nat) (A : Ab) (x c sx sw : Int) (sa : Bool) (w : World) (h : RObj w r rs A) (hA : AbOk A n c) (hc : c ≤ 4611686018427387904) (hi : i < n) (heq : ∀ w, Sem.run Try.prog (binOp .eql 131 (.agg #[.bool true, .int .i64 sx, .int .i64 sw, .bool sa]) (.agg #[.bool true, .int .i64 A.tk, .int .i64 0, .bool false])) w = .ok (.bool true) w) : Calls Try.prog 45 #[.pointer (some ⟨r, 0, none⟩), .int .i64 (i : Int), .agg #[.int .i64 5, .int .i64 x], .agg #[.bool true, .int .i64 sx, .int .i64 sw, .bool sa]] w fun e w' => e = .returned (.tuple #[.agg #[.bool false, .int .i64 0, .int .i64 0, .bool false], .agg #[.int .i64 (doA A (i : Int) 5 x).1, .bool (doA A (i : Int) 5 x).2, .int .i64 0], .bool true]) ∧ RObj w' r rs (doS A (i : Int) 5 x) ∧ Tch (fun b => b = r ∨ b = rs) w w' := by
  have lr := h.lt
  have CD := hide (fun V (hV : Below w.heap.size w V) => Do_any r rs A i n 5 x c V (h.below hV) hA hc hi)
  have CL := hide (fun V (hV : Below w.heap.size w V) => look_5 r rs A V (h.below hV))
  have CI := hide (fun V (hV : Below w.heap.size w V) => idle_5 r rs A (i : Int) x A.tk V (h.below hV))
  obtain ⟨aa, haa⟩ : ∃ aa, aa = (doA A (i : Int) 5 x).1 := ⟨_, rfl⟩
  obtain ⟨ay, hay⟩ : ∃ ay, ay = (doA A (i : Int) 5 x).2 := ⟨_, rfl⟩
  unfold DoPost at CD
  rw [← haa, ← hay] at CD ⊢
  have H := hide h
  clear h hA hc hi haa hay
  go_enter Try.func45, Try.ntmps45
  go_upto_region 1 with fail
  obtain ⟨W, hW⟩ : ∃ W, W = (((w.alloc (.cells #[.int .i64 5, .int .i64 x] 57)).alloc (.cells #[.bool true, .int .i64 sx, .int .i64 sw, .bool sa] 131)).alloc (.cells #[.bool false, .int .i64 0, .int .i64 0, .bool false] 131)).alloc (.cells #[.int .i64 0, .bool false, .int .i64 0] 52) := ⟨_, rfl⟩
  rw [← hW]
  obtain ⟨B, hB⟩ : ∃ B, B = w.heap.size := ⟨_, rfl⟩
  rw [← hB]
  have p0 : W.cell? ⟨B, 0, none⟩ = some (.int .i64 5) := by rw [hW, hB]; simp [go_sem]
  have p1 : W.cell? ⟨B, 1, none⟩ = some (.int .i64 x) := by rw [hW, hB]; simp [go_sem]
  have q0 : W.cell? ⟨B + 1, 0, none⟩ = some (.bool true) := by rw [hW, hB]; simp [go_sem]
  have q1 : W.cell? ⟨B + 1, 1, none⟩ = some (.int .i64 sx) := by rw [hW, hB]; simp [go_sem]
  have q2 : W.cell? ⟨B + 1, 2, none⟩ = some (.int .i64 sw) := by rw [hW, hB]; simp [go_sem]
  have q3 : W.cell? ⟨B + 1, 3, none⟩ = some (.bool sa) := by rw [hW, hB]; simp [go_sem]
  have u0 : W.cell? ⟨B + 1 + 1, 0, none⟩ = some (.bool false) := by rw [hW, hB]; simp [go_sem]
  have u1 : W.cell? ⟨B + 1 + 1, 1, none⟩ = some (.int .i64 0) := by rw [hW, hB]; simp [go_sem]
  have u2 : W.cell? ⟨B + 1 + 1, 2, none⟩ = some (.int .i64 0) := by rw [hW, hB]; simp [go_sem]
  have u3 : W.cell? ⟨B + 1 + 1, 3, none⟩ = some (.bool false) := by rw [hW, hB]; simp [go_sem]
  have v0 : W.cell? ⟨B + 1 + 1 + 1, 0, none⟩ = some (.int .i64 0) := by rw [hW, hB]; simp [go_sem]
  have v1 : W.cell? ⟨B + 1 + 1 + 1, 1, none⟩ = some (.bool false) := by rw [hW, hB]; simp [go_sem]
  have v2 : W.cell? ⟨B + 1 + 1 + 1, 2, none⟩ = some (.int .i64 0) := by rw [hW, hB]; simp [go_sem]
  have fu0 : W.frozen? ⟨B + 1 + 1, 0, none⟩ = false := by rw [hW, hB]; simp [go_sem]
  have fu1 : W.frozen? ⟨B + 1 + 1, 1, none⟩ = false := by rw [hW, hB]; simp [go_sem]
  have fu2 : W.frozen? ⟨B + 1 + 1, 2, none⟩ = false := by rw [hW, hB]; simp [go_sem]
  have fu3 : W.frozen? ⟨B + 1 + 1, 3, none⟩ = false := by rw [hW, hB]; simp [go_sem]
  have fv0 : W.frozen? ⟨B + 1 + 1 + 1, 0, none⟩ = false := by rw [hW, hB]; simp [go_sem]
  have fv1 : W.frozen? ⟨B + 1 + 1 + 1, 1, none⟩ = false := by rw [hW, hB]; simp [go_sem]
  have fv2 : W.frozen? ⟨B + 1 + 1 + 1, 2, none⟩ = false := by rw [hW, hB]; simp [go_sem]
  have hb : Below w.heap.size w W := by rw [hW]; (focus repeat' (first | (with_reducible exact Below.refl _ _) | (with_reducible assumption) | (with_reducible refine Below.alloc ?_ ?_ _) | (with_reducible refine Below.drew ?_) | (with_reducible refine bdrewN ?_ _) | (with_reducible refine Below.setCell ?_ ?_ _) | (first | (with_reducible exact Nat.le_refl _) | (with_reducible assumption) | omega | (simp; omega) | (simp; done))))
  have zW : W.heap.size = w.heap.size + 4 := by rw [hW]; simp
  have HB := hide hb
  have HBB := hide hB
  have ZW := hide zW
  have hBW : B + 1 + 1 + 1 < W.heap.size := by omega
  have lrB : r < B ∧ rs < B := by omega
  have HLR := hide lrB
  clear hW hb hB zW lr lrB
  go_wp2_with fail
  refine (CL.out W HB.out).mono ?_
  rintro e w3 ⟨rfl, hb3⟩
  go_upto_region 5 with fail
  obtain ⟨X, hX⟩ : ∃ X, X = w3.alloc (.cells #[.bool true, .int .i64 A.tk, .int .i64 0, .bool false] 131) := ⟨_, rfl⟩
  rw [← hX]
  obtain ⟨tn, htn⟩ : ∃ tn, tn = w3.heap.size := ⟨_, rfl⟩
  rw [← htn]
  have sX : ∀ b, b < W.heap.size → X.heap[b]? = W.heap[b]? := fun b hl => by rw [hX]; exact (al_blk _ _ (Nat.lt_of_lt_of_le hl hb3.size)).trans (hb3.block b hl)
  have p0 := cell_stay p0 (sX (B) (by omega))
  have p1 := cell_stay p1 (sX (B) (by omega))
  have q0 := cell_stay q0 (sX (B + 1) (by omega))
  have q1 := cell_stay q1 (sX (B + 1) (by omega))
  have q2 := cell_stay q2 (sX (B + 1) (by omega))
  have q3 := cell_stay q3 (sX (B + 1) (by omega))
  have u0 := cell_stay u0 (sX (B + 1 + 1) (by omega))
  have u1 := cell_stay u1 (sX (B + 1 + 1) (by omega))
  have u2 := cell_stay u2 (sX (B + 1 + 1) (by omega))
  have u3 := cell_stay u3 (sX (B + 1 + 1) (by omega))
  have v0 := cell_stay v0 (sX (B + 1 + 1 + 1) (by omega))
  have v1 := cell_stay v1 (sX (B + 1 + 1 + 1) (by omega))
  have v2 := cell_stay v2 (sX (B + 1 + 1 + 1) (by omega))
  have fu0 := fro_stay fu0 (sX (B + 1 + 1) (by omega))
  have fu1 := fro_stay fu1 (sX (B + 1 + 1) (by omega))
  have fu2 := fro_stay fu2 (sX (B + 1 + 1) (by omega))
  have fu3 := fro_stay fu3 (sX (B + 1 + 1) (by omega))
  have fv0 := fro_stay fv0 (sX (B + 1 + 1 + 1) (by omega))
  have fv1 := fro_stay fv1 (sX (B + 1 + 1 + 1) (by omega))
  have fv2 := fro_stay fv2 (sX (B + 1 + 1 + 1) (by omega))
  have t0 : X.cell? ⟨tn, 0, none⟩ = some (.bool true) := by rw [hX, htn]; simp [go_sem]
  have t1 : X.cell? ⟨tn, 1, none⟩ = some (.int .i64 A.tk) := by rw [hX, htn]; simp [go_sem]
  have t2 : X.cell? ⟨tn, 2, none⟩ = some (.int .i64 0) := by rw [hX, htn]; simp [go_sem]
  have t3 : X.cell? ⟨tn, 3, none⟩ = some (.bool false) := by rw [hX, htn]; simp [go_sem]
  have bX : Below w.heap.size w X := by rw [hX]; exact (bstep HB.out hb3).alloc (bstep HB.out hb3).size _
  have HBX := hide bX
  have htb : B + 1 + 1 + 1 < tn := by have := hb3.size; omega
  have ltn : tn < X.heap.size := World.block_lt_of_cell? X _ t0
  have hXs : B + 1 + 1 + 1 < X.heap.size := by omega
  have hBW := hXs
  clear hX htn sX bX hb3
  go_wp2_with fail
  refine (CD.out X HBX.out).mono ?_
  rintro e w5 ⟨rfl, hro, ht⟩
  have sD : ∀ b, B ≤ b → b < X.heap.size → w5.heap[b]? = X.heap[b]? := fun b hb hl => ht.heap b hl (fun e => by have := HLR.out; omega)
  have p0 := cell_stay p0 (sD (B) (by omega) (by omega))
  have p1 := cell_stay p1 (sD (B) (by omega) (by omega))
  have q0 := cell_stay q0 (sD (B + 1) (by omega) (by omega))
  have q1 := cell_stay q1 (sD (B + 1) (by omega) (by omega))
  have q2 := cell_stay q2 (sD (B + 1) (by omega) (by omega))
  have q3 := cell_stay q3 (sD (B + 1) (by omega) (by omega))
  have u0 := cell_stay u0 (sD (B + 1 + 1) (by omega) (by omega))
  have u1 := cell_stay u1 (sD (B + 1 + 1) (by omega) (by omega))
  have u2 := cell_stay u2 (sD (B + 1 + 1) (by omega) (by omega))
  have u3 := cell_stay u3 (sD (B + 1 + 1) (by omega) (by omega))
  have v0 := cell_stay v0 (sD (B + 1 + 1 + 1) (by omega) (by omega))
  have v1 := cell_stay v1 (sD (B + 1 + 1 + 1) (by omega) (by omega))
  have v2 := cell_stay v2 (sD (B + 1 + 1 + 1) (by omega) (by omega))
  have fu0 := fro_stay fu0 (sD (B + 1 + 1) (by omega) (by omega))
  have fu1 := fro_stay fu1 (sD (B + 1 + 1) (by omega) (by omega))
  have fu2 := fro_stay fu2 (sD (B + 1 + 1) (by omega) (by omega))
  have fu3 := fro_stay fu3 (sD (B + 1 + 1) (by omega) (by omega))
  have fv0 := fro_stay fv0 (sD (B + 1 + 1 + 1) (by omega) (by omega))
  have fv1 := fro_stay fv1 (sD (B + 1 + 1 + 1) (by omega) (by omega))
  have fv2 := fro_stay fv2 (sD (B + 1 + 1 + 1) (by omega) (by omega))
  have HRO := hide hro
  have HT := hide ((Tch.of HBX.out).trans ht)
  have z5 := HT.out.size
  have HL5 := hide (show r < w5.heap.size ∧ rs < w5.heap.size from hro.lt)
  clear hro ht sD z5
  go_wp2
  refine bodyPost_ret (v := .tuple #[.agg #[.bool false, .int .i64 0, .int .i64 0, .bool false], .agg #[.int .i64 (aa), .bool ay, .int .i64 0], .bool true]) (by simp [results, Try.f45, go_sem, u0, u1, u2, u3, v0, v1, v2]) rfl ⟨rfl, ?_, ?_⟩
  · have lrb := HLR.out
    repeat (first | with_reducible refine robj_dr ?_ | with_reducible refine robj_set ?_ (by omega) (by omega) _ _)
    with_reducible exact HRO.out
  · have hBB := HBB.out
    repeat (first | with_reducible refine tch_dr ?_ | with_reducible refine Tch.setN ?_ (by omega) _ _)
    with_reducible exact HT.out

set_option maxRecDepth 100000 in
set_option maxHeartbeats 4000000 in
theorem ridle_5f (r rs i n : Nat) (A : Ab) (x c sx sw : Int) (sa : Bool) (w : World) (h : RObj w r rs A) (hA : AbOk A n c) (hc : c ≤ 4611686018427387904) (hi : i < n) (hid : idleA A (i : Int) 5 x = true) : Calls Try.prog 45 #[.pointer (some ⟨r, 0, none⟩), .int .i64 (i : Int), .agg #[.int .i64 5, .int .i64 x], .agg #[.bool false, .int .i64 sx, .int .i64 sw, .bool sa]] w fun e w' => e = .returned (.tuple #[.agg #[.bool false, .int .i64 0, .int .i64 0, .bool false], .agg #[.int .i64 (0), .bool false, .int .i64 0], .bool true]) ∧ RObj w' r rs A ∧ Tch (fun b => b = r ∨ b = rs) w w' := by
  have lr := h.lt
  have CD := hide (fun V (hV : Below w.heap.size w V) => Do_any r rs A i n 5 x c V (h.below hV) hA hc hi)
  have CL := hide (fun V (hV : Below w.heap.size w V) => look_5 r rs A V (h.below hV))
  have CI := hide (fun V (hV : Below w.heap.size w V) => idle_5 r rs A (i : Int) x A.tk V (h.below hV))
  have hid2 : decide (A.tt ≤ A.tk) = true := hid
  rw [hid2] at CI
  have H := hide h
  clear h hA hc hi hid hid2
  go_enter Try.func45, Try.ntmps45
  go_upto_region 1 with fail
  obtain ⟨W, hW⟩ : ∃ W, W = (((w.alloc (.cells #[.int .i64 5, .int .i64 x] 57)).alloc (.cells #[.bool false, .int .i64 sx, .int .i64 sw, .bool sa] 131)).alloc (.cells #[.bool false, .int .i64 0, .int .i64 0, .bool false] 131)).alloc (.cells #[.int .i64 0, .bool false, .int .i64 0] 52) := ⟨_, rfl⟩
  rw [← hW]
  obtain ⟨B, hB⟩ : ∃ B, B = w.heap.size := ⟨_, rfl⟩
  rw [← hB]
  have p0 : W.cell? ⟨B, 0, none⟩ = some (.int .i64 5) := by rw [hW, hB]; simp [go_sem]
  have p1 : W.cell? ⟨B, 1, none⟩ = some (.int .i64 x) := by rw [hW, hB]; simp [go_sem]
  have q0 : W.cell? ⟨B + 1, 0, none⟩ = some (.bool false) := by rw [hW, hB]; simp [go_sem]
  have q1 : W.cell? ⟨B + 1, 1, none⟩ = some (.int .i64 sx) := by rw [hW, hB]; simp [go_sem]
  have q2 : W.cell? ⟨B + 1, 2, none⟩ = some (.int .i64 sw) := by rw [hW, hB]; simp [go_sem]
  have q3 : W.cell? ⟨B + 1, 3, none⟩ = some (.bool sa) := by rw [hW, hB]; simp [go_sem]
  have u0 : W.cell? ⟨B + 1 + 1, 0, none⟩ = some (.bool false) := by rw [hW, hB]; simp [go_sem]
  have u1 : W.cell? ⟨B + 1 + 1, 1, none⟩ = some (.int .i64 0) := by rw [hW, hB]; simp [go_sem]
  have u2 : W.cell? ⟨B + 1 + 1, 2, none⟩ = some (.int .i64 0) := by rw [hW, hB]; simp [go_sem]
  have u3 : W.cell? ⟨B + 1 + 1, 3, none⟩ = some (.bool false) := by rw [hW, hB]; simp [go_sem]
  have v0 : W.cell? ⟨B + 1 + 1 + 1, 0, none⟩ = some (.int .i64 0) := by rw [hW, hB]; simp [go_sem]
  have v1 : W.cell? ⟨B + 1 + 1 + 1, 1, none⟩ = some (.bool false) := by rw [hW, hB]; simp [go_sem]
  have v2 : W.cell? ⟨B + 1 + 1 + 1, 2, none⟩ = some (.int .i64 0) := by rw [hW, hB]; simp [go_sem]
  have fu0 : W.frozen? ⟨B + 1 + 1, 0, none⟩ = false := by rw [hW, hB]; simp [go_sem]
  have fu1 : W.frozen? ⟨B + 1 + 1, 1, none⟩ = false := by rw [hW, hB]; simp [go_sem]
  have fu2 : W.frozen? ⟨B + 1 + 1, 2, none⟩ = false := by rw [hW, hB]; simp [go_sem]
  have fu3 : W.frozen? ⟨B + 1 + 1, 3, none⟩ = false := by rw [hW, hB]; simp [go_sem]
  have fv0 : W.frozen? ⟨B + 1 + 1 + 1, 0, none⟩ = false := by rw [hW, hB]; simp [go_sem]
  have fv1 : W.frozen? ⟨B + 1 + 1 + 1, 1, none⟩ = false := by rw [hW, hB]; simp [go_sem]
  have fv2 : W.frozen? ⟨B + 1 + 1 + 1, 2, none⟩ = false := by rw [hW, hB]; simp [go_sem]
  have hb : Below w.heap.size w W := by rw [hW]; (focus repeat' (first | (with_reducible exact Below.refl _ _) | (with_reducible assumption) | (with_reducible refine Below.alloc ?_ ?_ _) | (with_reducible refine Below.drew ?_) | (with_reducible refine bdrewN ?_ _) | (with_reducible refine Below.setCell ?_ ?_ _) | (first | (with_reducible exact Nat.le_refl _) | (with_reducible assumption) | omega | (simp; omega) | (simp; done))))
  have zW : W.heap.size = w.heap.size + 4 := by rw [hW]; simp
  have HB := hide hb
  have HBB := hide hB
  have ZW := hide zW
  have hBW : B + 1 + 1 + 1 < W.heap.size := by omega
  have lrB : r < B ∧ rs < B := by omega
  have HLR := hide lrB
  clear hW hb hB zW lr lrB
  go_wp2_with fail
  refine (CL.out W HB.out).mono ?_
  rintro e w3 ⟨rfl, hb3⟩
  go_upto_region 5 with fail
  obtain ⟨X, hX⟩ : ∃ X, X = w3.alloc (.cells #[.bool true, .int .i64 A.tk, .int .i64 0, .bool false] 131) := ⟨_, rfl⟩
  rw [← hX]
  obtain ⟨tn, htn⟩ : ∃ tn, tn = w3.heap.size := ⟨_, rfl⟩
  rw [← htn]
  have sX : ∀ b, b < W.heap.size → X.heap[b]? = W.heap[b]? := fun b hl => by rw [hX]; exact (al_blk _ _ (Nat.lt_of_lt_of_le hl hb3.size)).trans (hb3.block b hl)
  have p0 := cell_stay p0 (sX (B) (by omega))
  have p1 := cell_stay p1 (sX (B) (by omega))
  have q0 := cell_stay q0 (sX (B + 1) (by omega))
  have q1 := cell_stay q1 (sX (B + 1) (by omega))
  have q2 := cell_stay q2 (sX (B + 1) (by omega))
  have q3 := cell_stay q3 (sX (B + 1) (by omega))
  have u0 := cell_stay u0 (sX (B + 1 + 1) (by omega))
  have u1 := cell_stay u1 (sX (B + 1 + 1) (by omega))
  have u2 := cell_stay u2 (sX (B + 1 + 1) (by omega))
  have u3 := cell_stay u3 (sX (B + 1 + 1) (by omega))
  have v0 := cell_stay v0 (sX (B + 1 + 1 + 1) (by omega))
  have v1 := cell_stay v1 (sX (B + 1 + 1 + 1) (by omega))
  have v2 := cell_stay v2 (sX (B + 1 + 1 + 1) (by omega))
  have fu0 := fro_stay fu0 (sX (B + 1 + 1) (by omega))
  have fu1 := fro_stay fu1 (sX (B + 1 + 1) (by omega))
  have fu2 := fro_stay fu2 (sX (B + 1 + 1) (by omega))
  have fu3 := fro_stay fu3 (sX (B + 1 + 1) (by omega))
  have fv0 := fro_stay fv0 (sX (B + 1 + 1 + 1) (by omega))
  have fv1 := fro_stay fv1 (sX (B + 1 + 1 + 1) (by omega))
  have fv2 := fro_stay fv2 (sX (B + 1 + 1 + 1) (by omega))
  have t0 : X.cell? ⟨tn, 0, none⟩ = some (.bool true) := by rw [hX, htn]; simp [go_sem]
  have t1 : X.cell? ⟨tn, 1, none⟩ = some (.int .i64 A.tk) := by rw [hX, htn]; simp [go_sem]
  have t2 : X.cell? ⟨tn, 2, none⟩ = some (.int .i64 0) := by rw [hX, htn]; simp [go_sem]
  have t3 : X.cell? ⟨tn, 3, none⟩ = some (.bool false) := by rw [hX, htn]; simp [go_sem]
  have bX : Below w.heap.size w X := by rw [hX]; exact (bstep HB.out hb3).alloc (bstep HB.out hb3).size _
  have HBX := hide bX
  have htb : B + 1 + 1 + 1 < tn := by have := hb3.size; omega
  have ltn : tn < X.heap.size := World.block_lt_of_cell? X _ t0
  have hXs : B + 1 + 1 + 1 < X.heap.size := by omega
  have hBW := hXs
  clear hX htn sX bX hb3
  go_wp2_with fail
  refine (CI.out X HBX.out).mono ?_
  rintro e w6 ⟨rfl, hb6⟩
  have sY : ∀ b, b < X.heap.size → w6.heap[b]? = X.heap[b]? := fun b hl => hb6.block b hl
  have p0 := cell_stay p0 (sY (B) (by omega))
  have p1 := cell_stay p1 (sY (B) (by omega))
  have q0 := cell_stay q0 (sY (B + 1) (by omega))
  have q1 := cell_stay q1 (sY (B + 1) (by omega))
  have q2 := cell_stay q2 (sY (B + 1) (by omega))
  have q3 := cell_stay q3 (sY (B + 1) (by omega))
  have u0 := cell_stay u0 (sY (B + 1 + 1) (by omega))
  have u1 := cell_stay u1 (sY (B + 1 + 1) (by omega))
  have u2 := cell_stay u2 (sY (B + 1 + 1) (by omega))
  have u3 := cell_stay u3 (sY (B + 1 + 1) (by omega))
  have v0 := cell_stay v0 (sY (B + 1 + 1 + 1) (by omega))
  have v1 := cell_stay v1 (sY (B + 1 + 1 + 1) (by omega))
  have v2 := cell_stay v2 (sY (B + 1 + 1 + 1) (by omega))
  have t0 := cell_stay t0 (sY (tn) (by omega))
  have t1 := cell_stay t1 (sY (tn) (by omega))
  have t2 := cell_stay t2 (sY (tn) (by omega))
  have t3 := cell_stay t3 (sY (tn) (by omega))
  have fu0 := fro_stay fu0 (sY (B + 1 + 1) (by omega))
  have fu1 := fro_stay fu1 (sY (B + 1 + 1) (by omega))
  have fu2 := fro_stay fu2 (sY (B + 1 + 1) (by omega))
  have fu3 := fro_stay fu3 (sY (B + 1 + 1) (by omega))
  have fv0 := fro_stay fv0 (sY (B + 1 + 1 + 1) (by omega))
  have fv1 := fro_stay fv1 (sY (B + 1 + 1 + 1) (by omega))
  have fv2 := fro_stay fv2 (sY (B + 1 + 1 + 1) (by omega))
  have HB6 := hide (bstep HBX.out hb6)
  have z6 := hb6.size
  have l6 : B + 1 + 1 + 1 < w6.heap.size := by omega
  have lt6 : tn < w6.heap.size := by omega
  have nn1 : B + 1 + 1 ≠ tn := by omega
  have nn2 : B + 1 + 1 + 1 ≠ tn := by omega
  clear hb6 sY z6 ltn hXs hBW htb
  go_upto_region 8 with fail
  obtain ⟨Z, hZ⟩ : ∃ Z, Z = w6.alloc (.cells #[.int .i64 (0), .bool false, .int .i64 0] 52) := ⟨_, rfl⟩
  rw [← hZ]
  obtain ⟨zn, hzn⟩ : ∃ zn, zn = w6.heap.size := ⟨_, rfl⟩
  rw [← hzn]
  have sZ : ∀ b, b < w6.heap.size → Z.heap[b]? = w6.heap[b]? := fun b hl => by rw [hZ]; exact al_blk _ _ hl
  have p0 := cell_stay p0 (sZ (B) (by omega))
  have p1 := cell_stay p1 (sZ (B) (by omega))
  have q0 := cell_stay q0 (sZ (B + 1) (by omega))
  have q1 := cell_stay q1 (sZ (B + 1) (by omega))
  have q2 := cell_stay q2 (sZ (B + 1) (by omega))
  have q3 := cell_stay q3 (sZ (B + 1) (by omega))
  have u0 := cell_stay u0 (sZ (B + 1 + 1) (by omega))
  have u1 := cell_stay u1 (sZ (B + 1 + 1) (by omega))
  have u2 := cell_stay u2 (sZ (B + 1 + 1) (by omega))
  have u3 := cell_stay u3 (sZ (B + 1 + 1) (by omega))
  have v0 := cell_stay v0 (sZ (B + 1 + 1 + 1) (by omega))
  have v1 := cell_stay v1 (sZ (B + 1 + 1 + 1) (by omega))
  have v2 := cell_stay v2 (sZ (B + 1 + 1 + 1) (by omega))
  have t0 := cell_stay t0 (sZ (tn) (by omega))
  have t1 := cell_stay t1 (sZ (tn) (by omega))
  have t2 := cell_stay t2 (sZ (tn) (by omega))
  have t3 := cell_stay t3 (sZ (tn) (by omega))
  have fu0 := fro_stay fu0 (sZ (B + 1 + 1) (by omega))
  have fu1 := fro_stay fu1 (sZ (B + 1 + 1) (by omega))
  have fu2 := fro_stay fu2 (sZ (B + 1 + 1) (by omega))
  have fu3 := fro_stay fu3 (sZ (B + 1 + 1) (by omega))
  have fv0 := fro_stay fv0 (sZ (B + 1 + 1 + 1) (by omega))
  have fv1 := fro_stay fv1 (sZ (B + 1 + 1 + 1) (by omega))
  have fv2 := fro_stay fv2 (sZ (B + 1 + 1 + 1) (by omega))
  have a0 : Z.cell? ⟨zn, 0, none⟩ = some (.int .i64 (0)) := by rw [hZ, hzn]; simp [go_sem]
  have a1 : Z.cell? ⟨zn, 1, none⟩ = some (.bool false) := by rw [hZ, hzn]; simp [go_sem]
  have a2 : Z.cell? ⟨zn, 2, none⟩ = some (.int .i64 0) := by rw [hZ, hzn]; simp [go_sem]
  have HBZ := hide (show Below w.heap.size w Z by rw [hZ]; exact HB6.out.alloc HB6.out.size _)
  have nz1 : B + 1 + 1 ≠ zn := by omega
  have nz2 : B + 1 + 1 + 1 ≠ zn := by omega
  clear hZ hzn sZ l6 lt6
  go_wp2_with fail
  go_region
  go_wp2
  refine bodyPost_ret (v := .tuple #[.agg #[.bool false, .int .i64 0, .int .i64 0, .bool false], .agg #[.int .i64 (0), .bool false, .int .i64 0], .bool true]) (by simp [results, Try.f45, go_sem, u0, u1, u2, u3, v0, v1, v2]) rfl ⟨rfl, ?_, ?_⟩
  · have lrb := HLR.out
    repeat (first | with_reducible refine robj_dr ?_ | with_reducible refine robj_set ?_ (by omega) (by omega) _ _)
    with_reducible exact H.out.below HBZ.out
  · have hBB := HBB.out
    repeat (first | with_reducible refine tch_dr ?_ | with_reducible refine Tch.setN ?_ (by omega) _ _)
    with_reducible exact Tch.of HBZ.out

set_option maxRecDepth 100000 in
set_option maxHeartbeats 4000000 in
theorem ridle_5s (r rs i n : Nat) (A : Ab) (x c sx sw : Int) (sa : Bool) (w : World) (h : RObj w r rs A) (hA : AbOk A n c) (hc : c ≤ 4611686018427387904) (hi : i < n) (heq : ∀ w, Sem.run Try.prog (binOp .eql 131 (.agg #[.bool true, .int .i64 sx, .int .i64 sw, .bool sa]) (.agg #[.bool true, .int .i64 A.tk, .int .i64 0, .bool false])) w = .ok (.bool false) w) (hid : idleA A (i : Int) 5 x = true) : Calls Try.prog 45 #[.pointer (some ⟨r, 0, none⟩), .int .i64 (i : Int), .agg #[.int .i64 5, .int .i64 x], .agg #[.bool true, .int .i64 sx, .int .i64 sw, .bool sa]] w fun e w' => e = .returned (.tuple #[.agg #[.bool false, .int .i64 0, .int .i64 0, .bool false], .agg #[.int .i64 (0), .bool false, .int .i64 0], .bool true]) ∧ RObj w' r rs A ∧ Tch (fun b => b = r ∨ b = rs) w w' := by
  have lr := h.lt
  have CD := hide (fun V (hV : Below w.heap.size w V) => Do_any r rs A i n 5 x c V (h.below hV) hA hc hi)
  have CL := hide (fun V (hV : Below w.heap.size w V) => look_5 r rs A V (h.below hV))
  have CI := hide (fun V (hV : Below w.heap.size w V) => idle_5 r rs A (i : Int) x A.tk V (h.below hV))
  have hid2 : decide (A.tt ≤ A.tk) = true := hid
  rw [hid2] at CI
  have H := hide h
  clear h hA hc hi hid hid2
  go_enter Try.func45, Try.ntmps45
  go_upto_region 1 with fail
  obtain ⟨W, hW⟩ : ∃ W, W = (((w.alloc (.cells #[.int .i64 5, .int .i64 x] 57)).alloc (.cells #[.bool true, .int .i64 sx, .int .i64 sw, .bool sa] 131)).alloc (.cells #[.bool false, .int .i64 0, .int .i64 0, .bool false] 131)).alloc (.cells #[.int .i64 0, .bool false, .int .i64 0] 52) := ⟨_, rfl⟩
  rw [← hW]
  obtain ⟨B, hB⟩ : ∃ B, B = w.heap.size := ⟨_, rfl⟩
  rw [← hB]
  have p0 : W.cell? ⟨B, 0, none⟩ = some (.int .i64 5) := by rw [hW, hB]; simp [go_sem]
  have p1 : W.cell? ⟨B, 1, none⟩ = some (.int .i64 x) := by rw [hW, hB]; simp [go_sem]
  have q0 : W.cell? ⟨B + 1, 0, none⟩ = some (.bool true) := by rw [hW, hB]; simp [go_sem]
  have q1 : W.cell? ⟨B + 1, 1, none⟩ = some (.int .i64 sx) := by rw [hW, hB]; simp [go_sem]
  have q2 : W.cell? ⟨B + 1, 2, none⟩ = some (.int .i64 sw) := by rw [hW, hB]; simp [go_sem]
  have q3 : W.cell? ⟨B + 1, 3, none⟩ = some (.bool sa) := by rw [hW, hB]; simp [go_sem]
  have u0 : W.cell? ⟨B + 1 + 1, 0, none⟩ = some (.bool false) := by rw [hW, hB]; simp [go_sem]
  have u1 : W.cell? ⟨B + 1 + 1, 1, none⟩ = some (.int .i64 0) := by rw [hW, hB]; simp [go_sem]
  have u2 : W.cell? ⟨B + 1 + 1, 2, none⟩ = some (.int .i64 0) := by rw [hW, hB]; simp [go_sem]
  have u3 : W.cell? ⟨B + 1 + 1, 3, none⟩ = some (.bool false) := by rw [hW, hB]; simp [go_sem]
  have v0 : W.cell? ⟨B + 1 + 1 + 1, 0, none⟩ = some (.int .i64 0) := by rw [hW, hB]; simp [go_sem]
  have v1 : W.cell? ⟨B + 1 + 1 + 1, 1, none⟩ = some (.bool false) := by rw [hW, hB]; simp [go_sem]
  have v2 : W.cell? ⟨B + 1 + 1 + 1, 2, none⟩ = some (.int .i64 0) := by rw [hW, hB]; simp [go_sem]
  have fu0 : W.frozen? ⟨B + 1 + 1, 0, none⟩ = false := by rw [hW, hB]; simp [go_sem]
  have fu1 : W.frozen? ⟨B + 1 + 1, 1, none⟩ = false := by rw [hW, hB]; simp [go_sem]
  have fu2 : W.frozen? ⟨B + 1 + 1, 2, none⟩ = false := by rw [hW, hB]; simp [go_sem]
  have fu3 : W.frozen? ⟨B + 1 + 1, 3, none⟩ = false := by rw [hW, hB]; simp [go_sem]
  have fv0 : W.frozen? ⟨B + 1 + 1 + 1, 0, none⟩ = false := by rw [hW, hB]; simp [go_sem]
  have fv1 : W.frozen? ⟨B + 1 + 1 + 1, 1, none⟩ = false := by rw [hW, hB]; simp [go_sem]
  have fv2 : W.frozen? ⟨B + 1 + 1 + 1, 2, none⟩ = false := by rw [hW, hB]; simp [go_sem]
  have hb : Below w.heap.size w W := by rw [hW]; (focus repeat' (first | (with_reducible exact Below.refl _ _) | (with_reducible assumption) | (with_reducible refine Below.alloc ?_ ?_ _) | (with_reducible refine Below.drew ?_) | (with_reducible refine bdrewN ?_ _) | (with_reducible refine Below.setCell ?_ ?_ _) | (first | (with_reducible exact Nat.le_refl _) | (with_reducible assumption) | omega | (simp; omega) | (simp; done))))
  have zW : W.heap.size = w.heap.size + 4 := by rw [hW]; simp
  have HB := hide hb
  have HBB := hide hB
  have ZW := hide zW
  have hBW : B + 1 + 1 + 1 < W.heap.size := by omega
  have lrB : r < B ∧ rs < B := by omega
  have HLR := hide lrB
  clear hW hb hB zW lr lrB
  go_wp2_with fail
  refine (CL.out W HB.out).mono ?_
  rintro e w3 ⟨rfl, hb3⟩
  go_upto_region 5 with fail
  obtain ⟨X, hX⟩ : ∃ X, X = w3.alloc (.cells #[.bool true, .int .i64 A.tk, .int .i64 0, .bool false] 131) := ⟨_, rfl⟩
  rw [← hX]
  obtain ⟨tn, htn⟩ : ∃ tn, tn = w3.heap.size := ⟨_, rfl⟩
  rw [← htn]
  have sX : ∀ b, b < W.heap.size → X.heap[b]? = W.heap[b]? := fun b hl => by rw [hX]; exact (al_blk _ _ (Nat.lt_of_lt_of_le hl hb3.size)).trans (hb3.block b hl)
  have p0 := cell_stay p0 (sX (B) (by omega))
  have p1 := cell_stay p1 (sX (B) (by omega))
  have q0 := cell_stay q0 (sX (B + 1) (by omega))
  have q1 := cell_stay q1 (sX (B + 1) (by omega))
  have q2 := cell_stay q2 (sX (B + 1) (by omega))
  have q3 := cell_stay q3 (sX (B + 1) (by omega))
  have u0 := cell_stay u0 (sX (B + 1 + 1) (by omega))
  have u1 := cell_stay u1 (sX (B + 1 + 1) (by omega))
  have u2 := cell_stay u2 (sX (B + 1 + 1) (by omega))
  have u3 := cell_stay u3 (sX (B + 1 + 1) (by omega))
  have v0 := cell_stay v0 (sX (B + 1 + 1 + 1) (by omega))
  have v1 := cell_stay v1 (sX (B + 1 + 1 + 1) (by omega))
  have v2 := cell_stay v2 (sX (B + 1 + 1 + 1) (by omega))
  have fu0 := fro_stay fu0 (sX (B + 1 + 1) (by omega))
  have fu1 := fro_stay fu1 (sX (B + 1 + 1) (by omega))
  have fu2 := fro_stay fu2 (sX (B + 1 + 1) (by omega))
  have fu3 := fro_stay fu3 (sX (B + 1 + 1) (by omega))
  have fv0 := fro_stay fv0 (sX (B + 1 + 1 + 1) (by omega))
  have fv1 := fro_stay fv1 (sX (B + 1 + 1 + 1) (by omega))
  have fv2 := fro_stay fv2 (sX (B + 1 + 1 + 1) (by omega))
  have t0 : X.cell? ⟨tn, 0, none⟩ = some (.bool true) := by rw [hX, htn]; simp [go_sem]
  have t1 : X.cell? ⟨tn, 1, none⟩ = some (.int .i64 A.tk) := by rw [hX, htn]; simp [go_sem]
  have t2 : X.cell? ⟨tn, 2, none⟩ = some (.int .i64 0) := by rw [hX, htn]; simp [go_sem]
  have t3 : X.cell? ⟨tn, 3, none⟩ = some (.bool false) := by rw [hX, htn]; simp [go_sem]
  have bX : Below w.heap.size w X := by rw [hX]; exact (bstep HB.out hb3).alloc (bstep HB.out hb3).size _
  have HBX := hide bX
  have htb : B + 1 + 1 + 1 < tn := by have := hb3.size; omega
  have ltn : tn < X.heap.size := World.block_lt_of_cell? X _ t0
  have hXs : B + 1 + 1 + 1 < X.heap.size := by omega
  have hBW := hXs
  clear hX htn sX bX hb3
  go_wp2_with fail
  refine (CI.out X HBX.out).mono ?_
  rintro e w6 ⟨rfl, hb6⟩
  have sY : ∀ b, b < X.heap.size → w6.heap[b]? = X.heap[b]? := fun b hl => hb6.block b hl
  have p0 := cell_stay p0 (sY (B) (by omega))
  have p1 := cell_stay p1 (sY (B) (by omega))
  have q0 := cell_stay q0 (sY (B + 1) (by omega))
  have q1 := cell_stay q1 (sY (B + 1) (by omega))
  have q2 := cell_stay q2 (sY (B + 1) (by omega))
  have q3 := cell_stay q3 (sY (B + 1) (by omega))
  have u0 := cell_stay u0 (sY (B + 1 + 1) (by omega))
  have u1 := cell_stay u1 (sY (B + 1 + 1) (by omega))
  have u2 := cell_stay u2 (sY (B + 1 + 1) (by omega))
  have u3 := cell_stay u3 (sY (B + 1 + 1) (by omega))
  have v0 := cell_stay v0 (sY (B + 1 + 1 + 1) (by omega))
  have v1 := cell_stay v1 (sY (B + 1 + 1 + 1) (by omega))
  have v2 := cell_stay v2 (sY (B + 1 + 1 + 1) (by omega))
  have t0 := cell_stay t0 (sY (tn) (by omega))
  have t1 := cell_stay t1 (sY (tn) (by omega))
  have t2 := cell_stay t2 (sY (tn) (by omega))
  have t3 := cell_stay t3 (sY (tn) (by omega))
  have fu0 := fro_stay fu0 (sY (B + 1 + 1) (by omega))
  have fu1 := fro_stay fu1 (sY (B + 1 + 1) (by omega))
  have fu2 := fro_stay fu2 (sY (B + 1 + 1) (by omega))
  have fu3 := fro_stay fu3 (sY (B + 1 + 1) (by omega))
  have fv0 := fro_stay fv0 (sY (B + 1 + 1 + 1) (by omega))
  have fv1 := fro_stay fv1 (sY (B + 1 + 1 + 1) (by omega))
  have fv2 := fro_stay fv2 (sY (B + 1 + 1 + 1) (by omega))
  have HB6 := hide (bstep HBX.out hb6)
  have z6 := hb6.size
  have l6 : B + 1 + 1 + 1 < w6.heap.size := by omega
  have lt6 : tn < w6.heap.size := by omega
  have nn1 : B + 1 + 1 ≠ tn := by omega
  have nn2 : B + 1 + 1 + 1 ≠ tn := by omega
  clear hb6 sY z6 ltn hXs hBW htb
  go_upto_region 8 with fail
  obtain ⟨Z, hZ⟩ : ∃ Z, Z = w6.alloc (.cells #[.int .i64 (0), .bool false, .int .i64 0] 52) := ⟨_, rfl⟩
  rw [← hZ]
  obtain ⟨zn, hzn⟩ : ∃ zn, zn = w6.heap.size := ⟨_, rfl⟩
  rw [← hzn]
  have sZ : ∀ b, b < w6.heap.size → Z.heap[b]? = w6.heap[b]? := fun b hl => by rw [hZ]; exact al_blk _ _ hl
  have p0 := cell_stay p0 (sZ (B) (by omega))
  have p1 := cell_stay p1 (sZ (B) (by omega))
  have q0 := cell_stay q0 (sZ (B + 1) (by omega))
  have q1 := cell_stay q1 (sZ (B + 1) (by omega))
  have q2 := cell_stay q2 (sZ (B + 1) (by omega))
  have q3 := cell_stay q3 (sZ (B + 1) (by omega))
  have u0 := cell_stay u0 (sZ (B + 1 + 1) (by omega))
  have u1 := cell_stay u1 (sZ (B + 1 + 1) (by omega))
  have u2 := cell_stay u2 (sZ (B + 1 + 1) (by omega))
  have u3 := cell_stay u3 (sZ (B + 1 + 1) (by omega))
  have v0 := cell_stay v0 (sZ (B + 1 + 1 + 1) (by omega))
  have v1 := cell_stay v1 (sZ (B + 1 + 1 + 1) (by omega))
  have v2 := cell_stay v2 (sZ (B + 1 + 1 + 1) (by omega))
  have t0 := cell_stay t0 (sZ (tn) (by omega))
  have t1 := cell_stay t1 (sZ (tn) (by omega))
  have t2 := cell_stay t2 (sZ (tn) (by omega))
  have t3 := cell_stay t3 (sZ (tn) (by omega))
  have fu0 := fro_stay fu0 (sZ (B + 1 + 1) (by omega))
  have fu1 := fro_stay fu1 (sZ (B + 1 + 1) (by omega))
  have fu2 := fro_stay fu2 (sZ (B + 1 + 1) (by omega))
  have fu3 := fro_stay fu3 (sZ (B + 1 + 1) (by omega))
  have fv0 := fro_stay fv0 (sZ (B + 1 + 1 + 1) (by omega))
  have fv1 := fro_stay fv1 (sZ (B + 1 + 1 + 1) (by omega))
  have fv2 := fro_stay fv2 (sZ (B + 1 + 1 + 1) (by omega))
  have a0 : Z.cell? ⟨zn, 0, none⟩ = some (.int .i64 (0)) := by rw [hZ, hzn]; simp [go_sem]
  have a1 : Z.cell? ⟨zn, 1, none⟩ = some (.bool false) := by rw [hZ, hzn]; simp [go_sem]
  have a2 : Z.cell? ⟨zn, 2, none⟩ = some (.int .i64 0) := by rw [hZ, hzn]; simp [go_sem]
  have HBZ := hide (show Below w.heap.size w Z by rw [hZ]; exact HB6.out.alloc HB6.out.size _)
  have nz1 : B + 1 + 1 ≠ zn := by omega
  have nz2 : B + 1 + 1 + 1 ≠ zn := by omega
  clear hZ hzn sZ l6 lt6
  go_wp2_with fail
  go_region
  go_wp2
  refine bodyPost_ret (v := .tuple #[.agg #[.bool false, .int .i64 0, .int .i64 0, .bool false], .agg #[.int .i64 (0), .bool false, .int .i64 0], .bool true]) (by simp [results, Try.f45, go_sem, u0, u1, u2, u3, v0, v1, v2]) rfl ⟨rfl, ?_, ?_⟩
  · have lrb := HLR.out
    repeat (first | with_reducible refine robj_dr ?_ | with_reducible refine robj_set ?_ (by omega) (by omega) _ _)
    with_reducible exact H.out.below HBZ.out
  · have hBB := HBB.out
    repeat (first | with_reducible refine tch_dr ?_ | with_reducible refine Tch.setN ?_ (by omega) _ _)
    with_reducible exact Tch.of HBZ.out

set_option maxRecDepth 100000 in
set_option maxHeartbeats 4000000 in
theorem rlook_5f (r rs i n : Nat) (A : Ab) (x c sx sw : Int) (sa : Bool) (w : World) (h : RObj w r rs A) (hA : AbOk A n c) (hc : c ≤ 4611686018427387904) (hi : i < n) (hid : idleA A (i : Int) 5 x = false) : Calls Try.prog 45 #[.pointer (some ⟨r, 0, none⟩), .int .i64 (i : Int), .agg #[.int .i64 5, .int .i64 x], .agg #[.bool false, .int .i64 sx, .int .i64 sw, .bool sa]] w fun e w' => e = .returned (.tuple #[.agg #[.bool true, .int .i64 A.tk, .int .i64 0, .bool false], .agg #[.int .i64 (0), .bool false, .int .i64 0], .bool false]) ∧ RObj w' r rs A ∧ Tch (fun b => b = r ∨ b = rs) w w' := by
  have lr := h.lt
  have CD := hide (fun V (hV : Below w.heap.size w V) => Do_any r rs A i n 5 x c V (h.below hV) hA hc hi)
  have CL := hide (fun V (hV : Below w.heap.size w V) => look_5 r rs A V (h.below hV))
  have CI := hide (fun V (hV : Below w.heap.size w V) => idle_5 r rs A (i : Int) x A.tk V (h.below hV))
  have hid2 : decide (A.tt ≤ A.tk) = false := hid
  rw [hid2] at CI
  have H := hide h
  clear h hA hc hi hid hid2
  go_enter Try.func45, Try.ntmps45
  go_upto_region 1 with fail
  obtain ⟨W, hW⟩ : ∃ W, W = (((w.alloc (.cells #[.int .i64 5, .int .i64 x] 57)).alloc (.cells #[.bool false, .int .i64 sx, .int .i64 sw, .bool sa] 131)).alloc (.cells #[.bool false, .int .i64 0, .int .i64 0, .bool false] 131)).alloc (.cells #[.int .i64 0, .bool false, .int .i64 0] 52) := ⟨_, rfl⟩
  rw [← hW]
  obtain ⟨B, hB⟩ : ∃ B, B = w.heap.size := ⟨_, rfl⟩
  rw [← hB]
  have p0 : W.cell? ⟨B, 0, none⟩ = some (.int .i64 5) := by rw [hW, hB]; simp [go_sem]
  have p1 : W.cell? ⟨B, 1, none⟩ = some (.int .i64 x) := by rw [hW, hB]; simp [go_sem]
  have q0 : W.cell? ⟨B + 1, 0, none⟩ = some (.bool false) := by rw [hW, hB]; simp [go_sem]
  have q1 : W.cell? ⟨B + 1, 1, none⟩ = some (.int .i64 sx) := by rw [hW, hB]; simp [go_sem]
  have q2 : W.cell? ⟨B + 1, 2, none⟩ = some (.int .i64 sw) := by rw [hW, hB]; simp [go_sem]
  have q3 : W.cell? ⟨B + 1, 3, none⟩ = some (.bool sa) := by rw [hW, hB]; simp [go_sem]
  have u0 : W.cell? ⟨B + 1 + 1, 0, none⟩ = some (.bool false) := by rw [hW, hB]; simp [go_sem]
  have u1 : W.cell? ⟨B + 1 + 1, 1, none⟩ = some (.int .i64 0) := by rw [hW, hB]; simp [go_sem]
  have u2 : W.cell? ⟨B + 1 + 1, 2, none⟩ = some (.int .i64 0) := by rw [hW, hB]; simp [go_sem]
  have u3 : W.cell? ⟨B + 1 + 1, 3, none⟩ = some (.bool false) := by rw [hW, hB]; simp [go_sem]
  have v0 : W.cell? ⟨B + 1 + 1 + 1, 0, none⟩ = some (.int .i64 0) := by rw [hW, hB]; simp [go_sem]
  have v1 : W.cell? ⟨B + 1 + 1 + 1, 1, none⟩ = some (.bool false) := by rw [hW, hB]; simp [go_sem]
  have v2 : W.cell? ⟨B + 1 + 1 + 1, 2, none⟩ = some (.int .i64 0) := by rw [hW, hB]; simp [go_sem]
  have fu0 : W.frozen? ⟨B + 1 + 1, 0, none⟩ = false := by rw [hW, hB]; simp [go_sem]
  have fu1 : W.frozen? ⟨B + 1 + 1, 1, none⟩ = false := by rw [hW, hB]; simp [go_sem]
  have fu2 : W.frozen? ⟨B + 1 + 1, 2, none⟩ = false := by rw [hW, hB]; simp [go_sem]
  have fu3 : W.frozen? ⟨B + 1 + 1, 3, none⟩ = false := by rw [hW, hB]; simp [go_sem]
  have fv0 : W.frozen? ⟨B + 1 + 1 + 1, 0, none⟩ = false := by rw [hW, hB]; simp [go_sem]
  have fv1 : W.frozen? ⟨B + 1 + 1 + 1, 1, none⟩ = false := by rw [hW, hB]; simp [go_sem]
  have fv2 : W.frozen? ⟨B + 1 + 1 + 1, 2, none⟩ = false := by rw [hW, hB]; simp [go_sem]
  have hb : Below w.heap.size w W := by rw [hW]; (focus repeat' (first | (with_reducible exact Below.refl _ _) | (with_reducible assumption) | (with_reducible refine Below.alloc ?_ ?_ _) | (with_reducible refine Below.drew ?_) | (with_reducible refine bdrewN ?_ _) | (with_reducible refine Below.setCell ?_ ?_ _) | (first | (with_reducible exact Nat.le_refl _) | (with_reducible assumption) | omega | (simp; omega) | (simp; done))))
  have zW : W.heap.size = w.heap.size + 4 := by rw [hW]; simp
  have HB := hide hb
  have HBB := hide hB
  have ZW := hide zW
  have hBW : B + 1 + 1 + 1 < W.heap.size := by omega
  have lrB : r < B ∧ rs < B := by omega
  have HLR := hide lrB
  clear hW hb hB zW lr lrB
  go_wp2_with fail
  refine (CL.out W HB.out).mono ?_
  rintro e w3 ⟨rfl, hb3⟩
  go_upto_region 5 with fail
  obtain ⟨X, hX⟩ : ∃ X, X = w3.alloc (.cells #[.bool true, .int .i64 A.tk, .int .i64 0, .bool false] 131) := ⟨_, rfl⟩
  rw [← hX]
  obtain ⟨tn, htn⟩ : ∃ tn, tn = w3.heap.size := ⟨_, rfl⟩
  rw [← htn]
  have sX : ∀ b, b < W.heap.size → X.heap[b]? = W.heap[b]? := fun b hl => by rw [hX]; exact (al_blk _ _ (Nat.lt_of_lt_of_le hl hb3.size)).trans (hb3.block b hl)
  have p0 := cell_stay p0 (sX (B) (by omega))
  have p1 := cell_stay p1 (sX (B) (by omega))
  have q0 := cell_stay q0 (sX (B + 1) (by omega))
  have q1 := cell_stay q1 (sX (B + 1) (by omega))
  have q2 := cell_stay q2 (sX (B + 1) (by omega))
  have q3 := cell_stay q3 (sX (B + 1) (by omega))
  have u0 := cell_stay u0 (sX (B + 1 + 1) (by omega))
  have u1 := cell_stay u1 (sX (B + 1 + 1) (by omega))
  have u2 := cell_stay u2 (sX (B + 1 + 1) (by omega))
  have u3 := cell_stay u3 (sX (B + 1 + 1) (by omega))
  have v0 := cell_stay v0 (sX (B + 1 + 1 + 1) (by omega))
  have v1 := cell_stay v1 (sX (B + 1 + 1 + 1) (by omega))
  have v2 := cell_stay v2 (sX (B + 1 + 1 + 1) (by omega))
  have fu0 := fro_stay fu0 (sX (B + 1 + 1) (by omega))
  have fu1 := fro_stay fu1 (sX (B + 1 + 1) (by omega))
  have fu2 := fro_stay fu2 (sX (B + 1 + 1) (by omega))
  have fu3 := fro_stay fu3 (sX (B + 1 + 1) (by omega))
  have fv0 := fro_stay fv0 (sX (B + 1 + 1 + 1) (by omega))
  have fv1 := fro_stay fv1 (sX (B + 1 + 1 + 1) (by omega))
  have fv2 := fro_stay fv2 (sX (B + 1 + 1 + 1) (by omega))
  have t0 : X.cell? ⟨tn, 0, none⟩ = some (.bool true) := by rw [hX, htn]; simp [go_sem]
  have t1 : X.cell? ⟨tn, 1, none⟩ = some (.int .i64 A.tk) := by rw [hX, htn]; simp [go_sem]
  have t2 : X.cell? ⟨tn, 2, none⟩ = some (.int .i64 0) := by rw [hX, htn]; simp [go_sem]
  have t3 : X.cell? ⟨tn, 3, none⟩ = some (.bool false) := by rw [hX, htn]; simp [go_sem]
  have bX : Below w.heap.size w X := by rw [hX]; exact (bstep HB.out hb3).alloc (bstep HB.out hb3).size _
  have HBX := hide bX
  have htb : B + 1 + 1 + 1 < tn := by have := hb3.size; omega
  have ltn : tn < X.heap.size := World.block_lt_of_cell? X _ t0
  have hXs : B + 1 + 1 + 1 < X.heap.size := by omega
  have hBW := hXs
  clear hX htn sX bX hb3
  go_wp2_with fail
  refine (CI.out X HBX.out).mono ?_
  rintro e w6 ⟨rfl, hb6⟩
  have sY : ∀ b, b < X.heap.size → w6.heap[b]? = X.heap[b]? := fun b hl => hb6.block b hl
  have p0 := cell_stay p0 (sY (B) (by omega))
  have p1 := cell_stay p1 (sY (B) (by omega))
  have q0 := cell_stay q0 (sY (B + 1) (by omega))
  have q1 := cell_stay q1 (sY (B + 1) (by omega))
  have q2 := cell_stay q2 (sY (B + 1) (by omega))
  have q3 := cell_stay q3 (sY (B + 1) (by omega))
  have u0 := cell_stay u0 (sY (B + 1 + 1) (by omega))
  have u1 := cell_stay u1 (sY (B + 1 + 1) (by omega))
  have u2 := cell_stay u2 (sY (B + 1 + 1) (by omega))
  have u3 := cell_stay u3 (sY (B + 1 + 1) (by omega))
  have v0 := cell_stay v0 (sY (B + 1 + 1 + 1) (by omega))
  have v1 := cell_stay v1 (sY (B + 1 + 1 + 1) (by omega))
  have v2 := cell_stay v2 (sY (B + 1 + 1 + 1) (by omega))
  have t0 := cell_stay t0 (sY (tn) (by omega))
  have t1 := cell_stay t1 (sY (tn) (by omega))
  have t2 := cell_stay t2 (sY (tn) (by omega))
  have t3 := cell_stay t3 (sY (tn) (by omega))
  have fu0 := fro_stay fu0 (sY (B + 1 + 1) (by omega))
  have fu1 := fro_stay fu1 (sY (B + 1 + 1) (by omega))
  have fu2 := fro_stay fu2 (sY (B + 1 + 1) (by omega))
  have fu3 := fro_stay fu3 (sY (B + 1 + 1) (by omega))
  have fv0 := fro_stay fv0 (sY (B + 1 + 1 + 1) (by omega))
  have fv1 := fro_stay fv1 (sY (B + 1 + 1 + 1) (by omega))
  have fv2 := fro_stay fv2 (sY (B + 1 + 1 + 1) (by omega))
  have HB6 := hide (bstep HBX.out hb6)
  have z6 := hb6.size
  have l6 : B + 1 + 1 + 1 < w6.heap.size := by omega
  have lt6 : tn < w6.heap.size := by omega
  have nn1 : B + 1 + 1 ≠ tn := by omega
  have nn2 : B + 1 + 1 + 1 ≠ tn := by omega
  clear hb6 sY z6 ltn hXs hBW htb
  go_upto_region 8 with fail
  obtain ⟨Z, hZ⟩ : ∃ Z, Z = w6.alloc (.cells #[.int .i64 (0), .bool false, .int .i64 0] 52) := ⟨_, rfl⟩
  rw [← hZ]
  obtain ⟨zn, hzn⟩ : ∃ zn, zn = w6.heap.size := ⟨_, rfl⟩
  rw [← hzn]
  have sZ : ∀ b, b < w6.heap.size → Z.heap[b]? = w6.heap[b]? := fun b hl => by rw [hZ]; exact al_blk _ _ hl
  have p0 := cell_stay p0 (sZ (B) (by omega))
  have p1 := cell_stay p1 (sZ (B) (by omega))
  have q0 := cell_stay q0 (sZ (B + 1) (by omega))
  have q1 := cell_stay q1 (sZ (B + 1) (by omega))
  have q2 := cell_stay q2 (sZ (B + 1) (by omega))
  have q3 := cell_stay q3 (sZ (B + 1) (by omega))
  have u0 := cell_stay u0 (sZ (B + 1 + 1) (by omega))
  have u1 := cell_stay u1 (sZ (B + 1 + 1) (by omega))
  have u2 := cell_stay u2 (sZ (B + 1 + 1) (by omega))
  have u3 := cell_stay u3 (sZ (B + 1 + 1) (by omega))
  have v0 := cell_stay v0 (sZ (B + 1 + 1 + 1) (by omega))
  have v1 := cell_stay v1 (sZ (B + 1 + 1 + 1) (by omega))
  have v2 := cell_stay v2 (sZ (B + 1 + 1 + 1) (by omega))
  have t0 := cell_stay t0 (sZ (tn) (by omega))
  have t1 := cell_stay t1 (sZ (tn) (by omega))
  have t2 := cell_stay t2 (sZ (tn) (by omega))
  have t3 := cell_stay t3 (sZ (tn) (by omega))
  have fu0 := fro_stay fu0 (sZ (B + 1 + 1) (by omega))
  have fu1 := fro_stay fu1 (sZ (B + 1 + 1) (by omega))
  have fu2 := fro_stay fu2 (sZ (B + 1 + 1) (by omega))
  have fu3 := fro_stay fu3 (sZ (B + 1 + 1) (by omega))
  have fv0 := fro_stay fv0 (sZ (B + 1 + 1 + 1) (by omega))
  have fv1 := fro_stay fv1 (sZ (B + 1 + 1 + 1) (by omega))
  have fv2 := fro_stay fv2 (sZ (B + 1 + 1 + 1) (by omega))
  have a0 : Z.cell? ⟨zn, 0, none⟩ = some (.int .i64 (0)) := by rw [hZ, hzn]; simp [go_sem]
  have a1 : Z.cell? ⟨zn, 1, none⟩ = some (.bool false) := by rw [hZ, hzn]; simp [go_sem]
  have a2 : Z.cell? ⟨zn, 2, none⟩ = some (.int .i64 0) := by rw [hZ, hzn]; simp [go_sem]
  have HBZ := hide (show Below w.heap.size w Z by rw [hZ]; exact HB6.out.alloc HB6.out.size _)
  have nz1 : B + 1 + 1 ≠ zn := by omega
  have nz2 : B + 1 + 1 + 1 ≠ zn := by omega
  clear hZ hzn sZ l6 lt6
  go_wp2_with fail
  try go_wp2
  refine bodyPost_ret (v := .tuple #[.agg #[.bool true, .int .i64 A.tk, .int .i64 0, .bool false], .agg #[.int .i64 (0), .bool false, .int .i64 0], .bool false]) (by simp [results, Try.f45, go_sem, u0, u1, u2, u3, v0, v1, v2]) rfl ⟨rfl, ?_, ?_⟩
  · have lrb := HLR.out
    repeat (first | with_reducible refine robj_dr ?_ | with_reducible refine robj_set ?_ (by omega) (by omega) _ _)
    with_reducible exact H.out.below HBZ.out
  · have hBB := HBB.out
    repeat (first | with_reducible refine tch_dr ?_ | with_reducible refine Tch.setN ?_ (by omega) _ _)
    with_reducible exact Tch.of HBZ.out

set_option maxRecDepth 100000 in
set_option maxHeartbeats 4000000 in
theorem rlook_5s (r rs i n : Nat) (A : Ab) (x c sx sw : Int) (sa : Bool) (w : World) (h : RObj w r rs A) (hA : AbOk A n c) (hc : c ≤ 4611686018427387904) (hi : i < n) (heq : ∀ w, Sem.run Try.prog (binOp .eql 131 (.agg #[.bool true, .int .i64 sx, .int .i64 sw, .bool sa]) (.agg #[.bool true, .int .i64 A.tk, .int .i64 0, .bool false])) w = .ok (.bool false) w) (hid : idleA A (i : Int) 5 x = false) : Calls Try.prog 45 #[.pointer (some ⟨r, 0, none⟩), .int .i64 (i : Int), .agg #[.int .i64 5, .int .i64 x], .agg #[.bool true, .int .i64 sx, .int .i64 sw, .bool sa]] w fun e w' => e = .returned (.tuple #[.agg #[.bool true, .int .i64 A.tk, .int .i64 0, .bool false], .agg #[.int .i64 (0), .bool false, .int .i64 0], .bool false]) ∧ RObj w' r rs A ∧ Tch (fun b => b = r ∨ b = rs) w w' := by
  have lr := h.lt
  have CD := hide (fun V (hV : Below w.heap.size w V) => Do_any r rs A i n 5 x c V (h.below hV) hA hc hi)
  have CL := hide (fun V (hV : Below w.heap.size w V) => look_5 r rs A V (h.below hV))
  have CI := hide (fun V (hV : Below w.heap.size w V) => idle_5 r rs A (i : Int) x A.tk V (h.below hV))
  have hid2 : decide (A.tt ≤ A.tk) = false := hid
  rw [hid2] at CI
  have H := hide h
  clear h hA hc hi hid hid2
  go_enter Try.func45, Try.ntmps45
  go_upto_region 1 with fail
  obtain ⟨W, hW⟩ : ∃ W, W = (((w.alloc (.cells #[.int .i64 5, .int .i64 x] 57)).alloc (.cells #[.bool true, .int .i64 sx, .int .i64 sw, .bool sa] 131)).alloc (.cells #[.bool false, .int .i64 0, .int .i64 0, .bool false] 131)).alloc (.cells #[.int .i64 0, .bool false, .int .i64 0] 52) := ⟨_, rfl⟩
  rw [← hW]
  obtain ⟨B, hB⟩ : ∃ B, B = w.heap.size := ⟨_, rfl⟩
  rw [← hB]
  have p0 : W.cell? ⟨B, 0, none⟩ = some (.int .i64 5) := by rw [hW, hB]; simp [go_sem]
  have p1 : W.cell? ⟨B, 1, none⟩ = some (.int .i64 x) := by rw [hW, hB]; simp [go_sem]
  have q0 : W.cell? ⟨B + 1, 0, none⟩ = some (.bool true) := by rw [hW, hB]; simp [go_sem]
  have q1 : W.cell? ⟨B + 1, 1, none⟩ = some (.int .i64 sx) := by rw [hW, hB]; simp [go_sem]
  have q2 : W.cell? ⟨B + 1, 2, none⟩ = some (.int .i64 sw) := by rw [hW, hB]; simp [go_sem]
  have q3 : W.cell? ⟨B + 1, 3, none⟩ = some (.bool sa) := by rw [hW, hB]; simp [go_sem]
  have u0 : W.cell? ⟨B + 1 + 1, 0, none⟩ = some (.bool false) := by rw [hW, hB]; simp [go_sem]
  have u1 : W.cell? ⟨B + 1 + 1, 1, none⟩ = some (.int .i64 0) := by rw [hW, hB]; simp [go_sem]
  have u2 : W.cell? ⟨B + 1 + 1, 2, none⟩ = some (.int .i64 0) := by rw [hW, hB]; simp [go_sem]
  have u3 : W.cell? ⟨B + 1 + 1, 3, none⟩ = some (.bool false) := by rw [hW, hB]; simp [go_sem]
  have v0 : W.cell? ⟨B + 1 + 1 + 1, 0, none⟩ = some (.int .i64 0) := by rw [hW, hB]; simp [go_sem]
  have v1 : W.cell? ⟨B + 1 + 1 + 1, 1, none⟩ = some (.bool false) := by rw [hW, hB]; simp [go_sem]
  have v2 : W.cell? ⟨B + 1 + 1 + 1, 2, none⟩ = some (.int .i64 0) := by rw [hW, hB]; simp [go_sem]
  have fu0 : W.frozen? ⟨B + 1 + 1, 0, none⟩ = false := by rw [hW, hB]; simp [go_sem]
  have fu1 : W.frozen? ⟨B + 1 + 1, 1, none⟩ = false := by rw [hW, hB]; simp [go_sem]
  have fu2 : W.frozen? ⟨B + 1 + 1, 2, none⟩ = false := by rw [hW, hB]; simp [go_sem]
  have fu3 : W.frozen? ⟨B + 1 + 1, 3, none⟩ = false := by rw [hW, hB]; simp [go_sem]
  have fv0 : W.frozen? ⟨B + 1 + 1 + 1, 0, none⟩ = false := by rw [hW, hB]; simp [go_sem]
  have fv1 : W.frozen? ⟨B + 1 + 1 + 1, 1, none⟩ = false := by rw [hW, hB]; simp [go_sem]
  have fv2 : W.frozen? ⟨B + 1 + 1 + 1, 2, none⟩ = false := by rw [hW, hB]; simp [go_sem]
  have hb : Below w.heap.size w W := by rw [hW]; (focus repeat' (first | (with_reducible exact Below.refl _ _) | (with_reducible assumption) | (with_reducible refine Below.alloc ?_ ?_ _) | (with_reducible refine Below.drew ?_) | (with_reducible refine bdrewN ?_ _) | (with_reducible refine Below.setCell ?_ ?_ _) | (first | (with_reducible exact Nat.le_refl _) | (with_reducible assumption) | omega | (simp; omega) | (simp; done))))
  have zW : W.heap.size = w.heap.size + 4 := by rw [hW]; simp
  have HB := hide hb
  have HBB := hide hB
  have ZW := hide zW
  have hBW : B + 1 + 1 + 1 < W.heap.size := by omega
  have lrB : r < B ∧ rs < B := by omega
  have HLR := hide lrB
  clear hW hb hB zW lr lrB
  go_wp2_with fail
  refine (CL.out W HB.out).mono ?_
  rintro e w3 ⟨rfl, hb3⟩
  go_upto_region 5 with fail
  obtain ⟨X, hX⟩ : ∃ X, X = w3.alloc (.cells #[.bool true, .int .i64 A.tk, .int .i64 0, .bool false] 131) := ⟨_, rfl⟩
  rw [← hX]
  obtain ⟨tn, htn⟩ : ∃ tn, tn = w3.heap.size := ⟨_, rfl⟩
  rw [← htn]
  have sX : ∀ b, b < W.heap.size → X.heap[b]? = W.heap[b]? := fun b hl => by rw [hX]; exact (al_blk _ _ (Nat.lt_of_lt_of_le hl hb3.size)).trans (hb3.block b hl)
  have p0 := cell_stay p0 (sX (B) (by omega))
  have p1 := cell_stay p1 (sX (B) (by omega))
  have q0 := cell_stay q0 (sX (B + 1) (by omega))
  have q1 := cell_stay q1 (sX (B + 1) (by omega))
  have q2 := cell_stay q2 (sX (B + 1) (by omega))
  have q3 := cell_stay q3 (sX (B + 1) (by omega))
  have u0 := cell_stay u0 (sX (B + 1 + 1) (by omega))
  have u1 := cell_stay u1 (sX (B + 1 + 1) (by omega))
  have u2 := cell_stay u2 (sX (B + 1 + 1) (by omega))
  have u3 := cell_stay u3 (sX (B + 1 + 1) (by omega))
  have v0 := cell_stay v0 (sX (B + 1 + 1 + 1) (by omega))
  have v1 := cell_stay v1 (sX (B + 1 + 1 + 1) (by omega))
  have v2 := cell_stay v2 (sX (B + 1 + 1 + 1) (by omega))
  have fu0 := fro_stay fu0 (sX (B + 1 + 1) (by omega))
  have fu1 := fro_stay fu1 (sX (B + 1 + 1) (by omega))
  have fu2 := fro_stay fu2 (sX (B + 1 + 1) (by omega))
  have fu3 := fro_stay fu3 (sX (B + 1 + 1) (by omega))
  have fv0 := fro_stay fv0 (sX (B + 1 + 1 + 1) (by omega))
  have fv1 := fro_stay fv1 (sX (B + 1 + 1 + 1) (by omega))
  have fv2 := fro_stay fv2 (sX (B + 1 + 1 + 1) (by omega))
  have t0 : X.cell? ⟨tn, 0, none⟩ = some (.bool true) := by rw [hX, htn]; simp [go_sem]
  have t1 : X.cell? ⟨tn, 1, none⟩ = some (.int .i64 A.tk) := by rw [hX, htn]; simp [go_sem]
  have t2 : X.cell? ⟨tn, 2, none⟩ = some (.int .i64 0) := by rw [hX, htn]; simp [go_sem]
  have t3 : X.cell? ⟨tn, 3, none⟩ = some (.bool false) := by rw [hX, htn]; simp [go_sem]
  have bX : Below w.heap.size w X := by rw [hX]; exact (bstep HB.out hb3).alloc (bstep HB.out hb3).size _
  have HBX := hide bX
  have htb : B + 1 + 1 + 1 < tn := by have := hb3.size; omega
  have ltn : tn < X.heap.size := World.block_lt_of_cell? X _ t0
  have hXs : B + 1 + 1 + 1 < X.heap.size := by omega
  have hBW := hXs
  clear hX htn sX bX hb3
  go_wp2_with fail
  refine (CI.out X HBX.out).mono ?_
  rintro e w6 ⟨rfl, hb6⟩
  have sY : ∀ b, b < X.heap.size → w6.heap[b]? = X.heap[b]? := fun b hl => hb6.block b hl
  have p0 := cell_stay p0 (sY (B) (by omega))
  have p1 := cell_stay p1 (sY (B) (by omega))
  have q0 := cell_stay q0 (sY (B + 1) (by omega))
  have q1 := cell_stay q1 (sY (B + 1) (by omega))
  have q2 := cell_stay q2 (sY (B + 1) (by omega))
  have q3 := cell_stay q3 (sY (B + 1) (by omega))
  have u0 := cell_stay u0 (sY (B + 1 + 1) (by omega))
  have u1 := cell_stay u1 (sY (B + 1 + 1) (by omega))
  have u2 := cell_stay u2 (sY (B + 1 + 1) (by omega))
  have u3 := cell_stay u3 (sY (B + 1 + 1) (by omega))
  have v0 := cell_stay v0 (sY (B + 1 + 1 + 1) (by omega))
  have v1 := cell_stay v1 (sY (B + 1 + 1 + 1) (by omega))
  have v2 := cell_stay v2 (sY (B + 1 + 1 + 1) (by omega))
  have t0 := cell_stay t0 (sY (tn) (by omega))
  have t1 := cell_stay t1 (sY (tn) (by omega))
  have t2 := cell_stay t2 (sY (tn) (by omega))
  have t3 := cell_stay t3 (sY (tn) (by omega))
  have fu0 := fro_stay fu0 (sY (B + 1 + 1) (by omega))
  have fu1 := fro_stay fu1 (sY (B + 1 + 1) (by omega))
  have fu2 := fro_stay fu2 (sY (B + 1 + 1) (by omega))
  have fu3 := fro_stay fu3 (sY (B + 1 + 1) (by omega))
  have fv0 := fro_stay fv0 (sY (B + 1 + 1 + 1) (by omega))
  have fv1 := fro_stay fv1 (sY (B + 1 + 1 + 1) (by omega))
  have fv2 := fro_stay fv2 (sY (B + 1 + 1 + 1) (by omega))
  have HB6 := hide (bstep HBX.out hb6)
  have z6 := hb6.size
  have l6 : B + 1 + 1 + 1 < w6.heap.size := by omega
  have lt6 : tn < w6.heap.size := by omega
  have nn1 : B + 1 + 1 ≠ tn := by omega
  have nn2 : B + 1 + 1 + 1 ≠ tn := by omega
  clear hb6 sY z6 ltn hXs hBW htb
  go_upto_region 8 with fail
  obtain ⟨Z, hZ⟩ : ∃ Z, Z = w6.alloc (.cells #[.int .i64 (0), .bool false, .int .i64 0] 52) := ⟨_, rfl⟩
  rw [← hZ]
  obtain ⟨zn, hzn⟩ : ∃ zn, zn = w6.heap.size := ⟨_, rfl⟩
  rw [← hzn]
  have sZ : ∀ b, b < w6.heap.size → Z.heap[b]? = w6.heap[b]? := fun b hl => by rw [hZ]; exact al_blk _ _ hl
  have p0 := cell_stay p0 (sZ (B) (by omega))
  have p1 := cell_stay p1 (sZ (B) (by omega))
  have q0 := cell_stay q0 (sZ (B + 1) (by omega))
  have q1 := cell_stay q1 (sZ (B + 1) (by omega))
  have q2 := cell_stay q2 (sZ (B + 1) (by omega))
  have q3 := cell_stay q3 (sZ (B + 1) (by omega))
  have u0 := cell_stay u0 (sZ (B + 1 + 1) (by omega))
  have u1 := cell_stay u1 (sZ (B + 1 + 1) (by omega))
  have u2 := cell_stay u2 (sZ (B + 1 + 1) (by omega))
  have u3 := cell_stay u3 (sZ (B + 1 + 1) (by omega))
  have v0 := cell_stay v0 (sZ (B + 1 + 1 + 1) (by omega))
  have v1 := cell_stay v1 (sZ (B + 1 + 1 + 1) (by omega))
  have v2 := cell_stay v2 (sZ (B + 1 + 1 + 1) (by omega))
  have t0 := cell_stay t0 (sZ (tn) (by omega))
  have t1 := cell_stay t1 (sZ (tn) (by omega))
  have t2 := cell_stay t2 (sZ (tn) (by omega))
  have t3 := cell_stay t3 (sZ (tn) (by omega))
  have fu0 := fro_stay fu0 (sZ (B + 1 + 1) (by omega))
  have fu1 := fro_stay fu1 (sZ (B + 1 + 1) (by omega))
  have fu2 := fro_stay fu2 (sZ (B + 1 + 1) (by omega))
  have fu3 := fro_stay fu3 (sZ (B + 1 + 1) (by omega))
  have fv0 := fro_stay fv0 (sZ (B + 1 + 1 + 1) (by omega))
  have fv1 := fro_stay fv1 (sZ (B + 1 + 1 + 1) (by omega))
  have fv2 := fro_stay fv2 (sZ (B + 1 + 1 + 1) (by omega))
  have a0 : Z.cell? ⟨zn, 0, none⟩ = some (.int .i64 (0)) := by rw [hZ, hzn]; simp [go_sem]
  have a1 : Z.cell? ⟨zn, 1, none⟩ = some (.bool false) := by rw [hZ, hzn]; simp [go_sem]
  have a2 : Z.cell? ⟨zn, 2, none⟩ = some (.int .i64 0) := by rw [hZ, hzn]; simp [go_sem]
  have HBZ := hide (show Below w.heap.size w Z by rw [hZ]; exact HB6.out.alloc HB6.out.size _)
  have nz1 : B + 1 + 1 ≠ zn := by omega
  have nz2 : B + 1 + 1 + 1 ≠ zn := by omega
  clear hZ hzn sZ l6 lt6
  go_wp2_with fail
  try go_wp2
  refine bodyPost_ret (v := .tuple #[.agg #[.bool true, .int .i64 A.tk, .int .i64 0, .bool false], .agg #[.int .i64 (0), .bool false, .int .i64 0], .bool false]) (by simp [results, Try.f45, go_sem, u0, u1, u2, u3, v0, v1, v2]) rfl ⟨rfl, ?_, ?_⟩
  · have lrb := HLR.out
    repeat (first | with_reducible refine robj_dr ?_ | with_reducible refine robj_set ?_ (by omega) (by omega) _ _)
    with_reducible exact H.out.below HBZ.out
  · have hBB := HBB.out
    repeat (first | with_reducible refine tch_dr ?_ | with_reducible refine Tch.setN ?_ (by omega) _ _)
    with_reducible exact Tch.of HBZ.out
end Go.Proofs.Ytimabgakemgldaa

