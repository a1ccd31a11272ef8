/- Contracts of the layer's functions, each proved once, in the order in which they are used. No condition beyond each theorem's own. -/
import Derived.Test.YtimabgakemgldaaT43
import Derived.Laws.LoneSync
import Derived.WalkKit
import Derived.StillTailTactics
import Derived.Deep.RegionLaw
import Derived.Deep.RegionHeld3
import Derived.Laws.OwnMore
import Derived.Deep.Matrix
import Derived.BigQuiet
import Derived.Deep.QuietTactic
import Derived.Laws.EntriesVeiled
import Derived.Test.YtimabgakemgldaaT46
namespace Go.Proofs.Ytimabgakemgldaa
open Go.ChangeShapes Go.WideShapes Go.ChangeAt Go.RowKit Go.Deep
set_option linter.unusedSimpArgs false
set_option linter.unusedVariables false

def didAt (st : Ab × List WS) (i : Nat) : List (Int × Bool × Int) := (wsAt st.2 i).did
/-- was the worker's step at this pick an op's last? -/
def isDone (ops : Ops) (st : Ab × List WS) (i : Nat) : Prop := (didAt st i).length ≠ (ops.getD i []).length ∧ doneA st.1 (i : Int) (opAt ops i (didAt st i).length).1 (opAt ops i (didAt st i).length).2 (wsAt st.2 i).s = true
theorem pick_other {ops : Ops} {st : Ab × List WS} {c at_ p : Int} (h : WOk ops st c) (h0 : 0 < ops.length) {j : Nat} (hj : j ≠ pk ops.length p) : didAt (pickA ops st at_ p) j = didAt st j := by
  have hp := pk_lt h0 p
  unfold pickA didAt
  simp only
  split
  · rfl
  · rw [wsAt_set (by rw [h.n]; exact hp), if_neg (Ne.symm hj)]
theorem pick_not {ops : Ops} {st : Ab × List WS} {c at_ p : Int} (h : WOk ops st c) (h0 : 0 < ops.length) (hd : ¬ isDone ops st (pk ops.length p)) : (∀ j, didAt (pickA ops st at_ p) j = didAt st j) ∧ (pickA ops st at_ p).1 = st.1 := by
  have hp := pk_lt h0 p
  unfold isDone at hd
  by_cases e : (didAt st (pk ops.length p)).length = (ops.getD (pk ops.length p) []).length
  · rw [pickA_skip rfl e]; exact ⟨fun _ => rfl, rfl⟩
  · have e2 : doneA st.1 ((pk ops.length p : Nat) : Int) (opAt ops (pk ops.length p) (didAt st (pk ops.length p)).length).1 (opAt ops (pk ops.length p) (didAt st (pk ops.length p)).length).2 (wsAt st.2 (pk ops.length p)).s = false := by
      cases hb : doneA st.1 ((pk ops.length p : Nat) : Int) (opAt ops (pk ops.length p) (didAt st (pk ops.length p)).length).1 (opAt ops (pk ops.length p) (didAt st (pk ops.length p)).length).2 (wsAt st.2 (pk ops.length p)).s with
      | false => rfl
      | true => exact absurd ⟨e, hb⟩ hd
    rw [pickA_look rfl e e2]
    refine ⟨fun j => ?_, rfl⟩
    unfold didAt
    show (wsAt (st.2.set _ _) j).did = _
    rw [wsAt_set (by rw [h.n]; exact hp)]
    split
    · rename_i e3; subst e3; rfl
    · rfl
theorem pick_yes {ops : Ops} {st : Ab × List WS} {c at_ p : Int} (h : WOk ops st c) (h0 : 0 < ops.length) (hd : isDone ops st (pk ops.length p)) :
    didAt (pickA ops st at_ p) (pk ops.length p) = didAt st (pk ops.length p) ++ [((doA st.1 ((pk ops.length p : Nat) : Int) (opAt ops (pk ops.length p) (didAt st (pk ops.length p)).length).1 (opAt ops (pk ops.length p) (didAt st (pk ops.length p)).length).2).1, (doA st.1 ((pk ops.length p : Nat) : Int) (opAt ops (pk ops.length p) (didAt st (pk ops.length p)).length).1 (opAt ops (pk ops.length p) (didAt st (pk ops.length p)).length).2).2, at_)] ∧ (pickA ops st at_ p).1 = doS st.1 ((pk ops.length p : Nat) : Int) (opAt ops (pk ops.length p) (didAt st (pk ops.length p)).length).1 (opAt ops (pk ops.length p) (didAt st (pk ops.length p)).length).2 := by
  have hp := pk_lt h0 p
  rw [pickA_done rfl hd.1 hd.2]
  refine ⟨?_, rfl⟩
  unfold didAt
  show (wsAt (st.2.set _ _) _).did = _
  rw [wsAt_set (by rw [h.n]; exact hp), if_pos rfl]
/-- what was answered stays, and what comes later has later places -/
structure Later (n : Nat) (a b : Ab × List WS) (k : Int) : Prop where
  le : ∀ j, j < n → (didAt a j).length ≤ (didAt b j).length
  pre : ∀ j i, j < n → i < (didAt a j).length → (didAt b j).getD i (0, false, 0) = (didAt a j).getD i (0, false, 0)
  at_ : ∀ j i, j < n → (didAt a j).length ≤ i → i < (didAt b j).length → k ≤ ((didAt b j).getD i (0, false, 0)).2.2
theorem Later.refl (n : Nat) (a : Ab × List WS) (k : Int) : Later n a a k := ⟨fun _ _ => Nat.le_refl _, fun _ _ _ _ => rfl, fun j i _ h1 h2 => by omega⟩
theorem getD_snoc_lt {α : Type} {l : List α} {x d : α} {i : Nat} (h : i < l.length) : (l ++ [x]).getD i d = l.getD i d := by
  rw [List.getD_eq_getElem?_getD, List.getD_eq_getElem?_getD, List.getElem?_append_left h]
theorem getD_snoc_eq {α : Type} {l : List α} {x d : α} : (l ++ [x]).getD l.length d = x := by
  rw [List.getD_eq_getElem?_getD, List.getElem?_append_right (Nat.le_refl _)]; simp
theorem Later.snoc {ops : Ops} {a b : Ab × List WS} {k c p : Int} {m : Int} (h : Later ops.length a b k) (hw : WOk ops b c) (h0 : 0 < ops.length) (hm : k ≤ m) : Later ops.length a (pickA ops b m p) k := by
  by_cases hd : isDone ops b (pk ops.length p)
  · have hy := (pick_yes (at_ := m) hw h0 hd).1
    refine ⟨fun j hj => ?_, fun j i hj hi => ?_, fun j i hj h1 h2 => ?_⟩
    · by_cases e : j = pk ops.length p
      · subst e; rw [hy, List.length_append]; have := h.le _ hj; omega
      · rw [pick_other hw h0 e]; exact h.le j hj
    · by_cases e : j = pk ops.length p
      · subst e; rw [hy, getD_snoc_lt (Nat.lt_of_lt_of_le hi (h.le _ hj))]; exact h.pre _ i hj hi
      · rw [pick_other hw h0 e]; exact h.pre j i hj hi
    · by_cases e : j = pk ops.length p
      · subst e
        rw [hy] at h2 ⊢
        rw [List.length_append, List.length_singleton] at h2
        by_cases e2 : i < (didAt b (pk ops.length p)).length
        · rw [getD_snoc_lt e2]; exact h.at_ _ i hj h1 e2
        · obtain rfl : i = (didAt b (pk ops.length p)).length := by omega
          rw [getD_snoc_eq]; exact hm
      · rw [pick_other hw h0 e] at h2 ⊢; exact h.at_ j i hj h1 h2
  · have hn := (pick_not (at_ := m) hw h0 hd).1
    refine ⟨fun j hj => by rw [hn]; exact h.le j hj, fun j i hj hi => by rw [hn]; exact h.pre j i hj hi, fun j i hj h1 h2 => by rw [hn] at h2 ⊢; exact h.at_ j i hj h1 h2⟩
theorem walk_later {mark gate tick B : Int} (hB : B ≤ 4611686018427387904) {ops : Ops} {ps : List Int} (h0 : 0 < ops.length) (hg : 1 ≤ gate) (ht : 0 ≤ tick) (ht2 : tick ≤ 9223372036854775807) (k : Nat) (d : Nat) (hk : ((k + d : Nat) : Int) ≤ B) : Later ops.length (walkA (ab0 ops.length mark gate tick) ops ps k) (walkA (ab0 ops.length mark gate tick) ops ps (k + d)) (k : Int) := by
  induction d with
  | zero => exact Later.refl _ _ _
  | succ d ih =>
    have q := (ih (by omega)).snoc (m := ((k + d : Nat) : Int)) (p := ps.getD (k + d) 0) (walkA_ok mark gate tick B hB ops ps h0 hg ht ht2 (k + d) (by omega)) h0 (by omega)
    exact q
/-- the law's test at a pick -/
theorem done_iff {mark gate tick B : Int} (hB : B ≤ 4611686018427387904) {ops : Ops} {ps : List Int} (h0 : 0 < ops.length) (hg : 1 ≤ gate) (ht : 0 ≤ tick) (ht2 : tick ≤ 9223372036854775807) {k m : Nat} (hkm : k < m) (hm : (m : Int) ≤ B) {st fin : Ab × List WS} (hs : st = walkA (ab0 ops.length mark gate tick) ops ps k) (hf : fin = walkA (ab0 ops.length mark gate tick) ops ps m) {i : Nat} (hi : i = pk ops.length (ps.getD k 0)) :
    (isDone ops st i ∧ (didAt st i).length < (didAt fin i).length ∧ (didAt fin i).getD (didAt st i).length (0, false, 0) = ((doA st.1 (i : Int) (opAt ops i (didAt st i).length).1 (opAt ops i (didAt st i).length).2).1, (doA st.1 (i : Int) (opAt ops i (didAt st i).length).1 (opAt ops i (didAt st i).length).2).2, (k : Int))) ∨
    (¬ isDone ops st i ∧ ((didAt fin i).length ≤ (didAt st i).length ∨ ((didAt fin i).getD (didAt st i).length (0, false, 0)).2.2 ≠ (k : Int))) := by
  have hw := walkA_ok mark gate tick B hB ops ps h0 hg ht ht2 k (by omega)
  have hl := walk_later (mark := mark) (gate := gate) (tick := tick) hB (ops := ops) (ps := ps) h0 hg ht ht2 (k + 1) (m - (k + 1)) (by omega)
  rw [show k + 1 + (m - (k + 1)) = m by omega, ← hf] at hl
  rw [← hs] at hw
  have e1 : walkA (ab0 ops.length mark gate tick) ops ps (k + 1) = pickA ops st (k : Int) (ps.getD k 0) := by rw [hs]; rfl
  rw [e1] at hl
  have il : i < ops.length := by rw [hi]; exact pk_lt h0 _
  by_cases hd : isDone ops st i
  · have hy := (pick_yes (at_ := (k : Int)) hw h0 (by rw [← hi]; exact hd)).1
    rw [← hi] at hy
    have l1 := hl.le i il
    rw [hy, List.length_append, List.length_singleton] at l1
    refine .inl ⟨hd, by omega, ?_⟩
    have := hl.pre i (didAt st i).length il (by rw [hy, List.length_append, List.length_singleton]; omega)
    rw [this, hy, getD_snoc_eq]
  · have hn := (pick_not (at_ := (k : Int)) hw h0 (by rw [← hi]; exact hd)).1 i
    refine .inr ⟨hd, ?_⟩
    by_cases e : (didAt fin i).length ≤ (didAt st i).length
    · exact .inl e
    · have := hl.at_ i (didAt st i).length il (by rw [hn]; exact Nat.le_refl _) (by omega)
      exact .inr (by omega)
end Go.Proofs.Ytimabgakemgldaa

namespace Go.Proofs.Ytimabgakemgldaa
open Go.ChangeShapes Go.WideShapes Go.ChangeAt Go.RowKit Go.Deep
set_option linter.unusedSimpArgs false
set_option linter.unusedVariables false

theorem Do_any (r rs : Nat) (A : Ab) (i n : Nat) (k x c : Int) (w : World) (h : RObj w r rs A) (hA : AbOk A n c) (hc : c ≤ 4611686018427387904) (hi : i < n) : Calls Try.prog 17 #[.pointer (some ⟨r, 0, none⟩), .int .i64 (i : Int), .agg #[.int .i64 k, .int .i64 x]] w (DoPost r rs A (i : Int) k x w) := by
  have t1 := hA.tk
  have t2 := hA.tk2
  have t3 := hA.tt
  have t4 := hA.ar
  have t5 := hA.ar2
  have t6 := hA.tk3
  by_cases k1 : k = 1
  · subst k1; exact Do1 r rs A (i : Int) x w h i rfl (by rw [hA.S]; exact hi)
  by_cases k2 : k = 2
  · subst k2; exact Do2 r rs A (i : Int) x w h
  by_cases k3 : k = 3
  · subst k3; exact Do3 r rs A (i : Int) x w h
  by_cases k4 : k = 4
  · subst k4; exact Do4 r rs A (i : Int) x w h ⟨by omega, by omega⟩
  by_cases k5 : k = 5
  · subst k5; exact Do5 r rs A (i : Int) x w h ⟨by omega, by omega⟩
  exact DoX r rs A (i : Int) x w k h k1 k2 k3 k4 k5
set_option maxRecDepth 100000 in
set_option maxHeartbeats 8000000 in
theorem Order_bad (mark gate tick : Int) (n oc : Nat) (pa : Option Addr) (pv : Value) (w : World) (h : (n : Int) < 1 ∨ 64 < (n : Int) ∨ gate < 1 ∨ tick < 0) : Calls Try.prog 5 #[.agg #[.int .i64 mark, .int .i64 gate, .int .i64 tick], .slice pa n oc, pv] w fun e w' => e = .returned (.bool true) ∧ Below w.heap.size w w' := by
  obtain ⟨W, hW⟩ : ∃ W, W = w.alloc (.cells #[.int .i64 mark, .int .i64 gate, .int .i64 tick] 23) := ⟨_, rfl⟩
  have hb0 : Below w.heap.size w W := by rw [hW]; (focus repeat' (first | (with_reducible exact Below.refl _ _) | (with_reducible assumption) | (with_reducible refine Below.alloc ?_ ?_ _) | (with_reducible refine Below.drew ?_) | (with_reducible refine bdrewN ?_ _) | (with_reducible refine Below.setCell ?_ ?_ _) | (first | (with_reducible exact Nat.le_refl _) | (with_reducible assumption) | omega | (simp; omega) | (simp; done))))
  have b0 : W.cell? ⟨w.heap.size, 0, none⟩ = some (.int .i64 mark) := by rw [hW]; simp [go_sem]
  have b1 : W.cell? ⟨w.heap.size, 1, none⟩ = some (.int .i64 gate) := by rw [hW]; simp [go_sem]
  have b2 : W.cell? ⟨w.heap.size, 2, none⟩ = some (.int .i64 tick) := by rw [hW]; simp [go_sem]
  have l0 := World.block_lt_of_cell? W _ b0
  simp only at l0
  have HB0 := hide hb0
  have HW := hide hW
  have C22 := hide (fun V => Walk_bad mark gate tick n oc pa pv V h)
  have C11 := hide (fun V => RNew_bad mark gate tick (n : Int) V h)
  clear hW hb0 h
  go_enter Try.func5, Try.ntmps5
  go_upto_region 1 with fail
  rw [← HW.out]
  go_wp2_with fail
  refine (known_c W).mono ?_
  rintro e w1 ⟨rfl, hb⟩
  have b0 := cell_stay b0 (hb.block _ l0)
  have b1 := cell_stay b1 (hb.block _ l0)
  have b2 := cell_stay b2 (hb.block _ l0)
  have HB1 := hide (show Below w.heap.size w w1 from bstep HB0.out hb)
  have l1 : w.heap.size < w1.heap.size := Nat.lt_of_lt_of_le l0 hb.size
  clear hb l0
  go_wp2_with fail
  refine (C22.out w1).mono ?_
  rintro e w2 ⟨rfl, hb⟩
  have b0 := cell_stay b0 (hb.block _ l1)
  have b1 := cell_stay b1 (hb.block _ l1)
  have b2 := cell_stay b2 (hb.block _ l1)
  have HB2 := hide (show Below w.heap.size w w2 from bstep HB1.out hb)
  have l2 : w.heap.size < w2.heap.size := Nat.lt_of_lt_of_le l1 hb.size
  clear hb l1
  unfold zeroEnd
  go_wp2_with fail
  refine (C11.out _).mono ?_
  rintro e w3 ⟨rfl, hb⟩
  have HB3 := hide (bstep (show Below w.heap.size w (w2.alloc (.cells #[.int .i64 0, .int .i64 0, .int .i64 0, .int .i64 0, .bool false, .int .i64 0, .bool false, .int .i64 0] 63)) from HB2.out.alloc HB2.out.size _) hb)
  clear hb
  go_wp2_with (go_at_call 10; (apply Calls.mono; focus (exact num_c _ _)); rintro e w' ⟨rfl, rfl⟩)
  all_goals
    go_ret
    exact ⟨rfl, HB3.out⟩
end Go.Proofs.Ytimabgakemgldaa

