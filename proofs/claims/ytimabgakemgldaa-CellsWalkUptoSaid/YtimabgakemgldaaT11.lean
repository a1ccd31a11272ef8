import Derived.Test.YtimabgakemgldaaT10
import Derived.Laws.LoneSync
import Derived.WalkKit
import Derived.StillTailTactics
import Derived.Deep.RegionLaw
import Derived.Deep.RegionHeld3
import Derived.Laws.OwnMore
import Derived.Deep.Matrix
import Derived.BigQuiet
import Derived.Conc.MuLone
import Derived.Deep.QuietTactic
import Derived.Laws.EntriesVeiled
namespace Go.Proofs.Ytimabgakemgldaa
open Go.ChangeShapes Go.WideShapes Go.ChangeAt Go.RowKit Go.Deep
set_option linter.unusedSimpArgs false
set_option linter.unusedVariables false

def offerO (o : Option (Int × Int)) (who x : Int) : Option (Int × Int) := if idleB o who x then o else some (who, x)
set_option maxHeartbeats 1000000 in
theorem offer_whole (B bb bs bw bx ba b bc ab ao : Nat) (p q : Option Addr) (o : Option (Int × Int)) (who x a : Int) (w : World) (hT : OfferT w bb bs bw bx ba b ab ao q who x) (hm : BestIs w b bc p o) (hA : AnsAt w ab ao a false) (hB : B ≤ bs) (hBw : B ≤ w.heap.size) (hk : ∀ k, p = some ⟨k, 0, none⟩ → k < B ∧ k ≠ ab ∧ k ≠ bc)
    (n1 : bs ≠ bx) (n2 : bs ≠ bw) (n3 : bs ≠ bb) (n4 : bs ≠ ba) (n5 : bs ≠ b) (n6 : bs ≠ bc) (n7 : ab ≠ bs) (m1 : bc ≠ ba) (m2 : ab ≠ ba) (m3 : ab ≠ bc) (m4 : bc ≠ bb) (m5 : bc ≠ b) (m7 : bc ≠ bw) (m8 : bc ≠ bx) (m9 : ab ≠ bb) :
    Calls Try.prog 50 #[offerV bb bs bw bx ba] w fun e w' => e = .returned (.tuple #[]) ∧ ∃ p', OffOk w' p' (offerO o who x) ∧ (∀ k, p' = some ⟨k, 0, none⟩ → p' = p ∨ w.heap.size ≤ k) ∧ Op2 B w bc 0 (.pointer p') ab ao a (!(idleB o who x)) w' := by
  have l1 := World.block_lt_of_cell? w _ hT.b
  have l2 := World.block_lt_of_cell? w _ hT.s
  have l3 := World.block_lt_of_cell? w _ hT.wh
  have l4 := World.block_lt_of_cell? w _ hT.x
  have l5 := World.block_lt_of_cell? w _ hT.a
  have l6 := World.block_lt_of_cell? w _ hm.c
  have l7 := World.block_lt_of_cell? w _ hm.v
  have l8 := World.block_lt_of_cell? w _ hA.a
  simp only at l1 l2 l3 l4 l5 l6 l7 l8
  have hns : ∀ k, p = some ⟨k, 0, none⟩ → bs ≠ k := fun k e => by have := (hk k e).1; omega
  unfold offerO
  cases hi : idleB o who x with
  | true =>
    rw [if_pos rfl]
    refine whole_look 96 97 _ _ w _ (ent96 _) (ent97 _) fun W hb => ?_
    refine (offer_look bb bs bw bx ba b bc ab ao q p o who x W (hT.stays (hb.block _ l1) (hb.block _ l2) (hb.block _ l3) (hb.block _ l4) (hb.block _ l5)) (hm.stays (hb.block _ l6) (hb.block _ l7) (fun k e => hb.block _ (hm.o.lt e))) n1 n2 hns).mono ?_
    rintro e w1 ⟨rfl, h1⟩
    have hB1 := (h1.heap _ (Ne.symm n6)).trans (hb.block _ l7)
    have hB2 := (h1.heap _ n7).trans (hb.block _ l8)
    refine ⟨by rw [hi], p, hm.o.stays (fun k e => (h1.heap _ (Ne.symm (hns k e))).trans (hb.block _ (hm.o.lt e))), fun k _ => .inl rfl, h1.os.trans hb.os, h1.tape.trans hb.tape, h1.output.trans hb.output, by rw [← h1.size]; exact hb.size, fun k hk _ _ => (h1.heap k (by omega)).trans (hb.block k (by omega)), cell_stay hm.v hB1, fun p _ => World.cell?_of_block (a := ⟨bc, p, none⟩) hB1, fun p => World.frozen?_of_block (a := ⟨bc, p, none⟩) hB1, cell_stay hA.a hB2, cell_stay hA.y hB2, fun p _ _ => World.cell?_of_block (a := ⟨ab, p, none⟩) hB2, fun p => World.frozen?_of_block (a := ⟨ab, p, none⟩) hB2⟩
  | false =>
    rw [if_neg (by decide)]
    refine whole_put 96 97 _ _ w _ (ent96 _) (ent97 _) fun W hb => ?_
    have hTW := hT.stays (hb.block _ l1) (hb.block _ l2) (hb.block _ l3) (hb.block _ l4) (hb.block _ l5)
    have hmW := hm.stays (hb.block _ l6) (hb.block _ l7) (fun k e => hb.block _ (hm.o.lt e))
    refine (offer_look bb bs bw bx ba b bc ab ao q p o who x W hTW hmW n1 n2 hns).mono ?_
    rintro e w1 ⟨rfl, h1⟩
    refine ⟨by rw [hi], World.cell?_of_block (a := ⟨w.heap.size, 1, none⟩) (h1.heap _ (show w.heap.size ≠ bs by omega)), ?_⟩
    have hA1 : AnsAt w1 ab ao a false := (hA.stays (hb.block _ l8)).stays (h1.heap _ n7)
    have hT1 : OfferT w1 bb bs bw bx ba b ab ao p who x := ⟨cell_stay hTW.b (h1.heap _ (Ne.symm n3)), h1.at_, (h1.fro 0).trans hTW.sf, cell_stay hTW.wh (h1.heap _ (Ne.symm n2)), cell_stay hTW.x (h1.heap _ (Ne.symm n1)), cell_stay hTW.a (h1.heap _ (Ne.symm n4))⟩
    have hm1 : BestIs w1 b bc p o := hmW.stays (h1.heap _ (Ne.symm n5)) (h1.heap _ (Ne.symm n6)) (fun k e => h1.heap _ (Ne.symm (hns k e)))
    refine (offer_hit bb bs bw bx ba b bc ab ao p o who x w1 hT1 hm1 (by rw [hA1.y]; rfl) (hA1.f _) m1 m2 m3 m4 m5 (Ne.symm n6) m7 m8).mono ?_
    rintro e w2 ⟨rfl, w3, h3, h2⟩
    have zs : w.heap.size ≤ w1.heap.size := by rw [← h1.size]; exact hb.size
    have k1 : w1.heap[bc]? = w.heap[bc]? := (h1.heap _ (Ne.symm n6)).trans (hb.block _ l7)
    have k2 : w1.heap[ab]? = w.heap[ab]? := (h1.heap _ n7).trans (hb.block _ l8)
    have k3 : w2.heap[bc]? = w3.heap[bc]? := h2.heap _ (Ne.symm m3)
    have k4 : w3.heap[ab]? = w1.heap[ab]? := h3.wr.heap _ (by omega) m3
    refine ⟨rfl, some ⟨w1.heap.size, 0, none⟩, ⟨_, rfl, h3.at_.stays (h2.heap _ (by omega))⟩, fun k e => .inr (by cases e; exact zs), ((h2.os.trans h3.wr.os).trans h1.os).trans hb.os, ((h2.tape.trans h3.wr.tape).trans h1.tape).trans hb.tape, ((h2.output.trans h3.wr.output).trans h1.output).trans hb.output, by rw [← h2.size]; exact Nat.le_trans zs h3.wr.size, fun k hk q1 q2 => (((h2.heap k q2).trans (h3.wr.heap k (by omega) q1)).trans (h1.heap k (by omega))).trans (hb.block k (by omega)), cell_stay h3.wr.at_ k3, fun p hp => ?_, fun p => ?_, (h2.oth ao (by omega)).trans (cell_stay hA1.a k4), h2.at_, fun p q1 q2 => ?_, fun p => ?_⟩
    · exact (World.cell?_of_block (a := ⟨bc, p, none⟩) k3).trans ((h3.wr.oth p hp).trans (World.cell?_of_block (a := ⟨bc, p, none⟩) k1))
    · exact (World.frozen?_of_block (a := ⟨bc, p, none⟩) k3).trans ((h3.wr.fro p).trans (World.frozen?_of_block (a := ⟨bc, p, none⟩) k1))
    · exact (h2.oth p q2).trans (World.cell?_of_block (a := ⟨ab, p, none⟩) (k4.trans k2))
    · exact (h2.fro p).trans (World.frozen?_of_block (a := ⟨ab, p, none⟩) (k4.trans k2))
/-- an op on a box of one's own, seen from without -/
theorem Op2.out {w0 w w' : World} {B b o ab ao : Nat} {u : Value} {A : Int} {y : Bool} (h : Op2 B w b o u ab ao A y w') (hb : Below w0.heap.size w0 w) (hB : w0.heap.size ≤ B) (hl : b < w0.heap.size) (ha : w0.heap.size ≤ ab) : WrN w0 b o u w' :=
  ⟨h.os.trans hb.os, h.tape.trans hb.tape, h.output.trans hb.output, Nat.le_trans hb.size h.size, fun k hk hne => (h.heap k (by omega) hne (by omega)).trans (hb.block k hk), h.at_, fun p hp => (h.oth p hp).trans (World.cell?_of_block (a := ⟨b, p, none⟩) (hb.block _ hl)), fun p => (h.fro p).trans (World.frozen?_of_block (a := ⟨b, p, none⟩) (hb.block _ hl))⟩
theorem WrN.drew {w w' : World} {b o : Nat} {u : Value} (h : WrN w b o u w') (n : Nat) : WrN w b o u (w'.drewN n) := ⟨h.os, h.tape, h.output, h.size, h.heap, h.at_, h.oth, h.fro⟩
def takeA (many nx : Int) : Int := if nx < many then nx else 0
def takeN (many nx : Int) : Int := if nx < many then nx + 1 else nx
def OffR (w : World) (bc : Nat) (p : Option Addr) (o : Option (Int × Int)) (who x : Int) (w' : World) : Prop := ∃ p', OffOk w' p' (offerO o who x) ∧ (∀ k, p' = some ⟨k, 0, none⟩ → p' = p ∨ w.heap.size ≤ k) ∧ WrN w bc 0 (.pointer p') w'
set_option maxRecDepth 100000 in
set_option maxHeartbeats 1000000 in
theorem Raise_c (m mc : Nat) (v x : Int) (w : World) (h : MarkIs w m mc v) (hne : mc ≠ m) : Calls Try.prog 28 #[.pointer (some ⟨m, 0, none⟩), .int .i64 x] w fun e w' => e = .returned (.tuple #[.int .i64 v, .bool (decide (v < x))]) ∧ WrN w mc 0 (.int .i64 (max v x)) w' := by
  have H := hide h
  have l4 := World.block_lt_of_cell? w _ h.c
  have l5 := World.block_lt_of_cell? w _ h.v
  simp only at l4 l5
  have c0 := h.c
  have C := hide (show ∀ W A, Below w.heap.size w W → AnsAt W A 0 0 false → w.heap.size ≤ A → A < W.heap.size → ∀ w2, RaiseT w2 W.heap.size (W.heap.size + 2) (W.heap.size + 1) m A 0 x → Below W.heap.size W w2 → Calls Try.prog 50 #[raiseV W.heap.size (W.heap.size + 2) (W.heap.size + 1)] w2 fun e w' => e = .returned (.tuple #[]) ∧ w'.cell? ⟨A, 0, none⟩ = some (.int .i64 v) ∧ w'.cell? ⟨A, 1, none⟩ = some (.bool (decide (v < x))) ∧ WrN w mc 0 (.int .i64 (max v x)) w' from fun W A hb hA hA1 hA2 w2 hT hb2 => by
    have B2 := hb.trans (hb2.mono hb.size)
    have zz := hb.size
    refine (raise_whole _ _ _ m mc A 0 x v 0 w2 hT (h.below B2) (hA.stays (hb2.block _ hA2)) (by omega) (by omega) (by omega) (by omega) (by omega) (by omega) (by omega) hne (by omega)).mono ?_
    rintro e w' ⟨rfl, q⟩
    exact ⟨rfl, q.aa, q.ay, q.out B2 B2.size l5 hA1⟩)
  clear h
  have K := hide (fun W (hb : Below w.heap.size w W) => (H.out.below hb).there)
  go_enter Try.func28, Try.ntmps28
  go_wp2_with fail
  refine (K.out _ (Below.refl _ _)).mono ?_
  rintro e w' ⟨rfl, rfl⟩
  go_wp2_with fail
  obtain ⟨W, hW⟩ : ∃ W, W = w.alloc (.cells #[.int .i64 0, .bool false, .int .i64 0] 52) := ⟨_, rfl⟩
  try rw [← hW]
  have hb : Below w.heap.size w W := by rw [hW]; (focus repeat' (first | (with_reducible exact Below.refl _ _) | (with_reducible assumption) | (with_reducible refine Below.alloc ?_ ?_ _) | (with_reducible refine Below.drew ?_) | (with_reducible refine bdrewN ?_ _) | (with_reducible refine Below.setCell ?_ ?_ _) | (first | (with_reducible exact Nat.le_refl _) | (with_reducible assumption) | omega | (simp; omega) | (simp; done))))
  have zW : Hid (W.heap.size = w.heap.size + 1) := by rw [hW]; exact hide (by simp)
  have hA : AnsAt W w.heap.size 0 0 false := by rw [hW]; exact ⟨by simp [go_sem], by simp [go_sem], fun o => by simp [go_sem]⟩
  have HA := hide hA
  have HB := hide hb
  clear hW hA hb
  refine (raise_c m w.heap.size 0 x W).mono ?_
  rintro e w2 ⟨rfl, hT, hb2⟩
  have HT := hide hT
  have HB2 := hide hb2
  clear hT hb2
  go_wp2_with fail
  refine (C.out W w.heap.size HB.out HA.out (Nat.le_refl _) (by rw [zW.out]; omega) w2 HT.out HB2.out).mono ?_
  rintro e w3 ⟨rfl, k0, k1, hr⟩
  have HR := hide hr
  clear hr
  go_wp2_with fail
  go_quiet (fail)
  go_wp2
  go_ret2
  exact ⟨rfl, HR.out.drew _⟩
set_option maxRecDepth 100000 in
set_option maxHeartbeats 1000000 in
theorem Take_c (t tn : Nat) (many nx : Int) (w : World) (h : TickIs w t tn many nx) (hne : tn ≠ t) (hx : -9223372036854775808 ≤ nx + 1 ∧ nx + 1 ≤ 9223372036854775807) : Calls Try.prog 30 #[.pointer (some ⟨t, 0, none⟩)] w fun e w' => e = .returned (.tuple #[.int .i64 (takeA many nx), .bool (decide (nx < many))]) ∧ WrN w tn 0 (.int .i64 (takeN many nx)) w' := by
  have H := hide h
  have l4 := World.block_lt_of_cell? w _ h.m
  have l5 := World.block_lt_of_cell? w _ h.v
  simp only at l4 l5
  have c0 := h.c
  have C := hide (show ∀ W A, Below w.heap.size w W → AnsAt W A 0 0 false → w.heap.size ≤ A → A < W.heap.size → ∀ w2, TakeT w2 W.heap.size (W.heap.size + 3) (W.heap.size + 1) t A 0 0 → Below W.heap.size W w2 → Calls Try.prog 50 #[takeV W.heap.size (W.heap.size + 3) (W.heap.size + 1)] w2 fun e w' => e = .returned (.tuple #[]) ∧ w'.cell? ⟨A, 0, none⟩ = some (.int .i64 (takeA many nx)) ∧ w'.cell? ⟨A, 1, none⟩ = some (.bool (decide (nx < many))) ∧ WrN w tn 0 (.int .i64 (takeN many nx)) w' from fun W A hb hA hA1 hA2 w2 hT hb2 => by
    have B2 := hb.trans (hb2.mono hb.size)
    have zz := hb.size
    refine (take_whole w.heap.size _ _ _ t tn A 0 many nx 0 w2 hT (h.below B2) (hA.stays (hb2.block _ hA2)) hx (by omega) B2.size (by omega) (by omega) (by omega) (by omega) (by omega) (by omega) hne (by omega) (by omega) (by omega) (by omega) (by omega)).mono ?_
    rintro e w' ⟨rfl, q⟩
    exact ⟨rfl, q.aa, q.ay, q.out B2 (Nat.le_refl _) l5 hA1⟩)
  clear h
  have K := hide (fun W (hb : Below w.heap.size w W) => (H.out.below hb).there)
  go_enter Try.func30, Try.ntmps30
  go_wp2_with fail
  refine (K.out _ (Below.refl _ _)).mono ?_
  rintro e w' ⟨rfl, rfl⟩
  go_wp2_with fail
  obtain ⟨W, hW⟩ : ∃ W, W = w.alloc (.cells #[.int .i64 0, .bool false, .int .i64 0] 52) := ⟨_, rfl⟩
  try rw [← hW]
  have hb : Below w.heap.size w W := by rw [hW]; (focus repeat' (first | (with_reducible exact Below.refl _ _) | (with_reducible assumption) | (with_reducible refine Below.alloc ?_ ?_ _) | (with_reducible refine Below.drew ?_) | (with_reducible refine bdrewN ?_ _) | (with_reducible refine Below.setCell ?_ ?_ _) | (first | (with_reducible exact Nat.le_refl _) | (with_reducible assumption) | omega | (simp; omega) | (simp; done))))
  have zW : Hid (W.heap.size = w.heap.size + 1) := by rw [hW]; exact hide (by simp)
  have hA : AnsAt W w.heap.size 0 0 false := by rw [hW]; exact ⟨by simp [go_sem], by simp [go_sem], fun o => by simp [go_sem]⟩
  have HA := hide hA
  have HB := hide hb
  clear hW hA hb
  refine (take_c t w.heap.size 0 W).mono ?_
  rintro e w2 ⟨rfl, hT, hb2⟩
  have HT := hide hT
  have HB2 := hide hb2
  clear hT hb2
  go_wp2_with fail
  refine (C.out W w.heap.size HB.out HA.out (Nat.le_refl _) (by rw [zW.out]; omega) w2 HT.out HB2.out).mono ?_
  rintro e w3 ⟨rfl, k0, k1, hr⟩
  have HR := hide hr
  clear hr
  go_wp2_with fail
  go_quiet (fail)
  go_wp2
  go_ret2
  exact ⟨rfl, HR.out.drew _⟩
set_option maxRecDepth 100000 in
set_option maxHeartbeats 1000000 in
theorem Offer_c (b bc : Nat) (p : Option Addr) (o : Option (Int × Int)) (who x : Int) (w : World) (h : BestIs w b bc p o) (hne : bc ≠ b) (hk : ∀ k, p = some ⟨k, 0, none⟩ → k ≠ bc) : Calls Try.prog 32 #[.pointer (some ⟨b, 0, none⟩), .int .i64 who, .int .i64 x] w fun e w' => e = .returned (.bool (!(idleB o who x))) ∧ OffR w bc p o who x w' := by
  have H := hide h
  have l4 := World.block_lt_of_cell? w _ h.c
  have l5 := World.block_lt_of_cell? w _ h.v
  simp only at l4 l5
  have c0 := h.c
  have C := hide (show ∀ W A, Below w.heap.size w W → AnsAt W A 0 0 false → w.heap.size ≤ A → A < W.heap.size → ∀ w2, OfferT w2 W.heap.size (W.heap.size + 5) (W.heap.size + 1) (W.heap.size + 2) (W.heap.size + 3) b A 0 none who x → WrN W A 0 (.int .i64 x) w2 → Calls Try.prog 50 #[offerV W.heap.size (W.heap.size + 5) (W.heap.size + 1) (W.heap.size + 2) (W.heap.size + 3)] w2 fun e w' => e = .returned (.tuple #[]) ∧ w'.cell? ⟨A, 1, none⟩ = some (.bool (!(idleB o who x))) ∧ OffR w bc p o who x w' from fun W A hb hA hA1 hA2 w2 hT hw2 => by
    have B2 : Below w.heap.size w w2 := ⟨hw2.os.trans hb.os, hw2.tape.trans hb.tape, hw2.output.trans hb.output, Nat.le_trans hb.size hw2.size, fun k hk2 => (hw2.heap k (Nat.lt_of_lt_of_le hk2 hb.size) (by omega)).trans (hb.block k hk2)⟩
    have hA2' : AnsAt w2 A 0 x false := ⟨hw2.at_, (hw2.oth 1 (by omega)).trans hA.y, fun p => (hw2.fro p).trans (hA.f p)⟩
    have zz := hb.size
    refine (offer_whole w.heap.size _ _ _ _ _ b bc A 0 p none o who x x w2 hT (h.below B2) hA2' (by omega) B2.size (fun k e => ⟨h.o.lt e, by have := h.o.lt e; omega, hk k e⟩) (by omega) (by omega) (by omega) (by omega) (by omega) (by omega) (by omega) (by omega) (by omega) (by omega) (by omega) hne (by omega) (by omega) (by omega)).mono ?_
    rintro e w' ⟨rfl, p', q0, q1, q⟩
    exact ⟨rfl, q.ay, p', q0, fun k e => (q1 k e).imp id (Nat.le_trans B2.size), q.out B2 (Nat.le_refl _) l5 hA1⟩)
  clear h
  have K := hide (fun W (hb : Below w.heap.size w W) => (H.out.below hb).there)
  go_enter Try.func32, Try.ntmps32
  go_wp2_with fail
  refine (K.out _ (Below.refl _ _)).mono ?_
  rintro e w' ⟨rfl, rfl⟩
  go_wp2_with fail
  obtain ⟨W, hW⟩ : ∃ W, W = w.alloc (.cells #[.int .i64 0, .bool false, .int .i64 0] 52) := ⟨_, rfl⟩
  try rw [← hW]
  have hb : Below w.heap.size w W := by rw [hW]; (focus repeat' (first | (with_reducible exact Below.refl _ _) | (with_reducible assumption) | (with_reducible refine Below.alloc ?_ ?_ _) | (with_reducible refine Below.drew ?_) | (with_reducible refine bdrewN ?_ _) | (with_reducible refine Below.setCell ?_ ?_ _) | (first | (with_reducible exact Nat.le_refl _) | (with_reducible assumption) | omega | (simp; omega) | (simp; done))))
  have zW : Hid (W.heap.size = w.heap.size + 1) := by rw [hW]; exact hide (by simp)
  have hA : AnsAt W w.heap.size 0 0 false := by rw [hW]; exact ⟨by simp [go_sem], by simp [go_sem], fun o => by simp [go_sem]⟩
  have HA := hide hA
  have HB := hide hb
  clear hW hA hb
  refine (offer_c b w.heap.size 0 who x W (by rw [HA.out.a]; rfl) (HA.out.f 0)).mono ?_
  rintro e w2 ⟨rfl, hT, hb2⟩
  have HT := hide hT
  have HB2 := hide hb2
  clear hT hb2
  go_wp2_with fail
  refine (C.out W w.heap.size HB.out HA.out (Nat.le_refl _) (by rw [zW.out]; omega) w2 HT.out HB2.out).mono ?_
  rintro e w3 ⟨rfl, k1, hr⟩
  have HR := hide hr
  clear hr
  go_wp2_with fail
  go_ret
  exact ⟨rfl, HR.out⟩
end Go.Proofs.Ytimabgakemgldaa
