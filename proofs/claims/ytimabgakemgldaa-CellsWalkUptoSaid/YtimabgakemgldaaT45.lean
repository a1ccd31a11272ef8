import Derived.Test.YtimabgakemgldaaT44
import Derived.Laws.LoneSync
import Derived.WalkKit
import Derived.StillTailTactics
import Derived.Deep.RegionLaw
import Derived.Deep.RegionHeld3
import Derived.Laws.OwnMore
import Derived.Deep.Matrix
import Derived.BigQuiet
import Derived.Deep.QuietTactic
import Derived.Laws.EntriesVeiled
namespace Go.Proofs.Ytimabgakemgldaa
open Go.ChangeShapes Go.WideShapes Go.ChangeAt Go.RowKit Go.Deep
set_option linter.unusedSimpArgs false
set_option linter.unusedVariables false

def zeroEnd : Value := .agg #[.int .i64 0, .int .i64 0, .int .i64 0, .int .i64 0, .bool false, .int .i64 0, .bool false, .int .i64 0]
set_option maxRecDepth 100000 in
set_option maxHeartbeats 4000000 in
theorem Walk_bad (mark gate tick : Int) (n oc : Nat) (pa : Option Addr) (pv : Value) (w : World) (h : (n : Int) < 1 ∨ 64 < (n : Int) ∨ gate < 1 ∨ tick < 0) :
    Calls Try.prog 22 #[.agg #[.int .i64 mark, .int .i64 gate, .int .i64 tick], .slice pa n oc, pv] w fun e w' => e = .returned (.tuple #[.slice none 0 0, zeroEnd, .int .i64 2]) ∧ Below w.heap.size w w' := by
  have C42 := hide (fun W => Start_bad mark gate tick (n : Int) W h)
  clear h
  go_enter Try.func22, Try.ntmps22
  go_wp2_with fail
  obtain ⟨w00, hw⟩ : ∃ w00, w00 = (w.alloc (.cells #[.int .i64 mark, .int .i64 gate, .int .i64 tick] 23)).alloc (.cells #[.int .i64 0, .int .i64 0, .int .i64 0, .int .i64 0, .bool false, .int .i64 0, .bool false, .int .i64 0] 63) := ⟨_, rfl⟩
  rw [← hw]
  have hb0 : Below w.heap.size w w00 := by rw [hw]; (focus repeat' (first | (with_reducible exact Below.refl _ _) | (with_reducible assumption) | (with_reducible refine Below.alloc ?_ ?_ _) | (with_reducible refine Below.drew ?_) | (with_reducible refine bdrewN ?_ _) | (with_reducible refine Below.setCell ?_ ?_ _) | (first | (with_reducible exact Nat.le_refl _) | (with_reducible assumption) | omega | (simp; omega) | (simp; done))))
  have HB0 := hide hb0
  have h80 : Has8 w00 (w.heap.size + 1) := by
    rw [hw]
    have q := fr8_made (w.alloc (.cells #[.int .i64 mark, .int .i64 gate, .int .i64 tick] 23))
    rw [World.size_alloc] at q
    exact q
  have HH8 := hide h80
  clear hw hb0 h80
  refine (C42.out w00).mono ?_
  rintro e w1 ⟨rfl, hb⟩
  have h86 := HH8.out.below hb
  obtain ⟨n0, hn0⟩ := Option.isSome_iff_exists.1 (h86 0 (by decide)).1
  have nf0 := (h86 0 (by decide)).2
  obtain ⟨n1, hn1⟩ := Option.isSome_iff_exists.1 (h86 1 (by decide)).1
  have nf1 := (h86 1 (by decide)).2
  obtain ⟨n2, hn2⟩ := Option.isSome_iff_exists.1 (h86 2 (by decide)).1
  have nf2 := (h86 2 (by decide)).2
  obtain ⟨n3, hn3⟩ := Option.isSome_iff_exists.1 (h86 3 (by decide)).1
  have nf3 := (h86 3 (by decide)).2
  obtain ⟨n4, hn4⟩ := Option.isSome_iff_exists.1 (h86 4 (by decide)).1
  have nf4 := (h86 4 (by decide)).2
  obtain ⟨n5, hn5⟩ := Option.isSome_iff_exists.1 (h86 5 (by decide)).1
  have nf5 := (h86 5 (by decide)).2
  obtain ⟨n6, hn6⟩ := Option.isSome_iff_exists.1 (h86 6 (by decide)).1
  have nf6 := (h86 6 (by decide)).2
  obtain ⟨n7, hn7⟩ := Option.isSome_iff_exists.1 (h86 7 (by decide)).1
  have nf7 := (h86 7 (by decide)).2
  have HB1 := hide (HB0.out.trans (hb.mono HB0.out.size))
  clear hb h86
  go_wp2
  refine bodyPost_ret (v := .tuple #[.slice none 0 0, zeroEnd, .int .i64 2]) (by simp [results, Try.f22, go_sem, zeroEnd, hn0, hn1, hn2, hn3, hn4, hn5, hn6, hn7]) rfl ⟨rfl, ?_⟩
  (repeat (with_reducible refine below_set (by omega) ?_ _ _))
  exact HB1.out
/-- cells in the law's own hands -/
structure KO (w0 w : World) (L : Nat → Nat) (A : Ab) : Prop where
  c : ∃ po, CObj w L po A
  b : Below w0.heap.size w0 w
  lo : ∀ i, i < 9 → w0.heap.size ≤ L i
theorem KO.tch {w0 w w' : World} {L : Nat → Nat} {A A' : Ab} (h : KO w0 w L A) (hc : ∃ po, CObj w' L po A') (ht : Tch (CW L) w w') : KO w0 w' L A' :=
  ⟨hc, ⟨ht.os.trans h.b.os, ht.tape.trans h.b.tape, ht.output.trans h.b.output, Nat.le_trans h.b.size ht.size, fun k hk => (ht.heap k (Nat.lt_of_lt_of_le hk h.b.size) (fun e => by
    have q : ∀ j, j < 9 → k ≠ L j := fun j hj e2 => by have := h.lo j hj; omega
    rcases e with e | e | e | e | e
    · exact q 1 (by decide) e
    · exact q 3 (by decide) e
    · exact q 5 (by decide) e
    · exact q 6 (by decide) e
    · exact q 8 (by decide) e)).trans (h.b.block k hk)⟩, h.lo⟩
theorem KO.later {w0 w w' : World} {L : Nat → Nat} {A : Ab} (h : KO w0 w L A) (hb : Below w.heap.size w w') : KO w0 w' L A :=
  ⟨by obtain ⟨po, hc⟩ := h.c; exact ⟨po, hc.below hb⟩, h.b.trans (hb.mono h.b.size), h.lo⟩
theorem KO.add {w0 w : World} {L : Nat → Nat} {A : Ab} (h : KO w0 w L A) (i : Nat) (hi : i < A.S.length) (x : Int) : Calls Try.prog 15 #[.pointer (some ⟨L 4, 0, none⟩), .int .i64 (i : Int), .int .i64 x] w fun e w' => e = .returned (.tuple #[.int .i64 (wrap64 (A.S.getD i 0 + x)), .int .i64 0]) ∧ KO w0 w' L { A with S := A.S.set i (wrap64 (A.S.getD i 0 + x)) } := by
  obtain ⟨po, hc⟩ := h.c
  refine (hc.cnt.add_ok (hc.ne 4 5 (by decide) (by decide) (by decide)) i hi x).mono ?_
  rintro e w' ⟨rfl, hw⟩
  exact ⟨rfl, h.tch ⟨po, hc.added i _ hw⟩ (by rw [hw]; exact (Tch.rfl' w).set (.inr (.inr (.inl rfl))) _ _)⟩
theorem KO.addBad {w0 w : World} {L : Nat → Nat} {A : Ab} (h : KO w0 w L A) (h0 : 0 < A.S.length) (i x : Int) (hi : i < 0 ∨ A.S.length ≤ i) : Calls Try.prog 15 #[.pointer (some ⟨L 4, 0, none⟩), .int .i64 i, .int .i64 x] w fun e w' => e = .returned (.tuple #[.int .i64 0, .int .i64 2]) ∧ w = w' := by
  obtain ⟨po, hc⟩ := h.c
  exact hc.cnt.add_bad h0 i x hi
theorem KO.raise {w0 w : World} {L : Nat → Nat} {A : Ab} (h : KO w0 w L A) (x : Int) : Calls Try.prog 28 #[.pointer (some ⟨L 0, 0, none⟩), .int .i64 x] w fun e w' => e = .returned (.tuple #[.int .i64 A.mark, .bool (decide (A.mark < x))]) ∧ KO w0 w' L { A with mark := max A.mark x } := by
  obtain ⟨po, hc⟩ := h.c
  refine (Raise_c (L 0) (L 1) A.mark x w hc.mark (hc.ne 1 0 (by decide) (by decide) (by decide))).mono ?_
  rintro e w' ⟨rfl, hw⟩
  exact ⟨rfl, h.tch ⟨po, hc.raised _ hw⟩ (hw.tch.imp fun k _ e => .inl e)⟩
theorem KO.arrive {w0 w : World} {L : Nat → Nat} {A : Ab} (h : KO w0 w L A) (hg : 1 ≤ A.gt) (ha : 0 ≤ A.ar) (ha2 : A.ar ≤ 4611686018427387904) : Calls Try.prog 29 #[.pointer (some ⟨L 6, 0, none⟩)] w fun e w' => e = .returned (.tuple #[.int .i64 A.ar, .bool (decide (A.gt ≤ A.ar + 1))]) ∧ KO w0 w' L { A with ar := A.ar + 1 } := by
  obtain ⟨po, hc⟩ := h.c
  refine (hc.gate.arrive hg ha ha2).mono ?_
  rintro e w' ⟨rfl, k, hw⟩
  have q : WrN w (L 6) 1 (.int .i64 (A.ar + 1)) w' := by rw [hw]; exact (WrN.set hc.gate.a).drew k
  exact ⟨rfl, h.tch ⟨po, hc.came _ q⟩ (q.tch.imp fun k _ e => .inr (.inr (.inr (.inl e))))⟩
theorem KO.take {w0 w : World} {L : Nat → Nat} {A : Ab} (h : KO w0 w L A) (hx : -9223372036854775808 ≤ A.tk + 1 ∧ A.tk + 1 ≤ 9223372036854775807) : Calls Try.prog 30 #[.pointer (some ⟨L 7, 0, none⟩)] w fun e w' => e = .returned (.tuple #[.int .i64 (takeA A.tt A.tk), .bool (decide (A.tk < A.tt))]) ∧ KO w0 w' L { A with tk := takeN A.tt A.tk } := by
  obtain ⟨po, hc⟩ := h.c
  refine (Take_c (L 7) (L 8) A.tt A.tk w hc.tick (hc.ne 8 7 (by decide) (by decide) (by decide)) hx).mono ?_
  rintro e w' ⟨rfl, hw⟩
  exact ⟨rfl, h.tch ⟨po, hc.took _ hw⟩ (hw.tch.imp fun k _ e => .inr (.inr (.inr (.inr e))))⟩
theorem KO.offer {w0 w : World} {L : Nat → Nat} {A : Ab} (h : KO w0 w L A) (who x : Int) : Calls Try.prog 32 #[.pointer (some ⟨L 2, 0, none⟩), .int .i64 who, .int .i64 x] w fun e w' => e = .returned (.bool (!(idleB A.bs who x))) ∧ KO w0 w' L { A with bs := offerO A.bs who x } ∧ Tch (CW L) w w' := by
  obtain ⟨po, hc⟩ := h.c
  refine (Offer_c (L 2) (L 3) po A.bs who x w hc.best (hc.ne 3 2 (by decide) (by decide) (by decide)) (fun k e => hc.pn k 3 e (by decide))).mono ?_
  rintro e w' ⟨rfl, hw⟩
  obtain ⟨p', hc', q, -⟩ := hc.offered who x hw
  exact ⟨rfl, h.tch ⟨p', hc'⟩ (q.tch.imp fun k _ e => .inr (.inl e)), q.tch.imp fun k _ e => .inr (.inl e)⟩
theorem KO.sum {w0 w : World} {L : Nat → Nat} {A : Ab} (h : KO w0 w L A) (hS : A.S.length ≤ 64) : Calls Try.prog 31 #[.pointer (some ⟨L 4, 0, none⟩)] w fun e w' => e = .returned (.int .i64 (sumI A.S)) ∧ KO w0 w' L A ∧ Below w.heap.size w w' := by
  obtain ⟨po, hc⟩ := h.c
  refine (Sum_c (L 4) (L 5) A.S w hc.cnt hS).mono ?_
  rintro e w' ⟨rfl, hb⟩
  exact ⟨rfl, h.later hb, hb⟩
/-- five things, made one behind the other -/
theorem KO.made {w0 w : World} {m mc b bc c cs g t tn : Nat} {A : Ab} (h1 : MarkIs w m mc A.mark) (h2 : BestIs w b bc none A.bs) (h3 : CntIs w c cs A.S) (h4 : GateIs w g A.gt A.ar) (h5 : TickIs w t tn A.tt A.tk) (nd : [m, mc, b, bc, c, cs, g, t, tn].Nodup) (hb : Below w0.heap.size w0 w) (lo : w0.heap.size ≤ m ∧ w0.heap.size ≤ mc ∧ w0.heap.size ≤ b ∧ w0.heap.size ≤ bc ∧ w0.heap.size ≤ c ∧ w0.heap.size ≤ cs ∧ w0.heap.size ≤ g ∧ w0.heap.size ≤ t ∧ w0.heap.size ≤ tn) :
    ∃ L : Nat → Nat, L 0 = m ∧ L 2 = b ∧ L 4 = c ∧ L 6 = g ∧ L 7 = t ∧ KO w0 w L A := by
  refine ⟨LL m mc b bc c cs g t tn, rfl, rfl, rfl, rfl, rfl, ⟨none, mkCObj h1 h2 h3 h4 h5 nd⟩, hb, fun i hi => ?_⟩
  obtain ⟨l0, l1, l2, l3, l4, l5, l6, l7, l8⟩ := lo
  obtain rfl | rfl | rfl | rfl | rfl | rfl | rfl | rfl | rfl : i = 0 ∨ i = 1 ∨ i = 2 ∨ i = 3 ∨ i = 4 ∨ i = 5 ∨ i = 6 ∨ i = 7 ∨ i = 8 := by omega
  all_goals assumption
end Go.Proofs.Ytimabgakemgldaa
