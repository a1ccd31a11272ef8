import Derived.Test.YtimabgakemgldaaT39
import Derived.Laws.LoneSync
import Derived.WalkKit
import Derived.StillTailTactics
import Derived.Deep.RegionLaw
import Derived.Deep.RegionHeld3
import Derived.Laws.OwnMore
import Derived.Deep.Matrix
import Derived.BigQuiet
import Derived.Deep.QuietTactic
import Derived.Laws.EntriesVeiled
namespace Go.Proofs.Ytimabgakemgldaa
open Go.ChangeShapes Go.WideShapes Go.ChangeAt Go.RowKit Go.Deep
set_option linter.unusedSimpArgs false
set_option linter.unusedVariables false

theorem doS_bs {A : Ab} {who k x : Int} (h : k ≠ 3) : (doS A who k x).bs = A.bs := by
  unfold doS; (repeat' split) <;> first | rfl | contradiction
theorem StepE.one {w w' Y : World} {tag : Nat → Nat} {wp : Nat} {L : Nat → Nat} {po : Option Addr} {A A' : Ab} {kb tb i : Nat} {ov dv : Value} {a : Int} {y : Bool} (hI : WI w tag wp L po A) (hB : WB w tag kb i ov dv) (ok : YOk w kb tb Y) (hc : CObj w' L po A') (hs : StepR L kb 5 Y w' a y) (hbs : A'.bs = A.bs) :
    StepE w w' tag (tg tag w.heap.size (3 + i)) wp L po po A A' kb i ov dv := by
  have hT : Tch (fun b => CW L b ∨ tag b = 3 + i) w w' := (ok.t.imp (fun k _ e => .inr (by rw [e]; exact hB.t))).trans (hs.t.imp (fun k _ e => e.imp id (fun e => by rw [e]; exact hB.t)))
  have old : ∀ p, p < 3 → w'.cell? ⟨kb, p, none⟩ = w.cell? ⟨kb, p, none⟩ := fun p hp => (hs.aoth p (by omega) (by omega)).trans (ok.old p hp)
  have hf : ∀ o, w'.frozen? ⟨kb, o, none⟩ = false := fun o => (hs.afro o).trans (ok.f o)
  refine ⟨fun b hb => tg_lt hb, hT, hI.of hT hc (fun b hb => tg_lt hb) (fun k e => (tg_lt (hI.c.best.o.lt e)).trans (hI.tp k e)), ⟨fun o ho => ⟨?_, hf o⟩, hf, (old 0 (by decide)).trans hB.c0, (old 1 (by decide)).trans hB.c1, (old 2 (by decide)).trans hB.c2, (tg_lt hB.lt).trans hB.t⟩, .inl ⟨rfl, hbs⟩⟩
  by_cases e5 : o = 5
  · subst e5; rw [hs.aa]; rfl
  · by_cases e6 : o = 6
    · subst e6; rw [hs.ay]; rfl
    · rw [hs.aoth o e5 e6]; exact (ok.h8 o ho).1

theorem fresh_1 (kb wp ob oo on oc j dc i n : Nat) (dp : Option Addr) (tag : Nat → Nat) (L : Nat → Nat) (po : Option Addr) (A : Ab) (x c : Int) (w : World) (hI : WI w tag wp L po A) (hB : WB w tag kb i (.slice (some ⟨ob, oo, none⟩) on oc) (.slice dp j dc)) (c3 : w.cell? ⟨kb, 3, none⟩ = some (.pointer none)) (hj : j < on) (o0 : w.cell? ⟨ob, oo + j * 2, none⟩ = some (.int .i64 1)) (o1 : w.cell? ⟨ob, oo + j * 2 + 1, none⟩ = some (.int .i64 x)) (hto : tag ob = 0) (hA : AbOk A n c) (hi : i < n) :
    Calls Try.prog 43 #[.pointer (some ⟨kb, 0, none⟩), .pointer (some ⟨wp, 0, none⟩)] w fun e w' => e = .returned (.bool (doneA A (i : Int) 1 x .no)) ∧ StepQ w tag wp L po A kb i (.slice (some ⟨ob, oo, none⟩) on oc) (.slice dp j dc) 1 x .no w' := by
  have hne : ob ≠ kb := fun e => by rw [e, hB.t] at hto; omega
  have lk := hB.lt
  have hd : doneA A (i : Int) 1 x .no = true := rfl
  refine step_one kb wp 107 ob oo on oc j dc dp i 1 x w (doneA A (i : Int) 1 x .no) (fun w' => StepQ w tag wp L po A kb i (.slice (some ⟨ob, oo, none⟩) on oc) (.slice dp j dc) 1 x .no w') (fun V w1 ca => ∃ n, V.heap.size ≤ n ∧ ca = #[.pointer (some ⟨n + 5, 0, none⟩)] ∧ w1.cell? ⟨n + 5, 0, none⟩ = some (addF n) ∧ AddT w1 n (n + 1) (n + 1 + 1) (n + 1 + 1 + 1) wp kb 5 i x ∧ Below V.heap.size V w1) ent107 hB.h8 hB.c0 hB.c1 hB.c2 c3 hj o0 o1 hne ?_ ?_
  · intro V hV
    refine (op_1 wp kb 5 L i x V (LWf hI hB.t hV)).mono ?_
    rintro e w1 ⟨n, hn, rfl, ho, hT, hb⟩
    exact ⟨_, rfl, .of hb (Vk lk hV).1, n, hn, rfl, ho, hT, hb⟩
  · rintro V w1 ca tb Y hV hx ⟨n, hn, rfl, ho, hT, hb⟩ hY
    have h5 := cell_stay (V5 hB.h8 hV) (hb.block kb (Vk lk hV).1)
    have ok := hY.ok hB.h8 hB.f hV hx ⟨_, h5⟩
    have kv := Vk lk hV
    have lo := World.block_lt_of_cell? w1 _ ho
    simp only at lo
    have hO := cell_stay ho (hY.box kv.1 (by omega) lo)
    have IY := hI.stay (tag' := tag) (ok.t.imp (fun k _ e => by rw [e]; exact hB.t)) (fun _ _ => rfl)
    have hAn : AnsAt Y kb 5 0 false := ⟨(hY.oth 5 (by decide) (by decide)).trans h5, ok.y, ok.f⟩
    have nL : ∀ b, V.heap.size ≤ b → ∀ q, q < 9 → b ≠ L q := fun b hb q hq => by have := hI.c.lt q hq; omega
    have nk := hI.nL hB.t
    have nw := hI.nw hB.t
    have lw := hI.l.lt
    have q0 := World.block_lt_of_cell? w1 _ hT.c0
    have q1 := World.block_lt_of_cell? w1 _ hT.c1
    have q2 := World.block_lt_of_cell? w1 _ hT.c2
    have q3 := World.block_lt_of_cell? w1 _ hT.c3
    simp only at q0 q1 q2 q3
    have TY := hT.stays (hY.box kv.1 hn q0) (hY.box kv.1 (show V.heap.size ≤ n + 1 by omega) q1) (hY.box kv.1 (show V.heap.size ≤ n + 1 + 1 by omega) q2) (hY.box kv.1 (show V.heap.size ≤ n + 1 + 1 + 1 by omega) q3)
    refine (one_1 105 (n + 5) _ Y _ hO (ent105 _) (add_1 n (n + 1) (n + 1 + 1) (n + 1 + 1 + 1) wp kb 5 i L po A x 0 false Y IY.c IY.l TY hAn (by rw [hA.S]; exact hi) hI.wL nk (nL _ hn) (nL _ (by omega)) (nL _ (by omega)) (nL _ (by omega)) ⟨nw, by omega, by omega, by omega, by omega⟩ (hI.np hB.t))).mono ?_
    rintro e w' ⟨rfl, hc, hs⟩
    have E := StepE.one (tb := tb) hI hB ok hc hs (doS_bs (by decide))
    exact ⟨by rw [hd], tg tag w.heap.size (3 + i), po, .inl ⟨hd, E, hs.aa, hs.ay, (hs.aoth 7 (by decide) (by decide)).trans ok.z⟩⟩

theorem fresh_4 (kb wp ob oo on oc j dc i n : Nat) (dp : Option Addr) (tag : Nat → Nat) (L : Nat → Nat) (po : Option Addr) (A : Ab) (x c : Int) (w : World) (hI : WI w tag wp L po A) (hB : WB w tag kb i (.slice (some ⟨ob, oo, none⟩) on oc) (.slice dp j dc)) (c3 : w.cell? ⟨kb, 3, none⟩ = some (.pointer none)) (hj : j < on) (o0 : w.cell? ⟨ob, oo + j * 2, none⟩ = some (.int .i64 4)) (o1 : w.cell? ⟨ob, oo + j * 2 + 1, none⟩ = some (.int .i64 x)) (hto : tag ob = 0) (hA : AbOk A n c) (hc : c ≤ 4611686018427387904) :
    Calls Try.prog 43 #[.pointer (some ⟨kb, 0, none⟩), .pointer (some ⟨wp, 0, none⟩)] w fun e w' => e = .returned (.bool (doneA A (i : Int) 4 x .no)) ∧ StepQ w tag wp L po A kb i (.slice (some ⟨ob, oo, none⟩) on oc) (.slice dp j dc) 4 x .no w' := by
  have hne : ob ≠ kb := fun e => by rw [e, hB.t] at hto; omega
  have lk := hB.lt
  have hd : doneA A (i : Int) 4 x .no = true := rfl
  refine step_one kb wp 107 ob oo on oc j dc dp i 4 x w (doneA A (i : Int) 4 x .no) (fun w' => StepQ w tag wp L po A kb i (.slice (some ⟨ob, oo, none⟩) on oc) (.slice dp j dc) 4 x .no w') (fun V w1 ca => ∃ n, V.heap.size ≤ n ∧ ca = #[.pointer (some ⟨n + 3, 0, none⟩)] ∧ w1.cell? ⟨n + 3, 0, none⟩ = some (arrF n) ∧ ArrT w1 n (n + 1) wp kb 5 ∧ Below V.heap.size V w1) ent107 hB.h8 hB.c0 hB.c1 hB.c2 c3 hj o0 o1 hne ?_ ?_
  · intro V hV
    refine (op_4 wp kb 5 L i x V (LWf hI hB.t hV)).mono ?_
    rintro e w1 ⟨n, hn, rfl, ho, hT, hb⟩
    exact ⟨_, rfl, .of hb (Vk lk hV).1, n, hn, rfl, ho, hT, hb⟩
  · rintro V w1 ca tb Y hV hx ⟨n, hn, rfl, ho, hT, hb⟩ hY
    have h5 := cell_stay (V5 hB.h8 hV) (hb.block kb (Vk lk hV).1)
    have ok := hY.ok hB.h8 hB.f hV hx ⟨_, h5⟩
    have kv := Vk lk hV
    have lo := World.block_lt_of_cell? w1 _ ho
    simp only at lo
    have hO := cell_stay ho (hY.box kv.1 (by omega) lo)
    have IY := hI.stay (tag' := tag) (ok.t.imp (fun k _ e => by rw [e]; exact hB.t)) (fun _ _ => rfl)
    have hAn : AnsAt Y kb 5 0 false := ⟨(hY.oth 5 (by decide) (by decide)).trans h5, ok.y, ok.f⟩
    have nL : ∀ b, V.heap.size ≤ b → ∀ q, q < 9 → b ≠ L q := fun b hb q hq => by have := hI.c.lt q hq; omega
    have nk := hI.nL hB.t
    have nw := hI.nw hB.t
    have lw := hI.l.lt
    have q0 := World.block_lt_of_cell? w1 _ hT.c0
    have q3 := World.block_lt_of_cell? w1 _ hT.c3
    simp only at q0 q3
    have TY := hT.stays (hY.box kv.1 hn q0) (hY.box kv.1 (show V.heap.size ≤ n + 1 by omega) q3)
    refine (one_1 106 (n + 3) _ Y _ hO (ent106 _) (arrive_1 n (n + 1) wp kb 5 L po A i x 0 false Y IY.c IY.l TY hAn hA.gt hA.ar (Int.le_trans hA.ar2 hc) hI.wL nk (nL _ hn) (nL _ (by omega)) (by omega) (hI.np hB.t))).mono ?_
    rintro e w' ⟨rfl, hc, hs⟩
    have E := StepE.one (tb := tb) hI hB ok hc hs (doS_bs (by decide))
    exact ⟨by rw [hd], tg tag w.heap.size (3 + i), po, .inl ⟨hd, E, hs.aa, hs.ay, (hs.aoth 7 (by decide) (by decide)).trans ok.z⟩⟩

theorem fresh_X (k : Int) (hk : (Lit.int .i64 k).wf = true) (k1 : ¬ k = 1) (k2 : ¬ k = 2) (k3 : ¬ k = 3) (k4 : ¬ k = 4) (k5 : ¬ k = 5) (kb wp ob oo on oc j dc i n : Nat) (dp : Option Addr) (tag : Nat → Nat) (L : Nat → Nat) (po : Option Addr) (A : Ab) (x c : Int) (w : World) (hI : WI w tag wp L po A) (hB : WB w tag kb i (.slice (some ⟨ob, oo, none⟩) on oc) (.slice dp j dc)) (c3 : w.cell? ⟨kb, 3, none⟩ = some (.pointer none)) (hj : j < on) (o0 : w.cell? ⟨ob, oo + j * 2, none⟩ = some (.int .i64 k)) (o1 : w.cell? ⟨ob, oo + j * 2 + 1, none⟩ = some (.int .i64 x)) (hto : tag ob = 0) (hA : AbOk A n c) :
    Calls Try.prog 43 #[.pointer (some ⟨kb, 0, none⟩), .pointer (some ⟨wp, 0, none⟩)] w fun e w' => e = .returned (.bool (doneA A (i : Int) k x .no)) ∧ StepQ w tag wp L po A kb i (.slice (some ⟨ob, oo, none⟩) on oc) (.slice dp j dc) k x .no w' := by
  have hl : loopK k = false := by unfold loopK; rw [decide_eq_false k2, decide_eq_false k3, decide_eq_false k5]; rfl
  have hne : ob ≠ kb := fun e => by rw [e, hB.t] at hto; omega
  have lk := hB.lt
  have hd : doneA A (i : Int) k x .no = true := by unfold doneA; rw [hl]; rfl
  refine step_one kb wp 107 ob oo on oc j dc dp i k x w (doneA A (i : Int) k x .no) (fun w' => StepQ w tag wp L po A kb i (.slice (some ⟨ob, oo, none⟩) on oc) (.slice dp j dc) k x .no w') (fun V w1 ca => ∃ n, V.heap.size ≤ n ∧ ca = #[.pointer (some ⟨n, 0, none⟩)] ∧ w1.cell? ⟨n, 0, none⟩ = some (.func (.func 85) #[] #[]) ∧ Below V.heap.size V w1) ent107 hB.h8 hB.c0 hB.c1 hB.c2 c3 hj o0 o1 hne ?_ ?_
  · intro V hV
    refine (op_X wp kb 5 L i x V (LWf hI hB.t hV) k hk k1 k2 k3 k4 k5).mono ?_
    rintro e w1 ⟨n, hn, rfl, ho, hb⟩
    exact ⟨_, rfl, .of hb (Vk lk hV).1, n, hn, rfl, ho, hb⟩
  · rintro V w1 ca tb Y hV hx ⟨n, hn, rfl, ho, hb⟩ hY
    have h5 := cell_stay (V5 hB.h8 hV) (hb.block kb (Vk lk hV).1)
    have ok := hY.ok hB.h8 hB.f hV hx ⟨_, h5⟩
    have kv := Vk lk hV
    have lo := World.block_lt_of_cell? w1 _ ho
    simp only at lo
    have hO := cell_stay ho (hY.box kv.1 (by omega) lo)
    refine (one_1 85 n _ Y _ hO (ent85 _) (nop_c Y)).mono ?_
    rintro e w' ⟨rfl, rfl⟩
    have E := StepE.look (3 + i) hI hB (ok.t.imp (fun k _ e => by rw [e]; exact hB.t)) ok.h8 ok.f ok.old
    have eS : doS A (i : Int) k x = A := by unfold doS; rw [if_neg k1, if_neg k2, if_neg k3, if_neg k4, if_neg k5]
    have eA : doA A (i : Int) k x = (0, false) := by unfold doA; rw [if_neg k1, if_neg k2, if_neg k3, if_neg k4, if_neg k5]
    refine ⟨by rw [hd], tg tag w.heap.size (3 + i), po, .inl ⟨hd, by rw [eS]; exact E, ?_, ?_, ok.z⟩⟩
    · rw [eA]; exact (hY.oth 5 (by decide) (by decide)).trans h5
    · rw [eA]; exact ok.y
end Go.Proofs.Ytimabgakemgldaa
