import Derived.Test.YtimabgakemgldaaT38
import Derived.Laws.LoneSync
import Derived.WalkKit
import Derived.StillTailTactics
import Derived.Deep.RegionLaw
import Derived.Deep.RegionHeld3
import Derived.Laws.OwnMore
import Derived.Deep.Matrix
import Derived.BigQuiet
import Derived.Deep.QuietTactic
import Derived.Laws.EntriesVeiled
namespace Go.Proofs.Ytimabgakemgldaa
open Go.ChangeShapes Go.WideShapes Go.ChangeAt Go.RowKit Go.Deep
set_option linter.unusedSimpArgs false
set_option linter.unusedVariables false

theorem idle_doS {A : Ab} {who k x : Int} (hl : loopK k = true) (hi : idleA A who k x = true) : doS A who k x = A := by
  unfold loopK at hl
  simp only [Bool.or_eq_true, decide_eq_true_eq] at hl
  unfold idleA at hi
  rcases hl with rfl | rfl | rfl
  · simp at hi
    show { A with mark := max A.mark x } = A
    rw [Int.max_eq_left hi]
  · simp at hi
    show { A with bs := offerO A.bs who x } = A
    unfold offerO; rw [if_pos hi]
  · simp at hi
    show { A with tk := takeN A.tt A.tk } = A
    unfold takeN; rw [if_neg (by omega)]
theorem StepE.look {w w' : World} {tag : Nat → Nat} {wp : Nat} {L : Nat → Nat} {po : Option Addr} {A : Ab} {kb i : Nat} {ov dv : Value} (v : Nat) (hI : WI w tag wp L po A) (hB : WB w tag kb i ov dv) (hT : Tch (fun k => tag k = 3 + i) w w') (h8 : Has8 w' kb) (hf : ∀ o, w'.frozen? ⟨kb, o, none⟩ = false) (old : ∀ p, p < 3 → w'.cell? ⟨kb, p, none⟩ = w.cell? ⟨kb, p, none⟩) :
    StepE w w' tag (tg tag w.heap.size v) wp L po po A A kb i ov dv :=
  ⟨fun b hb => tg_lt hb, hT.imp (fun k _ e => .inr e), hI.stay hT (fun b hb => tg_lt hb), ⟨h8, hf, (old 0 (by decide)).trans hB.c0, (old 1 (by decide)).trans hB.c1, (old 2 (by decide)).trans hB.c2, (tg_lt hB.lt).trans hB.t⟩, .inl ⟨rfl, rfl⟩⟩
theorem UB.mk' {w w' Y V w1 : World} {tag : Nat → Nat} {kb i tb fa fb : Nat} {ca cb : Array Value} (hk : kb < w.heap.size) (hY : FrY kb w V w1 tb fa ca (.func (.func fb) #[] cb) Y) (ok : YOk w kb tb Y) (h1 : ∀ p, 3 ≤ p → p ≠ 5 → w'.cell? ⟨kb, p, none⟩ = Y.cell? ⟨kb, p, none⟩) (h2 : w'.heap[tb]? = Y.heap[tb]?) :
    UB w' (tg tag w.heap.size (3 + i)) kb i tb fa fb ca cb :=
  ⟨tg_ge hY.lo, by have := hY.lo; omega, (h1 3 (by decide) (by decide)).trans hY.c3, (h1 4 (by decide) (by decide)).trans hY.c4, cell_stay hY.p0 h2, cell_stay hY.p1 h2, (h1 6 (by decide) (by decide)).trans ok.y, (h1 7 (by decide) (by decide)).trans ok.z⟩
theorem Bx.mk' {tag : Nat → Nat} {B kb i b : Nat} (hk : kb < B) (hb : B ≤ b) : Bx (tg tag B (3 + i)) kb i b := ⟨tg_ge hb, by omega⟩
theorem done_no {A : Ab} {who k x : Int} (hl : loopK k = true) : doneA A who k x .no = idleA A who k x := by unfold doneA; rw [hl]; cases idleA A who k x <;> rfl
theorem LWf {w V : World} {tag : Nat → Nat} {wp : Nat} {L : Nat → Nat} {po : Option Addr} {A : Ab} {kb i : Nat} (hI : WI w tag wp L po A) (ht : tag kb = 3 + i) (hV : Below w.heap.size (fresh w kb) V) : LW V wp L :=
  hI.l.stays ((hV.block wp hI.l.lt).trans (fresh_ob (Ne.symm (hI.nw ht))))
theorem V5 {w V : World} {kb : Nat} (h8 : Has8 w kb) (hV : Below w.heap.size (fresh w kb) V) : V.cell? ⟨kb, 5, none⟩ = some (.int .i64 0) :=
  cell_stay ((cell_ne (by decide)).trans ((cell_ne (by decide)).trans (World.cell?_setCell_same' _ _ _ (h8 5 (by decide)).1))) (hV.block kb h8.lt)
theorem Vk {w V : World} {kb : Nat} (hk : kb < w.heap.size) (hV : Below w.heap.size (fresh w kb) V) : kb < V.heap.size ∧ w.heap.size ≤ V.heap.size := by
  have := hV.size; rw [fresh_size] at this; omega

theorem fresh_2 (kb wp ob oo on oc j dc i n : Nat) (dp : Option Addr) (tag : Nat → Nat) (L : Nat → Nat) (po : Option Addr) (A : Ab) (x c : Int) (w : World) (hI : WI w tag wp L po A) (hB : WB w tag kb i (.slice (some ⟨ob, oo, none⟩) on oc) (.slice dp j dc)) (c3 : w.cell? ⟨kb, 3, none⟩ = some (.pointer none)) (hj : j < on) (o0 : w.cell? ⟨ob, oo + j * 2, none⟩ = some (.int .i64 2)) (o1 : w.cell? ⟨ob, oo + j * 2 + 1, none⟩ = some (.int .i64 x)) (hto : tag ob = 0) (hA : AbOk A n c) :
    Calls Try.prog 43 #[.pointer (some ⟨kb, 0, none⟩), .pointer (some ⟨wp, 0, none⟩)] w fun e w' => e = .returned (.bool (doneA A (i : Int) 2 x .no)) ∧ StepQ w tag wp L po A kb i (.slice (some ⟨ob, oo, none⟩) on oc) (.slice dp j dc) 2 x .no w' := by
  have hne : ob ≠ kb := fun e => by rw [e, hB.t] at hto; omega
  have lk := hB.lt
  refine step_two kb wp 91 92 ob oo on oc j dc dp i 2 x w (doneA A (i : Int) 2 x .no) (fun w' => StepQ w tag wp L po A kb i (.slice (some ⟨ob, oo, none⟩) on oc) (.slice dp j dc) 2 x .no w') (fun V w1 ca cb => ∃ n, V.heap.size ≤ n ∧ ca = #[.pointer (some ⟨n, 0, none⟩), .pointer (some ⟨n + 2, 0, none⟩), .pointer (some ⟨n + 1, 0, none⟩)] ∧ cb = #[.pointer (some ⟨n, 0, none⟩), .pointer (some ⟨n + 2, 0, none⟩), .pointer (some ⟨n + 1, 0, none⟩)] ∧ RaiseT w1 n (n + 2) (n + 1) (L 0) kb 5 x ∧ Below V.heap.size V w1) ent91 hB.h8 hB.c0 hB.c1 hB.c2 c3 hj o0 o1 hne ?_ ?_
  · intro V hV
    refine (op_2 wp kb 5 L i x V (LWf hI hB.t hV)).mono ?_
    rintro e w1 ⟨n, hn, rfl, hT, hb⟩
    exact ⟨_, _, rfl, .of hb (Vk lk hV).1, n, hn, rfl, rfl, hT, hb⟩
  · rintro V w1 ca cb tb Y hV hx ⟨n, hn, rfl, rfl, hT, hb⟩ hY
    have h5 := cell_stay (V5 hB.h8 hV) (hb.block kb (Vk lk hV).1)
    have ok := hY.ok hB.h8 hB.f hV hx ⟨_, h5⟩
    have kv := Vk lk hV
    have lm := World.block_lt_of_cell? w1 _ hT.m
    have la := World.block_lt_of_cell? w1 _ hT.a
    have lx := World.block_lt_of_cell? w1 _ hT.x
    simp only at lm la lx
    have bm := hY.box kv.1 hn lm
    have ba := hY.box kv.1 (show V.heap.size ≤ n + 2 by omega) la
    have b1 := hY.box kv.1 (show V.heap.size ≤ n + 1 by omega) lx
    have IY := hI.stay (tag' := tag) (ok.t.imp (fun k _ e => by rw [e]; exact hB.t)) (fun _ _ => rfl)
    have TY := hT.stays bm ba b1
    refine (raise_look n (n + 2) (n + 1) (L 0) (L 1) kb 5 x A.mark Y TY IY.c.mark (ok.h8 5 (by decide)).1 (ok.f 5) (by omega) (by omega) (by omega)).mono ?_
    rintro e w' ⟨rfl, hw⟩
    have zY := ok.t.size
    have hT' : Tch (fun k => tag k = 3 + i) w w' := (ok.t.imp (fun k _ e => by rw [e]; exact hB.t)).wr hw (.inl hB.t)
    have old : ∀ p, p < 3 → w'.cell? ⟨kb, p, none⟩ = w.cell? ⟨kb, p, none⟩ := fun p hp => (hw.oth p (by omega)).trans (ok.old p hp)
    have E := StepE.look (3 + i) hI hB hT' (ok.h8.wr hw) (fun o => (hw.fro o).trans (ok.f o)) old
    refine ⟨by rw [done_no rfl]; rfl, tg tag w.heap.size (3 + i), po, ?_⟩
    by_cases hx : x ≤ A.mark
    · refine .inl ⟨by rw [done_no rfl]; exact decide_eq_true hx, by rw [idle_doS (A := A) (who := (i : Int)) (k := 2) (x := x) rfl (show idleA A (i : Int) 2 x = true from decide_eq_true hx)]; exact E, hw.at_, ?_, (hw.oth 7 (by decide)).trans ok.z⟩
      rw [(hw.oth 6 (by decide)).trans ok.y]
      show _ = some (Value.bool (decide (A.mark < x)))
      rw [decide_eq_false (by omega)]
    · refine .inr ⟨by rw [done_no rfl]; exact decide_eq_false hx, E, .inl ⟨rfl, tb, n, n + 2, n + 1, UB.mk' lk hY ok (fun p _ hp => hw.oth p hp) (hw.heap tb (by have := hY.lo; omega)), TY.stays (hw.heap _ (by omega)) (hw.heap _ (by omega)) (hw.heap _ (by omega)), hw.at_, Bx.mk' lk (by omega), Bx.mk' lk (by omega), Bx.mk' lk (by omega)⟩⟩

theorem fresh_5 (kb wp ob oo on oc j dc i n : Nat) (dp : Option Addr) (tag : Nat → Nat) (L : Nat → Nat) (po : Option Addr) (A : Ab) (x c : Int) (w : World) (hI : WI w tag wp L po A) (hB : WB w tag kb i (.slice (some ⟨ob, oo, none⟩) on oc) (.slice dp j dc)) (c3 : w.cell? ⟨kb, 3, none⟩ = some (.pointer none)) (hj : j < on) (o0 : w.cell? ⟨ob, oo + j * 2, none⟩ = some (.int .i64 5)) (o1 : w.cell? ⟨ob, oo + j * 2 + 1, none⟩ = some (.int .i64 x)) (hto : tag ob = 0) (hA : AbOk A n c) :
    Calls Try.prog 43 #[.pointer (some ⟨kb, 0, none⟩), .pointer (some ⟨wp, 0, none⟩)] w fun e w' => e = .returned (.bool (doneA A (i : Int) 5 x .no)) ∧ StepQ w tag wp L po A kb i (.slice (some ⟨ob, oo, none⟩) on oc) (.slice dp j dc) 5 x .no w' := by
  have hne : ob ≠ kb := fun e => by rw [e, hB.t] at hto; omega
  have lk := hB.lt
  refine step_two kb wp 94 95 ob oo on oc j dc dp i 5 x w (doneA A (i : Int) 5 x .no) (fun w' => StepQ w tag wp L po A kb i (.slice (some ⟨ob, oo, none⟩) on oc) (.slice dp j dc) 5 x .no w') (fun V w1 ca cb => ∃ n, V.heap.size ≤ n ∧ ca = #[.pointer (some ⟨n, 0, none⟩), .pointer (some ⟨n + 3, 0, none⟩)] ∧ cb = #[.pointer (some ⟨n, 0, none⟩), .pointer (some ⟨n + 3, 0, none⟩), .pointer (some ⟨n + 1, 0, none⟩)] ∧ TakeT w1 n (n + 3) (n + 1) (L 7) kb 5 0 ∧ Below V.heap.size V w1) ent94 hB.h8 hB.c0 hB.c1 hB.c2 c3 hj o0 o1 hne ?_ ?_
  · intro V hV
    refine (op_5 wp kb 5 L i x V (LWf hI hB.t hV)).mono ?_
    rintro e w1 ⟨n, hn, rfl, hT, hb⟩
    exact ⟨_, _, rfl, .of hb (Vk lk hV).1, n, hn, rfl, rfl, hT, hb⟩
  · rintro V w1 ca cb tb Y hV hx ⟨n, hn, rfl, rfl, hT, hb⟩ hY
    have h5 := cell_stay (V5 hB.h8 hV) (hb.block kb (Vk lk hV).1)
    have ok := hY.ok hB.h8 hB.f hV hx ⟨_, h5⟩
    have kv := Vk lk hV
    have lm := World.block_lt_of_cell? w1 _ hT.t
    have la := World.block_lt_of_cell? w1 _ hT.s
    have lx := World.block_lt_of_cell? w1 _ hT.a
    simp only at lm la lx
    have bm := hY.box kv.1 hn lm
    have ba := hY.box kv.1 (show V.heap.size ≤ n + 3 by omega) la
    have b1 := hY.box kv.1 (show V.heap.size ≤ n + 1 by omega) lx
    have IY := hI.stay (tag' := tag) (ok.t.imp (fun k _ e => by rw [e]; exact hB.t)) (fun _ _ => rfl)
    have TY := hT.stays bm ba b1
    have l7 := hI.c.lt 7 (by decide)
    refine (take_look n (n + 3) (n + 1) (L 7) (L 8) kb 5 0 A.tt A.tk Y TY IY.c.tick (by omega) (by omega)).mono ?_
    rintro e w' ⟨rfl, hw⟩
    have zY := ok.t.size
    have hT' : Tch (fun k => tag k = 3 + i) w w' := (ok.t.imp (fun k _ e => by rw [e]; exact hB.t)).wr hw (.inr (by omega))
    have kk := hw.heap kb (by omega)
    have old : ∀ p, p < 3 → w'.cell? ⟨kb, p, none⟩ = w.cell? ⟨kb, p, none⟩ := fun p hp => (World.cell?_of_block (a := ⟨kb, p, none⟩) kk).trans (ok.old p hp)
    have E := StepE.look (3 + i) hI hB hT' (ok.h8.wr hw) (fun o => fro_stay (ok.f o) kk) old
    have a5 : w'.cell? ⟨kb, 5, none⟩ = some (.int .i64 0) := cell_stay ((hY.oth 5 (by decide) (by decide)).trans h5) kk
    refine ⟨by rw [done_no rfl]; rfl, tg tag w.heap.size (3 + i), po, ?_⟩
    by_cases hx : A.tt ≤ A.tk
    · refine .inl ⟨by rw [done_no rfl]; exact decide_eq_true hx, by rw [idle_doS (A := A) (who := (i : Int)) (k := 5) (x := x) rfl (show idleA A (i : Int) 5 x = true from decide_eq_true hx)]; exact E, ?_, ?_, cell_stay ok.z kk⟩
      · rw [a5]
        show _ = some (Value.int .i64 (takeA A.tt A.tk))
        unfold takeA; rw [if_neg (by omega)]
      · rw [cell_stay ok.y kk]
        show _ = some (Value.bool (decide (A.tk < A.tt)))
        rw [decide_eq_false (by omega)]
    · have hlo := hY.lo
      have hap := hY.ap
      refine .inr ⟨by rw [done_no rfl]; exact decide_eq_false hx, E, .inr ⟨rfl, tb, n, n + 3, n + 1, UB.mk' lk hY ok (fun p _ _ => World.cell?_of_block (a := ⟨kb, p, none⟩) kk) (hw.heap tb (by omega)), ⟨cell_stay TY.t (hw.heap _ (by omega)), hw.at_, (hw.fro 0).trans TY.sf, cell_stay TY.a (hw.heap _ (by omega))⟩, a5, Bx.mk' lk (by omega), Bx.mk' lk (by omega), Bx.mk' lk (by omega), by omega, by omega⟩⟩

theorem fresh_3 (kb wp ob oo on oc j dc i n : Nat) (dp : Option Addr) (tag : Nat → Nat) (L : Nat → Nat) (po : Option Addr) (A : Ab) (x c : Int) (w : World) (hI : WI w tag wp L po A) (hB : WB w tag kb i (.slice (some ⟨ob, oo, none⟩) on oc) (.slice dp j dc)) (c3 : w.cell? ⟨kb, 3, none⟩ = some (.pointer none)) (hj : j < on) (o0 : w.cell? ⟨ob, oo + j * 2, none⟩ = some (.int .i64 3)) (o1 : w.cell? ⟨ob, oo + j * 2 + 1, none⟩ = some (.int .i64 x)) (hto : tag ob = 0) (hA : AbOk A n c) :
    Calls Try.prog 43 #[.pointer (some ⟨kb, 0, none⟩), .pointer (some ⟨wp, 0, none⟩)] w fun e w' => e = .returned (.bool (doneA A (i : Int) 3 x .no)) ∧ StepQ w tag wp L po A kb i (.slice (some ⟨ob, oo, none⟩) on oc) (.slice dp j dc) 3 x .no w' := by
  have hne : ob ≠ kb := fun e => by rw [e, hB.t] at hto; omega
  have lk := hB.lt
  refine step_two kb wp 96 97 ob oo on oc j dc dp i 3 x w (doneA A (i : Int) 3 x .no) (fun w' => StepQ w tag wp L po A kb i (.slice (some ⟨ob, oo, none⟩) on oc) (.slice dp j dc) 3 x .no w') (fun V w1 ca cb => ∃ n, V.heap.size ≤ n ∧ ca = #[.pointer (some ⟨n, 0, none⟩), .pointer (some ⟨n + 5, 0, none⟩), .pointer (some ⟨n + 2, 0, none⟩), .pointer (some ⟨n + 1, 0, none⟩)] ∧ cb = #[.pointer (some ⟨n, 0, none⟩), .pointer (some ⟨n + 5, 0, none⟩), .pointer (some ⟨n + 1, 0, none⟩), .pointer (some ⟨n + 2, 0, none⟩), .pointer (some ⟨n + 3, 0, none⟩)] ∧ OfferT w1 n (n + 5) (n + 1) (n + 2) (n + 3) (L 2) kb 5 none i x ∧ WrN V kb 5 (.int .i64 x) w1) ent96 hB.h8 hB.c0 hB.c1 hB.c2 c3 hj o0 o1 hne ?_ ?_
  · intro V hV
    have v5 := V5 hB.h8 hV
    have kf : V.frozen? ⟨kb, 5, none⟩ = false := fro_stay ((World.frozen?_setCell _ _ _ _).trans ((World.frozen?_setCell _ _ _ _).trans ((World.frozen?_setCell _ _ _ _).trans (hB.f 5)))) (hV.block kb lk)
    refine (op_3 wp kb 5 L i x V (LWf hI hB.t hV) (by rw [v5]; rfl) kf).mono ?_
    rintro e w1 ⟨n, hn, rfl, hT, hb⟩
    exact ⟨_, _, rfl, .wr hb, n, hn, rfl, rfl, hT, hb⟩
  · rintro V w1 ca cb tb Y hV hx ⟨n, hn, rfl, rfl, hT, hb⟩ hY
    have h5 := hb.at_
    have ok := hY.ok hB.h8 hB.f hV hx ⟨_, h5⟩
    have kv := Vk lk hV
    have lb := World.block_lt_of_cell? w1 _ hT.b
    have ls := World.block_lt_of_cell? w1 _ hT.s
    have lw := World.block_lt_of_cell? w1 _ hT.wh
    have lx := World.block_lt_of_cell? w1 _ hT.x
    have la := World.block_lt_of_cell? w1 _ hT.a
    simp only at lb ls lw lx la
    have bb := hY.box kv.1 hn lb
    have bs := hY.box kv.1 (show V.heap.size ≤ n + 5 by omega) ls
    have bw := hY.box kv.1 (show V.heap.size ≤ n + 1 by omega) lw
    have b1 := hY.box kv.1 (show V.heap.size ≤ n + 2 by omega) lx
    have ba := hY.box kv.1 (show V.heap.size ≤ n + 3 by omega) la
    have IY := hI.stay (tag' := tag) (ok.t.imp (fun k _ e => by rw [e]; exact hB.t)) (fun _ _ => rfl)
    have TY := hT.stays bb bs bw b1 ba
    have lp : ∀ k, po = some ⟨k, 0, none⟩ → k < w.heap.size := fun k e => hI.c.best.o.lt e
    refine (offer_look n (n + 5) (n + 1) (n + 2) (n + 3) (L 2) (L 3) kb 5 none po A.bs i x Y TY IY.c.best (by omega) (by omega) (fun k e => by have := lp k e; omega)).mono ?_
    rintro e w' ⟨rfl, hw⟩
    have zY := ok.t.size
    have hT' : Tch (fun k => tag k = 3 + i) w w' := (ok.t.imp (fun k _ e => by rw [e]; exact hB.t)).wr hw (.inr (by omega))
    have kk := hw.heap kb (by omega)
    have old : ∀ p, p < 3 → w'.cell? ⟨kb, p, none⟩ = w.cell? ⟨kb, p, none⟩ := fun p hp => (World.cell?_of_block (a := ⟨kb, p, none⟩) kk).trans (ok.old p hp)
    have E := StepE.look (3 + i) hI hB hT' (ok.h8.wr hw) (fun o => fro_stay (ok.f o) kk) old
    have a5 : w'.cell? ⟨kb, 5, none⟩ = some (.int .i64 x) := cell_stay ((hY.oth 5 (by decide) (by decide)).trans h5) kk
    refine ⟨by rw [done_no rfl]; rfl, tg tag w.heap.size (3 + i), po, ?_⟩
    cases hx : idleB A.bs i x with
    | true =>
      refine .inl ⟨by rw [done_no rfl]; exact hx, by rw [idle_doS (A := A) (who := (i : Int)) (k := 3) (x := x) rfl (show idleA A (i : Int) 3 x = true from hx)]; exact E, a5, ?_, cell_stay ok.z kk⟩
      rw [cell_stay ok.y kk]
      show _ = some (Value.bool (!(idleB A.bs i x)))
      rw [hx]; rfl
    | false =>
      have hlo := hY.lo
      have hap := hY.ap
      refine .inr ⟨by rw [done_no rfl]; exact hx, E, rfl, tb, n, n + 5, n + 1, n + 2, n + 3, po, UB.mk' lk hY ok (fun p _ _ => World.cell?_of_block (a := ⟨kb, p, none⟩) kk) (hw.heap tb (by omega)), ⟨cell_stay TY.b (hw.heap _ (by omega)), hw.at_, (hw.fro 0).trans TY.sf, cell_stay TY.wh (hw.heap _ (by omega)), cell_stay TY.x (hw.heap _ (by omega)), cell_stay TY.a (hw.heap _ (by omega))⟩, a5, Bx.mk' lk (by omega), Bx.mk' lk (by omega), Bx.mk' lk (by omega), Bx.mk' lk (by omega), Bx.mk' lk (by omega), ⟨by omega, by omega, by omega, by omega⟩, E.I.c.best.o, fun k e => E.I.tp k e, .inl ⟨rfl, rfl⟩⟩
end Go.Proofs.Ytimabgakemgldaa
