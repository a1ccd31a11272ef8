import Derived.Test.YtimabgakemgldaaT36
import Derived.Test.YtimabgakemgldaaT23
import Derived.Laws.LoneSync
import Derived.WalkKit
import Derived.StillTailTactics
import Derived.Deep.RegionLaw
import Derived.Deep.RegionHeld3
import Derived.Laws.OwnMore
import Derived.Deep.Matrix
import Derived.BigQuiet
import Derived.Deep.QuietTactic
import Derived.Laws.EntriesVeiled
namespace Go.Proofs.Ytimabgakemgldaa
open Go.ChangeShapes Go.WideShapes Go.ChangeAt Go.RowKit Go.Deep
set_option linter.unusedSimpArgs false
set_option linter.unusedVariables false

/-- a call that may have written the answer's number and made blocks -/
structure Nx (kb : Nat) (V w1 : World) : Prop where
  os : w1.os = V.os
  tape : w1.tape = V.tape
  output : w1.output = V.output
  size : V.heap.size ≤ w1.heap.size
  heap : ∀ k, k < V.heap.size → k ≠ kb → w1.heap[k]? = V.heap[k]?
  oth : ∀ p, p ≠ 5 → w1.cell? ⟨kb, p, none⟩ = V.cell? ⟨kb, p, none⟩
  fro : ∀ p, w1.frozen? ⟨kb, p, none⟩ = V.frozen? ⟨kb, p, none⟩
theorem Nx.of {kb : Nat} {V w1 : World} (h : Below V.heap.size V w1) (hk : kb < V.heap.size) : Nx kb V w1 := ⟨h.os, h.tape, h.output, h.size, fun k hk2 _ => h.block k hk2, fun p _ => World.cell?_of_block (a := ⟨kb, p, none⟩) (h.block kb hk), fun p => World.frozen?_of_block (a := ⟨kb, p, none⟩) (h.block kb hk)⟩
theorem Nx.wr {kb : Nat} {V w1 : World} {u : Value} (h : WrN V kb 5 u w1) : Nx kb V w1 := ⟨h.os, h.tape, h.output, h.size, h.heap, h.oth, h.fro⟩
/-- the walker's answer, set to nothing -/
def fresh (w : World) (kb : Nat) : World := ((w.setCell ⟨kb, 5, none⟩ (.int .i64 0)).setCell ⟨kb, 6, none⟩ (.bool false)).setCell ⟨kb, 7, none⟩ (.int .i64 0)
theorem c_al {w : World} {b p : Nat} {v : Value} (h : w.cell? ⟨b, p, none⟩ = some v) (o : Obj) : (w.alloc o).cell? ⟨b, p, none⟩ = some v := cell_stay h (((Below.refl _ _).alloc (Nat.le_refl _) o).block b (World.block_lt_of_cell? w _ h))
theorem c_dr {w : World} {b p : Nat} {v : Value} (h : w.cell? ⟨b, p, none⟩ = some v) : w.drew.cell? ⟨b, p, none⟩ = some v := h
theorem c_drN {w : World} {b p : Nat} {v : Value} (h : w.cell? ⟨b, p, none⟩ = some v) (n : Nat) : (w.drewN n).cell? ⟨b, p, none⟩ = some v := h
theorem fr2 {W V w1 : World} {kb : Nat} (hk : kb < W.heap.size) (h : Nx kb V w1) (e : V.heap = (W.alloc (.cells #[.nilFunc, .nilFunc] 143)).heap) : w1.cell? ⟨W.heap.size, 0, none⟩ = some .nilFunc ∧ w1.cell? ⟨W.heap.size, 1, none⟩ = some .nilFunc ∧ w1.frozen? ⟨W.heap.size, 0, none⟩ = false ∧ w1.frozen? ⟨W.heap.size, 1, none⟩ = false := by
  have b : w1.heap[W.heap.size]? = (W.alloc (.cells #[.nilFunc, .nilFunc] 143)).heap[W.heap.size]? := by
    rw [← e]; exact h.heap _ (by rw [e]; simp) (by omega)
  exact ⟨(World.cell?_of_block (a := ⟨W.heap.size, 0, none⟩) b).trans (by simp [go_sem]), (World.cell?_of_block (a := ⟨W.heap.size, 1, none⟩) b).trans (by simp [go_sem]), (World.frozen?_of_block (a := ⟨W.heap.size, 0, none⟩) b).trans (by simp [go_sem]), (World.frozen?_of_block (a := ⟨W.heap.size, 1, none⟩) b).trans (by simp [go_sem])⟩
/-- the world of the call -/
def OpV (kb : Nat) (W w1 : World) (G : World → Prop) (b : Bool) : Prop := ∃ V, Below W.heap.size W V ∧ Nx kb V w1 ∧ G V ∧ (b = true → W.heap.size < V.heap.size)
theorem OpV.a {kb : Nat} {W V w1 : World} {G : World → Prop} (h : Nx kb V w1) (g : Below W.heap.size W V ∧ G V) : OpV kb W w1 G false := ⟨V, g.1, h, g.2, nofun⟩
theorem OpV.b {kb : Nat} {W V w1 : World} {G : World → Prop} (h : Nx kb V w1) (g : Below W.heap.size W V ∧ G V) (e : V.heap = (W.alloc (.cells #[.nilFunc, .nilFunc] 143)).heap) : OpV kb W w1 G true := ⟨V, g.1, h, g.2, fun _ => by rw [e]; simp⟩
/-- the turn's box is laid, the walker is under way -/
structure FrY (kb : Nat) (W V w1 : World) (tb fa : Nat) (ca : Array Value) (gb : Value) (Y : World) : Prop where
  os : Y.os = w1.os
  tape : Y.tape = w1.tape
  output : Y.output = w1.output
  size : w1.heap.size ≤ Y.heap.size
  heap : ∀ k, k < w1.heap.size → k ≠ kb → k ≠ tb → Y.heap[k]? = w1.heap[k]?
  oth : ∀ p, p ≠ 3 → p ≠ 4 → Y.cell? ⟨kb, p, none⟩ = w1.cell? ⟨kb, p, none⟩
  fro : ∀ p, Y.frozen? ⟨kb, p, none⟩ = w1.frozen? ⟨kb, p, none⟩
  c3 : Y.cell? ⟨kb, 3, none⟩ = some (.pointer (some ⟨tb, 0, none⟩))
  c4 : Y.cell? ⟨kb, 4, none⟩ = some (.bool true)
  p0 : Y.cell? ⟨tb, 0, none⟩ = some (.func (.func fa) #[] ca)
  p1 : Y.cell? ⟨tb, 1, none⟩ = some gb
  lo : W.heap.size ≤ tb
  hi : tb < Y.heap.size
  ap : tb < V.heap.size ∨ w1.heap.size ≤ tb
theorem FrY.made {kb : Nat} {W V w1 X : World} {tb fa : Nat} {ca : Array Value} {gb : Value} (ho : X.os = w1.os) (ht : X.tape = w1.tape) (hp : X.output = w1.output) (hs : w1.heap.size ≤ X.heap.size) (hh : ∀ k, k < w1.heap.size → k ≠ tb → X.heap[k]? = w1.heap[k]?) (p0 : X.cell? ⟨tb, 0, none⟩ = some (.func (.func fa) #[] ca)) (p1 : X.cell? ⟨tb, 1, none⟩ = some gb)
    (lo : W.heap.size ≤ tb) (ap : tb < V.heap.size ∨ w1.heap.size ≤ tb) (hk : kb < W.heap.size) (hk1 : kb < w1.heap.size) (i3 : (X.cell? ⟨kb, 3, none⟩).isSome = true) (i4 : (X.cell? ⟨kb, 4, none⟩).isSome = true) :
    FrY kb W V w1 tb fa ca gb (((X.setCell ⟨kb, 3, none⟩ (.pointer (some ⟨tb, 0, none⟩))).setCell ⟨kb, 4, none⟩ (.bool false)).setCell ⟨kb, 4, none⟩ (.bool true)) := by
  have lt : tb < X.heap.size := World.block_lt_of_cell? X _ p0
  have nt : tb ≠ kb := by omega
  obtain ⟨v4, h4⟩ := Option.isSome_iff_exists.1 i4
  have hkb : ∀ k, k ≠ kb → (((X.setCell ⟨kb, 3, none⟩ (.pointer (some ⟨tb, 0, none⟩))).setCell ⟨kb, 4, none⟩ (.bool false)).setCell ⟨kb, 4, none⟩ (.bool true)).heap[k]? = X.heap[k]? := fun k hk2 =>
    (heap_setCell_other _ _ _ _ hk2).trans ((heap_setCell_other _ _ _ _ hk2).trans (heap_setCell_other _ _ _ _ hk2))
  have b0 := hh kb hk1 (Ne.symm nt)
  refine ⟨ho, ht, hp, by rw [World.size_setCell, World.size_setCell, World.size_setCell]; exact hs, fun k h1 h2 h3 => (hkb k h2).trans (hh k h1 h3), fun p h3 h4 => (cell_ne h4).trans ((cell_ne h4).trans ((cell_ne h3).trans (World.cell?_of_block (a := ⟨kb, p, none⟩) b0))), fun p => (World.frozen?_setCell _ _ _ _).trans ((World.frozen?_setCell _ _ _ _).trans ((World.frozen?_setCell _ _ _ _).trans (World.frozen?_of_block (a := ⟨kb, p, none⟩) b0))), (cell_ne (by decide)).trans ((cell_ne (by decide)).trans (World.cell?_setCell_same' _ _ _ i3)), World.cell?_setCell_same' _ _ _ ?_, cell_stay p0 (hkb tb nt), cell_stay p1 (hkb tb nt), lo, by rw [World.size_setCell, World.size_setCell, World.size_setCell]; exact lt, ap⟩
  have e4 : (X.setCell ⟨kb, 3, none⟩ (.pointer (some ⟨tb, 0, none⟩))).cell? ⟨kb, 4, none⟩ = some v4 := (cell_ne (by decide)).trans h4
  rw [World.cell?_setCell_same' _ _ _ (by rw [e4]; rfl)]; rfl

set_option maxRecDepth 100000 in
set_option maxHeartbeats 4000000 in
theorem step_two (kb wp fa fb ob oo on oc j dc : Nat) (dp : Option Addr) (i k x : Int) (w : World) (b : Bool) (Q : World → Prop) (G : World → World → Array Value → Array Value → Prop) (ea : ∀ ca w, (callFunc fa ca).run Try.prog w = .ok (.enter fa ca) w)
    (h8 : Has8 w kb) (c0 : w.cell? ⟨kb, 0, none⟩ = some (.int .i64 i)) (c1 : w.cell? ⟨kb, 1, none⟩ = some (.slice (some ⟨ob, oo, none⟩) on oc)) (c2 : w.cell? ⟨kb, 2, none⟩ = some (.slice dp j dc)) (c3 : w.cell? ⟨kb, 3, none⟩ = some (.pointer none)) (hj : j < on) (o0 : w.cell? ⟨ob, oo + j * 2, none⟩ = some (.int .i64 k)) (o1 : w.cell? ⟨ob, oo + j * 2 + 1, none⟩ = some (.int .i64 x)) (hne : ob ≠ kb)
    (hop : ∀ V, Below w.heap.size (fresh w kb) V → Calls Try.prog 49 #[.pointer (some ⟨wp, 0, none⟩), .int .i64 i, .agg #[.int .i64 k, .int .i64 x], .pointer (some ⟨kb, 5, none⟩)] V fun e w1 => ∃ ca cb, e = .returned (.agg #[.func (.func fa) #[] ca, .func (.func fb) #[] cb]) ∧ Nx kb V w1 ∧ G V w1 ca cb)
    (hlk : ∀ V w1 ca cb tb Y, Below w.heap.size (fresh w kb) V → Nx kb V w1 → G V w1 ca cb → FrY kb w V w1 tb fa ca (.func (.func fb) #[] cb) Y → Calls Try.prog fa ca Y fun e w' => e = .returned (.bool b) ∧ Q w') :
    Calls Try.prog 43 #[.pointer (some ⟨kb, 0, none⟩), .pointer (some ⟨wp, 0, none⟩)] w fun e w' => e = .returned (.bool b) ∧ Q w' := by
  have HO := hide hop
  have HL := hide hlk
  have lk := World.block_lt_of_cell? w _ c0
  have lo := World.block_lt_of_cell? w _ o0
  simp only at lk lo
  obtain ⟨d5, hd5⟩ := Option.isSome_iff_exists.1 (h8 5 (by decide)).1
  obtain ⟨d6, hd6⟩ := Option.isSome_iff_exists.1 (h8 6 (by decide)).1
  obtain ⟨d7, hd7⟩ := Option.isSome_iff_exists.1 (h8 7 (by decide)).1
  obtain ⟨d3, hd3⟩ := Option.isSome_iff_exists.1 (h8 3 (by decide)).1
  obtain ⟨d4, hd4⟩ := Option.isSome_iff_exists.1 (h8 4 (by decide)).1
  have f5 := (h8 5 (by decide)).2
  have f6 := (h8 6 (by decide)).2
  have f7 := (h8 7 (by decide)).2
  have H8 := hide h8
  clear hop hlk h8
  go_enter Try.func43, Try.ntmps43
  go_upto_region 3 with fail
  obtain ⟨W, hW⟩ : ∃ W, W = ((w.setCell ⟨kb, 5, none⟩ (.int .i64 0)).setCell ⟨kb, 6, none⟩ (.bool false)).setCell ⟨kb, 7, none⟩ (.int .i64 0) := ⟨_, rfl⟩
  rw [← hW]
  have HO2 := HO.out
  have HL2 := HL.out
  rw [show fresh w kb = W from hW.symm] at HO2 HL2
  have zs : W.heap.size = w.heap.size := by rw [hW, World.size_setCell, World.size_setCell, World.size_setCell]
  rw [← zs] at HO2
  have HO := hide (fun V hb => (HO2 V hb).mono (R' := fun e w1 => ∃ ca cb, e = .returned (.agg #[.func (.func fa) #[] ca, .func (.func fb) #[] cb]) ∧ Nx kb V w1 ∧ (Below W.heap.size W V ∧ G V w1 ca cb)) (by rintro e w1 ⟨ca, cb, he, hx, hg⟩; exact ⟨ca, cb, he, hx, hb, hg⟩))
  have HL := hide HL2
  clear HO2 HL2
  have H8 := hide (show Has8 W kb by rw [hW]; exact ((H8.out.set _ _ _).set _ _ _).set _ _ _)
  have c0 : W.cell? ⟨kb, 0, none⟩ = some (.int .i64 i) := by rw [hW]; exact (cell_ne (by decide)).trans ((cell_ne (by decide)).trans ((cell_ne (by decide)).trans c0))
  have c1 : W.cell? ⟨kb, 1, none⟩ = some (.slice (some ⟨ob, oo, none⟩) on oc) := by rw [hW]; exact (cell_ne (by decide)).trans ((cell_ne (by decide)).trans ((cell_ne (by decide)).trans c1))
  have c2 : W.cell? ⟨kb, 2, none⟩ = some (.slice dp j dc) := by rw [hW]; exact (cell_ne (by decide)).trans ((cell_ne (by decide)).trans ((cell_ne (by decide)).trans c2))
  have o0 : W.cell? ⟨ob, oo + j * 2, none⟩ = some (.int .i64 k) := by rw [hW]; exact (cell_ob hne _ _ _).trans ((cell_ob hne _ _ _).trans ((cell_ob hne _ _ _).trans o0))
  have o1 : W.cell? ⟨ob, oo + j * 2 + 1, none⟩ = some (.int .i64 x) := by rw [hW]; exact (cell_ob hne _ _ _).trans ((cell_ob hne _ _ _).trans ((cell_ob hne _ _ _).trans o1))
  have lW : kb < W.heap.size := by omega
  have lO : ob < W.heap.size := by omega
  have ZS := hide zs
  clear hW zs c3 hd4 hd5 hd6 hd7 f5 f6 f7 lk lo
  go_region_held3 (fun w' => w'.cell? ⟨kb, 0, none⟩ = some (.int .i64 i) ∧ w'.cell? ⟨kb, 1, none⟩ = some (.slice (some ⟨ob, oo, none⟩) on oc) ∧ w'.cell? ⟨kb, 2, none⟩ = some (.slice dp j dc) ∧ w'.cell? ⟨ob, oo + j * 2, none⟩ = some (.int .i64 k) ∧ w'.cell? ⟨ob, oo + j * 2 + 1, none⟩ = some (.int .i64 x))
    (((try go_split_ands); refine ⟨?_, ?_, ?_, ?_, ?_⟩; (focus (first | (with_reducible assumption) | ((repeat (first | with_reducible refine c_dr ?_ | with_reducible refine c_al ?_ _ | with_reducible refine c_drN ?_ _)); with_reducible assumption) | (simp [go_sem, *]; done))); (focus (first | (with_reducible assumption) | ((repeat (first | with_reducible refine c_dr ?_ | with_reducible refine c_al ?_ _ | with_reducible refine c_drN ?_ _)); with_reducible assumption) | (simp [go_sem, *]; done))); (focus (first | (with_reducible assumption) | ((repeat (first | with_reducible refine c_dr ?_ | with_reducible refine c_al ?_ _ | with_reducible refine c_drN ?_ _)); with_reducible assumption) | (simp [go_sem, *]; done))); (focus (first | (with_reducible assumption) | ((repeat (first | with_reducible refine c_dr ?_ | with_reducible refine c_al ?_ _ | with_reducible refine c_drN ?_ _)); with_reducible assumption) | (simp [go_sem, *]; done))); (focus (first | (with_reducible assumption) | ((repeat (first | with_reducible refine c_dr ?_ | with_reducible refine c_al ?_ _ | with_reducible refine c_drN ?_ _)); with_reducible assumption) | (simp [go_sem, *]; done)))))
    (first | (go_at_call 49; (apply Calls.mono; focus (exact HO.out _ (by (focus repeat' (first | (with_reducible exact Below.refl _ _) | (with_reducible assumption) | (with_reducible refine Below.alloc ?_ ?_ _) | (with_reducible refine Below.drew ?_) | (with_reducible refine bdrewN ?_ _) | (with_reducible refine Below.setCell ?_ ?_ _) | (first | (with_reducible exact Nat.le_refl _) | (with_reducible assumption) | omega | (simp; omega) | (simp; done))))))); rintro e w1 ⟨ca, cb, rfl, hx1, hg1⟩;  have t0 : w1.cell? ⟨kb, 0, none⟩ = some (.int .i64 i) := (hx1.oth 0 (by decide)).trans (by ((repeat (first | with_reducible refine c_dr ?_ | with_reducible refine c_al ?_ _ | with_reducible refine c_drN ?_ _)); with_reducible assumption)); have t1 : w1.cell? ⟨kb, 1, none⟩ = some (.slice (some ⟨ob, oo, none⟩) on oc) := (hx1.oth 1 (by decide)).trans (by ((repeat (first | with_reducible refine c_dr ?_ | with_reducible refine c_al ?_ _ | with_reducible refine c_drN ?_ _)); with_reducible assumption)); have t2 : w1.cell? ⟨kb, 2, none⟩ = some (.slice dp j dc) := (hx1.oth 2 (by decide)).trans (by ((repeat (first | with_reducible refine c_dr ?_ | with_reducible refine c_al ?_ _ | with_reducible refine c_drN ?_ _)); with_reducible assumption)); have ho1 := hx1.heap ob (by first | omega | (simp; omega)) hne; have p0 : w1.cell? ⟨ob, oo + j * 2, none⟩ = some (.int .i64 k) := (World.cell?_of_block (a := ⟨ob, oo + j * 2, none⟩) ho1).trans (by ((repeat (first | with_reducible refine c_dr ?_ | with_reducible refine c_al ?_ _ | with_reducible refine c_drN ?_ _)); with_reducible assumption)); have p1 : w1.cell? ⟨ob, oo + j * 2 + 1, none⟩ = some (.int .i64 x) := (World.cell?_of_block (a := ⟨ob, oo + j * 2 + 1, none⟩) ho1).trans (by ((repeat (first | with_reducible refine c_dr ?_ | with_reducible refine c_al ?_ _ | with_reducible refine c_drN ?_ _)); with_reducible assumption)); (first | (have OV := hide (OpV.b (W := W) (G := fun V => G V w1 ca cb) hx1 hg1 rfl); obtain ⟨e0, e1, e2, e3⟩ := fr2 (W := W) lW hx1 rfl) | (have OV := hide (OpV.a (W := W) (G := fun V => G V w1 ca cb) hx1 hg1))); clear ho1 hx1 hg1))

  · obtain ⟨V, hbV, hxV, hgV, hzV⟩ := OV.out
    have z1 : W.heap.size ≤ w1.heap.size := Nat.le_trans hbV.size hxV.size
    have lk1 : kb < w1.heap.size := by omega
    obtain ⟨tb, htb⟩ : ∃ tb, tb = w1.heap.size := ⟨_, rfl⟩
    obtain ⟨X, hX⟩ : ∃ X, X = w1.alloc (.cells #[.func (.func fa) #[] ca, .func (.func fb) #[] cb] 143) := ⟨_, rfl⟩
    rw [← hX, ← htb]
    have hh : ∀ k, k < w1.heap.size → k ≠ tb → X.heap[k]? = w1.heap[k]? := by rw [hX]; exact fun k hk _ => ((Below.refl _ _).alloc (Nat.le_refl _) _).block k hk
    have q0 : X.cell? ⟨tb, 0, none⟩ = some (.func (.func fa) #[] ca) := by rw [hX, htb]; simp [go_sem]
    have q1 : X.cell? ⟨tb, 1, none⟩ = some (.func (.func fb) #[] cb) := by rw [hX, htb]; simp [go_sem]
    have qs : w1.heap.size ≤ X.heap.size := by rw [hX, World.size_alloc]; omega
    have nt : kb ≠ tb := by omega
    have nt2 := Ne.symm nt
    have hkX := hh kb lk1 nt
    obtain ⟨d3, hd3⟩ := Option.isSome_iff_exists.1 (H8.out 3 (by decide)).1
    obtain ⟨d4, hd4⟩ := Option.isSome_iff_exists.1 (H8.out 4 (by decide)).1
    have v3 := cell_stay (cell_stay hd3 (hbV.block kb lW)) (rfl : V.heap[kb]? = V.heap[kb]?)
    have x3 : X.cell? ⟨kb, 3, none⟩ = some d3 := (World.cell?_of_block (a := ⟨kb, 3, none⟩) hkX).trans ((hxV.oth 3 (by decide)).trans v3)
    have x4 : X.cell? ⟨kb, 4, none⟩ = some d4 := (World.cell?_of_block (a := ⟨kb, 4, none⟩) hkX).trans ((hxV.oth 4 (by decide)).trans (cell_stay hd4 (hbV.block kb lW)))
    have g3 : X.frozen? ⟨kb, 3, none⟩ = false := (World.frozen?_of_block (a := ⟨kb, 3, none⟩) hkX).trans ((hxV.fro 3).trans (fro_stay (H8.out 3 (by decide)).2 (hbV.block kb lW)))
    have g4 : X.frozen? ⟨kb, 4, none⟩ = false := (World.frozen?_of_block (a := ⟨kb, 4, none⟩) hkX).trans ((hxV.fro 4).trans (fro_stay (H8.out 4 (by decide)).2 (hbV.block kb lW)))
    have C := hide (HL.out V w1 ca cb tb _ (by rw [← ZS.out]; exact hbV) hxV hgV (FrY.made (X := X) (by rw [hX]; rfl) (by rw [hX]; rfl) (by rw [hX]; rfl) qs hh q0 q1 (by rw [← ZS.out]; omega) (by omega) (by rw [← ZS.out]; exact lW) lk1 (by rw [x3]; rfl) (by rw [x4]; rfl)))
    clear hX htb hh hbV hxV hgV hzV OV hd3 hd4 v3 hkX z1 qs t0 t1 t2 p0 p1
    go_wp2_with fail
    refine C.out.mono ?_
    rintro e w' ⟨rfl, hq⟩
    have HQ := hide hq
    clear hq
    go_wp2
    go_ret
    exact ⟨rfl, HQ.out⟩
  · obtain ⟨V, hbV, hxV, hgV, hzV⟩ := OV.out
    have z1 : W.heap.size ≤ w1.heap.size := Nat.le_trans hbV.size hxV.size
    have lk1 : kb < w1.heap.size := by omega
    obtain ⟨tb, htb⟩ : ∃ tb, tb = W.heap.size := ⟨_, rfl⟩
    obtain ⟨X, hX⟩ : ∃ X, X = (w1.setCell ⟨W.heap.size, 0, none⟩ (.func (.func fa) #[] ca)).setCell ⟨W.heap.size, 1, none⟩ (.func (.func fb) #[] cb) := ⟨_, rfl⟩
    rw [← hX, ← htb]
    have hh : ∀ k, k < w1.heap.size → k ≠ tb → X.heap[k]? = w1.heap[k]? := by rw [hX]; exact fun k hk hn => (heap_setCell_other _ _ _ _ (by rw [← htb]; exact hn)).trans (heap_setCell_other _ _ _ _ (by rw [← htb]; exact hn))
    have q0 : X.cell? ⟨tb, 0, none⟩ = some (.func (.func fa) #[] ca) := by rw [hX, htb]; exact (cell_ne (by decide)).trans (World.cell?_setCell_same' _ _ _ (by rw [e0]; rfl))
    have q1 : X.cell? ⟨tb, 1, none⟩ = some (.func (.func fb) #[] cb) := by rw [hX, htb]; exact World.cell?_setCell_same' _ _ _ (by rw [cell_ne (by decide), e1]; rfl)
    have qs : w1.heap.size ≤ X.heap.size := by rw [hX, World.size_setCell, World.size_setCell]; exact Nat.le_refl _
    have nt : kb ≠ tb := by omega
    have nt2 := Ne.symm nt
    have hkX := hh kb lk1 nt
    obtain ⟨d3, hd3⟩ := Option.isSome_iff_exists.1 (H8.out 3 (by decide)).1
    obtain ⟨d4, hd4⟩ := Option.isSome_iff_exists.1 (H8.out 4 (by decide)).1
    have v3 := cell_stay (cell_stay hd3 (hbV.block kb lW)) (rfl : V.heap[kb]? = V.heap[kb]?)
    have x3 : X.cell? ⟨kb, 3, none⟩ = some d3 := (World.cell?_of_block (a := ⟨kb, 3, none⟩) hkX).trans ((hxV.oth 3 (by decide)).trans v3)
    have x4 : X.cell? ⟨kb, 4, none⟩ = some d4 := (World.cell?_of_block (a := ⟨kb, 4, none⟩) hkX).trans ((hxV.oth 4 (by decide)).trans (cell_stay hd4 (hbV.block kb lW)))
    have g3 : X.frozen? ⟨kb, 3, none⟩ = false := (World.frozen?_of_block (a := ⟨kb, 3, none⟩) hkX).trans ((hxV.fro 3).trans (fro_stay (H8.out 3 (by decide)).2 (hbV.block kb lW)))
    have g4 : X.frozen? ⟨kb, 4, none⟩ = false := (World.frozen?_of_block (a := ⟨kb, 4, none⟩) hkX).trans ((hxV.fro 4).trans (fro_stay (H8.out 4 (by decide)).2 (hbV.block kb lW)))
    have C := hide (HL.out V w1 ca cb tb _ (by rw [← ZS.out]; exact hbV) hxV hgV (FrY.made (X := X) (by rw [hX]; rfl) (by rw [hX]; rfl) (by rw [hX]; rfl) qs hh q0 q1 (by rw [← ZS.out]; omega) (by have := hzV rfl; omega) (by rw [← ZS.out]; exact lW) lk1 (by rw [x3]; rfl) (by rw [x4]; rfl)))
    clear hX htb hh hbV hxV hgV hzV OV hd3 hd4 v3 hkX z1 qs t0 t1 t2 p0 p1 e0 e1 e2 e3
    go_wp2_with fail
    refine C.out.mono ?_
    rintro e w' ⟨rfl, hq⟩
    have HQ := hide hq
    clear hq
    go_wp2
    go_ret
    exact ⟨rfl, HQ.out⟩

set_option maxRecDepth 100000 in
set_option maxHeartbeats 4000000 in
theorem step_one (kb wp fa ob oo on oc j dc : Nat) (dp : Option Addr) (i k x : Int) (w : World) (b : Bool) (Q : World → Prop) (G : World → World → Array Value → Prop) (ea : ∀ ca w, (callFunc fa ca).run Try.prog w = .ok (.enter fa ca) w)
    (h8 : Has8 w kb) (c0 : w.cell? ⟨kb, 0, none⟩ = some (.int .i64 i)) (c1 : w.cell? ⟨kb, 1, none⟩ = some (.slice (some ⟨ob, oo, none⟩) on oc)) (c2 : w.cell? ⟨kb, 2, none⟩ = some (.slice dp j dc)) (c3 : w.cell? ⟨kb, 3, none⟩ = some (.pointer none)) (hj : j < on) (o0 : w.cell? ⟨ob, oo + j * 2, none⟩ = some (.int .i64 k)) (o1 : w.cell? ⟨ob, oo + j * 2 + 1, none⟩ = some (.int .i64 x)) (hne : ob ≠ kb)
    (hop : ∀ V, Below w.heap.size (fresh w kb) V → Calls Try.prog 49 #[.pointer (some ⟨wp, 0, none⟩), .int .i64 i, .agg #[.int .i64 k, .int .i64 x], .pointer (some ⟨kb, 5, none⟩)] V fun e w1 => ∃ ca, e = .returned (.agg #[.func (.func fa) #[] ca, .nilFunc]) ∧ Nx kb V w1 ∧ G V w1 ca)
    (hlk : ∀ V w1 ca tb Y, Below w.heap.size (fresh w kb) V → Nx kb V w1 → G V w1 ca → FrY kb w V w1 tb fa ca (.nilFunc) Y → Calls Try.prog fa ca Y fun e w' => e = .returned (.bool b) ∧ Q w') :
    Calls Try.prog 43 #[.pointer (some ⟨kb, 0, none⟩), .pointer (some ⟨wp, 0, none⟩)] w fun e w' => e = .returned (.bool b) ∧ Q w' := by
  have HO := hide hop
  have HL := hide hlk
  have lk := World.block_lt_of_cell? w _ c0
  have lo := World.block_lt_of_cell? w _ o0
  simp only at lk lo
  obtain ⟨d5, hd5⟩ := Option.isSome_iff_exists.1 (h8 5 (by decide)).1
  obtain ⟨d6, hd6⟩ := Option.isSome_iff_exists.1 (h8 6 (by decide)).1
  obtain ⟨d7, hd7⟩ := Option.isSome_iff_exists.1 (h8 7 (by decide)).1
  obtain ⟨d3, hd3⟩ := Option.isSome_iff_exists.1 (h8 3 (by decide)).1
  obtain ⟨d4, hd4⟩ := Option.isSome_iff_exists.1 (h8 4 (by decide)).1
  have f5 := (h8 5 (by decide)).2
  have f6 := (h8 6 (by decide)).2
  have f7 := (h8 7 (by decide)).2
  have H8 := hide h8
  clear hop hlk h8
  go_enter Try.func43, Try.ntmps43
  go_upto_region 3 with fail
  obtain ⟨W, hW⟩ : ∃ W, W = ((w.setCell ⟨kb, 5, none⟩ (.int .i64 0)).setCell ⟨kb, 6, none⟩ (.bool false)).setCell ⟨kb, 7, none⟩ (.int .i64 0) := ⟨_, rfl⟩
  rw [← hW]
  have HO2 := HO.out
  have HL2 := HL.out
  rw [show fresh w kb = W from hW.symm] at HO2 HL2
  have zs : W.heap.size = w.heap.size := by rw [hW, World.size_setCell, World.size_setCell, World.size_setCell]
  rw [← zs] at HO2
  have HO := hide (fun V hb => (HO2 V hb).mono (R' := fun e w1 => ∃ ca, e = .returned (.agg #[.func (.func fa) #[] ca, .nilFunc]) ∧ Nx kb V w1 ∧ (Below W.heap.size W V ∧ G V w1 ca)) (by rintro e w1 ⟨ca, he, hx, hg⟩; exact ⟨ca, he, hx, hb, hg⟩))
  have HL := hide HL2
  clear HO2 HL2
  have H8 := hide (show Has8 W kb by rw [hW]; exact ((H8.out.set _ _ _).set _ _ _).set _ _ _)
  have c0 : W.cell? ⟨kb, 0, none⟩ = some (.int .i64 i) := by rw [hW]; exact (cell_ne (by decide)).trans ((cell_ne (by decide)).trans ((cell_ne (by decide)).trans c0))
  have c1 : W.cell? ⟨kb, 1, none⟩ = some (.slice (some ⟨ob, oo, none⟩) on oc) := by rw [hW]; exact (cell_ne (by decide)).trans ((cell_ne (by decide)).trans ((cell_ne (by decide)).trans c1))
  have c2 : W.cell? ⟨kb, 2, none⟩ = some (.slice dp j dc) := by rw [hW]; exact (cell_ne (by decide)).trans ((cell_ne (by decide)).trans ((cell_ne (by decide)).trans c2))
  have o0 : W.cell? ⟨ob, oo + j * 2, none⟩ = some (.int .i64 k) := by rw [hW]; exact (cell_ob hne _ _ _).trans ((cell_ob hne _ _ _).trans ((cell_ob hne _ _ _).trans o0))
  have o1 : W.cell? ⟨ob, oo + j * 2 + 1, none⟩ = some (.int .i64 x) := by rw [hW]; exact (cell_ob hne _ _ _).trans ((cell_ob hne _ _ _).trans ((cell_ob hne _ _ _).trans o1))
  have lW : kb < W.heap.size := by omega
  have lO : ob < W.heap.size := by omega
  have ZS := hide zs
  clear hW zs c3 hd4 hd5 hd6 hd7 f5 f6 f7 lk lo
  go_region_held3 (fun w' => w'.cell? ⟨kb, 0, none⟩ = some (.int .i64 i) ∧ w'.cell? ⟨kb, 1, none⟩ = some (.slice (some ⟨ob, oo, none⟩) on oc) ∧ w'.cell? ⟨kb, 2, none⟩ = some (.slice dp j dc) ∧ w'.cell? ⟨ob, oo + j * 2, none⟩ = some (.int .i64 k) ∧ w'.cell? ⟨ob, oo + j * 2 + 1, none⟩ = some (.int .i64 x))
    (((try go_split_ands); refine ⟨?_, ?_, ?_, ?_, ?_⟩; (focus (first | (with_reducible assumption) | ((repeat (first | with_reducible refine c_dr ?_ | with_reducible refine c_al ?_ _ | with_reducible refine c_drN ?_ _)); with_reducible assumption) | (simp [go_sem, *]; done))); (focus (first | (with_reducible assumption) | ((repeat (first | with_reducible refine c_dr ?_ | with_reducible refine c_al ?_ _ | with_reducible refine c_drN ?_ _)); with_reducible assumption) | (simp [go_sem, *]; done))); (focus (first | (with_reducible assumption) | ((repeat (first | with_reducible refine c_dr ?_ | with_reducible refine c_al ?_ _ | with_reducible refine c_drN ?_ _)); with_reducible assumption) | (simp [go_sem, *]; done))); (focus (first | (with_reducible assumption) | ((repeat (first | with_reducible refine c_dr ?_ | with_reducible refine c_al ?_ _ | with_reducible refine c_drN ?_ _)); with_reducible assumption) | (simp [go_sem, *]; done))); (focus (first | (with_reducible assumption) | ((repeat (first | with_reducible refine c_dr ?_ | with_reducible refine c_al ?_ _ | with_reducible refine c_drN ?_ _)); with_reducible assumption) | (simp [go_sem, *]; done)))))
    (first | (go_at_call 49; (apply Calls.mono; focus (exact HO.out _ (by (focus repeat' (first | (with_reducible exact Below.refl _ _) | (with_reducible assumption) | (with_reducible refine Below.alloc ?_ ?_ _) | (with_reducible refine Below.drew ?_) | (with_reducible refine bdrewN ?_ _) | (with_reducible refine Below.setCell ?_ ?_ _) | (first | (with_reducible exact Nat.le_refl _) | (with_reducible assumption) | omega | (simp; omega) | (simp; done))))))); rintro e w1 ⟨ca, rfl, hx1, hg1⟩;  have t0 : w1.cell? ⟨kb, 0, none⟩ = some (.int .i64 i) := (hx1.oth 0 (by decide)).trans (by ((repeat (first | with_reducible refine c_dr ?_ | with_reducible refine c_al ?_ _ | with_reducible refine c_drN ?_ _)); with_reducible assumption)); have t1 : w1.cell? ⟨kb, 1, none⟩ = some (.slice (some ⟨ob, oo, none⟩) on oc) := (hx1.oth 1 (by decide)).trans (by ((repeat (first | with_reducible refine c_dr ?_ | with_reducible refine c_al ?_ _ | with_reducible refine c_drN ?_ _)); with_reducible assumption)); have t2 : w1.cell? ⟨kb, 2, none⟩ = some (.slice dp j dc) := (hx1.oth 2 (by decide)).trans (by ((repeat (first | with_reducible refine c_dr ?_ | with_reducible refine c_al ?_ _ | with_reducible refine c_drN ?_ _)); with_reducible assumption)); have ho1 := hx1.heap ob (by first | omega | (simp; omega)) hne; have p0 : w1.cell? ⟨ob, oo + j * 2, none⟩ = some (.int .i64 k) := (World.cell?_of_block (a := ⟨ob, oo + j * 2, none⟩) ho1).trans (by ((repeat (first | with_reducible refine c_dr ?_ | with_reducible refine c_al ?_ _ | with_reducible refine c_drN ?_ _)); with_reducible assumption)); have p1 : w1.cell? ⟨ob, oo + j * 2 + 1, none⟩ = some (.int .i64 x) := (World.cell?_of_block (a := ⟨ob, oo + j * 2 + 1, none⟩) ho1).trans (by ((repeat (first | with_reducible refine c_dr ?_ | with_reducible refine c_al ?_ _ | with_reducible refine c_drN ?_ _)); with_reducible assumption)); (first | (have OV := hide (OpV.b (W := W) (G := fun V => G V w1 ca) hx1 hg1 rfl); obtain ⟨e0, e1, e2, e3⟩ := fr2 (W := W) lW hx1 rfl) | (have OV := hide (OpV.a (W := W) (G := fun V => G V w1 ca) hx1 hg1))); clear ho1 hx1 hg1))

  · obtain ⟨V, hbV, hxV, hgV, hzV⟩ := OV.out
    have z1 : W.heap.size ≤ w1.heap.size := Nat.le_trans hbV.size hxV.size
    have lk1 : kb < w1.heap.size := by omega
    obtain ⟨tb, htb⟩ : ∃ tb, tb = w1.heap.size := ⟨_, rfl⟩
    obtain ⟨X, hX⟩ : ∃ X, X = w1.alloc (.cells #[.func (.func fa) #[] ca, .nilFunc] 143) := ⟨_, rfl⟩
    rw [← hX, ← htb]
    have hh : ∀ k, k < w1.heap.size → k ≠ tb → X.heap[k]? = w1.heap[k]? := by rw [hX]; exact fun k hk _ => ((Below.refl _ _).alloc (Nat.le_refl _) _).block k hk
    have q0 : X.cell? ⟨tb, 0, none⟩ = some (.func (.func fa) #[] ca) := by rw [hX, htb]; simp [go_sem]
    have q1 : X.cell? ⟨tb, 1, none⟩ = some (.nilFunc) := by rw [hX, htb]; simp [go_sem]
    have qs : w1.heap.size ≤ X.heap.size := by rw [hX, World.size_alloc]; omega
    have nt : kb ≠ tb := by omega
    have nt2 := Ne.symm nt
    have hkX := hh kb lk1 nt
    obtain ⟨d3, hd3⟩ := Option.isSome_iff_exists.1 (H8.out 3 (by decide)).1
    obtain ⟨d4, hd4⟩ := Option.isSome_iff_exists.1 (H8.out 4 (by decide)).1
    have v3 := cell_stay (cell_stay hd3 (hbV.block kb lW)) (rfl : V.heap[kb]? = V.heap[kb]?)
    have x3 : X.cell? ⟨kb, 3, none⟩ = some d3 := (World.cell?_of_block (a := ⟨kb, 3, none⟩) hkX).trans ((hxV.oth 3 (by decide)).trans v3)
    have x4 : X.cell? ⟨kb, 4, none⟩ = some d4 := (World.cell?_of_block (a := ⟨kb, 4, none⟩) hkX).trans ((hxV.oth 4 (by decide)).trans (cell_stay hd4 (hbV.block kb lW)))
    have g3 : X.frozen? ⟨kb, 3, none⟩ = false := (World.frozen?_of_block (a := ⟨kb, 3, none⟩) hkX).trans ((hxV.fro 3).trans (fro_stay (H8.out 3 (by decide)).2 (hbV.block kb lW)))
    have g4 : X.frozen? ⟨kb, 4, none⟩ = false := (World.frozen?_of_block (a := ⟨kb, 4, none⟩) hkX).trans ((hxV.fro 4).trans (fro_stay (H8.out 4 (by decide)).2 (hbV.block kb lW)))
    have C := hide (HL.out V w1 ca tb _ (by rw [← ZS.out]; exact hbV) hxV hgV (FrY.made (X := X) (by rw [hX]; rfl) (by rw [hX]; rfl) (by rw [hX]; rfl) qs hh q0 q1 (by rw [← ZS.out]; omega) (by omega) (by rw [← ZS.out]; exact lW) lk1 (by rw [x3]; rfl) (by rw [x4]; rfl)))
    clear hX htb hh hbV hxV hgV hzV OV hd3 hd4 v3 hkX z1 qs t0 t1 t2 p0 p1
    go_wp2_with fail
    refine C.out.mono ?_
    rintro e w' ⟨rfl, hq⟩
    have HQ := hide hq
    clear hq
    go_wp2
    go_ret
    exact ⟨rfl, HQ.out⟩
  · obtain ⟨V, hbV, hxV, hgV, hzV⟩ := OV.out
    have z1 : W.heap.size ≤ w1.heap.size := Nat.le_trans hbV.size hxV.size
    have lk1 : kb < w1.heap.size := by omega
    obtain ⟨tb, htb⟩ : ∃ tb, tb = W.heap.size := ⟨_, rfl⟩
    obtain ⟨X, hX⟩ : ∃ X, X = (w1.setCell ⟨W.heap.size, 0, none⟩ (.func (.func fa) #[] ca)).setCell ⟨W.heap.size, 1, none⟩ (.nilFunc) := ⟨_, rfl⟩
    rw [← hX, ← htb]
    have hh : ∀ k, k < w1.heap.size → k ≠ tb → X.heap[k]? = w1.heap[k]? := by rw [hX]; exact fun k hk hn => (heap_setCell_other _ _ _ _ (by rw [← htb]; exact hn)).trans (heap_setCell_other _ _ _ _ (by rw [← htb]; exact hn))
    have q0 : X.cell? ⟨tb, 0, none⟩ = some (.func (.func fa) #[] ca) := by rw [hX, htb]; exact (cell_ne (by decide)).trans (World.cell?_setCell_same' _ _ _ (by rw [e0]; rfl))
    have q1 : X.cell? ⟨tb, 1, none⟩ = some (.nilFunc) := by rw [hX, htb]; exact World.cell?_setCell_same' _ _ _ (by rw [cell_ne (by decide), e1]; rfl)
    have qs : w1.heap.size ≤ X.heap.size := by rw [hX, World.size_setCell, World.size_setCell]; exact Nat.le_refl _
    have nt : kb ≠ tb := by omega
    have nt2 := Ne.symm nt
    have hkX := hh kb lk1 nt
    obtain ⟨d3, hd3⟩ := Option.isSome_iff_exists.1 (H8.out 3 (by decide)).1
    obtain ⟨d4, hd4⟩ := Option.isSome_iff_exists.1 (H8.out 4 (by decide)).1
    have v3 := cell_stay (cell_stay hd3 (hbV.block kb lW)) (rfl : V.heap[kb]? = V.heap[kb]?)
    have x3 : X.cell? ⟨kb, 3, none⟩ = some d3 := (World.cell?_of_block (a := ⟨kb, 3, none⟩) hkX).trans ((hxV.oth 3 (by decide)).trans v3)
    have x4 : X.cell? ⟨kb, 4, none⟩ = some d4 := (World.cell?_of_block (a := ⟨kb, 4, none⟩) hkX).trans ((hxV.oth 4 (by decide)).trans (cell_stay hd4 (hbV.block kb lW)))
    have g3 : X.frozen? ⟨kb, 3, none⟩ = false := (World.frozen?_of_block (a := ⟨kb, 3, none⟩) hkX).trans ((hxV.fro 3).trans (fro_stay (H8.out 3 (by decide)).2 (hbV.block kb lW)))
    have g4 : X.frozen? ⟨kb, 4, none⟩ = false := (World.frozen?_of_block (a := ⟨kb, 4, none⟩) hkX).trans ((hxV.fro 4).trans (fro_stay (H8.out 4 (by decide)).2 (hbV.block kb lW)))
    have C := hide (HL.out V w1 ca tb _ (by rw [← ZS.out]; exact hbV) hxV hgV (FrY.made (X := X) (by rw [hX]; rfl) (by rw [hX]; rfl) (by rw [hX]; rfl) qs hh q0 q1 (by rw [← ZS.out]; omega) (by have := hzV rfl; omega) (by rw [← ZS.out]; exact lW) lk1 (by rw [x3]; rfl) (by rw [x4]; rfl)))
    clear hX htb hh hbV hxV hgV hzV OV hd3 hd4 v3 hkX z1 qs t0 t1 t2 p0 p1 e0 e1 e2 e3
    go_wp2_with fail
    refine C.out.mono ?_
    rintro e w' ⟨rfl, hq⟩
    have HQ := hide hq
    clear hq
    go_wp2
    go_ret
    exact ⟨rfl, HQ.out⟩
end Go.Proofs.Ytimabgakemgldaa
