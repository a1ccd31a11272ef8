/- Contracts of the layer's functions, each proved once, in the order in which they are used. No condition beyond each theorem's own. -/
import Derived.Test.YtkdocoibfclfeaaMh
import Derived.Sort.LoopGhostIn
import Derived.Test.YtkdocoibfclfeaaMe
import Derived.Test.YtkdocoibfclfeaaMg
import Derived.Lib.BufferOwn
import Derived.Maps.AppendAt
import Derived.Deep.AppendLies
namespace Go.Proofs.Ytkdocoibfclfeaa
open Go.ChangeShapes Go.WideShapes Go.ChangeAt Go.RowKit Go.Deep Go.Shelf Go.Maps Go.WideMaps Ytkdocoibfclfeaa.it
set_option linter.unusedSimpArgs false
set_option linter.unusedVariables false

attribute [local go_sem] Oper.semAt_some

theorem Ents.noneE {w : World} : Ents Option.none 0 [] w := ⟨fun _ => ⟨rfl, rfl⟩, fun h => by simp at h, fun ad e => by cases e⟩
theorem wf_int {x : Int} (h1 : -1000 ≤ x) (h2 : x ≤ 1073741824) : (Lit.int .i64 x).wf = true := WalkArith.wf_i64 (by omega)

set_option maxRecDepth 1000000 in
set_option maxHeartbeats 4000000 in
theorem step_4lo (w0 : World) (n : Nat) (I : Nat → Prop) (T : List Tri) (q : Nat) (ov wv : Value) (on x : Int) (s : ByteArray) (lo : Option Addr) (lc : Nat) (p : List Ent) (w : World) (h : St w0 n I T q ov wv w) (hE : Ents lo lc p w0) (hs : s.size ≤ maxLen) (hn : n < 120) (hx : x < -9) : Calls Try.prog 16 #[.pointer (some ⟨q, 0, none⟩), .agg #[.int .i64 4, .int .i64 on, .string s, .int .i64 x, .slice lo p.length lc]] w (StepPost w0 n q) := by
  obtain ⟨k, hk2, hk⟩ : ∃ k : Nat, k < 2 ∧ (wrap64 (on.tmod 2 + 2)).tmod 2 = (k : Int) := by
    rcases onK_two on with q | q
    · exact ⟨0, by omega, q⟩
    · exact ⟨1, by omega, q⟩
  obtain ⟨t, ht⟩ : ∃ t, T[k]? = some t := ⟨_, List.getElem?_eq_getElem (by have := h.two; omega)⟩
  obtain ⟨W, hW⟩ : ∃ W, W = w.alloc (.cells #[.int .i64 4, .int .i64 on, .string s, .int .i64 x, .slice lo p.length lc] 53) := ⟨_, rfl⟩
  have hbW : Below w.heap.size w W := by rw [hW]; (focus repeat' (first | (with_reducible exact Below.refl _ _) | (with_reducible assumption) | (with_reducible refine Below.alloc ?_ ?_ _) | (with_reducible refine Below.drew ?_) | (with_reducible refine bdrewN ?_ _) | (with_reducible refine Below.setCell ?_ ?_ _) | (first | (with_reducible exact Nat.le_refl _) | (with_reducible assumption) | omega | (simp; omega) | (simp; done))))
  have H := hide (h.below hbW (Nat.le_refl _))
  have HE := hide hE
  have HSS := hide hs
  have HN := hide hn
  have zq : q < w.heap.size := h.qz
  have d0 : W.cell? ⟨w.heap.size, 0, none⟩ = some (.int .i64 4) := by rw [hW]; simp [go_sem]
  have d1 : W.cell? ⟨w.heap.size, 1, none⟩ = some (.int .i64 on) := by rw [hW]; simp [go_sem]
  have d2 : W.cell? ⟨w.heap.size, 2, none⟩ = some (.string s) := by rw [hW]; simp [go_sem]
  have d3 : W.cell? ⟨w.heap.size, 3, none⟩ = some (.int .i64 x) := by rw [hW]; simp [go_sem]
  have d4 : W.cell? ⟨w.heap.size, 4, none⟩ = some (.slice lo p.length lc) := by rw [hW]; simp [go_sem]
  obtain ⟨e1, e2⟩ := H.out.cur k t hk2 ht
  unfold Tri.pl at e1
  unfold Tri.pr at e2
  have hk0 : (0 : Int) ≤ (k : Int) := by omega
  have hk9 : (k : Int) < 2 := by omega
  have HT := hide ht
  have HOW := hide (show ∀ k, t.own k → k < w.heap.size from fun j hj => (h.obj k t ht).lt hj)
  have HD := hide (And.intro d2 (And.intro d3 d4))
  have HK := hide hk2
  have HBW := hide hbW
  have HW := hide hW
  have zWq : w.heap.size < W.heap.size := World.block_lt_of_cell? W _ d0
  have d9 : wrap64 (on.tmod 2 + 2) = wrap64 (on.tmod 2 + 2) := rfl
  clear h hE hs hn hbW ht hk2 hW d9
  go_enter Try.func16, Try.ntmps16
  go_wp2_with fail
  rw [← HW.out]
  go_wp2_with fail
  go_quiet (fail)
  obtain ⟨Z, hZ⟩ : ∃ Z, Z = W.drewN nq := ⟨_, rfl⟩
  rw [← hZ]
  have hbZ : Below W.heap.size W Z := by rw [hZ]; exact bdrewN (Below.refl _ _) nq
  have d0 := cell_stay d0 (hbZ.block _ zWq)
  have d2 := cell_stay d2 (hbZ.block _ zWq)
  have d3 := cell_stay d3 (hbZ.block _ zWq)
  have d4 := cell_stay d4 (hbZ.block _ zWq)
  have zZ := hbZ.size
  have H := hide (H.out.below hbZ (Nat.le_refl _))
  clear hbZ hZ e1 e2
  have P := H.out.obj k t HT.out
  have HWF := hide (wf_int (x := -9) (by decide) (by decide))
  have HAN := hide (show (-9 : Int) < 0 ∨ (t.S.acc.length : Int) ≤ -9 from .inl (by decide))
  have HPN := hide (show x < 0 ∨ (t.S.posts.length : Int) ≤ x from .inl (by omega))
  have C1 := hide (Account_no I t.F t.S (-9) Z P.l HWF.out HAN.out)
  have C2 := hide (fun w1 (r : RObj I t.R t.S w1) => Account_rno I t.R t.S (-9) w1 r HAN.out)
  have C3 := hide (fun w1 (r : LObj I t.F t.S w1) => Posting_no I t.F t.S x w1 r HPN.out)
  have C4 := hide (fun w1 (r : RObj I t.R t.S w1) => Posting_rno I t.R t.S x w1 r HPN.out)
  have HP := hide P
  clear P
  clear d2 d4
  go_wp2_with fail
  refine (C1.out).mono ?_
  rintro e w1 ⟨rfl, hb1⟩
  obtain ⟨W1, hW1⟩ : ∃ W1, W1 = w1.alloc (.cells #[Value.string ⟨#[]⟩, .int .i64 0, .int .i64 0] 70) := ⟨_, rfl⟩
  have hb : Below Z.heap.size Z W1 := by rw [hW1]; exact hb1.alloc hb1.size _
  have HB1 := hide hb
  have hz1 := hb.size
  have d3 := cell_stay d3 (hb.block _ (by omega))
  have x10 : W1.cell? ⟨w1.heap.size, 0, none⟩ = (#[Value.string ⟨#[]⟩, .int .i64 0, .int .i64 0] : Array Value)[0]? := by rw [hW1]; simp [go_sem]
  have x11 : W1.cell? ⟨w1.heap.size, 1, none⟩ = (#[Value.string ⟨#[]⟩, .int .i64 0, .int .i64 0] : Array Value)[1]? := by rw [hW1]; simp [go_sem]
  have x12 : W1.cell? ⟨w1.heap.size, 2, none⟩ = (#[Value.string ⟨#[]⟩, .int .i64 0, .int .i64 0] : Array Value)[2]? := by rw [hW1]; simp [go_sem]
  simp only [List.getElem?_toArray, List.getElem?_cons_zero, List.getElem?_cons_succ] at x10 x11 x12
  have zx1 : w1.heap.size < W1.heap.size := World.block_lt_of_cell? W1 _ x10
  have HW1 := hide hW1
  clear hW1 hb hb1
  go_wp2_with fail
  rw [← HW1.out]
  refine (C2.out W1 (HP.out.r.below HB1.out)).mono ?_
  rintro e w2 ⟨rfl, hb2⟩
  obtain ⟨W2, hW2⟩ : ∃ W2, W2 = w2.alloc (.cells #[Value.string ⟨#[]⟩, .int .i64 0, .int .i64 0] 70) := ⟨_, rfl⟩
  have hb : Below W1.heap.size W1 W2 := by rw [hW2]; exact hb2.alloc hb2.size _
  have HB2 := hide hb
  have hz2 := hb.size
  have d3 := cell_stay d3 (hb.block _ (by omega))
  have x20 : W2.cell? ⟨w2.heap.size, 0, none⟩ = (#[Value.string ⟨#[]⟩, .int .i64 0, .int .i64 0] : Array Value)[0]? := by rw [hW2]; simp [go_sem]
  have x21 : W2.cell? ⟨w2.heap.size, 1, none⟩ = (#[Value.string ⟨#[]⟩, .int .i64 0, .int .i64 0] : Array Value)[1]? := by rw [hW2]; simp [go_sem]
  have x22 : W2.cell? ⟨w2.heap.size, 2, none⟩ = (#[Value.string ⟨#[]⟩, .int .i64 0, .int .i64 0] : Array Value)[2]? := by rw [hW2]; simp [go_sem]
  simp only [List.getElem?_toArray, List.getElem?_cons_zero, List.getElem?_cons_succ] at x20 x21 x22
  have zx2 : w2.heap.size < W2.heap.size := World.block_lt_of_cell? W2 _ x20
  have HW2 := hide hW2
  clear hW2 hb hb2
  have x10 := cell_stay x10 (HB2.out.block _ (by omega))
  have x11 := cell_stay x11 (HB2.out.block _ (by omega))
  have x12 := cell_stay x12 (HB2.out.block _ (by omega))
  go_upto_region 25 with fail
  rw [← HW2.out]
  go_wp2_with fail
  refine (C3.out W2 ((HP.out.l.below HB1.out).below HB2.out)).mono ?_
  rintro e w3 ⟨rfl, rfl⟩
  go_wp2_with fail
  refine (C4.out W2 ((HP.out.r.below HB1.out).below HB2.out)).mono ?_
  rintro e w4 ⟨rfl, rfl⟩
  clear d3
  have NQ := neq70 ⟨#[]⟩ 0 0
  go_wp2_with fail
  refine (SameEntries_r none none 0 0 [] [] W2 Ents.noneE Ents.noneE (by decide)).mono ?_
  rintro e w5 ⟨rfl, hb5⟩
  have HB5 := hide hb5
  have t1 : decide (([] : List Ent) = []) = true := by simp
  rw [t1]
  clear hb5 t1 NQ x10 x11 x12 x20 x21 x22
  go_wp2_with fail
  refine (over_c W2.heap.size 0 _ _ w5 (World.ownsRow_nil _ _ _ _) (by have := HB5.out.size; omega) (by decide)).mono ?_
  rintro e w6 ⟨⟨u6, rfl⟩, hb6⟩
  have HB6 := hide hb6
  clear hb6
  go_wp2
  go_ret
  have B2 := bstep HB1.out HB2.out
  have B3 := bstep B2 HB5.out
  exact ⟨rfl, I, T, ov, wv, H.out.below (B3.trans (HB6.out.mono B2.size)) (Nat.le_succ n)⟩

set_option maxRecDepth 1000000 in
set_option maxHeartbeats 4000000 in
theorem step_4hi (w0 : World) (n : Nat) (I : Nat → Prop) (T : List Tri) (q : Nat) (ov wv : Value) (on x : Int) (s : ByteArray) (lo : Option Addr) (lc : Nat) (p : List Ent) (w : World) (h : St w0 n I T q ov wv w) (hE : Ents lo lc p w0) (hs : s.size ≤ maxLen) (hn : n < 120) (hx0 : -9 ≤ x) (hx : 1073741824 < x) : Calls Try.prog 16 #[.pointer (some ⟨q, 0, none⟩), .agg #[.int .i64 4, .int .i64 on, .string s, .int .i64 x, .slice lo p.length lc]] w (StepPost w0 n q) := by
  obtain ⟨k, hk2, hk⟩ : ∃ k : Nat, k < 2 ∧ (wrap64 (on.tmod 2 + 2)).tmod 2 = (k : Int) := by
    rcases onK_two on with q | q
    · exact ⟨0, by omega, q⟩
    · exact ⟨1, by omega, q⟩
  obtain ⟨t, ht⟩ : ∃ t, T[k]? = some t := ⟨_, List.getElem?_eq_getElem (by have := h.two; omega)⟩
  obtain ⟨W, hW⟩ : ∃ W, W = w.alloc (.cells #[.int .i64 4, .int .i64 on, .string s, .int .i64 x, .slice lo p.length lc] 53) := ⟨_, rfl⟩
  have hbW : Below w.heap.size w W := by rw [hW]; (focus repeat' (first | (with_reducible exact Below.refl _ _) | (with_reducible assumption) | (with_reducible refine Below.alloc ?_ ?_ _) | (with_reducible refine Below.drew ?_) | (with_reducible refine bdrewN ?_ _) | (with_reducible refine Below.setCell ?_ ?_ _) | (first | (with_reducible exact Nat.le_refl _) | (with_reducible assumption) | omega | (simp; omega) | (simp; done))))
  have H := hide (h.below hbW (Nat.le_refl _))
  have HE := hide hE
  have HSS := hide hs
  have HN := hide hn
  have zq : q < w.heap.size := h.qz
  have d0 : W.cell? ⟨w.heap.size, 0, none⟩ = some (.int .i64 4) := by rw [hW]; simp [go_sem]
  have d1 : W.cell? ⟨w.heap.size, 1, none⟩ = some (.int .i64 on) := by rw [hW]; simp [go_sem]
  have d2 : W.cell? ⟨w.heap.size, 2, none⟩ = some (.string s) := by rw [hW]; simp [go_sem]
  have d3 : W.cell? ⟨w.heap.size, 3, none⟩ = some (.int .i64 x) := by rw [hW]; simp [go_sem]
  have d4 : W.cell? ⟨w.heap.size, 4, none⟩ = some (.slice lo p.length lc) := by rw [hW]; simp [go_sem]
  obtain ⟨e1, e2⟩ := H.out.cur k t hk2 ht
  unfold Tri.pl at e1
  unfold Tri.pr at e2
  have hk0 : (0 : Int) ≤ (k : Int) := by omega
  have hk9 : (k : Int) < 2 := by omega
  have HT := hide ht
  have HOW := hide (show ∀ k, t.own k → k < w.heap.size from fun j hj => (h.obj k t ht).lt hj)
  have HD := hide (And.intro d2 (And.intro d3 d4))
  have HK := hide hk2
  have HBW := hide hbW
  have HW := hide hW
  have zWq : w.heap.size < W.heap.size := World.block_lt_of_cell? W _ d0
  have d9 : wrap64 (on.tmod 2 + 2) = wrap64 (on.tmod 2 + 2) := rfl
  clear h hE hs hn hbW ht hk2 hW d9
  go_enter Try.func16, Try.ntmps16
  go_wp2_with fail
  rw [← HW.out]
  go_wp2_with fail
  go_quiet (fail)
  obtain ⟨Z, hZ⟩ : ∃ Z, Z = W.drewN nq := ⟨_, rfl⟩
  rw [← hZ]
  have hbZ : Below W.heap.size W Z := by rw [hZ]; exact bdrewN (Below.refl _ _) nq
  have d0 := cell_stay d0 (hbZ.block _ zWq)
  have d2 := cell_stay d2 (hbZ.block _ zWq)
  have d3 := cell_stay d3 (hbZ.block _ zWq)
  have d4 := cell_stay d4 (hbZ.block _ zWq)
  have zZ := hbZ.size
  have H := hide (H.out.below hbZ (Nat.le_refl _))
  clear hbZ hZ e1 e2
  have P := H.out.obj k t HT.out
  have hac := P.g.accs
  have hpc := P.g.psts
  have hn2 := HN.out
  have HWF := hide (wf_int (x := 1073741824) (by decide) (by decide))
  have HAN := hide (show (1073741824 : Int) < 0 ∨ (t.S.acc.length : Int) ≤ 1073741824 from .inr (by omega))
  have HPN := hide (show x < 0 ∨ (t.S.posts.length : Int) ≤ x from .inr (by omega))
  clear hac hpc hn2
  have C1 := hide (Account_no I t.F t.S 1073741824 Z P.l HWF.out HAN.out)
  have C2 := hide (fun w1 (r : RObj I t.R t.S w1) => Account_rno I t.R t.S 1073741824 w1 r HAN.out)
  have C3 := hide (fun w1 (r : LObj I t.F t.S w1) => Posting_no I t.F t.S x w1 r HPN.out)
  have C4 := hide (fun w1 (r : RObj I t.R t.S w1) => Posting_rno I t.R t.S x w1 r HPN.out)
  have HP := hide P
  clear P
  clear d2 d4
  go_wp2_with fail
  refine (C1.out).mono ?_
  rintro e w1 ⟨rfl, hb1⟩
  obtain ⟨W1, hW1⟩ : ∃ W1, W1 = w1.alloc (.cells #[Value.string ⟨#[]⟩, .int .i64 0, .int .i64 0] 70) := ⟨_, rfl⟩
  have hb : Below Z.heap.size Z W1 := by rw [hW1]; exact hb1.alloc hb1.size _
  have HB1 := hide hb
  have hz1 := hb.size
  have d3 := cell_stay d3 (hb.block _ (by omega))
  have x10 : W1.cell? ⟨w1.heap.size, 0, none⟩ = (#[Value.string ⟨#[]⟩, .int .i64 0, .int .i64 0] : Array Value)[0]? := by rw [hW1]; simp [go_sem]
  have x11 : W1.cell? ⟨w1.heap.size, 1, none⟩ = (#[Value.string ⟨#[]⟩, .int .i64 0, .int .i64 0] : Array Value)[1]? := by rw [hW1]; simp [go_sem]
  have x12 : W1.cell? ⟨w1.heap.size, 2, none⟩ = (#[Value.string ⟨#[]⟩, .int .i64 0, .int .i64 0] : Array Value)[2]? := by rw [hW1]; simp [go_sem]
  simp only [List.getElem?_toArray, List.getElem?_cons_zero, List.getElem?_cons_succ] at x10 x11 x12
  have zx1 : w1.heap.size < W1.heap.size := World.block_lt_of_cell? W1 _ x10
  have HW1 := hide hW1
  clear hW1 hb hb1
  go_wp2_with fail
  rw [← HW1.out]
  refine (C2.out W1 (HP.out.r.below HB1.out)).mono ?_
  rintro e w2 ⟨rfl, hb2⟩
  obtain ⟨W2, hW2⟩ : ∃ W2, W2 = w2.alloc (.cells #[Value.string ⟨#[]⟩, .int .i64 0, .int .i64 0] 70) := ⟨_, rfl⟩
  have hb : Below W1.heap.size W1 W2 := by rw [hW2]; exact hb2.alloc hb2.size _
  have HB2 := hide hb
  have hz2 := hb.size
  have d3 := cell_stay d3 (hb.block _ (by omega))
  have x20 : W2.cell? ⟨w2.heap.size, 0, none⟩ = (#[Value.string ⟨#[]⟩, .int .i64 0, .int .i64 0] : Array Value)[0]? := by rw [hW2]; simp [go_sem]
  have x21 : W2.cell? ⟨w2.heap.size, 1, none⟩ = (#[Value.string ⟨#[]⟩, .int .i64 0, .int .i64 0] : Array Value)[1]? := by rw [hW2]; simp [go_sem]
  have x22 : W2.cell? ⟨w2.heap.size, 2, none⟩ = (#[Value.string ⟨#[]⟩, .int .i64 0, .int .i64 0] : Array Value)[2]? := by rw [hW2]; simp [go_sem]
  simp only [List.getElem?_toArray, List.getElem?_cons_zero, List.getElem?_cons_succ] at x20 x21 x22
  have zx2 : w2.heap.size < W2.heap.size := World.block_lt_of_cell? W2 _ x20
  have HW2 := hide hW2
  clear hW2 hb hb2
  have x10 := cell_stay x10 (HB2.out.block _ (by omega))
  have x11 := cell_stay x11 (HB2.out.block _ (by omega))
  have x12 := cell_stay x12 (HB2.out.block _ (by omega))
  go_upto_region 25 with fail
  rw [← HW2.out]
  go_wp2_with fail
  refine (C3.out W2 ((HP.out.l.below HB1.out).below HB2.out)).mono ?_
  rintro e w3 ⟨rfl, rfl⟩
  go_wp2_with fail
  refine (C4.out W2 ((HP.out.r.below HB1.out).below HB2.out)).mono ?_
  rintro e w4 ⟨rfl, rfl⟩
  clear d3
  have NQ := neq70 ⟨#[]⟩ 0 0
  go_wp2_with fail
  refine (SameEntries_r none none 0 0 [] [] W2 Ents.noneE Ents.noneE (by decide)).mono ?_
  rintro e w5 ⟨rfl, hb5⟩
  have HB5 := hide hb5
  have t1 : decide (([] : List Ent) = []) = true := by simp
  rw [t1]
  clear hb5 t1 NQ x10 x11 x12 x20 x21 x22
  go_wp2_with fail
  refine (over_c W2.heap.size 0 _ _ w5 (World.ownsRow_nil _ _ _ _) (by have := HB5.out.size; omega) (by decide)).mono ?_
  rintro e w6 ⟨⟨u6, rfl⟩, hb6⟩
  have HB6 := hide hb6
  clear hb6
  go_wp2
  go_ret
  have B2 := bstep HB1.out HB2.out
  have B3 := bstep B2 HB5.out
  exact ⟨rfl, I, T, ov, wv, H.out.below (B3.trans (HB6.out.mono B2.size)) (Nat.le_succ n)⟩

set_option maxRecDepth 1000000 in
set_option maxHeartbeats 4000000 in
theorem step_4no (w0 : World) (n : Nat) (I : Nat → Prop) (T : List Tri) (q : Nat) (ov wv : Value) (on x : Int) (s : ByteArray) (lo : Option Addr) (lc : Nat) (p : List Ent) (w : World) (h : St w0 n I T q ov wv w) (hE : Ents lo lc p w0) (hs : s.size ≤ maxLen) (hn : n < 120) (hx0 : -9 ≤ x) (hx : x ≤ 1073741824) (ha : x < 0) : Calls Try.prog 16 #[.pointer (some ⟨q, 0, none⟩), .agg #[.int .i64 4, .int .i64 on, .string s, .int .i64 x, .slice lo p.length lc]] w (StepPost w0 n q) := by
  obtain ⟨k, hk2, hk⟩ : ∃ k : Nat, k < 2 ∧ (wrap64 (on.tmod 2 + 2)).tmod 2 = (k : Int) := by
    rcases onK_two on with q | q
    · exact ⟨0, by omega, q⟩
    · exact ⟨1, by omega, q⟩
  obtain ⟨t, ht⟩ : ∃ t, T[k]? = some t := ⟨_, List.getElem?_eq_getElem (by have := h.two; omega)⟩
  obtain ⟨W, hW⟩ : ∃ W, W = w.alloc (.cells #[.int .i64 4, .int .i64 on, .string s, .int .i64 x, .slice lo p.length lc] 53) := ⟨_, rfl⟩
  have hbW : Below w.heap.size w W := by rw [hW]; (focus repeat' (first | (with_reducible exact Below.refl _ _) | (with_reducible assumption) | (with_reducible refine Below.alloc ?_ ?_ _) | (with_reducible refine Below.drew ?_) | (with_reducible refine bdrewN ?_ _) | (with_reducible refine Below.setCell ?_ ?_ _) | (first | (with_reducible exact Nat.le_refl _) | (with_reducible assumption) | omega | (simp; omega) | (simp; done))))
  have H := hide (h.below hbW (Nat.le_refl _))
  have HE := hide hE
  have HSS := hide hs
  have HN := hide hn
  have zq : q < w.heap.size := h.qz
  have d0 : W.cell? ⟨w.heap.size, 0, none⟩ = some (.int .i64 4) := by rw [hW]; simp [go_sem]
  have d1 : W.cell? ⟨w.heap.size, 1, none⟩ = some (.int .i64 on) := by rw [hW]; simp [go_sem]
  have d2 : W.cell? ⟨w.heap.size, 2, none⟩ = some (.string s) := by rw [hW]; simp [go_sem]
  have d3 : W.cell? ⟨w.heap.size, 3, none⟩ = some (.int .i64 x) := by rw [hW]; simp [go_sem]
  have d4 : W.cell? ⟨w.heap.size, 4, none⟩ = some (.slice lo p.length lc) := by rw [hW]; simp [go_sem]
  obtain ⟨e1, e2⟩ := H.out.cur k t hk2 ht
  unfold Tri.pl at e1
  unfold Tri.pr at e2
  have hk0 : (0 : Int) ≤ (k : Int) := by omega
  have hk9 : (k : Int) < 2 := by omega
  have HT := hide ht
  have HOW := hide (show ∀ k, t.own k → k < w.heap.size from fun j hj => (h.obj k t ht).lt hj)
  have HD := hide (And.intro d2 (And.intro d3 d4))
  have HK := hide hk2
  have HBW := hide hbW
  have HW := hide hW
  have zWq : w.heap.size < W.heap.size := World.block_lt_of_cell? W _ d0
  have d9 : wrap64 (on.tmod 2 + 2) = wrap64 (on.tmod 2 + 2) := rfl
  clear h hE hs hn hbW ht hk2 hW d9
  go_enter Try.func16, Try.ntmps16
  go_wp2_with fail
  rw [← HW.out]
  go_wp2_with fail
  go_quiet (fail)
  obtain ⟨Z, hZ⟩ : ∃ Z, Z = W.drewN nq := ⟨_, rfl⟩
  rw [← hZ]
  have hbZ : Below W.heap.size W Z := by rw [hZ]; exact bdrewN (Below.refl _ _) nq
  have d0 := cell_stay d0 (hbZ.block _ zWq)
  have d2 := cell_stay d2 (hbZ.block _ zWq)
  have d3 := cell_stay d3 (hbZ.block _ zWq)
  have d4 := cell_stay d4 (hbZ.block _ zWq)
  have zZ := hbZ.size
  have H := hide (H.out.below hbZ (Nat.le_refl _))
  clear hbZ hZ e1 e2
  have P := H.out.obj k t HT.out
  have HWF := hide (wf_int (x := x) (by omega) hx)
  have HAN := hide (show x < 0 ∨ (t.S.acc.length : Int) ≤ x from .inl ha)
  have HPN := hide (show x < 0 ∨ (t.S.posts.length : Int) ≤ x from .inl ha)
  have C1 := hide (Account_no I t.F t.S x Z P.l HWF.out HAN.out)
  have C2 := hide (fun w1 (r : RObj I t.R t.S w1) => Account_rno I t.R t.S x w1 r HAN.out)
  have C3 := hide (fun w1 (r : LObj I t.F t.S w1) => Posting_no I t.F t.S x w1 r HPN.out)
  have C4 := hide (fun w1 (r : RObj I t.R t.S w1) => Posting_rno I t.R t.S x w1 r HPN.out)
  have HP := hide P
  clear P
  clear d2 d4
  go_wp2_with fail
  refine (C1.out).mono ?_
  rintro e w1 ⟨rfl, hb1⟩
  obtain ⟨W1, hW1⟩ : ∃ W1, W1 = w1.alloc (.cells #[Value.string ⟨#[]⟩, .int .i64 0, .int .i64 0] 70) := ⟨_, rfl⟩
  have hb : Below Z.heap.size Z W1 := by rw [hW1]; exact hb1.alloc hb1.size _
  have HB1 := hide hb
  have hz1 := hb.size
  have d3 := cell_stay d3 (hb.block _ (by omega))
  have x10 : W1.cell? ⟨w1.heap.size, 0, none⟩ = (#[Value.string ⟨#[]⟩, .int .i64 0, .int .i64 0] : Array Value)[0]? := by rw [hW1]; simp [go_sem]
  have x11 : W1.cell? ⟨w1.heap.size, 1, none⟩ = (#[Value.string ⟨#[]⟩, .int .i64 0, .int .i64 0] : Array Value)[1]? := by rw [hW1]; simp [go_sem]
  have x12 : W1.cell? ⟨w1.heap.size, 2, none⟩ = (#[Value.string ⟨#[]⟩, .int .i64 0, .int .i64 0] : Array Value)[2]? := by rw [hW1]; simp [go_sem]
  simp only [List.getElem?_toArray, List.getElem?_cons_zero, List.getElem?_cons_succ] at x10 x11 x12
  have zx1 : w1.heap.size < W1.heap.size := World.block_lt_of_cell? W1 _ x10
  have HW1 := hide hW1
  clear hW1 hb hb1
  go_wp2_with fail
  rw [← HW1.out]
  refine (C2.out W1 (HP.out.r.below HB1.out)).mono ?_
  rintro e w2 ⟨rfl, hb2⟩
  obtain ⟨W2, hW2⟩ : ∃ W2, W2 = w2.alloc (.cells #[Value.string ⟨#[]⟩, .int .i64 0, .int .i64 0] 70) := ⟨_, rfl⟩
  have hb : Below W1.heap.size W1 W2 := by rw [hW2]; exact hb2.alloc hb2.size _
  have HB2 := hide hb
  have hz2 := hb.size
  have d3 := cell_stay d3 (hb.block _ (by omega))
  have x20 : W2.cell? ⟨w2.heap.size, 0, none⟩ = (#[Value.string ⟨#[]⟩, .int .i64 0, .int .i64 0] : Array Value)[0]? := by rw [hW2]; simp [go_sem]
  have x21 : W2.cell? ⟨w2.heap.size, 1, none⟩ = (#[Value.string ⟨#[]⟩, .int .i64 0, .int .i64 0] : Array Value)[1]? := by rw [hW2]; simp [go_sem]
  have x22 : W2.cell? ⟨w2.heap.size, 2, none⟩ = (#[Value.string ⟨#[]⟩, .int .i64 0, .int .i64 0] : Array Value)[2]? := by rw [hW2]; simp [go_sem]
  simp only [List.getElem?_toArray, List.getElem?_cons_zero, List.getElem?_cons_succ] at x20 x21 x22
  have zx2 : w2.heap.size < W2.heap.size := World.block_lt_of_cell? W2 _ x20
  have HW2 := hide hW2
  clear hW2 hb hb2
  have x10 := cell_stay x10 (HB2.out.block _ (by omega))
  have x11 := cell_stay x11 (HB2.out.block _ (by omega))
  have x12 := cell_stay x12 (HB2.out.block _ (by omega))
  go_upto_region 25 with fail
  rw [← HW2.out]
  go_wp2_with fail
  refine (C3.out W2 ((HP.out.l.below HB1.out).below HB2.out)).mono ?_
  rintro e w3 ⟨rfl, rfl⟩
  go_wp2_with fail
  refine (C4.out W2 ((HP.out.r.below HB1.out).below HB2.out)).mono ?_
  rintro e w4 ⟨rfl, rfl⟩
  clear d3
  have NQ := neq70 ⟨#[]⟩ 0 0
  go_wp2_with fail
  refine (SameEntries_r none none 0 0 [] [] W2 Ents.noneE Ents.noneE (by decide)).mono ?_
  rintro e w5 ⟨rfl, hb5⟩
  have HB5 := hide hb5
  have t1 : decide (([] : List Ent) = []) = true := by simp
  rw [t1]
  clear hb5 t1 NQ x10 x11 x12 x20 x21 x22
  go_wp2_with fail
  refine (over_c W2.heap.size 0 _ _ w5 (World.ownsRow_nil _ _ _ _) (by have := HB5.out.size; omega) (by decide)).mono ?_
  rintro e w6 ⟨⟨u6, rfl⟩, hb6⟩
  have HB6 := hide hb6
  clear hb6
  go_wp2
  go_ret
  have B2 := bstep HB1.out HB2.out
  have B3 := bstep B2 HB5.out
  exact ⟨rfl, I, T, ov, wv, H.out.below (B3.trans (HB6.out.mono B2.size)) (Nat.le_succ n)⟩

set_option maxRecDepth 1000000 in
set_option maxHeartbeats 4000000 in
theorem step_4in (w0 : World) (n : Nat) (I : Nat → Prop) (T : List Tri) (q : Nat) (ov wv : Value) (on x : Int) (s : ByteArray) (lo : Option Addr) (lc : Nat) (p : List Ent) (w : World) (h : St w0 n I T q ov wv w) (hE : Ents lo lc p w0) (hs : s.size ≤ maxLen) (hn : n < 120) (hx0 : 0 ≤ x) (hx : x ≤ 1073741824) : Calls Try.prog 16 #[.pointer (some ⟨q, 0, none⟩), .agg #[.int .i64 4, .int .i64 on, .string s, .int .i64 x, .slice lo p.length lc]] w (StepPost w0 n q) := by
  obtain ⟨k, hk2, hk⟩ : ∃ k : Nat, k < 2 ∧ (wrap64 (on.tmod 2 + 2)).tmod 2 = (k : Int) := by
    rcases onK_two on with q | q
    · exact ⟨0, by omega, q⟩
    · exact ⟨1, by omega, q⟩
  obtain ⟨t, ht⟩ : ∃ t, T[k]? = some t := ⟨_, List.getElem?_eq_getElem (by have := h.two; omega)⟩
  obtain ⟨W, hW⟩ : ∃ W, W = w.alloc (.cells #[.int .i64 4, .int .i64 on, .string s, .int .i64 x, .slice lo p.length lc] 53) := ⟨_, rfl⟩
  have hbW : Below w.heap.size w W := by rw [hW]; (focus repeat' (first | (with_reducible exact Below.refl _ _) | (with_reducible assumption) | (with_reducible refine Below.alloc ?_ ?_ _) | (with_reducible refine Below.drew ?_) | (with_reducible refine bdrewN ?_ _) | (with_reducible refine Below.setCell ?_ ?_ _) | (first | (with_reducible exact Nat.le_refl _) | (with_reducible assumption) | omega | (simp; omega) | (simp; done))))
  have H := hide (h.below hbW (Nat.le_refl _))
  have HE := hide hE
  have HSS := hide hs
  have HN := hide hn
  have zq : q < w.heap.size := h.qz
  have d0 : W.cell? ⟨w.heap.size, 0, none⟩ = some (.int .i64 4) := by rw [hW]; simp [go_sem]
  have d1 : W.cell? ⟨w.heap.size, 1, none⟩ = some (.int .i64 on) := by rw [hW]; simp [go_sem]
  have d2 : W.cell? ⟨w.heap.size, 2, none⟩ = some (.string s) := by rw [hW]; simp [go_sem]
  have d3 : W.cell? ⟨w.heap.size, 3, none⟩ = some (.int .i64 x) := by rw [hW]; simp [go_sem]
  have d4 : W.cell? ⟨w.heap.size, 4, none⟩ = some (.slice lo p.length lc) := by rw [hW]; simp [go_sem]
  obtain ⟨e1, e2⟩ := H.out.cur k t hk2 ht
  unfold Tri.pl at e1
  unfold Tri.pr at e2
  have hk0 : (0 : Int) ≤ (k : Int) := by omega
  have hk9 : (k : Int) < 2 := by omega
  have HT := hide ht
  have HOW := hide (show ∀ k, t.own k → k < w.heap.size from fun j hj => (h.obj k t ht).lt hj)
  have HD := hide (And.intro d2 (And.intro d3 d4))
  have HK := hide hk2
  have HBW := hide hbW
  have HW := hide hW
  have zWq : w.heap.size < W.heap.size := World.block_lt_of_cell? W _ d0
  have d9 : wrap64 (on.tmod 2 + 2) = wrap64 (on.tmod 2 + 2) := rfl
  clear h hE hs hn hbW ht hk2 hW d9
  go_enter Try.func16, Try.ntmps16
  go_wp2_with fail
  rw [← HW.out]
  go_wp2_with fail
  go_quiet (fail)
  obtain ⟨Z, hZ⟩ : ∃ Z, Z = W.drewN nq := ⟨_, rfl⟩
  rw [← hZ]
  have hbZ : Below W.heap.size W Z := by rw [hZ]; exact bdrewN (Below.refl _ _) nq
  have d0 := cell_stay d0 (hbZ.block _ zWq)
  have d2 := cell_stay d2 (hbZ.block _ zWq)
  have d3 := cell_stay d3 (hbZ.block _ zWq)
  have d4 := cell_stay d4 (hbZ.block _ zWq)
  have zZ := hbZ.size
  have H := hide (H.out.below hbZ (Nat.le_refl _))
  clear hbZ hZ e1 e2
  have P := H.out.obj k t HT.out
  obtain ⟨m, rfl⟩ : ∃ m : Nat, x = (m : Int) := ⟨x.toNat, by omega⟩
  have hx9 : -9 ≤ (m : Int) := by omega
  have HWF := hide (wf_int (x := (m : Int)) (by omega) hx)
  by_cases h1 : m < t.S.acc.length
  · obtain ⟨a, ha⟩ : ∃ a, t.S.acc[m]? = some a := ⟨_, List.getElem?_eq_getElem h1⟩
    by_cases h2 : m < t.S.posts.length
    · obtain ⟨pp, hpp⟩ : ∃ pp, t.S.posts[m]? = some pp := ⟨_, List.getElem?_eq_getElem h2⟩
      have C1 := hide (Account_yes I t.F t.S m a Z P.l ha (by have := P.g.accs; have := HN.out; have := (List.getElem?_eq_some_iff.1 ha).1; omega))
      have C2 := hide (fun w1 (r : RObj I t.R t.S w1) => Account_ryes I t.R t.S m a w1 r P.g.fine P.g.agree ha)
      have HPL := hide (show pp.length ≤ 4503599627370496 by have := (P.g.fine.frm pp (List.mem_of_getElem? hpp)).2.1; omega)
      have C3 := hide (fun w1 (r : LObj I t.F t.S w1) => Posting_yes I t.F t.S m pp w1 r hpp P.g.fine.few (by have := (P.g.fine.frm pp (List.mem_of_getElem? hpp)).2.1; omega))
      have C4 := hide (fun w1 (r : RObj I t.R t.S w1) => Posting_ryes I t.R t.S m pp w1 r hpp)
      have HP := hide P
      clear P
      clear h1 h2 ha hpp
      clear d2 d4
      go_wp2_with fail
      refine (C1.out).mono ?_
      rintro e w1 ⟨rfl, hb1⟩
      obtain ⟨W1, hW1⟩ : ∃ W1, W1 = w1.alloc (.cells #[Value.string a.name, .int .i64 a.least, .int .i64 a.has] 70) := ⟨_, rfl⟩
      have hb : Below Z.heap.size Z W1 := by rw [hW1]; exact hb1.alloc hb1.size _
      have HB1 := hide hb
      have hz1 := hb.size
      have d3 := cell_stay d3 (hb.block _ (by omega))
      have x10 : W1.cell? ⟨w1.heap.size, 0, none⟩ = (#[Value.string a.name, .int .i64 a.least, .int .i64 a.has] : Array Value)[0]? := by rw [hW1]; simp [go_sem]
      have x11 : W1.cell? ⟨w1.heap.size, 1, none⟩ = (#[Value.string a.name, .int .i64 a.least, .int .i64 a.has] : Array Value)[1]? := by rw [hW1]; simp [go_sem]
      have x12 : W1.cell? ⟨w1.heap.size, 2, none⟩ = (#[Value.string a.name, .int .i64 a.least, .int .i64 a.has] : Array Value)[2]? := by rw [hW1]; simp [go_sem]
      simp only [List.getElem?_toArray, List.getElem?_cons_zero, List.getElem?_cons_succ] at x10 x11 x12
      have zx1 : w1.heap.size < W1.heap.size := World.block_lt_of_cell? W1 _ x10
      have HW1 := hide hW1
      clear hW1 hb hb1
      go_wp2_with fail
      rw [← HW1.out]
      refine (C2.out W1 (HP.out.r.below HB1.out)).mono ?_
      rintro e w2 ⟨rfl, hb2⟩
      obtain ⟨W2, hW2⟩ : ∃ W2, W2 = w2.alloc (.cells #[Value.string a.name, .int .i64 a.least, .int .i64 a.has] 70) := ⟨_, rfl⟩
      have hb : Below W1.heap.size W1 W2 := by rw [hW2]; exact hb2.alloc hb2.size _
      have HB2 := hide hb
      have hz2 := hb.size
      have d3 := cell_stay d3 (hb.block _ (by omega))
      have x20 : W2.cell? ⟨w2.heap.size, 0, none⟩ = (#[Value.string a.name, .int .i64 a.least, .int .i64 a.has] : Array Value)[0]? := by rw [hW2]; simp [go_sem]
      have x21 : W2.cell? ⟨w2.heap.size, 1, none⟩ = (#[Value.string a.name, .int .i64 a.least, .int .i64 a.has] : Array Value)[1]? := by rw [hW2]; simp [go_sem]
      have x22 : W2.cell? ⟨w2.heap.size, 2, none⟩ = (#[Value.string a.name, .int .i64 a.least, .int .i64 a.has] : Array Value)[2]? := by rw [hW2]; simp [go_sem]
      simp only [List.getElem?_toArray, List.getElem?_cons_zero, List.getElem?_cons_succ] at x20 x21 x22
      have zx2 : w2.heap.size < W2.heap.size := World.block_lt_of_cell? W2 _ x20
      have HW2 := hide hW2
      clear hW2 hb hb2
      have x10 := cell_stay x10 (HB2.out.block _ (by omega))
      have x11 := cell_stay x11 (HB2.out.block _ (by omega))
      have x12 := cell_stay x12 (HB2.out.block _ (by omega))
      go_upto_region 25 with fail
      rw [← HW2.out]
      go_wp2_with fail
      refine (C3.out W2 ((HP.out.l.below HB1.out).below HB2.out)).mono ?_
      rintro e w3 ⟨v3, rfl, own3, hb3⟩
      have HB3 := hide hb3
      have hz3 := hb3.size
      obtain ⟨so3, cap3, ev3, he3⟩ := Ents.of_own own3
      subst ev3
      have HO3 := hide own3
      have HE3 := hide he3
      have d3 := cell_stay d3 (hb3.block _ (by omega))
      have x10 := cell_stay x10 (HB3.out.block _ (by omega))
      have x11 := cell_stay x11 (HB3.out.block _ (by omega))
      have x12 := cell_stay x12 (HB3.out.block _ (by omega))
      have x20 := cell_stay x20 (HB3.out.block _ (by omega))
      have x21 := cell_stay x21 (HB3.out.block _ (by omega))
      have x22 := cell_stay x22 (HB3.out.block _ (by omega))
      clear hb3 own3 he3
      go_wp2_with fail
      refine (C4.out w3 (((HP.out.r.below HB1.out).below HB2.out).below HB3.out)).mono ?_
      rintro e w4 ⟨⟨so4, cap4, rfl, hr4⟩, rfl⟩
      have HE4 := hide (show Ents so4 cap4 pp w3 from by
        obtain ⟨so', cap', e, hE⟩ := Ents.of_own hr4.1
        injection e with e1 e2 e3
        rw [e1, e3]; exact hE)
      clear hr4 d3
      have NQ := neq70 a.name a.least a.has
      go_wp2_with fail
      refine (SameEntries_r so3 so4 cap3 cap4 pp pp w3 HE3.out HE4.out HPL.out).mono ?_
      rintro e w5 ⟨rfl, hb5⟩
      have HB5 := hide hb5
      have t1 : decide (pp = pp) = true := by simp
      rw [t1]
      clear hb5 t1 NQ x10 x11 x12 x20 x21 x22
      go_wp2_with fail
      refine (over_c W2.heap.size pp.length _ _ w5 (own_stays HO3.out (fun k hk => HB5.out.block k (HO3.out.lt k hk).2)) (by have := HB5.out.size; omega) HPL.out).mono ?_
      rintro e w6 ⟨⟨u6, rfl⟩, hb6⟩
      have HB6 := hide hb6
      clear hb6
      go_wp2
      go_ret
      have B2 := bstep HB1.out HB2.out
      have B3 := bstep (bstep B2 HB3.out) HB5.out
      exact ⟨rfl, I, T, ov, wv, H.out.below (B3.trans (HB6.out.mono B2.size)) (Nat.le_succ n)⟩
    · have HPN := hide (show (m : Int) < 0 ∨ (t.S.posts.length : Int) ≤ (m : Int) from .inr (by omega))
      have C1 := hide (Account_yes I t.F t.S m a Z P.l ha (by have := P.g.accs; have := HN.out; have := (List.getElem?_eq_some_iff.1 ha).1; omega))
      have C2 := hide (fun w1 (r : RObj I t.R t.S w1) => Account_ryes I t.R t.S m a w1 r P.g.fine P.g.agree ha)
      have C3 := hide (fun w1 (r : LObj I t.F t.S w1) => Posting_no I t.F t.S (m : Int) w1 r HPN.out)
      have C4 := hide (fun w1 (r : RObj I t.R t.S w1) => Posting_rno I t.R t.S (m : Int) w1 r HPN.out)
      have HP := hide P
      clear P
      clear h1 h2 ha
      clear d2 d4
      go_wp2_with fail
      refine (C1.out).mono ?_
      rintro e w1 ⟨rfl, hb1⟩
      obtain ⟨W1, hW1⟩ : ∃ W1, W1 = w1.alloc (.cells #[Value.string a.name, .int .i64 a.least, .int .i64 a.has] 70) := ⟨_, rfl⟩
      have hb : Below Z.heap.size Z W1 := by rw [hW1]; exact hb1.alloc hb1.size _
      have HB1 := hide hb
      have hz1 := hb.size
      have d3 := cell_stay d3 (hb.block _ (by omega))
      have x10 : W1.cell? ⟨w1.heap.size, 0, none⟩ = (#[Value.string a.name, .int .i64 a.least, .int .i64 a.has] : Array Value)[0]? := by rw [hW1]; simp [go_sem]
      have x11 : W1.cell? ⟨w1.heap.size, 1, none⟩ = (#[Value.string a.name, .int .i64 a.least, .int .i64 a.has] : Array Value)[1]? := by rw [hW1]; simp [go_sem]
      have x12 : W1.cell? ⟨w1.heap.size, 2, none⟩ = (#[Value.string a.name, .int .i64 a.least, .int .i64 a.has] : Array Value)[2]? := by rw [hW1]; simp [go_sem]
      simp only [List.getElem?_toArray, List.getElem?_cons_zero, List.getElem?_cons_succ] at x10 x11 x12
      have zx1 : w1.heap.size < W1.heap.size := World.block_lt_of_cell? W1 _ x10
      have HW1 := hide hW1
      clear hW1 hb hb1
      go_wp2_with fail
      rw [← HW1.out]
      refine (C2.out W1 (HP.out.r.below HB1.out)).mono ?_
      rintro e w2 ⟨rfl, hb2⟩
      obtain ⟨W2, hW2⟩ : ∃ W2, W2 = w2.alloc (.cells #[Value.string a.name, .int .i64 a.least, .int .i64 a.has] 70) := ⟨_, rfl⟩
      have hb : Below W1.heap.size W1 W2 := by rw [hW2]; exact hb2.alloc hb2.size _
      have HB2 := hide hb
      have hz2 := hb.size
      have d3 := cell_stay d3 (hb.block _ (by omega))
      have x20 : W2.cell? ⟨w2.heap.size, 0, none⟩ = (#[Value.string a.name, .int .i64 a.least, .int .i64 a.has] : Array Value)[0]? := by rw [hW2]; simp [go_sem]
      have x21 : W2.cell? ⟨w2.heap.size, 1, none⟩ = (#[Value.string a.name, .int .i64 a.least, .int .i64 a.has] : Array Value)[1]? := by rw [hW2]; simp [go_sem]
      have x22 : W2.cell? ⟨w2.heap.size, 2, none⟩ = (#[Value.string a.name, .int .i64 a.least, .int .i64 a.has] : Array Value)[2]? := by rw [hW2]; simp [go_sem]
      simp only [List.getElem?_toArray, List.getElem?_cons_zero, List.getElem?_cons_succ] at x20 x21 x22
      have zx2 : w2.heap.size < W2.heap.size := World.block_lt_of_cell? W2 _ x20
      have HW2 := hide hW2
      clear hW2 hb hb2
      have x10 := cell_stay x10 (HB2.out.block _ (by omega))
      have x11 := cell_stay x11 (HB2.out.block _ (by omega))
      have x12 := cell_stay x12 (HB2.out.block _ (by omega))
      go_upto_region 25 with fail
      rw [← HW2.out]
      go_wp2_with fail
      refine (C3.out W2 ((HP.out.l.below HB1.out).below HB2.out)).mono ?_
      rintro e w3 ⟨rfl, rfl⟩
      go_wp2_with fail
      refine (C4.out W2 ((HP.out.r.below HB1.out).below HB2.out)).mono ?_
      rintro e w4 ⟨rfl, rfl⟩
      clear d3
      have NQ := neq70 a.name a.least a.has
      go_wp2_with fail
      refine (SameEntries_r none none 0 0 [] [] W2 Ents.noneE Ents.noneE (by decide)).mono ?_
      rintro e w5 ⟨rfl, hb5⟩
      have HB5 := hide hb5
      have t1 : decide (([] : List Ent) = []) = true := by simp
      rw [t1]
      clear hb5 t1 NQ x10 x11 x12 x20 x21 x22
      go_wp2_with fail
      refine (over_c W2.heap.size 0 _ _ w5 (World.ownsRow_nil _ _ _ _) (by have := HB5.out.size; omega) (by decide)).mono ?_
      rintro e w6 ⟨⟨u6, rfl⟩, hb6⟩
      have HB6 := hide hb6
      clear hb6
      go_wp2
      go_ret
      have B2 := bstep HB1.out HB2.out
      have B3 := bstep B2 HB5.out
      exact ⟨rfl, I, T, ov, wv, H.out.below (B3.trans (HB6.out.mono B2.size)) (Nat.le_succ n)⟩
  · have HAN := hide (show (m : Int) < 0 ∨ (t.S.acc.length : Int) ≤ (m : Int) from .inr (by omega))
    by_cases h2 : m < t.S.posts.length
    · obtain ⟨pp, hpp⟩ : ∃ pp, t.S.posts[m]? = some pp := ⟨_, List.getElem?_eq_getElem h2⟩
      have C1 := hide (Account_no I t.F t.S (m : Int) Z P.l HWF.out HAN.out)
      have C2 := hide (fun w1 (r : RObj I t.R t.S w1) => Account_rno I t.R t.S (m : Int) w1 r HAN.out)
      have HPL := hide (show pp.length ≤ 4503599627370496 by have := (P.g.fine.frm pp (List.mem_of_getElem? hpp)).2.1; omega)
      have C3 := hide (fun w1 (r : LObj I t.F t.S w1) => Posting_yes I t.F t.S m pp w1 r hpp P.g.fine.few (by have := (P.g.fine.frm pp (List.mem_of_getElem? hpp)).2.1; omega))
      have C4 := hide (fun w1 (r : RObj I t.R t.S w1) => Posting_ryes I t.R t.S m pp w1 r hpp)
      have HP := hide P
      clear P
      clear h1 h2 hpp
      clear d2 d4
      go_wp2_with fail
      refine (C1.out).mono ?_
      rintro e w1 ⟨rfl, hb1⟩
      obtain ⟨W1, hW1⟩ : ∃ W1, W1 = w1.alloc (.cells #[Value.string ⟨#[]⟩, .int .i64 0, .int .i64 0] 70) := ⟨_, rfl⟩
      have hb : Below Z.heap.size Z W1 := by rw [hW1]; exact hb1.alloc hb1.size _
      have HB1 := hide hb
      have hz1 := hb.size
      have d3 := cell_stay d3 (hb.block _ (by omega))
      have x10 : W1.cell? ⟨w1.heap.size, 0, none⟩ = (#[Value.string ⟨#[]⟩, .int .i64 0, .int .i64 0] : Array Value)[0]? := by rw [hW1]; simp [go_sem]
      have x11 : W1.cell? ⟨w1.heap.size, 1, none⟩ = (#[Value.string ⟨#[]⟩, .int .i64 0, .int .i64 0] : Array Value)[1]? := by rw [hW1]; simp [go_sem]
      have x12 : W1.cell? ⟨w1.heap.size, 2, none⟩ = (#[Value.string ⟨#[]⟩, .int .i64 0, .int .i64 0] : Array Value)[2]? := by rw [hW1]; simp [go_sem]
      simp only [List.getElem?_toArray, List.getElem?_cons_zero, List.getElem?_cons_succ] at x10 x11 x12
      have zx1 : w1.heap.size < W1.heap.size := World.block_lt_of_cell? W1 _ x10
      have HW1 := hide hW1
      clear hW1 hb hb1
      go_wp2_with fail
      rw [← HW1.out]
      refine (C2.out W1 (HP.out.r.below HB1.out)).mono ?_
      rintro e w2 ⟨rfl, hb2⟩
      obtain ⟨W2, hW2⟩ : ∃ W2, W2 = w2.alloc (.cells #[Value.string ⟨#[]⟩, .int .i64 0, .int .i64 0] 70) := ⟨_, rfl⟩
      have hb : Below W1.heap.size W1 W2 := by rw [hW2]; exact hb2.alloc hb2.size _
      have HB2 := hide hb
      have hz2 := hb.size
      have d3 := cell_stay d3 (hb.block _ (by omega))
      have x20 : W2.cell? ⟨w2.heap.size, 0, none⟩ = (#[Value.string ⟨#[]⟩, .int .i64 0, .int .i64 0] : Array Value)[0]? := by rw [hW2]; simp [go_sem]
      have x21 : W2.cell? ⟨w2.heap.size, 1, none⟩ = (#[Value.string ⟨#[]⟩, .int .i64 0, .int .i64 0] : Array Value)[1]? := by rw [hW2]; simp [go_sem]
      have x22 : W2.cell? ⟨w2.heap.size, 2, none⟩ = (#[Value.string ⟨#[]⟩, .int .i64 0, .int .i64 0] : Array Value)[2]? := by rw [hW2]; simp [go_sem]
      simp only [List.getElem?_toArray, List.getElem?_cons_zero, List.getElem?_cons_succ] at x20 x21 x22
      have zx2 : w2.heap.size < W2.heap.size := World.block_lt_of_cell? W2 _ x20
      have HW2 := hide hW2
      clear hW2 hb hb2
      have x10 := cell_stay x10 (HB2.out.block _ (by omega))
      have x11 := cell_stay x11 (HB2.out.block _ (by omega))
      have x12 := cell_stay x12 (HB2.out.block _ (by omega))
      go_upto_region 25 with fail
      rw [← HW2.out]
      go_wp2_with fail
      refine (C3.out W2 ((HP.out.l.below HB1.out).below HB2.out)).mono ?_
      rintro e w3 ⟨v3, rfl, own3, hb3⟩
      have HB3 := hide hb3
      have hz3 := hb3.size
      obtain ⟨so3, cap3, ev3, he3⟩ := Ents.of_own own3
      subst ev3
      have HO3 := hide own3
      have HE3 := hide he3
      have d3 := cell_stay d3 (hb3.block _ (by omega))
      have x10 := cell_stay x10 (HB3.out.block _ (by omega))
      have x11 := cell_stay x11 (HB3.out.block _ (by omega))
      have x12 := cell_stay x12 (HB3.out.block _ (by omega))
      have x20 := cell_stay x20 (HB3.out.block _ (by omega))
      have x21 := cell_stay x21 (HB3.out.block _ (by omega))
      have x22 := cell_stay x22 (HB3.out.block _ (by omega))
      clear hb3 own3 he3
      go_wp2_with fail
      refine (C4.out w3 (((HP.out.r.below HB1.out).below HB2.out).below HB3.out)).mono ?_
      rintro e w4 ⟨⟨so4, cap4, rfl, hr4⟩, rfl⟩
      have HE4 := hide (show Ents so4 cap4 pp w3 from by
        obtain ⟨so', cap', e, hE⟩ := Ents.of_own hr4.1
        injection e with e1 e2 e3
        rw [e1, e3]; exact hE)
      clear hr4 d3
      have NQ := neq70 ⟨#[]⟩ 0 0
      go_wp2_with fail
      refine (SameEntries_r so3 so4 cap3 cap4 pp pp w3 HE3.out HE4.out HPL.out).mono ?_
      rintro e w5 ⟨rfl, hb5⟩
      have HB5 := hide hb5
      have t1 : decide (pp = pp) = true := by simp
      rw [t1]
      clear hb5 t1 NQ x10 x11 x12 x20 x21 x22
      go_wp2_with fail
      refine (over_c W2.heap.size pp.length _ _ w5 (own_stays HO3.out (fun k hk => HB5.out.block k (HO3.out.lt k hk).2)) (by have := HB5.out.size; omega) HPL.out).mono ?_
      rintro e w6 ⟨⟨u6, rfl⟩, hb6⟩
      have HB6 := hide hb6
      clear hb6
      go_wp2
      go_ret
      have B2 := bstep HB1.out HB2.out
      have B3 := bstep (bstep B2 HB3.out) HB5.out
      exact ⟨rfl, I, T, ov, wv, H.out.below (B3.trans (HB6.out.mono B2.size)) (Nat.le_succ n)⟩
    · have HPN := hide (show (m : Int) < 0 ∨ (t.S.posts.length : Int) ≤ (m : Int) from .inr (by omega))
      have C1 := hide (Account_no I t.F t.S (m : Int) Z P.l HWF.out HAN.out)
      have C2 := hide (fun w1 (r : RObj I t.R t.S w1) => Account_rno I t.R t.S (m : Int) w1 r HAN.out)
      have C3 := hide (fun w1 (r : LObj I t.F t.S w1) => Posting_no I t.F t.S (m : Int) w1 r HPN.out)
      have C4 := hide (fun w1 (r : RObj I t.R t.S w1) => Posting_rno I t.R t.S (m : Int) w1 r HPN.out)
      have HP := hide P
      clear P
      clear h1 h2
      clear d2 d4
      go_wp2_with fail
      refine (C1.out).mono ?_
      rintro e w1 ⟨rfl, hb1⟩
      obtain ⟨W1, hW1⟩ : ∃ W1, W1 = w1.alloc (.cells #[Value.string ⟨#[]⟩, .int .i64 0, .int .i64 0] 70) := ⟨_, rfl⟩
      have hb : Below Z.heap.size Z W1 := by rw [hW1]; exact hb1.alloc hb1.size _
      have HB1 := hide hb
      have hz1 := hb.size
      have d3 := cell_stay d3 (hb.block _ (by omega))
      have x10 : W1.cell? ⟨w1.heap.size, 0, none⟩ = (#[Value.string ⟨#[]⟩, .int .i64 0, .int .i64 0] : Array Value)[0]? := by rw [hW1]; simp [go_sem]
      have x11 : W1.cell? ⟨w1.heap.size, 1, none⟩ = (#[Value.string ⟨#[]⟩, .int .i64 0, .int .i64 0] : Array Value)[1]? := by rw [hW1]; simp [go_sem]
      have x12 : W1.cell? ⟨w1.heap.size, 2, none⟩ = (#[Value.string ⟨#[]⟩, .int .i64 0, .int .i64 0] : Array Value)[2]? := by rw [hW1]; simp [go_sem]
      simp only [List.getElem?_toArray, List.getElem?_cons_zero, List.getElem?_cons_succ] at x10 x11 x12
      have zx1 : w1.heap.size < W1.heap.size := World.block_lt_of_cell? W1 _ x10
      have HW1 := hide hW1
      clear hW1 hb hb1
      go_wp2_with fail
      rw [← HW1.out]
      refine (C2.out W1 (HP.out.r.below HB1.out)).mono ?_
      rintro e w2 ⟨rfl, hb2⟩
      obtain ⟨W2, hW2⟩ : ∃ W2, W2 = w2.alloc (.cells #[Value.string ⟨#[]⟩, .int .i64 0, .int .i64 0] 70) := ⟨_, rfl⟩
      have hb : Below W1.heap.size W1 W2 := by rw [hW2]; exact hb2.alloc hb2.size _
      have HB2 := hide hb
      have hz2 := hb.size
      have d3 := cell_stay d3 (hb.block _ (by omega))
      have x20 : W2.cell? ⟨w2.heap.size, 0, none⟩ = (#[Value.string ⟨#[]⟩, .int .i64 0, .int .i64 0] : Array Value)[0]? := by rw [hW2]; simp [go_sem]
      have x21 : W2.cell? ⟨w2.heap.size, 1, none⟩ = (#[Value.string ⟨#[]⟩, .int .i64 0, .int .i64 0] : Array Value)[1]? := by rw [hW2]; simp [go_sem]
      have x22 : W2.cell? ⟨w2.heap.size, 2, none⟩ = (#[Value.string ⟨#[]⟩, .int .i64 0, .int .i64 0] : Array Value)[2]? := by rw [hW2]; simp [go_sem]
      simp only [List.getElem?_toArray, List.getElem?_cons_zero, List.getElem?_cons_succ] at x20 x21 x22
      have zx2 : w2.heap.size < W2.heap.size := World.block_lt_of_cell? W2 _ x20
      have HW2 := hide hW2
      clear hW2 hb hb2
      have x10 := cell_stay x10 (HB2.out.block _ (by omega))
      have x11 := cell_stay x11 (HB2.out.block _ (by omega))
      have x12 := cell_stay x12 (HB2.out.block _ (by omega))
      go_upto_region 25 with fail
      rw [← HW2.out]
      go_wp2_with fail
      refine (C3.out W2 ((HP.out.l.below HB1.out).below HB2.out)).mono ?_
      rintro e w3 ⟨rfl, rfl⟩
      go_wp2_with fail
      refine (C4.out W2 ((HP.out.r.below HB1.out).below HB2.out)).mono ?_
      rintro e w4 ⟨rfl, rfl⟩
      clear d3
      have NQ := neq70 ⟨#[]⟩ 0 0
      go_wp2_with fail
      refine (SameEntries_r none none 0 0 [] [] W2 Ents.noneE Ents.noneE (by decide)).mono ?_
      rintro e w5 ⟨rfl, hb5⟩
      have HB5 := hide hb5
      have t1 : decide (([] : List Ent) = []) = true := by simp
      rw [t1]
      clear hb5 t1 NQ x10 x11 x12 x20 x21 x22
      go_wp2_with fail
      refine (over_c W2.heap.size 0 _ _ w5 (World.ownsRow_nil _ _ _ _) (by have := HB5.out.size; omega) (by decide)).mono ?_
      rintro e w6 ⟨⟨u6, rfl⟩, hb6⟩
      have HB6 := hide hb6
      clear hb6
      go_wp2
      go_ret
      have B2 := bstep HB1.out HB2.out
      have B3 := bstep B2 HB5.out
      exact ⟨rfl, I, T, ov, wv, H.out.below (B3.trans (HB6.out.mono B2.size)) (Nat.le_succ n)⟩
end Go.Proofs.Ytkdocoibfclfeaa

namespace Go.Proofs.Ytkdocoibfclfeaa
open Go.ChangeShapes Go.WideShapes Go.ChangeAt Go.RowKit Go.Deep Go.Shelf Go.Maps Go.WideMaps Ytkdocoibfclfeaa.it
set_option linter.unusedSimpArgs false
set_option linter.unusedVariables false

attribute [local go_sem] Oper.semAt_some

set_option maxRecDepth 1000000 in
set_option maxHeartbeats 4000000 in
theorem step_8 (w0 : World) (n : Nat) (I : Nat → Prop) (T : List Tri) (q : Nat) (ov wv : Value) (on x : Int) (s : ByteArray) (lo : Option Addr) (lc : Nat) (p : List Ent) (w : World) (h : St w0 n I T q ov wv w) (hE : Ents lo lc p w0) (hs : s.size ≤ maxLen) (hn : n < 120) : Calls Try.prog 16 #[.pointer (some ⟨q, 0, none⟩), .agg #[.int .i64 8, .int .i64 on, .string s, .int .i64 x, .slice lo p.length lc]] w (StepPost w0 n q) := by
  obtain ⟨k, hk2, hk⟩ : ∃ k : Nat, k < 2 ∧ (wrap64 (on.tmod 2 + 2)).tmod 2 = (k : Int) := by
    rcases onK_two on with q | q
    · exact ⟨0, by omega, q⟩
    · exact ⟨1, by omega, q⟩
  obtain ⟨t, ht⟩ : ∃ t, T[k]? = some t := ⟨_, List.getElem?_eq_getElem (by have := h.two; omega)⟩
  obtain ⟨W, hW⟩ : ∃ W, W = w.alloc (.cells #[.int .i64 8, .int .i64 on, .string s, .int .i64 x, .slice lo p.length lc] 53) := ⟨_, rfl⟩
  have hbW : Below w.heap.size w W := by rw [hW]; (focus repeat' (first | (with_reducible exact Below.refl _ _) | (with_reducible assumption) | (with_reducible refine Below.alloc ?_ ?_ _) | (with_reducible refine Below.drew ?_) | (with_reducible refine bdrewN ?_ _) | (with_reducible refine Below.setCell ?_ ?_ _) | (first | (with_reducible exact Nat.le_refl _) | (with_reducible assumption) | omega | (simp; omega) | (simp; done))))
  have H := hide (h.below hbW (Nat.le_refl _))
  have HE := hide hE
  have HSS := hide hs
  have HN := hide hn
  have zq : q < w.heap.size := h.qz
  have d0 : W.cell? ⟨w.heap.size, 0, none⟩ = some (.int .i64 8) := by rw [hW]; simp [go_sem]
  have d1 : W.cell? ⟨w.heap.size, 1, none⟩ = some (.int .i64 on) := by rw [hW]; simp [go_sem]
  have d2 : W.cell? ⟨w.heap.size, 2, none⟩ = some (.string s) := by rw [hW]; simp [go_sem]
  have d3 : W.cell? ⟨w.heap.size, 3, none⟩ = some (.int .i64 x) := by rw [hW]; simp [go_sem]
  have d4 : W.cell? ⟨w.heap.size, 4, none⟩ = some (.slice lo p.length lc) := by rw [hW]; simp [go_sem]
  obtain ⟨e1, e2⟩ := H.out.cur k t hk2 ht
  unfold Tri.pl at e1
  unfold Tri.pr at e2
  have hk0 : (0 : Int) ≤ (k : Int) := by omega
  have hk9 : (k : Int) < 2 := by omega
  have HT := hide ht
  have HOW := hide (show ∀ k, t.own k → k < w.heap.size from fun j hj => (h.obj k t ht).lt hj)
  have HD := hide (And.intro d2 (And.intro d3 d4))
  have HK := hide hk2
  have HBW := hide hbW
  have HW := hide hW
  have zWq : w.heap.size < W.heap.size := World.block_lt_of_cell? W _ d0
  have d9 : wrap64 (on.tmod 2 + 2) = wrap64 (on.tmod 2 + 2) := rfl
  clear h hE hs hn hbW ht hk2 hW d9
  go_enter Try.func16, Try.ntmps16
  go_wp2_with fail
  rw [← HW.out]
  go_wp2_with fail
  go_quiet (fail)
  obtain ⟨Z, hZ⟩ : ∃ Z, Z = W.drewN nq := ⟨_, rfl⟩
  rw [← hZ]
  have hbZ : Below W.heap.size W Z := by rw [hZ]; exact bdrewN (Below.refl _ _) nq
  have d0 := cell_stay d0 (hbZ.block _ zWq)
  have d2 := cell_stay d2 (hbZ.block _ zWq)
  have d3 := cell_stay d3 (hbZ.block _ zWq)
  have d4 := cell_stay d4 (hbZ.block _ zWq)
  have zZ := hbZ.size
  have H := hide (H.out.below hbZ (Nat.le_refl _))
  clear hbZ hZ e1 e2
  obtain ⟨t0, h0⟩ : ∃ t, T[0]? = some t := ⟨_, List.getElem?_eq_getElem (by have := H.out.two; omega)⟩
  obtain ⟨t1, h1⟩ : ∃ t, T[1]? = some t := ⟨_, List.getElem?_eq_getElem (by have := H.out.two; omega)⟩
  have P0 := hide (H.out.obj 0 t0 h0)
  have P1 := hide (H.out.obj 1 t1 h1)
  obtain ⟨a0, a1⟩ := H.out.cur 0 t0 (by decide) h0
  obtain ⟨b0, b1⟩ := H.out.cur 1 t1 (by decide) h1
  unfold Tri.pl at a0 b0
  unfold Tri.pr at a1 b1
  have zq2 := H.out.qz
  obtain ⟨u, hu⟩ : ∃ u, u = sameB t0.S t1.S := ⟨_, rfl⟩
  obtain ⟨v, hv⟩ : ∃ v, v = sameB t1.S t0.S := ⟨_, rfl⟩
  have A1 := hide (show ∀ w', Below Z.heap.size Z w' → Calls Try.prog 18 #[.pointer (some ⟨t0.F.b, 0, none⟩), .pointer (some ⟨t1.F.b, 0, none⟩)] w' fun e w'' => e = .returned (.bool u) ∧ Below w'.heap.size w' w'' from fun w' hb => by rw [hu]; exact Same_ff I t0.F t1.F t0.S t1.S w' (P0.out.l.below hb) (P1.out.l.below hb) P0.out.g.fine P0.out.g.agree.few)
  have A2 := hide (show ∀ w', Below Z.heap.size Z w' → Calls Try.prog 18 #[.pointer (some ⟨t1.F.b, 0, none⟩), .pointer (some ⟨t0.F.b, 0, none⟩)] w' fun e w'' => e = .returned (.bool v) ∧ Below w'.heap.size w' w'' from fun w' hb => by rw [hv]; exact Same_ff I t1.F t0.F t1.S t0.S w' (P1.out.l.below hb) (P0.out.l.below hb) P1.out.g.fine P1.out.g.agree.few)
  have A3 := hide (show ∀ w', Below Z.heap.size Z w' → Calls Try.prog 44 #[.pointer (some ⟨t0.R.r, 0, none⟩), .pointer (some ⟨t1.R.r, 0, none⟩)] w' fun e w'' => e = .returned (.bool u) ∧ Below w'.heap.size w' w'' from fun w' hb => by rw [hu]; exact Same_r I t0.R t1.R t0.S t1.S w' (P0.out.r.below hb) (P1.out.r.below hb) P0.out.g.fine P0.out.g.agree)
  have A4 := hide (show ∀ w', Below Z.heap.size Z w' → Calls Try.prog 44 #[.pointer (some ⟨t1.R.r, 0, none⟩), .pointer (some ⟨t0.R.r, 0, none⟩)] w' fun e w'' => e = .returned (.bool v) ∧ Below w'.heap.size w' w'' from fun w' hb => by rw [hv]; exact Same_r I t1.R t0.R t1.S t0.S w' (P1.out.r.below hb) (P0.out.r.below hb) P1.out.g.fine P1.out.g.agree)
  have u1 : (u == u) = true := by simp
  have v1 : (v == v) = true := by simp
  have u2 : decide (u = u) = true := by simp
  have v2 : decide (v = v) = true := by simp
  clear hu hv h0 h1 d2 d3 d4 HD
  go_wp2_with fail
  go_region_held3 (fun w' => Below Z.heap.size Z w' ∧ q < w'.heap.size ∧ w'.cell? ⟨q, 0, none⟩ = some (.pointer (some ⟨t0.F.b, 0, none⟩)) ∧ w'.cell? ⟨q, 1, none⟩ = some (.pointer (some ⟨t1.F.b, 0, none⟩)) ∧ w'.cell? ⟨q, 2, none⟩ = some (.pointer (some ⟨t0.R.r, 0, none⟩)) ∧ w'.cell? ⟨q, 3, none⟩ = some (.pointer (some ⟨t1.R.r, 0, none⟩))) (((try go_split_ands); refine ⟨?_, ?_, ?_, ?_, ?_, ?_⟩; (focus (first | (with_reducible assumption) | exact Below.refl _ _ | (focus repeat' (first | (with_reducible exact Below.refl _ _) | (with_reducible assumption) | (with_reducible refine Below.alloc ?_ ?_ _) | (with_reducible refine Below.drew ?_) | (with_reducible refine bdrewN ?_ _) | (with_reducible refine Below.setCell ?_ ?_ _) | (first | (with_reducible exact Nat.le_refl _) | (with_reducible assumption) | omega | (simp; omega) | (simp; done)))))); (focus (first | (with_reducible assumption) | omega | (simp; omega) | (simp; done))); (focus (first | (with_reducible assumption) | (simp [go_sem, *]; done))); (focus (first | (with_reducible assumption) | (simp [go_sem, *]; done))); (focus (first | (with_reducible assumption) | (simp [go_sem, *]; done))); (focus (first | (with_reducible assumption) | (simp [go_sem, *]; done)))))
    (first | (go_at_call 18; (with_reducible refine (A1.out _ (by (focus repeat' (first | (with_reducible exact Below.refl _ _) | (with_reducible assumption) | (with_reducible refine Below.alloc ?_ ?_ _) | (with_reducible refine Below.drew ?_) | (with_reducible refine bdrewN ?_ _) | (with_reducible refine Below.setCell ?_ ?_ _) | (first | (with_reducible exact Nat.le_refl _) | (with_reducible assumption) | omega | (simp; omega) | (simp; done)))))).mono ?_); rintro e w9 ⟨rfl, hb9⟩; have HB9 : Below Z.heap.size Z w9 := bstep (by (focus repeat' (first | (with_reducible exact Below.refl _ _) | (with_reducible assumption) | (with_reducible refine Below.alloc ?_ ?_ _) | (with_reducible refine Below.drew ?_) | (with_reducible refine bdrewN ?_ _) | (with_reducible refine Below.setCell ?_ ?_ _) | (first | (with_reducible exact Nat.le_refl _) | (with_reducible assumption) | omega | (simp; omega) | (simp; done))))) hb9; have hz9 := hb9.size; (try simp only [World.size_drew, World.size_alloc] at hz9); obtain ⟨hc9, hf9⟩ := bcell hb9; (try simp only [World.size_drew, World.size_alloc, World.cell?_drew, World.frozen?_drew] at hc9 hf9)) | (go_at_call 18; (with_reducible refine (A2.out _ (by (focus repeat' (first | (with_reducible exact Below.refl _ _) | (with_reducible assumption) | (with_reducible refine Below.alloc ?_ ?_ _) | (with_reducible refine Below.drew ?_) | (with_reducible refine bdrewN ?_ _) | (with_reducible refine Below.setCell ?_ ?_ _) | (first | (with_reducible exact Nat.le_refl _) | (with_reducible assumption) | omega | (simp; omega) | (simp; done)))))).mono ?_); rintro e w9 ⟨rfl, hb9⟩; have HB9 : Below Z.heap.size Z w9 := bstep (by (focus repeat' (first | (with_reducible exact Below.refl _ _) | (with_reducible assumption) | (with_reducible refine Below.alloc ?_ ?_ _) | (with_reducible refine Below.drew ?_) | (with_reducible refine bdrewN ?_ _) | (with_reducible refine Below.setCell ?_ ?_ _) | (first | (with_reducible exact Nat.le_refl _) | (with_reducible assumption) | omega | (simp; omega) | (simp; done))))) hb9; have hz9 := hb9.size; (try simp only [World.size_drew, World.size_alloc] at hz9); obtain ⟨hc9, hf9⟩ := bcell hb9; (try simp only [World.size_drew, World.size_alloc, World.cell?_drew, World.frozen?_drew] at hc9 hf9)) | (go_at_call 44; (with_reducible refine (A3.out _ (by (focus repeat' (first | (with_reducible exact Below.refl _ _) | (with_reducible assumption) | (with_reducible refine Below.alloc ?_ ?_ _) | (with_reducible refine Below.drew ?_) | (with_reducible refine bdrewN ?_ _) | (with_reducible refine Below.setCell ?_ ?_ _) | (first | (with_reducible exact Nat.le_refl _) | (with_reducible assumption) | omega | (simp; omega) | (simp; done)))))).mono ?_); rintro e w9 ⟨rfl, hb9⟩; have HB9 : Below Z.heap.size Z w9 := bstep (by (focus repeat' (first | (with_reducible exact Below.refl _ _) | (with_reducible assumption) | (with_reducible refine Below.alloc ?_ ?_ _) | (with_reducible refine Below.drew ?_) | (with_reducible refine bdrewN ?_ _) | (with_reducible refine Below.setCell ?_ ?_ _) | (first | (with_reducible exact Nat.le_refl _) | (with_reducible assumption) | omega | (simp; omega) | (simp; done))))) hb9; have hz9 := hb9.size; (try simp only [World.size_drew, World.size_alloc] at hz9); obtain ⟨hc9, hf9⟩ := bcell hb9; (try simp only [World.size_drew, World.size_alloc, World.cell?_drew, World.frozen?_drew] at hc9 hf9)) | (go_at_call 44; (with_reducible refine (A4.out _ (by (focus repeat' (first | (with_reducible exact Below.refl _ _) | (with_reducible assumption) | (with_reducible refine Below.alloc ?_ ?_ _) | (with_reducible refine Below.drew ?_) | (with_reducible refine bdrewN ?_ _) | (with_reducible refine Below.setCell ?_ ?_ _) | (first | (with_reducible exact Nat.le_refl _) | (with_reducible assumption) | omega | (simp; omega) | (simp; done)))))).mono ?_); rintro e w9 ⟨rfl, hb9⟩; have HB9 : Below Z.heap.size Z w9 := bstep (by (focus repeat' (first | (with_reducible exact Below.refl _ _) | (with_reducible assumption) | (with_reducible refine Below.alloc ?_ ?_ _) | (with_reducible refine Below.drew ?_) | (with_reducible refine bdrewN ?_ _) | (with_reducible refine Below.setCell ?_ ?_ _) | (first | (with_reducible exact Nat.le_refl _) | (with_reducible assumption) | omega | (simp; omega) | (simp; done))))) hb9; have hz9 := hb9.size; (try simp only [World.size_drew, World.size_alloc] at hz9); obtain ⟨hc9, hf9⟩ := bcell hb9; (try simp only [World.size_drew, World.size_alloc, World.cell?_drew, World.frozen?_drew] at hc9 hf9)))
  go_wp2
  go_ret
  exact ⟨rfl, I, T, ov, wv, H.out.below (by with_reducible assumption) (Nat.le_succ n)⟩
end Go.Proofs.Ytkdocoibfclfeaa

namespace Go.Proofs.Ytkdocoibfclfeaa
open Go.ChangeShapes Go.WideShapes Go.ChangeAt Go.RowKit Go.Deep Go.Shelf Go.Maps Go.WideMaps Ytkdocoibfclfeaa.it
set_option linter.unusedSimpArgs false
set_option linter.unusedVariables false

attribute [local go_sem] Oper.semAt_some

set_option maxRecDepth 100000 in
set_option maxHeartbeats 2000000 in
theorem over_m (B nn n cap g0 : Nat) (xs : List Value) (w : World) (h : w.ownsRow B 63 2 (.slice (some ⟨g0, 0, none⟩) nn cap) nn xs) (hnn : n ≤ nn) (hm : n ≤ 4503599627370496) : Calls Try.prog 37 #[.slice (some ⟨g0, 0, none⟩) n cap] w fun e w' => (∃ u, e = .returned u) ∧ w.grownBy w' (some g0) := by
  have H := hide h
  have HM := hide hm
  clear h hm
  go_enter Try.func37, Try.ntmps37
  go_wp2_with fail
  go_loopw [2] (fun v2 wr => ∃ (k : Nat) (ys : List Value), k ≤ n ∧ v2 = .int .i64 (k : Int) ∧ wr.ownsRow B 63 2 (.slice (some ⟨g0, 0, none⟩) nn cap) nn ys ∧ w.grownBy wr (some g0)) (fun v2 _ => n - (intOf v2).toNat)
  case atStart => exact ⟨0, xs, Nat.zero_le _, rfl, H.out, rfl, rfl, rfl, Nat.le_refl _, fun _ _ _ => rfl⟩
  case round =>
    obtain ⟨k, ys, hk, rfl, hown, hbw⟩ := hrel
    have HO := hide hown
    have HBW := hide hbw
    have hk0 : (0 : Int) ≤ (k : Int) := by omega
    have hk9 : (k : Int) ≤ 4503599627370496 := by have := HM.out; omega
    by_cases hlt : k < n
    · have hl2 : (k : Int) < (n : Int) := by omega
      obtain ⟨g, c, hv, hg, _⟩ := hown.form (by omega)
      obtain ⟨rfl, rfl⟩ : g0 = g ∧ cap = c := by (injection hv with e1 e2 e3; injection e1 with e1; injection e1 with e1; exact ⟨e1, e3⟩)
      have hyl : ys.length = nn * 2 := hown.1
      have c0 : ∃ u, wr.cell? ⟨g0, k * 2, none⟩ = some u := by
        rw [hown.cellAt (k * 2) (by omega), List.getElem?_eq_getElem (by omega)]; exact ⟨_, rfl⟩
      have c1 : ∃ u, wr.cell? ⟨g0, k * 2 + 1, none⟩ = some u := by
        rw [hown.cellAt (k * 2 + 1) (by omega), List.getElem?_eq_getElem (by omega)]; exact ⟨_, rfl⟩
      obtain ⟨u0, c0⟩ := c0
      obtain ⟨u1, c1⟩ := c1
      have f0 := hown.frozenAt (k * 2)
      have f1 := hown.frozenAt (k * 2 + 1)
      clear hown hbw hv
      go_wp2_with fail
      go_roundw
      case rel =>
        have s0 := HO.out.stored (k * 2) (.string ⟨#[103, 111, 110, 101]⟩)
        have s1 := s0.1.stored (k * 2 + 1) (.int .i64 9)
        refine ⟨k + 1, _, by omega, by go_num, s1.1, ?_⟩
        have q : w.grownBy wr (some g0) := HBW.out
        exact Lib.grownBy_setB (Lib.grownBy_setB q _ _) _ _
      case measure => (first | (simp [intOf]; done) | (simp [intOf]; omega))
    · have hl2 : ¬ (k : Int) < (n : Int) := by omega
      clear hown hbw
      go_wp2_with fail
      go_end0
      exact ⟨⟨_, rfl⟩, HBW.out⟩

theorem Ents.of_more {w : World} {B n g cp : Nat} {p : List Ent} {ms : List Value} (h : w.ownsRow B 63 2 (.slice (some ⟨g, 0, none⟩) n cp) n (flatE p ++ ms)) : Ents (some ⟨g, 0, none⟩) cp p w :=
  ⟨(fun e => by cases e), (fun _ => ⟨g, 0, rfl⟩), (fun ad e j u hu => by
    cases e
    refine h.cells rfl j u ?_
    rw [List.getElem?_append_left]
    · exact hu
    · rcases Nat.lt_or_ge j (flatE p).length with q | q
      · exact q
      · rw [List.getElem?_eq_none q] at hu; cases hu)⟩
theorem own_cap {w : World} {base : Nat} {ao : Option Addr} {e : TypeId} {size n cap : Nat} {xs : List Value} (h : w.ownsRow base e size (.slice ao n cap) n xs) (hn : 0 < n) : n ≤ cap := by
  rcases h.2 with ⟨_, h0⟩ | ⟨g', cap', cur, hv, _, _, hle, _⟩
  · omega
  · (injection hv with e1 e2 e3; omega)

set_option maxRecDepth 1000000 in
set_option maxHeartbeats 4000000 in
theorem step_2 (w0 : World) (n : Nat) (I : Nat → Prop) (T : List Tri) (q : Nat) (ov wv : Value) (on x : Int) (s : ByteArray) (lo : Option Addr) (lc : Nat) (p : List Ent) (w : World) (h : St w0 n I T q ov wv w) (hE : Ents lo lc p w0) (hs : s.size ≤ maxLen) (hn : n < 120) (hpl : (p.length + 1) * 24 ≤ 140737488355328) : Calls Try.prog 16 #[.pointer (some ⟨q, 0, none⟩), .agg #[.int .i64 2, .int .i64 on, .string s, .int .i64 x, .slice lo p.length lc]] w (StepPost w0 n q) := by
  obtain ⟨k, hk2, hk⟩ : ∃ k : Nat, k < 2 ∧ (wrap64 (on.tmod 2 + 2)).tmod 2 = (k : Int) := by
    rcases onK_two on with q | q
    · exact ⟨0, by omega, q⟩
    · exact ⟨1, by omega, q⟩
  obtain ⟨t, ht⟩ : ∃ t, T[k]? = some t := ⟨_, List.getElem?_eq_getElem (by have := h.two; omega)⟩
  obtain ⟨W, hW⟩ : ∃ W, W = w.alloc (.cells #[.int .i64 2, .int .i64 on, .string s, .int .i64 x, .slice lo p.length lc] 53) := ⟨_, rfl⟩
  have hbW : Below w.heap.size w W := by rw [hW]; (focus repeat' (first | (with_reducible exact Below.refl _ _) | (with_reducible assumption) | (with_reducible refine Below.alloc ?_ ?_ _) | (with_reducible refine Below.drew ?_) | (with_reducible refine bdrewN ?_ _) | (with_reducible refine Below.setCell ?_ ?_ _) | (first | (with_reducible exact Nat.le_refl _) | (with_reducible assumption) | omega | (simp; omega) | (simp; done))))
  have H := hide (h.below hbW (Nat.le_refl _))
  have HE := hide hE
  have HSS := hide hs
  have HN := hide hn
  have zq : q < w.heap.size := h.qz
  have d0 : W.cell? ⟨w.heap.size, 0, none⟩ = some (.int .i64 2) := by rw [hW]; simp [go_sem]
  have d1 : W.cell? ⟨w.heap.size, 1, none⟩ = some (.int .i64 on) := by rw [hW]; simp [go_sem]
  have d2 : W.cell? ⟨w.heap.size, 2, none⟩ = some (.string s) := by rw [hW]; simp [go_sem]
  have d3 : W.cell? ⟨w.heap.size, 3, none⟩ = some (.int .i64 x) := by rw [hW]; simp [go_sem]
  have d4 : W.cell? ⟨w.heap.size, 4, none⟩ = some (.slice lo p.length lc) := by rw [hW]; simp [go_sem]
  obtain ⟨e1, e2⟩ := H.out.cur k t hk2 ht
  unfold Tri.pl at e1
  unfold Tri.pr at e2
  have hk0 : (0 : Int) ≤ (k : Int) := by omega
  have hk9 : (k : Int) < 2 := by omega
  have HT := hide ht
  have HOW := hide (show ∀ k, t.own k → k < w.heap.size from fun j hj => (h.obj k t ht).lt hj)
  have HD := hide (And.intro d2 (And.intro d3 d4))
  have HK := hide hk2
  have HBW := hide hbW
  have HW := hide hW
  have zWq : w.heap.size < W.heap.size := World.block_lt_of_cell? W _ d0
  have d9 : wrap64 (on.tmod 2 + 2) = wrap64 (on.tmod 2 + 2) := rfl
  clear h hE hs hn hbW ht hk2 hW d9
  go_enter Try.func16, Try.ntmps16
  go_wp2_with fail
  rw [← HW.out]
  go_wp2_with fail
  go_quiet (fail)
  obtain ⟨Z, hZ⟩ : ∃ Z, Z = W.drewN nq := ⟨_, rfl⟩
  rw [← hZ]
  have hbZ : Below W.heap.size W Z := by rw [hZ]; exact bdrewN (Below.refl _ _) nq
  have d0 := cell_stay d0 (hbZ.block _ zWq)
  have d2 := cell_stay d2 (hbZ.block _ zWq)
  have d3 := cell_stay d3 (hbZ.block _ zWq)
  have d4 := cell_stay d4 (hbZ.block _ zWq)
  have zZ := hbZ.size
  have H := hide (H.out.below hbZ (Nat.le_refl _))
  clear hbZ hZ e1 e2
  have P := H.out.obj k t HT.out
  have HPL := hide hpl
  have E0 := hide (HE.out.below H.out.low)
  have C1 := hide (lent_c lo lc p Z E0.out hpl)
  have HP := hide P
  obtain ⟨mm, hmm⟩ : ∃ mm, mm = mayE t.S.acc p := ⟨_, rfl⟩
  have HMM := hide hmm
  clear hpl P d2 d3 HD hmm
  go_wp2_with fail
  refine (C1.out).mono ?_
  rintro e Z1 ⟨g, cp, rfl, own1, hb1⟩
  have HO1 := hide own1
  have HB1 := hide hb1
  have hg1 := own1.lt g rfl
  have zZ1 := hb1.size
  have d4 := cell_stay d4 (hb1.block _ (by omega))
  have E1 := hide (E0.out.below hb1)
  have P1 := hide (HP.out.below hb1)
  have ME := hide (Ents.of_more own1)
  have M1 := hide (show ∀ w', Below Z1.heap.size Z1 w' → Calls Try.prog 10 #[.pointer (some ⟨t.F.b, 0, none⟩), .slice (some ⟨g, 0, none⟩) p.length cp] w' fun e w'' => e = .returned (.int .i64 mm) ∧ Below w'.heap.size w' w'' from fun w' hb => by rw [HMM.out]; exact May_c I t.F t.S (some ⟨g, 0, none⟩) cp p w' (P1.out.l.below hb) (ME.out.below hb) P1.out.g.fine.snd)
  have M2 := hide (show ∀ w', Below Z1.heap.size Z1 w' → Calls Try.prog 34 #[.pointer (some ⟨t.R.r, 0, none⟩), .slice lo p.length lc] w' fun e w'' => e = .returned (.int .i64 mm) ∧ Below w'.heap.size w' w'' from fun w' hb => by rw [HMM.out]; exact May_r I t.R t.S lo lc p w' (P1.out.r.below hb) (E1.out.below hb) P1.out.g.fine P1.out.g.agree)
  have zw1 : w.heap.size < Z1.heap.size := by omega
  have m1 : (mm != mm) = false := by simp
  have m2 : decide (mm = mm) = true := by simp
  clear own1 hb1
  go_wp2_with fail
  go_region_held3 (fun w' => Below Z1.heap.size Z1 w' ∧ w.heap.size < w'.heap.size ∧ w'.cell? ⟨w.heap.size, 4, none⟩ = some (.slice lo p.length lc)) (((try go_split_ands); refine ⟨?_, ?_, ?_⟩; (focus (first | (with_reducible assumption) | exact Below.refl _ _ | (focus repeat' (first | (with_reducible exact Below.refl _ _) | (with_reducible assumption) | (with_reducible refine Below.alloc ?_ ?_ _) | (with_reducible refine Below.drew ?_) | (with_reducible refine bdrewN ?_ _) | (with_reducible refine Below.setCell ?_ ?_ _) | (first | (with_reducible exact Nat.le_refl _) | (with_reducible assumption) | omega | (simp; omega) | (simp; done)))))); (focus (first | (with_reducible assumption) | omega | (simp; omega) | (simp; done))); (focus (first | (with_reducible assumption) | (simp [go_sem, *]; done)))))
    (first | (go_at_call 10; (with_reducible refine (M1.out _ (by (focus repeat' (first | (with_reducible exact Below.refl _ _) | (with_reducible assumption) | (with_reducible refine Below.alloc ?_ ?_ _) | (with_reducible refine Below.drew ?_) | (with_reducible refine bdrewN ?_ _) | (with_reducible refine Below.setCell ?_ ?_ _) | (first | (with_reducible exact Nat.le_refl _) | (with_reducible assumption) | omega | (simp; omega) | (simp; done)))))).mono ?_); rintro e w9 ⟨rfl, hb9⟩; have HB9 : Below Z1.heap.size Z1 w9 := bstep (by (focus repeat' (first | (with_reducible exact Below.refl _ _) | (with_reducible assumption) | (with_reducible refine Below.alloc ?_ ?_ _) | (with_reducible refine Below.drew ?_) | (with_reducible refine bdrewN ?_ _) | (with_reducible refine Below.setCell ?_ ?_ _) | (first | (with_reducible exact Nat.le_refl _) | (with_reducible assumption) | omega | (simp; omega) | (simp; done))))) hb9; have hz9 := hb9.size; (try simp only [World.size_drew, World.size_alloc] at hz9); obtain ⟨hc9, hf9⟩ := bcell hb9; (try simp only [World.size_drew, World.size_alloc, World.cell?_drew, World.frozen?_drew] at hc9 hf9)) | (go_at_call 34; (with_reducible refine (M2.out _ (by (focus repeat' (first | (with_reducible exact Below.refl _ _) | (with_reducible assumption) | (with_reducible refine Below.alloc ?_ ?_ _) | (with_reducible refine Below.drew ?_) | (with_reducible refine bdrewN ?_ _) | (with_reducible refine Below.setCell ?_ ?_ _) | (first | (with_reducible exact Nat.le_refl _) | (with_reducible assumption) | omega | (simp; omega) | (simp; done)))))).mono ?_); rintro e w9 ⟨rfl, hb9⟩; have HB9 : Below Z1.heap.size Z1 w9 := bstep (by (focus repeat' (first | (with_reducible exact Below.refl _ _) | (with_reducible assumption) | (with_reducible refine Below.alloc ?_ ?_ _) | (with_reducible refine Below.drew ?_) | (with_reducible refine bdrewN ?_ _) | (with_reducible refine Below.setCell ?_ ?_ _) | (first | (with_reducible exact Nat.le_refl _) | (with_reducible assumption) | omega | (simp; omega) | (simp; done))))) hb9; have hz9 := hb9.size; (try simp only [World.size_drew, World.size_alloc] at hz9); obtain ⟨hc9, hf9⟩ := bcell hb9; (try simp only [World.size_drew, World.size_alloc, World.cell?_drew, World.frozen?_drew] at hc9 hf9)))
  clear m1 m2
  by_cases h0 : mm = 0
  · have H0 := hide h0
    have C2 := hide (show ∀ w', Below Z1.heap.size Z1 w' → Calls Try.prog 11 #[.pointer (some ⟨t.F.b, 0, none⟩), .slice (some ⟨g, 0, none⟩) p.length cp] w' fun e w2 => e = .returned (.tuple #[.int .i64 (t.S.posts.length : Int), .int .i64 0]) ∧ ∃ I1 F', LObj I1 F' ⟨posted t.S.acc p, t.S.posts ++ [p]⟩ w2 ∧ Turn t.F.own I Z1 F'.own I1 w2 ∧ F'.b = t.F.b from fun w' hb => by
      refine (Post_c I t.F t.S (some ⟨g, 0, none⟩) cp p w' (P1.out.l.below hb) (ME.out.below hb) P1.out.g.fine.snd P1.out.g.fine.few).mono fun e w2 q => ?_
      rcases q with ⟨hno, _⟩ | ⟨_, q1, I1, F', q2, q3⟩
      · exact absurd (HMM.out.symm.trans H0.out) hno
      · exact ⟨q1, I1, F', q2, (Turn.of_below hb).trans q3.turn, q3.b⟩)
    have C3 := hide (show ∀ (I1 : Nat → Prop) w', RObj I1 t.R t.S w' → Ents lo lc p w' → Calls Try.prog 35 #[.pointer (some ⟨t.R.r, 0, none⟩), .slice lo p.length lc] w' (PostR I1 t.R t.S p w') from fun I1 w' r hE => Post_ryes I1 t.R t.S lo lc p w' r hE P1.out.g.fine P1.out.g.agree (HMM.out.symm.trans H0.out))
    have HGD := hide (P1.out.g.post (HMM.out.symm.trans H0.out) (by have := HN.out; omega))
    have LOW := hide (show ∀ k, t.F.own k → w0.heap.size ≤ k ∧ k < w.heap.size from fun k hk => ⟨(H.out.qd _ t HT.out k (.inl hk)).1, HOW.out k (.inl hk)⟩)
    have LOR := hide (show w0.heap.size ≤ t.R.r ∧ t.R.r < w.heap.size from ⟨(H.out.qd _ t HT.out _ (.inr rfl)).1, HOW.out _ (.inr rfl)⟩)
    have B01 := hide (H.out.low.trans (HB1.out.mono H.out.low.size))
    clear h0
    go_wp2_with fail
    refine (C2.out _ (by with_reducible assumption)).mono ?_
    rintro e w2 ⟨rfl, I1, F', l1, s1, eb⟩
    have HL1 := hide l1
    have HS1 := hide s1
    have HEB := hide eb
    have RO := hide (P1.out.mid s1)
    have d4' := cell_stay d4 (s1.keep _ zw1 (fun h => by have := (LOW.out _ h).2; omega))
    have B02 := hide (B01.out.trans (s1.below (fun k hk => (LOW.out k hk).1) B01.out.size))
    have HO2 := hide (own_stays HO1.out (fun k hk => s1.keep k (HO1.out.lt k hk).2 (fun h => by have := (LOW.out _ h).2; have := (HO1.out.lt k hk).1; omega)))
    have z12 := s1.size
    clear l1 s1 eb
    go_wp2_with fail
    refine (C3.out _ w2 RO.out (HE.out.below B02.out)).mono ?_
    rintro e w3 ⟨rfl, I2, R', r2, s2, er⟩
    have HR2 := hide r2
    have HS2 := hide s2
    have HER := hide er
    have n1 : ((t.S.posts.length : Int) == (t.S.posts.length : Int)) = true := by simp
    have n2 : decide ((t.S.posts.length : Int) = (t.S.posts.length : Int)) = true := by simp
    have n3 : ((t.S.posts.length : Int) != (t.S.posts.length : Int)) = false := by simp
    have d4 := cell_stay d4' (s2.keep _ (by omega) (fun h => by have := LOR.out; omega))
    have HO3 := hide (own_stays HO2.out (fun k hk => s2.keep k (HO2.out.lt k hk).2 (fun h => by have := LOR.out; have := (HO1.out.lt k hk).1; omega)))
    have HE3 := hide (HE.out.below (B02.out.trans (s2.below (fun k hk => by have := LOR.out; omega) B02.out.size)))
    have z23 := s2.size
    clear r2 s2 er d4'
    have SME := hide (show ∀ nq, Calls Try.prog 36 #[.slice (some ⟨g, 0, none⟩) p.length cp, .slice lo p.length lc] (w3.drewN nq) fun e w' => e = .returned (.bool true) ∧ ∃ m, w' = (w3.drewN nq).drewN m from fun nq => (SameEntries_d (some ⟨g, 0, none⟩) lo cp lc p p _ ((Ents.of_more HO3.out).below (bdrewN (Below.refl _ _) nq)) (HE3.out.below (bdrewN (Below.refl _ _) nq)) (by have := HPL.out; omega)).mono fun e w' hh => ⟨by rw [hh.1]; simp, hh.2⟩)
    have c9 : w3.cell? ⟨g, p.length * 2, none⟩ = some (.string ⟨#[109, 97, 114, 107]⟩) := by
      rw [HO3.out.cellAt (p.length * 2) (by omega), List.getElem?_append_right (by rw [flatE_len]; exact Nat.le_refl _), flatE_len, Nat.sub_self]
      rfl
    have cpl := own_cap HO3.out (by omega)
    have pl9 : (p.length : Int) + 1 ≤ 9000000000000 := by have := HPL.out; omega
    have pl0 : (0 : Int) ≤ (p.length : Int) := by omega
    have pl1 : IntKind.i64.wrap ((p.length : Int) + 1) = (p.length : Int) + 1 := IntWalk.i64_in _ (by omega)
    have pl2 : (0 : Int) ≤ (p.length : Int) + 1 := by omega
    have pl3 : ((p.length : Int) + 1).toNat = p.length + 1 := by omega
    have pl4 : (p.length : Int) + 1 ≤ (cp : Int) := by omega
    have pl5 : (p.length : Int) < (p.length : Int) + 1 := by omega
    go_wp2_with fail
    go_quiet ((go_at_call 36; exact Calls.quiet_of (SME.out _)))
    obtain ⟨V, hV⟩ : ∃ V, V = w3.drewN nq := ⟨_, rfl⟩
    rw [← hV]
    have hbV : Below w3.heap.size w3 V := by rw [hV]; exact bdrewN (Below.refl _ _) nq
    have HOV := hide (own_stays HO3.out (fun k hk => hbV.block k (HO3.out.lt k hk).2))
    have HBV := hide hbV
    clear hV hbV pl1 pl2 pl3 pl4 pl5 c9
    go_wp2_with fail
    refine (over_m Z.heap.size (p.length + 1) p.length cp g _ V HOV.out (by omega) (by have := HPL.out; omega)).mono ?_
    rintro e U ⟨⟨uu, rfl⟩, hgU⟩
    have HGU := hide hgU
    clear hgU
    go_wp2
    go_ret
    obtain ⟨p1, p2⟩ := P1.out.both HL1.out HS1.out HR2.out HS2.out HER.out HGD.out
    have hgU : V.grownBy U (some g) := HGU.out
    have kk : ∀ k, k < w3.heap.size → k ≠ g → U.heap[k]? = w3.heap[k]? := fun k hk hne => (hgU.block k (by have := HBV.out.size; omega) (fun e => hne (Option.some.inj e))).trans (HBV.out.block k hk)
    have ng : ∀ k, Tri.own ⟨F', R', ⟨posted t.S.acc p, t.S.posts ++ [p]⟩⟩ k → k ≠ g := fun k hk e => by
      rcases p2.own k hk with h | h
      · have := HOW.out k h; omega
      · omega
    have ni : ∀ k, I2 k → k ≠ g := fun k hk e => by
      by_cases hi : I k
      · exact absurd (P1.out.l.ilt k hi) (by have := HP.out.l.ilt k hi; omega)
      · have := (p2.new k hk hi).1; omega
    have T3 : Turn (fun k => k = g) I2 w3 (fun k => k = g) I2 U := ⟨hgU.os.trans HBV.out.os, hgU.tape.trans HBV.out.tape, hgU.output.trans HBV.out.output, Nat.le_trans HBV.out.size hgU.size, fun k hk hn => kk k hk hn, fun k h => .inl h, fun k h => h, fun k h n => absurd h n⟩
    have p3 := p1.aside T3 ng (fun k hk hi => ni k hi hk)
    have TT : Turn t.own I Z (Tri.own ⟨F', R', ⟨posted t.S.acc p, t.S.posts ++ [p]⟩⟩) I2 U :=
      ⟨T3.os.trans (p2.os.trans HB1.out.os), T3.tape.trans (p2.tape.trans HB1.out.tape), T3.output.trans (p2.output.trans HB1.out.output), by have := T3.size; omega,
        fun k hk hn => (kk k (by omega) (by omega)).trans ((p2.keep k (by omega) hn).trans (HB1.out.block k hk)), fun k hk => (p2.own k hk).imp id (fun h => by omega), p2.sub, fun k h n => by have := p2.new k h n; have := T3.size; omega⟩
    exact ⟨rfl, I2, _, ov, wv, H.out.turn HT.out TT p3 HEB.out HER.out (Nat.le_succ n)⟩
  · have H0 := hide h0
    have n1 : (mm == mm) = true := by simp
    have n2 : decide (mm = mm) = true := by simp
    have n3 : (mm != mm) = false := by simp
    have C2 := hide (show ∀ w', Below Z1.heap.size Z1 w' → Calls Try.prog 11 #[.pointer (some ⟨t.F.b, 0, none⟩), .slice (some ⟨g, 0, none⟩) p.length cp] w' fun e w'' => e = .returned (.tuple #[.int .i64 0, .int .i64 mm]) ∧ Below Z1.heap.size Z1 w'' from fun w' hb => by
      rw [HMM.out]
      exact (Post_no I t.F t.S (some ⟨g, 0, none⟩) cp p w' (P1.out.l.below hb) (ME.out.below hb) P1.out.g.fine.snd (by rw [← HMM.out]; exact H0.out)).mono fun e w'' q => ⟨q.1, bstep hb q.2⟩)
    have C3 := hide (show ∀ w', Below Z1.heap.size Z1 w' → Calls Try.prog 35 #[.pointer (some ⟨t.R.r, 0, none⟩), .slice lo p.length lc] w' fun e w'' => e = .returned (.tuple #[.int .i64 0, .int .i64 mm]) ∧ Below Z1.heap.size Z1 w'' from fun w' hb => by
      rw [HMM.out]
      exact (Post_rno I t.R t.S lo lc p w' (P1.out.r.below hb) (E1.out.below hb) P1.out.g.fine P1.out.g.agree (by rw [← HMM.out]; exact H0.out)).mono fun e w'' q => ⟨q.1, bstep hb q.2⟩)
    clear h0
    go_wp2_with fail
    refine (C2.out _ (by with_reducible assumption)).mono ?_
    rintro e w2 ⟨rfl, hb2⟩
    have d4' := cell_stay d4 (hb2.block _ zw1)
    go_wp2_with fail
    refine (C3.out _ hb2).mono ?_
    rintro e w3 ⟨rfl, hb3⟩
    have HO3 := hide (own_stays HO1.out (fun k hk => hb3.block k (HO1.out.lt k hk).2))
    have HE3 := hide (E1.out.below hb3)
    have HB3 := hide hb3
    have d4 := cell_stay d4 (hb3.block _ zw1)
    have z13 := hb3.size
    clear hb2 hb3 d4'
    have SME := hide (show ∀ nq, Calls Try.prog 36 #[.slice (some ⟨g, 0, none⟩) p.length cp, .slice lo p.length lc] (w3.drewN nq) fun e w' => e = .returned (.bool true) ∧ ∃ m, w' = (w3.drewN nq).drewN m from fun nq => (SameEntries_d (some ⟨g, 0, none⟩) lo cp lc p p _ ((Ents.of_more HO3.out).below (bdrewN (Below.refl _ _) nq)) (HE3.out.below (bdrewN (Below.refl _ _) nq)) (by have := HPL.out; omega)).mono fun e w' hh => ⟨by rw [hh.1]; simp, hh.2⟩)
    have c9 : w3.cell? ⟨g, p.length * 2, none⟩ = some (.string ⟨#[109, 97, 114, 107]⟩) := by
      rw [HO3.out.cellAt (p.length * 2) (by omega), List.getElem?_append_right (by rw [flatE_len]; exact Nat.le_refl _), flatE_len, Nat.sub_self]
      rfl
    have cpl := own_cap HO3.out (by omega)
    have pl9 : (p.length : Int) + 1 ≤ 9000000000000 := by have := HPL.out; omega
    have pl0 : (0 : Int) ≤ (p.length : Int) := by omega
    have pl1 : IntKind.i64.wrap ((p.length : Int) + 1) = (p.length : Int) + 1 := IntWalk.i64_in _ (by omega)
    have pl2 : (0 : Int) ≤ (p.length : Int) + 1 := by omega
    have pl3 : ((p.length : Int) + 1).toNat = p.length + 1 := by omega
    have pl4 : (p.length : Int) + 1 ≤ (cp : Int) := by omega
    have pl5 : (p.length : Int) < (p.length : Int) + 1 := by omega
    go_wp2_with fail
    go_quiet ((go_at_call 36; exact Calls.quiet_of (SME.out _)))
    obtain ⟨V, hV⟩ : ∃ V, V = w3.drewN nq := ⟨_, rfl⟩
    rw [← hV]
    have hbV : Below w3.heap.size w3 V := by rw [hV]; exact bdrewN (Below.refl _ _) nq
    have HOV := hide (own_stays HO3.out (fun k hk => hbV.block k (HO3.out.lt k hk).2))
    have HBV := hide hbV
    clear hV hbV pl1 pl2 pl3 pl4 pl5 c9
    go_wp2_with fail
    refine (over_m Z.heap.size (p.length + 1) p.length cp g _ V HOV.out (by omega) (by have := HPL.out; omega)).mono ?_
    rintro e U ⟨⟨uu, rfl⟩, hgU⟩
    have HGU := hide hgU
    clear hgU
    go_wp2
    go_ret
    have q1 : Below Z.heap.size Z U := (HB1.out.trans ((HB3.out.mono HB1.out.size).trans (HBV.out.mono (by omega)))).grown HGU.out (by have := HBV.out.size; omega) (fun k e => by cases e; omega)
    exact ⟨rfl, I, T, ov, wv, H.out.below q1 (Nat.le_succ n)⟩
end Go.Proofs.Ytkdocoibfclfeaa

namespace Go.Proofs.Ytkdocoibfclfeaa
open Go.ChangeShapes Go.WideShapes Go.ChangeAt Go.RowKit Go.Deep Go.Shelf Go.Maps Go.WideMaps Ytkdocoibfclfeaa.it
set_option linter.unusedSimpArgs false
set_option linter.unusedVariables false

attribute [local go_sem] Oper.semAt_some

theorem step_any (w0 : World) (n : Nat) (I : Nat → Prop) (T : List Tri) (q : Nat) (ov wv : Value) (d : StepD) (lo : Option Addr) (lc : Nat) (w : World) (h : St w0 n I T q ov wv w) (hE : Ents lo lc d.p w0) (hs : d.s.size ≤ maxLen) (hn : n < 120) (hb : (d.p.length + 1) * 24 ≤ 140737488355328) :
    Calls Try.prog 16 #[.pointer (some ⟨q, 0, none⟩), .agg #[.int .i64 d.kind, .int .i64 d.on, .string d.s, .int .i64 d.x, .slice lo d.p.length lc]] w (StepPost w0 n q) := by
  obtain ⟨kind, on, s, x, p⟩ := d
  simp only at hE hs hb ⊢
  by_cases h1 : kind = 1
  · subst h1; exact step_1 w0 n I T q ov wv on x s lo lc p w h hE hs hn
  by_cases h2 : kind = 2
  · subst h2; exact step_2 w0 n I T q ov wv on x s lo lc p w h hE hs hn hb
  by_cases h3 : kind = 3
  · subst h3; exact step_3 w0 n I T q ov wv on x s lo lc p w h hE hs hn
  by_cases h4 : kind = 4
  · subst h4
    by_cases a : x < -9
    · exact step_4lo w0 n I T q ov wv on x s lo lc p w h hE hs hn a
    by_cases b : 1073741824 < x
    · exact step_4hi w0 n I T q ov wv on x s lo lc p w h hE hs hn (by omega) b
    by_cases c : x < 0
    · exact step_4no w0 n I T q ov wv on x s lo lc p w h hE hs hn (by omega) (by omega) c
    · exact step_4in w0 n I T q ov wv on x s lo lc p w h hE hs hn (by omega) (by omega)
  by_cases h5 : kind = 5
  · subst h5; exact step_5 w0 n I T q ov wv on x s lo lc p w h hE hs hn
  by_cases h6 : kind = 6
  · subst h6; exact step_6 w0 n I T q ov wv on x s lo lc p w h hE hs hn
  by_cases h7 : kind = 7
  · subst h7; exact step_7 w0 n I T q ov wv on x s lo lc p w h hE hs hn
  by_cases h8 : kind = 8
  · subst h8; exact step_8 w0 n I T q ov wv on x s lo lc p w h hE hs hn
  exact step_other w0 n I T q ov wv kind on x s lo lc p w h hE hs hn (fun j a b e => by omega)
section
variable {w0 : World} {n : Nat} {I : Nat → Prop} {T : List Tri} {q : Nat} {ov wv : Value} {a b : List Value} {w w' : World}
/-- two new ones in their places -/
theorem SB.fill (h : SB w0 n I T q ov wv a b w) {i : Nat} (hi : i < 2) (hT : T.length = i) {t : Tri} {wB X : World} (hb : Below w.heap.size w wB) (hp : Pair n I t wB) (fresh : ∀ j, t.own j → w.heap.size ≤ j)
    (c1 : X.cell? ⟨q, i, none⟩ = some t.pl) (c2 : X.cell? ⟨q, 2 + i, none⟩ = some t.pr) (hs : X.heap.size = wB.heap.size) (os : X.os = wB.os) (tape : X.tape = wB.tape) (output : X.output = wB.output) (hoth : ∀ j, j ≠ q → X.heap[j]? = wB.heap[j]?) (hf : ∀ o, X.frozen? ⟨q, o, none⟩ = wB.frozen? ⟨q, o, none⟩) (hc : ∀ o u, o ≠ i → o ≠ 2 + i → wB.cell? ⟨q, o, none⟩ = some u → X.cell? ⟨q, o, none⟩ = some u) :
    SB w0 n I (T ++ [t]) q ov wv a b X := by
  have hB := h.below hb
  have zq := hB.qz
  have zq0 := h.qz
  have hz := hb.size
  have hpr := hB.pairs (w' := X) os tape output (by omega) (fun j => j = q) (fun j _ hn => hoth j hn) (fun i t hi j hj e => (hB.qd i t hi j hj).2.1 e) (fun j e hi => (hB.qi j hi).1 e)
  have hpt : Pair n I t X := hp.aside (o := fun j => j = q) (o' := fun j => j = q) ⟨os, tape, output, by omega, fun j _ hn => hoth j hn, fun _ q => .inl q, fun _ q => q, fun _ q r => absurd q r⟩ (fun j hj e => by have := fresh j hj; omega) (fun j e hi => (hB.qi j hi).1 e)
  have key : ∀ j u, (T ++ [t])[j]? = some u → T[j]? = some u ∨ (j = T.length ∧ u = t) := fun j u hj => by
    rcases Nat.lt_or_ge j T.length with hl | hl
    · rw [List.getElem?_append_left hl] at hj; exact .inl hj
    · rw [List.getElem?_append_right hl] at hj
      rcases hz : j - T.length with _ | m
      · rw [hz] at hj
        exact .inr ⟨by omega, by simpa using hj.symm⟩
      · rw [hz] at hj; simp at hj
  refine ⟨fun j u hj => ?_, fun j1 j2 u1 u2 h1 h3 hne k k1 k2 => ?_, fun j u hj hu => ?_, hc 4 _ (by omega) (by omega) hB.c4, hc 5 _ (by omega) (by omega) hB.c5, fun o => (hf o).trans (hB.fr o), own_stays hB.ovr (fun j e => hoth j (fun e2 => hB.qo.1 (by rw [e, e2]))), own_stays hB.wvr (fun j e => hoth j (fun e2 => hB.qo.2.1 (by rw [e, e2]))), fun j u hj k hk => ?_, hB.qi, hB.qo, hB.up, ⟨os.trans hB.low.os, tape.trans hB.low.tape, output.trans hB.low.output, by have := hB.low.size; omega, fun k hk => (hoth k (by have := hB.up; omega)).trans (hB.low.block k hk)⟩, fun k hk => by have := hB.ilt k hk; omega⟩
  · rcases key j u hj with e | ⟨-, rfl⟩
    · exact hpr j u e
    · exact hpt
  · rcases key j1 u1 h1 with e1 | ⟨l1, rfl⟩ <;> rcases key j2 u2 h3 with e2 | ⟨l2, rfl⟩
    · exact h.dis j1 j2 u1 u2 e1 e2 hne k k1 k2
    · have := fresh k k2; have := (h.obj _ _ e1).lt k1; omega
    · have := fresh k k1; have := (h.obj _ _ e2).lt k2; omega
    · omega
  · rcases key j u hu with e | ⟨l, rfl⟩
    · have hjl := (List.getElem?_eq_some_iff.1 e).1
      have := hB.cur j u hj e
      exact ⟨hc _ _ (by omega) (by omega) this.1, hc _ _ (by omega) (by omega) this.2⟩
    · rw [l, hT]; exact ⟨c1, c2⟩
  · rcases key j u hj with e | ⟨-, rfl⟩
    · exact h.qd j u e k hk
    · have := fresh k hk
      have := h.low.size
      exact ⟨by omega, by omega, fun e => by have := (h.ovr.lt k e).2; omega, fun e => by have := (h.wvr.lt k e).2; omega⟩
end
theorem R_new (I : Nat → Prop) (w : World) (b : Nat) (hI : ∀ k, I k → k < w.heap.size ∧ k ≠ b) (c0 : w.cell? ⟨b, 0, none⟩ = some (.slice none 0 0)) (c1 : w.cell? ⟨b, 1, none⟩ = some (.slice none 0 0)) (c2 : w.cell? ⟨b, 2, none⟩ = some (.slice none 0 0)) (cf : ∀ o, w.frozen? ⟨b, o, none⟩ = false) :
    RObj I ⟨b, .slice none 0 0, .slice none 0 0, .slice none 0 0⟩ ⟨[], []⟩ w :=
  ⟨c0, c1, c2, cf, World.ownsRow_nil _ _ _ _, World.ownsRow_nil _ _ _ _, ⟨[], World.ownsRow_nil _ _ _ _, fun i p h => by simp at h⟩, (fun k e => by cases e), (fun k e => by cases e), (fun k e => by cases e), (fun h => (hI b h).2 rfl), fun k h => (hI k h).1⟩
end Go.Proofs.Ytkdocoibfclfeaa

namespace Go.Proofs.Ytkdocoibfclfeaa
open Go.ChangeShapes Go.WideShapes Go.ChangeAt Go.RowKit Go.Deep Go.Shelf Go.Maps Go.WideMaps Ytkdocoibfclfeaa.it
set_option linter.unusedSimpArgs false
set_option linter.unusedVariables false

attribute [local go_sem] Oper.semAt_some


theorem rot_at {T : List Tri} (h : 2 ≤ T.length) {i : Nat} (hi : i < T.length) : ∃ (j : Nat) (t : Tri), T[j]? = some t ∧ ((T.map Tri.pl).drop 2 ++ (T.map Tri.pl).take 2)[i]? = some t.pl ∧ ((T.map Tri.pr).drop 2 ++ (T.map Tri.pr).take 2)[i]? = some t.pr := by
  by_cases h1 : i < T.length - 2
  · refine ⟨2 + i, T[2 + i]'(by omega), List.getElem?_eq_getElem _, ?_, ?_⟩
    · rw [List.getElem?_append_left (by simp; omega), List.getElem?_drop, List.getElem?_map, List.getElem?_eq_getElem (by omega)]; rfl
    · rw [List.getElem?_append_left (by simp; omega), List.getElem?_drop, List.getElem?_map, List.getElem?_eq_getElem (by omega)]; rfl
  · refine ⟨i - (T.length - 2), T[i - (T.length - 2)]'(by omega), List.getElem?_eq_getElem _, ?_, ?_⟩
    · rw [List.getElem?_append_right (by simp; omega), List.getElem?_take, if_pos (by simp; omega), List.getElem?_map, List.length_drop, List.length_map, List.getElem?_eq_getElem (by omega)]; rfl
    · rw [List.getElem?_append_right (by simp; omega), List.getElem?_take, if_pos (by simp; omega), List.getElem?_map, List.length_drop, List.length_map, List.getElem?_eq_getElem (by omega)]; rfl
theorem take_at (f : Tri → Value) {T : List Tri} {k : Nat} {t : Tri} (h : T[k]? = some t) : (T.map f).take (k + 1) = (T.map f).take k ++ [f t] := by
  have hl := (List.getElem?_eq_some_iff.1 h).1
  rw [List.take_succ_eq_append_getElem (by simpa using hl)]
  congr 1
  have := (List.getElem?_eq_some_iff.1 h).2
  simp [this]
theorem sets_two (w5 : World) (q i : Nat) (u v : Value) (h1 : ∃ x, w5.cell? ⟨q, i, none⟩ = some x) (h2 : ∃ x, w5.cell? ⟨q, 2 + i, none⟩ = some x) (hi : i < 2) (X : World) (hX : X = (w5.setCell ⟨q, i, none⟩ u).setCell ⟨q, 2 + i, none⟩ v) :
    X.cell? ⟨q, i, none⟩ = some u ∧ X.cell? ⟨q, 2 + i, none⟩ = some v ∧ X.heap.size = w5.heap.size ∧ X.os = w5.os ∧ X.tape = w5.tape ∧ X.output = w5.output ∧ (∀ j, j ≠ q → X.heap[j]? = w5.heap[j]?) ∧ (∀ o, X.frozen? ⟨q, o, none⟩ = w5.frozen? ⟨q, o, none⟩) ∧ (∀ o x, o ≠ i → o ≠ 2 + i → w5.cell? ⟨q, o, none⟩ = some x → X.cell? ⟨q, o, none⟩ = some x) := by
  subst hX
  obtain ⟨x1, h1⟩ := h1
  obtain ⟨x2, h2⟩ := h2
  have ne : ∀ (w : World) (a b : Nat) (y : Value), a ≠ b → (w.setCell ⟨q, a, none⟩ y).cell? ⟨q, b, none⟩ = w.cell? ⟨q, b, none⟩ := fun w a b y hab => World.cell?_setCell_other w ⟨q, a, none⟩ ⟨q, b, none⟩ y (by first | exact fun e => hab (congrArg Addr.off e) | exact fun e => hab (congrArg Addr.off e).symm)
  refine ⟨(ne _ _ _ _ (by omega)).trans (World.cell?_setCell_same' _ _ _ (by rw [h1]; rfl)), World.cell?_setCell_same' _ _ _ (by rw [ne _ _ _ _ (by omega), h2]; rfl), by rw [World.size_setCell, World.size_setCell], rfl, rfl, rfl, fun j hj => (heap_setCell_other _ _ _ _ hj).trans (heap_setCell_other _ _ _ _ hj), fun o => (World.frozen?_setCell _ _ _ _).trans (World.frozen?_setCell _ _ _ _), fun o x h3 h4 h5 => (ne _ _ _ _ (Ne.symm h4)).trans ((ne _ _ _ _ (Ne.symm h3)).trans h5)⟩
theorem sets_alloc (w5 : World) (q i : Nat) (u v : Value) (o' : Obj) (hq : q < w5.heap.size) (h1 : ∃ x, w5.cell? ⟨q, i, none⟩ = some x) (h2 : ∃ x, w5.cell? ⟨q, 2 + i, none⟩ = some x) (hi : i < 2) (X : World) (hX : X = ((w5.setCell ⟨q, i, none⟩ u).setCell ⟨q, 2 + i, none⟩ v).alloc o') :
    X.cell? ⟨q, i, none⟩ = some u ∧ X.cell? ⟨q, 2 + i, none⟩ = some v ∧ X.heap.size = (w5.alloc o').heap.size ∧ X.os = (w5.alloc o').os ∧ X.tape = (w5.alloc o').tape ∧ X.output = (w5.alloc o').output ∧ (∀ j, j ≠ q → X.heap[j]? = (w5.alloc o').heap[j]?) ∧ (∀ o, X.frozen? ⟨q, o, none⟩ = (w5.alloc o').frozen? ⟨q, o, none⟩) ∧ (∀ o x, o ≠ i → o ≠ 2 + i → (w5.alloc o').cell? ⟨q, o, none⟩ = some x → X.cell? ⟨q, o, none⟩ = some x) := by
  obtain ⟨Y, hY⟩ : ∃ Y, Y = (w5.setCell ⟨q, i, none⟩ u).setCell ⟨q, 2 + i, none⟩ v := ⟨_, rfl⟩
  obtain ⟨a1, a2, a3, a4, a5, a6, a7, a8, a9⟩ := sets_two w5 q i u v h1 h2 hi Y hY
  rw [← hY] at hX
  subst hX
  have hbY : ∀ k, k < Y.heap.size → (Y.alloc o').heap[k]? = Y.heap[k]? := fun k hk => Below.heap_alloc _ _ _ hk
  have hb5 : ∀ k, k < w5.heap.size → (w5.alloc o').heap[k]? = w5.heap[k]? := fun k hk => Below.heap_alloc _ _ _ hk
  have hqY : q < Y.heap.size := by omega
  refine ⟨cell_stay a1 (hbY q hqY), cell_stay a2 (hbY q hqY), by simp [a3], a4, a5, a6, fun j hj => ?_, fun o => ?_, fun o x h3 h4 h5 => ?_⟩
  · rcases Nat.lt_trichotomy j w5.heap.size with q1 | q1 | q1
    · rw [hbY j (by omega), hb5 j q1, a7 j hj]
    · rw [q1]
      have e1 := World.alloc_heap_new w5 o'
      have e2 := World.alloc_heap_new Y o'
      rw [a3] at e2
      rw [e1, e2]
    · rw [Array.getElem?_eq_none (by simp; omega), Array.getElem?_eq_none (by simp; omega)]
  · rw [World.frozen?_of_block (a := ⟨q, o, none⟩) (hbY q hqY), World.frozen?_of_block (a := ⟨q, o, none⟩) (hb5 q hq), a8 o]
  · have h6 : w5.cell? ⟨q, o, none⟩ = some x := (World.cell?_of_block (a := ⟨q, o, none⟩) (hb5 q hq)).symm.trans h5
    exact cell_stay (a9 o x h3 h4 h6) (hbY q hqY)

theorem New_k (w : World) : Calls Try.prog 7 #[] w fun e w' => e = .returned (.pointer (some ⟨w.heap.size + 3, 0, none⟩)) ∧ KL w (w.heap.size + 3) (fun _ => False) (newFp w.heap.size) ⟨[], []⟩ w' := (New_c w).mono fun e w' q => ⟨q.1, by rw [q.2]; exact KL.new w⟩
theorem play_start (w : World) : SB w 0 (fun _ : Nat => False) [] w.heap.size (.slice none 0 0) (.slice none 0 0) [] [] (w.alloc (.cells #[.pointer none, .pointer none, .pointer none, .pointer none, .slice none 0 0, .slice none 0 0] 48)) :=
  ⟨(fun i t h => by simp at h), (fun i j t u h => by simp at h), (fun i t _ h => by simp at h), by simp [go_sem], by simp [go_sem], (fun o => by simp [go_sem]), World.ownsRow_nil _ _ _ _, World.ownsRow_nil _ _ _ _, (fun i t h => by simp at h), (fun k h => h.elim), ⟨(fun e => by cases e), (fun e => by cases e), fun k e => by cases e⟩, Nat.le_refl _, (Below.refl _ _).alloc (Nat.le_refl _) _, fun k h => h.elim⟩
set_option maxRecDepth 1000000 in
set_option maxHeartbeats 4000000 in
theorem play_c (so : Option Addr) (cap : Nat) (L : List StepD) (w : World) (hR : SRow w so L) : Calls Try.prog 4 #[.slice so L.length cap] w fun e w' => e = .returned (.bool true) ∧ Below w.heap.size w w' := by
  have HRW := hide hR
  obtain ⟨W, hW⟩ : ∃ W, W = w.alloc (.cells #[.pointer none, .pointer none, .pointer none, .pointer none, .slice none 0 0, .slice none 0 0] 48) := ⟨_, rfl⟩
  have S0 := hide (show SB w 0 (fun _ : Nat => False) [] w.heap.size (.slice none 0 0) (.slice none 0 0) [] [] W from by rw [hW]; exact play_start w)
  have Q0 := hide (show ∀ o, o < 4 → W.cell? ⟨w.heap.size, o, none⟩ = some (.pointer none) from fun o ho => by
    rw [hW]
    rcases o with _ | _ | _ | _ | o
    · simp [go_sem]
    · simp [go_sem]
    · simp [go_sem]
    · simp [go_sem]
    · omega)
  have HW := hide hW
  clear hR hW
  go_enter Try.func4, Try.ntmps4
  go_wp2_with fail
  rw [← HW.out]
  go_loopw [4] (fun v4 wr => ∃ (i : Nat) (T : List Tri), i ≤ 2 ∧ T.length = i ∧ v4 = .int .i64 (i : Int) ∧ SB w 0 (fun _ : Nat => False) T w.heap.size (.slice none 0 0) (.slice none 0 0) [] [] wr ∧ (∀ o, o < 2 → i ≤ o → wr.cell? ⟨w.heap.size, o, none⟩ = some (.pointer none) ∧ wr.cell? ⟨w.heap.size, 2 + o, none⟩ = some (.pointer none))) (fun v4 _ => 2 - (intOf v4).toNat)
  case atStart => exact ⟨0, [], by omega, rfl, rfl, S0.out, fun o ho _ => ⟨Q0.out o (by omega), Q0.out (2 + o) (by omega)⟩⟩
  case round =>
    obtain ⟨i, T, hi, hT, rfl, hsb, hfree⟩ := hrel
    have HSB := hide hsb
    have HFR := hide hfree
    have zq := hsb.qz
    have fq := hsb.fr
    by_cases hlt : i < 2
    · have hl2 : (i : Int) < 2 := by omega
      have hi0 : (0 : Int) ≤ (i : Int) := by omega
      obtain ⟨f1, f2⟩ := hfree i hlt (Nat.le_refl _)
      have g1 := fq i
      have g2 := fq (2 + i)
      clear hfree hsb fq
      go_wp2_with fail
      go_region_law (first
        | (go_simp; go_at_call 7; (apply Calls.mono; focus (exact New_k _)); rintro e w5 ⟨rfl, kl5⟩; have HK5 := hide kl5; have HB5 : Below wr.heap.size wr w5 := bstep (by (focus repeat' (first | (with_reducible exact Below.refl _ _) | (with_reducible assumption) | (with_reducible refine Below.alloc ?_ ?_ _) | (with_reducible refine Below.drew ?_) | (with_reducible refine bdrewN ?_ _) | (with_reducible refine Below.setCell ?_ ?_ _) | (first | (with_reducible exact Nat.le_refl _) | (with_reducible assumption) | omega | (simp; omega) | (simp; done))))) kl5.low; have hz5 := HB5.size; have zq5 : w.heap.size < w5.heap.size := (by omega); have f15 := cell_stay f1 (HB5.block _ zq); have f25 := cell_stay f2 (HB5.block _ zq); have g15 := fro_stay g1 (HB5.block _ zq); have g25 := fro_stay g2 (HB5.block _ zq); have H5 := hide HB5; clear kl5 HB5))
      all_goals
        first
        | (
          obtain ⟨X, hX⟩ : ∃ X, X = ((w5.setCell ⟨w.heap.size, i, none⟩ (.pointer (some ⟨wr.heap.size + 3, 0, none⟩))).setCell ⟨w.heap.size, 2 + i, none⟩ (.pointer (some ⟨w5.heap.size, 0, none⟩))).alloc (.cells #[.slice none 0 0, .slice none 0 0, .slice none 0 0] 50) := ⟨_, rfl⟩
          rw [← hX]
          obtain ⟨k1, k2, k3, k4, k5, k6, k7, k8, k9⟩ := sets_alloc w5 w.heap.size i _ _ _ (by omega) ⟨_, f15⟩ ⟨_, f25⟩ hlt X hX
          have hbB : Below wr.heap.size wr (w5.alloc (.cells #[.slice none 0 0, .slice none 0 0, .slice none 0 0] 50)) := H5.out.alloc H5.out.size _
          have HBB := hide hbB
          have kl := HK5.out.below ((Below.refl w5.heap.size w5).alloc (Nat.le_refl _) (.cells #[.slice none 0 0, .slice none 0 0, .slice none 0 0] 50))
          have hob := kl.obj
          have how := kl.own
          simp only [World.size_drew] at hob how
          have hnf : ∀ j, (newFp wr.heap.size).own j → j < w5.heap.size := fun j hj => by
            have q := HK5.out.obj.lt (k := j) (by simpa using hj)
            exact q
          have sx := HSB.out.fill hlt hT (t := ⟨newFp wr.heap.size, ⟨w5.heap.size, .slice none 0 0, .slice none 0 0, .slice none 0 0⟩, ⟨[], []⟩⟩) hbB ⟨hob, R_new _ _ _ (fun k h => h.elim) (by simp [go_sem]) (by simp [go_sem]) (by simp [go_sem]) (fun o => by simp [go_sem]), (fun h => by have := hnf _ h; exact absurd this (Nat.lt_irrefl _)), Good.nil⟩ (fun j hj => by
            rcases hj with hj | hj
            · exact how j hj
            · have hj2 : j = w5.heap.size := hj
              omega) k1 k2 k3 k4 k5 k6 k7 k8 k9
          have SX' := hide sx
          have cx1 := k1
          have zX := SX'.out.qz
          have FX := hide (show ∀ o, o < 2 → i + 1 ≤ o → X.cell? ⟨w.heap.size, o, none⟩ = some (.pointer none) ∧ X.cell? ⟨w.heap.size, 2 + o, none⟩ = some (.pointer none) from fun o ho hio => by
            obtain ⟨p1, p2⟩ := HFR.out o ho (by omega)
            exact ⟨k9 o _ (by omega) (by omega) (cell_stay p1 (HBB.out.block _ zq)), k9 (2 + o) _ (by omega) (by omega) (cell_stay p2 (HBB.out.block _ zq))⟩)
          clear sx k1 k2 k3 k4 k5 k6 k7 k8 k9 hX f15 f25 g15 g25 f1 f2 g1 g2
          go_wp2
          go_roundw
          case rel => exact ⟨i + 1, _, by omega, by rw [List.length_append, hT]; rfl, by go_num, SX'.out, FX.out⟩
          case measure => simp [intOf]; omega)
        | (
          obtain ⟨X, hX⟩ : ∃ X, X = (w5.setCell ⟨w.heap.size, i, none⟩ (.pointer (some ⟨wr.heap.size + 1 + 3, 0, none⟩))).setCell ⟨w.heap.size, 2 + i, none⟩ (.pointer (some ⟨wr.heap.size, 0, none⟩)) := ⟨_, rfl⟩
          rw [← hX]
          obtain ⟨k1, k2, k3, k4, k5, k6, k7, k8, k9⟩ := sets_two w5 w.heap.size i _ _ ⟨_, f15⟩ ⟨_, f25⟩ hlt X hX
          have hbB := H5.out
          have HBB := hide hbB
          have hob := HK5.out.obj
          have how := HK5.out.own
          have hlo := HK5.out.low
          simp only [World.size_drew, World.size_alloc] at hob how hlo
          have hr5 : w5.heap[wr.heap.size]? = (wr.alloc (.cells #[.slice none 0 0, .slice none 0 0, .slice none 0 0] 50)).heap[wr.heap.size]? := (hlo.block wr.heap.size (by omega)).trans rfl
          have sx := HSB.out.fill hlt hT (t := ⟨newFp (wr.heap.size + 1), ⟨wr.heap.size, .slice none 0 0, .slice none 0 0, .slice none 0 0⟩, ⟨[], []⟩⟩) hbB ⟨hob, R_new _ _ _ (fun k h => h.elim) (cell_stay (by simp [go_sem]) hr5) (cell_stay (by simp [go_sem]) hr5) (cell_stay (by simp [go_sem]) hr5) (fun o => fro_stay (by simp [go_sem]) hr5), (fun h => by have := how _ h; exact absurd this (by show ¬ wr.heap.size + 1 ≤ wr.heap.size; omega)), Good.nil⟩ (fun j hj => by
            rcases hj with hj | hj
            · have := how j hj; omega
            · have hj2 : j = wr.heap.size := hj
              omega) k1 k2 k3 k4 k5 k6 k7 k8 k9
          have SX' := hide sx
          have cx1 := k1
          have zX := SX'.out.qz
          have FX := hide (show ∀ o, o < 2 → i + 1 ≤ o → X.cell? ⟨w.heap.size, o, none⟩ = some (.pointer none) ∧ X.cell? ⟨w.heap.size, 2 + o, none⟩ = some (.pointer none) from fun o ho hio => by
            obtain ⟨p1, p2⟩ := HFR.out o ho (by omega)
            exact ⟨k9 o _ (by omega) (by omega) (cell_stay p1 (HBB.out.block _ zq)), k9 (2 + o) _ (by omega) (by omega) (cell_stay p2 (HBB.out.block _ zq))⟩)
          clear sx k1 k2 k3 k4 k5 k6 k7 k8 k9 hX f15 f25 g15 g25 f1 f2 g1 g2
          go_wp2
          go_roundw
          case rel => exact ⟨i + 1, _, by omega, by rw [List.length_append, hT]; rfl, by go_num, SX'.out, FX.out⟩
          case measure => simp [intOf]; omega)
    · obtain rfl : i = 2 := by omega
      rw [show ((2 : Nat) : Int) = (2 : Int) from rfl]
      have HST := hide (show St w 0 (fun _ : Nat => False) T w.heap.size (.slice none 0 0) (.slice none 0 0) wr from SB.toSt (by
        rw [List.drop_of_length_le (by simp [hT]), List.drop_of_length_le (by simp [hT])]
        exact hsb) (by omega) (by omega))
      obtain ⟨wo, hwo⟩ : ∃ wo : World, wo = wr := ⟨_, rfl⟩
      rw [← hwo] at HST ⊢
      clear hwo hfree hsb fq HSB HFR zq hlt S0 Q0 hi
      have hl2 : ((2 : Int) < 2) = False := by simp
      go_wp2_with fail
      go_loopw [5] (fun v5 wr => ∃ (i : Nat) (I : Nat → Prop) (T : List Tri) (ov wv : Value), i ≤ L.length ∧ i ≤ 100 ∧ v5 = .int .i64 (i : Int) ∧ St w i I T w.heap.size ov wv wr) (fun v5 _ => 100 - (intOf v5).toNat)
      case atStart => exact ⟨0, _, T, _, _, by omega, by omega, rfl, HST.out⟩
      case round =>
        obtain ⟨i, I, T, ov, wv, hi, hi1, rfl, hst⟩ := hrel
        have HS := hide hst
        have hi0 : (0 : Int) ≤ (i : Int) := by omega
        clear hst
        by_cases hlt : i < L.length ∧ i < 100
        · obtain ⟨hl1, hl3⟩ := hlt
          have m1 : (i : Int) < (L.length : Int) := by omega
          have m2 : (i : Int) < 100 := by omega
          obtain ⟨g, off, rfl, hat⟩ := HRW.out.cells i hl1
          obtain ⟨d, hd⟩ : ∃ d, d = L.getD i StepD.zero := ⟨_, rfl⟩
          rw [← hd] at hat
          obtain ⟨a0, a1, a2, a3, ⟨lo, lc, a4, hE⟩, hz, hbig⟩ := hat
          have hlow := HS.out.low
          have hgz := World.block_lt_of_cell? w _ a0
          have a0 := cell_stay a0 (hlow.block _ hgz)
          have a1 := cell_stay a1 (hlow.block _ hgz)
          have a2 := cell_stay a2 (hlow.block _ hgz)
          have a3 := cell_stay a3 (hlow.block _ hgz)
          have a4 := cell_stay a4 (hlow.block _ hgz)
          have C := hide (step_any w i I T w.heap.size ov wv d lo lc wr HS.out hE hz (by omega) hbig)
          clear hlow hd hE hz hbig
          go_wp2_with fail
          refine C.out.mono ?_
          rintro e w5 ⟨rfl, I2, T2, ov2, wv2, hst2⟩
          have HS2 := hide hst2
          clear hst2
          go_wp2
          go_roundw
          case rel => exact ⟨i + 1, I2, T2, ov2, wv2, by omega, by omega, by go_num, HS2.out⟩
          case measure => simp [intOf]; omega
        · obtain ⟨wo2, hwo2⟩ : ∃ wo2 : World, wo2 = wr := ⟨_, rfl⟩
          rw [← hwo2] at HS ⊢
          obtain ⟨N0, hN0⟩ : ∃ N0, N0 = i := ⟨_, rfl⟩
          rw [← hN0] at HS
          have HNN := hide (show N0 ≤ 100 by omega)
          obtain ⟨z5, hz5⟩ : ∃ z5, z5 = Value.int .i64 (i : Int) := ⟨_, rfl⟩
          have m3 : (decide ((i : Int) < (L.length : Int)) && decide ((i : Int) < 100)) = false := by
            rw [Bool.and_eq_false_iff, decide_eq_false_iff_not, decide_eq_false_iff_not]; omega
          clear hwo2 hN0 HST hl2
          by_cases hq : i < L.length
          all_goals
            first
            | (have m1 : (i : Int) < (L.length : Int) := by omega
               have m2 : ¬ (i : Int) < 100 := by omega
               clear hq hlt m3
               go_wp2_with fail)
            | (have m1 : ¬ (i : Int) < (L.length : Int) := by omega
               clear hq hlt m3
               go_wp2_with fail)
          all_goals
            have h2 := HS.out.two
            go_loopw [7] (fun v7 wr => ∃ (i : Nat) (a b : List Value) (ov wv : Value), i ≤ 2 ∧ v7 = .int .i64 (i : Int) ∧ a = (T.map Tri.pl).drop 2 ++ (T.map Tri.pl).take i ∧ b = (T.map Tri.pr).drop 2 ++ (T.map Tri.pr).take i ∧ SB w N0 I T w.heap.size ov wv a b wr) (fun v7 _ => 2 - (intOf v7).toNat)
            case atStart => exact ⟨0, _, _, ov, wv, by omega, rfl, rfl, rfl, by simpa using HS.out.toSB⟩
            case round =>
              obtain ⟨k, a, b, ov2, wv2, hk, rfl, ha, hb, hsb⟩ := hrel
              have HSB := hide hsb
              have HAB := hide (And.intro ha hb)
              have hk0 : (0 : Int) ≤ (k : Int) := by omega
              have hla : a.length ≤ 12 := by rw [ha]; have := HS.out.few; simp; omega
              have hlb : b.length ≤ 12 := by rw [hb]; have := HS.out.few; simp; omega
              clear hsb ha hb
              by_cases hlt : k < 2
              · have hl2 : (k : Int) < 2 := by omega
                obtain ⟨t, ht⟩ : ∃ t, T[k]? = some t := ⟨_, List.getElem?_eq_getElem (by omega)⟩
                obtain ⟨e1, -⟩ := HSB.out.cur k t hlt ht
                unfold Tri.pl at e1
                have HT := hide ht
                obtain ⟨i0, i1, i2, i3, i4⟩ := info_parts info25
                obtain ⟨j0, j1, j2, j3, j4⟩ := info_parts info43
                clear ht
                have c_6 := HSB.out.c4
                have f_6 := HSB.out.fr 4
                have zq_6 := HSB.out.qz
                obtain ⟨oo6, oc6, ho6⟩ := own_any HSB.out.ovr
                rw [ho6] at c_6
                have HO6 := hide (show wr.ownsRow w.heap.size 25 1 (.slice oo6 a.length oc6) a.length a from by rw [← ho6]; exact HSB.out.ovr)
                have HOE6 := hide ho6
                have ONE6 := hide (oneptr (some ⟨t.F.b, 0, none⟩))
                clear ho6
                go_wp2_with fail
                go_region_law
                  (refine step_append_lies _ rfl _ _ 45 rfl w.heap.size 25 i0 (.pointer none) 1 8 Try.underlying45 i1 i2 i3 i4 rfl (by decide) (.slice oo6 a.length oc6) a.length a (by simp [Act.eval, Act.put]) (HO6.out.alloc _) ⟨wr.heap.size, 0, none⟩ 1 1 [.pointer (some ⟨t.F.b, 0, none⟩)] (by simp [Act.eval, Act.put]) (by simp) (cell_one_new _ _ _) ONE6.out (by decide) (by unfold maxLen; omega) (by omega) (by have := HSB.out.low.size; simp; omega) _ rfl ?_; intro g6 cap6 w6 own6 hg6 hloc6 hlt6; have G6 := hide (And.intro own6 (And.intro hg6 hloc6)); have hq6 : w6.heap[w.heap.size]? = wr.heap[w.heap.size]? := (hg6.block w.heap.size (by have := HSB.out.qz; simp; omega) (fun e => HSB.out.qo.1 (by rw [HOE6.out]; exact e.symm))).trans (Below.heap_alloc _ _ _ HSB.out.qz); have c_6 := cell_stay c_6 hq6; have f_6 := fro_stay f_6 hq6; clear own6 hg6 hloc6 hlt6 hq6)
                all_goals
                  obtain ⟨Y6, hY6⟩ : ∃ Y6, Y6 = w6.setCell ⟨w.heap.size, 4, none⟩ (.slice (some ⟨g6, 0, none⟩) (a.length + 1) cap6) := ⟨_, rfl⟩
                  rw [← hY6]
                  have hg_6 := G6.out.2.1
                  rw [← HOE6.out] at hg_6
                  have s_6 := HSB.out.push_o (by first | exact ((Below.refl _ _).alloc (Nat.le_refl _) _).drew | exact (Below.refl _ _).alloc (Nat.le_refl _) _ | (focus repeat' (first | (with_reducible exact Below.refl _ _) | (with_reducible assumption) | (with_reducible refine Below.alloc ?_ ?_ _) | (with_reducible refine Below.drew ?_) | (with_reducible refine bdrewN ?_ _) | (with_reducible refine Below.setCell ?_ ?_ _) | (first | (with_reducible exact Nat.le_refl _) | (with_reducible assumption) | omega | (simp; omega) | (simp; done))))) G6.out.1 hg_6 (by rw [HOE6.out]; exact G6.out.2.2.imp (fun e => e.symm) (fun e => ⟨g6, rfl, by rw [e]; simp⟩)) rfl
                  rw [← hY6] at s_6
                  have HS6 := hide s_6
                  clear s_6 hg_6 hY6 c_6 f_6
                all_goals
                  obtain ⟨-, e2⟩ := HS6.out.cur k t hlt HT.out
                  unfold Tri.pr at e2
                  clear e1
                  have c_8 := HS6.out.c5
                  have f_8 := HS6.out.fr 5
                  have zq_8 := HS6.out.qz
                  obtain ⟨oo8, oc8, ho8⟩ := own_any HS6.out.wvr
                  rw [ho8] at c_8
                  have HO8 := hide (show Y6.ownsRow w.heap.size 43 1 (.slice oo8 b.length oc8) b.length b from by rw [← ho8]; exact HS6.out.wvr)
                  have HOE8 := hide ho8
                  have ONE8 := hide (oneptr (some ⟨t.R.r, 0, none⟩))
                  clear ho8
                  go_wp2_with fail
                  go_region_law
                    (refine step_append_lies _ rfl _ _ 46 rfl w.heap.size 43 j0 (.pointer none) 1 8 Try.underlying46 j1 j2 j3 j4 rfl (by decide) (.slice oo8 b.length oc8) b.length b (by simp [Act.eval, Act.put]) (HO8.out.alloc _) ⟨Y6.heap.size, 0, none⟩ 1 1 [.pointer (some ⟨t.R.r, 0, none⟩)] (by simp [Act.eval, Act.put]) (by simp) (cell_one_new _ _ _) ONE8.out (by decide) (by unfold maxLen; omega) (by omega) (by have := HS6.out.low.size; simp; omega) _ rfl ?_; intro g8 cap8 w8 own8 hg8 hloc8 hlt8; have G8 := hide (And.intro own8 (And.intro hg8 hloc8)); have hq8 : w8.heap[w.heap.size]? = Y6.heap[w.heap.size]? := (hg8.block w.heap.size (by have := HS6.out.qz; simp; omega) (fun e => HS6.out.qo.2.1 (by rw [HOE8.out]; exact e.symm))).trans (Below.heap_alloc _ _ _ HS6.out.qz); have c_8 := cell_stay c_8 hq8; have f_8 := fro_stay f_8 hq8; clear own8 hg8 hloc8 hlt8 hq8)
                  all_goals
                    obtain ⟨Y8, hY8⟩ : ∃ Y8, Y8 = w8.setCell ⟨w.heap.size, 5, none⟩ (.slice (some ⟨g8, 0, none⟩) (b.length + 1) cap8) := ⟨_, rfl⟩
                    rw [← hY8]
                    have hg_8 := G8.out.2.1
                    rw [← HOE8.out] at hg_8
                    have s_8 := HS6.out.push_w (by first | exact ((Below.refl _ _).alloc (Nat.le_refl _) _).drew | exact (Below.refl _ _).alloc (Nat.le_refl _) _ | (focus repeat' (first | (with_reducible exact Below.refl _ _) | (with_reducible assumption) | (with_reducible refine Below.alloc ?_ ?_ _) | (with_reducible refine Below.drew ?_) | (with_reducible refine bdrewN ?_ _) | (with_reducible refine Below.setCell ?_ ?_ _) | (first | (with_reducible exact Nat.le_refl _) | (with_reducible assumption) | omega | (simp; omega) | (simp; done))))) G8.out.1 hg_8 (by rw [HOE8.out]; exact G8.out.2.2.imp (fun e => e.symm) (fun e => ⟨g8, rfl, by rw [e]; simp⟩)) rfl
                    rw [← hY8] at s_8
                    have HS8 := hide s_8
                    clear s_8 hg_8 hY8 c_8 f_8
                  all_goals
                    clear e2
                    go_wp2
                    go_roundw
                    case rel => exact ⟨k + 1, _, _, _, _, by omega, by go_num, by rw [HAB.out.1, List.append_assoc, take_at Tri.pl HT.out]; rfl, by rw [HAB.out.2, List.append_assoc, take_at Tri.pr HT.out]; rfl, HS8.out⟩
                    case measure => simp [intOf]; omega
              · obtain rfl : k = 2 := by omega
                rw [show ((2 : Nat) : Int) = (2 : Int) from rfl]
                obtain ⟨wo3, hwo3⟩ : ∃ wo3 : World, wo3 = wr := ⟨_, rfl⟩
                rw [← hwo3] at HSB ⊢
                have hlen : a.length = T.length := by rw [HAB.out.1]; simp; omega
                have hlenb : b.length = T.length := by rw [HAB.out.2]; simp; omega
                have HLE := hide (And.intro hlen hlenb)
                clear hwo3 hlt hk hlen hlenb
                go_wp2_with fail
                go_loopw [8] (fun v8 wr => ∃ i : Nat, i ≤ a.length ∧ v8 = .int .i64 (i : Int) ∧ SB w N0 I T w.heap.size ov2 wv2 a b wr) (fun v8 _ => a.length - (intOf v8).toNat)
                case atStart => exact ⟨0, Nat.zero_le _, rfl, HSB.out⟩
                case round =>
                  obtain ⟨j, hj, rfl, hsr⟩ := hrel
                  have HSR := hide hsr
                  have hj0 : (0 : Int) ≤ (j : Int) := by omega
                  have c4 := hsr.c4
                  have zq := hsr.qz
                  by_cases hlt : j < a.length
                  · obtain ⟨jj, t, ht, ha1, hb1⟩ := rot_at h2 (i := j) (by have := HLE.out.1; omega)
                    rw [← HAB.out.1] at ha1
                    rw [← HAB.out.2] at hb1
                    have hlb2 : j < b.length := by have := HLE.out; omega
                    obtain ⟨ga, ca, ea, ua⟩ := own_at hsr.ovr hlt
                    obtain ⟨gb, cb, eb, ub⟩ := own_at hsr.wvr hlb2
                    rw [ha1] at ua
                    rw [hb1] at ub
                    have c5 := hsr.c5
                    rw [ea] at c4
                    rw [eb] at c5
                    unfold Tri.pl at ua
                    unfold Tri.pr at ub
                    have PT := hide (hsr.obj jj t ht)
                    have m1 : (j : Int) < (a.length : Int) := by omega
                    have m2 : (j : Int) < (b.length : Int) := by omega
                    have m9 : (j : Int) < 20 := by omega
                    have TL := hide (show ∀ w', Below wr.heap.size wr w' → Calls Try.prog 17 #[.pointer (some ⟨t.F.b, 0, none⟩), .pointer (some ⟨t.R.r, 0, none⟩), .int .i64 0] w' fun e w'' => e = .returned (.bool true) ∧ Below wr.heap.size wr w'' from fun w' hb => (told_law I t.F t.R t.S 0 w' (PT.out.l.below hb) (PT.out.r.below hb) PT.out.g.fine PT.out.g.agree).mono fun e w'' q => ⟨q.1, bstep hb q.2⟩)
                    clear hsr ha1 hb1 ea eb ht
                    go_wp2_with fail
                    go_region_law (go_simp; go_at_call 17; (apply Calls.mono; focus (exact TL.out _ (by first | exact (Below.refl _ _).drew | exact Below.refl _ _ | (focus repeat' (first | (with_reducible exact Below.refl _ _) | (with_reducible assumption) | (with_reducible refine Below.alloc ?_ ?_ _) | (with_reducible refine Below.drew ?_) | (with_reducible refine bdrewN ?_ _) | (with_reducible refine Below.setCell ?_ ?_ _) | (first | (with_reducible exact Nat.le_refl _) | (with_reducible assumption) | omega | (simp; omega) | (simp; done))))))); rintro e w9 ⟨rfl, hb9⟩; have HB9 := hide hb9; clear hb9)
                    all_goals
                      go_wp2
                      go_roundw
                      case rel => exact ⟨j + 1, by omega, by go_num, HSR.out.below HB9.out⟩
                      case measure => simp [intOf]; omega
                  · obtain rfl : j = a.length := by omega
                    obtain ⟨oa, ca, ea⟩ := own_any hsr.ovr
                    rw [ea] at c4
                    have m1 : ¬ (a.length : Int) < (a.length : Int) := by omega
                    clear hsr ea
                    go_wp2_with fail
                    refine (known_c wr).mono ?_
                    rintro e w9 ⟨rfl, hb9⟩
                    have HB9 := hide (HSR.out.low.trans (hb9.mono HSR.out.low.size))
                    clear hb9
                    go_wp2
                    go_ret
                    exact ⟨rfl, HB9.out⟩
end Go.Proofs.Ytkdocoibfclfeaa

