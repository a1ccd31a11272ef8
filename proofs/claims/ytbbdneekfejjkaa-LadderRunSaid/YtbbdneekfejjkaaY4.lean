import Derived.Test.YtbbdneekfejjkaaY3
namespace Go.Proofs.Ytbbdneekfejjkaa.runs
open Go.ChangeShapes Go.WideShapes Go.ChangeAt Go.RowKit Go.Deep Go.Shelf
set_option linter.unusedSimpArgs false
set_option linter.unusedVariables false

theorem eql52 (lb : Array Value) (w : World) : Sem.run Try.prog (binOp .eql 52 (.func (.func 30) #[] lb) .nilFunc) w = .ok (.bool false) w := by kernel_rfl
def bids (zz : Nat → Nat → Int) (j : Nat) : R4 := (zz j 0, zz j 1, zz j 2, zz j 3)
theorem RowB.below {w w' : World} {so : Option Addr} {cap L : Nat} {zz : Nat → Nat → Int} (h : RowB w so cap L zz) (hb : Below w.heap.size w w') : RowB w' so cap L zz :=
  ⟨h.nil, fun ad e j u hu => (hb.cell (p := ad.add j) (World.block_lt_of_cell? w _ (h.cells ad e j u hu))).trans (h.cells ad e j u hu), h.len⟩
theorem upd5 (w7 : World) (xb nb : Nat) (x0 x1 x2 x3 y a b c d e : Value) (h : xb ≠ nb) (hx : ∀ o, w7.cell? ⟨xb, o, none⟩ = (#[x0, x1, x2, x3] : Array Value)[o]?) (hn : w7.cell? ⟨nb, 0, none⟩ = some y) (W' : World)
    (hW : W' = ((((w7.setCell ⟨xb, 0, none⟩ a).setCell ⟨xb, 1, none⟩ b).setCell ⟨xb, 2, none⟩ c).setCell ⟨xb, 3, none⟩ d).setCell ⟨nb, 0, none⟩ e) :
    (∀ i, i ≠ xb → i ≠ nb → W'.heap[i]? = w7.heap[i]?) ∧ (∀ o, W'.cell? ⟨xb, o, none⟩ = (#[a, b, c, d] : Array Value)[o]?) ∧ W'.cell? ⟨nb, 0, none⟩ = some e ∧ (∀ q, W'.frozen? q = w7.frozen? q) ∧ W'.heap.size = w7.heap.size := by
  have q0 := hx 0
  have q1 := hx 1
  have q2 := hx 2
  have q3 := hx 3
  simp at q0 q1 q2 q3
  have h' := Ne.symm h
  refine ⟨fun i h1 h2 => ?_, fun o => ?_, ?_, fun q => ?_, ?_⟩
  · rw [hW, heap_setCell_other _ _ _ _ (by simpa using h2), heap_setCell_other _ _ _ _ (by simpa using h1), heap_setCell_other _ _ _ _ (by simpa using h1), heap_setCell_other _ _ _ _ (by simpa using h1), heap_setCell_other _ _ _ _ (by simpa using h1)]
  · have q := hx o
    rw [hW]
    rcases o with _ | _ | _ | _ | o
    · simp [go_sem, q0, h, h']
    · simp [go_sem, q1, h, h']
    · simp [go_sem, q2, h, h']
    · simp [go_sem, q3, h, h']
    · simp [go_sem, h, h']; simpa using q
  · rw [hW]; simp [go_sem, hn, h, h']
  · rw [hW]; simp only [World.frozen?_setCell]
  · rw [hW]; simp only [World.size_setCell]
theorem keeps_below {W W' : World} (h : Below W.heap.size W W') : KeepsOthers W W' := ⟨h.size, fun k o hk _ => (h.block k (Array.getElem?_eq_some_iff.1 hk).1).trans hk⟩
theorem stays_old {β : Type} {B : Nat} {I : β → World → Prop} (h : ∀ s W W', (∀ b, b < B → W'.heap[b]? = W.heap[b]?) → I s W → I s W') : Stays B (fun s W => B ≤ W.heap.size ∧ I s W) :=
  fun s W W' row hs hg hr => ⟨Nat.le_trans hs.1 hg.size, h s W W' (fun b hb => hg.block b (Nat.lt_of_lt_of_le hb hs.1) (fun e => by have := hr b e.symm; omega)) hs.2⟩
/-- what the loop's own boxes hold behind j rounds -/
structure LS (lb rb xb nb : Nat) (k op cl st sp ex la fl fa co ru : Int) (zz : Nat → Nat → Int) (j : Nat) (W : World) : Prop where
  lot : ∀ o, W.cell? ⟨lb, o, none⟩ = (#[Value.int .i64 k, Value.int .i64 op, Value.int .i64 cl, Value.int .i64 st, Value.int .i64 sp, Value.int .i64 ex, Value.int .i64 la, Value.int .i64 fl, Value.int .i64 fa, Value.int .i64 co, Value.int .i64 ru] : Array Value)[o]?
  res : W.cell? ⟨rb, 0, none⟩ = some (.bool false)
  resf : W.frozen? ⟨rb, 0, none⟩ = false
  rise : ∀ o, W.cell? ⟨xb, o, none⟩ = (#[Value.int .i64 (rs op st sp ex la (r0 cl) (bids zz) j).1.1, .int .i64 (rs op st sp ex la (r0 cl) (bids zz) j).1.2.1, .int .i64 (rs op st sp ex la (r0 cl) (bids zz) j).1.2.2.1, .int .i64 (rs op st sp ex la (r0 cl) (bids zz) j).1.2.2.2] : Array Value)[o]?
  risef : ∀ o, W.frozen? ⟨xb, o, none⟩ = false
  num : W.cell? ⟨nb, 0, none⟩ = some (.int .i64 (j : Int))
  numf : W.frozen? ⟨nb, 0, none⟩ = false
theorem LS.old {lb rb xb nb : Nat} {k op cl st sp ex la fl fa co ru : Int} {zz : Nat → Nat → Int} {j B : Nat} {W W' : World} (h : LS lb rb xb nb k op cl st sp ex la fl fa co ru zz j W) (h1 : lb < B) (h2 : rb < B) (h3 : xb < B) (h4 : nb < B) (hb : ∀ b, b < B → W'.heap[b]? = W.heap[b]?) : LS lb rb xb nb k op cl st sp ex la fl fa co ru zz j W' :=
  ⟨fun o => (World.cell?_of_block (a := ⟨lb, o, none⟩) (hb _ h1)).trans (h.lot o), (World.cell?_of_block (a := ⟨rb, 0, none⟩) (hb _ h2)).trans h.res, (World.frozen?_of_block (a := ⟨rb, 0, none⟩) (hb _ h2)).trans h.resf,
    fun o => (World.cell?_of_block (a := ⟨xb, o, none⟩) (hb _ h3)).trans (h.rise o), fun o => (World.frozen?_of_block (a := ⟨xb, o, none⟩) (hb _ h3)).trans (h.risef o), (World.cell?_of_block (a := ⟨nb, 0, none⟩) (hb _ h4)).trans h.num, (World.frozen?_of_block (a := ⟨nb, 0, none⟩) (hb _ h4)).trans h.numf⟩
abbrev encR (x : R4 × Int) : Array Value := #[.agg #[.int .i64 x.1.1, .int .i64 x.1.2.1, .int .i64 x.1.2.2.1, .int .i64 x.1.2.2.2], .int .i64 x.2]
theorem all_seq (n : Nat) (hn : 1 ≤ n) (Bl Bb base : Nat) (k op cl st sp ex la fl fa co ru : Int) (L : Nat) (zz : Nat → Nat → Int) (h : LotOK k op cl st sp ex la fl fa co ru) (hf : ∀ j, j < L → zz j 2 ≤ 9223372036854775807) (hL : L ≤ 1048576) (v' : Value) (w0 : World)
    (hBl : Bl < w0.heap.size) (hBb : Bb < w0.heap.size) (hc : ∀ o, w0.cell? ⟨Bl, o, none⟩ = (#[Value.int .i64 k, Value.int .i64 op, Value.int .i64 cl, Value.int .i64 st, Value.int .i64 sp, Value.int .i64 ex, Value.int .i64 la, Value.int .i64 fl, Value.int .i64 fa, Value.int .i64 co, Value.int .i64 ru] : Array Value)[o]?) (hb : w0.cell? ⟨Bb, 0, none⟩ = some v') (own : w0.ownsRow base 35 4 v' L (flat4 zz L)) :
    SeqR n Try.prog 30 #[.pointer (some ⟨Bl, 0, none⟩), .pointer (some ⟨Bb, 0, none⟩)] encR (fun i => i = Bl ∨ i = Bb ∨ v'.ownBlock = some i) (fun xs => xs = upto (stp op st sp ex la cl (bids zz)) L) (fun pre => ∃ k, k ≤ L ∧ pre = upto (stp op st sp ex la cl (bids zz)) k) (fun pre x => ∃ j, j < L ∧ pre = upto (stp op st sp ex la cl (bids zz)) j ∧ x = stp op st sp ex la cl (bids zz) j) w0 := by
  intro l J Jx W hbW hJ hJx hY h0
  obtain ⟨ao, cap, rfl⟩ := own_any4 own
  have ownW := own_later own hbW
  refine all_ok n hn l Bl Bb _ k op cl st sp ex la fl fa co ru L (bids zz) h hf hL ao cap W J Jx hY hJ hJx (.inl rfl) (.inr (.inl rfl)) (fun i hi => ?_) (fun o => (hbW.cell (p := ⟨Bl, o, none⟩) hBl).trans (hc o)) ((hbW.cell (p := ⟨Bb, 0, none⟩) hBb).trans hb) (fun j hj => ?_) h0
  · have := hbW.size
    rcases hi with rfl | rfl | e
    · omega
    · omega
    · exact (ownW.lt i e).2
  · rcases ownW.2 with ⟨_, h0, _⟩ | ⟨g, c, cur, hv, _⟩
    · omega
    · obtain ⟨rfl, rfl⟩ : ao = some ⟨g, 0, none⟩ ∧ cap = c := by (injection hv with e1 e2 e3; exact ⟨e1, e3⟩)
      have cell : ∀ c, c < 4 → W.cell? ⟨g, 0 + j * 4 + c, none⟩ = some (.int .i64 (zz j c)) := fun c hc4 => by
        rw [Nat.zero_add, ownW.cellAt (j * 4 + c) (by omega)]
        exact flat4_at zz L j c hj hc4
      exact ⟨g, 0, rfl, .inr (.inr rfl), cell 0 (by decide), cell 1 (by decide), cell 2 (by decide), cell 3 (by decide)⟩

attribute [local go_sem] Oper.semAt_some

set_option maxRecDepth 100000 in
set_option maxHeartbeats 4000000 in
theorem Stays_long (k op cl st sp ex la fl fa co ru : Int) (so : Option Addr) (cap L : Nat) (zz : Nat → Nat → Int) (w : World) (hb : RowB w so cap L zz) (hL : 200 < L) : Calls Try.prog 5 #[.agg #[.int .i64 k, .int .i64 op, .int .i64 cl, .int .i64 st, .int .i64 sp, .int .i64 ex, .int .i64 la, .int .i64 fl, .int .i64 fa, .int .i64 co, .int .i64 ru], .slice so L cap] w fun e w' => e = .returned (.bool true) ∧ Below w.heap.size w w' := by
  refine (callsIn_wide (n := 3)).1 ?_
  refine callsIn_of_wp_marks Try.func5 rfl trivial ?_ rfl
  simp only [Try.ntmps5, List.size_toArray, List.length_cons, List.length_nil, Nat.reduceAdd, Nat.reduceSub, Array.replicate_succ, Array.replicate_zero, List.push_toArray, List.append_toArray, List.nil_append, List.cons_append]
  have hlen := hb.len
  have HB := hide hb
  clear hb
  have hL1 : (200 : Int) < (L : Int) := by omega
  gi_wp2_with fail
  refine ⟨trivial, ?_⟩
  gi_wp2_with fail
  refine ⟨trivial, ?_⟩
  refine (callsIn_wide.2 (known_any _)).mono ?_
  rintro e w9 ⟨rfl, hb9⟩
  have c9 : w9.cell? ⟨w.heap.size + 1, 0, none⟩ = some (.bool false) := (hb9.cell (p := ⟨w.heap.size + 1, 0, none⟩) (by first | (simp; done) | omega | (simp; omega))).trans (by simp [go_sem])
  have f9 : w9.frozen? ⟨w.heap.size + 1, 0, none⟩ = false := (hb9.frozen (p := ⟨w.heap.size + 1, 0, none⟩) (by first | (simp; done) | omega | (simp; omega))).trans (by simp [go_sem])
  have HB9 := hide (show Below w.heap.size w w9 from bstep (by (focus repeat' (first | (with_reducible exact Below.refl _ _) | (with_reducible assumption) | (with_reducible refine Below.alloc ?_ ?_ _) | (with_reducible refine Below.drew ?_) | (with_reducible refine bdrewN ?_ _) | (with_reducible refine Below.setCell ?_ ?_ _) | (first | (with_reducible exact Nat.le_refl _) | (with_reducible assumption) | omega | (simp; omega) | (simp; done))))) hb9)
  clear hb9
  gi_wp2
  have c10 := World.cell?_setCell_same' w9 ⟨w.heap.size + 1, 0, none⟩ (.bool true) (by rw [c9]; rfl)
  refine ⟨.bool true, ?_, rfl, HB9.out.setCell (p := ⟨w.heap.size + 1, 0, none⟩) (by first | (simp; done) | omega) _⟩
  simp [results, Try.f5, go_sem, c10]

set_option maxRecDepth 100000 in
set_option maxHeartbeats 4000000 in
theorem Stays_bad (k op cl st sp ex la fl fa co ru : Int) (so : Option Addr) (cap L : Nat) (zz : Nat → Nat → Int) (w : World) (hb : RowB w so cap L zz) (hL : L ≤ 200) (h : ¬ LotOK k op cl st sp ex la fl fa co ru) : Calls Try.prog 5 #[.agg #[.int .i64 k, .int .i64 op, .int .i64 cl, .int .i64 st, .int .i64 sp, .int .i64 ex, .int .i64 la, .int .i64 fl, .int .i64 fa, .int .i64 co, .int .i64 ru], .slice so L cap] w fun e w' => e = .returned (.bool true) ∧ Below w.heap.size w w' := by
  refine (callsIn_wide (n := 3)).1 ?_
  refine callsIn_of_wp_marks Try.func5 rfl trivial ?_ rfl
  simp only [Try.ntmps5, List.size_toArray, List.length_cons, List.length_nil, Nat.reduceAdd, Nat.reduceSub, Array.replicate_succ, Array.replicate_zero, List.push_toArray, List.append_toArray, List.nil_append, List.cons_append]
  have hlen := hb.len
  have HB := hide hb
  clear hb
  have hL1 : ¬ (200 : Int) < (L : Int) := by omega
  gi_wp2_with fail
  refine ⟨trivial, ?_⟩
  refine (callsIn_wide.2 (check_no k op cl st sp ex la fl fa co ru _ h)).mono ?_
  rintro e w1 ⟨rfl, hb1⟩
  have cR : w1.cell? ⟨w.heap.size + 1, 0, none⟩ = some (.bool false) := (hb1.cell (p := ⟨w.heap.size + 1, 0, none⟩) (by simp)).trans (by simp [go_sem])
  have fR : w1.frozen? ⟨w.heap.size + 1, 0, none⟩ = false := (hb1.frozen (p := ⟨w.heap.size + 1, 0, none⟩) (by simp)).trans (by simp [go_sem])
  have HLC := hide (show ∀ o, w1.cell? ⟨w.heap.size, o, none⟩ = (#[Value.int .i64 k, Value.int .i64 op, Value.int .i64 cl, Value.int .i64 st, Value.int .i64 sp, Value.int .i64 ex, Value.int .i64 la, Value.int .i64 fl, Value.int .i64 fa, Value.int .i64 co, Value.int .i64 ru] : Array Value)[o]? from fun o => (hb1.cell (p := ⟨w.heap.size, o, none⟩) (by (simp; omega))).trans (by simp [go_sem]))
  have hz1 : w.heap.size + 2 ≤ w1.heap.size := by (have q := hb1.size; simp at q; omega)
  have HB1 := hide (show Below w.heap.size w w1 from bstep (by (focus repeat' (first | (with_reducible exact Below.refl _ _) | (with_reducible assumption) | (with_reducible refine Below.alloc ?_ ?_ _) | (with_reducible refine Below.drew ?_) | (with_reducible refine bdrewN ?_ _) | (with_reducible refine Below.setCell ?_ ?_ _) | (first | (with_reducible exact Nat.le_refl _) | (with_reducible assumption) | omega | (simp; omega) | (simp; done))))) hb1)
  clear hb1
  gi_wp2_with fail
  refine ⟨trivial, ?_⟩
  refine (callsIn_wide.2 (known_any _)).mono ?_
  rintro e w9 ⟨rfl, hb9⟩
  have c9 : w9.cell? ⟨w.heap.size + 1, 0, none⟩ = some (.bool false) := (hb9.cell (p := ⟨w.heap.size + 1, 0, none⟩) (by first | (simp; done) | omega | (simp; omega))).trans cR
  have f9 : w9.frozen? ⟨w.heap.size + 1, 0, none⟩ = false := (hb9.frozen (p := ⟨w.heap.size + 1, 0, none⟩) (by first | (simp; done) | omega | (simp; omega))).trans fR
  have HB9 := hide (show Below w.heap.size w w9 from bstep HB1.out hb9)
  clear hb9
  gi_wp2
  have c10 := World.cell?_setCell_same' w9 ⟨w.heap.size + 1, 0, none⟩ (.bool true) (by rw [c9]; rfl)
  refine ⟨.bool true, ?_, rfl, HB9.out.setCell (p := ⟨w.heap.size + 1, 0, none⟩) (by first | (simp; done) | omega) _⟩
  simp [results, Try.f5, go_sem, c10]

set_option maxRecDepth 100000 in
set_option maxHeartbeats 4000000 in
theorem Stays_main (k op cl st sp ex la fl fa co ru : Int) (so : Option Addr) (cap L : Nat) (zz : Nat → Nat → Int) (w : World) (hb : RowB w so cap L zz) (hL : L ≤ 200) (h : LotOK k op cl st sp ex la fl fa co ru) (hzz : ∀ j, j < L → zz j 2 ≤ 9223372036854775807) : Calls Try.prog 5 #[.agg #[.int .i64 k, .int .i64 op, .int .i64 cl, .int .i64 st, .int .i64 sp, .int .i64 ex, .int .i64 la, .int .i64 fl, .int .i64 fa, .int .i64 co, .int .i64 ru], .slice so L cap] w fun e w' => e = .returned (.bool true) ∧ Below w.heap.size w w' := by
  refine (callsIn_wide (n := 3)).1 ?_
  refine callsIn_of_wp_marks Try.func5 rfl trivial ?_ rfl
  simp only [Try.ntmps5, List.size_toArray, List.length_cons, List.length_nil, Nat.reduceAdd, Nat.reduceSub, Array.replicate_succ, Array.replicate_zero, List.push_toArray, List.append_toArray, List.nil_append, List.cons_append]
  have hlen := hb.len
  have HB := hide hb
  clear hb
  have hL1 : ¬ (200 : Int) < (L : Int) := by omega
  gi_wp2_with fail
  refine ⟨trivial, ?_⟩
  refine (callsIn_wide.2 (check_ok k op cl st sp ex la fl fa co ru _ h)).mono ?_
  rintro e w1 ⟨rfl, hb1⟩
  have cR : w1.cell? ⟨w.heap.size + 1, 0, none⟩ = some (.bool false) := (hb1.cell (p := ⟨w.heap.size + 1, 0, none⟩) (by simp)).trans (by simp [go_sem])
  have fR : w1.frozen? ⟨w.heap.size + 1, 0, none⟩ = false := (hb1.frozen (p := ⟨w.heap.size + 1, 0, none⟩) (by simp)).trans (by simp [go_sem])
  have HLC := hide (show ∀ o, w1.cell? ⟨w.heap.size, o, none⟩ = (#[Value.int .i64 k, Value.int .i64 op, Value.int .i64 cl, Value.int .i64 st, Value.int .i64 sp, Value.int .i64 ex, Value.int .i64 la, Value.int .i64 fl, Value.int .i64 fa, Value.int .i64 co, Value.int .i64 ru] : Array Value)[o]? from fun o => (hb1.cell (p := ⟨w.heap.size, o, none⟩) (by (simp; omega))).trans (by simp [go_sem]))
  have hz1 : w.heap.size + 2 ≤ w1.heap.size := by (have q := hb1.size; simp at q; omega)
  have HB1 := hide (show Below w.heap.size w w1 from bstep (by (focus repeat' (first | (with_reducible exact Below.refl _ _) | (with_reducible assumption) | (with_reducible refine Below.alloc ?_ ?_ _) | (with_reducible refine Below.drew ?_) | (with_reducible refine bdrewN ?_ _) | (with_reducible refine Below.setCell ?_ ?_ _) | (first | (with_reducible exact Nat.le_refl _) | (with_reducible assumption) | omega | (simp; omega) | (simp; done))))) hb1)
  clear hb1
  have l0 : w1.cell? ⟨w.heap.size, 0, none⟩ = some (.int .i64 k) := HLC.out 0
  have l1 : w1.cell? ⟨w.heap.size, 1, none⟩ = some (.int .i64 op) := HLC.out 1
  have l2 : w1.cell? ⟨w.heap.size, 2, none⟩ = some (.int .i64 cl) := HLC.out 2
  have l3 : w1.cell? ⟨w.heap.size, 3, none⟩ = some (.int .i64 st) := HLC.out 3
  have l4 : w1.cell? ⟨w.heap.size, 4, none⟩ = some (.int .i64 sp) := HLC.out 4
  have l5 : w1.cell? ⟨w.heap.size, 5, none⟩ = some (.int .i64 ex) := HLC.out 5
  have l6 : w1.cell? ⟨w.heap.size, 6, none⟩ = some (.int .i64 la) := HLC.out 6
  have l7 : w1.cell? ⟨w.heap.size, 7, none⟩ = some (.int .i64 fl) := HLC.out 7
  have l8 : w1.cell? ⟨w.heap.size, 8, none⟩ = some (.int .i64 fa) := HLC.out 8
  have l9 : w1.cell? ⟨w.heap.size, 9, none⟩ = some (.int .i64 co) := HLC.out 9
  have l10 : w1.cell? ⟨w.heap.size, 10, none⟩ = some (.int .i64 ru) := HLC.out 10
  gi_wp2_with fail
  refine ⟨trivial, ?_⟩
  refine (callsIn_wide.2 (begin_ok k op cl st sp ex la fl fa co ru _ h)).mono ?_
  rintro e w2 ⟨rfl, hb2⟩
  obtain ⟨w3, hw3⟩ : ∃ w3, w3 = w2.alloc (.cells #[.int .i64 (-1), .int .i64 0, .int .i64 0, .int .i64 cl] 29) := ⟨_, rfl⟩
  have hb3 : Below w1.heap.size w1 w3 := hb2.trans (by rw [hw3]; exact (Below.refl _ _).alloc hb2.size _)
  have hz2 := hb2.size
  have cR3 := (hb3.cell (p := ⟨w.heap.size + 1, 0, none⟩) (by simp; omega)).trans cR
  have fR3 := (hb3.frozen (p := ⟨w.heap.size + 1, 0, none⟩) (by simp; omega)).trans fR
  have HL3 := hide (fun o => (hb3.cell (p := ⟨w.heap.size, o, none⟩) (by simp; omega)).trans (HLC.out o))
  have HR3 := hide (show ∀ o, w3.cell? ⟨w2.heap.size, o, none⟩ = (#[Value.int .i64 (-1), .int .i64 0, .int .i64 0, .int .i64 cl] : Array Value)[o]? from fun o => by rw [hw3]; simp [go_sem])
  have FR3 := hide (show ∀ o, w3.frozen? ⟨w2.heap.size, o, none⟩ = false from fun o => by rw [hw3]; simp [go_sem])
  have hz3 : w3.heap.size = w2.heap.size + 1 := by rw [hw3]; simp
  have HB3 := hide (HB1.out.trans (hb3.mono (by omega)))
  have HW3 := hide hw3
  have hzl2 : w.heap.size < w2.heap.size := by omega
  clear hb2 hb3 hw3 l0 l1 l2 l3 l4 l5 l6 l7 l8 l9 l10
  have m0 : w3.cell? ⟨w.heap.size, 0, none⟩ = some (.int .i64 k) := HL3.out 0
  have m1 : w3.cell? ⟨w.heap.size, 1, none⟩ = some (.int .i64 op) := HL3.out 1
  have m2 : w3.cell? ⟨w.heap.size, 2, none⟩ = some (.int .i64 cl) := HL3.out 2
  have m3 : w3.cell? ⟨w.heap.size, 3, none⟩ = some (.int .i64 st) := HL3.out 3
  have m4 : w3.cell? ⟨w.heap.size, 4, none⟩ = some (.int .i64 sp) := HL3.out 4
  have m5 : w3.cell? ⟨w.heap.size, 5, none⟩ = some (.int .i64 ex) := HL3.out 5
  have m6 : w3.cell? ⟨w.heap.size, 6, none⟩ = some (.int .i64 la) := HL3.out 6
  have m7 : w3.cell? ⟨w.heap.size, 7, none⟩ = some (.int .i64 fl) := HL3.out 7
  have m8 : w3.cell? ⟨w.heap.size, 8, none⟩ = some (.int .i64 fa) := HL3.out 8
  have m9 : w3.cell? ⟨w.heap.size, 9, none⟩ = some (.int .i64 co) := HL3.out 9
  have m10 : w3.cell? ⟨w.heap.size, 10, none⟩ = some (.int .i64 ru) := HL3.out 10
  rw [HW3.out] at m0 m1 m2 m3 m4 m5 m6 m7 m8 m9 m10
  gi_wp2_with fail
  rw [← HW3.out]
  refine ⟨trivial, ?_⟩
  refine (callsIn_wide.2 (right_yes k op cl st sp ex la fl fa co ru (-1) 0 0 cl _ h (.inl ⟨rfl, rfl, rfl, rfl⟩))).mono ?_
  rintro e w4 ⟨rfl, hb4⟩
  have hz4 := hb4.size
  have cR4 := (hb4.cell (p := ⟨w.heap.size + 1, 0, none⟩) (by simp; omega)).trans cR3
  have fR4 := (hb4.frozen (p := ⟨w.heap.size + 1, 0, none⟩) (by simp; omega)).trans fR3
  have HL4 := hide (fun o => (hb4.cell (p := ⟨w.heap.size, o, none⟩) (by simp; omega)).trans (HL3.out o))
  have HR4 := hide (fun o => (hb4.cell (p := ⟨w2.heap.size, o, none⟩) (by simp; omega)).trans (HR3.out o))
  have FR4 := hide (fun o => (hb4.frozen (p := ⟨w2.heap.size, o, none⟩) (by simp; omega)).trans (FR3.out o))
  have HB4 := hide (bstep HB3.out hb4)
  clear hb4 m0 m1 m2 m3 m4 m5 m6 m7 m8 m9 m10 cR fR cR3 fR3
  have n0 : w4.cell? ⟨w.heap.size, 0, none⟩ = some (.int .i64 k) := HL4.out 0
  have n1 : w4.cell? ⟨w.heap.size, 1, none⟩ = some (.int .i64 op) := HL4.out 1
  have n2 : w4.cell? ⟨w.heap.size, 2, none⟩ = some (.int .i64 cl) := HL4.out 2
  have n3 : w4.cell? ⟨w.heap.size, 3, none⟩ = some (.int .i64 st) := HL4.out 3
  have n4 : w4.cell? ⟨w.heap.size, 4, none⟩ = some (.int .i64 sp) := HL4.out 4
  have n5 : w4.cell? ⟨w.heap.size, 5, none⟩ = some (.int .i64 ex) := HL4.out 5
  have n6 : w4.cell? ⟨w.heap.size, 6, none⟩ = some (.int .i64 la) := HL4.out 6
  have n7 : w4.cell? ⟨w.heap.size, 7, none⟩ = some (.int .i64 fl) := HL4.out 7
  have n8 : w4.cell? ⟨w.heap.size, 8, none⟩ = some (.int .i64 fa) := HL4.out 8
  have n9 : w4.cell? ⟨w.heap.size, 9, none⟩ = some (.int .i64 co) := HL4.out 9
  have n10 : w4.cell? ⟨w.heap.size, 10, none⟩ = some (.int .i64 ru) := HL4.out 10
  gi_wp2_with fail
  refine ⟨trivial, ?_⟩
  refine (callsIn_wide.2 (All_c k op cl st sp ex la fl fa co ru so cap L zz _ (by omega) (HB.out.below HB4.out))).mono ?_
  rintro e w5 ⟨Bl, Bb, v', rfl, hBl0, hBlz, hBb0, hBbz, hlc, hbb, own, hb5⟩
  have hz5 := hb5.size
  have cR5 := (hb5.cell (p := ⟨w.heap.size + 1, 0, none⟩) (by simp; omega)).trans cR4
  have fR5 := (hb5.frozen (p := ⟨w.heap.size + 1, 0, none⟩) (by simp; omega)).trans fR4
  have HL5 := hide (fun o => (hb5.cell (p := ⟨w.heap.size, o, none⟩) (by simp; omega)).trans (HL4.out o))
  have HR5 := hide (fun o => (hb5.cell (p := ⟨w2.heap.size, o, none⟩) (by simp; omega)).trans (HR4.out o))
  have FR5 := hide (fun o => (hb5.frozen (p := ⟨w2.heap.size, o, none⟩) (by simp; omega)).trans (FR4.out o))
  have HB5 := hide (bstep HB4.out hb5)
  have HLC5 := hide hlc
  have HBB5 := hide hbb
  have OWN5 := hide own
  clear hb5 hlc hbb own n0 n1 n2 n3 n4 n5 n6 n7 n8 n9 n10 cR4 fR4
  have Q := eql52
  gi_wp2_with fail
  obtain ⟨w6, hw6⟩ : ∃ w6, w6 = w5.alloc (.cells #[.int .i64 0] 3) := ⟨_, rfl⟩
  rw [← hw6]
  have hb6 : Below w5.heap.size w5 w6 := by rw [hw6]; exact (Below.refl _ _).alloc (Nat.le_refl _) _
  have hz6 : w6.heap.size = w5.heap.size + 1 := by rw [hw6]; simp
  have LS6 : LS w.heap.size (w.heap.size + 1) w2.heap.size w5.heap.size k op cl st sp ex la fl fa co ru zz 0 w6 := ⟨fun o => (hb6.cell (p := ⟨w.heap.size, o, none⟩) (by simp; omega)).trans (HL5.out o), (hb6.cell (p := ⟨w.heap.size + 1, 0, none⟩) (by simp; omega)).trans cR5, (hb6.frozen (p := ⟨w.heap.size + 1, 0, none⟩) (by simp; omega)).trans fR5,
    fun o => (hb6.cell (p := ⟨w2.heap.size, o, none⟩) (by simp; omega)).trans (HR5.out o), fun o => (hb6.frozen (p := ⟨w2.heap.size, o, none⟩) (by simp; omega)).trans (FR5.out o), by rw [hw6]; simp [go_sem], by rw [hw6]; simp [go_sem]⟩
  have HB6 := hide (bstep HB5.out hb6)
  clear hw6 cR5 fR5 Q
  refine range_R (n := 3) (by decide) (gf := 30) (lb := #[.pointer (some ⟨Bl, 0, none⟩), .pointer (some ⟨Bb, 0, none⟩)]) rfl (enters_of Try.func30 (by kernel_rfl) rfl)
    (all_seq 2 (by decide) Bl Bb _ k op cl st sp ex la fl fa co ru L zz h hzz (by omega) v' w5 hBlz hBbz HLC5.out HBB5.out OWN5.out) (fun i hi => ?_) hb6 (fun _ => rfl)
    (fun pre W => (w6.heap.size ≤ W.heap.size ∧ ∃ j, j ≤ L ∧ pre = upto (stp op st sp ex la cl (bids zz)) j ∧ LS w.heap.size (w.heap.size + 1) w2.heap.size w5.heap.size k op cl st sp ex la fl fa co ru zz j W) ∧ Below w.heap.size w W) (fun _ _ _ => False)
    ((stays_old (fun s W W' hb hI => by
      obtain ⟨j, h1, h2, h3⟩ := hI
      exact ⟨j, h1, h2, h3.old (by omega) (by omega) (by omega) (by omega) hb⟩)).both (stays_below (Nat.le_refl _) (by omega))) (fun _ _ _ _ _ hs _ _ => hs)
    ⟨⟨Nat.le_refl _, 0, Nat.zero_le _, rfl, LS6⟩, HB6.out⟩
    (fun x a' W => ∃ Bx, w6.heap.size + 2 ≤ Bx ∧ Bx < W.heap.size ∧ (∀ o, W.cell? ⟨Bx, o, none⟩ = (#[Value.int .i64 x.1.1, .int .i64 x.1.2.1, .int .i64 x.1.2.2.1, .int .i64 x.1.2.2.2] : Array Value)[o]?) ∧ a' = { tmps := #[Value.agg #[Value.int IntKind.i64 k, Value.int IntKind.i64 op, Value.int IntKind.i64 cl, Value.int IntKind.i64 st, Value.int IntKind.i64 sp, Value.int IntKind.i64 ex, Value.int IntKind.i64 la, Value.int IntKind.i64 fl, Value.int IntKind.i64 fa, Value.int IntKind.i64 co, Value.int IntKind.i64 ru], Value.slice so L cap, Value.pointer (some ⟨w.heap.size, 0, none⟩), undef, Value.pointer (some ⟨w.heap.size + 1, 0, none⟩), Value.pointer (some ⟨w2.heap.size, 0, none⟩), Value.int IntKind.i64 0, Value.func (Fn.func 30) #[] #[Value.pointer (some ⟨Bl, 0, none⟩), Value.pointer (some ⟨Bb, 0, none⟩)], Value.pointer (some ⟨w5.heap.size, 0, none⟩), .pointer (some ⟨Bx, 0, none⟩), .int .i64 x.2, Value.slice so L cap, Value.int IntKind.i64 (L : Int), Value.bool false, Value.bool false, Value.agg #[Value.int IntKind.i64 k, Value.int IntKind.i64 op, Value.int IntKind.i64 cl, Value.int IntKind.i64 st, Value.int IntKind.i64 sp, Value.int IntKind.i64 ex, Value.int IntKind.i64 la, Value.int IntKind.i64 fl, Value.int IntKind.i64 fa, Value.int IntKind.i64 co, Value.int IntKind.i64 ru], Value.int IntKind.i64 0, Value.bool false, Value.bool false, undef, Value.tuple #[Value.agg #[Value.int IntKind.i64 (-1), Value.int IntKind.i64 0, Value.int IntKind.i64 0, Value.int IntKind.i64 cl], Value.int IntKind.i64 0], Value.agg #[Value.int IntKind.i64 k, Value.int IntKind.i64 op, Value.int IntKind.i64 cl, Value.int IntKind.i64 st, Value.int IntKind.i64 sp, Value.int IntKind.i64 ex, Value.int IntKind.i64 la, Value.int IntKind.i64 fl, Value.int IntKind.i64 fa, Value.int IntKind.i64 co, Value.int IntKind.i64 ru], Value.tuple #[Value.agg #[Value.int IntKind.i64 (-1), Value.int IntKind.i64 0, Value.int IntKind.i64 0, Value.int IntKind.i64 cl], Value.int IntKind.i64 0], Value.agg #[Value.int IntKind.i64 (-1), Value.int IntKind.i64 0, Value.int IntKind.i64 0, Value.int IntKind.i64 cl], Value.int IntKind.i64 0, Value.int IntKind.i64 0, Value.bool false, Value.bool false, Value.agg #[Value.int IntKind.i64 k, Value.int IntKind.i64 op, Value.int IntKind.i64 cl, Value.int IntKind.i64 st, Value.int IntKind.i64 sp, Value.int IntKind.i64 ex, Value.int IntKind.i64 la, Value.int IntKind.i64 fl, Value.int IntKind.i64 fa, Value.int IntKind.i64 co, Value.int IntKind.i64 ru], Value.agg #[Value.int IntKind.i64 (-1), Value.int IntKind.i64 0, Value.int IntKind.i64 0, Value.int IntKind.i64 cl], Value.bool true, Value.bool false, Value.bool false, Value.agg #[Value.int IntKind.i64 k, Value.int IntKind.i64 op, Value.int IntKind.i64 cl, Value.int IntKind.i64 st, Value.int IntKind.i64 sp, Value.int IntKind.i64 ex, Value.int IntKind.i64 la, Value.int IntKind.i64 fl, Value.int IntKind.i64 fa, Value.int IntKind.i64 co, Value.int IntKind.i64 ru], Value.slice so L cap, Value.func (Fn.func 30) #[] #[Value.pointer (some ⟨Bl, 0, none⟩), Value.pointer (some ⟨Bb, 0, none⟩)], Value.func (Fn.func 30) #[] #[Value.pointer (some ⟨Bl, 0, none⟩), Value.pointer (some ⟨Bb, 0, none⟩)], Value.bool false, Value.func (Fn.func 30) #[] #[Value.pointer (some ⟨Bl, 0, none⟩), Value.pointer (some ⟨Bb, 0, none⟩)], .agg #[.int .i64 x.1.1, .int .i64 x.1.2.1, .int .i64 x.1.2.2.1, .int .i64 x.1.2.2.2], .int .i64 x.2, undef, undef, undef, undef, undef, undef, undef, undef, undef, undef, undef, undef, undef, undef, undef, undef, undef, undef, undef, undef, undef, undef, undef, undef, undef, undef, undef, undef, undef, undef, undef, undef, undef, undef, undef, undef, undef, undef, undef, undef, undef, undef, undef, undef, undef, undef, undef, undef, undef, undef, undef, undef, undef, undef, undef, undef, undef, undef, undef, undef], defers := [] })
    (fun x a' W o hx => ?_) ?assign ?body ?done ?stop
  case assign =>
    rintro l pre x W K' hI hNx hlt hK
    gi_wp2
    refine hK _ _ (KeepsOthers.alloc _ _) (Fix.of_below ((Below.refl _ _).alloc (Nat.le_refl _) _)) ?_ ⟨W.heap.size, by omega, by simp, fun o => by simp [go_sem], rfl⟩
    have hb := (Below.refl W.heap.size W).alloc (Nat.le_refl _) (.cells #[Value.int .i64 x.1.1, .int .i64 x.1.2.1, .int .i64 x.1.2.2.1, .int .i64 x.1.2.2.2] 29)
    obtain ⟨⟨hz, j, h1, h2, h3⟩, hB⟩ := hI
    exact ⟨⟨Nat.le_trans hz hb.size, j, h1, h2, h3.old (B := W.heap.size) (by omega) (by omega) (by omega) (by omega) (fun b hlt => hb.block b hlt)⟩, hB.trans (hb.mono hB.size)⟩
  case body =>
    rintro l pre x a' W ⟨⟨hz, j, hj, rfl, hLS⟩, hB⟩ ⟨j2, hj2, hp, rfl⟩ ⟨Bx, hBx0, hBxz, hcx, rfl⟩
    obtain rfl : j2 = j := by
      have := congrArg List.length hp
      rw [upto_length, upto_length] at this
      exact this.symm
    have hris := rs_ok (b := bids zz) h (r0 := r0 cl) (by unfold Rise r0; exact .inl ⟨rfl, rfl, rfl, rfl⟩) j2
    have NX := nx_ok (b := bids zz j2) h hris
    have hst : stp op st sp ex la cl (bids zz) j2 = nx op st sp ex la (rs op st sp ex la (r0 cl) (bids zz) j2).1 (bids zz j2) := rfl
    have hrs : rs op st sp ex la (r0 cl) (bids zz) (j2 + 1) = stp op st sp ex la cl (bids zz) j2 := rfl
    rw [← hst] at NX
    have HLS := hide hLS
    have hcr := hLS.rise
    have HUP := hide (upto_succ (stp op st sp ex la cl (bids zz)) j2)
    have HRS := hide hrs
    have HBW := hide hB
    have e0 : W.cell? ⟨w.heap.size, 0, none⟩ = some (.int .i64 k) := hLS.lot 0
    have e1 : W.cell? ⟨w.heap.size, 1, none⟩ = some (.int .i64 op) := hLS.lot 1
    have e2 : W.cell? ⟨w.heap.size, 2, none⟩ = some (.int .i64 cl) := hLS.lot 2
    have e3 : W.cell? ⟨w.heap.size, 3, none⟩ = some (.int .i64 st) := hLS.lot 3
    have e4 : W.cell? ⟨w.heap.size, 4, none⟩ = some (.int .i64 sp) := hLS.lot 4
    have e5 : W.cell? ⟨w.heap.size, 5, none⟩ = some (.int .i64 ex) := hLS.lot 5
    have e6 : W.cell? ⟨w.heap.size, 6, none⟩ = some (.int .i64 la) := hLS.lot 6
    have e7 : W.cell? ⟨w.heap.size, 7, none⟩ = some (.int .i64 fl) := hLS.lot 7
    have e8 : W.cell? ⟨w.heap.size, 8, none⟩ = some (.int .i64 fa) := hLS.lot 8
    have e9 : W.cell? ⟨w.heap.size, 9, none⟩ = some (.int .i64 co) := hLS.lot 9
    have e10 : W.cell? ⟨w.heap.size, 10, none⟩ = some (.int .i64 ru) := hLS.lot 10
    have frr := hLS.risef
    have fnn := hLS.numf
    have cnn := hLS.num
    clear hp hst hrs hLS hB
    generalize stp op st sp ex la cl (bids zz) j2 = x at *
    generalize (rs op st sp ex la (r0 cl) (bids zz) j2).1 = r at *
    obtain ⟨⟨xl, xi, xp, xc⟩, xe⟩ := x
    obtain ⟨ld, li, pr, rc⟩ := r
    obtain ⟨N1, N2, N3, N4, N5, N6, N7⟩ := NX
    have x0 : W.cell? ⟨Bx, 0, none⟩ = some (.int .i64 xl) := hcx 0
    have x1 : W.cell? ⟨Bx, 1, none⟩ = some (.int .i64 xi) := hcx 1
    have x2 : W.cell? ⟨Bx, 2, none⟩ = some (.int .i64 xp) := hcx 2
    have x3 : W.cell? ⟨Bx, 3, none⟩ = some (.int .i64 xc) := hcx 3
    have HN := hide (show pr ≤ xp ∧ rc ≤ xc ∧ xc ≤ la ∧ xp ≤ xi ∧ (xe ≠ 0 → (xl, xi, xp, xc) = (ld, li, pr, rc)) ∧ (xe = 0 → 0 ≤ xl) from ⟨N2, N3, N4, N5, N6, N7⟩)
    clear N2 N3 N4 N5 N6 N7
    gi_wp2_with fail
    refine ⟨trivial, ?_⟩
    refine (CallsIn.inRound l (callsIn_wide.2 (right_yes k op cl st sp ex la fl fa co ru xl xi xp xc _ h N1))).mono ?_
    rintro e w7 ⟨rfl, hb7⟩
    have LS7 := HLS.out.old (B := W.heap.size) (W' := w7) (by omega) (by omega) (by omega) (by omega) (fun b hlt => hb7.block b hlt)
    have hc7 := hide (fun o => (hb7.cell (p := ⟨Bx, o, none⟩) hBxz).trans (hcx o))
    have r7 := hide (fun o => (hb7.cell (p := ⟨w2.heap.size, o, none⟩) (by simp; omega)).trans (hcr o))
    have g6 : w7.cell? ⟨w.heap.size, 6, none⟩ = some (.int .i64 la) := LS7.lot 6
    have y0 : w7.cell? ⟨Bx, 0, none⟩ = some (.int .i64 xl) := hc7.out 0
    have y1 : w7.cell? ⟨Bx, 1, none⟩ = some (.int .i64 xi) := hc7.out 1
    have y2 : w7.cell? ⟨Bx, 2, none⟩ = some (.int .i64 xp) := hc7.out 2
    have y3 : w7.cell? ⟨Bx, 3, none⟩ = some (.int .i64 xc) := hc7.out 3
    have z0 : w7.cell? ⟨w2.heap.size, 0, none⟩ = some (.int .i64 ld) := r7.out 0
    have z1 : w7.cell? ⟨w2.heap.size, 1, none⟩ = some (.int .i64 li) := r7.out 1
    have z2 : w7.cell? ⟨w2.heap.size, 2, none⟩ = some (.int .i64 pr) := r7.out 2
    have z3 : w7.cell? ⟨w2.heap.size, 3, none⟩ = some (.int .i64 rc) := r7.out 3
    have k0 := LS7.risef 0
    have k1 := LS7.risef 1
    have k2 := LS7.risef 2
    have k3 := LS7.risef 3
    have cn7 := LS7.num
    have fn7 := LS7.numf
    have dxn : w2.heap.size ≠ w5.heap.size := by omega
    have dxn' : w5.heap.size ≠ w2.heap.size := by omega
    have NEQ := neq29
    have HLS7 := hide LS7
    have HB7 := hide hb7
    have hxz7 : Bx < w7.heap.size := Nat.lt_of_lt_of_le hBxz hb7.size
    have hA1 : ¬ xp < pr := by have := HN.out.1; omega
    have hA2 : ¬ xc < rc := by have := HN.out.2.1; omega
    have hA3 : ¬ la < xc := by have := HN.out.2.2.1; omega
    have hA4 : ¬ xi < xp := by have := HN.out.2.2.2.1; omega
    clear LS7 hb7 hcx hcr frr fnn cnn x0 x1 x2 x3 e0 e1 e2 e3 e4 e5 e6 e7 e8 e9 e10
    have FIN : ∀ W', W' = ((((w7.setCell ⟨w2.heap.size, 0, none⟩ (.int .i64 xl)).setCell ⟨w2.heap.size, 1, none⟩ (.int .i64 xi)).setCell ⟨w2.heap.size, 2, none⟩ (.int .i64 xp)).setCell ⟨w2.heap.size, 3, none⟩ (.int .i64 xc)).setCell ⟨w5.heap.size, 0, none⟩ (.int .i64 ((j2 : Int) + 1)) →
        KeepsOthers W W' ∧ Fix (fun i => (i = Bl ∨ i = Bb ∨ v'.ownBlock = some i) ∨ w6.heap.size ≤ i) W W' ∧ ((w6.heap.size ≤ W'.heap.size ∧ ∃ j, j ≤ L ∧ upto (stp op st sp ex la cl (bids zz)) j2 ++ [((xl, xi, xp, xc), xe)] = upto (stp op st sp ex la cl (bids zz)) j ∧ LS w.heap.size (w.heap.size + 1) w2.heap.size w5.heap.size k op cl st sp ex la fl fa co ru zz j W') ∧ Below w.heap.size w W') := by
      intro W' hW'
      obtain ⟨U1, U2, U3, U4, U5⟩ := upd5 w7 w2.heap.size w5.heap.size _ _ _ _ _ (.int .i64 xl) (.int .i64 xi) (.int .i64 xp) (.int .i64 xc) (.int .i64 ((j2 : Int) + 1)) dxn r7.out cn7 W' hW'
      have hz7 := HB7.out.size
      have kb : ∀ i, (i = Bl ∨ i = Bb ∨ v'.ownBlock = some i) ∨ w6.heap.size ≤ i → i ≠ w2.heap.size ∧ i ≠ w5.heap.size := fun i hi => by
        rcases hi with (rfl | rfl | e) | e
        · omega
        · omega
        · have q := OWN5.out.lt i e
          omega
        · omega
      refine ⟨⟨by omega, fun i o hi ho => ?_⟩, ⟨by omega, fun i hi hl => (U1 i (kb i hi).1 (kb i hi).2).trans (HB7.out.block i hl)⟩, ⟨⟨by omega, j2 + 1, by omega, HUP.out.symm, ?_⟩, ?_⟩⟩
      · have hlt : i < W.heap.size := (Array.getElem?_eq_some_iff.1 hi).1
        have h7 := (HB7.out.block i hlt).trans hi
        refine (U1 i (fun e => ?_) (fun e => ?_)).trans h7
        · subst e
          have := z0
          simp only [World.cell?, h7] at this
          cases o <;> simp_all [Obj.isCells]
        · subst e
          have := cn7
          simp only [World.cell?, h7] at this
          cases o <;> simp_all [Obj.isCells]
      · refine ⟨fun o => (World.cell?_of_block (a := ⟨w.heap.size, o, none⟩) (U1 w.heap.size (by omega) (by omega))).trans (HLS7.out.lot o), (World.cell?_of_block (a := ⟨w.heap.size + 1, 0, none⟩) (U1 (w.heap.size + 1) (by omega) (by omega))).trans HLS7.out.res, (U4 _).trans HLS7.out.resf, ?_, fun o => (U4 _).trans (HLS7.out.risef o), by (rw [U3]; rfl), (U4 _).trans HLS7.out.numf⟩
        rw [HRS.out]
        exact U2
      · have low7 := bstep HBW.out HB7.out
        exact ⟨by (rw [hW']; exact low7.os), by (rw [hW']; exact low7.tape), by (rw [hW']; exact low7.output), by have := low7.size; omega, fun i hi => (U1 i (by omega) (by omega)).trans (low7.block i hi)⟩
    by_cases he : xe = 0
    · subst he
      have hA5 : ¬ xl < 0 := by have := HN.out.2.2.2.2.2 rfl; omega
      gi_wp2
      exact FIN _ rfl
    · have hq := HN.out.2.2.2.2.1 he
      obtain ⟨rfl, rfl, rfl, rfl⟩ : xl = ld ∧ xi = li ∧ xp = pr ∧ xc = rc := by simpa using hq
      gi_wp2
      exact FIN _ rfl
  case done =>
    rintro D ys W hD rfl ⟨⟨hz, j, hj, hp, hLS⟩, hB⟩ hKd
    obtain rfl : L = j := by
      have := congrArg List.length hp
      rw [upto_length, upto_length] at this
      exact this
    have HLS := hide hLS
    have HBW := hide hB
    have HKD := hide hKd
    have cn := hLS.num
    clear hp hLS hB hKd
    have hDl : D < W.heap.size := (Array.getElem?_eq_some_iff.1 HKD.out).1
    gi_wp2_with fail
    refine ⟨trivial, ?_⟩
    refine (callsIn_wide.2 (known_any _)).mono ?_
    rintro e w9 ⟨rfl, hb9⟩
    have c9 := (hb9.cell (p := ⟨w.heap.size + 1, 0, none⟩) (by simp; omega)).trans HLS.out.res
    have f9 := (hb9.frozen (p := ⟨w.heap.size + 1, 0, none⟩) (by simp; omega)).trans HLS.out.resf
    have hK9 := (hb9.block D hDl).trans HKD.out
    have HB9 := hide (bstep HBW.out hb9)
    have HK9 := hide hK9
    clear hb9 hK9 cn
    gi_wp2
    have hK' := (KeepsOthers.setCell w9 ⟨w.heap.size + 1, 0, none⟩ (.bool true)).same D _ HK9.out rfl
    refine ⟨by simp, .inl ⟨_, _, rfl, run_takeDeferred hK', ?_⟩⟩
    have hc5 := cell_kept (World.cell?_setCell_same' w9 ⟨w.heap.size + 1, 0, none⟩ (.bool true) (by rw [c9]; rfl)) (grownBy_putObj' _ D (.deferred none)) (fun r e => by cases e; exact ⟨_, hK', rfl⟩)
    refine ⟨.bool true, ?_, rfl, (HB9.out.setCell (p := ⟨w.heap.size + 1, 0, none⟩) (by simp) _).trans (belowK_b (w := w) (Nat.le_refl _) _ D _ _ (by omega) hK' rfl rfl)⟩
    simp [results, Try.f5, go_sem, hc5]
  case stop =>
    rintro D c pre W _ _ hh _
    exact hh.elim
  · have := hz5
    have hz4' := hz5
    rcases hi with rfl | rfl | e
    · omega
    · omega
    · have := (OWN5.out.lt i e).2
      omega
  · obtain ⟨Bx, h1, h2, h3, h4⟩ := hx
    exact ⟨Bx, h1, by simpa using h2, fun o' => (World.cell?_of_block (a := ⟨Bx, o', none⟩) (World.putObj_heap_other (by simp; omega))).trans (h3 o'), h4⟩

theorem LadderStays_c (k op cl st sp ex la fl fa co ru : Int) (so : Option Addr) (cap L : Nat) (zz : Nat → Nat → Int) (w : World) (hb : RowB w so cap L zz) (hzz : ∀ j, j < L → zz j 2 ≤ 9223372036854775807) : Calls Try.prog 5 #[.agg #[.int .i64 k, .int .i64 op, .int .i64 cl, .int .i64 st, .int .i64 sp, .int .i64 ex, .int .i64 la, .int .i64 fl, .int .i64 fa, .int .i64 co, .int .i64 ru], .slice so L cap] w fun e w' => e = .returned (.bool true) ∧ Below w.heap.size w w' := by
  by_cases h1 : 200 < L
  · exact Stays_long k op cl st sp ex la fl fa co ru so cap L zz w hb h1
  by_cases h2 : LotOK k op cl st sp ex la fl fa co ru
  · exact Stays_main k op cl st sp ex la fl fa co ru so cap L zz w hb (by omega) h2 hzz
  · exact Stays_bad k op cl st sp ex la fl fa co ru so cap L zz w hb (by omega) h2
end Go.Proofs.Ytbbdneekfejjkaa.runs
