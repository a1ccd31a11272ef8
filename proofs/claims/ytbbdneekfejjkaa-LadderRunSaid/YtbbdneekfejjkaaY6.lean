import Derived.Test.YtbbdneekfejjkaaU2
import Derived.Test.YtbbdneekfejjkaaY4
import Derived.Deep.AppendLies
namespace Go.Proofs.Ytbbdneekfejjkaa.runs
open Go.ChangeShapes Go.WideShapes Go.ChangeAt Go.RowKit Go.Deep
set_option linter.unusedSimpArgs false
set_option linter.unusedVariables false

/-- the cells of so many steps -/
def stepc (s : R4 × Int) : List Value := [.int .i64 s.1.1, .int .i64 s.1.2.1, .int .i64 s.1.2.2.1, .int .i64 s.1.2.2.2, .int .i64 s.2]
def flat5 (f : Nat → R4 × Int) (k : Nat) : List Value := (List.range k).flatMap (fun j => stepc (f j))
theorem flat5_succ (f : Nat → R4 × Int) (k : Nat) : flat5 f (k + 1) = flat5 f k ++ stepc (f k) := by simp [flat5, List.range_succ]
theorem flat5_length (f : Nat → R4 × Int) (k : Nat) : (flat5 f k).length = k * 5 := by
  induction k with
  | zero => rfl
  | succ k ih => rw [flat5_succ, List.length_append, ih]; simp [stepc]; omega
theorem flat5_at (f : Nat → R4 × Int) (k j c : Nat) (hj : j < k) (hc : c < 5) : (flat5 f k)[j * 5 + c]? = (stepc (f j))[c]? := by
  induction k with
  | zero => omega
  | succ k ih =>
    rw [flat5_succ]
    by_cases h : j < k
    · rw [List.getElem?_append_left (by rw [flat5_length]; omega), ih h]
    · obtain rfl : j = k := by omega
      rw [List.getElem?_append_right (by rw [flat5_length]; omega), flat5_length]
      congr 1
      omega
theorem step_new (w : World) (s : R4 × Int) (e : TypeId) : ∀ j u, (stepc s)[j]? = some u → (w.alloc (.cells #[Value.int .i64 s.1.1, .int .i64 s.1.2.1, .int .i64 s.1.2.2.1, .int .i64 s.1.2.2.2, .int .i64 s.2] e)).cell? ((⟨w.heap.size, 0, none⟩ : Addr).add j) = some u := by
  intro j u hu
  have ha : (⟨w.heap.size, 0, none⟩ : Addr).add j = ⟨w.heap.size, j, none⟩ := by
    unfold Addr.add
    split
    · (rename_i h; subst h; rfl)
    · simp
  rw [ha]
  rcases j with _ | _ | _ | _ | _ | j <;> simp [stepc] at hu <;> subst hu <;> simp [go_sem]
theorem step_one (s : R4 × Int) : ∀ u ∈ stepc s, u.oneCell' = true := by
  intro u hu
  simp [stepc] at hu
  rcases hu with rfl | rfl | rfl | rfl | rfl <;> rfl
theorem drewB (w : World) : Below w.heap.size w w.drew := ⟨rfl, rfl, rfl, Nat.le_refl _, fun _ _ => rfl⟩
/-- how many of the first j were taken -/
def cnt (f : Nat → R4 × Int) : Nat → Nat
  | 0 => 0
  | j + 1 => cnt f j + if (f j).2 = 0 then 1 else 0
theorem cnt_le (f : Nat → R4 × Int) : ∀ j, cnt f j ≤ j
  | 0 => Nat.le_refl _
  | j + 1 => by have := cnt_le f j; unfold cnt; split <;> omega
theorem info61 : (Try.prog.info? 61).map (fun i => (i.zero, i.size, i.bytes)) = some (some (.agg #[.int .i64 0, .int .i64 0, .int .i64 0, .int .i64 0, .int .i64 0]), 5, 40) := by kernel_rfl
theorem RowB.spot {w : World} {so : Option Addr} {cap L : Nat} {zz : Nat → Nat → Int} (h : RowB w so cap L zz) (hL : 0 < L) : ∃ b off, so = some ⟨b, off, none⟩ ∧ b < w.heap.size ∧ ∀ i, i < L → ∀ c, c < 4 → w.cell? ⟨b, off + i * 4 + c, none⟩ = some (.int .i64 (zz i c)) := by
  cases e : so with
  | none => have := (h.nil e).1; omega
  | some ad =>
    have hc := h.cells ad e
    have c0 := hc 0 _ (by have := flat4_at zz L 0 0 hL (by decide); simpa using this)
    obtain ⟨b, off, spot⟩ := ad
    have hspot : spot = none := by simpa [Addr.add] using World.cell?_spot c0
    subst hspot
    have hb := World.block_lt_of_cell? w _ c0
    simp [Addr.add] at hb
    refine ⟨b, off, rfl, hb, fun i hi c hc4 => ?_⟩
    have q := hc (i * 4 + c) _ (flat4_at zz L i c hi hc4)
    have ha : (⟨b, off, none⟩ : Addr).add (i * 4 + c) = ⟨b, off + i * 4 + c, none⟩ := by
      unfold Addr.add
      split
      · (rename_i h; rw [show off + i * 4 + c = off by omega])
      · rw [Nat.add_assoc]
    rw [ha] at q
    exact q
theorem grown_above {w0 W wn : World} {n0 : Nat} {row : Option Nat} (hb : Below n0 w0 W) (hn : n0 ≤ w0.heap.size) (hg : W.grownBy wn row) (hr : ∀ r, row = some r → n0 ≤ r) : Below n0 w0 wn :=
  hb.grown hg (Nat.le_trans hn hb.size) hr
theorem upd4a {wc W' wn w0 : World} {xb n0 : Nat} {x0 x1 x2 x3 a b c d : Value} {ob : Obj} {row : Option Nat} (hx : ∀ o, wc.cell? ⟨xb, o, none⟩ = (#[x0, x1, x2, x3] : Array Value)[o]?) (hf : ∀ o, wc.frozen? ⟨xb, o, none⟩ = false) (hz : xb < wc.heap.size)
    (hW : W' = ((((wc.setCell ⟨xb, 0, none⟩ a).setCell ⟨xb, 1, none⟩ b).setCell ⟨xb, 2, none⟩ c).setCell ⟨xb, 3, none⟩ d).alloc ob) (hg : W'.grownBy wn row) (hr : row ≠ some xb) (hb : Below n0 w0 wc) (hn : n0 ≤ w0.heap.size) (hx0 : n0 ≤ xb) (hrr : ∀ r, row = some r → n0 ≤ r) :
    (∀ o, wn.cell? ⟨xb, o, none⟩ = (#[a, b, c, d] : Array Value)[o]?) ∧ (∀ o, wn.frozen? ⟨xb, o, none⟩ = false) ∧ wc.heap.size < wn.heap.size ∧ Below n0 w0 wn := by
  have q0 := hx 0
  have q1 := hx 1
  have q2 := hx 2
  have q3 := hx 3
  simp at q0 q1 q2 q3
  have hzW : W'.heap.size = wc.heap.size + 1 := by rw [hW]; simp
  have hbl := hg.block xb (by omega) (fun e => hr e.symm)
  have hbW : Below n0 w0 W' := by rw [hW]; exact ((((hb.setCell (p := ⟨xb, 0, none⟩) hx0 _).setCell (p := ⟨xb, 1, none⟩) hx0 _).setCell (p := ⟨xb, 2, none⟩) hx0 _).setCell (p := ⟨xb, 3, none⟩) hx0 _).alloc (by have := hb.size; simp; omega) _
  refine ⟨fun o => ?_, fun o => ?_, ?_, grown_above hbW hn hg hrr⟩
  · refine (World.cell?_of_block (a := ⟨xb, o, none⟩) hbl).trans ?_
    have q := hx o
    rw [hW]
    rcases o with _ | _ | _ | _ | o
    · simp [go_sem, q0, hz]
    · simp [go_sem, q1, hz]
    · simp [go_sem, q2, hz]
    · simp [go_sem, q3, hz]
    · simp [go_sem, hz]; simpa using q
  · refine (World.frozen?_of_block (a := ⟨xb, o, none⟩) hbl).trans ?_
    rw [hW]
    simp [go_sem, hf o, hz]
  · have := hg.size; omega
theorem upd0a {wc W' wn w0 : World} {xb n0 : Nat} {A : Array Value} {ob : Obj} {row : Option Nat} (hx : ∀ o, wc.cell? ⟨xb, o, none⟩ = A[o]?) (hf : ∀ o, wc.frozen? ⟨xb, o, none⟩ = false) (hz : xb < wc.heap.size)
    (hW : W' = wc.alloc ob) (hg : W'.grownBy wn row) (hr : row ≠ some xb) (hb : Below n0 w0 wc) (hn : n0 ≤ w0.heap.size) (_hx0 : n0 ≤ xb) (hrr : ∀ r, row = some r → n0 ≤ r) :
    (∀ o, wn.cell? ⟨xb, o, none⟩ = A[o]?) ∧ (∀ o, wn.frozen? ⟨xb, o, none⟩ = false) ∧ wc.heap.size < wn.heap.size ∧ Below n0 w0 wn := by
  have hzW : W'.heap.size = wc.heap.size + 1 := by rw [hW]; simp
  have hbl := hg.block xb (by omega) (fun e => hr e.symm)
  have hbl2 : W'.heap[xb]? = wc.heap[xb]? := by rw [hW]; exact Below.heap_alloc _ _ _ hz
  have hbW : Below n0 w0 W' := by rw [hW]; exact hb.alloc (Nat.le_trans hn hb.size) _
  refine ⟨fun o => ?_, fun o => ?_, ?_, grown_above hbW hn hg hrr⟩
  · exact (World.cell?_of_block (a := ⟨xb, o, none⟩) (hbl.trans hbl2)).trans (hx o)
  · exact (World.frozen?_of_block (a := ⟨xb, o, none⟩) (hbl.trans hbl2)).trans (hf o)
  · have := hg.size; omega

set_option maxRecDepth 100000 in
set_option maxHeartbeats 2000000 in
theorem refRun_no (k op cl st sp ex la fl fa co ru : Int) (so : Option Addr) (cap L : Nat) (w : World) (h : ¬ LotOK k op cl st sp ex la fl fa co ru) : Calls Try.prog 21 #[.agg #[.int .i64 k, .int .i64 op, .int .i64 cl, .int .i64 st, .int .i64 sp, .int .i64 ex, .int .i64 la, .int .i64 fl, .int .i64 fa, .int .i64 co, .int .i64 ru], .slice so L cap] w fun e w' => e = .returned (.tuple #[.slice none 0 0, .agg #[.int .i64 0, .int .i64 0, .int .i64 0, .int .i64 0], .int .i64 0, .int .i64 2]) ∧ Below w.heap.size w w' := by
  go_enter Try.func21, Try.ntmps21
  go_wp2_with fail
  refine (rbegin_no k op cl st sp ex la fl fa co ru _ h).mono ?_
  rintro e w1 ⟨rfl, hb1⟩
  have HB1 := hide (show Below w.heap.size w w1 from bstep (by (focus repeat' (first | (with_reducible exact Below.refl _ _) | (with_reducible assumption) | (with_reducible refine Below.alloc ?_ ?_ _) | (with_reducible refine Below.drew ?_) | (with_reducible refine bdrewN ?_ _) | (with_reducible refine Below.setCell ?_ ?_ _) | (first | (with_reducible exact Nat.le_refl _) | (with_reducible assumption) | omega | (simp; omega) | (simp; done))))) hb1)
  have q1 := hide (show ∀ o, w1.cell? ⟨w.heap.size + 1, o, none⟩ = (#[Value.int .i64 0, .int .i64 0, .int .i64 0, .int .i64 0] : Array Value)[o]? from fun o => (hb1.cell (p := ⟨w.heap.size + 1, o, none⟩) (by simp)).trans (by simp [go_sem]))
  have p1 := hide (show ∀ o, w1.frozen? ⟨w.heap.size + 1, o, none⟩ = false from fun o => (hb1.frozen (p := ⟨w.heap.size + 1, o, none⟩) (by simp)).trans (by simp [go_sem]))
  have hz1 : w.heap.size + 2 ≤ w1.heap.size := by (have q := hb1.size; simp at q; omega)
  have hzr : w.heap.size + 1 < w1.heap.size := by omega
  have s0 : w1.cell? ⟨w.heap.size + 1, 0, none⟩ = some (.int .i64 0) := q1.out 0
  have s1 : w1.cell? ⟨w.heap.size + 1, 1, none⟩ = some (.int .i64 0) := q1.out 1
  have s2 : w1.cell? ⟨w.heap.size + 1, 2, none⟩ = some (.int .i64 0) := q1.out 2
  have s3 : w1.cell? ⟨w.heap.size + 1, 3, none⟩ = some (.int .i64 0) := q1.out 3
  have t0 := p1.out 0
  have t1 := p1.out 1
  have t2 := p1.out 2
  have t3 := p1.out 3
  clear hb1
  go_wp2
  have hbw := HB1.out
  refine bodyPost_ret (v := .tuple #[.slice none 0 0, .agg #[.int .i64 0, .int .i64 0, .int .i64 0, .int .i64 0], .int .i64 0, .int .i64 2]) (by simp [results, Try.results21, go_sem, *]) rfl ⟨rfl, by (focus repeat' (first | (with_reducible exact Below.refl _ _) | (with_reducible assumption) | (with_reducible refine Below.alloc ?_ ?_ _) | (with_reducible refine Below.drew ?_) | (with_reducible refine bdrewN ?_ _) | (with_reducible refine Below.setCell ?_ ?_ _) | (first | (with_reducible exact Nat.le_refl _) | (with_reducible assumption) | omega | (simp; omega) | (simp; done))))⟩

set_option maxRecDepth 100000 in
set_option maxHeartbeats 4000000 in
theorem refRun_ok (k op cl st sp ex la fl fa co ru : Int) (so : Option Addr) (cap L : Nat) (zz : Nat → Nat → Int) (w : World) (h : LotOK k op cl st sp ex la fl fa co ru) (hL : L ≤ 200) (hb : RowB w so cap L zz) (hzz : ∀ j, j < L → zz j 2 ≤ 9223372036854775807) : Calls Try.prog 21 #[.agg #[.int .i64 k, .int .i64 op, .int .i64 cl, .int .i64 st, .int .i64 sp, .int .i64 ex, .int .i64 la, .int .i64 fl, .int .i64 fa, .int .i64 co, .int .i64 ru], .slice so L cap] w fun e w' => (∃ vo, e = .returned (.tuple #[vo, .agg #[.int .i64 (rs op st sp ex la (r0 cl) (bids zz) L).1.1, .int .i64 (rs op st sp ex la (r0 cl) (bids zz) L).1.2.1, .int .i64 (rs op st sp ex la (r0 cl) (bids zz) L).1.2.2.1, .int .i64 (rs op st sp ex la (r0 cl) (bids zz) L).1.2.2.2], .int .i64 (cnt (stp op st sp ex la cl (bids zz)) L : Int), .int .i64 0]) ∧ w'.ownsRow w.heap.size 61 5 vo L (flat5 (stp op st sp ex la cl (bids zz)) L)) ∧ Below w.heap.size w w' := by
  obtain ⟨i0, hi0, hz0, hi1, hi2⟩ := info_parts info61
  have HR := hide hb
  clear hb
  go_enter Try.func21, Try.ntmps21
  go_wp2_with fail
  refine (rbegin_ok k op cl st sp ex la fl fa co ru _ h).mono ?_
  rintro e w1 ⟨rfl, hb1⟩
  have HB1 := hide (show Below w.heap.size w w1 from bstep (by (focus repeat' (first | (with_reducible exact Below.refl _ _) | (with_reducible assumption) | (with_reducible refine Below.alloc ?_ ?_ _) | (with_reducible refine Below.drew ?_) | (with_reducible refine bdrewN ?_ _) | (with_reducible refine Below.setCell ?_ ?_ _) | (first | (with_reducible exact Nat.le_refl _) | (with_reducible assumption) | omega | (simp; omega) | (simp; done))))) hb1)
  have l1 := hide (show ∀ o, w1.cell? ⟨w.heap.size, o, none⟩ = (#[Value.int .i64 k, Value.int .i64 op, Value.int .i64 cl, Value.int .i64 st, Value.int .i64 sp, Value.int .i64 ex, Value.int .i64 la, Value.int .i64 fl, Value.int .i64 fa, Value.int .i64 co, Value.int .i64 ru] : Array Value)[o]? from fun o => (hb1.cell (p := ⟨w.heap.size, o, none⟩) (by (simp; omega))).trans (by simp [go_sem]))
  have q1 := hide (show ∀ o, w1.cell? ⟨w.heap.size + 1, o, none⟩ = (#[Value.int .i64 0, .int .i64 0, .int .i64 0, .int .i64 0] : Array Value)[o]? from fun o => (hb1.cell (p := ⟨w.heap.size + 1, o, none⟩) (by simp)).trans (by simp [go_sem]))
  have p1 := hide (show ∀ o, w1.frozen? ⟨w.heap.size + 1, o, none⟩ = false from fun o => (hb1.frozen (p := ⟨w.heap.size + 1, o, none⟩) (by simp)).trans (by simp [go_sem]))
  have hz1 : w.heap.size + 2 ≤ w1.heap.size := by (have q := hb1.size; simp at q; omega)
  clear hb1
  go_wp2
  go_loopw [10, 11, 12] (fun v10 v11 v12 wr => ∃ j : Nat, j ≤ L ∧ v11 = .int .i64 (cnt (stp op st sp ex la cl (bids zz)) j : Int) ∧ v12 = .int .i64 (j : Int) ∧ wr.ownsRow (w1.heap.size + 1) 61 5 v10 j (flat5 (stp op st sp ex la cl (bids zz)) j) ∧ (∀ o, wr.cell? ⟨w1.heap.size, o, none⟩ = (#[Value.int .i64 (rs op st sp ex la (r0 cl) (bids zz) j).1.1, .int .i64 (rs op st sp ex la (r0 cl) (bids zz) j).1.2.1, .int .i64 (rs op st sp ex la (r0 cl) (bids zz) j).1.2.2.1, .int .i64 (rs op st sp ex la (r0 cl) (bids zz) j).1.2.2.2] : Array Value)[o]?) ∧ (∀ o, wr.frozen? ⟨w1.heap.size, o, none⟩ = false) ∧
      Below w1.heap.size w1 wr ∧ w1.heap.size < wr.heap.size) (fun _ _ v12 _ => L - (intOf v12).toNat)
  case atStart => exact ⟨0, Nat.zero_le _, rfl, rfl, World.ownsRow_nil _ _ _ _, fun o => by simp [go_sem, rs, r0], fun o => by simp [go_sem], by (focus repeat' (first | (with_reducible exact Below.refl _ _) | (with_reducible assumption) | (with_reducible refine Below.alloc ?_ ?_ _) | (with_reducible refine Below.drew ?_) | (with_reducible refine bdrewN ?_ _) | (with_reducible refine Below.setCell ?_ ?_ _) | (first | (with_reducible exact Nat.le_refl _) | (with_reducible assumption) | omega | (simp; omega) | (simp; done)))), by simp⟩
  case round =>
    obtain ⟨j, hj, rfl, rfl, hown, hrc, hrf, hBw, hzw⟩ := hrel
    have HOW := hide hown
    have HRC := hide hrc
    have HRF := hide hrf
    have HBw := hide hBw
    have HL := hide (fun o => (hBw.cell (p := ⟨w.heap.size, o, none⟩) (by (simp; omega))).trans (l1.out o))
    have hris := rs_ok (b := bids zz) h (r0 := r0 cl) (by unfold Rise r0; exact .inl ⟨rfl, rfl, rfl, rfl⟩) j
    clear hown hBw hrc hrf
    by_cases hlt : j < L
    · have hlt' : (j : Int) < (L : Int) := by omega
      obtain ⟨b, off, rfl, hbz, hbc⟩ := HR.out.spot (by omega)
      have hfj := hzz j hlt
      have BW := hide (bstep HB1.out HBw.out)
      have c0 := (BW.out.cell (p := ⟨b, off + j * 4, none⟩) hbz).trans (hbc j hlt 0 (by decide))
      have c1 := (BW.out.cell (p := ⟨b, off + j * 4 + 1, none⟩) hbz).trans (hbc j hlt 1 (by decide))
      have c2 := (BW.out.cell (p := ⟨b, off + j * 4 + 2, none⟩) hbz).trans (hbc j hlt 2 (by decide))
      have c3 := (BW.out.cell (p := ⟨b, off + j * 4 + 3, none⟩) hbz).trans (hbc j hlt 3 (by decide))
      have HST := hide (show (stp op st sp ex la cl (bids zz)) j = nx op st sp ex la (rs op st sp ex la (r0 cl) (bids zz) j).1 (zz j 0, zz j 1, zz j 2, zz j 3) from rfl)
      have HNX := hide (show (rs op st sp ex la (r0 cl) (bids zz) (j + 1)) = nx op st sp ex la (rs op st sp ex la (r0 cl) (bids zz) j).1 (zz j 0, zz j 1, zz j 2, zz j 3) from rfl)
      have HFL := hide (flat5_succ (stp op st sp ex la cl (bids zz)) j)
      have HCN := hide (show cnt (stp op st sp ex la cl (bids zz)) (j + 1) = cnt (stp op st sp ex la cl (bids zz)) j + if ((stp op st sp ex la cl (bids zz)) j).2 = 0 then 1 else 0 from rfl)
      have hcn := cnt_le (stp op st sp ex la cl (bids zz)) j
      generalize cnt (stp op st sp ex la cl (bids zz)) j = cn at *
      generalize (rs op st sp ex la (r0 cl) (bids zz) j).1 = r at *
      obtain ⟨ld, li, pr, rc⟩ := r
      generalize zz j 0 = bd at *
      generalize zz j 1 = bl at *
      generalize zz j 2 = bf at *
      generalize zz j 3 = bn at *
      have d0 : wr.cell? ⟨w1.heap.size, 0, none⟩ = some (.int .i64 ld) := HRC.out 0
      have d1 : wr.cell? ⟨w1.heap.size, 1, none⟩ = some (.int .i64 li) := HRC.out 1
      have d2 : wr.cell? ⟨w1.heap.size, 2, none⟩ = some (.int .i64 pr) := HRC.out 2
      have d3 : wr.cell? ⟨w1.heap.size, 3, none⟩ = some (.int .i64 rc) := HRC.out 3
      have e0 : wr.cell? ⟨w.heap.size, 0, none⟩ = some (.int .i64 k) := HL.out 0
      have e1 : wr.cell? ⟨w.heap.size, 1, none⟩ = some (.int .i64 op) := HL.out 1
      have e2 : wr.cell? ⟨w.heap.size, 2, none⟩ = some (.int .i64 cl) := HL.out 2
      have e3 : wr.cell? ⟨w.heap.size, 3, none⟩ = some (.int .i64 st) := HL.out 3
      have e4 : wr.cell? ⟨w.heap.size, 4, none⟩ = some (.int .i64 sp) := HL.out 4
      have e5 : wr.cell? ⟨w.heap.size, 5, none⟩ = some (.int .i64 ex) := HL.out 5
      have e6 : wr.cell? ⟨w.heap.size, 6, none⟩ = some (.int .i64 la) := HL.out 6
      have e7 : wr.cell? ⟨w.heap.size, 7, none⟩ = some (.int .i64 fl) := HL.out 7
      have e8 : wr.cell? ⟨w.heap.size, 8, none⟩ = some (.int .i64 fa) := HL.out 8
      have e9 : wr.cell? ⟨w.heap.size, 9, none⟩ = some (.int .i64 co) := HL.out 9
      have e10 : wr.cell? ⟨w.heap.size, 10, none⟩ = some (.int .i64 ru) := HL.out 10
      have zl : w.heap.size < wr.heap.size := by omega
      have zb : b < wr.heap.size := by have := BW.out.size; omega
      have FK := hide (fun (wz : World) (hz : Below wr.heap.size wr wz) => (show wz.cell? ⟨w.heap.size, 0, none⟩ = some (.int .i64 k) ∧ wz.cell? ⟨w.heap.size, 1, none⟩ = some (.int .i64 op) ∧ wz.cell? ⟨w.heap.size, 2, none⟩ = some (.int .i64 cl) ∧ wz.cell? ⟨w.heap.size, 3, none⟩ = some (.int .i64 st) ∧ wz.cell? ⟨w.heap.size, 4, none⟩ = some (.int .i64 sp) ∧ wz.cell? ⟨w.heap.size, 5, none⟩ = some (.int .i64 ex) ∧ wz.cell? ⟨w.heap.size, 6, none⟩ = some (.int .i64 la) ∧ wz.cell? ⟨w.heap.size, 7, none⟩ = some (.int .i64 fl) ∧ wz.cell? ⟨w.heap.size, 8, none⟩ = some (.int .i64 fa) ∧ wz.cell? ⟨w.heap.size, 9, none⟩ = some (.int .i64 co) ∧ wz.cell? ⟨w.heap.size, 10, none⟩ = some (.int .i64 ru) ∧ wz.cell? ⟨w1.heap.size, 0, none⟩ = some (.int .i64 ld) ∧ wz.cell? ⟨w1.heap.size, 1, none⟩ = some (.int .i64 li) ∧ wz.cell? ⟨w1.heap.size, 2, none⟩ = some (.int .i64 pr) ∧ wz.cell? ⟨w1.heap.size, 3, none⟩ = some (.int .i64 rc) ∧ wz.cell? ⟨b, off + j * 4, none⟩ = some (.int .i64 bd) ∧ wz.cell? ⟨b, off + j * 4 + 1, none⟩ = some (.int .i64 bl) ∧ wz.cell? ⟨b, off + j * 4 + 2, none⟩ = some (.int .i64 bf) ∧ wz.cell? ⟨b, off + j * 4 + 3, none⟩ = some (.int .i64 bn) from ⟨(hz.cell (p := ⟨w.heap.size, 0, none⟩) zl).trans e0, (hz.cell (p := ⟨w.heap.size, 1, none⟩) zl).trans e1, (hz.cell (p := ⟨w.heap.size, 2, none⟩) zl).trans e2, (hz.cell (p := ⟨w.heap.size, 3, none⟩) zl).trans e3, (hz.cell (p := ⟨w.heap.size, 4, none⟩) zl).trans e4, (hz.cell (p := ⟨w.heap.size, 5, none⟩) zl).trans e5, (hz.cell (p := ⟨w.heap.size, 6, none⟩) zl).trans e6, (hz.cell (p := ⟨w.heap.size, 7, none⟩) zl).trans e7, (hz.cell (p := ⟨w.heap.size, 8, none⟩) zl).trans e8, (hz.cell (p := ⟨w.heap.size, 9, none⟩) zl).trans e9, (hz.cell (p := ⟨w.heap.size, 10, none⟩) zl).trans e10, (hz.cell (p := ⟨w1.heap.size, 0, none⟩) hzw).trans d0, (hz.cell (p := ⟨w1.heap.size, 1, none⟩) hzw).trans d1, (hz.cell (p := ⟨w1.heap.size, 2, none⟩) hzw).trans d2, (hz.cell (p := ⟨w1.heap.size, 3, none⟩) hzw).trans d3, (hz.cell (p := ⟨b, off + j * 4, none⟩) zb).trans c0, (hz.cell (p := ⟨b, off + j * 4 + 1, none⟩) zb).trans c1, (hz.cell (p := ⟨b, off + j * 4 + 2, none⟩) zb).trans c2, (hz.cell (p := ⟨b, off + j * 4 + 3, none⟩) zb).trans c3⟩))
      have hS0 := FK.out wr (Below.refl _ _)
      clear c0 c1 c2 c3 d0 d1 d2 d3 e0 e1 e2 e3 e4 e5 e6 e7 e8 e9 e10
      obtain ⟨X, hX⟩ : ∃ X : R4 × Int, X = (if bidErr op st sp ld li pr rc bd bl bf bn = 0 then ((nLd ld li bd bl, nLi ld li bd bl, nPr st sp ld li pr bd bl, nCl ex la rc bn), 0) else ((0, 0, 0, 0), bidErr op st sp ld li pr rc bd bl bf bn)) := ⟨_, rfl⟩
      go_upto_region 9 with fail
      go_cut [13, 14] (fun v13 v14 wx => ∃ Bx, v13 = .pointer (some ⟨Bx, 0, none⟩) ∧ v14 = .int .i64 X.2 ∧ wr.heap.size ≤ Bx ∧ Bx < wx.heap.size ∧ (∀ o, wx.cell? ⟨Bx, o, none⟩ = (#[Value.int .i64 X.1.1, .int .i64 X.1.2.1, .int .i64 X.1.2.2.1, .int .i64 X.1.2.2.2] : Array Value)[o]?) ∧ Below wr.heap.size wr wx)
      case first =>
        by_cases he : bidErr op st sp ld li pr rc bd bl bf bn = 0
        · rw [if_pos he] at hX
          subst hX
          try dsimp only
          go_wp2_with fail
          go_region_held3 (fun wz => wz.cell? ⟨w.heap.size, 0, none⟩ = some (.int .i64 k) ∧ wz.cell? ⟨w.heap.size, 1, none⟩ = some (.int .i64 op) ∧ wz.cell? ⟨w.heap.size, 2, none⟩ = some (.int .i64 cl) ∧ wz.cell? ⟨w.heap.size, 3, none⟩ = some (.int .i64 st) ∧ wz.cell? ⟨w.heap.size, 4, none⟩ = some (.int .i64 sp) ∧ wz.cell? ⟨w.heap.size, 5, none⟩ = some (.int .i64 ex) ∧ wz.cell? ⟨w.heap.size, 6, none⟩ = some (.int .i64 la) ∧ wz.cell? ⟨w.heap.size, 7, none⟩ = some (.int .i64 fl) ∧ wz.cell? ⟨w.heap.size, 8, none⟩ = some (.int .i64 fa) ∧ wz.cell? ⟨w.heap.size, 9, none⟩ = some (.int .i64 co) ∧ wz.cell? ⟨w.heap.size, 10, none⟩ = some (.int .i64 ru) ∧ wz.cell? ⟨w1.heap.size, 0, none⟩ = some (.int .i64 ld) ∧ wz.cell? ⟨w1.heap.size, 1, none⟩ = some (.int .i64 li) ∧ wz.cell? ⟨w1.heap.size, 2, none⟩ = some (.int .i64 pr) ∧ wz.cell? ⟨w1.heap.size, 3, none⟩ = some (.int .i64 rc) ∧ wz.cell? ⟨b, off + j * 4, none⟩ = some (.int .i64 bd) ∧ wz.cell? ⟨b, off + j * 4 + 1, none⟩ = some (.int .i64 bl) ∧ wz.cell? ⟨b, off + j * 4 + 2, none⟩ = some (.int .i64 bf) ∧ wz.cell? ⟨b, off + j * 4 + 3, none⟩ = some (.int .i64 bn))
            (((try go_split_ands); first | exact FK.out _ (Below.refl _ _) | exact FK.out _ (drewB _) | exact FK.out _ HB5.out | (refine FK.out _ ?_; (focus repeat' (first | (with_reducible exact Below.refl _ _) | (with_reducible assumption) | (with_reducible refine Below.alloc ?_ ?_ _) | (with_reducible refine Below.drew ?_) | (with_reducible refine bdrewN ?_ _) | (with_reducible refine Below.setCell ?_ ?_ _) | (first | (with_reducible exact Nat.le_refl _) | (with_reducible assumption) | omega | (simp; omega) | (simp; done)))); done) | (refine FK.out _ ?_; have hb5q := HB5.out; have hs5q := hb5q.size; (focus repeat' (first | (with_reducible exact Below.refl _ _) | (with_reducible assumption) | (with_reducible refine Below.alloc ?_ ?_ _) | (with_reducible refine Below.drew ?_) | (with_reducible refine bdrewN ?_ _) | (with_reducible refine Below.setCell ?_ ?_ _) | (first | (with_reducible exact Nat.le_refl _) | (with_reducible assumption) | omega | (simp; omega) | (simp; done)))))))
            (first
              | (go_at_call 13; (try go_split_ands); (apply Calls.mono; focus (exact (rBid_ok k op cl st sp ex la fl fa co ru ld li pr rc bd bl bf bn _ h hris hfj he))); rintro e w5 ⟨rfl, hb5⟩; have HB5 := hide (show Below wr.heap.size wr w5 from bstep (by (focus repeat' (first | (with_reducible exact Below.refl _ _) | (with_reducible assumption) | (with_reducible refine Below.alloc ?_ ?_ _) | (with_reducible refine Below.drew ?_) | (with_reducible refine bdrewN ?_ _) | (with_reducible refine Below.setCell ?_ ?_ _) | (first | (with_reducible exact Nat.le_refl _) | (with_reducible assumption) | omega | (simp; omega) | (simp; done))))) hb5); obtain ⟨hc5, hf5⟩ := bcell hb5; have hs5 := hb5.size; (try simp only [World.size_drew, World.size_alloc] at hs5); (try simp only [World.size_drew, World.size_alloc, World.cell?_drew, World.frozen?_drew] at hc5 hf5); clear hb5))
          all_goals
            have hb5q := HB5.out
            have hs5q := hb5q.size
            go_wp2_with fail
            go_meet
            first
              | (refine ⟨w5.heap.size, rfl, rfl, hs5q, by simp, fun o => by simp [go_sem], by (focus repeat' (first | (with_reducible exact Below.refl _ _) | (with_reducible assumption) | (with_reducible refine Below.alloc ?_ ?_ _) | (with_reducible refine Below.drew ?_) | (with_reducible refine bdrewN ?_ _) | (with_reducible refine Below.setCell ?_ ?_ _) | (first | (with_reducible exact Nat.le_refl _) | (with_reducible assumption) | omega | (simp; omega) | (simp; done))))⟩; done)
              | (refine ⟨wr.heap.size, rfl, rfl, Nat.le_refl _, by (simp only [World.size_setCell]; omega), fun o => ?_, by (focus repeat' (first | (with_reducible exact Below.refl _ _) | (with_reducible assumption) | (with_reducible refine Below.alloc ?_ ?_ _) | (with_reducible refine Below.drew ?_) | (with_reducible refine bdrewN ?_ _) | (with_reducible refine Below.setCell ?_ ?_ _) | (first | (with_reducible exact Nat.le_refl _) | (with_reducible assumption) | omega | (simp; omega) | (simp; done))))⟩
                 have y0 := hc5 wr.heap.size 0 (by omega)
                 have y1 := hc5 wr.heap.size 1 (by omega)
                 have y2 := hc5 wr.heap.size 2 (by omega)
                 have y3 := hc5 wr.heap.size 3 (by omega)
                 have y4 := hc5 wr.heap.size o (by omega)
                 simp [go_sem] at y0 y1 y2 y3 y4
                 rcases o with _ | _ | _ | _ | o <;> simp [go_sem, *])
        · rw [if_neg he] at hX
          subst hX
          try dsimp only
          go_wp2_with fail
          go_region_held3 (fun wz => wz.cell? ⟨w.heap.size, 0, none⟩ = some (.int .i64 k) ∧ wz.cell? ⟨w.heap.size, 1, none⟩ = some (.int .i64 op) ∧ wz.cell? ⟨w.heap.size, 2, none⟩ = some (.int .i64 cl) ∧ wz.cell? ⟨w.heap.size, 3, none⟩ = some (.int .i64 st) ∧ wz.cell? ⟨w.heap.size, 4, none⟩ = some (.int .i64 sp) ∧ wz.cell? ⟨w.heap.size, 5, none⟩ = some (.int .i64 ex) ∧ wz.cell? ⟨w.heap.size, 6, none⟩ = some (.int .i64 la) ∧ wz.cell? ⟨w.heap.size, 7, none⟩ = some (.int .i64 fl) ∧ wz.cell? ⟨w.heap.size, 8, none⟩ = some (.int .i64 fa) ∧ wz.cell? ⟨w.heap.size, 9, none⟩ = some (.int .i64 co) ∧ wz.cell? ⟨w.heap.size, 10, none⟩ = some (.int .i64 ru) ∧ wz.cell? ⟨w1.heap.size, 0, none⟩ = some (.int .i64 ld) ∧ wz.cell? ⟨w1.heap.size, 1, none⟩ = some (.int .i64 li) ∧ wz.cell? ⟨w1.heap.size, 2, none⟩ = some (.int .i64 pr) ∧ wz.cell? ⟨w1.heap.size, 3, none⟩ = some (.int .i64 rc) ∧ wz.cell? ⟨b, off + j * 4, none⟩ = some (.int .i64 bd) ∧ wz.cell? ⟨b, off + j * 4 + 1, none⟩ = some (.int .i64 bl) ∧ wz.cell? ⟨b, off + j * 4 + 2, none⟩ = some (.int .i64 bf) ∧ wz.cell? ⟨b, off + j * 4 + 3, none⟩ = some (.int .i64 bn))
            (((try go_split_ands); first | exact FK.out _ (Below.refl _ _) | exact FK.out _ (drewB _) | exact FK.out _ HB5.out | (refine FK.out _ ?_; (focus repeat' (first | (with_reducible exact Below.refl _ _) | (with_reducible assumption) | (with_reducible refine Below.alloc ?_ ?_ _) | (with_reducible refine Below.drew ?_) | (with_reducible refine bdrewN ?_ _) | (with_reducible refine Below.setCell ?_ ?_ _) | (first | (with_reducible exact Nat.le_refl _) | (with_reducible assumption) | omega | (simp; omega) | (simp; done)))); done) | (refine FK.out _ ?_; have hb5q := HB5.out; have hs5q := hb5q.size; (focus repeat' (first | (with_reducible exact Below.refl _ _) | (with_reducible assumption) | (with_reducible refine Below.alloc ?_ ?_ _) | (with_reducible refine Below.drew ?_) | (with_reducible refine bdrewN ?_ _) | (with_reducible refine Below.setCell ?_ ?_ _) | (first | (with_reducible exact Nat.le_refl _) | (with_reducible assumption) | omega | (simp; omega) | (simp; done)))))))
            (first
              | (go_at_call 13; (try go_split_ands); (apply Calls.mono; focus (exact (rBid_bad k op cl st sp ex la fl fa co ru ld li pr rc bd bl bf bn _ h hris hfj he))); rintro e w5 ⟨rfl, hb5⟩; have HB5 := hide (show Below wr.heap.size wr w5 from bstep (by (focus repeat' (first | (with_reducible exact Below.refl _ _) | (with_reducible assumption) | (with_reducible refine Below.alloc ?_ ?_ _) | (with_reducible refine Below.drew ?_) | (with_reducible refine bdrewN ?_ _) | (with_reducible refine Below.setCell ?_ ?_ _) | (first | (with_reducible exact Nat.le_refl _) | (with_reducible assumption) | omega | (simp; omega) | (simp; done))))) hb5); obtain ⟨hc5, hf5⟩ := bcell hb5; have hs5 := hb5.size; (try simp only [World.size_drew, World.size_alloc] at hs5); (try simp only [World.size_drew, World.size_alloc, World.cell?_drew, World.frozen?_drew] at hc5 hf5); clear hb5))
          all_goals
            have hb5q := HB5.out
            have hs5q := hb5q.size
            go_wp2_with fail
            go_meet
            first
              | (refine ⟨w5.heap.size, rfl, rfl, hs5q, by simp, fun o => by simp [go_sem], by (focus repeat' (first | (with_reducible exact Below.refl _ _) | (with_reducible assumption) | (with_reducible refine Below.alloc ?_ ?_ _) | (with_reducible refine Below.drew ?_) | (with_reducible refine bdrewN ?_ _) | (with_reducible refine Below.setCell ?_ ?_ _) | (first | (with_reducible exact Nat.le_refl _) | (with_reducible assumption) | omega | (simp; omega) | (simp; done))))⟩; done)
              | (refine ⟨wr.heap.size, rfl, rfl, Nat.le_refl _, by (simp only [World.size_setCell]; omega), fun o => ?_, by (focus repeat' (first | (with_reducible exact Below.refl _ _) | (with_reducible assumption) | (with_reducible refine Below.alloc ?_ ?_ _) | (with_reducible refine Below.drew ?_) | (with_reducible refine bdrewN ?_ _) | (with_reducible refine Below.setCell ?_ ?_ _) | (first | (with_reducible exact Nat.le_refl _) | (with_reducible assumption) | omega | (simp; omega) | (simp; done))))⟩
                 have y0 := hc5 wr.heap.size 0 (by omega)
                 have y1 := hc5 wr.heap.size 1 (by omega)
                 have y2 := hc5 wr.heap.size 2 (by omega)
                 have y3 := hc5 wr.heap.size 3 (by omega)
                 have y4 := hc5 wr.heap.size o (by omega)
                 simp [go_sem] at y0 y1 y2 y3 y4
                 rcases o with _ | _ | _ | _ | o <;> simp [go_sem, *])
      case rest =>
        obtain ⟨Bx, rfl, rfl, hBx0, hBxz, hxc, hBx⟩ := hcut
        have HO := hide (own_later HOW.out hBx)
        have HRc := hide (fun o => (hBx.cell (p := ⟨w1.heap.size, o, none⟩) hzw).trans (HRC.out o))
        have HFc := hide (fun o => (hBx.frozen (p := ⟨w1.heap.size, o, none⟩) hzw).trans (HRF.out o))
        have HBc := hide (HBw.out.trans (hBx.mono (by omega)))
        have hzc : wr.heap.size ≤ wc.heap.size := hBx.size
        have hzw' : w1.heap.size < wc.heap.size := by omega
        have d0 : wc.cell? ⟨w1.heap.size, 0, none⟩ = some (.int .i64 ld) := HRc.out 0
        have d1 : wc.cell? ⟨w1.heap.size, 1, none⟩ = some (.int .i64 li) := HRc.out 1
        have d2 : wc.cell? ⟨w1.heap.size, 2, none⟩ = some (.int .i64 pr) := HRc.out 2
        have d3 : wc.cell? ⟨w1.heap.size, 3, none⟩ = some (.int .i64 rc) := HRc.out 3
        have f0 := HFc.out 0
        have f1 := HFc.out 1
        have f2 := HFc.out 2
        have f3 := HFc.out 3
        have y0 : wc.cell? ⟨Bx, 0, none⟩ = some (.int .i64 X.1.1) := hxc 0
        have y1 : wc.cell? ⟨Bx, 1, none⟩ = some (.int .i64 X.1.2.1) := hxc 1
        have y2 : wc.cell? ⟨Bx, 2, none⟩ = some (.int .i64 X.1.2.2.1) := hxc 2
        have y3 : wc.cell? ⟨Bx, 3, none⟩ = some (.int .i64 X.1.2.2.2) := hxc 3
        have hne : ∀ k, u10.ownBlock = some k → k ≠ w1.heap.size := fun k hk => by have := (HO.out.lt k hk).1; omega
        clear hBx hxc
        by_cases he : bidErr op st sp ld li pr rc bd bl bf bn = 0
        · rw [if_pos he] at hX
          have enx : nx op st sp ex la (ld, li, pr, rc) (bd, bl, bf, bn) = X := by rw [hX]; exact if_pos he
          have hX2 : X.2 = 0 := by rw [hX]
          rw [enx] at HST HNX
          obtain ⟨⟨xl, xi, xp, xc⟩, xe⟩ := X
          dsimp only at y0 y1 y2 y3 hX2 ⊢
          subst hX2
          clear hX enx
          have hw : (cn : Int) + 1 ≤ 9223372036854775807 := by omega
          go_wp2_with (at_builtin; go_loud (refine wpList_append_lies _ rfl _ _ 57 rfl (w1.heap.size + 1) 61 i0 (.agg #[.int .i64 0, .int .i64 0, .int .i64 0, .int .i64 0, .int .i64 0]) 5 40 Try.underlying57 hi0 hz0 hi1 hi2 rfl (by decide) u10 j (flat5 (stp op st sp ex la cl (bids zz)) j) rfl (World.ownsRow.alloc (own_set4 (own_set4 (own_set4 (own_set4 HO.out hne 0 _) hne 1 _) hne 2 _) hne 3 _) _) ⟨wc.heap.size, 0, none⟩ 1 1 (stepc ((xl, xi, xp, xc), 0)) (by simp [go_sem]) rfl (by (have q := step_new ((((wc.setCell ⟨w1.heap.size, 0, none⟩ (.int .i64 xl)).setCell ⟨w1.heap.size, 1, none⟩ (.int .i64 xi)).setCell ⟨w1.heap.size, 2, none⟩ (.int .i64 xp)).setCell ⟨w1.heap.size, 3, none⟩ (.int .i64 xc)) ((xl, xi, xp, xc), 0) 61; simpa only [World.size_setCell] using q)) (step_one _) (by decide) (by unfold maxLen; omega) (by omega) (by simp; omega) _ rfl ?_); intro g2 cap2 wn hown2 hg2 hgg hgl)
          have hrow : ∀ r, u10.ownBlock = some r → w1.heap.size + 1 ≤ r := fun r e => (HO.out.lt r e).1
          have hcs : ∀ o, wc.cell? ⟨w1.heap.size, o, none⟩ = (#[Value.int .i64 ld, .int .i64 li, .int .i64 pr, .int .i64 rc] : Array Value)[o]? := HRc.out
          obtain ⟨U1, U2, U3, U4⟩ := upd4a (a := .int .i64 xl) (b := .int .i64 xi) (c := .int .i64 xp) (d := .int .i64 xc) hcs HFc.out hzw' rfl hg2 (fun e => by have := hrow _ e; omega) HBc.out (Nat.le_refl _) (Nat.le_refl _) (fun r e => by have := hrow _ e; omega)
          go_roundw
          case rel =>
            refine ⟨j + 1, by omega, ?_, by go_num, ?_, fun o => ?_, U2, U4, by omega⟩
            · rw [HCN.out, HST.out, if_pos rfl]; go_num
            · rw [HFL.out, HST.out]; exact hown2
            · rw [HNX.out]; exact U1 o
          case measure => (first | (simp [intOf]; done) | (simp [intOf]; omega))
        · rw [if_neg he] at hX
          have enx : nx op st sp ex la (ld, li, pr, rc) (bd, bl, bf, bn) = ((ld, li, pr, rc), X.2) := by rw [hX]; exact if_neg he
          have hX2 : X.2 ≠ 0 := by rw [hX]; exact he
          rw [enx] at HST HNX
          obtain ⟨⟨xl, xi, xp, xc⟩, xe⟩ := X
          dsimp only at y0 y1 y2 y3 hX2 HST HNX ⊢
          clear hX enx
          go_wp2_with (at_builtin; go_loud (refine wpList_append_lies _ rfl _ _ 57 rfl (w1.heap.size + 1) 61 i0 (.agg #[.int .i64 0, .int .i64 0, .int .i64 0, .int .i64 0, .int .i64 0]) 5 40 Try.underlying57 hi0 hz0 hi1 hi2 rfl (by decide) u10 j (flat5 (stp op st sp ex la cl (bids zz)) j) rfl (World.ownsRow.alloc HO.out _) ⟨wc.heap.size, 0, none⟩ 1 1 (stepc ((ld, li, pr, rc), xe)) (by simp [go_sem]) rfl (step_new wc ((ld, li, pr, rc), xe) 61) (step_one _) (by decide) (by unfold maxLen; omega) (by omega) (by simp; omega) _ rfl ?_); intro g2 cap2 wn hown2 hg2 hgg hgl)
          have hrow : ∀ r, u10.ownBlock = some r → w1.heap.size + 1 ≤ r := fun r e => (HO.out.lt r e).1
          have hcs : ∀ o, wc.cell? ⟨w1.heap.size, o, none⟩ = (#[Value.int .i64 ld, .int .i64 li, .int .i64 pr, .int .i64 rc] : Array Value)[o]? := HRc.out
          obtain ⟨U1, U2, U3, U4⟩ := upd0a hcs HFc.out hzw' rfl hg2 (fun e => by have := hrow _ e; omega) HBc.out (Nat.le_refl _) (Nat.le_refl _) (fun r e => by have := hrow _ e; omega)
          go_roundw
          case rel =>
            refine ⟨j + 1, by omega, ?_, by go_num, ?_, fun o => ?_, U2, U4, by omega⟩
            · rw [HCN.out, HST.out, if_neg hX2]; go_num
            · rw [HFL.out, HST.out]; exact hown2
            · rw [HNX.out]; exact U1 o
          case measure => (first | (simp [intOf]; done) | (simp [intOf]; omega))
    · obtain rfl : j = L := by omega
      have hge : ¬ (j : Int) < (j : Int) := by omega
      have BW := hide (bstep HB1.out HBw.out)
      have t0 := (HBw.out.frozen (p := ⟨w.heap.size + 1, 0, none⟩) (by (simp; omega))).trans (p1.out 0)
      have t1 := (HBw.out.frozen (p := ⟨w.heap.size + 1, 1, none⟩) (by (simp; omega))).trans (p1.out 1)
      have t2 := (HBw.out.frozen (p := ⟨w.heap.size + 1, 2, none⟩) (by (simp; omega))).trans (p1.out 2)
      have t3 := (HBw.out.frozen (p := ⟨w.heap.size + 1, 3, none⟩) (by (simp; omega))).trans (p1.out 3)
      have s0 : wr.cell? ⟨w.heap.size + 1, 0, none⟩ = some (.int .i64 0) := (HBw.out.cell (p := ⟨w.heap.size + 1, 0, none⟩) (by (simp; omega))).trans (q1.out 0)
      have s1 : wr.cell? ⟨w.heap.size + 1, 1, none⟩ = some (.int .i64 0) := (HBw.out.cell (p := ⟨w.heap.size + 1, 1, none⟩) (by (simp; omega))).trans (q1.out 1)
      have s2 : wr.cell? ⟨w.heap.size + 1, 2, none⟩ = some (.int .i64 0) := (HBw.out.cell (p := ⟨w.heap.size + 1, 2, none⟩) (by (simp; omega))).trans (q1.out 2)
      have s3 : wr.cell? ⟨w.heap.size + 1, 3, none⟩ = some (.int .i64 0) := (HBw.out.cell (p := ⟨w.heap.size + 1, 3, none⟩) (by (simp; omega))).trans (q1.out 3)
      obtain ⟨r, hrj⟩ : ∃ r, (rs op st sp ex la (r0 cl) (bids zz) j).1 = r := ⟨_, rfl⟩
      rw [hrj] at HRC
      obtain ⟨ld, li, pr, rc⟩ := r
      have d0 : wr.cell? ⟨w1.heap.size, 0, none⟩ = some (.int .i64 ld) := HRC.out 0
      have d1 : wr.cell? ⟨w1.heap.size, 1, none⟩ = some (.int .i64 li) := HRC.out 1
      have d2 : wr.cell? ⟨w1.heap.size, 2, none⟩ = some (.int .i64 pr) := HRC.out 2
      have d3 : wr.cell? ⟨w1.heap.size, 3, none⟩ = some (.int .i64 rc) := HRC.out 3
      go_wp2
      have hxx : w1.heap.size ≠ w.heap.size + 1 := by omega
      have hxy : w.heap.size + 1 ≠ w1.heap.size := by omega
      go_region_held3 (fun wz => wz.cell? ⟨w1.heap.size, 0, none⟩ = some (.int .i64 ld) ∧ wz.cell? ⟨w1.heap.size, 1, none⟩ = some (.int .i64 li) ∧ wz.cell? ⟨w1.heap.size, 2, none⟩ = some (.int .i64 pr) ∧ wz.cell? ⟨w1.heap.size, 3, none⟩ = some (.int .i64 rc))
        (((try go_split_ands); first | assumption | (simp [go_sem, *]; done)))
        (fail)
      all_goals go_wp2
      have hne : ∀ k, u10.ownBlock = some k → k ≠ w.heap.size + 1 := fun k hk => by have := (HOW.out.lt k hk).1; omega
      have hbw := BW.out
      refine bodyPost_ret (v := .tuple #[u10, .agg #[.int .i64 ld, .int .i64 li, .int .i64 pr, .int .i64 rc], .int .i64 (cnt (stp op st sp ex la cl (bids zz)) j : Int), .int .i64 0]) (by simp [results, Try.results21, go_sem, *]) rfl ⟨⟨u10, by (rw [hrj]), ?_⟩, by (focus repeat' (first | (with_reducible exact Below.refl _ _) | (with_reducible assumption) | (with_reducible refine Below.alloc ?_ ?_ _) | (with_reducible refine Below.drew ?_) | (with_reducible refine bdrewN ?_ _) | (with_reducible refine Below.setCell ?_ ?_ _) | (first | (with_reducible exact Nat.le_refl _) | (with_reducible assumption) | omega | (simp; omega) | (simp; done))))⟩
      exact own_mono4 (own_set4 (own_set4 (own_set4 (own_set4 HOW.out hne 0 _) hne 1 _) hne 2 _) hne 3 _) (by omega)
end Go.Proofs.Ytbbdneekfejjkaa.runs
