import Derived.Test.YtalnipjaekpbhaaL53
import Derived.Deep.CutBlock
import Derived.Great.BuildSlice
import Derived.ArgAppend
namespace Go.Proofs.Ytalnipjaekpbhaa
open Go.ChangeShapes Go.WideShapes Go.ChangeAt Go.RowKit Go.Deep
set_option linter.unusedSimpArgs false
set_option linter.unusedVariables false

/-- what goes when an order that was told is spoilt: its own row alone -/
structure Gone (w w' : World) (v : Value) : Prop where
  os : w'.os = w.os
  tape : w'.tape = w.tape
  output : w'.output = w.output
  size : w.heap.size ≤ w'.heap.size
  block : ∀ i, i < w.heap.size → v.ownBlock ≠ some i → w'.heap[i]? = w.heap[i]?
theorem Gone.below {b0 : Nat} {w0 w w' : World} {v : Value} (h : Gone w w' v) (hb : Below b0 w0 w) (hs : b0 ≤ w.heap.size) (hv : ∀ k, v.ownBlock = some k → b0 ≤ k) : Below b0 w0 w' :=
  ⟨h.os.trans hb.os, h.tape.trans hb.tape, h.output.trans hb.output, Nat.le_trans hb.size h.size, fun i hi => (h.block i (by omega) (fun q => by have := hv i q; omega)).trans (hb.block i hi)⟩
/-- what is a row stays a row, whatever it holds -/
def RowsStay (w w' : World) : Prop := ∀ (B : Nat) (e : TypeId) (sz : Nat) (u : Value) (k : Nat) (ys : List Value), w.ownsRow B e sz u k ys → ∃ ys', w'.ownsRow B e sz u k ys'
theorem RowsStay.refl (w : World) : RowsStay w w := fun _ _ _ _ _ ys h => ⟨ys, h⟩
theorem RowsStay.trans {a b c : World} (h : RowsStay a b) (g : RowsStay b c) : RowsStay a c := fun B e sz u k ys q => by
  obtain ⟨ys', q'⟩ := h B e sz u k ys q
  exact g B e sz u k ys' q'
theorem RowsStay.of_below {w w' : World} (h : Below w.heap.size w w') : RowsStay w w' := fun _ _ _ _ _ ys q => ⟨ys, own_below q h⟩
theorem RowsStay.of_grown {w w' : World} (h : w.grownBy w' none) : RowsStay w w' := fun _ _ _ _ _ ys q => ⟨ys, own_same q (fun k _ hk => h.block k hk (fun e => by cases e))⟩
theorem RowsStay.setCell (w : World) (g j : Nat) (v : Value) : RowsStay w (w.setCell ⟨g, j, none⟩ v) := fun B e sz u k ys q => by
  by_cases hu : u.ownBlock = some g
  · rcases q.2 with ⟨rfl, _⟩ | ⟨g1, cap, cur, rfl, _⟩
    · cases hu
    · obtain rfl : g1 = g := Option.some.inj hu
      exact own_setc q j v
  · exact ⟨ys, own_same q (fun i hi _ => heap_setCell_other _ _ _ _ (fun e => hu (hi.trans (congrArg some e))))⟩
theorem RowsStay.setCells (g : Nat) : ∀ (l : List Value) (w : World) (o : Nat), RowsStay w (w.setCells g o l)
  | [], w, _ => RowsStay.refl w
  | v :: l, w, o => (RowsStay.setCell w g o v).trans (RowsStay.setCells g l _ _)
/-- append(row, things...), and rows stay rows -/
theorem wpList_append_r {P : Program} (w : World) {ops : Array Oper} {rest : List Oper} {o : Oper} {a : Act} {Q : Exit → Act → World → Prop} (hgd : o.guard = none) (s x : Operand) (t : TypeId)
    (ho : o.op = .call { callee := .builtin .append, args := #[s, x], argTypes := #[t, t] })
    (e : TypeId) (i : TypeInfo) (z : Value) (size bytes : Nat) (ht : P.underlying t = some (.slice e)) (hi : P.info? e = some i) (hz : i.zero = some z) (hsize : i.size = size) (hby : i.bytes = bytes) (hzs : z.cells.size = size) (hsz : 0 < size)
    (B : Nat) (v1 : Value) (n1 : Nat) (xs1 : List Value) (hs : a.eval s = v1) (own1 : w.ownsRow B e size v1 n1 xs1) (ad : Addr) (n2 c2 : Nat) (xs2 : List Value) (hx : a.eval x = .slice (some ad) n2 c2) (hl2 : xs2.length = n2 * size) (hc : ∀ j u, xs2[j]? = some u → w.cell? (ad.add j) = some u) (h1 : ∀ u ∈ xs2, u.oneCell' = true)
    (h63 : n1 + n2 ≤ maxLen) (hbytes : (n1 + n2) * bytes ≤ 140737488355328) (hB : B ≤ w.heap.size)
    (h : ∀ v' w', w'.ownsRow B e size v' (n1 + n2) (xs1 ++ xs2) → w.grownBy w' v1.ownBlock → Nr w v1 v' → RowsStay w w' → wpList P ops Q rest (a.put o.dst v') w') : wpList P ops Q (o :: rest) a w := by
  have key : ∃ v' w', (Builtin.append_ #[t, t] o.type #[v1, .slice (some ad) n2 c2]).run P w = .ok v' w' ∧ w'.ownsRow B e size v' (n1 + n2) (xs1 ++ xs2) ∧ w.grownBy w' v1.ownBlock ∧ Nr w v1 v' ∧ RowsStay w w' := by
    obtain ⟨v', w', q1, q2, q3, -, q5⟩ := run_append_own_at (P := P) w B t o.type e i z size bytes ht hi hz hsize hby hzs hsz v1 n1 xs1 own1 ad n2 c2 xs2 hl2 hc h1 h63 hbytes hB
    refine ⟨v', w', q1, q2, q3, fun k hk => ?_, ?_⟩
    · rcases q5 with q | q
      · exact .inl (by rw [← q]; exact hk)
      · rw [q] at hk
        have := Option.some.inj hk
        exact .inr (by omega)
    · rcases own1.2 with ⟨rfl, rfl⟩ | ⟨g, cap, cur, rfl, hBg, hg, hnc, hcm, hcs, htk⟩
      · exact RowsStay.of_grown q3
      · by_cases room : n1 + n2 ≤ cap
        · have r := run_append_room_cells (P := P) w t o.type e i ht hi g 0 n1 cap ad n2 c2 xs2 (by rw [hsize]; exact hl2) hc h1 room (fun j hj => by
            rw [cell_of_row w g _ _ e (0, 0) hg, Array.getElem?_eq_getElem (by rw [hcs, hsize]; rw [hl2] at hj; have : (n1 + n2) * size ≤ cap * size := Nat.mul_le_mul_right _ room; rw [Nat.add_mul] at this; omega)]; rfl) (fun j hj => frozen_of_row w g _ _ e hg)
          rw [q1] at r
          injection r with _ r
          rw [r]
          exact RowsStay.setCells g _ _ _
        · obtain ⟨v2, w2, r1, -, r3⟩ := run_append_arg_grows (P := P) w t o.type e i z size bytes ht hi hz hsize hby hzs hsz ⟨g, 0, none⟩ n1 cap xs1 own1.1 (own1.cells (g := g) rfl) ad n2 c2 xs2 hl2 hc (by omega) h63 hbytes
          rw [q1] at r1
          injection r1 with _ r1
          rw [r1]
          exact RowsStay.of_grown r3
  obtain ⟨v', w', q1, q2, q3, q4, q5⟩ := key
  refine wpList_plain hgd fun K hK => ?_
  unfold Oper.wp execOp
  simp only [ho, resolve, invoke, builtin, Sem.run_bind, Sem.run_pure, Result.andThen_ok, List.map_toArray, List.map_cons, List.map_nil, hs, hx, q1]
  exact hK _ _ (h v' w' q2 q3 q4 q5)
structure Sp (w wr : World) (B : Nat) (o : Ord) (v v' : Value) (n : Nat) : Prop where
  box : BoxO wr w.heap.size o v'
  row : ∃ xs, wr.ownsRow B 93 2 v' n xs
  g : Gone w wr v
  nr : ∀ k, v'.ownBlock = some k → v.ownBlock = some k ∨ w.heap.size < k
  st : RowsStay w wr
theorem Sp.cell {w wr : World} {B g c n : Nat} {o : Ord} {v : Value} (h : Sp w wr B o v (.slice (some ⟨g, 0, none⟩) n c) n) (hv : ∀ k, v.ownBlock = some k → k < w.heap.size) (j : Nat) (u : Value) : Sp w (wr.setCell ⟨g, j, none⟩ u) B o v (.slice (some ⟨g, 0, none⟩) n c) n := by
  have hg := h.nr g rfl
  have hne : w.heap.size ≠ g := by
    rcases hg with q | q
    · have := hv g q; omega
    · omega
  obtain ⟨xs, hx⟩ := h.row
  refine ⟨h.box.stays (heap_setCell_other _ _ _ _ hne), own_setc hx j u, ⟨h.g.os, h.g.tape, h.g.output, by rw [World.size_setCell]; exact h.g.size, fun i hi hvi => (heap_setCell_other _ _ _ _ (fun e => ?_)).trans (h.g.block i hi hvi)⟩, h.nr, h.st.trans (RowsStay.setCell _ _ _ _)⟩
  subst e
  rcases hg with q | q
  · exact hvi q
  · omega
theorem Sp.more {w wr WA w6 : World} {B g6 c6 n : Nat} {o : Ord} {v v' : Value} {xs : List Value} (h : Sp w wr B o v v' n) (ha : Below wr.heap.size wr WA) (hg : WA.grownBy w6 v'.ownBlock) (h6 : w6.ownsRow B 93 2 (.slice (some ⟨g6, 0, none⟩) (n + 1) c6) (n + 1) xs) (hn : Nr WA v' (.slice (some ⟨g6, 0, none⟩) (n + 1) c6)) (hv : ∀ k, v.ownBlock = some k → k < w.heap.size) (hst : RowsStay WA w6) : Sp w (w6.setCell ⟨w.heap.size, 16, none⟩ (.slice (some ⟨g6, 0, none⟩) (n + 1) c6)) B o v (.slice (some ⟨g6, 0, none⟩) (n + 1) c6) (n + 1) := by
  have hlt := h.box.lt
  have ne1 : v'.ownBlock ≠ some w.heap.size := fun e => by
    rcases h.nr _ e with q | q
    · have := hv _ q; omega
    · omega
  have nr6 : ∀ k, (Value.slice (some ⟨g6, 0, none⟩) (n + 1) c6).ownBlock = some k → v.ownBlock = some k ∨ w.heap.size < k := fun k hk => by
    rcases hn k hk with q | q
    · exact h.nr k q
    · have := ha.size; exact .inr (by omega)
  have hb6 : BoxO w6 w.heap.size o v' := (h.box.below ha).stays (hg.block _ (Nat.lt_of_lt_of_le hlt ha.size) (fun e => ne1 e.symm))
  refine ⟨hb6.offed o.offs _, ⟨xs, own_same h6 (fun k hk _ => heap_setCell_other _ _ _ _ (fun e => ?_))⟩, ⟨hg.os.trans (ha.os.trans h.g.os), hg.tape.trans (ha.tape.trans h.g.tape), hg.output.trans (ha.output.trans h.g.output), by rw [World.size_setCell]; exact Nat.le_trans h.g.size (Nat.le_trans ha.size hg.size), fun i hi hvi => ?_⟩, nr6, ((h.st.trans (RowsStay.of_below ha)).trans hst).trans (RowsStay.setCell _ _ _ _)⟩
  · rcases nr6 k hk with q | q
    · have q2 := hv k q; have e2 : k = w.heap.size := e; omega
    · have e2 : k = w.heap.size := e; omega
  · have s1 := h.g.size
    have s2 := ha.size
    refine (heap_setCell_other _ _ _ _ (show i ≠ w.heap.size by omega)).trans ((hg.block i (by omega) (fun e => ?_)).trans ((ha.block i (by omega)).trans (h.g.block i hi hvi)))
    rcases h.nr i e.symm with q | q
    · exact hvi q
    · omega
set_option maxRecDepth 100000 in
set_option maxHeartbeats 4000000 in
theorem spoilt_c (o : Ord) (v : Value) (n B : Nat) (xs : List Value) (w : World) (h : w.ownsRow B 93 2 v n xs) (hn : n ≤ 1000000) (hB : B ≤ w.heap.size) : Calls Try.prog 28 #[.agg (ordCells o v).toArray] w fun e w' => e = .returned (.tuple #[]) ∧ Gone w w' v ∧ RowsStay w w' := by
  obtain ⟨i93, hi93, hz93, hs93, hb93⟩ := info_parts info93
  obtain ⟨p, c, e⟩ := own_any h
  subst e
  obtain ⟨W, hW⟩ : ∃ W, W = w.alloc (.cells (ordCells o (.slice p n c)).toArray 29) := ⟨_, rfl⟩
  have HV := hide (fun k (hk : (Value.slice p n c).ownBlock = some k) => (h.lt k hk).2)
  have hbw : Below w.heap.size w W := by rw [hW]; exact (Below.refl _ _).alloc (Nat.le_refl _) _
  have hsp : Sp w W B o (.slice p n c) (.slice p n c) n := ⟨by rw [hW]; exact box_made w o _, ⟨xs, own_below h hbw⟩, ⟨hbw.os, hbw.tape, hbw.output, hbw.size, fun i hi _ => hbw.block i hi⟩, fun k hk => .inl hk, RowsStay.of_below hbw⟩
  have HSP := hide hsp
  have HW := hide hW
  clear hW hbw hsp h
  go_enter Try.func28, Try.ntmps28
  go_upto_region 1 with fail
  rw [← HW.out]
  go_wp2_with fail
  go_loopw [2] (fun v2 wr => ∃ j : Nat, v2 = .int .i64 (j : Int) ∧ j ≤ n ∧ Sp w wr B o (.slice p n c) (.slice p n c) n) (fun v2 _ => n - (intOf v2).toNat)
  case atStart => exact ⟨0, rfl, Nat.zero_le _, HSP.out⟩
  case round =>
    obtain ⟨j, rfl, hj, hs⟩ := hrel
    have HS := hide hs
    have x16 : wr.cell? ⟨w.heap.size, 16, none⟩ = some (.slice p n c) := hs.box.c 16 (by decide)
    have hj0 : (0 : Int) ≤ (j : Int) := by omega
    clear hs
    by_cases hlt : j < n
    · have hltI : (j : Int) < (n : Int) := by omega
      obtain ⟨xs, hx⟩ := HS.out.row
      obtain ⟨g, c2, e, -, -⟩ := hx.form (by omega)
      injection e with e _ ec
      subst e ec
      obtain ⟨u, hu, hf⟩ := own_cellx hx (j := j * 2) (by omega)
      obtain ⟨u2, hu2, hf2⟩ := own_cellx hx (j := j * 2 + 1) (by omega)
      clear hx
      go_wp2_with fail
      go_roundw
      case rel =>
        exact ⟨j + 1, by go_num, by omega, (HS.out.cell HV.out _ _).cell HV.out _ _⟩
      case measure => (first | (simp [intOf]; done) | (simp [intOf]; omega))
    · have hltI : ¬ ((j : Int) < (n : Int)) := by omega
      go_wp2_with fail
      obtain ⟨w1, hw1⟩ : ∃ q : World, q = wr := ⟨_, rfl⟩
      subst hw1
      clear x16
      go_loopw [3] (fun v3 wr => ∃ (j : Nat) (v' : Value), v3 = .int .i64 (j : Int) ∧ j ≤ 3 ∧ Sp w wr B o (.slice p n c) v' (n + j)) (fun v3 _ => 3 - (intOf v3).toNat)
      case atStart => exact ⟨0, _, rfl, by omega, HS.out⟩
      case round =>
        obtain ⟨k, v', rfl, hk, hs⟩ := hrel
        have HS2 := hide hs
        obtain ⟨xs, hx⟩ := hs.row
        obtain ⟨p2, c2, e⟩ := own_any hx
        subst e
        have x16 : wr.cell? ⟨w.heap.size, 16, none⟩ = some (.slice p2 (n + k) c2) := hs.box.c 16 (by decide)
        have f16 := hs.box.f 16
        have hk0 : (0 : Int) ≤ (k : Int) := by omega
        clear hs
        by_cases hlt : k < 3
        · have hltI : (k : Int) < 3 := by omega
          have hal : Below wr.heap.size wr (wr.alloc (.cells #[.int .u32 0, .int .i64 (-6)] 93)) := (Below.refl _ _).alloc (Nat.le_refl _) _
          have HAL := hide hal
          have HX := hide (own_below hx hal)
          have HLT := hide HS2.out.box.lt
          have HLIT := hide (show (wr.alloc (.cells #[.int .u32 0, .int .i64 (-6)] 93)).ownsRow wr.heap.size 93 2 (.slice (some ⟨wr.heap.size, 0, none⟩) 1 1) 1 (flatF [(0, -6)]) from World.ownsRow_lit (size := 2) (base := wr.heap.size) (e := 93) wr #[.int .u32 0, .int .i64 (-6)] 1 (Nat.le_refl _) (by decide) rfl)
          have hBr : B ≤ (wr.alloc (.cells #[.int .u32 0, .int .i64 (-6)] 93)).heap.size := by have := HS2.out.g.size; rw [World.size_alloc]; omega
          clear hal hx
          go_wp2_with (at_builtin; refine wpList_append_r _ rfl _ _ 27 rfl 93 i93 (.agg #[.int .u32 0, .int .i64 0]) 2 16 Try.underlying27 hi93 hz93 hs93 hb93 rfl (by decide) B (.slice p2 (n + k) c2) (n + k) xs rfl HX.out ⟨wr.heap.size, 0, none⟩ 1 1 (flatF [(0, -6)]) rfl rfl (row2_cells HLIT.out) (flatF_one _) (by unfold maxLen; omega) (by omega) hBr ?_; intro v6 w6 h6 gr6 hn6 hst6; obtain ⟨g6, c6, hv6, -, -⟩ := h6.form (Nat.succ_pos _); subst hv6; have hkb6 := gr6.block w.heap.size (by have := HLT.out; rw [World.size_alloc]; omega) (fun e => by rcases HS2.out.nr _ e.symm with q | q; (have := HV.out _ q; omega); omega); have x16b : w6.cell? ⟨w.heap.size, 16, none⟩ = some (.slice p2 (n + k) c2) := cell_stay (cell_stay x16 (HAL.out.block _ HLT.out)) hkb6; have f16b : w6.frozen? ⟨w.heap.size, 16, none⟩ = false := fro_stay (fro_stay f16 (HAL.out.block _ HLT.out)) hkb6; have H6 := hide h6; have G6 := hide gr6; have N6 := hide hn6; have ST6 := hide hst6; clear h6 gr6 hn6 hkb6 hst6)
          go_roundw
          case rel =>
            exact ⟨k + 1, _, by go_num, by omega, HS2.out.more HAL.out G6.out H6.out N6.out HV.out ST6.out⟩
          case measure => (first | (simp [intOf]; done) | (simp [intOf]; omega))
        · have hltI : ¬ ((k : Int) < 3) := by omega
          go_wp2_with fail
          go_end0
          exact ⟨rfl, HS2.out.g, HS2.out.st⟩
end Go.Proofs.Ytalnipjaekpbhaa
