import Derived.Deep.AppendLies
import Derived.Laws.OwnMore
import Derived.Test.YtehpjipmlpaflaaT1
namespace Go.Proofs.Ytehpjipmlpaflaa.un
open Go.ChangeShapes Go.WideShapes Go.ChangeAt Go.RowKit Go.Deep Go.Shelf
set_option linter.unusedSimpArgs false
set_option linter.unusedVariables false

attribute [local go_sem] Oper.semAt_some

theorem hide2 {p : Prop} (h : p) : Hid p := h
def cellsU (u : U) : List Value := [.int .i64 u.1, .int .i64 u.2.1, .int .i64 u.2.2]
def flat3 (xs : List U) : List Value := xs.flatMap cellsU
theorem flat3_nil : flat3 [] = [] := rfl
theorem flat3_cons (x : U) (xs : List U) : flat3 (x :: xs) = .int .i64 x.1 :: .int .i64 x.2.1 :: .int .i64 x.2.2 :: flat3 xs := rfl
theorem flat3_snoc (xs : List U) (x : U) : flat3 (xs ++ [x]) = flat3 xs ++ cellsU x := by simp [flat3]
theorem flat3_len (xs : List U) : (flat3 xs).length = xs.length * 3 := by
  induction xs with
  | nil => rfl
  | cons x xs ih => rw [flat3_cons]; simp only [List.length_cons, ih]; omega
theorem flat3_at (xs : List U) : ∀ i c, i < xs.length → c < 3 → (flat3 xs)[i * 3 + c]? = (cellsU (get xs i))[c]? := by
  induction xs with
  | nil => intro i c h; simp at h
  | cons x xs ih =>
    intro i c h hc
    rcases i with _ | i
    · rw [flat3_cons]
      rcases (by omega : c = 0 ∨ c = 1 ∨ c = 2) with rfl | rfl | rfl <;> simp [get, cellsU]
    · have e : (i + 1) * 3 + c = i * 3 + c + 1 + 1 + 1 := by omega
      rw [flat3_cons, e, List.getElem?_cons_succ, List.getElem?_cons_succ, List.getElem?_cons_succ, ih i c (by simpa using h) hc]
      simp [get]
theorem flat3_set (xs : List U) (v : U) : ∀ i, i < xs.length → flat3 (xs.set i v) = (((flat3 xs).set (i * 3) (.int .i64 v.1)).set (i * 3 + 1) (.int .i64 v.2.1)).set (i * 3 + 2) (.int .i64 v.2.2) := by
  induction xs with
  | nil => intro i h; simp at h
  | cons x xs ih =>
    intro i h
    rcases i with _ | i
    · rfl
    · have e : (i + 1) * 3 = i * 3 + 1 + 1 + 1 := by omega
      have e1 : (i + 1) * 3 + 1 = i * 3 + 1 + 1 + 1 + 1 := by omega
      have e2 : (i + 1) * 3 + 2 = i * 3 + 2 + 1 + 1 + 1 := by omega
      rw [List.set_cons_succ, flat3_cons, flat3_cons, e1, e2, e, ih i (by simpa using h)]
      rfl
/-- a row of units in the heap: its block R, all that it owns behind it -/
structure HObj (R : Nat) (xs : List U) (w : World) : Prop where
  ex : ∃ v, w.cell? ⟨R, 0, none⟩ = some v ∧ w.ownsRow (R + 1) 52 3 v xs.length (flat3 xs)
  fn : w.cell? ⟨R, 1, none⟩ = some (.func (.func 32) #[] #[])
  fz : w.frozen? ⟨R, 0, none⟩ = false
  lt : R < w.heap.size
/-- the slice of a row that is not empty -/
theorem HObj.full {R : Nat} {xs : List U} {w : World} (h : HObj R xs w) (hn : 0 < xs.length) : ∃ g cap, w.cell? ⟨R, 0, none⟩ = some (.slice (some ⟨g, 0, none⟩) xs.length cap) ∧ R < g ∧ g < w.heap.size ∧ w.ownsRow (R + 1) 52 3 (.slice (some ⟨g, 0, none⟩) xs.length cap) xs.length (flat3 xs) ∧
    (∀ i c, i < xs.length → c < 3 → w.cell? ⟨g, i * 3 + c, none⟩ = (cellsU (get xs i))[c]?) ∧ ∀ o, w.frozen? ⟨g, o, none⟩ = false := by
  obtain ⟨v, hv, own⟩ := h.ex
  obtain ⟨g, cap, rfl, hb, hg⟩ := own.form hn
  exact ⟨g, cap, hv, by omega, hg, own, fun i c hi hc => by rw [own.cellAt (i * 3 + c) (by omega)]; exact flat3_at xs i c hi hc, own.frozenAt⟩
theorem HObj.any {R : Nat} {xs : List U} {w : World} (h : HObj R xs w) : ∃ ao cap, w.cell? ⟨R, 0, none⟩ = some (.slice ao xs.length cap) ∧ w.ownsRow (R + 1) 52 3 (.slice ao xs.length cap) xs.length (flat3 xs) := by
  obtain ⟨v, hv, own⟩ := h.ex
  rcases own.2 with ⟨rfl, h0⟩ | ⟨g, c, cur, rfl, _⟩
  · exact ⟨none, 0, by rw [h0]; exact hv, by have := own; rw [h0] at this ⊢; exact this⟩
  · exact ⟨_, _, hv, own⟩
theorem HObj.below {R : Nat} {xs : List U} {w w' : World} (h : HObj R xs w) (hb : Below w.heap.size w w') : HObj R xs w' := by
  obtain ⟨v, hv, own⟩ := h.ex
  refine ⟨⟨v, (hb.cell (p := ⟨R, 0, none⟩) h.lt).trans hv, ?_⟩, (hb.cell (p := ⟨R, 1, none⟩) h.lt).trans h.fn, (hb.frozen (p := ⟨R, 0, none⟩) h.lt).trans h.fz, Nat.lt_of_lt_of_le h.lt hb.size⟩
  exact own.kept (row := none) ⟨hb.os, hb.tape, hb.output, hb.size, fun k hk _ => hb.block k hk⟩ (by
    cases e : v.ownBlock with
    | none => exact .inl rfl
    | some k => exact .inr (by simp))

/-- block k is the row's own -/
def OwnB (R : Nat) (w : World) (k : Nat) : Prop := ∃ v, w.cell? ⟨R, 0, none⟩ = some v ∧ v.ownBlock = some k
/-- what a step on the row R does to the heap: nothing but to R, to what it owns, and to what is new -/
structure Chg (R : Nat) (w w' : World) : Prop where
  low : Below R w w'
  keep : ∀ k, k < w.heap.size → k ≠ R → ¬ OwnB R w k → w'.heap[k]? = w.heap[k]?
  own : ∀ k, OwnB R w' k → OwnB R w k ∨ w.heap.size ≤ k
theorem Chg.refl (R : Nat) (w : World) : Chg R w w := ⟨Below.refl _ _, fun _ _ _ _ => rfl, fun _ h => .inl h⟩
theorem Chg.trans {R : Nat} {w w1 w2 : World} (h : Chg R w w1) (h2 : Chg R w1 w2) : Chg R w w2 := by
  refine ⟨h.low.trans h2.low, fun k hk hne ho => ?_, fun k hk => ?_⟩
  · refine (h2.keep k (Nat.lt_of_lt_of_le hk h.low.size) hne (fun q => ?_)).trans (h.keep k hk hne ho)
    rcases h.own k q with q | q
    · exact ho q
    · omega
  · rcases h2.own k hk with q | q
    · exact h.own k q
    · exact .inr (Nat.le_trans h.low.size q)
theorem Chg.of_below {R : Nat} {w w' : World} (hb : Below w.heap.size w w') (hR : R < w.heap.size) : Chg R w w' :=
  ⟨hb.mono (Nat.le_of_lt hR), fun k hk _ _ => hb.block k hk, fun k ⟨v, hv, e⟩ => .inl ⟨v, (hb.cell (p := ⟨R, 0, none⟩) hR).symm.trans hv, e⟩⟩
/-- cells of the row's own block are written -/
theorem Chg.of_own {R g n cap : Nat} {w w' : World} (hv : w.cell? ⟨R, 0, none⟩ = some (.slice (some ⟨g, 0, none⟩) n cap)) (hg : R < g) (hb : Below g w w') (hk : ∀ k, k ≠ g → w'.heap[k]? = w.heap[k]?) : Chg R w w' :=
  ⟨hb.mono (Nat.le_of_lt hg), fun k _ _ ho => hk k (fun e => ho ⟨_, hv, by rw [e]; rfl⟩), fun k ⟨v, hv', e⟩ => .inl ⟨v, (World.cell?_of_block (a := ⟨R, 0, none⟩) (hk R (by omega))).symm.trans hv', e⟩⟩
theorem drew_heap (w : World) : w.drew.heap = w.heap := rfl
theorem keeps6 (w : World) (g o1 o2 o3 o4 o5 o6 : Nat) (u1 u2 u3 u4 u5 u6 : Value) (k : Nat) (h : k ≠ g) : ((((((w.setCell ⟨g, o1, none⟩ u1).setCell ⟨g, o2, none⟩ u2).setCell ⟨g, o3, none⟩ u3).setCell ⟨g, o4, none⟩ u4).setCell ⟨g, o5, none⟩ u5).setCell ⟨g, o6, none⟩ u6).drew.heap[k]? = w.heap[k]? := by
  have e : ∀ (w : World) (o : Nat) (u : Value), (w.setCell ⟨g, o, none⟩ u).heap[k]? = w.heap[k]? := fun w o u => heap_setCell_other _ _ _ _ h
  rw [drew_heap, e, e, e, e, e, e]

theorem info52 : (Try.prog.info? 52).map (fun i => (i.zero, i.size, i.bytes)) = some (some (.agg #[.int .i64 0, .int .i64 0, .int .i64 0]), 3, 24) := by kernel_rfl
theorem heap_o {w : World} {g o R : Nat} {u : Value} (h : R ≠ g) : (w.setCell ⟨g, o, none⟩ u).heap[R]? = w.heap[R]? := heap_setCell_other _ _ _ _ h
theorem HObj.turned {R g cap : Nat} {xs ys : List U} {w w' : World} (h : HObj R xs w) (hv : w.cell? ⟨R, 0, none⟩ = some (.slice (some ⟨g, 0, none⟩) xs.length cap)) (hR : w'.heap[R]? = w.heap[R]?) (own : w'.ownsRow (R + 1) 52 3 (.slice (some ⟨g, 0, none⟩) xs.length cap) xs.length (flat3 ys)) (hl : ys.length = xs.length) (hs : w.heap.size ≤ w'.heap.size) : HObj R ys w' :=
  ⟨⟨_, (World.cell?_of_block (a := ⟨R, 0, none⟩) hR).trans hv, by rw [hl]; exact own⟩, (World.cell?_of_block (a := ⟨R, 1, none⟩) hR).trans h.fn, (World.frozen?_of_block (a := ⟨R, 0, none⟩) hR).trans h.fz, Nat.lt_of_lt_of_le h.lt hs⟩

theorem Len_c (R : Nat) (xs : List U) (w : World) (h : HObj R xs w) : Calls Try.prog 37 #[.pointer (some ⟨R, 0, none⟩)] w fun e w' => e = .returned (.int .i64 (xs.length : Int)) ∧ w' = w := by
  obtain ⟨ao, cap, hv, -⟩ := h.any
  clear h
  go_enter Try.func37, Try.ntmps37
  go_wp2
  refine bodyPost_ret (v := .int .i64 (xs.length : Int)) (by simp [results, Try.f37, go_sem]) rfl ⟨rfl, rfl⟩
set_option maxRecDepth 100000 in
set_option maxHeartbeats 2000000 in
theorem Less_c (R : Nat) (xs : List U) (i j : Nat) (w : World) (h : HObj R xs w) (hi : i < xs.length) (hj : j < xs.length) (hm : xs.length ≤ 1048576) : Calls Try.prog 64 #[.pointer (some ⟨R, 0, none⟩), .int .i64 (i : Int), .int .i64 (j : Int)] w fun e w' => e = .returned (.bool (ltB (get xs i) (get xs j))) ∧ Below w.heap.size w w' := by
  obtain ⟨g, cap, hv, hRg, hg, -, hc, -⟩ := h.full (by omega)
  have hR := h.lt
  have v0 : ∀ m : Aft w, m.w.cell? ⟨R, 0, none⟩ = some (.slice (some ⟨g, 0, none⟩) xs.length cap) := fun m => (m.le.cell (p := ⟨R, 0, none⟩) hR).trans hv
  have v1 : ∀ m : Aft w, m.w.cell? ⟨R, 1, none⟩ = some (.func (.func 32) #[] #[]) := fun m => (m.le.cell (p := ⟨R, 1, none⟩) hR).trans h.fn
  have HC := hide hc
  have a0 : ∀ m : Aft w, m.w.cell? ⟨g, i * 3, none⟩ = some (.int .i64 (get xs i).1) := fun m => (m.le.cell (p := ⟨g, i * 3, none⟩) hg).trans (hc i 0 hi (by decide))
  have a1 : ∀ m : Aft w, m.w.cell? ⟨g, i * 3 + 1, none⟩ = some (.int .i64 (get xs i).2.1) := fun m => (m.le.cell (p := ⟨g, i * 3 + 1, none⟩) hg).trans (hc i 1 hi (by decide))
  have a2 : ∀ m : Aft w, m.w.cell? ⟨g, i * 3 + 2, none⟩ = some (.int .i64 (get xs i).2.2) := fun m => (m.le.cell (p := ⟨g, i * 3 + 2, none⟩) hg).trans (hc i 2 hi (by decide))
  have b0 : ∀ m : Aft w, m.w.cell? ⟨g, j * 3, none⟩ = some (.int .i64 (get xs j).1) := fun m => (m.le.cell (p := ⟨g, j * 3, none⟩) hg).trans (hc j 0 hj (by decide))
  have b1 : ∀ m : Aft w, m.w.cell? ⟨g, j * 3 + 1, none⟩ = some (.int .i64 (get xs j).2.1) := fun m => (m.le.cell (p := ⟨g, j * 3 + 1, none⟩) hg).trans (hc j 1 hj (by decide))
  have b2 : ∀ m : Aft w, m.w.cell? ⟨g, j * 3 + 2, none⟩ = some (.int .i64 (get xs j).2.2) := fun m => (m.le.cell (p := ⟨g, j * 3 + 2, none⟩) hg).trans (hc j 2 hj (by decide))
  have hi0 : (0 : Int) ≤ (i : Int) := by omega
  have hj0 : (0 : Int) ≤ (j : Int) := by omega
  have hi1 : (i : Int) < (xs.length : Int) := by omega
  have hj1 : (j : Int) < (xs.length : Int) := by omega
  clear h hv hc
  obtain ⟨p, hp⟩ : ∃ p, p = get xs i := ⟨_, rfl⟩
  obtain ⟨q, hq⟩ : ∃ q, q = get xs j := ⟨_, rfl⟩
  rw [← hp] at a0 a1 a2 ⊢
  rw [← hq] at b0 b1 b2 ⊢
  clear hp hq HC
  refine (callsIn_wide (n := 3)).1 ?_
  refine callsIn_of_wp Try.func64 rfl trivial ?_ rfl
  simp only [Try.ntmps64, List.size_toArray, List.length_cons, List.length_nil, Nat.reduceAdd, Nat.reduceSub, Array.replicate_succ, Array.replicate_zero, List.push_toArray, List.append_toArray, List.nil_append, List.cons_append]
  gi_wp2_with fail
  refine wpIn_region_after_tail 18 (by kernel_rfl) (by kernel_rfl) (by kernel_rfl) ?_
  simp only [List.take_succ_cons, List.take_zero, List.drop_succ_cons, List.drop_zero]
  repeat (gi_big_quiet_step (fail))
  refine wpQuietIn_nil ?_
  intro _ hw'
  obtain ⟨m, hw''⟩ := hw'
  subst hw''
  have HM := hide m.le
  clear v0 v1 a0 a1 a2 b0 b1 b2
  gi_wp2_with (gi_at_call 32; refine (callsIn_wide.2 (before_c p q _)).mono ?_; rintro e w5 ⟨rfl, hb5⟩; have HB5 := hide hb5; clear hb5)
  refine bodyPost_ret (v := .bool (ltB p q)) (by simp [results, Try.f64, go_sem]) rfl ⟨rfl, ?_⟩
  exact HM.out.trans (HB5.out.mono HM.out.size)
theorem flat3_swap (xs : List U) (i j : Nat) (hi : i < xs.length) (hj : j < xs.length) : flat3 (swapL xs i j) = ((((((flat3 xs).set (i * 3) (.int .i64 (get xs j).1)).set (i * 3 + 1) (.int .i64 (get xs j).2.1)).set (i * 3 + 2) (.int .i64 (get xs j).2.2)).set (j * 3) (.int .i64 (get xs i).1)).set (j * 3 + 1) (.int .i64 (get xs i).2.1)).set (j * 3 + 2) (.int .i64 (get xs i).2.2) := by
  unfold swapL
  rw [flat3_set _ _ _ (by simpa using hj), flat3_set _ _ _ hi]
/-- three cells of an owned row are written over: a thing of it -/
theorem own_put {w : World} {base g n cap : Nat} {xs : List Value} (h : w.ownsRow base 52 3 (.slice (some ⟨g, 0, none⟩) n cap) n xs) (i : Nat) (a b c : Value) :
    ((((w.setCell ⟨g, i * 3, none⟩ a).setCell ⟨g, i * 3 + 1, none⟩ b).setCell ⟨g, i * 3 + 2, none⟩ c).ownsRow base 52 3 (.slice (some ⟨g, 0, none⟩) n cap) n (((xs.set (i * 3) a).set (i * 3 + 1) b).set (i * 3 + 2) c)) :=
  (((h.stored _ _).1.stored _ _).1.stored _ _).1
set_option maxRecDepth 100000 in
set_option maxHeartbeats 2000000 in
theorem Swap_lt (R : Nat) (xs : List U) (i j : Nat) (w : World) (h : HObj R xs w) (hi : i < xs.length) (hj : j < xs.length) (hm : xs.length ≤ 1048576) (hij : i < j) : Calls Try.prog 67 #[.pointer (some ⟨R, 0, none⟩), .int .i64 (i : Int), .int .i64 (j : Int)] w fun e w' => (∃ v, e = .returned v) ∧ HObj R (swapL xs i j) w' ∧ Chg R w w' := by
  obtain ⟨g, cap, hv, hRg, hg, own, hc, hfz⟩ := h.full (by omega)
  have hR := h.lt
  have v0 : ∀ m : Aft w, m.w.cell? ⟨R, 0, none⟩ = some (.slice (some ⟨g, 0, none⟩) xs.length cap) := fun m => (m.le.cell (p := ⟨R, 0, none⟩) hR).trans hv
  have HC := hide hc
  have HO := hide own
  have HF := hide hfz
  have HH := hide h
  have a0 : ∀ m : Aft w, m.w.cell? ⟨g, i * 3, none⟩ = some (.int .i64 (get xs i).1) := fun m => (m.le.cell (p := ⟨g, i * 3, none⟩) hg).trans (hc i 0 hi (by decide))
  have a1 : ∀ m : Aft w, m.w.cell? ⟨g, i * 3 + 1, none⟩ = some (.int .i64 (get xs i).2.1) := fun m => (m.le.cell (p := ⟨g, i * 3 + 1, none⟩) hg).trans (hc i 1 hi (by decide))
  have a2 : ∀ m : Aft w, m.w.cell? ⟨g, i * 3 + 2, none⟩ = some (.int .i64 (get xs i).2.2) := fun m => (m.le.cell (p := ⟨g, i * 3 + 2, none⟩) hg).trans (hc i 2 hi (by decide))
  have b0 : ∀ m : Aft w, m.w.cell? ⟨g, j * 3, none⟩ = some (.int .i64 (get xs j).1) := fun m => (m.le.cell (p := ⟨g, j * 3, none⟩) hg).trans (hc j 0 hj (by decide))
  have b1 : ∀ m : Aft w, m.w.cell? ⟨g, j * 3 + 1, none⟩ = some (.int .i64 (get xs j).2.1) := fun m => (m.le.cell (p := ⟨g, j * 3 + 1, none⟩) hg).trans (hc j 1 hj (by decide))
  have b2 : ∀ m : Aft w, m.w.cell? ⟨g, j * 3 + 2, none⟩ = some (.int .i64 (get xs j).2.2) := fun m => (m.le.cell (p := ⟨g, j * 3 + 2, none⟩) hg).trans (hc j 2 hj (by decide))
  have hi0 : (0 : Int) ≤ (i : Int) := by omega
  have hj0 : (0 : Int) ≤ (j : Int) := by omega
  have hi1 : (i : Int) < (xs.length : Int) := by omega
  have hj1 : (j : Int) < (xs.length : Int) := by omega
  have HSW := hide (flat3_swap xs i j hi hj)
  clear h hv hc hfz own
  obtain ⟨p, hp⟩ : ∃ p, p = get xs i := ⟨_, rfl⟩
  obtain ⟨q, hq⟩ : ∃ q, q = get xs j := ⟨_, rfl⟩
  rw [← hp] at a0 a1 a2
  rw [← hq] at b0 b1 b2
  have HP := hide hp
  have HQ := hide hq
  clear hp hq
  have a0 : w.cell? ⟨g, i * 3, none⟩ = some (.int .i64 p.1) := a0 ⟨w, Below.refl _ _⟩
  have a1 : w.cell? ⟨g, i * 3 + 1, none⟩ = some (.int .i64 p.2.1) := a1 ⟨w, Below.refl _ _⟩
  have a2 : w.cell? ⟨g, i * 3 + 2, none⟩ = some (.int .i64 p.2.2) := a2 ⟨w, Below.refl _ _⟩
  have b0 : w.cell? ⟨g, j * 3, none⟩ = some (.int .i64 q.1) := b0 ⟨w, Below.refl _ _⟩
  have b1 : w.cell? ⟨g, j * 3 + 1, none⟩ = some (.int .i64 q.2.1) := b1 ⟨w, Below.refl _ _⟩
  have b2 : w.cell? ⟨g, j * 3 + 2, none⟩ = some (.int .i64 q.2.2) := b2 ⟨w, Below.refl _ _⟩
  have v0 : w.cell? ⟨R, 0, none⟩ = some (.slice (some ⟨g, 0, none⟩) xs.length cap) := v0 ⟨w, Below.refl _ _⟩
  have f0 := HF.out
  have d00 : i * 3 ≠ j * 3 := by omega
  have D00 : j * 3 ≠ i * 3 := by omega
  have d01 : i * 3 ≠ j * 3 + 1 := by omega
  have D10 : j * 3 + 1 ≠ i * 3 := by omega
  have d02 : i * 3 ≠ j * 3 + 2 := by omega
  have D20 : j * 3 + 2 ≠ i * 3 := by omega
  have d10 : i * 3 + 1 ≠ j * 3 := by omega
  have D01 : j * 3 ≠ i * 3 + 1 := by omega
  have d11 : i * 3 + 1 ≠ j * 3 + 1 := by omega
  have D11 : j * 3 + 1 ≠ i * 3 + 1 := by omega
  have d12 : i * 3 + 1 ≠ j * 3 + 2 := by omega
  have D21 : j * 3 + 2 ≠ i * 3 + 1 := by omega
  have d20 : i * 3 + 2 ≠ j * 3 := by omega
  have D02 : j * 3 ≠ i * 3 + 2 := by omega
  have d21 : i * 3 + 2 ≠ j * 3 + 1 := by omega
  have D12 : j * 3 + 1 ≠ i * 3 + 2 := by omega
  have d22 : i * 3 + 2 ≠ j * 3 + 2 := by omega
  have D22 : j * 3 + 2 ≠ i * 3 + 2 := by omega
  have hne : i ≠ j := by omega
  have hne' : j ≠ i := by omega
  have hRg1 : R ≠ g := by omega
  have hRg2 : g ≠ R := by omega
  go_enter Try.func67, Try.ntmps67
  go_wp2
  go_region
  have own6 := own_put (own_put HO.out i (.int .i64 q.1) (.int .i64 q.2.1) (.int .i64 q.2.2)) j (.int .i64 p.1) (.int .i64 p.2.1) (.int .i64 p.2.2)
  have hfl : flat3 (swapL xs i j) = _ := HSW.out
  rw [← HP.out, ← HQ.out] at hfl
  rw [← hfl] at own6
  go_end0
  have HBG := (((((((Below.refl g w).setCell (p := ⟨g, i * 3, none⟩) (Nat.le_refl _) (.int .i64 q.1)).setCell (p := ⟨g, i * 3 + 1, none⟩) (Nat.le_refl _) (.int .i64 q.2.1)).setCell (p := ⟨g, i * 3 + 2, none⟩) (Nat.le_refl _) (.int .i64 q.2.2)).setCell (p := ⟨g, j * 3, none⟩) (Nat.le_refl _) (.int .i64 p.1)).setCell (p := ⟨g, j * 3 + 1, none⟩) (Nat.le_refl _) (.int .i64 p.2.1)).setCell (p := ⟨g, j * 3 + 2, none⟩) (Nat.le_refl _) (.int .i64 p.2.2)).drew
  exact ⟨⟨_, rfl⟩, HH.out.turned v0 (HBG.block R hRg) own6.drew (swap_len xs i j) HBG.size, Chg.of_own v0 hRg HBG (keeps6 w g _ _ _ _ _ _ _ _ _ _ _ _)⟩
set_option maxRecDepth 100000 in
set_option maxHeartbeats 2000000 in
theorem Swap_eq (R : Nat) (xs : List U) (i : Nat) (w : World) (h : HObj R xs w) (hi : i < xs.length) (hm : xs.length ≤ 1048576) : Calls Try.prog 67 #[.pointer (some ⟨R, 0, none⟩), .int .i64 (i : Int), .int .i64 (i : Int)] w fun e w' => (∃ v, e = .returned v) ∧ HObj R (swapL xs i i) w' ∧ Chg R w w' := by
  obtain ⟨g, cap, v0, hRg, hg, own, hc, f0⟩ := h.full (by omega)
  have HO := hide own
  have HH := hide h
  have a0 : w.cell? ⟨g, i * 3, none⟩ = some (.int .i64 (get xs i).1) := hc i 0 hi (by decide)
  have a1 : w.cell? ⟨g, i * 3 + 1, none⟩ = some (.int .i64 (get xs i).2.1) := hc i 1 hi (by decide)
  have a2 : w.cell? ⟨g, i * 3 + 2, none⟩ = some (.int .i64 (get xs i).2.2) := hc i 2 hi (by decide)
  have hi0 : (0 : Int) ≤ (i : Int) := by omega
  have hi1 : (i : Int) < (xs.length : Int) := by omega
  have HSW := hide (flat3_swap xs i i hi hi)
  have hRg1 : R ≠ g := by omega
  have hRg2 : g ≠ R := by omega
  clear h hc own
  obtain ⟨p, hp⟩ : ∃ p, p = get xs i := ⟨_, rfl⟩
  rw [← hp] at a0 a1 a2
  have HP := hide hp
  clear hp
  go_enter Try.func67, Try.ntmps67
  go_wp2
  go_region
  have own6 := own_put (own_put HO.out i (.int .i64 p.1) (.int .i64 p.2.1) (.int .i64 p.2.2)) i (.int .i64 p.1) (.int .i64 p.2.1) (.int .i64 p.2.2)
  have hfl : flat3 (swapL xs i i) = _ := HSW.out
  rw [← HP.out] at hfl
  rw [← hfl] at own6
  go_end0
  have HBG := (((((((Below.refl g w).setCell (p := ⟨g, i * 3, none⟩) (Nat.le_refl _) (.int .i64 p.1)).setCell (p := ⟨g, i * 3 + 1, none⟩) (Nat.le_refl _) (.int .i64 p.2.1)).setCell (p := ⟨g, i * 3 + 2, none⟩) (Nat.le_refl _) (.int .i64 p.2.2)).setCell (p := ⟨g, i * 3, none⟩) (Nat.le_refl _) (.int .i64 p.1)).setCell (p := ⟨g, i * 3 + 1, none⟩) (Nat.le_refl _) (.int .i64 p.2.1)).setCell (p := ⟨g, i * 3 + 2, none⟩) (Nat.le_refl _) (.int .i64 p.2.2)).drew
  exact ⟨⟨_, rfl⟩, HH.out.turned v0 (HBG.block R hRg) own6.drew (swap_len xs i i) HBG.size, Chg.of_own v0 hRg HBG (keeps6 w g _ _ _ _ _ _ _ _ _ _ _ _)⟩
theorem Swap_c (R : Nat) (xs : List U) (i j : Nat) (w : World) (h : HObj R xs w) (hij : i ≤ j) (hj : j < xs.length) (hm : xs.length ≤ 1048576) : Calls Try.prog 67 #[.pointer (some ⟨R, 0, none⟩), .int .i64 (i : Int), .int .i64 (j : Int)] w fun e w' => (∃ v, e = .returned v) ∧ HObj R (swapL xs i j) w' ∧ Chg R w w' := by
  rcases Nat.lt_or_ge i j with q | q
  · exact Swap_lt R xs i j w h (by omega) hj hm q
  · obtain rfl : i = j := by omega
    exact Swap_eq R xs i w h hj hm
end Go.Proofs.Ytehpjipmlpaflaa.un
