import Derived.Test.YtalnipjaekpbhaaL30
namespace Go.Proofs.Ytalnipjaekpbhaa
open Go.ChangeShapes Go.WideShapes Go.ChangeAt Go.RowKit Go.Deep
set_option linter.unusedSimpArgs false
set_option linter.unusedVariables false

theorem info29 : (Try.prog.info? 29).map (fun i => (i.zero, i.size, i.bytes)) = some (some (.agg #[Value.int .i64 0, .string ⟨#[]⟩, .int .i64 0, .int .i64 0, .int .i64 0, .int .i64 0, .int .i64 0, .int .i64 0, .int .i64 0, .int .i64 0, .int .i64 0, .int .i64 0, .int .i64 0, .int .i64 0, .int .i64 0, .int .i64 0, .slice none 0 0, .int .i64 0]), 18, 168) := by kernel_rfl
theorem info3 : (Try.prog.info? 3).map (fun i => (i.zero, i.size, i.bytes)) = some (some (.int .i64 0), 1, 8) := by kernel_rfl
theorem lit_fold (o : Ord) (ov : Value) : List.foldl (fun (cs : Array Value) (x : Value × Nat) => cs.setIfInBounds x.2 x.1) #[Value.int .i64 0, .string ⟨#[]⟩, .int .i64 0, .int .i64 0, .int .i64 0, .int .i64 0, .int .i64 0, .int .i64 0, .int .i64 0, .int .i64 0, .int .i64 0, .int .i64 0, .int .i64 0, .int .i64 0, .int .i64 0, .int .i64 0, .slice none 0 0, .int .i64 0] (ordCells o ov).zipIdx = (ordCells o ov).toArray := by kernel_rfl
theorem ordCells_one (o : Ord) (ov : Value) (h : ov.oneCell' = true) : ∀ u ∈ ordCells o ov, u.oneCell' = true := by
  intro u hu
  simp only [ordCells, List.mem_cons, List.not_mem_nil, or_false] at hu
  rcases hu with rfl | rfl | rfl | rfl | rfl | rfl | rfl | rfl | rfl | rfl | rfl | rfl | rfl | rfl | rfl | rfl | rfl | rfl <;> first | rfl | exact h
def scanF (ns : List Nat) : Nat → Nat → List Ord → List Nat → List Ord × List Nat × Nat × Int
  | 0, a, os, ps => (os, ps, a, 0)
  | f + 1, a, os, ps => if a < ns.length then (if (oneT (ns.drop a)).2.2 ≠ 0 then (os, ps, a, (oneT (ns.drop a)).2.2) else scanF ns f (a + (oneT (ns.drop a)).2.1) (os ++ [(oneT (ns.drop a)).1]) (ps ++ [a])) else (os, ps, a, 0)
/-- the orders of a book's bytes, their places, how many bytes are good, why no more -/
def scanT (ns : List Nat) : List Ord × List Nat × Nat × Int := scanF ns (ns.length + 1) 0 [] []
theorem scanF_end {ns : List Nat} {f a : Nat} {os : List Ord} {ps : List Nat} (h : ¬ a < ns.length) : scanF ns f a os ps = (os, ps, a, 0) := by
  cases f with
  | zero => rfl
  | succ f => simp [scanF, h]
theorem scanF_err {ns : List Nat} {f a : Nat} {os : List Ord} {ps : List Nat} (h : a < ns.length) (he : (oneT (ns.drop a)).2.2 ≠ 0) : scanF ns (f + 1) a os ps = (os, ps, a, (oneT (ns.drop a)).2.2) := by
  simp only [scanF]; rw [if_pos h, if_pos he]
theorem scanF_ok {ns : List Nat} {f a : Nat} {os : List Ord} {ps : List Nat} (h : a < ns.length) (he : (oneT (ns.drop a)).2.2 = 0) : scanF ns (f + 1) a os ps = scanF ns f (a + (oneT (ns.drop a)).2.1) (os ++ [(oneT (ns.drop a)).1]) (ps ++ [a]) := by
  simp only [scanF]; rw [if_pos h, if_neg (by rw [he]; simp)]
theorem one_len {ns : List Nat} (he : (oneT ns).2.2 = 0) : 6 ≤ (oneT ns).2.1 ∧ (oneT ns).2.1 ≤ ns.length := by
  unfold oneT at he ⊢
  split at he
  · cases he
  · rename_i h1
    rw [if_neg h1]
    split at he
    · cases he
    · rename_i h2
      rw [if_neg h2]
      split at he
      · rename_i h3
        rw [if_pos h3]
        simp only
        unfold lenF at h2 ⊢
        omega
      · cases he
def flatO (os : List Ord) (vs : List Value) : List Value := (os.zip vs).flatMap fun p => ordCells p.1 p.2
theorem flatO_snoc (os : List Ord) (vs : List Value) (o : Ord) (v : Value) (h : os.length = vs.length) : flatO (os ++ [o]) (vs ++ [v]) = flatO os vs ++ ordCells o v := by
  unfold flatO
  rw [List.zip_append h, List.flatMap_append]
  simp
theorem flatO_len (os : List Ord) (vs : List Value) (h : os.length = vs.length) : (flatO os vs).length = os.length * 18 := by
  induction os generalizing vs with
  | nil => simp [flatO]
  | cons o os ih =>
    cases vs with
    | nil => cases h
    | cons v vs =>
      have q := ih vs (by simpa using h)
      show (ordCells o v ++ flatO os vs).length = _
      rw [List.length_append, q, ordCells_len, List.length_cons]; omega
/-- orders that are owned, with their offers -/
structure OrdsOwn (w : World) (B : Nat) (v : Value) (os : List Ord) (vs : List Value) : Prop where
  l : os.length = vs.length
  row : w.ownsRow B 29 18 v os.length (flatO os vs)
  offs : ∀ i, i < os.length → w.ownsRow B 93 2 (vs.getD i undef) (os.getD i (zeroO 0)).offs.length (flatF (os.getD i (zeroO 0)).offs)
theorem OrdsOwn.nil (w : World) (B : Nat) : OrdsOwn w B (.slice none 0 0) [] [] := ⟨rfl, ⟨rfl, .inl ⟨rfl, rfl⟩⟩, fun i hi => by cases hi⟩
theorem OrdsOwn.keep {w w' : World} {B : Nat} {v : Value} {os : List Ord} {vs : List Value} (h : OrdsOwn w B v os vs) (hk : ∀ k, B ≤ k → k < w.heap.size → w'.heap[k]? = w.heap[k]?) : OrdsOwn w' B v os vs :=
  ⟨h.l, own_same h.row (fun k hq hlt => hk k (h.row.lt k hq).1 hlt), fun i hi => own_same (h.offs i hi) (fun k hq hlt => hk k ((h.offs i hi).lt k hq).1 hlt)⟩
theorem OrdsOwn.below {w w' : World} {B : Nat} {v : Value} {os : List Ord} {vs : List Value} (h : OrdsOwn w B v os vs) (hb : Below w.heap.size w w') : OrdsOwn w' B v os vs := h.keep (fun k _ hlt => hb.block k hlt)
theorem OrdsOwn.lower {w : World} {B B2 : Nat} {v : Value} {os : List Ord} {vs : List Value} (h : OrdsOwn w B v os vs) (hB : B2 ≤ B) : OrdsOwn w B2 v os vs := ⟨h.l, own_lower h.row hB, fun i hi => own_lower (h.offs i hi) hB⟩
theorem getD_app {α : Type} {l : List α} {x d : α} {i : Nat} (hi : i < l.length) : (l ++ [x]).getD i d = l.getD i d := by
  rw [List.getD_eq_getElem?_getD, List.getD_eq_getElem?_getD, List.getElem?_append_left hi]
theorem getD_last {α : Type} {l : List α} {x d : α} : (l ++ [x]).getD l.length d = x := by
  rw [List.getD_eq_getElem?_getD, List.getElem?_append_right (Nat.le_refl _)]; simp
/-- one order more -/
theorem OrdsOwn.snoc {w w' : World} {B : Nat} {v v' : Value} {os : List Ord} {vs : List Value} {o : Ord} {ov : Value} (h : OrdsOwn w B v os vs) (hov : w.ownsRow B 93 2 ov o.offs.length (flatF o.offs)) (hr : w'.ownsRow B 29 18 v' (os.length + 1) (flatO os vs ++ ordCells o ov)) (hg : w.grownBy w' v.ownBlock) : OrdsOwn w' B v' (os ++ [o]) (vs ++ [ov]) := by
  refine ⟨by simp [h.l], ?_, fun i hi => ?_⟩
  · rw [flatO_snoc os vs o ov h.l, List.length_append]; exact hr
  · rw [List.length_append, List.length_singleton] at hi
    by_cases e : i < os.length
    · rw [getD_app e, getD_app (by rw [← h.l]; exact e)]
      exact own_apart h.row (h.offs i e) (by decide) hg
    · obtain rfl : i = os.length := by omega
      rw [getD_last]
      have q : (vs ++ [ov]).getD os.length undef = ov := by rw [h.l]; exact getD_last
      rw [q]
      exact own_apart h.row hov (by decide) hg
def placeV (ps : List Nat) : List Value := ps.map fun (x : Nat) => Value.int .i64 (x : Int)
def bookedV (v p : Value) (good : Nat) (why : Int) : List Value := [v, p, .int .i64 (good : Int), .int .i64 why]
/-- a Booked in a box -/
structure BookBox (w : World) (X : Nat) (v p : Value) (good : Nat) (why : Int) : Prop where
  c : ∀ j, j < 4 → w.cell? ⟨X, j, none⟩ = (bookedV v p good why)[j]?
  f : ∀ j, w.frozen? ⟨X, j, none⟩ = false
theorem BookBox.lt {w : World} {X : Nat} {v p : Value} {good : Nat} {why : Int} (h : BookBox w X v p good why) : X < w.heap.size := World.block_lt_of_cell? w _ (h.c 0 (by decide))
theorem BookBox.stays {w w' : World} {X : Nat} {v p : Value} {good : Nat} {why : Int} (h : BookBox w X v p good why) (hs : w'.heap[X]? = w.heap[X]?) : BookBox w' X v p good why := ⟨fun j hj => (World.cell?_of_block (a := ⟨X, j, none⟩) hs).trans (h.c j hj), fun j => (World.frozen?_of_block (a := ⟨X, j, none⟩) hs).trans (h.f j)⟩
theorem BookBox.range {w : World} {X : Nat} {v p : Value} {good : Nat} {why : Int} (h : BookBox w X v p good why) : w.rangeAt X 0 (bookedV v p good why) := fun j u hu => by
  rw [Nat.zero_add, h.c j (by have := (List.getElem?_eq_some_iff.1 hu).1; exact this)]; exact hu
theorem BookBox.there {w : World} {X : Nat} {v p : Value} {good : Nat} {why : Int} (h : BookBox w X v p good why) : w.there X 0 4 := fun j hj => ⟨by
  rw [Nat.zero_add, h.c j hj]
  rw [List.getElem?_eq_getElem (by exact hj)]; rfl, h.f _⟩
theorem book_made (w : World) : BookBox (w.alloc (.cells #[.slice none 0 0, .slice none 0 0, .int .i64 0, .int .i64 0] 53)) w.heap.size (.slice none 0 0) (.slice none 0 0) 0 0 := by
  refine ⟨fun j hj => ?_, fun j => by simp [go_sem]⟩
  obtain rfl | rfl | rfl | rfl : j = 0 ∨ j = 1 ∨ j = 2 ∨ j = 3 := by omega
  all_goals simp [go_sem, bookedV]
theorem BookBox.set {w : World} {X : Nat} {v p v2 p2 : Value} {good good2 : Nat} {why why2 : Int} (h : BookBox w X v p good why) {j : Nat} (hj : j < 4) {u : Value} (e : (bookedV v p good why).set j u = bookedV v2 p2 good2 why2) : BookBox (w.setCell ⟨X, j, none⟩ u) X v2 p2 good2 why2 := by
  refine ⟨fun i hi => ?_, fun i => (World.frozen?_setCell _ _ _ _).trans (h.f i)⟩
  rw [← e]
  by_cases e2 : j = i
  · subst e2
    rw [World.cell?_setCell_same' _ _ _ (by rw [h.c j hj, List.getElem?_eq_getElem (by exact hj)]; rfl), List.getElem?_set_self (by exact hj)]
  · rw [World.cell?_setCell_other _ _ _ _ (by intro e3; injection e3 with _ e3; exact e2 e3), List.getElem?_set_ne e2]
    exact h.c i hi
/-- Scan under way -/
structure SSt (w wr : World) (a : Nat) (os : List Ord) (ps : List Nat) (v p : Value) (why : Int) (vs : List Value) : Prop where
  b : Below w.heap.size w wr
  th : wr.there w.heap.size 0 4
  x : BookBox wr (w.heap.size + 1) v p a why
  o : OrdsOwn wr (w.heap.size + 2) v os vs
  p_ : wr.ownsRow (w.heap.size + 2) 3 1 p ps.length (placeV ps)
theorem SSt.sz {w wr : World} {a : Nat} {os : List Ord} {ps : List Nat} {v p : Value} {why : Int} {vs : List Value} (h : SSt w wr a os ps v p why vs) : w.heap.size + 2 ≤ wr.heap.size := h.x.lt
theorem SSt.grow {w wr w' : World} {a : Nat} {os : List Ord} {ps : List Nat} {v p : Value} {why : Int} {vs : List Value} (h : SSt w wr a os ps v p why vs) (hb : Below wr.heap.size wr w') : SSt w w' a os ps v p why vs :=
  ⟨bstep h.b hb, there_stays h.th (hb.block _ (there_lt h.th (by decide))), h.x.stays (hb.block _ h.x.lt), h.o.below hb, own_below h.p_ hb⟩
/-- a cell of the Booked is written -/
theorem SSt.put {w wr : World} {a a2 : Nat} {os : List Ord} {ps : List Nat} {v p v2 p2 : Value} {why why2 : Int} {vs : List Value} (h : SSt w wr a os ps v p why vs) {w2 : World} (hb : Below (w.heap.size + 2) wr w2) {os2 : List Ord} {ps2 : List Nat} {vs2 : List Value} (ho : OrdsOwn w2 (w.heap.size + 2) v2 os2 vs2) (hp : w2.ownsRow (w.heap.size + 2) 3 1 p2 ps2.length (placeV ps2)) {j : Nat} (hj : j < 4) {u : Value} (e : (bookedV v p a why).set j u = bookedV v2 p2 a2 why2) : SSt w (w2.setCell ⟨w.heap.size + 1, j, none⟩ u) a2 os2 ps2 v2 p2 why2 vs2 := by
  have st : ∀ i, i ≠ w.heap.size + 1 → (w2.setCell ⟨w.heap.size + 1, j, none⟩ u).heap[i]? = w2.heap[i]? := fun i hi => heap_setCell_other _ _ _ _ hi
  exact ⟨(below_up h.b hb (by omega)).setCell (p := ⟨w.heap.size + 1, j, none⟩) (by simp) _, there_stays h.th ((st _ (by omega)).trans (hb.block _ (by omega))), (h.x.stays (hb.block _ (by omega))).set hj e, ho.keep (fun k hk _ => st k (by omega)), own_same hp (fun k hk _ => st k (by have := (hp.lt k hk).1; omega))⟩
end Go.Proofs.Ytalnipjaekpbhaa

