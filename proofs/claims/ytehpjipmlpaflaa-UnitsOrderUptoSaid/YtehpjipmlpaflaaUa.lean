import Derived.Test.YtehpjipmlpaflaaU9
import Derived.Sort.CutIn
import Derived.WalkMore
namespace Go.Proofs.Ytehpjipmlpaflaa.un
open Go.ChangeShapes Go.WideShapes Go.ChangeAt Go.RowKit Go.Deep Go.Shelf
set_option linter.unusedSimpArgs false
set_option linter.unusedVariables false

attribute [local go_sem] Oper.semAt_some

theorem wpIn_scope_wide {n : Nat} {P : Program} {c : Code} {Q : Exit → Act → World → Prop} {a : Act} {w : World} (h : c.wpIn Fence.wide n P (Exit.noGoto Q) a w) : (Code.scope c).wpIn Fence.wide n P Q a w :=
  wpIn_wide.2 (wp_scope_straight (wpIn_wide.1 h))
/-- how many units of bid b -/
def cnt (pre : List U) (b : Nat) : Nat := pre.countP (fun x => decide (x.1 = (b : Int)))
def wonI (n : Nat) (pre : List U) : List Int := (List.range n).map (fun b => (cnt pre b : Int))
theorem wonI_len (n : Nat) (pre : List U) : (wonI n pre).length = n := by simp [wonI]
theorem cnt_le (pre : List U) (b : Nat) : cnt pre b ≤ pre.length := List.countP_le_length
theorem cnt_snoc (pre : List U) (x : U) (b : Nat) : cnt (pre ++ [x]) b = cnt pre b + if x.1 = (b : Int) then 1 else 0 := by
  unfold cnt
  rw [List.countP_append]
  simp [List.countP_cons]
theorem wonI_set (n : Nat) (pre : List U) (x : U) (b : Nat) (hb : b < n) (hx : x.1 = (b : Int)) : ((wonI n pre).map I64).set b (I64 ((cnt pre b : Int) + 1)) = (wonI n (pre ++ [x])).map I64 := by
  refine List.ext_getElem (by simp [wonI]) (fun k h1 h2 => ?_)
  rw [List.getElem_set]
  simp only [wonI, List.getElem_map, List.getElem_range, cnt_snoc]
  split
  · rename_i e
    subst e
    rw [if_pos hx]
    simp
  · rename_i e
    rw [if_neg (by rw [hx]; omega)]
    simp
theorem wonI_at (n : Nat) (pre : List U) (b : Nat) (hb : b < n) : ((wonI n pre).map I64)[b]? = some (I64 (cnt pre b : Int)) := by
  simp [wonI, hb]
theorem made_wonI (n : Nat) : (madeCells #[Value.int .i64 0] n).toList = (wonI n []).map I64 := by
  refine List.ext_getElem (by simp [wonI, madeCells]) (fun k h1 h2 => ?_)
  simp [madeCells, wonI, cnt, Nat.mod_one]
theorem own_make (w : World) (base n : Nat) (hb : base ≤ w.heap.size) (hn : n ≤ 4096) : (w.alloc (.cells (madeCells #[Value.int .i64 0] n) 3)).ownsRow base 3 1 (.slice (some ⟨w.heap.size, 0, none⟩) n n) n ((wonI n []).map I64) := by
  have := World.ownsRow_lit (e := 3) (size := 1) w (madeCells #[Value.int .i64 0] n) n hb (by unfold maxLen; omega) (by simp [madeCells])
  rwa [made_wonI] at this
/-- what the sale's boxes hold: count, floor, the result, the sale, how many; G: what each has won -/
structure SB (C F R S B G base : Nat) (count floor : Int) (n : Nat) (pre : List U) (W : World) : Prop where
  cc : W.cell? ⟨C, 0, none⟩ = some (.int .i64 count)
  cf : W.cell? ⟨F, 0, none⟩ = some (.int .i64 floor)
  cr : ∀ o, W.cell? ⟨R, o, none⟩ = (#[Value.int .i64 0, .slice none 0 0, .int .i64 0] : Array Value)[o]?
  fr : ∀ o, W.frozen? ⟨R, o, none⟩ = false
  cs : ∀ o, W.cell? ⟨S, o, none⟩ = (#[Value.int .i64 floor, .slice (some ⟨G, 0, none⟩) n n, .int .i64 (-1)] : Array Value)[o]?
  fs : ∀ o, W.frozen? ⟨S, o, none⟩ = false
  cb : W.cell? ⟨B, 0, none⟩ = some (.int .i64 (pre.length : Int))
  fb : W.frozen? ⟨B, 0, none⟩ = false
  own : W.ownsRow base 3 1 (.slice (some ⟨G, 0, none⟩) n n) n ((wonI n pre).map I64)
theorem own_old {w w' : World} {base : Nat} {e : TypeId} {size g n cap : Nat} {xs : List Value} (h : w.ownsRow base e size (.slice (some ⟨g, 0, none⟩) n cap) n xs) (hb : w'.heap[g]? = w.heap[g]?) : w'.ownsRow base e size (.slice (some ⟨g, 0, none⟩) n cap) n xs := by
  refine ⟨h.1, ?_⟩
  rcases h.2 with q | ⟨g', cap', cur, hv, h2, h3, h4⟩
  · exact .inl q
  · obtain ⟨rfl, rfl⟩ : g = g' ∧ cap = cap' := by (injection hv with e1 e2 e3; injection e1 with e1; injection e1 with e1; exact ⟨e1, e3⟩)
    exact .inr ⟨g, cap, cur, rfl, h2, hb.trans h3, h4⟩
theorem SB.old {C F R S B G base : Nat} {count floor : Int} {n : Nat} {pre : List U} {D : Nat} {W W' : World} (h : SB C F R S B G base count floor n pre W) (h1 : C < D) (h2 : F < D) (h3 : R < D) (h4 : S < D) (h5 : B < D) (h6 : G < D) (hb : ∀ b, b < D → W'.heap[b]? = W.heap[b]?) : SB C F R S B G base count floor n pre W' :=
  ⟨(World.cell?_of_block (a := ⟨C, 0, none⟩) (hb _ h1)).trans h.cc, (World.cell?_of_block (a := ⟨F, 0, none⟩) (hb _ h2)).trans h.cf, fun o => (World.cell?_of_block (a := ⟨R, o, none⟩) (hb _ h3)).trans (h.cr o), fun o => (World.frozen?_of_block (a := ⟨R, o, none⟩) (hb _ h3)).trans (h.fr o),
    fun o => (World.cell?_of_block (a := ⟨S, o, none⟩) (hb _ h4)).trans (h.cs o), fun o => (World.frozen?_of_block (a := ⟨S, o, none⟩) (hb _ h4)).trans (h.fs o), (World.cell?_of_block (a := ⟨B, 0, none⟩) (hb _ h5)).trans h.cb, (World.frozen?_of_block (a := ⟨B, 0, none⟩) (hb _ h5)).trans h.fb, own_old h.own (hb _ h6)⟩
theorem keeps_set {W : World} {b o o' : Nat} {u v : Value} (hc : W.cell? ⟨b, o', none⟩ = some u) : KeepsOthers W (W.setCell ⟨b, o, none⟩ v) :=
  ⟨by simp, fun i ob hi ho => (heap_setCell_other _ _ _ _ (fun e => by
    have e' : i = b := e
    subst e'
    simp only [World.cell?, hi] at hc
    cases ob <;> simp_all [Obj.isCells])).trans hi⟩
theorem keeps_set' {W V : World} {b o o' : Nat} {u v : Value} (h : KeepsOthers W V) (hc : W.cell? ⟨b, o', none⟩ = some u) : KeepsOthers W (V.setCell ⟨b, o, none⟩ v) :=
  ⟨by rw [World.size_setCell]; exact h.size, fun i ob hi ho => (heap_setCell_other _ _ _ _ (fun e => by
    have e' : i = b := e
    subst e'
    simp only [World.cell?, hi] at hc
    cases ob <;> simp_all [Obj.isCells])).trans (h.same i ob hi ho)⟩
/-- the sale when its loop is over -/
structure SE (R S G base : Nat) (price next : Int) (n : Nat) (pre : List U) (W : World) : Prop where
  cr : ∀ o, W.cell? ⟨R, o, none⟩ = (#[Value.int .i64 0, .slice none 0 0, .int .i64 0] : Array Value)[o]?
  fr : ∀ o, W.frozen? ⟨R, o, none⟩ = false
  cs : ∀ o, W.cell? ⟨S, o, none⟩ = (#[Value.int .i64 price, .slice (some ⟨G, 0, none⟩) n n, .int .i64 next] : Array Value)[o]?
  own : W.ownsRow base 3 1 (.slice (some ⟨G, 0, none⟩) n n) n ((wonI n pre).map I64)
theorem SE.old {R S G base : Nat} {price next : Int} {n : Nat} {pre : List U} {D : Nat} {W W' : World} (h : SE R S G base price next n pre W) (h3 : R < D) (h4 : S < D) (h6 : G < D) (hb : ∀ b, b < D → W'.heap[b]? = W.heap[b]?) : SE R S G base price next n pre W' :=
  ⟨fun o => (World.cell?_of_block (a := ⟨R, o, none⟩) (hb _ h3)).trans (h.cr o), fun o => (World.frozen?_of_block (a := ⟨R, o, none⟩) (hb _ h3)).trans (h.fr o),
    fun o => (World.cell?_of_block (a := ⟨S, o, none⟩) (hb _ h4)).trans (h.cs o), own_old h.own (hb _ h6)⟩
theorem SB.se {C F R S B G base : Nat} {count floor : Int} {n : Nat} {pre : List U} {W : World} (h : SB C F R S B G base count floor n pre W) : SE R S G base floor (-1) n pre W := ⟨h.cr, h.fr, h.cs, h.own⟩
theorem far2 (W : World) (G NB o1 o2 : Nat) (u v : Value) (k : Nat) (h1 : k ≠ G) (h2 : k ≠ NB) : ((W.setCell ⟨G, o1, none⟩ u).setCell ⟨NB, o2, none⟩ v).heap[k]? = W.heap[k]? := by
  rw [heap_setCell_other _ _ _ _ (by simpa using h2), heap_setCell_other _ _ _ _ (by simpa using h1)]
theorem SB.next {C F R S B G base : Nat} {count floor : Int} {n : Nat} {pre : List U} {W : World} (h : SB C F R S B G base count floor n pre W) (x : U) (b : Nat) (hb : b < n) (hx : x.1 = (b : Int))
    (h1 : C ≠ G) (h2 : F ≠ G) (h3 : R ≠ G) (h4 : S ≠ G) (h5 : B ≠ G) (h6 : C ≠ B) (h7 : F ≠ B) (h8 : R ≠ B) (h9 : S ≠ B) : SB C F R S B G base count floor n (pre ++ [x]) ((W.setCell ⟨G, b, none⟩ (.int .i64 ((cnt pre b : Int) + 1))).setCell ⟨B, 0, none⟩ (.int .i64 ((pre.length : Int) + 1))) := by
  have e : ∀ k, k ≠ G → k ≠ B → ((W.setCell ⟨G, b, none⟩ (.int .i64 ((cnt pre b : Int) + 1))).setCell ⟨B, 0, none⟩ (.int .i64 ((pre.length : Int) + 1))).heap[k]? = W.heap[k]? := fun k => far2 W G B b 0 _ _ k
  refine ⟨(World.cell?_of_block (a := ⟨C, 0, none⟩) (e _ h1 h6)).trans h.cc, (World.cell?_of_block (a := ⟨F, 0, none⟩) (e _ h2 h7)).trans h.cf, fun o => (World.cell?_of_block (a := ⟨R, o, none⟩) (e _ h3 h8)).trans (h.cr o), fun o => (World.frozen?_of_block (a := ⟨R, o, none⟩) (e _ h3 h8)).trans (h.fr o),
    fun o => (World.cell?_of_block (a := ⟨S, o, none⟩) (e _ h4 h9)).trans (h.cs o), fun o => (World.frozen?_of_block (a := ⟨S, o, none⟩) (e _ h4 h9)).trans (h.fs o), ?_, by rw [World.frozen?_setCell, World.frozen?_setCell]; exact h.fb, ?_⟩
  · rw [List.length_append, List.length_singleton]
    refine World.cell?_setCell_same' _ _ _ ?_
    rw [World.cell?_setCell_far _ _ _ _ (by simpa using Ne.symm h5), h.cb]
    rfl
  · have q := (h.own.stored b (.int .i64 ((cnt pre b : Int) + 1))).1
    rw [wonI_set n pre x b hb hx] at q
    exact own_old q (heap_setCell_other _ _ _ _ (by simpa using Ne.symm h5))
theorem SB.out {C F R S B G base : Nat} {count floor : Int} {n : Nat} {pre : List U} {W : World} (h : SB C F R S B G base count floor n pre W) (p q : Int) (h3 : R ≠ S) (h4 : S ≠ G) : SE R S G base p q n pre ((W.setCell ⟨S, 0, none⟩ (.int .i64 p)).setCell ⟨S, 2, none⟩ (.int .i64 q)) := by
  have e : ∀ k, k ≠ S → ((W.setCell ⟨S, 0, none⟩ (.int .i64 p)).setCell ⟨S, 2, none⟩ (.int .i64 q)).heap[k]? = W.heap[k]? := fun k hk => far2 W S S 0 2 _ _ k hk hk
  refine ⟨fun o => (World.cell?_of_block (a := ⟨R, o, none⟩) (e _ h3)).trans (h.cr o), fun o => (World.frozen?_of_block (a := ⟨R, o, none⟩) (e _ h3)).trans (h.fr o), fun o => ?_, own_old h.own (e _ (Ne.symm h4))⟩
  have q0 := h.cs 0
  have q2 := h.cs 2
  have qo := h.cs o
  simp at q0 q2
  rcases o with _ | _ | _ | o
  · simp [go_sem, q0]
  · simp [go_sem]; simpa using qo
  · simp [go_sem, q2]
  · simp [go_sem]; simpa using qo
theorem unit_of {L : List (List Int)} {count floor : Int} (h : May count floor L) {pre rest : List U} {x : U} (e : ordT L = pre ++ x :: rest) : ∃ b : Nat, b < L.length ∧ x.1 = (b : Int) ∧ floor ≤ x.2.2 := by
  have hm : x ∈ ordT L := by rw [e]; simp
  obtain ⟨b, q, hb, -, hq, rfl⟩ := ((ordT_rest L).are x).1 hm
  refine ⟨b, hb, rfl, Int.le_trans (h.over b hb) ?_⟩
  exact (h.formed b hb).last_le q hq
theorem stays_old' {β : Type} {B : Nat} {I : β → World → Prop} (h : ∀ s W W', (∀ b, b < B → W'.heap[b]? = W.heap[b]?) → I s W → I s W') : Stays B (fun s W => B ≤ W.heap.size ∧ I s W) :=
  fun s W W' hs hb => ⟨Nat.le_trans hs.1 hb.size, h s W W' (fun b hlt => hb.block b hlt) hs.2⟩
def priceOf (T : List U) (count floor : Int) : Int := if (T.length : Int) ≤ count then floor else (get T count.toNat).2.2
def nextOf (T : List U) (count : Int) : Int := if (T.length : Int) ≤ count then -1 else (get T count.toNat).1
theorem info28 : (Try.prog.info? 3).map (fun i => (i.zero, i.size, i.bytes)) = some (some (.int .i64 0), 1, 8) := by kernel_rfl
set_option maxRecDepth 100000 in
set_option maxHeartbeats 4000000 in
theorem Sell_no (count floor : Int) (so : Option Addr) (cap : Nat) (L : List (List Int)) (v : Int) (w : World) (hb : BRows so L w) (hw : WrongIs count floor L v) (hv : v ≠ 0) :
    Calls Try.prog 12 #[.int .i64 count, .int .i64 floor, .slice so L.length cap] w fun e w' => e = .returned (.tuple #[.agg #[.int .i64 0, .slice none 0 0, .int .i64 0], .int .i64 v]) ∧ Below w.heap.size w w' := by
  refine (callsIn_wide (n := 3)).1 ?_
  refine callsIn_of_wp_marks Try.func12 rfl trivial ?_ rfl
  simp only [Try.ntmps12, List.size_toArray, List.length_cons, List.length_nil, Nat.reduceAdd, Nat.reduceSub, Array.replicate_succ, Array.replicate_zero, List.push_toArray, List.append_toArray, List.nil_append, List.cons_append]
  have HB := hide hb
  have HW := hide hw
  have hv2 : decide (v = 0) = false := by simp [hv]
  have hv3 : (v == 0) = false := by simp [hv]
  have hv4 : (v != 0) = true := by simp [hv]
  clear hb hw hv
  gi_wp2_with fail
  refine wpIn_scope_wide ?_
  gi_wp2_with fail
  refine (callsIn_wide.2 (wrong_is HW.out _ (HB.out.below (by (focus repeat' (first | (with_reducible exact Below.refl _ _) | (with_reducible assumption) | (with_reducible refine Below.alloc ?_ ?_ _) | (with_reducible refine Below.drew ?_) | (with_reducible refine bdrewN ?_ _) | (with_reducible refine Below.setCell ?_ ?_ _) | (first | (with_reducible exact Nat.le_refl _) | (with_reducible assumption) | omega | (simp; omega) | (simp; done)))))))).mono ?_
  rintro e w5 ⟨rfl, rfl⟩
  gi_wp2
  rw [Exit.noGoto_ret]
  refine ⟨.tuple #[.agg #[.int .i64 0, .slice none 0 0, .int .i64 0], .int .i64 v], ?_, rfl, by (focus repeat' (first | (with_reducible exact Below.refl _ _) | (with_reducible assumption) | (with_reducible refine Below.alloc ?_ ?_ _) | (with_reducible refine Below.drew ?_) | (with_reducible refine bdrewN ?_ _) | (with_reducible refine Below.setCell ?_ ?_ _) | (first | (with_reducible exact Nat.le_refl _) | (with_reducible assumption) | omega | (simp; omega) | (simp; done))))⟩
  simp [results, Try.f12, go_sem]
set_option maxRecDepth 100000 in
set_option maxHeartbeats 4000000 in
theorem Sell_yes (count floor : Int) (so : Option Addr) (cap : Nat) (L : List (List Int)) (w : World) (hb : BRows so L w) (hw : WrongIs count floor L 0) :
    Calls Try.prog 12 #[.int .i64 count, .int .i64 floor, .slice so L.length cap] w fun e w' => (∃ G, e = .returned (.tuple #[.agg #[.int .i64 (priceOf (ordT L) count floor), .slice (some ⟨G, 0, none⟩) L.length L.length, .int .i64 (nextOf (ordT L) count)], .int .i64 0]) ∧ w'.ownsRow w.heap.size 3 1 (.slice (some ⟨G, 0, none⟩) L.length L.length) L.length ((wonI L.length ((ordT L).take count.toNat)).map I64)) ∧ Below w.heap.size w w' := by
  refine (callsIn_wide (n := 3)).1 ?_
  refine callsIn_of_wp_marks Try.func12 rfl trivial ?_ rfl
  simp only [Try.ntmps12, List.size_toArray, List.length_cons, List.length_nil, Nat.reduceAdd, Nat.reduceSub, Array.replicate_succ, Array.replicate_zero, List.push_toArray, List.append_toArray, List.nil_append, List.cons_append]
  have HB := hide hb
  have HW := hide hw
  have hLL := hw.may.len
  have hmk := run_make_row' (P := Try.prog) 28 3 (.int .i64 0) 8 Try.underlying28 info28 rfl .i64 .i64 L.length (by omega) (by omega)
  clear hb hw
  gi_wp2_with fail
  refine wpIn_scope_wide ?_
  gi_wp2_with fail
  refine (callsIn_wide.2 (wrong_is HW.out _ (HB.out.below (by (focus repeat' (first | (with_reducible exact Below.refl _ _) | (with_reducible assumption) | (with_reducible refine Below.alloc ?_ ?_ _) | (with_reducible refine Below.drew ?_) | (with_reducible refine bdrewN ?_ _) | (with_reducible refine Below.setCell ?_ ?_ _) | (first | (with_reducible exact Nat.le_refl _) | (with_reducible assumption) | omega | (simp; omega) | (simp; done)))))))).mono ?_
  rintro e w5 ⟨rfl, rfl⟩
  gi_wp2_with fail
  obtain ⟨W3, hW3⟩ : ∃ W3, W3 = ((w.alloc (.cells #[.int .i64 count] 3)).alloc (.cells #[.int .i64 floor] 2)).alloc (.cells #[.int .i64 0, .slice none 0 0, .int .i64 0] 30) := ⟨_, rfl⟩
  rw [← hW3]
  have hb3 : Below w.heap.size w W3 := by rw [hW3]; (focus repeat' (first | (with_reducible exact Below.refl _ _) | (with_reducible assumption) | (with_reducible refine Below.alloc ?_ ?_ _) | (with_reducible refine Below.drew ?_) | (with_reducible refine bdrewN ?_ _) | (with_reducible refine Below.setCell ?_ ?_ _) | (first | (with_reducible exact Nat.le_refl _) | (with_reducible assumption) | omega | (simp; omega) | (simp; done))))
  have hz3 : W3.heap.size = w.heap.size + 3 := by rw [hW3]; simp
  have HF3 := hide (show W3.cell? ⟨w.heap.size + 1, 0, none⟩ = some (.int .i64 floor) from by rw [hW3]; simp [go_sem])
  have HC3 := hide (show W3.cell? ⟨w.heap.size, 0, none⟩ = some (.int .i64 count) from by rw [hW3]; simp [go_sem])
  have HR3 := hide (show ∀ o, W3.cell? ⟨w.heap.size + 2, o, none⟩ = (#[Value.int .i64 0, .slice none 0 0, .int .i64 0] : Array Value)[o]? from fun o => by rw [hW3]; simp [go_sem])
  have FR3 := hide (show ∀ o, W3.frozen? ⟨w.heap.size + 2, o, none⟩ = false from fun o => by rw [hW3]; simp [go_sem])
  have HB3 := hide hb3
  have f3 := HF3.out
  clear hW3 hb3
  gi_cut [9] from 52 (fun v9 wx => ∃ S G, v9 = .pointer (some ⟨S, 0, none⟩) ∧ w.heap.size + 3 ≤ S ∧ S < wx.heap.size ∧ w.heap.size + 3 ≤ G ∧ G < wx.heap.size ∧ S ≠ G ∧ (∀ o, wx.cell? ⟨S, o, none⟩ = (#[Value.int .i64 floor, .slice (some ⟨G, 0, none⟩) L.length L.length, .int .i64 (-1)] : Array Value)[o]?) ∧ (∀ o, wx.frozen? ⟨S, o, none⟩ = false) ∧ wx.ownsRow w.heap.size 3 1 (.slice (some ⟨G, 0, none⟩) L.length L.length) L.length ((wonI L.length []).map I64) ∧ Below W3.heap.size W3 wx)
  case first =>
    gi_region
    all_goals
      gi_wp2_with fail
      gi_meet
    · have own := own_make W3 w.heap.size L.length (by omega) hLL
      rw [hz3] at own
      have hb4 : Below W3.heap.size W3 (W3.alloc (.cells (madeCells #[.int .i64 0] L.length) 3)) := (Below.refl _ _).alloc (Nat.le_refl _) _
      refine ⟨w.heap.size + 3 + 1, w.heap.size + 3, rfl, by omega, by (simp; omega), by omega, by (simp; omega), by omega, fun o => by simp [go_sem, hz3], fun o => by simp [go_sem, hz3], own_bel own ((Below.refl _ _).alloc (Nat.le_refl _) _).drew, (hb4.alloc (by simp) _).drew⟩
    · have own := own_make (W3.alloc (.cells #[.int .i64 floor, .slice (some ⟨w.heap.size + 3 + 1, 0, none⟩) L.length L.length, .int .i64 (-1)] 30)) w.heap.size L.length (by simp; omega) hLL
      rw [World.size_alloc, hz3] at own
      have hb4 : Below W3.heap.size W3 (W3.alloc (.cells #[.int .i64 floor, .slice (some ⟨w.heap.size + 3 + 1, 0, none⟩) L.length L.length, .int .i64 (-1)] 30)) := (Below.refl _ _).alloc (Nat.le_refl _) _
      refine ⟨w.heap.size + 3, w.heap.size + 3 + 1, rfl, by omega, by (simp; omega), by omega, by (simp; omega), by omega, fun o => by simp [go_sem, hz3], fun o => by simp [go_sem, hz3], own_bel own (Below.refl _ _).drew, (hb4.alloc (by simp) _).drew⟩
  case rest =>
    obtain ⟨S, G, rfl, hS0, hSz, hG0, hGz, hSG, hcs, hfs, own, hb4⟩ := hcut
    have hz4 := hb4.size
    obtain ⟨W5, hW5⟩ : ∃ W5, W5 = wc.alloc (.cells #[.int .i64 0] 3) := ⟨_, rfl⟩
    have hb5 : Below wc.heap.size wc W5 := by rw [hW5]; exact (Below.refl _ _).alloc (Nat.le_refl _) _
    have hz5 : W5.heap.size = wc.heap.size + 1 := by rw [hW5]; simp
    have hb35 : Below W3.heap.size W3 W5 := bstep hb4 hb5
    obtain ⟨NB, hNB⟩ : ∃ NB, NB = wc.heap.size := ⟨_, rfl⟩
    have c5 : W5.cell? ⟨w.heap.size, 0, none⟩ = some (.int .i64 count) := (hb35.cell (p := ⟨w.heap.size, 0, none⟩) (show w.heap.size < W3.heap.size by omega)).trans HC3.out
    have f5 : W5.cell? ⟨w.heap.size + 1, 0, none⟩ = some (.int .i64 floor) := (hb35.cell (p := ⟨w.heap.size + 1, 0, none⟩) (show w.heap.size + 1 < W3.heap.size by omega)).trans f3
    have HS5 := hide (show SB w.heap.size (w.heap.size + 1) (w.heap.size + 2) S NB G w.heap.size count floor L.length [] W5 from
      ⟨c5, f5, fun o => (hb35.cell (p := ⟨w.heap.size + 2, o, none⟩) (show w.heap.size + 2 < W3.heap.size by omega)).trans (HR3.out o), fun o => (hb35.frozen (p := ⟨w.heap.size + 2, o, none⟩) (show w.heap.size + 2 < W3.heap.size by omega)).trans (FR3.out o),
        fun o => (hb5.cell (p := ⟨S, o, none⟩) hSz).trans (hcs o), fun o => (hb5.frozen (p := ⟨S, o, none⟩) hSz).trans (hfs o), by rw [hW5, hNB]; simp [go_sem], by rw [hW5, hNB]; simp [go_sem], own_bel own hb5⟩)
    have HB5 := hide (bstep HB3.out hb35)
    have HW5 := hide hW5
    rw [hW5] at c5 f5
    clear hW5 hb35 hb5 hcs hfs own hb4 f3 HC3 HR3 FR3 HF3 HB3
    gi_wp2_with fail
    refine wpIn_label ?_
    gi_wp2_with fail
    rw [← HW5.out]
    have HMY := hide HW.out.may
    refine (callsIn_wide.2 (Order_yes count floor so cap L (ordT L) _ (HB.out.below HB5.out) hLL HMY.out.short HMY.out.right (ordT_rest L) (fun w hb => wrong_is HW.out w hb))).mono ?_
    rintro e w6 ⟨lb, K, rfl, hK, hseq, hb6⟩
    have hz6 := hb6.size
    have HS6 := hide (HS5.out.old (D := W5.heap.size) (by omega) (by omega) (by omega) (by omega) (by omega) (by omega) (fun b h => hb6.block b h))
    have HB6 := hide (bstep HB5.out hb6)
    have HKK := hide hK
    have HSQ := hide (hseq 2 (by decide))
    clear hb6 hK hseq HS5 HB5 c5 f5 hmk
    gi_wp2_with fail
    rw [← hNB]
    have hNS : S < NB := by omega
    have hNG : G < NB := by omega
    have hN6 : NB < w6.heap.size := by omega
    have hK1 : ∀ i, K i → NB < i ∧ i < w6.heap.size := fun i hi => by have := HKK.out i hi; omega
    have hsq6 := HSQ.out w6 (.of_below (Below.refl _ _))
    clear HSQ HKK hNB
    refine range_R (n := 3) (by decide) (gf := 31) (lb := lb) rfl (enters_of Try.func31 (by kernel_rfl) rfl)
      hsq6 (fun i hi => (hK1 i hi).2) (Below.refl _ _) (fun _ => rfl)
      (fun pre W => (w6.heap.size ≤ W.heap.size ∧ (pre.length : Int) ≤ count ∧ SB w.heap.size (w.heap.size + 1) (w.heap.size + 2) S NB G w.heap.size count floor L.length pre W) ∧ Below w.heap.size w W)
      (fun c ps W => (w6.heap.size ≤ W.heap.size ∧ c = .exit 0 ∧ ∃ pre x, ps = pre ++ [x] ∧ (pre.length : Int) = count ∧ SE (w.heap.size + 2) S G w.heap.size x.2.2 x.1 L.length pre W) ∧ Below w.heap.size w W)
      ((stays_old' (fun s W W' hb hI => ⟨hI.1, hI.2.old (D := w6.heap.size) (by omega) (by omega) (by omega) (by omega) (by omega) (by omega) hb⟩)).both (stays_below (by omega)))
      (fun c => (stays_old' (fun s W W' hb hI => ⟨hI.1, by
        obtain ⟨pre, x, h1, h2, h3⟩ := hI.2
        exact ⟨pre, x, h1, h2, h3.old (D := w6.heap.size) (by omega) (by omega) (by omega) hb⟩⟩)).both (stays_below (by omega)))
      ⟨⟨Nat.le_refl _, by have := HMY.out.one; simp; omega, HS6.out⟩, HB6.out⟩
      (fun x a' W => ∃ Bx, w6.heap.size + 2 ≤ Bx ∧ Bx < W.heap.size ∧ (∀ o, W.cell? ⟨Bx, o, none⟩ = (#[Value.int .i64 x.1, .int .i64 x.2.1, .int .i64 x.2.2] : Array Value)[o]?) ∧ a' = { tmps := #[.int .i64 count, .int .i64 floor, .slice so L.length cap, .pointer (some ⟨w.heap.size, 0, none⟩), .pointer (some ⟨w.heap.size + 1, 0, none⟩), undef, .pointer (some ⟨w.heap.size + 1 + 1, 0, none⟩), .int .i64 0, .int .i64 0, .pointer (some ⟨S, 0, none⟩), .pointer (some ⟨NB, 0, none⟩), .pointer (some ⟨Bx, 0, none⟩), .int .i64 count, .int .i64 floor, .slice so L.length cap, .int .i64 0, .int .i64 0, .bool false, undef, undef, u20, u21, u22, u23, u24, .int .i64 count, .int .i64 floor, .slice so L.length cap, Value.func (Fn.func 31) #[] lb, .agg #[.int .i64 x.1, .int .i64 x.2.1, .int .i64 x.2.2], undef, undef, undef, undef, undef, undef, undef, undef, undef, undef, undef, undef, undef, undef, undef, undef, undef, undef, undef, undef, undef, undef], defers := [] })
      (fun x a' W o hx => ?_) ?assign ?body ?done ?stop
    case assign =>
      rintro l pre x W K' hI hNx hlt hK
      gi_wp2
      refine hK _ _ (KeepsOthers.alloc _ _) (Fix.of_below ((Below.refl _ _).alloc (Nat.le_refl _) _)) ?_ ⟨W.heap.size, by omega, by simp, fun o => by simp [go_sem], rfl⟩
      have hb := (Below.refl W.heap.size W).alloc (Nat.le_refl _) (.cells #[Value.int .i64 x.1, .int .i64 x.2.1, .int .i64 x.2.2] 52)
      obtain ⟨⟨hz, h1, h2⟩, hB⟩ := hI
      exact ⟨⟨Nat.le_trans hz hb.size, h1, h2.old (D := w6.heap.size) (by omega) (by omega) (by omega) (by omega) (by omega) (by omega) (fun b hlt => hb.block b (by omega))⟩, hB.trans (hb.mono hB.size)⟩
    case body =>
      rintro l pre x a' W ⟨⟨hz, hpc, hSB⟩, hB⟩ ⟨rest, hT⟩ ⟨Bx, hBx0, hBxz, hcx, rfl⟩
      obtain ⟨b, hbL, hxb, hfl⟩ := unit_of HMY.out hT
      obtain ⟨x0, x1, x2⟩ := x
      simp only at hxb hfl
      subst hxb
      have d0 : W.cell? ⟨Bx, 0, none⟩ = some (.int .i64 (b : Int)) := hcx 0
      have d2 : W.cell? ⟨Bx, 2, none⟩ = some (.int .i64 x2) := hcx 2
      have s0 : W.cell? ⟨S, 0, none⟩ = some (.int .i64 floor) := hSB.cs 0
      have s1 : W.cell? ⟨S, 1, none⟩ = some (.slice (some ⟨G, 0, none⟩) L.length L.length) := hSB.cs 1
      have s2 : W.cell? ⟨S, 2, none⟩ = some (.int .i64 (-1)) := hSB.cs 2
      have k0 := hSB.cc
      have k1 := hSB.cf
      have k2 := hSB.cb
      have k3 := hSB.fb
      have k4 := hSB.fs
      have HSB := hide hSB
      have HBW := hide hB
      have HCX := hide hcx
      have hpl0 : (0 : Int) ≤ (pre.length : Int) := by omega
      have hc64 : count ≤ 64 := HMY.out.most
      clear hSB hB hcx hT
      by_cases he : (pre.length : Int) = count
      · have b1 : decide ((pre.length : Int) = count) = true := by simp [he]
        have b2 : ((pre.length : Int) == count) = true := by simp [he]
        have HE := hide he
        clear he
        gi_wp2_with fail
        have HFL := hide hfl
        have hnlt : ¬ x2 < floor := by omega
        have hBS : Bx ≠ S := by omega
        have hSB' : S ≠ Bx := by omega
        have hFS : w.heap.size + 1 ≠ S := by omega
        have hSF : S ≠ w.heap.size + 1 := by omega
        clear k0 k2 k3 b1 b2
        gi_region
        all_goals
          gi_wp2_with fail
          have HX := HSB.out.out x2 (b : Int) (by omega) (by omega)
          have HX2 := (keeps_set (o := 0) (v := .int .i64 x2) s0 : KeepsOthers W _)
          have HX3 := keeps_set' (o := 2) (v := .int .i64 (b : Int)) HX2 s2
          have HX4 := (HBW.out.setCell (p := ⟨S, 0, none⟩) (show w.heap.size ≤ S by omega) (.int .i64 x2)).setCell (p := ⟨S, 2, none⟩) (show w.heap.size ≤ S by omega) (.int .i64 (b : Int))
          exact ⟨⟨HX3.size, HX3.same⟩, ⟨⟨by simpa using hz, rfl, pre, _, _, _, rfl, HE.out, ⟨HX.cr, HX.fr, HX.cs, HX.own⟩⟩, HX4.drew⟩⟩
      · have b1 : decide ((pre.length : Int) = count) = false := by simp [he]
        have b2 : ((pre.length : Int) == count) = false := by simp [he]
        have hpc2 : (pre.length : Int) + 1 ≤ count := by omega
        have hp64 : pre.length ≤ 64 := by omega
        have hpl64 : (pre.length : Int) + 1 ≤ 65 := by omega
        have HP2 := hide hpc2
        clear he hpc hpc2
        have gb : W.cell? ⟨G, b, none⟩ = some (.int .i64 (cnt pre b : Int)) := by rw [HSB.out.own.cellAt b (by omega)]; exact wonI_at _ _ _ hbL
        have gf : ∀ o, W.frozen? ⟨G, o, none⟩ = false := HSB.out.own.frozenAt
        have hcn := cnt_le pre b
        obtain ⟨cb, hcb⟩ : ∃ cb, cb = cnt pre b := ⟨_, rfl⟩
        rw [← hcb] at gb hcn
        have HCB := hide hcb
        have hbL' : (b : Int) < (L.length : Int) := by omega
        have hb0 : (0 : Int) ≤ (b : Int) := by omega
        have hGNB : G ≠ NB := by omega
        have hNBG : NB ≠ G := by omega
        have hcb64 : (cb : Int) + 1 ≤ 65 := by omega
        clear hcb
        gi_wp2
        have HN := HSB.out.next ((b : Int), x1, x2) b hbL rfl (by omega) (by omega) (by omega) (by omega) (by omega) (by omega) (by omega) (by omega) (by omega)
        rw [← HCB.out] at HN
        refine ⟨keeps_set' (keeps_set gb) k2, ⟨by simp, fun i hi hl => far2 _ _ _ _ _ _ _ i (fun e => ?_) (fun e => ?_)⟩, ⟨⟨by simpa using hz, by (rw [List.length_append, List.length_singleton]; have := HP2.out; omega), HN⟩, (HBW.out.setCell (p := ⟨G, b, none⟩) (show w.heap.size ≤ G by omega) _).setCell (p := ⟨NB, 0, none⟩) (show w.heap.size ≤ NB by omega) _⟩⟩
        · rcases hi with hi | hi
          · have := hK1 i hi; omega
          · omega
        · rcases hi with hi | hi
          · have := hK1 i hi; omega
          · omega
    case done =>
      rintro D ys W hD rfl ⟨⟨hz, hpc, hSB⟩, hB⟩ hKd
      have HSE := hide (hSB.se)
      have HBW := hide hB
      have HKD := hide hKd
      have r0 : W.cell? ⟨w.heap.size + 2, 0, none⟩ = some (.int .i64 0) := HSE.out.cr 0
      have r1 : W.cell? ⟨w.heap.size + 2, 1, none⟩ = some (.slice none 0 0) := HSE.out.cr 1
      have r2 : W.cell? ⟨w.heap.size + 2, 2, none⟩ = some (.int .i64 0) := HSE.out.cr 2
      have rf := HSE.out.fr
      have s0 : W.cell? ⟨S, 0, none⟩ = some (.int .i64 (floor)) := HSE.out.cs 0
      have s1 : W.cell? ⟨S, 1, none⟩ = some (.slice (some ⟨G, 0, none⟩) L.length L.length) := HSE.out.cs 1
      have s2 : W.cell? ⟨S, 2, none⟩ = some (.int .i64 (-1)) := HSE.out.cs 2
      have hDl : D < W.heap.size := (Array.getElem?_eq_some_iff.1 HKD.out).1
      clear hB hKd
      gi_wp2_with fail
      rw [Exit.noGoto_ret]
      obtain ⟨V, hV⟩ : ∃ V, V = ((W.setCell ⟨w.heap.size + 1 + 1, 0, none⟩ (.int .i64 (floor))).setCell ⟨w.heap.size + 1 + 1, 1, none⟩ (.slice (some ⟨G, 0, none⟩) L.length L.length)).setCell ⟨w.heap.size + 1 + 1, 2, none⟩ (.int .i64 (-1)) := ⟨_, rfl⟩
      rw [← hV]
      have v0 : V.cell? ⟨w.heap.size + 2, 0, none⟩ = some (.int .i64 (floor)) := by rw [hV]; simp [go_sem, r0]
      have v1 : V.cell? ⟨w.heap.size + 2, 1, none⟩ = some (.slice (some ⟨G, 0, none⟩) L.length L.length) := by rw [hV]; simp [go_sem, r1]
      have v2 : V.cell? ⟨w.heap.size + 2, 2, none⟩ = some (.int .i64 (-1)) := by rw [hV]; simp [go_sem, r2]
      have hbV : Below w.heap.size w V := by rw [hV]; exact ((HBW.out.setCell (p := ⟨w.heap.size + 1 + 1, 0, none⟩) (show w.heap.size ≤ w.heap.size + 1 + 1 by omega) _).setCell (p := ⟨w.heap.size + 1 + 1, 1, none⟩) (show w.heap.size ≤ w.heap.size + 1 + 1 by omega) _).setCell (p := ⟨w.heap.size + 1 + 1, 2, none⟩) (show w.heap.size ≤ w.heap.size + 1 + 1 by omega) _
      have hoth : ∀ k, k ≠ w.heap.size + 2 → V.heap[k]? = W.heap[k]? := fun k hk => by
        rw [hV, heap_setCell_other _ _ _ _ (by simpa using hk)]
        exact far2 _ _ _ _ _ _ _ k hk hk
      have hK' : V.heap[D]? = some (.deferred (some [])) := (hoth D (by omega)).trans HKD.out
      have hown := own_old HSE.out.own ((World.putObj_heap_other (w := V) (o := .deferred none) (show G ≠ D by omega)).trans (hoth G (by omega)))
      refine ⟨by simp, .inl ⟨_, _, rfl, run_takeDeferred hK', ?_⟩⟩
      have e0c := (World.cell?_of_block (a := ⟨w.heap.size + 2, 0, none⟩) (World.putObj_heap_other (w := V) (o := .deferred none) (show w.heap.size + 2 ≠ D by omega))).trans v0
      have e1c := (World.cell?_of_block (a := ⟨w.heap.size + 2, 1, none⟩) (World.putObj_heap_other (w := V) (o := .deferred none) (show w.heap.size + 2 ≠ D by omega))).trans v1
      have e2c := (World.cell?_of_block (a := ⟨w.heap.size + 2, 2, none⟩) (World.putObj_heap_other (w := V) (o := .deferred none) (show w.heap.size + 2 ≠ D by omega))).trans v2
      clear hV v0 v1 v2
      have SP1 : priceOf (ordT L) count floor = floor := if_pos hpc
      have SP2 : nextOf (ordT L) count = -1 := if_pos hpc
      have SP3 : (ordT L).take count.toNat = ordT L := List.take_of_length_le (by omega)
      refine ⟨.tuple #[.agg #[.int .i64 (floor), .slice (some ⟨G, 0, none⟩) L.length L.length, .int .i64 (-1)], .int .i64 0], ?_, ⟨G, by rw [SP1, SP2], by rw [SP3]; exact hown⟩, hbV.trans (belowK_b (w := w) (Nat.le_refl _) _ D _ _ (by omega) hK' rfl rfl)⟩
      simp [results, Try.f12, go_sem, e0c, e1c, e2c]
    case stop =>
      rintro D c ps W hD ⟨rest, hT⟩ ⟨⟨hz, rfl, pre, x, rfl, hpc, hSE⟩, hB⟩ hKd
      have HSE := hide (hSE)
      have HBW := hide hB
      have HKD := hide hKd
      have r0 : W.cell? ⟨w.heap.size + 2, 0, none⟩ = some (.int .i64 0) := HSE.out.cr 0
      have r1 : W.cell? ⟨w.heap.size + 2, 1, none⟩ = some (.slice none 0 0) := HSE.out.cr 1
      have r2 : W.cell? ⟨w.heap.size + 2, 2, none⟩ = some (.int .i64 0) := HSE.out.cr 2
      have rf := HSE.out.fr
      have s0 : W.cell? ⟨S, 0, none⟩ = some (.int .i64 (x.2.2)) := HSE.out.cs 0
      have s1 : W.cell? ⟨S, 1, none⟩ = some (.slice (some ⟨G, 0, none⟩) L.length L.length) := HSE.out.cs 1
      have s2 : W.cell? ⟨S, 2, none⟩ = some (.int .i64 (x.1)) := HSE.out.cs 2
      have hDl : D < W.heap.size := (Array.getElem?_eq_some_iff.1 HKD.out).1
      clear hB hKd
      gi_wp2_with fail
      rw [Exit.noGoto_ret]
      obtain ⟨V, hV⟩ : ∃ V, V = ((W.setCell ⟨w.heap.size + 1 + 1, 0, none⟩ (.int .i64 (x.2.2))).setCell ⟨w.heap.size + 1 + 1, 1, none⟩ (.slice (some ⟨G, 0, none⟩) L.length L.length)).setCell ⟨w.heap.size + 1 + 1, 2, none⟩ (.int .i64 (x.1)) := ⟨_, rfl⟩
      rw [← hV]
      have v0 : V.cell? ⟨w.heap.size + 2, 0, none⟩ = some (.int .i64 (x.2.2)) := by rw [hV]; simp [go_sem, r0]
      have v1 : V.cell? ⟨w.heap.size + 2, 1, none⟩ = some (.slice (some ⟨G, 0, none⟩) L.length L.length) := by rw [hV]; simp [go_sem, r1]
      have v2 : V.cell? ⟨w.heap.size + 2, 2, none⟩ = some (.int .i64 (x.1)) := by rw [hV]; simp [go_sem, r2]
      have hbV : Below w.heap.size w V := by rw [hV]; exact ((HBW.out.setCell (p := ⟨w.heap.size + 1 + 1, 0, none⟩) (show w.heap.size ≤ w.heap.size + 1 + 1 by omega) _).setCell (p := ⟨w.heap.size + 1 + 1, 1, none⟩) (show w.heap.size ≤ w.heap.size + 1 + 1 by omega) _).setCell (p := ⟨w.heap.size + 1 + 1, 2, none⟩) (show w.heap.size ≤ w.heap.size + 1 + 1 by omega) _
      have hoth : ∀ k, k ≠ w.heap.size + 2 → V.heap[k]? = W.heap[k]? := fun k hk => by
        rw [hV, heap_setCell_other _ _ _ _ (by simpa using hk)]
        exact far2 _ _ _ _ _ _ _ k hk hk
      have hK' : V.heap[D]? = some (.deferred (some [])) := (hoth D (by omega)).trans HKD.out
      have hown := own_old HSE.out.own ((World.putObj_heap_other (w := V) (o := .deferred none) (show G ≠ D by omega)).trans (hoth G (by omega)))
      refine ⟨by simp, .inl ⟨_, _, rfl, run_takeDeferred hK', ?_⟩⟩
      have e0c := (World.cell?_of_block (a := ⟨w.heap.size + 2, 0, none⟩) (World.putObj_heap_other (w := V) (o := .deferred none) (show w.heap.size + 2 ≠ D by omega))).trans v0
      have e1c := (World.cell?_of_block (a := ⟨w.heap.size + 2, 1, none⟩) (World.putObj_heap_other (w := V) (o := .deferred none) (show w.heap.size + 2 ≠ D by omega))).trans v1
      have e2c := (World.cell?_of_block (a := ⟨w.heap.size + 2, 2, none⟩) (World.putObj_heap_other (w := V) (o := .deferred none) (show w.heap.size + 2 ≠ D by omega))).trans v2
      clear hV v0 v1 v2
      have hgt : ¬ ((ordT L).length : Int) ≤ count := by rw [hT]; simp; omega
      have hcn : count.toNat = pre.length := by omega
      have hget : get (ordT L) count.toNat = x := by
        rw [hcn, hT, get, List.append_assoc, List.getElem?_append_right (Nat.le_refl _), Nat.sub_self]
        rfl
      have SP1 : priceOf (ordT L) count floor = x.2.2 := by rw [priceOf, if_neg hgt, hget]
      have SP2 : nextOf (ordT L) count = x.1 := by rw [nextOf, if_neg hgt, hget]
      have SP3 : (ordT L).take count.toNat = pre := by rw [hcn, hT, List.append_assoc, List.take_left]
      refine ⟨.tuple #[.agg #[.int .i64 (x.2.2), .slice (some ⟨G, 0, none⟩) L.length L.length, .int .i64 (x.1)], .int .i64 0], ?_, ⟨G, by rw [SP1, SP2], by rw [SP3]; exact hown⟩, hbV.trans (belowK_b (w := w) (Nat.le_refl _) _ D _ _ (by omega) hK' rfl rfl)⟩
      simp [results, Try.f12, go_sem, e0c, e1c, e2c]
    · obtain ⟨Bx, h1, h2, h3, h4⟩ := hx
      exact ⟨Bx, h1, by simpa using h2, fun o' => (World.cell?_of_block (a := ⟨Bx, o', none⟩) (World.putObj_heap_other (by simp; omega))).trans (h3 o'), h4⟩
end Go.Proofs.Ytehpjipmlpaflaa.un
