/- Contracts of the layer's functions, each proved once, in the order in which they are used. No condition beyond each theorem's own. -/
import Derived.Test.YtalnipjaekpbhaaL22
import Derived.Recover
namespace Go.Proofs.Ytalnipjaekpbhaa
open Go.ChangeShapes Go.WideShapes Go.ChangeAt Go.RowKit Go.Deep
set_option linter.unusedSimpArgs false
set_option linter.unusedVariables false

/-- what number gives up with -/
def PC : List PanicEntry := [{ v := .iface 125 (.agg #[]), recovered := false }]
set_option maxRecDepth 100000 in
set_option maxHeartbeats 2000000 in
theorem number_ok {g B : Nat} {ns : List Nat} {a most : Nat} {w : World} (hR : RAny w g B ns a) (hE : (rd ns a).2.1 = 0) (hm : (rd ns a).1 ≤ most) (hm64 : most < 18446744073709551616) : Calls Try.prog 59 #[.pointer (some ⟨g, 0, none⟩), .int .u64 (most : Int)] w fun e w' => e = .returned (.int .u64 ((rd ns a).1 : Int)) ∧ Only g w w' ∧ RAny w' g B ns (rd ns a).2.2 := by
  have C := RNum_any g B ns a w hR
  obtain ⟨x, hx⟩ : ∃ x, x = (rd ns a).1 := ⟨_, rfl⟩
  obtain ⟨a2, ha⟩ : ∃ r, r = (rd ns a).2.2 := ⟨_, rfl⟩
  rw [← hx, hE, ← ha] at C
  rw [← hx] at hm
  rw [← hx, ← ha]
  have CC := hide C
  have d1 : decide ((most : Int) < (x : Int)) = false := decide_eq_false (by omega)
  have d2 : ¬ most < x := by omega
  clear C hx ha hR hE hm
  go_enter Try.func59, Try.ntmps59
  go_wp2_with fail
  refine CC.out.mono ?_
  rintro e w1 ⟨rfl, ho, hd⟩
  have HP := hide (And.intro ho hd)
  clear ho hd CC
  go_wp2_with fail
  refine bodyPost_ret (v := .int .u64 (x : Int)) (by simp [results, Try.f59, go_sem]) rfl ⟨rfl, HP.out⟩
set_option maxRecDepth 100000 in
set_option maxHeartbeats 2000000 in
theorem number_die {g B : Nat} {ns : List Nat} {a most : Nat} {w : World} (hR : RAny w g B ns a) (hE : ¬ ((rd ns a).2.1 = 0 ∧ (rd ns a).1 ≤ most)) : Calls Try.prog 59 #[.pointer (some ⟨g, 0, none⟩), .int .u64 (most : Int)] w fun e w' => e = .panicked PC ∧ Only g w w' ∧ ∃ a2, RAny w' g B ns a2 := by
  have C := RNum_any g B ns a w hR
  obtain ⟨x, hx⟩ : ∃ x, x = (rd ns a).1 := ⟨_, rfl⟩
  obtain ⟨r, hr⟩ : ∃ r, r = (rd ns a).2.1 := ⟨_, rfl⟩
  obtain ⟨a2, ha⟩ : ∃ r, r = (rd ns a).2.2 := ⟨_, rfl⟩
  rw [← hx, ← hr, ← ha] at C
  rw [← hx, ← hr] at hE
  have CC := hide C
  clear C hx hr ha hR
  by_cases h0 : r = 0
  · have d2 : most < x := by have : ¬ x ≤ most := fun h => hE ⟨h0, h⟩; omega
    have d1 : decide ((most : Int) < (x : Int)) = true := decide_eq_true (by omega)
    subst h0
    clear hE
    go_enter Try.func59, Try.ntmps59
    go_wp2_with fail
    refine CC.out.mono ?_
    rintro e w1 ⟨rfl, ho, hd⟩
    have HP := hide (And.intro ho hd)
    clear ho hd CC
    go_wp2_with fail
    exact ⟨rfl, rfl, HP.out.1, _, HP.out.2⟩
  · have d1 : ((r : Int) != 0) = true := by simp; omega
    clear hE
    go_enter Try.func59, Try.ntmps59
    go_wp2_with fail
    refine CC.out.mono ?_
    rintro e w1 ⟨rfl, ho, hd⟩
    have HP := hide (And.intro ho hd)
    clear ho hd CC
    go_wp2_with fail
    exact ⟨rfl, rfl, HP.out.1, _, HP.out.2⟩
end Go.Proofs.Ytalnipjaekpbhaa

namespace Go.Proofs.Ytalnipjaekpbhaa
open Go.ChangeShapes Go.WideShapes Go.ChangeAt Go.RowKit Go.Deep
set_option linter.unusedSimpArgs false
set_option linter.unusedVariables false

theorem Only.trans_only {g : Nat} {w w1 w2 : World} (h : Only g w w1) (k : Only g w1 w2) : Only g w w2 := ⟨k.os.trans h.os, k.tape.trans h.tape, k.output.trans h.output, Nat.le_trans h.size k.size, fun i hi hne => (k.block i (Nat.lt_of_lt_of_le hi h.size) hne).trans (h.block i hi hne)⟩
theorem Only.far {g : Nat} {w w1 w2 : World} (h : Only g w w1) (k : Below w.heap.size w1 w2) : Only g w w2 := ⟨k.os.trans h.os, k.tape.trans h.tape, k.output.trans h.output, Nat.le_trans h.size k.size, fun i hi hne => (k.block i hi).trans (h.block i hi hne)⟩
theorem size_sets (b : Nat) : ∀ (l : List Value) (w : World) (o : Nat), (w.setCells b o l).heap.size = w.heap.size
  | [], w, o => rfl
  | v :: l, w, o => (size_sets b l _ _).trans (World.size_setCell _ _ _)
theorem num_ok1 {ns : List Nat} {a x a2 most : Nat} (h : nxt ns a = some (x, a2)) (hm : x ≤ most) : (rd ns a).2.1 = 0 ∧ (rd ns a).1 ≤ most := by
  obtain ⟨h1, h2, -, -⟩ := nxt_eq h
  exact ⟨h1, by rw [h2]; exact hm⟩
theorem num_die1 {ns : List Nat} {a most : Nat} (h : nxt ns a = none) (hm : most < 9223372036854775808) : ¬ ((rd ns a).2.1 = 0 ∧ (rd ns a).1 ≤ most) := by
  rintro ⟨h1, h2⟩
  have := nxt_no h h1
  omega
theorem num_die2 {ns : List Nat} {a x a2 most : Nat} (h : nxt ns a = some (x, a2)) (hm : most < x) : ¬ ((rd ns a).2.1 = 0 ∧ (rd ns a).1 ≤ most) := by
  obtain ⟨h1, h2, -, -⟩ := nxt_eq h
  rintro ⟨-, h3⟩
  omega
theorem number_nxt {g B : Nat} {ns : List Nat} {a most x a2 : Nat} {w : World} (hR : RAny w g B ns a) (h : nxt ns a = some (x, a2)) (hm : x ≤ most) (hm64 : most < 18446744073709551616) : Calls Try.prog 59 #[.pointer (some ⟨g, 0, none⟩), .int .u64 (most : Int)] w fun e w' => e = .returned (.int .u64 (x : Int)) ∧ Only g w w' ∧ RAny w' g B ns a2 := by
  obtain ⟨h1, h2, h3, -⟩ := nxt_eq h
  have q := number_ok hR h1 (by rw [h2]; exact hm) hm64
  rw [h2, h3] at q
  exact q
set_option maxRecDepth 100000 in
set_option maxHeartbeats 2000000 in
theorem offer_ok {g B : Nat} {ns : List Nat} {a g1 a1 c a2 : Nat} {w : World} (hR : RAny w g B ns a) (h1 : nxt ns a = some (g1, a1)) (hg : ¬ 4294967295 < g1) (h2 : nxt ns a1 = some (c, a2)) : Calls Try.prog 62 #[.pointer (some ⟨g, 0, none⟩)] w fun e w' => e = .returned (.tuple #[.agg #[.int .u32 (g1 : Int), .int .i64 (c : Int)], .int .i64 0]) ∧ Only g w w' ∧ RAny w' g B ns a2 := by
  have HBW := hide hR.1
  obtain ⟨W, hW⟩ : ∃ W, W = w.alloc (.cells #[.int .u32 0, .int .i64 0] 93) := ⟨_, rfl⟩
  have hb0 : Below w.heap.size w W := by rw [hW]; exact (Below.refl _ _).alloc (Nat.le_refl _) _
  have hgl := hR.cells.1
  have hgne : w.heap.size ≠ g := by omega
  have th : W.there w.heap.size 0 2 := by
    rw [hW]; intro j hj
    rcases j with _ | _ | j
    · simp [go_sem]
    · simp [go_sem]
    · omega
  have HB0 := hide (Only.of_below (g := g) hb0)
  have HR := hide (hR.below hb0)
  have HW := hide hW
  have TH := hide th
  clear hb0 hW th hR
  have CN := hide (number_nxt HR.out h1 (most := 4294967295) (by omega) (by decide))
  have H2 := hide h2
  have hc := (nxt_eq h2).2.2.2
  have hwg : (g1 : Int) % 4294967296 = (g1 : Int) := by omega
  have hwc : wrap64 (c : Int) = (c : Int) := by unfold wrap64; omega
  clear h1 h2
  go_enter Try.func62, Try.ntmps62
  go_upto_region 1 with fail
  rw [← HW.out]
  go_upto_region 2 with (go_at_call 59; (apply Calls.mono; focus (exact CN.out)); rintro e w1 ⟨rfl, ho, hd⟩; have HS1 := hide (And.intro (HB0.out.trans_only ho) hd); have T1 := hide (there_stays TH.out (ho.block _ (there_lt TH.out (by decide)) hgne)); clear ho hd)
  have CN2 := hide (number_nxt HS1.out.2 H2.out (most := 9223372036854775807) (by omega) (by decide))
  go_wp2_with (first
    | (go_at_call 59; (apply Calls.mono; focus (exact CN2.out)); rintro e w2 ⟨rfl, ho, hd⟩; have HS2 := hide (And.intro (HS1.out.1.trans_only ho) hd); have T2 := hide (there_stays T1.out (ho.block _ (there_lt T1.out (by decide)) hgne)); clear ho hd)
    | refine wpList_store_mid rfl 93 _ _ rfl w.heap.size 0 #[.int .u32 (g1 : Int), .int .i64 (c : Int)] rfl rfl T2.out (by kernel_rfl) (by kernel_rfl) ?_)
  have hl := run_loadVar_mid (P := Try.prog) (w2.setCells w.heap.size 0 [.int .u32 (g1 : Int), .int .i64 (c : Int)]) w.heap.size 0 93 [.int .u32 (g1 : Int), .int .i64 (c : Int)] _ (World.rangeAt_setCells_same _ _ _ _ T2.out) Try.underlying93 rfl (by kernel_rfl)
  refine bodyPost_ret (v := .tuple #[.agg #[.int .u32 (g1 : Int), .int .i64 (c : Int)], .int .i64 0]) (results_ct rfl rfl hl rfl) rfl ⟨rfl, HS2.out.1.far (below_sets (Nat.le_refl _) _ _ _ (Below.refl _ _)), ?_⟩
  refine HS2.out.2.same (by rw [size_sets]; exact Nat.le_refl _) (heap_sets_ne (Ne.symm hgne) _ _ _) (fun i hi => heap_sets_ne (by have := HBW.out; omega) _ _ _)
set_option maxRecDepth 100000 in
set_option maxHeartbeats 2000000 in
theorem offer_die1 {g B : Nat} {ns : List Nat} {a : Nat} {w : World} (hR : RAny w g B ns a) (hd : ¬ ((rd ns a).2.1 = 0 ∧ (rd ns a).1 ≤ 4294967295)) : Calls Try.prog 62 #[.pointer (some ⟨g, 0, none⟩)] w fun e w' => e = .panicked PC ∧ Only g w w' ∧ ∃ a2, RAny w' g B ns a2 := by
  have HBW := hide hR.1
  obtain ⟨W, hW⟩ : ∃ W, W = w.alloc (.cells #[.int .u32 0, .int .i64 0] 93) := ⟨_, rfl⟩
  have hb0 : Below w.heap.size w W := by rw [hW]; exact (Below.refl _ _).alloc (Nat.le_refl _) _
  have hgl := hR.cells.1
  have hgne : w.heap.size ≠ g := by omega
  have th : W.there w.heap.size 0 2 := by
    rw [hW]; intro j hj
    rcases j with _ | _ | j
    · simp [go_sem]
    · simp [go_sem]
    · omega
  have HB0 := hide (Only.of_below (g := g) hb0)
  have HR := hide (hR.below hb0)
  have HW := hide hW
  have TH := hide th
  clear hb0 hW th hR
  have CN := hide (number_die HR.out (most := 4294967295) hd)
  clear hd
  go_enter Try.func62, Try.ntmps62
  go_upto_region 1 with fail
  rw [← HW.out]
  go_wp2_with (go_at_call 59; (apply Calls.mono; focus (exact CN.out)); rintro e w1 ⟨rfl, ho, a2, hd⟩; have HS1 := hide (And.intro (HB0.out.trans_only ho) hd); clear ho hd)
  exact ⟨rfl, rfl, HS1.out.1, _, HS1.out.2⟩
set_option maxRecDepth 100000 in
set_option maxHeartbeats 2000000 in
theorem offer_die2 {g B : Nat} {ns : List Nat} {a g1 a1 : Nat} {w : World} (hR : RAny w g B ns a) (h1 : nxt ns a = some (g1, a1)) (hg : ¬ 4294967295 < g1) (h2 : nxt ns a1 = none) : Calls Try.prog 62 #[.pointer (some ⟨g, 0, none⟩)] w fun e w' => e = .panicked PC ∧ Only g w w' ∧ ∃ a2, RAny w' g B ns a2 := by
  have HBW := hide hR.1
  obtain ⟨W, hW⟩ : ∃ W, W = w.alloc (.cells #[.int .u32 0, .int .i64 0] 93) := ⟨_, rfl⟩
  have hb0 : Below w.heap.size w W := by rw [hW]; exact (Below.refl _ _).alloc (Nat.le_refl _) _
  have hgl := hR.cells.1
  have hgne : w.heap.size ≠ g := by omega
  have th : W.there w.heap.size 0 2 := by
    rw [hW]; intro j hj
    rcases j with _ | _ | j
    · simp [go_sem]
    · simp [go_sem]
    · omega
  have HB0 := hide (Only.of_below (g := g) hb0)
  have HR := hide (hR.below hb0)
  have HW := hide hW
  have TH := hide th
  clear hb0 hW th hR
  have CN := hide (number_nxt HR.out h1 (most := 4294967295) (by omega) (by decide))
  have H2 := hide h2
  have hwg : (g1 : Int) % 4294967296 = (g1 : Int) := by omega
  clear h1 h2
  go_enter Try.func62, Try.ntmps62
  go_upto_region 1 with fail
  rw [← HW.out]
  go_upto_region 2 with (go_at_call 59; (apply Calls.mono; focus (exact CN.out)); rintro e w1 ⟨rfl, ho, hd⟩; have HS1 := hide (And.intro (HB0.out.trans_only ho) hd); have T1 := hide (there_stays TH.out (ho.block _ (there_lt TH.out (by decide)) hgne)); clear ho hd)
  have CN2 := hide (number_die HS1.out.2 (most := 9223372036854775807) (num_die1 H2.out (by decide)))
  go_wp2_with (go_at_call 59; (apply Calls.mono; focus (exact CN2.out)); rintro e w2 ⟨rfl, ho, a2, hd⟩; have HS2 := hide (And.intro (HS1.out.1.trans_only ho) hd); clear ho hd)
  exact ⟨rfl, rfl, HS2.out.1, _, HS2.out.2⟩
end Go.Proofs.Ytalnipjaekpbhaa

namespace Go.Proofs.Ytalnipjaekpbhaa
open Go.ChangeShapes Go.WideShapes Go.ChangeAt Go.RowKit Go.Deep
set_option linter.unusedSimpArgs false
set_option linter.unusedVariables false

theorem box_cell {w : World} {b : Nat} {x : Value} {t : TypeId} (h : w.heap[b]? = some (.cells #[x] t)) : w.cell? ⟨b, 0, none⟩ = some x ∧ w.frozen? ⟨b, 0, none⟩ = false := by
  unfold World.cell? World.frozen?
  simp [h]
theorem box_set {w : World} {b : Nat} {x : Value} {t : TypeId} (h : w.heap[b]? = some (.cells #[x] t)) (y : Value) : (w.setCell ⟨b, 0, none⟩ y).heap[b]? = some (.cells #[y] t) := by
  rw [heap_setCell_same w b 0 #[x] t y h]; rfl
theorem own_ne_box {w : World} {B b : Nat} {e e2 : TypeId} {size n : Nat} {v : Value} {xs : List Value} {cs : Array Value} (h : w.ownsRow B e size v n xs) (hb : w.heap[b]? = some (.cells cs e2)) (hne : e ≠ e2) : v.ownBlock ≠ some b := by
  rcases h.2 with ⟨rfl, _⟩ | ⟨g, cap, cur, rfl, _, i3, _⟩
  · intro e; cases e
  · intro e3
    obtain rfl : g = b := Option.some.inj e3
    rw [i3] at hb
    injection hb with hb
    injection hb with _ hb
    exact hne hb
/-- Take of offers under way -/
structure TSt (z g B : Nat) (w wr : World) (ns : List Nat) (a : Nat) (fs : List (Nat × Int)) (v : Value) : Prop where
  o : KB z g w wr
  t : wr.heap[z + 2]? = some (.cells #[.func (.func 62) #[] #[]] 128)
  m : wr.heap[z + 1]? = some (.cells #[.int .i64 64] 3)
  r : wr.heap[z]? = some (.cells #[.pointer (some ⟨g, 0, none⟩)] 119)
  c : wr.heap[z + 4]? = some (.cells #[v] 27)
  row : wr.ownsRow (z + 3) 93 2 v fs.length (flatF fs)
  s : z + 5 ≤ wr.heap.size
  R : RAny wr g B ns a
  gz : g < z
  bz : B ≤ z
theorem TSt.next {z g B : Nat} {w wr : World} {ns : List Nat} {a : Nat} {fs : List (Nat × Int)} {v : Value} (h : TSt z g B w wr ns a fs v) {w' : World} (ho : Only g wr w') {a2 : Nat} (hR : RAny w' g B ns a2) : TSt z g B w w' ns a2 fs v := by
  have hs := h.s
  have hg := h.gz
  exact ⟨h.o.trans (KB.of_only ho (by omega)), (ho.block _ (by omega) (by omega)).trans h.t, (ho.block _ (by omega) (by omega)).trans h.m, (ho.block _ (by omega) (by omega)).trans h.r, (ho.block _ (by omega) (by omega)).trans h.c, own_only h.row ho (by omega), Nat.le_trans hs ho.size, hR, hg, h.bz⟩
theorem TSt.grow {z g B : Nat} {w wr : World} {ns : List Nat} {a : Nat} {fs : List (Nat × Int)} {v : Value} (h : TSt z g B w wr ns a fs v) {w' : World} (hb : Below wr.heap.size wr w') : TSt z g B w w' ns a fs v := by
  have hs := h.s
  exact ⟨h.o.trans (KB.of_below hb (by omega)), (hb.block _ (by omega)).trans h.t, (hb.block _ (by omega)).trans h.m, (hb.block _ (by omega)).trans h.r, (hb.block _ (by omega)).trans h.c, own_below h.row hb, Nat.le_trans hs hb.size, h.R.below hb, h.gz, h.bz⟩
theorem TSt.free {z g B : Nat} {w wr : World} {ns : List Nat} {a : Nat} {fs : List (Nat × Int)} {v : Value} (h : TSt z g B w wr ns a fs v) {w' : World} (hb : Below (z + 5) wr w') (hr : ∀ k, v.ownBlock = some k → w'.heap[k]? = wr.heap[k]?) : TSt z g B w w' ns a fs v := by
  have hs := h.s
  have hg := h.gz
  have hz := h.bz
  exact ⟨h.o.trans ⟨hb.os, hb.tape, hb.output, hb.size, fun i hi _ => hb.block i (by omega)⟩, (hb.block _ (by omega)).trans h.t, (hb.block _ (by omega)).trans h.m, (hb.block _ (by omega)).trans h.r, (hb.block _ (by omega)).trans h.c, own_same h.row (fun k hk _ => hr k hk), Nat.le_trans hs hb.size, h.R.same hb.size (hb.block _ (by omega)) (fun i hi => hb.block i (by omega)), h.gz, h.bz⟩
theorem TSt.push {z g B : Nat} {w wr : World} {ns : List Nat} {a : Nat} {fs : List (Nat × Int)} {v : Value} (h : TSt z g B w wr ns a fs v) {w' : World} {v' : Value} {fs' : List (Nat × Int)} (hg : wr.grownBy w' v.ownBlock) (hr : w'.ownsRow (z + 3) 93 2 v' fs'.length (flatF fs')) : TSt z g B w (w'.setCell ⟨z + 4, 0, none⟩ v') ns a fs' v' := by
  have hs := h.s
  have hgz := h.gz
  have hbz := h.bz
  have hne : v.ownBlock ≠ some (z + 4) := own_ne_box h.row h.c (by decide)
  have hlo : ∀ k, v.ownBlock = some k → z + 3 ≤ k := fun k hk => (h.row.lt k hk).1
  have bl : ∀ i, i < z + 3 → w'.heap[i]? = wr.heap[i]? := fun i hi => hg.block i (by omega) (fun e => by have := hlo i e.symm; omega)
  have b4 : w'.heap[z + 4]? = some (.cells #[v] 27) := (hg.block _ (by omega) (fun e => hne e.symm)).trans h.c
  have hne2 : v'.ownBlock ≠ some (z + 4) := own_ne_box hr b4 (by decide)
  have st : ∀ i, i ≠ z + 4 → (w'.setCell ⟨z + 4, 0, none⟩ v').heap[i]? = w'.heap[i]? := fun i hi => heap_setCell_other _ _ _ _ hi
  have sz : (w'.setCell ⟨z + 4, 0, none⟩ v').heap.size = w'.heap.size := World.size_setCell _ _ _
  refine ⟨h.o.trans ⟨hg.os, hg.tape, hg.output, by rw [sz]; exact hg.size, fun i hi _ => (st i (by omega)).trans (bl i (by omega))⟩, (st _ (by omega)).trans ((bl _ (by omega)).trans h.t), (st _ (by omega)).trans ((bl _ (by omega)).trans h.m), (st _ (by omega)).trans ((bl _ (by omega)).trans h.r), box_set b4 _, own_same hr (fun k hk _ => st k (fun e => hne2 (by rw [hk, e]))), by rw [sz]; exact Nat.le_trans hs hg.size, h.R.same (by rw [sz]; exact hg.size) ((st _ (by omega)).trans (bl _ (by omega))) (fun i hi => (st i (by omega)).trans (bl i (by omega))), hgz, hbz⟩
theorem eql128 (w : World) : Sem.run Try.prog (binOp .eql 128 (.func (.func 62) #[] #[]) .nilFunc) w = .ok (.bool false) w := by kernel_rfl
set_option maxRecDepth 100000 in
set_option maxHeartbeats 4000000 in
theorem clo_err {z g B : Nat} {w wr : World} {ns : List Nat} {a : Nat} {v : Value} (h : TSt z g B w wr ns a [] v) (he : (lg ns a 64).2.1 ≠ 0) : Calls Try.prog 90 #[.pointer (some ⟨z + 2, 0, none⟩), .pointer (some ⟨z + 1, 0, none⟩), .pointer (some ⟨z, 0, none⟩), .pointer (some ⟨z + 4, 0, none⟩)] wr fun e w' => e = .returned (.int .i64 ((lg ns a 64).2.1 : Int)) ∧ ∃ a2, TSt z g B w w' ns a2 [] v := by
  have CL := long_c g B ns a 64 wr h.R (by decide)
  obtain ⟨n, hn⟩ : ∃ q, q = (lg ns a 64).1 := ⟨_, rfl⟩
  obtain ⟨r, hr⟩ : ∃ q, q = (lg ns a 64).2.1 := ⟨_, rfl⟩
  obtain ⟨a2, ha⟩ : ∃ q, q = (lg ns a 64).2.2 := ⟨_, rfl⟩
  rw [← hn, ← hr, ← ha] at CL
  rw [← hr] at he ⊢
  have CC := hide CL
  have HS := hide h
  have t1 := (box_cell h.t).1
  have m1 := (box_cell h.m).1
  have r1 := (box_cell h.r).1
  have hq := eql128
  have d1 : ((r : Int) == 0) = false := by simp; omega
  clear CL hn hr ha h he
  go_enter Try.func90, Try.ntmps90
  go_wp2_with (go_at_call 89; (apply Calls.mono; focus (exact CC.out)); rintro e w1 ⟨rfl, ho, hd⟩; have HS1 := hide (HS.out.next ho hd); clear ho hd)
  go_loopw [5, 6] (fun v5 v6 wr => v5 = .int .i64 (n : Int) ∧ v6 = .int .i64 (r : Int) ∧ wr = w1) (fun _ _ _ => 0)
  case atStart => exact ⟨rfl, rfl, rfl⟩
  case round =>
    obtain ⟨rfl, rfl, rfl⟩ := hrel
    go_wp2_with fail
    refine bodyPost_ret (v := .int .i64 (r : Int)) (by simp [results, Try.f90, go_sem]) rfl ⟨rfl, a2, HS1.out⟩
set_option maxRecDepth 100000 in
set_option maxHeartbeats 8000000 in
theorem clo_ok {z g B : Nat} {w wr : World} {ns : List Nat} {a : Nat} {v : Value} (h : TSt z g B w wr ns a [] v) {n a2 : Nat} (he : lg ns a 64 = (n, 0, a2)) (h64 : n ≤ 64) : Calls Try.prog 90 #[.pointer (some ⟨z + 2, 0, none⟩), .pointer (some ⟨z + 1, 0, none⟩), .pointer (some ⟨z, 0, none⟩), .pointer (some ⟨z + 4, 0, none⟩)] wr fun e w' => (pF ns n a2 [] = none ∧ e = .panicked PC ∧ KB z g w w' ∧ ∃ a3, RAny w' g B ns a3) ∨ (∃ fs a3 v3, pF ns n a2 [] = some (fs, a3) ∧ e = .returned (.int .i64 0) ∧ TSt z g B w w' ns a3 fs v3) := by
  have CL := long_c g B ns a 64 wr h.R (by decide)
  rw [he] at CL
  have CC := hide CL
  have HS := hide h
  have t1 := (box_cell h.t).1
  have m1 := (box_cell h.m).1
  have r1 := (box_cell h.r).1
  have hq := eql128
  obtain ⟨R, hR⟩ : ∃ R, R = pF ns n a2 [] := ⟨_, rfl⟩
  rw [← hR]
  have HR := hide hR
  obtain ⟨i93, hi93, hz93, hs93, hb93⟩ := info_parts info93
  clear CL he h hR
  go_enter Try.func90, Try.ntmps90
  go_wp2_with (go_at_call 89; (apply Calls.mono; focus (exact CC.out)); rintro e w1 ⟨rfl, ho, hd⟩; have HS1 := hide (HS.out.next ho hd); clear ho hd)
  clear t1 m1 r1
  go_loopw [5, 6] (fun v5 v6 wr => ∃ (m : Nat) (fs : List (Nat × Int)) (a : Nat) (v : Value), v5 = .int .i64 (m : Int) ∧ v6 = .int .i64 0 ∧ fs.length + m = n ∧ pF ns m a fs = R ∧ TSt z g B w wr ns a fs v) (fun v5 _ _ => (intOf v5).toNat)
  case atStart => exact ⟨n, [], a2, v, rfl, rfl, by simp, HR.out.symm, HS1.out⟩
  case round =>
    obtain ⟨m, fs, a4, v4, rfl, rfl, hl, hp, hs⟩ := hrel
    have HP := hide hp
    have HS2 := hide hs
    clear hp hs HS1 HS CC
    by_cases hm : m = 0
    · subst hm
      go_wp2_with fail
      refine bodyPost_ret (v := .int .i64 0) (by simp [results, Try.f90, go_sem]) rfl (.inr ⟨fs, a4, v4, by rw [← HP.out]; rfl, rfl, HS2.out⟩)
    · obtain ⟨m, rfl⟩ : ∃ q, m = q + 1 := ⟨m - 1, by omega⟩
      have hm1 : (0 : Int) < ((m + 1 : Nat) : Int) := by omega
      obtain ⟨X, hX⟩ : ∃ X, X = wr.heap.size := ⟨_, rfl⟩
      obtain ⟨W8, hW8⟩ : ∃ W8, W8 = wr.alloc (.cells #[.int .u32 0, .int .i64 0] 93) := ⟨_, rfl⟩
      have hb8 : Below wr.heap.size wr W8 := by rw [hW8]; exact (Below.refl _ _).alloc (Nat.le_refl _) _
      have hs8 := HS2.out.grow hb8
      have th8 : W8.there X 0 2 := by
        rw [hW8, hX]; intro j hj
        rcases j with _ | _ | j
        · simp [go_sem]
        · simp [go_sem]
        · omega
      have FX := hide (show z + 5 ≤ X ∧ ∀ k, v4.ownBlock = some k → k < X from ⟨by rw [hX]; exact HS2.out.s, fun k hk => by rw [hX]; exact (HS2.out.row.lt k hk).2⟩)
      have HW8 := hide hW8
      have HX := hide hX
      have HS8 := hide hs8
      have T8 := hide th8
      have hgX : X ≠ g := by have := HS2.out.gz; have := FX.out.1; omega
      have t1 := (box_cell hs8.t).1
      have r1 := (box_cell hs8.r).1
      clear hW8 hX hs8 th8 hb8
      go_upto_region 9 with fail
      rw [← HX.out, ← HW8.out]
      cases hx : nxt ns a4 with
      | none =>
        have CN := hide (offer_die1 HS8.out.R (num_die1 hx (by decide)))
        have HF := hide (show R = none by rw [← HP.out, pF_none1 hx])
        clear hx
        go_wp2_with (go_at_call 62; (apply Calls.mono; focus (exact CN.out)); rintro e w9 ⟨rfl, ho, a5, hd⟩; have HD := hide (And.intro ((HS8.out.o.trans (KB.of_only ho (by have := HS8.out.s; omega)))) (Exists.intro a5 hd)); clear ho hd)
        exact ⟨rfl, .inl ⟨HF.out, rfl, HD.out.1, HD.out.2⟩⟩
      | some p =>
        obtain ⟨g1, a5⟩ := p
        by_cases hg : 4294967295 < g1
        · have CN := hide (offer_die1 HS8.out.R (num_die2 hx hg))
          have HF := hide (show R = none by rw [← HP.out, pF_big hx hg])
          clear hx hg
          go_wp2_with (go_at_call 62; (apply Calls.mono; focus (exact CN.out)); rintro e w9 ⟨rfl, ho, a5, hd⟩; have HD := hide (And.intro ((HS8.out.o.trans (KB.of_only ho (by have := HS8.out.s; omega)))) (Exists.intro a5 hd)); clear ho hd)
          exact ⟨rfl, .inl ⟨HF.out, rfl, HD.out.1, HD.out.2⟩⟩
        · cases hx2 : nxt ns a5 with
          | none =>
            have CN := hide (offer_die2 HS8.out.R hx hg hx2)
            have HF := hide (show R = none by rw [← HP.out, pF_none2 hx hx2])
            clear hx hg hx2
            go_wp2_with (go_at_call 62; (apply Calls.mono; focus (exact CN.out)); rintro e w9 ⟨rfl, ho, a5, hd⟩; have HD := hide (And.intro ((HS8.out.o.trans (KB.of_only ho (by have := HS8.out.s; omega)))) (Exists.intro a5 hd)); clear ho hd)
            exact ⟨rfl, .inl ⟨HF.out, rfl, HD.out.1, HD.out.2⟩⟩
          | some p2 =>
            obtain ⟨c, a6⟩ := p2
            have CN := hide (offer_ok HS8.out.R hx hg hx2)
            have HP2 := hide (show pF ns m a6 (fs ++ [(g1, (c : Int))]) = R by rw [← pF_some hx hg hx2]; exact HP.out)
            clear hx hg hx2
            go_upto_region 10 with (first
              | (go_at_call 62; (apply Calls.mono; focus (exact CN.out)); rintro e w9 ⟨rfl, ho, hd⟩; have HS9 := hide (HS8.out.next ho hd); have T9 := hide (there_stays T8.out (ho.block _ (there_lt T8.out (by decide)) hgX)); clear ho hd)
              | refine wpList_store_mid rfl 93 _ _ rfl X 0 #[.int .u32 (g1 : Int), .int .i64 (c : Int)] rfl rfl T9.out (by kernel_rfl) (by kernel_rfl) ?_)
            obtain ⟨W10, hW10⟩ : ∃ q, q = w9.setCells X 0 [.int .u32 (g1 : Int), .int .i64 (c : Int)] := ⟨_, rfl⟩
            have hs10 : TSt z g B w W10 ns a6 fs v4 := by
              rw [hW10]
              exact HS9.out.free (below_sets FX.out.1 _ _ _ (Below.refl _ _)) (fun k hk => heap_sets_ne (by have := FX.out.2 k hk; omega) _ _ _)
            have RX := hide (show W10.rangeAt X 0 [.int .u32 (g1 : Int), .int .i64 (c : Int)] by rw [hW10]; exact World.rangeAt_setCells_same _ _ _ _ T9.out)
            have HS10 := hide hs10
            have c1 := (box_cell hs10.c).1
            have hsz := hs10.s
            have hal : Below W10.heap.size W10 (W10.alloc (.cells #[.int .u32 (g1 : Int), .int .i64 (c : Int)] 93)) := (Below.refl _ _).alloc (Nat.le_refl _) _
            have HS11 := hide (hs10.grow hal)
            rw [← hW10]
            clear hW10 hs10 hal t1 r1 HS9 HS8 T8 T9 CN
            go_wp2_with (first
              | refine wpList_load_mid rfl 93 _ rfl X 0 rfl [.int .u32 (g1 : Int), .int .i64 (c : Int)] _ RX.out Try.underlying93 rfl (by kernel_rfl) ?_
              | (at_builtin; refine wpList_append_rows _ rfl _ _ 27 rfl 93 i93 (.agg #[.int .u32 0, .int .i64 0]) 2 16 Try.underlying27 hi93 hz93 hs93 hb93 rfl (by decide) (z + 3) W10.heap.size v4 fs.length (flatF fs) rfl HS11.out.row (.slice (some ⟨W10.heap.size, 0, none⟩) 1 1) 1 [.int .u32 (g1 : Int), .int .i64 (c : Int)] rfl (World.ownsRow_lit W10 #[.int .u32 (g1 : Int), .int .i64 (c : Int)] 1 (Nat.le_refl _) (by decide) rfl) (fun u hu => by simp only [List.mem_cons, List.not_mem_nil, or_false] at hu; rcases hu with rfl | rfl <;> rfl) (by unfold maxLen; omega) (by omega) (by rw [World.size_alloc]; omega) ?_; intro v5 w12 h5 g5; obtain ⟨p5, c5, rfl⟩ := own_any h5; have HS12 := hide (HS11.out.push (fs' := fs ++ [(g1, (c : Int))]) g5 (by rw [flatF_app, List.length_append]; exact h5)); have c4 := (box_cell ((g5.block (z + 4) (by rw [World.size_alloc]; omega) (fun e => own_ne_box HS11.out.row HS11.out.c (by decide) e.symm)).trans HS11.out.c)); have y4 := c4.1; have f4 := c4.2; clear h5 g5 c4))
            go_roundw
            case rel => exact ⟨m, fs ++ [(g1, (c : Int))], a6, _, by go_num, rfl, by rw [List.length_append]; simp; omega, HP2.out, HS12.out⟩
            case measure => (first | (simp [intOf]; done) | (simp [intOf]; omega))
end Go.Proofs.Ytalnipjaekpbhaa

namespace Go.Proofs.Ytalnipjaekpbhaa
open Go.ChangeShapes Go.WideShapes Go.ChangeAt Go.RowKit Go.Deep
set_option linter.unusedSimpArgs false
set_option linter.unusedVariables false

theorem eql119 (a : Addr) (w : World) : Sem.run Try.prog (binOp .eql 119 (.pointer (some a)) (.pointer none)) w = .ok (.bool false) w := by kernel_rfl
set_option maxRecDepth 100000 in
set_option maxHeartbeats 4000000 in
theorem try_err {z g B : Nat} {w wr : World} {ns : List Nat} {a : Nat} {v : Value} (h : TSt z g B w wr ns a [] v) (he : (lg ns a 64).2.1 ≠ 0) : Calls Try.prog 87 #[.pointer (some ⟨g, 0, none⟩), (.func (.func 90) #[] #[.pointer (some ⟨z + 2, 0, none⟩), .pointer (some ⟨z + 1, 0, none⟩), .pointer (some ⟨z, 0, none⟩), .pointer (some ⟨z + 4, 0, none⟩)])] wr fun e w' => e = .returned (.int .i64 ((lg ns a 64).2.1 : Int)) ∧ KB z g w w' ∧ ∃ a2, RAny w' g B ns a2 := by
  have CC := hide (clo_err h he)
  obtain ⟨r, hr⟩ : ∃ q, q = (lg ns a 64).2.1 := ⟨_, rfl⟩
  rw [← hr] at CC he ⊢
  have HS := hide h
  obtain ⟨gl, gc, gf⟩ := h.R.cells
  have hal := h.R.more.1
  have d1 : ((r : Int) != 0) = true := by simp; omega
  clear hr h he
  go_enter Try.func87, Try.ntmps87
  go_wp2_with (go_at_call 90; (apply Calls.mono; focus (exact CC.out)); rintro e w1 ⟨rfl, a2, hs⟩; have HS1 := hide hs; have gc1 := hs.R.cells.2.1; have gf1 := hs.R.cells.2.2; clear hs)
  refine bodyPost_ret (v := .int .i64 (r : Int)) (by simp [results, Try.f87, go_sem]) rfl ⟨rfl, ?_, a, HS1.out.R.reset hal⟩
  exact HS1.out.o.trans ⟨rfl, rfl, rfl, Nat.le_of_eq (World.size_setCell _ _ _).symm, fun i _ hne => heap_setCell_other _ _ _ _ hne⟩
set_option maxRecDepth 100000 in
set_option maxHeartbeats 4000000 in
theorem try_ok {z g B : Nat} {w wr : World} {ns : List Nat} {a : Nat} {v : Value} (h : TSt z g B w wr ns a [] v) {n a2 : Nat} (he : lg ns a 64 = (n, 0, a2)) (h64 : n ≤ 64) {fs : List (Nat × Int)} {a3 : Nat} (hp : pF ns n a2 [] = some (fs, a3)) : Calls Try.prog 87 #[.pointer (some ⟨g, 0, none⟩), (.func (.func 90) #[] #[.pointer (some ⟨z + 2, 0, none⟩), .pointer (some ⟨z + 1, 0, none⟩), .pointer (some ⟨z, 0, none⟩), .pointer (some ⟨z + 4, 0, none⟩)])] wr fun e w' => e = .returned (.int .i64 0) ∧ ∃ v3, TSt z g B w w' ns a3 fs v3 := by
  have CC := hide ((clo_ok h he h64).mono (R' := fun e w' => e = .returned (.int .i64 0) ∧ ∃ v3, TSt z g B w w' ns a3 fs v3) (fun e w' hh => by
    rcases hh with ⟨h1, -⟩ | ⟨fs2, a4, v3, h1, h2, h3⟩
    · rw [hp] at h1; cases h1
    · rw [hp] at h1; cases h1; exact ⟨h2, v3, h3⟩))
  obtain ⟨gl, gc, gf⟩ := h.R.cells
  clear h he hp
  go_enter Try.func87, Try.ntmps87
  go_wp2_with (go_at_call 90; (apply Calls.mono; focus (exact CC.out)); rintro e w1 ⟨rfl, v3, hs⟩; have HS1 := hide hs; clear hs)
  refine bodyPost_ret (v := .int .i64 0) (by simp [results, Try.f87, go_sem]) rfl ⟨rfl, v3, HS1.out⟩
set_option maxRecDepth 100000 in
set_option maxHeartbeats 4000000 in
theorem try_die {z g B : Nat} {w wr : World} {ns : List Nat} {a : Nat} {v : Value} (h : TSt z g B w wr ns a [] v) {n a2 : Nat} (he : lg ns a 64 = (n, 0, a2)) (h64 : n ≤ 64) (hp : pF ns n a2 [] = none) : Calls Try.prog 87 #[.pointer (some ⟨g, 0, none⟩), (.func (.func 90) #[] #[.pointer (some ⟨z + 2, 0, none⟩), .pointer (some ⟨z + 1, 0, none⟩), .pointer (some ⟨z, 0, none⟩), .pointer (some ⟨z + 4, 0, none⟩)])] wr fun e w' => e = .panicked PC ∧ KB z g w w' ∧ ∃ a3, RAny w' g B ns a3 := by
  have CC := hide ((clo_ok h he h64).mono (R' := fun e w' => e = .panicked PC ∧ (KB z g w w' ∧ ∃ a3, RAny w' g B ns a3)) (fun e w' hh => by
    rcases hh with ⟨h1, h2, h3⟩ | ⟨fs2, a4, v3, h1, h2, h3⟩
    · exact ⟨h2, h3⟩
    · rw [hp] at h1; cases h1))
  obtain ⟨gl, gc, gf⟩ := h.R.cells
  clear h he hp
  go_enter Try.func87, Try.ntmps87
  go_wp2_with (go_at_call 90; (apply Calls.mono; focus (exact CC.out)); rintro e w1 ⟨rfl, hs⟩; have HS1 := hide hs; clear hs)
  exact ⟨rfl, rfl, HS1.out⟩

theorem take_start {z g B : Nat} {w W : World} {ns : List Nat} {a : Nat} (hR : RAny w g B ns a) (hz : z = w.heap.size) (hW : W = ((((w.alloc (.cells #[.pointer (some ⟨g, 0, none⟩)] 119)).alloc (.cells #[.int .i64 64] 3)).alloc (.cells #[.func (.func 62) #[] #[]] 128)).alloc (.cells #[] 93)).alloc (.cells #[.slice (some ⟨w.heap.size + 1 + 1 + 1, 0, none⟩) 0 0] 27)) : TSt z g B w W ns a [] (.slice (some ⟨w.heap.size + 3, 0, none⟩) 0 0) := by
  subst hz
  obtain ⟨w1, h1⟩ : ∃ q, q = w.alloc (.cells #[.pointer (some ⟨g, 0, none⟩)] 119) := ⟨_, rfl⟩
  obtain ⟨w2, h2⟩ : ∃ q, q = w1.alloc (.cells #[.int .i64 64] 3) := ⟨_, rfl⟩
  obtain ⟨w3, h3⟩ : ∃ q, q = w2.alloc (.cells #[.func (.func 62) #[] #[]] 128) := ⟨_, rfl⟩
  obtain ⟨w4, h4⟩ : ∃ q, q = w3.alloc (.cells #[] 93) := ⟨_, rfl⟩
  obtain ⟨w5, h5⟩ : ∃ w5, w5 = w4.alloc (.cells #[.slice (some ⟨w.heap.size + 3, 0, none⟩) 0 0] 27) := ⟨_, rfl⟩
  rw [← h1, ← h2, ← h3, ← h4, show w.heap.size + 1 + 1 + 1 = w.heap.size + 3 from rfl, ← h5] at hW
  rw [hW]
  have s1 : w1.heap.size = w.heap.size + 1 := by rw [h1]; exact World.size_alloc _ _
  have s2 : w2.heap.size = w.heap.size + 2 := by rw [h2, World.size_alloc, s1]
  have s3 : w3.heap.size = w.heap.size + 3 := by rw [h3, World.size_alloc, s2]
  have s4 : w4.heap.size = w.heap.size + 4 := by rw [h4, World.size_alloc, s3]
  have s5 : w5.heap.size = w.heap.size + 5 := by rw [h5, World.size_alloc, s4]
  have n1 : w1.heap[w.heap.size]? = some (.cells #[.pointer (some ⟨g, 0, none⟩)] 119) := by rw [h1]; exact heap_alloc_new w _
  have n2 : w2.heap[w.heap.size + 1]? = some (.cells #[.int .i64 64] 3) := by rw [h2, ← s1]; exact heap_alloc_new w1 _
  have n3 : w3.heap[w.heap.size + 2]? = some (.cells #[.func (.func 62) #[] #[]] 128) := by rw [h3, ← s2]; exact heap_alloc_new w2 _
  have n5 : w5.heap[w.heap.size + 4]? = some (.cells #[.slice (some ⟨w.heap.size + 3, 0, none⟩) 0 0] 27) := by rw [h5, ← s4]; exact heap_alloc_new w4 _
  have b2 : Below w1.heap.size w1 w2 := by rw [h2]; exact (Below.refl _ _).alloc (Nat.le_refl _) _
  have b3 : Below w2.heap.size w2 w3 := by rw [h3]; exact (Below.refl _ _).alloc (Nat.le_refl _) _
  have b4 : Below w3.heap.size w3 w4 := by rw [h4]; exact (Below.refl _ _).alloc (Nat.le_refl _) _
  have b5 : Below w4.heap.size w4 w5 := by rw [h5]; exact (Below.refl _ _).alloc (Nat.le_refl _) _
  have b1 : Below w.heap.size w w1 := by rw [h1]; exact (Below.refl _ _).alloc (Nat.le_refl _) _
  have hb5 : Below w.heap.size w w5 := bstep (bstep (bstep (bstep b1 b2) b3) b4) b5
  have k35 : ∀ i, i < w.heap.size + 3 → w5.heap[i]? = w3.heap[i]? := fun i hi => (b5.block i (by omega)).trans (b4.block i (by omega))
  refine ⟨KB.of_below hb5 (Nat.le_refl _), ((k35 _ (by omega)).trans n3), ((k35 _ (by omega)).trans ((b3.block _ (by omega)).trans n2)), ((k35 _ (by omega)).trans ((b3.block _ (by omega)).trans ((b2.block _ (by omega)).trans n1))), ?_, ?_, by omega, hR.below hb5, hR.cells.1, hR.1⟩
  · exact n5
  · have q : w4.ownsRow (w.heap.size + 3) 93 2 (.slice (some ⟨w.heap.size + 3, 0, none⟩) 0 0) 0 [] := by
      rw [h4, ← s3]
      exact World.ownsRow_lit (size := 2) w3 #[] 0 (Nat.le_refl _) (by decide) (by simp)
    exact own_below q b5
set_option maxRecDepth 100000 in
set_option maxHeartbeats 4000000 in
theorem Take_err {g B : Nat} {w : World} {ns : List Nat} {a : Nat} (hR : RAny w g B ns a) (he : (lg ns a 64).2.1 ≠ 0) : Calls Try.prog 61 #[.pointer (some ⟨g, 0, none⟩), .int .i64 64, .func (.func 62) #[] #[]] w fun e w' => e = .returned (.tuple #[.slice none 0 0, .int .i64 ((lg ns a 64).2.1 : Int)]) ∧ Only g w w' ∧ ∃ a2, RAny w' g B ns a2 := by
  obtain ⟨z, hz⟩ : ∃ z, z = w.heap.size := ⟨_, rfl⟩
  obtain ⟨W, hW⟩ : ∃ W, W = ((((w.alloc (.cells #[.pointer (some ⟨g, 0, none⟩)] 119)).alloc (.cells #[.int .i64 64] 3)).alloc (.cells #[.func (.func 62) #[] #[]] 128)).alloc (.cells #[] 93)).alloc (.cells #[.slice (some ⟨w.heap.size + 1 + 1 + 1, 0, none⟩) 0 0] 27) := ⟨_, rfl⟩
  have hst : TSt z g B w W ns a [] (.slice (some ⟨w.heap.size + 3, 0, none⟩) 0 0) := take_start hR hz hW
  have HW := hide hW
  have HS := hide hst
  have r1 := (box_cell hst.r).1
  have hmf : ∀ (fn : Fn) (first cap : Array Value) (w : World), (Instr.makeFunc fn first cap).run Try.prog w = .ok (.func fn first cap) w := fun _ _ _ _ => rfl
  have CC := hide (try_err hst he)
  obtain ⟨r, hr⟩ : ∃ q, q = (lg ns a 64).2.1 := ⟨_, rfl⟩
  rw [← hr] at CC he ⊢
  have d1 : ((r : Int) != 0) = true := by simp; omega
  have hz2 := hide hz
  clear hst hr he hW hR
  subst hz
  go_enter Try.func61, Try.ntmps61
  go_upto_region 2 with fail
  rw [← HW.out]
  go_wp2_with (go_at_call 87; (apply Calls.mono; focus (exact CC.out)); rintro e w1 ⟨rfl, hk, hd⟩; have HD := hide (And.intro hk hd); clear hk hd)
  refine bodyPost_ret (v := .tuple #[.slice none 0 0, .int .i64 (r : Int)]) (by simp [results, Try.f61, go_sem]) rfl ⟨rfl, HD.out.1.only (Below.refl _ _), HD.out.2⟩
set_option maxRecDepth 100000 in
set_option maxHeartbeats 4000000 in
theorem Take_ok {g B : Nat} {w : World} {ns : List Nat} {a : Nat} (hR : RAny w g B ns a) {n a2 : Nat} (he : lg ns a 64 = (n, 0, a2)) (h64 : n ≤ 64) {fs : List (Nat × Int)} {a3 : Nat} (hp : pF ns n a2 [] = some (fs, a3)) : Calls Try.prog 61 #[.pointer (some ⟨g, 0, none⟩), .int .i64 64, .func (.func 62) #[] #[]] w fun e w' => ∃ v, e = .returned (.tuple #[v, .int .i64 0]) ∧ Only g w w' ∧ RAny w' g B ns a3 ∧ w'.ownsRow w.heap.size 93 2 v fs.length (flatF fs) := by
  obtain ⟨z, hz⟩ : ∃ z, z = w.heap.size := ⟨_, rfl⟩
  obtain ⟨W, hW⟩ : ∃ W, W = ((((w.alloc (.cells #[.pointer (some ⟨g, 0, none⟩)] 119)).alloc (.cells #[.int .i64 64] 3)).alloc (.cells #[.func (.func 62) #[] #[]] 128)).alloc (.cells #[] 93)).alloc (.cells #[.slice (some ⟨w.heap.size + 1 + 1 + 1, 0, none⟩) 0 0] 27) := ⟨_, rfl⟩
  have hst : TSt z g B w W ns a [] (.slice (some ⟨w.heap.size + 3, 0, none⟩) 0 0) := take_start hR hz hW
  have HW := hide hW
  have HS := hide hst
  have r1 := (box_cell hst.r).1
  have hmf : ∀ (fn : Fn) (first cap : Array Value) (w : World), (Instr.makeFunc fn first cap).run Try.prog w = .ok (.func fn first cap) w := fun _ _ _ _ => rfl
  have CC := hide (try_ok hst he h64 hp)
  clear hst he hW hR hp
  subst hz
  go_enter Try.func61, Try.ntmps61
  go_upto_region 2 with fail
  rw [← HW.out]
  go_wp2_with (go_at_call 87; (apply Calls.mono; focus (exact CC.out)); rintro e w1 ⟨rfl, v3, hs⟩; obtain ⟨p3, c3, rfl⟩ := own_any hs.row; have HS1 := hide hs; have c1 : w1.cell? ⟨w.heap.size + 1 + 1 + 1 + 1, 0, none⟩ = _ := (box_cell hs.c).1; clear hs)
  refine bodyPost_ret (v := .tuple #[.slice p3 fs.length c3, .int .i64 0]) (by simp [results, Try.f61, go_sem]) rfl ⟨_, rfl, HS1.out.o.only (Below.refl _ _), HS1.out.R, own_lower HS1.out.row (by omega)⟩
set_option maxRecDepth 100000 in
set_option maxHeartbeats 4000000 in
theorem Take_die {g B : Nat} {w : World} {ns : List Nat} {a : Nat} (hR : RAny w g B ns a) {n a2 : Nat} (he : lg ns a 64 = (n, 0, a2)) (h64 : n ≤ 64) (hp : pF ns n a2 [] = none) : Calls Try.prog 61 #[.pointer (some ⟨g, 0, none⟩), .int .i64 64, .func (.func 62) #[] #[]] w fun e w' => e = .panicked PC ∧ Only g w w' ∧ ∃ a2, RAny w' g B ns a2 := by
  obtain ⟨z, hz⟩ : ∃ z, z = w.heap.size := ⟨_, rfl⟩
  obtain ⟨W, hW⟩ : ∃ W, W = ((((w.alloc (.cells #[.pointer (some ⟨g, 0, none⟩)] 119)).alloc (.cells #[.int .i64 64] 3)).alloc (.cells #[.func (.func 62) #[] #[]] 128)).alloc (.cells #[] 93)).alloc (.cells #[.slice (some ⟨w.heap.size + 1 + 1 + 1, 0, none⟩) 0 0] 27) := ⟨_, rfl⟩
  have hst : TSt z g B w W ns a [] (.slice (some ⟨w.heap.size + 3, 0, none⟩) 0 0) := take_start hR hz hW
  have HW := hide hW
  have HS := hide hst
  have r1 := (box_cell hst.r).1
  have hmf : ∀ (fn : Fn) (first cap : Array Value) (w : World), (Instr.makeFunc fn first cap).run Try.prog w = .ok (.func fn first cap) w := fun _ _ _ _ => rfl
  have CC := hide (try_die hst he h64 hp)
  clear hst he hW hR hp
  subst hz
  go_enter Try.func61, Try.ntmps61
  go_upto_region 2 with fail
  rw [← HW.out]
  go_wp2_with (go_at_call 87; (apply Calls.mono; focus (exact CC.out)); rintro e w1 ⟨rfl, hk, hd⟩; have HD := hide (And.intro hk hd); clear hk hd)
  exact ⟨rfl, rfl, HD.out.1.only (Below.refl _ _), HD.out.2⟩
end Go.Proofs.Ytalnipjaekpbhaa

namespace Go.Proofs.Ytalnipjaekpbhaa
open Go.ChangeShapes Go.WideShapes Go.ChangeAt Go.RowKit Go.Deep
set_option linter.unusedSimpArgs false
set_option linter.unusedVariables false

theorem wp_tmps {P : Program} {c : Code} {Q : Exit → Act → World → Prop} {t tm : Array Value} {w : World} (e : t = tm) (h : c.wp P Q { tmps := tm, defers := [] } w) : c.wp P Q { tmps := t, defers := [] } w := by rw [e]; exact h
set_option maxRecDepth 100000 in
set_option maxHeartbeats 2000000 in
theorem catch_panicking (R E : Nat) (x : Int) (u : TypeId) (pv : Value) (older : List PanicEntry) (w : World) (th : w.there R 0 18) (ec : w.heap[E]? = some (.cells #[.int .i64 x] 35)) (hne : E ≠ R) : CallsD Try.prog 57 #[.pointer (some ⟨R, 0, none⟩), .pointer (some ⟨E, 0, none⟩)] (.panicking ({ v := .iface u pv, recovered := false } :: older)) w fun e u' w' => e = .returned (.tuple #[]) ∧ u' = .panicking ({ v := .iface u pv, recovered := true } :: older) ∧ w' = (w.setCells R 0 [Value.int .i64 0, .string ⟨#[]⟩, .int .i64 0, .int .i64 0, .int .i64 0, .int .i64 0, .int .i64 0, .int .i64 0, .int .i64 0, .int .i64 0, .int .i64 0, .int .i64 0, .int .i64 0, .int .i64 0, .int .i64 0, .int .i64 0, .slice none 0 0, .int .i64 0]).setCell ⟨E, 0, none⟩ (.int .i64 332) := by
  obtain ⟨W1, hW1⟩ : ∃ W1, W1 = w.setCells R 0 [Value.int .i64 0, .string ⟨#[]⟩, .int .i64 0, .int .i64 0, .int .i64 0, .int .i64 0, .int .i64 0, .int .i64 0, .int .i64 0, .int .i64 0, .int .i64 0, .int .i64 0, .int .i64 0, .int .i64 0, .int .i64 0, .int .i64 0, .slice none 0 0, .int .i64 0] := ⟨_, rfl⟩
  rw [← hW1]
  have ec2 : W1.heap[E]? = some (.cells #[.int .i64 x] 35) := by rw [hW1]; exact (heap_sets_ne hne _ _ _).trans ec
  have c1 := (box_cell ec2).1
  have f1 := (box_cell ec2).2
  have TH := hide th
  have HW1 := hide hW1
  clear th ec ec2 hW1
  refine callsD_of_wpS Try.func57 rfl fun c₀ cs hu => ?_
  apply wpS_seq
  apply wpS_region
  simp [wpOpsS, go_sem, recoverD, hu, Try.ntmps57, Exit.thenS]
  refine wpS_cond (t := true) (by simp [Act.eval, Array.replicate]) ?_
  simp only [if_true]
  refine wpS_of_wp ?_
  refine wp_tmps (tm := #[.pointer (some ⟨R, 0, none⟩), .pointer (some ⟨E, 0, none⟩), .iface u pv, .bool true, undef]) (by simp) ?_
  obtain ⟨Q, hQ⟩ : ∃ Q : Exit → Act → World → Prop, Q = (fun e a' w' => bodyPostS Try.prog Try.f57 c₀ cs (fun e u' w' => e = Ending.returned (Value.tuple #[]) ∧ u' = FrameMode.panicking ({ v := Value.iface u pv, recovered := true } :: older) ∧ w' = W1.setCell ⟨E, 0, none⟩ (Value.int IntKind.i64 332)) e a' ({ c₀ with mode := FrameMode.panicking ({ v := Value.iface u pv, recovered := true } :: older) } :: cs) w') := ⟨_, rfl⟩
  refine (show Code.wp _ _ Q _ _ → _ from fun h => by rw [hQ] at h; exact h) ?_
  have HQ := hide (show ∀ t, Q .normal { tmps := t, defers := [] } (W1.setCell ⟨E, 0, none⟩ (Value.int IntKind.i64 332)) from fun t => by
    rw [hQ]
    exact ⟨rfl, _, rfl, .tuple #[], by simp [results, Try.f57], rfl, rfl, rfl⟩)
  clear hQ
  go_wp2_with (refine wpList_store_mid rfl 29 _ _ rfl R 0 #[Value.int .i64 0, .string ⟨#[]⟩, .int .i64 0, .int .i64 0, .int .i64 0, .int .i64 0, .int .i64 0, .int .i64 0, .int .i64 0, .int .i64 0, .int .i64 0, .int .i64 0, .int .i64 0, .int .i64 0, .int .i64 0, .int .i64 0, .slice none 0 0, .int .i64 0] rfl rfl TH.out (by kernel_rfl) (by kernel_rfl) ?_; rw [show w.setCells R 0 (#[Value.int .i64 0, .string ⟨#[]⟩, .int .i64 0, .int .i64 0, .int .i64 0, .int .i64 0, .int .i64 0, .int .i64 0, .int .i64 0, .int .i64 0, .int .i64 0, .int .i64 0, .int .i64 0, .int .i64 0, .int .i64 0, .int .i64 0, .slice none 0 0, .int .i64 0] : Array Value).toList = W1 from HW1.out.symm])
  exact HQ.out _
theorem catch_idle (R E : Nat) (w : World) : CallsD Try.prog 57 #[.pointer (some ⟨R, 0, none⟩), .pointer (some ⟨E, 0, none⟩)] .returning w fun e u' w' => e = .returned (.tuple #[]) ∧ u' = .returning ∧ w' = w := by
  refine callsD_of_wpS Try.func57 rfl fun c₀ cs hu => ?_
  apply wpS_seq
  apply wpS_region
  simp [wpOpsS, go_sem, recoverD, hu, Try.ntmps57, Exit.thenS]
  refine wpS_cond (t := false) (by simp [Act.eval, Array.replicate]) ?_
  simp only [Bool.false_eq_true, if_false]
  refine wpS_of_wp (wp_skip ?_)
  cases c₀
  simp_all [bodyPostS, results, Try.f57]
theorem set_range {w : World} {b c : Nat} (h : c ≠ b) {x : Value} {o : Nat} {cs : List Value} (hr : w.rangeAt b o cs) : (w.setCell ⟨c, 0, none⟩ x).rangeAt b o cs := fun j v hv => (World.cell?_of_block (a := ⟨b, o + j, none⟩) (heap_setCell_other _ _ _ _ (Ne.symm h))).trans (hr j v hv)
/-- Read's door: the two results are read out of their cells -/
theorem read_results {tmps : Array Value} {w : World} {R E : Nat} {x : Int} {cs : List Value} (h2 : tmps.getD 2 undef = .pointer (some ⟨R, 0, none⟩)) (h3 : tmps.getD 3 undef = .pointer (some ⟨E, 0, none⟩)) (hr : w.rangeAt R 0 cs) (hl : cs.length = 18) (ec : w.heap[E]? = some (.cells #[.int .i64 x] 35)) : (results Try.f20 tmps).run Try.prog w = .ok (.tuple #[.agg cs.toArray, .int .i64 x]) w := by
  refine results_cell2 rfl h2 (run_loadVar_mid w R 0 29 cs _ hr Try.underlying29 rfl (by rw [hl]; kernel_rfl)) h3 ?_
  have c := (box_cell ec).1
  simp [loadVar, go_sem, c]
theorem read_die {tmps : Array Value} {w : World} {post : Ending → World → Prop} {R E : Nat} {x : Int} (h2 : tmps.getD 2 undef = .pointer (some ⟨R, 0, none⟩)) (h3 : tmps.getD 3 undef = .pointer (some ⟨E, 0, none⟩)) (th : w.there R 0 18) (ec : w.heap[E]? = some (.cells #[.int .i64 x] 35)) (hne : E ≠ R) (hp : post (.returned (.tuple #[ordV (zeroO 0) (.slice none 0 0), .int .i64 332])) ((w.setCells R 0 [Value.int .i64 0, .string ⟨#[]⟩, .int .i64 0, .int .i64 0, .int .i64 0, .int .i64 0, .int .i64 0, .int .i64 0, .int .i64 0, .int .i64 0, .int .i64 0, .int .i64 0, .int .i64 0, .int .i64 0, .int .i64 0, .int .i64 0, .slice none 0 0, .int .i64 0]).setCell ⟨E, 0, none⟩ (.int .i64 332))) : bodyPostD Try.prog Try.f20 post (.panic PC) { tmps := tmps, defers := [{ target := .fn (.func 57) #[.pointer (some ⟨R, 0, none⟩), .pointer (some ⟨E, 0, none⟩)], args := #[] }] } w := by
  refine leaves_cons (f := 57) (args := #[.pointer (some ⟨R, 0, none⟩), .pointer (some ⟨E, 0, none⟩)]) (by simp) (by simp [go_sem]) ?_
  refine (catch_panicking R E x 125 _ [] w th ec hne).mono ?_
  rintro e u' w'' ⟨rfl, rfl, rfl⟩
  show Leaves _ _ _ _ [] (settle (.panicking ({ v := .iface 125 (.agg #[]), recovered := true } :: []))) _
  refine ⟨_, read_results h2 h3 (set_range hne (World.rangeAt_setCells_same _ _ _ _ th)) rfl (box_set (x := .int .i64 x) ((heap_sets_ne hne _ _ _).trans ec) _), hp⟩
theorem read_ret {tmps : Array Value} {w : World} {post : Ending → World → Prop} {R E : Nat} {x : Int} {o : Ord} {ov : Value} (h2 : tmps.getD 2 undef = .pointer (some ⟨R, 0, none⟩)) (h3 : tmps.getD 3 undef = .pointer (some ⟨E, 0, none⟩)) (hb : BoxO w R o ov) (ec : w.heap[E]? = some (.cells #[.int .i64 x] 35)) (hp : post (.returned (.tuple #[ordV o ov, .int .i64 x])) w) : bodyPostD Try.prog Try.f20 post .ret { tmps := tmps, defers := [{ target := .fn (.func 57) #[.pointer (some ⟨R, 0, none⟩), .pointer (some ⟨E, 0, none⟩)], args := #[] }] } w := by
  refine leaves_cons (f := 57) (args := #[.pointer (some ⟨R, 0, none⟩), .pointer (some ⟨E, 0, none⟩)]) (by simp) (by simp [go_sem]) ?_
  refine (catch_idle R E w).mono ?_
  rintro e u' w'' ⟨rfl, rfl, rfl⟩
  exact ⟨_, read_results h2 h3 hb.range rfl ec, hp⟩
theorem RAny.setI {w : World} {g B : Nat} {ns : List Nat} {a h : Nat} (k : RAny w g B ns a) (h1 : h ≠ g) (hne : ∀ j y, w.cell? ⟨h, j, none⟩ ≠ some (.int .u8 y)) (o : Nat) (u : Value) : RAny (w.setCell ⟨h, o, none⟩ u) g B ns a := by
  obtain ⟨hB, ⟨b, off, cap, hb2, k⟩ | ⟨k, k2⟩⟩ := k
  · by_cases e : h = b
    · subst e
      obtain ⟨q1, q2, q3, q4, q5, q6, q7, q8, q9, q10⟩ := k
      have hn : ns = [] := by
        cases hns : ns with
        | nil => rfl
        | cons x l =>
          have q := q6 0 (by rw [hns]; exact Nat.succ_pos _)
          exact absurd q (hne _ _)
      subst hn
      exact ⟨by simpa using hB, .inl ⟨h, off, cap, hb2, by simpa using q1, fun i => (World.cell?_of_block (heap_setCell_other _ _ _ _ (Ne.symm h1))).trans (q2 i), fun i => (World.frozen?_setCell _ _ _ _).trans (q3 i), by simpa using q4, q5, (fun j hj => by cases hj), q7, q8, q9, q10⟩⟩
    · exact ⟨by simpa using hB, .inl ⟨b, off, cap, hb2, k.set h1 e o u⟩⟩
  · exact ⟨by simpa using hB, .inr ⟨k.set h1 o u, k2⟩⟩
/-- Read under way: the order that comes about, the error, the reader -/
structure ESt (g B : Nat) (w wr : World) (ns : List Nat) (a : Nat) (o : Ord) (ov : Value) (x : Int) : Prop where
  b : Below w.heap.size w wr
  hp : ∃ cs : Array Value, wr.heap[w.heap.size]? = some (.cells cs 29) ∧ cs.size = 18
  box : BoxO wr w.heap.size o ov
  nv : ∀ y, ov ≠ .int .u8 y
  ec : wr.heap[w.heap.size + 1]? = some (.cells #[.int .i64 x] 35)
  R : RAny wr g B ns a
  gz : w.heap.size + 2 ≤ g
section
variable {g B : Nat} {w wr w' : World} {ns : List Nat} {a a2 : Nat} {o : Ord} {ov : Value} {x : Int}
theorem ESt.sz (h : ESt g B w wr ns a o ov x) : w.heap.size + 2 ≤ wr.heap.size := by have := h.R.cells.1; have := h.gz; omega
theorem ESt.next (h : ESt g B w wr ns a o ov x) (ho : Only g wr w') (hR : RAny w' g B ns a2) : ESt g B w w' ns a2 o ov x := by
  have hs := h.sz
  have hg := h.gz
  have b0 := ho.block w.heap.size (by omega) (by omega)
  obtain ⟨cs, h1, h2⟩ := h.hp
  exact ⟨below_only h.b ho (by omega), ⟨cs, b0.trans h1, h2⟩, h.box.stays b0, h.nv, (ho.block _ (by omega) (by omega)).trans h.ec, hR, hg⟩
theorem ESt.grow (h : ESt g B w wr ns a o ov x) (hb : Below wr.heap.size wr w') : ESt g B w w' ns a o ov x := by
  have hs := h.sz
  have b0 := hb.block w.heap.size (by omega)
  obtain ⟨cs, h1, h2⟩ := h.hp
  exact ⟨bstep h.b hb, ⟨cs, b0.trans h1, h2⟩, h.box.stays b0, h.nv, (hb.block _ (by omega)).trans h.ec, h.R.below hb, h.gz⟩
theorem ESt.no8 (h : ESt g B w wr ns a o ov x) : ∀ j y, wr.cell? ⟨w.heap.size, j, none⟩ ≠ some (.int .u8 y) := by
  intro j y e
  obtain ⟨cs, h1, h2⟩ := h.hp
  have q := cell_of_row wr w.heap.size j cs 29 (0, 0) h1
  by_cases hj : j < 18
  · rw [h.box.c j hj] at e
    obtain rfl | rfl | rfl | rfl | rfl | rfl | rfl | rfl | rfl | rfl | rfl | rfl | rfl | rfl | rfl | rfl | rfl | rfl : j = 0 ∨ j = 1 ∨ j = 2 ∨ j = 3 ∨ j = 4 ∨ j = 5 ∨ j = 6 ∨ j = 7 ∨ j = 8 ∨ j = 9 ∨ j = 10 ∨ j = 11 ∨ j = 12 ∨ j = 13 ∨ j = 14 ∨ j = 15 ∨ j = 16 ∨ j = 17 := by omega
    all_goals first | (cases e; done) | exact h.nv y (Option.some.inj e)
  · rw [e, Array.getElem?_eq_none (by omega)] at q
    cases q
theorem ESt.no8e (h : ESt g B w wr ns a o ov x) : ∀ j y, wr.cell? ⟨w.heap.size + 1, j, none⟩ ≠ some (.int .u8 y) := by
  intro j y e
  have q := cell_of_row wr (w.heap.size + 1) j _ 35 (0, 0) h.ec
  rw [e] at q
  rcases j with _ | j
  · cases q
  · simp at q
theorem ESt.put (h : ESt g B w wr ns a o ov x) {j : Nat} {u : Value} {o2 : Ord} {ov2 : Value} (hb : BoxO (wr.setCell ⟨w.heap.size, j, none⟩ u) w.heap.size o2 ov2) (hv : ∀ y, ov2 ≠ .int .u8 y) : ESt g B w (wr.setCell ⟨w.heap.size, j, none⟩ u) ns a o2 ov2 x := by
  have hg := h.gz
  obtain ⟨cs, h1, h2⟩ := h.hp
  exact ⟨h.b.setCell (p := ⟨w.heap.size, j, none⟩) (Nat.le_refl _) _, ⟨_, heap_setCell_same wr _ j cs 29 u h1, by simpa using h2⟩, hb, hv, (heap_setCell_other _ _ _ _ (by show w.heap.size + 1 ≠ w.heap.size; omega)).trans h.ec, h.R.setI (by omega) h.no8 _ _, hg⟩
theorem ESt.err (h : ESt g B w wr ns a o ov x) (y : Int) : ESt g B w (wr.setCell ⟨w.heap.size + 1, 0, none⟩ (.int .i64 y)) ns a o ov y := by
  have hg := h.gz
  have b0 : (wr.setCell ⟨w.heap.size + 1, 0, none⟩ (.int .i64 y)).heap[w.heap.size]? = wr.heap[w.heap.size]? := heap_setCell_other _ _ _ _ (by show w.heap.size ≠ w.heap.size + 1; omega)
  obtain ⟨cs, h1, h2⟩ := h.hp
  exact ⟨h.b.setCell (p := ⟨w.heap.size + 1, 0, none⟩) (by simp) _, ⟨cs, b0.trans h1, h2⟩, h.box.stays b0, h.nv, box_set h.ec _, h.R.setI (by omega) h.no8e _ _, hg⟩
end
theorem BoxO.kinded {w : World} {ob : Nat} {o : Ord} {ov : Value} (h : BoxO w ob o ov) (k : Int) : BoxO (w.setCell ⟨ob, 0, none⟩ (.int .i64 k)) ob { o with kind := k } ov := by
  refine ⟨fun i hi => ?_, fun i => (World.frozen?_setCell _ _ _ _).trans (h.f i)⟩
  by_cases e : 0 = i
  · subst e
    rw [World.cell?_setCell_same' _ _ _ (by rw [h.c 0 (by decide)]; rfl)]; rfl
  · rw [World.cell?_setCell_other _ _ _ _ (by intro e2; injection e2 with _ e2; exact e e2), h.c i hi]
    match i, hi with
    | 0, _ => exact absurd rfl e
    | j + 1, _ => rfl
theorem assign_nil (js : List Nat) (i : Nat) : assign js [] i = 0 := by cases js <;> rfl
theorem assign_snoc : ∀ (js xs : List Nat) (x i : Nat), js.Nodup → xs.length < js.length → assign js (xs ++ [x]) i = if i = js.getD xs.length 0 then (x : Int) else assign js xs i
  | [], xs, x, i, _, h => by cases h
  | j :: js, [], x, i, hn, _ => by
    show (if i = j then (x : Int) else assign js [] i) = if i = j then (x : Int) else 0
    rw [assign_nil]
  | j :: js, y :: ys, x, i, hn, hl => by
    have hl2 : ys.length < js.length := by simpa using hl
    have ih := assign_snoc js ys x i (List.nodup_cons.1 hn).2 hl2
    have e : (j :: js).getD (y :: ys).length 0 = js.getD ys.length 0 := by simp [List.getD_eq_getElem?_getD]
    rw [e]
    show (if i = j then (y : Int) else assign js (ys ++ [x]) i) = if i = js.getD ys.length 0 then (x : Int) else (if i = j then (y : Int) else assign js ys i)
    have hne : js.getD ys.length 0 ≠ j := fun h => (List.nodup_cons.1 hn).1 (by rw [← h]; exact getD_mem hl2)
    by_cases h1 : i = j
    · rw [if_pos h1, if_pos h1, if_neg (fun h => hne (by rw [← h, h1]))]
    · rw [if_neg h1, if_neg h1, ih]
theorem mkO_snoc (k : Nat) (nm l : List Nat) (fs : List (Nat × Int)) (x : Nat) (h : l.length < (numL (k : Int)).length) : (mkO k nm l fs).upd ((numL (k : Int)).getD l.length 0) (x : Int) = mkO k nm (l ++ [x]) fs := by
  unfold mkO ofO Ord.upd
  simp only [Ord.mk.injEq, true_and, and_true]
  funext i
  rw [assign_snoc _ _ _ _ (numL_nodup _) h]
  by_cases e : i = (numL (k : Int)).getD l.length 0
  · rw [if_pos e, e, if_pos (getD_mem h), if_pos rfl]
  · rw [if_neg e, if_neg e]
end Go.Proofs.Ytalnipjaekpbhaa

