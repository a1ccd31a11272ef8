import Derived.Test.YtiopohdhadilfaaY3
namespace Go.Proofs.Ytiopohdhadilfaa
open Go.ChangeShapes Go.WideShapes Go.ChangeAt Go.RowKit Go.Deep
set_option linter.unusedSimpArgs false
set_option linter.unusedVariables false

set_option maxHeartbeats 2000000 in
theorem tells_nil (tk : Int) (w : World) : Calls Try.prog 23 #[.pointer none, .pointer none, .int .i64 tk] w fun e w' => e = .returned (.bool true) ∧ Below w.heap.size w w' := by
  go_enter Try.func23, Try.ntmps23
  go_wp2_with fail
  refine (Sold_nil _).mono ?_
  rintro e w1 ⟨rfl, hb1⟩
  have HB1 : Below w.heap.size w w1 := hb1
  clear hb1
  go_wp2_with fail
  refine (At_nil tk _).mono ?_
  rintro e w2 ⟨rfl, hb2⟩
  have HB2 : Below w.heap.size w w2 := bstep HB1 hb2
  clear hb2 HB1
  go_wp2_with fail
  refine (rAt_nil tk _).mono ?_
  rintro e w3 ⟨rfl, hb3⟩
  have HB3 : Below w.heap.size w w3 := bstep HB2 hb3
  clear hb3 HB2
  go_wp2
  go_ret
  exact ⟨by first | rfl | (simp; done), HB3⟩

set_option maxHeartbeats 2000000 in
theorem tells_run (k op cl st sp ex la fl fa co ru tk : Int) (g h2 : Nat) (w : World) (h : LotOK k op cl st sp ex la fl fa co ru) (r1 : op ≤ tk) (r2 : tk < cl) (hg : g < w.heap.size) (hc : ∀ o, w.cell? ⟨g, o, none⟩ = (#[Value.int .i64 k, Value.int .i64 op, Value.int .i64 cl, Value.int .i64 st, Value.int .i64 sp, Value.int .i64 ex, Value.int .i64 la, Value.int .i64 fl, Value.int .i64 fa, Value.int .i64 co, Value.int .i64 ru, Value.pointer none] : Array Value)[o]?) (hf : ∀ o, w.frozen? ⟨g, o, none⟩ = false) (rg : h2 < w.heap.size) (rc : ∀ o, w.cell? ⟨h2, o, none⟩ = (#[Value.int .i64 k, Value.int .i64 op, Value.int .i64 cl, Value.int .i64 st, Value.int .i64 sp, Value.int .i64 ex, Value.int .i64 la, Value.int .i64 fl, Value.int .i64 fa, Value.int .i64 co, Value.int .i64 ru, Value.bool false, Value.int .i64 0, Value.int .i64 0, Value.int .i64 0] : Array Value)[o]?) (rf : ∀ o, w.frozen? ⟨h2, o, none⟩ = false) : Calls Try.prog 23 #[.pointer (some ⟨g, 0, none⟩), .pointer (some ⟨h2, 0, none⟩), .int .i64 tk] w fun e w' => e = .returned (.bool true) ∧ Below w.heap.size w w' := by
  have gc := hide hc
  have gf := hide hf
  have rc' := hide rc
  have rf' := hide rf
  have gz := hg
  have rz := rg
  clear hc hf rc rf
  have rc := rc'
  have rf := rf'
  clear rc' rf'
  go_enter Try.func23, Try.ntmps23
  go_wp2_with fail
  refine (Sold_no k op cl st sp ex la fl fa co ru g _ h gz gc.out gf.out).mono ?_
  rintro e w1 ⟨rfl, hb1⟩
  have HB1 : Below w.heap.size w w1 := hb1
  have gz1 : g < w1.heap.size := Nat.lt_of_lt_of_le gz hb1.size
  have rz1 : h2 < w1.heap.size := Nat.lt_of_lt_of_le rz hb1.size
  have gc1 := hide (show ∀ o, w1.cell? ⟨g, o, none⟩ = (#[Value.int .i64 k, Value.int .i64 op, Value.int .i64 cl, Value.int .i64 st, Value.int .i64 sp, Value.int .i64 ex, Value.int .i64 la, Value.int .i64 fl, Value.int .i64 fa, Value.int .i64 co, Value.int .i64 ru, Value.pointer none] : Array Value)[o]? from fun o => (hb1.cell (p := ⟨g, o, none⟩) gz).trans (gc.out o))
  have gf1 := hide (show ∀ o, w1.frozen? ⟨g, o, none⟩ = false from fun o => (hb1.frozen (p := ⟨g, o, none⟩) gz).trans (gf.out o))
  have rc1 := hide (show ∀ o, w1.cell? ⟨h2, o, none⟩ = (#[Value.int .i64 k, Value.int .i64 op, Value.int .i64 cl, Value.int .i64 st, Value.int .i64 sp, Value.int .i64 ex, Value.int .i64 la, Value.int .i64 fl, Value.int .i64 fa, Value.int .i64 co, Value.int .i64 ru, Value.bool false, Value.int .i64 0, Value.int .i64 0, Value.int .i64 0] : Array Value)[o]? from fun o => (hb1.cell (p := ⟨h2, o, none⟩) rz).trans (rc.out o))
  have rf1 := hide (show ∀ o, w1.frozen? ⟨h2, o, none⟩ = false from fun o => (hb1.frozen (p := ⟨h2, o, none⟩) rz).trans (rf.out o))
  clear hb1
  go_wp2_with fail
  refine (At_ok k op cl st sp ex la fl fa co ru tk g _ h gz1 gc1.out gf1.out r1 r2).mono ?_
  rintro e w2 ⟨rfl, hb2⟩
  have HB2 : Below w.heap.size w w2 := bstep HB1 hb2
  have gz2 : g < w2.heap.size := Nat.lt_of_lt_of_le gz1 hb2.size
  have rz2 : h2 < w2.heap.size := Nat.lt_of_lt_of_le rz1 hb2.size
  have gc2 := hide (show ∀ o, w2.cell? ⟨g, o, none⟩ = (#[Value.int .i64 k, Value.int .i64 op, Value.int .i64 cl, Value.int .i64 st, Value.int .i64 sp, Value.int .i64 ex, Value.int .i64 la, Value.int .i64 fl, Value.int .i64 fa, Value.int .i64 co, Value.int .i64 ru, Value.pointer none] : Array Value)[o]? from fun o => (hb2.cell (p := ⟨g, o, none⟩) gz1).trans (gc1.out o))
  have gf2 := hide (show ∀ o, w2.frozen? ⟨g, o, none⟩ = false from fun o => (hb2.frozen (p := ⟨g, o, none⟩) gz1).trans (gf1.out o))
  have rc2 := hide (show ∀ o, w2.cell? ⟨h2, o, none⟩ = (#[Value.int .i64 k, Value.int .i64 op, Value.int .i64 cl, Value.int .i64 st, Value.int .i64 sp, Value.int .i64 ex, Value.int .i64 la, Value.int .i64 fl, Value.int .i64 fa, Value.int .i64 co, Value.int .i64 ru, Value.bool false, Value.int .i64 0, Value.int .i64 0, Value.int .i64 0] : Array Value)[o]? from fun o => (hb2.cell (p := ⟨h2, o, none⟩) rz1).trans (rc1.out o))
  have rf2 := hide (show ∀ o, w2.frozen? ⟨h2, o, none⟩ = false from fun o => (hb2.frozen (p := ⟨h2, o, none⟩) rz1).trans (rf1.out o))
  clear hb2 HB1
  go_wp2_with fail
  refine (rAt_ok k op cl st sp ex la fl fa co ru 0 0 0 tk h2 _ h rz2 rc2.out rf2.out r1 r2).mono ?_
  rintro e w3 ⟨rfl, hb3⟩
  have HB3 : Below w.heap.size w w3 := bstep HB2 hb3
  have gz3 : g < w3.heap.size := Nat.lt_of_lt_of_le gz2 hb3.size
  have rz3 : h2 < w3.heap.size := Nat.lt_of_lt_of_le rz2 hb3.size
  have gc3 := hide (show ∀ o, w3.cell? ⟨g, o, none⟩ = (#[Value.int .i64 k, Value.int .i64 op, Value.int .i64 cl, Value.int .i64 st, Value.int .i64 sp, Value.int .i64 ex, Value.int .i64 la, Value.int .i64 fl, Value.int .i64 fa, Value.int .i64 co, Value.int .i64 ru, Value.pointer none] : Array Value)[o]? from fun o => (hb3.cell (p := ⟨g, o, none⟩) gz2).trans (gc2.out o))
  have gf3 := hide (show ∀ o, w3.frozen? ⟨g, o, none⟩ = false from fun o => (hb3.frozen (p := ⟨g, o, none⟩) gz2).trans (gf2.out o))
  have rc3 := hide (show ∀ o, w3.cell? ⟨h2, o, none⟩ = (#[Value.int .i64 k, Value.int .i64 op, Value.int .i64 cl, Value.int .i64 st, Value.int .i64 sp, Value.int .i64 ex, Value.int .i64 la, Value.int .i64 fl, Value.int .i64 fa, Value.int .i64 co, Value.int .i64 ru, Value.bool false, Value.int .i64 0, Value.int .i64 0, Value.int .i64 0] : Array Value)[o]? from fun o => (hb3.cell (p := ⟨h2, o, none⟩) rz2).trans (rc2.out o))
  have rf3 := hide (show ∀ o, w3.frozen? ⟨h2, o, none⟩ = false from fun o => (hb3.frozen (p := ⟨h2, o, none⟩) rz2).trans (rf2.out o))
  clear hb3 HB2
  have RC := rc3.out
  clear gc1 gc2 rc1 rc2 gf1 gf2 rf1 rf2 gc3 gf3 rc3 rf3
  go_wp2
  go_ret
  exact ⟨by first | rfl | (simp; done), HB3⟩

set_option maxHeartbeats 2000000 in
theorem tells_time (k op cl st sp ex la fl fa co ru tk : Int) (g h2 : Nat) (w : World) (h : LotOK k op cl st sp ex la fl fa co ru) (r : tk < op ∨ cl ≤ tk) (hg : g < w.heap.size) (hc : ∀ o, w.cell? ⟨g, o, none⟩ = (#[Value.int .i64 k, Value.int .i64 op, Value.int .i64 cl, Value.int .i64 st, Value.int .i64 sp, Value.int .i64 ex, Value.int .i64 la, Value.int .i64 fl, Value.int .i64 fa, Value.int .i64 co, Value.int .i64 ru, Value.pointer none] : Array Value)[o]?) (hf : ∀ o, w.frozen? ⟨g, o, none⟩ = false) (rg : h2 < w.heap.size) (rc : ∀ o, w.cell? ⟨h2, o, none⟩ = (#[Value.int .i64 k, Value.int .i64 op, Value.int .i64 cl, Value.int .i64 st, Value.int .i64 sp, Value.int .i64 ex, Value.int .i64 la, Value.int .i64 fl, Value.int .i64 fa, Value.int .i64 co, Value.int .i64 ru, Value.bool false, Value.int .i64 0, Value.int .i64 0, Value.int .i64 0] : Array Value)[o]?) (rf : ∀ o, w.frozen? ⟨h2, o, none⟩ = false) : Calls Try.prog 23 #[.pointer (some ⟨g, 0, none⟩), .pointer (some ⟨h2, 0, none⟩), .int .i64 tk] w fun e w' => e = .returned (.bool true) ∧ Below w.heap.size w w' := by
  have hr := hide r
  clear r
  have gc := hide hc
  have gf := hide hf
  have rc' := hide rc
  have rf' := hide rf
  have gz := hg
  have rz := rg
  clear hc hf rc rf
  have rc := rc'
  have rf := rf'
  clear rc' rf'
  go_enter Try.func23, Try.ntmps23
  go_wp2_with fail
  refine (Sold_no k op cl st sp ex la fl fa co ru g _ h gz gc.out gf.out).mono ?_
  rintro e w1 ⟨rfl, hb1⟩
  have HB1 : Below w.heap.size w w1 := hb1
  have gz1 : g < w1.heap.size := Nat.lt_of_lt_of_le gz hb1.size
  have rz1 : h2 < w1.heap.size := Nat.lt_of_lt_of_le rz hb1.size
  have gc1 := hide (show ∀ o, w1.cell? ⟨g, o, none⟩ = (#[Value.int .i64 k, Value.int .i64 op, Value.int .i64 cl, Value.int .i64 st, Value.int .i64 sp, Value.int .i64 ex, Value.int .i64 la, Value.int .i64 fl, Value.int .i64 fa, Value.int .i64 co, Value.int .i64 ru, Value.pointer none] : Array Value)[o]? from fun o => (hb1.cell (p := ⟨g, o, none⟩) gz).trans (gc.out o))
  have gf1 := hide (show ∀ o, w1.frozen? ⟨g, o, none⟩ = false from fun o => (hb1.frozen (p := ⟨g, o, none⟩) gz).trans (gf.out o))
  have rc1 := hide (show ∀ o, w1.cell? ⟨h2, o, none⟩ = (#[Value.int .i64 k, Value.int .i64 op, Value.int .i64 cl, Value.int .i64 st, Value.int .i64 sp, Value.int .i64 ex, Value.int .i64 la, Value.int .i64 fl, Value.int .i64 fa, Value.int .i64 co, Value.int .i64 ru, Value.bool false, Value.int .i64 0, Value.int .i64 0, Value.int .i64 0] : Array Value)[o]? from fun o => (hb1.cell (p := ⟨h2, o, none⟩) rz).trans (rc.out o))
  have rf1 := hide (show ∀ o, w1.frozen? ⟨h2, o, none⟩ = false from fun o => (hb1.frozen (p := ⟨h2, o, none⟩) rz).trans (rf.out o))
  clear hb1
  go_wp2_with fail
  refine (At_time k op cl st sp ex la fl fa co ru tk g _ h gz1 gc1.out gf1.out hr.out).mono ?_
  rintro e w2 ⟨rfl, hb2⟩
  have HB2 : Below w.heap.size w w2 := bstep HB1 hb2
  have gz2 : g < w2.heap.size := Nat.lt_of_lt_of_le gz1 hb2.size
  have rz2 : h2 < w2.heap.size := Nat.lt_of_lt_of_le rz1 hb2.size
  have gc2 := hide (show ∀ o, w2.cell? ⟨g, o, none⟩ = (#[Value.int .i64 k, Value.int .i64 op, Value.int .i64 cl, Value.int .i64 st, Value.int .i64 sp, Value.int .i64 ex, Value.int .i64 la, Value.int .i64 fl, Value.int .i64 fa, Value.int .i64 co, Value.int .i64 ru, Value.pointer none] : Array Value)[o]? from fun o => (hb2.cell (p := ⟨g, o, none⟩) gz1).trans (gc1.out o))
  have gf2 := hide (show ∀ o, w2.frozen? ⟨g, o, none⟩ = false from fun o => (hb2.frozen (p := ⟨g, o, none⟩) gz1).trans (gf1.out o))
  have rc2 := hide (show ∀ o, w2.cell? ⟨h2, o, none⟩ = (#[Value.int .i64 k, Value.int .i64 op, Value.int .i64 cl, Value.int .i64 st, Value.int .i64 sp, Value.int .i64 ex, Value.int .i64 la, Value.int .i64 fl, Value.int .i64 fa, Value.int .i64 co, Value.int .i64 ru, Value.bool false, Value.int .i64 0, Value.int .i64 0, Value.int .i64 0] : Array Value)[o]? from fun o => (hb2.cell (p := ⟨h2, o, none⟩) rz1).trans (rc1.out o))
  have rf2 := hide (show ∀ o, w2.frozen? ⟨h2, o, none⟩ = false from fun o => (hb2.frozen (p := ⟨h2, o, none⟩) rz1).trans (rf1.out o))
  clear hb2 HB1
  go_wp2_with fail
  refine (rAt_time k op cl st sp ex la fl fa co ru 0 0 0 tk h2 _ rz2 rc2.out rf2.out hr.out).mono ?_
  rintro e w3 ⟨rfl, hb3⟩
  have HB3 : Below w.heap.size w w3 := bstep HB2 hb3
  have gz3 : g < w3.heap.size := Nat.lt_of_lt_of_le gz2 hb3.size
  have rz3 : h2 < w3.heap.size := Nat.lt_of_lt_of_le rz2 hb3.size
  have gc3 := hide (show ∀ o, w3.cell? ⟨g, o, none⟩ = (#[Value.int .i64 k, Value.int .i64 op, Value.int .i64 cl, Value.int .i64 st, Value.int .i64 sp, Value.int .i64 ex, Value.int .i64 la, Value.int .i64 fl, Value.int .i64 fa, Value.int .i64 co, Value.int .i64 ru, Value.pointer none] : Array Value)[o]? from fun o => (hb3.cell (p := ⟨g, o, none⟩) gz2).trans (gc2.out o))
  have gf3 := hide (show ∀ o, w3.frozen? ⟨g, o, none⟩ = false from fun o => (hb3.frozen (p := ⟨g, o, none⟩) gz2).trans (gf2.out o))
  have rc3 := hide (show ∀ o, w3.cell? ⟨h2, o, none⟩ = (#[Value.int .i64 k, Value.int .i64 op, Value.int .i64 cl, Value.int .i64 st, Value.int .i64 sp, Value.int .i64 ex, Value.int .i64 la, Value.int .i64 fl, Value.int .i64 fa, Value.int .i64 co, Value.int .i64 ru, Value.bool false, Value.int .i64 0, Value.int .i64 0, Value.int .i64 0] : Array Value)[o]? from fun o => (hb3.cell (p := ⟨h2, o, none⟩) rz2).trans (rc2.out o))
  have rf3 := hide (show ∀ o, w3.frozen? ⟨h2, o, none⟩ = false from fun o => (hb3.frozen (p := ⟨h2, o, none⟩) rz2).trans (rf2.out o))
  clear hb3 HB2
  have RC := rc3.out
  clear gc1 gc2 rc1 rc2 gf1 gf2 rf1 rf2 gc3 gf3 rc3 rf3
  go_wp2
  go_ret
  exact ⟨by first | rfl | (simp; done), HB3⟩

set_option maxHeartbeats 2000000 in
theorem tells_sold (k op cl st sp ex la fl fa co ru bd pr ts tk : Int) (g h2 a : Nat) (w : World) (h : LotOK k op cl st sp ex la fl fa co ru) (ca : ∀ o, w.cell? ⟨a, o, none⟩ = (#[Value.int .i64 bd, Value.int .i64 pr, Value.int .i64 ts] : Array Value)[o]?) (hg : g < w.heap.size) (hc : ∀ o, w.cell? ⟨g, o, none⟩ = (#[Value.int .i64 k, Value.int .i64 op, Value.int .i64 cl, Value.int .i64 st, Value.int .i64 sp, Value.int .i64 ex, Value.int .i64 la, Value.int .i64 fl, Value.int .i64 fa, Value.int .i64 co, Value.int .i64 ru, Value.pointer (some ⟨a, 0, none⟩)] : Array Value)[o]?) (hf : ∀ o, w.frozen? ⟨g, o, none⟩ = false) (rg : h2 < w.heap.size) (rc : ∀ o, w.cell? ⟨h2, o, none⟩ = (#[Value.int .i64 k, Value.int .i64 op, Value.int .i64 cl, Value.int .i64 st, Value.int .i64 sp, Value.int .i64 ex, Value.int .i64 la, Value.int .i64 fl, Value.int .i64 fa, Value.int .i64 co, Value.int .i64 ru, Value.bool true, Value.int .i64 bd, Value.int .i64 pr, Value.int .i64 ts] : Array Value)[o]?) (rf : ∀ o, w.frozen? ⟨h2, o, none⟩ = false) : Calls Try.prog 23 #[.pointer (some ⟨g, 0, none⟩), .pointer (some ⟨h2, 0, none⟩), .int .i64 tk] w fun e w' => e = .returned (.bool true) ∧ Below w.heap.size w w' := by
  have hca := hide ca
  clear ca
  have gc := hide hc
  have gf := hide hf
  have rc' := hide rc
  have rf' := hide rf
  have gz := hg
  have rz := rg
  clear hc hf rc rf
  have rc := rc'
  have rf := rf'
  clear rc' rf'
  go_enter Try.func23, Try.ntmps23
  go_wp2_with fail
  refine (Sold_yes k op cl st sp ex la fl fa co ru bd pr ts g a _ h gz gc.out gf.out hca.out).mono ?_
  rintro e w1 ⟨rfl, hb1⟩
  have HB1 : Below w.heap.size w w1 := hb1
  have gz1 : g < w1.heap.size := Nat.lt_of_lt_of_le gz hb1.size
  have rz1 : h2 < w1.heap.size := Nat.lt_of_lt_of_le rz hb1.size
  have gc1 := hide (show ∀ o, w1.cell? ⟨g, o, none⟩ = (#[Value.int .i64 k, Value.int .i64 op, Value.int .i64 cl, Value.int .i64 st, Value.int .i64 sp, Value.int .i64 ex, Value.int .i64 la, Value.int .i64 fl, Value.int .i64 fa, Value.int .i64 co, Value.int .i64 ru, Value.pointer (some ⟨a, 0, none⟩)] : Array Value)[o]? from fun o => (hb1.cell (p := ⟨g, o, none⟩) gz).trans (gc.out o))
  have gf1 := hide (show ∀ o, w1.frozen? ⟨g, o, none⟩ = false from fun o => (hb1.frozen (p := ⟨g, o, none⟩) gz).trans (gf.out o))
  have rc1 := hide (show ∀ o, w1.cell? ⟨h2, o, none⟩ = (#[Value.int .i64 k, Value.int .i64 op, Value.int .i64 cl, Value.int .i64 st, Value.int .i64 sp, Value.int .i64 ex, Value.int .i64 la, Value.int .i64 fl, Value.int .i64 fa, Value.int .i64 co, Value.int .i64 ru, Value.bool true, Value.int .i64 bd, Value.int .i64 pr, Value.int .i64 ts] : Array Value)[o]? from fun o => (hb1.cell (p := ⟨h2, o, none⟩) rz).trans (rc.out o))
  have rf1 := hide (show ∀ o, w1.frozen? ⟨h2, o, none⟩ = false from fun o => (hb1.frozen (p := ⟨h2, o, none⟩) rz).trans (rf.out o))
  clear hb1
  go_wp2_with fail
  refine (At_sold k op cl st sp ex la fl fa co ru tk g a _ h gz1 gc1.out gf1.out).mono ?_
  rintro e w2 ⟨rfl, hb2⟩
  have HB2 : Below w.heap.size w w2 := bstep HB1 hb2
  have gz2 : g < w2.heap.size := Nat.lt_of_lt_of_le gz1 hb2.size
  have rz2 : h2 < w2.heap.size := Nat.lt_of_lt_of_le rz1 hb2.size
  have gc2 := hide (show ∀ o, w2.cell? ⟨g, o, none⟩ = (#[Value.int .i64 k, Value.int .i64 op, Value.int .i64 cl, Value.int .i64 st, Value.int .i64 sp, Value.int .i64 ex, Value.int .i64 la, Value.int .i64 fl, Value.int .i64 fa, Value.int .i64 co, Value.int .i64 ru, Value.pointer (some ⟨a, 0, none⟩)] : Array Value)[o]? from fun o => (hb2.cell (p := ⟨g, o, none⟩) gz1).trans (gc1.out o))
  have gf2 := hide (show ∀ o, w2.frozen? ⟨g, o, none⟩ = false from fun o => (hb2.frozen (p := ⟨g, o, none⟩) gz1).trans (gf1.out o))
  have rc2 := hide (show ∀ o, w2.cell? ⟨h2, o, none⟩ = (#[Value.int .i64 k, Value.int .i64 op, Value.int .i64 cl, Value.int .i64 st, Value.int .i64 sp, Value.int .i64 ex, Value.int .i64 la, Value.int .i64 fl, Value.int .i64 fa, Value.int .i64 co, Value.int .i64 ru, Value.bool true, Value.int .i64 bd, Value.int .i64 pr, Value.int .i64 ts] : Array Value)[o]? from fun o => (hb2.cell (p := ⟨h2, o, none⟩) rz1).trans (rc1.out o))
  have rf2 := hide (show ∀ o, w2.frozen? ⟨h2, o, none⟩ = false from fun o => (hb2.frozen (p := ⟨h2, o, none⟩) rz1).trans (rf1.out o))
  clear hb2 HB1
  go_wp2_with fail
  refine (rAt_sold k op cl st sp ex la fl fa co ru bd pr ts tk h2 _ rz2 rc2.out rf2.out).mono ?_
  rintro e w3 ⟨rfl, hb3⟩
  have HB3 : Below w.heap.size w w3 := bstep HB2 hb3
  have gz3 : g < w3.heap.size := Nat.lt_of_lt_of_le gz2 hb3.size
  have rz3 : h2 < w3.heap.size := Nat.lt_of_lt_of_le rz2 hb3.size
  have gc3 := hide (show ∀ o, w3.cell? ⟨g, o, none⟩ = (#[Value.int .i64 k, Value.int .i64 op, Value.int .i64 cl, Value.int .i64 st, Value.int .i64 sp, Value.int .i64 ex, Value.int .i64 la, Value.int .i64 fl, Value.int .i64 fa, Value.int .i64 co, Value.int .i64 ru, Value.pointer (some ⟨a, 0, none⟩)] : Array Value)[o]? from fun o => (hb3.cell (p := ⟨g, o, none⟩) gz2).trans (gc2.out o))
  have gf3 := hide (show ∀ o, w3.frozen? ⟨g, o, none⟩ = false from fun o => (hb3.frozen (p := ⟨g, o, none⟩) gz2).trans (gf2.out o))
  have rc3 := hide (show ∀ o, w3.cell? ⟨h2, o, none⟩ = (#[Value.int .i64 k, Value.int .i64 op, Value.int .i64 cl, Value.int .i64 st, Value.int .i64 sp, Value.int .i64 ex, Value.int .i64 la, Value.int .i64 fl, Value.int .i64 fa, Value.int .i64 co, Value.int .i64 ru, Value.bool true, Value.int .i64 bd, Value.int .i64 pr, Value.int .i64 ts] : Array Value)[o]? from fun o => (hb3.cell (p := ⟨h2, o, none⟩) rz2).trans (rc2.out o))
  have rf3 := hide (show ∀ o, w3.frozen? ⟨h2, o, none⟩ = false from fun o => (hb3.frozen (p := ⟨h2, o, none⟩) rz2).trans (rf2.out o))
  clear hb3 HB2
  have RC := rc3.out
  clear gc1 gc2 rc1 rc2 gf1 gf2 rf1 rf2 gc3 gf3 rc3 rf3
  go_wp2
  go_ret
  exact ⟨by first | rfl | (simp; done), HB3⟩

theorem tells_abs (k op cl st sp ex la fl fa co ru tk : Int) (p q : Option Nat) (S : St) (w : World) (hF : FObj k op cl st sp ex la fl fa co ru w p S) (hR : RObj k op cl st sp ex la fl fa co ru w q S) : Calls Try.prog 23 #[ptrv p, ptrv q, .int .i64 tk] w fun e w' => e = .returned (.bool true) ∧ Below w.heap.size w w' := by
  rcases p with _ | g
  · rcases S with _ | s
    · rcases q with _ | h2
      · exact tells_nil tk w
      · exact hR.elim
    · cases s <;> exact hF.elim
  · rcases S with _ | _ | ⟨bd, pr, ts⟩
    · exact hF.elim
    · rcases q with _ | h2
      · exact hR.elim
      · obtain ⟨hL, a1, a2, a3⟩ := hF
        obtain ⟨_, b1, b2, b3⟩ := hR
        by_cases r : op ≤ tk ∧ tk < cl
        · exact tells_run k op cl st sp ex la fl fa co ru tk g h2 w hL r.1 r.2 a1 a2 a3 b1 b2 b3
        · exact tells_time k op cl st sp ex la fl fa co ru tk g h2 w hL (by omega) a1 a2 a3 b1 b2 b3
    · rcases q with _ | h2
      · exact hR.elim
      · obtain ⟨hL, a, ⟨a1, a2, a3⟩, a4, a5⟩ := hF
        obtain ⟨_, b1, b2, b3⟩ := hR
        exact tells_sold k op cl st sp ex la fl fa co ru bd pr ts tk g h2 a w hL a5 a1 a2 a3 b1 b2 b3
end Go.Proofs.Ytiopohdhadilfaa
