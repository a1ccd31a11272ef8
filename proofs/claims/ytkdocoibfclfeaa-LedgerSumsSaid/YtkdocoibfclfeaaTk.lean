import Derived.Test.YtkdocoibfclfeaaTc
import Derived.Test.YtkdocoibfclfeaaRW
import Derived.Test.YtkdocoibfclfeaaRX
import Derived.Sort.LoopGhostIn
namespace Go.Proofs.Ytkdocoibfclfeaa
open Go.ChangeShapes Go.WideShapes Go.ChangeAt Go.RowKit Go.Deep Go.Shelf Go.Maps Go.WideMaps Ytkdocoibfclfeaa.it
set_option linter.unusedSimpArgs false
set_option linter.unusedVariables false

attribute [local go_sem] Oper.semAt_some
set_option maxRecDepth 100000 in
set_option maxHeartbeats 4000000 in
theorem acc_okW (n : Nat) (hn : 1 ≤ n) (l Bx g : Nat) (K : Nat → Prop) (A : List Acc) (hA : A.length ≤ 65536) (WS : World) (J Jx : List (Nat × Acc) → World → Prop)
    (hY : ∀ pre x W, J pre W → (∃ j, j < A.length ∧ pre = upto (numA A) j ∧ x = numA A j) → YieldAt Fence.wide (n - 1) Try.prog l #[.int .i64 (x.1 : Int), .agg #[.string x.2.name, .int .i64 x.2.least, .int .i64 x.2.has]] W fun e W' =>
      (e = .returned (.bool true) ∧ J (pre ++ [x]) W' ∧ Fix K W W') ∨ (e = .returned (.bool false) ∧ Jx (pre ++ [x]) W'))
    (hJ : Stays WS.heap.size J) (hB1 : K Bx) (hB2 : K g) (hK : ∀ i, K i → i < WS.heap.size) (hc : WS.cell? ⟨Bx, 0, none⟩ = some (.slice (some ⟨g, 0, none⟩) A.length A.length))
    (hcl : ∀ j, j < A.length → WS.cell? ⟨g, j * 3, none⟩ = some (.string (accAt0 A j).name) ∧ WS.cell? ⟨g, j * 3 + 1, none⟩ = some (.int .i64 (accAt0 A j).least) ∧ WS.cell? ⟨g, j * 3 + 2, none⟩ = some (.int .i64 (accAt0 A j).has)) (h0 : J [] WS) :
    CallsIn Fence.wide n Try.prog 53 #[.func (.yield l) #[] #[], .pointer (some ⟨Bx, 0, none⟩)] WS fun e W' => (∃ v, e = .returned v) ∧
      ((∃ ys, ys = upto (numA A) A.length ∧ J ys W') ∨ (∃ pre, (∃ k, k ≤ A.length ∧ pre = upto (numA A) k) ∧ Jx pre W')) := by
  have HCL := hide hcl
  have hKx := hK Bx hB1
  have hKg := hK g hB2
  clear hcl
  refine callsIn_of_wp Try.func53 rfl trivial ?_ rfl
  simp only [Try.ntmps53, List.size_toArray, List.length_cons, List.length_nil, Nat.reduceAdd, Nat.reduceSub, Array.replicate_succ, Array.replicate_zero, List.push_toArray, List.append_toArray, List.nil_append, List.cons_append]
  gi_wp2
  gi_loopw [7] (fun v7 wr => ∃ j : Nat, j ≤ A.length ∧ v7 = .int .i64 (j : Int) ∧ J (upto (numA A) j) wr ∧ Fix K WS wr) (fun v7 _ => A.length - (intOf v7).toNat)
  case atStart => exact ⟨0, Nat.zero_le _, rfl, h0, Fix.of_below (Below.refl _ _)⟩
  case round =>
    obtain ⟨j, hj, rfl, hJs, hBw⟩ := hrel
    have HJS := hide hJs
    have HBW := hide hBw
    clear hJs hBw
    by_cases hlt : j < A.length
    · have hlt' : (j : Int) < (A.length : Int) := by omega
      have hz := HBW.out.size
      have hgw : g < wr.heap.size := by omega
      have HC0 := hide ((HBW.out.cell (p := ⟨g, j * 3, none⟩) hB2 hKg).trans (HCL.out j hlt).1)
      have HC1 := hide ((HBW.out.cell (p := ⟨g, j * 3 + 1, none⟩) hB2 hKg).trans (HCL.out j hlt).2.1)
      have HC2 := hide ((HBW.out.cell (p := ⟨g, j * 3 + 2, none⟩) hB2 hKg).trans (HCL.out j hlt).2.2)
      obtain ⟨a, ha⟩ : ∃ a, a = accAt0 A j := ⟨_, rfl⟩
      rw [← ha] at HC0 HC1 HC2
      have hc0 := HC0.out
      have hc1 := HC1.out
      have hc2 := HC2.out
      have HA := hide ha
      clear ha
      obtain ⟨V1, hV1⟩ : ∃ V1, V1 = wr.alloc (.cells #[.string a.name, .int .i64 a.least, .int .i64 a.has] 70) := ⟨_, rfl⟩
      have hbV : Below wr.heap.size wr V1 := by rw [hV1]; exact (Below.refl _ _).alloc (Nat.le_refl _) _
      have J1 : J (upto (numA A) j) V1 := hJ.step HJS.out hbV hz
      obtain ⟨fn, tmps, assign, body, hy, hR⟩ := hY _ (j, a) V1 J1 ⟨j, hlt, rfl, by rw [HA.out]; rfl⟩
      dsimp only at hy
      have HF1 := hide (HBW.out.trans (Fix.of_below hbV))
      rw [hV1] at hy
      have HV1 := hide hV1
      clear hV1 hbV J1
      gi_wp2_with fail
      rw [← HV1.out]
      refine hR.mono ?_
      rintro e W3 (⟨rfl, hJ3, hk3⟩ | ⟨rfl, hJx3⟩)
      · have HJ3 := hide hJ3
        have HB3 := hide (HF1.out.trans (hk3))
        clear hJ3 hk3 hR hy
        gi_wp2
        go_roundw
        case rel => exact ⟨j + 1, by omega, by go_num, by (rw [upto_succ]; have q := HJ3.out; rw [HA.out] at q; exact q), HB3.out⟩
        case measure => (first | (simp [intOf]; done) | (simp [intOf]; omega))
      · have HJx3 := hide hJx3
        clear hJx3 hR hy
        gi_wp2
        refine bodyPost_ret (results_none rfl _ _ _) rfl ?_
        exact ⟨⟨_, rfl⟩, .inr ⟨upto (numA A) (j + 1), ⟨j + 1, by omega, rfl⟩, by (rw [upto_succ]; have q := HJx3.out; rw [HA.out] at q; exact q)⟩⟩
    · obtain rfl : j = A.length := by omega
      gi_wp2
      go_end0
      exact ⟨⟨_, rfl⟩, .inl ⟨_, rfl, HJS.out⟩⟩
theorem acc_seqW (n : Nat) (hn : 1 ≤ n) {B : Nat} {A : List Acc} {Bx g : Nat} {w : World} (h : AccIt B A Bx g w) (hA : A.length ≤ 65536) : SeqW n Try.prog 53 #[.pointer (some ⟨Bx, 0, none⟩)] encA (fun i => i = Bx ∨ i = g) (fun xs => xs = upto (numA A) A.length) (fun pre => ∃ k, k ≤ A.length ∧ pre = upto (numA A) k) (fun pre x _ => ∃ j, j < A.length ∧ pre = upto (numA A) j ∧ x = numA A j) w := by
  intro l J Jx W hbW hJ hJx hY h0
  have hl := h.lts
  have hz := hbW.size
  exact acc_okW n hn l Bx g _ A hA W J Jx hY hJ (.inl rfl) (.inr rfl) (fun i hi => by rcases hi with rfl | rfl <;> omega) (cell_stay h.c (hbW.block _ hl.1)) (fun j hj => ⟨cell_stay (h.cells j hj).1 (hbW.block _ hl.2), cell_stay (h.cells j hj).2.1 (hbW.block _ hl.2), cell_stay (h.cells j hj).2.2 (hbW.block _ hl.2)⟩) h0
theorem eql80k (f : Nat) (c : Array Value) (w : World) : Sem.run Try.prog (binOp .eql 80 (.func (.func f) #[] c) .nilFunc) w = .ok (.bool false) w := by kernel_rfl
theorem cell_put {W : World} {B : Nat} {o : Obj} {b k : Nat} (h : b ≠ B) : (W.putObj B o).cell? ⟨b, k, none⟩ = W.cell? ⟨b, k, none⟩ := World.cell?_of_block (a := ⟨b, k, none⟩) (World.putObj_heap_other h)
theorem fro_put {W : World} {B : Nat} {o : Obj} {b k : Nat} (h : b ≠ B) : (W.putObj B o).frozen? ⟨b, k, none⟩ = W.frozen? ⟨b, k, none⟩ := World.frozen?_of_block (a := ⟨b, k, none⟩) (World.putObj_heap_other h)
/-- an account in a box -/
def BoxA (W : World) (Bx : Nat) (a : Acc) : Prop := W.cell? ⟨Bx, 0, none⟩ = some (.string a.name) ∧ W.cell? ⟨Bx, 1, none⟩ = some (.int .i64 a.least) ∧ W.cell? ⟨Bx, 2, none⟩ = some (.int .i64 a.has)
theorem BoxA.put {W : World} {Bx B : Nat} {a : Acc} (h : BoxA W Bx a) (hb : Bx ≠ B) (o : Obj) : BoxA (W.putObj B o) Bx a := ⟨(cell_put hb).trans h.1, (cell_put hb).trans h.2.1, (cell_put hb).trans h.2.2⟩
theorem BoxA.new (W : World) (a : Acc) : BoxA (W.alloc (.cells #[.string a.name, .int .i64 a.least, .int .i64 a.has] 70)) W.heap.size a := by simp [BoxA, go_sem]
set_option maxRecDepth 100000 in
set_option maxHeartbeats 4000000 in
theorem acc_okX (n : Nat) (hn : 1 ≤ n) (l Bx g : Nat) (K : Nat → Prop) (A : List Acc) (hA : A.length ≤ 65536) (WS : World) (J Jx : List (Nat × Acc) → World → Prop)
    (hY : ∀ pre x W, J pre W → (∃ j, j < A.length ∧ pre = upto (numA A) j ∧ x = numA A j) → YieldAt Fence.wide (n - 1) Try.prog l #[.int .i64 (x.1 : Int), .agg #[.string x.2.name, .int .i64 x.2.least, .int .i64 x.2.has]] W fun e W' =>
      (e = .returned (.bool true) ∧ J (pre ++ [x]) W' ∧ Fix K W W') ∨ (e = .returned (.bool false) ∧ Jx (pre ++ [x]) W'))
    (hJ : Ext J) (hB1 : K Bx) (hB2 : K g) (hK : ∀ i, K i → i < WS.heap.size) (hc : WS.cell? ⟨Bx, 0, none⟩ = some (.slice (some ⟨g, 0, none⟩) A.length A.length))
    (hcl : ∀ j, j < A.length → WS.cell? ⟨g, j * 3, none⟩ = some (.string (accAt0 A j).name) ∧ WS.cell? ⟨g, j * 3 + 1, none⟩ = some (.int .i64 (accAt0 A j).least) ∧ WS.cell? ⟨g, j * 3 + 2, none⟩ = some (.int .i64 (accAt0 A j).has)) (h0 : J [] WS) :
    CallsIn Fence.wide n Try.prog 53 #[.func (.yield l) #[] #[], .pointer (some ⟨Bx, 0, none⟩)] WS fun e W' => (∃ v, e = .returned v) ∧
      ((∃ ys, ys = upto (numA A) A.length ∧ J ys W') ∨ (∃ pre, (∃ k, k ≤ A.length ∧ pre = upto (numA A) k) ∧ Jx pre W')) := by
  have HCL := hide hcl
  have hKx := hK Bx hB1
  have hKg := hK g hB2
  clear hcl
  refine callsIn_of_wp Try.func53 rfl trivial ?_ rfl
  simp only [Try.ntmps53, List.size_toArray, List.length_cons, List.length_nil, Nat.reduceAdd, Nat.reduceSub, Array.replicate_succ, Array.replicate_zero, List.push_toArray, List.append_toArray, List.nil_append, List.cons_append]
  gi_wp2
  gi_loopw [7] (fun v7 wr => ∃ j : Nat, j ≤ A.length ∧ v7 = .int .i64 (j : Int) ∧ J (upto (numA A) j) wr ∧ Fix K WS wr) (fun v7 _ => A.length - (intOf v7).toNat)
  case atStart => exact ⟨0, Nat.zero_le _, rfl, h0, Fix.of_below (Below.refl _ _)⟩
  case round =>
    obtain ⟨j, hj, rfl, hJs, hBw⟩ := hrel
    have HJS := hide hJs
    have HBW := hide hBw
    clear hJs hBw
    by_cases hlt : j < A.length
    · have hlt' : (j : Int) < (A.length : Int) := by omega
      have hz := HBW.out.size
      have hgw : g < wr.heap.size := by omega
      have HC0 := hide ((HBW.out.cell (p := ⟨g, j * 3, none⟩) hB2 hKg).trans (HCL.out j hlt).1)
      have HC1 := hide ((HBW.out.cell (p := ⟨g, j * 3 + 1, none⟩) hB2 hKg).trans (HCL.out j hlt).2.1)
      have HC2 := hide ((HBW.out.cell (p := ⟨g, j * 3 + 2, none⟩) hB2 hKg).trans (HCL.out j hlt).2.2)
      obtain ⟨a, ha⟩ : ∃ a, a = accAt0 A j := ⟨_, rfl⟩
      rw [← ha] at HC0 HC1 HC2
      have hc0 := HC0.out
      have hc1 := HC1.out
      have hc2 := HC2.out
      have HA := hide ha
      clear ha
      obtain ⟨V1, hV1⟩ : ∃ V1, V1 = wr.alloc (.cells #[.string a.name, .int .i64 a.least, .int .i64 a.has] 70) := ⟨_, rfl⟩
      have hbV : Below wr.heap.size wr V1 := by rw [hV1]; exact (Below.refl _ _).alloc (Nat.le_refl _) _
      have J1 : J (upto (numA A) j) V1 := hJ _ _ _ HJS.out hbV
      obtain ⟨fn, tmps, assign, body, hy, hR⟩ := hY _ (j, a) V1 J1 ⟨j, hlt, rfl, by rw [HA.out]; rfl⟩
      dsimp only at hy
      have HF1 := hide (HBW.out.trans (Fix.of_below hbV))
      rw [hV1] at hy
      have HV1 := hide hV1
      clear hV1 hbV J1
      gi_wp2_with fail
      rw [← HV1.out]
      refine hR.mono ?_
      rintro e W3 (⟨rfl, hJ3, hk3⟩ | ⟨rfl, hJx3⟩)
      · have HJ3 := hide hJ3
        have HB3 := hide (HF1.out.trans (hk3))
        clear hJ3 hk3 hR hy
        gi_wp2
        go_roundw
        case rel => exact ⟨j + 1, by omega, by go_num, by (rw [upto_succ]; have q := HJ3.out; rw [HA.out] at q; exact q), HB3.out⟩
        case measure => (first | (simp [intOf]; done) | (simp [intOf]; omega))
      · have HJx3 := hide hJx3
        clear hJx3 hR hy
        gi_wp2
        refine bodyPost_ret (results_none rfl _ _ _) rfl ?_
        exact ⟨⟨_, rfl⟩, .inr ⟨upto (numA A) (j + 1), ⟨j + 1, by omega, rfl⟩, by (rw [upto_succ]; have q := HJx3.out; rw [HA.out] at q; exact q)⟩⟩
    · obtain rfl : j = A.length := by omega
      gi_wp2
      go_end0
      exact ⟨⟨_, rfl⟩, .inl ⟨_, rfl, HJS.out⟩⟩
theorem acc_seqX (n : Nat) (hn : 1 ≤ n) {B : Nat} {A : List Acc} {Bx g : Nat} {w : World} (h : AccIt B A Bx g w) (hA : A.length ≤ 65536) : SeqX n Try.prog 53 #[.pointer (some ⟨Bx, 0, none⟩)] encA (fun i => i = Bx ∨ i = g) (fun xs => xs = upto (numA A) A.length) (fun pre => ∃ k, k ≤ A.length ∧ pre = upto (numA A) k) (fun pre x _ => ∃ j, j < A.length ∧ pre = upto (numA A) j ∧ x = numA A j) w := by
  intro l J Jx W hbW hJ hJx hY h0
  have hl := h.lts
  have hz := hbW.size
  exact acc_okX n hn l Bx g _ A hA W J Jx hY hJ (.inl rfl) (.inr rfl) (fun i hi => by rcases hi with rfl | rfl <;> omega) (cell_stay h.c (hbW.block _ hl.1)) (fun j hj => ⟨cell_stay (h.cells j hj).1 (hbW.block _ hl.2), cell_stay (h.cells j hj).2.1 (hbW.block _ hl.2), cell_stay (h.cells j hj).2.2 (hbW.block _ hl.2)⟩) h0

theorem cell_noloop {w : World} {b o : Nat} {v : Value} {B : Nat} {l : Loop} (h : w.cell? ⟨b, o, none⟩ = some v) (hB : w.heap[B]? = some (.loop l)) : b ≠ B := by
  intro e
  subst e
  simp [World.cell?, hB] at h
theorem map_noloop {k : TypeId} {w : World} {b n : Nat} {f : Lit → Option Value} {B : Nat} {l : Loop} (h : MapIs Try.prog k w b n f) (hB : w.heap[B]? = some (.loop l)) : b ≠ B := by
  intro e
  obtain ⟨es, ck, h⟩ := h.isMap
  rw [e, hB] at h
  cases h
theorem row_noloop {w : World} {base : Nat} {e : TypeId} {size : Nat} {v : Value} {n : Nat} {xs : List Value} {B : Nat} {l : Loop} (h : w.ownsRow base e size v n xs) (hB : w.heap[B]? = some (.loop l)) : ∀ k, v.ownBlock = some k → k ≠ B := by
  intro k hk e
  rcases h.2 with ⟨q, _⟩ | ⟨g, cap, cur, q, _, h2, _⟩
  · rw [q] at hk; cases hk
  · rw [q] at hk
    have hk' : g = k := Option.some.inj hk
    rw [hk', e, hB] at h2
    cases h2
theorem LObj.putL {I : Nat → Prop} {F : Fp} {S : LS} {w : World} {B : Nat} {l l' : Loop} (h : LObj I F S w) (hB : w.heap[B]? = some (.loop l)) : LObj I F S (w.putObj B (.loop l')) := by
  have e : ∀ k, k ≠ B → (w.putObj B (.loop l')).heap[k]? = w.heap[k]? := fun k hk => World.putObj_heap_other hk
  have hb := e F.b (cell_noloop h.b0 hB)
  have ht := e F.t (cell_noloop h.t0 hB)
  have ha := e F.a (map_noloop h.am hB)
  have hm := e F.m (map_noloop h.mm hB)
  obtain ⟨vs, hp, hq⟩ := h.pr
  refine ⟨cell_stay h.b0 hb, cell_stay h.b1 hb, cell_stay h.b2 hb, fun o => fro_stay (h.bf o) hb, cell_stay h.t0 ht, cell_stay h.t1 ht, cell_stay h.t2 ht, fro_stay h.tf ht,
    own_stays h.lr (fun k q => e k (row_noloop h.lr hB k q)), ⟨vs, own_stays hp (fun k q => e k (row_noloop hp hB k q)), fun i p e' => ?_⟩, h.am.stays (by simp) ha, h.mm.stays (by simp) hm, h.ap, h.imm, fun k hi => by simpa using h.ilt k hi⟩
  obtain ⟨v, e1, e2, e3⟩ := hq i p e'
  exact ⟨v, e1, own_stays e2 (fun k q => e k (row_noloop e2 hB k q)), e3⟩
theorem below_putL {b0 B : Nat} {w W : World} (h : Below b0 w W) (hB : b0 ≤ B) (o : Obj) : Below b0 w (W.putObj B o) := h.trans (below_put b0 W B o hB)
end Go.Proofs.Ytkdocoibfclfeaa
