import Derived.Test.YtimabgakemgldaaT11
import Derived.Test.YtimabgakemgldaaRB
import Derived.Test.YtimabgakemgldaaRG
import Derived.Sort.LoopGhostIn
import Derived.BigQuiet
import Derived.Deep.QuietTactic
import Derived.Laws.EntriesVeiled
namespace Go.Proofs.Ytimabgakemgldaa
open Go.ChangeShapes Go.WideShapes Go.ChangeAt Go.RowKit Go.Deep Go.Shelf Ytimabgakemgldaa.it
set_option linter.unusedSimpArgs false
set_option linter.unusedVariables false

attribute [local go_sem] Oper.semAt_some

abbrev encI (S : List Int) (x : Nat) : Array Value := #[.int .i64 (x : Int), .int .i64 (S.getD x 0)]
def NxI (S : List Int) (pre : List Nat) (x : Nat) : Prop := x = pre.length ∧ x < S.length
set_option maxRecDepth 100000 in
set_option maxHeartbeats 4000000 in
theorem cnt_ok (n : Nat) (hn : 1 ≤ n) (l Bx c cs : Nat) (K : Nat → Prop) (S : List Int) (hS : S.length ≤ 64) (WS : World) (J Jx : List Nat → World → Prop)
    (hY : ∀ pre x W, J pre W → NxI S pre x → YieldAt Fence.wide (n - 1) Try.prog l #[.int .i64 (x : Int), .int .i64 (S.getD x 0)] W fun e W' =>
      (e = .returned (.bool true) ∧ J (pre ++ [x]) W' ∧ Fix (fun i => K i ∨ WS.heap.size ≤ i) W W') ∨ (e = .returned (.bool false) ∧ Jx (pre ++ [x]) W'))
    (hB1 : K Bx) (hB2 : K c) (hB3 : K cs) (hK : ∀ i, K i → i < WS.heap.size) (hc : WS.cell? ⟨Bx, 0, none⟩ = some (.pointer (some ⟨c, 0, none⟩))) (h : CntIs WS c cs S) (h0 : J [] WS) :
    CallsIn Fence.wide n Try.prog 61 #[.func (.yield l) #[] #[], .pointer (some ⟨Bx, 0, none⟩)] WS fun e W' => (∃ v, e = .returned v) ∧
      ((∃ ys : List Nat, ys.length = S.length ∧ J ys W') ∨ (∃ pre : List Nat, pre.length ≤ S.length ∧ Jx pre W')) := by
  have H := hide h
  have cc := h.c
  have hKx := hK Bx hB1
  have hKc := hK c hB2
  have hKs := hK cs hB3
  have HSS := hide hS
  clear h hS hK
  refine callsIn_of_wp Try.func61 rfl trivial ?_ rfl
  simp only [Try.ntmps61, List.size_toArray, List.length_cons, List.length_nil, Nat.reduceAdd, Nat.reduceSub, Array.replicate_succ, Array.replicate_zero, List.push_toArray, List.append_toArray, List.nil_append, List.cons_append]
  gi_wp2
  gi_loopw [11] (fun v11 wr => ∃ pre : List Nat, pre.length ≤ S.length ∧ v11 = .int .i64 (pre.length : Int) ∧ J pre wr ∧ Fix (fun i => K i ∨ WS.heap.size ≤ i) WS wr) (fun v11 _ => S.length - (intOf v11).toNat)
  case atStart => exact ⟨[], Nat.zero_le _, rfl, h0, Fix.of_below (Below.refl _ _)⟩
  case round =>
    obtain ⟨pre, hj, rfl, hJs, hBw⟩ := hrel
    have HJS := hide hJs
    have HBW := hide hBw
    clear hJs hBw
    obtain ⟨j, hjj⟩ : ∃ j, j = pre.length := ⟨_, rfl⟩
    rw [← hjj] at hj ⊢
    have HJJ := hide hjj
    clear hjj
    have hk0 : (0 : Int) ≤ (j : Int) := by omega
    have hk9 : (j : Int) < 1000 := by have := HSS.out; omega
    by_cases hlt : j < S.length
    · have hlt' : (j : Int) < (S.length : Int) := by omega
      have cc1 := cell_stay cc (HBW.out.same c (.inl hB2) hKc)
      have cb1 := cell_stay hc (HBW.out.same Bx (.inl hB1) hKx)
      obtain ⟨z, hz⟩ : ∃ z, z = S.getD j 0 := ⟨_, rfl⟩
      have HL := hide (Load_i cs j z wr (by rw [hz, World.cell?_of_block (a := ⟨cs, j, none⟩) (HBW.out.same cs (.inl hB3) hKs), H.out.r.cellAt j (by omega)]; exact ints_at hlt))
      gi_wp2_with fail
      refine ⟨trivial, ?_⟩
      refine (callsIn_wide.2 HL.out).mono ?_
      rintro e V1 ⟨rfl, rfl⟩
      have hY' := hY pre j wr HJS.out ⟨HJJ.out, hlt⟩
      rw [← hz] at hY'
      obtain ⟨fn, tmps, assign, body, hy, hR⟩ := hY'
      clear hz
      gi_wp2_with fail
      refine hR.mono ?_
      rintro e W3 (⟨rfl, hJ3, hk3⟩ | ⟨rfl, hJx3⟩)
      · have HJ3 := hide hJ3
        have HB3 := hide (HBW.out.trans hk3)
        clear hJ3 hk3 hR hy
        gi_wp2
        go_roundw
        case rel => exact ⟨pre ++ [j], by rw [List.length_append, ← HJJ.out]; simp; omega, by rw [List.length_append, ← HJJ.out]; go_num, HJ3.out, HB3.out⟩
        case measure => (first | (simp [intOf]; done) | (simp [intOf]; omega))
      · have HJx3 := hide hJx3
        clear hJx3 hR hy
        gi_wp2
        refine bodyPost_ret (results_none rfl _ _ _) rfl ?_
        exact ⟨⟨_, rfl⟩, .inr ⟨pre ++ [j], by rw [List.length_append, ← HJJ.out]; simp; omega, HJx3.out⟩⟩
    · obtain rfl : j = S.length := by omega
      gi_wp2
      go_end0
      exact ⟨⟨_, rfl⟩, .inl ⟨pre, HJJ.out.symm, HJS.out⟩⟩
/-- what All has made -/
structure CIt (Bx c cs : Nat) (S : List Int) (w : World) : Prop where
  b : w.cell? ⟨Bx, 0, none⟩ = some (.pointer (some ⟨c, 0, none⟩))
  h : CntIs w c cs S
theorem CIt.lts {Bx c cs : Nat} {S : List Int} {w : World} (h : CIt Bx c cs S w) : Bx < w.heap.size ∧ c < w.heap.size ∧ cs < w.heap.size := ⟨World.block_lt_of_cell? w _ h.b, World.block_lt_of_cell? w _ h.h.c, (h.h.r.lt cs rfl).2⟩
theorem CIt.below {Bx c cs : Nat} {S : List Int} {w w' : World} (h : CIt Bx c cs S w) (hb : Below w.heap.size w w') : CIt Bx c cs S w' := ⟨cell_stay h.b (hb.block _ h.lts.1), h.h.below hb⟩
theorem CAll_c (c cs : Nat) (S : List Int) (w : World) (h : CntIs w c cs S) : Calls Try.prog 36 #[.pointer (some ⟨c, 0, none⟩)] w fun e w' => e = .returned (.func (.func 61) #[] #[.pointer (some ⟨w.heap.size, 0, none⟩)]) ∧ CIt w.heap.size c cs S w' ∧ Below w.heap.size w w' := by
  have H := hide h
  clear h
  go_enter Try.func36, Try.ntmps36
  go_wp2
  refine bodyPost_ret (v := .func (.func 61) #[] #[.pointer (some ⟨w.heap.size, 0, none⟩)]) (by simp [results, Try.f36, go_sem]) rfl ⟨rfl, ⟨by simp [go_sem], H.out.below (by (focus repeat' (first | (with_reducible exact Below.refl _ _) | (with_reducible assumption) | (with_reducible refine Below.alloc ?_ ?_ _) | (with_reducible refine Below.drew ?_) | (with_reducible refine bdrewN ?_ _) | (with_reducible refine Below.setCell ?_ ?_ _) | (first | (with_reducible exact Nat.le_refl _) | (with_reducible assumption) | omega | (simp; omega) | (simp; done)))))⟩, by (focus repeat' (first | (with_reducible exact Below.refl _ _) | (with_reducible assumption) | (with_reducible refine Below.alloc ?_ ?_ _) | (with_reducible refine Below.drew ?_) | (with_reducible refine bdrewN ?_ _) | (with_reducible refine Below.setCell ?_ ?_ _) | (first | (with_reducible exact Nat.le_refl _) | (with_reducible assumption) | omega | (simp; omega) | (simp; done))))⟩
def CntK (Bx c cs : Nat) : Nat → Prop := fun i => i = Bx ∨ i = c ∨ i = cs
theorem CIt.seq {Bx c cs : Nat} {S : List Int} {w : World} (h : CIt Bx c cs S w) (hS : S.length ≤ 64) (n : Nat) (hn : 1 ≤ n) : ∀ w1, Fix (CntK Bx c cs) w w1 → SeqR n Try.prog 61 #[.pointer (some ⟨Bx, 0, none⟩)] (encI S) (CntK Bx c cs) (fun xs => xs.length = S.length) (fun pre => pre.length ≤ S.length) (NxI S) w1 := by
  intro w1 hF l J Jx W hbW hJ hJx hY h0
  have hl := h.lts
  have hF2 := hF.trans (.of_below hbW)
  have hz := hF2.size
  exact cnt_ok n hn l Bx c cs (CntK Bx c cs) S hS W J Jx hY (.inl rfl) (.inr (.inl rfl)) (.inr (.inr rfl)) (fun i hi => by rcases hi with rfl | rfl | rfl <;> omega)
    (cell_stay h.b (hF2.same _ (.inl rfl) hl.1)) (h.h.stays (hF2.same _ (.inr (.inl rfl)) hl.2.1) (hF2.same _ (.inr (.inr rfl)) hl.2.2)) h0
end Go.Proofs.Ytimabgakemgldaa
