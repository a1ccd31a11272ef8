/- Contracts of the layer's functions, each proved once, in the order in which they are used. No condition beyond each theorem's own. -/
import Derived.Test.YtkdocoibfclfeaaMb
import Derived.RangeFuncWrites
import Derived.Sort.LoopGhostIn
import Derived.WalkKit
import Derived.ProofKit
import Derived.Sort.QuietIn
import Derived.TacticsIn
import Derived.Maps.AppendAt
import Derived.Deep.AppendLies
import Derived.Laws.OwnMore
import Derived.Laws.EntriesVeiled
namespace Go.Proofs.Ytkdocoibfclfeaa.it
open Go.RowKit Go.Deep Go.Shelf
set_option linter.unusedVariables false
set_option linter.unusedSimpArgs false
/-- what stands when new blocks come -/
def Ext {β : Type} (J : β → World → Prop) : Prop := ∀ s W W', J s W → Below W.heap.size W W' → J s W'
/-- what does not speak of the loop's record in block B -/
def PutL {β : Type} (B : Nat) (J : β → World → Prop) : Prop := ∀ (s : β) (W : World) (l l' : Loop), J s W → W.heap[B]? = some (.loop l) → J s (W.putObj B (.loop l'))
/-- an iterator; Nx: what may be known at the time when it tells -/
def SeqX {α : Type} (n : Nat) (P : Program) (g : Nat) (lb : Array Value) (encs : α → Array Value) (K : Nat → Prop) (S Sp : List α → Prop) (Nx : List α → α → World → Prop) (w : World) : Prop :=
  ∀ (l : Nat) (J Jx : List α → World → Prop) (W : World), Below w.heap.size w W → Ext J → Ext Jx →
    (∀ pre x V, J pre V → Nx pre x V → YieldAt Fence.wide (n - 1) P l (encs x) V fun e V' => (e = .returned (.bool true) ∧ J (pre ++ [x]) V' ∧ Fix K V V') ∨ (e = .returned (.bool false) ∧ Jx (pre ++ [x]) V')) →
    J [] W → CallsIn Fence.wide n P g (#[.func (.yield l) #[] #[]] ++ lb) W fun e V' => (∃ v, e = .returned v) ∧ ((∃ xs, S xs ∧ J xs V') ∨ (∃ pre, Sp pre ∧ Jx pre V'))
section
variable {P : Program} {n : Nat}
/-- THE LAW: the loop over such an iterator -/
theorem range_X {α : Type} {g : Operand} {ps : Array Tmp} {assign body : Code} {Q : Exit → Act → World → Prop} {a : Act} {w : World} (h1 : 1 ≤ n) {gf : Nat} {lb : Array Value} (hg : a.eval g = .func (.func gf) #[] lb)
    (eg : ∀ args w, (callFunc gf args).run P w = .ok (.enter gf args) w) {encs : α → Array Value} {K : Nat → Prop} {S Sp : List α → Prop} {Nx : List α → α → World → Prop} {w0 : World} (hseq : SeqX (n - 1) P gf lb encs K S Sp Nx w0) (hK : ∀ i, K i → i < w.heap.size)
    (hb0 : Below w0.heap.size w0 w) (hps : ∀ x, (encs x).size = ps.size) (I : List α → World → Prop) (Ix : Code → List α → World → Prop) (hI : Ext I) (hIx : ∀ c, Ext (Ix c)) (hIp : PutL (w.heap.size + 1) I) (hIxp : ∀ c, PutL (w.heap.size + 1) (Ix c)) (h0 : I [] w) (Ax : List α → α → Act → World → Prop) (hAx : ∀ pre x a' W o, Ax pre x a' W → Ax pre x a' (W.putObj (w.heap.size + 1) o))
    (hassign : ∀ (l : Nat) (pre : List α) (x : α) (W : World) (K' : Act → World → Prop), I pre W → Nx pre x W → w.heap.size + 1 < W.heap.size → (∀ a' W', KeepsOthers W W' → Fix K W W' → I pre W' → Ax pre x a' W' → K' a' W') →
      assign.wpIn (Fence.wide.inRound l) (n - 1 - 1) P (Exit.then K' (fun _ _ _ => False)) { tmps := (ps.zip (encs x)).foldl (fun t (p, v) => t.setIfInBounds p v) a.tmps, defers := [] } W)
    (hbody : ∀ (l : Nat) (pre : List α) (x : α) (a' : Act) (W : World), I pre W → w.heap.size + 1 < W.heap.size → Ax pre x a' W → body.wpIn (Fence.wide.inRound l) (n - 1 - 1) P (ownPostG w.heap.size (Fix K) I Ix (pre ++ [x]) W) a' W)
    (hdone : ∀ (D : Nat) (xs : List α) (W : World), w.heap.size ≤ D → S xs → I xs W → W.heap[D]? = some (.deferred (some [])) → Q .normal { a with defers := { target := .collected D, args := #[] } :: a.defers } W)
    (hstop : ∀ (D : Nat) (c : Code) (pre : List α) (W : World), w.heap.size ≤ D → Sp pre → Ix c pre W → W.heap[D]? = some (.deferred (some [])) → c.wpIn Fence.wide n P Q { a with defers := { target := .collected D, args := #[] } :: a.defers } W) :
    (Code.rangeFunc g ps assign body).wpIn Fence.wide n P Q a w := by
  refine wpIn_rangeFunc (fun fn hfn => ?_)
  -- the loop's record, in each of its states
  obtain ⟨lp, hlp⟩ : ∃ lp : LoopState → Option Code → Loop, ∀ st pe, lp st pe = { state := st, pending := pe, fn := fn, tmps := a.tmps, params := ps, assign := assign, body := body, defers := w.heap.size } := ⟨_, fun _ _ => rfl⟩
  obtain ⟨V, hV⟩ : ∃ V, V = (w.alloc (.deferred (some []))).alloc (.loop (lp .ready none)) := ⟨_, rfl⟩
  have hVz : V.heap.size = w.heap.size + 2 := by rw [hV]; simp
  have rec0 : V.heap[w.heap.size + 1]? = some (.loop (lp .ready none)) := by
    rw [hV]; have := World.alloc_heap_new (w.alloc (.deferred (some []))) (.loop (lp .ready none)); rwa [World.size_alloc] at this
  have def0 : V.heap[w.heap.size]? = some (.deferred (some [])) := by
    rw [hV]; exact (Below.heap_alloc _ _ _ (by simp)).trans (World.alloc_heap_new w _)
  have low0 : Below w0.heap.size w0 V := hb0.trans (by rw [hV]; exact (((Below.refl _ w).alloc (Nat.le_refl _) _).alloc (by simp) _).mono hb0.size)
  have enter0 : (Instr.enterLoop fn a.tmps ps assign body Fence.wide.round).run P w = .ok (w.heap.size + 1, [{ target := .collected w.heap.size, args := #[] }]) V := by
    rw [hV, hlp]; exact run_enterLoop_outer _ _ _ _ _
  -- the two blocks of the loop's own are no one's else
  have same : ∀ {p : Nat} {o : Obj} {A B : World}, A.heap[p]? = some o → Below A.heap.size A B → B.heap[p]? = some o := fun h hb => (hb.block _ (Array.getElem?_eq_some_iff.1 h).1).trans h
  have kpt : ∀ (X : World) (o : Obj), Fix K X (X.putObj (w.heap.size + 1) o) := fun X o =>
    ⟨by simp, fun i hi _ => World.putObj_heap_other (by have := hK i hi; omega)⟩
  refine ⟨w.heap.size + 1, [{ target := .collected w.heap.size, args := #[] }], V, { target := .fn (.func gf) lb, args := #[.func (.yield (w.heap.size + 1)) #[] #[]] }, V, gf, #[.func (.yield (w.heap.size + 1)) #[] #[]] ++ lb, V,
    enter0, by (simp only [resolve, hg]; simp [go_sem]), fun _ _ => trivial, by simp [invoke, go_sem, eg], fun _ => h1, ?_⟩
  refine (hseq (w.heap.size + 1) (fun pre X => I pre X ∧ X.heap[w.heap.size + 1]? = some (.loop (lp .ready none)) ∧ X.heap[w.heap.size]? = some (.deferred (some [])))
    (fun pre X => ∃ c, Ix c pre X ∧ X.heap[w.heap.size + 1]? = some (.loop (lp .done (some c))) ∧ X.heap[w.heap.size]? = some (.deferred (some []))) V low0
    (fun s A B ⟨h1, h2, h3⟩ hb => ⟨hI s A B h1 hb, same h2 hb, same h3 hb⟩)
    (fun s A B ⟨c, h1, h2, h3⟩ hb => ⟨c, hIx c s A B h1 hb, same h2 hb, same h3 hb⟩) ?_ ⟨hI _ _ _ h0 (by rw [hV]; exact ((Below.refl _ w).alloc (Nat.le_refl _) _).alloc (by simp) _), rec0, def0⟩).mono ?_
  · -- a round
    rintro pre x X0 ⟨hi0, hl0, hk0⟩ hlen
    have hlt0 : w.heap.size + 1 < X0.heap.size := (Array.getElem?_eq_some_iff.1 hl0).1
    have hy := run_yield (P := P) (args := encs x) hl0 (by rw [hlp]; exact hps x)
    rw [hlp] at hy
    refine ⟨fn, _, assign, body, hy, roundIn_of_wpIn hfn (hassign _ pre x X0 _ hi0 hlen hlt0 (fun a' X hko hfx hi hax => ?_))⟩
    have hl := hko.same _ _ hl0 rfl
    have hk := hko.same _ _ hk0 rfl
    have hlt : w.heap.size + 1 < X.heap.size := (Array.getElem?_eq_some_iff.1 hl).1
    refine ⟨_, run_beginRound hl (by rw [hlp]), ?_⟩
    have kp0 : Fix K X0 X := hfx
    obtain ⟨Y, hY⟩ : ∃ Y, Y = X.putObj (w.heap.size + 1) (.loop { lp .ready none with state := .busy }) := ⟨_, rfl⟩
    have busyY : Y.heap[w.heap.size + 1]? = some (.loop { lp .ready none with state := .busy }) := by rw [hY]; exact World.putObj_heap_same hlt
    have defY : Y.heap[w.heap.size]? = some (.deferred (some [])) := by rw [hY]; exact (World.putObj_heap_other (by omega)).trans hk
    have kpY : Fix K X Y := by rw [hY]; exact kpt _ _
    have haY : Ax pre x a' Y := by rw [hY]; exact hAx _ _ _ _ _ hax
    have hiY : I pre Y := by rw [hY]; exact hIp _ _ _ _ hi hl
    rw [← hY]
    -- the round's end
    have fin : ∀ (j : Option Code) (Z : World), KeepsFrom w.heap.size Y Z → ∃ Z', (Instr.endRound (w.heap.size + 1) j).run P Z = .ok (.bool j.isNone) Z' ∧ Z' = Z.putObj (w.heap.size + 1) (.loop (lp (if j.isNone then .ready else .done) j)) ∧
        Z'.heap[w.heap.size + 1]? = some (.loop (lp (if j.isNone then .ready else .done) j)) ∧ Z'.heap[w.heap.size]? = some (.deferred (some [])) ∧ ∃ lz, Z.heap[w.heap.size + 1]? = some (.loop lz) := fun j Z hkZ => by
      have hb := hkZ.same _ _ (by omega) busyY rfl
      have hrun := run_endRound (P := P) j hb
      rw [hlp] at hrun
      rw [hlp]
      exact ⟨_, hrun, rfl, World.putObj_heap_same (Array.getElem?_eq_some_iff.1 hb).1, (World.putObj_heap_other (by omega)).trans (hkZ.same _ _ (Nat.le_refl _) defY rfl), _, hkZ.same _ _ (by omega) busyY rfl⟩
    refine wpIn_mono (hbody _ pre x a' _ hiY (Array.getElem?_eq_some_iff.1 busyY).1 haY) ?_
    have out : ∀ (c : Code) (Z : World), KeepsFrom w.heap.size Y Z → Ix c (pre ++ [x]) Z → ∃ v Z', (Instr.endRound (w.heap.size + 1) (some c)).run P Z = .ok v Z' ∧
        ((Ending.returned v = .returned (.bool true) ∧ (I (pre ++ [x]) Z' ∧ Z'.heap[w.heap.size + 1]? = some (.loop (lp .ready none)) ∧ Z'.heap[w.heap.size]? = some (.deferred (some []))) ∧ Fix K X0 Z') ∨
          (Ending.returned v = .returned (.bool false) ∧ ∃ c, Ix c (pre ++ [x]) Z' ∧ Z'.heap[w.heap.size + 1]? = some (.loop (lp .done (some c))) ∧ Z'.heap[w.heap.size]? = some (.deferred (some [])))) := fun c Z hkZ hiZ => by
      obtain ⟨Z', hr, rfl, hl4, hk4, lz, hlz⟩ := fin (some c) Z hkZ
      exact ⟨_, _, hr, .inr ⟨rfl, c, hIxp c _ _ _ _ hiZ hlz, hl4, hk4⟩⟩
    rintro e a3 Z hp
    cases e with
    | normal =>
      obtain ⟨hkZ, hkp, hiZ⟩ := hp
      obtain ⟨Z', hr, rfl, hl4, hk4, lz, hlz⟩ := fin none Z hkZ
      exact ⟨_, _, hr, .inl ⟨rfl, ⟨hIp _ _ _ _ hiZ hlz, hl4, hk4⟩, ((kp0.trans kpY).trans hkp).trans (kpt _ _)⟩⟩
    | ret => exact out .ret Z hp.1 hp.2
    | exit id => exact out (.exit id) Z hp.1 hp.2
    | goto t => exact out (.goto t) Z hp.1 hp.2
    | panic ch => exact hp.elim
    | outgrown => exact hp.elim
  · -- behind the iterator
    rintro e X ⟨⟨v, rfl⟩, (⟨xs, hS, hi, hl, hk⟩ | ⟨pre, hSp, c, hi, hl, hk⟩)⟩
    · have hrun := run_endLoop (P := P) hl (by rw [hlp]; simp)
      rw [hlp] at hrun
      exact ⟨none, _, hrun, hdone _ xs _ (Nat.le_refl _) hS (hIp _ _ _ _ hi hl) ((World.putObj_heap_other (by omega)).trans hk)⟩
    · have hrun := run_endLoop (P := P) hl (by rw [hlp]; simp)
      rw [hlp] at hrun
      exact ⟨some c, _, hrun, hstop _ c pre _ (Nat.le_refl _) hSp (hIxp c _ _ _ _ hi hl) ((World.putObj_heap_other (by omega)).trans hk)⟩
end
end Go.Proofs.Ytkdocoibfclfeaa.it

namespace Go.Proofs.Ytkdocoibfclfeaa
open Go.ChangeShapes Go.WideShapes Go.ChangeAt Go.RowKit Go.Deep Go.Shelf Go.Maps Go.WideMaps Ytkdocoibfclfeaa.it
set_option linter.unusedSimpArgs false
set_option linter.unusedVariables false

attribute [local go_sem] Oper.semAt_some
set_option maxRecDepth 100000 in
set_option maxHeartbeats 4000000 in
theorem acc_okW (n : Nat) (hn : 1 ≤ n) (l Bx g : Nat) (K : Nat → Prop) (A : List Acc) (hA : A.length ≤ 65536) (WS : World) (J Jx : List (Nat × Acc) → World → Prop)
    (hY : ∀ pre x W, J pre W → (∃ j, j < A.length ∧ pre = upto (numA A) j ∧ x = numA A j) → YieldAt Fence.wide (n - 1) Try.prog l #[.int .i64 (x.1 : Int), .agg #[.string x.2.name, .int .i64 x.2.least, .int .i64 x.2.has]] W fun e W' =>
      (e = .returned (.bool true) ∧ J (pre ++ [x]) W' ∧ Fix K W W') ∨ (e = .returned (.bool false) ∧ Jx (pre ++ [x]) W'))
    (hJ : Stays WS.heap.size J) (hB1 : K Bx) (hB2 : K g) (hK : ∀ i, K i → i < WS.heap.size) (hc : WS.cell? ⟨Bx, 0, none⟩ = some (.slice (some ⟨g, 0, none⟩) A.length A.length))
    (hcl : ∀ j, j < A.length → WS.cell? ⟨g, j * 3, none⟩ = some (.string (accAt0 A j).name) ∧ WS.cell? ⟨g, j * 3 + 1, none⟩ = some (.int .i64 (accAt0 A j).least) ∧ WS.cell? ⟨g, j * 3 + 2, none⟩ = some (.int .i64 (accAt0 A j).has)) (h0 : J [] WS) :
    CallsIn Fence.wide n Try.prog 53 #[.func (.yield l) #[] #[], .pointer (some ⟨Bx, 0, none⟩)] WS fun e W' => (∃ v, e = .returned v) ∧
      ((∃ ys, ys = upto (numA A) A.length ∧ J ys W') ∨ (∃ pre, (∃ k, k ≤ A.length ∧ pre = upto (numA A) k) ∧ Jx pre W')) := by
  have HCL := hide hcl
  have hKx := hK Bx hB1
  have hKg := hK g hB2
  clear hcl
  refine callsIn_of_wp Try.func53 rfl trivial ?_ rfl
  simp only [Try.ntmps53, List.size_toArray, List.length_cons, List.length_nil, Nat.reduceAdd, Nat.reduceSub, Array.replicate_succ, Array.replicate_zero, List.push_toArray, List.append_toArray, List.nil_append, List.cons_append]
  gi_wp2
  gi_loopw [7] (fun v7 wr => ∃ j : Nat, j ≤ A.length ∧ v7 = .int .i64 (j : Int) ∧ J (upto (numA A) j) wr ∧ Fix K WS wr) (fun v7 _ => A.length - (intOf v7).toNat)
  case atStart => exact ⟨0, Nat.zero_le _, rfl, h0, Fix.of_below (Below.refl _ _)⟩
  case round =>
    obtain ⟨j, hj, rfl, hJs, hBw⟩ := hrel
    have HJS := hide hJs
    have HBW := hide hBw
    clear hJs hBw
    by_cases hlt : j < A.length
    · have hlt' : (j : Int) < (A.length : Int) := by omega
      have hz := HBW.out.size
      have hgw : g < wr.heap.size := by omega
      have HC0 := hide ((HBW.out.cell (p := ⟨g, j * 3, none⟩) hB2 hKg).trans (HCL.out j hlt).1)
      have HC1 := hide ((HBW.out.cell (p := ⟨g, j * 3 + 1, none⟩) hB2 hKg).trans (HCL.out j hlt).2.1)
      have HC2 := hide ((HBW.out.cell (p := ⟨g, j * 3 + 2, none⟩) hB2 hKg).trans (HCL.out j hlt).2.2)
      obtain ⟨a, ha⟩ : ∃ a, a = accAt0 A j := ⟨_, rfl⟩
      rw [← ha] at HC0 HC1 HC2
      have hc0 := HC0.out
      have hc1 := HC1.out
      have hc2 := HC2.out
      have HA := hide ha
      clear ha
      obtain ⟨V1, hV1⟩ : ∃ V1, V1 = wr.alloc (.cells #[.string a.name, .int .i64 a.least, .int .i64 a.has] 70) := ⟨_, rfl⟩
      have hbV : Below wr.heap.size wr V1 := by rw [hV1]; exact (Below.refl _ _).alloc (Nat.le_refl _) _
      have J1 : J (upto (numA A) j) V1 := hJ.step HJS.out hbV hz
      obtain ⟨fn, tmps, assign, body, hy, hR⟩ := hY _ (j, a) V1 J1 ⟨j, hlt, rfl, by rw [HA.out]; rfl⟩
      dsimp only at hy
      have HF1 := hide (HBW.out.trans (Fix.of_below hbV))
      rw [hV1] at hy
      have HV1 := hide hV1
      clear hV1 hbV J1
      gi_wp2_with fail
      rw [← HV1.out]
      refine hR.mono ?_
      rintro e W3 (⟨rfl, hJ3, hk3⟩ | ⟨rfl, hJx3⟩)
      · have HJ3 := hide hJ3
        have HB3 := hide (HF1.out.trans (hk3))
        clear hJ3 hk3 hR hy
        gi_wp2
        go_roundw
        case rel => exact ⟨j + 1, by omega, by go_num, by (rw [upto_succ]; have q := HJ3.out; rw [HA.out] at q; exact q), HB3.out⟩
        case measure => (first | (simp [intOf]; done) | (simp [intOf]; omega))
      · have HJx3 := hide hJx3
        clear hJx3 hR hy
        gi_wp2
        refine bodyPost_ret (results_none rfl _ _ _) rfl ?_
        exact ⟨⟨_, rfl⟩, .inr ⟨upto (numA A) (j + 1), ⟨j + 1, by omega, rfl⟩, by (rw [upto_succ]; have q := HJx3.out; rw [HA.out] at q; exact q)⟩⟩
    · obtain rfl : j = A.length := by omega
      gi_wp2
      go_end0
      exact ⟨⟨_, rfl⟩, .inl ⟨_, rfl, HJS.out⟩⟩
theorem acc_seqW (n : Nat) (hn : 1 ≤ n) {B : Nat} {A : List Acc} {Bx g : Nat} {w : World} (h : AccIt B A Bx g w) (hA : A.length ≤ 65536) : SeqW n Try.prog 53 #[.pointer (some ⟨Bx, 0, none⟩)] encA (fun i => i = Bx ∨ i = g) (fun xs => xs = upto (numA A) A.length) (fun pre => ∃ k, k ≤ A.length ∧ pre = upto (numA A) k) (fun pre x _ => ∃ j, j < A.length ∧ pre = upto (numA A) j ∧ x = numA A j) w := by
  intro l J Jx W hbW hJ hJx hY h0
  have hl := h.lts
  have hz := hbW.size
  exact acc_okW n hn l Bx g _ A hA W J Jx hY hJ (.inl rfl) (.inr rfl) (fun i hi => by rcases hi with rfl | rfl <;> omega) (cell_stay h.c (hbW.block _ hl.1)) (fun j hj => ⟨cell_stay (h.cells j hj).1 (hbW.block _ hl.2), cell_stay (h.cells j hj).2.1 (hbW.block _ hl.2), cell_stay (h.cells j hj).2.2 (hbW.block _ hl.2)⟩) h0
theorem eql80k (f : Nat) (c : Array Value) (w : World) : Sem.run Try.prog (binOp .eql 80 (.func (.func f) #[] c) .nilFunc) w = .ok (.bool false) w := by kernel_rfl
theorem cell_put {W : World} {B : Nat} {o : Obj} {b k : Nat} (h : b ≠ B) : (W.putObj B o).cell? ⟨b, k, none⟩ = W.cell? ⟨b, k, none⟩ := World.cell?_of_block (a := ⟨b, k, none⟩) (World.putObj_heap_other h)
theorem fro_put {W : World} {B : Nat} {o : Obj} {b k : Nat} (h : b ≠ B) : (W.putObj B o).frozen? ⟨b, k, none⟩ = W.frozen? ⟨b, k, none⟩ := World.frozen?_of_block (a := ⟨b, k, none⟩) (World.putObj_heap_other h)
/-- an account in a box -/
def BoxA (W : World) (Bx : Nat) (a : Acc) : Prop := W.cell? ⟨Bx, 0, none⟩ = some (.string a.name) ∧ W.cell? ⟨Bx, 1, none⟩ = some (.int .i64 a.least) ∧ W.cell? ⟨Bx, 2, none⟩ = some (.int .i64 a.has)
theorem BoxA.put {W : World} {Bx B : Nat} {a : Acc} (h : BoxA W Bx a) (hb : Bx ≠ B) (o : Obj) : BoxA (W.putObj B o) Bx a := ⟨(cell_put hb).trans h.1, (cell_put hb).trans h.2.1, (cell_put hb).trans h.2.2⟩
theorem BoxA.new (W : World) (a : Acc) : BoxA (W.alloc (.cells #[.string a.name, .int .i64 a.least, .int .i64 a.has] 70)) W.heap.size a := by simp [BoxA, go_sem]
set_option maxRecDepth 100000 in
set_option maxHeartbeats 4000000 in
theorem acc_okX (n : Nat) (hn : 1 ≤ n) (l Bx g : Nat) (K : Nat → Prop) (A : List Acc) (hA : A.length ≤ 65536) (WS : World) (J Jx : List (Nat × Acc) → World → Prop)
    (hY : ∀ pre x W, J pre W → (∃ j, j < A.length ∧ pre = upto (numA A) j ∧ x = numA A j) → YieldAt Fence.wide (n - 1) Try.prog l #[.int .i64 (x.1 : Int), .agg #[.string x.2.name, .int .i64 x.2.least, .int .i64 x.2.has]] W fun e W' =>
      (e = .returned (.bool true) ∧ J (pre ++ [x]) W' ∧ Fix K W W') ∨ (e = .returned (.bool false) ∧ Jx (pre ++ [x]) W'))
    (hJ : Ext J) (hB1 : K Bx) (hB2 : K g) (hK : ∀ i, K i → i < WS.heap.size) (hc : WS.cell? ⟨Bx, 0, none⟩ = some (.slice (some ⟨g, 0, none⟩) A.length A.length))
    (hcl : ∀ j, j < A.length → WS.cell? ⟨g, j * 3, none⟩ = some (.string (accAt0 A j).name) ∧ WS.cell? ⟨g, j * 3 + 1, none⟩ = some (.int .i64 (accAt0 A j).least) ∧ WS.cell? ⟨g, j * 3 + 2, none⟩ = some (.int .i64 (accAt0 A j).has)) (h0 : J [] WS) :
    CallsIn Fence.wide n Try.prog 53 #[.func (.yield l) #[] #[], .pointer (some ⟨Bx, 0, none⟩)] WS fun e W' => (∃ v, e = .returned v) ∧
      ((∃ ys, ys = upto (numA A) A.length ∧ J ys W') ∨ (∃ pre, (∃ k, k ≤ A.length ∧ pre = upto (numA A) k) ∧ Jx pre W')) := by
  have HCL := hide hcl
  have hKx := hK Bx hB1
  have hKg := hK g hB2
  clear hcl
  refine callsIn_of_wp Try.func53 rfl trivial ?_ rfl
  simp only [Try.ntmps53, List.size_toArray, List.length_cons, List.length_nil, Nat.reduceAdd, Nat.reduceSub, Array.replicate_succ, Array.replicate_zero, List.push_toArray, List.append_toArray, List.nil_append, List.cons_append]
  gi_wp2
  gi_loopw [7] (fun v7 wr => ∃ j : Nat, j ≤ A.length ∧ v7 = .int .i64 (j : Int) ∧ J (upto (numA A) j) wr ∧ Fix K WS wr) (fun v7 _ => A.length - (intOf v7).toNat)
  case atStart => exact ⟨0, Nat.zero_le _, rfl, h0, Fix.of_below (Below.refl _ _)⟩
  case round =>
    obtain ⟨j, hj, rfl, hJs, hBw⟩ := hrel
    have HJS := hide hJs
    have HBW := hide hBw
    clear hJs hBw
    by_cases hlt : j < A.length
    · have hlt' : (j : Int) < (A.length : Int) := by omega
      have hz := HBW.out.size
      have hgw : g < wr.heap.size := by omega
      have HC0 := hide ((HBW.out.cell (p := ⟨g, j * 3, none⟩) hB2 hKg).trans (HCL.out j hlt).1)
      have HC1 := hide ((HBW.out.cell (p := ⟨g, j * 3 + 1, none⟩) hB2 hKg).trans (HCL.out j hlt).2.1)
      have HC2 := hide ((HBW.out.cell (p := ⟨g, j * 3 + 2, none⟩) hB2 hKg).trans (HCL.out j hlt).2.2)
      obtain ⟨a, ha⟩ : ∃ a, a = accAt0 A j := ⟨_, rfl⟩
      rw [← ha] at HC0 HC1 HC2
      have hc0 := HC0.out
      have hc1 := HC1.out
      have hc2 := HC2.out
      have HA := hide ha
      clear ha
      obtain ⟨V1, hV1⟩ : ∃ V1, V1 = wr.alloc (.cells #[.string a.name, .int .i64 a.least, .int .i64 a.has] 70) := ⟨_, rfl⟩
      have hbV : Below wr.heap.size wr V1 := by rw [hV1]; exact (Below.refl _ _).alloc (Nat.le_refl _) _
      have J1 : J (upto (numA A) j) V1 := hJ _ _ _ HJS.out hbV
      obtain ⟨fn, tmps, assign, body, hy, hR⟩ := hY _ (j, a) V1 J1 ⟨j, hlt, rfl, by rw [HA.out]; rfl⟩
      dsimp only at hy
      have HF1 := hide (HBW.out.trans (Fix.of_below hbV))
      rw [hV1] at hy
      have HV1 := hide hV1
      clear hV1 hbV J1
      gi_wp2_with fail
      rw [← HV1.out]
      refine hR.mono ?_
      rintro e W3 (⟨rfl, hJ3, hk3⟩ | ⟨rfl, hJx3⟩)
      · have HJ3 := hide hJ3
        have HB3 := hide (HF1.out.trans (hk3))
        clear hJ3 hk3 hR hy
        gi_wp2
        go_roundw
        case rel => exact ⟨j + 1, by omega, by go_num, by (rw [upto_succ]; have q := HJ3.out; rw [HA.out] at q; exact q), HB3.out⟩
        case measure => (first | (simp [intOf]; done) | (simp [intOf]; omega))
      · have HJx3 := hide hJx3
        clear hJx3 hR hy
        gi_wp2
        refine bodyPost_ret (results_none rfl _ _ _) rfl ?_
        exact ⟨⟨_, rfl⟩, .inr ⟨upto (numA A) (j + 1), ⟨j + 1, by omega, rfl⟩, by (rw [upto_succ]; have q := HJx3.out; rw [HA.out] at q; exact q)⟩⟩
    · obtain rfl : j = A.length := by omega
      gi_wp2
      go_end0
      exact ⟨⟨_, rfl⟩, .inl ⟨_, rfl, HJS.out⟩⟩
theorem acc_seqX (n : Nat) (hn : 1 ≤ n) {B : Nat} {A : List Acc} {Bx g : Nat} {w : World} (h : AccIt B A Bx g w) (hA : A.length ≤ 65536) : SeqX n Try.prog 53 #[.pointer (some ⟨Bx, 0, none⟩)] encA (fun i => i = Bx ∨ i = g) (fun xs => xs = upto (numA A) A.length) (fun pre => ∃ k, k ≤ A.length ∧ pre = upto (numA A) k) (fun pre x _ => ∃ j, j < A.length ∧ pre = upto (numA A) j ∧ x = numA A j) w := by
  intro l J Jx W hbW hJ hJx hY h0
  have hl := h.lts
  have hz := hbW.size
  exact acc_okX n hn l Bx g _ A hA W J Jx hY hJ (.inl rfl) (.inr rfl) (fun i hi => by rcases hi with rfl | rfl <;> omega) (cell_stay h.c (hbW.block _ hl.1)) (fun j hj => ⟨cell_stay (h.cells j hj).1 (hbW.block _ hl.2), cell_stay (h.cells j hj).2.1 (hbW.block _ hl.2), cell_stay (h.cells j hj).2.2 (hbW.block _ hl.2)⟩) h0

theorem cell_noloop {w : World} {b o : Nat} {v : Value} {B : Nat} {l : Loop} (h : w.cell? ⟨b, o, none⟩ = some v) (hB : w.heap[B]? = some (.loop l)) : b ≠ B := by
  intro e
  subst e
  simp [World.cell?, hB] at h
theorem map_noloop {k : TypeId} {w : World} {b n : Nat} {f : Lit → Option Value} {B : Nat} {l : Loop} (h : MapIs Try.prog k w b n f) (hB : w.heap[B]? = some (.loop l)) : b ≠ B := by
  intro e
  obtain ⟨es, ck, h⟩ := h.isMap
  rw [e, hB] at h
  cases h
theorem row_noloop {w : World} {base : Nat} {e : TypeId} {size : Nat} {v : Value} {n : Nat} {xs : List Value} {B : Nat} {l : Loop} (h : w.ownsRow base e size v n xs) (hB : w.heap[B]? = some (.loop l)) : ∀ k, v.ownBlock = some k → k ≠ B := by
  intro k hk e
  rcases h.2 with ⟨q, _⟩ | ⟨g, cap, cur, q, _, h2, _⟩
  · rw [q] at hk; cases hk
  · rw [q] at hk
    have hk' : g = k := Option.some.inj hk
    rw [hk', e, hB] at h2
    cases h2
theorem LObj.putL {I : Nat → Prop} {F : Fp} {S : LS} {w : World} {B : Nat} {l l' : Loop} (h : LObj I F S w) (hB : w.heap[B]? = some (.loop l)) : LObj I F S (w.putObj B (.loop l')) := by
  have e : ∀ k, k ≠ B → (w.putObj B (.loop l')).heap[k]? = w.heap[k]? := fun k hk => World.putObj_heap_other hk
  have hb := e F.b (cell_noloop h.b0 hB)
  have ht := e F.t (cell_noloop h.t0 hB)
  have ha := e F.a (map_noloop h.am hB)
  have hm := e F.m (map_noloop h.mm hB)
  obtain ⟨vs, hp, hq⟩ := h.pr
  refine ⟨cell_stay h.b0 hb, cell_stay h.b1 hb, cell_stay h.b2 hb, fun o => fro_stay (h.bf o) hb, cell_stay h.t0 ht, cell_stay h.t1 ht, cell_stay h.t2 ht, fro_stay h.tf ht,
    own_stays h.lr (fun k q => e k (row_noloop h.lr hB k q)), ⟨vs, own_stays hp (fun k q => e k (row_noloop hp hB k q)), fun i p e' => ?_⟩, h.am.stays (by simp) ha, h.mm.stays (by simp) hm, h.ap, h.imm, fun k hi => by simpa using h.ilt k hi⟩
  obtain ⟨v, e1, e2, e3⟩ := hq i p e'
  exact ⟨v, e1, own_stays e2 (fun k q => e k (row_noloop e2 hB k q)), e3⟩
theorem below_putL {b0 B : Nat} {w W : World} (h : Below b0 w W) (hB : b0 ≤ B) (o : Obj) : Below b0 w (W.putObj B o) := h.trans (below_put b0 W B o hB)
end Go.Proofs.Ytkdocoibfclfeaa

namespace Go.Proofs.Ytkdocoibfclfeaa.it
open Go.RowKit
set_option linter.unusedVariables false
set_option linter.unusedSimpArgs false

section
variable {F : Fence} {n : Nat} {P : Program} {ops : Array Oper} {md : Region.Mode} {C : World → Prop}
/-- no 'defer' statement -/
def noDefer (o : Oper) : Bool := match o.op with
  | .defer _ => false
  | _ => true
theorem noDefer_ne {o : Oper} (h : noDefer o = true) : ∀ c, o.op ≠ .defer c := fun c e => by
  unfold noDefer at h
  rw [e] at h
  cases h
theorem wpIn_of_quiet_round {o : Oper} {a : Act} {K : Act → Prop} {K' : Act → World → Prop} {Q' : Exit → Act → World → Prop} {w : World} (hnd : noDefer o = true) (hw : C w) (h : ∀ a w', C w' → K a → K' a w')
    (ha : o.askedIn F P a C) (hh : o.quietIn F n P a C K) : o.wpIn F n P a w K' Q' := by
  obtain ⟨v, h1, h2⟩ := hh
  have h3 := h1 w hw
  unfold Oper.quietAtIn at h3
  unfold Oper.wpIn
  refine ⟨ha w hw, ?_⟩
  rw [Oper.semAt_eq _ _ _ (noDefer_ne hnd)]
  generalize (execOp a.eval o).run P w = r at *
  cases r with
  | ok x w' =>
    cases x <;> simp only [Oper.quietUponIn] at h3 <;> simp only [Oper.uponIn]
    case value u =>
      obtain ⟨e1, e2⟩ := h3
      rw [e1, e2]
      exact h _ _ hw h2
    case skip =>
      obtain ⟨e1, e2⟩ := h3
      rw [e1, ← e2]
      exact h _ _ hw h2
    case enter f args =>
      obtain ⟨e1, hd, hc⟩ := h3
      rw [e1]
      exact ⟨hd, hc.mono fun e w'' ⟨he, hw''⟩ => by subst he; exact h _ _ hw'' h2⟩
  | halt x w' => simp only [Oper.quietUponIn] at h3
theorem wpOpIn_of_qOpIn_round {i : Nat} {a : Act} {K : Act → Prop} {K' : Act → World → Prop} {Q' : Exit → Act → World → Prop} {w : World} (hnd : ∀ (i : Nat) (o : Oper), ops[i]? = some o → noDefer o = true) (hC : C w) (h : ∀ a w', C w' → K a → K' a w')
    (hh : qOpIn F n P ops C i K a) : wpOpIn F n P ops Q' i K' a w := by
  unfold qOpIn at hh
  unfold wpOpIn
  split
  · rename_i ho; simp only [ho] at hh; exact h _ _ hC hh
  · rename_i o ho
    simp only [ho] at hh
    obtain ⟨ha, hh⟩ := hh
    split
    · rename_i hw; simp only [hw, if_true] at hh; exact wpIn_of_quiet_round (hnd i o ho) hC h ha hh
    · rename_i hw; simp only [hw] at hh; exact ⟨ha w hC, h _ _ hC hh⟩
theorem wpAnyIn_of_quiet_round {Q : Act → Prop} {Q' : Exit → Act → World → Prop} (hnd : ∀ (i : Nat) (o : Oper), ops[i]? = some o → noDefer o = true) (hQ : ∀ a w, C w → Q a → Q' .normal a w) : ∀ (fuel : Nat) (listed : Array Bool) (a : Act) (w : World), C w →
    wpAnyQIn F n P md ops C Q fuel listed a → wpAnyIn F n P md ops Q' fuel listed a w
  | 0, _, _, _, hw, h => ⟨h.1, hQ _ _ hw h.2⟩
  | fuel + 1, _, _, _, hw, h => ⟨fun h0 => hQ _ _ hw (h.1 h0), fun i hi => wpOpIn_of_qOpIn_round hnd hw (fun a' w' hw' => wpAnyIn_of_quiet_round hnd hQ fuel _ a' w' hw') (h.2 i hi)⟩
/-- **A REGION THAT DRAWS ITS ORDER, OF READS AND QUIET CALLS, IN A ROUND.** -/
theorem wpIn_region_quiet_round {id : Nat} {Q : Exit → Act → World → Prop} {a : Act} {w : World} {l : List Oper} (hnd : l.all noDefer = true) (hm : P.follows .mixedOrders = true) (hB : Region.lexB .any l.toArray = true)
    (h : wpQuietIn F n P l.toArray (fun w' => ∃ n, w' = w.drewN n) (fun a' => ∀ w', (∃ n, w' = w.drewN n) → Q .normal a' w') l a) : (Code.region id l.toArray true).wpIn F n P Q a w := by
  simp only [Region.lexB, Bool.and_eq_true] at hB
  have hnd' : ∀ (i : Nat) (o : Oper), l.toArray[i]? = some o → noDefer o = true := fun i o ho => by
    refine List.all_eq_true.1 hnd o ?_
    have := List.mem_of_getElem? (l := l) (i := i) (a := o) (by simpa using ho)
    exact this
  refine wpIn_region_any hm (wpAnyIn_of_quiet_round (C := fun w' => ∃ n, w' = w.drewN n) (Q := fun a' => ∀ w', (∃ n, w' = w.drewN n) → Q .normal a' w') hnd' (fun _ w' hw' h => h w' hw') _ _ _ _ ⟨1, rfl⟩ ?_)
  have := wpAnyQIn_lex (F := F) (n := n) (C := fun w' => ∃ n, w' = w.drewN n) (md := .any) hB.1 l.toArray.toList 0 (Array.replicate l.toArray.size false) a (by simp) (by simpa using hB.2) (by simpa using h)
  simpa using this
end
end Go.Proofs.Ytkdocoibfclfeaa.it

namespace Go.Proofs.Ytkdocoibfclfeaa
open Go.ChangeShapes Go.WideShapes Go.ChangeAt Go.RowKit Go.Deep Go.Shelf Go.Maps Go.WideMaps Ytkdocoibfclfeaa.it
set_option linter.unusedSimpArgs false
set_option linter.unusedVariables false

attribute [local go_sem] Oper.semAt_some

def psum (A : List Acc) (j : Nat) : Int := ((A.take j).map Acc.has).sum
theorem psum_step (A : List Acc) (j : Nat) (h : j < A.length) : psum A (j + 1) = psum A j + (accAt0 A j).has := by
  unfold psum; rw [take_snocA A j h]; simp
theorem accAt0_mem {A : List Acc} {j : Nat} (h : j < A.length) : accAt0 A j ∈ A := List.mem_of_getElem? (accAt0_get h)
theorem psum_bd {A : List Acc} (h : Sound A) (j : Nat) (hj : j ≤ A.length) : psum A j ≤ 65536 * maxC ∧ -(65536 * maxC) ≤ psum A j := by
  have hl : ∀ a ∈ A, -maxC ≤ a.has := fun a ha => by have := h.good a ha; omega
  have h1 := sum_le (A.take j) (fun a ha => hl a (List.mem_of_mem_take ha))
  have h2 := sum_le (A.drop j) (fun a ha => hl a (List.mem_of_mem_drop ha))
  have h3 : psum A j + ((A.drop j).map Acc.has).sum = 0 := by
    rw [← h.sum]
    unfold psum
    rw [← List.sum_append, ← List.map_append, List.take_append_drop]
  have h4 := h.few
  have l1 : (A.take j).length = j := by simp; omega
  have l2 : (A.drop j).length ≤ A.length := by simp
  rw [l1] at h1
  unfold psum at h3 ⊢
  unfold maxC at *
  omega
structure NoI (A : List Acc) (Br Bs : Nat) (j : Nat) (W : World) : Prop where
  r : W.cell? ⟨Br, 0, none⟩ = some (.bool false)
  rf : W.frozen? ⟨Br, 0, none⟩ = false
  s : W.cell? ⟨Bs, 0, none⟩ = some (.int .i64 (psum A j))
  sf : W.frozen? ⟨Bs, 0, none⟩ = false
theorem NoI.old {A : List Acc} {Br Bs j : Nat} {W W' : World} (h : NoI A Br Bs j W) (h1 : W'.heap[Br]? = W.heap[Br]?) (h2 : W'.heap[Bs]? = W.heap[Bs]?) : NoI A Br Bs j W' := ⟨cell_stay h.r h1, fro_stay h.rf h1, cell_stay h.s h2, fro_stay h.sf h2⟩
set_option maxRecDepth 100000 in
set_option maxHeartbeats 4000000 in
theorem nought_c (I : Nat → Prop) (F : Fp) (S : LS) (w : World) (h : LObj I F S w) (hS : Sound S.acc) : Calls Try.prog 12 #[.pointer (some ⟨F.b, 0, none⟩)] w fun e w' => e = .returned (.bool true) ∧ Below w.heap.size w w' := by
  have H1 := hide (h.below ((Below.refl _ _).alloc (Nat.le_refl _) (.cells #[.bool false] 4)))
  have HS := hide hS
  have Q := eql80k
  clear h hS
  refine (callsIn_wide (n := 3)).1 ?_
  refine callsIn_of_wp_marks Try.func12 rfl trivial ?_ rfl
  simp only [Try.ntmps12, List.size_toArray, List.length_cons, List.length_nil, Nat.reduceAdd, Nat.reduceSub, Array.replicate_succ, Array.replicate_zero, List.push_toArray, List.append_toArray, List.nil_append, List.cons_append]
  gi_wp2_with fail
  refine ⟨trivial, ?_⟩
  refine (callsIn_wide.2 (Accounts_c I F S _ H1.out HS.out.few)).mono ?_
  rintro e w5 ⟨Bx, g, rfl, hac, hb5⟩
  have hz5 := hb5.size
  simp at hz5
  have c5 : w5.cell? ⟨w.heap.size, 0, none⟩ = some (.bool false) := cell_stay (show (w.alloc (.cells #[.bool false] 4)).cell? ⟨w.heap.size, 0, none⟩ = some (.bool false) by simp [go_sem]) (hb5.block _ (by simp))
  have f5 : w5.frozen? ⟨w.heap.size, 0, none⟩ = false := fro_stay (show (w.alloc (.cells #[.bool false] 4)).frozen? ⟨w.heap.size, 0, none⟩ = false by simp [go_sem]) (hb5.block _ (by simp))
  have HB5 := hide (show Below w.heap.size w w5 from bstep (by (focus repeat' (first | (with_reducible exact Below.refl _ _) | (with_reducible assumption) | (with_reducible refine Below.alloc ?_ ?_ _) | (with_reducible refine Below.drew ?_) | (with_reducible refine bdrewN ?_ _) | (with_reducible refine Below.setCell ?_ ?_ _) | (first | (with_reducible exact Nat.le_refl _) | (with_reducible assumption) | omega | (simp; omega) | (simp; done))))) hb5)
  have HAC := hide hac
  have hlb := hac.lb
  have hlg := hac.lg
  have hlt := hac.lts
  simp only [World.size_alloc] at hlb hlg
  clear hac hb5
  obtain ⟨V, hV⟩ : ∃ V, V = w5.alloc (.cells #[.int .i64 0] 2) := ⟨_, rfl⟩
  have hbV : Below w5.heap.size w5 V := by rw [hV]; (focus repeat' (first | (with_reducible exact Below.refl _ _) | (with_reducible assumption) | (with_reducible refine Below.alloc ?_ ?_ _) | (with_reducible refine Below.drew ?_) | (with_reducible refine bdrewN ?_ _) | (with_reducible refine Below.setCell ?_ ?_ _) | (first | (with_reducible exact Nat.le_refl _) | (with_reducible assumption) | omega | (simp; omega) | (simp; done))))
  have hVz : V.heap.size = w5.heap.size + 1 := by rw [hV]; simp
  have HI0 := hide (show NoI S.acc w.heap.size w5.heap.size 0 V from ⟨cell_stay c5 (hbV.block _ hz5), fro_stay f5 (hbV.block _ hz5), by rw [hV]; simp [go_sem, psum], by rw [hV]; simp [go_sem]⟩)
  have HBV := hide (bstep HB5.out hbV)
  gi_wp2_with fail
  rw [← hV]
  clear hV c5 f5
  refine range_G (n := 3) (by decide) (gf := 53) (lb := #[.pointer (some ⟨Bx, 0, none⟩)]) rfl (enters_of Try.func53 (by kernel_rfl) rfl)
    (acc_seqW 2 (by decide) HAC.out HS.out.few) (fun i hi => by rcases hi with rfl | rfl <;> omega) hbV (fun _ => rfl)
    (fun pre W => (V.heap.size ≤ W.heap.size ∧ ∃ j, j ≤ S.acc.length ∧ pre = upto (numA S.acc) j ∧ NoI S.acc w.heap.size w5.heap.size j W) ∧ Below w.heap.size w W) (fun _ _ _ => False)
    ((stays_old (fun s W W' hb hI => by
      obtain ⟨j, h1, h2, h3⟩ := hI
      exact ⟨j, h1, h2, h3.old (hb _ (by omega)) (hb _ (by omega))⟩)).both (stays_below (by omega))) (fun _ _ _ _ hs _ => hs)
    ⟨⟨Nat.le_refl _, 0, Nat.zero_le _, rfl, HI0.out⟩, HBV.out⟩
    (fun pre x a' W => ∃ j By, j < S.acc.length ∧ pre = upto (numA S.acc) j ∧ x = numA S.acc j ∧ V.heap.size + 2 ≤ By ∧ By < W.heap.size ∧ BoxA W By x.2 ∧ a' = { tmps := #[.pointer (some ⟨F.b, 0, none⟩), undef, .pointer (some ⟨w.heap.size, 0, none⟩), .func (.func 53) #[] #[.pointer (some ⟨Bx, 0, none⟩)], .pointer (some ⟨w5.heap.size, 0, none⟩), undef, .pointer (some ⟨By, 0, none⟩), .pointer (some ⟨F.b, 0, none⟩), .func (.func 53) #[] #[.pointer (some ⟨Bx, 0, none⟩)], .func (.func 53) #[] #[.pointer (some ⟨Bx, 0, none⟩)], .bool false, .func (.func 53) #[] #[.pointer (some ⟨Bx, 0, none⟩)], .int .i64 (x.1 : Int), .agg #[.string x.2.name, .int .i64 x.2.least, .int .i64 x.2.has], undef, undef, undef, undef, undef, undef, undef, undef, undef, undef, undef], defers := [] })
    (fun pre x a' W o hx => ?_) ?assign ?body ?done ?stop
  · obtain ⟨j, By, h1, h2, h3, h4, h5, h6, h7⟩ := hx
    exact ⟨j, By, h1, h2, h3, h4, by simpa using h5, h6.put (by omega) o, h7⟩
  case assign =>
    rintro l pre x W K' hI ⟨j, hj, rfl, rfl⟩ hlt2 hK
    gi_wp2
    have hb := (Below.refl W.heap.size W).alloc (Nat.le_refl _) (.cells #[.string (numA S.acc j).2.name, .int .i64 (numA S.acc j).2.least, .int .i64 (numA S.acc j).2.has] 70)
    refine hK _ _ (KeepsOthers.alloc _ _) (Fix.of_below hb) ?_ ⟨j, W.heap.size, hj, rfl, rfl, by omega, by simp, BoxA.new W _, rfl⟩
    obtain ⟨⟨hz, j2, h1, h2, h3⟩, hB⟩ := hI
    exact ⟨⟨Nat.le_trans hz hb.size, j2, h1, h2, h3.old (hb.block _ (by omega)) (hb.block _ (by omega))⟩, hB.trans (hb.mono hB.size)⟩
  case body =>
    rintro l pre x a' W ⟨⟨hz, j2, hj2, hp2, hNI⟩, hB⟩ hlt2 ⟨j, By, hj, rfl, rfl, hBy, hByz, hbx, rfl⟩
    obtain rfl : j = j2 := by
      have := congrArg List.length hp2
      rw [upto_length, upto_length] at this
      exact this
    have HUP := hide (upto_succ (numA S.acc) j)
    obtain ⟨a, ha⟩ : ∃ a, a = accAt0 S.acc j := ⟨_, rfl⟩
    have hga := HS.out.good a (by rw [ha]; exact accAt0_mem hj)
    have hps := psum_step S.acc j hj
    have hbd := psum_bd HS.out j (by omega)
    have hbd2 := psum_bd HS.out (j + 1) (by omega)
    rw [hps, ← ha] at hbd2
    rw [← ha] at hps
    obtain ⟨t, ht⟩ : ∃ t, t = psum S.acc j := ⟨_, rfl⟩
    rw [← ht] at hps hbd hbd2
    have cs : W.cell? ⟨w5.heap.size, 0, none⟩ = some (.int .i64 t) := by rw [ht]; exact hNI.s
    have fs := hNI.sf
    have d1 : decide (a.has < a.least) = false := by (rw [decide_eq_false_iff_not]; omega)
    have b0 : W.cell? ⟨By, 0, none⟩ = some (.string a.name) := by rw [ha]; exact hbx.1
    have b1 : W.cell? ⟨By, 1, none⟩ = some (.int .i64 a.least) := by rw [ha]; exact hbx.2.1
    have b2 : W.cell? ⟨By, 2, none⟩ = some (.int .i64 a.has) := by rw [ha]; exact hbx.2.2
    have a0 : IntKind.i64.wrap (t + a.has) = t + a.has := IntWalk.i64_in _ (by unfold maxC at *; constructor <;> omega)
    have a1 : wrap64 (t + a.has) = t + a.has := by rw [← IntWalk.i64_left]; exact a0
    have HNI := hide hNI
    have HPS := hide hps
    have HBW := hide hB
    have HA := hide ha
    have HT := hide ht
    have hsz : w5.heap.size < W.heap.size := by omega
    rw [show (numA S.acc j).2 = a from ha.symm, show (numA S.acc j).1 = j from rfl]
    clear hga hps hbd hbd2 hNI hB hp2 hbx ha ht
    gi_wp2
    refine ⟨(KeepsOthers.setCell _ _ _).from _, (Fix.of_below (Below.refl _ _)).set (by rintro (q | q) <;> omega) _ _, ⟨(by first | (simp; done) | (simp; omega)), j + 1, by omega, HUP.out.symm, ?_⟩, HBW.out.setCell (p := ⟨w5.heap.size, 0, none⟩) (by show w.heap.size ≤ w5.heap.size; omega) _⟩
    have e0 : (W.setCell ⟨w5.heap.size, 0, none⟩ (.int .i64 (t + a.has))).heap[w.heap.size]? = W.heap[w.heap.size]? := heap_setCell_other _ _ _ _ (by show w.heap.size ≠ w5.heap.size; omega)
    refine ⟨cell_stay HNI.out.r e0, fro_stay HNI.out.rf e0, ?_, by rw [World.frozen?_setCell]; exact HNI.out.sf⟩
    rw [HPS.out]
    exact World.cell?_setCell_same' W ⟨w5.heap.size, 0, none⟩ _ (by rw [HNI.out.s]; rfl)
  case done =>
    rintro D ys W hD rfl ⟨⟨hz, j, hj, hp, hNI⟩, hB⟩ hKd
    obtain rfl : j = S.acc.length := by
      have := congrArg List.length hp
      rw [upto_length, upto_length] at this
      exact this.symm
    have cs : W.cell? ⟨w5.heap.size, 0, none⟩ = some (.int .i64 0) := by
      rw [hNI.s]
      have : psum S.acc S.acc.length = 0 := by unfold psum; rw [List.take_length]; exact HS.out.sum
      rw [this]
    have cr := hNI.r
    have fr := hNI.rf
    have HBW := hide hB
    have HKD := hide hKd
    have hwz : w.heap.size < W.heap.size := by omega
    have hDz := (Array.getElem?_eq_some_iff.1 hKd).1
    clear hNI hB hp hKd
    gi_wp2
    have hK' := (KeepsOthers.setCell W ⟨w.heap.size, 0, none⟩ (.bool true)).same D _ HKD.out rfl
    have hc5 := cell_kept (World.cell?_setCell_same' W ⟨w.heap.size, 0, none⟩ (.bool true) (by rw [cr]; rfl)) (grownBy_putObj' _ D (.deferred none)) (fun r e => by cases e; exact ⟨_, hK', rfl⟩)
    refine ⟨by simp, .inl ⟨_, _, rfl, run_takeDeferred hK', ?_⟩⟩
    refine ⟨.bool true, ?_, rfl, (HBW.out.setCell (p := ⟨w.heap.size, 0, none⟩) (Nat.le_refl _) _).trans (belowK_b (w := w) (Nat.le_refl _) _ D _ _ (by omega) hK' rfl rfl)⟩
    simp [results, Try.f12, go_sem, hc5]
  case stop =>
    rintro D c pre W hD _ hx _
    exact hx.elim
end Go.Proofs.Ytkdocoibfclfeaa

namespace Go.Proofs.Ytkdocoibfclfeaa
open Go.ChangeShapes Go.WideShapes Go.ChangeAt Go.RowKit Go.Deep Go.Maps Go.ChangeMaps Go.WideMaps
set_option linter.unusedSimpArgs false
set_option linter.unusedVariables false

theorem info2 : (Try.prog.info? 2).map (fun i => (i.zero, i.size, i.bytes)) = some (some (.int .i64 0), 1, 8) := by kernel_rfl
def hasV (A : List Acc) : List Value := A.map fun a => .int .i64 a.has
theorem hasV_len (A : List Acc) : (hasV A).length = A.length := by simp [hasV]
theorem hasV_at (A : List Acc) (k : Nat) (h : k < A.length) : (hasV A)[k]? = some (.int .i64 (accAt0 A k).has) := by
  unfold hasV; rw [List.getElem?_map, accAt0_get h]; rfl
theorem hasV_step (A : List Acc) (k : Nat) (h : k < A.length) : hasV (A.take (k + 1)) = hasV (A.take k) ++ [.int .i64 (accAt0 A k).has] := by
  rw [take_snocA A k h]; simp [hasV]
theorem cell_one_new' {w : World} {x : Value} {t : TypeId} {B : Nat} (h : B = w.heap.size) : ∀ j u, [x][j]? = some u → (w.alloc (.cells #[x] t)).cell? ((⟨B, 0, none⟩ : Addr).add j) = some u := by
  subst h; exact cell_one_new _ _ _
def HadsPost (A : List Acc) (w : World) (e : Ending) (w' : World) : Prop := ∃ ao cap, e = .returned (.slice ao A.length cap) ∧ w'.ownsRow w.heap.size 2 1 (.slice ao A.length cap) A.length (hasV A) ∧ Below w.heap.size w w'
set_option maxRecDepth 100000 in
set_option maxHeartbeats 4000000 in
theorem hads_c (I : Nat → Prop) (F : Fp) (S : LS) (w : World) (h : LObj I F S w) (hm : S.acc.length ≤ 99) : Calls Try.prog 9 #[.pointer (some ⟨F.b, 0, none⟩)] w (HadsPost S.acc w) := by
  obtain ⟨i0, hi0, hz0, hz1, hz2⟩ := info_parts info2
  have H := hide h
  clear h
  go_enter Try.func9, Try.ntmps9
  go_wp2_with fail
  refine (Len_c I F S _ H.out).mono ?_
  rintro e w1 ⟨rfl, hb1⟩
  have HB1 := hide hb1
  clear hb1
  go_wp2
  go_loopw [5, 6] (fun v5 v6 wr => ∃ k : Nat, k ≤ S.acc.length ∧ v6 = .int .i64 (k : Int) ∧ wr.ownsRow w.heap.size 2 1 v5 k (hasV (S.acc.take k)) ∧ Below w.heap.size w wr) (fun _ v6 _ => S.acc.length - (intOf v6).toNat)
  case atStart => exact ⟨0, Nat.zero_le _, rfl, World.ownsRow_nil _ _ _ _, HB1.out⟩
  case round =>
    obtain ⟨k, hk, rfl, hown, hbw⟩ := hrel
    obtain ⟨ao, cap, rfl⟩ := own_any hown
    have HO := hide hown
    have HBW := hide hbw
    clear hown hbw
    by_cases hlt : k < S.acc.length
    · have HOB := hide (H.out.below HBW.out)
      have hl2 : (k : Int) < (S.acc.length : Int) := by omega
      have hl3 : (k : Int) < 100 := by omega
      obtain ⟨a, ha⟩ : ∃ a, a = accAt0 S.acc k := ⟨_, rfl⟩
      have HG := hide (show S.acc[k]? = some a by rw [ha]; exact accAt0_get hlt)
      have HA := hide ha
      have ONE := hide (show ∀ u ∈ [Value.int .i64 a.has], u.oneCell' = true from fun u hu => by simp at hu; subst hu; rfl)
      clear ha
      go_wp2_with fail
      refine (Account_yes I F S k a _ HOB.out HG.out (by omega)).mono ?_
      rintro e w2 ⟨rfl, hb2⟩
      have hb3 : Below wr.heap.size wr (w2.alloc (.cells #[.string a.name, .int .i64 a.least, .int .i64 a.has] 70)) := hb2.trans ((Below.refl _ _).alloc hb2.size _)
      have HB3 := hide (bstep HBW.out hb3)
      have HO3 := hide (own_stays HO.out (fun q hq => hb3.block q (HO.out.lt q hq).2))
      have hz3 := HB3.out.size
      simp only [World.size_alloc] at hz3
      clear hb2 hb3
      go_wp2_with (at_builtin; refine wpList_append_own _ rfl _ _ 30 rfl w.heap.size 2 i0 (.int .i64 0) 1 8 Try.underlying30 hi0 hz0 hz1 hz2 rfl (by decide) _ _ _ rfl (HO3.out.alloc _) ⟨w2.heap.size + 1, 0, none⟩ 1 1 [.int .i64 a.has] rfl rfl (cell_one_new' (by simp)) ONE.out (by unfold maxLen; omega) (by omega) (by simp; omega) ?_; intro v' w4 own4 hg4 _; obtain ⟨ao4, cap4, rfl⟩ := own_any own4; have HO4 := hide own4; have HG4 := hide hg4; clear own4 hg4)
      go_roundw
      case rel =>
        refine ⟨k + 1, by omega, by go_num, ?_, ?_⟩
        · rw [hasV_step _ _ hlt, ← HA.out]; exact HO4.out
        · exact (HB3.out.alloc (by simp; omega) _).grown HG4.out (by simp; omega) (fun q hq => (HO3.out.lt q hq).1)
      case measure => simp [intOf]; omega
    · obtain rfl : k = S.acc.length := by omega
      go_wp2
      refine bodyPost_ret (v := .slice ao S.acc.length cap) (by simp [results, Try.f9, go_sem]) rfl ⟨ao, cap, rfl, ?_, HBW.out⟩
      have q := HO.out
      rw [List.take_length] at q
      exact q
theorem own_cell {w : World} {B n cap : Nat} {ao : Option Addr} {xs : List Value} (h : w.ownsRow B 2 1 (.slice ao n cap) n xs) {k : Nat} (hk : k < n) : ∃ g, ao = some ⟨g, 0, none⟩ ∧ w.cell? ⟨g, k, none⟩ = xs[k]? := by
  obtain ⟨g, c, hv, _, _⟩ := h.form (by omega)
  obtain ⟨rfl, rfl⟩ : ao = some ⟨g, 0, none⟩ ∧ c = cap := by (injection hv with e1 e2 e3; exact ⟨e1, e3.symm⟩)
  exact ⟨g, rfl, h.cellAt k (by omega)⟩
set_option maxRecDepth 100000 in
set_option maxHeartbeats 2000000 in
theorem sameHads_c (A : List Acc) (ao bo : Option Addr) (ca cb B1 B2 : Nat) (w : World) (h1 : w.ownsRow B1 2 1 (.slice ao A.length ca) A.length (hasV A)) (h2 : w.ownsRow B2 2 1 (.slice bo A.length cb) A.length (hasV A)) (hm : A.length ≤ 65536) : Calls Try.prog 13 #[.slice ao A.length ca, .slice bo A.length cb] w fun e w' => e = .returned (.bool true) ∧ Below w.heap.size w w' := by
  have H1 := hide h1
  have H2 := hide h2
  have q1 : decide ((A.length : Int) = (A.length : Int)) = true := by simp
  have q2 : ((A.length : Int) == (A.length : Int)) = true := by simp
  have q3 : ((A.length : Int) != (A.length : Int)) = false := by simp
  clear h1 h2
  go_enter Try.func13, Try.ntmps13
  go_wp2_with fail
  go_loopw [5] (fun v5 wr => ∃ k : Nat, k ≤ A.length ∧ v5 = .int .i64 (k : Int) ∧ Below w.heap.size w wr) (fun v5 _ => A.length - (intOf v5).toNat)
  case atStart => exact ⟨0, Nat.zero_le _, rfl, Below.refl _ _⟩
  case round =>
    obtain ⟨k, hk, rfl, hbw⟩ := hrel
    have HBW := hide hbw
    have hk0 : (0 : Int) ≤ (k : Int) := by omega
    clear hbw
    by_cases hlt : k < A.length
    · have hlt' : (k : Int) < (A.length : Int) := by omega
      obtain ⟨g1, rfl, c1⟩ := own_cell H1.out hlt
      obtain ⟨g2, rfl, c2⟩ := own_cell H2.out hlt
      rw [hasV_at A k hlt] at c1 c2
      have c1 := cell_stay c1 (HBW.out.block _ (World.block_lt_of_cell? w _ c1))
      have c2 := cell_stay c2 (HBW.out.block _ (World.block_lt_of_cell? w _ c2))
      obtain ⟨x, hx⟩ : ∃ x, x = (accAt0 A k).has := ⟨_, rfl⟩
      rw [← hx] at c1 c2
      have d1 : decide (x = x) = true := by simp
      have d2 : (x == x) = true := by simp
      have d3 : (x != x) = false := by simp
      clear hx
      go_wp2_with fail
      go_quiet (fail)
      go_wp2_with fail
      go_roundw
      case rel => exact ⟨k + 1, by omega, by go_num, by (have := HBW.out; (focus repeat' (first | (with_reducible exact Below.refl _ _) | (with_reducible assumption) | (with_reducible refine Below.alloc ?_ ?_ _) | (with_reducible refine Below.drew ?_) | (with_reducible refine bdrewN ?_ _) | (with_reducible refine Below.setCell ?_ ?_ _) | (first | (with_reducible exact Nat.le_refl _) | (with_reducible assumption) | omega | (simp; omega) | (simp; done)))))⟩
      case measure => (first | (simp [intOf]; done) | (simp [intOf]; omega))
    · obtain rfl : k = A.length := by omega
      go_wp2
      refine bodyPost_ret (v := .bool true) (by simp [results, Try.f13, go_sem]) rfl ⟨rfl, by (have := HBW.out; (focus repeat' (first | (with_reducible exact Below.refl _ _) | (with_reducible assumption) | (with_reducible refine Below.alloc ?_ ?_ _) | (with_reducible refine Below.drew ?_) | (with_reducible refine bdrewN ?_ _) | (with_reducible refine Below.setCell ?_ ?_ _) | (first | (with_reducible exact Nat.le_refl _) | (with_reducible assumption) | omega | (simp; omega) | (simp; done)))))⟩
end Go.Proofs.Ytkdocoibfclfeaa

namespace Go.Proofs.Ytkdocoibfclfeaa.it
open Go.RowKit Go.Deep Go.Shelf
set_option linter.unusedVariables false
set_option linter.unusedSimpArgs false
section
variable {P : Program} {n : Nat}
/-- THE LAW: the loop over such an iterator -/
theorem range_L {α : Type} {g : Operand} {ps : Array Tmp} {assign body : Code} {Q : Exit → Act → World → Prop} {a : Act} {w : World} (h1 : 1 ≤ n) {gf : Nat} {lb : Array Value} (hg : a.eval g = .func (.func gf) #[] lb)
    (eg : ∀ args w, (callFunc gf args).run P w = .ok (.enter gf args) w) {encs : α → Array Value} {K : Nat → Prop} {S Sp : List α → Prop} {Nx : List α → α → World → Prop} {w0 : World} (hseq : SeqW (n - 1) P gf lb encs K S Sp Nx w0) (hK : ∀ i, K i → i < w.heap.size)
    (hb0 : Below w0.heap.size w0 w) (hps : ∀ x, (encs x).size = ps.size) (I : List α → World → Prop) (Ix : Code → List α → World → Prop) (hI : Stays w.heap.size I) (hIx : ∀ c, Stays w.heap.size (Ix c)) (h0 : I [] w) (Ax : List α → α → Act → World → Prop) (hAx : ∀ pre x a' W o lp, W.heap[w.heap.size + 1]? = some (.loop lp) → Ax pre x a' W → Ax pre x a' (W.putObj (w.heap.size + 1) o))
    (hassign : ∀ (l : Nat) (pre : List α) (x : α) (W : World) (K' : Act → World → Prop), I pre W → Nx pre x W → w.heap.size + 1 < W.heap.size → (∀ a' W', KeepsOthers W W' → Fix K W W' → I pre W' → Ax pre x a' W' → K' a' W') →
      assign.wpIn (Fence.wide.inRound l) (n - 1 - 1) P (Exit.then K' (fun _ _ _ => False)) { tmps := (ps.zip (encs x)).foldl (fun t (p, v) => t.setIfInBounds p v) a.tmps, defers := [] } W)
    (hbody : ∀ (l : Nat) (pre : List α) (x : α) (a' : Act) (W : World), I pre W → w.heap.size + 1 < W.heap.size → Ax pre x a' W → body.wpIn (Fence.wide.inRound l) (n - 1 - 1) P (ownPostG w.heap.size (Fix K) I Ix (pre ++ [x]) W) a' W)
    (hdone : ∀ (D : Nat) (xs : List α) (W : World), w.heap.size ≤ D → S xs → I xs W → W.heap[D]? = some (.deferred (some [])) → Q .normal { a with defers := { target := .collected D, args := #[] } :: a.defers } W)
    (hstop : ∀ (D : Nat) (c : Code) (pre : List α) (W : World), w.heap.size ≤ D → Sp pre → Ix c pre W → W.heap[D]? = some (.deferred (some [])) → c.wpIn Fence.wide n P Q { a with defers := { target := .collected D, args := #[] } :: a.defers } W) :
    (Code.rangeFunc g ps assign body).wpIn Fence.wide n P Q a w := by
  refine wpIn_rangeFunc (fun fn hfn => ?_)
  -- the loop's record, in each of its states
  obtain ⟨lp, hlp⟩ : ∃ lp : LoopState → Option Code → Loop, ∀ st pe, lp st pe = { state := st, pending := pe, fn := fn, tmps := a.tmps, params := ps, assign := assign, body := body, defers := w.heap.size } := ⟨_, fun _ _ => rfl⟩
  obtain ⟨V, hV⟩ : ∃ V, V = (w.alloc (.deferred (some []))).alloc (.loop (lp .ready none)) := ⟨_, rfl⟩
  have hVz : V.heap.size = w.heap.size + 2 := by rw [hV]; simp
  have rec0 : V.heap[w.heap.size + 1]? = some (.loop (lp .ready none)) := by
    rw [hV]; have := World.alloc_heap_new (w.alloc (.deferred (some []))) (.loop (lp .ready none)); rwa [World.size_alloc] at this
  have def0 : V.heap[w.heap.size]? = some (.deferred (some [])) := by
    rw [hV]; exact (Below.heap_alloc _ _ _ (by simp)).trans (World.alloc_heap_new w _)
  have low0 : Below w0.heap.size w0 V := hb0.trans (by rw [hV]; exact (((Below.refl _ w).alloc (Nat.le_refl _) _).alloc (by simp) _).mono hb0.size)
  have enter0 : (Instr.enterLoop fn a.tmps ps assign body Fence.wide.round).run P w = .ok (w.heap.size + 1, [{ target := .collected w.heap.size, args := #[] }]) V := by
    rw [hV, hlp]; exact run_enterLoop_outer _ _ _ _ _
  -- the two blocks of the loop's own are no one's else
  have stay : ∀ (p : Nat) (o : Obj), p < V.heap.size → Stays V.heap.size (fun (_ : List α) X => X.heap[p]? = some o) := fun p o hp s A B hs hb => (hb.block p hp).trans hs
  have hIV : Stays V.heap.size I := fun s A B hs hb => hI s A B hs (hb.mono (by omega))
  have hIxV : ∀ c, Stays V.heap.size (Ix c) := fun c s A B hs hb => hIx c s A B hs (hb.mono (by omega))
  have kpt : ∀ (X : World) (o : Obj), Fix K X (X.putObj (w.heap.size + 1) o) := fun X o =>
    ⟨by simp, fun i hi _ => World.putObj_heap_other (by have := hK i hi; omega)⟩
  refine ⟨w.heap.size + 1, [{ target := .collected w.heap.size, args := #[] }], V, { target := .fn (.func gf) lb, args := #[.func (.yield (w.heap.size + 1)) #[] #[]] }, V, gf, #[.func (.yield (w.heap.size + 1)) #[] #[]] ++ lb, V,
    enter0, by (simp only [resolve, hg]; simp [go_sem]), fun _ _ => trivial, by simp [invoke, go_sem, eg], fun _ => h1, ?_⟩
  refine (hseq (w.heap.size + 1) (fun pre X => I pre X ∧ X.heap[w.heap.size + 1]? = some (.loop (lp .ready none)) ∧ X.heap[w.heap.size]? = some (.deferred (some [])))
    (fun pre X => ∃ c, Ix c pre X ∧ X.heap[w.heap.size + 1]? = some (.loop (lp .done (some c))) ∧ X.heap[w.heap.size]? = some (.deferred (some []))) V low0
    (hIV.both ((stay _ _ (by omega)).both (stay _ _ (by omega))))
    (fun s A B ⟨c, hc⟩ hb => ⟨c, ((hIxV c).both ((stay _ _ (by omega)).both (stay _ _ (by omega)))) s A B hc hb⟩) ?_ ⟨hI.lay _ (hI.lay _ h0 (Nat.le_refl _)) (by simp) |> fun q => by rw [hV]; exact q, rec0, def0⟩).mono ?_
  · -- a round
    rintro pre x X0 ⟨hi0, hl0, hk0⟩ hlen
    have hlt0 : w.heap.size + 1 < X0.heap.size := (Array.getElem?_eq_some_iff.1 hl0).1
    have hy := run_yield (P := P) (args := encs x) hl0 (by rw [hlp]; exact hps x)
    rw [hlp] at hy
    refine ⟨fn, _, assign, body, hy, roundIn_of_wpIn hfn (hassign _ pre x X0 _ hi0 hlen hlt0 (fun a' X hko hfx hi hax => ?_))⟩
    have hl := hko.same _ _ hl0 rfl
    have hk := hko.same _ _ hk0 rfl
    have hlt : w.heap.size + 1 < X.heap.size := (Array.getElem?_eq_some_iff.1 hl).1
    refine ⟨_, run_beginRound hl (by rw [hlp]), ?_⟩
    have kp0 : Fix K X0 X := hfx
    obtain ⟨Y, hY⟩ : ∃ Y, Y = X.putObj (w.heap.size + 1) (.loop { lp .ready none with state := .busy }) := ⟨_, rfl⟩
    have busyY : Y.heap[w.heap.size + 1]? = some (.loop { lp .ready none with state := .busy }) := by rw [hY]; exact World.putObj_heap_same hlt
    have defY : Y.heap[w.heap.size]? = some (.deferred (some [])) := by rw [hY]; exact (World.putObj_heap_other (by omega)).trans hk
    have kpY : Fix K X Y := by rw [hY]; exact kpt _ _
    have haY : Ax pre x a' Y := by rw [hY]; exact hAx _ _ _ _ _ _ hl hax
    have hiY : I pre Y := by rw [hY]; exact hI.put _ hi (by omega)
    rw [← hY]
    -- the round's end
    have fin : ∀ (j : Option Code) (Z : World), KeepsFrom w.heap.size Y Z → ∃ Z', (Instr.endRound (w.heap.size + 1) j).run P Z = .ok (.bool j.isNone) Z' ∧ Z' = Z.putObj (w.heap.size + 1) (.loop (lp (if j.isNone then .ready else .done) j)) ∧
        Z'.heap[w.heap.size + 1]? = some (.loop (lp (if j.isNone then .ready else .done) j)) ∧ Z'.heap[w.heap.size]? = some (.deferred (some [])) := fun j Z hkZ => by
      have hb := hkZ.same _ _ (by omega) busyY rfl
      have hrun := run_endRound (P := P) j hb
      rw [hlp] at hrun
      rw [hlp]
      exact ⟨_, hrun, rfl, World.putObj_heap_same (Array.getElem?_eq_some_iff.1 hb).1, (World.putObj_heap_other (by omega)).trans (hkZ.same _ _ (Nat.le_refl _) defY rfl)⟩
    refine wpIn_mono (hbody _ pre x a' _ hiY (Array.getElem?_eq_some_iff.1 busyY).1 haY) ?_
    have out : ∀ (c : Code) (Z : World), KeepsFrom w.heap.size Y Z → Ix c (pre ++ [x]) Z → ∃ v Z', (Instr.endRound (w.heap.size + 1) (some c)).run P Z = .ok v Z' ∧
        ((Ending.returned v = .returned (.bool true) ∧ (I (pre ++ [x]) Z' ∧ Z'.heap[w.heap.size + 1]? = some (.loop (lp .ready none)) ∧ Z'.heap[w.heap.size]? = some (.deferred (some []))) ∧ Fix K X0 Z') ∨
          (Ending.returned v = .returned (.bool false) ∧ ∃ c, Ix c (pre ++ [x]) Z' ∧ Z'.heap[w.heap.size + 1]? = some (.loop (lp .done (some c))) ∧ Z'.heap[w.heap.size]? = some (.deferred (some [])))) := fun c Z hkZ hiZ => by
      obtain ⟨Z', hr, rfl, hl4, hk4⟩ := fin (some c) Z hkZ
      exact ⟨_, _, hr, .inr ⟨rfl, c, (hIx c).put _ hiZ (by omega), hl4, hk4⟩⟩
    rintro e a3 Z hp
    cases e with
    | normal =>
      obtain ⟨hkZ, hkp, hiZ⟩ := hp
      obtain ⟨Z', hr, rfl, hl4, hk4⟩ := fin none Z hkZ
      exact ⟨_, _, hr, .inl ⟨rfl, ⟨hI.put _ hiZ (by omega), hl4, hk4⟩, ((kp0.trans kpY).trans hkp).trans (kpt _ _)⟩⟩
    | ret => exact out .ret Z hp.1 hp.2
    | exit id => exact out (.exit id) Z hp.1 hp.2
    | goto t => exact out (.goto t) Z hp.1 hp.2
    | panic ch => exact hp.elim
    | outgrown => exact hp.elim
  · -- behind the iterator
    rintro e X ⟨⟨v, rfl⟩, (⟨xs, hS, hi, hl, hk⟩ | ⟨pre, hSp, c, hi, hl, hk⟩)⟩
    · have hrun := run_endLoop (P := P) hl (by rw [hlp]; simp)
      rw [hlp] at hrun
      exact ⟨none, _, hrun, hdone _ xs _ (Nat.le_refl _) hS (hI.put _ hi (by omega)) ((World.putObj_heap_other (by omega)).trans hk)⟩
    · have hrun := run_endLoop (P := P) hl (by rw [hlp]; simp)
      rw [hlp] at hrun
      exact ⟨some c, _, hrun, hstop _ c pre _ (Nat.le_refl _) hSp ((hIx c).put _ hi (by omega)) ((World.putObj_heap_other (by omega)).trans hk)⟩
end
end Go.Proofs.Ytkdocoibfclfeaa.it

namespace Go.Proofs.Ytkdocoibfclfeaa.it
open Go.RowKit Go.Deep Go.Shelf
set_option linter.unusedVariables false
set_option linter.unusedSimpArgs false
def SeqN {α : Type} (n : Nat) (P : Program) (g : Nat) (lb : Array Value) (encs : α → Array Value) (K : Nat → Prop) (S Sp : List α → Prop) (Nx : List α → α → Prop) (w : World) : Prop :=
  ∀ (l : Nat) (J Jx : List α → World → Prop) (W : World), Below w.heap.size w W → Stays W.heap.size J → Stays W.heap.size Jx →
    (∀ pre x V, J pre V → Nx pre x → YieldAt Fence.wide (n - 1) P l (encs x) V fun e V' => (e = .returned (.bool true) ∧ J (pre ++ [x]) V' ∧ Fix (fun i => K i ∨ W.heap.size ≤ i) V V') ∨ (e = .returned (.bool false) ∧ Jx (pre ++ [x]) V' ∧ KeepsFrom W.heap.size V V')) →
    J [] W → CallsIn Fence.wide n P g (#[.func (.yield l) #[] #[]] ++ lb) W fun e V' => (∃ v, e = .returned v) ∧ ((∃ xs, S xs ∧ J xs V') ∨ (∃ pre, Sp pre ∧ Jx pre V'))
section
variable {P : Program} {n : Nat}
/-- THE LAW: the loop over such an iterator -/
theorem range_N {α : Type} {g : Operand} {ps : Array Tmp} {assign body : Code} {Q : Exit → Act → World → Prop} {a : Act} {w : World} (h1 : 1 ≤ n) {gf : Nat} {lb : Array Value} (hg : a.eval g = .func (.func gf) #[] lb)
    (eg : ∀ args w, (callFunc gf args).run P w = .ok (.enter gf args) w) {encs : α → Array Value} {K : Nat → Prop} {S Sp : List α → Prop} {Nx : List α → α → Prop} {w0 : World} (hseq : SeqN (n - 1) P gf lb encs K S Sp Nx w0) (hK : ∀ i, K i → i < w.heap.size)
    (hb0 : Below w0.heap.size w0 w) (hps : ∀ x, (encs x).size = ps.size) (I : List α → World → Prop) (Ix : Code → List α → World → Prop) (hI : Stays w.heap.size I) (hIx : ∀ c, Stays w.heap.size (Ix c)) (h0 : I [] w) (Ax : α → Act → World → Prop) (hAx : ∀ x a' W o, Ax x a' W → Ax x a' (W.putObj (w.heap.size + 1) o))
    (hassign : ∀ (l : Nat) (pre : List α) (x : α) (W : World) (K' : Act → World → Prop), I pre W → Nx pre x → w.heap.size + 1 < W.heap.size → (∀ a' W', KeepsOthers W W' → Fix (fun i => K i ∨ w.heap.size ≤ i) W W' → I pre W' → Ax x a' W' → K' a' W') →
      assign.wpIn (Fence.wide.inRound l) (n - 1 - 1) P (Exit.then K' (fun _ _ _ => False)) { tmps := (ps.zip (encs x)).foldl (fun t (p, v) => t.setIfInBounds p v) a.tmps, defers := [] } W)
    (hbody : ∀ (l : Nat) (pre : List α) (x : α) (a' : Act) (W : World), I pre W → Nx pre x → Ax x a' W → body.wpIn (Fence.wide.inRound l) (n - 1 - 1) P (ownPostK (Fix (fun i => K i ∨ w.heap.size ≤ i)) I Ix (pre ++ [x]) W) a' W)
    (hdone : ∀ (D : Nat) (xs : List α) (W : World), w.heap.size ≤ D → S xs → I xs W → W.heap[D]? = some (.deferred (some [])) → Q .normal { a with defers := { target := .collected D, args := #[] } :: a.defers } W)
    (hstop : ∀ (D : Nat) (c : Code) (pre : List α) (W : World), w.heap.size ≤ D → Sp pre → Ix c pre W → W.heap[D]? = some (.deferred (some [])) → c.wpIn Fence.wide n P Q { a with defers := { target := .collected D, args := #[] } :: a.defers } W) :
    (Code.rangeFunc g ps assign body).wpIn Fence.wide n P Q a w := by
  refine wpIn_rangeFunc (fun fn hfn => ?_)
  -- the loop's record, in each of its states
  obtain ⟨lp, hlp⟩ : ∃ lp : LoopState → Option Code → Loop, ∀ st pe, lp st pe = { state := st, pending := pe, fn := fn, tmps := a.tmps, params := ps, assign := assign, body := body, defers := w.heap.size } := ⟨_, fun _ _ => rfl⟩
  obtain ⟨V, hV⟩ : ∃ V, V = (w.alloc (.deferred (some []))).alloc (.loop (lp .ready none)) := ⟨_, rfl⟩
  have hVz : V.heap.size = w.heap.size + 2 := by rw [hV]; simp
  have rec0 : V.heap[w.heap.size + 1]? = some (.loop (lp .ready none)) := by
    rw [hV]; have := World.alloc_heap_new (w.alloc (.deferred (some []))) (.loop (lp .ready none)); rwa [World.size_alloc] at this
  have def0 : V.heap[w.heap.size]? = some (.deferred (some [])) := by
    rw [hV]; exact (Below.heap_alloc _ _ _ (by simp)).trans (World.alloc_heap_new w _)
  have low0 : Below w0.heap.size w0 V := hb0.trans (by rw [hV]; exact (((Below.refl _ w).alloc (Nat.le_refl _) _).alloc (by simp) _).mono hb0.size)
  have enter0 : (Instr.enterLoop fn a.tmps ps assign body Fence.wide.round).run P w = .ok (w.heap.size + 1, [{ target := .collected w.heap.size, args := #[] }]) V := by
    rw [hV, hlp]; exact run_enterLoop_outer _ _ _ _ _
  -- the two blocks of the loop's own are no one's else
  have stay : ∀ (p : Nat) (o : Obj), p < V.heap.size → Stays V.heap.size (fun (_ : List α) X => X.heap[p]? = some o) := fun p o hp s A B hs hb => (hb.block p hp).trans hs
  have hIV : Stays V.heap.size I := fun s A B hs hb => hI s A B hs (hb.mono (by omega))
  have hIxV : ∀ c, Stays V.heap.size (Ix c) := fun c s A B hs hb => hIx c s A B hs (hb.mono (by omega))
  have kpo : ∀ (X : World) (o : Obj), KeepsFrom V.heap.size X (X.putObj (w.heap.size + 1) o) := fun X o => ⟨by simp, fun i ob hi ho _ => (World.putObj_heap_other (by omega)).trans ho⟩
  have kpt : ∀ (X : World) (o : Obj), Fix (fun i => K i ∨ V.heap.size ≤ i) X (X.putObj (w.heap.size + 1) o) := fun X o =>
    ⟨by simp, fun i hi _ => World.putObj_heap_other (by rcases hi with h | h; (have := hK i h; omega); omega)⟩
  refine ⟨w.heap.size + 1, [{ target := .collected w.heap.size, args := #[] }], V, { target := .fn (.func gf) lb, args := #[.func (.yield (w.heap.size + 1)) #[] #[]] }, V, gf, #[.func (.yield (w.heap.size + 1)) #[] #[]] ++ lb, V,
    enter0, by (simp only [resolve, hg]; simp [go_sem]), fun _ _ => trivial, by simp [invoke, go_sem, eg], fun _ => h1, ?_⟩
  refine (hseq (w.heap.size + 1) (fun pre X => I pre X ∧ X.heap[w.heap.size + 1]? = some (.loop (lp .ready none)) ∧ X.heap[w.heap.size]? = some (.deferred (some [])))
    (fun pre X => ∃ c, Ix c pre X ∧ X.heap[w.heap.size + 1]? = some (.loop (lp .done (some c))) ∧ X.heap[w.heap.size]? = some (.deferred (some []))) V low0
    (hIV.both ((stay _ _ (by omega)).both (stay _ _ (by omega))))
    (fun s A B ⟨c, hc⟩ hb => ⟨c, ((hIxV c).both ((stay _ _ (by omega)).both (stay _ _ (by omega)))) s A B hc hb⟩) ?_ ⟨hI.lay _ (hI.lay _ h0 (Nat.le_refl _)) (by simp) |> fun q => by rw [hV]; exact q, rec0, def0⟩).mono ?_
  · -- a round
    rintro pre x X0 ⟨hi0, hl0, hk0⟩ hlen
    have hlt0 : w.heap.size + 1 < X0.heap.size := (Array.getElem?_eq_some_iff.1 hl0).1
    have hy := run_yield (P := P) (args := encs x) hl0 (by rw [hlp]; exact hps x)
    rw [hlp] at hy
    refine ⟨fn, _, assign, body, hy, roundIn_of_wpIn hfn (hassign _ pre x X0 _ hi0 hlen hlt0 (fun a' X hko hfx hi hax => ?_))⟩
    have hl := hko.same _ _ hl0 rfl
    have hk := hko.same _ _ hk0 rfl
    have hlt : w.heap.size + 1 < X.heap.size := (Array.getElem?_eq_some_iff.1 hl).1
    refine ⟨_, run_beginRound hl (by rw [hlp]), ?_⟩
    have kp0 : Fix (fun i => K i ∨ V.heap.size ≤ i) X0 X := hfx.of (fun i _ h => h.imp id (fun h => by omega))
    obtain ⟨Y, hY⟩ : ∃ Y, Y = X.putObj (w.heap.size + 1) (.loop { lp .ready none with state := .busy }) := ⟨_, rfl⟩
    have busyY : Y.heap[w.heap.size + 1]? = some (.loop { lp .ready none with state := .busy }) := by rw [hY]; exact World.putObj_heap_same hlt
    have defY : Y.heap[w.heap.size]? = some (.deferred (some [])) := by rw [hY]; exact (World.putObj_heap_other (by omega)).trans hk
    have kpY : Fix (fun i => K i ∨ V.heap.size ≤ i) X Y := by rw [hY]; exact kpt _ _
    have haY : Ax x a' Y := by rw [hY]; exact hAx _ _ _ _ hax
    have hiY : I pre Y := by rw [hY]; exact hI.put _ hi (by omega)
    rw [← hY]
    -- the round's end
    have fin : ∀ (j : Option Code) (Z : World), KeepsOthers Y Z → ∃ Z', (Instr.endRound (w.heap.size + 1) j).run P Z = .ok (.bool j.isNone) Z' ∧ Z' = Z.putObj (w.heap.size + 1) (.loop (lp (if j.isNone then .ready else .done) j)) ∧
        Z'.heap[w.heap.size + 1]? = some (.loop (lp (if j.isNone then .ready else .done) j)) ∧ Z'.heap[w.heap.size]? = some (.deferred (some [])) := fun j Z hkZ => by
      have hb := hkZ.same _ _ busyY rfl
      have hrun := run_endRound (P := P) j hb
      rw [hlp] at hrun
      rw [hlp]
      exact ⟨_, hrun, rfl, World.putObj_heap_same (Array.getElem?_eq_some_iff.1 hb).1, (World.putObj_heap_other (by omega)).trans (hkZ.same _ _ defY rfl)⟩
    refine wpIn_mono (hbody _ pre x a' _ hiY hlen haY) ?_
    have out : ∀ (c : Code) (Z : World), KeepsOthers Y Z → Ix c (pre ++ [x]) Z → ∃ v Z', (Instr.endRound (w.heap.size + 1) (some c)).run P Z = .ok v Z' ∧
        ((Ending.returned v = .returned (.bool true) ∧ (I (pre ++ [x]) Z' ∧ Z'.heap[w.heap.size + 1]? = some (.loop (lp .ready none)) ∧ Z'.heap[w.heap.size]? = some (.deferred (some []))) ∧ Fix (fun i => K i ∨ V.heap.size ≤ i) X0 Z') ∨
          (Ending.returned v = .returned (.bool false) ∧ (∃ c, Ix c (pre ++ [x]) Z' ∧ Z'.heap[w.heap.size + 1]? = some (.loop (lp .done (some c))) ∧ Z'.heap[w.heap.size]? = some (.deferred (some []))) ∧ KeepsFrom V.heap.size X0 Z')) := fun c Z hkZ hiZ => by
      obtain ⟨Z', hr, rfl, hl4, hk4⟩ := fin (some c) Z hkZ
      exact ⟨_, _, hr, .inr ⟨rfl, ⟨c, (hIx c).put _ hiZ (by omega), hl4, hk4⟩, (((hko.from _).trans (by rw [hY]; exact kpo _ _)).trans (hkZ.from _)).trans (kpo _ _)⟩⟩
    rintro e a3 Z hp
    cases e with
    | normal =>
      obtain ⟨hkZ, hkp, hiZ⟩ := hp
      obtain ⟨Z', hr, rfl, hl4, hk4⟩ := fin none Z hkZ
      exact ⟨_, _, hr, .inl ⟨rfl, ⟨hI.put _ hiZ (by omega), hl4, hk4⟩, ((kp0.trans kpY).trans (hkp.of (fun i _ h => h.imp id (fun h => by omega)))).trans (kpt _ _)⟩⟩
    | ret => exact out .ret Z hp.1 hp.2
    | exit id => exact out (.exit id) Z hp.1 hp.2
    | goto t => exact out (.goto t) Z hp.1 hp.2
    | panic ch => exact hp.elim
    | outgrown => exact hp.elim
  · -- behind the iterator
    rintro e X ⟨⟨v, rfl⟩, (⟨xs, hS, hi, hl, hk⟩ | ⟨pre, hSp, c, hi, hl, hk⟩)⟩
    · have hrun := run_endLoop (P := P) hl (by rw [hlp]; simp)
      rw [hlp] at hrun
      exact ⟨none, _, hrun, hdone _ xs _ (Nat.le_refl _) hS (hI.put _ hi (by omega)) ((World.putObj_heap_other (by omega)).trans hk)⟩
    · have hrun := run_endLoop (P := P) hl (by rw [hlp]; simp)
      rw [hlp] at hrun
      exact ⟨some c, _, hrun, hstop _ c pre _ (Nat.le_refl _) hSp ((hIx c).put _ hi (by omega)) ((World.putObj_heap_other (by omega)).trans hk)⟩
end
end Go.Proofs.Ytkdocoibfclfeaa.it

namespace Go.Proofs.Ytkdocoibfclfeaa
open Go.ChangeShapes Go.WideShapes Go.ChangeAt Go.RowKit Go.Deep Go.Shelf Go.Maps Go.WideMaps Ytkdocoibfclfeaa.it
set_option linter.unusedSimpArgs false
set_option linter.unusedVariables false

attribute [local go_sem] Oper.semAt_some

/-- a range over an iterator that tells nothing -/
theorem range_none {P : Program} {n : Nat} {g : Operand} {ps : Array Tmp} {assign body : Code} {Q : Exit → Act → World → Prop} {a : Act} {w : World} (h1 : 1 ≤ n) {gf : Nat} {lb : Array Value} (hg : a.eval g = .func (.func gf) #[] lb)
    (eg : ∀ args w, (callFunc gf args).run P w = .ok (.enter gf args) w)
    (hcall : ∀ l W, Below w.heap.size w W → CallsIn Fence.wide (n - 1) P gf (#[.func (.yield l) #[] #[]] ++ lb) W fun e V' => (∃ v, e = .returned v) ∧ Below W.heap.size W V')
    (hdone : ∀ D W, w.heap.size ≤ D → Below w.heap.size w W → W.heap[D]? = some (.deferred (some [])) → Q .normal { a with defers := { target := .collected D, args := #[] } :: a.defers } W) :
    (Code.rangeFunc g ps assign body).wpIn Fence.wide n P Q a w := by
  have hseq : SeqR (α := Empty) (n - 1) P gf lb (fun x => x.elim) (fun _ => False) (fun _ => True) (fun _ => False) (fun _ _ => False) w := by
    intro l J Jx W hbW hJ hJx hY h0
    refine (hcall l W hbW).mono ?_
    rintro e V ⟨hv, hb⟩
    exact ⟨hv, .inl ⟨[], trivial, hJ _ _ _ h0 hb⟩⟩
  refine range_R h1 hg eg hseq (fun i q => q.elim) (Below.refl _ _) (fun x => x.elim) (fun _ W => Below w.heap.size w W) (fun _ _ _ => False) (stays_below (Nat.le_refl _)) (fun _ _ _ _ hs _ => hs) (Below.refl _ _) (fun _ _ _ => True) (fun _ _ _ _ _ => trivial)
    (fun _ _ x => x.elim) (fun _ _ x => x.elim) (fun D xs W hD _ hI hk => hdone D W hD hI hk) (fun D c pre W _ q => q.elim)
theorem Len_nil (w : World) : Calls Try.prog 25 #[.pointer none] w fun e w' => e = .returned (.tuple #[.int .i64 0, .int .i64 0]) ∧ w = w' := by
  go_enter Try.func25, Try.ntmps25
  go_wp2_with (go_at_call 22; refine (noLedger _).mono ?_; rintro e w' ⟨rfl, rfl⟩)
  refine bodyPost_ret (v := .tuple #[.int .i64 0, .int .i64 0]) (by simp [results, Try.f25, go_sem]) rfl ⟨rfl, rfl⟩
theorem Len_zero (b : Nat) (w : World) (h : w.cell? ⟨b, 0, none⟩ = some (.pointer none)) : Calls Try.prog 25 #[.pointer (some ⟨b, 0, none⟩)] w fun e w' => e = .returned (.tuple #[.int .i64 0, .int .i64 0]) ∧ w = w' := by
  go_enter Try.func25, Try.ntmps25
  go_wp2_with (go_at_call 22; refine (zeroLedger _ b h).mono ?_; rintro e w' ⟨rfl, rfl⟩)
  refine bodyPost_ret (v := .tuple #[.int .i64 0, .int .i64 0]) (by simp [results, Try.f25, go_sem]) rfl ⟨rfl, rfl⟩
/-- a pointer to no ledger: nil, or a zero one -/
def NoL (pv : Option Addr) (w : World) : Prop := pv = none ∨ ∃ b, pv = some ⟨b, 0, none⟩ ∧ w.cell? ⟨b, 0, none⟩ = some (.pointer none)
theorem NoL.below {pv : Option Addr} {w w' : World} (h : NoL pv w) (hb : Below w.heap.size w w') : NoL pv w' := by
  rcases h with rfl | ⟨b, rfl, h⟩
  · exact .inl rfl
  · exact .inr ⟨b, rfl, cell_stay h (hb.block _ (World.block_lt_of_cell? w _ h))⟩
theorem NoL.isn {pv : Option Addr} {w : World} (h : NoL pv w) : Calls Try.prog 22 #[.pointer pv] w fun e w' => e = .returned (.bool true) ∧ w = w' := by
  rcases h with rfl | ⟨b, rfl, h⟩
  · exact noLedger w
  · exact zeroLedger w b h
theorem NoL.len {pv : Option Addr} {w : World} (h : NoL pv w) : Calls Try.prog 25 #[.pointer pv] w fun e w' => e = .returned (.tuple #[.int .i64 0, .int .i64 0]) ∧ w = w' := by
  rcases h with rfl | ⟨b, rfl, h⟩
  · exact Len_nil w
  · exact Len_zero b w h
theorem NoL.beh {pv : Option Addr} {w : World} (h : NoL pv w) : Calls Try.prog 27 #[.pointer pv, .slice none 0 0] w fun e w' => e = .returned (.tuple #[.map none, .int .i64 1]) ∧ Below w.heap.size w w' := by
  rcases h with rfl | ⟨b, rfl, h⟩
  · exact behind_nil none 0 0 w
  · exact behind_zero b none 0 0 w h
theorem NoL.may {pv : Option Addr} {w : World} (h : NoL pv w) : Calls Try.prog 10 #[.pointer pv, .slice none 0 0] w fun e w' => e = .returned (.int .i64 1) ∧ Below w.heap.size w w' := by
  rcases h with rfl | ⟨b, rfl, h⟩
  · exact May_nil none 0 0 w
  · exact May_zero b none 0 0 w h
theorem NoL.open (s : ByteArray) (l : Int) {pv : Option Addr} {w : World} (h : NoL pv w) : Calls Try.prog 8 #[.pointer pv, .string s, .int .i64 l] w fun e w' => e = .returned (.tuple #[.int .i64 0, .int .i64 1]) ∧ w = w' := by
  have H := hide h
  clear h
  go_enter Try.func8, Try.ntmps8
  go_wp2_with (go_at_call 22; refine H.out.isn.mono ?_; rintro e w' ⟨rfl, rfl⟩)
  refine bodyPost_ret (v := .tuple #[.int .i64 0, .int .i64 1]) (by simp [results, Try.f8, go_sem]) rfl ⟨rfl, rfl⟩
theorem NoL.post {pv : Option Addr} {w : World} (h : NoL pv w) : Calls Try.prog 11 #[.pointer pv, .slice none 0 0] w fun e w' => e = .returned (.tuple #[.int .i64 0, .int .i64 1]) ∧ Below w.heap.size w w' := by
  have H := hide h
  clear h
  go_enter Try.func11, Try.ntmps11
  go_wp2_with (go_at_call 27; refine H.out.beh.mono ?_; rintro e w' ⟨rfl, hb⟩)
  refine bodyPost_ret (v := .tuple #[.int .i64 0, .int .i64 1]) (by simp [results, Try.f11, go_sem]) rfl ⟨rfl, hb⟩
theorem NoL.has (s : ByteArray) {pv : Option Addr} {w : World} (h : NoL pv w) : Calls Try.prog 20 #[.pointer pv, .string s] w fun e w' => e = .returned (.tuple #[.int .i64 0, .int .i64 1]) ∧ w = w' := by
  have H := hide h
  clear h
  go_enter Try.func20, Try.ntmps20
  go_wp2_with (go_at_call 22; refine H.out.isn.mono ?_; rintro e w' ⟨rfl, rfl⟩)
  refine bodyPost_ret (v := .tuple #[.int .i64 0, .int .i64 1]) (by simp [results, Try.f20, go_sem]) rfl ⟨rfl, rfl⟩
theorem NoL.account (x : Int) {pv : Option Addr} {w : World} (h : NoL pv w) : Calls Try.prog 26 #[.pointer pv, .int .i64 x] w fun e w' => e = .returned (.tuple #[.agg #[.string ⟨#[]⟩, .int .i64 0, .int .i64 0], .int .i64 1]) ∧ Below w.heap.size w w' := by
  have H := hide (h.below ((Below.refl _ _).alloc (Nat.le_refl _) (.cells #[.string ⟨#[]⟩, .int .i64 0, .int .i64 0] 70)))
  clear h
  go_enter Try.func26, Try.ntmps26
  go_wp2_with (go_at_call 22; refine H.out.isn.mono ?_; rintro e w' ⟨rfl, rfl⟩)
  refine bodyPost_ret (v := .tuple #[.agg #[.string ⟨#[]⟩, .int .i64 0, .int .i64 0], .int .i64 1]) (by simp [results, Try.f26, go_sem]) rfl ⟨rfl, by (focus repeat' (first | (with_reducible exact Below.refl _ _) | (with_reducible assumption) | (with_reducible refine Below.alloc ?_ ?_ _) | (with_reducible refine Below.drew ?_) | (with_reducible refine bdrewN ?_ _) | (with_reducible refine Below.setCell ?_ ?_ _) | (first | (with_reducible exact Nat.le_refl _) | (with_reducible assumption) | omega | (simp; omega) | (simp; done))))⟩
theorem NoL.posting (x : Int) {pv : Option Addr} {w : World} (h : NoL pv w) : Calls Try.prog 31 #[.pointer pv, .int .i64 x] w fun e w' => e = .returned (.tuple #[.slice none 0 0, .int .i64 1]) ∧ w = w' := by
  have H := hide h
  clear h
  go_enter Try.func31, Try.ntmps31
  go_wp2_with (go_at_call 22; refine H.out.isn.mono ?_; rintro e w' ⟨rfl, rfl⟩)
  refine bodyPost_ret (v := .tuple #[.slice none 0 0, .int .i64 1]) (by simp [results, Try.f31, go_sem]) rfl ⟨rfl, rfl⟩
theorem NoL.back (x : Int) {pv : Option Addr} {w : World} (h : NoL pv w) : Calls Try.prog 15 #[.pointer pv, .int .i64 x] w fun e w' => e = .returned (.tuple #[.int .i64 0, .int .i64 1]) ∧ w = w' := by
  have H := hide h
  clear h
  go_enter Try.func15, Try.ntmps15
  go_wp2_with (go_at_call 31; refine (H.out.posting x).mono ?_; rintro e w' ⟨rfl, rfl⟩)
  refine bodyPost_ret (v := .tuple #[.int .i64 0, .int .i64 1]) (by simp [results, Try.f15, go_sem]) rfl ⟨rfl, rfl⟩
theorem NoL.copy {pv : Option Addr} {w : World} (h : NoL pv w) : Calls Try.prog 14 #[.pointer pv] w fun e w' => e = .returned (.pointer none) ∧ w = w' := by
  have H := hide h
  clear h
  go_enter Try.func14, Try.ntmps14
  go_wp2_with (go_at_call 22; refine H.out.isn.mono ?_; rintro e w' ⟨rfl, rfl⟩)
  refine bodyPost_ret (v := .pointer none) (by simp [results, Try.f14, go_sem]) rfl ⟨rfl, rfl⟩
theorem NoL.accounts {pv : Option Addr} {w : World} (h : NoL pv w) : Calls Try.prog 29 #[.pointer pv] w (fun e w' => ∃ Bx g, e = .returned (.func (.func 53) #[] #[.pointer (some ⟨Bx, 0, none⟩)]) ∧ AccIt w.heap.size [] Bx g w' ∧ Below w.heap.size w w') := Accounts_none pv w h.len
/-- an iterator over no postings -/
def NoAll (Bx : Nat) (w : World) : Prop := w.cell? ⟨Bx, 0, none⟩ = some (.slice none 0 0)
theorem NoL.all {pv : Option Addr} {w : World} (h : NoL pv w) : Calls Try.prog 45 #[.pointer pv] w (fun e w' => ∃ Bx, e = .returned (.func (.func 59) #[] #[.pointer (some ⟨Bx, 0, none⟩)]) ∧ NoAll Bx w' ∧ Below w.heap.size w w') := by
  have H := hide (h.below ((Below.refl _ _).alloc (Nat.le_refl _) (.cells #[.slice none 0 0] 23)))
  clear h
  go_enter Try.func45, Try.ntmps45
  go_wp2_with (go_at_call 22; refine H.out.isn.mono ?_; rintro e w' ⟨rfl, rfl⟩)
  refine bodyPost_ret (v := .func (.func 59) #[] #[.pointer (some ⟨w.heap.size, 0, none⟩)]) (by simp [results, Try.f45, go_sem]) rfl ⟨_, rfl, by simp [NoAll, go_sem], by (focus repeat' (first | (with_reducible exact Below.refl _ _) | (with_reducible assumption) | (with_reducible refine Below.alloc ?_ ?_ _) | (with_reducible refine Below.drew ?_) | (with_reducible refine bdrewN ?_ _) | (with_reducible refine Below.setCell ?_ ?_ _) | (first | (with_reducible exact Nat.le_refl _) | (with_reducible assumption) | omega | (simp; omega) | (simp; done))))⟩
theorem NoAll.run (n l : Nat) {Bx : Nat} {w : World} (h : NoAll Bx w) : CallsIn Fence.wide n Try.prog 59 #[.func (.yield l) #[] #[], .pointer (some ⟨Bx, 0, none⟩)] w fun e V' => (∃ v, e = .returned v) ∧ Below w.heap.size w V' := by
  unfold NoAll at h
  refine callsIn_of_wp Try.func59 rfl trivial ?_ rfl
  simp only [Try.ntmps59, List.size_toArray, List.length_cons, List.length_nil, Nat.reduceAdd, Nat.reduceSub, Array.replicate_succ, Array.replicate_zero, List.push_toArray, List.append_toArray, List.nil_append, List.cons_append]
  gi_wp2
  gi_loopw [7] (fun v7 wr => v7 = .int .i64 0 ∧ wr = w) (fun v7 _ => 0)
  case atStart => exact ⟨rfl, rfl⟩
  case round =>
    obtain ⟨rfl, rfl⟩ := hrel
    gi_wp2
    go_end0
    exact ⟨⟨_, rfl⟩, Below.refl _ _⟩
/-- an iterator over the line of no ledger -/
def NoLine (Ba Bs : Nat) (w : World) : Prop := ∃ Bx, w.cell? ⟨Ba, 0, none⟩ = some (.func (.func 59) #[] #[.pointer (some ⟨Bx, 0, none⟩)]) ∧ NoAll Bx w
theorem NoL.line (s : ByteArray) {pv : Option Addr} {w : World} (h : NoL pv w) : Calls Try.prog 48 #[.pointer pv, .string s] w (fun e w' => ∃ Ba Bs, e = .returned (.func (.func 60) #[] #[.pointer (some ⟨Ba, 0, none⟩), .pointer (some ⟨Bs, 0, none⟩)]) ∧ NoLine Ba Bs w' ∧ Below w.heap.size w w') := by
  have H := hide (h.below ((Below.refl _ _).alloc (Nat.le_refl _) (.cells #[.string s] 9)))
  clear h
  go_enter Try.func48, Try.ntmps48
  go_wp2_with (go_at_call 45; refine H.out.all.mono ?_; rintro e w1 ⟨Bx, rfl, hn, hb⟩)
  have hbx := World.block_lt_of_cell? _ _ hn
  refine bodyPost_ret (v := .func (.func 60) #[] #[.pointer (some ⟨w1.heap.size, 0, none⟩), .pointer (some ⟨w.heap.size, 0, none⟩)]) (by simp [results, Try.f48, go_sem]) rfl ⟨_, _, rfl, ⟨Bx, by simp [go_sem], ?_⟩, ?_⟩
  · exact cell_stay hn (Below.heap_alloc _ _ _ hbx)
  · exact (((Below.refl _ _).alloc (Nat.le_refl _) _).trans (hb.mono (by simp))).alloc (by have := hb.size; simp at this; omega) _
set_option maxRecDepth 100000 in
set_option maxHeartbeats 2000000 in
theorem NoLine.run (n l : Nat) (hn : 1 ≤ n) {Ba Bs : Nat} {w : World} (h : NoLine Ba Bs w) : CallsIn Fence.wide n Try.prog 60 #[.func (.yield l) #[] #[], .pointer (some ⟨Ba, 0, none⟩), .pointer (some ⟨Bs, 0, none⟩)] w fun e V' => (∃ v, e = .returned v) ∧ Below w.heap.size w V' := by
  obtain ⟨Bx, ha, hx⟩ := h
  have hal := World.block_lt_of_cell? w _ ha
  have hxl := World.block_lt_of_cell? w _ hx
  have HX := hide hx
  clear hx
  refine callsIn_of_wp_marks Try.func60 rfl trivial ?_ rfl
  simp only [Try.ntmps60, List.size_toArray, List.length_cons, List.length_nil, Nat.reduceAdd, Nat.reduceSub, Array.replicate_succ, Array.replicate_zero, List.push_toArray, List.append_toArray, List.nil_append, List.cons_append]
  gi_wp2_with fail
  refine range_none (by omega) (gf := 59) (lb := #[.pointer (some ⟨Bx, 0, none⟩)]) rfl (enters_of Try.func59 (by kernel_rfl) rfl) (fun l2 W hbW => ?_) (fun D W hD hbW hk => ?_)
  · refine NoAll.run (n - 1) l2 ?_
    have hb0 : Below w.heap.size w ((w.alloc (.cells #[.func (.yield l) #[] #[]] 127)).alloc (.cells #[.int .i64 0] 2)) := by (focus repeat' (first | (with_reducible exact Below.refl _ _) | (with_reducible assumption) | (with_reducible refine Below.alloc ?_ ?_ _) | (with_reducible refine Below.drew ?_) | (with_reducible refine bdrewN ?_ _) | (with_reducible refine Below.setCell ?_ ?_ _) | (first | (with_reducible exact Nat.le_refl _) | (with_reducible assumption) | omega | (simp; omega) | (simp; done))))
    exact cell_stay HX.out ((hbW.block _ (by simp; omega)).trans (hb0.block _ hxl))
  · have hK := hide hk
    gi_wp2
    have hb0 : Below w.heap.size w ((w.alloc (.cells #[.func (.yield l) #[] #[]] 127)).alloc (.cells #[.int .i64 0] 2)) := by (focus repeat' (first | (with_reducible exact Below.refl _ _) | (with_reducible assumption) | (with_reducible refine Below.alloc ?_ ?_ _) | (with_reducible refine Below.drew ?_) | (with_reducible refine bdrewN ?_ _) | (with_reducible refine Below.setCell ?_ ?_ _) | (first | (with_reducible exact Nat.le_refl _) | (with_reducible assumption) | omega | (simp; omega) | (simp; done))))
    have hb1 : Below w.heap.size w W := bstep hb0 hbW
    refine ⟨by simp, .inl ⟨_, _, rfl, run_takeDeferred hk, ?_⟩⟩
    refine ⟨_, results_none rfl _ _ _, ⟨_, rfl⟩, hb1.trans (belowK_b (w := w) (Nat.le_refl _) W D _ _ (by simp at hD; omega) hk rfl rfl)⟩
end Go.Proofs.Ytkdocoibfclfeaa

namespace Go.Proofs.Ytkdocoibfclfeaa
open Go.ChangeShapes Go.WideShapes Go.ChangeAt Go.RowKit Go.Deep Go.Shelf Go.Maps Go.WideMaps Ytkdocoibfclfeaa.it
set_option linter.unusedSimpArgs false
set_option linter.unusedVariables false

attribute [local go_sem] Oper.semAt_some

theorem AccIt.run0 (n l : Nat) {B Bx g : Nat} {w : World} (h : AccIt B [] Bx g w) : CallsIn Fence.wide n Try.prog 53 #[.func (.yield l) #[] #[], .pointer (some ⟨Bx, 0, none⟩)] w fun e V' => (∃ v, e = .returned v) ∧ Below w.heap.size w V' := by
  have hc : w.cell? ⟨Bx, 0, none⟩ = some (.slice (some ⟨g, 0, none⟩) 0 0) := h.c
  clear h
  refine callsIn_of_wp Try.func53 rfl trivial ?_ rfl
  simp only [Try.ntmps53, List.size_toArray, List.length_cons, List.length_nil, Nat.reduceAdd, Nat.reduceSub, Array.replicate_succ, Array.replicate_zero, List.push_toArray, List.append_toArray, List.nil_append, List.cons_append]
  gi_wp2
  gi_loopw [7] (fun v7 wr => v7 = .int .i64 0 ∧ wr = w) (fun v7 _ => 0)
  case atStart => exact ⟨rfl, rfl⟩
  case round =>
    obtain ⟨rfl, rfl⟩ := hrel
    gi_wp2
    go_end0
    exact ⟨⟨_, rfl⟩, Below.refl _ _⟩
theorem AccIt.below {B Bx g : Nat} {A : List Acc} {w w' : World} (h : AccIt B A Bx g w) (hb : Below w.heap.size w w') : AccIt B A Bx g w' :=
  ⟨h.lb, h.lg, h.ne, cell_stay h.c (hb.block _ h.lts.1), own_stays h.own (fun k hk => hb.block _ (h.own.lt k hk).2)⟩
theorem NoAll.below {Bx : Nat} {w w' : World} (h : NoAll Bx w) (hb : Below w.heap.size w w') : NoAll Bx w' := cell_stay h (hb.block _ (World.block_lt_of_cell? w _ h))
theorem NoLine.below {Ba Bs : Nat} {w w' : World} (h : NoLine Ba Bs w) (hb : Below w.heap.size w w') : NoLine Ba Bs w' := by
  obtain ⟨Bx, h1, h2⟩ := h
  exact ⟨Bx, cell_stay h1 (hb.block _ (World.block_lt_of_cell? w _ h1)), h2.below hb⟩
theorem eql80 (f : Nat) (c : Array Value) (w : World) : Sem.run Try.prog (binOp .eql 80 (.func (.func f) #[] c) .nilFunc) w = .ok (.bool false) w := by kernel_rfl
theorem eql102 (f : Nat) (c : Array Value) (w : World) : Sem.run Try.prog (binOp .eql 102 (.func (.func f) #[] c) .nilFunc) w = .ok (.bool false) w := by kernel_rfl
theorem eql106 (f : Nat) (c : Array Value) (w : World) : Sem.run Try.prog (binOp .eql 106 (.func (.func f) #[] c) .nilFunc) w = .ok (.bool false) w := by kernel_rfl
/-- what `nothing` holds on its way -/
structure NW (w : World) (pv : Option Addr) (W : World) : Prop where
  no : NoL pv W
  r : W.cell? ⟨w.heap.size, 0, none⟩ = some (.bool false)
  rf : W.frozen? ⟨w.heap.size, 0, none⟩ = false
  low : Below w.heap.size w W
theorem NW.below {w : World} {pv : Option Addr} {W W' : World} (h : NW w pv W) (hb : Below W.heap.size W W') : NW w pv W' :=
  have hl := World.block_lt_of_cell? W _ h.r
  ⟨h.no.below hb, cell_stay h.r (hb.block _ hl), fro_stay h.rf (hb.block _ hl), bstep h.low hb⟩
set_option maxRecDepth 100000 in
set_option maxHeartbeats 4000000 in
theorem nothing_c (pv : Option Addr) (s : ByteArray) (x : Int) (w : World) (h : NoL pv w) : Calls Try.prog 19 #[.pointer pv, .string s, .int .i64 x] w fun e w' => e = .returned (.bool true) ∧ Below w.heap.size w w' := by
  have H0 := hide (show NW w pv (w.alloc (.cells #[.bool false] 4)) from ⟨h.below (by (focus repeat' (first | (with_reducible exact Below.refl _ _) | (with_reducible assumption) | (with_reducible refine Below.alloc ?_ ?_ _) | (with_reducible refine Below.drew ?_) | (with_reducible refine bdrewN ?_ _) | (with_reducible refine Below.setCell ?_ ?_ _) | (first | (with_reducible exact Nat.le_refl _) | (with_reducible assumption) | omega | (simp; omega) | (simp; done))))), by simp [go_sem], by simp [go_sem], by (focus repeat' (first | (with_reducible exact Below.refl _ _) | (with_reducible assumption) | (with_reducible refine Below.alloc ?_ ?_ _) | (with_reducible refine Below.drew ?_) | (with_reducible refine bdrewN ?_ _) | (with_reducible refine Below.setCell ?_ ?_ _) | (first | (with_reducible exact Nat.le_refl _) | (with_reducible assumption) | omega | (simp; omega) | (simp; done))))⟩)
  have Q1 := eql80
  have Q2 := eql102
  have Q3 := eql106
  clear h
  refine (callsIn_wide (n := 3)).1 ?_
  refine callsIn_of_wp_marks Try.func19 rfl trivial ?_ rfl
  simp only [Try.ntmps19, List.size_toArray, List.length_cons, List.length_nil, Nat.reduceAdd, Nat.reduceSub, Array.replicate_succ, Array.replicate_zero, List.push_toArray, List.append_toArray, List.nil_append, List.cons_append]
  gi_wp2_with fail
  refine ⟨trivial, ?_⟩
  refine (callsIn_wide.2 (H0.out.no.open s x)).mono ?_
  rintro e w1 ⟨rfl, rfl⟩
  gi_wp2_with fail
  refine ⟨trivial, ?_⟩
  refine (callsIn_wide.2 (H0.out.no.post)).mono ?_
  rintro e w1 ⟨rfl, hb1⟩
  have H1 := hide (H0.out.below hb1)
  clear H0 hb1
  gi_wp2_with fail
  refine ⟨trivial, ?_⟩
  refine (callsIn_wide.2 (H1.out.no.has s)).mono ?_
  rintro e w2 ⟨rfl, rfl⟩
  gi_wp2_with fail
  refine ⟨trivial, ?_⟩
  refine (callsIn_wide.2 (H1.out.no.account 0)).mono ?_
  rintro e w2 ⟨rfl, hb2⟩
  have H2 := hide (H1.out.below hb2)
  clear H1 hb2
  obtain ⟨w3, hw3⟩ : ∃ w3, w3 = w2.alloc (.cells #[.string ⟨#[]⟩, .int .i64 0, .int .i64 0] 70) := ⟨_, rfl⟩
  have hb3 : Below w2.heap.size w2 w3 := by rw [hw3]; (focus repeat' (first | (with_reducible exact Below.refl _ _) | (with_reducible assumption) | (with_reducible refine Below.alloc ?_ ?_ _) | (with_reducible refine Below.drew ?_) | (with_reducible refine bdrewN ?_ _) | (with_reducible refine Below.setCell ?_ ?_ _) | (first | (with_reducible exact Nat.le_refl _) | (with_reducible assumption) | omega | (simp; omega) | (simp; done))))
  have H3 := hide (H2.out.below hb3)
  have HA3 := hide (show w3.cell? ⟨w2.heap.size, 0, none⟩ = some (.string ⟨#[]⟩) ∧ w3.cell? ⟨w2.heap.size, 1, none⟩ = some (.int .i64 0) ∧ w3.cell? ⟨w2.heap.size, 2, none⟩ = some (.int .i64 0) from by rw [hw3]; simp [go_sem])
  clear hb3 H2
  gi_wp2_with fail
  rw [← hw3]
  clear hw3
  refine ⟨trivial, ?_⟩
  refine (callsIn_wide.2 (H3.out.no.posting x)).mono ?_
  rintro e w4 ⟨rfl, rfl⟩
  gi_wp2_with fail
  refine ⟨trivial, ?_⟩
  refine (callsIn_wide.2 (H3.out.no.back x)).mono ?_
  rintro e w4 ⟨rfl, rfl⟩
  gi_wp2_with fail
  refine ⟨trivial, ?_⟩
  refine (callsIn_wide.2 (H3.out.no.len)).mono ?_
  rintro e w4 ⟨rfl, rfl⟩
  gi_wp2_with fail
  refine ⟨trivial, ?_⟩
  refine (callsIn_wide.2 (H3.out.no.accounts)).mono ?_
  rintro e w4 ⟨Bx, g, rfl, hac, hb4⟩
  have H4 := hide (H3.out.below hb4)
  have HAC := hide hac
  have HB4 := hide hb4
  clear hac hb4 H3
  gi_wp2_with fail
  refine ⟨trivial, ?_⟩
  refine (callsIn_wide.2 (H4.out.no.all)).mono ?_
  rintro e w5 ⟨By, rfl, hal, hb5⟩
  have H5 := hide (H4.out.below hb5)
  have HAC5 := hide (HAC.out.below hb5)
  have HAL := hide hal
  have HB5 := hide (bstep HB4.out hb5)
  clear hal hb5 H4 HAC HB4
  gi_wp2_with fail
  refine ⟨trivial, ?_⟩
  refine (callsIn_wide.2 (H5.out.no.line s)).mono ?_
  rintro e w6 ⟨Ba, Bs, rfl, hli, hb6⟩
  have H6 := hide (H5.out.below hb6)
  have HAC6 := hide (HAC5.out.below hb6)
  have HAL6 := hide (HAL.out.below hb6)
  have HLI := hide hli
  have HB6 := hide (bstep HB5.out hb6)
  have H0low := H6.out.low.size
  clear hli hb6 H5 HAC5 HAL HB5
  have r6 := H6.out.r
  gi_wp2_with fail
  refine range_none (by decide) (gf := 53) (lb := #[.pointer (some ⟨Bx, 0, none⟩)]) rfl (enters_of Try.func53 (by kernel_rfl) rfl) (fun l2 W hbW => (HAC6.out.below hbW).run0 _ l2) (fun D1 W1 hD1 hbW1 hk1 => ?_)
  have H7 := hide (H6.out.below hbW1)
  have HAL7 := hide (HAL6.out.below hbW1)
  have HLI7 := hide (HLI.out.below hbW1)
  have HB7 := hide (bstep HB6.out hbW1)
  have HK1 := hide hk1
  have HD1 := hide (And.intro hD1 (Array.getElem?_eq_some_iff.1 hk1).1)
  clear hbW1 hk1 H6 HAL6 HLI HB6 r6 hD1
  gi_wp2_with fail
  refine range_none (by decide) (gf := 59) (lb := #[.pointer (some ⟨By, 0, none⟩)]) rfl (enters_of Try.func59 (by kernel_rfl) rfl) (fun l2 W hbW => (HAL7.out.below hbW).run _ l2) (fun D2 W2 hD2 hbW2 hk2 => ?_)
  have H8 := hide (H7.out.below hbW2)
  have HLI8 := hide (HLI7.out.below hbW2)
  have HB8 := hide (bstep HB7.out hbW2)
  have HK1b := hide ((hbW2.block D1 HD1.out.2).trans HK1.out)
  have HK2 := hide hk2
  have HD2 := hide (And.intro hD2 (Array.getElem?_eq_some_iff.1 hk2).1)
  clear hbW2 hk2 H7 HLI7 HB7 HK1 hD2
  gi_wp2_with fail
  refine range_none (by decide) (gf := 60) (lb := #[.pointer (some ⟨Ba, 0, none⟩), .pointer (some ⟨Bs, 0, none⟩)]) rfl (enters_of Try.func60 (by kernel_rfl) rfl) (fun l2 W hbW => (HLI8.out.below hbW).run _ l2 (by decide)) (fun D3 W3 hD3 hbW3 hk3 => ?_)
  have H9 := hide (H8.out.below hbW3)
  have HB9 := hide (bstep HB8.out hbW3)
  have HK1c := hide ((hbW3.block D1 (by have := HD1.out; have := HD2.out; omega)).trans HK1b.out)
  have HK2c := hide ((hbW3.block D2 HD2.out.2).trans HK2.out)
  have HK3 := hide hk3
  have HD3 := hide (And.intro hD3 (Array.getElem?_eq_some_iff.1 hk3).1)
  have a0 : W3.cell? ⟨w2.heap.size, 0, none⟩ = some (.string ⟨#[]⟩) := cell_stay HA3.out.1 (HB9.out.block _ (World.block_lt_of_cell? _ _ HA3.out.1))
  have a1 : W3.cell? ⟨w2.heap.size, 1, none⟩ = some (.int .i64 0) := cell_stay HA3.out.2.1 (HB9.out.block _ (World.block_lt_of_cell? _ _ HA3.out.1))
  have a2 : W3.cell? ⟨w2.heap.size, 2, none⟩ = some (.int .i64 0) := cell_stay HA3.out.2.2 (HB9.out.block _ (World.block_lt_of_cell? _ _ HA3.out.1))
  clear hbW3 hk3 H8 HB8 HK1b HK2 hD3
  gi_wp2_with fail
  refine ⟨trivial, ?_⟩
  refine (callsIn_wide.2 (H9.out.no.may)).mono ?_
  rintro e w9 ⟨rfl, hb9⟩
  have H10 := hide (H9.out.below hb9)
  have HK1d := hide ((hb9.block D1 (by have := HD1.out; have := HD2.out; have := HD3.out; omega)).trans HK1c.out)
  have HK2d := hide ((hb9.block D2 (by have := HD2.out; have := HD3.out; omega)).trans HK2c.out)
  have HK3d := hide ((hb9.block D3 HD3.out.2).trans HK3.out)
  clear hb9 H9 HK1c HK2c HK3 a0 a1 a2
  gi_wp2_with fail
  refine ⟨trivial, ?_⟩
  refine (callsIn_wide.2 (H10.out.no.copy)).mono ?_
  rintro e w10 ⟨rfl, rfl⟩
  have c9 := H10.out.r
  have f9 := H10.out.rf
  have hwz := World.block_lt_of_cell? _ _ c9
  gi_wp2
  have ne12 : D1 ≠ D2 := by have := HD1.out; have := HD2.out; omega
  have ne13 : D1 ≠ D3 := by have := HD1.out; have := HD2.out; have := HD3.out; omega
  have ne23 : D2 ≠ D3 := by have := HD2.out; have := HD3.out; omega
  have q1 := (KeepsOthers.setCell w9 ⟨w.heap.size, 0, none⟩ (.bool true)).same D1 _ HK1d.out rfl
  have q2 := (KeepsOthers.setCell w9 ⟨w.heap.size, 0, none⟩ (.bool true)).same D2 _ HK2d.out rfl
  have q3 := (KeepsOthers.setCell w9 ⟨w.heap.size, 0, none⟩ (.bool true)).same D3 _ HK3d.out rfl
  have hc4 := cell_kept (World.cell?_setCell_same' w9 ⟨w.heap.size, 0, none⟩ (.bool true) (by rw [c9]; rfl)) (grownBy_putObj' _ D3 (.deferred none)) (fun r e => by cases e; exact ⟨_, q3, rfl⟩)
  have q2' := (World.putObj_heap_other (w := w9.setCell ⟨w.heap.size, 0, none⟩ (.bool true)) (o := .deferred none) ne23).trans q2
  have q1' := (World.putObj_heap_other (w := w9.setCell ⟨w.heap.size, 0, none⟩ (.bool true)) (o := .deferred none) ne13).trans q1
  have hc5 := cell_kept hc4 (grownBy_putObj' _ D2 (.deferred none)) (fun r e => by cases e; exact ⟨_, q2', rfl⟩)
  have q1'' := (World.putObj_heap_other (o := .deferred none) ne12).trans q1'
  have hc6 := cell_kept hc5 (grownBy_putObj' _ D1 (.deferred none)) (fun r e => by cases e; exact ⟨_, q1'', rfl⟩)
  refine ⟨by simp, .inl ⟨_, _, rfl, run_takeDeferred q3, ?_⟩⟩
  refine ⟨by simp, .inl ⟨_, _, rfl, run_takeDeferred q2', ?_⟩⟩
  refine ⟨by simp, .inl ⟨_, _, rfl, run_takeDeferred q1'', ?_⟩⟩
  have lw := H10.out.low
  have zl : w.heap.size ≤ w6.heap.size := by have := H0low; omega
  refine ⟨.bool true, ?_, rfl, (((lw.setCell (p := ⟨w.heap.size, 0, none⟩) (Nat.le_refl _) _).trans (belowK_b (w := w) (Nat.le_refl _) _ D3 _ _ (by have := HD1.out; have := HD2.out; have := HD3.out; omega) q3 rfl rfl)).trans (belowK_b (w := w) (Nat.le_refl _) _ D2 _ _ (by have := HD1.out; have := HD2.out; omega) q2' rfl rfl)).trans (belowK_b (w := w) (Nat.le_refl _) _ D1 _ _ (by have := HD1.out; omega) q1'' rfl rfl)⟩
  simp [results, Try.f19, go_sem, hc6]
end Go.Proofs.Ytkdocoibfclfeaa

namespace Go.Proofs.Ytkdocoibfclfeaa
open Go.ChangeShapes Go.WideShapes Go.ChangeAt Go.RowKit Go.Deep Go.Shelf Go.Maps Go.WideMaps Ytkdocoibfclfeaa.it
set_option linter.unusedSimpArgs false
set_option linter.unusedVariables false

attribute [local go_sem] Oper.semAt_some

theorem LObj.isn {I : Nat → Prop} {F : Fp} {S : LS} {w : World} (h : LObj I F S w) : Calls Try.prog 22 #[.pointer (some ⟨F.b, 0, none⟩)] w fun e w' => e = .returned (.bool false) ∧ w = w' := isLedger w F.b F.t h.b0
def NoneIs (pv : Option Addr) (r : Bool) (w : World) : Prop := ∀ W, Below w.heap.size w W → Calls Try.prog 22 #[.pointer pv] W fun e w' => e = .returned (.bool r) ∧ W = w'
theorem NoL.noneIs {pv : Option Addr} {w : World} (h : NoL pv w) : NoneIs pv true w := fun W hb => (h.below hb).isn
theorem LObj.noneIs {I : Nat → Prop} {F : Fp} {S : LS} {w : World} (h : LObj I F S w) : NoneIs (some ⟨F.b, 0, none⟩) false w := fun W hb => (h.below hb).isn
theorem same_box (w : World) (qv : Option Addr) : Below w.heap.size w ((w.alloc (.cells #[.pointer qv] 25)).alloc (.cells #[.bool false] 4)) := by (focus repeat' (first | (with_reducible exact Below.refl _ _) | (with_reducible assumption) | (with_reducible refine Below.alloc ?_ ?_ _) | (with_reducible refine Below.drew ?_) | (with_reducible refine bdrewN ?_ _) | (with_reducible refine Below.setCell ?_ ?_ _) | (first | (with_reducible exact Nat.le_refl _) | (with_reducible assumption) | omega | (simp; omega) | (simp; done))))
set_option maxHeartbeats 1000000 in
theorem Same_tt (pv qv : Option Addr) (w : World) (hp : NoneIs pv true w) (hq : NoneIs qv true w) : Calls Try.prog 18 #[.pointer pv, .pointer qv] w fun e w' => e = .returned (.bool true) ∧ Below w.heap.size w w' := by
  have HP := hide (hp _ (same_box w qv))
  have HQ := hide (hq _ (same_box w qv))
  clear hp hq
  go_enter Try.func18, Try.ntmps18
  go_wp2_with fail
  refine HP.out.mono ?_
  rintro e w1 ⟨rfl, rfl⟩
  go_wp2_with fail
  refine HP.out.mono ?_
  rintro e w1 ⟨rfl, rfl⟩
  go_wp2_with fail
  refine HQ.out.mono ?_
  rintro e w1 ⟨rfl, rfl⟩
  go_wp2
  refine bodyPost_ret (v := .bool true) (by simp [results, Try.f18, go_sem]) rfl ⟨rfl, by (focus repeat' (first | (with_reducible exact Below.refl _ _) | (with_reducible assumption) | (with_reducible refine Below.alloc ?_ ?_ _) | (with_reducible refine Below.drew ?_) | (with_reducible refine bdrewN ?_ _) | (with_reducible refine Below.setCell ?_ ?_ _) | (first | (with_reducible exact Nat.le_refl _) | (with_reducible assumption) | omega | (simp; omega) | (simp; done))))⟩
set_option maxHeartbeats 1000000 in
theorem Same_tf (pv qv : Option Addr) (w : World) (hp : NoneIs pv true w) (hq : NoneIs qv false w) : Calls Try.prog 18 #[.pointer pv, .pointer qv] w fun e w' => e = .returned (.bool false) ∧ Below w.heap.size w w' := by
  have HP := hide (hp _ (same_box w qv))
  have HQ := hide (hq _ (same_box w qv))
  clear hp hq
  go_enter Try.func18, Try.ntmps18
  go_wp2_with fail
  refine HP.out.mono ?_
  rintro e w1 ⟨rfl, rfl⟩
  go_wp2_with fail
  refine HP.out.mono ?_
  rintro e w1 ⟨rfl, rfl⟩
  go_wp2_with fail
  refine HQ.out.mono ?_
  rintro e w1 ⟨rfl, rfl⟩
  go_wp2
  refine bodyPost_ret (v := .bool false) (by simp [results, Try.f18, go_sem]) rfl ⟨rfl, by (focus repeat' (first | (with_reducible exact Below.refl _ _) | (with_reducible assumption) | (with_reducible refine Below.alloc ?_ ?_ _) | (with_reducible refine Below.drew ?_) | (with_reducible refine bdrewN ?_ _) | (with_reducible refine Below.setCell ?_ ?_ _) | (first | (with_reducible exact Nat.le_refl _) | (with_reducible assumption) | omega | (simp; omega) | (simp; done))))⟩
set_option maxHeartbeats 1000000 in
theorem Same_ft (pv qv : Option Addr) (w : World) (hp : NoneIs pv false w) (hq : NoneIs qv true w) : Calls Try.prog 18 #[.pointer pv, .pointer qv] w fun e w' => e = .returned (.bool false) ∧ Below w.heap.size w w' := by
  have HP := hide (hp _ (same_box w qv))
  have HQ := hide (hq _ (same_box w qv))
  clear hp hq
  go_enter Try.func18, Try.ntmps18
  go_wp2_with fail
  refine HP.out.mono ?_
  rintro e w1 ⟨rfl, rfl⟩
  go_wp2_with fail
  refine HQ.out.mono ?_
  rintro e w1 ⟨rfl, rfl⟩
  go_wp2_with fail
  refine HP.out.mono ?_
  rintro e w1 ⟨rfl, rfl⟩
  go_wp2
  refine bodyPost_ret (v := .bool false) (by simp [results, Try.f18, go_sem]) rfl ⟨rfl, by (focus repeat' (first | (with_reducible exact Below.refl _ _) | (with_reducible assumption) | (with_reducible refine Below.alloc ?_ ?_ _) | (with_reducible refine Below.drew ?_) | (with_reducible refine bdrewN ?_ _) | (with_reducible refine Below.setCell ?_ ?_ _) | (first | (with_reducible exact Nat.le_refl _) | (with_reducible assumption) | omega | (simp; omega) | (simp; done))))⟩
set_option maxRecDepth 100000 in
set_option maxHeartbeats 4000000 in
theorem nil_c (s : ByteArray) (x : Int) (w : World) : Calls Try.prog 5 #[.string s, .int .i64 x] w fun e w' => e = .returned (.bool true) ∧ Below w.heap.size w w' := by
  go_enter Try.func5, Try.ntmps5
  go_wp2_with fail
  refine (New_c w).mono ?_
  rintro e w1 ⟨rfl, hw1⟩
  have HK1 := hide (hw1 ▸ KL.new w)
  clear hw1
  go_wp2_with fail
  refine (Same_tt none none _ (NoL.noneIs (.inl rfl)) (NoL.noneIs (.inl rfl))).mono ?_
  rintro e w2 ⟨rfl, hb2⟩
  have HK2 := hide (HK1.out.below hb2)
  clear hb2 HK1
  obtain ⟨w3, hw3⟩ : ∃ w3, w3 = w2.alloc (.cells #[.pointer none, .map none, .slice none 0 0] 59) := ⟨_, rfl⟩
  have HK3 := hide (show KL w (w.heap.size + 3) (fun _ => False) (newFp w.heap.size) ⟨[], []⟩ w3 from HK2.out.below (by rw [hw3]; (focus repeat' (first | (with_reducible exact Below.refl _ _) | (with_reducible assumption) | (with_reducible refine Below.alloc ?_ ?_ _) | (with_reducible refine Below.drew ?_) | (with_reducible refine bdrewN ?_ _) | (with_reducible refine Below.setCell ?_ ?_ _) | (first | (with_reducible exact Nat.le_refl _) | (with_reducible assumption) | omega | (simp; omega) | (simp; done))))))
  have HZ3 := hide (show NoL (some ⟨w2.heap.size, 0, none⟩) w3 from .inr ⟨_, rfl, by rw [hw3]; simp [go_sem]⟩)
  go_wp2_with fail
  rw [← hw3]
  clear hw3 HK2
  refine (Same_tt none _ _ (NoL.noneIs (.inl rfl)) HZ3.out.noneIs).mono ?_
  rintro e w4 ⟨rfl, hb4⟩
  have HK4 := hide (HK3.out.below hb4)
  clear hb4 HK3 HZ3
  go_wp2_with fail
  refine (Same_tf none _ _ (NoL.noneIs (.inl rfl)) HK4.out.obj.noneIs).mono ?_
  rintro e w5 ⟨rfl, hb5⟩
  have HK5 := hide (HK4.out.below hb5)
  clear hb5 HK4
  go_wp2_with fail
  refine (Same_ft _ none _ HK5.out.obj.noneIs (NoL.noneIs (.inl rfl))).mono ?_
  rintro e w6 ⟨rfl, hb6⟩
  have HK6 := hide (HK5.out.below hb6).low
  clear hb6 HK5
  go_wp2_with fail
  refine (nothing_c none s x _ (.inl rfl)).mono ?_
  rintro e w7 ⟨rfl, hb7⟩
  have HK7 := hide (bstep HK6.out hb7)
  clear hb7 HK6
  obtain ⟨w8, hw8⟩ : ∃ w8, w8 = w7.alloc (.cells #[.pointer none, .map none, .slice none 0 0] 59) := ⟨_, rfl⟩
  have HK8 := hide (show Below w.heap.size w w8 from bstep HK7.out (by rw [hw8]; (focus repeat' (first | (with_reducible exact Below.refl _ _) | (with_reducible assumption) | (with_reducible refine Below.alloc ?_ ?_ _) | (with_reducible refine Below.drew ?_) | (with_reducible refine bdrewN ?_ _) | (with_reducible refine Below.setCell ?_ ?_ _) | (first | (with_reducible exact Nat.le_refl _) | (with_reducible assumption) | omega | (simp; omega) | (simp; done))))))
  have HZ8 := hide (show NoL (some ⟨w7.heap.size, 0, none⟩) w8 from .inr ⟨_, rfl, by rw [hw8]; simp [go_sem]⟩)
  go_wp2_with fail
  rw [← hw8]
  clear hw8 HK7
  refine (nothing_c _ s x _ HZ8.out).mono ?_
  rintro e w9 ⟨rfl, hb9⟩
  have HK9 := hide (bstep HK8.out hb9)
  clear hb9 HK8 HZ8
  go_wp2_with fail
  refine (known_c _).mono ?_
  rintro e w10 ⟨rfl, hb10⟩
  have HK10 := hide (bstep HK9.out hb10)
  clear hb10 HK9
  go_wp2
  go_ret
  exact ⟨rfl, HK10.out⟩
end Go.Proofs.Ytkdocoibfclfeaa

