import Derived.Test.YtalnipjaekpbhaaRB
import Derived.RangeFuncWrites
namespace Go.Proofs.Ytalnipjaekpbhaa.rf
open Go.RowKit Go.Deep Go.Shelf
set_option linter.unusedVariables false
set_option linter.unusedSimpArgs false
/-- an iterator; Nx: what may be known at the time when it tells -/
def SeqW {α : Type} (n : Nat) (P : Program) (g : Nat) (lb : Array Value) (encs : α → Array Value) (K : Nat → Prop) (S Sp : List α → Prop) (Nx : List α → α → World → Prop) (w : World) : Prop :=
  ∀ (l : Nat) (J Jx : List α → World → Prop) (W : World), Below w.heap.size w W → Stays W.heap.size J → Stays W.heap.size Jx →
    (∀ pre x V, J pre V → Nx pre x V → YieldAt Fence.wide (n - 1) P l (encs x) V fun e V' => (e = .returned (.bool true) ∧ J (pre ++ [x]) V' ∧ Fix K V V') ∨ (e = .returned (.bool false) ∧ Jx (pre ++ [x]) V')) →
    J [] W → CallsIn Fence.wide n P g (#[.func (.yield l) #[] #[]] ++ lb) W fun e V' => (∃ v, e = .returned v) ∧ ((∃ xs, S xs ∧ J xs V') ∨ (∃ pre, Sp pre ∧ Jx pre V'))
section
variable {P : Program} {n : Nat}
/-- THE LAW: the loop over such an iterator -/
theorem range_G {α : Type} {g : Operand} {ps : Array Tmp} {assign body : Code} {Q : Exit → Act → World → Prop} {a : Act} {w : World} (h1 : 1 ≤ n) {gf : Nat} {lb : Array Value} (hg : a.eval g = .func (.func gf) #[] lb)
    (eg : ∀ args w, (callFunc gf args).run P w = .ok (.enter gf args) w) {encs : α → Array Value} {K : Nat → Prop} {S Sp : List α → Prop} {Nx : List α → α → World → Prop} {w0 : World} (hseq : SeqW (n - 1) P gf lb encs K S Sp Nx w0) (hK : ∀ i, K i → i < w.heap.size)
    (hb0 : Below w0.heap.size w0 w) (hps : ∀ x, (encs x).size = ps.size) (I : List α → World → Prop) (Ix : Code → List α → World → Prop) (hI : Stays w.heap.size I) (hIx : ∀ c, Stays w.heap.size (Ix c)) (h0 : I [] w) (Ax : List α → α → Act → World → Prop) (hAx : ∀ pre x a' W o, Ax pre x a' W → Ax pre x a' (W.putObj (w.heap.size + 1) o))
    (hassign : ∀ (l : Nat) (pre : List α) (x : α) (W : World) (K' : Act → World → Prop), I pre W → Nx pre x W → w.heap.size + 1 < W.heap.size → (∀ a' W', KeepsOthers W W' → Fix K W W' → I pre W' → Ax pre x a' W' → K' a' W') →
      assign.wpIn (Fence.wide.inRound l) (n - 1 - 1) P (Exit.then K' (fun _ _ _ => False)) { tmps := (ps.zip (encs x)).foldl (fun t (p, v) => t.setIfInBounds p v) a.tmps, defers := [] } W)
    (hbody : ∀ (l : Nat) (pre : List α) (x : α) (a' : Act) (W : World), I pre W → w.heap.size + 1 < W.heap.size → Ax pre x a' W → body.wpIn (Fence.wide.inRound l) (n - 1 - 1) P (ownPostG w.heap.size (Fix K) I Ix (pre ++ [x]) W) a' W)
    (hdone : ∀ (D : Nat) (xs : List α) (W : World), w.heap.size ≤ D → S xs → I xs W → W.heap[D]? = some (.deferred (some [])) → Q .normal { a with defers := { target := .collected D, args := #[] } :: a.defers } W)
    (hstop : ∀ (D : Nat) (c : Code) (pre : List α) (W : World), w.heap.size ≤ D → Sp pre → Ix c pre W → W.heap[D]? = some (.deferred (some [])) → c.wpIn Fence.wide n P Q { a with defers := { target := .collected D, args := #[] } :: a.defers } W) :
    (Code.rangeFunc g ps assign body).wpIn Fence.wide n P Q a w := by
  refine wpIn_rangeFunc (fun fn hfn => ?_)
  -- the loop's record, in each of its states
  obtain ⟨lp, hlp⟩ : ∃ lp : LoopState → Option Code → Loop, ∀ st pe, lp st pe = { state := st, pending := pe, fn := fn, tmps := a.tmps, params := ps, assign := assign, body := body, defers := w.heap.size } := ⟨_, fun _ _ => rfl⟩
  obtain ⟨V, hV⟩ : ∃ V, V = (w.alloc (.deferred (some []))).alloc (.loop (lp .ready none)) := ⟨_, rfl⟩
  have hVz : V.heap.size = w.heap.size + 2 := by rw [hV]; simp
  have rec0 : V.heap[w.heap.size + 1]? = some (.loop (lp .ready none)) := by
    rw [hV]; have := World.alloc_heap_new (w.alloc (.deferred (some []))) (.loop (lp .ready none)); rwa [World.size_alloc] at this
  have def0 : V.heap[w.heap.size]? = some (.deferred (some [])) := by
    rw [hV]; exact (Below.heap_alloc _ _ _ (by simp)).trans (World.alloc_heap_new w _)
  have low0 : Below w0.heap.size w0 V := hb0.trans (by rw [hV]; exact (((Below.refl _ w).alloc (Nat.le_refl _) _).alloc (by simp) _).mono hb0.size)
  have enter0 : (Instr.enterLoop fn a.tmps ps assign body Fence.wide.round).run P w = .ok (w.heap.size + 1, [{ target := .collected w.heap.size, args := #[] }]) V := by
    rw [hV, hlp]; exact run_enterLoop_outer _ _ _ _ _
  -- the two blocks of the loop's own are no one's else
  have stay : ∀ (p : Nat) (o : Obj), p < V.heap.size → Stays V.heap.size (fun (_ : List α) X => X.heap[p]? = some o) := fun p o hp s A B hs hb => (hb.block p hp).trans hs
  have hIV : Stays V.heap.size I := fun s A B hs hb => hI s A B hs (hb.mono (by omega))
  have hIxV : ∀ c, Stays V.heap.size (Ix c) := fun c s A B hs hb => hIx c s A B hs (hb.mono (by omega))
  have kpt : ∀ (X : World) (o : Obj), Fix K X (X.putObj (w.heap.size + 1) o) := fun X o =>
    ⟨by simp, fun i hi _ => World.putObj_heap_other (by have := hK i hi; omega)⟩
  refine ⟨w.heap.size + 1, [{ target := .collected w.heap.size, args := #[] }], V, { target := .fn (.func gf) lb, args := #[.func (.yield (w.heap.size + 1)) #[] #[]] }, V, gf, #[.func (.yield (w.heap.size + 1)) #[] #[]] ++ lb, V,
    enter0, by (simp only [resolve, hg]; simp [go_sem]), fun _ _ => trivial, by simp [invoke, go_sem, eg], fun _ => h1, ?_⟩
  refine (hseq (w.heap.size + 1) (fun pre X => I pre X ∧ X.heap[w.heap.size + 1]? = some (.loop (lp .ready none)) ∧ X.heap[w.heap.size]? = some (.deferred (some [])))
    (fun pre X => ∃ c, Ix c pre X ∧ X.heap[w.heap.size + 1]? = some (.loop (lp .done (some c))) ∧ X.heap[w.heap.size]? = some (.deferred (some []))) V low0
    (hIV.both ((stay _ _ (by omega)).both (stay _ _ (by omega))))
    (fun s A B ⟨c, hc⟩ hb => ⟨c, ((hIxV c).both ((stay _ _ (by omega)).both (stay _ _ (by omega)))) s A B hc hb⟩) ?_ ⟨hI.lay _ (hI.lay _ h0 (Nat.le_refl _)) (by simp) |> fun q => by rw [hV]; exact q, rec0, def0⟩).mono ?_
  · -- a round
    rintro pre x X0 ⟨hi0, hl0, hk0⟩ hlen
    have hlt0 : w.heap.size + 1 < X0.heap.size := (Array.getElem?_eq_some_iff.1 hl0).1
    have hy := run_yield (P := P) (args := encs x) hl0 (by rw [hlp]; exact hps x)
    rw [hlp] at hy
    refine ⟨fn, _, assign, body, hy, roundIn_of_wpIn hfn (hassign _ pre x X0 _ hi0 hlen hlt0 (fun a' X hko hfx hi hax => ?_))⟩
    have hl := hko.same _ _ hl0 rfl
    have hk := hko.same _ _ hk0 rfl
    have hlt : w.heap.size + 1 < X.heap.size := (Array.getElem?_eq_some_iff.1 hl).1
    refine ⟨_, run_beginRound hl (by rw [hlp]), ?_⟩
    have kp0 : Fix K X0 X := hfx
    obtain ⟨Y, hY⟩ : ∃ Y, Y = X.putObj (w.heap.size + 1) (.loop { lp .ready none with state := .busy }) := ⟨_, rfl⟩
    have busyY : Y.heap[w.heap.size + 1]? = some (.loop { lp .ready none with state := .busy }) := by rw [hY]; exact World.putObj_heap_same hlt
    have defY : Y.heap[w.heap.size]? = some (.deferred (some [])) := by rw [hY]; exact (World.putObj_heap_other (by omega)).trans hk
    have kpY : Fix K X Y := by rw [hY]; exact kpt _ _
    have haY : Ax pre x a' Y := by rw [hY]; exact hAx _ _ _ _ _ hax
    have hiY : I pre Y := by rw [hY]; exact hI.put _ hi (by omega)
    rw [← hY]
    -- the round's end
    have fin : ∀ (j : Option Code) (Z : World), KeepsFrom w.heap.size Y Z → ∃ Z', (Instr.endRound (w.heap.size + 1) j).run P Z = .ok (.bool j.isNone) Z' ∧ Z' = Z.putObj (w.heap.size + 1) (.loop (lp (if j.isNone then .ready else .done) j)) ∧
        Z'.heap[w.heap.size + 1]? = some (.loop (lp (if j.isNone then .ready else .done) j)) ∧ Z'.heap[w.heap.size]? = some (.deferred (some [])) := fun j Z hkZ => by
      have hb := hkZ.same _ _ (by omega) busyY rfl
      have hrun := run_endRound (P := P) j hb
      rw [hlp] at hrun
      rw [hlp]
      exact ⟨_, hrun, rfl, World.putObj_heap_same (Array.getElem?_eq_some_iff.1 hb).1, (World.putObj_heap_other (by omega)).trans (hkZ.same _ _ (Nat.le_refl _) defY rfl)⟩
    refine wpIn_mono (hbody _ pre x a' _ hiY (Array.getElem?_eq_some_iff.1 busyY).1 haY) ?_
    have out : ∀ (c : Code) (Z : World), KeepsFrom w.heap.size Y Z → Ix c (pre ++ [x]) Z → ∃ v Z', (Instr.endRound (w.heap.size + 1) (some c)).run P Z = .ok v Z' ∧
        ((Ending.returned v = .returned (.bool true) ∧ (I (pre ++ [x]) Z' ∧ Z'.heap[w.heap.size + 1]? = some (.loop (lp .ready none)) ∧ Z'.heap[w.heap.size]? = some (.deferred (some []))) ∧ Fix K X0 Z') ∨
          (Ending.returned v = .returned (.bool false) ∧ ∃ c, Ix c (pre ++ [x]) Z' ∧ Z'.heap[w.heap.size + 1]? = some (.loop (lp .done (some c))) ∧ Z'.heap[w.heap.size]? = some (.deferred (some [])))) := fun c Z hkZ hiZ => by
      obtain ⟨Z', hr, rfl, hl4, hk4⟩ := fin (some c) Z hkZ
      exact ⟨_, _, hr, .inr ⟨rfl, c, (hIx c).put _ hiZ (by omega), hl4, hk4⟩⟩
    rintro e a3 Z hp
    cases e with
    | normal =>
      obtain ⟨hkZ, hkp, hiZ⟩ := hp
      obtain ⟨Z', hr, rfl, hl4, hk4⟩ := fin none Z hkZ
      exact ⟨_, _, hr, .inl ⟨rfl, ⟨hI.put _ hiZ (by omega), hl4, hk4⟩, ((kp0.trans kpY).trans hkp).trans (kpt _ _)⟩⟩
    | ret => exact out .ret Z hp.1 hp.2
    | exit id => exact out (.exit id) Z hp.1 hp.2
    | goto t => exact out (.goto t) Z hp.1 hp.2
    | panic ch => exact hp.elim
    | outgrown => exact hp.elim
  · -- behind the iterator
    rintro e X ⟨⟨v, rfl⟩, (⟨xs, hS, hi, hl, hk⟩ | ⟨pre, hSp, c, hi, hl, hk⟩)⟩
    · have hrun := run_endLoop (P := P) hl (by rw [hlp]; simp)
      rw [hlp] at hrun
      exact ⟨none, _, hrun, hdone _ xs _ (Nat.le_refl _) hS (hI.put _ hi (by omega)) ((World.putObj_heap_other (by omega)).trans hk)⟩
    · have hrun := run_endLoop (P := P) hl (by rw [hlp]; simp)
      rw [hlp] at hrun
      exact ⟨some c, _, hrun, hstop _ c pre _ (Nat.le_refl _) hSp ((hIx c).put _ hi (by omega)) ((World.putObj_heap_other (by omega)).trans hk)⟩
end
end Go.Proofs.Ytalnipjaekpbhaa.rf
