import Derived.Test.YtimabgakemgldaaT16
import Derived.Test.YtimabgakemgldaaT12
import Derived.Sort.LoopGhostIn
import Derived.BigQuiet
import Derived.Deep.QuietTactic
import Derived.Laws.EntriesVeiled
namespace Go.Proofs.Ytimabgakemgldaa
open Go.ChangeShapes Go.WideShapes Go.ChangeAt Go.RowKit Go.Deep Go.Shelf Ytimabgakemgldaa.it
set_option linter.unusedSimpArgs false
set_option linter.unusedVariables false

attribute [local go_sem] Oper.semAt_some
theorem loop_turns {F : Fence} {n : Nat} {P : Program} {Q : Exit → Act → World → Prop} {c : Code} (m : Nat) (I : Nat → Act → World → Prop)
    (round : ∀ t, t < m → ∀ a w, I t a w → ∀ K : Act → World → Prop, (∀ a' w', I (t + 1) a' w' → K a' w') → c.wpIn F n P (Exit.then K Q) a w)
    (last : ∀ a w, I m a w → ∀ K : Act → World → Prop, c.wpIn F n P (Exit.then K Q) a w) {a : Act} {w : World} (h0 : I 0 a w) : (Code.loop c).wpIn F n P Q a w := by
  have key : ∀ k t, t + k = m → ∀ a w, I t a w → Code.roundsIn F n P c Q (k + 1) a w := by
    intro k
    induction k with
    | zero =>
      intro t ht a w h
      obtain rfl : t = m := by omega
      exact last a w h _
    | succ k ih =>
      intro t ht a w h
      exact round t (by omega) a w h _ (fun a' w' h' => ih (t + 1) (by omega) a' w' h')
  exact wpIn_loop_rounds (m + 1) (key m 0 (by omega) a w h0)
def mk (D : Nat) : Deferred := { target := .collected D, args := #[] }
theorem turn_box (X : World) (b : Value) (e : TypeId) : (∀ k, k < X.heap.size → (X.alloc (.cells #[b] e)).heap[k]? = X.heap[k]?) ∧ (X.alloc (.cells #[b] e)).cell? ⟨X.heap.size, 0, none⟩ = some b ∧ (X.alloc (.cells #[b] e)).frozen? ⟨X.heap.size, 0, none⟩ = false ∧ (X.alloc (.cells #[b] e)).heap.size = X.heap.size + 1 :=
  ⟨fun k hk => ((Below.refl _ X).alloc (Nat.le_refl _) _).block k hk, by simp [go_sem], by simp [go_sem], by simp⟩

/-- what the turns lean on: the turn's box, the marks; all that stood ahead of the loop stands -/
structure TI (w8 : World) (bt : Nat) (t : Int) (Ds : List Nat) (W : World) : Prop where
  lo : w8.heap.size ≤ bt
  turn : W.cell? ⟨bt, 0, none⟩ = some (.int .i64 t)
  turnf : W.frozen? ⟨bt, 0, none⟩ = false
  below : Below w8.heap.size w8 W
  marks : ∀ D, D ∈ Ds → w8.heap.size ≤ D ∧ W.heap[D]? = some (.deferred (some []))
  nodup : Ds.Nodup
theorem TI.first (w8 : World) (t : Int) : TI w8 w8.heap.size t [] (w8.alloc (.cells #[.int .i64 t] 3)) := by
  obtain ⟨U1, U2, U3, U4⟩ := turn_box w8 (.int .i64 t) 3
  exact ⟨Nat.le_refl _, U2, U3, (Below.refl _ _).alloc (Nat.le_refl _) _, (fun D h => by cases h), List.nodup_nil⟩
theorem TI.btz {w8 W : World} {bt : Nat} {t : Int} {Ds : List Nat} (h : TI w8 bt t Ds W) : bt < W.heap.size := World.block_lt_of_cell? W _ h.turn
theorem TI.later {w8 W Y : World} {bt : Nat} {t : Int} {Ds : List Nat} (h : TI w8 bt t Ds W) (hb : Below W.heap.size W Y) : TI w8 bt t Ds Y :=
  ⟨h.lo, (hb.cell (p := ⟨bt, 0, none⟩) h.btz).trans h.turn, (hb.frozen (p := ⟨bt, 0, none⟩) h.btz).trans h.turnf, h.below.trans (hb.mono h.below.size),
    fun D hD => ⟨(h.marks D hD).1, (hb.block D (Array.getElem?_eq_some_iff.1 (h.marks D hD).2).1).trans (h.marks D hD).2⟩, h.nodup⟩
theorem TI.next {w8 W Y : World} {bt : Nat} {t : Int} {Ds Ns : List Nat} (t' : Int) (h : TI w8 bt t Ds W) (hb : Below W.heap.size W Y) (hN : ∀ D, D ∈ Ns → W.heap.size ≤ D ∧ Y.heap[D]? = some (.deferred (some []))) (hd : Ns.Nodup) :
    TI w8 Y.heap.size t' (Ns ++ Ds) (Y.alloc (.cells #[.int .i64 t'] 3)) := by
  obtain ⟨U1, U2, U3, U4⟩ := turn_box Y (.int .i64 t') 3
  have hz := h.below.size
  have q := h.later hb
  refine ⟨Nat.le_trans hz hb.size, U2, U3, q.below.alloc q.below.size _, fun D hD => ?_, List.nodup_append.2 ⟨hd, h.nodup, fun D h1 E h2 e => ?_⟩⟩
  · rcases List.mem_append.1 hD with h1 | h1
    · exact ⟨Nat.le_trans hz (hN D h1).1, (U1 D (Array.getElem?_eq_some_iff.1 (hN D h1).2).1).trans (hN D h1).2⟩
    · exact ⟨(q.marks D h1).1, (U1 D (Array.getElem?_eq_some_iff.1 (q.marks D h1).2).1).trans (q.marks D h1).2⟩
  · subst e
    have a := (hN D h1).1
    have b := (Array.getElem?_eq_some_iff.1 (h.marks D h2).2).1
    omega
/-- what a range over a function in a turn leans on: V is the world ahead of it, kb the counter's box -/
structure RI (V : World) (kb : Nat) (k : Int) (X : World) : Prop where
  g : V.grownBy X (some kb)
  at_ : X.cell? ⟨kb, 0, none⟩ = some (.int .i64 k)
  f : X.frozen? ⟨kb, 0, none⟩ = false
theorem RI.later {V X Y : World} {kb : Nat} {k : Int} (h : RI V kb k X) (hk : kb < V.heap.size) (hb : Below V.heap.size X Y) : RI V kb k Y :=
  ⟨⟨hb.os.trans h.g.os, hb.tape.trans h.g.tape, hb.output.trans h.g.output, Nat.le_trans h.g.size hb.size, fun i hi hn => (hb.block i hi).trans (h.g.block i hi hn)⟩,
    (World.cell?_of_block (a := ⟨kb, 0, none⟩) (hb.block kb hk)).trans h.at_, (World.frozen?_of_block (a := ⟨kb, 0, none⟩) (hb.block kb hk)).trans h.f⟩
theorem RI.stays {V : World} {kb : Nat} (hk : kb < V.heap.size) {β : Type} (f : β → Int) : Stays V.heap.size (fun (s : β) X => RI V kb (f s) X) := fun s X Y hs hb => hs.later hk hb
theorem RI.step {V X : World} {kb : Nat} {k : Int} (h : RI V kb k X) (k' : Int) : RI V kb k' (X.setCell ⟨kb, 0, none⟩ (.int .i64 k')) :=
  ⟨⟨h.g.os, h.g.tape, h.g.output, by simpa using h.g.size, fun i hi hn => (heap_setCell_other _ _ _ _ (fun e => hn (by rw [e]))).trans (h.g.block i hi hn)⟩,
    World.cell?_setCell_same' _ _ _ (by rw [h.at_]; rfl), (World.frozen?_setCell _ _ _ _).trans h.f⟩
theorem RI.keeps {V X X' : World} {kb : Nat} {k : Int} (h : RI V kb k X) (hoth : ∀ b, b ≠ kb → X'.heap[b]? = X.heap[b]?) (hsz : X'.heap.size = X.heap.size) : KeepsOthers X X' :=
  ⟨by omega, fun i o hi ho => (hoth i (fun e => by
    have hc := h.at_
    rw [e] at hi
    simp only [World.cell?, hi] at hc
    cases o <;> simp_all [Obj.isCells])).trans hi⟩
/-- a block but the counter's, as it stood ahead of the range -/
theorem RI.old {V X : World} {kb : Nat} {k : Int} (h : RI V kb k X) {b : Nat} (hb : b < V.heap.size) (hn : b ≠ kb) : X.heap[b]? = V.heap[b]? := h.g.block b hb (fun e => hn (Option.some.inj e))
theorem RI.below {V X : World} {kb : Nat} {k : Int} {B : Nat} {w : World} (h : RI V kb k X) (hw : Below B w V) (hB : B ≤ V.heap.size) (hk : B ≤ kb) : Below B w X := hw.grown h.g hB (fun q e => by cases e; exact hk)
end Go.Proofs.Ytimabgakemgldaa
