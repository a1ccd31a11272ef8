import Derived.Test.YtehpjipmlpaflaaUv
import Derived.Test.YtehpjipmlpaflaaUk
namespace Go.Proofs.Ytehpjipmlpaflaa.un
open Go.ChangeShapes Go.WideShapes Go.ChangeAt Go.RowKit Go.Deep Go.Shelf
set_option linter.unusedSimpArgs false
set_option linter.unusedVariables false

attribute [local go_sem] Oper.semAt_some
theorem loop_turns {F : Fence} {n : Nat} {P : Program} {Q : Exit → Act → World → Prop} {c : Code} (m : Nat) (I : Nat → Act → World → Prop)
    (round : ∀ t, t < m → ∀ a w, I t a w → ∀ K : Act → World → Prop, (∀ a' w', I (t + 1) a' w' → K a' w') → c.wpIn F n P (Exit.then K Q) a w)
    (last : ∀ a w, I m a w → ∀ K : Act → World → Prop, c.wpIn F n P (Exit.then K Q) a w) {a : Act} {w : World} (h0 : I 0 a w) : (Code.loop c).wpIn F n P Q a w := by
  have key : ∀ k t, t + k = m → ∀ a w, I t a w → Code.roundsIn F n P c Q (k + 1) a w := by
    intro k
    induction k with
    | zero =>
      intro t ht a w h
      obtain rfl : t = m := by omega
      exact last a w h _
    | succ k ih =>
      intro t ht a w h
      exact round t (by omega) a w h _ (fun a' w' h' => ih (t + 1) (by omega) a' w' h')
  exact wpIn_loop_rounds (m + 1) (key m 0 (by omega) a w h0)
def mk (D : Nat) : Deferred := { target := .collected D, args := #[] }

/-- what the turns lean on -/
structure TW (rb lb wb n0 : Nat) (ao : Option Addr) (vcap : Nat) (leave : Int) (T : List U) (K : Nat → Prop) (w5 : World) (bt : Nat) (t : Int) (Ds : List Nat) (W : World) : Prop where
  lv : W.cell? ⟨lb, 0, none⟩ = some (.int .i64 leave)
  res : W.cell? ⟨rb, 0, none⟩ = some (.bool false)
  resf : W.frozen? ⟨rb, 0, none⟩ = false
  want : W.cell? ⟨wb, 0, none⟩ = some (.slice ao T.length vcap)
  own : W.ownsRow n0 52 3 (.slice ao T.length vcap) T.length (flat3 T)
  turn : W.cell? ⟨bt, 0, none⟩ = some (.int .i64 t)
  turnf : W.frozen? ⟨bt, 0, none⟩ = false
  marks : ∀ D, D ∈ Ds → W.heap[D]? = some (.deferred (some []))
  fix : ∀ i, K i → W.heap[i]? = w5.heap[i]?
theorem TW.old {rb lb wb n0 : Nat} {ao : Option Addr} {vcap : Nat} {leave : Int} {T : List U} {K : Nat → Prop} {w5 : World} {bt : Nat} {t : Int} {Ds : List Nat} {B : Nat} {W W' : World} (h : TW rb lb wb n0 ao vcap leave T K w5 bt t Ds W)
    (h1 : rb < B) (h2 : lb < B) (h3 : wb < B) (h4 : bt < B) (h5 : ∀ g, (Value.slice ao T.length vcap).ownBlock = some g → g < B) (hD : ∀ D, D ∈ Ds → D < B) (hK : ∀ i, K i → i < B) (hb : ∀ b, b < B → W'.heap[b]? = W.heap[b]?) : TW rb lb wb n0 ao vcap leave T K w5 bt t Ds W' :=
  ⟨(World.cell?_of_block (a := ⟨lb, 0, none⟩) (hb _ h2)).trans h.lv, (World.cell?_of_block (a := ⟨rb, 0, none⟩) (hb _ h1)).trans h.res, (World.frozen?_of_block (a := ⟨rb, 0, none⟩) (hb _ h1)).trans h.resf, (World.cell?_of_block (a := ⟨wb, 0, none⟩) (hb _ h3)).trans h.want,
    own_keep h.own (fun k e => hb k (h5 k e)),
    (World.cell?_of_block (a := ⟨bt, 0, none⟩) (hb _ h4)).trans h.turn, (World.frozen?_of_block (a := ⟨bt, 0, none⟩) (hb _ h4)).trans h.turnf, fun D hm => (hb D (hD D hm)).trans (h.marks D hm), fun i hi => (hb i (hK i hi)).trans (h.fix i hi)⟩
theorem TW.next {rb lb wb n0 : Nat} {ao : Option Addr} {vcap : Nat} {leave : Int} {T : List U} {K : Nat → Prop} {w5 : World} {bt : Nat} {t : Int} {Ds : List Nat} {B : Nat} {W W' : World} (h : TW rb lb wb n0 ao vcap leave T K w5 bt t Ds W)
    (h1 : rb < B) (h2 : lb < B) (h3 : wb < B) (h4 : bt < B) (h5 : ∀ g, (Value.slice ao T.length vcap).ownBlock = some g → g < B) (hD : ∀ D, D ∈ Ds → D < B) (hK : ∀ i, K i → i < B) (hb : ∀ b, b < B → W'.heap[b]? = W.heap[b]?) {bt' : Nat} {t' : Int} (hc : W'.cell? ⟨bt', 0, none⟩ = some (.int .i64 t')) (hf : W'.frozen? ⟨bt', 0, none⟩ = false) {D : Nat} (hd : W.heap[D]? = some (.deferred (some []))) (hdB : D < B) : TW rb lb wb n0 ao vcap leave T K w5 bt' t' (D :: Ds) W' :=
  have q := h.old h1 h2 h3 h4 h5 hD hK hb
  ⟨q.lv, q.res, q.resf, q.want, q.own, hc, hf, fun E hE => by
    rcases List.mem_cons.1 hE with rfl | hm
    · exact (hb _ hdB).trans hd
    · exact q.marks E hm, q.fix⟩
theorem TW.toFix {rb lb wb n0 : Nat} {ao : Option Addr} {vcap : Nat} {leave : Int} {T : List U} {K : Nat → Prop} {w5 : World} {bt : Nat} {t : Int} {Ds : List Nat} {W : World} (h : TW rb lb wb n0 ao vcap leave T K w5 bt t Ds W) (hs : w5.heap.size ≤ W.heap.size) : Fix K w5 W :=
  ⟨hs, fun i hi _ => h.fix i hi⟩
theorem TW.cells {rb lb wb n0 : Nat} {ao : Option Addr} {vcap : Nat} {leave : Int} {T : List U} {K : Nat → Prop} {w5 : World} {bt : Nat} {t : Int} {Ds : List Nat} {W : World} (h : TW rb lb wb n0 ao vcap leave T K w5 bt t Ds W) {i : Nat} (hi : i < T.length) : ∃ gw, ao = some ⟨gw, 0, none⟩ ∧ W.cell? ⟨gw, i * 3, none⟩ = some (.int .i64 (get T i).1) ∧ W.cell? ⟨gw, i * 3 + 1, none⟩ = some (.int .i64 (get T i).2.1) ∧ W.cell? ⟨gw, i * 3 + 2, none⟩ = some (.int .i64 (get T i).2.2) := by
  obtain ⟨g, cp, hv, hg0, hgl⟩ := h.own.form (by omega)
  obtain ⟨rfl, rfl⟩ : ao = some ⟨g, 0, none⟩ ∧ vcap = cp := by (injection hv with e1 e2 e3; exact ⟨e1, e3⟩)
  have cell : ∀ cc, cc < 3 → W.cell? ⟨g, i * 3 + cc, none⟩ = (cellsU (get T i))[cc]? := fun cc hcc => by rw [h.own.cellAt (i * 3 + cc) (by omega)]; exact flat3_at T i cc hi hcc
  exact ⟨g, rfl, cell 0 (by decide), cell 1 (by decide), cell 2 (by decide)⟩
theorem turn_box (X : World) (b : Value) (e : TypeId) : (∀ k, k < X.heap.size → (X.alloc (.cells #[b] e)).heap[k]? = X.heap[k]?) ∧ (X.alloc (.cells #[b] e)).cell? ⟨X.heap.size, 0, none⟩ = some b ∧ (X.alloc (.cells #[b] e)).frozen? ⟨X.heap.size, 0, none⟩ = false ∧ (X.alloc (.cells #[b] e)).heap.size = X.heap.size + 1 :=
  ⟨fun k hk => ((Below.refl _ X).alloc (Nat.le_refl _) _).block k hk, by simp [go_sem], by simp [go_sem], by simp⟩

theorem eql48 (lb : Array Value) (w : World) : Sem.run Try.prog (binOp .eql 48 (.func (.func 31) #[] lb) .nilFunc) w = .ok (.bool false) w := by kernel_rfl
/-- the law's boxes ahead of its turns -/
structure PB (count floor leave : Int) (so : Option Addr) (n cap A Wb n0 : Nat) (ao : Option Addr) (vcap : Nat) (T : List U) (W : World) : Prop where
  ask : ∀ o, W.cell? ⟨A, o, none⟩ = (#[Value.int .i64 count, .int .i64 floor, .slice so n cap] : Array Value)[o]?
  lv : W.cell? ⟨A + 1, 0, none⟩ = some (.int .i64 leave)
  res : W.cell? ⟨A + 2, 0, none⟩ = some (.bool false)
  resf : W.frozen? ⟨A + 2, 0, none⟩ = false
  want : W.cell? ⟨Wb, 0, none⟩ = some (.slice ao T.length vcap)
  wantf : W.frozen? ⟨Wb, 0, none⟩ = false
  own : W.ownsRow n0 52 3 (.slice ao T.length vcap) T.length (flat3 T)
theorem PB.old {count floor leave : Int} {so : Option Addr} {n cap A Wb n0 : Nat} {ao : Option Addr} {vcap : Nat} {T : List U} {W W' : World} (h : PB count floor leave so n cap A Wb n0 ao vcap T W) (hA : W.heap[A]? = W'.heap[A]?) (h1 : W.heap[A + 1]? = W'.heap[A + 1]?) (h2 : W.heap[A + 2]? = W'.heap[A + 2]?) (h3 : W.heap[Wb]? = W'.heap[Wb]?) (h4 : ∀ g, (Value.slice ao T.length vcap).ownBlock = some g → W'.heap[g]? = W.heap[g]?) : PB count floor leave so n cap A Wb n0 ao vcap T W' :=
  ⟨fun o => (World.cell?_of_block (a := ⟨A, o, none⟩) hA.symm).trans (h.ask o), (World.cell?_of_block (a := ⟨A + 1, 0, none⟩) h1.symm).trans h.lv, (World.cell?_of_block (a := ⟨A + 2, 0, none⟩) h2.symm).trans h.res, (World.frozen?_of_block (a := ⟨A + 2, 0, none⟩) h2.symm).trans h.resf,
    (World.cell?_of_block (a := ⟨Wb, 0, none⟩) h3.symm).trans h.want, (World.frozen?_of_block (a := ⟨Wb, 0, none⟩) h3.symm).trans h.wantf, own_keep h.own h4⟩
theorem PB.below {count floor leave : Int} {so : Option Addr} {n cap A Wb n0 : Nat} {ao : Option Addr} {vcap : Nat} {T : List U} {W W' : World} (h : PB count floor leave so n cap A Wb n0 ao vcap T W) (hb : Below W.heap.size W W') (h1 : A + 2 < W.heap.size) (h2 : Wb < W.heap.size) : PB count floor leave so n cap A Wb n0 ao vcap T W' :=
  h.old (hb.block _ (by omega)).symm (hb.block _ (by omega)).symm (hb.block _ h1).symm (hb.block _ h2).symm (fun g e => hb.block g (h.own.lt g e).2)
end Go.Proofs.Ytehpjipmlpaflaa.un
