import Derived.Test.YtbbdneekfejjkaaY6
import Derived.Test.YtbbdneekfejjkaaY7
import Derived.Test.YtbbdneekfejjkaaRG
import Derived.Deep.AppendLies
namespace Go.Proofs.Ytbbdneekfejjkaa.runs
open Go.ChangeShapes Go.WideShapes Go.ChangeAt Go.RowKit Go.Deep Go.Shelf
set_option linter.unusedSimpArgs false
set_option linter.unusedVariables false

attribute [local go_sem] Oper.semAt_some

def mark : List Value := [.int .i64 4242, .int .i64 0, .int .i64 0, .int .i64 0]
/-- what stays from call to call -/
structure KP (z : Nat) (k op cl st sp ex la fl fa co ru leave : Int) (so : Option Addr) (cap L : Nat) (zz : Nat → Nat → Int) (g cap2 : Nat) (W : World) : Prop where
  lot : ∀ o, W.cell? ⟨z, o, none⟩ = (#[Value.int .i64 k, Value.int .i64 op, Value.int .i64 cl, Value.int .i64 st, Value.int .i64 sp, Value.int .i64 ex, Value.int .i64 la, Value.int .i64 fl, Value.int .i64 fa, Value.int .i64 co, Value.int .i64 ru] : Array Value)[o]?
  lv : W.cell? ⟨z + 1, 0, none⟩ = some (.int .i64 leave)
  res : W.cell? ⟨z + 2, 0, none⟩ = some (.bool false)
  resf : W.frozen? ⟨z + 2, 0, none⟩ = false
  big : z + 3 ≤ W.heap.size
  row : RowB W so cap L zz
  own : W.ownsRow (z + 3) 35 4 (.slice (some ⟨g, 0, none⟩) (L + 1) cap2) (L + 1) (flat4 zz L ++ mark)
theorem KP.below {z : Nat} {k op cl st sp ex la fl fa co ru leave : Int} {so : Option Addr} {cap L : Nat} {zz : Nat → Nat → Int} {g cap2 : Nat} {W W' : World} (h : KP z k op cl st sp ex la fl fa co ru leave so cap L zz g cap2 W) (hb : Below W.heap.size W W') : KP z k op cl st sp ex la fl fa co ru leave so cap L zz g cap2 W' := by
  have h1 := h.big
  exact ⟨fun o => (hb.cell (p := ⟨z, o, none⟩) (by simp; omega)).trans (h.lot o), (hb.cell (p := ⟨z + 1, 0, none⟩) (by simp; omega)).trans h.lv, (hb.cell (p := ⟨z + 2, 0, none⟩) (by simp; omega)).trans h.res, (hb.frozen (p := ⟨z + 2, 0, none⟩) (by simp; omega)).trans h.resf,
    Nat.le_trans h1 hb.size, h.row.below hb, own_later h.own hb⟩
theorem KP.m {z : Nat} {k op cl st sp ex la fl fa co ru leave : Int} {so : Option Addr} {cap L : Nat} {zz : Nat → Nat → Int} {g cap2 : Nat} {W : World} (h : KP z k op cl st sp ex la fl fa co ru leave so cap L zz g cap2 W) (hL : L ≤ 200) : RowB W (some ⟨g, 0, none⟩) cap2 L zz :=
  ⟨(fun e => by cases e), (fun ad e j u hu => by
    cases e
    refine h.own.cells rfl j u ?_
    rw [List.getElem?_append_left]
    · exact hu
    · rcases Nat.lt_or_ge j (flat4 zz L).length with q | q
      · exact q
      · rw [List.getElem?_eq_none q] at hu; cases hu), by omega⟩

theorem neq35 (a0 a1 a2 a3 : Int) (w : World) : (binOp .neq 35 (.agg #[.int .i64 a0, .int .i64 a1, .int .i64 a2, .int .i64 a3]) (.agg #[.int .i64 a0, .int .i64 a1, .int .i64 a2, .int .i64 a3])).run Try.prog w = .ok (.bool false) w := by
  go_simp
  repeat' split
  all_goals simp_all
theorem over4 (w : World) (g j i c : Nat) (a b d e : Value) (hi : j < i) : ((((w.setCell ⟨g, j * 4, none⟩ a).setCell ⟨g, j * 4 + 1, none⟩ b).setCell ⟨g, j * 4 + 2, none⟩ d).setCell ⟨g, j * 4 + 3, none⟩ e).cell? ⟨g, i * 4 + c, none⟩ = w.cell? ⟨g, i * 4 + c, none⟩ := by
  have h0 : j * 4 ≠ i * 4 + c := by omega
  have h1 : j * 4 + 1 ≠ i * 4 + c := by omega
  have h2 : j * 4 + 2 ≠ i * 4 + c := by omega
  have h3 : j * 4 + 3 ≠ i * 4 + c := by omega
  have h0' : i * 4 + c ≠ j * 4 := by omega
  have h1' : i * 4 + c ≠ j * 4 + 1 := by omega
  have h2' : i * 4 + c ≠ j * 4 + 2 := by omega
  have h3' : i * 4 + c ≠ j * 4 + 3 := by omega
  simp [go_sem, h0, h1, h2, h3, h0', h1', h2', h3']
theorem over4_other (w : World) (g o0 o1 o2 o3 : Nat) (a b d e : Value) (k : Nat) (hk : k ≠ g) : ((((w.setCell ⟨g, o0, none⟩ a).setCell ⟨g, o1, none⟩ b).setCell ⟨g, o2, none⟩ d).setCell ⟨g, o3, none⟩ e).heap[k]? = w.heap[k]? := by
  rw [heap_setCell_other _ _ _ _ (by simpa using hk), heap_setCell_other _ _ _ _ (by simpa using hk), heap_setCell_other _ _ _ _ (by simpa using hk), heap_setCell_other _ _ _ _ (by simpa using hk)]
theorem own_cap {w : World} {base g : Nat} {e : TypeId} {size n cap : Nat} {xs : List Value} (h : w.ownsRow base e size (.slice (some ⟨g, 0, none⟩) n cap) n xs) (hn : 0 < n) : n ≤ cap := by
  rcases h.2 with ⟨_, h0⟩ | ⟨g', cap', cur, hv, _, _, hle, _⟩
  · omega
  · (injection hv with e1 e2 e3; omega)
theorem new4 (w : World) (a b c d : Value) (e : TypeId) : ∀ j u, ([a, b, c, d] : List Value)[j]? = some u → (w.alloc (.cells #[a, b, c, d] e)).cell? ((⟨w.heap.size, 0, none⟩ : Addr).add j) = some u := by
  intro j u hu
  have ha : (⟨w.heap.size, 0, none⟩ : Addr).add j = ⟨w.heap.size, j, none⟩ := by
    unfold Addr.add
    split
    · (rename_i h; subst h; rfl)
    · simp
  rw [ha]
  rcases j with _ | _ | _ | _ | j <;> simp at hu <;> subst hu <;> simp [go_sem]
theorem one4 : ∀ u ∈ ([.int .i64 4242, .int .i64 0, .int .i64 0, .int .i64 0] : List Value), u.oneCell' = true := by
  intro u hu
  simp at hu
  rcases hu with rfl | rfl | rfl | rfl <;> rfl
theorem wpListIn_append_row {F : Fence} {n : Nat} (w : World) {ops : Array Oper} {rest : List Oper} {o : Oper} {a : Act} {Q : Exit → Act → World → Prop}
    (hg : o.guard = none) (x : Operand) (hop : o.op = Op.call { callee := Callee.builtin Builtin.append, args := #[.const (.slice none 0 0), x], argTypes := #[50, 50] }) (base : Nat) (so : Option Addr) (cap L : Nat) (zz : Nat → Nat → Int) (hL : L ≤ 1048576)
    (hx : a.eval x = .slice so L cap) (hb : RowB w so cap L zz) (b3 : base ≤ w.heap.size)
    (hK : ∀ v' w', w'.ownsRow base 35 4 v' L (flat4 zz L) → w.grownBy w' none → wpListIn F n Try.prog ops Q rest (a.put o.dst v') w') :
    wpListIn F n Try.prog ops Q (o :: rest) a w := by
  obtain ⟨i0, hi0, hz0, hz1, hz2⟩ := info_parts info35
  cases so with
  | some ad =>
    refine wpListIn_append_own w hg _ x 50 hop base 35 i0 _ 4 32 Try.underlying50 hi0 hz0 hz1 hz2 rfl (by decide) (.slice none 0 0) 0 [] rfl (World.ownsRow_nil _ _ _ _) ad L cap (flat4 zz L) hx (flat4_length zz L) (hb.cells ad rfl) (flat4_one zz L) (by unfold maxLen; omega) (by omega) b3 ?_
    intro v' w' h1 h2 _
    rw [Nat.zero_add, List.nil_append] at h1
    exact hK v' w' h1 h2
  | none =>
    obtain ⟨rfl, rfl⟩ := hb.nil rfl
    refine wpListIn_plain hg fun K hK' => ?_
    unfold Oper.wpIn
    refine ⟨?_, ?_⟩
    · simp [Oper.about, hop, resolve, Target.leads, Sem.run_pure]
    · rw [Oper.semAt_plain F _ _ (by rw [hop]; intro c hc'; cases hc')]
      have hrun : ∀ ty : TypeId, Sem.run Try.prog (Builtin.append_ #[50, 50] ty #[.slice none 0 0, .slice none 0 0]) w = .ok (.slice none 0 0) w := fun ty => by kernel_rfl
      have hs : a.eval (.const (.slice none 0 0)) = .slice none 0 0 := rfl
      simp [execOp, hop, resolve, invoke, builtin, hs, hx, hrun, Result.andThen]
      exact hK' _ _ (hK _ w (World.ownsRow_nil _ _ _ _) ⟨rfl, rfl, rfl, Nat.le_refl _, fun _ _ _ => rfl⟩)

theorem loop_turns {F : Fence} {n : Nat} {P : Program} {Q : Exit → Act → World → Prop} {c : Code} (m : Nat) (I : Nat → Act → World → Prop)
    (round : ∀ t, t < m → ∀ a w, I t a w → ∀ K : Act → World → Prop, (∀ a' w', I (t + 1) a' w' → K a' w') → c.wpIn F n P (Exit.then K Q) a w)
    (last : ∀ a w, I m a w → ∀ K : Act → World → Prop, c.wpIn F n P (Exit.then K Q) a w) {a : Act} {w : World} (h0 : I 0 a w) : (Code.loop c).wpIn F n P Q a w := by
  have key : ∀ k t, t + k = m → ∀ a w, I t a w → Code.roundsIn F n P c Q (k + 1) a w := by
    intro k
    induction k with
    | zero =>
      intro t ht a w h
      obtain rfl : t = m := by omega
      exact last a w h _
    | succ k ih =>
      intro t ht a w h
      exact round t (by omega) a w h _ (fun a' w' h' => ih (t + 1) (by omega) a' w' h')
  exact wpIn_loop_rounds (m + 1) (key m 0 (by omega) a w h0)
def mk (D : Nat) : Deferred := { target := .collected D, args := #[] }
/-- what the turns lean on -/
structure TW (rb lb wb : Nat) (ao : Option Addr) (vcap : Nat) (leave : Int) (T : List (R4 × Int)) (K : Nat → Prop) (w5 : World) (bt : Nat) (t : Int) (Ds : List Nat) (W : World) : Prop where
  lv : W.cell? ⟨lb, 0, none⟩ = some (.int .i64 leave)
  res : W.cell? ⟨rb, 0, none⟩ = some (.bool false)
  resf : W.frozen? ⟨rb, 0, none⟩ = false
  want : W.cell? ⟨wb, 0, none⟩ = some (.slice ao T.length vcap)
  cells : ∀ i x, T[i]? = some x → ∃ gw, ao = some ⟨gw, 0, none⟩ ∧ gw < wb ∧ W.cell? ⟨gw, i * 5, none⟩ = some (.int .i64 x.1.1) ∧ W.cell? ⟨gw, i * 5 + 1, none⟩ = some (.int .i64 x.1.2.1) ∧ W.cell? ⟨gw, i * 5 + 2, none⟩ = some (.int .i64 x.1.2.2.1) ∧ W.cell? ⟨gw, i * 5 + 3, none⟩ = some (.int .i64 x.1.2.2.2) ∧ W.cell? ⟨gw, i * 5 + 4, none⟩ = some (.int .i64 x.2)
  turn : W.cell? ⟨bt, 0, none⟩ = some (.int .i64 t)
  turnf : W.frozen? ⟨bt, 0, none⟩ = false
  marks : ∀ D, D ∈ Ds → W.heap[D]? = some (.deferred (some []))
  fix : ∀ i, K i → W.heap[i]? = w5.heap[i]?
theorem TW.old {rb lb wb : Nat} {ao : Option Addr} {vcap : Nat} {leave : Int} {T : List (R4 × Int)} {K : Nat → Prop} {w5 : World} {bt : Nat} {t : Int} {Ds : List Nat} {B : Nat} {W W' : World} (h : TW rb lb wb ao vcap leave T K w5 bt t Ds W)
    (h1 : rb < B) (h2 : lb < B) (h3 : wb < B) (h4 : bt < B) (hD : ∀ D, D ∈ Ds → D < B) (hK : ∀ i, K i → i < B) (hb : ∀ b, b < B → W'.heap[b]? = W.heap[b]?) : TW rb lb wb ao vcap leave T K w5 bt t Ds W' :=
  ⟨(World.cell?_of_block (a := ⟨lb, 0, none⟩) (hb _ h2)).trans h.lv, (World.cell?_of_block (a := ⟨rb, 0, none⟩) (hb _ h1)).trans h.res, (World.frozen?_of_block (a := ⟨rb, 0, none⟩) (hb _ h1)).trans h.resf, (World.cell?_of_block (a := ⟨wb, 0, none⟩) (hb _ h3)).trans h.want,
    fun i x hx => by
      obtain ⟨gw, e, hlt, c0, c1, c2, c3, c4⟩ := h.cells i x hx
      have hg := hb gw (by omega)
      exact ⟨gw, e, hlt, (World.cell?_of_block (a := ⟨gw, i * 5, none⟩) hg).trans c0, (World.cell?_of_block (a := ⟨gw, i * 5 + 1, none⟩) hg).trans c1, (World.cell?_of_block (a := ⟨gw, i * 5 + 2, none⟩) hg).trans c2, (World.cell?_of_block (a := ⟨gw, i * 5 + 3, none⟩) hg).trans c3, (World.cell?_of_block (a := ⟨gw, i * 5 + 4, none⟩) hg).trans c4⟩,
    (World.cell?_of_block (a := ⟨bt, 0, none⟩) (hb _ h4)).trans h.turn, (World.frozen?_of_block (a := ⟨bt, 0, none⟩) (hb _ h4)).trans h.turnf, fun D hm => (hb D (hD D hm)).trans (h.marks D hm), fun i hi => (hb i (hK i hi)).trans (h.fix i hi)⟩
theorem TW.next {rb lb wb : Nat} {ao : Option Addr} {vcap : Nat} {leave : Int} {T : List (R4 × Int)} {K : Nat → Prop} {w5 : World} {bt : Nat} {t : Int} {Ds : List Nat} {B : Nat} {W W' : World} (h : TW rb lb wb ao vcap leave T K w5 bt t Ds W)
    (h1 : rb < B) (h2 : lb < B) (h3 : wb < B) (h4 : bt < B) (hD : ∀ D, D ∈ Ds → D < B) (hK : ∀ i, K i → i < B) (hb : ∀ b, b < B → W'.heap[b]? = W.heap[b]?) {bt' : Nat} {t' : Int} (hc : W'.cell? ⟨bt', 0, none⟩ = some (.int .i64 t')) (hf : W'.frozen? ⟨bt', 0, none⟩ = false) {D : Nat} (hd : W.heap[D]? = some (.deferred (some []))) (hdB : D < B) : TW rb lb wb ao vcap leave T K w5 bt' t' (D :: Ds) W' :=
  have q := h.old h1 h2 h3 h4 hD hK hb
  ⟨q.lv, q.res, q.resf, q.want, q.cells, hc, hf, fun E hE => by
    rcases List.mem_cons.1 hE with rfl | hm
    · exact (hb _ hdB).trans hd
    · exact q.marks E hm, q.fix⟩
theorem turn_box (X : World) (b : Value) (e : TypeId) : (∀ k, k < X.heap.size → (X.alloc (.cells #[b] e)).heap[k]? = X.heap[k]?) ∧ (X.alloc (.cells #[b] e)).cell? ⟨X.heap.size, 0, none⟩ = some b ∧ (X.alloc (.cells #[b] e)).frozen? ⟨X.heap.size, 0, none⟩ = false ∧ (X.alloc (.cells #[b] e)).heap.size = X.heap.size + 1 :=
  ⟨fun k hk => ((Below.refl _ X).alloc (Nat.le_refl _) _).block k hk, by simp [go_sem], by simp [go_sem], by simp⟩
theorem TW.toFix {rb lb wb : Nat} {ao : Option Addr} {vcap : Nat} {leave : Int} {T : List (R4 × Int)} {K : Nat → Prop} {w5 : World} {bt : Nat} {t : Int} {Ds : List Nat} {W : World} (h : TW rb lb wb ao vcap leave T K w5 bt t Ds W) (hs : w5.heap.size ≤ W.heap.size) : Fix K w5 W :=
  ⟨hs, fun i hi _ => h.fix i hi⟩
theorem flatMap_at (T : List (R4 × Int)) : ∀ i x, T[i]? = some x → ∀ c, c < 5 → (T.flatMap stepc)[i * 5 + c]? = (stepc x)[c]? := by
  induction T with
  | nil => intro i x h; simp at h
  | cons y ys ih =>
    intro i x h c hc
    rw [List.flatMap_cons]
    rcases i with _ | i
    · simp at h
      subst h
      rw [Nat.zero_mul, Nat.zero_add, List.getElem?_append_left (by simp [stepc]; omega)]
    · rw [List.getElem?_append_right (by simp [stepc]; omega)]
      have h' : ys[i]? = some x := by simpa using h
      rw [← ih i x h' c hc]
      congr 1
      simp [stepc]
      omega
theorem flatMap_len (T : List (R4 × Int)) : (T.flatMap stepc).length = T.length * 5 := by
  induction T with
  | nil => rfl
  | cons y ys ih => rw [List.flatMap_cons, List.length_append, ih]; simp [stepc]; omega
theorem want_cells {W : World} {n0 : Nat} {ao : Option Addr} {vcap : Nat} {T : List (R4 × Int)} (own : W.ownsRow n0 61 5 (.slice ao T.length vcap) T.length (T.flatMap stepc)) : ∀ i x, T[i]? = some x → ∃ gw, ao = some ⟨gw, 0, none⟩ ∧ gw < W.heap.size ∧ W.cell? ⟨gw, i * 5, none⟩ = some (.int .i64 x.1.1) ∧ W.cell? ⟨gw, i * 5 + 1, none⟩ = some (.int .i64 x.1.2.1) ∧ W.cell? ⟨gw, i * 5 + 2, none⟩ = some (.int .i64 x.1.2.2.1) ∧ W.cell? ⟨gw, i * 5 + 3, none⟩ = some (.int .i64 x.1.2.2.2) ∧ W.cell? ⟨gw, i * 5 + 4, none⟩ = some (.int .i64 x.2) := by
  intro i x hx
  have hi : i < T.length := (List.getElem?_eq_some_iff.1 hx).1
  rcases own.2 with ⟨_, h0⟩ | ⟨g, c, cur, hv, _⟩
  · omega
  · obtain ⟨rfl, rfl⟩ : ao = some ⟨g, 0, none⟩ ∧ vcap = c := by (injection hv with e1 e2 e3; exact ⟨e1, e3⟩)
    have cell : ∀ c, c < 5 → W.cell? ⟨g, i * 5 + c, none⟩ = (stepc x)[c]? := fun c hc => by
      rw [own.cellAt (i * 5 + c) (by omega)]
      exact flatMap_at T i x hx c hc
    exact ⟨g, rfl, (own.lt g rfl).2, cell 0 (by decide), cell 1 (by decide), cell 2 (by decide), cell 3 (by decide), cell 4 (by decide)⟩

set_option maxRecDepth 1000000 in
set_option maxHeartbeats 4000000 in
theorem LRun_long (k op cl st sp ex la fl fa co ru : Int) (so : Option Addr) (cap L : Nat) (zz : Nat → Nat → Int) (leave : Int) (w : World) (hb : RowB w so cap L zz) (hL : 200 < L) : Calls Try.prog 6 #[.agg #[.int .i64 k, .int .i64 op, .int .i64 cl, .int .i64 st, .int .i64 sp, .int .i64 ex, .int .i64 la, .int .i64 fl, .int .i64 fa, .int .i64 co, .int .i64 ru], .slice so L cap, .int .i64 leave] w fun e w' => e = .returned (.bool true) ∧ Below w.heap.size w w' := by
  refine (callsIn_wide (n := 3)).1 ?_
  refine callsIn_of_wp_marks Try.func6 rfl trivial ?_ rfl
  simp only [Try.ntmps6, List.size_toArray, List.length_cons, List.length_nil, Nat.reduceAdd, Nat.reduceSub, Array.replicate_succ, Array.replicate_zero, List.push_toArray, List.append_toArray, List.nil_append, List.cons_append]
  have hlen := hb.len
  have HB := hide hb
  clear hb
  have hL1 : (200 : Int) < (L : Int) := by omega
  gi_wp2_with fail
  refine ⟨trivial, ?_⟩
  refine (callsIn_wide.2 (known_any _)).mono ?_
  rintro e w9 ⟨rfl, hb9⟩
  have c9 : w9.cell? ⟨w.heap.size + 2, 0, none⟩ = some (.bool false) := (hb9.cell (p := ⟨w.heap.size + 2, 0, none⟩) (by simp)).trans (by simp [go_sem])
  have f9 : w9.frozen? ⟨w.heap.size + 2, 0, none⟩ = false := (hb9.frozen (p := ⟨w.heap.size + 2, 0, none⟩) (by simp)).trans (by simp [go_sem])
  have HB9 := hide (show Below w.heap.size w w9 from bstep (by (focus repeat' (first | (with_reducible exact Below.refl _ _) | (with_reducible assumption) | (with_reducible refine Below.alloc ?_ ?_ _) | (with_reducible refine Below.drew ?_) | (with_reducible refine bdrewN ?_ _) | (with_reducible refine Below.setCell ?_ ?_ _) | (first | (with_reducible exact Nat.le_refl _) | (with_reducible assumption) | omega | (simp; omega) | (simp; done))))) hb9)
  clear hb9
  gi_wp2
  have c10 := World.cell?_setCell_same' w9 ⟨w.heap.size + 2, 0, none⟩ (.bool true) (by rw [c9]; rfl)
  refine ⟨.bool true, ?_, rfl, HB9.out.setCell (p := ⟨w.heap.size + 2, 0, none⟩) (by first | (simp; done) | omega) _⟩
  simp [results, Try.f6, go_sem, c10]

set_option maxRecDepth 1000000 in
set_option maxHeartbeats 4000000 in
theorem LRun_main (k op cl st sp ex la fl fa co ru : Int) (so : Option Addr) (cap L : Nat) (zz : Nat → Nat → Int) (leave : Int) (X : R4) (nn e0 : Int) (T : List (R4 × Int)) (w : World) (hb : RowB w so cap L zz) (hL : L ≤ 200) (hT : T.length ≤ 200)
    (hrun : ∀ so cap w, RowB w so cap L zz → Calls Try.prog 20 #[.agg #[.int .i64 k, .int .i64 op, .int .i64 cl, .int .i64 st, .int .i64 sp, .int .i64 ex, .int .i64 la, .int .i64 fl, .int .i64 fa, .int .i64 co, .int .i64 ru], .slice so L cap] w fun e w' => e = .returned (.tuple #[.agg #[.int .i64 X.1, .int .i64 X.2.1, .int .i64 X.2.2.1, .int .i64 X.2.2.2], .int .i64 nn, .int .i64 e0]) ∧ Below w.heap.size w w')
    (hall : ∀ so cap w, RowB w so cap L zz → Calls Try.prog 19 #[.agg #[.int .i64 k, .int .i64 op, .int .i64 cl, .int .i64 st, .int .i64 sp, .int .i64 ex, .int .i64 la, .int .i64 fl, .int .i64 fa, .int .i64 co, .int .i64 ru], .slice so L cap] w (AllAns T w))
    (href : ∀ so cap w, RowB w so cap L zz → Calls Try.prog 21 #[.agg #[.int .i64 k, .int .i64 op, .int .i64 cl, .int .i64 st, .int .i64 sp, .int .i64 ex, .int .i64 la, .int .i64 fl, .int .i64 fa, .int .i64 co, .int .i64 ru], .slice so L cap] w fun e w' => (∃ vo, e = .returned (.tuple #[vo, .agg #[.int .i64 X.1, .int .i64 X.2.1, .int .i64 X.2.2.1, .int .i64 X.2.2.2], .int .i64 nn, .int .i64 e0]) ∧ w'.ownsRow w.heap.size 61 5 vo T.length (T.flatMap stepc)) ∧ Below w.heap.size w w') : Calls Try.prog 6 #[.agg #[.int .i64 k, .int .i64 op, .int .i64 cl, .int .i64 st, .int .i64 sp, .int .i64 ex, .int .i64 la, .int .i64 fl, .int .i64 fa, .int .i64 co, .int .i64 ru], .slice so L cap, .int .i64 leave] w fun e w' => e = .returned (.bool true) ∧ Below w.heap.size w w' := by
  refine (callsIn_wide (n := 3)).1 ?_
  refine callsIn_of_wp_marks Try.func6 rfl trivial ?_ rfl
  simp only [Try.ntmps6, List.size_toArray, List.length_cons, List.length_nil, Nat.reduceAdd, Nat.reduceSub, Array.replicate_succ, Array.replicate_zero, List.push_toArray, List.append_toArray, List.nil_append, List.cons_append]
  have hlen := hb.len
  have HB := hide hb
  clear hb
  have hL1 : ¬ (200 : Int) < (L : Int) := by omega
  obtain ⟨i0, hi0, hz0, hi1, hi2⟩ := info_parts info35
  obtain ⟨W0, hW0⟩ : ∃ W0, W0 = ((w.alloc (.cells #[Value.int .i64 k, Value.int .i64 op, Value.int .i64 cl, Value.int .i64 st, Value.int .i64 sp, Value.int .i64 ex, Value.int .i64 la, Value.int .i64 fl, Value.int .i64 fa, Value.int .i64 co, Value.int .i64 ru] 27)).alloc (.cells #[.int .i64 leave] 3)).alloc (.cells #[.bool false] 4) := ⟨_, rfl⟩
  have hb0 : Below w.heap.size w W0 := by rw [hW0]; (focus repeat' (first | (with_reducible exact Below.refl _ _) | (with_reducible assumption) | (with_reducible refine Below.alloc ?_ ?_ _) | (with_reducible refine Below.drew ?_) | (with_reducible refine bdrewN ?_ _) | (with_reducible refine Below.setCell ?_ ?_ _) | (first | (with_reducible exact Nat.le_refl _) | (with_reducible assumption) | omega | (simp; omega) | (simp; done))))
  have hz : W0.heap.size = w.heap.size + 3 := by rw [hW0]; simp
  have HRB0 := hide (HB.out.below hb0)
  have HL0 := hide (show ∀ o, W0.cell? ⟨w.heap.size, o, none⟩ = (#[Value.int .i64 k, Value.int .i64 op, Value.int .i64 cl, Value.int .i64 st, Value.int .i64 sp, Value.int .i64 ex, Value.int .i64 la, Value.int .i64 fl, Value.int .i64 fa, Value.int .i64 co, Value.int .i64 ru] : Array Value)[o]? from fun o => by rw [hW0]; simp [go_sem])
  have HV0 := hide (show W0.cell? ⟨w.heap.size + 1, 0, none⟩ = some (.int .i64 leave) from by rw [hW0]; simp [go_sem])
  have HR0 := hide (show W0.cell? ⟨w.heap.size + 2, 0, none⟩ = some (.bool false) from by rw [hW0]; simp [go_sem])
  have FR0 := hide (show W0.frozen? ⟨w.heap.size + 2, 0, none⟩ = false from by rw [hW0]; simp [go_sem])
  have HB0 := hide hb0
  clear hb0
  gi_wp2_with (first
    | (gi_at_builtin; rw [← hW0]; refine wpListIn_append_row _ rfl _ rfl W0.heap.size so cap L zz (by omega) rfl HRB0.out (Nat.le_refl _) ?_; clear hW0; intro v1 wn1 own1 hg1)
    | (gi_at_builtin; refine wpListIn_append_own _ rfl _ _ 50 rfl W0.heap.size 35 i0 _ 4 32 Try.underlying50 hi0 hz0 hi1 hi2 rfl (by decide) v1 L (flat4 zz L) rfl (World.ownsRow.alloc own1 _) ⟨wn1.heap.size, 0, none⟩ 1 1 [.int .i64 4242, .int .i64 0, .int .i64 0, .int .i64 0] rfl rfl (new4 _ _ _ _ _ _) one4 (by unfold maxLen; omega) (by omega) (by (have := hg1.size; simp; omega)) ?_
       intro v2 wn2 own2 hg2 _
       obtain ⟨g, cap2, rfl, hgb, hgz⟩ := own2.form (by omega)
       have hcap := own_cap own2 (by omega)
       have hcap1 : (L : Int) ≤ (cap2 : Int) := by omega
       have hcap2 : ¬ cap2 = 0 := by omega
       have hL0 : (0 : Int) ≤ (L : Int) := by omega
       have hb2 : Below W0.heap.size W0 wn2 := (((Below.refl _ W0).grown hg1 (Nat.le_refl _) (fun r e => by cases e)).alloc hg1.size _).grown hg2 (by (have := hg1.size; simp; omega)) (fun r e => (own1.lt r e).1)
       have HBM := hide hb2
       have OWM := hide own2
       have hz2 := hb2.size
       have HLM := hide (fun o => (hb2.cell (p := ⟨w.heap.size, o, none⟩) (by simp; omega)).trans (HL0.out o))
       clear hb2 own2 hg2 hg1 own1
       have m0 : wn2.cell? ⟨w.heap.size, 0, none⟩ = some (.int .i64 k) := HLM.out 0
       have m1 : wn2.cell? ⟨w.heap.size, 1, none⟩ = some (.int .i64 op) := HLM.out 1
       have m2 : wn2.cell? ⟨w.heap.size, 2, none⟩ = some (.int .i64 cl) := HLM.out 2
       have m3 : wn2.cell? ⟨w.heap.size, 3, none⟩ = some (.int .i64 st) := HLM.out 3
       have m4 : wn2.cell? ⟨w.heap.size, 4, none⟩ = some (.int .i64 sp) := HLM.out 4
       have m5 : wn2.cell? ⟨w.heap.size, 5, none⟩ = some (.int .i64 ex) := HLM.out 5
       have m6 : wn2.cell? ⟨w.heap.size, 6, none⟩ = some (.int .i64 la) := HLM.out 6
       have m7 : wn2.cell? ⟨w.heap.size, 7, none⟩ = some (.int .i64 fl) := HLM.out 7
       have m8 : wn2.cell? ⟨w.heap.size, 8, none⟩ = some (.int .i64 fa) := HLM.out 8
       have m9 : wn2.cell? ⟨w.heap.size, 9, none⟩ = some (.int .i64 co) := HLM.out 9
       have m10 : wn2.cell? ⟨w.heap.size, 10, none⟩ = some (.int .i64 ru) := HLM.out 10
       ))
  refine ⟨trivial, ?_⟩
  have KP2 : KP w.heap.size k op cl st sp ex la fl fa co ru leave so cap L zz g cap2 wn2 := ⟨HLM.out, (HBM.out.cell (p := ⟨w.heap.size + 1, 0, none⟩) (by simp; omega)).trans HV0.out, (HBM.out.cell (p := ⟨w.heap.size + 2, 0, none⟩) (by simp; omega)).trans HR0.out, (HBM.out.frozen (p := ⟨w.heap.size + 2, 0, none⟩) (by simp; omega)).trans FR0.out, by omega, HRB0.out.below HBM.out, by rw [← hz]; exact OWM.out⟩
  have HK2 := hide KP2
  have HB2 := hide (bstep HB0.out HBM.out)
  refine (callsIn_wide.2 (hrun _ _ _ (KP2.m hL))).mono ?_
  rintro e w3 ⟨rfl, hb3⟩
  have KP3 := KP2.below hb3
  have HK3 := hide KP3
  have HB3 := hide (bstep HB2.out hb3)
  clear HBM OWM HLM HRB0 HL0 HV0 HR0 FR0 HB0 hz2 hgb hgz hz KP2 m0 m1 m2 m3 m4 m5 m6 m7 m8 m9 m10
  have m0 : w3.cell? ⟨w.heap.size, 0, none⟩ = some (.int .i64 k) := KP3.lot 0
  have m1 : w3.cell? ⟨w.heap.size, 1, none⟩ = some (.int .i64 op) := KP3.lot 1
  have m2 : w3.cell? ⟨w.heap.size, 2, none⟩ = some (.int .i64 cl) := KP3.lot 2
  have m3 : w3.cell? ⟨w.heap.size, 3, none⟩ = some (.int .i64 st) := KP3.lot 3
  have m4 : w3.cell? ⟨w.heap.size, 4, none⟩ = some (.int .i64 sp) := KP3.lot 4
  have m5 : w3.cell? ⟨w.heap.size, 5, none⟩ = some (.int .i64 ex) := KP3.lot 5
  have m6 : w3.cell? ⟨w.heap.size, 6, none⟩ = some (.int .i64 la) := KP3.lot 6
  have m7 : w3.cell? ⟨w.heap.size, 7, none⟩ = some (.int .i64 fl) := KP3.lot 7
  have m8 : w3.cell? ⟨w.heap.size, 8, none⟩ = some (.int .i64 fa) := KP3.lot 8
  have m9 : w3.cell? ⟨w.heap.size, 9, none⟩ = some (.int .i64 co) := KP3.lot 9
  have m10 : w3.cell? ⟨w.heap.size, 10, none⟩ = some (.int .i64 ru) := KP3.lot 10
  have hz3 := KP3.big
  have hlt3 : w.heap.size < w3.heap.size := by omega
  clear KP3 hb3
  gi_wp2_with fail
  obtain ⟨w4, hw4⟩ : ∃ w4, w4 = w3.alloc (.cells #[.int .i64 X.1, .int .i64 X.2.1, .int .i64 X.2.2.1, .int .i64 X.2.2.2] 29) := ⟨_, rfl⟩
  rw [← hw4]
  have hb4 : Below w3.heap.size w3 w4 := by rw [hw4]; exact (Below.refl _ _).alloc (Nat.le_refl _) _
  have hz4 : w4.heap.size = w3.heap.size + 1 := by rw [hw4]; simp
  have HX4 := hide (show ∀ o, w4.cell? ⟨w3.heap.size, o, none⟩ = (#[Value.int .i64 X.1, .int .i64 X.2.1, .int .i64 X.2.2.1, .int .i64 X.2.2.2] : Array Value)[o]? from fun o => by rw [hw4]; simp [go_sem])
  have KP4 := HK3.out.below hb4
  have HB4 := hide (bstep HB3.out hb4)
  clear hw4 m0 m1 m2 m3 m4 m5 m6 m7 m8 m9 m10
  refine ⟨trivial, ?_⟩
  refine (callsIn_wide.2 (hall _ _ _ (KP4.m hL))).mono ?_
  rintro e w5 ⟨lb, K, rfl, hK, hseq, hb5⟩
  have KP5 := KP4.below hb5
  have HK5 := hide KP5
  have HB5 := hide (bstep HB4.out hb5)
  have HX5 := hide (fun o => (hb5.cell (p := ⟨w3.heap.size, o, none⟩) (by simp; omega)).trans (HX4.out o))
  have hz5 := hb5.size
  have HKK := hide hK
  have HSQ := hide (hseq 2 (by decide))
  have m0 : w5.cell? ⟨w.heap.size, 0, none⟩ = some (.int .i64 k) := KP5.lot 0
  have m1 : w5.cell? ⟨w.heap.size, 1, none⟩ = some (.int .i64 op) := KP5.lot 1
  have m2 : w5.cell? ⟨w.heap.size, 2, none⟩ = some (.int .i64 cl) := KP5.lot 2
  have m3 : w5.cell? ⟨w.heap.size, 3, none⟩ = some (.int .i64 st) := KP5.lot 3
  have m4 : w5.cell? ⟨w.heap.size, 4, none⟩ = some (.int .i64 sp) := KP5.lot 4
  have m5 : w5.cell? ⟨w.heap.size, 5, none⟩ = some (.int .i64 ex) := KP5.lot 5
  have m6 : w5.cell? ⟨w.heap.size, 6, none⟩ = some (.int .i64 la) := KP5.lot 6
  have m7 : w5.cell? ⟨w.heap.size, 7, none⟩ = some (.int .i64 fl) := KP5.lot 7
  have m8 : w5.cell? ⟨w.heap.size, 8, none⟩ = some (.int .i64 fa) := KP5.lot 8
  have m9 : w5.cell? ⟨w.heap.size, 9, none⟩ = some (.int .i64 co) := KP5.lot 9
  have m10 : w5.cell? ⟨w.heap.size, 10, none⟩ = some (.int .i64 ru) := KP5.lot 10
  clear KP4 KP5 hb5 hb4 hK hseq
  have hlt5 : w.heap.size < w5.heap.size := by omega
  gi_wp2_with fail
  refine ⟨trivial, ?_⟩
  refine (callsIn_wide.2 (href _ _ _ HK5.out.row)).mono ?_
  rintro e w6 ⟨⟨vo, rfl, ownv⟩, hb6⟩
  obtain ⟨ao, vcap, rfl⟩ := own_any4 ownv
  have KP6 := HK5.out.below hb6
  have HK6 := hide KP6
  have HB6 := hide (bstep HB5.out hb6)
  have HX6 := hide (fun o => (hb6.cell (p := ⟨w3.heap.size, o, none⟩) (by simp; omega)).trans (HX5.out o))
  have hz6 := hb6.size
  have HOV := hide ownv
  have HB56 := hide hb6
  obtain ⟨x0, x1, x2, x3⟩ := X
  have d0 : w6.cell? ⟨w3.heap.size, 0, none⟩ = some (.int .i64 x0) := HX6.out 0
  have d1 : w6.cell? ⟨w3.heap.size, 1, none⟩ = some (.int .i64 x1) := HX6.out 1
  have d2 : w6.cell? ⟨w3.heap.size, 2, none⟩ = some (.int .i64 x2) := HX6.out 2
  have d3 : w6.cell? ⟨w3.heap.size, 3, none⟩ = some (.int .i64 x3) := HX6.out 3
  have hx36 : w3.heap.size < w6.heap.size := by omega
  have Q := eql52
  have NEQ := neq29
  have hgz := (KP6.own.lt g rfl).2
  have hq : w6.cell? ⟨g, L * 4, none⟩ = some (.int .i64 4242) := by
    rw [KP6.own.cellAt (L * 4) (by omega), List.getElem?_append_right (by rw [flat4_length]; omega), flat4_length]
    simp [mark]
  clear KP6 hb6 ownv m0 m1 m2 m3 m4 m5 m6 m7 m8 m9 m10
  gi_wp2_with fail
  have hg3 : w.heap.size + 3 ≤ g ∧ g < w3.heap.size := HK3.out.own.lt g rfl
  obtain ⟨w7, hw7⟩ : ∃ w7, w7 = (w6.alloc (.cells #[.slice ao T.length vcap] 57)).alloc (.cells #[.int .i64 x0, .int .i64 x1, .int .i64 x2, .int .i64 x3] 29) := ⟨_, rfl⟩
  rw [← hw7]
  have hb7 : Below w6.heap.size w6 w7 := by rw [hw7]; exact ((Below.refl _ _).alloc (Nat.le_refl _) _).alloc (by simp) _
  have hz7 : w7.heap.size = w6.heap.size + 2 := by rw [hw7]; simp
  have HW7 := hide (show w7.cell? ⟨w6.heap.size, 0, none⟩ = some (.slice ao T.length vcap) from by rw [hw7]; simp [go_sem])
  have KP7 := HK6.out.below hb7
  have HB7 := hide (bstep HB6.out hb7)
  have HB67 := hide hb7
  have HK7 := hide KP7
  clear hw7 d0 d1 d2 d3 Q NEQ hq hgz hlen KP7 hb7
  gi_loopw [16] (fun v16 wr => ∃ j : Nat, j ≤ L ∧ v16 = .int .i64 (j : Int) ∧ (∀ k, k ≠ g → wr.heap[k]? = w7.heap[k]?) ∧ wr.heap.size = w7.heap.size ∧ Below w.heap.size w wr ∧ (∀ o, wr.frozen? ⟨g, o, none⟩ = false) ∧ (∀ i c, j ≤ i → i < L → c < 4 → wr.cell? ⟨g, i * 4 + c, none⟩ = some (.int .i64 (zz i c))))
    (fun v16 _ => L - (intOf v16).toNat)
  case atStart =>
    refine ⟨0, Nat.zero_le _, rfl, fun _ _ => rfl, rfl, HB7.out, fun o => HK7.out.own.frozenAt o, fun i c _ hi hc => ?_⟩
    rw [HK7.out.own.cellAt (i * 4 + c) (by omega), List.getElem?_append_left (by rw [flat4_length]; omega)]
    exact flat4_at zz L i c hi hc
  case round =>
    obtain ⟨j, hj, rfl, hoth, hzr, hbr, hfr, hcr⟩ := hrel
    by_cases hlt : j < L
    · have hlt' : (j : Int) < (L : Int) := by omega
      have hj0 : (0 : Int) ≤ (j : Int) := by omega
      obtain ⟨b, off, rfl, hbz, hbc⟩ := HB.out.spot (by omega)
      have hbg : b ≠ g := by omega
      have c0 := (hbr.cell (p := ⟨b, off + j * 4, none⟩) hbz).trans (hbc j hlt 0 (by decide))
      have c1 := (hbr.cell (p := ⟨b, off + j * 4 + 1, none⟩) hbz).trans (hbc j hlt 1 (by decide))
      have c2 := (hbr.cell (p := ⟨b, off + j * 4 + 2, none⟩) hbz).trans (hbc j hlt 2 (by decide))
      have c3 := (hbr.cell (p := ⟨b, off + j * 4 + 3, none⟩) hbz).trans (hbc j hlt 3 (by decide))
      have m0 : wr.cell? ⟨g, j * 4, none⟩ = some (.int .i64 (zz j 0)) := hcr j 0 (Nat.le_refl _) hlt (by decide)
      have m1 := hcr j 1 (Nat.le_refl _) hlt (by decide)
      have m2 := hcr j 2 (Nat.le_refl _) hlt (by decide)
      have m3 := hcr j 3 (Nat.le_refl _) hlt (by decide)
      have f0 := hfr (j * 4)
      have f1 := hfr (j * 4 + 1)
      have f2 := hfr (j * 4 + 2)
      have f3 := hfr (j * 4 + 3)
      have NEQ := neq35 (zz j 0) (zz j 1) (zz j 2) (zz j 3)
      have HCR := hide hcr
      have HFR := hide hfr
      have HOTH := hide hoth
      have HBR := hide hbr
      clear hcr hfr hoth hbr hbc
      gi_wp2_with fail
      gi_quiet (fail)
      gi_wp2
      have hbr := HBR.out
      go_roundw
      case rel =>
        refine ⟨j + 1, by omega, by go_num, fun k hk => (over4_other _ g _ _ _ _ _ _ _ _ k hk).trans (HOTH.out k hk), by (simp only [World.size_setCell]; exact hzr), by (focus repeat' (first | (with_reducible exact Below.refl _ _) | (with_reducible assumption) | (with_reducible refine Below.alloc ?_ ?_ _) | (with_reducible refine Below.drew ?_) | (with_reducible refine bdrewN ?_ _) | (with_reducible refine Below.setCell ?_ ?_ _) | (first | (with_reducible exact Nat.le_refl _) | (with_reducible assumption) | omega | (simp; omega) | (simp; done)))), fun o => by (simp only [World.frozen?_setCell]; exact HFR.out o), fun i c hi hiL hc => (over4 _ g j i c _ _ _ _ (by omega)).trans (HCR.out i c (by omega) hiL hc)⟩
      case measure => (first | (simp [intOf]; done) | (simp [intOf]; omega))
    · obtain rfl : L = j := by omega
      have hge : ¬ (L : Int) < (L : Int) := by omega
      gi_wp2_with fail
      obtain ⟨w8, hw8⟩ : ∃ w8, w8 = wr.alloc (.cells #[.int .i64 0] 3) := ⟨_, rfl⟩
      rw [← hw8]
      have hb8 : Below wr.heap.size wr w8 := by rw [hw8]; exact (Below.refl _ _).alloc (Nat.le_refl _) _
      have hz8 : w8.heap.size = wr.heap.size + 1 := by rw [hw8]; simp
      have hKw : ∀ i, K i → w4.heap.size ≤ i ∧ i < w5.heap.size := HKK.out
      have hz45 := hz4
      have heq : ∀ b, b < w7.heap.size → b ≠ g → w8.heap[b]? = w7.heap[b]? := fun b hb hg => (hb8.block b (by omega)).trans (hoth b hg)
      have h56 : ∀ b, b < w5.heap.size → b ≠ g → w8.heap[b]? = w5.heap[b]? := fun b hb hg => (heq b (by omega) hg).trans ((HB67.out.block b (by omega)).trans (HB56.out.block b hb))
      have hown := (own_later HOV.out HB67.out)
      have TW8 : TW (w.heap.size + 2) (w.heap.size + 1) w6.heap.size ao vcap leave T K w5 (w6.heap.size + 2) (0 : Nat) [] w8 := ⟨(World.cell?_of_block (a := ⟨w.heap.size + 1, 0, none⟩) (heq _ (by simp; omega) (by simp; omega))).trans HK7.out.lv, (World.cell?_of_block (a := ⟨w.heap.size + 2, 0, none⟩) (heq _ (by simp; omega) (by simp; omega))).trans HK7.out.res,
        (World.frozen?_of_block (a := ⟨w.heap.size + 2, 0, none⟩) (heq _ (by simp; omega) (by simp; omega))).trans HK7.out.resf, (World.cell?_of_block (a := ⟨w6.heap.size, 0, none⟩) (heq _ (by simp; omega) (by simp; omega))).trans HW7.out,
        fun i x hx => by
          obtain ⟨gw, e, hlt, c0, c1, c2, c3, c4⟩ := want_cells HOV.out i x hx
          have hgw := (HOV.out.lt gw (by rw [e]; rfl)).1
          have hq : w8.heap[gw]? = w6.heap[gw]? := (heq gw (by omega) (by omega)).trans (HB67.out.block gw hlt)
          exact ⟨gw, e, hlt, (World.cell?_of_block (a := ⟨gw, i * 5, none⟩) hq).trans c0, (World.cell?_of_block (a := ⟨gw, i * 5 + 1, none⟩) hq).trans c1, (World.cell?_of_block (a := ⟨gw, i * 5 + 2, none⟩) hq).trans c2, (World.cell?_of_block (a := ⟨gw, i * 5 + 3, none⟩) hq).trans c3, (World.cell?_of_block (a := ⟨gw, i * 5 + 4, none⟩) hq).trans c4⟩,
        by rw [hw8, show w6.heap.size + 2 = wr.heap.size by omega]; simp [go_sem], by rw [hw8, show w6.heap.size + 2 = wr.heap.size by omega]; simp [go_sem], (fun D hD => by cases hD),
        fun i hi => h56 i (hKw i hi).2 (by have := (hKw i hi).1; omega)⟩
      have HB8 := hide (show Below w.heap.size w w8 from hbr.trans (hb8.mono hbr.size))
      have HSF := hide HSQ.out
      have hK5 : ∀ i, K i → i < w5.heap.size := fun i hi => (hKw i hi).2
      have HKI := hide hK5
      have HNEQ := hide neq29
      have hsz5 : w5.heap.size ≤ w6.heap.size := by omega
      have hwz6 : w.heap.size + 3 ≤ w6.heap.size := by omega
      have hz86 : w8.heap.size = w6.heap.size + 3 := by omega
      clear hw8 hb8 heq h56 hown hz45 hoth hbr hfr hcr hrun hall href HX4 HX5 HX6 hKw hK5 HOV HSQ hlt hge
      refine loop_turns 2 (fun t a W => ∃ (bt : Nat) (Ds : List Nat) (q18 q100 q101 q102 q103 q104 q138 q139 q140 q141 q142 q143 q144 q145 q146 q147 q148 q149 q150 q151 q152 q153 q154 q155 q156 q157 q158 q159 q160 q161 q162 : Value), w6.heap.size < bt ∧ bt < W.heap.size ∧ (∀ D, D ∈ Ds → w.heap.size + 3 ≤ D ∧ D < bt) ∧ TW (w.heap.size + 2) (w.heap.size + 1) w6.heap.size ao vcap leave T K w5 bt (t : Int) Ds W ∧ Below w.heap.size w W ∧ (t = 2 → ∃ D1 D2, D1 < D2 ∧ Ds = [D2, D1]) ∧ (t = 1 → ∃ D1, Ds = [D1]) ∧ (t = 0 → Ds = []) ∧ a = { tmps := #[Value.agg #[Value.int .i64 k, Value.int .i64 op, Value.int .i64 cl, Value.int .i64 st, Value.int .i64 sp, Value.int .i64 ex, Value.int .i64 la, Value.int .i64 fl, Value.int .i64 fa, Value.int .i64 co, Value.int .i64 ru], Value.slice so L cap, Value.int .i64 leave, Value.pointer (some ⟨w.heap.size, 0, none⟩), undef, Value.pointer (some ⟨w.heap.size + 1, 0, none⟩), Value.pointer (some ⟨w.heap.size + 1 + 1, 0, none⟩), Value.slice (some ⟨g, 0, none⟩) L cap2, Value.pointer (some ⟨w3.heap.size, 0, none⟩), Value.int .i64 nn, Value.int .i64 e0, Value.func (Fn.func 30) #[] lb, Value.pointer (some ⟨w6.heap.size, 0, none⟩), Value.pointer (some ⟨w6.heap.size + 1, 0, none⟩), Value.int .i64 nn, Value.int .i64 e0, Value.int .i64 (L : Int), .pointer (some ⟨bt, 0, none⟩), q18, undef, undef, Value.slice so L cap, Value.int .i64 (L : Int), Value.bool false, undef, Value.slice so L cap, v1, Value.agg #[Value.int .i64 4242, Value.int .i64 0, Value.int .i64 0, Value.int .i64 0], Value.slice (some ⟨wn1.heap.size, 0, none⟩) 1 1, Value.slice (some ⟨g, 0, none⟩) (L + 1) cap2, Value.slice so L cap, Value.int .i64 (L : Int), Value.slice (some ⟨g, 0, none⟩) L cap2, Value.tuple #[Value.agg #[Value.int .i64 x0, Value.int .i64 x1, Value.int .i64 x2, Value.int .i64 x3], Value.int .i64 nn, Value.int .i64 e0], Value.agg #[Value.int .i64 k, Value.int .i64 op, Value.int .i64 cl, Value.int .i64 st, Value.int .i64 sp, Value.int .i64 ex, Value.int .i64 la, Value.int .i64 fl, Value.int .i64 fa, Value.int .i64 co, Value.int .i64 ru], Value.slice (some ⟨g, 0, none⟩) L cap2, Value.tuple #[Value.agg #[Value.int .i64 x0, Value.int .i64 x1, Value.int .i64 x2, Value.int .i64 x3], Value.int .i64 nn, Value.int .i64 e0], Value.agg #[Value.int .i64 x0, Value.int .i64 x1, Value.int .i64 x2, Value.int .i64 x3], Value.int .i64 nn, Value.int .i64 e0, Value.agg #[Value.int .i64 k, Value.int .i64 op, Value.int .i64 cl, Value.int .i64 st, Value.int .i64 sp, Value.int .i64 ex, Value.int .i64 la, Value.int .i64 fl, Value.int .i64 fa, Value.int .i64 co, Value.int .i64 ru], Value.slice (some ⟨g, 0, none⟩) L cap2, Value.func (Fn.func 30) #[] lb, Value.tuple #[Value.slice ao T.length vcap, Value.agg #[Value.int .i64 x0, Value.int .i64 x1, Value.int .i64 x2, Value.int .i64 x3], Value.int .i64 nn, Value.int .i64 e0], Value.agg #[Value.int .i64 k, Value.int .i64 op, Value.int .i64 cl, Value.int .i64 st, Value.int .i64 sp, Value.int .i64 ex, Value.int .i64 la, Value.int .i64 fl, Value.int .i64 fa, Value.int .i64 co, Value.int .i64 ru], Value.slice so L cap, Value.tuple #[Value.slice ao T.length vcap, Value.agg #[Value.int .i64 x0, Value.int .i64 x1, Value.int .i64 x2, Value.int .i64 x3], Value.int .i64 nn, Value.int .i64 e0], Value.slice ao T.length vcap, Value.agg #[Value.int .i64 x0, Value.int .i64 x1, Value.int .i64 x2, Value.int .i64 x3], Value.int .i64 nn, Value.int .i64 e0, Value.func (Fn.func 30) #[] lb, Value.bool false, Value.bool false, Value.agg #[Value.int .i64 x0, Value.int .i64 x1, Value.int .i64 x2, Value.int .i64 x3], Value.agg #[Value.int .i64 x0, Value.int .i64 x1, Value.int .i64 x2, Value.int .i64 x3], Value.bool false, Value.bool false, Value.bool false, Value.int .i64 nn, Value.int .i64 nn, Value.bool false, Value.bool false, Value.bool false, Value.int .i64 e0, Value.int .i64 e0, Value.bool false, Value.bool false, Value.bool false, Value.slice (some ⟨g, 0, none⟩) L cap2, Value.slice so L cap, Value.int .i64 (L : Int), Value.int .i64 ((L : Int) + 1), Value.slice (some ⟨g, 0, none⟩) (L + 1) cap2, Value.slice so L cap, Value.int .i64 (L : Int), Value.pointer (some ⟨g, L * 4, none⟩), Value.pointer (some ⟨g, L * 4, none⟩), Value.int .i64 4242, Value.bool false, Value.bool false, Value.int .i64 (L : Int), Value.slice so L cap, Value.int .i64 (L : Int), Value.bool false, u85, u86, u87, u88, u89, u90, u91, u92, u93, u94, u95, u96, u97, u98, u99, q100, q101, q102, q103, q104, undef, undef, undef, undef, undef, undef, undef, undef, undef, undef, undef, undef, undef, undef, undef, undef, undef, undef, undef, undef, undef, undef, undef, undef, undef, undef, undef, undef, undef, undef, undef, undef, undef, q138, q139, q140, q141, q142, q143, q144, q145, q146, q147, q148, q149, q150, q151, q152, q153, q154, q155, q156, q157, q158, q159, q160, q161, q162], defers := Ds.map mk }) ?round ?last
        ⟨w6.heap.size + 2, [], _, _, _, _, _, _, _, _, _, _, _, _, _, _, _, _, _, _, _, _, _, _, _, _, _, _, _, _, _, _, _, by omega, by omega, (fun D hD => by cases hD), TW8, HB8.out, (fun e => by cases e), (fun e => by cases e), (fun _ => rfl), rfl⟩
      case last =>
        rintro a W ⟨bt, Ds, q18, q100, q101, q102, q103, q104, q138, q139, q140, q141, q142, q143, q144, q145, q146, q147, q148, q149, q150, q151, q152, q153, q154, q155, q156, q157, q158, q159, q160, q161, q162, hbt, hbz, hDs, hTW, hB, hd2, -, -, rfl⟩ K2
        obtain ⟨D1, D2, hD12, rfl⟩ := hd2 rfl
        have HDS := hide hDs
        have HTW := hide hTW
        have HBW := hide hB
        have cturn : W.cell? ⟨bt, 0, none⟩ = some (.int .i64 2) := hTW.turn
        have hk1 := hTW.marks D1 (by simp)
        have hk2 := hTW.marks D2 (by simp)
        have hD1 := hDs D1 (by simp)
        have hD2 := hDs D2 (by simp)
        clear hTW hB hDs hd2
        gi_wp2_with fail
        refine ⟨trivial, ?_⟩
        refine (callsIn_wide.2 (known_any _)).mono ?_
        rintro e w9 ⟨rfl, hb9⟩
        have c9 := (hb9.cell (p := ⟨w.heap.size + 2, 0, none⟩) (by simp; omega)).trans HTW.out.res
        have f9 := (hb9.frozen (p := ⟨w.heap.size + 2, 0, none⟩) (by simp; omega)).trans HTW.out.resf
        have k1 := (hb9.block D1 (by omega)).trans hk1
        have k2 := (hb9.block D2 (by omega)).trans hk2
        have K1 := hide k1
        have K2 := hide k2
        have HB9 := hide (bstep HBW.out hb9)
        clear hb9 hk1 hk2 k1 k2 cturn
        gi_wp2
        have q1 := (KeepsOthers.setCell w9 ⟨w.heap.size + 2, 0, none⟩ (.bool true)).same D1 _ K1.out rfl
        have q2 := (KeepsOthers.setCell w9 ⟨w.heap.size + 2, 0, none⟩ (.bool true)).same D2 _ K2.out rfl
        have hc5 := cell_kept (World.cell?_setCell_same' w9 ⟨w.heap.size + 2, 0, none⟩ (.bool true) (by rw [c9]; rfl)) (grownBy_putObj' _ D2 (.deferred none)) (fun r e => by cases e; exact ⟨_, q2, rfl⟩)
        have q1' := (World.putObj_heap_other (w := w9.setCell ⟨w.heap.size + 2, 0, none⟩ (.bool true)) (o := .deferred none) (show D1 ≠ D2 by omega)).trans q1
        have hc6 := cell_kept hc5 (grownBy_putObj' _ D1 (.deferred none)) (fun r e => by cases e; exact ⟨_, q1', rfl⟩)
        refine ⟨by simp, .inl ⟨_, _, rfl, run_takeDeferred q2, ?_⟩⟩
        refine ⟨by simp, .inl ⟨_, _, rfl, run_takeDeferred q1', ?_⟩⟩
        refine ⟨.bool true, ?_, rfl, ((HB9.out.setCell (p := ⟨w.heap.size + 2, 0, none⟩) (by simp) _).trans (belowK_b (w := w) (Nat.le_refl _) _ D2 _ _ (by omega) q2 rfl rfl)).trans (belowK_b (w := w) (Nat.le_refl _) _ D1 _ _ (by omega) q1' rfl rfl)⟩
        simp [results, Try.f6, go_sem, hc6]
      case round =>
        rintro t ht a W ⟨bt, Ds, q18, q100, q101, q102, q103, q104, q138, q139, q140, q141, q142, q143, q144, q145, q146, q147, q148, q149, q150, q151, q152, q153, q154, q155, q156, q157, q158, q159, q160, q161, q162, hbt, hbz, hDs, hTW, hB, -, hd1, hd0, rfl⟩ K2 hK2
        have HDS := hide hDs
        have HTW := hide hTW
        have HBW := hide hB
        have HK2 := hide hK2
        clear hTW hB hDs hK2
        rcases Nat.lt_or_ge t 1 with h1 | h1
        · obtain rfl : t = 0 := by omega
          have HD0 := hide (hd0 rfl)
          clear hd0 hd1
          have cturn : W.cell? ⟨bt, 0, none⟩ = some (.int .i64 0) := HTW.out.turn
          have HTW0 := hide (show TW (w.heap.size + 2) (w.heap.size + 1) w6.heap.size ao vcap leave T K w5 bt (0 : Int) Ds W from HTW.out)
          clear HTW
          gi_wp2_with fail
          obtain ⟨V, hV⟩ : ∃ V, V = W.alloc (.cells #[.int .i64 0] 3) := ⟨_, rfl⟩
          rw [← hV]
          have hbV : Below W.heap.size W V := by rw [hV]; exact (Below.refl _ _).alloc (Nat.le_refl _) _
          have hVz : V.heap.size = W.heap.size + 1 := by rw [hV]; simp
          have cat : V.cell? ⟨W.heap.size, 0, none⟩ = some (.int .i64 0) := by rw [hV]; simp [go_sem]
          have fat : V.frozen? ⟨W.heap.size, 0, none⟩ = false := by rw [hV]; simp [go_sem]
          have TWO : ∀ (B : Nat) (X X' : World), bt < B → (∀ b, b < B → X'.heap[b]? = X.heap[b]?) → TW (w.heap.size + 2) (w.heap.size + 1) w6.heap.size ao vcap leave T K w5 bt (0 : Int) Ds X → TW (w.heap.size + 2) (w.heap.size + 1) w6.heap.size ao vcap leave T K w5 bt (0 : Int) Ds X' := fun B X X' h1 hb h => h.old (B := B) (by omega) (by omega) (by omega) (by omega) (fun D hD => by have := HDS.out D hD; omega) (fun i hi => by have := HKI.out i hi; omega) hb
          have TWV := hide (TWO W.heap.size W V hbz (fun b h => hbV.block b h) HTW0.out)
          have HBV := hide (bstep HBW.out hbV)
          have hba1 : bt < W.heap.size := by omega
          have hba2 : V.heap.size = W.heap.size + 1 := by omega
          clear hV cturn hbV hVz HTW0 HBW
          refine range_R (n := 3) (by decide) (gf := 30) (lb := lb) rfl (enters_of Try.func30 (by kernel_rfl) rfl)
            (HSF.out V (TWV.out.toFix (by omega))) (fun i hi => by have := HKI.out i hi; omega) (Below.refl _ _) (fun _ => rfl)
            (fun pre X => (V.heap.size ≤ X.heap.size ∧ Pre T pre ∧ TW (w.heap.size + 2) (w.heap.size + 1) w6.heap.size ao vcap leave T K w5 bt (0 : Int) Ds X ∧ X.cell? ⟨W.heap.size, 0, none⟩ = some (.int .i64 (pre.length : Int)) ∧ X.frozen? ⟨W.heap.size, 0, none⟩ = false) ∧ Below w.heap.size w X)
            (fun c pre X => (V.heap.size ≤ X.heap.size ∧ c = .exit 4 ∧ TW (w.heap.size + 2) (w.heap.size + 1) w6.heap.size ao vcap leave T K w5 bt (0 : Int) Ds X ∧ X.cell? ⟨W.heap.size, 0, none⟩ = some (.int .i64 leave)) ∧ Below w.heap.size w X)
            ((stays_old (fun s X X' hb hI => ⟨hI.1, TWO V.heap.size X X' (by omega) hb hI.2.1, (World.cell?_of_block (a := ⟨W.heap.size, 0, none⟩) (hb W.heap.size (by omega))).trans hI.2.2.1, (World.frozen?_of_block (a := ⟨W.heap.size, 0, none⟩) (hb W.heap.size (by omega))).trans hI.2.2.2⟩)).both (stays_below (Nat.le_refl _) (by omega)))
            (fun c => (stays_old (fun s X X' hb hI => ⟨hI.1, TWO V.heap.size X X' (by omega) hb hI.2.1, (World.cell?_of_block (a := ⟨W.heap.size, 0, none⟩) (hb W.heap.size (by omega))).trans hI.2.2⟩)).both (stays_below (Nat.le_refl _) (by omega)))
            ⟨⟨Nat.le_refl _, ⟨rfl⟩, TWV.out, cat, fat⟩, HBV.out⟩
            (fun x a' X => ∃ Bx, V.heap.size + 2 ≤ Bx ∧ Bx < X.heap.size ∧ (∀ o, X.cell? ⟨Bx, o, none⟩ = (#[Value.int .i64 x.1.1, .int .i64 x.1.2.1, .int .i64 x.1.2.2.1, .int .i64 x.1.2.2.2] : Array Value)[o]?) ∧ a' = { tmps := #[Value.agg #[Value.int .i64 k, Value.int .i64 op, Value.int .i64 cl, Value.int .i64 st, Value.int .i64 sp, Value.int .i64 ex, Value.int .i64 la, Value.int .i64 fl, Value.int .i64 fa, Value.int .i64 co, Value.int .i64 ru], Value.slice so L cap, Value.int .i64 leave, Value.pointer (some ⟨w.heap.size, 0, none⟩), undef, Value.pointer (some ⟨w.heap.size + 1, 0, none⟩), Value.pointer (some ⟨w.heap.size + 1 + 1, 0, none⟩), Value.slice (some ⟨g, 0, none⟩) L cap2, Value.pointer (some ⟨w3.heap.size, 0, none⟩), Value.int .i64 nn, Value.int .i64 e0, Value.func (Fn.func 30) #[] lb, Value.pointer (some ⟨w6.heap.size, 0, none⟩), Value.pointer (some ⟨w6.heap.size + 1, 0, none⟩), Value.int .i64 nn, Value.int .i64 e0, Value.int .i64 (L : Int), .pointer (some ⟨bt, 0, none⟩), .pointer (some ⟨W.heap.size, 0, none⟩), .pointer (some ⟨Bx, 0, none⟩), .int .i64 x.2, Value.slice so L cap, Value.int .i64 (L : Int), Value.bool false, undef, Value.slice so L cap, v1, Value.agg #[Value.int .i64 4242, Value.int .i64 0, Value.int .i64 0, Value.int .i64 0], Value.slice (some ⟨wn1.heap.size, 0, none⟩) 1 1, Value.slice (some ⟨g, 0, none⟩) (L + 1) cap2, Value.slice so L cap, Value.int .i64 (L : Int), Value.slice (some ⟨g, 0, none⟩) L cap2, Value.tuple #[Value.agg #[Value.int .i64 x0, Value.int .i64 x1, Value.int .i64 x2, Value.int .i64 x3], Value.int .i64 nn, Value.int .i64 e0], Value.agg #[Value.int .i64 k, Value.int .i64 op, Value.int .i64 cl, Value.int .i64 st, Value.int .i64 sp, Value.int .i64 ex, Value.int .i64 la, Value.int .i64 fl, Value.int .i64 fa, Value.int .i64 co, Value.int .i64 ru], Value.slice (some ⟨g, 0, none⟩) L cap2, Value.tuple #[Value.agg #[Value.int .i64 x0, Value.int .i64 x1, Value.int .i64 x2, Value.int .i64 x3], Value.int .i64 nn, Value.int .i64 e0], Value.agg #[Value.int .i64 x0, Value.int .i64 x1, Value.int .i64 x2, Value.int .i64 x3], Value.int .i64 nn, Value.int .i64 e0, Value.agg #[Value.int .i64 k, Value.int .i64 op, Value.int .i64 cl, Value.int .i64 st, Value.int .i64 sp, Value.int .i64 ex, Value.int .i64 la, Value.int .i64 fl, Value.int .i64 fa, Value.int .i64 co, Value.int .i64 ru], Value.slice (some ⟨g, 0, none⟩) L cap2, Value.func (Fn.func 30) #[] lb, Value.tuple #[Value.slice ao T.length vcap, Value.agg #[Value.int .i64 x0, Value.int .i64 x1, Value.int .i64 x2, Value.int .i64 x3], Value.int .i64 nn, Value.int .i64 e0], Value.agg #[Value.int .i64 k, Value.int .i64 op, Value.int .i64 cl, Value.int .i64 st, Value.int .i64 sp, Value.int .i64 ex, Value.int .i64 la, Value.int .i64 fl, Value.int .i64 fa, Value.int .i64 co, Value.int .i64 ru], Value.slice so L cap, Value.tuple #[Value.slice ao T.length vcap, Value.agg #[Value.int .i64 x0, Value.int .i64 x1, Value.int .i64 x2, Value.int .i64 x3], Value.int .i64 nn, Value.int .i64 e0], Value.slice ao T.length vcap, Value.agg #[Value.int .i64 x0, Value.int .i64 x1, Value.int .i64 x2, Value.int .i64 x3], Value.int .i64 nn, Value.int .i64 e0, Value.func (Fn.func 30) #[] lb, Value.bool false, Value.bool false, Value.agg #[Value.int .i64 x0, Value.int .i64 x1, Value.int .i64 x2, Value.int .i64 x3], Value.agg #[Value.int .i64 x0, Value.int .i64 x1, Value.int .i64 x2, Value.int .i64 x3], Value.bool false, Value.bool false, Value.bool false, Value.int .i64 nn, Value.int .i64 nn, Value.bool false, Value.bool false, Value.bool false, Value.int .i64 e0, Value.int .i64 e0, Value.bool false, Value.bool false, Value.bool false, Value.slice (some ⟨g, 0, none⟩) L cap2, Value.slice so L cap, Value.int .i64 (L : Int), Value.int .i64 ((L : Int) + 1), Value.slice (some ⟨g, 0, none⟩) (L + 1) cap2, Value.slice so L cap, Value.int .i64 (L : Int), Value.pointer (some ⟨g, L * 4, none⟩), Value.pointer (some ⟨g, L * 4, none⟩), Value.int .i64 4242, Value.bool false, Value.bool false, Value.int .i64 (L : Int), Value.slice so L cap, Value.int .i64 (L : Int), Value.bool false, u85, u86, u87, u88, u89, u90, u91, u92, u93, u94, u95, u96, u97, u98, u99, .int .i64 0, .bool true, q102, q103, .func (.func 30) #[] lb, .agg #[.int .i64 x.1.1, .int .i64 x.1.2.1, .int .i64 x.1.2.2.1, .int .i64 x.1.2.2.2], .int .i64 x.2, undef, undef, undef, undef, undef, undef, undef, undef, undef, undef, undef, undef, undef, undef, undef, undef, undef, undef, undef, undef, undef, undef, undef, undef, undef, undef, undef, undef, undef, undef, undef, q138, q139, q140, q141, q142, q143, q144, q145, q146, q147, q148, q149, q150, q151, q152, q153, q154, q155, q156, q157, q158, q159, q160, q161, q162], defers := [] })
            (fun x a' X o hx => ?_) ?assign ?body ?done ?stop
          case assign =>
            rintro l pre x X K' hI hNx hlt hK
            gi_wp2
            refine hK _ _ (KeepsOthers.alloc _ _) (Fix.of_below ((Below.refl _ _).alloc (Nat.le_refl _) _)) ?_ ⟨X.heap.size, by omega, by simp, fun o => by simp [go_sem], rfl⟩
            have hb := (Below.refl X.heap.size X).alloc (Nat.le_refl _) (.cells #[Value.int .i64 x.1.1, .int .i64 x.1.2.1, .int .i64 x.1.2.2.1, .int .i64 x.1.2.2.2] 29)
            obtain ⟨⟨hz, h1, h2, h3, h4⟩, hB⟩ := hI
            exact ⟨⟨Nat.le_trans hz hb.size, h1, TWO X.heap.size X _ (by omega) (fun b hlt => hb.block b hlt) h2, (hb.cell (p := ⟨W.heap.size, 0, none⟩) (by simp; omega)).trans h3, (hb.frozen (p := ⟨W.heap.size, 0, none⟩) (by simp; omega)).trans h4⟩, hB.trans (hb.mono hB.size)⟩
          case body =>
            rintro l pre x a' X ⟨⟨hz, ⟨hp⟩, hT5, hat, hatf⟩, hB⟩ ⟨-, hx⟩ ⟨Bx, hBx0, hBxz, hcx, rfl⟩
            obtain ⟨⟨xl, xi, xp, xc⟩, xe⟩ := x
            have hpl : pre.length < T.length := by
              rcases Nat.lt_or_ge pre.length T.length with h | h
              · exact h
              · rw [List.getElem?_eq_none h] at hx; cases hx
            have HP := hide (show Pre T (pre ++ [((xl, xi, xp, xc), xe)]) from ⟨by
              rw [List.length_append, List.length_singleton, List.take_add_one, hx, ← hp]; rfl⟩)
            clear hp
            obtain ⟨gw, hao, hgw, c0, c1, c2, c3, c4⟩ := hT5.cells _ _ hx
            have cw : X.cell? ⟨w6.heap.size, 0, none⟩ = some (.slice (some ⟨gw, 0, none⟩) T.length vcap) := by rw [← hao]; exact hT5.want
            have ct : X.cell? ⟨bt, 0, none⟩ = some (.int .i64 0) := hT5.turn
            have cl := hT5.lv
            have x0 : X.cell? ⟨Bx, 0, none⟩ = some (.int .i64 xl) := hcx 0
            have x1 : X.cell? ⟨Bx, 1, none⟩ = some (.int .i64 xi) := hcx 1
            have x2 : X.cell? ⟨Bx, 2, none⟩ = some (.int .i64 xp) := hcx 2
            have x3 : X.cell? ⟨Bx, 3, none⟩ = some (.int .i64 xc) := hcx 3
            have NEQ := neq29
            have HTX := hide hT5
            have HBX := hide hB
            have HAO := hide hao
            have hplT : (pre.length : Int) < (T.length : Int) := by omega
            have hpl0 : (0 : Int) ≤ (pre.length : Int) := by omega
            have hge1 : decide ((T.length : Int) ≤ (pre.length : Int)) = false := by (simp; omega)
            have hge2 : decide (T.length ≤ pre.length) = false := by (simp; omega)
            have hplm : (pre.length : Int) + 1 ≤ 201 := by omega
            clear hcx hT5 hB hao hx
            have FIN := hide (show ∀ (X' : World), (∀ b, b ≠ W.heap.size → X'.heap[b]? = X.heap[b]?) → X'.heap.size = X.heap.size → KeepsOthers X X' ∧ Fix (fun i => K i ∨ V.heap.size ≤ i) X X' ∧ TW (w.heap.size + 2) (w.heap.size + 1) w6.heap.size ao vcap leave T K w5 bt (0 : Int) Ds X' from fun X' hoth hsz => ⟨⟨by omega, fun i o hi ho => (hoth i (fun e => not_rec (by rw [← e]; exact hi) ho hat)).trans hi⟩, ⟨by omega, fun i hi hl => hoth i (fun e => by
              rcases hi with hi | hi
              · have := HKI.out i hi
                omega
              · omega)⟩, TWO W.heap.size X X' hba1 (fun b hb => hoth b (by omega)) HTX.out⟩)
            by_cases hlv : (pre.length : Int) + 1 = leave
            · gi_wp2_with fail
              refine wpIn_region_quiet_round (by kernel_rfl) (by kernel_rfl) (by kernel_rfl) ?_
              repeat (gi_big_quiet_step (fail))
              refine wpQuietIn_nil ?_
              intro _ hw'
              obtain ⟨nq, hw''⟩ := hw'
              subst hw''
              gi_wp2
              have hq : (X.drewN nq).cell? ⟨W.heap.size, 0, none⟩ = some (.int .i64 (pre.length : Int)) := hat
              have U := FIN.out ((X.drewN nq).setCell ⟨W.heap.size, 0, none⟩ (.int .i64 leave)) (fun b hb => heap_setCell_other _ _ _ _ hb) (by simp)
              have UC := World.cell?_setCell_same' (X.drewN nq) ⟨W.heap.size, 0, none⟩ (.int .i64 leave) (by rw [hq]; rfl)
              have UB := (bdrewN HBX.out nq).setCell (p := ⟨W.heap.size, 0, none⟩) (by have := HBX.out.size; simp; omega) (.int .i64 leave)
              have US : V.heap.size ≤ ((X.drewN nq).setCell ⟨W.heap.size, 0, none⟩ (.int .i64 leave)).heap.size := by rw [World.size_setCell]; exact hz
              exact ⟨U.1, ⟨⟨US, rfl, U.2.2, UC⟩, UB⟩⟩
            · gi_wp2_with fail
              refine wpIn_region_quiet_round (by kernel_rfl) (by kernel_rfl) (by kernel_rfl) ?_
              repeat (gi_big_quiet_step (fail))
              refine wpQuietIn_nil ?_
              intro _ hw'
              obtain ⟨nq, hw''⟩ := hw'
              subst hw''
              gi_wp2
              have hq : (X.drewN nq).cell? ⟨W.heap.size, 0, none⟩ = some (.int .i64 (pre.length : Int)) := hat
              have U := FIN.out ((X.drewN nq).setCell ⟨W.heap.size, 0, none⟩ (.int .i64 ((pre.length : Int) + 1))) (fun b hb => heap_setCell_other _ _ _ _ hb) (by simp)
              have UC := World.cell?_setCell_same' (X.drewN nq) ⟨W.heap.size, 0, none⟩ (.int .i64 ((pre.length : Int) + 1)) (by rw [hq]; rfl)
              have UB := (bdrewN HBX.out nq).setCell (p := ⟨W.heap.size, 0, none⟩) (by have := HBX.out.size; simp; omega) (.int .i64 ((pre.length : Int) + 1))
              have US : V.heap.size ≤ ((X.drewN nq).setCell ⟨W.heap.size, 0, none⟩ (.int .i64 ((pre.length : Int) + 1))).heap.size := by rw [World.size_setCell]; exact hz
              have UE : ((pre ++ [((xl, xi, xp, xc), xe)]).length : Int) = (pre.length : Int) + 1 := by simp
              exact ⟨U.1, U.2.1, ⟨⟨US, HP.out, U.2.2, (by rw [UE]; exact UC), (by rw [World.frozen?_setCell]; exact hatf)⟩, UB⟩⟩
          case done =>
            rintro D ys X hD hys ⟨⟨hz, -, hT5, hat, hatf⟩, hB⟩ hKd
            rw [hys] at hat
            have HTX := hide hT5
            have HBX := hide hB
            have HKD := hide hKd
            have ct : X.cell? ⟨bt, 0, none⟩ = some (.int .i64 0) := hT5.turn
            have cw := hT5.want
            have cl := hT5.lv
            have hDl : D < X.heap.size := (Array.getElem?_eq_some_iff.1 hKd).1
            have DD : (0 + 1 = 1) → ∃ D1, D :: Ds = [D1] := fun _ => ⟨D, by rw [HD0.out]⟩
            clear hT5 hB hKd hys
            gi_wp2
            obtain ⟨U1, U2, U3, U4⟩ := turn_box X (.int .i64 1) 3
            have hUb := HBX.out.alloc (by exact HBX.out.size) (.cells #[.int .i64 1] 3)
            exact HK2.out _ _ ⟨X.heap.size, D :: Ds, _, _, _, _, _, _, _, _, _, _, _, _, _, _, _, _, _, _, _, _, _, _, _, _, _, _, _, _, _, _, _, by omega, by omega, (fun E hE => by
              rcases List.mem_cons.1 hE with rfl | hm
              · omega
              · have := HDS.out E hm
                omega), (HTX.out.next (B := X.heap.size) (by omega) (by omega) (by omega) (by omega) (fun E hE => by have := HDS.out E hE; omega) (fun i hi => by have := HKI.out i hi; omega) U1 U2 U3 HKD.out hDl), hUb, (fun e => by omega), (fun e => by exact DD e), (fun e => by omega), rfl⟩
          case stop =>
            rintro D c pre X hD _ ⟨⟨hz, rfl, hT, hat⟩, hB⟩ hKd
            have HTX := hide hT
            have HBX := hide hB
            have HKD := hide hKd
            have ct : X.cell? ⟨bt, 0, none⟩ = some (.int .i64 0) := hT.turn
            have cw := hT.want
            have cl := hT.lv
            have hDl : D < X.heap.size := (Array.getElem?_eq_some_iff.1 hKd).1
            have DD : (0 + 1 = 1) → ∃ D1, D :: Ds = [D1] := fun _ => ⟨D, by rw [HD0.out]⟩
            clear hT hB hKd
            rcases Decidable.em (leave = (T.length : Int)) with rfl | hlT
            all_goals
              gi_wp2
              obtain ⟨U1, U2, U3, U4⟩ := turn_box X (.int .i64 1) 3
              have hUb := HBX.out.alloc (by exact HBX.out.size) (.cells #[.int .i64 1] 3)
              exact HK2.out _ _ ⟨X.heap.size, D :: Ds, _, _, _, _, _, _, _, _, _, _, _, _, _, _, _, _, _, _, _, _, _, _, _, _, _, _, _, _, _, _, _, by omega, by omega, (fun E hE => by
                rcases List.mem_cons.1 hE with rfl | hm
                · omega
                · have := HDS.out E hm
                  omega), (HTX.out.next (B := X.heap.size) (by omega) (by omega) (by omega) (by omega) (fun E hE => by have := HDS.out E hE; omega) (fun i hi => by have := HKI.out i hi; omega) U1 U2 U3 HKD.out hDl), hUb, (fun e => by omega), (fun e => by exact DD e), (fun e => by omega), rfl⟩
          · obtain ⟨Bx, h1, h2, h3, h4⟩ := hx
            exact ⟨Bx, h1, by simpa using h2, fun o' => (World.cell?_of_block (a := ⟨Bx, o', none⟩) (World.putObj_heap_other (by simp; omega))).trans (h3 o'), h4⟩
        · obtain rfl : t = 1 := by omega
          have HD1 := hide (hd1 rfl)
          clear hd0 hd1
          have cturn : W.cell? ⟨bt, 0, none⟩ = some (.int .i64 1) := HTW.out.turn
          have HTW0 := hide (show TW (w.heap.size + 2) (w.heap.size + 1) w6.heap.size ao vcap leave T K w5 bt (1 : Int) Ds W from HTW.out)
          clear HTW
          gi_wp2_with fail
          obtain ⟨V, hV⟩ : ∃ V, V = W.alloc (.cells #[.int .i64 0] 3) := ⟨_, rfl⟩
          rw [← hV]
          have hbV : Below W.heap.size W V := by rw [hV]; exact (Below.refl _ _).alloc (Nat.le_refl _) _
          have hVz : V.heap.size = W.heap.size + 1 := by rw [hV]; simp
          have cat : V.cell? ⟨W.heap.size, 0, none⟩ = some (.int .i64 0) := by rw [hV]; simp [go_sem]
          have fat : V.frozen? ⟨W.heap.size, 0, none⟩ = false := by rw [hV]; simp [go_sem]
          have TWO : ∀ (B : Nat) (X X' : World), bt < B → (∀ b, b < B → X'.heap[b]? = X.heap[b]?) → TW (w.heap.size + 2) (w.heap.size + 1) w6.heap.size ao vcap leave T K w5 bt (1 : Int) Ds X → TW (w.heap.size + 2) (w.heap.size + 1) w6.heap.size ao vcap leave T K w5 bt (1 : Int) Ds X' := fun B X X' h1 hb h => h.old (B := B) (by omega) (by omega) (by omega) (by omega) (fun D hD => by have := HDS.out D hD; omega) (fun i hi => by have := HKI.out i hi; omega) hb
          have TWV := hide (TWO W.heap.size W V hbz (fun b h => hbV.block b h) HTW0.out)
          have HBV := hide (bstep HBW.out hbV)
          have hba1 : bt < W.heap.size := by omega
          have hba2 : V.heap.size = W.heap.size + 1 := by omega
          clear hV cturn hbV hVz HTW0 HBW
          refine range_R (n := 3) (by decide) (gf := 30) (lb := lb) rfl (enters_of Try.func30 (by kernel_rfl) rfl)
            (HSF.out V (TWV.out.toFix (by omega))) (fun i hi => by have := HKI.out i hi; omega) (Below.refl _ _) (fun _ => rfl)
            (fun pre X => (V.heap.size ≤ X.heap.size ∧ Pre T pre ∧ TW (w.heap.size + 2) (w.heap.size + 1) w6.heap.size ao vcap leave T K w5 bt (1 : Int) Ds X ∧ X.cell? ⟨W.heap.size, 0, none⟩ = some (.int .i64 (pre.length : Int)) ∧ X.frozen? ⟨W.heap.size, 0, none⟩ = false) ∧ Below w.heap.size w X)
            (fun _ _ _ => False)
            ((stays_old (fun s X X' hb hI => ⟨hI.1, TWO V.heap.size X X' (by omega) hb hI.2.1, (World.cell?_of_block (a := ⟨W.heap.size, 0, none⟩) (hb W.heap.size (by omega))).trans hI.2.2.1, (World.frozen?_of_block (a := ⟨W.heap.size, 0, none⟩) (hb W.heap.size (by omega))).trans hI.2.2.2⟩)).both (stays_below (Nat.le_refl _) (by omega)))
            (fun _ _ _ _ _ hs _ _ => hs)
            ⟨⟨Nat.le_refl _, ⟨rfl⟩, TWV.out, cat, fat⟩, HBV.out⟩
            (fun x a' X => ∃ Bx, V.heap.size + 2 ≤ Bx ∧ Bx < X.heap.size ∧ (∀ o, X.cell? ⟨Bx, o, none⟩ = (#[Value.int .i64 x.1.1, .int .i64 x.1.2.1, .int .i64 x.1.2.2.1, .int .i64 x.1.2.2.2] : Array Value)[o]?) ∧ a' = { tmps := #[Value.agg #[Value.int .i64 k, Value.int .i64 op, Value.int .i64 cl, Value.int .i64 st, Value.int .i64 sp, Value.int .i64 ex, Value.int .i64 la, Value.int .i64 fl, Value.int .i64 fa, Value.int .i64 co, Value.int .i64 ru], Value.slice so L cap, Value.int .i64 leave, Value.pointer (some ⟨w.heap.size, 0, none⟩), undef, Value.pointer (some ⟨w.heap.size + 1, 0, none⟩), Value.pointer (some ⟨w.heap.size + 1 + 1, 0, none⟩), Value.slice (some ⟨g, 0, none⟩) L cap2, Value.pointer (some ⟨w3.heap.size, 0, none⟩), Value.int .i64 nn, Value.int .i64 e0, Value.func (Fn.func 30) #[] lb, Value.pointer (some ⟨w6.heap.size, 0, none⟩), Value.pointer (some ⟨w6.heap.size + 1, 0, none⟩), Value.int .i64 nn, Value.int .i64 e0, Value.int .i64 (L : Int), .pointer (some ⟨bt, 0, none⟩), .pointer (some ⟨W.heap.size, 0, none⟩), .pointer (some ⟨Bx, 0, none⟩), .int .i64 x.2, Value.slice so L cap, Value.int .i64 (L : Int), Value.bool false, undef, Value.slice so L cap, v1, Value.agg #[Value.int .i64 4242, Value.int .i64 0, Value.int .i64 0, Value.int .i64 0], Value.slice (some ⟨wn1.heap.size, 0, none⟩) 1 1, Value.slice (some ⟨g, 0, none⟩) (L + 1) cap2, Value.slice so L cap, Value.int .i64 (L : Int), Value.slice (some ⟨g, 0, none⟩) L cap2, Value.tuple #[Value.agg #[Value.int .i64 x0, Value.int .i64 x1, Value.int .i64 x2, Value.int .i64 x3], Value.int .i64 nn, Value.int .i64 e0], Value.agg #[Value.int .i64 k, Value.int .i64 op, Value.int .i64 cl, Value.int .i64 st, Value.int .i64 sp, Value.int .i64 ex, Value.int .i64 la, Value.int .i64 fl, Value.int .i64 fa, Value.int .i64 co, Value.int .i64 ru], Value.slice (some ⟨g, 0, none⟩) L cap2, Value.tuple #[Value.agg #[Value.int .i64 x0, Value.int .i64 x1, Value.int .i64 x2, Value.int .i64 x3], Value.int .i64 nn, Value.int .i64 e0], Value.agg #[Value.int .i64 x0, Value.int .i64 x1, Value.int .i64 x2, Value.int .i64 x3], Value.int .i64 nn, Value.int .i64 e0, Value.agg #[Value.int .i64 k, Value.int .i64 op, Value.int .i64 cl, Value.int .i64 st, Value.int .i64 sp, Value.int .i64 ex, Value.int .i64 la, Value.int .i64 fl, Value.int .i64 fa, Value.int .i64 co, Value.int .i64 ru], Value.slice (some ⟨g, 0, none⟩) L cap2, Value.func (Fn.func 30) #[] lb, Value.tuple #[Value.slice ao T.length vcap, Value.agg #[Value.int .i64 x0, Value.int .i64 x1, Value.int .i64 x2, Value.int .i64 x3], Value.int .i64 nn, Value.int .i64 e0], Value.agg #[Value.int .i64 k, Value.int .i64 op, Value.int .i64 cl, Value.int .i64 st, Value.int .i64 sp, Value.int .i64 ex, Value.int .i64 la, Value.int .i64 fl, Value.int .i64 fa, Value.int .i64 co, Value.int .i64 ru], Value.slice so L cap, Value.tuple #[Value.slice ao T.length vcap, Value.agg #[Value.int .i64 x0, Value.int .i64 x1, Value.int .i64 x2, Value.int .i64 x3], Value.int .i64 nn, Value.int .i64 e0], Value.slice ao T.length vcap, Value.agg #[Value.int .i64 x0, Value.int .i64 x1, Value.int .i64 x2, Value.int .i64 x3], Value.int .i64 nn, Value.int .i64 e0, Value.func (Fn.func 30) #[] lb, Value.bool false, Value.bool false, Value.agg #[Value.int .i64 x0, Value.int .i64 x1, Value.int .i64 x2, Value.int .i64 x3], Value.agg #[Value.int .i64 x0, Value.int .i64 x1, Value.int .i64 x2, Value.int .i64 x3], Value.bool false, Value.bool false, Value.bool false, Value.int .i64 nn, Value.int .i64 nn, Value.bool false, Value.bool false, Value.bool false, Value.int .i64 e0, Value.int .i64 e0, Value.bool false, Value.bool false, Value.bool false, Value.slice (some ⟨g, 0, none⟩) L cap2, Value.slice so L cap, Value.int .i64 (L : Int), Value.int .i64 ((L : Int) + 1), Value.slice (some ⟨g, 0, none⟩) (L + 1) cap2, Value.slice so L cap, Value.int .i64 (L : Int), Value.pointer (some ⟨g, L * 4, none⟩), Value.pointer (some ⟨g, L * 4, none⟩), Value.int .i64 4242, Value.bool false, Value.bool false, Value.int .i64 (L : Int), Value.slice so L cap, Value.int .i64 (L : Int), Value.bool false, u85, u86, u87, u88, u89, u90, u91, u92, u93, u94, u95, u96, u97, u98, u99, .int .i64 1, .bool true, q102, q103, .func (.func 30) #[] lb, .agg #[.int .i64 x.1.1, .int .i64 x.1.2.1, .int .i64 x.1.2.2.1, .int .i64 x.1.2.2.2], .int .i64 x.2, undef, undef, undef, undef, undef, undef, undef, undef, undef, undef, undef, undef, undef, undef, undef, undef, undef, undef, undef, undef, undef, undef, undef, undef, undef, undef, undef, undef, undef, undef, undef, q138, q139, q140, q141, q142, q143, q144, q145, q146, q147, q148, q149, q150, q151, q152, q153, q154, q155, q156, q157, q158, q159, q160, q161, q162], defers := [] })
            (fun x a' X o hx => ?_) ?assign ?body ?done ?stop
          case assign =>
            rintro l pre x X K' hI hNx hlt hK
            gi_wp2
            refine hK _ _ (KeepsOthers.alloc _ _) (Fix.of_below ((Below.refl _ _).alloc (Nat.le_refl _) _)) ?_ ⟨X.heap.size, by omega, by simp, fun o => by simp [go_sem], rfl⟩
            have hb := (Below.refl X.heap.size X).alloc (Nat.le_refl _) (.cells #[Value.int .i64 x.1.1, .int .i64 x.1.2.1, .int .i64 x.1.2.2.1, .int .i64 x.1.2.2.2] 29)
            obtain ⟨⟨hz, h1, h2, h3, h4⟩, hB⟩ := hI
            exact ⟨⟨Nat.le_trans hz hb.size, h1, TWO X.heap.size X _ (by omega) (fun b hlt => hb.block b hlt) h2, (hb.cell (p := ⟨W.heap.size, 0, none⟩) (by simp; omega)).trans h3, (hb.frozen (p := ⟨W.heap.size, 0, none⟩) (by simp; omega)).trans h4⟩, hB.trans (hb.mono hB.size)⟩
          case body =>
            rintro l pre x a' X ⟨⟨hz, ⟨hp⟩, hT5, hat, hatf⟩, hB⟩ ⟨-, hx⟩ ⟨Bx, hBx0, hBxz, hcx, rfl⟩
            obtain ⟨⟨xl, xi, xp, xc⟩, xe⟩ := x
            have hpl : pre.length < T.length := by
              rcases Nat.lt_or_ge pre.length T.length with h | h
              · exact h
              · rw [List.getElem?_eq_none h] at hx; cases hx
            have HP := hide (show Pre T (pre ++ [((xl, xi, xp, xc), xe)]) from ⟨by
              rw [List.length_append, List.length_singleton, List.take_add_one, hx, ← hp]; rfl⟩)
            clear hp
            obtain ⟨gw, hao, hgw, c0, c1, c2, c3, c4⟩ := hT5.cells _ _ hx
            have cw : X.cell? ⟨w6.heap.size, 0, none⟩ = some (.slice (some ⟨gw, 0, none⟩) T.length vcap) := by rw [← hao]; exact hT5.want
            have ct : X.cell? ⟨bt, 0, none⟩ = some (.int .i64 1) := hT5.turn
            have cl := hT5.lv
            have x0 : X.cell? ⟨Bx, 0, none⟩ = some (.int .i64 xl) := hcx 0
            have x1 : X.cell? ⟨Bx, 1, none⟩ = some (.int .i64 xi) := hcx 1
            have x2 : X.cell? ⟨Bx, 2, none⟩ = some (.int .i64 xp) := hcx 2
            have x3 : X.cell? ⟨Bx, 3, none⟩ = some (.int .i64 xc) := hcx 3
            have NEQ := neq29
            have HTX := hide hT5
            have HBX := hide hB
            have HAO := hide hao
            have hplT : (pre.length : Int) < (T.length : Int) := by omega
            have hpl0 : (0 : Int) ≤ (pre.length : Int) := by omega
            have hge1 : decide ((T.length : Int) ≤ (pre.length : Int)) = false := by (simp; omega)
            have hge2 : decide (T.length ≤ pre.length) = false := by (simp; omega)
            have hplm : (pre.length : Int) + 1 ≤ 201 := by omega
            clear hcx hT5 hB hao hx
            have FIN := hide (show ∀ (X' : World), (∀ b, b ≠ W.heap.size → X'.heap[b]? = X.heap[b]?) → X'.heap.size = X.heap.size → KeepsOthers X X' ∧ Fix (fun i => K i ∨ V.heap.size ≤ i) X X' ∧ TW (w.heap.size + 2) (w.heap.size + 1) w6.heap.size ao vcap leave T K w5 bt (1 : Int) Ds X' from fun X' hoth hsz => ⟨⟨by omega, fun i o hi ho => (hoth i (fun e => not_rec (by rw [← e]; exact hi) ho hat)).trans hi⟩, ⟨by omega, fun i hi hl => hoth i (fun e => by
              rcases hi with hi | hi
              · have := HKI.out i hi
                omega
              · omega)⟩, TWO W.heap.size X X' hba1 (fun b hb => hoth b (by omega)) HTX.out⟩)
            gi_wp2_with fail
            refine wpIn_region_quiet_round (by kernel_rfl) (by kernel_rfl) (by kernel_rfl) ?_
            repeat (gi_big_quiet_step (fail))
            refine wpQuietIn_nil ?_
            intro _ hw'
            obtain ⟨nq, hw''⟩ := hw'
            subst hw''
            gi_wp2
            have hq : (X.drewN nq).cell? ⟨W.heap.size, 0, none⟩ = some (.int .i64 (pre.length : Int)) := hat
            have U := FIN.out ((X.drewN nq).setCell ⟨W.heap.size, 0, none⟩ (.int .i64 ((pre.length : Int) + 1))) (fun b hb => heap_setCell_other _ _ _ _ hb) (by simp)
            have UC := World.cell?_setCell_same' (X.drewN nq) ⟨W.heap.size, 0, none⟩ (.int .i64 ((pre.length : Int) + 1)) (by rw [hq]; rfl)
            have UB := (bdrewN HBX.out nq).setCell (p := ⟨W.heap.size, 0, none⟩) (by have := HBX.out.size; simp; omega) (.int .i64 ((pre.length : Int) + 1))
            have US : V.heap.size ≤ ((X.drewN nq).setCell ⟨W.heap.size, 0, none⟩ (.int .i64 ((pre.length : Int) + 1))).heap.size := by rw [World.size_setCell]; exact hz
            have UE : ((pre ++ [((xl, xi, xp, xc), xe)]).length : Int) = (pre.length : Int) + 1 := by simp
            exact ⟨U.1, U.2.1, ⟨⟨US, HP.out, U.2.2, (by rw [UE]; exact UC), (by rw [World.frozen?_setCell]; exact hatf)⟩, UB⟩⟩
          case done =>
            rintro D ys X hD hys ⟨⟨hz, -, hT5, hat, hatf⟩, hB⟩ hKd
            rw [hys] at hat
            have HTX := hide hT5
            have HBX := hide hB
            have HKD := hide hKd
            have ct : X.cell? ⟨bt, 0, none⟩ = some (.int .i64 1) := hT5.turn
            have cw := hT5.want
            have cl := hT5.lv
            have hDl : D < X.heap.size := (Array.getElem?_eq_some_iff.1 hKd).1
            have DD : (1 + 1 = 2) → ∃ D1 D2, D1 < D2 ∧ D :: Ds = [D2, D1] := fun _ => by
                        obtain ⟨D1, e1⟩ := HD1.out
                        have := HDS.out D1 (by rw [e1]; simp)
                        exact ⟨D1, D, by omega, by rw [e1]⟩
            clear hT5 hB hKd hys
            gi_wp2
            obtain ⟨U1, U2, U3, U4⟩ := turn_box X (.int .i64 2) 3
            have hUb := HBX.out.alloc (by exact HBX.out.size) (.cells #[.int .i64 2] 3)
            exact HK2.out _ _ ⟨X.heap.size, D :: Ds, _, _, _, _, _, _, _, _, _, _, _, _, _, _, _, _, _, _, _, _, _, _, _, _, _, _, _, _, _, _, _, by omega, by omega, (fun E hE => by
              rcases List.mem_cons.1 hE with rfl | hm
              · omega
              · have := HDS.out E hm
                omega), (HTX.out.next (B := X.heap.size) (by omega) (by omega) (by omega) (by omega) (fun E hE => by have := HDS.out E hE; omega) (fun i hi => by have := HKI.out i hi; omega) U1 U2 U3 HKD.out hDl), hUb, (fun e => by exact DD e), (fun e => by omega), (fun e => by omega), rfl⟩
          case stop =>
            rintro D c pre X _ _ hh _
            exact hh.elim
          · obtain ⟨Bx, h1, h2, h3, h4⟩ := hx
            exact ⟨Bx, h1, by simpa using h2, fun o' => (World.cell?_of_block (a := ⟨Bx, o', none⟩) (World.putObj_heap_other (by simp; omega))).trans (h3 o'), h4⟩
end Go.Proofs.Ytbbdneekfejjkaa.runs
