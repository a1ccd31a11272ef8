import Derived.Test.YtiopohdhadilfaaZ2
import Derived.Test.YtiopohdhadilfaaTb
namespace Go.Proofs.Ytiopohdhadilfaa.steps
open Go.ChangeShapes Go.WideShapes Go.ChangeAt Go.RowKit Go.Deep Go.Shelf
set_option linter.unusedSimpArgs false
set_option linter.unusedVariables false

attribute [local go_sem] Oper.semAt_some

abbrev encR (x : Int × Int) : Array Value := #[.int .i64 x.1, .int .i64 x.2]
/-- an iterator that answers alike wherever its own blocks lie as they lay -/
def SeqF {α : Type} (n : Nat) (P : Program) (g : Nat) (lb : Array Value) (encs : α → Array Value) (K : Nat → Prop) (T : List α) (w : World) : Prop :=
  ∀ w1, Fix K w w1 → SeqR n P g lb encs K (fun xs => xs = T) (fun pre => ∃ k, k ≤ T.length ∧ pre = T.take k) (fun pre x => pre = T.take pre.length ∧ T[pre.length]? = some x) w1
def AllAns (T : List (Int × Int)) (w : World) (e : Ending) (w' : World) : Prop :=
  ∃ lb K, e = .returned (.func (.func 34) #[] lb) ∧ (∀ i, K i → w.heap.size ≤ i ∧ i < w'.heap.size) ∧ (∀ n, 1 ≤ n → SeqF n Try.prog 34 lb encR K T w') ∧ Below w.heap.size w w'
set_option maxHeartbeats 1000000 in
theorem Steps_c (k op cl st sp ex la fl fa co ru : Int) (w : World) : Calls Try.prog 17 #[.agg #[.int .i64 k, .int .i64 op, .int .i64 cl, .int .i64 st, .int .i64 sp, .int .i64 ex, .int .i64 la, .int .i64 fl, .int .i64 fa, .int .i64 co, .int .i64 ru]] w fun e w' => e = .returned (.func (.func 34) #[] #[.pointer (some ⟨w.heap.size, 0, none⟩)]) ∧ w' = w.alloc (.cells #[Value.int .i64 k, Value.int .i64 op, Value.int .i64 cl, Value.int .i64 st, Value.int .i64 sp, Value.int .i64 ex, Value.int .i64 la, Value.int .i64 fl, Value.int .i64 fa, Value.int .i64 co, Value.int .i64 ru] 25) := by
  go_enter Try.func17, Try.ntmps17
  go_wp2
  refine bodyPost_ret (v := .func (.func 34) #[] #[.pointer (some ⟨w.heap.size, 0, none⟩)]) (by simp [results, Try.f17, go_sem]) rfl ⟨rfl, rfl⟩
theorem Steps_yes (k op cl st sp ex la fl fa co ru : Int) (T : Nat) (w : World) (h : LotOK k op cl st sp ex la fl fa co ru) (hT : IsK k op cl st sp ex la fl fa co ru T) : Calls Try.prog 17 #[.agg #[.int .i64 k, .int .i64 op, .int .i64 cl, .int .i64 st, .int .i64 sp, .int .i64 ex, .int .i64 la, .int .i64 fl, .int .i64 fa, .int .i64 co, .int .i64 ru]] w (AllAns (upto (stp k op cl st sp ex la fl fa co ru) T) w) := by
  refine (Steps_c k op cl st sp ex la fl fa co ru w).mono ?_
  rintro e w' ⟨rfl, rfl⟩
  refine ⟨_, fun i => i = w.heap.size, rfl, fun i hi => by (subst hi; simp), ?_, (Below.refl _ _).alloc (Nat.le_refl _) _⟩
  intro n hn w1 hF l J Jx W hbW hJ hJx hY h0
  have hF2 := hF.trans (.of_below hbW)
  refine (steps_ok n hn l w.heap.size (fun i => i = w.heap.size) k op cl st sp ex la fl fa co ru T h hT W J Jx (fun pre x V hv hnx => hY pre x V hv ?_) hJ hJx rfl (by have := hF2.size; simp at this; omega) (fun o => (hF2.cell (p := ⟨w.heap.size, o, none⟩) rfl (by simp)).trans (by simp [go_sem])) h0).mono ?_
  · obtain ⟨j, hj, rfl, rfl⟩ := hnx
    rw [upto_length, upto_take _ _ _ (by omega), upto_get _ _ _ hj]
    exact ⟨rfl, rfl⟩
  · rintro e V' ⟨hv, ⟨xs, hS, hj⟩ | ⟨pre, ⟨k, hk, hp⟩, hx⟩⟩
    · exact ⟨hv, .inl ⟨xs, hS, hj⟩⟩
    · exact ⟨hv, .inr ⟨pre, ⟨k, by rw [upto_length]; omega, by rw [upto_take _ _ _ hk]; exact hp⟩, hx⟩⟩
theorem Steps_no (k op cl st sp ex la fl fa co ru : Int) (w : World) (h : ¬ LotOK k op cl st sp ex la fl fa co ru) : Calls Try.prog 17 #[.agg #[.int .i64 k, .int .i64 op, .int .i64 cl, .int .i64 st, .int .i64 sp, .int .i64 ex, .int .i64 la, .int .i64 fl, .int .i64 fa, .int .i64 co, .int .i64 ru]] w (AllAns [] w) := by
  refine (Steps_c k op cl st sp ex la fl fa co ru w).mono ?_
  rintro e w' ⟨rfl, rfl⟩
  refine ⟨_, fun i => i = w.heap.size, rfl, fun i hi => by (subst hi; simp), ?_, (Below.refl _ _).alloc (Nat.le_refl _) _⟩
  intro n hn w1 hF l J Jx W hbW hJ hJx hY h0
  have hF2 := hF.trans (.of_below hbW)
  exact (steps_no n hn l w.heap.size k op cl st sp ex la fl fa co ru h W J (fun W' => ∃ pre, (∃ k, k ≤ ([] : List (Int × Int)).length ∧ pre = ([] : List (Int × Int)).take k) ∧ Jx pre W') hJ (fun o => (hF2.cell (p := ⟨w.heap.size, o, none⟩) rfl (by simp)).trans (by simp [go_sem])) h0)
set_option maxHeartbeats 1000000 in
theorem ref_no (k op cl st sp ex la fl fa co ru : Int) (w : World) (h : ¬ LotOK k op cl st sp ex la fl fa co ru) : Calls Try.prog 18 #[.agg #[.int .i64 k, .int .i64 op, .int .i64 cl, .int .i64 st, .int .i64 sp, .int .i64 ex, .int .i64 la, .int .i64 fl, .int .i64 fa, .int .i64 co, .int .i64 ru], .int .i64 301] w fun e w' => e = .returned (.slice none 0 0) ∧ Below w.heap.size w w' := by
  go_enter Try.func18, Try.ntmps18
  go_wp2_with fail
  refine (rcheck_no k op cl st sp ex la fl fa co ru _ h).mono ?_
  rintro e w1 ⟨rfl, hb1⟩
  have HB1 := hide (show Below w.heap.size w w1 from bstep (by (focus repeat' (first | (with_reducible exact Below.refl _ _) | (with_reducible assumption) | (with_reducible refine Below.alloc ?_ ?_ _) | (with_reducible refine Below.drew ?_) | (with_reducible refine bdrewN ?_ _) | (with_reducible refine Below.setCell ?_ ?_ _) | (first | (with_reducible exact Nat.le_refl _) | (with_reducible assumption) | omega | (simp; omega) | (simp; done))))) hb1)
  clear hb1
  go_wp2
  refine bodyPost_ret (v := .slice none 0 0) (by simp [results, Try.f18, go_sem]) rfl ⟨rfl, HB1.out⟩
theorem eql45 (lb : Array Value) (w : World) : Sem.run Try.prog (binOp .eql 45 (.func (.func 34) #[] lb) .nilFunc) w = .ok (.bool false) w := by kernel_rfl
theorem stays_old {β : Type} {B : Nat} {I : β → World → Prop} (h : ∀ s W W', (∀ b, b < B → W'.heap[b]? = W.heap[b]?) → I s W → I s W') : Stays B (fun s W => B ≤ W.heap.size ∧ I s W) :=
  fun s W W' row hs hg hr => ⟨Nat.le_trans hs.1 hg.size, h s W W' (fun b hb => hg.block b (Nat.lt_of_lt_of_le hb hs.1) (fun e => by have := hr b e.symm; omega)) hs.2⟩
theorem not_rec {W : World} {i off : Nat} {o : Obj} {u : Value} (hi : W.heap[i]? = some o) (ho : o.isCells = false) (hc : W.cell? ⟨i, off, none⟩ = some u) : False := by
  simp only [World.cell?, hi] at hc
  cases o <;> simp_all [Obj.isCells]
/-- so far it is T's beginning -/
structure Pre (T pre : List (Int × Int)) : Prop where
  eq : pre = T.take pre.length
theorem loop_turns {F : Fence} {n : Nat} {P : Program} {Q : Exit → Act → World → Prop} {c : Code} (m : Nat) (I : Nat → Act → World → Prop)
    (round : ∀ t, t < m → ∀ a w, I t a w → ∀ K : Act → World → Prop, (∀ a' w', I (t + 1) a' w' → K a' w') → c.wpIn F n P (Exit.then K Q) a w)
    (last : ∀ a w, I m a w → ∀ K : Act → World → Prop, c.wpIn F n P (Exit.then K Q) a w) {a : Act} {w : World} (h0 : I 0 a w) : (Code.loop c).wpIn F n P Q a w := by
  have key : ∀ k t, t + k = m → ∀ a w, I t a w → Code.roundsIn F n P c Q (k + 1) a w := by
    intro k
    induction k with
    | zero =>
      intro t ht a w h
      obtain rfl : t = m := by omega
      exact last a w h _
    | succ k ih =>
      intro t ht a w h
      exact round t (by omega) a w h _ (fun a' w' h' => ih (t + 1) (by omega) a' w' h')
  exact wpIn_loop_rounds (m + 1) (key m 0 (by omega) a w h0)
def mk (D : Nat) : Deferred := { target := .collected D, args := #[] }
/-- what the turns lean on -/
structure TW (rb lb wb : Nat) (ao : Option Addr) (vcap : Nat) (leave : Int) (T : List (Int × Int)) (M : Nat) (K : Nat → Prop) (w5 : World) (bt : Nat) (t : Int) (Ds : List Nat) (W : World) : Prop where
  lv : W.cell? ⟨lb, 0, none⟩ = some (.int .i64 leave)
  res : W.cell? ⟨rb, 0, none⟩ = some (.bool false)
  resf : W.frozen? ⟨rb, 0, none⟩ = false
  want : W.cell? ⟨wb, 0, none⟩ = some (.slice ao M vcap)
  cells : ∀ i x, i < M → T[i]? = some x → ∃ gw, ao = some ⟨gw, 0, none⟩ ∧ gw < wb ∧ W.cell? ⟨gw, i * 2, none⟩ = some (.int .i64 x.1) ∧ W.cell? ⟨gw, i * 2 + 1, none⟩ = some (.int .i64 x.2)
  turn : W.cell? ⟨bt, 0, none⟩ = some (.int .i64 t)
  turnf : W.frozen? ⟨bt, 0, none⟩ = false
  marks : ∀ D, D ∈ Ds → W.heap[D]? = some (.deferred (some []))
  fix : ∀ i, K i → W.heap[i]? = w5.heap[i]?
theorem TW.old {rb lb wb : Nat} {ao : Option Addr} {vcap : Nat} {leave : Int} {T : List (Int × Int)} {M : Nat} {K : Nat → Prop} {w5 : World} {bt : Nat} {t : Int} {Ds : List Nat} {B : Nat} {W W' : World} (h : TW rb lb wb ao vcap leave T M K w5 bt t Ds W)
    (h1 : rb < B) (h2 : lb < B) (h3 : wb < B) (h4 : bt < B) (hD : ∀ D, D ∈ Ds → D < B) (hK : ∀ i, K i → i < B) (hb : ∀ b, b < B → W'.heap[b]? = W.heap[b]?) : TW rb lb wb ao vcap leave T M K w5 bt t Ds W' :=
  ⟨(World.cell?_of_block (a := ⟨lb, 0, none⟩) (hb _ h2)).trans h.lv, (World.cell?_of_block (a := ⟨rb, 0, none⟩) (hb _ h1)).trans h.res, (World.frozen?_of_block (a := ⟨rb, 0, none⟩) (hb _ h1)).trans h.resf, (World.cell?_of_block (a := ⟨wb, 0, none⟩) (hb _ h3)).trans h.want,
    fun i x hiM hx => by
      obtain ⟨gw, e, hlt, c0, c1⟩ := h.cells i x hiM hx
      have hg := hb gw (by omega)
      exact ⟨gw, e, hlt, (World.cell?_of_block (a := ⟨gw, i * 2, none⟩) hg).trans c0, (World.cell?_of_block (a := ⟨gw, i * 2 + 1, none⟩) hg).trans c1⟩,
    (World.cell?_of_block (a := ⟨bt, 0, none⟩) (hb _ h4)).trans h.turn, (World.frozen?_of_block (a := ⟨bt, 0, none⟩) (hb _ h4)).trans h.turnf, fun D hm => (hb D (hD D hm)).trans (h.marks D hm), fun i hi => (hb i (hK i hi)).trans (h.fix i hi)⟩
theorem TW.next {rb lb wb : Nat} {ao : Option Addr} {vcap : Nat} {leave : Int} {T : List (Int × Int)} {M : Nat} {K : Nat → Prop} {w5 : World} {bt : Nat} {t : Int} {Ds : List Nat} {B : Nat} {W W' : World} (h : TW rb lb wb ao vcap leave T M K w5 bt t Ds W)
    (h1 : rb < B) (h2 : lb < B) (h3 : wb < B) (h4 : bt < B) (hD : ∀ D, D ∈ Ds → D < B) (hK : ∀ i, K i → i < B) (hb : ∀ b, b < B → W'.heap[b]? = W.heap[b]?) {bt' : Nat} {t' : Int} (hc : W'.cell? ⟨bt', 0, none⟩ = some (.int .i64 t')) (hf : W'.frozen? ⟨bt', 0, none⟩ = false) {D : Nat} (hd : W.heap[D]? = some (.deferred (some []))) (hdB : D < B) : TW rb lb wb ao vcap leave T M K w5 bt' t' (D :: Ds) W' :=
  have q := h.old h1 h2 h3 h4 hD hK hb
  ⟨q.lv, q.res, q.resf, q.want, q.cells, hc, hf, fun E hE => by
    rcases List.mem_cons.1 hE with rfl | hm
    · exact (hb _ hdB).trans hd
    · exact q.marks E hm, q.fix⟩
theorem turn_box (X : World) (b : Value) (e : TypeId) : (∀ k, k < X.heap.size → (X.alloc (.cells #[b] e)).heap[k]? = X.heap[k]?) ∧ (X.alloc (.cells #[b] e)).cell? ⟨X.heap.size, 0, none⟩ = some b ∧ (X.alloc (.cells #[b] e)).frozen? ⟨X.heap.size, 0, none⟩ = false ∧ (X.alloc (.cells #[b] e)).heap.size = X.heap.size + 1 :=
  ⟨fun k hk => ((Below.refl _ X).alloc (Nat.le_refl _) _).block k hk, by simp [go_sem], by simp [go_sem], by simp⟩
theorem TW.toFix {rb lb wb : Nat} {ao : Option Addr} {vcap : Nat} {leave : Int} {T : List (Int × Int)} {M : Nat} {K : Nat → Prop} {w5 : World} {bt : Nat} {t : Int} {Ds : List Nat} {W : World} (h : TW rb lb wb ao vcap leave T M K w5 bt t Ds W) (hs : w5.heap.size ≤ W.heap.size) : Fix K w5 W :=
  ⟨hs, fun i hi _ => h.fix i hi⟩
theorem flat2_len (f : Nat → Int × Int) : ∀ k, (flat2 f k).length = k * 2
  | 0 => rfl
  | k + 1 => by rw [flat2_succ, List.length_append, flat2_len f k]; simp [stepc]; omega
theorem flat2_at (f : Nat → Int × Int) (k : Nat) : ∀ j c, j < k → c < 2 → (flat2 f k)[j * 2 + c]? = (stepc (f j))[c]? := by
  induction k with
  | zero => intro j c h; omega
  | succ k ih =>
    intro j c h hc
    rw [flat2_succ]
    rcases Nat.lt_or_ge j k with q | q
    · rw [List.getElem?_append_left (by rw [flat2_len]; omega)]
      exact ih j c q hc
    · obtain rfl : j = k := by omega
      rw [List.getElem?_append_right (by rw [flat2_len]; omega), flat2_len]
      congr 1
      omega
theorem want_cells {W : World} {n0 : Nat} {ao : Option Addr} {vcap M : Nat} {f : Nat → Int × Int} (own : W.ownsRow n0 50 2 (.slice ao M vcap) M (flat2 f M)) : ∀ i, i < M → ∃ gw, ao = some ⟨gw, 0, none⟩ ∧ gw < W.heap.size ∧ W.cell? ⟨gw, i * 2, none⟩ = some (.int .i64 (f i).1) ∧ W.cell? ⟨gw, i * 2 + 1, none⟩ = some (.int .i64 (f i).2) := by
  intro i hi
  rcases own.2 with ⟨_, h0⟩ | ⟨g, c, cur, hv, _⟩
  · omega
  · obtain ⟨rfl, rfl⟩ : ao = some ⟨g, 0, none⟩ ∧ vcap = c := by (injection hv with e1 e2 e3; exact ⟨e1, e3⟩)
    have cell : ∀ c, c < 2 → W.cell? ⟨g, i * 2 + c, none⟩ = (stepc (f i))[c]? := fun c hc => by
      rw [own.cellAt (i * 2 + c) (by omega)]
      exact flat2_at f M i c hi hc
    exact ⟨g, rfl, (own.lt g rfl).2, cell 0 (by decide), cell 1 (by decide)⟩

set_option maxRecDepth 1000000 in
set_option maxHeartbeats 4000000 in
theorem FSteps_main (k op cl st sp ex la fl fa co ru leave : Int) (f : Nat → Int × Int) (T : List (Int × Int)) (M E : Nat) (w : World) (hM : M ≤ 301) (hME : (M < 300 ∧ E = M) ∨ (300 ≤ M ∧ E = 300)) (hTM : M = T.length ∨ (M = 301 ∧ 301 ≤ T.length)) (hTf : ∀ i x, T[i]? = some x → x = f i)
    (hall : ∀ w, Calls Try.prog 17 #[.agg #[.int .i64 k, .int .i64 op, .int .i64 cl, .int .i64 st, .int .i64 sp, .int .i64 ex, .int .i64 la, .int .i64 fl, .int .i64 fa, .int .i64 co, .int .i64 ru]] w (AllAns T w))
    (href : ∀ w, Calls Try.prog 18 #[.agg #[.int .i64 k, .int .i64 op, .int .i64 cl, .int .i64 st, .int .i64 sp, .int .i64 ex, .int .i64 la, .int .i64 fl, .int .i64 fa, .int .i64 co, .int .i64 ru], .int .i64 301] w fun e w' => (∃ vo, e = .returned vo ∧ w'.ownsRow w.heap.size 50 2 vo M (flat2 f M)) ∧ Below w.heap.size w w') : Calls Try.prog 5 #[.agg #[.int .i64 k, .int .i64 op, .int .i64 cl, .int .i64 st, .int .i64 sp, .int .i64 ex, .int .i64 la, .int .i64 fl, .int .i64 fa, .int .i64 co, .int .i64 ru], .int .i64 leave] w fun e w' => e = .returned (.bool true) ∧ Below w.heap.size w w' := by
  refine (callsIn_wide (n := 3)).1 ?_
  refine callsIn_of_wp_marks Try.func5 rfl trivial ?_ rfl
  simp only [Try.ntmps5, List.size_toArray, List.length_cons, List.length_nil, Nat.reduceAdd, Nat.reduceSub, Array.replicate_succ, Array.replicate_zero, List.push_toArray, List.append_toArray, List.nil_append, List.cons_append]
  gi_wp2_with fail
  obtain ⟨W0, hW0⟩ : ∃ W0, W0 = ((w.alloc (.cells #[Value.int .i64 k, Value.int .i64 op, Value.int .i64 cl, Value.int .i64 st, Value.int .i64 sp, Value.int .i64 ex, Value.int .i64 la, Value.int .i64 fl, Value.int .i64 fa, Value.int .i64 co, Value.int .i64 ru] 25)).alloc (.cells #[.int .i64 leave] 3)).alloc (.cells #[.bool false] 4) := ⟨_, rfl⟩
  rw [← hW0]
  have hb0 : Below w.heap.size w W0 := by rw [hW0]; (focus repeat' (first | (with_reducible exact Below.refl _ _) | (with_reducible assumption) | (with_reducible refine Below.alloc ?_ ?_ _) | (with_reducible refine Below.drew ?_) | (with_reducible refine bdrewN ?_ _) | (with_reducible refine Below.setCell ?_ ?_ _) | (first | (with_reducible exact Nat.le_refl _) | (with_reducible assumption) | omega | (simp; omega) | (simp; done))))
  have hz : W0.heap.size = w.heap.size + 3 := by rw [hW0]; simp
  have HL0 := hide (show ∀ o, W0.cell? ⟨w.heap.size, o, none⟩ = (#[Value.int .i64 k, Value.int .i64 op, Value.int .i64 cl, Value.int .i64 st, Value.int .i64 sp, Value.int .i64 ex, Value.int .i64 la, Value.int .i64 fl, Value.int .i64 fa, Value.int .i64 co, Value.int .i64 ru] : Array Value)[o]? from fun o => by rw [hW0]; simp [go_sem])
  have HV0 := hide (show W0.cell? ⟨w.heap.size + 1, 0, none⟩ = some (.int .i64 leave) from by rw [hW0]; simp [go_sem])
  have HR0 := hide (show W0.cell? ⟨w.heap.size + 2, 0, none⟩ = some (.bool false) from by rw [hW0]; simp [go_sem])
  have FR0 := hide (show W0.frozen? ⟨w.heap.size + 2, 0, none⟩ = false from by rw [hW0]; simp [go_sem])
  have HB0 := hide hb0
  clear hW0 hb0
  refine (callsIn_wide.2 (hall _)).mono ?_
  rintro e w5 ⟨lb, K, rfl, hK, hseq, hb5⟩
  have HB5 := hide hb5
  have HBB5 := hide (bstep HB0.out hb5)
  have hz5 := hb5.size
  have HKK := hide hK
  have HSQ := hide (hseq 2 (by decide))
  have HL5 := hide (fun o => (hb5.cell (p := ⟨w.heap.size, o, none⟩) (by simp; omega)).trans (HL0.out o))
  have m0 : w5.cell? ⟨w.heap.size, 0, none⟩ = some (.int .i64 k) := HL5.out 0
  have m1 : w5.cell? ⟨w.heap.size, 1, none⟩ = some (.int .i64 op) := HL5.out 1
  have m2 : w5.cell? ⟨w.heap.size, 2, none⟩ = some (.int .i64 cl) := HL5.out 2
  have m3 : w5.cell? ⟨w.heap.size, 3, none⟩ = some (.int .i64 st) := HL5.out 3
  have m4 : w5.cell? ⟨w.heap.size, 4, none⟩ = some (.int .i64 sp) := HL5.out 4
  have m5 : w5.cell? ⟨w.heap.size, 5, none⟩ = some (.int .i64 ex) := HL5.out 5
  have m6 : w5.cell? ⟨w.heap.size, 6, none⟩ = some (.int .i64 la) := HL5.out 6
  have m7 : w5.cell? ⟨w.heap.size, 7, none⟩ = some (.int .i64 fl) := HL5.out 7
  have m8 : w5.cell? ⟨w.heap.size, 8, none⟩ = some (.int .i64 fa) := HL5.out 8
  have m9 : w5.cell? ⟨w.heap.size, 9, none⟩ = some (.int .i64 co) := HL5.out 9
  have m10 : w5.cell? ⟨w.heap.size, 10, none⟩ = some (.int .i64 ru) := HL5.out 10
  have hwl : w.heap.size < w5.heap.size := by omega
  clear hb5 hK hseq
  have Q := eql45
  gi_wp2_with fail
  refine (callsIn_wide.2 (href _)).mono ?_
  rintro e w6 ⟨⟨vo, rfl, ownv⟩, hb6⟩
  obtain ⟨ao, vcap, rfl⟩ := own_any ownv
  have hz6 := hb6.size
  have HB6 := hide hb6
  have HBB6 := hide (bstep HBB5.out hb6)
  have HOV := hide ownv
  clear hb6 ownv Q m0 m1 m2 m3 m4 m5 m6 m7 m8 m9 m10
  gi_wp2_with fail
  obtain ⟨w8, hw8⟩ : ∃ w8, w8 = (w6.alloc (.cells #[.slice ao M vcap] 47)).alloc (.cells #[.int .i64 0] 3) := ⟨_, rfl⟩
  rw [← hw8]
  have hb8 : Below w6.heap.size w6 w8 := by rw [hw8]; exact ((Below.refl _ _).alloc (Nat.le_refl _) _).alloc (by simp) _
  have hz8 : w8.heap.size = w6.heap.size + 2 := by rw [hw8]; simp
  have hq68 : ∀ b, b < w6.heap.size → w8.heap[b]? = w6.heap[b]? := fun b hb => hb8.block b hb
  have hq08 : ∀ b, b < W0.heap.size → w8.heap[b]? = W0.heap[b]? := fun b hb => (hq68 b (by omega)).trans ((HB6.out.block b (by omega)).trans (HB5.out.block b hb))
  have TW8 : TW (w.heap.size + 2) (w.heap.size + 1) w6.heap.size ao vcap leave T M K w5 (w6.heap.size + 1) ((0 : Nat) : Int) [] w8 := ⟨(World.cell?_of_block (a := ⟨w.heap.size + 1, 0, none⟩) (hq08 _ (by simp; omega))).trans HV0.out, (World.cell?_of_block (a := ⟨w.heap.size + 2, 0, none⟩) (hq08 _ (by simp; omega))).trans HR0.out,
    (World.frozen?_of_block (a := ⟨w.heap.size + 2, 0, none⟩) (hq08 _ (by simp; omega))).trans FR0.out, by rw [hw8]; simp [go_sem],
    fun i x hiM hx => by
      obtain ⟨gw, e, hlt, c0, c1⟩ := want_cells HOV.out i hiM
      rw [hTf i x hx]
      exact ⟨gw, e, hlt, (World.cell?_of_block (a := ⟨gw, i * 2, none⟩) (hq68 gw hlt)).trans c0, (World.cell?_of_block (a := ⟨gw, i * 2 + 1, none⟩) (hq68 gw hlt)).trans c1⟩,
    by rw [hw8]; simp [go_sem], by rw [hw8]; simp [go_sem], (fun D hD => by cases hD),
    fun i hi => (hq68 i (by have := HKK.out i hi; omega)).trans (HB6.out.block i (HKK.out i hi).2)⟩
  have HB8 := hide (bstep HBB6.out hb8)
  have HSF := hide HSQ.out
  have HKI := hide (show ∀ i, K i → i < w5.heap.size from fun i hi => (HKK.out i hi).2)
  have HME := hide hME
  have hTM' : M ≤ T.length := by omega
  clear hw8 hb8 hq68 hq08 hall href HL0 HL5 HV0 HR0 FR0 HB0 HB5 HB6 HOV HSQ HKK hME
  refine loop_turns 2 (fun t a W => ∃ (bt : Nat) (Ds : List Nat) (q8 q11 q18 q19 q20 q21 q22 q60 q61 q62 q63 q64 q65 q66 q67 q68 q69 q70 q71 q72 q73 q74 q75 q76 q77 q78 q79 q80 q81 q82 q83 q84 q85 q86 q87 q88 q89 : Value), w6.heap.size < bt ∧ bt < W.heap.size ∧ (∀ D, D ∈ Ds → w.heap.size + 3 ≤ D ∧ D < bt) ∧ TW (w.heap.size + 2) (w.heap.size + 1) w6.heap.size ao vcap leave T M K w5 bt (t : Int) Ds W ∧ Below w.heap.size w W ∧ (t = 2 → ∃ D1 D2, D1 < D2 ∧ Ds = [D2, D1]) ∧ (t = 1 → ∃ D1, Ds = [D1]) ∧ (t = 0 → Ds = []) ∧ a = { tmps := #[Value.agg #[Value.int .i64 k, Value.int .i64 op, Value.int .i64 cl, Value.int .i64 st, Value.int .i64 sp, Value.int .i64 ex, Value.int .i64 la, Value.int .i64 fl, Value.int .i64 fa, Value.int .i64 co, Value.int .i64 ru], Value.int .i64 leave, Value.pointer (some ⟨w.heap.size, 0, none⟩), Value.pointer (some ⟨w.heap.size + 1, 0, none⟩), Value.pointer (some ⟨w.heap.size + 1 + 1, 0, none⟩), Value.func (Fn.func 34) #[] lb, Value.pointer (some ⟨w6.heap.size, 0, none⟩), .pointer (some ⟨bt, 0, none⟩), q8, undef, undef, q11, Value.agg #[Value.int .i64 k, Value.int .i64 op, Value.int .i64 cl, Value.int .i64 st, Value.int .i64 sp, Value.int .i64 ex, Value.int .i64 la, Value.int .i64 fl, Value.int .i64 fa, Value.int .i64 co, Value.int .i64 ru], Value.func (Fn.func 34) #[] lb, Value.func (Fn.func 34) #[] lb, Value.bool false, Value.agg #[Value.int .i64 k, Value.int .i64 op, Value.int .i64 cl, Value.int .i64 st, Value.int .i64 sp, Value.int .i64 ex, Value.int .i64 la, Value.int .i64 fl, Value.int .i64 fa, Value.int .i64 co, Value.int .i64 ru], Value.slice ao M vcap, q18, q19, q20, q21, q22, undef, undef, undef, undef, undef, undef, undef, undef, undef, undef, undef, undef, undef, undef, undef, undef, undef, undef, undef, undef, undef, undef, undef, undef, undef, undef, undef, undef, undef, undef, undef, undef, undef, undef, undef, undef, undef, q60, q61, q62, q63, q64, q65, q66, q67, q68, q69, q70, q71, q72, q73, q74, q75, q76, q77, q78, q79, q80, q81, q82, q83, q84, q85, q86, q87, q88, q89, undef], defers := Ds.map mk }) ?round ?last
    ⟨w6.heap.size + 1, [], _, _, _, _, _, _, _, _, _, _, _, _, _, _, _, _, _, _, _, _, _, _, _, _, _, _, _, _, _, _, _, _, _, _, _, _, _, by omega, by omega, (fun D hD => by cases hD), TW8, HB8.out, (fun e => by cases e), (fun e => by cases e), (fun _ => rfl), rfl⟩
  case last =>
    rintro a W ⟨bt, Ds, q8, q11, q18, q19, q20, q21, q22, q60, q61, q62, q63, q64, q65, q66, q67, q68, q69, q70, q71, q72, q73, q74, q75, q76, q77, q78, q79, q80, q81, q82, q83, q84, q85, q86, q87, q88, q89, hbt, hbz, hDs, hTW, hB, hd2, -, -, rfl⟩ K2
    obtain ⟨D1, D2, hD12, rfl⟩ := hd2 rfl
    have HDS := hide hDs
    have HTW := hide hTW
    have HBW := hide hB
    have cturn : W.cell? ⟨bt, 0, none⟩ = some (.int .i64 2) := hTW.turn
    have hk1 := hTW.marks D1 (by simp)
    have hk2 := hTW.marks D2 (by simp)
    have hD1 := hDs D1 (by simp)
    have hD2 := hDs D2 (by simp)
    clear hTW hB hDs hd2
    gi_wp2_with fail
    refine (callsIn_wide.2 (known_any _)).mono ?_
    rintro e w9 ⟨rfl, hb9⟩
    have c9 := (hb9.cell (p := ⟨w.heap.size + 2, 0, none⟩) (by simp; omega)).trans HTW.out.res
    have f9 := (hb9.frozen (p := ⟨w.heap.size + 2, 0, none⟩) (by simp; omega)).trans HTW.out.resf
    have k1 := (hb9.block D1 (by omega)).trans hk1
    have k2 := (hb9.block D2 (by omega)).trans hk2
    have K1 := hide k1
    have K2 := hide k2
    have HB9 := hide (bstep HBW.out hb9)
    clear hb9 hk1 hk2 k1 k2 cturn
    gi_wp2
    have q1 := (KeepsOthers.setCell w9 ⟨w.heap.size + 2, 0, none⟩ (.bool true)).same D1 _ K1.out rfl
    have q2 := (KeepsOthers.setCell w9 ⟨w.heap.size + 2, 0, none⟩ (.bool true)).same D2 _ K2.out rfl
    have hc5 := cell_kept (World.cell?_setCell_same' w9 ⟨w.heap.size + 2, 0, none⟩ (.bool true) (by rw [c9]; rfl)) (grownBy_putObj' _ D2 (.deferred none)) (fun r e => by cases e; exact ⟨_, q2, rfl⟩)
    have q1' := (World.putObj_heap_other (w := w9.setCell ⟨w.heap.size + 2, 0, none⟩ (.bool true)) (o := .deferred none) (show D1 ≠ D2 by omega)).trans q1
    have hc6 := cell_kept hc5 (grownBy_putObj' _ D1 (.deferred none)) (fun r e => by cases e; exact ⟨_, q1', rfl⟩)
    refine ⟨by simp, .inl ⟨_, _, rfl, run_takeDeferred q2, ?_⟩⟩
    refine ⟨by simp, .inl ⟨_, _, rfl, run_takeDeferred q1', ?_⟩⟩
    refine ⟨.bool true, ?_, rfl, ((HB9.out.setCell (p := ⟨w.heap.size + 2, 0, none⟩) (by simp) _).trans (belowK_b (w := w) (Nat.le_refl _) _ D2 _ _ (by omega) q2 rfl rfl)).trans (belowK_b (w := w) (Nat.le_refl _) _ D1 _ _ (by omega) q1' rfl rfl)⟩
    simp [results, Try.f5, go_sem, hc6]
  case round =>
    rintro t ht a W ⟨bt, Ds, q8, q11, q18, q19, q20, q21, q22, q60, q61, q62, q63, q64, q65, q66, q67, q68, q69, q70, q71, q72, q73, q74, q75, q76, q77, q78, q79, q80, q81, q82, q83, q84, q85, q86, q87, q88, q89, hbt, hbz, hDs, hTW, hB, -, hd1, hd0, rfl⟩ K2 hK2
    have HDS := hide hDs
    have HTW := hide hTW
    have HBW := hide hB
    have HK2 := hide hK2
    clear hTW hB hDs hK2
    rcases Nat.lt_or_ge t 1 with h1 | h1
    · obtain rfl : t = 0 := by omega
      have HD0 := hide (hd0 rfl)
      clear hd0 hd1
      have cturn : W.cell? ⟨bt, 0, none⟩ = some (.int .i64 0) := HTW.out.turn
      have HTW0 := hide (show TW (w.heap.size + 2) (w.heap.size + 1) w6.heap.size ao vcap leave T M K w5 bt (0 : Int) Ds W from HTW.out)
      clear HTW
      gi_wp2_with fail
      obtain ⟨V, hV⟩ : ∃ V, V = W.alloc (.cells #[.int .i64 0] 3) := ⟨_, rfl⟩
      rw [← hV]
      have hbV : Below W.heap.size W V := by rw [hV]; exact (Below.refl _ _).alloc (Nat.le_refl _) _
      have hVz : V.heap.size = W.heap.size + 1 := by rw [hV]; simp
      have cat : V.cell? ⟨W.heap.size, 0, none⟩ = some (.int .i64 0) := by rw [hV]; simp [go_sem]
      have fat : V.frozen? ⟨W.heap.size, 0, none⟩ = false := by rw [hV]; simp [go_sem]
      have TWO : ∀ (B : Nat) (X X' : World), bt < B → (∀ b, b < B → X'.heap[b]? = X.heap[b]?) → TW (w.heap.size + 2) (w.heap.size + 1) w6.heap.size ao vcap leave T M K w5 bt (0 : Int) Ds X → TW (w.heap.size + 2) (w.heap.size + 1) w6.heap.size ao vcap leave T M K w5 bt (0 : Int) Ds X' := fun B X X' h1 hb h => h.old (B := B) (by omega) (by omega) (by omega) (by omega) (fun D hD => by have := HDS.out D hD; omega) (fun i hi => by have := HKI.out i hi; omega) hb
      have TWV := hide (TWO W.heap.size W V hbz (fun b h => hbV.block b h) HTW0.out)
      have HBV := hide (bstep HBW.out hbV)
      have hba1 : bt < W.heap.size := by omega
      have hba2 : V.heap.size ≤ W.heap.size + 1 := by omega
      have hba3 : W.heap.size + 1 ≤ V.heap.size := by omega
      clear hV cturn hbV hVz HTW0 HBW
      refine range_R (n := 3) (by decide) (gf := 34) (lb := lb) rfl (enters_of Try.func34 (by kernel_rfl) rfl)
        (HSF.out V (TWV.out.toFix (by omega))) (fun i hi => by have := HKI.out i hi; omega) (Below.refl _ _) (fun _ => rfl)
        (fun pre X => (V.heap.size ≤ X.heap.size ∧ Pre T pre ∧ pre.length < 300 ∧ (leave ≤ 0 ∨ (pre.length : Int) < leave) ∧ TW (w.heap.size + 2) (w.heap.size + 1) w6.heap.size ao vcap leave T M K w5 bt (0 : Int) Ds X ∧ X.cell? ⟨W.heap.size, 0, none⟩ = some (.int .i64 (pre.length : Int)) ∧ X.frozen? ⟨W.heap.size, 0, none⟩ = false) ∧ Below w.heap.size w X)
        (fun c pre X => (V.heap.size ≤ X.heap.size ∧ c = .exit 2 ∧ TW (w.heap.size + 2) (w.heap.size + 1) w6.heap.size ao vcap leave T M K w5 bt (0 : Int) Ds X ∧ ∃ r : Int, X.cell? ⟨W.heap.size, 0, none⟩ = some (.int .i64 r) ∧ ((0 < leave ∧ leave ≤ (E : Int) ∧ r = leave) ∨ (0 < leave ∧ (E : Int) < leave ∧ r = (E : Int)) ∨ (leave ≤ 0 ∧ r = (E : Int)))) ∧ Below w.heap.size w X)
        ((stays_old (fun s X X' hb hI => ⟨hI.1, hI.2.1, hI.2.2.1, TWO V.heap.size X X' (by omega) hb hI.2.2.2.1, (World.cell?_of_block (a := ⟨W.heap.size, 0, none⟩) (hb W.heap.size (by omega))).trans hI.2.2.2.2.1, (World.frozen?_of_block (a := ⟨W.heap.size, 0, none⟩) (hb W.heap.size (by omega))).trans hI.2.2.2.2.2⟩)).both (stays_below (Nat.le_refl _) (by omega)))
        (fun c => (stays_old (fun s X X' hb hI => ⟨hI.1, TWO V.heap.size X X' (by omega) hb hI.2.1, by (obtain ⟨r, hr, hs⟩ := hI.2.2; exact ⟨r, (World.cell?_of_block (a := ⟨W.heap.size, 0, none⟩) (hb W.heap.size (by omega))).trans hr, hs⟩)⟩)).both (stays_below (Nat.le_refl _) (by omega)))
        ⟨⟨Nat.le_refl _, ⟨rfl⟩, by decide, (by simp; omega),  TWV.out, cat, fat⟩, HBV.out⟩
        (fun x a' X => a' = { tmps := #[Value.agg #[Value.int .i64 k, Value.int .i64 op, Value.int .i64 cl, Value.int .i64 st, Value.int .i64 sp, Value.int .i64 ex, Value.int .i64 la, Value.int .i64 fl, Value.int .i64 fa, Value.int .i64 co, Value.int .i64 ru], Value.int .i64 leave, Value.pointer (some ⟨w.heap.size, 0, none⟩), Value.pointer (some ⟨w.heap.size + 1, 0, none⟩), Value.pointer (some ⟨w.heap.size + 1 + 1, 0, none⟩), Value.func (Fn.func 34) #[] lb, Value.pointer (some ⟨w6.heap.size, 0, none⟩), .pointer (some ⟨bt, 0, none⟩), .pointer (some ⟨W.heap.size, 0, none⟩), .int .i64 x.1, .int .i64 x.2, q11, Value.agg #[Value.int .i64 k, Value.int .i64 op, Value.int .i64 cl, Value.int .i64 st, Value.int .i64 sp, Value.int .i64 ex, Value.int .i64 la, Value.int .i64 fl, Value.int .i64 fa, Value.int .i64 co, Value.int .i64 ru], Value.func (Fn.func 34) #[] lb, Value.func (Fn.func 34) #[] lb, Value.bool false, Value.agg #[Value.int .i64 k, Value.int .i64 op, Value.int .i64 cl, Value.int .i64 st, Value.int .i64 sp, Value.int .i64 ex, Value.int .i64 la, Value.int .i64 fl, Value.int .i64 fa, Value.int .i64 co, Value.int .i64 ru], Value.slice ao M vcap, .int .i64 0, .bool true, q20, q21, Value.func (Fn.func 34) #[] lb, .int .i64 x.1, .int .i64 x.2, undef, undef, undef, undef, undef, undef, undef, undef, undef, undef, undef, undef, undef, undef, undef, undef, undef, undef, undef, undef, undef, undef, undef, undef, undef, undef, undef, undef, undef, undef, undef, undef, undef, undef, undef, q60, q61, q62, q63, q64, q65, q66, q67, q68, q69, q70, q71, q72, q73, q74, q75, q76, q77, q78, q79, q80, q81, q82, q83, q84, q85, q86, q87, q88, q89, undef], defers := [] })
        (fun x a' X o hx => hx) ?assign ?body ?done ?stop
      case assign =>
        rintro l pre x X K' hI hNx hlt hK
        gi_wp2
        exact hK _ _ (KeepsOthers.refl _) (Fix.of_below (Below.refl _ _)) hI rfl
      case body =>
        rintro l pre x a' X ⟨⟨hz, ⟨hp⟩, hl3, hinv, hT5, hat, hatf⟩, hB⟩ ⟨-, hx⟩ rfl
        obtain ⟨xl, xp⟩ := x
        have hpl : pre.length < T.length := by
          rcases Nat.lt_or_ge pre.length T.length with h | h
          · exact h
          · rw [List.getElem?_eq_none h] at hx; cases hx
        have hpM : pre.length < M := by omega
        have hEE : (M < 300 ∧ E = M) ∨ (300 ≤ M ∧ E = 300) := HME.out
        have HP := hide (show Pre T (pre ++ [(xl, xp)]) from ⟨by
          rw [List.length_append, List.length_singleton, List.take_add_one, hx, ← hp]; rfl⟩)
        clear hp
        obtain ⟨gw, hao, hgw, c0, c1⟩ := hT5.cells _ _ hpM hx
        have cw : X.cell? ⟨w6.heap.size, 0, none⟩ = some (.slice (some ⟨gw, 0, none⟩) M vcap) := by rw [← hao]; exact hT5.want
        have ct : X.cell? ⟨bt, 0, none⟩ = some (.int .i64 0) := hT5.turn
        have cl' := hT5.lv
        have HTX := hide hT5
        have HBX := hide hB
        have HAO := hide hao
        have hplT : (pre.length : Int) < (M : Int) := by omega
        have hpl0 : (0 : Int) ≤ (pre.length : Int) := by omega
        have hge1 : decide ((M : Int) ≤ (pre.length : Int)) = false := by (simp; omega)
        have hge2 : decide (M ≤ pre.length) = false := by (simp; omega)
        have hplm : (pre.length : Int) + 1 ≤ 301 := by omega
        clear hT5 hB hao hx
        have FIN := hide (show ∀ (X' : World), (∀ b, b ≠ W.heap.size → X'.heap[b]? = X.heap[b]?) → X'.heap.size = X.heap.size → KeepsOthers X X' ∧ Fix (fun i => K i ∨ V.heap.size ≤ i) X X' ∧ TW (w.heap.size + 2) (w.heap.size + 1) w6.heap.size ao vcap leave T M K w5 bt (0 : Int) Ds X' from fun X' hoth hsz => ⟨⟨by omega, fun i o hi ho => (hoth i (fun e => not_rec (by rw [← e]; exact hi) ho hat)).trans hi⟩, ⟨by omega, fun i hi hl => hoth i (fun e => by
          rcases hi with hi | hi
          · have := HKI.out i hi
            omega
          · omega)⟩, TWO W.heap.size X X' hba1 (fun b hb => hoth b (by omega)) HTX.out⟩)
        by_cases hlv : (pre.length : Int) + 1 = leave
        · have HLV := hide (show (pre.length : Int) + 1 = leave ∧ pre.length + 1 ≤ E from ⟨hlv, by omega⟩)
          have b1 : decide ((pre.length : Int) + 1 = leave) = true := by (simp; omega)
          have b2 : ((pre.length : Int) + 1 == leave) = true := by (simp; omega)
          clear hlv hinv
          gi_wp2
          have hq : X.cell? ⟨W.heap.size, 0, none⟩ = some (.int .i64 (pre.length : Int)) := hat
          have U := FIN.out (X.setCell ⟨W.heap.size, 0, none⟩ (.int .i64 ((pre.length : Int) + 1))) (fun b hb => heap_setCell_other _ _ _ _ hb) (by simp)
          have UC := World.cell?_setCell_same' X ⟨W.heap.size, 0, none⟩ (.int .i64 ((pre.length : Int) + 1)) (by rw [hq]; rfl)
          have UB := HBX.out.setCell (p := ⟨W.heap.size, 0, none⟩) (by have := HBX.out.size; simp; omega) (.int .i64 ((pre.length : Int) + 1))
          have US : V.heap.size ≤ (X.setCell ⟨W.heap.size, 0, none⟩ (.int .i64 ((pre.length : Int) + 1))).heap.size := by rw [World.size_setCell]; exact hz
          exact ⟨U.1, ⟨⟨US, rfl, U.2.2, _, UC, by have := HLV.out; omega⟩, UB⟩⟩
        · have hlv2 : leave ≤ 0 ∨ (pre.length : Int) + 1 < leave := by omega
          by_cases he : pre.length = 299
          · have HLV := hide (show (leave ≤ 0 ∨ (pre.length : Int) + 1 < leave) ∧ pre.length = 299 ∧ E = 300 from ⟨hlv2, he, by omega⟩)
            have b1 : decide ((pre.length : Int) + 1 = leave) = false := by (simp; omega)
            have b2 : ((pre.length : Int) + 1 == leave) = false := by (simp; omega)
            have b3 : decide ((pre.length : Int) + 1 = 300) = true := by (simp; omega)
            have b4 : ((pre.length : Int) + 1 == 300) = true := by (simp; omega)
            clear hlv hinv he hlv2
            gi_wp2
            have hq : X.cell? ⟨W.heap.size, 0, none⟩ = some (.int .i64 (pre.length : Int)) := hat
            have U := FIN.out (X.setCell ⟨W.heap.size, 0, none⟩ (.int .i64 ((pre.length : Int) + 1))) (fun b hb => heap_setCell_other _ _ _ _ hb) (by simp)
            have UC := World.cell?_setCell_same' X ⟨W.heap.size, 0, none⟩ (.int .i64 ((pre.length : Int) + 1)) (by rw [hq]; rfl)
            have UB := HBX.out.setCell (p := ⟨W.heap.size, 0, none⟩) (by have := HBX.out.size; simp; omega) (.int .i64 ((pre.length : Int) + 1))
            have US : V.heap.size ≤ (X.setCell ⟨W.heap.size, 0, none⟩ (.int .i64 ((pre.length : Int) + 1))).heap.size := by rw [World.size_setCell]; exact hz
            exact ⟨U.1, ⟨⟨US, rfl, U.2.2, _, UC, by have := HLV.out; omega⟩, UB⟩⟩
          · have HLV := hide (show (leave ≤ 0 ∨ (pre.length : Int) + 1 < leave) ∧ pre.length + 1 < 300 from ⟨hlv2, by omega⟩)
            have b1 : decide ((pre.length : Int) + 1 = leave) = false := by (simp; omega)
            have b2 : ((pre.length : Int) + 1 == leave) = false := by (simp; omega)
            have b3 : decide ((pre.length : Int) + 1 = 300) = false := by (simp; omega)
            have b4 : ((pre.length : Int) + 1 == 300) = false := by (simp; omega)
            clear hlv hinv he hlv2
            gi_wp2
            have hq : X.cell? ⟨W.heap.size, 0, none⟩ = some (.int .i64 (pre.length : Int)) := hat
            have U := FIN.out (X.setCell ⟨W.heap.size, 0, none⟩ (.int .i64 ((pre.length : Int) + 1))) (fun b hb => heap_setCell_other _ _ _ _ hb) (by simp)
            have UC := World.cell?_setCell_same' X ⟨W.heap.size, 0, none⟩ (.int .i64 ((pre.length : Int) + 1)) (by rw [hq]; rfl)
            have UB := HBX.out.setCell (p := ⟨W.heap.size, 0, none⟩) (by have := HBX.out.size; simp; omega) (.int .i64 ((pre.length : Int) + 1))
            have US : V.heap.size ≤ (X.setCell ⟨W.heap.size, 0, none⟩ (.int .i64 ((pre.length : Int) + 1))).heap.size := by rw [World.size_setCell]; exact hz
            have UE : ((pre ++ [(xl, xp)]).length : Int) = (pre.length : Int) + 1 := by simp
            have UE2 : (pre ++ [(xl, xp)]).length = pre.length + 1 := by simp
            exact ⟨U.1, U.2.1, ⟨⟨US, HP.out, (by rw [UE2]; have := HLV.out; omega), (by rw [UE]; have := HLV.out; omega), U.2.2, (by rw [UE]; exact UC), (by rw [World.frozen?_setCell]; exact hatf)⟩, UB⟩⟩
      case done =>
        rintro D ys X hD hys ⟨⟨hz, -, hl3, hinv, hT5, hat, hatf⟩, hB⟩ hKd
        rw [hys] at hat hl3 hinv
        have HTX := hide hT5
        have HBX := hide hB
        have HKD := hide hKd
        have ct : X.cell? ⟨bt, 0, none⟩ = some (.int .i64 0) := hT5.turn
        have cw := hT5.want
        have cl' := hT5.lv
        have hDl : D < X.heap.size := (Array.getElem?_eq_some_iff.1 hKd).1
        have DD : (0 + 1 = 1) → ∃ D1, D :: Ds = [D1] := fun _ => ⟨D, by rw [HD0.out]⟩
        clear hT5 hB hKd hys
        have hEE : (M < 300 ∧ E = M) ∨ (300 ≤ M ∧ E = 300) := HME.out
        obtain ⟨r, hr⟩ : ∃ r : Int, (T.length : Int) = r := ⟨_, rfl⟩
        rw [hr] at hat
        have hs : ((0 < leave ∧ leave ≤ (E : Int) ∧ r = leave) ∨ (0 < leave ∧ (E : Int) < leave ∧ r = (E : Int)) ∨ (leave ≤ 0 ∧ r = (E : Int))) := by omega
        clear hr hl3 hEE hinv
        rcases HME.out with ⟨hm, rfl⟩ | ⟨hm, rfl⟩
        · have hmi : (E : Int) < 300 := by omega
          rcases hs with ⟨s1, s2, rfl⟩ | ⟨s1, s2, rfl⟩ | ⟨s1, rfl⟩
          all_goals
            gi_wp2
            obtain ⟨U1, U2, U3, U4⟩ := turn_box X (.int .i64 1) 3
            have hUb := HBX.out.alloc (by exact HBX.out.size) (.cells #[.int .i64 1] 3)
            exact HK2.out _ _ ⟨X.heap.size, D :: Ds, _, _, _, _, _, _, _, _, _, _, _, _, _, _, _, _, _, _, _, _, _, _, _, _, _, _, _, _, _, _, _, _, _, _, _, _, _, by omega, by omega, (fun E hE => by
              rcases List.mem_cons.1 hE with rfl | hm
              · omega
              · have := HDS.out E hm
                omega), (HTX.out.next (B := X.heap.size) (by omega) (by omega) (by omega) (by omega) (fun E hE => by have := HDS.out E hE; omega) (fun i hi => by have := HKI.out i hi; omega) U1 U2 U3 HKD.out hDl), hUb, (fun e => by omega), (fun e => by exact DD e), (fun e => by omega), rfl⟩
        · have hmi : (300 : Int) ≤ (M : Int) := by omega
          have h300 : ((300 : Nat) : Int) = 300 := rfl
          rw [h300] at hs
          clear h300
          rcases hs with ⟨s1, s2, rfl⟩ | ⟨s1, s2, rfl⟩ | ⟨s1, rfl⟩
          all_goals
            gi_wp2
            obtain ⟨U1, U2, U3, U4⟩ := turn_box X (.int .i64 1) 3
            have hUb := HBX.out.alloc (by exact HBX.out.size) (.cells #[.int .i64 1] 3)
            exact HK2.out _ _ ⟨X.heap.size, D :: Ds, _, _, _, _, _, _, _, _, _, _, _, _, _, _, _, _, _, _, _, _, _, _, _, _, _, _, _, _, _, _, _, _, _, _, _, _, _, by omega, by omega, (fun E hE => by
              rcases List.mem_cons.1 hE with rfl | hm
              · omega
              · have := HDS.out E hm
                omega), (HTX.out.next (B := X.heap.size) (by omega) (by omega) (by omega) (by omega) (fun E hE => by have := HDS.out E hE; omega) (fun i hi => by have := HKI.out i hi; omega) U1 U2 U3 HKD.out hDl), hUb, (fun e => by omega), (fun e => by exact DD e), (fun e => by omega), rfl⟩
      case stop =>
        rintro D c pre X hD _ ⟨⟨hz, rfl, hT, r, hat, hs⟩, hB⟩ hKd
        have HTX := hide hT
        have HBX := hide hB
        have HKD := hide hKd
        have ct : X.cell? ⟨bt, 0, none⟩ = some (.int .i64 0) := hT.turn
        have cw := hT.want
        have cl' := hT.lv
        have hDl : D < X.heap.size := (Array.getElem?_eq_some_iff.1 hKd).1
        have DD : (0 + 1 = 1) → ∃ D1, D :: Ds = [D1] := fun _ => ⟨D, by rw [HD0.out]⟩
        clear hT hB hKd
        rcases HME.out with ⟨hm, rfl⟩ | ⟨hm, rfl⟩
        · have hmi : (E : Int) < 300 := by omega
          rcases hs with ⟨s1, s2, rfl⟩ | ⟨s1, s2, rfl⟩ | ⟨s1, rfl⟩
          all_goals
            gi_wp2
            obtain ⟨U1, U2, U3, U4⟩ := turn_box X (.int .i64 1) 3
            have hUb := HBX.out.alloc (by exact HBX.out.size) (.cells #[.int .i64 1] 3)
            exact HK2.out _ _ ⟨X.heap.size, D :: Ds, _, _, _, _, _, _, _, _, _, _, _, _, _, _, _, _, _, _, _, _, _, _, _, _, _, _, _, _, _, _, _, _, _, _, _, _, _, by omega, by omega, (fun E hE => by
              rcases List.mem_cons.1 hE with rfl | hm
              · omega
              · have := HDS.out E hm
                omega), (HTX.out.next (B := X.heap.size) (by omega) (by omega) (by omega) (by omega) (fun E hE => by have := HDS.out E hE; omega) (fun i hi => by have := HKI.out i hi; omega) U1 U2 U3 HKD.out hDl), hUb, (fun e => by omega), (fun e => by exact DD e), (fun e => by omega), rfl⟩
        · have hmi : (300 : Int) ≤ (M : Int) := by omega
          have h300 : ((300 : Nat) : Int) = 300 := rfl
          rw [h300] at hs
          clear h300
          rcases hs with ⟨s1, s2, rfl⟩ | ⟨s1, s2, rfl⟩ | ⟨s1, rfl⟩
          all_goals
            gi_wp2
            obtain ⟨U1, U2, U3, U4⟩ := turn_box X (.int .i64 1) 3
            have hUb := HBX.out.alloc (by exact HBX.out.size) (.cells #[.int .i64 1] 3)
            exact HK2.out _ _ ⟨X.heap.size, D :: Ds, _, _, _, _, _, _, _, _, _, _, _, _, _, _, _, _, _, _, _, _, _, _, _, _, _, _, _, _, _, _, _, _, _, _, _, _, _, by omega, by omega, (fun E hE => by
              rcases List.mem_cons.1 hE with rfl | hm
              · omega
              · have := HDS.out E hm
                omega), (HTX.out.next (B := X.heap.size) (by omega) (by omega) (by omega) (by omega) (fun E hE => by have := HDS.out E hE; omega) (fun i hi => by have := HKI.out i hi; omega) U1 U2 U3 HKD.out hDl), hUb, (fun e => by omega), (fun e => by exact DD e), (fun e => by omega), rfl⟩
    · obtain rfl : t = 1 := by omega
      have HD1 := hide (hd1 rfl)
      clear hd0 hd1
      have cturn : W.cell? ⟨bt, 0, none⟩ = some (.int .i64 1) := HTW.out.turn
      have HTW0 := hide (show TW (w.heap.size + 2) (w.heap.size + 1) w6.heap.size ao vcap leave T M K w5 bt (1 : Int) Ds W from HTW.out)
      clear HTW
      gi_wp2_with fail
      obtain ⟨V, hV⟩ : ∃ V, V = W.alloc (.cells #[.int .i64 0] 3) := ⟨_, rfl⟩
      rw [← hV]
      have hbV : Below W.heap.size W V := by rw [hV]; exact (Below.refl _ _).alloc (Nat.le_refl _) _
      have hVz : V.heap.size = W.heap.size + 1 := by rw [hV]; simp
      have cat : V.cell? ⟨W.heap.size, 0, none⟩ = some (.int .i64 0) := by rw [hV]; simp [go_sem]
      have fat : V.frozen? ⟨W.heap.size, 0, none⟩ = false := by rw [hV]; simp [go_sem]
      have TWO : ∀ (B : Nat) (X X' : World), bt < B → (∀ b, b < B → X'.heap[b]? = X.heap[b]?) → TW (w.heap.size + 2) (w.heap.size + 1) w6.heap.size ao vcap leave T M K w5 bt (1 : Int) Ds X → TW (w.heap.size + 2) (w.heap.size + 1) w6.heap.size ao vcap leave T M K w5 bt (1 : Int) Ds X' := fun B X X' h1 hb h => h.old (B := B) (by omega) (by omega) (by omega) (by omega) (fun D hD => by have := HDS.out D hD; omega) (fun i hi => by have := HKI.out i hi; omega) hb
      have TWV := hide (TWO W.heap.size W V hbz (fun b h => hbV.block b h) HTW0.out)
      have HBV := hide (bstep HBW.out hbV)
      have hba1 : bt < W.heap.size := by omega
      have hba2 : V.heap.size ≤ W.heap.size + 1 := by omega
      have hba3 : W.heap.size + 1 ≤ V.heap.size := by omega
      clear hV cturn hbV hVz HTW0 HBW
      refine range_R (n := 3) (by decide) (gf := 34) (lb := lb) rfl (enters_of Try.func34 (by kernel_rfl) rfl)
        (HSF.out V (TWV.out.toFix (by omega))) (fun i hi => by have := HKI.out i hi; omega) (Below.refl _ _) (fun _ => rfl)
        (fun pre X => (V.heap.size ≤ X.heap.size ∧ Pre T pre ∧ pre.length < 300 ∧ TW (w.heap.size + 2) (w.heap.size + 1) w6.heap.size ao vcap leave T M K w5 bt (1 : Int) Ds X ∧ X.cell? ⟨W.heap.size, 0, none⟩ = some (.int .i64 (pre.length : Int)) ∧ X.frozen? ⟨W.heap.size, 0, none⟩ = false) ∧ Below w.heap.size w X)
        (fun c pre X => (V.heap.size ≤ X.heap.size ∧ c = .exit 2 ∧ TW (w.heap.size + 2) (w.heap.size + 1) w6.heap.size ao vcap leave T M K w5 bt (1 : Int) Ds X ∧ X.cell? ⟨W.heap.size, 0, none⟩ = some (.int .i64 (E : Int))) ∧ Below w.heap.size w X)
        ((stays_old (fun s X X' hb hI => ⟨hI.1, hI.2.1, TWO V.heap.size X X' (by omega) hb hI.2.2.1, (World.cell?_of_block (a := ⟨W.heap.size, 0, none⟩) (hb W.heap.size (by omega))).trans hI.2.2.2.1, (World.frozen?_of_block (a := ⟨W.heap.size, 0, none⟩) (hb W.heap.size (by omega))).trans hI.2.2.2.2⟩)).both (stays_below (Nat.le_refl _) (by omega)))
        (fun c => (stays_old (fun s X X' hb hI => ⟨hI.1, TWO V.heap.size X X' (by omega) hb hI.2.1, (World.cell?_of_block (a := ⟨W.heap.size, 0, none⟩) (hb W.heap.size (by omega))).trans hI.2.2⟩)).both (stays_below (Nat.le_refl _) (by omega)))
        ⟨⟨Nat.le_refl _, ⟨rfl⟩, by decide,  TWV.out, cat, fat⟩, HBV.out⟩
        (fun x a' X => a' = { tmps := #[Value.agg #[Value.int .i64 k, Value.int .i64 op, Value.int .i64 cl, Value.int .i64 st, Value.int .i64 sp, Value.int .i64 ex, Value.int .i64 la, Value.int .i64 fl, Value.int .i64 fa, Value.int .i64 co, Value.int .i64 ru], Value.int .i64 leave, Value.pointer (some ⟨w.heap.size, 0, none⟩), Value.pointer (some ⟨w.heap.size + 1, 0, none⟩), Value.pointer (some ⟨w.heap.size + 1 + 1, 0, none⟩), Value.func (Fn.func 34) #[] lb, Value.pointer (some ⟨w6.heap.size, 0, none⟩), .pointer (some ⟨bt, 0, none⟩), .pointer (some ⟨W.heap.size, 0, none⟩), .int .i64 x.1, .int .i64 x.2, q11, Value.agg #[Value.int .i64 k, Value.int .i64 op, Value.int .i64 cl, Value.int .i64 st, Value.int .i64 sp, Value.int .i64 ex, Value.int .i64 la, Value.int .i64 fl, Value.int .i64 fa, Value.int .i64 co, Value.int .i64 ru], Value.func (Fn.func 34) #[] lb, Value.func (Fn.func 34) #[] lb, Value.bool false, Value.agg #[Value.int .i64 k, Value.int .i64 op, Value.int .i64 cl, Value.int .i64 st, Value.int .i64 sp, Value.int .i64 ex, Value.int .i64 la, Value.int .i64 fl, Value.int .i64 fa, Value.int .i64 co, Value.int .i64 ru], Value.slice ao M vcap, .int .i64 1, .bool true, q20, q21, Value.func (Fn.func 34) #[] lb, .int .i64 x.1, .int .i64 x.2, undef, undef, undef, undef, undef, undef, undef, undef, undef, undef, undef, undef, undef, undef, undef, undef, undef, undef, undef, undef, undef, undef, undef, undef, undef, undef, undef, undef, undef, undef, undef, undef, undef, undef, undef, q60, q61, q62, q63, q64, q65, q66, q67, q68, q69, q70, q71, q72, q73, q74, q75, q76, q77, q78, q79, q80, q81, q82, q83, q84, q85, q86, q87, q88, q89, undef], defers := [] })
        (fun x a' X o hx => hx) ?assign ?body ?done ?stop
      case assign =>
        rintro l pre x X K' hI hNx hlt hK
        gi_wp2
        exact hK _ _ (KeepsOthers.refl _) (Fix.of_below (Below.refl _ _)) hI rfl
      case body =>
        rintro l pre x a' X ⟨⟨hz, ⟨hp⟩, hl3, hT5, hat, hatf⟩, hB⟩ ⟨-, hx⟩ rfl
        obtain ⟨xl, xp⟩ := x
        have hpl : pre.length < T.length := by
          rcases Nat.lt_or_ge pre.length T.length with h | h
          · exact h
          · rw [List.getElem?_eq_none h] at hx; cases hx
        have hpM : pre.length < M := by omega
        have hEE : (M < 300 ∧ E = M) ∨ (300 ≤ M ∧ E = 300) := HME.out
        have HP := hide (show Pre T (pre ++ [(xl, xp)]) from ⟨by
          rw [List.length_append, List.length_singleton, List.take_add_one, hx, ← hp]; rfl⟩)
        clear hp
        obtain ⟨gw, hao, hgw, c0, c1⟩ := hT5.cells _ _ hpM hx
        have cw : X.cell? ⟨w6.heap.size, 0, none⟩ = some (.slice (some ⟨gw, 0, none⟩) M vcap) := by rw [← hao]; exact hT5.want
        have ct : X.cell? ⟨bt, 0, none⟩ = some (.int .i64 1) := hT5.turn
        have cl' := hT5.lv
        have HTX := hide hT5
        have HBX := hide hB
        have HAO := hide hao
        have hplT : (pre.length : Int) < (M : Int) := by omega
        have hpl0 : (0 : Int) ≤ (pre.length : Int) := by omega
        have hge1 : decide ((M : Int) ≤ (pre.length : Int)) = false := by (simp; omega)
        have hge2 : decide (M ≤ pre.length) = false := by (simp; omega)
        have hplm : (pre.length : Int) + 1 ≤ 301 := by omega
        clear hT5 hB hao hx
        have FIN := hide (show ∀ (X' : World), (∀ b, b ≠ W.heap.size → X'.heap[b]? = X.heap[b]?) → X'.heap.size = X.heap.size → KeepsOthers X X' ∧ Fix (fun i => K i ∨ V.heap.size ≤ i) X X' ∧ TW (w.heap.size + 2) (w.heap.size + 1) w6.heap.size ao vcap leave T M K w5 bt (1 : Int) Ds X' from fun X' hoth hsz => ⟨⟨by omega, fun i o hi ho => (hoth i (fun e => not_rec (by rw [← e]; exact hi) ho hat)).trans hi⟩, ⟨by omega, fun i hi hl => hoth i (fun e => by
          rcases hi with hi | hi
          · have := HKI.out i hi
            omega
          · omega)⟩, TWO W.heap.size X X' hba1 (fun b hb => hoth b (by omega)) HTX.out⟩)
        by_cases he : pre.length = 299
        · have HLV := hide (show pre.length = 299 ∧ E = 300 from ⟨he, by omega⟩)
          have b3 : decide ((pre.length : Int) + 1 = 300) = true := by (simp; omega)
          have b4 : ((pre.length : Int) + 1 == 300) = true := by (simp; omega)
          clear he
          gi_wp2
          have hq : X.cell? ⟨W.heap.size, 0, none⟩ = some (.int .i64 (pre.length : Int)) := hat
          have U := FIN.out (X.setCell ⟨W.heap.size, 0, none⟩ (.int .i64 ((pre.length : Int) + 1))) (fun b hb => heap_setCell_other _ _ _ _ hb) (by simp)
          have UC := World.cell?_setCell_same' X ⟨W.heap.size, 0, none⟩ (.int .i64 ((pre.length : Int) + 1)) (by rw [hq]; rfl)
          have UB := HBX.out.setCell (p := ⟨W.heap.size, 0, none⟩) (by have := HBX.out.size; simp; omega) (.int .i64 ((pre.length : Int) + 1))
          have US : V.heap.size ≤ (X.setCell ⟨W.heap.size, 0, none⟩ (.int .i64 ((pre.length : Int) + 1))).heap.size := by rw [World.size_setCell]; exact hz
          exact ⟨U.1, ⟨⟨US, rfl, U.2.2, (by rw [show (E : Int) = (pre.length : Int) + 1 by have := HLV.out; omega]; exact UC)⟩, UB⟩⟩
        · have HLV := hide (show pre.length + 1 < 300 from by omega)
          have b3 : decide ((pre.length : Int) + 1 = 300) = false := by (simp; omega)
          have b4 : ((pre.length : Int) + 1 == 300) = false := by (simp; omega)
          clear he
          gi_wp2
          have hq : X.cell? ⟨W.heap.size, 0, none⟩ = some (.int .i64 (pre.length : Int)) := hat
          have U := FIN.out (X.setCell ⟨W.heap.size, 0, none⟩ (.int .i64 ((pre.length : Int) + 1))) (fun b hb => heap_setCell_other _ _ _ _ hb) (by simp)
          have UC := World.cell?_setCell_same' X ⟨W.heap.size, 0, none⟩ (.int .i64 ((pre.length : Int) + 1)) (by rw [hq]; rfl)
          have UB := HBX.out.setCell (p := ⟨W.heap.size, 0, none⟩) (by have := HBX.out.size; simp; omega) (.int .i64 ((pre.length : Int) + 1))
          have US : V.heap.size ≤ (X.setCell ⟨W.heap.size, 0, none⟩ (.int .i64 ((pre.length : Int) + 1))).heap.size := by rw [World.size_setCell]; exact hz
          have UE : ((pre ++ [(xl, xp)]).length : Int) = (pre.length : Int) + 1 := by simp
          have UE2 : (pre ++ [(xl, xp)]).length = pre.length + 1 := by simp
          exact ⟨U.1, U.2.1, ⟨⟨US, HP.out, (by rw [UE2]; have := HLV.out; omega), U.2.2, (by rw [UE]; exact UC), (by rw [World.frozen?_setCell]; exact hatf)⟩, UB⟩⟩
      case done =>
        rintro D ys X hD hys ⟨⟨hz, -, hl3, hT5, hat, hatf⟩, hB⟩ hKd
        rw [hys] at hat hl3
        have HTX := hide hT5
        have HBX := hide hB
        have HKD := hide hKd
        have ct : X.cell? ⟨bt, 0, none⟩ = some (.int .i64 1) := hT5.turn
        have cw := hT5.want
        have cl' := hT5.lv
        have hDl : D < X.heap.size := (Array.getElem?_eq_some_iff.1 hKd).1
        have DD : (1 + 1 = 2) → ∃ D1 D2, D1 < D2 ∧ D :: Ds = [D2, D1] := fun _ => by
          obtain ⟨D1, e1⟩ := HD1.out
          have := HDS.out D1 (by rw [e1]; simp)
          exact ⟨D1, D, by omega, by rw [e1]⟩
        clear hT5 hB hKd hys
        have hEE : (M < 300 ∧ E = M) ∨ (300 ≤ M ∧ E = 300) := HME.out
        obtain ⟨r, hr⟩ : ∃ r : Int, (T.length : Int) = r := ⟨_, rfl⟩
        rw [hr] at hat
        have hs : r = (E : Int) := by omega
        clear hr hl3 hEE
        rcases HME.out with ⟨hm, rfl⟩ | ⟨hm, rfl⟩
        · have hmi : (E : Int) < 300 := by omega
          subst hs
          gi_wp2
          obtain ⟨U1, U2, U3, U4⟩ := turn_box X (.int .i64 2) 3
          have hUb := HBX.out.alloc (by exact HBX.out.size) (.cells #[.int .i64 2] 3)
          exact HK2.out _ _ ⟨X.heap.size, D :: Ds, _, _, _, _, _, _, _, _, _, _, _, _, _, _, _, _, _, _, _, _, _, _, _, _, _, _, _, _, _, _, _, _, _, _, _, _, _, by omega, by omega, (fun E hE => by
            rcases List.mem_cons.1 hE with rfl | hm
            · omega
            · have := HDS.out E hm
              omega), (HTX.out.next (B := X.heap.size) (by omega) (by omega) (by omega) (by omega) (fun E hE => by have := HDS.out E hE; omega) (fun i hi => by have := HKI.out i hi; omega) U1 U2 U3 HKD.out hDl), hUb, (fun e => by exact DD e), (fun e => by omega), (fun e => by omega), rfl⟩
        · have hmi : (300 : Int) ≤ (M : Int) := by omega
          have h300 : ((300 : Nat) : Int) = 300 := rfl
          rw [h300] at hs
          clear h300
          subst hs
          gi_wp2
          obtain ⟨U1, U2, U3, U4⟩ := turn_box X (.int .i64 2) 3
          have hUb := HBX.out.alloc (by exact HBX.out.size) (.cells #[.int .i64 2] 3)
          exact HK2.out _ _ ⟨X.heap.size, D :: Ds, _, _, _, _, _, _, _, _, _, _, _, _, _, _, _, _, _, _, _, _, _, _, _, _, _, _, _, _, _, _, _, _, _, _, _, _, _, by omega, by omega, (fun E hE => by
            rcases List.mem_cons.1 hE with rfl | hm
            · omega
            · have := HDS.out E hm
              omega), (HTX.out.next (B := X.heap.size) (by omega) (by omega) (by omega) (by omega) (fun E hE => by have := HDS.out E hE; omega) (fun i hi => by have := HKI.out i hi; omega) U1 U2 U3 HKD.out hDl), hUb, (fun e => by exact DD e), (fun e => by omega), (fun e => by omega), rfl⟩
      case stop =>
        rintro D c pre X hD _ ⟨⟨hz, rfl, hT, hat⟩, hB⟩ hKd
        obtain ⟨r, hs⟩ : ∃ r : Int, r = (E : Int) := ⟨_, rfl⟩
        rw [← hs] at hat
        have HTX := hide hT
        have HBX := hide hB
        have HKD := hide hKd
        have ct : X.cell? ⟨bt, 0, none⟩ = some (.int .i64 1) := hT.turn
        have cw := hT.want
        have cl' := hT.lv
        have hDl : D < X.heap.size := (Array.getElem?_eq_some_iff.1 hKd).1
        have DD : (1 + 1 = 2) → ∃ D1 D2, D1 < D2 ∧ D :: Ds = [D2, D1] := fun _ => by
          obtain ⟨D1, e1⟩ := HD1.out
          have := HDS.out D1 (by rw [e1]; simp)
          exact ⟨D1, D, by omega, by rw [e1]⟩
        clear hT hB hKd
        rcases HME.out with ⟨hm, rfl⟩ | ⟨hm, rfl⟩
        · have hmi : (E : Int) < 300 := by omega
          subst hs
          gi_wp2
          obtain ⟨U1, U2, U3, U4⟩ := turn_box X (.int .i64 2) 3
          have hUb := HBX.out.alloc (by exact HBX.out.size) (.cells #[.int .i64 2] 3)
          exact HK2.out _ _ ⟨X.heap.size, D :: Ds, _, _, _, _, _, _, _, _, _, _, _, _, _, _, _, _, _, _, _, _, _, _, _, _, _, _, _, _, _, _, _, _, _, _, _, _, _, by omega, by omega, (fun E hE => by
            rcases List.mem_cons.1 hE with rfl | hm
            · omega
            · have := HDS.out E hm
              omega), (HTX.out.next (B := X.heap.size) (by omega) (by omega) (by omega) (by omega) (fun E hE => by have := HDS.out E hE; omega) (fun i hi => by have := HKI.out i hi; omega) U1 U2 U3 HKD.out hDl), hUb, (fun e => by exact DD e), (fun e => by omega), (fun e => by omega), rfl⟩
        · have hmi : (300 : Int) ≤ (M : Int) := by omega
          have h300 : ((300 : Nat) : Int) = 300 := rfl
          rw [h300] at hs
          clear h300
          subst hs
          gi_wp2
          obtain ⟨U1, U2, U3, U4⟩ := turn_box X (.int .i64 2) 3
          have hUb := HBX.out.alloc (by exact HBX.out.size) (.cells #[.int .i64 2] 3)
          exact HK2.out _ _ ⟨X.heap.size, D :: Ds, _, _, _, _, _, _, _, _, _, _, _, _, _, _, _, _, _, _, _, _, _, _, _, _, _, _, _, _, _, _, _, _, _, _, _, _, _, by omega, by omega, (fun E hE => by
            rcases List.mem_cons.1 hE with rfl | hm
            · omega
            · have := HDS.out E hm
              omega), (HTX.out.next (B := X.heap.size) (by omega) (by omega) (by omega) (by omega) (fun E hE => by have := HDS.out E hE; omega) (fun i hi => by have := HKI.out i hi; omega) U1 U2 U3 HKD.out hDl), hUb, (fun e => by exact DD e), (fun e => by omega), (fun e => by omega), rfl⟩
end Go.Proofs.Ytiopohdhadilfaa.steps
