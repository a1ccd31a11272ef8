import Derived.Test.YtbbdneekfejjkaaY4
namespace Go.Proofs.Ytbbdneekfejjkaa.runs
open Go.ChangeShapes Go.WideShapes Go.ChangeAt Go.RowKit Go.Deep Go.Shelf
set_option linter.unusedSimpArgs false
set_option linter.unusedVariables false

attribute [local go_sem] Oper.semAt_some

/-- an iterator that answers alike wherever its own blocks lie as they lay -/
def SeqF {α : Type} (n : Nat) (P : Program) (g : Nat) (lb : Array Value) (encs : α → Array Value) (K : Nat → Prop) (T : List α) (w : World) : Prop :=
  ∀ w1, Fix K w w1 → SeqR n P g lb encs K (fun xs => xs = T) (fun pre => ∃ k, k ≤ T.length ∧ pre = T.take k) (fun pre x => pre = T.take pre.length ∧ T[pre.length]? = some x) w1
theorem upto_take {α : Type} (f : Nat → α) (k L : Nat) (h : k ≤ L) : (upto f L).take k = upto f k := by
  unfold upto
  rw [← List.map_take, List.take_range, Nat.min_eq_left h]
theorem upto_get {α : Type} (f : Nat → α) (j L : Nat) (h : j < L) : (upto f L)[j]? = some (f j) := by
  simp [upto, h]
theorem SeqR.of {α : Type} {n : Nat} {P : Program} {g : Nat} {lb : Array Value} {encs : α → Array Value} {K : Nat → Prop} {S S' Sp Sp' : List α → Prop} {Nx Nx' : List α → α → Prop} {w : World} (h : SeqR n P g lb encs K S Sp Nx w)
    (h1 : ∀ xs, S xs → S' xs) (h2 : ∀ xs, Sp xs → Sp' xs) (h3 : ∀ pre x, Nx pre x → Nx' pre x) : SeqR n P g lb encs K S' Sp' Nx' w := by
  intro l J Jx W hb hJ hJx hY h0
  refine (h l J Jx W hb hJ hJx (fun pre x V hv hn => hY pre x V hv (h3 pre x hn)) h0).mono ?_
  rintro e V' ⟨hv, h | h⟩
  · exact ⟨hv, .inl (h.imp fun xs q => ⟨h1 _ q.1, q.2⟩)⟩
  · exact ⟨hv, .inr (h.imp fun xs q => ⟨h2 _ q.1, q.2⟩)⟩
theorem not_rec {W : World} {i off : Nat} {o : Obj} {u : Value} (hi : W.heap[i]? = some o) (ho : o.isCells = false) (hc : W.cell? ⟨i, off, none⟩ = some u) : False := by
  simp only [World.cell?, hi] at hc
  cases o <;> simp_all [Obj.isCells]
theorem upd4 (w7 : World) (xb : Nat) (x0 x1 x2 x3 a b c d : Value) (hx : ∀ o, w7.cell? ⟨xb, o, none⟩ = (#[x0, x1, x2, x3] : Array Value)[o]?) (W' : World)
    (hW : W' = (((w7.setCell ⟨xb, 0, none⟩ a).setCell ⟨xb, 1, none⟩ b).setCell ⟨xb, 2, none⟩ c).setCell ⟨xb, 3, none⟩ d) :
    (∀ i, i ≠ xb → W'.heap[i]? = w7.heap[i]?) ∧ (∀ o, W'.cell? ⟨xb, o, none⟩ = (#[a, b, c, d] : Array Value)[o]?) ∧ (∀ q, W'.frozen? q = w7.frozen? q) ∧ W'.heap.size = w7.heap.size := by
  have q0 := hx 0
  have q1 := hx 1
  have q2 := hx 2
  have q3 := hx 3
  simp at q0 q1 q2 q3
  refine ⟨fun i h1 => ?_, fun o => ?_, fun q => ?_, ?_⟩
  · rw [hW, heap_setCell_other _ _ _ _ (by simpa using h1), heap_setCell_other _ _ _ _ (by simpa using h1), heap_setCell_other _ _ _ _ (by simpa using h1), heap_setCell_other _ _ _ _ (by simpa using h1)]
  · have q := hx o
    rw [hW]
    rcases o with _ | _ | _ | _ | o
    · simp [go_sem, q0]
    · simp [go_sem, q1]
    · simp [go_sem, q2]
    · simp [go_sem, q3]
    · simp [go_sem]; simpa using q
  · rw [hW]; simp only [World.frozen?_setCell]
  · rw [hW]; simp only [World.size_setCell]
theorem Fix.frozen {K : Nat → Prop} {V V' : World} (h : Fix K V V') {p : Addr} (hk : K p.block) (hl : p.block < V.heap.size) : V'.frozen? p = V.frozen? p := World.frozen?_of_block (h.same _ hk hl)

set_option maxRecDepth 100000 in
set_option maxHeartbeats 4000000 in
theorem all_no (n : Nat) (hn : 1 ≤ n) (l Bl Bb : Nat) (k op cl st sp ex la fl fa co ru : Int) (h : ¬ LotOK k op cl st sp ex la fl fa co ru) (WS : World) (J : List (R4 × Int) → World → Prop) (Q : World → Prop)
    (hJ : Stays WS.heap.size J) (hc : ∀ o, WS.cell? ⟨Bl, o, none⟩ = (#[Value.int .i64 k, Value.int .i64 op, Value.int .i64 cl, Value.int .i64 st, Value.int .i64 sp, Value.int .i64 ex, Value.int .i64 la, Value.int .i64 fl, Value.int .i64 fa, Value.int .i64 co, Value.int .i64 ru] : Array Value)[o]?) (h0 : J [] WS) :
    CallsIn Fence.wide n Try.prog 30 #[.func (.yield l) #[] #[], .pointer (some ⟨Bl, 0, none⟩), .pointer (some ⟨Bb, 0, none⟩)] WS fun e W' => (∃ v, e = .returned v) ∧
      ((∃ ys, ys = [] ∧ J ys W') ∨ Q W') := by
  refine callsIn_of_wp Try.func30 rfl trivial ?_ rfl
  simp only [Try.ntmps30, List.size_toArray, List.length_cons, List.length_nil, Nat.reduceAdd, Nat.reduceSub, Array.replicate_succ, Array.replicate_zero, List.push_toArray, List.append_toArray, List.nil_append, List.cons_append]
  have HC := hide hc
  clear hc
  have c0 : WS.cell? ⟨Bl, 0, none⟩ = some (.int .i64 k) := HC.out 0
  have c1 : WS.cell? ⟨Bl, 1, none⟩ = some (.int .i64 op) := HC.out 1
  have c2 : WS.cell? ⟨Bl, 2, none⟩ = some (.int .i64 cl) := HC.out 2
  have c3 : WS.cell? ⟨Bl, 3, none⟩ = some (.int .i64 st) := HC.out 3
  have c4 : WS.cell? ⟨Bl, 4, none⟩ = some (.int .i64 sp) := HC.out 4
  have c5 : WS.cell? ⟨Bl, 5, none⟩ = some (.int .i64 ex) := HC.out 5
  have c6 : WS.cell? ⟨Bl, 6, none⟩ = some (.int .i64 la) := HC.out 6
  have c7 : WS.cell? ⟨Bl, 7, none⟩ = some (.int .i64 fl) := HC.out 7
  have c8 : WS.cell? ⟨Bl, 8, none⟩ = some (.int .i64 fa) := HC.out 8
  have c9 : WS.cell? ⟨Bl, 9, none⟩ = some (.int .i64 co) := HC.out 9
  have c10 : WS.cell? ⟨Bl, 10, none⟩ = some (.int .i64 ru) := HC.out 10
  gi_wp2_with fail
  refine ⟨trivial, ?_⟩
  refine (callsIn_wide.2 (begin_no k op cl st sp ex la fl fa co ru _ h)).mono ?_
  rintro e w1 ⟨rfl, hb1⟩
  have J1 : J [] w1 := hJ _ _ _ none h0 (grown_of_below hb1) (fun r e => by cases e)
  gi_wp2
  refine bodyPost_ret (results_none rfl _ _ _) rfl ?_
  exact ⟨⟨_, rfl⟩, .inl ⟨[], rfl, hJ.lay _ J1⟩⟩
theorem all_seqF_no (n : Nat) (hn : 1 ≤ n) (Bl Bb : Nat) (K : Nat → Prop) (k op cl st sp ex la fl fa co ru : Int) (h : ¬ LotOK k op cl st sp ex la fl fa co ru) (w0 : World)
    (hK : K Bl) (hBl : Bl < w0.heap.size) (hc : ∀ o, w0.cell? ⟨Bl, o, none⟩ = (#[Value.int .i64 k, Value.int .i64 op, Value.int .i64 cl, Value.int .i64 st, Value.int .i64 sp, Value.int .i64 ex, Value.int .i64 la, Value.int .i64 fl, Value.int .i64 fa, Value.int .i64 co, Value.int .i64 ru] : Array Value)[o]?) :
    SeqF n Try.prog 30 #[.pointer (some ⟨Bl, 0, none⟩), .pointer (some ⟨Bb, 0, none⟩)] encR K [] w0 := by
  intro w1 hF l J Jx W hbW hJ hJx hY h0
  have hF2 := hF.trans (.of_below hbW)
  refine (all_no n hn l Bl Bb k op cl st sp ex la fl fa co ru h W J (fun W' => ∃ pre, (∃ k, k ≤ ([] : List (R4 × Int)).length ∧ pre = ([] : List (R4 × Int)).take k) ∧ Jx pre W') hJ (fun o => (hF2.cell (p := ⟨Bl, o, none⟩) hK hBl).trans (hc o)) h0)
theorem all_seqF (n : Nat) (hn : 1 ≤ n) (Bl Bb base : Nat) (k op cl st sp ex la fl fa co ru : Int) (L : Nat) (zz : Nat → Nat → Int) (h : LotOK k op cl st sp ex la fl fa co ru) (hf : ∀ j, j < L → zz j 2 ≤ 9223372036854775807) (hL : L ≤ 1048576) (v' : Value) (w0 : World)
    (hBl : Bl < w0.heap.size) (hBb : Bb < w0.heap.size) (hc : ∀ o, w0.cell? ⟨Bl, o, none⟩ = (#[Value.int .i64 k, Value.int .i64 op, Value.int .i64 cl, Value.int .i64 st, Value.int .i64 sp, Value.int .i64 ex, Value.int .i64 la, Value.int .i64 fl, Value.int .i64 fa, Value.int .i64 co, Value.int .i64 ru] : Array Value)[o]?) (hb : w0.cell? ⟨Bb, 0, none⟩ = some v') (own : w0.ownsRow base 35 4 v' L (flat4 zz L)) :
    SeqF n Try.prog 30 #[.pointer (some ⟨Bl, 0, none⟩), .pointer (some ⟨Bb, 0, none⟩)] encR (fun i => i = Bl ∨ i = Bb ∨ v'.ownBlock = some i) (upto (stp op st sp ex la cl (bids zz)) L) w0 := by
  intro w1 hF l J Jx W hbW hJ hJx hY h0
  obtain ⟨ao, cap, rfl⟩ := own_any4 own
  have hF2 := hF.trans (.of_below hbW)
  have hlen : (upto (stp op st sp ex la cl (bids zz)) L).length = L := upto_length _ _
  refine (all_ok n hn l Bl Bb (fun i => i = Bl ∨ i = Bb ∨ (Value.slice ao L cap).ownBlock = some i) k op cl st sp ex la fl fa co ru L (bids zz) h hf hL ao cap W J Jx (fun pre x V hv hn => hY pre x V hv ?_) hJ hJx (.inl rfl) (.inr (.inl rfl)) (fun i hi => ?_) (fun o => (hF2.cell (p := ⟨Bl, o, none⟩) (.inl rfl) hBl).trans (hc o)) ((hF2.cell (p := ⟨Bb, 0, none⟩) (.inr (.inl rfl)) hBb).trans hb) (fun j hj => ?_) h0).mono ?_
  · obtain ⟨j, hj, rfl, rfl⟩ := hn
    rw [upto_length, upto_take _ _ _ (by omega), upto_get _ _ _ hj]
    exact ⟨rfl, rfl⟩
  · have := hF2.size
    rcases hi with rfl | rfl | e
    · omega
    · omega
    · have := (own.lt i e).2
      omega
  · rcases own.2 with ⟨_, h0, _⟩ | ⟨g, c, cur, hv, _⟩
    · omega
    · obtain ⟨rfl, rfl⟩ : ao = some ⟨g, 0, none⟩ ∧ cap = c := by (injection hv with e1 e2 e3; exact ⟨e1, e3⟩)
      have cell : ∀ c, c < 4 → W.cell? ⟨g, 0 + j * 4 + c, none⟩ = some (.int .i64 (zz j c)) := fun c hc4 => by
        rw [Nat.zero_add]
        refine (hF2.cell (p := ⟨g, j * 4 + c, none⟩) (.inr (.inr rfl)) (own.lt g rfl).2).trans ?_
        rw [own.cellAt (j * 4 + c) (by omega)]
        exact flat4_at zz L j c hj hc4
      exact ⟨g, 0, rfl, .inr (.inr rfl), cell 0 (by decide), cell 1 (by decide), cell 2 (by decide), cell 3 (by decide)⟩
  · rintro e V' ⟨hv, ⟨xs, hS, hj⟩ | ⟨pre, ⟨k, hk, hp⟩, hx⟩⟩
    · exact ⟨hv, .inl ⟨xs, hS, hj⟩⟩
    · exact ⟨hv, .inr ⟨pre, ⟨k, by omega, by rw [upto_take _ _ _ hk]; exact hp⟩, hx⟩⟩
/-- what All answers: an iterator over T -/
def AllAns (T : List (R4 × Int)) (w : World) (e : Ending) (w' : World) : Prop :=
  ∃ lb K, e = .returned (.func (.func 30) #[] lb) ∧ (∀ i, K i → w.heap.size ≤ i ∧ i < w'.heap.size) ∧ (∀ n, 1 ≤ n → SeqF n Try.prog 30 lb encR K T w') ∧ Below w.heap.size w w'
theorem All_yes (k op cl st sp ex la fl fa co ru : Int) (so : Option Addr) (cap L : Nat) (zz : Nat → Nat → Int) (w : World) (hL : L ≤ 1048576) (hb : RowB w so cap L zz) (h : LotOK k op cl st sp ex la fl fa co ru) (hf : ∀ j, j < L → zz j 2 ≤ 9223372036854775807) : Calls Try.prog 19 #[.agg #[.int .i64 k, .int .i64 op, .int .i64 cl, .int .i64 st, .int .i64 sp, .int .i64 ex, .int .i64 la, .int .i64 fl, .int .i64 fa, .int .i64 co, .int .i64 ru], .slice so L cap] w (AllAns (upto (stp op st sp ex la cl (bids zz)) L) w) := by
  refine (All_c k op cl st sp ex la fl fa co ru so cap L zz w hL hb).mono ?_
  rintro e w5 ⟨Bl, Bb, v', rfl, hBl0, hBlz, hBb0, hBbz, hlc, hbb, own, hb5⟩
  refine ⟨_, _, rfl, ?_, fun n hn => all_seqF n hn Bl Bb _ k op cl st sp ex la fl fa co ru L zz h hf hL v' w5 hBlz hBbz hlc hbb own, hb5⟩
  rintro i (rfl | rfl | e)
  · exact ⟨hBl0, hBlz⟩
  · exact ⟨hBb0, hBbz⟩
  · exact own.lt i e
theorem All_none (k op cl st sp ex la fl fa co ru : Int) (so : Option Addr) (cap L : Nat) (zz : Nat → Nat → Int) (w : World) (hL : L ≤ 1048576) (hb : RowB w so cap L zz) (h : ¬ LotOK k op cl st sp ex la fl fa co ru) : Calls Try.prog 19 #[.agg #[.int .i64 k, .int .i64 op, .int .i64 cl, .int .i64 st, .int .i64 sp, .int .i64 ex, .int .i64 la, .int .i64 fl, .int .i64 fa, .int .i64 co, .int .i64 ru], .slice so L cap] w (AllAns [] w) := by
  refine (All_c k op cl st sp ex la fl fa co ru so cap L zz w hL hb).mono ?_
  rintro e w5 ⟨Bl, Bb, v', rfl, hBl0, hBlz, hBb0, hBbz, hlc, hbb, own, hb5⟩
  refine ⟨_, fun i => i = Bl, rfl, ?_, fun n hn => all_seqF_no n hn Bl Bb _ k op cl st sp ex la fl fa co ru h w5 rfl hBlz hlc, hb5⟩
  rintro i rfl
  exact ⟨hBl0, hBlz⟩
/-- the rise behind what has come -/
def lastR (r : R4) : List (R4 × Int) → R4
  | [] => r
  | x :: xs => lastR x.1 xs
theorem lastR_snoc (xs : List (R4 × Int)) (x : R4 × Int) : ∀ r, lastR r (xs ++ [x]) = x.1 := by
  induction xs with
  | nil => intro r; rfl
  | cons y ys ih => intro r; exact ih _
/-- how many were taken -/
def oks (xs : List (R4 × Int)) : Nat := xs.countP (fun x => decide (x.2 = 0))
theorem oks_snoc (xs : List (R4 × Int)) (x : R4 × Int) : oks (xs ++ [x]) = oks xs + if x.2 = 0 then 1 else 0 := by
  unfold oks
  rw [List.countP_append]
  simp [List.countP_cons]
theorem oks_le (xs : List (R4 × Int)) : oks xs ≤ xs.length := List.countP_le_length
/-- so far it is T's beginning -/
structure Pre (T pre : List (R4 × Int)) : Prop where
  eq : pre = T.take pre.length
/-- what the loop's boxes hold -/
structure RS (rb xb nb : Nat) (r : R4) (pre : List (R4 × Int)) (W : World) : Prop where
  res : ∀ o, W.cell? ⟨rb, o, none⟩ = (#[Value.int .i64 0, .int .i64 0, .int .i64 0, .int .i64 0] : Array Value)[o]?
  resf : ∀ o, W.frozen? ⟨rb, o, none⟩ = false
  rise : ∀ o, W.cell? ⟨xb, o, none⟩ = (#[Value.int .i64 (lastR r pre).1, .int .i64 (lastR r pre).2.1, .int .i64 (lastR r pre).2.2.1, .int .i64 (lastR r pre).2.2.2] : Array Value)[o]?
  risef : ∀ o, W.frozen? ⟨xb, o, none⟩ = false
  num : W.cell? ⟨nb, 0, none⟩ = some (.int .i64 (oks pre : Int))
  numf : W.frozen? ⟨nb, 0, none⟩ = false
theorem RS.old {rb xb nb : Nat} {r : R4} {pre : List (R4 × Int)} {B : Nat} {W W' : World} (h : RS rb xb nb r pre W) (h2 : rb < B) (h3 : xb < B) (h4 : nb < B) (hb : ∀ b, b < B → W'.heap[b]? = W.heap[b]?) : RS rb xb nb r pre W' :=
  ⟨fun o => (World.cell?_of_block (a := ⟨rb, o, none⟩) (hb _ h2)).trans (h.res o), fun o => (World.frozen?_of_block (a := ⟨rb, o, none⟩) (hb _ h2)).trans (h.resf o),
    fun o => (World.cell?_of_block (a := ⟨xb, o, none⟩) (hb _ h3)).trans (h.rise o), fun o => (World.frozen?_of_block (a := ⟨xb, o, none⟩) (hb _ h3)).trans (h.risef o), (World.cell?_of_block (a := ⟨nb, 0, none⟩) (hb _ h4)).trans h.num, (World.frozen?_of_block (a := ⟨nb, 0, none⟩) (hb _ h4)).trans h.numf⟩

set_option maxRecDepth 1000000 in
set_option maxHeartbeats 4000000 in
theorem Run_gen (k op cl st sp ex la fl fa co ru : Int) (so : Option Addr) (cap L : Nat) (zz : Nat → Nat → Int) (r : R4) (e0 : Int) (T : List (R4 × Int)) (w : World) (hb : RowB w so cap L zz) (hT : T.length ≤ 1048576)
    (hbeg : ∀ w, Calls Try.prog 8 #[.agg #[.int .i64 k, .int .i64 op, .int .i64 cl, .int .i64 st, .int .i64 sp, .int .i64 ex, .int .i64 la, .int .i64 fl, .int .i64 fa, .int .i64 co, .int .i64 ru]] w fun e w' => e = .returned (.tuple #[.agg #[.int .i64 r.1, .int .i64 r.2.1, .int .i64 r.2.2.1, .int .i64 r.2.2.2], .int .i64 e0]) ∧ Below w.heap.size w w')
    (hall : ∀ w, RowB w so cap L zz → Calls Try.prog 19 #[.agg #[.int .i64 k, .int .i64 op, .int .i64 cl, .int .i64 st, .int .i64 sp, .int .i64 ex, .int .i64 la, .int .i64 fl, .int .i64 fa, .int .i64 co, .int .i64 ru], .slice so L cap] w (AllAns T w)) :
    Calls Try.prog 20 #[.agg #[.int .i64 k, .int .i64 op, .int .i64 cl, .int .i64 st, .int .i64 sp, .int .i64 ex, .int .i64 la, .int .i64 fl, .int .i64 fa, .int .i64 co, .int .i64 ru], .slice so L cap] w fun e w' => e = .returned (.tuple #[.agg #[.int .i64 (lastR r T).1, .int .i64 (lastR r T).2.1, .int .i64 (lastR r T).2.2.1, .int .i64 (lastR r T).2.2.2], .int .i64 (oks T : Int), .int .i64 e0]) ∧ Below w.heap.size w w' := by
  refine (callsIn_wide (n := 3)).1 ?_
  refine callsIn_of_wp_marks Try.func20 rfl trivial ?_ rfl
  simp only [Try.ntmps20, List.size_toArray, List.length_cons, List.length_nil, Nat.reduceAdd, Nat.reduceSub, Array.replicate_succ, Array.replicate_zero, List.push_toArray, List.append_toArray, List.nil_append, List.cons_append]
  have hlen := hb.len
  have HB := hide hb
  clear hb
  gi_wp2_with fail
  refine ⟨trivial, ?_⟩
  refine (callsIn_wide.2 (hbeg _)).mono ?_
  rintro e w1 ⟨rfl, hb1⟩
  have HR1 := hide (show ∀ o, w1.cell? ⟨w.heap.size + 1, o, none⟩ = (#[Value.int .i64 0, .int .i64 0, .int .i64 0, .int .i64 0] : Array Value)[o]? from fun o => (hb1.cell (p := ⟨w.heap.size + 1, o, none⟩) (by simp)).trans (by simp [go_sem]))
  have FR1 := hide (show ∀ o, w1.frozen? ⟨w.heap.size + 1, o, none⟩ = false from fun o => (hb1.frozen (p := ⟨w.heap.size + 1, o, none⟩) (by simp)).trans (by simp [go_sem]))
  have HLC := hide (show ∀ o, w1.cell? ⟨w.heap.size, o, none⟩ = (#[Value.int .i64 k, Value.int .i64 op, Value.int .i64 cl, Value.int .i64 st, Value.int .i64 sp, Value.int .i64 ex, Value.int .i64 la, Value.int .i64 fl, Value.int .i64 fa, Value.int .i64 co, Value.int .i64 ru] : Array Value)[o]? from fun o => (hb1.cell (p := ⟨w.heap.size, o, none⟩) (by (simp; omega))).trans (by simp [go_sem]))
  have hz1 : w.heap.size + 2 ≤ w1.heap.size := by (have q := hb1.size; simp at q; omega)
  have HB1 := hide (show Below w.heap.size w w1 from bstep (by (focus repeat' (first | (with_reducible exact Below.refl _ _) | (with_reducible assumption) | (with_reducible refine Below.alloc ?_ ?_ _) | (with_reducible refine Below.drew ?_) | (with_reducible refine bdrewN ?_ _) | (with_reducible refine Below.setCell ?_ ?_ _) | (first | (with_reducible exact Nat.le_refl _) | (with_reducible assumption) | omega | (simp; omega) | (simp; done))))) hb1)
  clear hb1
  have hzl : w.heap.size < w1.heap.size := by omega
  have m0 : w1.cell? ⟨w.heap.size, 0, none⟩ = some (.int .i64 k) := HLC.out 0
  have m1 : w1.cell? ⟨w.heap.size, 1, none⟩ = some (.int .i64 op) := HLC.out 1
  have m2 : w1.cell? ⟨w.heap.size, 2, none⟩ = some (.int .i64 cl) := HLC.out 2
  have m3 : w1.cell? ⟨w.heap.size, 3, none⟩ = some (.int .i64 st) := HLC.out 3
  have m4 : w1.cell? ⟨w.heap.size, 4, none⟩ = some (.int .i64 sp) := HLC.out 4
  have m5 : w1.cell? ⟨w.heap.size, 5, none⟩ = some (.int .i64 ex) := HLC.out 5
  have m6 : w1.cell? ⟨w.heap.size, 6, none⟩ = some (.int .i64 la) := HLC.out 6
  have m7 : w1.cell? ⟨w.heap.size, 7, none⟩ = some (.int .i64 fl) := HLC.out 7
  have m8 : w1.cell? ⟨w.heap.size, 8, none⟩ = some (.int .i64 fa) := HLC.out 8
  have m9 : w1.cell? ⟨w.heap.size, 9, none⟩ = some (.int .i64 co) := HLC.out 9
  have m10 : w1.cell? ⟨w.heap.size, 10, none⟩ = some (.int .i64 ru) := HLC.out 10
  gi_wp2_with fail
  obtain ⟨w3, hw3⟩ : ∃ w3, w3 = (w1.alloc (.cells #[.int .i64 r.1, .int .i64 r.2.1, .int .i64 r.2.2.1, .int .i64 r.2.2.2] 29)).alloc (.cells #[.int .i64 0] 3) := ⟨_, rfl⟩
  rw [← hw3]
  have hb3 : Below w1.heap.size w1 w3 := by rw [hw3]; exact ((Below.refl _ _).alloc (Nat.le_refl _) _).alloc (by simp) _
  have hz3 : w3.heap.size = w1.heap.size + 2 := by rw [hw3]; simp
  have RS3 : RS (w.heap.size + 1) w1.heap.size (w1.heap.size + 1) r [] w3 := ⟨fun o => (hb3.cell (p := ⟨w.heap.size + 1, o, none⟩) (by simp; omega)).trans (HR1.out o), fun o => (hb3.frozen (p := ⟨w.heap.size + 1, o, none⟩) (by simp; omega)).trans (FR1.out o),
    fun o => by rw [hw3]; simp [go_sem, lastR], fun o => by rw [hw3]; simp [go_sem], by rw [hw3]; simp [go_sem, oks], by rw [hw3]; simp [go_sem]⟩
  have HB3 := hide (bstep HB1.out hb3)
  have HRS3 := hide RS3
  clear hw3 hb3 RS3 m0 m1 m2 m3 m4 m5 m6 m7 m8 m9 m10
  refine ⟨trivial, ?_⟩
  refine (callsIn_wide.2 (hall _ (HB.out.below HB3.out))).mono ?_
  rintro e w5 ⟨lb, K, rfl, hK, hseq, hb5⟩
  have hz5 := hb5.size
  have RS5 := hide (HRS3.out.old (B := w3.heap.size) (W' := w5) (by omega) (by omega) (by omega) (fun b h => hb5.block b h))
  have HB5 := hide (bstep HB3.out hb5)
  have HKK := hide hK
  have HSQ := hide (hseq 2 (by decide))
  clear hb5 hK hseq
  gi_wp2_with fail
  obtain ⟨nb, hnb⟩ : ∃ nb, nb = w1.heap.size + 1 := ⟨_, rfl⟩
  rw [← hnb] at RS5 ⊢
  have hn1 : nb ≤ w1.heap.size + 1 := by omega
  have hn2 : w1.heap.size < nb := by omega
  clear hnb HRS3
  have hsq5 : SeqR 2 Try.prog 30 lb encR K (fun xs => xs = T) (fun pre => ∃ k, k ≤ T.length ∧ pre = T.take k) (fun pre x => pre = T.take pre.length ∧ T[pre.length]? = some x) w5 := HSQ.out w5 (.of_below (Below.refl _ _))
  refine range_R (n := 3) (by decide) (gf := 30) (lb := lb) rfl (enters_of Try.func30 (by kernel_rfl) rfl)
    hsq5 (fun i hi => (HKK.out i hi).2) (Below.refl _ _) (fun _ => rfl)
    (fun pre W => (w5.heap.size ≤ W.heap.size ∧ Pre T pre ∧ RS (w.heap.size + 1) w1.heap.size nb r pre W) ∧ Below w.heap.size w W) (fun _ _ _ => False)
    ((stays_old (fun s W W' hb hI => ⟨hI.1, hI.2.old (by omega) (by omega) (by omega) hb⟩)).both (stays_below (Nat.le_refl _) (by omega))) (fun _ _ _ _ _ hs _ _ => hs)
    ⟨⟨Nat.le_refl _, ⟨rfl⟩, RS5.out⟩, HB5.out⟩
    (fun x a' W => ∃ Bx, w5.heap.size + 2 ≤ Bx ∧ Bx < W.heap.size ∧ (∀ o, W.cell? ⟨Bx, o, none⟩ = (#[Value.int .i64 x.1.1, .int .i64 x.1.2.1, .int .i64 x.1.2.2.1, .int .i64 x.1.2.2.2] : Array Value)[o]?) ∧ a' = { tmps := #[.agg #[.int .i64 k, .int .i64 op, .int .i64 cl, .int .i64 st, .int .i64 sp, .int .i64 ex, .int .i64 la, .int .i64 fl, .int .i64 fa, .int .i64 co, .int .i64 ru], .slice so L cap, .pointer (some ⟨w.heap.size, 0, none⟩), undef, .pointer (some ⟨w.heap.size + 1, 0, none⟩), .int .i64 0, .int .i64 0, .pointer (some ⟨w1.heap.size, 0, none⟩), .int .i64 e0, .pointer (some ⟨nb, 0, none⟩), .pointer (some ⟨Bx, 0, none⟩), .int .i64 x.2, .tuple #[.agg #[.int .i64 r.1, .int .i64 r.2.1, .int .i64 r.2.2.1, .int .i64 r.2.2.2], .int .i64 e0], .agg #[.int .i64 k, .int .i64 op, .int .i64 cl, .int .i64 st, .int .i64 sp, .int .i64 ex, .int .i64 la, .int .i64 fl, .int .i64 fa, .int .i64 co, .int .i64 ru], .tuple #[.agg #[.int .i64 r.1, .int .i64 r.2.1, .int .i64 r.2.2.1, .int .i64 r.2.2.2], .int .i64 e0], .agg #[.int .i64 r.1, .int .i64 r.2.1, .int .i64 r.2.2.1, .int .i64 r.2.2.2], .int .i64 e0, .agg #[.int .i64 k, .int .i64 op, .int .i64 cl, .int .i64 st, .int .i64 sp, .int .i64 ex, .int .i64 la, .int .i64 fl, .int .i64 fa, .int .i64 co, .int .i64 ru], .slice so L cap, .func (.func 30) #[] lb, .agg #[.int .i64 x.1.1, .int .i64 x.1.2.1, .int .i64 x.1.2.2.1, .int .i64 x.1.2.2.2], .int .i64 x.2, undef, undef, undef, undef, undef, undef, undef, undef], defers := [] })
    (fun x a' W o hx => ?_) ?assign ?body ?done ?stop
  case assign =>
    rintro l pre x W K' hI hNx hlt hK
    gi_wp2
    refine hK _ _ (KeepsOthers.alloc _ _) (Fix.of_below ((Below.refl _ _).alloc (Nat.le_refl _) _)) ?_ ⟨W.heap.size, by omega, by simp, fun o => by simp [go_sem], rfl⟩
    have hb := (Below.refl W.heap.size W).alloc (Nat.le_refl _) (.cells #[Value.int .i64 x.1.1, .int .i64 x.1.2.1, .int .i64 x.1.2.2.1, .int .i64 x.1.2.2.2] 29)
    obtain ⟨⟨hz, h1, h3⟩, hB⟩ := hI
    exact ⟨⟨Nat.le_trans hz hb.size, h1, h3.old (B := W.heap.size) (by omega) (by omega) (by omega) (fun b hlt => hb.block b hlt)⟩, hB.trans (hb.mono hB.size)⟩
  case body =>
    rintro l pre x a' W ⟨⟨hz, ⟨hp⟩, hRS⟩, hB⟩ ⟨-, hx⟩ ⟨Bx, hBx0, hBxz, hcx, rfl⟩
    obtain ⟨⟨xl, xi, xp, xc⟩, xe⟩ := x
    have hpl : pre.length < T.length := by
      rcases Nat.lt_or_ge pre.length T.length with h | h
      · exact h
      · rw [List.getElem?_eq_none h] at hx; cases hx
    have hol := oks_le pre
    have HP := hide (show Pre T (pre ++ [((xl, xi, xp, xc), xe)]) from ⟨by
      rw [List.length_append, List.length_singleton, List.take_add_one, hx, ← hp]; rfl⟩)
    clear hp
    have HL := hide (lastR_snoc pre ((xl, xi, xp, xc), xe) r)
    have HO := hide (oks_snoc pre ((xl, xi, xp, xc), xe))
    have HRS := hide hRS
    have HBW := hide hB
    have hcr := hide hRS.rise
    have x0 : W.cell? ⟨Bx, 0, none⟩ = some (.int .i64 xl) := hcx 0
    have x1 : W.cell? ⟨Bx, 1, none⟩ = some (.int .i64 xi) := hcx 1
    have x2 : W.cell? ⟨Bx, 2, none⟩ = some (.int .i64 xp) := hcx 2
    have x3 : W.cell? ⟨Bx, 3, none⟩ = some (.int .i64 xc) := hcx 3
    have cn := hRS.num
    have fn := hRS.numf
    have k0 := hRS.risef 0
    have k1 := hRS.risef 1
    have k2 := hRS.risef 2
    have k3 := hRS.risef 3
    have FIN := hide (show ∀ (W' : World) (m : Int), m = (oks (pre ++ [((xl, xi, xp, xc), xe)]) : Int) → (∀ i, i ≠ w1.heap.size → i ≠ nb → W'.heap[i]? = W.heap[i]?) → (∀ o, W'.cell? ⟨w1.heap.size, o, none⟩ = (#[Value.int .i64 xl, .int .i64 xi, .int .i64 xp, .int .i64 xc] : Array Value)[o]?) → W'.cell? ⟨nb, 0, none⟩ = some (.int .i64 m) → (∀ q, W'.frozen? q = W.frozen? q) → W'.heap.size = W.heap.size → Below w.heap.size w W' →
        KeepsOthers W W' ∧ Fix (fun i => K i ∨ w5.heap.size ≤ i) W W' ∧ ((w5.heap.size ≤ W'.heap.size ∧ Pre T (pre ++ [((xl, xi, xp, xc), xe)]) ∧ RS (w.heap.size + 1) w1.heap.size nb r (pre ++ [((xl, xi, xp, xc), xe)]) W') ∧ Below w.heap.size w W') from by
      intro W' m hm U1 U2 U3 U4 U5 hbl
      have kb : ∀ i, K i ∨ w5.heap.size ≤ i → i ≠ w1.heap.size ∧ i ≠ nb := fun i hi => by
        rcases hi with e | e
        · have := HKK.out i e
          omega
        · omega
      refine ⟨⟨by omega, fun i o hi ho => ?_⟩, ⟨by omega, fun i hi hl => U1 i (kb i hi).1 (kb i hi).2⟩, ⟨⟨by omega, HP.out, ?_⟩, hbl⟩⟩
      · refine (U1 i (fun e => ?_) (fun e => ?_)).trans hi
        · subst e
          exact not_rec hi ho (HRS.out.rise 0)
        · subst e
          exact not_rec hi ho HRS.out.num
      · refine ⟨fun o => (World.cell?_of_block (a := ⟨w.heap.size + 1, o, none⟩) (U1 (w.heap.size + 1) (by omega) (by omega))).trans (HRS.out.res o), fun o => (U4 _).trans (HRS.out.resf o), ?_, fun o => (U4 _).trans (HRS.out.risef o), by (rw [U3, hm]), (U4 _).trans HRS.out.numf⟩
        rw [HL.out]
        exact U2)
    generalize lastR r pre = rr at *
    obtain ⟨ld, li, pr, rc⟩ := rr
    have z0 : W.cell? ⟨w1.heap.size, 0, none⟩ = some (.int .i64 ld) := hcr.out 0
    have z1 : W.cell? ⟨w1.heap.size, 1, none⟩ = some (.int .i64 li) := hcr.out 1
    have z2 : W.cell? ⟨w1.heap.size, 2, none⟩ = some (.int .i64 pr) := hcr.out 2
    have z3 : W.cell? ⟨w1.heap.size, 3, none⟩ = some (.int .i64 rc) := hcr.out 3
    have dxn : w1.heap.size ≠ nb := by omega
    have dxn' : nb ≠ w1.heap.size := by omega
    have hbw := HBW.out
    clear hcx hRS hB hx
    by_cases he : xe = 0
    · subst he
      have hw : (oks pre : Int) + 1 ≤ 9223372036854775807 := by omega
      gi_wp2
      obtain ⟨U1, U2, U3, U4, U5⟩ := upd5 W w1.heap.size nb _ _ _ _ _ (.int .i64 xl) (.int .i64 xi) (.int .i64 xp) (.int .i64 xc) (.int .i64 ((oks pre : Int) + 1)) dxn hcr.out cn _ rfl
      exact FIN.out _ _ (by rw [HO.out]; simp) U1 U2 U3 U4 U5 (by (focus repeat' (first | (with_reducible exact Below.refl _ _) | (with_reducible assumption) | (with_reducible refine Below.alloc ?_ ?_ _) | (with_reducible refine Below.drew ?_) | (with_reducible refine bdrewN ?_ _) | (with_reducible refine Below.setCell ?_ ?_ _) | (first | (with_reducible exact Nat.le_refl _) | (with_reducible assumption) | omega | (simp; omega) | (simp; done)))))
    · gi_wp2
      obtain ⟨U1, U2, U4, U5⟩ := upd4 W w1.heap.size _ _ _ _ (.int .i64 xl) (.int .i64 xi) (.int .i64 xp) (.int .i64 xc) hcr.out _ rfl
      exact FIN.out _ _ (by rw [HO.out, if_neg he]; simp) (fun i h1 _ => U1 i h1) U2 ((World.cell?_of_block (a := ⟨nb, 0, none⟩) (U1 _ dxn')).trans cn) U4 U5 (by (focus repeat' (first | (with_reducible exact Below.refl _ _) | (with_reducible assumption) | (with_reducible refine Below.alloc ?_ ?_ _) | (with_reducible refine Below.drew ?_) | (with_reducible refine bdrewN ?_ _) | (with_reducible refine Below.setCell ?_ ?_ _) | (first | (with_reducible exact Nat.le_refl _) | (with_reducible assumption) | omega | (simp; omega) | (simp; done)))))
  case done =>
    rintro D ys W hD rfl ⟨⟨hz, -, hRS⟩, hB⟩ hKd
    have HRS := hide hRS
    have HBW := hide hB
    have HKD := hide hKd
    have cn := hRS.num
    have hcr := hide hRS.rise
    have hsr := hide hRS.res
    have fsr := hide hRS.resf
    have hbw := hB
    clear hRS hB hKd hsq5 hall hbeg
    have hDl : D < W.heap.size := (Array.getElem?_eq_some_iff.1 HKD.out).1
    obtain ⟨rr, hrr⟩ : ∃ rr, lastR r ys = rr := ⟨_, rfl⟩
    rw [hrr] at hcr
    have HRR := hide hrr
    clear hrr
    obtain ⟨ld, li, pr, rc⟩ := rr
    have z0 : W.cell? ⟨w1.heap.size, 0, none⟩ = some (.int .i64 ld) := hcr.out 0
    have z1 : W.cell? ⟨w1.heap.size, 1, none⟩ = some (.int .i64 li) := hcr.out 1
    have z2 : W.cell? ⟨w1.heap.size, 2, none⟩ = some (.int .i64 pr) := hcr.out 2
    have z3 : W.cell? ⟨w1.heap.size, 3, none⟩ = some (.int .i64 rc) := hcr.out 3
    have s0 : W.cell? ⟨w.heap.size + 1, 0, none⟩ = some (.int .i64 0) := hsr.out 0
    have s1 : W.cell? ⟨w.heap.size + 1, 1, none⟩ = some (.int .i64 0) := hsr.out 1
    have s2 : W.cell? ⟨w.heap.size + 1, 2, none⟩ = some (.int .i64 0) := hsr.out 2
    have s3 : W.cell? ⟨w.heap.size + 1, 3, none⟩ = some (.int .i64 0) := hsr.out 3
    have f0 := fsr.out 0
    have f1 := fsr.out 1
    have f2 := fsr.out 2
    have f3 := fsr.out 3
    have dx1 : w1.heap.size ≠ w.heap.size + 1 := by omega
    have dx2 : w.heap.size + 1 ≠ w1.heap.size := by omega
    have dx3 : nb ≠ w.heap.size + 1 := by omega
    have dx4 : w.heap.size + 1 ≠ nb := by omega
    gi_wp2_with fail
    gi_region
    obtain ⟨V, hV⟩ : ∃ V, V = (((W.setCell ⟨w.heap.size + 1, 0, none⟩ (.int .i64 ld)).setCell ⟨w.heap.size + 1, 1, none⟩ (.int .i64 li)).setCell ⟨w.heap.size + 1, 2, none⟩ (.int .i64 pr)).setCell ⟨w.heap.size + 1, 3, none⟩ (.int .i64 rc) := ⟨_, rfl⟩
    rw [← hV]
    obtain ⟨U1, U2, U4, U5⟩ := upd4 W (w.heap.size + 1) _ _ _ _ (.int .i64 ld) (.int .i64 li) (.int .i64 pr) (.int .i64 rc) hsr.out V hV
    have hbV : Below w.heap.size w V := by rw [hV]; (focus repeat' (first | (with_reducible exact Below.refl _ _) | (with_reducible assumption) | (with_reducible refine Below.alloc ?_ ?_ _) | (with_reducible refine Below.drew ?_) | (with_reducible refine bdrewN ?_ _) | (with_reducible refine Below.setCell ?_ ?_ _) | (first | (with_reducible exact Nat.le_refl _) | (with_reducible assumption) | omega | (simp; omega) | (simp; done))))
    have HU1 := hide U1
    have HU2 := hide U2
    have HBV := hide hbV
    clear hV U1 U2 U4 hbV hbw s0 s1 s2 s3 z0 z1 z2 z3 f0 f1 f2 f3 cn dx1 dx2 dx3 dx4
    gi_wp2
    have hK' : V.drew.heap[D]? = some (.deferred (some [])) := (HU1.out D (by omega)).trans HKD.out
    refine ⟨by simp, .inl ⟨_, _, rfl, run_takeDeferred hK', ?_⟩⟩
    have e0c := (World.cell?_of_block (a := ⟨w.heap.size + 1, 0, none⟩) (World.putObj_heap_other (w := V.drew) (o := .deferred none) (show w.heap.size + 1 ≠ D by omega))).trans (HU2.out 0)
    have e1c := (World.cell?_of_block (a := ⟨w.heap.size + 1, 1, none⟩) (World.putObj_heap_other (w := V.drew) (o := .deferred none) (show w.heap.size + 1 ≠ D by omega))).trans (HU2.out 1)
    have e2c := (World.cell?_of_block (a := ⟨w.heap.size + 1, 2, none⟩) (World.putObj_heap_other (w := V.drew) (o := .deferred none) (show w.heap.size + 1 ≠ D by omega))).trans (HU2.out 2)
    have e3c := (World.cell?_of_block (a := ⟨w.heap.size + 1, 3, none⟩) (World.putObj_heap_other (w := V.drew) (o := .deferred none) (show w.heap.size + 1 ≠ D by omega))).trans (HU2.out 3)
    simp at e0c e1c e2c e3c
    refine ⟨.tuple #[.agg #[.int .i64 ld, .int .i64 li, .int .i64 pr, .int .i64 rc], .int .i64 (oks ys : Int), .int .i64 e0], ?_, by rw [HRR.out], (bdrewN HBV.out 1).trans (belowK_b (w := w) (Nat.le_refl _) _ D _ _ (by omega) hK' rfl rfl)⟩
    simp [results, Try.f20, go_sem, e0c, e1c, e2c, e3c]
  case stop =>
    rintro D c pre W _ _ hh _
    exact hh.elim
  · obtain ⟨Bx, h1, h2, h3, h4⟩ := hx
    exact ⟨Bx, h1, by simpa using h2, fun o' => (World.cell?_of_block (a := ⟨Bx, o', none⟩) (World.putObj_heap_other (by simp; omega))).trans (h3 o'), h4⟩
end Go.Proofs.Ytbbdneekfejjkaa.runs
