/- Contracts of the layer's functions, each proved once, in the order in which they are used. No condition beyond each theorem's own. -/
import Derived.Maps.AppendAt
import Derived.Deep.AppendLies
import Derived.Laws.OwnMore
import Derived.Test.YtkdocoibfclfeaaMd
import Derived.StillTailTactics
import Derived.Laws.StructEq
import Derived.Deep.RegionLaw
import Derived.Test.YtkdocoibfclfeaaMc
import Derived.Sort.LoopGhostIn
import Derived.Test.YtkdocoibfclfeaaMb
import Derived.Laws.EntriesVeiled
namespace Go.Proofs.Ytkdocoibfclfeaa
open Go.ChangeShapes Go.WideShapes Go.ChangeAt Go.RowKit Go.Deep Go.Maps Go.ChangeMaps Go.WideMaps
set_option linter.unusedSimpArgs false
set_option linter.unusedVariables false

/-- a row, or none, copied behind nil -/
theorem wpList_append_copy {P : Program} (w : World) {ops : Array Oper} {rest : List Oper} {o : Oper} {a : Act} {Q : Exit → Act → World → Prop} (hgd : o.guard = none) (s x : Operand) (t : TypeId)
    (ho : o.op = .call { callee := .builtin .append, args := #[s, x], argTypes := #[t, t] })
    (B : Nat) (e : TypeId) (i : TypeInfo) (z : Value) (size bytes : Nat) (ht : P.underlying t = some (.slice e)) (hi : P.info? e = some i) (hz : i.zero = some z)
    (hsize : i.size = size) (hby : i.bytes = bytes) (hzs : z.cells.size = size) (hsz : 0 < size) (hs : a.eval s = .slice none 0 0)
    (v : Value) (n : Nat) (xs : List Value) (hx : a.eval x = v) (hown : w.ownsRow B e size v n xs) (h1 : ∀ u ∈ xs, u.oneCell' = true)
    (h63 : n ≤ maxLen) (hbytes : n * bytes ≤ 140737488355328) (hnil : (Builtin.append_ #[t, t] o.type #[.slice none 0 0, .slice none 0 0]).run P w = .ok (.slice none 0 0) w)
    (h : ∀ v' w', w'.ownsRow w.heap.size e size v' n xs → w.grownBy w' none → wpList P ops Q rest (a.put o.dst v') w') : wpList P ops Q (o :: rest) a w := by
  rcases hown.2 with ⟨rfl, rfl⟩ | ⟨g, cap, cur, rfl, _⟩
  · refine wpList_plain hgd fun K hK => ?_
    unfold Oper.wp execOp
    simp only [ho, resolve, invoke, builtin, Sem.run_bind, Sem.run_pure, Result.andThen_ok, List.map_toArray, List.map_cons, List.map_nil, hs, hx, hnil]
    have hxs : xs = [] := List.length_eq_zero_iff.1 (by have := hown.1; omega)
    exact hK _ _ (h _ _ (by rw [hxs]; exact World.ownsRow_nil _ _ _ _) ⟨rfl, rfl, rfl, Nat.le_refl _, fun _ _ _ => rfl⟩)
  · refine wpList_append_own w hgd s x t ho w.heap.size e i z size bytes ht hi hz hsize hby hzs hsz (.slice none 0 0) 0 [] hs (World.ownsRow_nil _ _ _ _) ⟨g, 0, none⟩ n cap xs hx hown.1 (hown.cells (g := g) rfl) h1 (by omega) (by rw [Nat.zero_add]; exact hbytes) (Nat.le_refl _) (fun v' w' h2 h3 _ => ?_)
    rw [Nat.zero_add, List.nil_append] at h2
    exact h v' w' h2 h3
/-- what a call may do that may write in the blocks o -/
structure Turn (o : Nat → Prop) (I : Nat → Prop) (w : World) (o' : Nat → Prop) (I' : Nat → Prop) (w' : World) : Prop where
  os : w'.os = w.os
  tape : w'.tape = w.tape
  output : w'.output = w.output
  size : w.heap.size ≤ w'.heap.size
  keep : ∀ k, k < w.heap.size → ¬ o k → w'.heap[k]? = w.heap[k]?
  own : ∀ k, o' k → o k ∨ w.heap.size ≤ k
  sub : ∀ k, I k → I' k
  new : ∀ k, I' k → ¬ I k → w.heap.size ≤ k ∧ k < w'.heap.size
theorem Turn.of_below {o I : Nat → Prop} {w w' : World} (h : Below w.heap.size w w') : Turn o I w o I w' :=
  ⟨h.os, h.tape, h.output, h.size, fun k hk _ => h.block k hk, fun _ q => .inl q, fun _ q => q, fun _ q n => absurd q n⟩
theorem Step.turn {I I' : Nat → Prop} {F F' : Fp} {w w' : World} (h : Step I F w I' F' w') : Turn F.own I w F'.own I' w' :=
  ⟨h.os, h.tape, h.output, h.size, h.keep, h.own, h.sub, h.new⟩
theorem Turn.trans {o o1 o2 I I1 I2 : Nat → Prop} {w w1 w2 : World} (h : Turn o I w o1 I1 w1) (g : Turn o1 I1 w1 o2 I2 w2) : Turn o I w o2 I2 w2 := by
  refine ⟨g.os.trans h.os, g.tape.trans h.tape, g.output.trans h.output, Nat.le_trans h.size g.size, fun k hk hn => ?_, fun k hk => ?_, fun k q => g.sub k (h.sub k q), fun k q hn => ?_⟩
  · refine (g.keep k (Nat.lt_of_lt_of_le hk h.size) (fun q => ?_)).trans (h.keep k hk hn)
    rcases h.own k q with q | q
    · exact hn q
    · omega
  · rcases g.own k hk with q | q
    · exact h.own k q
    · exact .inr (Nat.le_trans h.size q)
  · by_cases h1 : I1 k
    · have := h.new k h1 hn
      exact ⟨this.1, Nat.lt_of_lt_of_le this.2 g.size⟩
    · have := g.new k q h1
      exact ⟨Nat.le_trans h.size this.1, this.2⟩
/-- it may write in more -/
theorem Turn.wide {o o' p I I' : Nat → Prop} {w w' : World} (h : Turn o I w o' I' w') : Turn (fun k => o k ∨ p k) I w (fun k => o' k ∨ p k) I' w' :=
  ⟨h.os, h.tape, h.output, h.size, fun k hk hn => h.keep k hk (fun q => hn (.inl q)), fun k q => q.elim (fun q => (h.own k q).imp .inl id) (fun q => .inl (.inr q)), h.sub, h.new⟩
theorem Turn.wide2 {o o' p I I' : Nat → Prop} {w w' : World} (h : Turn o I w o' I' w') : Turn (fun k => p k ∨ o k) I w (fun k => p k ∨ o' k) I' w' :=
  ⟨h.os, h.tape, h.output, h.size, fun k hk hn => h.keep k hk (fun q => hn (.inr q)), fun k q => q.elim (fun q => .inl (.inl q)) (fun q => (h.own k q).imp .inr id), h.sub, h.new⟩
theorem Turn.below {o o' I I' : Nat → Prop} {B : Nat} {w w' : World} (hs : Turn o I w o' I' w') (hl : ∀ k, o k → B ≤ k) (hB : B ≤ w.heap.size) : Below B w w' :=
  ⟨hs.os, hs.tape, hs.output, hs.size, fun k hk => hs.keep k (by omega) (fun q => by have := hl k q; omega)⟩
theorem LObj.aside {o o' I I' : Nat → Prop} {F2 : Fp} {S2 : LS} {w w' : World} (h : LObj I F2 S2 w) (hs : Turn o I w o' I' w') (hd : ∀ k, F2.own k → ¬ o k) (hi : ∀ k, o k → ¬ I k) : LObj I' F2 S2 w' :=
  h.stays hs.size (fun k q => by
    rcases q with q | q
    · exact hs.keep k (h.lt q) (hd k q)
    · exact hs.keep k (h.ilt k q) (fun e => hi k e q)) hs.sub hs.new
theorem RObj.aside {o o' I I' : Nat → Prop} {R : RP} {S2 : LS} {w w' : World} (h : RObj I R S2 w) (hs : Turn o I w o' I' w') (hd : ¬ o R.r) (hi : ∀ k, o k → ¬ I k) : RObj I' R S2 w' :=
  h.stays hs.size (fun k q => by
    rcases q with rfl | q
    · exact hs.keep _ h.lt hd
    · exact hs.keep k (h.ilt k q) (fun e => hi k e q)) hs.sub hs.new
/-- what the document's ledger may write -/
abbrev RTurn (I : Nat → Prop) (R : RP) (w : World) (I' : Nat → Prop) (R' : RP) (w' : World) : Prop := Turn (fun k => k = R.r) I w (fun k => k = R'.r) I' w'
def OpenR (I : Nat → Prop) (R : RP) (S : LS) (s : ByteArray) (l : Int) (w : World) (e : Ending) (w' : World) : Prop := e = .returned (.tuple #[.int .i64 (S.acc.length : Int), .int .i64 0]) ∧ ∃ I' R', RObj I' R' ⟨S.acc ++ [⟨s, l, 0⟩], S.posts⟩ w' ∧ RTurn I R w I' R' w' ∧ R'.r = R.r
theorem onestr (l : List ByteArray) : ∀ u ∈ l.map Value.string, u.oneCell' = true := fun u hu => by
  obtain ⟨x, _, rfl⟩ := List.mem_map.1 hu; rfl
theorem oneint (l : List Int) : ∀ u ∈ l.map (Value.int .i64), u.oneCell' = true := fun u hu => by
  obtain ⟨x, _, rfl⟩ := List.mem_map.1 hu; rfl
theorem nil22 (w : World) : Sem.run Try.prog (Builtin.append_ #[22, 22] 22 #[.slice none 0 0, .slice none 0 0]) w = .ok (.slice none 0 0) w := by kernel_rfl
theorem nil30 (w : World) : Sem.run Try.prog (Builtin.append_ #[30, 30] 30 #[.slice none 0 0, .slice none 0 0]) w = .ok (.slice none 0 0) w := by kernel_rfl
theorem nil23 (w : World) : Sem.run Try.prog (Builtin.append_ #[23, 23] 23 #[.slice none 0 0, .slice none 0 0]) w = .ok (.slice none 0 0) w := by kernel_rfl
theorem nil33 (w : World) : Sem.run Try.prog (Builtin.append_ #[33, 33] 33 #[.slice none 0 0, .slice none 0 0]) w = .ok (.slice none 0 0) w := by kernel_rfl
theorem Open_rclose {I : Nat → Prop} {R : RP} {S : LS} {s : ByteArray} {l : Int} {w w2 W3 w5 : World} {v2 v5 : Value} (h : RObj I R S w) (B2 : Below w.heap.size w w2)
    (own2 : w2.ownsRow w.heap.size 9 1 v2 (S.acc.length + 1) ((nms S.acc).map Value.string ++ [.string s])) (hW : W3 = w2.setCell ⟨R.r, 0, none⟩ v2) (B5 : Below W3.heap.size W3 w5)
    (own5 : w5.ownsRow W3.heap.size 2 1 v5 (S.acc.length + 1) ((leasts S.acc).map (Value.int .i64) ++ [.int .i64 l])) :
    ∃ I' R', RObj I' R' ⟨S.acc ++ [⟨s, l, 0⟩], S.posts⟩ (w5.setCell ⟨R.r, 1, none⟩ v5) ∧ RTurn I R w I' R' (w5.setCell ⟨R.r, 1, none⟩ v5) ∧ R'.r = R.r := by
  have hr := h.lt
  have z2 := B2.size
  have z3 : W3.heap.size = w2.heap.size := by rw [hW]; simp
  have z5 := B5.size
  have hV : ∀ k, k ≠ R.r → (w5.setCell ⟨R.r, 1, none⟩ v5).heap[k]? = w5.heap[k]? := fun k hk => heap_setCell_other _ _ _ _ hk
  have h3 : ∀ k, k ≠ R.r → W3.heap[k]? = w2.heap[k]? := fun k hk => by rw [hW]; exact heap_setCell_other _ _ _ _ hk
  have hK : ∀ k, k < w.heap.size → k ≠ R.r → (w5.setCell ⟨R.r, 1, none⟩ v5).heap[k]? = w.heap[k]? := fun k hk hn => (hV k hn).trans ((B5.block k (by omega)).trans ((h3 k hn).trans (B2.block k hk)))
  have hI : ∀ k, I k → k ≠ R.r := fun k hk e => h.imm (e ▸ hk)
  have r0 : w2.cell? ⟨R.r, 0, none⟩ = some R.nv := cell_stay h.c0 (B2.block _ hr)
  have r1 : w2.cell? ⟨R.r, 1, none⟩ = some R.lv := cell_stay h.c1 (B2.block _ hr)
  have r2 : w2.cell? ⟨R.r, 2, none⟩ = some R.pv := cell_stay h.c2 (B2.block _ hr)
  have q0 : W3.cell? ⟨R.r, 0, none⟩ = some v2 := by rw [hW]; exact World.cell?_setCell_same' w2 ⟨R.r, 0, none⟩ _ (by rw [r0]; rfl)
  have q1 : W3.cell? ⟨R.r, 1, none⟩ = some R.lv := by rw [hW]; simpa [go_sem] using r1
  have q2 : W3.cell? ⟨R.r, 2, none⟩ = some R.pv := by rw [hW]; simpa [go_sem] using r2
  have qf : ∀ o, W3.frozen? ⟨R.r, o, none⟩ = false := fun o => by rw [hW, World.frozen?_setCell]; exact fro_stay (h.cf o) (B2.block _ hr)
  have hr3 : R.r < W3.heap.size := by omega
  have e0 := cell_stay q0 (B5.block _ hr3)
  have e1 := cell_stay q1 (B5.block _ hr3)
  have e2 := cell_stay q2 (B5.block _ hr3)
  have l2 : ∀ k, v2.ownBlock = some k → w.heap.size ≤ k ∧ k < w2.heap.size := fun k hk => own2.lt k hk
  have l5 : ∀ k, v5.ownBlock = some k → W3.heap.size ≤ k ∧ k < w5.heap.size := fun k hk => own5.lt k hk
  obtain ⟨vs, hp, hq⟩ := h.pr
  have hnms : (nms (S.acc ++ [(⟨s, l, 0⟩ : Acc)])).map Value.string = (nms S.acc).map Value.string ++ [.string s] := by simp [nms]
  have hlst : (leasts (S.acc ++ [(⟨s, l, 0⟩ : Acc)])).map (Value.int .i64) = (leasts S.acc).map (Value.int .i64) ++ [.int .i64 l] := by simp [leasts]
  have hlen : (S.acc ++ [(⟨s, l, 0⟩ : Acc)]).length = S.acc.length + 1 := by simp
  refine ⟨fun k => I k ∨ v2.ownBlock = some k ∨ v5.ownBlock = some k, { R with nv := v2, lv := v5 }, ⟨?_, ?_, ?_, ?_, ?_, ?_, ⟨vs, ?_, fun i p e => ?_⟩, fun k q => .inr (.inl q), fun k q => .inr (.inr q), fun k q => .inl (h.pi k q), ?_, ?_⟩, ⟨?_, ?_, ?_, ?_, ?_, fun k q => .inl q, fun k q => .inl q, ?_⟩, rfl⟩
  · simpa [go_sem] using e0
  · exact World.cell?_setCell_same' w5 ⟨R.r, 1, none⟩ _ (by rw [e1]; rfl)
  · simpa [go_sem] using e2
  · intro o; exact (World.frozen?_setCell _ _ _ _).trans (fro_stay (qf o) (B5.block _ hr3))
  · show (w5.setCell ⟨R.r, 1, none⟩ v5).ownsRow 0 9 1 v2 (S.acc ++ [(⟨s, l, 0⟩ : Acc)]).length _
    rw [hnms, hlen]
    exact own_stays (own_zero own2) (fun k hk => (hV k (by have := l2 k hk; omega)).trans ((B5.block k (by have := l2 k hk; omega)).trans (h3 k (by have := l2 k hk; omega))))
  · show (w5.setCell ⟨R.r, 1, none⟩ v5).ownsRow 0 2 1 v5 (S.acc ++ [(⟨s, l, 0⟩ : Acc)]).length _
    rw [hlst, hlen]
    exact own_stays (own_zero own5) (fun k hk => hV k (by have := l5 k hk; omega))
  · exact own_stays hp (fun k hk => hK k (hp.lt k hk).2 (hI k (h.pi k hk)))
  · obtain ⟨v, e1, e2, e3⟩ := hq i p e
    exact ⟨v, e1, own_stays e2 (fun k q => hK k (h.ilt k (e3 k q)) (hI k (e3 k q))), fun k q => .inl (e3 k q)⟩
  · show ¬ (I R.r ∨ _ ∨ _)
    rintro (q | q | q)
    · exact h.imm q
    · have := l2 R.r q; omega
    · have := l5 R.r q; omega
  · rintro k (q | q | q)
    · have := h.ilt k q; simp; omega
    · have := l2 k q; simp; omega
    · have := l5 k q; simp; omega
  · show w5.os = w.os
    rw [B5.os, hW]; exact B2.os
  · show w5.tape = w.tape
    rw [B5.tape, hW]; exact B2.tape
  · show w5.output = w.output
    rw [B5.output, hW]; exact B2.output
  · simp; omega
  · exact fun k hk hn => hK k hk hn
  · rintro k (q | q | q) hn
    · exact absurd q hn
    · have := l2 k q; simp; omega
    · have := l5 k q; simp; omega
set_option maxRecDepth 100000 in
set_option maxHeartbeats 2000000 in
theorem Open_rok (I : Nat → Prop) (R : RP) (S : LS) (s : ByteArray) (l : Int) (w : World) (h : RObj I R S w) (hn : goodName s) (h1 : -70368744177664 ≤ l) (h2 : l ≤ 0) (hi : idx (nms S.acc) s = none) (hf : S.acc.length < 65536) : Calls Try.prog 32 #[.pointer (some ⟨R.r, 0, none⟩), .string s, .int .i64 l] w (OpenR I R S s l w) := by
  have H := hide h
  have HN := hide hn
  have HI := hide hi
  obtain ⟨na, nc, hnv⟩ := own_any h.nr
  obtain ⟨la, lc, hlv⟩ := own_any h.lr
  have c0 : w.cell? ⟨R.r, 0, none⟩ = some (.slice na S.acc.length nc) := by rw [← hnv]; exact h.c0
  have C1 := hide (show w.cell? ⟨R.r, 1, none⟩ = some (.slice la S.acc.length lc) by rw [← hlv]; exact h.c1)
  have HNR := hide (show w.ownsRow 0 9 1 (.slice na S.acc.length nc) S.acc.length ((nms S.acc).map Value.string) by rw [← hnv]; exact h.nr)
  have HLR := hide (show w.ownsRow 0 2 1 (.slice la S.acc.length lc) S.acc.length ((leasts S.acc).map (Value.int .i64)) by rw [← hlv]; exact h.lr)
  have HNE := hide (show ∀ k, (Value.slice la S.acc.length lc).ownBlock = some k → k ≠ R.r from fun k hk e => h.imm (e ▸ h.li k (by rw [hlv]; exact hk)))
  have d1 : decide (0 < l) = false := by (rw [decide_eq_false_iff_not]; omega)
  have d2 : decide (l < -70368744177664) = false := by (rw [decide_eq_false_iff_not]; omega)
  have d3 : decide ((65536 : Int) ≤ (S.acc.length : Int)) = false := by (rw [decide_eq_false_iff_not]; omega)
  have HF := hide hf
  have hrz := h.lt
  obtain ⟨i9, hi9, hz9, hs9, hb9⟩ := info_parts info9
  obtain ⟨i2, hi2, hz2, hs2, hb2⟩ := info_parts info2
  clear h hn hi h1 h2 hf hnv hlv
  go_enter Try.func32, Try.ntmps32
  go_wp2_with fail
  refine (Check54_ok s w HN.out.1 HN.out.2).mono ?_
  rintro e w1 ⟨rfl, rfl⟩
  go_wp2_with fail
  refine (Find_r I R S s w H.out (by have := HF.out; omega)).mono ?_
  rintro e w1 ⟨rfl, rfl⟩
  rw [idxV_none HI.out]
  go_wp2_with (at_builtin; refine wpList_append_copy _ rfl _ _ 22 rfl 0 9 i9 _ 1 16 Try.underlying22 hi9 hz9 hs9 hb9 rfl (by decide) rfl _ _ _ rfl HNR.out (onestr _) (by have := HF.out; unfold maxLen; omega) (by have := HF.out; omega) (nil22 _) ?_; intro v1 w1 own1 hg1; obtain ⟨a1, p1, rfl⟩ := own_any own1; have O1 := hide own1; have G1 := hide hg1; clear own1 hg1; refine Hid.out ?_)
  have B1 := hide (show Below w.heap.size w (w1.alloc (.cells #[.string s] 9)) from ((Below.refl _ _).grown G1.out (Nat.le_refl _) (fun k hk => by cases hk)).alloc G1.out.size _)
  have ONE1 := hide (show ∀ u ∈ [Value.string s], u.oneCell' = true from fun u hu => by simp at hu; subst hu; rfl)
  have z1 := G1.out.size
  refine hide ?_
  go_wp2_with (at_builtin; refine wpList_append_own _ rfl _ _ 22 rfl w.heap.size 9 i9 _ 1 16 Try.underlying22 hi9 hz9 hs9 hb9 rfl (by decide) _ _ _ rfl (O1.out.alloc _) ⟨w1.heap.size, 0, none⟩ 1 1 [.string s] rfl rfl (cell_one_new _ _ _) ONE1.out (by have := HF.out; unfold maxLen; omega) (by have := HF.out; omega) (by simp; omega) ?_; intro v2 w2 own2 hg2 _; obtain ⟨a2, p2, rfl⟩ := own_any own2; have O2 := hide own2; have G2 := hide hg2; clear own2 hg2; refine Hid.out ?_)
  have B2 := hide (B1.out.grown G2.out B1.out.size (fun k hk => (O1.out.lt k hk).1))
  have z2 := B2.out.size
  have e0 : w2.cell? ⟨R.r, 0, none⟩ = some (.slice na S.acc.length nc) := cell_stay c0 (B2.out.block _ hrz)
  have f0 : w2.frozen? ⟨R.r, 0, none⟩ = false := fro_stay (H.out.cf 0) (B2.out.block _ hrz)
  have e1 : w2.cell? ⟨R.r, 1, none⟩ = some (.slice la S.acc.length lc) := cell_stay C1.out (B2.out.block _ hrz)
  have f1 : w2.frozen? ⟨R.r, 1, none⟩ = false := fro_stay (H.out.cf 1) (B2.out.block _ hrz)
  refine hide ?_
  go_wp2_with (at_builtin; refine Hid.out ?_)
  obtain ⟨W3, hW3⟩ : ∃ W3, W3 = w2.setCell ⟨R.r, 0, none⟩ (.slice a2 (S.acc.length + 1) p2) := ⟨_, rfl⟩
  rw [← hW3]
  have g0 : W3.cell? ⟨R.r, 0, none⟩ = some (.slice a2 (S.acc.length + 1) p2) := by rw [hW3]; exact World.cell?_setCell_same' w2 ⟨R.r, 0, none⟩ _ (by rw [e0]; rfl)
  have g1 : W3.cell? ⟨R.r, 1, none⟩ = some (.slice la S.acc.length lc) := by rw [hW3]; simp [go_sem, e1]
  have k1 : W3.frozen? ⟨R.r, 1, none⟩ = false := by rw [hW3, World.frozen?_setCell]; exact f1
  have HO3 := hide (show ∀ k, k ≠ R.r → W3.heap[k]? = w2.heap[k]? from fun k hk => by rw [hW3]; exact heap_setCell_other _ _ _ _ hk)
  have z3 : W3.heap.size = w2.heap.size := by rw [hW3]; simp
  have HZ3 := hide z3
  have HW3 := hide hW3
  have HL3 := hide (own_stays HLR.out (w' := W3) (fun k hk => (HO3.out k (HNE.out k hk)).trans (B2.out.block k (HLR.out.lt k hk).2)))
  clear e0 f0 e1 f1 hW3 z3 c0
  refine hide ?_
  refine wpList_append_copy _ rfl _ _ 30 rfl 0 2 i2 _ 1 8 Try.underlying30 hi2 hz2 hs2 hb2 rfl (by decide) rfl _ _ _ rfl HL3.out (oneint _) (by have := HF.out; unfold maxLen; omega) (by have := HF.out; omega) (nil30 _) ?_
  intro v4 w4 own4 hg4
  obtain ⟨a4, p4, rfl⟩ := own_any own4
  have O4 := hide own4
  have G4 := hide hg4
  clear own4 hg4
  have B4 := hide (show Below W3.heap.size W3 (w4.alloc (.cells #[.int .i64 l] 2)) from ((Below.refl _ _).grown G4.out (Nat.le_refl _) (fun k hk => by cases hk)).alloc G4.out.size _)
  have ONE4 := hide (show ∀ u ∈ [Value.int .i64 l], u.oneCell' = true from fun u hu => by simp at hu; subst hu; rfl)
  have z4 := G4.out.size
  go_wp2_with (at_builtin; refine wpList_append_own _ rfl _ _ 30 rfl W3.heap.size 2 i2 _ 1 8 Try.underlying30 hi2 hz2 hs2 hb2 rfl (by decide) _ _ _ rfl (O4.out.alloc _) ⟨w4.heap.size, 0, none⟩ 1 1 [.int .i64 l] rfl rfl (cell_one_new _ _ _) ONE4.out (by have := HF.out; unfold maxLen; omega) (by have := HF.out; omega) (by simp; omega) ?_; intro v5 w5 own5 hg5 _; obtain ⟨a5, p5, rfl⟩ := own_any own5; have O5 := hide own5; have G5 := hide hg5; clear own5 hg5; refine Hid.out ?_)
  have B5 := hide (B4.out.grown G5.out B4.out.size (fun k hk => (O4.out.lt k hk).1))
  have hr3 : R.r < W3.heap.size := by rw [HZ3.out]; omega
  have e0 : w5.cell? ⟨R.r, 0, none⟩ = some (.slice a2 (S.acc.length + 1) p2) := cell_stay g0 (B5.out.block _ hr3)
  have e1 : w5.cell? ⟨R.r, 1, none⟩ = some (.slice la S.acc.length lc) := cell_stay g1 (B5.out.block _ hr3)
  have f1 : w5.frozen? ⟨R.r, 1, none⟩ = false := fro_stay k1 (B5.out.block _ hr3)
  have a0 : wrap64 (S.acc.length : Int) = (S.acc.length : Int) := by rw [← IntWalk.i64_left]; exact IntWalk.i64_in _ (by have := HF.out; constructor <;> omega)
  refine hide ?_
  go_wp2
  refine bodyPost_ret (v := .tuple #[.int .i64 (S.acc.length : Int), .int .i64 0]) (by simp [results, Try.f32, go_sem, a0]) rfl ⟨rfl, ?_⟩
  exact Open_rclose H.out B2.out O2.out HW3.out B5.out O5.out
end Go.Proofs.Ytkdocoibfclfeaa

namespace Go.Proofs.Ytkdocoibfclfeaa
open Go.ChangeShapes Go.WideShapes Go.ChangeAt Go.RowKit Go.Deep Go.Maps Go.ChangeMaps Go.WideMaps
set_option linter.unusedSimpArgs false
set_option linter.unusedVariables false

set_option maxHeartbeats 1000000 in
theorem Open_rname (R : RP) (s : ByteArray) (l : Int) (w : World) (hn : ¬ goodName s) : Calls Try.prog 32 #[.pointer (some ⟨R.r, 0, none⟩), .string s, .int .i64 l] w fun e w' => e = .returned (.tuple #[.int .i64 0, .int .i64 2]) ∧ w = w' := by
  have HN := hide hn
  clear hn
  go_enter Try.func32, Try.ntmps32
  go_wp2_with fail
  refine (Check54_bad s w HN.out).mono ?_
  rintro e w1 ⟨rfl, rfl⟩
  go_wp2
  refine bodyPost_ret (v := .tuple #[.int .i64 0, .int .i64 2]) (by simp [results, Try.f32, go_sem]) rfl ⟨rfl, rfl⟩

set_option maxHeartbeats 1000000 in
theorem Open_rhigh (R : RP) (s : ByteArray) (l : Int) (w : World) (hn : goodName s) (hl : 0 < l) : Calls Try.prog 32 #[.pointer (some ⟨R.r, 0, none⟩), .string s, .int .i64 l] w fun e w' => e = .returned (.tuple #[.int .i64 0, .int .i64 2]) ∧ w = w' := by
  have HN := hide hn
  have d1 : decide (0 < l) = true := by (rw [decide_eq_true_iff]; exact hl)
  clear hn
  go_enter Try.func32, Try.ntmps32
  go_wp2_with fail
  refine (Check54_ok s w HN.out.1 HN.out.2).mono ?_
  rintro e w1 ⟨rfl, rfl⟩
  go_wp2
  refine bodyPost_ret (v := .tuple #[.int .i64 0, .int .i64 2]) (by simp [results, Try.f32, go_sem]) rfl ⟨rfl, rfl⟩

set_option maxHeartbeats 1000000 in
theorem Open_rlow (R : RP) (s : ByteArray) (l : Int) (w : World) (hn : goodName s) (hl : l < -70368744177664) : Calls Try.prog 32 #[.pointer (some ⟨R.r, 0, none⟩), .string s, .int .i64 l] w fun e w' => e = .returned (.tuple #[.int .i64 0, .int .i64 2]) ∧ w = w' := by
  have HN := hide hn
  have d1 : decide (0 < l) = false := by (rw [decide_eq_false_iff_not]; omega)
  have d2 : decide (l < -70368744177664) = true := by (rw [decide_eq_true_iff]; exact hl)
  clear hl
  clear hn
  go_enter Try.func32, Try.ntmps32
  go_wp2_with fail
  refine (Check54_ok s w HN.out.1 HN.out.2).mono ?_
  rintro e w1 ⟨rfl, rfl⟩
  go_wp2
  refine bodyPost_ret (v := .tuple #[.int .i64 0, .int .i64 2]) (by simp [results, Try.f32, go_sem]) rfl ⟨rfl, rfl⟩

theorem Open_rbad (R : RP) (s : ByteArray) (l : Int) (w : World) (hb : ¬ (goodName s ∧ -maxC ≤ l ∧ l ≤ 0)) : Calls Try.prog 32 #[.pointer (some ⟨R.r, 0, none⟩), .string s, .int .i64 l] w fun e w' => e = .returned (.tuple #[.int .i64 0, .int .i64 2]) ∧ w = w' := by
  by_cases hn : goodName s
  · rcases (by unfold maxC at hb; simp only [hn, true_and] at hb; omega : 0 < l ∨ l < -70368744177664) with q | q
    · exact Open_rhigh R s l w hn q
    · exact Open_rlow R s l w hn q
  · exact Open_rname R s l w hn
set_option maxHeartbeats 1000000 in
theorem Open_rthere (I : Nat → Prop) (R : RP) (S : LS) (s : ByteArray) (l : Int) (i : Nat) (w : World) (h : RObj I R S w) (hn : goodName s) (h1 : -70368744177664 ≤ l) (h2 : l ≤ 0) (hi : idx (nms S.acc) s = some i) (hf : S.acc.length ≤ 65536) : Calls Try.prog 32 #[.pointer (some ⟨R.r, 0, none⟩), .string s, .int .i64 l] w fun e w' => e = .returned (.tuple #[.int .i64 0, .int .i64 5]) ∧ w = w' := by
  have H := hide h
  have HN := hide hn
  have HI := hide hi
  have HF := hide hf
  have d1 : decide (0 < l) = false := by (rw [decide_eq_false_iff_not]; omega)
  have d2 : decide (l < -70368744177664) = false := by (rw [decide_eq_false_iff_not]; omega)
  have d3 : decide ((0 : Int) ≤ (i : Int)) = true := by (rw [decide_eq_true_iff]; omega)
  clear h hn hi h1 h2 hf
  go_enter Try.func32, Try.ntmps32
  go_wp2_with fail
  refine (Check54_ok s w HN.out.1 HN.out.2).mono ?_
  rintro e w1 ⟨rfl, rfl⟩
  go_wp2_with fail
  refine (Find_r I R S s w H.out (by have := HF.out; omega)).mono ?_
  rintro e w1 ⟨rfl, rfl⟩
  rw [idxV_some HI.out]
  go_wp2
  refine bodyPost_ret (v := .tuple #[.int .i64 0, .int .i64 5]) (by simp [results, Try.f32, go_sem]) rfl ⟨rfl, rfl⟩
def PostR (I : Nat → Prop) (R : RP) (S : LS) (p : List Ent) (w : World) (e : Ending) (w' : World) : Prop := e = .returned (.tuple #[.int .i64 (S.posts.length : Int), .int .i64 0]) ∧ ∃ I' R', RObj I' R' ⟨posted S.acc p, S.posts ++ [p]⟩ w' ∧ RTurn I R w I' R' w' ∧ R'.r = R.r
theorem own_base {w : World} {base base' : Nat} {e : TypeId} {size : Nat} {v : Value} {n : Nat} {xs : List Value} (h : w.ownsRow base e size v n xs) (hb : base' ≤ base) : w.ownsRow base' e size v n xs := by
  refine ⟨h.1, h.2.imp id ?_⟩
  rintro ⟨g, cap, cur, e, q, r⟩
  exact ⟨g, cap, cur, e, Nat.le_trans hb q, r⟩
theorem Post_rclose {I : Nat → Prop} {R : RP} {S : LS} {p : List Ent} {w w3 w4 : World} {v3 v4 : Value} {vs : List Value} (h : RObj I R S w) (B4 : Below w.heap.size w w4) (z34 : w3.heap.size ≤ w4.heap.size)
    (own3 : w3.ownsRow w.heap.size 63 2 v3 p.length (flatE p)) (k3 : ∀ k, v3.ownBlock = some k → w4.heap[k]? = w3.heap[k]?) (own4 : w4.ownsRow w.heap.size 33 1 v4 (S.posts.length + 1) (vs ++ [v3]))
    (hvl : vs.length = S.posts.length) (hq : ∀ (i : Nat) (p : List Ent), S.posts[i]? = some p → ∃ v, vs[i]? = some v ∧ PostRow I w v p) :
    ∃ I' R', RObj I' R' ⟨posted S.acc p, S.posts ++ [p]⟩ (w4.setCell ⟨R.r, 2, none⟩ v4) ∧ RTurn I R w I' R' (w4.setCell ⟨R.r, 2, none⟩ v4) ∧ R'.r = R.r := by
  have hr := h.lt
  have z4 := B4.size
  have hV : ∀ k, k ≠ R.r → (w4.setCell ⟨R.r, 2, none⟩ v4).heap[k]? = w4.heap[k]? := fun k hk => heap_setCell_other _ _ _ _ hk
  have hK : ∀ k, k < w.heap.size → k ≠ R.r → (w4.setCell ⟨R.r, 2, none⟩ v4).heap[k]? = w.heap[k]? := fun k hk hn => (hV k hn).trans (B4.block k hk)
  have hI : ∀ k, I k → k ≠ R.r := fun k hk e => h.imm (e ▸ hk)
  have e0 := cell_stay h.c0 (B4.block _ hr)
  have e1 := cell_stay h.c1 (B4.block _ hr)
  have e2 := cell_stay h.c2 (B4.block _ hr)
  have l3 : ∀ k, v3.ownBlock = some k → w.heap.size ≤ k ∧ k < w3.heap.size := fun k hk => own3.lt k hk
  have l4 : ∀ k, v4.ownBlock = some k → w.heap.size ≤ k ∧ k < w4.heap.size := fun k hk => own4.lt k hk
  have en : nms (posted S.acc p) = nms S.acc := posted_nms _ _
  have el : leasts (posted S.acc p) = leasts S.acc := by simp [leasts, posted, Function.comp_def]
  have eL := posted_len S.acc p
  refine ⟨fun k => I k ∨ v3.ownBlock = some k ∨ v4.ownBlock = some k, { R with pv := v4 }, ⟨?_, ?_, ?_, ?_, ?_, ?_, ⟨vs ++ [v3], ?_, fun i p' e => ?_⟩, fun k q => .inl (h.ni k q), fun k q => .inl (h.li k q), fun k q => .inr (.inr q), ?_, ?_⟩, ⟨?_, ?_, ?_, ?_, ?_, fun k q => .inl q, fun k q => .inl q, ?_⟩, rfl⟩
  · simpa [go_sem] using e0
  · simpa [go_sem] using e1
  · exact World.cell?_setCell_same' w4 ⟨R.r, 2, none⟩ _ (by rw [e2]; rfl)
  · intro o; exact (World.frozen?_setCell _ _ _ _).trans (fro_stay (h.cf o) (B4.block _ hr))
  · show (w4.setCell ⟨R.r, 2, none⟩ v4).ownsRow 0 9 1 R.nv (posted S.acc p).length ((nms (posted S.acc p)).map Value.string)
    rw [en, eL]
    exact own_stays h.nr (fun k hk => hK k (h.nr.lt k hk).2 (hI k (h.ni k hk)))
  · show (w4.setCell ⟨R.r, 2, none⟩ v4).ownsRow 0 2 1 R.lv (posted S.acc p).length ((leasts (posted S.acc p)).map (Value.int .i64))
    rw [el, eL]
    exact own_stays h.lr (fun k hk => hK k (h.lr.lt k hk).2 (hI k (h.li k hk)))
  · show (w4.setCell ⟨R.r, 2, none⟩ v4).ownsRow 0 33 1 v4 (S.posts ++ [p]).length _
    rw [show (S.posts ++ [p]).length = S.posts.length + 1 by simp]
    exact own_stays (own_zero own4) (fun k hk => hV k (by have := l4 k hk; omega))
  · have e' : (S.posts ++ [p])[i]? = some p' := e
    rcases Nat.lt_or_ge i S.posts.length with hlt | hge
    · rw [List.getElem?_append_left hlt] at e'
      obtain ⟨v, e1, e2, e3⟩ := hq i p' e'
      exact ⟨v, by rw [List.getElem?_append_left (by omega)]; exact e1, own_stays e2 (fun k q => hK k (h.ilt k (e3 k q)) (hI k (e3 k q))), fun k q => .inl (e3 k q)⟩
    · rw [List.getElem?_append_right hge] at e'
      have hi0 : i - S.posts.length = 0 := by
        rcases Nat.eq_zero_or_pos (i - S.posts.length) with q | q
        · exact q
        · rw [List.getElem?_eq_none (by simp; omega)] at e'; cases e'
      rw [hi0] at e'
      cases e'
      refine ⟨v3, by rw [List.getElem?_append_right (by omega), hvl, hi0]; rfl, own_stays (own_zero own3) (fun k q => (hV k (by have := l3 k q; omega)).trans (k3 k q)), fun k q => .inr (.inl q)⟩
  · show ¬ (I R.r ∨ _ ∨ _)
    rintro (q | q | q)
    · exact h.imm q
    · have := l3 R.r q; omega
    · have := l4 R.r q; omega
  · rintro k (q | q | q)
    · have := h.ilt k q; simp; omega
    · have := l3 k q; simp; omega
    · have := l4 k q; simp; omega
  · show w4.os = w.os
    exact B4.os
  · show w4.tape = w.tape
    exact B4.tape
  · show w4.output = w.output
    exact B4.output
  · simp; omega
  · exact fun k hk hn => hK k hk hn
  · rintro k (q | q | q) hn
    · exact absurd q hn
    · have := l3 k q; simp; omega
    · have := l4 k q; simp; omega
set_option maxRecDepth 100000 in
set_option maxHeartbeats 2000000 in
theorem Post_ryes (I : Nat → Prop) (R : RP) (S : LS) (so : Option Addr) (cap : Nat) (p : List Ent) (w : World) (h : RObj I R S w) (hE : Ents so cap p w) (hS : Fine S) (hA : Agree S) (hm : mayE S.acc p = 0) : Calls Try.prog 35 #[.pointer (some ⟨R.r, 0, none⟩), .slice so p.length cap] w (PostR I R S p w) := by
  have H := hide h
  have HE := hide hE
  have HS := hide hS
  have HA := hide hA
  have HM := hide hm
  have hf := (may0 hm).1
  obtain ⟨vs, hrow, hposts⟩ := h.pr
  have HVS := hide (show (∀ u ∈ vs, u.oneCell' = true) ∧ vs.length = S.posts.length from ⟨fun u hu => by
    obtain ⟨i, hi⟩ := List.getElem?_of_mem hu
    have hl : i < S.posts.length := by
      have := (List.getElem?_eq_some_iff.1 hi).1
      have q := hrow.1
      omega
    obtain ⟨v, hv, hp⟩ := hposts i _ (List.getElem?_eq_getElem hl)
    rw [hi] at hv
    cases hv
    obtain ⟨ao, cap, rfl⟩ := own_any hp.1
    rfl, by have := hrow.1; omega⟩)
  obtain ⟨pa, pc, hpv⟩ := own_any hrow
  have HROW := hide (show w.ownsRow 0 33 1 (.slice pa S.posts.length pc) S.posts.length vs by rw [← hpv]; exact hrow)
  have HPO := hide hposts
  have c2 : w.cell? ⟨R.r, 2, none⟩ = some (.slice pa S.posts.length pc) := by rw [← hpv]; exact h.c2
  have hrz := h.lt
  obtain ⟨g, off, rfl, -⟩ := hE.spot hf.1
  obtain ⟨i33, hi33, hz33, hs33, hb33⟩ := info_parts info33
  obtain ⟨i63, hi63, hz63, hs63, hb63⟩ := info_parts info63
  have HFM := hide hf
  clear h hE hS hA hm hf hrow hposts hpv
  go_enter Try.func35, Try.ntmps35
  go_wp2_with fail
  refine (May_r I R S _ cap p w H.out HE.out HS.out HA.out).mono ?_
  rintro e w0 ⟨rfl, hb0⟩
  rw [HM.out]
  have HB0 := hide hb0
  have HR0 := hide (own_stays HROW.out (w' := w0) (fun k hk => hb0.block k (HROW.out.lt k hk).2))
  have HE0 := hide (HE.out.below hb0)
  have c20 := cell_stay c2 (hb0.block _ hrz)
  have z0 := hb0.size
  clear hb0
  go_wp2_with (at_builtin; refine wpList_append_copy _ rfl _ _ 23 rfl 0 33 i33 _ 1 24 Try.underlying23 hi33 hz33 hs33 hb33 rfl (by decide) rfl _ _ _ rfl HR0.out HVS.out.1 (by have := HA.out.few; unfold maxLen; omega) (by have := HA.out.few; omega) (nil23 _) ?_; intro v1 w1 own1 hg1; obtain ⟨a1, p1, rfl⟩ := own_any own1; have O1 := hide own1; have G1 := hide hg1; clear own1 hg1; refine Hid.out ?_)
  have B1 := hide (show Below w0.heap.size w0 w1 from (Below.refl _ _).grown G1.out (Nat.le_refl _) (fun k hk => by cases hk))
  have HE1 := hide (HE0.out.below B1.out)
  have z1 := B1.out.size
  refine hide ?_
  go_wp2_with (at_builtin; refine wpList_append_own _ rfl _ _ 33 rfl w1.heap.size 63 i63 _ 2 24 Try.underlying33 hi63 hz63 hs63 hb63 rfl (by decide) (.slice none 0 0) 0 [] rfl (World.ownsRow_nil _ _ _ _) ⟨g, off, none⟩ p.length cap (flatE p) rfl (flatE_len p) (HE1.out.cells _ rfl) (flatE_one p) (by have := HFM.out.2.1; unfold maxLen; omega) (by have := HFM.out.2.1; omega) (Nat.le_refl _) ?_; intro v2 w2 own2 hg2 _; rw [Nat.zero_add, List.nil_append] at own2; obtain ⟨a2, p2, rfl⟩ := own_any own2; have O2 := hide own2; have G2 := hide hg2; clear own2 hg2; refine Hid.out ?_)
  have B12 := hide (show Below w1.heap.size w1 w2 from (Below.refl _ _).grown G2.out (Nat.le_refl _) (fun k hk => by cases hk))
  have z2 := B12.out.size
  have B2 := hide (show Below w.heap.size w (w2.alloc (.cells #[.slice a2 p.length p2] 33)) from ((bstep (bstep HB0.out B1.out) B12.out)).alloc (by omega) _)
  have O12 := hide (own_stays O1.out (fun k hk => B12.out.block k (O1.out.lt k hk).2))
  have ONE2 := hide (show ∀ u ∈ [Value.slice a2 p.length p2], u.oneCell' = true from fun u hu => by simp at hu; subst hu; rfl)
  refine hide ?_
  go_wp2_with (at_builtin; refine wpList_append_own _ rfl _ _ 23 rfl w0.heap.size 33 i33 _ 1 24 Try.underlying23 hi33 hz33 hs33 hb33 rfl (by decide) (.slice a1 S.posts.length p1) S.posts.length vs rfl (O12.out.alloc _) ⟨w2.heap.size, 0, none⟩ 1 1 [.slice a2 p.length p2] rfl rfl (cell_one_new _ _ _) ONE2.out (by have := HA.out.few; unfold maxLen; omega) (by have := HA.out.few; omega) (by simp; omega) ?_; intro v3 w3 own3 hg3 _; obtain ⟨a3, p3, rfl⟩ := own_any own3; have O3 := hide own3; have G3 := hide hg3; clear own3 hg3; refine Hid.out ?_)
  have hl1 : ∀ k, (Value.slice a1 S.posts.length p1).ownBlock = some k → w0.heap.size ≤ k ∧ k < w1.heap.size := fun k hk => O1.out.lt k hk
  have HL1 := hide hl1
  have B3 := hide (B2.out.grown G3.out B2.out.size (fun k hk => by have := hl1 k hk; omega))
  have HK3 := hide (show ∀ k, (Value.slice a2 p.length p2).ownBlock = some k → w3.heap[k]? = w2.heap[k]? from fun k hk => by
    have := O2.out.lt k hk
    exact (G3.out.block k (by simp; omega) (fun e => by have := hl1 k e.symm; omega)).trans (Below.heap_alloc w2 _ k this.2))
  have z3 := G3.out.size
  simp only [World.size_alloc] at z3
  have e2 : w3.cell? ⟨R.r, 2, none⟩ = some (.slice pa S.posts.length pc) := cell_stay c2 (B3.out.block _ hrz)
  have f2 : w3.frozen? ⟨R.r, 2, none⟩ = false := fro_stay (H.out.cf 2) (B3.out.block _ hrz)
  have a0 : wrap64 (S.posts.length : Int) = (S.posts.length : Int) := by rw [← IntWalk.i64_left]; exact IntWalk.i64_in _ (by have := HA.out.few; constructor <;> omega)
  clear hl1
  refine hide ?_
  go_wp2
  refine bodyPost_ret (v := .tuple #[.int .i64 (S.posts.length : Int), .int .i64 0]) (by simp [results, Try.f35, go_sem, a0]) rfl ⟨rfl, ?_⟩
  exact Post_rclose H.out B3.out (by omega) (own_base O2.out (by omega)) HK3.out (own_base O3.out (by omega)) HVS.out.2 HPO.out
set_option maxHeartbeats 1000000 in
theorem Post_rno (I : Nat → Prop) (R : RP) (S : LS) (so : Option Addr) (cap : Nat) (p : List Ent) (w : World) (h : RObj I R S w) (hE : Ents so cap p w) (hS : Fine S) (hA : Agree S) (hm : mayE S.acc p ≠ 0) : Calls Try.prog 35 #[.pointer (some ⟨R.r, 0, none⟩), .slice so p.length cap] w fun e w' => e = .returned (.tuple #[.int .i64 0, .int .i64 (mayE S.acc p)]) ∧ Below w.heap.size w w' := by
  have Q := hide (May_r I R S so cap p w h hE hS hA)
  obtain ⟨m, hme⟩ : ∃ m, m = mayE S.acc p := ⟨_, rfl⟩
  rw [← hme] at hm Q ⊢
  have e1 : (m == 0) = false := by (rw [beq_eq_false_iff_ne]; exact hm)
  have e2 : (m != 0) = true := by (rw [bne_iff_ne]; exact hm)
  have e3 : decide (m = 0) = false := by (rw [decide_eq_false_iff_not]; exact hm)
  clear h hE hS hA hm hme
  go_enter Try.func35, Try.ntmps35
  go_wp2_with fail
  refine Q.out.mono ?_
  rintro e w0 ⟨rfl, hb0⟩
  go_wp2_with fail
  refine bodyPost_ret (v := .tuple #[.int .i64 0, .int .i64 m]) (by simp [results, Try.f35, go_sem]) rfl ⟨rfl, hb0⟩
def PostRAny (I : Nat → Prop) (R : RP) (S : LS) (p : List Ent) (w : World) (e : Ending) (w' : World) : Prop :=
  (mayE S.acc p ≠ 0 ∧ e = .returned (.tuple #[.int .i64 0, .int .i64 (mayE S.acc p)]) ∧ Below w.heap.size w w') ∨ (mayE S.acc p = 0 ∧ PostR I R S p w e w')
theorem Post_r (I : Nat → Prop) (R : RP) (S : LS) (so : Option Addr) (cap : Nat) (p : List Ent) (w : World) (h : RObj I R S w) (hE : Ents so cap p w) (hS : Fine S) (hA : Agree S) : Calls Try.prog 35 #[.pointer (some ⟨R.r, 0, none⟩), .slice so p.length cap] w (PostRAny I R S p w) := by
  by_cases hm : mayE S.acc p = 0
  · exact (Post_ryes I R S so cap p w h hE hS hA hm).mono fun e w' q => .inr ⟨hm, q⟩
  · exact (Post_rno I R S so cap p w h hE hS hA hm).mono fun e w' q => .inl ⟨hm, q⟩
end Go.Proofs.Ytkdocoibfclfeaa

namespace Go.Proofs.Ytkdocoibfclfeaa
open Go.ChangeShapes Go.WideShapes Go.ChangeAt Go.RowKit Go.Deep Go.Maps Go.ChangeMaps Go.WideMaps
set_option linter.unusedSimpArgs false
set_option linter.unusedVariables false

set_option maxHeartbeats 1000000 in
theorem Account_rno (I : Nat → Prop) (R : RP) (S : LS) (x : Int) (w : World) (h : RObj I R S w) (hx : x < 0 ∨ S.acc.length ≤ x) : Calls Try.prog 40 #[.pointer (some ⟨R.r, 0, none⟩), .int .i64 x] w fun e w' => e = .returned (.tuple #[.agg #[.string ⟨#[]⟩, .int .i64 0, .int .i64 0], .int .i64 4]) ∧ Below w.heap.size w w' := by
  obtain ⟨na, nc, hnv⟩ := own_any h.nr
  have hr := h.lt
  have c0 : (w.alloc (.cells #[.string ⟨#[]⟩, .int .i64 0, .int .i64 0] 70)).cell? ⟨R.r, 0, none⟩ = some (.slice na S.acc.length nc) := by
    rw [← hnv]; exact cell_stay h.c0 (Below.heap_alloc _ _ _ hr)
  clear h hnv
  by_cases h0 : x < 0
  · have n0 : decide (x < 0) = true := by (rw [decide_eq_true_iff]; exact h0)
    clear hx h0
    go_enter Try.func40, Try.ntmps40
    go_wp2_with fail
    refine bodyPost_ret (v := .tuple #[.agg #[.string ⟨#[]⟩, .int .i64 0, .int .i64 0], .int .i64 4]) (by simp [results, Try.f40, go_sem]) rfl ⟨rfl, by (focus repeat' (first | (with_reducible exact Below.refl _ _) | (with_reducible assumption) | (with_reducible refine Below.alloc ?_ ?_ _) | (with_reducible refine Below.drew ?_) | (with_reducible refine bdrewN ?_ _) | (with_reducible refine Below.setCell ?_ ?_ _) | (first | (with_reducible exact Nat.le_refl _) | (with_reducible assumption) | omega | (simp; omega) | (simp; done))))⟩
  · have n0 : decide (x < 0) = false := by (rw [decide_eq_false_iff_not]; exact h0)
    have n1 : decide ((S.acc.length : Int) ≤ x) = true := by (rw [decide_eq_true_iff]; omega)
    clear hx h0
    go_enter Try.func40, Try.ntmps40
    go_wp2_with fail
    refine bodyPost_ret (v := .tuple #[.agg #[.string ⟨#[]⟩, .int .i64 0, .int .i64 0], .int .i64 4]) (by simp [results, Try.f40, go_sem]) rfl ⟨rfl, by (focus repeat' (first | (with_reducible exact Below.refl _ _) | (with_reducible assumption) | (with_reducible refine Below.alloc ?_ ?_ _) | (with_reducible refine Below.drew ?_) | (with_reducible refine bdrewN ?_ _) | (with_reducible refine Below.setCell ?_ ?_ _) | (first | (with_reducible exact Nat.le_refl _) | (with_reducible assumption) | omega | (simp; omega) | (simp; done))))⟩
set_option maxRecDepth 100000 in
set_option maxHeartbeats 2000000 in
theorem Account_ryes (I : Nat → Prop) (R : RP) (S : LS) (n : Nat) (a : Acc) (w : World) (h : RObj I R S w) (hS : Fine S) (hA : Agree S) (ha : S.acc[n]? = some a) : Calls Try.prog 40 #[.pointer (some ⟨R.r, 0, none⟩), .int .i64 (n : Int)] w fun e w' => e = .returned (.tuple #[.agg #[.string a.name, .int .i64 a.least, .int .i64 a.has], .int .i64 0]) ∧ Below w.heap.size w w' := by
  have hn : n < S.acc.length := (List.getElem?_eq_some_iff.1 ha).1
  obtain ⟨W, hW⟩ : ∃ W, W = w.alloc (.cells #[.string ⟨#[]⟩, .int .i64 0, .int .i64 0] 70) := ⟨_, rfl⟩
  have hbW : Below w.heap.size w W := by rw [hW]; (focus repeat' (first | (with_reducible exact Below.refl _ _) | (with_reducible assumption) | (with_reducible refine Below.alloc ?_ ?_ _) | (with_reducible refine Below.drew ?_) | (with_reducible refine bdrewN ?_ _) | (with_reducible refine Below.setCell ?_ ?_ _) | (first | (with_reducible exact Nat.le_refl _) | (with_reducible assumption) | omega | (simp; omega) | (simp; done))))
  have hw0 : ∀ o, W.cell? ⟨w.heap.size, o, none⟩ = (#[Value.string ⟨#[]⟩, .int .i64 0, .int .i64 0] : Array Value)[o]? := fun o => by rw [hW]; simp [go_sem]
  have hwf : ∀ o, W.frozen? ⟨w.heap.size, o, none⟩ = false := fun o => by rw [hW]; simp [go_sem]
  have hO := h.below hbW
  have H := hide hO
  obtain ⟨gn, cn, hnv, hcn⟩ := own_at hO.nr hn
  obtain ⟨gl, cl, hlv, hcl⟩ := own_at hO.lr hn
  have c0 : W.cell? ⟨R.r, 0, none⟩ = some (.slice (some ⟨gn, 0, none⟩) S.acc.length cn) := by rw [← hnv]; exact hO.c0
  have c1 : W.cell? ⟨R.r, 1, none⟩ = some (.slice (some ⟨gl, 0, none⟩) S.acc.length cl) := by rw [← hlv]; exact hO.c1
  have e0 : W.cell? ⟨gn, n, none⟩ = some (.string a.name) := by rw [hcn]; simp [nms, ha]
  have e1 : W.cell? ⟨gl, n, none⟩ = some (.int .i64 a.least) := by rw [hcl]; simp [leasts, ha]
  have w0 : W.cell? ⟨w.heap.size, 0, none⟩ = some (.string ⟨#[]⟩) := hw0 0
  have w1 : W.cell? ⟨w.heap.size, 1, none⟩ = some (.int .i64 0) := hw0 1
  have w2 : W.cell? ⟨w.heap.size, 2, none⟩ = some (.int .i64 0) := hw0 2
  have f0 := hwf 0
  have f1 := hwf 1
  have f2 := hwf 2
  have hhas : a.has = ofSum S.posts a.name := hA.has a (List.mem_of_getElem? ha)
  have HOF := hide (show Calls Try.prog 57 #[.pointer (some ⟨R.r, 0, none⟩), .string a.name] W.drew fun e w' => e = .returned (.int .i64 a.has) ∧ w' = W.drew from by
    rw [hhas]
    exact (Of_r I R S a.name _ (hO.below (drewB _)) hS.smalls hA.few).mono (fun e w' h => ⟨h.1, h.2.symm⟩))
  have n0 : decide ((n : Int) < 0) = false := by (rw [decide_eq_false_iff_not]; omega)
  have n1 : decide ((S.acc.length : Int) ≤ (n : Int)) = false := by (rw [decide_eq_false_iff_not]; omega)
  have n2 : (0 : Int) ≤ (n : Int) := by omega
  have n3 : (n : Int) < (S.acc.length : Int) := by omega
  have HBW := hide hbW
  have HW := hide hW
  have c0L := c0
  rw [hW] at c0L
  have HF := hide (And.intro c0 (And.intro c1 (And.intro e0 (And.intro e1 (And.intro w0 (And.intro w1 (And.intro w2 (And.intro f0 (And.intro f1 f2)))))))))
  clear c0 c1 e0 e1 w0 w1 w2 f0 f1 f2
  clear h hS hA ha hO hnv hlv hcn hcl hhas hw0 hwf hbW hW hn
  go_enter Try.func40, Try.ntmps40
  go_wp2_with fail
  rw [← HW.out]
  obtain ⟨c0, c1, e0, e1, w0, w1, w2, f0, f1, f2⟩ := HF.out
  clear c0L
  refine wp_region_still_tail 24 (by kernel_rfl) (by kernel_rfl) ?_
  simp only [List.take_succ_cons, List.take_zero, List.drop_succ_cons, List.drop_zero]
  repeat still_step
  still_call HOF.out
  repeat still_step
  try refine wpStill_nil ?_
  go_wp2
  refine bodyPost_ret (v := .tuple #[.agg #[.string a.name, .int .i64 a.least, .int .i64 a.has], .int .i64 0]) (by simp [results, Try.f40, go_sem, w0, w1, w2]) rfl ⟨rfl, ?_⟩
  exact ((((HBW.out.drew).setCell (p := ⟨w.heap.size, 0, none⟩) (Nat.le_refl _) _).setCell (p := ⟨w.heap.size, 1, none⟩) (Nat.le_refl _) _).setCell (p := ⟨w.heap.size, 2, none⟩) (Nat.le_refl _) _)
theorem flds63 : (Try.prog.fieldsOf 63).toList.map (fun f => (decide (f.name = "_"), f.type, f.offset)) = [(false, 9, 0), (false, 2, 1)] := by kernel_rfl
theorem part63a (a : ByteArray) (x : Int) (w : World) : Sem.run Try.prog (part 9 #[.string a, .int .i64 x] 0) w = .ok (.string a) w := by kernel_rfl
theorem part63b (a : ByteArray) (x : Int) (w : World) : Sem.run Try.prog (part 2 #[.string a, .int .i64 x] 1) w = .ok (.int .i64 x) w := by kernel_rfl
theorem eq63 (a b : ByteArray) (x y : Int) (w : World) : Sem.run Try.prog (Op.equalIn 10000 63 (.agg #[.string a, .int .i64 x]) (.agg #[.string b, .int .i64 y])) w = .ok ((a.toList == b.toList) && (x == y)) w := by
  rw [run_equalIn_agg w 9999 63 _ _ (by kernel_rfl) (by kernel_rfl)]
  have hf := flds63
  generalize (Try.prog.fieldsOf 63).toList = fs at hf
  obtain ⟨f, r, rfl, hf1, hf2⟩ := List.map_eq_cons_iff.1 hf
  obtain ⟨g, r2, rfl, hg1, hg2⟩ := List.map_eq_cons_iff.1 hf2
  obtain rfl : r2 = [] := by simpa using hg2
  simp only [Prod.mk.injEq, decide_eq_false_iff_not] at hf1 hg1
  obtain ⟨h1, h2, h3⟩ := hf1
  obtain ⟨h4, h5, h6⟩ := hg1
  simp only [Op.eqFields, ne_eq, h1, not_false_iff, if_true, h4, h2, h3, h5, h6, Sem.run_bind, part63a, part63b, Result.andThen_ok, run_equalIn_string w 9998 9 _ _ Try.underlying9, run_equalIn_int w 9998 2 _ _ _ _ Try.underlying2]
  cases hab : (a.toList == b.toList) <;> cases hxy : (x == y) <;> simp [part63b, run_equalIn_int w 9998 2 .i64 .i64 x y Try.underlying2, hxy]
theorem neq63 (a b : ByteArray) (x y : Int) (w : World) : Sem.run Try.prog (binOp .neq 63 (.agg #[.string a, .int .i64 x]) (.agg #[.string b, .int .i64 y])) w = .ok (.bool (!((a.toList == b.toList) && (x == y)))) w := by
  rw [run_neq_struct, eq63]; rfl

theorem ent_ext {p q : List Ent} (hl : p.length = q.length) (h : ∀ i, i < p.length → ent p i = ent q i) : p = q := by
  refine List.ext_getElem hl (fun i h1 h2 => ?_)
  have := h i h1
  simpa [ent, List.getD, h1, h2] using this
set_option maxRecDepth 100000 in
set_option maxHeartbeats 2000000 in
theorem SameEntries_loop (so so2 : Option Addr) (cap cap2 : Nat) (p q : List Ent) (w : World) (hp : Ents so cap p w) (hq : Ents so2 cap2 q w) (hl : p.length = q.length) (hm : p.length ≤ 4503599627370496) : Calls Try.prog 36 #[.slice so p.length cap, .slice so2 q.length cap2] w fun e w' => e = .returned (.bool (decide (p = q))) ∧ ∃ m, w' = w.drewN m := by
  have HP := hide hp
  have HQ := hide hq
  have HL := hide hl
  have HM := hide hm
  rw [← hl]
  have q1 : ((p.length : Int) != (p.length : Int)) = false := by simp
  have q2 : ((p.length : Int) == (p.length : Int)) = true := by simp
  clear hp hq hl hm
  go_enter Try.func36, Try.ntmps36
  go_wp2_with fail
  go_loopw [5] (fun v5 wr => ∃ k : Nat, k ≤ p.length ∧ v5 = .int .i64 (k : Int) ∧ (∃ m, wr = w.drewN m) ∧ ∀ i, i < k → ent p i = ent q i) (fun v5 _ => p.length - (intOf v5).toNat)
  case atStart => exact ⟨0, Nat.zero_le _, rfl, ⟨0, rfl⟩, fun i hi => by omega⟩
  case round =>
    obtain ⟨k, hk, rfl, ⟨m0, hm0⟩, hsm⟩ := hrel
    have hbw : Below w.heap.size w wr := by rw [hm0]; exact bdrewN (Below.refl _ _) _
    have HM0 := hide hm0
    clear hm0
    have HSM := hide hsm
    have HBW := hide hbw
    clear hsm hbw
    have hk0 : (0 : Int) ≤ (k : Int) := by omega
    have hk9 : (k : Int) ≤ 4503599627370496 := by have := HM.out; omega
    by_cases hlt : k < p.length
    · have hl2 : (k : Int) < (p.length : Int) := by omega
      obtain ⟨g, off, rfl, hc⟩ := HP.out.spot (by omega)
      obtain ⟨g2, off2, rfl, hc2⟩ := HQ.out.spot (by have := HL.out; omega)
      obtain ⟨c1, c2⟩ := hc k hlt
      obtain ⟨d1, d2⟩ := hc2 k (by have := HL.out; omega)
      have c1 := cell_stay c1 (HBW.out.block _ (World.block_lt_of_cell? w _ c1))
      have c2 := cell_stay c2 (HBW.out.block _ (World.block_lt_of_cell? w _ c2))
      have d1 := cell_stay d1 (HBW.out.block _ (World.block_lt_of_cell? w _ d1))
      have d2 := cell_stay d2 (HBW.out.block _ (World.block_lt_of_cell? w _ d2))
      obtain ⟨a, ha⟩ : ∃ a, a = (ent p k).1 := ⟨_, rfl⟩
      obtain ⟨x, hx⟩ : ∃ x, x = (ent p k).2 := ⟨_, rfl⟩
      obtain ⟨b, hb⟩ : ∃ b, b = (ent q k).1 := ⟨_, rfl⟩
      obtain ⟨y, hy⟩ : ∃ y, y = (ent q k).2 := ⟨_, rfl⟩
      rw [← ha] at c1
      rw [← hx] at c2
      rw [← hb] at d1
      rw [← hy] at d2
      have HAX := hide (show ent p k = (a, x) ∧ ent q k = (b, y) from ⟨by rw [ha, hx], by rw [hb, hy]⟩)
      clear hc hc2 ha hx hb hy
      by_cases e : a = b ∧ x = y
      · obtain ⟨rfl, rfl⟩ := e
        have Q : ∀ w, Sem.run Try.prog (binOp .neq 63 (.agg #[.string a, .int .i64 x]) (.agg #[.string a, .int .i64 x])) w = .ok (.bool false) w := fun w => by rw [neq63]; simp
        go_wp2_with fail
        go_quiet (fail)
        go_wp2_with fail
        go_roundw
        case rel =>
          refine ⟨k + 1, by omega, by go_num, ⟨_, by rw [HM0.out]; exact World.drewN_drewN _ _ _⟩, fun i hi => ?_⟩
          rcases Nat.lt_or_ge i k with r | r
          · exact HSM.out i r
          · obtain rfl : i = k := by omega
            rw [HAX.out.1, HAX.out.2]
        case measure => (first | (simp [intOf]; done) | (simp [intOf]; omega))
      · have Q : ∀ w, Sem.run Try.prog (binOp .neq 63 (.agg #[.string a, .int .i64 x]) (.agg #[.string b, .int .i64 y])) w = .ok (.bool true) w := fun w => by
          rw [neq63]
          by_cases e1 : a = b
          · have e2 : (x == y) = false := by (rw [beq_eq_false_iff_ne]; exact fun q => e ⟨e1, q⟩)
            rw [e2]; simp
          · rw [ba_ne e1]; rfl
        have HNE := hide (show decide (p = q) = false from by
          rw [decide_eq_false_iff_not]
          rintro rfl
          have := HAX.out.1.symm.trans HAX.out.2
          exact e ⟨congrArg Prod.fst this, congrArg Prod.snd this⟩)
        clear e
        go_wp2_with fail
        go_quiet (fail)
        go_wp2_with fail
        refine bodyPost_ret (v := .bool false) (by simp [results, Try.f36, go_sem]) rfl ⟨by rw [HNE.out], ⟨_, by rw [HM0.out]; exact World.drewN_drewN _ _ _⟩⟩
    · have hl2 : ¬ (k : Int) < (p.length : Int) := by omega
      have HEQ := hide (show decide (p = q) = true from by
        rw [decide_eq_true_iff]
        exact ent_ext HL.out (fun i hi => HSM.out i (by omega)))
      go_wp2_with fail
      refine bodyPost_ret (v := .bool true) (by simp [results, Try.f36, go_sem]) rfl ⟨by rw [HEQ.out], ⟨_, HM0.out⟩⟩
set_option maxHeartbeats 1000000 in
theorem SameEntries_d (so so2 : Option Addr) (cap cap2 : Nat) (p q : List Ent) (w : World) (hp : Ents so cap p w) (hq : Ents so2 cap2 q w) (hm : p.length ≤ 4503599627370496) : Calls Try.prog 36 #[.slice so p.length cap, .slice so2 q.length cap2] w fun e w' => e = .returned (.bool (decide (p = q))) ∧ ∃ m, w' = w.drewN m := by
  by_cases hl : p.length = q.length
  · exact SameEntries_loop so so2 cap cap2 p q w hp hq hl hm
  · have HNE := hide (show decide (p = q) = false from by
      rw [decide_eq_false_iff_not]
      intro e; exact hl (by rw [e]))
    have q1 : ((p.length : Int) != (q.length : Int)) = true := by (rw [bne_iff_ne]; omega)
    have q2 : ((p.length : Int) == (q.length : Int)) = false := by (rw [beq_eq_false_iff_ne]; omega)
    have q3 : decide ((p.length : Int) = (q.length : Int)) = false := by (rw [decide_eq_false_iff_not]; omega)
    clear hp hq hm hl
    go_enter Try.func36, Try.ntmps36
    go_wp2_with fail
    refine bodyPost_ret (v := .bool false) (by simp [results, Try.f36, go_sem]) rfl ⟨by rw [HNE.out], ⟨0, rfl⟩⟩
theorem SameEntries_r (so so2 : Option Addr) (cap cap2 : Nat) (p q : List Ent) (w : World) (hp : Ents so cap p w) (hq : Ents so2 cap2 q w) (hm : p.length ≤ 4503599627370496) : Calls Try.prog 36 #[.slice so p.length cap, .slice so2 q.length cap2] w fun e w' => e = .returned (.bool (decide (p = q))) ∧ Below w.heap.size w w' :=
  (SameEntries_d so so2 cap cap2 p q w hp hq hm).mono fun e w' h => ⟨h.1, by obtain ⟨m, hm⟩ := h.2; rw [hm]; exact bdrewN (Below.refl _ _) _⟩
end Go.Proofs.Ytkdocoibfclfeaa

namespace Go.Proofs.Ytkdocoibfclfeaa
open Go.ChangeShapes Go.WideShapes Go.ChangeAt Go.RowKit Go.Deep Go.Maps Go.ChangeMaps Go.WideMaps
set_option linter.unusedSimpArgs false
set_option linter.unusedVariables false

theorem PostRAny.from {I : Nat → Prop} {R : RP} {S : LS} {p : List Ent} {w w1 : World} {e : Ending} {w' : World} (h : PostRAny I R S p w1 e w') (hb : Below w.heap.size w w1) : PostRAny I R S p w e w' := by
  rcases h with ⟨h1, h2, h3⟩ | ⟨h1, h2, I', R', h3, h4, h5⟩
  · exact .inl ⟨h1, h2, bstep hb h3⟩
  · exact .inr ⟨h1, h2, I', R', h3, (Turn.of_below hb).trans h4, h5⟩
theorem new2 {w : World} {x y : Value} {t : TypeId} {B : Nat} (h : B = w.heap.size) : ∀ j u, [x, y][j]? = some u → (w.alloc (.cells #[x, y] t)).cell? ((⟨B, 0, none⟩ : Addr).add j) = some u := by
  subst h
  intro j u hu
  rw [Addr.add_lit]
  rcases j with _ | _ | j
  · simp at hu; subst hu; simp [go_sem]
  · simp at hu; subst hu; simp [go_sem]
  · simp at hu
set_option maxRecDepth 100000 in
set_option maxHeartbeats 2000000 in
theorem Back_rno (I : Nat → Prop) (R : RP) (S : LS) (x : Int) (w : World) (h : RObj I R S w) (hx : x < 0 ∨ S.posts.length ≤ x) : Calls Try.prog 42 #[.pointer (some ⟨R.r, 0, none⟩), .int .i64 x] w fun e w' => e = .returned (.tuple #[.int .i64 0, .int .i64 4]) ∧ w = w' := by
  have H := hide h
  have HX := hide hx
  clear h hx
  go_enter Try.func42, Try.ntmps42
  go_wp2_with fail
  refine (Posting_rno I R S x w H.out HX.out).mono ?_
  rintro e w1 ⟨rfl, rfl⟩
  go_wp2_with fail
  refine bodyPost_ret (v := .tuple #[.int .i64 0, .int .i64 4]) (by simp [results, Try.f42, go_sem]) rfl ⟨rfl, rfl⟩
set_option maxRecDepth 100000 in
set_option maxHeartbeats 2000000 in
theorem Back_ryes (I : Nat → Prop) (R : RP) (S : LS) (n : Nat) (p : List Ent) (w : World) (h : RObj I R S w) (hp : S.posts[n]? = some p) (hS : Fine S) (hA : Agree S) : Calls Try.prog 42 #[.pointer (some ⟨R.r, 0, none⟩), .int .i64 (n : Int)] w (PostRAny I R S (negE p) w) := by
  have H := hide h
  have HP := hide hp
  have HS := hide hS
  have HA := hide hA
  have HFM := hide (hS.frm p (List.mem_of_getElem? hp))
  obtain ⟨i63, hi63, hz63, hs63, hb63⟩ := info_parts info63
  clear h hp hS hA
  go_enter Try.func42, Try.ntmps42
  go_wp2_with fail
  refine (Posting_ryes I R S n p w H.out HP.out).mono ?_
  rintro e w1 ⟨⟨so, cap, rfl, hpr⟩, rfl⟩
  have HE := hide (show Ents so cap p w from by
    obtain ⟨so', cap', e, hE⟩ := Ents.of_own hpr.1
    injection e with e1 e2 e3
    rw [e1, e3]; exact hE)
  clear hpr
  go_wp2_with fail
  go_loopw [8, 9] (fun v8 v9 wr => ∃ k : Nat, k ≤ p.length ∧ v9 = .int .i64 (k : Int) ∧ wr.ownsRow w.heap.size 63 2 v8 k (flatE (negE (p.take k))) ∧ Below w.heap.size w wr) (fun _ v9 _ => p.length - (intOf v9).toNat)
  case atStart => exact ⟨0, Nat.zero_le _, rfl, World.ownsRow_nil _ _ _ _, Below.refl _ _⟩
  case round =>
    obtain ⟨k, hk, rfl, hown, hbw⟩ := hrel
    obtain ⟨ao, cp, rfl⟩ := own_any hown
    have HO := hide hown
    have HBW := hide hbw
    clear hown hbw
    have hk0 : (0 : Int) ≤ (k : Int) := by omega
    have hk9 : (k : Int) < 100000 := by have := HFM.out.2.1; omega
    by_cases hlt : k < p.length
    · have hl2 : (k : Int) < (p.length : Int) := by omega
      obtain ⟨g, off, rfl, hc⟩ := HE.out.spot (by omega)
      obtain ⟨c1, c2⟩ := hc k hlt
      have c1 := cell_stay c1 (HBW.out.block _ (World.block_lt_of_cell? w _ c1))
      have c2 := cell_stay c2 (HBW.out.block _ (World.block_lt_of_cell? w _ c2))
      have hgd := HFM.out.2.2.1 _ (ent_mem hlt)
      have HT := hide (show flatE (negE (p.take (k + 1))) = flatE (negE (p.take k)) ++ [.string (ent p k).1, .int .i64 (-(ent p k).2)] by
        rw [take_snoc p k hlt]; simp [negE, flatE])
      obtain ⟨a, ha⟩ : ∃ a, a = (ent p k).1 := ⟨_, rfl⟩
      obtain ⟨x, hx⟩ : ∃ x, x = (ent p k).2 := ⟨_, rfl⟩
      have hgd := (show x ≠ 0 ∧ x ≤ maxC ∧ -maxC ≤ x from hx ▸ hgd.2)
      rw [← ha] at c1 HT
      rw [← hx] at c2 HT
      have a0 : IntKind.i64.wrap (-x) = -x := IntWalk.i64_in _ (by have := hgd.2; unfold maxC at this; constructor <;> omega)
      have a1 : wrap64 (-x) = -x := by rw [← IntWalk.i64_left]; exact a0
      have ONE := hide (show ∀ u ∈ [Value.string a, .int .i64 (-x)], u.oneCell' = true from fun u hu => by
        simp at hu; rcases hu with rfl | rfl <;> rfl)
      have HOD := hide (show wr.drew.ownsRow w.heap.size 63 2 (.slice ao k cp) k (flatE (negE (p.take k))) from HO.out)
      have HBD := hide (HBW.out.drew)
      have zr := HBW.out.size
      clear hc ha hx hgd
      go_wp2
      go_region_law (refine step_append_lies _ rfl _ _ 33 rfl w.heap.size 63 i63 (.agg #[.string ⟨#[]⟩, .int .i64 0]) 2 24 Try.underlying33 hi63 hz63 hs63 hb63 rfl (by decide) (.slice ao k cp) k (flatE (negE (p.take k))) (by simp [Act.eval, Act.put]) (World.ownsRow.alloc HOD.out _) ⟨wr.heap.size, 0, none⟩ 1 1 [.string a, .int .i64 (-x)] (by simp [Act.eval, Act.put]) (by simp) (new2 (by rfl)) ONE.out (by decide) (by unfold maxLen; omega) (by omega) (by simp; omega) _ rfl ?_; intro g2 cap2 wn hown2 hg2 hgl2 hlt2; have HO2 := hide hown2; have HG2 := hide hg2; clear hown2 hg2 hgl2)
      all_goals
        go_wp2
        go_roundw
        case rel =>
          refine ⟨k + 1, by omega, by go_num, by rw [HT.out]; exact HO2.out, ?_⟩
          exact (HBD.out.alloc (by simp; omega) _).grown HG2.out (by simp; omega) (fun q hq => (HO.out.lt q hq).1)
        case measure => (first | (simp [intOf]; done) | (simp [intOf]; omega))
    · have hl2 : ¬ (k : Int) < (p.length : Int) := by omega
      obtain rfl : k = p.length := by omega
      have HO' := hide (show wr.ownsRow w.heap.size 63 2 (.slice ao p.length cp) p.length (flatE (negE p)) from by have := HO.out; rwa [List.take_length] at this)
      have HEn := hide (show Ents ao cp (negE p) wr from by
        obtain ⟨so', cap', e, hE⟩ := Ents.of_own (p := negE p) HO'.out
        injection e with e1 e2 e3
        rw [e1, e3]; exact hE)
      have q := Post_r I R S ao cp (negE p) wr (H.out.below HBW.out) HEn.out HS.out HA.out
      rw [negE_len] at q
      have HQ := hide q
      clear q HO
      go_wp2_with fail
      refine HQ.out.mono ?_
      rintro e w2 hq
      have hq2 := hq.from HBW.out
      rcases hq2 with ⟨hm, rfl, hb⟩ | ⟨hm, rfl, hx⟩
      · have HM := hide hm
        have HB := hide hb
        obtain ⟨m, hme⟩ : ∃ m, m = mayE S.acc (negE p) := ⟨_, rfl⟩
        have HME := hide hme
        rw [← hme]
        clear hq hm hb hme
        go_wp2_with fail
        refine bodyPost_ret (v := .tuple #[.int .i64 0, .int .i64 m]) (by simp [results, Try.f42, go_sem]) rfl (.inl ⟨HM.out, by rw [HME.out], HB.out⟩)
      · have HM := hide hm
        have HX := hide hx
        clear hq hm hx
        go_wp2_with fail
        refine bodyPost_ret (v := .tuple #[.int .i64 (S.posts.length : Int), .int .i64 0]) (by simp [results, Try.f42, go_sem]) rfl (.inr ⟨HM.out, rfl, HX.out⟩)
end Go.Proofs.Ytkdocoibfclfeaa

namespace Go.Proofs.Ytkdocoibfclfeaa
open Go.ChangeShapes Go.WideShapes Go.ChangeAt Go.RowKit Go.Deep Go.Maps Go.ChangeMaps Go.WideMaps
set_option linter.unusedSimpArgs false
set_option linter.unusedVariables false

set_option maxRecDepth 100000 in
set_option maxHeartbeats 2000000 in
theorem over_c (B n : Nat) (v : Value) (xs : List Value) (w : World) (h : w.ownsRow B 63 2 v n xs) (hB : B ≤ w.heap.size) (hm : n ≤ 4503599627370496) : Calls Try.prog 37 #[v] w fun e w' => (∃ u, e = .returned u) ∧ Below B w w' := by
  obtain ⟨ao, cap, rfl⟩ := own_any h
  have H := hide h
  have HB := hide hB
  have HM := hide hm
  clear h hB hm
  go_enter Try.func37, Try.ntmps37
  go_wp2_with fail
  go_loopw [2] (fun v2 wr => ∃ (k : Nat) (ys : List Value), k ≤ n ∧ v2 = .int .i64 (k : Int) ∧ wr.ownsRow B 63 2 (.slice ao n cap) n ys ∧ Below B w wr) (fun v2 _ => n - (intOf v2).toNat)
  case atStart => exact ⟨0, xs, Nat.zero_le _, rfl, H.out, Below.refl _ _⟩
  case round =>
    obtain ⟨k, ys, hk, rfl, hown, hbw⟩ := hrel
    have HO := hide hown
    have HBW := hide hbw
    have hk0 : (0 : Int) ≤ (k : Int) := by omega
    have hk9 : (k : Int) ≤ 4503599627370496 := by have := HM.out; omega
    by_cases hlt : k < n
    · have hl2 : (k : Int) < (n : Int) := by omega
      obtain ⟨g, c, hv, hg, _⟩ := hown.form (by omega)
      obtain ⟨rfl, rfl⟩ : ao = some ⟨g, 0, none⟩ ∧ cap = c := by (injection hv with e1 e2 e3; exact ⟨e1, e3⟩)
      have hyl : ys.length = n * 2 := hown.1
      have c0 : ∃ u, wr.cell? ⟨g, k * 2, none⟩ = some u := by
        rw [hown.cellAt (k * 2) (by omega), List.getElem?_eq_getElem (by omega)]; exact ⟨_, rfl⟩
      have c1 : ∃ u, wr.cell? ⟨g, k * 2 + 1, none⟩ = some u := by
        rw [hown.cellAt (k * 2 + 1) (by omega), List.getElem?_eq_getElem (by omega)]; exact ⟨_, rfl⟩
      obtain ⟨u0, c0⟩ := c0
      obtain ⟨u1, c1⟩ := c1
      have f0 := hown.frozenAt (k * 2)
      have f1 := hown.frozenAt (k * 2 + 1)
      clear hown hbw hv
      go_wp2_with fail
      go_roundw
      case rel =>
        have s0 := HO.out.stored (k * 2) (.string ⟨#[103, 111, 110, 101]⟩)
        have s1 := s0.1.stored (k * 2 + 1) (.int .i64 9)
        refine ⟨k + 1, _, by omega, by go_num, s1.1, ?_⟩
        exact ((HBW.out.setCell (p := ⟨g, k * 2, none⟩) hg _).setCell (p := ⟨g, k * 2 + 1, none⟩) hg _)
      case measure => (first | (simp [intOf]; done) | (simp [intOf]; omega))
    · have hl2 : ¬ (k : Int) < (n : Int) := by omega
      clear hown hbw
      go_wp2_with fail
      go_end0
      exact ⟨⟨_, rfl⟩, HBW.out⟩
def markN : ByteArray := ⟨#[109, 97, 114, 107]⟩
def LentPost (p : List Ent) (w : World) (e : Ending) (w' : World) : Prop := ∃ g cp, e = .returned (.slice (some ⟨g, 0, none⟩) p.length cp) ∧ w'.ownsRow w.heap.size 63 2 (.slice (some ⟨g, 0, none⟩) (p.length + 1) cp) (p.length + 1) (flatE p ++ [.string markN, .int .i64 0]) ∧ Below w.heap.size w w'
set_option maxRecDepth 100000 in
set_option maxHeartbeats 2000000 in
theorem lent_c (so : Option Addr) (cap : Nat) (p : List Ent) (w : World) (h : Ents so cap p w) (hm : (p.length + 1) * 24 ≤ 140737488355328) : Calls Try.prog 33 #[.slice so p.length cap] w (LentPost p w) := by
  obtain ⟨i63, hi63, hz63, hs63, hb63⟩ := info_parts info63
  have H := hide h
  have HM := hide hm
  have ONE := hide (show ∀ u ∈ [Value.string ⟨#[109, 97, 114, 107]⟩, .int .i64 0], u.oneCell' = true from fun u hu => by
    simp at hu; rcases hu with rfl | rfl <;> rfl)
  cases so with
  | none =>
    obtain ⟨h1, h2⟩ := h.nil rfl
    obtain rfl : p = [] := List.length_eq_zero_iff.1 h1
    subst h2
    clear h hm h1
    go_enter Try.func33, Try.ntmps33
    go_wp2_with (at_builtin; refine wpList_append_copy _ rfl _ _ 33 rfl 0 63 i63 _ 2 24 Try.underlying33 hi63 hz63 hs63 hb63 rfl (by decide) rfl (.slice none 0 0) 0 [] rfl (World.ownsRow_nil _ _ _ _) (fun u hu => by cases hu) (by unfold maxLen; omega) (by omega) (nil33 _) ?_; intro v1 w1 own1 hg1; obtain ⟨a1, p1, rfl⟩ := own_any own1; have O1 := hide own1; have G1 := hide hg1; clear own1 hg1; refine Hid.out ?_)
    have z1 := G1.out.size
    have B1 := hide (show Below w.heap.size w (w1.alloc (.cells #[.string ⟨#[109, 97, 114, 107]⟩, .int .i64 0] 63)) from ((Below.refl _ _).grown G1.out (Nat.le_refl _) (fun k hk => by cases hk)).alloc G1.out.size _)
    refine hide ?_
    go_wp2_with (at_builtin; refine wpList_append_own _ rfl _ _ 33 rfl w.heap.size 63 i63 _ 2 24 Try.underlying33 hi63 hz63 hs63 hb63 rfl (by decide) (.slice a1 0 p1) 0 [] rfl (O1.out.alloc _) ⟨w1.heap.size, 0, none⟩ 1 1 [.string ⟨#[109, 97, 114, 107]⟩, .int .i64 0] rfl rfl (new2 rfl) ONE.out (by unfold maxLen; omega) (by omega) (by simp; omega) ?_; intro v2 w2 own2 hg2 _; obtain ⟨g2, c2, hv2, hg2', hcc⟩ := own2.form (by omega); subst hv2; have O2 := hide own2; have G2 := hide hg2; clear own2 hg2 hg2'; refine Hid.out ?_)
    have hle : (0 : Int) ≤ (c2 : Int) := by omega
    clear hcc
    refine hide ?_
    go_wp2
    refine bodyPost_ret (v := .slice (some ⟨g2, 0, none⟩) 0 c2) (by simp [results, Try.f33, go_sem]) rfl ⟨g2, c2, rfl, O2.out, B1.out.grown G2.out B1.out.size (fun k hk => (O1.out.lt k hk).1)⟩
  | some ad =>
    have hzp : p.length ≤ 4503599627370496 := by omega
    clear h hm
    go_enter Try.func33, Try.ntmps33
    go_wp2_with (at_builtin; refine wpList_append_own _ rfl _ _ 33 rfl w.heap.size 63 i63 _ 2 24 Try.underlying33 hi63 hz63 hs63 hb63 rfl (by decide) (.slice none 0 0) 0 [] rfl (World.ownsRow_nil _ _ _ _) ad p.length cap (flatE p) rfl (flatE_len p) (H.out.cells _ rfl) (flatE_one p) (by unfold maxLen; omega) (by have := HM.out; omega) (Nat.le_refl _) ?_; intro v1 w1 own1 hg1 _; rw [Nat.zero_add, List.nil_append] at own1; obtain ⟨a1, p1, rfl⟩ := own_any own1; have O1 := hide own1; have G1 := hide hg1; clear own1 hg1; refine Hid.out ?_)
    have z1 := G1.out.size
    have B1 := hide (show Below w.heap.size w (w1.alloc (.cells #[.string ⟨#[109, 97, 114, 107]⟩, .int .i64 0] 63)) from ((Below.refl _ _).grown G1.out (Nat.le_refl _) (fun k hk => by cases hk)).alloc G1.out.size _)
    refine hide ?_
    go_wp2_with (at_builtin; refine wpList_append_own _ rfl _ _ 33 rfl w.heap.size 63 i63 _ 2 24 Try.underlying33 hi63 hz63 hs63 hb63 rfl (by decide) (.slice a1 p.length p1) p.length (flatE p) rfl (O1.out.alloc _) ⟨w1.heap.size, 0, none⟩ 1 1 [.string ⟨#[109, 97, 114, 107]⟩, .int .i64 0] rfl rfl (new2 rfl) ONE.out (by unfold maxLen; omega) (by have := HM.out; omega) (by simp; omega) ?_; intro v2 w2 own2 hg2 _; obtain ⟨g2, c2, hv2, hg2', hcc⟩ := own2.form (by omega); subst hv2; have O2 := hide own2; have G2 := hide hg2; clear own2 hg2 hg2'; refine Hid.out ?_)
    have hle : (p.length : Int) ≤ (c2 : Int) := by
      rcases O2.out.2 with ⟨e, _⟩ | ⟨g', cap', cur, e, _, _, hle, _⟩
      · cases e
      · injection e with e1 e2 e3; omega
    have hl0 : (0 : Int) ≤ (p.length : Int) := by omega
    clear hcc
    refine hide ?_
    go_wp2
    refine bodyPost_ret (v := .slice (some ⟨g2, 0, none⟩) p.length c2) (by simp [results, Try.f33, go_sem]) rfl ⟨g2, c2, rfl, O2.out, B1.out.grown G2.out B1.out.size (fun k hk => (O1.out.lt k hk).1)⟩
end Go.Proofs.Ytkdocoibfclfeaa

namespace Go.Proofs.Ytkdocoibfclfeaa
open Go.ChangeShapes Go.WideShapes Go.ChangeAt Go.RowKit Go.Deep Go.Maps Go.ChangeMaps Go.WideMaps
set_option linter.unusedSimpArgs false
set_option linter.unusedVariables false

/-- the postings of a name, among the first k: number, what it had behind it -/
noncomputable def lineTo (P : List (List Ent)) (s : ByteArray) : Nat → List (Int × Int)
  | 0 => []
  | k + 1 => lineTo P s k ++ (if thereB (P.getD k []) s then [((k : Int), ofSum (P.take (k + 1)) s)] else [])
theorem lineTo_len (P : List (List Ent)) (s : ByteArray) (k : Nat) : (lineTo P s k).length ≤ k := by
  induction k with
  | zero => exact Nat.le_refl _
  | succ k ih => simp only [lineTo, List.length_append]; split <;> simp <;> omega
def flatI : List (Int × Int) → List Value
  | [] => []
  | x :: r => .int .i64 x.1 :: .int .i64 x.2 :: flatI r
theorem flatI_snoc (l : List (Int × Int)) (x : Int × Int) : flatI (l ++ [x]) = flatI l ++ [.int .i64 x.1, .int .i64 x.2] := by
  induction l with
  | nil => rfl
  | cons y r ih => simp [flatI, ih]
theorem flatI_len (l : List (Int × Int)) : (flatI l).length = l.length * 2 := by
  induction l with
  | nil => rfl
  | cons y r ih => simp [flatI, ih]; omega
theorem info125 : (Try.prog.info? 125).map (fun i => (i.zero, i.size, i.bytes)) = some (some (.agg #[.int .i64 0, .int .i64 0]), 2, 16) := by kernel_rfl
def LineR (P : List (List Ent)) (s : ByteArray) (w : World) (e : Ending) (w' : World) : Prop := ∃ ao cap, e = .returned (.slice ao (lineTo P s P.length).length cap) ∧ w'.ownsRow w.heap.size 125 2 (.slice ao (lineTo P s P.length).length cap) (lineTo P s P.length).length (flatI (lineTo P s P.length)) ∧ Below w.heap.size w w'
set_option maxRecDepth 100000 in
set_option maxHeartbeats 2000000 in
theorem Line_r (I : Nat → Prop) (R : RP) (S : LS) (s : ByteArray) (w : World) (h : RObj I R S w) (hf : ∀ p ∈ S.posts, small p) (hl : S.posts.length ≤ 300) : Calls Try.prog 58 #[.pointer (some ⟨R.r, 0, none⟩), .string s] w (LineR S.posts s w) := by
  obtain ⟨vs, hrow, hposts⟩ := h.pr
  obtain ⟨pa, pc, hpv⟩ := own_any hrow
  have H := hide h
  have HROW := hide (show w.ownsRow 0 33 1 (.slice pa S.posts.length pc) S.posts.length vs by rw [← hpv]; exact hrow)
  have HPO := hide hposts
  have HF := hide hf
  have HL := hide hl
  obtain ⟨i0, HII⟩ := info_parts info125
  have HI := hide HII
  clear HII
  have HC0 := hide (show w.cell? ⟨R.r, 2, none⟩ = some (.slice pa S.posts.length pc) by rw [← hpv]; exact h.c2)
  have hrz := h.lt
  clear h hf hl hrow hposts hpv
  go_enter Try.func58, Try.ntmps58
  go_wp2_with fail
  go_loopw [5, 6, 7] (fun v5 v6 v7 wr => ∃ k : Nat, k ≤ S.posts.length ∧ wr.ownsRow w.heap.size 125 2 v5 (lineTo S.posts s k).length (flatI (lineTo S.posts s k)) ∧ v6 = .int .i64 (ofSum (S.posts.take k) s) ∧ v7 = .int .i64 (k : Int) ∧ Below w.heap.size w wr) (fun _ _ v7 _ => S.posts.length - (intOf v7).toNat)
  case atStart => exact ⟨0, Nat.zero_le _, World.ownsRow_nil _ _ _ _, rfl, rfl, Below.refl _ _⟩
  case round =>
    obtain ⟨k, hk, hown, rfl, rfl, hbw⟩ := hrel
    obtain ⟨ao, cp, rfl⟩ := own_any hown
    have HO := hide hown
    have HBW := hide hbw
    have HC := hide (cell_stay HC0.out (hbw.block _ hrz))
    clear hown hbw
    have hk0 : (0 : Int) ≤ (k : Int) := by omega
    have hk9 : (k : Int) < 100000 := by have := HL.out; omega
    have c0 := HC.out
    by_cases hlt : k < S.posts.length
    · have hl2 : (k : Int) < (S.posts.length : Int) := by omega
      obtain ⟨g, cap, hv, hc⟩ := own_at HROW.out hlt
      obtain ⟨rfl, rfl⟩ : pa = some ⟨g, 0, none⟩ ∧ pc = cap := by (injection hv with e1 e2 e3; exact ⟨e1, e3⟩)
      obtain ⟨p, hp⟩ : ∃ p, S.posts[k]? = some p := ⟨_, List.getElem?_eq_getElem hlt⟩
      obtain ⟨v, hvs, hown, -⟩ := HPO.out k p hp
      rw [hvs] at hc
      obtain ⟨so, cq, rfl, hE⟩ := Ents.of_own hown
      have hc1 := cell_stay hc (HBW.out.block _ (World.block_lt_of_cell? w _ hc))
      have hsm := HF.out p (List.mem_of_getElem? hp)
      have HE := hide (hE.below HBW.out)
      have HSM := hide hsm
      have HT := hide (ofSum_snoc (S.posts.take k) p s)
      rw [← takeP_snoc S.posts k hlt hp] at HT
      have HLT := hide (show lineTo S.posts s (k + 1) = lineTo S.posts s k ++ (if thereB p s then [((k : Int), ofSum (S.posts.take (k + 1)) s)] else []) by
        show lineTo S.posts s k ++ (if thereB (S.posts.getD k []) s then _ else _) = _
        rw [show S.posts.getD k [] = p by rw [List.getD_eq_getElem?_getD, hp]; rfl])
      have HLEN := hide (lineTo_len S.posts s k)
      have b1 := ofSum_bd (P := S.posts.take k) (fun q hq => HF.out q (List.mem_of_mem_take hq)) s
      have b2 := sum_take_bd hsm s p.length
      rw [List.take_length] at b2
      have b3 : (S.posts.take k).length ≤ 300 := by have := HL.out; rw [List.length_take]; omega
      obtain ⟨t, ht⟩ : ∃ t, t = ofSum (S.posts.take k) s := ⟨_, rfl⟩
      obtain ⟨c, hcc⟩ : ∃ c, c = sumOf p s := ⟨_, rfl⟩
      obtain ⟨y, hy⟩ : ∃ y, y = thereB p s := ⟨_, rfl⟩
      have HQ := hide (sum_r so cq p s wr HE.out HSM.out)
      rw [← hcc, ← hy] at HQ
      rw [← ht] at HT b1 ⊢
      rw [← hcc] at HT b2
      rw [← hy, HT.out] at HLT
      have a0 : IntKind.i64.wrap (t + c) = t + c := IntWalk.i64_in _ (by unfold maxC at *; constructor <;> omega)
      have a1 : wrap64 (t + c) = t + c := by rw [← IntWalk.i64_left]; exact a0
      clear hv hvs hown hE hsm b1 b2 b3 ht hcc hp hc hy
      obtain ⟨L, hLe⟩ : ∃ L, L = lineTo S.posts s k := ⟨_, rfl⟩
      rw [← hLe] at HO HLT HLEN ⊢
      clear hLe
      have ONE := hide (show ∀ u ∈ [Value.int .i64 (k : Int), .int .i64 (t + c)], u.oneCell' = true from fun u hu => by
        simp at hu; rcases hu with rfl | rfl <;> rfl)
      have zr := HBW.out.size
      go_wp2_with fail
      refine HQ.out.mono ?_
      rintro e w1 ⟨rfl, rfl⟩
      clear HQ
      by_cases hyy : y = true
      · subst hyy
        go_wp2_with (at_builtin; refine wpList_append_own _ rfl _ _ 122 rfl w.heap.size 125 i0 _ 2 16 Try.underlying122 HI.out.1 HI.out.2.1 HI.out.2.2.1 HI.out.2.2.2 rfl (by decide) _ _ _ rfl (HO.out.alloc _) ⟨wr.heap.size, 0, none⟩ 1 1 [.int .i64 (k : Int), .int .i64 (t + c)] rfl rfl (new2 rfl) ONE.out (by have := HLEN.out; have := HL.out; unfold maxLen; omega) (by have := HLEN.out; have := HL.out; omega) (by simp; omega) ?_; intro v2 w2 own2 hg2 _; obtain ⟨a2, p2, rfl⟩ := own_any own2; have O2 := hide own2; have G2 := hide hg2; clear own2 hg2)
        go_roundw
        case rel =>
          refine ⟨k + 1, by omega, ?_, by rw [HT.out], by go_num, (HBW.out.alloc zr _).grown G2.out (by simp; omega) (fun q hq => (HO.out.lt q hq).1)⟩
          rw [HLT.out, if_pos trivial, flatI_snoc, List.length_append]
          exact O2.out
        case measure => (first | (simp [intOf]; done) | (simp [intOf]; omega))
      · obtain rfl : y = false := by simpa using hyy
        clear hyy
        go_wp2_with fail
        go_roundw
        case rel => exact ⟨k + 1, by omega, by rw [HLT.out]; simpa using HO.out, by rw [HT.out], by go_num, HBW.out⟩
        case measure => (first | (simp [intOf]; done) | (simp [intOf]; omega))
    · have hl2 : ¬ (k : Int) < (S.posts.length : Int) := by omega
      obtain rfl : k = S.posts.length := by omega
      rw [List.take_length]
      go_wp2_with fail
      refine bodyPost_ret (v := .slice ao (lineTo S.posts s S.posts.length).length cp) (by simp [results, Try.f58, go_sem]) rfl ⟨ao, cp, rfl, HO.out, HBW.out⟩
end Go.Proofs.Ytkdocoibfclfeaa

namespace Go.Proofs.Ytkdocoibfclfeaa
open Go.ChangeShapes Go.WideShapes Go.ChangeAt Go.RowKit Go.Deep Go.Maps Go.ChangeMaps Go.WideMaps
set_option linter.unusedSimpArgs false
set_option linter.unusedVariables false
set_option maxRecDepth 100000 in
set_option maxHeartbeats 2000000 in
theorem Equal_loop (so so2 : Option Addr) (cap cap2 : Nat) (p q : List Ent) (w : World) (hp : Ents so cap p w) (hq : Ents so2 cap2 q w) (hl : p.length = q.length) (hm : p.length ≤ 4503599627370496) : Calls Try.prog 47 #[.slice so p.length cap, .slice so2 q.length cap2] w fun e w' => e = .returned (.bool (decide (p = q))) ∧ ∃ m, w' = w.drewN m := by
  have HP := hide hp
  have HQ := hide hq
  have HL := hide hl
  have HM := hide hm
  rw [← hl]
  have q1 : ((p.length : Int) != (p.length : Int)) = false := by simp
  have q2 : ((p.length : Int) == (p.length : Int)) = true := by simp
  clear hp hq hl hm
  go_enter Try.func47, Try.ntmps47
  go_wp2_with fail
  go_loopw [13] (fun v5 wr => ∃ k : Nat, k ≤ p.length ∧ v5 = .int .i64 (k : Int) ∧ (∃ m, wr = w.drewN m) ∧ ∀ i, i < k → ent p i = ent q i) (fun v5 _ => p.length - (intOf v5).toNat)
  case atStart => exact ⟨0, Nat.zero_le _, rfl, ⟨0, rfl⟩, fun i hi => by omega⟩
  case round =>
    obtain ⟨k, hk, rfl, ⟨m0, hm0⟩, hsm⟩ := hrel
    have hbw : Below w.heap.size w wr := by rw [hm0]; exact bdrewN (Below.refl _ _) _
    have HM0 := hide hm0
    clear hm0
    have HSM := hide hsm
    have HBW := hide hbw
    clear hsm hbw
    have hk0 : (0 : Int) ≤ (k : Int) := by omega
    have hk9 : (k : Int) ≤ 4503599627370496 := by have := HM.out; omega
    by_cases hlt : k < p.length
    · have hl2 : (k : Int) < (p.length : Int) := by omega
      obtain ⟨g, off, rfl, hc⟩ := HP.out.spot (by omega)
      obtain ⟨g2, off2, rfl, hc2⟩ := HQ.out.spot (by have := HL.out; omega)
      obtain ⟨c1, c2⟩ := hc k hlt
      obtain ⟨d1, d2⟩ := hc2 k (by have := HL.out; omega)
      have c1 := cell_stay c1 (HBW.out.block _ (World.block_lt_of_cell? w _ c1))
      have c2 := cell_stay c2 (HBW.out.block _ (World.block_lt_of_cell? w _ c2))
      have d1 := cell_stay d1 (HBW.out.block _ (World.block_lt_of_cell? w _ d1))
      have d2 := cell_stay d2 (HBW.out.block _ (World.block_lt_of_cell? w _ d2))
      obtain ⟨a, ha⟩ : ∃ a, a = (ent p k).1 := ⟨_, rfl⟩
      obtain ⟨x, hx⟩ : ∃ x, x = (ent p k).2 := ⟨_, rfl⟩
      obtain ⟨b, hb⟩ : ∃ b, b = (ent q k).1 := ⟨_, rfl⟩
      obtain ⟨y, hy⟩ : ∃ y, y = (ent q k).2 := ⟨_, rfl⟩
      rw [← ha] at c1
      rw [← hx] at c2
      rw [← hb] at d1
      rw [← hy] at d2
      have HAX := hide (show ent p k = (a, x) ∧ ent q k = (b, y) from ⟨by rw [ha, hx], by rw [hb, hy]⟩)
      clear hc hc2 ha hx hb hy
      by_cases e : a = b ∧ x = y
      · obtain ⟨rfl, rfl⟩ := e
        have Q : ∀ w, Sem.run Try.prog (binOp .neq 63 (.agg #[.string a, .int .i64 x]) (.agg #[.string a, .int .i64 x])) w = .ok (.bool false) w := fun w => by rw [neq63]; simp
        go_wp2_with fail
        go_quiet (fail)
        go_wp2_with fail
        go_roundw
        case rel =>
          refine ⟨k + 1, by omega, by go_num, ⟨_, by rw [HM0.out]; exact World.drewN_drewN _ _ _⟩, fun i hi => ?_⟩
          rcases Nat.lt_or_ge i k with r | r
          · exact HSM.out i r
          · obtain rfl : i = k := by omega
            rw [HAX.out.1, HAX.out.2]
        case measure => (first | (simp [intOf]; done) | (simp [intOf]; omega))
      · have Q : ∀ w, Sem.run Try.prog (binOp .neq 63 (.agg #[.string a, .int .i64 x]) (.agg #[.string b, .int .i64 y])) w = .ok (.bool true) w := fun w => by
          rw [neq63]
          by_cases e1 : a = b
          · have e2 : (x == y) = false := by (rw [beq_eq_false_iff_ne]; exact fun q => e ⟨e1, q⟩)
            rw [e2]; simp
          · rw [ba_ne e1]; rfl
        have HNE := hide (show decide (p = q) = false from by
          rw [decide_eq_false_iff_not]
          rintro rfl
          have := HAX.out.1.symm.trans HAX.out.2
          exact e ⟨congrArg Prod.fst this, congrArg Prod.snd this⟩)
        clear e
        go_wp2_with fail
        go_quiet (fail)
        go_wp2_with fail
        refine bodyPost_ret (v := .bool false) (by simp [results, Try.f47, go_sem]) rfl ⟨by rw [HNE.out], ⟨_, by rw [HM0.out]; exact World.drewN_drewN _ _ _⟩⟩
    · have hl2 : ¬ (k : Int) < (p.length : Int) := by omega
      have HEQ := hide (show decide (p = q) = true from by
        rw [decide_eq_true_iff]
        exact ent_ext HL.out (fun i hi => HSM.out i (by omega)))
      go_wp2_with fail
      refine bodyPost_ret (v := .bool true) (by simp [results, Try.f47, go_sem]) rfl ⟨by rw [HEQ.out], ⟨_, HM0.out⟩⟩
set_option maxHeartbeats 1000000 in
theorem Equal_d (so so2 : Option Addr) (cap cap2 : Nat) (p q : List Ent) (w : World) (hp : Ents so cap p w) (hq : Ents so2 cap2 q w) (hm : p.length ≤ 4503599627370496) : Calls Try.prog 47 #[.slice so p.length cap, .slice so2 q.length cap2] w fun e w' => e = .returned (.bool (decide (p = q))) ∧ ∃ m, w' = w.drewN m := by
  by_cases hl : p.length = q.length
  · exact Equal_loop so so2 cap cap2 p q w hp hq hl hm
  · have HNE := hide (show decide (p = q) = false from by
      rw [decide_eq_false_iff_not]
      intro e; exact hl (by rw [e]))
    have q1 : ((p.length : Int) != (q.length : Int)) = true := by (rw [bne_iff_ne]; omega)
    have q2 : ((p.length : Int) == (q.length : Int)) = false := by (rw [beq_eq_false_iff_ne]; omega)
    have q3 : decide ((p.length : Int) = (q.length : Int)) = false := by (rw [decide_eq_false_iff_not]; omega)
    clear hp hq hm hl
    go_enter Try.func47, Try.ntmps47
    go_wp2_with fail
    refine bodyPost_ret (v := .bool false) (by simp [results, Try.f47, go_sem]) rfl ⟨by rw [HNE.out], ⟨0, rfl⟩⟩

theorem posts_ext {P P2 : List (List Ent)} (hl : P.length = P2.length) (h : ∀ (i : Nat), i < P.length → P[i]? = P2[i]?) : P = P2 := List.ext_getElem? (fun i => by
  rcases Nat.lt_or_ge i P.length with r | r
  · exact h i r
  · rw [List.getElem?_eq_none r, List.getElem?_eq_none (by omega)])
set_option maxRecDepth 100000 in
set_option maxHeartbeats 2000000 in
theorem EqualFunc_c (I : Nat → Prop) (pv qv : Value) (P P2 : List (List Ent)) (vs vs2 : List Value) (w : World) (hrow : w.ownsRow 0 33 1 pv P.length vs) (hrow2 : w.ownsRow 0 33 1 qv P2.length vs2)
    (hp : ∀ (i : Nat) (p : List Ent), P[i]? = some p → ∃ v, vs[i]? = some v ∧ PostRow I w v p) (hq : ∀ (i : Nat) (p : List Ent), P2[i]? = some p → ∃ v, vs2[i]? = some v ∧ PostRow I w v p) (hf : ∀ p ∈ P, small p) (hl : P.length ≤ 300) :
    Calls Try.prog 46 #[pv, qv, .func (.func 47) #[] #[]] w fun e w' => e = .returned (.bool (decide (P = P2))) ∧ ∃ m, w' = w.drewN m := by
  obtain ⟨pa, pc, rfl⟩ := own_any hrow
  obtain ⟨qa, qc, rfl⟩ := own_any hrow2
  have H := hide hrow
  have H2 := hide hrow2
  have HP := hide hp
  have HQ := hide hq
  have HF := hide hf
  have HL := hide hl
  by_cases hd : P.length = P2.length
  · have HD := hide hd
    rw [← hd]
    have q0 : ((P.length : Int) != (P.length : Int)) = false := by simp
    clear hrow hrow2 hp hq hf hl hd
    go_enter Try.func46, Try.ntmps46
    go_wp2_with fail
    go_loopw [17] (fun v17 wr => ∃ j : Nat, j ≤ P.length ∧ v17 = .int .i64 (j : Int) ∧ (∃ m, wr = w.drewN m) ∧ ∀ (i : Nat), i < j → P[i]? = P2[i]?) (fun v17 _ => P.length - (intOf v17).toNat)
    case atStart => exact ⟨0, Nat.zero_le _, rfl, ⟨0, rfl⟩, fun i hi => by omega⟩
    case round =>
      obtain ⟨j, hj, rfl, ⟨m0, hm0⟩, hsm⟩ := hrel
      have hbw : Below w.heap.size w wr := by rw [hm0]; exact bdrewN (Below.refl _ _) _
      have HM0 := hide hm0
      have HSM := hide hsm
      have HBW := hide hbw
      clear hm0 hsm hbw
      have hk0 : (0 : Int) ≤ (j : Int) := by omega
      have hk9 : (j : Int) < 100000 := by have := HL.out; omega
      by_cases hlt : j < P.length
      · have hlt2 : (j : Int) < (P.length : Int) := by omega
        obtain ⟨p, hp⟩ : ∃ p, P[j]? = some p := ⟨_, List.getElem?_eq_getElem hlt⟩
        obtain ⟨q, hq⟩ : ∃ q, P2[j]? = some q := ⟨_, List.getElem?_eq_getElem (by have := HD.out; omega)⟩
        obtain ⟨g, c, hgv, hc⟩ := own_at H.out hlt
        obtain ⟨g2, c2, hgv2, hc2⟩ := own_at H2.out (by have := HD.out; omega : j < P2.length)
        obtain ⟨rfl, rfl⟩ : pa = some ⟨g, 0, none⟩ ∧ pc = c := by (injection hgv with e1 e2 e3; exact ⟨e1, e3⟩)
        obtain ⟨rfl, rfl⟩ : qa = some ⟨g2, 0, none⟩ ∧ qc = c2 := by (injection hgv2 with e1 e2 e3; exact ⟨e1, e3⟩)
        obtain ⟨v, hv, hown, -⟩ := HP.out j p hp
        obtain ⟨v2, hv2, hown2, -⟩ := HQ.out j q hq
        rw [hv] at hc
        rw [hv2] at hc2
        obtain ⟨so, cp, rfl, hE⟩ := Ents.of_own hown
        obtain ⟨so2, cp2, rfl, hE2⟩ := Ents.of_own hown2
        have k1 := cell_stay hc (HBW.out.block _ (World.block_lt_of_cell? w _ hc))
        have k2 := cell_stay hc2 (HBW.out.block _ (World.block_lt_of_cell? w _ hc2))
        have hsm := HF.out p (List.mem_of_getElem? hp)
        have HC := hide (Equal_d so so2 cp cp2 p q wr (hE.below HBW.out) (hE2.below HBW.out) (by have := hsm.1; omega))
        have HPQ := hide (And.intro hp hq)
        clear hp hq hgv hgv2 hv hv2 hown hown2 hE hE2 hsm hc hc2
        by_cases e : p = q
        · have e1 : decide (p = q) = true := by (rw [decide_eq_true_iff]; exact e)
          rw [e1] at HC
          have HPE := hide e
          clear e e1
          go_wp2_with fail
          refine HC.out.mono ?_
          rintro e w1 ⟨rfl, m1, rfl⟩
          go_wp2_with fail
          go_roundw
          case rel =>
            refine ⟨j + 1, by omega, by go_num, ⟨_, by rw [HM0.out]; exact World.drewN_drewN _ _ _⟩, fun i hi => ?_⟩
            rcases Nat.lt_or_ge i j with r | r
            · exact HSM.out i r
            · obtain rfl : i = j := by omega
              rw [HPQ.out.1, HPQ.out.2, HPE.out]
          case measure => (first | (simp [intOf]; done) | (simp [intOf]; omega))
        · have e1 : decide (p = q) = false := by (rw [decide_eq_false_iff_not]; exact e)
          rw [e1] at HC
          have HN := hide (show decide (P = P2) = false from by
            rw [decide_eq_false_iff_not]
            rintro rfl
            have := HPQ.out.1.symm.trans HPQ.out.2
            exact e (Option.some.inj this))
          clear e e1
          go_wp2_with fail
          refine HC.out.mono ?_
          rintro e w1 ⟨rfl, m1, rfl⟩
          go_wp2_with fail
          refine bodyPost_ret (v := .bool false) (by simp [results, Try.f46, go_sem]) rfl ⟨by rw [HN.out], ⟨_, by rw [HM0.out]; exact World.drewN_drewN _ _ _⟩⟩
      · have hlt2 : ¬ (j : Int) < (P.length : Int) := by omega
        have HY := hide (show decide (P = P2) = true from by
          rw [decide_eq_true_iff]
          exact posts_ext HD.out (fun i hi => HSM.out i (by omega)))
        go_wp2_with fail
        refine bodyPost_ret (v := .bool true) (by simp [results, Try.f46, go_sem]) rfl ⟨by rw [HY.out], ⟨_, HM0.out⟩⟩
  · have HN := hide (show decide (P = P2) = false from by
      rw [decide_eq_false_iff_not]
      intro e; exact hd (by rw [e]))
    have q1 : ((P.length : Int) != (P2.length : Int)) = true := by (rw [bne_iff_ne]; omega)
    have q2 : ((P.length : Int) == (P2.length : Int)) = false := by (rw [beq_eq_false_iff_ne]; omega)
    have q3 : decide ((P.length : Int) = (P2.length : Int)) = false := by (rw [decide_eq_false_iff_not]; omega)
    clear hrow hrow2 hp hq hf hl hd
    go_enter Try.func46, Try.ntmps46
    go_wp2_with fail
    refine bodyPost_ret (v := .bool false) (by simp [results, Try.f46, go_sem]) rfl ⟨by rw [HN.out], ⟨0, rfl⟩⟩
end Go.Proofs.Ytkdocoibfclfeaa

namespace Go.Proofs.Ytkdocoibfclfeaa
open Go.ChangeShapes Go.WideShapes Go.ChangeAt Go.RowKit Go.Deep Go.Shelf Go.Maps Go.WideMaps Ytkdocoibfclfeaa.it
set_option linter.unusedSimpArgs false
set_option linter.unusedVariables false

attribute [local go_sem] Oper.semAt_some

/-- what All's iterator tells: a number, a row of its own -/
def NxA (P : List (List Ent)) (B : Nat) (pre : List (Nat × Value)) (x : Nat × Value) (W : World) : Prop := x.1 = pre.length ∧ ∃ p, P[pre.length]? = some p ∧ W.ownsRow B 63 2 x.2 p.length (flatE p)
abbrev encP (x : Nat × Value) : Array Value := #[.int .i64 (x.1 : Int), x.2]
set_option maxRecDepth 100000 in
set_option maxHeartbeats 4000000 in
theorem all_okX (n : Nat) (hn : 1 ≤ n) (l Bx : Nat) (K I : Nat → Prop) (P : List (List Ent)) (hP : P.length ≤ 300) (hps : ∀ p ∈ P, p.length ≤ 128) (ao : Option Addr) (ac : Nat) (vs : List Value) (WS : World) (J Jx : List (Nat × Value) → World → Prop)
    (hY : ∀ pre x W, J pre W → NxA P WS.heap.size pre x W → YieldAt Fence.wide (n - 1) Try.prog l #[.int .i64 (x.1 : Int), x.2] W fun e W' =>
      (e = .returned (.bool true) ∧ J (pre ++ [x]) W' ∧ Fix K W W') ∨ (e = .returned (.bool false) ∧ Jx (pre ++ [x]) W'))
    (hJ : Ext J) (hB1 : K Bx) (hKI : ∀ i, I i → K i) (hKa : ∀ i, (Value.slice ao P.length ac).ownBlock = some i → K i) (hK : ∀ i, K i → i < WS.heap.size) (hc : WS.cell? ⟨Bx, 0, none⟩ = some (.slice ao P.length ac))
    (hrow : WS.ownsRow 0 33 1 (.slice ao P.length ac) P.length vs) (hpr : ∀ (i : Nat) (p : List Ent), P[i]? = some p → ∃ v, vs[i]? = some v ∧ PostRow I WS v p) (h0 : J [] WS) :
    CallsIn Fence.wide n Try.prog 59 #[.func (.yield l) #[] #[], .pointer (some ⟨Bx, 0, none⟩)] WS fun e W' => (∃ v, e = .returned v) ∧
      ((∃ ys, ys.length = P.length ∧ J ys W') ∨ (∃ pre, pre.length ≤ P.length ∧ Jx pre W')) := by
  have HR := hide hrow
  have HPR := hide hpr
  have HPS := hide hps
  have HKI := hide hKI
  have HKA := hide hKa
  have hKx := hK Bx hB1
  have HK := hide hK
  have HP := hide hP
  clear hrow hpr hps hKI hKa hK hP
  refine callsIn_of_wp Try.func59 rfl trivial ?_ rfl
  simp only [Try.ntmps59, List.size_toArray, List.length_cons, List.length_nil, Nat.reduceAdd, Nat.reduceSub, Array.replicate_succ, Array.replicate_zero, List.push_toArray, List.append_toArray, List.nil_append, List.cons_append]
  gi_wp2
  gi_loopw [7] (fun v7 wr => ∃ pre : List (Nat × Value), pre.length ≤ P.length ∧ v7 = .int .i64 (pre.length : Int) ∧ J pre wr ∧ Fix K WS wr) (fun v7 _ => P.length - (intOf v7).toNat)
  case atStart => exact ⟨[], Nat.zero_le _, rfl, h0, Fix.of_below (Below.refl _ _)⟩
  case round =>
    obtain ⟨pre, hj, rfl, hJs, hBw⟩ := hrel
    have HJS := hide hJs
    have HBW := hide hBw
    clear hJs hBw
    obtain ⟨j, hjj⟩ : ∃ j, j = pre.length := ⟨_, rfl⟩
    rw [← hjj] at hj ⊢
    have HJJ := hide hjj
    clear hjj
    have hk0 : (0 : Int) ≤ (j : Int) := by omega
    have hk9 : (j : Int) < 100000 := by have := HP.out; omega
    by_cases hlt : j < P.length
    · have hlt' : (j : Int) < (P.length : Int) := by omega
      have hz := HBW.out.1
      obtain ⟨p, hp⟩ : ∃ p, P[j]? = some p := ⟨_, List.getElem?_eq_getElem hlt⟩
      obtain ⟨g, c, hgv, hcg⟩ := own_at HR.out hlt
      obtain ⟨rfl, rfl⟩ : ao = some ⟨g, 0, none⟩ ∧ ac = c := by (injection hgv with e1 e2 e3; exact ⟨e1, e3⟩)
      obtain ⟨v, hv, hown, hIb⟩ := HPR.out j p hp
      rw [hv] at hcg
      have hgK := HKA.out g rfl
      have hc1 : wr.cell? ⟨g, j, none⟩ = some v := cell_stay hcg (HBW.out.2 g hgK (HK.out g hgK))
      have hown2 : wr.ownsRow 0 63 2 v p.length (flatE p) := own_stays hown (fun k hk => HBW.out.2 k (HKI.out k (hIb k hk)) (HK.out k (HKI.out k (hIb k hk))))
      obtain ⟨so, cp, rfl, hE⟩ := Ents.of_own hown2
      have HCL := hide (Clone_c so cp p wr (by have := HPS.out p (List.mem_of_getElem? hp); omega) hE)
      have HPP := hide hp
      clear hgv hcg hv hown hown2 hIb hE hgK hp
      gi_wp2_with fail
      refine (callsIn_wide.2 HCL.out).mono ?_
      rintro e V1 ⟨v', rfl, own', hb'⟩
      obtain ⟨ao', cp', rfl⟩ := own_any own'
      obtain ⟨fn, tmps, assign, body, hy, hR⟩ := hY pre (j, .slice ao' p.length cp') V1 (hJ _ _ _ HJS.out hb') ⟨HJJ.out, p, by rw [← HJJ.out]; exact HPP.out, own_base own' (by omega)⟩
      dsimp only at hy
      have HF1 := hide (HBW.out.trans (Fix.of_below hb'))
      clear own' hb'
      gi_wp2_with fail
      refine hR.mono ?_
      rintro e W3 (⟨rfl, hJ3, hk3⟩ | ⟨rfl, hJx3⟩)
      · have HJ3 := hide hJ3
        have HB3 := hide (HF1.out.trans (hk3))
        clear hJ3 hk3 hR hy
        gi_wp2
        go_roundw
        case rel => exact ⟨pre ++ [(j, .slice ao' p.length cp')], by rw [List.length_append, ← HJJ.out]; simp; omega, by rw [List.length_append, ← HJJ.out]; go_num, HJ3.out, HB3.out⟩
        case measure => (first | (simp [intOf]; done) | (simp [intOf]; omega))
      · have HJx3 := hide hJx3
        clear hJx3 hR hy
        gi_wp2
        refine bodyPost_ret (results_none rfl _ _ _) rfl ?_
        exact ⟨⟨_, rfl⟩, .inr ⟨pre ++ [(j, .slice ao' p.length cp')], by rw [List.length_append, ← HJJ.out]; simp; omega, HJx3.out⟩⟩
    · obtain rfl : j = P.length := by omega
      gi_wp2
      go_end0
      exact ⟨⟨_, rfl⟩, .inl ⟨pre, HJJ.out.symm, HJS.out⟩⟩
/-- what All has made -/
structure AllIt (I : Nat → Prop) (B : Nat) (P : List (List Ent)) (Bx : Nat) (w : World) : Prop where
  lb : B ≤ Bx
  ex : ∃ ao ac vs, w.cell? ⟨Bx, 0, none⟩ = some (.slice ao P.length ac) ∧ w.ownsRow B 33 1 (.slice ao P.length ac) P.length vs ∧ ∀ (i : Nat) (p : List Ent), P[i]? = some p → ∃ v, vs[i]? = some v ∧ PostRow I w v p
theorem AllIt.below {I : Nat → Prop} {B : Nat} {P : List (List Ent)} {Bx : Nat} {w w' : World} (h : AllIt I B P Bx w) (hI : ∀ k, I k → k < w.heap.size) (hb : Below w.heap.size w w') : AllIt I B P Bx w' := by
  obtain ⟨ao, ac, vs, h1, h2, h3⟩ := h.ex
  refine ⟨h.lb, ao, ac, vs, cell_stay h1 (hb.block _ (World.block_lt_of_cell? w _ h1)), own_stays h2 (fun k hk => hb.block k (h2.lt k hk).2), fun i p hp => ?_⟩
  obtain ⟨v, e1, e2, e3⟩ := h3 i p hp
  exact ⟨v, e1, own_stays e2 (fun k hk => hb.block k (hI k (e3 k hk))), e3⟩
def AllPost (I : Nat → Prop) (P : List (List Ent)) (w : World) (e : Ending) (w' : World) : Prop := ∃ Bx, e = .returned (.func (.func 59) #[] #[.pointer (some ⟨Bx, 0, none⟩)]) ∧ AllIt I w.heap.size P Bx w' ∧ Below w.heap.size w w'
set_option maxRecDepth 100000 in
set_option maxHeartbeats 2000000 in
theorem All_c (I : Nat → Prop) (F : Fp) (S : LS) (w : World) (h : LObj I F S w) (hP : S.posts.length ≤ 1048576) : Calls Try.prog 45 #[.pointer (some ⟨F.b, 0, none⟩)] w (AllPost I S.posts w) := by
  obtain ⟨vs, hrow, hone, hposts⟩ := h.rows
  obtain ⟨pa, pc, hpv⟩ := own_any hrow
  obtain ⟨W, hW⟩ : ∃ W, W = w.alloc (.cells #[.slice none 0 0] 23) := ⟨_, rfl⟩
  have hbW : Below w.heap.size w W := by rw [hW]; (focus repeat' (first | (with_reducible exact Below.refl _ _) | (with_reducible assumption) | (with_reducible refine Below.alloc ?_ ?_ _) | (with_reducible refine Below.drew ?_) | (with_reducible refine bdrewN ?_ _) | (with_reducible refine Below.setCell ?_ ?_ _) | (first | (with_reducible exact Nat.le_refl _) | (with_reducible assumption) | omega | (simp; omega) | (simp; done))))
  have HB := hide hbW
  have H := hide (h.below hbW)
  have HROW := hide (show W.ownsRow 0 33 1 (.slice pa S.posts.length pc) S.posts.length vs by rw [← hpv]; exact own_stays hrow (fun k hk => hbW.block k (hrow.lt k hk).2))
  have HONE := hide hone
  have HPO := hide hposts
  have HP := hide hP
  have HI := hide h.ilt
  have c2 : W.cell? ⟨F.b, 2, none⟩ = some (.slice pa S.posts.length pc) := by rw [← hpv]; exact H.out.b2
  have cb : W.cell? ⟨w.heap.size, 0, none⟩ = some (.slice none 0 0) := by rw [hW]; simp [go_sem]
  have cf : W.frozen? ⟨w.heap.size, 0, none⟩ = false := by rw [hW]; simp [go_sem]
  have hbz : F.b < W.heap.size := World.block_lt_of_cell? W _ c2
  have hwz : w.heap.size < W.heap.size := World.block_lt_of_cell? W _ cb
  have HW := hide hW
  clear h hrow hone hposts hpv hP hbW hW
  go_enter Try.func45, Try.ntmps45
  go_wp2_with fail
  rw [← HW.out]
  refine (isLedger W F.b F.t H.out.b0).mono ?_
  rintro e w1 ⟨rfl, rfl⟩
  go_wp2_with fail
  refine (Clone30_c _ _ 0 vs W HP.out HROW.out HONE.out).mono ?_
  rintro e w2 ⟨v2, rfl, own2, hb2⟩
  obtain ⟨a2, p2, rfl⟩ := own_any own2
  have O2 := hide own2
  have HB2 := hide hb2
  have cb2 := cell_stay cb (hb2.block _ hwz)
  have cf2 := fro_stay cf (hb2.block _ hwz)
  clear own2 hb2
  go_wp2
  refine bodyPost_ret (v := .func (.func 59) #[] #[.pointer (some ⟨w.heap.size, 0, none⟩)]) (by simp [results, Try.f45, go_sem]) rfl ⟨w.heap.size, rfl, ⟨Nat.le_refl _, a2, p2, vs, ?_, ?_, fun i p hp => ?_⟩, ?_⟩
  · exact World.cell?_setCell_same' w2 ⟨w.heap.size, 0, none⟩ _ (by rw [cb2]; rfl)
  · exact own_stays (own_base O2.out (by omega)) (fun k hk => heap_setCell_other _ _ _ _ (by have := (O2.out.lt k hk).1; show k ≠ w.heap.size; omega))
  · obtain ⟨v, e1, e2, e3⟩ := HPO.out i p hp
    refine ⟨v, e1, own_stays e2 (fun k hk => ?_), e3⟩
    have hik := HI.out k (e3 k hk)
    exact (heap_setCell_other _ _ _ _ (by show k ≠ w.heap.size; omega)).trans ((HB2.out.block k (by omega)).trans (HB.out.block k hik))
  · exact (HB.out.trans (HB2.out.mono (by omega))).setCell (p := ⟨w.heap.size, 0, none⟩) (Nat.le_refl _) _
theorem all_seqX (n : Nat) (hn : 1 ≤ n) {I : Nat → Prop} {B : Nat} {P : List (List Ent)} {Bx : Nat} {w : World} (h : AllIt I B P Bx w) (hP : P.length ≤ 300) (hps : ∀ p ∈ P, p.length ≤ 128) (hI : ∀ k, I k → k < w.heap.size) : ∃ K : Nat → Prop, (∀ k, K k → k < w.heap.size) ∧ (∀ k, K k → I k ∨ B ≤ k) ∧
    ∀ V, Below w.heap.size w V → SeqX n Try.prog 59 #[.pointer (some ⟨Bx, 0, none⟩)] encP K (fun xs => xs.length = P.length) (fun pre => pre.length ≤ P.length) (fun pre x W => NxA P V.heap.size pre x W) V := by
  obtain ⟨ao, ac, vs, h1, h2, h3⟩ := h.ex
  have hx : Bx < w.heap.size := World.block_lt_of_cell? w _ h1
  refine ⟨fun k => k = Bx ∨ (Value.slice ao P.length ac).ownBlock = some k ∨ I k, fun k hk => ?_, fun k hk => ?_, fun V hV l J Jx W hbW hJ hJx hY h0 => ?_⟩
  · rcases hk with rfl | q | q
    · exact hx
    · exact (h2.lt k q).2
    · exact hI k q
  · rcases hk with rfl | q | q
    · exact .inr h.lb
    · exact .inr (h2.lt k q).1
    · exact .inl q
  · have hz := hbW.size
    have hzV := hV.size
    have hWb : Below w.heap.size w W := hV.trans (hbW.mono hV.size)
    refine all_okX n hn l Bx (fun k => k = Bx ∨ (Value.slice ao P.length ac).ownBlock = some k ∨ I k) I P hP hps ao ac vs W J Jx (fun pre x W' hJ' hN => hY pre x W' hJ' ?_) hJ (.inl rfl) (fun i hi => .inr (.inr hi)) (fun i hi => .inr (.inl hi)) (fun i hi => ?_) (cell_stay h1 (hWb.block _ hx)) (own_stays (own_zero h2) (fun k hk => hWb.block k (h2.lt k hk).2)) (fun i p hp => ?_) h0
    · obtain ⟨q1, p, q2, q3⟩ := hN
      exact ⟨q1, p, q2, own_base q3 hz⟩
    · rcases hi with rfl | q | q
      · omega
      · have := (h2.lt i q).2; omega
      · have := hI i q; omega
    · obtain ⟨v, e1, e2, e3⟩ := h3 i p hp
      exact ⟨v, e1, own_stays e2 (fun k hk => hWb.block k (hI k (e3 k hk))), e3⟩
end Go.Proofs.Ytkdocoibfclfeaa

namespace Go.Proofs.Ytkdocoibfclfeaa
open Go.ChangeShapes Go.WideShapes Go.ChangeAt Go.RowKit Go.Deep Go.Shelf Go.Maps Go.WideMaps Ytkdocoibfclfeaa.it
set_option linter.unusedSimpArgs false
set_option linter.unusedVariables false

attribute [local go_sem] Oper.semAt_some
set_option maxRecDepth 100000 in
set_option maxHeartbeats 4000000 in
theorem all_okW (n : Nat) (hn : 1 ≤ n) (l Bx : Nat) (K I : Nat → Prop) (P : List (List Ent)) (hP : P.length ≤ 300) (hps : ∀ p ∈ P, p.length ≤ 128) (ao : Option Addr) (ac : Nat) (vs : List Value) (WS : World) (J Jx : List (Nat × Value) → World → Prop)
    (hY : ∀ pre x W, J pre W → NxA P WS.heap.size pre x W → YieldAt Fence.wide (n - 1) Try.prog l #[.int .i64 (x.1 : Int), x.2] W fun e W' =>
      (e = .returned (.bool true) ∧ J (pre ++ [x]) W' ∧ Fix K W W') ∨ (e = .returned (.bool false) ∧ Jx (pre ++ [x]) W'))
    (hJ : Stays WS.heap.size J) (hB1 : K Bx) (hKI : ∀ i, I i → K i) (hKa : ∀ i, (Value.slice ao P.length ac).ownBlock = some i → K i) (hK : ∀ i, K i → i < WS.heap.size) (hc : WS.cell? ⟨Bx, 0, none⟩ = some (.slice ao P.length ac))
    (hrow : WS.ownsRow 0 33 1 (.slice ao P.length ac) P.length vs) (hpr : ∀ (i : Nat) (p : List Ent), P[i]? = some p → ∃ v, vs[i]? = some v ∧ PostRow I WS v p) (h0 : J [] WS) :
    CallsIn Fence.wide n Try.prog 59 #[.func (.yield l) #[] #[], .pointer (some ⟨Bx, 0, none⟩)] WS fun e W' => (∃ v, e = .returned v) ∧
      ((∃ ys, ys.length = P.length ∧ J ys W') ∨ (∃ pre, pre.length ≤ P.length ∧ Jx pre W')) := by
  have HR := hide hrow
  have HPR := hide hpr
  have HPS := hide hps
  have HKI := hide hKI
  have HKA := hide hKa
  have hKx := hK Bx hB1
  have HK := hide hK
  have HP := hide hP
  clear hrow hpr hps hKI hKa hK hP
  refine callsIn_of_wp Try.func59 rfl trivial ?_ rfl
  simp only [Try.ntmps59, List.size_toArray, List.length_cons, List.length_nil, Nat.reduceAdd, Nat.reduceSub, Array.replicate_succ, Array.replicate_zero, List.push_toArray, List.append_toArray, List.nil_append, List.cons_append]
  gi_wp2
  gi_loopw [7] (fun v7 wr => ∃ pre : List (Nat × Value), pre.length ≤ P.length ∧ v7 = .int .i64 (pre.length : Int) ∧ J pre wr ∧ Fix K WS wr) (fun v7 _ => P.length - (intOf v7).toNat)
  case atStart => exact ⟨[], Nat.zero_le _, rfl, h0, Fix.of_below (Below.refl _ _)⟩
  case round =>
    obtain ⟨pre, hj, rfl, hJs, hBw⟩ := hrel
    have HJS := hide hJs
    have HBW := hide hBw
    clear hJs hBw
    obtain ⟨j, hjj⟩ : ∃ j, j = pre.length := ⟨_, rfl⟩
    rw [← hjj] at hj ⊢
    have HJJ := hide hjj
    clear hjj
    have hk0 : (0 : Int) ≤ (j : Int) := by omega
    have hk9 : (j : Int) < 100000 := by have := HP.out; omega
    by_cases hlt : j < P.length
    · have hlt' : (j : Int) < (P.length : Int) := by omega
      have hz := HBW.out.1
      obtain ⟨p, hp⟩ : ∃ p, P[j]? = some p := ⟨_, List.getElem?_eq_getElem hlt⟩
      obtain ⟨g, c, hgv, hcg⟩ := own_at HR.out hlt
      obtain ⟨rfl, rfl⟩ : ao = some ⟨g, 0, none⟩ ∧ ac = c := by (injection hgv with e1 e2 e3; exact ⟨e1, e3⟩)
      obtain ⟨v, hv, hown, hIb⟩ := HPR.out j p hp
      rw [hv] at hcg
      have hgK := HKA.out g rfl
      have hc1 : wr.cell? ⟨g, j, none⟩ = some v := cell_stay hcg (HBW.out.2 g hgK (HK.out g hgK))
      have hown2 : wr.ownsRow 0 63 2 v p.length (flatE p) := own_stays hown (fun k hk => HBW.out.2 k (HKI.out k (hIb k hk)) (HK.out k (HKI.out k (hIb k hk))))
      obtain ⟨so, cp, rfl, hE⟩ := Ents.of_own hown2
      have HCL := hide (Clone_c so cp p wr (by have := HPS.out p (List.mem_of_getElem? hp); omega) hE)
      have HPP := hide hp
      clear hgv hcg hv hown hown2 hIb hE hgK hp
      gi_wp2_with fail
      refine (callsIn_wide.2 HCL.out).mono ?_
      rintro e V1 ⟨v', rfl, own', hb'⟩
      obtain ⟨ao', cp', rfl⟩ := own_any own'
      obtain ⟨fn, tmps, assign, body, hy, hR⟩ := hY pre (j, .slice ao' p.length cp') V1 (hJ _ _ _ HJS.out (hb'.mono hz)) ⟨HJJ.out, p, by rw [← HJJ.out]; exact HPP.out, own_base own' (by omega)⟩
      dsimp only at hy
      have HF1 := hide (HBW.out.trans (Fix.of_below hb'))
      clear own' hb'
      gi_wp2_with fail
      refine hR.mono ?_
      rintro e W3 (⟨rfl, hJ3, hk3⟩ | ⟨rfl, hJx3⟩)
      · have HJ3 := hide hJ3
        have HB3 := hide (HF1.out.trans (hk3))
        clear hJ3 hk3 hR hy
        gi_wp2
        go_roundw
        case rel => exact ⟨pre ++ [(j, .slice ao' p.length cp')], by rw [List.length_append, ← HJJ.out]; simp; omega, by rw [List.length_append, ← HJJ.out]; go_num, HJ3.out, HB3.out⟩
        case measure => (first | (simp [intOf]; done) | (simp [intOf]; omega))
      · have HJx3 := hide hJx3
        clear hJx3 hR hy
        gi_wp2
        refine bodyPost_ret (results_none rfl _ _ _) rfl ?_
        exact ⟨⟨_, rfl⟩, .inr ⟨pre ++ [(j, .slice ao' p.length cp')], by rw [List.length_append, ← HJJ.out]; simp; omega, HJx3.out⟩⟩
    · obtain rfl : j = P.length := by omega
      gi_wp2
      go_end0
      exact ⟨⟨_, rfl⟩, .inl ⟨pre, HJJ.out.symm, HJS.out⟩⟩
theorem all_seqW (n : Nat) (hn : 1 ≤ n) {I : Nat → Prop} {B : Nat} {P : List (List Ent)} {Bx : Nat} {w : World} (h : AllIt I B P Bx w) (hP : P.length ≤ 300) (hps : ∀ p ∈ P, p.length ≤ 128) (hI : ∀ k, I k → k < w.heap.size) : ∃ K : Nat → Prop, (∀ k, K k → k < w.heap.size) ∧ (∀ k, K k → I k ∨ B ≤ k) ∧
    ∀ V, Below w.heap.size w V → SeqW n Try.prog 59 #[.pointer (some ⟨Bx, 0, none⟩)] encP K (fun xs => xs.length = P.length) (fun pre => pre.length ≤ P.length) (fun pre x W => NxA P V.heap.size pre x W) V := by
  obtain ⟨ao, ac, vs, h1, h2, h3⟩ := h.ex
  have hx : Bx < w.heap.size := World.block_lt_of_cell? w _ h1
  refine ⟨fun k => k = Bx ∨ (Value.slice ao P.length ac).ownBlock = some k ∨ I k, fun k hk => ?_, fun k hk => ?_, fun V hV l J Jx W hbW hJ hJx hY h0 => ?_⟩
  · rcases hk with rfl | q | q
    · exact hx
    · exact (h2.lt k q).2
    · exact hI k q
  · rcases hk with rfl | q | q
    · exact .inr h.lb
    · exact .inr (h2.lt k q).1
    · exact .inl q
  · have hz := hbW.size
    have hzV := hV.size
    have hWb : Below w.heap.size w W := hV.trans (hbW.mono hV.size)
    refine all_okW n hn l Bx (fun k => k = Bx ∨ (Value.slice ao P.length ac).ownBlock = some k ∨ I k) I P hP hps ao ac vs W J Jx (fun pre x W' hJ' hN => hY pre x W' hJ' ?_) hJ (.inl rfl) (fun i hi => .inr (.inr hi)) (fun i hi => .inr (.inl hi)) (fun i hi => ?_) (cell_stay h1 (hWb.block _ hx)) (own_stays (own_zero h2) (fun k hk => hWb.block k (h2.lt k hk).2)) (fun i p hp => ?_) h0
    · obtain ⟨q1, p, q2, q3⟩ := hN
      exact ⟨q1, p, q2, own_base q3 hz⟩
    · rcases hi with rfl | q | q
      · omega
      · have := (h2.lt i q).2; omega
      · have := hI i q; omega
    · obtain ⟨v, e1, e2, e3⟩ := h3 i p hp
      exact ⟨v, e1, own_stays e2 (fun k hk => hWb.block k (hI k (e3 k hk))), e3⟩

/-- what Line has made -/
structure LineIt (I : Nat → Prop) (B : Nat) (P : List (List Ent)) (s : ByteArray) (Bf Bn : Nat) (w : World) : Prop where
  lf : B ≤ Bf
  ln : B ≤ Bn
  n : w.cell? ⟨Bn, 0, none⟩ = some (.string s)
  ex : ∃ Bx, w.cell? ⟨Bf, 0, none⟩ = some (.func (.func 59) #[] #[.pointer (some ⟨Bx, 0, none⟩)]) ∧ AllIt I B P Bx w
def LinePost (I : Nat → Prop) (P : List (List Ent)) (s : ByteArray) (w : World) (e : Ending) (w' : World) : Prop := ∃ Bf Bn, e = .returned (.func (.func 60) #[] #[.pointer (some ⟨Bf, 0, none⟩), .pointer (some ⟨Bn, 0, none⟩)]) ∧ LineIt I w.heap.size P s Bf Bn w' ∧ Below w.heap.size w w'
set_option maxRecDepth 100000 in
set_option maxHeartbeats 2000000 in
theorem Line_c (I : Nat → Prop) (F : Fp) (S : LS) (s : ByteArray) (w : World) (h : LObj I F S w) (hP : S.posts.length ≤ 1048576) : Calls Try.prog 48 #[.pointer (some ⟨F.b, 0, none⟩), .string s] w (LinePost I S.posts s w) := by
  obtain ⟨W, hW⟩ : ∃ W, W = w.alloc (.cells #[.string s] 9) := ⟨_, rfl⟩
  have hbW : Below w.heap.size w W := by rw [hW]; (focus repeat' (first | (with_reducible exact Below.refl _ _) | (with_reducible assumption) | (with_reducible refine Below.alloc ?_ ?_ _) | (with_reducible refine Below.drew ?_) | (with_reducible refine bdrewN ?_ _) | (with_reducible refine Below.setCell ?_ ?_ _) | (first | (with_reducible exact Nat.le_refl _) | (with_reducible assumption) | omega | (simp; omega) | (simp; done))))
  have H := hide (h.below hbW)
  have HP := hide hP
  have HBW := hide hbW
  have cn : W.cell? ⟨w.heap.size, 0, none⟩ = some (.string s) := by rw [hW]; simp [go_sem]
  have zn : w.heap.size < W.heap.size := World.block_lt_of_cell? W _ cn
  have HW := hide hW
  clear h hP hbW hW
  go_enter Try.func48, Try.ntmps48
  go_wp2_with fail
  rw [← HW.out]
  refine (All_c I F S W H.out HP.out).mono ?_
  rintro e w2 ⟨Bx, rfl, hit, hb2⟩
  have HIT := hide hit
  have HB2 := hide hb2
  have cn2 := cell_stay cn (hb2.block _ zn)
  have zb := hb2.size
  clear hit hb2
  go_wp2
  refine bodyPost_ret (v := .func (.func 60) #[] #[.pointer (some ⟨w2.heap.size, 0, none⟩), .pointer (some ⟨w.heap.size, 0, none⟩)]) (by simp [results, Try.f48, go_sem]) rfl ⟨w2.heap.size, w.heap.size, rfl, ⟨by omega, Nat.le_refl _, ?_, Bx, ?_, ?_⟩, ?_⟩
  · exact cell_stay cn2 (Below.heap_alloc _ _ _ (by omega))
  · simp [go_sem]
  · have q := HIT.out.below (fun k hk => Nat.lt_of_lt_of_le (H.out.ilt k hk) zb) ((Below.refl w2.heap.size w2).alloc (Nat.le_refl _) (.cells #[.func (.func 59) #[] #[.pointer (some ⟨Bx, 0, none⟩)]] 102))
    obtain ⟨q1, q2⟩ := q
    obtain ⟨ao, ac, vs, e1, e2, e3⟩ := q2
    exact ⟨by omega, ao, ac, vs, e1, own_base e2 (by omega), e3⟩
  · exact (HBW.out.trans (HB2.out.mono (by omega))).alloc (by omega) _
end Go.Proofs.Ytkdocoibfclfeaa

