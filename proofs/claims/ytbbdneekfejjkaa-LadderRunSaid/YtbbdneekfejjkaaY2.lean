import Derived.Deep.AppendLies
import Derived.Laws.OwnMore
import Derived.Test.YtbbdneekfejjkaaRows
import Derived.WalkKit
import Derived.ProofKit
import Derived.OpenShut
import Derived.BigQuiet
import Derived.Deep.QuietTactic
import Derived.WalkLawsBesides
import Derived.WalkSpells
import Derived.Deep.RegionWith
import Derived.Deep.RegionHeld3
import Derived.Deep.RegionLaw
import Derived.Deep.DeepCutAuto
import Derived.Lib.SmallJoins
import Derived.Deep.Fields
import Derived.IntWalk
namespace Go.Proofs.Ytbbdneekfejjkaa.runs
open Go.ChangeShapes Go.WideShapes Go.ChangeAt Go.RowKit Go.Deep
set_option linter.unusedSimpArgs false
set_option linter.unusedVariables false

theorem ret_int {k : IntKind} {a b : Int} (h : a = b) : Ending.returned (.int k a) = .returned (.int k b) := by rw [h]
theorem ret_bool {a b : Bool} (h : a = b) : Ending.returned (.bool a) = .returned (.bool b) := by rw [h]
theorem ret_two {k k2 : IntKind} {a b c d : Int} (h : a = b) (h2 : c = d) : Ending.returned (.tuple #[.int k a, .int k2 c]) = .returned (.tuple #[.int k b, .int k2 d]) := by rw [h, h2]
theorem ret_ib {k : IntKind} {a b : Int} {c d : Bool} (h : a = b) (h2 : c = d) : Ending.returned (.tuple #[.int k a, .bool c]) = .returned (.tuple #[.int k b, .bool d]) := by rw [h, h2]
theorem bcell {W w1 : World} (hb : Below W.heap.size W w1) : (∀ b o, b < W.heap.size → w1.cell? ⟨b, o, none⟩ = W.cell? ⟨b, o, none⟩) ∧ (∀ b o, b < W.heap.size → w1.frozen? ⟨b, o, none⟩ = W.frozen? ⟨b, o, none⟩) :=
  ⟨fun b o h => hb.cell (p := ⟨b, o, none⟩) h, fun b o h => hb.frozen (p := ⟨b, o, none⟩) h⟩
theorem bstep {w W W' : World} (h : Below w.heap.size w W) (hb : Below W.heap.size W W') : Below w.heap.size w W' := h.trans (hb.mono h.size)
theorem hide {p : Prop} (h : p) : Hid p := h
theorem bdrewN {B : Nat} {a w : World} (h : Below B a w) (n : Nat) : Below B a (w.drewN n) := ⟨h.os, h.tape, h.output, h.size, h.block⟩
theorem undraw {B : Nat} {W w w' : World} (h : Below W.heap.size W w') (e : W.heap = w.heap) (e1 : W.os = w.os) (e2 : W.tape = w.tape) (e3 : W.output = w.output) (hB : B ≤ w.heap.size) : Below B w w' := by
  have h2 := h.mono (B' := B) (by rw [e]; exact hB)
  exact ⟨h2.os.trans e1, h2.tape.trans e2, h2.output.trans e3, by rw [← e]; exact h2.size, by rw [← e]; exact h2.block⟩

/-- the cells of so many bids -/
def flat4 (zz : Nat → Nat → Int) (L : Nat) : List Value := (List.range (L * 4)).map (fun m => Value.int .i64 (zz (m / 4) (m % 4)))
theorem flat4_length (zz : Nat → Nat → Int) (L : Nat) : (flat4 zz L).length = L * 4 := by simp [flat4]
theorem flat4_one (zz : Nat → Nat → Int) (L : Nat) : ∀ u ∈ flat4 zz L, u.oneCell' = true := fun u hu => by
  obtain ⟨x, _, rfl⟩ := List.mem_map.1 hu; rfl
theorem flat4_at (zz : Nat → Nat → Int) (L i c : Nat) (hi : i < L) (hc : c < 4) : (flat4 zz L)[i * 4 + c]? = some (.int .i64 (zz i c)) := by
  unfold flat4
  rw [List.getElem?_map, List.getElem?_range (by omega)]
  show some (Value.int .i64 (zz ((i * 4 + c) / 4) ((i * 4 + c) % 4))) = _
  rw [show (i * 4 + c) / 4 = i by omega, show (i * 4 + c) % 4 = c by omega]
theorem info35 : (Try.prog.info? 35).map (fun i => (i.zero, i.size, i.bytes)) = some (some (.agg #[.int .i64 0, .int .i64 0, .int .i64 0, .int .i64 0]), 4, 32) := by kernel_rfl
theorem eql50 (a : Addr) (n cap : Nat) (w : World) : Sem.run Try.prog (binOp .eql 50 (.slice (some a) n cap) (.slice none 0 0)) w = .ok (.bool false) w := by kernel_rfl
theorem eql50n (w : World) : Sem.run Try.prog (binOp .eql 50 (.slice none 0 0) (.slice none 0 0)) w = .ok (.bool true) w := by kernel_rfl
theorem heap_new (w : World) (o : Obj) : (w.alloc o).heap[w.heap.size]? = some o := heap_alloc_new w o
theorem made0_35 (w : World) : (w.alloc (.cells #[] 35)).ownsRow w.heap.size 35 4 (.slice (some ⟨w.heap.size, 0, none⟩) 0 0) 0 [] :=
  ⟨rfl, .inr ⟨_, 0, #[], rfl, Nat.le_refl _, heap_new _ _, by decide, by decide, rfl, rfl⟩⟩
theorem own_any4 {w : World} {base : Nat} {e : TypeId} {size : Nat} {v : Value} {n : Nat} {xs : List Value} (own : w.ownsRow base e size v n xs) : ∃ ao cap, v = .slice ao n cap := by
  rcases own.2 with ⟨rfl, rfl, _⟩ | ⟨k, c, cur, rfl, _⟩
  · exact ⟨none, 0, rfl⟩
  · exact ⟨_, _, rfl⟩
theorem own_later {w w' : World} {base : Nat} {e : TypeId} {size : Nat} {v : Value} {n : Nat} {xs : List Value} (h : w.ownsRow base e size v n xs) (hb : Below w.heap.size w w') : w'.ownsRow base e size v n xs :=
  h.kept (row := none) ⟨hb.os, hb.tape, hb.output, hb.size, fun k hk _ => hb.block k hk⟩ (by
    cases e : v.ownBlock with
    | none => exact .inl rfl
    | some k => exact .inr (by simp))
theorem own_mono4 {w : World} {base base' : Nat} {e : TypeId} {size : Nat} {v : Value} {n : Nat} {xs : List Value} (h : w.ownsRow base e size v n xs) (hb : base' ≤ base) : w.ownsRow base' e size v n xs :=
  ⟨h.1, h.2.imp id (fun ⟨g, cap, cur, a, b, r⟩ => ⟨g, cap, cur, a, Nat.le_trans hb b, r⟩)⟩
theorem own_set4 {w : World} {base : Nat} {e : TypeId} {size : Nat} {v : Value} {n : Nat} {xs : List Value} (h : w.ownsRow base e size v n xs) {b : Nat} (hb : ∀ k, v.ownBlock = some k → k ≠ b) (o : Nat) (u : Value) : (w.setCell ⟨b, o, none⟩ u).ownsRow base e size v n xs := by
  obtain ⟨h0, h⟩ := h
  refine ⟨h0, ?_⟩
  rcases h with h | ⟨g, cap, cur, h1, h2, h3, h4⟩
  · exact .inl h
  · subst h1
    exact .inr ⟨g, cap, cur, rfl, h2, by rw [heap_setCell_other _ _ _ _ (hb g rfl)]; exact h3, h4⟩
/-- the bids that came in -/
structure RowB (w : World) (so : Option Addr) (cap L : Nat) (zz : Nat → Nat → Int) : Prop where
  nil : so = none → L = 0 ∧ cap = 0
  cells : ∀ ad, so = some ad → ∀ j u, (flat4 zz L)[j]? = some u → w.cell? (ad.add j) = some u
  len : L ≤ 9223372036854775807

set_option maxRecDepth 100000 in
set_option maxHeartbeats 2000000 in
theorem Clone_some (ad : Addr) (cap L : Nat) (zz : Nat → Nat → Int) (w : World) (hL : L ≤ 1048576) (hc : ∀ j u, (flat4 zz L)[j]? = some u → w.cell? (ad.add j) = some u) : Calls Try.prog 29 #[.slice (some ad) L cap] w (fun e w' => ∃ v', e = .returned v' ∧ w'.ownsRow w.heap.size 35 4 v' L (flat4 zz L) ∧ Below w.heap.size w w') := by
  obtain ⟨i0, hi0, hz0, hz1, hz2⟩ := info_parts info35
  have Hn := hide (show ∀ j u, (flat4 zz L)[j]? = some u → (w.alloc (.cells #[] 35)).cell? (ad.add j) = some u from fun j u hu =>
    ((Below.refl w.heap.size w).alloc (Nat.le_refl _) (.cells #[] 35)).cell (p := ad.add j) (World.block_lt_of_cell? w _ (hc j u hu)) |>.trans (hc j u hu))
  have Q := eql50
  clear hc
  go_enter Try.func29, Try.ntmps29
  go_wp2_with (at_builtin; refine wpList_append_own _ rfl _ _ 50 rfl w.heap.size 35 i0 _ 4 32 Try.underlying50 hi0 hz0 hz1 hz2 rfl (by decide) (.slice (some ⟨w.heap.size, 0, none⟩) 0 0) 0 [] rfl (made0_35 w) ad L cap (flat4 zz L) rfl (flat4_length zz L) Hn.out (flat4_one zz L) (by unfold maxLen; omega) (by omega) (by simp) ?_; intro v' wn hown2 hg2 _)
  go_ret
  refine ⟨v', rfl, by (rw [Nat.zero_add, List.nil_append] at hown2; exact hown2), ((Below.refl w.heap.size w).alloc (Nat.le_refl _) (.cells #[] 35)).grown hg2 (by simp) (fun k hk => ?_)⟩
  have q' : w.heap.size = k := Option.some.inj hk
  omega

set_option maxRecDepth 100000 in
set_option maxHeartbeats 1000000 in
theorem Clone_nil  (w : World) : Calls Try.prog 29 #[.slice none 0 0] w fun e w' => e = .returned (.slice none 0 0) ∧ Below w.heap.size w w' := by
  have Q := eql50n
  go_enter Try.func29, Try.ntmps29
  go_wp2
  go_ret
  exact ⟨rfl, by (focus repeat' (first | (with_reducible exact Below.refl _ _) | (with_reducible assumption) | (with_reducible refine Below.alloc ?_ ?_ _) | (with_reducible refine Below.drew ?_) | (with_reducible refine bdrewN ?_ _) | (with_reducible refine Below.setCell ?_ ?_ _) | (first | (with_reducible exact Nat.le_refl _) | (with_reducible assumption) | omega | (simp; omega) | (simp; done))))⟩

theorem Clone_c (so : Option Addr) (cap L : Nat) (zz : Nat → Nat → Int) (w : World) (hL : L ≤ 1048576) (h : RowB w so cap L zz) : Calls Try.prog 29 #[.slice so L cap] w (fun e w' => ∃ v', e = .returned v' ∧ w'.ownsRow w.heap.size 35 4 v' L (flat4 zz L) ∧ Below w.heap.size w w') := by
  cases so with
  | none =>
    obtain ⟨rfl, rfl⟩ := h.nil rfl
    exact (Clone_nil w).mono (fun e w' q => ⟨_, q.1, World.ownsRow_nil _ _ _ _, q.2⟩)
  | some ad => exact Clone_some ad cap L zz w hL (h.cells ad rfl)

set_option maxRecDepth 100000 in
set_option maxHeartbeats 2000000 in
theorem All_c (k op cl st sp ex la fl fa co ru : Int) (so : Option Addr) (cap L : Nat) (zz : Nat → Nat → Int) (w : World) (hL : L ≤ 1048576) (hb : RowB w so cap L zz) : Calls Try.prog 19 #[.agg #[.int .i64 k, .int .i64 op, .int .i64 cl, .int .i64 st, .int .i64 sp, .int .i64 ex, .int .i64 la, .int .i64 fl, .int .i64 fa, .int .i64 co, .int .i64 ru], .slice so L cap] w (fun e w' => ∃ Bl Bb v', e = .returned (.func (.func 30) #[] #[.pointer (some ⟨Bl, 0, none⟩), .pointer (some ⟨Bb, 0, none⟩)]) ∧ w.heap.size ≤ Bl ∧ Bl < w'.heap.size ∧ w.heap.size ≤ Bb ∧ Bb < w'.heap.size ∧ (∀ o, w'.cell? ⟨Bl, o, none⟩ = (#[Value.int .i64 k, Value.int .i64 op, Value.int .i64 cl, Value.int .i64 st, Value.int .i64 sp, Value.int .i64 ex, Value.int .i64 la, Value.int .i64 fl, Value.int .i64 fa, Value.int .i64 co, Value.int .i64 ru] : Array Value)[o]?) ∧ w'.cell? ⟨Bb, 0, none⟩ = some v' ∧ w'.ownsRow w.heap.size 35 4 v' L (flat4 zz L) ∧ Below w.heap.size w w') := by
  have HB := hide hb
  have hcl := hb.cells
  have hnl := hb.nil
  clear hb
  go_enter Try.func19, Try.ntmps19
  go_wp2_with fail
  obtain ⟨wA, hwA⟩ : ∃ wA, wA = ((w.alloc (.cells #[Value.int .i64 k, Value.int .i64 op, Value.int .i64 cl, Value.int .i64 st, Value.int .i64 sp, Value.int .i64 ex, Value.int .i64 la, Value.int .i64 fl, Value.int .i64 fa, Value.int .i64 co, Value.int .i64 ru] 27)).alloc (.cells #[.slice so L cap] 50)) := ⟨_, rfl⟩
  rw [← hwA]
  have hbA : Below w.heap.size w wA := by rw [hwA]; (focus repeat' (first | (with_reducible exact Below.refl _ _) | (with_reducible assumption) | (with_reducible refine Below.alloc ?_ ?_ _) | (with_reducible refine Below.drew ?_) | (with_reducible refine bdrewN ?_ _) | (with_reducible refine Below.setCell ?_ ?_ _) | (first | (with_reducible exact Nat.le_refl _) | (with_reducible assumption) | omega | (simp; omega) | (simp; done))))
  have hzA : wA.heap.size = w.heap.size + 2 := by rw [hwA]; simp
  have HA := hide (show ∀ o, wA.cell? ⟨w.heap.size, o, none⟩ = (#[Value.int .i64 k, Value.int .i64 op, Value.int .i64 cl, Value.int .i64 st, Value.int .i64 sp, Value.int .i64 ex, Value.int .i64 la, Value.int .i64 fl, Value.int .i64 fa, Value.int .i64 co, Value.int .i64 ru] : Array Value)[o]? from fun o => by rw [hwA]; simp [go_sem])
  have cB : wA.cell? ⟨w.heap.size + 1, 0, none⟩ = some (.slice so L cap) := by rw [hwA]; simp [go_sem]
  have fB : wA.frozen? ⟨w.heap.size + 1, 0, none⟩ = false := by rw [hwA]; simp [go_sem]
  have hrow : RowB wA so cap L zz := ⟨hnl, fun ad e j u hu => (hbA.cell (p := ad.add j) (World.block_lt_of_cell? w _ (hcl ad e j u hu))).trans (hcl ad e j u hu), HB.out.len⟩
  have HRW := hide hrow
  have HBA := hide hbA
  clear hwA hbA hrow hcl hnl
  refine (Clone_c so cap L zz wA hL HRW.out).mono ?_
  rintro e w1 ⟨v', rfl, own1, hb1⟩
  obtain ⟨ao, ac, rfl⟩ := own_any4 own1
  have c1 := (hb1.cell (p := ⟨w.heap.size + 1, 0, none⟩) (show w.heap.size + 1 < wA.heap.size by omega)).trans cB
  have f1 := (hb1.frozen (p := ⟨w.heap.size + 1, 0, none⟩) (show w.heap.size + 1 < wA.heap.size by omega)).trans fB
  have HC1 := hide (show ∀ o, w1.cell? ⟨w.heap.size, o, none⟩ = (#[Value.int .i64 k, Value.int .i64 op, Value.int .i64 cl, Value.int .i64 st, Value.int .i64 sp, Value.int .i64 ex, Value.int .i64 la, Value.int .i64 fl, Value.int .i64 fa, Value.int .i64 co, Value.int .i64 ru] : Array Value)[o]? from fun o => (hb1.cell (p := ⟨w.heap.size, o, none⟩) (show w.heap.size < wA.heap.size by omega)).trans (HA.out o))
  have OW := hide own1
  have HB1 := hide hb1
  have hz1 := hb1.size
  clear own1 hb1 cB fB
  go_wp2
  go_ret
  refine ⟨w.heap.size, w.heap.size + 1, .slice ao L ac, rfl, Nat.le_refl _, by (rw [World.size_setCell]; omega), by omega, by (rw [World.size_setCell]; omega), fun o => ?_, by simp [go_sem, c1], ?_, ?_⟩
  · exact (World.cell?_of_block (a := ⟨w.heap.size, o, none⟩) (heap_setCell_other w1 ⟨w.heap.size + 1, 0, none⟩ w.heap.size _ (by simp))).trans (HC1.out o)
  · refine own_mono4 (own_set4 OW.out (fun k hk => ?_) 0 _) (by omega)
    have := (OW.out.lt k hk).1
    omega
  · exact Below.setCell (HBA.out.trans (HB1.out.mono (by omega))) (by simp) _
end Go.Proofs.Ytbbdneekfejjkaa.runs
