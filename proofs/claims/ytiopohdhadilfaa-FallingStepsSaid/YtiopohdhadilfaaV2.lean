import Derived.Test.YtiopohdhadilfaaV1
namespace Go.Proofs.Ytiopohdhadilfaa
open Go.ChangeShapes Go.WideShapes Go.ChangeAt Go.RowKit Go.Deep
set_option linter.unusedSimpArgs false
set_option linter.unusedVariables false

/- 'append(nil, xs...)', xs empty, of whatever address: nil -/
theorem wpList_append_empty {P : Program} (w : World) {ops : Array Oper} {rest : List Oper} {o : Oper} {a : Act} {Q : Exit → Act → World → Prop} (hg : o.guard = none) (s x : Operand) (t : TypeId)
    (ho : o.op = .call { callee := .builtin .append, args := #[s, x], argTypes := #[t, t] })
    (e : TypeId) (i : TypeInfo) (z : Value) (size bytes : Nat) (ht : P.underlying t = some (.slice e)) (hi : P.info? e = some i) (hz : i.zero = some z)
    (hsize : i.size = size) (hby : i.bytes = bytes) (hzs : z.cells.size = size) (hsz : 0 < size)
    (hs : a.eval s = .slice none 0 0) (ao : Option Addr) (n0 c : Nat) (hx : a.eval x = .slice ao n0 c) (hn : n0 = 0) (hnone : ao = none → c = 0)
    (h : ∀ w', w.grownBy w' none → wpList P ops Q rest (a.put o.dst (.slice none 0 0)) w') : wpList P ops Q (o :: rest) a w := by
  subst hn
  have hown : w.ownsRow w.heap.size e size (.slice none 0 0) 0 [] := ⟨by simp, .inl ⟨rfl, rfl⟩⟩
  cases ao with
  | some ad => exact wpList_append_own w hg s x t ho w.heap.size e i z size bytes ht hi hz hsize hby hzs hsz (.slice none 0 0) 0 [] hs hown ad 0 c [] hx (by simp) (by intro j u h; simp at h) (by intro u h; simp at h) (by decide) (by omega) (Nat.le_refl _) (fun v' w' h1 h2 h3 => by
      obtain rfl : v' = .slice none 0 0 := h3.2 ⟨rfl, rfl⟩
      exact h w' h2)
  | none =>
    obtain rfl := hnone rfl
    refine wpList_plain hg fun K hK' => ?_
    have hrun := run_append_owned_none (P := P) w w.heap.size t o.type e i size ht hi _ 0 [] hown
    unfold Oper.wp
    simp [execOp, ho, resolve, invoke, builtin, hs, hx, hrun, Result.andThen]
    exact hK' _ _ (by simpa using h w (World.grownBy.refl _ _))
theorem Takes_empty' (k op cl st sp ex la fl fa co ru : Int) (a : Option Addr) (n0 cap : Nat) (w : World) (hn : n0 = 0) : Calls Try.prog 8 #[.agg #[.int .i64 k, .int .i64 op, .int .i64 cl, .int .i64 st, .int .i64 sp, .int .i64 ex, .int .i64 la, .int .i64 fl, .int .i64 fa, .int .i64 co, .int .i64 ru], .slice a n0 cap] w fun e w' => e = .returned (.tuple #[.int .i64 0, .int .i64 0, .bool false]) ∧ Below w.heap.size w w' := by subst hn; exact Takes_empty k op cl st sp ex la fl fa co ru a cap w
theorem rTakes_empty' (k op cl st sp ex la fl fa co ru : Int) (a : Option Addr) (n0 cap : Nat) (w : World) (hn : n0 = 0) : Calls Try.prog 9 #[.agg #[.int .i64 k, .int .i64 op, .int .i64 cl, .int .i64 st, .int .i64 sp, .int .i64 ex, .int .i64 la, .int .i64 fl, .int .i64 fa, .int .i64 co, .int .i64 ru], .slice a n0 cap] w fun e w' => e = .returned (.tuple #[.int .i64 0, .int .i64 0, .bool false]) ∧ Below w.heap.size w w' := by subst hn; exact rTakes_empty k op cl st sp ex la fl fa co ru a cap w

set_option maxRecDepth 100000 in
set_option maxHeartbeats 2000000 in
theorem Law_empty (k op cl st sp ex la fl fa co ru : Int) (ao : Option Addr) (n0 cap : Nat) (w : World) (hn0 : n0 = 0) (hao : ao = none → cap = 0) : Calls Try.prog 3 #[.agg #[.int .i64 k, .int .i64 op, .int .i64 cl, .int .i64 st, .int .i64 sp, .int .i64 ex, .int .i64 la, .int .i64 fl, .int .i64 fa, .int .i64 co, .int .i64 ru], .slice ao n0 cap] w fun e w' => e = .returned (.bool true) ∧ Below w.heap.size w w' := by
  obtain ⟨i0, hi, hz0, hz1, hz2⟩ := info_parts info2
  have HN := hide hn0
  have HO := hide hao
  clear hn0 hao
  have hsz : (w.alloc (.cells #[Value.int .i64 k, Value.int .i64 op, Value.int .i64 cl, Value.int .i64 st, Value.int .i64 sp, Value.int .i64 ex, Value.int .i64 la, Value.int .i64 fl, Value.int .i64 fa, Value.int .i64 co, Value.int .i64 ru] 25)).heap.size = w.heap.size + 1 := by simp
  have Z0 := hide hsz
  clear hsz
  go_enter Try.func3, Try.ntmps3
  go_wp2_with (first | (at_builtin; refine wpList_append_empty _ rfl (.const (.slice none 0 0)) (.tmp 13) 26 rfl 2 i0 (.int .i64 0) 1 8 Try.underlying26 hi hz0 hz1 hz2 rfl (by decide) rfl ao n0 cap rfl HN.out HO.out ?_; intro w1 hg1) | (at_builtin; refine wpList_append_own _ rfl (.tmp 14) (.tmp 15) 26 rfl (w.heap.size + 1) 2 i0 (.int .i64 0) 1 8 Try.underlying26 hi hz0 hz1 hz2 rfl (by decide) (.slice none 0 0) 0 [] rfl ⟨rfl, .inl ⟨rfl, rfl⟩⟩ ⟨w1.heap.size, 0, none⟩ 1 1 [.int .i64 771] rfl rfl (cell_one_new _ _ _) (by intro u hu; simp at hu; subst hu; rfl) (by decide) (by decide) (by have := hg1.size; simp at this; simp; omega) ?_; intro v2 w2 hown2 hg2 _))
  have z1 : w.heap.size + 1 ≤ w1.heap.size := by have := hg1.size; simpa using this
  have H1 : Below (w.heap.size + 1) (w.alloc (.cells #[Value.int .i64 k, Value.int .i64 op, Value.int .i64 cl, Value.int .i64 st, Value.int .i64 sp, Value.int .i64 ex, Value.int .i64 la, Value.int .i64 fl, Value.int .i64 fa, Value.int .i64 co, Value.int .i64 ru] 25)) w1 := (Below.refl _ _).grown hg1 (by simp) (fun k hk => by cases hk)
  have H2 : Below (w.heap.size + 1) (w.alloc (.cells #[Value.int .i64 k, Value.int .i64 op, Value.int .i64 cl, Value.int .i64 st, Value.int .i64 sp, Value.int .i64 ex, Value.int .i64 la, Value.int .i64 fl, Value.int .i64 fa, Value.int .i64 co, Value.int .i64 ru] 25)) w2 := (H1.alloc z1 _).grown hg2 (by simp; omega) (fun k hk => by cases hk)
  have z2 : w.heap.size + 1 ≤ w2.heap.size := by have := H2.size; simpa using this
  have HB2 : Below w.heap.size w w2 := ((Below.refl w.heap.size w).alloc (Nat.le_refl _) (.cells #[Value.int .i64 k, Value.int .i64 op, Value.int .i64 cl, Value.int .i64 st, Value.int .i64 sp, Value.int .i64 ex, Value.int .i64 la, Value.int .i64 fl, Value.int .i64 fa, Value.int .i64 co, Value.int .i64 ru] 25)).trans (H2.mono (by omega))
  have L2 : ∀ o, w2.cell? ⟨w.heap.size, o, none⟩ = (#[Value.int .i64 k, Value.int .i64 op, Value.int .i64 cl, Value.int .i64 st, Value.int .i64 sp, Value.int .i64 ex, Value.int .i64 la, Value.int .i64 fl, Value.int .i64 fa, Value.int .i64 co, Value.int .i64 ru] : Array Value)[o]? := fun o => (H2.cell (p := ⟨w.heap.size, o, none⟩) (by simp)).trans (by simp)
  obtain ⟨g, cap2, hv2, hgg, hgl, hcp, hcl, _⟩ := own_form hown2 (by omega)
  have E2 : w2.cell? ⟨g, n0, none⟩ = some (.int .i64 771) := by (rw [HN.out]; exact (hcl 0 (by omega)).trans (by simp))
  have hcap : (n0 : Int) ≤ (cap2 : Int) := by (rw [HN.out]; omega)
  have hcp' : n0 + 1 ≤ cap2 := by (rw [HN.out]; omega)
  have hlt : ¬ ((0 : Int) < (n0 : Int)) := by (rw [HN.out]; omega)
  have hlt1 : n0 < 1 := by (rw [HN.out]; omega)
  clear hown2 hg1 hg2 H1 H2 hcl hcp hi hz0 hz1 hz2 Z0
  subst hv2
  go_region_held3 (fun wq => Below w.heap.size w wq ∧ (w.heap.size < wq.heap.size ∧ ∀ o, wq.cell? ⟨w.heap.size, o, none⟩ = (#[Value.int .i64 k, Value.int .i64 op, Value.int .i64 cl, Value.int .i64 st, Value.int .i64 sp, Value.int .i64 ex, Value.int .i64 la, Value.int .i64 fl, Value.int .i64 fa, Value.int .i64 co, Value.int .i64 ru] : Array Value)[o]?)) (((try go_split_ands); refine ⟨?_, ⟨?_, ?_⟩⟩; (focus (first | (focus repeat' (first | (with_reducible exact Below.refl _ _) | (with_reducible assumption) | (with_reducible refine Below.alloc ?_ ?_ _) | (with_reducible refine Below.drew ?_) | (with_reducible refine bdrewN ?_ _) | (with_reducible refine Below.setCell ?_ ?_ _) | (first | (with_reducible exact Nat.le_refl _) | (with_reducible assumption) | omega | (simp; omega) | (simp; done)))))); (focus (first | (with_reducible assumption) | (simp; done) | omega | (simp; omega))); (focus (first | (with_reducible assumption) | (intro o; simp [go_sem, *]; done)))))
      (first | (go_at_call 8; refine (Takes_empty' k op cl st sp ex la fl fa co ru _ _ _ _ HN.out).mono ?_; rintro e w3 ⟨rfl, hb3⟩; (try go_split_ands); have HB3 : Below w.heap.size w w3 := bstep (W := w2.drew) HB2.drew hb3; have hz3 : w2.heap.size ≤ w3.heap.size := hb3.size; (have hz3_0 : w.heap.size < w3.heap.size := by omega); have HC3_0 : ∀ o, w3.cell? ⟨w.heap.size, o, none⟩ = (#[Value.int .i64 k, Value.int .i64 op, Value.int .i64 cl, Value.int .i64 st, Value.int .i64 sp, Value.int .i64 ex, Value.int .i64 la, Value.int .i64 fl, Value.int .i64 fa, Value.int .i64 co, Value.int .i64 ru] : Array Value)[o]? := fun o => (hb3.cell (p := ⟨w.heap.size, o, none⟩) (by first | (simp; done) | omega | (simp; omega))).trans (L2 o)))
  have hb3' : Below w2.heap.size w2 w3 := undraw hb3 rfl rfl rfl rfl (Nat.le_refl _)
  have E3 := hide (show w3.cell? ⟨g, n0, none⟩ = some (.int .i64 771) from (hb3'.cell (p := ⟨g, n0, none⟩) hgl).trans E2)
  have g3 : g < w3.heap.size := by omega
  clear hb3 hb3' E2 HB2 L2 hgl z1 z2 hz3
  go_wp2_with fail
  refine (rTakes_empty' k op cl st sp ex la fl fa co ru _ _ _ _ HN.out).mono ?_
  rintro e w4 ⟨rfl, hb4⟩
  have HB4 : Below w.heap.size w w4 := bstep HB3 hb4
  have E4 : w4.cell? ⟨g, n0, none⟩ = some (.int .i64 771) := (hb4.cell (p := ⟨g, n0, none⟩) g3).trans E3.out
  clear hb4 E3 HB3 HC3_0 hz3_0
  go_wp2
  go_loop [12] (fun v => v = .int .i64 0) (fun _ => 0)
  case atStart => rfl
  case round =>
    subst hrel
    go_wp2_with fail
    (apply Calls.mono; focus ((apply known_any <;> (first | (with_reducible assumption) | (with_reducible rfl) | omega)); done)); rintro e w5 ⟨rfl, hb5⟩
    have HB5 : Below w.heap.size w w5 := bstep HB4 hb5
    go_wp2
    go_ret
    exact ⟨rfl, HB5⟩
end Go.Proofs.Ytiopohdhadilfaa
