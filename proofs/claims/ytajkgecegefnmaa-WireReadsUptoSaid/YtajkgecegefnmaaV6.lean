import Derived.Maps.AppendAt
import Derived.Test.YtajkgecegefnmaaV5
namespace Go.Proofs.Ytajkgecegefnmaa
open Go.ChangeShapes Go.WideShapes Go.ChangeAt Go.RowKit Go.Deep
set_option linter.unusedSimpArgs false
set_option linter.unusedVariables false

/-- 'append(s, xs...)', both empty -/
theorem wpList_append00 {P : Program} (w : World) {ops : Array Oper} {rest : List Oper} {o : Oper} {a : Act} {Q : Exit → Act → World → Prop} (hgd : o.guard = none) (s x : Operand) (t : TypeId)
    (ho : o.op = .call { callee := .builtin .append, args := #[s, x], argTypes := #[t, t] })
    (e : TypeId) (i : TypeInfo) (z : Value) (bytes : Nat) (ht : P.underlying t = some (.slice e)) (hi : P.info? e = some i) (hz : i.zero = some z)
    (hsize : i.size = 1) (hby : i.bytes = bytes) (hzs : z.cells.size = 1)
    (v : Value) (hs : a.eval s = v) (hown : w.ownsRow 0 e 1 v 0 [])
    (ad : Addr) (n0 c : Nat) (hx : a.eval x = .slice (some ad) n0 c) (hn0 : n0 = 0)
    (h : ∀ v' w', w'.ownsRow 0 e 1 v' 0 [] → w.grownBy w' v.ownBlock → wpList P ops Q rest (a.put o.dst v') w') : wpList P ops Q (o :: rest) a w := by
  subst hn0
  refine wpList_plain hgd fun K hK => ?_
  obtain ⟨v', w', hr, h2, h3, _, h5⟩ := run_append_own_at (P := P) w 0 t o.type e i z 1 bytes ht hi hz hsize hby hzs (by decide) v 0 [] hown ad 0 c [] rfl (by intro j u hj; simp at hj) (by intro u hu; simp at hu) (by unfold maxLen; omega) (by omega) (Nat.zero_le _)
  unfold Oper.wp execOp
  simp only [ho, resolve, invoke, builtin, Sem.run_bind, Sem.run_pure, Result.andThen_ok, List.map_toArray, List.map_cons, List.map_nil, hs, hx, hr]
  exact hK _ _ (h v' w' h2 h3)
/-- a slice of bytes that came in -/
structure Row8 (w : World) (ao : Option Addr) (cap : Nat) (ns : List Nat) : Prop where
  nil : ao = none → ns = [] ∧ cap = 0
  bytes : ns ≠ [] → ∃ b off, ao = some ⟨b, off, none⟩ ∧ b < w.heap.size ∧ ∀ j, j < ns.length → w.cell? ⟨b, off + j, none⟩ = some (.int .u8 (ns.getD j 0 : Int))
  small : ∀ x ∈ ns, x < 256
  len : ns.length ≤ 1099511627776
  cap_le : ns.length ≤ cap

set_option maxRecDepth 100000 in
set_option maxHeartbeats 1000000 in
theorem Clone8_zero (ad : Addr) (n0 cap : Nat) (w : World) (hn0 : n0 = 0) : Calls Try.prog 50 #[.slice (some ad) n0 cap] w (fun e w' => ∃ v', e = .returned v' ∧ w'.ownsRow 0 5 1 v' 0 [] ∧ Below w.heap.size w w') := by
  obtain ⟨i0, hi0, hz0, hz1, hz2⟩ := info_parts info5
  have Q := eql28
  have HN := hide hn0
  clear hn0
  go_enter Try.func50, Try.ntmps50
  go_wp2_with (at_builtin; refine wpList_append00 _ rfl (.tmp 5) (.tmp 6) 28 rfl 5 i0 (.int .u8 0) 1 Try.underlying28 hi0 hz0 hz1 hz2 rfl (.slice (some ⟨w.heap.size, 0, none⟩) 0 0) rfl (made0_5 w) ad n0 cap rfl HN.out ?_; intro v' wn hown2 hg2)
  go_ret
  refine ⟨v', rfl, hown2, ((Below.refl w.heap.size w).alloc (Nat.le_refl _) (.cells #[] 5)).grown hg2 (by simp) (fun k hk => ?_)⟩
  have q' : w.heap.size = k := Option.some.inj hk
  omega

set_option maxRecDepth 100000 in
set_option maxHeartbeats 1000000 in
theorem Clone8_nil  (w : World) : Calls Try.prog 50 #[.slice none 0 0] w fun e w' => e = .returned (.slice none 0 0) ∧ Below w.heap.size w w' := by
  have Q := eql28n
  go_enter Try.func50, Try.ntmps50
  go_wp2
  go_ret
  exact ⟨rfl, by (focus repeat' (first | (with_reducible exact Below.refl _ _) | (with_reducible assumption) | (with_reducible refine Below.alloc ?_ ?_ _) | (with_reducible refine Below.drew ?_) | (with_reducible refine bdrewN ?_ _) | (with_reducible refine Below.setCell ?_ ?_ _) | (first | (with_reducible exact Nat.le_refl _) | (with_reducible assumption) | omega | (simp; omega) | (simp; done))))⟩

set_option maxRecDepth 100000 in
set_option maxHeartbeats 1000000 in
theorem NewReader_nil  (w : World) : Calls Try.prog 19 #[.slice none 0 0] w (fun e w' => ∃ g, e = .returned (.pointer (some ⟨g, 0, none⟩)) ∧ w.heap.size ≤ g ∧ Below w.heap.size w w' ∧ RAny w' g w'.heap.size [] 0) := by
  go_enter Try.func19, Try.ntmps19
  go_wp2_with fail
  refine (Clone8_nil _).mono ?_
  rintro e w1 ⟨rfl, hb1⟩
  have HB1 := hide hb1
  clear hb1
  go_wp2
  go_ret
  have hz := HB1.out.size
  have hbl : Below w.heap.size w (w1.alloc (.cells #[.slice none 0 0, .int .i64 0] 93)) := (HB1.out).trans ((bstep (Below.refl _ _) (by (focus repeat' (first | (with_reducible exact Below.refl _ _) | (with_reducible assumption) | (with_reducible refine Below.alloc ?_ ?_ _) | (with_reducible refine Below.drew ?_) | (with_reducible refine bdrewN ?_ _) | (with_reducible refine Below.setCell ?_ ?_ _) | (first | (with_reducible exact Nat.le_refl _) | (with_reducible assumption) | omega | (simp; omega) | (simp; done)))))).mono hz)
  exact ⟨w1.heap.size, rfl, hz, hbl, Nat.le_refl _, .inr ⟨⟨by simp, fun o => by simp [go_sem], fun o => by simp [go_sem]⟩, rfl, rfl⟩⟩

set_option maxRecDepth 100000 in
set_option maxHeartbeats 1000000 in
theorem NewReader_zero (ad : Addr) (n0 cap : Nat) (w : World) (hn0 : n0 = 0) : Calls Try.prog 19 #[.slice (some ad) n0 cap] w (fun e w' => ∃ g, e = .returned (.pointer (some ⟨g, 0, none⟩)) ∧ w.heap.size ≤ g ∧ Below w.heap.size w w' ∧ RAny w' g w'.heap.size [] 0) := by
  have HN := hide hn0
  clear hn0
  go_enter Try.func19, Try.ntmps19
  go_wp2_with fail
  refine (Clone8_zero ad n0 cap _ HN.out).mono ?_
  rintro e w1 ⟨v', rfl, own1, hb1⟩
  have HB1 := hide hb1
  have OW := hide own1
  clear hb1 own1
  rcases OW.out.2 with ⟨rfl, _⟩ | ⟨k, c, cur, rfl, _, hk, _⟩
  · go_wp2
    go_ret
    have hz := HB1.out.size
    have hbl : Below w.heap.size w (w1.alloc (.cells #[.slice none 0 0, .int .i64 0] 93)) := (HB1.out).trans ((bstep (Below.refl _ _) (by (focus repeat' (first | (with_reducible exact Below.refl _ _) | (with_reducible assumption) | (with_reducible refine Below.alloc ?_ ?_ _) | (with_reducible refine Below.drew ?_) | (with_reducible refine bdrewN ?_ _) | (with_reducible refine Below.setCell ?_ ?_ _) | (first | (with_reducible exact Nat.le_refl _) | (with_reducible assumption) | omega | (simp; omega) | (simp; done)))))).mono hz)
    exact ⟨w1.heap.size, rfl, hz, hbl, Nat.le_refl _, .inr ⟨⟨by simp, fun o => by simp [go_sem], fun o => by simp [go_sem]⟩, rfl, rfl⟩⟩
  · go_wp2
    go_ret
    have hz := HB1.out.size
    have hbl : Below w.heap.size w (w1.alloc (.cells #[.slice (some ⟨k, 0, none⟩) 0 c, .int .i64 0] 93)) := (HB1.out).trans ((bstep (Below.refl _ _) (by (focus repeat' (first | (with_reducible exact Below.refl _ _) | (with_reducible assumption) | (with_reducible refine Below.alloc ?_ ?_ _) | (with_reducible refine Below.drew ?_) | (with_reducible refine bdrewN ?_ _) | (with_reducible refine Below.setCell ?_ ?_ _) | (first | (with_reducible exact Nat.le_refl _) | (with_reducible assumption) | omega | (simp; omega) | (simp; done)))))).mono hz)
    have hkl := (Array.getElem?_eq_some_iff.1 hk).1
    exact ⟨w1.heap.size, rfl, hz, hbl, Nat.le_refl _, .inl ⟨k, 0, c, by (simp; omega), by simp, fun o => by simp [go_sem], fun o => by simp [go_sem], by (simp; omega), by omega, fun j hj => by simp at hj, by simp, Nat.le_refl _, by simp, Nat.zero_le _⟩⟩

theorem NewReader_any (ao : Option Addr) (cap : Nat) (ns : List Nat) (w : World) (h : Row8 w ao cap ns) : Calls Try.prog 19 #[.slice ao ns.length cap] w (fun e w' => ∃ g, e = .returned (.pointer (some ⟨g, 0, none⟩)) ∧ w.heap.size ≤ g ∧ Below w.heap.size w w' ∧ RAny w' g w'.heap.size ns 0) := by
  by_cases hn : ns = []
  · subst hn
    cases ao with
    | none => obtain ⟨_, rfl⟩ := h.nil rfl; exact NewReader_nil w
    | some ad => exact NewReader_zero ad 0 cap w rfl
  · obtain ⟨b, off, rfl, hb, hc⟩ := h.bytes hn
    refine (NewReader_some ns b off cap w (List.length_pos_iff.2 hn) (by have := h.len; omega) h.small hc hb).mono ?_
    rintro e w' ⟨g, b2, cap2, rfl, hg, hb2, hbel, hR⟩
    exact ⟨g, rfl, hg, hbel, Nat.le_refl _, .inl ⟨b2, 0, cap2, hR.2.2.2.1, hR⟩⟩
end Go.Proofs.Ytajkgecegefnmaa
