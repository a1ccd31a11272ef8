import Derived.Test.YtalnipjaekpbhaaMh
import Derived.Deep.CutBlock
import Derived.Deep.RegionHeld
import Derived.Deep.AppendLies
namespace Go.Proofs.Ytalnipjaekpbhaa
open Go.ChangeShapes Go.WideShapes Go.ChangeAt Go.RowKit Go.Deep
set_option linter.unusedSimpArgs false
set_option linter.unusedVariables false

section
variable {P : Program} {ops : Array Oper} {Q : Exit → Act → World → Prop} {md : Region.Mode} {S : World → Prop} {D : Nat → Bool}
/-- whatever order is picked: S is shown behind the operations of D alone -/
def wpAnyX (P : Program) (md : Region.Mode) (ops : Array Oper) (Q : Exit → Act → World → Prop) (S : World → Prop) (D : Nat → Bool) : Nat → Array Bool → Act → World → Prop
  | 0, l, a, w => Region.ready md ops l = [] ∧ Q .normal a w
  | n + 1, l, a, w => (Region.ready md ops l = [] → Q .normal a w) ∧ ∀ i ∈ Region.ready md ops l, wpOp P ops Q i (fun a' w' => (D i = true → S w') ∧ wpAnyX P md ops Q S D n (l.setIfInBounds i true) a' w') a w
theorem wpAnyX_any : ∀ (n : Nat) (l : Array Bool) (a : Act) (w : World), wpAnyX P md ops Q S D n l a w → wpAny P md ops Q n l a w
  | 0, _, _, _, h => h
  | n + 1, _, _, _, h => ⟨h.1, fun i hi => wpOp_mono (fun _ _ q => wpAnyX_any n _ _ _ q.2) (h.2 i hi)⟩
/-- the operations that are not in D all wait for number i -/
def lateB (md : Region.Mode) (ops : Array Oper) (D : Nat → Bool) (i : Nat) : Bool := (List.range ops.size).all fun j => D j || (match ops[j]? with | some o => o.after.any (fun e => Region.binds md e && e.on == i) | none => true)
theorem lateB_spec {i j : Nat} {oj : Oper} (h : lateB md ops D i = true) (hj : ops[j]? = some oj) (hd : D j = false) : ∃ e ∈ oj.after, Region.binds md e = true ∧ e.on = i := by
  unfold lateB at h
  rw [List.all_eq_true] at h
  have q := h j (List.mem_range.2 (Array.getElem?_eq_some_iff.1 hj).1)
  rw [hd, Bool.false_or, hj] at q
  simp only [Array.any_eq_true, Bool.and_eq_true, beq_iff_eq] at q
  obtain ⟨k, hk, q1, q2⟩ := q
  exact ⟨oj.after[k], Array.getElem_mem hk, q1, q2⟩
theorem wpAnyX_take {i : Nat} {oi : Oper} {v : Value} {n : Nat} {l : Array Bool} {a : Act} {w : World} (hi : ops[i]? = some oi) (hs : Region.noSelect ops = true) (hf : Region.free md ops l i = true) (hr : (Region.ready md ops l).contains i = true) (hl : lateB md ops D i = true) (hQ : ∀ c a w, Q (.panic c) (a.put oi.dst v) w → Q (.panic c) a w) (hy : YieldsIf P ops S oi v a) (hS : S w) (h : wpAnyX P md ops Q S D n (l.setIfInBounds i true) (a.put oi.dst v) w) : wpAnyX P md ops Q S D (n + 1) l a w := by
  have key : ∀ (n : Nat) (l : Array Bool) (a : Act) (w : World), (∀ j oj, ops[j]? = some oj → j ≠ i → l.getD j true = false → (∀ e ∈ oj.after, Region.binds md e = true → e.on ≠ i) → oi.apart ops oj = true) → i ∈ Region.ready md ops l → YieldsIf P ops S oi v a → S w → wpAnyX P md ops Q S D n (l.setIfInBounds i true) (a.put oi.dst v) w → wpAnyX P md ops Q S D (n + 1) l a w := by
    intro n
    induction n with
    | zero =>
      intro l a w _ hr hy hS H
      refine ⟨fun e => absurd hr (by rw [e]; exact List.not_mem_nil), fun j hj => ?_⟩
      rcases Decidable.em (j = i) with rfl | hne
      · exact hy.wpOp hi hS ⟨fun _ => hS, H⟩
      · have q := ready_mono hj hne
        rw [H.1] at q
        exact absurd q List.not_mem_nil
    | succ n ih =>
      intro l a w hfr hr hy hS H
      refine ⟨fun e => absurd hr (by rw [e]; exact List.not_mem_nil), fun j hj => ?_⟩
      rcases Decidable.em (j = i) with rfl | hne
      · exact hy.wpOp hi hS ⟨fun _ => hS, H⟩
      · obtain ⟨hun, oj, hoj, hall⟩ := mem_ready.1 hj
        have hiun := (mem_ready.1 hr).1
        have hnot : ∀ e ∈ oj.after, Region.binds md e = true → e.on ≠ i := by
          rintro e he hb rfl
          have q := hall e he hb
          by_cases hlt : e.on < l.size
          · simp only [Array.getD_eq_getD_getElem?, Array.getElem?_eq_getElem hlt, Option.getD_some] at hiun q
            rw [hiun] at q; cases q
          · rw [Array.getD_eq_getD_getElem?, Array.getElem?_eq_none (by omega)] at q
            cases q
        have dj : D j = true := by
          cases hd : D j with
          | true => rfl
          | false =>
            obtain ⟨e, he, hb, hon⟩ := lateB_spec hl hoj hd
            exact absurd hon (hnot e he hb)
        have q := wpOp_putIf hoj (hfr j oj hoj hne hun hnot) (fun cs b => Region.noSelect_spec hs i oi cs b hi) (fun cs b => Region.noSelect_spec hs j oj cs b hoj) hQ hy (H.2 j (ready_mono hj hne))
        refine wpOp_mono (fun a' w' q => ⟨q.2.1, ih (l.setIfInBounds j true) a' w' (fun k ok hk hki hku hno => ?_) (ready_mono hr (Ne.symm hne)) q.1 (q.2.1 dj) ?_⟩) q
        · refine hfr k ok hk hki ?_ hno
          rcases Decidable.em (j = k) with rfl | hjk
          · exact hun
          · rw [getD_set_ne true hjk] at hku; exact hku
        · rw [Array.setIfInBounds_comm _ _ hne]
          exact q.2.2
  exact key n l a w (fun j oj => Region.free_spec hi hf j oj) (by simpa using hr) hy hS h
def AllX (P : Program) (md : Region.Mode) (ops : Array Oper) (Q : Exit → Act → World → Prop) (S : World → Prop) (D : Nat → Bool) (n : Nat) (l : Array Bool) (a : Act) (w : World) (rs : List Nat) : Prop :=
  ∀ i ∈ rs, wpOp P ops Q i (fun a' w' => (D i = true → S w') ∧ wpAnyX P md ops Q S D n (l.setIfInBounds i true) a' w') a w
theorem AllX.nil {n : Nat} {l : Array Bool} {a : Act} {w : World} : AllX P md ops Q S D n l a w [] := fun _ h => absurd h List.not_mem_nil
theorem AllX.cons {n : Nat} {l : Array Bool} {a : Act} {w : World} {i : Nat} {o : Oper} {rs : List Nat} (ho : ops[i]? = some o) (h : ∀ K : Act → World → Prop, Hid (∀ a w, (D i = true → S w) → wpAnyX P md ops Q S D n (l.setIfInBounds i true) a w → K a w) → if Region.wanted o (yielded ops a.tmps) = true then Oper.wp P o a w K Q else K (a.put o.dst undef) w) (hs : AllX P md ops Q S D n l a w rs) : AllX P md ops Q S D n l a w (i :: rs) := fun j hj => by
  rcases List.mem_cons.1 hj with rfl | hj
  · exact wpOp_step ho (fun K hK => h K (fun a w h1 h2 => hK a w ⟨h1, h2⟩))
  · exact hs j hj
theorem wpAnyX_pick {rs : List Nat} {n : Nat} {l : Array Bool} {a : Act} {w : World} (hr : Region.ready md ops l = rs) (hne : rs ≠ []) (h : AllX P md ops Q S D n l a w rs) : wpAnyX P md ops Q S D (n + 1) l a w :=
  ⟨fun e => absurd (hr ▸ e) hne, hr ▸ h⟩
theorem wpAnyX_done {l : Array Bool} {a : Act} {w : World} (hr : Region.ready md ops l = []) (h : Q .normal a w) : ∀ n, wpAnyX P md ops Q S D n l a w
  | 0 => ⟨hr, h⟩
  | _ + 1 => ⟨fun _ => h, fun i hi => absurd (hr ▸ hi) List.not_mem_nil⟩
theorem wp_regionX {id : Nat} {a : Act} {w : World} (S : World → Prop) (D : Nat → Bool) (hm : P.follows .mixedOrders = true) (hS : S w.drew) (h : S w.drew → wpAnyX P .any ops Q S D ops.size (Array.replicate ops.size false) a w.drew) : (Code.region id ops true).wp P Q a w :=
  wp_region_any hm (wpAnyX_any _ _ _ _ (h hS))
/-- append(row, things...) as a step of a region that draws its order -/
theorem step_append_n {w : World} {o : Oper} {a : Act} {K : Act → World → Prop} {E : Prop} (hgd : o.guard = none) (s x : Operand) (t : TypeId)
    (ho : o.op = .call { callee := .builtin .append, args := #[s, x], argTypes := #[t, t] })
    (e : TypeId) (i : TypeInfo) (z : Value) (size bytes : Nat) (ht : P.underlying t = some (.slice e)) (hi : P.info? e = some i) (hz : i.zero = some z) (hsize : i.size = size) (hby : i.bytes = bytes) (hzs : z.cells.size = size) (hsz : 0 < size)
    (B : Nat) (v1 : Value) (n1 : Nat) (xs1 : List Value) (hs : a.eval s = v1) (own1 : w.ownsRow B e size v1 n1 xs1) (p : Option Addr) (n2 c2 : Nat) (xs2 : List Value) (hx : a.eval x = .slice p n2 c2) (hl2 : xs2.length = n2 * size) (hp : p = none → n2 = 0 ∧ c2 = 0) (hc : ∀ ad, p = some ad → ∀ j u, xs2[j]? = some u → w.cell? (ad.add j) = some u) (h1 : ∀ u ∈ xs2, u.oneCell' = true)
    (h63 : n1 + n2 ≤ maxLen) (hbytes : (n1 + n2) * bytes ≤ 140737488355328) (hB : B ≤ w.heap.size)
    (h : ∀ v' w', w'.ownsRow B e size v' (n1 + n2) (xs1 ++ xs2) → w.grownBy w' v1.ownBlock → Nr w v1 v' → K (a.put o.dst v') w') : if Region.wanted o (yielded ops a.tmps) = true then Oper.wp P o a w K Q else E := by
  have key : ∃ v' w', (Builtin.append_ #[t, t] o.type #[v1, .slice p n2 c2]).run P w = .ok v' w' ∧ w'.ownsRow B e size v' (n1 + n2) (xs1 ++ xs2) ∧ w.grownBy w' v1.ownBlock ∧ Nr w v1 v' := by
    cases p with
    | none =>
      obtain ⟨rfl, rfl⟩ := hp rfl
      have hx2 : xs2 = [] := List.length_eq_zero_iff.1 (by omega)
      subst hx2
      rcases own1.2 with ⟨rfl, rfl⟩ | ⟨g1, cap1, cur1, rfl, _, _, hle, _⟩
      · exact ⟨_, w, app_none ht hi _ _ _ (Nat.le_refl _) w, by simpa using own1, World.grownBy.refl w _, Nr.refl _ _⟩
      · exact ⟨_, w, app_none ht hi _ _ _ hle w, by simpa using own1, World.grownBy.refl w _, Nr.refl _ _⟩
    | some ad =>
      obtain ⟨v', w', q1, q2, q3, -, q5⟩ := run_append_own_at (P := P) w B t o.type e i z size bytes ht hi hz hsize hby hzs hsz v1 n1 xs1 own1 ad n2 c2 xs2 hl2 (hc ad rfl) h1 h63 hbytes hB
      refine ⟨v', w', q1, q2, q3, fun k hk => ?_⟩
      rcases q5 with q | q
      · exact .inl (by rw [← q]; exact hk)
      · rw [q] at hk
        have := Option.some.inj hk
        exact .inr (by omega)
  obtain ⟨v', w', q1, q2, q3, q4⟩ := key
  have hw : Region.wanted o (yielded ops a.tmps) = true := by simp [Region.wanted, hgd]
  rw [if_pos hw]
  unfold Oper.wp
  simp [execOp, ho, resolve, invoke, builtin, hs, hx, q1, Result.andThen]
  exact h v' w' q2 q3 q4
end
end Go.Proofs.Ytalnipjaekpbhaa
