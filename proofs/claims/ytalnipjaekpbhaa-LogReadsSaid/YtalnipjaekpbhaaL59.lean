import Derived.Test.YtalnipjaekpbhaaL58
import Derived.OrdersIn
import Derived.RangeFuncCalls
import Derived.Sort.QuietIn
namespace Go.Proofs.Ytalnipjaekpbhaa
open Go.ChangeShapes Go.WideShapes Go.ChangeAt Go.RowKit Go.Deep
set_option linter.unusedSimpArgs false
set_option linter.unusedVariables false

section
variable {F : Fence} {n : Nat} {P : Program} {ops : Array Oper} {Q : Exit → Act → World → Prop} {md : Region.Mode} {S : World → Prop} {D : Nat → Bool}
/-- no 'defer' statement -/
def noDefer (o : Oper) : Bool := match o.op with
  | .defer _ => false
  | _ => true
theorem noDefer_ne {o : Oper} (h : noDefer o = true) : ∀ c, o.op ≠ .defer c := fun c e => by
  unfold noDefer at h
  rw [e] at h
  cases h
/-- as YieldsIf, and it is about to make no call -/
def YieldsIfIn (P : Program) (ops : Array Oper) (S : World → Prop) (o : Oper) (v : Value) (a : Act) : Prop := YieldsIf P ops S o v a ∧ ∀ w, o.about P w a.eval = none
theorem YieldsIfIn.wpOpIn {i : Nat} {o : Oper} {v : Value} {a : Act} (hnd : noDefer o = true) (hi : ops[i]? = some o) (hy : YieldsIfIn P ops S o v a) {K : Act → World → Prop} {w : World} (hS : S w) (h : K (a.put o.dst v) w) : wpOpIn F n P ops Q i K a w := by
  unfold Go.wpOpIn
  simp only [hi]
  have hab : ∀ f, o.about P w a.eval = some f → F.fn f := fun f hf => by rw [hy.2 w] at hf; cases hf
  rcases hy.1 with ⟨hw, hv⟩ | ⟨hw, rfl⟩
  · simp only [hw, if_true, Oper.wpIn, Oper.semAt_eq _ _ _ (noDefer_ne hnd), hv w hS, Oper.uponIn]; exact ⟨hab, h⟩
  · simp only [hw, Bool.false_eq_true, if_false]; exact ⟨hab, h⟩
theorem YieldsIfIn.put {o : Oper} {v : Value} {a : Act} (hy : YieldsIfIn P ops S o v a) (hs : ∀ cs b, o.op ≠ .select cs b) (dst : Option Tmp) (u : Value) (h3 : ∀ d, dst = some d → d ∉ o.looksAt ops) : YieldsIfIn P ops S o v (a.put dst u) :=
  ⟨hy.1.of_same (execOp_put o hs a dst u h3) (wanted_put o a dst u h3), fun w => by rw [about_put o w a dst u h3]; exact hy.2 w⟩
theorem wpOpIn_putIf {j : Nat} {oi oj : Oper} {v : Value} (hnd : noDefer oj = true) (hj : ops[j]? = some oj) (hap : oi.apart ops oj = true) (hsi : ∀ cs b, oi.op ≠ .select cs b) (hsj : ∀ cs b, oj.op ≠ .select cs b)
    (hQ : ∀ c a w, Q (.panic c) (a.put oi.dst v) w → Q (.panic c) a w) {K : Act → World → Prop} {a : Act} {w : World} (hy : YieldsIfIn P ops S oi v a) (h : wpOpIn F n P ops Q j K (a.put oi.dst v) w) :
    wpOpIn F n P ops Q j (fun a' w' => YieldsIfIn P ops S oi v a' ∧ K (a'.put oi.dst v) w') a w := by
  obtain ⟨h1, h2, h3⟩ := Oper.apart_spec hap
  have go : ∀ u w', K ((a.put oi.dst v).put oj.dst u) w' → YieldsIfIn P ops S oi v (a.put oj.dst u) ∧ K ((a.put oj.dst u).put oi.dst v) w' := fun u w' hk => ⟨hy.put hsi oj.dst u h3, by rw [← Act.put_comm a v u h2]; exact hk⟩
  unfold wpOpIn at *
  simp only [hj] at *
  rw [wanted_put oj a oi.dst v h1, about_put oj w a oi.dst v h1] at h
  by_cases hw : Region.wanted oj (yielded ops a.tmps) = true
  · simp only [hw, if_true] at h ⊢
    unfold Oper.wpIn at *
    rw [about_put oj w a oi.dst v h1] at h
    refine ⟨h.1, ?_⟩
    have h := h.2
    rw [Oper.semAt_eq _ _ _ (noDefer_ne hnd), execOp_put oj hsj a oi.dst v h1] at h
    rw [Oper.semAt_eq _ _ _ (noDefer_ne hnd)]
    generalize hr : (execOp a.eval oj).run P w = r at *
    cases r with
    | ok x w' =>
      cases x <;> simp only [Oper.uponIn] at h ⊢
      case value u => exact go u w' h
      case skip => exact go undef w' h
      case defer d =>
        have hyD : YieldsIfIn P ops S oi v { a with defers := d :: a.defers } := ⟨hy.1.of_same rfl rfl, hy.2⟩
        refine ⟨hyD.put hsi oj.dst undef h3, ?_⟩
        rw [← Act.put_comm _ v undef h2, ← Act.put_defers]
        exact h
      case enter f args =>
        refine ⟨h.1, CallsIn.mono h.2 fun e w'' he => ?_⟩
        cases e with
        | returned u => exact go u w'' he
        | panicked c => exact hQ _ _ _ he
        | outgrown => exact he
      case row row args => exact ⟨h.1, RowsIn.mono h.2 fun u w'' he => go u w'' he⟩
      case round l f tmps assign body =>
        refine ⟨h.1, RoundIn.mono h.2 fun e w'' he => ?_⟩
        cases e with
        | returned u => exact go u w'' he
        | panicked c => exact hQ _ _ _ he
        | outgrown => exact he
    | halt x w' =>
      cases x <;> simp only [Oper.uponIn] at h ⊢
      case panic u => exact hQ _ _ _ h
  · simp only [hw] at h ⊢
    exact ⟨h.1, go undef w h.2⟩
def wpAnyXI (F : Fence) (n : Nat) (P : Program) (md : Region.Mode) (ops : Array Oper) (Q : Exit → Act → World → Prop) (S : World → Prop) (D : Nat → Bool) : Nat → Array Bool → Act → World → Prop
  | 0, l, a, w => Region.ready md ops l = [] ∧ Q .normal a w
  | k + 1, l, a, w => (Region.ready md ops l = [] → Q .normal a w) ∧ ∀ i ∈ Region.ready md ops l, wpOpIn F n P ops Q i (fun a' w' => (D i = true → S w') ∧ wpAnyXI F n P md ops Q S D k (l.setIfInBounds i true) a' w') a w
theorem wpAnyXI_any : ∀ (k : Nat) (l : Array Bool) (a : Act) (w : World), wpAnyXI F n P md ops Q S D k l a w → wpAnyIn F n P md ops Q k l a w
  | 0, _, _, _, h => h
  | k + 1, _, _, _, h => ⟨h.1, fun i hi => wpOpIn_mono (fun _ _ q => wpAnyXI_any k _ _ _ q.2) (h.2 i hi)⟩
/-- j waits for i, at once or through others -/
def depB (md : Region.Mode) (ops : Array Oper) : Nat → Nat → Nat → Bool
  | 0, _, _ => false
  | f + 1, j, i => match ops[j]? with
    | some o => o.after.any fun e => Region.binds md e && (e.on == i || depB md ops f e.on i)
    | none => false
def lateT (md : Region.Mode) (ops : Array Oper) (D : Nat → Bool) (i : Nat) : Bool := (List.range ops.size).all fun j => D j || depB md ops ops.size j i
def closedB (md : Region.Mode) (ops : Array Oper) (l : Array Bool) : Bool := (List.range ops.size).all fun j => !l.getD j false || (match ops[j]? with | some o => o.after.all (fun e => !Region.binds md e || l.getD e.on false) | none => true)
def ClosedL (md : Region.Mode) (ops : Array Oper) (l : Array Bool) : Prop := ∀ (j : Nat) (o : Oper), ops[j]? = some o → l.getD j false = true → ∀ e ∈ o.after, Region.binds md e = true → l.getD e.on false = true
theorem closedB_spec {l : Array Bool} (h : closedB md ops l = true) : ClosedL md ops l := fun j o ho hl e he hb => by
  unfold closedB at h
  rw [List.all_eq_true] at h
  have q := h j (List.mem_range.2 (Array.getElem?_eq_some_iff.1 ho).1)
  rw [hl, ho] at q
  simp only [Bool.not_true, Bool.false_or, Array.all_eq_true] at q
  obtain ⟨k, hk, rfl⟩ := Array.mem_iff_getElem.1 he
  have q2 := q k hk
  rw [hb] at q2
  simpa using q2
theorem ClosedL.set {l : Array Bool} (h : ClosedL md ops l) {j : Nat} (hj : j ∈ Region.ready md ops l) : ClosedL md ops (l.setIfInBounds j true) := fun k o ho hl e he hb => by
  refine getD_set_true ?_
  rcases Decidable.em (j = k) with rfl | hne
  · obtain ⟨-, o2, ho2, hall⟩ := mem_ready.1 hj
    rw [ho] at ho2
    obtain rfl := Option.some.inj ho2
    exact hall e he hb
  · rw [getD_set_ne false hne] at hl
    exact h k o ho hl e he hb
theorem dep_listed {l : Array Bool} (hc : ClosedL md ops l) : ∀ (f j i : Nat) (o : Oper), ops[j]? = some o → (∀ e ∈ o.after, Region.binds md e = true → l.getD e.on false = true) → depB md ops f j i = true → l.getD i false = true
  | 0, _, _, _, _, _, h => by cases h
  | f + 1, j, i, o, ho, hall, h => by
    simp only [depB, ho, Array.any_eq_true, Bool.and_eq_true, Bool.or_eq_true, beq_iff_eq] at h
    obtain ⟨k, hk, hb, h⟩ := h
    have hl := hall o.after[k] (Array.getElem_mem hk) hb
    rcases h with rfl | h
    · exact hl
    · cases ho2 : ops[o.after[k].on]? with
      | none =>
        cases f with
        | zero => cases h
        | succ f => simp only [depB, ho2] at h; cases h
      | some o2 => exact dep_listed hc f _ i o2 ho2 (fun e he hb => hc _ o2 ho2 hl e he hb) h
theorem getD_both' {l : Array Bool} {i : Nat} (h : l.getD i true = false) : l.getD i false = false := by
  by_cases hlt : i < l.size
  · simp only [Array.getD_eq_getD_getElem?, Array.getElem?_eq_getElem hlt, Option.getD_some] at h ⊢; exact h
  · rw [Array.getD_eq_getD_getElem?, Array.getElem?_eq_none (by omega)] at h; cases h
theorem wpAnyXI_take {i : Nat} {oi : Oper} {v : Value} {k : Nat} {l : Array Bool} {a : Act} {w : World} (hnd : ops.all noDefer = true) (hi : ops[i]? = some oi) (hs : Region.noSelect ops = true) (hf : Region.free md ops l i = true) (hr : (Region.ready md ops l).contains i = true) (hl : lateT md ops D i = true) (hcl : closedB md ops l = true) (hQ : ∀ c a w, Q (.panic c) (a.put oi.dst v) w → Q (.panic c) a w) (hy : YieldsIf P ops S oi v a) (hab : ∀ w, oi.about P w a.eval = none) (hS : S w) (h : wpAnyXI F n P md ops Q S D k (l.setIfInBounds i true) (a.put oi.dst v) w) : wpAnyXI F n P md ops Q S D (k + 1) l a w := by
  have hnd' : ∀ (j : Nat) (o : Oper), ops[j]? = some o → noDefer o = true := fun j o ho => by
    obtain ⟨hj, rfl⟩ := Array.getElem?_eq_some_iff.1 ho
    exact Array.all_eq_true.1 hnd j hj
  have key : ∀ (k : Nat) (l : Array Bool) (a : Act) (w : World), ClosedL md ops l → (∀ j oj, ops[j]? = some oj → j ≠ i → l.getD j true = false → (∀ e ∈ oj.after, Region.binds md e = true → e.on ≠ i) → oi.apart ops oj = true) → i ∈ Region.ready md ops l → YieldsIfIn P ops S oi v a → S w → wpAnyXI F n P md ops Q S D k (l.setIfInBounds i true) (a.put oi.dst v) w → wpAnyXI F n P md ops Q S D (k + 1) l a w := by
    intro k
    induction k with
    | zero =>
      intro l a w _ _ hr hy hS H
      refine ⟨fun e => absurd hr (by rw [e]; exact List.not_mem_nil), fun j hj => ?_⟩
      rcases Decidable.em (j = i) with rfl | hne
      · exact hy.wpOpIn (hnd' _ _ hi) hi hS ⟨fun _ => hS, H⟩
      · have q := ready_mono hj hne
        rw [H.1] at q
        exact absurd q List.not_mem_nil
    | succ k ih =>
      intro l a w hcl hfr hr hy hS H
      refine ⟨fun e => absurd hr (by rw [e]; exact List.not_mem_nil), fun j hj => ?_⟩
      rcases Decidable.em (j = i) with rfl | hne
      · exact hy.wpOpIn (hnd' _ _ hi) hi hS ⟨fun _ => hS, H⟩
      · obtain ⟨hun, oj, hoj, hall⟩ := mem_ready.1 hj
        have hiun := (mem_ready.1 hr).1
        have hnot : ∀ e ∈ oj.after, Region.binds md e = true → e.on ≠ i := by
          rintro e he hb rfl
          have q := hall e he hb
          by_cases hlt : e.on < l.size
          · simp only [Array.getD_eq_getD_getElem?, Array.getElem?_eq_getElem hlt, Option.getD_some] at hiun q
            rw [hiun] at q; cases q
          · rw [Array.getD_eq_getD_getElem?, Array.getElem?_eq_none (by omega)] at q
            cases q
        have dj : D j = true := by
          cases hd : D j with
          | true => rfl
          | false =>
            have q := List.all_eq_true.1 hl j (List.mem_range.2 (Array.getElem?_eq_some_iff.1 hoj).1)
            rw [hd, Bool.false_or] at q
            have q2 := dep_listed hcl _ j i oj hoj hall q
            rw [getD_both' hiun] at q2
            cases q2
        have q := wpOpIn_putIf (hnd' _ _ hoj) hoj (hfr j oj hoj hne hun hnot) (fun cs b => Region.noSelect_spec hs i oi cs b hi) (fun cs b => Region.noSelect_spec hs j oj cs b hoj) hQ hy (H.2 j (ready_mono hj hne))
        refine wpOpIn_mono (fun a' w' q => ⟨q.2.1, ih (l.setIfInBounds j true) a' w' (hcl.set hj) (fun k ok hk hki hku hno => ?_) (ready_mono hr (Ne.symm hne)) q.1 (q.2.1 dj) ?_⟩) q
        · refine hfr k ok hk hki ?_ hno
          rcases Decidable.em (j = k) with rfl | hjk
          · exact hun
          · rw [getD_set_ne true hjk] at hku; exact hku
        · rw [Array.setIfInBounds_comm _ _ hne]
          exact q.2.2
  exact key k l a w (closedB_spec hcl) (fun j oj => Region.free_spec hi hf j oj) (by simpa using hr) ⟨hy, hab⟩ hS h
def AllXI (F : Fence) (n : Nat) (P : Program) (md : Region.Mode) (ops : Array Oper) (Q : Exit → Act → World → Prop) (S : World → Prop) (D : Nat → Bool) (k : Nat) (l : Array Bool) (a : Act) (w : World) (rs : List Nat) : Prop :=
  ∀ i ∈ rs, wpOpIn F n P ops Q i (fun a' w' => (D i = true → S w') ∧ wpAnyXI F n P md ops Q S D k (l.setIfInBounds i true) a' w') a w
theorem AllXI.nil {k : Nat} {l : Array Bool} {a : Act} {w : World} : AllXI F n P md ops Q S D k l a w [] := fun _ h => absurd h List.not_mem_nil
theorem AllXI.cons {k : Nat} {l : Array Bool} {a : Act} {w : World} {i : Nat} {o : Oper} {rs : List Nat} (ho : ops[i]? = some o) (h : ∀ K : Act → World → Prop, Hid (∀ a w, (D i = true → S w) → wpAnyXI F n P md ops Q S D k (l.setIfInBounds i true) a w → K a w) → if Region.wanted o (yielded ops a.tmps) = true then Oper.wpIn F n P o a w K Q else (∀ f, o.about P w a.eval = some f → F.fn f) ∧ K (a.put o.dst undef) w) (hs : AllXI F n P md ops Q S D k l a w rs) : AllXI F n P md ops Q S D k l a w (i :: rs) := fun j hj => by
  rcases List.mem_cons.1 hj with rfl | hj
  · exact wpOpIn_step ho (fun K hK => h K (fun a w h1 h2 => hK a w ⟨h1, h2⟩))
  · exact hs j hj
theorem wpAnyXI_pick {rs : List Nat} {k : Nat} {l : Array Bool} {a : Act} {w : World} (hr : Region.ready md ops l = rs) (hne : rs ≠ []) (h : AllXI F n P md ops Q S D k l a w rs) : wpAnyXI F n P md ops Q S D (k + 1) l a w :=
  ⟨fun e => absurd (hr ▸ e) hne, hr ▸ h⟩
theorem wpAnyXI_done {l : Array Bool} {a : Act} {w : World} (hr : Region.ready md ops l = []) (h : Q .normal a w) : ∀ k, wpAnyXI F n P md ops Q S D k l a w
  | 0 => ⟨hr, h⟩
  | _ + 1 => ⟨fun _ => h, fun i hi => absurd (hr ▸ hi) List.not_mem_nil⟩
theorem wpIn_regionX {id : Nat} {a : Act} {w : World} (S : World → Prop) (D : Nat → Bool) (hm : P.follows .mixedOrders = true) (hS : S w.drew) (h : S w.drew → wpAnyXI F n P .any ops Q S D ops.size (Array.replicate ops.size false) a w.drew) : (Code.region id ops true).wpIn F n P Q a w :=
  wpIn_region_any hm (wpAnyXI_any _ _ _ _ (h hS))
end
end Go.Proofs.Ytalnipjaekpbhaa
