import Derived.Test.YtiopohdhadilfaaY4
namespace Go.Proofs.Ytiopohdhadilfaa
open Go.ChangeShapes Go.WideShapes Go.ChangeAt Go.RowKit Go.Deep
set_option linter.unusedSimpArgs false
set_option linter.unusedVariables false

def S00 (k op cl st sp ex la fl fa co ru : Int) : St := if LotOK k op cl st sp ex la fl fa co ru then some none else none
theorem New_abs (k op cl st sp ex la fl fa co ru : Int) (w : World) : Calls Try.prog 15 #[.agg #[.int .i64 k, .int .i64 op, .int .i64 cl, .int .i64 st, .int .i64 sp, .int .i64 ex, .int .i64 la, .int .i64 fl, .int .i64 fa, .int .i64 co, .int .i64 ru]] w fun e w' => ∃ p, e = .returned (.tuple #[ptrv p, .int .i64 (chk k op cl st sp ex la fl fa co ru)]) ∧ Below w.heap.size w w' ∧ FObj k op cl st sp ex la fl fa co ru w' p (S00 k op cl st sp ex la fl fa co ru) ∧ (∀ g, p = some g → w.heap.size ≤ g) := by
  by_cases h : LotOK k op cl st sp ex la fl fa co ru
  · have e1 : chk k op cl st sp ex la fl fa co ru = 0 := by unfold chk; rw [if_pos h]
    have e2 : S00 k op cl st sp ex la fl fa co ru = some none := by unfold S00; rw [if_pos h]
    rw [e1, e2]
    exact (New_ok k op cl st sp ex la fl fa co ru w h).mono fun e w' ⟨g, q1, q2, q3, q4⟩ => ⟨some g, q1, q3, ⟨h, q4⟩, fun _ e => by cases e; exact q2⟩
  · have e1 : chk k op cl st sp ex la fl fa co ru = 2 := by unfold chk; rw [if_neg h]
    have e2 : S00 k op cl st sp ex la fl fa co ru = none := by unfold S00; rw [if_neg h]
    rw [e1, e2]
    exact (New_no k op cl st sp ex la fl fa co ru w h).mono fun e w' ⟨q1, q2⟩ => ⟨none, q1, q2, trivial, fun _ e => by cases e⟩
theorem rNew_abs (k op cl st sp ex la fl fa co ru : Int) (w : World) : Calls Try.prog 19 #[.agg #[.int .i64 k, .int .i64 op, .int .i64 cl, .int .i64 st, .int .i64 sp, .int .i64 ex, .int .i64 la, .int .i64 fl, .int .i64 fa, .int .i64 co, .int .i64 ru]] w fun e w' => ∃ p, e = .returned (.tuple #[ptrv p, .int .i64 (chk k op cl st sp ex la fl fa co ru)]) ∧ Below w.heap.size w w' ∧ RObj k op cl st sp ex la fl fa co ru w' p (S00 k op cl st sp ex la fl fa co ru) ∧ (∀ g, p = some g → w.heap.size ≤ g) := by
  by_cases h : LotOK k op cl st sp ex la fl fa co ru
  · have e1 : chk k op cl st sp ex la fl fa co ru = 0 := by unfold chk; rw [if_pos h]
    have e2 : S00 k op cl st sp ex la fl fa co ru = some none := by unfold S00; rw [if_pos h]
    rw [e1, e2]
    exact (rNew_ok k op cl st sp ex la fl fa co ru w h).mono fun e w' ⟨g, q1, q2, q3, q4⟩ => ⟨some g, q1, q3, ⟨h, q4⟩, fun _ e => by cases e; exact q2⟩
  · have e1 : chk k op cl st sp ex la fl fa co ru = 2 := by unfold chk; rw [if_neg h]
    have e2 : S00 k op cl st sp ex la fl fa co ru = none := by unfold S00; rw [if_neg h]
    rw [e1, e2]
    exact (rNew_no k op cl st sp ex la fl fa co ru w h).mono fun e w' ⟨q1, q2⟩ => ⟨none, q1, q2, trivial, fun _ e => by cases e⟩
/-- both are there, or neither -/
theorem both {k op cl st sp ex la fl fa co ru : Int} {w w2 : World} {p q : Option Nat} {S : St} (hF : FObj k op cl st sp ex la fl fa co ru w p S) (hR : RObj k op cl st sp ex la fl fa co ru w2 q S) : (p = none ∧ q = none) ∨ ∃ g h, p = some g ∧ q = some h := by
  rcases p with _ | g <;> rcases S with _ | _ | s <;> rcases q with _ | h
  all_goals first | exact .inl ⟨rfl, rfl⟩ | exact .inr ⟨_, _, rfl, rfl⟩ | exact hF.elim | exact hR.elim
/-- the law's state: two lots of the program, two of the document -/
def Two (k op cl st sp ex la fl fa co ru : Int) (w0 : World) (B0 BF BR : Nat) (w : World) (p0 : Option Nat) (S0 : St) (q0 : Option Nat) (T0 : St) (p1 : Option Nat) (S1 : St) (q1 : Option Nat) (T1 : St) : Prop :=
  (Below w0.heap.size w0 w ∧ B0 < w.heap.size ∧ BF < w.heap.size ∧ BR < w.heap.size ∧ BF ≠ BR ∧ w0.heap.size ≤ BF ∧ w0.heap.size ≤ BR) ∧
  (Cells w B0 #[Value.int .i64 k, Value.int .i64 op, Value.int .i64 cl, Value.int .i64 st, Value.int .i64 sp, Value.int .i64 ex, Value.int .i64 la, Value.int .i64 fl, Value.int .i64 fa, Value.int .i64 co, Value.int .i64 ru] ∧ Cells w BF #[ptrv p0, ptrv p1] ∧ Cells w BR #[ptrv q0, ptrv q1] ∧ (∀ o, w.frozen? ⟨BF, o, none⟩ = false) ∧ (∀ o, w.frozen? ⟨BR, o, none⟩ = false)) ∧
  (FObj k op cl st sp ex la fl fa co ru w p0 S0 ∧ RObj k op cl st sp ex la fl fa co ru w q0 T0 ∧ FObj k op cl st sp ex la fl fa co ru w p1 S1 ∧ RObj k op cl st sp ex la fl fa co ru w q1 T1) ∧
  ((∀ g, p0 = some g → p1 ≠ some g) ∧ (∀ g, q0 = some g → q1 ≠ some g)) ∧
  (∀ g, p0 = some g ∨ p1 = some g ∨ q0 = some g ∨ q1 = some g → w0.heap.size ≤ g)
section
variable {k op cl st sp ex la fl fa co ru : Int} {w0 w w' : World} {B0 BF BR : Nat} {p0 q0 p1 q1 : Option Nat} {S0 T0 S1 T1 S' : St}
theorem FObj.ne {p : Option Nat} {S : St} (h : FObj k op cl st sp ex la fl fa co ru w p S) {X : Nat} {c : Array Value} (hc : Cells w X c) (hs : c.size ≠ 12) : ∀ g, p = some g → X ≠ g := by
  rintro g rfl
  obtain ⟨_, d, h1, h2⟩ := h.cells
  exact hc.ne h2 (by rw [h1]; exact hs)
theorem RObj.ne {p : Option Nat} {S : St} (h : RObj k op cl st sp ex la fl fa co ru w p S) {X : Nat} {c : Array Value} (hc : Cells w X c) (hs : c.size ≠ 15) : ∀ g, p = some g → X ≠ g := by
  rintro g rfl
  obtain ⟨_, d, h1, h2⟩ := h.cells
  exact hc.ne h2 (by rw [h1]; exact hs)
/-- what stays where only p was written, p apart from whatever has another size -/
theorem Two.keep {p : Option Nat} (h : Two k op cl st sp ex la fl fa co ru w0 B0 BF BR w p0 S0 q0 T0 p1 S1 q1 T1) (ho : OnlyP p w w') (hb : ∀ g, p = some g → w0.heap.size ≤ g)
    (hne : ∀ X c, Cells w X c → c.size ≠ 12 → c.size ≠ 15 → ∀ g, p = some g → X ≠ g) :
    (Below w0.heap.size w0 w' ∧ B0 < w'.heap.size ∧ BF < w'.heap.size ∧ BR < w'.heap.size ∧ BF ≠ BR ∧ w0.heap.size ≤ BF ∧ w0.heap.size ≤ BR) ∧
    (Cells w' B0 #[Value.int .i64 k, Value.int .i64 op, Value.int .i64 cl, Value.int .i64 st, Value.int .i64 sp, Value.int .i64 ex, Value.int .i64 la, Value.int .i64 fl, Value.int .i64 fa, Value.int .i64 co, Value.int .i64 ru] ∧ Cells w' BF #[ptrv p0, ptrv p1] ∧ Cells w' BR #[ptrv q0, ptrv q1] ∧ (∀ o, w'.frozen? ⟨BF, o, none⟩ = false) ∧ (∀ o, w'.frozen? ⟨BR, o, none⟩ = false)) := by
  obtain ⟨⟨a1, a2, a3, a4, a5, a6, a7⟩, ⟨b1, b2, b3, b4, b5⟩, _⟩ := h
  have z := ho.size
  have n0 := hne B0 _ b1 (by simp) (by simp)
  have nF := hne BF _ b2 (by simp) (by simp)
  have nR := hne BR _ b3 (by simp) (by simp)
  exact ⟨⟨ho.below a1 hb, by omega, by omega, by omega, a5, a6, a7⟩, b1.only ho a2 n0, b2.only ho a3 nF, b3.only ho a4 nR, fun o => (ho.frozen a3 nF o).trans (b4 o), fun o => (ho.frozen a4 nR o).trans (b5 o)⟩
theorem Two.f0 (h : Two k op cl st sp ex la fl fa co ru w0 B0 BF BR w p0 S0 q0 T0 p1 S1 q1 T1) (ho : OnlyP p0 w w') (hF : FObj k op cl st sp ex la fl fa co ru w' p0 S') : Two k op cl st sp ex la fl fa co ru w0 B0 BF BR w' p0 S' q0 T0 p1 S1 q1 T1 := by
  obtain ⟨_, _, ⟨c1, c2, c3, c4⟩, ⟨d1, d2⟩, e⟩ := id h
  obtain ⟨k1, k2⟩ := h.keep ho (fun g hg => e g (.inl hg)) (fun X c hc h1 h2 => c1.ne hc h1)
  refine ⟨k1, k2, ⟨hF, c2.only ho (fun g hg => ?_), c3.only ho d1 (fun g hg a c hs hc => c1.ne hc (by omega) g hg), c4.only ho (fun g hg => ?_)⟩, ⟨d1, d2⟩, e⟩
  · rintro rfl; obtain ⟨_, d, h1, h2⟩ := c2.cells; exact c1.ne h2 (by omega) g hg rfl
  · rintro rfl; obtain ⟨_, d, h1, h2⟩ := c4.cells; exact c1.ne h2 (by omega) g hg rfl
theorem Two.f1 (h : Two k op cl st sp ex la fl fa co ru w0 B0 BF BR w p0 S0 q0 T0 p1 S1 q1 T1) (ho : OnlyP p1 w w') (hF : FObj k op cl st sp ex la fl fa co ru w' p1 S') : Two k op cl st sp ex la fl fa co ru w0 B0 BF BR w' p0 S0 q0 T0 p1 S' q1 T1 := by
  obtain ⟨_, _, ⟨c1, c2, c3, c4⟩, ⟨d1, d2⟩, e⟩ := id h
  obtain ⟨k1, k2⟩ := h.keep ho (fun g hg => e g (.inr (.inl hg))) (fun X c hc h1 h2 => c3.ne hc h1)
  refine ⟨k1, k2, ⟨c1.only ho (fun g hg hg2 => d1 g hg2 hg) (fun g hg a c hs hc => c3.ne hc (by omega) g hg), c2.only ho (fun g hg => ?_), hF, c4.only ho (fun g hg => ?_)⟩, ⟨d1, d2⟩, e⟩
  · rintro rfl; obtain ⟨_, d, h1, h2⟩ := c2.cells; exact c3.ne h2 (by omega) g hg rfl
  · rintro rfl; obtain ⟨_, d, h1, h2⟩ := c4.cells; exact c3.ne h2 (by omega) g hg rfl
theorem Two.r0 (h : Two k op cl st sp ex la fl fa co ru w0 B0 BF BR w p0 S0 q0 T0 p1 S1 q1 T1) (ho : OnlyP q0 w w') (hF : RObj k op cl st sp ex la fl fa co ru w' q0 S') : Two k op cl st sp ex la fl fa co ru w0 B0 BF BR w' p0 S0 q0 S' p1 S1 q1 T1 := by
  obtain ⟨_, _, ⟨c1, c2, c3, c4⟩, ⟨d1, d2⟩, e⟩ := id h
  obtain ⟨k1, k2⟩ := h.keep ho (fun g hg => e g (.inr (.inr (.inl hg)))) (fun X c hc h1 h2 => c2.ne hc h2)
  refine ⟨k1, k2, ⟨c1.only ho (fun g hg => ?_) (fun g hg a c hs hc => c2.ne hc (by omega) g hg), hF, c3.only ho (fun g hg => ?_) (fun g hg a c hs hc => c2.ne hc (by omega) g hg), c4.only ho d2⟩, ⟨d1, d2⟩, e⟩
  · rintro rfl; obtain ⟨_, d, h1, h2⟩ := c1.cells; exact c2.ne h2 (by omega) g hg rfl
  · rintro rfl; obtain ⟨_, d, h1, h2⟩ := c3.cells; exact c2.ne h2 (by omega) g hg rfl
theorem Two.r1 (h : Two k op cl st sp ex la fl fa co ru w0 B0 BF BR w p0 S0 q0 T0 p1 S1 q1 T1) (ho : OnlyP q1 w w') (hF : RObj k op cl st sp ex la fl fa co ru w' q1 S') : Two k op cl st sp ex la fl fa co ru w0 B0 BF BR w' p0 S0 q0 T0 p1 S1 q1 S' := by
  obtain ⟨_, _, ⟨c1, c2, c3, c4⟩, ⟨d1, d2⟩, e⟩ := id h
  obtain ⟨k1, k2⟩ := h.keep ho (fun g hg => e g (.inr (.inr (.inr hg)))) (fun X c hc h1 h2 => c4.ne hc h2)
  refine ⟨k1, k2, ⟨c1.only ho (fun g hg => ?_) (fun g hg a c hs hc => c4.ne hc (by omega) g hg), c2.only ho (fun g hg hg2 => d2 g hg2 hg), c3.only ho (fun g hg => ?_) (fun g hg a c hs hc => c4.ne hc (by omega) g hg), hF⟩, ⟨d1, d2⟩, e⟩
  · rintro rfl; obtain ⟨_, d, h1, h2⟩ := c1.cells; exact c4.ne h2 (by omega) g hg rfl
  · rintro rfl; obtain ⟨_, d, h1, h2⟩ := c3.cells; exact c4.ne h2 (by omega) g hg rfl
theorem Two.below (h : Two k op cl st sp ex la fl fa co ru w0 B0 BF BR w p0 S0 q0 T0 p1 S1 q1 T1) (hb : Below w.heap.size w w') : Two k op cl st sp ex la fl fa co ru w0 B0 BF BR w' p0 S0 q0 T0 p1 S1 q1 T1 := by
  obtain ⟨_, _, ⟨c1, c2, c3, c4⟩, d, e⟩ := id h
  obtain ⟨k1, k2⟩ := h.keep (p := none) hb (fun g hg => by cases hg) (fun X c hc h1 h2 g hg => by cases hg)
  exact ⟨k1, k2, ⟨c1.below hb, c2.below hb, c3.below hb, c4.below hb⟩, d, e⟩

theorem Two.hb (h : Two k op cl st sp ex la fl fa co ru w0 B0 BF BR w p0 S0 q0 T0 p1 S1 q1 T1) : Below w0.heap.size w0 w := h.1.1
theorem Two.z0 (h : Two k op cl st sp ex la fl fa co ru w0 B0 BF BR w p0 S0 q0 T0 p1 S1 q1 T1) : B0 < w.heap.size := h.1.2.1
theorem Two.zF (h : Two k op cl st sp ex la fl fa co ru w0 B0 BF BR w p0 S0 q0 T0 p1 S1 q1 T1) : BF < w.heap.size := h.1.2.2.1
theorem Two.zR (h : Two k op cl st sp ex la fl fa co ru w0 B0 BF BR w p0 S0 q0 T0 p1 S1 q1 T1) : BR < w.heap.size := h.1.2.2.2.1
theorem Two.cL (h : Two k op cl st sp ex la fl fa co ru w0 B0 BF BR w p0 S0 q0 T0 p1 S1 q1 T1) : ∀ o, w.cell? ⟨B0, o, none⟩ = (#[Value.int .i64 k, Value.int .i64 op, Value.int .i64 cl, Value.int .i64 st, Value.int .i64 sp, Value.int .i64 ex, Value.int .i64 la, Value.int .i64 fl, Value.int .i64 fa, Value.int .i64 co, Value.int .i64 ru] : Array Value)[o]? := h.2.1.1
theorem Two.cF (h : Two k op cl st sp ex la fl fa co ru w0 B0 BF BR w p0 S0 q0 T0 p1 S1 q1 T1) : ∀ o, w.cell? ⟨BF, o, none⟩ = (#[.pointer (pa p0), .pointer (pa p1)] : Array Value)[o]? := h.2.1.2.1
theorem Two.cR (h : Two k op cl st sp ex la fl fa co ru w0 B0 BF BR w p0 S0 q0 T0 p1 S1 q1 T1) : ∀ o, w.cell? ⟨BR, o, none⟩ = (#[.pointer (pa q0), .pointer (pa q1)] : Array Value)[o]? := h.2.1.2.2.1
theorem Two.fF (h : Two k op cl st sp ex la fl fa co ru w0 B0 BF BR w p0 S0 q0 T0 p1 S1 q1 T1) : ∀ o, w.frozen? ⟨BF, o, none⟩ = false := h.2.1.2.2.2.1
theorem Two.fR (h : Two k op cl st sp ex la fl fa co ru w0 B0 BF BR w p0 S0 q0 T0 p1 S1 q1 T1) : ∀ o, w.frozen? ⟨BR, o, none⟩ = false := h.2.1.2.2.2.2
theorem Two.gF0 (h : Two k op cl st sp ex la fl fa co ru w0 B0 BF BR w p0 S0 q0 T0 p1 S1 q1 T1) : FObj k op cl st sp ex la fl fa co ru w p0 S0 := h.2.2.1.1
theorem Two.gR0 (h : Two k op cl st sp ex la fl fa co ru w0 B0 BF BR w p0 S0 q0 T0 p1 S1 q1 T1) : RObj k op cl st sp ex la fl fa co ru w q0 T0 := h.2.2.1.2.1
theorem Two.gF1 (h : Two k op cl st sp ex la fl fa co ru w0 B0 BF BR w p0 S0 q0 T0 p1 S1 q1 T1) : FObj k op cl st sp ex la fl fa co ru w p1 S1 := h.2.2.1.2.2.1
theorem Two.gR1 (h : Two k op cl st sp ex la fl fa co ru w0 B0 BF BR w p0 S0 q0 T0 p1 S1 q1 T1) : RObj k op cl st sp ex la fl fa co ru w q1 T1 := h.2.2.1.2.2.2
theorem Only.refl (g : Nat) (w : World) : Only g w w := Only.of_below (Below.refl _ _)

theorem set2_1 {b : Nat} {x y : Value} (h : Cells w b #[x, y]) (v : Value) : Cells (w.setCell ⟨b, 1, none⟩ v) b #[x, v] := by
  intro o; unfold Cells at h; rcases o with _ | _ | o <;> simp [go_sem, h]
theorem set2_0 {b : Nat} {x y : Value} (h : Cells w b #[x, y]) (v : Value) : Cells (w.setCell ⟨b, 0, none⟩ v) b #[v, y] := by
  intro o; unfold Cells at h; rcases o with _ | _ | o <;> simp [go_sem, h]

/-- copies of the ones are stored in the places of the others -/
theorem Two.copy1 (h : Two k op cl st sp ex la fl fa co ru w0 B0 BF BR w p0 S0 q0 T0 p1 S1 q1 T1) {p q : Option Nat} {T' : St} (hF : FObj k op cl st sp ex la fl fa co ru w p S') (hR : RObj k op cl st sp ex la fl fa co ru w q T') (hp : ∀ g, p = some g → w0.heap.size ≤ g ∧ p0 ≠ some g) (hq : ∀ g, q = some g → w0.heap.size ≤ g ∧ q0 ≠ some g) :
    Two k op cl st sp ex la fl fa co ru w0 B0 BF BR ((w.setCell ⟨BF, 1, none⟩ (ptrv p)).setCell ⟨BR, 1, none⟩ (ptrv q)) p0 S0 q0 T0 p S' q T' := by
  obtain ⟨⟨a1, a2, a3, a4, a5, a6, a7⟩, ⟨b1, b2, b3, b4, b5⟩, ⟨c1, c2, c3, c4⟩, ⟨d1, d2⟩, e⟩ := h
  have o1 : OnlyP (some BF) w (w.setCell ⟨BF, 1, none⟩ (ptrv p)) := (Only.refl BF w).setCell (p := ⟨BF, 1, none⟩) (.inl rfl) _
  have o2 : OnlyP (some BR) (w.setCell ⟨BF, 1, none⟩ (ptrv p)) ((w.setCell ⟨BF, 1, none⟩ (ptrv p)).setCell ⟨BR, 1, none⟩ (ptrv q)) := (Only.refl BR _).setCell (p := ⟨BR, 1, none⟩) (.inl rfl) _
  have n0F : B0 ≠ BF := b1.ne b2 (by simp)
  have n0R : B0 ≠ BR := b1.ne b3 (by simp)
  have bF : Cells (w.setCell ⟨BF, 1, none⟩ (ptrv p)) BF #[ptrv p0, ptrv p] := set2_1 b2 _
  have bR : Cells (w.setCell ⟨BF, 1, none⟩ (ptrv p)) BR #[ptrv q0, ptrv q1] := b3.only o1 a4 (fun g hg => by cases hg; exact fun x => a5 x.symm)
  have bR2 : Cells ((w.setCell ⟨BF, 1, none⟩ (ptrv p)).setCell ⟨BR, 1, none⟩ (ptrv q)) BR #[ptrv q0, ptrv q] := set2_1 bR _
  have z1 : (w.setCell ⟨BF, 1, none⟩ (ptrv p)).heap.size = w.heap.size := by simp
  have z2 : ((w.setCell ⟨BF, 1, none⟩ (ptrv p)).setCell ⟨BR, 1, none⟩ (ptrv q)).heap.size = w.heap.size := by simp
  refine ⟨⟨(a1.setCell (p := ⟨BF, 1, none⟩) a6 _).setCell (p := ⟨BR, 1, none⟩) a7 _, by omega, by omega, by omega, a5, a6, a7⟩,
    ⟨(b1.only o1 a2 (fun g hg => by cases hg; exact n0F)).only o2 (by omega) (fun g hg => by cases hg; exact n0R), bF.only o2 (by omega) (fun g hg => by cases hg; exact a5), bR2, ?_, ?_⟩,
    ⟨((c1.only o1 (fun g hg x => by cases hg; cases x; obtain ⟨_, d, u1, u2⟩ := FObj.cells c1; exact b2.ne u2 (by rw [u1]; simp) rfl) (fun g hg a c hs hc => by cases hg; exact hc.ne b2 (by rw [hs]; simp))).only o2 (fun g hg x => by cases hg; cases x; obtain ⟨_, d, u1, u2⟩ := FObj.cells c1; exact b3.ne u2 (by rw [u1]; simp) rfl) (fun g hg a c hs hc => by cases hg; exact hc.ne bR (by rw [hs]; simp))), ((c2.only o1 (fun g hg x => by cases hg; cases x; obtain ⟨_, d, u1, u2⟩ := RObj.cells c2; exact b2.ne u2 (by rw [u1]; simp) rfl)).only o2 (fun g hg x => by cases hg; cases x; obtain ⟨_, d, u1, u2⟩ := RObj.cells c2; exact b3.ne u2 (by rw [u1]; simp) rfl)), ((hF.only o1 (fun g hg x => by cases hg; cases x; obtain ⟨_, d, u1, u2⟩ := FObj.cells hF; exact b2.ne u2 (by rw [u1]; simp) rfl) (fun g hg a c hs hc => by cases hg; exact hc.ne b2 (by rw [hs]; simp))).only o2 (fun g hg x => by cases hg; cases x; obtain ⟨_, d, u1, u2⟩ := FObj.cells hF; exact b3.ne u2 (by rw [u1]; simp) rfl) (fun g hg a c hs hc => by cases hg; exact hc.ne bR (by rw [hs]; simp))), ((hR.only o1 (fun g hg x => by cases hg; cases x; obtain ⟨_, d, u1, u2⟩ := RObj.cells hR; exact b2.ne u2 (by rw [u1]; simp) rfl)).only o2 (fun g hg x => by cases hg; cases x; obtain ⟨_, d, u1, u2⟩ := RObj.cells hR; exact b3.ne u2 (by rw [u1]; simp) rfl))⟩, ⟨fun g x y => (hp g y).2 x, fun g x y => (hq g y).2 x⟩, ?_⟩
  · intro o; simp only [World.frozen?_setCell]; exact b4 o
  · intro o; simp only [World.frozen?_setCell]; exact b5 o
  · rintro g (x | x | x | x)
    · exact e g (.inl x)
    · exact (hp g x).1
    · exact e g (.inr (.inr (.inl x)))
    · exact (hq g x).1

/-- copies of the ones are stored in the places of the others -/
theorem Two.copy0 (h : Two k op cl st sp ex la fl fa co ru w0 B0 BF BR w p0 S0 q0 T0 p1 S1 q1 T1) {p q : Option Nat} {T' : St} (hF : FObj k op cl st sp ex la fl fa co ru w p S') (hR : RObj k op cl st sp ex la fl fa co ru w q T') (hp : ∀ g, p = some g → w0.heap.size ≤ g ∧ p1 ≠ some g) (hq : ∀ g, q = some g → w0.heap.size ≤ g ∧ q1 ≠ some g) :
    Two k op cl st sp ex la fl fa co ru w0 B0 BF BR ((w.setCell ⟨BF, 0, none⟩ (ptrv p)).setCell ⟨BR, 0, none⟩ (ptrv q)) p S' q T' p1 S1 q1 T1 := by
  obtain ⟨⟨a1, a2, a3, a4, a5, a6, a7⟩, ⟨b1, b2, b3, b4, b5⟩, ⟨c1, c2, c3, c4⟩, ⟨d1, d2⟩, e⟩ := h
  have o1 : OnlyP (some BF) w (w.setCell ⟨BF, 0, none⟩ (ptrv p)) := (Only.refl BF w).setCell (p := ⟨BF, 0, none⟩) (.inl rfl) _
  have o2 : OnlyP (some BR) (w.setCell ⟨BF, 0, none⟩ (ptrv p)) ((w.setCell ⟨BF, 0, none⟩ (ptrv p)).setCell ⟨BR, 0, none⟩ (ptrv q)) := (Only.refl BR _).setCell (p := ⟨BR, 0, none⟩) (.inl rfl) _
  have n0F : B0 ≠ BF := b1.ne b2 (by simp)
  have n0R : B0 ≠ BR := b1.ne b3 (by simp)
  have bF : Cells (w.setCell ⟨BF, 0, none⟩ (ptrv p)) BF #[ptrv p, ptrv p1] := set2_0 b2 _
  have bR : Cells (w.setCell ⟨BF, 0, none⟩ (ptrv p)) BR #[ptrv q0, ptrv q1] := b3.only o1 a4 (fun g hg => by cases hg; exact fun x => a5 x.symm)
  have bR2 : Cells ((w.setCell ⟨BF, 0, none⟩ (ptrv p)).setCell ⟨BR, 0, none⟩ (ptrv q)) BR #[ptrv q, ptrv q1] := set2_0 bR _
  have z1 : (w.setCell ⟨BF, 0, none⟩ (ptrv p)).heap.size = w.heap.size := by simp
  have z2 : ((w.setCell ⟨BF, 0, none⟩ (ptrv p)).setCell ⟨BR, 0, none⟩ (ptrv q)).heap.size = w.heap.size := by simp
  refine ⟨⟨(a1.setCell (p := ⟨BF, 0, none⟩) a6 _).setCell (p := ⟨BR, 0, none⟩) a7 _, by omega, by omega, by omega, a5, a6, a7⟩,
    ⟨(b1.only o1 a2 (fun g hg => by cases hg; exact n0F)).only o2 (by omega) (fun g hg => by cases hg; exact n0R), bF.only o2 (by omega) (fun g hg => by cases hg; exact a5), bR2, ?_, ?_⟩,
    ⟨((hF.only o1 (fun g hg x => by cases hg; cases x; obtain ⟨_, d, u1, u2⟩ := FObj.cells hF; exact b2.ne u2 (by rw [u1]; simp) rfl) (fun g hg a c hs hc => by cases hg; exact hc.ne b2 (by rw [hs]; simp))).only o2 (fun g hg x => by cases hg; cases x; obtain ⟨_, d, u1, u2⟩ := FObj.cells hF; exact b3.ne u2 (by rw [u1]; simp) rfl) (fun g hg a c hs hc => by cases hg; exact hc.ne bR (by rw [hs]; simp))), ((hR.only o1 (fun g hg x => by cases hg; cases x; obtain ⟨_, d, u1, u2⟩ := RObj.cells hR; exact b2.ne u2 (by rw [u1]; simp) rfl)).only o2 (fun g hg x => by cases hg; cases x; obtain ⟨_, d, u1, u2⟩ := RObj.cells hR; exact b3.ne u2 (by rw [u1]; simp) rfl)), ((c3.only o1 (fun g hg x => by cases hg; cases x; obtain ⟨_, d, u1, u2⟩ := FObj.cells c3; exact b2.ne u2 (by rw [u1]; simp) rfl) (fun g hg a c hs hc => by cases hg; exact hc.ne b2 (by rw [hs]; simp))).only o2 (fun g hg x => by cases hg; cases x; obtain ⟨_, d, u1, u2⟩ := FObj.cells c3; exact b3.ne u2 (by rw [u1]; simp) rfl) (fun g hg a c hs hc => by cases hg; exact hc.ne bR (by rw [hs]; simp))), ((c4.only o1 (fun g hg x => by cases hg; cases x; obtain ⟨_, d, u1, u2⟩ := RObj.cells c4; exact b2.ne u2 (by rw [u1]; simp) rfl)).only o2 (fun g hg x => by cases hg; cases x; obtain ⟨_, d, u1, u2⟩ := RObj.cells c4; exact b3.ne u2 (by rw [u1]; simp) rfl))⟩, ⟨fun g x y => (hp g x).2 y, fun g x y => (hq g x).2 y⟩, ?_⟩
  · intro o; simp only [World.frozen?_setCell]; exact b4 o
  · intro o; simp only [World.frozen?_setCell]; exact b5 o
  · rintro g (x | x | x | x)
    · exact (hp g x).1
    · exact e g (.inr (.inl x))
    · exact (hq g x).1
    · exact e g (.inr (.inr (.inr x)))
/-- a block of the law's own stays where a lot is written -/
theorem Two.own {p : Option Nat} {X : Nat} {c : Array Value} (hc : Cells w X c) (hX : X < w.heap.size) (ho : OnlyP p w w') (hp : (∃ S, FObj k op cl st sp ex la fl fa co ru w p S) ∨ ∃ S, RObj k op cl st sp ex la fl fa co ru w p S) (h1 : c.size ≠ 12) (h2 : c.size ≠ 15) : Cells w' X c := by
  refine hc.only ho hX ?_
  rcases hp with ⟨S, h⟩ | ⟨S, h⟩
  · exact h.ne hc h1
  · exact h.ne hc h2
end
end Go.Proofs.Ytiopohdhadilfaa
