import Derived.Test.YtiopohdhadilfaaY2
namespace Go.Proofs.Ytiopohdhadilfaa
open Go.ChangeShapes Go.WideShapes Go.ChangeAt Go.RowKit Go.Deep
set_option linter.unusedSimpArgs false
set_option linter.unusedVariables false

def pa : Option Nat → Option Addr
  | none => none
  | some g => some ⟨g, 0, none⟩
abbrev ptrv (p : Option Nat) : Value := .pointer (pa p)
def Cells (w : World) (b : Nat) (c : Array Value) : Prop := ∀ o, w.cell? ⟨b, o, none⟩ = c[o]?
theorem Cells.ne {w : World} {a b : Nat} {A C : Array Value} (ha : Cells w a A) (hb : Cells w b C) (h : A.size ≠ C.size) : a ≠ b := by
  rintro rfl
  have : A = C := Array.ext_getElem? (fun i => (ha i).symm.trans (hb i))
  rw [this] at h
  exact h rfl
/-- a lot that is not there, that runs, or that is sold -/
abbrev St := Option (Option (Int × Int × Int))
/-- the program's pointer p holds the state S -/
def FObj (k op cl st sp ex la fl fa co ru : Int) (w : World) : Option Nat → St → Prop
  | none, none => True
  | some g, some none => LotOK k op cl st sp ex la fl fa co ru ∧ (g < w.heap.size ∧ (∀ o, w.cell? ⟨g, o, none⟩ = (#[Value.int .i64 k, Value.int .i64 op, Value.int .i64 cl, Value.int .i64 st, Value.int .i64 sp, Value.int .i64 ex, Value.int .i64 la, Value.int .i64 fl, Value.int .i64 fa, Value.int .i64 co, Value.int .i64 ru, Value.pointer none] : Array Value)[o]?) ∧ ∀ o, w.frozen? ⟨g, o, none⟩ = false)
  | some g, some (some (bd, pr, tk)) => LotOK k op cl st sp ex la fl fa co ru ∧ ∃ a : Nat, (g < w.heap.size ∧ (∀ o, w.cell? ⟨g, o, none⟩ = (#[Value.int .i64 k, Value.int .i64 op, Value.int .i64 cl, Value.int .i64 st, Value.int .i64 sp, Value.int .i64 ex, Value.int .i64 la, Value.int .i64 fl, Value.int .i64 fa, Value.int .i64 co, Value.int .i64 ru, Value.pointer (some ⟨a, 0, none⟩)] : Array Value)[o]?) ∧ ∀ o, w.frozen? ⟨g, o, none⟩ = false) ∧ a < w.heap.size ∧ ∀ o, w.cell? ⟨a, o, none⟩ = (#[Value.int .i64 bd, Value.int .i64 pr, Value.int .i64 tk] : Array Value)[o]?
  | _, _ => False
/-- the document's -/
def RObj (k op cl st sp ex la fl fa co ru : Int) (w : World) : Option Nat → St → Prop
  | none, none => True
  | some g, some none => LotOK k op cl st sp ex la fl fa co ru ∧ (g < w.heap.size ∧ (∀ o, w.cell? ⟨g, o, none⟩ = (#[Value.int .i64 k, Value.int .i64 op, Value.int .i64 cl, Value.int .i64 st, Value.int .i64 sp, Value.int .i64 ex, Value.int .i64 la, Value.int .i64 fl, Value.int .i64 fa, Value.int .i64 co, Value.int .i64 ru, Value.bool false, Value.int .i64 0, Value.int .i64 0, Value.int .i64 0] : Array Value)[o]?) ∧ ∀ o, w.frozen? ⟨g, o, none⟩ = false)
  | some g, some (some (bd, pr, tk)) => LotOK k op cl st sp ex la fl fa co ru ∧ (g < w.heap.size ∧ (∀ o, w.cell? ⟨g, o, none⟩ = (#[Value.int .i64 k, Value.int .i64 op, Value.int .i64 cl, Value.int .i64 st, Value.int .i64 sp, Value.int .i64 ex, Value.int .i64 la, Value.int .i64 fl, Value.int .i64 fa, Value.int .i64 co, Value.int .i64 ru, Value.bool true, Value.int .i64 bd, Value.int .i64 pr, Value.int .i64 tk] : Array Value)[o]?) ∧ ∀ o, w.frozen? ⟨g, o, none⟩ = false)
  | _, _ => False
/-- at most what p points to was written -/
def OnlyP : Option Nat → World → World → Prop
  | none, w, w' => Below w.heap.size w w'
  | some g, w, w' => Only g w w'
theorem FObj.cells {k op cl st sp ex la fl fa co ru : Int} {w : World} {g : Nat} {S : St} (h : FObj k op cl st sp ex la fl fa co ru w (some g) S) : g < w.heap.size ∧ ∃ c : Array Value, c.size = 12 ∧ Cells w g c := by
  rcases S with _ | _ | ⟨bd, pr, tk⟩
  · exact h.elim
  · exact ⟨h.2.1, _, rfl, h.2.2.1⟩
  · obtain ⟨_, a, h2, _⟩ := h
    exact ⟨h2.1, _, rfl, h2.2.1⟩
theorem RObj.cells {k op cl st sp ex la fl fa co ru : Int} {w : World} {g : Nat} {S : St} (h : RObj k op cl st sp ex la fl fa co ru w (some g) S) : g < w.heap.size ∧ ∃ c : Array Value, c.size = 15 ∧ Cells w g c := by
  rcases S with _ | _ | ⟨bd, pr, tk⟩
  · exact h.elim
  · exact ⟨h.2.1, _, rfl, h.2.2.1⟩
  · exact ⟨h.2.1, _, rfl, h.2.2.1⟩
/-- a world that keeps the blocks that are not p's -/
theorem OnlyP.size {p : Option Nat} {w w' : World} (h : OnlyP p w w') : w.heap.size ≤ w'.heap.size := by
  cases p with
  | none => exact Below.size h
  | some g => exact Only.size h
theorem OnlyP.cell {p : Option Nat} {w w' : World} (h : OnlyP p w w') {b : Nat} (hb : b < w.heap.size) (hn : ∀ g, p = some g → b ≠ g) (o : Nat) : w'.cell? ⟨b, o, none⟩ = w.cell? ⟨b, o, none⟩ := by
  cases p with
  | none => exact Below.cell h (p := ⟨b, o, none⟩) hb
  | some g => exact Only.cell h (p := ⟨b, o, none⟩) hb (hn g rfl)
theorem OnlyP.frozen {p : Option Nat} {w w' : World} (h : OnlyP p w w') {b : Nat} (hb : b < w.heap.size) (hn : ∀ g, p = some g → b ≠ g) (o : Nat) : w'.frozen? ⟨b, o, none⟩ = w.frozen? ⟨b, o, none⟩ := by
  cases p with
  | none => exact Below.frozen h (p := ⟨b, o, none⟩) hb
  | some g => exact Only.frozen h (p := ⟨b, o, none⟩) hb (hn g rfl)
theorem OnlyP.below {p : Option Nat} {w0 w w' : World} (k : OnlyP p w w') (h : Below w0.heap.size w0 w) (hg : ∀ g, p = some g → w0.heap.size ≤ g) : Below w0.heap.size w0 w' := by
  cases p with
  | none => exact h.trans (Below.mono k h.size)
  | some g => exact Only.below h k (hg g rfl) h.size
theorem OnlyP.of_below {p : Option Nat} {w w' : World} (h : Below w.heap.size w w') : OnlyP p w w' := by
  cases p with
  | none => exact h
  | some g => exact Only.of_below h
theorem Cells.only {p : Option Nat} {w w' : World} {b : Nat} {c : Array Value} (hc : Cells w b c) (h : OnlyP p w w') (hb : b < w.heap.size) (hn : ∀ g, p = some g → b ≠ g) : Cells w' b c := fun o => (h.cell hb hn o).trans (hc o)
theorem FObj.only {k op cl st sp ex la fl fa co ru : Int} {p q : Option Nat} {w w' : World} {S : St} (hF : FObj k op cl st sp ex la fl fa co ru w p S) (h : OnlyP q w w') (hn : ∀ g, q = some g → p ≠ some g) (hs : ∀ g, q = some g → ∀ a c, c.size = 3 → Cells w a c → a ≠ g) : FObj k op cl st sp ex la fl fa co ru w' p S := by
  have hz := h.size
  rcases p with _ | g
  · rcases S with _ | _ | ⟨bd, pr, tk⟩
    · trivial
    · exact hF.elim
    · exact hF.elim
  · have hn' : ∀ g', q = some g' → g ≠ g' := fun g' e1 e2 => hn g' e1 (by rw [e2])
    rcases S with _ | _ | ⟨bd, pr, tk⟩
    · exact hF.elim
    · obtain ⟨hL, h1, h2, h3⟩ := hF
      exact ⟨hL, by omega, fun o => (h.cell h1 hn' o).trans (h2 o), fun o => (h.frozen h1 hn' o).trans (h3 o)⟩
    · obtain ⟨hL, a, ⟨h1, h2, h3⟩, h4, h5⟩ := hF
      exact ⟨hL, a, ⟨by omega, fun o => (h.cell h1 hn' o).trans (h2 o), fun o => (h.frozen h1 hn' o).trans (h3 o)⟩, by omega, fun o => (h.cell h4 (fun g' e => hs g' e a _ rfl h5) o).trans (h5 o)⟩
theorem RObj.only {k op cl st sp ex la fl fa co ru : Int} {p q : Option Nat} {w w' : World} {S : St} (hF : RObj k op cl st sp ex la fl fa co ru w p S) (h : OnlyP q w w') (hn : ∀ g, q = some g → p ≠ some g) : RObj k op cl st sp ex la fl fa co ru w' p S := by
  have hz := h.size
  rcases p with _ | g
  · rcases S with _ | _ | ⟨bd, pr, tk⟩
    · trivial
    · exact hF.elim
    · exact hF.elim
  · have hn' : ∀ g', q = some g' → g ≠ g' := fun g' e1 e2 => hn g' e1 (by rw [e2])
    rcases S with _ | _ | ⟨bd, pr, tk⟩
    · exact hF.elim
    · obtain ⟨hL, h1, h2, h3⟩ := hF
      exact ⟨hL, by omega, fun o => (h.cell h1 hn' o).trans (h2 o), fun o => (h.frozen h1 hn' o).trans (h3 o)⟩
    · obtain ⟨hL, h1, h2, h3⟩ := hF
      exact ⟨hL, by omega, fun o => (h.cell h1 hn' o).trans (h2 o), fun o => (h.frozen h1 hn' o).trans (h3 o)⟩
theorem FObj.below {k op cl st sp ex la fl fa co ru : Int} {p : Option Nat} {w w' : World} {S : St} (hF : FObj k op cl st sp ex la fl fa co ru w p S) (h : Below w.heap.size w w') : FObj k op cl st sp ex la fl fa co ru w' p S := hF.only (q := none) h (fun _ e => by cases e) (fun _ e => by cases e)
theorem RObj.below {k op cl st sp ex la fl fa co ru : Int} {p : Option Nat} {w w' : World} {S : St} (hF : RObj k op cl st sp ex la fl fa co ru w p S) (h : Below w.heap.size w w') : RObj k op cl st sp ex la fl fa co ru w' p S := hF.only (q := none) h (fun _ e => by cases e)
/-- what a bid tells, and makes of a lot -/
def bR (k op cl st sp ex la fl fa co ru : Int) (S : St) (bd tk co2 fr : Int) : Int × Int × St :=
  match S with
  | none => (0, 1, none)
  | some s => if bd < 0 ∨ tk < 0 ∨ 1099511627776 < tk ∨ co2 < 0 ∨ 1099511627776 < co2 ∨ fr < 0 ∨ 1099511627776 < fr then (0, 2, some s) else if s ≠ none ∨ tk < op ∨ cl ≤ tk then (0, 6, some s) else
    if co2 < priceI op st fl fa tk then (0, 7, some s) else if fr < priceI op st fl fa tk then (0, 8, some s) else (priceI op st fl fa tk, 0, some (some (bd, priceI op st fl fa tk, tk)))
theorem Bid_abs (k op cl st sp ex la fl fa co ru bd tk co2 fr : Int) (p : Option Nat) (S : St) (w : World) (hF : FObj k op cl st sp ex la fl fa co ru w p S) : Calls Try.prog 16 #[ptrv p, .int .i64 bd, .int .i64 tk, .int .i64 co2, .int .i64 fr] w fun e w' => e = .returned (.tuple #[.int .i64 (bR k op cl st sp ex la fl fa co ru S bd tk co2 fr).1, .int .i64 (bR k op cl st sp ex la fl fa co ru S bd tk co2 fr).2.1]) ∧ OnlyP p w w' ∧ FObj k op cl st sp ex la fl fa co ru w' p (bR k op cl st sp ex la fl fa co ru S bd tk co2 fr).2.2 := by
  rcases p with _ | g
  · rcases S with _ | s
    · exact (Bid_nil bd tk co2 fr w).mono fun e w' ⟨h1, h2⟩ => ⟨h1, h2, trivial⟩
    · cases s <;> exact hF.elim
  · rcases S with _ | s
    · exact hF.elim
    · by_cases c1 : bd < 0 ∨ tk < 0 ∨ 1099511627776 < tk ∨ co2 < 0 ∨ 1099511627776 < co2 ∨ fr < 0 ∨ 1099511627776 < fr
      · have e : bR k op cl st sp ex la fl fa co ru (some s) bd tk co2 fr = (0, 2, some s) := by unfold bR; simp only; rw [if_pos c1]
        rw [e]
        have keep : ∀ w', Below w.heap.size w w' → OnlyP (some g) w w' ∧ FObj k op cl st sp ex la fl fa co ru w' (some g) (some s) := fun w' hb => ⟨OnlyP.of_below hb, hF.below hb⟩
        rcases s with _ | ⟨b0, p0, t0⟩
        · obtain ⟨hL, h1, h2, h3⟩ := hF
          exact (Bid_A k op cl st sp ex la fl fa co ru bd tk co2 fr g none w hL h1 h2 h3 c1).mono fun e w' ⟨q1, q2⟩ => ⟨q1, keep w' q2⟩
        · obtain ⟨hL, a, ⟨h1, h2, h3⟩, _⟩ := hF
          exact (Bid_A k op cl st sp ex la fl fa co ru bd tk co2 fr g _ w hL h1 h2 h3 c1).mono fun e w' ⟨q1, q2⟩ => ⟨q1, keep w' q2⟩
      · by_cases c2 : s ≠ none ∨ tk < op ∨ cl ≤ tk
        · have e : bR k op cl st sp ex la fl fa co ru (some s) bd tk co2 fr = (0, 6, some s) := by unfold bR; simp only; rw [if_neg c1, if_pos c2]
          rw [e]
          have keep : ∀ w', Below w.heap.size w w' → OnlyP (some g) w w' ∧ FObj k op cl st sp ex la fl fa co ru w' (some g) (some s) := fun w' hb => ⟨OnlyP.of_below hb, hF.below hb⟩
          rcases s with _ | ⟨b0, p0, t0⟩
          · obtain ⟨hL, h1, h2, h3⟩ := hF
            have c3 : tk < op ∨ cl ≤ tk := c2.resolve_left (fun h => h rfl)
            exact (Bid_time k op cl st sp ex la fl fa co ru bd tk co2 fr g w hL h1 h2 h3 (by omega) (by omega) (by omega) (by omega) (by omega) (by omega) (by omega) c3).mono fun e w' ⟨q1, q2⟩ => ⟨q1, keep w' q2⟩
          · obtain ⟨hL, a, ⟨h1, h2, h3⟩, _⟩ := hF
            exact (Bid_sold k op cl st sp ex la fl fa co ru bd tk co2 fr g _ w hL h1 h2 h3 (by omega) (by omega) (by omega) (by omega) (by omega) (by omega) (by omega)).mono fun e w' ⟨q1, q2⟩ => ⟨q1, keep w' q2⟩
        · have hs : s = none := Classical.byContradiction fun h => c2 (.inl h)
          subst hs
          have keep : ∀ w', Below w.heap.size w w' → OnlyP (some g) w w' ∧ FObj k op cl st sp ex la fl fa co ru w' (some g) (some none) := fun w' hb => ⟨OnlyP.of_below hb, hF.below hb⟩
          obtain ⟨hL, h1, h2, h3⟩ := hF
          have r : op ≤ tk ∧ tk < cl := ⟨by have := fun h => c2 (.inr (.inl h)); omega, by have := fun h => c2 (.inr (.inr h)); omega⟩
          by_cases c3 : co2 < priceI op st fl fa tk
          · have e : bR k op cl st sp ex la fl fa co ru (some none) bd tk co2 fr = (0, 7, some none) := by unfold bR; simp only; rw [if_neg c1, if_neg c2, if_pos c3]
            rw [e]
            exact (Bid_low k op cl st sp ex la fl fa co ru bd tk co2 fr g w hL h1 h2 h3 (by omega) (by omega) (by omega) (by omega) (by omega) (by omega) (by omega) r.1 r.2 c3).mono fun e w' ⟨q1, q2⟩ => ⟨q1, keep w' q2⟩
          · by_cases c4 : fr < priceI op st fl fa tk
            · have e : bR k op cl st sp ex la fl fa co ru (some none) bd tk co2 fr = (0, 8, some none) := by unfold bR; simp only; rw [if_neg c1, if_neg c2, if_neg c3, if_pos c4]
              rw [e]
              exact (Bid_over k op cl st sp ex la fl fa co ru bd tk co2 fr g w hL h1 h2 h3 (by omega) (by omega) (by omega) (by omega) (by omega) (by omega) (by omega) r.1 r.2 (by omega) c4).mono fun e w' ⟨q1, q2⟩ => ⟨q1, keep w' q2⟩
            · have e : bR k op cl st sp ex la fl fa co ru (some none) bd tk co2 fr = (priceI op st fl fa tk, 0, some (some (bd, priceI op st fl fa tk, tk))) := by unfold bR; simp only; rw [if_neg c1, if_neg c2, if_neg c3, if_neg c4]
              rw [e]
              exact (Bid_ok k op cl st sp ex la fl fa co ru bd tk co2 fr g w hL h1 h2 h3 (by omega) (by omega) (by omega) (by omega) (by omega) (by omega) (by omega) r.1 r.2 (by omega) (by omega)).mono fun e w' ⟨a, q1, q2, q3, q4, q5, q6⟩ => ⟨q1, q2, hL, a, q6, q4, q5⟩
theorem rBid_abs (k op cl st sp ex la fl fa co ru bd tk co2 fr : Int) (p : Option Nat) (S : St) (w : World) (hF : RObj k op cl st sp ex la fl fa co ru w p S) : Calls Try.prog 20 #[ptrv p, .int .i64 bd, .int .i64 tk, .int .i64 co2, .int .i64 fr] w fun e w' => e = .returned (.tuple #[.int .i64 (bR k op cl st sp ex la fl fa co ru S bd tk co2 fr).1, .int .i64 (bR k op cl st sp ex la fl fa co ru S bd tk co2 fr).2.1]) ∧ OnlyP p w w' ∧ RObj k op cl st sp ex la fl fa co ru w' p (bR k op cl st sp ex la fl fa co ru S bd tk co2 fr).2.2 := by
  rcases p with _ | g
  · rcases S with _ | s
    · exact (rBid_nil bd tk co2 fr w).mono fun e w' ⟨h1, h2⟩ => ⟨h1, h2, trivial⟩
    · cases s <;> exact hF.elim
  · rcases S with _ | s
    · exact hF.elim
    · by_cases c1 : bd < 0 ∨ tk < 0 ∨ 1099511627776 < tk ∨ co2 < 0 ∨ 1099511627776 < co2 ∨ fr < 0 ∨ 1099511627776 < fr
      · have e : bR k op cl st sp ex la fl fa co ru (some s) bd tk co2 fr = (0, 2, some s) := by unfold bR; simp only; rw [if_pos c1]
        rw [e]
        exact (rBid_A g bd tk co2 fr w c1).mono fun e w' ⟨q1, q2⟩ => ⟨q1, OnlyP.of_below q2, hF.below q2⟩
      · by_cases c2 : s ≠ none ∨ tk < op ∨ cl ≤ tk
        · have e : bR k op cl st sp ex la fl fa co ru (some s) bd tk co2 fr = (0, 6, some s) := by unfold bR; simp only; rw [if_neg c1, if_pos c2]
          rw [e]
          have keep : ∀ w', Below w.heap.size w w' → OnlyP (some g) w w' ∧ RObj k op cl st sp ex la fl fa co ru w' (some g) (some s) := fun w' hb => ⟨OnlyP.of_below hb, hF.below hb⟩
          rcases s with _ | ⟨b0, p0, t0⟩
          · obtain ⟨hL, h1, h2, h3⟩ := hF
            have c3 : tk < op ∨ cl ≤ tk := c2.resolve_left (fun h => h rfl)
            exact (rBid_time k op cl st sp ex la fl fa co ru 0 0 0 bd tk co2 fr g w h1 h2 h3 (by omega) (by omega) (by omega) (by omega) (by omega) (by omega) (by omega) c3).mono fun e w' ⟨q1, q2⟩ => ⟨q1, keep w' q2⟩
          · obtain ⟨hL, h1, h2, h3⟩ := hF
            exact (rBid_sold k op cl st sp ex la fl fa co ru b0 p0 t0 bd tk co2 fr g w h1 h2 h3 (by omega) (by omega) (by omega) (by omega) (by omega) (by omega) (by omega)).mono fun e w' ⟨q1, q2⟩ => ⟨q1, keep w' q2⟩
        · have hs : s = none := Classical.byContradiction fun h => c2 (.inl h)
          subst hs
          have keep : ∀ w', Below w.heap.size w w' → OnlyP (some g) w w' ∧ RObj k op cl st sp ex la fl fa co ru w' (some g) (some none) := fun w' hb => ⟨OnlyP.of_below hb, hF.below hb⟩
          obtain ⟨hL, h1, h2, h3⟩ := hF
          have r : op ≤ tk ∧ tk < cl := ⟨by have := fun h => c2 (.inr (.inl h)); omega, by have := fun h => c2 (.inr (.inr h)); omega⟩
          by_cases c3 : co2 < priceI op st fl fa tk
          · have e : bR k op cl st sp ex la fl fa co ru (some none) bd tk co2 fr = (0, 7, some none) := by unfold bR; simp only; rw [if_neg c1, if_neg c2, if_pos c3]
            rw [e]
            exact (rBid_low k op cl st sp ex la fl fa co ru 0 0 0 bd tk co2 fr g w hL h1 h2 h3 (by omega) (by omega) (by omega) (by omega) (by omega) (by omega) (by omega) r.1 r.2 c3).mono fun e w' ⟨q1, q2⟩ => ⟨q1, keep w' q2⟩
          · by_cases c4 : fr < priceI op st fl fa tk
            · have e : bR k op cl st sp ex la fl fa co ru (some none) bd tk co2 fr = (0, 8, some none) := by unfold bR; simp only; rw [if_neg c1, if_neg c2, if_neg c3, if_pos c4]
              rw [e]
              exact (rBid_over k op cl st sp ex la fl fa co ru 0 0 0 bd tk co2 fr g w hL h1 h2 h3 (by omega) (by omega) (by omega) (by omega) (by omega) (by omega) (by omega) r.1 r.2 (by omega) c4).mono fun e w' ⟨q1, q2⟩ => ⟨q1, keep w' q2⟩
            · have e : bR k op cl st sp ex la fl fa co ru (some none) bd tk co2 fr = (priceI op st fl fa tk, 0, some (some (bd, priceI op st fl fa tk, tk))) := by unfold bR; simp only; rw [if_neg c1, if_neg c2, if_neg c3, if_neg c4]
              rw [e]
              exact (rBid_ok k op cl st sp ex la fl fa co ru 0 0 0 bd tk co2 fr g w hL h1 h2 h3 (by omega) (by omega) (by omega) (by omega) (by omega) (by omega) (by omega) r.1 r.2 (by omega) (by omega)).mono fun e w' ⟨q1, q2, q3⟩ => ⟨q1, q2, hL, q3⟩
theorem Copy_abs (k op cl st sp ex la fl fa co ru : Int) (p : Option Nat) (S : St) (w : World) (hF : FObj k op cl st sp ex la fl fa co ru w p S) : Calls Try.prog 21 #[ptrv p] w fun e w' => ∃ p', e = .returned (ptrv p') ∧ Below w.heap.size w w' ∧ FObj k op cl st sp ex la fl fa co ru w' p' S ∧ ∀ g, p' = some g → w.heap.size ≤ g := by
  rcases p with _ | g
  · rcases S with _ | s
    · exact (Copy_nil w).mono fun e w' ⟨h1, h2⟩ => ⟨none, h1, h2, trivial, fun _ e => by cases e⟩
    · cases s <;> exact hF.elim
  · rcases S with _ | _ | ⟨b0, p0, t0⟩
    · exact hF.elim
    · obtain ⟨hL, h1, h2, h3⟩ := hF
      exact (Copy_obj k op cl st sp ex la fl fa co ru g none w hL h1 h2 h3).mono fun e w' ⟨g', q1, q2, q3, q4⟩ => ⟨some g', q1, q3, ⟨hL, q4⟩, fun _ e => by cases e; exact q2⟩
    · obtain ⟨hL, a, ⟨h1, h2, h3⟩, h4, h5⟩ := hF
      exact (Copy_obj k op cl st sp ex la fl fa co ru g _ w hL h1 h2 h3).mono fun e w' ⟨g', q1, q2, q3, q4⟩ => ⟨some g', q1, q3, ⟨hL, a, q4, Nat.lt_of_lt_of_le h4 q3.size, fun o => (q3.cell (p := ⟨a, o, none⟩) h4).trans (h5 o)⟩, fun _ e => by cases e; exact q2⟩
theorem rCopy_abs (k op cl st sp ex la fl fa co ru : Int) (p : Option Nat) (S : St) (w : World) (hF : RObj k op cl st sp ex la fl fa co ru w p S) : Calls Try.prog 22 #[ptrv p] w fun e w' => ∃ p', e = .returned (ptrv p') ∧ Below w.heap.size w w' ∧ RObj k op cl st sp ex la fl fa co ru w' p' S ∧ ∀ g, p' = some g → w.heap.size ≤ g := by
  rcases p with _ | g
  · rcases S with _ | s
    · exact (rCopy_nil w).mono fun e w' ⟨h1, h2⟩ => ⟨none, h1, h2, trivial, fun _ e => by cases e⟩
    · cases s <;> exact hF.elim
  · rcases S with _ | _ | ⟨b0, p0, t0⟩
    · exact hF.elim
    · obtain ⟨hL, h1, h2, h3⟩ := hF
      exact (rCopy_obj k op cl st sp ex la fl fa co ru false 0 0 0 g w h1 h2 h3).mono fun e w' ⟨g', q1, q2, q3, q4⟩ => ⟨some g', q1, q3, ⟨hL, q4⟩, fun _ e => by cases e; exact q2⟩
    · obtain ⟨hL, h1, h2, h3⟩ := hF
      exact (rCopy_obj k op cl st sp ex la fl fa co ru true b0 p0 t0 g w h1 h2 h3).mono fun e w' ⟨g', q1, q2, q3, q4⟩ => ⟨some g', q1, q3, ⟨hL, q4⟩, fun _ e => by cases e; exact q2⟩
end Go.Proofs.Ytiopohdhadilfaa
