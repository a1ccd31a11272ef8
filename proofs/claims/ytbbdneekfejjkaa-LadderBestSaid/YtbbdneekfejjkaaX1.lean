import Derived.Test.YtbbdneekfejjkaaU3
import Derived.Test.YtbbdneekfejjkaaQ1
import Derived.Test.YtbbdneekfejjkaaRows
import Derived.WalkKit
import Derived.ProofKit
import Derived.OpenShut
import Derived.BigQuiet
import Derived.Deep.QuietTactic
import Derived.WalkLawsBesides
import Derived.WalkSpells
import Derived.Deep.RegionWith
import Derived.Deep.RegionHeld3
import Derived.Deep.RegionLaw
import Derived.Deep.DeepCutAuto
import Derived.Lib.SmallJoins
import Derived.Deep.Fields
import Derived.IntWalk
namespace Go.Proofs.Ytbbdneekfejjkaa.best
open Go.ChangeShapes Go.WideShapes Go.ChangeAt Go.RowKit Go.Deep
set_option linter.unusedSimpArgs false
set_option linter.unusedVariables false

theorem ret_int {k : IntKind} {a b : Int} (h : a = b) : Ending.returned (.int k a) = .returned (.int k b) := by rw [h]
theorem ret_bool {a b : Bool} (h : a = b) : Ending.returned (.bool a) = .returned (.bool b) := by rw [h]
theorem ret_two {k k2 : IntKind} {a b c d : Int} (h : a = b) (h2 : c = d) : Ending.returned (.tuple #[.int k a, .int k2 c]) = .returned (.tuple #[.int k b, .int k2 d]) := by rw [h, h2]
theorem ret_ib {k : IntKind} {a b : Int} {c d : Bool} (h : a = b) (h2 : c = d) : Ending.returned (.tuple #[.int k a, .bool c]) = .returned (.tuple #[.int k b, .bool d]) := by rw [h, h2]
theorem bcell {W w1 : World} (hb : Below W.heap.size W w1) : (∀ b o, b < W.heap.size → w1.cell? ⟨b, o, none⟩ = W.cell? ⟨b, o, none⟩) ∧ (∀ b o, b < W.heap.size → w1.frozen? ⟨b, o, none⟩ = W.frozen? ⟨b, o, none⟩) :=
  ⟨fun b o h => hb.cell (p := ⟨b, o, none⟩) h, fun b o h => hb.frozen (p := ⟨b, o, none⟩) h⟩
theorem bstep {w W W' : World} (h : Below w.heap.size w W) (hb : Below W.heap.size W W') : Below w.heap.size w W' := h.trans (hb.mono h.size)
theorem hide {p : Prop} (h : p) : Hid p := h
theorem bdrewN {B : Nat} {a w : World} (h : Below B a w) (n : Nat) : Below B a (w.drewN n) := ⟨h.os, h.tape, h.output, h.size, h.block⟩
theorem undraw {B : Nat} {W w w' : World} (h : Below W.heap.size W w') (e : W.heap = w.heap) (e1 : W.os = w.os) (e2 : W.tape = w.tape) (e3 : W.output = w.output) (hB : B ≤ w.heap.size) : Below B w w' := by
  have h2 := h.mono (B' := B) (by rw [e]; exact hB)
  exact ⟨h2.os.trans e1, h2.tape.trans e2, h2.output.trans e3, by rw [← e]; exact h2.size, by rw [← e]; exact h2.block⟩

def gE (st sp ld li pr n x : Int) : Int := bidErr 0 st sp ld li pr 10 n x 1099511627776 0
def gL (st sp ld li pr n x : Int) : Int := if gE st sp ld li pr n x = 0 then nLd ld li n x else 0
def gI (st sp ld li pr n x : Int) : Int := if gE st sp ld li pr n x = 0 then nLi ld li n x else 0
def gP (st sp ld li pr n x : Int) : Int := if gE st sp ld li pr n x = 0 then nPr st sp ld li pr n x else 0
def gC (st sp ld li pr n x : Int) : Int := if gE st sp ld li pr n x = 0 then 10 else 0
theorem lot1 {st sp : Int} (hL : 0 ≤ st ∧ st ≤ 1099511627776 ∧ 1 ≤ sp ∧ sp ≤ 1099511627776) : LotOK 1 0 10 st sp 0 10 0 0 0 0 := by unfold LotOK; omega
theorem known_b (w : World) : Calls Try.prog 7 #[] w fun e w' => e = .returned (.bool true) ∧ Below w.heap.size w w' := known_any w
theorem begin_b (st sp : Int) (w : World) (hL : 0 ≤ st ∧ st ≤ 1099511627776 ∧ 1 ≤ sp ∧ sp ≤ 1099511627776) : Calls Try.prog 8 #[.agg #[.int .i64 1, .int .i64 0, .int .i64 10, .int .i64 st, .int .i64 sp, .int .i64 0, .int .i64 10, .int .i64 0, .int .i64 0, .int .i64 0, .int .i64 0]] w fun e w' => e = .returned (.tuple #[.agg #[.int .i64 (-1), .int .i64 0, .int .i64 0, .int .i64 10], .int .i64 0]) ∧ Below w.heap.size w w' := begin_ok 1 0 10 st sp 0 10 0 0 0 0 w (lot1 hL)
theorem Best_gen (st sp ld li pr n x : Int) (w : World) (hL : 0 ≤ st ∧ st ≤ 1099511627776 ∧ 1 ≤ sp ∧ sp ≤ 1099511627776) (hr : RiseOK st 10 10 ld li pr 10) : Calls Try.prog 9 #[.agg #[.int .i64 1, .int .i64 0, .int .i64 10, .int .i64 st, .int .i64 sp, .int .i64 0, .int .i64 10, .int .i64 0, .int .i64 0, .int .i64 0, .int .i64 0], .agg #[.int .i64 ld, .int .i64 li, .int .i64 pr, .int .i64 10], .agg #[.int .i64 n, .int .i64 x, .int .i64 1099511627776, .int .i64 0]] w fun e w' => e = .returned (.tuple #[.agg #[.int .i64 (gL st sp ld li pr n x), .int .i64 (gI st sp ld li pr n x), .int .i64 (gP st sp ld li pr n x), .int .i64 (gC st sp ld li pr n x)], .int .i64 (gE st sp ld li pr n x)]) ∧ Below w.heap.size w w' := by
  by_cases he : gE st sp ld li pr n x = 0
  · unfold gL gI gP gC
    rw [if_pos he, if_pos he, if_pos he, if_pos he, he]
    have c : nCl 0 10 10 0 = 10 := by decide
    have := Bid_ok 1 0 10 st sp 0 10 0 0 0 0 ld li pr 10 n x 1099511627776 0 w (lot1 hL) hr (by decide) he
    rw [c] at this
    exact this
  · unfold gL gI gP gC
    rw [if_neg he, if_neg he, if_neg he, if_neg he]
    exact Bid_bad 1 0 10 st sp 0 10 0 0 0 0 ld li pr 10 n x 1099511627776 0 w (lot1 hL) hr (by decide) he

theorem gE_zero {st sp ld li pr n x : Int} (h : gE st sp ld li pr n x = 0) : 0 ≤ x ∧ x ≤ 1099511627776 ∧ leastI st sp ld li pr n ≤ x := by
  unfold gE bidErr at h
  split at h
  · omega
  · split at h
    · omega
    · split at h
      · omega
      · rename_i a b c
        omega
theorem Inv.rise {st sp b ld li pr : Int} {zs T : List Int} {n : Nat} (h : Inv st sp zs n T b ld li pr) : RiseOK st 10 10 ld li pr 10 := by
  unfold RiseOK
  rcases h with ⟨_, _, h1, h2, h3⟩ | ⟨i, h1, h2, h3, h4, h5, h6, h7, h8, h9, h10, h11, h12⟩
  · exact .inl ⟨h1, h2, h3, rfl⟩
  · exact .inr ⟨by omega, by omega, h10, h7, h8, by decide, by decide⟩
theorem Inv.short {st sp b ld li pr : Int} {zs T : List Int} {n : Nat} (h : Inv st sp zs n T b ld li pr) : T.length ≤ n := by
  rcases h with ⟨rfl, _⟩ | ⟨i, h1, h2, h3, h4, h5, h6, h7, h8, h9, h10, h11, h12⟩
  · exact Nat.zero_le _
  · exact h11
theorem l2_next (m : Int) (T : List Int) (n : Nat) : l2 m T (n + 1) = if T.getD n 0 = m ∧ (l2 m T n).2 = false then ((l2 m T n).1, true) else (max (l2 m T n).1 (T.getD n 0), (l2 m T n).2) := rfl
/-- what a bid makes of it -/
theorem Best_step {st sp b ld li pr x : Int} {zs T : List Int} {n : Nat} (hL : 0 ≤ st ∧ st ≤ 1099511627776 ∧ 1 ≤ sp ∧ sp ≤ 1099511627776) (h : Inv st sp zs n T b ld li pr) (hx : zs.getD n 0 = x) :
    ¬ gE st sp ld li pr n x = 0 ∨ (gE st sp ld li pr n x = 0 ∧ gC st sp ld li pr n x = 10 ∧
      ((b < 0 ∧ Inv st sp zs (n + 1) (T ++ [x]) n (gL st sp ld li pr n x) (gI st sp ld li pr n x) (gP st sp ld li pr n x)) ∨
       (0 ≤ b ∧ li < x ∧ Inv st sp zs (n + 1) (T ++ [x]) n (gL st sp ld li pr n x) (gI st sp ld li pr n x) (gP st sp ld li pr n x)) ∨
       (0 ≤ b ∧ x ≤ li ∧ Inv st sp zs (n + 1) (T ++ [x]) b (gL st sp ld li pr n x) (gI st sp ld li pr n x) (gP st sp ld li pr n x)))) := by
  by_cases he : gE st sp ld li pr n x = 0
  · right
    obtain ⟨e1, e2, e3⟩ := gE_zero he
    refine ⟨he, by unfold gC; rw [if_pos he], ?_⟩
    have gl : gL st sp ld li pr n x = nLd ld li n x := by unfold gL; rw [if_pos he]
    have gi : gI st sp ld li pr n x = nLi ld li n x := by unfold gI; rw [if_pos he]
    have gp : gP st sp ld li pr n x = nPr st sp ld li pr n x := by unfold gP; rw [if_pos he]
    rw [gl, gi, gp]
    by_cases hb : b < 0
    · left
      obtain ⟨rfl, rfl, rfl, rfl, rfl⟩ := h.none hb
      refine ⟨hb, ?_⟩
      have q : leastI st sp (-1) 0 0 n = st := by unfold leastI; rw [if_pos (by decide)]
      rw [q] at e3
      have a1 : nLd (-1) 0 n x = n := by unfold nLd; rw [if_pos (by decide)]
      have a2 : nLi (-1) 0 n x = x := by unfold nLi; rw [if_pos (by decide)]
      have a3 : nPr st sp (-1) 0 0 n x = st := by unfold nPr; rw [if_pos (by decide)]
      rw [a1, a2, a3]
      exact Inv.first hx e1 e2 e3
    · right
      have hb' : 0 ≤ b := by omega
      obtain ⟨i, i1, i2, i3, _⟩ := h.last hb'
      have n1 : ¬ ld < 0 := by omega
      have n2 : ¬ ld = (n : Int) := by omega
      have q : leastI st sp ld li pr n = pr + sp := by unfold leastI; rw [if_neg n1, if_neg n2]
      rw [q] at e3
      have a1 : nLd ld li n x = if li < x then (n : Int) else ld := by unfold nLd; rw [if_neg n1, if_neg n2]
      have a2 : nLi ld li n x = if li < x then x else li := by unfold nLi; rw [if_neg n1, if_neg n2]
      have a3 : nPr st sp ld li pr n x = if li < x then min (li + sp) x else min (x + sp) li := by unfold nPr; rw [if_neg n1, if_neg n2]
      rw [a1, a2, a3]
      by_cases c : li < x
      · left
        rw [if_pos c, if_pos c, if_pos c]
        exact ⟨hb', c, h.over hb' (by omega) hx e2 c⟩
      · right
        rw [if_neg c, if_neg c, if_neg c]
        exact ⟨hb', by omega, h.under hb' (by omega) hL.1 e3 (by omega)⟩
  · exact .inl he
theorem ownsRow_below {w w' : World} {base : Nat} {e : TypeId} {size : Nat} {v : Value} {n : Nat} {xs : List Value} (h : w.ownsRow base e size v n xs) (hb : Below w.heap.size w w') : w'.ownsRow base e size v n xs := by
  obtain ⟨h1, h2⟩ := h
  refine ⟨h1, ?_⟩
  rcases h2 with h2 | ⟨g, cap, cur, hv, hg, hh, r⟩
  · exact .inl h2
  · have hlt : g < w.heap.size := by
      rcases Nat.lt_or_ge g w.heap.size with q | q
      · exact q
      · rw [Array.getElem?_eq_none q] at hh; cases hh
    exact .inr ⟨g, cap, cur, hv, hg, by rw [hb.block g hlt]; exact hh, r⟩
theorem ownBlock_ge {w : World} {base : Nat} {e : TypeId} {s n : Nat} {v : Value} {xs : List Value} (h : w.ownsRow base e s v n xs) : ∀ k, v.ownBlock = some k → base ≤ k := by
  obtain ⟨_, h | ⟨g, cap, cur, hv, hg, _⟩⟩ := h
  · intro k hk; rw [h.1] at hk; cases hk
  · intro k hk; rw [hv] at hk; simp [Value.ownBlock] at hk; omega

theorem own_set4 {w : World} {base : Nat} {e : TypeId} {size : Nat} {v : Value} {n : Nat} {xs : List Value} (h : w.ownsRow base e size v n xs) {B : Nat} (hB : B < base) (a b c d : Value) :
    ((((w.setCell ⟨B, 0, none⟩ a).setCell ⟨B, 1, none⟩ b).setCell ⟨B, 2, none⟩ c).setCell ⟨B, 3, none⟩ d).ownsRow base e size v n xs :=
  ownsRow_setCell_below (ownsRow_setCell_below (ownsRow_setCell_below (ownsRow_setCell_below h (a := ⟨B, 0, none⟩) hB a) (a := ⟨B, 1, none⟩) hB b) (a := ⟨B, 2, none⟩) hB c) (a := ⟨B, 3, none⟩) hB d
theorem own_form {w : World} {base : Nat} {e : TypeId} {n : Nat} {v : Value} {xs : List Value} (h : w.ownsRow base e 1 v n xs) (hn : 0 < n) :
    ∃ g cap, v = .slice (some ⟨g, 0, none⟩) n cap ∧ base ≤ g ∧ g < w.heap.size ∧ n ≤ cap ∧ (∀ j, j < n → w.cell? ⟨g, j, none⟩ = xs[j]?) ∧ ∀ j, w.frozen? ⟨g, j, none⟩ = false := by
  obtain ⟨hl, hh⟩ := h
  rcases hh with ⟨_, h0⟩ | ⟨g, cap, cur, rfl, hg, hb, hle, _, hs, ht⟩
  · omega
  · have hlt : g < w.heap.size := by
      rcases Nat.lt_or_ge g w.heap.size with h | h
      · exact h
      · rw [Array.getElem?_eq_none h] at hb; cases hb
    refine ⟨g, cap, rfl, hg, hlt, hle, fun j hj => ?_, fun j => by simp [World.frozen?, hb]⟩
    simp only [World.cell?, hb]
    rw [← ht]
    simp
    rw [List.getElem?_take]
    simp [hj]

theorem info2 : (Try.prog.info? 2).map (fun i => (i.zero, i.size, i.bytes)) = some (some (.int .i64 0), 1, 8) := by kernel_rfl
end Go.Proofs.Ytbbdneekfejjkaa.best
