import Derived.Test.YtiopohdhadilfaaT4
namespace Go.Proofs.Ytiopohdhadilfaa
open Go.ChangeShapes Go.WideShapes Go.ChangeAt Go.RowKit Go.Deep
set_option linter.unusedSimpArgs false
set_option linter.unusedVariables false

/-- a slice of ints that may be read: its elements -/
def Sl (w : World) (s : Value) (zs : List Int) : Prop :=
  (zs = [] ∧ ∃ a cap, s = .slice a 0 cap) ∨ (0 < zs.length ∧ ∃ b off cap, s = .slice (some ⟨b, off, none⟩) zs.length cap ∧ b < w.heap.size ∧ ∀ j, j < zs.length → w.cell? ⟨b, off + j, none⟩ = some (.int .i64 (zs.getD j 0)))
def Fin3 (k op cl st sp ex la fl fa co ru : Int) (zs : List Int) : Value :=
  if (tk k op cl st sp ex la fl fa co ru zs zs.length).1 < 0 then .tuple #[.int .i64 0, .int .i64 0, .bool false]
  else .tuple #[.int .i64 (tk k op cl st sp ex la fl fa co ru zs zs.length).1, .int .i64 (priceI op st fl fa (tk k op cl st sp ex la fl fa co ru zs zs.length).2), .bool true]

set_option maxHeartbeats 1000000 in
theorem Takes_empty (k op cl st sp ex la fl fa co ru : Int) (a : Option Addr) (cap : Nat) (w : World) : Calls Try.prog 8 #[.agg #[.int .i64 k, .int .i64 op, .int .i64 cl, .int .i64 st, .int .i64 sp, .int .i64 ex, .int .i64 la, .int .i64 fl, .int .i64 fa, .int .i64 co, .int .i64 ru], .slice a 0 cap] w fun e w' => e = .returned (.tuple #[.int .i64 0, .int .i64 0, .bool false]) ∧ Below w.heap.size w w' := by
  go_enter Try.func8, Try.ntmps8
  go_wp2
  go_loop [7, 8, 15] (fun v7 v8 v15 => v7 = .int .i64 (-1) ∧ v8 = .int .i64 0 ∧ v15 = .int .i64 0) (fun _ _ _ => 0)
  case atStart => exact ⟨rfl, rfl, rfl⟩
  case round =>
    obtain ⟨rfl, rfl, rfl⟩ := hrel
    go_wp2
    go_ret3
    exact ⟨rfl, by (focus repeat' (first | (with_reducible exact Below.refl _ _) | (with_reducible assumption) | (with_reducible refine Below.alloc ?_ ?_ _) | (with_reducible refine Below.drew ?_) | (with_reducible refine bdrewN ?_ _) | (with_reducible refine Below.setCell ?_ ?_ _) | (first | (with_reducible exact Nat.le_refl _) | (with_reducible assumption) | omega | (simp; omega) | (simp; done))))⟩
end Go.Proofs.Ytiopohdhadilfaa
