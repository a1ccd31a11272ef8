import Derived.Test.YtehpjipmlpaflaaUw
namespace Go.Proofs.Ytehpjipmlpaflaa.un
open Go.ChangeShapes Go.WideShapes Go.ChangeAt Go.RowKit Go.Deep Go.Shelf
set_option linter.unusedSimpArgs false
set_option linter.unusedVariables false

attribute [local go_sem] Oper.semAt_some

theorem neq52 (a b c : Int) (w : World) : (binOp .neq 52 (.agg #[.int .i64 a, .int .i64 b, .int .i64 c]) (.agg #[.int .i64 a, .int .i64 b, .int .i64 c])).run Try.prog w = .ok (.bool false) w := by
  go_simp
  try simp
theorem not_rec {W : World} {i off : Nat} {o : Obj} {u : Value} (hi : W.heap[i]? = some o) (ho : o.isCells = false) (hc : W.cell? ⟨i, off, none⟩ = some u) : False := by
  simp only [World.cell?, hi] at hc
  cases o <;> simp_all [Obj.isCells]
end Go.Proofs.Ytehpjipmlpaflaa.un
