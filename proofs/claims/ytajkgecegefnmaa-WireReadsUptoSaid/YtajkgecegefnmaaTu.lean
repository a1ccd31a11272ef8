import Derived.Laws.BytesArg
import Derived.Test.YtajkgecegefnmaaTt
namespace Go.Proofs.Ytajkgecegefnmaa
open Go.ChangeShapes Go.WideShapes Go.ChangeAt Go.RowKit Go.Deep
set_option linter.unusedSimpArgs false
set_option linter.unusedVariables false

theorem conv28 (w : World) (b off cap : Nat) (ns : List Nat) (h : ∀ j, j < ns.length → w.cell? ⟨b, off + j, none⟩ = some (.int .u8 (ns.getD j 0 : Int))) : Sem.run Try.prog (convert 28 9 (.slice (some ⟨b, off, none⟩) ns.length cap)) w = .ok (.string (bstr ns)) w :=
  run_convert_bytes_arg (P := Try.prog) w 28 5 Try.underlying28 Try.underlying5 b off ns.length cap (ns.map (fun (x : Nat) => (x : Int))) (by simp) (fun i hi => by
    rw [h i hi]
    have e1 : (ns.map (fun (x : Nat) => (x : Int))).getD i 0 = ((ns.getD i 0 : Nat) : Int) := by simp [List.getD, hi]
    rw [e1]) 9 Try.underlying9
theorem own_conv {w : World} {base g cap : Nat} {ns : List Nat} (own : w.ownsRow base 5 1 (.slice (some ⟨g, 0, none⟩) ns.length cap) ns.length (ns.map (fun (b : Nat) => Value.int .u8 (b : Int)))) (hm : 0 < ns.length) : ∀ j, j < ns.length → w.cell? ⟨g, 0 + j, none⟩ = some (.int .u8 (ns.getD j 0 : Int)) := by
  obtain ⟨g', cap', hv, _, _, _, hcl, _⟩ := own_form own hm
  have e : g = g' := by (injection hv with e1 e2 e3; injection e1 with e1; injection e1 with e4)
  subst e
  exact row_cells (cap := cap) hcl

/-- the bytes that 'known' reads, writes -/
def d8 : List Nat := [249, 1, 0, 2, 3, 248, 5, 9]
def d18 : List Nat := [248, 255, 1, 1, 2, 97, 98, 2, 3, 4, 63, 240, 0, 0, 0, 0, 0, 0]
theorem form255 : form 255 = [248, 255] := by
  have h : many 255 = 1 := by rw [many, dif_pos (by decide)]
  unfold form; rw [if_neg (by decide), h]; rfl
theorem form256 : form 256 = [249, 1, 0] := by
  have h : many 256 = 2 := by rw [many, dif_neg (by decide), many, dif_pos (by decide)]
  unfold form; rw [if_neg (by decide), h]; rfl
theorem form248 : (form 248).length = 2 := by
  have h : many 248 = 1 := by rw [many, dif_pos (by decide)]
  unfold form; rw [if_neg (by decide), h]; rfl
set_option maxRecDepth 100000 in
theorem d18_is : (((((([] ++ form 255) ++ form (fold (-1))) ++ [1]) ++ text ⟨#[97, 98]⟩) ++ (form 2 ++ forms [3, 4])) ++ hi 8 4607182418800017408) = d18 := by rw [form255]; rfl
theorem d8_lt : ∀ x ∈ d8, x < 256 := by unfold d8; simp
set_option maxRecDepth 100000 in
theorem d8_rd : rd d8 0 = (256, 0, 3) := by
  unfold rd
  rw [if_neg (by decide), if_neg (by decide), if_neg (by decide), if_pos (by show (form 256).length = 3; rw [form256]; rfl)]
  rfl
theorem d8_rd3 : rd d8 3 = (2, 0, 4) := by
  unfold rd; rw [if_neg (by decide), if_pos (by decide)]; rfl
theorem d8_rd4 : rd d8 4 = (3, 0, 5) := by
  unfold rd; rw [if_neg (by decide), if_pos (by decide)]; rfl
theorem d8_rd5 : rd d8 5 = (0, 111, 5) := by
  unfold rd
  rw [if_neg (by decide), if_neg (by decide), if_neg (by decide), if_neg (by show ¬ (form 5).length = 2; decide)]
theorem d8_lg9 : lg d8 3 9 = (2, 0, 4) := by unfold lg; rw [d8_rd3]; rfl
theorem d8_lg1 : lg d8 3 1 = (0, 3, 4) := by unfold lg; rw [d8_rd3]; rfl
theorem d8_tk : (tk (RU d8) 2 4).2.1 = 111 := by
  have h4 : RU d8 4 = (.int .u64 3, 0, 5) := by unfold RU; rw [d8_rd4]; rfl
  have h5 : RU d8 5 = (.int .u64 0, 111, 5) := by unfold RU; rw [d8_rd5]; rfl
  rw [tk_ok _ _ _ (by rw [h4]), h4]
  show (tk (RU d8) 1 5).2.1 = 111
  rw [tk_bad _ _ _ (by rw [h5]; decide), h5]
theorem d8_tl9 : tl (RU d8) d8 3 9 = ([], 111, 3) := by
  unfold tl
  rw [d8_lg9, if_neg (by decide), if_pos (by rw [d8_tk]; decide), d8_tk]
theorem d8_tl1 : tl (RU d8) d8 3 1 = ([], 3, 3) := by
  unfold tl
  rw [d8_lg1, if_pos (by decide)]
end Go.Proofs.Ytajkgecegefnmaa
