import Derived.Test.YtbbdneekfejjkaaT7
namespace Go.Proofs.Ytbbdneekfejjkaa
open Go.ChangeShapes Go.WideShapes Go.ChangeAt Go.RowKit
set_option linter.unusedSimpArgs false
set_option linter.unusedVariables false

theorem ret_rise {a b c d a' b' c' d' z : Int} (h1 : a = a') (h2 : b = b') (h3 : c = c') (h4 : d = d') : Ending.returned (.tuple #[.agg #[.int .i64 a, .int .i64 b, .int .i64 c, .int .i64 d], .int .i64 z]) = .returned (.tuple #[.agg #[.int .i64 a', .int .i64 b', .int .i64 c', .int .i64 d'], .int .i64 z]) := by rw [h1, h2, h3, h4]
theorem eCl_s {ex la rc bn : Int} (d : rc - bn < ex) (cx : la < bn + ex) : la = nCl ex la rc bn := by unfold nCl; rw [if_pos d]; omega
theorem eCl_x {ex la rc bn : Int} (d : rc - bn < ex) (cx : bn + ex ≤ la) : bn + ex = nCl ex la rc bn := by unfold nCl; rw [if_pos d]; omega
theorem eCl_k {ex la rc bn : Int} (d : ex ≤ rc - bn) : rc = nCl ex la rc bn := by unfold nCl; rw [if_neg (by omega)]
theorem eLd_lead {ld li bd bl : Int} (c : ld < 0) : bd = nLd ld li bd bl := by unfold nLd; rw [if_pos c]
theorem eLi_lead {ld li bd bl : Int} (c : ld < 0) : bl = nLi ld li bd bl := by unfold nLi; rw [if_pos c]
theorem ePr_lead {st sp ld li pr bd bl : Int} (c : ld < 0) : st = nPr st sp ld li pr bd bl := by unfold nPr; rw [if_pos c]
theorem eLd_own {li bd bl : Int} (c : 0 ≤ bd) : bd = nLd bd li bd bl := by unfold nLd; rw [if_neg (by omega), if_pos rfl]
theorem eLi_own {li bd bl : Int} (c : 0 ≤ bd) : bl = nLi bd li bd bl := by unfold nLi; rw [if_neg (by omega), if_pos rfl]
theorem ePr_own {st sp li pr bd bl : Int} (c : 0 ≤ bd) : pr = nPr st sp bd li pr bd bl := by unfold nPr; rw [if_neg (by omega), if_pos rfl]
theorem eLd_over {ld li bd bl : Int} (c : 0 ≤ ld) (n : (ld == bd) = false) (o : li < bl) : bd = nLd ld li bd bl := by unfold nLd; rw [if_neg (by omega), if_neg (by simpa using n), if_pos o]
theorem eLi_over {ld li bd bl : Int} (c : 0 ≤ ld) (n : (ld == bd) = false) (o : li < bl) : bl = nLi ld li bd bl := by unfold nLi; rw [if_neg (by omega), if_neg (by simpa using n), if_pos o]
theorem ePr_over1 {st sp ld li pr bd bl : Int} (c : 0 ≤ ld) (n : (ld == bd) = false) (o : li < bl) (q : bl < li + sp) : bl = nPr st sp ld li pr bd bl := by unfold nPr; rw [if_neg (by omega), if_neg (by simpa using n), if_pos o]; omega
theorem ePr_over2 {st sp ld li pr bd bl : Int} (c : 0 ≤ ld) (n : (ld == bd) = false) (o : li < bl) (q : li + sp ≤ bl) : li + sp = nPr st sp ld li pr bd bl := by unfold nPr; rw [if_neg (by omega), if_neg (by simpa using n), if_pos o]; omega
theorem eLd_under {ld li bd bl : Int} (c : 0 ≤ ld) (n : (ld == bd) = false) (o : bl ≤ li) : ld = nLd ld li bd bl := by unfold nLd; rw [if_neg (by omega), if_neg (by simpa using n), if_neg (by omega)]
theorem eLi_under {ld li bd bl : Int} (c : 0 ≤ ld) (n : (ld == bd) = false) (o : bl ≤ li) : li = nLi ld li bd bl := by unfold nLi; rw [if_neg (by omega), if_neg (by simpa using n), if_neg (by omega)]
theorem ePr_under1 {st sp ld li pr bd bl : Int} (c : 0 ≤ ld) (n : (ld == bd) = false) (o : bl ≤ li) (q : li < bl + sp) : li = nPr st sp ld li pr bd bl := by unfold nPr; rw [if_neg (by omega), if_neg (by simpa using n), if_neg (by omega)]; omega
theorem ePr_under2 {st sp ld li pr bd bl : Int} (c : 0 ≤ ld) (n : (ld == bd) = false) (o : bl ≤ li) (q : bl + sp ≤ li) : bl + sp = nPr st sp ld li pr bd bl := by unfold nPr; rw [if_neg (by omega), if_neg (by simpa using n), if_neg (by omega)]; omega
end Go.Proofs.Ytbbdneekfejjkaa
