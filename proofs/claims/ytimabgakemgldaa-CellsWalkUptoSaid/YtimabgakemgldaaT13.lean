import Derived.Test.YtimabgakemgldaaT12
import Derived.Sort.LoopGhostIn
import Derived.BigQuiet
import Derived.Deep.QuietTactic
import Derived.Laws.EntriesVeiled
namespace Go.Proofs.Ytimabgakemgldaa
open Go.ChangeShapes Go.WideShapes Go.ChangeAt Go.RowKit Go.Deep Go.Shelf Ytimabgakemgldaa.it
set_option linter.unusedSimpArgs false
set_option linter.unusedVariables false

attribute [local go_sem] Oper.semAt_some

def sumI (S : List Int) : Int := S.foldl (fun s x => wrap64 (s + x)) 0
theorem sumI_take (S : List Int) {k : Nat} (h : k < S.length) : sumI (S.take (k + 1)) = wrap64 (sumI (S.take k) + S.getD k 0) := by
  have e : S.take (k + 1) = S.take k ++ [S.getD k 0] := by rw [List.take_add_one, List.getElem?_eq_getElem h, List.getD_eq_getElem?_getD, List.getElem?_eq_getElem h]; rfl
  unfold sumI
  rw [e, List.foldl_append]; rfl
/-- the sum's box, as it was filled so far -/
structure SumS (w : World) (sb : Nat) (s : Int) (W : World) : Prop where
  b : Below w.heap.size w W
  c : W.cell? ⟨sb, 0, none⟩ = some (.int .i64 s)
  f : W.frozen? ⟨sb, 0, none⟩ = false
set_option maxRecDepth 100000 in
set_option maxHeartbeats 4000000 in
theorem Sum_c (c cs : Nat) (S : List Int) (w : World) (h : CntIs w c cs S) (hS : S.length ≤ 64) : Calls Try.prog 31 #[.pointer (some ⟨c, 0, none⟩)] w fun e w' => e = .returned (.int .i64 (sumI S)) ∧ Below w.heap.size w w' := by
  refine (callsIn_wide (n := 4)).1 ?_
  refine callsIn_of_wp_marks Try.func31 rfl trivial ?_ rfl
  simp only [Try.ntmps31, List.size_toArray, List.length_cons, List.length_nil, Nat.reduceAdd, Nat.reduceSub, Array.replicate_succ, Array.replicate_zero, List.push_toArray, List.append_toArray, List.nil_append, List.cons_append]
  have H := hide h
  clear h
  gi_wp2_with fail
  obtain ⟨W, hW⟩ : ∃ W, W = w.alloc (.cells #[.int .i64 0] 2) := ⟨_, rfl⟩
  try rw [← hW]
  have hbW : Below w.heap.size w W := by rw [hW]; (focus repeat' (first | (with_reducible exact Below.refl _ _) | (with_reducible assumption) | (with_reducible refine Below.alloc ?_ ?_ _) | (with_reducible refine Below.drew ?_) | (with_reducible refine bdrewN ?_ _) | (with_reducible refine Below.setCell ?_ ?_ _) | (first | (with_reducible exact Nat.le_refl _) | (with_reducible assumption) | omega | (simp; omega) | (simp; done))))
  have k0 : W.cell? ⟨w.heap.size, 0, none⟩ = some (.int .i64 0) := by rw [hW]; simp [go_sem]
  have f0 : W.frozen? ⟨w.heap.size, 0, none⟩ = false := by rw [hW]; simp [go_sem]
  have zz := World.block_lt_of_cell? W _ k0
  simp only at zz
  have HB := hide hbW
  clear hW hbW
  refine ⟨trivial, ?_⟩
  refine (callsIn_wide.2 (CAll_c c cs S W (H.out.below HB.out))).mono ?_
  rintro e w5 ⟨rfl, hit, hb5⟩
  have HIT := hide hit
  have HB5 := hide hb5
  have zW := hb5.size
  have k5 := cell_stay k0 (hb5.block _ zz)
  have f5 := fro_stay f0 (hb5.block _ zz)
  have zc := World.block_lt_of_cell? w _ H.out.c
  have zs := (H.out.r.lt cs rfl).2
  simp only at zc
  have z5 := hit.lts
  obtain ⟨Bx, hBx⟩ : ∃ Bx, Bx = W.heap.size := ⟨_, rfl⟩
  rw [← hBx] at HIT z5 ⊢
  have HBX : Hid (Bx = W.heap.size) := hide hBx
  clear hit hb5 k0 f0 hBx
  gi_wp2_with fail
  have hsq : SeqR 3 Try.prog 61 #[.pointer (some ⟨Bx, 0, none⟩)] (encI S) (CntK Bx c cs) (fun xs => xs.length = S.length) (fun pre => pre.length ≤ S.length) (NxI S) w5 := HIT.out.seq hS 3 (by decide) w5 (.of_below (Below.refl _ _))
  have hBw5 : Below w.heap.size w w5 := HB.out.trans (HB5.out.mono HB.out.size)
  refine range_R (n := 4) (by decide) (gf := 61) (lb := #[.pointer (some ⟨Bx, 0, none⟩)]) rfl (enters_of Try.func61 (by kernel_rfl) rfl)
    hsq (fun i hi => by rcases hi with rfl | rfl | rfl <;> omega) (Below.refl _ _) (fun _ => rfl)
    (fun pre X => SumS w w.heap.size (sumI (S.take pre.length)) X ∧ w5.heap.size ≤ X.heap.size) (fun _ _ _ => False)
    (fun s X Y hs hb => ⟨⟨hs.1.b.trans (hb.mono (by omega)), cell_stay hs.1.c (hb.block _ (by omega)), fro_stay hs.1.f (hb.block _ (by omega))⟩, Nat.le_trans hs.2 hb.size⟩) (fun _ _ _ _ hs _ => hs)
    ⟨⟨hBw5, k5, f5⟩, Nat.le_refl _⟩
    (fun x a' X => a' = { tmps := #[.pointer (some ⟨c, 0, none⟩), undef, .int .i64 0, .pointer (some ⟨w.heap.size, 0, none⟩), undef, .int .i64 (S.getD x 0), .pointer (some ⟨c, 0, none⟩), .func (.func 61) #[] #[.pointer (some ⟨Bx, 0, none⟩)], .int .i64 (x : Int), .int .i64 (S.getD x 0), undef, undef, undef, undef], defers := [] })
    (fun x a' X o hx => hx) ?assign ?body ?done ?stop
  case assign =>
    rintro l pre x X K' hI hNx hlt hK
    have HI := hide hI
    have HK := hide hK
    clear hI hK
    obtain ⟨z, hz⟩ : ∃ z, z = S.getD x 0 := ⟨_, rfl⟩
    unfold encI
    rw [← hz] at HK ⊢
    clear hz
    gi_wp2
    exact HK.out _ _ (KeepsOthers.refl _) (.of_below (Below.refl _ _)) HI.out rfl
  case body =>
    rintro l pre x a' X ⟨hI, hzX⟩ ⟨rfl, hx⟩ rfl
    have ST := hide (sumI_take S hx)
    obtain ⟨z, hz⟩ : ∃ z, z = S.getD pre.length 0 := ⟨_, rfl⟩
    rw [← hz] at ST ⊢
    obtain ⟨s, hs⟩ : ∃ s, s = sumI (S.take pre.length) := ⟨_, rfl⟩
    rw [← hs] at ST hI
    have ck := hI.c
    have fk := hI.f
    have HI := hide hI
    have FIN := hide (show KeepsOthers X (X.setCell ⟨w.heap.size, 0, none⟩ (.int .i64 (wrap64 (s + z)))) ∧ Fix (fun i => CntK Bx c cs i ∨ w5.heap.size ≤ i) X (X.setCell ⟨w.heap.size, 0, none⟩ (.int .i64 (wrap64 (s + z)))) ∧ SumS w w.heap.size (sumI (S.take (pre ++ [pre.length]).length)) (X.setCell ⟨w.heap.size, 0, none⟩ (.int .i64 (wrap64 (s + z)))) ∧ w5.heap.size ≤ (X.setCell ⟨w.heap.size, 0, none⟩ (.int .i64 (wrap64 (s + z)))).heap.size from by
      refine ⟨⟨by rw [World.size_setCell]; exact Nat.le_refl _, fun i o hi ho => ?_⟩, (Fix.of_below (Below.refl _ _)).set (b := w.heap.size) (by have := HBX.out; rintro ((h | h | h) | h) <;> omega) _ _, ⟨hI.b.setCell (p := ⟨w.heap.size, 0, none⟩) (Nat.le_refl _) _, ?_, (World.frozen?_setCell _ _ _ _).trans hI.f⟩, by rw [World.size_setCell]; exact hzX⟩
      · refine (heap_setCell_other X ⟨w.heap.size, 0, none⟩ i _ (fun e => ?_)).trans hi
        have hc := hI.c
        rw [e] at hi
        simp only [World.cell?, hi] at hc
        cases o <;> simp_all [Obj.isCells]
      · rw [show (pre ++ [pre.length]).length = pre.length + 1 by simp, ST.out]
        exact World.cell?_setCell_same' _ _ _ (by rw [hI.c]; rfl))
    clear hI hz hs hx
    gi_wp2
    exact FIN.out
  case done =>
    rintro D xs X hD hxs ⟨hI, hzX⟩ hk
    have hs : SumS w w.heap.size (sumI S) X := by rw [hxs, List.take_length] at hI; exact hI
    have ck := hs.c
    have HS := hide hs
    have HD := hide hk
    clear hs hI hk
    gi_wp2
    refine ⟨by simp, .inl ⟨_, _, rfl, run_takeDeferred HD.out, ?_⟩⟩
    exact ⟨.int .i64 (sumI S), by simp [results, Try.f31, go_sem], rfl, HS.out.b.trans (belowK_b (w := w) (Nat.le_refl _) X D _ _ (by omega) HD.out rfl rfl)⟩
  case stop => exact fun _ _ _ _ _ _ h _ => h.elim
end Go.Proofs.Ytimabgakemgldaa
