import Derived.Maps.AppendAt
import Derived.Deep.AppendLies
import Derived.Laws.OwnMore
import Derived.Test.YtkdocoibfclfeaaT2
namespace Go.Proofs.Ytkdocoibfclfeaa
open Go.ChangeShapes Go.WideShapes Go.ChangeAt Go.RowKit Go.Deep Go.Maps Go.ChangeMaps Go.WideMaps
set_option linter.unusedSimpArgs false
set_option linter.unusedVariables false

def ent (p : List Ent) (i : Nat) : Ent := p.getD i (ByteArray.empty, 0)
def flatE (p : List Ent) : List Value := p.flatMap fun x => [.string x.1, .int .i64 x.2]
theorem flatE_cons (x : Ent) (p : List Ent) : flatE (x :: p) = .string x.1 :: .int .i64 x.2 :: flatE p := rfl
theorem flatE_snoc (p : List Ent) (x : Ent) : flatE (p ++ [x]) = flatE p ++ [.string x.1, .int .i64 x.2] := by simp [flatE]
theorem flatE_len (p : List Ent) : (flatE p).length = p.length * 2 := by
  induction p with
  | nil => rfl
  | cons x r ih => rw [flatE_cons]; simp only [List.length_cons, ih]; omega
theorem flatE_one (p : List Ent) : ∀ u ∈ flatE p, u.oneCell' = true := by
  intro u hu
  obtain ⟨x, _, hx⟩ := List.mem_flatMap.1 hu
  simp at hx
  rcases hx with rfl | rfl <;> rfl
theorem flatE_at (p : List Ent) : ∀ i, i < p.length → (flatE p)[i * 2]? = some (.string (ent p i).1) ∧ (flatE p)[i * 2 + 1]? = some (.int .i64 (ent p i).2) := by
  induction p with
  | nil => intro i h; simp at h
  | cons x r ih =>
    intro i h
    rcases i with _ | i
    · exact ⟨rfl, rfl⟩
    · have e : (i + 1) * 2 = i * 2 + 1 + 1 := by omega
      rw [flatE_cons, e, List.getElem?_cons_succ, List.getElem?_cons_succ, List.getElem?_cons_succ, List.getElem?_cons_succ]
      exact ih i (by simpa using h)
theorem ent_mem {p : List Ent} {i : Nat} (h : i < p.length) : ent p i ∈ p := by
  unfold ent; rw [List.getD_eq_getElem?_getD, List.getElem?_eq_getElem h]; exact List.getElem_mem h
theorem ent_of_mem {p : List Ent} {x : Ent} (h : x ∈ p) : ∃ i, i < p.length ∧ ent p i = x := by
  obtain ⟨i, hi, e⟩ := List.getElem_of_mem h
  exact ⟨i, hi, by unfold ent; rw [List.getD_eq_getElem?_getD, List.getElem?_eq_getElem hi]; exact e⟩
theorem take_snoc (p : List Ent) (k : Nat) (h : k < p.length) : p.take (k + 1) = p.take k ++ [ent p k] := by
  rw [List.take_succ_eq_append_getElem h]; unfold ent; rw [List.getD_eq_getElem?_getD, List.getElem?_eq_getElem h]; rfl
/-- entries that a slice shows -/
structure Ents (so : Option Addr) (cap : Nat) (p : List Ent) (w : World) : Prop where
  nil : so = none → p.length = 0 ∧ cap = 0
  ex : 0 < p.length → ∃ g off, so = some ⟨g, off, none⟩
  cells : ∀ ad, so = some ad → ∀ j u, (flatE p)[j]? = some u → w.cell? (ad.add j) = some u
theorem Ents.spot {so : Option Addr} {cap : Nat} {p : List Ent} {w : World} (h : Ents so cap p w) (h0 : 0 < p.length) : ∃ g off, so = some ⟨g, off, none⟩ ∧ ∀ i, i < p.length → w.cell? ⟨g, off + i * 2, none⟩ = some (.string (ent p i).1) ∧ w.cell? ⟨g, off + i * 2 + 1, none⟩ = some (.int .i64 (ent p i).2) := by
  obtain ⟨g, off, rfl⟩ := h.ex h0
  refine ⟨g, off, rfl, fun i hi => ⟨by have := h.cells _ rfl (i * 2) _ (flatE_at p i hi).1; rw [Addr.add_lit] at this; exact this, ?_⟩⟩
  have := h.cells _ rfl (i * 2 + 1) _ (flatE_at p i hi).2
  rw [Addr.add_lit] at this
  rw [show off + i * 2 + 1 = off + (i * 2 + 1) by omega]
  exact this
theorem Ents.stays {so : Option Addr} {cap : Nat} {p : List Ent} {w w' : World} (h : Ents so cap p w) (hk : ∀ ad j, so = some ad → (ad.add j).block < w.heap.size → w'.heap[(ad.add j).block]? = w.heap[(ad.add j).block]?) : Ents so cap p w' :=
  ⟨h.nil, h.ex, fun ad e j u hu => by
    have q := h.cells ad e j u hu
    exact (World.cell?_of_block (a := ad.add j) (hk ad j e (World.block_lt_of_cell? w _ q))).trans q⟩
theorem Ents.below {so : Option Addr} {cap : Nat} {p : List Ent} {w w' : World} (h : Ents so cap p w) (hb : Below w.heap.size w w') : Ents so cap p w' := h.stays fun ad j _ hk => hb.block _ hk
theorem Ents.of_own {w : World} {base n : Nat} {v : Value} {p : List Ent} (h : w.ownsRow base 63 2 v n (flatE p)) : ∃ so cap, v = .slice so p.length cap ∧ Ents so cap p w := by
  have hn : n = p.length := by have := h.1; rw [flatE_len] at this; omega
  subst hn
  rcases h.2 with ⟨rfl, h0⟩ | ⟨g, cap, cur, rfl, _⟩
  · exact ⟨none, 0, by rw [h0], ⟨fun _ => ⟨h0, rfl⟩, fun q => by omega, fun ad q => by cases q⟩⟩
  · refine ⟨_, cap, rfl, ⟨fun q => by (exact absurd q (by simp)), fun _ => ⟨g, 0, rfl⟩, fun ad q j u hu => ?_⟩⟩
    cases q
    exact h.cells rfl j u hu
open Classical in
noncomputable def formedB (p : List Ent) : Bool := decide (Formed p)
theorem formedB_yes {p : List Ent} (h : Formed p) : formedB p = true := by simp [formedB, h]
theorem formedB_no {p : List Ent} (h : ¬ Formed p) : formedB p = false := by simp [formedB, h]
def fRel (p : List Ent) (w : World) (k : Nat) (wr : World) : Prop := k ≤ p.length ∧ (∀ i, i < k → goodEnt (ent p i)) ∧ Below w.heap.size w wr
theorem all_good {p : List Ent} (h : ∀ i, i < p.length → goodEnt (ent p i)) : ∀ x ∈ p, goodEnt x := fun x hx => by
  obtain ⟨i, hi, rfl⟩ := ent_of_mem hx
  exact h i hi
theorem tot_step {p : List Ent} {k : Nat} (hk : k < p.length) (h : ∀ i, i < k → goodEnt (ent p i)) (hl : p.length ≤ 128) : total (p.take k) ≤ 128 * maxC ∧ -(128 * maxC) ≤ total (p.take k) ∧ total (p.take (k + 1)) = total (p.take k) + (ent p k).2 := by
  have hg : ∀ x ∈ p.take k, x.2 ≤ maxC ∧ -maxC ≤ x.2 := fun x hx => by
    obtain ⟨i, hi, rfl⟩ := List.getElem_of_mem hx
    have hi' : i < k ∧ i < p.length := by rw [List.length_take] at hi; omega
    have := h i hi'.1
    have e : ent p i = (p.take k)[i] := by
      unfold ent; rw [List.getD_eq_getElem?_getD, List.getElem?_eq_getElem hi'.2]; simp
    rw [e] at this
    exact ⟨this.2.2.1, this.2.2.2⟩
  have hb := total_bd hg
  have hlen : (p.take k).length = k := by simp; omega
  rw [hlen] at hb
  rw [take_snoc p k hk, total_snoc]
  unfold maxC at *
  omega

set_option maxRecDepth 100000 in
set_option maxHeartbeats 2000000 in
theorem formed_loop (so : Option Addr) (cap : Nat) (p : List Ent) (w : World) (h : Ents so cap p w) (h0 : 0 < p.length) (hl : p.length ≤ 128) : Calls Try.prog 51 #[.slice so p.length cap] w fun e w' => e = .returned (.bool (formedB p)) ∧ Below w.heap.size w w' := by
  obtain ⟨g, off, rfl, hc⟩ := h.spot h0
  have hgz : g < w.heap.size := World.block_lt_of_cell? w _ (hc 0 h0).1
  have HC := hide hc
  have HL := hide hl
  have b1 : decide ((p.length : Int) < 1) = false := by simp; omega
  have b2 : decide ((128 : Int) < (p.length : Int)) = false := by simp; omega
  clear h hc
  go_enter Try.func51, Try.ntmps51
  go_wp2
  go_loopw [3, 16] (fun v3 v16 wr => ∃ k : Nat, v16 = .int .i64 (k : Int) ∧ v3 = .int .i64 (total (p.take k)) ∧ fRel p w k wr) (fun _ v16 _ => p.length - (intOf v16).toNat)
  case atStart => exact ⟨0, rfl, rfl, Nat.zero_le _, fun i h => by omega, Below.refl _ _⟩
  case round =>
    obtain ⟨k, rfl, rfl, hkl, hgd, hbw⟩ := hrel
    have HG := hide hgd
    have HBW := hide hbw
    clear hgd hbw
    obtain ⟨T, hT⟩ : ∃ T, T = total (p.take k) := ⟨_, rfl⟩
    rw [← hT]
    have HT := hide hT
    clear hT
    by_cases hlt : k < p.length
    · have hc0 : wr.cell? ⟨g, off + k * 2, none⟩ = some (.string (ent p k).1) := (HBW.out.cell (p := ⟨g, off + k * 2, none⟩) hgz).trans (HC.out k hlt).1
      have hc1 : wr.cell? ⟨g, off + k * 2 + 1, none⟩ = some (.int .i64 (ent p k).2) := (HBW.out.cell (p := ⟨g, off + k * 2 + 1, none⟩) hgz).trans (HC.out k hlt).2
      obtain ⟨s, hs⟩ : ∃ s, s = (ent p k).1 := ⟨_, rfl⟩
      obtain ⟨c, hcc⟩ : ∃ c, c = (ent p k).2 := ⟨_, rfl⟩
      rw [← hs] at hc0
      rw [← hcc] at hc1
      have HSC := hide (show ent p k = (s, c) by rw [hs, hcc])
      clear hs hcc
      by_cases hg : goodEnt (s, c)
      · have HGE := hide hg
        have a1 : (c == 0) = false := by (rw [beq_eq_false_iff_ne]; exact hg.2.1)
        have a2 : decide (70368744177664 < c) = false := by (rw [decide_eq_false_iff_not]; have := hg.2.2.1; unfold maxC at this; show ¬ (70368744177664 : Int) < c; have q : c ≤ 70368744177664 := this; omega)
        have a3 : decide (c < -70368744177664) = false := by (rw [decide_eq_false_iff_not]; have q : -70368744177664 ≤ c := hg.2.2.2; omega)
        have a4 : decide (c = 0) = false := by (rw [decide_eq_false_iff_not]; exact hg.2.1)
        have TS := hide (tot_step hlt HG.out HL.out)
        have hadd : IntKind.i64.wrap (T + c) = T + c := IntWalk.i64_in _ (by have := TS.out; have q : c ≤ 70368744177664 := hg.2.2.1; have q2 : -70368744177664 ≤ c := hg.2.2.2; rw [← HT.out] at this; unfold maxC at this; constructor <;> omega)
        have hadd2 : wrap64 (T + c) = T + c := by rw [← IntWalk.i64_left]; exact hadd
        clear hg
        go_wp2_with (go_at_call 23; refine (Check_ok s _ HGE.out.1.1 HGE.out.1.2).mono ?_; rintro e w' ⟨rfl, rfl⟩)
        go_roundw
        case rel =>
          refine ⟨k + 1, by go_num, ?_, by omega, fun i hi => ?_, HBW.out.trans ((Below.refl _ _).alloc HBW.out.size _)⟩
          · rw [TS.out.2.2, HSC.out, ← HT.out]
          · rcases (by omega : i < k ∨ i = k) with q | q
            · exact HG.out i q
            · rw [q, HSC.out]; exact HGE.out
        case measure => simp [intOf]; omega
      · have HGE := hide hg
        have HF := hide (show formedB p = false from formedB_no fun q => HGE.out (by rw [← HSC.out]; exact q.2.2.1 _ (ent_mem hlt)))
        clear hg
        by_cases hn : goodName s
        · have HN := hide hn
          clear hn
          by_cases h1 : c = 0
          · have a1 : (c == 0) = true := by (rw [h1]; rfl)
            have a4 : decide (c = 0) = true := by (rw [decide_eq_true_iff]; exact h1)
            clear h1
            go_wp2_with (go_at_call 23; refine (Check_ok s _ HN.out.1 HN.out.2).mono ?_; rintro e w' ⟨rfl, rfl⟩)
            go_ret
            exact ⟨ret_bool HF.out.symm, HBW.out.trans ((Below.refl _ _).alloc HBW.out.size _)⟩
          · have a1 : (c == 0) = false := by (rw [beq_eq_false_iff_ne]; exact h1)
            have a4 : decide (c = 0) = false := by (rw [decide_eq_false_iff_not]; exact h1)
            have H1 := hide h1
            clear h1
            by_cases h2 : 70368744177664 < c
            · have a2 : decide (70368744177664 < c) = true := by (rw [decide_eq_true_iff]; exact h2)
              clear h2
              go_wp2_with (go_at_call 23; refine (Check_ok s _ HN.out.1 HN.out.2).mono ?_; rintro e w' ⟨rfl, rfl⟩)
              go_ret
              exact ⟨ret_bool HF.out.symm, HBW.out.trans ((Below.refl _ _).alloc HBW.out.size _)⟩
            · have a2 : decide (70368744177664 < c) = false := by (rw [decide_eq_false_iff_not]; exact h2)
              have a3 : decide (c < -70368744177664) = true := by
                rw [decide_eq_true_iff]
                refine Classical.byContradiction fun q => HGE.out ⟨HN.out, H1.out, ?_, ?_⟩
                · show c ≤ (70368744177664 : Int); omega
                · show (-70368744177664 : Int) ≤ c; omega
              clear h2
              go_wp2_with (go_at_call 23; refine (Check_ok s _ HN.out.1 HN.out.2).mono ?_; rintro e w' ⟨rfl, rfl⟩)
              go_ret
              exact ⟨ret_bool HF.out.symm, HBW.out.trans ((Below.refl _ _).alloc HBW.out.size _)⟩
        · have HN := hide (show s.size = 0 ∨ 64 < s.size by unfold goodName at hn; omega)
          clear hn
          rcases HN.out with q | q
          · have Q := hide q
            clear q
            go_wp2_with (go_at_call 23; refine (Check_short s _ Q.out).mono ?_; rintro e w' ⟨rfl, rfl⟩)
            go_ret
            exact ⟨ret_bool HF.out.symm, HBW.out.trans ((Below.refl _ _).alloc HBW.out.size _)⟩
          · have Q := hide q
            clear q
            go_wp2_with (go_at_call 23; refine (Check_long s _ Q.out).mono ?_; rintro e w' ⟨rfl, rfl⟩)
            go_ret
            exact ⟨ret_bool HF.out.symm, HBW.out.trans ((Below.refl _ _).alloc HBW.out.size _)⟩
    · have hke : k = p.length := by omega
      have HTT := hide (show T = total p by rw [HT.out, hke, List.take_length])
      have HGG := hide (show ∀ x ∈ p, goodEnt x from all_good (fun i hi => HG.out i (by omega)))
      clear hke
      by_cases h1 : T = 0
      · have a1 : (T == 0) = true := by (rw [h1]; rfl)
        have a4 : decide (T = 0) = true := by (rw [decide_eq_true_iff]; exact h1)
        have HF := hide (show formedB p = true from formedB_yes ⟨by omega, HL.out, HGG.out, by rw [← HTT.out]; exact h1⟩)
        clear h1
        go_wp2
        go_ret
        exact ⟨ret_bool HF.out.symm, HBW.out⟩
      · have a1 : (T == 0) = false := by (rw [beq_eq_false_iff_ne]; exact h1)
        have a4 : decide (T = 0) = false := by (rw [decide_eq_false_iff_not]; exact h1)
        have HF := hide (show formedB p = false from formedB_no (fun q => h1 (by rw [HTT.out]; exact q.2.2.2)))
        clear h1
        go_wp2
        go_ret
        exact ⟨ret_bool HF.out.symm, HBW.out⟩

set_option maxHeartbeats 1000000 in
theorem formed_short (so : Option Addr) (cap : Nat) (p : List Ent) (w : World) (h0 : p.length = 0) : Calls Try.prog 51 #[.slice so p.length cap] w fun e w' => e = .returned (.bool (formedB p)) ∧ Below w.heap.size w w' := by
  have HF := hide (show formedB p = false from formedB_no (fun q => by have := q.1; omega))
  have b1 : decide ((p.length : Int) < 1) = true := by simp; omega
  go_enter Try.func51, Try.ntmps51
  go_wp2
  go_ret
  exact ⟨ret_bool HF.out.symm, Below.refl _ _⟩
set_option maxHeartbeats 1000000 in
theorem formed_long (so : Option Addr) (cap : Nat) (p : List Ent) (w : World) (h0 : 128 < p.length) : Calls Try.prog 51 #[.slice so p.length cap] w fun e w' => e = .returned (.bool (formedB p)) ∧ Below w.heap.size w w' := by
  have HF := hide (show formedB p = false from formedB_no (fun q => by have := q.2.1; omega))
  have b1 : decide ((p.length : Int) < 1) = false := by simp; omega
  have b2 : decide ((128 : Int) < (p.length : Int)) = true := by simp; omega
  go_enter Try.func51, Try.ntmps51
  go_wp2
  go_ret
  exact ⟨ret_bool HF.out.symm, Below.refl _ _⟩
theorem formed_c (so : Option Addr) (cap : Nat) (p : List Ent) (w : World) (h : Ents so cap p w) : Calls Try.prog 51 #[.slice so p.length cap] w fun e w' => e = .returned (.bool (formedB p)) ∧ Below w.heap.size w w' := by
  rcases (by omega : p.length = 0 ∨ 128 < p.length ∨ (0 < p.length ∧ p.length ≤ 128)) with q | q | q
  · exact formed_short so cap p w q
  · exact formed_long so cap p w q
  · exact formed_loop so cap p w h q.1 q.2
end Go.Proofs.Ytkdocoibfclfeaa
