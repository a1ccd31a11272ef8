import Derived.Test.YtajkgecegefnmaaT2
namespace Go.Proofs.Ytajkgecegefnmaa
open Go.ChangeShapes Go.WideShapes Go.ChangeAt Go.RowKit Go.Deep
set_option linter.unusedSimpArgs false
set_option linter.unusedVariables false

/-- the writer at g holds the bytes bs, in the row v -/
def WObj (w : World) (g : Nat) (v : Value) (bs : List Nat) : Prop :=
  g < w.heap.size ∧ w.cell? ⟨g, 0, none⟩ = some v ∧ w.frozen? ⟨g, 0, none⟩ = false ∧ w.ownsRow 0 5 1 v bs.length (bs.map (fun (b : Nat) => Value.int .u8 (b : Int))) ∧ v.ownBlock ≠ some g ∧ (bs = [] → v = .slice none 0 0)
/-- what a writer's call writes: its own block, its row, what is new -/
def WKeep (g : Nat) (v : Value) (w w' : World) : Prop := w'.os = w.os ∧ w'.tape = w.tape ∧ w'.output = w.output ∧ w.heap.size ≤ w'.heap.size ∧ ∀ i, i < w.heap.size → i ≠ g → some i ≠ v.ownBlock → w'.heap[i]? = w.heap[i]?
def Near (w : World) (v v' : Value) : Prop := v'.ownBlock = v.ownBlock ∨ ∃ k, v'.ownBlock = some k ∧ w.heap.size ≤ k
theorem WKeep.of_below {g : Nat} {v : Value} {w w' : World} (h : Below w.heap.size w w') : WKeep g v w w' := ⟨h.os, h.tape, h.output, h.size, fun i hi _ _ => h.block i hi⟩
theorem WKeep.trans {g : Nat} {v v1 : Value} {w w1 w2 : World} (h : WKeep g v w w1) (n : Near w v v1) (k : WKeep g v1 w1 w2) : WKeep g v w w2 := by
  obtain ⟨a1, a2, a3, a4, a5⟩ := h
  obtain ⟨b1, b2, b3, b4, b5⟩ := k
  refine ⟨b1.trans a1, b2.trans a2, b3.trans a3, Nat.le_trans a4 b4, fun i hi h1 h2 => (b5 i (Nat.lt_of_lt_of_le hi a4) h1 ?_).trans (a5 i hi h1 h2)⟩
  rcases n with n | ⟨k, n, hk⟩
  · rw [n]; exact h2
  · rw [n]; intro e; cases e; omega
theorem Near.trans {v v1 v2 : Value} {w w1 : World} (h : Near w v v1) (hs : w.heap.size ≤ w1.heap.size) (k : Near w1 v1 v2) : Near w v v2 := by
  rcases k with k | ⟨j, k, hk⟩
  · rcases h with h | ⟨i, h, hi⟩
    · exact .inl (k.trans h)
    · exact .inr ⟨i, k.trans h, hi⟩
  · exact .inr ⟨j, k, Nat.le_trans hs hk⟩
theorem WObj.below {g : Nat} {v : Value} {bs : List Nat} {w w' : World} (h : WObj w g v bs) (hb : Below w.heap.size w w') : WObj w' g v bs := by
  obtain ⟨h1, h2, h3, h4, h5, h6⟩ := h
  refine ⟨Nat.lt_of_lt_of_le h1 hb.size, (hb.cell (p := ⟨g, 0, none⟩) h1).trans h2, (hb.frozen (p := ⟨g, 0, none⟩) h1).trans h3, ?_, h5, h6⟩
  exact h4.kept (row := none) ⟨hb.os, hb.tape, hb.output, hb.size, fun k hk _ => hb.block k hk⟩ (by
    cases e : v.ownBlock with
    | none => exact .inl rfl
    | some k => exact .inr (by simp))

set_option maxHeartbeats 2000000 in
theorem raw_c (g : Nat) (v : Value) (bs ns : List Nat) (b off cap : Nat) (w : World) (hW : WObj w g v bs) (hm : 0 < ns.length) (hl : bs.length + ns.length ≤ 17592186044416) (hb : ∀ j, j < ns.length → w.cell? ⟨b, off + j, none⟩ = some (.int .u8 (ns.getD j 0 : Int))) : Calls Try.prog 47 #[.pointer (some ⟨g, 0, none⟩), .slice (some ⟨b, off, none⟩) ns.length cap] w (fun e w' => ∃ v', e = .returned (.int .i64 0) ∧ WObj w' g v' (bs ++ ns) ∧ WKeep g v w w' ∧ Near w v v') := by
  obtain ⟨i0, hi0, hz0, hz1, hz2⟩ := info_parts info5
  obtain ⟨w1, w2, w3, w4, w5, w6⟩ := hW
  clear w6
  have Hown := hide w4
  have Hne := hide w5
  have Hn := hide (show ∀ j u, (ns.map (fun (b : Nat) => Value.int .u8 (b : Int)))[j]? = some u → w.cell? ((⟨b, off, none⟩ : Addr).add j) = some u from fun j u hu => by
    rw [List.getElem?_map] at hu
    cases e : ns[j]? with
    | none => rw [e] at hu; cases hu
    | some x =>
      rw [e] at hu
      have hj : j < ns.length := (List.getElem?_eq_some_iff.1 e).1
      have q := hb j hj
      have ha : (⟨b, off, none⟩ : Addr).add j = ⟨b, off + j, none⟩ := by
        unfold Addr.add
        split
        · (rename_i h; subst h; rfl)
        · rfl
      rw [ha, q, ← hu]
      simp [List.getD, e])
  have HO := hide (show ∀ u ∈ ns.map (fun (b : Nat) => Value.int .u8 (b : Int)), u.oneCell' = true from fun u hu => by obtain ⟨x, _, rfl⟩ := List.mem_map.1 hu; rfl)
  clear w4 w5 hb
  go_enter Try.func47, Try.ntmps47
  go_wp2_with (at_builtin; refine wpList_append_lies _ rfl (.tmp 11) (.tmp 12) 28 rfl 0 5 i0 (.int .u8 0) 1 1 Try.underlying28 hi0 hz0 hz1 hz2 rfl (by decide) v bs.length (bs.map (fun (b : Nat) => Value.int .u8 (b : Int))) rfl Hown.out ⟨b, off, none⟩ ns.length cap (ns.map (fun (b : Nat) => Value.int .u8 (b : Int))) rfl (by simp) Hn.out HO.out hm (by unfold maxLen; omega) (by omega) (Nat.zero_le _) _ rfl ?_; intro g2 cap2 wn hown2 hg2 hgg hgl; have cg : wn.cell? ⟨g, 0, none⟩ = some v := (hg2.cell_far ⟨g, 0, none⟩ w1 (fun e => Hne.out e.symm)).trans w2; have fg : wn.frozen? ⟨g, 0, none⟩ = false := (hg2.frozen_far ⟨g, 0, none⟩ w1 (fun e => Hne.out e.symm)).trans w3)
  go_ret
  have hgne : g2 ≠ g := by
    rintro rfl
    rcases hgg with q | q
    · exact Hne.out q
    · omega
  have own2 : wn.ownsRow 0 5 1 (.slice (some ⟨g2, 0, none⟩) (bs.length + ns.length) cap2) (bs ++ ns).length ((bs ++ ns).map (fun (b : Nat) => Value.int .u8 (b : Int))) := by
    rw [List.length_append, List.map_append]; exact hown2
  have hs2 : w.heap.size ≤ wn.heap.size := hg2.size
  refine ⟨_, rfl, ⟨by (simp; omega), by (simp [go_sem, cg]; done), by (simp [go_sem, fg]; done), ownsRow_setCell_other own2 (a := ⟨g, 0, none⟩) (by (simp [Value.ownBlock]; exact hgne)) _, by (simp [Value.ownBlock]; exact hgne), fun h => by (have q := congrArg List.length h; simp only [List.length_append, List.length_nil] at q; omega)⟩, ⟨?_, ?_, ?_, ?_, ?_⟩, ?_⟩
  · exact hg2.os
  · exact hg2.tape
  · exact hg2.output
  · (simp; omega)
  · intro i hi h1 h2
    rw [Below.heap_setCell _ _ _ _ (by exact h1)]
    exact hg2.block i hi h2
  · rcases hgg with q | q
    · exact .inl q.symm
    · exact .inr ⟨g2, rfl, by omega⟩
end Go.Proofs.Ytajkgecegefnmaa
