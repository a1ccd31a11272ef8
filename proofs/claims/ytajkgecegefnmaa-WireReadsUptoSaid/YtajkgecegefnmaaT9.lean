import Derived.Maps.AppendAt
import Derived.Lib.ConvBytes
import Derived.Test.YtajkgecegefnmaaT8
namespace Go.Proofs.Ytajkgecegefnmaa
open Go.ChangeShapes Go.WideShapes Go.ChangeAt Go.RowKit Go.Deep
set_option linter.unusedSimpArgs false
set_option linter.unusedVariables false
/- 'append(nil, xs...)', xs empty, of whatever address: nil -/
theorem wpList_append_empty {P : Program} (w : World) {ops : Array Oper} {rest : List Oper} {o : Oper} {a : Act} {Q : Exit → Act → World → Prop} (hg : o.guard = none) (s x : Operand) (t : TypeId)
    (ho : o.op = .call { callee := .builtin .append, args := #[s, x], argTypes := #[t, t] })
    (e : TypeId) (i : TypeInfo) (z : Value) (size bytes : Nat) (ht : P.underlying t = some (.slice e)) (hi : P.info? e = some i) (hz : i.zero = some z)
    (hsize : i.size = size) (hby : i.bytes = bytes) (hzs : z.cells.size = size) (hsz : 0 < size)
    (hs : a.eval s = .slice none 0 0) (ao : Option Addr) (n0 c : Nat) (hx : a.eval x = .slice ao n0 c) (hn : n0 = 0) (hnone : ao = none → c = 0)
    (h : ∀ w', w.grownBy w' none → wpList P ops Q rest (a.put o.dst (.slice none 0 0)) w') : wpList P ops Q (o :: rest) a w := by
  subst hn
  have hown : w.ownsRow w.heap.size e size (.slice none 0 0) 0 [] := ⟨by simp, .inl ⟨rfl, rfl⟩⟩
  cases ao with
  | some ad => exact wpList_append_own w hg s x t ho w.heap.size e i z size bytes ht hi hz hsize hby hzs hsz (.slice none 0 0) 0 [] hs hown ad 0 c [] hx (by simp) (by intro j u h; simp at h) (by intro u h; simp at h) (by decide) (by omega) (Nat.le_refl _) (fun v' w' h1 h2 h3 => by
      obtain rfl : v' = .slice none 0 0 := h3.2 ⟨rfl, rfl⟩
      exact h w' h2)
  | none =>
    obtain rfl := hnone rfl
    refine wpList_plain hg fun K hK' => ?_
    have hrun := run_append_owned_none (P := P) w w.heap.size t o.type e i size ht hi _ 0 [] hown
    unfold Oper.wp
    simp [execOp, ho, resolve, invoke, builtin, hs, hx, hrun, Result.andThen]
    exact hK' _ _ (by simpa using h w (World.grownBy.refl _ _))

/-- 'append(s, xs...)', xs empty, s a row of the call's own that is not empty -/
theorem wpList_append0 {P : Program} (w : World) {ops : Array Oper} {rest : List Oper} {o : Oper} {a : Act} {Q : Exit → Act → World → Prop} (hgd : o.guard = none) (s x : Operand) (t : TypeId)
    (ho : o.op = .call { callee := .builtin .append, args := #[s, x], argTypes := #[t, t] })
    (e : TypeId) (i : TypeInfo) (z : Value) (bytes : Nat) (ht : P.underlying t = some (.slice e)) (hi : P.info? e = some i) (hz : i.zero = some z)
    (hsize : i.size = 1) (hby : i.bytes = bytes) (hzs : z.cells.size = 1)
    (v : Value) (n : Nat) (xs : List Value) (hs : a.eval s = v) (hown : w.ownsRow 0 e 1 v n xs) (hn : 0 < n) (hmx : n ≤ maxLen) (hmb : n * bytes ≤ 140737488355328)
    (ad : Addr) (n0 c : Nat) (hx : a.eval x = .slice (some ad) n0 c) (hn0 : n0 = 0)
    (h : ∀ g cap w', w'.ownsRow 0 e 1 (.slice (some ⟨g, 0, none⟩) n cap) n xs → w.grownBy w' v.ownBlock → (v.ownBlock = some g ∨ g = w.heap.size) → g < w'.heap.size → wpList P ops Q rest (a.put o.dst (.slice (some ⟨g, 0, none⟩) n cap)) w') : wpList P ops Q (o :: rest) a w := by
  subst hn0
  refine wpList_plain hgd fun K hK => ?_
  obtain ⟨v', w', hr, h2, h3, _, h5⟩ := run_append_own_at (P := P) w 0 t o.type e i z 1 bytes ht hi hz hsize hby hzs (by decide) v n xs hown ad 0 c [] rfl (by intro j u hj; simp at hj) (by intro u hu; simp at hu) (by omega) (by simpa using hmb) (Nat.zero_le _)
  rw [Nat.add_zero, List.append_nil] at h2
  obtain ⟨g, cap, rfl, _, hlt⟩ := h2.form hn
  unfold Oper.wp execOp
  simp only [ho, resolve, invoke, builtin, Sem.run_bind, Sem.run_pure, Result.andThen_ok, List.map_toArray, List.map_cons, List.map_nil, hs, hx, hr]
  refine hK _ _ (h g cap w' h2 h3 ?_ hlt)
  rcases h5 with h5 | h5
  · exact .inl (by rw [← h5]; rfl)
  · exact .inr (by simpa [Value.ownBlock] using h5)

set_option maxHeartbeats 2000000 in
theorem raw_none (g : Nat) (v : Value) (b : Addr) (n0 cap : Nat) (w : World) (hW : WObj w g v []) (hn0 : n0 = 0) : Calls Try.prog 47 #[.pointer (some ⟨g, 0, none⟩), .slice (some b) n0 cap] w (fun e w' => ∃ v', e = .returned (.int .i64 0) ∧ WObj w' g v' [] ∧ WKeep g v w w' ∧ Near w v v') := by
  obtain ⟨i0, hi0, hz0, hz1, hz2⟩ := info_parts info5
  obtain ⟨w1, w2, w3, w4, w5, w6⟩ := hW
  obtain rfl := w6 rfl
  have HN := hide hn0
  clear w4 w6 hn0
  go_enter Try.func47, Try.ntmps47
  go_wp2_with (at_builtin; refine wpList_append_empty _ rfl (.tmp 11) (.tmp 12) 28 rfl 5 i0 (.int .u8 0) 1 1 Try.underlying28 hi0 hz0 hz1 hz2 rfl (by decide) rfl (some b) n0 cap rfl HN.out (fun h => by cases h) ?_; intro wn hg2; have cg : wn.cell? ⟨g, 0, none⟩ = some (.slice none 0 0) := (hg2.cell_far ⟨g, 0, none⟩ w1 (by simp)).trans w2; have fg : wn.frozen? ⟨g, 0, none⟩ = false := (hg2.frozen_far ⟨g, 0, none⟩ w1 (by simp)).trans w3)
  go_ret
  have hs2 : w.heap.size ≤ wn.heap.size := hg2.size
  refine ⟨.slice none 0 0, rfl, ⟨by (simp; omega), by (simp [go_sem, cg]; done), by (simp [go_sem, fg]; done), World.ownsRow_nil _ _ _ _, by simp [Value.ownBlock], fun _ => rfl⟩, ⟨?_, ?_, ?_, ?_, ?_⟩, .inl rfl⟩
  · exact hg2.os
  · exact hg2.tape
  · exact hg2.output
  · (simp; omega)
  · intro i hi h1 h2
    rw [Below.heap_setCell _ _ _ _ (by exact h1)]
    exact hg2.block i hi (by simp)

set_option maxHeartbeats 2000000 in
theorem raw_some (g : Nat) (v : Value) (bs : List Nat) (b : Addr) (n0 cap : Nat) (w : World) (hW : WObj w g v bs) (hm : 0 < bs.length) (hl : bs.length ≤ 17592186044416) (hn0 : n0 = 0) : Calls Try.prog 47 #[.pointer (some ⟨g, 0, none⟩), .slice (some b) n0 cap] w (fun e w' => ∃ v', e = .returned (.int .i64 0) ∧ WObj w' g v' bs ∧ WKeep g v w w' ∧ Near w v v') := by
  obtain ⟨i0, hi0, hz0, hz1, hz2⟩ := info_parts info5
  obtain ⟨w1, w2, w3, w4, w5, w6⟩ := hW
  have HN := hide hn0
  have Hown := hide w4
  have Hne := hide w5
  clear w4 w5 w6 hn0
  go_enter Try.func47, Try.ntmps47
  go_wp2_with (at_builtin; refine wpList_append0 _ rfl (.tmp 11) (.tmp 12) 28 rfl 5 i0 (.int .u8 0) 1 Try.underlying28 hi0 hz0 hz1 hz2 rfl v bs.length (bs.map (fun (b : Nat) => Value.int .u8 (b : Int))) rfl Hown.out hm (by unfold maxLen; omega) (by omega) b n0 cap rfl HN.out ?_; intro g2 cap2 wn hown2 hg2 hgg hgl; have cg : wn.cell? ⟨g, 0, none⟩ = some v := (hg2.cell_far ⟨g, 0, none⟩ w1 (fun e => Hne.out e.symm)).trans w2; have fg : wn.frozen? ⟨g, 0, none⟩ = false := (hg2.frozen_far ⟨g, 0, none⟩ w1 (fun e => Hne.out e.symm)).trans w3)
  go_ret
  have hgne : g2 ≠ g := by
    rintro rfl
    rcases hgg with q | q
    · exact Hne.out q
    · omega
  have hs2 : w.heap.size ≤ wn.heap.size := hg2.size
  refine ⟨_, rfl, ⟨by (simp; omega), by (simp [go_sem, cg]; done), by (simp [go_sem, fg]; done), ownsRow_setCell_other hown2 (a := ⟨g, 0, none⟩) (by (simp [Value.ownBlock]; exact hgne)) _, by (simp [Value.ownBlock]; exact hgne), fun h => by (rw [h] at hm; simp at hm)⟩, ⟨?_, ?_, ?_, ?_, ?_⟩, ?_⟩
  · exact hg2.os
  · exact hg2.tape
  · exact hg2.output
  · (simp; omega)
  · intro i hi h1 h2
    rw [Below.heap_setCell _ _ _ _ (by exact h1)]
    exact hg2.block i hi h2
  · rcases hgg with q | q
    · exact .inl q.symm
    · exact .inr ⟨g2, rfl, by omega⟩
end Go.Proofs.Ytajkgecegefnmaa
