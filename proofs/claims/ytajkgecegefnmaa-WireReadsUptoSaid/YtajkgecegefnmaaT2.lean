import Derived.Deep.AppendLies
import Derived.Test.YtajkgecegefnmaaT1
namespace Go.Proofs.Ytajkgecegefnmaa
open Go.ChangeShapes Go.WideShapes Go.ChangeAt Go.RowKit Go.Deep
set_option linter.unusedSimpArgs false
set_option linter.unusedVariables false

/-- a row that a call has appended to: v before, v' behind; whatever lay and is not v's block lies as it lay -/
def Gr (w w' : World) (v v' : Value) : Prop := w.grownBy w' v.ownBlock ∧ (v'.ownBlock = v.ownBlock ∨ ∃ k, v'.ownBlock = some k ∧ w.heap.size ≤ k)
theorem Gr.refl (w : World) (v : Value) : Gr w w v v := ⟨World.grownBy.refl w _, .inl rfl⟩
theorem Gr.trans {w w1 w2 : World} {v v1 v2 : Value} (h : Gr w w1 v v1) (k : Gr w1 w2 v1 v2) : Gr w w2 v v2 := by
  obtain ⟨h1, h2⟩ := h
  obtain ⟨k1, k2⟩ := k
  refine ⟨⟨k1.os.trans h1.os, k1.tape.trans h1.tape, k1.output.trans h1.output, Nat.le_trans h1.size k1.size, fun i hi hne => ?_⟩, ?_⟩
  · have q : some i ≠ v1.ownBlock := by
      rcases h2 with h2 | ⟨j, h2, h3⟩
      · rw [h2]; exact hne
      · rw [h2]; intro e; cases e; omega
    exact (k1.block i (Nat.lt_of_lt_of_le hi h1.size) q).trans (h1.block i hi hne)
  · rcases k2 with k2 | ⟨j, k2, k3⟩
    · rcases h2 with h2 | ⟨j, h2, h3⟩
      · exact .inl (k2.trans h2)
      · exact .inr ⟨j, k2.trans h2, h3⟩
    · exact .inr ⟨j, k2, Nat.le_trans h1.size k3⟩
theorem Gr.alloc {w w' : World} {v v' : Value} (o : Obj) (h : Gr (w.alloc o) w' v v') (hv : ∀ k, v.ownBlock = some k → k < w.heap.size) : Gr w w' v v' := by
  obtain ⟨h1, h2⟩ := h
  refine ⟨⟨h1.os, h1.tape, h1.output, Nat.le_trans (by simp) h1.size, fun i hi hne => ?_⟩, ?_⟩
  · exact (h1.block i (by simp; omega) hne).trans (Below.heap_alloc w o i hi)
  · rcases h2 with h2 | ⟨j, h2, h3⟩
    · exact .inl h2
    · exact .inr ⟨j, h2, Nat.le_trans (by simp) h3⟩

theorem Gr.step {w w2 : World} {v : Value} {n m cap g : Nat} {xs : List Value} {o : Obj} {e : TypeId} (own : w.ownsRow 0 e 1 v n xs) (hg2 : (w.alloc o).grownBy w2 v.ownBlock) (hgg : v.ownBlock = some g ∨ g = (w.alloc o).heap.size) : Gr w w2 v (.slice (some ⟨g, 0, none⟩) m cap) := by
  refine Gr.alloc o ⟨hg2, ?_⟩ (fun k hk => (own.lt k hk).2)
  rcases hgg with h | h
  · exact .inl h.symm
  · exact .inr ⟨g, rfl, by rw [h]; exact Nat.le_refl _⟩
theorem info5 : (Try.prog.info? 5).map (fun i => (i.zero, i.size, i.bytes)) = some (some (.int .u8 0), 1, 1) := by kernel_rfl

set_option maxRecDepth 100000 in
set_option maxHeartbeats 2000000 in
theorem highest_c (v : Value) (bs : List Nat) (n x : Nat) (w : World) (hx : x < 18446744073709551616) (hn : n ≤ 8) (hl : bs.length ≤ 1099511627776) (own : w.ownsRow 0 5 1 v bs.length (bs.map (fun (b : Nat) => Value.int .u8 (b : Int)))) : Calls Try.prog 49 #[v, .int .i64 (n : Int), .int .u64 (x : Int)] w (fun e w' => ∃ v', e = .returned v' ∧ w'.ownsRow 0 5 1 v' (bs.length + n) ((bs ++ hi n x).map (fun (b : Nat) => Value.int .u8 (b : Int))) ∧ Gr w w' v v') := by
  obtain ⟨i0, hi0, hz0, hz1, hz2⟩ := info_parts info5
  have Hown0 := hide own
  clear own
  go_enter Try.func49, Try.ntmps49
  go_wp2
  go_loopw [0, 1] (fun v0 v1 wr => ∃ (k : Nat) (os : List Nat), k ≤ n ∧ v1 = .int .i64 ((k : Int) - 1) ∧ bs ++ hi n x = os ++ hi k x ∧ wr.ownsRow 0 5 1 v0 os.length (os.map (fun (b : Nat) => Value.int .u8 (b : Int))) ∧ Gr w wr v v0) (fun _ v1 _ => (intOf v1 + 1).toNat)
  case atStart => exact ⟨n, bs, Nat.le_refl _, by go_num, rfl, Hown0.out, Gr.refl _ _⟩
  case round =>
    obtain ⟨k, os, hk, rfl, he, own, gr⟩ := hrel
    have hol : bs.length + n = os.length + k := by (have q := congrArg List.length he; simp only [List.length_append, hi_length] at q; exact q)
    have He := hide he
    have Hown := hide own
    have HGr := hide gr
    have HL := hide (show os.length ≤ 1099511627776 + 8 from by omega)
    clear he own gr hol
    by_cases h0 : k = 0
    · subst h0
      go_wp2
      go_ret
      have e : bs ++ hi n x = os := by (rw [He.out]; simp [hi])
      have el : bs.length + n = os.length := by (rw [← e, List.length_append, hi_length])
      exact ⟨_, rfl, by (rw [el, e]; exact Hown.out), HGr.out⟩
    · have hk1 : k = 1 ∨ k = 2 ∨ k = 3 ∨ k = 4 ∨ k = 5 ∨ k = 6 ∨ k = 7 ∨ k = 8 := by omega
      rcases hk1 with rfl | rfl | rfl | rfl | rfl | rfl | rfl | rfl
      · have hlast : hi 1 x = (x / 256 ^ 0 % 256) :: hi 0 x := rfl
        have HE := hide (show bs ++ hi n x = (os ++ [x / 256 ^ 0 % 256]) ++ hi 0 x from by (rw [He.out, hlast]; simp))
        clear hlast He
        go_wp2_with (at_builtin; refine wpList_append_lies _ rfl (.tmp 13) (.tmp 19) 28 rfl 0 5 i0 (.int .u8 0) 1 1 Try.underlying28 hi0 hz0 hz1 hz2 rfl (by decide) _ os.length (os.map (fun (b : Nat) => Value.int .u8 (b : Int))) rfl (Hown.out.alloc _) ⟨wr.heap.size, 0, none⟩ 1 1 [.int .u8 _] rfl rfl (cell_one_new _ _ _) (by intro u hu; simp at hu; subst hu; rfl) (by decide) (by unfold maxLen; have := HL.out; omega) (by have := HL.out; omega) (Nat.zero_le _) _ rfl ?_; intro g cap w2 hown2 hg2 hgg hgl)
        have own2 : w2.ownsRow 0 5 1 (.slice (some ⟨g, 0, none⟩) (os.length + 1) cap) (os ++ [x / 256 ^ 0 % 256]).length ((os ++ [x / 256 ^ 0 % 256]).map (fun (b : Nat) => Value.int .u8 (b : Int))) := by
          rw [List.length_append, List.map_append]
          first | (simpa using hown2) | (simpa [show ((x : Int) / 72057594037927936 % 256) = (x : Int) / 72057594037927936 from by omega] using hown2)
        refine ⟨⟨0, os ++ [x / 256 ^ 0 % 256], by omega, by go_num, HE.out, own2, HGr.out.trans (Gr.step Hown.out hg2 hgg)⟩, by first | (simp [intOf]; done) | (simp [intOf]; omega)⟩
      · have hlast : hi 2 x = (x / 256 ^ 1 % 256) :: hi 1 x := rfl
        have HE := hide (show bs ++ hi n x = (os ++ [x / 256 ^ 1 % 256]) ++ hi 1 x from by (rw [He.out, hlast]; simp))
        clear hlast He
        go_wp2_with (at_builtin; refine wpList_append_lies _ rfl (.tmp 13) (.tmp 19) 28 rfl 0 5 i0 (.int .u8 0) 1 1 Try.underlying28 hi0 hz0 hz1 hz2 rfl (by decide) _ os.length (os.map (fun (b : Nat) => Value.int .u8 (b : Int))) rfl (Hown.out.alloc _) ⟨wr.heap.size, 0, none⟩ 1 1 [.int .u8 _] rfl rfl (cell_one_new _ _ _) (by intro u hu; simp at hu; subst hu; rfl) (by decide) (by unfold maxLen; have := HL.out; omega) (by have := HL.out; omega) (Nat.zero_le _) _ rfl ?_; intro g cap w2 hown2 hg2 hgg hgl)
        have own2 : w2.ownsRow 0 5 1 (.slice (some ⟨g, 0, none⟩) (os.length + 1) cap) (os ++ [x / 256 ^ 1 % 256]).length ((os ++ [x / 256 ^ 1 % 256]).map (fun (b : Nat) => Value.int .u8 (b : Int))) := by
          rw [List.length_append, List.map_append]
          first | (simpa using hown2) | (simpa [show ((x : Int) / 72057594037927936 % 256) = (x : Int) / 72057594037927936 from by omega] using hown2)
        refine ⟨⟨1, os ++ [x / 256 ^ 1 % 256], by omega, by go_num, HE.out, own2, HGr.out.trans (Gr.step Hown.out hg2 hgg)⟩, by first | (simp [intOf]; done) | (simp [intOf]; omega)⟩
      · have hlast : hi 3 x = (x / 256 ^ 2 % 256) :: hi 2 x := rfl
        have HE := hide (show bs ++ hi n x = (os ++ [x / 256 ^ 2 % 256]) ++ hi 2 x from by (rw [He.out, hlast]; simp))
        clear hlast He
        go_wp2_with (at_builtin; refine wpList_append_lies _ rfl (.tmp 13) (.tmp 19) 28 rfl 0 5 i0 (.int .u8 0) 1 1 Try.underlying28 hi0 hz0 hz1 hz2 rfl (by decide) _ os.length (os.map (fun (b : Nat) => Value.int .u8 (b : Int))) rfl (Hown.out.alloc _) ⟨wr.heap.size, 0, none⟩ 1 1 [.int .u8 _] rfl rfl (cell_one_new _ _ _) (by intro u hu; simp at hu; subst hu; rfl) (by decide) (by unfold maxLen; have := HL.out; omega) (by have := HL.out; omega) (Nat.zero_le _) _ rfl ?_; intro g cap w2 hown2 hg2 hgg hgl)
        have own2 : w2.ownsRow 0 5 1 (.slice (some ⟨g, 0, none⟩) (os.length + 1) cap) (os ++ [x / 256 ^ 2 % 256]).length ((os ++ [x / 256 ^ 2 % 256]).map (fun (b : Nat) => Value.int .u8 (b : Int))) := by
          rw [List.length_append, List.map_append]
          first | (simpa using hown2) | (simpa [show ((x : Int) / 72057594037927936 % 256) = (x : Int) / 72057594037927936 from by omega] using hown2)
        refine ⟨⟨2, os ++ [x / 256 ^ 2 % 256], by omega, by go_num, HE.out, own2, HGr.out.trans (Gr.step Hown.out hg2 hgg)⟩, by first | (simp [intOf]; done) | (simp [intOf]; omega)⟩
      · have hlast : hi 4 x = (x / 256 ^ 3 % 256) :: hi 3 x := rfl
        have HE := hide (show bs ++ hi n x = (os ++ [x / 256 ^ 3 % 256]) ++ hi 3 x from by (rw [He.out, hlast]; simp))
        clear hlast He
        go_wp2_with (at_builtin; refine wpList_append_lies _ rfl (.tmp 13) (.tmp 19) 28 rfl 0 5 i0 (.int .u8 0) 1 1 Try.underlying28 hi0 hz0 hz1 hz2 rfl (by decide) _ os.length (os.map (fun (b : Nat) => Value.int .u8 (b : Int))) rfl (Hown.out.alloc _) ⟨wr.heap.size, 0, none⟩ 1 1 [.int .u8 _] rfl rfl (cell_one_new _ _ _) (by intro u hu; simp at hu; subst hu; rfl) (by decide) (by unfold maxLen; have := HL.out; omega) (by have := HL.out; omega) (Nat.zero_le _) _ rfl ?_; intro g cap w2 hown2 hg2 hgg hgl)
        have own2 : w2.ownsRow 0 5 1 (.slice (some ⟨g, 0, none⟩) (os.length + 1) cap) (os ++ [x / 256 ^ 3 % 256]).length ((os ++ [x / 256 ^ 3 % 256]).map (fun (b : Nat) => Value.int .u8 (b : Int))) := by
          rw [List.length_append, List.map_append]
          first | (simpa using hown2) | (simpa [show ((x : Int) / 72057594037927936 % 256) = (x : Int) / 72057594037927936 from by omega] using hown2)
        refine ⟨⟨3, os ++ [x / 256 ^ 3 % 256], by omega, by go_num, HE.out, own2, HGr.out.trans (Gr.step Hown.out hg2 hgg)⟩, by first | (simp [intOf]; done) | (simp [intOf]; omega)⟩
      · have hlast : hi 5 x = (x / 256 ^ 4 % 256) :: hi 4 x := rfl
        have HE := hide (show bs ++ hi n x = (os ++ [x / 256 ^ 4 % 256]) ++ hi 4 x from by (rw [He.out, hlast]; simp))
        clear hlast He
        go_wp2_with (at_builtin; refine wpList_append_lies _ rfl (.tmp 13) (.tmp 19) 28 rfl 0 5 i0 (.int .u8 0) 1 1 Try.underlying28 hi0 hz0 hz1 hz2 rfl (by decide) _ os.length (os.map (fun (b : Nat) => Value.int .u8 (b : Int))) rfl (Hown.out.alloc _) ⟨wr.heap.size, 0, none⟩ 1 1 [.int .u8 _] rfl rfl (cell_one_new _ _ _) (by intro u hu; simp at hu; subst hu; rfl) (by decide) (by unfold maxLen; have := HL.out; omega) (by have := HL.out; omega) (Nat.zero_le _) _ rfl ?_; intro g cap w2 hown2 hg2 hgg hgl)
        have own2 : w2.ownsRow 0 5 1 (.slice (some ⟨g, 0, none⟩) (os.length + 1) cap) (os ++ [x / 256 ^ 4 % 256]).length ((os ++ [x / 256 ^ 4 % 256]).map (fun (b : Nat) => Value.int .u8 (b : Int))) := by
          rw [List.length_append, List.map_append]
          first | (simpa using hown2) | (simpa [show ((x : Int) / 72057594037927936 % 256) = (x : Int) / 72057594037927936 from by omega] using hown2)
        refine ⟨⟨4, os ++ [x / 256 ^ 4 % 256], by omega, by go_num, HE.out, own2, HGr.out.trans (Gr.step Hown.out hg2 hgg)⟩, by first | (simp [intOf]; done) | (simp [intOf]; omega)⟩
      · have hlast : hi 6 x = (x / 256 ^ 5 % 256) :: hi 5 x := rfl
        have HE := hide (show bs ++ hi n x = (os ++ [x / 256 ^ 5 % 256]) ++ hi 5 x from by (rw [He.out, hlast]; simp))
        clear hlast He
        go_wp2_with (at_builtin; refine wpList_append_lies _ rfl (.tmp 13) (.tmp 19) 28 rfl 0 5 i0 (.int .u8 0) 1 1 Try.underlying28 hi0 hz0 hz1 hz2 rfl (by decide) _ os.length (os.map (fun (b : Nat) => Value.int .u8 (b : Int))) rfl (Hown.out.alloc _) ⟨wr.heap.size, 0, none⟩ 1 1 [.int .u8 _] rfl rfl (cell_one_new _ _ _) (by intro u hu; simp at hu; subst hu; rfl) (by decide) (by unfold maxLen; have := HL.out; omega) (by have := HL.out; omega) (Nat.zero_le _) _ rfl ?_; intro g cap w2 hown2 hg2 hgg hgl)
        have own2 : w2.ownsRow 0 5 1 (.slice (some ⟨g, 0, none⟩) (os.length + 1) cap) (os ++ [x / 256 ^ 5 % 256]).length ((os ++ [x / 256 ^ 5 % 256]).map (fun (b : Nat) => Value.int .u8 (b : Int))) := by
          rw [List.length_append, List.map_append]
          first | (simpa using hown2) | (simpa [show ((x : Int) / 72057594037927936 % 256) = (x : Int) / 72057594037927936 from by omega] using hown2)
        refine ⟨⟨5, os ++ [x / 256 ^ 5 % 256], by omega, by go_num, HE.out, own2, HGr.out.trans (Gr.step Hown.out hg2 hgg)⟩, by first | (simp [intOf]; done) | (simp [intOf]; omega)⟩
      · have hlast : hi 7 x = (x / 256 ^ 6 % 256) :: hi 6 x := rfl
        have HE := hide (show bs ++ hi n x = (os ++ [x / 256 ^ 6 % 256]) ++ hi 6 x from by (rw [He.out, hlast]; simp))
        clear hlast He
        go_wp2_with (at_builtin; refine wpList_append_lies _ rfl (.tmp 13) (.tmp 19) 28 rfl 0 5 i0 (.int .u8 0) 1 1 Try.underlying28 hi0 hz0 hz1 hz2 rfl (by decide) _ os.length (os.map (fun (b : Nat) => Value.int .u8 (b : Int))) rfl (Hown.out.alloc _) ⟨wr.heap.size, 0, none⟩ 1 1 [.int .u8 _] rfl rfl (cell_one_new _ _ _) (by intro u hu; simp at hu; subst hu; rfl) (by decide) (by unfold maxLen; have := HL.out; omega) (by have := HL.out; omega) (Nat.zero_le _) _ rfl ?_; intro g cap w2 hown2 hg2 hgg hgl)
        have own2 : w2.ownsRow 0 5 1 (.slice (some ⟨g, 0, none⟩) (os.length + 1) cap) (os ++ [x / 256 ^ 6 % 256]).length ((os ++ [x / 256 ^ 6 % 256]).map (fun (b : Nat) => Value.int .u8 (b : Int))) := by
          rw [List.length_append, List.map_append]
          first | (simpa using hown2) | (simpa [show ((x : Int) / 72057594037927936 % 256) = (x : Int) / 72057594037927936 from by omega] using hown2)
        refine ⟨⟨6, os ++ [x / 256 ^ 6 % 256], by omega, by go_num, HE.out, own2, HGr.out.trans (Gr.step Hown.out hg2 hgg)⟩, by first | (simp [intOf]; done) | (simp [intOf]; omega)⟩
      · have hlast : hi 8 x = (x / 256 ^ 7 % 256) :: hi 7 x := rfl
        have HE := hide (show bs ++ hi n x = (os ++ [x / 256 ^ 7 % 256]) ++ hi 7 x from by (rw [He.out, hlast]; simp))
        clear hlast He
        go_wp2_with (at_builtin; refine wpList_append_lies _ rfl (.tmp 13) (.tmp 19) 28 rfl 0 5 i0 (.int .u8 0) 1 1 Try.underlying28 hi0 hz0 hz1 hz2 rfl (by decide) _ os.length (os.map (fun (b : Nat) => Value.int .u8 (b : Int))) rfl (Hown.out.alloc _) ⟨wr.heap.size, 0, none⟩ 1 1 [.int .u8 _] rfl rfl (cell_one_new _ _ _) (by intro u hu; simp at hu; subst hu; rfl) (by decide) (by unfold maxLen; have := HL.out; omega) (by have := HL.out; omega) (Nat.zero_le _) _ rfl ?_; intro g cap w2 hown2 hg2 hgg hgl)
        have own2 : w2.ownsRow 0 5 1 (.slice (some ⟨g, 0, none⟩) (os.length + 1) cap) (os ++ [x / 256 ^ 7 % 256]).length ((os ++ [x / 256 ^ 7 % 256]).map (fun (b : Nat) => Value.int .u8 (b : Int))) := by
          rw [List.length_append, List.map_append]
          first | (simpa using hown2) | (simpa [show ((x : Int) / 72057594037927936 % 256) = (x : Int) / 72057594037927936 from by omega] using hown2)
        refine ⟨⟨7, os ++ [x / 256 ^ 7 % 256], by omega, by go_num, HE.out, own2, HGr.out.trans (Gr.step Hown.out hg2 hgg)⟩, by first | (simp [intOf]; done) | (simp [intOf]; omega)⟩
end Go.Proofs.Ytajkgecegefnmaa
