import Derived.Test.YtajkgecegefnmaaT6
namespace Go.Proofs.Ytajkgecegefnmaa
open Go.ChangeShapes Go.WideShapes Go.ChangeAt Go.RowKit Go.Deep
set_option linter.unusedSimpArgs false
set_option linter.unusedVariables false

theorem eql28 (a : Addr) (n cap : Nat) (w : World) : Sem.run Try.prog (binOp .eql 28 (.slice (some a) n cap) (.slice none 0 0)) w = .ok (.bool false) w := by kernel_rfl
theorem eql28n (w : World) : Sem.run Try.prog (binOp .eql 28 (.slice none 0 0) (.slice none 0 0)) w = .ok (.bool true) w := by kernel_rfl
theorem made0_5 (w : World) : (w.alloc (.cells #[] 5)).ownsRow 0 5 1 (.slice (some ⟨w.heap.size, 0, none⟩) 0 0) 0 [] :=
  ⟨rfl, .inr ⟨_, 0, #[], rfl, Nat.zero_le _, heap_new _ _, by decide, by decide, rfl, rfl⟩⟩

set_option maxRecDepth 100000 in
set_option maxHeartbeats 2000000 in
theorem Clone8_c (ns : List Nat) (b off cap : Nat) (w : World) (hm : 0 < ns.length) (hl : ns.length * 1 ≤ 140737488351232) (hb : ∀ j, j < ns.length → w.cell? ⟨b, off + j, none⟩ = some (.int .u8 (ns.getD j 0 : Int))) (hbz : b < w.heap.size) : Calls Try.prog 50 #[.slice (some ⟨b, off, none⟩) ns.length cap] w (fun e w' => ∃ g2 cap2, e = .returned (.slice (some ⟨g2, 0, none⟩) ns.length cap2) ∧ w.heap.size ≤ g2 ∧ w'.ownsRow 0 5 1 (.slice (some ⟨g2, 0, none⟩) ns.length cap2) ns.length (ns.map (fun (b : Nat) => Value.int .u8 (b : Int))) ∧ Below w.heap.size w w') := by
  obtain ⟨i0, hi0, hz0, hz1, hz2⟩ := info_parts info5
  have Hn := hide (show ∀ j u, (ns.map (fun (b : Nat) => Value.int .u8 (b : Int)))[j]? = some u → (w.alloc (.cells #[] 5)).cell? ((⟨b, off, none⟩ : Addr).add j) = some u from fun j u hu => by
    rw [List.getElem?_map] at hu
    cases e : ns[j]? with
    | none => rw [e] at hu; cases hu
    | some x =>
      rw [e] at hu
      have hj : j < ns.length := (List.getElem?_eq_some_iff.1 e).1
      have q := hb j hj
      have ha : (⟨b, off, none⟩ : Addr).add j = ⟨b, off + j, none⟩ := by
        unfold Addr.add
        split
        · (rename_i h; subst h; rfl)
        · rfl
      rw [ha, World.cell?_alloc_past _ _ _ (by first | omega | (simp; omega)), q, ← hu]
      simp [List.getD, e])
  have HO := hide (show ∀ u ∈ ns.map (fun (b : Nat) => Value.int .u8 (b : Int)), u.oneCell' = true from fun u hu => by obtain ⟨x, _, rfl⟩ := List.mem_map.1 hu; rfl)
  have Q := eql28
  clear hb
  go_enter Try.func50, Try.ntmps50
  go_wp2_with (at_builtin; refine wpList_append_lies _ rfl (.tmp 5) (.tmp 6) 28 rfl 0 5 i0 (.int .u8 0) 1 1 Try.underlying28 hi0 hz0 hz1 hz2 rfl (by decide) _ 0 [] rfl (made0_5 w) ⟨b, off, none⟩ ns.length cap (ns.map (fun (b : Nat) => Value.int .u8 (b : Int))) rfl (by simp) Hn.out HO.out hm (by unfold maxLen; omega) (by omega) (Nat.zero_le _) _ rfl ?_; intro g2 cap2 wn hown2 hg2 hgg hgl)
  go_ret
  have own2 : wn.ownsRow 0 5 1 (.slice (some ⟨g2, 0, none⟩) ns.length cap2) ns.length (ns.map (fun (b : Nat) => Value.int .u8 (b : Int))) := by simpa using hown2
  have hbel : Below w.heap.size w wn := by
    refine ((Below.refl w.heap.size w).alloc (Nat.le_refl _) (.cells #[] 5)).grown hg2 (by simp) (fun k hk => ?_)
    have q' : w.heap.size = k := Option.some.inj hk
    omega
  have hz0' : 0 + ns.length = ns.length := Nat.zero_add _
  refine ⟨g2, cap2, by first | rfl | (rw [← hz0']; rfl) | (simp; done), ?_, own2, hbel⟩
  rcases hgg with q | q
  · have q' : w.heap.size = g2 := Option.some.inj q
    omega
  · have q' : g2 = w.heap.size + 1 := by simpa using q
    omega

theorem eql57 (a : Addr) (n cap : Nat) (w : World) : Sem.run Try.prog (binOp .eql 57 (.slice (some a) n cap) (.slice none 0 0)) w = .ok (.bool false) w := by kernel_rfl
theorem eql57n (w : World) : Sem.run Try.prog (binOp .eql 57 (.slice none 0 0) (.slice none 0 0)) w = .ok (.bool true) w := by kernel_rfl
theorem made0_22 (w : World) : (w.alloc (.cells #[] 22)).ownsRow 0 22 1 (.slice (some ⟨w.heap.size, 0, none⟩) 0 0) 0 [] :=
  ⟨rfl, .inr ⟨_, 0, #[], rfl, Nat.zero_le _, heap_new _ _, by decide, by decide, rfl, rfl⟩⟩
theorem info22 : (Try.prog.info? 22).map (fun i => (i.zero, i.size, i.bytes)) = some (some (.int .u64 0), 1, 8) := by kernel_rfl

set_option maxRecDepth 100000 in
set_option maxHeartbeats 2000000 in
theorem Clone64_c (ns : List Nat) (b off cap : Nat) (w : World) (hm : 0 < ns.length) (hl : ns.length * 8 ≤ 140737488351232) (hb : ∀ j, j < ns.length → w.cell? ⟨b, off + j, none⟩ = some (.int .u64 (ns.getD j 0 : Int))) (hbz : b < w.heap.size) : Calls Try.prog 70 #[.slice (some ⟨b, off, none⟩) ns.length cap] w (fun e w' => ∃ g2 cap2, e = .returned (.slice (some ⟨g2, 0, none⟩) ns.length cap2) ∧ w.heap.size ≤ g2 ∧ w'.ownsRow 0 22 1 (.slice (some ⟨g2, 0, none⟩) ns.length cap2) ns.length (ns.map (fun (b : Nat) => Value.int .u64 (b : Int))) ∧ Below w.heap.size w w') := by
  obtain ⟨i0, hi0, hz0, hz1, hz2⟩ := info_parts info22
  have Hn := hide (show ∀ j u, (ns.map (fun (b : Nat) => Value.int .u64 (b : Int)))[j]? = some u → (w.alloc (.cells #[] 22)).cell? ((⟨b, off, none⟩ : Addr).add j) = some u from fun j u hu => by
    rw [List.getElem?_map] at hu
    cases e : ns[j]? with
    | none => rw [e] at hu; cases hu
    | some x =>
      rw [e] at hu
      have hj : j < ns.length := (List.getElem?_eq_some_iff.1 e).1
      have q := hb j hj
      have ha : (⟨b, off, none⟩ : Addr).add j = ⟨b, off + j, none⟩ := by
        unfold Addr.add
        split
        · (rename_i h; subst h; rfl)
        · rfl
      rw [ha, World.cell?_alloc_past _ _ _ (by first | omega | (simp; omega)), q, ← hu]
      simp [List.getD, e])
  have HO := hide (show ∀ u ∈ ns.map (fun (b : Nat) => Value.int .u64 (b : Int)), u.oneCell' = true from fun u hu => by obtain ⟨x, _, rfl⟩ := List.mem_map.1 hu; rfl)
  have Q := eql57
  clear hb
  go_enter Try.func70, Try.ntmps70
  go_wp2_with (at_builtin; refine wpList_append_lies _ rfl (.tmp 5) (.tmp 6) 57 rfl 0 22 i0 (.int .u64 0) 1 8 Try.underlying57 hi0 hz0 hz1 hz2 rfl (by decide) _ 0 [] rfl (made0_22 w) ⟨b, off, none⟩ ns.length cap (ns.map (fun (b : Nat) => Value.int .u64 (b : Int))) rfl (by simp) Hn.out HO.out hm (by unfold maxLen; omega) (by omega) (Nat.zero_le _) _ rfl ?_; intro g2 cap2 wn hown2 hg2 hgg hgl)
  go_ret
  have own2 : wn.ownsRow 0 22 1 (.slice (some ⟨g2, 0, none⟩) ns.length cap2) ns.length (ns.map (fun (b : Nat) => Value.int .u64 (b : Int))) := by simpa using hown2
  have hbel : Below w.heap.size w wn := by
    refine ((Below.refl w.heap.size w).alloc (Nat.le_refl _) (.cells #[] 22)).grown hg2 (by simp) (fun k hk => ?_)
    have q' : w.heap.size = k := Option.some.inj hk
    omega
  have hz0' : 0 + ns.length = ns.length := Nat.zero_add _
  refine ⟨g2, cap2, by first | rfl | (rw [← hz0']; rfl) | (simp; done), ?_, own2, hbel⟩
  rcases hgg with q | q
  · have q' : w.heap.size = g2 := Option.some.inj q
    omega
  · have q' : g2 = w.heap.size + 1 := by simpa using q
    omega
end Go.Proofs.Ytajkgecegefnmaa
