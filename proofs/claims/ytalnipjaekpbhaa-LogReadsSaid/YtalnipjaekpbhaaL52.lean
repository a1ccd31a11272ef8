import Derived.Test.YtalnipjaekpbhaaL51
import Derived.Deep.CutBlock
import Derived.Great.BuildSlice
namespace Go.Proofs.Ytalnipjaekpbhaa
open Go.ChangeShapes Go.WideShapes Go.ChangeAt Go.RowKit Go.Deep
set_option linter.unusedSimpArgs false
set_option linter.unusedVariables false

theorem sameO_refl (o : Ord) : sameO o o = true := (sameO_iff o o).2 ⟨rfl, rfl, fun _ _ => rfl, rfl⟩
/-- an order in memory of its own, with a mark behind its offers -/
def Lent (w : World) (B g c : Nat) (o : Ord) : Prop := w.ownsRow B 93 2 (.slice (some ⟨g, 0, none⟩) (o.offs.length + 1) c) (o.offs.length + 1) (flatF (o.offs ++ [(0, -77)]))
theorem Lent.mark {w : World} {B g c : Nat} {o : Ord} (h : Lent w B g c o) : w.cell? ⟨g, o.offs.length * 2 + 1, none⟩ = some (.int .i64 (-77)) := by
  have q := h.cellAt (o.offs.length * 2 + 1) (by omega)
  rw [q]
  have r := (flatF_at (o.offs ++ [(0, -77)]) o.offs.length (by simp)).2
  rw [r]
  simp [List.getD_eq_getElem?_getD]
theorem Lent.in_ {w : World} {B g c : Nat} {o : Ord} (h : Lent w B g c o) (h32 : ∀ x ∈ o.offs, x.1 < 4294967296) (hl : o.offs.length ≤ 4398046511104) : OffsIn w (.slice (some ⟨g, 0, none⟩) o.offs.length c) o.offs := by
  refine ⟨⟨_, _, rfl⟩, fun j hj => ⟨g, 0, c, rfl, ?_⟩, h32, hl, fun n c e => by cases e⟩
  have hj2 : j < (o.offs ++ [((0 : Nat), (-77 : Int))]).length := by simp; omega
  have q := flatF_at (o.offs ++ [(0, -77)]) j hj2
  have e : (o.offs ++ [((0 : Nat), (-77 : Int))]).getD j (0, 0) = o.offs.getD j (0, 0) := by rw [List.getD_eq_getElem?_getD, List.getD_eq_getElem?_getD, List.getElem?_append_left hj]
  rw [e] at q
  exact ⟨by rw [Nat.zero_add, h.cellAt (j * 2) (by omega)]; exact q.1, by rw [Nat.zero_add, h.cellAt (j * 2 + 1) (by omega)]; exact q.2⟩
theorem Lent.below {w w' : World} {B g c : Nat} {o : Ord} (h : Lent w B g c o) (hb : Below w.heap.size w w') : Lent w' B g c o := own_below h hb
set_option maxRecDepth 100000 in
set_option maxHeartbeats 4000000 in
theorem kept_c (o : Ord) (g c B : Nat) (ov : Value) (w : World) (hm : Lent w B g c o) (ho : OffsIn w ov o.offs) (hs : o.offs.length ≤ 100) : Calls Try.prog 17 #[.agg (ordCells o (.slice (some ⟨g, 0, none⟩) o.offs.length c)).toArray, .agg (ordCells o ov).toArray] w fun e w' => e = .returned (.bool true) ∧ Below w.heap.size w w' := by
  obtain ⟨p, cp, e⟩ := ho.val
  subst e
  obtain ⟨W, hW⟩ : ∃ W, W = (w.alloc (.cells (ordCells o (.slice (some ⟨g, 0, none⟩) o.offs.length c)).toArray 29)).alloc (.cells (ordCells o (.slice p o.offs.length cp)).toArray 29) := ⟨_, rfl⟩
  obtain ⟨M, hM⟩ : ∃ O, O = w.heap.size := ⟨_, rfl⟩
  obtain ⟨O, hO⟩ : ∃ O, O = w.heap.size + 1 := ⟨_, rfl⟩
  have q1 : Below w.heap.size w (w.alloc (.cells (ordCells o (.slice (some ⟨g, 0, none⟩) o.offs.length c)).toArray 29)) := (Below.refl _ _).alloc (Nat.le_refl _) _
  have hb0 : Below w.heap.size w W := by rw [hW]; exact q1.alloc q1.size _
  have bx : BoxO W M o (.slice (some ⟨g, 0, none⟩) o.offs.length c) := by rw [hW, hM]; exact (box_made w o _).below ((Below.refl _ _).alloc (Nat.le_refl _) _)
  have bz : BoxO W O o (.slice p o.offs.length cp) := by
    rw [hW, hO]
    have q := box_made (w.alloc (.cells (ordCells o (.slice (some ⟨g, 0, none⟩) o.offs.length c)).toArray 29)) o (.slice p o.offs.length cp)
    rw [World.size_alloc] at q
    exact q
  have hcap := own_cap hm
  have HB0 := hide hb0
  have SK := hide (fun (wq : World) (h : Below W.heap.size W wq) => (show wq.rangeAt M 0 (ordCells o (.slice (some ⟨g, 0, none⟩) o.offs.length c)) ∧ wq.rangeAt O 0 (ordCells o (.slice p o.offs.length cp)) ∧ wq.cell? ⟨M, 16, none⟩ = some (.slice (some ⟨g, 0, none⟩) o.offs.length c) ∧ wq.cell? ⟨O, 16, none⟩ = some (.slice p o.offs.length cp) ∧ wq.cell? ⟨g, o.offs.length * 2 + 1, none⟩ = some (.int .i64 (-77)) from ⟨(bx.below h).range, (bz.below h).range, (bx.below h).c 16 (by decide), (bz.below h).c 16 (by decide), ((hm.below hb0).below h).mark⟩))
  have h32 := ho.g32
  have hl4 := ho.len
  have C21 := hide (fun (wq : World) (h : Below W.heap.size W wq) => (show Calls Try.prog 21 #[.agg (ordCells o (.slice (some ⟨g, 0, none⟩) o.offs.length c)).toArray, .agg (ordCells o (.slice p o.offs.length cp)).toArray] wq (fun e w' => e = .returned (.bool true) ∧ Below wq.heap.size wq w') from by
    have q := Same_c o o (.slice (some ⟨g, 0, none⟩) o.offs.length c) (.slice p o.offs.length cp) wq (((hm.below hb0).below h).in_ h32 hl4) ((ho.below hb0).below h)
    rw [sameO_refl] at q; exact q))
  have HW := hide hW
  clear q1 hb0 bx bz ho hW hm h32 hl4
  have h1 : (o.offs.length : Int) + 1 ≤ (c : Int) := by omega
  have h2 : (0 : Int) ≤ (o.offs.length : Int) + 1 := by omega
  have h3 : IntKind.i64.wrap ((o.offs.length : Int) + 1) = (o.offs.length : Int) + 1 := by simp [IntKind.wrap, IntKind.bits, IntKind.signed]; omega
  have h4 : (o.offs.length : Int) < (o.offs.length : Int) + 1 := by omega
  go_enter Try.func17, Try.ntmps17
  go_upto_region 1 with fail
  rw [← HW.out, ← hO, ← hM]
  clear hM hO
  refine wp_regionX (fun wq => wq.rangeAt M 0 (ordCells o (.slice (some ⟨g, 0, none⟩) o.offs.length c)) ∧ wq.rangeAt O 0 (ordCells o (.slice p o.offs.length cp)) ∧ wq.cell? ⟨M, 16, none⟩ = some (.slice (some ⟨g, 0, none⟩) o.offs.length c) ∧ wq.cell? ⟨O, 16, none⟩ = some (.slice p o.offs.length cp) ∧ wq.cell? ⟨g, o.offs.length * 2 + 1, none⟩ = some (.int .i64 (-77))) (fun n => true) (by kernel_rfl) (SK.out _ (drewB _)) (fun hH0 => ?_)
  refine wpAnyX_take (i := 0) (oi := ?oi0) (v := ?v0) ?ho0 (by kernel_rfl) (by kernel_rfl) (by kernel_rfl) (by kernel_rfl) ?hp0 ?hy0 hH0 ?hr0
  case ho0 => (simp only [List.getElem?_toArray, List.getElem?_cons_succ, List.getElem?_cons_zero]; exact rfl)
  case hp0 => exact fun _ _ _ h => h
  case hy0 =>
    refine yieldsIf_load_mid ?_ 29 (.tmp 2) ?_ M 0 ?_ (ordCells o (.slice (some ⟨g, 0, none⟩) o.offs.length c)) _ ?_ Try.underlying29 ?_ ?_
    · rfl
    · exact rfl
    · exact rfl
    · exact (fun _ h => h.1)
    · rfl
    · rw [ordCells_len]; kernel_rfl
  case hr0 =>
  (try simp only [Act.put, List.setIfInBounds_toArray, List.set_cons_zero, List.set_cons_succ])
  refine wpAnyX_take (i := 1) (oi := ?oi1) (v := ?v1) ?ho1 (by kernel_rfl) (by kernel_rfl) (by kernel_rfl) (by kernel_rfl) ?hp1 ?hy1 hH0 ?hr1
  case ho1 => (simp only [List.getElem?_toArray, List.getElem?_cons_succ, List.getElem?_cons_zero]; exact rfl)
  case hp1 => exact fun _ _ _ h => h
  case hy1 =>
    refine yieldsIf_load_mid ?_ 29 (.tmp 3) ?_ O 0 ?_ (ordCells o (.slice p o.offs.length cp)) _ ?_ Try.underlying29 ?_ ?_
    · rfl
    · exact rfl
    · exact rfl
    · exact (fun _ h => h.2.1)
    · rfl
    · rw [ordCells_len]; kernel_rfl
  case hr1 =>
  (try simp only [Act.put, List.setIfInBounds_toArray, List.set_cons_zero, List.set_cons_succ])
  refine wpAnyX_pick (rs := [2]) (by kernel_rfl) (by simp) (AllX.cons (o := ?oi2) ?ho2 (fun K hK => ?hr2) (AllX.nil))
  case ho2 => (simp only [List.getElem?_toArray, List.getElem?_cons_succ, List.getElem?_cons_zero]; exact rfl)
  case hr2 =>
    go_simp
    refine (C21.out _ (drewB _)).mono ?_
    rintro e w2 ⟨rfl, hb2⟩
    have HB2 := hide (bstep (drewB _) hb2)
    clear hb2
    refine hK.out _ _ (fun _ => SK.out _ HB2.out) ?_
    clear hK K
    (try simp only [Act.put, List.setIfInBounds_toArray, List.set_cons_zero, List.set_cons_succ])
    have hH1 := SK.out _ HB2.out
    refine wpAnyX_take (i := 3) (oi := ?oi3k) (v := ?v3k) ?ho3k (by kernel_rfl) (by kernel_rfl) (by kernel_rfl) (by kernel_rfl) ?hp3k ?hy3k hH1 ?hr3k
    case ho3k => (simp only [List.getElem?_toArray, List.getElem?_cons_succ, List.getElem?_cons_zero]; exact rfl)
    case hp3k => exact fun _ _ _ h => h
    case hy3k => (refine Or.inl ⟨by rfl, ?_⟩; intro w hSw; (try dsimp only at hSw); (try go_split_ands); go_simp; (try (with_reducible rfl)))
    case hr3k =>
    (try simp only [Act.put, List.setIfInBounds_toArray, List.set_cons_zero, List.set_cons_succ])
    refine wpAnyX_take (i := 4) (oi := ?oi4k) (v := ?v4k) ?ho4k (by kernel_rfl) (by kernel_rfl) (by kernel_rfl) (by kernel_rfl) ?hp4k ?hy4k hH1 ?hr4k
    case ho4k => (simp only [List.getElem?_toArray, List.getElem?_cons_succ, List.getElem?_cons_zero]; exact rfl)
    case hp4k => exact fun _ _ _ h => h
    case hy4k => (refine Or.inl ⟨by rfl, ?_⟩; intro w hSw; (try dsimp only at hSw); (try go_split_ands); go_simp; (try (with_reducible rfl)))
    case hr4k =>
    (try simp only [Act.put, List.setIfInBounds_toArray, List.set_cons_zero, List.set_cons_succ])
    refine wpAnyX_take (i := 5) (oi := ?oi5k) (v := ?v5k) ?ho5k (by kernel_rfl) (by kernel_rfl) (by kernel_rfl) (by kernel_rfl) ?hp5k ?hy5k hH1 ?hr5k
    case ho5k => (simp only [List.getElem?_toArray, List.getElem?_cons_succ, List.getElem?_cons_zero]; exact rfl)
    case hp5k => exact fun _ _ _ h => h
    case hy5k => (refine Or.inl ⟨by rfl, ?_⟩; intro w hSw; (try dsimp only at hSw); (try go_split_ands); go_simp; (try (with_reducible rfl)))
    case hr5k =>
    (try simp only [Act.put, List.setIfInBounds_toArray, List.set_cons_zero, List.set_cons_succ])
    refine wpAnyX_take (i := 6) (oi := ?oi6k) (v := ?v6k) ?ho6k (by kernel_rfl) (by kernel_rfl) (by kernel_rfl) (by kernel_rfl) ?hp6k ?hy6k hH1 ?hr6k
    case ho6k => (simp only [List.getElem?_toArray, List.getElem?_cons_succ, List.getElem?_cons_zero]; exact rfl)
    case hp6k => exact fun _ _ _ h => h
    case hy6k => (refine Or.inl ⟨by rfl, ?_⟩; intro w hSw; (try dsimp only at hSw); (try go_split_ands); go_simp; (try (with_reducible rfl)))
    case hr6k =>
    (try simp only [Act.put, List.setIfInBounds_toArray, List.set_cons_zero, List.set_cons_succ])
    refine wpAnyX_take (i := 7) (oi := ?oi7k) (v := ?v7k) ?ho7k (by kernel_rfl) (by kernel_rfl) (by kernel_rfl) (by kernel_rfl) ?hp7k ?hy7k hH1 ?hr7k
    case ho7k => (simp only [List.getElem?_toArray, List.getElem?_cons_succ, List.getElem?_cons_zero]; exact rfl)
    case hp7k => exact fun _ _ _ h => h
    case hy7k => (refine Or.inl ⟨by rfl, ?_⟩; intro w hSw; (try dsimp only at hSw); (try go_split_ands); go_simp; (try (with_reducible rfl)))
    case hr7k =>
    (try simp only [Act.put, List.setIfInBounds_toArray, List.set_cons_zero, List.set_cons_succ])
    refine wpAnyX_take (i := 8) (oi := ?oi8k) (v := ?v8k) ?ho8k (by kernel_rfl) (by kernel_rfl) (by kernel_rfl) (by kernel_rfl) ?hp8k ?hy8k hH1 ?hr8k
    case ho8k => (simp only [List.getElem?_toArray, List.getElem?_cons_succ, List.getElem?_cons_zero]; exact rfl)
    case hp8k => exact fun _ _ _ h => h
    case hy8k => (refine Or.inl ⟨by rfl, ?_⟩; intro w hSw; (try dsimp only at hSw); (try go_split_ands); go_simp; (try (with_reducible rfl)))
    case hr8k =>
    (try simp only [Act.put, List.setIfInBounds_toArray, List.set_cons_zero, List.set_cons_succ])
    refine wpAnyX_take (i := 9) (oi := ?oi9k) (v := ?v9k) ?ho9k (by kernel_rfl) (by kernel_rfl) (by kernel_rfl) (by kernel_rfl) ?hp9k ?hy9k hH1 ?hr9k
    case ho9k => (simp only [List.getElem?_toArray, List.getElem?_cons_succ, List.getElem?_cons_zero]; exact rfl)
    case hp9k => exact fun _ _ _ h => h
    case hy9k => (refine Or.inl ⟨by rfl, ?_⟩; intro w hSw; (try dsimp only at hSw); (try go_split_ands); go_simp; (try (with_reducible rfl)))
    case hr9k =>
    (try simp only [Act.put, List.setIfInBounds_toArray, List.set_cons_zero, List.set_cons_succ])
    refine wpAnyX_take (i := 10) (oi := ?oi10k) (v := ?v10k) ?ho10k (by kernel_rfl) (by kernel_rfl) (by kernel_rfl) (by kernel_rfl) ?hp10k ?hy10k hH1 ?hr10k
    case ho10k => (simp only [List.getElem?_toArray, List.getElem?_cons_succ, List.getElem?_cons_zero]; exact rfl)
    case hp10k => exact fun _ _ _ h => h
    case hy10k => (refine Or.inl ⟨by rfl, ?_⟩; intro w hSw; (try dsimp only at hSw); (try go_split_ands); go_simp; (try (with_reducible rfl)))
    case hr10k =>
    (try simp only [Act.put, List.setIfInBounds_toArray, List.set_cons_zero, List.set_cons_succ])
    refine wpAnyX_take (i := 11) (oi := ?oi11k) (v := ?v11k) ?ho11k (by kernel_rfl) (by kernel_rfl) (by kernel_rfl) (by kernel_rfl) ?hp11k ?hy11k hH1 ?hr11k
    case ho11k => (simp only [List.getElem?_toArray, List.getElem?_cons_succ, List.getElem?_cons_zero]; exact rfl)
    case hp11k => exact fun _ _ _ h => h
    case hy11k => (refine Or.inl ⟨by rfl, ?_⟩; intro w hSw; (try dsimp only at hSw); (try go_split_ands); go_simp; (try (with_reducible rfl)))
    case hr11k =>
    (try simp only [Act.put, List.setIfInBounds_toArray, List.set_cons_zero, List.set_cons_succ])
    refine wpAnyX_take (i := 12) (oi := ?oi12k) (v := ?v12k) ?ho12k (by kernel_rfl) (by kernel_rfl) (by kernel_rfl) (by kernel_rfl) ?hp12k ?hy12k hH1 ?hr12k
    case ho12k => (simp only [List.getElem?_toArray, List.getElem?_cons_succ, List.getElem?_cons_zero]; exact rfl)
    case hp12k => exact fun _ _ _ h => h
    case hy12k => (refine Or.inl ⟨by rfl, ?_⟩; intro w hSw; (try dsimp only at hSw); (try go_split_ands); go_simp; (try (with_reducible rfl)))
    case hr12k =>
    (try simp only [Act.put, List.setIfInBounds_toArray, List.set_cons_zero, List.set_cons_succ])
    refine wpAnyX_take (i := 13) (oi := ?oi13k) (v := ?v13k) ?ho13k (by kernel_rfl) (by kernel_rfl) (by kernel_rfl) (by kernel_rfl) ?hp13k ?hy13k hH1 ?hr13k
    case ho13k => (simp only [List.getElem?_toArray, List.getElem?_cons_succ, List.getElem?_cons_zero]; exact rfl)
    case hp13k => exact fun _ _ _ h => h
    case hy13k => (refine Or.inl ⟨by rfl, ?_⟩; intro w hSw; (try dsimp only at hSw); (try go_split_ands); go_simp; (try (with_reducible rfl)))
    case hr13k =>
    (try simp only [Act.put, List.setIfInBounds_toArray, List.set_cons_zero, List.set_cons_succ])
    refine wpAnyX_take (i := 14) (oi := ?oi14k) (v := ?v14k) ?ho14k (by kernel_rfl) (by kernel_rfl) (by kernel_rfl) (by kernel_rfl) ?hp14k ?hy14k hH1 ?hr14k
    case ho14k => (simp only [List.getElem?_toArray, List.getElem?_cons_succ, List.getElem?_cons_zero]; exact rfl)
    case hp14k => exact fun _ _ _ h => h
    case hy14k => (refine Or.inl ⟨by rfl, ?_⟩; intro w hSw; (try dsimp only at hSw); (try go_split_ands); go_simp; (try (with_reducible rfl)))
    case hr14k =>
    (try simp only [Act.put, List.setIfInBounds_toArray, List.set_cons_zero, List.set_cons_succ])
    refine wpAnyX_take (i := 15) (oi := ?oi15k) (v := ?v15k) ?ho15k (by kernel_rfl) (by kernel_rfl) (by kernel_rfl) (by kernel_rfl) ?hp15k ?hy15k hH1 ?hr15k
    case ho15k => (simp only [List.getElem?_toArray, List.getElem?_cons_succ, List.getElem?_cons_zero]; exact rfl)
    case hp15k => exact fun _ _ _ h => h
    case hy15k => (refine Or.inl ⟨by rfl, ?_⟩; intro w hSw; (try dsimp only at hSw); (try go_split_ands); go_simp; (try (with_reducible rfl)))
    case hr15k =>
    (try simp only [Act.put, List.setIfInBounds_toArray, List.set_cons_zero, List.set_cons_succ])
    refine wpAnyX_take (i := 16) (oi := ?oi16k) (v := ?v16k) ?ho16k (by kernel_rfl) (by kernel_rfl) (by kernel_rfl) (by kernel_rfl) ?hp16k ?hy16k hH1 ?hr16k
    case ho16k => (simp only [List.getElem?_toArray, List.getElem?_cons_succ, List.getElem?_cons_zero]; exact rfl)
    case hp16k => exact fun _ _ _ h => h
    case hy16k => (refine Or.inl ⟨by rfl, ?_⟩; intro w hSw; (try dsimp only at hSw); (try go_split_ands); go_simp; (try (with_reducible rfl)))
    case hr16k =>
    (try simp only [Act.put, List.setIfInBounds_toArray, List.set_cons_zero, List.set_cons_succ])
    refine wpAnyX_take (i := 17) (oi := ?oi17k) (v := ?v17k) ?ho17k (by kernel_rfl) (by kernel_rfl) (by kernel_rfl) (by kernel_rfl) ?hp17k ?hy17k hH1 ?hr17k
    case ho17k => (simp only [List.getElem?_toArray, List.getElem?_cons_succ, List.getElem?_cons_zero]; exact rfl)
    case hp17k => exact fun _ _ _ h => h
    case hy17k => (refine Or.inl ⟨by rfl, ?_⟩; intro w hSw; (try dsimp only at hSw); (try go_split_ands); go_simp; (try (with_reducible rfl)))
    case hr17k =>
    (try simp only [Act.put, List.setIfInBounds_toArray, List.set_cons_zero, List.set_cons_succ])
    refine wpAnyX_take (i := 18) (oi := ?oi18k) (v := ?v18k) ?ho18k (by kernel_rfl) (by kernel_rfl) (by kernel_rfl) (by kernel_rfl) ?hp18k ?hy18k hH1 ?hr18k
    case ho18k => (simp only [List.getElem?_toArray, List.getElem?_cons_succ, List.getElem?_cons_zero]; exact rfl)
    case hp18k => exact fun _ _ _ h => h
    case hy18k => (refine Or.inl ⟨by rfl, ?_⟩; intro w hSw; (try dsimp only at hSw); (try go_split_ands); go_simp; (try (with_reducible rfl)))
    case hr18k =>
    (try simp only [Act.put, List.setIfInBounds_toArray, List.set_cons_zero, List.set_cons_succ])
    refine wpAnyX_take (i := 19) (oi := ?oi19k) (v := ?v19k) ?ho19k (by kernel_rfl) (by kernel_rfl) (by kernel_rfl) (by kernel_rfl) ?hp19k ?hy19k hH1 ?hr19k
    case ho19k => (simp only [List.getElem?_toArray, List.getElem?_cons_succ, List.getElem?_cons_zero]; exact rfl)
    case hp19k => exact fun _ _ _ h => h
    case hy19k => (refine Or.inl ⟨by rfl, ?_⟩; intro w hSw; (try dsimp only at hSw); (try go_split_ands); go_simp; (try (with_reducible rfl)))
    case hr19k =>
    (try simp only [Act.put, List.setIfInBounds_toArray, List.set_cons_zero, List.set_cons_succ])
    refine wpAnyX_done (by kernel_rfl) ?_ _
    go_wp2_with fail
    refine bodyPost_ret (v := .bool true) (by simp [results, Try.f17, go_sem]) rfl ⟨rfl, HB0.out.trans (HB2.out.mono HB0.out.size)⟩
end Go.Proofs.Ytalnipjaekpbhaa
