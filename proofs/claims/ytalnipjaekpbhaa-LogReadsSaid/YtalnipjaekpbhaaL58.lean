import Derived.Test.YtalnipjaekpbhaaL57
import Derived.Deep.CutBlock
namespace Go.Proofs.Ytalnipjaekpbhaa
open Go.ChangeShapes Go.WideShapes Go.ChangeAt Go.RowKit Go.Deep
set_option linter.unusedSimpArgs false
set_option linter.unusedVariables false

theorem Apt.nil {v : Value} {ls : List Ord} {lvs : List Value} {kb : Nat} (h : v.ownBlock ≠ some kb) (ho : ∀ i, i < ls.length → (lvs.getD i undef).ownBlock ≠ some kb) : Apt v ls lvs kb (.slice none 0 0) (.slice none 0 0) :=
  ⟨fun b hb => ⟨fun e => h (e ▸ hb), fun e => (by cases e), fun e => (by cases e)⟩, fun i hi _ b hb => ⟨fun e => ho i hi (e ▸ hb), fun e => (by cases e), fun e => (by cases e)⟩⟩
def FromPost (ns : List Nat) (w : World) (e : Ending) (w' : World) : Prop := ∃ kb B v p vs, e = .returned (.tuple #[.pointer (some ⟨kb, 0, none⟩), .int .i64 ((scanT ns).2.2.1 : Int), .int .i64 (scanT ns).2.2.2]) ∧ w.heap.size ≤ kb ∧ w.heap.size ≤ B ∧ KSt w' kb B (scanT ns).1 (ns.take (scanT ns).2.2.1) v p vs ∧ Below w.heap.size w w'
set_option maxRecDepth 100000 in
set_option maxHeartbeats 4000000 in
theorem From_c (ao : Option Addr) (cap : Nat) (ns : List Nat) (w : World) (hb : Row8 w ao cap ns) (hl : ns.length ≤ 6000000) : Calls Try.prog 25 #[.slice ao ns.length cap] w (FromPost ns w) := by
  have HS := hide (Scan_c ao cap ns w hb)
  have SG := hide (scan_good hb.small)
  clear hb
  unfold FromPost
  obtain ⟨R, hR⟩ : ∃ R, R = scanT ns := ⟨_, rfl⟩
  rw [← hR] at HS SG
  rw [← hR]
  clear hR
  go_enter Try.func25, Try.ntmps25
  go_upto_region 2 with (first
    | (go_at_call 23; (apply Calls.mono; focus (exact HS.out)); rintro e w2 ⟨v2, p2, vs2, rfl, o2, q2, hb2⟩; obtain ⟨pv, cv, rfl⟩ := own_any o2.row; obtain ⟨pp, cp, rfl⟩ := own_any q2; have O2 := hide o2; have HB2 := hide hb2; have TH := hide (book_made w2).there; clear o2 q2 hb2)
    | (refine wpList_store_mid rfl 53 _ _ rfl w2.heap.size 0 (bookedV (.slice pv R.1.length cv) (.slice pp R.2.1.length cp) R.2.2.1 R.2.2.2).toArray rfl ?_ ?_ ?_ ?_ ?_; exact rfl; exact TH.out; kernel_rfl; kernel_rfl))
  obtain ⟨X, hX⟩ : ∃ X, X = w2.heap.size := ⟨_, rfl⟩
  obtain ⟨w3, hw3⟩ : ∃ W7, W7 = (w2.alloc (.cells #[.slice none 0 0, .slice none 0 0, .int .i64 0, .int .i64 0] 53)).setCells w2.heap.size 0 (bookedV (.slice pv R.1.length cv) (.slice pp R.2.1.length cp) R.2.2.1 R.2.2.2) := ⟨_, rfl⟩
  have hb23 : Below w2.heap.size w2 w3 := by rw [hw3]; exact below_sets (Nat.le_refl _) _ _ _ ((Below.refl _ _).alloc (Nat.le_refl _) _)
  have HX3 := hide (show BookBox w3 X (.slice pv R.1.length cv) (.slice pp R.2.1.length cp) R.2.2.1 R.2.2.2 by rw [hw3, hX]; exact (book_made w2).sets _ _ _ _)
  have O3 := hide (O2.out.below hb23)
  have HB3 := hide (bstep HB2.out hb23)
  rw [show (w2.alloc (.cells #[.slice none 0 0, .slice none 0 0, .int .i64 0, .int .i64 0] 53)).setCells w2.heap.size 0 (bookedV (.slice pv R.1.length cv) (.slice pp R.2.1.length cp) R.2.2.1 R.2.2.2).toArray.toList = w3 from hw3.symm, ← hX]
  clear hw3 hX hb23 TH O2 HB2
  go_wp2_with fail
  refine (New_c w3).mono ?_
  rintro e wn ⟨rfl, k3, hbn⟩
  obtain ⟨K, hK⟩ : ∃ K, K = w3.heap.size := ⟨_, rfl⟩
  rw [← hK] at k3
  rw [← hK]
  have K3 := hide k3
  have HXN := hide (HX3.out.stays (hbn.block _ HX3.out.lt))
  have ON := hide (O3.out.below hbn)
  have HBN := hide (bstep HB3.out hbn)
  have HKW := hide (show w.heap.size ≤ K by rw [hK]; exact HB3.out.size)
  have HXK := hide (show X ≠ K from fun e => by have := HX3.out.lt; omega)
  have HNS := hide (show K + 1 ≤ wn.heap.size from k3.lt)
  have x0 : wn.cell? ⟨X, 0, none⟩ = some (.slice pv R.1.length cv) := HXN.out.c 0 (by decide)
  clear hK k3 hbn HX3 O3 HB3
  have hnn := SG.out.n
  have hll := SG.out.l
  have HAPP := hide (Append_b (b0 := w.heap.size) K3.out (OrdsIn.of_own ON.out (fun o ho => ⟨(SG.out.o o ho).2, chk_offs (SG.out.o o ho).1⟩) (by omega)) (fun o ho => SG.out.o o ho) (by omega) (by simp; omega) (by simp) (Apt.nil (own_ne_box ON.out.row K3.out.hp (by decide)) (fun i hi => own_ne_box (ON.out.offs i hi) K3.out.hp (by decide))) HNS.out HKW.out (by have := HKW.out; omega))
  go_upto_region 4 with (go_at_call 34; (apply Calls.mono; focus (exact HAPP.out)); rintro e w4 ⟨rfl, ⟨kv, kp, kvs, k4, -, -⟩, kt, hb4⟩; rw [List.nil_append, List.nil_append, SG.out.f] at k4; have K4 := hide k4; have HB4 := hide (HBN.out.trans hb4); have HX4 := hide (HXN.out.stays (kt.nil_block HXN.out.lt HXK.out)); clear k4 kt hb4)
  have SK := hide (fun (wq : World) (h : Below w4.heap.size w4 wq) => (show wq.cell? ⟨X, 2, none⟩ = some (.int .i64 (R.2.2.1 : Int)) ∧ wq.cell? ⟨X, 3, none⟩ = some (.int .i64 R.2.2.2) from ⟨(HX4.out.stays (h.block _ HX4.out.lt)).c 2 (by decide), (HX4.out.stays (h.block _ HX4.out.lt)).c 3 (by decide)⟩))
  have HBW := hide (show w.heap.size ≤ K + 1 by have := HKW.out; omega)
  clear x0 HAPP HNS HXN ON HBN K3 hnn hll HX4
  go_upto_region 4 with fail
  refine wp_regionX (fun wq => wq.cell? ⟨X, 2, none⟩ = some (.int .i64 (R.2.2.1 : Int)) ∧ wq.cell? ⟨X, 3, none⟩ = some (.int .i64 R.2.2.2)) (fun n => true) (by kernel_rfl) (SK.out _ (drewB _)) (fun hH0 => ?_)
  have B0 := hide (drewB w4)
  obtain ⟨wd, hwd⟩ : ∃ q, q = w4.drew := ⟨_, rfl⟩
  rw [← hwd] at B0 hH0
  rw [← hwd]
  clear hwd
  refine wpAnyX_take (i := 0) (oi := ?oi0) (v := ?v0) ?ho0 (by kernel_rfl) (by kernel_rfl) (by kernel_rfl) (by kernel_rfl) ?hp0 ?hy0 hH0 ?hr0
  case ho0 => (simp only [List.getElem?_toArray, List.getElem?_cons_succ, List.getElem?_cons_zero]; exact rfl)
  case hp0 => exact fun _ _ _ h => h
  case hy0 => (refine Or.inl ⟨by rfl, ?_⟩; intro w hSw; (try dsimp only at hSw); (try go_split_ands); go_simp; (try (with_reducible rfl)))
  case hr0 =>
  (try simp only [Act.put, List.setIfInBounds_toArray, List.set_cons_zero, List.set_cons_succ])
  refine wpAnyX_take (i := 1) (oi := ?oi1) (v := ?v1) ?ho1 (by kernel_rfl) (by kernel_rfl) (by kernel_rfl) (by kernel_rfl) ?hp1 ?hy1 hH0 ?hr1
  case ho1 => (simp only [List.getElem?_toArray, List.getElem?_cons_succ, List.getElem?_cons_zero]; exact rfl)
  case hp1 => exact fun _ _ _ h => h
  case hy1 => (refine Or.inl ⟨by rfl, ?_⟩; intro w hSw; (try dsimp only at hSw); (try go_split_ands); go_simp; (try (with_reducible rfl)))
  case hr1 =>
  (try simp only [Act.put, List.setIfInBounds_toArray, List.set_cons_zero, List.set_cons_succ])
  refine wpAnyX_take (i := 3) (oi := ?oi3) (v := ?v3) ?ho3 (by kernel_rfl) (by kernel_rfl) (by kernel_rfl) (by kernel_rfl) ?hp3 ?hy3 hH0 ?hr3
  case ho3 => (simp only [List.getElem?_toArray, List.getElem?_cons_succ, List.getElem?_cons_zero]; exact rfl)
  case hp3 => exact fun _ _ _ h => h
  case hy3 => (refine Or.inl ⟨by rfl, ?_⟩; intro w hSw; (try dsimp only at hSw); (try go_split_ands); go_simp; (try (with_reducible rfl)))
  case hr3 =>
  (try simp only [Act.put, List.setIfInBounds_toArray, List.set_cons_zero, List.set_cons_succ])
  refine wpAnyX_take (i := 2) (oi := ?oi2) (v := ?v2) ?ho2 (by kernel_rfl) (by kernel_rfl) (by kernel_rfl) (by kernel_rfl) ?hp2 ?hy2 hH0 ?hr2
  case ho2 => (simp only [List.getElem?_toArray, List.getElem?_cons_succ, List.getElem?_cons_zero]; exact rfl)
  case hp2 => exact fun _ _ _ h => h
  case hy2 => (refine Or.inl ⟨by rfl, ?_⟩; intro w hSw; (try dsimp only at hSw); (try go_split_ands); go_simp; (try (with_reducible rfl)))
  case hr2 =>
  (try simp only [Act.put, List.setIfInBounds_toArray, List.set_cons_zero, List.set_cons_succ])
  refine wpAnyX_take (i := 4) (oi := ?oi4) (v := ?v4) ?ho4 (by kernel_rfl) (by kernel_rfl) (by kernel_rfl) (by kernel_rfl) ?hp4 ?hy4 hH0 ?hr4
  case ho4 => (simp only [List.getElem?_toArray, List.getElem?_cons_succ, List.getElem?_cons_zero]; exact rfl)
  case hp4 => exact fun _ _ _ h => h
  case hy4 => (refine Or.inl ⟨by rfl, ?_⟩; intro w hSw; (try dsimp only at hSw); (try go_split_ands); go_simp; (try (with_reducible rfl)))
  case hr4 =>
  (try simp only [Act.put, List.setIfInBounds_toArray, List.set_cons_zero, List.set_cons_succ])
  refine wpAnyX_take (i := 5) (oi := ?oi5) (v := ?v5) ?ho5 (by kernel_rfl) (by kernel_rfl) (by kernel_rfl) (by kernel_rfl) ?hp5 ?hy5 hH0 ?hr5
  case ho5 => (simp only [List.getElem?_toArray, List.getElem?_cons_succ, List.getElem?_cons_zero]; exact rfl)
  case hp5 => exact fun _ _ _ h => h
  case hy5 => (refine Or.inl ⟨by rfl, ?_⟩; intro w hSw; (try dsimp only at hSw); (try go_split_ands); go_simp; (try (with_reducible rfl)))
  case hr5 =>
  (try simp only [Act.put, List.setIfInBounds_toArray, List.set_cons_zero, List.set_cons_succ])
  refine wpAnyX_take (i := 6) (oi := ?oi6) (v := ?v6) ?ho6 (by kernel_rfl) (by kernel_rfl) (by kernel_rfl) (by kernel_rfl) ?hp6 ?hy6 hH0 ?hr6
  case ho6 => (simp only [List.getElem?_toArray, List.getElem?_cons_succ, List.getElem?_cons_zero]; exact rfl)
  case hp6 => exact fun _ _ _ h => h
  case hy6 => (refine Or.inl ⟨by rfl, ?_⟩; intro w hSw; (try dsimp only at hSw); (try go_split_ands); go_simp; (try (with_reducible rfl)))
  case hr6 =>
  (try simp only [Act.put, List.setIfInBounds_toArray, List.set_cons_zero, List.set_cons_succ])
  refine wpAnyX_take (i := 7) (oi := ?oi7) (v := ?v7) ?ho7 (by kernel_rfl) (by kernel_rfl) (by kernel_rfl) (by kernel_rfl) ?hp7 ?hy7 hH0 ?hr7
  case ho7 => (simp only [List.getElem?_toArray, List.getElem?_cons_succ, List.getElem?_cons_zero]; exact rfl)
  case hp7 => exact fun _ _ _ h => h
  case hy7 => (refine Or.inl ⟨by rfl, ?_⟩; intro w hSw; (try dsimp only at hSw); (try go_split_ands); go_simp; (try (with_reducible rfl)))
  case hr7 =>
  (try simp only [Act.put, List.setIfInBounds_toArray, List.set_cons_zero, List.set_cons_succ])
  refine wpAnyX_done (by kernel_rfl) ?_ _
  go_wp2_with fail
  refine bodyPost_ret (v := .tuple #[.pointer (some ⟨K, 0, none⟩), .int .i64 (R.2.2.1 : Int), .int .i64 R.2.2.2]) (by simp [results, Try.f25, go_sem]) rfl ⟨K, _, kv, kp, kvs, rfl, HKW.out, HBW.out, ?_, bstep HB4.out B0.out⟩
  exact K4.out.below B0.out
end Go.Proofs.Ytalnipjaekpbhaa
