/- Contracts of the layer's functions, each proved once, in the order in which they are used. No condition beyond each theorem's own. -/
import Derived.Test.YtalnipjaekpbhaaL40
import Derived.Test.YtalnipjaekpbhaaMg
import Derived.Deep.CutBlock
import Derived.Lib.SlBytesConst
import Derived.SliceStrings
import Derived.Deep.Matrix
import Derived.Great.BuildSlice
namespace Go.Proofs.Ytalnipjaekpbhaa
open Go.ChangeShapes Go.WideShapes Go.ChangeAt Go.RowKit Go.Deep
set_option linter.unusedSimpArgs false
set_option linter.unusedVariables false

theorem head_part {ns : List Nat} (h8 : ∀ x ∈ ns, x < 256) (h2 : 2 ≤ ns.length) (hn : lenF ns ≤ ns.length) : headF (part8 ns 2 (lenF ns)) = ns.take (lenF ns) := by
  have hl2 : 2 ≤ lenF ns := by unfold lenF; omega
  obtain ⟨a, b, t, rfl⟩ : ∃ a b t, ns = a :: b :: t := by
    cases ns with
    | nil => simp at h2
    | cons a ns =>
      cases ns with
      | nil => simp at h2
      | cons b t => exact ⟨a, b, t, rfl⟩
  have ha : a < 256 := h8 a (by simp)
  have hb : b < 256 := h8 b (by simp)
  have e : lenF (a :: b :: t) = 2 + a * 256 + b := rfl
  have hp := part8_len hl2 hn
  unfold headF
  rw [hp, e]
  have e1 : (2 + a * 256 + b - 2) / 256 % 256 = a := by omega
  have e2 : (2 + a * 256 + b - 2) % 256 = b := by omega
  rw [e1, e2]
  unfold part8
  rw [show 2 + a * 256 + b = (a * 256 + b) + 1 + 1 by omega]
  simp
theorem rd_ok {ns : List Nat} (h8 : ∀ x ∈ ns, x < 256) (h : rde ns = 0) : chk (rdo ns) = true ∧ OrdR (rdo ns) ∧ formO (rdo ns) = ns := by
  unfold rde at h
  unfold rdo
  cases e : readO ns with
  | none => rw [e] at h; cases h
  | some o => exact readO_some h8 e
/-- a frame that is whole is the frame of the order that is told -/
theorem one_frame {ns : List Nat} (h8 : ∀ x ∈ ns, x < 256) (he : (oneT ns).2.2 = 0) : chk (oneT ns).1 = true ∧ OrdR (oneT ns).1 ∧ frameO (oneT ns).1 = ns.take (oneT ns).2.1 := by
  unfold oneT at he ⊢
  split at he
  · cases he
  · rename_i h1
    rw [if_neg h1]
    split at he
    · cases he
    · rename_i h2
      rw [if_neg h2]
      split at he
      · rename_i h3
        rw [if_pos h3]
        obtain ⟨q1, q2, q3⟩ := rd_ok (ns := part8 ns 2 (lenF ns)) (fun x hx => h8 x (part8_mem x hx)) he
        refine ⟨q1, q2, ?_⟩
        simp only
        unfold frameO
        rw [q3, head_part h8 (by omega) (by omega)]
        have e0 : part8 ns 0 (lenF ns) = ns.take (lenF ns) := by unfold part8; simp
        rw [e0] at h3
        rw [← h3]
        unfold part8
        rw [show lenF ns + 4 - lenF ns = 4 by omega, List.take_add]
      · cases he
/-- what a scan tells -/
structure ScanOk (ns : List Nat) (r : List Ord × List Nat × Nat × Int) : Prop where
  f : framesO r.1 = ns.take r.2.2.1
  l : r.2.2.1 ≤ ns.length
  o : ∀ x ∈ r.1, chk x = true ∧ OrdR x
  n : 6 * r.1.length ≤ r.2.2.1
  p : r.1.length = r.2.1.length
theorem frames_snoc (os : List Ord) (o : Ord) : framesO (os ++ [o]) = framesO os ++ frameO o := by unfold framesO; simp
theorem scanF_good {ns : List Nat} (h8 : ∀ x ∈ ns, x < 256) : ∀ (f a : Nat) (os : List Ord) (ps : List Nat), framesO os = ns.take a → a ≤ ns.length → (∀ x ∈ os, chk x = true ∧ OrdR x) → 6 * os.length ≤ a → os.length = ps.length → ScanOk ns (scanF ns f a os ps)
  | 0, a, os, ps, h1, h2, h3, h4, h5 => ⟨h1, h2, h3, h4, h5⟩
  | f + 1, a, os, ps, h1, h2, h3, h4, h5 => by
    by_cases hlt : a < ns.length
    · by_cases he : (oneT (ns.drop a)).2.2 = 0
      · rw [scanF_ok hlt he]
        obtain ⟨q1, q2, q3⟩ := one_frame (ns := ns.drop a) (fun x hx => h8 x (List.mem_of_mem_drop hx)) he
        obtain ⟨r1, r2⟩ := one_len he
        rw [List.length_drop] at r2
        refine scanF_good h8 f _ _ _ ?_ (by omega) (fun x hx => ?_) (by rw [List.length_append, List.length_singleton]; omega) (by rw [List.length_append, List.length_append, h5]; rfl)
        · rw [frames_snoc, h1, q3, List.take_add]
        · rcases List.mem_append.1 hx with hx | hx
          · exact h3 x hx
          · rw [List.mem_singleton] at hx; subst hx; exact ⟨q1, q2⟩
      · rw [scanF_err hlt he]; exact ⟨h1, h2, h3, h4, h5⟩
    · rw [scanF_end hlt]; exact ⟨h1, h2, h3, h4, h5⟩
theorem scan_good {ns : List Nat} (h8 : ∀ x ∈ ns, x < 256) : ScanOk ns (scanT ns) :=
  scanF_good h8 _ _ _ _ (by simp [framesO]) (Nat.zero_le _) (fun x hx => by cases hx) (by simp) rfl
theorem chk_offs {o : Ord} (h : chk o = true) : o.offs.length ≤ 64 := ((chk_iff o).1 h).ol
/-- the order that works goes over -/
def t0 : Ord := { kind := 6, name := [], num := fun j => if j = 17 then 5 else 0, offs := [] }
theorem chk_t0 : chk t0 = true := by kernel_rfl
theorem formO_t0 : formO t0 = [6, 5] := by kernel_rfl
theorem crc9 : crc [49, 50, 51, 52, 53, 54, 55, 56, 57] = 3808858755 := by kernel_rfl
theorem frameO_t0 : frameO t0 = [0, 2, 6, 5, 228, 92, 54, 91] := by kernel_rfl
theorem scan_t0 : (scanT [0, 2, 6, 5, 228, 92, 54, 91, 0]).2.2.1 = 8 ∧ (scanT [0, 2, 6, 5, 228, 92, 54, 91, 0]).2.2.2 = 330 ∧ (scanT [0, 2, 6, 5, 228, 92, 54, 91, 0]).1.length = 1 := ⟨by kernel_rfl, by kernel_rfl, by kernel_rfl⟩
theorem ordR_t0 : OrdR t0 := ⟨by decide, by decide, fun j => (by unfold t0; simp only; split <;> decide), fun j => (by unfold t0; simp only; split <;> decide), fun x hx => (by cases hx), fun x hx => (by cases hx), by decide⟩
theorem OffsIn.none (w : World) : OffsIn w (.slice none 0 0) [] := ⟨⟨_, _, rfl⟩, fun j hj => (by cases hj), fun x hx => (by cases hx), by decide, fun n c e => (by cases e; rfl)⟩
end Go.Proofs.Ytalnipjaekpbhaa

namespace Go.Proofs.Ytalnipjaekpbhaa
open Go.ChangeShapes Go.WideShapes Go.ChangeAt Go.RowKit Go.Deep
set_option linter.unusedSimpArgs false
set_option linter.unusedVariables false

theorem eql59 (k : Nat) (cs : Array Value) (w : World) : Sem.run Try.prog (binOp .eql 59 (.func (.func k) #[] cs) .nilFunc) w = .ok (.bool false) w := by kernel_rfl
theorem BookBox.sets {w : World} {X : Nat} {v p : Value} {g : Nat} {y : Int} (h : BookBox w X v p g y) (v2 p2 : Value) (g2 : Nat) (y2 : Int) : BookBox (w.setCells X 0 (bookedV v2 p2 g2 y2)) X v2 p2 g2 y2 := by
  refine ⟨fun j hj => ?_, fun j => (World.frozen?_setCells _ _ _ _ _).trans (h.f j)⟩
  have q := World.rangeAt_setCells_same w X 0 (bookedV v2 p2 g2 y2) h.there j _ (List.getElem?_eq_getElem (by exact hj))
  rw [Nat.zero_add] at q
  rw [q]; exact (List.getElem?_eq_getElem (by exact hj)).symm
set_option maxRecDepth 100000 in
set_option maxHeartbeats 1000000 in
theorem num_c (x : Int) (w : World) : Calls Try.prog 15 #[.int .i64 x] w fun e w' => e = .returned (.int .i64 x) ∧ w' = w := by
  go_enter Try.func15, Try.ntmps15
  go_wp2_with fail
  refine bodyPost_ret (v := .int .i64 x) (by simp [results, Try.f15, go_sem]) rfl ⟨rfl, rfl⟩
set_option maxRecDepth 100000 in
set_option maxHeartbeats 1000000 in
theorem KFrom_c (kv : Value) (n : Int) (w : World) (hk : ∃ a, kv = .pointer a) : Calls Try.prog 40 #[kv, .int .i64 n] w fun e w' => e = .returned (.func (.func 78) #[] #[.pointer (some ⟨w.heap.size + 1, 0, none⟩), .pointer (some ⟨w.heap.size, 0, none⟩)]) ∧ w' = (w.alloc (.cells #[kv] 55)).alloc (.cells #[.int .i64 n] 3) := by
  obtain ⟨a, rfl⟩ := hk
  go_enter Try.func40, Try.ntmps40
  go_wp2_with fail
  refine bodyPost_ret (v := .func (.func 78) #[] #[.pointer (some ⟨w.heap.size + 1, 0, none⟩), .pointer (some ⟨w.heap.size, 0, none⟩)]) (by simp [results, Try.f40, go_sem]) rfl ⟨rfl, rfl⟩
set_option maxRecDepth 100000 in
set_option maxHeartbeats 2000000 in
theorem All_c (ao : Option Addr) (cap : Nat) (ns : List Nat) (w : World) (hb : Row8 w ao cap ns) : Calls Try.prog 26 #[.slice ao ns.length cap] w fun e w' => ∃ X v p vs, e = .returned (.func (.func 71) #[] #[.pointer (some ⟨X, 0, none⟩)]) ∧ w.heap.size ≤ X ∧ BookBox w' X v p (scanT ns).2.2.1 (scanT ns).2.2.2 ∧ OrdsOwn w' w.heap.size v (scanT ns).1 vs ∧ w'.ownsRow w.heap.size 3 1 p (scanT ns).2.1.length (placeV (scanT ns).2.1) ∧ v.ownBlock ≠ some X ∧ p.ownBlock ≠ some X ∧ Below w.heap.size w w' := by
  have HB := hide (Scan_c ao cap ns w hb)
  clear hb
  obtain ⟨R, hR⟩ : ∃ R, R = scanT ns := ⟨_, rfl⟩
  rw [← hR] at HB
  rw [← hR]
  clear hR
  go_enter Try.func26, Try.ntmps26
  go_wp2_with (first
    | (go_at_call 23; (apply Calls.mono; focus (exact HB.out)); rintro e w2 ⟨v2, p2, vs2, rfl, o2, q2, hb2⟩; obtain ⟨pv, cv, rfl⟩ := own_any o2.row; obtain ⟨pp, cp, rfl⟩ := own_any q2; have O2 := hide o2; have Q2 := hide q2; have HB2 := hide hb2; have TH := hide (book_made w2).there; clear o2 q2 hb2)
    | (refine wpList_store_mid rfl 53 _ _ rfl w2.heap.size 0 (bookedV (.slice pv R.1.length cv) (.slice pp R.2.1.length cp) R.2.2.1 R.2.2.2).toArray rfl ?_ ?_ ?_ ?_ ?_; exact rfl; exact TH.out; kernel_rfl; kernel_rfl))
  have hb3 : Below w2.heap.size w2 ((w2.alloc (.cells #[.slice none 0 0, .slice none 0 0, .int .i64 0, .int .i64 0] 53)).setCells w2.heap.size 0 (bookedV (.slice pv R.1.length cv) (.slice pp R.2.1.length cp) R.2.2.1 R.2.2.2)) := below_sets (Nat.le_refl _) _ _ _ ((Below.refl _ _).alloc (Nat.le_refl _) _)
  refine bodyPost_ret (v := .func (.func 71) #[] #[.pointer (some ⟨w2.heap.size, 0, none⟩)]) (by simp [results, Try.f26, go_sem]) rfl ⟨w2.heap.size, .slice pv R.1.length cv, .slice pp R.2.1.length cp, vs2, rfl, HB2.out.size, (book_made w2).sets _ _ _ _, O2.out.below hb3, own_below Q2.out hb3, fun e => by have := (O2.out.row.lt _ e).2; omega, fun e => by have := (Q2.out.lt _ e).2; omega, bstep HB2.out hb3⟩
end Go.Proofs.Ytalnipjaekpbhaa

namespace Go.Proofs.Ytalnipjaekpbhaa
open Go.ChangeShapes Go.WideShapes Go.ChangeAt Go.RowKit Go.Deep
set_option linter.unusedSimpArgs false
set_option linter.unusedVariables false

theorem Row8.of_own {w : World} {B : Nat} {p : Option Addr} {c : Nat} {ns : List Nat} (h : w.ownsRow B 5 1 (.slice p ns.length c) ns.length (u8L ns)) (h8 : ∀ x ∈ ns, x < 256) (hl : ns.length ≤ 1099511627776) : Row8 w p c ns := by
  refine ⟨fun e => ?_, fun hne => ?_, h8, hl, ?_⟩
  · subst e
    obtain ⟨q1, q2⟩ := own_nil0 h
    exact ⟨List.length_eq_zero_iff.1 q1, q2⟩
  · have hp : 0 < ns.length := List.length_pos_iff.2 hne
    obtain ⟨g, c2, e, -, -⟩ := h.form hp
    injection e with e _ ec
    subst e ec
    exact ⟨g, 0, rfl, (h.lt g rfl).2, own_conv h hp⟩
  · rcases h.2 with ⟨q1, q2⟩ | ⟨g1, cap1, cur1, e, _, _, hle, _⟩
    · have := (own_nil0 (show w.ownsRow B 5 1 (.slice none ns.length c) ns.length (u8L ns) from by injection q1 with q1; rw [← q1]; exact h)).1; omega
    · injection e with _ _ e; omega
theorem Row8.grow {w w' : World} {ao : Option Addr} {cap : Nat} {ns : List Nat} (h : Row8 w ao cap ns) (hb : Below w.heap.size w w') : Row8 w' ao cap ns := h.below hb (fun ad e hn => by
  obtain ⟨b, off, e2, h1, -⟩ := h.bytes hn
  rw [e] at e2
  cases e2; exact h1)
/-- a book that lies above b0, and orders apart from it -/
theorem Append_b {w : World} {kb B b0 : Nat} {os : List Ord} {bs : List Nat} {v p : Value} {vs : List Value} (hk : KSt w kb B os bs v p vs) {lv : Value} {ls : List Ord} {lvs : List Value} (hl : OrdsIn w lv ls lvs) (hr : ∀ o ∈ ls, chk o = true ∧ OrdR o) (hn : ls.length ≤ 1000000) (hbl : os.length + ls.length ≤ 100000000) (hby : bs.length ≤ 100000000000) (hap : Apt lv ls lvs kb v p) (hBkb : B ≤ w.heap.size) (h0 : b0 ≤ kb) (hB : b0 ≤ B) : Calls Try.prog 34 #[.pointer (some ⟨kb, 0, none⟩), lv] w fun e w' => e = .returned (.int .i64 0) ∧ (∃ v' p' vs', KSt w' kb B (os ++ ls) (bs ++ framesO ls) v' p' vs' ∧ Nr w v v' ∧ Nr w p p') ∧ KT w w' kb v p ∧ Below b0 w w' := by
  refine Append_1 hk hl (fun o ho => (hr o ho).2) hn hbl hby hap hBkb (fun i hi hc w' _ => ?_) (fun _ v' p' vs' w' h1 h2 h3 h4 => ⟨rfl, ⟨v', p', vs', h1, h3, h4⟩, h2, ?_⟩)
  · rw [List.getD_eq_getElem?_getD, List.getElem?_eq_getElem hi] at hc
    have := (hr _ (List.getElem_mem hi)).1
    rw [show (some ls[i]).getD (zeroO 0) = ls[i] from rfl, this] at hc
    cases hc
  · have hlt := hk.lt
    exact KT.below (Below.refl _ _) h2 h0 (fun r e => by have := (hk.o.row.lt r e).1; omega) (fun r e => by have := (hk.p_.lt r e).1; omega) (by omega)
theorem KSt.grow {w w' : World} {kb B : Nat} {os : List Ord} {bs : List Nat} {v p : Value} {vs : List Value} (h : KSt w kb B os bs v p vs) (hb : Below w.heap.size w w') : KSt w' kb B os bs v p vs := h.below hb
theorem KT.nil_block {w w' : World} {kb : Nat} (h : KT w w' kb (.slice none 0 0) (.slice none 0 0)) {i : Nat} (hi : i < w.heap.size) (hne : i ≠ kb) : w'.heap[i]? = w.heap[i]? := h.block i hi hne (fun e => by cases e) (fun e => by cases e)
/-- a literal row of one order -/
theorem OrdsIn.one {w : World} {o : Ord} {ov : Value} (ho : OffsIn w ov o.offs) (h1 : ov.oneCell' = true) : OrdsIn (w.alloc (.cells (ordCells o ov).toArray 29)) (.slice (some ⟨w.heap.size, 0, none⟩) 1 1) [o] [ov] := by
  have hb : Below w.heap.size w (w.alloc (.cells (ordCells o ov).toArray 29)) := (Below.refl _ _).alloc (Nat.le_refl _) _
  refine ⟨⟨_, _, rfl⟩, rfl, fun i hi => ⟨w.heap.size, 0, 1, rfl, by simp, fun j hj => ?_⟩, fun i hi => ?_, by simp⟩
  · obtain rfl : i = 0 := by simp at hi; omega
    rw [show 0 + 0 * 18 + j = j by omega]
    exact (box_made w o ov).c j hj
  · obtain rfl : i = 0 := by simp at hi; omega
    exact ho.below hb
end Go.Proofs.Ytalnipjaekpbhaa

namespace Go.Proofs.Ytalnipjaekpbhaa
open Go.ChangeShapes Go.WideShapes Go.ChangeAt Go.RowKit Go.Deep
set_option linter.unusedSimpArgs false
set_option linter.unusedVariables false

theorem sum9 (w : World) : Calls Try.prog 18 #[.slice (some ⟨w.heap.size + 1, 0, none⟩) 1 1] ((w.alloc (.cells #[.int .u8 49, .int .u8 50, .int .u8 51, .int .u8 52, .int .u8 53, .int .u8 54, .int .u8 55, .int .u8 56, .int .u8 57] 5 (9, 10))).alloc (.cells #[.slice (some ⟨w.heap.size, 0, none⟩) 9 9] 30)) fun e w' => e = .returned (.int .u32 3808858755) ∧ w' = ((w.alloc (.cells #[.int .u8 49, .int .u8 50, .int .u8 51, .int .u8 52, .int .u8 53, .int .u8 54, .int .u8 55, .int .u8 56, .int .u8 57] 5 (9, 10))).alloc (.cells #[.slice (some ⟨w.heap.size, 0, none⟩) 9 9] 30)) := by
  have q := Sum_c (w.heap.size + 1) 1 (fun _ => .slice (some ⟨w.heap.size, 0, none⟩) 9 9) [[49, 50, 51, 52, 53, 54, 55, 56, 57]] ((w.alloc (.cells #[.int .u8 49, .int .u8 50, .int .u8 51, .int .u8 52, .int .u8 53, .int .u8 54, .int .u8 55, .int .u8 56, .int .u8 57] 5 (9, 10))).alloc (.cells #[.slice (some ⟨w.heap.size, 0, none⟩) 9 9] 30)) (fun i hi => ?_) (by simp)
  · refine q.mono ?_
    rintro e w' ⟨rfl, rfl⟩
    refine ⟨?_, rfl⟩
    rw [show (List.flatten [[49, 50, 51, 52, 53, 54, 55, 56, 57]]) = [49, 50, 51, 52, 53, 54, 55, 56, 57] from rfl, crc9]; rfl
  · obtain rfl : i = 0 := by simp at hi; omega
    refine ⟨by simp [go_sem], ⟨_, _, rfl⟩, fun j hj => ⟨w.heap.size, 0, 9, rfl, ?_⟩, by decide, by decide⟩
    have hj9 : j < 9 := hj
    obtain rfl | rfl | rfl | rfl | rfl | rfl | rfl | rfl | rfl : j = 0 ∨ j = 1 ∨ j = 2 ∨ j = 3 ∨ j = 4 ∨ j = 5 ∨ j = 6 ∨ j = 7 ∨ j = 8 := by omega
    all_goals (simp [go_sem]; exact World.cell?_alloc_mark _ _ _ _ _)
set_option maxRecDepth 100000 in
set_option maxHeartbeats 4000000 in
theorem works_c (w : World) : Calls Try.prog 9 #[] w fun e w' => e = .returned (.bool true) ∧ Below w.heap.size w w' := by
  have e59 := eql59
  have e55 := eql55
  have kc := fun (w : World) (C : Array Value) (n c : Nat) => Lib.run_convert_bytes_const (P := Try.prog) w 30 5 C n c Try.underlying30 Try.underlying5
  go_enter Try.func9, Try.ntmps9
  go_upto_region 2 with (refine wpList_store_mid rfl 29 _ _ rfl w.heap.size 0 (ordCells t0 (.slice none 0 0)).toArray rfl ?_ ?_ ?_ ?_ ?_; exact rfl; exact alloc_there w t0 _; kernel_rfl; kernel_rfl)
  obtain ⟨T, hT⟩ : ∃ X, X = w.heap.size := ⟨_, rfl⟩
  obtain ⟨W1, hW1⟩ : ∃ W1, W1 = (w.alloc (.cells #[Value.int .i64 0, .string ⟨#[]⟩, .int .i64 0, .int .i64 0, .int .i64 0, .int .i64 0, .int .i64 0, .int .i64 0, .int .i64 0, .int .i64 0, .int .i64 0, .int .i64 0, .int .i64 0, .int .i64 0, .int .i64 0, .int .i64 0, .slice none 0 0, .int .i64 0] 29)).setCells w.heap.size 0 (ordCells t0 (.slice none 0 0)) := ⟨_, rfl⟩
  have HB1 := hide (show Below w.heap.size w W1 by rw [hW1]; exact below_sets (Nat.le_refl _) _ _ _ ((Below.refl _ _).alloc (Nat.le_refl _) _))
  have HX1 := hide (show BoxO W1 T t0 (.slice none 0 0) by rw [hW1, hT]; exact (box_made w (zeroO 0) _).set _ _)
  rw [show (w.alloc (.cells #[Value.int .i64 0, .string ⟨#[]⟩, .int .i64 0, .int .i64 0, .int .i64 0, .int .i64 0, .int .i64 0, .int .i64 0, .int .i64 0, .int .i64 0, .int .i64 0, .int .i64 0, .int .i64 0, .int .i64 0, .int .i64 0, .int .i64 0, .slice none 0 0, .int .i64 0] 29)).setCells w.heap.size 0 (ordCells t0 (.slice none 0 0)).toArray.toList = W1 from hW1.symm, ← hT]
  have HT := hide hT
  clear hW1 hT
  obtain ⟨G, hG⟩ : ∃ G, G = formO t0 := ⟨_, rfl⟩
  obtain ⟨F, hF⟩ : ∃ F, F = frameO t0 := ⟨_, rfl⟩
  have CF := Form_ok t0 (.slice none 0 0) W1 (OffsIn.none _) chk_t0 ordR_t0
  rw [← hG] at CF
  unfold ordV at CF
  have C1 := hide CF
  clear CF
  have HG := hide hG
  have HF := hide hF
  clear hG hF
  go_upto_region 3 with (first
    | (refine wpList_load_mid rfl 29 _ rfl T 0 rfl (ordCells t0 (.slice none 0 0)) _ ?_ Try.underlying29 rfl ?_ ?_; exact HX1.out.range; kernel_rfl)
    | (go_at_call 11; (apply Calls.mono; focus (exact C1.out)); rintro e w2 ⟨v2, rfl, o2, hb2⟩; obtain ⟨p2, c2, rfl⟩ := own_any o2; have O2 := hide o2; have HX2 := hide (HX1.out.below hb2); have HB2 := hide (bstep HB1.out hb2); clear o2 hb2))
  have CF := Frame_ok t0 (.slice none 0 0) w2 (OffsIn.none _) chk_t0 ordR_t0 (by rw [formO_t0]; decide) (by rw [formO_t0]; decide)
  rw [← HF.out] at CF
  unfold ordV at CF
  have C2 := hide CF
  clear CF C1 HX1 HB1
  go_upto_region 4 with (first
    | (refine wpList_load_mid rfl 29 _ rfl T 0 rfl (ordCells t0 (.slice none 0 0)) _ ?_ Try.underlying29 rfl ?_ ?_; exact HX2.out.range; kernel_rfl)
    | (go_at_call 12; (apply Calls.mono; focus (exact C2.out)); rintro e w3 ⟨v3, rfl, o3, hb3⟩; obtain ⟨p3, c3, rfl⟩ := own_any o3; have O3 := hide o3; have HX3 := hide (HX2.out.below hb3); have HB3 := hide (bstep HB2.out hb3); have O2b := hide (own_below O2.out hb3); clear o3 hb3))
  clear C2 HX2 HB2 O2
  have fl : F.length = 8 := by rw [HF.out, frameO_t0]; rfl
  have HFL := hide fl
  obtain ⟨g3, cc3, e3, -, -⟩ := O3.out.form (by omega)
  injection e3 with e3 _ ec3
  subst e3 ec3
  clear fl
  have hal : Below w3.heap.size w3 (w3.alloc (.cells #[] 5)) := (Below.refl _ _).alloc (Nat.le_refl _) _
  have HR0 := hide (show RSt w3 (w3.alloc (.cells #[] 5)) (.slice (some ⟨w3.heap.size, 0, none⟩) 0 0) [] from ⟨made_row w3 5 1, hal⟩)
  have O3b := hide (own_below O3.out hal)
  clear hal
  obtain ⟨Z, hZ⟩ : ∃ Z, Z = F ++ [0] := ⟨_, rfl⟩
  have HZ := hide hZ
  clear hZ
  have HGS := hide (show G = [6, 5] by rw [HG.out, formO_t0])
  have HZS := hide (show Z = [0, 2, 6, 5, 228, 92, 54, 91, 0] by rw [HZ.out, HF.out, frameO_t0]; rfl)
  have HAP2 := hide (fun (w4 : World) (v4 : Value) (h4 : RSt w3 w4 v4 F) => show RSt w3 (w4.alloc (.cells #[.int .u8 0] 5)) v4 F ∧ (w4.alloc (.cells #[.int .u8 0] 5)).ownsRow w4.heap.size 5 1 (.slice (some ⟨w4.heap.size, 0, none⟩) 1 1) 1 (u8L [0]) from ⟨h4.below ((Below.refl _ _).alloc (Nat.le_refl _) _), World.ownsRow_lit (size := 1) (base := w4.heap.size) (e := 5) w4 #[.int .u8 0] 1 (Nat.le_refl _) (by decide) rfl⟩)
  go_wp2_with (first
    | (at_builtin; refine wpList_app8 (W := w3) _ rfl _ _ rfl HR0.out rfl rfl O3b.out (by rw [HFL.out]; decide) ?_; intro v4 w4 h4 g4; rw [List.nil_append] at h4; obtain ⟨p4, c4, rfl⟩ := own_any h4.own; have H4 := hide h4; have HQ4 := hide (HAP2.out w4 _ h4); clear h4 g4)
    | (at_builtin; refine wpList_app8 (W := w3) _ rfl _ _ rfl HQ4.out.1 rfl rfl HQ4.out.2 (by rw [HFL.out]; decide) ?_; intro v5 w5 h5 g5; rw [← HZ.out] at h5; obtain ⟨p5, c5, rfl⟩ := own_any h5.own; have H5 := hide h5; clear h5 g5))
  obtain ⟨R, hR⟩ : ∃ R, R = scanT Z := ⟨_, rfl⟩
  have CS := Scan_c p5 c5 Z w5 (Row8.of_own H5.out.own (by rw [HZS.out]; decide) (by rw [HZS.out]; decide))
  rw [← hR] at CS
  have HR := hide hR
  clear hR
  refine CS.mono ?_
  rintro e w6 ⟨v6, p6, vs6, rfl, o6, q6, hb6⟩
  obtain ⟨pv, cv, rfl⟩ := own_any o6.row
  obtain ⟨pp, cp, rfl⟩ := own_any q6
  have hb36 := bstep H5.out.b hb6
  have HX6 := hide (HX3.out.below hb36)
  have HB6 := hide (bstep HB3.out hb36)
  have O26 := hide (own_below O2b.out hb36)
  have O36 := hide (own_below O3.out hb36)
  have S6 := hide (show R.2.2.1 = 8 ∧ R.2.2.2 = 330 ∧ R.1.length = 1 by rw [HR.out, HZS.out]; exact scan_t0)
  have TH := hide (book_made w6).there
  clear CS o6 q6 hb6 hb36 H5 H4 HQ4 HAP2 HR0 O3b O2b O3 HX3 HB3
  go_upto_region 5 with (refine wpList_store_mid rfl 53 _ _ rfl w6.heap.size 0 (bookedV (.slice pv R.1.length cv) (.slice pp R.2.1.length cp) R.2.2.1 R.2.2.2).toArray rfl ?_ ?_ ?_ ?_ ?_; exact rfl; exact TH.out; kernel_rfl; kernel_rfl)
  obtain ⟨X, hX⟩ : ∃ X, X = w6.heap.size := ⟨_, rfl⟩
  obtain ⟨W7, hW7⟩ : ∃ W7, W7 = (w6.alloc (.cells #[.slice none 0 0, .slice none 0 0, .int .i64 0, .int .i64 0] 53)).setCells w6.heap.size 0 (bookedV (.slice pv R.1.length cv) (.slice pp R.2.1.length cp) R.2.2.1 R.2.2.2) := ⟨_, rfl⟩
  have hb67 : Below w6.heap.size w6 W7 := by rw [hW7]; exact below_sets (Nat.le_refl _) _ _ _ ((Below.refl _ _).alloc (Nat.le_refl _) _)
  have HK7 := hide (show BookBox W7 X (.slice pv R.1.length cv) (.slice pp R.2.1.length cp) R.2.2.1 R.2.2.2 by rw [hW7, hX]; exact (book_made w6).sets _ _ _ _)
  have HX7 := hide (HX6.out.below hb67)
  have HB7 := hide (bstep HB6.out hb67)
  have O27 := hide (own_below O26.out hb67)
  have O37 := hide (own_below O36.out hb67)
  rw [show (w6.alloc (.cells #[.slice none 0 0, .slice none 0 0, .int .i64 0, .int .i64 0] 53)).setCells w6.heap.size 0 (bookedV (.slice pv R.1.length cv) (.slice pp R.2.1.length cp) R.2.2.1 R.2.2.2).toArray.toList = W7 from hW7.symm, ← hX]
  clear hW7 hX hb67 TH HX6 HB6 O26 O36
  go_wp2_with fail
  refine (New_c W7).mono ?_
  rintro e w8 ⟨rfl, k8, hb8⟩
  obtain ⟨K, hK⟩ : ∃ K, K = W7.heap.size := ⟨_, rfl⟩
  rw [← hK] at k8
  rw [← hK]
  have K8 := hide k8
  have HK8 := hide (HK7.out.stays (hb8.block _ HK7.out.lt))
  have HX8 := hide (HX7.out.below hb8)
  have HB8 := hide (bstep HB7.out hb8)
  have O28 := hide (own_below O27.out hb8)
  have O38 := hide (own_below O37.out hb8)
  have HKK := hide (show w.heap.size ≤ K by rw [hK]; exact HB7.out.size)
  have HTK := hide (show T ≠ K from fun e => by have := HX7.out.lt; omega)
  have HXK := hide (show X ≠ K from fun e => by have := HK7.out.lt; omega)
  clear hK k8 hb8 HK7 HX7 HB7 O27 O37
  go_wp2_with fail
  refine (KFrom_c _ _ _ ⟨_, rfl⟩).mono ?_
  rintro e w9 ⟨rfl, h9⟩
  have hb9 : Below w8.heap.size w8 w9 := by
    have q : Below w8.heap.size w8 (w8.alloc (.cells #[.pointer (some ⟨K, 0, none⟩)] 55)) := (Below.refl _ _).alloc (Nat.le_refl _) _
    rw [h9]; exact q.alloc q.size _
  have O39 := hide (own_below O38.out hb9)
  have HB9 := hide hb9
  clear h9 hb9
  go_wp2_with fail
  refine (All_c _ _ F _ (Row8.of_own O39.out (by rw [HF.out, frameO_t0]; decide) (by rw [HFL.out]; decide))).mono ?_
  rintro e w10 ⟨X10, v10, p10, vs10, rfl, -, -, -, -, -, -, hb10⟩
  have hb810 := bstep HB9.out hb10
  have K10 := hide (K8.out.below hb810)
  have HK10 := hide (HK8.out.stays (hb810.block _ HK8.out.lt))
  have HX10 := hide (HX8.out.below hb810)
  have HB10 := hide (bstep HB8.out hb810)
  have O210 := hide (own_below O28.out hb810)
  have O310 := hide (own_below O39.out hb10)
  clear hb10 hb810 K8 HK8 HX8 HB8 O28 O38 O39 HB9
  have e18 : (ordCells t0 (.slice none 0 0)).length = 18 := ordCells_len _ _
  go_wp2_with (refine wpList_load_mid rfl 29 _ rfl T 0 rfl (ordCells t0 (.slice none 0 0)) _ ?_ Try.underlying29 rfl ?_ ?_; exact HX10.out.range; kernel_rfl)
  rw [lit_fold]
  have hb11 : Below w10.heap.size w10 (w10.alloc (.cells (ordCells t0 (.slice none 0 0)).toArray 29)) := (Below.refl _ _).alloc (Nat.le_refl _) _
  have HKB := hide K10.out.lt
  clear e18
  refine (Append_b (b0 := w.heap.size) (K10.out.below hb11) (OrdsIn.one (o := t0) (OffsIn.none _) rfl) (fun o ho => ?_) (by simp) (by simp) (by simp) ⟨fun b e => ?_, fun i hi h0 => ?_⟩ ?_ HKK.out (by have := HKK.out; omega)).mono ?_
  · rw [List.mem_singleton] at ho; subst ho; exact ⟨chk_t0, ordR_t0⟩
  · have e2 : w10.heap.size = b := Option.some.inj e
    refine ⟨by have := HKB.out; omega, ?_, ?_⟩ <;> (intro e3; cases e3)
  · obtain rfl : i = 0 := by simp at hi; omega
    exact absurd h0 (by decide)
  · have := HKB.out; rw [World.size_alloc]; omega
  rintro e w11 ⟨rfl, ⟨kv, kp, kvs, k11, -, -⟩, kt, hb11b⟩
  rw [List.nil_append, List.nil_append] at k11
  have K11 := hide k11
  have hst : ∀ i, i < w10.heap.size → i ≠ K → w11.heap[i]? = w10.heap[i]? := fun i hi hne => (kt.nil_block (Nat.lt_of_lt_of_le hi hb11.size) hne).trans (hb11.block i hi)
  have hTK : T ≠ K := HTK.out
  have HX11 := hide (HX10.out.stays (hst _ HX10.out.lt hTK))
  have HK11 := hide (HK10.out.stays (hst _ HK10.out.lt HXK.out))
  have O211 := hide (own_same O210.out (fun k hk hlt => hst k hlt (fun e => own_ne_box O210.out K10.out.hp (by decide) (by rw [hk, e]))))
  have O311 := hide (own_same O310.out (fun k hk hlt => hst k hlt (fun e => own_ne_box O310.out K10.out.hp (by decide) (by rw [hk, e]))))
  have HB11 := hide ((HB10.out.trans (hb11.mono HB10.out.size)).trans hb11b)
  clear hb11 kt k11 hst hTK hb11b HX10 HK10 O210 O310 HB10 K10 HKB
  have CO := hide (show Calls Try.prog 41 #[.pointer (some ⟨K, 0, none⟩), .int .i64 0] w11 (fun e w' => ∃ v', e = .returned (.tuple #[.agg (ordCells t0 v').toArray, .bool true]) ∧ w'.ownsRow w11.heap.size 93 2 v' 0 (flatF []) ∧ Below w11.heap.size w11 w') from Order_yes K11.out (fun o ho => by rw [List.mem_singleton] at ho; subst ho; exact ⟨ordR_t0, by decide⟩) (by simp) 0 (by simp))
  go_wp2_with fail
  refine CO.out.mono ?_
  rintro e w12 ⟨v12, rfl, o12, hb12⟩
  obtain ⟨p12, c12, rfl⟩ := own_any o12
  have TH := hide (alloc_there w12 t0 (.slice p12 0 c12))
  obtain ⟨W13, hW13⟩ : ∃ W13, W13 = (w12.alloc (.cells #[Value.int .i64 0, .string ⟨#[]⟩, .int .i64 0, .int .i64 0, .int .i64 0, .int .i64 0, .int .i64 0, .int .i64 0, .int .i64 0, .int .i64 0, .int .i64 0, .int .i64 0, .int .i64 0, .int .i64 0, .int .i64 0, .int .i64 0, .slice none 0 0, .int .i64 0] 29)).setCells w12.heap.size 0 (ordCells t0 (.slice p12 0 c12)) := ⟨_, rfl⟩
  have hb13 : Below w12.heap.size w12 W13 := by rw [hW13]; exact below_sets (Nat.le_refl _) _ _ _ ((Below.refl _ _).alloc (Nat.le_refl _) _)
  obtain ⟨Y, hY⟩ : ∃ Y, Y = w12.heap.size := ⟨_, rfl⟩
  have HY13 := hide (show BoxO W13 Y t0 (.slice p12 0 c12) by rw [hW13, hY]; exact (box_made w12 (zeroO 0) _).set _ _)
  have hb1113 := bstep hb12 hb13
  have K13 := hide (K11.out.below hb1113)
  have HX13 := hide (HX11.out.below hb1113)
  have HK13 := hide (HK11.out.stays (hb1113.block _ HK11.out.lt))
  have O213 := hide (own_below O211.out hb1113)
  have O313 := hide (own_below O311.out hb1113)
  have O13 := hide (own_below o12 hb13)
  have HB13 := hide (bstep HB11.out hb1113)
  have HW13 := hide hW13
  have HY := hide hY
  clear o12 hb12 hb13 hb1113 hW13 hY K11 HX11 HK11 O211 O311 HB11 CO HZ HZS HR HG e59 HTK HXK HKK
  go_wp2_with (refine wpList_store_mid rfl 29 _ _ rfl w12.heap.size 0 (ordCells t0 (.slice p12 0 c12)).toArray rfl ?_ ?_ ?_ ?_ ?_; exact rfl; exact TH.out; kernel_rfl; kernel_rfl; rw [show (w12.alloc (.cells #[Value.int .i64 0, .string ⟨#[]⟩, .int .i64 0, .int .i64 0, .int .i64 0, .int .i64 0, .int .i64 0, .int .i64 0, .int .i64 0, .int .i64 0, .int .i64 0, .int .i64 0, .int .i64 0, .int .i64 0, .int .i64 0, .int .i64 0, .slice none 0 0, .int .i64 0] 29)).setCells w12.heap.size 0 (ordCells t0 (.slice p12 0 c12)).toArray.toList = W13 from HW13.out.symm, ← HY.out])
  refine (sum9 W13).mono ?_
  rintro e WS ⟨rfl, hWS⟩
  have hbS : Below W13.heap.size W13 WS := by
    have q : Below W13.heap.size W13 (W13.alloc (.cells #[.int .u8 49, .int .u8 50, .int .u8 51, .int .u8 52, .int .u8 53, .int .u8 54, .int .u8 55, .int .u8 56, .int .u8 57] 5 (9, 10))) := (Below.refl _ _).alloc (Nat.le_refl _) _
    rw [hWS]; exact q.alloc q.size _
  have HKS := hide (K13.out.below hbS)
  have HXS := hide (HX13.out.below hbS)
  have HYS := hide (HY13.out.below hbS)
  have hks := HK13.out.stays (hbS.block _ HK13.out.lt)
  have x0 : WS.cell? ⟨X, 0, none⟩ = some (.slice pv 1 cv) := by rw [← S6.out.2.2]; exact hks.c 0 (by decide)
  have x2 : WS.cell? ⟨X, 2, none⟩ = some (.int .i64 8) := by rw [hks.c 2 (by decide)]; unfold bookedV; rw [S6.out.1]; rfl
  have x3 : WS.cell? ⟨X, 3, none⟩ = some (.int .i64 330) := by rw [hks.c 3 (by decide)]; unfold bookedV; rw [S6.out.2.1]; rfl
  have hcv : Sem.run Try.prog (convert 30 9 (.slice p2 G.length c2)) WS = .ok (.string ⟨#[6, 5]⟩) WS := by
    rw [conv_own (own_below O213.out hbS), HGS.out]; rfl
  have hfl : (F.length : Int) = 8 := by rw [HFL.out]; rfl
  have C30 := hide (fun (wn : World) (hb : Below WS.heap.size WS wn) => show Calls Try.prog 30 #[.pointer (some ⟨K, 0, none⟩)] wn (fun e w' => e = .returned (.int .i64 1) ∧ w' = wn) from KLen_c (HKS.out.below hb))
  have C31 := hide (fun (wn : World) (hb : Below WS.heap.size WS wn) => show Calls Try.prog 31 #[.pointer (some ⟨K, 0, none⟩)] wn (fun e w' => e = .returned (.int .i64 8) ∧ w' = wn) from by
    have q := KSize_c (HKS.out.below hb)
    have e : framesO [t0] = [0, 2, 6, 5, 228, 92, 54, 91] := by unfold framesO; simp [frameO_t0]
    rw [e] at q; exact q)
  have C15 := hide num_c
  have CQ := Same_c t0 t0 (.slice p12 0 c12) (.slice none 0 0) WS (OffsIn.of_own (own_below O13.out hbS) (by decide) (by decide)) (OffsIn.none _)
  rw [show sameO t0 t0 = true by kernel_rfl] at CQ
  unfold ordV at CQ
  have C21 := hide CQ
  have HBS := hide (bstep HB13.out hbS)
  clear hWS hbS hks CQ K13 HX13 HY13 HK13 O213 O313 O13 HB13 HKS S6 kc e55 TH HW13 HF HFL HT HY HGS
  go_wp2_with (first
    | (go_at_call 15; (apply Calls.mono; focus (exact C15.out _ _)); rintro e wz ⟨rfl, rfl⟩)
    | (refine wpList_load_midG rfl 29 _ rfl T 0 rfl (ordCells t0 (.slice none 0 0)) _ HXS.out.range Try.underlying29 rfl (by kernel_rfl) ?_)
    | (refine wpList_load_midG rfl 29 _ rfl Y 0 rfl (ordCells t0 (.slice p12 0 c12)) _ HYS.out.range Try.underlying29 rfl (by kernel_rfl) ?_)
    | (go_at_call 21; (apply Calls.mono; focus (exact C21.out)); rintro e wn ⟨rfl, hbn⟩; have HBN := hide hbn; clear hbn)
    | (go_at_call 30; (apply Calls.mono; focus (exact C30.out _ HBN.out)); rintro e wz ⟨rfl, rfl⟩)
    | (go_at_call 31; (apply Calls.mono; focus (exact C31.out _ HBN.out)); rintro e wz ⟨rfl, rfl⟩))
  refine bodyPost_ret (v := .bool true) (by simp [results, Try.f9, go_sem]) rfl ⟨rfl, bstep HBS.out HBN.out⟩
end Go.Proofs.Ytalnipjaekpbhaa

namespace Go.Proofs.Ytalnipjaekpbhaa
open Go.ChangeShapes Go.WideShapes Go.ChangeAt Go.RowKit Go.Deep
set_option linter.unusedSimpArgs false
set_option linter.unusedVariables false

section
variable {H : Type} {enc : TypeId × Value → H} {w : World} {base : Nat} {spare : Nat → Bool} {held : Bool}
theorem spot_addr {a : Addr} (h : a.spot = none) (n : Nat) : a.add n = ⟨a.block, a.off + n, none⟩ := by
  obtain ⟨b, o, s⟩ := a
  simp at h
  subst h
  unfold Addr.add
  split
  · (rename_i h; subst h; rfl)
  · rfl
theorem addr_of {a : Addr} (h : a.spot = none) : a = ⟨a.block, a.off, none⟩ := by
  obtain ⟨b, o, s⟩ := a
  simp at h
  subst h
  rfl
theorem wf_i64 {n : Int} (h : (Lit.int .i64 n).wf = true) : -9223372036854775808 ≤ n ∧ n ≤ 9223372036854775807 := by
  simp [Lit.wf, IntKind.min, IntKind.max, IntKind.bits, IntKind.signed] at h
  omega
theorem wf_u32 {n : Int} (h : (Lit.int .u32 n).wf = true) : 0 ≤ n ∧ n < 4294967296 := by
  simp [Lit.wf, IntKind.min, IntKind.max, IntKind.bits, IntKind.signed] at h
  omega
theorem wf_u8 {n : Int} (h : (Lit.int .u8 n).wf = true) : 0 ≤ n ∧ n < 256 := by
  simp [Lit.wf, IntKind.min, IntKind.max, IntKind.bits, IntKind.signed] at h
  omega
/-- offers that came in, whatever their number -/
structure OffsW (w : World) (v : Value) (l : List (Nat × Int)) : Prop where
  val : ∃ p c, v = .slice p l.length c
  at_ : ∀ j, j < l.length → ∃ b o c, v = .slice (some ⟨b, o, none⟩) l.length c ∧ w.cell? ⟨b, o + j * 2, none⟩ = some (.int .u32 ((l.getD j (0, 0)).1 : Int)) ∧ w.cell? ⟨b, o + j * 2 + 1, none⟩ = some (.int .i64 (l.getD j (0, 0)).2)
  o1 : ∀ x ∈ l, x.1 < 4294967296 ∧ -9223372036854775808 ≤ x.2 ∧ x.2 ≤ 9223372036854775807
  nil : ∀ n c, v = .slice none n c → c = 0
theorem OffsW.in_ {w : World} {v : Value} {l : List (Nat × Int)} (h : OffsW w v l) (hl : l.length ≤ 100) : OffsIn w v l := ⟨h.val, h.at_, fun x hx => (h.o1 x hx).1, by omega, h.nil⟩
/-- an order that came in, whatever its size -/
structure OrdW (w : World) (o : Ord) (ov : Value) : Prop where
  k0 : -9223372036854775808 ≤ o.kind
  k1 : o.kind ≤ 9223372036854775807
  n0 : ∀ j, -9223372036854775808 ≤ o.num j
  n1 : ∀ j, o.num j ≤ 9223372036854775807
  nm : ∀ x ∈ o.name, x < 256
  of : OffsW w ov o.offs
theorem OffsW.below {w w' : World} {v : Value} {l : List (Nat × Int)} (h : OffsW w v l) (hb : Below w.heap.size w w') : OffsW w' v l :=
  ⟨h.val, fun j hj => by obtain ⟨b, o, c, e, q1, q2⟩ := h.at_ j hj; exact ⟨b, o, c, e, cell_stay q1 (hb.block b (World.block_lt_of_cell? w _ q1)), cell_stay q2 (hb.block b (World.block_lt_of_cell? w _ q2))⟩, h.o1, h.nil⟩
theorem OrdW.below {w w' : World} {o : Ord} {ov : Value} (h : OrdW w o ov) (hb : Below w.heap.size w w') : OrdW w' o ov := ⟨h.k0, h.k1, h.n0, h.n1, h.nm, h.of.below hb⟩
theorem OrdW.r {w : World} {o : Ord} {ov : Value} (h : OrdW w o ov) (hl : o.name.length ≤ 1000) : OrdR o := ⟨h.k0, h.k1, h.n0, h.n1, h.of.o1, h.nm, by omega⟩
set_option maxRecDepth 100000 in
theorem off_of {fuel : Nat} {cs : List Value} {y : DataW H × List MemPlace} (h : DataW.trod enc Try.prog w base spare held fuel 93 cs = some y) : ∃ x : Nat × Int, cs = [.int .u32 (x.1 : Int), .int .i64 x.2] ∧ x.1 < 4294967296 ∧ -9223372036854775808 ≤ x.2 ∧ x.2 ≤ 9223372036854775807 := by
  obtain ⟨ys, n, _, rfl, hlc, hlen, hg⟩ := DataW.trod_struct Try.underlying93 h
  rw [show Try.prog.cellsOf 93 = 2 from by kernel_rfl] at hlc
  match ys, hlen, cs, hlc with
  | [y0, y1], _, [c0, c1], _ =>
    have g0 : DataW.trod enc Try.prog w base spare held n 91 (([c0, c1].drop 0).take (Try.prog.cellsOf 91)) = some y0 := hg 0 _ rfl
    have g1 : DataW.trod enc Try.prog w base spare held n 2 (([c0, c1].drop 1).take (Try.prog.cellsOf 2)) = some y1 := hg 1 _ rfl
    rw [show Try.prog.cellsOf 91 = 1 from by kernel_rfl] at g0
    rw [show Try.prog.cellsOf 2 = 1 from by kernel_rfl] at g1
    simp only [List.drop, List.take] at g0 g1
    obtain ⟨k, e0, -, h0⟩ := DataW.trod_int Try.underlying91 g0
    obtain ⟨z, e1, -, h1⟩ := DataW.trod_int Try.underlying2 g1
    injection e0 with e0 _
    injection e1 with e1 _
    have q0 := wf_u32 h0
    have q1 := wf_i64 h1
    exact ⟨(k.toNat, z), by rw [e0, e1, Int.toNat_of_nonneg q0.1], by show k.toNat < _; omega, q1.1, q1.2⟩
set_option maxRecDepth 100000 in
theorem offs_of {fuel : Nat} {v : Value} {y : DataW H × List MemPlace} (h : DataW.trod enc Try.prog w base spare held fuel 27 [v] = some y) : ∃ l, OffsW w v l := by
  rcases DataW.trod_slice Try.underlying27 h with ⟨h1, rfl⟩ | ⟨a, len, cap, elems, rest, n, _, h1, rfl, hb, hl, hm, hlen, hel, hsp, hns⟩
  · injection h1 with h1 _
    subst h1
    exact ⟨[], ⟨_, _, rfl⟩, fun j hj => (by cases hj), fun x hx => (by cases hx), fun n c e => (by cases e; rfl)⟩
  injection h1 with h1 _
  subst h1
  rw [show Try.prog.cellsOf 93 = 2 from by kernel_rfl] at hel
  have each : ∀ i, ∃ x : Nat × Int, i < len → (w.cells? base (a.add (i * 2)) 2 = some [.int .u32 (x.1 : Int), .int .i64 x.2]) ∧ x.1 < 4294967296 ∧ -9223372036854775808 ≤ x.2 ∧ x.2 ≤ 9223372036854775807 := by
    intro i
    by_cases hi : i < len
    · have h2 := hel i hi
      have hie : i < elems.length := by omega
      rw [List.getElem?_eq_getElem hie, Option.bind_eq_some_iff] at h2
      obtain ⟨cs', hcs, hy'⟩ := h2
      obtain ⟨x, rfl, h3⟩ := off_of hy'
      exact ⟨x, fun _ => ⟨hcs, h3⟩⟩
    · exact ⟨(0, 0), fun h => absurd h hi⟩
  obtain ⟨f, hf⟩ := Classical.axiomOfChoice each
  have hget : ∀ j, j < len → ((List.range len).map f).getD j (0, 0) = f j := fun j hj => by simp [List.getD, hj]
  refine ⟨(List.range len).map f, ⟨some a, cap, by simp⟩, fun j hj => ?_, fun x hx => ?_, fun n c e => by cases e⟩
  · have hj' : j < len := by simpa using hj
    have q := (World.cells?_some (hf j hj').1).2.2
    have q0 := q 0 (by decide)
    have q1 := q 1 (by decide)
    have hs0 : (a.add (j * 2)).add 0 = a.add (j * 2) := by simp [Addr.add]
    rw [hs0] at q0
    have q0' : w.cell? (a.add (j * 2)) = some (.int .u32 ((f j).1 : Int)) := q0
    have p0 := (World.cells?_some (hf 0 (by omega)).1).2.2 0 (by decide)
    rw [Nat.zero_mul, show (a.add 0).add 0 = a from by simp [Addr.add]] at p0
    have hsp : a.spot = none := World.cell?_spot (show w.cell? a = some (.int .u32 ((f 0).1 : Int)) from p0)
    rw [spot_addr hsp] at q0 q1
    rw [spot_addr rfl] at q1
    refine ⟨a.block, a.off, cap, by rw [← addr_of hsp]; simp, ?_, ?_⟩
    · rw [hget j hj']; exact q0
    · rw [hget j hj']; exact q1
  · obtain ⟨i, hi, rfl⟩ := List.mem_map.1 hx
    exact (hf i (by simpa using hi)).2
def numAt (cs : List Value) (j : Nat) : Int := if j ∈ numO then intOf (cs.getD j undef) else 0
set_option maxRecDepth 100000 in
set_option maxHeartbeats 1000000 in
theorem order_of {fuel : Nat} {cs : List Value} {y : DataW H × List MemPlace} (h : DataW.trod enc Try.prog w base spare held fuel 29 cs = some y) : ∃ o ov, cs = ordCells o ov ∧ OrdW w o ov := by
  obtain ⟨ys, n, _, rfl, hlc, hlen, hg⟩ := DataW.trod_struct Try.underlying29 h
  rw [show Try.prog.cellsOf 29 = 18 from by kernel_rfl] at hlc
  match ys, hlen, cs, hlc with
  | [y0, y1, y2, y3, y4, y5, y6, y7], _, [c0, c1, c2, c3, c4, c5, c6, c7, c8, c9, c10, c11, c12, c13, c14, c15, c16, c17], _ =>
    have g0 : DataW.trod enc Try.prog w base spare held n 22 (([c0, c1, c2, c3, c4, c5, c6, c7, c8, c9, c10, c11, c12, c13, c14, c15, c16, c17].drop 0).take (Try.prog.cellsOf 22)) = some y0 := hg 0 _ rfl
    have g1 : DataW.trod enc Try.prog w base spare held n 9 (([c0, c1, c2, c3, c4, c5, c6, c7, c8, c9, c10, c11, c12, c13, c14, c15, c16, c17].drop 1).take (Try.prog.cellsOf 9)) = some y1 := hg 1 _ rfl
    have g2 : DataW.trod enc Try.prog w base spare held n 2 (([c0, c1, c2, c3, c4, c5, c6, c7, c8, c9, c10, c11, c12, c13, c14, c15, c16, c17].drop 2).take (Try.prog.cellsOf 2)) = some y2 := hg 2 _ rfl
    have g3 : DataW.trod enc Try.prog w base spare held n 3 (([c0, c1, c2, c3, c4, c5, c6, c7, c8, c9, c10, c11, c12, c13, c14, c15, c16, c17].drop 3).take (Try.prog.cellsOf 3)) = some y3 := hg 3 _ rfl
    have g4 : DataW.trod enc Try.prog w base spare held n 3 (([c0, c1, c2, c3, c4, c5, c6, c7, c8, c9, c10, c11, c12, c13, c14, c15, c16, c17].drop 4).take (Try.prog.cellsOf 3)) = some y4 := hg 4 _ rfl
    have g5 : DataW.trod enc Try.prog w base spare held n 26 (([c0, c1, c2, c3, c4, c5, c6, c7, c8, c9, c10, c11, c12, c13, c14, c15, c16, c17].drop 5).take (Try.prog.cellsOf 26)) = some y5 := hg 5 _ rfl
    have g6 : DataW.trod enc Try.prog w base spare held n 27 (([c0, c1, c2, c3, c4, c5, c6, c7, c8, c9, c10, c11, c12, c13, c14, c15, c16, c17].drop 16).take (Try.prog.cellsOf 27)) = some y6 := hg 6 _ rfl
    have g7 : DataW.trod enc Try.prog w base spare held n 2 (([c0, c1, c2, c3, c4, c5, c6, c7, c8, c9, c10, c11, c12, c13, c14, c15, c16, c17].drop 17).take (Try.prog.cellsOf 2)) = some y7 := hg 7 _ rfl
    rw [show Try.prog.cellsOf 22 = 1 from by kernel_rfl] at g0
    rw [show Try.prog.cellsOf 9 = 1 from by kernel_rfl] at g1
    rw [show Try.prog.cellsOf 2 = 1 from by kernel_rfl] at g2 g7
    rw [show Try.prog.cellsOf 3 = 1 from by kernel_rfl] at g3 g4
    rw [show Try.prog.cellsOf 26 = 11 from by kernel_rfl] at g5
    rw [show Try.prog.cellsOf 27 = 1 from by kernel_rfl] at g6
    simp only [List.drop, List.take] at g0 g1 g2 g3 g4 g5 g6 g7
    obtain ⟨k0, e0, -, w0⟩ := DataW.trod_int Try.underlying22 g0
    obtain ⟨s, e1, -, -⟩ := DataW.trod_string Try.underlying9 g1
    obtain ⟨k2, e2, -, w2⟩ := DataW.trod_int Try.underlying2 g2
    obtain ⟨k3, e3, -, w3⟩ := DataW.trod_int Try.underlying3 g3
    obtain ⟨k4, e4, -, w4⟩ := DataW.trod_int Try.underlying3 g4
    obtain ⟨k17, e17, -, w17⟩ := DataW.trod_int Try.underlying2 g7
    obtain ⟨l, hl⟩ := offs_of g6
    obtain ⟨zs, m, _, rfl, hlc2, hlen2, hg2⟩ := DataW.trod_struct Try.underlying26 g5
    match zs, hlen2 with
    | [z0, z1, z2, z3, z4, z5, z6, z7, z8, z9, z10], _ =>
    have h0 : DataW.trod enc Try.prog w base spare held m 23 (([c5, c6, c7, c8, c9, c10, c11, c12, c13, c14, c15].drop 0).take (Try.prog.cellsOf 23)) = some z0 := hg2 0 _ rfl
    have h1 : DataW.trod enc Try.prog w base spare held m 2 (([c5, c6, c7, c8, c9, c10, c11, c12, c13, c14, c15].drop 1).take (Try.prog.cellsOf 2)) = some z1 := hg2 1 _ rfl
    have h2 : DataW.trod enc Try.prog w base spare held m 2 (([c5, c6, c7, c8, c9, c10, c11, c12, c13, c14, c15].drop 2).take (Try.prog.cellsOf 2)) = some z2 := hg2 2 _ rfl
    have h3 : DataW.trod enc Try.prog w base spare held m 2 (([c5, c6, c7, c8, c9, c10, c11, c12, c13, c14, c15].drop 3).take (Try.prog.cellsOf 2)) = some z3 := hg2 3 _ rfl
    have h4 : DataW.trod enc Try.prog w base spare held m 2 (([c5, c6, c7, c8, c9, c10, c11, c12, c13, c14, c15].drop 4).take (Try.prog.cellsOf 2)) = some z4 := hg2 4 _ rfl
    have h5 : DataW.trod enc Try.prog w base spare held m 2 (([c5, c6, c7, c8, c9, c10, c11, c12, c13, c14, c15].drop 5).take (Try.prog.cellsOf 2)) = some z5 := hg2 5 _ rfl
    have h6 : DataW.trod enc Try.prog w base spare held m 2 (([c5, c6, c7, c8, c9, c10, c11, c12, c13, c14, c15].drop 6).take (Try.prog.cellsOf 2)) = some z6 := hg2 6 _ rfl
    have h7 : DataW.trod enc Try.prog w base spare held m 2 (([c5, c6, c7, c8, c9, c10, c11, c12, c13, c14, c15].drop 7).take (Try.prog.cellsOf 2)) = some z7 := hg2 7 _ rfl
    have h8 : DataW.trod enc Try.prog w base spare held m 2 (([c5, c6, c7, c8, c9, c10, c11, c12, c13, c14, c15].drop 8).take (Try.prog.cellsOf 2)) = some z8 := hg2 8 _ rfl
    have h9 : DataW.trod enc Try.prog w base spare held m 3 (([c5, c6, c7, c8, c9, c10, c11, c12, c13, c14, c15].drop 9).take (Try.prog.cellsOf 3)) = some z9 := hg2 9 _ rfl
    have h10 : DataW.trod enc Try.prog w base spare held m 24 (([c5, c6, c7, c8, c9, c10, c11, c12, c13, c14, c15].drop 10).take (Try.prog.cellsOf 24)) = some z10 := hg2 10 _ rfl
    rw [show Try.prog.cellsOf 23 = 1 from by kernel_rfl] at h0
    rw [show Try.prog.cellsOf 2 = 1 from by kernel_rfl] at h1
    rw [show Try.prog.cellsOf 2 = 1 from by kernel_rfl] at h2
    rw [show Try.prog.cellsOf 2 = 1 from by kernel_rfl] at h3
    rw [show Try.prog.cellsOf 2 = 1 from by kernel_rfl] at h4
    rw [show Try.prog.cellsOf 2 = 1 from by kernel_rfl] at h5
    rw [show Try.prog.cellsOf 2 = 1 from by kernel_rfl] at h6
    rw [show Try.prog.cellsOf 2 = 1 from by kernel_rfl] at h7
    rw [show Try.prog.cellsOf 2 = 1 from by kernel_rfl] at h8
    rw [show Try.prog.cellsOf 3 = 1 from by kernel_rfl] at h9
    rw [show Try.prog.cellsOf 24 = 1 from by kernel_rfl] at h10
    simp only [List.drop, List.take] at h0 h1 h2 h3 h4 h5 h6 h7 h8 h9 h10
    obtain ⟨n0, f0, -, x0⟩ := DataW.trod_int Try.underlying23 h0
    injection f0 with f0 _
    subst f0
    obtain ⟨n1, f1, -, x1⟩ := DataW.trod_int Try.underlying2 h1
    injection f1 with f1 _
    subst f1
    obtain ⟨n2, f2, -, x2⟩ := DataW.trod_int Try.underlying2 h2
    injection f2 with f2 _
    subst f2
    obtain ⟨n3, f3, -, x3⟩ := DataW.trod_int Try.underlying2 h3
    injection f3 with f3 _
    subst f3
    obtain ⟨n4, f4, -, x4⟩ := DataW.trod_int Try.underlying2 h4
    injection f4 with f4 _
    subst f4
    obtain ⟨n5, f5, -, x5⟩ := DataW.trod_int Try.underlying2 h5
    injection f5 with f5 _
    subst f5
    obtain ⟨n6, f6, -, x6⟩ := DataW.trod_int Try.underlying2 h6
    injection f6 with f6 _
    subst f6
    obtain ⟨n7, f7, -, x7⟩ := DataW.trod_int Try.underlying2 h7
    injection f7 with f7 _
    subst f7
    obtain ⟨n8, f8, -, x8⟩ := DataW.trod_int Try.underlying2 h8
    injection f8 with f8 _
    subst f8
    obtain ⟨n9, f9, -, x9⟩ := DataW.trod_int Try.underlying3 h9
    injection f9 with f9 _
    subst f9
    obtain ⟨n10, f10, -, x10⟩ := DataW.trod_int Try.underlying24 h10
    injection f10 with f10 _
    subst f10
    injection e0 with e0 _
    injection e1 with e1 _
    injection e2 with e2 _
    injection e3 with e3 _
    injection e4 with e4 _
    injection e17 with e17 _
    subst e0 e1 e2 e3 e4 e17
    have hnum : ∀ j, -9223372036854775808 ≤ numAt [.int .i64 k0, .string s, .int .i64 k2, .int .i64 k3, .int .i64 k4, .int .i64 n0, .int .i64 n1, .int .i64 n2, .int .i64 n3, .int .i64 n4, .int .i64 n5, .int .i64 n6, .int .i64 n7, .int .i64 n8, .int .i64 n9, .int .i64 n10, c16, .int .i64 k17] j ∧ numAt [.int .i64 k0, .string s, .int .i64 k2, .int .i64 k3, .int .i64 k4, .int .i64 n0, .int .i64 n1, .int .i64 n2, .int .i64 n3, .int .i64 n4, .int .i64 n5, .int .i64 n6, .int .i64 n7, .int .i64 n8, .int .i64 n9, .int .i64 n10, c16, .int .i64 k17] j ≤ 9223372036854775807 := by
      intro j
      unfold numAt
      split
      · rename_i hj
        simp only [numO, List.mem_cons, List.not_mem_nil, or_false] at hj
        rcases hj with rfl | rfl | rfl | rfl | rfl | rfl | rfl | rfl | rfl | rfl | rfl | rfl | rfl | rfl | rfl
        · exact wf_i64 w2
        · exact wf_i64 w3
        · exact wf_i64 w4
        · exact wf_i64 x0
        · exact wf_i64 x1
        · exact wf_i64 x2
        · exact wf_i64 x3
        · exact wf_i64 x4
        · exact wf_i64 x5
        · exact wf_i64 x6
        · exact wf_i64 x7
        · exact wf_i64 x8
        · exact wf_i64 x9
        · exact wf_i64 x10
        · exact wf_i64 w17
      · decide
    refine ⟨{ kind := k0, name := sb s, num := numAt [.int .i64 k0, .string s, .int .i64 k2, .int .i64 k3, .int .i64 k4, .int .i64 n0, .int .i64 n1, .int .i64 n2, .int .i64 n3, .int .i64 n4, .int .i64 n5, .int .i64 n6, .int .i64 n7, .int .i64 n8, .int .i64 n9, .int .i64 n10, c16, .int .i64 k17], offs := l }, c16, ?_, ⟨(wf_i64 w0).1, (wf_i64 w0).2, fun j => (hnum j).1, fun j => (hnum j).2, fun x hx => ?_, hl⟩⟩
    · unfold ordCells
      simp only [bstr_sb]
      rfl
    · obtain ⟨b, _, rfl⟩ := List.mem_map.1 hx
      exact UInt8.toNat_lt b

/-- orders that came in, whatever their number -/
structure OrdsW (w : World) (v : Value) (ls : List Ord) (lvs : List Value) : Prop where
  val : ∃ p c, v = .slice p ls.length c
  l : ls.length = lvs.length
  at_ : ∀ i, i < ls.length → ∃ b o c, v = .slice (some ⟨b, o, none⟩) ls.length c ∧ b < w.heap.size ∧ ∀ j, j < 18 → w.cell? ⟨b, o + i * 18 + j, none⟩ = (ordCells (ls.getD i (zeroO 0)) (lvs.getD i undef))[j]?
  each : ∀ i, i < ls.length → OrdW w (ls.getD i (zeroO 0)) (lvs.getD i undef)
set_option maxRecDepth 100000 in
theorem orders_of {fuel : Nat} {v : Value} {y : DataW H × List MemPlace} (h : DataW.trod enc Try.prog w base spare held fuel 32 [v] = some y) : ∃ ls lvs, OrdsW w v ls lvs := by
  rcases DataW.trod_slice Try.underlying32 h with ⟨h1, rfl⟩ | ⟨a, len, cap, elems, rest, n, _, h1, rfl, hb, hl, hm, hlen, hel, hsp, hns⟩
  · injection h1 with h1 _
    subst h1
    exact ⟨[], [], ⟨_, _, rfl⟩, rfl, fun j hj => (by cases hj), fun j hj => (by cases hj)⟩
  injection h1 with h1 _
  subst h1
  rw [show Try.prog.cellsOf 29 = 18 from by kernel_rfl] at hel
  have each : ∀ i, ∃ x : Ord × Value, i < len → (w.cells? base (a.add (i * 18)) 18 = some (ordCells x.1 x.2)) ∧ OrdW w x.1 x.2 := by
    intro i
    by_cases hi : i < len
    · have h2 := hel i hi
      have hie : i < elems.length := by omega
      rw [List.getElem?_eq_getElem hie, Option.bind_eq_some_iff] at h2
      obtain ⟨cs', hcs, hy'⟩ := h2
      obtain ⟨o, ov, rfl, h3⟩ := order_of hy'
      exact ⟨(o, ov), fun _ => ⟨hcs, h3⟩⟩
    · exact ⟨(zeroO 0, undef), fun h => absurd h hi⟩
  obtain ⟨f, hf⟩ := Classical.axiomOfChoice each
  have hg1 : ∀ j, j < len → ((List.range len).map fun i => (f i).1).getD j (zeroO 0) = (f j).1 := fun j hj => by simp [List.getD, hj]
  have hg2 : ∀ j, j < len → ((List.range len).map fun i => (f i).2).getD j undef = (f j).2 := fun j hj => by simp [List.getD, hj]
  refine ⟨(List.range len).map fun i => (f i).1, (List.range len).map fun i => (f i).2, ⟨some a, cap, by simp⟩, by simp, fun i hi => ?_, fun i hi => ?_⟩
  · have hi' : i < len := by simpa using hi
    have q := (World.cells?_some (hf i hi').1).2.2
    have q0 := q 0 (by decide)
    have hs0 : (a.add (i * 18)).add 0 = a.add (i * 18) := by simp [Addr.add]
    rw [hs0] at q0
    have q0' : w.cell? (a.add (i * 18)) = some (.int .i64 (f i).1.kind) := q0
    have p0 := (World.cells?_some (hf 0 (by omega)).1).2.2 0 (by decide)
    rw [Nat.zero_mul, show (a.add 0).add 0 = a from by simp [Addr.add]] at p0
    have p0' : w.cell? a = some (.int .i64 (f 0).1.kind) := p0
    have hsp : a.spot = none := World.cell?_spot p0'
    rw [spot_addr hsp] at q0'
    refine ⟨a.block, a.off, cap, by rw [← addr_of hsp]; simp, World.block_lt_of_cell? w _ p0', fun j hj => ?_⟩
    rw [hg1 i hi', hg2 i hi']
    have qj := q j hj
    rw [spot_addr hsp, spot_addr rfl] at qj
    exact qj
  · have hi' : i < len := by simpa using hi
    rw [hg1 i hi', hg2 i hi']
    exact (hf i hi').2
/-- bytes that came in, whatever their number -/
structure BytesW (w : World) (v : Value) (ns : List Nat) : Prop where
  val : ∃ p c, v = .slice p ns.length c ∧ (p = none → ns = [] ∧ c = 0) ∧ ns.length ≤ c ∧ (ns ≠ [] → ∃ b off, p = some ⟨b, off, none⟩ ∧ b < w.heap.size ∧ ∀ j, j < ns.length → w.cell? ⟨b, off + j, none⟩ = some (.int .u8 (ns.getD j 0 : Int)))
  small : ∀ x ∈ ns, x < 256
theorem bytes_of {fuel : Nat} {v : Value} {y : DataW H × List MemPlace} (h : DataW.trod enc Try.prog w base (fun _ => true) held fuel 30 [v] = some y) : ∃ ns, BytesW w v ns := by
  rcases open_ints Try.underlying30 Try.underlying5 (by kernel_rfl) h with ⟨h1, rfl⟩ | ⟨a, len, cap, zs, h1, _, hl, _, hz, rfl, hc, hw⟩
  · injection h1 with h1 _
    exact ⟨[], ⟨none, 0, h1, fun _ => ⟨rfl, rfl⟩, by simp, fun h => absurd rfl h⟩, fun x hx => by cases hx⟩
  · injection h1 with h1 _
    have hzl : len ≤ zs.length := by rw [hz]; first | (split <;> omega) | (simp; omega) | omega
    have hlen : ((zs.take len).map Int.toNat).length = len := by simp; omega
    refine ⟨(zs.take len).map Int.toNat, ⟨some a, cap, by rw [h1, hlen], fun e => (by cases e), by rw [hlen]; exact hl, fun hne => ?_⟩, fun x hx => ?_⟩
    · have hpos : 0 < len := by
        rw [← hlen]; exact List.length_pos_iff.2 hne
      have c0 := hc 0 (by omega)
      have hsp : a.spot = none := by
        have := World.cell?_spot c0
        simpa [Addr.add] using this
      refine ⟨a.block, a.off, by rw [← addr_of hsp], ?_, fun j hj => ?_⟩
      · have := World.block_lt_of_cell? w _ c0
        simpa [Addr.add] using this
      · rw [hlen] at hj
        have cj := hc j (by omega)
        rw [spot_addr hsp] at cj
        rw [cj]
        have hjz : j < zs.length := by omega
        have e1 : zs.getD j 0 = zs[j] := by simp [List.getD, hjz]
        have e2 : ((zs.take len).map Int.toNat).getD j 0 = (zs[j]).toNat := by simp [List.getD, hjz, hj]
        rw [e1, e2]
        have := wf_u8 (hw zs[j] (List.getElem_mem hjz))
        rw [Int.toNat_of_nonneg this.1]
    · obtain ⟨z, hz', rfl⟩ := List.mem_map.1 hx
      have := wf_u8 (hw z (List.mem_of_mem_take hz'))
      omega
end
theorem BytesW.row8 {w : World} {p : Option Addr} {n c : Nat} {ns : List Nat} (h : BytesW w (.slice p n c) ns) (hl : ns.length ≤ 1099511627776) : Row8 w p c ns := by
  obtain ⟨p2, c2, e, q1, q2, q3⟩ := h.val
  injection e with e1 e2 e3
  subst e1 e3
  exact ⟨q1, q3, h.small, hl, q2⟩
end Go.Proofs.Ytalnipjaekpbhaa

namespace Go.Proofs.Ytalnipjaekpbhaa
open Go.ChangeShapes Go.WideShapes Go.ChangeAt Go.RowKit Go.Deep
set_option linter.unusedSimpArgs false
set_option linter.unusedVariables false

def SmallO (o : Ord) : Prop := o.offs.length ≤ 100 ∧ o.name.length ≤ 1000
def GreatNo (ls : List Ord) : Prop := ls.length ≤ 200 ∧ ∀ i, i < ls.length → SmallO (ls.getD i (zeroO 0))
def GreatPost (w : World) (ls : List Ord) (e : Ending) (w' : World) : Prop := ∃ r, e = .returned (.bool r) ∧ w' = w ∧ (r = false → GreatNo ls)
set_option maxRecDepth 100000 in
set_option maxHeartbeats 2000000 in
theorem great_c {w : World} {v : Value} {ls : List Ord} {lvs : List Value} (h : OrdsW w v ls lvs) : Calls Try.prog 8 #[v] w (GreatPost w ls) := by
  obtain ⟨p, c, hv⟩ := h.val
  subst hv
  have H := hide h
  clear h
  go_enter Try.func8, Try.ntmps8
  go_wp2_with fail
  go_loopw [3] (fun v3 wr => ∃ j : Nat, v3 = .int .i64 (j : Int) ∧ j ≤ 201 ∧ (∀ i, i < j → i < ls.length → SmallO (ls.getD i (zeroO 0))) ∧ wr = w) (fun v3 _ => 201 - (intOf v3).toNat)
  case atStart => exact ⟨0, rfl, by omega, fun i hi => absurd hi (Nat.not_lt_zero i), rfl⟩
  case round =>
    obtain ⟨j, rfl, hj, hsm, rfl⟩ := hrel
    have HS := hide hsm
    have hj0 : (0 : Int) ≤ (j : Int) := by omega
    clear hsm
    by_cases hlt : j < ls.length
    · have hltI : (j : Int) < (ls.length : Int) := by omega
      by_cases h2 : j ≤ 200
      · have h2I : (j : Int) ≤ 200 := by omega
        obtain ⟨b, off, c2, e, hb, hc⟩ := H.out.at_ j hlt
        injection e with e _ ec
        subst e ec
        have hw := H.out.each j hlt
        obtain ⟨L, hL⟩ : ∃ L, L = ls.getD j (zeroO 0) := ⟨_, rfl⟩
        obtain ⟨lv, hlv⟩ : ∃ L, L = lvs.getD j undef := ⟨_, rfl⟩
        rw [← hL, ← hlv] at hc hw
        obtain ⟨pv, pc, hlv2⟩ := hw.of.val
        subst hlv2
        have x1 : wr.cell? ⟨b, off + j * 18 + 1, none⟩ = some (.string (bstr L.name)) := hc 1 (by decide)
        have x16 : wr.cell? ⟨b, off + j * 18 + 16, none⟩ = some (.slice pv L.offs.length pc) := hc 16 (by decide)
        have hsz := bstr_size L.name
        have HL := hide hL
        clear hc hw hlv hL
        by_cases h1 : 100 < L.offs.length
        · have h1I : (100 : Int) < (L.offs.length : Int) := by omega
          go_wp2_with fail
          refine bodyPost_ret (v := .bool true) (by simp [results, Try.f8, go_sem]) rfl ⟨true, rfl, rfl, fun e => by cases e⟩
        · have h1I : (L.offs.length : Int) ≤ 100 := by omega
          by_cases h3 : 1000 < L.name.length
          · have h3I : (1000 : Int) < (L.name.length : Int) := by omega
            go_wp2_with fail
            refine bodyPost_ret (v := .bool true) (by simp [results, Try.f8, go_sem]) rfl ⟨true, rfl, rfl, fun e => by cases e⟩
          · have h3I : (L.name.length : Int) ≤ 1000 := by omega
            have HSM := hide (show SmallO L from ⟨by omega, by omega⟩)
            go_wp2_with fail
            go_roundw
            case rel =>
              refine ⟨j + 1, by go_num, by omega, fun i hi hil => ?_, trivial⟩
              rcases Nat.lt_or_ge i j with h5 | h5
              · exact HS.out i h5 hil
              · obtain rfl : i = j := by omega
                rw [← HL.out]; exact HSM.out
            case measure => (first | (simp [intOf]; done) | (simp [intOf]; omega))
      · have h2I : ¬ ((j : Int) ≤ 200) := by omega
        have h3I : (200 : Int) < (ls.length : Int) := by omega
        go_wp2_with fail
        refine bodyPost_ret (v := .bool true) (by simp [results, Try.f8, go_sem]) rfl ⟨true, rfl, rfl, fun e => by cases e⟩
    · have hltI : ¬ ((j : Int) < (ls.length : Int)) := by omega
      by_cases h3 : 200 < ls.length
      · have h3I : (200 : Int) < (ls.length : Int) := by omega
        go_wp2_with fail
        refine bodyPost_ret (v := .bool true) (by simp [results, Try.f8, go_sem]) rfl ⟨true, rfl, rfl, fun e => by cases e⟩
      · have h3I : ¬ ((200 : Int) < (ls.length : Int)) := by omega
        have HG := hide (show GreatNo ls from ⟨by omega, fun i hi => HS.out i (by omega) hi⟩)
        go_wp2_with fail
        refine bodyPost_ret (v := .bool false) (by simp [results, Try.f8, go_sem]) rfl ⟨false, rfl, rfl, fun _ => HG.out⟩
end Go.Proofs.Ytalnipjaekpbhaa

namespace Go.Proofs.Ytalnipjaekpbhaa
open Go.ChangeShapes Go.WideShapes Go.ChangeAt Go.RowKit Go.Deep
set_option linter.unusedSimpArgs false
set_option linter.unusedVariables false

def fO (o : Ord) : List Nat := if chk o then formO o else []
def gO (o : Ord) : List Nat := if chk o then frameO o else []
theorem nil8 (w : World) (B : Nat) : w.ownsRow B 5 1 (.slice none 0 0) 0 (u8L []) := ⟨rfl, .inl ⟨rfl, rfl⟩⟩
theorem Form_u (o : Ord) (ov : Value) (w : World) (ho : OffsIn w ov o.offs) (hr : OrdR o) : Calls Try.prog 11 #[.agg (ordCells o ov).toArray] w fun e w' => ∃ v, e = .returned (.tuple #[v, .int .i64 (cond (chk o) 0 2)]) ∧ w'.ownsRow w.heap.size 5 1 v (fO o).length (u8L (fO o)) ∧ Below w.heap.size w w' := by
  cases hc : chk o with
  | true =>
    refine (Form_ok o ov w ho hc hr).mono ?_
    rintro e w' ⟨v, h1, h2, h3⟩
    exact ⟨v, h1, by unfold fO; rw [hc]; exact h2, h3⟩
  | false =>
    refine (Form_bad o ov w ho hc).mono ?_
    rintro e w' ⟨h1, h3⟩
    exact ⟨_, h1, by unfold fO; rw [hc]; exact nil8 _ _, h3⟩
theorem Frame_u (o : Ord) (ov : Value) (w : World) (ho : OffsIn w ov o.offs) (hr : OrdR o) : Calls Try.prog 12 #[.agg (ordCells o ov).toArray] w fun e w' => ∃ v, e = .returned (.tuple #[v, .int .i64 (cond (chk o) 0 2)]) ∧ w'.ownsRow w.heap.size 5 1 v (gO o).length (u8L (gO o)) ∧ Below w.heap.size w w' := by
  cases hc : chk o with
  | true =>
    refine (Frame_ok o ov w ho hc hr (formO_len hr hc) (formO_lt hr ((chk_iff o).1 hc).k1 hc)).mono ?_
    rintro e w' ⟨v, h1, h2, h3⟩
    exact ⟨v, h1, by unfold gO; rw [hc]; exact h2, h3⟩
  | false =>
    refine (Frame_bad o ov w ho hc).mono ?_
    rintro e w' ⟨h1, h3⟩
    exact ⟨_, h1, by unfold gO; rw [hc]; exact nil8 _ _, h3⟩
theorem rForm_u (o : Ord) (ov : Value) (w : World) (ho : OffsIn w ov o.offs) (hr : OrdR o) : Calls Try.prog 13 #[.agg (ordCells o ov).toArray] w fun e w' => ∃ v, e = .returned (.tuple #[v, .int .i64 (cond (chk o) 0 2)]) ∧ w'.ownsRow w.heap.size 5 1 v (fO o).length (u8L (fO o)) ∧ Below w.heap.size w w' := by
  cases hc : chk o with
  | true =>
    refine (rForm_ok o ov w ho hc hr).mono ?_
    rintro e w' ⟨v, h1, h2, h3⟩
    exact ⟨v, h1, by unfold fO; rw [hc]; exact h2, h3⟩
  | false =>
    refine (rForm_bad o ov w ho hc).mono ?_
    rintro e w' ⟨h1, h3⟩
    exact ⟨_, h1, by unfold fO; rw [hc]; exact nil8 _ _, h3⟩
theorem rFrame_u (o : Ord) (ov : Value) (w : World) (ho : OffsIn w ov o.offs) (hr : OrdR o) : Calls Try.prog 14 #[.agg (ordCells o ov).toArray] w fun e w' => ∃ v, e = .returned (.tuple #[v, .int .i64 (cond (chk o) 0 2)]) ∧ w'.ownsRow w.heap.size 5 1 v (gO o).length (u8L (gO o)) ∧ Below w.heap.size w w' := by
  cases hc : chk o with
  | true =>
    refine (rFrame_ok o ov w ho hc hr (formO_len hr hc) (formO_lt hr ((chk_iff o).1 hc).k1 hc)).mono ?_
    rintro e w' ⟨v, h1, h2, h3⟩
    exact ⟨v, h1, by unfold gO; rw [hc]; exact h2, h3⟩
  | false =>
    refine (rFrame_bad o ov w ho hc).mono ?_
    rintro e w' ⟨h1, h3⟩
    exact ⟨_, h1, by unfold gO; rw [hc]; exact nil8 _ _, h3⟩
theorem rows_eq {a b : List Nat} {s : Bool} (ha : ∀ x ∈ a, x < 256) (hb : ∀ x ∈ b, x < 256) (h : decide (a = b) = s) : ((bstr a).toList == (bstr b).toList) = s := by
  rw [← h, Bool.eq_iff_iff, beq_iff_eq, decide_eq_true_eq]
  exact ⟨fun e => bstr_inj ha hb e, fun e => by rw [e]⟩
theorem rows_same (a : List Nat) : ((bstr a).toList == (bstr a).toList) = true := by rw [beq_iff_eq]
/-- what is written is read again -/
theorem read_again {o : Ord} (hc : chk o = true) (hr : OrdR o) : ∃ o2, readO (formO o) = some o2 ∧ sameO o2 o = true ∧ (∀ x ∈ o2.offs, x.1 < 4294967296) ∧ o2.offs.length ≤ 64 := by
  obtain ⟨o2, h1, h2⟩ := readO_form hc hr
  exact ⟨o2, h1, h2.same, fun x hx => (hr.o1 x (by rw [← h2.f]; exact hx)).1, by rw [h2.f]; exact chk_offs hc⟩
theorem fill2 (a b : Ord) (va vb : Value) : Instr.fill (fun i => some (i * 18, 18)) ((Array.range (2 * 18)).map ((Value.agg #[Value.int .i64 0, .string ⟨#[]⟩, .int .i64 0, .int .i64 0, .int .i64 0, .int .i64 0, .int .i64 0, .int .i64 0, .int .i64 0, .int .i64 0, .int .i64 0, .int .i64 0, .int .i64 0, .int .i64 0, .int .i64 0, .int .i64 0, .slice none 0 0, .int .i64 0]).cells[· % (Value.agg #[Value.int .i64 0, .string ⟨#[]⟩, .int .i64 0, .int .i64 0, .int .i64 0, .int .i64 0, .int .i64 0, .int .i64 0, .int .i64 0, .int .i64 0, .int .i64 0, .int .i64 0, .int .i64 0, .int .i64 0, .int .i64 0, .int .i64 0, .slice none 0 0, .int .i64 0]).cells.size]!)) [(0, .agg (ordCells a va).toArray), (1, .agg (ordCells b vb).toArray)] = some (ordCells a va ++ ordCells b vb).toArray := by kernel_rfl
theorem OrdsW.two {w : World} {a b : Ord} {va vb : Value} (ha : OrdW w a va) (hb : OrdW w b vb) : OrdsW (w.alloc (.cells (ordCells a va ++ ordCells b vb).toArray 29)) (.slice (some ⟨w.heap.size, 0, none⟩) 2 2) [a, b] [va, vb] := by
  have hbl : Below w.heap.size w (w.alloc (.cells (ordCells a va ++ ordCells b vb).toArray 29)) := (Below.refl _ _).alloc (Nat.le_refl _) _
  have hc : ∀ j, (w.alloc (.cells (ordCells a va ++ ordCells b vb).toArray 29)).cell? ⟨w.heap.size, j, none⟩ = (ordCells a va ++ ordCells b vb)[j]? := fun j => by
    rw [cell_of_row _ w.heap.size _ _ 29 (0, 0) (heap_alloc_new w _)]; simp
  refine ⟨⟨_, _, rfl⟩, rfl, fun i hi => ⟨w.heap.size, 0, 2, rfl, by simp, fun j hj => ?_⟩, fun i hi => ?_⟩
  · have h2 : i < 2 := hi
    rw [hc]
    obtain rfl | rfl : i = 0 ∨ i = 1 := by omega
    · rw [List.getElem?_append_left (by rw [ordCells_len]; omega), show 0 + 0 * 18 + j = j by omega]; rfl
    · rw [List.getElem?_append_right (by rw [ordCells_len]; omega), ordCells_len, show 0 + 1 * 18 + j - 18 = j by omega]; rfl
  · have h2 : i < 2 := hi
    obtain rfl | rfl : i = 0 ∨ i = 1 := by omega
    · exact ha.below hbl
    · exact hb.below hbl
theorem OrdsW.lone {w : World} {a : Ord} {va : Value} (ha : OrdW w a va) : OrdsW (w.alloc (.cells (ordCells a va).toArray 29)) (.slice (some ⟨w.heap.size, 0, none⟩) 1 1) [a] [va] := by
  have hbl : Below w.heap.size w (w.alloc (.cells (ordCells a va).toArray 29)) := (Below.refl _ _).alloc (Nat.le_refl _) _
  refine ⟨⟨_, _, rfl⟩, rfl, fun i hi => ⟨w.heap.size, 0, 1, rfl, by simp, fun j hj => ?_⟩, fun i hi => ?_⟩
  · obtain rfl : i = 0 := by simp at hi; omega
    rw [show 0 + 0 * 18 + j = j by omega]
    exact (box_made w a va).c j hj
  · obtain rfl : i = 0 := by simp at hi; omega
    exact ha.below hbl
end Go.Proofs.Ytalnipjaekpbhaa

