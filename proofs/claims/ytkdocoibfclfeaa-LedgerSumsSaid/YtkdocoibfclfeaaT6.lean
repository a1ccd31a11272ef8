import Derived.Maps.AppendAt
import Derived.Deep.AppendLies
import Derived.Laws.OwnMore
import Derived.Test.YtkdocoibfclfeaaT5
namespace Go.Proofs.Ytkdocoibfclfeaa
open Go.ChangeShapes Go.WideShapes Go.ChangeAt Go.RowKit Go.Deep Go.Maps Go.ChangeMaps Go.WideMaps
set_option linter.unusedSimpArgs false
set_option linter.unusedVariables false

def BehPost (A : List Acc) (p : List Ent) (w : World) (e : Ending) (w' : World) : Prop := ∃ v, e = .returned (.tuple #[v, .int .i64 (mayE A p)]) ∧ Below w.heap.size w w' ∧ (mayE A p = 0 → ∃ mh cnt, v = .map (some mh) ∧ w.heap.size ≤ mh ∧ cnt ≤ p.length ∧ MapIs Try.prog 3 w' mh cnt (behF A p))
theorem may_2 {A : List Acc} {p : List Ent} (h : ¬ Formed p) : mayE A p = 2 := by unfold mayE; rw [if_pos h]
set_option maxRecDepth 100000 in
set_option maxHeartbeats 4000000 in
theorem behind_b (I : Nat → Prop) (F : Fp) (S : LS) (so : Option Addr) (cap : Nat) (p : List Ent) (w : World) (h : LObj I F S w) (hE : Ents so cap p w) (hf : ¬ Formed p) : Calls Try.prog 27 #[.pointer (some ⟨F.b, 0, none⟩), .slice so p.length cap] w (BehPost S.acc p w) := by
  have HE := hide hE
  have HFm := hide hf
  have hb := h.lt (.inl rfl)
  have HB0 := hide h.b0
  clear h hE hf
  go_enter Try.func27, Try.ntmps27
  go_wp2
  go_step3
  go_wp2_with (first
    | (go_at_call 22; refine (isLedger _ F.b F.t (((Below.refl w.heap.size w).alloc (Nat.le_refl _) _).cell (p := ⟨F.b, 0, none⟩) hb |>.trans HB0.out)).mono ?_; rintro e w' ⟨rfl, rfl⟩)
    | (go_at_call 51; refine (formed_c so cap p _ (HE.out.below ((Below.refl w.heap.size w).alloc (Nat.le_refl _) _))).mono ?_; rintro e wF ⟨rfl, hbF⟩; rw [formedB_no HFm.out]))
  rw [Exit.noGoto_ret]
  refine bodyPost_ret (v := .tuple #[.map none, .int .i64 2]) (by simp [results, Try.f27, go_sem]) rfl ?_
  exact ⟨_, by rw [may_2 HFm.out], ((Below.refl w.heap.size w).alloc (Nat.le_refl _) _).trans (hbF.mono (by simp)), fun q => by rw [may_2 HFm.out] at q; cases q⟩
theorem behind_c (I : Nat → Prop) (F : Fp) (S : LS) (so : Option Addr) (cap : Nat) (p : List Ent) (w : World) (h : LObj I F S w) (hE : Ents so cap p w) (hS : Sound S.acc) : Calls Try.prog 27 #[.pointer (some ⟨F.b, 0, none⟩), .slice so p.length cap] w (BehPost S.acc p w) := by
  by_cases hf : Formed p
  · exact behind_a I F S so cap p w h hE hS hf
  · exact behind_b I F S so cap p w h hE hf
set_option maxHeartbeats 1000000 in
theorem behind_nil (so : Option Addr) (n cap : Nat) (w : World) : Calls Try.prog 27 #[.pointer none, .slice so n cap] w fun e w' => e = .returned (.tuple #[.map none, .int .i64 1]) ∧ Below w.heap.size w w' := by
  go_enter Try.func27, Try.ntmps27
  go_wp2
  go_step3
  go_wp2_with (go_at_call 22; refine (noLedger _).mono ?_; rintro e w' ⟨rfl, rfl⟩)
  rw [Exit.noGoto_ret]
  exact bodyPost_ret (v := .tuple #[.map none, .int .i64 1]) (by simp [results, Try.f27, go_sem]) rfl ⟨rfl, (Below.refl w.heap.size w).alloc (Nat.le_refl _) _⟩
set_option maxHeartbeats 1000000 in
theorem behind_zero (b : Nat) (so : Option Addr) (n cap : Nat) (w : World) (h : w.cell? ⟨b, 0, none⟩ = some (.pointer none)) : Calls Try.prog 27 #[.pointer (some ⟨b, 0, none⟩), .slice so n cap] w fun e w' => e = .returned (.tuple #[.map none, .int .i64 1]) ∧ Below w.heap.size w w' := by
  have hb := World.block_lt_of_cell? w _ h
  have h' := cell_stay h (Below.heap_alloc w (.cells #[.pointer (some ⟨b, 0, none⟩)] 25) _ hb)
  go_enter Try.func27, Try.ntmps27
  go_wp2
  go_step3
  go_wp2_with (go_at_call 22; refine (zeroLedger _ b h').mono ?_; rintro e w' ⟨rfl, rfl⟩)
  rw [Exit.noGoto_ret]
  exact bodyPost_ret (v := .tuple #[.map none, .int .i64 1]) (by simp [results, Try.f27, go_sem]) rfl ⟨rfl, (Below.refl w.heap.size w).alloc (Nat.le_refl _) _⟩
set_option maxHeartbeats 1000000 in
theorem May_c (I : Nat → Prop) (F : Fp) (S : LS) (so : Option Addr) (cap : Nat) (p : List Ent) (w : World) (h : LObj I F S w) (hE : Ents so cap p w) (hS : Sound S.acc) : Calls Try.prog 10 #[.pointer (some ⟨F.b, 0, none⟩), .slice so p.length cap] w fun e w' => e = .returned (.int .i64 (mayE S.acc p)) ∧ Below w.heap.size w w' := by
  have H := hide h
  have HE := hide hE
  have HS := hide hS
  clear h hE hS
  go_enter Try.func10, Try.ntmps10
  go_wp2_with (go_at_call 27; refine (behind_c I F S so cap p _ H.out HE.out HS.out).mono ?_; rintro e w1 ⟨v, rfl, hb1, -⟩)
  refine bodyPost_ret (v := .int .i64 (mayE S.acc p)) (by simp [results, Try.f10, go_sem]) rfl ⟨rfl, hb1⟩
set_option maxHeartbeats 1000000 in
theorem May_nil (so : Option Addr) (n cap : Nat) (w : World) : Calls Try.prog 10 #[.pointer none, .slice so n cap] w fun e w' => e = .returned (.int .i64 1) ∧ Below w.heap.size w w' := by
  go_enter Try.func10, Try.ntmps10
  go_wp2_with (go_at_call 27; refine (behind_nil so n cap _).mono ?_; rintro e w1 ⟨rfl, hb1⟩)
  exact bodyPost_ret (v := .int .i64 1) (by simp [results, Try.f10, go_sem]) rfl ⟨rfl, hb1⟩
set_option maxHeartbeats 1000000 in
theorem May_zero (b : Nat) (so : Option Addr) (n cap : Nat) (w : World) (h : w.cell? ⟨b, 0, none⟩ = some (.pointer none)) : Calls Try.prog 10 #[.pointer (some ⟨b, 0, none⟩), .slice so n cap] w fun e w' => e = .returned (.int .i64 1) ∧ Below w.heap.size w w' := by
  have H := hide h
  clear h
  go_enter Try.func10, Try.ntmps10
  go_wp2_with (go_at_call 27; refine (behind_zero b so n cap _ H.out).mono ?_; rintro e w1 ⟨rfl, hb1⟩)
  exact bodyPost_ret (v := .int .i64 1) (by simp [results, Try.f10, go_sem]) rfl ⟨rfl, hb1⟩
theorem info63 : (Try.prog.info? 63).map (fun i => (i.zero, i.size, i.bytes)) = some (some (.agg #[.string ⟨#[]⟩, .int .i64 0]), 2, 24) := by kernel_rfl
theorem eql33 (a : Addr) (n cap : Nat) (w : World) : Sem.run Try.prog (binOp .eql 33 (.slice (some a) n cap) (.slice none 0 0)) w = .ok (.bool false) w := by kernel_rfl
theorem eql33n (w : World) : Sem.run Try.prog (binOp .eql 33 (.slice none 0 0) (.slice none 0 0)) w = .ok (.bool true) w := by kernel_rfl
theorem made0 (w : World) (t size : Nat) (hs : 0 < size) : (w.alloc (.cells #[] t)).ownsRow w.heap.size t size (.slice (some ⟨w.heap.size, 0, none⟩) 0 0) 0 [] :=
  ⟨by simp, .inr ⟨_, 0, #[], rfl, Nat.le_refl _, heap_alloc_new w _, by decide, by decide, by simp, by simp⟩⟩
set_option maxRecDepth 100000 in
set_option maxHeartbeats 2000000 in
theorem Clone_some (ad : Addr) (cap : Nat) (p : List Ent) (w : World) (hL : p.length ≤ 1048576) (hc : ∀ j u, (flatE p)[j]? = some u → w.cell? (ad.add j) = some u) : Calls Try.prog 28 #[.slice (some ad) p.length cap] w (fun e w' => ∃ v', e = .returned v' ∧ w'.ownsRow w.heap.size 63 2 v' p.length (flatE p) ∧ Below w.heap.size w w') := by
  obtain ⟨i0, hi0, hz0, hz1, hz2⟩ := info_parts info63
  have Hn := hide (show ∀ j u, (flatE p)[j]? = some u → (w.alloc (.cells #[] 63)).cell? (ad.add j) = some u from fun j u hu =>
    ((Below.refl w.heap.size w).alloc (Nat.le_refl _) (.cells #[] 63)).cell (p := ad.add j) (World.block_lt_of_cell? w _ (hc j u hu)) |>.trans (hc j u hu))
  have Q := eql33
  clear hc
  go_enter Try.func28, Try.ntmps28
  go_wp2_with (at_builtin; refine wpList_append_own _ rfl _ _ 33 rfl w.heap.size 63 i0 _ 2 24 Try.underlying33 hi0 hz0 hz1 hz2 rfl (by decide) (.slice (some ⟨w.heap.size, 0, none⟩) 0 0) 0 [] rfl (made0 w 63 2 (by decide)) ad p.length cap (flatE p) rfl (flatE_len p) Hn.out (flatE_one p) (by unfold maxLen; omega) (by omega) (by simp) ?_; intro v' wn hown2 hg2 _)
  go_ret
  refine ⟨v', rfl, by (rw [Nat.zero_add, List.nil_append] at hown2; exact hown2), ((Below.refl w.heap.size w).alloc (Nat.le_refl _) (.cells #[] 63)).grown hg2 (by simp) (fun k hk => ?_)⟩
  have q' : w.heap.size = k := Option.some.inj hk
  omega
set_option maxHeartbeats 1000000 in
theorem Clone_nil (w : World) : Calls Try.prog 28 #[.slice none 0 0] w (fun e w' => e = .returned (.slice none 0 0) ∧ Below w.heap.size w w') := by
  have Q := eql33n
  go_enter Try.func28, Try.ntmps28
  go_wp2
  go_ret
  exact ⟨rfl, by (focus repeat' (first | (with_reducible exact Below.refl _ _) | (with_reducible assumption) | (with_reducible refine Below.alloc ?_ ?_ _) | (with_reducible refine Below.drew ?_) | (with_reducible refine bdrewN ?_ _) | (with_reducible refine Below.setCell ?_ ?_ _) | (first | (with_reducible exact Nat.le_refl _) | (with_reducible assumption) | omega | (simp; omega) | (simp; done))))⟩
theorem Clone_c (so : Option Addr) (cap : Nat) (p : List Ent) (w : World) (hL : p.length ≤ 1048576) (h : Ents so cap p w) : Calls Try.prog 28 #[.slice so p.length cap] w (fun e w' => ∃ v', e = .returned v' ∧ w'.ownsRow w.heap.size 63 2 v' p.length (flatE p) ∧ Below w.heap.size w w') := by
  cases so with
  | none =>
    obtain ⟨h1, rfl⟩ := h.nil rfl
    have e : p = [] := List.length_eq_zero_iff.1 h1
    subst e
    exact (Clone_nil w).mono (fun e w' q => ⟨_, q.1, World.ownsRow_nil _ _ _ _, q.2⟩)
  | some ad => exact Clone_some ad cap p w hL (h.cells ad rfl)
end Go.Proofs.Ytkdocoibfclfeaa
