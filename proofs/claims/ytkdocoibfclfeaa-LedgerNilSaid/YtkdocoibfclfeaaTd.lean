import Derived.Test.YtkdocoibfclfeaaTc
import Derived.Laws.EntriesVeiled
import Derived.Sort.LoopGhostIn
namespace Go.Proofs.Ytkdocoibfclfeaa
open Go.ChangeShapes Go.WideShapes Go.ChangeAt Go.RowKit Go.Deep Go.Shelf Go.Maps Go.WideMaps Ytkdocoibfclfeaa.it
set_option linter.unusedSimpArgs false
set_option linter.unusedVariables false

attribute [local go_sem] Oper.semAt_some

/-- a range over an iterator that tells nothing -/
theorem range_none {P : Program} {n : Nat} {g : Operand} {ps : Array Tmp} {assign body : Code} {Q : Exit → Act → World → Prop} {a : Act} {w : World} (h1 : 1 ≤ n) {gf : Nat} {lb : Array Value} (hg : a.eval g = .func (.func gf) #[] lb)
    (eg : ∀ args w, (callFunc gf args).run P w = .ok (.enter gf args) w)
    (hcall : ∀ l W, Below w.heap.size w W → CallsIn Fence.wide (n - 1) P gf (#[.func (.yield l) #[] #[]] ++ lb) W fun e V' => (∃ v, e = .returned v) ∧ Below W.heap.size W V')
    (hdone : ∀ D W, w.heap.size ≤ D → Below w.heap.size w W → W.heap[D]? = some (.deferred (some [])) → Q .normal { a with defers := { target := .collected D, args := #[] } :: a.defers } W) :
    (Code.rangeFunc g ps assign body).wpIn Fence.wide n P Q a w := by
  have hseq : SeqR (α := Empty) (n - 1) P gf lb (fun x => x.elim) (fun _ => False) (fun _ => True) (fun _ => False) (fun _ _ => False) w := by
    intro l J Jx W hbW hJ hJx hY h0
    refine (hcall l W hbW).mono ?_
    rintro e V ⟨hv, hb⟩
    exact ⟨hv, .inl ⟨[], trivial, hJ _ _ _ h0 hb⟩⟩
  refine range_R h1 hg eg hseq (fun i q => q.elim) (Below.refl _ _) (fun x => x.elim) (fun _ W => Below w.heap.size w W) (fun _ _ _ => False) (stays_below (Nat.le_refl _)) (fun _ _ _ _ hs _ => hs) (Below.refl _ _) (fun _ _ _ => True) (fun _ _ _ _ _ => trivial)
    (fun _ _ x => x.elim) (fun _ _ x => x.elim) (fun D xs W hD _ hI hk => hdone D W hD hI hk) (fun D c pre W _ q => q.elim)
theorem Len_nil (w : World) : Calls Try.prog 25 #[.pointer none] w fun e w' => e = .returned (.tuple #[.int .i64 0, .int .i64 0]) ∧ w = w' := by
  go_enter Try.func25, Try.ntmps25
  go_wp2_with (go_at_call 22; refine (noLedger _).mono ?_; rintro e w' ⟨rfl, rfl⟩)
  refine bodyPost_ret (v := .tuple #[.int .i64 0, .int .i64 0]) (by simp [results, Try.f25, go_sem]) rfl ⟨rfl, rfl⟩
theorem Len_zero (b : Nat) (w : World) (h : w.cell? ⟨b, 0, none⟩ = some (.pointer none)) : Calls Try.prog 25 #[.pointer (some ⟨b, 0, none⟩)] w fun e w' => e = .returned (.tuple #[.int .i64 0, .int .i64 0]) ∧ w = w' := by
  go_enter Try.func25, Try.ntmps25
  go_wp2_with (go_at_call 22; refine (zeroLedger _ b h).mono ?_; rintro e w' ⟨rfl, rfl⟩)
  refine bodyPost_ret (v := .tuple #[.int .i64 0, .int .i64 0]) (by simp [results, Try.f25, go_sem]) rfl ⟨rfl, rfl⟩
/-- a pointer to no ledger: nil, or a zero one -/
def NoL (pv : Option Addr) (w : World) : Prop := pv = none ∨ ∃ b, pv = some ⟨b, 0, none⟩ ∧ w.cell? ⟨b, 0, none⟩ = some (.pointer none)
theorem NoL.below {pv : Option Addr} {w w' : World} (h : NoL pv w) (hb : Below w.heap.size w w') : NoL pv w' := by
  rcases h with rfl | ⟨b, rfl, h⟩
  · exact .inl rfl
  · exact .inr ⟨b, rfl, cell_stay h (hb.block _ (World.block_lt_of_cell? w _ h))⟩
theorem NoL.isn {pv : Option Addr} {w : World} (h : NoL pv w) : Calls Try.prog 22 #[.pointer pv] w fun e w' => e = .returned (.bool true) ∧ w = w' := by
  rcases h with rfl | ⟨b, rfl, h⟩
  · exact noLedger w
  · exact zeroLedger w b h
theorem NoL.len {pv : Option Addr} {w : World} (h : NoL pv w) : Calls Try.prog 25 #[.pointer pv] w fun e w' => e = .returned (.tuple #[.int .i64 0, .int .i64 0]) ∧ w = w' := by
  rcases h with rfl | ⟨b, rfl, h⟩
  · exact Len_nil w
  · exact Len_zero b w h
theorem NoL.beh {pv : Option Addr} {w : World} (h : NoL pv w) : Calls Try.prog 27 #[.pointer pv, .slice none 0 0] w fun e w' => e = .returned (.tuple #[.map none, .int .i64 1]) ∧ Below w.heap.size w w' := by
  rcases h with rfl | ⟨b, rfl, h⟩
  · exact behind_nil none 0 0 w
  · exact behind_zero b none 0 0 w h
theorem NoL.may {pv : Option Addr} {w : World} (h : NoL pv w) : Calls Try.prog 10 #[.pointer pv, .slice none 0 0] w fun e w' => e = .returned (.int .i64 1) ∧ Below w.heap.size w w' := by
  rcases h with rfl | ⟨b, rfl, h⟩
  · exact May_nil none 0 0 w
  · exact May_zero b none 0 0 w h
theorem NoL.open (s : ByteArray) (l : Int) {pv : Option Addr} {w : World} (h : NoL pv w) : Calls Try.prog 8 #[.pointer pv, .string s, .int .i64 l] w fun e w' => e = .returned (.tuple #[.int .i64 0, .int .i64 1]) ∧ w = w' := by
  have H := hide h
  clear h
  go_enter Try.func8, Try.ntmps8
  go_wp2_with (go_at_call 22; refine H.out.isn.mono ?_; rintro e w' ⟨rfl, rfl⟩)
  refine bodyPost_ret (v := .tuple #[.int .i64 0, .int .i64 1]) (by simp [results, Try.f8, go_sem]) rfl ⟨rfl, rfl⟩
theorem NoL.post {pv : Option Addr} {w : World} (h : NoL pv w) : Calls Try.prog 11 #[.pointer pv, .slice none 0 0] w fun e w' => e = .returned (.tuple #[.int .i64 0, .int .i64 1]) ∧ Below w.heap.size w w' := by
  have H := hide h
  clear h
  go_enter Try.func11, Try.ntmps11
  go_wp2_with (go_at_call 27; refine H.out.beh.mono ?_; rintro e w' ⟨rfl, hb⟩)
  refine bodyPost_ret (v := .tuple #[.int .i64 0, .int .i64 1]) (by simp [results, Try.f11, go_sem]) rfl ⟨rfl, hb⟩
theorem NoL.has (s : ByteArray) {pv : Option Addr} {w : World} (h : NoL pv w) : Calls Try.prog 20 #[.pointer pv, .string s] w fun e w' => e = .returned (.tuple #[.int .i64 0, .int .i64 1]) ∧ w = w' := by
  have H := hide h
  clear h
  go_enter Try.func20, Try.ntmps20
  go_wp2_with (go_at_call 22; refine H.out.isn.mono ?_; rintro e w' ⟨rfl, rfl⟩)
  refine bodyPost_ret (v := .tuple #[.int .i64 0, .int .i64 1]) (by simp [results, Try.f20, go_sem]) rfl ⟨rfl, rfl⟩
theorem NoL.account (x : Int) {pv : Option Addr} {w : World} (h : NoL pv w) : Calls Try.prog 26 #[.pointer pv, .int .i64 x] w fun e w' => e = .returned (.tuple #[.agg #[.string ⟨#[]⟩, .int .i64 0, .int .i64 0], .int .i64 1]) ∧ Below w.heap.size w w' := by
  have H := hide (h.below ((Below.refl _ _).alloc (Nat.le_refl _) (.cells #[.string ⟨#[]⟩, .int .i64 0, .int .i64 0] 70)))
  clear h
  go_enter Try.func26, Try.ntmps26
  go_wp2_with (go_at_call 22; refine H.out.isn.mono ?_; rintro e w' ⟨rfl, rfl⟩)
  refine bodyPost_ret (v := .tuple #[.agg #[.string ⟨#[]⟩, .int .i64 0, .int .i64 0], .int .i64 1]) (by simp [results, Try.f26, go_sem]) rfl ⟨rfl, by (focus repeat' (first | (with_reducible exact Below.refl _ _) | (with_reducible assumption) | (with_reducible refine Below.alloc ?_ ?_ _) | (with_reducible refine Below.drew ?_) | (with_reducible refine bdrewN ?_ _) | (with_reducible refine Below.setCell ?_ ?_ _) | (first | (with_reducible exact Nat.le_refl _) | (with_reducible assumption) | omega | (simp; omega) | (simp; done))))⟩
theorem NoL.posting (x : Int) {pv : Option Addr} {w : World} (h : NoL pv w) : Calls Try.prog 31 #[.pointer pv, .int .i64 x] w fun e w' => e = .returned (.tuple #[.slice none 0 0, .int .i64 1]) ∧ w = w' := by
  have H := hide h
  clear h
  go_enter Try.func31, Try.ntmps31
  go_wp2_with (go_at_call 22; refine H.out.isn.mono ?_; rintro e w' ⟨rfl, rfl⟩)
  refine bodyPost_ret (v := .tuple #[.slice none 0 0, .int .i64 1]) (by simp [results, Try.f31, go_sem]) rfl ⟨rfl, rfl⟩
theorem NoL.back (x : Int) {pv : Option Addr} {w : World} (h : NoL pv w) : Calls Try.prog 15 #[.pointer pv, .int .i64 x] w fun e w' => e = .returned (.tuple #[.int .i64 0, .int .i64 1]) ∧ w = w' := by
  have H := hide h
  clear h
  go_enter Try.func15, Try.ntmps15
  go_wp2_with (go_at_call 31; refine (H.out.posting x).mono ?_; rintro e w' ⟨rfl, rfl⟩)
  refine bodyPost_ret (v := .tuple #[.int .i64 0, .int .i64 1]) (by simp [results, Try.f15, go_sem]) rfl ⟨rfl, rfl⟩
theorem NoL.copy {pv : Option Addr} {w : World} (h : NoL pv w) : Calls Try.prog 14 #[.pointer pv] w fun e w' => e = .returned (.pointer none) ∧ w = w' := by
  have H := hide h
  clear h
  go_enter Try.func14, Try.ntmps14
  go_wp2_with (go_at_call 22; refine H.out.isn.mono ?_; rintro e w' ⟨rfl, rfl⟩)
  refine bodyPost_ret (v := .pointer none) (by simp [results, Try.f14, go_sem]) rfl ⟨rfl, rfl⟩
theorem NoL.accounts {pv : Option Addr} {w : World} (h : NoL pv w) : Calls Try.prog 29 #[.pointer pv] w (fun e w' => ∃ Bx g, e = .returned (.func (.func 53) #[] #[.pointer (some ⟨Bx, 0, none⟩)]) ∧ AccIt w.heap.size [] Bx g w' ∧ Below w.heap.size w w') := Accounts_none pv w h.len
/-- an iterator over no postings -/
def NoAll (Bx : Nat) (w : World) : Prop := w.cell? ⟨Bx, 0, none⟩ = some (.slice none 0 0)
theorem NoL.all {pv : Option Addr} {w : World} (h : NoL pv w) : Calls Try.prog 45 #[.pointer pv] w (fun e w' => ∃ Bx, e = .returned (.func (.func 59) #[] #[.pointer (some ⟨Bx, 0, none⟩)]) ∧ NoAll Bx w' ∧ Below w.heap.size w w') := by
  have H := hide (h.below ((Below.refl _ _).alloc (Nat.le_refl _) (.cells #[.slice none 0 0] 23)))
  clear h
  go_enter Try.func45, Try.ntmps45
  go_wp2_with (go_at_call 22; refine H.out.isn.mono ?_; rintro e w' ⟨rfl, rfl⟩)
  refine bodyPost_ret (v := .func (.func 59) #[] #[.pointer (some ⟨w.heap.size, 0, none⟩)]) (by simp [results, Try.f45, go_sem]) rfl ⟨_, rfl, by simp [NoAll, go_sem], by (focus repeat' (first | (with_reducible exact Below.refl _ _) | (with_reducible assumption) | (with_reducible refine Below.alloc ?_ ?_ _) | (with_reducible refine Below.drew ?_) | (with_reducible refine bdrewN ?_ _) | (with_reducible refine Below.setCell ?_ ?_ _) | (first | (with_reducible exact Nat.le_refl _) | (with_reducible assumption) | omega | (simp; omega) | (simp; done))))⟩
theorem NoAll.run (n l : Nat) {Bx : Nat} {w : World} (h : NoAll Bx w) : CallsIn Fence.wide n Try.prog 59 #[.func (.yield l) #[] #[], .pointer (some ⟨Bx, 0, none⟩)] w fun e V' => (∃ v, e = .returned v) ∧ Below w.heap.size w V' := by
  unfold NoAll at h
  refine callsIn_of_wp Try.func59 rfl trivial ?_ rfl
  simp only [Try.ntmps59, List.size_toArray, List.length_cons, List.length_nil, Nat.reduceAdd, Nat.reduceSub, Array.replicate_succ, Array.replicate_zero, List.push_toArray, List.append_toArray, List.nil_append, List.cons_append]
  gi_wp2
  gi_loopw [7] (fun v7 wr => v7 = .int .i64 0 ∧ wr = w) (fun v7 _ => 0)
  case atStart => exact ⟨rfl, rfl⟩
  case round =>
    obtain ⟨rfl, rfl⟩ := hrel
    gi_wp2
    go_end0
    exact ⟨⟨_, rfl⟩, Below.refl _ _⟩
/-- an iterator over the line of no ledger -/
def NoLine (Ba Bs : Nat) (w : World) : Prop := ∃ Bx, w.cell? ⟨Ba, 0, none⟩ = some (.func (.func 59) #[] #[.pointer (some ⟨Bx, 0, none⟩)]) ∧ NoAll Bx w
theorem NoL.line (s : ByteArray) {pv : Option Addr} {w : World} (h : NoL pv w) : Calls Try.prog 48 #[.pointer pv, .string s] w (fun e w' => ∃ Ba Bs, e = .returned (.func (.func 60) #[] #[.pointer (some ⟨Ba, 0, none⟩), .pointer (some ⟨Bs, 0, none⟩)]) ∧ NoLine Ba Bs w' ∧ Below w.heap.size w w') := by
  have H := hide (h.below ((Below.refl _ _).alloc (Nat.le_refl _) (.cells #[.string s] 9)))
  clear h
  go_enter Try.func48, Try.ntmps48
  go_wp2_with (go_at_call 45; refine H.out.all.mono ?_; rintro e w1 ⟨Bx, rfl, hn, hb⟩)
  have hbx := World.block_lt_of_cell? _ _ hn
  refine bodyPost_ret (v := .func (.func 60) #[] #[.pointer (some ⟨w1.heap.size, 0, none⟩), .pointer (some ⟨w.heap.size, 0, none⟩)]) (by simp [results, Try.f48, go_sem]) rfl ⟨_, _, rfl, ⟨Bx, by simp [go_sem], ?_⟩, ?_⟩
  · exact cell_stay hn (Below.heap_alloc _ _ _ hbx)
  · exact (((Below.refl _ _).alloc (Nat.le_refl _) _).trans (hb.mono (by simp))).alloc (by have := hb.size; simp at this; omega) _
set_option maxRecDepth 100000 in
set_option maxHeartbeats 2000000 in
theorem NoLine.run (n l : Nat) (hn : 1 ≤ n) {Ba Bs : Nat} {w : World} (h : NoLine Ba Bs w) : CallsIn Fence.wide n Try.prog 60 #[.func (.yield l) #[] #[], .pointer (some ⟨Ba, 0, none⟩), .pointer (some ⟨Bs, 0, none⟩)] w fun e V' => (∃ v, e = .returned v) ∧ Below w.heap.size w V' := by
  obtain ⟨Bx, ha, hx⟩ := h
  have hal := World.block_lt_of_cell? w _ ha
  have hxl := World.block_lt_of_cell? w _ hx
  have HX := hide hx
  clear hx
  refine callsIn_of_wp_marks Try.func60 rfl trivial ?_ rfl
  simp only [Try.ntmps60, List.size_toArray, List.length_cons, List.length_nil, Nat.reduceAdd, Nat.reduceSub, Array.replicate_succ, Array.replicate_zero, List.push_toArray, List.append_toArray, List.nil_append, List.cons_append]
  gi_wp2_with fail
  refine range_none (by omega) (gf := 59) (lb := #[.pointer (some ⟨Bx, 0, none⟩)]) rfl (enters_of Try.func59 (by kernel_rfl) rfl) (fun l2 W hbW => ?_) (fun D W hD hbW hk => ?_)
  · refine NoAll.run (n - 1) l2 ?_
    have hb0 : Below w.heap.size w ((w.alloc (.cells #[.func (.yield l) #[] #[]] 127)).alloc (.cells #[.int .i64 0] 2)) := by (focus repeat' (first | (with_reducible exact Below.refl _ _) | (with_reducible assumption) | (with_reducible refine Below.alloc ?_ ?_ _) | (with_reducible refine Below.drew ?_) | (with_reducible refine bdrewN ?_ _) | (with_reducible refine Below.setCell ?_ ?_ _) | (first | (with_reducible exact Nat.le_refl _) | (with_reducible assumption) | omega | (simp; omega) | (simp; done))))
    exact cell_stay HX.out ((hbW.block _ (by simp; omega)).trans (hb0.block _ hxl))
  · have hK := hide hk
    gi_wp2
    have hb0 : Below w.heap.size w ((w.alloc (.cells #[.func (.yield l) #[] #[]] 127)).alloc (.cells #[.int .i64 0] 2)) := by (focus repeat' (first | (with_reducible exact Below.refl _ _) | (with_reducible assumption) | (with_reducible refine Below.alloc ?_ ?_ _) | (with_reducible refine Below.drew ?_) | (with_reducible refine bdrewN ?_ _) | (with_reducible refine Below.setCell ?_ ?_ _) | (first | (with_reducible exact Nat.le_refl _) | (with_reducible assumption) | omega | (simp; omega) | (simp; done))))
    have hb1 : Below w.heap.size w W := bstep hb0 hbW
    refine ⟨by simp, .inl ⟨_, _, rfl, run_takeDeferred hk, ?_⟩⟩
    refine ⟨_, results_none rfl _ _ _, ⟨_, rfl⟩, hb1.trans (belowK_b (w := w) (Nat.le_refl _) W D _ _ (by simp at hD; omega) hk rfl rfl)⟩
end Go.Proofs.Ytkdocoibfclfeaa
