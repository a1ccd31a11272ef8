import Derived.Maps.AppendAt
import Derived.Deep.AppendLies
import Derived.Laws.OwnMore
import Derived.Test.YtkdocoibfclfeaaT7
namespace Go.Proofs.Ytkdocoibfclfeaa
open Go.ChangeShapes Go.WideShapes Go.ChangeAt Go.RowKit Go.Deep Go.Maps Go.ChangeMaps Go.WideMaps
set_option linter.unusedSimpArgs false
set_option linter.unusedVariables false

theorem Ents.apart {so : Option Addr} {cap : Nat} {p : List Ent} {w : World} {k : TypeId} {mh cnt : Nat} {f : Lit → Option Value} (h : Ents so cap p w) (h0 : 0 < p.length) (hm : MapIs Try.prog k w mh cnt f) : ∀ ad j, so = some ad → (ad.add j).block ≠ mh := by
  obtain ⟨g, off, rfl, hc⟩ := h.spot h0
  have := not_map hm (hc 0 h0).1
  intro ad j e
  cases e
  rw [Addr.add_lit]
  exact this
def PostAny (I : Nat → Prop) (F : Fp) (S : LS) (p : List Ent) (w : World) (e : Ending) (w' : World) : Prop :=
  (mayE S.acc p ≠ 0 ∧ e = .returned (.tuple #[.int .i64 0, .int .i64 (mayE S.acc p)]) ∧ Below w.heap.size w w') ∨ (mayE S.acc p = 0 ∧ PostPost I F S p w e w')
theorem Post_c (I : Nat → Prop) (F : Fp) (S : LS) (so : Option Addr) (cap : Nat) (p : List Ent) (w : World) (h : LObj I F S w) (hE : Ents so cap p w) (hS : Sound S.acc) (hP : S.posts.length ≤ 1048576) : Calls Try.prog 11 #[.pointer (some ⟨F.b, 0, none⟩), .slice so p.length cap] w (PostAny I F S p w) := by
  by_cases hm : mayE S.acc p = 0
  · exact (Post_yes I F S so cap p w h hE hS hm hP (hE.apart (formed_of_may hm) h.mm)).mono fun e w' q => .inr ⟨hm, q⟩
  · exact (Post_no I F S so cap p w h hE hS hm).mono fun e w' q => .inl ⟨hm, q⟩
set_option maxHeartbeats 1000000 in
theorem Has_yes (I : Nat → Prop) (F : Fp) (S : LS) (s : ByteArray) (n : Nat) (a : Acc) (w : World) (h : LObj I F S w) (hs : s.size ≤ maxLen) (hi : idx (nms S.acc) s = some n) (ha : S.acc[n]? = some a) (hn : n < 65536) : Calls Try.prog 20 #[.pointer (some ⟨F.b, 0, none⟩), .string s] w fun e w' => e = .returned (.tuple #[.int .i64 a.has, .int .i64 0]) ∧ w = w' := by
  have H := hide h
  have b0 := h.b0
  have b1 := h.b1
  have ql := acc_look h.mm (show n < 9223372036854775808 by omega) ha
  have q4 := field70_2 a.name a.least a.has
  have HI := hide hi
  have HSZ := hide hs
  clear h hi hs ha
  go_enter Try.func20, Try.ntmps20
  go_wp2_with (first
    | (go_at_call 22; refine (isLedger _ F.b F.t H.out.b0).mono ?_; rintro e w' ⟨rfl, rfl⟩)
    | (go_at_call 49; refine (Find_yes _ F.t F.a _ n _ s H.out.t1 H.out.am HSZ.out HI.out).mono ?_; rintro e w' ⟨rfl, rfl⟩))
  refine bodyPost_ret (v := .tuple #[.int .i64 a.has, .int .i64 0]) (by simp [results, Try.f20, go_sem]) rfl ⟨rfl, rfl⟩
set_option maxHeartbeats 1000000 in
theorem Has_no (I : Nat → Prop) (F : Fp) (S : LS) (s : ByteArray) (w : World) (h : LObj I F S w) (hs : s.size ≤ maxLen) (hi : idx (nms S.acc) s = none) : Calls Try.prog 20 #[.pointer (some ⟨F.b, 0, none⟩), .string s] w fun e w' => e = .returned (.tuple #[.int .i64 0, .int .i64 4]) ∧ w = w' := by
  have H := hide h
  have b0 := h.b0
  have HI := hide hi
  have HSZ := hide hs
  clear h hi hs
  go_enter Try.func20, Try.ntmps20
  go_wp2_with (first
    | (go_at_call 22; refine (isLedger _ F.b F.t H.out.b0).mono ?_; rintro e w' ⟨rfl, rfl⟩)
    | (go_at_call 49; refine (Find_no _ F.t F.a _ _ s H.out.t1 H.out.am HSZ.out HI.out).mono ?_; rintro e w' ⟨rfl, rfl⟩))
  refine bodyPost_ret (v := .tuple #[.int .i64 0, .int .i64 4]) (by simp [results, Try.f20, go_sem]) rfl ⟨rfl, rfl⟩
set_option maxHeartbeats 1000000 in
theorem Account_yes (I : Nat → Prop) (F : Fp) (S : LS) (n : Nat) (a : Acc) (w : World) (h : LObj I F S w) (ha : S.acc[n]? = some a) (hn : n < 65536) : Calls Try.prog 26 #[.pointer (some ⟨F.b, 0, none⟩), .int .i64 (n : Int)] w fun e w' => e = .returned (.tuple #[.agg #[.string a.name, .int .i64 a.least, .int .i64 a.has], .int .i64 0]) ∧ Below w.heap.size w w' := by
  have hbz := h.lt (.inl rfl)
  obtain ⟨W, hW⟩ : ∃ W, W = w.alloc (.cells #[.string ⟨#[]⟩, .int .i64 0, .int .i64 0] 70) := ⟨_, rfl⟩
  have hbw : Below w.heap.size w W := by rw [hW]; (focus repeat' (first | (with_reducible exact Below.refl _ _) | (with_reducible assumption) | (with_reducible refine Below.alloc ?_ ?_ _) | (with_reducible refine Below.drew ?_) | (with_reducible refine bdrewN ?_ _) | (with_reducible refine Below.setCell ?_ ?_ _) | (first | (with_reducible exact Nat.le_refl _) | (with_reducible assumption) | omega | (simp; omega) | (simp; done))))
  have h2 := h.below hbw
  have ql := acc_look_ok h2.mm (show n < 9223372036854775808 by omega) ha
  have b0 := h.b0
  have b1 := h.b1
  have c0 := h2.b0
  have B0 := hide c0
  rw [hW] at ql c0 B0
  clear h h2 ha hbw hW
  go_enter Try.func26, Try.ntmps26
  go_wp2_with (go_at_call 22; refine (isLedger _ F.b F.t B0.out).mono ?_; rintro e w' ⟨rfl, rfl⟩)
  refine bodyPost_ret (v := .tuple #[.agg #[.string a.name, .int .i64 a.least, .int .i64 a.has], .int .i64 0]) (by simp [results, Try.f26, go_sem]) rfl ⟨rfl, by (focus repeat' (first | (with_reducible exact Below.refl _ _) | (with_reducible assumption) | (with_reducible refine Below.alloc ?_ ?_ _) | (with_reducible refine Below.drew ?_) | (with_reducible refine bdrewN ?_ _) | (with_reducible refine Below.setCell ?_ ?_ _) | (first | (with_reducible exact Nat.le_refl _) | (with_reducible assumption) | omega | (simp; omega) | (simp; done))))⟩
set_option maxHeartbeats 1000000 in
theorem Account_no (I : Nat → Prop) (F : Fp) (S : LS) (x : Int) (w : World) (h : LObj I F S w) (hx : (Lit.int .i64 x).wf = true) (hi : x < 0 ∨ S.acc.length ≤ x) : Calls Try.prog 26 #[.pointer (some ⟨F.b, 0, none⟩), .int .i64 x] w fun e w' => e = .returned (.tuple #[.agg #[.string ⟨#[]⟩, .int .i64 0, .int .i64 0], .int .i64 4]) ∧ Below w.heap.size w w' := by
  have hbz := h.lt (.inl rfl)
  obtain ⟨W, hW⟩ : ∃ W, W = w.alloc (.cells #[.string ⟨#[]⟩, .int .i64 0, .int .i64 0] 70) := ⟨_, rfl⟩
  have hbw : Below w.heap.size w W := by rw [hW]; (focus repeat' (first | (with_reducible exact Below.refl _ _) | (with_reducible assumption) | (with_reducible refine Below.alloc ?_ ?_ _) | (with_reducible refine Below.drew ?_) | (with_reducible refine bdrewN ?_ _) | (with_reducible refine Below.setCell ?_ ?_ _) | (first | (with_reducible exact Nat.le_refl _) | (with_reducible assumption) | omega | (simp; omega) | (simp; done))))
  have h2 := h.below hbw
  have ql := acc_look_no h2.mm hx hi
  have b0 := h.b0
  have b1 := h.b1
  have B0 := hide h2.b0
  rw [hW] at ql B0
  clear h h2 hbw hW hx hi
  go_enter Try.func26, Try.ntmps26
  go_wp2_with (go_at_call 22; refine (isLedger _ F.b F.t B0.out).mono ?_; rintro e w' ⟨rfl, rfl⟩)
  refine bodyPost_ret (v := .tuple #[.agg #[.string ⟨#[]⟩, .int .i64 0, .int .i64 0], .int .i64 4]) (by simp [results, Try.f26, go_sem]) rfl ⟨rfl, by (focus repeat' (first | (with_reducible exact Below.refl _ _) | (with_reducible assumption) | (with_reducible refine Below.alloc ?_ ?_ _) | (with_reducible refine Below.drew ?_) | (with_reducible refine bdrewN ?_ _) | (with_reducible refine Below.setCell ?_ ?_ _) | (first | (with_reducible exact Nat.le_refl _) | (with_reducible assumption) | omega | (simp; omega) | (simp; done))))⟩
set_option maxHeartbeats 1000000 in
theorem Posting_yes (I : Nat → Prop) (F : Fp) (S : LS) (n : Nat) (p : List Ent) (w : World) (h : LObj I F S w) (hp : S.posts[n]? = some p) (hn : S.posts.length ≤ 1048576) (hl : p.length ≤ 1048576) : Calls Try.prog 31 #[.pointer (some ⟨F.b, 0, none⟩), .int .i64 (n : Int)] w fun e w' => ∃ v', e = .returned (.tuple #[v', .int .i64 0]) ∧ w'.ownsRow w.heap.size 63 2 v' p.length (flatE p) ∧ Below w.heap.size w w' := by
  obtain ⟨vs, hrow, hposts⟩ := h.pr
  obtain ⟨v, hv, hown, _⟩ := hposts n p hp
  have hnl : n < S.posts.length := (List.getElem?_eq_some_iff.1 hp).1
  obtain ⟨g, cap, hpv, _, hg⟩ := hrow.form (by omega)
  have b0 := h.b0
  have b2 := h.b2
  rw [hpv] at b2 hrow
  have hc : w.cell? ⟨g, n, none⟩ = some v := by rw [hrow.cellAt n (by omega)]; exact hv
  obtain ⟨so, cp, rfl, hE⟩ := Ents.of_own hown
  have HE := hide hE
  have n0 : (0 : Int) ≤ (n : Int) := by omega
  have n1 : (n : Int) < (S.posts.length : Int) := by omega
  have n2 : decide ((n : Int) < 0) = false := by (rw [decide_eq_false_iff_not]; omega)
  have n3 : decide ((S.posts.length : Int) ≤ (n : Int)) = false := by (rw [decide_eq_false_iff_not]; omega)
  have H := hide h
  clear h hrow hposts hown hE hv hp hpv
  go_enter Try.func31, Try.ntmps31
  go_wp2_with (first
    | (go_at_call 22; refine (isLedger _ F.b F.t H.out.b0).mono ?_; rintro e w' ⟨rfl, rfl⟩)
    | (go_at_call 28; refine (Clone_c so cp p _ hl HE.out).mono ?_; rintro e w1 ⟨v', rfl, own1, hb1⟩))
  refine bodyPost_ret (v := .tuple #[v', .int .i64 0]) (by simp [results, Try.f31, go_sem]) rfl ⟨v', rfl, own1, hb1⟩
set_option maxHeartbeats 1000000 in
theorem Posting_no (I : Nat → Prop) (F : Fp) (S : LS) (x : Int) (w : World) (h : LObj I F S w) (hx : x < 0 ∨ S.posts.length ≤ x) : Calls Try.prog 31 #[.pointer (some ⟨F.b, 0, none⟩), .int .i64 x] w fun e w' => e = .returned (.tuple #[.slice none 0 0, .int .i64 4]) ∧ w = w' := by
  obtain ⟨vs, hrow, _⟩ := h.pr
  obtain ⟨pa, pc, hpv⟩ := own_any hrow
  have b2 := h.b2
  rw [hpv] at b2
  have H := hide h
  clear h hrow hpv
  rcases (by omega : x < 0 ∨ (0 ≤ x ∧ S.posts.length ≤ x)) with q | ⟨q1, q2⟩
  · have n2 : decide (x < 0) = true := by (rw [decide_eq_true_iff]; omega)
    clear hx q
    go_enter Try.func31, Try.ntmps31
    go_wp2_with (go_at_call 22; refine (isLedger _ F.b F.t H.out.b0).mono ?_; rintro e w' ⟨rfl, rfl⟩)
    refine bodyPost_ret (v := .tuple #[.slice none 0 0, .int .i64 4]) (by simp [results, Try.f31, go_sem]) rfl ⟨rfl, rfl⟩
  · have n2 : decide (x < 0) = false := by (rw [decide_eq_false_iff_not]; omega)
    have n3 : decide ((S.posts.length : Int) ≤ x) = true := by (rw [decide_eq_true_iff]; omega)
    clear hx
    go_enter Try.func31, Try.ntmps31
    go_wp2_with (go_at_call 22; refine (isLedger _ F.b F.t H.out.b0).mono ?_; rintro e w' ⟨rfl, rfl⟩)
    refine bodyPost_ret (v := .tuple #[.slice none 0 0, .int .i64 4]) (by simp [results, Try.f31, go_sem]) rfl ⟨rfl, rfl⟩

def newFp (k : Nat) : Fp := ⟨k + 3, k + 1, k, k + 2, .slice none 0 0, .slice none 0 0⟩
set_option maxHeartbeats 1000000 in
theorem New_c (w : World) : Calls Try.prog 7 #[] w fun e w' => e = .returned (.pointer (some ⟨w.heap.size + 3, 0, none⟩)) ∧ w' = (((w.alloc (.map #[] 0)).alloc (.cells #[.slice none 0 0, .map (some w.heap.size), .int .i64 65536] 112)).alloc (.map #[] 0)).alloc (.cells #[.pointer (some ⟨w.heap.size + 1, 0, none⟩), .map (some (w.heap.size + 2)), .slice none 0 0] 59) := by
  have hmm := @run_makeMap Try.prog
  go_enter Try.func7, Try.ntmps7
  go_wp2_with (go_at_call 21; refine (NewNames _).mono ?_; rintro e w1 ⟨rfl, rfl⟩)
  refine bodyPost_ret (v := .pointer (some ⟨w.heap.size + 3, 0, none⟩)) (by simp [results, Try.f7, go_sem]) rfl ⟨rfl, by simp⟩
theorem New_obj (I : Nat → Prop) (w : World) (hI : ∀ k, I k → k < w.heap.size) : LObj I (newFp w.heap.size) ⟨[], []⟩ ((((w.alloc (.map #[] 0)).alloc (.cells #[.slice none 0 0, .map (some w.heap.size), .int .i64 65536] 112)).alloc (.map #[] 0)).alloc (.cells #[.pointer (some ⟨w.heap.size + 1, 0, none⟩), .map (some (w.heap.size + 2)), .slice none 0 0] 59)) := by
  have e1 := Below.heap_alloc w (.map #[] 0)
  refine ⟨by simp [go_sem, newFp], by simp [go_sem, newFp], by simp [go_sem, newFp], by simp [go_sem, newFp], by simp [go_sem, newFp], by simp [go_sem, newFp], by simp [go_sem, newFp], by simp [go_sem, newFp], World.ownsRow_nil _ _ _ _, ⟨[], World.ownsRow_nil _ _ _ _, fun i p q => by simp at q⟩, ?_, ?_, ?_, ?_, fun k hk => by have := hI k hk; simp; omega⟩
  · have h := MapIs.made w Try.prog 9
    have h2 := h.stays (w' := ((((w.alloc (.map #[] 0)).alloc (.cells #[.slice none 0 0, .map (some w.heap.size), .int .i64 65536] 112)).alloc (.map #[] 0)).alloc (.cells #[.pointer (some ⟨w.heap.size + 1, 0, none⟩), .map (some (w.heap.size + 2)), .slice none 0 0] 59))) (by first | (simp; done) | (simp; omega)) (by rw [Below.heap_alloc _ _ _ (by first | (simp; done) | (simp; omega)), Below.heap_alloc _ _ _ (by first | (simp; done) | (simp; omega)), Below.heap_alloc _ _ _ (by simp)])
    exact h2.ext (fun x => by cases x <;> rfl)
  · have h := MapIs.made ((w.alloc (.map #[] 0)).alloc (.cells #[.slice none 0 0, .map (some w.heap.size), .int .i64 65536] 112)) Try.prog 3
    have h2 := h.stays (w' := ((((w.alloc (.map #[] 0)).alloc (.cells #[.slice none 0 0, .map (some w.heap.size), .int .i64 65536] 112)).alloc (.map #[] 0)).alloc (.cells #[.pointer (some ⟨w.heap.size + 1, 0, none⟩), .map (some (w.heap.size + 2)), .slice none 0 0] 59))) (by simp) (by rw [Below.heap_alloc _ _ _ (by simp)])
    have e : ((w.alloc (.map #[] 0)).alloc (.cells #[.slice none 0 0, .map (some w.heap.size), .int .i64 65536] 112)).heap.size = w.heap.size + 2 := by simp
    rw [e] at h2
    exact h2.ext (fun x => by
      cases x with
      | int k y => cases k <;> first | rfl | simp [accAt]
      | _ => rfl)
  · refine ⟨?_, ?_, ?_, ?_, ?_, ?_, (fun k q => by cases q), (fun k q => by cases q)⟩ <;> simp [newFp]
  · intro k hk hi
    have := hI k hi
    rcases hk with q | q | q | q | q | q
    · simp [newFp] at q; omega
    · simp [newFp] at q; omega
    · simp [newFp] at q; omega
    · simp [newFp] at q; omega
    · cases q
    · cases q
def OpenPost (I : Nat → Prop) (F : Fp) (S : LS) (s : ByteArray) (l : Int) (w : World) (e : Ending) (w' : World) : Prop := e = .returned (.tuple #[.int .i64 (S.acc.length : Int), .int .i64 0]) ∧ ∃ F', LObj I F' ⟨S.acc ++ [⟨s, l, 0⟩], S.posts⟩ w' ∧ Step I F w I F' w'

set_option maxHeartbeats 1000000 in
theorem Open_short (I : Nat → Prop) (F : Fp) (S : LS) (s : ByteArray) (l : Int) (w : World) (h : LObj I F S w) (hn : s.size = 0) : Calls Try.prog 8 #[.pointer (some ⟨F.b, 0, none⟩), .string s, .int .i64 l] w fun e w' => e = .returned (.tuple #[.int .i64 0, .int .i64 2]) ∧ w = w' := by
  have H := hide h
  have HN := hide hn
  clear h hn
  go_enter Try.func8, Try.ntmps8
  go_wp2_with (first | (go_at_call 22; refine (isLedger _ F.b F.t H.out.b0).mono ?_; rintro e w' ⟨rfl, rfl⟩) | (go_at_call 23; refine (Check_short s _ HN.out).mono ?_; rintro e w' ⟨rfl, rfl⟩))
  refine bodyPost_ret (v := .tuple #[.int .i64 0, .int .i64 2]) (by simp [results, Try.f8, go_sem]) rfl ⟨rfl, rfl⟩

set_option maxHeartbeats 1000000 in
theorem Open_long (I : Nat → Prop) (F : Fp) (S : LS) (s : ByteArray) (l : Int) (w : World) (h : LObj I F S w) (hn : 64 < s.size) : Calls Try.prog 8 #[.pointer (some ⟨F.b, 0, none⟩), .string s, .int .i64 l] w fun e w' => e = .returned (.tuple #[.int .i64 0, .int .i64 2]) ∧ w = w' := by
  have H := hide h
  have HN := hide hn
  clear h hn
  go_enter Try.func8, Try.ntmps8
  go_wp2_with (first | (go_at_call 22; refine (isLedger _ F.b F.t H.out.b0).mono ?_; rintro e w' ⟨rfl, rfl⟩) | (go_at_call 23; refine (Check_long s _ HN.out).mono ?_; rintro e w' ⟨rfl, rfl⟩))
  refine bodyPost_ret (v := .tuple #[.int .i64 0, .int .i64 2]) (by simp [results, Try.f8, go_sem]) rfl ⟨rfl, rfl⟩

set_option maxHeartbeats 1000000 in
theorem Open_high (I : Nat → Prop) (F : Fp) (S : LS) (s : ByteArray) (l : Int) (w : World) (h : LObj I F S w) (hn : goodName s) (hl : 0 < l) : Calls Try.prog 8 #[.pointer (some ⟨F.b, 0, none⟩), .string s, .int .i64 l] w fun e w' => e = .returned (.tuple #[.int .i64 0, .int .i64 2]) ∧ w = w' := by
  have H := hide h
  have HN := hide hn
  have d1 : decide (0 < l) = true := by (rw [decide_eq_true_iff]; exact hl)
  clear h hn
  go_enter Try.func8, Try.ntmps8
  go_wp2_with (first | (go_at_call 22; refine (isLedger _ F.b F.t H.out.b0).mono ?_; rintro e w' ⟨rfl, rfl⟩) | (go_at_call 23; refine (Check_ok s _ HN.out.1 HN.out.2).mono ?_; rintro e w' ⟨rfl, rfl⟩))
  refine bodyPost_ret (v := .tuple #[.int .i64 0, .int .i64 2]) (by simp [results, Try.f8, go_sem]) rfl ⟨rfl, rfl⟩

set_option maxHeartbeats 1000000 in
theorem Open_low (I : Nat → Prop) (F : Fp) (S : LS) (s : ByteArray) (l : Int) (w : World) (h : LObj I F S w) (hn : goodName s) (hl : l < -70368744177664) : Calls Try.prog 8 #[.pointer (some ⟨F.b, 0, none⟩), .string s, .int .i64 l] w fun e w' => e = .returned (.tuple #[.int .i64 0, .int .i64 2]) ∧ w = w' := by
  have H := hide h
  have HN := hide hn
  have d1 : decide (0 < l) = false := by (rw [decide_eq_false_iff_not]; omega)
  have d2 : decide (l < -70368744177664) = true := by (rw [decide_eq_true_iff]; exact hl)
  clear hl
  clear h hn
  go_enter Try.func8, Try.ntmps8
  go_wp2_with (first | (go_at_call 22; refine (isLedger _ F.b F.t H.out.b0).mono ?_; rintro e w' ⟨rfl, rfl⟩) | (go_at_call 23; refine (Check_ok s _ HN.out.1 HN.out.2).mono ?_; rintro e w' ⟨rfl, rfl⟩))
  refine bodyPost_ret (v := .tuple #[.int .i64 0, .int .i64 2]) (by simp [results, Try.f8, go_sem]) rfl ⟨rfl, rfl⟩

theorem Open_bad (I : Nat → Prop) (F : Fp) (S : LS) (s : ByteArray) (l : Int) (w : World) (h : LObj I F S w) (hb : ¬ (goodName s ∧ -maxC ≤ l ∧ l ≤ 0)) : Calls Try.prog 8 #[.pointer (some ⟨F.b, 0, none⟩), .string s, .int .i64 l] w fun e w' => e = .returned (.tuple #[.int .i64 0, .int .i64 2]) ∧ w = w' := by
  by_cases hn : goodName s
  · rcases (by unfold maxC at hb; simp only [hn, true_and] at hb; omega : 0 < l ∨ l < -70368744177664) with q | q
    · exact Open_high I F S s l w h hn q
    · exact Open_low I F S s l w h hn q
  · rcases (by unfold goodName at hn; omega : s.size = 0 ∨ 64 < s.size) with q | q
    · exact Open_short I F S s l w h q
    · exact Open_long I F S s l w h q
set_option maxHeartbeats 1000000 in
theorem Open_there (I : Nat → Prop) (F : Fp) (S : LS) (s : ByteArray) (l : Int) (i : Nat) (w : World) (h : LObj I F S w) (hn : goodName s) (h1 : -70368744177664 ≤ l) (h2 : l ≤ 0) (hi : idx (nms S.acc) s = some i) : Calls Try.prog 8 #[.pointer (some ⟨F.b, 0, none⟩), .string s, .int .i64 l] w fun e w' => e = .returned (.tuple #[.int .i64 0, .int .i64 5]) ∧ w = w' := by
  have H := hide h
  have HN := hide hn
  have HI := hide hi
  have b0 := h.b0
  have d1 : decide (0 < l) = false := by (rw [decide_eq_false_iff_not]; omega)
  have d2 : decide (l < -70368744177664) = false := by (rw [decide_eq_false_iff_not]; omega)
  clear h hn hi h1 h2
  go_enter Try.func8, Try.ntmps8
  go_wp2_with (first | (go_at_call 22; refine (isLedger _ F.b F.t H.out.b0).mono ?_; rintro e w' ⟨rfl, rfl⟩) | (go_at_call 23; refine (Check_ok s _ HN.out.1 HN.out.2).mono ?_; rintro e w' ⟨rfl, rfl⟩) | (go_at_call 24; refine (Add_there _ F.t F.a _ i _ s H.out.t1 H.out.am HN.out HI.out).mono ?_; rintro e w' ⟨rfl, rfl⟩))
  refine bodyPost_ret (v := .tuple #[.int .i64 0, .int .i64 5]) (by simp [results, Try.f8, go_sem]) rfl ⟨rfl, rfl⟩
theorem accV_of (s : ByteArray) (l h : Int) : accV ⟨s, l, h⟩ = .agg #[.string s, .int .i64 l, .int .i64 h] := rfl
theorem Open_close {I : Nat → Prop} {F : Fp} {S : LS} {s : ByteArray} {l : Int} {w w1 w2 : World} {e : Ending} (h : LObj I F S w) (hp : AddPost F.t F.a F.lv (nms S.acc) s w e w1) (hm : MapIs Try.prog 3 w2 F.m (S.acc.length + 1) (accAt (S.acc ++ [⟨s, l, 0⟩]))) (ht : w1.mapTurned w2 F.m) : ∃ F', LObj I F' ⟨S.acc ++ [⟨s, l, 0⟩], S.posts⟩ w2 ∧ Step I F w I F' w2 := by
  have hl : (nms S.acc).length = S.acc.length := by simp [nms]
  obtain ⟨-, lv', own, c0, c1, c2, f0, ham, hloc, hos, htp, hou, hsz, hkp⟩ := hp
  rw [hl] at own ham
  have ap := h.ap
  have z2 := ht.grown.size
  have hT : ∀ k, k < w1.heap.size → k ≠ F.m → w2.heap[k]? = w1.heap[k]? := fun k hk hne => turned_heap ht hne hk
  have hK : ∀ k, k < w.heap.size → k ≠ F.t → k ≠ F.a → F.lv.ownBlock ≠ some k → k ≠ F.m → w2.heap[k]? = w.heap[k]? := fun k hk h1 h2 h3 h4 => (hT k (by omega) h4).trans (hkp k hk h1 h2 h3)
  have lb := h.lt (.inl rfl)
  have lt_ := h.lt (.inr (.inl rfl))
  have la := h.lt (.inr (.inr (.inl rfl)))
  have eb : w2.heap[F.b]? = w.heap[F.b]? := hK _ lb ap.bt ap.ba (fun q => (ap.l _ q).1 rfl) ap.bm
  have et : w2.heap[F.t]? = w1.heap[F.t]? := hT _ (by omega) ap.tm
  have ea : w2.heap[F.a]? = w1.heap[F.a]? := hT _ (by omega) ap.am
  obtain ⟨vs, hrow, hposts⟩ := h.pr
  have lvF : ∀ k, lv'.ownBlock = some k → F.lv.ownBlock = some k ∨ w.heap.size ≤ k := fun k hk => by
    rcases hloc with q | ⟨k', q, hk'⟩
    · left; rw [← q]; exact hk
    · right; rw [q] at hk; cases hk; exact hk'
  refine ⟨{ F with lv := lv' }, ⟨cell_stay h.b0 eb, cell_stay h.b1 eb, cell_stay h.b2 eb, fun o => fro_stay (h.bf o) eb, cell_stay c0 et, cell_stay c1 et, cell_stay c2 et, fro_stay f0 et, ?_, ⟨vs, ?_, fun i p hp => ?_⟩, ?_, ?_, ?_, ?_, ?_⟩, ?_⟩
  · show w2.ownsRow 0 9 1 lv' (S.acc ++ [(⟨s, l, 0⟩ : Acc)]).length ((nms (S.acc ++ [⟨s, l, 0⟩])).map Value.string)
    rw [nms_snoc, show (S.acc ++ [(⟨s, l, 0⟩ : Acc)]).length = S.acc.length + 1 by simp]
    refine own_stays own (fun k hk => hT k (own.lt k hk).2 (fun e => ?_))
    rcases lvF k hk with q | q
    · exact (ap.l k q).2.2.2.1 e
    · have := h.mm.lt; omega
  · exact own_stays hrow (fun k hk => hK k (hrow.lt k hk).2 (ap.p k hk).2.1 (ap.p k hk).2.2.1 (fun q => (ap.l k q).2.2.2.2 hk) (ap.p k hk).2.2.2)
  · obtain ⟨v, v1, v2, v3⟩ := hposts i p hp
    refine ⟨v, v1, own_stays v2 (fun k hk => ?_), v3⟩
    have hik := v3 k hk
    exact hK k (h.ilt k hik) (fun e => h.imm k (.inr (.inl e)) hik) (fun e => h.imm k (.inr (.inr (.inl e))) hik) (fun e => h.imm k (.inr (.inr (.inr (.inr (.inl e))))) hik) (fun e => h.imm k (.inr (.inr (.inr (.inl e)))) hik)
  · show MapIs Try.prog 9 w2 F.a (S.acc ++ [(⟨s, l, 0⟩ : Acc)]).length (nameAt (nms (S.acc ++ [⟨s, l, 0⟩])))
    rw [nms_snoc, show (S.acc ++ [(⟨s, l, 0⟩ : Acc)]).length = S.acc.length + 1 by simp]
    exact ham.stays z2 ea
  · show MapIs Try.prog 3 w2 F.m (S.acc ++ [(⟨s, l, 0⟩ : Acc)]).length _
    rw [show (S.acc ++ [(⟨s, l, 0⟩ : Acc)]).length = S.acc.length + 1 by simp]
    exact hm
  · refine ⟨ap.bt, ap.ba, ap.bm, ap.ta, ap.tm, ap.am, (fun k hk => ?_), ap.p⟩
    rcases lvF k hk with q | q
    · exact ap.l k q
    · have lm := h.mm.lt
      exact ⟨fun e => by have e' : k = F.b := e; omega, fun e => by have e' : k = F.t := e; omega, fun e => by have e' : k = F.a := e; omega, fun e => by have e' : k = F.m := e; omega, fun e => by have := (hrow.lt k e).2; omega⟩
  · intro k hk hi
    rcases hk with q | q | q | q | q | q
    · exact h.imm k (.inl q) hi
    · exact h.imm k (.inr (.inl q)) hi
    · exact h.imm k (.inr (.inr (.inl q))) hi
    · exact h.imm k (.inr (.inr (.inr (.inl q)))) hi
    · rcases lvF k q with q2 | q2
      · exact h.imm k (.inr (.inr (.inr (.inr (.inl q2))))) hi
      · have := h.ilt k hi; omega
    · exact h.imm k (.inr (.inr (.inr (.inr (.inr q))))) hi
  · intro k hi
    have := h.ilt k hi
    omega
  · refine ⟨ht.grown.os.trans hos, ht.grown.tape.trans htp, ht.grown.output.trans hou, by omega, fun k hk hn => hK k hk (fun e => hn (.inr (.inl e))) (fun e => hn (.inr (.inr (.inl e)))) (fun e => hn (.inr (.inr (.inr (.inr (.inl e)))))) (fun e => hn (.inr (.inr (.inr (.inl e))))), fun k hk => ?_, fun _ q => q, fun _ q n => absurd q n, rfl, rfl, rfl, rfl⟩
    rcases hk with q | q | q | q | q | q
    · exact .inl (.inl q)
    · exact .inl (.inr (.inl q))
    · exact .inl (.inr (.inr (.inl q)))
    · exact .inl (.inr (.inr (.inr (.inl q))))
    · exact (lvF k q).imp (fun q2 => .inr (.inr (.inr (.inr (.inl q2))))) id
    · exact .inl (.inr (.inr (.inr (.inr (.inr q)))))
set_option maxRecDepth 100000 in
set_option maxHeartbeats 2000000 in
theorem Open_ok (I : Nat → Prop) (F : Fp) (S : LS) (s : ByteArray) (l : Int) (w : World) (h : LObj I F S w) (hn : goodName s) (h1 : -70368744177664 ≤ l) (h2 : l ≤ 0) (hi : idx (nms S.acc) s = none) (hf : S.acc.length < 65536) : Calls Try.prog 8 #[.pointer (some ⟨F.b, 0, none⟩), .string s, .int .i64 l] w (OpenPost I F S s l w) := by
  have H := hide h
  have HN := hide hn
  have HI := hide hi
  have b0 := h.b0
  have d1 : decide (0 < l) = false := by (rw [decide_eq_false_iff_not]; omega)
  have d2 : decide (l < -70368744177664) = false := by (rw [decide_eq_false_iff_not]; omega)
  have HL := hide (show (nms S.acc).length = S.acc.length by simp [nms])
  have HF := hide hf
  have HNA := hide (And.intro (show F.lv.ownBlock ≠ some F.t from fun q => (h.ap.l _ q).2.1 rfl) (And.intro (show F.lv.ownBlock ≠ some F.a from fun q => (h.ap.l _ q).2.2.1 rfl) h.ap.ta.symm))
  have HLR := hide (show w.ownsRow 0 9 1 F.lv (nms S.acc).length ((nms S.acc).map Value.string) by rw [HL.out]; exact h.lr)
  have HAM := hide (show MapIs Try.prog 9 w F.a (nms S.acc).length (nameAt (nms S.acc)) by rw [HL.out]; exact h.am)
  clear h hn hi h1 h2 hf
  go_enter Try.func8, Try.ntmps8
  go_wp2_with (first | (go_at_call 22; refine (isLedger _ F.b F.t H.out.b0).mono ?_; rintro e w' ⟨rfl, rfl⟩) | (go_at_call 23; refine (Check_ok s _ HN.out.1 HN.out.2).mono ?_; rintro e w' ⟨rfl, rfl⟩))
  refine (Add_ok w F.t F.a F.lv (nms S.acc) s H.out.t0 H.out.t1 H.out.t2 H.out.tf HLR.out HAM.out HN.out HI.out (by rw [HL.out]; exact HF.out) HNA.out.1 HNA.out.2.1 HNA.out.2.2).mono ?_
  rintro e w1 hadd
  have HADD := hide hadd
  have hz := hadd.2.choose_spec.2.2.2.2.2.2.2.2.2.2.1
  have hkp := hadd.2.choose_spec.2.2.2.2.2.2.2.2.2.2.2
  have ap := H.out.ap
  have lb := H.out.lt (.inl rfl)
  have HMM := hide (show MapIs Try.prog 3 w1 F.m S.acc.length (accAt S.acc) from H.out.mm.stays hz (hkp _ H.out.mm.lt ap.tm.symm ap.am.symm (fun q => (ap.l _ q).2.2.2.1 rfl)))
  have c1 : w1.cell? ⟨F.b, 1, none⟩ = some (.map (some F.m)) := cell_stay H.out.b1 (hkp _ lb ap.bt ap.ba (fun q => (ap.l _ q).1 rfl))
  have hbz : F.b < w1.heap.size := by omega
  obtain ⟨rfl, -⟩ := hadd
  rw [HL.out]
  clear hz hkp ap lb
  go_wp2_with (at_mapUpdate; refine wpList_mapUpdate_is _ rfl _ _ _ 57 rfl 3 70 law3 Try.underlying57 F.m S.acc.length (accAt S.acc) rfl HMM.out (by have := HF.out; unfold maxLen; omega) _ _ _ rfl rfl (keyOf_int_mk Try.underlying3 (wf_small (by have := HF.out; omega))) ?_; intro w2 hm2 ht2; have HM2 := hide hm2; have HT2 := hide ht2; clear hm2 ht2)
  refine bodyPost_ret (v := .tuple #[.int .i64 (S.acc.length : Int), .int .i64 0]) (by simp [results, Try.f8, go_sem]) rfl ⟨rfl, ?_⟩
  refine Open_close H.out HADD.out ?_ HT2.out
  have q := HM2.out
  have e0 : accAt S.acc (.int .i64 (S.acc.length : Int)) = none := by rw [accAt_nat]; simp
  rw [e0] at q
  exact q.ext (acc_snoc (a := ⟨s, l, 0⟩))
end Go.Proofs.Ytkdocoibfclfeaa
