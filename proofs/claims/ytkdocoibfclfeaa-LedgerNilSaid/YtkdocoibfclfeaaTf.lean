import Derived.Test.YtkdocoibfclfeaaTe
import Derived.Sort.LoopGhostIn
namespace Go.Proofs.Ytkdocoibfclfeaa
open Go.ChangeShapes Go.WideShapes Go.ChangeAt Go.RowKit Go.Deep Go.Shelf Go.Maps Go.WideMaps Ytkdocoibfclfeaa.it
set_option linter.unusedSimpArgs false
set_option linter.unusedVariables false

attribute [local go_sem] Oper.semAt_some

theorem LObj.isn {I : Nat → Prop} {F : Fp} {S : LS} {w : World} (h : LObj I F S w) : Calls Try.prog 22 #[.pointer (some ⟨F.b, 0, none⟩)] w fun e w' => e = .returned (.bool false) ∧ w = w' := isLedger w F.b F.t h.b0
def NoneIs (pv : Option Addr) (r : Bool) (w : World) : Prop := ∀ W, Below w.heap.size w W → Calls Try.prog 22 #[.pointer pv] W fun e w' => e = .returned (.bool r) ∧ W = w'
theorem NoL.noneIs {pv : Option Addr} {w : World} (h : NoL pv w) : NoneIs pv true w := fun W hb => (h.below hb).isn
theorem LObj.noneIs {I : Nat → Prop} {F : Fp} {S : LS} {w : World} (h : LObj I F S w) : NoneIs (some ⟨F.b, 0, none⟩) false w := fun W hb => (h.below hb).isn
theorem same_box (w : World) (qv : Option Addr) : Below w.heap.size w ((w.alloc (.cells #[.pointer qv] 25)).alloc (.cells #[.bool false] 4)) := by (focus repeat' (first | (with_reducible exact Below.refl _ _) | (with_reducible assumption) | (with_reducible refine Below.alloc ?_ ?_ _) | (with_reducible refine Below.drew ?_) | (with_reducible refine bdrewN ?_ _) | (with_reducible refine Below.setCell ?_ ?_ _) | (first | (with_reducible exact Nat.le_refl _) | (with_reducible assumption) | omega | (simp; omega) | (simp; done))))
set_option maxHeartbeats 1000000 in
theorem Same_tt (pv qv : Option Addr) (w : World) (hp : NoneIs pv true w) (hq : NoneIs qv true w) : Calls Try.prog 18 #[.pointer pv, .pointer qv] w fun e w' => e = .returned (.bool true) ∧ Below w.heap.size w w' := by
  have HP := hide (hp _ (same_box w qv))
  have HQ := hide (hq _ (same_box w qv))
  clear hp hq
  go_enter Try.func18, Try.ntmps18
  go_wp2_with fail
  refine HP.out.mono ?_
  rintro e w1 ⟨rfl, rfl⟩
  go_wp2_with fail
  refine HP.out.mono ?_
  rintro e w1 ⟨rfl, rfl⟩
  go_wp2_with fail
  refine HQ.out.mono ?_
  rintro e w1 ⟨rfl, rfl⟩
  go_wp2
  refine bodyPost_ret (v := .bool true) (by simp [results, Try.f18, go_sem]) rfl ⟨rfl, by (focus repeat' (first | (with_reducible exact Below.refl _ _) | (with_reducible assumption) | (with_reducible refine Below.alloc ?_ ?_ _) | (with_reducible refine Below.drew ?_) | (with_reducible refine bdrewN ?_ _) | (with_reducible refine Below.setCell ?_ ?_ _) | (first | (with_reducible exact Nat.le_refl _) | (with_reducible assumption) | omega | (simp; omega) | (simp; done))))⟩
set_option maxHeartbeats 1000000 in
theorem Same_tf (pv qv : Option Addr) (w : World) (hp : NoneIs pv true w) (hq : NoneIs qv false w) : Calls Try.prog 18 #[.pointer pv, .pointer qv] w fun e w' => e = .returned (.bool false) ∧ Below w.heap.size w w' := by
  have HP := hide (hp _ (same_box w qv))
  have HQ := hide (hq _ (same_box w qv))
  clear hp hq
  go_enter Try.func18, Try.ntmps18
  go_wp2_with fail
  refine HP.out.mono ?_
  rintro e w1 ⟨rfl, rfl⟩
  go_wp2_with fail
  refine HP.out.mono ?_
  rintro e w1 ⟨rfl, rfl⟩
  go_wp2_with fail
  refine HQ.out.mono ?_
  rintro e w1 ⟨rfl, rfl⟩
  go_wp2
  refine bodyPost_ret (v := .bool false) (by simp [results, Try.f18, go_sem]) rfl ⟨rfl, by (focus repeat' (first | (with_reducible exact Below.refl _ _) | (with_reducible assumption) | (with_reducible refine Below.alloc ?_ ?_ _) | (with_reducible refine Below.drew ?_) | (with_reducible refine bdrewN ?_ _) | (with_reducible refine Below.setCell ?_ ?_ _) | (first | (with_reducible exact Nat.le_refl _) | (with_reducible assumption) | omega | (simp; omega) | (simp; done))))⟩
set_option maxHeartbeats 1000000 in
theorem Same_ft (pv qv : Option Addr) (w : World) (hp : NoneIs pv false w) (hq : NoneIs qv true w) : Calls Try.prog 18 #[.pointer pv, .pointer qv] w fun e w' => e = .returned (.bool false) ∧ Below w.heap.size w w' := by
  have HP := hide (hp _ (same_box w qv))
  have HQ := hide (hq _ (same_box w qv))
  clear hp hq
  go_enter Try.func18, Try.ntmps18
  go_wp2_with fail
  refine HP.out.mono ?_
  rintro e w1 ⟨rfl, rfl⟩
  go_wp2_with fail
  refine HQ.out.mono ?_
  rintro e w1 ⟨rfl, rfl⟩
  go_wp2_with fail
  refine HP.out.mono ?_
  rintro e w1 ⟨rfl, rfl⟩
  go_wp2
  refine bodyPost_ret (v := .bool false) (by simp [results, Try.f18, go_sem]) rfl ⟨rfl, by (focus repeat' (first | (with_reducible exact Below.refl _ _) | (with_reducible assumption) | (with_reducible refine Below.alloc ?_ ?_ _) | (with_reducible refine Below.drew ?_) | (with_reducible refine bdrewN ?_ _) | (with_reducible refine Below.setCell ?_ ?_ _) | (first | (with_reducible exact Nat.le_refl _) | (with_reducible assumption) | omega | (simp; omega) | (simp; done))))⟩
set_option maxRecDepth 100000 in
set_option maxHeartbeats 4000000 in
theorem nil_c (s : ByteArray) (x : Int) (w : World) : Calls Try.prog 5 #[.string s, .int .i64 x] w fun e w' => e = .returned (.bool true) ∧ Below w.heap.size w w' := by
  go_enter Try.func5, Try.ntmps5
  go_wp2_with fail
  refine (New_c w).mono ?_
  rintro e w1 ⟨rfl, hw1⟩
  have HK1 := hide (hw1 ▸ KL.new w)
  clear hw1
  go_wp2_with fail
  refine (Same_tt none none _ (NoL.noneIs (.inl rfl)) (NoL.noneIs (.inl rfl))).mono ?_
  rintro e w2 ⟨rfl, hb2⟩
  have HK2 := hide (HK1.out.below hb2)
  clear hb2 HK1
  obtain ⟨w3, hw3⟩ : ∃ w3, w3 = w2.alloc (.cells #[.pointer none, .map none, .slice none 0 0] 59) := ⟨_, rfl⟩
  have HK3 := hide (show KL w (w.heap.size + 3) (fun _ => False) (newFp w.heap.size) ⟨[], []⟩ w3 from HK2.out.below (by rw [hw3]; (focus repeat' (first | (with_reducible exact Below.refl _ _) | (with_reducible assumption) | (with_reducible refine Below.alloc ?_ ?_ _) | (with_reducible refine Below.drew ?_) | (with_reducible refine bdrewN ?_ _) | (with_reducible refine Below.setCell ?_ ?_ _) | (first | (with_reducible exact Nat.le_refl _) | (with_reducible assumption) | omega | (simp; omega) | (simp; done))))))
  have HZ3 := hide (show NoL (some ⟨w2.heap.size, 0, none⟩) w3 from .inr ⟨_, rfl, by rw [hw3]; simp [go_sem]⟩)
  go_wp2_with fail
  rw [← hw3]
  clear hw3 HK2
  refine (Same_tt none _ _ (NoL.noneIs (.inl rfl)) HZ3.out.noneIs).mono ?_
  rintro e w4 ⟨rfl, hb4⟩
  have HK4 := hide (HK3.out.below hb4)
  clear hb4 HK3 HZ3
  go_wp2_with fail
  refine (Same_tf none _ _ (NoL.noneIs (.inl rfl)) HK4.out.obj.noneIs).mono ?_
  rintro e w5 ⟨rfl, hb5⟩
  have HK5 := hide (HK4.out.below hb5)
  clear hb5 HK4
  go_wp2_with fail
  refine (Same_ft _ none _ HK5.out.obj.noneIs (NoL.noneIs (.inl rfl))).mono ?_
  rintro e w6 ⟨rfl, hb6⟩
  have HK6 := hide (HK5.out.below hb6).low
  clear hb6 HK5
  go_wp2_with fail
  refine (nothing_c none s x _ (.inl rfl)).mono ?_
  rintro e w7 ⟨rfl, hb7⟩
  have HK7 := hide (bstep HK6.out hb7)
  clear hb7 HK6
  obtain ⟨w8, hw8⟩ : ∃ w8, w8 = w7.alloc (.cells #[.pointer none, .map none, .slice none 0 0] 59) := ⟨_, rfl⟩
  have HK8 := hide (show Below w.heap.size w w8 from bstep HK7.out (by rw [hw8]; (focus repeat' (first | (with_reducible exact Below.refl _ _) | (with_reducible assumption) | (with_reducible refine Below.alloc ?_ ?_ _) | (with_reducible refine Below.drew ?_) | (with_reducible refine bdrewN ?_ _) | (with_reducible refine Below.setCell ?_ ?_ _) | (first | (with_reducible exact Nat.le_refl _) | (with_reducible assumption) | omega | (simp; omega) | (simp; done))))))
  have HZ8 := hide (show NoL (some ⟨w7.heap.size, 0, none⟩) w8 from .inr ⟨_, rfl, by rw [hw8]; simp [go_sem]⟩)
  go_wp2_with fail
  rw [← hw8]
  clear hw8 HK7
  refine (nothing_c _ s x _ HZ8.out).mono ?_
  rintro e w9 ⟨rfl, hb9⟩
  have HK9 := hide (bstep HK8.out hb9)
  clear hb9 HK8 HZ8
  go_wp2_with fail
  refine (known_c _).mono ?_
  rintro e w10 ⟨rfl, hb10⟩
  have HK10 := hide (bstep HK9.out hb10)
  clear hb10 HK9
  go_wp2
  go_ret
  exact ⟨rfl, HK10.out⟩
end Go.Proofs.Ytkdocoibfclfeaa
