import Derived.Maps.AppendAt
import Derived.Deep.AppendLies
import Derived.Laws.OwnMore
import Derived.Test.YtkdocoibfclfeaaT9
namespace Go.Proofs.Ytkdocoibfclfeaa
open Go.ChangeShapes Go.WideShapes Go.ChangeAt Go.RowKit Go.Deep Go.Maps Go.ChangeMaps Go.WideMaps
set_option linter.unusedSimpArgs false
set_option linter.unusedVariables false

/-- a ledger of the call's own -/
structure KL (w : World) (B : Nat) (I : Nat → Prop) (F : Fp) (S : LS) (w1 : World) : Prop where
  obj : LObj I F S w1
  b : F.b = B
  own : ∀ k, F.own k → w.heap.size ≤ k
  low : Below w.heap.size w w1
theorem KL.step {w : World} {B : Nat} {I I' : Nat → Prop} {F F' : Fp} {S S' : LS} {w1 w2 : World} (h : KL w B I F S w1) (ho : LObj I' F' S' w2) (hs : Step I F w1 I' F' w2) : KL w B I' F' S' w2 :=
  ⟨ho, hs.b.trans h.b, fun k hk => (hs.own k hk).elim (h.own k) (fun q => Nat.le_trans h.low.size q), h.low.trans (hs.below h.own h.low.size)⟩
theorem KL.below {w : World} {B : Nat} {I : Nat → Prop} {F : Fp} {S : LS} {w1 w2 : World} (h : KL w B I F S w1) (hb : Below w1.heap.size w1 w2) : KL w B I F S w2 := ⟨h.obj.below hb, h.b, h.own, bstep h.low hb⟩
theorem KL.new (w : World) : KL w (w.heap.size + 3) (fun _ => False) (newFp w.heap.size) ⟨[], []⟩ ((((w.alloc (.map #[] 0)).alloc (.cells #[.slice none 0 0, .map (some w.heap.size), .int .i64 65536] 112)).alloc (.map #[] 0)).alloc (.cells #[.pointer (some ⟨w.heap.size + 1, 0, none⟩), .map (some (w.heap.size + 2)), .slice none 0 0] 59)) := by
  refine ⟨New_obj _ w (fun _ q => q.elim), rfl, fun k hk => ?_, ?_⟩
  · rcases hk with q | q | q | q | q | q
    · simp [newFp] at q; omega
    · simp [newFp] at q; omega
    · simp [newFp] at q; omega
    · simp [newFp] at q; omega
    · cases q
    · cases q
  · (focus repeat' (first | (with_reducible exact Below.refl _ _) | (with_reducible assumption) | (with_reducible refine Below.alloc ?_ ?_ _) | (with_reducible refine Below.drew ?_) | (with_reducible refine bdrewN ?_ _) | (with_reducible refine Below.setCell ?_ ?_ _) | (first | (with_reducible exact Nat.le_refl _) | (with_reducible assumption) | omega | (simp; omega) | (simp; done))))
theorem Ents.two (w : World) (s1 s2 : ByteArray) (c1 c2 : Int) : Ents (some ⟨w.heap.size, 0, none⟩) 2 [(s1, c1), (s2, c2)] (w.alloc (.cells #[.string s1, .int .i64 c1, .string s2, .int .i64 c2] 63)) := by
  refine ⟨(fun q => by cases q), (fun _ => ⟨_, _, rfl⟩), (fun ad e j u hu => ?_)⟩
  cases e
  rw [Addr.add_lit]
  have hj : j < 4 := by
    rcases Nat.lt_or_ge j 4 with q | q
    · exact q
    · rw [List.getElem?_eq_none (by simpa [flatE] using q)] at hu; cases hu
  rcases (by omega : j = 0 ∨ j = 1 ∨ j = 2 ∨ j = 3) with rfl | rfl | rfl | rfl <;> simp [flatE] at hu <;> subst hu <;> simp [go_sem]
def hsN : ByteArray := (⟨#[104, 111, 117, 115, 101]⟩ : ByteArray)
def anN : ByteArray := (⟨#[97, 110, 110]⟩ : ByteArray)
theorem hs_an : hsN ≠ anN := fun h => by have := congrArg ByteArray.size h; revert this; decide
theorem an_hs : anN ≠ hsN := hs_an.symm
theorem good_hs : goodName hsN := by unfold goodName; decide
theorem good_an : goodName anN := by unfold goodName; decide
def A0 : List Acc := [⟨hsN, -1000, 0⟩, ⟨anN, 0, 0⟩]
def A1 : List Acc := [⟨hsN, -1000, -50⟩, ⟨anN, 0, 50⟩]
def p1 : List Ent := [(hsN, -50), (anN, 50)]
def p2 : List Ent := [(anN, -60), (hsN, 60)]
def p3 : List Ent := [(hsN, 50), (anN, -50)]
theorem neg_p1 : negE p1 = p3 := rfl
theorem form2 (s1 s2 : ByteArray) (c : Int) (h1 : goodName s1) (h2 : goodName s2) (hc : c ≠ 0) (hb : -100 ≤ c ∧ c ≤ 100) : Formed [(s1, c), (s2, -c)] := by
  refine ⟨by simp, by simp, fun x hx => ?_, by simp [total]; omega⟩
  simp at hx
  rcases hx with rfl | rfl
  · exact ⟨h1, hc, by unfold maxC; show c ≤ _; omega, by unfold maxC; show _ ≤ c; omega⟩
  · exact ⟨h2, by show -c ≠ 0; omega, by unfold maxC; show -c ≤ _; omega, by unfold maxC; show _ ≤ -c; omega⟩
theorem idx_hs (A : List Acc) (l h l2 h2 : Int) : idx (nms (⟨hsN, l, h⟩ :: ⟨anN, l2, h2⟩ :: A)) hsN = some 0 := by simp [nms, idx]
theorem idx_an (A : List Acc) (l h l2 h2 : Int) : idx (nms (⟨hsN, l, h⟩ :: ⟨anN, l2, h2⟩ :: A)) anN = some 1 := by simp [nms, idx, hs_an]
theorem there2 (l h l2 h2 : Int) (p : List Ent) (hp : ∀ s ∈ names p, s = hsN ∨ s = anN) : allThere [⟨hsN, l, h⟩, ⟨anN, l2, h2⟩] p := fun s hs => by
  rcases hp s hs with rfl | rfl
  · exact ⟨0, idx_hs [] _ _ _ _⟩
  · exact ⟨1, idx_an [] _ _ _ _⟩
theorem sum_hs1 : sumOf p1 hsN = -50 := by simp [p1, sumOf, an_hs]
theorem sum_an1 : sumOf p1 anN = 50 := by simp [p1, sumOf, hs_an]
theorem posted1 : posted A0 p1 = A1 := by simp [posted, A0, A1, sum_hs1, sum_an1]
theorem sum_an2 : sumOf p2 anN = -60 := by simp [p2, sumOf, hs_an]
theorem sum_hs3 : sumOf p3 hsN = 50 := by simp [p3, sumOf, an_hs]
theorem sum_an3 : sumOf p3 anN = -50 := by simp [p3, sumOf, hs_an]
theorem may1 : mayE A0 p1 = 0 := by
  unfold mayE
  rw [if_neg (fun q => q (form2 hsN anN (-50) good_hs good_an (by decide) (by decide))), if_neg (fun q => q (there2 _ _ _ _ _ (by simp [names, p1]))), if_neg]
  rintro ⟨a, ha, -, hl⟩
  simp [A0] at ha
  rcases ha with rfl | rfl
  · simp [sum_hs1] at hl
  · simp [sum_an1] at hl
theorem may2 : mayE A1 p2 = 7 := by
  unfold mayE
  rw [if_neg (fun q => q (form2 anN hsN (-60) good_an good_hs (by decide) (by decide))), if_neg (fun q => q (there2 _ _ _ _ _ (by simp [names, p2]))), if_pos]
  exact ⟨⟨anN, 0, 50⟩, by simp [A1], by simp [names, p2], by simp [sum_an2]⟩
theorem may3 : mayE A1 p3 = 0 := by
  unfold mayE
  rw [if_neg (fun q => q (form2 hsN anN 50 good_hs good_an (by decide) (by decide))), if_neg (fun q => q (there2 _ _ _ _ _ (by simp [names, p3]))), if_neg]
  rintro ⟨a, ha, -, hl⟩
  simp [A1] at ha
  rcases ha with rfl | rfl
  · simp [sum_hs3] at hl
  · simp [sum_an3] at hl
theorem sound0 : Sound A0 := (Sound.nil.opened good_hs (by decide) (by decide) rfl (by decide)).opened good_an (by decide) (by decide) (by simp [nms, idx, hs_an]) (by decide)
theorem formed1 : Formed p1 := form2 hsN anN (-50) good_hs good_an (by decide) (by decide)
theorem sound1 : Sound A1 := by
  rw [← posted1]
  exact sound0.posted formed1 (there2 _ _ _ _ _ (by simp [names, p1])) (fun ⟨a, ha, _, hl⟩ => by
    simp [A0] at ha
    rcases ha with rfl | rfl
    · simp [sum_hs1] at hl
    · simp [sum_an1] at hl)

set_option maxRecDepth 100000 in
set_option maxHeartbeats 4000000 in
theorem known_c (w : World) : Calls Try.prog 6 #[] w fun e w' => e = .returned (.bool true) ∧ Below w.heap.size w w' := by
  go_enter Try.func6, Try.ntmps6
  go_wp2_with fail
  refine (New_c w).mono ?_
  rintro e w1 ⟨rfl, hw1⟩
  have HK1 := hide (hw1 ▸ KL.new w)
  clear hw1
  go_wp2_with fail
  have q2 := Open_ok _ _ _ hsN (-1000) _ HK1.out.obj good_hs (by decide) (by decide) rfl (by decide)
  rw [HK1.out.b] at q2
  refine q2.mono ?_
  clear q2
  rintro e w2 ⟨rfl, F2, ho2, hs2⟩
  have HK2 := hide (HK1.out.step ho2 hs2)
  clear HK1 ho2 hs2
  go_wp2_with fail
  have q3 := Open_ok _ _ _ anN 0 _ HK2.out.obj good_an (by decide) (by decide) (by simp [nms, idx, hs_an]) (by simp)
  rw [HK2.out.b] at q3
  refine q3.mono ?_
  clear q3
  rintro e w3 ⟨rfl, F3, ho3, hs3⟩
  have HK3 := hide (HK2.out.step ho3 hs3)
  clear HK2 ho3 hs3
  obtain ⟨W3, hW3⟩ : ∃ W3, W3 = w3.alloc (.cells #[.string hsN, .int .i64 (-50), .string anN, .int .i64 50] 63) := ⟨_, rfl⟩
  have HE3 := hide (show Ents (some ⟨w3.heap.size, 0, none⟩) 2 p1 W3 from hW3 ▸ Ents.two w3 _ _ _ _)
  have HK3' := hide (show KL w (w.heap.size + 3) (fun _ => False) F3 ⟨A0, []⟩ W3 from HK3.out.below (by rw [hW3]; (focus repeat' (first | (with_reducible exact Below.refl _ _) | (with_reducible assumption) | (with_reducible refine Below.alloc ?_ ?_ _) | (with_reducible refine Below.drew ?_) | (with_reducible refine bdrewN ?_ _) | (with_reducible refine Below.setCell ?_ ?_ _) | (first | (with_reducible exact Nat.le_refl _) | (with_reducible assumption) | omega | (simp; omega) | (simp; done))))))
  clear HK3
  go_wp2_with fail
  rw [show (((⟨#[104, 111, 117, 115, 101]⟩ : ByteArray)) : ByteArray) = hsN from rfl, show (((⟨#[97, 110, 110]⟩ : ByteArray)) : ByteArray) = anN from rfl, ← hW3]
  clear hW3
  have q4 := Post_yes _ _ _ _ _ p1 _ HK3'.out.obj HE3.out sound0 may1 (by decide) (HE3.out.apart (by decide) HK3'.out.obj.mm)
  rw [HK3'.out.b] at q4
  refine q4.mono ?_
  clear q4
  rintro e w4 ⟨rfl, I4, F4, ho4, hs4⟩
  have HK4 := hide (show KL w (w.heap.size + 3) I4 F4 ⟨A1, [p1]⟩ w4 from by
    have q := HK3'.out.step ho4 hs4
    rw [posted1] at q
    exact q)
  clear ho4 hs4 HK3' HE3
  obtain ⟨W4, hW4⟩ : ∃ W4, W4 = w4.alloc (.cells #[.string anN, .int .i64 (-60), .string hsN, .int .i64 60] 63) := ⟨_, rfl⟩
  have HE4 := hide (show Ents (some ⟨w4.heap.size, 0, none⟩) 2 p2 W4 from hW4 ▸ Ents.two w4 _ _ _ _)
  have HK4' := hide (show KL w (w.heap.size + 3) I4 F4 ⟨A1, [p1]⟩ W4 from HK4.out.below (by rw [hW4]; (focus repeat' (first | (with_reducible exact Below.refl _ _) | (with_reducible assumption) | (with_reducible refine Below.alloc ?_ ?_ _) | (with_reducible refine Below.drew ?_) | (with_reducible refine bdrewN ?_ _) | (with_reducible refine Below.setCell ?_ ?_ _) | (first | (with_reducible exact Nat.le_refl _) | (with_reducible assumption) | omega | (simp; omega) | (simp; done))))))
  clear HK4
  go_wp2_with fail
  rw [show (((⟨#[104, 111, 117, 115, 101]⟩ : ByteArray)) : ByteArray) = hsN from rfl, show (((⟨#[97, 110, 110]⟩ : ByteArray)) : ByteArray) = anN from rfl, ← hW4]
  clear hW4
  have q5 := Post_no _ _ _ _ _ p2 _ HK4'.out.obj HE4.out sound1 (by rw [may2]; decide)
  rw [HK4'.out.b, may2] at q5
  refine q5.mono ?_
  clear q5
  rintro e w5 ⟨rfl, hb5⟩
  have HK5 := hide (HK4'.out.below hb5)
  clear hb5 HK4' HE4
  go_wp2_with fail
  have q6 := Has_yes _ _ _ anN 1 ⟨anN, 0, 50⟩ _ HK5.out.obj (by decide) (idx_an [] _ _ _ _) rfl (by decide)
  rw [HK5.out.b] at q6
  refine q6.mono ?_
  clear q6
  rintro e w6 ⟨rfl, rfl⟩
  go_wp2_with fail
  have q7 := Back_yes _ _ _ 0 p1 _ HK5.out.obj rfl ⟨sound1, by simp; exact formed1, by decide⟩
  rw [HK5.out.b] at q7
  refine q7.mono ?_
  clear q7
  rintro e w7 (⟨h1, -⟩ | ⟨-, rfl, I7, F7, ho7, hs7⟩)
  · rw [neg_p1] at h1
    exact absurd may3 h1
  have HK7 := hide (HK5.out.step ho7 hs7)
  clear ho7 hs7 HK5
  go_wp2
  go_ret
  exact ⟨rfl, HK7.out.low⟩
end Go.Proofs.Ytkdocoibfclfeaa
