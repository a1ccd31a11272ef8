import Derived.Test.YtajkgecegefnmaaU3
namespace Go.Proofs.Ytajkgecegefnmaa
open Go.ChangeShapes Go.WideShapes Go.ChangeAt Go.RowKit Go.Deep
set_option linter.unusedSimpArgs false
set_option linter.unusedVariables false

set_option maxRecDepth 100000 in
set_option maxHeartbeats 4000000 in
theorem WireNil_c  (w : World) : Calls Try.prog 8 #[] w (fun e w' => e = .returned (.bool true) ∧ Below w.heap.size w w') := by
  go_enter Try.func8, Try.ntmps8
  go_wp2_with (go_at_call 23; go_in)
  refine (nilNum 1 _ (by decide) (by decide)).mono ?_
  rintro e w1 ⟨rfl, hb1⟩
  have HB1 : Below w.heap.size w w1 := hb1
  clear hb1
  go_wp2_with (go_at_call 23; go_in)
  refine (nilSigned _).mono ?_
  rintro e w2 ⟨rfl, hb2⟩
  have HB2 : Below w.heap.size w w2 := bstep (by (focus repeat' (first | (with_reducible exact Below.refl _ _) | (with_reducible assumption) | (with_reducible refine Below.alloc ?_ ?_ _) | (with_reducible refine Below.drew ?_) | (with_reducible refine bdrewN ?_ _) | (with_reducible refine Below.setCell ?_ ?_ _) | (first | (with_reducible exact Nat.le_refl _) | (with_reducible assumption) | omega | (simp; omega) | (simp; done))))) hb2
  clear hb2 HB1
  go_wp2_with (go_at_call 23; go_in)
  refine (nilFlag _).mono ?_
  rintro e w3 ⟨rfl, hb3⟩
  have HB3 : Below w.heap.size w w3 := bstep (by (focus repeat' (first | (with_reducible exact Below.refl _ _) | (with_reducible assumption) | (with_reducible refine Below.alloc ?_ ?_ _) | (with_reducible refine Below.drew ?_) | (with_reducible refine bdrewN ?_ _) | (with_reducible refine Below.setCell ?_ ?_ _) | (first | (with_reducible exact Nat.le_refl _) | (with_reducible assumption) | omega | (simp; omega) | (simp; done))))) hb3
  clear hb3 HB2
  go_wp2_with (go_at_call 23; go_in)
  refine (nilReal _).mono ?_
  rintro e w4 ⟨rfl, hb4⟩
  have HB4 : Below w.heap.size w w4 := bstep (by (focus repeat' (first | (with_reducible exact Below.refl _ _) | (with_reducible assumption) | (with_reducible refine Below.alloc ?_ ?_ _) | (with_reducible refine Below.drew ?_) | (with_reducible refine bdrewN ?_ _) | (with_reducible refine Below.setCell ?_ ?_ _) | (first | (with_reducible exact Nat.le_refl _) | (with_reducible assumption) | omega | (simp; omega) | (simp; done))))) hb4
  clear hb4 HB3
  go_wp2_with (go_at_call 23; go_in)
  refine (nilText _).mono ?_
  rintro e w5 ⟨rfl, hb5⟩
  have HB5 : Below w.heap.size w w5 := bstep (by (focus repeat' (first | (with_reducible exact Below.refl _ _) | (with_reducible assumption) | (with_reducible refine Below.alloc ?_ ?_ _) | (with_reducible refine Below.drew ?_) | (with_reducible refine bdrewN ?_ _) | (with_reducible refine Below.setCell ?_ ?_ _) | (first | (with_reducible exact Nat.le_refl _) | (with_reducible assumption) | omega | (simp; omega) | (simp; done))))) hb5
  clear hb5 HB4
  go_wp2_with (go_at_call 23; go_in)
  refine (nilLen _).mono ?_
  rintro e w6 ⟨rfl, hb6⟩
  have HB6 : Below w.heap.size w w6 := bstep (by (focus repeat' (first | (with_reducible exact Below.refl _ _) | (with_reducible assumption) | (with_reducible refine Below.alloc ?_ ?_ _) | (with_reducible refine Below.drew ?_) | (with_reducible refine bdrewN ?_ _) | (with_reducible refine Below.setCell ?_ ?_ _) | (first | (with_reducible exact Nat.le_refl _) | (with_reducible assumption) | omega | (simp; omega) | (simp; done))))) hb6
  clear hb6 HB5
  go_wp2_with (go_at_call 23; go_in)
  refine (nilBytes _).mono ?_
  rintro e w7 ⟨rfl, hb7⟩
  have HB7 : Below w.heap.size w w7 := bstep (by (focus repeat' (first | (with_reducible exact Below.refl _ _) | (with_reducible assumption) | (with_reducible refine Below.alloc ?_ ?_ _) | (with_reducible refine Below.drew ?_) | (with_reducible refine bdrewN ?_ _) | (with_reducible refine Below.setCell ?_ ?_ _) | (first | (with_reducible exact Nat.le_refl _) | (with_reducible assumption) | omega | (simp; omega) | (simp; done))))) hb7
  clear hb7 HB6
  go_wp2_with (go_at_call 23; go_in)
  refine (nilList _).mono ?_
  rintro e w8 ⟨rfl, hb8⟩
  have HB8 : Below w.heap.size w w8 := bstep (by (focus repeat' (first | (with_reducible exact Below.refl _ _) | (with_reducible assumption) | (with_reducible refine Below.alloc ?_ ?_ _) | (with_reducible refine Below.drew ?_) | (with_reducible refine bdrewN ?_ _) | (with_reducible refine Below.setCell ?_ ?_ _) | (first | (with_reducible exact Nat.le_refl _) | (with_reducible assumption) | omega | (simp; omega) | (simp; done))))) hb8
  clear hb8 HB7
  go_wp2_with (go_at_call 23; go_in)
  refine (NewWriter_c _).mono ?_
  rintro e w9 ⟨g9, rfl, _, hb9, _⟩
  have HB9 : Below w.heap.size w w9 := bstep (by (focus repeat' (first | (with_reducible exact Below.refl _ _) | (with_reducible assumption) | (with_reducible refine Below.alloc ?_ ?_ _) | (with_reducible refine Below.drew ?_) | (with_reducible refine bdrewN ?_ _) | (with_reducible refine Below.setCell ?_ ?_ _) | (first | (with_reducible exact Nat.le_refl _) | (with_reducible assumption) | omega | (simp; omega) | (simp; done))))) hb9
  clear hb9 HB8
  go_wp2_with (go_at_call 23; go_in)
  refine (listNil g9 _).mono ?_
  rintro e w10 ⟨rfl, hb10⟩
  have HB10 : Below w.heap.size w w10 := bstep (by (focus repeat' (first | (with_reducible exact Below.refl _ _) | (with_reducible assumption) | (with_reducible refine Below.alloc ?_ ?_ _) | (with_reducible refine Below.drew ?_) | (with_reducible refine bdrewN ?_ _) | (with_reducible refine Below.setCell ?_ ?_ _) | (first | (with_reducible exact Nat.le_refl _) | (with_reducible assumption) | omega | (simp; omega) | (simp; done))))) hb10
  clear hb10 HB9
  go_wp2_with (go_at_call 23; go_in)
  refine (nilRNum _).mono ?_
  rintro e w11 ⟨rfl, hb11⟩
  have HB11 : Below w.heap.size w w11 := bstep (by (focus repeat' (first | (with_reducible exact Below.refl _ _) | (with_reducible assumption) | (with_reducible refine Below.alloc ?_ ?_ _) | (with_reducible refine Below.drew ?_) | (with_reducible refine bdrewN ?_ _) | (with_reducible refine Below.setCell ?_ ?_ _) | (first | (with_reducible exact Nat.le_refl _) | (with_reducible assumption) | omega | (simp; omega) | (simp; done))))) hb11
  clear hb11 HB10
  go_wp2_with (go_at_call 23; go_in)
  refine (nilRSigned _).mono ?_
  rintro e w12 ⟨rfl, hb12⟩
  have HB12 : Below w.heap.size w w12 := bstep (by (focus repeat' (first | (with_reducible exact Below.refl _ _) | (with_reducible assumption) | (with_reducible refine Below.alloc ?_ ?_ _) | (with_reducible refine Below.drew ?_) | (with_reducible refine bdrewN ?_ _) | (with_reducible refine Below.setCell ?_ ?_ _) | (first | (with_reducible exact Nat.le_refl _) | (with_reducible assumption) | omega | (simp; omega) | (simp; done))))) hb12
  clear hb12 HB11
  go_wp2_with (go_at_call 23; go_in)
  refine (nilRFlag _).mono ?_
  rintro e w13 ⟨rfl, hb13⟩
  have HB13 : Below w.heap.size w w13 := bstep (by (focus repeat' (first | (with_reducible exact Below.refl _ _) | (with_reducible assumption) | (with_reducible refine Below.alloc ?_ ?_ _) | (with_reducible refine Below.drew ?_) | (with_reducible refine bdrewN ?_ _) | (with_reducible refine Below.setCell ?_ ?_ _) | (first | (with_reducible exact Nat.le_refl _) | (with_reducible assumption) | omega | (simp; omega) | (simp; done))))) hb13
  clear hb13 HB12
  go_wp2_with (go_at_call 23; go_in)
  refine (nilRReal _).mono ?_
  rintro e w14 ⟨rfl, hb14⟩
  have HB14 : Below w.heap.size w w14 := bstep (by (focus repeat' (first | (with_reducible exact Below.refl _ _) | (with_reducible assumption) | (with_reducible refine Below.alloc ?_ ?_ _) | (with_reducible refine Below.drew ?_) | (with_reducible refine bdrewN ?_ _) | (with_reducible refine Below.setCell ?_ ?_ _) | (first | (with_reducible exact Nat.le_refl _) | (with_reducible assumption) | omega | (simp; omega) | (simp; done))))) hb14
  clear hb14 HB13
  go_wp2_with (go_at_call 23; go_in)
  refine (nilRText _).mono ?_
  rintro e w15 ⟨rfl, hb15⟩
  have HB15 : Below w.heap.size w w15 := bstep (by (focus repeat' (first | (with_reducible exact Below.refl _ _) | (with_reducible assumption) | (with_reducible refine Below.alloc ?_ ?_ _) | (with_reducible refine Below.drew ?_) | (with_reducible refine bdrewN ?_ _) | (with_reducible refine Below.setCell ?_ ?_ _) | (first | (with_reducible exact Nat.le_refl _) | (with_reducible assumption) | omega | (simp; omega) | (simp; done))))) hb15
  clear hb15 HB14
  go_wp2_with (go_at_call 23; go_in)
  refine (nilTake _).mono ?_
  rintro e w16 ⟨rfl, hb16⟩
  have HB16 : Below w.heap.size w w16 := bstep (by (focus repeat' (first | (with_reducible exact Below.refl _ _) | (with_reducible assumption) | (with_reducible refine Below.alloc ?_ ?_ _) | (with_reducible refine Below.drew ?_) | (with_reducible refine bdrewN ?_ _) | (with_reducible refine Below.setCell ?_ ?_ _) | (first | (with_reducible exact Nat.le_refl _) | (with_reducible assumption) | omega | (simp; omega) | (simp; done))))) hb16
  clear hb16 HB15
  go_wp2_with fail
  refine (NewReader_some [1, 1] w16.heap.size 0 2 _ (by decide) (by decide) (by decide) (fun j hj => ?_) (by simp)).mono ?_
  · have hj2 : j = 0 ∨ j = 1 := by (have : ([1, 1] : List Nat).length = 2 := rfl; omega)
    rcases hj2 with rfl | rfl <;> simp [go_sem, List.getD]
  rintro e w17 ⟨g17, b17, cap17, rfl, hg17, _, hb17, hR17⟩
  have hgl : w.heap.size ≤ g17 := by (have := HB16.size; simp at hg17; omega)
  have hz16 := HB16.size
  have HB17 : Below w.heap.size w w17 := bstep (by (focus repeat' (first | (with_reducible exact Below.refl _ _) | (with_reducible assumption) | (with_reducible refine Below.alloc ?_ ?_ _) | (with_reducible refine Below.drew ?_) | (with_reducible refine bdrewN ?_ _) | (with_reducible refine Below.setCell ?_ ?_ _) | (first | (with_reducible exact Nat.le_refl _) | (with_reducible assumption) | omega | (simp; omega) | (simp; done))))) hb17
  clear hz16 hb17 HB16 hg17
  go_wp2_with fail
  refine (takeNil g17 b17 0 cap17 [1, 1] _ hR17).mono ?_
  rintro e w18 ⟨rfl, ho18⟩
  have HB18 : Below w.heap.size w w18 := HB17.trans ⟨ho18.os, ho18.tape, ho18.output, ho18.size, fun i hi => ho18.block i (by have := HB17.size; omega) (by omega)⟩
  clear hR17 HB17 ho18
  have hz0 : RNil (w18.alloc (.cells #[Value.slice none 0 0, Value.int .i64 0] 93)) w18.heap.size := ⟨by simp, fun o => by simp [go_sem], fun o => by simp [go_sem]⟩
  have HZ0 := hide hz0
  have hz18 := HB18.size
  have hBz : Below w.heap.size w (w18.alloc (.cells #[Value.slice none 0 0, Value.int .i64 0] 93)) := by (focus repeat' (first | (with_reducible exact Below.refl _ _) | (with_reducible assumption) | (with_reducible refine Below.alloc ?_ ?_ _) | (with_reducible refine Below.drew ?_) | (with_reducible refine bdrewN ?_ _) | (with_reducible refine Below.setCell ?_ ?_ _) | (first | (with_reducible exact Nat.le_refl _) | (with_reducible assumption) | omega | (simp; omega) | (simp; done))))
  have HBz := hide hBz
  have hzz := hide HB18.size
  clear hz0 hBz HB18 hz18
  go_wp2_with fail
  refine (RNum_nil w18.heap.size _ HZ0.out).mono ?_
  rintro e w19 ⟨rfl, ho19, hR19⟩
  have HB19 : Below w.heap.size w w19 := HBz.out.trans ⟨ho19.os, ho19.tape, ho19.output, ho19.size, fun i hi => ho19.block i (by have := HBz.out.size; omega) (by have := hzz.out; omega)⟩
  have HR19 := hide hR19
  clear ho19 hR19 HZ0 HBz
  have hB20 : Below w19.heap.size w19 (w19.alloc (.cells #[Value.slice none 0 0] 52)) := by (focus repeat' (first | (with_reducible exact Below.refl _ _) | (with_reducible assumption) | (with_reducible refine Below.alloc ?_ ?_ _) | (with_reducible refine Below.drew ?_) | (with_reducible refine bdrewN ?_ _) | (with_reducible refine Below.setCell ?_ ?_ _) | (first | (with_reducible exact Nat.le_refl _) | (with_reducible assumption) | omega | (simp; omega) | (simp; done))))
  have HW20 := hide (show WObj (w19.alloc (.cells #[Value.slice none 0 0] 52)) w19.heap.size (.slice none 0 0) [] from ⟨by simp, by simp [go_sem], by simp [go_sem], World.ownsRow_nil _ _ _ _, by simp [Value.ownBlock], fun _ => rfl⟩)
  have HR20 := hide (show RAny (w19.alloc (.cells #[Value.slice none 0 0] 52)) w18.heap.size w19.heap.size [] 0 from ⟨by simp, .inr ⟨HR19.out.below hB20, rfl, rfl⟩⟩)
  have hz19 := HB19.size
  have HB20 : Below w.heap.size w (w19.alloc (.cells #[Value.slice none 0 0] 52)) := by (focus repeat' (first | (with_reducible exact Below.refl _ _) | (with_reducible assumption) | (with_reducible refine Below.alloc ?_ ?_ _) | (with_reducible refine Below.drew ?_) | (with_reducible refine bdrewN ?_ _) | (with_reducible refine Below.setCell ?_ ?_ _) | (first | (with_reducible exact Nat.le_refl _) | (with_reducible assumption) | omega | (simp; omega) | (simp; done))))
  have hzw := hide HB19.size
  clear hB20 HB19 HR19 hz19
  go_wp2_with (go_at_call 23; go_in)
  refine (nilEnd _).mono ?_
  rintro e w21 ⟨rfl, hb21⟩
  have HW21 := hide (HW20.out.below hb21)
  have HR21 := hide (HR20.out.below hb21)
  have HB21 : Below w.heap.size w w21 := bstep HB20 hb21
  clear hb21 HB20 HW20 HR20
  go_wp2_with (go_at_call 23; go_in)
  refine (nilLeft _).mono ?_
  rintro e w22 ⟨rfl, hb22⟩
  have HW22 := hide (HW21.out.below hb22)
  have HR22 := hide (HR21.out.below hb22)
  have HB22 : Below w.heap.size w w22 := bstep HB21 hb22
  clear hb22 HB21 HW21 HR21
  go_wp2_with (go_at_call 23; go_in)
  refine (nilPlace _).mono ?_
  rintro e w23 ⟨rfl, hb23⟩
  have HW23 := hide (HW22.out.below hb23)
  have HR23 := hide (HR22.out.below hb23)
  have HB23 : Below w.heap.size w w23 := bstep HB22 hb23
  clear hb23 HB22 HW22 HR22
  go_wp2_with (go_at_call 23; go_in)
  refine (End_no w18.heap.size w19.heap.size [] 0 _ HR23.out (by decide)).mono ?_
  rintro e w24 ⟨rfl, hb24⟩
  have HW24 := hide (HW23.out.below hb24)
  have HR24 := hide (HR23.out.below hb24)
  have HB24 : Below w.heap.size w w24 := bstep HB23 hb24
  clear hb24 HB23 HW23 HR23
  go_wp2_with (go_at_call 23; go_in)
  refine (Number_c w19.heap.size (.slice none 0 0) [] 7 _ HW24.out (by decide) (by decide)).mono ?_
  rintro e w25 ⟨v25, rfl, hW25, hk25, hn25⟩
  have HB25 : Below w.heap.size w w25 := HB24.trans ⟨hk25.1, hk25.2.1, hk25.2.2.1, hk25.2.2.2.1, fun i hi => hk25.2.2.2.2 i (by have := HB24.size; omega) (by have := hzw.out; omega) (by simp [Value.ownBlock])⟩
  clear hk25 hn25 HW24 HR24 HB24
  go_wp2_with (go_at_call 23; go_in)
  refine (Len_c w19.heap.size v25 _ _ hW25).mono ?_
  rw [show ((([] ++ form 7 : List Nat).length : Nat) : Int) = 1 from rfl]
  rintro e w26 ⟨rfl, hb26⟩
  have HB26 : Below w.heap.size w w26 := bstep HB25 hb26
  clear hb26 HB25 hW25
  go_wp2_with fail
  refine (known_c _).mono ?_
  rintro e w27 ⟨rfl, hb27⟩
  have HB27 : Below w.heap.size w w27 := bstep HB26 hb27
  clear hb27 HB26
  go_wp2
  go_ret
  exact ⟨rfl, HB27⟩
end Go.Proofs.Ytajkgecegefnmaa
