import Derived.Test.YtajkgecegefnmaaV7
namespace Go.Proofs.Ytajkgecegefnmaa
open Go.ChangeShapes Go.WideShapes Go.ChangeAt Go.RowKit Go.Deep
set_option linter.unusedSimpArgs false
set_option linter.unusedVariables false

set_option maxRecDepth 100000 in
set_option maxHeartbeats 4000000 in
theorem WirePairs_A (ao : Option Addr) (cap : Nat) (ns : List Nat) (m : Nat) (w : World) (hb : Row8 w ao cap ns) (hm : m ≤ 9223372036854775807) (hE : (rd ns 0).2.1 ≠ 0) : Calls Try.prog 4 #[.slice ao ns.length cap, .int .i64 (m : Int)] w (fun e w' => e = .returned (.bool true) ∧ Below w.heap.size w w') := by
  have hsm := hide hb.small
  have hr0 := rd_lt ns 0 hb.small
  have hp0 := rd_place ns 0 (Nat.zero_le _)
  have hlg : (lg ns 0 m).2.1 = (rd ns 0).2.1 := by unfold lg; rw [if_pos hE]
  have htl : (tl (RP ns) ns 0 m) = ([], (rd ns 0).2.1, 0) := by unfold tl; rw [if_pos (by rw [hlg]; exact hE), hlg]
  have HTL := hide htl
  clear htl hlg
  have hE' : ¬ ((rd ns 0).2.1 : Int) = 0 := by omega
  have hbl := hide (show ∀ ad, ao = some ad → ns ≠ [] → ad.block < w.heap.size from fun ad had hn => by
    obtain ⟨b, off, h1, h2, _⟩ := hb.bytes hn
    rw [h1] at had; cases had; exact h2)
  have HB8 := hide hb
  have hcap := hb.cap_le
  have hlen := hb.len
  clear hb
  go_enter Try.func4, Try.ntmps4
  go_wp2_with fail
  refine (NewReader_any ao cap ns _ HB8.out).mono ?_
  rintro e w1 ⟨g, rfl, hg, hb1, hR1⟩
  have hA : Below w1.heap.size w1 (w1.alloc (.cells #[.slice ao ns.length cap, .int .i64 0] 39)) := by (focus repeat' (first | (with_reducible exact Below.refl _ _) | (with_reducible assumption) | (with_reducible refine Below.alloc ?_ ?_ _) | (with_reducible refine Below.drew ?_) | (with_reducible refine bdrewN ?_ _) | (with_reducible refine Below.setCell ?_ ?_ _) | (first | (with_reducible exact Nat.le_refl _) | (with_reducible assumption) | omega | (simp; omega) | (simp; done))))
  have hz1 := hb1.size
  have hgz := hR1.cells.1
  have HD2 := hide (show DObj (w1.alloc (.cells #[.slice ao ns.length cap, .int .i64 0] 39)) w1.heap.size ao cap ns 0 from ⟨by simp, fun o => by simp [go_sem], fun o => by simp [go_sem], fun hn => by
    obtain ⟨b, off, h1, h2, h3⟩ := HB8.out.bytes hn
    exact ⟨b, off, h1, by (simp; omega), by omega, fun j hj => (hA.cell (p := ⟨b, off + j, none⟩) (show b < w1.heap.size by omega)).trans ((hb1.cell (p := ⟨b, off + j, none⟩) h2).trans (h3 j hj))⟩, HB8.out.small, Nat.zero_le _, by omega, hcap⟩)
  have HR2 := hide (hR1.below hA)
  have HL2 := hide (bstep hb1 hA)
  have hgz2 : g < w1.heap.size := hgz
  have hne : w1.heap.size ≠ g := by omega
  clear hA hR1 hb1
  go_wp2_with fail
  refine (Take_P_c g w1.heap.size ns 0 m _ HR2.out hm hlen).mono ?_
  rw [HTL.out]
  rintro e w3 ⟨v, rfl, ho3, hR3, own3⟩
  have HR3 := hide hR3
  have HL3 := hide (below_only HL2.out ho3 hg)
  have hb2 := hide (show ∀ ad, ao = some ad → ns ≠ [] → ad.block ≠ g from fun ad had hn => by have := hbl.out ad had hn; omega)
  have HD3 := hide (HD2.out.only' ho3 hne hb2.out)
  obtain ⟨vo, vc, rfl⟩ := own_any own3
  have own3' : w3.ownsRow (w1.heap.size + 1) 43 2 (.slice vo 0 vc) 0 (flat []) := by simpa using own3
  have HO3 := hide own3'
  clear ho3 hR3 own3 own3' HR2 HL2 HD2
  go_wp2_with fail
  refine (dNum_c w1.heap.size cap ao ns 0 _ HD3.out).mono ?_
  rintro e w4 ⟨rfl, ho4, hD4⟩
  have HR4 := hide (HR3.out.only ho4 (by omega) (Nat.le_refl _))
  have HL4 := hide (below_only HL3.out ho4 hz1)
  have HO4x := hide (own_only HO3.out ho4 (by omega))
  have HD4 := hide hD4
  clear ho4 hD4 HR3 HL3 HD3 HO3
  go_wp2_with fail
  go_loopw [10, 11, 12] (fun v10 v11 v12 wr => v10 = .int .i64 ((rd ns 0).2.1 : Int) ∧ v11 = .slice none 0 0 ∧ v12 = .int .u64 0 ∧ wr = w4) (fun _ _ _ _ => 0)
  case atStart => exact ⟨rfl, rfl, rfl, rfl⟩
  case round =>
    obtain ⟨rfl, rfl, rfl, rfl⟩ := hrel
    go_wp2_with (first | (go_at_call 23; go_in) | (go_at_call 24; refine (Place_any g w1.heap.size ns 0 _ HR4.out).mono ?_; rintro e w7 ⟨rfl, hb7⟩; have HL7 := hide (bstep HL4.out hb7); clear hb7) | (go_at_call 10; refine (known_c _).mono ?_; rintro e w8 ⟨rfl, hb8⟩; have HL8 := hide (bstep HL7.out hb8); clear hb8))
    go_ret
    exact ⟨rfl, HL8.out⟩

set_option maxRecDepth 100000 in
set_option maxHeartbeats 4000000 in
theorem WirePairs_B (ao : Option Addr) (cap : Nat) (ns : List Nat) (m : Nat) (w : World) (hb : Row8 w ao cap ns) (hm : m ≤ 9223372036854775807) (hE : (rd ns 0).2.1 = 0) (hM : m < (rd ns 0).1) : Calls Try.prog 4 #[.slice ao ns.length cap, .int .i64 (m : Int)] w (fun e w' => e = .returned (.bool true) ∧ Below w.heap.size w w') := by
  have hsm := hide hb.small
  have hr0 := rd_lt ns 0 hb.small
  have hp0 := rd_place ns 0 (Nat.zero_le _)
  have hlg : (lg ns 0 m).2.1 = 3 := by unfold lg; rw [if_neg (by omega), if_pos hM]
  have htl : (tl (RP ns) ns 0 m) = ([], 3, 0) := by unfold tl; rw [if_pos (by rw [hlg]; decide), hlg]
  have HTL := hide htl
  clear htl hlg
  have hE' : ((rd ns 0).2.1 : Int) = 0 := by omega
  have hM' : (m : Int) < ((rd ns 0).1 : Int) := by omega
  have hbl := hide (show ∀ ad, ao = some ad → ns ≠ [] → ad.block < w.heap.size from fun ad had hn => by
    obtain ⟨b, off, h1, h2, _⟩ := hb.bytes hn
    rw [h1] at had; cases had; exact h2)
  have HB8 := hide hb
  have hcap := hb.cap_le
  have hlen := hb.len
  clear hb
  go_enter Try.func4, Try.ntmps4
  go_wp2_with fail
  refine (NewReader_any ao cap ns _ HB8.out).mono ?_
  rintro e w1 ⟨g, rfl, hg, hb1, hR1⟩
  have hA : Below w1.heap.size w1 (w1.alloc (.cells #[.slice ao ns.length cap, .int .i64 0] 39)) := by (focus repeat' (first | (with_reducible exact Below.refl _ _) | (with_reducible assumption) | (with_reducible refine Below.alloc ?_ ?_ _) | (with_reducible refine Below.drew ?_) | (with_reducible refine bdrewN ?_ _) | (with_reducible refine Below.setCell ?_ ?_ _) | (first | (with_reducible exact Nat.le_refl _) | (with_reducible assumption) | omega | (simp; omega) | (simp; done))))
  have hz1 := hb1.size
  have hgz := hR1.cells.1
  have HD2 := hide (show DObj (w1.alloc (.cells #[.slice ao ns.length cap, .int .i64 0] 39)) w1.heap.size ao cap ns 0 from ⟨by simp, fun o => by simp [go_sem], fun o => by simp [go_sem], fun hn => by
    obtain ⟨b, off, h1, h2, h3⟩ := HB8.out.bytes hn
    exact ⟨b, off, h1, by (simp; omega), by omega, fun j hj => (hA.cell (p := ⟨b, off + j, none⟩) (show b < w1.heap.size by omega)).trans ((hb1.cell (p := ⟨b, off + j, none⟩) h2).trans (h3 j hj))⟩, HB8.out.small, Nat.zero_le _, by omega, hcap⟩)
  have HR2 := hide (hR1.below hA)
  have HL2 := hide (bstep hb1 hA)
  have hgz2 : g < w1.heap.size := hgz
  have hne : w1.heap.size ≠ g := by omega
  clear hA hR1 hb1
  go_wp2_with fail
  refine (Take_P_c g w1.heap.size ns 0 m _ HR2.out hm hlen).mono ?_
  rw [HTL.out]
  rintro e w3 ⟨v, rfl, ho3, hR3, own3⟩
  have HR3 := hide hR3
  have HL3 := hide (below_only HL2.out ho3 hg)
  have hb2 := hide (show ∀ ad, ao = some ad → ns ≠ [] → ad.block ≠ g from fun ad had hn => by have := hbl.out ad had hn; omega)
  have HD3 := hide (HD2.out.only' ho3 hne hb2.out)
  obtain ⟨vo, vc, rfl⟩ := own_any own3
  have own3' : w3.ownsRow (w1.heap.size + 1) 43 2 (.slice vo 0 vc) 0 (flat []) := by simpa using own3
  have HO3 := hide own3'
  clear ho3 hR3 own3 own3' HR2 HL2 HD2
  go_wp2_with fail
  refine (dNum_c w1.heap.size cap ao ns 0 _ HD3.out).mono ?_
  rw [hE]
  rintro e w4 ⟨rfl, ho4, hD4⟩
  have HR4 := hide (HR3.out.only ho4 (by omega) (Nat.le_refl _))
  have HL4 := hide (below_only HL3.out ho4 hz1)
  have HO4x := hide (own_only HO3.out ho4 (by omega))
  have HD4 := hide hD4
  clear ho4 hD4 HR3 HL3 HD3 HO3
  go_wp2_with fail
  go_loopw [10, 11, 12] (fun v10 v11 v12 wr => v10 = .int .i64 3 ∧ v11 = .slice none 0 0 ∧ v12 = .int .u64 0 ∧ wr = w4) (fun _ _ _ _ => 0)
  case atStart => exact ⟨rfl, rfl, rfl, rfl⟩
  case round =>
    obtain ⟨rfl, rfl, rfl, rfl⟩ := hrel
    go_wp2_with (first | (go_at_call 23; go_in) | (go_at_call 24; refine (Place_any g w1.heap.size ns 0 _ HR4.out).mono ?_; rintro e w7 ⟨rfl, hb7⟩; have HL7 := hide (bstep HL4.out hb7); clear hb7) | (go_at_call 10; refine (known_c _).mono ?_; rintro e w8 ⟨rfl, hb8⟩; have HL8 := hide (bstep HL7.out hb8); clear hb8))
    go_ret
    exact ⟨rfl, HL8.out⟩

set_option maxRecDepth 100000 in
set_option maxHeartbeats 4000000 in
theorem WirePairs_C (ao : Option Addr) (cap : Nat) (ns : List Nat) (m : Nat) (w : World) (hb : Row8 w ao cap ns) (hm : m ≤ 9223372036854775807) (hE : (rd ns 0).2.1 = 0) (hM : ¬ m < (rd ns 0).1) (hL : ns.length - (rd ns 0).2.2 < (rd ns 0).1) : Calls Try.prog 4 #[.slice ao ns.length cap, .int .i64 (m : Int)] w (fun e w' => e = .returned (.bool true) ∧ Below w.heap.size w w') := by
  have hsm := hide hb.small
  have hr0 := rd_lt ns 0 hb.small
  have hp0 := rd_place ns 0 (Nat.zero_le _)
  have hlg : (lg ns 0 m).2.1 = 110 := by unfold lg; rw [if_neg (by omega), if_neg hM, if_pos hL]
  have htl : (tl (RP ns) ns 0 m) = ([], 110, 0) := by unfold tl; rw [if_pos (by rw [hlg]; decide), hlg]
  have HTL := hide htl
  clear htl hlg
  have hE' : ((rd ns 0).2.1 : Int) = 0 := by omega
  have hM' : ¬ (m : Int) < ((rd ns 0).1 : Int) := by omega
  have hL' : ((ns.length - (rd ns 0).2.2 : Nat) : Int) < ((rd ns 0).1 : Int) := by omega
  have hk : ((ns.length : Int) - ((rd ns 0).2.2 : Int)) = ((ns.length - (rd ns 0).2.2 : Nat) : Int) := by omega
  have HK := hide hk
  clear hk
  have hbl := hide (show ∀ ad, ao = some ad → ns ≠ [] → ad.block < w.heap.size from fun ad had hn => by
    obtain ⟨b, off, h1, h2, _⟩ := hb.bytes hn
    rw [h1] at had; cases had; exact h2)
  have HB8 := hide hb
  have hcap := hb.cap_le
  have hlen := hb.len
  clear hb
  go_enter Try.func4, Try.ntmps4
  go_wp2_with fail
  refine (NewReader_any ao cap ns _ HB8.out).mono ?_
  rintro e w1 ⟨g, rfl, hg, hb1, hR1⟩
  have hA : Below w1.heap.size w1 (w1.alloc (.cells #[.slice ao ns.length cap, .int .i64 0] 39)) := by (focus repeat' (first | (with_reducible exact Below.refl _ _) | (with_reducible assumption) | (with_reducible refine Below.alloc ?_ ?_ _) | (with_reducible refine Below.drew ?_) | (with_reducible refine bdrewN ?_ _) | (with_reducible refine Below.setCell ?_ ?_ _) | (first | (with_reducible exact Nat.le_refl _) | (with_reducible assumption) | omega | (simp; omega) | (simp; done))))
  have hz1 := hb1.size
  have hgz := hR1.cells.1
  have HD2 := hide (show DObj (w1.alloc (.cells #[.slice ao ns.length cap, .int .i64 0] 39)) w1.heap.size ao cap ns 0 from ⟨by simp, fun o => by simp [go_sem], fun o => by simp [go_sem], fun hn => by
    obtain ⟨b, off, h1, h2, h3⟩ := HB8.out.bytes hn
    exact ⟨b, off, h1, by (simp; omega), by omega, fun j hj => (hA.cell (p := ⟨b, off + j, none⟩) (show b < w1.heap.size by omega)).trans ((hb1.cell (p := ⟨b, off + j, none⟩) h2).trans (h3 j hj))⟩, HB8.out.small, Nat.zero_le _, by omega, hcap⟩)
  have HR2 := hide (hR1.below hA)
  have HL2 := hide (bstep hb1 hA)
  have hgz2 : g < w1.heap.size := hgz
  have hne : w1.heap.size ≠ g := by omega
  clear hA hR1 hb1
  go_wp2_with fail
  refine (Take_P_c g w1.heap.size ns 0 m _ HR2.out hm hlen).mono ?_
  rw [HTL.out]
  rintro e w3 ⟨v, rfl, ho3, hR3, own3⟩
  have HR3 := hide hR3
  have HL3 := hide (below_only HL2.out ho3 hg)
  have hb2 := hide (show ∀ ad, ao = some ad → ns ≠ [] → ad.block ≠ g from fun ad had hn => by have := hbl.out ad had hn; omega)
  have HD3 := hide (HD2.out.only' ho3 hne hb2.out)
  obtain ⟨vo, vc, rfl⟩ := own_any own3
  have own3' : w3.ownsRow (w1.heap.size + 1) 43 2 (.slice vo 0 vc) 0 (flat []) := by simpa using own3
  have HO3 := hide own3'
  clear ho3 hR3 own3 own3' HR2 HL2 HD2
  go_wp2_with fail
  refine (dNum_c w1.heap.size cap ao ns 0 _ HD3.out).mono ?_
  rw [hE]
  rintro e w4 ⟨rfl, ho4, hD4⟩
  have HR4 := hide (HR3.out.only ho4 (by omega) (Nat.le_refl _))
  have HL4 := hide (below_only HL3.out ho4 hz1)
  have HO4x := hide (own_only HO3.out ho4 (by omega))
  have HD4 := hide hD4
  clear ho4 hD4 HR3 HL3 HD3 HO3
  go_wp2_with fail
  refine (dLeft_c w1.heap.size cap ao ns _ _ HD4.out).mono ?_
  rw [HK.out]
  rintro e w5 ⟨rfl, hb5⟩
  have HR5 := hide (HR4.out.below hb5)
  have HL5 := hide (bstep HL4.out hb5)
  clear hb5
  go_wp2_with fail
  go_loopw [10, 11, 12] (fun v10 v11 v12 wr => v10 = .int .i64 110 ∧ v11 = .slice none 0 0 ∧ v12 = .int .u64 0 ∧ wr = w5) (fun _ _ _ _ => 0)
  case atStart => exact ⟨rfl, rfl, rfl, rfl⟩
  case round =>
    obtain ⟨rfl, rfl, rfl, rfl⟩ := hrel
    go_wp2_with (first | (go_at_call 23; go_in) | (go_at_call 24; refine (Place_any g w1.heap.size ns 0 _ HR5.out).mono ?_; rintro e w7 ⟨rfl, hb7⟩; have HL7 := hide (bstep HL5.out hb7); clear hb7) | (go_at_call 10; refine (known_c _).mono ?_; rintro e w8 ⟨rfl, hb8⟩; have HL8 := hide (bstep HL7.out hb8); clear hb8))
    go_ret
    exact ⟨rfl, HL8.out⟩
end Go.Proofs.Ytajkgecegefnmaa
