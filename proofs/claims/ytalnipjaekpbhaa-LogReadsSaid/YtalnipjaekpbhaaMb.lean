/- Contracts of the layer's functions, each proved once, in the order in which they are used. No condition beyond each theorem's own. -/
import Derived.Laws.BytesArg
import Derived.Test.YtalnipjaekpbhaaMa
import Derived.Deep.AppendLies
import Derived.Maps.AppendAt

namespace Go.Proofs.Ytalnipjaekpbhaa
open Go.ChangeShapes Go.WideShapes Go.ChangeAt Go.RowKit Go.Deep
set_option linter.unusedSimpArgs false
set_option linter.unusedVariables false

/-- the text of bytes -/
def bstr (ns : List Nat) : ByteArray := strOfNums (ns.map (fun (x : Nat) => (x : Int)))
theorem bstr_nil : bstr [] = ⟨#[]⟩ := rfl
theorem sb_bstr (ns : List Nat) (h : ∀ x ∈ ns, x < 256) : sb (bstr ns) = ns := by
  unfold sb bstr strOfNums
  simp only [List.map_map]
  refine (List.map_congr_left (fun x hx => ?_)).trans (List.map_id ns)
  have := h x hx
  simp; omega
theorem bstr_sb (s : ByteArray) : bstr (sb s) = s := by
  unfold sb bstr strOfNums
  cases s with
  | mk d =>
    congr 1
    simp only [List.map_map]
    rw [show ((fun (n : Int) => UInt8.ofNat n.toNat) ∘ (fun (x : Nat) => (x : Int)) ∘ fun (b : UInt8) => b.toNat) = id from by funext b; simp]
    simp
theorem bstr_size (ns : List Nat) : (bstr ns).size = ns.length := by
  show (bstr ns).data.size = _
  unfold bstr strOfNums
  simp
theorem convert_zero (w : World) (p : Option Addr) (c : Nat) : Sem.run Try.prog (convert 30 9 (.slice p 0 c)) w = .ok (.string ⟨#[]⟩) w := by
  rw [run_convert_bytes_string w 30 9 5 _ 0 c Try.underlying30 Try.underlying5 Try.underlying9]
  cases p <;> simp [Conv.bytesToString, loadCells]
  all_goals rfl
theorem drewB (w : World) : Below w.heap.size w w.drew := by (focus repeat' (first | (with_reducible exact Below.refl _ _) | (with_reducible assumption) | (with_reducible refine Below.alloc ?_ ?_ _) | (with_reducible refine Below.drew ?_) | (with_reducible refine bdrewN ?_ _) | (with_reducible refine Below.setCell ?_ ?_ _) | (first | (with_reducible exact Nat.le_refl _) | (with_reducible assumption) | omega | (simp; omega) | (simp; done))))
theorem Only2.setg {g h : Nat} {w w1 : World} (k : Only2 g h w w1) (o : Nat) (u : Value) : Only2 g h w (w1.setCell ⟨g, o, none⟩ u) :=
  k.trans ⟨rfl, rfl, rfl, by simp, fun i hi h1 _ => Below.heap_setCell _ _ _ _ h1⟩
def tx (ns : List Nat) (a m : Nat) : List Nat × Nat × Nat :=
  if (lg ns a m).2.1 ≠ 0 then ([], (lg ns a m).2.1, a) else ((ns.drop (lg ns a m).2.2).take (lg ns a m).1, 0, (lg ns a m).2.2 + (lg ns a m).1)
theorem tx_err (ns : List Nat) (a m : Nat) : (tx ns a m).2.1 = (lg ns a m).2.1 := by unfold tx; split <;> simp_all
theorem rd_some {ns : List Nat} {a : Nat} (h : (rd ns a).2.1 = 0) : a < ns.length := by
  by_cases c : ns.length ≤ a
  · unfold rd at h; rw [if_pos c] at h; cases h
  · omega
theorem lg_place (ns : List Nat) (a m : Nat) (h : a ≤ ns.length) : (lg ns a m).2.2 ≤ ns.length := by
  have := rd_place ns a h
  unfold lg; split
  · exact this
  split
  · exact this
  split <;> exact this

set_option maxRecDepth 100000 in
set_option maxHeartbeats 1000000 in
theorem tx1_neg (g B Br Bm Bx : Nat) (ns : List Nat) (a : Nat) (m : Int) (w : World) (hR : RAny w g B ns a) (hB : ∀ o, w.cell? ⟨Br, o, none⟩ = (#[Value.pointer (some ⟨g, 0, none⟩)] : Array Value)[o]?) (hM : ∀ o, w.cell? ⟨Bm, o, none⟩ = (#[Value.int .i64 m] : Array Value)[o]?) (hBz : Br < w.heap.size) (hMz : Bm < w.heap.size) (hXz : Bx < w.heap.size) (hX : ∀ o, w.cell? ⟨Bx, o, none⟩ = (#[Value.string ⟨#[]⟩] : Array Value)[o]?) (hXf : ∀ o, w.frozen? ⟨Bx, o, none⟩ = false) (d1 : Br ≠ g) (d2 : Bx ≠ g) (d3 : Bx ≠ Br) (d4 : B ≤ Bx) (d5 : Bm ≠ g) (d6 : Bx ≠ Bm) (hm : m < 0) : Calls Try.prog 88 #[.pointer (some ⟨Bm, 0, none⟩), .pointer (some ⟨Br, 0, none⟩), .pointer (some ⟨Bx, 0, none⟩)] w (fun e w' => e = .returned (.int .i64 2) ∧ Only2 g Bx w w' ∧ RAny w' g B ns a ∧ w'.cell? ⟨Bx, 0, none⟩ = some (.string ⟨#[]⟩)) := by
  have HR := hide hR
  have HX := hide hX
  have HXF := hide hXf
  clear hR hX hXf
  go_enter Try.func88, Try.ntmps88
  go_wp2
  go_ret
  exact ⟨rfl, Only2.of_below (by (focus repeat' (first | (with_reducible exact Below.refl _ _) | (with_reducible assumption) | (with_reducible refine Below.alloc ?_ ?_ _) | (with_reducible refine Below.drew ?_) | (with_reducible refine bdrewN ?_ _) | (with_reducible refine Below.setCell ?_ ?_ _) | (first | (with_reducible exact Nat.le_refl _) | (with_reducible assumption) | omega | (simp; omega) | (simp; done))))), HR.out, HX.out 0⟩

set_option maxRecDepth 100000 in
set_option maxHeartbeats 1000000 in
theorem tx1_bad (g B Br Bm Bx : Nat) (ns : List Nat) (a : Nat) (m : Nat) (w : World) (hR : RAny w g B ns a) (hB : ∀ o, w.cell? ⟨Br, o, none⟩ = (#[Value.pointer (some ⟨g, 0, none⟩)] : Array Value)[o]?) (hM : ∀ o, w.cell? ⟨Bm, o, none⟩ = (#[Value.int .i64 (m : Int)] : Array Value)[o]?) (hBz : Br < w.heap.size) (hMz : Bm < w.heap.size) (hXz : Bx < w.heap.size) (hX : ∀ o, w.cell? ⟨Bx, o, none⟩ = (#[Value.string ⟨#[]⟩] : Array Value)[o]?) (hXf : ∀ o, w.frozen? ⟨Bx, o, none⟩ = false) (d1 : Br ≠ g) (d2 : Bx ≠ g) (d3 : Bx ≠ Br) (d4 : B ≤ Bx) (d5 : Bm ≠ g) (d6 : Bx ≠ Bm) (hm : m ≤ 9223372036854775807) (hE : (lg ns a m).2.1 ≠ 0) : Calls Try.prog 88 #[.pointer (some ⟨Bm, 0, none⟩), .pointer (some ⟨Br, 0, none⟩), .pointer (some ⟨Bx, 0, none⟩)] w (fun e w' => e = .returned (.int .i64 ((lg ns a m).2.1 : Int)) ∧ Only2 g Bx w w' ∧ RAny w' g B ns (lg ns a m).2.2 ∧ w'.cell? ⟨Bx, 0, none⟩ = some (.string ⟨#[]⟩)) := by
  have hE2 : ((lg ns a m).2.1 : Int) ≠ 0 := by omega
  have HR := hide hR
  have HX := hide hX
  have HXF := hide hXf
  clear hR hX hXf
  go_enter Try.func88, Try.ntmps88
  go_wp2_with fail
  refine (long_c g B ns a m _ HR.out hm).mono ?_
  rintro e w1 ⟨rfl, ho1, hR1⟩
  have HR1 := hide hR1
  have k1 : Only2 g Bx w w1 := Only2.of_only ho1
  have XC : ∀ o, w1.cell? ⟨Bx, o, none⟩ = (#[Value.string ⟨#[]⟩] : Array Value)[o]? := fun o => (World.cell?_of_block (ho1.block Bx hXz d2)).trans (HX.out o)
  have XF : ∀ o, w1.frozen? ⟨Bx, o, none⟩ = false := fun o => (World.frozen?_of_block (ho1.block Bx hXz d2)).trans (HXF.out o)
  have BC : ∀ o, w1.cell? ⟨Br, o, none⟩ = (#[Value.pointer (some ⟨g, 0, none⟩)] : Array Value)[o]? := fun o => (World.cell?_of_block (ho1.block Br hBz d1)).trans (hB o)
  have hXz1 : Bx < w1.heap.size := Nat.lt_of_lt_of_le hXz ho1.size
  have hBz1 : Br < w1.heap.size := Nat.lt_of_lt_of_le hBz ho1.size
  clear hR1 ho1 hB hM
  go_wp2
  go_ret
  exact ⟨rfl, k1, HR1.out, XC 0⟩

set_option maxRecDepth 100000 in
set_option maxHeartbeats 2000000 in
theorem tx1_some (g B Br Bm Bx : Nat) (ns : List Nat) (a : Nat) (m : Nat) (w : World) (hR : RAny w g B ns a) (hB : ∀ o, w.cell? ⟨Br, o, none⟩ = (#[Value.pointer (some ⟨g, 0, none⟩)] : Array Value)[o]?) (hM : ∀ o, w.cell? ⟨Bm, o, none⟩ = (#[Value.int .i64 (m : Int)] : Array Value)[o]?) (hBz : Br < w.heap.size) (hMz : Bm < w.heap.size) (hXz : Bx < w.heap.size) (hX : ∀ o, w.cell? ⟨Bx, o, none⟩ = (#[Value.string ⟨#[]⟩] : Array Value)[o]?) (hXf : ∀ o, w.frozen? ⟨Bx, o, none⟩ = false) (d1 : Br ≠ g) (d2 : Bx ≠ g) (d3 : Bx ≠ Br) (d4 : B ≤ Bx) (d5 : Bm ≠ g) (d6 : Bx ≠ Bm) (hm : m ≤ 9223372036854775807) (hE : (lg ns a m).2.1 = 0) (hn : 0 < (lg ns a m).1) : Calls Try.prog 88 #[.pointer (some ⟨Bm, 0, none⟩), .pointer (some ⟨Br, 0, none⟩), .pointer (some ⟨Bx, 0, none⟩)] w (fun e w' => e = .returned (.int .i64 0) ∧ Only2 g Bx w w' ∧ RAny w' g B ns ((lg ns a m).2.2 + (lg ns a m).1) ∧ w'.cell? ⟨Bx, 0, none⟩ = some (.string (bstr ((ns.drop (lg ns a m).2.2).take (lg ns a m).1)))) := by
  have hlk := lg_ok ns a m hE
  have hne : ns ≠ [] := by rintro rfl; have := rd_some hlk.1; simp at this
  have hmo := hR.more
  have hfit : (lg ns a m).2.2 + (lg ns a m).1 ≤ ns.length := by
    have q := rd_place ns a hmo.1
    rw [hlk.2.2.2]
    show (rd ns a).2.2 + (rd ns a).1 ≤ _
    omega
  have hmo2 := hmo.2.1
  clear hlk hmo
  have HR := hide hR
  have HX := hide hX
  have HXF := hide hXf
  clear hR hX hXf
  go_enter Try.func88, Try.ntmps88
  go_wp2_with fail
  refine (long_c g B ns a m _ HR.out hm).mono ?_
  rw [hE]
  rintro e w1 ⟨rfl, ho1, hR1⟩
  have HR1 := hide hR1
  have k1 : Only2 g Bx w w1 := Only2.of_only ho1
  have XC : ∀ o, w1.cell? ⟨Bx, o, none⟩ = (#[Value.string ⟨#[]⟩] : Array Value)[o]? := fun o => (World.cell?_of_block (ho1.block Bx hXz d2)).trans (HX.out o)
  have XF : ∀ o, w1.frozen? ⟨Bx, o, none⟩ = false := fun o => (World.frozen?_of_block (ho1.block Bx hXz d2)).trans (HXF.out o)
  have BC : ∀ o, w1.cell? ⟨Br, o, none⟩ = (#[Value.pointer (some ⟨g, 0, none⟩)] : Array Value)[o]? := fun o => (World.cell?_of_block (ho1.block Br hBz d1)).trans (hB o)
  have hXz1 : Bx < w1.heap.size := Nat.lt_of_lt_of_le hXz ho1.size
  have hBz1 : Br < w1.heap.size := Nat.lt_of_lt_of_le hBz ho1.size
  clear hR1 ho1 hB hM
  clear HR HX HXF
  have hE' := hide hE
  clear hE
  have hne2 := hide hne
  clear hne
  generalize hpl : (lg ns a m).2.2 = pl at *
  generalize hnn : (lg ns a m).1 = n at *
  have HPL := hide hpl
  have HNN := hide hnn
  clear hpl hnn
  obtain ⟨b, off, cap, hbB, hO⟩ := HR1.out.obj hne2.out
  have HO := hide hO
  obtain ⟨r1, r2, r3, r4, r5, r6, r7, r8, r9, r10⟩ := hO
  have R7 := hide r7
  have HB1 := hide HR1.out.1
  have hca : ¬ cap = pl := by omega
  have hw : IntKind.i64.wrap ((pl : Int) + (n : Int)) = ((pl + n : Nat) : Int) := by (simp [IntKind.wrap, IntKind.bits, IntKind.signed]; omega)
  have hwc : pl + n ≤ cap := by omega
  have CV := run_convert_bytes_arg (P := Try.prog) w1.drew 30 5 Try.underlying30 Try.underlying5 b (off + pl) n (cap - pl) (((ns.drop pl).take n).map (fun (x : Nat) => (x : Int))) (by simp; omega) (fun i hi => by
    have q := r6 (pl + i) (by omega)
    rw [← Nat.add_assoc] at q
    rw [World.cell?_drew, q]
    have e1 : (((ns.drop pl).take n).map (fun (x : Nat) => (x : Int))).getD i 0 = ((ns.getD (pl + i) 0 : Nat) : Int) := by
      simp [List.getD, hi, show pl + i < ns.length by omega]
    rw [e1]) 9 Try.underlying9
  have CV' : Sem.run Try.prog (convert 30 9 (.slice (some ⟨b, off + pl, none⟩) n (cap - pl))) w1.drew = .ok (.string (bstr ((ns.drop pl).take n))) w1.drew := CV
  clear r6 r7 CV R7
  generalize hst : bstr ((ns.drop pl).take n) = st at *
  have HST := hide hst
  clear hst
  go_wp2
  go_region
  go_wp2
  go_ret
  rw [HPL.out, HNN.out]
  refine ⟨rfl, ((k1.set 0 _).setg 1 _).trans (Only2.of_below (drewB _)), ?_, ?_⟩
  · have q := ((HR1.out.set d2 d4 0 (.string st)).reset (a0 := pl + n) (by omega)).below (drewB _)
    rw [Int.natCast_add] at q
    exact q
  · rw [HST.out]
    simp [go_sem, XC, d2]

set_option maxRecDepth 100000 in
set_option maxHeartbeats 2000000 in
theorem tx1_none (g B Br Bm Bx : Nat) (ns : List Nat) (a : Nat) (m : Nat) (w : World) (hR : RAny w g B ns a) (hB : ∀ o, w.cell? ⟨Br, o, none⟩ = (#[Value.pointer (some ⟨g, 0, none⟩)] : Array Value)[o]?) (hM : ∀ o, w.cell? ⟨Bm, o, none⟩ = (#[Value.int .i64 (m : Int)] : Array Value)[o]?) (hBz : Br < w.heap.size) (hMz : Bm < w.heap.size) (hXz : Bx < w.heap.size) (hX : ∀ o, w.cell? ⟨Bx, o, none⟩ = (#[Value.string ⟨#[]⟩] : Array Value)[o]?) (hXf : ∀ o, w.frozen? ⟨Bx, o, none⟩ = false) (d1 : Br ≠ g) (d2 : Bx ≠ g) (d3 : Bx ≠ Br) (d4 : B ≤ Bx) (d5 : Bm ≠ g) (d6 : Bx ≠ Bm) (hm : m ≤ 9223372036854775807) (hE : (lg ns a m).2.1 = 0) (hn : (lg ns a m).1 = 0) : Calls Try.prog 88 #[.pointer (some ⟨Bm, 0, none⟩), .pointer (some ⟨Br, 0, none⟩), .pointer (some ⟨Bx, 0, none⟩)] w (fun e w' => e = .returned (.int .i64 0) ∧ Only2 g Bx w w' ∧ RAny w' g B ns ((lg ns a m).2.2 + (lg ns a m).1) ∧ w'.cell? ⟨Bx, 0, none⟩ = some (.string (bstr ((ns.drop (lg ns a m).2.2).take (lg ns a m).1)))) := by
  have hlk := lg_ok ns a m hE
  have hne : ns ≠ [] := by rintro rfl; have := rd_some hlk.1; simp at this
  have hmo := hR.more
  have hfit : (lg ns a m).2.2 + (lg ns a m).1 ≤ ns.length := by
    have q := rd_place ns a hmo.1
    rw [hlk.2.2.2]
    show (rd ns a).2.2 + (rd ns a).1 ≤ _
    omega
  have hmo2 := hmo.2.1
  clear hlk hmo
  have HR := hide hR
  have HX := hide hX
  have HXF := hide hXf
  clear hR hX hXf
  go_enter Try.func88, Try.ntmps88
  go_wp2_with fail
  refine (long_c g B ns a m _ HR.out hm).mono ?_
  rw [hE]
  rintro e w1 ⟨rfl, ho1, hR1⟩
  have HR1 := hide hR1
  have k1 : Only2 g Bx w w1 := Only2.of_only ho1
  have XC : ∀ o, w1.cell? ⟨Bx, o, none⟩ = (#[Value.string ⟨#[]⟩] : Array Value)[o]? := fun o => (World.cell?_of_block (ho1.block Bx hXz d2)).trans (HX.out o)
  have XF : ∀ o, w1.frozen? ⟨Bx, o, none⟩ = false := fun o => (World.frozen?_of_block (ho1.block Bx hXz d2)).trans (HXF.out o)
  have BC : ∀ o, w1.cell? ⟨Br, o, none⟩ = (#[Value.pointer (some ⟨g, 0, none⟩)] : Array Value)[o]? := fun o => (World.cell?_of_block (ho1.block Br hBz d1)).trans (hB o)
  have hXz1 : Bx < w1.heap.size := Nat.lt_of_lt_of_le hXz ho1.size
  have hBz1 : Br < w1.heap.size := Nat.lt_of_lt_of_le hBz ho1.size
  clear hR1 ho1 hB hM
  clear HR HX HXF
  have hE' := hide hE
  clear hE
  have hne2 := hide hne
  clear hne
  generalize hpl : (lg ns a m).2.2 = pl at *
  generalize hnn : (lg ns a m).1 = n at *
  have HPL := hide hpl
  have HNN := hide hnn
  clear hpl hnn
  obtain ⟨b, off, cap, hbB, hO⟩ := HR1.out.obj hne2.out
  have HO := hide hO
  obtain ⟨r1, r2, r3, r4, r5, r6, r7, r8, r9, r10⟩ := hO
  have R7 := hide r7
  have HB1 := hide HR1.out.1
  subst hn
  clear r6 r7 R7
  by_cases hca : cap = pl
  · have CV := fun p c => convert_zero w1.drew p c
    go_wp2
    go_region
    go_wp2
    go_ret
    rw [HPL.out, HNN.out]
    refine ⟨rfl, ((k1.set 0 _).setg 1 _).trans (Only2.of_below (drewB _)), ?_, ?_⟩
    · exact ((HR1.out.set d2 d4 0 (.string ⟨#[]⟩)).reset (a0 := pl) (by omega)).below (drewB _)
    · rw [List.take_zero, bstr_nil]
      simp [go_sem, XC, d2]
  · have CV := fun p c => convert_zero w1.drew p c
    go_wp2
    go_region
    go_wp2
    go_ret
    rw [HPL.out, HNN.out]
    refine ⟨rfl, ((k1.set 0 _).setg 1 _).trans (Only2.of_below (drewB _)), ?_, ?_⟩
    · exact ((HR1.out.set d2 d4 0 (.string ⟨#[]⟩)).reset (a0 := pl) (by omega)).below (drewB _)
    · rw [List.take_zero, bstr_nil]
      simp [go_sem, XC, d2]
end Go.Proofs.Ytalnipjaekpbhaa


namespace Go.Proofs.Ytalnipjaekpbhaa
open Go.ChangeShapes Go.WideShapes Go.ChangeAt Go.RowKit Go.Deep
set_option linter.unusedSimpArgs false
set_option linter.unusedVariables false

set_option maxRecDepth 100000 in
set_option maxHeartbeats 2000000 in
theorem RText_neg (g B : Nat) (ns : List Nat) (a : Nat) (m : Int) (w : World) (hR : RAny w g B ns a) (hm : m < 0) : Calls Try.prog 60 #[.pointer (some ⟨g, 0, none⟩), .int .i64 m] w (fun e w' => e = .returned (.tuple #[.string ⟨#[]⟩, .int .i64 2]) ∧ Only g w w' ∧ RAny w' g B ns a) := by
  have hB0 : Below w.heap.size w (((w.alloc (.cells #[Value.pointer (some ⟨g, 0, none⟩)] 119)).alloc (.cells #[Value.int .i64 m] 3)).alloc (.cells #[Value.string ⟨#[]⟩] 9)) := by (focus repeat' (first | (with_reducible exact Below.refl _ _) | (with_reducible assumption) | (with_reducible refine Below.alloc ?_ ?_ _) | (with_reducible refine Below.drew ?_) | (with_reducible refine bdrewN ?_ _) | (with_reducible refine Below.setCell ?_ ?_ _) | (first | (with_reducible exact Nat.le_refl _) | (with_reducible assumption) | omega | (simp; omega) | (simp; done))))
  have HR0 := hide (hR.below hB0)
  have HB0 := hide hB0
  have cB : ∀ o, (((w.alloc (.cells #[Value.pointer (some ⟨g, 0, none⟩)] 119)).alloc (.cells #[Value.int .i64 m] 3)).alloc (.cells #[Value.string ⟨#[]⟩] 9)).cell? ⟨w.heap.size, o, none⟩ = (#[Value.pointer (some ⟨g, 0, none⟩)] : Array Value)[o]? := fun o => by simp [go_sem]
  have cM : ∀ o, (((w.alloc (.cells #[Value.pointer (some ⟨g, 0, none⟩)] 119)).alloc (.cells #[Value.int .i64 m] 3)).alloc (.cells #[Value.string ⟨#[]⟩] 9)).cell? ⟨w.heap.size + 1, o, none⟩ = (#[Value.int .i64 m] : Array Value)[o]? := fun o => by simp [go_sem]
  have cX : ∀ o, (((w.alloc (.cells #[Value.pointer (some ⟨g, 0, none⟩)] 119)).alloc (.cells #[Value.int .i64 m] 3)).alloc (.cells #[Value.string ⟨#[]⟩] 9)).cell? ⟨w.heap.size + 2, o, none⟩ = (#[Value.string ⟨#[]⟩] : Array Value)[o]? := fun o => by simp [go_sem]
  have fX : ∀ o, (((w.alloc (.cells #[Value.pointer (some ⟨g, 0, none⟩)] 119)).alloc (.cells #[Value.int .i64 m] 3)).alloc (.cells #[Value.string ⟨#[]⟩] 9)).frozen? ⟨w.heap.size + 2, o, none⟩ = false := fun o => by simp [go_sem]
  have zB : w.heap.size < (((w.alloc (.cells #[Value.pointer (some ⟨g, 0, none⟩)] 119)).alloc (.cells #[Value.int .i64 m] 3)).alloc (.cells #[Value.string ⟨#[]⟩] 9)).heap.size := by (simp; omega)
  have zM : w.heap.size + 1 < (((w.alloc (.cells #[Value.pointer (some ⟨g, 0, none⟩)] 119)).alloc (.cells #[Value.int .i64 m] 3)).alloc (.cells #[Value.string ⟨#[]⟩] 9)).heap.size := by (first | (with_reducible exact Nat.le_refl _) | (with_reducible assumption) | omega | (simp; omega) | (simp; done))
  have zX : w.heap.size + 2 < (((w.alloc (.cells #[Value.pointer (some ⟨g, 0, none⟩)] 119)).alloc (.cells #[Value.int .i64 m] 3)).alloc (.cells #[Value.string ⟨#[]⟩] 9)).heap.size := by (first | (with_reducible exact Nat.le_refl _) | (with_reducible assumption) | omega | (simp; omega) | (simp; done))
  have hg : g < w.heap.size := hR.cells.1
  have hb : B ≤ w.heap.size := hR.1
  have hle : a ≤ ns.length := hR.more.1
  obtain ⟨r1, r2, r3⟩ := HR0.out.cells
  clear hR hB0
  go_enter Try.func60, Try.ntmps60
  go_wp2_with (go_at_call 87; go_in)
  refine (tx1_neg g B w.heap.size (w.heap.size + 1) (w.heap.size + 2) ns a m _ HR0.out cB cM zB zM zX cX fX (by omega) (by omega) (by omega) (by omega) (by omega) (by omega) hm).mono ?_
  rintro e w1 ⟨rfl, ho, hR1, hx⟩
  have HO := hide ho
  have HR1 := hide hR1
  obtain ⟨t1, t2, t3⟩ := hR1.cells
  clear ho hR1 r1 r2 r3 cB cM cX fX zB zM zX
  go_wp2
  go_ret2
  exact ⟨rfl, (Only2.only HB0.out HO.out (by omega)).set 1 _, HR1.out.reset hle⟩

set_option maxRecDepth 100000 in
set_option maxHeartbeats 2000000 in
theorem RText_bad (g B : Nat) (ns : List Nat) (a : Nat) (m : Nat) (w : World) (hR : RAny w g B ns a) (hm : m ≤ 9223372036854775807) (hE : (lg ns a m).2.1 ≠ 0) : Calls Try.prog 60 #[.pointer (some ⟨g, 0, none⟩), .int .i64 (m : Int)] w (fun e w' => e = .returned (.tuple #[.string ⟨#[]⟩, .int .i64 ((lg ns a m).2.1 : Int)]) ∧ Only g w w' ∧ RAny w' g B ns a) := by
  have hE2 : ((lg ns a m).2.1 : Int) ≠ 0 := by omega
  have hB0 : Below w.heap.size w (((w.alloc (.cells #[Value.pointer (some ⟨g, 0, none⟩)] 119)).alloc (.cells #[Value.int .i64 (m : Int)] 3)).alloc (.cells #[Value.string ⟨#[]⟩] 9)) := by (focus repeat' (first | (with_reducible exact Below.refl _ _) | (with_reducible assumption) | (with_reducible refine Below.alloc ?_ ?_ _) | (with_reducible refine Below.drew ?_) | (with_reducible refine bdrewN ?_ _) | (with_reducible refine Below.setCell ?_ ?_ _) | (first | (with_reducible exact Nat.le_refl _) | (with_reducible assumption) | omega | (simp; omega) | (simp; done))))
  have HR0 := hide (hR.below hB0)
  have HB0 := hide hB0
  have cB : ∀ o, (((w.alloc (.cells #[Value.pointer (some ⟨g, 0, none⟩)] 119)).alloc (.cells #[Value.int .i64 (m : Int)] 3)).alloc (.cells #[Value.string ⟨#[]⟩] 9)).cell? ⟨w.heap.size, o, none⟩ = (#[Value.pointer (some ⟨g, 0, none⟩)] : Array Value)[o]? := fun o => by simp [go_sem]
  have cM : ∀ o, (((w.alloc (.cells #[Value.pointer (some ⟨g, 0, none⟩)] 119)).alloc (.cells #[Value.int .i64 (m : Int)] 3)).alloc (.cells #[Value.string ⟨#[]⟩] 9)).cell? ⟨w.heap.size + 1, o, none⟩ = (#[Value.int .i64 (m : Int)] : Array Value)[o]? := fun o => by simp [go_sem]
  have cX : ∀ o, (((w.alloc (.cells #[Value.pointer (some ⟨g, 0, none⟩)] 119)).alloc (.cells #[Value.int .i64 (m : Int)] 3)).alloc (.cells #[Value.string ⟨#[]⟩] 9)).cell? ⟨w.heap.size + 2, o, none⟩ = (#[Value.string ⟨#[]⟩] : Array Value)[o]? := fun o => by simp [go_sem]
  have fX : ∀ o, (((w.alloc (.cells #[Value.pointer (some ⟨g, 0, none⟩)] 119)).alloc (.cells #[Value.int .i64 (m : Int)] 3)).alloc (.cells #[Value.string ⟨#[]⟩] 9)).frozen? ⟨w.heap.size + 2, o, none⟩ = false := fun o => by simp [go_sem]
  have zB : w.heap.size < (((w.alloc (.cells #[Value.pointer (some ⟨g, 0, none⟩)] 119)).alloc (.cells #[Value.int .i64 (m : Int)] 3)).alloc (.cells #[Value.string ⟨#[]⟩] 9)).heap.size := by (simp; omega)
  have zM : w.heap.size + 1 < (((w.alloc (.cells #[Value.pointer (some ⟨g, 0, none⟩)] 119)).alloc (.cells #[Value.int .i64 (m : Int)] 3)).alloc (.cells #[Value.string ⟨#[]⟩] 9)).heap.size := by (first | (with_reducible exact Nat.le_refl _) | (with_reducible assumption) | omega | (simp; omega) | (simp; done))
  have zX : w.heap.size + 2 < (((w.alloc (.cells #[Value.pointer (some ⟨g, 0, none⟩)] 119)).alloc (.cells #[Value.int .i64 (m : Int)] 3)).alloc (.cells #[Value.string ⟨#[]⟩] 9)).heap.size := by (first | (with_reducible exact Nat.le_refl _) | (with_reducible assumption) | omega | (simp; omega) | (simp; done))
  have hg : g < w.heap.size := hR.cells.1
  have hb : B ≤ w.heap.size := hR.1
  have hle : a ≤ ns.length := hR.more.1
  obtain ⟨r1, r2, r3⟩ := HR0.out.cells
  clear hR hB0
  go_enter Try.func60, Try.ntmps60
  go_wp2_with (go_at_call 87; go_in)
  refine (tx1_bad g B w.heap.size (w.heap.size + 1) (w.heap.size + 2) ns a m _ HR0.out cB cM zB zM zX cX fX (by omega) (by omega) (by omega) (by omega) (by omega) (by omega) hm hE).mono ?_
  rintro e w1 ⟨rfl, ho, hR1, hx⟩
  have HO := hide ho
  have HR1 := hide hR1
  obtain ⟨t1, t2, t3⟩ := hR1.cells
  clear ho hR1 r1 r2 r3 cB cM cX fX zB zM zX
  go_wp2
  go_ret2
  exact ⟨rfl, (Only2.only HB0.out HO.out (by omega)).set 1 _, HR1.out.reset hle⟩

set_option maxRecDepth 100000 in
set_option maxHeartbeats 2000000 in
theorem RText_some (g B : Nat) (ns : List Nat) (a : Nat) (m : Nat) (w : World) (hR : RAny w g B ns a) (hm : m ≤ 9223372036854775807) (hE : (lg ns a m).2.1 = 0) (hn : 0 < (lg ns a m).1) : Calls Try.prog 60 #[.pointer (some ⟨g, 0, none⟩), .int .i64 (m : Int)] w (fun e w' => e = .returned (.tuple #[.string (bstr ((ns.drop (lg ns a m).2.2).take (lg ns a m).1)), .int .i64 0]) ∧ Only g w w' ∧ RAny w' g B ns ((lg ns a m).2.2 + (lg ns a m).1)) := by
  have Hn := hide hn
  clear hn
  have hB0 : Below w.heap.size w (((w.alloc (.cells #[Value.pointer (some ⟨g, 0, none⟩)] 119)).alloc (.cells #[Value.int .i64 (m : Int)] 3)).alloc (.cells #[Value.string ⟨#[]⟩] 9)) := by (focus repeat' (first | (with_reducible exact Below.refl _ _) | (with_reducible assumption) | (with_reducible refine Below.alloc ?_ ?_ _) | (with_reducible refine Below.drew ?_) | (with_reducible refine bdrewN ?_ _) | (with_reducible refine Below.setCell ?_ ?_ _) | (first | (with_reducible exact Nat.le_refl _) | (with_reducible assumption) | omega | (simp; omega) | (simp; done))))
  have HR0 := hide (hR.below hB0)
  have HB0 := hide hB0
  have cB : ∀ o, (((w.alloc (.cells #[Value.pointer (some ⟨g, 0, none⟩)] 119)).alloc (.cells #[Value.int .i64 (m : Int)] 3)).alloc (.cells #[Value.string ⟨#[]⟩] 9)).cell? ⟨w.heap.size, o, none⟩ = (#[Value.pointer (some ⟨g, 0, none⟩)] : Array Value)[o]? := fun o => by simp [go_sem]
  have cM : ∀ o, (((w.alloc (.cells #[Value.pointer (some ⟨g, 0, none⟩)] 119)).alloc (.cells #[Value.int .i64 (m : Int)] 3)).alloc (.cells #[Value.string ⟨#[]⟩] 9)).cell? ⟨w.heap.size + 1, o, none⟩ = (#[Value.int .i64 (m : Int)] : Array Value)[o]? := fun o => by simp [go_sem]
  have cX : ∀ o, (((w.alloc (.cells #[Value.pointer (some ⟨g, 0, none⟩)] 119)).alloc (.cells #[Value.int .i64 (m : Int)] 3)).alloc (.cells #[Value.string ⟨#[]⟩] 9)).cell? ⟨w.heap.size + 2, o, none⟩ = (#[Value.string ⟨#[]⟩] : Array Value)[o]? := fun o => by simp [go_sem]
  have fX : ∀ o, (((w.alloc (.cells #[Value.pointer (some ⟨g, 0, none⟩)] 119)).alloc (.cells #[Value.int .i64 (m : Int)] 3)).alloc (.cells #[Value.string ⟨#[]⟩] 9)).frozen? ⟨w.heap.size + 2, o, none⟩ = false := fun o => by simp [go_sem]
  have zB : w.heap.size < (((w.alloc (.cells #[Value.pointer (some ⟨g, 0, none⟩)] 119)).alloc (.cells #[Value.int .i64 (m : Int)] 3)).alloc (.cells #[Value.string ⟨#[]⟩] 9)).heap.size := by (simp; omega)
  have zM : w.heap.size + 1 < (((w.alloc (.cells #[Value.pointer (some ⟨g, 0, none⟩)] 119)).alloc (.cells #[Value.int .i64 (m : Int)] 3)).alloc (.cells #[Value.string ⟨#[]⟩] 9)).heap.size := by (first | (with_reducible exact Nat.le_refl _) | (with_reducible assumption) | omega | (simp; omega) | (simp; done))
  have zX : w.heap.size + 2 < (((w.alloc (.cells #[Value.pointer (some ⟨g, 0, none⟩)] 119)).alloc (.cells #[Value.int .i64 (m : Int)] 3)).alloc (.cells #[Value.string ⟨#[]⟩] 9)).heap.size := by (first | (with_reducible exact Nat.le_refl _) | (with_reducible assumption) | omega | (simp; omega) | (simp; done))
  have hg : g < w.heap.size := hR.cells.1
  have hb : B ≤ w.heap.size := hR.1
  have hle : a ≤ ns.length := hR.more.1
  obtain ⟨r1, r2, r3⟩ := HR0.out.cells
  clear hR hB0
  go_enter Try.func60, Try.ntmps60
  go_wp2_with (go_at_call 87; go_in)
  refine (tx1_some g B w.heap.size (w.heap.size + 1) (w.heap.size + 2) ns a m _ HR0.out cB cM zB zM zX cX fX (by omega) (by omega) (by omega) (by omega) (by omega) (by omega) hm hE Hn.out).mono ?_
  rintro e w1 ⟨rfl, ho, hR1, hx⟩
  have HO := hide ho
  have HR1 := hide hR1
  obtain ⟨t1, t2, t3⟩ := hR1.cells
  clear ho hR1 r1 r2 r3 cB cM cX fX zB zM zX
  clear hE
  generalize hst : bstr ((ns.drop (lg ns a m).2.2).take (lg ns a m).1) = st at hx
  have Hst := hide hst
  clear hst
  go_wp2
  go_ret2
  exact ⟨by (first | rfl | (rw [Hst.out]; rfl) | (rw [← Hst.out]; rfl)), Only2.only HB0.out HO.out (by omega), HR1.out⟩

set_option maxRecDepth 100000 in
set_option maxHeartbeats 2000000 in
theorem RText_none (g B : Nat) (ns : List Nat) (a : Nat) (m : Nat) (w : World) (hR : RAny w g B ns a) (hm : m ≤ 9223372036854775807) (hE : (lg ns a m).2.1 = 0) (hn : (lg ns a m).1 = 0) : Calls Try.prog 60 #[.pointer (some ⟨g, 0, none⟩), .int .i64 (m : Int)] w (fun e w' => e = .returned (.tuple #[.string (bstr ((ns.drop (lg ns a m).2.2).take (lg ns a m).1)), .int .i64 0]) ∧ Only g w w' ∧ RAny w' g B ns ((lg ns a m).2.2 + (lg ns a m).1)) := by
  have Hn := hide hn
  clear hn
  have hB0 : Below w.heap.size w (((w.alloc (.cells #[Value.pointer (some ⟨g, 0, none⟩)] 119)).alloc (.cells #[Value.int .i64 (m : Int)] 3)).alloc (.cells #[Value.string ⟨#[]⟩] 9)) := by (focus repeat' (first | (with_reducible exact Below.refl _ _) | (with_reducible assumption) | (with_reducible refine Below.alloc ?_ ?_ _) | (with_reducible refine Below.drew ?_) | (with_reducible refine bdrewN ?_ _) | (with_reducible refine Below.setCell ?_ ?_ _) | (first | (with_reducible exact Nat.le_refl _) | (with_reducible assumption) | omega | (simp; omega) | (simp; done))))
  have HR0 := hide (hR.below hB0)
  have HB0 := hide hB0
  have cB : ∀ o, (((w.alloc (.cells #[Value.pointer (some ⟨g, 0, none⟩)] 119)).alloc (.cells #[Value.int .i64 (m : Int)] 3)).alloc (.cells #[Value.string ⟨#[]⟩] 9)).cell? ⟨w.heap.size, o, none⟩ = (#[Value.pointer (some ⟨g, 0, none⟩)] : Array Value)[o]? := fun o => by simp [go_sem]
  have cM : ∀ o, (((w.alloc (.cells #[Value.pointer (some ⟨g, 0, none⟩)] 119)).alloc (.cells #[Value.int .i64 (m : Int)] 3)).alloc (.cells #[Value.string ⟨#[]⟩] 9)).cell? ⟨w.heap.size + 1, o, none⟩ = (#[Value.int .i64 (m : Int)] : Array Value)[o]? := fun o => by simp [go_sem]
  have cX : ∀ o, (((w.alloc (.cells #[Value.pointer (some ⟨g, 0, none⟩)] 119)).alloc (.cells #[Value.int .i64 (m : Int)] 3)).alloc (.cells #[Value.string ⟨#[]⟩] 9)).cell? ⟨w.heap.size + 2, o, none⟩ = (#[Value.string ⟨#[]⟩] : Array Value)[o]? := fun o => by simp [go_sem]
  have fX : ∀ o, (((w.alloc (.cells #[Value.pointer (some ⟨g, 0, none⟩)] 119)).alloc (.cells #[Value.int .i64 (m : Int)] 3)).alloc (.cells #[Value.string ⟨#[]⟩] 9)).frozen? ⟨w.heap.size + 2, o, none⟩ = false := fun o => by simp [go_sem]
  have zB : w.heap.size < (((w.alloc (.cells #[Value.pointer (some ⟨g, 0, none⟩)] 119)).alloc (.cells #[Value.int .i64 (m : Int)] 3)).alloc (.cells #[Value.string ⟨#[]⟩] 9)).heap.size := by (simp; omega)
  have zM : w.heap.size + 1 < (((w.alloc (.cells #[Value.pointer (some ⟨g, 0, none⟩)] 119)).alloc (.cells #[Value.int .i64 (m : Int)] 3)).alloc (.cells #[Value.string ⟨#[]⟩] 9)).heap.size := by (first | (with_reducible exact Nat.le_refl _) | (with_reducible assumption) | omega | (simp; omega) | (simp; done))
  have zX : w.heap.size + 2 < (((w.alloc (.cells #[Value.pointer (some ⟨g, 0, none⟩)] 119)).alloc (.cells #[Value.int .i64 (m : Int)] 3)).alloc (.cells #[Value.string ⟨#[]⟩] 9)).heap.size := by (first | (with_reducible exact Nat.le_refl _) | (with_reducible assumption) | omega | (simp; omega) | (simp; done))
  have hg : g < w.heap.size := hR.cells.1
  have hb : B ≤ w.heap.size := hR.1
  have hle : a ≤ ns.length := hR.more.1
  obtain ⟨r1, r2, r3⟩ := HR0.out.cells
  clear hR hB0
  go_enter Try.func60, Try.ntmps60
  go_wp2_with (go_at_call 87; go_in)
  refine (tx1_none g B w.heap.size (w.heap.size + 1) (w.heap.size + 2) ns a m _ HR0.out cB cM zB zM zX cX fX (by omega) (by omega) (by omega) (by omega) (by omega) (by omega) hm hE Hn.out).mono ?_
  rintro e w1 ⟨rfl, ho, hR1, hx⟩
  have HO := hide ho
  have HR1 := hide hR1
  obtain ⟨t1, t2, t3⟩ := hR1.cells
  clear ho hR1 r1 r2 r3 cB cM cX fX zB zM zX
  clear hE
  generalize hst : bstr ((ns.drop (lg ns a m).2.2).take (lg ns a m).1) = st at hx
  have Hst := hide hst
  clear hst
  go_wp2
  go_ret2
  exact ⟨by (first | rfl | (rw [Hst.out]; rfl) | (rw [← Hst.out]; rfl)), Only2.only HB0.out HO.out (by omega), HR1.out⟩

theorem RText_c (g B : Nat) (ns : List Nat) (a : Nat) (m : Nat) (w : World) (hR : RAny w g B ns a) (hm : m ≤ 9223372036854775807) : Calls Try.prog 60 #[.pointer (some ⟨g, 0, none⟩), .int .i64 (m : Int)] w (fun e w' => e = .returned (.tuple #[.string (bstr (tx ns a m).1), .int .i64 ((tx ns a m).2.1 : Int)]) ∧ Only g w w' ∧ RAny w' g B ns (tx ns a m).2.2) := by
  by_cases hE : (lg ns a m).2.1 = 0
  · have q : tx ns a m = ((ns.drop (lg ns a m).2.2).take (lg ns a m).1, 0, (lg ns a m).2.2 + (lg ns a m).1) := by unfold tx; rw [if_neg (by omega)]
    rw [q]
    by_cases hn : 0 < (lg ns a m).1
    · exact RText_some g B ns a m w hR hm hE hn
    · exact RText_none g B ns a m w hR hm hE (by omega)
  · have q : tx ns a m = ([], (lg ns a m).2.1, a) := by unfold tx; rw [if_pos hE]
    rw [q, bstr_nil]
    exact RText_bad g B ns a m w hR hm hE
end Go.Proofs.Ytalnipjaekpbhaa


namespace Go.Proofs.Ytalnipjaekpbhaa
open Go.ChangeShapes Go.WideShapes Go.ChangeAt Go.RowKit Go.Deep
set_option linter.unusedSimpArgs false
set_option linter.unusedVariables false

/-- k things read one behind the other by R: their values, the first error, the place -/
def tk (R : Nat → Value × Nat × Nat) : Nat → Nat → List Value × Nat × Nat
  | 0, a => ([], 0, a)
  | k + 1, a => if (R a).2.1 ≠ 0 then ([(R a).1], (R a).2.1, (R a).2.2) else ((R a).1 :: (tk R k (R a).2.2).1, (tk R k (R a).2.2).2.1, (tk R k (R a).2.2).2.2)
theorem tk_bad (R : Nat → Value × Nat × Nat) (k a : Nat) (h : (R a).2.1 ≠ 0) : (tk R (k + 1) a).2.1 = (R a).2.1 := by rw [tk, if_pos h]
theorem tk_ok (R : Nat → Value × Nat × Nat) (k a : Nat) (h : (R a).2.1 = 0) : tk R (k + 1) a = ((R a).1 :: (tk R k (R a).2.2).1, (tk R k (R a).2.2).2.1, (tk R k (R a).2.2).2.2) := by rw [tk, if_neg (by omega)]
/-- what the reader answers to Take -/
def tl (R : Nat → Value × Nat × Nat) (ns : List Nat) (a m : Nat) : List Value × Nat × Nat :=
  if (lg ns a m).2.1 ≠ 0 then ([], (lg ns a m).2.1, a)
  else if (tk R (lg ns a m).1 (lg ns a m).2.2).2.1 ≠ 0 then ([], (tk R (lg ns a m).1 (lg ns a m).2.2).2.1, a)
  else tk R (lg ns a m).1 (lg ns a m).2.2
/-- below B0, block g alone may have changed -/
structure KB (B0 g : Nat) (w w' : World) : Prop where
  os : w'.os = w.os
  tape : w'.tape = w.tape
  output : w'.output = w.output
  size : w.heap.size ≤ w'.heap.size
  block : ∀ i, i < B0 → i ≠ g → w'.heap[i]? = w.heap[i]?
theorem KB.refl (B0 g : Nat) (w : World) : KB B0 g w w := ⟨rfl, rfl, rfl, Nat.le_refl _, fun _ _ _ => rfl⟩
theorem KB.trans {B0 g : Nat} {w w1 w2 : World} (h : KB B0 g w w1) (k : KB B0 g w1 w2) : KB B0 g w w2 :=
  ⟨k.os.trans h.os, k.tape.trans h.tape, k.output.trans h.output, Nat.le_trans h.size k.size, fun i hi h1 => (k.block i hi h1).trans (h.block i hi h1)⟩
theorem KB.of_only {B0 g : Nat} {w w' : World} (k : Only g w w') (h : B0 ≤ w.heap.size) : KB B0 g w w' := ⟨k.os, k.tape, k.output, k.size, fun i hi h1 => k.block i (by omega) h1⟩
theorem KB.of_below {B0 g : Nat} {w w' : World} (k : Below w.heap.size w w') (h : B0 ≤ w.heap.size) : KB B0 g w w' := KB.of_only (Only.of_below k) h
theorem KB.set {B0 g h : Nat} {w w1 : World} (k : KB B0 g w w1) (hh : B0 ≤ h) (o : Nat) (u : Value) : KB B0 g w (w1.setCell ⟨h, o, none⟩ u) :=
  k.trans ⟨rfl, rfl, rfl, by simp, fun i hi _ => Below.heap_setCell _ _ _ _ (by show i ≠ h; omega)⟩
theorem KB.grown {B0 g : Nat} {w w1 : World} {row : Option Nat} (h : w.grownBy w1 row) (hr : ∀ k, row = some k → B0 ≤ k) (hs : B0 ≤ w.heap.size) : KB B0 g w w1 :=
  ⟨h.os, h.tape, h.output, h.size, fun i hi _ => h.block i (by omega) (fun e => by have := hr i e.symm; omega)⟩
theorem KB.only {w w' : World} {g : Nat} {w0 : World} (h : Below w0.heap.size w0 w) (k : KB w0.heap.size g w w') : Only g w0 w' :=
  ⟨k.os.trans h.os, k.tape.trans h.tape, k.output.trans h.output, Nat.le_trans h.size k.size, fun i hi h1 => (k.block i hi h1).trans (h.block i hi)⟩
theorem RObj.same {w w' : World} {g b off cap : Nat} {ns : List Nat} {at_ : Nat} (h : RObj w g b off cap ns at_) (hs : w.heap.size ≤ w'.heap.size) (h1 : w'.heap[g]? = w.heap[g]?) (h2 : w'.heap[b]? = w.heap[b]?) : RObj w' g b off cap ns at_ := by
  obtain ⟨r1, r2, r3, r4, r5, r6, r7, r8, r9, r10⟩ := h
  exact ⟨Nat.lt_of_lt_of_le r1 hs, fun o => (World.cell?_of_block h1).trans (r2 o), fun o => (World.frozen?_of_block h1).trans (r3 o), Nat.lt_of_lt_of_le r4 hs, r5, fun j hj => (World.cell?_of_block h2).trans (r6 j hj), r7, r8, r9, r10⟩
theorem RAny.same {w w' : World} {g B : Nat} {ns : List Nat} {a : Nat} (h : RAny w g B ns a) (hs : w.heap.size ≤ w'.heap.size) (h1 : w'.heap[g]? = w.heap[g]?) (h2 : ∀ i, i < B → w'.heap[i]? = w.heap[i]?) : RAny w' g B ns a := by
  obtain ⟨hB, ⟨b, off, cap, hb2, k⟩ | ⟨⟨k1, k2, k3⟩, k4⟩⟩ := h
  · exact ⟨Nat.le_trans hB hs, .inl ⟨b, off, cap, hb2, k.same hs h1 (h2 b hb2)⟩⟩
  · exact ⟨Nat.le_trans hB hs, .inr ⟨⟨Nat.lt_of_lt_of_le k1 hs, fun o => (World.cell?_of_block h1).trans (k2 o), fun o => (World.frozen?_of_block h1).trans (k3 o)⟩, k4⟩⟩
theorem own_empty (w : World) (e : TypeId) (size base : Nat) (h : base ≤ w.heap.size) : (w.alloc (.cells #[] e)).ownsRow base e size (.slice (some ⟨w.heap.size, 0, none⟩) 0 0) 0 [] :=
  ⟨by simp, .inr ⟨_, 0, #[], rfl, h, heap_new _ _, Nat.le_refl _, by unfold maxLen; omega, by simp, by simp⟩⟩
theorem own_set {w : World} {base : Nat} {e : TypeId} {size : Nat} {v : Value} {n : Nat} {xs : List Value} (h : w.ownsRow base e size v n xs) {b : Nat} (hb : ∀ k, v.ownBlock = some k → k ≠ b) (o : Nat) (u : Value) : (w.setCell ⟨b, o, none⟩ u).ownsRow base e size v n xs := by
  obtain ⟨h0, h⟩ := h
  refine ⟨h0, ?_⟩
  rcases h with h | ⟨g, cap, cur, h1, h2, h3, h4⟩
  · exact .inl h
  · subst h1
    exact .inr ⟨g, cap, cur, rfl, h2, by rw [Below.heap_setCell _ _ _ _ (by exact hb g rfl)]; exact h3, h4⟩
theorem own_same {w w' : World} {base : Nat} {e : TypeId} {size : Nat} {v : Value} {n : Nat} {xs : List Value} (h : w.ownsRow base e size v n xs) (hs : ∀ k, v.ownBlock = some k → k < w.heap.size → w'.heap[k]? = w.heap[k]?) : w'.ownsRow base e size v n xs := by
  obtain ⟨h0, h⟩ := h
  refine ⟨h0, ?_⟩
  rcases h with h | ⟨g, cap, cur, h1, h2, h3, h4⟩
  · exact .inl h
  · subst h1
    exact .inr ⟨g, cap, cur, rfl, h2, by rw [hs g rfl (Array.getElem?_eq_some_iff.1 h3).1]; exact h3, h4⟩
end Go.Proofs.Ytalnipjaekpbhaa


namespace Go.Proofs.Ytalnipjaekpbhaa
open Go.ChangeShapes Go.WideShapes Go.ChangeAt Go.RowKit Go.Deep
set_option linter.unusedSimpArgs false
set_option linter.unusedVariables false

theorem own_one (w : World) (e : TypeId) (base : Nat) (x : Value) (h : base ≤ w.heap.size) : (w.alloc (.cells #[x] e)).ownsRow base e 1 (.slice (some ⟨w.heap.size, 0, none⟩) 1 1) 1 [x] :=
  ⟨rfl, .inr ⟨_, 1, #[x], rfl, h, heap_new _ _, Nat.le_refl _, by unfold maxLen; omega, rfl, rfl⟩⟩
theorem own_cells {w : World} {base g cap n : Nat} {e : TypeId} {xs : List Value} (own : w.ownsRow base e 1 (.slice (some ⟨g, 0, none⟩) n cap) n xs) : ∀ j u, xs[j]? = some u → w.cell? ((⟨g, 0, none⟩ : Addr).add j) = some u := by
  intro j u hj
  have hlt : j < xs.length := (List.getElem?_eq_some_iff.1 hj).1
  have hx : xs.length = n := by have := own.1; omega
  obtain ⟨g', cap', hv, _, _, _, hcl, _⟩ := own_form own (by omega)
  have e : g = g' := by (injection hv with e1 e2 e3; injection e1 with e1; injection e1 with e4)
  subst e
  have ha : (⟨g, 0, none⟩ : Addr).add j = ⟨g, j, none⟩ := by
    unfold Addr.add
    split
    · (rename_i h; subst h; rfl)
    · simp
  rw [ha, hcl j (by omega), hj]
theorem u8_one (l : List Nat) : ∀ u ∈ l.map (fun (b : Nat) => Value.int .u8 (b : Int)), u.oneCell' = true := fun u hu => by obtain ⟨x, _, rfl⟩ := List.mem_map.1 hu; rfl
theorem below_grown {W w w' : World} {base : Nat} {row : Option Nat} (h : Below base W w) (hg : w.grownBy w' row) (hr : ∀ k, row = some k → base ≤ k) (hs : base ≤ w.heap.size) : Below base W w' :=
  h.trans ⟨hg.os, hg.tape, hg.output, hg.size, fun i hi => hg.block i (by omega) (fun e => by have := hr i e.symm; omega)⟩
theorem many_div (X : Nat) (j : Nat) (h : X / 256 ^ j ≤ 255) (h2 : ∀ i, i < j → 255 < X / 256 ^ i) : many X = j + 1 := by
  induction j generalizing X with
  | zero => rw [many, dif_pos (by simp at h; omega)]
  | succ j ih =>
    have h0 := h2 0 (by omega)
    simp at h0
    rw [many, dif_neg (by omega), ih (X / 256) (by rw [Nat.div_div_eq_div_mul, ← Nat.pow_succ']; exact h) (fun i hi => by rw [Nat.div_div_eq_div_mul, ← Nat.pow_succ']; exact h2 (i + 1) (by omega))]
    omega

set_option maxRecDepth 100000 in
set_option maxHeartbeats 2000000 in
theorem refBytes_c (x : Nat) (w : World) (hx : x < 18446744073709551616) : Calls Try.prog 84 #[.int .u64 (x : Int)] w (fun e w' => ∃ g cap, e = .returned (.slice (some ⟨g, 0, none⟩) (hi (many x) x).length cap) ∧ w'.ownsRow w.heap.size 5 1 (.slice (some ⟨g, 0, none⟩) (hi (many x) x).length cap) (hi (many x) x).length ((hi (many x) x).map (fun (b : Nat) => Value.int .u8 (b : Int))) ∧ Below w.heap.size w w') := by
  obtain ⟨i0, hi0, hz0, hz1, hz2⟩ := info_parts info5
  have HX := hide hx
  have Hone := hide (own_one w 5 w.heap.size (.int .u8 ((x % 256 : Nat) : Int)) (Nat.le_refl _))
  clear hx
  go_enter Try.func84, Try.ntmps84
  go_wp2
  go_loopw [0, 3] (fun v0 v3 wr => ∃ (j g cap : Nat), v0 = .int .u64 ((x / 256 ^ j : Nat) : Int) ∧ v3 = .slice (some ⟨g, 0, none⟩) (j + 1) cap ∧ (∀ i, i < j → 255 < x / 256 ^ i) ∧ wr.ownsRow w.heap.size 5 1 (.slice (some ⟨g, 0, none⟩) (j + 1) cap) (j + 1) ((hi (j + 1) x).map (fun (b : Nat) => Value.int .u8 (b : Int))) ∧ Below w.heap.size w wr) (fun v0 _ _ => (intOf v0).toNat)
  case atStart => exact ⟨0, w.heap.size, 1, by simp, rfl, fun i hi => by omega, by (have q := Hone.out; simpa [hi] using q), by (focus repeat' (first | (with_reducible exact Below.refl _ _) | (with_reducible assumption) | (with_reducible refine Below.alloc ?_ ?_ _) | (with_reducible refine Below.drew ?_) | (with_reducible refine bdrewN ?_ _) | (with_reducible refine Below.setCell ?_ ?_ _) | (first | (with_reducible exact Nat.le_refl _) | (with_reducible assumption) | omega | (simp; omega) | (simp; done))))⟩
  case round =>
    obtain ⟨j, g, cap, rfl, rfl, hj, hown, hB⟩ := hrel
    have HJ := hide hj
    have HOW := hide hown
    have HB := hide hB
    clear hj hown hB
    by_cases hlt : 255 < x / 256 ^ j
    · have hj7 : j < 7 := by
        rcases Nat.lt_or_ge j 7 with h | h
        · exact h
        · have p : 256 ^ 7 ≤ 256 ^ j := Nat.pow_le_pow_right (by decide) h
          have q : x / 256 ^ j ≤ x / 256 ^ 7 := Nat.div_le_div_left p (by decide)
          have p7 : (256 : Nat) ^ 7 = 72057594037927936 := by decide
          rw [p7] at q
          have := HX.out
          omega
      have hdiv : x / 256 ^ (j + 1) = x / 256 ^ j / 256 := by rw [Nat.pow_succ, Nat.div_div_eq_div_mul]
      have HD := hide hdiv
      have hnx : hi (j + 1 + 1) x = (x / 256 ^ j / 256 % 256) :: hi (j + 1) x := by rw [← hdiv]; rfl
      have HN := hide hnx
      clear hdiv hnx
      have hy64 : x / 256 ^ j < 18446744073709551616 := Nat.lt_of_le_of_lt (Nat.div_le_self _ _) HX.out
      generalize hy : x / 256 ^ j = y at *
      have hy' : (255 : Int) < (y : Int) := by omega
      have HY := hide hy
      clear hy
      have HB2 := hide HB.out.size
      go_wp2_with (at_builtin; refine wpList_append_lies _ rfl (.tmp 15) (.tmp 16) 30 rfl w.heap.size 5 i0 (.int .u8 0) 1 1 Try.underlying30 hi0 hz0 hz1 hz2 rfl (by decide) (.slice (some ⟨wr.heap.size, 0, none⟩) 1 1) 1 [.int .u8 _] rfl (own_one wr 5 w.heap.size (.int .u8 _) HB2.out) ⟨g, 0, none⟩ (j + 1) cap ((hi (j + 1) x).map (fun (b : Nat) => Value.int .u8 (b : Int))) rfl (by simp [hi_length]) (own_cells (HOW.out.alloc _)) (u8_one _) (by omega) (by unfold maxLen; omega) (by omega) (by (simp; have := HB2.out; omega)) _ rfl ?_; intro g2 cap2 wn hown2 hg2 hgg hgl)
      go_roundw
      case rel =>
        have hgk : ∀ k, (Value.slice (some ⟨wr.heap.size, 0, none⟩) 1 1).ownBlock = some k → w.heap.size ≤ k := fun k hk => by
          have e : wr.heap.size = k := Option.some.inj hk
          have := HB2.out
          omega
        refine ⟨j + 1, g2, cap2, by (rw [HD.out]; first | rfl | (simp; done)), by (rw [Nat.add_comm 1]), fun i hi => ?_, ?_, ?_⟩
        · rcases Nat.lt_or_ge i j with h | h
          · exact HJ.out i h
          · obtain rfl : i = j := by omega
            rw [HY.out]; exact hlt
        · rw [HN.out, List.map_cons]
          have q := hown2
          rw [Nat.add_comm 1] at q
          simpa using q
        · exact below_grown (Below.alloc HB.out HB2.out _) hg2 hgk (by (simp; have := HB2.out; omega))
      case measure => (simp [intOf]; omega)
    · have hle : ¬ ((255 : Int) < ((x / 256 ^ j : Nat) : Int)) := by omega
      have hm := many_div x j (by omega) HJ.out
      have Hm := hide hm
      clear hm
      generalize hy : x / 256 ^ j = y at *
      go_wp2
      go_ret
      refine ⟨g, cap, ?_, ?_, HB.out⟩
      · rw [hi_length, Hm.out]; rfl
      · rw [hi_length, Hm.out]; exact HOW.out
end Go.Proofs.Ytalnipjaekpbhaa


namespace Go.Proofs.Ytalnipjaekpbhaa
open Go.ChangeShapes Go.WideShapes Go.ChangeAt Go.RowKit Go.Deep
set_option linter.unusedSimpArgs false
set_option linter.unusedVariables false

set_option maxRecDepth 100000 in
set_option maxHeartbeats 1000000 in
theorem refNum_short (x : Nat) (w : World) (hx : x < 18446744073709551616) (hs : x ≤ 247) : Calls Try.prog 51 #[.int .u64 (x : Int)] w (fun e w' => ∃ g cap, e = .returned (.slice (some ⟨g, 0, none⟩) (form x).length cap) ∧ w'.ownsRow w.heap.size 5 1 (.slice (some ⟨g, 0, none⟩) (form x).length cap) (form x).length ((form x).map (fun (b : Nat) => Value.int .u8 (b : Int))) ∧ Below w.heap.size w w') := by
  have hs' : (x : Int) ≤ 247 := by omega
  have hf : form x = [x] := by unfold form; rw [if_pos hs]
  have HF := hide hf
  clear hf
  go_enter Try.func51, Try.ntmps51
  go_wp2
  go_ret
  refine ⟨w.heap.size, 1, by (rw [HF.out]; rfl), ?_, by (focus repeat' (first | (with_reducible exact Below.refl _ _) | (with_reducible assumption) | (with_reducible refine Below.alloc ?_ ?_ _) | (with_reducible refine Below.drew ?_) | (with_reducible refine bdrewN ?_ _) | (with_reducible refine Below.setCell ?_ ?_ _) | (first | (with_reducible exact Nat.le_refl _) | (with_reducible assumption) | omega | (simp; omega) | (simp; done))))⟩
  rw [HF.out]
  have q := own_one w 5 w.heap.size (.int .u8 (x : Int)) (Nat.le_refl _)
  simpa using q

set_option maxRecDepth 100000 in
set_option maxHeartbeats 2000000 in
theorem refNum_long (x : Nat) (w : World) (hx : x < 18446744073709551616) (hs : ¬ x ≤ 247) : Calls Try.prog 51 #[.int .u64 (x : Int)] w (fun e w' => ∃ g cap, e = .returned (.slice (some ⟨g, 0, none⟩) (form x).length cap) ∧ w'.ownsRow w.heap.size 5 1 (.slice (some ⟨g, 0, none⟩) (form x).length cap) (form x).length ((form x).map (fun (b : Nat) => Value.int .u8 (b : Int))) ∧ Below w.heap.size w w') := by
  obtain ⟨i0, hi0, hz0, hz1, hz2⟩ := info_parts info5
  have hs' : (247 : Int) < (x : Int) := by omega
  have hmu := many_u64 hx
  have hmp := many_pos x
  have hf : form x = (247 + many x) :: hi (many x) x := by unfold form; rw [if_neg hs]
  have HF := hide hf
  clear hf
  go_enter Try.func51, Try.ntmps51
  go_wp2_with fail
  refine (refBytes_c x _ hx).mono ?_
  rintro e w1 ⟨g1, cap1, rfl, own1, hb1⟩
  rw [hi_length] at own1
  rw [hi_length]
  have HOW := hide own1
  have HB1 := hide hb1
  have hz : w.heap.size ≤ w1.heap.size := hb1.size
  clear own1 hb1
  generalize hm : many x = m at *
  have HM := hide hm
  clear hm
  have hw8 : (247 + (m : Int)) % 256 = 247 + (m : Int) := by omega
  go_wp2_with (at_builtin; refine wpList_append_lies _ rfl (.tmp 15) (.tmp 16) 30 rfl w.heap.size 5 i0 (.int .u8 0) 1 1 Try.underlying30 hi0 hz0 hz1 hz2 rfl (by decide) (.slice (some ⟨w1.heap.size, 0, none⟩) 1 1) 1 [.int .u8 _] rfl (own_one w1 5 w.heap.size (.int .u8 _) hz) ⟨g1, 0, none⟩ m cap1 ((hi m x).map (fun (b : Nat) => Value.int .u8 (b : Int))) rfl (by simp [hi_length]) (own_cells (HOW.out.alloc _)) (u8_one _) (by omega) (by unfold maxLen; omega) (by omega) (by (simp; omega)) _ rfl ?_; intro g2 cap2 wn hown2 hg2 hgg hgl)
  go_ret
  have hgk : ∀ k, (Value.slice (some ⟨w1.heap.size, 0, none⟩) 1 1).ownBlock = some k → w.heap.size ≤ k := fun k hk => by
    have e : w1.heap.size = k := Option.some.inj hk
    omega
  refine ⟨g2, cap2, ?_, ?_, below_grown (Below.alloc HB1.out hz _) hg2 hgk (by (simp; omega))⟩
  · rw [HF.out, List.length_cons, hi_length, Nat.add_comm m 1]; rfl
  · rw [HF.out, List.length_cons, hi_length, List.map_cons, Nat.add_comm m 1]
    simpa using hown2

theorem refNum_c (x : Nat) (w : World) (hx : x < 18446744073709551616) : Calls Try.prog 51 #[.int .u64 (x : Int)] w (fun e w' => ∃ g cap, e = .returned (.slice (some ⟨g, 0, none⟩) (form x).length cap) ∧ w'.ownsRow w.heap.size 5 1 (.slice (some ⟨g, 0, none⟩) (form x).length cap) (form x).length ((form x).map (fun (b : Nat) => Value.int .u8 (b : Int))) ∧ Below w.heap.size w w') := by
  by_cases hs : x ≤ 247
  · exact refNum_short x w hx hs
  · exact refNum_long x w hx hs
end Go.Proofs.Ytalnipjaekpbhaa


namespace Go.Proofs.Ytalnipjaekpbhaa
open Go.ChangeShapes Go.WideShapes Go.ChangeAt Go.RowKit Go.Deep
set_option linter.unusedSimpArgs false
set_option linter.unusedVariables false

theorem WObj.same {g : Nat} {v : Value} {bs : List Nat} {w w' : World} (h : WObj w g v bs) (hs : w.heap.size ≤ w'.heap.size) (h1 : w'.heap[g]? = w.heap[g]?) (h2 : ∀ k, v.ownBlock = some k → k < w.heap.size → w'.heap[k]? = w.heap[k]?) : WObj w' g v bs := by
  obtain ⟨a1, a2, a3, a4, a5, a6⟩ := h
  exact ⟨Nat.lt_of_lt_of_le a1 hs, (World.cell?_of_block h1).trans a2, (World.frozen?_of_block h1).trans a3, own_same a4 h2, a5, a6⟩
/-- a writer and a reader, apart, both new since w0 -/
structure KN (w0 w : World) (g1 : Nat) (v : Value) (bs : List Nat) (g2 b cap : Nat) (ns : List Nat) (a : Nat) : Prop where
  wr : WObj w g1 v bs
  rd : RObj w g2 b 0 cap ns a
  n1 : g1 ≠ g2
  n2 : b ≠ g1
  n3 : v.ownBlock ≠ some g2
  n4 : v.ownBlock ≠ some b
  low : Below w0.heap.size w0 w
  lo1 : w0.heap.size ≤ g1
  lo2 : w0.heap.size ≤ g2
  lo3 : ∀ k, v.ownBlock = some k → w0.heap.size ≤ k
theorem KN.write {w0 w w' : World} {g1 : Nat} {v v' : Value} {bs bs' : List Nat} {g2 b cap : Nat} {ns : List Nat} {a : Nat} (h : KN w0 w g1 v bs g2 b cap ns a) (hW : WObj w' g1 v' bs') (hk : WKeep g1 v w w') (hn : Near w v v') : KN w0 w' g1 v' bs' g2 b cap ns a := by
  obtain ⟨r1, r2, r3, r4, _⟩ := h.rd
  have hz := hk.2.2.2.1
  have hl := h.low.size
  refine ⟨hW, h.rd.same hz (hk.2.2.2.2 g2 r1 h.n1.symm (fun e => h.n3 e.symm)) (hk.2.2.2.2 b r4 h.n2 (fun e => h.n4 e.symm)), h.n1, h.n2, ?_, ?_, h.low.trans ⟨hk.1, hk.2.1, hk.2.2.1, hz, fun i hi => hk.2.2.2.2 i (by omega) (fun e => by have := h.lo1; omega) (fun e => by have := h.lo3 i e.symm; omega)⟩, h.lo1, h.lo2, ?_⟩
  · rcases hn with q | ⟨k, q, hk⟩
    · rw [q]; exact h.n3
    · rw [q]; intro e; cases e; omega
  · rcases hn with q | ⟨k, q, hk⟩
    · rw [q]; exact h.n4
    · rw [q]; intro e; cases e; omega
  · rcases hn with q | ⟨k, q, hk⟩
    · rw [q]; exact h.lo3
    · rw [q]; intro j e; cases e; omega
theorem KN.below {w0 w w' : World} {g1 : Nat} {v : Value} {bs : List Nat} {g2 b cap : Nat} {ns : List Nat} {a : Nat} (h : KN w0 w g1 v bs g2 b cap ns a) (hb : Below w.heap.size w w') : KN w0 w' g1 v bs g2 b cap ns a :=
  ⟨h.wr.below hb, h.rd.below hb, h.n1, h.n2, h.n3, h.n4, h.low.trans (hb.mono h.low.size), h.lo1, h.lo2, h.lo3⟩
/-- a writer, and a reader that is read, both new since w0 -/
structure KR (w0 w : World) (g1 : Nat) (v : Value) (bs : List Nat) (g2 B : Nat) (ns : List Nat) (a : Nat) : Prop where
  wr : WObj w g1 v bs
  rd : RAny w g2 B ns a
  n1 : g1 ≠ g2
  n3 : v.ownBlock ≠ some g2
  low : Below w0.heap.size w0 w
  lo2 : w0.heap.size ≤ g2
theorem KN.reads {w0 w : World} {g1 : Nat} {v : Value} {bs : List Nat} {g2 b cap : Nat} {ns : List Nat} {a : Nat} (h : KN w0 w g1 v bs g2 b cap ns a) : KR w0 w g1 v bs g2 w.heap.size ns a :=
  ⟨h.wr, ⟨Nat.le_refl _, .inl ⟨b, 0, cap, h.rd.2.2.2.1, h.rd⟩⟩, h.n1, h.n3, h.low, h.lo2⟩
theorem KR.read {w0 w w' : World} {g1 : Nat} {v : Value} {bs : List Nat} {g2 B : Nat} {ns : List Nat} {a a' : Nat} (h : KR w0 w g1 v bs g2 B ns a) (ho : Only g2 w w') (hR : RAny w' g2 B ns a') : KR w0 w' g1 v bs g2 B ns a' := by
  have hl := h.low.size
  exact ⟨h.wr.same ho.size (ho.block g1 h.wr.1 h.n1) (fun k hk hlt => ho.block k hlt (fun e => h.n3 (by rw [hk, e]))), hR, h.n1, h.n3, h.low.trans ⟨ho.os, ho.tape, ho.output, ho.size, fun i hi => ho.block i (by omega) (by have := h.lo2; omega)⟩, h.lo2⟩
theorem KR.below {w0 w w' : World} {g1 : Nat} {v : Value} {bs : List Nat} {g2 B : Nat} {ns : List Nat} {a : Nat} (h : KR w0 w g1 v bs g2 B ns a) (hb : Below w.heap.size w w') : KR w0 w' g1 v bs g2 B ns a :=
  ⟨h.wr.below hb, h.rd.below hb, h.n1, h.n3, h.low.trans (hb.mono h.low.size), h.lo2⟩

set_option maxRecDepth 100000 in
set_option maxHeartbeats 2000000 in
theorem NewReader_some (ns : List Nat) (b off cap : Nat) (w : World) (hm : 0 < ns.length) (hl : ns.length ≤ 140737488351232) (hx : ∀ x ∈ ns, x < 256) (hb : ∀ j, j < ns.length → w.cell? ⟨b, off + j, none⟩ = some (.int .u8 (ns.getD j 0 : Int))) (hbz : b < w.heap.size) : Calls Try.prog 58 #[.slice (some ⟨b, off, none⟩) ns.length cap] w (fun e w' => ∃ g b2 cap2, e = .returned (.pointer (some ⟨g, 0, none⟩)) ∧ w.heap.size ≤ g ∧ w.heap.size ≤ b2 ∧ Below w.heap.size w w' ∧ RObj w' g b2 0 cap2 ns 0) := by
  have HX := hide hx
  clear hx
  go_enter Try.func58, Try.ntmps58
  go_wp2_with fail
  refine (Clone8_c ns b off cap _ hm (by omega) hb hbz).mono ?_
  rintro e w1 ⟨g2, cap2, rfl, hg2, own, hb1⟩
  obtain ⟨g', cap', hv, _, hlt, hcp, hcl, _⟩ := own_form own hm
  obtain ⟨h1, h2, h3⟩ : g2 = g' ∧ ns.length = ns.length ∧ cap2 = cap' := by (injection hv with e1 e2 e3; injection e1 with e1; injection e1 with e4; exact ⟨e4, e2, e3⟩)
  subst h1; subst h3
  have HC := hide (row_cells (cap := cap2) hcl)
  have HB1 := hide hb1
  clear hb own hv hcl hb1
  go_wp2
  go_ret
  have hz := HB1.out.size
  refine ⟨w1.heap.size, g2, cap2, rfl, hz, hg2, (HB1.out).trans ((bstep (Below.refl _ _) (by (focus repeat' (first | (with_reducible exact Below.refl _ _) | (with_reducible assumption) | (with_reducible refine Below.alloc ?_ ?_ _) | (with_reducible refine Below.drew ?_) | (with_reducible refine bdrewN ?_ _) | (with_reducible refine Below.setCell ?_ ?_ _) | (first | (with_reducible exact Nat.le_refl _) | (with_reducible assumption) | omega | (simp; omega) | (simp; done)))))).mono hz), by simp, fun o => by simp [go_sem], fun o => by simp [go_sem], by (simp; omega), by omega, fun j hj => ?_, HX.out, Nat.zero_le _, by omega, hcp⟩
  rw [World.cell?_alloc_past _ _ _ (by first | omega | (simp; omega))]
  exact HC.out j hj
end Go.Proofs.Ytalnipjaekpbhaa


namespace Go.Proofs.Ytalnipjaekpbhaa
open Go.ChangeShapes Go.WideShapes Go.ChangeAt Go.RowKit Go.Deep
set_option linter.unusedSimpArgs false
set_option linter.unusedVariables false

theorem conv28 (w : World) (b off cap : Nat) (ns : List Nat) (h : ∀ j, j < ns.length → w.cell? ⟨b, off + j, none⟩ = some (.int .u8 (ns.getD j 0 : Int))) : Sem.run Try.prog (convert 30 9 (.slice (some ⟨b, off, none⟩) ns.length cap)) w = .ok (.string (bstr ns)) w :=
  run_convert_bytes_arg (P := Try.prog) w 30 5 Try.underlying30 Try.underlying5 b off ns.length cap (ns.map (fun (x : Nat) => (x : Int))) (by simp) (fun i hi => by
    rw [h i hi]
    have e1 : (ns.map (fun (x : Nat) => (x : Int))).getD i 0 = ((ns.getD i 0 : Nat) : Int) := by simp [List.getD, hi]
    rw [e1]) 9 Try.underlying9
theorem own_conv {w : World} {base g cap : Nat} {ns : List Nat} (own : w.ownsRow base 5 1 (.slice (some ⟨g, 0, none⟩) ns.length cap) ns.length (ns.map (fun (b : Nat) => Value.int .u8 (b : Int)))) (hm : 0 < ns.length) : ∀ j, j < ns.length → w.cell? ⟨g, 0 + j, none⟩ = some (.int .u8 (ns.getD j 0 : Int)) := by
  obtain ⟨g', cap', hv, _, _, _, hcl, _⟩ := own_form own hm
  have e : g = g' := by (injection hv with e1 e2 e3; injection e1 with e1; injection e1 with e4)
  subst e
  exact row_cells (cap := cap) hcl

theorem wpAnyH_mono {P : Program} {md : Region.Mode} {ops : Array Oper} {Q : Exit → Act → World → Prop} {S S2 : World → Prop} (h : ∀ w, S2 w → S w) : ∀ (fuel : Nat) (listed : Array Bool) (a : Act) (w : World), wpAnyH P md ops Q S2 fuel listed a w → wpAnyH P md ops Q S fuel listed a w
  | 0, _, _, _, H => H
  | fuel + 1, _, _, _, H => ⟨H.1, fun i hi => wpOp_mono (fun a' w' h' => ⟨h _ h'.1, wpAnyH_mono h fuel _ a' w' h'.2⟩) (H.2 i hi)⟩
end Go.Proofs.Ytalnipjaekpbhaa


namespace Go.Proofs.Ytalnipjaekpbhaa
open Go.ChangeShapes Go.WideShapes Go.ChangeAt Go.RowKit Go.Deep
set_option linter.unusedSimpArgs false
set_option linter.unusedVariables false
/-- bytes as the program has them -/
def u8s (ns : List Nat) : List UInt8 := ns.map UInt8.ofNat
theorem bstr_list (ns : List Nat) : (bstr ns).toList = u8s ns := by
  unfold bstr strOfNums u8s
  rw [ByteArray.toList_eq]
  simp
/-- the lesser text -/
def lessN : List Nat → List Nat → Bool
  | _, [] => false
  | [], _ :: _ => true
  | a :: x, b :: y => decide (a < b) || (decide (a = b) && lessN x y)
theorem less_u8 : ∀ (x y : List Nat), (∀ a ∈ x, a < 256) → (∀ a ∈ y, a < 256) → Op.bytesLess (u8s x) (u8s y) = lessN x y
  | x, [], _, _ => by cases x <;> rfl
  | [], b :: y, _, _ => rfl
  | a :: x, b :: y, hx, hy => by
    have ha := hx a (List.mem_cons_self ..)
    have hb := hy b (List.mem_cons_self ..)
    have ih := less_u8 x y (fun c hc => hx c (List.mem_cons_of_mem _ hc)) (fun c hc => hy c (List.mem_cons_of_mem _ hc))
    have e1 : (decide (UInt8.ofNat a < UInt8.ofNat b)) = decide (a < b) := by
      rw [decide_eq_decide, UInt8.lt_iff_toNat_lt, UInt8.toNat_ofNat_of_lt' (by simpa using ha), UInt8.toNat_ofNat_of_lt' (by simpa using hb)]
    have e2 : (UInt8.ofNat a == UInt8.ofNat b) = decide (a = b) := by
      rw [show (UInt8.ofNat a == UInt8.ofNat b) = decide (UInt8.ofNat a = UInt8.ofNat b) from rfl, decide_eq_decide, ← UInt8.toNat_inj, UInt8.toNat_ofNat_of_lt' (by simpa using ha), UInt8.toNat_ofNat_of_lt' (by simpa using hb)]
    show (decide (UInt8.ofNat a < UInt8.ofNat b) || ((UInt8.ofNat a == UInt8.ofNat b) && Op.bytesLess (u8s x) (u8s y))) = _
    rw [e1, e2, ih]; rfl
theorem u8s_inj : ∀ (x y : List Nat), (∀ a ∈ x, a < 256) → (∀ a ∈ y, a < 256) → u8s x = u8s y → x = y
  | [], [], _, _, _ => rfl
  | [], b :: y, _, _, h => by cases h
  | a :: x, [], _, _, h => by cases h
  | a :: x, b :: y, hx, hy, h => by
    have ha := hx a (List.mem_cons_self ..)
    have hb := hy b (List.mem_cons_self ..)
    have h' : UInt8.ofNat a :: u8s x = UInt8.ofNat b :: u8s y := h
    injection h' with h1 h2
    have e : a = b := by
      have q := congrArg UInt8.toNat h1
      rwa [UInt8.toNat_ofNat_of_lt' (by simpa using ha), UInt8.toNat_ofNat_of_lt' (by simpa using hb)] at q
    rw [e, u8s_inj x y (fun c hc => hx c (List.mem_cons_of_mem _ hc)) (fun c hc => hy c (List.mem_cons_of_mem _ hc)) h2]
theorem hi_mod (m x : Nat) : hi m (x % 256 ^ m) = hi m x := by
  have gen : ∀ k m, k ≤ m → hi k (x % 256 ^ m) = hi k x := by
    intro k
    induction k with
    | zero => intro m _; rfl
    | succ k ih =>
      intro m hm
      show (x % 256 ^ m / 256 ^ k % 256) :: hi k (x % 256 ^ m) = (x / 256 ^ k % 256) :: hi k x
      rw [ih m (by omega)]
      congr 1
      obtain ⟨d, rfl⟩ : ∃ d, m = k + (d + 1) := ⟨m - k - 1, by omega⟩
      rw [Nat.pow_add, Nat.mod_mul_right_div_self, Nat.pow_succ, Nat.mul_comm, Nat.mod_mul_right_mod]
  exact gen m m (Nat.le_refl _)
theorem less_hi : ∀ (m x y : Nat), x < 256 ^ m → y < 256 ^ m → lessN (hi m x) (hi m y) = decide (x < y)
  | 0, x, y, hx, hy => by
    simp at hx hy; subst hx; subst hy; rfl
  | m + 1, x, y, hx, hy => by
    have hp : 0 < 256 ^ m := Nat.pow_pos (by decide)
    rw [Nat.pow_succ] at hx hy
    have hxd : x / 256 ^ m < 256 := Nat.div_lt_of_lt_mul hx
    have hyd : y / 256 ^ m < 256 := Nat.div_lt_of_lt_mul hy
    show (decide (x / 256 ^ m % 256 < y / 256 ^ m % 256) || (decide (x / 256 ^ m % 256 = y / 256 ^ m % 256) && lessN (hi m x) (hi m y))) = _
    rw [Nat.mod_eq_of_lt hxd, Nat.mod_eq_of_lt hyd, ← hi_mod m x, ← hi_mod m y, less_hi m _ _ (Nat.mod_lt _ hp) (Nat.mod_lt _ hp)]
    have ex := Nat.div_add_mod x (256 ^ m)
    have ey := Nat.div_add_mod y (256 ^ m)
    have mx := Nat.mod_lt x hp
    have my := Nat.mod_lt y hp
    generalize x / 256 ^ m = a at *
    generalize y / 256 ^ m = b at *
    generalize x % 256 ^ m = c at *
    generalize y % 256 ^ m = d at *
    generalize 256 ^ m = p at *
    rcases Nat.lt_trichotomy a b with h | h | h
    · have q : p * a + p ≤ p * b := by rw [← Nat.mul_succ]; exact Nat.mul_le_mul_left _ h
      simp [h]; omega
    · subst h; simp; omega
    · have q : p * b + p ≤ p * a := by rw [← Nat.mul_succ]; exact Nat.mul_le_mul_left _ h
      have h1 : ¬ a < b := by omega
      have h2 : ¬ a = b := by omega
      simp [h1, h2]; omega
theorem many_lt (x : Nat) : x < 256 ^ many x := by
  induction x using Nat.strongRecOn with
  | ind x ih =>
    rw [many]
    split
    · simpa using by assumption
    · have q := ih (x / 256) (by omega)
      rw [Nat.add_comm, Nat.pow_succ]
      exact (Nat.div_lt_iff_lt_mul (by decide)).1 q
theorem many_ge (x : Nat) (h : 0 < x) : 256 ^ (many x - 1) ≤ x := by
  induction x using Nat.strongRecOn with
  | ind x ih =>
    rw [many]
    split
    · simpa using Nat.succ_le_of_lt h
    · have q := ih (x / 256) (by omega) (by omega)
      have p := many_pos (x / 256)
      obtain ⟨k, hk⟩ : ∃ k, many (x / 256) = k + 1 := ⟨many (x / 256) - 1, by omega⟩
      rw [hk] at q ⊢
      have e : 1 + (k + 1) - 1 = k + 1 := by omega
      rw [e, Nat.pow_succ]
      have q2 : 256 ^ k ≤ x / 256 := q
      exact (Nat.le_div_iff_mul_le (by decide)).1 q2
theorem hi_lt (m x : Nat) : ∀ b ∈ hi m x, b < 256 := by
  induction m with
  | zero => intro b hb; cases hb
  | succ m ih =>
    intro b hb
    rcases List.mem_cons.1 hb with rfl | h
    · exact Nat.mod_lt _ (by decide)
    · exact ih b h
theorem form_lt {x : Nat} (hx : x < 18446744073709551616) : ∀ b ∈ form x, b < 256 := by
  have hm := many_u64 hx
  intro b hb
  unfold form at hb
  split at hb
  · simp at hb; omega
  · rcases List.mem_cons.1 hb with rfl | h
    · omega
    · exact hi_lt _ _ b h
theorem lessN_irrefl : ∀ l : List Nat, lessN l l = false
  | [] => rfl
  | a :: l => by show (decide (a < a) || (decide (a = a) && lessN l l)) = false; rw [lessN_irrefl l]; simp
theorem less_form {x y : Nat} (hx : x < 18446744073709551616) (hy : y < 18446744073709551616) : lessN (form x) (form y) = decide (x < y) := by
  have hmx := many_pos x
  have hmy := many_pos y
  unfold form
  by_cases h1 : x ≤ 247 <;> by_cases h2 : y ≤ 247
  · rw [if_pos h1, if_pos h2]; simp [lessN]
  · rw [if_pos h1, if_neg h2]
    show (decide (x < 247 + many y) || _) = _
    have q : x < 247 + many y := by omega
    have q2 : x < y := by omega
    simp [q, q2]
  · rw [if_neg h1, if_pos h2]
    show (decide (247 + many x < y) || (decide (247 + many x = y) && _)) = _
    have q : ¬ 247 + many x < y := by omega
    have q1 : ¬ 247 + many x = y := by omega
    have q2 : ¬ x < y := by omega
    simp [q, q1, q2]
  · rw [if_neg h1, if_neg h2]
    show (decide (247 + many x < 247 + many y) || (decide (247 + many x = 247 + many y) && lessN (hi (many x) x) (hi (many y) y))) = _
    rcases Nat.lt_trichotomy (many x) (many y) with h | h | h
    · have q : 247 + many x < 247 + many y := by omega
      have a := many_lt x
      have b := many_ge y (by omega)
      have c : 256 ^ many x ≤ 256 ^ (many y - 1) := Nat.pow_le_pow_right (by decide) (by omega)
      have d : x < y := by omega
      simp [q, d]
    · have a := many_lt x
      have b := many_lt y
      rw [← h] at b ⊢
      rw [less_hi _ _ _ a b]; simp
    · have q : ¬ 247 + many x < 247 + many y := by omega
      have q1 : ¬ 247 + many x = 247 + many y := by omega
      have a := many_lt y
      have b := many_ge x (by omega)
      have c : 256 ^ many y ≤ 256 ^ (many x - 1) := Nat.pow_le_pow_right (by decide) (by omega)
      have d : ¬ x < y := by omega
      rw [decide_eq_false q, decide_eq_false q1, decide_eq_false d]; rfl
theorem form_inj {x y : Nat} (hx : x < 18446744073709551616) (hy : y < 18446744073709551616) (h : form x = form y) : x = y := by
  have a := less_form hx hy
  have b := less_form hy hx
  rw [h, lessN_irrefl] at a
  rw [h, lessN_irrefl] at b
  have a' := of_decide_eq_false a.symm
  have b' := of_decide_eq_false b.symm
  omega
theorem form_head {x y : Nat} (hx : x < 18446744073709551616) (hy : y < 18446744073709551616) (h : (form x).take 1 = (form y).take 1) : (form x).length = (form y).length := by
  have hmx := many_pos x
  have hmy := many_pos y
  revert h
  unfold form
  by_cases h1 : x ≤ 247 <;> by_cases h2 : y ≤ 247
  · rw [if_pos h1, if_pos h2]; intro _; rfl
  · rw [if_pos h1, if_neg h2]; intro h; simp at h; omega
  · rw [if_neg h1, if_pos h2]; intro h; simp at h; omega
  · rw [if_neg h1, if_neg h2]; intro h; simp at h; simp [hi_length]; omega
theorem form_prefix {x y n : Nat} (hx : x < 18446744073709551616) (hy : y < 18446744073709551616) (hn : n = min (form x).length (form y).length) : (form x).take n = (form y).take n ↔ x = y := by
  constructor
  · intro h
    have h1 := form_pos x
    have h2 := form_pos y
    have q : (form x).take 1 = (form y).take 1 := by
      have := congrArg (List.take 1) h
      rwa [List.take_take, List.take_take, Nat.min_eq_left (by omega)] at this
    have l := form_head hx hy q
    rw [List.take_of_length_le (by omega), List.take_of_length_le (by omega)] at h
    exact form_inj hx hy h
  · rintro rfl; rfl
end Go.Proofs.Ytalnipjaekpbhaa


namespace Go.Proofs.Ytalnipjaekpbhaa
open Go.ChangeShapes Go.WideShapes Go.ChangeAt Go.RowKit Go.Deep
set_option linter.unusedSimpArgs false
set_option linter.unusedVariables false

theorem hi_num : ∀ (n : Nat) (l : List Nat), l.length = n → (∀ x ∈ l, x < 256) → hi n (num l) = l
  | 0, l, hl, _ => by rw [List.eq_nil_of_length_eq_zero hl]; rfl
  | n + 1, [], hl, _ => by cases hl
  | n + 1, b :: l, hl, hx => by
    have hb := hx b (List.mem_cons_self ..)
    have hl' : l.length = n := by simpa using hl
    have hxl : ∀ x ∈ l, x < 256 := fun x h => hx x (List.mem_cons_of_mem _ h)
    have hlt := num_lt n l hl' hxl
    have e : num (b :: l) = b * 256 ^ n + num l := by
      have gen : ∀ (m : List Nat) (a : Nat), m.foldl (fun a b => 256 * a + b) a = a * 256 ^ m.length + m.foldl (fun a b => 256 * a + b) 0 := by
        intro m
        induction m with
        | nil => intro a; simp
        | cons c m ih =>
          intro a
          rw [List.foldl_cons, ih (256 * a + c), List.foldl_cons, ih (256 * 0 + c), List.length_cons, Nat.pow_succ, Nat.add_mul, Nat.mul_zero, Nat.zero_add]
          have : 256 * a * 256 ^ m.length = a * (256 ^ m.length * 256) := by rw [Nat.mul_comm 256 a, Nat.mul_assoc, Nat.mul_comm 256]
          omega
      show (b :: l).foldl (fun a b => 256 * a + b) 0 = _
      rw [List.foldl_cons, gen l, hl', Nat.mul_zero, Nat.zero_add]; rfl
    have hp : 0 < 256 ^ n := Nat.pow_pos (by decide)
    show (num (b :: l) / 256 ^ n % 256) :: hi n (num (b :: l)) = b :: l
    rw [← hi_mod n (num (b :: l)), e]
    have e1 : (b * 256 ^ n + num l) / 256 ^ n = b := by
      rw [Nat.add_comm, Nat.add_mul_div_right _ _ hp, Nat.div_eq_of_lt hlt, Nat.zero_add]
    have e2 : (b * 256 ^ n + num l) % 256 ^ n = num l := by
      rw [Nat.add_comm, Nat.add_mul_mod_self_right, Nat.mod_eq_of_lt hlt]
    rw [e1, e2, hi_num n l hl' hxl, Nat.mod_eq_of_lt hb]
set_option maxRecDepth 100000 in
theorem form_canon {f : Nat} {l : List Nat} (hf : 247 < f) (hl : l.length = f - 247) (hx : ∀ x ∈ l, x < 256) : (form (num l) = f :: l) ↔ (form (num l)).length = 1 + (f - 247) := by
  constructor
  · intro h; rw [h, List.length_cons]; omega
  · intro h
    have hm : ¬ num l ≤ 247 := by
      intro c
      unfold form at h
      rw [if_pos c] at h
      simp at h; omega
    unfold form at h ⊢
    rw [if_neg hm] at h ⊢
    rw [List.length_cons, hi_length] at h
    have e : many (num l) = f - 247 := by omega
    rw [e, hi_num _ _ hl hx]
    congr 1; omega
/-- the document's reader at h has the bytes ns, and has read a of them -/
structure DObj (w : World) (h : Nat) (ao : Option Addr) (cap : Nat) (ns : List Nat) (a : Nat) : Prop where
  lt : h < w.heap.size
  cells : ∀ o, w.cell? ⟨h, o, none⟩ = (#[Value.slice ao ns.length cap, Value.int .i64 (a : Int)] : Array Value)[o]?
  frz : ∀ o, w.frozen? ⟨h, o, none⟩ = false
  bytes : ns ≠ [] → ∃ b off, ao = some ⟨b, off, none⟩ ∧ b < w.heap.size ∧ b ≠ h ∧ ∀ j, j < ns.length → w.cell? ⟨b, off + j, none⟩ = some (.int .u8 (ns.getD j 0 : Int))
  small : ∀ x ∈ ns, x < 256
  le : a ≤ ns.length
  len : ns.length ≤ 1152921504606846976
  cap_le : ns.length ≤ cap
theorem DObj.below {w w' : World} {h : Nat} {ao : Option Addr} {cap : Nat} {ns : List Nat} {a : Nat} (k : DObj w h ao cap ns a) (hb : Below w.heap.size w w') : DObj w' h ao cap ns a :=
  ⟨Nat.lt_of_lt_of_le k.lt hb.size, fun o => (hb.cell (p := ⟨h, o, none⟩) k.lt).trans (k.cells o), fun o => (hb.frozen (p := ⟨h, o, none⟩) k.lt).trans (k.frz o), fun hn => by
    obtain ⟨b, off, h1, h2, h3, h4⟩ := k.bytes hn
    exact ⟨b, off, h1, Nat.lt_of_lt_of_le h2 hb.size, h3, fun j hj => (hb.cell (p := ⟨b, off + j, none⟩) h2).trans (h4 j hj)⟩, k.small, k.le, k.len, k.cap_le⟩
theorem DObj.move {w : World} {h : Nat} {ao : Option Addr} {cap : Nat} {ns : List Nat} {a a' : Nat} (k : DObj w h ao cap ns a) (hle : a' ≤ ns.length) : DObj (w.setCell ⟨h, 1, none⟩ (.int .i64 (a' : Int))) h ao cap ns a' := by
  refine ⟨by simpa using k.lt, ?_, fun o => by simp only [World.frozen?_setCell]; exact k.frz o, fun hn => ?_, k.small, hle, k.len, k.cap_le⟩
  · intro o
    rcases o with _ | _ | o
    · simp [go_sem, k.cells]
    · simp [go_sem, k.cells]
    · simp [go_sem, k.cells]
  · obtain ⟨b, off, h1, h2, h3, h4⟩ := k.bytes hn
    exact ⟨b, off, h1, by simpa using h2, h3, fun j hj => (World.cell?_of_block (Below.heap_setCell _ _ _ _ h3)).trans (h4 j hj)⟩

set_option maxRecDepth 100000 in
set_option maxHeartbeats 1000000 in
theorem dLeft_c (h cap : Nat) (ao : Option Addr) (ns : List Nat) (a : Nat) (w : World) (hD : DObj w h ao cap ns a) : Calls Try.prog 93 #[.pointer (some ⟨h, 0, none⟩)] w fun e w' => e = .returned (.int .i64 ((ns.length : Int) - (a : Int))) ∧ Below w.heap.size w w' := by
  obtain ⟨d1, d2, d3, _, _, d6, d7, _⟩ := hD
  go_enter Try.func93, Try.ntmps93
  go_wp2
  go_quiet (fail)
  go_wp2
  go_ret
  exact ⟨rfl, by (focus repeat' (first | (with_reducible exact Below.refl _ _) | (with_reducible assumption) | (with_reducible refine Below.alloc ?_ ?_ _) | (with_reducible refine Below.drew ?_) | (with_reducible refine bdrewN ?_ _) | (with_reducible refine Below.setCell ?_ ?_ _) | (first | (with_reducible exact Nat.le_refl _) | (with_reducible assumption) | omega | (simp; omega) | (simp; done))))⟩

set_option maxRecDepth 100000 in
set_option maxHeartbeats 1000000 in
theorem dNum_end (h cap : Nat) (ao : Option Addr) (ns : List Nat) (a : Nat) (w : World) (hD : DObj w h ao cap ns a) (hn : ns.length ≤ a) : Calls Try.prog 92 #[.pointer (some ⟨h, 0, none⟩)] w (fun e w' => e = .returned (.tuple #[.int .u64 (((0, 110, a) : Nat × Nat × Nat).1 : Int), .int .i64 (((0, 110, a) : Nat × Nat × Nat).2.1 : Int)]) ∧ Only h w w' ∧ DObj w' h ao cap ns ((0, 110, a) : Nat × Nat × Nat).2.2) := by
  have hx : (ns.length : Int) - (a : Int) < 1 := by omega
  have hD' := hide hD
  obtain ⟨d1, d2, d3, d4, d5, d6, d7, d8⟩ := hD
  have D4 := hide d4
  have D5 := hide d5
  clear d4 d5
  go_enter Try.func92, Try.ntmps92
  go_wp2_with fail
  refine (dLeft_c h cap _ ns a _ hD'.out).mono ?_
  rintro e w1 ⟨rfl, hb1⟩
  have HD1 := hide (hD'.out.below hb1)
  have HB1 := hide hb1
  clear hb1
  go_wp2
  go_ret2
  exact ⟨rfl, Only.of_below HB1.out, HD1.out⟩

set_option maxRecDepth 100000 in
set_option maxHeartbeats 2000000 in
theorem dNum_short (h cap : Nat) (ao : Option Addr) (ns : List Nat) (a : Nat) (w : World) (hD : DObj w h ao cap ns a) (hn : a < ns.length) (hs : ns.getD a 0 ≤ 247) : Calls Try.prog 92 #[.pointer (some ⟨h, 0, none⟩)] w (fun e w' => e = .returned (.tuple #[.int .u64 (((ns.getD a 0, 0, a + 1) : Nat × Nat × Nat).1 : Int), .int .i64 (((ns.getD a 0, 0, a + 1) : Nat × Nat × Nat).2.1 : Int)]) ∧ Only h w w' ∧ DObj w' h ao cap ns ((ns.getD a 0, 0, a + 1) : Nat × Nat × Nat).2.2) := by
  have hD' := hide hD
  obtain ⟨d1, d2, d3, d4, d5, d6, d7, d8⟩ := hD
  have D4 := hide d4
  have D5 := hide d5
  clear d4 d5
  obtain ⟨b, off, hao, hb, hbh, hbc⟩ := D4.out (by rintro rfl; simp at hn)
  subst hao
  have HBC := hide hbc
  have hx : ¬ ((ns.length : Int) - (a : Int) < 1) := by omega
  have hf256 := getD_lt D5.out a
  have fa : w.cell? ⟨b, off + a, none⟩ = some (.int .u8 (ns.getD a 0 : Int)) := hbc a hn
  clear hbc
  generalize hfe : ns.getD a 0 = f at *
  have HFE := hide hfe
  clear hfe
  have hs' : (f : Int) ≤ 247 := by omega
  go_enter Try.func92, Try.ntmps92
  go_wp2_with fail
  refine (dLeft_c h cap _ ns a _ hD'.out).mono ?_
  rintro e w1 ⟨rfl, hb1⟩
  have HD1 := hide (hD'.out.below hb1)
  have HB1 := hide hb1
  clear hb1
  obtain ⟨e1, e2, e3, _, _, _, _, _⟩ := HD1.out
  have fa1 : w1.cell? ⟨b, off + a, none⟩ = some (.int .u8 (f : Int)) := (HB1.out.cell (p := ⟨b, off + a, none⟩) hb).trans fa
  clear d2 d3 fa
  go_wp2
  go_quiet (fail)
  go_wp2
  go_ret2
  refine ⟨rfl, ?_, ?_⟩
  · exact (Only.of_below (HB1.out.trans (bdrewN (Below.refl _ _) _ |>.mono HB1.out.size))).set 1 _
  · have q := (HD1.out.below (bdrewN (Below.refl w1.heap.size w1) nq)).move (a' := a + 1) (by omega)
    exact q
end Go.Proofs.Ytalnipjaekpbhaa


namespace Go.Proofs.Ytalnipjaekpbhaa
open Go.ChangeShapes Go.WideShapes Go.ChangeAt Go.RowKit Go.Deep
set_option linter.unusedSimpArgs false
set_option linter.unusedVariables false

set_option maxRecDepth 100000 in
set_option maxHeartbeats 2000000 in
theorem dNum_cut (h cap : Nat) (ao : Option Addr) (ns : List Nat) (a : Nat) (w : World) (hD : DObj w h ao cap ns a) (hn : a < ns.length) (hs : 247 < ns.getD a 0) (hc : ns.length < a + 1 + (ns.getD a 0 - 247)) : Calls Try.prog 92 #[.pointer (some ⟨h, 0, none⟩)] w (fun e w' => e = .returned (.tuple #[.int .u64 (((0, 110, a) : Nat × Nat × Nat).1 : Int), .int .i64 (((0, 110, a) : Nat × Nat × Nat).2.1 : Int)]) ∧ Only h w w' ∧ DObj w' h ao cap ns ((0, 110, a) : Nat × Nat × Nat).2.2) := by
  have hD' := hide hD
  obtain ⟨d1, d2, d3, d4, d5, d6, d7, d8⟩ := hD
  have D4 := hide d4
  have D5 := hide d5
  clear d4 d5
  obtain ⟨b, off, hao, hb, hbh, hbc⟩ := D4.out (by rintro rfl; simp at hn)
  subst hao
  have HBC := hide hbc
  have hx : ¬ ((ns.length : Int) - (a : Int) < 1) := by omega
  have hf256 := getD_lt D5.out a
  have fa : w.cell? ⟨b, off + a, none⟩ = some (.int .u8 (ns.getD a 0 : Int)) := hbc a hn
  clear hbc
  generalize hfe : ns.getD a 0 = f at *
  have HFE := hide hfe
  clear hfe
  have hq : (ns.length : Int) - (a : Int) < 1 + ((f - 247 : Nat) : Int) := by omega
  have hf1 : ¬ (f : Int) ≤ 247 := by omega
  have hf3 : (f : Int) - 247 = ((f - 247 : Nat) : Int) := by omega
  have HF3 := hide hf3
  clear hf3
  go_enter Try.func92, Try.ntmps92
  go_wp2_with fail
  refine (dLeft_c h cap _ ns a _ hD'.out).mono ?_
  rintro e w1 ⟨rfl, hb1⟩
  have HD1 := hide (hD'.out.below hb1)
  have HB1 := hide hb1
  clear hb1
  obtain ⟨e1, e2, e3, _, _, _, _, _⟩ := HD1.out
  have fa1 : w1.cell? ⟨b, off + a, none⟩ = some (.int .u8 (f : Int)) := (HB1.out.cell (p := ⟨b, off + a, none⟩) hb).trans fa
  clear d2 d3 fa
  go_wp2
  go_quiet (fail)
  have hb1d : Below w.heap.size w (w1.drewN nq) := bdrewN HB1.out nq
  have HD1d := hide (HD1.out.below (bdrewN (Below.refl w1.heap.size w1) nq))
  have HB1d := hide hb1d
  clear hb1d
  go_wp2_with fail
  rw [HF3.out]
  refine (dLeft_c h cap _ ns a _ HD1d.out).mono ?_
  rintro e w2 ⟨rfl, hb2⟩
  have HB2 := hide (bstep HB1d.out hb2)
  have HD2 := hide (HD1d.out.below hb2)
  clear hb2 HB1d HD1d HD1 HB1 e1 e2 e3 fa1
  go_wp2
  go_ret2
  exact ⟨rfl, Only.of_below HB2.out, HD2.out⟩

set_option maxRecDepth 100000 in
set_option maxHeartbeats 4000000 in
theorem dNum_ok (h cap : Nat) (ao : Option Addr) (ns : List Nat) (a : Nat) (w : World) (hD : DObj w h ao cap ns a) (hn : a < ns.length) (hs : 247 < ns.getD a 0) (hc : a + 1 + (ns.getD a 0 - 247) ≤ ns.length) (hs2 : (form (num ((ns.drop (a + 1)).take (ns.getD a 0 - 247)))).length = 1 + (ns.getD a 0 - 247)) : Calls Try.prog 92 #[.pointer (some ⟨h, 0, none⟩)] w (fun e w' => e = .returned (.tuple #[.int .u64 (((num ((ns.drop (a + 1)).take (ns.getD a 0 - 247)), 0, a + 1 + (ns.getD a 0 - 247)) : Nat × Nat × Nat).1 : Int), .int .i64 (((num ((ns.drop (a + 1)).take (ns.getD a 0 - 247)), 0, a + 1 + (ns.getD a 0 - 247)) : Nat × Nat × Nat).2.1 : Int)]) ∧ Only h w w' ∧ DObj w' h ao cap ns ((num ((ns.drop (a + 1)).take (ns.getD a 0 - 247)), 0, a + 1 + (ns.getD a 0 - 247)) : Nat × Nat × Nat).2.2) := by
  have HS2 := hide hs2
  clear hs2
  have hD' := hide hD
  obtain ⟨d1, d2, d3, d4, d5, d6, d7, d8⟩ := hD
  have D4 := hide d4
  have D5 := hide d5
  clear d4 d5
  obtain ⟨b, off, hao, hb, hbh, hbc⟩ := D4.out (by rintro rfl; simp at hn)
  subst hao
  have HBC := hide hbc
  have hx : ¬ ((ns.length : Int) - (a : Int) < 1) := by omega
  have hf256 := getD_lt D5.out a
  have fa : w.cell? ⟨b, off + a, none⟩ = some (.int .u8 (ns.getD a 0 : Int)) := hbc a hn
  clear hbc
  generalize hfe : ns.getD a 0 = f at *
  have HFE := hide hfe
  clear hfe
  have hq : ¬ (ns.length : Int) - (a : Int) < 1 + ((f - 247 : Nat) : Int) := by omega
  have hf1 : ¬ (f : Int) ≤ 247 := by omega
  have hf3 : (f : Int) - 247 = ((f - 247 : Nat) : Int) := by omega
  have HF3 := hide hf3
  clear hf3
  go_enter Try.func92, Try.ntmps92
  go_wp2_with fail
  refine (dLeft_c h cap _ ns a _ hD'.out).mono ?_
  rintro e w1 ⟨rfl, hb1⟩
  have HD1 := hide (hD'.out.below hb1)
  have HB1 := hide hb1
  clear hb1
  obtain ⟨e1, e2, e3, _, _, _, _, _⟩ := HD1.out
  have fa1 : w1.cell? ⟨b, off + a, none⟩ = some (.int .u8 (f : Int)) := (HB1.out.cell (p := ⟨b, off + a, none⟩) hb).trans fa
  clear d2 d3 fa
  go_wp2
  go_quiet (fail)
  have hb1d : Below w.heap.size w (w1.drewN nq) := bdrewN HB1.out nq
  have HD1d := hide (HD1.out.below (bdrewN (Below.refl w1.heap.size w1) nq))
  have HB1d := hide hb1d
  clear hb1d
  go_wp2_with fail
  rw [HF3.out]
  refine (dLeft_c h cap _ ns a _ HD1d.out).mono ?_
  rintro e w2 ⟨rfl, hb2⟩
  have HB2 := hide (bstep HB1d.out hb2)
  have HD2 := hide (HD1d.out.below hb2)
  clear hb2 HB1d HD1d HD1 HB1 e1 e2 e3 fa1
  generalize hm : f - 247 = m at *
  have hm8 : m ≤ 8 := by omega
  have hm1 : 1 ≤ m := by omega
  have ham : a + 1 + m ≤ ns.length := by omega
  have hfm : f = 247 + m := by omega
  have HM := hide hm
  clear hm hf1 hq
  obtain ⟨e1, e2, e3, _, _, _, _, e8⟩ := HD2.out
  have BC2 := hide (show ∀ j, j < ns.length → w2.cell? ⟨b, off + j, none⟩ = some (.int .u8 (ns.getD j 0 : Int)) from fun j hj => (HB2.out.cell (p := ⟨b, off + j, none⟩) hb).trans (HBC.out j hj))
  have hb2z : b < w2.heap.size := Nat.lt_of_lt_of_le hb HB2.out.size
  go_wp2_with fail
  go_loopw [6, 7] (fun v6 v7 wr => ∃ j : Nat, j ≤ m ∧ v6 = .int .u64 (num ((ns.drop (a + 1)).take j) : Int) ∧ v7 = .int .i64 ((j : Int) + 1) ∧ Below w2.heap.size w2 wr) (fun _ v7 _ => m + 1 - (intOf v7).toNat)
  case atStart => exact ⟨0, Nat.zero_le _, rfl, rfl, by (focus repeat' (first | (with_reducible exact Below.refl _ _) | (with_reducible assumption) | (with_reducible refine Below.alloc ?_ ?_ _) | (with_reducible refine Below.drew ?_) | (with_reducible refine bdrewN ?_ _) | (with_reducible refine Below.setCell ?_ ?_ _) | (first | (with_reducible exact Nat.le_refl _) | (with_reducible assumption) | omega | (simp; omega) | (simp; done))))⟩
  case round =>
    obtain ⟨j, hj, rfl, rfl, rB⟩ := hrel
    have f1 : ∀ o, wr.cell? ⟨h, o, none⟩ = (#[Value.slice (some ⟨b, off, none⟩) ns.length cap, Value.int .i64 (a : Int)] : Array Value)[o]? := fun o => (rB.cell (p := ⟨h, o, none⟩) e1).trans (e2 o)
    have f2 : ∀ o, wr.frozen? ⟨h, o, none⟩ = false := fun o => (rB.frozen (p := ⟨h, o, none⟩) e1).trans (e3 o)
    have hzr : w2.heap.size ≤ wr.heap.size := rB.size
    have hh : h < wr.heap.size := by omega
    by_cases hlt : j < m
    · have hle : (j : Int) + 1 ≤ (m : Int) := by omega
      have c1 : wr.cell? ⟨b, off + (a + (j + 1)), none⟩ = some (.int .u8 (ns.getD (a + (j + 1)) 0 : Int)) := (rB.cell (p := ⟨b, off + (a + (j + 1)), none⟩) hb2z).trans (BC2.out (a + (j + 1)) (by omega))
      have hy : ns.getD (a + (j + 1)) 0 < 256 := getD_lt D5.out _
      have hnx := hide (show num ((ns.drop (a + 1)).take (j + 1)) = 256 * num ((ns.drop (a + 1)).take j) + ns.getD (a + (j + 1)) 0 from by
        rw [← num_app]
        congr 1
        rw [List.take_add_one]
        congr 1
        rw [show a + (j + 1) = a + 1 + j from by omega]
        simp [List.getD, show a + 1 + j < ns.length by omega])
      have hX : num ((ns.drop (a + 1)).take j) < 72057594037927936 := by
        have q := num_lt j ((ns.drop (a + 1)).take j) (by rw [List.length_take, List.length_drop]; omega) (fun x hx => D5.out x (List.mem_of_mem_drop (List.mem_of_mem_take hx)))
        have p : 256 ^ j ≤ 256 ^ 7 := Nat.pow_le_pow_right (by decide) (by omega)
        have p7 : (256 : Nat) ^ 7 = 72057594037927936 := by decide
        omega
      have hw1 : IntKind.i64.wrap ((a : Int) + ((j : Int) + 1)) = ((a + (j + 1) : Nat) : Int) := by (simp [IntKind.wrap, IntKind.bits, IntKind.signed]; omega)
      have hix : a + (j + 1) < ns.length := by omega
      generalize num ((ns.drop (a + 1)).take j) = X at *
      generalize ns.getD (a + (j + 1)) 0 = y at *
      generalize hk : a + (j + 1) = k at *
      have HK := hide hk
      clear hk
      go_wp2_with fail
      go_quiet (fail)
      go_wp2
      go_roundw
      case rel => exact ⟨j + 1, by omega, by rw [hnx.out]; first | rfl | go_num, by go_num, by (focus repeat' (first | (with_reducible exact Below.refl _ _) | (with_reducible assumption) | (with_reducible refine Below.alloc ?_ ?_ _) | (with_reducible refine Below.drew ?_) | (with_reducible refine bdrewN ?_ _) | (with_reducible refine Below.setCell ?_ ?_ _) | (first | (with_reducible exact Nat.le_refl _) | (with_reducible assumption) | omega | (simp; omega) | (simp; done))))⟩
      case measure => (first | (simp [intOf]; done) | (simp [intOf]; omega))
    · obtain rfl : j = m := by omega
      have hle : ¬ (j : Int) + 1 ≤ (j : Int) := by omega
      obtain ⟨E, hE⟩ : ∃ E, a + 1 + j = E := ⟨_, rfl⟩
      have hw0 : IntKind.i64.wrap ((a : Int) + 1) = (a : Int) + 1 := by (simp [IntKind.wrap, IntKind.bits, IntKind.signed]; omega)
      have hw1 : IntKind.i64.wrap ((a : Int) + 1 + (j : Int)) = (E : Int) := by (simp [IntKind.wrap, IntKind.bits, IntKind.signed]; omega)
      have hw2 : E ≤ cap := by omega
      have hw3 : a ≤ E := by omega
      have hw4 : 1 + j = E - a := by omega
      have hca : ¬ cap = a := by omega
      have hrlen : ((ns.drop a).take (1 + j)).length = 1 + j := by (rw [List.length_take, List.length_drop]; omega)
      have hrow : (ns.drop a).take (1 + j) = f :: (ns.drop (a + 1)).take j := by
        rw [List.drop_eq_getElem_cons hn, Nat.add_comm 1 j, List.take_succ_cons]
        congr 1
        rw [← HFE.out]; simp [List.getD, hn]
      have CVW := hide (show ∀ w', Below wr.heap.size wr w' → Sem.run Try.prog (convert 30 9 (.slice (some ⟨b, off + a, none⟩) (E - a) (cap - a))) w' = .ok (.string (bstr (f :: (ns.drop (a + 1)).take j))) w' from fun w' hb' => by
        have q := conv28 w' b (off + a) (cap - a) ((ns.drop a).take (1 + j)) (fun i hi => by
          rw [hrlen] at hi
          have q := (hb'.cell (p := ⟨b, off + (a + i), none⟩) (show b < wr.heap.size by omega)).trans ((rB.cell (p := ⟨b, off + (a + i), none⟩) hb2z).trans (BC2.out (a + i) (by omega)))
          rw [← Nat.add_assoc] at q
          rw [q]
          simp [List.getD, hi, show a + i < ns.length by omega])
        rw [hrlen, hrow, hw4] at q
        exact q)
      have CV1 := CVW.out wr.drew (drewB _)
      have hH0 : Below wr.heap.size wr wr.drew ∧ (∀ o, wr.drew.cell? ⟨h, o, none⟩ = (#[Value.slice (some ⟨b, off, none⟩) ns.length cap, Value.int .i64 (a : Int)] : Array Value)[o]?) ∧ Sem.run Try.prog (convert 30 9 (.slice (some ⟨b, off + a, none⟩) (E - a) (cap - a))) wr.drew = .ok (.string (bstr (f :: (ns.drop (a + 1)).take j))) wr.drew := ⟨drewB _, fun o => by rw [World.cell?_drew]; exact f1 o, CV1⟩
      have HE := hide hE
      have HW4 := hide hw4
      clear hrow hrlen hE hw4
      have hX64 : num ((ns.drop (a + 1)).take j) < 18446744073709551616 := by
        have q := num_lt j ((ns.drop (a + 1)).take j) (by rw [List.length_take, List.length_drop]; omega) (fun x hx => D5.out x (List.mem_of_mem_drop (List.mem_of_mem_take hx)))
        have p : 256 ^ j ≤ 256 ^ 8 := Nat.pow_le_pow_right (by decide) (by omega)
        have p8 : (256 : Nat) ^ 8 = 18446744073709551616 := by decide
        omega
      have hlt256 : ∀ x ∈ (ns.drop (a + 1)).take j, x < 256 := fun x hx => D5.out x (List.mem_of_mem_drop (List.mem_of_mem_take hx))
      have hEq : ((bstr (form (num ((ns.drop (a + 1)).take j)))).toList == (bstr (f :: (ns.drop (a + 1)).take j)).toList) = true := by
        rw [bstr_list, bstr_list]
        have hcan := form_canon (f := f) (l := (ns.drop (a + 1)).take j) (by omega) (by rw [List.length_take, List.length_drop]; omega) hlt256
        have hs2 := HS2.out
        rw [HM.out] at hcan
        rw [hcan.2 hs2]; simp
      clear hlt256
      generalize hbs : bstr (f :: (ns.drop (a + 1)).take j) = SB at *
      generalize hxx : num ((ns.drop (a + 1)).take j) = X at *
      have HBS := hide hbs
      have HXX := hide hxx
      clear hbs hxx CV1
      go_wp2_with fail
      refine wp_region_held_drew (S := fun wq => Below wr.heap.size wr wq ∧ (∀ o, wq.cell? ⟨h, o, none⟩ = (#[Value.slice (some ⟨b, off, none⟩) ns.length cap, Value.int .i64 (a : Int)] : Array Value)[o]?) ∧ Sem.run Try.prog (convert 30 9 (.slice (some ⟨b, off + a, none⟩) (E - a) (cap - a))) wq = .ok (.string SB) wq) (by kernel_rfl) hH0 (fun _ => ?_)
      refine wpAnyH_take (i := 0) (oi := ?oi0) (v := ?v0) ?ho0 (by kernel_rfl) (by kernel_rfl) (by kernel_rfl) ?hp0 ?hy0 hH0 ?hr0
      case ho0 => (simp only [List.getElem?_toArray, List.getElem?_cons_succ, List.getElem?_cons_zero]; exact rfl)
      case hp0 => exact fun _ _ _ h => h
      case hy0 => (refine Or.inl ⟨by rfl, ?_⟩; intro w hSw; (try dsimp only at hSw); go_simp; (try (with_reducible rfl)))
      case hr0 =>
      (try simp only [Act.put, List.setIfInBounds_toArray, List.set_cons_zero, List.set_cons_succ])
      refine wpAnyH_take (i := 3) (oi := ?oi3) (v := ?v3) ?ho3 (by kernel_rfl) (by kernel_rfl) (by kernel_rfl) ?hp3 ?hy3 hH0 ?hr3
      case ho3 => (simp only [List.getElem?_toArray, List.getElem?_cons_succ, List.getElem?_cons_zero]; exact rfl)
      case hp3 => exact fun _ _ _ h => h
      case hy3 => (refine Or.inl ⟨by rfl, ?_⟩; intro w hSw; (try dsimp only at hSw); go_simp; (try (with_reducible rfl)))
      case hr3 =>
      (try simp only [Act.put, List.setIfInBounds_toArray, List.set_cons_zero, List.set_cons_succ])
      refine wpAnyH_take (i := 4) (oi := ?oi4) (v := ?v4) ?ho4 (by kernel_rfl) (by kernel_rfl) (by kernel_rfl) ?hp4 ?hy4 hH0 ?hr4
      case ho4 => (simp only [List.getElem?_toArray, List.getElem?_cons_succ, List.getElem?_cons_zero]; exact rfl)
      case hp4 => exact fun _ _ _ h => h
      case hy4 => (refine Or.inl ⟨by rfl, ?_⟩; intro w hSw; (try dsimp only at hSw); go_simp; (try (with_reducible rfl)))
      case hr4 =>
      (try simp only [Act.put, List.setIfInBounds_toArray, List.set_cons_zero, List.set_cons_succ])
      refine wpAnyH_take (i := 5) (oi := ?oi5) (v := ?v5) ?ho5 (by kernel_rfl) (by kernel_rfl) (by kernel_rfl) ?hp5 ?hy5 hH0 ?hr5
      case ho5 => (simp only [List.getElem?_toArray, List.getElem?_cons_succ, List.getElem?_cons_zero]; exact rfl)
      case hp5 => exact fun _ _ _ h => h
      case hy5 => (refine Or.inl ⟨by rfl, ?_⟩; intro w hSw; (try dsimp only at hSw); go_simp; (try (with_reducible rfl)))
      case hr5 =>
      (try simp only [Act.put, List.setIfInBounds_toArray, List.set_cons_zero, List.set_cons_succ])
      refine wpAnyH_take (i := 6) (oi := ?oi6) (v := ?v6) ?ho6 (by kernel_rfl) (by kernel_rfl) (by kernel_rfl) ?hp6 ?hy6 hH0 ?hr6
      case ho6 => (simp only [List.getElem?_toArray, List.getElem?_cons_succ, List.getElem?_cons_zero]; exact rfl)
      case hp6 => exact fun _ _ _ h => h
      case hy6 => (refine Or.inl ⟨by rfl, ?_⟩; intro w hSw; (try dsimp only at hSw); go_simp; (try (with_reducible rfl)))
      case hr6 =>
      (try simp only [Act.put, List.setIfInBounds_toArray, List.set_cons_zero, List.set_cons_succ])
      refine wpAnyH_take (i := 7) (oi := ?oi7) (v := ?v7) ?ho7 (by kernel_rfl) (by kernel_rfl) (by kernel_rfl) ?hp7 ?hy7 hH0 ?hr7
      case ho7 => (simp only [List.getElem?_toArray, List.getElem?_cons_succ, List.getElem?_cons_zero]; exact rfl)
      case hp7 => exact fun _ _ _ h => h
      case hy7 => (refine Or.inl ⟨by rfl, ?_⟩; intro w hSw; (try dsimp only at hSw); go_simp; (try (with_reducible rfl)))
      case hr7 =>
      (try simp only [Act.put, List.setIfInBounds_toArray, List.set_cons_zero, List.set_cons_succ])
      refine wpAnyH_take (i := 8) (oi := ?oi8) (v := ?v8) ?ho8 (by kernel_rfl) (by kernel_rfl) (by kernel_rfl) ?hp8 ?hy8 hH0 ?hr8
      case ho8 => (simp only [List.getElem?_toArray, List.getElem?_cons_succ, List.getElem?_cons_zero]; exact rfl)
      case hp8 => exact fun _ _ _ h => h
      case hy8 => (refine Or.inl ⟨by rfl, ?_⟩; intro w hSw; (try dsimp only at hSw); go_simp; (try (with_reducible rfl)))
      case hr8 =>
      (try simp only [Act.put, List.setIfInBounds_toArray, List.set_cons_zero, List.set_cons_succ])
      refine wpAnyH_take (i := 9) (oi := ?oi9) (v := ?v9) ?ho9 (by kernel_rfl) (by kernel_rfl) (by kernel_rfl) ?hp9 ?hy9 hH0 ?hr9
      case ho9 => (simp only [List.getElem?_toArray, List.getElem?_cons_succ, List.getElem?_cons_zero]; exact rfl)
      case hp9 => exact fun _ _ _ h => h
      case hy9 => (refine Or.inl ⟨by rfl, ?_⟩; intro w hSw; (try dsimp only at hSw); go_simp; (try (with_reducible rfl)))
      case hr9 =>
      (try simp only [Act.put, List.setIfInBounds_toArray, List.set_cons_zero, List.set_cons_succ])
      refine wpAnyH_take (i := 10) (oi := ?oi10) (v := ?v10) ?ho10 (by kernel_rfl) (by kernel_rfl) (by kernel_rfl) ?hp10 ?hy10 hH0 ?hr10
      case ho10 => (simp only [List.getElem?_toArray, List.getElem?_cons_succ, List.getElem?_cons_zero]; exact rfl)
      case hp10 => exact fun _ _ _ h => h
      case hy10 => (refine Or.inl ⟨by rfl, ?_⟩; intro w hSw; (try dsimp only at hSw); go_simp; (try (with_reducible rfl)))
      case hr10 =>
      (try simp only [Act.put, List.setIfInBounds_toArray, List.set_cons_zero, List.set_cons_succ])
      refine wpAnyH_take (i := 11) (oi := ?oi11) (v := ?v11) ?ho11 (by kernel_rfl) (by kernel_rfl) (by kernel_rfl) ?hp11 ?hy11 hH0 ?hr11
      case ho11 => (simp only [List.getElem?_toArray, List.getElem?_cons_succ, List.getElem?_cons_zero]; exact rfl)
      case hp11 => exact fun _ _ _ h => h
      case hy11 => (refine Or.inl ⟨by rfl, ?_⟩; intro w hSw; (try dsimp only at hSw); go_simp; (try (with_reducible rfl)))
      case hr11 =>
      (try simp only [Act.put, List.setIfInBounds_toArray, List.set_cons_zero, List.set_cons_succ])
      refine wpAnyH_take (i := 12) (oi := ?oi12) (v := ?v12) ?ho12 (by kernel_rfl) (by kernel_rfl) (by kernel_rfl) ?hp12 ?hy12 hH0 ?hr12
      case ho12 => (simp only [List.getElem?_toArray, List.getElem?_cons_succ, List.getElem?_cons_zero]; exact rfl)
      case hp12 => exact fun _ _ _ h => h
      case hy12 => (refine Or.inl ⟨by rfl, ?_⟩; intro w hSw; (try dsimp only at hSw); go_simp; (try (with_reducible rfl)))
      case hr12 =>
      (try simp only [Act.put, List.setIfInBounds_toArray, List.set_cons_zero, List.set_cons_succ])
      refine wpAnyH_take (i := 13) (oi := ?oi13) (v := ?v13) ?ho13 (by kernel_rfl) (by kernel_rfl) (by kernel_rfl) ?hp13 ?hy13 hH0 ?hr13
      case ho13 => (simp only [List.getElem?_toArray, List.getElem?_cons_succ, List.getElem?_cons_zero]; exact rfl)
      case hp13 => exact fun _ _ _ h => h
      case hy13 => (refine Or.inl ⟨by rfl, ?_⟩; intro w hSw; (try dsimp only at hSw); go_simp; (try (with_reducible rfl)))
      case hr13 =>
      (try simp only [Act.put, List.setIfInBounds_toArray, List.set_cons_zero, List.set_cons_succ])
      refine wpAnyH_take (i := 14) (oi := ?oi14) (v := ?v14) ?ho14 (by kernel_rfl) (by kernel_rfl) (by kernel_rfl) ?hp14 ?hy14 hH0 ?hr14
      case ho14 => (simp only [List.getElem?_toArray, List.getElem?_cons_succ, List.getElem?_cons_zero]; exact rfl)
      case hp14 => exact fun _ _ _ h => h
      case hy14 => (refine Or.inl ⟨by rfl, ?_⟩; intro w hSw; (try dsimp only at hSw); go_simp; (try (with_reducible rfl)))
      case hr14 =>
      (try simp only [Act.put, List.setIfInBounds_toArray, List.set_cons_zero, List.set_cons_succ])
      refine wpAnyH_take (i := 15) (oi := ?oi15) (v := ?v15) ?ho15 (by kernel_rfl) (by kernel_rfl) (by kernel_rfl) ?hp15 ?hy15 hH0 ?hr15
      case ho15 => (simp only [List.getElem?_toArray, List.getElem?_cons_succ, List.getElem?_cons_zero]; exact rfl)
      case hp15 => exact fun _ _ _ h => h
      case hy15 => (refine Or.inl ⟨by rfl, ?_⟩; intro w hSw; (try dsimp only at hSw); go_simp; (try (with_reducible rfl)))
      case hr15 =>
      (try simp only [Act.put, List.setIfInBounds_toArray, List.set_cons_zero, List.set_cons_succ])
      refine wpAnyH_take (i := 16) (oi := ?oi16) (v := ?v16) ?ho16 (by kernel_rfl) (by kernel_rfl) (by kernel_rfl) ?hp16 ?hy16 hH0 ?hr16
      case ho16 => (simp only [List.getElem?_toArray, List.getElem?_cons_succ, List.getElem?_cons_zero]; exact rfl)
      case hp16 => exact fun _ _ _ h => h
      case hy16 => (refine Or.inl ⟨by rfl, ?_⟩; intro w hSw; (try dsimp only at hSw); go_simp; (try (with_reducible rfl)))
      case hr16 =>
      (try simp only [Act.put, List.setIfInBounds_toArray, List.set_cons_zero, List.set_cons_succ])
      refine wpAnyH_take (i := 17) (oi := ?oi17) (v := ?v17) ?ho17 (by kernel_rfl) (by kernel_rfl) (by kernel_rfl) ?hp17 ?hy17 hH0 ?hr17
      case ho17 => (simp only [List.getElem?_toArray, List.getElem?_cons_succ, List.getElem?_cons_zero]; exact rfl)
      case hp17 => exact fun _ _ _ h => h
      case hy17 => (refine Or.inl ⟨by rfl, ?_⟩; intro w hSw; (try dsimp only at hSw); go_simp; (try (with_reducible rfl)))
      case hr17 =>
      (try simp only [Act.put, List.setIfInBounds_toArray, List.set_cons_zero, List.set_cons_succ])
      refine wpAnyH_take (i := 18) (oi := ?oi18) (v := ?v18) ?ho18 (by kernel_rfl) (by kernel_rfl) (by kernel_rfl) ?hp18 ?hy18 hH0 ?hr18
      case ho18 => (simp only [List.getElem?_toArray, List.getElem?_cons_succ, List.getElem?_cons_zero]; exact rfl)
      case hp18 => exact fun _ _ _ h => h
      case hy18 => (refine Or.inl ⟨by rfl, ?_⟩; intro w hSw; (try dsimp only at hSw); go_simp; (try (with_reducible rfl)))
      case hr18 =>
      (try simp only [Act.put, List.setIfInBounds_toArray, List.set_cons_zero, List.set_cons_succ])
      refine wpAnyH_take (i := 19) (oi := ?oi19) (v := ?v19) ?ho19 (by kernel_rfl) (by kernel_rfl) (by kernel_rfl) ?hp19 ?hy19 hH0 ?hr19
      case ho19 => (simp only [List.getElem?_toArray, List.getElem?_cons_succ, List.getElem?_cons_zero]; exact rfl)
      case hp19 => exact fun _ _ _ h => h
      case hy19 => (refine Or.inl ⟨by rfl, ?_⟩; intro w hSw; (try dsimp only at hSw); go_simp; (try (with_reducible rfl)))
      case hr19 =>
      (try simp only [Act.put, List.setIfInBounds_toArray, List.set_cons_zero, List.set_cons_succ])
      refine wpAnyH_ready (rs := [1]) (by kernel_rfl) (by simp) (AllReadyH.cons (o := ?oi1) ?ho1 (fun K hK => ?hr1) AllReadyH.nil)
      case ho1 => (simp only [List.getElem?_toArray, List.getElem?_cons_succ, List.getElem?_cons_zero]; exact rfl)
      case hr1 =>
      go_simp
      refine Calls.mono (refNum_c X _ hX64) ?_
      rintro e w5 ⟨g5, cap5, rfl, own5, hb5⟩
      have HB5 : Below wr.heap.size wr w5 := bstep (drewB _) hb5
      have CA5 := hide (fun (w' : World) (hb : Below w5.heap.size w5 w') => conv28 w' g5 0 cap5 (form X) (own_conv (own_same own5 (fun k _ hlt => hb.block k hlt)) (form_pos X)))
      (try go_wp2_with fail)
      refine hK.out _ _ ?_ (fun hH1 => ?_)
      · exact ⟨HB5, fun o => (HB5.cell (p := ⟨h, o, none⟩) hh).trans (f1 o), CVW.out _ HB5⟩
      clear hK K own5 hb5 hH0
      (try simp only [Act.put, List.setIfInBounds_toArray, List.set_cons_zero, List.set_cons_succ])
      refine wpAnyH_mono (S2 := fun wq => (Below wr.heap.size wr wq ∧ (∀ o, wq.cell? ⟨h, o, none⟩ = (#[Value.slice (some ⟨b, off, none⟩) ns.length cap, Value.int .i64 (a : Int)] : Array Value)[o]?) ∧ Sem.run Try.prog (convert 30 9 (.slice (some ⟨b, off + a, none⟩) (E - a) (cap - a))) wq = .ok (.string SB) wq) ∧ Sem.run Try.prog (convert 30 9 (.slice (some ⟨g5, 0, none⟩) (form X).length cap5)) wq = .ok (.string (bstr (form X))) wq) (fun w h => h.1) _ _ _ _ ?_
      have hH2 := And.intro hH1 (CA5.out _ (Below.refl _ _))
      refine wpAnyH_take (i := 2) (oi := ?oi2) (v := ?v2) ?ho2 (by kernel_rfl) (by kernel_rfl) (by kernel_rfl) ?hp2 ?hy2 hH2 ?hr2
      case ho2 => (simp only [List.getElem?_toArray, List.getElem?_cons_succ, List.getElem?_cons_zero]; exact rfl)
      case hp2 => exact fun _ _ _ h => h
      case hy2 => (refine Or.inl ⟨by rfl, ?_⟩; intro w hSw; (try dsimp only at hSw); go_simp; (try (with_reducible rfl)))
      case hr2 =>
      (try simp only [Act.put, List.setIfInBounds_toArray, List.set_cons_zero, List.set_cons_succ])
      refine wpAnyH_take (i := 20) (oi := ?oi20) (v := ?v20) ?ho20 (by kernel_rfl) (by kernel_rfl) (by kernel_rfl) ?hp20 ?hy20 hH2 ?hr20
      case ho20 => (simp only [List.getElem?_toArray, List.getElem?_cons_succ, List.getElem?_cons_zero]; exact rfl)
      case hp20 => exact fun _ _ _ h => h
      case hy20 => (refine Or.inl ⟨by rfl, ?_⟩; intro w hSw; (try dsimp only at hSw); go_simp; (try (with_reducible rfl)))
      case hr20 =>
      (try simp only [Act.put, List.setIfInBounds_toArray, List.set_cons_zero, List.set_cons_succ])
      refine wpAnyH_done (by kernel_rfl) ?_ _
      have hD5 := HD2.out.below (rB.trans (HB5.mono hzr))
      have HD5 := hide hD5
      have HB6 := hide (bstep (bstep HB2.out rB) HB5)
      obtain ⟨k1, k2, k3, _, _, _, _, _⟩ := hD5
      clear f1 f2 hH1 hH2 e1 e2 e3 rB HB5
      go_wp2
      go_ret2
      refine ⟨?_, (Only.of_below HB6.out).set 1 _, ?_⟩
      · rw [HM.out, HXX.out]; rfl
      · rw [HM.out, HE.out]; exact HD5.out.move (by have := HE.out; omega)

set_option maxRecDepth 100000 in
set_option maxHeartbeats 4000000 in
theorem dNum_form (h cap : Nat) (ao : Option Addr) (ns : List Nat) (a : Nat) (w : World) (hD : DObj w h ao cap ns a) (hn : a < ns.length) (hs : 247 < ns.getD a 0) (hc : a + 1 + (ns.getD a 0 - 247) ≤ ns.length) (hs2 : (form (num ((ns.drop (a + 1)).take (ns.getD a 0 - 247)))).length ≠ 1 + (ns.getD a 0 - 247)) : Calls Try.prog 92 #[.pointer (some ⟨h, 0, none⟩)] w (fun e w' => e = .returned (.tuple #[.int .u64 (((0, 111, a) : Nat × Nat × Nat).1 : Int), .int .i64 (((0, 111, a) : Nat × Nat × Nat).2.1 : Int)]) ∧ Only h w w' ∧ DObj w' h ao cap ns ((0, 111, a) : Nat × Nat × Nat).2.2) := by
  have HS2 := hide hs2
  clear hs2
  have hD' := hide hD
  obtain ⟨d1, d2, d3, d4, d5, d6, d7, d8⟩ := hD
  have D4 := hide d4
  have D5 := hide d5
  clear d4 d5
  obtain ⟨b, off, hao, hb, hbh, hbc⟩ := D4.out (by rintro rfl; simp at hn)
  subst hao
  have HBC := hide hbc
  have hx : ¬ ((ns.length : Int) - (a : Int) < 1) := by omega
  have hf256 := getD_lt D5.out a
  have fa : w.cell? ⟨b, off + a, none⟩ = some (.int .u8 (ns.getD a 0 : Int)) := hbc a hn
  clear hbc
  generalize hfe : ns.getD a 0 = f at *
  have HFE := hide hfe
  clear hfe
  have hq : ¬ (ns.length : Int) - (a : Int) < 1 + ((f - 247 : Nat) : Int) := by omega
  have hf1 : ¬ (f : Int) ≤ 247 := by omega
  have hf3 : (f : Int) - 247 = ((f - 247 : Nat) : Int) := by omega
  have HF3 := hide hf3
  clear hf3
  go_enter Try.func92, Try.ntmps92
  go_wp2_with fail
  refine (dLeft_c h cap _ ns a _ hD'.out).mono ?_
  rintro e w1 ⟨rfl, hb1⟩
  have HD1 := hide (hD'.out.below hb1)
  have HB1 := hide hb1
  clear hb1
  obtain ⟨e1, e2, e3, _, _, _, _, _⟩ := HD1.out
  have fa1 : w1.cell? ⟨b, off + a, none⟩ = some (.int .u8 (f : Int)) := (HB1.out.cell (p := ⟨b, off + a, none⟩) hb).trans fa
  clear d2 d3 fa
  go_wp2
  go_quiet (fail)
  have hb1d : Below w.heap.size w (w1.drewN nq) := bdrewN HB1.out nq
  have HD1d := hide (HD1.out.below (bdrewN (Below.refl w1.heap.size w1) nq))
  have HB1d := hide hb1d
  clear hb1d
  go_wp2_with fail
  rw [HF3.out]
  refine (dLeft_c h cap _ ns a _ HD1d.out).mono ?_
  rintro e w2 ⟨rfl, hb2⟩
  have HB2 := hide (bstep HB1d.out hb2)
  have HD2 := hide (HD1d.out.below hb2)
  clear hb2 HB1d HD1d HD1 HB1 e1 e2 e3 fa1
  generalize hm : f - 247 = m at *
  have hm8 : m ≤ 8 := by omega
  have hm1 : 1 ≤ m := by omega
  have ham : a + 1 + m ≤ ns.length := by omega
  have hfm : f = 247 + m := by omega
  have HM := hide hm
  clear hm hf1 hq
  obtain ⟨e1, e2, e3, _, _, _, _, e8⟩ := HD2.out
  have BC2 := hide (show ∀ j, j < ns.length → w2.cell? ⟨b, off + j, none⟩ = some (.int .u8 (ns.getD j 0 : Int)) from fun j hj => (HB2.out.cell (p := ⟨b, off + j, none⟩) hb).trans (HBC.out j hj))
  have hb2z : b < w2.heap.size := Nat.lt_of_lt_of_le hb HB2.out.size
  go_wp2_with fail
  go_loopw [6, 7] (fun v6 v7 wr => ∃ j : Nat, j ≤ m ∧ v6 = .int .u64 (num ((ns.drop (a + 1)).take j) : Int) ∧ v7 = .int .i64 ((j : Int) + 1) ∧ Below w2.heap.size w2 wr) (fun _ v7 _ => m + 1 - (intOf v7).toNat)
  case atStart => exact ⟨0, Nat.zero_le _, rfl, rfl, by (focus repeat' (first | (with_reducible exact Below.refl _ _) | (with_reducible assumption) | (with_reducible refine Below.alloc ?_ ?_ _) | (with_reducible refine Below.drew ?_) | (with_reducible refine bdrewN ?_ _) | (with_reducible refine Below.setCell ?_ ?_ _) | (first | (with_reducible exact Nat.le_refl _) | (with_reducible assumption) | omega | (simp; omega) | (simp; done))))⟩
  case round =>
    obtain ⟨j, hj, rfl, rfl, rB⟩ := hrel
    have f1 : ∀ o, wr.cell? ⟨h, o, none⟩ = (#[Value.slice (some ⟨b, off, none⟩) ns.length cap, Value.int .i64 (a : Int)] : Array Value)[o]? := fun o => (rB.cell (p := ⟨h, o, none⟩) e1).trans (e2 o)
    have f2 : ∀ o, wr.frozen? ⟨h, o, none⟩ = false := fun o => (rB.frozen (p := ⟨h, o, none⟩) e1).trans (e3 o)
    have hzr : w2.heap.size ≤ wr.heap.size := rB.size
    have hh : h < wr.heap.size := by omega
    by_cases hlt : j < m
    · have hle : (j : Int) + 1 ≤ (m : Int) := by omega
      have c1 : wr.cell? ⟨b, off + (a + (j + 1)), none⟩ = some (.int .u8 (ns.getD (a + (j + 1)) 0 : Int)) := (rB.cell (p := ⟨b, off + (a + (j + 1)), none⟩) hb2z).trans (BC2.out (a + (j + 1)) (by omega))
      have hy : ns.getD (a + (j + 1)) 0 < 256 := getD_lt D5.out _
      have hnx := hide (show num ((ns.drop (a + 1)).take (j + 1)) = 256 * num ((ns.drop (a + 1)).take j) + ns.getD (a + (j + 1)) 0 from by
        rw [← num_app]
        congr 1
        rw [List.take_add_one]
        congr 1
        rw [show a + (j + 1) = a + 1 + j from by omega]
        simp [List.getD, show a + 1 + j < ns.length by omega])
      have hX : num ((ns.drop (a + 1)).take j) < 72057594037927936 := by
        have q := num_lt j ((ns.drop (a + 1)).take j) (by rw [List.length_take, List.length_drop]; omega) (fun x hx => D5.out x (List.mem_of_mem_drop (List.mem_of_mem_take hx)))
        have p : 256 ^ j ≤ 256 ^ 7 := Nat.pow_le_pow_right (by decide) (by omega)
        have p7 : (256 : Nat) ^ 7 = 72057594037927936 := by decide
        omega
      have hw1 : IntKind.i64.wrap ((a : Int) + ((j : Int) + 1)) = ((a + (j + 1) : Nat) : Int) := by (simp [IntKind.wrap, IntKind.bits, IntKind.signed]; omega)
      have hix : a + (j + 1) < ns.length := by omega
      generalize num ((ns.drop (a + 1)).take j) = X at *
      generalize ns.getD (a + (j + 1)) 0 = y at *
      generalize hk : a + (j + 1) = k at *
      have HK := hide hk
      clear hk
      go_wp2_with fail
      go_quiet (fail)
      go_wp2
      go_roundw
      case rel => exact ⟨j + 1, by omega, by rw [hnx.out]; first | rfl | go_num, by go_num, by (focus repeat' (first | (with_reducible exact Below.refl _ _) | (with_reducible assumption) | (with_reducible refine Below.alloc ?_ ?_ _) | (with_reducible refine Below.drew ?_) | (with_reducible refine bdrewN ?_ _) | (with_reducible refine Below.setCell ?_ ?_ _) | (first | (with_reducible exact Nat.le_refl _) | (with_reducible assumption) | omega | (simp; omega) | (simp; done))))⟩
      case measure => (first | (simp [intOf]; done) | (simp [intOf]; omega))
    · obtain rfl : j = m := by omega
      have hle : ¬ (j : Int) + 1 ≤ (j : Int) := by omega
      obtain ⟨E, hE⟩ : ∃ E, a + 1 + j = E := ⟨_, rfl⟩
      have hw0 : IntKind.i64.wrap ((a : Int) + 1) = (a : Int) + 1 := by (simp [IntKind.wrap, IntKind.bits, IntKind.signed]; omega)
      have hw1 : IntKind.i64.wrap ((a : Int) + 1 + (j : Int)) = (E : Int) := by (simp [IntKind.wrap, IntKind.bits, IntKind.signed]; omega)
      have hw2 : E ≤ cap := by omega
      have hw3 : a ≤ E := by omega
      have hw4 : 1 + j = E - a := by omega
      have hca : ¬ cap = a := by omega
      have hrlen : ((ns.drop a).take (1 + j)).length = 1 + j := by (rw [List.length_take, List.length_drop]; omega)
      have hrow : (ns.drop a).take (1 + j) = f :: (ns.drop (a + 1)).take j := by
        rw [List.drop_eq_getElem_cons hn, Nat.add_comm 1 j, List.take_succ_cons]
        congr 1
        rw [← HFE.out]; simp [List.getD, hn]
      have CVW := hide (show ∀ w', Below wr.heap.size wr w' → Sem.run Try.prog (convert 30 9 (.slice (some ⟨b, off + a, none⟩) (E - a) (cap - a))) w' = .ok (.string (bstr (f :: (ns.drop (a + 1)).take j))) w' from fun w' hb' => by
        have q := conv28 w' b (off + a) (cap - a) ((ns.drop a).take (1 + j)) (fun i hi => by
          rw [hrlen] at hi
          have q := (hb'.cell (p := ⟨b, off + (a + i), none⟩) (show b < wr.heap.size by omega)).trans ((rB.cell (p := ⟨b, off + (a + i), none⟩) hb2z).trans (BC2.out (a + i) (by omega)))
          rw [← Nat.add_assoc] at q
          rw [q]
          simp [List.getD, hi, show a + i < ns.length by omega])
        rw [hrlen, hrow, hw4] at q
        exact q)
      have CV1 := CVW.out wr.drew (drewB _)
      have hH0 : Below wr.heap.size wr wr.drew ∧ (∀ o, wr.drew.cell? ⟨h, o, none⟩ = (#[Value.slice (some ⟨b, off, none⟩) ns.length cap, Value.int .i64 (a : Int)] : Array Value)[o]?) ∧ Sem.run Try.prog (convert 30 9 (.slice (some ⟨b, off + a, none⟩) (E - a) (cap - a))) wr.drew = .ok (.string (bstr (f :: (ns.drop (a + 1)).take j))) wr.drew := ⟨drewB _, fun o => by rw [World.cell?_drew]; exact f1 o, CV1⟩
      have HE := hide hE
      have HW4 := hide hw4
      clear hrow hrlen hE hw4
      have hX64 : num ((ns.drop (a + 1)).take j) < 18446744073709551616 := by
        have q := num_lt j ((ns.drop (a + 1)).take j) (by rw [List.length_take, List.length_drop]; omega) (fun x hx => D5.out x (List.mem_of_mem_drop (List.mem_of_mem_take hx)))
        have p : 256 ^ j ≤ 256 ^ 8 := Nat.pow_le_pow_right (by decide) (by omega)
        have p8 : (256 : Nat) ^ 8 = 18446744073709551616 := by decide
        omega
      have hlt256 : ∀ x ∈ (ns.drop (a + 1)).take j, x < 256 := fun x hx => D5.out x (List.mem_of_mem_drop (List.mem_of_mem_take hx))
      have hEq : ((bstr (form (num ((ns.drop (a + 1)).take j)))).toList == (bstr (f :: (ns.drop (a + 1)).take j)).toList) = false := by
        rw [bstr_list, bstr_list]
        have hcan := form_canon (f := f) (l := (ns.drop (a + 1)).take j) (by omega) (by rw [List.length_take, List.length_drop]; omega) hlt256
        have hs2 := HS2.out
        rw [HM.out] at hcan
        have q : u8s (form (num ((ns.drop (a + 1)).take j))) ≠ u8s (f :: (ns.drop (a + 1)).take j) := fun e => hs2 (hcan.1 (u8s_inj _ _ (form_lt hX64) (by intro x hx; rcases List.mem_cons.1 hx with rfl | hx; exact hf256; exact hlt256 x hx) e))
        simp [q]
      clear hlt256
      generalize hbs : bstr (f :: (ns.drop (a + 1)).take j) = SB at *
      generalize hxx : num ((ns.drop (a + 1)).take j) = X at *
      have HBS := hide hbs
      have HXX := hide hxx
      clear hbs hxx CV1
      go_wp2_with fail
      refine wp_region_held_drew (S := fun wq => Below wr.heap.size wr wq ∧ (∀ o, wq.cell? ⟨h, o, none⟩ = (#[Value.slice (some ⟨b, off, none⟩) ns.length cap, Value.int .i64 (a : Int)] : Array Value)[o]?) ∧ Sem.run Try.prog (convert 30 9 (.slice (some ⟨b, off + a, none⟩) (E - a) (cap - a))) wq = .ok (.string SB) wq) (by kernel_rfl) hH0 (fun _ => ?_)
      refine wpAnyH_take (i := 0) (oi := ?oi0) (v := ?v0) ?ho0 (by kernel_rfl) (by kernel_rfl) (by kernel_rfl) ?hp0 ?hy0 hH0 ?hr0
      case ho0 => (simp only [List.getElem?_toArray, List.getElem?_cons_succ, List.getElem?_cons_zero]; exact rfl)
      case hp0 => exact fun _ _ _ h => h
      case hy0 => (refine Or.inl ⟨by rfl, ?_⟩; intro w hSw; (try dsimp only at hSw); go_simp; (try (with_reducible rfl)))
      case hr0 =>
      (try simp only [Act.put, List.setIfInBounds_toArray, List.set_cons_zero, List.set_cons_succ])
      refine wpAnyH_take (i := 3) (oi := ?oi3) (v := ?v3) ?ho3 (by kernel_rfl) (by kernel_rfl) (by kernel_rfl) ?hp3 ?hy3 hH0 ?hr3
      case ho3 => (simp only [List.getElem?_toArray, List.getElem?_cons_succ, List.getElem?_cons_zero]; exact rfl)
      case hp3 => exact fun _ _ _ h => h
      case hy3 => (refine Or.inl ⟨by rfl, ?_⟩; intro w hSw; (try dsimp only at hSw); go_simp; (try (with_reducible rfl)))
      case hr3 =>
      (try simp only [Act.put, List.setIfInBounds_toArray, List.set_cons_zero, List.set_cons_succ])
      refine wpAnyH_take (i := 4) (oi := ?oi4) (v := ?v4) ?ho4 (by kernel_rfl) (by kernel_rfl) (by kernel_rfl) ?hp4 ?hy4 hH0 ?hr4
      case ho4 => (simp only [List.getElem?_toArray, List.getElem?_cons_succ, List.getElem?_cons_zero]; exact rfl)
      case hp4 => exact fun _ _ _ h => h
      case hy4 => (refine Or.inl ⟨by rfl, ?_⟩; intro w hSw; (try dsimp only at hSw); go_simp; (try (with_reducible rfl)))
      case hr4 =>
      (try simp only [Act.put, List.setIfInBounds_toArray, List.set_cons_zero, List.set_cons_succ])
      refine wpAnyH_take (i := 5) (oi := ?oi5) (v := ?v5) ?ho5 (by kernel_rfl) (by kernel_rfl) (by kernel_rfl) ?hp5 ?hy5 hH0 ?hr5
      case ho5 => (simp only [List.getElem?_toArray, List.getElem?_cons_succ, List.getElem?_cons_zero]; exact rfl)
      case hp5 => exact fun _ _ _ h => h
      case hy5 => (refine Or.inl ⟨by rfl, ?_⟩; intro w hSw; (try dsimp only at hSw); go_simp; (try (with_reducible rfl)))
      case hr5 =>
      (try simp only [Act.put, List.setIfInBounds_toArray, List.set_cons_zero, List.set_cons_succ])
      refine wpAnyH_take (i := 6) (oi := ?oi6) (v := ?v6) ?ho6 (by kernel_rfl) (by kernel_rfl) (by kernel_rfl) ?hp6 ?hy6 hH0 ?hr6
      case ho6 => (simp only [List.getElem?_toArray, List.getElem?_cons_succ, List.getElem?_cons_zero]; exact rfl)
      case hp6 => exact fun _ _ _ h => h
      case hy6 => (refine Or.inl ⟨by rfl, ?_⟩; intro w hSw; (try dsimp only at hSw); go_simp; (try (with_reducible rfl)))
      case hr6 =>
      (try simp only [Act.put, List.setIfInBounds_toArray, List.set_cons_zero, List.set_cons_succ])
      refine wpAnyH_take (i := 7) (oi := ?oi7) (v := ?v7) ?ho7 (by kernel_rfl) (by kernel_rfl) (by kernel_rfl) ?hp7 ?hy7 hH0 ?hr7
      case ho7 => (simp only [List.getElem?_toArray, List.getElem?_cons_succ, List.getElem?_cons_zero]; exact rfl)
      case hp7 => exact fun _ _ _ h => h
      case hy7 => (refine Or.inl ⟨by rfl, ?_⟩; intro w hSw; (try dsimp only at hSw); go_simp; (try (with_reducible rfl)))
      case hr7 =>
      (try simp only [Act.put, List.setIfInBounds_toArray, List.set_cons_zero, List.set_cons_succ])
      refine wpAnyH_take (i := 8) (oi := ?oi8) (v := ?v8) ?ho8 (by kernel_rfl) (by kernel_rfl) (by kernel_rfl) ?hp8 ?hy8 hH0 ?hr8
      case ho8 => (simp only [List.getElem?_toArray, List.getElem?_cons_succ, List.getElem?_cons_zero]; exact rfl)
      case hp8 => exact fun _ _ _ h => h
      case hy8 => (refine Or.inl ⟨by rfl, ?_⟩; intro w hSw; (try dsimp only at hSw); go_simp; (try (with_reducible rfl)))
      case hr8 =>
      (try simp only [Act.put, List.setIfInBounds_toArray, List.set_cons_zero, List.set_cons_succ])
      refine wpAnyH_take (i := 9) (oi := ?oi9) (v := ?v9) ?ho9 (by kernel_rfl) (by kernel_rfl) (by kernel_rfl) ?hp9 ?hy9 hH0 ?hr9
      case ho9 => (simp only [List.getElem?_toArray, List.getElem?_cons_succ, List.getElem?_cons_zero]; exact rfl)
      case hp9 => exact fun _ _ _ h => h
      case hy9 => (refine Or.inl ⟨by rfl, ?_⟩; intro w hSw; (try dsimp only at hSw); go_simp; (try (with_reducible rfl)))
      case hr9 =>
      (try simp only [Act.put, List.setIfInBounds_toArray, List.set_cons_zero, List.set_cons_succ])
      refine wpAnyH_take (i := 10) (oi := ?oi10) (v := ?v10) ?ho10 (by kernel_rfl) (by kernel_rfl) (by kernel_rfl) ?hp10 ?hy10 hH0 ?hr10
      case ho10 => (simp only [List.getElem?_toArray, List.getElem?_cons_succ, List.getElem?_cons_zero]; exact rfl)
      case hp10 => exact fun _ _ _ h => h
      case hy10 => (refine Or.inl ⟨by rfl, ?_⟩; intro w hSw; (try dsimp only at hSw); go_simp; (try (with_reducible rfl)))
      case hr10 =>
      (try simp only [Act.put, List.setIfInBounds_toArray, List.set_cons_zero, List.set_cons_succ])
      refine wpAnyH_take (i := 11) (oi := ?oi11) (v := ?v11) ?ho11 (by kernel_rfl) (by kernel_rfl) (by kernel_rfl) ?hp11 ?hy11 hH0 ?hr11
      case ho11 => (simp only [List.getElem?_toArray, List.getElem?_cons_succ, List.getElem?_cons_zero]; exact rfl)
      case hp11 => exact fun _ _ _ h => h
      case hy11 => (refine Or.inl ⟨by rfl, ?_⟩; intro w hSw; (try dsimp only at hSw); go_simp; (try (with_reducible rfl)))
      case hr11 =>
      (try simp only [Act.put, List.setIfInBounds_toArray, List.set_cons_zero, List.set_cons_succ])
      refine wpAnyH_take (i := 12) (oi := ?oi12) (v := ?v12) ?ho12 (by kernel_rfl) (by kernel_rfl) (by kernel_rfl) ?hp12 ?hy12 hH0 ?hr12
      case ho12 => (simp only [List.getElem?_toArray, List.getElem?_cons_succ, List.getElem?_cons_zero]; exact rfl)
      case hp12 => exact fun _ _ _ h => h
      case hy12 => (refine Or.inl ⟨by rfl, ?_⟩; intro w hSw; (try dsimp only at hSw); go_simp; (try (with_reducible rfl)))
      case hr12 =>
      (try simp only [Act.put, List.setIfInBounds_toArray, List.set_cons_zero, List.set_cons_succ])
      refine wpAnyH_take (i := 13) (oi := ?oi13) (v := ?v13) ?ho13 (by kernel_rfl) (by kernel_rfl) (by kernel_rfl) ?hp13 ?hy13 hH0 ?hr13
      case ho13 => (simp only [List.getElem?_toArray, List.getElem?_cons_succ, List.getElem?_cons_zero]; exact rfl)
      case hp13 => exact fun _ _ _ h => h
      case hy13 => (refine Or.inl ⟨by rfl, ?_⟩; intro w hSw; (try dsimp only at hSw); go_simp; (try (with_reducible rfl)))
      case hr13 =>
      (try simp only [Act.put, List.setIfInBounds_toArray, List.set_cons_zero, List.set_cons_succ])
      refine wpAnyH_take (i := 14) (oi := ?oi14) (v := ?v14) ?ho14 (by kernel_rfl) (by kernel_rfl) (by kernel_rfl) ?hp14 ?hy14 hH0 ?hr14
      case ho14 => (simp only [List.getElem?_toArray, List.getElem?_cons_succ, List.getElem?_cons_zero]; exact rfl)
      case hp14 => exact fun _ _ _ h => h
      case hy14 => (refine Or.inl ⟨by rfl, ?_⟩; intro w hSw; (try dsimp only at hSw); go_simp; (try (with_reducible rfl)))
      case hr14 =>
      (try simp only [Act.put, List.setIfInBounds_toArray, List.set_cons_zero, List.set_cons_succ])
      refine wpAnyH_take (i := 15) (oi := ?oi15) (v := ?v15) ?ho15 (by kernel_rfl) (by kernel_rfl) (by kernel_rfl) ?hp15 ?hy15 hH0 ?hr15
      case ho15 => (simp only [List.getElem?_toArray, List.getElem?_cons_succ, List.getElem?_cons_zero]; exact rfl)
      case hp15 => exact fun _ _ _ h => h
      case hy15 => (refine Or.inl ⟨by rfl, ?_⟩; intro w hSw; (try dsimp only at hSw); go_simp; (try (with_reducible rfl)))
      case hr15 =>
      (try simp only [Act.put, List.setIfInBounds_toArray, List.set_cons_zero, List.set_cons_succ])
      refine wpAnyH_take (i := 16) (oi := ?oi16) (v := ?v16) ?ho16 (by kernel_rfl) (by kernel_rfl) (by kernel_rfl) ?hp16 ?hy16 hH0 ?hr16
      case ho16 => (simp only [List.getElem?_toArray, List.getElem?_cons_succ, List.getElem?_cons_zero]; exact rfl)
      case hp16 => exact fun _ _ _ h => h
      case hy16 => (refine Or.inl ⟨by rfl, ?_⟩; intro w hSw; (try dsimp only at hSw); go_simp; (try (with_reducible rfl)))
      case hr16 =>
      (try simp only [Act.put, List.setIfInBounds_toArray, List.set_cons_zero, List.set_cons_succ])
      refine wpAnyH_take (i := 17) (oi := ?oi17) (v := ?v17) ?ho17 (by kernel_rfl) (by kernel_rfl) (by kernel_rfl) ?hp17 ?hy17 hH0 ?hr17
      case ho17 => (simp only [List.getElem?_toArray, List.getElem?_cons_succ, List.getElem?_cons_zero]; exact rfl)
      case hp17 => exact fun _ _ _ h => h
      case hy17 => (refine Or.inl ⟨by rfl, ?_⟩; intro w hSw; (try dsimp only at hSw); go_simp; (try (with_reducible rfl)))
      case hr17 =>
      (try simp only [Act.put, List.setIfInBounds_toArray, List.set_cons_zero, List.set_cons_succ])
      refine wpAnyH_take (i := 18) (oi := ?oi18) (v := ?v18) ?ho18 (by kernel_rfl) (by kernel_rfl) (by kernel_rfl) ?hp18 ?hy18 hH0 ?hr18
      case ho18 => (simp only [List.getElem?_toArray, List.getElem?_cons_succ, List.getElem?_cons_zero]; exact rfl)
      case hp18 => exact fun _ _ _ h => h
      case hy18 => (refine Or.inl ⟨by rfl, ?_⟩; intro w hSw; (try dsimp only at hSw); go_simp; (try (with_reducible rfl)))
      case hr18 =>
      (try simp only [Act.put, List.setIfInBounds_toArray, List.set_cons_zero, List.set_cons_succ])
      refine wpAnyH_take (i := 19) (oi := ?oi19) (v := ?v19) ?ho19 (by kernel_rfl) (by kernel_rfl) (by kernel_rfl) ?hp19 ?hy19 hH0 ?hr19
      case ho19 => (simp only [List.getElem?_toArray, List.getElem?_cons_succ, List.getElem?_cons_zero]; exact rfl)
      case hp19 => exact fun _ _ _ h => h
      case hy19 => (refine Or.inl ⟨by rfl, ?_⟩; intro w hSw; (try dsimp only at hSw); go_simp; (try (with_reducible rfl)))
      case hr19 =>
      (try simp only [Act.put, List.setIfInBounds_toArray, List.set_cons_zero, List.set_cons_succ])
      refine wpAnyH_ready (rs := [1]) (by kernel_rfl) (by simp) (AllReadyH.cons (o := ?oi1) ?ho1 (fun K hK => ?hr1) AllReadyH.nil)
      case ho1 => (simp only [List.getElem?_toArray, List.getElem?_cons_succ, List.getElem?_cons_zero]; exact rfl)
      case hr1 =>
      go_simp
      refine Calls.mono (refNum_c X _ hX64) ?_
      rintro e w5 ⟨g5, cap5, rfl, own5, hb5⟩
      have HB5 : Below wr.heap.size wr w5 := bstep (drewB _) hb5
      have CA5 := hide (fun (w' : World) (hb : Below w5.heap.size w5 w') => conv28 w' g5 0 cap5 (form X) (own_conv (own_same own5 (fun k _ hlt => hb.block k hlt)) (form_pos X)))
      (try go_wp2_with fail)
      refine hK.out _ _ ?_ (fun hH1 => ?_)
      · exact ⟨HB5, fun o => (HB5.cell (p := ⟨h, o, none⟩) hh).trans (f1 o), CVW.out _ HB5⟩
      clear hK K own5 hb5 hH0
      (try simp only [Act.put, List.setIfInBounds_toArray, List.set_cons_zero, List.set_cons_succ])
      refine wpAnyH_mono (S2 := fun wq => (Below wr.heap.size wr wq ∧ (∀ o, wq.cell? ⟨h, o, none⟩ = (#[Value.slice (some ⟨b, off, none⟩) ns.length cap, Value.int .i64 (a : Int)] : Array Value)[o]?) ∧ Sem.run Try.prog (convert 30 9 (.slice (some ⟨b, off + a, none⟩) (E - a) (cap - a))) wq = .ok (.string SB) wq) ∧ Sem.run Try.prog (convert 30 9 (.slice (some ⟨g5, 0, none⟩) (form X).length cap5)) wq = .ok (.string (bstr (form X))) wq) (fun w h => h.1) _ _ _ _ ?_
      have hH2 := And.intro hH1 (CA5.out _ (Below.refl _ _))
      refine wpAnyH_take (i := 2) (oi := ?oi2) (v := ?v2) ?ho2 (by kernel_rfl) (by kernel_rfl) (by kernel_rfl) ?hp2 ?hy2 hH2 ?hr2
      case ho2 => (simp only [List.getElem?_toArray, List.getElem?_cons_succ, List.getElem?_cons_zero]; exact rfl)
      case hp2 => exact fun _ _ _ h => h
      case hy2 => (refine Or.inl ⟨by rfl, ?_⟩; intro w hSw; (try dsimp only at hSw); go_simp; (try (with_reducible rfl)))
      case hr2 =>
      (try simp only [Act.put, List.setIfInBounds_toArray, List.set_cons_zero, List.set_cons_succ])
      refine wpAnyH_take (i := 20) (oi := ?oi20) (v := ?v20) ?ho20 (by kernel_rfl) (by kernel_rfl) (by kernel_rfl) ?hp20 ?hy20 hH2 ?hr20
      case ho20 => (simp only [List.getElem?_toArray, List.getElem?_cons_succ, List.getElem?_cons_zero]; exact rfl)
      case hp20 => exact fun _ _ _ h => h
      case hy20 => (refine Or.inl ⟨by rfl, ?_⟩; intro w hSw; (try dsimp only at hSw); go_simp; (try (with_reducible rfl)))
      case hr20 =>
      (try simp only [Act.put, List.setIfInBounds_toArray, List.set_cons_zero, List.set_cons_succ])
      refine wpAnyH_done (by kernel_rfl) ?_ _
      have hD5 := HD2.out.below (rB.trans (HB5.mono hzr))
      have HD5 := hide hD5
      have HB6 := hide (bstep (bstep HB2.out rB) HB5)
      obtain ⟨k1, k2, k3, _, _, _, _, _⟩ := hD5
      clear f1 f2 hH1 hH2 e1 e2 e3 rB HB5
      go_wp2
      go_ret2
      exact ⟨rfl, Only.of_below HB6.out, HD5.out⟩
end Go.Proofs.Ytalnipjaekpbhaa


namespace Go.Proofs.Ytalnipjaekpbhaa
open Go.ChangeShapes Go.WideShapes Go.ChangeAt Go.RowKit Go.Deep
set_option linter.unusedSimpArgs false
set_option linter.unusedVariables false

/-- 'append(s, xs...)', both empty -/
theorem wpList_append00 {P : Program} (w : World) {ops : Array Oper} {rest : List Oper} {o : Oper} {a : Act} {Q : Exit → Act → World → Prop} (hgd : o.guard = none) (s x : Operand) (t : TypeId)
    (ho : o.op = .call { callee := .builtin .append, args := #[s, x], argTypes := #[t, t] })
    (e : TypeId) (i : TypeInfo) (z : Value) (bytes : Nat) (ht : P.underlying t = some (.slice e)) (hi : P.info? e = some i) (hz : i.zero = some z)
    (hsize : i.size = 1) (hby : i.bytes = bytes) (hzs : z.cells.size = 1)
    (v : Value) (hs : a.eval s = v) (hown : w.ownsRow 0 e 1 v 0 [])
    (ad : Addr) (n0 c : Nat) (hx : a.eval x = .slice (some ad) n0 c) (hn0 : n0 = 0)
    (h : ∀ v' w', w'.ownsRow 0 e 1 v' 0 [] → w.grownBy w' v.ownBlock → wpList P ops Q rest (a.put o.dst v') w') : wpList P ops Q (o :: rest) a w := by
  subst hn0
  refine wpList_plain hgd fun K hK => ?_
  obtain ⟨v', w', hr, h2, h3, _, h5⟩ := run_append_own_at (P := P) w 0 t o.type e i z 1 bytes ht hi hz hsize hby hzs (by decide) v 0 [] hown ad 0 c [] rfl (by intro j u hj; simp at hj) (by intro u hu; simp at hu) (by unfold maxLen; omega) (by omega) (Nat.zero_le _)
  unfold Oper.wp execOp
  simp only [ho, resolve, invoke, builtin, Sem.run_bind, Sem.run_pure, Result.andThen_ok, List.map_toArray, List.map_cons, List.map_nil, hs, hx, hr]
  exact hK _ _ (h v' w' h2 h3)
/-- a slice of bytes that came in -/
structure Row8 (w : World) (ao : Option Addr) (cap : Nat) (ns : List Nat) : Prop where
  nil : ao = none → ns = [] ∧ cap = 0
  bytes : ns ≠ [] → ∃ b off, ao = some ⟨b, off, none⟩ ∧ b < w.heap.size ∧ ∀ j, j < ns.length → w.cell? ⟨b, off + j, none⟩ = some (.int .u8 (ns.getD j 0 : Int))
  small : ∀ x ∈ ns, x < 256
  len : ns.length ≤ 1099511627776
  cap_le : ns.length ≤ cap

set_option maxRecDepth 100000 in
set_option maxHeartbeats 1000000 in
theorem Clone8_zero (ad : Addr) (n0 cap : Nat) (w : World) (hn0 : n0 = 0) : Calls Try.prog 83 #[.slice (some ad) n0 cap] w (fun e w' => ∃ v', e = .returned v' ∧ w'.ownsRow 0 5 1 v' 0 [] ∧ Below w.heap.size w w') := by
  obtain ⟨i0, hi0, hz0, hz1, hz2⟩ := info_parts info5
  have Q := eql30
  have HN := hide hn0
  clear hn0
  go_enter Try.func83, Try.ntmps83
  go_wp2_with (at_builtin; refine wpList_append00 _ rfl (.tmp 5) (.tmp 6) 30 rfl 5 i0 (.int .u8 0) 1 Try.underlying30 hi0 hz0 hz1 hz2 rfl (.slice (some ⟨w.heap.size, 0, none⟩) 0 0) rfl (made0_5 w) ad n0 cap rfl HN.out ?_; intro v' wn hown2 hg2)
  go_ret
  refine ⟨v', rfl, hown2, ((Below.refl w.heap.size w).alloc (Nat.le_refl _) (.cells #[] 5)).grown hg2 (by simp) (fun k hk => ?_)⟩
  have q' : w.heap.size = k := Option.some.inj hk
  omega

set_option maxRecDepth 100000 in
set_option maxHeartbeats 1000000 in
theorem Clone8_nil  (w : World) : Calls Try.prog 83 #[.slice none 0 0] w fun e w' => e = .returned (.slice none 0 0) ∧ Below w.heap.size w w' := by
  have Q := eql30n
  go_enter Try.func83, Try.ntmps83
  go_wp2
  go_ret
  exact ⟨rfl, by (focus repeat' (first | (with_reducible exact Below.refl _ _) | (with_reducible assumption) | (with_reducible refine Below.alloc ?_ ?_ _) | (with_reducible refine Below.drew ?_) | (with_reducible refine bdrewN ?_ _) | (with_reducible refine Below.setCell ?_ ?_ _) | (first | (with_reducible exact Nat.le_refl _) | (with_reducible assumption) | omega | (simp; omega) | (simp; done))))⟩

set_option maxRecDepth 100000 in
set_option maxHeartbeats 1000000 in
theorem NewReader_nil  (w : World) : Calls Try.prog 58 #[.slice none 0 0] w (fun e w' => ∃ g, e = .returned (.pointer (some ⟨g, 0, none⟩)) ∧ w.heap.size ≤ g ∧ Below w.heap.size w w' ∧ RAny w' g w'.heap.size [] 0) := by
  go_enter Try.func58, Try.ntmps58
  go_wp2_with fail
  refine (Clone8_nil _).mono ?_
  rintro e w1 ⟨rfl, hb1⟩
  have HB1 := hide hb1
  clear hb1
  go_wp2
  go_ret
  have hz := HB1.out.size
  have hbl : Below w.heap.size w (w1.alloc (.cells #[.slice none 0 0, .int .i64 0] 160)) := (HB1.out).trans ((bstep (Below.refl _ _) (by (focus repeat' (first | (with_reducible exact Below.refl _ _) | (with_reducible assumption) | (with_reducible refine Below.alloc ?_ ?_ _) | (with_reducible refine Below.drew ?_) | (with_reducible refine bdrewN ?_ _) | (with_reducible refine Below.setCell ?_ ?_ _) | (first | (with_reducible exact Nat.le_refl _) | (with_reducible assumption) | omega | (simp; omega) | (simp; done)))))).mono hz)
  exact ⟨w1.heap.size, rfl, hz, hbl, Nat.le_refl _, .inr ⟨⟨by simp, fun o => by simp [go_sem], fun o => by simp [go_sem]⟩, rfl, rfl⟩⟩

set_option maxRecDepth 100000 in
set_option maxHeartbeats 1000000 in
theorem NewReader_zero (ad : Addr) (n0 cap : Nat) (w : World) (hn0 : n0 = 0) : Calls Try.prog 58 #[.slice (some ad) n0 cap] w (fun e w' => ∃ g, e = .returned (.pointer (some ⟨g, 0, none⟩)) ∧ w.heap.size ≤ g ∧ Below w.heap.size w w' ∧ RAny w' g w'.heap.size [] 0) := by
  have HN := hide hn0
  clear hn0
  go_enter Try.func58, Try.ntmps58
  go_wp2_with fail
  refine (Clone8_zero ad n0 cap _ HN.out).mono ?_
  rintro e w1 ⟨v', rfl, own1, hb1⟩
  have HB1 := hide hb1
  have OW := hide own1
  clear hb1 own1
  rcases OW.out.2 with ⟨rfl, _⟩ | ⟨k, c, cur, rfl, _, hk, _⟩
  · go_wp2
    go_ret
    have hz := HB1.out.size
    have hbl : Below w.heap.size w (w1.alloc (.cells #[.slice none 0 0, .int .i64 0] 160)) := (HB1.out).trans ((bstep (Below.refl _ _) (by (focus repeat' (first | (with_reducible exact Below.refl _ _) | (with_reducible assumption) | (with_reducible refine Below.alloc ?_ ?_ _) | (with_reducible refine Below.drew ?_) | (with_reducible refine bdrewN ?_ _) | (with_reducible refine Below.setCell ?_ ?_ _) | (first | (with_reducible exact Nat.le_refl _) | (with_reducible assumption) | omega | (simp; omega) | (simp; done)))))).mono hz)
    exact ⟨w1.heap.size, rfl, hz, hbl, Nat.le_refl _, .inr ⟨⟨by simp, fun o => by simp [go_sem], fun o => by simp [go_sem]⟩, rfl, rfl⟩⟩
  · go_wp2
    go_ret
    have hz := HB1.out.size
    have hbl : Below w.heap.size w (w1.alloc (.cells #[.slice (some ⟨k, 0, none⟩) 0 c, .int .i64 0] 160)) := (HB1.out).trans ((bstep (Below.refl _ _) (by (focus repeat' (first | (with_reducible exact Below.refl _ _) | (with_reducible assumption) | (with_reducible refine Below.alloc ?_ ?_ _) | (with_reducible refine Below.drew ?_) | (with_reducible refine bdrewN ?_ _) | (with_reducible refine Below.setCell ?_ ?_ _) | (first | (with_reducible exact Nat.le_refl _) | (with_reducible assumption) | omega | (simp; omega) | (simp; done)))))).mono hz)
    have hkl := (Array.getElem?_eq_some_iff.1 hk).1
    exact ⟨w1.heap.size, rfl, hz, hbl, Nat.le_refl _, .inl ⟨k, 0, c, by (simp; omega), by simp, fun o => by simp [go_sem], fun o => by simp [go_sem], by (simp; omega), by omega, fun j hj => by simp at hj, by simp, Nat.le_refl _, by simp, Nat.zero_le _⟩⟩

theorem NewReader_any (ao : Option Addr) (cap : Nat) (ns : List Nat) (w : World) (h : Row8 w ao cap ns) : Calls Try.prog 58 #[.slice ao ns.length cap] w (fun e w' => ∃ g, e = .returned (.pointer (some ⟨g, 0, none⟩)) ∧ w.heap.size ≤ g ∧ Below w.heap.size w w' ∧ RAny w' g w'.heap.size ns 0) := by
  by_cases hn : ns = []
  · subst hn
    cases ao with
    | none => obtain ⟨_, rfl⟩ := h.nil rfl; exact NewReader_nil w
    | some ad => exact NewReader_zero ad 0 cap w rfl
  · obtain ⟨b, off, rfl, hb, hc⟩ := h.bytes hn
    refine (NewReader_some ns b off cap w (List.length_pos_iff.2 hn) (by have := h.len; omega) h.small hc hb).mono ?_
    rintro e w' ⟨g, b2, cap2, rfl, hg, hb2, hbel, hR⟩
    exact ⟨g, rfl, hg, hbel, Nat.le_refl _, .inl ⟨b2, 0, cap2, hR.2.2.2.1, hR⟩⟩
end Go.Proofs.Ytalnipjaekpbhaa


namespace Go.Proofs.Ytalnipjaekpbhaa
open Go.ChangeShapes Go.WideShapes Go.ChangeAt Go.RowKit Go.Deep
set_option linter.unusedSimpArgs false
set_option linter.unusedVariables false

set_option maxRecDepth 100000 in
theorem dNum_c (h cap : Nat) (ao : Option Addr) (ns : List Nat) (a : Nat) (w : World) (hD : DObj w h ao cap ns a) : Calls Try.prog 92 #[.pointer (some ⟨h, 0, none⟩)] w (fun e w' => e = .returned (.tuple #[.int .u64 ((rd ns a).1 : Int), .int .i64 ((rd ns a).2.1 : Int)]) ∧ Only h w w' ∧ DObj w' h ao cap ns (rd ns a).2.2) := by
  by_cases c1 : ns.length ≤ a
  · have q : rd ns a = (0, 110, a) := by unfold rd; rw [if_pos c1]
    rw [q]; exact dNum_end h cap ao ns a w hD c1
  by_cases c2 : ns.getD a 0 ≤ 247
  · have q : rd ns a = (ns.getD a 0, 0, a + 1) := by unfold rd; rw [if_neg c1, if_pos c2]
    rw [q]; exact dNum_short h cap ao ns a w hD (by omega) c2
  by_cases c3 : ns.length < a + 1 + (ns.getD a 0 - 247)
  · have q : rd ns a = (0, 110, a) := by unfold rd; rw [if_neg c1, if_neg c2, if_pos c3]
    rw [q]; exact dNum_cut h cap ao ns a w hD (by omega) (by omega) c3
  by_cases c4 : (form (num ((ns.drop (a + 1)).take (ns.getD a 0 - 247)))).length = 1 + (ns.getD a 0 - 247)
  · have q : rd ns a = (num ((ns.drop (a + 1)).take (ns.getD a 0 - 247)), 0, a + 1 + (ns.getD a 0 - 247)) := by unfold rd; rw [if_neg c1, if_neg c2, if_neg c3, if_pos c4]
    rw [q]; exact dNum_ok h cap ao ns a w hD (by omega) (by omega) (by omega) c4
  · have q : rd ns a = (0, 111, a) := by unfold rd; rw [if_neg c1, if_neg c2, if_neg c3, if_neg c4]
    rw [q]; exact dNum_form h cap ao ns a w hD (by omega) (by omega) (by omega) c4

theorem DObj.only {w w' : World} {h g : Nat} {ao : Option Addr} {cap : Nat} {ns : List Nat} {a : Nat} (k : DObj w h ao cap ns a) (ho : Only g w w') (h1 : h ≠ g) (h2 : ∀ ad, ao = some ad → ad.block ≠ g) : DObj w' h ao cap ns a :=
  ⟨Nat.lt_of_lt_of_le k.lt ho.size, fun o => (World.cell?_of_block (ho.block h k.lt h1)).trans (k.cells o), fun o => (World.frozen?_of_block (ho.block h k.lt h1)).trans (k.frz o), fun hn => by
    obtain ⟨b, off, h1, h3, h4, h5⟩ := k.bytes hn
    exact ⟨b, off, h1, Nat.lt_of_lt_of_le h3 ho.size, h4, fun j hj => (World.cell?_of_block (ho.block b h3 (h2 _ h1))).trans (h5 j hj)⟩, k.small, k.le, k.len, k.cap_le⟩
theorem RAny.only {w w' : World} {g B h : Nat} {ns : List Nat} {a : Nat} (k : RAny w g B ns a) (ho : Only h w w') (h1 : g ≠ h) (h2 : B ≤ h) : RAny w' g B ns a :=
  k.same ho.size (ho.block g k.cells.1 h1) (fun i hi => ho.block i (by have := k.1; omega) (by omega))
theorem own_only {w w' : World} {base h : Nat} {e : TypeId} {size : Nat} {v : Value} {n : Nat} {xs : List Value} (own : w.ownsRow base e size v n xs) (ho : Only h w w') (hb : h < base) : w'.ownsRow base e size v n xs :=
  own_same own (fun k hk hlt => ho.block k hlt (by have := (own.lt k hk).1; omega))
theorem own_below {w w' : World} {base : Nat} {e : TypeId} {size : Nat} {v : Value} {n : Nat} {xs : List Value} (own : w.ownsRow base e size v n xs) (hb : Below w.heap.size w w') : w'.ownsRow base e size v n xs :=
  own_same own (fun k _ hlt => hb.block k hlt)
theorem own_any {w : World} {base : Nat} {e : TypeId} {size : Nat} {v : Value} {n : Nat} {xs : List Value} (own : w.ownsRow base e size v n xs) : ∃ ao cap, v = .slice ao n cap := by
  rcases own.2 with ⟨rfl, rfl, _⟩ | ⟨k, c, cur, rfl, _⟩
  · exact ⟨none, 0, rfl⟩
  · exact ⟨_, c, rfl⟩
theorem below_only {w0 w w' : World} {g : Nat} (h : Below w0.heap.size w0 w) (ho : Only g w w') (hg : w0.heap.size ≤ g) : Below w0.heap.size w0 w' :=
  h.trans ⟨ho.os, ho.tape, ho.output, ho.size, fun i hi => ho.block i (by have := h.size; omega) (by omega)⟩
theorem DObj.only' {w w' : World} {h g : Nat} {ao : Option Addr} {cap : Nat} {ns : List Nat} {a : Nat} (k : DObj w h ao cap ns a) (ho : Only g w w') (h1 : h ≠ g) (h2 : ∀ ad, ao = some ad → ns ≠ [] → ad.block ≠ g) : DObj w' h ao cap ns a :=
  ⟨Nat.lt_of_lt_of_le k.lt ho.size, fun o => (World.cell?_of_block (ho.block h k.lt h1)).trans (k.cells o), fun o => (World.frozen?_of_block (ho.block h k.lt h1)).trans (k.frz o), fun hn => by
    obtain ⟨b, off, h1, h3, h4, h5⟩ := k.bytes hn
    exact ⟨b, off, h1, Nat.lt_of_lt_of_le h3 ho.size, h4, fun j hj => (World.cell?_of_block (ho.block b h3 (h2 _ h1 hn))).trans (h5 j hj)⟩, k.small, k.le, k.len, k.cap_le⟩
theorem Only.low {w0 w w' : World} {g : Nat} (h : Below w0.heap.size w0 w) (ho : Only g w w') (hg : w0.heap.size ≤ g) : Below w0.heap.size w0 w' :=
  h.trans ⟨ho.os, ho.tape, ho.output, ho.size, fun i hi => ho.block i (by have := h.size; omega) (by omega)⟩

end Go.Proofs.Ytalnipjaekpbhaa


namespace Go.Proofs.Ytalnipjaekpbhaa
open Go.ChangeShapes Go.WideShapes Go.ChangeAt Go.RowKit Go.Deep
set_option linter.unusedSimpArgs false
set_option linter.unusedVariables false

set_option maxRecDepth 100000 in
set_option maxHeartbeats 1000000 in
theorem dText_neg (h cap : Nat) (ao : Option Addr) (ns : List Nat) (a : Nat) (m : Int) (w : World) (hD : DObj w h ao cap ns a) (hm : m < 0) : Calls Try.prog 66 #[.pointer (some ⟨h, 0, none⟩), .int .i64 m] w (fun e w' => e = .returned (.tuple #[.string ⟨#[]⟩, .int .i64 2]) ∧ Only h w w' ∧ DObj w' h ao cap ns a) := by
  have hD' := hide hD
  have hsm := hide hD.small
  have hr0 := rd_lt ns a hD.small
  have hp0 := rd_place ns a hD.le
  obtain ⟨d1, d2, d3, d4, d5, d6, d7, d8⟩ := hD
  have D4 := hide d4
  clear d4 d5
  go_enter Try.func66, Try.ntmps66
  go_wp2
  go_ret2
  exact ⟨rfl, Only.of_below (Below.refl _ _), hD'.out⟩

set_option maxRecDepth 100000 in
set_option maxHeartbeats 1000000 in
theorem dText_bad (h cap : Nat) (ao : Option Addr) (ns : List Nat) (a : Nat) (m : Nat) (w : World) (hD : DObj w h ao cap ns a) (hm : m ≤ 9223372036854775807) (hE : (rd ns a).2.1 ≠ 0) : Calls Try.prog 66 #[.pointer (some ⟨h, 0, none⟩), .int .i64 (m : Int)] w (fun e w' => e = .returned (.tuple #[.string ⟨#[]⟩, .int .i64 ((rd ns a).2.1 : Int)]) ∧ Only h w w' ∧ DObj w' h ao cap ns a) := by
  have hE' : ¬ ((rd ns a).2.1 : Int) = 0 := by omega
  have hz := (rd_zero ns a hE).2
  have hD' := hide hD
  have hsm := hide hD.small
  have hr0 := rd_lt ns a hD.small
  have hp0 := rd_place ns a hD.le
  obtain ⟨d1, d2, d3, d4, d5, d6, d7, d8⟩ := hD
  have D4 := hide d4
  clear d4 d5
  go_enter Try.func66, Try.ntmps66
  go_wp2_with fail
  refine (dNum_c h cap _ ns a _ hD'.out).mono ?_
  rw [hz]
  rintro e w1 ⟨rfl, ho1, hD1⟩
  have HD1 := hide hD1
  have HO1 := hide ho1
  clear hD1 ho1
  obtain ⟨e1, e2, e3, _, _, _, _, _⟩ := HD1.out
  go_wp2
  go_ret2
  exact ⟨rfl, HO1.out, HD1.out⟩

set_option maxRecDepth 100000 in
set_option maxHeartbeats 1000000 in
theorem dText_many (h cap : Nat) (ao : Option Addr) (ns : List Nat) (a : Nat) (m : Nat) (w : World) (hD : DObj w h ao cap ns a) (hm : m ≤ 9223372036854775807) (hE : (rd ns a).2.1 = 0) (hM : m < (rd ns a).1) : Calls Try.prog 66 #[.pointer (some ⟨h, 0, none⟩), .int .i64 (m : Int)] w (fun e w' => e = .returned (.tuple #[.string ⟨#[]⟩, .int .i64 3]) ∧ Only h w w' ∧ DObj w' h ao cap ns a) := by
  have hM' : (m : Int) < ((rd ns a).1 : Int) := by omega
  have hD' := hide hD
  have hsm := hide hD.small
  have hr0 := rd_lt ns a hD.small
  have hp0 := rd_place ns a hD.le
  obtain ⟨d1, d2, d3, d4, d5, d6, d7, d8⟩ := hD
  have D4 := hide d4
  clear d4 d5
  go_enter Try.func66, Try.ntmps66
  go_wp2_with fail
  refine (dNum_c h cap _ ns a _ hD'.out).mono ?_
  rw [hE]
  rintro e w1 ⟨rfl, ho1, hD1⟩
  have HD1 := hide hD1
  have HO1 := hide ho1
  clear hD1 ho1
  obtain ⟨e1, e2, e3, _, _, _, _, _⟩ := HD1.out
  go_wp2
  go_ret2
  exact ⟨rfl, HO1.out.set 1 _, HD1.out.move d6⟩

set_option maxRecDepth 100000 in
set_option maxHeartbeats 1000000 in
theorem dText_end (h cap : Nat) (ao : Option Addr) (ns : List Nat) (a : Nat) (m : Nat) (w : World) (hD : DObj w h ao cap ns a) (hm : m ≤ 9223372036854775807) (hE : (rd ns a).2.1 = 0) (hM : ¬ m < (rd ns a).1) (hL : ns.length - (rd ns a).2.2 < (rd ns a).1) : Calls Try.prog 66 #[.pointer (some ⟨h, 0, none⟩), .int .i64 (m : Int)] w (fun e w' => e = .returned (.tuple #[.string ⟨#[]⟩, .int .i64 110]) ∧ Only h w w' ∧ DObj w' h ao cap ns a) := by
  have hM' : ¬ (m : Int) < ((rd ns a).1 : Int) := by omega
  have hL' : ((ns.length - (rd ns a).2.2 : Nat) : Int) < ((rd ns a).1 : Int) := by omega
  have hD' := hide hD
  have hsm := hide hD.small
  have hr0 := rd_lt ns a hD.small
  have hp0 := rd_place ns a hD.le
  obtain ⟨d1, d2, d3, d4, d5, d6, d7, d8⟩ := hD
  have D4 := hide d4
  clear d4 d5
  have hk : ((ns.length : Int) - ((rd ns a).2.2 : Int)) = ((ns.length - (rd ns a).2.2 : Nat) : Int) := by omega
  have HK := hide hk
  clear hk
  go_enter Try.func66, Try.ntmps66
  go_wp2_with fail
  refine (dNum_c h cap _ ns a _ hD'.out).mono ?_
  rw [hE]
  rintro e w1 ⟨rfl, ho1, hD1⟩
  have HD1 := hide hD1
  have HO1 := hide ho1
  clear hD1 ho1
  obtain ⟨e1, e2, e3, _, _, _, _, _⟩ := HD1.out
  go_wp2_with fail
  refine (dLeft_c h cap _ ns _ _ HD1.out).mono ?_
  rw [HK.out]
  rintro e w2 ⟨rfl, hb2⟩
  have HD2 := hide (HD1.out.below hb2)
  have HO2 := hide (HO1.out.trans_below hb2)
  clear hb2 e1 e2 e3
  obtain ⟨e1, e2, e3, _, _, _, _, _⟩ := HD2.out
  go_wp2
  go_ret2
  exact ⟨rfl, HO2.out.set 1 _, HD2.out.move d6⟩

set_option maxRecDepth 100000 in
set_option maxHeartbeats 4000000 in
theorem dText_some (h cap : Nat) (ao : Option Addr) (ns : List Nat) (a : Nat) (m : Nat) (w : World) (hD : DObj w h ao cap ns a) (hm : m ≤ 9223372036854775807) (hE : (rd ns a).2.1 = 0) (hM : ¬ m < (rd ns a).1) (hL : ¬ ns.length - (rd ns a).2.2 < (rd ns a).1) (hn : 0 < (rd ns a).1) : Calls Try.prog 66 #[.pointer (some ⟨h, 0, none⟩), .int .i64 (m : Int)] w (fun e w' => e = .returned (.tuple #[.string (bstr ((ns.drop (rd ns a).2.2).take (rd ns a).1)), .int .i64 0]) ∧ Only h w w' ∧ DObj w' h ao cap ns ((rd ns a).2.2 + (rd ns a).1)) := by
  have hM' : ¬ (m : Int) < ((rd ns a).1 : Int) := by omega
  have hL' : ¬ ((ns.length - (rd ns a).2.2 : Nat) : Int) < ((rd ns a).1 : Int) := by omega
  have hne : ns ≠ [] := by (rintro rfl; have := rd_some hE; simp at this)
  have hD' := hide hD
  have hsm := hide hD.small
  have hr0 := rd_lt ns a hD.small
  have hp0 := rd_place ns a hD.le
  obtain ⟨d1, d2, d3, d4, d5, d6, d7, d8⟩ := hD
  have D4 := hide d4
  clear d4 d5
  have hk : ((ns.length : Int) - ((rd ns a).2.2 : Int)) = ((ns.length - (rd ns a).2.2 : Nat) : Int) := by omega
  have HK := hide hk
  clear hk
  obtain ⟨b, off, hao, hb, hbh, hbc⟩ := D4.out hne
  subst hao
  have HBC := hide hbc
  have HN := hide hn
  clear hbc hne hn
  go_enter Try.func66, Try.ntmps66
  go_wp2_with fail
  refine (dNum_c h cap _ ns a _ hD'.out).mono ?_
  rw [hE]
  rintro e w1 ⟨rfl, ho1, hD1⟩
  have HD1 := hide hD1
  have HO1 := hide ho1
  clear hD1 ho1
  obtain ⟨e1, e2, e3, _, _, _, _, _⟩ := HD1.out
  go_wp2_with fail
  refine (dLeft_c h cap _ ns _ _ HD1.out).mono ?_
  rw [HK.out]
  rintro e w2 ⟨rfl, hb2⟩
  have HD2 := hide (HD1.out.below hb2)
  have HO2 := hide (HO1.out.trans_below hb2)
  clear hb2 e1 e2 e3
  obtain ⟨e1, e2, e3, _, _, _, _, _⟩ := HD2.out
  have hb2z : b < w2.heap.size := Nat.lt_of_lt_of_le hb HO2.out.size
  have BC2 := hide (show ∀ j, j < ns.length → w2.cell? ⟨b, off + j, none⟩ = some (.int .u8 (ns.getD j 0 : Int)) from fun j hj => (World.cell?_of_block (HO2.out.block b hb hbh)).trans (HBC.out j hj))
  generalize hn0 : (rd ns a).1 = n at *
  generalize hpl0 : (rd ns a).2.2 = pl at *
  have HN0 := hide hn0
  have HPL0 := hide hpl0
  clear hn0 hpl0
  have hfit : pl + n ≤ ns.length := by omega
  obtain ⟨E, hEq⟩ : ∃ E, pl + n = E := ⟨_, rfl⟩
  have hw0 : IntKind.i64.wrap ((pl : Int) + (n : Int)) = (E : Int) := by (simp [IntKind.wrap, IntKind.bits, IntKind.signed]; omega)
  have hw1 : IntKind.i64.wrap ((E : Int) - (n : Int)) = (pl : Int) := by (simp [IntKind.wrap, IntKind.bits, IntKind.signed]; omega)
  have hw2 : E ≤ cap := by omega
  have hw3 : pl ≤ E := by omega
  have hn63 : (n : Int) < 9223372036854775808 := by omega
  have hEl : E ≤ ns.length := by omega
  have HEq := hide hEq
  have HDm := hide (HD2.out.move (a' := E) hEl)
  have HOm := hide (HO2.out.set 1 (.int .i64 (E : Int)))
  have hca : ¬ cap = pl := by (have := HN.out; omega)
  have hrl : ((ns.drop pl).take n).length = E - pl := by (rw [List.length_take, List.length_drop]; omega)
  have CV : ∀ k, Sem.run Try.prog (convert 30 9 (.slice (some ⟨b, off + pl, none⟩) (E - pl) (cap - pl))) ((w2.setCell ⟨h, 1, none⟩ (.int .i64 (E : Int))).drewN k) = .ok (.string (bstr ((ns.drop pl).take n))) ((w2.setCell ⟨h, 1, none⟩ (.int .i64 (E : Int))).drewN k) := fun k => by
    have q := conv28 ((w2.setCell ⟨h, 1, none⟩ (.int .i64 (E : Int))).drewN k) b (off + pl) (cap - pl) ((ns.drop pl).take n) (fun i hi => by
      rw [hrl] at hi
      have q1 : ((w2.setCell ⟨h, 1, none⟩ (.int .i64 (E : Int))).drewN k).cell? ⟨b, off + (pl + i), none⟩ = w2.cell? ⟨b, off + (pl + i), none⟩ := by
        have q0 := (bdrewN (Below.refl _ (w2.setCell ⟨h, 1, none⟩ (.int .i64 (E : Int)))) k).cell (p := ⟨b, off + (pl + i), none⟩) (show b < _ by simpa using hb2z)
        exact q0.trans (World.cell?_of_block (Below.heap_setCell _ _ _ _ hbh))
      have q2 := BC2.out (pl + i) (by omega)
      rw [← Nat.add_assoc] at q1 q2
      rw [q1, q2]
      simp [List.getD, show i < n by omega, show pl + i < ns.length by omega])
    rw [hrl] at q
    exact q
  generalize hst : bstr ((ns.drop pl).take n) = st at *
  have HST := hide hst
  clear hst hrl hEq
  go_wp2
  go_quiet (fail)
  go_wp2
  go_ret2
  exact ⟨by (rw [HPL0.out, HN0.out, HST.out]; rfl), HOm.out.trans_below (bdrewN (Below.refl _ _) _), by (rw [HPL0.out, HN0.out, HEq.out]; exact HDm.out.below (bdrewN (Below.refl _ _) _))⟩

set_option maxRecDepth 100000 in
set_option maxHeartbeats 4000000 in
theorem dText_none (h cap : Nat) (ao : Option Addr) (ns : List Nat) (a : Nat) (m : Nat) (w : World) (hD : DObj w h ao cap ns a) (hm : m ≤ 9223372036854775807) (hE : (rd ns a).2.1 = 0) (hM : ¬ m < (rd ns a).1) (hL : ¬ ns.length - (rd ns a).2.2 < (rd ns a).1) (hn : (rd ns a).1 = 0) : Calls Try.prog 66 #[.pointer (some ⟨h, 0, none⟩), .int .i64 (m : Int)] w (fun e w' => e = .returned (.tuple #[.string (bstr ((ns.drop (rd ns a).2.2).take (rd ns a).1)), .int .i64 0]) ∧ Only h w w' ∧ DObj w' h ao cap ns ((rd ns a).2.2 + (rd ns a).1)) := by
  have hM' : ¬ (m : Int) < ((rd ns a).1 : Int) := by omega
  have hL' : ¬ ((ns.length - (rd ns a).2.2 : Nat) : Int) < ((rd ns a).1 : Int) := by omega
  have hne : ns ≠ [] := by (rintro rfl; have := rd_some hE; simp at this)
  have hD' := hide hD
  have hsm := hide hD.small
  have hr0 := rd_lt ns a hD.small
  have hp0 := rd_place ns a hD.le
  obtain ⟨d1, d2, d3, d4, d5, d6, d7, d8⟩ := hD
  have D4 := hide d4
  clear d4 d5
  have hk : ((ns.length : Int) - ((rd ns a).2.2 : Int)) = ((ns.length - (rd ns a).2.2 : Nat) : Int) := by omega
  have HK := hide hk
  clear hk
  obtain ⟨b, off, hao, hb, hbh, hbc⟩ := D4.out hne
  subst hao
  have HBC := hide hbc
  have HN := hide hn
  clear hbc hne hn
  go_enter Try.func66, Try.ntmps66
  go_wp2_with fail
  refine (dNum_c h cap _ ns a _ hD'.out).mono ?_
  rw [hE]
  rintro e w1 ⟨rfl, ho1, hD1⟩
  have HD1 := hide hD1
  have HO1 := hide ho1
  clear hD1 ho1
  obtain ⟨e1, e2, e3, _, _, _, _, _⟩ := HD1.out
  go_wp2_with fail
  refine (dLeft_c h cap _ ns _ _ HD1.out).mono ?_
  rw [HK.out]
  rintro e w2 ⟨rfl, hb2⟩
  have HD2 := hide (HD1.out.below hb2)
  have HO2 := hide (HO1.out.trans_below hb2)
  clear hb2 e1 e2 e3
  obtain ⟨e1, e2, e3, _, _, _, _, _⟩ := HD2.out
  have hb2z : b < w2.heap.size := Nat.lt_of_lt_of_le hb HO2.out.size
  have BC2 := hide (show ∀ j, j < ns.length → w2.cell? ⟨b, off + j, none⟩ = some (.int .u8 (ns.getD j 0 : Int)) from fun j hj => (World.cell?_of_block (HO2.out.block b hb hbh)).trans (HBC.out j hj))
  generalize hn0 : (rd ns a).1 = n at *
  generalize hpl0 : (rd ns a).2.2 = pl at *
  have HN0 := hide hn0
  have HPL0 := hide hpl0
  clear hn0 hpl0
  have hfit : pl + n ≤ ns.length := by omega
  obtain ⟨E, hEq⟩ : ∃ E, pl + n = E := ⟨_, rfl⟩
  have hw0 : IntKind.i64.wrap ((pl : Int) + (n : Int)) = (E : Int) := by (simp [IntKind.wrap, IntKind.bits, IntKind.signed]; omega)
  have hw1 : IntKind.i64.wrap ((E : Int) - (n : Int)) = (pl : Int) := by (simp [IntKind.wrap, IntKind.bits, IntKind.signed]; omega)
  have hw2 : E ≤ cap := by omega
  have hw3 : pl ≤ E := by omega
  have hn63 : (n : Int) < 9223372036854775808 := by omega
  have hEl : E ≤ ns.length := by omega
  have HEq := hide hEq
  have HDm := hide (HD2.out.move (a' := E) hEl)
  have HOm := hide (HO2.out.set 1 (.int .i64 (E : Int)))
  have hn0 := HN.out
  subst hn0
  have CV := fun (w : World) p c => convert_zero w p c
  have hE2 : E = pl := by omega
  subst hE2
  clear hEq
  by_cases hca : cap = E
  · go_wp2
    go_quiet (fail)
    go_wp2
    go_ret2
    exact ⟨by (rw [HN0.out, List.take_zero, bstr_nil]; rfl), HOm.out.trans_below (bdrewN (Below.refl _ _) _), by (rw [HPL0.out, HN0.out]; exact HDm.out.below (bdrewN (Below.refl _ _) _))⟩
  · go_wp2
    go_quiet (fail)
    go_wp2
    go_ret2
    exact ⟨by (rw [HN0.out, List.take_zero, bstr_nil]; rfl), HOm.out.trans_below (bdrewN (Below.refl _ _) _), by (rw [HPL0.out, HN0.out]; exact HDm.out.below (bdrewN (Below.refl _ _) _))⟩

set_option maxRecDepth 100000 in
theorem dText_c (h cap : Nat) (ao : Option Addr) (ns : List Nat) (a : Nat) (m : Nat) (w : World) (hD : DObj w h ao cap ns a) (hm : m ≤ 9223372036854775807) : Calls Try.prog 66 #[.pointer (some ⟨h, 0, none⟩), .int .i64 (m : Int)] w (fun e w' => e = .returned (.tuple #[.string (bstr (tx ns a m).1), .int .i64 ((tx ns a m).2.1 : Int)]) ∧ Only h w w' ∧ DObj w' h ao cap ns (tx ns a m).2.2) := by
  by_cases hE : (rd ns a).2.1 = 0
  · by_cases hM : m < (rd ns a).1
    · have q : lg ns a m = (0, 3, (rd ns a).2.2) := by unfold lg; rw [if_neg (by omega), if_pos hM]
      have t : tx ns a m = ([], 3, a) := by unfold tx; rw [q, if_pos (by simp)]
      rw [t, bstr_nil]; exact dText_many h cap ao ns a m w hD hm hE hM
    · by_cases hL : ns.length - (rd ns a).2.2 < (rd ns a).1
      · have q : lg ns a m = (0, 110, (rd ns a).2.2) := by unfold lg; rw [if_neg (by omega), if_neg hM, if_pos hL]
        have t : tx ns a m = ([], 110, a) := by unfold tx; rw [q, if_pos (by simp)]
        rw [t, bstr_nil]; exact dText_end h cap ao ns a m w hD hm hE hM hL
      · have q : lg ns a m = ((rd ns a).1, 0, (rd ns a).2.2) := by unfold lg; rw [if_neg (by omega), if_neg hM, if_neg hL]
        have t : tx ns a m = ((ns.drop (rd ns a).2.2).take (rd ns a).1, 0, (rd ns a).2.2 + (rd ns a).1) := by unfold tx; rw [q, if_neg (by simp)]
        rw [t]
        by_cases hn : 0 < (rd ns a).1
        · exact dText_some h cap ao ns a m w hD hm hE hM hL hn
        · exact dText_none h cap ao ns a m w hD hm hE hM hL (by omega)
  · have q : lg ns a m = (0, (rd ns a).2.1, (rd ns a).2.2) := by unfold lg; rw [if_pos hE]
    have t : tx ns a m = ([], (rd ns a).2.1, a) := by unfold tx; rw [q, if_pos hE]
    rw [t, bstr_nil]; exact dText_bad h cap ao ns a m w hD hm hE

theorem only_grown {h : Nat} {w0 w w' : World} {row : Option Nat} (k : Only h w0 w) (hg : w.grownBy w' row) (hr : ∀ j, row = some j → w0.heap.size ≤ j) : Only h w0 w' :=
  ⟨hg.os.trans k.os, hg.tape.trans k.tape, hg.output.trans k.output, Nat.le_trans k.size hg.size, fun i hi h1 => (hg.block i (by have := k.size; omega) (fun e => by have := hr i e.symm; omega)).trans (k.block i hi h1)⟩
theorem DObj.same {w w' : World} {h : Nat} {ao : Option Addr} {cap : Nat} {ns : List Nat} {a : Nat} (k : DObj w h ao cap ns a) {B : Nat} (hs : w.heap.size ≤ w'.heap.size) (hB : h < B) (hb : ∀ ad, ao = some ad → ns ≠ [] → ad.block < B) (hbl : ∀ i, i < B → w'.heap[i]? = w.heap[i]?) : DObj w' h ao cap ns a :=
  ⟨Nat.lt_of_lt_of_le k.lt hs, fun o => (World.cell?_of_block (hbl h hB)).trans (k.cells o), fun o => (World.frozen?_of_block (hbl h hB)).trans (k.frz o), fun hn => by
    obtain ⟨b, off, h1, h3, h4, h5⟩ := k.bytes hn
    exact ⟨b, off, h1, Nat.lt_of_lt_of_le h3 hs, h4, fun j hj => (World.cell?_of_block (hbl b (hb _ h1 hn))).trans (h5 j hj)⟩, k.small, k.le, k.len, k.cap_le⟩
end Go.Proofs.Ytalnipjaekpbhaa

