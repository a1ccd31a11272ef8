import Derived.Laws.BytesArg
import Derived.Test.YtajkgecegefnmaaTl
namespace Go.Proofs.Ytajkgecegefnmaa
open Go.ChangeShapes Go.WideShapes Go.ChangeAt Go.RowKit Go.Deep
set_option linter.unusedSimpArgs false
set_option linter.unusedVariables false

/-- the text of bytes -/
def bstr (ns : List Nat) : ByteArray := strOfNums (ns.map (fun (x : Nat) => (x : Int)))
theorem bstr_nil : bstr [] = ⟨#[]⟩ := rfl
theorem sb_bstr (ns : List Nat) (h : ∀ x ∈ ns, x < 256) : sb (bstr ns) = ns := by
  unfold sb bstr strOfNums
  simp only [List.map_map]
  refine (List.map_congr_left (fun x hx => ?_)).trans (List.map_id ns)
  have := h x hx
  simp; omega
theorem bstr_sb (s : ByteArray) : bstr (sb s) = s := by
  unfold sb bstr strOfNums
  cases s with
  | mk d =>
    congr 1
    simp only [List.map_map]
    rw [show ((fun (n : Int) => UInt8.ofNat n.toNat) ∘ (fun (x : Nat) => (x : Int)) ∘ fun (b : UInt8) => b.toNat) = id from by funext b; simp]
    simp
theorem bstr_size (ns : List Nat) : (bstr ns).size = ns.length := by
  show (bstr ns).data.size = _
  unfold bstr strOfNums
  simp
theorem convert_zero (w : World) (p : Option Addr) (c : Nat) : Sem.run Try.prog (convert 28 9 (.slice p 0 c)) w = .ok (.string ⟨#[]⟩) w := by
  rw [run_convert_bytes_string w 28 9 5 _ 0 c Try.underlying28 Try.underlying5 Try.underlying9]
  cases p <;> simp [Conv.bytesToString, loadCells]
  all_goals rfl
theorem drewB (w : World) : Below w.heap.size w w.drew := by (focus repeat' (first | (with_reducible exact Below.refl _ _) | (with_reducible assumption) | (with_reducible refine Below.alloc ?_ ?_ _) | (with_reducible refine Below.drew ?_) | (with_reducible refine bdrewN ?_ _) | (with_reducible refine Below.setCell ?_ ?_ _) | (first | (with_reducible exact Nat.le_refl _) | (with_reducible assumption) | omega | (simp; omega) | (simp; done))))
theorem Only2.setg {g h : Nat} {w w1 : World} (k : Only2 g h w w1) (o : Nat) (u : Value) : Only2 g h w (w1.setCell ⟨g, o, none⟩ u) :=
  k.trans ⟨rfl, rfl, rfl, by simp, fun i hi h1 _ => Below.heap_setCell _ _ _ _ h1⟩
def tx (ns : List Nat) (a m : Nat) : List Nat × Nat × Nat :=
  if (lg ns a m).2.1 ≠ 0 then ([], (lg ns a m).2.1, a) else ((ns.drop (lg ns a m).2.2).take (lg ns a m).1, 0, (lg ns a m).2.2 + (lg ns a m).1)
theorem tx_err (ns : List Nat) (a m : Nat) : (tx ns a m).2.1 = (lg ns a m).2.1 := by unfold tx; split <;> simp_all
theorem rd_some {ns : List Nat} {a : Nat} (h : (rd ns a).2.1 = 0) : a < ns.length := by
  by_cases c : ns.length ≤ a
  · unfold rd at h; rw [if_pos c] at h; cases h
  · omega
theorem lg_place (ns : List Nat) (a m : Nat) (h : a ≤ ns.length) : (lg ns a m).2.2 ≤ ns.length := by
  have := rd_place ns a h
  unfold lg; split
  · exact this
  split
  · exact this
  split <;> exact this

set_option maxRecDepth 100000 in
set_option maxHeartbeats 1000000 in
theorem tx1_neg (g B Br Bm Bx : Nat) (ns : List Nat) (a : Nat) (m : Int) (w : World) (hR : RAny w g B ns a) (hB : ∀ o, w.cell? ⟨Br, o, none⟩ = (#[Value.pointer (some ⟨g, 0, none⟩)] : Array Value)[o]?) (hM : ∀ o, w.cell? ⟨Bm, o, none⟩ = (#[Value.int .i64 m] : Array Value)[o]?) (hBz : Br < w.heap.size) (hMz : Bm < w.heap.size) (hXz : Bx < w.heap.size) (hX : ∀ o, w.cell? ⟨Bx, o, none⟩ = (#[Value.string ⟨#[]⟩] : Array Value)[o]?) (hXf : ∀ o, w.frozen? ⟨Bx, o, none⟩ = false) (d1 : Br ≠ g) (d2 : Bx ≠ g) (d3 : Bx ≠ Br) (d4 : B ≤ Bx) (d5 : Bm ≠ g) (d6 : Bx ≠ Bm) (hm : m < 0) : Calls Try.prog 75 #[.pointer (some ⟨Bm, 0, none⟩), .pointer (some ⟨Br, 0, none⟩), .pointer (some ⟨Bx, 0, none⟩)] w (fun e w' => e = .returned (.int .i64 2) ∧ Only2 g Bx w w' ∧ RAny w' g B ns a ∧ w'.cell? ⟨Bx, 0, none⟩ = some (.string ⟨#[]⟩)) := by
  have HR := hide hR
  have HX := hide hX
  have HXF := hide hXf
  clear hR hX hXf
  go_enter Try.func75, Try.ntmps75
  go_wp2
  go_ret
  exact ⟨rfl, Only2.of_below (by (focus repeat' (first | (with_reducible exact Below.refl _ _) | (with_reducible assumption) | (with_reducible refine Below.alloc ?_ ?_ _) | (with_reducible refine Below.drew ?_) | (with_reducible refine bdrewN ?_ _) | (with_reducible refine Below.setCell ?_ ?_ _) | (first | (with_reducible exact Nat.le_refl _) | (with_reducible assumption) | omega | (simp; omega) | (simp; done))))), HR.out, HX.out 0⟩

set_option maxRecDepth 100000 in
set_option maxHeartbeats 1000000 in
theorem tx1_bad (g B Br Bm Bx : Nat) (ns : List Nat) (a : Nat) (m : Nat) (w : World) (hR : RAny w g B ns a) (hB : ∀ o, w.cell? ⟨Br, o, none⟩ = (#[Value.pointer (some ⟨g, 0, none⟩)] : Array Value)[o]?) (hM : ∀ o, w.cell? ⟨Bm, o, none⟩ = (#[Value.int .i64 (m : Int)] : Array Value)[o]?) (hBz : Br < w.heap.size) (hMz : Bm < w.heap.size) (hXz : Bx < w.heap.size) (hX : ∀ o, w.cell? ⟨Bx, o, none⟩ = (#[Value.string ⟨#[]⟩] : Array Value)[o]?) (hXf : ∀ o, w.frozen? ⟨Bx, o, none⟩ = false) (d1 : Br ≠ g) (d2 : Bx ≠ g) (d3 : Bx ≠ Br) (d4 : B ≤ Bx) (d5 : Bm ≠ g) (d6 : Bx ≠ Bm) (hm : m ≤ 9223372036854775807) (hE : (lg ns a m).2.1 ≠ 0) : Calls Try.prog 75 #[.pointer (some ⟨Bm, 0, none⟩), .pointer (some ⟨Br, 0, none⟩), .pointer (some ⟨Bx, 0, none⟩)] w (fun e w' => e = .returned (.int .i64 ((lg ns a m).2.1 : Int)) ∧ Only2 g Bx w w' ∧ RAny w' g B ns (lg ns a m).2.2 ∧ w'.cell? ⟨Bx, 0, none⟩ = some (.string ⟨#[]⟩)) := by
  have hE2 : ((lg ns a m).2.1 : Int) ≠ 0 := by omega
  have HR := hide hR
  have HX := hide hX
  have HXF := hide hXf
  clear hR hX hXf
  go_enter Try.func75, Try.ntmps75
  go_wp2_with fail
  refine (long_c g B ns a m _ HR.out hm).mono ?_
  rintro e w1 ⟨rfl, ho1, hR1⟩
  have HR1 := hide hR1
  have k1 : Only2 g Bx w w1 := Only2.of_only ho1
  have XC : ∀ o, w1.cell? ⟨Bx, o, none⟩ = (#[Value.string ⟨#[]⟩] : Array Value)[o]? := fun o => (World.cell?_of_block (ho1.block Bx hXz d2)).trans (HX.out o)
  have XF : ∀ o, w1.frozen? ⟨Bx, o, none⟩ = false := fun o => (World.frozen?_of_block (ho1.block Bx hXz d2)).trans (HXF.out o)
  have BC : ∀ o, w1.cell? ⟨Br, o, none⟩ = (#[Value.pointer (some ⟨g, 0, none⟩)] : Array Value)[o]? := fun o => (World.cell?_of_block (ho1.block Br hBz d1)).trans (hB o)
  have hXz1 : Bx < w1.heap.size := Nat.lt_of_lt_of_le hXz ho1.size
  have hBz1 : Br < w1.heap.size := Nat.lt_of_lt_of_le hBz ho1.size
  clear hR1 ho1 hB hM
  go_wp2
  go_ret
  exact ⟨rfl, k1, HR1.out, XC 0⟩

set_option maxRecDepth 100000 in
set_option maxHeartbeats 2000000 in
theorem tx1_some (g B Br Bm Bx : Nat) (ns : List Nat) (a : Nat) (m : Nat) (w : World) (hR : RAny w g B ns a) (hB : ∀ o, w.cell? ⟨Br, o, none⟩ = (#[Value.pointer (some ⟨g, 0, none⟩)] : Array Value)[o]?) (hM : ∀ o, w.cell? ⟨Bm, o, none⟩ = (#[Value.int .i64 (m : Int)] : Array Value)[o]?) (hBz : Br < w.heap.size) (hMz : Bm < w.heap.size) (hXz : Bx < w.heap.size) (hX : ∀ o, w.cell? ⟨Bx, o, none⟩ = (#[Value.string ⟨#[]⟩] : Array Value)[o]?) (hXf : ∀ o, w.frozen? ⟨Bx, o, none⟩ = false) (d1 : Br ≠ g) (d2 : Bx ≠ g) (d3 : Bx ≠ Br) (d4 : B ≤ Bx) (d5 : Bm ≠ g) (d6 : Bx ≠ Bm) (hm : m ≤ 9223372036854775807) (hE : (lg ns a m).2.1 = 0) (hn : 0 < (lg ns a m).1) : Calls Try.prog 75 #[.pointer (some ⟨Bm, 0, none⟩), .pointer (some ⟨Br, 0, none⟩), .pointer (some ⟨Bx, 0, none⟩)] w (fun e w' => e = .returned (.int .i64 0) ∧ Only2 g Bx w w' ∧ RAny w' g B ns ((lg ns a m).2.2 + (lg ns a m).1) ∧ w'.cell? ⟨Bx, 0, none⟩ = some (.string (bstr ((ns.drop (lg ns a m).2.2).take (lg ns a m).1)))) := by
  have hlk := lg_ok ns a m hE
  have hne : ns ≠ [] := by rintro rfl; have := rd_some hlk.1; simp at this
  have hmo := hR.more
  have hfit : (lg ns a m).2.2 + (lg ns a m).1 ≤ ns.length := by
    have q := rd_place ns a hmo.1
    rw [hlk.2.2.2]
    show (rd ns a).2.2 + (rd ns a).1 ≤ _
    omega
  have hmo2 := hmo.2.1
  clear hlk hmo
  have HR := hide hR
  have HX := hide hX
  have HXF := hide hXf
  clear hR hX hXf
  go_enter Try.func75, Try.ntmps75
  go_wp2_with fail
  refine (long_c g B ns a m _ HR.out hm).mono ?_
  rw [hE]
  rintro e w1 ⟨rfl, ho1, hR1⟩
  have HR1 := hide hR1
  have k1 : Only2 g Bx w w1 := Only2.of_only ho1
  have XC : ∀ o, w1.cell? ⟨Bx, o, none⟩ = (#[Value.string ⟨#[]⟩] : Array Value)[o]? := fun o => (World.cell?_of_block (ho1.block Bx hXz d2)).trans (HX.out o)
  have XF : ∀ o, w1.frozen? ⟨Bx, o, none⟩ = false := fun o => (World.frozen?_of_block (ho1.block Bx hXz d2)).trans (HXF.out o)
  have BC : ∀ o, w1.cell? ⟨Br, o, none⟩ = (#[Value.pointer (some ⟨g, 0, none⟩)] : Array Value)[o]? := fun o => (World.cell?_of_block (ho1.block Br hBz d1)).trans (hB o)
  have hXz1 : Bx < w1.heap.size := Nat.lt_of_lt_of_le hXz ho1.size
  have hBz1 : Br < w1.heap.size := Nat.lt_of_lt_of_le hBz ho1.size
  clear hR1 ho1 hB hM
  clear HR HX HXF
  have hE' := hide hE
  clear hE
  have hne2 := hide hne
  clear hne
  generalize hpl : (lg ns a m).2.2 = pl at *
  generalize hnn : (lg ns a m).1 = n at *
  have HPL := hide hpl
  have HNN := hide hnn
  clear hpl hnn
  obtain ⟨b, off, cap, hbB, hO⟩ := HR1.out.obj hne2.out
  have HO := hide hO
  obtain ⟨r1, r2, r3, r4, r5, r6, r7, r8, r9, r10⟩ := hO
  have R7 := hide r7
  have HB1 := hide HR1.out.1
  have hca : ¬ cap = pl := by omega
  have hw : IntKind.i64.wrap ((pl : Int) + (n : Int)) = ((pl + n : Nat) : Int) := by (simp [IntKind.wrap, IntKind.bits, IntKind.signed]; omega)
  have hwc : pl + n ≤ cap := by omega
  have CV := run_convert_bytes_arg (P := Try.prog) w1.drew 28 5 Try.underlying28 Try.underlying5 b (off + pl) n (cap - pl) (((ns.drop pl).take n).map (fun (x : Nat) => (x : Int))) (by simp; omega) (fun i hi => by
    have q := r6 (pl + i) (by omega)
    rw [← Nat.add_assoc] at q
    rw [World.cell?_drew, q]
    have e1 : (((ns.drop pl).take n).map (fun (x : Nat) => (x : Int))).getD i 0 = ((ns.getD (pl + i) 0 : Nat) : Int) := by
      simp [List.getD, hi, show pl + i < ns.length by omega]
    rw [e1]) 9 Try.underlying9
  have CV' : Sem.run Try.prog (convert 28 9 (.slice (some ⟨b, off + pl, none⟩) n (cap - pl))) w1.drew = .ok (.string (bstr ((ns.drop pl).take n))) w1.drew := CV
  clear r6 r7 CV R7
  generalize hst : bstr ((ns.drop pl).take n) = st at *
  have HST := hide hst
  clear hst
  go_wp2
  go_region
  go_wp2
  go_ret
  rw [HPL.out, HNN.out]
  refine ⟨rfl, ((k1.set 0 _).setg 1 _).trans (Only2.of_below (drewB _)), ?_, ?_⟩
  · have q := ((HR1.out.set d2 d4 0 (.string st)).reset (a0 := pl + n) (by omega)).below (drewB _)
    rw [Int.natCast_add] at q
    exact q
  · rw [HST.out]
    simp [go_sem, XC, d2]

set_option maxRecDepth 100000 in
set_option maxHeartbeats 2000000 in
theorem tx1_none (g B Br Bm Bx : Nat) (ns : List Nat) (a : Nat) (m : Nat) (w : World) (hR : RAny w g B ns a) (hB : ∀ o, w.cell? ⟨Br, o, none⟩ = (#[Value.pointer (some ⟨g, 0, none⟩)] : Array Value)[o]?) (hM : ∀ o, w.cell? ⟨Bm, o, none⟩ = (#[Value.int .i64 (m : Int)] : Array Value)[o]?) (hBz : Br < w.heap.size) (hMz : Bm < w.heap.size) (hXz : Bx < w.heap.size) (hX : ∀ o, w.cell? ⟨Bx, o, none⟩ = (#[Value.string ⟨#[]⟩] : Array Value)[o]?) (hXf : ∀ o, w.frozen? ⟨Bx, o, none⟩ = false) (d1 : Br ≠ g) (d2 : Bx ≠ g) (d3 : Bx ≠ Br) (d4 : B ≤ Bx) (d5 : Bm ≠ g) (d6 : Bx ≠ Bm) (hm : m ≤ 9223372036854775807) (hE : (lg ns a m).2.1 = 0) (hn : (lg ns a m).1 = 0) : Calls Try.prog 75 #[.pointer (some ⟨Bm, 0, none⟩), .pointer (some ⟨Br, 0, none⟩), .pointer (some ⟨Bx, 0, none⟩)] w (fun e w' => e = .returned (.int .i64 0) ∧ Only2 g Bx w w' ∧ RAny w' g B ns ((lg ns a m).2.2 + (lg ns a m).1) ∧ w'.cell? ⟨Bx, 0, none⟩ = some (.string (bstr ((ns.drop (lg ns a m).2.2).take (lg ns a m).1)))) := by
  have hlk := lg_ok ns a m hE
  have hne : ns ≠ [] := by rintro rfl; have := rd_some hlk.1; simp at this
  have hmo := hR.more
  have hfit : (lg ns a m).2.2 + (lg ns a m).1 ≤ ns.length := by
    have q := rd_place ns a hmo.1
    rw [hlk.2.2.2]
    show (rd ns a).2.2 + (rd ns a).1 ≤ _
    omega
  have hmo2 := hmo.2.1
  clear hlk hmo
  have HR := hide hR
  have HX := hide hX
  have HXF := hide hXf
  clear hR hX hXf
  go_enter Try.func75, Try.ntmps75
  go_wp2_with fail
  refine (long_c g B ns a m _ HR.out hm).mono ?_
  rw [hE]
  rintro e w1 ⟨rfl, ho1, hR1⟩
  have HR1 := hide hR1
  have k1 : Only2 g Bx w w1 := Only2.of_only ho1
  have XC : ∀ o, w1.cell? ⟨Bx, o, none⟩ = (#[Value.string ⟨#[]⟩] : Array Value)[o]? := fun o => (World.cell?_of_block (ho1.block Bx hXz d2)).trans (HX.out o)
  have XF : ∀ o, w1.frozen? ⟨Bx, o, none⟩ = false := fun o => (World.frozen?_of_block (ho1.block Bx hXz d2)).trans (HXF.out o)
  have BC : ∀ o, w1.cell? ⟨Br, o, none⟩ = (#[Value.pointer (some ⟨g, 0, none⟩)] : Array Value)[o]? := fun o => (World.cell?_of_block (ho1.block Br hBz d1)).trans (hB o)
  have hXz1 : Bx < w1.heap.size := Nat.lt_of_lt_of_le hXz ho1.size
  have hBz1 : Br < w1.heap.size := Nat.lt_of_lt_of_le hBz ho1.size
  clear hR1 ho1 hB hM
  clear HR HX HXF
  have hE' := hide hE
  clear hE
  have hne2 := hide hne
  clear hne
  generalize hpl : (lg ns a m).2.2 = pl at *
  generalize hnn : (lg ns a m).1 = n at *
  have HPL := hide hpl
  have HNN := hide hnn
  clear hpl hnn
  obtain ⟨b, off, cap, hbB, hO⟩ := HR1.out.obj hne2.out
  have HO := hide hO
  obtain ⟨r1, r2, r3, r4, r5, r6, r7, r8, r9, r10⟩ := hO
  have R7 := hide r7
  have HB1 := hide HR1.out.1
  subst hn
  clear r6 r7 R7
  by_cases hca : cap = pl
  · have CV := fun p c => convert_zero w1.drew p c
    go_wp2
    go_region
    go_wp2
    go_ret
    rw [HPL.out, HNN.out]
    refine ⟨rfl, ((k1.set 0 _).setg 1 _).trans (Only2.of_below (drewB _)), ?_, ?_⟩
    · exact ((HR1.out.set d2 d4 0 (.string ⟨#[]⟩)).reset (a0 := pl) (by omega)).below (drewB _)
    · rw [List.take_zero, bstr_nil]
      simp [go_sem, XC, d2]
  · have CV := fun p c => convert_zero w1.drew p c
    go_wp2
    go_region
    go_wp2
    go_ret
    rw [HPL.out, HNN.out]
    refine ⟨rfl, ((k1.set 0 _).setg 1 _).trans (Only2.of_below (drewB _)), ?_, ?_⟩
    · exact ((HR1.out.set d2 d4 0 (.string ⟨#[]⟩)).reset (a0 := pl) (by omega)).below (drewB _)
    · rw [List.take_zero, bstr_nil]
      simp [go_sem, XC, d2]
end Go.Proofs.Ytajkgecegefnmaa
