import Derived.Test.YtajkgecegefnmaaTm
namespace Go.Proofs.Ytajkgecegefnmaa
open Go.ChangeShapes Go.WideShapes Go.ChangeAt Go.RowKit Go.Deep
set_option linter.unusedSimpArgs false
set_option linter.unusedVariables false

set_option maxRecDepth 100000 in
set_option maxHeartbeats 2000000 in
theorem RText_neg (g B : Nat) (ns : List Nat) (a : Nat) (m : Int) (w : World) (hR : RAny w g B ns a) (hm : m < 0) : Calls Try.prog 44 #[.pointer (some ⟨g, 0, none⟩), .int .i64 m] w (fun e w' => e = .returned (.tuple #[.string ⟨#[]⟩, .int .i64 2]) ∧ Only g w w' ∧ RAny w' g B ns a) := by
  have hB0 : Below w.heap.size w (((w.alloc (.cells #[Value.pointer (some ⟨g, 0, none⟩)] 35)).alloc (.cells #[Value.int .i64 m] 3)).alloc (.cells #[Value.string ⟨#[]⟩] 9)) := by (focus repeat' (first | (with_reducible exact Below.refl _ _) | (with_reducible assumption) | (with_reducible refine Below.alloc ?_ ?_ _) | (with_reducible refine Below.drew ?_) | (with_reducible refine bdrewN ?_ _) | (with_reducible refine Below.setCell ?_ ?_ _) | (first | (with_reducible exact Nat.le_refl _) | (with_reducible assumption) | omega | (simp; omega) | (simp; done))))
  have HR0 := hide (hR.below hB0)
  have HB0 := hide hB0
  have cB : ∀ o, (((w.alloc (.cells #[Value.pointer (some ⟨g, 0, none⟩)] 35)).alloc (.cells #[Value.int .i64 m] 3)).alloc (.cells #[Value.string ⟨#[]⟩] 9)).cell? ⟨w.heap.size, o, none⟩ = (#[Value.pointer (some ⟨g, 0, none⟩)] : Array Value)[o]? := fun o => by simp [go_sem]
  have cM : ∀ o, (((w.alloc (.cells #[Value.pointer (some ⟨g, 0, none⟩)] 35)).alloc (.cells #[Value.int .i64 m] 3)).alloc (.cells #[Value.string ⟨#[]⟩] 9)).cell? ⟨w.heap.size + 1, o, none⟩ = (#[Value.int .i64 m] : Array Value)[o]? := fun o => by simp [go_sem]
  have cX : ∀ o, (((w.alloc (.cells #[Value.pointer (some ⟨g, 0, none⟩)] 35)).alloc (.cells #[Value.int .i64 m] 3)).alloc (.cells #[Value.string ⟨#[]⟩] 9)).cell? ⟨w.heap.size + 2, o, none⟩ = (#[Value.string ⟨#[]⟩] : Array Value)[o]? := fun o => by simp [go_sem]
  have fX : ∀ o, (((w.alloc (.cells #[Value.pointer (some ⟨g, 0, none⟩)] 35)).alloc (.cells #[Value.int .i64 m] 3)).alloc (.cells #[Value.string ⟨#[]⟩] 9)).frozen? ⟨w.heap.size + 2, o, none⟩ = false := fun o => by simp [go_sem]
  have zB : w.heap.size < (((w.alloc (.cells #[Value.pointer (some ⟨g, 0, none⟩)] 35)).alloc (.cells #[Value.int .i64 m] 3)).alloc (.cells #[Value.string ⟨#[]⟩] 9)).heap.size := by (simp; omega)
  have zM : w.heap.size + 1 < (((w.alloc (.cells #[Value.pointer (some ⟨g, 0, none⟩)] 35)).alloc (.cells #[Value.int .i64 m] 3)).alloc (.cells #[Value.string ⟨#[]⟩] 9)).heap.size := by (first | (with_reducible exact Nat.le_refl _) | (with_reducible assumption) | omega | (simp; omega) | (simp; done))
  have zX : w.heap.size + 2 < (((w.alloc (.cells #[Value.pointer (some ⟨g, 0, none⟩)] 35)).alloc (.cells #[Value.int .i64 m] 3)).alloc (.cells #[Value.string ⟨#[]⟩] 9)).heap.size := by (first | (with_reducible exact Nat.le_refl _) | (with_reducible assumption) | omega | (simp; omega) | (simp; done))
  have hg : g < w.heap.size := hR.cells.1
  have hb : B ≤ w.heap.size := hR.1
  have hle : a ≤ ns.length := hR.more.1
  obtain ⟨r1, r2, r3⟩ := HR0.out.cells
  clear hR hB0
  go_enter Try.func44, Try.ntmps44
  go_wp2_with (go_at_call 52; go_in)
  refine (tx1_neg g B w.heap.size (w.heap.size + 1) (w.heap.size + 2) ns a m _ HR0.out cB cM zB zM zX cX fX (by omega) (by omega) (by omega) (by omega) (by omega) (by omega) hm).mono ?_
  rintro e w1 ⟨rfl, ho, hR1, hx⟩
  have HO := hide ho
  have HR1 := hide hR1
  obtain ⟨t1, t2, t3⟩ := hR1.cells
  clear ho hR1 r1 r2 r3 cB cM cX fX zB zM zX
  go_wp2
  go_ret2
  exact ⟨rfl, (Only2.only HB0.out HO.out (by omega)).set 1 _, HR1.out.reset hle⟩

set_option maxRecDepth 100000 in
set_option maxHeartbeats 2000000 in
theorem RText_bad (g B : Nat) (ns : List Nat) (a : Nat) (m : Nat) (w : World) (hR : RAny w g B ns a) (hm : m ≤ 9223372036854775807) (hE : (lg ns a m).2.1 ≠ 0) : Calls Try.prog 44 #[.pointer (some ⟨g, 0, none⟩), .int .i64 (m : Int)] w (fun e w' => e = .returned (.tuple #[.string ⟨#[]⟩, .int .i64 ((lg ns a m).2.1 : Int)]) ∧ Only g w w' ∧ RAny w' g B ns a) := by
  have hE2 : ((lg ns a m).2.1 : Int) ≠ 0 := by omega
  have hB0 : Below w.heap.size w (((w.alloc (.cells #[Value.pointer (some ⟨g, 0, none⟩)] 35)).alloc (.cells #[Value.int .i64 (m : Int)] 3)).alloc (.cells #[Value.string ⟨#[]⟩] 9)) := by (focus repeat' (first | (with_reducible exact Below.refl _ _) | (with_reducible assumption) | (with_reducible refine Below.alloc ?_ ?_ _) | (with_reducible refine Below.drew ?_) | (with_reducible refine bdrewN ?_ _) | (with_reducible refine Below.setCell ?_ ?_ _) | (first | (with_reducible exact Nat.le_refl _) | (with_reducible assumption) | omega | (simp; omega) | (simp; done))))
  have HR0 := hide (hR.below hB0)
  have HB0 := hide hB0
  have cB : ∀ o, (((w.alloc (.cells #[Value.pointer (some ⟨g, 0, none⟩)] 35)).alloc (.cells #[Value.int .i64 (m : Int)] 3)).alloc (.cells #[Value.string ⟨#[]⟩] 9)).cell? ⟨w.heap.size, o, none⟩ = (#[Value.pointer (some ⟨g, 0, none⟩)] : Array Value)[o]? := fun o => by simp [go_sem]
  have cM : ∀ o, (((w.alloc (.cells #[Value.pointer (some ⟨g, 0, none⟩)] 35)).alloc (.cells #[Value.int .i64 (m : Int)] 3)).alloc (.cells #[Value.string ⟨#[]⟩] 9)).cell? ⟨w.heap.size + 1, o, none⟩ = (#[Value.int .i64 (m : Int)] : Array Value)[o]? := fun o => by simp [go_sem]
  have cX : ∀ o, (((w.alloc (.cells #[Value.pointer (some ⟨g, 0, none⟩)] 35)).alloc (.cells #[Value.int .i64 (m : Int)] 3)).alloc (.cells #[Value.string ⟨#[]⟩] 9)).cell? ⟨w.heap.size + 2, o, none⟩ = (#[Value.string ⟨#[]⟩] : Array Value)[o]? := fun o => by simp [go_sem]
  have fX : ∀ o, (((w.alloc (.cells #[Value.pointer (some ⟨g, 0, none⟩)] 35)).alloc (.cells #[Value.int .i64 (m : Int)] 3)).alloc (.cells #[Value.string ⟨#[]⟩] 9)).frozen? ⟨w.heap.size + 2, o, none⟩ = false := fun o => by simp [go_sem]
  have zB : w.heap.size < (((w.alloc (.cells #[Value.pointer (some ⟨g, 0, none⟩)] 35)).alloc (.cells #[Value.int .i64 (m : Int)] 3)).alloc (.cells #[Value.string ⟨#[]⟩] 9)).heap.size := by (simp; omega)
  have zM : w.heap.size + 1 < (((w.alloc (.cells #[Value.pointer (some ⟨g, 0, none⟩)] 35)).alloc (.cells #[Value.int .i64 (m : Int)] 3)).alloc (.cells #[Value.string ⟨#[]⟩] 9)).heap.size := by (first | (with_reducible exact Nat.le_refl _) | (with_reducible assumption) | omega | (simp; omega) | (simp; done))
  have zX : w.heap.size + 2 < (((w.alloc (.cells #[Value.pointer (some ⟨g, 0, none⟩)] 35)).alloc (.cells #[Value.int .i64 (m : Int)] 3)).alloc (.cells #[Value.string ⟨#[]⟩] 9)).heap.size := by (first | (with_reducible exact Nat.le_refl _) | (with_reducible assumption) | omega | (simp; omega) | (simp; done))
  have hg : g < w.heap.size := hR.cells.1
  have hb : B ≤ w.heap.size := hR.1
  have hle : a ≤ ns.length := hR.more.1
  obtain ⟨r1, r2, r3⟩ := HR0.out.cells
  clear hR hB0
  go_enter Try.func44, Try.ntmps44
  go_wp2_with (go_at_call 52; go_in)
  refine (tx1_bad g B w.heap.size (w.heap.size + 1) (w.heap.size + 2) ns a m _ HR0.out cB cM zB zM zX cX fX (by omega) (by omega) (by omega) (by omega) (by omega) (by omega) hm hE).mono ?_
  rintro e w1 ⟨rfl, ho, hR1, hx⟩
  have HO := hide ho
  have HR1 := hide hR1
  obtain ⟨t1, t2, t3⟩ := hR1.cells
  clear ho hR1 r1 r2 r3 cB cM cX fX zB zM zX
  go_wp2
  go_ret2
  exact ⟨rfl, (Only2.only HB0.out HO.out (by omega)).set 1 _, HR1.out.reset hle⟩

set_option maxRecDepth 100000 in
set_option maxHeartbeats 2000000 in
theorem RText_some (g B : Nat) (ns : List Nat) (a : Nat) (m : Nat) (w : World) (hR : RAny w g B ns a) (hm : m ≤ 9223372036854775807) (hE : (lg ns a m).2.1 = 0) (hn : 0 < (lg ns a m).1) : Calls Try.prog 44 #[.pointer (some ⟨g, 0, none⟩), .int .i64 (m : Int)] w (fun e w' => e = .returned (.tuple #[.string (bstr ((ns.drop (lg ns a m).2.2).take (lg ns a m).1)), .int .i64 0]) ∧ Only g w w' ∧ RAny w' g B ns ((lg ns a m).2.2 + (lg ns a m).1)) := by
  have Hn := hide hn
  clear hn
  have hB0 : Below w.heap.size w (((w.alloc (.cells #[Value.pointer (some ⟨g, 0, none⟩)] 35)).alloc (.cells #[Value.int .i64 (m : Int)] 3)).alloc (.cells #[Value.string ⟨#[]⟩] 9)) := by (focus repeat' (first | (with_reducible exact Below.refl _ _) | (with_reducible assumption) | (with_reducible refine Below.alloc ?_ ?_ _) | (with_reducible refine Below.drew ?_) | (with_reducible refine bdrewN ?_ _) | (with_reducible refine Below.setCell ?_ ?_ _) | (first | (with_reducible exact Nat.le_refl _) | (with_reducible assumption) | omega | (simp; omega) | (simp; done))))
  have HR0 := hide (hR.below hB0)
  have HB0 := hide hB0
  have cB : ∀ o, (((w.alloc (.cells #[Value.pointer (some ⟨g, 0, none⟩)] 35)).alloc (.cells #[Value.int .i64 (m : Int)] 3)).alloc (.cells #[Value.string ⟨#[]⟩] 9)).cell? ⟨w.heap.size, o, none⟩ = (#[Value.pointer (some ⟨g, 0, none⟩)] : Array Value)[o]? := fun o => by simp [go_sem]
  have cM : ∀ o, (((w.alloc (.cells #[Value.pointer (some ⟨g, 0, none⟩)] 35)).alloc (.cells #[Value.int .i64 (m : Int)] 3)).alloc (.cells #[Value.string ⟨#[]⟩] 9)).cell? ⟨w.heap.size + 1, o, none⟩ = (#[Value.int .i64 (m : Int)] : Array Value)[o]? := fun o => by simp [go_sem]
  have cX : ∀ o, (((w.alloc (.cells #[Value.pointer (some ⟨g, 0, none⟩)] 35)).alloc (.cells #[Value.int .i64 (m : Int)] 3)).alloc (.cells #[Value.string ⟨#[]⟩] 9)).cell? ⟨w.heap.size + 2, o, none⟩ = (#[Value.string ⟨#[]⟩] : Array Value)[o]? := fun o => by simp [go_sem]
  have fX : ∀ o, (((w.alloc (.cells #[Value.pointer (some ⟨g, 0, none⟩)] 35)).alloc (.cells #[Value.int .i64 (m : Int)] 3)).alloc (.cells #[Value.string ⟨#[]⟩] 9)).frozen? ⟨w.heap.size + 2, o, none⟩ = false := fun o => by simp [go_sem]
  have zB : w.heap.size < (((w.alloc (.cells #[Value.pointer (some ⟨g, 0, none⟩)] 35)).alloc (.cells #[Value.int .i64 (m : Int)] 3)).alloc (.cells #[Value.string ⟨#[]⟩] 9)).heap.size := by (simp; omega)
  have zM : w.heap.size + 1 < (((w.alloc (.cells #[Value.pointer (some ⟨g, 0, none⟩)] 35)).alloc (.cells #[Value.int .i64 (m : Int)] 3)).alloc (.cells #[Value.string ⟨#[]⟩] 9)).heap.size := by (first | (with_reducible exact Nat.le_refl _) | (with_reducible assumption) | omega | (simp; omega) | (simp; done))
  have zX : w.heap.size + 2 < (((w.alloc (.cells #[Value.pointer (some ⟨g, 0, none⟩)] 35)).alloc (.cells #[Value.int .i64 (m : Int)] 3)).alloc (.cells #[Value.string ⟨#[]⟩] 9)).heap.size := by (first | (with_reducible exact Nat.le_refl _) | (with_reducible assumption) | omega | (simp; omega) | (simp; done))
  have hg : g < w.heap.size := hR.cells.1
  have hb : B ≤ w.heap.size := hR.1
  have hle : a ≤ ns.length := hR.more.1
  obtain ⟨r1, r2, r3⟩ := HR0.out.cells
  clear hR hB0
  go_enter Try.func44, Try.ntmps44
  go_wp2_with (go_at_call 52; go_in)
  refine (tx1_some g B w.heap.size (w.heap.size + 1) (w.heap.size + 2) ns a m _ HR0.out cB cM zB zM zX cX fX (by omega) (by omega) (by omega) (by omega) (by omega) (by omega) hm hE Hn.out).mono ?_
  rintro e w1 ⟨rfl, ho, hR1, hx⟩
  have HO := hide ho
  have HR1 := hide hR1
  obtain ⟨t1, t2, t3⟩ := hR1.cells
  clear ho hR1 r1 r2 r3 cB cM cX fX zB zM zX
  clear hE
  generalize hst : bstr ((ns.drop (lg ns a m).2.2).take (lg ns a m).1) = st at hx
  have Hst := hide hst
  clear hst
  go_wp2
  go_ret2
  exact ⟨by (first | rfl | (rw [Hst.out]; rfl) | (rw [← Hst.out]; rfl)), Only2.only HB0.out HO.out (by omega), HR1.out⟩

set_option maxRecDepth 100000 in
set_option maxHeartbeats 2000000 in
theorem RText_none (g B : Nat) (ns : List Nat) (a : Nat) (m : Nat) (w : World) (hR : RAny w g B ns a) (hm : m ≤ 9223372036854775807) (hE : (lg ns a m).2.1 = 0) (hn : (lg ns a m).1 = 0) : Calls Try.prog 44 #[.pointer (some ⟨g, 0, none⟩), .int .i64 (m : Int)] w (fun e w' => e = .returned (.tuple #[.string (bstr ((ns.drop (lg ns a m).2.2).take (lg ns a m).1)), .int .i64 0]) ∧ Only g w w' ∧ RAny w' g B ns ((lg ns a m).2.2 + (lg ns a m).1)) := by
  have Hn := hide hn
  clear hn
  have hB0 : Below w.heap.size w (((w.alloc (.cells #[Value.pointer (some ⟨g, 0, none⟩)] 35)).alloc (.cells #[Value.int .i64 (m : Int)] 3)).alloc (.cells #[Value.string ⟨#[]⟩] 9)) := by (focus repeat' (first | (with_reducible exact Below.refl _ _) | (with_reducible assumption) | (with_reducible refine Below.alloc ?_ ?_ _) | (with_reducible refine Below.drew ?_) | (with_reducible refine bdrewN ?_ _) | (with_reducible refine Below.setCell ?_ ?_ _) | (first | (with_reducible exact Nat.le_refl _) | (with_reducible assumption) | omega | (simp; omega) | (simp; done))))
  have HR0 := hide (hR.below hB0)
  have HB0 := hide hB0
  have cB : ∀ o, (((w.alloc (.cells #[Value.pointer (some ⟨g, 0, none⟩)] 35)).alloc (.cells #[Value.int .i64 (m : Int)] 3)).alloc (.cells #[Value.string ⟨#[]⟩] 9)).cell? ⟨w.heap.size, o, none⟩ = (#[Value.pointer (some ⟨g, 0, none⟩)] : Array Value)[o]? := fun o => by simp [go_sem]
  have cM : ∀ o, (((w.alloc (.cells #[Value.pointer (some ⟨g, 0, none⟩)] 35)).alloc (.cells #[Value.int .i64 (m : Int)] 3)).alloc (.cells #[Value.string ⟨#[]⟩] 9)).cell? ⟨w.heap.size + 1, o, none⟩ = (#[Value.int .i64 (m : Int)] : Array Value)[o]? := fun o => by simp [go_sem]
  have cX : ∀ o, (((w.alloc (.cells #[Value.pointer (some ⟨g, 0, none⟩)] 35)).alloc (.cells #[Value.int .i64 (m : Int)] 3)).alloc (.cells #[Value.string ⟨#[]⟩] 9)).cell? ⟨w.heap.size + 2, o, none⟩ = (#[Value.string ⟨#[]⟩] : Array Value)[o]? := fun o => by simp [go_sem]
  have fX : ∀ o, (((w.alloc (.cells #[Value.pointer (some ⟨g, 0, none⟩)] 35)).alloc (.cells #[Value.int .i64 (m : Int)] 3)).alloc (.cells #[Value.string ⟨#[]⟩] 9)).frozen? ⟨w.heap.size + 2, o, none⟩ = false := fun o => by simp [go_sem]
  have zB : w.heap.size < (((w.alloc (.cells #[Value.pointer (some ⟨g, 0, none⟩)] 35)).alloc (.cells #[Value.int .i64 (m : Int)] 3)).alloc (.cells #[Value.string ⟨#[]⟩] 9)).heap.size := by (simp; omega)
  have zM : w.heap.size + 1 < (((w.alloc (.cells #[Value.pointer (some ⟨g, 0, none⟩)] 35)).alloc (.cells #[Value.int .i64 (m : Int)] 3)).alloc (.cells #[Value.string ⟨#[]⟩] 9)).heap.size := by (first | (with_reducible exact Nat.le_refl _) | (with_reducible assumption) | omega | (simp; omega) | (simp; done))
  have zX : w.heap.size + 2 < (((w.alloc (.cells #[Value.pointer (some ⟨g, 0, none⟩)] 35)).alloc (.cells #[Value.int .i64 (m : Int)] 3)).alloc (.cells #[Value.string ⟨#[]⟩] 9)).heap.size := by (first | (with_reducible exact Nat.le_refl _) | (with_reducible assumption) | omega | (simp; omega) | (simp; done))
  have hg : g < w.heap.size := hR.cells.1
  have hb : B ≤ w.heap.size := hR.1
  have hle : a ≤ ns.length := hR.more.1
  obtain ⟨r1, r2, r3⟩ := HR0.out.cells
  clear hR hB0
  go_enter Try.func44, Try.ntmps44
  go_wp2_with (go_at_call 52; go_in)
  refine (tx1_none g B w.heap.size (w.heap.size + 1) (w.heap.size + 2) ns a m _ HR0.out cB cM zB zM zX cX fX (by omega) (by omega) (by omega) (by omega) (by omega) (by omega) hm hE Hn.out).mono ?_
  rintro e w1 ⟨rfl, ho, hR1, hx⟩
  have HO := hide ho
  have HR1 := hide hR1
  obtain ⟨t1, t2, t3⟩ := hR1.cells
  clear ho hR1 r1 r2 r3 cB cM cX fX zB zM zX
  clear hE
  generalize hst : bstr ((ns.drop (lg ns a m).2.2).take (lg ns a m).1) = st at hx
  have Hst := hide hst
  clear hst
  go_wp2
  go_ret2
  exact ⟨by (first | rfl | (rw [Hst.out]; rfl) | (rw [← Hst.out]; rfl)), Only2.only HB0.out HO.out (by omega), HR1.out⟩

theorem RText_c (g B : Nat) (ns : List Nat) (a : Nat) (m : Nat) (w : World) (hR : RAny w g B ns a) (hm : m ≤ 9223372036854775807) : Calls Try.prog 44 #[.pointer (some ⟨g, 0, none⟩), .int .i64 (m : Int)] w (fun e w' => e = .returned (.tuple #[.string (bstr (tx ns a m).1), .int .i64 ((tx ns a m).2.1 : Int)]) ∧ Only g w w' ∧ RAny w' g B ns (tx ns a m).2.2) := by
  by_cases hE : (lg ns a m).2.1 = 0
  · have q : tx ns a m = ((ns.drop (lg ns a m).2.2).take (lg ns a m).1, 0, (lg ns a m).2.2 + (lg ns a m).1) := by unfold tx; rw [if_neg (by omega)]
    rw [q]
    by_cases hn : 0 < (lg ns a m).1
    · exact RText_some g B ns a m w hR hm hE hn
    · exact RText_none g B ns a m w hR hm hE (by omega)
  · have q : tx ns a m = ([], (lg ns a m).2.1, a) := by unfold tx; rw [if_pos hE]
    rw [q, bstr_nil]
    exact RText_bad g B ns a m w hR hm hE
end Go.Proofs.Ytajkgecegefnmaa
