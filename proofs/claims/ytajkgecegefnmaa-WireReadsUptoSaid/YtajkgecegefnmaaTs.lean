import Derived.Test.YtajkgecegefnmaaTr
import Derived.Test.YtajkgecegefnmaaTq
namespace Go.Proofs.Ytajkgecegefnmaa
open Go.ChangeShapes Go.WideShapes Go.ChangeAt Go.RowKit Go.Deep
set_option linter.unusedSimpArgs false
set_option linter.unusedVariables false

set_option maxRecDepth 100000 in
set_option maxHeartbeats 2000000 in
theorem Take_S_neg (g B : Nat) (ns : List Nat) (a : Nat) (m : Int) (w : World) (hR : RAny w g B ns a) (hm : m < 0) : Calls Try.prog 66 #[.pointer (some ⟨g, 0, none⟩), .int .i64 m, .func (.func 67) #[] #[]] w (fun e w' => ∃ v, e = .returned (.tuple #[v, .int .i64 2]) ∧ Only g w w' ∧ RAny w' g B ns a ∧ w'.ownsRow w.heap.size 9 1 v ([] : List Value).length ([] : List Value)) := by
  have hB0 : Below w.heap.size w (((((w.alloc (.cells #[Value.pointer (some ⟨g, 0, none⟩)] 35)).alloc (.cells #[Value.int .i64 m] 3)).alloc (.cells #[Value.func (.func 67) #[] #[]] 117)).alloc (.cells #[] 9)).alloc (.cells #[Value.slice (some ⟨w.heap.size + 3, 0, none⟩) 0 0] 58)) := by (focus repeat' (first | (with_reducible exact Below.refl _ _) | (with_reducible assumption) | (with_reducible refine Below.alloc ?_ ?_ _) | (with_reducible refine Below.drew ?_) | (with_reducible refine bdrewN ?_ _) | (with_reducible refine Below.setCell ?_ ?_ _) | (first | (with_reducible exact Nat.le_refl _) | (with_reducible assumption) | omega | (simp; omega) | (simp; done))))
  have HR0 := hide (hR.below hB0)
  have HB0 := hide hB0
  have cB : ∀ o, (((((w.alloc (.cells #[Value.pointer (some ⟨g, 0, none⟩)] 35)).alloc (.cells #[Value.int .i64 m] 3)).alloc (.cells #[Value.func (.func 67) #[] #[]] 117)).alloc (.cells #[] 9)).alloc (.cells #[Value.slice (some ⟨w.heap.size + 3, 0, none⟩) 0 0] 58)).cell? ⟨w.heap.size + 0, o, none⟩ = (#[Value.pointer (some ⟨g, 0, none⟩)] : Array Value)[o]? := fun o => by simp [go_sem]
  have cM : ∀ o, (((((w.alloc (.cells #[Value.pointer (some ⟨g, 0, none⟩)] 35)).alloc (.cells #[Value.int .i64 m] 3)).alloc (.cells #[Value.func (.func 67) #[] #[]] 117)).alloc (.cells #[] 9)).alloc (.cells #[Value.slice (some ⟨w.heap.size + 3, 0, none⟩) 0 0] 58)).cell? ⟨w.heap.size + 1, o, none⟩ = (#[Value.int .i64 m] : Array Value)[o]? := fun o => by simp [go_sem]
  have cT : ∀ o, (((((w.alloc (.cells #[Value.pointer (some ⟨g, 0, none⟩)] 35)).alloc (.cells #[Value.int .i64 m] 3)).alloc (.cells #[Value.func (.func 67) #[] #[]] 117)).alloc (.cells #[] 9)).alloc (.cells #[Value.slice (some ⟨w.heap.size + 3, 0, none⟩) 0 0] 58)).cell? ⟨w.heap.size + 2, o, none⟩ = (#[Value.func (.func 67) #[] #[]] : Array Value)[o]? := fun o => by simp [go_sem]
  have cO : ∀ o, (((((w.alloc (.cells #[Value.pointer (some ⟨g, 0, none⟩)] 35)).alloc (.cells #[Value.int .i64 m] 3)).alloc (.cells #[Value.func (.func 67) #[] #[]] 117)).alloc (.cells #[] 9)).alloc (.cells #[Value.slice (some ⟨w.heap.size + 3, 0, none⟩) 0 0] 58)).cell? ⟨w.heap.size + 4, o, none⟩ = (#[Value.slice (some ⟨w.heap.size + 3, 0, none⟩) 0 0] : Array Value)[o]? := fun o => by simp [go_sem]
  have fO : ∀ o, (((((w.alloc (.cells #[Value.pointer (some ⟨g, 0, none⟩)] 35)).alloc (.cells #[Value.int .i64 m] 3)).alloc (.cells #[Value.func (.func 67) #[] #[]] 117)).alloc (.cells #[] 9)).alloc (.cells #[Value.slice (some ⟨w.heap.size + 3, 0, none⟩) 0 0] 58)).frozen? ⟨w.heap.size + 4, o, none⟩ = false := fun o => by simp [go_sem]
  have zB : w.heap.size + 0 < (((((w.alloc (.cells #[Value.pointer (some ⟨g, 0, none⟩)] 35)).alloc (.cells #[Value.int .i64 m] 3)).alloc (.cells #[Value.func (.func 67) #[] #[]] 117)).alloc (.cells #[] 9)).alloc (.cells #[Value.slice (some ⟨w.heap.size + 3, 0, none⟩) 0 0] 58)).heap.size := by (first | (with_reducible exact Nat.le_refl _) | (with_reducible assumption) | omega | (simp; omega) | (simp; done))
  have zM : w.heap.size + 1 < (((((w.alloc (.cells #[Value.pointer (some ⟨g, 0, none⟩)] 35)).alloc (.cells #[Value.int .i64 m] 3)).alloc (.cells #[Value.func (.func 67) #[] #[]] 117)).alloc (.cells #[] 9)).alloc (.cells #[Value.slice (some ⟨w.heap.size + 3, 0, none⟩) 0 0] 58)).heap.size := by (first | (with_reducible exact Nat.le_refl _) | (with_reducible assumption) | omega | (simp; omega) | (simp; done))
  have zT : w.heap.size + 2 < (((((w.alloc (.cells #[Value.pointer (some ⟨g, 0, none⟩)] 35)).alloc (.cells #[Value.int .i64 m] 3)).alloc (.cells #[Value.func (.func 67) #[] #[]] 117)).alloc (.cells #[] 9)).alloc (.cells #[Value.slice (some ⟨w.heap.size + 3, 0, none⟩) 0 0] 58)).heap.size := by (first | (with_reducible exact Nat.le_refl _) | (with_reducible assumption) | omega | (simp; omega) | (simp; done))
  have zO : w.heap.size + 4 < (((((w.alloc (.cells #[Value.pointer (some ⟨g, 0, none⟩)] 35)).alloc (.cells #[Value.int .i64 m] 3)).alloc (.cells #[Value.func (.func 67) #[] #[]] 117)).alloc (.cells #[] 9)).alloc (.cells #[Value.slice (some ⟨w.heap.size + 3, 0, none⟩) 0 0] 58)).heap.size := by (first | (with_reducible exact Nat.le_refl _) | (with_reducible assumption) | omega | (simp; omega) | (simp; done))
  have own : (((((w.alloc (.cells #[Value.pointer (some ⟨g, 0, none⟩)] 35)).alloc (.cells #[Value.int .i64 m] 3)).alloc (.cells #[Value.func (.func 67) #[] #[]] 117)).alloc (.cells #[] 9)).alloc (.cells #[Value.slice (some ⟨w.heap.size + 3, 0, none⟩) 0 0] 58)).ownsRow w.heap.size 9 1 (.slice (some ⟨w.heap.size + 3, 0, none⟩) 0 0) 0 [] := by
    have q := (own_empty (((w.alloc (.cells #[Value.pointer (some ⟨g, 0, none⟩)] 35)).alloc (.cells #[Value.int .i64 m] 3)).alloc (.cells #[Value.func (.func 67) #[] #[]] 117)) 9 1 w.heap.size (by (simp; omega))).alloc (.cells #[Value.slice (some ⟨w.heap.size + 3, 0, none⟩) 0 0] 58)
    simpa using q
  have hg : g < w.heap.size := hR.cells.1
  have hb : B ≤ w.heap.size := hR.1
  have hle : a ≤ ns.length := hR.more.1
  obtain ⟨r1, r2, r3⟩ := HR0.out.cells
  clear hR hB0
  have CB := hide cB
  have CM := hide cM
  have CT := hide cT
  have CO := hide cO
  have FO := hide fO
  have OWN := hide own
  clear own cB cM cT cO fO
  go_enter Try.func66, Try.ntmps66
  go_wp2_with (go_at_call 52; go_in)
  refine (tk_S_neg g B w.heap.size (w.heap.size + 0) (w.heap.size + 1) (w.heap.size + 2) (w.heap.size + 4) (w.heap.size + 3) ns a m _ HR0.out CB.out CM.out CT.out CO.out FO.out OWN.out zB zM zT zO hg hb (by omega) (by omega) (by omega) hm).mono ?_
  rintro e w1 ⟨v, a', rfl, ho, hR1, hx⟩
  have HO := hide ho
  have HR1 := hide hR1
  obtain ⟨t1, t2, t3⟩ := hR1.cells
  clear ho hR1 r1 r2 r3 zB zM zT zO CB CM CT CO FO OWN
  go_wp2
  go_ret2
  exact ⟨_, rfl, (KB.only HB0.out HO.out).set 1 _, HR1.out.reset hle, by (refine ⟨rfl, .inl ⟨rfl, rfl⟩⟩)⟩

set_option maxRecDepth 100000 in
set_option maxHeartbeats 2000000 in
theorem Take_S_bad (g B : Nat) (ns : List Nat) (a : Nat) (m : Nat) (w : World) (hR : RAny w g B ns a) (hm : m ≤ 9223372036854775807) (hE : (lg ns a m).2.1 ≠ 0) : Calls Try.prog 66 #[.pointer (some ⟨g, 0, none⟩), .int .i64 (m : Int), .func (.func 67) #[] #[]] w (fun e w' => ∃ v, e = .returned (.tuple #[v, .int .i64 ((lg ns a m).2.1 : Int)]) ∧ Only g w w' ∧ RAny w' g B ns a ∧ w'.ownsRow w.heap.size 9 1 v ([] : List Value).length ([] : List Value)) := by
  have hE2 : ((lg ns a m).2.1 : Int) ≠ 0 := by omega
  have hB0 : Below w.heap.size w (((((w.alloc (.cells #[Value.pointer (some ⟨g, 0, none⟩)] 35)).alloc (.cells #[Value.int .i64 (m : Int)] 3)).alloc (.cells #[Value.func (.func 67) #[] #[]] 117)).alloc (.cells #[] 9)).alloc (.cells #[Value.slice (some ⟨w.heap.size + 3, 0, none⟩) 0 0] 58)) := by (focus repeat' (first | (with_reducible exact Below.refl _ _) | (with_reducible assumption) | (with_reducible refine Below.alloc ?_ ?_ _) | (with_reducible refine Below.drew ?_) | (with_reducible refine bdrewN ?_ _) | (with_reducible refine Below.setCell ?_ ?_ _) | (first | (with_reducible exact Nat.le_refl _) | (with_reducible assumption) | omega | (simp; omega) | (simp; done))))
  have HR0 := hide (hR.below hB0)
  have HB0 := hide hB0
  have cB : ∀ o, (((((w.alloc (.cells #[Value.pointer (some ⟨g, 0, none⟩)] 35)).alloc (.cells #[Value.int .i64 (m : Int)] 3)).alloc (.cells #[Value.func (.func 67) #[] #[]] 117)).alloc (.cells #[] 9)).alloc (.cells #[Value.slice (some ⟨w.heap.size + 3, 0, none⟩) 0 0] 58)).cell? ⟨w.heap.size + 0, o, none⟩ = (#[Value.pointer (some ⟨g, 0, none⟩)] : Array Value)[o]? := fun o => by simp [go_sem]
  have cM : ∀ o, (((((w.alloc (.cells #[Value.pointer (some ⟨g, 0, none⟩)] 35)).alloc (.cells #[Value.int .i64 (m : Int)] 3)).alloc (.cells #[Value.func (.func 67) #[] #[]] 117)).alloc (.cells #[] 9)).alloc (.cells #[Value.slice (some ⟨w.heap.size + 3, 0, none⟩) 0 0] 58)).cell? ⟨w.heap.size + 1, o, none⟩ = (#[Value.int .i64 (m : Int)] : Array Value)[o]? := fun o => by simp [go_sem]
  have cT : ∀ o, (((((w.alloc (.cells #[Value.pointer (some ⟨g, 0, none⟩)] 35)).alloc (.cells #[Value.int .i64 (m : Int)] 3)).alloc (.cells #[Value.func (.func 67) #[] #[]] 117)).alloc (.cells #[] 9)).alloc (.cells #[Value.slice (some ⟨w.heap.size + 3, 0, none⟩) 0 0] 58)).cell? ⟨w.heap.size + 2, o, none⟩ = (#[Value.func (.func 67) #[] #[]] : Array Value)[o]? := fun o => by simp [go_sem]
  have cO : ∀ o, (((((w.alloc (.cells #[Value.pointer (some ⟨g, 0, none⟩)] 35)).alloc (.cells #[Value.int .i64 (m : Int)] 3)).alloc (.cells #[Value.func (.func 67) #[] #[]] 117)).alloc (.cells #[] 9)).alloc (.cells #[Value.slice (some ⟨w.heap.size + 3, 0, none⟩) 0 0] 58)).cell? ⟨w.heap.size + 4, o, none⟩ = (#[Value.slice (some ⟨w.heap.size + 3, 0, none⟩) 0 0] : Array Value)[o]? := fun o => by simp [go_sem]
  have fO : ∀ o, (((((w.alloc (.cells #[Value.pointer (some ⟨g, 0, none⟩)] 35)).alloc (.cells #[Value.int .i64 (m : Int)] 3)).alloc (.cells #[Value.func (.func 67) #[] #[]] 117)).alloc (.cells #[] 9)).alloc (.cells #[Value.slice (some ⟨w.heap.size + 3, 0, none⟩) 0 0] 58)).frozen? ⟨w.heap.size + 4, o, none⟩ = false := fun o => by simp [go_sem]
  have zB : w.heap.size + 0 < (((((w.alloc (.cells #[Value.pointer (some ⟨g, 0, none⟩)] 35)).alloc (.cells #[Value.int .i64 (m : Int)] 3)).alloc (.cells #[Value.func (.func 67) #[] #[]] 117)).alloc (.cells #[] 9)).alloc (.cells #[Value.slice (some ⟨w.heap.size + 3, 0, none⟩) 0 0] 58)).heap.size := by (first | (with_reducible exact Nat.le_refl _) | (with_reducible assumption) | omega | (simp; omega) | (simp; done))
  have zM : w.heap.size + 1 < (((((w.alloc (.cells #[Value.pointer (some ⟨g, 0, none⟩)] 35)).alloc (.cells #[Value.int .i64 (m : Int)] 3)).alloc (.cells #[Value.func (.func 67) #[] #[]] 117)).alloc (.cells #[] 9)).alloc (.cells #[Value.slice (some ⟨w.heap.size + 3, 0, none⟩) 0 0] 58)).heap.size := by (first | (with_reducible exact Nat.le_refl _) | (with_reducible assumption) | omega | (simp; omega) | (simp; done))
  have zT : w.heap.size + 2 < (((((w.alloc (.cells #[Value.pointer (some ⟨g, 0, none⟩)] 35)).alloc (.cells #[Value.int .i64 (m : Int)] 3)).alloc (.cells #[Value.func (.func 67) #[] #[]] 117)).alloc (.cells #[] 9)).alloc (.cells #[Value.slice (some ⟨w.heap.size + 3, 0, none⟩) 0 0] 58)).heap.size := by (first | (with_reducible exact Nat.le_refl _) | (with_reducible assumption) | omega | (simp; omega) | (simp; done))
  have zO : w.heap.size + 4 < (((((w.alloc (.cells #[Value.pointer (some ⟨g, 0, none⟩)] 35)).alloc (.cells #[Value.int .i64 (m : Int)] 3)).alloc (.cells #[Value.func (.func 67) #[] #[]] 117)).alloc (.cells #[] 9)).alloc (.cells #[Value.slice (some ⟨w.heap.size + 3, 0, none⟩) 0 0] 58)).heap.size := by (first | (with_reducible exact Nat.le_refl _) | (with_reducible assumption) | omega | (simp; omega) | (simp; done))
  have own : (((((w.alloc (.cells #[Value.pointer (some ⟨g, 0, none⟩)] 35)).alloc (.cells #[Value.int .i64 (m : Int)] 3)).alloc (.cells #[Value.func (.func 67) #[] #[]] 117)).alloc (.cells #[] 9)).alloc (.cells #[Value.slice (some ⟨w.heap.size + 3, 0, none⟩) 0 0] 58)).ownsRow w.heap.size 9 1 (.slice (some ⟨w.heap.size + 3, 0, none⟩) 0 0) 0 [] := by
    have q := (own_empty (((w.alloc (.cells #[Value.pointer (some ⟨g, 0, none⟩)] 35)).alloc (.cells #[Value.int .i64 (m : Int)] 3)).alloc (.cells #[Value.func (.func 67) #[] #[]] 117)) 9 1 w.heap.size (by (simp; omega))).alloc (.cells #[Value.slice (some ⟨w.heap.size + 3, 0, none⟩) 0 0] 58)
    simpa using q
  have hg : g < w.heap.size := hR.cells.1
  have hb : B ≤ w.heap.size := hR.1
  have hle : a ≤ ns.length := hR.more.1
  obtain ⟨r1, r2, r3⟩ := HR0.out.cells
  clear hR hB0
  have CB := hide cB
  have CM := hide cM
  have CT := hide cT
  have CO := hide cO
  have FO := hide fO
  have OWN := hide own
  clear own cB cM cT cO fO
  go_enter Try.func66, Try.ntmps66
  go_wp2_with (go_at_call 52; go_in)
  refine (tk_S_bad g B w.heap.size (w.heap.size + 0) (w.heap.size + 1) (w.heap.size + 2) (w.heap.size + 4) (w.heap.size + 3) ns a m _ HR0.out CB.out CM.out CT.out CO.out FO.out OWN.out zB zM zT zO hg hb (by omega) (by omega) (by omega) hm hE).mono ?_
  rintro e w1 ⟨v, a', rfl, ho, hR1, hx⟩
  have HO := hide ho
  have HR1 := hide hR1
  obtain ⟨t1, t2, t3⟩ := hR1.cells
  clear ho hR1 r1 r2 r3 zB zM zT zO CB CM CT CO FO OWN
  go_wp2
  go_ret2
  exact ⟨_, rfl, (KB.only HB0.out HO.out).set 1 _, HR1.out.reset hle, by (refine ⟨rfl, .inl ⟨rfl, rfl⟩⟩)⟩

set_option maxRecDepth 100000 in
set_option maxHeartbeats 2000000 in
theorem Take_S_cut (g B : Nat) (ns : List Nat) (a : Nat) (m n pl : Nat) (w : World) (hR : RAny w g B ns a) (hm : m ≤ 9223372036854775807) (hnl : ns.length ≤ 1099511627776) (hE : lg ns a m = (n, 0, pl)) (hC : (tk (RS ns) n pl).2.1 ≠ 0) : Calls Try.prog 66 #[.pointer (some ⟨g, 0, none⟩), .int .i64 (m : Int), .func (.func 67) #[] #[]] w (fun e w' => ∃ v, e = .returned (.tuple #[v, .int .i64 ((tk (RS ns) n pl).2.1 : Int)]) ∧ Only g w w' ∧ RAny w' g B ns a ∧ w'.ownsRow w.heap.size 9 1 v ([] : List Value).length ([] : List Value)) := by
  have hE2 : ((tk (RS ns) n pl).2.1 : Int) ≠ 0 := by omega
  have hB0 : Below w.heap.size w (((((w.alloc (.cells #[Value.pointer (some ⟨g, 0, none⟩)] 35)).alloc (.cells #[Value.int .i64 (m : Int)] 3)).alloc (.cells #[Value.func (.func 67) #[] #[]] 117)).alloc (.cells #[] 9)).alloc (.cells #[Value.slice (some ⟨w.heap.size + 3, 0, none⟩) 0 0] 58)) := by (focus repeat' (first | (with_reducible exact Below.refl _ _) | (with_reducible assumption) | (with_reducible refine Below.alloc ?_ ?_ _) | (with_reducible refine Below.drew ?_) | (with_reducible refine bdrewN ?_ _) | (with_reducible refine Below.setCell ?_ ?_ _) | (first | (with_reducible exact Nat.le_refl _) | (with_reducible assumption) | omega | (simp; omega) | (simp; done))))
  have HR0 := hide (hR.below hB0)
  have HB0 := hide hB0
  have cB : ∀ o, (((((w.alloc (.cells #[Value.pointer (some ⟨g, 0, none⟩)] 35)).alloc (.cells #[Value.int .i64 (m : Int)] 3)).alloc (.cells #[Value.func (.func 67) #[] #[]] 117)).alloc (.cells #[] 9)).alloc (.cells #[Value.slice (some ⟨w.heap.size + 3, 0, none⟩) 0 0] 58)).cell? ⟨w.heap.size + 0, o, none⟩ = (#[Value.pointer (some ⟨g, 0, none⟩)] : Array Value)[o]? := fun o => by simp [go_sem]
  have cM : ∀ o, (((((w.alloc (.cells #[Value.pointer (some ⟨g, 0, none⟩)] 35)).alloc (.cells #[Value.int .i64 (m : Int)] 3)).alloc (.cells #[Value.func (.func 67) #[] #[]] 117)).alloc (.cells #[] 9)).alloc (.cells #[Value.slice (some ⟨w.heap.size + 3, 0, none⟩) 0 0] 58)).cell? ⟨w.heap.size + 1, o, none⟩ = (#[Value.int .i64 (m : Int)] : Array Value)[o]? := fun o => by simp [go_sem]
  have cT : ∀ o, (((((w.alloc (.cells #[Value.pointer (some ⟨g, 0, none⟩)] 35)).alloc (.cells #[Value.int .i64 (m : Int)] 3)).alloc (.cells #[Value.func (.func 67) #[] #[]] 117)).alloc (.cells #[] 9)).alloc (.cells #[Value.slice (some ⟨w.heap.size + 3, 0, none⟩) 0 0] 58)).cell? ⟨w.heap.size + 2, o, none⟩ = (#[Value.func (.func 67) #[] #[]] : Array Value)[o]? := fun o => by simp [go_sem]
  have cO : ∀ o, (((((w.alloc (.cells #[Value.pointer (some ⟨g, 0, none⟩)] 35)).alloc (.cells #[Value.int .i64 (m : Int)] 3)).alloc (.cells #[Value.func (.func 67) #[] #[]] 117)).alloc (.cells #[] 9)).alloc (.cells #[Value.slice (some ⟨w.heap.size + 3, 0, none⟩) 0 0] 58)).cell? ⟨w.heap.size + 4, o, none⟩ = (#[Value.slice (some ⟨w.heap.size + 3, 0, none⟩) 0 0] : Array Value)[o]? := fun o => by simp [go_sem]
  have fO : ∀ o, (((((w.alloc (.cells #[Value.pointer (some ⟨g, 0, none⟩)] 35)).alloc (.cells #[Value.int .i64 (m : Int)] 3)).alloc (.cells #[Value.func (.func 67) #[] #[]] 117)).alloc (.cells #[] 9)).alloc (.cells #[Value.slice (some ⟨w.heap.size + 3, 0, none⟩) 0 0] 58)).frozen? ⟨w.heap.size + 4, o, none⟩ = false := fun o => by simp [go_sem]
  have zB : w.heap.size + 0 < (((((w.alloc (.cells #[Value.pointer (some ⟨g, 0, none⟩)] 35)).alloc (.cells #[Value.int .i64 (m : Int)] 3)).alloc (.cells #[Value.func (.func 67) #[] #[]] 117)).alloc (.cells #[] 9)).alloc (.cells #[Value.slice (some ⟨w.heap.size + 3, 0, none⟩) 0 0] 58)).heap.size := by (first | (with_reducible exact Nat.le_refl _) | (with_reducible assumption) | omega | (simp; omega) | (simp; done))
  have zM : w.heap.size + 1 < (((((w.alloc (.cells #[Value.pointer (some ⟨g, 0, none⟩)] 35)).alloc (.cells #[Value.int .i64 (m : Int)] 3)).alloc (.cells #[Value.func (.func 67) #[] #[]] 117)).alloc (.cells #[] 9)).alloc (.cells #[Value.slice (some ⟨w.heap.size + 3, 0, none⟩) 0 0] 58)).heap.size := by (first | (with_reducible exact Nat.le_refl _) | (with_reducible assumption) | omega | (simp; omega) | (simp; done))
  have zT : w.heap.size + 2 < (((((w.alloc (.cells #[Value.pointer (some ⟨g, 0, none⟩)] 35)).alloc (.cells #[Value.int .i64 (m : Int)] 3)).alloc (.cells #[Value.func (.func 67) #[] #[]] 117)).alloc (.cells #[] 9)).alloc (.cells #[Value.slice (some ⟨w.heap.size + 3, 0, none⟩) 0 0] 58)).heap.size := by (first | (with_reducible exact Nat.le_refl _) | (with_reducible assumption) | omega | (simp; omega) | (simp; done))
  have zO : w.heap.size + 4 < (((((w.alloc (.cells #[Value.pointer (some ⟨g, 0, none⟩)] 35)).alloc (.cells #[Value.int .i64 (m : Int)] 3)).alloc (.cells #[Value.func (.func 67) #[] #[]] 117)).alloc (.cells #[] 9)).alloc (.cells #[Value.slice (some ⟨w.heap.size + 3, 0, none⟩) 0 0] 58)).heap.size := by (first | (with_reducible exact Nat.le_refl _) | (with_reducible assumption) | omega | (simp; omega) | (simp; done))
  have own : (((((w.alloc (.cells #[Value.pointer (some ⟨g, 0, none⟩)] 35)).alloc (.cells #[Value.int .i64 (m : Int)] 3)).alloc (.cells #[Value.func (.func 67) #[] #[]] 117)).alloc (.cells #[] 9)).alloc (.cells #[Value.slice (some ⟨w.heap.size + 3, 0, none⟩) 0 0] 58)).ownsRow w.heap.size 9 1 (.slice (some ⟨w.heap.size + 3, 0, none⟩) 0 0) 0 [] := by
    have q := (own_empty (((w.alloc (.cells #[Value.pointer (some ⟨g, 0, none⟩)] 35)).alloc (.cells #[Value.int .i64 (m : Int)] 3)).alloc (.cells #[Value.func (.func 67) #[] #[]] 117)) 9 1 w.heap.size (by (simp; omega))).alloc (.cells #[Value.slice (some ⟨w.heap.size + 3, 0, none⟩) 0 0] 58)
    simpa using q
  have hg : g < w.heap.size := hR.cells.1
  have hb : B ≤ w.heap.size := hR.1
  have hle : a ≤ ns.length := hR.more.1
  obtain ⟨r1, r2, r3⟩ := HR0.out.cells
  clear hR hB0
  have CB := hide cB
  have CM := hide cM
  have CT := hide cT
  have CO := hide cO
  have FO := hide fO
  have OWN := hide own
  clear own cB cM cT cO fO
  go_enter Try.func66, Try.ntmps66
  go_wp2_with (go_at_call 52; go_in)
  refine (tk_S_ok g B w.heap.size (w.heap.size + 0) (w.heap.size + 1) (w.heap.size + 2) (w.heap.size + 4) (w.heap.size + 3) ns a m n pl _ HR0.out CB.out CM.out CT.out CO.out FO.out OWN.out zB zM zT zO hg hb (by omega) (by omega) (by omega) hm hnl hE).mono ?_
  rintro e w1 ⟨v, a', rfl, ho, hR1, hx, hq⟩
  have HO := hide ho
  have HR1 := hide hR1
  obtain ⟨t1, t2, t3⟩ := hR1.cells
  clear ho hR1 r1 r2 r3 zB zM zT zO CB CM CT CO FO OWN
  clear hq
  go_wp2
  go_ret2
  exact ⟨_, rfl, (KB.only HB0.out HO.out).set 1 _, HR1.out.reset hle, by (refine ⟨rfl, .inl ⟨rfl, rfl⟩⟩)⟩

set_option maxRecDepth 100000 in
set_option maxHeartbeats 2000000 in
theorem Take_S_all (g B : Nat) (ns : List Nat) (a : Nat) (m n pl : Nat) (w : World) (hR : RAny w g B ns a) (hm : m ≤ 9223372036854775807) (hnl : ns.length ≤ 1099511627776) (hE : lg ns a m = (n, 0, pl)) (hC : (tk (RS ns) n pl).2.1 = 0) : Calls Try.prog 66 #[.pointer (some ⟨g, 0, none⟩), .int .i64 (m : Int), .func (.func 67) #[] #[]] w (fun e w' => ∃ v, e = .returned (.tuple #[v, .int .i64 0]) ∧ Only g w w' ∧ RAny w' g B ns (tk (RS ns) n pl).2.2 ∧ w'.ownsRow w.heap.size 9 1 v (tk (RS ns) n pl).1.length (tk (RS ns) n pl).1) := by
  have hB0 : Below w.heap.size w (((((w.alloc (.cells #[Value.pointer (some ⟨g, 0, none⟩)] 35)).alloc (.cells #[Value.int .i64 (m : Int)] 3)).alloc (.cells #[Value.func (.func 67) #[] #[]] 117)).alloc (.cells #[] 9)).alloc (.cells #[Value.slice (some ⟨w.heap.size + 3, 0, none⟩) 0 0] 58)) := by (focus repeat' (first | (with_reducible exact Below.refl _ _) | (with_reducible assumption) | (with_reducible refine Below.alloc ?_ ?_ _) | (with_reducible refine Below.drew ?_) | (with_reducible refine bdrewN ?_ _) | (with_reducible refine Below.setCell ?_ ?_ _) | (first | (with_reducible exact Nat.le_refl _) | (with_reducible assumption) | omega | (simp; omega) | (simp; done))))
  have HR0 := hide (hR.below hB0)
  have HB0 := hide hB0
  have cB : ∀ o, (((((w.alloc (.cells #[Value.pointer (some ⟨g, 0, none⟩)] 35)).alloc (.cells #[Value.int .i64 (m : Int)] 3)).alloc (.cells #[Value.func (.func 67) #[] #[]] 117)).alloc (.cells #[] 9)).alloc (.cells #[Value.slice (some ⟨w.heap.size + 3, 0, none⟩) 0 0] 58)).cell? ⟨w.heap.size + 0, o, none⟩ = (#[Value.pointer (some ⟨g, 0, none⟩)] : Array Value)[o]? := fun o => by simp [go_sem]
  have cM : ∀ o, (((((w.alloc (.cells #[Value.pointer (some ⟨g, 0, none⟩)] 35)).alloc (.cells #[Value.int .i64 (m : Int)] 3)).alloc (.cells #[Value.func (.func 67) #[] #[]] 117)).alloc (.cells #[] 9)).alloc (.cells #[Value.slice (some ⟨w.heap.size + 3, 0, none⟩) 0 0] 58)).cell? ⟨w.heap.size + 1, o, none⟩ = (#[Value.int .i64 (m : Int)] : Array Value)[o]? := fun o => by simp [go_sem]
  have cT : ∀ o, (((((w.alloc (.cells #[Value.pointer (some ⟨g, 0, none⟩)] 35)).alloc (.cells #[Value.int .i64 (m : Int)] 3)).alloc (.cells #[Value.func (.func 67) #[] #[]] 117)).alloc (.cells #[] 9)).alloc (.cells #[Value.slice (some ⟨w.heap.size + 3, 0, none⟩) 0 0] 58)).cell? ⟨w.heap.size + 2, o, none⟩ = (#[Value.func (.func 67) #[] #[]] : Array Value)[o]? := fun o => by simp [go_sem]
  have cO : ∀ o, (((((w.alloc (.cells #[Value.pointer (some ⟨g, 0, none⟩)] 35)).alloc (.cells #[Value.int .i64 (m : Int)] 3)).alloc (.cells #[Value.func (.func 67) #[] #[]] 117)).alloc (.cells #[] 9)).alloc (.cells #[Value.slice (some ⟨w.heap.size + 3, 0, none⟩) 0 0] 58)).cell? ⟨w.heap.size + 4, o, none⟩ = (#[Value.slice (some ⟨w.heap.size + 3, 0, none⟩) 0 0] : Array Value)[o]? := fun o => by simp [go_sem]
  have fO : ∀ o, (((((w.alloc (.cells #[Value.pointer (some ⟨g, 0, none⟩)] 35)).alloc (.cells #[Value.int .i64 (m : Int)] 3)).alloc (.cells #[Value.func (.func 67) #[] #[]] 117)).alloc (.cells #[] 9)).alloc (.cells #[Value.slice (some ⟨w.heap.size + 3, 0, none⟩) 0 0] 58)).frozen? ⟨w.heap.size + 4, o, none⟩ = false := fun o => by simp [go_sem]
  have zB : w.heap.size + 0 < (((((w.alloc (.cells #[Value.pointer (some ⟨g, 0, none⟩)] 35)).alloc (.cells #[Value.int .i64 (m : Int)] 3)).alloc (.cells #[Value.func (.func 67) #[] #[]] 117)).alloc (.cells #[] 9)).alloc (.cells #[Value.slice (some ⟨w.heap.size + 3, 0, none⟩) 0 0] 58)).heap.size := by (first | (with_reducible exact Nat.le_refl _) | (with_reducible assumption) | omega | (simp; omega) | (simp; done))
  have zM : w.heap.size + 1 < (((((w.alloc (.cells #[Value.pointer (some ⟨g, 0, none⟩)] 35)).alloc (.cells #[Value.int .i64 (m : Int)] 3)).alloc (.cells #[Value.func (.func 67) #[] #[]] 117)).alloc (.cells #[] 9)).alloc (.cells #[Value.slice (some ⟨w.heap.size + 3, 0, none⟩) 0 0] 58)).heap.size := by (first | (with_reducible exact Nat.le_refl _) | (with_reducible assumption) | omega | (simp; omega) | (simp; done))
  have zT : w.heap.size + 2 < (((((w.alloc (.cells #[Value.pointer (some ⟨g, 0, none⟩)] 35)).alloc (.cells #[Value.int .i64 (m : Int)] 3)).alloc (.cells #[Value.func (.func 67) #[] #[]] 117)).alloc (.cells #[] 9)).alloc (.cells #[Value.slice (some ⟨w.heap.size + 3, 0, none⟩) 0 0] 58)).heap.size := by (first | (with_reducible exact Nat.le_refl _) | (with_reducible assumption) | omega | (simp; omega) | (simp; done))
  have zO : w.heap.size + 4 < (((((w.alloc (.cells #[Value.pointer (some ⟨g, 0, none⟩)] 35)).alloc (.cells #[Value.int .i64 (m : Int)] 3)).alloc (.cells #[Value.func (.func 67) #[] #[]] 117)).alloc (.cells #[] 9)).alloc (.cells #[Value.slice (some ⟨w.heap.size + 3, 0, none⟩) 0 0] 58)).heap.size := by (first | (with_reducible exact Nat.le_refl _) | (with_reducible assumption) | omega | (simp; omega) | (simp; done))
  have own : (((((w.alloc (.cells #[Value.pointer (some ⟨g, 0, none⟩)] 35)).alloc (.cells #[Value.int .i64 (m : Int)] 3)).alloc (.cells #[Value.func (.func 67) #[] #[]] 117)).alloc (.cells #[] 9)).alloc (.cells #[Value.slice (some ⟨w.heap.size + 3, 0, none⟩) 0 0] 58)).ownsRow w.heap.size 9 1 (.slice (some ⟨w.heap.size + 3, 0, none⟩) 0 0) 0 [] := by
    have q := (own_empty (((w.alloc (.cells #[Value.pointer (some ⟨g, 0, none⟩)] 35)).alloc (.cells #[Value.int .i64 (m : Int)] 3)).alloc (.cells #[Value.func (.func 67) #[] #[]] 117)) 9 1 w.heap.size (by (simp; omega))).alloc (.cells #[Value.slice (some ⟨w.heap.size + 3, 0, none⟩) 0 0] 58)
    simpa using q
  have hg : g < w.heap.size := hR.cells.1
  have hb : B ≤ w.heap.size := hR.1
  have hle : a ≤ ns.length := hR.more.1
  obtain ⟨r1, r2, r3⟩ := HR0.out.cells
  clear hR hB0
  have CB := hide cB
  have CM := hide cM
  have CT := hide cT
  have CO := hide cO
  have FO := hide fO
  have OWN := hide own
  clear own cB cM cT cO fO
  go_enter Try.func66, Try.ntmps66
  go_wp2_with (go_at_call 52; go_in)
  refine (tk_S_ok g B w.heap.size (w.heap.size + 0) (w.heap.size + 1) (w.heap.size + 2) (w.heap.size + 4) (w.heap.size + 3) ns a m n pl _ HR0.out CB.out CM.out CT.out CO.out FO.out OWN.out zB zM zT zO hg hb (by omega) (by omega) (by omega) hm hnl hE).mono ?_
  rw [hC]
  rintro e w1 ⟨v, a', rfl, ho, hR1, hx, hq⟩
  obtain ⟨rfl, hown⟩ := hq rfl
  have HO := hide ho
  have HR1 := hide hR1
  have HOW := hide hown
  have HC := hide hC
  obtain ⟨t1, t2, t3⟩ := hR1.cells
  clear ho hR1 hq hC hown r1 r2 r3 zB zM zT zO CB CM CT CO FO OWN
  go_wp2
  go_ret2
  exact ⟨v, rfl, KB.only HB0.out HO.out, HR1.out, HOW.out⟩

theorem Take_S_c (g B : Nat) (ns : List Nat) (a : Nat) (m : Nat) (w : World) (hR : RAny w g B ns a) (hm : m ≤ 9223372036854775807) (hnl : ns.length ≤ 1099511627776) : Calls Try.prog 66 #[.pointer (some ⟨g, 0, none⟩), .int .i64 (m : Int), .func (.func 67) #[] #[]] w (fun e w' => ∃ v, e = .returned (.tuple #[v, .int .i64 ((tl (RS ns) ns a m).2.1 : Int)]) ∧ Only g w w' ∧ RAny w' g B ns (tl (RS ns) ns a m).2.2 ∧ w'.ownsRow w.heap.size 9 1 v (tl (RS ns) ns a m).1.length (tl (RS ns) ns a m).1) := by
  by_cases hE : (lg ns a m).2.1 = 0
  · by_cases hC : (tk (RS ns) (lg ns a m).1 (lg ns a m).2.2).2.1 = 0
    · have q : tl (RS ns) ns a m = tk (RS ns) (lg ns a m).1 (lg ns a m).2.2 := by unfold tl; rw [if_neg (by omega), if_neg (by omega)]
      rw [q, hC]
      exact Take_S_all g B ns a m _ _ w hR hm hnl (by rw [← hE]) hC
    · have q : tl (RS ns) ns a m = ([], (tk (RS ns) (lg ns a m).1 (lg ns a m).2.2).2.1, a) := by unfold tl; rw [if_neg (by omega), if_pos hC]
      rw [q]
      exact Take_S_cut g B ns a m _ _ w hR hm hnl (by rw [← hE]) hC
  · have q : tl (RS ns) ns a m = ([], (lg ns a m).2.1, a) := by unfold tl; rw [if_pos hE]
    rw [q]
    exact Take_S_bad g B ns a m w hR hm hE
end Go.Proofs.Ytajkgecegefnmaa
