import Derived.Test.YtbbdneekfejjkaaX1
namespace Go.Proofs.Ytbbdneekfejjkaa.best
open Go.ChangeShapes Go.WideShapes Go.ChangeAt Go.RowKit Go.Deep
set_option linter.unusedSimpArgs false
set_option linter.unusedVariables false

set_option maxRecDepth 100000 in
set_option maxHeartbeats 2000000 in
theorem Best_early (ao : Option Addr) (len cap : Nat) (st sp : Int) (w : World) (h : 100 < (len : Int) ∨ st < 0 ∨ 1099511627776 < st ∨ sp < 1 ∨ 1099511627776 < sp) : Calls Try.prog 3 #[.slice ao len cap, .int .i64 st, .int .i64 sp] w fun e w' => e = .returned (.bool true) ∧ Below w.heap.size w w' := by
  by_cases c1 : 100 < (len : Int)
  · clear h
    go_enter Try.func3, Try.ntmps3
    go_wp2_with fail
    (apply Calls.mono; focus ((apply known_b <;> (first | (with_reducible assumption) | (with_reducible rfl) | omega)); done)); rintro e w1 ⟨rfl, hb1⟩
    go_wp2
    go_ret
    exact ⟨rfl, by (focus repeat' (first | (with_reducible exact Below.refl _ _) | (with_reducible assumption) | (with_reducible refine Below.alloc ?_ ?_ _) | (with_reducible refine Below.drew ?_) | (with_reducible refine bdrewN ?_ _) | (with_reducible refine Below.setCell ?_ ?_ _) | (first | (with_reducible exact Nat.le_refl _) | (with_reducible assumption) | omega | (simp; omega) | (simp; done))))⟩
  · by_cases c2 : st < 0
    · clear h
      go_enter Try.func3, Try.ntmps3
      go_wp2_with fail
      (apply Calls.mono; focus ((apply known_b <;> (first | (with_reducible assumption) | (with_reducible rfl) | omega)); done)); rintro e w1 ⟨rfl, hb1⟩
      go_wp2
      go_ret
      exact ⟨rfl, by (focus repeat' (first | (with_reducible exact Below.refl _ _) | (with_reducible assumption) | (with_reducible refine Below.alloc ?_ ?_ _) | (with_reducible refine Below.drew ?_) | (with_reducible refine bdrewN ?_ _) | (with_reducible refine Below.setCell ?_ ?_ _) | (first | (with_reducible exact Nat.le_refl _) | (with_reducible assumption) | omega | (simp; omega) | (simp; done))))⟩
    · by_cases c3 : 1099511627776 < st
      · clear h
        go_enter Try.func3, Try.ntmps3
        go_wp2_with fail
        (apply Calls.mono; focus ((apply known_b <;> (first | (with_reducible assumption) | (with_reducible rfl) | omega)); done)); rintro e w1 ⟨rfl, hb1⟩
        go_wp2
        go_ret
        exact ⟨rfl, by (focus repeat' (first | (with_reducible exact Below.refl _ _) | (with_reducible assumption) | (with_reducible refine Below.alloc ?_ ?_ _) | (with_reducible refine Below.drew ?_) | (with_reducible refine bdrewN ?_ _) | (with_reducible refine Below.setCell ?_ ?_ _) | (first | (with_reducible exact Nat.le_refl _) | (with_reducible assumption) | omega | (simp; omega) | (simp; done))))⟩
      · by_cases c4 : sp < 1
        · clear h
          go_enter Try.func3, Try.ntmps3
          go_wp2_with fail
          (apply Calls.mono; focus ((apply known_b <;> (first | (with_reducible assumption) | (with_reducible rfl) | omega)); done)); rintro e w1 ⟨rfl, hb1⟩
          go_wp2
          go_ret
          exact ⟨rfl, by (focus repeat' (first | (with_reducible exact Below.refl _ _) | (with_reducible assumption) | (with_reducible refine Below.alloc ?_ ?_ _) | (with_reducible refine Below.drew ?_) | (with_reducible refine bdrewN ?_ _) | (with_reducible refine Below.setCell ?_ ?_ _) | (first | (with_reducible exact Nat.le_refl _) | (with_reducible assumption) | omega | (simp; omega) | (simp; done))))⟩
        · have c5 : 1099511627776 < sp := by omega
          clear h
          go_enter Try.func3, Try.ntmps3
          go_wp2_with fail
          (apply Calls.mono; focus ((apply known_b <;> (first | (with_reducible assumption) | (with_reducible rfl) | omega)); done)); rintro e w1 ⟨rfl, hb1⟩
          go_wp2
          go_ret
          exact ⟨rfl, by (focus repeat' (first | (with_reducible exact Below.refl _ _) | (with_reducible assumption) | (with_reducible refine Below.alloc ?_ ?_ _) | (with_reducible refine Below.drew ?_) | (with_reducible refine bdrewN ?_ _) | (with_reducible refine Below.setCell ?_ ?_ _) | (first | (with_reducible exact Nat.le_refl _) | (with_reducible assumption) | omega | (simp; omega) | (simp; done))))⟩

set_option maxRecDepth 100000 in
set_option maxHeartbeats 4000000 in
theorem Best_row (b off cap : Nat) (zs : List Int) (st sp : Int) (w : World) (hL : 0 ≤ st ∧ st ≤ 1099511627776 ∧ 1 ≤ sp ∧ sp ≤ 1099511627776) (hb : b < w.heap.size) (hc : ∀ j, j < zs.length → w.cell? ⟨b, off + j, none⟩ = some (.int .i64 (zs.getD j 0))) (h100 : zs.length ≤ 100) (hp : 0 < zs.length) : Calls Try.prog 3 #[.slice (some ⟨b, off, none⟩) zs.length cap, .int .i64 st, .int .i64 sp] w fun e w' => e = .returned (.bool true) ∧ Below w.heap.size w w' := by
  have Hc := hide hc
  clear hc
  have hc := Hc
  clear Hc
  obtain ⟨hl1, hl2, hl3, hl4⟩ := hL
  have hL : 0 ≤ st ∧ st ≤ 1099511627776 ∧ 1 ≤ sp ∧ sp ≤ 1099511627776 := ⟨hl1, hl2, hl3, hl4⟩
  have h100' : (zs.length : Int) ≤ 100 := by omega
  obtain ⟨i0, hi0, hz0, hz1, hz2⟩ := info_parts info2
  go_enter Try.func3, Try.ntmps3
  go_wp2_with fail
  refine (begin_b st sp _ hL).mono ?_
  rintro e w1 ⟨rfl, hb1⟩
  have HB1 : Below w.heap.size w w1 := bstep (by (focus repeat' (first | (with_reducible exact Below.refl _ _) | (with_reducible assumption) | (with_reducible refine Below.alloc ?_ ?_ _) | (with_reducible refine Below.drew ?_) | (with_reducible refine bdrewN ?_ _) | (with_reducible refine Below.setCell ?_ ?_ _) | (first | (with_reducible exact Nat.le_refl _) | (with_reducible assumption) | omega | (simp; omega) | (simp; done))))) hb1
  have hz1 := hb1.size
  (try simp only [World.size_drew, World.size_alloc] at hz1)
  have hz1_0 : w.heap.size < w1.heap.size := by omega
  have HC1_0 : ∀ o, w1.cell? ⟨w.heap.size, o, none⟩ = (#[Value.int .i64 1, Value.int .i64 0, Value.int .i64 10, Value.int .i64 st, Value.int .i64 sp, Value.int .i64 0, Value.int .i64 10, Value.int .i64 0, Value.int .i64 0, Value.int .i64 0, Value.int .i64 0] : Array Value)[o]? := fun o => (hb1.cell (p := ⟨w.heap.size, o, none⟩) (by first | (simp; done) | omega | (simp; omega))).trans (by first | (with_reducible assumption) | (simp [go_sem, *]; done))
  clear hb1 hz1
  go_wp2
  go_loopw [10, 11, 12] (fun v10 v11 v12 wr => ∃ (n : Nat) (T : List Int) (bs ld li pr : Int), n ≤ zs.length ∧ v11 = .int .i64 bs ∧ v12 = .int .i64 n ∧ Inv st sp zs n T bs ld li pr ∧ wr.ownsRow (w1.heap.size + 1) 2 1 v10 T.length (T.map (Value.int .i64)) ∧ Below w.heap.size w wr ∧ w1.heap.size < wr.heap.size ∧ (∀ o, wr.cell? ⟨w.heap.size, o, none⟩ = (#[Value.int .i64 1, Value.int .i64 0, Value.int .i64 10, Value.int .i64 st, Value.int .i64 sp, Value.int .i64 0, Value.int .i64 10, Value.int .i64 0, Value.int .i64 0, Value.int .i64 0, Value.int .i64 0] : Array Value)[o]?) ∧ (∀ o, wr.cell? ⟨w1.heap.size, o, none⟩ = (#[Value.int .i64 ld, Value.int .i64 li, Value.int .i64 pr, Value.int .i64 10] : Array Value)[o]?) ∧ (∀ o, wr.frozen? ⟨w1.heap.size, o, none⟩ = false)) (fun _ _ v12 _ => zs.length - (intOf v12).toNat)
  case atStart =>
    refine ⟨0, [], -1, -1, 0, 0, Nat.zero_le _, rfl, rfl, .inl ⟨rfl, rfl, rfl, rfl, rfl⟩, ⟨rfl, .inl ⟨rfl, rfl⟩⟩, by (focus repeat' (first | (with_reducible exact Below.refl _ _) | (with_reducible assumption) | (with_reducible refine Below.alloc ?_ ?_ _) | (with_reducible refine Below.drew ?_) | (with_reducible refine bdrewN ?_ _) | (with_reducible refine Below.setCell ?_ ?_ _) | (first | (with_reducible exact Nat.le_refl _) | (with_reducible assumption) | omega | (simp; omega) | (simp; done)))), by simp, ?_, ?_, ?_⟩
    · intro o; simp [go_sem, *]
    · intro o; simp [go_sem, *]
    · intro o; simp [go_sem, *]
  case round =>
    obtain ⟨n, T, bs, ld, li, pr, hn, rfl, rfl, inv, own, HBr, zr, CL, CR, FR⟩ := hrel
    by_cases hlt : n < zs.length
    · have hlt' : (n : Int) < (zs.length : Int) := by omega
      have c1 : wr.cell? ⟨b, off + n, none⟩ = some (.int .i64 (zs.getD n 0)) := (HBr.cell (p := ⟨b, off + n, none⟩) hb).trans (hc.out n hlt)
      have Hinv := hide inv
      have Hown := hide own
      have hrise := hide (Inv.rise inv)
      clear inv own
      generalize hx : zs.getD n 0 = x at *
      have Hx := hide hx
      clear hx
      have hbr : b < wr.heap.size := by (have := HBr.size; omega)
      have z0r : w.heap.size < wr.heap.size := by omega
      go_upto_region 12 with fail
      go_cut [13, 14] (fun s13 s14 wx => ∃ b3, s13 = .pointer (some ⟨b3, 0, none⟩) ∧ s14 = .int .i64 (gE st sp ld li pr n x) ∧ Below wr.heap.size wr wx ∧ wr.heap.size ≤ b3 ∧ b3 < wx.heap.size ∧ (∀ o, wx.cell? ⟨b3, o, none⟩ = (#[Value.int .i64 (gL st sp ld li pr n x), Value.int .i64 (gI st sp ld li pr n x), Value.int .i64 (gP st sp ld li pr n x), Value.int .i64 (gC st sp ld li pr n x)] : Array Value)[o]?))
      case first =>
        go_region_held3 (fun wq => Below wr.heap.size wr wq ∧ (w.heap.size < wq.heap.size ∧ ∀ o, wq.cell? ⟨w.heap.size, o, none⟩ = (#[Value.int .i64 1, Value.int .i64 0, Value.int .i64 10, Value.int .i64 st, Value.int .i64 sp, Value.int .i64 0, Value.int .i64 10, Value.int .i64 0, Value.int .i64 0, Value.int .i64 0, Value.int .i64 0] : Array Value)[o]?) ∧ (w1.heap.size < wq.heap.size ∧ ∀ o, wq.cell? ⟨w1.heap.size, o, none⟩ = (#[Value.int .i64 ld, Value.int .i64 li, Value.int .i64 pr, Value.int .i64 10] : Array Value)[o]?) ∧ (b < wq.heap.size ∧ wq.cell? ⟨b, off + n, none⟩ = some (.int .i64 x))) (((try go_split_ands); refine ⟨?_, ⟨?_, ?_⟩, ⟨?_, ?_⟩, ⟨?_, ?_⟩⟩; (focus (first | (focus repeat' (first | (with_reducible exact Below.refl _ _) | (with_reducible assumption) | (with_reducible refine Below.alloc ?_ ?_ _) | (with_reducible refine Below.drew ?_) | (with_reducible refine bdrewN ?_ _) | (with_reducible refine Below.setCell ?_ ?_ _) | (first | (with_reducible exact Nat.le_refl _) | (with_reducible assumption) | omega | (simp; omega) | (simp; done)))))); (focus (first | (with_reducible assumption) | (simp; done) | omega | (simp; omega))); (focus (first | (with_reducible assumption) | (intro o; simp [go_sem, *]; done))); (focus (first | (with_reducible assumption) | (simp; done) | omega | (simp; omega))); (focus (first | (with_reducible assumption) | (intro o; simp [go_sem, *]; done))); (focus (first | (with_reducible assumption) | (simp; done) | omega | (simp; omega))); (focus (first | (with_reducible assumption) | (simp [go_sem, *]; done)))))
          (first | (go_at_call 9; refine (Best_gen st sp ld li pr n x _ hL hrise.out).mono ?_; rintro e w3 ⟨rfl, hb3⟩; (try go_split_ands); have HB3 : Below wr.heap.size wr w3 := bstep (by with_reducible assumption) hb3; have hz3 := hb3.size; (try simp only [World.size_drew, World.size_alloc] at hz3); (have hz3_0 : w.heap.size < w3.heap.size := by omega); (have hz3_1 : b < w3.heap.size := by omega); (have hz3_2 : w1.heap.size < w3.heap.size := by omega); (try have hy3_0 : wr.heap.size < w3.heap.size := by omega); obtain ⟨hc3, hf3⟩ := bcell hb3; (try simp only [World.size_drew, World.size_alloc, World.cell?_drew, World.frozen?_drew] at hc3 hf3); (have HC3_0 : ∀ o, w3.cell? ⟨w.heap.size, o, none⟩ = (#[Value.int .i64 1, Value.int .i64 0, Value.int .i64 10, Value.int .i64 st, Value.int .i64 sp, Value.int .i64 0, Value.int .i64 10, Value.int .i64 0, Value.int .i64 0, Value.int .i64 0, Value.int .i64 0] : Array Value)[o]? := by (intro o; simp [go_sem, *])); (have HC3_2 : ∀ o, w3.cell? ⟨w1.heap.size, o, none⟩ = (#[Value.int .i64 ld, Value.int .i64 li, Value.int .i64 pr, Value.int .i64 10] : Array Value)[o]? := by (intro o; simp [go_sem, *])); have HC3_1 : w3.cell? ⟨b, off + n, none⟩ = some (.int .i64 x) := (hb3.cell (p := ⟨b, off + n, none⟩) (by first | (with_reducible assumption) | (simp; done) | omega | (simp; omega))).trans (by first | (with_reducible assumption) | (simp [go_sem, *]; done))))
        all_goals
          go_wp2_with fail
          go_meet
          refine ⟨_, rfl, rfl, ?_, ?_, ?_, ?_⟩
          · (focus repeat' (first | (with_reducible exact Below.refl _ _) | (with_reducible assumption) | (with_reducible refine Below.alloc ?_ ?_ _) | (with_reducible refine Below.drew ?_) | (with_reducible refine bdrewN ?_ _) | (with_reducible refine Below.setCell ?_ ?_ _) | (first | (with_reducible exact Nat.le_refl _) | (with_reducible assumption) | omega | (simp; omega) | (simp; done))))
          · (first | (with_reducible assumption) | omega | (simp; omega))
          · (first | (simp; done) | omega | (simp; omega))
          · (intro o; (first | (simp [go_sem, *]; done) | (rcases o with _ | _ | _ | _ | o <;> (simp [go_sem, *]; done))))
      case rest =>
        obtain ⟨b3, rfl, rfl, HBc, b3l, b3h, C3⟩ := hcut
        have CLc : ∀ o, wc.cell? ⟨w.heap.size, o, none⟩ = (#[Value.int .i64 1, Value.int .i64 0, Value.int .i64 10, Value.int .i64 st, Value.int .i64 sp, Value.int .i64 0, Value.int .i64 10, Value.int .i64 0, Value.int .i64 0, Value.int .i64 0, Value.int .i64 0] : Array Value)[o]? := fun o => (HBc.cell (p := ⟨w.heap.size, o, none⟩) z0r).trans (CL o)
        have FRc : ∀ o, wc.frozen? ⟨w1.heap.size, o, none⟩ = false := fun o => (HBc.frozen (p := ⟨w1.heap.size, o, none⟩) zr).trans (FR o)
        have CRc : ∀ o, wc.cell? ⟨w1.heap.size, o, none⟩ = (#[Value.int .i64 ld, Value.int .i64 li, Value.int .i64 pr, Value.int .i64 10] : Array Value)[o]? := fun o => (HBc.cell (p := ⟨w1.heap.size, o, none⟩) zr).trans (CR o)
        have c1c : wc.cell? ⟨b, off + n, none⟩ = some (.int .i64 x) := (HBc.cell (p := ⟨b, off + n, none⟩) hbr).trans c1
        have HBw : Below w.heap.size w wc := HBr.trans (HBc.mono (Nat.le_of_lt z0r))
        have Hown2 := hide (ownsRow_below Hown.out HBc)
        have zc : wr.heap.size ≤ wc.heap.size := HBc.size
        have zc1 : w1.heap.size < wc.heap.size := by omega
        have zc0 : w.heap.size < wc.heap.size := by omega
        have hbc : b < wc.heap.size := by omega
        have n31 : b3 ≠ w1.heap.size := by omega
        have D := hide (Best_step hL Hinv.out Hx.out)
        clear hrise CL CR FR HBr HBc c1 Hown zr z0r hbr b3l zc
        generalize gE st sp ld li pr n x = ee at *
        generalize gL st sp ld li pr n x = eL at *
        generalize gI st sp ld li pr n x = eI at *
        generalize gP st sp ld li pr n x = eP at *
        generalize gC st sp ld li pr n x = eC at *
        rcases D.out with q1 | ⟨rfl, rfl, D2⟩
        · have q5 : (ee == 0) = false := by simp [q1]
          clear D
          go_wp2
          go_roundw
          case rel => first | exact ⟨n + 1, T, bs, ld, li, pr, by omega, rfl, by go_num, Inv.skip Hinv.out, Hown2.out, HBw, zc1, CLc, CRc, FRc⟩ | ((repeat apply Exists.intro); exact ⟨⟨n + 1, T, bs, ld, li, pr, by omega, rfl, by go_num, Inv.skip Hinv.out, Hown2.out, HBw, zc1, CLc, CRc, FRc⟩, rfl⟩)
          case measure => simp [intOf]; omega
        · have D3 := hide D2
          clear D D2
          go_upto_region 14 with fail
          go_cut [] (fun wx => wx.ownsRow (w1.heap.size + 1) 2 1 u10 T.length (T.map (Value.int .i64)) ∧ Below w.heap.size w wx ∧ w1.heap.size < wx.heap.size ∧ b < wx.heap.size ∧ (∀ o, wx.cell? ⟨w.heap.size, o, none⟩ = (#[Value.int .i64 1, Value.int .i64 0, Value.int .i64 10, Value.int .i64 st, Value.int .i64 sp, Value.int .i64 0, Value.int .i64 10, Value.int .i64 0, Value.int .i64 0, Value.int .i64 0, Value.int .i64 0] : Array Value)[o]?) ∧ (∀ o, wx.cell? ⟨w1.heap.size, o, none⟩ = (#[Value.int .i64 eL, Value.int .i64 eI, Value.int .i64 eP, Value.int .i64 10] : Array Value)[o]?) ∧ (∀ o, wx.frozen? ⟨w1.heap.size, o, none⟩ = false))
          case first =>
            go_wp2_with fail
            go_meet
            refine ⟨own_set4 Hown2.out (Nat.lt_succ_self _) _ _ _ _, ?_, ?_, ?_, ?_, ?_, ?_⟩
            · (focus repeat' (first | (with_reducible exact Below.refl _ _) | (with_reducible assumption) | (with_reducible refine Below.alloc ?_ ?_ _) | (with_reducible refine Below.drew ?_) | (with_reducible refine bdrewN ?_ _) | (with_reducible refine Below.setCell ?_ ?_ _) | (first | (with_reducible exact Nat.le_refl _) | (with_reducible assumption) | omega | (simp; omega) | (simp; done))))
            · (simp; omega)
            · (simp; omega)
            · (intro o; simp [go_sem, *]; done)
            · (intro o; (rcases o with _ | _ | _ | _ | o <;> (simp [go_sem, *]; done)))
            · (intro o; simp [go_sem, *]; done)
          case rest =>
            obtain ⟨own4, HB4, z4, hb4, CL4, CR4, FR4⟩ := hcut
            clear HBw zc1 CLc CRc FRc c1c Hown2 zc0 hbc C3 b3h n31
            have c4 : wc.cell? ⟨b, off + n, none⟩ = some (.int .i64 x) := by (have q := (HB4.cell (p := ⟨b, off + n, none⟩) hb).trans (hc.out n hlt); rw [Hx.out] at q; exact q)
            have Hown4 := hide own4
            clear own4
            have htl := Inv.short Hinv.out
            have HTL := hide htl
            have hz4 : w1.heap.size + 1 ≤ wc.heap.size := z4
            go_wp2_with (at_builtin; refine wpList_append_own _ rfl (.tmp 69) (.tmp 74) 22 rfl (w1.heap.size + 1) 2 i0 (.int .i64 0) 1 8 Try.underlying22 hi0 hz0 hz1 hz2 rfl (by decide) _ T.length (T.map (Value.int .i64)) rfl (Hown4.out.alloc _) ⟨wc.heap.size, 0, none⟩ 1 1 [.int .i64 x] rfl rfl (cell_one_new _ _ _) (by intro u hu; simp at hu; subst hu; rfl) (by unfold maxLen; have := HTL.out; omega) (by have := HTL.out; omega) (by (simp; omega)) ?_; intro v2 w2 hown2 hg2 _)
            have z2 : wc.heap.size ≤ w2.heap.size := by (have q := hg2.size; simp at q; omega)
            have K2 : Below (w1.heap.size + 1) wc w2 := ((Below.refl (w1.heap.size + 1) wc).alloc hz4 _).grown hg2 (by (simp; omega)) (ownBlock_ge Hown4.out)
            have HB5 : Below w.heap.size w w2 := HB4.trans (K2.mono (by omega))
            have CL5 : ∀ o, w2.cell? ⟨w.heap.size, o, none⟩ = (#[Value.int .i64 1, Value.int .i64 0, Value.int .i64 10, Value.int .i64 st, Value.int .i64 sp, Value.int .i64 0, Value.int .i64 10, Value.int .i64 0, Value.int .i64 0, Value.int .i64 0, Value.int .i64 0] : Array Value)[o]? := fun o => (K2.cell (p := ⟨w.heap.size, o, none⟩) (by (show w.heap.size < w1.heap.size + 1); omega)).trans (CL4 o)
            have CR5 : ∀ o, w2.cell? ⟨w1.heap.size, o, none⟩ = (#[Value.int .i64 eL, Value.int .i64 eI, Value.int .i64 eP, Value.int .i64 10] : Array Value)[o]? := fun o => (K2.cell (p := ⟨w1.heap.size, o, none⟩) (Nat.lt_succ_self _)).trans (CR4 o)
            have FR5 : ∀ o, w2.frozen? ⟨w1.heap.size, o, none⟩ = false := fun o => (K2.frozen (p := ⟨w1.heap.size, o, none⟩) (Nat.lt_succ_self _)).trans (FR4 o)
            have c5 : w2.cell? ⟨b, off + n, none⟩ = some (.int .i64 x) := (K2.cell (p := ⟨b, off + n, none⟩) (by (show b < w1.heap.size + 1); omega)).trans c4
            have own5 : w2.ownsRow (w1.heap.size + 1) 2 1 v2 (T ++ [x]).length ((T ++ [x]).map (Value.int .i64)) := by (rw [List.length_append, List.map_append]; exact hown2)
            have Hown5 := hide own5
            have z5 : w1.heap.size < w2.heap.size := by omega
            clear hg2 K2 hown2 HB4 CL4 CR4 FR4 c4 Hown4 own5 htl z4 hb4
            rcases D3.out with ⟨d1, d2⟩ | ⟨d1, d3, d2⟩ | ⟨d1, d3, d2⟩
            · have DI := hide d2
              clear d2 D3
              go_wp2
              go_quiet (fail)
              go_wp2
              have HB6 := HB5
              go_roundw
              case rel => first | exact ⟨n + 1, T ++ [x], (n : Int), eL, eI, eP, by omega, rfl, by go_num, DI.out, Hown5.out, (by (focus repeat' (first | (with_reducible exact Below.refl _ _) | (with_reducible assumption) | (with_reducible refine Below.alloc ?_ ?_ _) | (with_reducible refine Below.drew ?_) | (with_reducible refine bdrewN ?_ _) | (with_reducible refine Below.setCell ?_ ?_ _) | (first | (with_reducible exact Nat.le_refl _) | (with_reducible assumption) | omega | (simp; omega) | (simp; done))))), z5, CL5, CR5, FR5⟩ | ((repeat apply Exists.intro); exact ⟨⟨n + 1, T ++ [x], (n : Int), eL, eI, eP, by omega, rfl, by go_num, DI.out, Hown5.out, (by (focus repeat' (first | (with_reducible exact Below.refl _ _) | (with_reducible assumption) | (with_reducible refine Below.alloc ?_ ?_ _) | (with_reducible refine Below.drew ?_) | (with_reducible refine bdrewN ?_ _) | (with_reducible refine Below.setCell ?_ ?_ _) | (first | (with_reducible exact Nat.le_refl _) | (with_reducible assumption) | omega | (simp; omega) | (simp; done))))), z5, CL5, CR5, FR5⟩, rfl⟩)
              case measure => simp [intOf]; omega
            · obtain ⟨i, i1, rfl, i3, i4, _⟩ := Inv.last Hinv.out d1
              have c6 : w2.cell? ⟨b, off + i, none⟩ = some (.int .i64 li) := by (have q := (HB5.cell (p := ⟨b, off + i, none⟩) hb).trans (hc.out i (by omega)); rw [i4] at q; exact q)
              have i5 := hide i4
              have hn0 : ¬ ((i : Int) < 0) := by omega
              have hil : i < zs.length := by omega
              clear i4
              have DI := hide d2
              clear d2 D3
              go_wp2
              go_quiet (fail)
              go_wp2
              have HB6 := HB5
              go_roundw
              case rel => first | exact ⟨n + 1, T ++ [x], (n : Int), eL, eI, eP, by omega, rfl, by go_num, DI.out, Hown5.out, (by (focus repeat' (first | (with_reducible exact Below.refl _ _) | (with_reducible assumption) | (with_reducible refine Below.alloc ?_ ?_ _) | (with_reducible refine Below.drew ?_) | (with_reducible refine bdrewN ?_ _) | (with_reducible refine Below.setCell ?_ ?_ _) | (first | (with_reducible exact Nat.le_refl _) | (with_reducible assumption) | omega | (simp; omega) | (simp; done))))), z5, CL5, CR5, FR5⟩ | ((repeat apply Exists.intro); exact ⟨⟨n + 1, T ++ [x], (n : Int), eL, eI, eP, by omega, rfl, by go_num, DI.out, Hown5.out, (by (focus repeat' (first | (with_reducible exact Below.refl _ _) | (with_reducible assumption) | (with_reducible refine Below.alloc ?_ ?_ _) | (with_reducible refine Below.drew ?_) | (with_reducible refine bdrewN ?_ _) | (with_reducible refine Below.setCell ?_ ?_ _) | (first | (with_reducible exact Nat.le_refl _) | (with_reducible assumption) | omega | (simp; omega) | (simp; done))))), z5, CL5, CR5, FR5⟩, rfl⟩)
              case measure => simp [intOf]; omega
            · obtain ⟨i, i1, rfl, i3, i4, _⟩ := Inv.last Hinv.out d1
              have c6 : w2.cell? ⟨b, off + i, none⟩ = some (.int .i64 li) := by (have q := (HB5.cell (p := ⟨b, off + i, none⟩) hb).trans (hc.out i (by omega)); rw [i4] at q; exact q)
              have i5 := hide i4
              have hn0 : ¬ ((i : Int) < 0) := by omega
              have hil : i < zs.length := by omega
              have d4 : ¬ li < x := by omega
              clear i4
              have DI := hide d2
              clear d2 D3
              go_wp2
              go_quiet (fail)
              go_wp2
              have HB6 := HB5
              go_roundw
              case rel => first | exact ⟨n + 1, T ++ [x], (i : Int), eL, eI, eP, by omega, rfl, by go_num, DI.out, Hown5.out, (by (focus repeat' (first | (with_reducible exact Below.refl _ _) | (with_reducible assumption) | (with_reducible refine Below.alloc ?_ ?_ _) | (with_reducible refine Below.drew ?_) | (with_reducible refine bdrewN ?_ _) | (with_reducible refine Below.setCell ?_ ?_ _) | (first | (with_reducible exact Nat.le_refl _) | (with_reducible assumption) | omega | (simp; omega) | (simp; done))))), z5, CL5, CR5, FR5⟩ | ((repeat apply Exists.intro); exact ⟨⟨n + 1, T ++ [x], (i : Int), eL, eI, eP, by omega, rfl, by go_num, DI.out, Hown5.out, (by (focus repeat' (first | (with_reducible exact Below.refl _ _) | (with_reducible assumption) | (with_reducible refine Below.alloc ?_ ?_ _) | (with_reducible refine Below.drew ?_) | (with_reducible refine bdrewN ?_ _) | (with_reducible refine Below.setCell ?_ ?_ _) | (first | (with_reducible exact Nat.le_refl _) | (with_reducible assumption) | omega | (simp; omega) | (simp; done))))), z5, CL5, CR5, FR5⟩, rfl⟩)
              case measure => simp [intOf]; omega

    · have hnz : n = zs.length := by omega
      subst hnz
      have hle : ¬ ((zs.length : Int) < (zs.length : Int)) := by omega
      by_cases hb0 : bs < 0
      · obtain ⟨rfl, rfl, rfl, rfl, rfl⟩ := Inv.none inv hb0
        clear inv own hb0
        go_wp2_with fail
        refine (known_b _).mono ?_
        rintro e w5 ⟨rfl, hb5⟩
        have HB5 : Below w.heap.size w w5 := bstep (by (focus repeat' (first | (with_reducible exact Below.refl _ _) | (with_reducible assumption) | (with_reducible refine Below.alloc ?_ ?_ _) | (with_reducible refine Below.drew ?_) | (with_reducible refine bdrewN ?_ _) | (with_reducible refine Below.setCell ?_ ?_ _) | (first | (with_reducible exact Nat.le_refl _) | (with_reducible assumption) | omega | (simp; omega) | (simp; done))))) hb5
        go_wp2
        go_ret
        exact ⟨by first | rfl | (simp; done), HB5⟩
      · have hb1' : 0 ≤ bs := by omega
        obtain ⟨i, i1, rfl, rfl, i4, i5, i6, i7, i8, i9, i10, i11, i12, i13, i14, i15⟩ := Inv.last inv hb1'
        have hT : 0 < T.length := by
          rcases Nat.eq_zero_or_pos T.length with q | q
          · rw [q] at i11; cases i11
          · exact q
        obtain ⟨g, cp, rfl, hg, hgl, hcp, hcl, _⟩ := own_form own hT
        have ct := hide (show ∀ j, j < T.length → wr.cell? ⟨g, j, none⟩ = some (.int .i64 (T.getD j 0)) from fun j hj => (hcl j hj).trans (by simp [List.getD, hj]))
        have cb : wr.cell? ⟨b, off + i, none⟩ = some (.int .i64 li) := by (have q := (HBr.cell (p := ⟨b, off + i, none⟩) hb).trans (hc.out i i1); rw [i4] at q; exact q)
        have hbr : b < wr.heap.size := by (have := HBr.size; omega)
        have I8 := hide i8
        have I11 := hide i11
        have I12 := hide i12
        have I13 := hide i13
        have I14 := hide i14
        have I15 := hide i15
        have HF := hide FR
        clear i4 i8 i11 i12 i13 i14 i15 inv own hcl FR CL hle hb0 hb1'
        have hn0 : ¬ ((i : Int) < 0) := by omega
        have z0r : w.heap.size ≤ wr.heap.size := by omega
        obtain ⟨wo, hwo⟩ : ∃ q : World, q = wr := ⟨wr, rfl⟩
        subst hwo
        go_wp2
        go_loopw [15, 16, 17] (fun v15 v16 v17 wr => ∃ m : Nat, m ≤ T.length ∧ v15 = .int .i64 (l2 li T m).1 ∧ v16 = .bool (l2 li T m).2 ∧ v17 = .int .i64 m ∧ Below wo.heap.size wo wr) (fun _ _ v17 _ => T.length - (intOf v17).toNat)
        case atStart => exact ⟨0, Nat.zero_le _, rfl, rfl, rfl, by (focus repeat' (first | (with_reducible exact Below.refl _ _) | (with_reducible assumption) | (with_reducible refine Below.alloc ?_ ?_ _) | (with_reducible refine Below.drew ?_) | (with_reducible refine bdrewN ?_ _) | (with_reducible refine Below.setCell ?_ ?_ _) | (first | (with_reducible exact Nat.le_refl _) | (with_reducible assumption) | omega | (simp; omega) | (simp; done))))⟩
        case round =>
          obtain ⟨m, hm, rfl, rfl, rfl, rB⟩ := hrel
          have c8 : wr.cell? ⟨b, off + i, none⟩ = some (.int .i64 li) := (rB.cell (p := ⟨b, off + i, none⟩) hbr).trans cb
          by_cases hlt2 : m < T.length
          · have hlt3 : (m : Int) < (T.length : Int) := by omega
            have c7 : wr.cell? ⟨g, m, none⟩ = some (.int .i64 (T.getD m 0)) := (rB.cell (p := ⟨g, m, none⟩) hgl).trans (ct.out m hlt2)
            have E := hide (l2_next li T m)
            generalize T.getD m 0 = t at *
            generalize (l2 li T m).1 = o1 at *
            generalize (l2 li T m).2 = s1 at *
            by_cases t1 : t = li
            · have q1 : (t == li) = true := by simp [t1]
              cases s1 with
              | false =>
                have E1 := hide (show (l2 li T (m + 1)).1 = o1 from by rw [E.out, if_pos ⟨t1, rfl⟩])
                have E2 := hide (show (l2 li T (m + 1)).2 = true from by rw [E.out, if_pos ⟨t1, rfl⟩])
                clear E t1
                go_wp2
                go_quiet (fail)
                go_wp2
                go_roundw
                case rel => exact ⟨m + 1, by omega, by first | (rw [E1.out]; done) | (rw [E1.out]; congr 1; split <;> omega), by rw [E2.out], by go_num, by (focus repeat' (first | (with_reducible exact Below.refl _ _) | (with_reducible assumption) | (with_reducible refine Below.alloc ?_ ?_ _) | (with_reducible refine Below.drew ?_) | (with_reducible refine bdrewN ?_ _) | (with_reducible refine Below.setCell ?_ ?_ _) | (first | (with_reducible exact Nat.le_refl _) | (with_reducible assumption) | omega | (simp; omega) | (simp; done))))⟩
                case measure => simp [intOf]; omega
              | true =>
                have E1 := hide (show (l2 li T (m + 1)).1 = max o1 t from by rw [E.out, if_neg (fun x => Bool.noConfusion x.2)])
                have E2 := hide (show (l2 li T (m + 1)).2 = true from by rw [E.out, if_neg (fun x => Bool.noConfusion x.2)])
                clear E t1
                go_wp2
                go_quiet (fail)
                go_wp2
                go_roundw
                case rel => exact ⟨m + 1, by omega, by first | (rw [E1.out]; done) | (rw [E1.out]; congr 1; split <;> omega), by rw [E2.out], by go_num, by (focus repeat' (first | (with_reducible exact Below.refl _ _) | (with_reducible assumption) | (with_reducible refine Below.alloc ?_ ?_ _) | (with_reducible refine Below.drew ?_) | (with_reducible refine bdrewN ?_ _) | (with_reducible refine Below.setCell ?_ ?_ _) | (first | (with_reducible exact Nat.le_refl _) | (with_reducible assumption) | omega | (simp; omega) | (simp; done))))⟩
                case measure => simp [intOf]; omega
            · have q1 : (t == li) = false := by simp [t1]
              have E1 := hide (show (l2 li T (m + 1)).1 = max o1 t from by rw [E.out, if_neg (fun x => t1 x.1)])
              have E2 := hide (show (l2 li T (m + 1)).2 = s1 from by rw [E.out, if_neg (fun x => t1 x.1)])
              clear E t1
              go_wp2
              go_quiet (fail)
              go_wp2
              go_roundw
              case rel => exact ⟨m + 1, by omega, by first | (rw [E1.out]; done) | (rw [E1.out]; congr 1; split <;> omega), by rw [E2.out], by go_num, by (focus repeat' (first | (with_reducible exact Below.refl _ _) | (with_reducible assumption) | (with_reducible refine Below.alloc ?_ ?_ _) | (with_reducible refine Below.drew ?_) | (with_reducible refine bdrewN ?_ _) | (with_reducible refine Below.setCell ?_ ?_ _) | (first | (with_reducible exact Nat.le_refl _) | (with_reducible assumption) | omega | (simp; omega) | (simp; done))))⟩
              case measure => simp [intOf]; omega
          · have hmz : m = T.length := by omega
            subst hmz
            have hle2 : ¬ ((T.length : Int) < (T.length : Int)) := by omega
            have HBs : Below w.heap.size w wr := HBr.trans (rB.mono z0r)
            have CRs : ∀ o, wr.cell? ⟨w1.heap.size, o, none⟩ = (#[Value.int .i64 ((i : Int)), Value.int .i64 li, Value.int .i64 pr, Value.int .i64 10] : Array Value)[o]? := fun o => (rB.cell (p := ⟨w1.heap.size, o, none⟩) zr).trans (CR o)
            have J14 := I14.out
            have J15 := I15.out
            have J12 := I12.out
            have J13 := I13.out
            clear I8 I11 I12 I13 I14 I15 CR rB ct
            generalize (l2 li T T.length).2 = s2 at *
            generalize (l2 li T T.length).1 = oo at *
            by_cases ho : oo < 0
            · obtain rfl := J14 ho
              clear J14 J15
              go_wp2
              go_quiet (fail)
              go_wp2_with fail
              refine (known_b _).mono ?_
              rintro e w5 ⟨rfl, hb5⟩
              have HB5 : Below w.heap.size w w5 := bstep (by (focus repeat' (first | (with_reducible exact Below.refl _ _) | (with_reducible assumption) | (with_reducible refine Below.alloc ?_ ?_ _) | (with_reducible refine Below.drew ?_) | (with_reducible refine bdrewN ?_ _) | (with_reducible refine Below.setCell ?_ ?_ _) | (first | (with_reducible exact Nat.le_refl _) | (with_reducible assumption) | omega | (simp; omega) | (simp; done))))) hb5
              go_wp2
              go_ret
              exact ⟨by first | rfl | (simp; done) | (simp; omega), HB5⟩
            · obtain ⟨k1, k2⟩ := J15 (by omega)
              clear J14 J15
              have hmin : ¬ li < oo := by omega
              have k3 : ¬ (oo + sp < pr) := by omega
              go_wp2
              go_quiet (fail)
              go_wp2_with fail
              refine (known_b _).mono ?_
              rintro e w5 ⟨rfl, hb5⟩
              have HB5 : Below w.heap.size w w5 := bstep (by (focus repeat' (first | (with_reducible exact Below.refl _ _) | (with_reducible assumption) | (with_reducible refine Below.alloc ?_ ?_ _) | (with_reducible refine Below.drew ?_) | (with_reducible refine bdrewN ?_ _) | (with_reducible refine Below.setCell ?_ ?_ _) | (first | (with_reducible exact Nat.le_refl _) | (with_reducible assumption) | omega | (simp; omega) | (simp; done))))) hb5
              go_wp2
              go_ret
              exact ⟨by first | rfl | (simp; done) | (simp; omega), HB5⟩

end Go.Proofs.Ytbbdneekfejjkaa.best
