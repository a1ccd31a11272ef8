import Derived.Test.YtehpjipmlpaflaaU8
import Derived.Test.YtehpjipmlpaflaaP3
namespace Go.Proofs.Ytehpjipmlpaflaa.un
open Go.ChangeShapes Go.WideShapes Go.ChangeAt Go.RowKit Go.Deep Go.Shelf
set_option linter.unusedSimpArgs false
set_option linter.unusedVariables false

attribute [local go_sem] Oper.semAt_some

theorem sumL_le {L : List (List Int)} (h : ∀ b, (bidAt L b).length ≤ 64) : ∀ i, sumL L i ≤ i * 64
  | 0 => Nat.le_refl _
  | i + 1 => by have h1 := sumL_le h i; have h2 := h i; rw [sumL]; omega
theorem own_any3 {w : World} {base : Nat} {v : Value} {xs : List U} (own : w.ownsRow base 52 3 v xs.length (flat3 xs)) : ∃ ao cap, v = .slice ao xs.length cap := own_any own
set_option maxRecDepth 100000 in
set_option maxHeartbeats 8000000 in
theorem rOrder_c (so : Option Addr) (cap : Nat) (L : List (List Int)) (w : World) (hb : BRows so L w) (hL : L.length ≤ 4096) (hLb : ∀ b, (bidAt L b).length ≤ 64) :
    Calls Try.prog 20 #[.slice so L.length cap] w fun e w' => (∃ ao c, e = .returned (.slice ao (ordT L).length c) ∧ w'.ownsRow w.heap.size 52 3 (.slice ao (ordT L).length c) (ordT L).length (flat3 (ordT L))) ∧ Below w.heap.size w w' := by
  obtain ⟨i0, hi0, hz0, hi1, hi2⟩ := info_parts info52
  have HB := hide hb
  have HLB := hide hLb
  clear hb hLb
  go_enter Try.func20, Try.ntmps20
  go_wp2_with fail
  go_loopw [3, 4] (fun v3 v4 wr => ∃ i : Nat, i ≤ L.length ∧ v4 = .int .i64 (i : Int) ∧ wr.ownsRow w.heap.size 52 3 v3 (ordB L i).length (flat3 (ordB L i)) ∧ Below w.heap.size w wr) (fun _ v4 _ => L.length - (intOf v4).toNat)
  case atStart => exact ⟨0, Nat.zero_le _, rfl, World.ownsRow_nil _ _ _ _, Below.refl _ _⟩
  case round =>
    obtain ⟨i, hi, rfl, own, hbw⟩ := hrel
    have HO := hide own
    have HBW := hide hbw
    clear own hbw
    have hi0' : (0 : Int) ≤ (i : Int) := by omega
    by_cases hlt : i < L.length
    · have hlt' : (i : Int) < (L.length : Int) := by omega
      go_wp2_with fail
      obtain ⟨wo, hwo⟩ : ∃ q : World, q = wr := ⟨wr, rfl⟩
      subst hwo
      go_loopw [3, 5] (fun v3 v5 wr => ∃ k : Nat, k ≤ (bidAt L i).length ∧ v5 = .int .i64 (k : Int) ∧ wr.ownsRow w.heap.size 52 3 v3 (ordK L i (ordB L i) k).length (flat3 (ordK L i (ordB L i) k)) ∧ Below w.heap.size w wr) (fun _ v5 _ => (bidAt L i).length - (intOf v5).toNat)
      case atStart => exact ⟨0, Nat.zero_le _, rfl, HO.out, HBW.out⟩
      case round =>
        obtain ⟨k, hk, rfl, own, hbk⟩ := hrel
        have HOK := hide own
        have HBK := hide hbk
        obtain ⟨b, off, si, ci, rfl, cb, hrow⟩ := (HB.out.below HBK.out).spot hlt
        have HRW := hide hrow
        clear own hbk hrow
        have hk0 : (0 : Int) ≤ (k : Int) := by omega
        by_cases hkl : k < (bidAt L i).length
        · have hkl' : (k : Int) < ((bidAt L i).length : Int) := by omega
          obtain ⟨b2, off2, rfl, hcs⟩ := HRW.out.spot (by omega)
          obtain ⟨x, hx⟩ : ∃ x, x = at0 (bidAt L i) k := ⟨_, rfl⟩
          have ck : wr.cell? ⟨b2, off2 + k, none⟩ = some (.int .i64 x) := by rw [hx]; exact hcs k hkl
          have HX := hide hx
          clear hx hcs
          obtain ⟨xs, hxs⟩ : ∃ xs, xs = ordK L i (ordB L i) k := ⟨_, rfl⟩
          rw [← hxs] at HOK
          obtain ⟨ao, c, rfl⟩ := own_any3 HOK.out
          have HXS := hide hxs
          clear hxs
          go_wp2_with fail
          obtain ⟨W3, hW3⟩ : ∃ W3, W3 = wr.alloc (.cells #[.int .i64 (i : Int), .int .i64 (k : Int), .int .i64 x] 52) := ⟨_, rfl⟩
          rw [← hW3]
          obtain ⟨B, hB⟩ : ∃ B, B = wr.heap.size := ⟨_, rfl⟩
          rw [← hB]
          have hb3 : Below wr.heap.size wr W3 := by rw [hW3]; exact (Below.refl _ _).alloc (Nat.le_refl _) _
          have hz3 : W3.heap.size = B + 1 := by rw [hW3, hB]; simp
          have HBX := hide (show ∀ o, W3.cell? ⟨B, o, none⟩ = (#[Value.int .i64 (i : Int), .int .i64 (k : Int), .int .i64 x] : Array Value)[o]? from fun o => by rw [hW3, hB]; simp [go_sem])
          have HO3 := hide (show W3.ownsRow w.heap.size 52 3 (Value.slice ao xs.length c) (xs).length (flat3 (xs)) from own_bel HOK.out hb3)
          have HB3 := hide (bstep HBK.out hb3)
          have hlow : ∀ r, (Value.slice ao xs.length c).ownBlock = some r → r < B := fun r e => by rw [hB]; exact (HOK.out.lt r e).2
          have HLOW := hide hlow
          have hxl : xs.length ≤ 300000 := by
            have e1 := ordK_len L i (ordB L i) k
            rw [← HXS.out, ordB_len] at e1
            have e2 := sumL_le HLB.out i
            have e3 := HLB.out i
            omega
          have hwB : w.heap.size ≤ B := by rw [hB]; exact HBK.out.size
          clear hW3 hb3 hlow HOK HRW cb ck hB
          clear HBK
          go_loopw [7] (fun v7 wx => ∃ a : Nat, a ≤ xs.length ∧ v7 = .int .i64 (a : Int) ∧ atOf xs x xs.length = atOf xs x a ∧ Below W3.heap.size W3 wx) (fun v7 _ => (intOf v7).toNat)
          case atStart => exact ⟨xs.length, Nat.le_refl _, rfl, rfl, Below.refl _ _⟩
          case round =>
            obtain ⟨a, ha, rfl, hat, hb4⟩ := hrel
            have HAT := hide hat
            have HB4 := hide hb4
            have ha0 : (0 : Int) ≤ (a : Int) := by omega
            have bx := HBX.out 2
            have bx0 : wr.cell? ⟨B, 0, none⟩ = some (.int .i64 (i : Int)) := (hb4.cell (p := ⟨B, 0, none⟩) (show B < W3.heap.size by omega)).trans (HBX.out 0)
            have bx1 : wr.cell? ⟨B, 1, none⟩ = some (.int .i64 (k : Int)) := (hb4.cell (p := ⟨B, 1, none⟩) (show B < W3.heap.size by omega)).trans (HBX.out 1)
            have bx2 : wr.cell? ⟨B, 2, none⟩ = some (.int .i64 x) := (hb4.cell (p := ⟨B, 2, none⟩) (show B < W3.heap.size by omega)).trans bx
            clear hat hb4 bx
            rcases a with _ | a
            · have d0 : decide ((0 : Int) < ((0 : Nat) : Int)) = false := by decide
              have d00 : decide ((0 : Int) < 0) = false := by decide
              go_wp2_with fail
              go_quiet (fail)
              have HAE := hide (show atOf xs x xs.length = 0 from by rw [HAT.out]; first | rfl | (rw [HATS.out, if_neg (by rw [← HY.out]; omega)]))
              have HOW := hide (own_bel HO3.out HB4.out)
              have HBW3 := hide (bstep HB3.out HB4.out)
              have hzr := HB4.out.size
              have HKB := hide (HB4.out.block B (by omega))
              have hal0 : 0 ≤ xs.length := by have := atOf_le xs x xs.length; rw [HAE.out] at this; exact this
              clear HAT HB4
              go_wp2_with (at_builtin; refine wpList_append_lies _ rfl _ _ 44 rfl w.heap.size 52 i0 (.agg #[.int .i64 0, .int .i64 0, .int .i64 0]) 3 24 Try.underlying44 hi0 hz0 hi1 hi2 rfl (by decide) _ xs.length (flat3 xs) rfl (World.ownsRow.alloc (own_bel HOW.out (bdrewN (Below.refl _ _) _)) _) ⟨wr.heap.size, 0, none⟩ 1 1 (cellsU ((i : Int), (k : Int), x)) (by simp [go_sem]) rfl (new3 (wr.drewN _) ((i : Int), (k : Int), x) 52) (cellsU_one _) (by decide) (by unfold maxLen; omega) (by omega) (by (simp; omega)) _ rfl ?_; intro g2 cap2 wn hown2 hg2 hgg hgl)
              have hne : g2 ≠ B := by
                rcases hgg with q | q
                · have := HLOW.out g2 q
                  omega
                · simp at q
                  omega
              have HNX := hide (show wn.heap[B]? = W3.heap[B]? from (hg2.block B (by simp; omega) (fun e => by have := HLOW.out B e.symm; omega)).trans ((((bdrewN (Below.refl wr.heap.size wr) _).alloc (by simp) _).block B (by omega)).trans HKB.out))
              have HBN := hide (show Below w.heap.size w wn from ((HBW3.out.trans (bdrewN (Below.refl _ _) _)).alloc (by simp; omega) _).grown hg2 (by simp; omega) (fun r e => (HO3.out.lt r e).1))
              have HOX := hide hown2
              have hgz : g2 < wn.heap.size := hgl
              clear hown2 hg2 hgg hgl bx0 bx1 bx2 HLOW HKB HBW3 HOW
              have hal1 : (0) ≤ (xs.length : Int) := by omega
              go_loopw [8] (fun v8 wx => ∃ (n : Nat) (x' : U), 0 ≤ n ∧ n ≤ xs.length ∧ v8 = .int .i64 (n : Int) ∧ wx.ownsRow w.heap.size 52 3 (.slice (some ⟨g2, 0, none⟩) (xs.length + 1) cap2) (xs.length + 1) (flat3 (xs.take n ++ x' :: xs.drop n)) ∧ wx.heap[B]? = W3.heap[B]? ∧ Below w.heap.size w wx ∧ g2 < wx.heap.size) (fun v8 _ => (intOf v8).toNat)
              case atStart => exact ⟨xs.length, ((i : Int), (k : Int), x), hal0, Nat.le_refl _, rfl, by rw [List.take_length, List.drop_length, flat3_snoc]; exact HOX.out, HNX.out, HBN.out, hgz⟩
              case round =>
                obtain ⟨n, x', han, hnl, rfl, own, hbx, hbw, hgz2⟩ := hrel
                have HOR := hide own
                have HBB := hide hbx
                have HBY := hide hbw
                have hn0 : (0 : Int) ≤ (n : Int) := by omega
                have hg2w : w.heap.size ≤ g2 := (own.lt g2 rfl).1
                have hfz : ∀ o, wr.frozen? ⟨g2, o, none⟩ = false := own.frozenAt
                have hlen : (xs.take n ++ x' :: xs.drop n).length = xs.length + 1 := by simp; omega
                have hcell : ∀ j cc, j < xs.length + 1 → cc < 3 → wr.cell? ⟨g2, j * 3 + cc, none⟩ = (cellsU (get (xs.take n ++ x' :: xs.drop n) j))[cc]? := fun j cc hj hcc => by
                  rw [own.cellAt (j * 3 + cc) (by omega)]; exact flat3_at _ j cc (by omega) hcc
                have HC := hide hcell
                clear own hbx hbw HOX HNX HBN hcell
                rcases Nat.lt_or_ge (0) n with hlt3 | hge3
                · obtain ⟨m, rfl⟩ : ∃ m, n = m + 1 := ⟨n - 1, by omega⟩
                  have e2 : ((m + 1 : Nat) : Int) - 1 = (m : Int) := by omega
                  have hlt4 : (0) < (m : Int) + 1 := by omega
                  have hm1 : (m : Int) + 1 < (xs.length : Int) + 1 := by omega
                  have hm2 : (m : Int) < (xs.length : Int) + 1 := by omega
                  obtain ⟨ys, hys⟩ : ∃ ys, ys = xs.take (m + 1) ++ x' :: xs.drop (m + 1) := ⟨_, rfl⟩
                  rw [← hys] at HOR HC hlen
                  have HYS := hide hys
                  clear hys
                  obtain ⟨y0, hy0⟩ : ∃ y0, y0 = (get ys m).1 := ⟨_, rfl⟩
                  obtain ⟨y1, hy1⟩ : ∃ y1, y1 = (get ys m).2.1 := ⟨_, rfl⟩
                  obtain ⟨y2, hy2⟩ : ∃ y2, y2 = (get ys m).2.2 := ⟨_, rfl⟩
                  have r0 : wr.cell? ⟨g2, m * 3, none⟩ = some (.int .i64 y0) := by rw [hy0]; exact HC.out m 0 (by omega) (by decide)
                  have r1 : wr.cell? ⟨g2, m * 3 + 1, none⟩ = some (.int .i64 y1) := by rw [hy1]; exact HC.out m 1 (by omega) (by decide)
                  have r2 : wr.cell? ⟨g2, m * 3 + 2, none⟩ = some (.int .i64 y2) := by rw [hy2]; exact HC.out m 2 (by omega) (by decide)
                  have t0 : wr.cell? ⟨g2, (m + 1) * 3, none⟩ = some (.int .i64 (get ys (m + 1)).1) := HC.out (m + 1) 0 (by omega) (by decide)
                  have t1 : wr.cell? ⟨g2, (m + 1) * 3 + 1, none⟩ = some (.int .i64 (get ys (m + 1)).2.1) := HC.out (m + 1) 1 (by omega) (by decide)
                  have t2 : wr.cell? ⟨g2, (m + 1) * 3 + 2, none⟩ = some (.int .i64 (get ys (m + 1)).2.2) := HC.out (m + 1) 2 (by omega) (by decide)
                  have HY0 := hide hy0
                  have HY1 := hide hy1
                  have HY2 := hide hy2
                  clear hy0 hy1 hy2
                  go_wp2_with fail
                  go_roundw
                  case rel =>
                    refine ⟨m, get xs m, by omega, by omega, by go_num, ?_, ?_, ((HBY.out.setCell (p := ⟨g2, _, none⟩) hg2w _).setCell (p := ⟨g2, _, none⟩) hg2w _).setCell (p := ⟨g2, _, none⟩) hg2w _, by simp only [World.size_setCell]; exact hgz2⟩
                    · have q := own_put HOR.out (m + 1) (.int .i64 y0) (.int .i64 y1) (.int .i64 y2)
                      rw [HY0.out, HY1.out, HY2.out, ← flat3_set ys (get ys m) (m + 1) (by omega), HYS.out, shift_step xs x' m (by omega), ← HYS.out, ← HY0.out, ← HY1.out, ← HY2.out] at q
                      exact q
                    · exact (keeps3 _ _ _ _ _ _ _ _ B (Ne.symm hne)).trans HBB.out
                  case measure => (first | (simp [intOf]; done) | (simp [intOf]; omega))
                · obtain rfl : n = 0 := by omega
                  have hge4 : ¬ (0) < (0) := by omega
                  have bz0 : wr.cell? ⟨B, 0, none⟩ = some (.int .i64 (i : Int)) := (World.cell?_of_block (a := ⟨B, 0, none⟩) HBB.out).trans (HBX.out 0)
                  have bz1 : wr.cell? ⟨B, 1, none⟩ = some (.int .i64 (k : Int)) := (World.cell?_of_block (a := ⟨B, 1, none⟩) HBB.out).trans (HBX.out 1)
                  have bz2 : wr.cell? ⟨B, 2, none⟩ = some (.int .i64 x) := (World.cell?_of_block (a := ⟨B, 2, none⟩) HBB.out).trans (HBX.out 2)
                  have t0 : wr.cell? ⟨g2, 0, none⟩ = some (.int .i64 (get (xs.take (0) ++ x' :: xs.drop (0)) (0)).1) := HC.out (0) 0 (by omega) (by decide)
                  have t1 : wr.cell? ⟨g2, 1, none⟩ = some (.int .i64 (get (xs.take (0) ++ x' :: xs.drop (0)) (0)).2.1) := HC.out (0) 1 (by omega) (by decide)
                  have t2 : wr.cell? ⟨g2, 2, none⟩ = some (.int .i64 (get (xs.take (0) ++ x' :: xs.drop (0)) (0)).2.2) := HC.out (0) 2 (by omega) (by decide)
                  have hm1 : (0) < (xs.length : Int) + 1 := by omega
                  have hk64 : (bidAt L i).length ≤ 64 := HLB.out i
                  go_wp2_with fail
                  go_roundw
                  case rel =>
                    have q : ((((wr.setCell ⟨g2, (0) * 3, none⟩ (.int .i64 (i : Int))).setCell ⟨g2, (0) * 3 + 1, none⟩ (.int .i64 (k : Int))).setCell ⟨g2, (0) * 3 + 2, none⟩ (.int .i64 x)).ownsRow w.heap.size 52 3 (.slice (some ⟨g2, 0, none⟩) (xs.length + 1) cap2) (xs.length + 1) (flat3 ((xs.take (0) ++ x' :: xs.drop (0)).set (0) ((i : Int), (k : Int), x)))) := by
                      rw [flat3_set _ _ _ (by omega)]
                      exact own_put HOR.out (0) _ _ _
                    have q2 : ordK L i (ordB L i) (k + 1) = (xs.take (0) ++ x' :: xs.drop (0)).set (0) ((i : Int), (k : Int), x) := by
                      rw [shift_end xs x' _ (0) (by omega), ordK, ← HXS.out, show unitAt L i k = ((i : Int), (k : Int), x) from by (rw [HX.out]; rfl), ins]
                      show xs.take (atOf xs x xs.length) ++ _ :: xs.drop (atOf xs x xs.length) = _
                      rw [HAE.out]
                    refine ⟨k + 1, by omega, by go_num, ?_, ((HBY.out.setCell (p := ⟨g2, _, none⟩) hg2w _).setCell (p := ⟨g2, _, none⟩) hg2w _).setCell (p := ⟨g2, _, none⟩) hg2w _⟩
                    rw [q2, List.length_set, hlen]
                    exact q
                  case measure => (first | (simp [intOf]; done) | (simp [intOf]; omega))
            · have d1 : decide ((0 : Int) < ((a + 1 : Nat) : Int)) = true := by (rw [decide_eq_true_eq]; omega)
              have d2 : decide ((0 : Int) < (a : Int) + 1) = true := by (rw [decide_eq_true_eq]; omega)
              have e1 : ((a + 1 : Nat) : Int) - 1 = (a : Int) := by omega
              have hal : (a : Int) < (xs.length : Int) := by omega
              obtain ⟨g, cp, hv, hg0, hgl⟩ := HO3.out.form (by omega)
              obtain ⟨rfl, rfl⟩ : ao = some ⟨g, 0, none⟩ ∧ c = cp := by (injection hv with e1 e2 e3; exact ⟨e1, e3⟩)
              obtain ⟨y, hy⟩ : ∃ y, y = (get xs a).2.2 := ⟨_, rfl⟩
              have cy : wr.cell? ⟨g, a * 3 + 2, none⟩ = some (.int .i64 y) := (HB4.out.cell (p := ⟨g, a * 3 + 2, none⟩) hgl).trans (by rw [HO3.out.cellAt (a * 3 + 2) (by clear hv; omega), flat3_at xs a 2 (by omega) (by decide), hy]; rfl)
              have HY := hide hy
              clear hy hv
              have HATS := hide (show atOf xs x (a + 1) = if (get xs a).2.2 < x then atOf xs x a else a + 1 from rfl)
              by_cases hyx : y < x
              · have d3 : decide (y < x) = true := by (rw [decide_eq_true_eq]; exact hyx)
                go_wp2_with fail
                go_quiet (fail)
                go_wp2_with fail
                go_roundw
                case rel => exact ⟨a, by omega, by go_num, by rw [HAT.out, HATS.out, if_pos (by rw [← HY.out]; exact hyx)], by have := HB4.out; (focus repeat' (first | (with_reducible exact Below.refl _ _) | (with_reducible assumption) | (with_reducible refine Below.alloc ?_ ?_ _) | (with_reducible refine Below.drew ?_) | (with_reducible refine bdrewN ?_ _) | (with_reducible refine Below.setCell ?_ ?_ _) | (first | (with_reducible exact Nat.le_refl _) | (with_reducible assumption) | omega | (simp; omega) | (simp; done))))⟩
                case measure => (first | (simp [intOf]; done) | (simp [intOf]; omega))
              · have d3 : decide (y < x) = false := by (rw [decide_eq_false_iff_not]; exact hyx)
                go_wp2_with fail
                go_quiet (fail)
                have HAE := hide (show atOf xs x xs.length = (a + 1) from by rw [HAT.out]; first | rfl | (rw [HATS.out, if_neg (by rw [← HY.out]; omega)]))
                have HOW := hide (own_bel HO3.out HB4.out)
                have HBW3 := hide (bstep HB3.out HB4.out)
                have hzr := HB4.out.size
                have HKB := hide (HB4.out.block B (by omega))
                have hal0 : (a + 1) ≤ xs.length := by have := atOf_le xs x xs.length; rw [HAE.out] at this; exact this
                clear HAT HB4
                go_wp2_with (at_builtin; refine wpList_append_lies _ rfl _ _ 44 rfl w.heap.size 52 i0 (.agg #[.int .i64 0, .int .i64 0, .int .i64 0]) 3 24 Try.underlying44 hi0 hz0 hi1 hi2 rfl (by decide) _ xs.length (flat3 xs) rfl (World.ownsRow.alloc (own_bel HOW.out (bdrewN (Below.refl _ _) _)) _) ⟨wr.heap.size, 0, none⟩ 1 1 (cellsU ((i : Int), (k : Int), x)) (by simp [go_sem]) rfl (new3 (wr.drewN _) ((i : Int), (k : Int), x) 52) (cellsU_one _) (by decide) (by unfold maxLen; omega) (by omega) (by (simp; omega)) _ rfl ?_; intro g2 cap2 wn hown2 hg2 hgg hgl)
                have hne : g2 ≠ B := by
                  rcases hgg with q | q
                  · have := HLOW.out g2 q
                    omega
                  · simp at q
                    omega
                have HNX := hide (show wn.heap[B]? = W3.heap[B]? from (hg2.block B (by simp; omega) (fun e => by have := HLOW.out B e.symm; omega)).trans ((((bdrewN (Below.refl wr.heap.size wr) _).alloc (by simp) _).block B (by omega)).trans HKB.out))
                have HBN := hide (show Below w.heap.size w wn from ((HBW3.out.trans (bdrewN (Below.refl _ _) _)).alloc (by simp; omega) _).grown hg2 (by simp; omega) (fun r e => (HO3.out.lt r e).1))
                have HOX := hide hown2
                have hgz : g2 < wn.heap.size := hgl
                clear hown2 hg2 hgg hgl bx0 bx1 bx2 HLOW HKB HBW3 HOW
                have hal1 : ((a : Int) + 1) ≤ (xs.length : Int) := by omega
                go_loopw [8] (fun v8 wx => ∃ (n : Nat) (x' : U), (a + 1) ≤ n ∧ n ≤ xs.length ∧ v8 = .int .i64 (n : Int) ∧ wx.ownsRow w.heap.size 52 3 (.slice (some ⟨g2, 0, none⟩) (xs.length + 1) cap2) (xs.length + 1) (flat3 (xs.take n ++ x' :: xs.drop n)) ∧ wx.heap[B]? = W3.heap[B]? ∧ Below w.heap.size w wx ∧ g2 < wx.heap.size) (fun v8 _ => (intOf v8).toNat)
                case atStart => exact ⟨xs.length, ((i : Int), (k : Int), x), hal0, Nat.le_refl _, rfl, by rw [List.take_length, List.drop_length, flat3_snoc]; exact HOX.out, HNX.out, HBN.out, hgz⟩
                case round =>
                  obtain ⟨n, x', han, hnl, rfl, own, hbx, hbw, hgz2⟩ := hrel
                  have HOR := hide own
                  have HBB := hide hbx
                  have HBY := hide hbw
                  have hn0 : (0 : Int) ≤ (n : Int) := by omega
                  have hg2w : w.heap.size ≤ g2 := (own.lt g2 rfl).1
                  have hfz : ∀ o, wr.frozen? ⟨g2, o, none⟩ = false := own.frozenAt
                  have hlen : (xs.take n ++ x' :: xs.drop n).length = xs.length + 1 := by simp; omega
                  have hcell : ∀ j cc, j < xs.length + 1 → cc < 3 → wr.cell? ⟨g2, j * 3 + cc, none⟩ = (cellsU (get (xs.take n ++ x' :: xs.drop n) j))[cc]? := fun j cc hj hcc => by
                    rw [own.cellAt (j * 3 + cc) (by omega)]; exact flat3_at _ j cc (by omega) hcc
                  have HC := hide hcell
                  clear own hbx hbw HOX HNX HBN hcell
                  rcases Nat.lt_or_ge ((a + 1)) n with hlt3 | hge3
                  · obtain ⟨m, rfl⟩ : ∃ m, n = m + 1 := ⟨n - 1, by omega⟩
                    have e2 : ((m + 1 : Nat) : Int) - 1 = (m : Int) := by omega
                    have hlt4 : ((a : Int) + 1) < (m : Int) + 1 := by omega
                    have hm1 : (m : Int) + 1 < (xs.length : Int) + 1 := by omega
                    have hm2 : (m : Int) < (xs.length : Int) + 1 := by omega
                    obtain ⟨ys, hys⟩ : ∃ ys, ys = xs.take (m + 1) ++ x' :: xs.drop (m + 1) := ⟨_, rfl⟩
                    rw [← hys] at HOR HC hlen
                    have HYS := hide hys
                    clear hys
                    obtain ⟨y0, hy0⟩ : ∃ y0, y0 = (get ys m).1 := ⟨_, rfl⟩
                    obtain ⟨y1, hy1⟩ : ∃ y1, y1 = (get ys m).2.1 := ⟨_, rfl⟩
                    obtain ⟨y2, hy2⟩ : ∃ y2, y2 = (get ys m).2.2 := ⟨_, rfl⟩
                    have r0 : wr.cell? ⟨g2, m * 3, none⟩ = some (.int .i64 y0) := by rw [hy0]; exact HC.out m 0 (by omega) (by decide)
                    have r1 : wr.cell? ⟨g2, m * 3 + 1, none⟩ = some (.int .i64 y1) := by rw [hy1]; exact HC.out m 1 (by omega) (by decide)
                    have r2 : wr.cell? ⟨g2, m * 3 + 2, none⟩ = some (.int .i64 y2) := by rw [hy2]; exact HC.out m 2 (by omega) (by decide)
                    have t0 : wr.cell? ⟨g2, (m + 1) * 3, none⟩ = some (.int .i64 (get ys (m + 1)).1) := HC.out (m + 1) 0 (by omega) (by decide)
                    have t1 : wr.cell? ⟨g2, (m + 1) * 3 + 1, none⟩ = some (.int .i64 (get ys (m + 1)).2.1) := HC.out (m + 1) 1 (by omega) (by decide)
                    have t2 : wr.cell? ⟨g2, (m + 1) * 3 + 2, none⟩ = some (.int .i64 (get ys (m + 1)).2.2) := HC.out (m + 1) 2 (by omega) (by decide)
                    have HY0 := hide hy0
                    have HY1 := hide hy1
                    have HY2 := hide hy2
                    clear hy0 hy1 hy2
                    go_wp2_with fail
                    go_roundw
                    case rel =>
                      refine ⟨m, get xs m, by omega, by omega, by go_num, ?_, ?_, ((HBY.out.setCell (p := ⟨g2, _, none⟩) hg2w _).setCell (p := ⟨g2, _, none⟩) hg2w _).setCell (p := ⟨g2, _, none⟩) hg2w _, by simp only [World.size_setCell]; exact hgz2⟩
                      · have q := own_put HOR.out (m + 1) (.int .i64 y0) (.int .i64 y1) (.int .i64 y2)
                        rw [HY0.out, HY1.out, HY2.out, ← flat3_set ys (get ys m) (m + 1) (by omega), HYS.out, shift_step xs x' m (by omega), ← HYS.out, ← HY0.out, ← HY1.out, ← HY2.out] at q
                        exact q
                      · exact (keeps3 _ _ _ _ _ _ _ _ B (Ne.symm hne)).trans HBB.out
                    case measure => (first | (simp [intOf]; done) | (simp [intOf]; omega))
                  · obtain rfl : n = (a + 1) := by omega
                    have hge4 : ¬ ((a : Int) + 1) < ((a : Int) + 1) := by omega
                    have bz0 : wr.cell? ⟨B, 0, none⟩ = some (.int .i64 (i : Int)) := (World.cell?_of_block (a := ⟨B, 0, none⟩) HBB.out).trans (HBX.out 0)
                    have bz1 : wr.cell? ⟨B, 1, none⟩ = some (.int .i64 (k : Int)) := (World.cell?_of_block (a := ⟨B, 1, none⟩) HBB.out).trans (HBX.out 1)
                    have bz2 : wr.cell? ⟨B, 2, none⟩ = some (.int .i64 x) := (World.cell?_of_block (a := ⟨B, 2, none⟩) HBB.out).trans (HBX.out 2)
                    have t0 : wr.cell? ⟨g2, (a + 1) * 3, none⟩ = some (.int .i64 (get (xs.take ((a + 1)) ++ x' :: xs.drop ((a + 1))) ((a + 1))).1) := HC.out ((a + 1)) 0 (by omega) (by decide)
                    have t1 : wr.cell? ⟨g2, (a + 1) * 3 + 1, none⟩ = some (.int .i64 (get (xs.take ((a + 1)) ++ x' :: xs.drop ((a + 1))) ((a + 1))).2.1) := HC.out ((a + 1)) 1 (by omega) (by decide)
                    have t2 : wr.cell? ⟨g2, (a + 1) * 3 + 2, none⟩ = some (.int .i64 (get (xs.take ((a + 1)) ++ x' :: xs.drop ((a + 1))) ((a + 1))).2.2) := HC.out ((a + 1)) 2 (by omega) (by decide)
                    have hm1 : ((a : Int) + 1) < (xs.length : Int) + 1 := by omega
                    have hk64 : (bidAt L i).length ≤ 64 := HLB.out i
                    go_wp2_with fail
                    go_roundw
                    case rel =>
                      have q : ((((wr.setCell ⟨g2, ((a + 1)) * 3, none⟩ (.int .i64 (i : Int))).setCell ⟨g2, ((a + 1)) * 3 + 1, none⟩ (.int .i64 (k : Int))).setCell ⟨g2, ((a + 1)) * 3 + 2, none⟩ (.int .i64 x)).ownsRow w.heap.size 52 3 (.slice (some ⟨g2, 0, none⟩) (xs.length + 1) cap2) (xs.length + 1) (flat3 ((xs.take ((a + 1)) ++ x' :: xs.drop ((a + 1))).set ((a + 1)) ((i : Int), (k : Int), x)))) := by
                        rw [flat3_set _ _ _ (by omega)]
                        exact own_put HOR.out ((a + 1)) _ _ _
                      have q2 : ordK L i (ordB L i) (k + 1) = (xs.take ((a + 1)) ++ x' :: xs.drop ((a + 1))).set ((a + 1)) ((i : Int), (k : Int), x) := by
                        rw [shift_end xs x' _ ((a + 1)) (by omega), ordK, ← HXS.out, show unitAt L i k = ((i : Int), (k : Int), x) from by (rw [HX.out]; rfl), ins]
                        show xs.take (atOf xs x xs.length) ++ _ :: xs.drop (atOf xs x xs.length) = _
                        rw [HAE.out]
                      refine ⟨k + 1, by omega, by go_num, ?_, ((HBY.out.setCell (p := ⟨g2, _, none⟩) hg2w _).setCell (p := ⟨g2, _, none⟩) hg2w _).setCell (p := ⟨g2, _, none⟩) hg2w _⟩
                      rw [q2, List.length_set, hlen]
                      exact q
                    case measure => (first | (simp [intOf]; done) | (simp [intOf]; omega))
        · obtain rfl : k = (bidAt L i).length := by omega
          go_wp2_with fail
          go_roundw
          case rel => exact ⟨i + 1, by omega, by go_num, HOK.out, HBK.out⟩
          case measure => (first | (simp [intOf]; done) | (simp [intOf]; omega))
    · obtain rfl : i = L.length := by omega
      obtain ⟨ao, c, rfl⟩ := own_any3 HO.out
      go_wp2
      refine bodyPost_ret (v := .slice ao (ordB L L.length).length c) (by simp [results, Try.f20, go_sem]) rfl ⟨⟨ao, c, rfl, HO.out⟩, HBW.out⟩
end Go.Proofs.Ytehpjipmlpaflaa.un
