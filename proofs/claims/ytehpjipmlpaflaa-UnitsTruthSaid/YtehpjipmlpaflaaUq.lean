import Derived.Test.YtehpjipmlpaflaaP4
namespace Go.Proofs.Ytehpjipmlpaflaa.un
open Go.ChangeShapes Go.WideShapes Go.ChangeAt Go.RowKit Go.Deep Go.Shelf
set_option linter.unusedSimpArgs false
set_option linter.unusedVariables false

attribute [local go_sem] Oper.semAt_some

/-- the first units of the first k bids that have one -/
def firsts (L : List (List Int)) : Nat → List (List Int)
  | 0 => []
  | k + 1 => if 0 < (bidAt L k).length then firsts L k ++ [[at0 (bidAt L k) 0]] else firsts L k
theorem firsts_len (L : List (List Int)) : ∀ k, (firsts L k).length ≤ k
  | 0 => Nat.le_refl _
  | k + 1 => by
    have := firsts_len L k
    rw [firsts]
    split
    · rw [List.length_append, List.length_singleton]; omega
    · omega
theorem firsts_one (L : List (List Int)) : ∀ k l, l ∈ firsts L k → ∃ x, l = [x]
  | 0, l, h => by cases h
  | k + 1, l, h => by
    rw [firsts] at h
    split at h
    · rcases List.mem_append.1 h with h | h
      · exact firsts_one L k l h
      · exact ⟨_, List.mem_singleton.1 h⟩
    · exact firsts_one L k l h
theorem bid_one {L : List (List Int)} (h : ∀ l, l ∈ L → ∃ x, l = [x]) {b : Nat} (hb : b < L.length) : ∃ x, bidAt L b = [x] := by
  have e : bidAt L b = L[b] := by unfold bidAt; rw [List.getElem?_eq_getElem hb]; rfl
  rw [e]
  exact h _ (List.getElem_mem hb)
/-- where each wants one unit: what Better answers -/
theorem truth_better (count floor who other : Int) (L : List (List Int)) (hL : L.length ≤ 4096) (h1 : ∀ l, l ∈ L → ∃ x, l = [x]) : ∃ A B V : Int,
    (∀ (so : Option Addr) (cap : Nat) (sb : Option Addr) (cb : Nat) (w : World), BRows so L w → IRow sb [other] w → (∀ b, b < L.length → ∀ bS offS si ci, so = some ⟨bS, offS, none⟩ → w.cell? ⟨bS, offS + b, none⟩ = some (.slice si (bidAt L b).length ci) → (bidAt L b).length ≤ ci) → Calls Try.prog 25 #[.int .i64 count, .int .i64 floor, .slice so L.length cap, .int .i64 who, .slice sb 1 cb] w fun e w' => e = .returned (.tuple #[.int .i64 A, .int .i64 B, .int .i64 V]) ∧ Below w.heap.size w w') ∧ ((V ≠ 0 ∧ A = 0 ∧ B = 0) ∨ (V = 0 ∧ B ≤ A ∧ 0 ≤ A)) := by
  obtain ⟨v1, hw1⟩ := wrong_one count floor L
  obtain ⟨p1, nx1, won1, s1⟩ := sale_one count floor L v1
  by_cases hlo : who < 0
  · obtain ⟨A, B, V, hA, hr⟩ : ∃ A B V : Int, BetterIs false v1 v1 0 0 A B V ∧ ((V ≠ 0 ∧ A = 0 ∧ B = 0) ∨ (V = 0 ∧ B ≤ A ∧ 0 ≤ A)) := by
      by_cases h : v1 = 2
      · exact ⟨0, 0, 2, .inl ⟨.inl h, rfl, rfl, rfl⟩, .inl ⟨by decide, rfl, rfl⟩⟩
      · exact ⟨0, 0, 4, .inr (.inl ⟨⟨h, h⟩, rfl, rfl, rfl, rfl⟩), .inl ⟨by decide, rfl, rfl⟩⟩
    exact ⟨A, B, V, fun so cap sb cb w hb hx _ => Better_low count floor so cap L sb cb [other] w hb hx hL who hlo hw1 s1 hA, hr⟩
  · by_cases hhi : (L.length : Int) ≤ who
    · obtain ⟨A, B, V, hA, hr⟩ : ∃ A B V : Int, BetterIs false v1 v1 0 0 A B V ∧ ((V ≠ 0 ∧ A = 0 ∧ B = 0) ∨ (V = 0 ∧ B ≤ A ∧ 0 ≤ A)) := by
        by_cases h : v1 = 2
        · exact ⟨0, 0, 2, .inl ⟨.inl h, rfl, rfl, rfl⟩, .inl ⟨by decide, rfl, rfl⟩⟩
        · exact ⟨0, 0, 4, .inr (.inl ⟨⟨h, h⟩, rfl, rfl, rfl, rfl⟩), .inl ⟨by decide, rfl, rfl⟩⟩
      exact ⟨A, B, V, fun so cap sb cb w hb hx _ => Better_high count floor so cap L sb cb [other] w hb hx hL who (by omega) hhi hw1 s1 hA, hr⟩
    · obtain ⟨b, rfl⟩ : ∃ b : Nat, who = (b : Int) := ⟨who.toNat, by omega⟩
      have hbl : b < L.length := by omega
      obtain ⟨x, hx⟩ := bid_one h1 hbl
      obtain ⟨v2, hw2⟩ := wrong_one count floor (L.set b [other])
      obtain ⟨p2, nx2, won2, s2⟩ := sale_one count floor (L.set b [other]) v2
      obtain ⟨A, B, V, hA, hr⟩ : ∃ A B V : Int, BetterIs true v1 v2 (gainI p1 (at0 won1 b).toNat (bidAt L b)) (gainI p2 (at0 won2 b).toNat (bidAt L b)) A B V ∧ ((V ≠ 0 ∧ A = 0 ∧ B = 0) ∨ (V = 0 ∧ B ≤ A ∧ 0 ≤ A)) := by
        by_cases h : v1 = 2 ∨ v2 = 2
        · exact ⟨0, 0, 2, .inl ⟨h, rfl, rfl, rfl⟩, .inl ⟨by decide, rfl, rfl⟩⟩
        · by_cases h' : v1 ≠ 0 ∨ v2 ≠ 0
          · exact ⟨0, 0, 7, .inr (.inr (.inl ⟨⟨fun q => h (.inl q), fun q => h (.inr q)⟩, rfl, h', rfl, rfl, rfl⟩)), .inl ⟨by decide, rfl, rfl⟩⟩
          · obtain ⟨rfl, rfl⟩ : v1 = 0 ∧ v2 = 0 := by omega
            refine ⟨_, _, 0, .inr (.inr (.inr ⟨rfl, rfl, rfl, rfl, rfl, rfl⟩)), .inr ⟨rfl, ?_⟩⟩
            have T := truth hbl hx hw1.may hw2.may
            rcases s1 with ⟨q, _⟩ | ⟨_, e1, _, e2⟩
            · exact absurd rfl q
            rcases s2 with ⟨q, _⟩ | ⟨_, e3, _, e4⟩
            · exact absurd rfl q
            have f1 : (at0 won1 b).toNat = cnt ((ordT L).take count.toNat) b := by rw [e2, at0_wonI _ _ _ hbl]; rfl
            have f2 : (at0 won2 b).toNat = cnt ((ordT (L.set b [other])).take count.toNat) b := by rw [e4, at0_wonI _ _ _ (by rw [List.length_set]; exact hbl)]; rfl
            rw [f1, f2, e1, e3, hx]
            exact ⟨T.2, T.1⟩
      exact ⟨A, B, V, fun so cap sb cb w hb hx hcp => Better_there count floor so cap L sb cb [other] w hb hx hL b hbl (hcp b hbl) hw1 hw2 s1 s2 hA, hr⟩
/-- rows of one int, over w0 -/
structure Ones (L : List (List Int)) (w0 : World) (ao : Option Addr) (c : Nat) (W : World) : Prop where
  low : Below w0.heap.size w0 W
  row : ∃ vs, W.ownsRow w0.heap.size 41 1 (.slice ao L.length c) L.length vs ∧ ∀ i, i < L.length → ∃ si ci, vs[i]? = some (.slice si (bidAt L i).length ci) ∧ IRow si (bidAt L i) w0 ∧ (bidAt L i).length ≤ ci
theorem Ones.turn {L : List (List Int)} {w0 : World} {ao : Option Addr} {c : Nat} {W : World} (h : Ones L w0 ao c W) : Turn L w0 ao c W := by
  obtain ⟨vs, own, hv⟩ := h.row
  exact ⟨h.low, vs, own, fun i hi => by obtain ⟨si, ci, h1, h2, _⟩ := hv i hi; exact ⟨si, ci, h1, h2⟩⟩
theorem Ones.caps {L : List (List Int)} {w0 : World} {ao : Option Addr} {c : Nat} {W : World} (h : Ones L w0 ao c W) : ∀ b, b < L.length → ∀ bS offS si ci, ao = some ⟨bS, offS, none⟩ → W.cell? ⟨bS, offS + b, none⟩ = some (.slice si (bidAt L b).length ci) → (bidAt L b).length ≤ ci := by
  intro b hb bS offS si ci e hc
  obtain ⟨vs, own, hv⟩ := h.row
  obtain ⟨g, cp, e2, hg0, hgl⟩ := own.form (by omega)
  obtain ⟨rfl, rfl⟩ : ao = some ⟨g, 0, none⟩ ∧ c = cp := by (injection e2 with e1 e2 e3; exact ⟨e1, e3⟩)
  cases e
  obtain ⟨sj, cj, h1, _, h3⟩ := hv b hb
  rw [Nat.zero_add, own.cellAt b (by omega), h1] at hc
  simp at hc
  omega
theorem Ones.below {L : List (List Int)} {w0 : World} {ao : Option Addr} {c : Nat} {W W' : World} (h : Ones L w0 ao c W) (hb : Below W.heap.size W W') : Ones L w0 ao c W' := by
  obtain ⟨vs, own, hv⟩ := h.row
  exact ⟨bstep h.low hb, vs, own_bel own hb, hv⟩
set_option maxRecDepth 100000 in
set_option maxHeartbeats 8000000 in
theorem UnitsTruth_c (count floor who other : Int) (so : Option Addr) (cap : Nat) (L : List (List Int)) (w : World) (hb : BRows so L w) (hcp : ∀ b, b < L.length → ∀ bS offS si ci, so = some ⟨bS, offS, none⟩ → w.cell? ⟨bS, offS + b, none⟩ = some (.slice si (bidAt L b).length ci) → (bidAt L b).length ≤ ci) : Calls Try.prog 8 #[.agg #[.int .i64 count, .int .i64 floor, .slice so L.length cap], .int .i64 who, .int .i64 other] w fun e w' => e = .returned (.bool true) ∧ Below w.heap.size w w' := by
  obtain ⟨i1, hi1, hy0, hy1, hy2⟩ := info_parts info41
  have HB := hide hb
  have HCP := hide hcp
  clear hb hcp
  go_enter Try.func8, Try.ntmps8
  go_wp2_with fail
  obtain ⟨W0, hW0⟩ : ∃ W0, W0 = w.alloc (.cells #[.int .i64 count, .int .i64 floor, .slice so L.length cap] 24) := ⟨_, rfl⟩
  have hb0 : Below w.heap.size w W0 := by rw [hW0]; exact (Below.refl _ _).alloc (Nat.le_refl _) _
  have HA0 := hide (show ∀ o, W0.cell? ⟨w.heap.size, o, none⟩ = (#[Value.int .i64 count, .int .i64 floor, .slice so L.length cap] : Array Value)[o]? from fun o => by rw [hW0]; simp [go_sem])
  have hz0 : W0.heap.size = w.heap.size + 1 := by rw [hW0]; simp
  rw [← hW0]
  have HB0 := hide hb0
  clear hW0 hb0
  go_loopw [7, 8] (fun v7 v8 wr => ∃ (k : Nat) (ao : Option Addr) (c : Nat), k ≤ L.length ∧ k ≤ 40 ∧ v8 = .int .i64 (k : Int) ∧ v7 = .slice ao (firsts L k).length c ∧ Ones (firsts L k) W0 ao c wr) (fun _ v8 _ => 40 - (intOf v8).toNat)
  case atStart => exact ⟨0, none, 0, Nat.zero_le _, Nat.zero_le _, rfl, rfl, Below.refl _ _, [], World.ownsRow_nil _ _ _ _, fun i h => by cases h⟩
  case round =>
    obtain ⟨k, ao, c, hk, hk40, rfl, rfl, hone⟩ := hrel
    have HO := hide hone
    have HLW := hide hone.low
    have hk0 : (0 : Int) ≤ (k : Int) := by omega
    have a0 : wr.cell? ⟨w.heap.size, 0, none⟩ = some (.int .i64 count) := (hone.low.cell (p := ⟨w.heap.size, 0, none⟩) (show w.heap.size < W0.heap.size by omega)).trans (HA0.out 0)
    have a1 : wr.cell? ⟨w.heap.size, 1, none⟩ = some (.int .i64 floor) := (hone.low.cell (p := ⟨w.heap.size, 1, none⟩) (show w.heap.size < W0.heap.size by omega)).trans (HA0.out 1)
    have a2 : wr.cell? ⟨w.heap.size, 2, none⟩ = some (.slice so L.length cap) := (hone.low.cell (p := ⟨w.heap.size, 2, none⟩) (show w.heap.size < W0.heap.size by omega)).trans (HA0.out 2)
    have hfl := firsts_len L k
    have hwr := hone.low.size
    clear hone
    by_cases hgo : k < L.length ∧ k < 40
    · have hlt' : (k : Int) < (L.length : Int) := by omega
      have g1 : decide ((k : Int) < (L.length : Int)) = true := by (rw [decide_eq_true_eq]; exact hlt')
      have g2 : decide ((k : Int) < 40) = true := by (rw [decide_eq_true_eq]; omega)
      obtain ⟨b, off, si, ci, rfl, ck, hrow⟩ := HB.out.spot hgo.1
      have hcap := HCP.out k hgo.1 b off si ci rfl ck
      have hrow0 := hrow.below HB0.out
      have ckr : wr.cell? ⟨b, off + k, none⟩ = some (.slice si (bidAt L k).length ci) := ((bstep HB0.out HLW.out).cell (p := ⟨b, off + k, none⟩) (cell_lt ck)).trans ck
      have hbz := cell_lt ckr
      have HRW := hide hrow0
      have HNX := hide (show firsts L (k + 1) = if 0 < (bidAt L k).length then firsts L k ++ [[at0 (bidAt L k) 0]] else firsts L k from rfl)
      obtain ⟨xs, hxs⟩ : ∃ xs, xs = bidAt L k := ⟨_, rfl⟩
      rw [← hxs] at hcap HRW ckr HNX
      have HXS := hide hxs
      clear hrow hrow0 ck hxs
      by_cases hp : 0 < xs.length
      · have hp' : (0 : Int) < (xs.length : Int) := by omega
        have hc1 : 1 ≤ ci := by omega
        have hc1' : (1 : Int) ≤ (ci : Int) := by omega
        obtain ⟨b2, off2, rfl, hcs⟩ := HRW.out.spot hp
        have q1 : (firsts L k).length + 1 ≤ maxLen := by unfold maxLen; omega
        have q2 : ((firsts L k).length + 1) * 24 ≤ 140737488355328 := by omega
        obtain ⟨vs, own, hv⟩ := HO.out.row
        have HOW := hide own
        have HV := hide hv
        have hn1 : ∀ j u, [Value.slice (some ⟨b2, off2, none⟩) 1 ci][j]? = some u → (wr.alloc (.cells #[.slice (some ⟨b2, off2, none⟩) 1 ci] 41)).cell? ((⟨wr.heap.size, 0, none⟩ : Addr).add j) = some u := by
          intro j u hu
          rcases j with _ | j
          · simp at hu
            subst hu
            simp [go_sem]
          · simp at hu
        have hn2 : ∀ u ∈ [Value.slice (some ⟨b2, off2, none⟩) 1 ci], u.oneCell' = true := by
          intro u hu
          simp at hu
          subst hu
          rfl
        have q3 : W0.heap.size ≤ (wr.alloc (.cells #[.slice (some ⟨b2, off2, none⟩) 1 ci] 41)).heap.size := by (simp; omega)
        have HN1 := hide hn1
        have HN2 := hide hn2
        clear own hv hn1 hn2
        go_wp2_with (at_builtin; (refine wpList_append_lies _ rfl _ _ 22 rfl W0.heap.size 41 i1 (.slice none 0 0) 1 24 Try.underlying22 hi1 hy0 hy1 hy2 rfl (by decide) (.slice ao (firsts L k).length c) (firsts L k).length vs rfl (own_bel HOW.out ((Below.refl wr.heap.size wr).alloc (Nat.le_refl _) (.cells #[.slice (some ⟨b2, off2, none⟩) 1 ci] 41))) ⟨wr.heap.size, 0, none⟩ 1 1 [.slice (some ⟨b2, off2, none⟩) 1 ci] rfl rfl HN1.out HN2.out Nat.zero_lt_one q1 q2 q3 _ rfl ?_; intro g3 c3 w3 hown3 hg3 hgg3 hgl3; have OZ := hide hown3; have GZ := hide hg3; clear hown3 hg3 hgg3))
        have hlow3 : Below W0.heap.size W0 w3 := (HLW.out.alloc hwr (.cells #[.slice (some ⟨b2, off2, none⟩) 1 ci] 41)).grown GZ.out (by simp; omega) (fun r e => (HOW.out.lt r e).1)
        have HLO3 := hide hlow3
        clear hlow3
        go_roundw
        case rel =>
          refine ⟨k + 1, some ⟨g3, 0, none⟩, c3, by omega, by omega, by go_num, ?_, ?_⟩
          · rw [HNX.out, if_pos hp, List.length_append, List.length_singleton]
          · rw [HNX.out, if_pos hp]
            refine ⟨HLO3.out, vs ++ [.slice (some ⟨b2, off2, none⟩) 1 ci], by rw [List.length_append, List.length_singleton]; exact OZ.out, fun i hi => ?_⟩
            have hvl : vs.length = (firsts L k).length := by have := HOW.out.1; omega
            rw [List.length_append, List.length_singleton] at hi
            rcases Nat.lt_or_ge i (firsts L k).length with h3 | h3
            · obtain ⟨sj, cj, h4, h5, h6⟩ := HV.out i h3
              have e : bidAt (firsts L k ++ [[at0 xs 0]]) i = bidAt (firsts L k) i := by unfold bidAt; rw [List.getElem?_append_left h3]
              rw [e]
              exact ⟨sj, cj, by rw [List.getElem?_append_left (by omega)]; exact h4, h5, h6⟩
            · obtain rfl : i = (firsts L k).length := by omega
              have e : bidAt (firsts L k ++ [[at0 xs 0]]) (firsts L k).length = [at0 xs 0] := by unfold bidAt; simp
              rw [e]
              refine ⟨_, _, by rw [List.getElem?_append_right (by omega), hvl, Nat.sub_self]; rfl, ⟨fun _ => ⟨b2, off2, rfl, fun q hq => ?_⟩⟩, by simpa using hc1⟩
              have : q = 0 := by simpa using hq
              subst this
              exact hcs 0 hp
        case measure => (first | (simp [intOf]; done) | (simp [intOf]; omega))
      · have hp' : (xs.length : Int) ≤ 0 := by omega
        go_wp2_with fail
        go_roundw
        case rel => exact ⟨k + 1, ao, c, by omega, by omega, by go_num, by (rw [HNX.out, if_neg hp]), by rw [HNX.out, if_neg hp]; exact HO.out⟩
        case measure => (first | (simp [intOf]; done) | (simp [intOf]; omega))
    · have HLN := firsts_one L k
      obtain ⟨A, B, V, hY, hr⟩ := truth_better count floor who other (firsts L k) (by omega) HLN
      have HY := hide hY
      have HR := hide hr
      have hnx : IRow (some ⟨wr.heap.size, 0, none⟩) [other] (wr.alloc (.cells #[.int .i64 other] 2)) := ⟨fun _ => ⟨_, _, rfl, fun q hq => by
        have : q = 0 := by simpa using hq
        subst this
        simp [go_sem, at0]⟩⟩
      have hbv : Below wr.heap.size wr (wr.alloc (.cells #[.int .i64 other] 2)) := (Below.refl _ _).alloc (Nat.le_refl _) _
      have Q := hide (HY.out ao c (some ⟨wr.heap.size, 0, none⟩) 1 _ ((HO.out.below hbv).turn.brows) hnx (HO.out.below hbv).caps)
      have HBV := hide (bstep (bstep HB0.out HLW.out) hbv)
      clear hY hr hnx hbv HLN
      by_cases hk2 : k < L.length
      · have hk4 : k = 40 := by omega
        have g1 : decide ((k : Int) < (L.length : Int)) = true := by (rw [decide_eq_true_eq]; omega)
        have g2 : decide ((k : Int) < 40) = false := by (rw [decide_eq_false_iff_not]; omega)
        have hlt' : (k : Int) < (L.length : Int) := by omega
        have h40' : (40 : Int) ≤ (k : Int) := by omega
        clear hk4 hgo hk2 hk40 hfl
        rcases HR.out with ⟨hV, rfl, rfl⟩ | ⟨rfl, hAB, hA0⟩
        · have d1 : decide (V = 0) = false := by simp [hV]
          have d2 : (V == 0) = false := by simp [hV]
          have d3 : (V != 0) = true := by simp [hV]
          go_wp2_with fail
          refine (Q.out).mono ?_
          rintro e w5 ⟨rfl, hb5⟩
          have HB5 := hide (bstep HBV.out hb5)
          clear hb5 Q HR HY
          go_wp2_with fail
          refine (known_c _).mono ?_
          rintro e w6 ⟨rfl, hb6⟩
          have HB6 := hide (bstep HB5.out hb6)
          clear hb6
          go_wp2
          refine bodyPost_ret (v := .bool true) (by simp [results, Try.f8, go_sem]) rfl ⟨rfl, HB6.out⟩
        · go_wp2_with fail
          refine (Q.out).mono ?_
          rintro e w5 ⟨rfl, hb5⟩
          have HB5 := hide (bstep HBV.out hb5)
          clear hb5 Q HR HY
          have d1 : decide (B ≤ A) = true := by simp [hAB]
          have d2 : decide (0 ≤ A) = true := by simp [hA0]
          go_wp2_with fail
          refine (known_c _).mono ?_
          rintro e w6 ⟨rfl, hb6⟩
          have HB6 := hide (bstep HB5.out hb6)
          clear hb6
          go_wp2
          refine bodyPost_ret (v := .bool true) (by simp [results, Try.f8, go_sem]) rfl ⟨rfl, HB6.out⟩
      · have g1 : decide ((k : Int) < (L.length : Int)) = false := by (rw [decide_eq_false_iff_not]; omega)
        have hge' : (L.length : Int) ≤ (k : Int) := by omega
        clear hgo hk2 hk hfl
        rcases HR.out with ⟨hV, rfl, rfl⟩ | ⟨rfl, hAB, hA0⟩
        · have d1 : decide (V = 0) = false := by simp [hV]
          have d2 : (V == 0) = false := by simp [hV]
          have d3 : (V != 0) = true := by simp [hV]
          go_wp2_with fail
          refine (Q.out).mono ?_
          rintro e w5 ⟨rfl, hb5⟩
          have HB5 := hide (bstep HBV.out hb5)
          clear hb5 Q HR HY
          go_wp2_with fail
          refine (known_c _).mono ?_
          rintro e w6 ⟨rfl, hb6⟩
          have HB6 := hide (bstep HB5.out hb6)
          clear hb6
          go_wp2
          refine bodyPost_ret (v := .bool true) (by simp [results, Try.f8, go_sem]) rfl ⟨rfl, HB6.out⟩
        · go_wp2_with fail
          refine (Q.out).mono ?_
          rintro e w5 ⟨rfl, hb5⟩
          have HB5 := hide (bstep HBV.out hb5)
          clear hb5 Q HR HY
          have d1 : decide (B ≤ A) = true := by simp [hAB]
          have d2 : decide (0 ≤ A) = true := by simp [hA0]
          go_wp2_with fail
          refine (known_c _).mono ?_
          rintro e w6 ⟨rfl, hb6⟩
          have HB6 := hide (bstep HB5.out hb6)
          clear hb6
          go_wp2
          refine bodyPost_ret (v := .bool true) (by simp [results, Try.f8, go_sem]) rfl ⟨rfl, HB6.out⟩
end Go.Proofs.Ytehpjipmlpaflaa.un
