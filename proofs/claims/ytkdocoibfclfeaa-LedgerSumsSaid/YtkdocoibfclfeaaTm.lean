import Derived.Test.YtkdocoibfclfeaaTl
import Derived.Test.YtkdocoibfclfeaaTh
import Derived.Sort.LoopGhostIn
namespace Go.Proofs.Ytkdocoibfclfeaa
open Go.ChangeShapes Go.WideShapes Go.ChangeAt Go.RowKit Go.Deep Go.Shelf Go.Maps Go.WideMaps Ytkdocoibfclfeaa.it
set_option linter.unusedSimpArgs false
set_option linter.unusedVariables false

attribute [local go_sem] Oper.semAt_some

theorem may0 {A : List Acc} {p : List Ent} (h : mayE A p = 0) : Formed p ∧ allThere A p ∧ ¬ isLow A p := by
  unfold mayE at h
  by_cases h1 : Formed p
  · rw [if_neg (fun q => q h1)] at h
    by_cases h2 : allThere A p
    · rw [if_neg (fun q => q h2)] at h
      by_cases h3 : isLow A p
      · rw [if_pos h3] at h; cases h
      · exact ⟨h1, h2, h3⟩
    · rw [if_pos h2] at h; cases h
  · rw [if_pos h1] at h; cases h
theorem may_is {A : List Acc} {p : List Ent} (h1 : Formed p) (h2 : allThere A p) : mayE A p = 0 ∨ mayE A p = 7 := by
  unfold mayE
  rw [if_neg (fun q => q h1), if_neg (fun q => q h2)]
  by_cases h3 : isLow A p
  · rw [if_pos h3]; exact .inr rfl
  · rw [if_neg h3]; exact .inl rfl
theorem names_neg (p : List Ent) : names (negE p) = names p := by simp [names, negE, Function.comp_def]
theorem total_neg (p : List Ent) : total (negE p) = - total p := by
  induction p with
  | nil => rfl
  | cons x r ih => show -x.2 + total (negE r) = -(x.2 + total r); rw [ih]; omega
theorem sumOf_neg (p : List Ent) (s : ByteArray) : sumOf (negE p) s = - sumOf p s := by
  induction p with
  | nil => rfl
  | cons x r ih =>
    show (if x.1 = s then -x.2 else 0) + sumOf (negE r) s = -((if x.1 = s then x.2 else 0) + sumOf r s)
    rw [ih]; split <;> omega
theorem Formed.neg {p : List Ent} (h : Formed p) : Formed (negE p) := by
  refine ⟨by rw [negE_len]; exact h.1, by rw [negE_len]; exact h.2.1, fun x hx => ?_, by rw [total_neg, h.2.2.2]; rfl⟩
  obtain ⟨y, hy, rfl⟩ := List.mem_map.1 hx
  obtain ⟨g1, g2, g3, g4⟩ := h.2.2.1 y hy
  exact ⟨g1, by show -y.2 ≠ 0; omega, by show -y.2 ≤ maxC; omega, by show -maxC ≤ -y.2; omega⟩
theorem posted_back (A : List Acc) (p : List Ent) : posted (posted A p) (negE p) = A := by
  unfold posted
  rw [List.map_map]
  conv => rhs; rw [← List.map_id A]
  refine List.map_congr_left (fun a _ => ?_)
  obtain ⟨n, l, h⟩ := a
  show (⟨n, l, h + sumOf p n + sumOf (negE p) n⟩ : Acc) = ⟨n, l, h⟩
  rw [sumOf_neg, Int.add_neg_cancel_right]
theorem allThere_posted {A : List Acc} {p q : List Ent} (h : allThere A p) (hn : names q = names p) (r : List Ent) : allThere (posted A r) q := by
  intro s hs
  rw [posted_nms]
  exact h s (hn ▸ hs)
theorem back_may {A : List Acc} {p : List Ent} (h : mayE A p = 0) : mayE (posted A p) (negE p) = 0 ∨ mayE (posted A p) (negE p) = 7 :=
  may_is (may0 h).1.neg (allThere_posted (may0 h).2.1 (names_neg p) p)
theorem Fine.posted {S : LS} (h : Fine S) {p : List Ent} (hm : mayE S.acc p = 0) (hl : S.posts.length < 1048576) : Fine ⟨posted S.acc p, S.posts ++ [p]⟩ := by
  obtain ⟨h1, h2, h3⟩ := may0 hm
  refine ⟨h.snd.posted h1 h2 h3, fun q hq => ?_, by simp; omega⟩
  rcases List.mem_append.1 hq with q1 | q1
  · exact h.frm q q1
  · simp at q1; subst q1; exact h1
theorem posted_len (A : List Acc) (p : List Ent) : (posted A p).length = A.length := by simp [posted]
def OpenAny (I : Nat → Prop) (F : Fp) (S : LS) (w : World) (e : Ending) (w' : World) : Prop := ∃ (a b : Int) (F' : Fp) (S' : LS), e = .returned (.tuple #[.int .i64 a, .int .i64 b]) ∧ LObj I F' S' w' ∧ Step I F w I F' w' ∧ Fine S' ∧ S'.posts = S.posts ∧ S'.acc.length ≤ S.acc.length + 1
theorem Open_any (I : Nat → Prop) (F : Fp) (S : LS) (s : ByteArray) (l : Int) (w : World) (h : LObj I F S w) (hS : Fine S) (hf : S.acc.length < 65536) : Calls Try.prog 8 #[.pointer (some ⟨F.b, 0, none⟩), .string s, .int .i64 l] w (OpenAny I F S w) := by
  by_cases hb : goodName s ∧ -maxC ≤ l ∧ l ≤ 0
  · obtain ⟨h1, h2, h3⟩ := hb
    cases hi : idx (nms S.acc) s with
    | some i =>
      refine (Open_there I F S s l i w h h1 h2 h3 hi).mono fun e w' q => ?_
      obtain ⟨rfl, rfl⟩ := q
      exact ⟨_, _, F, S, rfl, h, Step.of_below (Below.refl _ _), hS, rfl, by omega⟩
    | none =>
      refine (Open_ok I F S s l w h h1 h2 h3 hi hf).mono fun e w' q => ?_
      obtain ⟨rfl, F', h4, h5⟩ := q
      exact ⟨_, _, F', _, rfl, h4, h5, ⟨hS.snd.opened h1 h2 h3 hi hf, hS.frm, hS.few⟩, rfl, by simp⟩
  · refine (Open_bad I F S s l w h hb).mono fun e w' q => ?_
    obtain ⟨rfl, rfl⟩ := q
    exact ⟨_, _, F, S, rfl, h, Step.of_below (Below.refl _ _), hS, rfl, by omega⟩
/-- a row of strings that came in -/
structure NRow (w : World) (so : Option Addr) (L : List ByteArray) : Prop where
  cells : ∀ k, k < L.length → ∃ g off, so = some ⟨g, off, none⟩ ∧ w.cell? ⟨g, off + k, none⟩ = some (.string (L.getD k ⟨#[]⟩))
theorem NRow.below {w w' : World} {so : Option Addr} {L : List ByteArray} (h : NRow w so L) (hb : Below w.heap.size w w') : NRow w' so L := ⟨fun k hk => by
  obtain ⟨g, off, e, c⟩ := h.cells k hk
  exact ⟨g, off, e, cell_stay c (hb.block _ (World.block_lt_of_cell? w _ c))⟩⟩
/-- a row of rows of entries that came in -/
structure PRow (w : World) (so : Option Addr) (L : List (List Ent)) : Prop where
  cells : ∀ k, k < L.length → ∃ g off so' cap, so = some ⟨g, off, none⟩ ∧ w.cell? ⟨g, off + k, none⟩ = some (.slice so' (L.getD k []).length cap) ∧ Ents so' cap (L.getD k []) w
theorem PRow.below {w w' : World} {so : Option Addr} {L : List (List Ent)} (h : PRow w so L) (hb : Below w.heap.size w w') : PRow w' so L := ⟨fun k hk => by
  obtain ⟨g, off, so', cap, e, c, q⟩ := h.cells k hk
  exact ⟨g, off, so', cap, e, cell_stay c (hb.block _ (World.block_lt_of_cell? w _ c)), q.below hb⟩⟩
theorem KL.posts {w : World} {B : Nat} {I : Nat → Prop} {F : Fp} {S : LS} {w1 : World} (h : KL w B I F S w1) {so : Option Addr} {L : List (List Ent)} (q : PRow w so L) : PRow w1 so L := q.below h.low
theorem KL.names {w : World} {B : Nat} {I : Nat → Prop} {F : Fp} {S : LS} {w1 : World} (h : KL w B I F S w1) {so : Option Addr} {L : List ByteArray} (q : NRow w so L) : NRow w1 so L := q.below h.low

set_option maxRecDepth 100000 in
set_option maxHeartbeats 8000000 in
theorem sums_c (no po : Option Addr) (nc pc : Nat) (L : List ByteArray) (P : List (List Ent)) (x : Int) (w : World) (hN : NRow w no L) (hP : PRow w po P) : Calls Try.prog 3 #[.slice no L.length nc, .int .i64 x, .slice po P.length pc] w fun e w' => e = .returned (.bool true) ∧ Below w.heap.size w w' := by
  have HN := hide hN
  have HP := hide hP
  clear hN hP
  by_cases h1 : 50 < L.length
  · have d1 : decide ((50 : Int) < (L.length : Int)) = true := by (rw [decide_eq_true_iff]; omega)
    clear h1
    go_enter Try.func3, Try.ntmps3
    go_wp2_with fail
    refine (known_c w).mono ?_
    rintro e w1 ⟨rfl, hb1⟩
    go_wp2
    refine bodyPost_ret (v := .bool true) (by simp [results, Try.f3, go_sem]) rfl ⟨rfl, hb1⟩
  by_cases h2 : 60 < P.length
  · have d1 : decide ((50 : Int) < (L.length : Int)) = false := by (rw [decide_eq_false_iff_not]; omega)
    have d2 : decide ((60 : Int) < (P.length : Int)) = true := by (rw [decide_eq_true_iff]; omega)
    clear h1 h2
    go_enter Try.func3, Try.ntmps3
    go_wp2_with fail
    refine (known_c w).mono ?_
    rintro e w1 ⟨rfl, hb1⟩
    go_wp2
    refine bodyPost_ret (v := .bool true) (by simp [results, Try.f3, go_sem]) rfl ⟨rfl, hb1⟩
  have d1 : decide ((50 : Int) < (L.length : Int)) = false := by (rw [decide_eq_false_iff_not]; omega)
  have d2 : decide ((60 : Int) < (P.length : Int)) = false := by (rw [decide_eq_false_iff_not]; omega)
  have HL := hide (show L.length ≤ 50 by omega)
  have HPL := hide (show P.length ≤ 60 by omega)
  clear h1 h2
  go_enter Try.func3, Try.ntmps3
  go_wp2_with fail
  refine (New_c w).mono ?_
  rintro e w1 ⟨rfl, hw1⟩
  have HK1 := hide (hw1 ▸ KL.new w)
  clear hw1
  go_wp2_with fail
  go_loopw [8] (fun v8 wr => ∃ (i : Nat) (F : Fp) (S : LS), i ≤ L.length ∧ v8 = .int .i64 (i : Int) ∧ KL w (w.heap.size + 3) (fun _ => False) F S wr ∧ Fine S ∧ S.posts = [] ∧ S.acc.length ≤ i) (fun v8 _ => L.length - (intOf v8).toNat)
  case atStart => exact ⟨0, _, _, Nat.zero_le _, rfl, HK1.out, ⟨Sound.nil, by simp, by simp⟩, rfl, Nat.le_refl _⟩
  case round =>
    obtain ⟨i, F, S, hi, rfl, hk, hS, hp0, hal⟩ := hrel
    have HK := hide hk
    have HS := hide hS
    have HP0 := hide hp0
    have HAL := hide hal
    clear hk hS hp0 hal
    by_cases hlt : i < L.length
    · have hl2 : (i : Int) < (L.length : Int) := by omega
      have hi0 : (0 : Int) ≤ (i : Int) := by omega
      have hl3 : (i : Int) < 100 := by have := HL.out; omega
      obtain ⟨g, off, rfl, hc⟩ := (HK.out.names HN.out).cells i hlt
      have q := Open_any _ F S (L.getD i ⟨#[]⟩) x wr HK.out.obj HS.out (by have := HAL.out; have := HL.out; omega)
      rw [HK.out.b] at q
      have HQ := hide q
      obtain ⟨s, hs⟩ : ∃ s, s = L.getD i ⟨#[]⟩ := ⟨_, rfl⟩
      rw [← hs] at hc HQ
      clear q hs
      go_wp2_with fail
      refine HQ.out.mono ?_
      rintro e w2 ⟨a, b, F2, S2, rfl, ho2, hs2, hf2, hp2, hl2'⟩
      have HK2 := hide (HK.out.step ho2 hs2)
      have HF2 := hide hf2
      have HP2 := hide hp2
      have HL2 := hide hl2'
      clear ho2 hs2 hf2 hp2 hl2'
      go_wp2_with fail
      go_roundw
      case rel => exact ⟨i + 1, F2, S2, by omega, by go_num, HK2.out, HF2.out, HP2.out.trans HP0.out, by have := HL2.out; have := HAL.out; omega⟩
      case measure => (first | (simp [intOf]; done) | (simp [intOf]; omega))
    · have hl2 : ¬ (i : Int) < (L.length : Int) := by omega
      have HAL2 := hide (show S.acc.length ≤ 50 by have := HAL.out; have := HL.out; omega)
      clear HAL HK1 d1 d2
      go_wp2_with fail
      go_loopw [7, 9] (fun v7 v9 wr => ∃ (i B : Nat) (I : Nat → Prop) (F : Fp) (S : LS), i ≤ P.length ∧ v9 = .int .i64 (i : Int) ∧ v7 = .pointer (some ⟨B, 0, none⟩) ∧ KL w B I F S wr ∧ Fine S ∧ S.posts.length ≤ 2 * i ∧ S.acc.length ≤ 50) (fun _ v9 _ => P.length - (intOf v9).toNat)
      case atStart => exact ⟨0, _, _, F, S, Nat.zero_le _, rfl, rfl, HK.out, HS.out, by rw [HP0.out]; exact Nat.le_refl _, HAL2.out⟩
      case round =>
        clear HK HS HP0 HAL2 hl2 hlt hi
        obtain ⟨j, B, I, F, S, hj, rfl, rfl, hk, hS, hp0, hal⟩ := hrel
        have HK := hide hk
        have HS := hide hS
        have HP0 := hide hp0
        have HAL := hide hal
        clear hk hS hp0 hal
        by_cases hlt : j < P.length
        · have hl2 : (j : Int) < (P.length : Int) := by omega
          have hj0 : (0 : Int) ≤ (j : Int) := by omega
          have hl3 : (j : Int) < 100 := by have := HPL.out; omega
          obtain rfl : F.b = B := HK.out.b
          obtain ⟨g, off, so, cap, rfl, hc, hE⟩ := HP.out.cells j hlt
          obtain ⟨p, hp⟩ : ∃ p, p = P.getD j [] := ⟨_, rfl⟩
          rw [← hp] at hc hE
          have HC := hide hc
          have HE := hide hE
          have hcz := World.block_lt_of_cell? w _ hc
          have HCZ := hide hcz
          clear hp hc hE hcz
          go_wp2_with fail
          refine (hads_c I F S wr HK.out.obj (by have := HAL.out; omega)).mono ?_
          rintro e w2 ⟨ha, hk, rfl, hown2, hb2⟩
          have HH2 := hide hown2
          have HK2 := hide (HK.out.below hb2)
          have c2 := cell_stay HC.out (HK2.out.low.block _ HCZ.out)
          clear hown2 hb2
          go_wp2_with fail
          refine (May_c I F S so cap p w2 HK2.out.obj (HE.out.below HK2.out.low) HS.out.snd).mono ?_
          rintro e w3 ⟨rfl, hb3⟩
          have HK3 := hide (HK2.out.below hb3)
          have HH3 := hide (own_stays HH2.out (fun q hq => hb3.block q (HH2.out.lt q hq).2))
          have c3 := cell_stay HC.out (HK3.out.low.block _ HCZ.out)
          clear hb3 HK2 HH2 c2
          obtain ⟨m, hm⟩ : ∃ m, m = mayE S.acc p := ⟨_, rfl⟩
          have HM := hide hm
          rw [← hm]
          clear hm
          go_wp2_with fail
          refine (Post_c I F S so cap p w3 HK3.out.obj (HE.out.below HK3.out.low) HS.out.snd HS.out.few).mono ?_
          have e1 : (m == m) = true := by simp
          have e2 : (m != m) = false := by simp
          have e3 : decide (m = m) = true := by simp
          rintro e w4 (⟨hm4, rfl, hb4⟩ | ⟨hm4, rfl, I4, F4, ho4, hs4⟩)
          · rw [← HM.out] at hm4 ⊢
            have e4 : (m == 0) = false := by (rw [beq_eq_false_iff_ne]; exact hm4)
            have e5 : (m != 0) = true := by (rw [bne_iff_ne]; exact hm4)
            have e6 : decide (m = 0) = false := by (rw [decide_eq_false_iff_not]; exact hm4)
            have HK4 := hide (HK3.out.below hb4)
            have HH4 := hide (own_stays HH3.out (fun q hq => hb4.block q (HH3.out.lt q hq).2))
            clear hb4 HK3 HH3 c3 HM hm4
            go_wp2_with fail
            refine (nought_c I F S w4 HK4.out.obj HS.out.snd).mono ?_
            rintro e w5 ⟨rfl, hb5⟩
            have HK5 := hide (HK4.out.below hb5)
            have HH5 := hide (own_stays HH4.out (fun q hq => hb5.block q (HH4.out.lt q hq).2))
            clear hb5 HK4 HH4
            go_wp2_with fail
            refine (hads_c I F S w5 HK5.out.obj (by have := HAL.out; omega)).mono ?_
            rintro e w6 ⟨ha6, hk6, rfl, hown6, hb6⟩
            have HK6 := hide (HK5.out.below hb6)
            have HH6 := hide (own_stays HH5.out (fun q hq => hb6.block q (HH5.out.lt q hq).2))
            have HG6 := hide hown6
            clear hb6 HK5 HH5 hown6
            go_wp2_with fail
            refine (sameHads_c S.acc _ _ _ _ _ _ w6 HH6.out HG6.out (by have := HAL.out; omega)).mono ?_
            rintro e w7 ⟨rfl, hb7⟩
            have HK7 := hide (HK6.out.below hb7)
            clear hb7 HK6 HH6 HG6
            go_wp2_with fail
            go_roundw
            case rel => exact ⟨j + 1, _, I, F, S, by omega, by go_num, rfl, HK7.out, HS.out, by have := HP0.out; omega, HAL.out⟩
            case measure => (first | (simp [intOf]; done) | (simp [intOf]; omega))
          · rw [← HM.out] at hm4
            subst hm4
            have hS4 : Fine ⟨posted S.acc p, S.posts ++ [p]⟩ := HS.out.posted HM.out.symm (by have := HP0.out; have := HPL.out; omega)
            have HK4 := hide (HK3.out.step ho4 hs4)
            have HH4 := hide (own_stays HH3.out (fun q hq => hs4.keep q (HH3.out.lt q hq).2 (fun e => by have := HK.out.obj.lt e; have := (HH3.out.lt q hq).1; omega)))
            have HS4 := hide hS4
            have HN4 := hide (show ∀ k, (Value.slice ha S.acc.length hk).ownBlock = some k → ¬ F4.own k from fun k hk' h2 => by
              have := HH3.out.lt k hk'
              rcases hs4.own k h2 with h3 | h3
              · have := HK.out.obj.lt h3; omega
              · omega)
            have HLA := hide (show (posted S.acc p).length ≤ 50 by rw [posted_len]; exact HAL.out)
            obtain ⟨S4, hs4e⟩ : ∃ S4 : LS, S4 = ⟨posted S.acc p, S.posts ++ [p]⟩ := ⟨_, rfl⟩
            have HE4 := hide hs4e
            rw [← hs4e] at HK4 HS4
            have HLA := hide (show S4.acc.length ≤ 50 by rw [hs4e]; exact HLA.out)
            have HLP := hide (show S4.posts.length = S.posts.length + 1 by rw [hs4e]; simp)
            have HLG := hide (show S4.posts[S.posts.length]? = some p by rw [hs4e]; simp)
            clear ho4 hs4 HK3 HH3 c3 hS4 hs4e e1 e2 e3
            have q := nought_c I4 F4 S4 w4 HK4.out.obj HS4.out.snd
            rw [HK4.out.b] at q
            have HQ := hide q
            clear q
            go_wp2_with fail
            refine HQ.out.mono ?_
            rintro e w5 ⟨rfl, hb5⟩
            have HK5 := hide (HK4.out.below hb5)
            have HH5 := hide (own_stays HH4.out (fun q hq => hb5.block q (HH4.out.lt q hq).2))
            clear hb5 HK4 HH4 HQ
            have q := Copy_c I4 F4 S4 w5 HK5.out.obj HS4.out
            rw [HK5.out.b] at q
            have HQ := hide q
            clear q
            go_wp2_with fail
            refine HQ.out.mono ?_
            rintro e w6 ⟨F2, rfl, ho6, hown6, hb6⟩
            have HK6 := hide (HK5.out.below hb6)
            have HH6 := hide (own_stays HH5.out (fun q hq => hb6.block q (HH5.out.lt q hq).2))
            have HC6 := hide (show KL w F2.b I4 F2 S4 w6 from ⟨ho6, rfl, fun k hk => Nat.le_trans HK5.out.low.size (hown6 k hk), HK6.out.low⟩)
            have HD6 := hide (show ∀ k, F2.own k → ¬ F4.own k from fun k h1 h2 => by have := HK5.out.obj.lt h2; have := hown6 k h1; omega)
            clear ho6 hown6 hb6 HK5 HH5 HQ
            have q := Back_yes I4 F4 S4 S.posts.length p w6 HK6.out.obj HLG.out HS4.out
            rw [HK6.out.b] at q
            have HQ := hide q
            clear q
            go_wp2_with fail
            refine HQ.out.mono ?_
            have HB0 := hide (show mayE S4.acc (negE p) = 0 ∨ mayE S4.acc (negE p) = 7 by rw [HE4.out]; exact back_may HM.out.symm)
            rintro e w7 (⟨hm7, rfl, hb7⟩ | ⟨hm7, rfl, I8, F8, ho7, hs7⟩)
            · rw [HB0.out.resolve_left hm7]
              have HK7 := hide (HK6.out.below hb7)
              clear hb7 HK6 HH6 HC6 HD6 HQ HB0 hm7
              have q := nought_c I4 F4 S4 w7 HK7.out.obj HS4.out.snd
              rw [HK7.out.b] at q
              have HQ := hide q
              clear q
              go_wp2_with fail
              refine HQ.out.mono ?_
              rintro e w8 ⟨rfl, hb8⟩
              have HK8 := hide (HK7.out.below hb8)
              clear hb8 HK7 HQ
              go_wp2_with fail
              go_roundw
              case rel => exact ⟨j + 1, _, I4, F4, S4, by omega, by go_num, rfl, HK8.out, HS4.out, by have := HP0.out; have := HLP.out; omega, HLA.out⟩
              case measure => (first | (simp [intOf]; done) | (simp [intOf]; omega))
            · have HK7 := hide (HK6.out.step ho7 hs7)
              have HC7 := hide (show KL w F2.b I8 F2 S4 w7 from ⟨HC6.out.obj.other hs7 HD6.out HK6.out.obj.imm, rfl, HC6.out.own, HK7.out.low⟩)
              have HH7 := hide (own_stays HH6.out (fun q hq => hs7.keep q (HH6.out.lt q hq).2 (HN4.out q hq)))
              have HS7 := hide (HS4.out.posted hm7 (by have := HP0.out; have := HLP.out; have := HPL.out; omega))
              have HA7 := hide (show posted S4.acc (negE p) = S.acc by rw [HE4.out]; exact posted_back _ _)
              obtain ⟨S8, hs8e⟩ : ∃ S8 : LS, S8 = ⟨posted S4.acc (negE p), S4.posts ++ [negE p]⟩ := ⟨_, rfl⟩
              rw [← hs8e] at HK7 HS7
              have HA8 := hide (show S8.acc = S.acc by rw [hs8e]; exact HA7.out)
              have HL8 := hide (show S8.posts.length = S4.posts.length + 1 by rw [hs8e]; simp)
              clear ho7 hs7 HK6 HH6 HC6 HD6 HN4 hs8e HA7 HQ HB0 hm7
              have q := nought_c I8 F8 S8 w7 HK7.out.obj HS7.out.snd
              rw [HK7.out.b] at q
              have HQ := hide q
              clear q
              go_wp2_with fail
              refine HQ.out.mono ?_
              rintro e w8 ⟨rfl, hb8⟩
              have HK8 := hide (HK7.out.below hb8)
              have HC8 := hide (HC7.out.below hb8)
              have HH8 := hide (own_stays HH7.out (fun q hq => hb8.block q (HH7.out.lt q hq).2))
              clear hb8 HK7 HC7 HH7 HQ
              have q := hads_c I8 F8 S8 w8 HK8.out.obj (by rw [HA8.out]; have := HAL.out; omega)
              rw [HK8.out.b, HA8.out] at q
              have HQ := hide q
              clear q
              go_wp2_with fail
              refine HQ.out.mono ?_
              rintro e w9 ⟨ha9, hk9, rfl, hown9, hb9⟩
              have HK9 := hide (HK8.out.below hb9)
              have HC9 := hide (HC8.out.below hb9)
              have HH9 := hide (own_stays HH8.out (fun q hq => hb9.block q (HH8.out.lt q hq).2))
              have HG9 := hide hown9
              clear hb9 HK8 HC8 HH8 HQ hown9
              go_wp2_with fail
              refine (sameHads_c S.acc _ _ _ _ _ _ w9 HH9.out HG9.out (by have := HAL.out; omega)).mono ?_
              rintro e w10 ⟨rfl, hb10⟩
              have HK10 := hide (HK9.out.below hb10)
              have HC10 := hide (HC9.out.below hb10)
              clear hb10 HK9 HC9 HH9 HG9
              have r0 : (j : Int).tmod 2 = ((j % 2 : Nat) : Int) := by rw [Int.tmod_eq_emod_of_nonneg (by omega)]; omega
              rcases (by omega : j % 2 = 0 ∨ j % 2 = 1) with hj2 | hj2
              · rw [hj2] at r0
                go_wp2_with fail
                go_roundw
                case rel => exact ⟨j + 1, F2.b, I8, F2, S4, by omega, by go_num, rfl, HC10.out, HS4.out, by have := HP0.out; have := HLP.out; omega, HLA.out⟩
                case measure => (first | (simp [intOf]; done) | (simp [intOf]; omega))
              · rw [hj2] at r0
                go_wp2_with fail
                go_roundw
                case rel => exact ⟨j + 1, F8.b, I8, F8, S8, by omega, by go_num, by rw [HK10.out.b], by rw [HK10.out.b]; exact HK10.out, HS7.out, by have := HP0.out; have := HLP.out; have := HL8.out; omega, by rw [HA8.out]; exact HAL.out⟩
                case measure => (first | (simp [intOf]; done) | (simp [intOf]; omega))
        · have hl2 : ¬ (j : Int) < (P.length : Int) := by omega
          go_wp2_with fail
          refine (known_c _).mono ?_
          rintro e w2 ⟨rfl, hb2⟩
          go_wp2
          refine bodyPost_ret (v := .bool true) (by simp [results, Try.f3, go_sem]) rfl ⟨rfl, bstep HK.out.low hb2⟩
end Go.Proofs.Ytkdocoibfclfeaa
