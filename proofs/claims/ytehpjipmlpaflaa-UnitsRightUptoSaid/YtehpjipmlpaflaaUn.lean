import Derived.Test.YtehpjipmlpaflaaUm
import Derived.Test.YtehpjipmlpaflaaUk
namespace Go.Proofs.Ytehpjipmlpaflaa.un
open Go.ChangeShapes Go.WideShapes Go.ChangeAt Go.RowKit Go.Deep Go.Shelf
set_option linter.unusedSimpArgs false
set_option linter.unusedVariables false

attribute [local go_sem] Oper.semAt_some

/-- bids in a row of one's own, over rows of w0 -/
structure Turn (L : List (List Int)) (w0 : World) (ao : Option Addr) (c : Nat) (W : World) : Prop where
  low : Below w0.heap.size w0 W
  row : ∃ vs, W.ownsRow w0.heap.size 41 1 (.slice ao L.length c) L.length vs ∧ ∀ i, i < L.length → ∃ si ci, vs[i]? = some (.slice si (bidAt L i).length ci) ∧ IRow si (bidAt L i) w0
theorem Turn.brows {L : List (List Int)} {w0 : World} {ao : Option Addr} {c : Nat} {W : World} (h : Turn L w0 ao c W) : BRows ao L W := by
  obtain ⟨vs, own, hv⟩ := h.row
  refine ⟨fun h0 => ?_⟩
  obtain ⟨g, cp, e, hg0, hgl⟩ := own.form h0
  obtain ⟨rfl, rfl⟩ : ao = some ⟨g, 0, none⟩ ∧ c = cp := by (injection e with e1 e2 e3; exact ⟨e1, e3⟩)
  refine ⟨g, 0, rfl, fun i hi => ?_⟩
  obtain ⟨si, ci, h1, h2⟩ := hv i hi
  exact ⟨si, ci, by rw [Nat.zero_add, own.cellAt i (by omega), h1], h2.below h.low⟩
theorem Turn.at {L : List (List Int)} {w0 : World} {ao : Option Addr} {c : Nat} {W : World} (h : Turn L w0 ao c W) {b : Nat} (hb : b < L.length) : ∃ g, ao = some ⟨g, 0, none⟩ ∧ w0.heap.size ≤ g ∧ g < W.heap.size ∧ (∃ v, W.cell? ⟨g, b, none⟩ = some v) ∧ ∀ o, W.frozen? ⟨g, o, none⟩ = false := by
  obtain ⟨vs, own, hv⟩ := h.row
  obtain ⟨g, cp, e, hg0, hgl⟩ := own.form (by omega)
  obtain ⟨rfl, rfl⟩ : ao = some ⟨g, 0, none⟩ ∧ c = cp := by (injection e with e1 e2 e3; exact ⟨e1, e3⟩)
  obtain ⟨si, ci, h1, h2⟩ := hv b hb
  exact ⟨g, rfl, hg0, hgl, ⟨_, by rw [own.cellAt b (by omega), h1]⟩, own.frozenAt⟩
theorem bidAt_set (L : List (List Int)) (b : Nat) (xs : List Int) (hb : b < L.length) (i : Nat) : bidAt (L.set b xs) i = if i = b then xs else bidAt L i := by
  unfold bidAt
  rw [List.getElem?_set]
  by_cases h : b = i
  · subst h; simp [hb]
  · rw [if_neg h, if_neg (Ne.symm h)]
theorem Turn.put {L : List (List Int)} {w0 : World} {g c : Nat} {W : World} (h : Turn L w0 (some ⟨g, 0, none⟩) c W) {b cb : Nat} {sb : Option Addr} {xs : List Int} (hx : IRow sb xs w0) (hb : b < L.length) : Turn (L.set b xs) w0 (some ⟨g, 0, none⟩) c (W.setCell ⟨g, b, none⟩ (.slice sb xs.length cb)) := by
  obtain ⟨vs, own, hv⟩ := h.row
  refine ⟨h.low.setCell (p := ⟨g, b, none⟩) (own.lt g rfl).1 _, vs.set b (.slice sb xs.length cb), by rw [List.length_set]; exact (own.stored b _).1, fun i hi => ?_⟩
  rw [List.length_set] at hi
  rw [bidAt_set L b xs hb]
  by_cases e : i = b
  · subst e
    refine ⟨sb, cb, ?_, by rw [if_pos rfl]; exact hx⟩
    rw [if_pos rfl, List.getElem?_set_self (by have := own.1; omega)]
  · obtain ⟨si, ci, h1, h2⟩ := hv i hi
    rw [if_neg e]
    exact ⟨si, ci, by rw [List.getElem?_set_ne (Ne.symm e)]; exact h1, h2⟩
theorem made0_41 (w : World) : w.ownsRow w.heap.size 41 1 (.slice none 0 0) 0 [] := World.ownsRow_nil _ _ _ _
theorem run_copyB (so : Option Addr) (L : List (List Int)) (cap : Nat) (w : World) (hr : BRows so L w) (hl : L.length ≤ 4096) :
    ∃ ao c w', (Builtin.append_ #[22, 22] 22 #[.slice none 0 0, .slice so L.length cap]).run Try.prog w = .ok (.slice ao L.length c) w' ∧ Turn L w ao c w' := by
  obtain ⟨i1, hi1, hy0, hy1, hy2⟩ := info_parts info41
  rcases Nat.eq_zero_or_pos L.length with hz | hp
  · obtain rfl := List.length_eq_zero_iff.1 hz
    cases so with
    | none =>
      have hn : (Builtin.append_ #[22, 22] 22 #[.slice none 0 0, .slice none 0 cap]).run Try.prog w = .ok (.slice none 0 0) w := by
        simp [Builtin.append_, run_underlying Try.underlying22, sizeOf, typeInfo, hi1, Builtin.lenOf, Builtin.firstCells]
      exact ⟨none, 0, w, hn, Below.refl _ _, [], World.ownsRow_nil _ _ _ _, fun i h => by simp at h⟩
    | some ad =>
      obtain ⟨v', w', h1, h2, h3, -, -⟩ := run_append_own_at (P := Try.prog) w w.heap.size 22 22 41 i1 (.slice none 0 0) 1 24 Try.underlying22 hi1 hy0 hy1 hy2 rfl (by decide) (.slice none 0 0) 0 [] (made0_41 w) ad 0 cap [] (by simp) (fun j u hu => by simp at hu) (fun u hu => by simp at hu) (by decide) (by decide) (Nat.le_refl _)
      obtain ⟨ao, c, rfl⟩ := own_any h2
      exact ⟨ao, c, w', h1, below_grown h3, [], h2, fun i h => by simp at h⟩
  · obtain ⟨b, off, rfl, hc⟩ := hr.ex hp
    have each : ∀ i, ∃ v : Value, i < L.length → w.cell? ⟨b, off + i, none⟩ = some v ∧ v.oneCell' = true ∧ ∃ si ci, v = .slice si (bidAt L i).length ci ∧ IRow si (bidAt L i) w := fun i => by
      by_cases hi : i < L.length
      · obtain ⟨si, ci, h1, h2⟩ := hc i hi
        exact ⟨_, fun _ => ⟨h1, rfl, si, ci, rfl, h2⟩⟩
      · exact ⟨.slice none 0 0, fun h => absurd h hi⟩
    obtain ⟨f, hf⟩ := Classical.axiomOfChoice each
    obtain ⟨v', w', h1, h2, h3, -, -⟩ := run_append_own_at (P := Try.prog) w w.heap.size 22 22 41 i1 (.slice none 0 0) 1 24 Try.underlying22 hi1 hy0 hy1 hy2 rfl (by decide) (.slice none 0 0) 0 [] (made0_41 w) ⟨b, off, none⟩ L.length cap ((List.range L.length).map f) (by simp)
      (fun j u hu => by
        have hj : j < L.length := by
          have := (List.getElem?_eq_some_iff.1 hu).1
          simpa using this
        have e : u = f j := by
          simp [hj] at hu
          exact hu.symm
        rw [addr_add, e]
        exact (hf j hj).1)
      (fun u hu => by
        obtain ⟨i, hi, rfl⟩ := List.mem_map.1 hu
        exact (hf i (by simpa using hi)).2.1)
      (by unfold maxLen; omega) (by omega) (Nat.le_refl _)
    rw [Nat.zero_add, List.nil_append] at h2
    obtain ⟨ao, c, rfl⟩ := own_any h2
    refine ⟨ao, c, w', h1, below_grown h3, _, h2, fun i hi => ?_⟩
    obtain ⟨-, -, si, ci, e, hr'⟩ := hf i hi
    exact ⟨si, ci, by simp [hi, e], hr'⟩
theorem wpList_copyB (w : World) {ops : Array Oper} {rest : List Oper} {o : Oper} {a : Act} {Q : Exit → Act → World → Prop} (hgd : o.guard = none) (s x : Operand)
    (ho : o.op = .call { callee := .builtin .append, args := #[s, x], argTypes := #[22, 22] }) (hty : o.type = 22) (so : Option Addr) (L : List (List Int)) (cap : Nat) (hs : a.eval s = .slice none 0 0) (hx : a.eval x = .slice so L.length cap) (hr : BRows so L w) (hl : L.length ≤ 4096)
    (h : ∀ ao c w', Turn L w ao c w' → wpList Try.prog ops Q rest (a.put o.dst (.slice ao L.length c)) w') : wpList Try.prog ops Q (o :: rest) a w :=
  wpList_plain hgd fun _ hK => by
    obtain ⟨ao, c, w', h1, h2⟩ := run_copyB so L cap w hr hl
    unfold Oper.wp execOp
    simp only [ho, hty, resolve, invoke, builtin, Sem.run_bind, Sem.run_pure, Result.andThen_ok, List.map_toArray, List.map_cons, List.map_nil, hs, hx, h1]
    exact hK _ _ (h ao c w' h2)
/-- what one gains by both, or the refusal -/
def BetterIs (there : Bool) (v1 v2 ga gb A B V : Int) : Prop :=
  ((v1 = 2 ∨ v2 = 2) ∧ A = 0 ∧ B = 0 ∧ V = 2) ∨ ((v1 ≠ 2 ∧ v2 ≠ 2) ∧ there = false ∧ A = 0 ∧ B = 0 ∧ V = 4) ∨ ((v1 ≠ 2 ∧ v2 ≠ 2) ∧ there = true ∧ (v1 ≠ 0 ∨ v2 ≠ 0) ∧ A = 0 ∧ B = 0 ∧ V = 7) ∨ (there = true ∧ v1 = 0 ∧ v2 = 0 ∧ A = ga ∧ B = gb ∧ V = 0)
theorem SaleIs.len0 {count floor : Int} {L : List (List Int)} {p nx : Int} {won : List Int} (h : SaleIs count floor L 0 p nx won) : won.length = L.length := by
  rcases h with ⟨h, _⟩ | ⟨_, _, _, rfl⟩
  · exact absurd rfl h
  · exact wonI_len _ _

set_option maxRecDepth 100000 in
set_option maxHeartbeats 8000000 in
theorem Better_there (count floor : Int) (so : Option Addr) (cap : Nat) (L : List (List Int)) (sb : Option Addr) (cb : Nat) (xs : List Int) (w : World) (hb : BRows so L w) (hx : IRow sb xs w) (hL : L.length ≤ 4096) (b : Nat) (hbl : b < L.length) (hcp : ∀ bS offS si ci, so = some ⟨bS, offS, none⟩ → w.cell? ⟨bS, offS + b, none⟩ = some (.slice si (bidAt L b).length ci) → (bidAt L b).length ≤ ci) {v1 v2 p1 nx1 p2 nx2 : Int} {won1 won2 : List Int} (h1 : WrongIs count floor L v1) (h2 : WrongIs count floor (L.set b xs) v2) (s1 : SaleIs count floor L v1 p1 nx1 won1) (s2 : SaleIs count floor (L.set b xs) v2 p2 nx2 won2) {A B V : Int}
    (hA : BetterIs true v1 v2 (gainI p1 (at0 won1 b).toNat (bidAt L b)) (gainI p2 (at0 won2 b).toNat (bidAt L b)) A B V) : Calls Try.prog 25 #[.int .i64 count, .int .i64 floor, .slice so L.length cap, .int .i64 (b : Int), .slice sb xs.length cb] w fun e w' => e = .returned (.tuple #[.int .i64 A, .int .i64 B, .int .i64 V]) ∧ Below w.heap.size w w' := by
  have HB := hide hb
  have HX := hide hx
  have H1 := hide h1
  have H2 := hide h2
  have S1 := hide s1
  have S2 := hide s2
  have HA := hide hA
  have HCP := hide hcp
  have hb0 : (0 : Int) ≤ (b : Int) := by omega
  have hbl' : (b : Int) < (L.length : Int) := by omega
  have hbd : decide ((b : Int) < (L.length : Int)) = true := by (rw [decide_eq_true_eq]; exact hbl')
  clear hb hx h1 h2 s1 s2 hA hcp
  go_enter Try.func25, Try.ntmps25
  go_wp2_with (at_builtin; refine wpList_copyB _ rfl _ _ rfl rfl so L cap rfl rfl HB.out hL ?_; intro ao cT w1 ht; have HT := hide ht; obtain ⟨g, rfl, hg0, hgl, ⟨vk, ck⟩, fk⟩ := ht.at hbl; clear ht)
  obtain ⟨W2, hW2⟩ : ∃ W2, W2 = w1.setCell ⟨g, b, none⟩ (.slice sb xs.length cb) := ⟨_, rfl⟩
  have HR2 := hide (show BRows (some ⟨g, 0, none⟩) (L.set b xs) W2 from by rw [hW2]; exact (HT.out.put HX.out hbl).brows)
  have HLOW := hide (show Below w.heap.size w W2 from by rw [hW2]; exact HT.out.low.setCell (p := ⟨g, b, none⟩) hg0 _)
  rw [← hW2]
  clear hW2 ck fk HT
  refine (Sell_is H1.out S1.out _ (HB.out.below HLOW.out)).mono ?_
  rintro e w3 ⟨⟨a3, c3, rfl, own3⟩, hb3⟩
  have HO3 := hide own3
  have hz3 := hb3.size
  have HL3 := hide (bstep HLOW.out hb3)
  have HR3 := hide (HR2.out.below hb3)
  obtain ⟨W3, hW3⟩ : ∃ W3, W3 = w3.alloc (.cells #[.int .i64 p1, .slice a3 won1.length c3, .int .i64 nx1] 30) := ⟨_, rfl⟩
  have hbv : Below w3.heap.size w3 W3 := by rw [hW3]; exact (Below.refl _ _).alloc (Nat.le_refl _) _
  have HA3 := hide (show ∀ o, W3.cell? ⟨w3.heap.size, o, none⟩ = (#[Value.int .i64 p1, .slice a3 won1.length c3, .int .i64 nx1] : Array Value)[o]? from fun o => by rw [hW3]; simp [go_sem])
  have hzW3 : W3.heap.size = w3.heap.size + 1 := by rw [hW3]; simp
  have HW3 := hide hW3
  have HBV := hide hbv
  clear hb3 own3 hW3 hbv
  go_wp2_with fail
  rw [← HW3.out]
  have q4 := Sell_is (cap := cT) H2.out S2.out _ (HR3.out.below HBV.out)
  rw [List.length_set] at q4
  refine q4.mono ?_
  rintro e w4 ⟨⟨a4, c4, rfl, own4⟩, hb4⟩
  have HO4 := hide own4
  have hz4 := hb4.size
  have HL4 := hide (bstep (bstep HL3.out HBV.out) hb4)
  have HO34 := hide (own_bel (own_bel HO3.out HBV.out) hb4)
  have HA4 := hide (fun o => (hb4.cell (p := ⟨w3.heap.size, o, none⟩) (show w3.heap.size < W3.heap.size by omega)).trans (HA3.out o))
  clear hb4 own4 q4
  rcases H1.out.vals with rfl | rfl | rfl
  all_goals rcases H2.out.vals with rfl | rfl | rfl
  rotate_left
  · obtain ⟨rfl, rfl, rfl⟩ : A = 0 ∧ B = 0 ∧ V = 2 := by
      have := HA.out
      unfold BetterIs at this
      simp at this
      omega
    go_wp2
    refine bodyPost_ret (v := .tuple #[.int .i64 0, .int .i64 0, .int .i64 2]) (by simp [results, Try.f25, go_sem]) rfl ⟨rfl, HL4.out.alloc HL4.out.size _⟩
  · obtain ⟨rfl, rfl, rfl⟩ : A = 0 ∧ B = 0 ∧ V = 7 := by
      have := HA.out
      unfold BetterIs at this
      simp at this
      omega
    go_wp2
    refine bodyPost_ret (v := .tuple #[.int .i64 0, .int .i64 0, .int .i64 7]) (by simp [results, Try.f25, go_sem]) rfl ⟨rfl, HL4.out.alloc HL4.out.size _⟩
  · obtain ⟨rfl, rfl, rfl⟩ : A = 0 ∧ B = 0 ∧ V = 2 := by
      have := HA.out
      unfold BetterIs at this
      simp at this
      omega
    go_wp2
    refine bodyPost_ret (v := .tuple #[.int .i64 0, .int .i64 0, .int .i64 2]) (by simp [results, Try.f25, go_sem]) rfl ⟨rfl, HL4.out.alloc HL4.out.size _⟩
  · obtain ⟨rfl, rfl, rfl⟩ : A = 0 ∧ B = 0 ∧ V = 2 := by
      have := HA.out
      unfold BetterIs at this
      simp at this
      omega
    go_wp2
    refine bodyPost_ret (v := .tuple #[.int .i64 0, .int .i64 0, .int .i64 2]) (by simp [results, Try.f25, go_sem]) rfl ⟨rfl, HL4.out.alloc HL4.out.size _⟩
  · obtain ⟨rfl, rfl, rfl⟩ : A = 0 ∧ B = 0 ∧ V = 2 := by
      have := HA.out
      unfold BetterIs at this
      simp at this
      omega
    go_wp2
    refine bodyPost_ret (v := .tuple #[.int .i64 0, .int .i64 0, .int .i64 2]) (by simp [results, Try.f25, go_sem]) rfl ⟨rfl, HL4.out.alloc HL4.out.size _⟩
  · obtain ⟨rfl, rfl, rfl⟩ : A = 0 ∧ B = 0 ∧ V = 7 := by
      have := HA.out
      unfold BetterIs at this
      simp at this
      omega
    go_wp2
    refine bodyPost_ret (v := .tuple #[.int .i64 0, .int .i64 0, .int .i64 7]) (by simp [results, Try.f25, go_sem]) rfl ⟨rfl, HL4.out.alloc HL4.out.size _⟩
  · obtain ⟨rfl, rfl, rfl⟩ : A = 0 ∧ B = 0 ∧ V = 2 := by
      have := HA.out
      unfold BetterIs at this
      simp at this
      omega
    go_wp2
    refine bodyPost_ret (v := .tuple #[.int .i64 0, .int .i64 0, .int .i64 2]) (by simp [results, Try.f25, go_sem]) rfl ⟨rfl, HL4.out.alloc HL4.out.size _⟩
  · obtain ⟨rfl, rfl, rfl⟩ : A = 0 ∧ B = 0 ∧ V = 7 := by
      have := HA.out
      unfold BetterIs at this
      simp at this
      omega
    go_wp2
    refine bodyPost_ret (v := .tuple #[.int .i64 0, .int .i64 0, .int .i64 7]) (by simp [results, Try.f25, go_sem]) rfl ⟨rfl, HL4.out.alloc HL4.out.size _⟩
  · obtain ⟨rfl, rfl, rfl⟩ : A = gainI p1 (at0 won1 b).toNat (bidAt L b) ∧ B = gainI p2 (at0 won2 b).toNat (bidAt L b) ∧ V = 0 := by
      have := HA.out
      unfold BetterIs at this
      simp at this
      exact this
    clear HA
    obtain ⟨hp1, hwn1, hwl1, -⟩ := sale_bounds H1.out S1.out
    obtain ⟨hp2, hwn2, hwl2, -⟩ := sale_bounds H2.out S2.out
    have HP1 := hide hp1
    have HP2 := hide hp2
    have HWN1 := hide hwn1
    have HWN2 := hide hwn2
    have HWL1 := hide (show won1.length = L.length from S1.out.len0)
    have HWL2 := hide (show won2.length = L.length from by rw [S2.out.len0, List.length_set])
    have hfm := H1.out.may.formed b hbl
    have HL64 := hide (show (bidAt L b).length ≤ 64 from H1.out.may.short b)
    have HOK := hide (show ∀ k, k < (bidAt L b).length → okC (at0 (bidAt L b) k) from fun k hk => (hfm.good k hk).1)
    clear hp1 hp2 hwn1 hwn2 hwl1 hwl2 hfm
    obtain ⟨W4, hW4⟩ : ∃ W4, W4 = w4.alloc (.cells #[.int .i64 p2, .slice a4 won2.length c4, .int .i64 nx2] 30) := ⟨_, rfl⟩
    have hbv4 : Below w4.heap.size w4 W4 := by rw [hW4]; exact (Below.refl _ _).alloc (Nat.le_refl _) _
    have HB4 := hide (show ∀ o, W4.cell? ⟨w4.heap.size, o, none⟩ = (#[Value.int .i64 p2, .slice a4 won2.length c4, .int .i64 nx2] : Array Value)[o]? from fun o => by rw [hW4]; simp [go_sem])
    have hzW4 : W4.heap.size = w4.heap.size + 1 := by rw [hW4]; simp
    have HO4v := hide (own_bel HO4.out hbv4)
    have HO34v := hide (own_bel HO34.out hbv4)
    have HL5 := hide (bstep HL4.out hbv4)
    obtain ⟨bS, offS, si, ci, hso, cS, hrow⟩ := HB.out.spot hbl
    have HCI := hide (HCP.out bS offS si ci hso cS)
    have hcS := cell_lt cS
    have hwz := HL5.out.size
    have hRow := HL5.out.cell (p := ⟨bS, offS + b, none⟩) hcS
    have HRW := hide (hrow.below HL5.out)
    have Aa := hide (show ∀ m : Aft W4, Calls Try.prog 40 #[.slice si (bidAt L b).length ci, .agg #[.int .i64 p1, .slice a3 won1.length c3, .int .i64 nx1], .int .i64 (b : Int)] m.w fun e w' => e = .returned (.int .i64 (gainI p1 (at0 won1 b).toNat (bidAt L b))) ∧ Below m.w.heap.size m.w w' from fun m => gain_c p1 nx1 (at0 won1 b).toNat b won1 (bidAt L b) a3 si c3 ci m.w (IRow.of_own ((own_bel HO34v.out m.le))) (by have := HWL1.out; omega) (by have := (HWN1.out b (by have := HWL1.out; omega)); omega) (by have := (HWN1.out b (by have := HWL1.out; omega)); omega) HP1.out.1 HP1.out.2 (HRW.out.below m.le) HOK.out HL64.out HCI.out)
    have Ab := hide (show ∀ m : Aft W4, Calls Try.prog 40 #[.slice si (bidAt L b).length ci, .agg #[.int .i64 p2, .slice a4 won2.length c4, .int .i64 nx2], .int .i64 (b : Int)] m.w fun e w' => e = .returned (.int .i64 (gainI p2 (at0 won2 b).toNat (bidAt L b))) ∧ Below m.w.heap.size m.w w' from fun m => gain_c p2 nx2 (at0 won2 b).toNat b won2 (bidAt L b) a4 si c4 ci m.w (IRow.of_own ((own_bel HO4v.out m.le))) (by have := HWL2.out; omega) (by have := (HWN2.out b (by have := HWL2.out; omega)); omega) (by have := (HWN2.out b (by have := HWL2.out; omega)); omega) HP2.out.1 HP2.out.2 (HRW.out.below m.le) HOK.out HL64.out HCI.out)
    have r0 : ∀ m : Aft W4, m.w.cell? ⟨w3.heap.size, 0, none⟩ = some (.int .i64 p1) := fun m => (m.le.cell (p := ⟨w3.heap.size, 0, none⟩) (show w3.heap.size < W4.heap.size by omega)).trans ((hbv4.cell (p := ⟨w3.heap.size, 0, none⟩) (show w3.heap.size < w4.heap.size by omega)).trans (HA4.out 0))
    have r1 : ∀ m : Aft W4, m.w.cell? ⟨w3.heap.size, 1, none⟩ = some (.slice a3 won1.length c3) := fun m => (m.le.cell (p := ⟨w3.heap.size, 1, none⟩) (show w3.heap.size < W4.heap.size by omega)).trans ((hbv4.cell (p := ⟨w3.heap.size, 1, none⟩) (show w3.heap.size < w4.heap.size by omega)).trans (HA4.out 1))
    have r2 : ∀ m : Aft W4, m.w.cell? ⟨w3.heap.size, 2, none⟩ = some (.int .i64 nx1) := fun m => (m.le.cell (p := ⟨w3.heap.size, 2, none⟩) (show w3.heap.size < W4.heap.size by omega)).trans ((hbv4.cell (p := ⟨w3.heap.size, 2, none⟩) (show w3.heap.size < w4.heap.size by omega)).trans (HA4.out 2))
    have t0 : ∀ m : Aft W4, m.w.cell? ⟨w4.heap.size, 0, none⟩ = some (.int .i64 p2) := fun m => (m.le.cell (p := ⟨w4.heap.size, 0, none⟩) (show w4.heap.size < W4.heap.size by omega)).trans (HB4.out 0)
    have t1 : ∀ m : Aft W4, m.w.cell? ⟨w4.heap.size, 1, none⟩ = some (.slice a4 won2.length c4) := fun m => (m.le.cell (p := ⟨w4.heap.size, 1, none⟩) (show w4.heap.size < W4.heap.size by omega)).trans (HB4.out 1)
    have t2 : ∀ m : Aft W4, m.w.cell? ⟨w4.heap.size, 2, none⟩ = some (.int .i64 nx2) := fun m => (m.le.cell (p := ⟨w4.heap.size, 2, none⟩) (show w4.heap.size < W4.heap.size by omega)).trans (HB4.out 2)
    have z0 : ∀ m : Aft W4, m.w.cell? ⟨bS, offS + b, none⟩ = some (.slice si (bidAt L b).length ci) := fun m => (m.le.cell (p := ⟨bS, offS + b, none⟩) (show bS < W4.heap.size by omega)).trans (hRow.trans cS)
    subst hso
    have HW4 := hide hW4
    clear hW4 hbv4 cS hrow hRow HA4 HB4 HO4 HO34
    go_wp2_with fail
    rw [← HW4.out]
    refine (wpIn_wide (n := 3)).1 ?_
    refine wpIn_region_after_tail 16 (by kernel_rfl) (by kernel_rfl) (by kernel_rfl) ?_
    simp only [List.take_succ_cons, List.take_zero, List.drop_succ_cons, List.drop_zero]
    repeat (gi_big_quiet_step ((first | (gi_at_call 40; with_reducible exact aft_call (callsIn_wide.2 (Aa.out _))) | (gi_at_call 40; with_reducible exact aft_call (callsIn_wide.2 (Ab.out _))))))
    refine wpQuietIn_nil ?_
    intro _ hw'
    obtain ⟨m, hw''⟩ := hw'
    subst hw''
    gi_wp2
    go_wp2
    refine bodyPost_ret (v := .tuple #[.int .i64 (gainI p1 (at0 won1 b).toNat (bidAt L b)), .int .i64 (gainI p2 (at0 won2 b).toNat (bidAt L b)), .int .i64 0]) (by simp [results, Try.f25, go_sem]) rfl ⟨rfl, HL5.out.trans (m.le.mono HL5.out.size)⟩

set_option maxRecDepth 100000 in
set_option maxHeartbeats 8000000 in
theorem Better_low (count floor : Int) (so : Option Addr) (cap : Nat) (L : List (List Int)) (sb : Option Addr) (cb : Nat) (xs : List Int) (w : World) (hb : BRows so L w) (hx : IRow sb xs w) (hL : L.length ≤ 4096) (who : Int) (hlo : who < 0) {v1 p1 nx1 : Int} {won1 : List Int} (h1 : WrongIs count floor L v1) (s1 : SaleIs count floor L v1 p1 nx1 won1) {A B V : Int}
    (hA : BetterIs false v1 v1 0 0 A B V) : Calls Try.prog 25 #[.int .i64 count, .int .i64 floor, .slice so L.length cap, .int .i64 who, .slice sb xs.length cb] w fun e w' => e = .returned (.tuple #[.int .i64 A, .int .i64 B, .int .i64 V]) ∧ Below w.heap.size w w' := by
  have HB := hide hb
  have H1 := hide h1
  have S1 := hide s1
  have H2 := H1
  have S2 := S1
  have HA := hide hA
  have hd : decide ((0 : Int) ≤ who) = false := by (rw [decide_eq_false_iff_not]; omega)
  clear hb hx h1 s1 hA
  go_enter Try.func25, Try.ntmps25
  go_wp2_with (at_builtin; refine wpList_copyB _ rfl _ _ rfl rfl so L cap rfl rfl HB.out hL ?_; intro ao cT w1 ht; have HT := hide ht; clear ht)
  have HR2 := hide (HT.out.brows)
  have HLOW := hide HT.out.low
  clear HT
  go_wp2_with fail
  refine (Sell_is H1.out S1.out _ (HB.out.below HLOW.out)).mono ?_
  rintro e w3 ⟨⟨a3, c3, rfl, own3⟩, hb3⟩
  have HO3 := hide own3
  have hz3 := hb3.size
  have HL3 := hide (bstep HLOW.out hb3)
  have HR3 := hide (HR2.out.below hb3)
  obtain ⟨W3, hW3⟩ : ∃ W3, W3 = w3.alloc (.cells #[.int .i64 p1, .slice a3 won1.length c3, .int .i64 nx1] 30) := ⟨_, rfl⟩
  have hbv : Below w3.heap.size w3 W3 := by rw [hW3]; exact (Below.refl _ _).alloc (Nat.le_refl _) _
  have HA3 := hide (show ∀ o, W3.cell? ⟨w3.heap.size, o, none⟩ = (#[Value.int .i64 p1, .slice a3 won1.length c3, .int .i64 nx1] : Array Value)[o]? from fun o => by rw [hW3]; simp [go_sem])
  have hzW3 : W3.heap.size = w3.heap.size + 1 := by rw [hW3]; simp
  have HW3 := hide hW3
  have HBV := hide hbv
  clear hb3 own3 hW3 hbv
  go_wp2_with fail
  rw [← HW3.out]
  have q4 := Sell_is (cap := cT) H2.out S2.out _ (HR3.out.below HBV.out)
  refine q4.mono ?_
  rintro e w4 ⟨⟨a4, c4, rfl, own4⟩, hb4⟩
  have HO4 := hide own4
  have hz4 := hb4.size
  have HL4 := hide (bstep (bstep HL3.out HBV.out) hb4)
  have HO34 := hide (own_bel (own_bel HO3.out HBV.out) hb4)
  have HA4 := hide (fun o => (hb4.cell (p := ⟨w3.heap.size, o, none⟩) (show w3.heap.size < W3.heap.size by omega)).trans (HA3.out o))
  clear hb4 own4 q4
  rcases H1.out.vals with rfl | rfl | rfl
  · obtain ⟨rfl, rfl, rfl⟩ : A = 0 ∧ B = 0 ∧ V = 4 := by
      have := HA.out
      unfold BetterIs at this
      simp at this
      omega
    go_wp2
    refine bodyPost_ret (v := .tuple #[.int .i64 0, .int .i64 0, .int .i64 4]) (by simp [results, Try.f25, go_sem]) rfl ⟨rfl, HL4.out.alloc HL4.out.size _⟩
  · obtain ⟨rfl, rfl, rfl⟩ : A = 0 ∧ B = 0 ∧ V = 2 := by
      have := HA.out
      unfold BetterIs at this
      simp at this
      omega
    go_wp2
    refine bodyPost_ret (v := .tuple #[.int .i64 0, .int .i64 0, .int .i64 2]) (by simp [results, Try.f25, go_sem]) rfl ⟨rfl, HL4.out.alloc HL4.out.size _⟩
  · obtain ⟨rfl, rfl, rfl⟩ : A = 0 ∧ B = 0 ∧ V = 4 := by
      have := HA.out
      unfold BetterIs at this
      simp at this
      omega
    go_wp2
    refine bodyPost_ret (v := .tuple #[.int .i64 0, .int .i64 0, .int .i64 4]) (by simp [results, Try.f25, go_sem]) rfl ⟨rfl, HL4.out.alloc HL4.out.size _⟩

set_option maxRecDepth 100000 in
set_option maxHeartbeats 8000000 in
theorem Better_high (count floor : Int) (so : Option Addr) (cap : Nat) (L : List (List Int)) (sb : Option Addr) (cb : Nat) (xs : List Int) (w : World) (hb : BRows so L w) (hx : IRow sb xs w) (hL : L.length ≤ 4096) (who : Int) (hlo : 0 ≤ who) (hhi : (L.length : Int) ≤ who) {v1 p1 nx1 : Int} {won1 : List Int} (h1 : WrongIs count floor L v1) (s1 : SaleIs count floor L v1 p1 nx1 won1) {A B V : Int}
    (hA : BetterIs false v1 v1 0 0 A B V) : Calls Try.prog 25 #[.int .i64 count, .int .i64 floor, .slice so L.length cap, .int .i64 who, .slice sb xs.length cb] w fun e w' => e = .returned (.tuple #[.int .i64 A, .int .i64 B, .int .i64 V]) ∧ Below w.heap.size w w' := by
  have HB := hide hb
  have H1 := hide h1
  have S1 := hide s1
  have H2 := H1
  have S2 := S1
  have HA := hide hA
  have hd : decide (who < (L.length : Int)) = false := by (rw [decide_eq_false_iff_not]; omega)
  clear hb hx h1 s1 hA
  go_enter Try.func25, Try.ntmps25
  go_wp2_with (at_builtin; refine wpList_copyB _ rfl _ _ rfl rfl so L cap rfl rfl HB.out hL ?_; intro ao cT w1 ht; have HT := hide ht; clear ht)
  have HR2 := hide (HT.out.brows)
  have HLOW := hide HT.out.low
  clear HT
  go_wp2_with fail
  refine (Sell_is H1.out S1.out _ (HB.out.below HLOW.out)).mono ?_
  rintro e w3 ⟨⟨a3, c3, rfl, own3⟩, hb3⟩
  have HO3 := hide own3
  have hz3 := hb3.size
  have HL3 := hide (bstep HLOW.out hb3)
  have HR3 := hide (HR2.out.below hb3)
  obtain ⟨W3, hW3⟩ : ∃ W3, W3 = w3.alloc (.cells #[.int .i64 p1, .slice a3 won1.length c3, .int .i64 nx1] 30) := ⟨_, rfl⟩
  have hbv : Below w3.heap.size w3 W3 := by rw [hW3]; exact (Below.refl _ _).alloc (Nat.le_refl _) _
  have HA3 := hide (show ∀ o, W3.cell? ⟨w3.heap.size, o, none⟩ = (#[Value.int .i64 p1, .slice a3 won1.length c3, .int .i64 nx1] : Array Value)[o]? from fun o => by rw [hW3]; simp [go_sem])
  have hzW3 : W3.heap.size = w3.heap.size + 1 := by rw [hW3]; simp
  have HW3 := hide hW3
  have HBV := hide hbv
  clear hb3 own3 hW3 hbv
  go_wp2_with fail
  rw [← HW3.out]
  have q4 := Sell_is (cap := cT) H2.out S2.out _ (HR3.out.below HBV.out)
  refine q4.mono ?_
  rintro e w4 ⟨⟨a4, c4, rfl, own4⟩, hb4⟩
  have HO4 := hide own4
  have hz4 := hb4.size
  have HL4 := hide (bstep (bstep HL3.out HBV.out) hb4)
  have HO34 := hide (own_bel (own_bel HO3.out HBV.out) hb4)
  have HA4 := hide (fun o => (hb4.cell (p := ⟨w3.heap.size, o, none⟩) (show w3.heap.size < W3.heap.size by omega)).trans (HA3.out o))
  clear hb4 own4 q4
  rcases H1.out.vals with rfl | rfl | rfl
  · obtain ⟨rfl, rfl, rfl⟩ : A = 0 ∧ B = 0 ∧ V = 4 := by
      have := HA.out
      unfold BetterIs at this
      simp at this
      omega
    go_wp2
    refine bodyPost_ret (v := .tuple #[.int .i64 0, .int .i64 0, .int .i64 4]) (by simp [results, Try.f25, go_sem]) rfl ⟨rfl, HL4.out.alloc HL4.out.size _⟩
  · obtain ⟨rfl, rfl, rfl⟩ : A = 0 ∧ B = 0 ∧ V = 2 := by
      have := HA.out
      unfold BetterIs at this
      simp at this
      omega
    go_wp2
    refine bodyPost_ret (v := .tuple #[.int .i64 0, .int .i64 0, .int .i64 2]) (by simp [results, Try.f25, go_sem]) rfl ⟨rfl, HL4.out.alloc HL4.out.size _⟩
  · obtain ⟨rfl, rfl, rfl⟩ : A = 0 ∧ B = 0 ∧ V = 4 := by
      have := HA.out
      unfold BetterIs at this
      simp at this
      omega
    go_wp2
    refine bodyPost_ret (v := .tuple #[.int .i64 0, .int .i64 0, .int .i64 4]) (by simp [results, Try.f25, go_sem]) rfl ⟨rfl, HL4.out.alloc HL4.out.size _⟩

set_option maxRecDepth 100000 in
set_option maxHeartbeats 8000000 in
theorem rBetter_there (count floor : Int) (so : Option Addr) (cap : Nat) (L : List (List Int)) (sb : Option Addr) (cb : Nat) (xs : List Int) (w : World) (hb : BRows so L w) (hx : IRow sb xs w) (hL : L.length ≤ 4096) (b : Nat) (hbl : b < L.length) {v1 v2 p1 nx1 p2 nx2 : Int} {won1 won2 : List Int} (h1 : WrongIs count floor L v1) (h2 : WrongIs count floor (L.set b xs) v2) (s1 : SaleIs count floor L v1 p1 nx1 won1) (s2 : SaleIs count floor (L.set b xs) v2 p2 nx2 won2) {A B V : Int}
    (hA : BetterIs true v1 v2 (gainI p1 (at0 won1 b).toNat (bidAt L b)) (gainI p2 (at0 won2 b).toNat (bidAt L b)) A B V) : Calls Try.prog 26 #[.int .i64 count, .int .i64 floor, .slice so L.length cap, .int .i64 (b : Int), .slice sb xs.length cb] w fun e w' => e = .returned (.tuple #[.int .i64 A, .int .i64 B, .int .i64 V]) ∧ Below w.heap.size w w' := by
  have HB := hide hb
  have HX := hide hx
  have H1 := hide h1
  have H2 := hide h2
  have S1 := hide s1
  have S2 := hide s2
  have HA := hide hA
  have hb0 : (0 : Int) ≤ (b : Int) := by omega
  have hbl' : (b : Int) < (L.length : Int) := by omega
  have hbd : decide ((b : Int) < (L.length : Int)) = true := by (rw [decide_eq_true_eq]; exact hbl')
  clear hb hx h1 h2 s1 s2 hA
  go_enter Try.func26, Try.ntmps26
  go_wp2_with (at_builtin; refine wpList_copyB _ rfl _ _ rfl rfl so L cap rfl rfl HB.out hL ?_; intro ao cT w1 ht; have HT := hide ht; obtain ⟨g, rfl, hg0, hgl, ⟨vk, ck⟩, fk⟩ := ht.at hbl; clear ht)
  obtain ⟨W2, hW2⟩ : ∃ W2, W2 = w1.setCell ⟨g, b, none⟩ (.slice sb xs.length cb) := ⟨_, rfl⟩
  have HR2 := hide (show BRows (some ⟨g, 0, none⟩) (L.set b xs) W2 from by rw [hW2]; exact (HT.out.put HX.out hbl).brows)
  have HLOW := hide (show Below w.heap.size w W2 from by rw [hW2]; exact HT.out.low.setCell (p := ⟨g, b, none⟩) hg0 _)
  rw [← hW2]
  clear hW2 ck fk HT
  refine (rSell_is H1.out S1.out _ (HB.out.below HLOW.out)).mono ?_
  rintro e w3 ⟨⟨a3, c3, rfl, own3⟩, hb3⟩
  have HO3 := hide own3
  have hz3 := hb3.size
  have HL3 := hide (bstep HLOW.out hb3)
  have HR3 := hide (HR2.out.below hb3)
  obtain ⟨W3, hW3⟩ : ∃ W3, W3 = w3.alloc (.cells #[.int .i64 p1, .slice a3 won1.length c3, .int .i64 nx1] 30) := ⟨_, rfl⟩
  have hbv : Below w3.heap.size w3 W3 := by rw [hW3]; exact (Below.refl _ _).alloc (Nat.le_refl _) _
  have HA3 := hide (show ∀ o, W3.cell? ⟨w3.heap.size, o, none⟩ = (#[Value.int .i64 p1, .slice a3 won1.length c3, .int .i64 nx1] : Array Value)[o]? from fun o => by rw [hW3]; simp [go_sem])
  have hzW3 : W3.heap.size = w3.heap.size + 1 := by rw [hW3]; simp
  have HW3 := hide hW3
  have HBV := hide hbv
  clear hb3 own3 hW3 hbv
  go_wp2_with fail
  rw [← HW3.out]
  have q4 := rSell_is (cap := cT) H2.out S2.out _ (HR3.out.below HBV.out)
  rw [List.length_set] at q4
  refine q4.mono ?_
  rintro e w4 ⟨⟨a4, c4, rfl, own4⟩, hb4⟩
  have HO4 := hide own4
  have hz4 := hb4.size
  have HL4 := hide (bstep (bstep HL3.out HBV.out) hb4)
  have HO34 := hide (own_bel (own_bel HO3.out HBV.out) hb4)
  have HA4 := hide (fun o => (hb4.cell (p := ⟨w3.heap.size, o, none⟩) (show w3.heap.size < W3.heap.size by omega)).trans (HA3.out o))
  clear hb4 own4 q4
  rcases H1.out.vals with rfl | rfl | rfl
  all_goals rcases H2.out.vals with rfl | rfl | rfl
  rotate_left
  · obtain ⟨rfl, rfl, rfl⟩ : A = 0 ∧ B = 0 ∧ V = 2 := by
      have := HA.out
      unfold BetterIs at this
      simp at this
      omega
    go_wp2
    refine bodyPost_ret (v := .tuple #[.int .i64 0, .int .i64 0, .int .i64 2]) (by simp [results, Try.f26, go_sem]) rfl ⟨rfl, HL4.out.alloc HL4.out.size _⟩
  · obtain ⟨rfl, rfl, rfl⟩ : A = 0 ∧ B = 0 ∧ V = 7 := by
      have := HA.out
      unfold BetterIs at this
      simp at this
      omega
    go_wp2
    refine bodyPost_ret (v := .tuple #[.int .i64 0, .int .i64 0, .int .i64 7]) (by simp [results, Try.f26, go_sem]) rfl ⟨rfl, HL4.out.alloc HL4.out.size _⟩
  · obtain ⟨rfl, rfl, rfl⟩ : A = 0 ∧ B = 0 ∧ V = 2 := by
      have := HA.out
      unfold BetterIs at this
      simp at this
      omega
    go_wp2
    refine bodyPost_ret (v := .tuple #[.int .i64 0, .int .i64 0, .int .i64 2]) (by simp [results, Try.f26, go_sem]) rfl ⟨rfl, HL4.out.alloc HL4.out.size _⟩
  · obtain ⟨rfl, rfl, rfl⟩ : A = 0 ∧ B = 0 ∧ V = 2 := by
      have := HA.out
      unfold BetterIs at this
      simp at this
      omega
    go_wp2
    refine bodyPost_ret (v := .tuple #[.int .i64 0, .int .i64 0, .int .i64 2]) (by simp [results, Try.f26, go_sem]) rfl ⟨rfl, HL4.out.alloc HL4.out.size _⟩
  · obtain ⟨rfl, rfl, rfl⟩ : A = 0 ∧ B = 0 ∧ V = 2 := by
      have := HA.out
      unfold BetterIs at this
      simp at this
      omega
    go_wp2
    refine bodyPost_ret (v := .tuple #[.int .i64 0, .int .i64 0, .int .i64 2]) (by simp [results, Try.f26, go_sem]) rfl ⟨rfl, HL4.out.alloc HL4.out.size _⟩
  · obtain ⟨rfl, rfl, rfl⟩ : A = 0 ∧ B = 0 ∧ V = 7 := by
      have := HA.out
      unfold BetterIs at this
      simp at this
      omega
    go_wp2
    refine bodyPost_ret (v := .tuple #[.int .i64 0, .int .i64 0, .int .i64 7]) (by simp [results, Try.f26, go_sem]) rfl ⟨rfl, HL4.out.alloc HL4.out.size _⟩
  · obtain ⟨rfl, rfl, rfl⟩ : A = 0 ∧ B = 0 ∧ V = 2 := by
      have := HA.out
      unfold BetterIs at this
      simp at this
      omega
    go_wp2
    refine bodyPost_ret (v := .tuple #[.int .i64 0, .int .i64 0, .int .i64 2]) (by simp [results, Try.f26, go_sem]) rfl ⟨rfl, HL4.out.alloc HL4.out.size _⟩
  · obtain ⟨rfl, rfl, rfl⟩ : A = 0 ∧ B = 0 ∧ V = 7 := by
      have := HA.out
      unfold BetterIs at this
      simp at this
      omega
    go_wp2
    refine bodyPost_ret (v := .tuple #[.int .i64 0, .int .i64 0, .int .i64 7]) (by simp [results, Try.f26, go_sem]) rfl ⟨rfl, HL4.out.alloc HL4.out.size _⟩
  · obtain ⟨rfl, rfl, rfl⟩ : A = gainI p1 (at0 won1 b).toNat (bidAt L b) ∧ B = gainI p2 (at0 won2 b).toNat (bidAt L b) ∧ V = 0 := by
      have := HA.out
      unfold BetterIs at this
      simp at this
      exact this
    clear HA
    obtain ⟨hp1, hwn1, hwl1, -⟩ := sale_bounds H1.out S1.out
    obtain ⟨hp2, hwn2, hwl2, -⟩ := sale_bounds H2.out S2.out
    have HP1 := hide hp1
    have HP2 := hide hp2
    have HWN1 := hide hwn1
    have HWN2 := hide hwn2
    have HWL1 := hide (show won1.length = L.length from S1.out.len0)
    have HWL2 := hide (show won2.length = L.length from by rw [S2.out.len0, List.length_set])
    have hfm := H1.out.may.formed b hbl
    have HL64 := hide (show (bidAt L b).length ≤ 64 from H1.out.may.short b)
    have HOK := hide (show ∀ k, k < (bidAt L b).length → okC (at0 (bidAt L b) k) from fun k hk => (hfm.good k hk).1)
    clear hp1 hp2 hwn1 hwn2 hwl1 hwl2 hfm
    obtain ⟨W4, hW4⟩ : ∃ W4, W4 = w4.alloc (.cells #[.int .i64 p2, .slice a4 won2.length c4, .int .i64 nx2] 30) := ⟨_, rfl⟩
    have hbv4 : Below w4.heap.size w4 W4 := by rw [hW4]; exact (Below.refl _ _).alloc (Nat.le_refl _) _
    have HB4 := hide (show ∀ o, W4.cell? ⟨w4.heap.size, o, none⟩ = (#[Value.int .i64 p2, .slice a4 won2.length c4, .int .i64 nx2] : Array Value)[o]? from fun o => by rw [hW4]; simp [go_sem])
    have hzW4 : W4.heap.size = w4.heap.size + 1 := by rw [hW4]; simp
    have HO4v := hide (own_bel HO4.out hbv4)
    have HO34v := hide (own_bel HO34.out hbv4)
    have HL5 := hide (bstep HL4.out hbv4)
    obtain ⟨bS, offS, si, ci, hso, cS, hrow⟩ := HB.out.spot hbl
    have hcS := cell_lt cS
    have hwz := HL5.out.size
    have hRow := HL5.out.cell (p := ⟨bS, offS + b, none⟩) hcS
    have HRW := hide (hrow.below HL5.out)
    have Aa := hide (show ∀ m : Aft W4, Calls Try.prog 41 #[.slice si (bidAt L b).length ci, .agg #[.int .i64 p1, .slice a3 won1.length c3, .int .i64 nx1], .int .i64 (b : Int)] m.w fun e w' => e = .returned (.int .i64 (gainI p1 (at0 won1 b).toNat (bidAt L b))) ∧ Below m.w.heap.size m.w w' from fun m => rgain_c p1 nx1 (at0 won1 b).toNat b won1 (bidAt L b) a3 si c3 ci m.w (IRow.of_own ((own_bel HO34v.out m.le))) (by have := HWL1.out; omega) (by have := (HWN1.out b (by have := HWL1.out; omega)); omega) (by have := (HWN1.out b (by have := HWL1.out; omega)); omega) HP1.out.1 HP1.out.2 (HRW.out.below m.le) HOK.out HL64.out)
    have Ab := hide (show ∀ m : Aft W4, Calls Try.prog 41 #[.slice si (bidAt L b).length ci, .agg #[.int .i64 p2, .slice a4 won2.length c4, .int .i64 nx2], .int .i64 (b : Int)] m.w fun e w' => e = .returned (.int .i64 (gainI p2 (at0 won2 b).toNat (bidAt L b))) ∧ Below m.w.heap.size m.w w' from fun m => rgain_c p2 nx2 (at0 won2 b).toNat b won2 (bidAt L b) a4 si c4 ci m.w (IRow.of_own ((own_bel HO4v.out m.le))) (by have := HWL2.out; omega) (by have := (HWN2.out b (by have := HWL2.out; omega)); omega) (by have := (HWN2.out b (by have := HWL2.out; omega)); omega) HP2.out.1 HP2.out.2 (HRW.out.below m.le) HOK.out HL64.out)
    have r0 : ∀ m : Aft W4, m.w.cell? ⟨w3.heap.size, 0, none⟩ = some (.int .i64 p1) := fun m => (m.le.cell (p := ⟨w3.heap.size, 0, none⟩) (show w3.heap.size < W4.heap.size by omega)).trans ((hbv4.cell (p := ⟨w3.heap.size, 0, none⟩) (show w3.heap.size < w4.heap.size by omega)).trans (HA4.out 0))
    have r1 : ∀ m : Aft W4, m.w.cell? ⟨w3.heap.size, 1, none⟩ = some (.slice a3 won1.length c3) := fun m => (m.le.cell (p := ⟨w3.heap.size, 1, none⟩) (show w3.heap.size < W4.heap.size by omega)).trans ((hbv4.cell (p := ⟨w3.heap.size, 1, none⟩) (show w3.heap.size < w4.heap.size by omega)).trans (HA4.out 1))
    have r2 : ∀ m : Aft W4, m.w.cell? ⟨w3.heap.size, 2, none⟩ = some (.int .i64 nx1) := fun m => (m.le.cell (p := ⟨w3.heap.size, 2, none⟩) (show w3.heap.size < W4.heap.size by omega)).trans ((hbv4.cell (p := ⟨w3.heap.size, 2, none⟩) (show w3.heap.size < w4.heap.size by omega)).trans (HA4.out 2))
    have t0 : ∀ m : Aft W4, m.w.cell? ⟨w4.heap.size, 0, none⟩ = some (.int .i64 p2) := fun m => (m.le.cell (p := ⟨w4.heap.size, 0, none⟩) (show w4.heap.size < W4.heap.size by omega)).trans (HB4.out 0)
    have t1 : ∀ m : Aft W4, m.w.cell? ⟨w4.heap.size, 1, none⟩ = some (.slice a4 won2.length c4) := fun m => (m.le.cell (p := ⟨w4.heap.size, 1, none⟩) (show w4.heap.size < W4.heap.size by omega)).trans (HB4.out 1)
    have t2 : ∀ m : Aft W4, m.w.cell? ⟨w4.heap.size, 2, none⟩ = some (.int .i64 nx2) := fun m => (m.le.cell (p := ⟨w4.heap.size, 2, none⟩) (show w4.heap.size < W4.heap.size by omega)).trans (HB4.out 2)
    have z0 : ∀ m : Aft W4, m.w.cell? ⟨bS, offS + b, none⟩ = some (.slice si (bidAt L b).length ci) := fun m => (m.le.cell (p := ⟨bS, offS + b, none⟩) (show bS < W4.heap.size by omega)).trans (hRow.trans cS)
    subst hso
    have HW4 := hide hW4
    clear hW4 hbv4 cS hrow hRow HA4 HB4 HO4 HO34
    go_wp2_with fail
    rw [← HW4.out]
    refine (wpIn_wide (n := 3)).1 ?_
    refine wpIn_region_after_tail 16 (by kernel_rfl) (by kernel_rfl) (by kernel_rfl) ?_
    simp only [List.take_succ_cons, List.take_zero, List.drop_succ_cons, List.drop_zero]
    repeat (gi_big_quiet_step ((first | (gi_at_call 41; with_reducible exact aft_call (callsIn_wide.2 (Aa.out _))) | (gi_at_call 41; with_reducible exact aft_call (callsIn_wide.2 (Ab.out _))))))
    refine wpQuietIn_nil ?_
    intro _ hw'
    obtain ⟨m, hw''⟩ := hw'
    subst hw''
    gi_wp2
    go_wp2
    refine bodyPost_ret (v := .tuple #[.int .i64 (gainI p1 (at0 won1 b).toNat (bidAt L b)), .int .i64 (gainI p2 (at0 won2 b).toNat (bidAt L b)), .int .i64 0]) (by simp [results, Try.f26, go_sem]) rfl ⟨rfl, HL5.out.trans (m.le.mono HL5.out.size)⟩

set_option maxRecDepth 100000 in
set_option maxHeartbeats 8000000 in
theorem rBetter_low (count floor : Int) (so : Option Addr) (cap : Nat) (L : List (List Int)) (sb : Option Addr) (cb : Nat) (xs : List Int) (w : World) (hb : BRows so L w) (hx : IRow sb xs w) (hL : L.length ≤ 4096) (who : Int) (hlo : who < 0) {v1 p1 nx1 : Int} {won1 : List Int} (h1 : WrongIs count floor L v1) (s1 : SaleIs count floor L v1 p1 nx1 won1) {A B V : Int}
    (hA : BetterIs false v1 v1 0 0 A B V) : Calls Try.prog 26 #[.int .i64 count, .int .i64 floor, .slice so L.length cap, .int .i64 who, .slice sb xs.length cb] w fun e w' => e = .returned (.tuple #[.int .i64 A, .int .i64 B, .int .i64 V]) ∧ Below w.heap.size w w' := by
  have HB := hide hb
  have H1 := hide h1
  have S1 := hide s1
  have H2 := H1
  have S2 := S1
  have HA := hide hA
  have hd : decide ((0 : Int) ≤ who) = false := by (rw [decide_eq_false_iff_not]; omega)
  clear hb hx h1 s1 hA
  go_enter Try.func26, Try.ntmps26
  go_wp2_with (at_builtin; refine wpList_copyB _ rfl _ _ rfl rfl so L cap rfl rfl HB.out hL ?_; intro ao cT w1 ht; have HT := hide ht; clear ht)
  have HR2 := hide (HT.out.brows)
  have HLOW := hide HT.out.low
  clear HT
  go_wp2_with fail
  refine (rSell_is H1.out S1.out _ (HB.out.below HLOW.out)).mono ?_
  rintro e w3 ⟨⟨a3, c3, rfl, own3⟩, hb3⟩
  have HO3 := hide own3
  have hz3 := hb3.size
  have HL3 := hide (bstep HLOW.out hb3)
  have HR3 := hide (HR2.out.below hb3)
  obtain ⟨W3, hW3⟩ : ∃ W3, W3 = w3.alloc (.cells #[.int .i64 p1, .slice a3 won1.length c3, .int .i64 nx1] 30) := ⟨_, rfl⟩
  have hbv : Below w3.heap.size w3 W3 := by rw [hW3]; exact (Below.refl _ _).alloc (Nat.le_refl _) _
  have HA3 := hide (show ∀ o, W3.cell? ⟨w3.heap.size, o, none⟩ = (#[Value.int .i64 p1, .slice a3 won1.length c3, .int .i64 nx1] : Array Value)[o]? from fun o => by rw [hW3]; simp [go_sem])
  have hzW3 : W3.heap.size = w3.heap.size + 1 := by rw [hW3]; simp
  have HW3 := hide hW3
  have HBV := hide hbv
  clear hb3 own3 hW3 hbv
  go_wp2_with fail
  rw [← HW3.out]
  have q4 := rSell_is (cap := cT) H2.out S2.out _ (HR3.out.below HBV.out)
  refine q4.mono ?_
  rintro e w4 ⟨⟨a4, c4, rfl, own4⟩, hb4⟩
  have HO4 := hide own4
  have hz4 := hb4.size
  have HL4 := hide (bstep (bstep HL3.out HBV.out) hb4)
  have HO34 := hide (own_bel (own_bel HO3.out HBV.out) hb4)
  have HA4 := hide (fun o => (hb4.cell (p := ⟨w3.heap.size, o, none⟩) (show w3.heap.size < W3.heap.size by omega)).trans (HA3.out o))
  clear hb4 own4 q4
  rcases H1.out.vals with rfl | rfl | rfl
  · obtain ⟨rfl, rfl, rfl⟩ : A = 0 ∧ B = 0 ∧ V = 4 := by
      have := HA.out
      unfold BetterIs at this
      simp at this
      omega
    go_wp2
    refine bodyPost_ret (v := .tuple #[.int .i64 0, .int .i64 0, .int .i64 4]) (by simp [results, Try.f26, go_sem]) rfl ⟨rfl, HL4.out.alloc HL4.out.size _⟩
  · obtain ⟨rfl, rfl, rfl⟩ : A = 0 ∧ B = 0 ∧ V = 2 := by
      have := HA.out
      unfold BetterIs at this
      simp at this
      omega
    go_wp2
    refine bodyPost_ret (v := .tuple #[.int .i64 0, .int .i64 0, .int .i64 2]) (by simp [results, Try.f26, go_sem]) rfl ⟨rfl, HL4.out.alloc HL4.out.size _⟩
  · obtain ⟨rfl, rfl, rfl⟩ : A = 0 ∧ B = 0 ∧ V = 4 := by
      have := HA.out
      unfold BetterIs at this
      simp at this
      omega
    go_wp2
    refine bodyPost_ret (v := .tuple #[.int .i64 0, .int .i64 0, .int .i64 4]) (by simp [results, Try.f26, go_sem]) rfl ⟨rfl, HL4.out.alloc HL4.out.size _⟩

set_option maxRecDepth 100000 in
set_option maxHeartbeats 8000000 in
theorem rBetter_high (count floor : Int) (so : Option Addr) (cap : Nat) (L : List (List Int)) (sb : Option Addr) (cb : Nat) (xs : List Int) (w : World) (hb : BRows so L w) (hx : IRow sb xs w) (hL : L.length ≤ 4096) (who : Int) (hlo : 0 ≤ who) (hhi : (L.length : Int) ≤ who) {v1 p1 nx1 : Int} {won1 : List Int} (h1 : WrongIs count floor L v1) (s1 : SaleIs count floor L v1 p1 nx1 won1) {A B V : Int}
    (hA : BetterIs false v1 v1 0 0 A B V) : Calls Try.prog 26 #[.int .i64 count, .int .i64 floor, .slice so L.length cap, .int .i64 who, .slice sb xs.length cb] w fun e w' => e = .returned (.tuple #[.int .i64 A, .int .i64 B, .int .i64 V]) ∧ Below w.heap.size w w' := by
  have HB := hide hb
  have H1 := hide h1
  have S1 := hide s1
  have H2 := H1
  have S2 := S1
  have HA := hide hA
  have hd : decide (who < (L.length : Int)) = false := by (rw [decide_eq_false_iff_not]; omega)
  clear hb hx h1 s1 hA
  go_enter Try.func26, Try.ntmps26
  go_wp2_with (at_builtin; refine wpList_copyB _ rfl _ _ rfl rfl so L cap rfl rfl HB.out hL ?_; intro ao cT w1 ht; have HT := hide ht; clear ht)
  have HR2 := hide (HT.out.brows)
  have HLOW := hide HT.out.low
  clear HT
  go_wp2_with fail
  refine (rSell_is H1.out S1.out _ (HB.out.below HLOW.out)).mono ?_
  rintro e w3 ⟨⟨a3, c3, rfl, own3⟩, hb3⟩
  have HO3 := hide own3
  have hz3 := hb3.size
  have HL3 := hide (bstep HLOW.out hb3)
  have HR3 := hide (HR2.out.below hb3)
  obtain ⟨W3, hW3⟩ : ∃ W3, W3 = w3.alloc (.cells #[.int .i64 p1, .slice a3 won1.length c3, .int .i64 nx1] 30) := ⟨_, rfl⟩
  have hbv : Below w3.heap.size w3 W3 := by rw [hW3]; exact (Below.refl _ _).alloc (Nat.le_refl _) _
  have HA3 := hide (show ∀ o, W3.cell? ⟨w3.heap.size, o, none⟩ = (#[Value.int .i64 p1, .slice a3 won1.length c3, .int .i64 nx1] : Array Value)[o]? from fun o => by rw [hW3]; simp [go_sem])
  have hzW3 : W3.heap.size = w3.heap.size + 1 := by rw [hW3]; simp
  have HW3 := hide hW3
  have HBV := hide hbv
  clear hb3 own3 hW3 hbv
  go_wp2_with fail
  rw [← HW3.out]
  have q4 := rSell_is (cap := cT) H2.out S2.out _ (HR3.out.below HBV.out)
  refine q4.mono ?_
  rintro e w4 ⟨⟨a4, c4, rfl, own4⟩, hb4⟩
  have HO4 := hide own4
  have hz4 := hb4.size
  have HL4 := hide (bstep (bstep HL3.out HBV.out) hb4)
  have HO34 := hide (own_bel (own_bel HO3.out HBV.out) hb4)
  have HA4 := hide (fun o => (hb4.cell (p := ⟨w3.heap.size, o, none⟩) (show w3.heap.size < W3.heap.size by omega)).trans (HA3.out o))
  clear hb4 own4 q4
  rcases H1.out.vals with rfl | rfl | rfl
  · obtain ⟨rfl, rfl, rfl⟩ : A = 0 ∧ B = 0 ∧ V = 4 := by
      have := HA.out
      unfold BetterIs at this
      simp at this
      omega
    go_wp2
    refine bodyPost_ret (v := .tuple #[.int .i64 0, .int .i64 0, .int .i64 4]) (by simp [results, Try.f26, go_sem]) rfl ⟨rfl, HL4.out.alloc HL4.out.size _⟩
  · obtain ⟨rfl, rfl, rfl⟩ : A = 0 ∧ B = 0 ∧ V = 2 := by
      have := HA.out
      unfold BetterIs at this
      simp at this
      omega
    go_wp2
    refine bodyPost_ret (v := .tuple #[.int .i64 0, .int .i64 0, .int .i64 2]) (by simp [results, Try.f26, go_sem]) rfl ⟨rfl, HL4.out.alloc HL4.out.size _⟩
  · obtain ⟨rfl, rfl, rfl⟩ : A = 0 ∧ B = 0 ∧ V = 4 := by
      have := HA.out
      unfold BetterIs at this
      simp at this
      omega
    go_wp2
    refine bodyPost_ret (v := .tuple #[.int .i64 0, .int .i64 0, .int .i64 4]) (by simp [results, Try.f26, go_sem]) rfl ⟨rfl, HL4.out.alloc HL4.out.size _⟩
end Go.Proofs.Ytehpjipmlpaflaa.un
