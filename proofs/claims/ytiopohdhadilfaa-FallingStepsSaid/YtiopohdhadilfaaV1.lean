import Derived.Test.YtiopohdhadilfaaTb
namespace Go.Proofs.Ytiopohdhadilfaa
open Go.ChangeShapes Go.WideShapes Go.ChangeAt Go.RowKit Go.Deep
set_option linter.unusedSimpArgs false
set_option linter.unusedVariables false

/- a copy of a slice of ints with one number more behind it -/
theorem ownBlock_ge {w : World} {base : Nat} {e : TypeId} {s n : Nat} {v : Value} {xs : List Value} (h : w.ownsRow base e s v n xs) : ∀ k, v.ownBlock = some k → base ≤ k := by
  intro k hk
  rcases h.2 with ⟨rfl, _⟩ | ⟨g, cap, cur, rfl, hg, _⟩
  · cases hk
  · simp [Value.ownBlock] at hk; omega
theorem own_form {w : World} {base : Nat} {e : TypeId} {n : Nat} {v : Value} {xs : List Value} (h : w.ownsRow base e 1 v n xs) (hn : 0 < n) :
    ∃ g cap, v = .slice (some ⟨g, 0, none⟩) n cap ∧ base ≤ g ∧ g < w.heap.size ∧ n ≤ cap ∧ (∀ j, j < n → w.cell? ⟨g, j, none⟩ = xs[j]?) ∧ ∀ j, w.frozen? ⟨g, j, none⟩ = false := by
  obtain ⟨hl, hh⟩ := h
  rcases hh with ⟨_, h0⟩ | ⟨g, cap, cur, rfl, hg, hb, hle, _, hs, ht⟩
  · omega
  · have hlt : g < w.heap.size := by
      rcases Nat.lt_or_ge g w.heap.size with h | h
      · exact h
      · rw [Array.getElem?_eq_none h] at hb; cases hb
    refine ⟨g, cap, rfl, hg, hlt, hle, fun j hj => ?_, fun j => by simp [World.frozen?, hb]⟩
    simp only [World.cell?, hb]
    rw [← ht]
    simp
    rw [List.getElem?_take]
    simp [hj]

theorem info2 : (Try.prog.info? 2).map (fun i => (i.zero, i.size, i.bytes)) = some (some (.int .i64 0), 1, 8) := by kernel_rfl

def fA (k op cl st sp ex la fl fa co ru : Int) (zs : List Int) : Int := if (tk k op cl st sp ex la fl fa co ru zs zs.length).1 < 0 then 0 else (tk k op cl st sp ex la fl fa co ru zs zs.length).1
def fP (k op cl st sp ex la fl fa co ru : Int) (zs : List Int) : Int := if (tk k op cl st sp ex la fl fa co ru zs zs.length).1 < 0 then 0 else priceI op st fl fa (tk k op cl st sp ex la fl fa co ru zs zs.length).2
def fC (k op cl st sp ex la fl fa co ru : Int) (zs : List Int) : Bool := if (tk k op cl st sp ex la fl fa co ru zs zs.length).1 < 0 then false else true
theorem Fin3_eq (k op cl st sp ex la fl fa co ru : Int) (zs : List Int) : Fin3 k op cl st sp ex la fl fa co ru zs = .tuple #[.int .i64 (fA k op cl st sp ex la fl fa co ru zs), .int .i64 (fP k op cl st sp ex la fl fa co ru zs), .bool (fC k op cl st sp ex la fl fa co ru zs)] := by
  unfold Fin3 fA fP fC
  split <;> rfl
theorem Takes_row' (k op cl st sp ex la fl fa co ru : Int) (b off cap : Nat) (zs : List Int) (w : World) (hb : b < w.heap.size) (hp : 0 < zs.length) (hmax : zs.length ≤ 4611686018427387904) (hc : ∀ j, j < zs.length → w.cell? ⟨b, off + j, none⟩ = some (.int .i64 (zs.getD j 0))) : Calls Try.prog 8 #[.agg #[.int .i64 k, .int .i64 op, .int .i64 cl, .int .i64 st, .int .i64 sp, .int .i64 ex, .int .i64 la, .int .i64 fl, .int .i64 fa, .int .i64 co, .int .i64 ru], .slice (some ⟨b, off, none⟩) zs.length cap] w fun e w' => e = .returned (.tuple #[.int .i64 (fA k op cl st sp ex la fl fa co ru zs), .int .i64 (fP k op cl st sp ex la fl fa co ru zs), .bool (fC k op cl st sp ex la fl fa co ru zs)]) ∧ Below w.heap.size w w' :=
  (Takes_row k op cl st sp ex la fl fa co ru b off cap zs w hb hp hmax hc).mono fun _ _ ⟨h, b⟩ => ⟨by rw [h, Fin3_eq], b⟩
theorem rTakes_row' (k op cl st sp ex la fl fa co ru : Int) (b off cap : Nat) (zs : List Int) (w : World) (hb : b < w.heap.size) (hp : 0 < zs.length) (hmax : zs.length ≤ 4611686018427387904) (hc : ∀ j, j < zs.length → w.cell? ⟨b, off + j, none⟩ = some (.int .i64 (zs.getD j 0))) : Calls Try.prog 9 #[.agg #[.int .i64 k, .int .i64 op, .int .i64 cl, .int .i64 st, .int .i64 sp, .int .i64 ex, .int .i64 la, .int .i64 fl, .int .i64 fa, .int .i64 co, .int .i64 ru], .slice (some ⟨b, off, none⟩) zs.length cap] w fun e w' => e = .returned (.tuple #[.int .i64 (fA k op cl st sp ex la fl fa co ru zs), .int .i64 (fP k op cl st sp ex la fl fa co ru zs), .bool (fC k op cl st sp ex la fl fa co ru zs)]) ∧ Below w.heap.size w w' :=
  (rTakes_row k op cl st sp ex la fl fa co ru b off cap zs w hb hp hmax hc).mono fun _ _ ⟨h, b⟩ => ⟨by rw [h, Fin3_eq], b⟩

set_option maxRecDepth 100000 in
set_option maxHeartbeats 2000000 in
theorem Law_row (k op cl st sp ex la fl fa co ru : Int) (b off cap : Nat) (zs : List Int) (w : World) (hb : b < w.heap.size) (hp : 0 < zs.length) (hmax : zs.length * 8 ≤ 140737488351232) (hc : ∀ j, j < zs.length → w.cell? ⟨b, off + j, none⟩ = some (.int .i64 (zs.getD j 0))) : Calls Try.prog 3 #[.agg #[.int .i64 k, .int .i64 op, .int .i64 cl, .int .i64 st, .int .i64 sp, .int .i64 ex, .int .i64 la, .int .i64 fl, .int .i64 fa, .int .i64 co, .int .i64 ru], .slice (some ⟨b, off, none⟩) zs.length cap] w fun e w' => e = .returned (.bool true) ∧ Below w.heap.size w w' := by
  obtain ⟨i0, hi, hz0, hz1, hz2⟩ := info_parts info2
  have hnews : ∀ j u, (zs.map (Value.int .i64))[j]? = some u → (w.alloc (.cells #[Value.int .i64 k, Value.int .i64 op, Value.int .i64 cl, Value.int .i64 st, Value.int .i64 sp, Value.int .i64 ex, Value.int .i64 la, Value.int .i64 fl, Value.int .i64 fa, Value.int .i64 co, Value.int .i64 ru] 25)).cell? ((⟨b, off, none⟩ : Addr).add j) = some u := by
    intro j u hu
    have hj : j < zs.length := by
      rcases Nat.lt_or_ge j zs.length with h | h
      · exact h
      · rw [List.getElem?_eq_none (by simpa using h)] at hu; cases hu
    rw [Go.WideShapes.add_plain, World.cell?_alloc_past _ _ _ hb, hc j hj, ← hu]
    simp [List.getD, List.getElem?_eq_getElem hj]
  have hone : ∀ u ∈ zs.map (Value.int .i64), u.oneCell' = true := by
    intro u hu
    obtain ⟨x, _, rfl⟩ := List.mem_map.1 hu
    rfl
  have hown0 : (w.alloc (.cells #[Value.int .i64 k, Value.int .i64 op, Value.int .i64 cl, Value.int .i64 st, Value.int .i64 sp, Value.int .i64 ex, Value.int .i64 la, Value.int .i64 fl, Value.int .i64 fa, Value.int .i64 co, Value.int .i64 ru] 25)).ownsRow (w.heap.size + 1) 2 1 (.slice none 0 0) 0 [] := ⟨rfl, .inl ⟨rfl, rfl⟩⟩
  have HN := hide hnews
  have HO := hide hone
  have HC := hide hc
  clear hnews hone hc
  have hsz : (w.alloc (.cells #[Value.int .i64 k, Value.int .i64 op, Value.int .i64 cl, Value.int .i64 st, Value.int .i64 sp, Value.int .i64 ex, Value.int .i64 la, Value.int .i64 fl, Value.int .i64 fa, Value.int .i64 co, Value.int .i64 ru] 25)).heap.size = w.heap.size + 1 := by simp
  have Z0 := hide hsz
  clear hsz
  go_enter Try.func3, Try.ntmps3
  go_wp2_with (first | (at_builtin; refine wpList_append_own _ rfl (.const (.slice none 0 0)) (.tmp 13) 26 rfl (w.heap.size + 1) 2 i0 (.int .i64 0) 1 8 Try.underlying26 hi hz0 hz1 hz2 rfl (by decide) (.slice none 0 0) 0 [] rfl hown0 ⟨b, off, none⟩ zs.length cap (zs.map (Value.int .i64)) rfl (by simp) HN.out HO.out (by unfold maxLen; omega) (by omega) (by simp) ?_; intro v1 w1 hown1 hg1 _) | (at_builtin; refine wpList_append_own _ rfl (.tmp 14) (.tmp 15) 26 rfl (w.heap.size + 1) 2 i0 (.int .i64 0) 1 8 Try.underlying26 hi hz0 hz1 hz2 rfl (by decide) v1 (0 + zs.length) ([] ++ zs.map (Value.int .i64)) rfl (hown1.alloc _) ⟨w1.heap.size, 0, none⟩ 1 1 [.int .i64 771] rfl rfl (cell_one_new _ _ _) (by intro u hu; simp at hu; subst hu; rfl) (by unfold maxLen; omega) (by omega) (by have := hg1.size; simp at this; simp; omega) ?_; intro v2 w2 hown2 hg2 _))
  have z1 : w.heap.size + 1 ≤ w1.heap.size := by have := hg1.size; simpa using this
  have H1 : Below (w.heap.size + 1) (w.alloc (.cells #[Value.int .i64 k, Value.int .i64 op, Value.int .i64 cl, Value.int .i64 st, Value.int .i64 sp, Value.int .i64 ex, Value.int .i64 la, Value.int .i64 fl, Value.int .i64 fa, Value.int .i64 co, Value.int .i64 ru] 25)) w1 := (Below.refl _ _).grown hg1 (by simp) (fun k hk => by cases hk)
  have H2 : Below (w.heap.size + 1) (w.alloc (.cells #[Value.int .i64 k, Value.int .i64 op, Value.int .i64 cl, Value.int .i64 st, Value.int .i64 sp, Value.int .i64 ex, Value.int .i64 la, Value.int .i64 fl, Value.int .i64 fa, Value.int .i64 co, Value.int .i64 ru] 25)) w2 := (H1.alloc z1 _).grown hg2 (by simp; omega) (ownBlock_ge hown1)
  have z2 : w.heap.size + 1 ≤ w2.heap.size := by have := H2.size; simpa using this
  have HB2 : Below w.heap.size w w2 := ((Below.refl w.heap.size w).alloc (Nat.le_refl _) (.cells #[Value.int .i64 k, Value.int .i64 op, Value.int .i64 cl, Value.int .i64 st, Value.int .i64 sp, Value.int .i64 ex, Value.int .i64 la, Value.int .i64 fl, Value.int .i64 fa, Value.int .i64 co, Value.int .i64 ru] 25)).trans (H2.mono (by omega))
  have L2 : ∀ o, w2.cell? ⟨w.heap.size, o, none⟩ = (#[Value.int .i64 k, Value.int .i64 op, Value.int .i64 cl, Value.int .i64 st, Value.int .i64 sp, Value.int .i64 ex, Value.int .i64 la, Value.int .i64 fl, Value.int .i64 fa, Value.int .i64 co, Value.int .i64 ru] : Array Value)[o]? := fun o => (H2.cell (p := ⟨w.heap.size, o, none⟩) (by simp)).trans (by simp)
  obtain ⟨g, cap2, hv2, hgg, hgl, hcp, hcl, _⟩ := own_form hown2 (by omega)
  have C2 : ∀ j, j < zs.length → w2.cell? ⟨g, 0 + j, none⟩ = some (.int .i64 (zs.getD j 0)) := by
    intro j hj
    rw [Nat.zero_add, hcl j (by omega)]
    rw [List.getElem?_append_left (by simpa using hj)]
    simp [List.getD, List.getElem?_eq_getElem hj]
  have E2 : w2.cell? ⟨g, zs.length, none⟩ = some (.int .i64 771) := by
    rw [hcl zs.length (by omega), List.getElem?_append_right (by simp)]
    simp
  have A2 : ∀ j, j < zs.length → w2.cell? ⟨b, off + j, none⟩ = some (.int .i64 (zs.getD j 0)) := fun j hj => (HB2.cell (p := ⟨b, off + j, none⟩) hb).trans (HC.out j hj)
  have hbw : b < w2.heap.size := by omega
  have hcap : (zs.length : Int) ≤ (cap2 : Int) := by omega
  have hC2 := hide C2
  have hA2 := hide A2
  have hcp' : zs.length + 1 ≤ cap2 := by omega
  clear hown1 hown2 hg1 hg2 H1 H2 hcl C2 A2 hown0 hcp hi hz0 hz1 hz2 HN HO HC Z0
  subst hv2
  go_region_held3 (fun wq => Below w.heap.size w wq ∧ (w.heap.size < wq.heap.size ∧ ∀ o, wq.cell? ⟨w.heap.size, o, none⟩ = (#[Value.int .i64 k, Value.int .i64 op, Value.int .i64 cl, Value.int .i64 st, Value.int .i64 sp, Value.int .i64 ex, Value.int .i64 la, Value.int .i64 fl, Value.int .i64 fa, Value.int .i64 co, Value.int .i64 ru] : Array Value)[o]?)) (((try go_split_ands); refine ⟨?_, ⟨?_, ?_⟩⟩; (focus (first | (focus repeat' (first | (with_reducible exact Below.refl _ _) | (with_reducible assumption) | (with_reducible refine Below.alloc ?_ ?_ _) | (with_reducible refine Below.drew ?_) | (with_reducible refine bdrewN ?_ _) | (with_reducible refine Below.setCell ?_ ?_ _) | (first | (with_reducible exact Nat.le_refl _) | (with_reducible assumption) | omega | (simp; omega) | (simp; done)))))); (focus (first | (with_reducible assumption) | (simp; done) | omega | (simp; omega))); (focus (first | (with_reducible assumption) | (intro o; simp [go_sem, *]; done)))))
      (first | (go_at_call 8; refine (Takes_row' k op cl st sp ex la fl fa co ru g 0 cap2 zs _ (by first | (simp; done) | omega | (simp; omega)) hp (by omega) (by exact hC2.out)).mono ?_; rintro e w3 ⟨rfl, hb3⟩; (try go_split_ands); have HB3 : Below w.heap.size w w3 := bstep (W := w2.drew) HB2.drew hb3; have hz3 : w2.heap.size ≤ w3.heap.size := hb3.size; (have hz3_0 : w.heap.size < w3.heap.size := by omega); have HC3_0 : ∀ o, w3.cell? ⟨w.heap.size, o, none⟩ = (#[Value.int .i64 k, Value.int .i64 op, Value.int .i64 cl, Value.int .i64 st, Value.int .i64 sp, Value.int .i64 ex, Value.int .i64 la, Value.int .i64 fl, Value.int .i64 fa, Value.int .i64 co, Value.int .i64 ru] : Array Value)[o]? := fun o => (hb3.cell (p := ⟨w.heap.size, o, none⟩) (by first | (simp; done) | omega | (simp; omega))).trans (L2 o)))
  have hb3' : Below w2.heap.size w2 w3 := undraw hb3 rfl rfl rfl rfl (Nat.le_refl _)
  have C3 := hide (show ∀ j, j < zs.length → w3.cell? ⟨g, 0 + j, none⟩ = some (.int .i64 (zs.getD j 0)) from fun j hj => (hb3'.cell (p := ⟨g, 0 + j, none⟩) hgl).trans (hC2.out j hj))
  have A3 := hide (show ∀ j, j < zs.length → w3.cell? ⟨b, off + j, none⟩ = some (.int .i64 (zs.getD j 0)) from fun j hj => (hb3'.cell (p := ⟨b, off + j, none⟩) hbw).trans (hA2.out j hj))
  have E3 := hide (show w3.cell? ⟨g, zs.length, none⟩ = some (.int .i64 771) from (hb3'.cell (p := ⟨g, zs.length, none⟩) hgl).trans E2)
  have g3 : g < w3.heap.size := by omega
  have b3 : b < w3.heap.size := by omega
  clear hb3 hb3' hC2 hA2 E2 HB2 L2 hgl hbw z1 z2 hz3
  go_wp2_with fail
  refine (rTakes_row' k op cl st sp ex la fl fa co ru b off cap zs _ b3 hp (by omega) A3.out).mono ?_
  rintro e w4 ⟨rfl, hb4⟩
  have HB4 : Below w.heap.size w w4 := bstep HB3 hb4
  have C4 := hide (show ∀ j, j < zs.length → w4.cell? ⟨g, j, none⟩ = some (.int .i64 (zs.getD j 0)) from fun j hj => (hb4.cell (p := ⟨g, j, none⟩) g3).trans (by have := C3.out j hj; rwa [Nat.zero_add] at this))
  have A4 := hide (show ∀ j, j < zs.length → w4.cell? ⟨b, off + j, none⟩ = some (.int .i64 (zs.getD j 0)) from fun j hj => (hb4.cell (p := ⟨b, off + j, none⟩) b3).trans (A3.out j hj))
  have E4 : w4.cell? ⟨g, zs.length, none⟩ = some (.int .i64 771) := (hb4.cell (p := ⟨g, zs.length, none⟩) g3).trans E3.out
  clear C3 A3 E3 HB3 HC3_0 hz3_0
  have hlc : (zs.length : Int) < (zs.length : Int) + 1 := by omega
  go_wp2
  have g4 : g < w4.heap.size := by have := hb4.size; omega
  have b4 : b < w4.heap.size := by have := hb4.size; omega
  have z4 : w.heap.size ≤ w4.heap.size := by have := hb4.size; omega
  clear hb4
  go_loopw [12] (fun v wr => ∃ n : Nat, n ≤ zs.length ∧ v = .int .i64 n ∧ Below w4.heap.size w4 wr) (fun v _ => zs.length - (intOf v).toNat)
  case atStart => exact ⟨0, Nat.zero_le _, rfl, by (focus repeat' (first | (with_reducible exact Below.refl _ _) | (with_reducible assumption) | (with_reducible refine Below.alloc ?_ ?_ _) | (with_reducible refine Below.drew ?_) | (with_reducible refine bdrewN ?_ _) | (with_reducible refine Below.setCell ?_ ?_ _) | (first | (with_reducible exact Nat.le_refl _) | (with_reducible assumption) | omega | (simp; omega) | (simp; done))))⟩
  case round =>
    obtain ⟨n, hn, rfl, rB⟩ := hrel
    by_cases hlt : n < zs.length
    · have c1 := (rB.cell (p := ⟨g, n, none⟩) g4).trans (C4.out n hlt)
      have c2 := (rB.cell (p := ⟨b, off + n, none⟩) b4).trans (A4.out n hlt)
      generalize zs.getD n 0 = x at *
      have hlt2 : n < zs.length + 1 := by omega
      go_wp2
      go_quiet (fail)
      go_wp2
      go_roundw
      case rel => exact ⟨n + 1, by omega, by go_num, by (focus repeat' (first | (with_reducible exact Below.refl _ _) | (with_reducible assumption) | (with_reducible refine Below.alloc ?_ ?_ _) | (with_reducible refine Below.drew ?_) | (with_reducible refine bdrewN ?_ _) | (with_reducible refine Below.setCell ?_ ?_ _) | (first | (with_reducible exact Nat.le_refl _) | (with_reducible assumption) | omega | (simp; omega) | (simp; done))))⟩
      case measure => simp [intOf]; omega
    · have hnz : n = zs.length := by omega
      subst hnz
      have HB6 : Below w.heap.size w wr := HB4.trans (rB.mono z4)
      have E6 := (rB.cell (p := ⟨g, zs.length, none⟩) g4).trans E4
      have hlt3 : zs.length < zs.length + 1 := by omega
      go_wp2_with fail
      (apply Calls.mono; focus ((apply known_any <;> (first | (with_reducible assumption) | (with_reducible rfl) | omega)); done)); rintro e w5 ⟨rfl, hb5⟩
      have HB5 : Below w.heap.size w w5 := bstep HB6 hb5
      go_wp2
      go_ret
      exact ⟨rfl, HB5⟩
end Go.Proofs.Ytiopohdhadilfaa
