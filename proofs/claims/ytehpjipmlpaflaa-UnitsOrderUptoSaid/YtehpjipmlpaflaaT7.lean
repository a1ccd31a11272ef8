import Derived.Test.YtehpjipmlpaflaaT6
import Derived.Test.YtehpjipmlpaflaaP2
import Derived.Test.YtehpjipmlpaflaaRB
import Derived.Sort.LoopGhostIn
namespace Go.Proofs.Ytehpjipmlpaflaa.un
open Go.ChangeShapes Go.WideShapes Go.ChangeAt Go.RowKit Go.Deep Go.Shelf
set_option linter.unusedSimpArgs false
set_option linter.unusedVariables false

attribute [local go_sem] Oper.semAt_some

/-- bids in the heap, in blocks of K -/
structure BRead (K : Nat → Prop) (L : List (List Int)) (Bb : Nat) (W : World) : Prop where
  mine : K Bb
  ex : ∃ ao cap, W.cell? ⟨Bb, 0, none⟩ = some (.slice ao L.length cap) ∧ ∀ b, b < L.length → ∃ G g c, ao = some ⟨G, 0, none⟩ ∧ K G ∧ K g ∧ W.cell? ⟨G, b, none⟩ = some (.slice (some ⟨g, 0, none⟩) (bidAt L b).length c) ∧ ∀ q, q < (bidAt L b).length → W.cell? ⟨g, q, none⟩ = some (.int .i64 (((bidAt L b)[q]?).getD 0))
theorem BRead.fix {K : Nat → Prop} {L : List (List Int)} {Bb : Nat} {W W' : World} (h : BRead K L Bb W) (hf : Fix K W W') (hK : ∀ i, K i → i < W.heap.size) : BRead K L Bb W' := by
  obtain ⟨hm, ao, cap, h1, h2⟩ := h
  refine ⟨hm, ao, cap, (hf.cell (p := ⟨Bb, 0, none⟩) hm (hK _ hm)).trans h1, fun b hb => ?_⟩
  obtain ⟨G, g, c, e, kG, kg, h3, h4⟩ := h2 b hb
  exact ⟨G, g, c, e, kG, kg, (hf.cell (p := ⟨G, b, none⟩) kG (hK _ kG)).trans h3, fun q hq => (hf.cell (p := ⟨g, q, none⟩) kg (hK _ kg)).trans (h4 q hq)⟩
theorem Fix.frozen {K : Nat → Prop} {V V' : World} (h : Fix K V V') {p : Addr} (hk : K p.block) (hl : p.block < V.heap.size) : V'.frozen? p = V.frozen? p := World.frozen?_of_block (h.same _ hk hl)
theorem HObj.fix {K : Nat → Prop} {R : Nat} {xs : List U} {V V' : World} (h : HObj R xs V) (hf : Fix (fun i => K i ∨ R ≤ i) V V') : HObj R xs V' := by
  obtain ⟨v, hv, own⟩ := h.ex
  have hR : (fun i => K i ∨ R ≤ i) R := .inr (Nat.le_refl _)
  refine ⟨⟨v, (hf.cell (p := ⟨R, 0, none⟩) hR h.lt).trans hv, own.1, ?_⟩, (hf.cell (p := ⟨R, 1, none⟩) hR h.lt).trans h.fn, (hf.frozen (p := ⟨R, 0, none⟩) hR h.lt).trans h.fz, Nat.lt_of_lt_of_le h.lt hf.size⟩
  rcases own.2 with q | ⟨g, cap, cur, h1, h2, h3, h4⟩
  · exact .inl q
  · exact .inr ⟨g, cap, cur, h1, h2, (hf.same g (.inr (by omega)) (Array.getElem?_eq_some_iff.1 h3).1).trans h3, h4⟩
theorem own_bel {w w' : World} {base : Nat} {e : TypeId} {size : Nat} {v : Value} {n : Nat} {xs : List Value} (h : w.ownsRow base e size v n xs) (hb : Below w.heap.size w w') : w'.ownsRow base e size v n xs :=
  h.kept (row := none) ⟨hb.os, hb.tape, hb.output, hb.size, fun k hk _ => hb.block k hk⟩ (by
    cases e : v.ownBlock with
    | none => exact .inl rfl
    | some k => exact .inr (by simp))
theorem keeps3 (w : World) (g o1 o2 o3 : Nat) (u1 u2 u3 : Value) (k : Nat) (h : k ≠ g) : (((w.setCell ⟨g, o1, none⟩ u1).setCell ⟨g, o2, none⟩ u2).setCell ⟨g, o3, none⟩ u3).heap[k]? = w.heap[k]? := by
  have e : ∀ (w : World) (o : Nat) (u : Value), (w.setCell ⟨g, o, none⟩ u).heap[k]? = w.heap[k]? := fun w o u => heap_setCell_other _ _ _ _ h
  rw [e, e, e]
/-- the root is written over -/
theorem HObj.root {R g cap : Nat} {xs : List U} {w : World} (u : U) (h : HObj R xs w) (h0 : 0 < xs.length) (hv : w.cell? ⟨R, 0, none⟩ = some (.slice (some ⟨g, 0, none⟩) xs.length cap)) (hg : R < g) (own : w.ownsRow (R + 1) 52 3 (.slice (some ⟨g, 0, none⟩) xs.length cap) xs.length (flat3 xs)) :
    HObj R (xs.set 0 u) (((w.setCell ⟨g, 0, none⟩ (.int .i64 u.1)).setCell ⟨g, 1, none⟩ (.int .i64 u.2.1)).setCell ⟨g, 2, none⟩ (.int .i64 u.2.2)) ∧ Chg R w (((w.setCell ⟨g, 0, none⟩ (.int .i64 u.1)).setCell ⟨g, 1, none⟩ (.int .i64 u.2.1)).setCell ⟨g, 2, none⟩ (.int .i64 u.2.2)) := by
  have hb := (((Below.refl g w).setCell (p := ⟨g, 0, none⟩) (Nat.le_refl _) (.int .i64 u.1)).setCell (p := ⟨g, 1, none⟩) (Nat.le_refl _) (.int .i64 u.2.1)).setCell (p := ⟨g, 2, none⟩) (Nat.le_refl _) (.int .i64 u.2.2)
  refine ⟨h.turned hv (hb.block R hg) ?_ (List.length_set ..) hb.size, Chg.of_own hv hg hb (keeps3 w g 0 1 2 _ _ _)⟩
  rw [flat3_set xs u 0 h0]
  exact own_put own 0 _ _ _
theorem fix_below {K : Nat → Prop} {R : Nat} {V V' : World} (h : Below R V V') (hK : ∀ i, K i → i < R) : Fix K V V' := ⟨h.size, fun i hi _ => h.block i (hK i hi)⟩
set_option maxRecDepth 100000 in
set_option maxHeartbeats 4000000 in
theorem order_ok (n : Nat) (hn : 1 ≤ n) (l Br Bb : Nat) (K : Nat → Prop) (L : List (List Int)) (T : List U) (hr : Right L) (hT : Rest L (fun _ => 0) T) (hL : L.length ≤ 4096) (hLb : ∀ b, (bidAt L b).length ≤ 64) (WS : World) (J Jx : List U → World → Prop)
    (hY : ∀ pre x W, J pre W → (∃ rest, T = pre ++ x :: rest) → YieldAt Fence.wide (n - 1) Try.prog l #[.agg #[.int .i64 x.1, .int .i64 x.2.1, .int .i64 x.2.2]] W fun e W' =>
      (e = .returned (.bool true) ∧ J (pre ++ [x]) W' ∧ Fix (fun i => K i ∨ WS.heap.size ≤ i) W W') ∨ (e = .returned (.bool false) ∧ Jx (pre ++ [x]) W'))
    (hJ : Stays WS.heap.size J) (hJx : Stays WS.heap.size Jx) (hBr : K Br) (hK : ∀ i, K i → i < WS.heap.size) (hc : WS.cell? ⟨Br, 0, none⟩ = some (.bool true)) (hb : BRead K L Bb WS) (h0 : J [] WS) :
    CallsIn Fence.wide n Try.prog 31 #[.func (.yield l) #[] #[], .pointer (some ⟨Br, 0, none⟩), .pointer (some ⟨Bb, 0, none⟩)] WS fun e W' => (∃ v, e = .returned v) ∧
      ((∃ ys, ys = T ∧ J ys W') ∨ (∃ pre, (∃ rest, T = pre ++ rest) ∧ Jx pre W')) := by
  have HT := hide hT
  have HLB := hide hLb
  have HBS := hide hb
  have HRT := hide hr
  obtain ⟨ao, cap, hbb, hbs⟩ := hb.ex
  have HBD := hide hbs
  have HKB := hide hb.mine
  clear hT hLb hb hbs hr
  refine callsIn_of_wp Try.func31 rfl trivial ?_ rfl
  simp only [Try.ntmps31, List.size_toArray, List.length_cons, List.length_nil, Nat.reduceAdd, Nat.reduceSub, Array.replicate_succ, Array.replicate_zero, List.push_toArray, List.append_toArray, List.nil_append, List.cons_append]
  have hBbz := hK Bb HKB.out
  have hBrz := hK Br hBr
  gi_wp2_with fail
  gi_loopw [15] (fun v15 wr => ∃ (i : Nat) (xs : List U), i ≤ L.length ∧ v15 = .int .i64 (i : Int) ∧ HObj WS.heap.size xs wr ∧ Heads L i (fun _ => 0) xs ∧ Heap xs xs.length ∧ xs.length = i ∧ Below WS.heap.size WS wr) (fun v15 _ => L.length - (intOf v15).toNat)
  case atStart =>
    refine ⟨0, [], Nat.zero_le _, rfl, ⟨⟨.slice none 0 0, by simp [go_sem], World.ownsRow_nil _ _ _ _⟩, by simp [go_sem], by simp [go_sem], by simp⟩, heads_nil _ _, fun k _ h => by simp at h, rfl, (Below.refl _ _).alloc (Nat.le_refl _) _⟩
  case round =>
    obtain ⟨i, xs, hi, rfl, hh, hhd, hhp, hxl, hbw⟩ := hrel
    have HH := hide hh
    have HHD := hide hhd
    have HHP := hide hhp
    have HXL := hide hxl
    have HBW := hide hbw
    have hi0 : (0 : Int) ≤ (i : Int) := by omega
    clear hh hhd hhp hxl hbw
    by_cases hlt : i < L.length
    · have hlt' : (i : Int) < (L.length : Int) := by omega
      obtain ⟨G, g, c, rfl, kG, kg, hG, hg⟩ := HBD.out i hlt
      have hpos := HRT.out.some i hlt
      have hGz := hK G kG
      have hgz := hK g kg
      have cG : wr.cell? ⟨G, i, none⟩ = some (.slice (some ⟨g, 0, none⟩) (bidAt L i).length c) := (HBW.out.cell (p := ⟨G, i, none⟩) hGz).trans hG
      obtain ⟨x0, hx0⟩ : ∃ x0, x0 = ((bidAt L i)[0]?).getD 0 := ⟨_, rfl⟩
      have cg : wr.cell? ⟨g, 0, none⟩ = some (.int .i64 x0) := by rw [hx0]; exact (HBW.out.cell (p := ⟨g, 0, none⟩) hgz).trans (hg 0 hpos)
      have HPU := hide (show Calls Try.prog 36 #[.iface 67 (.pointer (some ⟨WS.heap.size, 0, none⟩)), .iface 52 (.agg #[.int .i64 (i : Int), .int .i64 0, .int .i64 x0])] wr fun e w' => (∃ v, e = .returned v) ∧ ∃ ys, HObj WS.heap.size ys w' ∧ ys.Perm (xs ++ [unitAt L i 0]) ∧ Heap ys ys.length ∧ Chg WS.heap.size wr w' from by
        rw [hx0]
        exact hPush_c WS.heap.size xs (unitAt L i 0) wr HH.out HHP.out (by have := HXL.out; omega))
      clear hx0 hG hg
      gi_wp2_with (gi_at_call 36; refine (callsIn_wide.2 HPU.out).mono ?_; rintro e w5 ⟨⟨v5, rfl⟩, hys⟩; have HYS := hide hys; clear hys)
      obtain ⟨ys, h1, h2, h3, h4⟩ := HYS.out
      go_roundw
      case rel =>
        refine ⟨i + 1, ys, by omega, by go_num, h1, (HHD.out.push hpos).perm h2, h3, by rw [h2.length_eq, List.length_append, List.length_singleton, HXL.out], HBW.out.trans h4.low⟩
      case measure => (first | (simp [intOf]; done) | (simp [intOf]; omega))
    · obtain rfl : i = L.length := by omega
      have HJ0 := hide (hJ _ _ _ h0 HBW.out)
      have HF0 := hide (fix_below HBW.out hK)
      gi_wp2
      gi_loopg [] T.length (fun k wx => ∃ (xs : List U) (p : Nat → Nat) (pre rest : List U), rest.length = k ∧ T = pre ++ rest ∧ HObj WS.heap.size xs wx ∧ Heads L L.length p xs ∧ Heap xs xs.length ∧ Rest L p rest ∧ J pre wx ∧ Fix K WS wx ∧ xs.length ≤ 4096)
      case atStart => exact ⟨xs, fun _ => 0, [], T, rfl, rfl, HH.out, HHD.out, HHP.out, HT.out, HJ0.out, HF0.out, by have := HXL.out; omega⟩
      case round =>
        obtain ⟨ys, p, pre, rest, hrl, hTe, hh, hhd, hhp, hre, hjp, hfx, hyl⟩ := hrel
        have HH2 := hide hh
        have HHD2 := hide hhd
        have HHP2 := hide hhp
        have HRE := hide hre
        have HJP := hide hjp
        have HFX := hide hfx
        have HRL := hide hrl
        have HTE := hide hTe
        clear hh hhd hhp hre hjp hfx hrl hTe HH HHD HHP HXL HBW HJ0 HF0
        rcases Nat.eq_zero_or_pos ys.length with hz | hp0
        · have HZ := hide hz
          have hLn := hide (show Calls Try.prog 37 #[.pointer (some ⟨WS.heap.size, 0, none⟩)] wr fun e w' => e = .returned (.int .i64 0) ∧ w' = wr from by
            have q := Len_c WS.heap.size ys wr HH2.out
            rw [hz] at q
            exact q)
          clear hz
          gi_wp2_with (gi_at_call 37; refine (callsIn_wide.2 (hLn.out.mono (R' := fun e w' => e = .returned (.int .i64 0) ∧ wr = w') (fun e w' q => ⟨q.1, q.2.symm⟩))).mono ?_; rintro e w5 ⟨rfl, rfl⟩)
          go_end0
          have e0 : ys = [] := List.length_eq_zero_iff.1 HZ.out
          have q1 : Heads L L.length p [] := by rw [← e0]; exact HHD2.out
          have q2 := rest_nil q1 HRE.out
          have q3 : T = pre := by rw [HTE.out, q2, List.append_nil]
          have q4 : J T wr := by rw [q3]; exact HJP.out
          first | exact ⟨⟨_, rfl⟩, .inl ⟨_, rfl, q4⟩⟩ | exact ⟨⟨_, rfl⟩, .inl q4⟩
        · have hp0' : (0 : Int) < (ys.length : Int) := by omega
          obtain ⟨b, rest', hbL, hqb, he, her, hRE'⟩ := rest_head HRT.out HHD2.out HHP2.out hp0 HRE.out
          obtain ⟨g0, cp, hv, hRg, hg0, own, hc, hfz⟩ := HH2.out.full hp0
          obtain ⟨G, g, c, hao, kG, kg, hG, hg⟩ := HBD.out b hbL
          have hGz := hK G kG
          have hgz := hK g kg
          obtain ⟨q0, hq0⟩ : ∃ q0, q0 = p b := ⟨_, rfl⟩
          rw [← hq0] at hqb he
          have HQ0 := hide hq0
          have cG : wr.cell? ⟨G, b, none⟩ = some (.slice (some ⟨g, 0, none⟩) (bidAt L b).length c) := (HFX.out.cell (p := ⟨G, b, none⟩) kG hGz).trans hG
          have cBb : wr.cell? ⟨Bb, 0, none⟩ = some (.slice (some ⟨G, 0, none⟩) L.length cap) := (HFX.out.cell (p := ⟨Bb, 0, none⟩) HKB.out hBbz).trans (by rw [← hao]; exact hbb)
          have hgc : ∀ q, q < (bidAt L b).length → wr.cell? ⟨g, q, none⟩ = some (.int .i64 (((bidAt L b)[q]?).getD 0)) := fun q hq => (HFX.out.cell (p := ⟨g, q, none⟩) kg hgz).trans (hg q hq)
          obtain ⟨x0, hx0⟩ : ∃ x0, x0 = ((bidAt L b)[q0]?).getD 0 := ⟨_, rfl⟩
          have c0 : wr.cell? ⟨g0, 0, none⟩ = some (.int .i64 (b : Int)) := (hc 0 0 hp0 (by decide)).trans (by rw [he]; rfl)
          have c1 : wr.cell? ⟨g0, 1, none⟩ = some (.int .i64 (q0 : Int)) := (hc 0 1 hp0 (by decide)).trans (by rw [he]; rfl)
          have c2 : wr.cell? ⟨g0, 2, none⟩ = some (.int .i64 x0) := (hc 0 2 hp0 (by decide)).trans (by rw [he, hx0]; rfl)
          have HE := hide he
          have HER := hide her
          have HRE2 := hide hRE'
          have HGC := hide hgc
          have HX0 := hide hx0
          have HOW := hide own
          have HFZ := hide hfz
          have hlb := HLB.out b
          have hb0 : (0 : Int) ≤ (b : Int) := by omega
          have hbL' : (b : Int) < (L.length : Int) := by omega
          have hq1 : (q0 : Int) + 1 ≤ 64 := by omega
          have hq2 : (0 : Int) ≤ (q0 : Int) := by omega
          have hzs := HFX.out.size
          have hRz := HH2.out.lt
          have hBbw : Bb < wr.heap.size := by omega
          have hGw : G < wr.heap.size := by omega
          have hgw : g < wr.heap.size := by omega
          clear he her hRE' hgc hx0 own hfz hc hG hg hq0 hlb hao
          by_cases hnx : q0 + 1 < (bidAt L b).length
          · have hnx' : (q0 : Int) + 1 < ((bidAt L b).length : Int) := by omega
            gi_wp2_with (gi_at_call 37; refine (callsIn_wide.2 ((Len_c WS.heap.size ys _ HH2.out).mono (R' := fun e w' => e = .returned (.int .i64 (ys.length : Int)) ∧ wr = w') (fun e w' q => ⟨q.1, q.2.symm⟩))).mono ?_; rintro e w5 ⟨rfl, rfl⟩)
            obtain ⟨V1, hV1⟩ : ∃ V1, V1 = wr.alloc (.cells #[.int .i64 (b : Int), .int .i64 (q0 : Int), .int .i64 x0] 52) := ⟨_, rfl⟩
            rw [← hV1]
            have hbV : Below wr.heap.size wr V1 := by rw [hV1]; exact (Below.refl _ _).alloc (Nat.le_refl _) _
            have HHV := hide (HH2.out.below hbV)
            have v1R : V1.cell? ⟨WS.heap.size, 0, none⟩ = some (.slice (some ⟨g0, 0, none⟩) ys.length cp) := (hbV.cell (p := ⟨WS.heap.size, 0, none⟩) hRz).trans hv
            have hzV : V1.heap.size = wr.heap.size + 1 := by rw [hV1]; simp
            have HEX := hide (show get ys 0 = ((b : Int), (q0 : Int), x0) from by rw [HE.out, HX0.out]; rfl)
            obtain ⟨y0, hy0⟩ : ∃ y0, y0 = ((bidAt L b)[q0 + 1]?).getD 0 := ⟨_, rfl⟩
            have a0 : ∀ m : Aft V1, m.w.cell? ⟨WS.heap.size, 0, none⟩ = some (.slice (some ⟨g0, 0, none⟩) ys.length cp) := fun m => (m.le.cell (p := ⟨WS.heap.size, 0, none⟩) (by simp; omega)).trans v1R
            have a1 : ∀ m : Aft V1, m.w.cell? ⟨wr.heap.size, 0, none⟩ = some (.int .i64 (b : Int)) := fun m => (m.le.cell (p := ⟨wr.heap.size, 0, none⟩) (by simp; omega)).trans (by rw [hV1]; simp [go_sem])
            have a2 : ∀ m : Aft V1, m.w.cell? ⟨Bb, 0, none⟩ = some (.slice (some ⟨G, 0, none⟩) L.length cap) := fun m => (m.le.cell (p := ⟨Bb, 0, none⟩) (by simp; omega)).trans ((hbV.cell (p := ⟨Bb, 0, none⟩) hBbw).trans cBb)
            have a3 : ∀ m : Aft V1, m.w.cell? ⟨G, b, none⟩ = some (.slice (some ⟨g, 0, none⟩) (bidAt L b).length c) := fun m => (m.le.cell (p := ⟨G, b, none⟩) (by simp; omega)).trans ((hbV.cell (p := ⟨G, b, none⟩) hGw).trans cG)
            have a4 : ∀ m : Aft V1, m.w.cell? ⟨g, q0 + 1, none⟩ = some (.int .i64 y0) := fun m => (m.le.cell (p := ⟨g, q0 + 1, none⟩) (by simp; omega)).trans ((hbV.cell (p := ⟨g, q0 + 1, none⟩) hgw).trans (by rw [hy0]; exact HGC.out (q0 + 1) hnx))
            have HOV := hide (own_bel HOW.out hbV)
            have HFV := hide (fun o => (hbV.frozen (p := ⟨g0, o, none⟩) hg0).trans (HFZ.out o))
            have HHC := hide (show ∀ i c, i < ys.length → c < 3 → True from fun _ _ _ _ => trivial)
            have HV1 := hide hV1
            have HBV := hide hbV
            have HV1R := hide v1R
            have HY0 := hide hy0
            have HC0 := hide c0
            have HC1 := hide c1
            have HC2 := hide c2
            clear hV1 hbV v1R hy0 c0 c1 c2 cG cBb hv
            refine wpIn_region_after_tail 17 (by kernel_rfl) (by kernel_rfl) (by kernel_rfl) ?_
            simp only [List.take_succ_cons, List.take_zero, List.drop_succ_cons, List.drop_zero]
            repeat (gi_big_quiet_step (fail))
            refine wpQuietIn_nil ?_
            intro _ hw'
            obtain ⟨m, hw''⟩ := hw'
            subst hw''
            have hg1 : g0 < V1.heap.size := Nat.lt_of_lt_of_le hg0 HBV.out.size
            have f0 : ∀ o, m.w.frozen? ⟨g0, o, none⟩ = false := fun o => (m.le.frozen (p := ⟨g0, o, none⟩) hg1).trans (HFV.out o)
            have d0 : m.w.cell? ⟨g0, 0, none⟩ = some (.int .i64 (b : Int)) := (m.le.cell (p := ⟨g0, 0, none⟩) hg1).trans ((HBV.out.cell (p := ⟨g0, 0, none⟩) hg0).trans HC0.out)
            have d1 : m.w.cell? ⟨g0, 1, none⟩ = some (.int .i64 (q0 : Int)) := (m.le.cell (p := ⟨g0, 1, none⟩) hg1).trans ((HBV.out.cell (p := ⟨g0, 1, none⟩) hg0).trans HC1.out)
            have d2 : m.w.cell? ⟨g0, 2, none⟩ = some (.int .i64 x0) := (m.le.cell (p := ⟨g0, 2, none⟩) hg1).trans ((HBV.out.cell (p := ⟨g0, 2, none⟩) hg0).trans HC2.out)
            have HRO := hide ((HHV.out.below m.le).root ((b : Int), (q0 : Int) + 1, y0) hp0 (a0 m) hRg (own_bel HOV.out m.le))
            have HUU := hide (show unitAt L b (q0 + 1) = ((b : Int), (q0 : Int) + 1, y0) from by unfold unitAt; rw [HY0.out]; simp)
            have hRV : WS.heap.size < V1.heap.size := by omega
            have HCM := hide (Chg.of_below m.le hRV)
            clear a0 a1 a2 a3 a4
            gi_wp2_with fail
            refine (callsIn_wide.2 (Fix_c WS.heap.size (ys.set 0 ((b : Int), (q0 : Int) + 1, y0)) _ HRO.out.1 (down_set _ HHP2.out hp0) (by rw [List.length_set]; omega))).mono ?_
            rintro e w5 ⟨⟨v5, rfl⟩, zs, h5, hp5, hq5, hch5⟩
            have hV1 := HV1.out
            have hbV := HBV.out
            have v1R := HV1R.out
            have hch := HCM.out.trans (HRO.out.2.trans hch5)
            have HJ5 := hide (hJ _ _ _ HJP.out ((hbV.mono hzs).trans hch.low))
            have HF5 := hide (HFX.out.trans (fix_below ((hbV.mono hzs).trans hch.low) hK))
            have HBX := hide (hch.keep wr.heap.size (by rw [hV1]; simp) (by omega) (fun ⟨v, q1, q2⟩ => by
              have q3 : some v = some (Value.slice (some ⟨g0, 0, none⟩) ys.length cp) := q1.symm.trans v1R
              obtain rfl := Option.some.inj q3
              have q4 : g0 = wr.heap.size := by simpa [Value.ownBlock] using q2
              omega))
            have u0 : w5.cell? ⟨wr.heap.size, 0, none⟩ = some (.int .i64 (b : Int)) := (World.cell?_of_block (a := ⟨wr.heap.size, 0, none⟩) HBX.out).trans (by rw [hV1]; simp [go_sem])
            have u1 : w5.cell? ⟨wr.heap.size, 1, none⟩ = some (.int .i64 (q0 : Int)) := (World.cell?_of_block (a := ⟨wr.heap.size, 1, none⟩) HBX.out).trans (by rw [hV1]; simp [go_sem])
            have u2 : w5.cell? ⟨wr.heap.size, 2, none⟩ = some (.int .i64 x0) := (World.cell?_of_block (a := ⟨wr.heap.size, 2, none⟩) HBX.out).trans (by rw [hV1]; simp [go_sem])
            have HZ5 := hide h5
            have HD5 := hide (show Heads L L.length (up1 p b) zs from by
              have q := heads_set HHD2.out hp0 hbL (by rw [HE.out, HQ0.out]) (by rw [← HQ0.out]; exact hnx)
              rw [← HQ0.out, HUU.out] at q
              exact q.perm hp5)
            have HP5 := hide hq5
            have HL5 := hide (show zs.length ≤ 4096 from by rw [hp5.length_eq, List.length_set]; exact hyl)
            clear h5 hp5 hq5 hch hch5 hV1 hbV v1R d0 d1 d2 f0
            obtain ⟨fn, tmps, assign, body, hy, hR⟩ := hY pre (get ys 0) w5 HJ5.out ⟨rest', by rw [HTE.out, HER.out]⟩
            rw [HEX.out] at hy
            dsimp only at hy
            gi_wp2_with fail
            refine hR.mono ?_
            rintro e W3 (⟨rfl, hJ3, hk3⟩ | ⟨rfl, hJx3⟩)
            · have HJ3 := hide hJ3
              have HZ3 := hide (HZ5.out.fix hk3)
              have HF3 := hide (HF5.out.trans (hk3.of (fun i _ q => .inl q)))
              clear hJ3 hk3 hR hy
              gi_wp2
              gi_roundg rest'.length
              case rel =>
                exact ⟨zs, up1 p b, pre ++ [get ys 0], rest', rfl, by (rw [HTE.out, HER.out]; simp), HZ3.out, HD5.out, HP5.out, HRE2.out, HJ3.out, HF3.out, HL5.out⟩
              case measure =>
                rw [← HRL.out, HER.out]
                simp
            · have HJx3 := hide hJx3
              clear hJx3 hR hy
              gi_wp2
              first | go_end0 | (refine bodyPost_ret (results_none rfl _ _ _) rfl ?_)
              exact ⟨⟨_, rfl⟩, .inr ⟨pre ++ [get ys 0], ⟨rest', by (rw [HTE.out, HER.out]; simp)⟩, HJx3.out⟩⟩
          · have hnx' : ((bidAt L b).length : Int) ≤ (q0 : Int) + 1 := by omega
            gi_wp2_with (gi_at_call 37; refine (callsIn_wide.2 ((Len_c WS.heap.size ys _ HH2.out).mono (R' := fun e w' => e = .returned (.int .i64 (ys.length : Int)) ∧ wr = w') (fun e w' q => ⟨q.1, q.2.symm⟩))).mono ?_; rintro e w5 ⟨rfl, rfl⟩)
            obtain ⟨V1, hV1⟩ : ∃ V1, V1 = wr.alloc (.cells #[.int .i64 (b : Int), .int .i64 (q0 : Int), .int .i64 x0] 52) := ⟨_, rfl⟩
            rw [← hV1]
            have hbV : Below wr.heap.size wr V1 := by rw [hV1]; exact (Below.refl _ _).alloc (Nat.le_refl _) _
            have HHV := hide (HH2.out.below hbV)
            have v1R : V1.cell? ⟨WS.heap.size, 0, none⟩ = some (.slice (some ⟨g0, 0, none⟩) ys.length cp) := (hbV.cell (p := ⟨WS.heap.size, 0, none⟩) hRz).trans hv
            have hzV : V1.heap.size = wr.heap.size + 1 := by rw [hV1]; simp
            have HEX := hide (show get ys 0 = ((b : Int), (q0 : Int), x0) from by rw [HE.out, HX0.out]; rfl)
            obtain ⟨n1, hn1⟩ : ∃ n1, ys.length = n1 + 1 := ⟨ys.length - 1, by omega⟩
            refine (callsIn_wide.2 (hPop_c WS.heap.size ys n1 V1 HHV.out (by rw [← hn1]; exact HHP2.out) hn1 (by omega))).mono ?_
            rintro e w5 ⟨⟨v5, rfl⟩, zs, h5, hp5, hq5, hch⟩
            have HJ5 := hide (hJ _ _ _ HJP.out ((hbV.mono hzs).trans hch.low))
            have HF5 := hide (HFX.out.trans (fix_below ((hbV.mono hzs).trans hch.low) hK))
            have HBX := hide (hch.keep wr.heap.size (by rw [hV1]; simp) (by omega) (fun ⟨v, q1, q2⟩ => by
              have q3 : some v = some (Value.slice (some ⟨g0, 0, none⟩) ys.length cp) := q1.symm.trans v1R
              obtain rfl := Option.some.inj q3
              have q4 : g0 = wr.heap.size := by simpa [Value.ownBlock] using q2
              omega))
            have u0 : w5.cell? ⟨wr.heap.size, 0, none⟩ = some (.int .i64 (b : Int)) := (World.cell?_of_block (a := ⟨wr.heap.size, 0, none⟩) HBX.out).trans (by rw [hV1]; simp [go_sem])
            have u1 : w5.cell? ⟨wr.heap.size, 1, none⟩ = some (.int .i64 (q0 : Int)) := (World.cell?_of_block (a := ⟨wr.heap.size, 1, none⟩) HBX.out).trans (by rw [hV1]; simp [go_sem])
            have u2 : w5.cell? ⟨wr.heap.size, 2, none⟩ = some (.int .i64 x0) := (World.cell?_of_block (a := ⟨wr.heap.size, 2, none⟩) HBX.out).trans (by rw [hV1]; simp [go_sem])
            have HZ5 := hide h5
            have HD5 := hide (heads_pop HHD2.out hp5 hbL (by rw [HE.out, HQ0.out]) (by rw [← HQ0.out]; omega))
            have HP5 := hide hq5
            have HL5 := hide (show zs.length ≤ 4096 from by have := hp5.length_eq; simp at this; omega)
            clear h5 hp5 hq5 hch hV1 hbV hzV v1R cG cBb c0 c1 c2 hv hn1
            obtain ⟨fn, tmps, assign, body, hy, hR⟩ := hY pre (get ys 0) w5 HJ5.out ⟨rest', by rw [HTE.out, HER.out]⟩
            rw [HEX.out] at hy
            dsimp only at hy
            gi_wp2_with fail
            refine hR.mono ?_
            rintro e W3 (⟨rfl, hJ3, hk3⟩ | ⟨rfl, hJx3⟩)
            · have HJ3 := hide hJ3
              have HZ3 := hide (HZ5.out.fix hk3)
              have HF3 := hide (HF5.out.trans (hk3.of (fun i _ q => .inl q)))
              clear hJ3 hk3 hR hy
              gi_wp2
              gi_roundg rest'.length
              case rel =>
                exact ⟨zs, up1 p b, pre ++ [get ys 0], rest', rfl, by (rw [HTE.out, HER.out]; simp), HZ3.out, HD5.out, HP5.out, HRE2.out, HJ3.out, HF3.out, HL5.out⟩
              case measure =>
                rw [← HRL.out, HER.out]
                simp
            · have HJx3 := hide hJx3
              clear hJx3 hR hy
              gi_wp2
              first | go_end0 | (refine bodyPost_ret (results_none rfl _ _ _) rfl ?_)
              exact ⟨⟨_, rfl⟩, .inr ⟨pre ++ [get ys 0], ⟨rest', by (rw [HTE.out, HER.out]; simp)⟩, HJx3.out⟩⟩
end Go.Proofs.Ytehpjipmlpaflaa.un
