import Derived.Test.YtalnipjaekpbhaaL59
import Derived.Test.YtalnipjaekpbhaaRY
import Derived.Deep.CutBlock
import Derived.Laws.EntriesVeiled
namespace Go.Proofs.Ytalnipjaekpbhaa
open Go.ChangeShapes Go.WideShapes Go.ChangeAt Go.RowKit Go.Deep
set_option linter.unusedSimpArgs false
set_option linter.unusedVariables false
attribute [local go_sem] Oper.semAt_some

open rf
section
variable {F : Fence} {n : Nat} {P : Program}
theorem wpListIn_load_mid {ops : Array Oper} {rest : List Oper} {op : Oper} {a : Act} {w : World} {Q : Exit → Act → World → Prop} (hgd : op.guard = none) (ty : TypeId) (x : Operand) (ho : op.op = .load ty x)
    (b o : Nat) (hx : a.eval x = .pointer (some ⟨b, o, none⟩)) (cs : List Value) (d : TypeDesc) (hc : w.rangeAt b o cs) (hu : P.underlying ty = some d) (hd : d.isRow = true) (hi : (P.info? ty).map (·.size) = some cs.length)
    (h : wpListIn F n P ops Q rest (a.put op.dst (.agg cs.toArray)) w) : wpListIn F n P ops Q (op :: rest) a w :=
  wpListIn_plain hgd fun K hK => by
    unfold Oper.wpIn
    refine ⟨fun f hf => ?_, ?_⟩
    · unfold Oper.about at hf
      rw [ho] at hf
      cases hf
    · rw [Oper.semAt_eq _ _ _ (fun c e => by rw [ho] at e; cases e)]
      unfold execOp
      simp only [ho, hx, Instr.loadAt, Instr.sureAddr, Sem.run_bind, Sem.run_pure, Result.andThen_ok, run_loadVar_mid w b o ty cs d hc hu hd hi, Oper.uponIn]
      exact hK _ _ h
theorem wpListIn_store_mid {ops : Array Oper} {rest : List Oper} {op : Oper} {a : Act} {w : World} {Q : Exit → Act → World → Prop} (hgd : op.guard = none) (ty : TypeId) (x y : Operand) (ho : op.op = .store ty x y)
    (b o : Nat) (cells : Array Value) (hx : a.eval x = .pointer (some ⟨b, o, none⟩)) (hy : a.eval y = .agg cells) (ht : w.there b o cells.size) (hi : (P.info? ty).map (·.size) = some cells.size) (h1 : cells.all (·.oneCell') = true)
    (h : wpListIn F n P ops Q rest (a.put op.dst undef) (w.setCells b o cells.toList)) : wpListIn F n P ops Q (op :: rest) a w :=
  wpListIn_plain hgd fun K hK => by
    unfold Oper.wpIn
    refine ⟨fun f hf => ?_, ?_⟩
    · unfold Oper.about at hf
      rw [ho] at hf
      cases hf
    · rw [Oper.semAt_eq _ _ _ (fun c e => by rw [ho] at e; cases e)]
      unfold execOp
      simp only [ho, hx, hy, run_storeAt_mid w b o ty cells ht hi h1, Sem.run_bind, Sem.run_pure, Result.andThen_ok, Oper.uponIn]
      exact hK _ _ h
end
/-- what a going over tells: a number, an order in a row of its own -/
abbrev Tld := Nat × Ord × Value
abbrev encO (x : Tld) : Array Value := #[.int .i64 (x.1 : Int), .agg (ordCells x.2.1 x.2.2).toArray]
def NxO (ps : List Nat) (os : List Ord) (B : Nat) (pre : List Tld) (x : Tld) (W : World) : Prop := pre.length < os.length ∧ x.1 = ps.getD pre.length 0 ∧ x.2.1 = os.getD pre.length (zeroO 0) ∧ W.ownsRow B 93 2 x.2.2 x.2.1.offs.length (flatF x.2.1.offs)
set_option maxRecDepth 100000 in
set_option maxHeartbeats 4000000 in
theorem all_ok (n : Nat) (hn : 1 ≤ n) (l X : Nat) (K : Nat → Prop) (os : List Ord) (ps : List Nat) (v p : Value) (vs : List Value) (good : Nat) (why : Int) (WS : World) (J Jx : List Tld → World → Prop)
    (hY : ∀ pre x W, J pre W → NxO ps os WS.heap.size pre x W → YieldAt Fence.wide (n - 1) Try.prog l (encO x) W fun e W' => (e = .returned (.bool true) ∧ J (pre ++ [x]) W' ∧ Fix K W W') ∨ (e = .returned (.bool false) ∧ Jx (pre ++ [x]) W'))
    (hJ : Stays WS.heap.size J) (hK : ∀ i, K i → i < WS.heap.size) (hX : K X) (hv : ∀ b, v.ownBlock = some b → K b) (hp : ∀ b, p.ownBlock = some b → K b) (ho : ∀ i b, i < os.length → (vs.getD i undef).ownBlock = some b → K b)
    (hbx : BookBox WS X v p good why) (hos : OrdsIn WS v os vs) (hps : WS.ownsRow 0 3 1 p os.length (placeV ps)) (hl : os.length ≤ 1000000) (h0 : J [] WS) :
    CallsIn Fence.wide n Try.prog 71 #[.func (.yield l) #[] #[], .pointer (some ⟨X, 0, none⟩)] WS fun e W' => (∃ v, e = .returned v) ∧ ((∃ ys, ys.length = os.length ∧ J ys W') ∨ (∃ pre, pre.length ≤ os.length ∧ Jx pre W')) := by
  obtain ⟨ao, ac, e⟩ := hos.val
  subst e
  obtain ⟨pp, cp, e⟩ := own_any hps
  subst e
  have HOS := hide hos
  have HPS := hide hps
  have HBX := hide hbx
  have HK := hide hK
  have HKX := hide hX
  have HKV := hide hv
  have HKP := hide hp
  have HKO := hide ho
  have HL := hide hl
  have x0 : WS.cell? ⟨X, 0, none⟩ = some (.slice ao os.length ac) := hbx.c 0 (by decide)
  clear hos hps hbx hK hX hv hp ho hl
  refine callsIn_wide.2 ?_
  go_enter Try.func71, Try.ntmps71
  go_wp2_with fail
  clear x0
  go_loopw [8] (fun v8 wr => ∃ pre : List Tld, pre.length ≤ os.length ∧ v8 = .int .i64 (pre.length : Int) ∧ J pre wr ∧ Fix K WS wr) (fun v8 _ => os.length - (intOf v8).toNat)
  case atStart => exact ⟨[], Nat.zero_le _, rfl, h0, Fix.of_below (Below.refl _ _)⟩
  case round =>
    obtain ⟨pre, hj, rfl, hJs, hBw⟩ := hrel
    have HJS := hide hJs
    have HFX := hide hBw
    clear hJs hBw
    obtain ⟨j, hjj⟩ : ∃ j, j = pre.length := ⟨_, rfl⟩
    rw [← hjj] at hj ⊢
    have HJJ := hide hjj
    clear hjj
    have hj0 : (0 : Int) ≤ (j : Int) := by omega
    have hj9 : (j : Int) < 10000000 := by have := HL.out; omega
    by_cases hlt : j < os.length
    · have hltI : (j : Int) < (os.length : Int) := by omega
      have HSZ := hide HFX.out.1
      obtain ⟨ba, oa, pv, cv, e1, ea, hba, ra, ia⟩ := HOS.out.at_j hlt
      subst e1
      obtain ⟨gp, e2, hgp, cgp⟩ := place_at HPS.out hlt
      subst e2
      obtain ⟨o, hO⟩ : ∃ o, o = os.getD j (zeroO 0) := ⟨_, rfl⟩
      obtain ⟨pl, hpl⟩ : ∃ o, o = ps.getD j 0 := ⟨_, rfl⟩
      rw [← hO] at ea ra ia
      rw [← hpl] at cgp
      have HOO := hide hO
      have HPL := hide hpl
      have kba := HKV.out ba rfl
      have kgp := HKP.out gp rfl
      have RA := hide (show wr.rangeAt ba (oa + j * 18) (ordCells o (.slice pv o.offs.length cv)) from fun q u hu => (HFX.out.cell (p := ⟨ba, oa + j * 18 + q, none⟩) kba hba).trans (ra WS (Below.refl _ _) q u hu))
      have IA := hide (show OffsIn wr (.slice pv o.offs.length cv) o.offs from ia.stays (fun h0 b hb => HFX.out.same b (HKO.out j b hlt (by rw [ea]; exact hb)) (ia.blk h0 b hb)))
      have hxz := HBX.out.lt
      have c1 : wr.cell? ⟨X, 1, none⟩ = some (.slice (some ⟨gp, 0, none⟩) os.length cp) := (HFX.out.cell (p := ⟨X, 1, none⟩) HKX.out hxz).trans (HBX.out.c 1 (by decide))
      have cg : wr.cell? ⟨gp, j, none⟩ = some (.int .i64 (pl : Int)) := (HFX.out.cell (p := ⟨gp, j, none⟩) kgp hgp).trans cgp
      have C1 := hide (And.intro c1 (And.intro cg (And.intro (Nat.lt_of_lt_of_le hxz HSZ.out) (Nat.lt_of_lt_of_le hgp HSZ.out))))
      clear hO hpl kba kgp ra ia hba hgp cgp ea hxz c1 cg
      go_upto_region 3 with (first
        | (refine wpList_load_mid rfl 29 _ rfl ba (oa + j * 18) rfl (ordCells o (.slice pv o.offs.length cv)) _ ?_ Try.underlying29 rfl ?_ ?_; exact RA.out; (rw [ordCells_len]; kernel_rfl))
        | (refine wpList_store_mid rfl 29 _ _ rfl wr.heap.size 0 (ordCells o (.slice pv o.offs.length cv)).toArray rfl ?_ ?_ ?_ ?_ ?_; exact rfl; exact alloc_there wr o (.slice pv o.offs.length cv); kernel_rfl; kernel_rfl))
      obtain ⟨Y, hYY⟩ : ∃ X, X = wr.heap.size := ⟨_, rfl⟩
      obtain ⟨W4, hW4⟩ : ∃ W4, W4 = (wr.alloc (.cells #[Value.int .i64 0, .string ⟨#[]⟩, .int .i64 0, .int .i64 0, .int .i64 0, .int .i64 0, .int .i64 0, .int .i64 0, .int .i64 0, .int .i64 0, .int .i64 0, .int .i64 0, .int .i64 0, .int .i64 0, .int .i64 0, .int .i64 0, .slice none 0 0, .int .i64 0] 29)).setCells wr.heap.size 0 (ordCells o (.slice pv o.offs.length cv)) := ⟨_, rfl⟩
      have hb4 : Below wr.heap.size wr W4 := by rw [hW4]; exact below_sets (Nat.le_refl _) _ _ _ ((Below.refl _ _).alloc (Nat.le_refl _) _)
      have hby : BoxO W4 Y o (.slice pv o.offs.length cv) := by rw [hW4, hYY]; exact (box_made wr (zeroO 0) _).set _ _
      rw [show (wr.alloc (.cells #[Value.int .i64 0, .string ⟨#[]⟩, .int .i64 0, .int .i64 0, .int .i64 0, .int .i64 0, .int .i64 0, .int .i64 0, .int .i64 0, .int .i64 0, .int .i64 0, .int .i64 0, .int .i64 0, .int .i64 0, .int .i64 0, .int .i64 0, .slice none 0 0, .int .i64 0] 29)).setCells wr.heap.size 0 (ordCells o (.slice pv o.offs.length cv)).toArray.toList = W4 from hW4.symm, ← hYY]
      have HB4 := hide hb4
      have SK := hide (fun (wq : World) (h : Below W4.heap.size W4 wq) => (show wq.rangeAt Y 0 (ordCells o (.slice pv o.offs.length cv)) ∧ wq.cell? ⟨X, 1, none⟩ = some (.slice (some ⟨gp, 0, none⟩) os.length cp) ∧ wq.cell? ⟨gp, j, none⟩ = some (.int .i64 (pl : Int)) from ⟨(hby.below h).range, cell_stay (cell_stay C1.out.1 (hb4.block _ C1.out.2.2.1)) (h.block _ (Nat.lt_of_lt_of_le C1.out.2.2.1 hb4.size)), cell_stay (cell_stay C1.out.2.1 (hb4.block _ C1.out.2.2.2)) (h.block _ (Nat.lt_of_lt_of_le C1.out.2.2.2 hb4.size))⟩))
      have C72 := hide (fun (wq : World) (h : Below W4.heap.size W4 wq) => (show Calls Try.prog 72 #[.agg (ordCells o (.slice pv o.offs.length cv)).toArray] wq (fun e w' => ∃ v', e = .returned (.agg (ordCells o v').toArray) ∧ w'.ownsRow wq.heap.size 93 2 v' o.offs.length (flatF o.offs) ∧ Below wq.heap.size wq w') from owned_c o (.slice pv o.offs.length cv) wq ((IA.out.below hb4).below h)))
      clear hW4 hYY hb4 hby RA
      refine (wpIn_wide (n := n)).1 ?_
      refine wpIn_regionX (fun wq => wq.rangeAt Y 0 (ordCells o (.slice pv o.offs.length cv)) ∧ wq.cell? ⟨X, 1, none⟩ = some (.slice (some ⟨gp, 0, none⟩) os.length cp) ∧ wq.cell? ⟨gp, j, none⟩ = some (.int .i64 (pl : Int))) (fun n => n != 8 && n != 9) (by kernel_rfl) (SK.out _ (drewB _)) (fun hH0 => ?_)
      have B0 := hide (drewB W4)
      obtain ⟨wd, hwd⟩ : ∃ q, q = W4.drew := ⟨_, rfl⟩
      rw [← hwd] at B0 hH0
      rw [← hwd]
      clear hwd
      refine wpAnyXI_take (by kernel_rfl) (i := 0) (oi := ?oi0) (v := ?v0) ?ho0 (by kernel_rfl) (by kernel_rfl) (by kernel_rfl) (by kernel_rfl) (by kernel_rfl) ?hp0 ?hy0 ?ha0 hH0 ?hr0
      case ho0 => (simp only [List.getElem?_toArray, List.getElem?_cons_succ, List.getElem?_cons_zero]; exact rfl)
      case hp0 => exact fun _ _ _ h => h
      case ha0 => exact fun _ => rfl
      case hy0 => (refine Or.inl ⟨by rfl, ?_⟩; intro w hSw; (try dsimp only at hSw); (try go_split_ands); go_simp; (try (with_reducible rfl)))
      case hr0 =>
      (try simp only [Act.put, List.setIfInBounds_toArray, List.set_cons_zero, List.set_cons_succ])
      refine wpAnyXI_take (by kernel_rfl) (i := 1) (oi := ?oi1) (v := ?v1) ?ho1 (by kernel_rfl) (by kernel_rfl) (by kernel_rfl) (by kernel_rfl) (by kernel_rfl) ?hp1 ?hy1 ?ha1 hH0 ?hr1
      case ho1 => (simp only [List.getElem?_toArray, List.getElem?_cons_succ, List.getElem?_cons_zero]; exact rfl)
      case hp1 => exact fun _ _ _ h => h
      case ha1 => exact fun _ => rfl
      case hy1 => (refine Or.inl ⟨by rfl, ?_⟩; intro w hSw; (try dsimp only at hSw); (try go_split_ands); go_simp; (try (with_reducible rfl)))
      case hr1 =>
      (try simp only [Act.put, List.setIfInBounds_toArray, List.set_cons_zero, List.set_cons_succ])
      refine wpAnyXI_take (by kernel_rfl) (i := 3) (oi := ?oi3) (v := ?v3) ?ho3 (by kernel_rfl) (by kernel_rfl) (by kernel_rfl) (by kernel_rfl) (by kernel_rfl) ?hp3 ?hy3 ?ha3 hH0 ?hr3
      case ho3 => (simp only [List.getElem?_toArray, List.getElem?_cons_succ, List.getElem?_cons_zero]; exact rfl)
      case hp3 => exact fun _ _ _ h => h
      case ha3 => exact fun _ => rfl
      case hy3 => (refine Or.inl ⟨by rfl, ?_⟩; intro w hSw; (try dsimp only at hSw); (try go_split_ands); go_simp; (try (with_reducible rfl)))
      case hr3 =>
      (try simp only [Act.put, List.setIfInBounds_toArray, List.set_cons_zero, List.set_cons_succ])
      refine wpAnyXI_take (by kernel_rfl) (i := 2) (oi := ?oi2) (v := ?v2) ?ho2 (by kernel_rfl) (by kernel_rfl) (by kernel_rfl) (by kernel_rfl) (by kernel_rfl) ?hp2 ?hy2 ?ha2 hH0 ?hr2
      case ho2 => (simp only [List.getElem?_toArray, List.getElem?_cons_succ, List.getElem?_cons_zero]; exact rfl)
      case hp2 => exact fun _ _ _ h => h
      case ha2 => exact fun _ => rfl
      case hy2 => (refine Or.inl ⟨by rfl, ?_⟩; intro w hSw; (try dsimp only at hSw); (try go_split_ands); go_simp; (try (with_reducible rfl)))
      case hr2 =>
      (try simp only [Act.put, List.setIfInBounds_toArray, List.set_cons_zero, List.set_cons_succ])
      refine wpAnyXI_take (by kernel_rfl) (i := 4) (oi := ?oi4) (v := ?v4) ?ho4 (by kernel_rfl) (by kernel_rfl) (by kernel_rfl) (by kernel_rfl) (by kernel_rfl) ?hp4 ?hy4 ?ha4 hH0 ?hr4
      case ho4 => (simp only [List.getElem?_toArray, List.getElem?_cons_succ, List.getElem?_cons_zero]; exact rfl)
      case hp4 => exact fun _ _ _ h => h
      case ha4 => exact fun _ => rfl
      case hy4 => (refine Or.inl ⟨by rfl, ?_⟩; intro w hSw; (try dsimp only at hSw); (try go_split_ands); go_simp; (try (with_reducible rfl)))
      case hr4 =>
      (try simp only [Act.put, List.setIfInBounds_toArray, List.set_cons_zero, List.set_cons_succ])
      refine wpAnyXI_take (by kernel_rfl) (i := 5) (oi := ?oi5) (v := ?v5) ?ho5 (by kernel_rfl) (by kernel_rfl) (by kernel_rfl) (by kernel_rfl) (by kernel_rfl) ?hp5 ?hy5 ?ha5 hH0 ?hr5
      case ho5 => (simp only [List.getElem?_toArray, List.getElem?_cons_succ, List.getElem?_cons_zero]; exact rfl)
      case hp5 => exact fun _ _ _ h => h
      case ha5 => exact fun _ => rfl
      case hy5 => (refine Or.inl ⟨by rfl, ?_⟩; intro w hSw; (try dsimp only at hSw); (try go_split_ands); go_simp; (try (with_reducible rfl)))
      case hr5 =>
      (try simp only [Act.put, List.setIfInBounds_toArray, List.set_cons_zero, List.set_cons_succ])
      refine wpAnyXI_take (by kernel_rfl) (i := 6) (oi := ?oi6) (v := ?v6) ?ho6 (by kernel_rfl) (by kernel_rfl) (by kernel_rfl) (by kernel_rfl) (by kernel_rfl) ?hp6 ?hy6 ?ha6 hH0 ?hr6
      case ho6 => (simp only [List.getElem?_toArray, List.getElem?_cons_succ, List.getElem?_cons_zero]; exact rfl)
      case hp6 => exact fun _ _ _ h => h
      case ha6 => exact fun _ => rfl
      case hy6 =>
        refine yieldsIf_load_mid ?_ 29 (.tmp 4) ?_ Y 0 ?_ (ordCells o (.slice pv o.offs.length cv)) _ ?_ Try.underlying29 ?_ ?_
        · rfl
        · exact rfl
        · exact rfl
        · exact (fun _ h => h.1)
        · rfl
        · rw [ordCells_len]; kernel_rfl
      case hr6 =>
      (try simp only [Act.put, List.setIfInBounds_toArray, List.set_cons_zero, List.set_cons_succ])
      refine wpAnyXI_pick (rs := [7]) (by kernel_rfl) (by simp) (AllXI.cons (o := ?oi7r) ?ho7r (fun K hK => ?hr7r) (AllXI.nil))
      case ho7r => (simp only [List.getElem?_toArray, List.getElem?_cons_succ, List.getElem?_cons_zero]; exact rfl)
      case hr7r =>
        go_simp
        refine ⟨trivial, ?_⟩
        refine (callsIn_wide.2 (C72.out _ B0.out)).mono ?_
        rintro e V1 ⟨v1, rfl, own1, hb1⟩
        obtain ⟨p1, c1, e1⟩ := own_any own1
        subst e1
        have B1 := hide (bstep B0.out hb1)
        have OWN1 := hide own1
        clear hb1 own1
        refine hK.out _ _ (fun _ => SK.out _ B1.out) ?_
        clear hK K
        (try simp only [Act.put, List.setIfInBounds_toArray, List.set_cons_zero, List.set_cons_succ])
        refine wpAnyXI_pick (rs := [8]) (by kernel_rfl) (by simp) (AllXI.cons (o := ?oi8s) ?ho8s (fun K hK => ?hr8s) (AllXI.nil))
        case ho8s => (simp only [List.getElem?_toArray, List.getElem?_cons_succ, List.getElem?_cons_zero]; exact rfl)
        case hr8s =>
          obtain ⟨fn, tmps, assign, body, hy, hR⟩ := hY pre (pl, o, .slice p1 o.offs.length c1) V1 (hJ _ _ _ HJS.out ((HB4.out.trans (B1.out.mono HB4.out.size)).mono HSZ.out)) ⟨HJJ.out ▸ hlt, by rw [← HJJ.out]; exact HPL.out, by rw [← HJJ.out]; exact HOO.out, own_lower OWN1.out (by have := B0.out.size; have := HB4.out.size; have := HSZ.out; omega)⟩
          (try simp only [encO] at hy)
          (try dsimp only at hy)
          go_simp
          refine hR.mono ?_
          have HF1 := hide (HFX.out.trans (Fix.of_below ((HB4.out.trans (B1.out.mono HB4.out.size)))))
          clear hR hy
          rintro e W3 (⟨rfl, hJ3, hk3⟩ | ⟨rfl, hJx3⟩)
          · have HJ3 := hide hJ3
            have HB3 := hide (HF1.out.trans hk3)
            clear hJ3 hk3
            refine hK.out _ _ (fun e => absurd e (by decide)) ?_
            clear hK K
            (try simp only [Act.put, List.setIfInBounds_toArray, List.set_cons_zero, List.set_cons_succ])
            refine wpAnyXI_pick (rs := [9]) (by kernel_rfl) (by simp) (AllXI.cons (o := ?oi9u) ?ho9u (fun K hK => ?hr9u) (AllXI.nil))
            case ho9u => (simp only [List.getElem?_toArray, List.getElem?_cons_succ, List.getElem?_cons_zero]; exact rfl)
            case hr9u =>
              go_simp
              refine hK.out _ _ (fun e => absurd e (by decide)) ?_
              clear hK K
              (try simp only [Act.put, List.setIfInBounds_toArray, List.set_cons_zero, List.set_cons_succ])
              refine wpAnyXI_done (by kernel_rfl) ?_ _
              go_wp2_with fail
              go_roundw
              case rel => exact ⟨pre ++ [(pl, o, .slice p1 o.offs.length c1)], by rw [List.length_append, ← HJJ.out]; simp; omega, by (rw [List.length_append, ← HJJ.out]; (try go_num)), HJ3.out, HB3.out⟩
              case measure => (first | (simp [intOf]; done) | (simp [intOf]; omega))
          · have HJx3 := hide hJx3
            clear hJx3
            refine hK.out _ _ (fun e => absurd e (by decide)) ?_
            clear hK K
            (try simp only [Act.put, List.setIfInBounds_toArray, List.set_cons_zero, List.set_cons_succ])
            refine wpAnyXI_pick (rs := [9]) (by kernel_rfl) (by simp) (AllXI.cons (o := ?oi9v) ?ho9v (fun K hK => ?hr9v) (AllXI.nil))
            case ho9v => (simp only [List.getElem?_toArray, List.getElem?_cons_succ, List.getElem?_cons_zero]; exact rfl)
            case hr9v =>
              go_simp
              refine hK.out _ _ (fun e => absurd e (by decide)) ?_
              clear hK K
              (try simp only [Act.put, List.setIfInBounds_toArray, List.set_cons_zero, List.set_cons_succ])
              refine wpAnyXI_done (by kernel_rfl) ?_ _
              go_wp2_with fail
              refine bodyPost_ret (results_none rfl _ _ _) rfl ?_
              exact ⟨⟨_, rfl⟩, .inr ⟨pre ++ [(pl, o, .slice p1 o.offs.length c1)], by (rw [List.length_append, ← HJJ.out]; (first | omega | (simp; omega))), HJx3.out⟩⟩
    · obtain rfl : os.length = j := by omega
      go_wp2_with fail
      go_end0
      exact ⟨⟨_, rfl⟩, .inl ⟨pre, HJJ.out.symm, HJS.out⟩⟩
end Go.Proofs.Ytalnipjaekpbhaa
