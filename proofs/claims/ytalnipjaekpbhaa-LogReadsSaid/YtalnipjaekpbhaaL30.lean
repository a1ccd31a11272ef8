import Derived.Test.YtalnipjaekpbhaaL29
import Derived.BigQuiet
import Derived.Deep.CutBlock
import Derived.ChangeKeysEq
namespace Go.Proofs.Ytalnipjaekpbhaa
open Go.ChangeShapes Go.WideShapes Go.ChangeAt Go.RowKit Go.Deep
set_option linter.unusedSimpArgs false
set_option linter.unusedVariables false

theorem arr_neq (a0 a1 a2 a3 b0 b1 b2 b3 : Int) (w : World) : Sem.run Try.prog (binOp .neq 169 (.agg #[.int .u8 a0, .int .u8 a1, .int .u8 a2, .int .u8 a3]) (.agg #[.int .u8 b0, .int .u8 b1, .int .u8 b2, .int .u8 b3])) w = .ok (.bool (!((a0 == b0) && ((a1 == b1) && ((a2 == b2) && (a3 == b3)))))) w := by
  obtain ⟨i5, hi5, -, -, -⟩ := info_parts info5
  rw [run_neq_struct, run_equalIn_array w 9999 _ _ (show Try.prog.underlying 169 = some (.array 4 5) by kernel_rfl) hi5]
  have hc : Try.prog.cellsOf 5 = 1 := by kernel_rfl
  rw [hc]
  have pa : ∀ j, j < 4 → ∃ v, True := fun _ _ => ⟨0, trivial⟩
  have ea : ∀ x y : Int, (Op.equalIn 9999 5 (.int .u8 x) (.int .u8 y)).run Try.prog w = .ok (x == y) w := fun x y => run_equalIn_int w 9998 5 .u8 .u8 _ _ (by kernel_rfl)
  have pa0 : (part 5 #[.int .u8 a0, .int .u8 a1, .int .u8 a2, .int .u8 a3] 0).run Try.prog w = .ok (.int .u8 a0) w := by kernel_rfl
  have pa1 : (part 5 #[.int .u8 a0, .int .u8 a1, .int .u8 a2, .int .u8 a3] 1).run Try.prog w = .ok (.int .u8 a1) w := by kernel_rfl
  have pa2 : (part 5 #[.int .u8 a0, .int .u8 a1, .int .u8 a2, .int .u8 a3] 2).run Try.prog w = .ok (.int .u8 a2) w := by kernel_rfl
  have pa3 : (part 5 #[.int .u8 a0, .int .u8 a1, .int .u8 a2, .int .u8 a3] 3).run Try.prog w = .ok (.int .u8 a3) w := by kernel_rfl
  have pb0 : (part 5 #[.int .u8 b0, .int .u8 b1, .int .u8 b2, .int .u8 b3] 0).run Try.prog w = .ok (.int .u8 b0) w := by kernel_rfl
  have pb1 : (part 5 #[.int .u8 b0, .int .u8 b1, .int .u8 b2, .int .u8 b3] 1).run Try.prog w = .ok (.int .u8 b1) w := by kernel_rfl
  have pb2 : (part 5 #[.int .u8 b0, .int .u8 b1, .int .u8 b2, .int .u8 b3] 2).run Try.prog w = .ok (.int .u8 b2) w := by kernel_rfl
  have pb3 : (part 5 #[.int .u8 b0, .int .u8 b1, .int .u8 b2, .int .u8 b3] 3).run Try.prog w = .ok (.int .u8 b3) w := by kernel_rfl
  show ((Op.eqItems 9999 5 1 #[.int .u8 a0, .int .u8 a1, .int .u8 a2, .int .u8 a3] #[.int .u8 b0, .int .u8 b1, .int .u8 b2, .int .u8 b3] [0, 1, 2, 3]).run Try.prog w).andThen _ = _
  simp only [Op.eqItems, Sem.run_bind, Nat.mul_one, pa0, pa1, pa2, pa3, pb0, pb1, pb2, pb3, Result.andThen_ok, ea]
  cases h0 : (a0 == b0) <;> cases h1 : (a1 == b1) <;> cases h2 : (a2 == b2) <;> cases h3 : (a3 == b3) <;> simp only [Sem.run_bind, Nat.mul_one, pa0, pa1, pa2, pa3, pb0, pb1, pb2, pb3, Result.andThen_ok, ea, h0, h1, h2, h3, Bool.true_eq_false, Bool.false_eq_true, if_true, if_false, Bool.and_true, Bool.and_false, Bool.true_and, Bool.false_and, Bool.not_true, Bool.not_false, Sem.run_pure, Bool.and_self]
set_option maxRecDepth 100000 in
set_option maxHeartbeats 1500000 in
theorem One_c (ao : Option Addr) (cap : Nat) (ns : List Nat) (w : World) (hb : Row8 w ao cap ns) : Calls Try.prog 69 #[.slice ao ns.length cap] w fun e w' => ∃ v', e = .returned (.tuple #[ordV (oneT ns).1 v', .int .i64 ((oneT ns).2.1 : Int), .int .i64 (oneT ns).2.2]) ∧ w'.ownsRow w.heap.size 93 2 v' (oneT ns).1.offs.length (flatF (oneT ns).1.offs) ∧ Below w.heap.size w w' := by
  obtain ⟨W, hW⟩ : ∃ W, W = w.alloc (.cells #[Value.int .i64 0, .string ⟨#[]⟩, .int .i64 0, .int .i64 0, .int .i64 0, .int .i64 0, .int .i64 0, .int .i64 0, .int .i64 0, .int .i64 0, .int .i64 0, .int .i64 0, .int .i64 0, .int .i64 0, .int .i64 0, .int .i64 0, .slice none 0 0, .int .i64 0] 29) := ⟨_, rfl⟩
  have hb0 : Below w.heap.size w W := by rw [hW]; exact (Below.refl _ _).alloc (Nat.le_refl _) _
  have th : W.there w.heap.size 0 18 := by rw [hW]; exact (box_made w (zeroO 0) (.slice none 0 0)).there
  have HW := hide hW
  have HBF := hide hb0
  have TH := hide th
  have hlen := hb.len
  by_cases h2 : ns.length < 2
  · have EQ := hide (show oneT ns = (zeroO 0, 0, 330) by unfold oneT; rw [if_pos h2])
    have d : decide ((ns.length : Int) < 2) = true := decide_eq_true (by omega)
    clear hW hb0 th hb h2
    go_enter Try.func69, Try.ntmps69
    go_upto_region 1 with fail
    rw [← HW.out]
    go_upto_region 2 with fail
    go_wp2_with (refine wpList_store_mid rfl 29 _ _ rfl w.heap.size 0 #[Value.int .i64 0, .string ⟨#[]⟩, .int .i64 0, .int .i64 0, .int .i64 0, .int .i64 0, .int .i64 0, .int .i64 0, .int .i64 0, .int .i64 0, .int .i64 0, .int .i64 0, .int .i64 0, .int .i64 0, .int .i64 0, .int .i64 0, .slice none 0 0, .int .i64 0] rfl rfl TH.out (by kernel_rfl) (by kernel_rfl) ?_)
    have hl := run_loadVar_mid (P := Try.prog) (W.setCells w.heap.size 0 [Value.int .i64 0, .string ⟨#[]⟩, .int .i64 0, .int .i64 0, .int .i64 0, .int .i64 0, .int .i64 0, .int .i64 0, .int .i64 0, .int .i64 0, .int .i64 0, .int .i64 0, .int .i64 0, .int .i64 0, .int .i64 0, .int .i64 0, .slice none 0 0, .int .i64 0]) w.heap.size 0 29 [Value.int .i64 0, .string ⟨#[]⟩, .int .i64 0, .int .i64 0, .int .i64 0, .int .i64 0, .int .i64 0, .int .i64 0, .int .i64 0, .int .i64 0, .int .i64 0, .int .i64 0, .int .i64 0, .int .i64 0, .int .i64 0, .int .i64 0, .slice none 0 0, .int .i64 0] _ (World.rangeAt_setCells_same _ _ _ _ TH.out) Try.underlying29 rfl (by kernel_rfl)
    refine bodyPost_ret (v := .tuple #[.agg #[Value.int .i64 0, .string ⟨#[]⟩, .int .i64 0, .int .i64 0, .int .i64 0, .int .i64 0, .int .i64 0, .int .i64 0, .int .i64 0, .int .i64 0, .int .i64 0, .int .i64 0, .int .i64 0, .int .i64 0, .int .i64 0, .int .i64 0, .slice none 0 0, .int .i64 0], .int .i64 0, .int .i64 330]) (results_ctt rfl rfl hl rfl rfl) rfl ?_
    rw [EQ.out]
    exact ⟨.slice none 0 0, rfl, ⟨rfl, .inl ⟨rfl, rfl⟩⟩, below_sets (Nat.le_refl _) _ _ _ HBF.out⟩
  · obtain ⟨b, off, hao, hbl, hc⟩ := hb.bytes (fun e => h2 (by rw [e]; decide))
    subst hao
    have HR8 := hide (hb.below hb0 (fun ad e _ => by cases e; exact hbl))
    have d : decide ((ns.length : Int) < 2) = false := decide_eq_false (by omega)
    have g0 : W.cell? ⟨b, off, none⟩ = some (.int .u8 (ns.getD 0 0 : Int)) := cell_stay (hc 0 (by omega)) (hb0.block b hbl)
    have g1 : W.cell? ⟨b, off + 1, none⟩ = some (.int .u8 (ns.getD 1 0 : Int)) := cell_stay (hc 1 (by omega)) (hb0.block b hbl)
    have hx0 := getD_lt' hb.small 0
    have hx1 := getD_lt' hb.small 1
    obtain ⟨n, hn⟩ : ∃ n, n = lenF ns := ⟨_, rfl⟩
    have hn2 : n = 2 + ns.getD 0 0 * 256 + ns.getD 1 0 := hn
    obtain ⟨x0, hx⟩ : ∃ x, x = ns.getD 0 0 := ⟨_, rfl⟩
    obtain ⟨x1, hy⟩ : ∃ x, x = ns.getD 1 0 := ⟨_, rfl⟩
    rw [← hx] at g0 hx0 hn2
    rw [← hy] at g1 hx1 hn2
    have HN := hide hn
    have H2 := hide h2
    have i0 : (0 : Int) < (ns.length : Int) := by omega
    have i1 : (1 : Int) < (ns.length : Int) := by omega
    have j0 : 0 < ns.length := by omega
    have j1 : 1 < ns.length := by omega
    have hnI : (2 : Int) + (x0 : Int) * 256 + (x1 : Int) = (n : Int) := by omega
    have w0 : IntKind.i64.wrap (x0 : Int) = (x0 : Int) := by rw [IntKind.wrap_i64]; omega
    have w1 : IntKind.i64.wrap (x1 : Int) = (x1 : Int) := by rw [IntKind.wrap_i64]; omega
    have w2 : IntKind.i64.wrap ((x0 : Int) * 256) = (x0 : Int) * 256 := by rw [IntKind.wrap_i64]; omega
    have w3 : IntKind.i64.wrap (2 + (x0 : Int) * 256) = 2 + (x0 : Int) * 256 := by rw [IntKind.wrap_i64]; omega
    have w4 : IntKind.i64.wrap (2 + (x0 : Int) * 256 + (x1 : Int)) = (n : Int) := by rw [IntKind.wrap_i64]; omega
    have HBL := hide hbl
    have HNI := hide hnI
    have hnb : n ≤ 65537 := by omega
    have hn2' : 2 ≤ n := by omega
    clear hW hb0 th hb hc hn hx hy h2 hbl hnI hn2
    go_enter Try.func69, Try.ntmps69
    go_upto_region 1 with fail
    rw [← HW.out]
    go_upto_region 3 with fail
    go_cut [5] from 13 to 23 (fun v5 wx => v5 = .int .i64 (n : Int) ∧ ∃ m, wx = W.drewN m)
    case first =>
      go_quiet (fail)
      go_wp2_with fail
      go_meet
      exact ⟨rfl, _, rfl⟩
    case rest =>
      obtain ⟨rfl, m, hwc⟩ := hcut
      have hbc : Below W.heap.size W wc := by rw [hwc]; exact bdrewN (Below.refl _ _) m
      have HRC := hide (HR8.out.below hbc (fun ad e _ => by cases e; exact Nat.lt_of_lt_of_le HBL.out HBF.out.size))
      have HB0 := hide HBF.out
      have HBF := hide (bstep HB0.out hbc)
      have TC := hide (there_stays TH.out (hbc.block _ (there_lt TH.out (by decide))))
      clear hwc hbc g0 g1 w0 w1 w2 w3 w4 TH HR8
      by_cases h4 : ns.length < n + 4
      · have EQ := hide (show oneT ns = (zeroO 0, 0, 330) by unfold oneT; rw [if_neg H2.out, ← HN.out, if_pos h4])
        have d4 : decide ((ns.length : Int) < (n : Int) + 4) = true := decide_eq_true (by omega)
        clear h4
        go_upto_region 5 with fail
        go_wp2_with (refine wpList_store_mid rfl 29 _ _ rfl w.heap.size 0 #[Value.int .i64 0, .string ⟨#[]⟩, .int .i64 0, .int .i64 0, .int .i64 0, .int .i64 0, .int .i64 0, .int .i64 0, .int .i64 0, .int .i64 0, .int .i64 0, .int .i64 0, .int .i64 0, .int .i64 0, .int .i64 0, .int .i64 0, .slice none 0 0, .int .i64 0] rfl rfl TC.out (by kernel_rfl) (by kernel_rfl) ?_)
        have hl := run_loadVar_mid (P := Try.prog) (wc.setCells w.heap.size 0 [Value.int .i64 0, .string ⟨#[]⟩, .int .i64 0, .int .i64 0, .int .i64 0, .int .i64 0, .int .i64 0, .int .i64 0, .int .i64 0, .int .i64 0, .int .i64 0, .int .i64 0, .int .i64 0, .int .i64 0, .int .i64 0, .int .i64 0, .slice none 0 0, .int .i64 0]) w.heap.size 0 29 [Value.int .i64 0, .string ⟨#[]⟩, .int .i64 0, .int .i64 0, .int .i64 0, .int .i64 0, .int .i64 0, .int .i64 0, .int .i64 0, .int .i64 0, .int .i64 0, .int .i64 0, .int .i64 0, .int .i64 0, .int .i64 0, .int .i64 0, .slice none 0 0, .int .i64 0] _ (World.rangeAt_setCells_same _ _ _ _ TC.out) Try.underlying29 rfl (by kernel_rfl)
        refine bodyPost_ret (v := .tuple #[.agg #[Value.int .i64 0, .string ⟨#[]⟩, .int .i64 0, .int .i64 0, .int .i64 0, .int .i64 0, .int .i64 0, .int .i64 0, .int .i64 0, .int .i64 0, .int .i64 0, .int .i64 0, .int .i64 0, .int .i64 0, .int .i64 0, .int .i64 0, .slice none 0 0, .int .i64 0], .int .i64 0, .int .i64 330]) (results_ctt rfl rfl hl rfl rfl) rfl ?_
        rw [EQ.out]
        exact ⟨.slice none 0 0, rfl, ⟨rfl, .inl ⟨rfl, rfl⟩⟩, below_sets (Nat.le_refl _) _ _ _ HBF.out⟩
      · have d4 : decide ((ns.length : Int) < (n : Int) + 4) = false := decide_eq_false (by omega)
        have hcap := HRC.out.cap_le
        have hle : n + 4 ≤ ns.length := by omega
        obtain ⟨s, hs⟩ : ∃ s, s = crc (part8 ns 0 n) := ⟨_, rfl⟩
        obtain ⟨WS, hWS⟩ : ∃ q, q = wc.alloc (.cells #[.slice (some ⟨b, off, none⟩) n cap] 30) := ⟨_, rfl⟩
        have hbs : Below wc.heap.size wc WS := by rw [hWS]; exact (Below.refl _ _).alloc (Nat.le_refl _) _
        have hwb : b < wc.heap.size := by obtain ⟨b2, off2, e2, hb2, hcc⟩ := HRC.out.bytes (fun e => H2.out (by rw [e]; decide)); cases e2; exact hb2
        have HRS := hide (HRC.out.below hbs (fun ad e _ => by cases e; exact hwb))
        have hS := Sum_c wc.heap.size 1 (fun _ => .slice (some ⟨b, off, none⟩) n cap) [part8 ns 0 n] WS (fun i hi => by
          obtain rfl : i = 0 := by simpa using hi
          refine ⟨by rw [hWS]; simp [go_sem], ?_⟩
          have q := (HRS.out.part (Nat.zero_le n) (by omega)).byteIn
          rwa [part8_len (Nat.zero_le n) (by omega), Nat.add_zero, Nat.sub_zero, Nat.sub_zero] at q) (by simp)
        have C19 : Calls Try.prog 18 #[.slice (some ⟨wc.heap.size, 0, none⟩) 1 1] WS fun e w' => e = .returned (.int .u32 (crc (part8 ns 0 n) : Int)) ∧ w' = WS := by
          have e1 : [part8 ns 0 n].flatten = part8 ns 0 n := by simp
          rw [e1] at hS
          exact hS
        have TS := hide (there_stays TC.out (hbs.block _ (there_lt TC.out (by decide))))
        have HBS := hide (bstep HBF.out hbs)
        have HWS := hide hWS
        clear hwb hS
        rw [← hs] at C19
        have hs32 : s < 4294967296 := by rw [hs]; unfold crc; omega
        have CS := hide C19
        have HS := hide hs
        obtain ⟨b2, off2, e2, hb2, hcc⟩ := HRS.out.bytes (fun e => H2.out (by rw [e]; decide))
        cases e2
        have t0 := hcc n (by omega)
        have t1 := hcc (n + 1) (by omega)
        have t2 := hcc (n + 2) (by omega)
        have t3 := hcc (n + 3) (by omega)
        have HT := hide (part4 hle)
        obtain ⟨y0, hy0⟩ : ∃ y, y = ns.getD n 0 := ⟨_, rfl⟩
        obtain ⟨y1, hy1⟩ : ∃ y, y = ns.getD (n + 1) 0 := ⟨_, rfl⟩
        obtain ⟨y2, hy2⟩ : ∃ y, y = ns.getD (n + 2) 0 := ⟨_, rfl⟩
        obtain ⟨y3, hy3⟩ : ∃ y, y = ns.getD (n + 3) 0 := ⟨_, rfl⟩
        rw [← hy0] at t0 HT
        rw [← hy1] at t1 HT
        rw [← hy2] at t2 HT
        rw [← hy3] at t3 HT
        obtain ⟨bad, hbad⟩ : ∃ q : Bool, q = (!(((y0 : Int) == (s : Int) % 256) && (((y1 : Int) == (s : Int) / 256 % 256) && (((y2 : Int) == (s : Int) / 65536 % 256) && ((y3 : Int) == (s : Int) / 16777216))))) := ⟨_, rfl⟩
        have HEQ := hide (show bad = false ↔ part8 ns n (n + 4) = le4 s by
          rw [hbad, HT.out]
          unfold le4
          simp only [Bool.not_eq_false', Bool.and_eq_true, beq_iff_eq, List.cons.injEq, and_true]
          omega)
        have hne := arr_neq (y0 : Int) (y1 : Int) (y2 : Int) (y3 : Int) ((s : Int) % 256) ((s : Int) / 256 % 256) ((s : Int) / 65536 % 256) ((s : Int) / 16777216)
        rw [← hbad] at hne
        have RG := hide (show WS.rangeAt b (off + n) [.int .u8 (y0 : Int), .int .u8 (y1 : Int), .int .u8 (y2 : Int), .int .u8 (y3 : Int)] from fun j v hv => by
          rcases j with _ | _ | _ | _ | j
          · simp at hv; subst hv; exact t0
          · simp at hv; subst hv; rw [Nat.add_assoc]; exact t1
          · simp at hv; subst hv; rw [Nat.add_assoc]; exact t2
          · simp at hv; subst hv; rw [Nat.add_assoc]; exact t3
          · simp at hv)
        have hc4 : n + 4 ≤ cap := by omega
        have hc4I : (n : Int) + 4 ≤ (cap : Int) := by omega
        clear hs hcc hy0 hy1 hy2 hy3 h4 hbad C19 t0 t1 t2 t3 hbs hWS
        go_upto_region 7 with (first
          | (go_at_call 18; rw [← HWS.out]; (apply Calls.mono; focus (exact CS.out)); rintro e wz ⟨rfl, rfl⟩))
        have HBF := hide HBS.out
        have TC := hide TS.out
        have hat : ∀ w, (Instr.arrayAt 169 (.slice (some ⟨b, off + n, none⟩) 4 (cap - n))).run Try.prog w = .ok (.pointer (some ⟨b, off + n, none⟩)) w := fun w => run_arrayAt w 169 _ 4 _ 4 (cap - n) Try.underlying169 (Nat.le_refl _)
        rcases (show bad = true ∨ bad = false by cases bad <;> simp) with hbd | hbd
        · have EQ := hide (show oneT ns = (zeroO 0, 0, 331) by
            unfold oneT
            rw [if_neg H2.out, ← HN.out, if_neg (by omega), ← HS.out, if_neg (fun e => by rw [HEQ.out.2 e] at hbd; cases hbd)])
          subst hbd
          go_upto_region 8 with ((refine wpList_load_mid rfl 169 _ rfl b (off + n) rfl [.int .u8 (y0 : Int), .int .u8 (y1 : Int), .int .u8 (y2 : Int), .int .u8 (y3 : Int)] _ ?_ Try.underlying169 rfl ?_ ?_; exact RG.out; kernel_rfl))
          go_wp2_with (refine wpList_store_mid rfl 29 _ _ rfl w.heap.size 0 #[Value.int .i64 0, .string ⟨#[]⟩, .int .i64 0, .int .i64 0, .int .i64 0, .int .i64 0, .int .i64 0, .int .i64 0, .int .i64 0, .int .i64 0, .int .i64 0, .int .i64 0, .int .i64 0, .int .i64 0, .int .i64 0, .int .i64 0, .slice none 0 0, .int .i64 0] rfl rfl TC.out (by kernel_rfl) (by kernel_rfl) ?_)
          have hl := run_loadVar_mid (P := Try.prog) (wz.setCells w.heap.size 0 [Value.int .i64 0, .string ⟨#[]⟩, .int .i64 0, .int .i64 0, .int .i64 0, .int .i64 0, .int .i64 0, .int .i64 0, .int .i64 0, .int .i64 0, .int .i64 0, .int .i64 0, .int .i64 0, .int .i64 0, .int .i64 0, .int .i64 0, .slice none 0 0, .int .i64 0]) w.heap.size 0 29 [Value.int .i64 0, .string ⟨#[]⟩, .int .i64 0, .int .i64 0, .int .i64 0, .int .i64 0, .int .i64 0, .int .i64 0, .int .i64 0, .int .i64 0, .int .i64 0, .int .i64 0, .int .i64 0, .int .i64 0, .int .i64 0, .int .i64 0, .slice none 0 0, .int .i64 0] _ (World.rangeAt_setCells_same _ _ _ _ TC.out) Try.underlying29 rfl (by kernel_rfl)
          refine bodyPost_ret (v := .tuple #[.agg #[Value.int .i64 0, .string ⟨#[]⟩, .int .i64 0, .int .i64 0, .int .i64 0, .int .i64 0, .int .i64 0, .int .i64 0, .int .i64 0, .int .i64 0, .int .i64 0, .int .i64 0, .int .i64 0, .int .i64 0, .int .i64 0, .int .i64 0, .slice none 0 0, .int .i64 0], .int .i64 0, .int .i64 331]) (results_ctt rfl rfl hl rfl rfl) rfl ?_
          rw [EQ.out]
          exact ⟨.slice none 0 0, rfl, ⟨rfl, .inl ⟨rfl, rfl⟩⟩, below_sets (Nat.le_refl _) _ _ _ HBF.out⟩
        · obtain ⟨O, hO⟩ : ∃ O, O = rdo (part8 ns 2 n) := ⟨_, rfl⟩
          obtain ⟨er, her⟩ : ∃ O, O = rde (part8 ns 2 n) := ⟨_, rfl⟩
          have EQ := hide (show oneT ns = (O, n + 4, er) by
            unfold oneT
            rw [if_neg H2.out, ← HN.out, if_neg (by omega), ← HS.out, if_pos (HEQ.out.1 hbd), hO, her])
          have CR := read_u (Read_c (some ⟨b, off + 2, none⟩) (cap - 2) (part8 ns 2 n) wz (HRS.out.part (by omega) (by omega)))
          rw [part8_len (by omega) (by omega), ← hO, ← her] at CR
          unfold ordV at CR
          have CX := hide CR
          subst hbd
          clear CR hO her
          go_upto_region 10 with (first
            | (refine wpList_load_mid rfl 169 _ rfl b (off + n) rfl [.int .u8 (y0 : Int), .int .u8 (y1 : Int), .int .u8 (y2 : Int), .int .u8 (y3 : Int)] _ ?_ Try.underlying169 rfl ?_ ?_; exact RG.out; kernel_rfl)
            | (go_at_call 20; (apply Calls.mono; focus (exact CX.out)); rintro e w3 ⟨v3, rfl, o3, hb3⟩; obtain ⟨p3, c3, rfl⟩ := own_any o3; have HB3 := hide hb3; have O3 := hide o3; clear o3 hb3)
            | (refine wpList_store_mid rfl 29 _ _ rfl w3.heap.size 0 (ordCells O (.slice p3 O.offs.length c3)).toArray rfl ?_ ?_ ?_ ?_ ?_; exact rfl; exact alloc_there w3 O (.slice p3 O.offs.length c3); kernel_rfl; kernel_rfl))
          obtain ⟨X, hX⟩ : ∃ X, X = w3.heap.size := ⟨_, rfl⟩
          obtain ⟨W4, hW4⟩ : ∃ W4, W4 = (w3.alloc (.cells #[Value.int .i64 0, .string ⟨#[]⟩, .int .i64 0, .int .i64 0, .int .i64 0, .int .i64 0, .int .i64 0, .int .i64 0, .int .i64 0, .int .i64 0, .int .i64 0, .int .i64 0, .int .i64 0, .int .i64 0, .int .i64 0, .int .i64 0, .slice none 0 0, .int .i64 0] 29)).setCells w3.heap.size 0 (ordCells O (.slice p3 O.offs.length c3)) := ⟨_, rfl⟩
          have hsz : w.heap.size < w3.heap.size := Nat.lt_of_lt_of_le (there_lt TC.out (by decide)) HB3.out.size
          have hb34 : Below w3.heap.size w3 W4 := by rw [hW4]; exact below_sets (Nat.le_refl _) _ _ _ ((Below.refl _ _).alloc (Nat.le_refl _) _)
          have HBX := hide (show BoxO W4 X O (.slice p3 O.offs.length c3) by rw [hW4, hX]; exact (box_made w3 (zeroO 0) _).set _ _)
          have T4 := hide (there_stays (there_stays TC.out (HB3.out.block _ (there_lt TC.out (by decide)))) (hb34.block _ hsz))
          have HB4 := hide (bstep (bstep HBF.out HB3.out) hb34)
          have O4 := hide (own_below O3.out hb34)
          have HO1 := hide (show (ordCells O (.slice p3 O.offs.length c3)).toArray.all (fun x => x.oneCell') = true by kernel_rfl)
          rw [show (w3.alloc (.cells #[Value.int .i64 0, .string ⟨#[]⟩, .int .i64 0, .int .i64 0, .int .i64 0, .int .i64 0, .int .i64 0, .int .i64 0, .int .i64 0, .int .i64 0, .int .i64 0, .int .i64 0, .int .i64 0, .int .i64 0, .int .i64 0, .int .i64 0, .slice none 0 0, .int .i64 0] 29)).setCells w3.heap.size 0 (ordCells O (.slice p3 O.offs.length c3)).toArray.toList = W4 from hW4.symm, ← hX]
          clear hW4 hX hsz hb34
          go_wp2_with (first
            | refine wpList_load_mid rfl 29 _ rfl X 0 rfl (ordCells O (.slice p3 O.offs.length c3)) _ HBX.out.range Try.underlying29 rfl (by rw [ordCells_len]; kernel_rfl) ?_
            | (refine wpList_store_mid rfl 29 _ _ rfl w.heap.size 0 (ordCells O (.slice p3 O.offs.length c3)).toArray rfl ?_ ?_ ?_ ?_ ?_; exact rfl; exact T4.out; kernel_rfl; exact HO1.out))
          have hl := run_loadVar_mid (P := Try.prog) (W4.setCells w.heap.size 0 (ordCells O (.slice p3 O.offs.length c3))) w.heap.size 0 29 (ordCells O (.slice p3 O.offs.length c3)) _ (World.rangeAt_setCells_same _ _ _ _ T4.out) Try.underlying29 rfl (by rw [ordCells_len]; kernel_rfl)
          refine bodyPost_ret (v := .tuple #[ordV O (.slice p3 O.offs.length c3), .int .i64 ((n : Int) + 4), .int .i64 er]) (results_ctt rfl rfl hl rfl rfl) rfl ?_
          rw [EQ.out]
          exact ⟨_, rfl, own_lower (own_same O4.out (fun q hq _ => heap_sets_ne (by have := (O4.out.lt q hq).1; have := there_lt TC.out (by decide); omega) _ _ _)) (Nat.le_of_lt (there_lt TC.out (by decide))), below_sets (Nat.le_refl _) _ _ _ HB4.out⟩
end Go.Proofs.Ytalnipjaekpbhaa

