import Derived.Test.YtalnipjaekpbhaaL28
import Derived.BigQuiet
import Derived.Deep.CutBlock
namespace Go.Proofs.Ytalnipjaekpbhaa
open Go.ChangeShapes Go.WideShapes Go.ChangeAt Go.RowKit Go.Deep
set_option linter.unusedSimpArgs false
set_option linter.unusedVariables false

theorem results_ctt {P : Program} {fn : Func} {tmps : Array Value} {s s2 s3 : Nat} {t : TypeId} {ad : Addr} {w : World} {v v2 v3 : Value} (hf : fn.results = #[.cell s t, .tmp s2, .tmp s3]) (ht : tmps.getD s undef = .pointer (some ad)) (hl : (loadVar t ad).run P w = .ok v w) (h2 : tmps.getD s2 undef = v2) (h3 : tmps.getD s3 undef = v3) : (results fn tmps).run P w = .ok (.tuple #[v, v2, v3]) w := by
  subst h2 h3
  unfold results
  rw [hf]
  simp [show tmps[s]?.getD undef = _ from ((Array.getD_eq_getD_getElem? ..).symm.trans ht), Sem.run_bind, hl, asAddr, Result.andThen_ok]
theorem alloc_there (w3 : World) (o : Ord) (ov : Value) : (w3.alloc (.cells #[Value.int .i64 0, .string ⟨#[]⟩, .int .i64 0, .int .i64 0, .int .i64 0, .int .i64 0, .int .i64 0, .int .i64 0, .int .i64 0, .int .i64 0, .int .i64 0, .int .i64 0, .int .i64 0, .int .i64 0, .int .i64 0, .int .i64 0, .slice none 0 0, .int .i64 0] 29)).there w3.heap.size 0 (ordCells o ov).toArray.size := (congrArg (fun n => (w3.alloc (.cells #[Value.int .i64 0, .string ⟨#[]⟩, .int .i64 0, .int .i64 0, .int .i64 0, .int .i64 0, .int .i64 0, .int .i64 0, .int .i64 0, .int .i64 0, .int .i64 0, .int .i64 0, .int .i64 0, .int .i64 0, .int .i64 0, .int .i64 0, .slice none 0 0, .int .i64 0] 29)).there w3.heap.size 0 n) (show (ordCells o ov).toArray.size = 18 by rw [List.size_toArray, ordCells_len])).mpr (box_made w3 (zeroO 0) (.slice none 0 0)).there
/-- what Read tells -/
def rdo (ns : List Nat) : Ord := (readO ns).getD (zeroO 0)
def rde (ns : List Nat) : Int := if (readO ns).isSome then 0 else 332
theorem read_u {F : FuncId} {args : Array Value} {w : World} {ns : List Nat} (h : Calls Try.prog F args w (fun e w' => (readO ns = none ∧ e = .returned (.tuple #[ordV (zeroO 0) (.slice none 0 0), .int .i64 332]) ∧ Below w.heap.size w w') ∨ (∃ o v', readO ns = some o ∧ e = .returned (.tuple #[ordV o v', .int .i64 0]) ∧ w'.ownsRow w.heap.size 93 2 v' o.offs.length (flatF o.offs) ∧ Below w.heap.size w w'))) : Calls Try.prog F args w fun e w' => ∃ v', e = .returned (.tuple #[ordV (rdo ns) v', .int .i64 (rde ns)]) ∧ w'.ownsRow w.heap.size 93 2 v' (rdo ns).offs.length (flatF (rdo ns).offs) ∧ Below w.heap.size w w' := by
  refine h.mono ?_
  rintro e w' (⟨h1, h2, h3⟩ | ⟨o, v', h1, h2, h3, h4⟩)
  · refine ⟨.slice none 0 0, ?_, ?_, h3⟩
    · rw [h2]; unfold rdo rde; rw [h1]; rfl
    · unfold rdo; rw [h1]; exact ⟨rfl, .inl ⟨rfl, rfl⟩⟩
  · refine ⟨v', ?_, ?_, h4⟩
    · rw [h2]; unfold rdo rde; rw [h1]; rfl
    · unfold rdo; rw [h1]; exact h3
/-- a part of bytes -/
def part8 (ns : List Nat) (i j : Nat) : List Nat := (ns.drop i).take (j - i)
theorem part8_len {ns : List Nat} {i j : Nat} (h1 : i ≤ j) (h2 : j ≤ ns.length) : (part8 ns i j).length = j - i := by
  unfold part8; rw [List.length_take, List.length_drop]; omega
theorem part8_at {ns : List Nat} {i j q : Nat} (h1 : i ≤ j) (h2 : j ≤ ns.length) (hq : q < j - i) : (part8 ns i j).getD q 0 = ns.getD (i + q) 0 := by
  unfold part8
  rw [List.getD_eq_getElem?_getD, List.getD_eq_getElem?_getD, List.getElem?_take, if_pos hq, List.getElem?_drop]
theorem part8_mem {ns : List Nat} {i j : Nat} : ∀ x ∈ part8 ns i j, x ∈ ns := fun x hx => List.mem_of_mem_drop (List.mem_of_mem_take hx)
theorem Row8.part {w : World} {b off cap : Nat} {ns : List Nat} (h : Row8 w (some ⟨b, off, none⟩) cap ns) {i j : Nat} (h1 : i ≤ j) (h2 : j ≤ ns.length) : Row8 w (some ⟨b, off + i, none⟩) (cap - i) (part8 ns i j) := by
  have hl := part8_len h1 h2
  refine ⟨fun e => (by cases e), fun hne => ?_, fun x hx => h.small x (part8_mem x hx), by have := h.len; omega, by have := h.cap_le; omega⟩
  obtain ⟨b2, off2, e, hb, hc⟩ := h.bytes (fun e => hne (by unfold part8; rw [e]; simp))
  cases e
  refine ⟨b, off + i, rfl, hb, fun q hq => ?_⟩
  rw [hl] at hq
  rw [part8_at h1 h2 hq, Nat.add_assoc]
  exact hc (i + q) (by omega)
theorem Row8.byteIn {w : World} {ao : Option Addr} {cap : Nat} {ns : List Nat} (h : Row8 w ao cap ns) : ByteIn w (.slice ao ns.length cap) ns := by
  refine ⟨⟨_, _, rfl⟩, fun j hj => ?_, h.small, h.len⟩
  obtain ⟨b, off, rfl, -, q⟩ := h.bytes (fun e => by rw [e] at hj; cases hj)
  exact ⟨b, off, cap, rfl, q j hj⟩
def lenF (ns : List Nat) : Nat := 2 + ns.getD 0 0 * 256 + ns.getD 1 0
/-- the frame with which bytes begin: its order, how many bytes it has, the error -/
def oneT (ns : List Nat) : Ord × Nat × Int :=
  if ns.length < 2 then (zeroO 0, 0, 330)
  else if ns.length < lenF ns + 4 then (zeroO 0, 0, 330)
  else if part8 ns (lenF ns) (lenF ns + 4) = le4 (crc (part8 ns 0 (lenF ns))) then (rdo (part8 ns 2 (lenF ns)), lenF ns + 4, rde (part8 ns 2 (lenF ns)))
  else (zeroO 0, 0, 331)
theorem part4 {ns : List Nat} {n : Nat} (h : n + 4 ≤ ns.length) : part8 ns n (n + 4) = [ns.getD n 0, ns.getD (n + 1) 0, ns.getD (n + 2) 0, ns.getD (n + 3) 0] := by
  have hl := part8_len (i := n) (j := n + 4) (by omega) h
  refine List.ext_getElem (by rw [hl]; simp) (fun i h1 h2 => ?_)
  have hi : i < 4 := by simpa using h2
  have e := part8_at (ns := ns) (i := n) (j := n + 4) (q := i) (by omega) h (by omega)
  rw [List.getD_eq_getElem?_getD, List.getElem?_eq_getElem h1] at e
  simp only [Option.getD_some] at e
  rw [e]
  match i, hi with
  | 0, _ | 1, _ | 2, _ | 3, _ => rfl
set_option maxRecDepth 100000 in
set_option maxHeartbeats 1500000 in
theorem rOne_c (ao : Option Addr) (cap : Nat) (ns : List Nat) (w : World) (hb : Row8 w ao cap ns) : Calls Try.prog 70 #[.slice ao ns.length cap] w fun e w' => ∃ v', e = .returned (.tuple #[ordV (oneT ns).1 v', .int .i64 ((oneT ns).2.1 : Int), .int .i64 (oneT ns).2.2]) ∧ w'.ownsRow w.heap.size 93 2 v' (oneT ns).1.offs.length (flatF (oneT ns).1.offs) ∧ Below w.heap.size w w' := by
  obtain ⟨W, hW⟩ : ∃ W, W = w.alloc (.cells #[Value.int .i64 0, .string ⟨#[]⟩, .int .i64 0, .int .i64 0, .int .i64 0, .int .i64 0, .int .i64 0, .int .i64 0, .int .i64 0, .int .i64 0, .int .i64 0, .int .i64 0, .int .i64 0, .int .i64 0, .int .i64 0, .int .i64 0, .slice none 0 0, .int .i64 0] 29) := ⟨_, rfl⟩
  have hb0 : Below w.heap.size w W := by rw [hW]; exact (Below.refl _ _).alloc (Nat.le_refl _) _
  have th : W.there w.heap.size 0 18 := by rw [hW]; exact (box_made w (zeroO 0) (.slice none 0 0)).there
  have HW := hide hW
  have HBF := hide hb0
  have TH := hide th
  have hlen := hb.len
  by_cases h2 : ns.length < 2
  · have EQ := hide (show oneT ns = (zeroO 0, 0, 330) by unfold oneT; rw [if_pos h2])
    have d : decide ((ns.length : Int) < 2) = true := decide_eq_true (by omega)
    clear hW hb0 th hb h2
    go_enter Try.func70, Try.ntmps70
    go_upto_region 1 with fail
    rw [← HW.out]
    go_upto_region 2 with fail
    go_wp2_with (refine wpList_store_mid rfl 29 _ _ rfl w.heap.size 0 #[Value.int .i64 0, .string ⟨#[]⟩, .int .i64 0, .int .i64 0, .int .i64 0, .int .i64 0, .int .i64 0, .int .i64 0, .int .i64 0, .int .i64 0, .int .i64 0, .int .i64 0, .int .i64 0, .int .i64 0, .int .i64 0, .int .i64 0, .slice none 0 0, .int .i64 0] rfl rfl TH.out (by kernel_rfl) (by kernel_rfl) ?_)
    have hl := run_loadVar_mid (P := Try.prog) (W.setCells w.heap.size 0 [Value.int .i64 0, .string ⟨#[]⟩, .int .i64 0, .int .i64 0, .int .i64 0, .int .i64 0, .int .i64 0, .int .i64 0, .int .i64 0, .int .i64 0, .int .i64 0, .int .i64 0, .int .i64 0, .int .i64 0, .int .i64 0, .int .i64 0, .slice none 0 0, .int .i64 0]) w.heap.size 0 29 [Value.int .i64 0, .string ⟨#[]⟩, .int .i64 0, .int .i64 0, .int .i64 0, .int .i64 0, .int .i64 0, .int .i64 0, .int .i64 0, .int .i64 0, .int .i64 0, .int .i64 0, .int .i64 0, .int .i64 0, .int .i64 0, .int .i64 0, .slice none 0 0, .int .i64 0] _ (World.rangeAt_setCells_same _ _ _ _ TH.out) Try.underlying29 rfl (by kernel_rfl)
    refine bodyPost_ret (v := .tuple #[.agg #[Value.int .i64 0, .string ⟨#[]⟩, .int .i64 0, .int .i64 0, .int .i64 0, .int .i64 0, .int .i64 0, .int .i64 0, .int .i64 0, .int .i64 0, .int .i64 0, .int .i64 0, .int .i64 0, .int .i64 0, .int .i64 0, .int .i64 0, .slice none 0 0, .int .i64 0], .int .i64 0, .int .i64 330]) (results_ctt rfl rfl hl rfl rfl) rfl ?_
    rw [EQ.out]
    exact ⟨.slice none 0 0, rfl, ⟨rfl, .inl ⟨rfl, rfl⟩⟩, below_sets (Nat.le_refl _) _ _ _ HBF.out⟩
  · obtain ⟨b, off, hao, hbl, hc⟩ := hb.bytes (fun e => h2 (by rw [e]; decide))
    subst hao
    have HR8 := hide (hb.below hb0 (fun ad e _ => by cases e; exact hbl))
    have d : decide ((ns.length : Int) < 2) = false := decide_eq_false (by omega)
    have g0 : W.cell? ⟨b, off, none⟩ = some (.int .u8 (ns.getD 0 0 : Int)) := cell_stay (hc 0 (by omega)) (hb0.block b hbl)
    have g1 : W.cell? ⟨b, off + 1, none⟩ = some (.int .u8 (ns.getD 1 0 : Int)) := cell_stay (hc 1 (by omega)) (hb0.block b hbl)
    have hx0 := getD_lt' hb.small 0
    have hx1 := getD_lt' hb.small 1
    obtain ⟨n, hn⟩ : ∃ n, n = lenF ns := ⟨_, rfl⟩
    have hn2 : n = 2 + ns.getD 0 0 * 256 + ns.getD 1 0 := hn
    obtain ⟨x0, hx⟩ : ∃ x, x = ns.getD 0 0 := ⟨_, rfl⟩
    obtain ⟨x1, hy⟩ : ∃ x, x = ns.getD 1 0 := ⟨_, rfl⟩
    rw [← hx] at g0 hx0 hn2
    rw [← hy] at g1 hx1 hn2
    have HN := hide hn
    have H2 := hide h2
    have i0 : (0 : Int) < (ns.length : Int) := by omega
    have i1 : (1 : Int) < (ns.length : Int) := by omega
    have j0 : 0 < ns.length := by omega
    have j1 : 1 < ns.length := by omega
    have hnI : (2 : Int) + (x0 : Int) * 256 + (x1 : Int) = (n : Int) := by omega
    have w0 : IntKind.i64.wrap (x0 : Int) = (x0 : Int) := by rw [IntKind.wrap_i64]; omega
    have w1 : IntKind.i64.wrap (x1 : Int) = (x1 : Int) := by rw [IntKind.wrap_i64]; omega
    have w2 : IntKind.i64.wrap ((x0 : Int) * 256) = (x0 : Int) * 256 := by rw [IntKind.wrap_i64]; omega
    have w3 : IntKind.i64.wrap (2 + (x0 : Int) * 256) = 2 + (x0 : Int) * 256 := by rw [IntKind.wrap_i64]; omega
    have w4 : IntKind.i64.wrap (2 + (x0 : Int) * 256 + (x1 : Int)) = (n : Int) := by rw [IntKind.wrap_i64]; omega
    have HBL := hide hbl
    have HNI := hide hnI
    have hnb : n ≤ 65537 := by omega
    have hn2' : 2 ≤ n := by omega
    clear hW hb0 th hb hc hn hx hy h2 hbl hnI hn2
    go_enter Try.func70, Try.ntmps70
    go_upto_region 1 with fail
    rw [← HW.out]
    go_upto_region 3 with fail
    go_cut [5] from 13 to 23 (fun v5 wx => v5 = .int .i64 (n : Int) ∧ ∃ m, wx = W.drewN m)
    case first =>
      go_quiet (fail)
      go_wp2_with fail
      go_meet
      exact ⟨rfl, _, rfl⟩
    case rest =>
      obtain ⟨rfl, m, hwc⟩ := hcut
      have hbc : Below W.heap.size W wc := by rw [hwc]; exact bdrewN (Below.refl _ _) m
      have HRC := hide (HR8.out.below hbc (fun ad e _ => by cases e; exact Nat.lt_of_lt_of_le HBL.out HBF.out.size))
      have HB0 := hide HBF.out
      have HBF := hide (bstep HB0.out hbc)
      have TC := hide (there_stays TH.out (hbc.block _ (there_lt TH.out (by decide))))
      clear hwc hbc g0 g1 w0 w1 w2 w3 w4 TH HR8
      by_cases h4 : ns.length < n + 4
      · have EQ := hide (show oneT ns = (zeroO 0, 0, 330) by unfold oneT; rw [if_neg H2.out, ← HN.out, if_pos h4])
        have d4 : decide ((ns.length : Int) < (n : Int) + 4) = true := decide_eq_true (by omega)
        clear h4
        go_upto_region 5 with fail
        go_wp2_with (refine wpList_store_mid rfl 29 _ _ rfl w.heap.size 0 #[Value.int .i64 0, .string ⟨#[]⟩, .int .i64 0, .int .i64 0, .int .i64 0, .int .i64 0, .int .i64 0, .int .i64 0, .int .i64 0, .int .i64 0, .int .i64 0, .int .i64 0, .int .i64 0, .int .i64 0, .int .i64 0, .int .i64 0, .slice none 0 0, .int .i64 0] rfl rfl TC.out (by kernel_rfl) (by kernel_rfl) ?_)
        have hl := run_loadVar_mid (P := Try.prog) (wc.setCells w.heap.size 0 [Value.int .i64 0, .string ⟨#[]⟩, .int .i64 0, .int .i64 0, .int .i64 0, .int .i64 0, .int .i64 0, .int .i64 0, .int .i64 0, .int .i64 0, .int .i64 0, .int .i64 0, .int .i64 0, .int .i64 0, .int .i64 0, .int .i64 0, .slice none 0 0, .int .i64 0]) w.heap.size 0 29 [Value.int .i64 0, .string ⟨#[]⟩, .int .i64 0, .int .i64 0, .int .i64 0, .int .i64 0, .int .i64 0, .int .i64 0, .int .i64 0, .int .i64 0, .int .i64 0, .int .i64 0, .int .i64 0, .int .i64 0, .int .i64 0, .int .i64 0, .slice none 0 0, .int .i64 0] _ (World.rangeAt_setCells_same _ _ _ _ TC.out) Try.underlying29 rfl (by kernel_rfl)
        refine bodyPost_ret (v := .tuple #[.agg #[Value.int .i64 0, .string ⟨#[]⟩, .int .i64 0, .int .i64 0, .int .i64 0, .int .i64 0, .int .i64 0, .int .i64 0, .int .i64 0, .int .i64 0, .int .i64 0, .int .i64 0, .int .i64 0, .int .i64 0, .int .i64 0, .int .i64 0, .slice none 0 0, .int .i64 0], .int .i64 0, .int .i64 330]) (results_ctt rfl rfl hl rfl rfl) rfl ?_
        rw [EQ.out]
        exact ⟨.slice none 0 0, rfl, ⟨rfl, .inl ⟨rfl, rfl⟩⟩, below_sets (Nat.le_refl _) _ _ _ HBF.out⟩
      · have d4 : decide ((ns.length : Int) < (n : Int) + 4) = false := decide_eq_false (by omega)
        have hcap := HRC.out.cap_le
        have hle : n + 4 ≤ ns.length := by omega
        obtain ⟨s, hs⟩ : ∃ s, s = crc (part8 ns 0 n) := ⟨_, rfl⟩
        have C19 := rSum_c (.slice (some ⟨b, off, none⟩) n cap) (part8 ns 0 n) wc (by
          have q := (HRC.out.part (Nat.zero_le n) (by omega)).byteIn
          rwa [part8_len (Nat.zero_le n) (by omega), Nat.add_zero, Nat.sub_zero, Nat.sub_zero] at q)
        rw [← hs] at C19
        have hs32 : s < 4294967296 := by rw [hs]; unfold crc; omega
        have CS := hide C19
        have HS := hide hs
        obtain ⟨b2, off2, e2, hb2, hcc⟩ := HRC.out.bytes (fun e => H2.out (by rw [e]; decide))
        cases e2
        have t0 := hcc n (by omega)
        have t1 := hcc (n + 1) (by omega)
        have t2 := hcc (n + 2) (by omega)
        have t3 := hcc (n + 3) (by omega)
        have HT := hide (part4 hle)
        obtain ⟨y0, hy0⟩ : ∃ y, y = ns.getD n 0 := ⟨_, rfl⟩
        obtain ⟨y1, hy1⟩ : ∃ y, y = ns.getD (n + 1) 0 := ⟨_, rfl⟩
        obtain ⟨y2, hy2⟩ : ∃ y, y = ns.getD (n + 2) 0 := ⟨_, rfl⟩
        obtain ⟨y3, hy3⟩ : ∃ y, y = ns.getD (n + 3) 0 := ⟨_, rfl⟩
        rw [← hy0] at t0 HT
        rw [← hy1] at t1 HT
        rw [← hy2] at t2 HT
        rw [← hy3] at t3 HT
        obtain ⟨c0, hc0⟩ : ∃ c, ((y0 : Int) != (s : Int) % 256) = c := ⟨_, rfl⟩
        obtain ⟨c1, hc1⟩ : ∃ c, ((y1 : Int) != (s : Int) / 256 % 256) = c := ⟨_, rfl⟩
        obtain ⟨c2, hc2⟩ : ∃ c, ((y2 : Int) != (s : Int) / 65536 % 256) = c := ⟨_, rfl⟩
        obtain ⟨c3, hc3⟩ : ∃ c, ((y3 : Int) != (s : Int) / 16777216) = c := ⟨_, rfl⟩
        obtain ⟨bad, hbad⟩ : ∃ q : Bool, q = (c0 || c1 || c2 || c3) := ⟨_, rfl⟩
        have HBAD := hide hbad
        have HEQ := hide (show bad = false ↔ part8 ns n (n + 4) = le4 s by
          rw [hbad, ← hc0, ← hc1, ← hc2, ← hc3, HT.out]
          unfold le4
          simp only [Bool.or_eq_false_iff, bne_eq_false_iff_eq, List.cons.injEq, and_true]
          omega)
        clear hs hcc hy0 hy1 hy2 hy3 h4 hbad C19
        go_upto_region 7 with (go_at_call 19; (apply Calls.mono; focus (exact CS.out)); rintro e wz ⟨rfl, rfl⟩)
        go_cut [73] from 34 to 72 (fun v73 wx => v73 = .bool bad ∧ wx = wz)
        case first =>
          go_wp2_with fail
          all_goals go_meet
          all_goals (refine ⟨congrArg Value.bool ?_, rfl⟩; rw [HBAD.out])
          all_goals simp_all
        case rest =>
          obtain ⟨rfl, rfl⟩ := hcut
          rcases (show bad = true ∨ bad = false by cases bad <;> simp) with hbd | hbd
          · have EQ := hide (show oneT ns = (zeroO 0, 0, 331) by
              unfold oneT
              rw [if_neg H2.out, ← HN.out, if_neg (by omega), ← HS.out, if_neg (fun e => by rw [HEQ.out.2 e] at hbd; cases hbd)])
            subst hbd
            clear t0 t1 t2 t3 hc0 hc1 hc2 hc3
            go_upto_region 8 with fail
            go_wp2_with (refine wpList_store_mid rfl 29 _ _ rfl w.heap.size 0 #[Value.int .i64 0, .string ⟨#[]⟩, .int .i64 0, .int .i64 0, .int .i64 0, .int .i64 0, .int .i64 0, .int .i64 0, .int .i64 0, .int .i64 0, .int .i64 0, .int .i64 0, .int .i64 0, .int .i64 0, .int .i64 0, .int .i64 0, .slice none 0 0, .int .i64 0] rfl rfl TC.out (by kernel_rfl) (by kernel_rfl) ?_)
            have hl := run_loadVar_mid (P := Try.prog) (wc.setCells w.heap.size 0 [Value.int .i64 0, .string ⟨#[]⟩, .int .i64 0, .int .i64 0, .int .i64 0, .int .i64 0, .int .i64 0, .int .i64 0, .int .i64 0, .int .i64 0, .int .i64 0, .int .i64 0, .int .i64 0, .int .i64 0, .int .i64 0, .int .i64 0, .slice none 0 0, .int .i64 0]) w.heap.size 0 29 [Value.int .i64 0, .string ⟨#[]⟩, .int .i64 0, .int .i64 0, .int .i64 0, .int .i64 0, .int .i64 0, .int .i64 0, .int .i64 0, .int .i64 0, .int .i64 0, .int .i64 0, .int .i64 0, .int .i64 0, .int .i64 0, .int .i64 0, .slice none 0 0, .int .i64 0] _ (World.rangeAt_setCells_same _ _ _ _ TC.out) Try.underlying29 rfl (by kernel_rfl)
            refine bodyPost_ret (v := .tuple #[.agg #[Value.int .i64 0, .string ⟨#[]⟩, .int .i64 0, .int .i64 0, .int .i64 0, .int .i64 0, .int .i64 0, .int .i64 0, .int .i64 0, .int .i64 0, .int .i64 0, .int .i64 0, .int .i64 0, .int .i64 0, .int .i64 0, .int .i64 0, .slice none 0 0, .int .i64 0], .int .i64 0, .int .i64 331]) (results_ctt rfl rfl hl rfl rfl) rfl ?_
            rw [EQ.out]
            exact ⟨.slice none 0 0, rfl, ⟨rfl, .inl ⟨rfl, rfl⟩⟩, below_sets (Nat.le_refl _) _ _ _ HBF.out⟩
          · obtain ⟨O, hO⟩ : ∃ O, O = rdo (part8 ns 2 n) := ⟨_, rfl⟩
            obtain ⟨er, her⟩ : ∃ O, O = rde (part8 ns 2 n) := ⟨_, rfl⟩
            have EQ := hide (show oneT ns = (O, n + 4, er) by
              unfold oneT
              rw [if_neg H2.out, ← HN.out, if_neg (by omega), ← HS.out, if_pos (HEQ.out.1 hbd), hO, her])
            have CR := read_u (rRead_c (some ⟨b, off + 2, none⟩) (cap - 2) (part8 ns 2 n) wc (HRC.out.part (by omega) (by omega)))
            rw [part8_len (by omega) (by omega), ← hO, ← her] at CR
            unfold ordV at CR
            have CX := hide CR
            subst hbd
            clear t0 t1 t2 t3 hc0 hc1 hc2 hc3 CR hO her
            go_upto_region 10 with (first
              | (go_at_call 22; (apply Calls.mono; focus (exact CX.out)); rintro e w3 ⟨v3, rfl, o3, hb3⟩; obtain ⟨p3, c3, rfl⟩ := own_any o3; have HB3 := hide hb3; have O3 := hide o3; clear o3 hb3)
              | (refine wpList_store_mid rfl 29 _ _ rfl w3.heap.size 0 (ordCells O (.slice p3 O.offs.length c3)).toArray rfl ?_ ?_ ?_ ?_ ?_; exact rfl; exact alloc_there w3 O (.slice p3 O.offs.length c3); kernel_rfl; kernel_rfl))
            obtain ⟨X, hX⟩ : ∃ X, X = w3.heap.size := ⟨_, rfl⟩
            obtain ⟨W4, hW4⟩ : ∃ W4, W4 = (w3.alloc (.cells #[Value.int .i64 0, .string ⟨#[]⟩, .int .i64 0, .int .i64 0, .int .i64 0, .int .i64 0, .int .i64 0, .int .i64 0, .int .i64 0, .int .i64 0, .int .i64 0, .int .i64 0, .int .i64 0, .int .i64 0, .int .i64 0, .int .i64 0, .slice none 0 0, .int .i64 0] 29)).setCells w3.heap.size 0 (ordCells O (.slice p3 O.offs.length c3)) := ⟨_, rfl⟩
            have hsz : w.heap.size < w3.heap.size := Nat.lt_of_lt_of_le (there_lt TC.out (by decide)) HB3.out.size
            have hb34 : Below w3.heap.size w3 W4 := by rw [hW4]; exact below_sets (Nat.le_refl _) _ _ _ ((Below.refl _ _).alloc (Nat.le_refl _) _)
            have HBX := hide (show BoxO W4 X O (.slice p3 O.offs.length c3) by rw [hW4, hX]; exact (box_made w3 (zeroO 0) _).set _ _)
            have T4 := hide (there_stays (there_stays TC.out (HB3.out.block _ (there_lt TC.out (by decide)))) (hb34.block _ hsz))
            have HB4 := hide (bstep (bstep HBF.out HB3.out) hb34)
            have O4 := hide (own_below O3.out hb34)
            have HO1 := hide (show (ordCells O (.slice p3 O.offs.length c3)).toArray.all (fun x => x.oneCell') = true by kernel_rfl)
            rw [show (w3.alloc (.cells #[Value.int .i64 0, .string ⟨#[]⟩, .int .i64 0, .int .i64 0, .int .i64 0, .int .i64 0, .int .i64 0, .int .i64 0, .int .i64 0, .int .i64 0, .int .i64 0, .int .i64 0, .int .i64 0, .int .i64 0, .int .i64 0, .int .i64 0, .slice none 0 0, .int .i64 0] 29)).setCells w3.heap.size 0 (ordCells O (.slice p3 O.offs.length c3)).toArray.toList = W4 from hW4.symm, ← hX]
            clear hW4 hX hsz hb34
            go_wp2_with (first
              | refine wpList_load_mid rfl 29 _ rfl X 0 rfl (ordCells O (.slice p3 O.offs.length c3)) _ HBX.out.range Try.underlying29 rfl (by rw [ordCells_len]; kernel_rfl) ?_
              | (refine wpList_store_mid rfl 29 _ _ rfl w.heap.size 0 (ordCells O (.slice p3 O.offs.length c3)).toArray rfl ?_ ?_ ?_ ?_ ?_; exact rfl; exact T4.out; kernel_rfl; exact HO1.out))
            have hl := run_loadVar_mid (P := Try.prog) (W4.setCells w.heap.size 0 (ordCells O (.slice p3 O.offs.length c3))) w.heap.size 0 29 (ordCells O (.slice p3 O.offs.length c3)) _ (World.rangeAt_setCells_same _ _ _ _ T4.out) Try.underlying29 rfl (by rw [ordCells_len]; kernel_rfl)
            refine bodyPost_ret (v := .tuple #[ordV O (.slice p3 O.offs.length c3), .int .i64 ((n : Int) + 4), .int .i64 er]) (results_ctt rfl rfl hl rfl rfl) rfl ?_
            rw [EQ.out]
            exact ⟨_, rfl, own_lower (own_same O4.out (fun q hq _ => heap_sets_ne (by have := (O4.out.lt q hq).1; have := there_lt TC.out (by decide); omega) _ _ _)) (Nat.le_of_lt (there_lt TC.out (by decide))), below_sets (Nat.le_refl _) _ _ _ HB4.out⟩
end Go.Proofs.Ytalnipjaekpbhaa

