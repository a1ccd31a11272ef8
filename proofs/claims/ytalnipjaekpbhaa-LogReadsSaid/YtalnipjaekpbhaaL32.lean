import Derived.Test.YtalnipjaekpbhaaL31
import Derived.Deep.CutBlock
namespace Go.Proofs.Ytalnipjaekpbhaa
open Go.ChangeShapes Go.WideShapes Go.ChangeAt Go.RowKit Go.Deep
set_option linter.unusedSimpArgs false
set_option linter.unusedVariables false

set_option maxRecDepth 100000 in
set_option maxHeartbeats 4000000 in
theorem Scan_c (ao : Option Addr) (cap : Nat) (ns : List Nat) (w : World) (hb : Row8 w ao cap ns) : Calls Try.prog 23 #[.slice ao ns.length cap] w fun e w' => ∃ v p vs, e = .returned (.agg #[v, p, .int .i64 ((scanT ns).2.2.1 : Int), .int .i64 (scanT ns).2.2.2]) ∧ OrdsOwn w' w.heap.size v (scanT ns).1 vs ∧ w'.ownsRow w.heap.size 3 1 p (scanT ns).2.1.length (placeV (scanT ns).2.1) ∧ Below w.heap.size w w' := by
  obtain ⟨W, hW⟩ : ∃ W, W = (w.alloc (.cells #[.slice none 0 0, .slice none 0 0, .int .i64 0, .int .i64 0] 53)).alloc (.cells #[.slice none 0 0, .slice none 0 0, .int .i64 0, .int .i64 0] 53) := ⟨_, rfl⟩
  have hb1 : Below w.heap.size w (w.alloc (.cells #[.slice none 0 0, .slice none 0 0, .int .i64 0, .int .i64 0] 53)) := (Below.refl _ _).alloc (Nat.le_refl _) _
  have hst : SSt w W 0 [] [] (.slice none 0 0) (.slice none 0 0) 0 [] := by
    refine ⟨by rw [hW]; exact hb1.alloc hb1.size _, ?_, ?_, OrdsOwn.nil _ _, ⟨rfl, .inl ⟨rfl, rfl⟩⟩⟩
    · rw [hW]; exact there_stays (book_made w).there (((Below.refl _ _).alloc (Nat.le_refl _) _).block _ (by simp))
    · rw [hW]
      have q := book_made (w.alloc (.cells #[.slice none 0 0, .slice none 0 0, .int .i64 0, .int .i64 0] 53))
      rw [World.size_alloc] at q
      exact q
  have HY := hide (show ∀ ad, ao = some ad → ns ≠ [] → ad.block < w.heap.size from fun ad e hn => by
    obtain ⟨b, off, e2, h1, -⟩ := hb.bytes hn
    rw [e] at e2
    cases e2; exact h1)
  have HR8 := hide hb
  have hlen := hb.len
  have HW := hide hW
  have HS := hide hst
  obtain ⟨R, hR⟩ : ∃ R, R = scanT ns := ⟨_, rfl⟩
  rw [← hR]
  have HR := hide hR
  obtain ⟨i29, hi29, hz29, hs29, hb29⟩ := info_parts info29
  obtain ⟨i3, hi3, hz3, hs3, hb3⟩ := info_parts info3
  clear hW hb1 hst hb hR
  go_enter Try.func23, Try.ntmps23
  go_upto_region 2 with fail
  rw [← HW.out]
  go_loopw [4] (fun _ wr => ∃ (f a : Nat) (os : List Ord) (ps : List Nat) (v p : Value) (vs : List Value), scanF ns f a os ps = R ∧ ns.length < a + f ∧ a ≤ ns.length ∧ 6 * os.length ≤ a ∧ os.length = ps.length ∧ SSt w wr a os ps v p 0 vs) (fun _ wr => ns.length - (intOf ((wr.cell? ⟨w.heap.size + 1, 2, none⟩).getD undef)).toNat)
  case atStart => exact ⟨ns.length + 1, 0, [], [], _, _, _, HR.out.symm, by omega, Nat.zero_le _, by simp, rfl, HS.out⟩
  case round =>
    obtain ⟨f, a, os, ps, v, p, vs, hp, hf, ha, h6, hl, hs⟩ := hrel
    have HP := hide hp
    have HS1 := hide hs
    have HLL := hide hl
    have x2 : wr.cell? ⟨w.heap.size + 1, 2, none⟩ = some (.int .i64 (a : Int)) := hs.x.c 2 (by decide)
    have HX2 := hide x2
    clear hp hs HS hl
    by_cases hlt : a < ns.length
    · have hltI : (a : Int) < (ns.length : Int) := by omega
      obtain ⟨f, rfl⟩ : ∃ q, f = q + 1 := ⟨f - 1, by omega⟩
      have hrow := HR8.out.below HS1.out.b HY.out
      obtain ⟨b, off, hao, hbl, -⟩ := hrow.bytes (fun e => by rw [e] at hlt; cases hlt)
      subst hao
      have hcap := hrow.cap_le
      have CO := One_c (some ⟨b, off + a, none⟩) (cap - a) (ns.drop a) wr (by
        have q := hrow.part (i := a) (j := ns.length) (by omega) (Nat.le_refl _)
        have e : part8 ns a ns.length = ns.drop a := by unfold part8; rw [List.take_of_length_le (by rw [List.length_drop]; omega)]
        rwa [e] at q)
      rw [List.length_drop] at CO
      obtain ⟨O, hO⟩ : ∃ O, O = (oneT (ns.drop a)).1 := ⟨_, rfl⟩
      obtain ⟨m, hm⟩ : ∃ O, O = (oneT (ns.drop a)).2.1 := ⟨_, rfl⟩
      obtain ⟨er, her⟩ : ∃ O, O = (oneT (ns.drop a)).2.2 := ⟨_, rfl⟩
      have HERR := hide (show er ≠ 0 → R = (os, ps, a, er) from fun h => by rw [← HP.out, scanF_err hlt (by rw [← her]; exact h), her])
      have HOK := hide (show er = 0 → scanF ns f (a + m) (os ++ [O]) (ps ++ [a]) = R ∧ 6 ≤ m ∧ a + m ≤ ns.length from fun h => by
        have q := one_len (ns := ns.drop a) (by rw [← her]; exact h)
        rw [List.length_drop] at q
        exact ⟨by rw [← HP.out, scanF_ok hlt (by rw [← her]; exact h), hO, hm], by rw [hm]; exact q.1, by rw [hm]; omega⟩)
      rw [← hO, ← hm, ← her] at CO
      unfold ordV at CO
      have CX := hide CO
      clear hrow hbl CO hO hm her HP
      go_upto_region 4 with (first
        | (go_at_call 69; (apply Calls.mono; focus (exact CX.out)); rintro e w3 ⟨v3, rfl, o3, hb3'⟩; obtain ⟨p3, c3, rfl⟩ := own_any o3; have HB3 := hide hb3'; have O3 := hide o3; clear o3 hb3')
        | (refine wpList_store_mid rfl 29 _ _ rfl w3.heap.size 0 (ordCells O (.slice p3 O.offs.length c3)).toArray rfl ?_ ?_ ?_ ?_ ?_; exact rfl; exact alloc_there w3 O (.slice p3 O.offs.length c3); kernel_rfl; kernel_rfl))
      obtain ⟨OB, hOB⟩ : ∃ X, X = w3.heap.size := ⟨_, rfl⟩
      obtain ⟨W4, hW4⟩ : ∃ W4, W4 = (w3.alloc (.cells #[Value.int .i64 0, .string ⟨#[]⟩, .int .i64 0, .int .i64 0, .int .i64 0, .int .i64 0, .int .i64 0, .int .i64 0, .int .i64 0, .int .i64 0, .int .i64 0, .int .i64 0, .int .i64 0, .int .i64 0, .int .i64 0, .int .i64 0, .slice none 0 0, .int .i64 0] 29)).setCells w3.heap.size 0 (ordCells O (.slice p3 O.offs.length c3)) := ⟨_, rfl⟩
      have hb34 : Below w3.heap.size w3 W4 := by rw [hW4]; exact below_sets (Nat.le_refl _) _ _ _ ((Below.refl _ _).alloc (Nat.le_refl _) _)
      have HBX := hide (show BoxO W4 OB O (.slice p3 O.offs.length c3) by rw [hW4, hOB]; exact (box_made w3 (zeroO 0) _).set _ _)
      have HS4 := hide (HS1.out.grow (bstep HB3.out hb34))
      have OV4 := hide (own_lower (own_below O3.out hb34) HS1.out.sz)
      have hx := HS4.out.x
      obtain ⟨pv, cv, hv⟩ := own_any HS1.out.o.row
      obtain ⟨pp, cp, hpp⟩ := own_any HS1.out.p_
      subst hv hpp
      have x0 : W4.cell? ⟨w.heap.size + 1, 0, none⟩ = some (.slice pv os.length cv) := hx.c 0 (by decide)
      have x1 : W4.cell? ⟨w.heap.size + 1, 1, none⟩ = some (.slice pp ps.length cp) := hx.c 1 (by decide)
      have x2 : W4.cell? ⟨w.heap.size + 1, 2, none⟩ = some (.int .i64 (a : Int)) := hx.c 2 (by decide)
      have x3 : W4.cell? ⟨w.heap.size + 1, 3, none⟩ = some (.int .i64 0) := hx.c 3 (by decide)
      have f0 := hx.f 0
      have f1 := hx.f 1
      have f2 := hx.f 2
      have f3 := hx.f 3
      rw [show (w3.alloc (.cells #[Value.int .i64 0, .string ⟨#[]⟩, .int .i64 0, .int .i64 0, .int .i64 0, .int .i64 0, .int .i64 0, .int .i64 0, .int .i64 0, .int .i64 0, .int .i64 0, .int .i64 0, .int .i64 0, .int .i64 0, .int .i64 0, .int .i64 0, .slice none 0 0, .int .i64 0] 29)).setCells w3.heap.size 0 (ordCells O (.slice p3 O.offs.length c3)).toArray.toList = W4 from hW4.symm, ← hOB]
      clear hW4 hOB hb34 hx HS1 HB3 O3
      by_cases he : er = 0
      · obtain ⟨k1, k2, k3⟩ := HOK.out he
        have HK := hide k1
        subst he
        clear k1 HOK HERR
        have e18 : (ordCells O (.slice p3 O.offs.length c3)).length = 18 := ordCells_len _ _
        have HALL := hide (World.ownsRow_lit (size := 18) (base := W4.heap.size) (e := 29) W4 (ordCells O (.slice p3 O.offs.length c3)).toArray 1 (Nat.le_refl _) (by decide) (by rw [List.size_toArray, ordCells_len]))
        have HOR := hide (own_below HS4.out.o.row ((Below.refl _ _).alloc (Nat.le_refl _) (.cells (ordCells O (.slice p3 O.offs.length c3)).toArray 29)))
        have HONE := hide (show ∀ u ∈ ordCells O (.slice p3 O.offs.length c3), u.oneCell' = true from ordCells_one O _ rfl)
        have HX6 := hide (show ∀ w6 : World, (W4.alloc (.cells (ordCells O (.slice p3 O.offs.length c3)).toArray 29)).grownBy w6 (Value.slice pv os.length cv).ownBlock → BookBox w6 (w.heap.size + 1) (.slice pv os.length cv) (.slice pp ps.length cp) a 0 from fun w6 hg => HS4.out.x.stays (by
          have := HS4.out.x.lt
          rw [hg.block (w.heap.size + 1) (by rw [World.size_alloc]; omega) (fun e => by have := (HS4.out.o.row.lt _ e.symm).1; omega)]
          exact ((Below.refl W4.heap.size W4).alloc (Nat.le_refl _) _).block _ this))
        go_upto_region 7 with (first
          | (refine wpList_load_mid rfl 29 _ rfl OB 0 rfl (ordCells O (.slice p3 O.offs.length c3)) _ ?_ Try.underlying29 rfl ?_ ?_; exact HBX.out.range; kernel_rfl)
          | (at_builtin; rw [lit_fold]; refine wpList_append_rows _ rfl _ _ 32 rfl 29 i29 (.agg #[Value.int .i64 0, .string ⟨#[]⟩, .int .i64 0, .int .i64 0, .int .i64 0, .int .i64 0, .int .i64 0, .int .i64 0, .int .i64 0, .int .i64 0, .int .i64 0, .int .i64 0, .int .i64 0, .int .i64 0, .int .i64 0, .int .i64 0, .slice none 0 0, .int .i64 0]) 18 168 Try.underlying32 hi29 hz29 hs29 hb29 rfl (by decide) (w.heap.size + 2) W4.heap.size (.slice pv os.length cv) os.length (flatO os vs) rfl HOR.out (.slice (some ⟨W4.heap.size, 0, none⟩) 1 1) 1 (ordCells O (.slice p3 O.offs.length c3)) rfl HALL.out HONE.out (by unfold maxLen; omega) (by omega) (by rw [World.size_alloc]; have := HS4.out.sz; omega) ?_; intro v6 w6 h6' g6; obtain ⟨p6, c6, rfl⟩ := own_any h6'; have H6 := hide h6'; have G6 := hide g6; clear h6' g6; have hx6 := HX6.out _ G6.out; have y0 := hx6.c 0 (by decide); have g0 := hx6.f 0; have HXB := hide hx6; clear hx6))
        obtain ⟨W7, hW7⟩ : ∃ q, q = w6.setCell ⟨w.heap.size + 1, 0, none⟩ (.slice p6 (os.length + 1) c6) := ⟨_, rfl⟩
        have hbA : Below W4.heap.size W4 (W4.alloc (.cells (ordCells O (.slice p3 O.offs.length c3)).toArray 29)) := (Below.refl _ _).alloc (Nat.le_refl _) _
        have hsz4 := HS4.out.sz
        have HS7 := hide (show SSt w W7 a (os ++ [O]) ps (.slice p6 (os.length + 1) c6) (.slice pp ps.length cp) 0 (vs ++ [.slice p3 O.offs.length c3]) by
          rw [hW7]
          have hb6 : Below (w.heap.size + 2) W4 w6 := (hbA.mono hsz4).grown G6.out (by rw [World.size_alloc]; omega) (fun r e => (HS4.out.o.row.lt r e).1)
          exact HS4.out.put hb6 ((HS4.out.o.below hbA).snoc (own_below OV4.out hbA) H6.out G6.out) (own_apart HOR.out (own_below HS4.out.p_ hbA) (by decide) G6.out) (by decide) rfl)
        rw [← hW7]
        clear hW7 hbA hsz4 x0 x1 x2 x3 f0 f1 f2 f3 y0 g0 HXB HX6 HOR HALL HONE HS4 OV4 HBX H6 G6 e18
        have x1 : W7.cell? ⟨w.heap.size + 1, 1, none⟩ = some (.slice pp ps.length cp) := HS7.out.x.c 1 (by decide)
        have x2 : W7.cell? ⟨w.heap.size + 1, 2, none⟩ = some (.int .i64 (a : Int)) := HS7.out.x.c 2 (by decide)
        have HLIT := hide (World.ownsRow_lit (size := 1) (base := W7.heap.size) (e := 3) W7 #[.int .i64 (a : Int)] 1 (Nat.le_refl _) (by decide) rfl)
        have HOR := hide (own_below HS7.out.p_ ((Below.refl _ _).alloc (Nat.le_refl _) (.cells #[.int .i64 (a : Int)] 3)))
        have HX8 := hide (show ∀ w8 : World, (W7.alloc (.cells #[.int .i64 (a : Int)] 3)).grownBy w8 (Value.slice pp ps.length cp).ownBlock → BookBox w8 (w.heap.size + 1) (.slice p6 (os.length + 1) c6) (.slice pp ps.length cp) a 0 from fun w8 hg => HS7.out.x.stays (by
          have := HS7.out.x.lt
          rw [hg.block (w.heap.size + 1) (by rw [World.size_alloc]; omega) (fun e => by have := (HS7.out.p_.lt _ e.symm).1; omega)]
          exact ((Below.refl W7.heap.size W7).alloc (Nat.le_refl _) _).block _ this))
        go_upto_region 8 with (at_builtin; refine wpList_append_rows _ rfl _ _ 51 rfl 3 i3 (.int .i64 0) 1 8 Try.underlying51 hi3 hz3 hs3 hb3 rfl (by decide) (w.heap.size + 2) W7.heap.size (.slice pp ps.length cp) ps.length (placeV ps) rfl HOR.out (.slice (some ⟨W7.heap.size, 0, none⟩) 1 1) 1 [.int .i64 (a : Int)] rfl HLIT.out (fun u hu => by simp only [List.mem_singleton] at hu; subst hu; rfl) (by have := HLL.out; unfold maxLen; omega) (by have := HLL.out; omega) (by rw [World.size_alloc]; have := HS7.out.sz; omega) ?_; intro v8 w8 h8' g8; obtain ⟨p8, c8, rfl⟩ := own_any h8'; have H8 := hide h8'; have G8 := hide g8; clear h8' g8; have hx8 := HX8.out _ G8.out; have y1 := hx8.c 1 (by decide); have g1 := hx8.f 1; clear hx8)
        obtain ⟨W9, hW9⟩ : ∃ q, q = w8.setCell ⟨w.heap.size + 1, 1, none⟩ (.slice p8 (ps.length + 1) c8) := ⟨_, rfl⟩
        have HS9 := hide (show SSt w W9 a (os ++ [O]) (ps ++ [a]) (.slice p6 (os.length + 1) c6) (.slice p8 (ps.length + 1) c8) 0 (vs ++ [.slice p3 O.offs.length c3]) by
          rw [hW9]
          have hbA : Below W7.heap.size W7 (W7.alloc (.cells #[.int .i64 (a : Int)] 3)) := (Below.refl _ _).alloc (Nat.le_refl _) _
          have hsz7 := HS7.out.sz
          have hb8 : Below (w.heap.size + 2) W7 w8 := (hbA.mono hsz7).grown G8.out (by rw [World.size_alloc]; omega) (fun r e => (HS7.out.p_.lt r e).1)
          refine HS7.out.put hb8 ?_ ?_ (by decide) rfl
          · have q := HS7.out.o.below hbA
            exact ⟨q.l, own_apart HOR.out q.row (by decide) G8.out, fun i hi => own_apart HOR.out (q.offs i hi) (by decide) G8.out⟩
          · have e : placeV (ps ++ [a]) = placeV ps ++ [.int .i64 (a : Int)] := by unfold placeV; rw [List.map_append]; rfl
            rw [e, List.length_append]; exact H8.out)
        rw [← hW9]
        clear hW9 x1 x2 y1 g1 HX8 HOR HLIT HS7 H8 G8
        have x2 : W9.cell? ⟨w.heap.size + 1, 2, none⟩ = some (.int .i64 (a : Int)) := HS9.out.x.c 2 (by decide)
        have f2 := HS9.out.x.f 2
        go_wp2_with fail
        go_roundw
        case rel =>
          refine ⟨f, a + m, os ++ [O], ps ++ [a], _, _, _, HK.out, by omega, by omega, by rw [List.length_append]; simp; omega, by rw [List.length_append, List.length_append, HLL.out]; rfl, HS9.out.put (Below.refl _ _) HS9.out.o HS9.out.p_ (by decide) ?_⟩
          unfold bookedV
          simp
        case measure =>
          rw [HX2.out, World.cell?_setCell_same' _ _ _ (by rw [x2]; rfl)]
          show ns.length - ((a : Int) + (m : Int)).toNat < ns.length - (a : Int).toNat
          omega
      · have HE := hide (HERR.out he)
        have HER := hide he
        have de : (er != 0) = true := by simp; exact he
        clear he HOK HERR
        go_upto_region 9 with fail
        obtain ⟨W5, hW5⟩ : ∃ q, q = W4.setCell ⟨w.heap.size + 1, 3, none⟩ (.int .i64 er) := ⟨_, rfl⟩
        have HS5 := hide (show SSt w W5 a os ps (.slice pv os.length cv) (.slice pp ps.length cp) er vs by
          rw [hW5]
          exact HS4.out.put (Below.refl _ _) HS4.out.o HS4.out.p_ (by decide) rfl)
        rw [← hW5]
        clear hW5 x0 x1 x2 x3 f0 f1 f2 f3 HS4 HBX OV4
        go_wp2_with (first
          | (refine wpList_load_mid rfl 53 _ rfl (w.heap.size + 1) 0 rfl (bookedV (.slice pv os.length cv) (.slice pp ps.length cp) a er) _ ?_ Try.underlying53 rfl ?_ ?_; exact HS5.out.x.range; kernel_rfl)
          | (refine wpList_store_mid rfl 53 _ _ rfl w.heap.size 0 (bookedV (.slice pv os.length cv) (.slice pp ps.length cp) a er).toArray rfl ?_ ?_ ?_ ?_ ?_; exact rfl; exact HS5.out.th; kernel_rfl; kernel_rfl))
        have hl := run_loadVar_mid (P := Try.prog) (W5.setCells w.heap.size 0 (bookedV (.slice pv os.length cv) (.slice pp ps.length cp) a er)) w.heap.size 0 53 (bookedV (.slice pv os.length cv) (.slice pp ps.length cp) a er) _ (World.rangeAt_setCells_same _ _ _ _ HS5.out.th) Try.underlying53 rfl (by kernel_rfl)
        refine bodyPost_ret (v := .agg #[(.slice pv os.length cv), (.slice pp ps.length cp), .int .i64 (a : Int), .int .i64 er]) (results_cell1 rfl rfl hl) rfl ⟨(.slice pv os.length cv), (.slice pp ps.length cp), vs, by rw [HE.out], ?_, ?_, below_sets (Nat.le_refl _) _ _ _ HS5.out.b⟩
        · rw [HE.out]; exact (HS5.out.o.keep (fun k hk _ => heap_sets_ne (by omega) _ _ _)).lower (by omega)
        · rw [HE.out]; exact own_lower (own_same HS5.out.p_ (fun k hk _ => heap_sets_ne (by have := (HS5.out.p_.lt k hk).1; omega) _ _ _)) (by omega)
    · obtain rfl : ns.length = a := by omega
      have HE := hide (show R = (os, ps, ns.length, 0) by rw [← HP.out]; exact scanF_end (by omega))
      clear HP
      obtain ⟨pv, cv, hv⟩ := own_any HS1.out.o.row
      obtain ⟨pp, cp, hpp⟩ := own_any HS1.out.p_
      subst hv hpp
      go_wp2_with (first
        | (refine wpList_load_mid rfl 53 _ rfl (w.heap.size + 1) 0 rfl (bookedV (.slice pv os.length cv) (.slice pp ps.length cp) ns.length 0) _ ?_ Try.underlying53 rfl ?_ ?_; exact HS1.out.x.range; kernel_rfl)
        | (refine wpList_store_mid rfl 53 _ _ rfl w.heap.size 0 (bookedV (.slice pv os.length cv) (.slice pp ps.length cp) ns.length 0).toArray rfl ?_ ?_ ?_ ?_ ?_; exact rfl; exact HS1.out.th; kernel_rfl; kernel_rfl))
      have hl := run_loadVar_mid (P := Try.prog) (wr.setCells w.heap.size 0 (bookedV (.slice pv os.length cv) (.slice pp ps.length cp) ns.length 0)) w.heap.size 0 53 (bookedV (.slice pv os.length cv) (.slice pp ps.length cp) ns.length 0) _ (World.rangeAt_setCells_same _ _ _ _ HS1.out.th) Try.underlying53 rfl (by kernel_rfl)
      refine bodyPost_ret (v := .agg #[(.slice pv os.length cv), (.slice pp ps.length cp), .int .i64 (ns.length : Int), .int .i64 0]) (results_cell1 rfl rfl hl) rfl ⟨(.slice pv os.length cv), (.slice pp ps.length cp), vs, by rw [HE.out], ?_, ?_, below_sets (Nat.le_refl _) _ _ _ HS1.out.b⟩
      · rw [HE.out]; exact (HS1.out.o.keep (fun k hk _ => heap_sets_ne (by omega) _ _ _)).lower (by omega)
      · rw [HE.out]; exact own_lower (own_same HS1.out.p_ (fun k hk _ => heap_sets_ne (by have := (HS1.out.p_.lt k hk).1; omega) _ _ _)) (by omega)
end Go.Proofs.Ytalnipjaekpbhaa

