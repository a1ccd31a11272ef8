import Derived.StillTailTactics
import Derived.Maps.AppendAt
import Derived.Deep.AppendLies
import Derived.Laws.OwnMore
import Derived.Test.YtkdocoibfclfeaaT4
namespace Go.Proofs.Ytkdocoibfclfeaa
open Go.ChangeShapes Go.WideShapes Go.ChangeAt Go.RowKit Go.Deep Go.Maps Go.ChangeMaps Go.WideMaps
set_option linter.unusedSimpArgs false
set_option linter.unusedVariables false

open Classical in
noncomputable def behF (A : List Acc) (q : List Ent) : Lit → Option Value
  | .int .i64 x => if 0 ≤ x then (match A[x.toNat]? with | some a => if a.name ∈ names q then some (.int .i64 (a.has + sumOf q a.name)) else none | none => none) else none
  | _ => none
theorem behF_at {A : List Acc} {q : List Ent} {n : Nat} {a : Acc} (h : A[n]? = some a) (hm : a.name ∈ names q) : behF A q (.int .i64 (n : Int)) = some (.int .i64 (a.has + sumOf q a.name)) := by
  simp [behF, h, hm]
theorem behF_not {A : List Acc} {q : List Ent} {n : Nat} {a : Acc} (h : A[n]? = some a) (hm : a.name ∉ names q) : behF A q (.int .i64 (n : Int)) = none := by
  simp [behF, h, hm]
theorem behF_nil (A : List Acc) (x : Lit) : behF A [] x = none := by
  unfold behF
  split
  · split
    · split
      · rw [if_neg (by simp [names])]
      · rfl
    · rfl
  · rfl
theorem behF_inv {A : List Acc} {q : List Ent} {x : Lit} {v : Value} (h : behF A q x = some v) : ∃ (n : Nat) (a : Acc), x = .int .i64 (n : Int) ∧ A[n]? = some a ∧ a.name ∈ names q ∧ v = .int .i64 (a.has + sumOf q a.name) := by
  unfold behF at h
  split at h
  · rename_i y
    split at h
    · rename_i hy
      split at h
      · rename_i a ha
        split at h
        · rename_i hm
          cases h
          exact ⟨y.toNat, a, by congr; omega, ha, hm, rfl⟩
        · cases h
      · cases h
    · cases h
  · cases h
theorem names_snoc (q : List Ent) (x : Ent) : names (q ++ [x]) = names q ++ [x.1] := by simp [names]
theorem behF_step {A : List Acc} (hn : (nms A).Nodup) {q : List Ent} {s : ByteArray} {c : Int} {n : Nat} {a : Acc} (h : A[n]? = some a) (hs : a.name = s) (x : Lit) : setAt (behF A q) (.int .i64 (n : Int)) (.int .i64 (a.has + sumOf q s + c)) x = behF A (q ++ [(s, c)]) x := by
  subst hs
  by_cases e : x = .int .i64 (n : Int)
  · subst e
    rw [setAt_same, behF_at h (by rw [names_snoc]; simp), sumOf_snoc]
    simp only [if_true, Option.some.injEq, Value.int.injEq, true_and]
    omega
  · rw [setAt_other _ _ e]
    unfold behF
    split
    · split
      · rename_i y hy
        split
        · rename_i b hb
          have hne : b.name ≠ a.name := by
            intro q2
            have h1 : (nms A)[y.toNat]? = some b.name := by simp [nms, hb]
            have h2 : (nms A)[n]? = some a.name := by simp [nms, h]
            rw [q2] at h1
            have e1 := (idx_at hn h1).symm.trans (idx_at hn h2)
            have : y.toNat = n := Option.some.inj e1
            exact e (by congr; omega)
          have e1 : (b.name ∈ names (q ++ [(a.name, c)])) ↔ b.name ∈ names q := by rw [names_snoc]; simp [hne]
          by_cases hm : b.name ∈ names q
          · rw [if_pos hm, if_pos (e1.2 hm), sumOf_snoc, if_neg (Ne.symm hne)]
            simp
          · rw [if_neg hm, if_neg (fun q2 => hm (e1.1 q2))]
        · rfl
      · rfl
    · rfl
theorem idx_acc {A : List Acc} {s : ByteArray} {n : Nat} (h : idx (nms A) s = some n) : ∃ a, A[n]? = some a ∧ a.name = s := by
  obtain ⟨h1, h2⟩ := idx_lt h
  have hl : n < A.length := by simpa [nms] using h1
  refine ⟨A[n], List.getElem?_eq_getElem hl, ?_⟩
  have : (nms A)[n]? = some (A[n]).name := by simp [nms, List.getElem?_eq_getElem hl]
  rw [this] at h2
  exact Option.some.inj h2
/-- what stands in the first loop -/
structure BR (A : List Acc) (p : List Ent) (F : Fp) (Bl Bh mh : Nat) (w : World) (k : Nat) (wr : World) : Prop where
  le : k ≤ p.length
  found : ∀ i, i < k → ∃ n, idx (nms A) (ent p i).1 = some n
  map : ∃ cnt, cnt ≤ k ∧ MapIs Try.prog 3 wr mh cnt (behF A (p.take k))
  cl : wr.cell? ⟨Bl, 0, none⟩ = some (.pointer (some ⟨F.b, 0, none⟩))
  ch : wr.cell? ⟨Bh, 0, none⟩ = some (.map (some mh))
  low : Below w.heap.size w wr
theorem BR.below {A : List Acc} {p : List Ent} {F : Fp} {Bl Bh mh : Nat} {w : World} {k : Nat} {wr wq : World} (h : BR A p F Bl Bh mh w k wr) (hb : Below wr.heap.size wr wq) : BR A p F Bl Bh mh w k wq := by
  obtain ⟨cnt, h1, h2⟩ := h.map
  exact ⟨h.le, h.found, ⟨cnt, h1, h2.stays hb.size (hb.block _ h2.lt)⟩, cell_stay h.cl (hb.block _ (World.block_lt_of_cell? wr _ h.cl)), cell_stay h.ch (hb.block _ (World.block_lt_of_cell? wr _ h.ch)), h.low.trans (hb.mono h.low.size)⟩
theorem not_map {w : World} {b o mh cnt : Nat} {v : Value} {k : TypeId} {f : Lit → Option Value} (h : MapIs Try.prog k w mh cnt f) (hc : w.cell? ⟨b, o, none⟩ = some v) : b ≠ mh := by
  intro e
  obtain ⟨es, ck, hes⟩ := h.isMap
  subst e
  simp [World.cell?, hes] at hc
theorem BR.step {A : List Acc} {p : List Ent} {F : Fp} {Bl Bh mh : Nat} {w : World} {k : Nat} {wq wn : World} {s : ByteArray} {c : Int} {n cnt' : Nat} {a : Acc} (h : BR A p F Bl Bh mh w k wq) (hk : k < p.length) (he : ent p k = (s, c)) (hn : (nms A).Nodup) (hi : idx (nms A) s = some n) (ha : A[n]? = some a) (hs : a.name = s) (hm : w.heap.size ≤ mh) (hc : cnt' ≤ k + 1)
    (hadd : AddedTo mh cnt' (behF A (p.take k)) (.int .i64 (n : Int)) (.int .i64 (a.has + sumOf (p.take k) s + c)) wq wn) : BR A p F Bl Bh mh w (k + 1) wn := by
  obtain ⟨cnt, h1, h2⟩ := h.map
  have e1 : ∀ b o v, wq.cell? ⟨b, o, none⟩ = some v → wn.heap[b]? = wq.heap[b]? := fun b o v q => grown_heap hadd.2 (World.block_lt_of_cell? wq _ q) (fun e => not_map h2 q (Option.some.inj e).symm)
  refine ⟨hk, fun i hi' => ?_, ⟨cnt', hc, ?_⟩, cell_stay h.cl (e1 _ _ _ h.cl), cell_stay h.ch (e1 _ _ _ h.ch), h.low.grown hadd.2 h.low.size (fun k' hk' => by cases hk'; exact hm)⟩
  · rcases (by omega : i < k ∨ i = k) with q | q
    · exact h.found i q
    · subst q; rw [he]; exact ⟨n, hi⟩
  · rw [take_snoc p k hk, he]
    exact hadd.1.ext (behF_step hn ha hs)
def LowSeen (A : List Acc) (q : List Ent) (left : Lit → Bool) (ev : Int) : Prop :=
  (ev = 0 ∧ ∀ (n : Nat) (a : Acc), A[n]? = some a → a.name ∈ names q → left (.int .i64 (n : Int)) = false → ¬ (a.has + sumOf q a.name < a.least)) ∨ (ev = 7 ∧ isLow A q)
theorem low_start (A : List Acc) (q : List Ent) : LowSeen A q (fun kl => (behF A q kl).isSome) 0 := .inl ⟨rfl, fun n a h hm hl => by have hl' : (behF A q (.int .i64 (n : Int))).isSome = false := hl; rw [behF_at h hm] at hl'; cases hl'⟩
theorem low_more {A : List Acc} {q : List Ent} {left : Lit → Bool} {n : Nat} {a : Acc} (h : LowSeen A q left 0) (ha : A[n]? = some a) (hl : ¬ (a.has + sumOf q a.name < a.least)) : LowSeen A q (fun z => left z && !z.sameKey (.int .i64 (n : Int))) 0 := by
  rcases h with ⟨_, h⟩ | ⟨h, _⟩
  · refine .inl ⟨rfl, fun n' a' h1 h2 h3 => ?_⟩
    by_cases e : n' = n
    · subst e
      rw [ha] at h1
      cases h1
      exact hl
    · refine h n' a' h1 h2 ?_
      simp only [Bool.and_eq_false_iff, Bool.not_eq_false'] at h3
      rcases h3 with h3 | h3
      · exact h3
      · have := WideAt.sameKey_eq h3
        simp only [Lit.int.injEq, true_and] at this
        omega
  · cases h
theorem low_hit {A : List Acc} {q : List Ent} {left : Lit → Bool} {n : Nat} {a : Acc} (ha : A[n]? = some a) (hm : a.name ∈ names q) (hl : a.has + sumOf q a.name < a.least) : LowSeen A q left 7 := .inr ⟨rfl, a, List.mem_of_getElem? ha, hm, hl⟩
theorem low_later {A : List Acc} {q : List Ent} {left left' : Lit → Bool} (h : LowSeen A q left 7) : LowSeen A q left' 7 := by
  rcases h with ⟨h, _⟩ | h
  · cases h
  · exact .inr h
theorem low_end {A : List Acc} {p : List Ent} {left : Lit → Bool} {ev : Int} (h : LowSeen A p left ev) (hf : Formed p) (ht : allThere A p) (hl : ∀ kl, left kl = false) : ev = mayE A p := by
  unfold mayE
  rw [if_neg (fun q => q hf), if_neg (fun q => q ht)]
  rcases h with ⟨rfl, h⟩ | ⟨rfl, h⟩
  · rw [if_neg]
    rintro ⟨a, ha, h1, h2⟩
    obtain ⟨n, hn⟩ := List.getElem?_of_mem ha
    exact h n a hn h1 (hl _) h2
  · rw [if_pos h]
theorem may_4 {A : List Acc} {p : List Ent} {k : Nat} (hf : Formed p) (hk : k < p.length) (h : idx (nms A) (ent p k).1 = none) : mayE A p = 4 := by
  unfold mayE
  rw [if_neg (fun q => q hf), if_pos]
  intro q
  obtain ⟨i, hi⟩ := q _ (show (ent p k).1 ∈ names p from List.mem_map.2 ⟨_, ent_mem hk, rfl⟩)
  rw [h] at hi
  cases hi
theorem all_there {A : List Acc} {p : List Ent} (h : ∀ i, i < p.length → ∃ n, idx (nms A) (ent p i).1 = some n) : allThere A p := fun s hs => by
  obtain ⟨x, hx, rfl⟩ := List.mem_map.1 hs
  obtain ⟨i, hi, rfl⟩ := ent_of_mem hx
  exact h i hi
/-- the second loop -/
structure BZ (A : List Acc) (q : List Ent) (F : Fp) (Bl Bh mh r : Nat) (w wx : World) (cnt : Nat) (left : Lit → Bool) (c2 : Nat) (wr : World) : Prop where
  rg : Ranging Try.prog 3 wr mh r cnt (behF A q) left c2
  cl : wr.cell? ⟨Bl, 0, none⟩ = some (.pointer (some ⟨F.b, 0, none⟩))
  ch : wr.cell? ⟨Bh, 0, none⟩ = some (.map (some mh))
  low : Below wx.heap.size wx wr
theorem BZ.next {A : List Acc} {q : List Ent} {F : Fp} {Bl Bh mh r : Nat} {w wx : World} {cnt : Nat} {left left' : Lit → Bool} {c2 c3 : Nat} {wr w1 : World} (h : BZ A q F Bl Bh mh r w wx cnt left c2 wr) (hr : Ranging Try.prog 3 w1 mh r cnt (behF A q) left' c3) (hg : wr.grownBy w1 (some r)) (hl : Bl < r) (hh : Bh < r) (hx : wx.heap.size ≤ r) : BZ A q F Bl Bh mh r w wx cnt left' c3 w1 :=
  ⟨hr, cell_stay h.cl (grown_heap hg (World.block_lt_of_cell? wr _ h.cl) (fun e => by have := Option.some.inj e; omega)), cell_stay h.ch (grown_heap hg (World.block_lt_of_cell? wr _ h.ch) (fun e => by have := Option.some.inj e; omega)), h.low.grown hg h.low.size (fun k' hk' => by cases hk'; exact hx)⟩

set_option maxRecDepth 100000 in
set_option maxHeartbeats 4000000 in
theorem behind_a (I : Nat → Prop) (F : Fp) (S : LS) (so : Option Addr) (cap : Nat) (p : List Ent) (w : World) (h : LObj I F S w) (hE : Ents so cap p w) (hS : Sound S.acc) (hf : Formed p) : Calls Try.prog 27 #[.pointer (some ⟨F.b, 0, none⟩), .slice so p.length cap] w (fun e w' => ∃ v, e = .returned (.tuple #[v, .int .i64 (mayE S.acc p)]) ∧ Below w.heap.size w w' ∧ (mayE S.acc p = 0 → ∃ mh cnt, v = .map (some mh) ∧ w.heap.size ≤ mh ∧ cnt ≤ p.length ∧ MapIs Try.prog 3 w' mh cnt (behF S.acc p))) := by
  have H := hide h
  have HE := hide hE
  have HS := hide hS
  have HFm := hide hf
  have hb := h.lt (.inl rfl)
  have hmm := @run_makeMap Try.prog
  have HB0 := hide h.b0
  clear h hE hS hf
  go_enter Try.func27, Try.ntmps27
  go_wp2
  go_step3
  go_wp2_with (first
    | (go_at_call 22; refine (isLedger _ F.b F.t (((Below.refl w.heap.size w).alloc (Nat.le_refl _) _).cell (p := ⟨F.b, 0, none⟩) hb |>.trans HB0.out)).mono ?_; rintro e w' ⟨rfl, rfl⟩)
    | (go_at_call 51; refine (formed_c so cap p _ (HE.out.below ((Below.refl w.heap.size w).alloc (Nat.le_refl _) _))).mono ?_; rintro e wF ⟨rfl, hbF⟩; rw [formedB_yes HFm.out]))
  go_step3
  have hzF := hbF.size
  simp at hzF
  have hB0 : Below w.heap.size w ((wF.alloc (.map #[] 0)).alloc (.cells #[.map (some wF.heap.size)] 75)) := (((((Below.refl w.heap.size w).alloc (Nat.le_refl _) _).trans (hbF.mono (by simp)))).alloc (by omega) _).alloc (by simp; omega) _
  have hBR := hide (show BR S.acc p F w.heap.size (wF.heap.size + 1) wF.heap.size w 0 ((wF.alloc (.map #[] 0)).alloc (.cells #[.map (some wF.heap.size)] 75)) from ⟨Nat.zero_le _, fun i q => by omega,
    ⟨0, Nat.le_refl _, ((MapIs.made wF Try.prog 3).stays (by simp) (Below.heap_alloc _ _ _ (by simp))).ext (fun x => (behF_nil _ x).symm)⟩,
    cell_stay (cell_stay ((hbF.cell (p := ⟨w.heap.size, 0, none⟩) (by simp)).trans (by simp [go_sem])) (Below.heap_alloc _ _ _ hzF)) (Below.heap_alloc _ _ _ (by simp; omega)), by simp [go_sem], hB0⟩)
  obtain ⟨wB, hwB⟩ : ∃ wB, wB = ((wF.alloc (.map #[] 0)).alloc (.cells #[.map (some wF.heap.size)] 75)) := ⟨_, rfl⟩
  have hMF := hide (show w.heap.size < wF.heap.size from hzF)
  rw [← hwB] at hBR ⊢
  clear hwB hB0
  obtain ⟨mh, hmh⟩ : ∃ mh, mh = wF.heap.size := ⟨_, rfl⟩
  rw [← hmh] at hBR hMF ⊢
  clear hmh hzF hbF
  have hl0 := HFm.out.2.1
  go_wp2
  go_loopw [8, 26] (fun v8 v26 wr => ∃ k : Nat, v8 = .int .i64 0 ∧ v26 = .int .i64 (k : Int) ∧ BR S.acc p F w.heap.size (mh + 1) mh w k wr) (fun _ v26 _ => p.length - (intOf v26).toNat)
  case atStart => exact ⟨0, rfl, rfl, hBR.out⟩
  case round =>
    obtain ⟨k, rfl, rfl, hr⟩ := hrel
    have HR := hide hr
    clear hr
    by_cases hlt : k < p.length
    · obtain ⟨g, off, rfl, hsp⟩ := HE.out.spot (by omega)
      have hgz : g < w.heap.size := World.block_lt_of_cell? w _ (hsp k hlt).1
      have hc0 : wr.cell? ⟨g, off + k * 2, none⟩ = some (.string (ent p k).1) := (HR.out.low.cell (p := ⟨g, off + k * 2, none⟩) hgz).trans (hsp k hlt).1
      have hc1 : wr.cell? ⟨g, off + k * 2 + 1, none⟩ = some (.int .i64 (ent p k).2) := (HR.out.low.cell (p := ⟨g, off + k * 2 + 1, none⟩) hgz).trans (hsp k hlt).2
      have HG := hide (HFm.out.2.2.1 _ (ent_mem hlt))
      obtain ⟨s, hs⟩ : ∃ s, s = (ent p k).1 := ⟨_, rfl⟩
      obtain ⟨c, hcc⟩ : ∃ c, c = (ent p k).2 := ⟨_, rfl⟩
      rw [← hs] at hc0
      rw [← hcc] at hc1
      have HSC := hide (show ent p k = (s, c) by rw [hs, hcc])
      rw [HSC.out] at HG
      clear hs hcc hsp
      have HO := hide (H.out.below HR.out.low)
      have hbl : F.b < wr.heap.size := HO.out.lt (.inl rfl)
      have htl : F.t < wr.heap.size := HO.out.lt (.inr (.inl rfl))
      have r0 : wr.cell? ⟨F.b, 0, none⟩ = some (.pointer (some ⟨F.t, 0, none⟩)) := HO.out.b0
      have rl : wr.cell? ⟨w.heap.size, 0, none⟩ = some (.pointer (some ⟨F.b, 0, none⟩)) := HR.out.cl
      have rz : w.heap.size < wr.heap.size := World.block_lt_of_cell? wr _ rl
      have HSZ := hide (show s.size ≤ maxLen by have := HG.out.1.2; have q : s.size ≤ 64 := this; unfold maxLen; omega)
      cases hidx : idx (nms S.acc) s with
      | none =>
        have HI := hide hidx
        clear hidx
        obtain ⟨WQ, hWQ⟩ : ∃ WQ, WQ = wr.alloc (.cells #[.string s, .int .i64 c] 63) := ⟨_, rfl⟩
        have HFd := hide (show ∀ q, Calls Try.prog 49 #[.pointer (some ⟨F.t, 0, none⟩), .string s] (WQ.drewN q) fun e w' => e = .returned (.tuple #[.int .i64 0, .bool false]) ∧ w' = WQ.drewN q from fun q => by
          have HOQ : LObj I F S (WQ.drewN q) := HO.out.below (by rw [hWQ]; (focus repeat' (first | (with_reducible exact Below.refl _ _) | (with_reducible assumption) | (with_reducible refine Below.alloc ?_ ?_ _) | (with_reducible refine Below.drew ?_) | (with_reducible refine bdrewN ?_ _) | (with_reducible refine Below.setCell ?_ ?_ _) | (first | (with_reducible exact Nat.le_refl _) | (with_reducible assumption) | omega | (simp; omega) | (simp; done)))))
          exact (Find_no _ F.t F.a _ _ s HOQ.t1 HOQ.am HSZ.out HI.out).mono (fun e w' h => ⟨h.1, h.2.symm⟩))
        rw [hWQ] at HFd
        clear hWQ
        go_wp2
        go_quiet ((go_at_call 49; exact Calls.quiet_of_same (HFd.out _)))
        obtain ⟨wx, hwq⟩ : ∃ wx, wx = (wr.alloc (.cells #[.string s, .int .i64 c] 63)).drewN nq := ⟨_, rfl⟩
        have hbq : Below wr.heap.size wr wx := by rw [hwq]; (focus repeat' (first | (with_reducible exact Below.refl _ _) | (with_reducible assumption) | (with_reducible refine Below.alloc ?_ ?_ _) | (with_reducible refine Below.drew ?_) | (with_reducible refine bdrewN ?_ _) | (with_reducible refine Below.setCell ?_ ?_ _) | (first | (with_reducible exact Nat.le_refl _) | (with_reducible assumption) | omega | (simp; omega) | (simp; done))))
        rw [← hwq]
        have HRQ := hide (HR.out.below hbq)
        have HM4 := hide (show mayE S.acc p = 4 from may_4 HFm.out hlt (by rw [HSC.out]; exact HI.out))
        clear hwq hbq hc0 hc1 r0 rl hlt
        obtain ⟨cnt, hcnt, hmp⟩ := HRQ.out.map
        have HC := hide hcnt
        have HMP := hide hmp
        have hcx : wx.cell? ⟨mh + 1, 0, none⟩ = some (.map (some mh)) := HRQ.out.ch
        have hbx := World.block_lt_of_cell? wx _ HRQ.out.cl
        have hhx := World.block_lt_of_cell? wx _ hcx
        have HX := hide (And.intro hbx hhx)
        clear hcnt hmp hbx hhx
        go_wp2_with (at_range; refine wpList_range_is _ rfl _ 75 rfl 3 2 law3 Try.underlying75 mh cnt _ rfl HMP.out ?_; intro w0 hrg0 hg0 hs0)
        have HZ0 := hide (show BZ S.acc (p.take k) F w.heap.size (mh + 1) mh wx.heap.size w wx cnt (fun kl => (behF S.acc (p.take k) kl).isSome) cnt w0 from ⟨hrg0, cell_stay HRQ.out.cl (grown_heap (r := none) hg0 HX.out.1 (fun e => by cases e)), cell_stay HRQ.out.ch (grown_heap (r := none) hg0 HX.out.2 (fun e => by cases e)), ⟨hg0.os, hg0.tape, hg0.output, hg0.size, fun k hk => hg0.block k hk (by simp)⟩⟩)
        clear hrg0 hg0 hs0 hcx
        (try go_frame)
        go_loopw [8] (fun v8 wy => ∃ left c2 ev, v8 = .int .i64 ev ∧ ev = 4 ∧ BZ S.acc (p.take k) F w.heap.size (mh + 1) mh wx.heap.size w wx cnt left c2 wy) (fun _ wy => wy.rangeLeft mh wx.heap.size)
        case atStart => exact ⟨_, _, 4, rfl, rfl, HZ0.out⟩
        case round =>
          obtain ⟨left, c2, ev, rfl, hev, hz⟩ := hrel
          have HEV := hide hev
          have HZ := hide hz
          clear hev hz
          go_wp2_with (at_next; refine wpList_next_ii _ rfl _ rfl 3 law3 Try.underlying3 mh wx.heap.size cnt _ _ _ rfl HZ.out.rg (fun kl v q => by obtain ⟨n, a, -, -, -, rfl⟩ := behF_inv q; exact ⟨_, rfl⟩) ?_ ?_)
          · intro _ hl0
            have HL0 := hide hl0
            clear hl0
            have hcz : wr.cell? ⟨mh + 1, 0, none⟩ = some (.map (some mh)) := HZ.out.ch
            go_wp2
            rw [Exit.noGoto_ret]
            refine bodyPost_ret (v := .tuple #[.map (some mh), .int .i64 ev]) (by simp [results, Try.f27, go_sem]) rfl ?_
            have HBL := hide (HRQ.out.low.trans (HZ.out.low.mono HRQ.out.low.size))
            obtain rfl : ev = 4 := HEV.out
            exact ⟨_, by rw [HM4.out], HBL.out, fun q => by rw [HM4.out] at q; cases q⟩
          · intro x cc w1 cnt1 hwx hlx hfx hrg1 hlt1 hg1 hs1 hen
            have HRG := hide hrg1
            have HLT := hide hlt1
            have HLX := hide hlx
            obtain ⟨n, a, hxn, han, hnm, hval⟩ := behF_inv hfx
            obtain rfl : x = (n : Int) := by simpa using hxn
            obtain rfl : cc = a.has + sumOf (p.take k) a.name := by simpa using hval
            have HAN := hide han
            have HNM := hide hnm
            have HZN := hide (HZ.out.next hrg1 hg1 HX.out.1 HX.out.2 (Nat.le_refl _))
            have HOB := hide (H.out.below (HRQ.out.low.trans (HZN.out.low.mono HRQ.out.low.size)))
            have hcl : w1.cell? ⟨w.heap.size, 0, none⟩ = some (.pointer (some ⟨F.b, 0, none⟩)) := HZN.out.cl
            have hb1 : w1.cell? ⟨F.b, 1, none⟩ = some (.map (some F.m)) := HOB.out.b1
            have hN6 : n < 65536 := by
              have := (List.getElem?_eq_some_iff.1 han).1
              have q := HS.out.few
              omega
            have ql := acc_look HOB.out.mm (show n < 9223372036854775808 by omega) han
            have q4 := field70_1 a.name a.least a.has
            clear hfx hxn hval han hnm hrg1 hlt1 hlx hg1 hs1 hN6
            obtain ⟨cv, hcv⟩ : ∃ cv, cv = a.has + sumOf (p.take k) a.name := ⟨_, rfl⟩
            rw [← hcv] at hen ⊢
            have HCV := hide hcv
            clear hcv
            obtain rfl : ev = 4 := HEV.out
            go_wp2
            go_roundw
            case rel => exact ⟨_, _, 4, rfl, rfl, HZN.out⟩
            case measure => rw [HRG.out.left_eq, HZ.out.rg.left_eq]; exact HLT.out
      | some n =>
        have HI := hide hidx
        clear hidx
        obtain ⟨WQ, hWQ⟩ : ∃ WQ, WQ = wr.alloc (.cells #[.string s, .int .i64 c] 63) := ⟨_, rfl⟩
        have HFd := hide (show ∀ q, Calls Try.prog 49 #[.pointer (some ⟨F.t, 0, none⟩), .string s] (WQ.drewN q) fun e w' => e = .returned (.tuple #[.int .i64 (n : Int), .bool true]) ∧ w' = WQ.drewN q from fun q => by
          have HOQ : LObj I F S (WQ.drewN q) := HO.out.below (by rw [hWQ]; (focus repeat' (first | (with_reducible exact Below.refl _ _) | (with_reducible assumption) | (with_reducible refine Below.alloc ?_ ?_ _) | (with_reducible refine Below.drew ?_) | (with_reducible refine bdrewN ?_ _) | (with_reducible refine Below.setCell ?_ ?_ _) | (first | (with_reducible exact Nat.le_refl _) | (with_reducible assumption) | omega | (simp; omega) | (simp; done)))))
          exact (Find_yes _ F.t F.a _ n _ s HOQ.t1 HOQ.am HSZ.out HI.out).mono (fun e w' h => ⟨h.1, h.2.symm⟩))
        rw [hWQ] at HFd
        clear hWQ
        go_wp2
        go_quiet ((go_at_call 49; exact Calls.quiet_of_same (HFd.out _)))
        obtain ⟨a, ha, has⟩ := idx_acc HI.out
        obtain ⟨wq, hwq⟩ : ∃ wq, wq = (wr.alloc (.cells #[.string s, .int .i64 c] 63)).drewN nq := ⟨_, rfl⟩
        have hbq : Below wr.heap.size wr wq := by rw [hwq]; (focus repeat' (first | (with_reducible exact Below.refl _ _) | (with_reducible assumption) | (with_reducible refine Below.alloc ?_ ?_ _) | (with_reducible refine Below.drew ?_) | (with_reducible refine bdrewN ?_ _) | (with_reducible refine Below.setCell ?_ ?_ _) | (first | (with_reducible exact Nat.le_refl _) | (with_reducible assumption) | omega | (simp; omega) | (simp; done))))
        have q0 : wq.cell? ⟨wr.heap.size, 1, none⟩ = some (.int .i64 c) := by rw [hwq]; simp [go_sem]
        rw [← hwq]
        have HRQ := hide (HR.out.below hbq)
        have HOQ := hide (HO.out.below hbq)
        have HA := hide ha
        have HAS := hide has
        have sm := HS.out.small (List.mem_of_getElem? ha)
        have bd := sumOf_bd (p := p.take k) (fun x hx => ⟨(HFm.out.2.2.1 x (List.mem_of_mem_take hx)).2.2.1, (HFm.out.2.2.1 x (List.mem_of_mem_take hx)).2.2.2⟩) s
        have bl : ((p.take k).length : Int) ≤ 128 := by rw [List.length_take]; omega
        have hcb : c ≤ maxC ∧ -maxC ≤ c := ⟨HG.out.2.2.1, HG.out.2.2.2⟩
        have BND := hide (show -9223372036854775808 ≤ a.has + sumOf (p.take k) s + c ∧ a.has + sumOf (p.take k) s + c ≤ 9223372036854775807 by unfold maxC at *; omega)
        have HN6 := hide (show n < 65536 by have := idx_lt HI.out; have q : (nms S.acc).length = S.acc.length := by simp [nms]
                                            have := HS.out.few; omega)
        have HM0 := hide hMF.out
        clear hwq hbq ha has sm bd bl hcb hc0 hc1 r0 rl
        obtain ⟨cnt, hcnt, hmp⟩ := HRQ.out.map
        have HC := hide hcnt
        have HMP := hide hmp
        clear hcnt hmp
        by_cases hm : s ∈ names (p.take k)
        · have HFK := hide (show behF S.acc (p.take k) (.int .i64 (n : Int)) = some (.int .i64 (a.has + sumOf (p.take k) s)) from by
            have := behF_at (q := p.take k) HA.out (by rw [HAS.out]; exact hm)
            rw [HAS.out] at this; exact this)
          clear hm
          go_wp2_with (go_at_call 52; refine (add_yes (mh + 1) w.heap.size mh cnt n _ _ c wq HRQ.out.ch HMP.out HN6.out (by have := HC.out; omega) HFK.out BND.out.1 BND.out.2).mono ?_; rintro e w7 ⟨⟨r7, rfl⟩, hadd⟩; have HAD := hide hadd; clear hadd)
          go_roundw
          case rel => exact ⟨k + 1, rfl, by go_num, HRQ.out.step hlt HSC.out HS.out.nd HI.out HA.out HAS.out (by have := HM0.out; omega) (by have := HC.out; omega) HAD.out⟩
          case measure => simp [intOf]; omega
        · have HFK := hide (show behF S.acc (p.take k) (.int .i64 (n : Int)) = none from behF_not HA.out (by rw [HAS.out]; exact hm))
          have HZ := hide (sumOf_out hm)
          clear hm
          go_wp2_with (go_at_call 52; refine (add_no (mh + 1) w.heap.size F.b F.m mh cnt n S.acc a _ c wq HRQ.out.ch HRQ.out.cl HOQ.out.b1 HOQ.out.mm HA.out HMP.out HN6.out (by have := HC.out; omega) HFK.out (by have := BND.out.1; rw [HZ.out] at this; omega) (by have := BND.out.2; rw [HZ.out] at this; omega)).mono ?_; rintro e w7 ⟨⟨r7, rfl⟩, hadd⟩; have HAD := hide hadd; clear hadd)
          go_roundw
          case rel =>
            have := HAD.out
            rw [show a.has + c = a.has + sumOf (p.take k) s + c by rw [HZ.out]; omega] at this
            exact ⟨k + 1, rfl, by go_num, HRQ.out.step hlt HSC.out HS.out.nd HI.out HA.out HAS.out (by have := HM0.out; omega) (by have := HC.out; omega) this⟩
          case measure => simp [intOf]; omega
    · have hke : k = p.length := by have := HR.out.le; omega
      obtain ⟨wx, hwx⟩ : ∃ wx, wx = wr := ⟨_, rfl⟩
      rw [← hwx] at HR ⊢
      have HK := hide hke
      clear hwx hke
      have HRX := hide (show BR S.acc p F w.heap.size (mh + 1) mh w k wx from HR.out)
      have HMAP := hide (show ∃ cnt, cnt ≤ k ∧ MapIs Try.prog 3 wx mh cnt (behF S.acc p) by have := HRX.out.map; rw [show p.take k = p by rw [HK.out, List.take_length]] at this; exact this)
      obtain ⟨cnt, hcnt, hmp⟩ := HMAP.out
      have HC := hide hcnt
      have HMP := hide hmp
      have hcx : wx.cell? ⟨mh + 1, 0, none⟩ = some (.map (some mh)) := HRX.out.ch
      have hbx := World.block_lt_of_cell? wx _ HRX.out.cl
      have hhx := World.block_lt_of_cell? wx _ hcx
      have HX := hide (And.intro hbx hhx)
      clear hcnt hmp hbx hhx
      go_wp2_with (at_range; refine wpList_range_is _ rfl _ 75 rfl 3 2 law3 Try.underlying75 mh cnt _ rfl HMP.out ?_; intro w0 hrg0 hg0 hs0)
      have HZ0 := hide (show BZ S.acc p F w.heap.size (mh + 1) mh wx.heap.size w wx cnt (fun kl => (behF S.acc p kl).isSome) cnt w0 from ⟨hrg0, cell_stay HRX.out.cl (grown_heap (r := none) hg0 HX.out.1 (fun e => by cases e)), cell_stay HRX.out.ch (grown_heap (r := none) hg0 HX.out.2 (fun e => by cases e)), ⟨hg0.os, hg0.tape, hg0.output, hg0.size, fun k hk => hg0.block k hk (by simp)⟩⟩)
      clear hrg0 hg0 hs0 hcx
      (try go_frame)
      go_loopw [8] (fun v8 wy => ∃ left c2 ev, v8 = .int .i64 ev ∧ LowSeen S.acc p left ev ∧ BZ S.acc p F w.heap.size (mh + 1) mh wx.heap.size w wx cnt left c2 wy) (fun _ wy => wy.rangeLeft mh wx.heap.size)
      case atStart => exact ⟨_, _, 0, rfl, low_start _ _, HZ0.out⟩
      case round =>
        obtain ⟨left, c2, ev, rfl, hev, hz⟩ := hrel
        have HEV := hide hev
        have HZ := hide hz
        clear hev hz
        go_wp2_with (at_next; refine wpList_next_ii _ rfl _ rfl 3 law3 Try.underlying3 mh wx.heap.size cnt _ _ _ rfl HZ.out.rg (fun kl v q => by obtain ⟨n, a, -, -, -, rfl⟩ := behF_inv q; exact ⟨_, rfl⟩) ?_ ?_)
        · intro _ hl0
          have HL0 := hide hl0
          clear hl0
          have hcz : wr.cell? ⟨mh + 1, 0, none⟩ = some (.map (some mh)) := HZ.out.ch
          go_wp2
          rw [Exit.noGoto_ret]
          refine bodyPost_ret (v := .tuple #[.map (some mh), .int .i64 ev]) (by simp [results, Try.f27, go_sem]) rfl ?_
          have HBL := hide (HRX.out.low.trans (HZ.out.low.mono HRX.out.low.size))
          have HBL' := HBL.out
          have e1 : ev = mayE S.acc p := low_end HEV.out HFm.out (all_there (fun i hi => HR.out.found i (by rw [HK.out]; exact hi))) HL0.out
          refine ⟨_, by rw [e1], HBL', fun _ => ⟨mh, cnt, rfl, Nat.le_of_lt hMF.out, by have := HC.out; have q := HK.out; omega, HZ.out.rg.map⟩⟩
        · intro x cc w1 cnt1 hwx hlx hfx hrg1 hlt1 hg1 hs1 hen
          have HRG := hide hrg1
          have HLT := hide hlt1
          have HLX := hide hlx
          obtain ⟨n, a, hxn, han, hnm, hval⟩ := behF_inv hfx
          obtain rfl : x = (n : Int) := by simpa using hxn
          obtain rfl : cc = a.has + sumOf p a.name := by simpa using hval
          have HAN := hide han
          have HNM := hide hnm
          have HZN := hide (HZ.out.next hrg1 hg1 HX.out.1 HX.out.2 (Nat.le_refl _))
          have HOB := hide (H.out.below (HRX.out.low.trans (HZN.out.low.mono HRX.out.low.size)))
          have hcl : w1.cell? ⟨w.heap.size, 0, none⟩ = some (.pointer (some ⟨F.b, 0, none⟩)) := HZN.out.cl
          have hb1 : w1.cell? ⟨F.b, 1, none⟩ = some (.map (some F.m)) := HOB.out.b1
          have hN6 : n < 65536 := by
            have := (List.getElem?_eq_some_iff.1 han).1
            have q := HS.out.few
            omega
          have ql := acc_look HOB.out.mm (show n < 9223372036854775808 by omega) han
          have q4 := field70_1 a.name a.least a.has
          clear hfx hxn hval han hnm hrg1 hlt1 hlx hg1 hs1 hN6
          obtain ⟨cv, hcv⟩ : ∃ cv, cv = a.has + sumOf p a.name := ⟨_, rfl⟩
          rw [← hcv] at hen ⊢
          have HCV := hide hcv
          clear hcv
          rcases HEV.out with ⟨rfl, -⟩ | ⟨rfl, -⟩
          · by_cases hlo : cv < a.least
            · have d1 : decide (cv < a.least) = true := by (rw [decide_eq_true_iff]; exact hlo)
              have HLO := hide hlo
              clear hlo
              go_wp2
              go_roundw
              case rel => exact ⟨_, _, 7, rfl, low_hit HAN.out HNM.out (by rw [← HCV.out]; exact HLO.out), HZN.out⟩
              case measure => rw [HRG.out.left_eq, HZ.out.rg.left_eq]; exact HLT.out
            · have d1 : decide (cv < a.least) = false := by (rw [decide_eq_false_iff_not]; exact hlo)
              have HLO := hide hlo
              clear hlo
              go_wp2
              go_roundw
              case rel => exact ⟨_, _, 0, rfl, low_more HEV.out HAN.out (by rw [← HCV.out]; exact HLO.out), HZN.out⟩
              case measure => rw [HRG.out.left_eq, HZ.out.rg.left_eq]; exact HLT.out
          · go_wp2
            go_roundw
            case rel => exact ⟨_, _, 7, rfl, low_later HEV.out, HZN.out⟩
            case measure => rw [HRG.out.left_eq, HZ.out.rg.left_eq]; exact HLT.out
end Go.Proofs.Ytkdocoibfclfeaa
