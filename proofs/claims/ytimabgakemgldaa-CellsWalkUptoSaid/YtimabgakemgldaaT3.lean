import Derived.Test.YtimabgakemgldaaT2
import Derived.Laws.LoneSync
import Derived.WalkKit
import Derived.StillTailTactics
import Derived.Deep.RegionLaw
import Derived.Deep.RegionHeld3
import Derived.Laws.OwnMore
import Derived.Deep.Matrix
namespace Go.Proofs.Ytimabgakemgldaa
open Go.ChangeShapes Go.WideShapes Go.ChangeAt Go.RowKit Go.Deep
set_option linter.unusedSimpArgs false
set_option linter.unusedVariables false

structure MarkIs (w : World) (m mc : Nat) (v : Int) : Prop where
  c : w.cell? ⟨m, 0, none⟩ = some (.pointer (some ⟨mc, 0, none⟩))
  v : w.cell? ⟨mc, 0, none⟩ = some (.int .i64 v)
  f : w.frozen? ⟨mc, 0, none⟩ = false
/-- what stands best, and its pointer -/
def OffOk (w : World) (p : Option Addr) : Option (Int × Int) → Prop
  | none => p = none
  | some (who, x) => ∃ o, p = some ⟨o, 0, none⟩ ∧ OfferAt w o who x
structure BestIs (w : World) (b bc : Nat) (p : Option Addr) (o : Option (Int × Int)) : Prop where
  c : w.cell? ⟨b, 0, none⟩ = some (.pointer (some ⟨bc, 0, none⟩))
  v : w.cell? ⟨bc, 0, none⟩ = some (.pointer p)
  f : w.frozen? ⟨bc, 0, none⟩ = false
  o : OffOk w p o
structure GateIs (w : World) (g : Nat) (n a : Int) : Prop where
  n : w.cell? ⟨g, 0, none⟩ = some (.int .i64 n)
  a : w.cell? ⟨g, 1, none⟩ = some (.int .i64 a)
  f : w.frozen? ⟨g, 1, none⟩ = false
structure TickIs (w : World) (t tn : Nat) (many nx : Int) : Prop where
  m : w.cell? ⟨t, 0, none⟩ = some (.int .i64 many)
  c : w.cell? ⟨t, 1, none⟩ = some (.pointer (some ⟨tn, 0, none⟩))
  v : w.cell? ⟨tn, 0, none⟩ = some (.int .i64 nx)
  f : w.frozen? ⟨tn, 0, none⟩ = false
def ints (S : List Int) : List Value := S.map (Value.int .i64)
theorem ints_len (S : List Int) : (ints S).length = S.length := by simp [ints]
theorem ints_at {S : List Int} {k : Nat} (h : k < S.length) : (ints S)[k]? = some (.int .i64 (S.getD k 0)) := by
  unfold ints
  rw [List.getElem?_map, List.getD_eq_getElem?_getD, List.getElem?_eq_getElem h]; rfl
structure CntIs (w : World) (c cs : Nat) (S : List Int) : Prop where
  c : w.cell? ⟨c, 0, none⟩ = some (.slice (some ⟨cs, 0, none⟩) S.length S.length)
  r : w.ownsRow 0 94 1 (.slice (some ⟨cs, 0, none⟩) S.length S.length) S.length (ints S)
theorem PtrOk.of {w : World} {p : Option Addr} {o : Option (Int × Int)} (h : OffOk w p o) : PtrOk w p := by
  cases o with
  | none => obtain rfl : p = none := h; trivial
  | some z => obtain ⟨k, rfl, q⟩ := h; exact ⟨k, _, _, rfl, q⟩
theorem own_stays {w w' : World} {base : Nat} {e : TypeId} {size : Nat} {v : Value} {n : Nat} {xs : List Value} (h : w.ownsRow base e size v n xs) (hs : ∀ k, v.ownBlock = some k → w'.heap[k]? = w.heap[k]?) : w'.ownsRow base e size v n xs := by
  refine ⟨h.1, h.2.imp id ?_⟩
  rintro ⟨g, cap, cur, e1, e2, e3, e4⟩
  exact ⟨g, cap, cur, e1, e2, (hs g (by rw [e1]; rfl)).trans e3, e4⟩
theorem MarkIs.stays {w w' : World} {m mc : Nat} {v : Int} (h : MarkIs w m mc v) (h1 : w'.heap[m]? = w.heap[m]?) (h2 : w'.heap[mc]? = w.heap[mc]?) : MarkIs w' m mc v := ⟨cell_stay h.c h1, cell_stay h.v h2, fro_stay h.f h2⟩
theorem OffOk.stays {w w' : World} {p : Option Addr} {o : Option (Int × Int)} (h : OffOk w p o) (hk : ∀ k, p = some ⟨k, 0, none⟩ → w'.heap[k]? = w.heap[k]?) : OffOk w' p o := by
  cases o with
  | none => exact h
  | some z => obtain ⟨k, e, q⟩ := h; exact ⟨k, e, q.stays (hk k e)⟩
theorem BestIs.stays {w w' : World} {b bc : Nat} {p : Option Addr} {o : Option (Int × Int)} (h : BestIs w b bc p o) (h1 : w'.heap[b]? = w.heap[b]?) (h2 : w'.heap[bc]? = w.heap[bc]?) (hk : ∀ k, p = some ⟨k, 0, none⟩ → w'.heap[k]? = w.heap[k]?) : BestIs w' b bc p o := ⟨cell_stay h.c h1, cell_stay h.v h2, fro_stay h.f h2, h.o.stays hk⟩
theorem GateIs.stays {w w' : World} {g : Nat} {n a : Int} (h : GateIs w g n a) (h1 : w'.heap[g]? = w.heap[g]?) : GateIs w' g n a := ⟨cell_stay h.n h1, cell_stay h.a h1, fro_stay h.f h1⟩
theorem TickIs.stays {w w' : World} {t tn : Nat} {m n : Int} (h : TickIs w t tn m n) (h1 : w'.heap[t]? = w.heap[t]?) (h2 : w'.heap[tn]? = w.heap[tn]?) : TickIs w' t tn m n := ⟨cell_stay h.m h1, cell_stay h.c h1, cell_stay h.v h2, fro_stay h.f h2⟩
theorem CntIs.stays {w w' : World} {c cs : Nat} {S : List Int} (h : CntIs w c cs S) (h1 : w'.heap[c]? = w.heap[c]?) (h2 : w'.heap[cs]? = w.heap[cs]?) : CntIs w' c cs S := ⟨cell_stay h.c h1, own_stays h.r (fun k e => by cases e; exact h2)⟩
theorem OffOk.lt {w : World} {p : Option Addr} {o : Option (Int × Int)} (h : OffOk w p o) {k : Nat} (e : p = some ⟨k, 0, none⟩) : k < w.heap.size := by
  cases o with
  | none => obtain rfl : p = none := h; cases e
  | some z =>
    obtain ⟨k2, e2, q⟩ := h
    rw [e2] at e; cases e
    exact (Array.getElem?_eq_some_iff.1 q).1
theorem MarkIs.below {w w' : World} {m mc : Nat} {v : Int} (h : MarkIs w m mc v) (hb : Below w.heap.size w w') : MarkIs w' m mc v := h.stays (hb.block _ (World.block_lt_of_cell? w _ h.c)) (hb.block _ (World.block_lt_of_cell? w _ h.v))
theorem BestIs.below {w w' : World} {b bc : Nat} {p : Option Addr} {o : Option (Int × Int)} (h : BestIs w b bc p o) (hb : Below w.heap.size w w') : BestIs w' b bc p o := h.stays (hb.block _ (World.block_lt_of_cell? w _ h.c)) (hb.block _ (World.block_lt_of_cell? w _ h.v)) (fun k e => hb.block _ (h.o.lt e))
theorem GateIs.below {w w' : World} {g : Nat} {n a : Int} (h : GateIs w g n a) (hb : Below w.heap.size w w') : GateIs w' g n a := h.stays (hb.block _ (World.block_lt_of_cell? w _ h.n))
theorem TickIs.below {w w' : World} {t tn : Nat} {m n : Int} (h : TickIs w t tn m n) (hb : Below w.heap.size w w') : TickIs w' t tn m n := h.stays (hb.block _ (World.block_lt_of_cell? w _ h.m)) (hb.block _ (World.block_lt_of_cell? w _ h.v))
theorem CntIs.below {w w' : World} {c cs : Nat} {S : List Int} (h : CntIs w c cs S) (hb : Below w.heap.size w w') : CntIs w' c cs S := h.stays (hb.block _ (World.block_lt_of_cell? w _ h.c)) (hb.block _ (h.r.lt cs rfl).2)
theorem NewMark_c (x : Int) (w : World) : Calls Try.prog 13 #[.int .i64 x] w fun e w' => e = .returned (.pointer (some ⟨w.heap.size + 1, 0, none⟩)) ∧ MarkIs w' (w.heap.size + 1) w.heap.size x ∧ Below w.heap.size w w' := by
  go_enter Try.func13, Try.ntmps13
  go_wp2_with fail
  refine (Store_i w.heap.size 0 (.int .i64 0) x _ (by simp [go_sem]) (by simp [go_sem])).mono ?_
  rintro e w' ⟨⟨v, rfl⟩, rfl⟩
  go_wp2
  go_ret
  exact ⟨rfl, ⟨by simp [go_sem], by simp [go_sem], by simp [go_sem]⟩, by (focus repeat' (first | (with_reducible exact Below.refl _ _) | (with_reducible assumption) | (with_reducible refine Below.alloc ?_ ?_ _) | (with_reducible refine Below.drew ?_) | (with_reducible refine bdrewN ?_ _) | (with_reducible refine Below.setCell ?_ ?_ _) | (first | (with_reducible exact Nat.le_refl _) | (with_reducible assumption) | omega | (simp; omega) | (simp; done))))⟩
theorem NewBest_c (w : World) : Calls Try.prog 14 #[] w fun e w' => e = .returned (.pointer (some ⟨w.heap.size + 1, 0, none⟩)) ∧ BestIs w' (w.heap.size + 1) w.heap.size none none ∧ Below w.heap.size w w' := by
  go_enter Try.func14, Try.ntmps14
  go_wp2
  go_ret
  exact ⟨rfl, ⟨by simp [go_sem], by simp [go_sem], by simp [go_sem], rfl⟩, by (focus repeat' (first | (with_reducible exact Below.refl _ _) | (with_reducible assumption) | (with_reducible refine Below.alloc ?_ ?_ _) | (with_reducible refine Below.drew ?_) | (with_reducible refine bdrewN ?_ _) | (with_reducible refine Below.setCell ?_ ?_ _) | (first | (with_reducible exact Nat.le_refl _) | (with_reducible assumption) | omega | (simp; omega) | (simp; done))))⟩
theorem NewGate_ok (n : Int) (w : World) (h : 1 ≤ n) : Calls Try.prog 8 #[.int .i64 n] w fun e w' => e = .returned (.tuple #[.pointer (some ⟨w.heap.size, 0, none⟩), .int .i64 0]) ∧ GateIs w' w.heap.size n 0 ∧ Below w.heap.size w w' := by
  have h' : ¬ n < 1 := by omega
  go_enter Try.func8, Try.ntmps8
  go_wp2
  go_ret2
  exact ⟨rfl, ⟨by simp [go_sem], by simp [go_sem], by simp [go_sem]⟩, by (focus repeat' (first | (with_reducible exact Below.refl _ _) | (with_reducible assumption) | (with_reducible refine Below.alloc ?_ ?_ _) | (with_reducible refine Below.drew ?_) | (with_reducible refine bdrewN ?_ _) | (with_reducible refine Below.setCell ?_ ?_ _) | (first | (with_reducible exact Nat.le_refl _) | (with_reducible assumption) | omega | (simp; omega) | (simp; done))))⟩
theorem NewGate_bad (n : Int) (w : World) (h : n < 1) : Calls Try.prog 8 #[.int .i64 n] w fun e w' => e = .returned (.tuple #[.pointer none, .int .i64 2]) ∧ w = w' := by
  go_enter Try.func8, Try.ntmps8
  go_wp2
  go_ret2
  exact ⟨rfl, rfl⟩
theorem NewTickets_ok (n : Int) (w : World) (h : 0 ≤ n) : Calls Try.prog 9 #[.int .i64 n] w fun e w' => e = .returned (.tuple #[.pointer (some ⟨w.heap.size + 1, 0, none⟩), .int .i64 0]) ∧ TickIs w' (w.heap.size + 1) w.heap.size n 0 ∧ Below w.heap.size w w' := by
  have h' : ¬ n < 0 := by omega
  go_enter Try.func9, Try.ntmps9
  go_wp2
  go_ret2
  exact ⟨rfl, ⟨by simp [go_sem], by simp [go_sem], by simp [go_sem], by simp [go_sem]⟩, by (focus repeat' (first | (with_reducible exact Below.refl _ _) | (with_reducible assumption) | (with_reducible refine Below.alloc ?_ ?_ _) | (with_reducible refine Below.drew ?_) | (with_reducible refine bdrewN ?_ _) | (with_reducible refine Below.setCell ?_ ?_ _) | (first | (with_reducible exact Nat.le_refl _) | (with_reducible assumption) | omega | (simp; omega) | (simp; done))))⟩
theorem NewTickets_bad (n : Int) (w : World) (h : n < 0) : Calls Try.prog 9 #[.int .i64 n] w fun e w' => e = .returned (.tuple #[.pointer none, .int .i64 2]) ∧ w = w' := by
  go_enter Try.func9, Try.ntmps9
  go_wp2
  go_ret2
  exact ⟨rfl, rfl⟩
theorem NewCount_bad (n : Int) (w : World) (h : n < 1 ∨ 64 < n) : Calls Try.prog 7 #[.int .i64 n] w fun e w' => e = .returned (.tuple #[.pointer none, .int .i64 2]) ∧ w = w' := by
  rcases h with h | h
  · go_enter Try.func7, Try.ntmps7
    go_wp2
    go_ret2
    exact ⟨rfl, rfl⟩
  · have h' : ¬ n < 1 := by omega
    go_enter Try.func7, Try.ntmps7
    go_wp2
    go_ret2
    exact ⟨rfl, rfl⟩
theorem info94 : (Try.prog.info? 94).map (fun i => (i.zero, i.size, i.bytes)) = some (some (.agg #[.int .i64 0]), 1, 8) := by kernel_rfl
theorem made_ints (n : Nat) : (madeCells (Value.agg #[Value.int .i64 0]).cells (n * 1)).toList = ints (List.replicate n 0) := by
  rw [Nat.mul_one]
  show (madeCells #[Value.int .i64 0] n).toList = _
  apply List.ext_getElem
  · simp [madeCells, ints]
  · intro i h1 h2
    simp [madeCells, ints, Nat.mod_one]
def CntPost (n : Nat) (w : World) (e : Ending) (w' : World) : Prop := ∃ c cs, e = .returned (.tuple #[.pointer (some ⟨c, 0, none⟩), .int .i64 0]) ∧ CntIs w' c cs (List.replicate n 0) ∧ c ≠ cs ∧ w.heap.size ≤ c ∧ w.heap.size ≤ cs ∧ Below w.heap.size w w'
theorem NewCount_ok (n : Nat) (w : World) (h : 1 ≤ n) (h2 : n ≤ 64) : Calls Try.prog 7 #[.int .i64 (n : Int)] w (CntPost n w) := by
  obtain ⟨i0, hi0, hz0, hz1, hz2⟩ := info_parts info94
  obtain ⟨wm, hrun, hown0, hgr0⟩ := run_make_full (P := Try.prog) w w.heap.size 81 94 i0 _ 1 Try.underlying81 hi0 hz0 hz1 .i64 .i64 n (by rw [hz2]; omega) (by unfold maxLen; omega) (Nat.le_refl _)
  have hrun' : Sem.run Try.prog (Instr.makeSlice 81 (Value.int .i64 (n : Int)) (Value.int .i64 (n : Int))) w = .ok (.slice (some ⟨w.heap.size, 0, none⟩) n n) wm := hrun
  have HO := hide hown0
  have HG := hide hgr0
  have h' : ¬ (n : Int) < 1 := by omega
  have h3 : ¬ 64 < (n : Int) := by omega
  clear hrun hown0 hgr0
  go_enter Try.func7, Try.ntmps7
  go_wp2
  go_ret2
  refine ⟨wm.heap.size, w.heap.size, rfl, ?_, ?_, ?_, Nat.le_refl _, ?_⟩
  · refine ⟨by simp [go_sem], ?_⟩
    have q := HO.out
    rw [made_ints] at q
    have q2 : wm.ownsRow 0 94 1 (.slice (some ⟨w.heap.size, 0, none⟩) n n) n (ints (List.replicate n 0)) := by
      refine ⟨q.1, q.2.imp id ?_⟩
      rintro ⟨g, cap, cur, e, q, r⟩
      exact ⟨g, cap, cur, e, Nat.zero_le _, r⟩
    have q3 := q2.alloc (.cells #[.slice (some ⟨w.heap.size, 0, none⟩) n n] 83)
    simpa using q3
  · have := (HO.out.lt w.heap.size rfl).2; omega
  · exact HG.out.size
  · exact ((Below.refl _ _).grown HG.out (Nat.le_refl _) (fun q e => by cases e)).alloc HG.out.size _
end Go.Proofs.Ytimabgakemgldaa
