import Derived.Test.YtimabgakemgldaaT42
import Derived.Test.YtimabgakemgldaaT34
import Derived.Laws.LoneSync
import Derived.WalkKit
import Derived.StillTailTactics
import Derived.Deep.RegionLaw
import Derived.Deep.RegionHeld3
import Derived.Laws.OwnMore
import Derived.Deep.Matrix
import Derived.BigQuiet
import Derived.Deep.QuietTactic
import Derived.Laws.EntriesVeiled
import Derived.Deep.AppendLies
namespace Go.Proofs.Ytimabgakemgldaa
open Go.ChangeShapes Go.WideShapes Go.ChangeAt Go.RowKit Go.Deep
set_option linter.unusedSimpArgs false
set_option linter.unusedVariables false

/-- the crew under way -/
structure L1 (w0 W : World) (tag : Nat → Nat) (wp : Nat) (L : Nat → Nat) (n : Nat) (ops : Ops) (rp : Nat → Option Addr) (rc : Nat → Nat) (cv : Value) (kb : Nat → Nat) (dv : Nat → Value) (A : Ab) (k : Nat) : Prop where
  below : Below w0.heap.size w0 W
  lo : ∀ b, b < w0.heap.size → tag b = 0
  I : WI W tag wp L none A
  crew : W.ownsRow w0.heap.size 124 1 cv k (ptrs kb k)
  ct : ∀ g, cv.ownBlock = some g → tag g = 0
  cw : ∀ g, cv.ownBlock = some g → g ≠ wp
  B : ∀ i, i < k → WB W tag (kb i) i (.slice (rp i) (ops.getD i []).length (rc i)) (dv i)
  N : ∀ i, i < k → W.cell? ⟨kb i, 3, none⟩ = some (.pointer none)
  D : ∀ i, i < k → W.ownsRow w0.heap.size 52 3 (dv i) 0 []
  Dt : ∀ i, i < k → ∀ b, (dv i).ownBlock = some b → tag b = 3 + (n + i)
def kBox (k : Nat) (ov dv : Value) : Array Value := #[.int .i64 (k : Int), ov, dv, .pointer none, .bool false, .int .i64 0, .bool false, .int .i64 0]
theorem al_blk (W : World) (o : Obj) {b : Nat} (h : b < W.heap.size) : (W.alloc o).heap[b]? = W.heap[b]? := ((Below.refl _ W).alloc (Nat.le_refl _) o).block b h
theorem L1.next {w0 W W3 w2 : World} {tag : Nat → Nat} {wp : Nat} {L : Nat → Nat} {n : Nat} {ops : Ops} {rp : Nat → Option Addr} {rc : Nat → Nat} {cv v2 : Value} {kb : Nat → Nat} {dv : Nat → Value} {A : Ab} {k : Nat} {ov : Value} (hov : ov = .slice (rp k) (ops.getD k []).length (rc k)) (h : L1 w0 W tag wp L n ops rp rc cv kb dv A k)
    (hW : W3 = ((W.alloc (.cells #[] 52)).alloc (.cells (kBox k ov (.slice (some ⟨W.heap.size, 0, none⟩) 0 0)) 127)).alloc (.cells #[.pointer (some ⟨W.heap.size + 1, 0, none⟩)] 124))
    (hr : w2.ownsRow w0.heap.size 124 1 v2 (k + 1) (ptrs kb k ++ [.pointer (some ⟨W.heap.size + 1, 0, none⟩)])) (hg : W3.grownBy w2 cv.ownBlock) (hv : cv.ownBlock = v2.ownBlock ∨ ∀ g, v2.ownBlock = some g → W3.heap.size ≤ g) :
    ∃ tag' kb' dv', L1 w0 w2 tag' wp L n ops rp rc v2 kb' dv' A (k + 1) := by
  have zb := h.below.size
  have z3 : W3.heap.size = W.heap.size + 1 + 1 + 1 := by rw [hW, World.size_alloc, World.size_alloc, World.size_alloc]
  have b3 : ∀ b, b < W.heap.size → W3.heap[b]? = W.heap[b]? := fun b hb => by
    rw [hW, al_blk _ _ (by rw [World.size_alloc, World.size_alloc]; omega), al_blk _ _ (by rw [World.size_alloc]; omega), al_blk _ _ hb]
  have cl : ∀ g, cv.ownBlock = some g → g < W.heap.size ∧ tag g = 0 := fun g hg2 => ⟨(h.crew.lt g hg2).2, h.ct g hg2⟩
  have b2 : ∀ b, b < W3.heap.size → cv.ownBlock ≠ some b → w2.heap[b]? = W3.heap[b]? := fun b hb hn => hg.block b hb (fun e => hn e.symm)
  have st : ∀ b, b < W.heap.size → tag b ≠ 0 → w2.heap[b]? = W.heap[b]? := fun b hb hn => (b2 b (by omega) (fun e => hn (cl b e).2)).trans (b3 b hb)
  have d2 : w2.heap[W.heap.size]? = (W.alloc (.cells #[] 52)).heap[W.heap.size]? := (b2 _ (by omega) (fun e => by have := (cl _ e).1; omega)).trans (by rw [hW, al_blk _ _ (by rw [World.size_alloc, World.size_alloc]; omega), al_blk _ _ (by rw [World.size_alloc]; omega)])
  have d1 : w2.heap[W.heap.size + 1]? = ((W.alloc (.cells #[] 52)).alloc (.cells (kBox k ov (.slice (some ⟨W.heap.size, 0, none⟩) 0 0)) 127)).heap[W.heap.size + 1]? := (b2 _ (by omega) (fun e => by have := (cl _ e).1; omega)).trans (by rw [hW, al_blk _ _ (by rw [World.size_alloc, World.size_alloc]; omega)])
  have e0 : (W.alloc (.cells #[] 52)).heap.size = W.heap.size + 1 := World.size_alloc _ _
  obtain ⟨V, hV⟩ : ∃ V, V = W.alloc (.cells #[] 52) := ⟨_, rfl⟩
  rw [← hV] at d1 d2 e0
  rw [← e0] at d1
  have q : ∀ p, w2.cell? ⟨W.heap.size + 1, p, none⟩ = (kBox k ov (.slice (some ⟨W.heap.size, 0, none⟩) 0 0))[p]? := fun p => by
    rw [← e0]
    refine (World.cell?_of_block (a := ⟨V.heap.size, p, none⟩) d1).trans ?_
    simp [go_sem]
  have qf : ∀ p, w2.frozen? ⟨W.heap.size + 1, p, none⟩ = false := fun p => by
    rw [← e0]
    refine (World.frozen?_of_block (a := ⟨V.heap.size, p, none⟩) d1).trans ?_
    simp [go_sem]
  have td : ∀ b, b < W.heap.size → (fun b => if b < W.heap.size then tag b else if b = W.heap.size then 3 + (n + k) else if b = W.heap.size + 1 then 3 + k else 0) b = tag b := fun b hb => if_pos hb
  refine ⟨fun b => if b < W.heap.size then tag b else if b = W.heap.size then 3 + (n + k) else if b = W.heap.size + 1 then 3 + k else 0, upd kb k (W.heap.size + 1), upd dv k (.slice (some ⟨W.heap.size, 0, none⟩) 0 0), ⟨hg.os.trans (by rw [hW]; exact h.below.os), hg.tape.trans (by rw [hW]; exact h.below.tape), hg.output.trans (by rw [hW]; exact h.below.output), by have := hg.size; omega, fun b hb => ?_⟩, fun b hb => (td b (by omega)).trans (h.lo b hb), ?_, ?_, fun g eg => ?_, fun g eg => ?_, fun i hi => ?_, fun i hi => ?_, fun i hi => ?_, fun i hi b hb => ?_⟩
  · refine (b2 b (by omega) (fun e => ?_)).trans ((b3 b (by omega)).trans (h.below.block b hb))
    have := (h.crew.lt b e).1; omega
  · have hLn : ∀ j, j < 9 → w2.heap[L j]? = W.heap[L j]? := fun j hj => st _ (h.I.c.lt j hj) (by rw [h.I.t1 j hj]; decide)
    refine ⟨h.I.c.keep hLn (fun k e => by cases e), h.I.l.stays ((b2 _ (by have := h.I.l.lt; omega) (fun e => h.cw _ e rfl)).trans (b3 _ h.I.l.lt)), fun j hj => (td _ (h.I.c.lt j hj)).trans (h.I.t1 j hj), (td _ h.I.l.lt).trans h.I.tw, fun k e => by cases e⟩
  · rw [ptrs_snoc, upd_same, ptrs_congr (kb := kb) (fun i hi => upd_ne _ _ (by omega))]; exact hr
  · rcases hv with e | e
    · have := cl g (e.trans eg)
      exact (td g this.1).trans this.2
    · have := e g eg
      show (if _ then _ else _) = _
      rw [if_neg (by omega), if_neg (by omega), if_neg (by omega)]
  · rcases hv with e | e
    · exact h.cw g (e.trans eg)
    · have := e g eg; have := h.I.l.lt; omega
  · by_cases e : k = i
    · subst e
      rw [upd_same, upd_same]
      refine ⟨fun o ho => ⟨?_, qf o⟩, qf, q 0, (q 1).trans (by rw [← hov]; rfl), q 2, ?_⟩
      · rw [q o]
        obtain rfl | rfl | rfl | rfl | rfl | rfl | rfl | rfl : o = 0 ∨ o = 1 ∨ o = 2 ∨ o = 3 ∨ o = 4 ∨ o = 5 ∨ o = 6 ∨ o = 7 := by omega
        all_goals rfl
      · show (if _ then _ else _) = _
        rw [if_neg (by omega), if_neg (by omega), if_pos rfl]
    · rw [upd_ne _ _ e, upd_ne _ _ e]
      have p := h.B i (by omega)
      have s := st _ p.lt (by rw [p.t]; omega)
      exact ⟨p.h8.stays s, fun o => fro_stay (p.f o) s, cell_stay p.c0 s, cell_stay p.c1 s, cell_stay p.c2 s, (td _ p.lt).trans p.t⟩
  · by_cases e : k = i
    · subst e; rw [upd_same]; exact q 3
    · rw [upd_ne _ _ e]
      have p := h.B i (by omega)
      exact cell_stay (h.N i (by omega)) (st _ p.lt (by rw [p.t]; omega))
  · by_cases e : k = i
    · subst e; rw [upd_same]
      refine own_stays (w := W.alloc (.cells #[] 52)) (World.ownsRow_lit W #[] 0 (by omega) (by decide) (by simp)) (fun b eb => ?_)
      cases eb; rw [← hV]; exact d2
    · rw [upd_ne _ _ e]
      exact own_stays (h.D i (by omega)) (fun b eb => st b ((h.D i (by omega)).lt b eb).2 (by rw [h.Dt i (by omega) b eb]; omega))
  · by_cases e : k = i
    · subst e; rw [upd_same] at hb
      have eb : W.heap.size = b := Option.some.inj hb
      subst eb
      show (if _ then _ else _) = _
      rw [if_neg (by omega), if_pos rfl]
    · rw [upd_ne _ _ e] at hb
      exact (td b ((h.D i (by omega)).lt b hb).2).trans (h.Dt i (by omega) b hb)
theorem wsAt_rep {n i : Nat} (h : i < n) : wsAt (List.replicate n ⟨[], .no⟩) i = ⟨[], .no⟩ := by
  unfold wsAt; rw [List.getD_eq_getElem?_getD, List.getElem?_replicate, if_pos h]; rfl
theorem wrap_tm {k : Nat} (h : 0 < k) (h2 : (k : Int) ≤ 4503599627370496) {p : Int} : wrap64 (p.tmod (k : Int) + (k : Int)) = p.tmod (k : Int) + (k : Int) := by
  have h1 := Int.emod_nonneg p (show (k : Int) ≠ 0 by omega)
  have h3 := Int.emod_lt_of_pos p (show (0 : Int) < (k : Int) by omega)
  have e := Int.tmod_eq_emod (a := p) (b := (k : Int))
  have : (((k : Int).natAbs : Nat) : Int) = (k : Int) := by simp
  refine IntWalk.wrap64_in _ ?_
  split at e
  · have e0 : (((0 : Nat)) : Int) = 0 := rfl
    rw [e0] at e; omega
  · rw [this] at e; omega
theorem L1.done {w0 W : World} {tag : Nat → Nat} {wp : Nat} {L : Nat → Nat} {n : Nat} {ops : Ops} {rp : Nat → Option Addr} {rc : Nat → Nat} {g cc : Nat} {kb : Nat → Nat} {dv : Nat → Value} {A : Ab} (h : L1 w0 W tag wp L n ops rp rc (.slice (some ⟨g, 0, none⟩) n cc) kb dv A n) :
    Wk w0 W tag wp L none n ops rp rc g cc kb dv A (List.replicate n ⟨[], .no⟩) :=
  ⟨h.below, h.lo, h.I, h.crew, h.ct g rfl, h.B, fun i hi => by rw [wsAt_rep hi]; exact h.N i hi, fun i hi => by rw [wsAt_rep hi]; exact h.D i hi, h.Dt⟩
theorem new1 {w : World} {x : Value} {t : TypeId} {B : Nat} (h : B = w.heap.size) : ∀ j u, [x][j]? = some u → (w.alloc (.cells #[x] t)).cell? ((⟨B, 0, none⟩ : Addr).add j) = some u := by
  intro j u hu
  subst h
  have ha : (⟨w.heap.size, 0, none⟩ : Addr).add j = ⟨w.heap.size, j, none⟩ := by
    unfold Addr.add
    split
    · (rename_i h; subst h; rfl)
    · simp
  rw [ha]
  rcases j with _ | j <;> simp at hu <;> subst hu <;> simp [go_sem]
theorem one1 (x : Value) (h : x.oneCell' = true) : ∀ u ∈ [x], u.oneCell' = true := by
  intro u hu
  rw [List.mem_singleton] at hu
  rw [hu]; exact h
theorem info124 : (Try.prog.info? 124).map (fun i => (i.zero, i.size, i.bytes)) = some (some (.pointer none), 1, 8) := by kernel_rfl
theorem info77 : (Try.prog.info? 77).map (fun i => (i.zero, i.size, i.bytes)) = some (some (.slice none 0 0), 1, 24) := by kernel_rfl
theorem info52 : (Try.prog.info? 52).map (fun i => (i.zero, i.size, i.bytes)) = some (some (.agg #[.int .i64 0, .bool false, .int .i64 0]), 3, 24) := by kernel_rfl
theorem L1.first {w0 w1 : World} {wp : Nat} {L : Nat → Nat} {n : Nat} {ops : Ops} {rp : Nat → Option Addr} {rc : Nat → Nat} {A : Ab} {B : World} (h : CObj w1 L none A ∧ LW w1 wp L ∧ (∀ i, i < 9 → wp ≠ L i) ∧ B.heap.size ≤ wp ∧ (∀ i, i < 9 → B.heap.size ≤ L i) ∧ Below B.heap.size B w1) (hB : Below w0.heap.size w0 B) :
    ∃ tag, L1 w0 (w1.alloc (.cells #[] 124)) tag wp L n ops rp rc (.slice (some ⟨w1.heap.size, 0, none⟩) 0 0) (fun _ => 0) (fun _ => .nilFunc) A 0 := by
  obtain ⟨hC, hL, nw, lw, lL, hb⟩ := h
  have zB := hB.size
  have bb : Below w0.heap.size w0 (w1.alloc (.cells #[] 124)) := (hB.trans (hb.mono zB)).alloc (Nat.le_trans zB hb.size) _
  have ba : Below w1.heap.size w1 (w1.alloc (.cells #[] 124)) := (Below.refl _ _).alloc (Nat.le_refl _) _
  have inL : ∀ j, j < 9 → (∃ i, i < 9 ∧ L j = L i) := fun j hj => ⟨j, hj, rfl⟩
  open Classical in
  refine ⟨fun b => if ∃ i, i < 9 ∧ b = L i then 1 else 0, bb, fun b hbb => if_neg ?_, ⟨hC.below ba, hL.stays (ba.block _ hL.lt), fun j hj => if_pos (inL j hj), if_neg ?_, fun k e => by cases e⟩, ?_, fun g e => ?_, fun g e => ?_, fun i hi => by omega, fun i hi => by omega, fun i hi => by omega, fun i hi => by omega⟩
  · rintro ⟨i, hi, e⟩; have := lL i hi; omega
  · rintro ⟨i, hi, e⟩; exact nw i hi e
  · exact World.ownsRow_lit w1 #[] 0 (Nat.le_trans zB hb.size) (by decide) (by simp)
  · have eg : w1.heap.size = g := Option.some.inj e
    refine if_neg ?_
    rintro ⟨i, hi, e⟩; have := hC.lt i hi; omega
  · have eg : w1.heap.size = g := Option.some.inj e
    have := hL.lt; omega

theorem Wk.same {w0 W W' : World} {tag : Nat → Nat} {wp : Nat} {L : Nat → Nat} {po : Option Addr} {n : Nat} {ops : Ops} {rp : Nat → Option Addr} {rc : Nat → Nat} {g cc : Nat} {kb : Nat → Nat} {dv : Nat → Value} {A : Ab} {ws : List WS} (h : Wk w0 W tag wp L po n ops rp rc g cc kb dv A ws) (hbe : ∀ j, j < n → ∀ o, (wsAt ws j).s = .off o → beats o A.bs)
    (e0 : W'.heap = W.heap) (e1 : W'.os = W.os) (e2 : W'.tape = W.tape) (e3 : W'.output = W.output) : Wk w0 W' tag wp L po n ops rp rc g cc kb dv A ws := by
  have s : ∀ b : Nat, W'.heap[b]? = W.heap[b]? := fun b => by rw [e0]
  refine ⟨⟨e1.trans h.below.os, e2.trans h.below.tape, e3.trans h.below.output, by rw [e0]; exact h.below.size, fun b hb => (s b).trans (h.below.block b hb)⟩, h.lo, ⟨h.I.c.keep (fun i _ => s _) (fun k _ => s _), h.I.l.stays (s _), h.I.t1, h.I.tw, h.I.tp⟩, own_stays h.crew (fun _ _ => s _), h.ct, fun i hi => ?_, fun i hi => ?_, fun i hi => own_stays (h.D i hi) (fun _ _ => s _), h.Dt⟩
  · have q := h.B i hi
    exact ⟨q.h8.stays (s _), fun o => fro_stay (q.f o) (s _), cell_stay q.c0 (s _), cell_stay q.c1 (s _), cell_stay q.c2 (s _), q.t⟩
  · have q := h.B i hi
    exact (h.U i hi).stays q.lt q.t (fun b _ _ => ⟨s b, rfl⟩) (.inl ⟨rfl, rfl⟩) (hbe i hi)
theorem WOk.be {ops : Ops} {st : Ab × List WS} {c : Int} (h : WOk ops st c) : ∀ j, j < ops.length → ∀ o, (wsAt st.2 j).s = .off o → beats o st.1.bs := fun j hj o e => by
  have := h.sn j hj
  rw [e] at this; exact this.2.2
theorem pick_step {w0 V : World} {tag : Nat → Nat} {wp : Nat} {L : Nat → Nat} {po : Option Addr} {ops : Ops} {rp : Nat → Option Addr} {rc rb ro : Nat → Nat} {g cc ab ao : Nat} {kb : Nat → Nat} {dv : Nat → Value} {st : Ab × List WS} {c : Int} {i : Nat} (h : Wk w0 V tag wp L po ops.length ops rp rc g cc kb dv st.1 st.2) (hO : OpsIn w0 ab ao ops rp rc rb ro) (hok : WOk ops st c) (hc : c ≤ 4611686018427387904) (hi : i < ops.length) (hne : (wsAt st.2 i).did.length ≠ (ops.getD i []).length) :
    Calls Try.prog 43 #[.pointer (some ⟨kb i, 0, none⟩), .pointer (some ⟨wp, 0, none⟩)] V fun e w' => e = .returned (.bool (doneA st.1 (i : Int) (opAt ops i (wsAt st.2 i).did.length).1 (opAt ops i (wsAt st.2 i).did.length).2 (wsAt st.2 i).s)) ∧ StepQ V tag wp L po st.1 (kb i) i (.slice (rp i) (ops.getD i []).length (rc i)) (dv i) (opAt ops i (wsAt st.2 i).did.length).1 (opAt ops i (wsAt st.2 i).did.length).2 (wsAt st.2 i).s w' := by
  have hlt : (wsAt st.2 i).did.length < (ops.getD i []).length := by have := hok.le i hi; omega
  have hr := hO.adr i hi (by omega)
  obtain ⟨dp, dc, hd⟩ := own_any (h.D i hi)
  have hB := h.B i hi
  rw [hd, hr] at hB ⊢
  have k0 := hO.k i _ hi hlt
  have x0 := hO.x i _ hi hlt
  have l0 := World.block_lt_of_cell? w0 _ k0
  simp only at l0
  have b0 := h.below.block _ l0
  exact step_any wp (rb i) (ro i) _ (rc i) _ dc (kb i) i ops.length dp tag L po st.1 _ _ c _ V ⟨h.I, hB, h.U i hi, hok.sn i hi, hok.a⟩ hlt (cell_stay k0 b0) (cell_stay x0 b0) (h.lo _ l0) (hO.wf i _ hi hlt) hi hc
theorem pickA_skip {ops : Ops} {st : Ab × List WS} {at_ p : Int} {i : Nat} (hi : i = pk ops.length p) (h : (wsAt st.2 i).did.length = (ops.getD i []).length) : pickA ops st at_ p = st := by
  subst hi; unfold pickA; rw [if_pos h]
theorem pickA_look {ops : Ops} {st : Ab × List WS} {at_ p : Int} {i : Nat} (hi : i = pk ops.length p) (h : (wsAt st.2 i).did.length ≠ (ops.getD i []).length) (hd : doneA st.1 (i : Int) (opAt ops i (wsAt st.2 i).did.length).1 (opAt ops i (wsAt st.2 i).did.length).2 (wsAt st.2 i).s = false) : pickA ops st at_ p = (st.1, st.2.set i ⟨(wsAt st.2 i).did, nowA st.1 (opAt ops i (wsAt st.2 i).did.length).1⟩) := by
  subst hi; unfold pickA; rw [if_neg h]; unfold stepW; rw [if_neg (by rw [hd]; decide)]
theorem pickA_done {ops : Ops} {st : Ab × List WS} {at_ p : Int} {i : Nat} (hi : i = pk ops.length p) (h : (wsAt st.2 i).did.length ≠ (ops.getD i []).length) (hd : doneA st.1 (i : Int) (opAt ops i (wsAt st.2 i).did.length).1 (opAt ops i (wsAt st.2 i).did.length).2 (wsAt st.2 i).s = true) : pickA ops st at_ p = (doS st.1 (i : Int) (opAt ops i (wsAt st.2 i).did.length).1 (opAt ops i (wsAt st.2 i).did.length).2, st.2.set i ⟨(wsAt st.2 i).did ++ [((doA st.1 (i : Int) (opAt ops i (wsAt st.2 i).did.length).1 (opAt ops i (wsAt st.2 i).did.length).2).1, (doA st.1 (i : Int) (opAt ops i (wsAt st.2 i).did.length).1 (opAt ops i (wsAt st.2 i).did.length).2).2, at_)], .no⟩) := by
  subst hi; unfold pickA; rw [if_neg h]; unfold stepW; rw [if_pos hd]
theorem pick_looked {w0 V w' : World} {tag : Nat → Nat} {wp : Nat} {L : Nat → Nat} {po : Option Addr} {ops : Ops} {rp : Nat → Option Addr} {rc : Nat → Nat} {g cc : Nat} {kb : Nat → Nat} {dv : Nat → Value} {st : Ab × List WS} {c at_ p : Int} {i : Nat} (h : Wk w0 V tag wp L po ops.length ops rp rc g cc kb dv st.1 st.2) (hok : WOk ops st c) (hi : i < ops.length) (hp : i = pk ops.length p) (hne : (wsAt st.2 i).did.length ≠ (ops.getD i []).length)
    (hd : doneA st.1 (i : Int) (opAt ops i (wsAt st.2 i).did.length).1 (opAt ops i (wsAt st.2 i).did.length).2 (wsAt st.2 i).s = false) (hQ : StepQ V tag wp L po st.1 (kb i) i (.slice (rp i) (ops.getD i []).length (rc i)) (dv i) (opAt ops i (wsAt st.2 i).did.length).1 (opAt ops i (wsAt st.2 i).did.length).2 (wsAt st.2 i).s w') :
    ∃ tag' po' dv', Wk w0 w' tag' wp L po' ops.length ops rp rc g cc kb dv' (pickA ops st at_ p).1 (pickA ops st at_ p).2 := by
  rw [pickA_look hp hne hd]
  obtain ⟨tag', po', q | q⟩ := hQ
  · rw [hd] at q; exact absurd q.1 (by decide)
  · exact ⟨tag', po', _, h.looked hi hok.n hok.be q.2.1 q.2.2⟩
theorem pick_done {V w' : World} {tag : Nat → Nat} {wp : Nat} {L : Nat → Nat} {po : Option Addr} {A : Ab} {kb i : Nat} {ov dv : Value} {k x : Int} {s : Sn} (hd : doneA A (i : Int) k x s = true) (hQ : StepQ V tag wp L po A kb i ov dv k x s w') :
    ∃ tag' po', StepE V w' tag tag' wp L po po' A (doS A (i : Int) k x) kb i ov dv ∧ w'.cell? ⟨kb, 5, none⟩ = some (.int .i64 (doA A (i : Int) k x).1) ∧ w'.cell? ⟨kb, 6, none⟩ = some (.bool (doA A (i : Int) k x).2) ∧ w'.cell? ⟨kb, 7, none⟩ = some (.int .i64 0) := by
  obtain ⟨tag', po', q | q⟩ := hQ
  · exact ⟨tag', po', q.2⟩
  · rw [hd] at q; exact absurd q.1 (by decide)
/-- what stands of the walker when its step was the last -/
theorem Wk.row {w0 W W1 : World} {tag tag' : Nat → Nat} {wp : Nat} {L : Nat → Nat} {po po' : Option Addr} {n : Nat} {ops : Ops} {rp : Nat → Option Addr} {rc : Nat → Nat} {g cc : Nat} {kb : Nat → Nat} {dv : Nat → Value} {A A' : Ab} {ws : List WS} {i : Nat} (h : Wk w0 W tag wp L po n ops rp rc g cc kb dv A ws) (hi : i < n)
    (hE : StepE W W1 tag tag' wp L po po' A A' (kb i) i (.slice (rp i) (ops.getD i []).length (rc i)) (dv i)) (u : Value) :
    (W1.setCell ⟨kb i, 7, none⟩ u).ownsRow w0.heap.size 52 3 (dv i) (wsAt ws i).did.length (flatA (wsAt ws i).did) ∧ ∀ b, (dv i).ownBlock = some b → b ≠ kb i ∧ b < W1.heap.size := by
  have hcw : ∀ b, CW L b → tag b = 1 := fun b e => by
    rcases e with rfl | rfl | rfl | rfl | rfl
    · exact h.I.t1 1 (by decide)
    · exact h.I.t1 3 (by decide)
    · exact h.I.t1 5 (by decide)
    · exact h.I.t1 6 (by decide)
    · exact h.I.t1 8 (by decide)
  have hb : ∀ b, (dv i).ownBlock = some b → b ≠ kb i ∧ b < W.heap.size ∧ W1.heap[b]? = W.heap[b]? := fun b eb => by
    have t := h.Dt i hi b eb
    have l := ((h.D i hi).lt b eb).2
    have tk := (h.B i hi).t
    refine ⟨fun e => by rw [e] at t; omega, l, hE.t.heap b l (fun e => ?_)⟩
    rcases e with e | e
    · rw [hcw b e] at t; omega
    · omega
  have z := hE.t.size
  exact ⟨own_stays (h.D i hi) (fun b eb => (heap_setCell_other _ _ _ _ (hb b eb).1).trans (hb b eb).2.2), fun b eb => ⟨(hb b eb).1, by have := (hb b eb).2.1; omega⟩⟩
theorem Wk.later {w0 W W' : World} {tag : Nat → Nat} {wp : Nat} {L : Nat → Nat} {po : Option Addr} {n : Nat} {ops : Ops} {rp : Nat → Option Addr} {rc : Nat → Nat} {g cc : Nat} {kb : Nat → Nat} {dv : Nat → Value} {A : Ab} {ws : List WS} (h : Wk w0 W tag wp L po n ops rp rc g cc kb dv A ws) (hbe : ∀ j, j < n → ∀ o, (wsAt ws j).s = .off o → beats o A.bs) (hb : Below W.heap.size W W') :
    Wk w0 W' tag wp L po n ops rp rc g cc kb dv A ws := by
  refine ⟨h.below.trans (hb.mono h.below.size), h.lo, ⟨h.I.c.below hb, h.I.l.stays (hb.block _ h.I.l.lt), h.I.t1, h.I.tw, h.I.tp⟩, own_stays h.crew (fun k e => hb.block _ (h.crew.lt k e).2), h.ct, fun i hi => ?_, fun i hi => ?_, fun i hi => own_stays (h.D i hi) (fun k e => hb.block _ ((h.D i hi).lt k e).2), h.Dt⟩
  · have q := h.B i hi
    have s := hb.block _ q.lt
    exact ⟨q.h8.stays s, fun o => fro_stay (q.f o) s, cell_stay q.c0 s, cell_stay q.c1 s, cell_stay q.c2 s, q.t⟩
  · have q := h.B i hi
    exact (h.U i hi).stays q.lt q.t (fun b hb2 _ => ⟨hb.block b hb2, rfl⟩) (.inl ⟨rfl, rfl⟩) (hbe i hi)
theorem own_low {w : World} {base base' : Nat} {e : TypeId} {size : Nat} {v : Value} {n : Nat} {xs : List Value} (h : w.ownsRow base e size v n xs) (hb : base' ≤ base) : w.ownsRow base' e size v n xs := ⟨h.1, h.2.imp id (fun ⟨g, cap, cur, a, b, r⟩ => ⟨g, cap, cur, a, Nat.le_trans hb b, r⟩)⟩
/-- the answer is appended: what the region behind a step leaves -/
structure AppOk (w0 w1 V1 : World) (kbi : Nat) (dvi : Value) (dl : Nat) (did : List (Int × Bool × Int)) (a : Int × Bool × Int) (g2 c2 : Nat) (wn : World) : Prop where
  own : wn.ownsRow w0.heap.size 52 3 (.slice (some ⟨g2, 0, none⟩) (dl + 1) c2) (dl + 1) (flatA did ++ ansV a)
  size : V1.heap.size ≤ wn.heap.size
  os : wn.os = w1.os ∧ wn.tape = w1.tape ∧ wn.output = w1.output
  blk : ∀ b, b < w1.heap.size → dvi.ownBlock ≠ some b → wn.heap[b]? = V1.heap[b]?
  at_ : dvi.ownBlock = some g2 ∨ w1.heap.size ≤ g2
theorem AppOk.made {w0 w1 V1 WA wn : World} {kbi dl g2 c2 H : Nat} {dvi : Value} {did : List (Int × Bool × Int)} {a : Int × Bool × Int} {u0 : Value} {cs : Array Value} (hV1 : V1 = w1.setCell ⟨kbi, 7, none⟩ u0) (hd : ∀ b, dvi.ownBlock = some b → b < w1.heap.size) (own : wn.ownsRow w0.heap.size 52 3 (.slice (some ⟨g2, 0, none⟩) (dl + 1) c2) (dl + 1) (flatA did ++ ansV a)) (hg : WA.grownBy wn dvi.ownBlock) (hA : WA.heap = (V1.alloc (.cells cs 52)).heap) (hA1 : WA.os = V1.os ∧ WA.tape = V1.tape ∧ WA.output = V1.output) (hat : dvi.ownBlock = some g2 ∨ g2 = H) (hH : H = WA.heap.size) :
    AppOk w0 w1 V1 kbi dvi dl did a g2 c2 wn := by
  have zV : V1.heap.size = w1.heap.size := by rw [hV1, World.size_setCell]
  have zA : WA.heap.size = V1.heap.size + 1 := by rw [hA]; exact World.size_alloc _ _
  have hs := hg.size
  have e : V1.os = w1.os ∧ V1.tape = w1.tape ∧ V1.output = w1.output := by rw [hV1]; exact ⟨rfl, rfl, rfl⟩
  refine ⟨own, by omega, ⟨hg.os.trans (hA1.1.trans e.1), hg.tape.trans (hA1.2.1.trans e.2.1), hg.output.trans (hA1.2.2.trans e.2.2)⟩, fun b hb hn => ?_, hat.imp id (fun q => by omega)⟩
  refine (hg.block b (by omega) (fun q => hn q.symm)).trans ?_
  rw [hA]; exact al_blk V1 _ (by omega)
theorem Wk.did3 {w0 W W1 V1 V2 W' : World} {tag tag' : Nat → Nat} {wp : Nat} {L : Nat → Nat} {po po' : Option Addr} {n : Nat} {ops : Ops} {rp : Nat → Option Addr} {rc : Nat → Nat} {g cc : Nat} {kb : Nat → Nat} {dv : Nat → Value} {A A' : Ab} {ws : List WS} {i dl : Nat} {a : Int × Bool × Int} {g2 c2 : Nat} {u0 : Value} (h : Wk w0 W tag wp L po n ops rp rc g cc kb dv A ws) (hi : i < n) (hn : ws.length = n) (hbe : ∀ j, j < n → ∀ o, (wsAt ws j).s = .off o → beats o A.bs)
    (hE : StepE W W1 tag tag' wp L po po' A A' (kb i) i (.slice (rp i) (ops.getD i []).length (rc i)) (dv i)) (hV1 : V1 = W1.setCell ⟨kb i, 7, none⟩ u0) (hdl : dl = (wsAt ws i).did.length) (hA : AppOk w0 W1 V1 (kb i) (dv i) dl (wsAt ws i).did a g2 c2 V2)
    (hW : W' = (V2.setCell ⟨kb i, 2, none⟩ (.slice (some ⟨g2, 0, none⟩) (dl + 1) c2)).setCell ⟨kb i, 3, none⟩ (.pointer none)) :
    ∃ tag2 dv2, Wk w0 W' tag2 wp L po' n ops rp rc g cc kb dv2 A' (ws.set i ⟨(wsAt ws i).did ++ [a], .no⟩) := by
  subst hdl; subst hV1
  exact ⟨_, _, h.did hi hn hbe hE _ u0 (Nat.le_refl _) hA.size hA.os hA.blk hA.own hA.at_ hW⟩
theorem new3 {w : World} {x y z : Value} {t : TypeId} {B : Nat} (h : B = w.heap.size) : ∀ j u, [x, y, z][j]? = some u → (w.alloc (.cells #[x, y, z] t)).cell? ((⟨B, 0, none⟩ : Addr).add j) = some u := by
  intro j u hu
  subst h
  have ha : (⟨w.heap.size, 0, none⟩ : Addr).add j = ⟨w.heap.size, j, none⟩ := by
    unfold Addr.add
    split
    · (rename_i h; subst h; rfl)
    · simp
  rw [ha]
  rcases j with _ | _ | _ | j <;> simp at hu <;> subst hu <;> simp [go_sem]

/-- the answers: a slice of slices -/
structure OutIs (w : World) (B : Nat) (v : Value) (n : Nat) (dv : Nat → Value) (did : Nat → List (Int × Bool × Int)) : Prop where
  o : w.ownsRow B 77 1 v n ((List.range n).map dv)
  d : ∀ i, i < n → w.ownsRow B 52 3 (dv i) (did i).length (flatA (did i))
  ne : ∀ i, i < n → ∀ b, (dv i).ownBlock = some b → v.ownBlock ≠ some b
theorem OutIs.keep {w w' : World} {B B' : Nat} {v : Value} {n : Nat} {dv : Nat → Value} {did : Nat → List (Int × Bool × Int)} (h : OutIs w B v n dv did) (hs : ∀ b, B ≤ b → w'.heap[b]? = w.heap[b]?) (hB : B' ≤ B) : OutIs w' B' v n dv did :=
  ⟨own_low (own_stays h.o (fun b eb => hs b (h.o.lt b eb).1)) hB, fun i hi => own_low (own_stays (h.d i hi) (fun b eb => hs b ((h.d i hi).lt b eb).1)) hB, h.ne⟩
def WalkPost (A : Ab) (n : Nat) (ws : List WS) (w : World) (e : Ending) (w' : World) : Prop := ∃ v dv, e = .returned (.tuple #[v, endV A, .int .i64 0]) ∧ OutIs w' w.heap.size v n dv (fun i => (wsAt ws i).did) ∧ Below w.heap.size w w'
end Go.Proofs.Ytimabgakemgldaa
