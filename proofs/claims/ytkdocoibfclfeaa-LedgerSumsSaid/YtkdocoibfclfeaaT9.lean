import Derived.Maps.AppendAt
import Derived.Deep.AppendLies
import Derived.Laws.OwnMore
import Derived.Test.YtkdocoibfclfeaaT8
namespace Go.Proofs.Ytkdocoibfclfeaa
open Go.ChangeShapes Go.WideShapes Go.ChangeAt Go.RowKit Go.Deep Go.Maps Go.ChangeMaps Go.WideMaps
set_option linter.unusedSimpArgs false
set_option linter.unusedVariables false

def negE (p : List Ent) : List Ent := p.map fun x => (x.1, -x.2)
theorem negE_len (p : List Ent) : (negE p).length = p.length := by simp [negE]
def negTo (p : List Ent) (k : Nat) : List Ent := negE (p.take k) ++ p.drop k
theorem negTo_len (p : List Ent) (k : Nat) : (negTo p k).length = p.length := by simp [negTo, negE]; omega
theorem negTo_0 (p : List Ent) : negTo p 0 = p := rfl
theorem negTo_all (p : List Ent) : negTo p p.length = negE p := by simp [negTo]
theorem negTo_at {p : List Ent} {k : Nat} (hk : k < p.length) : ent (negTo p k) k = ent p k := by
  unfold ent negTo
  have hl : (negE (p.take k)).length = k := by simp [negE]; omega
  rw [List.getD_eq_getElem?_getD, List.getD_eq_getElem?_getD, List.getElem?_append_right (by omega), hl]
  simp
theorem negTo_step {p : List Ent} {k : Nat} (hk : k < p.length) : negTo p (k + 1) = (negTo p k).set k ((ent p k).1, -(ent p k).2) := by
  have hl : (negE (p.take k)).length = k := by simp [negE]; omega
  unfold negTo
  rw [take_snoc p k hk, show negE (p.take k ++ [ent p k]) = negE (p.take k) ++ [((ent p k).1, -(ent p k).2)] by simp [negE], List.set_append, if_neg (by omega), hl, Nat.sub_self, List.drop_eq_getElem_cons hk, List.set_cons_zero, List.append_assoc]
  rfl
theorem flatE_set (p : List Ent) : ∀ (i : Nat) (c : Int), i < p.length → flatE (p.set i ((ent p i).1, c)) = (flatE p).set (i * 2 + 1) (.int .i64 c) := by
  induction p with
  | nil => intro i c h; simp at h
  | cons x r ih =>
    intro i c h
    rcases i with _ | i
    · rfl
    · have e : (i + 1) * 2 + 1 = i * 2 + 1 + 1 + 1 := by omega
      have e2 : ent (x :: r) (i + 1) = ent r i := rfl
      rw [List.set_cons_succ, flatE_cons, flatE_cons, e, List.set_cons_succ, List.set_cons_succ, e2, ih i c (by simpa using h)]
theorem PostAny.from {I : Nat → Prop} {F : Fp} {S : LS} {p : List Ent} {w w1 : World} {e : Ending} {w' : World} (h : PostAny I F S p w1 e w') (hb : Below w.heap.size w w1) : PostAny I F S p w e w' := by
  rcases h with ⟨h1, h2, h3⟩ | ⟨h1, h2, I', F', h3, h4⟩
  · exact .inl ⟨h1, h2, bstep hb h3⟩
  · exact .inr ⟨h1, h2, I', F', h3, (Step.of_below hb).trans h4⟩
/-- what holds of a ledger at all times -/
structure Fine (S : LS) : Prop where
  snd : Sound S.acc
  frm : ∀ p ∈ S.posts, Formed p
  few : S.posts.length ≤ 1048576
theorem ent_good {p : List Ent} (h : Formed p) {k : Nat} (hk : k < p.length) : goodEnt (ent p k) := h.2.2.1 _ (ent_mem hk)
def BackPost (I : Nat → Prop) (F : Fp) (S : LS) (p : List Ent) (w : World) (e : Ending) (w' : World) : Prop := ∃ c r : Int, e = .returned (.tuple #[.int .i64 r, .int .i64 c]) ∧ PostAny I F S (negE p) w e w'
set_option maxRecDepth 100000 in
set_option maxHeartbeats 4000000 in
theorem Back_yes (I : Nat → Prop) (F : Fp) (S : LS) (n : Nat) (p : List Ent) (w : World) (h : LObj I F S w) (hp : S.posts[n]? = some p) (hS : Fine S) : Calls Try.prog 15 #[.pointer (some ⟨F.b, 0, none⟩), .int .i64 (n : Int)] w (PostAny I F S (negE p) w) := by
  have H := hide h
  have HP := hide hp
  have HS := hide hS
  have hfp := hS.frm p (List.mem_of_getElem? hp)
  have HFP := hide hfp
  have hl0 := hfp.1
  have hl1 := hfp.2.1
  clear h hp hS hfp
  go_enter Try.func15, Try.ntmps15
  go_wp2_with (go_at_call 31; refine (Posting_yes I F S n p _ H.out HP.out HS.out.few (by omega)).mono ?_; rintro e w1 ⟨v', rfl, own1, hb1⟩; obtain ⟨g, cap, rfl, hg1, hg2⟩ := own1.form (by omega); have OW := hide own1; have HB1 := hide hb1; clear own1 hb1)
  go_loopw [20] (fun v20 wr => ∃ k : Nat, k ≤ p.length ∧ v20 = .int .i64 (k : Int) ∧ wr.ownsRow w.heap.size 63 2 (.slice (some ⟨g, 0, none⟩) p.length cap) p.length (flatE (negTo p k)) ∧ Below w.heap.size w wr) (fun v20 _ => p.length - (intOf v20).toNat)
  case atStart => exact ⟨0, Nat.zero_le _, rfl, OW.out, HB1.out⟩
  case round =>
    obtain ⟨k, hk, rfl, hown, hbw⟩ := hrel
    have HO := hide hown
    have HBW := hide hbw
    clear hown hbw
    by_cases hlt : k < p.length
    · have c0 : wr.cell? ⟨g, k * 2, none⟩ = some (.string (ent p k).1) := by
        rw [HO.out.cellAt (k * 2) (by omega), (flatE_at (negTo p k) k (by rw [negTo_len]; exact hlt)).1, negTo_at hlt]
      have c1 : wr.cell? ⟨g, k * 2 + 1, none⟩ = some (.int .i64 (ent p k).2) := by
        rw [HO.out.cellAt (k * 2 + 1) (by omega), (flatE_at (negTo p k) k (by rw [negTo_len]; exact hlt)).2, negTo_at hlt]
      have f1 := HO.out.frozenAt (k * 2 + 1)
      have hge := ent_good HFP.out hlt
      obtain ⟨c, hcc⟩ : ∃ c, c = (ent p k).2 := ⟨_, rfl⟩
      rw [← hcc] at c1
      have HCC := hide hcc
      have a0 : IntKind.i64.wrap (-c) = -c := IntWalk.i64_in _ (by have q1 := hge.2.2.1; have q2 := hge.2.2.2; rw [← hcc] at q1 q2; unfold maxC at q1 q2; constructor <;> omega)
      have a1 : wrap64 (-c) = -c := by rw [← IntWalk.i64_left]; exact a0
      clear hge hcc
      go_wp2
      go_roundw
      case rel =>
        have st := HO.out.stored (k * 2 + 1) (.int .i64 (-c))
        refine ⟨k + 1, by omega, by go_num, ?_, HBW.out.setCell (p := ⟨g, k * 2 + 1, none⟩) hg1 _⟩
        rw [negTo_step hlt, ← negTo_at hlt, flatE_set _ _ _ (by rw [negTo_len]; exact hlt), negTo_at hlt, ← HCC.out]
        exact st.1
      case measure => simp [intOf]; omega
    · have hke : k = p.length := by omega
      have HE := hide (show ∃ so cp, (Value.slice (some ⟨g, 0, none⟩) p.length cap) = .slice so (negE p).length cp ∧ Ents so cp (negE p) wr from by
        have q := HO.out
        rw [hke, negTo_all] at q
        exact Ents.of_own q)
      clear hke
      obtain ⟨so, cp, hv, hE⟩ := HE.out
      obtain ⟨rfl, rfl⟩ : so = some ⟨g, 0, none⟩ ∧ cp = cap := by
        simp only [Value.slice.injEq] at hv
        exact ⟨hv.1.symm, hv.2.2.symm⟩
      have HEE := hide hE
      have HNL := hide (negE_len p)
      clear hv hE HE
      go_wp2_with fail
      have hcall := Post_c I F S (some ⟨g, 0, none⟩) cp (negE p) wr (H.out.below HBW.out) HEE.out HS.out.snd HS.out.few
      rw [HNL.out] at hcall
      refine hcall.mono ?_
      rintro e w3 hp3
      have hp4 := hp3.from HBW.out
      have hsh : ∃ r c : Int, e = .returned (.tuple #[.int .i64 r, .int .i64 c]) := by
        rcases hp3 with ⟨_, q, _⟩ | ⟨_, q, _⟩
        · exact ⟨_, _, q⟩
        · exact ⟨_, _, q⟩
      obtain ⟨r, c, rfl⟩ := hsh
      have HP4 := hide hp4
      clear hp3 hp4 hcall
      go_wp2
      refine bodyPost_ret (v := .tuple #[.int .i64 r, .int .i64 c]) (by simp [results, Try.f15, go_sem]) rfl HP4.out
set_option maxHeartbeats 1000000 in
theorem Back_no (I : Nat → Prop) (F : Fp) (S : LS) (x : Int) (w : World) (h : LObj I F S w) (hx : x < 0 ∨ S.posts.length ≤ x) : Calls Try.prog 15 #[.pointer (some ⟨F.b, 0, none⟩), .int .i64 x] w fun e w' => e = .returned (.tuple #[.int .i64 0, .int .i64 4]) ∧ w = w' := by
  have H := hide h
  have HX := hide hx
  clear h hx
  go_enter Try.func15, Try.ntmps15
  go_wp2_with (go_at_call 31; refine (Posting_no I F S x _ H.out HX.out).mono ?_; rintro e w1 ⟨rfl, rfl⟩)
  refine bodyPost_ret (v := .tuple #[.int .i64 0, .int .i64 4]) (by simp [results, Try.f15, go_sem]) rfl ⟨rfl, rfl⟩
theorem MapIs.block {P : Program} {k : TypeId} {w : World} {b n : Nat} {f : Lit → Option Value} (h : MapIs P k w b n f) : ∃ es ck, w.heap[b]? = some (.map es ck) ∧ es.size = n := by
  obtain ⟨D, ⟨es, ck, h1, h2, h3, h4⟩, h5, _⟩ := h
  refine ⟨es, ck, h1, ?_⟩
  rw [← h5, h4]
  simp [Maps.size, length_sorted]
set_option maxHeartbeats 1000000 in
theorem Len_c (I : Nat → Prop) (F : Fp) (S : LS) (w : World) (h : LObj I F S w) : Calls Try.prog 25 #[.pointer (some ⟨F.b, 0, none⟩)] w fun e w' => e = .returned (.tuple #[.int .i64 (S.acc.length : Int), .int .i64 (S.posts.length : Int)]) ∧ Below w.heap.size w w' := by
  obtain ⟨vs, hrow, _⟩ := h.pr
  obtain ⟨pa, pc, hpv⟩ := own_any hrow
  have b1 := h.b1
  have b2 := h.b2
  rw [hpv] at b2
  have hg : ∀ q, Sem.run Try.prog (Builtin.len_ #[57] 3 #[.map (some F.m)]) (w.drewN q) = .ok (.int .i64 (S.acc.length : Int)) (w.drewN q) := fun q => (h.mm.stays (w' := w.drewN q) (Nat.le_refl _) rfl).len Try.underlying57 3
  have H := hide h
  clear h hrow hpv
  go_enter Try.func25, Try.ntmps25
  go_wp2_with (go_at_call 22; refine (isLedger _ F.b F.t H.out.b0).mono ?_; rintro e w' ⟨rfl, rfl⟩)
  go_quiet (fail)
  go_wp2
  refine bodyPost_ret (v := .tuple #[.int .i64 (S.acc.length : Int), .int .i64 (S.posts.length : Int)]) (by simp [results, Try.f25, go_sem]) rfl ⟨rfl, by (focus repeat' (first | (with_reducible exact Below.refl _ _) | (with_reducible assumption) | (with_reducible refine Below.alloc ?_ ?_ _) | (with_reducible refine Below.drew ?_) | (with_reducible refine bdrewN ?_ _) | (with_reducible refine Below.setCell ?_ ?_ _) | (first | (with_reducible exact Nat.le_refl _) | (with_reducible assumption) | omega | (simp; omega) | (simp; done))))⟩
end Go.Proofs.Ytkdocoibfclfeaa
