import Derived.Test.YtehpjipmlpaflaaU7
import Derived.Test.YtehpjipmlpaflaaU6
namespace Go.Proofs.Ytehpjipmlpaflaa.un
open Go.ChangeShapes Go.WideShapes Go.ChangeAt Go.RowKit Go.Deep Go.Shelf
set_option linter.unusedSimpArgs false
set_option linter.unusedVariables false

attribute [local go_sem] Oper.semAt_some

set_option maxHeartbeats 1000000 in
theorem rwrong_a (count floor : Int) (so : Option Addr) (cap : Nat) (L : List (List Int)) (w : World) (h : count < 1) : Calls Try.prog 19 #[.int .i64 count, .int .i64 floor, .slice so L.length cap] w fun e w' => e = .returned (.int .i64 2) ∧ Below w.heap.size w w' := by
  go_enter Try.func19, Try.ntmps19
  go_wp2_with fail
  refine bodyPost_ret (v := .int .i64 2) (by simp [results, Try.f19, go_sem]) rfl ⟨rfl, Below.refl _ _⟩

set_option maxHeartbeats 1000000 in
theorem rwrong_b (count floor : Int) (so : Option Addr) (cap : Nat) (L : List (List Int)) (w : World) (h0 : 1 ≤ count) (h : 64 < count) : Calls Try.prog 19 #[.int .i64 count, .int .i64 floor, .slice so L.length cap] w fun e w' => e = .returned (.int .i64 2) ∧ Below w.heap.size w w' := by
  go_enter Try.func19, Try.ntmps19
  go_wp2_with fail
  refine bodyPost_ret (v := .int .i64 2) (by simp [results, Try.f19, go_sem]) rfl ⟨rfl, Below.refl _ _⟩

set_option maxHeartbeats 1000000 in
theorem rwrong_c (count floor : Int) (so : Option Addr) (cap : Nat) (L : List (List Int)) (w : World) (h0 : 1 ≤ count) (h1 : count ≤ 64) (hf : ¬ okC floor) : Calls Try.prog 19 #[.int .i64 count, .int .i64 floor, .slice so L.length cap] w fun e w' => e = .returned (.int .i64 2) ∧ Below w.heap.size w w' := by
  have HF := hide hf
  clear hf
  go_enter Try.func19, Try.ntmps19
  go_wp2_with (go_at_call 30; refine (rcoins_no _ _ HF.out).mono ?_; rintro e w5 ⟨rfl, rfl⟩)
  refine bodyPost_ret (v := .int .i64 2) (by simp [results, Try.f19, go_sem]) rfl ⟨rfl, Below.refl _ _⟩

set_option maxHeartbeats 1000000 in
theorem rwrong_d (count floor : Int) (so : Option Addr) (cap : Nat) (L : List (List Int)) (w : World) (h0 : 1 ≤ count) (h1 : count ≤ 64) (hf : okC floor) (hl : 4096 < L.length) : Calls Try.prog 19 #[.int .i64 count, .int .i64 floor, .slice so L.length cap] w fun e w' => e = .returned (.int .i64 2) ∧ Below w.heap.size w w' := by
  have HF := hide hf
  have hl2 : (4096 : Int) < (L.length : Int) := by omega
  clear hf
  go_enter Try.func19, Try.ntmps19
  go_wp2_with (go_at_call 30; refine (rcoins_yes _ _ HF.out).mono ?_; rintro e w5 ⟨rfl, rfl⟩)
  refine bodyPost_ret (v := .int .i64 2) (by simp [results, Try.f19, go_sem]) rfl ⟨rfl, Below.refl _ _⟩

set_option maxHeartbeats 2000000 in
theorem rwrong_loop (count floor : Int) (so : Option Addr) (cap : Nat) (L : List (List Int)) (rs : Nat → Int) (v : Int) (w : World) (hb : BRows so L w) (h0 : 1 ≤ count) (h1 : count ≤ 64) (hf : okC floor) (hl : L.length ≤ 4096) (hr : ∀ i, i < L.length → CheckIs count floor (bidAt L i) (rs i))
    (hv : ((∃ i, i < L.length ∧ rs i = 2) ∧ v = 2) ∨ ((∀ i, i < L.length → rs i ≠ 2) ∧ v = lowOf rs L.length)) : Calls Try.prog 19 #[.int .i64 count, .int .i64 floor, .slice so L.length cap] w fun e w' => e = .returned (.int .i64 v) ∧ Below w.heap.size w w' := by
  have HF := hide hf
  have HB := hide hb
  have HR := hide hr
  have HV := hide hv
  have hl2 : (L.length : Int) ≤ 4096 := by omega
  clear hf hb hr hv
  go_enter Try.func19, Try.ntmps19
  go_wp2_with (go_at_call 30; refine (rcoins_yes _ _ HF.out).mono ?_; rintro e w5 ⟨rfl, rfl⟩)
  go_loopw [7, 8] (fun v7 v8 wr => ∃ i : Nat, i ≤ L.length ∧ v8 = .int .i64 (i : Int) ∧ v7 = .int .i64 (lowOf rs i) ∧ (∀ q, q < i → rs q ≠ 2) ∧ Below w.heap.size w wr) (fun _ v8 _ => L.length - (intOf v8).toNat)
  case atStart => exact ⟨0, Nat.zero_le _, rfl, rfl, fun q h => by omega, Below.refl _ _⟩
  case round =>
    obtain ⟨i, hi, rfl, rfl, hg, hbw⟩ := hrel
    have HG := hide hg
    have HBW := hide hbw
    clear hg hbw
    have hi0 : (0 : Int) ≤ (i : Int) := by omega
    by_cases hlt : i < L.length
    · have hlt' : (i : Int) < (L.length : Int) := by omega
      obtain ⟨b, off, si, ci, rfl, ck, hrow⟩ := (HB.out.below HBW.out).spot hlt
      have HCK := hide ((rcheck_is count floor si ci (bidAt L i) wr hrow (rs i) (HR.out i hlt)))
      have HRI := hide (HR.out i hlt)
      clear hrow
      obtain ⟨r, hrr⟩ : ∃ r, r = rs i := ⟨_, rfl⟩
      rw [← hrr] at HCK HRI
      obtain ⟨lo, hlo⟩ : ∃ lo, lo = lowOf rs i := ⟨_, rfl⟩
      rw [← hlo]
      have HLO := hide hlo
      have HLS := hide (show lowOf rs (i + 1) = if rs i = 7 then 7 else lowOf rs i from rfl)
      have HRR := hide hrr
      clear hlo hrr
      rcases HRI.out with ⟨q1, rfl⟩ | ⟨q1, q2, rfl⟩ | ⟨q1, q2, rfl⟩
      · clear q1
        go_wp2_with (go_at_call 18; refine HCK.out.mono ?_; rintro e w5 ⟨rfl, hb5⟩; have HB5 := hide (bstep HBW.out hb5); clear hb5)
        rcases HV.out with ⟨_, rfl⟩ | ⟨q, _⟩
        · refine bodyPost_ret (v := .int .i64 2) (by simp [results, Try.f19, go_sem]) rfl ⟨rfl, HB5.out⟩
        · exact absurd HRR.out.symm (q i hlt)
      · clear q1 q2
        go_wp2_with (go_at_call 18; refine HCK.out.mono ?_; rintro e w5 ⟨rfl, hb5⟩; have HB5 := hide (bstep HBW.out hb5); clear hb5)
        go_roundw
        case rel =>
          refine ⟨i + 1, by omega, by go_num, by rw [HLS.out, if_pos HRR.out.symm], fun q h => ?_, HB5.out⟩
          rcases Nat.lt_or_ge q i with h3 | h3
          · exact HG.out q h3
          · obtain rfl : q = i := by omega
            rw [← HRR.out]; decide
        case measure => (first | (simp [intOf]; done) | (simp [intOf]; omega))
      · clear q1 q2
        go_wp2_with (go_at_call 18; refine HCK.out.mono ?_; rintro e w5 ⟨rfl, hb5⟩; have HB5 := hide (bstep HBW.out hb5); clear hb5)
        go_roundw
        case rel =>
          refine ⟨i + 1, by omega, by go_num, by rw [HLS.out, if_neg (by rw [← HRR.out]; decide), HLO.out], fun q h => ?_, HB5.out⟩
          rcases Nat.lt_or_ge q i with h3 | h3
          · exact HG.out q h3
          · obtain rfl : q = i := by omega
            rw [← HRR.out]; decide
        case measure => (first | (simp [intOf]; done) | (simp [intOf]; omega))
    · obtain rfl : i = L.length := by omega
      rcases HV.out with ⟨⟨q, hq, hq2⟩, _⟩ | ⟨_, rfl⟩
      · exact absurd hq2 (HG.out q hq)
      · go_wp2
        refine bodyPost_ret (v := .int .i64 (lowOf rs L.length)) (by simp [results, Try.f19, go_sem]) rfl ⟨rfl, HBW.out⟩
/-- what is wrong with all bids -/
def WrongIs (count floor : Int) (L : List (List Int)) (v : Int) : Prop :=
  (¬ (1 ≤ count ∧ count ≤ 64 ∧ okC floor ∧ L.length ≤ 4096) ∧ v = 2) ∨ ((1 ≤ count ∧ count ≤ 64 ∧ okC floor ∧ L.length ≤ 4096) ∧ ∃ rs : Nat → Int, (∀ i, i < L.length → CheckIs count floor (bidAt L i) (rs i)) ∧
    (((∃ i, i < L.length ∧ rs i = 2) ∧ v = 2) ∨ ((∀ i, i < L.length → rs i ≠ 2) ∧ v = lowOf rs L.length)))
theorem wrong_one (count floor : Int) (L : List (List Int)) : ∃ v, WrongIs count floor L v := by
  by_cases h : 1 ≤ count ∧ count ≤ 64 ∧ okC floor ∧ L.length ≤ 4096
  · obtain ⟨rs, hrs⟩ : ∃ rs : Nat → Int, ∀ i, CheckIs count floor (bidAt L i) (rs i) := ⟨fun i => Classical.choose (check_one count floor (bidAt L i)), fun i => Classical.choose_spec (check_one count floor (bidAt L i))⟩
    by_cases h2 : ∃ i, i < L.length ∧ rs i = 2
    · exact ⟨2, .inr ⟨h, rs, fun i _ => hrs i, .inl ⟨h2, rfl⟩⟩⟩
    · exact ⟨lowOf rs L.length, .inr ⟨h, rs, fun i _ => hrs i, .inr ⟨fun i hi q => h2 ⟨i, hi, q⟩, rfl⟩⟩⟩
  · exact ⟨2, .inl ⟨h, rfl⟩⟩
theorem wrong_is {count floor : Int} {so : Option Addr} {cap : Nat} {L : List (List Int)} {v : Int} (h : WrongIs count floor L v) (w : World) (hb : BRows so L w) : Calls Try.prog 27 #[.int .i64 count, .int .i64 floor, .slice so L.length cap] w fun e w' => e = .returned (.int .i64 v) ∧ w' = w := by
  rcases h with ⟨h, rfl⟩ | ⟨⟨a, b, c, d⟩, rs, h1, h2⟩
  · by_cases a : count < 1
    · exact wrong_a count floor so cap L w a
    · by_cases b : 64 < count
      · exact wrong_b count floor so cap L w (by omega) b
      · by_cases c : okC floor
        · exact wrong_d count floor so cap L w (by omega) (by omega) c (by rcases Nat.lt_or_ge 4096 L.length with q | q; exact q; exact absurd ⟨by omega, by omega, c, q⟩ h)
        · exact wrong_c count floor so cap L w (by omega) (by omega) c
  · exact wrong_loop count floor so cap L rs v w hb a b c d h1 h2
theorem rwrong_is {count floor : Int} {so : Option Addr} {cap : Nat} {L : List (List Int)} {v : Int} (h : WrongIs count floor L v) (w : World) (hb : BRows so L w) : Calls Try.prog 19 #[.int .i64 count, .int .i64 floor, .slice so L.length cap] w fun e w' => e = .returned (.int .i64 v) ∧ Below w.heap.size w w' := by
  rcases h with ⟨h, rfl⟩ | ⟨⟨a, b, c, d⟩, rs, h1, h2⟩
  · by_cases a : count < 1
    · exact rwrong_a count floor so cap L w a
    · by_cases b : 64 < count
      · exact rwrong_b count floor so cap L w (by omega) b
      · by_cases c : okC floor
        · exact rwrong_d count floor so cap L w (by omega) (by omega) c (by rcases Nat.lt_or_ge 4096 L.length with q | q; exact q; exact absurd ⟨by omega, by omega, c, q⟩ h)
        · exact rwrong_c count floor so cap L w (by omega) (by omega) c
  · exact rwrong_loop count floor so cap L rs v w hb a b c d h1 h2
/-- bids that may be -/
structure May (count floor : Int) (L : List (List Int)) : Prop where
  one : 1 ≤ count
  most : count ≤ 64
  fl : okC floor
  len : L.length ≤ 4096
  formed : ∀ i, i < L.length → Formed count floor (bidAt L i)
  over : ∀ i, i < L.length → floor ≤ at0 (bidAt L i) ((bidAt L i).length - 1)
theorem lowOf_zero {rs : Nat → Int} {n : Nat} (h : lowOf rs n = 0) : ∀ i, i < n → rs i ≠ 7 := by
  induction n with
  | zero => intro i h; omega
  | succ n ih =>
    intro i hi
    rw [lowOf] at h
    split at h
    · omega
    · rename_i q
      rcases Nat.lt_or_ge i n with h3 | h3
      · exact ih h i h3
      · obtain rfl : i = n := by omega
        exact q
theorem lowOf_vals {rs : Nat → Int} (n : Nat) : lowOf rs n = 0 ∨ lowOf rs n = 7 := by
  induction n with
  | zero => exact .inl rfl
  | succ n ih => rw [lowOf]; split; exact .inr rfl; exact ih
theorem WrongIs.vals {count floor : Int} {L : List (List Int)} {v : Int} (h : WrongIs count floor L v) : v = 0 ∨ v = 2 ∨ v = 7 := by
  rcases h with ⟨_, rfl⟩ | ⟨_, rs, _, ⟨_, rfl⟩ | ⟨_, rfl⟩⟩
  · exact .inr (.inl rfl)
  · exact .inr (.inl rfl)
  · rcases lowOf_vals (rs := rs) L.length with q | q <;> rw [q] <;> simp
theorem WrongIs.may {count floor : Int} {L : List (List Int)} (h : WrongIs count floor L 0) : May count floor L := by
  rcases h with ⟨_, h⟩ | ⟨⟨a, b, c, d⟩, rs, h1, ⟨_, h⟩ | ⟨h2, h3⟩⟩
  · cases h
  · cases h
  · refine ⟨a, b, c, d, fun i hi => ?_, fun i hi => ?_⟩
    all_goals
      rcases h1 i hi with ⟨_, q⟩ | ⟨_, _, q⟩ | ⟨q1, q2, _⟩
      · exact absurd q (h2 i hi)
      · exact absurd q (lowOf_zero h3.symm i hi)
      · assumption
theorem bidAt_ge {L : List (List Int)} {b : Nat} (h : L.length ≤ b) : bidAt L b = [] := by
  unfold bidAt
  rw [List.getElem?_eq_none h]
  rfl
theorem May.short {count floor : Int} {L : List (List Int)} (h : May count floor L) (b : Nat) : (bidAt L b).length ≤ 64 := by
  rcases Nat.lt_or_ge b L.length with q | q
  · have := (h.formed b q).fits
    have := h.most
    omega
  · rw [bidAt_ge q]; simp
theorem falls_of {count floor : Int} {xs : List Int} (h : Formed count floor xs) : ∀ d k, k + d < xs.length → at0 xs (k + d) ≤ at0 xs k := by
  intro d
  induction d with
  | zero => intro k _; exact Int.le_refl _
  | succ d ih =>
    intro k hk
    have h1 := ih k (by omega)
    have h2 := (h.good (k + (d + 1)) hk).2 (by omega)
    rw [show k + (d + 1) - 1 = k + d by omega] at h2
    omega
theorem May.right {count floor : Int} {L : List (List Int)} (h : May count floor L) : Right L :=
  ⟨fun b hb => (h.formed b hb).some, fun b q r hb hqr hr => by
    have := falls_of (h.formed b hb) (r - q) q (by omega)
    rwa [show q + (r - q) = r by omega] at this⟩
end Go.Proofs.Ytehpjipmlpaflaa.un
