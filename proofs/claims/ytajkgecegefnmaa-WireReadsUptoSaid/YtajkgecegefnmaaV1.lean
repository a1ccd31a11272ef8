import Derived.Test.YtajkgecegefnmaaU3
namespace Go.Proofs.Ytajkgecegefnmaa
open Go.ChangeShapes Go.WideShapes Go.ChangeAt Go.RowKit Go.Deep
set_option linter.unusedSimpArgs false
set_option linter.unusedVariables false

theorem hi_num : ∀ (n : Nat) (l : List Nat), l.length = n → (∀ x ∈ l, x < 256) → hi n (num l) = l
  | 0, l, hl, _ => by rw [List.eq_nil_of_length_eq_zero hl]; rfl
  | n + 1, [], hl, _ => by cases hl
  | n + 1, b :: l, hl, hx => by
    have hb := hx b (List.mem_cons_self ..)
    have hl' : l.length = n := by simpa using hl
    have hxl : ∀ x ∈ l, x < 256 := fun x h => hx x (List.mem_cons_of_mem _ h)
    have hlt := num_lt n l hl' hxl
    have e : num (b :: l) = b * 256 ^ n + num l := by
      have gen : ∀ (m : List Nat) (a : Nat), m.foldl (fun a b => 256 * a + b) a = a * 256 ^ m.length + m.foldl (fun a b => 256 * a + b) 0 := by
        intro m
        induction m with
        | nil => intro a; simp
        | cons c m ih =>
          intro a
          rw [List.foldl_cons, ih (256 * a + c), List.foldl_cons, ih (256 * 0 + c), List.length_cons, Nat.pow_succ, Nat.add_mul, Nat.mul_zero, Nat.zero_add]
          have : 256 * a * 256 ^ m.length = a * (256 ^ m.length * 256) := by rw [Nat.mul_comm 256 a, Nat.mul_assoc, Nat.mul_comm 256]
          omega
      show (b :: l).foldl (fun a b => 256 * a + b) 0 = _
      rw [List.foldl_cons, gen l, hl', Nat.mul_zero, Nat.zero_add]; rfl
    have hp : 0 < 256 ^ n := Nat.pow_pos (by decide)
    show (num (b :: l) / 256 ^ n % 256) :: hi n (num (b :: l)) = b :: l
    rw [← hi_mod n (num (b :: l)), e]
    have e1 : (b * 256 ^ n + num l) / 256 ^ n = b := by
      rw [Nat.add_comm, Nat.add_mul_div_right _ _ hp, Nat.div_eq_of_lt hlt, Nat.zero_add]
    have e2 : (b * 256 ^ n + num l) % 256 ^ n = num l := by
      rw [Nat.add_comm, Nat.add_mul_mod_self_right, Nat.mod_eq_of_lt hlt]
    rw [e1, e2, hi_num n l hl' hxl, Nat.mod_eq_of_lt hb]
set_option maxRecDepth 100000 in
theorem form_canon {f : Nat} {l : List Nat} (hf : 247 < f) (hl : l.length = f - 247) (hx : ∀ x ∈ l, x < 256) : (form (num l) = f :: l) ↔ (form (num l)).length = 1 + (f - 247) := by
  constructor
  · intro h; rw [h, List.length_cons]; omega
  · intro h
    have hm : ¬ num l ≤ 247 := by
      intro c
      unfold form at h
      rw [if_pos c] at h
      simp at h; omega
    unfold form at h ⊢
    rw [if_neg hm] at h ⊢
    rw [List.length_cons, hi_length] at h
    have e : many (num l) = f - 247 := by omega
    rw [e, hi_num _ _ hl hx]
    congr 1; omega
/-- the document's reader at h has the bytes ns, and has read a of them -/
structure DObj (w : World) (h : Nat) (ao : Option Addr) (cap : Nat) (ns : List Nat) (a : Nat) : Prop where
  lt : h < w.heap.size
  cells : ∀ o, w.cell? ⟨h, o, none⟩ = (#[Value.slice ao ns.length cap, Value.int .i64 (a : Int)] : Array Value)[o]?
  frz : ∀ o, w.frozen? ⟨h, o, none⟩ = false
  bytes : ns ≠ [] → ∃ b off, ao = some ⟨b, off, none⟩ ∧ b < w.heap.size ∧ b ≠ h ∧ ∀ j, j < ns.length → w.cell? ⟨b, off + j, none⟩ = some (.int .u8 (ns.getD j 0 : Int))
  small : ∀ x ∈ ns, x < 256
  le : a ≤ ns.length
  len : ns.length ≤ 1152921504606846976
  cap_le : ns.length ≤ cap
theorem DObj.below {w w' : World} {h : Nat} {ao : Option Addr} {cap : Nat} {ns : List Nat} {a : Nat} (k : DObj w h ao cap ns a) (hb : Below w.heap.size w w') : DObj w' h ao cap ns a :=
  ⟨Nat.lt_of_lt_of_le k.lt hb.size, fun o => (hb.cell (p := ⟨h, o, none⟩) k.lt).trans (k.cells o), fun o => (hb.frozen (p := ⟨h, o, none⟩) k.lt).trans (k.frz o), fun hn => by
    obtain ⟨b, off, h1, h2, h3, h4⟩ := k.bytes hn
    exact ⟨b, off, h1, Nat.lt_of_lt_of_le h2 hb.size, h3, fun j hj => (hb.cell (p := ⟨b, off + j, none⟩) h2).trans (h4 j hj)⟩, k.small, k.le, k.len, k.cap_le⟩
theorem DObj.move {w : World} {h : Nat} {ao : Option Addr} {cap : Nat} {ns : List Nat} {a a' : Nat} (k : DObj w h ao cap ns a) (hle : a' ≤ ns.length) : DObj (w.setCell ⟨h, 1, none⟩ (.int .i64 (a' : Int))) h ao cap ns a' := by
  refine ⟨by simpa using k.lt, ?_, fun o => by simp only [World.frozen?_setCell]; exact k.frz o, fun hn => ?_, k.small, hle, k.len, k.cap_le⟩
  · intro o
    rcases o with _ | _ | o
    · simp [go_sem, k.cells]
    · simp [go_sem, k.cells]
    · simp [go_sem, k.cells]
  · obtain ⟨b, off, h1, h2, h3, h4⟩ := k.bytes hn
    exact ⟨b, off, h1, by simpa using h2, h3, fun j hj => (World.cell?_of_block (Below.heap_setCell _ _ _ _ h3)).trans (h4 j hj)⟩

set_option maxRecDepth 100000 in
set_option maxHeartbeats 1000000 in
theorem dLeft_c (h cap : Nat) (ao : Option Addr) (ns : List Nat) (a : Nat) (w : World) (hD : DObj w h ao cap ns a) : Calls Try.prog 25 #[.pointer (some ⟨h, 0, none⟩)] w fun e w' => e = .returned (.int .i64 ((ns.length : Int) - (a : Int))) ∧ Below w.heap.size w w' := by
  obtain ⟨d1, d2, d3, _, _, d6, d7, _⟩ := hD
  go_enter Try.func25, Try.ntmps25
  go_wp2
  go_quiet (fail)
  go_wp2
  go_ret
  exact ⟨rfl, by (focus repeat' (first | (with_reducible exact Below.refl _ _) | (with_reducible assumption) | (with_reducible refine Below.alloc ?_ ?_ _) | (with_reducible refine Below.drew ?_) | (with_reducible refine bdrewN ?_ _) | (with_reducible refine Below.setCell ?_ ?_ _) | (first | (with_reducible exact Nat.le_refl _) | (with_reducible assumption) | omega | (simp; omega) | (simp; done))))⟩

set_option maxRecDepth 100000 in
set_option maxHeartbeats 1000000 in
theorem dNum_end (h cap : Nat) (ao : Option Addr) (ns : List Nat) (a : Nat) (w : World) (hD : DObj w h ao cap ns a) (hn : ns.length ≤ a) : Calls Try.prog 22 #[.pointer (some ⟨h, 0, none⟩)] w (fun e w' => e = .returned (.tuple #[.int .u64 (((0, 110, a) : Nat × Nat × Nat).1 : Int), .int .i64 (((0, 110, a) : Nat × Nat × Nat).2.1 : Int)]) ∧ Only h w w' ∧ DObj w' h ao cap ns ((0, 110, a) : Nat × Nat × Nat).2.2) := by
  have hx : (ns.length : Int) - (a : Int) < 1 := by omega
  have hD' := hide hD
  obtain ⟨d1, d2, d3, d4, d5, d6, d7, d8⟩ := hD
  have D4 := hide d4
  have D5 := hide d5
  clear d4 d5
  go_enter Try.func22, Try.ntmps22
  go_wp2_with fail
  refine (dLeft_c h cap _ ns a _ hD'.out).mono ?_
  rintro e w1 ⟨rfl, hb1⟩
  have HD1 := hide (hD'.out.below hb1)
  have HB1 := hide hb1
  clear hb1
  go_wp2
  go_ret2
  exact ⟨rfl, Only.of_below HB1.out, HD1.out⟩

set_option maxRecDepth 100000 in
set_option maxHeartbeats 2000000 in
theorem dNum_short (h cap : Nat) (ao : Option Addr) (ns : List Nat) (a : Nat) (w : World) (hD : DObj w h ao cap ns a) (hn : a < ns.length) (hs : ns.getD a 0 ≤ 247) : Calls Try.prog 22 #[.pointer (some ⟨h, 0, none⟩)] w (fun e w' => e = .returned (.tuple #[.int .u64 (((ns.getD a 0, 0, a + 1) : Nat × Nat × Nat).1 : Int), .int .i64 (((ns.getD a 0, 0, a + 1) : Nat × Nat × Nat).2.1 : Int)]) ∧ Only h w w' ∧ DObj w' h ao cap ns ((ns.getD a 0, 0, a + 1) : Nat × Nat × Nat).2.2) := by
  have hD' := hide hD
  obtain ⟨d1, d2, d3, d4, d5, d6, d7, d8⟩ := hD
  have D4 := hide d4
  have D5 := hide d5
  clear d4 d5
  obtain ⟨b, off, hao, hb, hbh, hbc⟩ := D4.out (by rintro rfl; simp at hn)
  subst hao
  have HBC := hide hbc
  have hx : ¬ ((ns.length : Int) - (a : Int) < 1) := by omega
  have hf256 := getD_lt D5.out a
  have fa : w.cell? ⟨b, off + a, none⟩ = some (.int .u8 (ns.getD a 0 : Int)) := hbc a hn
  clear hbc
  generalize hfe : ns.getD a 0 = f at *
  have HFE := hide hfe
  clear hfe
  have hs' : (f : Int) ≤ 247 := by omega
  go_enter Try.func22, Try.ntmps22
  go_wp2_with fail
  refine (dLeft_c h cap _ ns a _ hD'.out).mono ?_
  rintro e w1 ⟨rfl, hb1⟩
  have HD1 := hide (hD'.out.below hb1)
  have HB1 := hide hb1
  clear hb1
  obtain ⟨e1, e2, e3, _, _, _, _, _⟩ := HD1.out
  have fa1 : w1.cell? ⟨b, off + a, none⟩ = some (.int .u8 (f : Int)) := (HB1.out.cell (p := ⟨b, off + a, none⟩) hb).trans fa
  clear d2 d3 fa
  go_wp2
  go_quiet (fail)
  go_wp2
  go_ret2
  refine ⟨rfl, ?_, ?_⟩
  · exact (Only.of_below (HB1.out.trans (bdrewN (Below.refl _ _) _ |>.mono HB1.out.size))).set 1 _
  · have q := (HD1.out.below (bdrewN (Below.refl w1.heap.size w1) nq)).move (a' := a + 1) (by omega)
    exact q
end Go.Proofs.Ytajkgecegefnmaa
