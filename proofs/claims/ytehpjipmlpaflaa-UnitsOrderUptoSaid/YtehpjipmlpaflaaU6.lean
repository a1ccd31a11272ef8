import Derived.Test.YtehpjipmlpaflaaU5
namespace Go.Proofs.Ytehpjipmlpaflaa.un
open Go.ChangeShapes Go.WideShapes Go.ChangeAt Go.RowKit Go.Deep Go.Shelf
set_option linter.unusedSimpArgs false
set_option linter.unusedVariables false

attribute [local go_sem] Oper.semAt_some

abbrev encU (x : U) : Array Value := #[.agg #[.int .i64 x.1, .int .i64 x.2.1, .int .i64 x.2.2]]
/-- an iterator over T that answers alike wherever its own blocks lie as they lay -/
def SeqF (n : Nat) (P : Program) (g : Nat) (lb : Array Value) (K : Nat → Prop) (T : List U) (w : World) : Prop :=
  ∀ w1, Fix K w w1 → SeqR n P g lb encU K (fun xs => xs = T) (fun pre => ∃ rest, T = pre ++ rest) (fun pre x => ∃ rest, T = pre ++ x :: rest) w1
def OrdAns (T : List U) (w : World) (e : Ending) (w' : World) : Prop :=
  ∃ lb K, e = .returned (.func (.func 31) #[] lb) ∧ (∀ i, K i → w.heap.size ≤ i ∧ i < w'.heap.size) ∧ (∀ n, 1 ≤ n → SeqF n Try.prog 31 lb K T w') ∧ Below w.heap.size w w'
set_option maxHeartbeats 1000000 in
theorem order_no (n : Nat) (hn : 1 ≤ n) (l Br Bb : Nat) (WS : World) (J : List U → World → Prop) (Q : World → Prop)
    (hJ : Stays WS.heap.size J) (hc : WS.cell? ⟨Br, 0, none⟩ = some (.bool false)) (h0 : J [] WS) :
    CallsIn Fence.wide n Try.prog 31 #[.func (.yield l) #[] #[], .pointer (some ⟨Br, 0, none⟩), .pointer (some ⟨Bb, 0, none⟩)] WS fun e W' => (∃ v, e = .returned v) ∧
      ((∃ ys, ys = [] ∧ J ys W') ∨ Q W') := by
  refine callsIn_of_wp Try.func31 rfl trivial ?_ rfl
  simp only [Try.ntmps31, List.size_toArray, List.length_cons, List.length_nil, Nat.reduceAdd, Nat.reduceSub, Array.replicate_succ, Array.replicate_zero, List.push_toArray, List.append_toArray, List.nil_append, List.cons_append]
  gi_wp2
  first | go_end0 | (refine bodyPost_ret (results_none rfl _ _ _) rfl ?_)
  first | exact ⟨⟨_, rfl⟩, .inl ⟨[], rfl, h0⟩⟩ | exact ⟨⟨_, rfl⟩, .inl h0⟩
theorem own_row {W : World} {base : Nat} {ao : Option Addr} {c : Nat} {xs : List Int} (own : W.ownsRow base 2 1 (.slice ao xs.length c) xs.length (xs.map I64)) (h0 : 0 < xs.length) : ∃ g, ao = some ⟨g, 0, none⟩ ∧ base ≤ g ∧ g < W.heap.size ∧ ∀ q, q < xs.length → W.cell? ⟨g, q, none⟩ = some (.int .i64 (at0 xs q)) := by
  obtain ⟨g, cap, hv, hb, hlt⟩ := own.form h0
  obtain ⟨rfl, rfl⟩ : ao = some ⟨g, 0, none⟩ ∧ c = cap := by (injection hv with e1 e2 e3; exact ⟨e1, e3⟩)
  refine ⟨g, rfl, hb, hlt, fun q hq => ?_⟩
  rw [own.cellAt q (by omega), List.getElem?_map, List.getElem?_eq_getElem hq]
  simp [at0, List.getElem?_eq_getElem hq]
theorem Copies.bread {L : List (List Int)} {n0 G Bb cap : Nat} {W : World} {K : Nat → Prop} (h : Copies L n0 G L.length W) (hr : Right L) (hB : K Bb) (hK : ∀ i, n0 ≤ i → i < W.heap.size → K i) (hc : W.cell? ⟨Bb, 0, none⟩ = some (.slice (some ⟨G, 0, none⟩) L.length cap)) : BRead K L Bb W := by
  refine ⟨hB, _, _, hc, fun b hb => ?_⟩
  obtain ⟨ao, c, h1, own⟩ := h.done b hb
  obtain ⟨g, rfl, hg, hl, hcs⟩ := own_row own (hr.some b hb)
  have := h.ge
  have := h.lt
  exact ⟨G, g, c, rfl, hK G (by omega) (by omega), hK g (by omega) hl, h1, hcs⟩
theorem Order_yes (count floor : Int) (so : Option Addr) (cap : Nat) (L : List (List Int)) (T : List U) (w : World) (hb : BRows so L w) (hL : L.length ≤ 4096) (hLb : ∀ i, (bidAt L i).length ≤ 64) (hr : Right L) (hT : Rest L (fun _ => 0) T)
    (hw : ∀ w, BRows so L w → Calls Try.prog 27 #[.int .i64 count, .int .i64 floor, .slice so L.length cap] w fun e w' => e = .returned (.int .i64 0) ∧ w' = w) :
    Calls Try.prog 21 #[.int .i64 count, .int .i64 floor, .slice so L.length cap] w (OrdAns T w) := by
  refine (Order_c count floor so cap L 0 w hb hL (fun i => by have := hLb i; omega) hw).mono ?_
  rintro e w5 ⟨Bb, Br, G, rfl, hBb0, hBbz, hBr0, hBrz, hbr, hbb, hcp, hb5⟩
  refine ⟨_, fun i => w.heap.size ≤ i ∧ i < w5.heap.size, rfl, fun i hi => hi, ?_, hb5⟩
  intro n hn w1 hF l J Jx W hbW hJ hJx hY h0
  have hF2 := hF.trans (.of_below hbW)
  refine (order_ok n hn l Br Bb (fun i => w.heap.size ≤ i ∧ i < w5.heap.size) L T hr hT hL hLb W J Jx hY hJ hJx ⟨hBr0, hBrz⟩ (fun i hi => Nat.lt_of_lt_of_le hi.2 hF2.size) ((hF2.cell (p := ⟨Br, 0, none⟩) ⟨hBr0, hBrz⟩ hBrz).trans hbr) ?_ h0)
  exact (hcp.bread hr ⟨hBb0, hBbz⟩ (fun i h1 h2 => ⟨h1, h2⟩) hbb).fix hF2 (fun i hi => hi.2)
theorem Order_none (count floor : Int) (so : Option Addr) (cap : Nat) (L : List (List Int)) (ew : Int) (w : World) (hb : BRows so L w) (hL : L.length ≤ 4096) (hLb : ∀ i, (bidAt L i).length ≤ 4096) (hne : (ew == 0) = false)
    (hw : ∀ w, BRows so L w → Calls Try.prog 27 #[.int .i64 count, .int .i64 floor, .slice so L.length cap] w fun e w' => e = .returned (.int .i64 ew) ∧ w' = w) :
    Calls Try.prog 21 #[.int .i64 count, .int .i64 floor, .slice so L.length cap] w (OrdAns [] w) := by
  refine (Order_c count floor so cap L ew w hb hL hLb hw).mono ?_
  rintro e w5 ⟨Bb, Br, G, rfl, hBb0, hBbz, hBr0, hBrz, hbr, hbb, hcp, hb5⟩
  refine ⟨_, fun i => w.heap.size ≤ i ∧ i < w5.heap.size, rfl, fun i hi => hi, ?_, hb5⟩
  intro n hn w1 hF l J Jx W hbW hJ hJx hY h0
  have hF2 := hF.trans (.of_below hbW)
  exact order_no n hn l Br Bb W J (fun W' => ∃ pre, (∃ rest, [] = pre ++ rest) ∧ Jx pre W') hJ ((hF2.cell (p := ⟨Br, 0, none⟩) ⟨hBr0, hBrz⟩ hBrz).trans (by rw [← hne]; exact hbr)) h0
end Go.Proofs.Ytehpjipmlpaflaa.un
