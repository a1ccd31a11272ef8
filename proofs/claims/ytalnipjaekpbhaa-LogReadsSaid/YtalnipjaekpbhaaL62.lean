import Derived.Test.YtalnipjaekpbhaaL61
import Derived.Deep.CutBlock
namespace Go.Proofs.Ytalnipjaekpbhaa
open Go.ChangeShapes Go.WideShapes Go.ChangeAt Go.RowKit Go.Deep
set_option linter.unusedSimpArgs false
set_option linter.unusedVariables false

/-- all but the blocks of Z stand as they stood -/
def SameZ (Z : Nat → Prop) (w w' : World) : Prop := ∀ k, k < w.heap.size → ¬ Z k → w'.heap[k]? = w.heap[k]?
theorem SameZ.of_below {Z : Nat → Prop} {w w' : World} (h : Below w.heap.size w w') : SameZ Z w w' := fun k hk _ => h.block k hk
theorem SameZ.below {Z : Nat → Prop} {w w1 w' : World} (h : SameZ Z w w1) (hb : Below w1.heap.size w1 w') (hs : w.heap.size ≤ w1.heap.size) : SameZ Z w w' := fun k hk hz => (hb.block k (by omega)).trans (h k hk hz)
theorem SameZ.own {Z : Nat → Prop} {w w' : World} (h : SameZ Z w w') {B : Nat} {e : TypeId} {sz : Nat} {v : Value} {n : Nat} {xs : List Value} (o : w.ownsRow B e sz v n xs) (hz : ∀ k, v.ownBlock = some k → ¬ Z k) : w'.ownsRow B e sz v n xs := own_same o (fun k hk hl => h k hl (hz k hk))
theorem SameZ.ords {Z : Nat → Prop} {w w' : World} (h : SameZ Z w w') {B : Nat} {v : Value} {os : List Ord} {vs : List Value} (o : OrdsOwn w B v os vs) (hz : ∀ k, B ≤ k → k < w.heap.size → ¬ Z k) : OrdsOwn w' B v os vs := o.keep (fun k hk hl => h k hl (hz k hk hl))
theorem SameZ.kst {Z : Nat → Prop} {w w' : World} (h : SameZ Z w w') {kb B : Nat} {os : List Ord} {bs : List Nat} {v p : Value} {vs : List Value} (o : KSt w kb B os bs v p vs) (hk : ¬ Z kb) (hz : ∀ k, B ≤ k → k < w.heap.size → ¬ Z k) : KSt w' kb B os bs v p vs :=
  ⟨(h _ o.lt hk).trans o.hp, h.ords o.o hz, h.own o.p_ (fun k hk => hz k (o.p_.lt k hk).1 (o.p_.lt k hk).2)⟩
/-- what goes in the course of the spoiling: blocks of Z alone; rows stay rows -/
structure Lq (Z : Nat → Prop) (w w' : World) : Prop where
  os : w'.os = w.os
  tape : w'.tape = w.tape
  output : w'.output = w.output
  size : w.heap.size ≤ w'.heap.size
  same : SameZ Z w w'
  st : RowsStay w w'
theorem Lq.refl (Z : Nat → Prop) (w : World) : Lq Z w w := ⟨rfl, rfl, rfl, Nat.le_refl _, fun _ _ _ => rfl, RowsStay.refl w⟩
theorem Lq.gone {Z : Nat → Prop} {w w1 w2 : World} {v : Value} (h : Lq Z w w1) (g : Gone w1 w2 v) (hs : RowsStay w1 w2) (hz : ∀ k, v.ownBlock = some k → Z k) : Lq Z w w2 :=
  ⟨g.os.trans h.os, g.tape.trans h.tape, g.output.trans h.output, Nat.le_trans h.size g.size, fun k hk hk2 => (g.block k (Nat.lt_of_lt_of_le hk h.size) (fun e => hk2 (hz k e))).trans (h.same k hk hk2), h.st.trans hs⟩
theorem Lq.set {Z : Nat → Prop} {w w1 : World} (h : Lq Z w w1) {g : Nat} (hz : Z g) (j : Nat) (u : Value) : Lq Z w (w1.setCell ⟨g, j, none⟩ u) :=
  ⟨h.os, h.tape, h.output, by rw [World.size_setCell]; exact h.size, fun k hk hk2 => (heap_setCell_other _ _ _ _ (fun e => by subst e; exact hk2 hz)).trans (h.same k hk hk2), h.st.trans (RowsStay.setCell _ _ _ _)⟩
theorem Lq.below {Z : Nat → Prop} {w w1 : World} {b : Nat} {w0 : World} (h : Lq Z w w1) (hb : Below b w0 w) (hs : b ≤ w.heap.size) (hz : ∀ k, Z k → b ≤ k) : Below b w0 w1 :=
  ⟨h.os.trans hb.os, h.tape.trans hb.tape, h.output.trans hb.output, Nat.le_trans hb.size h.size, fun i hi => (h.same i (by omega) (fun q => by have := hz i q; omega)).trans (hb.block i hi)⟩
theorem own_diff {w : World} {B B2 : Nat} {e e2 : TypeId} {sz sz2 n n2 : Nat} {v v2 : Value} {xs xs2 : List Value} (h : w.ownsRow B e sz v n xs) (h2 : w.ownsRow B2 e2 sz2 v2 n2 xs2) (hne : e ≠ e2) : ∀ k, v2.ownBlock = some k → v.ownBlock ≠ some k := fun k hk => by
  rcases h2.2 with ⟨rfl, _⟩ | ⟨g, cap, cur, rfl, _, i3, _⟩
  · cases hk
  · obtain rfl : g = k := Option.some.inj hk
    exact own_ne_box h i3 hne
theorem own_gone {w w' : World} {B B2 : Nat} {e e2 : TypeId} {sz sz2 n n2 : Nat} {v v2 : Value} {xs xs2 : List Value} (h : w.ownsRow B e sz v n xs) (h2 : w.ownsRow B2 e2 sz2 v2 n2 xs2) (hne : e ≠ e2) (g : Gone w w' v2) : w'.ownsRow B e sz v n xs := own_same h (fun k hk hl => g.block k hl (fun q => own_diff h h2 hne k q hk))
theorem own_seto {w : World} {B B2 g j : Nat} {e e2 : TypeId} {sz sz2 n n2 c2 : Nat} {v : Value} {xs xs2 : List Value} {u : Value} (h : w.ownsRow B e sz v n xs) (h2 : w.ownsRow B2 e2 sz2 (.slice (some ⟨g, 0, none⟩) n2 c2) n2 xs2) (hne : e ≠ e2) : (w.setCell ⟨g, j, none⟩ u).ownsRow B e sz v n xs := own_same h (fun k hk hl => heap_setCell_other _ _ _ _ (fun q => by subst q; exact own_diff h h2 hne k rfl hk))
theorem rdo_good {ns : List Nat} (h8 : ∀ x ∈ ns, x < 256) : (rdo ns).offs.length ≤ 64 ∧ ∀ x ∈ (rdo ns).offs, x.1 < 4294967296 := by
  unfold rdo
  cases h : readO ns with
  | none => exact ⟨by decide, fun x hx => by cases hx⟩
  | some o =>
    obtain ⟨h1, h2, -⟩ := readO_some h8 h
    exact ⟨chk_offs h1, fun x hx => (h2.o1 x hx).1⟩
/-- a Booked's row of places and orders -/
abbrev bkL (p1 : Option Addr) (n c1 : Nat) (p2 : Option Addr) (c2 good : Nat) (why : Int) : List Value := [.slice p1 n c1, .slice p2 n c2, .int .i64 (good : Int), .int .i64 why]
theorem Row8.take {w : World} {p : Option Addr} {c : Nat} {ns : List Nat} (h : Row8 w p c ns) (k : Nat) : Row8 w p c (ns.take k) := by
  refine ⟨fun e => ?_, fun hne => ?_, fun x hx => h.small x (List.mem_of_mem_take hx), ?_, ?_⟩
  · obtain ⟨q1, q2⟩ := h.nil e
    exact ⟨by rw [q1]; exact List.take_nil, q2⟩
  · obtain ⟨b, off, e, hb, hc⟩ := h.bytes (fun e => hne (by rw [e]; exact List.take_nil))
    refine ⟨b, off, e, hb, fun j hj => ?_⟩
    rw [List.length_take] at hj
    rw [hc j (by omega)]
    simp only [List.getD_eq_getElem?_getD, List.getElem?_take]
    rw [if_pos (by omega)]
  · have := h.len; rw [List.length_take]; omega
  · have := h.cap_le; rw [List.length_take]; omega
theorem conv_take {w : World} {p : Option Addr} {c k : Nat} {ns : List Nat} (h : Row8 w p c ns) (hk : k ≤ ns.length) : Sem.run Try.prog (convert 30 9 (.slice p k c)) w = .ok (.string (bstr (ns.take k))) w := by
  have q := conv_row8 (h.take k)
  rw [List.length_take, Nat.min_eq_left hk] at q
  exact q
open rf in
theorem goes_all {w : World} {XA Ba Bb Bn Bl good : Nat} {why : Int} {av ap nv lv : Value} {avs lvs : List Value} {os : List Ord} {ps : List Nat} (bx : BookBox w XA av ap good why) (oa : OrdsOwn w Ba av os avs) (ra : w.ownsRow Bb 3 1 ap os.length (placeV ps)) (hn : w.ownsRow Bn 3 1 nv os.length (placeV ps)) (ol : OrdsOwn w Bl lv os lvs) (gd : ∀ x ∈ os, OrdR x ∧ x.offs.length ≤ 64) (hl : os.length ≤ 1000000) (leave : Int) : Calls Try.prog 32 #[.func (.func 71) #[] #[.pointer (some ⟨XA, 0, none⟩)], nv, lv, .int .i64 leave] w fun e w' => e = .returned (.bool true) ∧ Below w.heap.size w w' := by
  refine goes_c (gf := 71) (lb := #[.pointer (some ⟨XA, 0, none⟩)]) (fun args w => by kernel_rfl) (K := fun k => k = XA ∨ av.ownBlock = some k ∨ ap.ownBlock = some k ∨ ∃ i, i < os.length ∧ (avs.getD i undef).ownBlock = some k) (fun k hk => ?_) (fun V hV l J Jx W hW hJ hJx hY h0 => ?_) hn (OrdsIn.of_own ol gd (by omega)) rfl (fun i _ => sameO_refl _) hl (fun o ho => ⟨(gd o ho).2, fun x hx => ((gd o ho).1.o1 x hx).1⟩) leave
  · rcases hk with rfl | hk | hk | ⟨i, hi, hk⟩
    · exact bx.lt
    · exact (oa.row.lt k hk).2
    · exact (ra.lt k hk).2
    · exact ((oa.offs i hi).lt k hk).2
  · have hw := bstep hV hW
    have hs := hw.size
    refine all_ok 3 (by decide) l XA _ os ps av ap avs good why W J Jx (fun pre x W' hj hn => hY pre x W' hj ⟨hn.1, hn.2.1, hn.2.2.1, own_lower hn.2.2.2 hW.size⟩) hJ (fun k hk => ?_) (.inl rfl) (fun b hb => .inr (.inl hb)) (fun b hb => .inr (.inr (.inl hb))) (fun i b hi hb => .inr (.inr (.inr ⟨i, hi, hb⟩))) (bx.stays (hw.block _ bx.lt)) ((OrdsIn.of_own oa gd (by omega)).below hw) (own_lower (own_below ra hw) (Nat.zero_le _)) hl h0
    refine Nat.lt_of_lt_of_le ?_ hs
    rcases hk with rfl | hk | hk | ⟨i, hi, hk⟩
    · exact bx.lt
    · exact (oa.row.lt k hk).2
    · exact (ra.lt k hk).2
    · exact ((oa.offs i hi).lt k hk).2
def ScanPost (os : List Ord) (ps : List Nat) (good : Nat) (why : Int) (w : World) (e : Ending) (w' : World) : Prop := ∃ p1 c1 p2 c2 vs, e = .returned (.agg (bkL p1 os.length c1 p2 c2 good why).toArray) ∧ OrdsOwn w' w.heap.size (.slice p1 os.length c1) os vs ∧ w'.ownsRow w.heap.size 3 1 (.slice p2 os.length c2) os.length (placeV ps) ∧ Below w.heap.size w w'
theorem scan_u {F : FuncId} {args : Array Value} {w : World} {ns : List Nat} {os : List Ord} {ps : List Nat} {good : Nat} {why : Int} (hR : scanT ns = (os, ps, good, why)) (hp : os.length = ps.length) (h : Calls Try.prog F args w fun e w' => ∃ v p vs, e = .returned (.agg #[v, p, .int .i64 ((scanT ns).2.2.1 : Int), .int .i64 (scanT ns).2.2.2]) ∧ OrdsOwn w' w.heap.size v (scanT ns).1 vs ∧ w'.ownsRow w.heap.size 3 1 p (scanT ns).2.1.length (placeV (scanT ns).2.1) ∧ Below w.heap.size w w') : Calls Try.prog F args w (ScanPost os ps good why w) := by
  refine h.mono ?_
  rintro e w' ⟨v, p, vs, rfl, o, r, hb⟩
  rw [hR] at o r ⊢
  simp only at o r ⊢
  rw [← hp] at r
  obtain ⟨p1, c1, rfl⟩ := own_any o.row
  obtain ⟨p2, c2, rfl⟩ := own_any r
  exact ⟨p1, c1, p2, c2, vs, rfl, o, r, hb⟩
def AllPost (os : List Ord) (ps : List Nat) (good : Nat) (why : Int) (w : World) (e : Ending) (w' : World) : Prop := ∃ X v p vs, e = .returned (.func (.func 71) #[] #[.pointer (some ⟨X, 0, none⟩)]) ∧ w.heap.size ≤ X ∧ BookBox w' X v p good why ∧ OrdsOwn w' w.heap.size v os vs ∧ w'.ownsRow w.heap.size 3 1 p os.length (placeV ps) ∧ Below w.heap.size w w'
theorem all_u {F : FuncId} {args : Array Value} {w : World} {ns : List Nat} {os : List Ord} {ps : List Nat} {good : Nat} {why : Int} (hR : scanT ns = (os, ps, good, why)) (hp : os.length = ps.length) (h : Calls Try.prog F args w fun e w' => ∃ X v p vs, e = .returned (.func (.func 71) #[] #[.pointer (some ⟨X, 0, none⟩)]) ∧ w.heap.size ≤ X ∧ BookBox w' X v p (scanT ns).2.2.1 (scanT ns).2.2.2 ∧ OrdsOwn w' w.heap.size v (scanT ns).1 vs ∧ w'.ownsRow w.heap.size 3 1 p (scanT ns).2.1.length (placeV (scanT ns).2.1) ∧ v.ownBlock ≠ some X ∧ p.ownBlock ≠ some X ∧ Below w.heap.size w w') : Calls Try.prog F args w (AllPost os ps good why w) := by
  refine h.mono ?_
  rintro e w' ⟨X, v, p, vs, rfl, hx, bx, o, r, -, -, hb⟩
  rw [hR] at bx o r
  simp only at bx o r
  rw [← hp] at r
  exact ⟨X, v, p, vs, rfl, hx, bx, o, r, hb⟩
def FromPost' (ns : List Nat) (os : List Ord) (good : Nat) (why : Int) (w : World) (e : Ending) (w' : World) : Prop := ∃ kb B v p vs, e = .returned (.tuple #[.pointer (some ⟨kb, 0, none⟩), .int .i64 (good : Int), .int .i64 why]) ∧ w.heap.size ≤ kb ∧ w.heap.size ≤ B ∧ KSt w' kb B os (ns.take good) v p vs ∧ Below w.heap.size w w'
theorem from_u {F : FuncId} {args : Array Value} {w : World} {ns : List Nat} {os : List Ord} {ps : List Nat} {good : Nat} {why : Int} (hR : scanT ns = (os, ps, good, why)) (h : Calls Try.prog F args w (FromPost ns w)) : Calls Try.prog F args w (FromPost' ns os good why w) := by
  refine h.mono ?_
  intro e w' h
  unfold FromPost at h
  rw [hR] at h
  exact h
/-- two books in boxes, apart from each other -/
def Two (os : List Ord) (ps : List Nat) (good : Nat) (why : Int) (w6 w7 : World) (X1 X2 : Nat) : Prop := ∃ p1 c1 p2 c2 vs1 q1 d1 q2 d2 vs2 a b d, w6.heap.size ≤ a ∧ a ≤ b ∧ b ≤ d ∧ (X1 < a ∨ b ≤ X1) ∧ (X2 < a ∨ b ≤ X2) ∧ w6.heap.size ≤ X1 ∧ w6.heap.size ≤ X2 ∧ b ≤ w7.heap.size ∧
  BookBox w7 X1 (.slice p1 os.length c1) (.slice p2 os.length c2) good why ∧ BookBox w7 X2 (.slice q1 os.length d1) (.slice q2 os.length d2) good why ∧
  OrdsOwn w7 a (.slice p1 os.length c1) os vs1 ∧ w7.ownsRow a 3 1 (.slice p2 os.length c2) os.length (placeV ps) ∧ OrdsOwn w7 d (.slice q1 os.length d1) os vs2 ∧ w7.ownsRow d 3 1 (.slice q2 os.length d2) os.length (placeV ps) ∧
  (∀ k, (Value.slice p1 os.length c1).ownBlock = some k → k < b) ∧ (∀ k, (Value.slice p2 os.length c2).ownBlock = some k → k < b) ∧ (∀ i k, i < os.length → (vs1.getD i undef).ownBlock = some k → k < b) ∧ Below w6.heap.size w6 w7
theorem book_boxS {w : World} {X Y : Nat} {v p : Value} {g : Nat} {y : Int} (h : BookBox w X v p g y) (hne : X ≠ Y) (l : List Value) : BookBox (w.setCells Y 0 l) X v p g y := h.stays (heap_sets_ne hne _ _ _)
theorem two_books {os : List Ord} {ps : List Nat} {good : Nat} {why : Int} {w6 wa wb wc wd w' : World} {p1 c1 p2 c2 vs1 q1 d1 q2 d2 vs2} {X1 X2 : Nat}
    (o1 : OrdsOwn wb wa.heap.size (.slice p1 os.length c1) os vs1) (r1 : wb.ownsRow wa.heap.size 3 1 (.slice p2 os.length c2) os.length (placeV ps)) (o2 : OrdsOwn wd wc.heap.size (.slice q1 os.length d1) os vs2) (r2 : wd.ownsRow wc.heap.size 3 1 (.slice q2 os.length d2) os.length (placeV ps))
    (b1 : Below wb.heap.size wb w') (b2 : Below wd.heap.size wd w') (x1 : BookBox w' X1 (.slice none 0 0) (.slice none 0 0) 0 0) (x2 : BookBox w' X2 (.slice none 0 0) (.slice none 0 0) 0 0) (hb : Below w6.heap.size w6 w')
    (h1 : X1 < wa.heap.size ∨ wb.heap.size ≤ X1) (h2 : X2 < wa.heap.size ∨ wb.heap.size ≤ X2) (h3 : X1 < wc.heap.size ∨ wd.heap.size ≤ X1) (h4 : X2 < wc.heap.size ∨ wd.heap.size ≤ X2) (h5 : X1 ≠ X2) (h6 : w6.heap.size ≤ wa.heap.size) (h7 : wa.heap.size ≤ wb.heap.size) (h8 : wb.heap.size ≤ wc.heap.size) (h9 : w6.heap.size ≤ X1) (h10 : w6.heap.size ≤ X2) :
    Two os ps good why w6 ((w'.setCells X1 0 (bkL p1 os.length c1 p2 c2 good why)).setCells X2 0 (bkL q1 os.length d1 q2 d2 good why)) X1 X2 := by
  obtain ⟨W, hW⟩ : ∃ W, W = (w'.setCells X1 0 (bkL p1 os.length c1 p2 c2 good why)).setCells X2 0 (bkL q1 os.length d1 q2 d2 good why) := ⟨_, rfl⟩
  have hk : ∀ k, k ≠ X1 → k ≠ X2 → W.heap[k]? = w'.heap[k]? := fun k k1 k2 => by rw [hW]; exact (heap_sets_ne k2 _ _ _).trans (heap_sets_ne k1 _ _ _)
  have kb : ∀ k, wa.heap.size ≤ k → k < wb.heap.size → W.heap[k]? = wb.heap[k]? := fun k k1 k2 => (hk k (by omega) (by omega)).trans (b1.block k k2)
  have kd : ∀ k, wc.heap.size ≤ k → k < wd.heap.size → W.heap[k]? = wd.heap[k]? := fun k k1 k2 => (hk k (by omega) (by omega)).trans (b2.block k k2)
  rw [← hW]
  refine ⟨p1, c1, p2, c2, vs1, q1, d1, q2, d2, vs2, wa.heap.size, wb.heap.size, wc.heap.size, h6, h7, h8, h1, h2, h9, h10, ?_, ?_, ?_, o1.keep kb, own_same r1 (fun k k1 k2 => kb k (r1.lt k k1).1 k2), o2.keep kd, own_same r2 (fun k k1 k2 => kd k (r2.lt k k1).1 k2), fun k h => (o1.row.lt k h).2, fun k h => (r1.lt k h).2, fun i k hi h => ((o1.offs i hi).lt k h).2, ?_⟩
  · rw [hW]; exact Nat.le_trans b1.size ((below_sets (Nat.zero_le _) _ _ _ (below_sets (Nat.zero_le _) _ _ _ (Below.refl 0 w'))).size)
  · rw [hW]; exact book_boxS (x1.sets _ _ _ _) h5 _
  · rw [hW]; exact (book_boxS x2 (fun e => h5 e.symm) _).sets _ _ _ _
  · rw [hW]; exact below_sets h10 _ _ _ (below_sets h9 _ _ _ hb)
end Go.Proofs.Ytalnipjaekpbhaa
