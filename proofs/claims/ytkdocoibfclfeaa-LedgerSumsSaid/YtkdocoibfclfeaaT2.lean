import Derived.Maps.AppendAt
import Derived.Deep.AppendLies
import Derived.Laws.OwnMore
import Derived.Test.YtkdocoibfclfeaaT1
import Derived.Test.YtkdocoibfclfeaaP1
import Derived.Test.YtkdocoibfclfeaaM1
namespace Go.Proofs.Ytkdocoibfclfeaa
open Go.ChangeShapes Go.WideShapes Go.ChangeAt Go.RowKit Go.Deep Go.Maps Go.ChangeMaps Go.WideMaps
set_option linter.unusedSimpArgs false
set_option linter.unusedVariables false

theorem law9 : Keyed Try.prog 9 := string_keyed Try.underlying9
theorem law3 : Keyed Try.prog 3 := int_keyed Try.underlying3
theorem zero3 (w : World) : (zeroValue 3).run Try.prog w = .ok (.int .i64 0) w := by kernel_rfl
theorem info9 : (Try.prog.info? 9).map (fun i => (i.zero, i.size, i.bytes)) = some (some (.string ⟨#[]⟩), 1, 16) := by kernel_rfl
/-- the number of a name, as the table tells it -/
def nameAt (A : List ByteArray) : Lit → Option Value
  | .string bs => (idx A ⟨bs.toArray⟩).map (fun (i : Nat) => Value.int .i64 (i : Int))
  | _ => none
theorem nameAt_str (A : List ByteArray) (s : ByteArray) : nameAt A (.string s.data.toList) = (idx A s).map (fun (i : Nat) => Value.int .i64 (i : Int)) := by simp [nameAt]
theorem nameAt_snoc {A : List ByteArray} {s : ByteArray} (h : idx A s = none) (x : Lit) : setAt (nameAt A) (.string s.data.toList) (.int .i64 (A.length : Int)) x = nameAt (A ++ [s]) x := by
  by_cases e : x = .string s.data.toList
  · subst e; rw [setAt_same, nameAt_str, idx_snoc h, if_pos rfl]; rfl
  · rw [setAt_other _ _ e]
    cases x <;> try rfl
    rename_i bs
    simp only [nameAt]
    rw [idx_snoc h, if_neg (fun q => e (by rw [← q]))]
theorem find_run {w : World} {a n : Nat} {A : List ByteArray} (h : MapIs Try.prog 9 w a n (nameAt A)) {s : ByteArray} (hs : s.size ≤ maxLen) : Sem.run Try.prog (Instr.lookup 110 (.map (some a)) (.string s) true) w = .ok (.tuple #[((idx A s).map (fun (i : Nat) => Value.int .i64 (i : Int))).getD (.int .i64 0), .bool (idx A s).isSome]) w := by
  rw [h.look_ok law9 Try.underlying110 (zero3 w) (keyOf_string_mk Try.underlying9 hs), nameAt_str]
  cases idx A s <;> rfl
set_option maxHeartbeats 1000000 in
theorem Find_yes (w : World) (t a n i : Nat) (A : List ByteArray) (s : ByteArray) (t1 : w.cell? ⟨t, 1, none⟩ = some (.map (some a))) (h : MapIs Try.prog 9 w a n (nameAt A)) (hs : s.size ≤ maxLen) (hi : idx A s = some i) : Calls Try.prog 49 #[.pointer (some ⟨t, 0, none⟩), .string s] w fun e w' => e = .returned (.tuple #[.int .i64 (i : Int), .bool true]) ∧ w = w' := by
  have q := find_run h hs
  rw [hi] at q
  simp only [Option.map_some, Option.getD_some, Option.isSome_some] at q
  clear h hi
  go_enter Try.func49, Try.ntmps49
  go_wp2_with (go_at_call 50; refine (isNames _ t a t1).mono ?_; rintro e w' ⟨rfl, rfl⟩)
  refine bodyPost_ret (v := .tuple #[.int .i64 (i : Int), .bool true]) (by simp [results, Try.f49, go_sem]) rfl ⟨rfl, rfl⟩
set_option maxHeartbeats 1000000 in
theorem Find_no (w : World) (t a n : Nat) (A : List ByteArray) (s : ByteArray) (t1 : w.cell? ⟨t, 1, none⟩ = some (.map (some a))) (h : MapIs Try.prog 9 w a n (nameAt A)) (hs : s.size ≤ maxLen) (hi : idx A s = none) : Calls Try.prog 49 #[.pointer (some ⟨t, 0, none⟩), .string s] w fun e w' => e = .returned (.tuple #[.int .i64 0, .bool false]) ∧ w = w' := by
  have q := find_run h hs
  rw [hi] at q
  simp only [Option.map_none, Option.getD_none, Option.isSome_none] at q
  clear h hi
  go_enter Try.func49, Try.ntmps49
  go_wp2_with (go_at_call 50; refine (isNames _ t a t1).mono ?_; rintro e w' ⟨rfl, rfl⟩)
  refine bodyPost_ret (v := .tuple #[.int .i64 0, .bool false]) (by simp [results, Try.f49, go_sem]) rfl ⟨rfl, rfl⟩
set_option maxHeartbeats 1000000 in
theorem Add_there (w : World) (t a n i : Nat) (A : List ByteArray) (s : ByteArray) (t1 : w.cell? ⟨t, 1, none⟩ = some (.map (some a))) (h : MapIs Try.prog 9 w a n (nameAt A)) (hs : goodName s) (hi : idx A s = some i) : Calls Try.prog 24 #[.pointer (some ⟨t, 0, none⟩), .string s] w fun e w' => e = .returned (.tuple #[.int .i64 0, .int .i64 5]) ∧ w = w' := by
  have q := find_run h (s := s) (by have := hs.2; unfold maxLen; omega)
  rw [hi] at q
  simp only [Option.map_some, Option.getD_some, Option.isSome_some] at q
  have HS := hide hs
  clear h hi hs
  go_enter Try.func24, Try.ntmps24
  go_wp2_with (first | (go_at_call 50; refine (isNames _ t a t1).mono ?_; rintro e w' ⟨rfl, rfl⟩) | (go_at_call 23; refine (Check_ok s _ HS.out.1 HS.out.2).mono ?_; rintro e w' ⟨rfl, rfl⟩))
  refine bodyPost_ret (v := .tuple #[.int .i64 0, .int .i64 5]) (by simp [results, Try.f24, go_sem]) rfl ⟨rfl, rfl⟩
/-- what Add does to the heap -/
def AddPost (t a : Nat) (lv : Value) (A : List ByteArray) (s : ByteArray) (w : World) (e : Ending) (w' : World) : Prop :=
  e = .returned (.tuple #[.int .i64 (A.length : Int), .int .i64 0]) ∧ ∃ lv', w'.ownsRow 0 9 1 lv' (A.length + 1) ((A ++ [s]).map Value.string) ∧ w'.cell? ⟨t, 0, none⟩ = some lv' ∧ w'.cell? ⟨t, 1, none⟩ = some (.map (some a)) ∧ w'.cell? ⟨t, 2, none⟩ = some (.int .i64 65536) ∧ w'.frozen? ⟨t, 0, none⟩ = false ∧ MapIs Try.prog 9 w' a (A.length + 1) (nameAt (A ++ [s])) ∧
    (lv'.ownBlock = lv.ownBlock ∨ ∃ k, lv'.ownBlock = some k ∧ w.heap.size ≤ k) ∧ w'.os = w.os ∧ w'.tape = w.tape ∧ w'.output = w.output ∧ w.heap.size ≤ w'.heap.size ∧ ∀ k, k < w.heap.size → k ≠ t → k ≠ a → lv.ownBlock ≠ some k → w'.heap[k]? = w.heap[k]?
theorem grown_heap {w w' : World} {r : Option Nat} (h : w.grownBy w' r) {k : Nat} (hk : k < w.heap.size) (hr : r ≠ some k) : w'.heap[k]? = w.heap[k]? := h.block k hk (fun e => hr e.symm)
theorem turned_heap {w w' : World} {b : Nat} (h : w.mapTurned w' b) {k : Nat} (hk : k ≠ b) (hl : k < w.heap.size) : w'.heap[k]? = w.heap[k]? := h.grown.block k hl (fun e => hk (Option.some.inj e))
theorem MapIs.grown {P : Program} {k : TypeId} {w : World} {b n : Nat} {f : Lit → Option Value} {w' : World} {r : Option Nat} (h : MapIs P k w b n f) (hg : w.grownBy w' r) (hr : r ≠ some b) : MapIs P k w' b n f := h.stays hg.size (hg.block b h.lt (fun e => hr e.symm))
theorem own_any {w : World} {base : Nat} {e : TypeId} {size : Nat} {v : Value} {n : Nat} {xs : List Value} (own : w.ownsRow base e size v n xs) : ∃ ao cap, v = .slice ao n cap := by
  rcases own.2 with ⟨rfl, rfl, _⟩ | ⟨k, c, cur, rfl, _⟩
  · exact ⟨none, 0, rfl⟩
  · exact ⟨_, _, rfl⟩
theorem behind1 {w w1 : World} {t : Nat} {lv : Value} {o : Obj} {x0 x1 x2 : Value} (hg : (w.alloc o).grownBy w1 lv.ownBlock) (t0 : w.cell? ⟨t, 0, none⟩ = some x0) (t1 : w.cell? ⟨t, 1, none⟩ = some x1) (t2 : w.cell? ⟨t, 2, none⟩ = some x2) (tf : w.frozen? ⟨t, 0, none⟩ = false) (hl : lv.ownBlock ≠ some t) :
    w1.cell? ⟨t, 0, none⟩ = some x0 ∧ w1.cell? ⟨t, 1, none⟩ = some x1 ∧ w1.cell? ⟨t, 2, none⟩ = some x2 ∧ w1.frozen? ⟨t, 0, none⟩ = false ∧ t < w1.heap.size := by
  have ht : t < w.heap.size := World.block_lt_of_cell? w _ t0
  have hb : w1.heap[t]? = w.heap[t]? := (hg.block t (by simp; omega) (fun e => hl e.symm)).trans (Below.heap_alloc w o t ht)
  refine ⟨(World.cell?_of_block (a := ⟨t, 0, none⟩) hb).trans t0, (World.cell?_of_block (a := ⟨t, 1, none⟩) hb).trans t1, (World.cell?_of_block (a := ⟨t, 2, none⟩) hb).trans t2, (World.frozen?_of_block (a := ⟨t, 0, none⟩) hb).trans tf, ?_⟩
  have := hg.size
  simp at this
  omega
theorem own_stays {w w' : World} {base : Nat} {e : TypeId} {size : Nat} {v : Value} {n : Nat} {xs : List Value} (h : w.ownsRow base e size v n xs) (hs : ∀ k, v.ownBlock = some k → w'.heap[k]? = w.heap[k]?) : w'.ownsRow base e size v n xs := by
  refine ⟨h.1, h.2.imp id ?_⟩
  rintro ⟨g, cap, cur, rfl, hb, hg, r⟩
  exact ⟨g, cap, cur, rfl, hb, (hs g rfl).trans hg, r⟩
theorem Add_close {w w1 w2 : World} {t a : Nat} {lv lv' : Value} {A : List ByteArray} {s : ByteArray} {o : Obj} (own1 : w1.ownsRow 0 9 1 lv' (A.length + 1) (A.map Value.string ++ [.string s])) (hg : (w.alloc o).grownBy w1 lv.ownBlock) (hloc : lv'.ownBlock = lv.ownBlock ∨ lv'.ownBlock = some (w.alloc o).heap.size)
    (b1 : w1.cell? ⟨t, 0, none⟩ = some lv) (b2 : w1.cell? ⟨t, 1, none⟩ = some (.map (some a))) (b3 : w1.cell? ⟨t, 2, none⟩ = some (.int .i64 65536)) (b4 : w1.frozen? ⟨t, 0, none⟩ = false) (ht : t < w.heap.size) (ha : a < w.heap.size) (hlt : lv.ownBlock ≠ some t) (hla : lv.ownBlock ≠ some a) (hat : a ≠ t)
    (hone : lv.oneCell' = true ∧ lv'.oneCell' = true) (hi : idx A s = none) (hm : MapIs Try.prog 9 w2 a (if (nameAt A (.string s.data.toList)).isSome then A.length else A.length + 1) (setAt (nameAt A) (.string s.data.toList) (.int .i64 (A.length : Int)))) (ht2 : (w1.setCell ⟨t, 0, none⟩ lv').mapTurned w2 a) :
    ∃ lv', w2.ownsRow 0 9 1 lv' (A.length + 1) ((A ++ [s]).map Value.string) ∧ w2.cell? ⟨t, 0, none⟩ = some lv' ∧ w2.cell? ⟨t, 1, none⟩ = some (.map (some a)) ∧ w2.cell? ⟨t, 2, none⟩ = some (.int .i64 65536) ∧ w2.frozen? ⟨t, 0, none⟩ = false ∧ MapIs Try.prog 9 w2 a (A.length + 1) (nameAt (A ++ [s])) ∧
    (lv'.ownBlock = lv.ownBlock ∨ ∃ k, lv'.ownBlock = some k ∧ w.heap.size ≤ k) ∧ w2.os = w.os ∧ w2.tape = w.tape ∧ w2.output = w.output ∧ w.heap.size ≤ w2.heap.size ∧ ∀ k, k < w.heap.size → k ≠ t → k ≠ a → lv.ownBlock ≠ some k → w2.heap[k]? = w.heap[k]? := by
  have hz1 : w.heap.size < w1.heap.size := by have := hg.size; simp at this; omega
  have hz2 : w1.heap.size ≤ w2.heap.size := by have := ht2.grown.size; simpa using this
  have hS : ∀ k, k < w1.heap.size → k ≠ a → w2.heap[k]? = (w1.setCell ⟨t, 0, none⟩ lv').heap[k]? := fun k hk hne => turned_heap ht2 hne (by simpa using hk)
  have hT : w2.heap[t]? = (w1.setCell ⟨t, 0, none⟩ lv').heap[t]? := hS t (by omega) (Ne.symm hat)
  have hO : ∀ k, k < w1.heap.size → k ≠ a → k ≠ t → w2.heap[k]? = w1.heap[k]? := fun k hk h1 h2 => (hS k hk h1).trans (heap_setCell_other _ _ _ _ h2)
  have hne' : ∀ k, lv'.ownBlock = some k → k ≠ t ∧ k ≠ a := by
    intro k hk
    rcases hloc with e | e
    · rw [e] at hk; exact ⟨fun q => hlt (q ▸ hk), fun q => hla (q ▸ hk)⟩
    · rw [e] at hk; simp at hk; omega
  refine ⟨lv', ?_, ?_, ?_, ?_, ?_, ?_, ?_, ?_, ?_, ?_, ?_, ?_⟩
  · rw [List.map_append]
    exact own_stays own1 (fun k hk => hO k (own1.lt k hk).2 (hne' k hk).2 (hne' k hk).1)
  · rw [World.cell?_of_block (a := ⟨t, 0, none⟩) hT]; simp [go_sem, b1, hone]
  · rw [World.cell?_of_block (a := ⟨t, 1, none⟩) hT]; simp [go_sem, b1, b2, hone]
  · rw [World.cell?_of_block (a := ⟨t, 2, none⟩) hT]; simp [go_sem, b1, b3, hone]
  · rw [World.frozen?_of_block (a := ⟨t, 0, none⟩) hT]; simp [go_sem, b4]
  · rw [nameAt_str, hi] at hm
    exact hm.ext (nameAt_snoc hi)
  · rcases hloc with e | e
    · exact .inl e
    · exact .inr ⟨_, e, by simp⟩
  · exact ht2.grown.os.trans hg.os
  · exact ht2.grown.tape.trans hg.tape
  · exact ht2.grown.output.trans hg.output
  · omega
  · intro k hk h1 h2 h3
    rw [hO k (by omega) h2 h1, hg.block k (by simp; omega) (fun e => h3 e.symm), Below.heap_alloc w o k hk]
set_option maxRecDepth 100000 in
set_option maxHeartbeats 2000000 in
theorem Add_ok (w : World) (t a : Nat) (lv : Value) (A : List ByteArray) (s : ByteArray) (t0 : w.cell? ⟨t, 0, none⟩ = some lv) (t1 : w.cell? ⟨t, 1, none⟩ = some (.map (some a))) (t2 : w.cell? ⟨t, 2, none⟩ = some (.int .i64 65536)) (tf : w.frozen? ⟨t, 0, none⟩ = false)
    (own : w.ownsRow 0 9 1 lv A.length (A.map Value.string)) (h : MapIs Try.prog 9 w a A.length (nameAt A)) (hs : goodName s) (hi : idx A s = none) (hm : A.length < 65536) (hlt : lv.ownBlock ≠ some t) (hla : lv.ownBlock ≠ some a) (hat : a ≠ t) :
    Calls Try.prog 24 #[.pointer (some ⟨t, 0, none⟩), .string s] w (AddPost t a lv A s w) := by
  have q := find_run h (s := s) (by have := hs.2; unfold maxLen; omega)
  rw [hi] at q
  simp only [Option.map_none, Option.getD_none, Option.isSome_none] at q
  have HS := hide hs
  have H := hide h
  have HI := hide hi
  have hta : t < w.heap.size := World.block_lt_of_cell? w _ t0
  obtain ⟨ao, cap, rfl⟩ := own_any own
  have OW := hide own
  have HL := hide (And.intro hlt (And.intro hla hat))
  obtain ⟨i0, hi0, hz0, hz1, hz2⟩ := info_parts info9
  have hne : ((A.length : Int) == 65536) = false := by (rw [beq_eq_false_iff_ne]; omega)
  have hne2 : decide ((A.length : Int) = 65536) = false := by (rw [decide_eq_false_iff_not]; omega)
  have C0 := hide t0
  have C1 := hide t1
  have C2 := hide t2
  have F0 := hide tf
  have ONE := hide (show ∀ u ∈ [Value.string s], u.oneCell' = true from fun u hu => by simp at hu; subst hu; rfl)
  have HSZ := hide (show s.size ≤ maxLen by have := hs.2; unfold maxLen; omega)
  clear h hi hs own hlt hla hat
  go_enter Try.func24, Try.ntmps24
  go_wp2_with (first
    | (go_at_call 50; refine (isNames _ t a C1.out).mono ?_; rintro e w' ⟨rfl, rfl⟩)
    | (go_at_call 23; refine (Check_ok s _ HS.out.1 HS.out.2).mono ?_; rintro e w' ⟨rfl, rfl⟩)
    | (at_builtin; (refine wpList_append_own_at _ rfl _ _ 22 rfl 0 9 i0 _ 1 16 Try.underlying22 hi0 hz0 hz1 hz2 rfl (by decide) _ _ _ rfl (OW.out.alloc _) ⟨w.heap.size, 0, none⟩ 1 1 [.string s] rfl rfl (cell_one_new _ _ _) ONE.out (by unfold maxLen; omega) (by omega) (Nat.zero_le _) ?_; intro lv' w1 own1 hg1 hnil hloc; obtain ⟨ao', cap', rfl⟩ := own_any own1; have GO1 := hide (And.intro own1 (And.intro hg1 (And.intro hnil hloc))); obtain ⟨b1, b2, b3, b4, b5⟩ := behind1 hg1 C0.out C1.out C2.out F0.out HL.out.1; have H1 := hide ((H.out.stays (by simp) (Below.heap_alloc w _ a H.out.lt)).grown hg1 HL.out.2.1); clear own1 hg1 hnil hloc))
    | (at_mapUpdate; (refine wpList_mapUpdate_is _ rfl _ _ _ 110 rfl 9 3 law9 Try.underlying110 a A.length (nameAt A) rfl (H1.out.stays (by simp) (heap_setCell_other _ _ _ _ HL.out.2.2)) (by unfold maxLen; omega) _ _ _ rfl rfl (keyOf_string_mk Try.underlying9 HSZ.out) ?_; intro w2 hm2 ht2; have HM2 := hide hm2; have HT2 := hide ht2; clear hm2 ht2)))
  refine bodyPost_ret (v := .tuple #[.int .i64 (A.length : Int), .int .i64 0]) (by simp [results, Try.f24, go_sem]) rfl ⟨rfl, ?_⟩
  exact Add_close (by simpa using GO1.out.1) GO1.out.2.1 GO1.out.2.2.2 b1 b2 b3 b4 hta H.out.lt HL.out.1 HL.out.2.1 HL.out.2.2 ⟨rfl, rfl⟩ HI.out HM2.out HT2.out
end Go.Proofs.Ytkdocoibfclfeaa
