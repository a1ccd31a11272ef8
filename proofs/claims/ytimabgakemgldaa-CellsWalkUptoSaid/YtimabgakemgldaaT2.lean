import Derived.Test.YtimabgakemgldaaT1
import Derived.Laws.LoneSync
import Derived.WalkKit
import Derived.StillTailTactics
import Derived.Deep.RegionLaw
import Derived.Deep.RegionHeld3
namespace Go.Proofs.Ytimabgakemgldaa
open Go.ChangeShapes Go.WideShapes Go.ChangeAt Go.RowKit Go.Deep
set_option linter.unusedSimpArgs false
set_option linter.unusedVariables false

/-- an offer's block -/
def OfferAt (w : World) (o : Nat) (who x : Int) : Prop := w.heap[o]? = some (.cells #[.int .i64 who, .int .i64 x] 154)
theorem OfferAt.cell {w : World} {o : Nat} {who x : Int} (h : OfferAt w o who x) : w.cell? ⟨o, 0, none⟩ = some (.int .i64 who) ∧ w.cell? ⟨o, 1, none⟩ = some (.int .i64 x) := by
  unfold OfferAt at h
  simp [World.cell?, h]
theorem OfferAt.shape {w : World} {o : Nat} {who x : Int} (h : OfferAt w o who x) : w.shape? o = some (154, 2) := by
  unfold OfferAt at h
  simp [World.shape?, h]
theorem OfferAt.frozen {w : World} {o : Nat} {who x : Int} (h : OfferAt w o who x) (f : Nat) : w.frozen? ⟨o, f, none⟩ = false := by
  unfold OfferAt at h
  simp [World.frozen?, h]
theorem OfferAt.stays {w w' : World} {o : Nat} {who x : Int} (h : OfferAt w o who x) (hb : w'.heap[o]? = w.heap[o]?) : OfferAt w' o who x := hb.trans h
/-- a pointer to an offer that lies there, or none -/
def PtrOk (w : World) : Option Addr → Prop
  | none => True
  | some a => ∃ o who x, a = ⟨o, 0, none⟩ ∧ OfferAt w o who x
theorem conv_to (p : Option Addr) (w : World) (h : PtrOk w p) : (convert 108 110 (.pointer p)).run Try.prog w = .ok (.pointer p) w := by
  cases p with
  | none => kernel_rfl
  | some a =>
    obtain ⟨o, who, x, rfl, ho⟩ := h
    exact run_convert_to_unsafe Try.underlying108 Try.underlying110 (by kernel_rfl) ho.cell.1
theorem conv_from (p : Option Addr) (w : World) (h : PtrOk w p) : (convert 110 108 (.pointer p)).run Try.prog w = .ok (.pointer p) w := by
  cases p with
  | none => kernel_rfl
  | some a =>
    obtain ⟨o, who, x, rfl, ho⟩ := h
    have hl : liesAt Try.prog Try.prog.depth 154 (2 / Try.prog.cellsOf 154) 0 154 1 = true := by kernel_rfl
    simp [convert, Conv.unsafePointer, Conv.seenAt, viewAt, run_underlying Try.underlying108, run_underlying Try.underlying110, ho.shape, Result.andThen, variablesAt, hl]

theorem run_loadp (b : Nat) (p : Option Addr) (w : World) (hc : w.cell? ⟨b, 0, none⟩ = some (.pointer p)) : (callFunc 100 #[.pointer (some ⟨b, 0, none⟩)]).run Try.prog w = .ok (.value (.pointer p)) w := by
  rw [run_callFunc_extern Try.func100 (by kernel_rfl) (by kernel_rfl) (by kernel_rfl) (by kernel_rfl : Extern.find _ = some (Extern.Atomic.loadT .ptr))]
  change (Sem.run Try.prog (do Extern.Atomic.read .ptr (← asAddr (.pointer (some ⟨b, 0, none⟩)))) w).andThen _ = _
  simp [Extern.Atomic.read, asAddr, hc, Result.andThen]
theorem same_self (p : Option Addr) (w : World) : (samePointer p p).run Try.prog w = .ok true w := by
  cases p <;> simp [samePointer, sameAddr]
theorem same_not (p q : Option Addr) (w : World) (hp : PtrOk w p) (hq : PtrOk w q) (hne : p ≠ q) : (samePointer p q).run Try.prog w = .ok false w := by
  cases p with
  | none => cases q with
    | none => exact absurd rfl hne
    | some b => simp [samePointer]
  | some a => cases q with
    | none => simp [samePointer]
    | some b =>
      obtain ⟨o, who, x, rfl, ho⟩ := hp
      obtain ⟨o2, who2, x2, rfl, ho2⟩ := hq
      have hoo : o ≠ o2 := fun e => hne (by rw [e])
      simp [samePointer, sameAddr, hoo, ho.frozen, ho2.frozen, noView, viewAt, ho.shape, ho2.shape, mayBeOne, stringish, Result.andThen]
theorem run_casp (b : Nat) (p q r : Option Addr) (y : Bool) (w : World) (hc : w.cell? ⟨b, 0, none⟩ = some (.pointer p)) (hz : w.frozen? ⟨b, 0, none⟩ = false) (hs : (samePointer p q).run Try.prog w = .ok y w) :
    (callFunc 110 #[.pointer (some ⟨b, 0, none⟩), .pointer q, .pointer r]).run Try.prog w = .ok (.value (.bool y)) (if y = true then w.setCell ⟨b, 0, none⟩ (.pointer r) else w) := by
  rw [run_callFunc_extern Try.func110 (by kernel_rfl) (by kernel_rfl) (by kernel_rfl) (by kernel_rfl : Extern.find _ = some (Extern.Atomic.casT .ptr))]
  change (Sem.run Try.prog (do
    let a' ← asAddr (.pointer (some ⟨b, 0, none⟩))
    if ← Extern.Atomic.touchesFrozen a' then unsupported (.unsafePointer "a write to bytes that a string shares")
    let eq ← match Extern.Atomic.T.ptr, ← Extern.Atomic.read .ptr a', Value.pointer q with
      | _, .int _ x, .int _ y => pure (x == y)
      | .ptr, .pointer x, .pointer y => samePointer x y
      | .int _, .pointer (some _), .int _ 0 | .int _, .int _ 0, .pointer (some _) => pure false
      | .int _, .pointer (some _), _ | .int _, _, .pointer (some _) => unsupported .addressObserved
      | _, _, _ => stuck "atomic.CompareAndSwap: old is no T"
    if eq then store a' (.pointer r) .atomic
    pure (Value.bool eq)) w).andThen _ = _
  cases y <;> simp [Extern.Atomic.touchesFrozen, Extern.Atomic.read, asAddr, viewAt, World.shape?_isSome_of_cell? hc, hc, hz, hs, run_store Try.prog w ⟨b, 0, none⟩ (.pointer r) .atomic rfl, Result.andThen]
theorem PLoad (b : Nat) (p : Option Addr) (w : World) (hc : w.cell? ⟨b, 0, none⟩ = some (.pointer p)) (hp : PtrOk w p) : Calls Try.prog 63 #[.pointer (some ⟨b, 0, none⟩)] w fun e w' => e = .returned (.pointer p) ∧ w = w' := by
  have h := run_loadp b p w hc
  have h2 := conv_from p w hp
  clear hp
  go_enter Try.func63, Try.ntmps63
  go_wp2
  go_ret
  exact ⟨rfl, rfl⟩
theorem PCas_hit (b : Nat) (p r : Option Addr) (w : World) (hc : w.cell? ⟨b, 0, none⟩ = some (.pointer p)) (hz : w.frozen? ⟨b, 0, none⟩ = false) (hp : PtrOk w p) (hr : PtrOk w r) : Calls Try.prog 98 #[.pointer (some ⟨b, 0, none⟩), .pointer p, .pointer r] w fun e w' => e = .returned (.bool true) ∧ w' = w.setCell ⟨b, 0, none⟩ (.pointer r) := by
  have h := run_casp b p p r true w hc hz (same_self p w)
  rw [if_pos rfl] at h
  have h2 := conv_to p w hp
  have h3 := conv_to r w hr
  clear hp hr
  go_enter Try.func98, Try.ntmps98
  go_wp2
  go_ret
  exact ⟨rfl, rfl⟩
theorem PCas_miss (b : Nat) (p q r : Option Addr) (w : World) (hc : w.cell? ⟨b, 0, none⟩ = some (.pointer p)) (hz : w.frozen? ⟨b, 0, none⟩ = false) (hp : PtrOk w p) (hq : PtrOk w q) (hr : PtrOk w r) (hne : p ≠ q) : Calls Try.prog 98 #[.pointer (some ⟨b, 0, none⟩), .pointer q, .pointer r] w fun e w' => e = .returned (.bool false) ∧ w = w' := by
  have h := run_casp b p q r false w hc hz (same_not p q w hp hq hne)
  rw [if_neg (by decide)] at h
  have h2 := conv_to q w hq
  have h3 := conv_to r w hr
  clear hp hr hq hne
  go_enter Try.func98, Try.ntmps98
  go_wp2
  go_ret
  exact ⟨rfl, rfl⟩
end Go.Proofs.Ytimabgakemgldaa
