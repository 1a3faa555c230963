/- Contracts of functions of Go's library: a text is repeated, trimmed; the least and the greatest of some ints. No condition. -/
import Derived.Test.YtbobhejdijcofaaGreatDoorEngSI
import Derived.Lib.Repeat
import Derived.Lib.Slices
import Derived.Lib.SlTrimSet
namespace Go.Proofs.YtbobhejdijcofaaGreatDoor
open Go Go.RowKit
set_option linter.unusedVariables false
set_option linter.unusedSimpArgs false

/-! ### A text is repeated -/

def repOk (s : List UInt8) (n : Int) : Bool := (decide (0 ≤ n) && decide (n ≤ 9223372036854775807)) && decide (s.length * n.toNat ≤ 140737488355328)
def hRepeat (s : List UInt8) (n : Int) : Option (List UInt8) := if repOk s n = true then some (Lib.repeatL s n.toNat) else none

def hRepeatF : List AV → Rs
  | [.str s, .int .i64 n] => ⟨repOk s n, .str (Lib.repeatL s n.toNat), [.any, .any]⟩
  | _ => Rs.bad

def c_hRepeat : Ctr := ⟨[.bor, .bor], true, hRepeatF⟩

theorem Fs_hRepeat {a : List UInt8} {n : Int} {y_ : List UInt8} (h : hRepeat a n = some y_) : c_hRepeat.F [.str a, .int .i64 n] = ⟨true, .str y_, [.any, .any]⟩ := by
  unfold hRepeat at h
  split at h
  · rename_i hc; cases h
    show (⟨_, _, _⟩ : Rs) = _
    rw [hc]
  · cases h
theorem M_hRepeat : c_hRepeat.modes = [.bor, .bor] := rfl
theorem Fl_hRepeat : c_hRepeat.flat = true := rfl
attribute [go_sem] M_hRepeat Fl_hRepeat

theorem hRepeatF_inv {args : List AV} (h : (hRepeatF args).ok = true) : ∃ (s : List UInt8) (n : Nat), n ≤ 9223372036854775807 ∧ s.length * n ≤ 140737488355328 ∧ args = [.str s, .int .i64 (n : Int)] ∧ (hRepeatF args).r = .str (Lib.repeatL s n) := by
  unfold hRepeatF at h
  split at h
  · rename_i s n
    have h' : repOk s n = true := h
    simp only [repOk, Bool.and_eq_true, decide_eq_true_eq] at h'
    obtain ⟨⟨h1, h2⟩, h3⟩ := h'
    refine ⟨s, n.toNat, by omega, h3, by rw [Int.toNat_of_nonneg h1], rfl⟩
  · cases h

/-! ### A text is trimmed -/

def trimOk (s p : List UInt8) : Bool := (decide (s.length ≤ 9223372036854775807) && decide (p.length < 4294967281)) && p.all (fun b => decide (b.toNat < 128))
def hTrim (s p : List UInt8) : Option (List UInt8) := if trimOk s p = true then some (Lib.trimS s p) else none

def hTrimF : List AV → Rs
  | [.str s, .str p] => ⟨trimOk s p, .str (Lib.trimS s p), [.any, .any]⟩
  | _ => Rs.bad

def c_hTrim : Ctr := ⟨[.bor, .bor], true, hTrimF⟩

theorem Fs_hTrim {a b y_ : List UInt8} (h : hTrim a b = some y_) : c_hTrim.F [.str a, .str b] = ⟨true, .str y_, [.any, .any]⟩ := by
  unfold hTrim at h
  split at h
  · rename_i hc; cases h
    show (⟨_, _, _⟩ : Rs) = _
    rw [hc]
  · cases h
theorem M_hTrim : c_hTrim.modes = [.bor, .bor] := rfl
theorem Fl_hTrim : c_hTrim.flat = true := rfl
attribute [go_sem] M_hTrim Fl_hTrim

theorem hTrimF_inv {args : List AV} (h : (hTrimF args).ok = true) : ∃ s p : List UInt8, s.length ≤ 9223372036854775807 ∧ p.length < 4294967281 ∧ p.all (fun b => decide (b.toNat < 128)) = true ∧ args = [.str s, .str p] := by
  unfold hTrimF at h
  split at h
  · rename_i s p
    have h' : trimOk s p = true := h
    simp only [trimOk, Bool.and_eq_true, decide_eq_true_eq] at h'
    obtain ⟨⟨h1, h2⟩, h3⟩ := h'
    exact ⟨s, p, h1, h2, h3, rfl⟩
  · cases h

/-! ### The least and the greatest of some ints -/

def mmOk (l : List Int) : Bool := decide (0 < l.length) && decide (l.length ≤ 9223372036854775807)
def hMaxI (l : List Int) : Option Int := if mmOk l = true then some (Lib.maxOf l) else none
def hMinI (l : List Int) : Option Int := if mmOk l = true then some (Lib.minOf l) else none

def mmF (f : List Int → Int) : List AV → Rs
  | [.sl sz els] => match intsOf els with
    | some l => ⟨mmOk l, .int .i64 (f l), [.any]⟩
    | none => Rs.bad
  | _ => Rs.bad

def c_hMaxI : Ctr := ⟨[.bor], true, mmF Lib.maxOf⟩
def c_hMinI : Ctr := ⟨[.bor], true, mmF Lib.minOf⟩

theorem Fs_hMaxI {a : List Int} {y_ : Int} (h : hMaxI a = some y_) : c_hMaxI.F [.sl 1 (List.map (AV.int .i64) a)] = ⟨true, .int .i64 y_, [.any]⟩ := by
  unfold hMaxI at h
  split at h
  · rename_i hc; cases h
    show mmF Lib.maxOf [AV.sl 1 (List.map (AV.int .i64) a)] = _
    unfold mmF
    simp only [intsOf_map, hc]
  · cases h
theorem Fs_hMinI {a : List Int} {y_ : Int} (h : hMinI a = some y_) : c_hMinI.F [.sl 1 (List.map (AV.int .i64) a)] = ⟨true, .int .i64 y_, [.any]⟩ := by
  unfold hMinI at h
  split at h
  · rename_i hc; cases h
    show mmF Lib.minOf [AV.sl 1 (List.map (AV.int .i64) a)] = _
    unfold mmF
    simp only [intsOf_map, hc]
  · cases h
theorem M_hMaxI : c_hMaxI.modes = [.bor] := rfl
theorem Fl_hMaxI : c_hMaxI.flat = true := rfl
theorem M_hMinI : c_hMinI.modes = [.bor] := rfl
theorem Fl_hMinI : c_hMinI.flat = true := rfl
attribute [go_sem] M_hMaxI Fl_hMaxI M_hMinI Fl_hMinI

theorem mmF_inv {f : List Int → Int} {args : List AV} (h : (mmF f args).ok = true) : ∃ sz l, 0 < l.length ∧ l.length ≤ 9223372036854775807 ∧ args = [.sl sz (List.map (AV.int .i64) l)] ∧ (mmF f args).r = .int .i64 (f l) := by
  unfold mmF at h
  split at h
  · rename_i sz els
    split at h
    · rename_i l hl
      have h' : mmOk l = true := h
      have h := Bool.and_eq_true_iff.1 h'
      refine ⟨sz, l, of_decide_eq_true h.1, of_decide_eq_true h.2, by rw [intsOf_eq hl], ?_⟩
      simp only [mmF, hl]
    · cases h
  · cases h

end Go.Proofs.YtbobhejdijcofaaGreatDoor
