/- Contracts of functions of Go's library that work on texts. No condition. -/
import Derived.Test.YtbobhejdijcofaaGreatDoorEngSH
import Derived.Lib.IndexMore
import Derived.Lib.Split
import Derived.Lib.Join
import Derived.Lib.Strings
import Derived.Lib.ParseIntB
namespace Go.Proofs.YtbobhejdijcofaaGreatDoor
open Go Go.RowKit
set_option linter.unusedVariables false
set_option linter.unusedSimpArgs false

/-! ### A text is cut -/

def hCut (s p : List UInt8) : Option (List UInt8 × List UInt8 × Bool) := if s.length < 4294967281 then some (Lib.cut s p) else none

def hCutF : List AV → Rs
  | [.str s, .str p] => ⟨decide (s.length < 4294967281), .tup [.str (Lib.cut s p).1, .str (Lib.cut s p).2.1, .bool (Lib.cut s p).2.2], [.any, .any]⟩
  | _ => Rs.bad

def c_hCut : Ctr := ⟨[.bor, .bor], true, hCutF⟩

theorem Fs_hCut {a b : List UInt8} {y_ : List UInt8 × List UInt8 × Bool} (h : hCut a b = some y_) : c_hCut.F [.str a, .str b] = ⟨true, .tup [.str y_.1, .str y_.2.1, .bool y_.2.2], [.any, .any]⟩ := by
  unfold hCut at h
  split at h
  · rename_i hc; cases h
    show (⟨_, _, _⟩ : Rs) = _
    rw [decide_eq_true hc]
  · cases h
theorem M_hCut : c_hCut.modes = [.bor, .bor] := rfl
theorem Fl_hCut : c_hCut.flat = true := rfl
attribute [go_sem] M_hCut Fl_hCut

theorem hCutF_inv {args : List AV} (h : (hCutF args).ok = true) : ∃ s p, s.length < 4294967281 ∧ args = [.str s, .str p] := by
  unfold hCutF at h
  split at h
  · rename_i s p
    exact ⟨s, p, of_decide_eq_true h, rfl⟩
  · cases h

theorem bor2 {c : Ctr} (hm : c.modes = [.bor, .bor]) (j : Nat) : c.modes[j]? ≠ some Md.io := by
  rw [hm]
  match j with
  | 0 => intro h; cases h
  | 1 => intro h; cases h
  | j + 2 => simp

theorem bor1 {c : Ctr} (hm : c.modes = [.bor]) (j : Nat) : c.modes[j]? ≠ some Md.io := by
  rw [hm]
  match j with
  | 0 => intro h; cases h
  | j + 1 => simp

theorem hCut_sound {P : Program} {f : FuncId} (hc : ∀ (s p : List UInt8) (w : World), s.length < 4294967281 → GT (fun _ => False) w →
    Invokes P f #[.string ⟨s.toArray⟩, .string ⟨p.toArray⟩] w fun e w' => e = .returned (.tuple #[.string ⟨(Lib.cut s p).1.toArray⟩, .string ⟨(Lib.cut s p).2.1.toArray⟩, .bool (Lib.cut s p).2.2]) ∧ Same (fun _ => False) w w') : Sound P f c_hCut := by
  refine ⟨fun _ => rfl, fun F g0 w args vargs hsh hsz hfr hok => ⟨fun _ => ?_, ?_⟩⟩
  · obtain ⟨s, p, _, rfl⟩ := hCutF_inv hok; rfl
  · obtain ⟨s, p, hl, rfl⟩ := hCutF_inv hok
    have h0 := arg_VR hfr (i := 0) (by simp)
    have h1 := arg_VR hfr (i := 1) (by simp)
    rw [vargs_two hsz]
    generalize vargs.getD 0 undef = x at h0
    generalize vargs.getD 1 undef = y at h1
    cases h0; cases h1
    refine (hc s p w hl (hfr.tab.mono (Same.refl _ _) fun _ _ c => c.elim)).mono fun e' w' ⟨he, hs⟩ => ?_
    refine ⟨_, g0, [], id, he, back_val hs ⟨_, rfl, rfl, fun j hj => ?_⟩ (fun i hi => ?_) (bor2 rfl)⟩
    · match j, hj with
      | 0, _ => exact .str
      | 1, _ => exact .str
      | 2, _ => exact .bool
    · obtain ⟨j, _, hj, hf⟩ := hi
      match j, hj with
      | 0, _ => exact absurd hf Bool.false_ne_true
      | 1, _ => exact absurd hf Bool.false_ne_true
      | 2, _ => exact absurd hf Bool.false_ne_true

/-! ### A text is split -/

def hSplit (s p : List UInt8) : Option (List (List UInt8)) := if (decide (s.length < 4294967281) && decide (1 ≤ p.length)) = true then some (Lib.split s p) else none

def hSplitF : List AV → Rs
  | [.str s, .str p] => ⟨decide (s.length < 4294967281) && decide (1 ≤ p.length), .fresh 1 (List.map AV.str (Lib.split s p)), [.any, .any]⟩
  | _ => Rs.bad

def c_hSplit : Ctr := ⟨[.bor, .bor], true, hSplitF⟩

theorem Fs_hSplit {a b : List UInt8} {y_ : List (List UInt8)} (h : hSplit a b = some y_) : c_hSplit.F [.str a, .str b] = ⟨true, .fresh 1 (List.map AV.str y_), [.any, .any]⟩ := by
  unfold hSplit at h
  split at h
  · rename_i hc; cases h
    show (⟨_, _, _⟩ : Rs) = _
    rw [hc]
  · cases h
theorem M_hSplit : c_hSplit.modes = [.bor, .bor] := rfl
theorem Fl_hSplit : c_hSplit.flat = true := rfl
attribute [go_sem] M_hSplit Fl_hSplit

theorem hSplitF_inv {args : List AV} (h : (hSplitF args).ok = true) : ∃ s p, s.length < 4294967281 ∧ 1 ≤ p.length ∧ args = [.str s, .str p] := by
  unfold hSplitF at h
  split at h
  · rename_i s p
    have h := Bool.and_eq_true_iff.1 h
    exact ⟨s, p, of_decide_eq_true h.1, of_decide_eq_true h.2, rfl⟩
  · cases h

theorem home_strs {S : Nat → Prop} {w : World} {T : TypeId} (ss : List (List UInt8)) : Home S (w.alloc (.cells (ss.map fun l => Value.string ⟨l.toArray⟩).toArray T)) w.heap.size ss.length 1 (List.map AV.str ss) := by
  have hget : ∀ i (hi : i < ss.length), (List.map AV.str ss).getD i .any = .str ss[i] := fun i hi => by
    rw [List.getD_eq_getElem?_getD, List.getElem?_map, List.getElem?_eq_getElem hi]; rfl
  refine ⟨Nat.le_refl _, by simp, fun i hi => ?_, fun hp => ⟨(ss.map fun l => Value.string ⟨l.toArray⟩).toArray, T, (0, 0), by show (w.heap.push _)[w.heap.size]? = _; simp, .inl rfl, by simp, fun i j hi hj => ?_⟩⟩
  · rw [hget i (by simpa using hi)]; exact ⟨rfl, rfl⟩
  · obtain rfl : j = 0 := by omega
    have hi' : i < ss.length := by simpa using hi
    rw [hget i hi', Nat.mul_one, Nat.add_zero, Array.getD_eq_getD_getElem?]
    rw [List.getElem?_toArray, List.getElem?_map, List.getElem?_eq_getElem hi']
    exact .str

theorem hSplit_sound {P : Program} {f : FuncId} {T : TypeId} (hc : ∀ (s p : List UInt8) (w : World), s.length < 4294967281 → 1 ≤ p.length → GT (fun _ => False) w →
    Invokes P f #[.string ⟨s.toArray⟩, .string ⟨p.toArray⟩] w fun e w' => e = .returned (.slice (some ⟨w.heap.size, 0, none⟩) (Lib.split s p).length (Lib.split s p).length) ∧ w' = w.alloc (.cells ((Lib.split s p).map fun l => Value.string ⟨l.toArray⟩).toArray T)) : Sound P f c_hSplit := by
  refine ⟨fun _ => rfl, fun F g0 w args vargs hsh hsz hfr hok => ⟨fun _ => ?_, ?_⟩⟩
  · obtain ⟨s, p, _, _, rfl⟩ := hSplitF_inv hok
    show flatA (.fresh 1 (List.map AV.str (Lib.split s p))) = true
    simp only [flatA, flatB, flatE_map (f := AV.str) (fun _ => rfl)]
  · obtain ⟨s, p, hl, hp, rfl⟩ := hSplitF_inv hok
    have h0 := arg_VR hfr (i := 0) (by simp)
    have h1 := arg_VR hfr (i := 1) (by simp)
    rw [vargs_two hsz]
    generalize vargs.getD 0 undef = x at h0
    generalize vargs.getD 1 undef = y at h1
    cases h0; cases h1
    refine (hc s p w hl hp (hfr.tab.mono (Same.refl _ _) fun _ _ c => c.elim)).mono fun e' w' ⟨he, hs⟩ => ?_
    subst hs
    have only : ∀ k h, obGet k [(0, (⟨1, List.map AV.str (Lib.split s p)⟩ : Hm))] = some h → k = 0 ∧ h = ⟨1, List.map AV.str (Lib.split s p)⟩ := by
      intro k h hg
      simp only [obGet, cond_eq_if, beq_iff_eq] at hg
      split at hg
      · rename_i e; cases hg; exact ⟨e.symm, rfl⟩
      · cases hg
    refine ⟨_, ⟨fun _ => w.heap.size, fun _ => (Lib.split s p).length⟩, [(0, ⟨1, List.map AV.str (Lib.split s p)⟩)], fun _ => 0, he, ⟨(Same.alloc (fun _ => False) w _).mono fun _ _ c => c.elim, fun k h hg => ?_, fun k k' a b _ => ?_, fun k a hF => ?_, fun k a => .inl (Nat.le_refl _), ⟨rfl, ?_⟩, fun i j hi hj _ => ?_, fun i j _ hj => absurd hj (bor2 rfl j), fun j hj => absurd hj (bor2 rfl j)⟩⟩
    · obtain ⟨rfl, rfl⟩ := only k h hg
      exact home_strs _
    · obtain ⟨⟨h, hg⟩, _⟩ := a; obtain ⟨⟨h', hg'⟩, _⟩ := b
      rw [(only k h hg).1, (only k' h' hg').1]
    · exact absurd (hfr.fb _ hF) (Nat.lt_irrefl _)
    · left; simp
    · rw [hi.1, hj.1]

/-! ### Texts are joined -/

def joinOk (l : List (List UInt8)) (p : List UInt8) : Bool := decide (l.length ≤ 1048576) && decide ((Lib.join l p).length ≤ 140737488355328)
def hJoin (l : List (List UInt8)) (p : List UInt8) : Option (List UInt8) := if joinOk l p = true then some (Lib.join l p) else none

def hJoinF : List AV → Rs
  | [.sl sz els, .str p] => match strsOf els with
    | some l => ⟨joinOk l p, .str (Lib.join l p), [.any, .any]⟩
    | none => Rs.bad
  | _ => Rs.bad

def c_hJoin : Ctr := ⟨[.bor, .bor], true, hJoinF⟩

theorem Fs_hJoin {a : List (List UInt8)} {b : List UInt8} {y_ : List UInt8} (h : hJoin a b = some y_) : c_hJoin.F [.sl 1 (List.map AV.str a), .str b] = ⟨true, .str y_, [.any, .any]⟩ := by
  unfold hJoin at h
  split at h
  · rename_i hc; cases h
    show hJoinF [AV.sl 1 (List.map AV.str a), AV.str b] = _
    unfold hJoinF
    simp only [strsOf_map, hc]
  · cases h
theorem M_hJoin : c_hJoin.modes = [.bor, .bor] := rfl
theorem Fl_hJoin : c_hJoin.flat = true := rfl
attribute [go_sem] M_hJoin Fl_hJoin

/-! ### A decimal numeral is read -/

def rdDec (s : List UInt8) : Int × Bool :=
  if (Lib.trimPrefix s [45]).length < 1 ∨ 18 < (Lib.trimPrefix s [45]).length then (0, false) else
  match Lib.parseIntB 64 s with
  | .ok v => if Lib.itoa v = s then (v, true) else (0, false)
  | _ => (0, false)

def hRdDec (s : List UInt8) : Option (Int × Bool) := if s.length ≤ 281474976710656 then some (rdDec s) else none

def hRdDecF : List AV → Rs
  | [.str s] => ⟨decide (s.length ≤ 281474976710656), .tup [.int .i64 (rdDec s).1, .bool (rdDec s).2], [.any]⟩
  | _ => Rs.bad

def c_hRdDec : Ctr := ⟨[.bor], true, hRdDecF⟩

theorem Fs_hRdDec {a : List UInt8} {y_ : Int × Bool} (h : hRdDec a = some y_) : c_hRdDec.F [.str a] = ⟨true, .tup [.int .i64 y_.1, .bool y_.2], [.any]⟩ := by
  unfold hRdDec at h
  split at h
  · rename_i hc; cases h
    show (⟨_, _, _⟩ : Rs) = _
    rw [decide_eq_true hc]
  · cases h
theorem M_hRdDec : c_hRdDec.modes = [.bor] := rfl
theorem Fl_hRdDec : c_hRdDec.flat = true := rfl
attribute [go_sem] M_hRdDec Fl_hRdDec

theorem hRdDecF_inv {args : List AV} (h : (hRdDecF args).ok = true) : ∃ s : List UInt8, s.length ≤ 281474976710656 ∧ args = [.str s] := by
  unfold hRdDecF at h
  split at h
  · rename_i s
    exact ⟨s, of_decide_eq_true h, rfl⟩
  · cases h

theorem vargs_one {vargs : Array Value} (h : vargs.size = 1) : vargs = #[vargs.getD 0 undef] := by
  obtain ⟨l⟩ := vargs
  match l, h with
  | [a], _ => rfl

theorem hRdDec_sound {P : Program} {f : FuncId} (hc : ∀ (s : List UInt8) (w : World), s.length ≤ 281474976710656 → GT (fun _ => False) w →
    Invokes P f #[.string ⟨s.toArray⟩] w fun e w' => e = .returned (.tuple #[.int .i64 (rdDec s).1, .bool (rdDec s).2]) ∧ Same (fun _ => False) w w') : Sound P f c_hRdDec := by
  refine ⟨fun _ => rfl, fun F g0 w args vargs hsh hsz hfr hok => ⟨fun _ => ?_, ?_⟩⟩
  · obtain ⟨s, _, rfl⟩ := hRdDecF_inv hok; rfl
  · obtain ⟨s, hl, rfl⟩ := hRdDecF_inv hok
    have h0 := arg_VR hfr (i := 0) (by simp)
    rw [vargs_one hsz]
    generalize vargs.getD 0 undef = x at h0
    cases h0
    refine (hc s w hl (hfr.tab.mono (Same.refl _ _) fun _ _ c => c.elim)).mono fun e' w' ⟨he, hs⟩ => ?_
    refine ⟨_, g0, [], id, he, back_val hs ⟨_, rfl, rfl, fun j hj => ?_⟩ (fun i hi => ?_) (bor1 rfl)⟩
    · match j, hj with
      | 0, _ => exact .int
      | 1, _ => exact .bool
    · obtain ⟨j, _, hj, hf⟩ := hi
      match j, hj with
      | 0, _ => exact absurd hf Bool.false_ne_true
      | 1, _ => exact absurd hf Bool.false_ne_true

end Go.Proofs.YtbobhejdijcofaaGreatDoor
