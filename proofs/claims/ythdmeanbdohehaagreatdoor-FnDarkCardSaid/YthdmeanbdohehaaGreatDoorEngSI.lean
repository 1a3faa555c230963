/- Contracts of functions of Go's library that work on texts. No condition. -/
import Derived.Test.YthdmeanbdohehaaGreatDoorEngSH
import Derived.Lib.IndexMore
import Derived.Lib.Split
import Derived.Lib.Join
import Derived.Lib.Strings
import Derived.Lib.ParseIntB
namespace Go.Proofs.YthdmeanbdohehaaGreatDoor
open Go Go.RowKit
set_option linter.unusedVariables false
set_option linter.unusedSimpArgs false
def Yj (s p : List UInt8) : Option (List UInt8 × List UInt8 × Bool) := if s.length < 4294967281 then some (Lib.cut s p) else none
def kI : List AV → Rs
 | [.str s, .str p] => ⟨decide (s.length < 4294967281), .tup [.str (Lib.cut s p).1, .str (Lib.cut s p).2.1, .bool (Lib.cut s p).2.2], [.any, .any]⟩
 | _ => Rs.bad
def JG : Bf := ⟨[.bor, .bor], true, kI⟩
theorem bu {a b : List UInt8} {y_ : List UInt8 × List UInt8 × Bool} (h : Yj a b = some y_) : JG.F [.str a, .str b] = ⟨true, .tup [.str y_.1, .str y_.2.1, .bool y_.2.2], [.any, .any]⟩ := by
 unfold Yj at h
 split at h
 ·rename_i hc; cases h
  show (⟨_, _, _⟩ : Rs) = _
  rw [decide_eq_true hc]
 ·cases h
theorem sW : JG.modes = [.bor, .bor] := rfl
theorem nw : JG.flat = true := rfl
attribute [go_sem] sW nw
theorem Vd {args : List AV} (h : (kI args).ok = true) : ∃ s p, s.length < 4294967281 ∧ args = [.str s, .str p] := by
 unfold kI at h
 split at h
 ·rename_i s p
  exact ⟨s, p, of_decide_eq_true h, rfl⟩
 ·cases h
theorem ni {c : Bf} (hm : c.modes = [.bor, .bor]) (j : Nat) : c.modes[j]? ≠ some Md.io := by
 rw [hm]
 match j with
 | 0 => intro h; cases h
 | 1 => intro h; cases h
 | j + 2 => simp
theorem bor1 {c : Bf} (hm : c.modes = [.bor]) (j : Nat) : c.modes[j]? ≠ some Md.io := by
 rw [hm]
 match j with
 | 0 => intro h; cases h
 | j + 1 => simp
theorem aG {P : Program} {f : FuncId} (hc : ∀ (s p : List UInt8) (w : World), s.length < 4294967281 → GT (fun _ => False) w →
  DM P f #[.string ⟨s.toArray⟩, .string ⟨p.toArray⟩] w fun e w' => e = .returned (.tuple #[.string ⟨(Lib.cut s p).1.toArray⟩, .string ⟨(Lib.cut s p).2.1.toArray⟩, .bool (Lib.cut s p).2.2]) ∧ Aj (fun _ => False) w w') : Ad P f JG := by
 refine ⟨fun _ => rfl, fun F g0 w args vargs hsh hsz hfr hok => ⟨fun _ => ?_, ?_⟩⟩
 ·obtain ⟨s, p, _, rfl⟩ := Vd hok; rfl
 ·obtain ⟨s, p, hl, rfl⟩ := Vd hok
  have h0 := HE hfr (i := 0) (by simp)
  have h1 := HE hfr (i := 1) (by simp)
  rw [IA hsz]
  generalize vargs.getD 0 undef = x at h0
  generalize vargs.getD 1 undef = y at h1
  cases h0; cases h1
  refine (hc s p w hl (hfr.tab.mono (Aj.refl _ _) fun _ _ c => c.elim)).mono fun e' w' ⟨he, hs⟩ => ?_
  refine ⟨_, g0, [], id, he, Jk hs ⟨_, rfl, rfl, fun j hj => ?_⟩ (fun i hi => ?_) (ni rfl)⟩
  ·match j, hj with
   | 0, _ => exact .str
   | 1, _ => exact .str
   | 2, _ => exact .bool
  ·obtain ⟨j, _, hj, hf⟩ := hi
   match j, hj with
   | 0, _ => exact absurd hf Bool.false_ne_true
   | 1, _ => exact absurd hf Bool.false_ne_true
   | 2, _ => exact absurd hf Bool.false_ne_true
def XB (s p : List UInt8) : Option (List (List UInt8)) := if (decide (s.length < 4294967281) && decide (1 ≤ p.length)) = true then some (Lib.split s p) else none
def XA : List AV → Rs
 | [.str s, .str p] => ⟨decide (s.length < 4294967281) && decide (1 ≤ p.length), .fresh 1 (List.map AV.str (Lib.split s p)), [.any, .any]⟩
 | _ => Rs.bad
def OW : Bf := ⟨[.bor, .bor], true, XA⟩
theorem tH {a b : List UInt8} {y_ : List (List UInt8)} (h : XB a b = some y_) : OW.F [.str a, .str b] = ⟨true, .fresh 1 (List.map AV.str y_), [.any, .any]⟩ := by
 unfold XB at h
 split at h
 ·rename_i hc; cases h
  show (⟨_, _, _⟩ : Rs) = _
  rw [hc]
 ·cases h
theorem lN : OW.modes = [.bor, .bor] := rfl
theorem fD : OW.flat = true := rfl
attribute [go_sem] lN fD
theorem Px {args : List AV} (h : (XA args).ok = true) : ∃ s p, s.length < 4294967281 ∧ 1 ≤ p.length ∧ args = [.str s, .str p] := by
 unfold XA at h
 split at h
 ·rename_i s p
  have h := Bool.and_eq_true_iff.1 h
  exact ⟨s, p, of_decide_eq_true h.1, of_decide_eq_true h.2, rfl⟩
 ·cases h
theorem dL {S : Nat → Prop} {w : World} {T : TypeId} (ss : List (List UInt8)) : Ft S (w.alloc (.cells (ss.map fun l => Value.string ⟨l.toArray⟩).toArray T)) w.heap.size ss.length 1 (List.map AV.str ss) := by
 have hget : ∀ i (hi : i < ss.length), (List.map AV.str ss).getD i .any = .str ss[i] := fun i hi => by
  rw [List.getD_eq_getElem?_getD, List.getElem?_map, List.getElem?_eq_getElem hi]; rfl
 refine ⟨Nat.le_refl _, by simp, fun i hi => ?_, fun hp => ⟨(ss.map fun l => Value.string ⟨l.toArray⟩).toArray, T, (0, 0), by show (w.heap.push _)[w.heap.size]? = _; simp, .inl rfl, by simp, fun i j hi hj => ?_⟩⟩
 ·rw [hget i (by simpa using hi)]; exact ⟨rfl, rfl⟩
 ·obtain rfl : j = 0 := by omega
  have hi' : i < ss.length := by simpa using hi
  rw [hget i hi', Nat.mul_one, Nat.add_zero, Array.getD_eq_getD_getElem?]
  rw [List.getElem?_toArray, List.getElem?_map, List.getElem?_eq_getElem hi']
  exact .str
theorem nQ {P : Program} {f : FuncId} {T : TypeId} (hc : ∀ (s p : List UInt8) (w : World), s.length < 4294967281 → 1 ≤ p.length → GT (fun _ => False) w →
  DM P f #[.string ⟨s.toArray⟩, .string ⟨p.toArray⟩] w fun e w' => e = .returned (.slice (some ⟨w.heap.size, 0, none⟩) (Lib.split s p).length (Lib.split s p).length) ∧ w' = w.alloc (.cells ((Lib.split s p).map fun l => Value.string ⟨l.toArray⟩).toArray T)) : Ad P f OW := by
 refine ⟨fun _ => rfl, fun F g0 w args vargs hsh hsz hfr hok => ⟨fun _ => ?_, ?_⟩⟩
 ·obtain ⟨s, p, _, _, rfl⟩ := Px hok
  show EA (.fresh 1 (List.map AV.str (Lib.split s p))) = true
  simp only [EA, ES, Bo (f := AV.str) (fun _ => rfl)]
 ·obtain ⟨s, p, hl, hp, rfl⟩ := Px hok
  have h0 := HE hfr (i := 0) (by simp)
  have h1 := HE hfr (i := 1) (by simp)
  rw [IA hsz]
  generalize vargs.getD 0 undef = x at h0
  generalize vargs.getD 1 undef = y at h1
  cases h0; cases h1
  refine (hc s p w hl hp (hfr.tab.mono (Aj.refl _ _) fun _ _ c => c.elim)).mono fun e' w' ⟨he, hs⟩ => ?_
  subst hs
  have only : ∀ k h, AL k [(0, (⟨1, List.map AV.str (Lib.split s p)⟩ : Hm))] = some h → k = 0 ∧ h = ⟨1, List.map AV.str (Lib.split s p)⟩ := by
   intro k h hg
   simp only [AL, AM, beq_iff_eq] at hg
   split at hg
   ·rename_i e; cases hg; exact ⟨e.symm, rfl⟩
   ·cases hg
  refine ⟨_, ⟨fun _ => w.heap.size, fun _ => (Lib.split s p).length⟩, [(0, ⟨1, List.map AV.str (Lib.split s p)⟩)], fun _ => 0, he, ⟨(Aj.alloc (fun _ => False) w _).mono fun _ _ c => c.elim, fun k h hg => ?_, fun k k' a b _ => ?_, fun k a hF => ?_, fun k a => .inl (Nat.le_refl _), ⟨rfl, ?_⟩, fun i j hi hj _ => ?_, fun i j _ hj => absurd hj (ni rfl j), fun j hj => absurd hj (ni rfl j)⟩⟩
  ·obtain ⟨rfl, rfl⟩ := only k h hg
   exact dL _
  ·obtain ⟨⟨h, hg⟩, _⟩ := a; obtain ⟨⟨h', hg'⟩, _⟩ := b
   rw [(only k h hg).1, (only k' h' hg').1]
  ·exact absurd (hfr.fb _ hF) (Nat.lt_irrefl _)
  ·left; simp
  ·rw [hi.1, hj.1]
def Zy (l : List (List UInt8)) (p : List UInt8) : Bool := decide (l.length ≤ 1048576) && decide ((Lib.join l p).length ≤ 140737488355328)
def ba (l : List (List UInt8)) (p : List UInt8) : Option (List UInt8) := if Zy l p = true then some (Lib.join l p) else none
def Kz : List AV → Rs
 | [.sl sz els, .str p] => match HK els with
  | some l => ⟨Zy l p, .str (Lib.join l p), [.any, .any]⟩
  | none => Rs.bad
 | _ => Rs.bad
def HD : Bf := ⟨[.bor, .bor], true, Kz⟩
theorem lQ {a : List (List UInt8)} {b : List UInt8} {y_ : List UInt8} (h : ba a b = some y_) : HD.F [.sl 1 (List.map AV.str a), .str b] = ⟨true, .str y_, [.any, .any]⟩ := by
 unfold ba at h
 split at h
 ·rename_i hc; cases h
  show Kz [AV.sl 1 (List.map AV.str a), AV.str b] = _
  unfold Kz
  simp only [Jo, hc]
 ·cases h
theorem nn : HD.modes = [.bor, .bor] := rfl
theorem lU : HD.flat = true := rfl
attribute [go_sem] nn lU
def Cm (s : List UInt8) : Int × Bool :=
 if (Lib.trimPrefix s [45]).length < 1 ∨ 18 < (Lib.trimPrefix s [45]).length then (0, false) else
 match Lib.parseIntB 64 s with
 | .ok v => if Lib.itoa v = s then (v, true) else (0, false)
 | _ => (0, false)
def Pd (s : List UInt8) : Option (Int × Bool) := if s.length ≤ 281474976710656 then some (Cm s) else none
def XD : List AV → Rs
 | [.str s] => ⟨decide (s.length ≤ 281474976710656), .tup [.int .i64 (Cm s).1, .bool (Cm s).2], [.any]⟩
 | _ => Rs.bad
def Hi : Bf := ⟨[.bor], true, XD⟩
theorem WB {a : List UInt8} {y_ : Int × Bool} (h : Pd a = some y_) : Hi.F [.str a] = ⟨true, .tup [.int .i64 y_.1, .bool y_.2], [.any]⟩ := by
 unfold Pd at h
 split at h
 ·rename_i hc; cases h
  show (⟨_, _, _⟩ : Rs) = _
  rw [decide_eq_true hc]
 ·cases h
theorem lP : Hi.modes = [.bor] := rfl
theorem fF : Hi.flat = true := rfl
attribute [go_sem] lP fF
theorem Py {args : List AV} (h : (XD args).ok = true) : ∃ s : List UInt8, s.length ≤ 281474976710656 ∧ args = [.str s] := by
 unfold XD at h
 split at h
 ·rename_i s
  exact ⟨s, of_decide_eq_true h, rfl⟩
 ·cases h
theorem cA {vargs : Array Value} (h : vargs.size = 1) : vargs = #[vargs.getD 0 undef] := by
 obtain ⟨l⟩ := vargs
 match l, h with
 | [a], _ => rfl
theorem XC {P : Program} {f : FuncId} (hc : ∀ (s : List UInt8) (w : World), s.length ≤ 281474976710656 → GT (fun _ => False) w →
  DM P f #[.string ⟨s.toArray⟩] w fun e w' => e = .returned (.tuple #[.int .i64 (Cm s).1, .bool (Cm s).2]) ∧ Aj (fun _ => False) w w') : Ad P f Hi := by
 refine ⟨fun _ => rfl, fun F g0 w args vargs hsh hsz hfr hok => ⟨fun _ => ?_, ?_⟩⟩
 ·obtain ⟨s, _, rfl⟩ := Py hok; rfl
 ·obtain ⟨s, hl, rfl⟩ := Py hok
  have h0 := HE hfr (i := 0) (by simp)
  rw [cA hsz]
  generalize vargs.getD 0 undef = x at h0
  cases h0
  refine (hc s w hl (hfr.tab.mono (Aj.refl _ _) fun _ _ c => c.elim)).mono fun e' w' ⟨he, hs⟩ => ?_
  refine ⟨_, g0, [], id, he, Jk hs ⟨_, rfl, rfl, fun j hj => ?_⟩ (fun i hi => ?_) (bor1 rfl)⟩
  ·match j, hj with
   | 0, _ => exact .int
   | 1, _ => exact .bool
  ·obtain ⟨j, _, hj, hf⟩ := hi
   match j, hj with
   | 0, _ => exact absurd hf Bool.false_ne_true
   | 1, _ => exact absurd hf Bool.false_ne_true
end Go.Proofs.YthdmeanbdohehaaGreatDoor
