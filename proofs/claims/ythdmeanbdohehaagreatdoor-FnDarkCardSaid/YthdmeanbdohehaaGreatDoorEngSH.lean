/- Contracts of functions of Go's library. No condition. -/
import Derived.Test.YthdmeanbdohehaaGreatDoorEngTA
import Derived.Lib.Bytealg
import Derived.Lib.ItoaNum
import Derived.Lib.SlicesCompact
import Derived.Laws.Externs
namespace Go.Proofs.YthdmeanbdohehaaGreatDoor
open Go Go.RowKit
set_option linter.unusedVariables false
set_option linter.unusedSimpArgs false
theorem Jk {F : Nat → Prop} {g0 : Gh} {args : List AV} {modes : List Md} {w w' : World} {v : Value} {r : AV} {outs : List AV} (hs : Aj (fun _ => False) w w')
  (hr : RV (AW F g0 []) w' g0 [] id v r) (hf : ∀ i, ¬ GE r i) (hio : ∀ j : Nat, modes[j]? ≠ some Md.io) : ZW F g0 args modes w v w' r outs g0 [] id where
 same := hs.mono fun _ _ c => c.elim
 home := fun k h hg => by simp [AL] at hg
 inj := fun k k' hk => by obtain ⟨⟨h, hg⟩, _⟩ := hk; simp [AL] at hg
 nF := fun k hk => by obtain ⟨⟨h, hg⟩, _⟩ := hk; simp [AL] at hg
 hio := fun k hk => by obtain ⟨⟨h, hg⟩, _⟩ := hk; simp [AL] at hg
 val := hr
 κinj := fun i j hi => (hf i hi).elim
 κio := fun i j hi => (hf i hi).elim
 out := fun j hj => (hio j hj).elim
theorem HE {F : Nat → Prop} {g : Gh} {w : World} {args : List AV} {vargs : Array Value} (h : FR F g w vargs (List.range args.length) [] (OZ args)) {i : Nat} (hi : i < args.length) :
  SR (AW F g (CV 0 args)) w g (CV 0 args) (vargs.getD i undef) (Yh i (args.getD i .any)) := by
 have := h.vs i (by simpa using hi)
 have e1 : (List.range args.length).getD i 0 = i := by rw [List.getD_eq_getElem?_getD, List.getElem?_range hi]; rfl
 rw [e1] at this
 have e2 : (OZ args).vs.getD i .any = Yh (0 + i) (args.getD i .any) := KD args 0 i hi
 rw [e2, Nat.zero_add] at this
 exact this
theorem IA {vargs : Array Value} (h : vargs.size = 2) : vargs = #[vargs.getD 0 undef, vargs.getD 1 undef] := by
 obtain ⟨l⟩ := vargs
 match l, h with
 | [a, b], _ => rfl
def hCmp (a b : List UInt8) : Option Int := some (Lib.compareBytes a b)
def kJ : List AV → Rs
 | [.str a, .str b] => ⟨true, .int .i64 (Lib.compareBytes a b), [.any, .any]⟩
 | _ => Rs.bad
def UW : Bf := ⟨[.bor, .bor], true, kJ⟩
theorem Fs_hCmp {a b : List UInt8} {y_ : Int} (h : hCmp a b = some y_) : UW.F [.str a, .str b] = ⟨true, .int .i64 y_, [.any, .any]⟩ := by
 cases h; rfl
theorem sX : UW.modes = [.bor, .bor] := rfl
theorem nx : UW.flat = true := rfl
attribute [go_sem] sX nx
theorem Vf {args : List AV} (h : (kJ args).ok = true) : ∃ a b, args = [.str a, .str b] := by
 unfold kJ at h
 split at h
 ·exact ⟨_, _, rfl⟩
 ·cases h
theorem ro {P : Program} {f : FuncId} {fn : Func} (hf : P.funcs[f]? = some fn) (hname : (fn.name == "runtime.NumGoroutine") = false) (hb : fn.body.isNone = true) (hn : Extern.findNext fn = none)
  (he : Extern.find fn = some Extern.BytealgCompare.compare) : Ad P f UW := by
 refine ⟨fun _ => rfl, fun F g0 w args vargs hsh hsz hfr hok => ⟨fun _ => ?_, ?_⟩⟩
 ·obtain ⟨a, b, rfl⟩ := Vf hok; rfl
 ·obtain ⟨a, b, rfl⟩ := Vf hok
  have h0 := HE hfr (i := 0) (by simp)
  have h1 := HE hfr (i := 1) (by simp)
  rw [IA hsz]
  generalize vargs.getD 0 undef = x at h0
  generalize vargs.getD 1 undef = y at h1
  cases h0; cases h1
  unfold DM
  rw [run_callFunc_extern hf hname hb hn he, Lib.run_compareString]
  simp only [Result.andThen]
  refine ⟨_, g0, [], id, rfl, Jk (Aj.refl _ _) ?_ (fun i hi => ?_) (fun j hj => ?_)⟩
  ·exact .int
  ·exact absurd hi.2 Bool.false_ne_true
  ·match j with
   | 0 => cases hj
   | 1 => cases hj
   | j + 2 => simp [UW] at hj
def hIdx (s : List UInt8) (c : UInt8) : Option Int := some (Lib.indexByte s c)
def bb : List AV → Rs
 | [.str a, .int .u8 c] => ⟨true, .int .i64 (Lib.indexByte a c.toNat.toUInt8), [.any, .any]⟩
 | _ => Rs.bad
def Pj : Bf := ⟨[.bor, .bor], true, bb⟩
theorem Fs_hIdx {a : List UInt8} {c : UInt8} {y_ : Int} (h : hIdx a c = some y_) : Pj.F [.str a, .int .u8 (c.toNat : Int)] = ⟨true, .int .i64 y_, [.any, .any]⟩ := by
 cases h
 have e : ((c.toNat : Int).toNat.toUInt8) = c := by rw [Int.toNat_natCast]; exact UInt8.ofNat_toNat
 simp only [Pj, bb, e]
theorem sU : Pj.modes = [.bor, .bor] := rfl
theorem nt : Pj.flat = true := rfl
attribute [go_sem] sU nt
theorem Va {args : List AV} (h : (bb args).ok = true) : ∃ a b, args = [.str a, .int .u8 b] := by
 unfold bb at h
 split at h
 ·exact ⟨_, _, rfl⟩
 ·cases h
theorem rn {P : Program} {f : FuncId} {fn : Func} (hf : P.funcs[f]? = some fn) (hname : (fn.name == "runtime.NumGoroutine") = false) (hb : fn.body.isNone = true) (hn : Extern.findNext fn = none)
  (he : Extern.find fn = some Extern.BytealgIndexByte.indexByte) : Ad P f Pj := by
 refine ⟨fun _ => rfl, fun F g0 w args vargs hsh hsz hfr hok => ⟨fun _ => ?_, ?_⟩⟩
 ·obtain ⟨a, b, rfl⟩ := Va hok; rfl
 ·obtain ⟨a, b, rfl⟩ := Va hok
  have h0 := HE hfr (i := 0) (by simp)
  have h1 := HE hfr (i := 1) (by simp)
  rw [IA hsz]
  generalize vargs.getD 0 undef = x at h0
  generalize vargs.getD 1 undef = y at h1
  cases h0; cases h1
  unfold DM
  rw [run_callFunc_extern hf hname hb hn he, run_indexByte_string, Lib.firstIdx_eq]
  simp only [Result.andThen]
  refine ⟨_, g0, [], id, rfl, Jk (Aj.refl _ _) ?_ (fun i hi => ?_) (fun j hj => ?_)⟩
  ·exact .int
  ·exact absurd hi.2 Bool.false_ne_true
  ·match j with
   | 0 => cases hj
   | 1 => cases hj
   | j + 2 => simp [Pj] at hj
def nS (n b : Int) : Option (List UInt8) := if (decide (-9223372036854775808 ≤ n) && decide (n ≤ 9223372036854775807) && decide (b = 10)) = true then some (Lib.itoa n) else none
def UB : List AV → Rs
 | [.int .i64 n, .int .i64 b] => ⟨decide (-9223372036854775808 ≤ n) && decide (n ≤ 9223372036854775807) && decide (b = 10), .str (Lib.itoa n), [.any, .any]⟩
 | _ => Rs.bad
def KP : Bf := ⟨[.bor, .bor], true, UB⟩
theorem nq {n b : Int} {y_ : List UInt8} (h : nS n b = some y_) : KP.F [.int .i64 n, .int .i64 b] = ⟨true, .str y_, [.any, .any]⟩ := by
 unfold nS at h
 split at h
 ·rename_i hc; cases h
  show (⟨_, _, _⟩ : Rs) = _
  rw [hc]
 ·cases h
theorem sV : KP.modes = [.bor, .bor] := rfl
theorem nu : KP.flat = true := rfl
attribute [go_sem] sV nu
theorem Vb {args : List AV} (h : (UB args).ok = true) : ∃ n, -9223372036854775808 ≤ n ∧ n ≤ 9223372036854775807 ∧ args = [.int .i64 n, .int .i64 10] ∧ UB args = ⟨true, .str (Lib.itoa n), [.any, .any]⟩ := by
 unfold UB at h ⊢
 split at h
 ·rename_i n b
  simp only [Bool.and_eq_true, decide_eq_true_eq] at h
  obtain ⟨⟨h1, h2⟩, rfl⟩ := h
  exact ⟨n, h1, h2, rfl, by simp [h1, h2]⟩
 ·cases h
theorem aF {P : Program} {f : FuncId} (hc : ∀ (n : Int) (w : World), -9223372036854775808 ≤ n → n ≤ 9223372036854775807 → GT (fun _ => False) w →
  DM P f #[.int .i64 n, .int .i64 10] w fun e w' => e = .returned (.string ⟨(Lib.itoa n).toArray⟩) ∧ Aj (fun _ => False) w w') : Ad P f KP := by
 refine ⟨fun _ => rfl, fun F g0 w args vargs hsh hsz hfr hok => ⟨fun _ => ?_, ?_⟩⟩
 ·obtain ⟨n, _, _, rfl, e⟩ := Vb hok
  show EA (UB _).r = true
  rw [e]; rfl
 ·obtain ⟨n, hn1, hn2, rfl, e⟩ := Vb hok
  have h0 := HE hfr (i := 0) (by simp)
  have h1 := HE hfr (i := 1) (by simp)
  rw [IA hsz]
  generalize vargs.getD 0 undef = x at h0
  generalize vargs.getD 1 undef = y at h1
  cases h0; cases h1
  refine (hc n w hn1 hn2 (hfr.tab.mono (Aj.refl _ _) fun _ _ c => c.elim)).mono fun e' w' ⟨he, hs⟩ => ?_
  refine ⟨_, g0, [], id, he, Jk hs ?_ (fun i hi => ?_) (fun j hj => ?_)⟩
  ·show RV _ _ _ _ _ _ (UB _).r
   rw [e]; exact .str
  ·have hi' : GE (UB _).r i := hi
   rw [e] at hi'
   exact absurd hi'.2 Bool.false_ne_true
  ·match j with
   | 0 => cases hj
   | 1 => cases hj
   | j + 2 => simp [KP] at hj
def gS (g : Nat) (x y : Rs) : AV → Rs
 | .fn (.func h) _ _ => bif h == g then x else y
 | _ => Rs.bad
def bI (j g : Nat) (c1 c2 : Bf) : Bf := ⟨c1.modes, c1.flat, fun args => gS g (c1.F args) (c2.F args) (args.getD j .any)⟩
theorem oF {P : Program} {f : FuncId} {j g : Nat} {c1 c2 : Bf} (h1 : Ad P f c1) (h2 : Ad P f c2) (hm : c2.modes = c1.modes) (hf : c2.flat = c1.flat) : Ad P f (bI j g c1 c2) := by
 refine ⟨h1.1, fun F g0 w args vargs hsh hsz hfr hok => ?_⟩
 have hR : (bI j g c1 c2).F args = gS g (c1.F args) (c2.F args) (args.getD j .any) := rfl
 have hcase : ((bI j g c1 c2).F args = c1.F args) ∨ ((bI j g c1 c2).F args = c2.F args) := by
  rw [hR] at hok ⊢
  generalize args.getD j .any = a at hok ⊢
  unfold gS at hok ⊢
  split at hok
  ·rename_i h _ _
   cases hb : (h == g)
   ·right; rfl
   ·left; rfl
  ·cases hok
 rcases hcase with e | e
 ·rw [e] at hok ⊢
  exact h1.2 F g0 w args vargs hsh hsz hfr hok
 ·rw [e] at hok ⊢
  have hsh' : EC c2.modes args = true := by rw [hm]; exact hsh
  have := h2.2 F g0 w args vargs hsh' hsz hfr hok
  rw [hf] at this
  refine ⟨this.1, this.2.mono fun e' w' he => ?_⟩
  obtain ⟨v, g', ob, κ, q1, q2⟩ := he
  exact ⟨v, g', ob, κ, q1, by rw [hm] at q2; exact q2⟩
def HK : List AV → Option (List (List UInt8))
 | [] => some []
 | .str l :: r => (HK r).map (l :: ·)
 | _ :: _ => none
theorem Jo : ∀ ss : List (List UInt8), HK (List.map AV.str ss) = some ss
 | [] => rfl
 | s :: r => by simp [HK, Jo r]
theorem LP : ∀ {els : List AV} {ss : List (List UInt8)}, HK els = some ss → els = List.map AV.str ss
 | [], ss, h => by simp [HK] at h; subst h; rfl
 | a :: r, ss, h => by
  cases a <;> simp [HK] at h
  obtain ⟨ss', h1, rfl⟩ := h
  rw [LP h1]; rfl
def fh (l : List (List UInt8)) : List (List UInt8) := l.mergeSort fun x y => decide (x ≤ y)
def kd (l : List (List UInt8)) : List (List UInt8) := Lib.compact l
def OP {α : Type} (l : List α) : Option (List α) := if l.length ≤ 1099511627776 then some l else none
def oK (l : List (List UInt8)) : Option (List (List UInt8)) := if l.length < 4611686018427387904 then some (fh l) else none
def Yk (l : List (List UInt8)) : Option (List (List UInt8)) := if l.length < 4611686018427387904 then some (kd l) else none
def bA : Option (List (List UInt8)) → Rs
 | some ss => ⟨decide (ss.length < 4611686018427387904), .cv undef, [.fresh 1 (List.map AV.str (fh ss))]⟩
 | none => Rs.bad
def bC : List AV → Rs
 | [.fresh sz els] => bif sz == 1 then bA (HK els) else Rs.bad
 | _ => Rs.bad
def bn : Option (List (List UInt8)) → Rs
 | some ss => ⟨decide (ss.length < 4611686018427387904), .fresh 1 (List.map AV.str (kd ss)), [.any]⟩
 | none => Rs.bad
def bo : List AV → Rs
 | [.fresh sz els] => bif sz == 1 then bn (HK els) else Rs.bad
 | _ => Rs.bad
def XW : Bf := ⟨[.io], false, bC⟩
def Mh : Bf := ⟨[.mov], false, bo⟩
theorem ub {l y_ : List (List UInt8)} (h : oK l = some y_) : XW.F [.fresh 1 (List.map AV.str l)] = ⟨true, .cv undef, [.fresh 1 (List.map AV.str y_)]⟩ := by
 unfold oK at h
 split at h
 ·rename_i hc; cases h
  show bA (HK (List.map AV.str l)) = _
  rw [Jo]
  simp only [bA, hc, decide_true]
 ·cases h
theorem oR {l y_ : List (List UInt8)} (h : Yk l = some y_) : Mh.F [.fresh 1 (List.map AV.str l)] = ⟨true, .fresh 1 (List.map AV.str y_), [.any]⟩ := by
 unfold Yk at h
 split at h
 ·rename_i hc; cases h
  show bn (HK (List.map AV.str l)) = _
  rw [Jo]
  simp only [bn, hc, decide_true]
 ·cases h
theorem nl : XW.modes = [.io] := rfl
theorem lT : XW.flat = false := rfl
theorem an : Mh.modes = [.mov] := rfl
theorem ZS : Mh.flat = false := rfl
attribute [go_sem] nl lT an ZS
theorem sg {args : List AV} (h : (bC args).ok = true) : ∃ ss : List (List UInt8), args = [.fresh 1 (List.map AV.str ss)] ∧ ss.length < 4611686018427387904 ∧ bC args = ⟨true, .cv undef, [.fresh 1 (List.map AV.str (fh ss))]⟩ := by
 unfold bC at h ⊢
 split at h
 ·rename_i sz els
  by_cases c : sz = 1
  ·subst c
   simp only [beq_self_eq_true, cond_true] at h ⊢
   cases hs : HK els with
   | none => rw [hs] at h; cases h
   | some ss =>
    rw [hs] at h
    have hl : ss.length < 4611686018427387904 := of_decide_eq_true h
    exact ⟨ss, by rw [LP hs], hl, by simp only [bA, hl, decide_true]⟩
  ·have : (sz == 1) = false := by simpa using c
   rw [this] at h; cases h
 ·cases h
theorem sy {args : List AV} (h : (bo args).ok = true) : ∃ ss : List (List UInt8), args = [.fresh 1 (List.map AV.str ss)] ∧ ss.length < 4611686018427387904 ∧ bo args = ⟨true, .fresh 1 (List.map AV.str (kd ss)), [.any]⟩ := by
 unfold bo at h ⊢
 split at h
 ·rename_i sz els
  by_cases c : sz = 1
  ·subst c
   simp only [beq_self_eq_true, cond_true] at h ⊢
   cases hs : HK els with
   | none => rw [hs] at h; cases h
   | some ss =>
    rw [hs] at h
    have hl : ss.length < 4611686018427387904 := of_decide_eq_true h
    exact ⟨ss, by rw [LP hs], hl, by simp only [bn, hl, decide_true]⟩
  ·have : (sz == 1) = false := by simpa using c
   rw [this] at h; cases h
 ·cases h
def HN : List AV → Option (List Int)
 | [] => some []
 | .int .i64 l :: r => (HN r).map (l :: ·)
 | _ :: _ => none
theorem MX : ∀ ss : List Int, HN (List.map (AV.int .i64) ss) = some ss
 | [] => rfl
 | s :: r => by simp [HN, MX r]
theorem PZ : ∀ {els : List AV} {ss : List Int}, HN els = some ss → els = List.map (AV.int .i64) ss
 | [], ss, h => by simp [HN] at h; subst h; rfl
 | a :: r, ss, h => by
  cases a with
  | int k n =>
   cases k <;> simp [HN] at h
   obtain ⟨ss', h1, rfl⟩ := h
   rw [PZ h1]; rfl
  | _ => simp [HN] at h
def fj (l : List Int) : List Int := l.mergeSort fun x y => decide (x ≤ y)
def ke (l : List Int) : List Int := Lib.compact l
def kG (l : List Int) : Option (List Int) := if l.length < 4611686018427387904 then some (fj l) else none
def Ve (l : List Int) : Option (List Int) := if l.length < 4611686018427387904 then some (ke l) else none
def WH : Option (List Int) → Rs
 | some ss => ⟨decide (ss.length < 4611686018427387904), .cv undef, [.fresh 1 (List.map (AV.int .i64) (fj ss))]⟩
 | none => Rs.bad
def WI : List AV → Rs
 | [.fresh sz els] => bif sz == 1 then WH (HN els) else Rs.bad
 | _ => Rs.bad
def XP : Option (List Int) → Rs
 | some ss => ⟨decide (ss.length < 4611686018427387904), .fresh 1 (List.map (AV.int .i64) (ke ss)), [.any]⟩
 | none => Rs.bad
def XQ : List AV → Rs
 | [.fresh sz els] => bif sz == 1 then XP (HN els) else Rs.bad
 | _ => Rs.bad
def UV : Bf := ⟨[.io], false, WI⟩
def LJ : Bf := ⟨[.mov], false, XQ⟩
theorem tI {l y_ : List Int} (h : kG l = some y_) : UV.F [.fresh 1 (List.map (AV.int .i64) l)] = ⟨true, .cv undef, [.fresh 1 (List.map (AV.int .i64) y_)]⟩ := by
 unfold kG at h
 split at h
 ·rename_i hc; cases h
  show WH (HN (List.map (AV.int .i64) l)) = _
  rw [MX]
  simp only [WH, hc, decide_true]
 ·cases h
theorem nr {l y_ : List Int} (h : Ve l = some y_) : LJ.F [.fresh 1 (List.map (AV.int .i64) l)] = ⟨true, .fresh 1 (List.map (AV.int .i64) y_), [.any]⟩ := by
 unfold Ve at h
 split at h
 ·rename_i hc; cases h
  show XP (HN (List.map (AV.int .i64) l)) = _
  rw [MX]
  simp only [XP, hc, decide_true]
 ·cases h
theorem lO : UV.modes = [.io] := rfl
theorem fE : UV.flat = false := rfl
theorem ZQ : LJ.modes = [.mov] := rfl
theorem Xg : LJ.flat = false := rfl
attribute [go_sem] lO fE ZQ Xg
theorem pS {args : List AV} (h : (WI args).ok = true) : ∃ ss : List Int, args = [.fresh 1 (List.map (AV.int .i64) ss)] ∧ ss.length < 4611686018427387904 ∧ WI args = ⟨true, .cv undef, [.fresh 1 (List.map (AV.int .i64) (fj ss))]⟩ := by
 unfold WI at h ⊢
 split at h
 ·rename_i sz els
  by_cases c : sz = 1
  ·subst c
   simp only [beq_self_eq_true, cond_true] at h ⊢
   cases hs : HN els with
   | none => rw [hs] at h; cases h
   | some ss =>
    rw [hs] at h
    have hl : ss.length < 4611686018427387904 := of_decide_eq_true h
    exact ⟨ss, by rw [PZ hs], hl, by simp only [WH, hl, decide_true]⟩
  ·have : (sz == 1) = false := by simpa using c
   rw [this] at h; cases h
 ·cases h
theorem rz {args : List AV} (h : (XQ args).ok = true) : ∃ ss : List Int, args = [.fresh 1 (List.map (AV.int .i64) ss)] ∧ ss.length < 4611686018427387904 ∧ XQ args = ⟨true, .fresh 1 (List.map (AV.int .i64) (ke ss)), [.any]⟩ := by
 unfold XQ at h ⊢
 split at h
 ·rename_i sz els
  by_cases c : sz = 1
  ·subst c
   simp only [beq_self_eq_true, cond_true] at h ⊢
   cases hs : HN els with
   | none => rw [hs] at h; cases h
   | some ss =>
    rw [hs] at h
    have hl : ss.length < 4611686018427387904 := of_decide_eq_true h
    exact ⟨ss, by rw [PZ hs], hl, by simp only [XP, hl, decide_true]⟩
  ·have : (sz == 1) = false := by simpa using c
   rw [this] at h; cases h
 ·cases h
def kA (BY n : Nat) (i : Int) (m : Nat) : Bool := (decide (0 ≤ i) && decide (i ≤ (n : Int))) && (decide (m = 1) && decide ((n + 1) * BY ≤ 140737488355328))
def uV (BY : Nat) {α : Type} (l : List α) (i : Int) (v : List α) : Option (List α) := if kA BY l.length i v.length = true then some (l.take i.toNat ++ (v ++ l.drop i.toNat)) else none
def VZ (K BY : Nat) : List AV → Rs
 | [.fresh sz els, .int .i64 i, .fresh sz2 xs] => ⟨(sz == K && sz2 == K) && kA BY els.length i xs.length, .fresh K (els.take i.toNat ++ (xs ++ els.drop i.toNat)), [.any, .any, .any]⟩
 | _ => Rs.bad
def sC (K BY : Nat) : Bf := ⟨[.mov, .bor, .mov], false, VZ K BY⟩
theorem uc (K : Nat) {BY : Nat} {α : Type} (f : α → AV) {l : List α} {i : Int} {v y_ : List α} (h : uV BY l i v = some y_) : (sC K BY).F [.fresh K (List.map f l), .int .i64 i, .fresh K (List.map f v)] = ⟨true, .fresh K (List.map f y_), [.any, .any, .any]⟩ := by
 unfold uV at h
 split at h
 ·rename_i hc; cases h
  show VZ K BY [.fresh K (List.map f l), .int .i64 i, .fresh K (List.map f v)] = _
  unfold VZ
  simp only [List.length_map, hc, beq_self_eq_true, Bool.and_self, List.map_append, List.map_take, List.map_drop]
 ·cases h
theorem sn {K BY : Nat} {args : List AV} (h : (VZ K BY args).ok = true) : ∃ els i x, (0 ≤ i ∧ i ≤ (els.length : Int)) ∧ (els.length + 1) * BY ≤ 140737488355328 ∧ args = [.fresh K els, .int .i64 i, .fresh K [x]] ∧
  VZ K BY args = ⟨true, .fresh K (els.take i.toNat ++ x :: els.drop i.toNat), [.any, .any, .any]⟩ := by
 unfold VZ at h ⊢
 split at h
 ·rename_i sz els i sz2 xs
  have h2 := h
  simp only [kA, Bool.and_eq_true, beq_iff_eq, decide_eq_true_eq] at h2
  obtain ⟨⟨rfl, rfl⟩, ⟨h3, h4⟩, h5, h6⟩ := h2
  match xs, h5 with
  | [x], _ => exact ⟨els, i, x, ⟨h3, h4⟩, h6, rfl, congrArg (fun b => (⟨b, .fresh sz2 (els.take i.toNat ++ x :: els.drop i.toNat), [.any, .any, .any]⟩ : Rs)) h⟩
 ·cases h
def kV (n : Nat) (i j : Int) : Bool := (decide (0 ≤ i) && decide (i < j)) && (decide (j ≤ (n : Int)) && decide (n ≤ 4611686018427387904))
def uW {α : Type} (l : List α) (i j : Int) : Option (List α) := if kV l.length i j = true then some (l.take i.toNat ++ l.drop j.toNat) else none
def Vc (K : Nat) : List AV → Rs
 | [.fresh sz els, .int .i64 i, .int .i64 j] => ⟨(sz == K) && kV els.length i j, .fresh K (els.take i.toNat ++ els.drop j.toNat), [.any, .any, .any]⟩
 | _ => Rs.bad
def sD (K : Nat) : Bf := ⟨[.mov, .bor, .bor], false, Vc K⟩
theorem ud (K : Nat) {α : Type} (f : α → AV) {l : List α} {i j : Int} {y_ : List α} (h : uW l i j = some y_) : (sD K).F [.fresh K (List.map f l), .int .i64 i, .int .i64 j] = ⟨true, .fresh K (List.map f y_), [.any, .any, .any]⟩ := by
 unfold uW at h
 split at h
 ·rename_i hc; cases h
  show Vc K [.fresh K (List.map f l), .int .i64 i, .int .i64 j] = _
  unfold Vc
  simp only [List.length_map, hc, beq_self_eq_true, Bool.and_self, List.map_append, List.map_take, List.map_drop]
 ·cases h
theorem so {K : Nat} {args : List AV} (h : (Vc K args).ok = true) : ∃ els i j, (0 ≤ i ∧ i < j ∧ j ≤ (els.length : Int)) ∧ els.length ≤ 4611686018427387904 ∧ args = [.fresh K els, .int .i64 i, .int .i64 j] ∧
  Vc K args = ⟨true, .fresh K (els.take i.toNat ++ els.drop j.toNat), [.any, .any, .any]⟩ := by
 unfold Vc at h ⊢
 split at h
 ·rename_i sz els i j
  have h2 := h
  simp only [kV, Bool.and_eq_true, beq_iff_eq, decide_eq_true_eq] at h2
  obtain ⟨rfl, ⟨h3, h4⟩, h5, h6⟩ := h2
  exact ⟨els, i, j, ⟨h3, h4, h5⟩, h6, rfl, congrArg (fun b => (⟨b, .fresh sz (els.take i.toNat ++ els.drop j.toNat), [.any, .any, .any]⟩ : Rs)) h⟩
 ·cases h
end Go.Proofs.YthdmeanbdohehaaGreatDoor
