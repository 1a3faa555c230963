/- Contracts of functions of Go's library. No condition. -/
import Derived.Test.YtbobhejdijcofaaGreatDoorEngTA
import Derived.Lib.Bytealg
import Derived.Lib.ItoaNum
import Derived.Lib.SlicesCompact
import Derived.Laws.Externs
namespace Go.Proofs.YtbobhejdijcofaaGreatDoor
open Go Go.RowKit
set_option linter.unusedVariables false
set_option linter.unusedSimpArgs false

theorem back_val {F : Nat → Prop} {g0 : Gh} {args : List AV} {modes : List Md} {w w' : World} {v : Value} {r : AV} {outs : List AV} (hs : Same (fun _ => False) w w')
    (hr : RV (SetOf F g0 []) w' g0 [] id v r) (hf : ∀ i, ¬ fpos r i) (hio : ∀ j : Nat, modes[j]? ≠ some Md.io) : Back F g0 args modes w v w' r outs g0 [] id where
  same := hs.mono fun _ _ c => c.elim
  home := fun k h hg => by simp [obGet] at hg
  inj := fun k k' hk => by obtain ⟨⟨h, hg⟩, _⟩ := hk; simp [obGet] at hg
  nF := fun k hk => by obtain ⟨⟨h, hg⟩, _⟩ := hk; simp [obGet] at hg
  hio := fun k hk => by obtain ⟨⟨h, hg⟩, _⟩ := hk; simp [obGet] at hg
  val := hr
  κinj := fun i j hi => (hf i hi).elim
  κio := fun i j hi => (hf i hi).elim
  out := fun j hj => (hio j hj).elim

/-- An argument that holds no block. -/
theorem arg_VR {F : Nat → Prop} {g : Gh} {w : World} {args : List AV} {vargs : Array Value} (h : FR F g w vargs (List.range args.length) [] (argSt args)) {i : Nat} (hi : i < args.length) :
    SR (SetOf F g (initOb 0 args)) w g (initOb 0 args) (vargs.getD i undef) (initA i (args.getD i .any)) := by
  have := h.vs i (by simpa using hi)
  have e1 : (List.range args.length).getD i 0 = i := by rw [List.getD_eq_getElem?_getD, List.getElem?_range hi]; rfl
  rw [e1] at this
  have e2 : (argSt args).vs.getD i .any = initA (0 + i) (args.getD i .any) := initTm_get args 0 i hi
  rw [e2, Nat.zero_add] at this
  exact this

theorem vargs_two {vargs : Array Value} (h : vargs.size = 2) : vargs = #[vargs.getD 0 undef, vargs.getD 1 undef] := by
  obtain ⟨l⟩ := vargs
  match l, h with
  | [a, b], _ => rfl

/-! ### Comparing strings -/

def hCmp (a b : List UInt8) : Option Int := some (Lib.compareBytes a b)

def hCmpF : List AV → Rs
  | [.str a, .str b] => ⟨true, .int .i64 (Lib.compareBytes a b), [.any, .any]⟩
  | _ => Rs.bad

def c_hCmp : Ctr := ⟨[.bor, .bor], true, hCmpF⟩

theorem Fs_hCmp {a b : List UInt8} {y_ : Int} (h : hCmp a b = some y_) : c_hCmp.F [.str a, .str b] = ⟨true, .int .i64 y_, [.any, .any]⟩ := by
  cases h; rfl
theorem M_hCmp : c_hCmp.modes = [.bor, .bor] := rfl
theorem Fl_hCmp : c_hCmp.flat = true := rfl
attribute [go_sem] M_hCmp Fl_hCmp

theorem hCmpF_inv {args : List AV} (h : (hCmpF args).ok = true) : ∃ a b, args = [.str a, .str b] := by
  unfold hCmpF at h
  split at h
  · exact ⟨_, _, rfl⟩
  · cases h

theorem hCmp_sound {P : Program} {f : FuncId} {fn : Func} (hf : P.funcs[f]? = some fn) (hname : (fn.name == "runtime.NumGoroutine") = false) (hb : fn.body.isNone = true) (hn : Extern.findNext fn = none)
    (he : Extern.find fn = some Extern.BytealgCompare.compare) : Sound P f c_hCmp := by
  refine ⟨fun _ => rfl, fun F g0 w args vargs hsh hsz hfr hok => ⟨fun _ => ?_, ?_⟩⟩
  · obtain ⟨a, b, rfl⟩ := hCmpF_inv hok; rfl
  · obtain ⟨a, b, rfl⟩ := hCmpF_inv hok
    have h0 := arg_VR hfr (i := 0) (by simp)
    have h1 := arg_VR hfr (i := 1) (by simp)
    rw [vargs_two hsz]
    generalize vargs.getD 0 undef = x at h0
    generalize vargs.getD 1 undef = y at h1
    cases h0; cases h1
    unfold Invokes
    rw [run_callFunc_extern hf hname hb hn he, Lib.run_compareString]
    simp only [Result.andThen]
    refine ⟨_, g0, [], id, rfl, back_val (Same.refl _ _) ?_ (fun i hi => ?_) (fun j hj => ?_)⟩
    · exact .int
    · exact absurd hi.2 Bool.false_ne_true
    · match j with
      | 0 => cases hj
      | 1 => cases hj
      | j + 2 => simp [c_hCmp] at hj

/-! ### The first place of a byte -/

def hIdx (s : List UInt8) (c : UInt8) : Option Int := some (Lib.indexByte s c)

def hIdxF : List AV → Rs
  | [.str a, .int .u8 c] => ⟨true, .int .i64 (Lib.indexByte a c.toNat.toUInt8), [.any, .any]⟩
  | _ => Rs.bad

def c_hIdx : Ctr := ⟨[.bor, .bor], true, hIdxF⟩

theorem Fs_hIdx {a : List UInt8} {c : UInt8} {y_ : Int} (h : hIdx a c = some y_) : c_hIdx.F [.str a, .int .u8 (c.toNat : Int)] = ⟨true, .int .i64 y_, [.any, .any]⟩ := by
  cases h
  have e : ((c.toNat : Int).toNat.toUInt8) = c := by rw [Int.toNat_natCast]; exact UInt8.ofNat_toNat
  simp only [c_hIdx, hIdxF, e]
theorem M_hIdx : c_hIdx.modes = [.bor, .bor] := rfl
theorem Fl_hIdx : c_hIdx.flat = true := rfl
attribute [go_sem] M_hIdx Fl_hIdx

theorem hIdxF_inv {args : List AV} (h : (hIdxF args).ok = true) : ∃ a b, args = [.str a, .int .u8 b] := by
  unfold hIdxF at h
  split at h
  · exact ⟨_, _, rfl⟩
  · cases h

theorem hIdx_sound {P : Program} {f : FuncId} {fn : Func} (hf : P.funcs[f]? = some fn) (hname : (fn.name == "runtime.NumGoroutine") = false) (hb : fn.body.isNone = true) (hn : Extern.findNext fn = none)
    (he : Extern.find fn = some Extern.BytealgIndexByte.indexByte) : Sound P f c_hIdx := by
  refine ⟨fun _ => rfl, fun F g0 w args vargs hsh hsz hfr hok => ⟨fun _ => ?_, ?_⟩⟩
  · obtain ⟨a, b, rfl⟩ := hIdxF_inv hok; rfl
  · obtain ⟨a, b, rfl⟩ := hIdxF_inv hok
    have h0 := arg_VR hfr (i := 0) (by simp)
    have h1 := arg_VR hfr (i := 1) (by simp)
    rw [vargs_two hsz]
    generalize vargs.getD 0 undef = x at h0
    generalize vargs.getD 1 undef = y at h1
    cases h0; cases h1
    unfold Invokes
    rw [run_callFunc_extern hf hname hb hn he, run_indexByte_string, Lib.firstIdx_eq]
    simp only [Result.andThen]
    refine ⟨_, g0, [], id, rfl, back_val (Same.refl _ _) ?_ (fun i hi => ?_) (fun j hj => ?_)⟩
    · exact .int
    · exact absurd hi.2 Bool.false_ne_true
    · match j with
      | 0 => cases hj
      | 1 => cases hj
      | j + 2 => simp [c_hIdx] at hj

/-! ### Decimal numerals -/

def hFmt (n b : Int) : Option (List UInt8) := if (decide (-9223372036854775808 ≤ n) && decide (n ≤ 9223372036854775807) && decide (b = 10)) = true then some (Lib.itoa n) else none

def hFmtF : List AV → Rs
  | [.int .i64 n, .int .i64 b] => ⟨decide (-9223372036854775808 ≤ n) && decide (n ≤ 9223372036854775807) && decide (b = 10), .str (Lib.itoa n), [.any, .any]⟩
  | _ => Rs.bad

def c_hFmt : Ctr := ⟨[.bor, .bor], true, hFmtF⟩

theorem Fs_hFmt {n b : Int} {y_ : List UInt8} (h : hFmt n b = some y_) : c_hFmt.F [.int .i64 n, .int .i64 b] = ⟨true, .str y_, [.any, .any]⟩ := by
  unfold hFmt at h
  split at h
  · rename_i hc; cases h
    show (⟨_, _, _⟩ : Rs) = _
    rw [hc]
  · cases h
theorem M_hFmt : c_hFmt.modes = [.bor, .bor] := rfl
theorem Fl_hFmt : c_hFmt.flat = true := rfl
attribute [go_sem] M_hFmt Fl_hFmt

theorem hFmtF_inv {args : List AV} (h : (hFmtF args).ok = true) : ∃ n, -9223372036854775808 ≤ n ∧ n ≤ 9223372036854775807 ∧ args = [.int .i64 n, .int .i64 10] ∧ hFmtF args = ⟨true, .str (Lib.itoa n), [.any, .any]⟩ := by
  unfold hFmtF at h ⊢
  split at h
  · rename_i n b
    simp only [Bool.and_eq_true, decide_eq_true_eq] at h
    obtain ⟨⟨h1, h2⟩, rfl⟩ := h
    exact ⟨n, h1, h2, rfl, by simp [h1, h2]⟩
  · cases h

theorem hFmt_sound {P : Program} {f : FuncId} (hc : ∀ (n : Int) (w : World), -9223372036854775808 ≤ n → n ≤ 9223372036854775807 → GT (fun _ => False) w →
    Invokes P f #[.int .i64 n, .int .i64 10] w fun e w' => e = .returned (.string ⟨(Lib.itoa n).toArray⟩) ∧ Same (fun _ => False) w w') : Sound P f c_hFmt := by
  refine ⟨fun _ => rfl, fun F g0 w args vargs hsh hsz hfr hok => ⟨fun _ => ?_, ?_⟩⟩
  · obtain ⟨n, _, _, rfl, e⟩ := hFmtF_inv hok
    show flatA (hFmtF _).r = true
    rw [e]; rfl
  · obtain ⟨n, hn1, hn2, rfl, e⟩ := hFmtF_inv hok
    have h0 := arg_VR hfr (i := 0) (by simp)
    have h1 := arg_VR hfr (i := 1) (by simp)
    rw [vargs_two hsz]
    generalize vargs.getD 0 undef = x at h0
    generalize vargs.getD 1 undef = y at h1
    cases h0; cases h1
    refine (hc n w hn1 hn2 (hfr.tab.mono (Same.refl _ _) fun _ _ c => c.elim)).mono fun e' w' ⟨he, hs⟩ => ?_
    refine ⟨_, g0, [], id, he, back_val hs ?_ (fun i hi => ?_) (fun j hj => ?_)⟩
    · show RV _ _ _ _ _ _ (hFmtF _).r
      rw [e]; exact .str
    · have hi' : fpos (hFmtF _).r i := hi
      rw [e] at hi'
      exact absurd hi'.2 Bool.false_ne_true
    · match j with
      | 0 => cases hj
      | 1 => cases hj
      | j + 2 => simp [c_hFmt] at hj

/-! ### One function at two closures -/

def pickR (g : Nat) (x y : Rs) : AV → Rs
  | .fn (.func h) _ _ => bif h == g then x else y
  | _ => Rs.bad

def pickC (j g : Nat) (c1 c2 : Ctr) : Ctr := ⟨c1.modes, c1.flat, fun args => pickR g (c1.F args) (c2.F args) (args.getD j .any)⟩

theorem pickC_sound {P : Program} {f : FuncId} {j g : Nat} {c1 c2 : Ctr} (h1 : Sound P f c1) (h2 : Sound P f c2) (hm : c2.modes = c1.modes) (hf : c2.flat = c1.flat) : Sound P f (pickC j g c1 c2) := by
  refine ⟨h1.1, fun F g0 w args vargs hsh hsz hfr hok => ?_⟩
  have hR : (pickC j g c1 c2).F args = pickR g (c1.F args) (c2.F args) (args.getD j .any) := rfl
  have hcase : ((pickC j g c1 c2).F args = c1.F args) ∨ ((pickC j g c1 c2).F args = c2.F args) := by
    rw [hR] at hok ⊢
    generalize args.getD j .any = a at hok ⊢
    unfold pickR at hok ⊢
    split at hok
    · rename_i h _ _
      cases hb : (h == g)
      · right; rfl
      · left; rfl
    · cases hok
  rcases hcase with e | e
  · rw [e] at hok ⊢
    exact h1.2 F g0 w args vargs hsh hsz hfr hok
  · rw [e] at hok ⊢
    have hsh' : shapes c2.modes args = true := by rw [hm]; exact hsh
    have := h2.2 F g0 w args vargs hsh' hsz hfr hok
    rw [hf] at this
    refine ⟨this.1, this.2.mono fun e' w' he => ?_⟩
    obtain ⟨v, g', ob, κ, q1, q2⟩ := he
    exact ⟨v, g', ob, κ, q1, by rw [hm] at q2; exact q2⟩

/-! ### Sorting strings; of equal neighbours one is left -/

def strsOf : List AV → Option (List (List UInt8))
  | [] => some []
  | .str l :: r => (strsOf r).map (l :: ·)
  | _ :: _ => none

theorem strsOf_map : ∀ ss : List (List UInt8), strsOf (List.map AV.str ss) = some ss
  | [] => rfl
  | s :: r => by simp [strsOf, strsOf_map r]

theorem strsOf_eq : ∀ {els : List AV} {ss : List (List UInt8)}, strsOf els = some ss → els = List.map AV.str ss
  | [], ss, h => by simp [strsOf] at h; subst h; rfl
  | a :: r, ss, h => by
    cases a <;> simp [strsOf] at h
    obtain ⟨ss', h1, rfl⟩ := h
    rw [strsOf_eq h1]; rfl

def sortS (l : List (List UInt8)) : List (List UInt8) := l.mergeSort fun x y => decide (x ≤ y)
def compS (l : List (List UInt8)) : List (List UInt8) := Lib.compact l

/-- slices.Collect of slices.Values: a copy. -/
def hCollect {α : Type} (l : List α) : Option (List α) := if l.length ≤ 1099511627776 then some l else none

def hSort (l : List (List UInt8)) : Option (List (List UInt8)) := if l.length < 4611686018427387904 then some (sortS l) else none
def hCompact (l : List (List UInt8)) : Option (List (List UInt8)) := if l.length < 4611686018427387904 then some (compS l) else none

def sortR : Option (List (List UInt8)) → Rs
  | some ss => ⟨decide (ss.length < 4611686018427387904), .cv undef, [.fresh 1 (List.map AV.str (sortS ss))]⟩
  | none => Rs.bad
def sortF : List AV → Rs
  | [.fresh sz els] => bif sz == 1 then sortR (strsOf els) else Rs.bad
  | _ => Rs.bad
def compR : Option (List (List UInt8)) → Rs
  | some ss => ⟨decide (ss.length < 4611686018427387904), .fresh 1 (List.map AV.str (compS ss)), [.any]⟩
  | none => Rs.bad
def compF : List AV → Rs
  | [.fresh sz els] => bif sz == 1 then compR (strsOf els) else Rs.bad
  | _ => Rs.bad

def c_hSort : Ctr := ⟨[.io], false, sortF⟩
def c_hCompact : Ctr := ⟨[.mov], false, compF⟩

theorem Fs_hSort {l y_ : List (List UInt8)} (h : hSort l = some y_) : c_hSort.F [.fresh 1 (List.map AV.str l)] = ⟨true, .cv undef, [.fresh 1 (List.map AV.str y_)]⟩ := by
  unfold hSort at h
  split at h
  · rename_i hc; cases h
    show sortR (strsOf (List.map AV.str l)) = _
    rw [strsOf_map]
    simp only [sortR, hc, decide_true]
  · cases h
theorem Fs_hCompact {l y_ : List (List UInt8)} (h : hCompact l = some y_) : c_hCompact.F [.fresh 1 (List.map AV.str l)] = ⟨true, .fresh 1 (List.map AV.str y_), [.any]⟩ := by
  unfold hCompact at h
  split at h
  · rename_i hc; cases h
    show compR (strsOf (List.map AV.str l)) = _
    rw [strsOf_map]
    simp only [compR, hc, decide_true]
  · cases h
theorem M_hSort : c_hSort.modes = [.io] := rfl
theorem Fl_hSort : c_hSort.flat = false := rfl
theorem M_hCompact : c_hCompact.modes = [.mov] := rfl
theorem Fl_hCompact : c_hCompact.flat = false := rfl
attribute [go_sem] M_hSort Fl_hSort M_hCompact Fl_hCompact

theorem sortF_inv {args : List AV} (h : (sortF args).ok = true) : ∃ ss : List (List UInt8), args = [.fresh 1 (List.map AV.str ss)] ∧ ss.length < 4611686018427387904 ∧ sortF args = ⟨true, .cv undef, [.fresh 1 (List.map AV.str (sortS ss))]⟩ := by
  unfold sortF at h ⊢
  split at h
  · rename_i sz els
    by_cases c : sz = 1
    · subst c
      simp only [beq_self_eq_true, cond_true] at h ⊢
      cases hs : strsOf els with
      | none => rw [hs] at h; cases h
      | some ss =>
        rw [hs] at h
        have hl : ss.length < 4611686018427387904 := of_decide_eq_true h
        exact ⟨ss, by rw [strsOf_eq hs], hl, by simp only [sortR, hl, decide_true]⟩
    · have : (sz == 1) = false := by simpa using c
      rw [this] at h; cases h
  · cases h

theorem compF_inv {args : List AV} (h : (compF args).ok = true) : ∃ ss : List (List UInt8), args = [.fresh 1 (List.map AV.str ss)] ∧ ss.length < 4611686018427387904 ∧ compF args = ⟨true, .fresh 1 (List.map AV.str (compS ss)), [.any]⟩ := by
  unfold compF at h ⊢
  split at h
  · rename_i sz els
    by_cases c : sz = 1
    · subst c
      simp only [beq_self_eq_true, cond_true] at h ⊢
      cases hs : strsOf els with
      | none => rw [hs] at h; cases h
      | some ss =>
        rw [hs] at h
        have hl : ss.length < 4611686018427387904 := of_decide_eq_true h
        exact ⟨ss, by rw [strsOf_eq hs], hl, by simp only [compR, hl, decide_true]⟩
    · have : (sz == 1) = false := by simpa using c
      rw [this] at h; cases h
  · cases h

/-! ### Sorting ints; of equal neighbours one is left -/

def intsOf : List AV → Option (List Int)
  | [] => some []
  | .int .i64 l :: r => (intsOf r).map (l :: ·)
  | _ :: _ => none

theorem intsOf_map : ∀ ss : List Int, intsOf (List.map (AV.int .i64) ss) = some ss
  | [] => rfl
  | s :: r => by simp [intsOf, intsOf_map r]

theorem intsOf_eq : ∀ {els : List AV} {ss : List Int}, intsOf els = some ss → els = List.map (AV.int .i64) ss
  | [], ss, h => by simp [intsOf] at h; subst h; rfl
  | a :: r, ss, h => by
    cases a with
    | int k n =>
      cases k <;> simp [intsOf] at h
      obtain ⟨ss', h1, rfl⟩ := h
      rw [intsOf_eq h1]; rfl
    | _ => simp [intsOf] at h

def sortI (l : List Int) : List Int := l.mergeSort fun x y => decide (x ≤ y)
def compI (l : List Int) : List Int := Lib.compact l

def hSortI (l : List Int) : Option (List Int) := if l.length < 4611686018427387904 then some (sortI l) else none
def hCompactI (l : List Int) : Option (List Int) := if l.length < 4611686018427387904 then some (compI l) else none

def sortIR : Option (List Int) → Rs
  | some ss => ⟨decide (ss.length < 4611686018427387904), .cv undef, [.fresh 1 (List.map (AV.int .i64) (sortI ss))]⟩
  | none => Rs.bad
def sortIF : List AV → Rs
  | [.fresh sz els] => bif sz == 1 then sortIR (intsOf els) else Rs.bad
  | _ => Rs.bad
def compIR : Option (List Int) → Rs
  | some ss => ⟨decide (ss.length < 4611686018427387904), .fresh 1 (List.map (AV.int .i64) (compI ss)), [.any]⟩
  | none => Rs.bad
def compIF : List AV → Rs
  | [.fresh sz els] => bif sz == 1 then compIR (intsOf els) else Rs.bad
  | _ => Rs.bad

def c_hSortI : Ctr := ⟨[.io], false, sortIF⟩
def c_hCompactI : Ctr := ⟨[.mov], false, compIF⟩

theorem Fs_hSortI {l y_ : List Int} (h : hSortI l = some y_) : c_hSortI.F [.fresh 1 (List.map (AV.int .i64) l)] = ⟨true, .cv undef, [.fresh 1 (List.map (AV.int .i64) y_)]⟩ := by
  unfold hSortI at h
  split at h
  · rename_i hc; cases h
    show sortIR (intsOf (List.map (AV.int .i64) l)) = _
    rw [intsOf_map]
    simp only [sortIR, hc, decide_true]
  · cases h
theorem Fs_hCompactI {l y_ : List Int} (h : hCompactI l = some y_) : c_hCompactI.F [.fresh 1 (List.map (AV.int .i64) l)] = ⟨true, .fresh 1 (List.map (AV.int .i64) y_), [.any]⟩ := by
  unfold hCompactI at h
  split at h
  · rename_i hc; cases h
    show compIR (intsOf (List.map (AV.int .i64) l)) = _
    rw [intsOf_map]
    simp only [compIR, hc, decide_true]
  · cases h
theorem M_hSortI : c_hSortI.modes = [.io] := rfl
theorem Fl_hSortI : c_hSortI.flat = false := rfl
theorem M_hCompactI : c_hCompactI.modes = [.mov] := rfl
theorem Fl_hCompactI : c_hCompactI.flat = false := rfl
attribute [go_sem] M_hSortI Fl_hSortI M_hCompactI Fl_hCompactI

theorem sortIF_inv {args : List AV} (h : (sortIF args).ok = true) : ∃ ss : List Int, args = [.fresh 1 (List.map (AV.int .i64) ss)] ∧ ss.length < 4611686018427387904 ∧ sortIF args = ⟨true, .cv undef, [.fresh 1 (List.map (AV.int .i64) (sortI ss))]⟩ := by
  unfold sortIF at h ⊢
  split at h
  · rename_i sz els
    by_cases c : sz = 1
    · subst c
      simp only [beq_self_eq_true, cond_true] at h ⊢
      cases hs : intsOf els with
      | none => rw [hs] at h; cases h
      | some ss =>
        rw [hs] at h
        have hl : ss.length < 4611686018427387904 := of_decide_eq_true h
        exact ⟨ss, by rw [intsOf_eq hs], hl, by simp only [sortIR, hl, decide_true]⟩
    · have : (sz == 1) = false := by simpa using c
      rw [this] at h; cases h
  · cases h

theorem compIF_inv {args : List AV} (h : (compIF args).ok = true) : ∃ ss : List Int, args = [.fresh 1 (List.map (AV.int .i64) ss)] ∧ ss.length < 4611686018427387904 ∧ compIF args = ⟨true, .fresh 1 (List.map (AV.int .i64) (compI ss)), [.any]⟩ := by
  unfold compIF at h ⊢
  split at h
  · rename_i sz els
    by_cases c : sz = 1
    · subst c
      simp only [beq_self_eq_true, cond_true] at h ⊢
      cases hs : intsOf els with
      | none => rw [hs] at h; cases h
      | some ss =>
        rw [hs] at h
        have hl : ss.length < 4611686018427387904 := of_decide_eq_true h
        exact ⟨ss, by rw [intsOf_eq hs], hl, by simp only [compIR, hl, decide_true]⟩
    · have : (sz == 1) = false := by simpa using c
      rw [this] at h; cases h
  · cases h

/-! ### A value is put into a list (slices.Insert, one value) -/

def insOk (BY n : Nat) (i : Int) (m : Nat) : Bool := (decide (0 ≤ i) && decide (i ≤ (n : Int))) && (decide (m = 1) && decide ((n + 1) * BY ≤ 140737488355328))

def hIns (BY : Nat) {α : Type} (l : List α) (i : Int) (v : List α) : Option (List α) := if insOk BY l.length i v.length = true then some (l.take i.toNat ++ (v ++ l.drop i.toNat)) else none

def hInsF (K BY : Nat) : List AV → Rs
  | [.fresh sz els, .int .i64 i, .fresh sz2 xs] => ⟨(sz == K && sz2 == K) && insOk BY els.length i xs.length, .fresh K (els.take i.toNat ++ (xs ++ els.drop i.toNat)), [.any, .any, .any]⟩
  | _ => Rs.bad

def c_hIns (K BY : Nat) : Ctr := ⟨[.mov, .bor, .mov], false, hInsF K BY⟩

theorem Fs_hInsA (K : Nat) {BY : Nat} {α : Type} (f : α → AV) {l : List α} {i : Int} {v y_ : List α} (h : hIns BY l i v = some y_) : (c_hIns K BY).F [.fresh K (List.map f l), .int .i64 i, .fresh K (List.map f v)] = ⟨true, .fresh K (List.map f y_), [.any, .any, .any]⟩ := by
  unfold hIns at h
  split at h
  · rename_i hc; cases h
    show hInsF K BY [.fresh K (List.map f l), .int .i64 i, .fresh K (List.map f v)] = _
    unfold hInsF
    simp only [List.length_map, hc, beq_self_eq_true, Bool.and_self, List.map_append, List.map_take, List.map_drop]
  · cases h

theorem hInsF_inv {K BY : Nat} {args : List AV} (h : (hInsF K BY args).ok = true) : ∃ els i x, (0 ≤ i ∧ i ≤ (els.length : Int)) ∧ (els.length + 1) * BY ≤ 140737488355328 ∧ args = [.fresh K els, .int .i64 i, .fresh K [x]] ∧
    hInsF K BY args = ⟨true, .fresh K (els.take i.toNat ++ x :: els.drop i.toNat), [.any, .any, .any]⟩ := by
  unfold hInsF at h ⊢
  split at h
  · rename_i sz els i sz2 xs
    have h2 := h
    simp only [insOk, Bool.and_eq_true, beq_iff_eq, decide_eq_true_eq] at h2
    obtain ⟨⟨rfl, rfl⟩, ⟨h3, h4⟩, h5, h6⟩ := h2
    match xs, h5 with
    | [x], _ => exact ⟨els, i, x, ⟨h3, h4⟩, h6, rfl, congrArg (fun b => (⟨b, .fresh sz2 (els.take i.toNat ++ x :: els.drop i.toNat), [.any, .any, .any]⟩ : Rs)) h⟩
  · cases h

/-! ### Values are taken out of a list (slices.Delete) -/

def delOk (n : Nat) (i j : Int) : Bool := (decide (0 ≤ i) && decide (i < j)) && (decide (j ≤ (n : Int)) && decide (n ≤ 4611686018427387904))

def hDel {α : Type} (l : List α) (i j : Int) : Option (List α) := if delOk l.length i j = true then some (l.take i.toNat ++ l.drop j.toNat) else none

def hDelF (K : Nat) : List AV → Rs
  | [.fresh sz els, .int .i64 i, .int .i64 j] => ⟨(sz == K) && delOk els.length i j, .fresh K (els.take i.toNat ++ els.drop j.toNat), [.any, .any, .any]⟩
  | _ => Rs.bad

def c_hDel (K : Nat) : Ctr := ⟨[.mov, .bor, .bor], false, hDelF K⟩

theorem Fs_hDelA (K : Nat) {α : Type} (f : α → AV) {l : List α} {i j : Int} {y_ : List α} (h : hDel l i j = some y_) : (c_hDel K).F [.fresh K (List.map f l), .int .i64 i, .int .i64 j] = ⟨true, .fresh K (List.map f y_), [.any, .any, .any]⟩ := by
  unfold hDel at h
  split at h
  · rename_i hc; cases h
    show hDelF K [.fresh K (List.map f l), .int .i64 i, .int .i64 j] = _
    unfold hDelF
    simp only [List.length_map, hc, beq_self_eq_true, Bool.and_self, List.map_append, List.map_take, List.map_drop]
  · cases h

theorem hDelF_inv {K : Nat} {args : List AV} (h : (hDelF K args).ok = true) : ∃ els i j, (0 ≤ i ∧ i < j ∧ j ≤ (els.length : Int)) ∧ els.length ≤ 4611686018427387904 ∧ args = [.fresh K els, .int .i64 i, .int .i64 j] ∧
    hDelF K args = ⟨true, .fresh K (els.take i.toNat ++ els.drop j.toNat), [.any, .any, .any]⟩ := by
  unfold hDelF at h ⊢
  split at h
  · rename_i sz els i j
    have h2 := h
    simp only [delOk, Bool.and_eq_true, beq_iff_eq, decide_eq_true_eq] at h2
    obtain ⟨rfl, ⟨h3, h4⟩, h5, h6⟩ := h2
    exact ⟨els, i, j, ⟨h3, h4, h5⟩, h6, rfl, congrArg (fun b => (⟨b, .fresh sz (els.take i.toNat ++ els.drop j.toNat), [.any, .any, .any]⟩ : Rs)) h⟩
  · cases h

end Go.Proofs.YtbobhejdijcofaaGreatDoor
