/- Contracts of functions of Go's library. No condition. -/
import Derived.Test.YtgbibhhblimfiabEngTA
import Derived.Lib.Bytealg
import Derived.Lib.ItoaNum
import Derived.Laws.Externs
namespace Go.Proofs.Ytgbibhhblimfiab
open Go Go.RowKit
set_option linter.unusedVariables false
set_option linter.unusedSimpArgs false

theorem back_val {F : Nat → Prop} {g0 : Gh} {args : List AV} {modes : List Md} {w w' : World} {v : Value} {r : AV} {outs : List AV} (hs : Same (fun _ => False) w w')
    (hr : RV (SetOf F g0 []) w' g0 [] id v r) (hf : ∀ i, ¬ fpos r i) (hio : ∀ j : Nat, modes[j]? ≠ some Md.io) : Back F g0 args modes w v w' r outs g0 [] id where
  same := hs.mono fun _ _ c => c.elim
  home := fun k h hg => by simp [obGet] at hg
  inj := fun k k' hk => by obtain ⟨⟨h, hg⟩, _⟩ := hk; simp [obGet] at hg
  nF := fun k hk => by obtain ⟨⟨h, hg⟩, _⟩ := hk; simp [obGet] at hg
  hio := fun k hk => by obtain ⟨⟨h, hg⟩, _⟩ := hk; simp [obGet] at hg
  val := hr
  κinj := fun i j hi => (hf i hi).elim
  κio := fun i j hi => (hf i hi).elim
  out := fun j hj => (hio j hj).elim

/-- An argument that holds no block. -/
theorem arg_VR {F : Nat → Prop} {g : Gh} {w : World} {args : List AV} {vargs : Array Value} (h : FR F g w vargs (List.range args.length) [] (argSt args)) {i : Nat} (hi : i < args.length) :
    SR (SetOf F g (initOb 0 args)) w g (initOb 0 args) (vargs.getD i undef) (initA i (args.getD i .any)) := by
  have := h.vs i (by simpa using hi)
  have e1 : (List.range args.length).getD i 0 = i := by rw [List.getD_eq_getElem?_getD, List.getElem?_range hi]; rfl
  rw [e1] at this
  have e2 : (argSt args).vs.getD i .any = initA (0 + i) (args.getD i .any) := initTm_get args 0 i hi
  rw [e2, Nat.zero_add] at this
  exact this

theorem vargs_two {vargs : Array Value} (h : vargs.size = 2) : vargs = #[vargs.getD 0 undef, vargs.getD 1 undef] := by
  obtain ⟨l⟩ := vargs
  match l, h with
  | [a, b], _ => rfl

/-! ### Comparing strings -/

def hCmp (a b : List UInt8) : Option Int := some (Lib.compareBytes a b)

def hCmpF : List AV → Rs
  | [.str a, .str b] => ⟨true, .int .i64 (Lib.compareBytes a b), [.any, .any]⟩
  | _ => Rs.bad

def c_hCmp : Ctr := ⟨[.bor, .bor], true, hCmpF⟩

theorem Fs_hCmp {a b : List UInt8} {y_ : Int} (h : hCmp a b = some y_) : c_hCmp.F [.str a, .str b] = ⟨true, .int .i64 y_, [.any, .any]⟩ := by
  cases h; rfl
theorem M_hCmp : c_hCmp.modes = [.bor, .bor] := rfl
theorem Fl_hCmp : c_hCmp.flat = true := rfl
attribute [go_sem] M_hCmp Fl_hCmp

theorem hCmpF_inv {args : List AV} (h : (hCmpF args).ok = true) : ∃ a b, args = [.str a, .str b] := by
  unfold hCmpF at h
  split at h
  · exact ⟨_, _, rfl⟩
  · cases h

theorem hCmp_sound {P : Program} {f : FuncId} {fn : Func} (hf : P.funcs[f]? = some fn) (hname : (fn.name == "runtime.NumGoroutine") = false) (hb : fn.body.isNone = true) (hn : Extern.findNext fn = none)
    (he : Extern.find fn = some Extern.BytealgCompare.compare) : Sound P f c_hCmp := by
  refine ⟨fun _ => rfl, fun F g0 w args vargs hsh hsz hfr hok => ⟨fun _ => ?_, ?_⟩⟩
  · obtain ⟨a, b, rfl⟩ := hCmpF_inv hok; rfl
  · obtain ⟨a, b, rfl⟩ := hCmpF_inv hok
    have h0 := arg_VR hfr (i := 0) (by simp)
    have h1 := arg_VR hfr (i := 1) (by simp)
    rw [vargs_two hsz]
    generalize vargs.getD 0 undef = x at h0
    generalize vargs.getD 1 undef = y at h1
    cases h0; cases h1
    unfold Invokes
    rw [run_callFunc_extern hf hname hb hn he, Lib.run_compareString]
    simp only [Result.andThen]
    refine ⟨_, g0, [], id, rfl, back_val (Same.refl _ _) ?_ (fun i hi => ?_) (fun j hj => ?_)⟩
    · exact .int
    · exact absurd hi.2 Bool.false_ne_true
    · match j with
      | 0 => cases hj
      | 1 => cases hj
      | j + 2 => simp [c_hCmp] at hj

/-! ### The first place of a byte -/

def hIdx (s : List UInt8) (c : UInt8) : Option Int := some (Lib.indexByte s c)

def hIdxF : List AV → Rs
  | [.str a, .int .u8 c] => ⟨true, .int .i64 (Lib.indexByte a c.toNat.toUInt8), [.any, .any]⟩
  | _ => Rs.bad

def c_hIdx : Ctr := ⟨[.bor, .bor], true, hIdxF⟩

theorem Fs_hIdx {a : List UInt8} {c : UInt8} {y_ : Int} (h : hIdx a c = some y_) : c_hIdx.F [.str a, .int .u8 (c.toNat : Int)] = ⟨true, .int .i64 y_, [.any, .any]⟩ := by
  cases h
  have e : ((c.toNat : Int).toNat.toUInt8) = c := by rw [Int.toNat_natCast]; exact UInt8.ofNat_toNat
  simp only [c_hIdx, hIdxF, e]
theorem M_hIdx : c_hIdx.modes = [.bor, .bor] := rfl
theorem Fl_hIdx : c_hIdx.flat = true := rfl
attribute [go_sem] M_hIdx Fl_hIdx

theorem hIdxF_inv {args : List AV} (h : (hIdxF args).ok = true) : ∃ a b, args = [.str a, .int .u8 b] := by
  unfold hIdxF at h
  split at h
  · exact ⟨_, _, rfl⟩
  · cases h

theorem hIdx_sound {P : Program} {f : FuncId} {fn : Func} (hf : P.funcs[f]? = some fn) (hname : (fn.name == "runtime.NumGoroutine") = false) (hb : fn.body.isNone = true) (hn : Extern.findNext fn = none)
    (he : Extern.find fn = some Extern.BytealgIndexByte.indexByte) : Sound P f c_hIdx := by
  refine ⟨fun _ => rfl, fun F g0 w args vargs hsh hsz hfr hok => ⟨fun _ => ?_, ?_⟩⟩
  · obtain ⟨a, b, rfl⟩ := hIdxF_inv hok; rfl
  · obtain ⟨a, b, rfl⟩ := hIdxF_inv hok
    have h0 := arg_VR hfr (i := 0) (by simp)
    have h1 := arg_VR hfr (i := 1) (by simp)
    rw [vargs_two hsz]
    generalize vargs.getD 0 undef = x at h0
    generalize vargs.getD 1 undef = y at h1
    cases h0; cases h1
    unfold Invokes
    rw [run_callFunc_extern hf hname hb hn he, run_indexByte_string, Lib.firstIdx_eq]
    simp only [Result.andThen]
    refine ⟨_, g0, [], id, rfl, back_val (Same.refl _ _) ?_ (fun i hi => ?_) (fun j hj => ?_)⟩
    · exact .int
    · exact absurd hi.2 Bool.false_ne_true
    · match j with
      | 0 => cases hj
      | 1 => cases hj
      | j + 2 => simp [c_hIdx] at hj

/-! ### Decimal numerals -/

def hFmt (n b : Int) : Option (List UInt8) := if (decide (-9223372036854775808 ≤ n) && decide (n ≤ 9223372036854775807) && decide (b = 10)) = true then some (Lib.itoa n) else none

def hFmtF : List AV → Rs
  | [.int .i64 n, .int .i64 b] => ⟨decide (-9223372036854775808 ≤ n) && decide (n ≤ 9223372036854775807) && decide (b = 10), .str (Lib.itoa n), [.any, .any]⟩
  | _ => Rs.bad

def c_hFmt : Ctr := ⟨[.bor, .bor], true, hFmtF⟩

theorem Fs_hFmt {n b : Int} {y_ : List UInt8} (h : hFmt n b = some y_) : c_hFmt.F [.int .i64 n, .int .i64 b] = ⟨true, .str y_, [.any, .any]⟩ := by
  unfold hFmt at h
  split at h
  · rename_i hc; cases h
    show (⟨_, _, _⟩ : Rs) = _
    rw [hc]
  · cases h
theorem M_hFmt : c_hFmt.modes = [.bor, .bor] := rfl
theorem Fl_hFmt : c_hFmt.flat = true := rfl
attribute [go_sem] M_hFmt Fl_hFmt

theorem hFmtF_inv {args : List AV} (h : (hFmtF args).ok = true) : ∃ n, -9223372036854775808 ≤ n ∧ n ≤ 9223372036854775807 ∧ args = [.int .i64 n, .int .i64 10] ∧ hFmtF args = ⟨true, .str (Lib.itoa n), [.any, .any]⟩ := by
  unfold hFmtF at h ⊢
  split at h
  · rename_i n b
    simp only [Bool.and_eq_true, decide_eq_true_eq] at h
    obtain ⟨⟨h1, h2⟩, rfl⟩ := h
    exact ⟨n, h1, h2, rfl, by simp [h1, h2]⟩
  · cases h

theorem hFmt_sound {P : Program} {f : FuncId} (hc : ∀ (n : Int) (w : World), -9223372036854775808 ≤ n → n ≤ 9223372036854775807 → GT (fun _ => False) w →
    Invokes P f #[.int .i64 n, .int .i64 10] w fun e w' => e = .returned (.string ⟨(Lib.itoa n).toArray⟩) ∧ Same (fun _ => False) w w') : Sound P f c_hFmt := by
  refine ⟨fun _ => rfl, fun F g0 w args vargs hsh hsz hfr hok => ⟨fun _ => ?_, ?_⟩⟩
  · obtain ⟨n, _, _, rfl, e⟩ := hFmtF_inv hok
    show flatA (hFmtF _).r = true
    rw [e]; rfl
  · obtain ⟨n, hn1, hn2, rfl, e⟩ := hFmtF_inv hok
    have h0 := arg_VR hfr (i := 0) (by simp)
    have h1 := arg_VR hfr (i := 1) (by simp)
    rw [vargs_two hsz]
    generalize vargs.getD 0 undef = x at h0
    generalize vargs.getD 1 undef = y at h1
    cases h0; cases h1
    refine (hc n w hn1 hn2 (hfr.tab.mono (Same.refl _ _) fun _ _ c => c.elim)).mono fun e' w' ⟨he, hs⟩ => ?_
    refine ⟨_, g0, [], id, he, back_val hs ?_ (fun i hi => ?_) (fun j hj => ?_)⟩
    · show RV _ _ _ _ _ _ (hFmtF _).r
      rw [e]; exact .str
    · have hi' : fpos (hFmtF _).r i := hi
      rw [e] at hi'
      exact absurd hi'.2 Bool.false_ne_true
    · match j with
      | 0 => cases hj
      | 1 => cases hj
      | j + 2 => simp [c_hFmt] at hj

end Go.Proofs.Ytgbibhhblimfiab
