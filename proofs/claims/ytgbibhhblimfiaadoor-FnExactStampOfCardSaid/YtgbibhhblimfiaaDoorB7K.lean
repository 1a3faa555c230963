/- Codes and contracts of the functions that B7 reaches, and that their typed forms say what they do. No condition. -/
import Derived.Test.YtgbibhhblimfiaaDoorR7T
import Derived.Test.YtgbibhhblimfiaaDoorEngSF
import Derived.Test.YtgbibhhblimfiaaDoorRows
import Derived.WalkKit
namespace Go.Proofs.YtgbibhhblimfiaaDoor
open Go Go.RowKit
set_option linter.unusedVariables false
set_option linter.unusedSimpArgs false
set_option maxRecDepth 10000

def ir8_v : List Nat := [0, 1, 2, 4]
def ir8 : AFn := ⟨2, 4, .seq (.region false [
    ⟨.var 2, 2, none, .box (.v 0)⟩,
    ⟨.var 3, 4, none, .mov (.c (.int .i64 (0)))⟩])
 (.seq (.region false [
    ⟨.push, 5, none, .mov (.v 1)⟩,
    ⟨.push, 6, none, .fldAddr 1 (.v 2)⟩,
    ⟨.push, 7, none, .load false 1 (.s 0)⟩,
    ⟨.push, 8, none, .len true (.s 0)⟩,
    ⟨.push, 9, none, .bin false .sub (.s 3) (.s 0)⟩,
    ⟨.var 1, 1, none, .mov (.s 0)⟩])
 (.seq (.test false [
    ⟨.push, 10, none, .mov (.v 1)⟩,
    ⟨.push, 11, none, .bin false .lss (.s 0) (.c (.int .i64 (0)))⟩] (.s 0)
  (.seq (.region false [
      ⟨.var 3, 4, none, .mov (.c (.int .i64 (-1)))⟩])
   (.ret))
  (.skip))
 (.seq (.region false [
    ⟨.push, 12, none, .mov (.v 1)⟩,
    ⟨.var 3, 4, none, .mov (.s 0)⟩])
 (.ret)))), [.t 3]⟩
noncomputable def t_laws_szEntry : List (Nat × Ctr) := []
noncomputable def c_laws_szEntry : Ctr := mkF t_laws_szEntry ir8 [.bor, .bor]
theorem s_laws_szEntry : Sound Tryd.prog 8 c_laws_szEntry := mkF_sound _ rfl snd_nil (by kernel_rfl : chkFn Tryd.prog 8 ir8 ir8_v = true)
theorem M_laws_szEntry : c_laws_szEntry.modes = [.bor, .bor] := rfl
theorem Fl_laws_szEntry : c_laws_szEntry.flat = true := rfl
attribute [go_sem] M_laws_szEntry Fl_laws_szEntry
theorem Fs_laws_szEntry {a : Entry} {left_ : Int} {y_ : Int} (h : laws_szEntry a left_ = some y_) : c_laws_szEntry.F [Entry_av a, .int .i64 left_] = ⟨true, .int .i64 y_, [.any, .any]⟩ := by
  refine mkF_E rfl ?_
  dsimp only [laws_szEntry] at h
  rcases it_some h with ⟨hk1, h⟩ | ⟨hk1, h⟩
  · try simp only [go_sem, n1, n2, n3, n4] at hk1
    all_goals
    obtain rfl := so_some h
    refine ⟨0, fun L hL => ?_⟩
    simp only [go_sem, ir8, hk1]
  · try simp only [go_sem, n1, n2, n3, n4] at hk1
    all_goals
    obtain rfl := so_some h
    refine ⟨0, fun L hL => ?_⟩
    simp only [go_sem, ir8, hk1]


def ir10_v : List Nat := [0, 1, 2, 3]
def ir10 : AFn := ⟨1, 4, .seq (.region false [
    ⟨.var 1, 1, none, .box (.v 0)⟩,
    ⟨.var 2, 2, none, .alloc (.agg [.int .i64 (0), .str [], .int .i64 (0)])⟩])
 (.seq (.region false [
    ⟨.var 3, 3, none, .alloc (.agg [.int .i64 (0), .str [], .int .i64 (0)])⟩])
 (.seq (.region false [
    ⟨.push, 4, none, .fldAddr 0 (.v 1)⟩,
    ⟨.push, 5, none, .load false 1 (.s 0)⟩,
    ⟨.push, 6, none, .fldAddr 0 (.v 3)⟩,
    ⟨.no, 0, none, .store 1 (.s 0) (.s 1)⟩])
 (.seq (.region false [
    ⟨.push, 7, none, .fldAddr 1 (.v 1)⟩,
    ⟨.push, 8, none, .load false 1 (.s 0)⟩,
    ⟨.push, 9, none, .fldAddr 1 (.v 3)⟩,
    ⟨.no, 0, none, .store 1 (.s 0) (.s 1)⟩])
 (.seq (.region false [
    ⟨.push, 10, none, .fldAddr 2 (.v 1)⟩,
    ⟨.push, 11, none, .load false 1 (.s 0)⟩,
    ⟨.push, 12, none, .fldAddr 2 (.v 3)⟩,
    ⟨.no, 0, none, .store 1 (.s 0) (.s 1)⟩])
 (.seq (.region false [
    ⟨.push, 13, none, .load true 3 (.v 3)⟩,
    ⟨.no, 0, none, .store 3 (.v 2) (.s 0)⟩])
 (.ret)))))), [.cell true 3 2]⟩
noncomputable def t_laws_toEntry : List (Nat × Ctr) := []
noncomputable def c_laws_toEntry : Ctr := mkN t_laws_toEntry ir10 [.bor]
theorem s_laws_toEntry : Sound Tryd.prog 10 c_laws_toEntry := mkN_sound _ snd_nil (by kernel_rfl : chkFn Tryd.prog 10 ir10 ir10_v = true)
theorem M_laws_toEntry : c_laws_toEntry.modes = [.bor] := rfl
theorem Fl_laws_toEntry : c_laws_toEntry.flat = false := rfl
attribute [go_sem] M_laws_toEntry Fl_laws_toEntry
theorem Fs_laws_toEntry {a : Entry} {y_ : Entry} (h : laws_toEntry a = some y_) : c_laws_toEntry.F [Entry_av a] = ⟨true, Entry_av y_, [.any]⟩ := by
  refine mkN_E ?_
  dsimp only [laws_toEntry] at h
  obtain rfl := so_some h
  refine ⟨0, fun L hL => ?_⟩
  simp only [go_sem, ir10]


def ir18_v : List Nat := [0, 1, 2, 6]
def ir18 : AFn := ⟨3, 4, .seq (.region false [
    ⟨.var 3, 6, none, .mov (.c (.bool false))⟩])
 (.seq (.region false [
    ⟨.push, 7, none, .mov (.v 0)⟩,
    ⟨.push, 8, none, .mov (.v 1)⟩,
    ⟨.push, 9, none, .bin false .geq (.s 1) (.s 0)⟩,
    ⟨.push, 10, none, .mov (.s 0)⟩,
    ⟨.push, 11, (some ((.s 0), true)), .mov (.v 0)⟩,
    ⟨.push, 12, (some ((.s 1), true)), .mov (.v 2)⟩,
    ⟨.push, 13, (some ((.s 2), true)), .bin false .leq (.s 1) (.s 0)⟩,
    ⟨.push, 14, none, .pick (.s 3) (.s 0) (.c (.bool false))⟩,
    ⟨.var 3, 6, none, .mov (.s 0)⟩])
 (.ret)), [.t 3]⟩
noncomputable def t_spec_l00In : List (Nat × Ctr) := []
noncomputable def c_spec_l00In : Ctr := mkF t_spec_l00In ir18 [.bor, .bor, .bor]
theorem s_spec_l00In : Sound Tryd.prog 18 c_spec_l00In := mkF_sound _ rfl snd_nil (by kernel_rfl : chkFn Tryd.prog 18 ir18 ir18_v = true)
theorem M_spec_l00In : c_spec_l00In.modes = [.bor, .bor, .bor] := rfl
theorem Fl_spec_l00In : c_spec_l00In.flat = true := rfl
attribute [go_sem] M_spec_l00In Fl_spec_l00In
theorem Fs_spec_l00In {n : Int} {low : Int} {high : Int} {y_ : Bool} (h : spec_l00In n low high = some y_) : c_spec_l00In.F [.int .i64 n, .int .i64 low, .int .i64 high] = ⟨true, .bool y_, [.any, .any, .any]⟩ := by
  refine mkF_E rfl ?_
  dsimp only [spec_l00In] at h
  obtain rfl := so_some h
  refine ⟨0, fun L hL => ?_⟩
  simp only [go_sem, ir18]


def ir29_v : List Nat := [0, 2]
def ir29 : AFn := ⟨1, 2, .seq (.region false [
    ⟨.var 1, 2, none, .mov (.c (.bool false))⟩])
 (.seq (.region false [
    ⟨.push, 3, none, .mov (.v 0)⟩,
    ⟨.push, 4, none, .call 18 [(.s 0), (.c (.int .i64 (0))), (.c (.int .i64 (100000)))]⟩,
    ⟨.var 1, 2, none, .mov (.s 0)⟩])
 (.ret)), [.t 1]⟩
noncomputable def t_spec_l27Day : List (Nat × Ctr) := [(18, c_spec_l00In)]
theorem lk_spec_l27Day_18 : look t_spec_l27Day 18 = some c_spec_l00In := rfl
noncomputable def c_spec_l27Day : Ctr := mkF t_spec_l27Day ir29 [.bor]
theorem s_spec_l27Day : Sound Tryd.prog 29 c_spec_l27Day := mkF_sound _ rfl (snd_cons s_spec_l00In snd_nil) (by kernel_rfl : chkFn Tryd.prog 29 ir29 ir29_v = true)
theorem M_spec_l27Day : c_spec_l27Day.modes = [.bor] := rfl
theorem Fl_spec_l27Day : c_spec_l27Day.flat = true := rfl
attribute [go_sem] M_spec_l27Day Fl_spec_l27Day
attribute [go_sem] lk_spec_l27Day_18
theorem Fs_spec_l27Day {n : Int} {y_ : Bool} (h : spec_l27Day n = some y_) : c_spec_l27Day.F [.int .i64 n] = ⟨true, .bool y_, [.any]⟩ := by
  refine mkF_E rfl ?_
  dsimp only [spec_l27Day] at h
  obtain ⟨y_1, hk1, h⟩ := bd_some h
  have fhk1 := Fs_spec_l00In hk1
  try simp only [go_sem] at fhk1
  obtain rfl := so_some h
  refine ⟨0, fun L hL => ?_⟩
  simp only [go_sem, ir29, fhk1]


def ir34_v : List Nat := [0, 2]
def ir34 : AFn := ⟨1, 2, .seq (.region false [
    ⟨.var 1, 2, none, .mov (.c (.bool false))⟩])
 (.seq (.region false [
    ⟨.push, 3, none, .mov (.v 0)⟩,
    ⟨.push, 4, none, .bin false .geq (.s 0) (.c (.int .u8 (97)))⟩,
    ⟨.push, 5, none, .mov (.s 0)⟩,
    ⟨.push, 6, (some ((.s 0), true)), .mov (.v 0)⟩,
    ⟨.push, 7, (some ((.s 1), true)), .bin false .leq (.s 0) (.c (.int .u8 (122)))⟩,
    ⟨.push, 8, none, .pick (.s 2) (.s 0) (.c (.bool false))⟩,
    ⟨.var 1, 2, none, .mov (.s 0)⟩])
 (.ret)), [.t 1]⟩
noncomputable def t_spec_l01Small : List (Nat × Ctr) := []
noncomputable def c_spec_l01Small : Ctr := mkF t_spec_l01Small ir34 [.bor]
theorem s_spec_l01Small : Sound Tryd.prog 34 c_spec_l01Small := mkF_sound _ rfl snd_nil (by kernel_rfl : chkFn Tryd.prog 34 ir34 ir34_v = true)
theorem M_spec_l01Small : c_spec_l01Small.modes = [.bor] := rfl
theorem Fl_spec_l01Small : c_spec_l01Small.flat = true := rfl
attribute [go_sem] M_spec_l01Small Fl_spec_l01Small
theorem Fs_spec_l01Small {c : UInt8} {y_ : Bool} (h : spec_l01Small c = some y_) : c_spec_l01Small.F [.int .u8 (c.toNat : Int)] = ⟨true, .bool y_, [.any]⟩ := by
  refine mkF_E rfl ?_
  dsimp only [spec_l01Small] at h
  obtain rfl := so_some h
  refine ⟨0, fun L hL => ?_⟩
  simp only [go_sem, ir34]


def ir35_v : List Nat := [0, 2]
def ir35 : AFn := ⟨1, 2, .seq (.region false [
    ⟨.var 1, 2, none, .mov (.c (.bool false))⟩])
 (.seq (.region false [
    ⟨.push, 3, none, .mov (.v 0)⟩,
    ⟨.push, 4, none, .bin false .geq (.s 0) (.c (.int .u8 (48)))⟩,
    ⟨.push, 5, none, .mov (.s 0)⟩,
    ⟨.push, 6, (some ((.s 0), true)), .mov (.v 0)⟩,
    ⟨.push, 7, (some ((.s 1), true)), .bin false .leq (.s 0) (.c (.int .u8 (57)))⟩,
    ⟨.push, 8, none, .pick (.s 2) (.s 0) (.c (.bool false))⟩,
    ⟨.var 1, 2, none, .mov (.s 0)⟩])
 (.ret)), [.t 1]⟩
noncomputable def t_spec_l01Digit : List (Nat × Ctr) := []
noncomputable def c_spec_l01Digit : Ctr := mkF t_spec_l01Digit ir35 [.bor]
theorem s_spec_l01Digit : Sound Tryd.prog 35 c_spec_l01Digit := mkF_sound _ rfl snd_nil (by kernel_rfl : chkFn Tryd.prog 35 ir35 ir35_v = true)
theorem M_spec_l01Digit : c_spec_l01Digit.modes = [.bor] := rfl
theorem Fl_spec_l01Digit : c_spec_l01Digit.flat = true := rfl
attribute [go_sem] M_spec_l01Digit Fl_spec_l01Digit
theorem Fs_spec_l01Digit {c : UInt8} {y_ : Bool} (h : spec_l01Digit c = some y_) : c_spec_l01Digit.F [.int .u8 (c.toNat : Int)] = ⟨true, .bool y_, [.any]⟩ := by
  refine mkF_E rfl ?_
  dsimp only [spec_l01Digit] at h
  obtain rfl := so_some h
  refine ⟨0, fun L hL => ?_⟩
  simp only [go_sem, ir35]


def ir30_b0 : IR := .seq (.test false [
    ⟨.push, 17, none, .mov (.v 2)⟩,
    ⟨.push, 18, none, .mov (.v 0)⟩,
    ⟨.push, 19, none, .len true (.s 0)⟩,
    ⟨.push, 20, none, .bin false .lss (.s 2) (.s 0)⟩] (.s 0)
  (.skip)
  (.exit 0))
 (.seq (.block 1 (.test false [
     ⟨.push, 23, none, .mov (.v 0)⟩,
     ⟨.push, 24, none, .mov (.v 2)⟩,
     ⟨.push, 25, none, .ixStr (.s 1) (.s 0)⟩,
     ⟨.push, 26, none, .call 34 [(.s 0)]⟩,
     ⟨.push, 27, none, .un .not (.s 0)⟩,
     ⟨.push, 28, none, .mov (.s 0)⟩,
     ⟨.push, 29, (some ((.s 0), true)), .mov (.v 0)⟩,
     ⟨.push, 30, (some ((.s 1), true)), .mov (.v 2)⟩,
     ⟨.push, 31, (some ((.s 2), true)), .ixStr (.s 1) (.s 0)⟩,
     ⟨.push, 32, (some ((.s 3), true)), .call 35 [(.s 0)]⟩,
     ⟨.push, 33, (some ((.s 4), true)), .un .not (.s 0)⟩,
     ⟨.push, 34, none, .pick (.s 5) (.s 0) (.c (.bool false))⟩,
     ⟨.push, 35, none, .mov (.s 0)⟩,
     ⟨.push, 36, (some ((.s 0), true)), .mov (.v 0)⟩,
     ⟨.push, 37, (some ((.s 1), true)), .mov (.v 2)⟩,
     ⟨.push, 38, (some ((.s 2), true)), .ixStr (.s 1) (.s 0)⟩,
     ⟨.push, 39, (some ((.s 3), true)), .bin false .neq (.s 0) (.c (.int .u8 (45)))⟩,
     ⟨.push, 40, none, .pick (.s 4) (.s 0) (.c (.bool false))⟩] (.s 0)
   (.seq (.region false [
       ⟨.var 1, 2, none, .mov (.c (.bool false))⟩])
    (.ret))
   (.skip)))
 (.region false [
   ⟨.push, 21, none, .mov (.v 2)⟩,
   ⟨.push, 22, none, .bin false .add (.s 0) (.c (.int .i64 (1)))⟩,
   ⟨.var 2, 3, none, .mov (.s 0)⟩]))
def ir30_k0 : List Bool := [true, false, true]
def ir30_o0 : List Bool := [false, false, false]
def ir30_r0 : List Bool := [false, true, false]
def ir30_v : List Nat := [0, 2, 3]
def ir30 : AFn := ⟨1, 3, .seq (.region false [
    ⟨.var 1, 2, none, .mov (.c (.bool false))⟩])
 (.seq (.test false [
    ⟨.push, 4, none, .mov (.v 0)⟩,
    ⟨.push, 5, none, .bin false .eql (.s 0) (.c (.str []))⟩,
    ⟨.push, 6, none, .mov (.s 0)⟩,
    ⟨.push, 7, (some ((.s 0), false)), .mov (.v 0)⟩,
    ⟨.push, 8, (some ((.s 1), false)), .len true (.s 0)⟩,
    ⟨.push, 9, (some ((.s 2), false)), .bin false .gtr (.s 0) (.c (.int .i64 (12)))⟩,
    ⟨.push, 10, none, .pick (.s 3) (.c (.bool true)) (.s 0)⟩,
    ⟨.push, 11, none, .mov (.s 0)⟩,
    ⟨.push, 12, (some ((.s 0), false)), .mov (.v 0)⟩,
    ⟨.push, 13, (some ((.s 1), false)), .ixStr (.s 0) (.c (.int .i64 (0)))⟩,
    ⟨.push, 14, (some ((.s 2), false)), .call 34 [(.s 0)]⟩,
    ⟨.push, 15, (some ((.s 3), false)), .un .not (.s 0)⟩,
    ⟨.push, 16, none, .pick (.s 4) (.c (.bool true)) (.s 0)⟩] (.s 0)
  (.seq (.region false [
      ⟨.var 1, 2, none, .mov (.c (.bool false))⟩])
   (.ret))
  (.skip))
 (.seq (.seq (.region false [
     ⟨.var 2, 3, none, .mov (.c (.int .i64 (0)))⟩])
  (.block 0 (.loop ir30_k0 ir30_o0 ir30_r0 ir30_b0)))
 (.seq (.region false [
    ⟨.var 1, 2, none, .mov (.c (.bool true))⟩])
 (.ret)))), [.t 1]⟩
noncomputable def t_spec_IsName : List (Nat × Ctr) := [(34, c_spec_l01Small), (35, c_spec_l01Digit)]
theorem lk_spec_IsName_34 : look t_spec_IsName 34 = some c_spec_l01Small := rfl
theorem lk_spec_IsName_35 : look t_spec_IsName 35 = some c_spec_l01Digit := rfl
noncomputable def c_spec_IsName : Ctr := mkF t_spec_IsName ir30 [.bor]
theorem s_spec_IsName : Sound Tryd.prog 30 c_spec_IsName := mkF_sound _ rfl (snd_cons s_spec_l01Small (snd_cons s_spec_l01Digit snd_nil)) (by kernel_rfl : chkFn Tryd.prog 30 ir30 ir30_v = true)
theorem M_spec_IsName : c_spec_IsName.modes = [.bor] := rfl
theorem Fl_spec_IsName : c_spec_IsName.flat = true := rfl
attribute [go_sem] M_spec_IsName Fl_spec_IsName
attribute [go_sem] lk_spec_IsName_34 lk_spec_IsName_35
def E_spec_IsName_l1 (s_ : List UInt8) : Int → St
  | i => ⟨[.str s_, .any, .int .i64 i], [], [], true⟩
def R_spec_IsName_l1 (s_ : List UInt8) : (Unit ⊕ Bool) → Res
  | .inl y => (.exit 0, ⟨[.any, .any, .any], [], [], true⟩)
  | .inr y => (.ret, ⟨[.any, .bool y, .any], [], [], true⟩)
theorem spec_IsName_l1_ex {s_ : List UInt8} {sgm_ : Int} {rho_ : Unit ⊕ Bool} (h : whileE (spec_IsName_l1 s_) sgm_ = some rho_) : ∃ L0, ∀ L, L0 ≤ L → iter (exec (look t_spec_IsName) L ir30_b0) ir30_k0 ir30_o0 ir30_r0 L (E_spec_IsName_l1 s_ sgm_) = R_spec_IsName_l1 s_ rho_ := by
  refine loop_ex (E := E_spec_IsName_l1 s_) (R := R_spec_IsName_l1 s_) (fun y => by first | (intro c; cases c) | (rcases y with y | y <;> (intro c; cases c)) | (rcases y with y | y | y <;> (intro c; cases c))) ?_ h
  clear h
  intro i o_ h
  dsimp only [spec_IsName_l1] at h
  rcases it_some h with ⟨hk4, h⟩ | ⟨hk4, h⟩
  · try simp only [go_sem, n1, n2, n3, n4] at hk4
    all_goals
    obtain ⟨hk5, h⟩ := ck_some h
    try simp only [go_sem, n1, n2, n3, n4, hk4] at hk5
    all_goals
    obtain ⟨y_6, hk6, h⟩ := bd_some h
    have fhk6 := Fs_spec_l01Small hk6
    try simp only [go_sem, hk4, hk5] at fhk6
    obtain ⟨hk7, h⟩ := ck_some h
    rcases or_split hk7 with ⟨ghk7, hk7⟩ | ghk7
    · try simp only [go_sem, n1, n2, n3, n4, hk4, hk5] at ghk7
      all_goals
      obtain ⟨y_7, hhk7⟩ := Option.isSome_iff_exists.1 hk7
      have fhk7 := Fs_spec_l01Digit hhk7
      try simp only [go_sem, hk4, hk5, ghk7] at fhk7
      rcases it_some h with ⟨hk8, h⟩ | ⟨hk8, h⟩
      · try simp only [go_sem, n1, n2, n3, n4, hk4, hk5, ghk7, hhk7] at hk8
        all_goals
        obtain rfl := so_some h
        refine ⟨0, fun L hL => ?_⟩
        simp only [go_sem, ir30, E_spec_IsName_l1, R_spec_IsName_l1, ir30_b0, ir30_k0, ir30_o0, ir30_r0, hk4, hk5, fhk6, ghk7, hhk7, fhk7, hk8]
      · try simp only [go_sem, n1, n2, n3, n4, hk4, hk5, ghk7, hhk7] at hk8
        all_goals
        obtain rfl := so_some h
        refine ⟨0, fun L hL => ?_⟩
        simp only [go_sem, ir30, E_spec_IsName_l1, R_spec_IsName_l1, ir30_b0, ir30_k0, ir30_o0, ir30_r0, hk4, hk5, fhk6, ghk7, hhk7, fhk7, hk8]
    · have ghk7n := no_f ghk7
      try simp only [go_sem, n1, n2, n3, n4, hk4, hk5] at ghk7n
      all_goals
      rcases it_some h with ⟨hk8, h⟩ | ⟨hk8, h⟩
      · try simp only [go_sem, n1, n2, n3, n4, hk4, hk5, ghk7n] at hk8
        all_goals
        obtain rfl := so_some h
        refine ⟨0, fun L hL => ?_⟩
        simp only [go_sem, ir30, E_spec_IsName_l1, R_spec_IsName_l1, ir30_b0, ir30_k0, ir30_o0, ir30_r0, hk4, hk5, fhk6, ghk7n, hk8]
      · try simp only [go_sem, n1, n2, n3, n4, hk4, hk5, ghk7n] at hk8
        all_goals
        obtain rfl := so_some h
        refine ⟨0, fun L hL => ?_⟩
        simp only [go_sem, ir30, E_spec_IsName_l1, R_spec_IsName_l1, ir30_b0, ir30_k0, ir30_o0, ir30_r0, hk4, hk5, fhk6, ghk7n, hk8]
  · try simp only [go_sem, n1, n2, n3, n4] at hk4
    all_goals
    obtain rfl := so_some h
    refine ⟨0, fun L hL => ?_⟩
    simp only [go_sem, ir30, E_spec_IsName_l1, R_spec_IsName_l1, ir30_b0, ir30_k0, ir30_o0, ir30_r0, hk4]

theorem Fs_spec_IsName {s_ : List UInt8} {y_ : Bool} (h : spec_IsName s_ = some y_) : c_spec_IsName.F [.str s_] = ⟨true, .bool y_, [.any]⟩ := by
  refine mkF_E rfl ?_
  dsimp only [spec_IsName] at h
  obtain ⟨hk1, h⟩ := ck_some h
  rcases or_split hk1 with ⟨ghk1, hk1⟩ | ghk1
  · try simp only [go_sem, n1, n2, n3, n4] at ghk1
    all_goals
    try simp only [go_sem, n1, n2, n3, n4, ghk1] at hk1
    all_goals
    obtain ⟨hk2, h⟩ := ck_some h
    rcases or_split hk2 with ⟨ghk2, hk2⟩ | ghk2
    · try simp only [go_sem, n1, n2, n3, n4, ghk1, hk1] at ghk2
      all_goals
      obtain ⟨y_2, hhk2⟩ := Option.isSome_iff_exists.1 hk2
      have fhk2 := Fs_spec_l01Small hhk2
      try simp only [go_sem, ghk1, hk1, ghk2] at fhk2
      rcases it_some h with ⟨hk3, h⟩ | ⟨hk3, h⟩
      · try simp only [go_sem, n1, n2, n3, n4, ghk1, hk1, ghk2, hhk2] at hk3
        all_goals
        obtain rfl := so_some h
        refine ⟨0, fun L hL => ?_⟩
        simp only [go_sem, ir30, E_spec_IsName_l1, R_spec_IsName_l1, ir30_k0, ir30_o0, ir30_r0, ghk1, hk1, ghk2, hhk2, fhk2, hk3]
      · try simp only [go_sem, n1, n2, n3, n4, ghk1, hk1, ghk2, hhk2] at hk3
        all_goals
        obtain ⟨y_9, hk9, h⟩ := bd_some h
        obtain ⟨Lhk9, ehk9⟩ := spec_IsName_l1_ex hk9
        rcases y_9 with y_9a | y_9b
        · dsimp only at h
          obtain rfl := so_some h
          refine ⟨Lhk9, fun L hL => ?_⟩
          have ehk9 := ehk9 L (by omega)
          try simp only [go_sem, E_spec_IsName_l1, R_spec_IsName_l1, ir30_k0, ir30_o0, ir30_r0, ghk1, hk1, ghk2, hhk2, hk3] at ehk9
          simp only [go_sem, ir30, E_spec_IsName_l1, R_spec_IsName_l1, ir30_k0, ir30_o0, ir30_r0, ghk1, hk1, ghk2, hhk2, fhk2, hk3, ehk9]
        · dsimp only at h
          obtain rfl := so_some h
          refine ⟨Lhk9, fun L hL => ?_⟩
          have ehk9 := ehk9 L (by omega)
          try simp only [go_sem, E_spec_IsName_l1, R_spec_IsName_l1, ir30_k0, ir30_o0, ir30_r0, ghk1, hk1, ghk2, hhk2, hk3] at ehk9
          simp only [go_sem, ir30, E_spec_IsName_l1, R_spec_IsName_l1, ir30_k0, ir30_o0, ir30_r0, ghk1, hk1, ghk2, hhk2, fhk2, hk3, ehk9]
    · have ghk2n := no_f ghk2
      rcases or_t ghk2n with ghk2na | ⟨ghk2na, ghk2nb⟩
      · try simp only [go_sem, n1, n2, n3, n4, ghk1, hk1] at ghk2na
        all_goals
        rcases it_some h with ⟨hk3, h⟩ | ⟨hk3, h⟩
        · try simp only [go_sem, n1, n2, n3, n4, ghk1, hk1, ghk2na] at hk3
          all_goals
          obtain rfl := so_some h
          refine ⟨0, fun L hL => ?_⟩
          simp only [go_sem, ir30, E_spec_IsName_l1, R_spec_IsName_l1, ir30_k0, ir30_o0, ir30_r0, ghk1, hk1, ghk2na, hk3]
        · try simp only [go_sem, n1, n2, n3, n4, ghk1, hk1, ghk2na] at hk3
          all_goals
          obtain ⟨y_9, hk9, h⟩ := bd_some h
          obtain ⟨Lhk9, ehk9⟩ := spec_IsName_l1_ex hk9
          rcases y_9 with y_9a | y_9b
          · dsimp only at h
            obtain rfl := so_some h
            refine ⟨Lhk9, fun L hL => ?_⟩
            have ehk9 := ehk9 L (by omega)
            try simp only [go_sem, E_spec_IsName_l1, R_spec_IsName_l1, ir30_k0, ir30_o0, ir30_r0, ghk1, hk1, ghk2na, hk3] at ehk9
            simp only [go_sem, ir30, E_spec_IsName_l1, R_spec_IsName_l1, ir30_k0, ir30_o0, ir30_r0, ghk1, hk1, ghk2na, hk3, ehk9]
          · dsimp only at h
            obtain rfl := so_some h
            refine ⟨Lhk9, fun L hL => ?_⟩
            have ehk9 := ehk9 L (by omega)
            try simp only [go_sem, E_spec_IsName_l1, R_spec_IsName_l1, ir30_k0, ir30_o0, ir30_r0, ghk1, hk1, ghk2na, hk3] at ehk9
            simp only [go_sem, ir30, E_spec_IsName_l1, R_spec_IsName_l1, ir30_k0, ir30_o0, ir30_r0, ghk1, hk1, ghk2na, hk3, ehk9]
      · try simp only [go_sem, n1, n2, n3, n4, ghk1, hk1] at ghk2na
        all_goals
        try simp only [go_sem, n1, n2, n3, n4, ghk1, hk1, ghk2na] at ghk2nb
        all_goals
        rcases it_some h with ⟨hk3, h⟩ | ⟨hk3, h⟩
        · try simp only [go_sem, n1, n2, n3, n4, ghk1, hk1, ghk2na, ghk2nb] at hk3
          all_goals
          obtain rfl := so_some h
          refine ⟨0, fun L hL => ?_⟩
          simp only [go_sem, ir30, E_spec_IsName_l1, R_spec_IsName_l1, ir30_k0, ir30_o0, ir30_r0, ghk1, hk1, ghk2na, ghk2nb, hk3]
        · try simp only [go_sem, n1, n2, n3, n4, ghk1, hk1, ghk2na, ghk2nb] at hk3
          all_goals
          obtain ⟨y_9, hk9, h⟩ := bd_some h
          obtain ⟨Lhk9, ehk9⟩ := spec_IsName_l1_ex hk9
          rcases y_9 with y_9a | y_9b
          · dsimp only at h
            obtain rfl := so_some h
            refine ⟨Lhk9, fun L hL => ?_⟩
            have ehk9 := ehk9 L (by omega)
            try simp only [go_sem, E_spec_IsName_l1, R_spec_IsName_l1, ir30_k0, ir30_o0, ir30_r0, ghk1, hk1, ghk2na, ghk2nb, hk3] at ehk9
            simp only [go_sem, ir30, E_spec_IsName_l1, R_spec_IsName_l1, ir30_k0, ir30_o0, ir30_r0, ghk1, hk1, ghk2na, ghk2nb, hk3, ehk9]
          · dsimp only at h
            obtain rfl := so_some h
            refine ⟨Lhk9, fun L hL => ?_⟩
            have ehk9 := ehk9 L (by omega)
            try simp only [go_sem, E_spec_IsName_l1, R_spec_IsName_l1, ir30_k0, ir30_o0, ir30_r0, ghk1, hk1, ghk2na, ghk2nb, hk3] at ehk9
            simp only [go_sem, ir30, E_spec_IsName_l1, R_spec_IsName_l1, ir30_k0, ir30_o0, ir30_r0, ghk1, hk1, ghk2na, ghk2nb, hk3, ehk9]
  · have ghk1n := no_f ghk1
    rcases or_t ghk1n with ghk1na | ⟨ghk1na, ghk1nb⟩
    · try simp only [go_sem, n1, n2, n3, n4] at ghk1na
      all_goals
      obtain ⟨hk2, h⟩ := ck_some h
      rcases or_split hk2 with ⟨ghk2, hk2⟩ | ghk2
      · try simp only [go_sem, n1, n2, n3, n4, ghk1na] at ghk2
        all_goals
        obtain ⟨y_2, hhk2⟩ := Option.isSome_iff_exists.1 hk2
        have fhk2 := Fs_spec_l01Small hhk2
        try simp only [go_sem, ghk1na, ghk2] at fhk2
        rcases it_some h with ⟨hk3, h⟩ | ⟨hk3, h⟩
        · try simp only [go_sem, n1, n2, n3, n4, ghk1na, ghk2, hhk2] at hk3
          all_goals
          obtain rfl := so_some h
          refine ⟨0, fun L hL => ?_⟩
          simp only [go_sem, ir30, E_spec_IsName_l1, R_spec_IsName_l1, ir30_k0, ir30_o0, ir30_r0, ghk1na, ghk2, hhk2, fhk2, hk3]
        · try simp only [go_sem, n1, n2, n3, n4, ghk1na, ghk2, hhk2] at hk3
          all_goals
          obtain ⟨y_9, hk9, h⟩ := bd_some h
          obtain ⟨Lhk9, ehk9⟩ := spec_IsName_l1_ex hk9
          rcases y_9 with y_9a | y_9b
          · dsimp only at h
            obtain rfl := so_some h
            refine ⟨Lhk9, fun L hL => ?_⟩
            have ehk9 := ehk9 L (by omega)
            try simp only [go_sem, E_spec_IsName_l1, R_spec_IsName_l1, ir30_k0, ir30_o0, ir30_r0, ghk1na, ghk2, hhk2, hk3] at ehk9
            simp only [go_sem, ir30, E_spec_IsName_l1, R_spec_IsName_l1, ir30_k0, ir30_o0, ir30_r0, ghk1na, ghk2, hhk2, fhk2, hk3, ehk9]
          · dsimp only at h
            obtain rfl := so_some h
            refine ⟨Lhk9, fun L hL => ?_⟩
            have ehk9 := ehk9 L (by omega)
            try simp only [go_sem, E_spec_IsName_l1, R_spec_IsName_l1, ir30_k0, ir30_o0, ir30_r0, ghk1na, ghk2, hhk2, hk3] at ehk9
            simp only [go_sem, ir30, E_spec_IsName_l1, R_spec_IsName_l1, ir30_k0, ir30_o0, ir30_r0, ghk1na, ghk2, hhk2, fhk2, hk3, ehk9]
      · have ghk2n := no_f ghk2
        rcases or_t ghk2n with ghk2na | ⟨ghk2na, ghk2nb⟩
        · try simp only [go_sem, n1, n2, n3, n4, ghk1na] at ghk2na
          all_goals
          rcases it_some h with ⟨hk3, h⟩ | ⟨hk3, h⟩
          · try simp only [go_sem, n1, n2, n3, n4, ghk1na, ghk2na] at hk3
            all_goals
            obtain rfl := so_some h
            refine ⟨0, fun L hL => ?_⟩
            simp only [go_sem, ir30, E_spec_IsName_l1, R_spec_IsName_l1, ir30_k0, ir30_o0, ir30_r0, ghk1na, ghk2na, hk3]
          · try simp only [go_sem, n1, n2, n3, n4, ghk1na, ghk2na] at hk3
            all_goals
            obtain ⟨y_9, hk9, h⟩ := bd_some h
            obtain ⟨Lhk9, ehk9⟩ := spec_IsName_l1_ex hk9
            rcases y_9 with y_9a | y_9b
            · dsimp only at h
              obtain rfl := so_some h
              refine ⟨Lhk9, fun L hL => ?_⟩
              have ehk9 := ehk9 L (by omega)
              try simp only [go_sem, E_spec_IsName_l1, R_spec_IsName_l1, ir30_k0, ir30_o0, ir30_r0, ghk1na, ghk2na, hk3] at ehk9
              simp only [go_sem, ir30, E_spec_IsName_l1, R_spec_IsName_l1, ir30_k0, ir30_o0, ir30_r0, ghk1na, ghk2na, hk3, ehk9]
            · dsimp only at h
              obtain rfl := so_some h
              refine ⟨Lhk9, fun L hL => ?_⟩
              have ehk9 := ehk9 L (by omega)
              try simp only [go_sem, E_spec_IsName_l1, R_spec_IsName_l1, ir30_k0, ir30_o0, ir30_r0, ghk1na, ghk2na, hk3] at ehk9
              simp only [go_sem, ir30, E_spec_IsName_l1, R_spec_IsName_l1, ir30_k0, ir30_o0, ir30_r0, ghk1na, ghk2na, hk3, ehk9]
        · try simp only [go_sem, n1, n2, n3, n4, ghk1na] at ghk2na
          all_goals
          try simp only [go_sem, n1, n2, n3, n4, ghk1na, ghk2na] at ghk2nb
          all_goals
          rcases it_some h with ⟨hk3, h⟩ | ⟨hk3, h⟩
          · try simp only [go_sem, n1, n2, n3, n4, ghk1na, ghk2na, ghk2nb] at hk3
            all_goals
            obtain rfl := so_some h
            refine ⟨0, fun L hL => ?_⟩
            simp only [go_sem, ir30, E_spec_IsName_l1, R_spec_IsName_l1, ir30_k0, ir30_o0, ir30_r0, ghk1na, ghk2na, ghk2nb, hk3]
          · try simp only [go_sem, n1, n2, n3, n4, ghk1na, ghk2na, ghk2nb] at hk3
            all_goals
            obtain ⟨y_9, hk9, h⟩ := bd_some h
            obtain ⟨Lhk9, ehk9⟩ := spec_IsName_l1_ex hk9
            rcases y_9 with y_9a | y_9b
            · dsimp only at h
              obtain rfl := so_some h
              refine ⟨Lhk9, fun L hL => ?_⟩
              have ehk9 := ehk9 L (by omega)
              try simp only [go_sem, E_spec_IsName_l1, R_spec_IsName_l1, ir30_k0, ir30_o0, ir30_r0, ghk1na, ghk2na, ghk2nb, hk3] at ehk9
              simp only [go_sem, ir30, E_spec_IsName_l1, R_spec_IsName_l1, ir30_k0, ir30_o0, ir30_r0, ghk1na, ghk2na, ghk2nb, hk3, ehk9]
            · dsimp only at h
              obtain rfl := so_some h
              refine ⟨Lhk9, fun L hL => ?_⟩
              have ehk9 := ehk9 L (by omega)
              try simp only [go_sem, E_spec_IsName_l1, R_spec_IsName_l1, ir30_k0, ir30_o0, ir30_r0, ghk1na, ghk2na, ghk2nb, hk3] at ehk9
              simp only [go_sem, ir30, E_spec_IsName_l1, R_spec_IsName_l1, ir30_k0, ir30_o0, ir30_r0, ghk1na, ghk2na, ghk2nb, hk3, ehk9]
    · try simp only [go_sem, n1, n2, n3, n4] at ghk1na
      all_goals
      try simp only [go_sem, n1, n2, n3, n4, ghk1na] at ghk1nb
      all_goals
      obtain ⟨hk2, h⟩ := ck_some h
      rcases or_split hk2 with ⟨ghk2, hk2⟩ | ghk2
      · try simp only [go_sem, n1, n2, n3, n4, ghk1na, ghk1nb] at ghk2
        all_goals
        obtain ⟨y_2, hhk2⟩ := Option.isSome_iff_exists.1 hk2
        have fhk2 := Fs_spec_l01Small hhk2
        try simp only [go_sem, ghk1na, ghk1nb, ghk2] at fhk2
        rcases it_some h with ⟨hk3, h⟩ | ⟨hk3, h⟩
        · try simp only [go_sem, n1, n2, n3, n4, ghk1na, ghk1nb, ghk2, hhk2] at hk3
          all_goals
          obtain rfl := so_some h
          refine ⟨0, fun L hL => ?_⟩
          simp only [go_sem, ir30, E_spec_IsName_l1, R_spec_IsName_l1, ir30_k0, ir30_o0, ir30_r0, ghk1na, ghk1nb, ghk2, hhk2, fhk2, hk3]
        · try simp only [go_sem, n1, n2, n3, n4, ghk1na, ghk1nb, ghk2, hhk2] at hk3
          all_goals
          obtain ⟨y_9, hk9, h⟩ := bd_some h
          obtain ⟨Lhk9, ehk9⟩ := spec_IsName_l1_ex hk9
          rcases y_9 with y_9a | y_9b
          · dsimp only at h
            obtain rfl := so_some h
            refine ⟨Lhk9, fun L hL => ?_⟩
            have ehk9 := ehk9 L (by omega)
            try simp only [go_sem, E_spec_IsName_l1, R_spec_IsName_l1, ir30_k0, ir30_o0, ir30_r0, ghk1na, ghk1nb, ghk2, hhk2, hk3] at ehk9
            simp only [go_sem, ir30, E_spec_IsName_l1, R_spec_IsName_l1, ir30_k0, ir30_o0, ir30_r0, ghk1na, ghk1nb, ghk2, hhk2, fhk2, hk3, ehk9]
          · dsimp only at h
            obtain rfl := so_some h
            refine ⟨Lhk9, fun L hL => ?_⟩
            have ehk9 := ehk9 L (by omega)
            try simp only [go_sem, E_spec_IsName_l1, R_spec_IsName_l1, ir30_k0, ir30_o0, ir30_r0, ghk1na, ghk1nb, ghk2, hhk2, hk3] at ehk9
            simp only [go_sem, ir30, E_spec_IsName_l1, R_spec_IsName_l1, ir30_k0, ir30_o0, ir30_r0, ghk1na, ghk1nb, ghk2, hhk2, fhk2, hk3, ehk9]
      · have ghk2n := no_f ghk2
        rcases or_t ghk2n with ghk2na | ⟨ghk2na, ghk2nb⟩
        · try simp only [go_sem, n1, n2, n3, n4, ghk1na, ghk1nb] at ghk2na
          all_goals
          rcases it_some h with ⟨hk3, h⟩ | ⟨hk3, h⟩
          · try simp only [go_sem, n1, n2, n3, n4, ghk1na, ghk1nb, ghk2na] at hk3
            all_goals
            obtain rfl := so_some h
            refine ⟨0, fun L hL => ?_⟩
            simp only [go_sem, ir30, E_spec_IsName_l1, R_spec_IsName_l1, ir30_k0, ir30_o0, ir30_r0, ghk1na, ghk1nb, ghk2na, hk3]
          · try simp only [go_sem, n1, n2, n3, n4, ghk1na, ghk1nb, ghk2na] at hk3
            all_goals
            obtain ⟨y_9, hk9, h⟩ := bd_some h
            obtain ⟨Lhk9, ehk9⟩ := spec_IsName_l1_ex hk9
            rcases y_9 with y_9a | y_9b
            · dsimp only at h
              obtain rfl := so_some h
              refine ⟨Lhk9, fun L hL => ?_⟩
              have ehk9 := ehk9 L (by omega)
              try simp only [go_sem, E_spec_IsName_l1, R_spec_IsName_l1, ir30_k0, ir30_o0, ir30_r0, ghk1na, ghk1nb, ghk2na, hk3] at ehk9
              simp only [go_sem, ir30, E_spec_IsName_l1, R_spec_IsName_l1, ir30_k0, ir30_o0, ir30_r0, ghk1na, ghk1nb, ghk2na, hk3, ehk9]
            · dsimp only at h
              obtain rfl := so_some h
              refine ⟨Lhk9, fun L hL => ?_⟩
              have ehk9 := ehk9 L (by omega)
              try simp only [go_sem, E_spec_IsName_l1, R_spec_IsName_l1, ir30_k0, ir30_o0, ir30_r0, ghk1na, ghk1nb, ghk2na, hk3] at ehk9
              simp only [go_sem, ir30, E_spec_IsName_l1, R_spec_IsName_l1, ir30_k0, ir30_o0, ir30_r0, ghk1na, ghk1nb, ghk2na, hk3, ehk9]
        · try simp only [go_sem, n1, n2, n3, n4, ghk1na, ghk1nb] at ghk2na
          all_goals
          try simp only [go_sem, n1, n2, n3, n4, ghk1na, ghk1nb, ghk2na] at ghk2nb
          all_goals
          rcases it_some h with ⟨hk3, h⟩ | ⟨hk3, h⟩
          · try simp only [go_sem, n1, n2, n3, n4, ghk1na, ghk1nb, ghk2na, ghk2nb] at hk3
            all_goals
            obtain rfl := so_some h
            refine ⟨0, fun L hL => ?_⟩
            simp only [go_sem, ir30, E_spec_IsName_l1, R_spec_IsName_l1, ir30_k0, ir30_o0, ir30_r0, ghk1na, ghk1nb, ghk2na, ghk2nb, hk3]
          · try simp only [go_sem, n1, n2, n3, n4, ghk1na, ghk1nb, ghk2na, ghk2nb] at hk3
            all_goals
            obtain ⟨y_9, hk9, h⟩ := bd_some h
            obtain ⟨Lhk9, ehk9⟩ := spec_IsName_l1_ex hk9
            rcases y_9 with y_9a | y_9b
            · dsimp only at h
              obtain rfl := so_some h
              refine ⟨Lhk9, fun L hL => ?_⟩
              have ehk9 := ehk9 L (by omega)
              try simp only [go_sem, E_spec_IsName_l1, R_spec_IsName_l1, ir30_k0, ir30_o0, ir30_r0, ghk1na, ghk1nb, ghk2na, ghk2nb, hk3] at ehk9
              simp only [go_sem, ir30, E_spec_IsName_l1, R_spec_IsName_l1, ir30_k0, ir30_o0, ir30_r0, ghk1na, ghk1nb, ghk2na, ghk2nb, hk3, ehk9]
            · dsimp only at h
              obtain rfl := so_some h
              refine ⟨Lhk9, fun L hL => ?_⟩
              have ehk9 := ehk9 L (by omega)
              try simp only [go_sem, E_spec_IsName_l1, R_spec_IsName_l1, ir30_k0, ir30_o0, ir30_r0, ghk1na, ghk1nb, ghk2na, ghk2nb, hk3] at ehk9
              simp only [go_sem, ir30, E_spec_IsName_l1, R_spec_IsName_l1, ir30_k0, ir30_o0, ir30_r0, ghk1na, ghk1nb, ghk2na, ghk2nb, hk3, ehk9]


def ir17_v : List Nat := [0, 2]
def ir17 : AFn := ⟨1, 2, .seq (.region false [
    ⟨.var 1, 2, none, .mov (.c (.bool false))⟩])
 (.seq (.region false [
    ⟨.push, 3, none, .mov (.v 0)⟩,
    ⟨.push, 4, none, .nilck (.s 0)⟩,
    ⟨.push, 5, none, .fldAddr 0 (.s 0)⟩,
    ⟨.push, 6, none, .load false 1 (.s 0)⟩,
    ⟨.push, 7, none, .call 29 [(.s 0)]⟩,
    ⟨.push, 8, none, .mov (.s 0)⟩,
    ⟨.push, 9, (some ((.s 0), true)), .mov (.v 0)⟩,
    ⟨.push, 10, (some ((.s 1), true)), .nilck (.s 0)⟩,
    ⟨.push, 11, (some ((.s 2), true)), .fldAddr 1 (.s 0)⟩,
    ⟨.push, 12, (some ((.s 3), true)), .load false 1 (.s 0)⟩,
    ⟨.push, 13, (some ((.s 4), true)), .call 30 [(.s 0)]⟩,
    ⟨.push, 14, none, .pick (.s 5) (.s 0) (.c (.bool false))⟩,
    ⟨.push, 15, none, .mov (.s 0)⟩,
    ⟨.push, 16, (some ((.s 0), true)), .mov (.v 0)⟩,
    ⟨.push, 17, (some ((.s 1), true)), .nilck (.s 0)⟩,
    ⟨.push, 18, (some ((.s 2), true)), .fldAddr 2 (.s 0)⟩,
    ⟨.push, 19, (some ((.s 3), true)), .load false 1 (.s 0)⟩,
    ⟨.push, 20, (some ((.s 4), true)), .call 18 [(.s 0), (.c (.int .i64 (-1000000))), (.c (.int .i64 (1000000)))]⟩,
    ⟨.push, 21, none, .pick (.s 5) (.s 0) (.c (.bool false))⟩,
    ⟨.var 1, 2, none, .mov (.s 0)⟩])
 (.ret)), [.t 1]⟩
noncomputable def t_spec_l27Ok : List (Nat × Ctr) := [(29, c_spec_l27Day), (30, c_spec_IsName), (18, c_spec_l00In)]
theorem lk_spec_l27Ok_29 : look t_spec_l27Ok 29 = some c_spec_l27Day := rfl
theorem lk_spec_l27Ok_30 : look t_spec_l27Ok 30 = some c_spec_IsName := rfl
theorem lk_spec_l27Ok_18 : look t_spec_l27Ok 18 = some c_spec_l00In := rfl
noncomputable def c_spec_l27Ok : Ctr := mkF t_spec_l27Ok ir17 [.bor]
theorem s_spec_l27Ok : Sound Tryd.prog 17 c_spec_l27Ok := mkF_sound _ rfl (snd_cons s_spec_l27Day (snd_cons s_spec_IsName (snd_cons s_spec_l00In snd_nil))) (by kernel_rfl : chkFn Tryd.prog 17 ir17 ir17_v = true)
theorem M_spec_l27Ok : c_spec_l27Ok.modes = [.bor] := rfl
theorem Fl_spec_l27Ok : c_spec_l27Ok.flat = true := rfl
attribute [go_sem] M_spec_l27Ok Fl_spec_l27Ok
attribute [go_sem] lk_spec_l27Ok_29 lk_spec_l27Ok_30 lk_spec_l27Ok_18
theorem Fs_spec_l27Ok {e_ : Entry} {y_ : Bool} (h : spec_l27Ok e_ = some y_) : c_spec_l27Ok.F [.ptr 3 [Entry_av e_] 0 0] = ⟨true, .bool y_, [.any]⟩ := by
  refine mkF_E rfl ?_
  dsimp only [spec_l27Ok] at h
  obtain ⟨y_1, hk1, h⟩ := bd_some h
  have fhk1 := Fs_spec_l27Day hk1
  try simp only [go_sem] at fhk1
  obtain ⟨hk2, h⟩ := ck_some h
  rcases or_split hk2 with ⟨ghk2, hk2⟩ | ghk2
  · try simp only [go_sem, n1, n2, n3, n4] at ghk2
    all_goals
    obtain ⟨y_2, hhk2⟩ := Option.isSome_iff_exists.1 hk2
    have fhk2 := Fs_spec_IsName hhk2
    try simp only [go_sem, ghk2] at fhk2
    obtain ⟨hk3, h⟩ := ck_some h
    rcases or_split hk3 with ⟨ghk3, hk3⟩ | ghk3
    · try simp only [go_sem, n1, n2, n3, n4, ghk2, hhk2] at ghk3
      all_goals
      obtain ⟨y_3, hhk3⟩ := Option.isSome_iff_exists.1 hk3
      have fhk3 := Fs_spec_l00In hhk3
      try simp only [go_sem, ghk2, hhk2, ghk3] at fhk3
      obtain rfl := so_some h
      refine ⟨0, fun L hL => ?_⟩
      simp only [go_sem, ir17, fhk1, ghk2, hhk2, fhk2, ghk3, hhk3, fhk3]
    · rcases and_f ghk3 with ghk3a | ⟨ghk3a, ghk3b⟩
      · try simp only [go_sem, n1, n2, n3, n4, ghk2, hhk2] at ghk3a
        all_goals
        obtain rfl := so_some h
        refine ⟨0, fun L hL => ?_⟩
        simp only [go_sem, ir17, fhk1, ghk2, hhk2, fhk2, ghk3a]
      · try simp only [go_sem, n1, n2, n3, n4, ghk2, hhk2] at ghk3a
        all_goals
        try simp only [go_sem, n1, n2, n3, n4, ghk2, hhk2, ghk3a] at ghk3b
        all_goals
        obtain rfl := so_some h
        refine ⟨0, fun L hL => ?_⟩
        simp only [go_sem, ir17, fhk1, ghk2, hhk2, fhk2, ghk3a, ghk3b]
  · try simp only [go_sem, n1, n2, n3, n4] at ghk2
    all_goals
    obtain ⟨hk3, h⟩ := ck_some h
    rcases or_split hk3 with ⟨ghk3, hk3⟩ | ghk3
    · try simp only [go_sem, n1, n2, n3, n4, ghk2] at ghk3
      all_goals
      obtain ⟨y_3, hhk3⟩ := Option.isSome_iff_exists.1 hk3
      have fhk3 := Fs_spec_l00In hhk3
      try simp only [go_sem, ghk2, ghk3] at fhk3
      obtain rfl := so_some h
      refine ⟨0, fun L hL => ?_⟩
      simp only [go_sem, ir17, fhk1, ghk2, ghk3, hhk3, fhk3]
    · rcases and_f ghk3 with ghk3a | ⟨ghk3a, ghk3b⟩
      · try simp only [go_sem, n1, n2, n3, n4, ghk2] at ghk3a
        all_goals
        obtain rfl := so_some h
        refine ⟨0, fun L hL => ?_⟩
        simp only [go_sem, ir17, fhk1, ghk2, ghk3a]
      · try simp only [go_sem, n1, n2, n3, n4, ghk2] at ghk3a
        all_goals
        try simp only [go_sem, n1, n2, n3, n4, ghk2, ghk3a] at ghk3b
        all_goals
        obtain rfl := so_some h
        refine ⟨0, fun L hL => ?_⟩
        simp only [go_sem, ir17, fhk1, ghk2, ghk3a, ghk3b]


def ir25_b0 : IR := .seq (.test false [
    ⟨.push, 8, none, .mov (.v 3)⟩,
    ⟨.push, 9, none, .bin false .neq (.s 0) (.c (.int .i64 (0)))⟩] (.s 0)
  (.skip)
  (.exit 0))
 (.seq (.block 1 (.seq (.region false [
      ⟨.push, 12, none, .mov (.v 3)⟩,
      ⟨.push, 13, none, .bin false .rem (.s 0) (.c (.int .i64 (10)))⟩,
      ⟨.var 4, 5, none, .mov (.s 0)⟩])
   (.seq (.test false [
      ⟨.push, 14, none, .mov (.v 4)⟩,
      ⟨.push, 15, none, .bin false .lss (.s 0) (.c (.int .i64 (0)))⟩] (.s 0)
    (.region false [
       ⟨.push, 16, none, .mov (.v 4)⟩,
       ⟨.push, 17, none, .un .neg (.s 0)⟩,
       ⟨.var 4, 5, none, .mov (.s 0)⟩])
    (.skip))
   (.region false [
     ⟨.push, 18, none, .mov (.v 4)⟩,
     ⟨.push, 19, none, .bin false .add (.c (.int .i64 (48))) (.s 0)⟩,
     ⟨.push, 20, none, .conv .u8 (.s 0)⟩,
     ⟨.push, 21, none, .mkSl 1 (.int .u8 (0)) 1 [(0, (.s 0))]⟩,
     ⟨.push, 22, none, .mov (.v 2)⟩,
     ⟨.push, 23, none, .app 1 1 (.int .u8 (0)) (.s 1) (.s 0)⟩,
     ⟨.var 2, 3, none, .mov (.s 0)⟩]))))
 (.region false [
   ⟨.push, 10, none, .mov (.v 3)⟩,
   ⟨.push, 11, none, .bin false .quo (.s 0) (.c (.int .i64 (10)))⟩,
   ⟨.var 3, 4, none, .mov (.s 0)⟩]))
def ir25_k0 : List Bool := [true, false, true, true, false]
def ir25_o0 : List Bool := [true, false, true, false, false]
def ir25_r0 : List Bool := [false, true, false, false, false]
def ir25_v : List Nat := [0, 2, 3, 4, 5]
def ir25 : AFn := ⟨1, 5, .seq (.region false [
    ⟨.var 1, 2, none, .mov (.c (.str []))⟩])
 (.seq (.region false [
    ⟨.push, 6, none, .mkSl 1 (.int .u8 (0)) 0 []⟩,
    ⟨.var 2, 3, none, .mov (.s 0)⟩])
 (.seq (.seq (.region false [
     ⟨.push, 7, none, .mov (.v 0)⟩,
     ⟨.var 3, 4, none, .mov (.s 0)⟩])
  (.block 0 (.loop ir25_k0 ir25_o0 ir25_r0 ir25_b0)))
 (.seq (.test false [
    ⟨.push, 24, none, .mov (.v 2)⟩,
    ⟨.push, 25, none, .len false (.s 0)⟩,
    ⟨.push, 26, none, .bin false .eql (.s 0) (.c (.int .i64 (0)))⟩] (.s 0)
  (.seq (.region false [
      ⟨.var 1, 2, none, .mov (.c (.str [48]))⟩])
   (.ret))
  (.skip))
 (.seq (.test false [
    ⟨.push, 27, none, .mov (.v 0)⟩,
    ⟨.push, 28, none, .bin false .lss (.s 0) (.c (.int .i64 (0)))⟩] (.s 0)
  (.seq (.region false [
      ⟨.push, 29, none, .mov (.v 2)⟩,
      ⟨.push, 30, none, .b2s (.s 0)⟩,
      ⟨.push, 31, none, .bin false .add (.c (.str [45])) (.s 0)⟩,
      ⟨.var 1, 2, none, .mov (.s 0)⟩])
   (.ret))
  (.skip))
 (.seq (.region false [
    ⟨.push, 32, none, .mov (.v 2)⟩,
    ⟨.push, 33, none, .b2s (.s 0)⟩,
    ⟨.var 1, 2, none, .mov (.s 0)⟩])
 (.ret)))))), [.t 1]⟩
noncomputable def t_spec_l01Dec : List (Nat × Ctr) := []
noncomputable def c_spec_l01Dec : Ctr := mkF t_spec_l01Dec ir25 [.bor]
theorem s_spec_l01Dec : Sound Tryd.prog 25 c_spec_l01Dec := mkF_sound _ rfl snd_nil (by kernel_rfl : chkFn Tryd.prog 25 ir25 ir25_v = true)
theorem M_spec_l01Dec : c_spec_l01Dec.modes = [.bor] := rfl
theorem Fl_spec_l01Dec : c_spec_l01Dec.flat = true := rfl
attribute [go_sem] M_spec_l01Dec Fl_spec_l01Dec
def E_spec_l01Dec_l1 (n : Int) : ((List UInt8) × Int) → St
  | (out, k) => ⟨[.int .i64 n, .any, .own 3200000, .int .i64 k, .any], [], [(3200000, ⟨1, List.map byteAV out⟩)], true⟩
def R_spec_l01Dec_l1 (n : Int) (y : (List UInt8)) : Res := (.exit 0, ⟨[.int .i64 n, .any, .own 3200000, .any, .any], [], [(3200000, ⟨1, List.map byteAV y⟩)], true⟩)
theorem spec_l01Dec_l1_ex {n : Int} {sgm_ : (List UInt8) × Int} {rho_ : (List UInt8)} (h : whileE (spec_l01Dec_l1 n) sgm_ = some rho_) : ∃ L0, ∀ L, L0 ≤ L → iter (exec (look t_spec_l01Dec) L ir25_b0) ir25_k0 ir25_o0 ir25_r0 L (E_spec_l01Dec_l1 n sgm_) = R_spec_l01Dec_l1 n rho_ := by
  refine loop_ex (E := E_spec_l01Dec_l1 n) (R := R_spec_l01Dec_l1 n) (fun y => by first | (intro c; cases c) | (rcases y with y | y <;> (intro c; cases c)) | (rcases y with y | y | y <;> (intro c; cases c))) ?_ h
  clear h
  rintro ⟨out, k⟩ o_ h
  dsimp only [spec_l01Dec_l1] at h
  rcases it_some h with ⟨hk1, h⟩ | ⟨hk1, h⟩
  · try simp only [go_sem, n1, n2, n3, n4] at hk1
    all_goals
    obtain ⟨hk2, h⟩ := ck_some h
    try simp only [go_sem, n1, n2, n3, n4, hk1] at hk2
    all_goals
    rcases it_some h with ⟨hk3, h⟩ | ⟨hk3, h⟩
    · try simp only [go_sem, n1, n2, n3, n4, hk1, hk2] at hk3
      all_goals
      obtain ⟨hk4, h⟩ := ck_some h
      try simp only [go_sem, n1, n2, n3, n4, hk1, hk2, hk3] at hk4
      all_goals
      obtain rfl := so_some h
      refine ⟨0, fun L hL => ?_⟩
      simp only [go_sem, ir25, E_spec_l01Dec_l1, R_spec_l01Dec_l1, ir25_b0, ir25_k0, ir25_o0, ir25_r0, hk1, hk2, hk3, hk4]
    · try simp only [go_sem, n1, n2, n3, n4, hk1, hk2] at hk3
      all_goals
      obtain ⟨hk5, h⟩ := ck_some h
      try simp only [go_sem, n1, n2, n3, n4, hk1, hk2, hk3] at hk5
      all_goals
      obtain rfl := so_some h
      refine ⟨0, fun L hL => ?_⟩
      simp only [go_sem, ir25, E_spec_l01Dec_l1, R_spec_l01Dec_l1, ir25_b0, ir25_k0, ir25_o0, ir25_r0, hk1, hk2, hk3, hk5]
  · try simp only [go_sem, n1, n2, n3, n4] at hk1
    all_goals
    obtain rfl := so_some h
    refine ⟨0, fun L hL => ?_⟩
    simp only [go_sem, ir25, E_spec_l01Dec_l1, R_spec_l01Dec_l1, ir25_b0, ir25_k0, ir25_o0, ir25_r0, hk1]

theorem Fs_spec_l01Dec {n : Int} {y_ : (List UInt8)} (h : spec_l01Dec n = some y_) : c_spec_l01Dec.F [.int .i64 n] = ⟨true, .str y_, [.any]⟩ := by
  refine mkF_E rfl ?_
  dsimp only [spec_l01Dec] at h
  obtain ⟨y_6, hk6, h⟩ := bd_some h
  obtain ⟨Lhk6, ehk6⟩ := spec_l01Dec_l1_ex hk6
  rcases it_some h with ⟨hk7, h⟩ | ⟨hk7, h⟩
  · try simp only [go_sem, n1, n2, n3, n4] at hk7
    all_goals
    obtain rfl := so_some h
    refine ⟨Lhk6, fun L hL => ?_⟩
    have ehk6 := ehk6 L (by omega)
    try simp only [go_sem, E_spec_l01Dec_l1, R_spec_l01Dec_l1, ir25_k0, ir25_o0, ir25_r0, hk7] at ehk6
    simp only [go_sem, ir25, E_spec_l01Dec_l1, R_spec_l01Dec_l1, ir25_k0, ir25_o0, ir25_r0, hk7, ehk6]
  · try simp only [go_sem, n1, n2, n3, n4] at hk7
    all_goals
    rcases it_some h with ⟨hk8, h⟩ | ⟨hk8, h⟩
    · try simp only [go_sem, n1, n2, n3, n4, hk7] at hk8
      all_goals
      obtain ⟨hk9, h⟩ := ck_some h
      try simp only [go_sem, n1, n2, n3, n4, hk7, hk8] at hk9
      all_goals
      obtain rfl := so_some h
      refine ⟨Lhk6, fun L hL => ?_⟩
      have ehk6 := ehk6 L (by omega)
      try simp only [go_sem, E_spec_l01Dec_l1, R_spec_l01Dec_l1, ir25_k0, ir25_o0, ir25_r0, hk7, hk8, hk9] at ehk6
      simp only [go_sem, ir25, E_spec_l01Dec_l1, R_spec_l01Dec_l1, ir25_k0, ir25_o0, ir25_r0, hk7, hk8, hk9, ehk6]
    · try simp only [go_sem, n1, n2, n3, n4, hk7] at hk8
      all_goals
      obtain rfl := so_some h
      refine ⟨Lhk6, fun L hL => ?_⟩
      have ehk6 := ehk6 L (by omega)
      try simp only [go_sem, E_spec_l01Dec_l1, R_spec_l01Dec_l1, ir25_k0, ir25_o0, ir25_r0, hk7, hk8] at ehk6
      simp only [go_sem, ir25, E_spec_l01Dec_l1, R_spec_l01Dec_l1, ir25_k0, ir25_o0, ir25_r0, hk7, hk8, ehk6]


def ir20_v : List Nat := [0, 2]
def ir20 : AFn := ⟨1, 2, .seq (.region false [
    ⟨.var 1, 2, none, .mov (.c (.str []))⟩])
 (.seq (.anyo 18 [
    ⟨.slot 0, 3, none, .mov (.v 0)⟩,
    ⟨.slot 1, 4, none, .nilck (.s 0)⟩,
    ⟨.slot 2, 5, none, .fldAddr 0 (.s 1)⟩,
    ⟨.slot 3, 6, none, .load false 1 (.s 2)⟩,
    ⟨.slot 4, 7, none, .callp 25 [(.s 3)]⟩,
    ⟨.slot 5, 8, none, .bin false .add (.s 4) (.c (.str [32]))⟩,
    ⟨.slot 6, 9, none, .mov (.v 0)⟩,
    ⟨.slot 7, 10, none, .nilck (.s 6)⟩,
    ⟨.slot 8, 11, none, .fldAddr 1 (.s 7)⟩,
    ⟨.slot 9, 12, none, .load false 1 (.s 8)⟩,
    ⟨.slot 10, 13, none, .bin false .add (.s 5) (.s 9)⟩,
    ⟨.slot 11, 14, none, .bin false .add (.s 10) (.c (.str [32]))⟩,
    ⟨.slot 12, 15, none, .mov (.v 0)⟩,
    ⟨.slot 13, 16, none, .nilck (.s 12)⟩,
    ⟨.slot 14, 17, none, .fldAddr 2 (.s 13)⟩,
    ⟨.slot 15, 18, none, .load false 1 (.s 14)⟩,
    ⟨.slot 16, 19, none, .callp 25 [(.s 15)]⟩,
    ⟨.slot 17, 20, none, .bin false .add (.s 11) (.s 16)⟩,
    ⟨.var 1, 2, none, .mov (.s 17)⟩] [] .skip)
 (.ret)), [.t 1]⟩
noncomputable def t_spec_l27Words : List (Nat × Ctr) := [(25, c_spec_l01Dec)]
theorem lk_spec_l27Words_25 : look t_spec_l27Words 25 = some c_spec_l01Dec := rfl
noncomputable def c_spec_l27Words : Ctr := mkF t_spec_l27Words ir20 [.bor]
theorem s_spec_l27Words : Sound Tryd.prog 20 c_spec_l27Words := mkF_sound _ rfl (snd_cons s_spec_l01Dec snd_nil) (by kernel_rfl : chkFn Tryd.prog 20 ir20 ir20_v = true)
theorem M_spec_l27Words : c_spec_l27Words.modes = [.bor] := rfl
theorem Fl_spec_l27Words : c_spec_l27Words.flat = true := rfl
attribute [go_sem] M_spec_l27Words Fl_spec_l27Words
attribute [go_sem] lk_spec_l27Words_25
theorem Fs_spec_l27Words {e_ : Entry} {y_ : (List UInt8)} (h : spec_l27Words e_ = some y_) : c_spec_l27Words.F [.ptr 3 [Entry_av e_] 0 0] = ⟨true, .str y_, [.any]⟩ := by
  refine mkF_E rfl ?_
  dsimp only [spec_l27Words] at h
  obtain ⟨y_1, hk1, h⟩ := bd_some h
  have fhk1 := Fs_spec_l01Dec hk1
  try simp only [go_sem] at fhk1
  obtain ⟨hk2, h⟩ := ck_some h
  try simp only [go_sem, n1, n2, n3, n4] at hk2
  all_goals
  obtain ⟨hk3, h⟩ := ck_some h
  try simp only [go_sem, n1, n2, n3, n4, hk2] at hk3
  all_goals
  obtain ⟨hk4, h⟩ := ck_some h
  try simp only [go_sem, n1, n2, n3, n4, hk2, hk3] at hk4
  all_goals
  obtain ⟨y_5, hk5, h⟩ := bd_some h
  have fhk5 := Fs_spec_l01Dec hk5
  try simp only [go_sem, hk2, hk3, hk4] at fhk5
  obtain ⟨hk6, h⟩ := ck_some h
  try simp only [go_sem, n1, n2, n3, n4, hk2, hk3, hk4] at hk6
  all_goals
  obtain rfl := so_some h
  refine ⟨0, fun L hL => ?_⟩
  simp only [go_sem, ir20, fhk1, hk2, hk3, hk4, fhk5, hk6]


def ir19_b0 : IR := .seq (.test false [
    ⟨.push, 10, none, .mov (.v 4)⟩,
    ⟨.push, 11, none, .mov (.v 1)⟩,
    ⟨.push, 12, none, .len true (.s 0)⟩,
    ⟨.push, 13, none, .bin false .lss (.s 2) (.s 0)⟩] (.s 0)
  (.skip)
  (.exit 0))
 (.seq (.block 1 (.region false [
     ⟨.push, 16, none, .mov (.v 3)⟩,
     ⟨.push, 17, none, .bin false .mul (.c (.int .i64 (31))) (.s 0)⟩,
     ⟨.push, 18, none, .mov (.v 1)⟩,
     ⟨.push, 19, none, .mov (.v 4)⟩,
     ⟨.push, 20, none, .ixStr (.s 1) (.s 0)⟩,
     ⟨.push, 21, none, .conv .i64 (.s 0)⟩,
     ⟨.push, 22, none, .bin false .add (.s 4) (.s 0)⟩,
     ⟨.push, 23, none, .bin false .rem (.s 0) (.c (.int .i64 (65521)))⟩,
     ⟨.var 3, 5, none, .mov (.s 0)⟩]))
 (.region false [
   ⟨.push, 14, none, .mov (.v 4)⟩,
   ⟨.push, 15, none, .bin false .add (.s 0) (.c (.int .i64 (1)))⟩,
   ⟨.var 4, 6, none, .mov (.s 0)⟩]))
def ir19_k0 : List Bool := [false, true, false, true, true]
def ir19_o0 : List Bool := [false, false, false, true, false]
def ir19_r0 : List Bool := [false, false, true, false, false]
def ir19_v : List Nat := [0, 1, 4, 5, 6]
def ir19 : AFn := ⟨2, 5, .seq (.region false [
    ⟨.var 2, 4, none, .mov (.c (.int .i64 (0)))⟩])
 (.seq (.region false [
    ⟨.push, 7, none, .mov (.v 0)⟩,
    ⟨.push, 8, none, .bin false .add (.s 0) (.c (.int .i64 (23)))⟩,
    ⟨.push, 9, none, .bin false .rem (.s 0) (.c (.int .i64 (65521)))⟩,
    ⟨.var 3, 5, none, .mov (.s 0)⟩])
 (.seq (.seq (.region false [
     ⟨.var 4, 6, none, .mov (.c (.int .i64 (0)))⟩])
  (.block 0 (.loop ir19_k0 ir19_o0 ir19_r0 ir19_b0)))
 (.seq (.region false [
    ⟨.push, 24, none, .mov (.v 3)⟩,
    ⟨.var 2, 4, none, .mov (.s 0)⟩])
 (.ret)))), [.t 2]⟩
noncomputable def t_spec_l27Stamp : List (Nat × Ctr) := []
noncomputable def c_spec_l27Stamp : Ctr := mkF t_spec_l27Stamp ir19 [.bor, .bor]
theorem s_spec_l27Stamp : Sound Tryd.prog 19 c_spec_l27Stamp := mkF_sound _ rfl snd_nil (by kernel_rfl : chkFn Tryd.prog 19 ir19 ir19_v = true)
theorem M_spec_l27Stamp : c_spec_l27Stamp.modes = [.bor, .bor] := rfl
theorem Fl_spec_l27Stamp : c_spec_l27Stamp.flat = true := rfl
attribute [go_sem] M_spec_l27Stamp Fl_spec_l27Stamp
def E_spec_l27Stamp_l1 (words : List UInt8) : (Int × Int) → St
  | (sum, i) => ⟨[.any, .str words, .any, .int .i64 sum, .int .i64 i], [], [], true⟩
def R_spec_l27Stamp_l1 (words : List UInt8) (y : Int) : Res := (.exit 0, ⟨[.any, .any, .any, .int .i64 y, .any], [], [], true⟩)
theorem spec_l27Stamp_l1_ex {words : List UInt8} {sgm_ : Int × Int} {rho_ : Int} (h : whileE (spec_l27Stamp_l1 words) sgm_ = some rho_) : ∃ L0, ∀ L, L0 ≤ L → iter (exec (look t_spec_l27Stamp) L ir19_b0) ir19_k0 ir19_o0 ir19_r0 L (E_spec_l27Stamp_l1 words sgm_) = R_spec_l27Stamp_l1 words rho_ := by
  refine loop_ex (E := E_spec_l27Stamp_l1 words) (R := R_spec_l27Stamp_l1 words) (fun y => by first | (intro c; cases c) | (rcases y with y | y <;> (intro c; cases c)) | (rcases y with y | y | y <;> (intro c; cases c))) ?_ h
  clear h
  rintro ⟨sum, i⟩ o_ h
  dsimp only [spec_l27Stamp_l1] at h
  rcases it_some h with ⟨hk2, h⟩ | ⟨hk2, h⟩
  · try simp only [go_sem, n1, n2, n3, n4] at hk2
    all_goals
    obtain ⟨hk3, h⟩ := ck_some h
    try simp only [go_sem, n1, n2, n3, n4, hk2] at hk3
    all_goals
    obtain ⟨hk4, h⟩ := ck_some h
    try simp only [go_sem, n1, n2, n3, n4, hk2, hk3] at hk4
    all_goals
    obtain rfl := so_some h
    refine ⟨0, fun L hL => ?_⟩
    simp only [go_sem, ir19, E_spec_l27Stamp_l1, R_spec_l27Stamp_l1, ir19_b0, ir19_k0, ir19_o0, ir19_r0, hk2, hk3, hk4]
  · try simp only [go_sem, n1, n2, n3, n4] at hk2
    all_goals
    obtain rfl := so_some h
    refine ⟨0, fun L hL => ?_⟩
    simp only [go_sem, ir19, E_spec_l27Stamp_l1, R_spec_l27Stamp_l1, ir19_b0, ir19_k0, ir19_o0, ir19_r0, hk2]

theorem Fs_spec_l27Stamp {before : Int} {words : List UInt8} {y_ : Int} (h : spec_l27Stamp before words = some y_) : c_spec_l27Stamp.F [.int .i64 before, .str words] = ⟨true, .int .i64 y_, [.any, .any]⟩ := by
  refine mkF_E rfl ?_
  dsimp only [spec_l27Stamp] at h
  obtain ⟨hk1, h⟩ := ck_some h
  try simp only [go_sem, n1, n2, n3, n4] at hk1
  all_goals
  obtain ⟨y_5, hk5, h⟩ := bd_some h
  obtain ⟨Lhk5, ehk5⟩ := spec_l27Stamp_l1_ex hk5
  obtain rfl := so_some h
  refine ⟨Lhk5, fun L hL => ?_⟩
  have ehk5 := ehk5 L (by omega)
  try simp only [go_sem, E_spec_l27Stamp_l1, R_spec_l27Stamp_l1, ir19_k0, ir19_o0, ir19_r0, hk1] at ehk5
  simp only [go_sem, ir19, E_spec_l27Stamp_l1, R_spec_l27Stamp_l1, ir19_k0, ir19_o0, ir19_r0, hk1, ehk5]


def ir9_v : List Nat := [0, 1, 3, 4, 5]
def ir9 : AFn := ⟨2, 5, .seq (.region false [
    ⟨.var 2, 3, none, .box (.v 1)⟩,
    ⟨.var 3, 4, none, .mov (.c (.int .i64 (0)))⟩,
    ⟨.var 4, 5, none, .mov (.c (.int .i64 (0)))⟩])
 (.seq (.test false [
    ⟨.push, 6, none, .call 17 [(.v 2)]⟩,
    ⟨.push, 7, none, .un .not (.s 0)⟩] (.s 0)
  (.seq (.region false [
      ⟨.var 3, 4, none, .mov (.c (.int .i64 (0)))⟩,
      ⟨.var 4, 5, none, .mov (.c (.int .i64 (1)))⟩])
   (.ret))
  (.skip))
 (.seq (.test false [
    ⟨.push, 8, none, .mov (.v 0)⟩,
    ⟨.push, 9, none, .call 18 [(.s 0), (.c (.int .i64 (0))), (.c (.int .i64 (65520)))]⟩,
    ⟨.push, 10, none, .un .not (.s 0)⟩] (.s 0)
  (.seq (.region false [
      ⟨.var 3, 4, none, .mov (.c (.int .i64 (0)))⟩,
      ⟨.var 4, 5, none, .mov (.c (.int .i64 (2)))⟩])
   (.ret))
  (.skip))
 (.seq (.region false [
    ⟨.push, 11, none, .mov (.v 0)⟩,
    ⟨.push, 12, none, .call 20 [(.v 2)]⟩,
    ⟨.push, 13, none, .call 19 [(.s 1), (.s 0)]⟩,
    ⟨.var 3, 4, none, .mov (.s 0)⟩,
    ⟨.var 4, 5, none, .mov (.c (.int .i64 (0)))⟩])
 (.ret)))), [.t 3, .t 4]⟩
noncomputable def t_spec_StampOf : List (Nat × Ctr) := [(17, c_spec_l27Ok), (18, c_spec_l00In), (20, c_spec_l27Words), (19, c_spec_l27Stamp)]
theorem lk_spec_StampOf_17 : look t_spec_StampOf 17 = some c_spec_l27Ok := rfl
theorem lk_spec_StampOf_18 : look t_spec_StampOf 18 = some c_spec_l00In := rfl
theorem lk_spec_StampOf_20 : look t_spec_StampOf 20 = some c_spec_l27Words := rfl
theorem lk_spec_StampOf_19 : look t_spec_StampOf 19 = some c_spec_l27Stamp := rfl
noncomputable def c_spec_StampOf : Ctr := mkF t_spec_StampOf ir9 [.bor, .bor]
theorem s_spec_StampOf : Sound Tryd.prog 9 c_spec_StampOf := mkF_sound _ rfl (snd_cons s_spec_l27Ok (snd_cons s_spec_l00In (snd_cons s_spec_l27Words (snd_cons s_spec_l27Stamp snd_nil)))) (by kernel_rfl : chkFn Tryd.prog 9 ir9 ir9_v = true)
theorem M_spec_StampOf : c_spec_StampOf.modes = [.bor, .bor] := rfl
theorem Fl_spec_StampOf : c_spec_StampOf.flat = true := rfl
attribute [go_sem] M_spec_StampOf Fl_spec_StampOf
attribute [go_sem] lk_spec_StampOf_17 lk_spec_StampOf_18 lk_spec_StampOf_20 lk_spec_StampOf_19
theorem Fs_spec_StampOf {before : Int} {e_ : Entry} {y_ : Int × Int} (h : spec_StampOf before e_ = some y_) : c_spec_StampOf.F [.int .i64 before, Entry_av e_] = ⟨true, .tup [.int .i64 y_.1, .int .i64 y_.2], [.any, .any]⟩ := by
  refine mkF_E rfl ?_
  dsimp only [spec_StampOf] at h
  obtain ⟨y_1, hk1, h⟩ := bd_some h
  have fhk1 := Fs_spec_l27Ok hk1
  try simp only [go_sem] at fhk1
  rcases it_some h with ⟨hk2, h⟩ | ⟨hk2, h⟩
  · try simp only [go_sem, n1, n2, n3, n4] at hk2
    all_goals
    obtain rfl := so_some h
    refine ⟨0, fun L hL => ?_⟩
    simp only [go_sem, ir9, fhk1, hk2]
  · try simp only [go_sem, n1, n2, n3, n4] at hk2
    all_goals
    obtain ⟨y_3, hk3, h⟩ := bd_some h
    have fhk3 := Fs_spec_l00In hk3
    try simp only [go_sem, hk2] at fhk3
    rcases it_some h with ⟨hk4, h⟩ | ⟨hk4, h⟩
    · try simp only [go_sem, n1, n2, n3, n4, hk2] at hk4
      all_goals
      obtain rfl := so_some h
      refine ⟨0, fun L hL => ?_⟩
      simp only [go_sem, ir9, fhk1, hk2, fhk3, hk4]
    · try simp only [go_sem, n1, n2, n3, n4, hk2] at hk4
      all_goals
      obtain ⟨y_5, hk5, h⟩ := bd_some h
      have fhk5 := Fs_spec_l27Words hk5
      try simp only [go_sem, hk2, hk4] at fhk5
      obtain ⟨y_6, hk6, h⟩ := bd_some h
      have fhk6 := Fs_spec_l27Stamp hk6
      try simp only [go_sem, hk2, hk4] at fhk6
      obtain rfl := so_some h
      refine ⟨0, fun L hL => ?_⟩
      simp only [go_sem, ir9, fhk1, hk2, fhk3, hk4, fhk5, fhk6]


def ir22_v : List Nat := [0, 1, 2, 6]
def ir22 : AFn := ⟨3, 4, .seq (.region false [
    ⟨.var 3, 6, none, .mov (.c (.bool false))⟩])
 (.seq (.region false [
    ⟨.push, 7, none, .mov (.v 0)⟩,
    ⟨.push, 8, none, .mov (.v 1)⟩,
    ⟨.push, 9, none, .bin false .geq (.s 1) (.s 0)⟩,
    ⟨.push, 10, none, .mov (.s 0)⟩,
    ⟨.push, 11, (some ((.s 0), true)), .mov (.v 0)⟩,
    ⟨.push, 12, (some ((.s 1), true)), .mov (.v 2)⟩,
    ⟨.push, 13, (some ((.s 2), true)), .bin false .leq (.s 1) (.s 0)⟩,
    ⟨.push, 14, none, .pick (.s 3) (.s 0) (.c (.bool false))⟩,
    ⟨.var 3, 6, none, .mov (.s 0)⟩])
 (.ret)), [.t 3]⟩
noncomputable def t_impl_in : List (Nat × Ctr) := []
noncomputable def c_impl_in : Ctr := mkF t_impl_in ir22 [.bor, .bor, .bor]
theorem s_impl_in : Sound Tryd.prog 22 c_impl_in := mkF_sound _ rfl snd_nil (by kernel_rfl : chkFn Tryd.prog 22 ir22 ir22_v = true)
theorem M_impl_in : c_impl_in.modes = [.bor, .bor, .bor] := rfl
theorem Fl_impl_in : c_impl_in.flat = true := rfl
attribute [go_sem] M_impl_in Fl_impl_in
theorem Fs_impl_in {n : Int} {low : Int} {high : Int} {y_ : Bool} (h : impl_in n low high = some y_) : c_impl_in.F [.int .i64 n, .int .i64 low, .int .i64 high] = ⟨true, .bool y_, [.any, .any, .any]⟩ := by
  refine mkF_E rfl ?_
  dsimp only [impl_in] at h
  obtain rfl := so_some h
  refine ⟨0, fun L hL => ?_⟩
  simp only [go_sem, ir22]


def ir31_b0 : IR := .seq (.region false [
    ⟨.var 7, 17, none, .bin false .lss (.v 6) (.v 5)⟩])
 (.seq (.cond (.v 7) (.skip)
  (.exit 0))
 (.seq (.block 1 (.seq (.region false [
      ⟨.push, 18, none, .mov (.v 6)⟩,
      ⟨.var 2, 3, none, .mov (.s 0)⟩])
   (.seq (.region false [
      ⟨.push, 19, none, .mov (.v 0)⟩,
      ⟨.push, 20, none, .mov (.v 2)⟩,
      ⟨.push, 21, none, .ixStr (.s 1) (.s 0)⟩,
      ⟨.push, 22, none, .bin false .geq (.s 0) (.c (.int .u8 (97)))⟩,
      ⟨.push, 23, none, .mov (.s 0)⟩,
      ⟨.push, 24, (some ((.s 0), true)), .mov (.v 0)⟩,
      ⟨.push, 25, (some ((.s 1), true)), .mov (.v 2)⟩,
      ⟨.push, 26, (some ((.s 2), true)), .ixStr (.s 1) (.s 0)⟩,
      ⟨.push, 27, (some ((.s 3), true)), .bin false .leq (.s 0) (.c (.int .u8 (122)))⟩,
      ⟨.push, 28, none, .pick (.s 4) (.s 0) (.c (.bool false))⟩,
      ⟨.var 3, 4, none, .mov (.s 0)⟩])
   (.seq (.region false [
      ⟨.push, 29, none, .mov (.v 0)⟩,
      ⟨.push, 30, none, .mov (.v 2)⟩,
      ⟨.push, 31, none, .ixStr (.s 1) (.s 0)⟩,
      ⟨.push, 32, none, .bin false .geq (.s 0) (.c (.int .u8 (48)))⟩,
      ⟨.push, 33, none, .mov (.s 0)⟩,
      ⟨.push, 34, (some ((.s 0), true)), .mov (.v 0)⟩,
      ⟨.push, 35, (some ((.s 1), true)), .mov (.v 2)⟩,
      ⟨.push, 36, (some ((.s 2), true)), .ixStr (.s 1) (.s 0)⟩,
      ⟨.push, 37, (some ((.s 3), true)), .bin false .leq (.s 0) (.c (.int .u8 (57)))⟩,
      ⟨.push, 38, none, .pick (.s 4) (.s 0) (.c (.bool false))⟩,
      ⟨.push, 39, none, .mov (.s 0)⟩,
      ⟨.push, 40, (some ((.s 0), false)), .mov (.v 0)⟩,
      ⟨.push, 41, (some ((.s 1), false)), .mov (.v 2)⟩,
      ⟨.push, 42, (some ((.s 2), false)), .ixStr (.s 1) (.s 0)⟩,
      ⟨.push, 43, (some ((.s 3), false)), .bin false .eql (.s 0) (.c (.int .u8 (45)))⟩,
      ⟨.push, 44, none, .pick (.s 4) (.c (.bool true)) (.s 0)⟩,
      ⟨.var 4, 5, none, .mov (.s 0)⟩])
   (.test false [
     ⟨.push, 45, none, .mov (.v 3)⟩,
     ⟨.push, 46, none, .un .not (.s 0)⟩,
     ⟨.push, 47, none, .mov (.s 0)⟩,
     ⟨.push, 48, (some ((.s 0), true)), .mov (.v 2)⟩,
     ⟨.push, 49, (some ((.s 1), true)), .bin false .eql (.s 0) (.c (.int .i64 (0)))⟩,
     ⟨.push, 50, (some ((.s 2), true)), .mov (.s 0)⟩,
     ⟨.push, 51, (some ((.s 0), false)), .mov (.v 4)⟩,
     ⟨.push, 52, (some ((.s 1), false)), .un .not (.s 0)⟩,
     ⟨.push, 53, (some ((.s 5), true)), .pick (.s 2) (.c (.bool true)) (.s 0)⟩,
     ⟨.push, 54, none, .pick (.s 6) (.s 0) (.c (.bool false))⟩] (.s 0)
   (.seq (.region false [
       ⟨.var 1, 2, none, .mov (.c (.bool false))⟩])
    (.ret))
   (.skip))))))
 (.region false [
   ⟨.push, 55, none, .bin false .add (.v 6) (.c (.int .i64 (1)))⟩,
   ⟨.var 6, 16, none, .mov (.s 0)⟩])))
def ir31_k0 : List Bool := [true, false, false, false, false, true, true, false]
def ir31_o0 : List Bool := [false, false, false, false, false, false, false, false]
def ir31_r0 : List Bool := [false, true, false, false, false, false, false, false]
def ir31_v : List Nat := [0, 2, 3, 4, 5, 15, 16, 17]
def ir31 : AFn := ⟨1, 8, .seq (.region false [
    ⟨.var 1, 2, none, .mov (.c (.bool false))⟩])
 (.seq (.test false [
    ⟨.push, 6, none, .mov (.v 0)⟩,
    ⟨.push, 7, none, .len true (.s 0)⟩,
    ⟨.push, 8, none, .bin false .lss (.s 0) (.c (.int .i64 (1)))⟩,
    ⟨.push, 9, none, .mov (.s 0)⟩,
    ⟨.push, 10, (some ((.s 0), false)), .mov (.v 0)⟩,
    ⟨.push, 11, (some ((.s 1), false)), .len true (.s 0)⟩,
    ⟨.push, 12, (some ((.s 2), false)), .bin false .gtr (.s 0) (.c (.int .i64 (12)))⟩,
    ⟨.push, 13, none, .pick (.s 3) (.c (.bool true)) (.s 0)⟩] (.s 0)
  (.seq (.region false [
      ⟨.var 1, 2, none, .mov (.c (.bool false))⟩])
   (.ret))
  (.skip))
 (.seq (.seq (.region false [
     ⟨.push, 14, none, .mov (.v 0)⟩,
     ⟨.var 5, 15, none, .len true (.s 0)⟩,
     ⟨.var 6, 16, none, .mov (.c (.int .i64 (0)))⟩])
  (.block 0 (.loop ir31_k0 ir31_o0 ir31_r0 ir31_b0)))
 (.seq (.region false [
    ⟨.var 1, 2, none, .mov (.c (.bool true))⟩])
 (.ret)))), [.t 1]⟩
noncomputable def t_impl_IsName : List (Nat × Ctr) := []
noncomputable def c_impl_IsName : Ctr := mkF t_impl_IsName ir31 [.bor]
theorem s_impl_IsName : Sound Tryd.prog 31 c_impl_IsName := mkF_sound _ rfl snd_nil (by kernel_rfl : chkFn Tryd.prog 31 ir31 ir31_v = true)
theorem M_impl_IsName : c_impl_IsName.modes = [.bor] := rfl
theorem Fl_impl_IsName : c_impl_IsName.flat = true := rfl
attribute [go_sem] M_impl_IsName Fl_impl_IsName
def E_impl_IsName_l1 (s_ : List UInt8) (t15 : Int) : Int → St
  | t16 => ⟨[.str s_, .any, .any, .any, .any, .int .i64 t15, .int .i64 t16, .any], [], [], true⟩
def R_impl_IsName_l1 (s_ : List UInt8) (t15 : Int) : (Unit ⊕ Bool) → Res
  | .inl y => (.exit 0, ⟨[.any, .any, .any, .any, .any, .any, .any, .any], [], [], true⟩)
  | .inr y => (.ret, ⟨[.any, .bool y, .any, .any, .any, .any, .any, .any], [], [], true⟩)
theorem impl_IsName_l1_ex {s_ : List UInt8} {t15 : Int} {sgm_ : Int} {rho_ : Unit ⊕ Bool} (h : whileE (impl_IsName_l1 s_ t15) sgm_ = some rho_) : ∃ L0, ∀ L, L0 ≤ L → iter (exec (look t_impl_IsName) L ir31_b0) ir31_k0 ir31_o0 ir31_r0 L (E_impl_IsName_l1 s_ t15 sgm_) = R_impl_IsName_l1 s_ t15 rho_ := by
  refine loop_ex (E := E_impl_IsName_l1 s_ t15) (R := R_impl_IsName_l1 s_ t15) (fun y => by first | (intro c; cases c) | (rcases y with y | y <;> (intro c; cases c)) | (rcases y with y | y | y <;> (intro c; cases c))) ?_ h
  clear h
  intro t16 o_ h
  dsimp only [impl_IsName_l1] at h
  rcases it_some h with ⟨hk2, h⟩ | ⟨hk2, h⟩
  · try simp only [go_sem, n1, n2, n3, n4] at hk2
    all_goals
    obtain ⟨hk3, h⟩ := ck_some h
    try simp only [go_sem, n1, n2, n3, n4, hk2] at hk3
    all_goals
    rcases it_some h with ⟨hk4, h⟩ | ⟨hk4, h⟩
    · try simp only [go_sem, n1, n2, n3, n4, hk2, hk3] at hk4
      all_goals
      obtain rfl := so_some h
      refine ⟨0, fun L hL => ?_⟩
      simp only [go_sem, ir31, E_impl_IsName_l1, R_impl_IsName_l1, ir31_b0, ir31_k0, ir31_o0, ir31_r0, hk2, hk3, hk4]
    · try simp only [go_sem, n1, n2, n3, n4, hk2, hk3] at hk4
      all_goals
      obtain rfl := so_some h
      refine ⟨0, fun L hL => ?_⟩
      simp only [go_sem, ir31, E_impl_IsName_l1, R_impl_IsName_l1, ir31_b0, ir31_k0, ir31_o0, ir31_r0, hk2, hk3, hk4]
  · try simp only [go_sem, n1, n2, n3, n4] at hk2
    all_goals
    obtain rfl := so_some h
    refine ⟨0, fun L hL => ?_⟩
    simp only [go_sem, ir31, E_impl_IsName_l1, R_impl_IsName_l1, ir31_b0, ir31_k0, ir31_o0, ir31_r0, hk2]

theorem Fs_impl_IsName {s_ : List UInt8} {y_ : Bool} (h : impl_IsName s_ = some y_) : c_impl_IsName.F [.str s_] = ⟨true, .bool y_, [.any]⟩ := by
  refine mkF_E rfl ?_
  dsimp only [impl_IsName] at h
  rcases it_some h with ⟨hk1, h⟩ | ⟨hk1, h⟩
  · try simp only [go_sem, n1, n2, n3, n4] at hk1
    all_goals
    obtain rfl := so_some h
    refine ⟨0, fun L hL => ?_⟩
    simp only [go_sem, ir31, E_impl_IsName_l1, R_impl_IsName_l1, ir31_k0, ir31_o0, ir31_r0, hk1]
  · try simp only [go_sem, n1, n2, n3, n4] at hk1
    all_goals
    obtain ⟨y_5, hk5, h⟩ := bd_some h
    obtain ⟨Lhk5, ehk5⟩ := impl_IsName_l1_ex hk5
    rcases y_5 with y_5a | y_5b
    · dsimp only at h
      obtain rfl := so_some h
      refine ⟨Lhk5, fun L hL => ?_⟩
      have ehk5 := ehk5 L (by omega)
      try simp only [go_sem, E_impl_IsName_l1, R_impl_IsName_l1, ir31_k0, ir31_o0, ir31_r0, hk1] at ehk5
      simp only [go_sem, ir31, E_impl_IsName_l1, R_impl_IsName_l1, ir31_k0, ir31_o0, ir31_r0, hk1, ehk5]
    · dsimp only at h
      obtain rfl := so_some h
      refine ⟨Lhk5, fun L hL => ?_⟩
      have ehk5 := ehk5 L (by omega)
      try simp only [go_sem, E_impl_IsName_l1, R_impl_IsName_l1, ir31_k0, ir31_o0, ir31_r0, hk1] at ehk5
      simp only [go_sem, ir31, E_impl_IsName_l1, R_impl_IsName_l1, ir31_k0, ir31_o0, ir31_r0, hk1, ehk5]


def ir21_v : List Nat := [0, 1, 2]
def ir21 : AFn := ⟨1, 3, .seq (.region false [
    ⟨.var 1, 1, none, .box (.v 0)⟩,
    ⟨.var 2, 2, none, .mov (.c (.bool false))⟩])
 (.seq (.region false [
    ⟨.push, 3, none, .fldAddr 0 (.v 1)⟩,
    ⟨.push, 4, none, .load false 1 (.s 0)⟩,
    ⟨.push, 5, none, .call 22 [(.s 0), (.c (.int .i64 (0))), (.c (.int .i64 (100000)))]⟩,
    ⟨.push, 6, none, .mov (.s 0)⟩,
    ⟨.push, 7, (some ((.s 0), true)), .fldAddr 1 (.v 1)⟩,
    ⟨.push, 8, (some ((.s 1), true)), .load false 1 (.s 0)⟩,
    ⟨.push, 9, (some ((.s 2), true)), .call 31 [(.s 0)]⟩,
    ⟨.push, 10, none, .pick (.s 3) (.s 0) (.c (.bool false))⟩,
    ⟨.push, 11, none, .mov (.s 0)⟩,
    ⟨.push, 12, (some ((.s 0), true)), .fldAddr 2 (.v 1)⟩,
    ⟨.push, 13, (some ((.s 1), true)), .load false 1 (.s 0)⟩,
    ⟨.push, 14, (some ((.s 2), true)), .call 22 [(.s 0), (.c (.int .i64 (-1000000))), (.c (.int .i64 (1000000)))]⟩,
    ⟨.push, 15, none, .pick (.s 3) (.s 0) (.c (.bool false))⟩,
    ⟨.var 2, 2, none, .mov (.s 0)⟩])
 (.ret)), [.t 2]⟩
noncomputable def t_impl_ValidEntry : List (Nat × Ctr) := [(22, c_impl_in), (31, c_impl_IsName)]
theorem lk_impl_ValidEntry_22 : look t_impl_ValidEntry 22 = some c_impl_in := rfl
theorem lk_impl_ValidEntry_31 : look t_impl_ValidEntry 31 = some c_impl_IsName := rfl
noncomputable def c_impl_ValidEntry : Ctr := mkF t_impl_ValidEntry ir21 [.bor]
theorem s_impl_ValidEntry : Sound Tryd.prog 21 c_impl_ValidEntry := mkF_sound _ rfl (snd_cons s_impl_in (snd_cons s_impl_IsName snd_nil)) (by kernel_rfl : chkFn Tryd.prog 21 ir21 ir21_v = true)
theorem M_impl_ValidEntry : c_impl_ValidEntry.modes = [.bor] := rfl
theorem Fl_impl_ValidEntry : c_impl_ValidEntry.flat = true := rfl
attribute [go_sem] M_impl_ValidEntry Fl_impl_ValidEntry
attribute [go_sem] lk_impl_ValidEntry_22 lk_impl_ValidEntry_31
theorem Fs_impl_ValidEntry {e_ : Entry} {y_ : Bool} (h : impl_ValidEntry e_ = some y_) : c_impl_ValidEntry.F [Entry_av e_] = ⟨true, .bool y_, [.any]⟩ := by
  refine mkF_E rfl ?_
  dsimp only [impl_ValidEntry] at h
  obtain ⟨y_1, hk1, h⟩ := bd_some h
  have fhk1 := Fs_impl_in hk1
  try simp only [go_sem] at fhk1
  obtain ⟨hk2, h⟩ := ck_some h
  rcases or_split hk2 with ⟨ghk2, hk2⟩ | ghk2
  · try simp only [go_sem, n1, n2, n3, n4] at ghk2
    all_goals
    obtain ⟨y_2, hhk2⟩ := Option.isSome_iff_exists.1 hk2
    have fhk2 := Fs_impl_IsName hhk2
    try simp only [go_sem, ghk2] at fhk2
    obtain ⟨hk3, h⟩ := ck_some h
    rcases or_split hk3 with ⟨ghk3, hk3⟩ | ghk3
    · try simp only [go_sem, n1, n2, n3, n4, ghk2, hhk2] at ghk3
      all_goals
      obtain ⟨y_3, hhk3⟩ := Option.isSome_iff_exists.1 hk3
      have fhk3 := Fs_impl_in hhk3
      try simp only [go_sem, ghk2, hhk2, ghk3] at fhk3
      obtain rfl := so_some h
      refine ⟨0, fun L hL => ?_⟩
      simp only [go_sem, ir21, fhk1, ghk2, hhk2, fhk2, ghk3, hhk3, fhk3]
    · rcases and_f ghk3 with ghk3a | ⟨ghk3a, ghk3b⟩
      · try simp only [go_sem, n1, n2, n3, n4, ghk2, hhk2] at ghk3a
        all_goals
        obtain rfl := so_some h
        refine ⟨0, fun L hL => ?_⟩
        simp only [go_sem, ir21, fhk1, ghk2, hhk2, fhk2, ghk3a]
      · try simp only [go_sem, n1, n2, n3, n4, ghk2, hhk2] at ghk3a
        all_goals
        try simp only [go_sem, n1, n2, n3, n4, ghk2, hhk2, ghk3a] at ghk3b
        all_goals
        obtain rfl := so_some h
        refine ⟨0, fun L hL => ?_⟩
        simp only [go_sem, ir21, fhk1, ghk2, hhk2, fhk2, ghk3a, ghk3b]
  · try simp only [go_sem, n1, n2, n3, n4] at ghk2
    all_goals
    obtain ⟨hk3, h⟩ := ck_some h
    rcases or_split hk3 with ⟨ghk3, hk3⟩ | ghk3
    · try simp only [go_sem, n1, n2, n3, n4, ghk2] at ghk3
      all_goals
      obtain ⟨y_3, hhk3⟩ := Option.isSome_iff_exists.1 hk3
      have fhk3 := Fs_impl_in hhk3
      try simp only [go_sem, ghk2, ghk3] at fhk3
      obtain rfl := so_some h
      refine ⟨0, fun L hL => ?_⟩
      simp only [go_sem, ir21, fhk1, ghk2, ghk3, hhk3, fhk3]
    · rcases and_f ghk3 with ghk3a | ⟨ghk3a, ghk3b⟩
      · try simp only [go_sem, n1, n2, n3, n4, ghk2] at ghk3a
        all_goals
        obtain rfl := so_some h
        refine ⟨0, fun L hL => ?_⟩
        simp only [go_sem, ir21, fhk1, ghk2, ghk3a]
      · try simp only [go_sem, n1, n2, n3, n4, ghk2] at ghk3a
        all_goals
        try simp only [go_sem, n1, n2, n3, n4, ghk2, ghk3a] at ghk3b
        all_goals
        obtain rfl := so_some h
        refine ⟨0, fun L hL => ?_⟩
        simp only [go_sem, ir21, fhk1, ghk2, ghk3a, ghk3b]


theorem s_hFmt : Sound Tryd.prog 33 c_hFmt := hFmt_is

def ir27_v : List Nat := [0, 1, 4]
def ir27 : AFn := ⟨2, 3, .seq (.region false [
    ⟨.var 2, 4, none, .mov (.c (.str []))⟩])
 (.seq (.region false [
    ⟨.push, 5, none, .mov (.v 0)⟩,
    ⟨.push, 6, none, .mov (.v 1)⟩,
    ⟨.push, 7, none, .call 33 [(.s 1), (.s 0)]⟩,
    ⟨.var 2, 4, none, .mov (.s 0)⟩])
 (.ret)), [.t 2]⟩
noncomputable def t_strconv_FormatInt : List (Nat × Ctr) := [(33, c_hFmt)]
theorem lk_strconv_FormatInt_33 : look t_strconv_FormatInt 33 = some c_hFmt := rfl
noncomputable def c_strconv_FormatInt : Ctr := mkF t_strconv_FormatInt ir27 [.bor, .bor]
theorem s_strconv_FormatInt : Sound Tryd.prog 27 c_strconv_FormatInt := mkF_sound _ rfl (snd_cons s_hFmt snd_nil) (by kernel_rfl : chkFn Tryd.prog 27 ir27 ir27_v = true)
theorem M_strconv_FormatInt : c_strconv_FormatInt.modes = [.bor, .bor] := rfl
theorem Fl_strconv_FormatInt : c_strconv_FormatInt.flat = true := rfl
attribute [go_sem] M_strconv_FormatInt Fl_strconv_FormatInt
attribute [go_sem] lk_strconv_FormatInt_33
theorem Fs_strconv_FormatInt {i : Int} {base : Int} {y_ : (List UInt8)} (h : strconv_FormatInt i base = some y_) : c_strconv_FormatInt.F [.int .i64 i, .int .i64 base] = ⟨true, .str y_, [.any, .any]⟩ := by
  refine mkF_E rfl ?_
  dsimp only [strconv_FormatInt] at h
  obtain ⟨y_1, hk1, h⟩ := bd_some h
  have fhk1 := Fs_hFmt hk1
  try simp only [go_sem] at fhk1
  obtain rfl := so_some h
  refine ⟨0, fun L hL => ?_⟩
  simp only [go_sem, ir27, fhk1]


def ir15_v : List Nat := [0, 2]
def ir15 : AFn := ⟨1, 2, .seq (.region false [
    ⟨.var 1, 2, none, .mov (.c (.str []))⟩])
 (.seq (.region false [
    ⟨.push, 3, none, .mov (.v 0)⟩,
    ⟨.push, 4, none, .call 27 [(.s 0), (.c (.int .i64 (10)))]⟩,
    ⟨.var 1, 2, none, .mov (.s 0)⟩])
 (.ret)), [.t 1]⟩
noncomputable def t_impl_Decimal : List (Nat × Ctr) := [(27, c_strconv_FormatInt)]
theorem lk_impl_Decimal_27 : look t_impl_Decimal 27 = some c_strconv_FormatInt := rfl
noncomputable def c_impl_Decimal : Ctr := mkF t_impl_Decimal ir15 [.bor]
theorem s_impl_Decimal : Sound Tryd.prog 15 c_impl_Decimal := mkF_sound _ rfl (snd_cons s_strconv_FormatInt snd_nil) (by kernel_rfl : chkFn Tryd.prog 15 ir15 ir15_v = true)
theorem M_impl_Decimal : c_impl_Decimal.modes = [.bor] := rfl
theorem Fl_impl_Decimal : c_impl_Decimal.flat = true := rfl
attribute [go_sem] M_impl_Decimal Fl_impl_Decimal
attribute [go_sem] lk_impl_Decimal_27
theorem Fs_impl_Decimal {n : Int} {y_ : (List UInt8)} (h : impl_Decimal n = some y_) : c_impl_Decimal.F [.int .i64 n] = ⟨true, .str y_, [.any]⟩ := by
  refine mkF_E rfl ?_
  dsimp only [impl_Decimal] at h
  obtain ⟨y_1, hk1, h⟩ := bd_some h
  have fhk1 := Fs_strconv_FormatInt hk1
  try simp only [go_sem] at fhk1
  obtain rfl := so_some h
  refine ⟨0, fun L hL => ?_⟩
  simp only [go_sem, ir15, fhk1]


def ir32_v : List Nat := [0, 1, 2]
def ir32 : AFn := ⟨1, 3, .seq (.region false [
    ⟨.var 1, 1, none, .box (.v 0)⟩,
    ⟨.var 2, 2, none, .mov (.c (.str []))⟩])
 (.seq (.anyo 12 [
    ⟨.slot 0, 3, none, .fldAddr 0 (.v 1)⟩,
    ⟨.slot 1, 4, none, .load false 1 (.s 0)⟩,
    ⟨.slot 2, 5, none, .callp 15 [(.s 1)]⟩,
    ⟨.slot 3, 6, none, .bin false .add (.s 2) (.c (.str [32]))⟩,
    ⟨.slot 4, 7, none, .fldAddr 1 (.v 1)⟩,
    ⟨.slot 5, 8, none, .load false 1 (.s 4)⟩,
    ⟨.slot 6, 9, none, .bin false .add (.s 3) (.s 5)⟩,
    ⟨.slot 7, 10, none, .bin false .add (.s 6) (.c (.str [32]))⟩,
    ⟨.slot 8, 11, none, .fldAddr 2 (.v 1)⟩,
    ⟨.slot 9, 12, none, .load false 1 (.s 8)⟩,
    ⟨.slot 10, 13, none, .callp 15 [(.s 9)]⟩,
    ⟨.slot 11, 14, none, .bin false .add (.s 7) (.s 10)⟩,
    ⟨.var 2, 2, none, .mov (.s 11)⟩] [] .skip)
 (.ret)), [.t 2]⟩
noncomputable def t_impl_Entry_words : List (Nat × Ctr) := [(15, c_impl_Decimal)]
theorem lk_impl_Entry_words_15 : look t_impl_Entry_words 15 = some c_impl_Decimal := rfl
noncomputable def c_impl_Entry_words : Ctr := mkF t_impl_Entry_words ir32 [.bor]
theorem s_impl_Entry_words : Sound Tryd.prog 32 c_impl_Entry_words := mkF_sound _ rfl (snd_cons s_impl_Decimal snd_nil) (by kernel_rfl : chkFn Tryd.prog 32 ir32 ir32_v = true)
theorem M_impl_Entry_words : c_impl_Entry_words.modes = [.bor] := rfl
theorem Fl_impl_Entry_words : c_impl_Entry_words.flat = true := rfl
attribute [go_sem] M_impl_Entry_words Fl_impl_Entry_words
attribute [go_sem] lk_impl_Entry_words_15
theorem Fs_impl_Entry_words {e_ : Entry} {y_ : (List UInt8)} (h : impl_Entry_words e_ = some y_) : c_impl_Entry_words.F [Entry_av e_] = ⟨true, .str y_, [.any]⟩ := by
  refine mkF_E rfl ?_
  dsimp only [impl_Entry_words] at h
  obtain ⟨y_1, hk1, h⟩ := bd_some h
  have fhk1 := Fs_impl_Decimal hk1
  try simp only [go_sem] at fhk1
  obtain ⟨hk2, h⟩ := ck_some h
  try simp only [go_sem, n1, n2, n3, n4] at hk2
  all_goals
  obtain ⟨hk3, h⟩ := ck_some h
  try simp only [go_sem, n1, n2, n3, n4, hk2] at hk3
  all_goals
  obtain ⟨hk4, h⟩ := ck_some h
  try simp only [go_sem, n1, n2, n3, n4, hk2, hk3] at hk4
  all_goals
  obtain ⟨y_5, hk5, h⟩ := bd_some h
  have fhk5 := Fs_impl_Decimal hk5
  try simp only [go_sem, hk2, hk3, hk4] at fhk5
  obtain ⟨hk6, h⟩ := ck_some h
  try simp only [go_sem, n1, n2, n3, n4, hk2, hk3, hk4] at hk6
  all_goals
  obtain rfl := so_some h
  refine ⟨0, fun L hL => ?_⟩
  simp only [go_sem, ir32, fhk1, hk2, hk3, hk4, fhk5, hk6]


def ir23_b0 : IR := .seq (.region false [
    ⟨.var 9, 16, none, .bin false .lss (.v 8) (.v 7)⟩])
 (.seq (.cond (.v 9) (.skip)
  (.exit 0))
 (.seq (.block 1 (.seq (.region false [
      ⟨.push, 17, none, .mov (.v 8)⟩,
      ⟨.var 6, 7, none, .mov (.s 0)⟩])
   (.region false [
     ⟨.push, 18, none, .mov (.v 4)⟩,
     ⟨.push, 19, none, .bin false .mul (.c (.int .i64 (31))) (.s 0)⟩,
     ⟨.push, 20, none, .mov (.v 5)⟩,
     ⟨.push, 21, none, .mov (.v 6)⟩,
     ⟨.push, 22, none, .ixStr (.s 1) (.s 0)⟩,
     ⟨.push, 23, none, .conv .i64 (.s 0)⟩,
     ⟨.push, 24, none, .bin false .add (.s 4) (.s 0)⟩,
     ⟨.push, 25, none, .bin false .rem (.s 0) (.c (.int .i64 (65521)))⟩,
     ⟨.var 4, 5, none, .mov (.s 0)⟩])))
 (.region false [
   ⟨.push, 26, none, .bin false .add (.v 8) (.c (.int .i64 (1)))⟩,
   ⟨.var 8, 15, none, .mov (.s 0)⟩])))
def ir23_k0 : List Bool := [false, false, false, false, true, true, false, true, true, false]
def ir23_o0 : List Bool := [false, false, false, false, true, false, false, false, false, false]
def ir23_r0 : List Bool := [false, false, false, true, false, false, false, false, false, false]
def ir23_v : List Nat := [0, 1, 3, 4, 5, 6, 7, 14, 15, 16]
def ir23 : AFn := ⟨2, 10, .seq (.region false [
    ⟨.var 2, 3, none, .box (.v 1)⟩,
    ⟨.var 3, 4, none, .mov (.c (.int .i64 (0)))⟩])
 (.seq (.region false [
    ⟨.push, 8, none, .mov (.v 0)⟩,
    ⟨.push, 9, none, .bin false .add (.s 0) (.c (.int .i64 (23)))⟩,
    ⟨.push, 10, none, .bin false .rem (.s 0) (.c (.int .i64 (65521)))⟩,
    ⟨.push, 11, none, .load true 3 (.v 2)⟩,
    ⟨.push, 12, none, .call 32 [(.s 0)]⟩,
    ⟨.var 4, 5, none, .mov (.s 2)⟩,
    ⟨.var 5, 6, none, .mov (.s 0)⟩])
 (.seq (.seq (.region false [
     ⟨.push, 13, none, .mov (.v 5)⟩,
     ⟨.var 7, 14, none, .len true (.s 0)⟩,
     ⟨.var 8, 15, none, .mov (.c (.int .i64 (0)))⟩])
  (.block 0 (.loop ir23_k0 ir23_o0 ir23_r0 ir23_b0)))
 (.seq (.region false [
    ⟨.push, 27, none, .mov (.v 4)⟩,
    ⟨.var 3, 4, none, .mov (.s 0)⟩])
 (.ret)))), [.t 3]⟩
noncomputable def t_impl_stamp : List (Nat × Ctr) := [(32, c_impl_Entry_words)]
theorem lk_impl_stamp_32 : look t_impl_stamp 32 = some c_impl_Entry_words := rfl
noncomputable def c_impl_stamp : Ctr := mkF t_impl_stamp ir23 [.bor, .bor]
theorem s_impl_stamp : Sound Tryd.prog 23 c_impl_stamp := mkF_sound _ rfl (snd_cons s_impl_Entry_words snd_nil) (by kernel_rfl : chkFn Tryd.prog 23 ir23 ir23_v = true)
theorem M_impl_stamp : c_impl_stamp.modes = [.bor, .bor] := rfl
theorem Fl_impl_stamp : c_impl_stamp.flat = true := rfl
attribute [go_sem] M_impl_stamp Fl_impl_stamp
attribute [go_sem] lk_impl_stamp_32
def E_impl_stamp_l1 (words : List UInt8) (t14 : Int) : (Int × Int) → St
  | (sum, t15) => ⟨[.any, .any, .any, .any, .int .i64 sum, .str words, .any, .int .i64 t14, .int .i64 t15, .any], [], [], true⟩
def R_impl_stamp_l1 (words : List UInt8) (t14 : Int) (y : Int) : Res := (.exit 0, ⟨[.any, .any, .any, .any, .int .i64 y, .any, .any, .any, .any, .any], [], [], true⟩)
theorem impl_stamp_l1_ex {words : List UInt8} {t14 : Int} {sgm_ : Int × Int} {rho_ : Int} (h : whileE (impl_stamp_l1 words t14) sgm_ = some rho_) : ∃ L0, ∀ L, L0 ≤ L → iter (exec (look t_impl_stamp) L ir23_b0) ir23_k0 ir23_o0 ir23_r0 L (E_impl_stamp_l1 words t14 sgm_) = R_impl_stamp_l1 words t14 rho_ := by
  refine loop_ex (E := E_impl_stamp_l1 words t14) (R := R_impl_stamp_l1 words t14) (fun y => by first | (intro c; cases c) | (rcases y with y | y <;> (intro c; cases c)) | (rcases y with y | y | y <;> (intro c; cases c))) ?_ h
  clear h
  rintro ⟨sum, t15⟩ o_ h
  dsimp only [impl_stamp_l1] at h
  rcases it_some h with ⟨hk3, h⟩ | ⟨hk3, h⟩
  · try simp only [go_sem, n1, n2, n3, n4] at hk3
    all_goals
    obtain ⟨hk4, h⟩ := ck_some h
    try simp only [go_sem, n1, n2, n3, n4, hk3] at hk4
    all_goals
    obtain ⟨hk5, h⟩ := ck_some h
    try simp only [go_sem, n1, n2, n3, n4, hk3, hk4] at hk5
    all_goals
    obtain rfl := so_some h
    refine ⟨0, fun L hL => ?_⟩
    simp only [go_sem, ir23, E_impl_stamp_l1, R_impl_stamp_l1, ir23_b0, ir23_k0, ir23_o0, ir23_r0, hk3, hk4, hk5]
  · try simp only [go_sem, n1, n2, n3, n4] at hk3
    all_goals
    obtain rfl := so_some h
    refine ⟨0, fun L hL => ?_⟩
    simp only [go_sem, ir23, E_impl_stamp_l1, R_impl_stamp_l1, ir23_b0, ir23_k0, ir23_o0, ir23_r0, hk3]

theorem Fs_impl_stamp {before : Int} {e_ : Entry} {y_ : Int} (h : impl_stamp before e_ = some y_) : c_impl_stamp.F [.int .i64 before, Entry_av e_] = ⟨true, .int .i64 y_, [.any, .any]⟩ := by
  refine mkF_E rfl ?_
  dsimp only [impl_stamp] at h
  obtain ⟨hk1, h⟩ := ck_some h
  try simp only [go_sem, n1, n2, n3, n4] at hk1
  all_goals
  obtain ⟨y_2, hk2, h⟩ := bd_some h
  have fhk2 := Fs_impl_Entry_words hk2
  try simp only [go_sem, hk1] at fhk2
  obtain ⟨y_6, hk6, h⟩ := bd_some h
  obtain ⟨Lhk6, ehk6⟩ := impl_stamp_l1_ex hk6
  obtain rfl := so_some h
  refine ⟨Lhk6, fun L hL => ?_⟩
  have ehk6 := ehk6 L (by omega)
  try simp only [go_sem, E_impl_stamp_l1, R_impl_stamp_l1, ir23_k0, ir23_o0, ir23_r0, hk1] at ehk6
  simp only [go_sem, ir23, E_impl_stamp_l1, R_impl_stamp_l1, ir23_k0, ir23_o0, ir23_r0, hk1, fhk2, ehk6]


def ir11_v : List Nat := [0, 1, 3, 4, 5]
def ir11 : AFn := ⟨2, 5, .seq (.region false [
    ⟨.var 2, 3, none, .box (.v 1)⟩,
    ⟨.var 3, 4, none, .mov (.c (.int .i64 (0)))⟩,
    ⟨.var 4, 5, none, .mov (.c (.int .i64 (0)))⟩])
 (.seq (.block 0 (.test false [
     ⟨.push, 7, none, .load true 3 (.v 2)⟩,
     ⟨.push, 8, none, .call 21 [(.s 0)]⟩,
     ⟨.push, 9, none, .un .not (.s 0)⟩,
     ⟨.push, 6, none, .mov (.s 0)⟩] (.s 0)
   (.seq (.region false [
       ⟨.var 3, 4, none, .mov (.c (.int .i64 (0)))⟩,
       ⟨.var 4, 5, none, .mov (.c (.int .i64 (1)))⟩])
    (.ret))
   (.test false [
      ⟨.push, 11, none, .mov (.v 0)⟩,
      ⟨.push, 12, none, .call 22 [(.s 0), (.c (.int .i64 (0))), (.c (.int .i64 (65520)))]⟩,
      ⟨.push, 13, none, .un .not (.s 0)⟩,
      ⟨.push, 10, none, .mov (.s 0)⟩] (.s 0)
    (.seq (.region false [
        ⟨.var 3, 4, none, .mov (.c (.int .i64 (0)))⟩,
        ⟨.var 4, 5, none, .mov (.c (.int .i64 (2)))⟩])
     (.ret))
    (.skip))))
 (.seq (.region false [
    ⟨.push, 14, none, .mov (.v 0)⟩,
    ⟨.push, 15, none, .load true 3 (.v 2)⟩,
    ⟨.push, 16, none, .call 23 [(.s 1), (.s 0)]⟩,
    ⟨.var 3, 4, none, .mov (.s 0)⟩,
    ⟨.var 4, 5, none, .mov (.c (.int .i64 (0)))⟩])
 (.ret))), [.t 3, .t 4]⟩
noncomputable def t_impl_StampOf : List (Nat × Ctr) := [(21, c_impl_ValidEntry), (22, c_impl_in), (23, c_impl_stamp)]
theorem lk_impl_StampOf_21 : look t_impl_StampOf 21 = some c_impl_ValidEntry := rfl
theorem lk_impl_StampOf_22 : look t_impl_StampOf 22 = some c_impl_in := rfl
theorem lk_impl_StampOf_23 : look t_impl_StampOf 23 = some c_impl_stamp := rfl
noncomputable def c_impl_StampOf : Ctr := mkF t_impl_StampOf ir11 [.bor, .bor]
theorem s_impl_StampOf : Sound Tryd.prog 11 c_impl_StampOf := mkF_sound _ rfl (snd_cons s_impl_ValidEntry (snd_cons s_impl_in (snd_cons s_impl_stamp snd_nil))) (by kernel_rfl : chkFn Tryd.prog 11 ir11 ir11_v = true)
theorem M_impl_StampOf : c_impl_StampOf.modes = [.bor, .bor] := rfl
theorem Fl_impl_StampOf : c_impl_StampOf.flat = true := rfl
attribute [go_sem] M_impl_StampOf Fl_impl_StampOf
attribute [go_sem] lk_impl_StampOf_21 lk_impl_StampOf_22 lk_impl_StampOf_23
theorem Fs_impl_StampOf {before : Int} {e_ : Entry} {y_ : Int × Int} (h : impl_StampOf before e_ = some y_) : c_impl_StampOf.F [.int .i64 before, Entry_av e_] = ⟨true, .tup [.int .i64 y_.1, .int .i64 y_.2], [.any, .any]⟩ := by
  refine mkF_E rfl ?_
  dsimp only [impl_StampOf] at h
  obtain ⟨y_1, hk1, h⟩ := bd_some h
  have fhk1 := Fs_impl_ValidEntry hk1
  try simp only [go_sem] at fhk1
  rcases it_some h with ⟨hk2, h⟩ | ⟨hk2, h⟩
  · try simp only [go_sem, n1, n2, n3, n4] at hk2
    all_goals
    obtain rfl := so_some h
    refine ⟨0, fun L hL => ?_⟩
    simp only [go_sem, ir11, fhk1, hk2]
  · try simp only [go_sem, n1, n2, n3, n4] at hk2
    all_goals
    obtain ⟨y_3, hk3, h⟩ := bd_some h
    have fhk3 := Fs_impl_in hk3
    try simp only [go_sem, hk2] at fhk3
    rcases it_some h with ⟨hk4, h⟩ | ⟨hk4, h⟩
    · try simp only [go_sem, n1, n2, n3, n4, hk2] at hk4
      all_goals
      obtain rfl := so_some h
      refine ⟨0, fun L hL => ?_⟩
      simp only [go_sem, ir11, fhk1, hk2, fhk3, hk4]
    · try simp only [go_sem, n1, n2, n3, n4, hk2] at hk4
      all_goals
      obtain ⟨y_5, hk5, h⟩ := bd_some h
      have fhk5 := Fs_impl_stamp hk5
      try simp only [go_sem, hk2, hk4] at fhk5
      obtain rfl := so_some h
      refine ⟨0, fun L hL => ?_⟩
      simp only [go_sem, ir11, fhk1, hk2, fhk3, hk4, fhk5]


def ir4_v : List Nat := [0, 1, 3, 4, 5, 6, 7, 8, 9]
def ir4 : AFn := ⟨2, 9, .seq (.region false [
    ⟨.var 2, 3, none, .box (.v 1)⟩,
    ⟨.var 3, 4, none, .mov (.c (.bool false))⟩])
 (.seq (.region false [
    ⟨.var 4, 5, none, .mov (.c (.int .i64 (1048576)))⟩])
 (.seq (.region false [
    ⟨.push, 10, none, .load true 3 (.v 2)⟩,
    ⟨.push, 11, none, .mov (.v 4)⟩,
    ⟨.push, 12, none, .call 8 [(.s 1), (.s 0)]⟩,
    ⟨.var 4, 5, none, .mov (.s 0)⟩])
 (.seq (.test false [
    ⟨.push, 13, none, .mov (.v 4)⟩,
    ⟨.push, 14, none, .bin false .lss (.s 0) (.c (.int .i64 (0)))⟩] (.s 0)
  (.seq (.region false [
      ⟨.var 3, 4, none, .mov (.c (.bool true))⟩])
   (.ret))
  (.skip))
 (.seq (.region false [
    ⟨.push, 16, none, .mov (.v 0)⟩,
    ⟨.push, 17, none, .load true 3 (.v 2)⟩,
    ⟨.push, 18, none, .call 10 [(.s 0)]⟩,
    ⟨.push, 19, none, .call 9 [(.s 2), (.s 0)]⟩,
    ⟨.push, 15, none, .mov (.s 0)⟩,
    ⟨.push, 20, none, .ext (.s 0) 0⟩,
    ⟨.push, 21, none, .ext (.s 1) 1⟩,
    ⟨.var 5, 6, none, .mov (.s 1)⟩,
    ⟨.var 6, 7, none, .mov (.s 0)⟩])
 (.seq (.region false [
    ⟨.push, 23, none, .mov (.v 0)⟩,
    ⟨.push, 24, none, .load true 3 (.v 2)⟩,
    ⟨.push, 25, none, .call 10 [(.s 0)]⟩,
    ⟨.push, 26, none, .call 11 [(.s 2), (.s 0)]⟩,
    ⟨.push, 22, none, .mov (.s 0)⟩,
    ⟨.push, 27, none, .ext (.s 0) 0⟩,
    ⟨.push, 28, none, .ext (.s 1) 1⟩,
    ⟨.var 7, 8, none, .mov (.s 1)⟩,
    ⟨.var 8, 9, none, .mov (.s 0)⟩])
 (.seq (.test false [
    ⟨.push, 29, none, .mov (.v 7)⟩,
    ⟨.push, 30, none, .mov (.v 5)⟩,
    ⟨.push, 31, none, .bin false .neq (.s 1) (.s 0)⟩,
    ⟨.push, 32, none, .mov (.s 0)⟩,
    ⟨.push, 33, (some ((.s 0), false)), .mov (.v 8)⟩,
    ⟨.push, 34, (some ((.s 1), false)), .mov (.v 6)⟩,
    ⟨.push, 35, (some ((.s 2), false)), .bin false .neq (.s 1) (.s 0)⟩,
    ⟨.push, 36, none, .pick (.s 3) (.c (.bool true)) (.s 0)⟩] (.s 0)
  (.seq (.region false [
      ⟨.var 3, 4, none, .mov (.c (.bool false))⟩])
   (.ret))
  (.skip))
 (.seq (.region false [
    ⟨.var 3, 4, none, .mov (.c (.bool true))⟩])
 (.ret)))))))), [.t 3]⟩
noncomputable def t_laws_FnExactStampOf : List (Nat × Ctr) := [(8, c_laws_szEntry), (10, c_laws_toEntry), (9, c_spec_StampOf), (11, c_impl_StampOf)]
theorem lk_laws_FnExactStampOf_8 : look t_laws_FnExactStampOf 8 = some c_laws_szEntry := rfl
theorem lk_laws_FnExactStampOf_10 : look t_laws_FnExactStampOf 10 = some c_laws_toEntry := rfl
theorem lk_laws_FnExactStampOf_9 : look t_laws_FnExactStampOf 9 = some c_spec_StampOf := rfl
theorem lk_laws_FnExactStampOf_11 : look t_laws_FnExactStampOf 11 = some c_impl_StampOf := rfl
noncomputable def c_laws_FnExactStampOf : Ctr := mkF t_laws_FnExactStampOf ir4 [.bor, .bor]
theorem s_laws_FnExactStampOf : Sound Tryd.prog 4 c_laws_FnExactStampOf := mkF_sound _ rfl (snd_cons s_laws_szEntry (snd_cons s_laws_toEntry (snd_cons s_spec_StampOf (snd_cons s_impl_StampOf snd_nil)))) (by kernel_rfl : chkFn Tryd.prog 4 ir4 ir4_v = true)
theorem M_laws_FnExactStampOf : c_laws_FnExactStampOf.modes = [.bor, .bor] := rfl
theorem Fl_laws_FnExactStampOf : c_laws_FnExactStampOf.flat = true := rfl
attribute [go_sem] M_laws_FnExactStampOf Fl_laws_FnExactStampOf
attribute [go_sem] lk_laws_FnExactStampOf_8 lk_laws_FnExactStampOf_10 lk_laws_FnExactStampOf_9 lk_laws_FnExactStampOf_11
theorem Fs_laws_FnExactStampOf {aBefore : Int} {aE : Entry} {y_ : Bool} (h : laws_FnExactStampOf aBefore aE = some y_) : c_laws_FnExactStampOf.F [.int .i64 aBefore, Entry_av aE] = ⟨true, .bool y_, [.any, .any]⟩ := by
  refine mkF_E rfl ?_
  dsimp only [laws_FnExactStampOf] at h
  obtain ⟨y_1, hk1, h⟩ := bd_some h
  have fhk1 := Fs_laws_szEntry hk1
  try simp only [go_sem] at fhk1
  rcases it_some h with ⟨hk2, h⟩ | ⟨hk2, h⟩
  · try simp only [go_sem, n1, n2, n3, n4] at hk2
    all_goals
    obtain rfl := so_some h
    refine ⟨0, fun L hL => ?_⟩
    simp only [go_sem, ir4, fhk1, hk2]
  · try simp only [go_sem, n1, n2, n3, n4] at hk2
    all_goals
    obtain ⟨y_3, hk3, h⟩ := bd_some h
    have fhk3 := Fs_laws_toEntry hk3
    try simp only [go_sem, hk2] at fhk3
    obtain ⟨y_4, hk4, h⟩ := bd_some h
    have fhk4 := Fs_spec_StampOf hk4
    try simp only [go_sem, hk2] at fhk4
    obtain ⟨y_5, hk5, h⟩ := bd_some h
    have fhk5 := Fs_impl_StampOf hk5
    try simp only [go_sem, hk2] at fhk5
    rcases it_some h with ⟨hk6, h⟩ | ⟨hk6, h⟩
    · try simp only [go_sem, n1, n2, n3, n4, hk2] at hk6
      all_goals
      obtain rfl := so_some h
      refine ⟨0, fun L hL => ?_⟩
      simp only [go_sem, ir4, fhk1, hk2, fhk3, fhk4, fhk5, hk6]
    · try simp only [go_sem, n1, n2, n3, n4, hk2] at hk6
      all_goals
      obtain rfl := so_some h
      refine ⟨0, fun L hL => ?_⟩
      simp only [go_sem, ir4, fhk1, hk2, fhk3, fhk4, fhk5, hk6]


end Go.Proofs.YtgbibhhblimfiaaDoor
