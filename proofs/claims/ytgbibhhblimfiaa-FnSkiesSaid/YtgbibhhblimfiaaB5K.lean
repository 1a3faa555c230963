/- Codes and contracts of the functions that B5 reaches, and that their typed forms say what they do. No condition. -/
import Derived.Test.YtgbibhhblimfiaaR5T
import Derived.Test.YtgbibhhblimfiaaRows
import Derived.WalkKit
namespace Go.Proofs.Ytgbibhhblimfiaa
open Go Go.RowKit
set_option linter.unusedVariables false
set_option linter.unusedSimpArgs false
set_option maxRecDepth 10000

def ir28_v : List Nat := [0, 1, 2, 6]
def ir28 : AFn := ⟨3, 4, .seq (.region false [
    ⟨.var 3, 6, none, .mov (.c (.bool false))⟩])
 (.seq (.region false [
    ⟨.push, 7, none, .mov (.v 0)⟩,
    ⟨.push, 8, none, .mov (.v 1)⟩,
    ⟨.push, 9, none, .bin false .geq (.s 1) (.s 0)⟩,
    ⟨.push, 10, none, .mov (.s 0)⟩,
    ⟨.push, 11, (some ((.s 0), true)), .mov (.v 0)⟩,
    ⟨.push, 12, (some ((.s 1), true)), .mov (.v 2)⟩,
    ⟨.push, 13, (some ((.s 2), true)), .bin false .leq (.s 1) (.s 0)⟩,
    ⟨.push, 14, none, .pick (.s 3) (.s 0) (.c (.bool false))⟩,
    ⟨.var 3, 6, none, .mov (.s 0)⟩])
 (.ret)), [.t 3]⟩
noncomputable def t_impl_in : List (Nat × Ctr) := []
noncomputable def c_impl_in : Ctr := mkF t_impl_in ir28 [.bor, .bor, .bor]
theorem s_impl_in : Sound Try.prog 28 c_impl_in := mkF_sound _ rfl snd_nil (by kernel_rfl : chkFn Try.prog 28 ir28 ir28_v = true)
theorem M_impl_in : c_impl_in.modes = [.bor, .bor, .bor] := rfl
theorem Fl_impl_in : c_impl_in.flat = true := rfl
attribute [go_sem] M_impl_in Fl_impl_in
theorem Fs_impl_in {n : Int} {low : Int} {high : Int} {y_ : Bool} (h : impl_in n low high = some y_) : c_impl_in.F [.int .i64 n, .int .i64 low, .int .i64 high] = ⟨true, .bool y_, [.any, .any, .any]⟩ := by
  refine mkF_E rfl ?_
  dsimp only [impl_in] at h
  obtain rfl := so_some h
  refine ⟨0, fun L hL => ?_⟩
  simp only [go_sem, ir28]


def ir35_v : List Nat := [0, 2]
def ir35 : AFn := ⟨1, 2, .seq (.region false [
    ⟨.var 1, 2, none, .mov (.c (.int .i64 (0)))⟩])
 (.seq (.test false [
    ⟨.push, 3, none, .mov (.v 0)⟩,
    ⟨.push, 4, none, .bin false .lss (.s 0) (.c (.int .i64 (0)))⟩] (.s 0)
  (.seq (.region false [
      ⟨.push, 5, none, .mov (.v 0)⟩,
      ⟨.push, 6, none, .un .neg (.s 0)⟩,
      ⟨.var 1, 2, none, .mov (.s 0)⟩])
   (.ret))
  (.skip))
 (.seq (.region false [
    ⟨.push, 7, none, .mov (.v 0)⟩,
    ⟨.var 1, 2, none, .mov (.s 0)⟩])
 (.ret))), [.t 1]⟩
noncomputable def t_impl_abs : List (Nat × Ctr) := []
noncomputable def c_impl_abs : Ctr := mkF t_impl_abs ir35 [.bor]
theorem s_impl_abs : Sound Try.prog 35 c_impl_abs := mkF_sound _ rfl snd_nil (by kernel_rfl : chkFn Try.prog 35 ir35 ir35_v = true)
theorem M_impl_abs : c_impl_abs.modes = [.bor] := rfl
theorem Fl_impl_abs : c_impl_abs.flat = true := rfl
attribute [go_sem] M_impl_abs Fl_impl_abs
theorem Fs_impl_abs {n : Int} {y_ : Int} (h : impl_abs n = some y_) : c_impl_abs.F [.int .i64 n] = ⟨true, .int .i64 y_, [.any]⟩ := by
  refine mkF_E rfl ?_
  dsimp only [impl_abs] at h
  rcases it_some h with ⟨hk1, h⟩ | ⟨hk1, h⟩
  · try simp only [go_sem, n1, n2, n3, n4] at hk1
    all_goals
    obtain rfl := so_some h
    refine ⟨0, fun L hL => ?_⟩
    simp only [go_sem, ir35, hk1]
  · try simp only [go_sem, n1, n2, n3, n4] at hk1
    all_goals
    obtain rfl := so_some h
    refine ⟨0, fun L hL => ?_⟩
    simp only [go_sem, ir35, hk1]


def ir12_v : List Nat := [0, 1, 4, 5, 6]
def ir12 : AFn := ⟨2, 5, .seq (.region false [
    ⟨.var 2, 4, none, .mov (.c (.int .i64 (0)))⟩,
    ⟨.var 3, 5, none, .mov (.c (.int .i64 (0)))⟩])
 (.seq (.test false [
    ⟨.push, 7, none, .mov (.v 0)⟩,
    ⟨.push, 8, none, .call 28 [(.s 0), (.c (.int .i64 (0))), (.c (.int .i64 (86399)))]⟩,
    ⟨.push, 9, none, .un .not (.s 0)⟩,
    ⟨.push, 10, none, .mov (.s 0)⟩,
    ⟨.push, 11, (some ((.s 0), false)), .mov (.v 1)⟩,
    ⟨.push, 12, (some ((.s 1), false)), .call 28 [(.s 0), (.c (.int .i64 (0))), (.c (.int .i64 (86399)))]⟩,
    ⟨.push, 13, (some ((.s 2), false)), .un .not (.s 0)⟩,
    ⟨.push, 14, none, .pick (.s 3) (.c (.bool true)) (.s 0)⟩] (.s 0)
  (.seq (.region false [
      ⟨.var 2, 4, none, .mov (.c (.int .i64 (0)))⟩,
      ⟨.var 3, 5, none, .mov (.c (.int .i64 (2)))⟩])
   (.ret))
  (.skip))
 (.seq (.region false [
    ⟨.push, 15, none, .mov (.v 0)⟩,
    ⟨.push, 16, none, .mov (.v 1)⟩,
    ⟨.push, 17, none, .bin false .sub (.s 1) (.s 0)⟩,
    ⟨.push, 18, none, .call 35 [(.s 0)]⟩,
    ⟨.var 4, 6, none, .mov (.s 0)⟩])
 (.seq (.region false [
    ⟨.push, 19, none, .mov (.v 4)⟩,
    ⟨.push, 20, none, .mov (.v 4)⟩,
    ⟨.push, 21, none, .bin false .sub (.c (.int .i64 (86400))) (.s 0)⟩,
    ⟨.push, 22, none, .minmax false [(.s 2), (.s 0)]⟩,
    ⟨.var 2, 4, none, .mov (.s 0)⟩,
    ⟨.var 3, 5, none, .mov (.c (.int .i64 (0)))⟩])
 (.ret)))), [.t 2, .t 3]⟩
noncomputable def t_impl_AscensionApart : List (Nat × Ctr) := [(28, c_impl_in), (35, c_impl_abs)]
theorem lk_impl_AscensionApart_28 : look t_impl_AscensionApart 28 = some c_impl_in := rfl
theorem lk_impl_AscensionApart_35 : look t_impl_AscensionApart 35 = some c_impl_abs := rfl
noncomputable def c_impl_AscensionApart : Ctr := mkF t_impl_AscensionApart ir12 [.bor, .bor]
theorem s_impl_AscensionApart : Sound Try.prog 12 c_impl_AscensionApart := mkF_sound _ rfl (snd_cons s_impl_in (snd_cons s_impl_abs snd_nil)) (by kernel_rfl : chkFn Try.prog 12 ir12 ir12_v = true)
theorem M_impl_AscensionApart : c_impl_AscensionApart.modes = [.bor, .bor] := rfl
theorem Fl_impl_AscensionApart : c_impl_AscensionApart.flat = true := rfl
attribute [go_sem] M_impl_AscensionApart Fl_impl_AscensionApart
attribute [go_sem] lk_impl_AscensionApart_28 lk_impl_AscensionApart_35
theorem Fs_impl_AscensionApart {a : Int} {b : Int} {y_ : Int × Int} (h : impl_AscensionApart a b = some y_) : c_impl_AscensionApart.F [.int .i64 a, .int .i64 b] = ⟨true, .tup [.int .i64 y_.1, .int .i64 y_.2], [.any, .any]⟩ := by
  refine mkF_E rfl ?_
  dsimp only [impl_AscensionApart] at h
  obtain ⟨y_1, hk1, h⟩ := bd_some h
  have fhk1 := Fs_impl_in hk1
  try simp only [go_sem] at fhk1
  obtain ⟨hk2, h⟩ := ck_some h
  rcases or_split hk2 with ⟨ghk2, hk2⟩ | ghk2
  · try simp only [go_sem, n1, n2, n3, n4] at ghk2
    all_goals
    obtain ⟨y_2, hhk2⟩ := Option.isSome_iff_exists.1 hk2
    have fhk2 := Fs_impl_in hhk2
    try simp only [go_sem] at fhk2
    rcases it_some h with ⟨hk3, h⟩ | ⟨hk3, h⟩
    · try simp only [go_sem, n1, n2, n3, n4, ghk2, hhk2] at hk3
      all_goals
      obtain rfl := so_some h
      refine ⟨0, fun L hL => ?_⟩
      simp only [go_sem, ir12, fhk1, ghk2, hhk2, fhk2, hk3]
    · try simp only [go_sem, n1, n2, n3, n4, ghk2, hhk2] at hk3
      all_goals
      obtain ⟨y_4, hk4, h⟩ := bd_some h
      have fhk4 := Fs_impl_abs hk4
      try simp only [go_sem] at fhk4
      obtain rfl := so_some h
      refine ⟨0, fun L hL => ?_⟩
      simp only [go_sem, ir12, fhk1, ghk2, hhk2, fhk2, hk3, fhk4]
  · have ghk2n := no_f ghk2
    have ghk2nn := no_t ghk2n
    try simp only [go_sem, n1, n2, n3, n4] at ghk2nn
    all_goals
    rcases it_some h with ⟨hk3, h⟩ | ⟨hk3, h⟩
    · try simp only [go_sem, n1, n2, n3, n4, ghk2nn] at hk3
      all_goals
      obtain rfl := so_some h
      refine ⟨0, fun L hL => ?_⟩
      simp only [go_sem, ir12, fhk1, ghk2nn, hk3]
    · try simp only [go_sem, n1, n2, n3, n4, ghk2nn] at hk3
      all_goals
      obtain ⟨y_4, hk4, h⟩ := bd_some h
      have fhk4 := Fs_impl_abs hk4
      try simp only [go_sem] at fhk4
      obtain rfl := so_some h
      refine ⟨0, fun L hL => ?_⟩
      simp only [go_sem, ir12, fhk1, ghk2nn, hk3, fhk4]


def ir5_v : List Nat := [0, 1, 4]
def ir5 : AFn := ⟨2, 3, .seq (.region false [
    ⟨.var 2, 4, none, .mov (.c (.bool false))⟩])
 (.seq (.region false [
    ⟨.push, 5, none, .mov (.v 0)⟩,
    ⟨.push, 6, none, .len false (.s 0)⟩,
    ⟨.push, 7, none, .bin false .gtr (.s 0) (.c (.int .i64 (3000)))⟩,
    ⟨.push, 8, none, .mov (.s 0)⟩,
    ⟨.push, 9, (some ((.s 0), false)), .mov (.v 1)⟩,
    ⟨.push, 10, (some ((.s 1), false)), .len false (.s 0)⟩,
    ⟨.push, 11, (some ((.s 2), false)), .bin false .gtr (.s 0) (.c (.int .i64 (3000)))⟩,
    ⟨.push, 12, none, .pick (.s 3) (.c (.bool true)) (.s 0)⟩,
    ⟨.var 2, 4, none, .mov (.s 0)⟩])
 (.ret)), [.t 2]⟩
noncomputable def t_laws_a2Long : List (Nat × Ctr) := []
noncomputable def c_laws_a2Long : Ctr := mkF t_laws_a2Long ir5 [.bor, .bor]
theorem s_laws_a2Long : Sound Try.prog 5 c_laws_a2Long := mkF_sound _ rfl snd_nil (by kernel_rfl : chkFn Try.prog 5 ir5 ir5_v = true)
theorem M_laws_a2Long : c_laws_a2Long.modes = [.bor, .bor] := rfl
theorem Fl_laws_a2Long : c_laws_a2Long.flat = true := rfl
attribute [go_sem] M_laws_a2Long Fl_laws_a2Long
theorem Fs_laws_a2Long {code : List UInt8} {more : List UInt8} {y_ : Bool} (h : laws_a2Long code more = some y_) : c_laws_a2Long.F [.sl 1 (List.map byteAV code), .sl 1 (List.map byteAV more)] = ⟨true, .bool y_, [.any, .any]⟩ := by
  refine mkF_E rfl ?_
  dsimp only [laws_a2Long] at h
  obtain rfl := so_some h
  refine ⟨0, fun L hL => ?_⟩
  simp only [go_sem, ir5]


def ir23_v : List Nat := [0, 2]
def ir23 : AFn := ⟨1, 2, .seq (.region false [
    ⟨.var 1, 2, none, .mov (.c (.cv (.pointer none)))⟩])
 (.seq (.region false [
    ⟨.push, 3, none, .mov (.v 0)⟩,
    ⟨.push, 4, none, .build [.sl 1 [], .int .i64 (0), .int .u64 (0)] [(0, 1, (.s 0))]⟩,
    ⟨.push, 5, none, .box (.s 0)⟩,
    ⟨.var 1, 2, none, .mov (.s 0)⟩])
 (.ret)), [.t 1]⟩
noncomputable def t_spec_l00From : List (Nat × Ctr) := []
noncomputable def c_spec_l00From : Ctr := mkN t_spec_l00From ir23 [.bor]
theorem s_spec_l00From : Sound Try.prog 23 c_spec_l00From := mkN_sound _ snd_nil (by kernel_rfl : chkFn Try.prog 23 ir23 ir23_v = true)
theorem M_spec_l00From : c_spec_l00From.modes = [.bor] := rfl
theorem Fl_spec_l00From : c_spec_l00From.flat = false := rfl
attribute [go_sem] M_spec_l00From Fl_spec_l00From
theorem Fs_spec_l00From {code : List UInt8} {y_ : L00Src} (h : spec_l00From code = some y_) : c_spec_l00From.F [.sl 1 (List.map byteAV code)] = ⟨true, .mem 3 [L00Src_av y_], [.any]⟩ := by
  refine mkN_E ?_
  dsimp only [spec_l00From] at h
  obtain rfl := so_some h
  refine ⟨0, fun L hL => ?_⟩
  simp only [go_sem, ir23]


def ir26_v : List Nat := [0]
def ir26 : AFn := ⟨0, 1, .seq (.region false [
    ⟨.var 0, 0, none, .newnil 1⟩])
 (.seq (.region false [
    ⟨.push, 1, none, .mkSl 1 (.str []) 6 [(0, (.c (.str [98, 101, 116, 97, 45, 108, 121, 114]))), (1, (.c (.str [100, 101, 108, 45, 99, 101, 112]))), (2, (.c (.str [109, 105, 114, 97]))), (3, (.c (.str [114, 45, 99, 114, 98]))), (4, (.c (.str [114, 114, 45, 108, 121, 114]))), (5, (.c (.str [115, 115, 45, 99, 121, 103])))]⟩,
    ⟨.var 0, 0, none, .mov (.s 0)⟩])
 (.ret)), [.t 0]⟩
noncomputable def t_spec_l04Names : List (Nat × Ctr) := []
noncomputable def c_spec_l04Names : Ctr := mkF t_spec_l04Names ir26 []
theorem s_spec_l04Names : Sound Try.prog 26 c_spec_l04Names := mkF_sound _ rfl snd_nil (by kernel_rfl : chkFn Try.prog 26 ir26 ir26_v = true)
theorem M_spec_l04Names : c_spec_l04Names.modes = [] := rfl
theorem Fl_spec_l04Names : c_spec_l04Names.flat = true := rfl
attribute [go_sem] M_spec_l04Names Fl_spec_l04Names
theorem Fs_spec_l04Names  {y_ : (List (List UInt8))} (h : spec_l04Names = some y_) : c_spec_l04Names.F [] = ⟨true, .fresh 1 (List.map AV.str y_), []⟩ := by
  refine mkF_E (by simp only [flatA, flatB, flat1, List.all_cons, List.all_nil, Bool.and_self, flatE_map (f := AV.str) (fun _ => rfl)]) ?_
  dsimp only [spec_l04Names] at h
  obtain rfl := so_some h
  refine ⟨0, fun L hL => ?_⟩
  simp only [go_sem, ir26]


def ir72_v : List Nat := [0, 2, 3]
def ir72 : AFn := ⟨1, 3, .seq (.region false [
    ⟨.var 1, 2, none, .mov (.c (.int .i64 (0)))⟩])
 (.seq (.region false [
    ⟨.var 2, 3, none, .mov (.c (.int .i64 (0)))⟩])
 (.seq (.anyo 10 [
    ⟨.slot 0, 4, none, .mov (.v 0)⟩,
    ⟨.slot 1, 5, none, .nilck (.s 0)⟩,
    ⟨.slot 2, 6, none, .fldAddr 1 (.s 1)⟩,
    ⟨.slot 3, 7, none, .load false 1 (.s 2)⟩,
    ⟨.slot 4, 8, none, .mov (.v 0)⟩,
    ⟨.slot 5, 9, none, .nilck (.s 4)⟩,
    ⟨.slot 6, 10, none, .fldAddr 0 (.s 5)⟩,
    ⟨.slot 7, 11, none, .load false 1 (.s 6)⟩,
    ⟨.slot 8, 12, none, .len false (.s 7)⟩,
    ⟨.slot 9, 13, none, .bin false .lss (.s 3) (.s 8)⟩] [] (.cond (.s 9)
  (.anyo 11 [
     ⟨.slot 0, 14, none, .mov (.v 0)⟩,
     ⟨.slot 1, 15, none, .nilck (.s 0)⟩,
     ⟨.slot 2, 16, none, .fldAddr 0 (.s 1)⟩,
     ⟨.slot 3, 17, none, .load false 1 (.s 2)⟩,
     ⟨.slot 4, 18, none, .mov (.v 0)⟩,
     ⟨.slot 5, 19, none, .nilck (.s 4)⟩,
     ⟨.slot 6, 20, none, .fldAddr 1 (.s 5)⟩,
     ⟨.slot 7, 21, none, .load false 1 (.s 6)⟩,
     ⟨.slot 8, 22, none, .ixAddr 1 (.s 3) (.s 7)⟩,
     ⟨.slot 9, 23, none, .load false 1 (.s 8)⟩,
     ⟨.slot 10, 24, none, .conv .i64 (.s 9)⟩,
     ⟨.var 2, 3, none, .mov (.s 10)⟩] [] .skip)
  (.skip)))
 (.seq (.region false [
    ⟨.push, 25, none, .mov (.v 0)⟩,
    ⟨.push, 26, none, .nilck (.s 0)⟩,
    ⟨.push, 27, none, .fldAddr 1 (.s 0)⟩,
    ⟨.push, 28, none, .load false 1 (.s 0)⟩,
    ⟨.push, 29, none, .bin false .add (.s 0) (.c (.int .i64 (1)))⟩,
    ⟨.push, 30, none, .nilck (.s 4)⟩,
    ⟨.push, 31, none, .fldAddr 1 (.s 0)⟩,
    ⟨.no, 0, none, .store 1 (.s 0) (.s 2)⟩])
 (.seq (.region false [
    ⟨.push, 32, none, .mov (.v 0)⟩,
    ⟨.push, 33, none, .mov (.v 0)⟩,
    ⟨.push, 34, none, .nilck (.s 0)⟩,
    ⟨.push, 35, none, .fldAddr 2 (.s 0)⟩,
    ⟨.push, 36, none, .load false 1 (.s 0)⟩,
    ⟨.push, 37, none, .bin false .mul (.s 0) (.c (.int .u64 (6364136223846793005)))⟩,
    ⟨.push, 38, none, .mov (.v 2)⟩,
    ⟨.push, 39, none, .conv .u64 (.s 0)⟩,
    ⟨.push, 40, none, .bin false .add (.s 2) (.s 0)⟩,
    ⟨.push, 41, none, .bin false .add (.s 0) (.c (.int .u64 (1442695040888963407)))⟩,
    ⟨.push, 42, none, .nilck (.s 9)⟩,
    ⟨.push, 43, none, .fldAddr 2 (.s 0)⟩,
    ⟨.no, 0, none, .store 1 (.s 0) (.s 2)⟩])
 (.seq (.anyo 10 [
    ⟨.slot 0, 44, none, .mov (.v 0)⟩,
    ⟨.slot 1, 45, none, .nilck (.s 0)⟩,
    ⟨.slot 2, 46, none, .fldAddr 1 (.s 1)⟩,
    ⟨.slot 3, 47, none, .load false 1 (.s 2)⟩,
    ⟨.slot 4, 48, none, .mov (.v 0)⟩,
    ⟨.slot 5, 49, none, .nilck (.s 4)⟩,
    ⟨.slot 6, 50, none, .fldAddr 0 (.s 5)⟩,
    ⟨.slot 7, 51, none, .load false 1 (.s 6)⟩,
    ⟨.slot 8, 52, none, .len false (.s 7)⟩,
    ⟨.slot 9, 53, none, .bin false .leq (.s 3) (.s 8)⟩] [] (.cond (.s 9)
  (.seq (.region false [
      ⟨.push, 54, none, .mov (.v 2)⟩,
      ⟨.var 1, 2, none, .mov (.s 0)⟩])
   (.ret))
  (.skip)))
 (.seq (.region false [
    ⟨.push, 55, none, .mov (.v 0)⟩,
    ⟨.push, 56, none, .nilck (.s 0)⟩,
    ⟨.push, 57, none, .fldAddr 2 (.s 0)⟩,
    ⟨.push, 58, none, .load false 1 (.s 0)⟩,
    ⟨.push, 59, none, .bin false .shr (.s 0) (.c (.int .u64 (40)))⟩,
    ⟨.push, 60, none, .bin false .and (.s 0) (.c (.int .u64 (255)))⟩,
    ⟨.push, 61, none, .conv .i64 (.s 0)⟩,
    ⟨.var 1, 2, none, .mov (.s 0)⟩])
 (.ret))))))), [.t 1]⟩
noncomputable def t_spec_l00Src_next : List (Nat × Ctr) := []
noncomputable def c_spec_l00Src_next : Ctr := mkN t_spec_l00Src_next ir72 [.io]
theorem s_spec_l00Src_next : Sound Try.prog 72 c_spec_l00Src_next := mkN_sound _ snd_nil (by kernel_rfl : chkFn Try.prog 72 ir72 ir72_v = true)
theorem M_spec_l00Src_next : c_spec_l00Src_next.modes = [.io] := rfl
theorem Fl_spec_l00Src_next : c_spec_l00Src_next.flat = false := rfl
attribute [go_sem] M_spec_l00Src_next Fl_spec_l00Src_next
theorem Fs_spec_l00Src_next {s_ : L00Src} {y_ : Int × L00Src} (h : spec_l00Src_next s_ = some y_) : c_spec_l00Src_next.F [.mem 3 [L00Src_av s_]] = ⟨true, .int .i64 y_.1, [.mem 3 [L00Src_av y_.2]]⟩ := by
  refine mkN_E ?_
  dsimp only [spec_l00Src_next] at h
  rcases it_some h with ⟨hk1, h⟩ | ⟨hk1, h⟩
  · try simp only [go_sem, n1, n2, n3, n4] at hk1
    all_goals
    obtain ⟨hk2, h⟩ := ck_some h
    have lhk2 := ix_lt hk2
    have xhk2 := getD_mapD byteAV s_.code_ lhk2
    try simp only [go_sem] at lhk2
    try simp only [go_sem] at xhk2
    try simp only [go_sem, n1, n2, n3, n4, hk1] at hk2
    all_goals
    rcases it_some h with ⟨hk3, h⟩ | ⟨hk3, h⟩
    · try simp only [go_sem, n1, n2, n3, n4, hk1, hk2] at hk3
      all_goals
      obtain rfl := so_some h
      refine ⟨0, fun L hL => ?_⟩
      simp only [go_sem, ir72, hk1, hk2, lhk2, xhk2, hk3]
    · try simp only [go_sem, n1, n2, n3, n4, hk1, hk2] at hk3
      all_goals
      obtain ⟨hk4, h⟩ := ck_some h
      try simp only [go_sem, n1, n2, n3, n4, hk1, hk2, hk3] at hk4
      all_goals
      obtain rfl := so_some h
      refine ⟨0, fun L hL => ?_⟩
      simp only [go_sem, ir72, hk1, hk2, lhk2, xhk2, hk3, hk4]
  · try simp only [go_sem, n1, n2, n3, n4] at hk1
    all_goals
    rcases it_some h with ⟨hk5, h⟩ | ⟨hk5, h⟩
    · try simp only [go_sem, n1, n2, n3, n4, hk1] at hk5
      all_goals
      obtain rfl := so_some h
      refine ⟨0, fun L hL => ?_⟩
      simp only [go_sem, ir72, hk1, hk5]
    · try simp only [go_sem, n1, n2, n3, n4, hk1] at hk5
      all_goals
      obtain ⟨hk6, h⟩ := ck_some h
      try simp only [go_sem, n1, n2, n3, n4, hk1, hk5] at hk6
      all_goals
      obtain rfl := so_some h
      refine ⟨0, fun L hL => ?_⟩
      simp only [go_sem, ir72, hk1, hk5, hk6]


def ir49_v : List Nat := [0, 1, 4, 5]
def ir49 : AFn := ⟨2, 4, .seq (.region false [
    ⟨.var 2, 4, none, .mov (.c (.int .i64 (0)))⟩])
 (.seq (.test false [
    ⟨.push, 6, none, .mov (.v 1)⟩,
    ⟨.push, 7, none, .bin false .leq (.s 0) (.c (.int .i64 (1)))⟩] (.s 0)
  (.seq (.region false [
      ⟨.var 2, 4, none, .mov (.c (.int .i64 (0)))⟩])
   (.ret))
  (.skip))
 (.seq (.region false [
    ⟨.push, 8, none, .mov (.v 0)⟩,
    ⟨.push, 9, none, .call 72 [(.s 0)]⟩,
    ⟨.var 3, 5, none, .mov (.s 0)⟩])
 (.seq (.test false [
    ⟨.push, 10, none, .mov (.v 1)⟩,
    ⟨.push, 11, none, .bin false .gtr (.s 0) (.c (.int .i64 (200)))⟩] (.s 0)
  (.region false [
     ⟨.push, 12, none, .mov (.v 3)⟩,
     ⟨.push, 13, none, .bin false .mul (.s 0) (.c (.int .i64 (256)))⟩,
     ⟨.push, 14, none, .mov (.v 0)⟩,
     ⟨.push, 15, none, .call 72 [(.s 0)]⟩,
     ⟨.push, 16, none, .bin false .add (.s 2) (.s 0)⟩,
     ⟨.var 3, 5, none, .mov (.s 0)⟩])
  (.skip))
 (.seq (.region false [
    ⟨.push, 17, none, .mov (.v 3)⟩,
    ⟨.push, 18, none, .mov (.v 1)⟩,
    ⟨.push, 19, none, .bin false .rem (.s 1) (.s 0)⟩,
    ⟨.var 2, 4, none, .mov (.s 0)⟩])
 (.ret))))), [.t 2]⟩
noncomputable def t_spec_l00Src_pick : List (Nat × Ctr) := [(72, c_spec_l00Src_next)]
theorem lk_spec_l00Src_pick_72 : look t_spec_l00Src_pick 72 = some c_spec_l00Src_next := rfl
noncomputable def c_spec_l00Src_pick : Ctr := mkN t_spec_l00Src_pick ir49 [.io, .bor]
theorem s_spec_l00Src_pick : Sound Try.prog 49 c_spec_l00Src_pick := mkN_sound _ (snd_cons s_spec_l00Src_next snd_nil) (by kernel_rfl : chkFn Try.prog 49 ir49 ir49_v = true)
theorem M_spec_l00Src_pick : c_spec_l00Src_pick.modes = [.io, .bor] := rfl
theorem Fl_spec_l00Src_pick : c_spec_l00Src_pick.flat = false := rfl
attribute [go_sem] M_spec_l00Src_pick Fl_spec_l00Src_pick
attribute [go_sem] lk_spec_l00Src_pick_72
theorem Fs_spec_l00Src_pick {s_ : L00Src} {n : Int} {y_ : Int × L00Src} (h : spec_l00Src_pick s_ n = some y_) : c_spec_l00Src_pick.F [.mem 3 [L00Src_av s_], .int .i64 n] = ⟨true, .int .i64 y_.1, [.mem 3 [L00Src_av y_.2], .any]⟩ := by
  refine mkN_E ?_
  dsimp only [spec_l00Src_pick] at h
  rcases it_some h with ⟨hk1, h⟩ | ⟨hk1, h⟩
  · try simp only [go_sem, n1, n2, n3, n4] at hk1
    all_goals
    obtain rfl := so_some h
    refine ⟨0, fun L hL => ?_⟩
    simp only [go_sem, ir49, hk1]
  · try simp only [go_sem, n1, n2, n3, n4] at hk1
    all_goals
    obtain ⟨y_2, hk2, h⟩ := bd_some h
    have fhk2 := Fs_spec_l00Src_next hk2
    try simp only [go_sem] at fhk2
    rcases it_some h with ⟨hk3, h⟩ | ⟨hk3, h⟩
    · try simp only [go_sem, n1, n2, n3, n4, hk1] at hk3
      all_goals
      obtain ⟨y_4, hk4, h⟩ := bd_some h
      have fhk4 := Fs_spec_l00Src_next hk4
      try simp only [go_sem] at fhk4
      obtain ⟨hk5, h⟩ := ck_some h
      try simp only [go_sem, n1, n2, n3, n4, hk1, hk3] at hk5
      all_goals
      obtain rfl := so_some h
      refine ⟨0, fun L hL => ?_⟩
      simp only [go_sem, ir49, hk1, fhk2, hk3, fhk4, hk5]
    · try simp only [go_sem, n1, n2, n3, n4, hk1] at hk3
      all_goals
      obtain ⟨hk6, h⟩ := ck_some h
      try simp only [go_sem, n1, n2, n3, n4, hk1, hk3] at hk6
      all_goals
      obtain rfl := so_some h
      refine ⟨0, fun L hL => ?_⟩
      simp only [go_sem, ir49, hk1, fhk2, hk3, hk6]


def ir48_v : List Nat := [0, 1, 4]
def ir48 : AFn := ⟨2, 3, .seq (.region false [
    ⟨.var 2, 4, none, .mov (.c (.bool false))⟩])
 (.seq (.region false [
    ⟨.push, 5, none, .mov (.v 0)⟩,
    ⟨.push, 6, none, .mov (.v 1)⟩,
    ⟨.push, 7, none, .call 49 [(.s 1), (.s 0)]⟩,
    ⟨.push, 8, none, .bin false .eql (.s 0) (.c (.int .i64 (0)))⟩,
    ⟨.var 2, 4, none, .mov (.s 0)⟩])
 (.ret)), [.t 2]⟩
noncomputable def t_spec_l00Src_one : List (Nat × Ctr) := [(49, c_spec_l00Src_pick)]
theorem lk_spec_l00Src_one_49 : look t_spec_l00Src_one 49 = some c_spec_l00Src_pick := rfl
noncomputable def c_spec_l00Src_one : Ctr := mkN t_spec_l00Src_one ir48 [.io, .bor]
theorem s_spec_l00Src_one : Sound Try.prog 48 c_spec_l00Src_one := mkN_sound _ (snd_cons s_spec_l00Src_pick snd_nil) (by kernel_rfl : chkFn Try.prog 48 ir48 ir48_v = true)
theorem M_spec_l00Src_one : c_spec_l00Src_one.modes = [.io, .bor] := rfl
theorem Fl_spec_l00Src_one : c_spec_l00Src_one.flat = false := rfl
attribute [go_sem] M_spec_l00Src_one Fl_spec_l00Src_one
attribute [go_sem] lk_spec_l00Src_one_49
theorem Fs_spec_l00Src_one {s_ : L00Src} {n : Int} {y_ : Bool × L00Src} (h : spec_l00Src_one s_ n = some y_) : c_spec_l00Src_one.F [.mem 3 [L00Src_av s_], .int .i64 n] = ⟨true, .bool y_.1, [.mem 3 [L00Src_av y_.2], .any]⟩ := by
  refine mkN_E ?_
  dsimp only [spec_l00Src_one] at h
  obtain ⟨y_1, hk1, h⟩ := bd_some h
  have fhk1 := Fs_spec_l00Src_pick hk1
  try simp only [go_sem] at fhk1
  obtain rfl := so_some h
  refine ⟨0, fun L hL => ?_⟩
  simp only [go_sem, ir48, fhk1]


def ir52_v : List Nat := [0, 1, 4]
def ir52 : AFn := ⟨2, 3, .seq (.region false [
    ⟨.var 2, 4, none, .mov (.c (.int .i64 (0)))⟩])
 (.seq (.test false [
    ⟨.push, 5, none, .mov (.v 0)⟩,
    ⟨.push, 6, none, .mov (.v 1)⟩,
    ⟨.push, 7, none, .bin false .lss (.s 1) (.s 0)⟩] (.s 0)
  (.seq (.region false [
      ⟨.push, 8, none, .mov (.v 0)⟩,
      ⟨.var 2, 4, none, .mov (.s 0)⟩])
   (.ret))
  (.skip))
 (.seq (.region false [
    ⟨.push, 9, none, .mov (.v 1)⟩,
    ⟨.var 2, 4, none, .mov (.s 0)⟩])
 (.ret))), [.t 2]⟩
noncomputable def t_spec_l00Min : List (Nat × Ctr) := []
noncomputable def c_spec_l00Min : Ctr := mkF t_spec_l00Min ir52 [.bor, .bor]
theorem s_spec_l00Min : Sound Try.prog 52 c_spec_l00Min := mkF_sound _ rfl snd_nil (by kernel_rfl : chkFn Try.prog 52 ir52 ir52_v = true)
theorem M_spec_l00Min : c_spec_l00Min.modes = [.bor, .bor] := rfl
theorem Fl_spec_l00Min : c_spec_l00Min.flat = true := rfl
attribute [go_sem] M_spec_l00Min Fl_spec_l00Min
theorem Fs_spec_l00Min {a : Int} {b : Int} {y_ : Int} (h : spec_l00Min a b = some y_) : c_spec_l00Min.F [.int .i64 a, .int .i64 b] = ⟨true, .int .i64 y_, [.any, .any]⟩ := by
  refine mkF_E rfl ?_
  dsimp only [spec_l00Min] at h
  rcases it_some h with ⟨hk1, h⟩ | ⟨hk1, h⟩
  · try simp only [go_sem, n1, n2, n3, n4] at hk1
    all_goals
    obtain rfl := so_some h
    refine ⟨0, fun L hL => ?_⟩
    simp only [go_sem, ir52, hk1]
  · try simp only [go_sem, n1, n2, n3, n4] at hk1
    all_goals
    obtain rfl := so_some h
    refine ⟨0, fun L hL => ?_⟩
    simp only [go_sem, ir52, hk1]


def ir50_v : List Nat := [0, 1, 4]
def ir50 : AFn := ⟨2, 3, .seq (.region false [
    ⟨.var 2, 4, none, .mov (.c (.int .i64 (0)))⟩])
 (.seq (.region false [
    ⟨.push, 5, none, .mov (.v 1)⟩,
    ⟨.push, 6, none, .mov (.v 0)⟩,
    ⟨.push, 7, none, .mov (.v 1)⟩,
    ⟨.push, 8, none, .len false (.s 0)⟩,
    ⟨.push, 9, none, .call 49 [(.s 2), (.s 0)]⟩,
    ⟨.push, 10, none, .ixAddr 1 (.s 4) (.s 0)⟩,
    ⟨.push, 11, none, .load false 1 (.s 0)⟩,
    ⟨.var 2, 4, none, .mov (.s 0)⟩])
 (.ret)), [.t 2]⟩
noncomputable def t_spec_l00Src_among : List (Nat × Ctr) := [(49, c_spec_l00Src_pick)]
theorem lk_spec_l00Src_among_49 : look t_spec_l00Src_among 49 = some c_spec_l00Src_pick := rfl
noncomputable def c_spec_l00Src_among : Ctr := mkN t_spec_l00Src_among ir50 [.io, .bor]
theorem s_spec_l00Src_among : Sound Try.prog 50 c_spec_l00Src_among := mkN_sound _ (snd_cons s_spec_l00Src_pick snd_nil) (by kernel_rfl : chkFn Try.prog 50 ir50 ir50_v = true)
theorem M_spec_l00Src_among : c_spec_l00Src_among.modes = [.io, .bor] := rfl
theorem Fl_spec_l00Src_among : c_spec_l00Src_among.flat = false := rfl
attribute [go_sem] M_spec_l00Src_among Fl_spec_l00Src_among
attribute [go_sem] lk_spec_l00Src_among_49
theorem Fs_spec_l00Src_among {s_ : L00Src} {list : List Int} {y_ : Int × L00Src} (h : spec_l00Src_among s_ list = some y_) : c_spec_l00Src_among.F [.mem 3 [L00Src_av s_], .sl 1 (List.map (AV.int .i64) list)] = ⟨true, .int .i64 y_.1, [.mem 3 [L00Src_av y_.2], .any]⟩ := by
  refine mkN_E ?_
  dsimp only [spec_l00Src_among] at h
  obtain ⟨y_1, hk1, h⟩ := bd_some h
  have fhk1 := Fs_spec_l00Src_pick hk1
  try simp only [go_sem] at fhk1
  obtain ⟨hk2, h⟩ := ck_some h
  have lhk2 := ix_lt hk2
  have xhk2 := getD_mapD (AV.int .i64) list lhk2
  try simp only [go_sem] at lhk2
  try simp only [go_sem] at xhk2
  try simp only [go_sem, n1, n2, n3, n4] at hk2
  all_goals
  obtain rfl := so_some h
  refine ⟨0, fun L hL => ?_⟩
  simp only [go_sem, ir50, fhk1, hk2, lhk2, xhk2]


def ir51_v : List Nat := [0, 2]
def ir51 : AFn := ⟨1, 2, .seq (.region false [
    ⟨.var 1, 2, none, .mov (.c (.int .i64 (0)))⟩])
 (.seq (.test false [
    ⟨.push, 3, none, .mov (.v 0)⟩,
    ⟨.push, 4, none, .call 48 [(.s 0), (.c (.int .i64 (8)))]⟩] (.s 0)
  (.seq (.region false [
      ⟨.push, 5, none, .mov (.v 0)⟩,
      ⟨.push, 6, none, .call 49 [(.s 0), (.c (.int .i64 (22001)))]⟩,
      ⟨.push, 7, none, .bin false .add (.s 0) (.c (.int .i64 (-2000)))⟩,
      ⟨.var 1, 2, none, .mov (.s 0)⟩])
   (.ret))
  (.skip))
 (.seq (.region false [
    ⟨.push, 8, none, .mov (.v 0)⟩,
    ⟨.push, 9, none, .call 49 [(.s 0), (.c (.int .i64 (60)))]⟩,
    ⟨.push, 10, none, .bin false .mul (.c (.int .i64 (50))) (.s 0)⟩,
    ⟨.push, 11, none, .bin false .add (.c (.int .i64 (8000))) (.s 0)⟩,
    ⟨.var 1, 2, none, .mov (.s 0)⟩])
 (.ret))), [.t 1]⟩
noncomputable def t_spec_l02Draw : List (Nat × Ctr) := [(48, c_spec_l00Src_one), (49, c_spec_l00Src_pick)]
theorem lk_spec_l02Draw_48 : look t_spec_l02Draw 48 = some c_spec_l00Src_one := rfl
theorem lk_spec_l02Draw_49 : look t_spec_l02Draw 49 = some c_spec_l00Src_pick := rfl
noncomputable def c_spec_l02Draw : Ctr := mkN t_spec_l02Draw ir51 [.io]
theorem s_spec_l02Draw : Sound Try.prog 51 c_spec_l02Draw := mkN_sound _ (snd_cons s_spec_l00Src_one (snd_cons s_spec_l00Src_pick snd_nil)) (by kernel_rfl : chkFn Try.prog 51 ir51 ir51_v = true)
theorem M_spec_l02Draw : c_spec_l02Draw.modes = [.io] := rfl
theorem Fl_spec_l02Draw : c_spec_l02Draw.flat = false := rfl
attribute [go_sem] M_spec_l02Draw Fl_spec_l02Draw
attribute [go_sem] lk_spec_l02Draw_48 lk_spec_l02Draw_49
theorem Fs_spec_l02Draw {s_ : L00Src} {y_ : Int × L00Src} (h : spec_l02Draw s_ = some y_) : c_spec_l02Draw.F [.mem 3 [L00Src_av s_]] = ⟨true, .int .i64 y_.1, [.mem 3 [L00Src_av y_.2]]⟩ := by
  refine mkN_E ?_
  dsimp only [spec_l02Draw] at h
  obtain ⟨y_1, hk1, h⟩ := bd_some h
  have fhk1 := Fs_spec_l00Src_one hk1
  try simp only [go_sem] at fhk1
  rcases it_some h with ⟨hk2, h⟩ | ⟨hk2, h⟩
  · try simp only [go_sem, n1, n2, n3, n4] at hk2
    all_goals
    obtain ⟨y_3, hk3, h⟩ := bd_some h
    have fhk3 := Fs_spec_l00Src_pick hk3
    try simp only [go_sem] at fhk3
    obtain rfl := so_some h
    refine ⟨0, fun L hL => ?_⟩
    simp only [go_sem, ir51, fhk1, hk2, fhk3]
  · try simp only [go_sem, n1, n2, n3, n4] at hk2
    all_goals
    obtain ⟨y_4, hk4, h⟩ := bd_some h
    have fhk4 := Fs_spec_l00Src_pick hk4
    try simp only [go_sem] at fhk4
    obtain rfl := so_some h
    refine ⟨0, fun L hL => ?_⟩
    simp only [go_sem, ir51, fhk1, hk2, fhk4]


def ir24_v : List Nat := [0, 1, 4, 5]
def ir24 : AFn := ⟨2, 4, .seq (.region false [
    ⟨.var 2, 4, none, .alloc (.agg [.str [], .int .i64 (0), .int .i64 (0), .int .i64 (0), .int .i64 (0)])⟩])
 (.seq (.region false [
    ⟨.push, 6, none, .mov (.v 1)⟩,
    ⟨.push, 7, none, .mov (.v 0)⟩,
    ⟨.push, 8, none, .call 49 [(.s 0), (.c (.int .i64 (86400)))]⟩,
    ⟨.push, 9, none, .build [.str [], .int .i64 (0), .int .i64 (0), .int .i64 (0), .int .i64 (0)] [(0, 1, (.s 2)), (1, 1, (.s 0))]⟩,
    ⟨.var 3, 5, none, .alloc (.agg [.str [], .int .i64 (0), .int .i64 (0), .int .i64 (0), .int .i64 (0)])⟩,
    ⟨.no, 0, none, .store 5 (.v 3) (.s 0)⟩])
 (.seq (.test false [
    ⟨.push, 10, none, .mov (.v 0)⟩,
    ⟨.push, 11, none, .call 48 [(.s 0), (.c (.int .i64 (3)))]⟩] (.s 0)
  (.region false [
     ⟨.push, 12, none, .mov (.v 0)⟩,
     ⟨.push, 13, none, .mkSl 1 (.int .i64 (0)) 5 [(0, (.c (.int .i64 (0)))), (1, (.c (.int .i64 (10)))), (2, (.c (.int .i64 (100)))), (3, (.c (.int .i64 (86300)))), (4, (.c (.int .i64 (86399))))]⟩,
     ⟨.push, 14, none, .call 50 [(.s 1), (.s 0)]⟩,
     ⟨.push, 15, none, .fldAddr 1 (.v 3)⟩,
     ⟨.no, 0, none, .store 1 (.s 0) (.s 1)⟩])
  (.skip))
 (.seq (.region false [
    ⟨.push, 16, none, .mov (.v 0)⟩,
    ⟨.push, 17, none, .call 49 [(.s 0), (.c (.int .i64 (648001)))]⟩,
    ⟨.push, 18, none, .bin false .sub (.s 0) (.c (.int .i64 (324000)))⟩,
    ⟨.push, 19, none, .fldAddr 2 (.v 3)⟩,
    ⟨.no, 0, none, .store 1 (.s 0) (.s 1)⟩])
 (.seq (.test false [
    ⟨.push, 20, none, .mov (.v 0)⟩,
    ⟨.push, 21, none, .call 48 [(.s 0), (.c (.int .i64 (3)))]⟩] (.s 0)
  (.region false [
     ⟨.push, 22, none, .mov (.v 0)⟩,
     ⟨.push, 23, none, .call 49 [(.s 0), (.c (.int .i64 (9)))]⟩,
     ⟨.push, 24, none, .bin false .sub (.s 0) (.c (.int .i64 (4)))⟩,
     ⟨.push, 25, none, .bin false .mul (.c (.int .i64 (3600))) (.s 0)⟩,
     ⟨.push, 26, none, .fldAddr 2 (.v 3)⟩,
     ⟨.no, 0, none, .store 1 (.s 0) (.s 1)⟩])
  (.skip))
 (.seq (.region false [
    ⟨.push, 27, none, .mov (.v 0)⟩,
    ⟨.push, 28, none, .call 51 [(.s 0)]⟩,
    ⟨.push, 29, none, .fldAddr 3 (.v 3)⟩,
    ⟨.no, 0, none, .store 1 (.s 0) (.s 1)⟩])
 (.seq (.anyo 8 [
    ⟨.slot 0, 30, none, .fldAddr 3 (.v 3)⟩,
    ⟨.slot 1, 31, none, .load false 1 (.s 0)⟩,
    ⟨.slot 2, 32, none, .mov (.v 0)⟩,
    ⟨.slot 3, 33, none, .call 49 [(.s 2), (.c (.int .i64 (40)))]⟩,
    ⟨.slot 4, 34, none, .bin false .mul (.c (.int .i64 (100))) (.s 3)⟩,
    ⟨.slot 5, 35, none, .bin false .add (.s 1) (.s 4)⟩,
    ⟨.slot 6, 36, none, .callp 52 [(.c (.int .i64 (20000))), (.s 5)]⟩,
    ⟨.slot 7, 37, none, .fldAddr 4 (.v 3)⟩,
    ⟨.no, 0, none, .store 1 (.s 7) (.s 6)⟩] [[2, 0, 1, 3, 4, 5, 6, 7, 8], [2, 0, 3, 1, 4, 5, 6, 7, 8], [2, 3, 0, 1, 4, 5, 6, 7, 8]] .skip)
 (.seq (.region false [
    ⟨.push, 38, none, .load true 5 (.v 3)⟩,
    ⟨.no, 0, none, .store 5 (.v 2) (.s 0)⟩])
 (.ret)))))))), [.cell true 5 2]⟩
noncomputable def t_spec_l04New : List (Nat × Ctr) := [(49, c_spec_l00Src_pick), (48, c_spec_l00Src_one), (50, c_spec_l00Src_among), (51, c_spec_l02Draw), (52, c_spec_l00Min)]
theorem lk_spec_l04New_49 : look t_spec_l04New 49 = some c_spec_l00Src_pick := rfl
theorem lk_spec_l04New_48 : look t_spec_l04New 48 = some c_spec_l00Src_one := rfl
theorem lk_spec_l04New_50 : look t_spec_l04New 50 = some c_spec_l00Src_among := rfl
theorem lk_spec_l04New_51 : look t_spec_l04New 51 = some c_spec_l02Draw := rfl
theorem lk_spec_l04New_52 : look t_spec_l04New 52 = some c_spec_l00Min := rfl
noncomputable def c_spec_l04New : Ctr := mkN t_spec_l04New ir24 [.io, .bor]
theorem s_spec_l04New : Sound Try.prog 24 c_spec_l04New := mkN_sound _ (snd_cons s_spec_l00Src_pick (snd_cons s_spec_l00Src_one (snd_cons s_spec_l00Src_among (snd_cons s_spec_l02Draw (snd_cons s_spec_l00Min snd_nil))))) (by kernel_rfl : chkFn Try.prog 24 ir24 ir24_v = true)
theorem M_spec_l04New : c_spec_l04New.modes = [.io, .bor] := rfl
theorem Fl_spec_l04New : c_spec_l04New.flat = false := rfl
attribute [go_sem] M_spec_l04New Fl_spec_l04New
attribute [go_sem] lk_spec_l04New_49 lk_spec_l04New_48 lk_spec_l04New_50 lk_spec_l04New_51 lk_spec_l04New_52
theorem Fs_spec_l04New {s_ : L00Src} {name : List UInt8} {y_ : Star × L00Src} (h : spec_l04New s_ name = some y_) : c_spec_l04New.F [.mem 3 [L00Src_av s_], .str name] = ⟨true, Star_av y_.1, [.mem 3 [L00Src_av y_.2], .any]⟩ := by
  refine mkN_E ?_
  dsimp only [spec_l04New] at h
  obtain ⟨y_1, hk1, h⟩ := bd_some h
  have fhk1 := Fs_spec_l00Src_pick hk1
  try simp only [go_sem] at fhk1
  obtain ⟨y_2, hk2, h⟩ := bd_some h
  have fhk2 := Fs_spec_l00Src_one hk2
  try simp only [go_sem] at fhk2
  rcases it_some h with ⟨hk3, h⟩ | ⟨hk3, h⟩
  · try simp only [go_sem, n1, n2, n3, n4] at hk3
    all_goals
    obtain ⟨y_4, hk4, h⟩ := bd_some h
    have fhk4 := Fs_spec_l00Src_among hk4
    try simp only [go_sem] at fhk4
    obtain ⟨y_5, hk5, h⟩ := bd_some h
    have fhk5 := Fs_spec_l00Src_pick hk5
    try simp only [go_sem] at fhk5
    obtain ⟨y_6, hk6, h⟩ := bd_some h
    have fhk6 := Fs_spec_l00Src_one hk6
    try simp only [go_sem] at fhk6
    rcases it_some h with ⟨hk7, h⟩ | ⟨hk7, h⟩
    · try simp only [go_sem, n1, n2, n3, n4, hk3] at hk7
      all_goals
      obtain ⟨y_8, hk8, h⟩ := bd_some h
      have fhk8 := Fs_spec_l00Src_pick hk8
      try simp only [go_sem] at fhk8
      obtain ⟨y_9, hk9, h⟩ := bd_some h
      have fhk9 := Fs_spec_l02Draw hk9
      try simp only [go_sem] at fhk9
      obtain ⟨y_10, hk10, h⟩ := bd_some h
      have fhk10 := Fs_spec_l00Src_pick hk10
      try simp only [go_sem] at fhk10
      obtain ⟨y_11, hk11, h⟩ := bd_some h
      have fhk11 := Fs_spec_l00Min hk11
      try simp only [go_sem] at fhk11
      obtain rfl := so_some h
      refine ⟨0, fun L hL => ?_⟩
      simp only [go_sem, ir24, fhk1, fhk2, hk3, fhk4, fhk5, fhk6, hk7, fhk8, fhk9, fhk10, fhk11]
    · try simp only [go_sem, n1, n2, n3, n4, hk3] at hk7
      all_goals
      obtain ⟨y_12, hk12, h⟩ := bd_some h
      have fhk12 := Fs_spec_l02Draw hk12
      try simp only [go_sem] at fhk12
      obtain ⟨y_13, hk13, h⟩ := bd_some h
      have fhk13 := Fs_spec_l00Src_pick hk13
      try simp only [go_sem] at fhk13
      obtain ⟨y_14, hk14, h⟩ := bd_some h
      have fhk14 := Fs_spec_l00Min hk14
      try simp only [go_sem] at fhk14
      obtain rfl := so_some h
      refine ⟨0, fun L hL => ?_⟩
      simp only [go_sem, ir24, fhk1, fhk2, hk3, fhk4, fhk5, fhk6, hk7, fhk12, fhk13, fhk14]
  · try simp only [go_sem, n1, n2, n3, n4] at hk3
    all_goals
    obtain ⟨y_15, hk15, h⟩ := bd_some h
    have fhk15 := Fs_spec_l00Src_pick hk15
    try simp only [go_sem] at fhk15
    obtain ⟨y_16, hk16, h⟩ := bd_some h
    have fhk16 := Fs_spec_l00Src_one hk16
    try simp only [go_sem] at fhk16
    rcases it_some h with ⟨hk17, h⟩ | ⟨hk17, h⟩
    · try simp only [go_sem, n1, n2, n3, n4, hk3] at hk17
      all_goals
      obtain ⟨y_18, hk18, h⟩ := bd_some h
      have fhk18 := Fs_spec_l00Src_pick hk18
      try simp only [go_sem] at fhk18
      obtain ⟨y_19, hk19, h⟩ := bd_some h
      have fhk19 := Fs_spec_l02Draw hk19
      try simp only [go_sem] at fhk19
      obtain ⟨y_20, hk20, h⟩ := bd_some h
      have fhk20 := Fs_spec_l00Src_pick hk20
      try simp only [go_sem] at fhk20
      obtain ⟨y_21, hk21, h⟩ := bd_some h
      have fhk21 := Fs_spec_l00Min hk21
      try simp only [go_sem] at fhk21
      obtain rfl := so_some h
      refine ⟨0, fun L hL => ?_⟩
      simp only [go_sem, ir24, fhk1, fhk2, hk3, fhk15, fhk16, hk17, fhk18, fhk19, fhk20, fhk21]
    · try simp only [go_sem, n1, n2, n3, n4, hk3] at hk17
      all_goals
      obtain ⟨y_22, hk22, h⟩ := bd_some h
      have fhk22 := Fs_spec_l02Draw hk22
      try simp only [go_sem] at fhk22
      obtain ⟨y_23, hk23, h⟩ := bd_some h
      have fhk23 := Fs_spec_l00Src_pick hk23
      try simp only [go_sem] at fhk23
      obtain ⟨y_24, hk24, h⟩ := bd_some h
      have fhk24 := Fs_spec_l00Min hk24
      try simp only [go_sem] at fhk24
      obtain rfl := so_some h
      refine ⟨0, fun L hL => ?_⟩
      simp only [go_sem, ir24, fhk1, fhk2, hk3, fhk15, fhk16, hk17, fhk22, fhk23, fhk24]


def ir22_b0 : IR := .seq (.test false [
    ⟨.push, 8, none, .mov (.v 4)⟩,
    ⟨.push, 9, none, .mov (.v 2)⟩,
    ⟨.push, 10, none, .len false (.s 0)⟩,
    ⟨.push, 11, none, .bin false .lss (.s 2) (.s 0)⟩] (.s 0)
  (.skip)
  (.exit 0))
 (.seq (.block 1 (.test false [
     ⟨.push, 14, none, .mov (.v 0)⟩,
     ⟨.push, 15, none, .call 48 [(.s 0), (.c (.int .i64 (2)))]⟩] (.s 0)
   (.region false [
      ⟨.push, 16, none, .mov (.v 3)⟩,
      ⟨.push, 17, none, .mov (.v 0)⟩,
      ⟨.push, 18, none, .mov (.v 2)⟩,
      ⟨.push, 19, none, .mov (.v 4)⟩,
      ⟨.push, 20, none, .ixAddr 1 (.s 1) (.s 0)⟩,
      ⟨.push, 21, none, .load false 1 (.s 0)⟩,
      ⟨.push, 22, none, .call 24 [(.s 4), (.s 0)]⟩,
      ⟨.push, 23, none, .mkSl 5 (.agg [.str [], .int .i64 (0), .int .i64 (0), .int .i64 (0), .int .i64 (0)]) 1 [(0, (.s 0))]⟩,
      ⟨.push, 24, none, .app 5 48 (.agg [.str [], .int .i64 (0), .int .i64 (0), .int .i64 (0), .int .i64 (0)]) (.s 7) (.s 0)⟩,
      ⟨.var 3, 4, none, .mov (.s 0)⟩])
   (.skip)))
 (.region false [
   ⟨.push, 12, none, .mov (.v 4)⟩,
   ⟨.push, 13, none, .bin false .add (.s 0) (.c (.int .i64 (1)))⟩,
   ⟨.var 4, 5, none, .mov (.s 0)⟩]))
def ir22_k0 : List Bool := [true, false, true, true, true]
def ir22_o0 : List Bool := [true, false, false, true, false]
def ir22_r0 : List Bool := [true, true, false, false, false]
def ir22_v : List Nat := [0, 2, 3, 4, 5]
def ir22 : AFn := ⟨1, 5, .seq (.region false [
    ⟨.var 1, 2, none, .newnil 5⟩])
 (.seq (.region false [
    ⟨.push, 6, none, .call 26 []⟩,
    ⟨.var 2, 3, none, .mov (.s 0)⟩])
 (.seq (.region false [
    ⟨.push, 7, none, .mkSl 5 (.agg [.str [], .int .i64 (0), .int .i64 (0), .int .i64 (0), .int .i64 (0)]) 0 []⟩,
    ⟨.var 3, 4, none, .mov (.s 0)⟩])
 (.seq (.seq (.region false [
     ⟨.var 4, 5, none, .mov (.c (.int .i64 (0)))⟩])
  (.block 0 (.loop ir22_k0 ir22_o0 ir22_r0 ir22_b0)))
 (.seq (.region false [
    ⟨.push, 25, none, .mov (.v 3)⟩,
    ⟨.var 1, 2, none, .mov (.s 0)⟩])
 (.ret))))), [.t 1]⟩
noncomputable def t_spec_l04Draw : List (Nat × Ctr) := [(26, c_spec_l04Names), (48, c_spec_l00Src_one), (24, c_spec_l04New)]
theorem lk_spec_l04Draw_26 : look t_spec_l04Draw 26 = some c_spec_l04Names := rfl
theorem lk_spec_l04Draw_48 : look t_spec_l04Draw 48 = some c_spec_l00Src_one := rfl
theorem lk_spec_l04Draw_24 : look t_spec_l04Draw 24 = some c_spec_l04New := rfl
noncomputable def c_spec_l04Draw : Ctr := mkN t_spec_l04Draw ir22 [.io]
theorem s_spec_l04Draw : Sound Try.prog 22 c_spec_l04Draw := mkN_sound _ (snd_cons s_spec_l04Names (snd_cons s_spec_l00Src_one (snd_cons s_spec_l04New snd_nil))) (by kernel_rfl : chkFn Try.prog 22 ir22 ir22_v = true)
theorem M_spec_l04Draw : c_spec_l04Draw.modes = [.io] := rfl
theorem Fl_spec_l04Draw : c_spec_l04Draw.flat = false := rfl
attribute [go_sem] M_spec_l04Draw Fl_spec_l04Draw
attribute [go_sem] lk_spec_l04Draw_26 lk_spec_l04Draw_48 lk_spec_l04Draw_24
def E_spec_l04Draw_l1 (names : List (List UInt8)) : (L00Src × (List Star) × Int) → St
  | (s_, out, k) => ⟨[.ref 31 0 0, .any, .own 3200032, .own 3200064, .int .i64 k], [], [(31, ⟨3, [L00Src_av s_]⟩), (3200032, ⟨1, List.map AV.str names⟩), (3200064, ⟨5, List.map Star_av out⟩)], true⟩
def R_spec_l04Draw_l1 (names : List (List UInt8)) (y : L00Src × (List Star)) : Res := (.exit 0, ⟨[.ref 31 0 0, .any, .any, .own 3200032, .any], [], [(31, ⟨3, [L00Src_av y.1]⟩), (3200032, ⟨5, List.map Star_av y.2⟩)], true⟩)
theorem spec_l04Draw_l1_ex {names : List (List UInt8)} {sgm_ : L00Src × (List Star) × Int} {rho_ : L00Src × (List Star)} (h : whileE (spec_l04Draw_l1 names) sgm_ = some rho_) : ∃ L0, ∀ L, L0 ≤ L → iter (exec (look t_spec_l04Draw) L ir22_b0) ir22_k0 ir22_o0 ir22_r0 L (E_spec_l04Draw_l1 names sgm_) = R_spec_l04Draw_l1 names rho_ := by
  refine loop_ex (E := E_spec_l04Draw_l1 names) (R := R_spec_l04Draw_l1 names) (fun y => by first | (intro c; cases c) | (rcases y with y | y <;> (intro c; cases c)) | (rcases y with y | y | y <;> (intro c; cases c))) ?_ h
  clear h
  rintro ⟨s_, out, k⟩ o_ h
  dsimp only [spec_l04Draw_l1] at h
  rcases it_some h with ⟨hk2, h⟩ | ⟨hk2, h⟩
  · try simp only [go_sem, n1, n2, n3, n4] at hk2
    all_goals
    obtain ⟨y_3, hk3, h⟩ := bd_some h
    have fhk3 := Fs_spec_l00Src_one hk3
    try simp only [go_sem] at fhk3
    rcases it_some h with ⟨hk4, h⟩ | ⟨hk4, h⟩
    · try simp only [go_sem, n1, n2, n3, n4, hk2] at hk4
      all_goals
      obtain ⟨hk5, h⟩ := ck_some h
      have lhk5 := ix_lt hk5
      have xhk5 := getD_mapD AV.str names lhk5
      try simp only [go_sem] at lhk5
      try simp only [go_sem] at xhk5
      try simp only [go_sem, n1, n2, n3, n4, hk2, hk4] at hk5
      all_goals
      obtain ⟨y_6, hk6, h⟩ := bd_some h
      have fhk6 := Fs_spec_l04New hk6
      try simp only [go_sem] at fhk6
      obtain ⟨hk7, h⟩ := ck_some h
      try simp only [go_sem, n1, n2, n3, n4, hk2, hk4, hk5] at hk7
      all_goals
      obtain rfl := so_some h
      refine ⟨0, fun L hL => ?_⟩
      simp only [go_sem, ir22, E_spec_l04Draw_l1, R_spec_l04Draw_l1, ir22_b0, ir22_k0, ir22_o0, ir22_r0, hk2, fhk3, hk4, hk5, lhk5, xhk5, fhk6, hk7]
    · try simp only [go_sem, n1, n2, n3, n4, hk2] at hk4
      all_goals
      obtain rfl := so_some h
      refine ⟨0, fun L hL => ?_⟩
      simp only [go_sem, ir22, E_spec_l04Draw_l1, R_spec_l04Draw_l1, ir22_b0, ir22_k0, ir22_o0, ir22_r0, hk2, fhk3, hk4]
  · try simp only [go_sem, n1, n2, n3, n4] at hk2
    all_goals
    obtain rfl := so_some h
    refine ⟨0, fun L hL => ?_⟩
    simp only [go_sem, ir22, E_spec_l04Draw_l1, R_spec_l04Draw_l1, ir22_b0, ir22_k0, ir22_o0, ir22_r0, hk2]

theorem Fs_spec_l04Draw {s_ : L00Src} {y_ : (List Star) × L00Src} (h : spec_l04Draw s_ = some y_) : c_spec_l04Draw.F [.mem 3 [L00Src_av s_]] = ⟨true, .fresh 5 (List.map Star_av y_.1), [.mem 3 [L00Src_av y_.2]]⟩ := by
  refine mkN_E ?_
  dsimp only [spec_l04Draw] at h
  obtain ⟨y_1, hk1, h⟩ := bd_some h
  have fhk1 := Fs_spec_l04Names hk1
  try simp only [go_sem] at fhk1
  obtain ⟨y_8, hk8, h⟩ := bd_some h
  obtain ⟨Lhk8, ehk8⟩ := spec_l04Draw_l1_ex hk8
  obtain rfl := so_some h
  refine ⟨Lhk8, fun L hL => ?_⟩
  have ehk8 := ehk8 L (by omega)
  try simp only [go_sem, E_spec_l04Draw_l1, R_spec_l04Draw_l1, ir22_k0, ir22_o0, ir22_r0] at ehk8
  simp only [go_sem, ir22, E_spec_l04Draw_l1, R_spec_l04Draw_l1, ir22_k0, ir22_o0, ir22_r0, fhk1, ehk8]


def ir6_v : List Nat := [0, 2]
def ir6 : AFn := ⟨1, 2, .seq (.region false [
    ⟨.var 1, 2, none, .newnil 5⟩])
 (.seq (.region false [
    ⟨.push, 3, none, .mov (.v 0)⟩,
    ⟨.push, 4, none, .call 23 [(.s 0)]⟩,
    ⟨.push, 5, none, .call 22 [(.s 0)]⟩,
    ⟨.var 1, 2, none, .mov (.s 0)⟩])
 (.ret)), [.t 1]⟩
noncomputable def t_spec_A2Stars : List (Nat × Ctr) := [(23, c_spec_l00From), (22, c_spec_l04Draw)]
theorem lk_spec_A2Stars_23 : look t_spec_A2Stars 23 = some c_spec_l00From := rfl
theorem lk_spec_A2Stars_22 : look t_spec_A2Stars 22 = some c_spec_l04Draw := rfl
noncomputable def c_spec_A2Stars : Ctr := mkF t_spec_A2Stars ir6 [.bor]
theorem s_spec_A2Stars : Sound Try.prog 6 c_spec_A2Stars := mkF_sound _ rfl (snd_cons s_spec_l00From (snd_cons s_spec_l04Draw snd_nil)) (by kernel_rfl : chkFn Try.prog 6 ir6 ir6_v = true)
theorem M_spec_A2Stars : c_spec_A2Stars.modes = [.bor] := rfl
theorem Fl_spec_A2Stars : c_spec_A2Stars.flat = true := rfl
attribute [go_sem] M_spec_A2Stars Fl_spec_A2Stars
attribute [go_sem] lk_spec_A2Stars_23 lk_spec_A2Stars_22
theorem Fs_spec_A2Stars {code : List UInt8} {y_ : (List Star)} (h : spec_A2Stars code = some y_) : c_spec_A2Stars.F [.sl 1 (List.map byteAV code)] = ⟨true, .fresh 5 (List.map Star_av y_), [.any]⟩ := by
  refine mkF_E (by simp only [flatA, flatB, flat1, List.all_cons, List.all_nil, Bool.and_self, flatE_map (f := Star_av) (fun _ => rfl)]) ?_
  dsimp only [spec_A2Stars] at h
  obtain ⟨y_1, hk1, h⟩ := bd_some h
  have fhk1 := Fs_spec_l00From hk1
  try simp only [go_sem] at fhk1
  obtain ⟨y_2, hk2, h⟩ := bd_some h
  have fhk2 := Fs_spec_l04Draw hk2
  try simp only [go_sem] at fhk2
  obtain rfl := so_some h
  refine ⟨0, fun L hL => ?_⟩
  simp only [go_sem, ir6, fhk1, fhk2]


def ir25_v : List Nat := [0, 1, 4]
def ir25 : AFn := ⟨2, 3, .seq (.region false [
    ⟨.var 2, 4, none, .mov (.c (.str []))⟩])
 (.seq (.region false [
    ⟨.push, 5, none, .mov (.v 1)⟩,
    ⟨.push, 6, none, .mov (.v 0)⟩,
    ⟨.push, 7, none, .mov (.v 1)⟩,
    ⟨.push, 8, none, .len false (.s 0)⟩,
    ⟨.push, 9, none, .call 49 [(.s 2), (.s 0)]⟩,
    ⟨.push, 10, none, .ixAddr 1 (.s 4) (.s 0)⟩,
    ⟨.push, 11, none, .load false 1 (.s 0)⟩,
    ⟨.var 2, 4, none, .mov (.s 0)⟩])
 (.ret)), [.t 2]⟩
noncomputable def t_spec_l00Src_text : List (Nat × Ctr) := [(49, c_spec_l00Src_pick)]
theorem lk_spec_l00Src_text_49 : look t_spec_l00Src_text 49 = some c_spec_l00Src_pick := rfl
noncomputable def c_spec_l00Src_text : Ctr := mkN t_spec_l00Src_text ir25 [.io, .bor]
theorem s_spec_l00Src_text : Sound Try.prog 25 c_spec_l00Src_text := mkN_sound _ (snd_cons s_spec_l00Src_pick snd_nil) (by kernel_rfl : chkFn Try.prog 25 ir25 ir25_v = true)
theorem M_spec_l00Src_text : c_spec_l00Src_text.modes = [.io, .bor] := rfl
theorem Fl_spec_l00Src_text : c_spec_l00Src_text.flat = false := rfl
attribute [go_sem] M_spec_l00Src_text Fl_spec_l00Src_text
attribute [go_sem] lk_spec_l00Src_text_49
theorem Fs_spec_l00Src_text {s_ : L00Src} {list : List (List UInt8)} {y_ : (List UInt8) × L00Src} (h : spec_l00Src_text s_ list = some y_) : c_spec_l00Src_text.F [.mem 3 [L00Src_av s_], .sl 1 (List.map AV.str list)] = ⟨true, .str y_.1, [.mem 3 [L00Src_av y_.2], .any]⟩ := by
  refine mkN_E ?_
  dsimp only [spec_l00Src_text] at h
  obtain ⟨y_1, hk1, h⟩ := bd_some h
  have fhk1 := Fs_spec_l00Src_pick hk1
  try simp only [go_sem] at fhk1
  obtain ⟨hk2, h⟩ := ck_some h
  have lhk2 := ix_lt hk2
  have xhk2 := getD_mapD AV.str list lhk2
  try simp only [go_sem] at lhk2
  try simp only [go_sem] at xhk2
  try simp only [go_sem, n1, n2, n3, n4] at hk2
  all_goals
  obtain rfl := so_some h
  refine ⟨0, fun L hL => ?_⟩
  simp only [go_sem, ir25, fhk1, hk2, lhk2, xhk2]


def ir7_v : List Nat := [0, 2, 3]
def ir7 : AFn := ⟨1, 3, .seq (.region false [
    ⟨.var 1, 2, none, .alloc (.agg [.str [], .int .i64 (0), .int .i64 (0), .int .i64 (0), .int .i64 (0)])⟩])
 (.seq (.region false [
    ⟨.push, 4, none, .mov (.v 0)⟩,
    ⟨.push, 5, none, .call 23 [(.s 0)]⟩,
    ⟨.var 2, 3, none, .mov (.s 0)⟩])
 (.seq (.region false [
    ⟨.push, 6, none, .mov (.v 2)⟩,
    ⟨.push, 7, none, .mov (.v 2)⟩,
    ⟨.push, 8, none, .call 26 []⟩,
    ⟨.push, 9, none, .call 25 [(.s 1), (.s 0)]⟩,
    ⟨.push, 10, none, .call 24 [(.s 3), (.s 0)]⟩,
    ⟨.no, 0, none, .store 5 (.v 1) (.s 0)⟩])
 (.ret))), [.cell true 5 1]⟩
noncomputable def t_spec_A2Star : List (Nat × Ctr) := [(23, c_spec_l00From), (26, c_spec_l04Names), (25, c_spec_l00Src_text), (24, c_spec_l04New)]
theorem lk_spec_A2Star_23 : look t_spec_A2Star 23 = some c_spec_l00From := rfl
theorem lk_spec_A2Star_26 : look t_spec_A2Star 26 = some c_spec_l04Names := rfl
theorem lk_spec_A2Star_25 : look t_spec_A2Star 25 = some c_spec_l00Src_text := rfl
theorem lk_spec_A2Star_24 : look t_spec_A2Star 24 = some c_spec_l04New := rfl
noncomputable def c_spec_A2Star : Ctr := mkN t_spec_A2Star ir7 [.bor]
theorem s_spec_A2Star : Sound Try.prog 7 c_spec_A2Star := mkN_sound _ (snd_cons s_spec_l00From (snd_cons s_spec_l04Names (snd_cons s_spec_l00Src_text (snd_cons s_spec_l04New snd_nil)))) (by kernel_rfl : chkFn Try.prog 7 ir7 ir7_v = true)
theorem M_spec_A2Star : c_spec_A2Star.modes = [.bor] := rfl
theorem Fl_spec_A2Star : c_spec_A2Star.flat = false := rfl
attribute [go_sem] M_spec_A2Star Fl_spec_A2Star
attribute [go_sem] lk_spec_A2Star_23 lk_spec_A2Star_26 lk_spec_A2Star_25 lk_spec_A2Star_24
theorem Fs_spec_A2Star {code : List UInt8} {y_ : Star} (h : spec_A2Star code = some y_) : c_spec_A2Star.F [.sl 1 (List.map byteAV code)] = ⟨true, Star_av y_, [.any]⟩ := by
  refine mkN_E ?_
  dsimp only [spec_A2Star] at h
  obtain ⟨y_1, hk1, h⟩ := bd_some h
  have fhk1 := Fs_spec_l00From hk1
  try simp only [go_sem] at fhk1
  obtain ⟨y_2, hk2, h⟩ := bd_some h
  have fhk2 := Fs_spec_l04Names hk2
  try simp only [go_sem] at fhk2
  obtain ⟨y_3, hk3, h⟩ := bd_some h
  have fhk3 := Fs_spec_l00Src_text hk3
  try simp only [go_sem] at fhk3
  obtain ⟨y_4, hk4, h⟩ := bd_some h
  have fhk4 := Fs_spec_l04New hk4
  try simp only [go_sem] at fhk4
  obtain rfl := so_some h
  refine ⟨0, fun L hL => ?_⟩
  simp only [go_sem, ir7, fhk1, fhk2, fhk3, fhk4]


def ir8_v : List Nat := [0, 1, 2, 6]
def ir8 : AFn := ⟨3, 4, .seq (.region false [
    ⟨.var 3, 6, none, .mov (.c (.int .i64 (0)))⟩])
 (.seq (.test false [
    ⟨.push, 7, none, .mov (.v 1)⟩,
    ⟨.push, 8, none, .mov (.v 0)⟩,
    ⟨.push, 9, none, .len false (.s 0)⟩,
    ⟨.push, 10, none, .bin false .geq (.s 2) (.s 0)⟩,
    ⟨.push, 11, none, .mov (.s 0)⟩,
    ⟨.push, 12, (some ((.s 0), false)), .mov (.v 2)⟩,
    ⟨.push, 13, (some ((.s 1), false)), .bin false .lss (.s 0) (.c (.int .i64 (1)))⟩,
    ⟨.push, 14, none, .pick (.s 2) (.c (.bool true)) (.s 0)⟩] (.s 0)
  (.seq (.region false [
      ⟨.var 3, 6, none, .mov (.c (.int .i64 (0)))⟩])
   (.ret))
  (.skip))
 (.seq (.region false [
    ⟨.push, 15, none, .mov (.v 0)⟩,
    ⟨.push, 16, none, .mov (.v 1)⟩,
    ⟨.push, 17, none, .ixAddr 1 (.s 1) (.s 0)⟩,
    ⟨.push, 18, none, .load false 1 (.s 0)⟩,
    ⟨.push, 19, none, .conv .i64 (.s 0)⟩,
    ⟨.push, 20, none, .mov (.v 2)⟩,
    ⟨.push, 21, none, .bin false .rem (.s 1) (.s 0)⟩,
    ⟨.var 3, 6, none, .mov (.s 0)⟩])
 (.ret))), [.t 3]⟩
noncomputable def t_laws_a2At : List (Nat × Ctr) := []
noncomputable def c_laws_a2At : Ctr := mkF t_laws_a2At ir8 [.bor, .bor, .bor]
theorem s_laws_a2At : Sound Try.prog 8 c_laws_a2At := mkF_sound _ rfl snd_nil (by kernel_rfl : chkFn Try.prog 8 ir8 ir8_v = true)
theorem M_laws_a2At : c_laws_a2At.modes = [.bor, .bor, .bor] := rfl
theorem Fl_laws_a2At : c_laws_a2At.flat = true := rfl
attribute [go_sem] M_laws_a2At Fl_laws_a2At
theorem Fs_laws_a2At {code : List UInt8} {at_ : Int} {n : Int} {y_ : Int} (h : laws_a2At code at_ n = some y_) : c_laws_a2At.F [.sl 1 (List.map byteAV code), .int .i64 at_, .int .i64 n] = ⟨true, .int .i64 y_, [.any, .any, .any]⟩ := by
  refine mkF_E rfl ?_
  dsimp only [laws_a2At] at h
  rcases it_some h with ⟨hk1, h⟩ | ⟨hk1, h⟩
  · try simp only [go_sem, n1, n2, n3, n4] at hk1
    all_goals
    obtain rfl := so_some h
    refine ⟨0, fun L hL => ?_⟩
    simp only [go_sem, ir8, hk1]
  · try simp only [go_sem, n1, n2, n3, n4] at hk1
    all_goals
    obtain ⟨hk2, h⟩ := ck_some h
    have lhk2 := ix_lt hk2
    have xhk2 := getD_mapD byteAV code lhk2
    try simp only [go_sem] at lhk2
    try simp only [go_sem] at xhk2
    try simp only [go_sem, n1, n2, n3, n4, hk1] at hk2
    all_goals
    obtain ⟨hk3, h⟩ := ck_some h
    try simp only [go_sem, n1, n2, n3, n4, hk1, hk2] at hk3
    all_goals
    obtain rfl := so_some h
    refine ⟨0, fun L hL => ?_⟩
    simp only [go_sem, ir8, hk1, hk2, lhk2, xhk2, hk3]


def ir55_v : List Nat := [0, 1, 4, 5]
def ir55 : AFn := ⟨2, 4, .seq (.region false [
    ⟨.var 2, 4, none, .mov (.c (.int .i64 (0)))⟩])
 (.seq (.region false [
    ⟨.push, 6, none, .mov (.v 0)⟩,
    ⟨.push, 7, none, .mov (.v 1)⟩,
    ⟨.push, 8, none, .bin false .quo (.s 1) (.s 0)⟩,
    ⟨.var 3, 5, none, .mov (.s 0)⟩])
 (.seq (.test false [
    ⟨.push, 9, none, .mov (.v 0)⟩,
    ⟨.push, 10, none, .mov (.v 1)⟩,
    ⟨.push, 11, none, .bin false .rem (.s 1) (.s 0)⟩,
    ⟨.push, 12, none, .bin false .lss (.s 0) (.c (.int .i64 (0)))⟩] (.s 0)
  (.region false [
     ⟨.push, 13, none, .mov (.v 3)⟩,
     ⟨.push, 14, none, .bin false .sub (.s 0) (.c (.int .i64 (1)))⟩,
     ⟨.var 3, 5, none, .mov (.s 0)⟩])
  (.skip))
 (.seq (.region false [
    ⟨.push, 15, none, .mov (.v 3)⟩,
    ⟨.var 2, 4, none, .mov (.s 0)⟩])
 (.ret)))), [.t 2]⟩
noncomputable def t_impl_floorDiv : List (Nat × Ctr) := []
noncomputable def c_impl_floorDiv : Ctr := mkF t_impl_floorDiv ir55 [.bor, .bor]
theorem s_impl_floorDiv : Sound Try.prog 55 c_impl_floorDiv := mkF_sound _ rfl snd_nil (by kernel_rfl : chkFn Try.prog 55 ir55 ir55_v = true)
theorem M_impl_floorDiv : c_impl_floorDiv.modes = [.bor, .bor] := rfl
theorem Fl_impl_floorDiv : c_impl_floorDiv.flat = true := rfl
attribute [go_sem] M_impl_floorDiv Fl_impl_floorDiv
theorem Fs_impl_floorDiv {a : Int} {b : Int} {y_ : Int} (h : impl_floorDiv a b = some y_) : c_impl_floorDiv.F [.int .i64 a, .int .i64 b] = ⟨true, .int .i64 y_, [.any, .any]⟩ := by
  refine mkF_E rfl ?_
  dsimp only [impl_floorDiv] at h
  obtain ⟨hk1, h⟩ := ck_some h
  try simp only [go_sem, n1, n2, n3, n4] at hk1
  all_goals
  rcases it_some h with ⟨hk2, h⟩ | ⟨hk2, h⟩
  · try simp only [go_sem, n1, n2, n3, n4, hk1] at hk2
    all_goals
    obtain rfl := so_some h
    refine ⟨0, fun L hL => ?_⟩
    simp only [go_sem, ir55, hk1, hk2]
  · try simp only [go_sem, n1, n2, n3, n4, hk1] at hk2
    all_goals
    obtain rfl := so_some h
    refine ⟨0, fun L hL => ?_⟩
    simp only [go_sem, ir55, hk1, hk2]


def ir29_v : List Nat := [0, 1, 4]
def ir29 : AFn := ⟨2, 3, .seq (.region false [
    ⟨.var 2, 4, none, .mov (.c (.int .i64 (0)))⟩])
 (.seq (.region false [
    ⟨.push, 5, none, .mov (.v 0)⟩,
    ⟨.push, 6, none, .mov (.v 0)⟩,
    ⟨.push, 7, none, .mov (.v 1)⟩,
    ⟨.push, 8, none, .call 55 [(.s 1), (.s 0)]⟩,
    ⟨.push, 9, none, .mov (.v 1)⟩,
    ⟨.push, 10, none, .bin false .mul (.s 1) (.s 0)⟩,
    ⟨.push, 11, none, .bin false .sub (.s 5) (.s 0)⟩,
    ⟨.var 2, 4, none, .mov (.s 0)⟩])
 (.ret)), [.t 2]⟩
noncomputable def t_impl_mod : List (Nat × Ctr) := [(55, c_impl_floorDiv)]
theorem lk_impl_mod_55 : look t_impl_mod 55 = some c_impl_floorDiv := rfl
noncomputable def c_impl_mod : Ctr := mkF t_impl_mod ir29 [.bor, .bor]
theorem s_impl_mod : Sound Try.prog 29 c_impl_mod := mkF_sound _ rfl (snd_cons s_impl_floorDiv snd_nil) (by kernel_rfl : chkFn Try.prog 29 ir29 ir29_v = true)
theorem M_impl_mod : c_impl_mod.modes = [.bor, .bor] := rfl
theorem Fl_impl_mod : c_impl_mod.flat = true := rfl
attribute [go_sem] M_impl_mod Fl_impl_mod
attribute [go_sem] lk_impl_mod_55
theorem Fs_impl_mod {a : Int} {b : Int} {y_ : Int} (h : impl_mod a b = some y_) : c_impl_mod.F [.int .i64 a, .int .i64 b] = ⟨true, .int .i64 y_, [.any, .any]⟩ := by
  refine mkF_E rfl ?_
  dsimp only [impl_mod] at h
  obtain ⟨y_1, hk1, h⟩ := bd_some h
  have fhk1 := Fs_impl_floorDiv hk1
  try simp only [go_sem] at fhk1
  obtain rfl := so_some h
  refine ⟨0, fun L hL => ?_⟩
  simp only [go_sem, ir29, fhk1]


def ir53_b0 : IR := .seq (.region false [
    ⟨.var 7, 17, none, .bin false .lss (.v 6) (.v 5)⟩])
 (.seq (.cond (.v 7) (.skip)
  (.exit 0))
 (.seq (.block 1 (.seq (.region false [
      ⟨.push, 18, none, .mov (.v 6)⟩,
      ⟨.var 2, 3, none, .mov (.s 0)⟩])
   (.seq (.region false [
      ⟨.push, 19, none, .mov (.v 0)⟩,
      ⟨.push, 20, none, .mov (.v 2)⟩,
      ⟨.push, 21, none, .ixStr (.s 1) (.s 0)⟩,
      ⟨.push, 22, none, .bin false .geq (.s 0) (.c (.int .u8 (97)))⟩,
      ⟨.push, 23, none, .mov (.s 0)⟩,
      ⟨.push, 24, (some ((.s 0), true)), .mov (.v 0)⟩,
      ⟨.push, 25, (some ((.s 1), true)), .mov (.v 2)⟩,
      ⟨.push, 26, (some ((.s 2), true)), .ixStr (.s 1) (.s 0)⟩,
      ⟨.push, 27, (some ((.s 3), true)), .bin false .leq (.s 0) (.c (.int .u8 (122)))⟩,
      ⟨.push, 28, none, .pick (.s 4) (.s 0) (.c (.bool false))⟩,
      ⟨.var 3, 4, none, .mov (.s 0)⟩])
   (.seq (.region false [
      ⟨.push, 29, none, .mov (.v 0)⟩,
      ⟨.push, 30, none, .mov (.v 2)⟩,
      ⟨.push, 31, none, .ixStr (.s 1) (.s 0)⟩,
      ⟨.push, 32, none, .bin false .geq (.s 0) (.c (.int .u8 (48)))⟩,
      ⟨.push, 33, none, .mov (.s 0)⟩,
      ⟨.push, 34, (some ((.s 0), true)), .mov (.v 0)⟩,
      ⟨.push, 35, (some ((.s 1), true)), .mov (.v 2)⟩,
      ⟨.push, 36, (some ((.s 2), true)), .ixStr (.s 1) (.s 0)⟩,
      ⟨.push, 37, (some ((.s 3), true)), .bin false .leq (.s 0) (.c (.int .u8 (57)))⟩,
      ⟨.push, 38, none, .pick (.s 4) (.s 0) (.c (.bool false))⟩,
      ⟨.push, 39, none, .mov (.s 0)⟩,
      ⟨.push, 40, (some ((.s 0), false)), .mov (.v 0)⟩,
      ⟨.push, 41, (some ((.s 1), false)), .mov (.v 2)⟩,
      ⟨.push, 42, (some ((.s 2), false)), .ixStr (.s 1) (.s 0)⟩,
      ⟨.push, 43, (some ((.s 3), false)), .bin false .eql (.s 0) (.c (.int .u8 (45)))⟩,
      ⟨.push, 44, none, .pick (.s 4) (.c (.bool true)) (.s 0)⟩,
      ⟨.var 4, 5, none, .mov (.s 0)⟩])
   (.test false [
     ⟨.push, 45, none, .mov (.v 3)⟩,
     ⟨.push, 46, none, .un .not (.s 0)⟩,
     ⟨.push, 47, none, .mov (.s 0)⟩,
     ⟨.push, 48, (some ((.s 0), true)), .mov (.v 2)⟩,
     ⟨.push, 49, (some ((.s 1), true)), .bin false .eql (.s 0) (.c (.int .i64 (0)))⟩,
     ⟨.push, 50, (some ((.s 2), true)), .mov (.s 0)⟩,
     ⟨.push, 51, (some ((.s 0), false)), .mov (.v 4)⟩,
     ⟨.push, 52, (some ((.s 1), false)), .un .not (.s 0)⟩,
     ⟨.push, 53, (some ((.s 5), true)), .pick (.s 2) (.c (.bool true)) (.s 0)⟩,
     ⟨.push, 54, none, .pick (.s 6) (.s 0) (.c (.bool false))⟩] (.s 0)
   (.seq (.region false [
       ⟨.var 1, 2, none, .mov (.c (.bool false))⟩])
    (.ret))
   (.skip))))))
 (.region false [
   ⟨.push, 55, none, .bin false .add (.v 6) (.c (.int .i64 (1)))⟩,
   ⟨.var 6, 16, none, .mov (.s 0)⟩])))
def ir53_k0 : List Bool := [true, false, false, false, false, true, true, false]
def ir53_o0 : List Bool := [false, false, false, false, false, false, false, false]
def ir53_r0 : List Bool := [false, true, false, false, false, false, false, false]
def ir53_v : List Nat := [0, 2, 3, 4, 5, 15, 16, 17]
def ir53 : AFn := ⟨1, 8, .seq (.region false [
    ⟨.var 1, 2, none, .mov (.c (.bool false))⟩])
 (.seq (.test false [
    ⟨.push, 6, none, .mov (.v 0)⟩,
    ⟨.push, 7, none, .len true (.s 0)⟩,
    ⟨.push, 8, none, .bin false .lss (.s 0) (.c (.int .i64 (1)))⟩,
    ⟨.push, 9, none, .mov (.s 0)⟩,
    ⟨.push, 10, (some ((.s 0), false)), .mov (.v 0)⟩,
    ⟨.push, 11, (some ((.s 1), false)), .len true (.s 0)⟩,
    ⟨.push, 12, (some ((.s 2), false)), .bin false .gtr (.s 0) (.c (.int .i64 (12)))⟩,
    ⟨.push, 13, none, .pick (.s 3) (.c (.bool true)) (.s 0)⟩] (.s 0)
  (.seq (.region false [
      ⟨.var 1, 2, none, .mov (.c (.bool false))⟩])
   (.ret))
  (.skip))
 (.seq (.seq (.region false [
     ⟨.push, 14, none, .mov (.v 0)⟩,
     ⟨.var 5, 15, none, .len true (.s 0)⟩,
     ⟨.var 6, 16, none, .mov (.c (.int .i64 (0)))⟩])
  (.block 0 (.loop ir53_k0 ir53_o0 ir53_r0 ir53_b0)))
 (.seq (.region false [
    ⟨.var 1, 2, none, .mov (.c (.bool true))⟩])
 (.ret)))), [.t 1]⟩
noncomputable def t_impl_IsName : List (Nat × Ctr) := []
noncomputable def c_impl_IsName : Ctr := mkF t_impl_IsName ir53 [.bor]
theorem s_impl_IsName : Sound Try.prog 53 c_impl_IsName := mkF_sound _ rfl snd_nil (by kernel_rfl : chkFn Try.prog 53 ir53 ir53_v = true)
theorem M_impl_IsName : c_impl_IsName.modes = [.bor] := rfl
theorem Fl_impl_IsName : c_impl_IsName.flat = true := rfl
attribute [go_sem] M_impl_IsName Fl_impl_IsName
def E_impl_IsName_l1 (s_ : List UInt8) (t15 : Int) : Int → St
  | t16 => ⟨[.str s_, .any, .any, .any, .any, .int .i64 t15, .int .i64 t16, .any], [], [], true⟩
def R_impl_IsName_l1 (s_ : List UInt8) (t15 : Int) : (Unit ⊕ Bool) → Res
  | .inl y => (.exit 0, ⟨[.any, .any, .any, .any, .any, .any, .any, .any], [], [], true⟩)
  | .inr y => (.ret, ⟨[.any, .bool y, .any, .any, .any, .any, .any, .any], [], [], true⟩)
theorem impl_IsName_l1_ex {s_ : List UInt8} {t15 : Int} {sgm_ : Int} {rho_ : Unit ⊕ Bool} (h : whileE (impl_IsName_l1 s_ t15) sgm_ = some rho_) : ∃ L0, ∀ L, L0 ≤ L → iter (exec (look t_impl_IsName) L ir53_b0) ir53_k0 ir53_o0 ir53_r0 L (E_impl_IsName_l1 s_ t15 sgm_) = R_impl_IsName_l1 s_ t15 rho_ := by
  refine loop_ex (E := E_impl_IsName_l1 s_ t15) (R := R_impl_IsName_l1 s_ t15) (fun y => by first | (intro c; cases c) | (rcases y with y | y <;> (intro c; cases c)) | (rcases y with y | y | y <;> (intro c; cases c))) ?_ h
  clear h
  intro t16 o_ h
  dsimp only [impl_IsName_l1] at h
  rcases it_some h with ⟨hk2, h⟩ | ⟨hk2, h⟩
  · try simp only [go_sem, n1, n2, n3, n4] at hk2
    all_goals
    obtain ⟨hk3, h⟩ := ck_some h
    try simp only [go_sem, n1, n2, n3, n4, hk2] at hk3
    all_goals
    rcases it_some h with ⟨hk4, h⟩ | ⟨hk4, h⟩
    · try simp only [go_sem, n1, n2, n3, n4, hk2, hk3] at hk4
      all_goals
      obtain rfl := so_some h
      refine ⟨0, fun L hL => ?_⟩
      simp only [go_sem, ir53, E_impl_IsName_l1, R_impl_IsName_l1, ir53_b0, ir53_k0, ir53_o0, ir53_r0, hk2, hk3, hk4]
    · try simp only [go_sem, n1, n2, n3, n4, hk2, hk3] at hk4
      all_goals
      obtain rfl := so_some h
      refine ⟨0, fun L hL => ?_⟩
      simp only [go_sem, ir53, E_impl_IsName_l1, R_impl_IsName_l1, ir53_b0, ir53_k0, ir53_o0, ir53_r0, hk2, hk3, hk4]
  · try simp only [go_sem, n1, n2, n3, n4] at hk2
    all_goals
    obtain rfl := so_some h
    refine ⟨0, fun L hL => ?_⟩
    simp only [go_sem, ir53, E_impl_IsName_l1, R_impl_IsName_l1, ir53_b0, ir53_k0, ir53_o0, ir53_r0, hk2]

theorem Fs_impl_IsName {s_ : List UInt8} {y_ : Bool} (h : impl_IsName s_ = some y_) : c_impl_IsName.F [.str s_] = ⟨true, .bool y_, [.any]⟩ := by
  refine mkF_E rfl ?_
  dsimp only [impl_IsName] at h
  rcases it_some h with ⟨hk1, h⟩ | ⟨hk1, h⟩
  · try simp only [go_sem, n1, n2, n3, n4] at hk1
    all_goals
    obtain rfl := so_some h
    refine ⟨0, fun L hL => ?_⟩
    simp only [go_sem, ir53, E_impl_IsName_l1, R_impl_IsName_l1, ir53_k0, ir53_o0, ir53_r0, hk1]
  · try simp only [go_sem, n1, n2, n3, n4] at hk1
    all_goals
    obtain ⟨y_5, hk5, h⟩ := bd_some h
    obtain ⟨Lhk5, ehk5⟩ := impl_IsName_l1_ex hk5
    rcases y_5 with y_5a | y_5b
    · dsimp only at h
      obtain rfl := so_some h
      refine ⟨Lhk5, fun L hL => ?_⟩
      have ehk5 := ehk5 L (by omega)
      try simp only [go_sem, E_impl_IsName_l1, R_impl_IsName_l1, ir53_k0, ir53_o0, ir53_r0] at ehk5
      simp only [go_sem, ir53, E_impl_IsName_l1, R_impl_IsName_l1, ir53_k0, ir53_o0, ir53_r0, hk1, ehk5]
    · dsimp only at h
      obtain rfl := so_some h
      refine ⟨Lhk5, fun L hL => ?_⟩
      have ehk5 := ehk5 L (by omega)
      try simp only [go_sem, E_impl_IsName_l1, R_impl_IsName_l1, ir53_k0, ir53_o0, ir53_r0] at ehk5
      simp only [go_sem, ir53, E_impl_IsName_l1, R_impl_IsName_l1, ir53_k0, ir53_o0, ir53_r0, hk1, ehk5]


def ir54_v : List Nat := [0, 2]
def ir54 : AFn := ⟨1, 2, .seq (.region false [
    ⟨.var 1, 2, none, .mov (.c (.bool false))⟩])
 (.seq (.region false [
    ⟨.push, 3, none, .mov (.v 0)⟩,
    ⟨.push, 4, none, .call 28 [(.s 0), (.c (.int .i64 (-2000))), (.c (.int .i64 (20000)))]⟩,
    ⟨.var 1, 2, none, .mov (.s 0)⟩])
 (.ret)), [.t 1]⟩
noncomputable def t_impl_ValidMag : List (Nat × Ctr) := [(28, c_impl_in)]
theorem lk_impl_ValidMag_28 : look t_impl_ValidMag 28 = some c_impl_in := rfl
noncomputable def c_impl_ValidMag : Ctr := mkF t_impl_ValidMag ir54 [.bor]
theorem s_impl_ValidMag : Sound Try.prog 54 c_impl_ValidMag := mkF_sound _ rfl (snd_cons s_impl_in snd_nil) (by kernel_rfl : chkFn Try.prog 54 ir54 ir54_v = true)
theorem M_impl_ValidMag : c_impl_ValidMag.modes = [.bor] := rfl
theorem Fl_impl_ValidMag : c_impl_ValidMag.flat = true := rfl
attribute [go_sem] M_impl_ValidMag Fl_impl_ValidMag
attribute [go_sem] lk_impl_ValidMag_28
theorem Fs_impl_ValidMag {m : Int} {y_ : Bool} (h : impl_ValidMag m = some y_) : c_impl_ValidMag.F [.int .i64 m] = ⟨true, .bool y_, [.any]⟩ := by
  refine mkF_E rfl ?_
  dsimp only [impl_ValidMag] at h
  obtain ⟨y_1, hk1, h⟩ := bd_some h
  have fhk1 := Fs_impl_in hk1
  try simp only [go_sem] at fhk1
  obtain rfl := so_some h
  refine ⟨0, fun L hL => ?_⟩
  simp only [go_sem, ir54, fhk1]


def ir27_v : List Nat := [0, 1, 2, 3]
def ir27 : AFn := ⟨1, 4, .seq (.region false [
    ⟨.var 1, 1, none, .box (.v 0)⟩,
    ⟨.var 2, 2, none, .mov (.c (.bool false))⟩])
 (.seq (.region false [
    ⟨.push, 4, none, .fldAddr 1 (.v 1)⟩,
    ⟨.push, 5, none, .load false 1 (.s 0)⟩,
    ⟨.push, 6, none, .call 28 [(.s 0), (.c (.int .i64 (0))), (.c (.int .i64 (86399)))]⟩,
    ⟨.push, 7, none, .mov (.s 0)⟩,
    ⟨.push, 8, (some ((.s 0), true)), .fldAddr 2 (.v 1)⟩,
    ⟨.push, 9, (some ((.s 1), true)), .load false 1 (.s 0)⟩,
    ⟨.push, 10, (some ((.s 2), true)), .call 28 [(.s 0), (.c (.int .i64 (-324000))), (.c (.int .i64 (324000)))]⟩,
    ⟨.push, 11, none, .pick (.s 3) (.s 0) (.c (.bool false))⟩,
    ⟨.var 3, 3, none, .mov (.s 0)⟩])
 (.seq (.region false [
    ⟨.push, 12, none, .fldAddr 0 (.v 1)⟩,
    ⟨.push, 13, none, .load false 1 (.s 0)⟩,
    ⟨.push, 14, none, .call 53 [(.s 0)]⟩,
    ⟨.push, 15, none, .mov (.s 0)⟩,
    ⟨.push, 16, (some ((.s 0), true)), .mov (.v 3)⟩,
    ⟨.push, 17, none, .pick (.s 1) (.s 0) (.c (.bool false))⟩,
    ⟨.push, 18, none, .mov (.s 0)⟩,
    ⟨.push, 19, (some ((.s 0), true)), .fldAddr 3 (.v 1)⟩,
    ⟨.push, 20, (some ((.s 1), true)), .load false 1 (.s 0)⟩,
    ⟨.push, 21, (some ((.s 2), true)), .call 54 [(.s 0)]⟩,
    ⟨.push, 22, none, .pick (.s 3) (.s 0) (.c (.bool false))⟩,
    ⟨.push, 23, none, .mov (.s 0)⟩,
    ⟨.push, 24, (some ((.s 0), true)), .fldAddr 4 (.v 1)⟩,
    ⟨.push, 25, (some ((.s 1), true)), .load false 1 (.s 0)⟩,
    ⟨.push, 26, (some ((.s 2), true)), .call 54 [(.s 0)]⟩,
    ⟨.push, 27, none, .pick (.s 3) (.s 0) (.c (.bool false))⟩,
    ⟨.push, 28, none, .mov (.s 0)⟩,
    ⟨.push, 29, (some ((.s 0), true)), .fldAddr 3 (.v 1)⟩,
    ⟨.push, 30, (some ((.s 1), true)), .load false 1 (.s 0)⟩,
    ⟨.push, 31, (some ((.s 2), true)), .fldAddr 4 (.v 1)⟩,
    ⟨.push, 32, (some ((.s 3), true)), .load false 1 (.s 0)⟩,
    ⟨.push, 33, (some ((.s 4), true)), .bin false .leq (.s 2) (.s 0)⟩,
    ⟨.push, 34, none, .pick (.s 5) (.s 0) (.c (.bool false))⟩,
    ⟨.var 2, 2, none, .mov (.s 0)⟩])
 (.ret))), [.t 2]⟩
noncomputable def t_impl_isStar : List (Nat × Ctr) := [(28, c_impl_in), (53, c_impl_IsName), (54, c_impl_ValidMag)]
theorem lk_impl_isStar_28 : look t_impl_isStar 28 = some c_impl_in := rfl
theorem lk_impl_isStar_53 : look t_impl_isStar 53 = some c_impl_IsName := rfl
theorem lk_impl_isStar_54 : look t_impl_isStar 54 = some c_impl_ValidMag := rfl
noncomputable def c_impl_isStar : Ctr := mkF t_impl_isStar ir27 [.bor]
theorem s_impl_isStar : Sound Try.prog 27 c_impl_isStar := mkF_sound _ rfl (snd_cons s_impl_in (snd_cons s_impl_IsName (snd_cons s_impl_ValidMag snd_nil))) (by kernel_rfl : chkFn Try.prog 27 ir27 ir27_v = true)
theorem M_impl_isStar : c_impl_isStar.modes = [.bor] := rfl
theorem Fl_impl_isStar : c_impl_isStar.flat = true := rfl
attribute [go_sem] M_impl_isStar Fl_impl_isStar
attribute [go_sem] lk_impl_isStar_28 lk_impl_isStar_53 lk_impl_isStar_54
theorem Fs_impl_isStar {x : Star} {y_ : Bool} (h : impl_isStar x = some y_) : c_impl_isStar.F [Star_av x] = ⟨true, .bool y_, [.any]⟩ := by
  refine mkF_E rfl ?_
  dsimp only [impl_isStar] at h
  obtain ⟨y_1, hk1, h⟩ := bd_some h
  have fhk1 := Fs_impl_in hk1
  try simp only [go_sem] at fhk1
  obtain ⟨hk2, h⟩ := ck_some h
  rcases or_split hk2 with ⟨ghk2, hk2⟩ | ghk2
  · try simp only [go_sem, n1, n2, n3, n4] at ghk2
    all_goals
    obtain ⟨y_2, hhk2⟩ := Option.isSome_iff_exists.1 hk2
    have fhk2 := Fs_impl_in hhk2
    try simp only [go_sem] at fhk2
    obtain ⟨y_3, hk3, h⟩ := bd_some h
    have fhk3 := Fs_impl_IsName hk3
    try simp only [go_sem] at fhk3
    obtain ⟨hk4, h⟩ := ck_some h
    rcases or_split hk4 with ⟨ghk4, hk4⟩ | ghk4
    · try simp only [go_sem, n1, n2, n3, n4, ghk2, hhk2] at ghk4
      all_goals
      obtain ⟨y_4, hhk4⟩ := Option.isSome_iff_exists.1 hk4
      have fhk4 := Fs_impl_ValidMag hhk4
      try simp only [go_sem] at fhk4
      obtain ⟨hk5, h⟩ := ck_some h
      rcases or_split hk5 with ⟨ghk5, hk5⟩ | ghk5
      · try simp only [go_sem, n1, n2, n3, n4, ghk2, hhk2, ghk4, hhk4] at ghk5
        all_goals
        obtain ⟨y_5, hhk5⟩ := Option.isSome_iff_exists.1 hk5
        have fhk5 := Fs_impl_ValidMag hhk5
        try simp only [go_sem] at fhk5
        obtain rfl := so_some h
        refine ⟨0, fun L hL => ?_⟩
        simp only [go_sem, ir27, fhk1, ghk2, hhk2, fhk2, fhk3, ghk4, hhk4, fhk4, ghk5, hhk5, fhk5]
      · rcases and_f ghk5 with ghk5a | ⟨ghk5a, ghk5b⟩
        · rcases and_f ghk5a with ghk5aa | ⟨ghk5aa, ghk5ab⟩
          · try simp only [go_sem, n1, n2, n3, n4, ghk2, hhk2, ghk4, hhk4] at ghk5aa
            all_goals
            obtain rfl := so_some h
            refine ⟨0, fun L hL => ?_⟩
            simp only [go_sem, ir27, fhk1, ghk2, hhk2, fhk2, fhk3, ghk4, hhk4, fhk4, ghk5aa]
          · rcases and_f ghk5ab with ghk5aba | ⟨ghk5aba, ghk5abb⟩
            · try simp only [go_sem, n1, n2, n3, n4, ghk2, hhk2, ghk4, hhk4] at ghk5aa
              all_goals
              try simp only [go_sem, n1, n2, n3, n4, ghk2, hhk2, ghk4, hhk4, ghk5aa] at ghk5aba
              all_goals
              obtain rfl := so_some h
              refine ⟨0, fun L hL => ?_⟩
              simp only [go_sem, ir27, fhk1, ghk2, hhk2, fhk2, fhk3, ghk4, hhk4, fhk4, ghk5aa, ghk5aba]
            · try simp only [go_sem, n1, n2, n3, n4, ghk2, hhk2, ghk4, hhk4] at ghk5aa
              all_goals
              try simp only [go_sem, n1, n2, n3, n4, ghk2, hhk2, ghk4, hhk4, ghk5aa] at ghk5aba
              all_goals
              try simp only [go_sem, n1, n2, n3, n4, ghk2, hhk2, ghk4, hhk4, ghk5aa, ghk5aba] at ghk5abb
              all_goals
              obtain rfl := so_some h
              refine ⟨0, fun L hL => ?_⟩
              simp only [go_sem, ir27, fhk1, ghk2, hhk2, fhk2, fhk3, ghk4, hhk4, fhk4, ghk5aa, ghk5aba, ghk5abb]
        · obtain ⟨ghk5aa, ghk5ab⟩ := and_t ghk5a
          obtain ⟨ghk5aba, ghk5abb⟩ := and_t ghk5ab
          try simp only [go_sem, n1, n2, n3, n4, ghk2, hhk2, ghk4, hhk4] at ghk5aa
          all_goals
          try simp only [go_sem, n1, n2, n3, n4, ghk2, hhk2, ghk4, hhk4, ghk5aa] at ghk5aba
          all_goals
          try simp only [go_sem, n1, n2, n3, n4, ghk2, hhk2, ghk4, hhk4, ghk5aa, ghk5aba] at ghk5abb
          all_goals
          try simp only [go_sem, n1, n2, n3, n4, ghk2, hhk2, ghk4, hhk4, ghk5aa, ghk5aba, ghk5abb] at ghk5b
          all_goals
          obtain rfl := so_some h
          refine ⟨0, fun L hL => ?_⟩
          simp only [go_sem, ir27, fhk1, ghk2, hhk2, fhk2, fhk3, ghk4, hhk4, fhk4, ghk5aa, ghk5aba, ghk5abb, ghk5b]
    · rcases and_f ghk4 with ghk4a | ⟨ghk4a, ghk4b⟩
      · try simp only [go_sem, n1, n2, n3, n4, ghk2, hhk2] at ghk4a
        all_goals
        obtain ⟨hk5, h⟩ := ck_some h
        rcases or_split hk5 with ⟨ghk5, hk5⟩ | ghk5
        · try simp only [go_sem, n1, n2, n3, n4, ghk2, hhk2, ghk4a] at ghk5
          all_goals
          obtain ⟨y_5, hhk5⟩ := Option.isSome_iff_exists.1 hk5
          have fhk5 := Fs_impl_ValidMag hhk5
          try simp only [go_sem] at fhk5
          obtain rfl := so_some h
          refine ⟨0, fun L hL => ?_⟩
          simp only [go_sem, ir27, fhk1, ghk2, hhk2, fhk2, fhk3, ghk4a, ghk5, hhk5, fhk5]
        · rcases and_f ghk5 with ghk5a | ⟨ghk5a, ghk5b⟩
          · rcases and_f ghk5a with ghk5aa | ⟨ghk5aa, ghk5ab⟩
            · try simp only [go_sem, n1, n2, n3, n4, ghk2, hhk2, ghk4a] at ghk5aa
              all_goals
              obtain rfl := so_some h
              refine ⟨0, fun L hL => ?_⟩
              simp only [go_sem, ir27, fhk1, ghk2, hhk2, fhk2, fhk3, ghk4a, ghk5aa]
            · rcases and_f ghk5ab with ghk5aba | ⟨ghk5aba, ghk5abb⟩
              · try simp only [go_sem, n1, n2, n3, n4, ghk2, hhk2, ghk4a] at ghk5aa
                all_goals
                try simp only [go_sem, n1, n2, n3, n4, ghk2, hhk2, ghk4a, ghk5aa] at ghk5aba
                all_goals
                obtain rfl := so_some h
                refine ⟨0, fun L hL => ?_⟩
                simp only [go_sem, ir27, fhk1, ghk2, hhk2, fhk2, fhk3, ghk4a, ghk5aa, ghk5aba]
              · try simp only [go_sem, n1, n2, n3, n4, ghk2, hhk2, ghk4a] at ghk5aa
                all_goals
                try simp only [go_sem, n1, n2, n3, n4, ghk2, hhk2, ghk4a, ghk5aa] at ghk5aba
                all_goals
                try simp only [go_sem, n1, n2, n3, n4, ghk2, hhk2, ghk4a, ghk5aa, ghk5aba] at ghk5abb
                all_goals
                obtain rfl := so_some h
                refine ⟨0, fun L hL => ?_⟩
                simp only [go_sem, ir27, fhk1, ghk2, hhk2, fhk2, fhk3, ghk4a, ghk5aa, ghk5aba, ghk5abb]
          · obtain ⟨ghk5aa, ghk5ab⟩ := and_t ghk5a
            obtain ⟨ghk5aba, ghk5abb⟩ := and_t ghk5ab
            try simp only [go_sem, n1, n2, n3, n4, ghk2, hhk2, ghk4a] at ghk5aa
            all_goals
            try simp only [go_sem, n1, n2, n3, n4, ghk2, hhk2, ghk4a, ghk5aa] at ghk5aba
            all_goals
            try simp only [go_sem, n1, n2, n3, n4, ghk2, hhk2, ghk4a, ghk5aa, ghk5aba] at ghk5abb
            all_goals
            try simp only [go_sem, n1, n2, n3, n4, ghk2, hhk2, ghk4a, ghk5aa, ghk5aba, ghk5abb] at ghk5b
            all_goals
            obtain rfl := so_some h
            refine ⟨0, fun L hL => ?_⟩
            simp only [go_sem, ir27, fhk1, ghk2, hhk2, fhk2, fhk3, ghk4a, ghk5aa, ghk5aba, ghk5abb, ghk5b]
      · rcases and_f ghk4b with ghk4ba | ⟨ghk4ba, ghk4bb⟩
        · try simp only [go_sem, n1, n2, n3, n4, ghk2, hhk2] at ghk4a
          all_goals
          try simp only [go_sem, n1, n2, n3, n4, ghk2, hhk2, ghk4a] at ghk4ba
          all_goals
          obtain ⟨hk5, h⟩ := ck_some h
          rcases or_split hk5 with ⟨ghk5, hk5⟩ | ghk5
          · try simp only [go_sem, n1, n2, n3, n4, ghk2, hhk2, ghk4a, ghk4ba] at ghk5
            all_goals
            obtain ⟨y_5, hhk5⟩ := Option.isSome_iff_exists.1 hk5
            have fhk5 := Fs_impl_ValidMag hhk5
            try simp only [go_sem] at fhk5
            obtain rfl := so_some h
            refine ⟨0, fun L hL => ?_⟩
            simp only [go_sem, ir27, fhk1, ghk2, hhk2, fhk2, fhk3, ghk4a, ghk4ba, ghk5, hhk5, fhk5]
          · rcases and_f ghk5 with ghk5a | ⟨ghk5a, ghk5b⟩
            · rcases and_f ghk5a with ghk5aa | ⟨ghk5aa, ghk5ab⟩
              · try simp only [go_sem, n1, n2, n3, n4, ghk2, hhk2, ghk4a, ghk4ba] at ghk5aa
                all_goals
                obtain rfl := so_some h
                refine ⟨0, fun L hL => ?_⟩
                simp only [go_sem, ir27, fhk1, ghk2, hhk2, fhk2, fhk3, ghk4a, ghk4ba, ghk5aa]
              · rcases and_f ghk5ab with ghk5aba | ⟨ghk5aba, ghk5abb⟩
                · try simp only [go_sem, n1, n2, n3, n4, ghk2, hhk2, ghk4a, ghk4ba] at ghk5aa
                  all_goals
                  try simp only [go_sem, n1, n2, n3, n4, ghk2, hhk2, ghk4a, ghk4ba, ghk5aa] at ghk5aba
                  all_goals
                  obtain rfl := so_some h
                  refine ⟨0, fun L hL => ?_⟩
                  simp only [go_sem, ir27, fhk1, ghk2, hhk2, fhk2, fhk3, ghk4a, ghk4ba, ghk5aa, ghk5aba]
                · try simp only [go_sem, n1, n2, n3, n4, ghk2, hhk2, ghk4a, ghk4ba] at ghk5aa
                  all_goals
                  try simp only [go_sem, n1, n2, n3, n4, ghk2, hhk2, ghk4a, ghk4ba, ghk5aa] at ghk5aba
                  all_goals
                  try simp only [go_sem, n1, n2, n3, n4, ghk2, hhk2, ghk4a, ghk4ba, ghk5aa, ghk5aba] at ghk5abb
                  all_goals
                  obtain rfl := so_some h
                  refine ⟨0, fun L hL => ?_⟩
                  simp only [go_sem, ir27, fhk1, ghk2, hhk2, fhk2, fhk3, ghk4a, ghk4ba, ghk5aa, ghk5aba, ghk5abb]
            · obtain ⟨ghk5aa, ghk5ab⟩ := and_t ghk5a
              obtain ⟨ghk5aba, ghk5abb⟩ := and_t ghk5ab
              try simp only [go_sem, n1, n2, n3, n4, ghk2, hhk2, ghk4a, ghk4ba] at ghk5aa
              all_goals
              try simp only [go_sem, n1, n2, n3, n4, ghk2, hhk2, ghk4a, ghk4ba, ghk5aa] at ghk5aba
              all_goals
              try simp only [go_sem, n1, n2, n3, n4, ghk2, hhk2, ghk4a, ghk4ba, ghk5aa, ghk5aba] at ghk5abb
              all_goals
              try simp only [go_sem, n1, n2, n3, n4, ghk2, hhk2, ghk4a, ghk4ba, ghk5aa, ghk5aba, ghk5abb] at ghk5b
              all_goals
              obtain rfl := so_some h
              refine ⟨0, fun L hL => ?_⟩
              simp only [go_sem, ir27, fhk1, ghk2, hhk2, fhk2, fhk3, ghk4a, ghk4ba, ghk5aa, ghk5aba, ghk5abb, ghk5b]
        · try simp only [go_sem, n1, n2, n3, n4, ghk2, hhk2] at ghk4a
          all_goals
          try simp only [go_sem, n1, n2, n3, n4, ghk2, hhk2, ghk4a] at ghk4ba
          all_goals
          try simp only [go_sem, n1, n2, n3, n4, ghk2, hhk2, ghk4a, ghk4ba] at ghk4bb
          all_goals
          obtain ⟨hk5, h⟩ := ck_some h
          rcases or_split hk5 with ⟨ghk5, hk5⟩ | ghk5
          · try simp only [go_sem, n1, n2, n3, n4, ghk2, hhk2, ghk4a, ghk4ba, ghk4bb] at ghk5
            all_goals
            obtain ⟨y_5, hhk5⟩ := Option.isSome_iff_exists.1 hk5
            have fhk5 := Fs_impl_ValidMag hhk5
            try simp only [go_sem] at fhk5
            obtain rfl := so_some h
            refine ⟨0, fun L hL => ?_⟩
            simp only [go_sem, ir27, fhk1, ghk2, hhk2, fhk2, fhk3, ghk4a, ghk4ba, ghk4bb, ghk5, hhk5, fhk5]
          · rcases and_f ghk5 with ghk5a | ⟨ghk5a, ghk5b⟩
            · rcases and_f ghk5a with ghk5aa | ⟨ghk5aa, ghk5ab⟩
              · try simp only [go_sem, n1, n2, n3, n4, ghk2, hhk2, ghk4a, ghk4ba, ghk4bb] at ghk5aa
                all_goals
                obtain rfl := so_some h
                refine ⟨0, fun L hL => ?_⟩
                simp only [go_sem, ir27, fhk1, ghk2, hhk2, fhk2, fhk3, ghk4a, ghk4ba, ghk4bb, ghk5aa]
              · rcases and_f ghk5ab with ghk5aba | ⟨ghk5aba, ghk5abb⟩
                · try simp only [go_sem, n1, n2, n3, n4, ghk2, hhk2, ghk4a, ghk4ba, ghk4bb] at ghk5aa
                  all_goals
                  try simp only [go_sem, n1, n2, n3, n4, ghk2, hhk2, ghk4a, ghk4ba, ghk4bb, ghk5aa] at ghk5aba
                  all_goals
                  obtain rfl := so_some h
                  refine ⟨0, fun L hL => ?_⟩
                  simp only [go_sem, ir27, fhk1, ghk2, hhk2, fhk2, fhk3, ghk4a, ghk4ba, ghk4bb, ghk5aa, ghk5aba]
                · try simp only [go_sem, n1, n2, n3, n4, ghk2, hhk2, ghk4a, ghk4ba, ghk4bb] at ghk5aa
                  all_goals
                  try simp only [go_sem, n1, n2, n3, n4, ghk2, hhk2, ghk4a, ghk4ba, ghk4bb, ghk5aa] at ghk5aba
                  all_goals
                  try simp only [go_sem, n1, n2, n3, n4, ghk2, hhk2, ghk4a, ghk4ba, ghk4bb, ghk5aa, ghk5aba] at ghk5abb
                  all_goals
                  obtain rfl := so_some h
                  refine ⟨0, fun L hL => ?_⟩
                  simp only [go_sem, ir27, fhk1, ghk2, hhk2, fhk2, fhk3, ghk4a, ghk4ba, ghk4bb, ghk5aa, ghk5aba, ghk5abb]
            · obtain ⟨ghk5aa, ghk5ab⟩ := and_t ghk5a
              obtain ⟨ghk5aba, ghk5abb⟩ := and_t ghk5ab
              try simp only [go_sem, n1, n2, n3, n4, ghk2, hhk2, ghk4a, ghk4ba, ghk4bb] at ghk5aa
              all_goals
              try simp only [go_sem, n1, n2, n3, n4, ghk2, hhk2, ghk4a, ghk4ba, ghk4bb, ghk5aa] at ghk5aba
              all_goals
              try simp only [go_sem, n1, n2, n3, n4, ghk2, hhk2, ghk4a, ghk4ba, ghk4bb, ghk5aa, ghk5aba] at ghk5abb
              all_goals
              try simp only [go_sem, n1, n2, n3, n4, ghk2, hhk2, ghk4a, ghk4ba, ghk4bb, ghk5aa, ghk5aba, ghk5abb] at ghk5b
              all_goals
              obtain rfl := so_some h
              refine ⟨0, fun L hL => ?_⟩
              simp only [go_sem, ir27, fhk1, ghk2, hhk2, fhk2, fhk3, ghk4a, ghk4ba, ghk4bb, ghk5aa, ghk5aba, ghk5abb, ghk5b]
  · try simp only [go_sem, n1, n2, n3, n4] at ghk2
    all_goals
    obtain ⟨y_3, hk3, h⟩ := bd_some h
    have fhk3 := Fs_impl_IsName hk3
    try simp only [go_sem] at fhk3
    obtain ⟨hk4, h⟩ := ck_some h
    rcases or_split hk4 with ⟨ghk4, hk4⟩ | ghk4
    · try simp only [go_sem, n1, n2, n3, n4, ghk2] at ghk4
      all_goals
      obtain ⟨y_4, hhk4⟩ := Option.isSome_iff_exists.1 hk4
      have fhk4 := Fs_impl_ValidMag hhk4
      try simp only [go_sem] at fhk4
      obtain ⟨hk5, h⟩ := ck_some h
      rcases or_split hk5 with ⟨ghk5, hk5⟩ | ghk5
      · try simp only [go_sem, n1, n2, n3, n4, ghk2, ghk4, hhk4] at ghk5
        all_goals
        obtain ⟨y_5, hhk5⟩ := Option.isSome_iff_exists.1 hk5
        have fhk5 := Fs_impl_ValidMag hhk5
        try simp only [go_sem] at fhk5
        obtain rfl := so_some h
        refine ⟨0, fun L hL => ?_⟩
        simp only [go_sem, ir27, fhk1, ghk2, fhk3, ghk4, hhk4, fhk4, ghk5, hhk5, fhk5]
      · rcases and_f ghk5 with ghk5a | ⟨ghk5a, ghk5b⟩
        · rcases and_f ghk5a with ghk5aa | ⟨ghk5aa, ghk5ab⟩
          · try simp only [go_sem, n1, n2, n3, n4, ghk2, ghk4, hhk4] at ghk5aa
            all_goals
            obtain rfl := so_some h
            refine ⟨0, fun L hL => ?_⟩
            simp only [go_sem, ir27, fhk1, ghk2, fhk3, ghk4, hhk4, fhk4, ghk5aa]
          · rcases and_f ghk5ab with ghk5aba | ⟨ghk5aba, ghk5abb⟩
            · try simp only [go_sem, n1, n2, n3, n4, ghk2, ghk4, hhk4] at ghk5aa
              all_goals
              try simp only [go_sem, n1, n2, n3, n4, ghk2, ghk4, hhk4, ghk5aa] at ghk5aba
              all_goals
              obtain rfl := so_some h
              refine ⟨0, fun L hL => ?_⟩
              simp only [go_sem, ir27, fhk1, ghk2, fhk3, ghk4, hhk4, fhk4, ghk5aa, ghk5aba]
            · try simp only [go_sem, n1, n2, n3, n4, ghk2, ghk4, hhk4] at ghk5aa
              all_goals
              try simp only [go_sem, n1, n2, n3, n4, ghk2, ghk4, hhk4, ghk5aa] at ghk5aba
              all_goals
              try simp only [go_sem, n1, n2, n3, n4, ghk2, ghk4, hhk4, ghk5aa, ghk5aba] at ghk5abb
              all_goals
              obtain rfl := so_some h
              refine ⟨0, fun L hL => ?_⟩
              simp only [go_sem, ir27, fhk1, ghk2, fhk3, ghk4, hhk4, fhk4, ghk5aa, ghk5aba, ghk5abb]
        · obtain ⟨ghk5aa, ghk5ab⟩ := and_t ghk5a
          obtain ⟨ghk5aba, ghk5abb⟩ := and_t ghk5ab
          try simp only [go_sem, n1, n2, n3, n4, ghk2, ghk4, hhk4] at ghk5aa
          all_goals
          try simp only [go_sem, n1, n2, n3, n4, ghk2, ghk4, hhk4, ghk5aa] at ghk5aba
          all_goals
          try simp only [go_sem, n1, n2, n3, n4, ghk2, ghk4, hhk4, ghk5aa, ghk5aba] at ghk5abb
          all_goals
          try simp only [go_sem, n1, n2, n3, n4, ghk2, ghk4, hhk4, ghk5aa, ghk5aba, ghk5abb] at ghk5b
          all_goals
          obtain rfl := so_some h
          refine ⟨0, fun L hL => ?_⟩
          simp only [go_sem, ir27, fhk1, ghk2, fhk3, ghk4, hhk4, fhk4, ghk5aa, ghk5aba, ghk5abb, ghk5b]
    · rcases and_f ghk4 with ghk4a | ⟨ghk4a, ghk4b⟩
      · try simp only [go_sem, n1, n2, n3, n4, ghk2] at ghk4a
        all_goals
        obtain ⟨hk5, h⟩ := ck_some h
        rcases or_split hk5 with ⟨ghk5, hk5⟩ | ghk5
        · try simp only [go_sem, n1, n2, n3, n4, ghk2, ghk4a] at ghk5
          all_goals
          obtain ⟨y_5, hhk5⟩ := Option.isSome_iff_exists.1 hk5
          have fhk5 := Fs_impl_ValidMag hhk5
          try simp only [go_sem] at fhk5
          obtain rfl := so_some h
          refine ⟨0, fun L hL => ?_⟩
          simp only [go_sem, ir27, fhk1, ghk2, fhk3, ghk4a, ghk5, hhk5, fhk5]
        · rcases and_f ghk5 with ghk5a | ⟨ghk5a, ghk5b⟩
          · rcases and_f ghk5a with ghk5aa | ⟨ghk5aa, ghk5ab⟩
            · try simp only [go_sem, n1, n2, n3, n4, ghk2, ghk4a] at ghk5aa
              all_goals
              obtain rfl := so_some h
              refine ⟨0, fun L hL => ?_⟩
              simp only [go_sem, ir27, fhk1, ghk2, fhk3, ghk4a, ghk5aa]
            · rcases and_f ghk5ab with ghk5aba | ⟨ghk5aba, ghk5abb⟩
              · try simp only [go_sem, n1, n2, n3, n4, ghk2, ghk4a] at ghk5aa
                all_goals
                try simp only [go_sem, n1, n2, n3, n4, ghk2, ghk4a, ghk5aa] at ghk5aba
                all_goals
                obtain rfl := so_some h
                refine ⟨0, fun L hL => ?_⟩
                simp only [go_sem, ir27, fhk1, ghk2, fhk3, ghk4a, ghk5aa, ghk5aba]
              · try simp only [go_sem, n1, n2, n3, n4, ghk2, ghk4a] at ghk5aa
                all_goals
                try simp only [go_sem, n1, n2, n3, n4, ghk2, ghk4a, ghk5aa] at ghk5aba
                all_goals
                try simp only [go_sem, n1, n2, n3, n4, ghk2, ghk4a, ghk5aa, ghk5aba] at ghk5abb
                all_goals
                obtain rfl := so_some h
                refine ⟨0, fun L hL => ?_⟩
                simp only [go_sem, ir27, fhk1, ghk2, fhk3, ghk4a, ghk5aa, ghk5aba, ghk5abb]
          · obtain ⟨ghk5aa, ghk5ab⟩ := and_t ghk5a
            obtain ⟨ghk5aba, ghk5abb⟩ := and_t ghk5ab
            try simp only [go_sem, n1, n2, n3, n4, ghk2, ghk4a] at ghk5aa
            all_goals
            try simp only [go_sem, n1, n2, n3, n4, ghk2, ghk4a, ghk5aa] at ghk5aba
            all_goals
            try simp only [go_sem, n1, n2, n3, n4, ghk2, ghk4a, ghk5aa, ghk5aba] at ghk5abb
            all_goals
            try simp only [go_sem, n1, n2, n3, n4, ghk2, ghk4a, ghk5aa, ghk5aba, ghk5abb] at ghk5b
            all_goals
            obtain rfl := so_some h
            refine ⟨0, fun L hL => ?_⟩
            simp only [go_sem, ir27, fhk1, ghk2, fhk3, ghk4a, ghk5aa, ghk5aba, ghk5abb, ghk5b]
      · rcases and_f ghk4b with ghk4ba | ⟨ghk4ba, ghk4bb⟩
        · try simp only [go_sem, n1, n2, n3, n4, ghk2] at ghk4a
          all_goals
          try simp only [go_sem, n1, n2, n3, n4, ghk2, ghk4a] at ghk4ba
          all_goals
          obtain ⟨hk5, h⟩ := ck_some h
          rcases or_split hk5 with ⟨ghk5, hk5⟩ | ghk5
          · try simp only [go_sem, n1, n2, n3, n4, ghk2, ghk4a, ghk4ba] at ghk5
            all_goals
            obtain ⟨y_5, hhk5⟩ := Option.isSome_iff_exists.1 hk5
            have fhk5 := Fs_impl_ValidMag hhk5
            try simp only [go_sem] at fhk5
            obtain rfl := so_some h
            refine ⟨0, fun L hL => ?_⟩
            simp only [go_sem, ir27, fhk1, ghk2, fhk3, ghk4a, ghk4ba, ghk5, hhk5, fhk5]
          · rcases and_f ghk5 with ghk5a | ⟨ghk5a, ghk5b⟩
            · rcases and_f ghk5a with ghk5aa | ⟨ghk5aa, ghk5ab⟩
              · try simp only [go_sem, n1, n2, n3, n4, ghk2, ghk4a, ghk4ba] at ghk5aa
                all_goals
                obtain rfl := so_some h
                refine ⟨0, fun L hL => ?_⟩
                simp only [go_sem, ir27, fhk1, ghk2, fhk3, ghk4a, ghk4ba, ghk5aa]
              · rcases and_f ghk5ab with ghk5aba | ⟨ghk5aba, ghk5abb⟩
                · try simp only [go_sem, n1, n2, n3, n4, ghk2, ghk4a, ghk4ba] at ghk5aa
                  all_goals
                  try simp only [go_sem, n1, n2, n3, n4, ghk2, ghk4a, ghk4ba, ghk5aa] at ghk5aba
                  all_goals
                  obtain rfl := so_some h
                  refine ⟨0, fun L hL => ?_⟩
                  simp only [go_sem, ir27, fhk1, ghk2, fhk3, ghk4a, ghk4ba, ghk5aa, ghk5aba]
                · try simp only [go_sem, n1, n2, n3, n4, ghk2, ghk4a, ghk4ba] at ghk5aa
                  all_goals
                  try simp only [go_sem, n1, n2, n3, n4, ghk2, ghk4a, ghk4ba, ghk5aa] at ghk5aba
                  all_goals
                  try simp only [go_sem, n1, n2, n3, n4, ghk2, ghk4a, ghk4ba, ghk5aa, ghk5aba] at ghk5abb
                  all_goals
                  obtain rfl := so_some h
                  refine ⟨0, fun L hL => ?_⟩
                  simp only [go_sem, ir27, fhk1, ghk2, fhk3, ghk4a, ghk4ba, ghk5aa, ghk5aba, ghk5abb]
            · obtain ⟨ghk5aa, ghk5ab⟩ := and_t ghk5a
              obtain ⟨ghk5aba, ghk5abb⟩ := and_t ghk5ab
              try simp only [go_sem, n1, n2, n3, n4, ghk2, ghk4a, ghk4ba] at ghk5aa
              all_goals
              try simp only [go_sem, n1, n2, n3, n4, ghk2, ghk4a, ghk4ba, ghk5aa] at ghk5aba
              all_goals
              try simp only [go_sem, n1, n2, n3, n4, ghk2, ghk4a, ghk4ba, ghk5aa, ghk5aba] at ghk5abb
              all_goals
              try simp only [go_sem, n1, n2, n3, n4, ghk2, ghk4a, ghk4ba, ghk5aa, ghk5aba, ghk5abb] at ghk5b
              all_goals
              obtain rfl := so_some h
              refine ⟨0, fun L hL => ?_⟩
              simp only [go_sem, ir27, fhk1, ghk2, fhk3, ghk4a, ghk4ba, ghk5aa, ghk5aba, ghk5abb, ghk5b]
        · try simp only [go_sem, n1, n2, n3, n4, ghk2] at ghk4a
          all_goals
          try simp only [go_sem, n1, n2, n3, n4, ghk2, ghk4a] at ghk4ba
          all_goals
          try simp only [go_sem, n1, n2, n3, n4, ghk2, ghk4a, ghk4ba] at ghk4bb
          all_goals
          obtain ⟨hk5, h⟩ := ck_some h
          rcases or_split hk5 with ⟨ghk5, hk5⟩ | ghk5
          · try simp only [go_sem, n1, n2, n3, n4, ghk2, ghk4a, ghk4ba, ghk4bb] at ghk5
            all_goals
            obtain ⟨y_5, hhk5⟩ := Option.isSome_iff_exists.1 hk5
            have fhk5 := Fs_impl_ValidMag hhk5
            try simp only [go_sem] at fhk5
            obtain rfl := so_some h
            refine ⟨0, fun L hL => ?_⟩
            simp only [go_sem, ir27, fhk1, ghk2, fhk3, ghk4a, ghk4ba, ghk4bb, ghk5, hhk5, fhk5]
          · rcases and_f ghk5 with ghk5a | ⟨ghk5a, ghk5b⟩
            · rcases and_f ghk5a with ghk5aa | ⟨ghk5aa, ghk5ab⟩
              · try simp only [go_sem, n1, n2, n3, n4, ghk2, ghk4a, ghk4ba, ghk4bb] at ghk5aa
                all_goals
                obtain rfl := so_some h
                refine ⟨0, fun L hL => ?_⟩
                simp only [go_sem, ir27, fhk1, ghk2, fhk3, ghk4a, ghk4ba, ghk4bb, ghk5aa]
              · rcases and_f ghk5ab with ghk5aba | ⟨ghk5aba, ghk5abb⟩
                · try simp only [go_sem, n1, n2, n3, n4, ghk2, ghk4a, ghk4ba, ghk4bb] at ghk5aa
                  all_goals
                  try simp only [go_sem, n1, n2, n3, n4, ghk2, ghk4a, ghk4ba, ghk4bb, ghk5aa] at ghk5aba
                  all_goals
                  obtain rfl := so_some h
                  refine ⟨0, fun L hL => ?_⟩
                  simp only [go_sem, ir27, fhk1, ghk2, fhk3, ghk4a, ghk4ba, ghk4bb, ghk5aa, ghk5aba]
                · try simp only [go_sem, n1, n2, n3, n4, ghk2, ghk4a, ghk4ba, ghk4bb] at ghk5aa
                  all_goals
                  try simp only [go_sem, n1, n2, n3, n4, ghk2, ghk4a, ghk4ba, ghk4bb, ghk5aa] at ghk5aba
                  all_goals
                  try simp only [go_sem, n1, n2, n3, n4, ghk2, ghk4a, ghk4ba, ghk4bb, ghk5aa, ghk5aba] at ghk5abb
                  all_goals
                  obtain rfl := so_some h
                  refine ⟨0, fun L hL => ?_⟩
                  simp only [go_sem, ir27, fhk1, ghk2, fhk3, ghk4a, ghk4ba, ghk4bb, ghk5aa, ghk5aba, ghk5abb]
            · obtain ⟨ghk5aa, ghk5ab⟩ := and_t ghk5a
              obtain ⟨ghk5aba, ghk5abb⟩ := and_t ghk5ab
              try simp only [go_sem, n1, n2, n3, n4, ghk2, ghk4a, ghk4ba, ghk4bb] at ghk5aa
              all_goals
              try simp only [go_sem, n1, n2, n3, n4, ghk2, ghk4a, ghk4ba, ghk4bb, ghk5aa] at ghk5aba
              all_goals
              try simp only [go_sem, n1, n2, n3, n4, ghk2, ghk4a, ghk4ba, ghk4bb, ghk5aa, ghk5aba] at ghk5abb
              all_goals
              try simp only [go_sem, n1, n2, n3, n4, ghk2, ghk4a, ghk4ba, ghk4bb, ghk5aa, ghk5aba, ghk5abb] at ghk5b
              all_goals
              obtain rfl := so_some h
              refine ⟨0, fun L hL => ?_⟩
              simp only [go_sem, ir27, fhk1, ghk2, fhk3, ghk4a, ghk4ba, ghk4bb, ghk5aa, ghk5aba, ghk5abb, ghk5b]


def ir9_v : List Nat := [0, 1, 2, 4, 5]
def ir9 : AFn := ⟨2, 5, .seq (.region false [
    ⟨.var 2, 2, none, .box (.v 0)⟩,
    ⟨.var 3, 4, none, .alloc (.agg [.int .i64 (0), .int .i64 (0), .int .i64 (0), .int .i64 (0)])⟩,
    ⟨.var 4, 5, none, .mov (.c (.int .i64 (0)))⟩])
 (.seq (.test false [
    ⟨.push, 6, none, .load true 5 (.v 2)⟩,
    ⟨.push, 7, none, .call 27 [(.s 0)]⟩,
    ⟨.push, 8, none, .un .not (.s 0)⟩,
    ⟨.push, 9, none, .mov (.s 0)⟩,
    ⟨.push, 10, (some ((.s 0), false)), .mov (.v 1)⟩,
    ⟨.push, 11, (some ((.s 1), false)), .call 28 [(.s 0), (.c (.int .i64 (0))), (.c (.int .i64 (40000)))]⟩,
    ⟨.push, 12, (some ((.s 2), false)), .un .not (.s 0)⟩,
    ⟨.push, 13, none, .pick (.s 3) (.c (.bool true)) (.s 0)⟩] (.s 0)
  (.seq (.region false [
      ⟨.push, 14, none, .build [.int .i64 (0), .int .i64 (0), .int .i64 (0), .int .i64 (0)] []⟩,
      ⟨.no, 0, none, .store 4 (.v 3) (.s 0)⟩,
      ⟨.var 4, 5, none, .mov (.c (.int .i64 (2)))⟩])
   (.ret))
  (.skip))
 (.seq (.anyo 23 [
    ⟨.slot 0, 15, none, .fldAddr 1 (.v 2)⟩,
    ⟨.slot 1, 16, none, .load false 1 (.s 0)⟩,
    ⟨.slot 2, 17, none, .mov (.v 1)⟩,
    ⟨.slot 3, 18, none, .bin false .sub (.s 1) (.s 2)⟩,
    ⟨.slot 4, 19, none, .callp 29 [(.s 3), (.c (.int .i64 (86400)))]⟩,
    ⟨.slot 5, 20, none, .fldAddr 1 (.v 2)⟩,
    ⟨.slot 6, 21, none, .load false 1 (.s 5)⟩,
    ⟨.slot 7, 22, none, .mov (.v 1)⟩,
    ⟨.slot 8, 23, none, .bin false .add (.s 6) (.s 7)⟩,
    ⟨.slot 9, 24, none, .callp 29 [(.s 8), (.c (.int .i64 (86400)))]⟩,
    ⟨.slot 10, 25, none, .fldAddr 2 (.v 2)⟩,
    ⟨.slot 11, 26, none, .load false 1 (.s 10)⟩,
    ⟨.slot 12, 27, none, .mov (.v 1)⟩,
    ⟨.slot 13, 28, none, .bin false .mul (.c (.int .i64 (15))) (.s 12)⟩,
    ⟨.slot 14, 29, none, .bin false .sub (.s 11) (.s 13)⟩,
    ⟨.slot 15, 30, none, .minmax true [(.s 14), (.c (.int .i64 (-324000)))]⟩,
    ⟨.slot 16, 31, none, .fldAddr 2 (.v 2)⟩,
    ⟨.slot 17, 32, none, .load false 1 (.s 16)⟩,
    ⟨.slot 18, 33, none, .mov (.v 1)⟩,
    ⟨.slot 19, 34, none, .bin false .mul (.c (.int .i64 (15))) (.s 18)⟩,
    ⟨.slot 20, 35, none, .bin false .add (.s 17) (.s 19)⟩,
    ⟨.slot 21, 36, none, .minmax false [(.s 20), (.c (.int .i64 (324000)))]⟩,
    ⟨.slot 22, 37, none, .pur (.build [.int .i64 (0), .int .i64 (0), .int .i64 (0), .int .i64 (0)] [(0, 1, (.s 4)), (1, 1, (.s 9)), (2, 1, (.s 15)), (3, 1, (.s 21))])⟩,
    ⟨.no, 0, none, .store 4 (.v 3) (.s 22)⟩,
    ⟨.var 4, 5, none, .mov (.c (.int .i64 (0)))⟩] [] .skip)
 (.ret))), [.cell true 4 3, .t 4]⟩
noncomputable def t_impl_BoxAround : List (Nat × Ctr) := [(27, c_impl_isStar), (28, c_impl_in), (29, c_impl_mod)]
theorem lk_impl_BoxAround_27 : look t_impl_BoxAround 27 = some c_impl_isStar := rfl
theorem lk_impl_BoxAround_28 : look t_impl_BoxAround 28 = some c_impl_in := rfl
theorem lk_impl_BoxAround_29 : look t_impl_BoxAround 29 = some c_impl_mod := rfl
noncomputable def c_impl_BoxAround : Ctr := mkN t_impl_BoxAround ir9 [.bor, .bor]
theorem s_impl_BoxAround : Sound Try.prog 9 c_impl_BoxAround := mkN_sound _ (snd_cons s_impl_isStar (snd_cons s_impl_in (snd_cons s_impl_mod snd_nil))) (by kernel_rfl : chkFn Try.prog 9 ir9 ir9_v = true)
theorem M_impl_BoxAround : c_impl_BoxAround.modes = [.bor, .bor] := rfl
theorem Fl_impl_BoxAround : c_impl_BoxAround.flat = false := rfl
attribute [go_sem] M_impl_BoxAround Fl_impl_BoxAround
attribute [go_sem] lk_impl_BoxAround_27 lk_impl_BoxAround_28 lk_impl_BoxAround_29
theorem Fs_impl_BoxAround {x : Star} {width : Int} {y_ : Box × Int} (h : impl_BoxAround x width = some y_) : c_impl_BoxAround.F [Star_av x, .int .i64 width] = ⟨true, .tup [Box_av y_.1, .int .i64 y_.2], [.any, .any]⟩ := by
  refine mkN_E ?_
  dsimp only [impl_BoxAround] at h
  obtain ⟨y_1, hk1, h⟩ := bd_some h
  have fhk1 := Fs_impl_isStar hk1
  try simp only [go_sem] at fhk1
  obtain ⟨hk2, h⟩ := ck_some h
  rcases or_split hk2 with ⟨ghk2, hk2⟩ | ghk2
  · try simp only [go_sem, n1, n2, n3, n4] at ghk2
    all_goals
    obtain ⟨y_2, hhk2⟩ := Option.isSome_iff_exists.1 hk2
    have fhk2 := Fs_impl_in hhk2
    try simp only [go_sem] at fhk2
    rcases it_some h with ⟨hk3, h⟩ | ⟨hk3, h⟩
    · try simp only [go_sem, n1, n2, n3, n4, ghk2, hhk2] at hk3
      all_goals
      obtain rfl := so_some h
      refine ⟨0, fun L hL => ?_⟩
      simp only [go_sem, ir9, fhk1, ghk2, hhk2, fhk2, hk3]
    · try simp only [go_sem, n1, n2, n3, n4, ghk2, hhk2] at hk3
      all_goals
      obtain ⟨y_4, hk4, h⟩ := bd_some h
      have fhk4 := Fs_impl_mod hk4
      try simp only [go_sem] at fhk4
      obtain ⟨y_5, hk5, h⟩ := bd_some h
      have fhk5 := Fs_impl_mod hk5
      try simp only [go_sem] at fhk5
      obtain rfl := so_some h
      refine ⟨0, fun L hL => ?_⟩
      simp only [go_sem, ir9, fhk1, ghk2, hhk2, fhk2, hk3, fhk4, fhk5]
  · have ghk2n := no_f ghk2
    have ghk2nn := no_t ghk2n
    try simp only [go_sem, n1, n2, n3, n4] at ghk2nn
    all_goals
    rcases it_some h with ⟨hk3, h⟩ | ⟨hk3, h⟩
    · try simp only [go_sem, n1, n2, n3, n4, ghk2nn] at hk3
      all_goals
      obtain rfl := so_some h
      refine ⟨0, fun L hL => ?_⟩
      simp only [go_sem, ir9, fhk1, ghk2nn, hk3]
    · try simp only [go_sem, n1, n2, n3, n4, ghk2nn] at hk3
      all_goals
      obtain ⟨y_4, hk4, h⟩ := bd_some h
      have fhk4 := Fs_impl_mod hk4
      try simp only [go_sem] at fhk4
      obtain ⟨y_5, hk5, h⟩ := bd_some h
      have fhk5 := Fs_impl_mod hk5
      try simp only [go_sem] at fhk5
      obtain rfl := so_some h
      refine ⟨0, fun L hL => ?_⟩
      simp only [go_sem, ir9, fhk1, ghk2nn, hk3, fhk4, fhk5]


def ir57_v : List Nat := [0, 1, 2]
def ir57 : AFn := ⟨1, 3, .seq (.region false [
    ⟨.var 1, 1, none, .box (.v 0)⟩,
    ⟨.var 2, 2, none, .mov (.c (.str []))⟩])
 (.seq (.region false [
    ⟨.push, 3, none, .fldAddr 0 (.v 1)⟩,
    ⟨.push, 4, none, .load false 1 (.s 0)⟩,
    ⟨.var 2, 2, none, .mov (.s 0)⟩])
 (.ret)), [.t 2]⟩
noncomputable def t_impl_starName : List (Nat × Ctr) := []
noncomputable def c_impl_starName : Ctr := mkF t_impl_starName ir57 [.bor]
theorem s_impl_starName : Sound Try.prog 57 c_impl_starName := mkF_sound _ rfl snd_nil (by kernel_rfl : chkFn Try.prog 57 ir57 ir57_v = true)
theorem M_impl_starName : c_impl_starName.modes = [.bor] := rfl
theorem Fl_impl_starName : c_impl_starName.flat = true := rfl
attribute [go_sem] M_impl_starName Fl_impl_starName
theorem Fs_impl_starName {x : Star} {y_ : (List UInt8)} (h : impl_starName x = some y_) : c_impl_starName.F [Star_av x] = ⟨true, .str y_, [.any]⟩ := by
  refine mkF_E rfl ?_
  dsimp only [impl_starName] at h
  obtain rfl := so_some h
  refine ⟨0, fun L hL => ?_⟩
  simp only [go_sem, ir57]


def ir56_b0 : IR := .seq (.region false [
    ⟨.var 10, 18, none, .bin false .lss (.v 9) (.v 8)⟩])
 (.seq (.cond (.v 10) (.skip)
  (.exit 0))
 (.seq (.block 1 (.seq (.region false [
      ⟨.push, 19, none, .mov (.v 9)⟩,
      ⟨.push, 20, none, .ixAddr 5 (.v 7) (.v 9)⟩,
      ⟨.push, 21, none, .load true 5 (.s 0)⟩,
      ⟨.var 6, 10, none, .alloc (.agg [.str [], .int .i64 (0), .int .i64 (0), .int .i64 (0), .int .i64 (0)])⟩,
      ⟨.var 5, 9, none, .mov (.s 2)⟩,
      ⟨.no, 0, none, .store 5 (.v 6) (.s 0)⟩])
   (.anyo 21 [
     ⟨.slot 0, 22, none, .mov (.v 2)⟩,
     ⟨.slot 1, 23, none, .load true 5 (.v 6)⟩,
     ⟨.slot 2, 24, none, .pur (.callv (.s 0) [(.s 1)])⟩,
     ⟨.slot 3, 25, none, .un .not (.s 2)⟩,
     ⟨.slot 4, 26, none, .mov (.s 3)⟩,
     ⟨.slot 5, 27, (some ((.s 4), false)), .mov (.v 5)⟩,
     ⟨.slot 6, 28, (some ((.s 4), false)), .bin false .gtr (.s 5) (.c (.int .i64 (0)))⟩,
     ⟨.slot 7, 29, (some ((.s 4), false)), .mov (.s 6)⟩,
     ⟨.slot 8, 30, (some ((.s 7), true)), .mov (.v 3)⟩,
     ⟨.slot 9, 31, (some ((.s 7), true)), .mov (.v 0)⟩,
     ⟨.slot 10, 32, (some ((.s 7), true)), .mov (.v 5)⟩,
     ⟨.slot 11, 33, (some ((.s 7), true)), .bin false .sub (.s 10) (.c (.int .i64 (1)))⟩,
     ⟨.slot 12, 34, (some ((.s 7), true)), .ixAddr 5 (.s 9) (.s 11)⟩,
     ⟨.slot 13, 35, (some ((.s 7), true)), .load true 5 (.s 12)⟩,
     ⟨.slot 14, 36, (some ((.s 7), true)), .callv (.s 8) [(.s 13)]⟩,
     ⟨.slot 15, 37, (some ((.s 7), true)), .mov (.v 3)⟩,
     ⟨.slot 16, 38, (some ((.s 7), true)), .load true 5 (.v 6)⟩,
     ⟨.slot 17, 39, (some ((.s 7), true)), .callv (.s 15) [(.s 16)]⟩,
     ⟨.slot 18, 40, (some ((.s 7), true)), .bin false .geq (.s 14) (.s 17)⟩,
     ⟨.slot 19, 41, (some ((.s 4), false)), .pick (.s 7) (.s 18) (.c (.bool false))⟩,
     ⟨.slot 20, 42, none, .pick (.s 4) (.c (.bool true)) (.s 19)⟩] [] (.cond (.s 20)
   (.seq (.region false [
       ⟨.var 4, 8, none, .mov (.c (.bool false))⟩])
    (.ret))
   (.skip)))))
 (.region false [
   ⟨.push, 43, none, .bin false .add (.v 9) (.c (.int .i64 (1)))⟩,
   ⟨.var 9, 17, none, .mov (.s 0)⟩])))
def ir56_k0 : List Bool := [true, false, true, true, false, false, false, true, true, true, false]
def ir56_o0 : List Bool := [false, false, false, false, false, false, false, false, false, false, false]
def ir56_r0 : List Bool := [false, false, false, false, true, false, false, false, false, false, false]
def ir56_v : List Nat := [0, 1, 2, 3, 8, 9, 10, 15, 16, 17, 18]
def ir56 : AFn := ⟨4, 11, .seq (.region false [
    ⟨.var 4, 8, none, .mov (.c (.bool false))⟩])
 (.seq (.test false [
    ⟨.push, 11, none, .mov (.v 0)⟩,
    ⟨.push, 12, none, .len false (.s 0)⟩,
    ⟨.push, 13, none, .mov (.v 1)⟩,
    ⟨.push, 14, none, .bin false .gtr (.s 1) (.s 0)⟩] (.s 0)
  (.seq (.region false [
      ⟨.var 4, 8, none, .mov (.c (.bool false))⟩])
   (.ret))
  (.skip))
 (.seq (.seq (.region false [
     ⟨.var 7, 15, none, .mov (.v 0)⟩,
     ⟨.var 8, 16, none, .len false (.v 7)⟩,
     ⟨.var 9, 17, none, .mov (.c (.int .i64 (0)))⟩])
  (.block 0 (.loop ir56_k0 ir56_o0 ir56_r0 ir56_b0)))
 (.seq (.region false [
    ⟨.var 4, 8, none, .mov (.c (.bool true))⟩])
 (.ret)))), [.t 4]⟩
noncomputable def t_impl_rising_impl_Star__impl_isStar__impl_starName : List (Nat × Ctr) := [(27, c_impl_isStar), (57, c_impl_starName)]
theorem lk_impl_rising_impl_Star__impl_isStar__impl_starName_27 : look t_impl_rising_impl_Star__impl_isStar__impl_starName 27 = some c_impl_isStar := rfl
theorem lk_impl_rising_impl_Star__impl_isStar__impl_starName_57 : look t_impl_rising_impl_Star__impl_isStar__impl_starName 57 = some c_impl_starName := rfl
noncomputable def c_impl_rising_impl_Star__impl_isStar__impl_starName : Ctr := mkF t_impl_rising_impl_Star__impl_isStar__impl_starName ir56 [.bor, .bor, .bor, .bor]
theorem s_impl_rising_impl_Star__impl_isStar__impl_starName : Sound Try.prog 56 c_impl_rising_impl_Star__impl_isStar__impl_starName := mkF_sound _ rfl (snd_cons s_impl_isStar (snd_cons s_impl_starName snd_nil)) (by kernel_rfl : chkFn Try.prog 56 ir56 ir56_v = true)
theorem M_impl_rising_impl_Star__impl_isStar__impl_starName : c_impl_rising_impl_Star__impl_isStar__impl_starName.modes = [.bor, .bor, .bor, .bor] := rfl
theorem Fl_impl_rising_impl_Star__impl_isStar__impl_starName : c_impl_rising_impl_Star__impl_isStar__impl_starName.flat = true := rfl
attribute [go_sem] M_impl_rising_impl_Star__impl_isStar__impl_starName Fl_impl_rising_impl_Star__impl_isStar__impl_starName
attribute [go_sem] lk_impl_rising_impl_Star__impl_isStar__impl_starName_27 lk_impl_rising_impl_Star__impl_isStar__impl_starName_57
def E_impl_rising_impl_Star__impl_isStar__impl_starName_l1 (list : List Star) (t15 : List Star) (t16 : Int) : Int → St
  | t17 => ⟨[.sl 5 (List.map Star_av list), .any, .fn (.func 27) [] [], .fn (.func 57) [] [], .any, .any, .any, .sl 5 (List.map Star_av t15), .int .i64 t16, .int .i64 t17, .any], [], [], true⟩
def R_impl_rising_impl_Star__impl_isStar__impl_starName_l1 (list : List Star) (t15 : List Star) (t16 : Int) : (Unit ⊕ Bool) → Res
  | .inl y => (.exit 0, ⟨[.any, .any, .any, .any, .any, .any, .any, .any, .any, .any, .any], [], [], true⟩)
  | .inr y => (.ret, ⟨[.any, .any, .any, .any, .bool y, .any, .any, .any, .any, .any, .any], [], [], true⟩)
theorem impl_rising_impl_Star__impl_isStar__impl_starName_l1_ex {list : List Star} {t15 : List Star} {t16 : Int} {sgm_ : Int} {rho_ : Unit ⊕ Bool} (h : whileE (impl_rising_impl_Star__impl_isStar__impl_starName_l1 list t15 t16) sgm_ = some rho_) : ∃ L0, ∀ L, L0 ≤ L → iter (exec (look t_impl_rising_impl_Star__impl_isStar__impl_starName) L ir56_b0) ir56_k0 ir56_o0 ir56_r0 L (E_impl_rising_impl_Star__impl_isStar__impl_starName_l1 list t15 t16 sgm_) = R_impl_rising_impl_Star__impl_isStar__impl_starName_l1 list t15 t16 rho_ := by
  refine loop_ex (E := E_impl_rising_impl_Star__impl_isStar__impl_starName_l1 list t15 t16) (R := R_impl_rising_impl_Star__impl_isStar__impl_starName_l1 list t15 t16) (fun y => by first | (intro c; cases c) | (rcases y with y | y <;> (intro c; cases c)) | (rcases y with y | y | y <;> (intro c; cases c))) ?_ h
  clear h
  intro t17 o_ h
  dsimp only [impl_rising_impl_Star__impl_isStar__impl_starName_l1] at h
  rcases it_some h with ⟨hk2, h⟩ | ⟨hk2, h⟩
  · try simp only [go_sem, n1, n2, n3, n4] at hk2
    all_goals
    obtain ⟨hk3, h⟩ := ck_some h
    have lhk3 := ix_lt hk3
    have xhk3 := getD_mapD Star_av t15 lhk3
    try simp only [go_sem] at lhk3
    try simp only [go_sem] at xhk3
    try simp only [go_sem, n1, n2, n3, n4, hk2] at hk3
    all_goals
    obtain ⟨y_4, hk4, h⟩ := bd_some h
    have fhk4 := Fs_impl_isStar hk4
    try simp only [go_sem] at fhk4
    obtain ⟨hk5, h⟩ := ck_some h
    rcases or_split hk5 with ⟨ghk5, hk5⟩ | ghk5
    · try simp only [go_sem, n1, n2, n3, n4, hk2, hk3] at ghk5
      all_goals
      have lhk5 := ix_lt hk5
      have xhk5 := getD_mapD Star_av list lhk5
      try simp only [go_sem] at lhk5
      try simp only [go_sem] at xhk5
      try simp only [go_sem, n1, n2, n3, n4, hk2, hk3, ghk5] at hk5
      all_goals
      obtain ⟨hk6, h⟩ := ck_some h
      rcases or_split hk6 with ⟨ghk6, hk6⟩ | ghk6
      · try simp only [go_sem, n1, n2, n3, n4, hk2, hk3, ghk5, hk5] at ghk6
        all_goals
        obtain ⟨y_6, hhk6⟩ := Option.isSome_iff_exists.1 hk6
        have fhk6 := Fs_impl_starName hhk6
        try simp only [go_sem] at fhk6
        obtain ⟨hk7, h⟩ := ck_some h
        rcases or_split hk7 with ⟨ghk7, hk7⟩ | ghk7
        · try simp only [go_sem, n1, n2, n3, n4, hk2, hk3, ghk5, hk5, ghk6, hhk6] at ghk7
          all_goals
          obtain ⟨y_7, hhk7⟩ := Option.isSome_iff_exists.1 hk7
          have fhk7 := Fs_impl_starName hhk7
          try simp only [go_sem] at fhk7
          rcases it_some h with ⟨hk8, h⟩ | ⟨hk8, h⟩
          · try simp only [go_sem, n1, n2, n3, n4, hk2, hk3, ghk5, hk5, ghk6, hhk6, ghk7, hhk7] at hk8
            all_goals
            obtain rfl := so_some h
            refine ⟨0, fun L hL => ?_⟩
            simp only [go_sem, ir56, E_impl_rising_impl_Star__impl_isStar__impl_starName_l1, R_impl_rising_impl_Star__impl_isStar__impl_starName_l1, ir56_b0, ir56_k0, ir56_o0, ir56_r0, hk2, hk3, lhk3, xhk3, fhk4, ghk5, hk5, lhk5, xhk5, ghk6, hhk6, fhk6, ghk7, hhk7, fhk7, hk8]
          · try simp only [go_sem, n1, n2, n3, n4, hk2, hk3, ghk5, hk5, ghk6, hhk6, ghk7, hhk7] at hk8
            all_goals
            obtain rfl := so_some h
            refine ⟨0, fun L hL => ?_⟩
            simp only [go_sem, ir56, E_impl_rising_impl_Star__impl_isStar__impl_starName_l1, R_impl_rising_impl_Star__impl_isStar__impl_starName_l1, ir56_b0, ir56_k0, ir56_o0, ir56_r0, hk2, hk3, lhk3, xhk3, fhk4, ghk5, hk5, lhk5, xhk5, ghk6, hhk6, fhk6, ghk7, hhk7, fhk7, hk8]
        · rcases and_f ghk7 with ghk7a | ⟨ghk7a, ghk7b⟩
          · have ghk7an := no_f ghk7a
            have ghk7ann := no_t ghk7an
            try simp only [go_sem, n1, n2, n3, n4, hk2, hk3, ghk5, hk5, ghk6, hhk6] at ghk7ann
            all_goals
            rcases it_some h with ⟨hk8, h⟩ | ⟨hk8, h⟩
            · try simp only [go_sem, n1, n2, n3, n4, hk2, hk3, ghk5, hk5, ghk6, hhk6, ghk7ann] at hk8
              all_goals
              obtain rfl := so_some h
              refine ⟨0, fun L hL => ?_⟩
              simp only [go_sem, ir56, E_impl_rising_impl_Star__impl_isStar__impl_starName_l1, R_impl_rising_impl_Star__impl_isStar__impl_starName_l1, ir56_b0, ir56_k0, ir56_o0, ir56_r0, hk2, hk3, lhk3, xhk3, fhk4, ghk5, hk5, lhk5, xhk5, ghk6, hhk6, fhk6, ghk7ann, hk8]
            · try simp only [go_sem, n1, n2, n3, n4, hk2, hk3, ghk5, hk5, ghk6, hhk6, ghk7ann] at hk8
              all_goals
              obtain rfl := so_some h
              refine ⟨0, fun L hL => ?_⟩
              simp only [go_sem, ir56, E_impl_rising_impl_Star__impl_isStar__impl_starName_l1, R_impl_rising_impl_Star__impl_isStar__impl_starName_l1, ir56_b0, ir56_k0, ir56_o0, ir56_r0, hk2, hk3, lhk3, xhk3, fhk4, ghk5, hk5, lhk5, xhk5, ghk6, hhk6, fhk6, ghk7ann, hk8]
          · have ghk7an := no_t ghk7a
            have ghk7ann := no_f ghk7an
            try simp only [go_sem, n1, n2, n3, n4, hk2, hk3, ghk5, hk5, ghk6, hhk6] at ghk7ann
            all_goals
            try simp only [go_sem, n1, n2, n3, n4, hk2, hk3, ghk5, hk5, ghk6, hhk6, ghk7ann] at ghk7b
            all_goals
            rcases it_some h with ⟨hk8, h⟩ | ⟨hk8, h⟩
            · try simp only [go_sem, n1, n2, n3, n4, hk2, hk3, ghk5, hk5, ghk6, hhk6, ghk7ann, ghk7b] at hk8
              all_goals
              obtain rfl := so_some h
              refine ⟨0, fun L hL => ?_⟩
              simp only [go_sem, ir56, E_impl_rising_impl_Star__impl_isStar__impl_starName_l1, R_impl_rising_impl_Star__impl_isStar__impl_starName_l1, ir56_b0, ir56_k0, ir56_o0, ir56_r0, hk2, hk3, lhk3, xhk3, fhk4, ghk5, hk5, lhk5, xhk5, ghk6, hhk6, fhk6, ghk7ann, ghk7b, hk8]
            · try simp only [go_sem, n1, n2, n3, n4, hk2, hk3, ghk5, hk5, ghk6, hhk6, ghk7ann, ghk7b] at hk8
              all_goals
              obtain rfl := so_some h
              refine ⟨0, fun L hL => ?_⟩
              simp only [go_sem, ir56, E_impl_rising_impl_Star__impl_isStar__impl_starName_l1, R_impl_rising_impl_Star__impl_isStar__impl_starName_l1, ir56_b0, ir56_k0, ir56_o0, ir56_r0, hk2, hk3, lhk3, xhk3, fhk4, ghk5, hk5, lhk5, xhk5, ghk6, hhk6, fhk6, ghk7ann, ghk7b, hk8]
      · rcases and_f ghk6 with ghk6a | ⟨ghk6a, ghk6b⟩
        · have ghk6an := no_f ghk6a
          have ghk6ann := no_t ghk6an
          try simp only [go_sem, n1, n2, n3, n4, hk2, hk3, ghk5, hk5] at ghk6ann
          all_goals
          obtain ⟨hk7, h⟩ := ck_some h
          rcases or_split hk7 with ⟨ghk7, hk7⟩ | ghk7
          · try simp only [go_sem, n1, n2, n3, n4, hk2, hk3, ghk5, hk5, ghk6ann] at ghk7
            all_goals
            obtain ⟨y_7, hhk7⟩ := Option.isSome_iff_exists.1 hk7
            have fhk7 := Fs_impl_starName hhk7
            try simp only [go_sem] at fhk7
            rcases it_some h with ⟨hk8, h⟩ | ⟨hk8, h⟩
            · try simp only [go_sem, n1, n2, n3, n4, hk2, hk3, ghk5, hk5, ghk6ann, ghk7, hhk7] at hk8
              all_goals
              obtain rfl := so_some h
              refine ⟨0, fun L hL => ?_⟩
              simp only [go_sem, ir56, E_impl_rising_impl_Star__impl_isStar__impl_starName_l1, R_impl_rising_impl_Star__impl_isStar__impl_starName_l1, ir56_b0, ir56_k0, ir56_o0, ir56_r0, hk2, hk3, lhk3, xhk3, fhk4, ghk5, hk5, lhk5, xhk5, ghk6ann, ghk7, hhk7, fhk7, hk8]
            · try simp only [go_sem, n1, n2, n3, n4, hk2, hk3, ghk5, hk5, ghk6ann, ghk7, hhk7] at hk8
              all_goals
              obtain rfl := so_some h
              refine ⟨0, fun L hL => ?_⟩
              simp only [go_sem, ir56, E_impl_rising_impl_Star__impl_isStar__impl_starName_l1, R_impl_rising_impl_Star__impl_isStar__impl_starName_l1, ir56_b0, ir56_k0, ir56_o0, ir56_r0, hk2, hk3, lhk3, xhk3, fhk4, ghk5, hk5, lhk5, xhk5, ghk6ann, ghk7, hhk7, fhk7, hk8]
          · rcases and_f ghk7 with ghk7a | ⟨ghk7a, ghk7b⟩
            · have ghk7an := no_f ghk7a
              have ghk7ann := no_t ghk7an
              try simp only [go_sem, n1, n2, n3, n4, hk2, hk3, ghk5, hk5, ghk6ann] at ghk7ann
              all_goals
              rcases it_some h with ⟨hk8, h⟩ | ⟨hk8, h⟩
              · try simp only [go_sem, n1, n2, n3, n4, hk2, hk3, ghk5, hk5, ghk6ann, ghk7ann] at hk8
                all_goals
                obtain rfl := so_some h
                refine ⟨0, fun L hL => ?_⟩
                simp only [go_sem, ir56, E_impl_rising_impl_Star__impl_isStar__impl_starName_l1, R_impl_rising_impl_Star__impl_isStar__impl_starName_l1, ir56_b0, ir56_k0, ir56_o0, ir56_r0, hk2, hk3, lhk3, xhk3, fhk4, ghk5, hk5, lhk5, xhk5, ghk6ann, ghk7ann, hk8]
              · try simp only [go_sem, n1, n2, n3, n4, hk2, hk3, ghk5, hk5, ghk6ann, ghk7ann] at hk8
                all_goals
                obtain rfl := so_some h
                refine ⟨0, fun L hL => ?_⟩
                simp only [go_sem, ir56, E_impl_rising_impl_Star__impl_isStar__impl_starName_l1, R_impl_rising_impl_Star__impl_isStar__impl_starName_l1, ir56_b0, ir56_k0, ir56_o0, ir56_r0, hk2, hk3, lhk3, xhk3, fhk4, ghk5, hk5, lhk5, xhk5, ghk6ann, ghk7ann, hk8]
            · have ghk7an := no_t ghk7a
              have ghk7ann := no_f ghk7an
              try simp only [go_sem, n1, n2, n3, n4, hk2, hk3, ghk5, hk5, ghk6ann] at ghk7ann
              all_goals
              try simp only [go_sem, n1, n2, n3, n4, hk2, hk3, ghk5, hk5, ghk6ann, ghk7ann] at ghk7b
              all_goals
              rcases it_some h with ⟨hk8, h⟩ | ⟨hk8, h⟩
              · try simp only [go_sem, n1, n2, n3, n4, hk2, hk3, ghk5, hk5, ghk6ann, ghk7ann, ghk7b] at hk8
                all_goals
                obtain rfl := so_some h
                refine ⟨0, fun L hL => ?_⟩
                simp only [go_sem, ir56, E_impl_rising_impl_Star__impl_isStar__impl_starName_l1, R_impl_rising_impl_Star__impl_isStar__impl_starName_l1, ir56_b0, ir56_k0, ir56_o0, ir56_r0, hk2, hk3, lhk3, xhk3, fhk4, ghk5, hk5, lhk5, xhk5, ghk6ann, ghk7ann, ghk7b, hk8]
              · try simp only [go_sem, n1, n2, n3, n4, hk2, hk3, ghk5, hk5, ghk6ann, ghk7ann, ghk7b] at hk8
                all_goals
                obtain rfl := so_some h
                refine ⟨0, fun L hL => ?_⟩
                simp only [go_sem, ir56, E_impl_rising_impl_Star__impl_isStar__impl_starName_l1, R_impl_rising_impl_Star__impl_isStar__impl_starName_l1, ir56_b0, ir56_k0, ir56_o0, ir56_r0, hk2, hk3, lhk3, xhk3, fhk4, ghk5, hk5, lhk5, xhk5, ghk6ann, ghk7ann, ghk7b, hk8]
        · have ghk6an := no_t ghk6a
          have ghk6ann := no_f ghk6an
          try simp only [go_sem, n1, n2, n3, n4, hk2, hk3, ghk5, hk5] at ghk6ann
          all_goals
          try simp only [go_sem, n1, n2, n3, n4, hk2, hk3, ghk5, hk5, ghk6ann] at ghk6b
          all_goals
          obtain ⟨hk7, h⟩ := ck_some h
          rcases or_split hk7 with ⟨ghk7, hk7⟩ | ghk7
          · try simp only [go_sem, n1, n2, n3, n4, hk2, hk3, ghk5, hk5, ghk6ann, ghk6b] at ghk7
            all_goals
            obtain ⟨y_7, hhk7⟩ := Option.isSome_iff_exists.1 hk7
            have fhk7 := Fs_impl_starName hhk7
            try simp only [go_sem] at fhk7
            rcases it_some h with ⟨hk8, h⟩ | ⟨hk8, h⟩
            · try simp only [go_sem, n1, n2, n3, n4, hk2, hk3, ghk5, hk5, ghk6ann, ghk6b, ghk7, hhk7] at hk8
              all_goals
              obtain rfl := so_some h
              refine ⟨0, fun L hL => ?_⟩
              simp only [go_sem, ir56, E_impl_rising_impl_Star__impl_isStar__impl_starName_l1, R_impl_rising_impl_Star__impl_isStar__impl_starName_l1, ir56_b0, ir56_k0, ir56_o0, ir56_r0, hk2, hk3, lhk3, xhk3, fhk4, ghk5, hk5, lhk5, xhk5, ghk6ann, ghk6b, ghk7, hhk7, fhk7, hk8]
            · try simp only [go_sem, n1, n2, n3, n4, hk2, hk3, ghk5, hk5, ghk6ann, ghk6b, ghk7, hhk7] at hk8
              all_goals
              obtain rfl := so_some h
              refine ⟨0, fun L hL => ?_⟩
              simp only [go_sem, ir56, E_impl_rising_impl_Star__impl_isStar__impl_starName_l1, R_impl_rising_impl_Star__impl_isStar__impl_starName_l1, ir56_b0, ir56_k0, ir56_o0, ir56_r0, hk2, hk3, lhk3, xhk3, fhk4, ghk5, hk5, lhk5, xhk5, ghk6ann, ghk6b, ghk7, hhk7, fhk7, hk8]
          · rcases and_f ghk7 with ghk7a | ⟨ghk7a, ghk7b⟩
            · have ghk7an := no_f ghk7a
              have ghk7ann := no_t ghk7an
              try simp only [go_sem, n1, n2, n3, n4, hk2, hk3, ghk5, hk5, ghk6ann, ghk6b] at ghk7ann
              all_goals
              rcases it_some h with ⟨hk8, h⟩ | ⟨hk8, h⟩
              · try simp only [go_sem, n1, n2, n3, n4, hk2, hk3, ghk5, hk5, ghk6ann, ghk6b, ghk7ann] at hk8
                all_goals
                obtain rfl := so_some h
                refine ⟨0, fun L hL => ?_⟩
                simp only [go_sem, ir56, E_impl_rising_impl_Star__impl_isStar__impl_starName_l1, R_impl_rising_impl_Star__impl_isStar__impl_starName_l1, ir56_b0, ir56_k0, ir56_o0, ir56_r0, hk2, hk3, lhk3, xhk3, fhk4, ghk5, hk5, lhk5, xhk5, ghk6ann, ghk6b, ghk7ann, hk8]
              · try simp only [go_sem, n1, n2, n3, n4, hk2, hk3, ghk5, hk5, ghk6ann, ghk6b, ghk7ann] at hk8
                all_goals
                obtain rfl := so_some h
                refine ⟨0, fun L hL => ?_⟩
                simp only [go_sem, ir56, E_impl_rising_impl_Star__impl_isStar__impl_starName_l1, R_impl_rising_impl_Star__impl_isStar__impl_starName_l1, ir56_b0, ir56_k0, ir56_o0, ir56_r0, hk2, hk3, lhk3, xhk3, fhk4, ghk5, hk5, lhk5, xhk5, ghk6ann, ghk6b, ghk7ann, hk8]
            · have ghk7an := no_t ghk7a
              have ghk7ann := no_f ghk7an
              try simp only [go_sem, n1, n2, n3, n4, hk2, hk3, ghk5, hk5, ghk6ann, ghk6b] at ghk7ann
              all_goals
              try simp only [go_sem, n1, n2, n3, n4, hk2, hk3, ghk5, hk5, ghk6ann, ghk6b, ghk7ann] at ghk7b
              all_goals
              rcases it_some h with ⟨hk8, h⟩ | ⟨hk8, h⟩
              · try simp only [go_sem, n1, n2, n3, n4, hk2, hk3, ghk5, hk5, ghk6ann, ghk6b, ghk7ann, ghk7b] at hk8
                all_goals
                obtain rfl := so_some h
                refine ⟨0, fun L hL => ?_⟩
                simp only [go_sem, ir56, E_impl_rising_impl_Star__impl_isStar__impl_starName_l1, R_impl_rising_impl_Star__impl_isStar__impl_starName_l1, ir56_b0, ir56_k0, ir56_o0, ir56_r0, hk2, hk3, lhk3, xhk3, fhk4, ghk5, hk5, lhk5, xhk5, ghk6ann, ghk6b, ghk7ann, ghk7b, hk8]
              · try simp only [go_sem, n1, n2, n3, n4, hk2, hk3, ghk5, hk5, ghk6ann, ghk6b, ghk7ann, ghk7b] at hk8
                all_goals
                obtain rfl := so_some h
                refine ⟨0, fun L hL => ?_⟩
                simp only [go_sem, ir56, E_impl_rising_impl_Star__impl_isStar__impl_starName_l1, R_impl_rising_impl_Star__impl_isStar__impl_starName_l1, ir56_b0, ir56_k0, ir56_o0, ir56_r0, hk2, hk3, lhk3, xhk3, fhk4, ghk5, hk5, lhk5, xhk5, ghk6ann, ghk6b, ghk7ann, ghk7b, hk8]
    · rcases and_f ghk5 with ghk5a | ⟨ghk5a, ghk5b⟩
      · have ghk5an := no_f ghk5a
        have ghk5ann := no_t ghk5an
        try simp only [go_sem, n1, n2, n3, n4, hk2, hk3] at ghk5ann
        all_goals
        obtain ⟨hk6, h⟩ := ck_some h
        rcases or_split hk6 with ⟨ghk6, hk6⟩ | ghk6
        · try simp only [go_sem, n1, n2, n3, n4, hk2, hk3, ghk5ann] at ghk6
          all_goals
          obtain ⟨y_6, hhk6⟩ := Option.isSome_iff_exists.1 hk6
          have fhk6 := Fs_impl_starName hhk6
          try simp only [go_sem] at fhk6
          obtain ⟨hk7, h⟩ := ck_some h
          rcases or_split hk7 with ⟨ghk7, hk7⟩ | ghk7
          · try simp only [go_sem, n1, n2, n3, n4, hk2, hk3, ghk5ann, ghk6, hhk6] at ghk7
            all_goals
            obtain ⟨y_7, hhk7⟩ := Option.isSome_iff_exists.1 hk7
            have fhk7 := Fs_impl_starName hhk7
            try simp only [go_sem] at fhk7
            rcases it_some h with ⟨hk8, h⟩ | ⟨hk8, h⟩
            · try simp only [go_sem, n1, n2, n3, n4, hk2, hk3, ghk5ann, ghk6, hhk6, ghk7, hhk7] at hk8
              all_goals
              obtain rfl := so_some h
              refine ⟨0, fun L hL => ?_⟩
              simp only [go_sem, ir56, E_impl_rising_impl_Star__impl_isStar__impl_starName_l1, R_impl_rising_impl_Star__impl_isStar__impl_starName_l1, ir56_b0, ir56_k0, ir56_o0, ir56_r0, hk2, hk3, lhk3, xhk3, fhk4, ghk5ann, ghk6, hhk6, fhk6, ghk7, hhk7, fhk7, hk8]
            · try simp only [go_sem, n1, n2, n3, n4, hk2, hk3, ghk5ann, ghk6, hhk6, ghk7, hhk7] at hk8
              all_goals
              obtain rfl := so_some h
              refine ⟨0, fun L hL => ?_⟩
              simp only [go_sem, ir56, E_impl_rising_impl_Star__impl_isStar__impl_starName_l1, R_impl_rising_impl_Star__impl_isStar__impl_starName_l1, ir56_b0, ir56_k0, ir56_o0, ir56_r0, hk2, hk3, lhk3, xhk3, fhk4, ghk5ann, ghk6, hhk6, fhk6, ghk7, hhk7, fhk7, hk8]
          · rcases and_f ghk7 with ghk7a | ⟨ghk7a, ghk7b⟩
            · have ghk7an := no_f ghk7a
              have ghk7ann := no_t ghk7an
              try simp only [go_sem, n1, n2, n3, n4, hk2, hk3, ghk5ann, ghk6, hhk6] at ghk7ann
              all_goals
              rcases it_some h with ⟨hk8, h⟩ | ⟨hk8, h⟩
              · try simp only [go_sem, n1, n2, n3, n4, hk2, hk3, ghk5ann, ghk6, hhk6, ghk7ann] at hk8
                all_goals
                obtain rfl := so_some h
                refine ⟨0, fun L hL => ?_⟩
                simp only [go_sem, ir56, E_impl_rising_impl_Star__impl_isStar__impl_starName_l1, R_impl_rising_impl_Star__impl_isStar__impl_starName_l1, ir56_b0, ir56_k0, ir56_o0, ir56_r0, hk2, hk3, lhk3, xhk3, fhk4, ghk5ann, ghk6, hhk6, fhk6, ghk7ann, hk8]
              · try simp only [go_sem, n1, n2, n3, n4, hk2, hk3, ghk5ann, ghk6, hhk6, ghk7ann] at hk8
                all_goals
                obtain rfl := so_some h
                refine ⟨0, fun L hL => ?_⟩
                simp only [go_sem, ir56, E_impl_rising_impl_Star__impl_isStar__impl_starName_l1, R_impl_rising_impl_Star__impl_isStar__impl_starName_l1, ir56_b0, ir56_k0, ir56_o0, ir56_r0, hk2, hk3, lhk3, xhk3, fhk4, ghk5ann, ghk6, hhk6, fhk6, ghk7ann, hk8]
            · have ghk7an := no_t ghk7a
              have ghk7ann := no_f ghk7an
              try simp only [go_sem, n1, n2, n3, n4, hk2, hk3, ghk5ann, ghk6, hhk6] at ghk7ann
              all_goals
              try simp only [go_sem, n1, n2, n3, n4, hk2, hk3, ghk5ann, ghk6, hhk6, ghk7ann] at ghk7b
              all_goals
              rcases it_some h with ⟨hk8, h⟩ | ⟨hk8, h⟩
              · try simp only [go_sem, n1, n2, n3, n4, hk2, hk3, ghk5ann, ghk6, hhk6, ghk7ann, ghk7b] at hk8
                all_goals
                obtain rfl := so_some h
                refine ⟨0, fun L hL => ?_⟩
                simp only [go_sem, ir56, E_impl_rising_impl_Star__impl_isStar__impl_starName_l1, R_impl_rising_impl_Star__impl_isStar__impl_starName_l1, ir56_b0, ir56_k0, ir56_o0, ir56_r0, hk2, hk3, lhk3, xhk3, fhk4, ghk5ann, ghk6, hhk6, fhk6, ghk7ann, ghk7b, hk8]
              · try simp only [go_sem, n1, n2, n3, n4, hk2, hk3, ghk5ann, ghk6, hhk6, ghk7ann, ghk7b] at hk8
                all_goals
                obtain rfl := so_some h
                refine ⟨0, fun L hL => ?_⟩
                simp only [go_sem, ir56, E_impl_rising_impl_Star__impl_isStar__impl_starName_l1, R_impl_rising_impl_Star__impl_isStar__impl_starName_l1, ir56_b0, ir56_k0, ir56_o0, ir56_r0, hk2, hk3, lhk3, xhk3, fhk4, ghk5ann, ghk6, hhk6, fhk6, ghk7ann, ghk7b, hk8]
        · rcases and_f ghk6 with ghk6a | ⟨ghk6a, ghk6b⟩
          · have ghk6an := no_f ghk6a
            have ghk6ann := no_t ghk6an
            try simp only [go_sem, n1, n2, n3, n4, hk2, hk3, ghk5ann] at ghk6ann
            all_goals
            obtain ⟨hk7, h⟩ := ck_some h
            rcases or_split hk7 with ⟨ghk7, hk7⟩ | ghk7
            · try simp only [go_sem, n1, n2, n3, n4, hk2, hk3, ghk5ann, ghk6ann] at ghk7
              all_goals
              obtain ⟨y_7, hhk7⟩ := Option.isSome_iff_exists.1 hk7
              have fhk7 := Fs_impl_starName hhk7
              try simp only [go_sem] at fhk7
              rcases it_some h with ⟨hk8, h⟩ | ⟨hk8, h⟩
              · try simp only [go_sem, n1, n2, n3, n4, hk2, hk3, ghk5ann, ghk6ann, ghk7, hhk7] at hk8
                all_goals
                obtain rfl := so_some h
                refine ⟨0, fun L hL => ?_⟩
                simp only [go_sem, ir56, E_impl_rising_impl_Star__impl_isStar__impl_starName_l1, R_impl_rising_impl_Star__impl_isStar__impl_starName_l1, ir56_b0, ir56_k0, ir56_o0, ir56_r0, hk2, hk3, lhk3, xhk3, fhk4, ghk5ann, ghk6ann, ghk7, hhk7, fhk7, hk8]
              · try simp only [go_sem, n1, n2, n3, n4, hk2, hk3, ghk5ann, ghk6ann, ghk7, hhk7] at hk8
                all_goals
                obtain rfl := so_some h
                refine ⟨0, fun L hL => ?_⟩
                simp only [go_sem, ir56, E_impl_rising_impl_Star__impl_isStar__impl_starName_l1, R_impl_rising_impl_Star__impl_isStar__impl_starName_l1, ir56_b0, ir56_k0, ir56_o0, ir56_r0, hk2, hk3, lhk3, xhk3, fhk4, ghk5ann, ghk6ann, ghk7, hhk7, fhk7, hk8]
            · rcases and_f ghk7 with ghk7a | ⟨ghk7a, ghk7b⟩
              · have ghk7an := no_f ghk7a
                have ghk7ann := no_t ghk7an
                try simp only [go_sem, n1, n2, n3, n4, hk2, hk3, ghk5ann, ghk6ann] at ghk7ann
                all_goals
                rcases it_some h with ⟨hk8, h⟩ | ⟨hk8, h⟩
                · try simp only [go_sem, n1, n2, n3, n4, hk2, hk3, ghk5ann, ghk6ann, ghk7ann] at hk8
                  all_goals
                  obtain rfl := so_some h
                  refine ⟨0, fun L hL => ?_⟩
                  simp only [go_sem, ir56, E_impl_rising_impl_Star__impl_isStar__impl_starName_l1, R_impl_rising_impl_Star__impl_isStar__impl_starName_l1, ir56_b0, ir56_k0, ir56_o0, ir56_r0, hk2, hk3, lhk3, xhk3, fhk4, ghk5ann, ghk6ann, ghk7ann, hk8]
                · try simp only [go_sem, n1, n2, n3, n4, hk2, hk3, ghk5ann, ghk6ann, ghk7ann] at hk8
                  all_goals
                  obtain rfl := so_some h
                  refine ⟨0, fun L hL => ?_⟩
                  simp only [go_sem, ir56, E_impl_rising_impl_Star__impl_isStar__impl_starName_l1, R_impl_rising_impl_Star__impl_isStar__impl_starName_l1, ir56_b0, ir56_k0, ir56_o0, ir56_r0, hk2, hk3, lhk3, xhk3, fhk4, ghk5ann, ghk6ann, ghk7ann, hk8]
              · have ghk7an := no_t ghk7a
                have ghk7ann := no_f ghk7an
                try simp only [go_sem, n1, n2, n3, n4, hk2, hk3, ghk5ann, ghk6ann] at ghk7ann
                all_goals
                try simp only [go_sem, n1, n2, n3, n4, hk2, hk3, ghk5ann, ghk6ann, ghk7ann] at ghk7b
                all_goals
                rcases it_some h with ⟨hk8, h⟩ | ⟨hk8, h⟩
                · try simp only [go_sem, n1, n2, n3, n4, hk2, hk3, ghk5ann, ghk6ann, ghk7ann, ghk7b] at hk8
                  all_goals
                  obtain rfl := so_some h
                  refine ⟨0, fun L hL => ?_⟩
                  simp only [go_sem, ir56, E_impl_rising_impl_Star__impl_isStar__impl_starName_l1, R_impl_rising_impl_Star__impl_isStar__impl_starName_l1, ir56_b0, ir56_k0, ir56_o0, ir56_r0, hk2, hk3, lhk3, xhk3, fhk4, ghk5ann, ghk6ann, ghk7ann, ghk7b, hk8]
                · try simp only [go_sem, n1, n2, n3, n4, hk2, hk3, ghk5ann, ghk6ann, ghk7ann, ghk7b] at hk8
                  all_goals
                  obtain rfl := so_some h
                  refine ⟨0, fun L hL => ?_⟩
                  simp only [go_sem, ir56, E_impl_rising_impl_Star__impl_isStar__impl_starName_l1, R_impl_rising_impl_Star__impl_isStar__impl_starName_l1, ir56_b0, ir56_k0, ir56_o0, ir56_r0, hk2, hk3, lhk3, xhk3, fhk4, ghk5ann, ghk6ann, ghk7ann, ghk7b, hk8]
          · have ghk6an := no_t ghk6a
            have ghk6ann := no_f ghk6an
            try simp only [go_sem, n1, n2, n3, n4, hk2, hk3, ghk5ann] at ghk6ann
            all_goals
            try simp only [go_sem, n1, n2, n3, n4, hk2, hk3, ghk5ann, ghk6ann] at ghk6b
            all_goals
            obtain ⟨hk7, h⟩ := ck_some h
            rcases or_split hk7 with ⟨ghk7, hk7⟩ | ghk7
            · try simp only [go_sem, n1, n2, n3, n4, hk2, hk3, ghk5ann, ghk6ann, ghk6b] at ghk7
              all_goals
              obtain ⟨y_7, hhk7⟩ := Option.isSome_iff_exists.1 hk7
              have fhk7 := Fs_impl_starName hhk7
              try simp only [go_sem] at fhk7
              rcases it_some h with ⟨hk8, h⟩ | ⟨hk8, h⟩
              · try simp only [go_sem, n1, n2, n3, n4, hk2, hk3, ghk5ann, ghk6ann, ghk6b, ghk7, hhk7] at hk8
                all_goals
                obtain rfl := so_some h
                refine ⟨0, fun L hL => ?_⟩
                simp only [go_sem, ir56, E_impl_rising_impl_Star__impl_isStar__impl_starName_l1, R_impl_rising_impl_Star__impl_isStar__impl_starName_l1, ir56_b0, ir56_k0, ir56_o0, ir56_r0, hk2, hk3, lhk3, xhk3, fhk4, ghk5ann, ghk6ann, ghk6b, ghk7, hhk7, fhk7, hk8]
              · try simp only [go_sem, n1, n2, n3, n4, hk2, hk3, ghk5ann, ghk6ann, ghk6b, ghk7, hhk7] at hk8
                all_goals
                obtain rfl := so_some h
                refine ⟨0, fun L hL => ?_⟩
                simp only [go_sem, ir56, E_impl_rising_impl_Star__impl_isStar__impl_starName_l1, R_impl_rising_impl_Star__impl_isStar__impl_starName_l1, ir56_b0, ir56_k0, ir56_o0, ir56_r0, hk2, hk3, lhk3, xhk3, fhk4, ghk5ann, ghk6ann, ghk6b, ghk7, hhk7, fhk7, hk8]
            · rcases and_f ghk7 with ghk7a | ⟨ghk7a, ghk7b⟩
              · have ghk7an := no_f ghk7a
                have ghk7ann := no_t ghk7an
                try simp only [go_sem, n1, n2, n3, n4, hk2, hk3, ghk5ann, ghk6ann, ghk6b] at ghk7ann
                all_goals
                rcases it_some h with ⟨hk8, h⟩ | ⟨hk8, h⟩
                · try simp only [go_sem, n1, n2, n3, n4, hk2, hk3, ghk5ann, ghk6ann, ghk6b, ghk7ann] at hk8
                  all_goals
                  obtain rfl := so_some h
                  refine ⟨0, fun L hL => ?_⟩
                  simp only [go_sem, ir56, E_impl_rising_impl_Star__impl_isStar__impl_starName_l1, R_impl_rising_impl_Star__impl_isStar__impl_starName_l1, ir56_b0, ir56_k0, ir56_o0, ir56_r0, hk2, hk3, lhk3, xhk3, fhk4, ghk5ann, ghk6ann, ghk6b, ghk7ann, hk8]
                · try simp only [go_sem, n1, n2, n3, n4, hk2, hk3, ghk5ann, ghk6ann, ghk6b, ghk7ann] at hk8
                  all_goals
                  obtain rfl := so_some h
                  refine ⟨0, fun L hL => ?_⟩
                  simp only [go_sem, ir56, E_impl_rising_impl_Star__impl_isStar__impl_starName_l1, R_impl_rising_impl_Star__impl_isStar__impl_starName_l1, ir56_b0, ir56_k0, ir56_o0, ir56_r0, hk2, hk3, lhk3, xhk3, fhk4, ghk5ann, ghk6ann, ghk6b, ghk7ann, hk8]
              · have ghk7an := no_t ghk7a
                have ghk7ann := no_f ghk7an
                try simp only [go_sem, n1, n2, n3, n4, hk2, hk3, ghk5ann, ghk6ann, ghk6b] at ghk7ann
                all_goals
                try simp only [go_sem, n1, n2, n3, n4, hk2, hk3, ghk5ann, ghk6ann, ghk6b, ghk7ann] at ghk7b
                all_goals
                rcases it_some h with ⟨hk8, h⟩ | ⟨hk8, h⟩
                · try simp only [go_sem, n1, n2, n3, n4, hk2, hk3, ghk5ann, ghk6ann, ghk6b, ghk7ann, ghk7b] at hk8
                  all_goals
                  obtain rfl := so_some h
                  refine ⟨0, fun L hL => ?_⟩
                  simp only [go_sem, ir56, E_impl_rising_impl_Star__impl_isStar__impl_starName_l1, R_impl_rising_impl_Star__impl_isStar__impl_starName_l1, ir56_b0, ir56_k0, ir56_o0, ir56_r0, hk2, hk3, lhk3, xhk3, fhk4, ghk5ann, ghk6ann, ghk6b, ghk7ann, ghk7b, hk8]
                · try simp only [go_sem, n1, n2, n3, n4, hk2, hk3, ghk5ann, ghk6ann, ghk6b, ghk7ann, ghk7b] at hk8
                  all_goals
                  obtain rfl := so_some h
                  refine ⟨0, fun L hL => ?_⟩
                  simp only [go_sem, ir56, E_impl_rising_impl_Star__impl_isStar__impl_starName_l1, R_impl_rising_impl_Star__impl_isStar__impl_starName_l1, ir56_b0, ir56_k0, ir56_o0, ir56_r0, hk2, hk3, lhk3, xhk3, fhk4, ghk5ann, ghk6ann, ghk6b, ghk7ann, ghk7b, hk8]
      · have ghk5an := no_t ghk5a
        have ghk5ann := no_f ghk5an
        try simp only [go_sem, n1, n2, n3, n4, hk2, hk3] at ghk5ann
        all_goals
        try simp only [go_sem, n1, n2, n3, n4, hk2, hk3, ghk5ann] at ghk5b
        all_goals
        obtain ⟨hk6, h⟩ := ck_some h
        rcases or_split hk6 with ⟨ghk6, hk6⟩ | ghk6
        · try simp only [go_sem, n1, n2, n3, n4, hk2, hk3, ghk5ann, ghk5b] at ghk6
          all_goals
          obtain ⟨y_6, hhk6⟩ := Option.isSome_iff_exists.1 hk6
          have fhk6 := Fs_impl_starName hhk6
          try simp only [go_sem] at fhk6
          obtain ⟨hk7, h⟩ := ck_some h
          rcases or_split hk7 with ⟨ghk7, hk7⟩ | ghk7
          · try simp only [go_sem, n1, n2, n3, n4, hk2, hk3, ghk5ann, ghk5b, ghk6, hhk6] at ghk7
            all_goals
            obtain ⟨y_7, hhk7⟩ := Option.isSome_iff_exists.1 hk7
            have fhk7 := Fs_impl_starName hhk7
            try simp only [go_sem] at fhk7
            rcases it_some h with ⟨hk8, h⟩ | ⟨hk8, h⟩
            · try simp only [go_sem, n1, n2, n3, n4, hk2, hk3, ghk5ann, ghk5b, ghk6, hhk6, ghk7, hhk7] at hk8
              all_goals
              obtain rfl := so_some h
              refine ⟨0, fun L hL => ?_⟩
              simp only [go_sem, ir56, E_impl_rising_impl_Star__impl_isStar__impl_starName_l1, R_impl_rising_impl_Star__impl_isStar__impl_starName_l1, ir56_b0, ir56_k0, ir56_o0, ir56_r0, hk2, hk3, lhk3, xhk3, fhk4, ghk5ann, ghk5b, ghk6, hhk6, fhk6, ghk7, hhk7, fhk7, hk8]
            · try simp only [go_sem, n1, n2, n3, n4, hk2, hk3, ghk5ann, ghk5b, ghk6, hhk6, ghk7, hhk7] at hk8
              all_goals
              obtain rfl := so_some h
              refine ⟨0, fun L hL => ?_⟩
              simp only [go_sem, ir56, E_impl_rising_impl_Star__impl_isStar__impl_starName_l1, R_impl_rising_impl_Star__impl_isStar__impl_starName_l1, ir56_b0, ir56_k0, ir56_o0, ir56_r0, hk2, hk3, lhk3, xhk3, fhk4, ghk5ann, ghk5b, ghk6, hhk6, fhk6, ghk7, hhk7, fhk7, hk8]
          · rcases and_f ghk7 with ghk7a | ⟨ghk7a, ghk7b⟩
            · have ghk7an := no_f ghk7a
              have ghk7ann := no_t ghk7an
              try simp only [go_sem, n1, n2, n3, n4, hk2, hk3, ghk5ann, ghk5b, ghk6, hhk6] at ghk7ann
              all_goals
              rcases it_some h with ⟨hk8, h⟩ | ⟨hk8, h⟩
              · try simp only [go_sem, n1, n2, n3, n4, hk2, hk3, ghk5ann, ghk5b, ghk6, hhk6, ghk7ann] at hk8
                all_goals
                obtain rfl := so_some h
                refine ⟨0, fun L hL => ?_⟩
                simp only [go_sem, ir56, E_impl_rising_impl_Star__impl_isStar__impl_starName_l1, R_impl_rising_impl_Star__impl_isStar__impl_starName_l1, ir56_b0, ir56_k0, ir56_o0, ir56_r0, hk2, hk3, lhk3, xhk3, fhk4, ghk5ann, ghk5b, ghk6, hhk6, fhk6, ghk7ann, hk8]
              · try simp only [go_sem, n1, n2, n3, n4, hk2, hk3, ghk5ann, ghk5b, ghk6, hhk6, ghk7ann] at hk8
                all_goals
                obtain rfl := so_some h
                refine ⟨0, fun L hL => ?_⟩
                simp only [go_sem, ir56, E_impl_rising_impl_Star__impl_isStar__impl_starName_l1, R_impl_rising_impl_Star__impl_isStar__impl_starName_l1, ir56_b0, ir56_k0, ir56_o0, ir56_r0, hk2, hk3, lhk3, xhk3, fhk4, ghk5ann, ghk5b, ghk6, hhk6, fhk6, ghk7ann, hk8]
            · have ghk7an := no_t ghk7a
              have ghk7ann := no_f ghk7an
              try simp only [go_sem, n1, n2, n3, n4, hk2, hk3, ghk5ann, ghk5b, ghk6, hhk6] at ghk7ann
              all_goals
              try simp only [go_sem, n1, n2, n3, n4, hk2, hk3, ghk5ann, ghk5b, ghk6, hhk6, ghk7ann] at ghk7b
              all_goals
              rcases it_some h with ⟨hk8, h⟩ | ⟨hk8, h⟩
              · try simp only [go_sem, n1, n2, n3, n4, hk2, hk3, ghk5ann, ghk5b, ghk6, hhk6, ghk7ann, ghk7b] at hk8
                all_goals
                obtain rfl := so_some h
                refine ⟨0, fun L hL => ?_⟩
                simp only [go_sem, ir56, E_impl_rising_impl_Star__impl_isStar__impl_starName_l1, R_impl_rising_impl_Star__impl_isStar__impl_starName_l1, ir56_b0, ir56_k0, ir56_o0, ir56_r0, hk2, hk3, lhk3, xhk3, fhk4, ghk5ann, ghk5b, ghk6, hhk6, fhk6, ghk7ann, ghk7b, hk8]
              · try simp only [go_sem, n1, n2, n3, n4, hk2, hk3, ghk5ann, ghk5b, ghk6, hhk6, ghk7ann, ghk7b] at hk8
                all_goals
                obtain rfl := so_some h
                refine ⟨0, fun L hL => ?_⟩
                simp only [go_sem, ir56, E_impl_rising_impl_Star__impl_isStar__impl_starName_l1, R_impl_rising_impl_Star__impl_isStar__impl_starName_l1, ir56_b0, ir56_k0, ir56_o0, ir56_r0, hk2, hk3, lhk3, xhk3, fhk4, ghk5ann, ghk5b, ghk6, hhk6, fhk6, ghk7ann, ghk7b, hk8]
        · rcases and_f ghk6 with ghk6a | ⟨ghk6a, ghk6b⟩
          · have ghk6an := no_f ghk6a
            have ghk6ann := no_t ghk6an
            try simp only [go_sem, n1, n2, n3, n4, hk2, hk3, ghk5ann, ghk5b] at ghk6ann
            all_goals
            obtain ⟨hk7, h⟩ := ck_some h
            rcases or_split hk7 with ⟨ghk7, hk7⟩ | ghk7
            · try simp only [go_sem, n1, n2, n3, n4, hk2, hk3, ghk5ann, ghk5b, ghk6ann] at ghk7
              all_goals
              obtain ⟨y_7, hhk7⟩ := Option.isSome_iff_exists.1 hk7
              have fhk7 := Fs_impl_starName hhk7
              try simp only [go_sem] at fhk7
              rcases it_some h with ⟨hk8, h⟩ | ⟨hk8, h⟩
              · try simp only [go_sem, n1, n2, n3, n4, hk2, hk3, ghk5ann, ghk5b, ghk6ann, ghk7, hhk7] at hk8
                all_goals
                obtain rfl := so_some h
                refine ⟨0, fun L hL => ?_⟩
                simp only [go_sem, ir56, E_impl_rising_impl_Star__impl_isStar__impl_starName_l1, R_impl_rising_impl_Star__impl_isStar__impl_starName_l1, ir56_b0, ir56_k0, ir56_o0, ir56_r0, hk2, hk3, lhk3, xhk3, fhk4, ghk5ann, ghk5b, ghk6ann, ghk7, hhk7, fhk7, hk8]
              · try simp only [go_sem, n1, n2, n3, n4, hk2, hk3, ghk5ann, ghk5b, ghk6ann, ghk7, hhk7] at hk8
                all_goals
                obtain rfl := so_some h
                refine ⟨0, fun L hL => ?_⟩
                simp only [go_sem, ir56, E_impl_rising_impl_Star__impl_isStar__impl_starName_l1, R_impl_rising_impl_Star__impl_isStar__impl_starName_l1, ir56_b0, ir56_k0, ir56_o0, ir56_r0, hk2, hk3, lhk3, xhk3, fhk4, ghk5ann, ghk5b, ghk6ann, ghk7, hhk7, fhk7, hk8]
            · rcases and_f ghk7 with ghk7a | ⟨ghk7a, ghk7b⟩
              · have ghk7an := no_f ghk7a
                have ghk7ann := no_t ghk7an
                try simp only [go_sem, n1, n2, n3, n4, hk2, hk3, ghk5ann, ghk5b, ghk6ann] at ghk7ann
                all_goals
                rcases it_some h with ⟨hk8, h⟩ | ⟨hk8, h⟩
                · try simp only [go_sem, n1, n2, n3, n4, hk2, hk3, ghk5ann, ghk5b, ghk6ann, ghk7ann] at hk8
                  all_goals
                  obtain rfl := so_some h
                  refine ⟨0, fun L hL => ?_⟩
                  simp only [go_sem, ir56, E_impl_rising_impl_Star__impl_isStar__impl_starName_l1, R_impl_rising_impl_Star__impl_isStar__impl_starName_l1, ir56_b0, ir56_k0, ir56_o0, ir56_r0, hk2, hk3, lhk3, xhk3, fhk4, ghk5ann, ghk5b, ghk6ann, ghk7ann, hk8]
                · try simp only [go_sem, n1, n2, n3, n4, hk2, hk3, ghk5ann, ghk5b, ghk6ann, ghk7ann] at hk8
                  all_goals
                  obtain rfl := so_some h
                  refine ⟨0, fun L hL => ?_⟩
                  simp only [go_sem, ir56, E_impl_rising_impl_Star__impl_isStar__impl_starName_l1, R_impl_rising_impl_Star__impl_isStar__impl_starName_l1, ir56_b0, ir56_k0, ir56_o0, ir56_r0, hk2, hk3, lhk3, xhk3, fhk4, ghk5ann, ghk5b, ghk6ann, ghk7ann, hk8]
              · have ghk7an := no_t ghk7a
                have ghk7ann := no_f ghk7an
                try simp only [go_sem, n1, n2, n3, n4, hk2, hk3, ghk5ann, ghk5b, ghk6ann] at ghk7ann
                all_goals
                try simp only [go_sem, n1, n2, n3, n4, hk2, hk3, ghk5ann, ghk5b, ghk6ann, ghk7ann] at ghk7b
                all_goals
                rcases it_some h with ⟨hk8, h⟩ | ⟨hk8, h⟩
                · try simp only [go_sem, n1, n2, n3, n4, hk2, hk3, ghk5ann, ghk5b, ghk6ann, ghk7ann, ghk7b] at hk8
                  all_goals
                  obtain rfl := so_some h
                  refine ⟨0, fun L hL => ?_⟩
                  simp only [go_sem, ir56, E_impl_rising_impl_Star__impl_isStar__impl_starName_l1, R_impl_rising_impl_Star__impl_isStar__impl_starName_l1, ir56_b0, ir56_k0, ir56_o0, ir56_r0, hk2, hk3, lhk3, xhk3, fhk4, ghk5ann, ghk5b, ghk6ann, ghk7ann, ghk7b, hk8]
                · try simp only [go_sem, n1, n2, n3, n4, hk2, hk3, ghk5ann, ghk5b, ghk6ann, ghk7ann, ghk7b] at hk8
                  all_goals
                  obtain rfl := so_some h
                  refine ⟨0, fun L hL => ?_⟩
                  simp only [go_sem, ir56, E_impl_rising_impl_Star__impl_isStar__impl_starName_l1, R_impl_rising_impl_Star__impl_isStar__impl_starName_l1, ir56_b0, ir56_k0, ir56_o0, ir56_r0, hk2, hk3, lhk3, xhk3, fhk4, ghk5ann, ghk5b, ghk6ann, ghk7ann, ghk7b, hk8]
          · have ghk6an := no_t ghk6a
            have ghk6ann := no_f ghk6an
            try simp only [go_sem, n1, n2, n3, n4, hk2, hk3, ghk5ann, ghk5b] at ghk6ann
            all_goals
            try simp only [go_sem, n1, n2, n3, n4, hk2, hk3, ghk5ann, ghk5b, ghk6ann] at ghk6b
            all_goals
            obtain ⟨hk7, h⟩ := ck_some h
            rcases or_split hk7 with ⟨ghk7, hk7⟩ | ghk7
            · try simp only [go_sem, n1, n2, n3, n4, hk2, hk3, ghk5ann, ghk5b, ghk6ann, ghk6b] at ghk7
              all_goals
              obtain ⟨y_7, hhk7⟩ := Option.isSome_iff_exists.1 hk7
              have fhk7 := Fs_impl_starName hhk7
              try simp only [go_sem] at fhk7
              rcases it_some h with ⟨hk8, h⟩ | ⟨hk8, h⟩
              · try simp only [go_sem, n1, n2, n3, n4, hk2, hk3, ghk5ann, ghk5b, ghk6ann, ghk6b, ghk7, hhk7] at hk8
                all_goals
                obtain rfl := so_some h
                refine ⟨0, fun L hL => ?_⟩
                simp only [go_sem, ir56, E_impl_rising_impl_Star__impl_isStar__impl_starName_l1, R_impl_rising_impl_Star__impl_isStar__impl_starName_l1, ir56_b0, ir56_k0, ir56_o0, ir56_r0, hk2, hk3, lhk3, xhk3, fhk4, ghk5ann, ghk5b, ghk6ann, ghk6b, ghk7, hhk7, fhk7, hk8]
              · try simp only [go_sem, n1, n2, n3, n4, hk2, hk3, ghk5ann, ghk5b, ghk6ann, ghk6b, ghk7, hhk7] at hk8
                all_goals
                obtain rfl := so_some h
                refine ⟨0, fun L hL => ?_⟩
                simp only [go_sem, ir56, E_impl_rising_impl_Star__impl_isStar__impl_starName_l1, R_impl_rising_impl_Star__impl_isStar__impl_starName_l1, ir56_b0, ir56_k0, ir56_o0, ir56_r0, hk2, hk3, lhk3, xhk3, fhk4, ghk5ann, ghk5b, ghk6ann, ghk6b, ghk7, hhk7, fhk7, hk8]
            · rcases and_f ghk7 with ghk7a | ⟨ghk7a, ghk7b⟩
              · have ghk7an := no_f ghk7a
                have ghk7ann := no_t ghk7an
                try simp only [go_sem, n1, n2, n3, n4, hk2, hk3, ghk5ann, ghk5b, ghk6ann, ghk6b] at ghk7ann
                all_goals
                rcases it_some h with ⟨hk8, h⟩ | ⟨hk8, h⟩
                · try simp only [go_sem, n1, n2, n3, n4, hk2, hk3, ghk5ann, ghk5b, ghk6ann, ghk6b, ghk7ann] at hk8
                  all_goals
                  obtain rfl := so_some h
                  refine ⟨0, fun L hL => ?_⟩
                  simp only [go_sem, ir56, E_impl_rising_impl_Star__impl_isStar__impl_starName_l1, R_impl_rising_impl_Star__impl_isStar__impl_starName_l1, ir56_b0, ir56_k0, ir56_o0, ir56_r0, hk2, hk3, lhk3, xhk3, fhk4, ghk5ann, ghk5b, ghk6ann, ghk6b, ghk7ann, hk8]
                · try simp only [go_sem, n1, n2, n3, n4, hk2, hk3, ghk5ann, ghk5b, ghk6ann, ghk6b, ghk7ann] at hk8
                  all_goals
                  obtain rfl := so_some h
                  refine ⟨0, fun L hL => ?_⟩
                  simp only [go_sem, ir56, E_impl_rising_impl_Star__impl_isStar__impl_starName_l1, R_impl_rising_impl_Star__impl_isStar__impl_starName_l1, ir56_b0, ir56_k0, ir56_o0, ir56_r0, hk2, hk3, lhk3, xhk3, fhk4, ghk5ann, ghk5b, ghk6ann, ghk6b, ghk7ann, hk8]
              · have ghk7an := no_t ghk7a
                have ghk7ann := no_f ghk7an
                try simp only [go_sem, n1, n2, n3, n4, hk2, hk3, ghk5ann, ghk5b, ghk6ann, ghk6b] at ghk7ann
                all_goals
                try simp only [go_sem, n1, n2, n3, n4, hk2, hk3, ghk5ann, ghk5b, ghk6ann, ghk6b, ghk7ann] at ghk7b
                all_goals
                rcases it_some h with ⟨hk8, h⟩ | ⟨hk8, h⟩
                · try simp only [go_sem, n1, n2, n3, n4, hk2, hk3, ghk5ann, ghk5b, ghk6ann, ghk6b, ghk7ann, ghk7b] at hk8
                  all_goals
                  obtain rfl := so_some h
                  refine ⟨0, fun L hL => ?_⟩
                  simp only [go_sem, ir56, E_impl_rising_impl_Star__impl_isStar__impl_starName_l1, R_impl_rising_impl_Star__impl_isStar__impl_starName_l1, ir56_b0, ir56_k0, ir56_o0, ir56_r0, hk2, hk3, lhk3, xhk3, fhk4, ghk5ann, ghk5b, ghk6ann, ghk6b, ghk7ann, ghk7b, hk8]
                · try simp only [go_sem, n1, n2, n3, n4, hk2, hk3, ghk5ann, ghk5b, ghk6ann, ghk6b, ghk7ann, ghk7b] at hk8
                  all_goals
                  obtain rfl := so_some h
                  refine ⟨0, fun L hL => ?_⟩
                  simp only [go_sem, ir56, E_impl_rising_impl_Star__impl_isStar__impl_starName_l1, R_impl_rising_impl_Star__impl_isStar__impl_starName_l1, ir56_b0, ir56_k0, ir56_o0, ir56_r0, hk2, hk3, lhk3, xhk3, fhk4, ghk5ann, ghk5b, ghk6ann, ghk6b, ghk7ann, ghk7b, hk8]
  · try simp only [go_sem, n1, n2, n3, n4] at hk2
    all_goals
    obtain rfl := so_some h
    refine ⟨0, fun L hL => ?_⟩
    simp only [go_sem, ir56, E_impl_rising_impl_Star__impl_isStar__impl_starName_l1, R_impl_rising_impl_Star__impl_isStar__impl_starName_l1, ir56_b0, ir56_k0, ir56_o0, ir56_r0, hk2]

theorem Fs_impl_rising_impl_Star__impl_isStar__impl_starName {list : List Star} {most : Int} {y_ : Bool} (h : impl_rising_impl_Star__impl_isStar__impl_starName list most = some y_) : c_impl_rising_impl_Star__impl_isStar__impl_starName.F [.sl 5 (List.map Star_av list), .int .i64 most, .fn (.func 27) [] [], .fn (.func 57) [] []] = ⟨true, .bool y_, [.any, .any, .any, .any]⟩ := by
  refine mkF_E rfl ?_
  dsimp only [impl_rising_impl_Star__impl_isStar__impl_starName] at h
  rcases it_some h with ⟨hk1, h⟩ | ⟨hk1, h⟩
  · try simp only [go_sem, n1, n2, n3, n4] at hk1
    all_goals
    obtain rfl := so_some h
    refine ⟨0, fun L hL => ?_⟩
    simp only [go_sem, ir56, E_impl_rising_impl_Star__impl_isStar__impl_starName_l1, R_impl_rising_impl_Star__impl_isStar__impl_starName_l1, ir56_k0, ir56_o0, ir56_r0, hk1]
  · try simp only [go_sem, n1, n2, n3, n4] at hk1
    all_goals
    obtain ⟨y_9, hk9, h⟩ := bd_some h
    obtain ⟨Lhk9, ehk9⟩ := impl_rising_impl_Star__impl_isStar__impl_starName_l1_ex hk9
    rcases y_9 with y_9a | y_9b
    · dsimp only at h
      obtain rfl := so_some h
      refine ⟨Lhk9, fun L hL => ?_⟩
      have ehk9 := ehk9 L (by omega)
      try simp only [go_sem, E_impl_rising_impl_Star__impl_isStar__impl_starName_l1, R_impl_rising_impl_Star__impl_isStar__impl_starName_l1, ir56_k0, ir56_o0, ir56_r0] at ehk9
      simp only [go_sem, ir56, E_impl_rising_impl_Star__impl_isStar__impl_starName_l1, R_impl_rising_impl_Star__impl_isStar__impl_starName_l1, ir56_k0, ir56_o0, ir56_r0, hk1, ehk9]
    · dsimp only at h
      obtain rfl := so_some h
      refine ⟨Lhk9, fun L hL => ?_⟩
      have ehk9 := ehk9 L (by omega)
      try simp only [go_sem, E_impl_rising_impl_Star__impl_isStar__impl_starName_l1, R_impl_rising_impl_Star__impl_isStar__impl_starName_l1, ir56_k0, ir56_o0, ir56_r0] at ehk9
      simp only [go_sem, ir56, E_impl_rising_impl_Star__impl_isStar__impl_starName_l1, R_impl_rising_impl_Star__impl_isStar__impl_starName_l1, ir56_k0, ir56_o0, ir56_r0, hk1, ehk9]


def ir30_v : List Nat := [0, 2]
def ir30 : AFn := ⟨1, 2, .seq (.region false [
    ⟨.var 1, 2, none, .mov (.c (.bool false))⟩])
 (.seq (.region false [
    ⟨.push, 3, none, .mov (.v 0)⟩,
    ⟨.push, 4, none, .call 56 [(.s 0), (.c (.int .i64 (60))), (.c (.fn (.func 27) [] [])), (.c (.fn (.func 57) [] []))]⟩,
    ⟨.var 1, 2, none, .mov (.s 0)⟩])
 (.ret)), [.t 1]⟩
noncomputable def t_impl_ValidStars : List (Nat × Ctr) := [(56, c_impl_rising_impl_Star__impl_isStar__impl_starName)]
theorem lk_impl_ValidStars_56 : look t_impl_ValidStars 56 = some c_impl_rising_impl_Star__impl_isStar__impl_starName := rfl
noncomputable def c_impl_ValidStars : Ctr := mkF t_impl_ValidStars ir30 [.bor]
theorem s_impl_ValidStars : Sound Try.prog 30 c_impl_ValidStars := mkF_sound _ rfl (snd_cons s_impl_rising_impl_Star__impl_isStar__impl_starName snd_nil) (by kernel_rfl : chkFn Try.prog 30 ir30 ir30_v = true)
theorem M_impl_ValidStars : c_impl_ValidStars.modes = [.bor] := rfl
theorem Fl_impl_ValidStars : c_impl_ValidStars.flat = true := rfl
attribute [go_sem] M_impl_ValidStars Fl_impl_ValidStars
attribute [go_sem] lk_impl_ValidStars_56
theorem Fs_impl_ValidStars {list : List Star} {y_ : Bool} (h : impl_ValidStars list = some y_) : c_impl_ValidStars.F [.sl 5 (List.map Star_av list)] = ⟨true, .bool y_, [.any]⟩ := by
  refine mkF_E rfl ?_
  dsimp only [impl_ValidStars] at h
  obtain ⟨y_1, hk1, h⟩ := bd_some h
  have fhk1 := Fs_impl_rising_impl_Star__impl_isStar__impl_starName hk1
  try simp only [go_sem] at fhk1
  obtain rfl := so_some h
  refine ⟨0, fun L hL => ?_⟩
  simp only [go_sem, ir30, fhk1]


def ir31_v : List Nat := [0, 1, 2, 3]
def ir31 : AFn := ⟨1, 4, .seq (.region false [
    ⟨.var 1, 1, none, .box (.v 0)⟩,
    ⟨.var 2, 2, none, .mov (.c (.bool false))⟩])
 (.seq (.region false [
    ⟨.push, 4, none, .fldAddr 0 (.v 1)⟩,
    ⟨.push, 5, none, .load false 1 (.s 0)⟩,
    ⟨.push, 6, none, .call 28 [(.s 0), (.c (.int .i64 (0))), (.c (.int .i64 (86399)))]⟩,
    ⟨.push, 7, none, .mov (.s 0)⟩,
    ⟨.push, 8, (some ((.s 0), true)), .fldAddr 1 (.v 1)⟩,
    ⟨.push, 9, (some ((.s 1), true)), .load false 1 (.s 0)⟩,
    ⟨.push, 10, (some ((.s 2), true)), .call 28 [(.s 0), (.c (.int .i64 (0))), (.c (.int .i64 (86399)))]⟩,
    ⟨.push, 11, none, .pick (.s 3) (.s 0) (.c (.bool false))⟩,
    ⟨.var 3, 3, none, .mov (.s 0)⟩])
 (.seq (.region false [
    ⟨.push, 12, none, .mov (.v 3)⟩,
    ⟨.push, 13, none, .mov (.s 0)⟩,
    ⟨.push, 14, (some ((.s 0), true)), .fldAddr 2 (.v 1)⟩,
    ⟨.push, 15, (some ((.s 1), true)), .load false 1 (.s 0)⟩,
    ⟨.push, 16, (some ((.s 2), true)), .bin false .geq (.s 0) (.c (.int .i64 (-324000)))⟩,
    ⟨.push, 17, none, .pick (.s 3) (.s 0) (.c (.bool false))⟩,
    ⟨.push, 18, none, .mov (.s 0)⟩,
    ⟨.push, 19, (some ((.s 0), true)), .fldAddr 2 (.v 1)⟩,
    ⟨.push, 20, (some ((.s 1), true)), .load false 1 (.s 0)⟩,
    ⟨.push, 21, (some ((.s 2), true)), .fldAddr 3 (.v 1)⟩,
    ⟨.push, 22, (some ((.s 3), true)), .load false 1 (.s 0)⟩,
    ⟨.push, 23, (some ((.s 4), true)), .bin false .leq (.s 2) (.s 0)⟩,
    ⟨.push, 24, none, .pick (.s 5) (.s 0) (.c (.bool false))⟩,
    ⟨.push, 25, none, .mov (.s 0)⟩,
    ⟨.push, 26, (some ((.s 0), true)), .fldAddr 3 (.v 1)⟩,
    ⟨.push, 27, (some ((.s 1), true)), .load false 1 (.s 0)⟩,
    ⟨.push, 28, (some ((.s 2), true)), .bin false .leq (.s 0) (.c (.int .i64 (324000)))⟩,
    ⟨.push, 29, none, .pick (.s 3) (.s 0) (.c (.bool false))⟩,
    ⟨.var 2, 2, none, .mov (.s 0)⟩])
 (.ret))), [.t 2]⟩
noncomputable def t_impl_isBox : List (Nat × Ctr) := [(28, c_impl_in)]
theorem lk_impl_isBox_28 : look t_impl_isBox 28 = some c_impl_in := rfl
noncomputable def c_impl_isBox : Ctr := mkF t_impl_isBox ir31 [.bor]
theorem s_impl_isBox : Sound Try.prog 31 c_impl_isBox := mkF_sound _ rfl (snd_cons s_impl_in snd_nil) (by kernel_rfl : chkFn Try.prog 31 ir31 ir31_v = true)
theorem M_impl_isBox : c_impl_isBox.modes = [.bor] := rfl
theorem Fl_impl_isBox : c_impl_isBox.flat = true := rfl
attribute [go_sem] M_impl_isBox Fl_impl_isBox
attribute [go_sem] lk_impl_isBox_28
theorem Fs_impl_isBox {b : Box} {y_ : Bool} (h : impl_isBox b = some y_) : c_impl_isBox.F [Box_av b] = ⟨true, .bool y_, [.any]⟩ := by
  refine mkF_E rfl ?_
  dsimp only [impl_isBox] at h
  obtain ⟨y_1, hk1, h⟩ := bd_some h
  have fhk1 := Fs_impl_in hk1
  try simp only [go_sem] at fhk1
  obtain ⟨hk2, h⟩ := ck_some h
  rcases or_split hk2 with ⟨ghk2, hk2⟩ | ghk2
  · try simp only [go_sem, n1, n2, n3, n4] at ghk2
    all_goals
    obtain ⟨y_2, hhk2⟩ := Option.isSome_iff_exists.1 hk2
    have fhk2 := Fs_impl_in hhk2
    try simp only [go_sem] at fhk2
    obtain rfl := so_some h
    refine ⟨0, fun L hL => ?_⟩
    simp only [go_sem, ir31, fhk1, ghk2, hhk2, fhk2]
  · try simp only [go_sem, n1, n2, n3, n4] at ghk2
    all_goals
    obtain rfl := so_some h
    refine ⟨0, fun L hL => ?_⟩
    simp only [go_sem, ir31, fhk1, ghk2]


def ir34_v : List Nat := [0, 1, 2, 3, 4, 5]
def ir34 : AFn := ⟨2, 6, .seq (.region false [
    ⟨.var 2, 2, none, .box (.v 0)⟩,
    ⟨.var 3, 3, none, .box (.v 1)⟩,
    ⟨.var 4, 4, none, .mov (.c (.bool false))⟩])
 (.seq (.region false [
    ⟨.push, 6, none, .fldAddr 1 (.v 3)⟩,
    ⟨.push, 7, none, .load false 1 (.s 0)⟩,
    ⟨.push, 8, none, .fldAddr 0 (.v 2)⟩,
    ⟨.push, 9, none, .load false 1 (.s 0)⟩,
    ⟨.push, 10, none, .fldAddr 1 (.v 2)⟩,
    ⟨.push, 11, none, .load false 1 (.s 0)⟩,
    ⟨.push, 12, none, .call 28 [(.s 4), (.s 2), (.s 0)]⟩,
    ⟨.var 5, 5, none, .mov (.s 0)⟩])
 (.seq (.test false [
    ⟨.push, 13, none, .fldAddr 0 (.v 2)⟩,
    ⟨.push, 14, none, .load false 1 (.s 0)⟩,
    ⟨.push, 15, none, .fldAddr 1 (.v 2)⟩,
    ⟨.push, 16, none, .load false 1 (.s 0)⟩,
    ⟨.push, 17, none, .bin false .gtr (.s 2) (.s 0)⟩] (.s 0)
  (.region false [
     ⟨.push, 18, none, .fldAddr 1 (.v 3)⟩,
     ⟨.push, 19, none, .load false 1 (.s 0)⟩,
     ⟨.push, 20, none, .fldAddr 0 (.v 2)⟩,
     ⟨.push, 21, none, .load false 1 (.s 0)⟩,
     ⟨.push, 22, none, .bin false .geq (.s 2) (.s 0)⟩,
     ⟨.push, 23, none, .mov (.s 0)⟩,
     ⟨.push, 24, (some ((.s 0), false)), .fldAddr 1 (.v 3)⟩,
     ⟨.push, 25, (some ((.s 1), false)), .load false 1 (.s 0)⟩,
     ⟨.push, 26, (some ((.s 2), false)), .fldAddr 1 (.v 2)⟩,
     ⟨.push, 27, (some ((.s 3), false)), .load false 1 (.s 0)⟩,
     ⟨.push, 28, (some ((.s 4), false)), .bin false .leq (.s 2) (.s 0)⟩,
     ⟨.push, 29, none, .pick (.s 5) (.c (.bool true)) (.s 0)⟩,
     ⟨.var 5, 5, none, .mov (.s 0)⟩])
  (.skip))
 (.seq (.region false [
    ⟨.push, 30, none, .mov (.v 5)⟩,
    ⟨.push, 31, none, .mov (.s 0)⟩,
    ⟨.push, 32, (some ((.s 0), true)), .fldAddr 2 (.v 3)⟩,
    ⟨.push, 33, (some ((.s 1), true)), .load false 1 (.s 0)⟩,
    ⟨.push, 34, (some ((.s 2), true)), .fldAddr 2 (.v 2)⟩,
    ⟨.push, 35, (some ((.s 3), true)), .load false 1 (.s 0)⟩,
    ⟨.push, 36, (some ((.s 4), true)), .fldAddr 3 (.v 2)⟩,
    ⟨.push, 37, (some ((.s 5), true)), .load false 1 (.s 0)⟩,
    ⟨.push, 38, (some ((.s 6), true)), .call 28 [(.s 4), (.s 2), (.s 0)]⟩,
    ⟨.push, 39, none, .pick (.s 7) (.s 0) (.c (.bool false))⟩,
    ⟨.var 4, 4, none, .mov (.s 0)⟩])
 (.ret)))), [.t 4]⟩
noncomputable def t_impl_Box_has : List (Nat × Ctr) := [(28, c_impl_in)]
theorem lk_impl_Box_has_28 : look t_impl_Box_has 28 = some c_impl_in := rfl
noncomputable def c_impl_Box_has : Ctr := mkF t_impl_Box_has ir34 [.bor, .bor]
theorem s_impl_Box_has : Sound Try.prog 34 c_impl_Box_has := mkF_sound _ rfl (snd_cons s_impl_in snd_nil) (by kernel_rfl : chkFn Try.prog 34 ir34 ir34_v = true)
theorem M_impl_Box_has : c_impl_Box_has.modes = [.bor, .bor] := rfl
theorem Fl_impl_Box_has : c_impl_Box_has.flat = true := rfl
attribute [go_sem] M_impl_Box_has Fl_impl_Box_has
attribute [go_sem] lk_impl_Box_has_28
theorem Fs_impl_Box_has {b : Box} {x : Star} {y_ : Bool} (h : impl_Box_has b x = some y_) : c_impl_Box_has.F [Box_av b, Star_av x] = ⟨true, .bool y_, [.any, .any]⟩ := by
  refine mkF_E rfl ?_
  dsimp only [impl_Box_has] at h
  obtain ⟨y_1, hk1, h⟩ := bd_some h
  have fhk1 := Fs_impl_in hk1
  try simp only [go_sem] at fhk1
  rcases it_some h with ⟨hk2, h⟩ | ⟨hk2, h⟩
  · try simp only [go_sem, n1, n2, n3, n4] at hk2
    all_goals
    obtain ⟨hk3, h⟩ := ck_some h
    rcases or_split hk3 with ⟨ghk3, hk3⟩ | ghk3
    · try simp only [go_sem, n1, n2, n3, n4, hk2] at ghk3
      all_goals
      obtain ⟨y_3, hhk3⟩ := Option.isSome_iff_exists.1 hk3
      have fhk3 := Fs_impl_in hhk3
      try simp only [go_sem] at fhk3
      obtain rfl := so_some h
      refine ⟨0, fun L hL => ?_⟩
      simp only [go_sem, ir34, fhk1, hk2, ghk3, hhk3, fhk3]
    · obtain ⟨ghk3a, ghk3b⟩ := or_f ghk3
      try simp only [go_sem, n1, n2, n3, n4, hk2] at ghk3a
      all_goals
      try simp only [go_sem, n1, n2, n3, n4, hk2, ghk3a] at ghk3b
      all_goals
      obtain rfl := so_some h
      refine ⟨0, fun L hL => ?_⟩
      simp only [go_sem, ir34, fhk1, hk2, ghk3a, ghk3b]
  · try simp only [go_sem, n1, n2, n3, n4] at hk2
    all_goals
    obtain ⟨hk4, h⟩ := ck_some h
    rcases or_split hk4 with ⟨ghk4, hk4⟩ | ghk4
    · try simp only [go_sem, n1, n2, n3, n4, hk2] at ghk4
      all_goals
      obtain ⟨y_4, hhk4⟩ := Option.isSome_iff_exists.1 hk4
      have fhk4 := Fs_impl_in hhk4
      try simp only [go_sem] at fhk4
      obtain rfl := so_some h
      refine ⟨0, fun L hL => ?_⟩
      simp only [go_sem, ir34, fhk1, hk2, ghk4, hhk4, fhk4]
    · try simp only [go_sem, n1, n2, n3, n4, hk2] at ghk4
      all_goals
      obtain rfl := so_some h
      refine ⟨0, fun L hL => ?_⟩
      simp only [go_sem, ir34, fhk1, hk2, ghk4]


def ir33_v : List Nat := [0, 1, 2, 4]
def ir33 : AFn := ⟨3, 4, .seq (.region false [
    ⟨.var 3, 4, none, .mov (.c (.bool false))⟩])
 (.seq (.anyo 6 [
    ⟨.slot 0, 5, none, .load true 4 (.v 1)⟩,
    ⟨.slot 1, 6, none, .load false 1 (.v 2)⟩,
    ⟨.slot 2, 7, none, .mov (.v 0)⟩,
    ⟨.slot 3, 8, none, .ixAddr 5 (.s 1) (.s 2)⟩,
    ⟨.slot 4, 9, none, .load true 5 (.s 3)⟩,
    ⟨.slot 5, 10, none, .callp 34 [(.s 0), (.s 4)]⟩,
    ⟨.var 3, 4, none, .mov (.s 5)⟩] [] .skip)
 (.ret)), [.t 3]⟩
noncomputable def t_impl_InBox_c1 : List (Nat × Ctr) := [(34, c_impl_Box_has)]
theorem lk_impl_InBox_c1_34 : look t_impl_InBox_c1 34 = some c_impl_Box_has := rfl
noncomputable def c_impl_InBox_c1 : Ctr := mkF t_impl_InBox_c1 ir33 [.bor, .bor, .bor]
theorem s_impl_InBox_c1 : Sound Try.prog 33 c_impl_InBox_c1 := mkF_sound _ rfl (snd_cons s_impl_Box_has snd_nil) (by kernel_rfl : chkFn Try.prog 33 ir33 ir33_v = true)
theorem M_impl_InBox_c1 : c_impl_InBox_c1.modes = [.bor, .bor, .bor] := rfl
theorem Fl_impl_InBox_c1 : c_impl_InBox_c1.flat = true := rfl
attribute [go_sem] M_impl_InBox_c1 Fl_impl_InBox_c1
attribute [go_sem] lk_impl_InBox_c1_34
theorem Fs_impl_InBox_c1 {i : Int} {t1 : Box} {t2 : List Star} {y_ : Bool} (h : impl_InBox_c1 i t1 t2 = some y_) : c_impl_InBox_c1.F [.int .i64 i, .ptr 4 [Box_av t1] 0 0, .ptr 1 [.sl 5 (List.map Star_av t2)] 0 0] = ⟨true, .bool y_, [.any, .any, .any]⟩ := by
  refine mkF_E rfl ?_
  dsimp only [impl_InBox_c1] at h
  obtain ⟨hk1, h⟩ := ck_some h
  have lhk1 := ix_lt hk1
  have xhk1 := getD_mapD Star_av t2 lhk1
  try simp only [go_sem] at lhk1
  try simp only [go_sem] at xhk1
  try simp only [go_sem, n1, n2, n3, n4] at hk1
  all_goals
  obtain ⟨y_2, hk2, h⟩ := bd_some h
  have fhk2 := Fs_impl_Box_has hk2
  try simp only [go_sem] at fhk2
  obtain rfl := so_some h
  refine ⟨0, fun L hL => ?_⟩
  simp only [go_sem, ir33, hk1, lhk1, xhk1, fhk2]


def ir32_b0 : IR := .seq (.region false [
    ⟨.var 7, 10, none, .bin false .lss (.v 6) (.v 5)⟩])
 (.seq (.cond (.v 7) (.skip)
  (.exit 0))
 (.seq (.block 1 (.seq (.region false [
      ⟨.push, 11, none, .mov (.v 6)⟩,
      ⟨.var 4, 6, none, .mov (.s 0)⟩])
   (.test false [
     ⟨.push, 12, none, .mov (.v 1)⟩,
     ⟨.push, 13, none, .mov (.v 4)⟩,
     ⟨.push, 14, none, .callv (.s 1) [(.s 0)]⟩] (.s 0)
   (.region false [
      ⟨.push, 15, none, .mov (.v 3)⟩,
      ⟨.push, 16, none, .mov (.v 4)⟩,
      ⟨.push, 17, none, .mkSl 1 (.int .i64 (0)) 1 [(0, (.s 0))]⟩,
      ⟨.push, 18, none, .app 1 8 (.int .i64 (0)) (.s 2) (.s 0)⟩,
      ⟨.var 3, 5, none, .mov (.s 0)⟩])
   (.skip))))
 (.region false [
   ⟨.push, 19, none, .bin false .add (.v 6) (.c (.int .i64 (1)))⟩,
   ⟨.var 6, 9, none, .mov (.s 0)⟩])))
def ir32_k0 : List Bool := [false, true, false, true, false, true, true, false]
def ir32_o0 : List Bool := [false, false, false, true, false, false, false, false]
def ir32_r0 : List Bool := [false, false, true, false, false, false, false, false]
def ir32_v : List Nat := [0, 1, 4, 5, 6, 8, 9, 10]
def ir32 : AFn := ⟨2, 8, .seq (.region false [
    ⟨.var 2, 4, none, .newnil 1⟩])
 (.seq (.region false [
    ⟨.push, 7, none, .mkSl 1 (.int .i64 (0)) 0 []⟩,
    ⟨.var 3, 5, none, .mov (.s 0)⟩])
 (.seq (.seq (.region false [
     ⟨.var 5, 8, none, .mov (.v 0)⟩,
     ⟨.var 6, 9, none, .mov (.c (.int .i64 (0)))⟩])
  (.block 0 (.loop ir32_k0 ir32_o0 ir32_r0 ir32_b0)))
 (.seq (.region false [
    ⟨.push, 20, none, .mov (.v 3)⟩,
    ⟨.var 2, 4, none, .mov (.s 0)⟩])
 (.ret)))), [.t 2]⟩
noncomputable def t_impl_indicesWhere__impl_InBox_c1 : List (Nat × Ctr) := [(33, c_impl_InBox_c1)]
theorem lk_impl_indicesWhere__impl_InBox_c1_33 : look t_impl_indicesWhere__impl_InBox_c1 33 = some c_impl_InBox_c1 := rfl
noncomputable def c_impl_indicesWhere__impl_InBox_c1 : Ctr := mkF t_impl_indicesWhere__impl_InBox_c1 ir32 [.bor, .bor]
theorem s_impl_indicesWhere__impl_InBox_c1 : Sound Try.prog 32 c_impl_indicesWhere__impl_InBox_c1 := mkF_sound _ rfl (snd_cons s_impl_InBox_c1 snd_nil) (by kernel_rfl : chkFn Try.prog 32 ir32 ir32_v = true)
theorem M_impl_indicesWhere__impl_InBox_c1 : c_impl_indicesWhere__impl_InBox_c1.modes = [.bor, .bor] := rfl
theorem Fl_impl_indicesWhere__impl_InBox_c1 : c_impl_indicesWhere__impl_InBox_c1.flat = true := rfl
attribute [go_sem] M_impl_indicesWhere__impl_InBox_c1 Fl_impl_indicesWhere__impl_InBox_c1
attribute [go_sem] lk_impl_indicesWhere__impl_InBox_c1_33
def E_impl_indicesWhere__impl_InBox_c1_l1 (c : Box) (c2 : List Star) (t8 : Int) : ((List Int) × Int) → St
  | (out, t9) => ⟨[.any, .fn (.func 33) [] [.ptr 4 [Box_av c] 0 0, .ptr 1 [.sl 5 (List.map Star_av c2)] 0 0], .any, .own 3200000, .any, .int .i64 t8, .int .i64 t9, .any], [], [(3200000, ⟨1, List.map (AV.int .i64) out⟩)], true⟩
def R_impl_indicesWhere__impl_InBox_c1_l1 (c : Box) (c2 : List Star) (t8 : Int) (y : (List Int)) : Res := (.exit 0, ⟨[.any, .any, .any, .own 3200000, .any, .any, .any, .any], [], [(3200000, ⟨1, List.map (AV.int .i64) y⟩)], true⟩)
theorem impl_indicesWhere__impl_InBox_c1_l1_ex {c : Box} {c2 : List Star} {t8 : Int} {sgm_ : (List Int) × Int} {rho_ : (List Int)} (h : whileE (impl_indicesWhere__impl_InBox_c1_l1 c c2 t8) sgm_ = some rho_) : ∃ L0, ∀ L, L0 ≤ L → iter (exec (look t_impl_indicesWhere__impl_InBox_c1) L ir32_b0) ir32_k0 ir32_o0 ir32_r0 L (E_impl_indicesWhere__impl_InBox_c1_l1 c c2 t8 sgm_) = R_impl_indicesWhere__impl_InBox_c1_l1 c c2 t8 rho_ := by
  refine loop_ex (E := E_impl_indicesWhere__impl_InBox_c1_l1 c c2 t8) (R := R_impl_indicesWhere__impl_InBox_c1_l1 c c2 t8) (fun y => by first | (intro c; cases c) | (rcases y with y | y <;> (intro c; cases c)) | (rcases y with y | y | y <;> (intro c; cases c))) ?_ h
  clear h
  rintro ⟨out, t9⟩ o_ h
  dsimp only [impl_indicesWhere__impl_InBox_c1_l1] at h
  rcases it_some h with ⟨hk1, h⟩ | ⟨hk1, h⟩
  · try simp only [go_sem, n1, n2, n3, n4] at hk1
    all_goals
    obtain ⟨y_2, hk2, h⟩ := bd_some h
    have fhk2 := Fs_impl_InBox_c1 hk2
    try simp only [go_sem] at fhk2
    rcases it_some h with ⟨hk3, h⟩ | ⟨hk3, h⟩
    · try simp only [go_sem, n1, n2, n3, n4, hk1] at hk3
      all_goals
      obtain ⟨hk4, h⟩ := ck_some h
      try simp only [go_sem, n1, n2, n3, n4, hk1, hk3] at hk4
      all_goals
      obtain rfl := so_some h
      refine ⟨0, fun L hL => ?_⟩
      simp only [go_sem, ir32, E_impl_indicesWhere__impl_InBox_c1_l1, R_impl_indicesWhere__impl_InBox_c1_l1, ir32_b0, ir32_k0, ir32_o0, ir32_r0, hk1, fhk2, hk3, hk4]
    · try simp only [go_sem, n1, n2, n3, n4, hk1] at hk3
      all_goals
      obtain rfl := so_some h
      refine ⟨0, fun L hL => ?_⟩
      simp only [go_sem, ir32, E_impl_indicesWhere__impl_InBox_c1_l1, R_impl_indicesWhere__impl_InBox_c1_l1, ir32_b0, ir32_k0, ir32_o0, ir32_r0, hk1, fhk2, hk3]
  · try simp only [go_sem, n1, n2, n3, n4] at hk1
    all_goals
    obtain rfl := so_some h
    refine ⟨0, fun L hL => ?_⟩
    simp only [go_sem, ir32, E_impl_indicesWhere__impl_InBox_c1_l1, R_impl_indicesWhere__impl_InBox_c1_l1, ir32_b0, ir32_k0, ir32_o0, ir32_r0, hk1]

theorem Fs_impl_indicesWhere__impl_InBox_c1 {n : Int} {wanted_c0 : Box} {wanted_c1 : List Star} {y_ : (List Int)} (h : impl_indicesWhere__impl_InBox_c1 n wanted_c0 wanted_c1 = some y_) : c_impl_indicesWhere__impl_InBox_c1.F [.int .i64 n, .fn (.func 33) [] [.ptr 4 [Box_av wanted_c0] 0 0, .ptr 1 [.sl 5 (List.map Star_av wanted_c1)] 0 0]] = ⟨true, .fresh 1 (List.map (AV.int .i64) y_), [.any, .any]⟩ := by
  refine mkF_E (by simp only [flatA, flatB, flat1, List.all_cons, List.all_nil, Bool.and_self, flatE_map (f := (AV.int .i64)) (fun _ => rfl)]) ?_
  dsimp only [impl_indicesWhere__impl_InBox_c1] at h
  obtain ⟨y_5, hk5, h⟩ := bd_some h
  obtain ⟨Lhk5, ehk5⟩ := impl_indicesWhere__impl_InBox_c1_l1_ex hk5
  obtain rfl := so_some h
  refine ⟨Lhk5, fun L hL => ?_⟩
  have ehk5 := ehk5 L (by omega)
  try simp only [go_sem, E_impl_indicesWhere__impl_InBox_c1_l1, R_impl_indicesWhere__impl_InBox_c1_l1, ir32_k0, ir32_o0, ir32_r0] at ehk5
  simp only [go_sem, ir32, E_impl_indicesWhere__impl_InBox_c1_l1, R_impl_indicesWhere__impl_InBox_c1_l1, ir32_k0, ir32_o0, ir32_r0, ehk5]


def ir10_v : List Nat := [0, 1, 2, 3, 4, 5]
def ir10 : AFn := ⟨2, 6, .seq (.region false [
    ⟨.var 2, 2, none, .box (.v 0)⟩,
    ⟨.var 3, 3, none, .box (.v 1)⟩,
    ⟨.var 4, 4, none, .newnil 1⟩,
    ⟨.var 5, 5, none, .mov (.c (.int .i64 (0)))⟩])
 (.seq (.test false [
    ⟨.push, 6, none, .load false 1 (.v 2)⟩,
    ⟨.push, 7, none, .call 30 [(.s 0)]⟩,
    ⟨.push, 8, none, .un .not (.s 0)⟩,
    ⟨.push, 9, none, .mov (.s 0)⟩,
    ⟨.push, 10, (some ((.s 0), false)), .load true 4 (.v 3)⟩,
    ⟨.push, 11, (some ((.s 1), false)), .call 31 [(.s 0)]⟩,
    ⟨.push, 12, (some ((.s 2), false)), .un .not (.s 0)⟩,
    ⟨.push, 13, none, .pick (.s 3) (.c (.bool true)) (.s 0)⟩] (.s 0)
  (.seq (.region false [
      ⟨.var 4, 4, none, .newnil 1⟩,
      ⟨.var 5, 5, none, .mov (.c (.int .i64 (1)))⟩])
   (.ret))
  (.skip))
 (.seq (.region false [
    ⟨.push, 14, none, .load false 1 (.v 2)⟩,
    ⟨.push, 15, none, .len false (.s 0)⟩,
    ⟨.push, 16, none, .mkFn (.func 33) [] [(.v 3), (.v 2)]⟩,
    ⟨.push, 17, none, .call 32 [(.s 1), (.s 0)]⟩,
    ⟨.var 4, 4, none, .mov (.s 0)⟩,
    ⟨.var 5, 5, none, .mov (.c (.int .i64 (0)))⟩])
 (.ret))), [.t 4, .t 5]⟩
noncomputable def t_impl_InBox : List (Nat × Ctr) := [(30, c_impl_ValidStars), (31, c_impl_isBox), (32, c_impl_indicesWhere__impl_InBox_c1)]
theorem lk_impl_InBox_30 : look t_impl_InBox 30 = some c_impl_ValidStars := rfl
theorem lk_impl_InBox_31 : look t_impl_InBox 31 = some c_impl_isBox := rfl
theorem lk_impl_InBox_32 : look t_impl_InBox 32 = some c_impl_indicesWhere__impl_InBox_c1 := rfl
noncomputable def c_impl_InBox : Ctr := mkF t_impl_InBox ir10 [.bor, .bor]
theorem s_impl_InBox : Sound Try.prog 10 c_impl_InBox := mkF_sound _ rfl (snd_cons s_impl_ValidStars (snd_cons s_impl_isBox (snd_cons s_impl_indicesWhere__impl_InBox_c1 snd_nil))) (by kernel_rfl : chkFn Try.prog 10 ir10 ir10_v = true)
theorem M_impl_InBox : c_impl_InBox.modes = [.bor, .bor] := rfl
theorem Fl_impl_InBox : c_impl_InBox.flat = true := rfl
attribute [go_sem] M_impl_InBox Fl_impl_InBox
attribute [go_sem] lk_impl_InBox_30 lk_impl_InBox_31 lk_impl_InBox_32
theorem Fs_impl_InBox {list : List Star} {b : Box} {y_ : (List Int) × Int} (h : impl_InBox list b = some y_) : c_impl_InBox.F [.sl 5 (List.map Star_av list), Box_av b] = ⟨true, .tup [.fresh 1 (List.map (AV.int .i64) y_.1), .int .i64 y_.2], [.any, .any]⟩ := by
  refine mkF_E (by simp only [flatA, flatB, flat1, List.all_cons, List.all_nil, Bool.and_self, flatE_map (f := (AV.int .i64)) (fun _ => rfl)]) ?_
  dsimp only [impl_InBox] at h
  obtain ⟨y_1, hk1, h⟩ := bd_some h
  have fhk1 := Fs_impl_ValidStars hk1
  try simp only [go_sem] at fhk1
  obtain ⟨hk2, h⟩ := ck_some h
  rcases or_split hk2 with ⟨ghk2, hk2⟩ | ghk2
  · try simp only [go_sem, n1, n2, n3, n4] at ghk2
    all_goals
    obtain ⟨y_2, hhk2⟩ := Option.isSome_iff_exists.1 hk2
    have fhk2 := Fs_impl_isBox hhk2
    try simp only [go_sem] at fhk2
    rcases it_some h with ⟨hk3, h⟩ | ⟨hk3, h⟩
    · try simp only [go_sem, n1, n2, n3, n4, ghk2, hhk2] at hk3
      all_goals
      obtain rfl := so_some h
      refine ⟨0, fun L hL => ?_⟩
      simp only [go_sem, ir10, fhk1, ghk2, hhk2, fhk2, hk3]
    · try simp only [go_sem, n1, n2, n3, n4, ghk2, hhk2] at hk3
      all_goals
      obtain ⟨y_4, hk4, h⟩ := bd_some h
      have fhk4 := Fs_impl_indicesWhere__impl_InBox_c1 hk4
      try simp only [go_sem] at fhk4
      obtain rfl := so_some h
      refine ⟨0, fun L hL => ?_⟩
      simp only [go_sem, ir10, fhk1, ghk2, hhk2, fhk2, hk3, fhk4]
  · have ghk2n := no_f ghk2
    have ghk2nn := no_t ghk2n
    try simp only [go_sem, n1, n2, n3, n4] at ghk2nn
    all_goals
    rcases it_some h with ⟨hk3, h⟩ | ⟨hk3, h⟩
    · try simp only [go_sem, n1, n2, n3, n4, ghk2nn] at hk3
      all_goals
      obtain rfl := so_some h
      refine ⟨0, fun L hL => ?_⟩
      simp only [go_sem, ir10, fhk1, ghk2nn, hk3]
    · try simp only [go_sem, n1, n2, n3, n4, ghk2nn] at hk3
      all_goals
      obtain ⟨y_4, hk4, h⟩ := bd_some h
      have fhk4 := Fs_impl_indicesWhere__impl_InBox_c1 hk4
      try simp only [go_sem] at fhk4
      obtain rfl := so_some h
      refine ⟨0, fun L hL => ?_⟩
      simp only [go_sem, ir10, fhk1, ghk2nn, hk3, fhk4]


def ir11_b0 : IR := .seq (.test false [
    ⟨.push, 6, none, .mov (.v 3)⟩,
    ⟨.push, 7, none, .mov (.v 0)⟩,
    ⟨.push, 8, none, .len false (.s 0)⟩,
    ⟨.push, 9, none, .bin false .lss (.s 2) (.s 0)⟩] (.s 0)
  (.skip)
  (.exit 0))
 (.seq (.block 1 (.anyo 29 [
     ⟨.slot 0, 12, none, .mov (.v 0)⟩,
     ⟨.slot 1, 13, none, .mov (.v 3)⟩,
     ⟨.slot 2, 14, none, .ixAddr 1 (.s 0) (.s 1)⟩,
     ⟨.slot 3, 15, none, .load false 1 (.s 2)⟩,
     ⟨.slot 4, 16, none, .bin false .lss (.s 3) (.c (.int .i64 (0)))⟩,
     ⟨.slot 5, 17, none, .mov (.s 4)⟩,
     ⟨.slot 6, 18, (some ((.s 5), false)), .mov (.v 0)⟩,
     ⟨.slot 7, 19, (some ((.s 5), false)), .mov (.v 3)⟩,
     ⟨.slot 8, 20, (some ((.s 5), false)), .ixAddr 1 (.s 6) (.s 7)⟩,
     ⟨.slot 9, 21, (some ((.s 5), false)), .load false 1 (.s 8)⟩,
     ⟨.slot 10, 22, (some ((.s 5), false)), .mov (.v 1)⟩,
     ⟨.slot 11, 23, (some ((.s 5), false)), .bin false .geq (.s 9) (.s 10)⟩,
     ⟨.slot 12, 24, none, .pick (.s 5) (.c (.bool true)) (.s 11)⟩,
     ⟨.slot 13, 25, none, .mov (.s 12)⟩,
     ⟨.slot 14, 26, (some ((.s 13), false)), .mov (.v 3)⟩,
     ⟨.slot 15, 27, (some ((.s 13), false)), .bin false .gtr (.s 14) (.c (.int .i64 (0)))⟩,
     ⟨.slot 16, 28, (some ((.s 13), false)), .mov (.s 15)⟩,
     ⟨.slot 17, 29, (some ((.s 16), true)), .mov (.v 0)⟩,
     ⟨.slot 18, 30, (some ((.s 16), true)), .mov (.v 3)⟩,
     ⟨.slot 19, 31, (some ((.s 16), true)), .bin false .sub (.s 18) (.c (.int .i64 (1)))⟩,
     ⟨.slot 20, 32, (some ((.s 16), true)), .ixAddr 1 (.s 17) (.s 19)⟩,
     ⟨.slot 21, 33, (some ((.s 16), true)), .load false 1 (.s 20)⟩,
     ⟨.slot 22, 34, (some ((.s 16), true)), .mov (.v 0)⟩,
     ⟨.slot 23, 35, (some ((.s 16), true)), .mov (.v 3)⟩,
     ⟨.slot 24, 36, (some ((.s 16), true)), .ixAddr 1 (.s 22) (.s 23)⟩,
     ⟨.slot 25, 37, (some ((.s 16), true)), .load false 1 (.s 24)⟩,
     ⟨.slot 26, 38, (some ((.s 16), true)), .bin false .geq (.s 21) (.s 25)⟩,
     ⟨.slot 27, 39, (some ((.s 13), false)), .pick (.s 16) (.s 26) (.c (.bool false))⟩,
     ⟨.slot 28, 40, none, .pick (.s 13) (.c (.bool true)) (.s 27)⟩] [] (.cond (.s 28)
   (.seq (.region false [
       ⟨.var 2, 4, none, .mov (.c (.bool false))⟩])
    (.ret))
   (.skip))))
 (.region false [
   ⟨.push, 10, none, .mov (.v 3)⟩,
   ⟨.push, 11, none, .bin false .add (.s 0) (.c (.int .i64 (1)))⟩,
   ⟨.var 3, 5, none, .mov (.s 0)⟩]))
def ir11_k0 : List Bool := [true, true, false, true]
def ir11_o0 : List Bool := [false, false, false, false]
def ir11_r0 : List Bool := [false, false, true, false]
def ir11_v : List Nat := [0, 1, 4, 5]
def ir11 : AFn := ⟨2, 4, .seq (.region false [
    ⟨.var 2, 4, none, .mov (.c (.bool false))⟩])
 (.seq (.seq (.region false [
     ⟨.var 3, 5, none, .mov (.c (.int .i64 (0)))⟩])
  (.block 0 (.loop ir11_k0 ir11_o0 ir11_r0 ir11_b0)))
 (.seq (.region false [
    ⟨.var 2, 4, none, .mov (.c (.bool true))⟩])
 (.ret))), [.t 2]⟩
noncomputable def t_laws_a2Rises : List (Nat × Ctr) := []
noncomputable def c_laws_a2Rises : Ctr := mkF t_laws_a2Rises ir11 [.bor, .bor]
theorem s_laws_a2Rises : Sound Try.prog 11 c_laws_a2Rises := mkF_sound _ rfl snd_nil (by kernel_rfl : chkFn Try.prog 11 ir11 ir11_v = true)
theorem M_laws_a2Rises : c_laws_a2Rises.modes = [.bor, .bor] := rfl
theorem Fl_laws_a2Rises : c_laws_a2Rises.flat = true := rfl
attribute [go_sem] M_laws_a2Rises Fl_laws_a2Rises
def E_laws_a2Rises_l1 (list : List Int) (n : Int) : Int → St
  | i => ⟨[.sl 1 (List.map (AV.int .i64) list), .int .i64 n, .any, .int .i64 i], [], [], true⟩
def R_laws_a2Rises_l1 (list : List Int) (n : Int) : (Unit ⊕ Bool) → Res
  | .inl y => (.exit 0, ⟨[.any, .any, .any, .any], [], [], true⟩)
  | .inr y => (.ret, ⟨[.any, .any, .bool y, .any], [], [], true⟩)
theorem laws_a2Rises_l1_ex {list : List Int} {n : Int} {sgm_ : Int} {rho_ : Unit ⊕ Bool} (h : whileE (laws_a2Rises_l1 list n) sgm_ = some rho_) : ∃ L0, ∀ L, L0 ≤ L → iter (exec (look t_laws_a2Rises) L ir11_b0) ir11_k0 ir11_o0 ir11_r0 L (E_laws_a2Rises_l1 list n sgm_) = R_laws_a2Rises_l1 list n rho_ := by
  refine loop_ex (E := E_laws_a2Rises_l1 list n) (R := R_laws_a2Rises_l1 list n) (fun y => by first | (intro c; cases c) | (rcases y with y | y <;> (intro c; cases c)) | (rcases y with y | y | y <;> (intro c; cases c))) ?_ h
  clear h
  intro i o_ h
  dsimp only [laws_a2Rises_l1] at h
  rcases it_some h with ⟨hk1, h⟩ | ⟨hk1, h⟩
  · try simp only [go_sem, n1, n2, n3, n4] at hk1
    all_goals
    obtain ⟨hk2, h⟩ := ck_some h
    have lhk2 := ix_lt hk2
    have xhk2 := getD_mapD (AV.int .i64) list lhk2
    try simp only [go_sem] at lhk2
    try simp only [go_sem] at xhk2
    try simp only [go_sem, n1, n2, n3, n4, hk1] at hk2
    all_goals
    obtain ⟨hk3, h⟩ := ck_some h
    rcases or_split hk3 with ⟨ghk3, hk3⟩ | ghk3
    · try simp only [go_sem, n1, n2, n3, n4, hk1, hk2] at ghk3
      all_goals
      have lhk3 := ix_lt hk3
      have xhk3 := getD_mapD (AV.int .i64) list lhk3
      try simp only [go_sem] at lhk3
      try simp only [go_sem] at xhk3
      try simp only [go_sem, n1, n2, n3, n4, hk1, hk2, ghk3] at hk3
      all_goals
      rcases it_some h with ⟨hk4, h⟩ | ⟨hk4, h⟩
      · try simp only [go_sem, n1, n2, n3, n4, hk1, hk2, ghk3, hk3] at hk4
        all_goals
        obtain rfl := so_some h
        refine ⟨0, fun L hL => ?_⟩
        simp only [go_sem, ir11, E_laws_a2Rises_l1, R_laws_a2Rises_l1, ir11_b0, ir11_k0, ir11_o0, ir11_r0, hk1, hk2, lhk2, xhk2, ghk3, hk3, lhk3, xhk3, hk4]
      · try simp only [go_sem, n1, n2, n3, n4, hk1, hk2, ghk3, hk3] at hk4
        all_goals
        obtain rfl := so_some h
        refine ⟨0, fun L hL => ?_⟩
        simp only [go_sem, ir11, E_laws_a2Rises_l1, R_laws_a2Rises_l1, ir11_b0, ir11_k0, ir11_o0, ir11_r0, hk1, hk2, lhk2, xhk2, ghk3, hk3, lhk3, xhk3, hk4]
    · rcases and_f ghk3 with ghk3a | ⟨ghk3a, ghk3b⟩
      · have ghk3an := no_f ghk3a
        rcases or_t ghk3an with ghk3ana | ⟨ghk3ana, ghk3anb⟩
        · try simp only [go_sem, n1, n2, n3, n4, hk1, hk2] at ghk3ana
          all_goals
          rcases it_some h with ⟨hk4, h⟩ | ⟨hk4, h⟩
          · try simp only [go_sem, n1, n2, n3, n4, hk1, hk2, ghk3ana] at hk4
            all_goals
            obtain rfl := so_some h
            refine ⟨0, fun L hL => ?_⟩
            simp only [go_sem, ir11, E_laws_a2Rises_l1, R_laws_a2Rises_l1, ir11_b0, ir11_k0, ir11_o0, ir11_r0, hk1, hk2, lhk2, xhk2, ghk3ana, hk4]
          · try simp only [go_sem, n1, n2, n3, n4, hk1, hk2, ghk3ana] at hk4
            all_goals
            obtain rfl := so_some h
            refine ⟨0, fun L hL => ?_⟩
            simp only [go_sem, ir11, E_laws_a2Rises_l1, R_laws_a2Rises_l1, ir11_b0, ir11_k0, ir11_o0, ir11_r0, hk1, hk2, lhk2, xhk2, ghk3ana, hk4]
        · try simp only [go_sem, n1, n2, n3, n4, hk1, hk2] at ghk3ana
          all_goals
          try simp only [go_sem, n1, n2, n3, n4, hk1, hk2, ghk3ana] at ghk3anb
          all_goals
          rcases it_some h with ⟨hk4, h⟩ | ⟨hk4, h⟩
          · try simp only [go_sem, n1, n2, n3, n4, hk1, hk2, ghk3ana, ghk3anb] at hk4
            all_goals
            obtain rfl := so_some h
            refine ⟨0, fun L hL => ?_⟩
            simp only [go_sem, ir11, E_laws_a2Rises_l1, R_laws_a2Rises_l1, ir11_b0, ir11_k0, ir11_o0, ir11_r0, hk1, hk2, lhk2, xhk2, ghk3ana, ghk3anb, hk4]
          · try simp only [go_sem, n1, n2, n3, n4, hk1, hk2, ghk3ana, ghk3anb] at hk4
            all_goals
            obtain rfl := so_some h
            refine ⟨0, fun L hL => ?_⟩
            simp only [go_sem, ir11, E_laws_a2Rises_l1, R_laws_a2Rises_l1, ir11_b0, ir11_k0, ir11_o0, ir11_r0, hk1, hk2, lhk2, xhk2, ghk3ana, ghk3anb, hk4]
      · have ghk3an := no_t ghk3a
        obtain ⟨ghk3ana, ghk3anb⟩ := or_f ghk3an
        try simp only [go_sem, n1, n2, n3, n4, hk1, hk2] at ghk3ana
        all_goals
        try simp only [go_sem, n1, n2, n3, n4, hk1, hk2, ghk3ana] at ghk3anb
        all_goals
        try simp only [go_sem, n1, n2, n3, n4, hk1, hk2, ghk3ana, ghk3anb] at ghk3b
        all_goals
        rcases it_some h with ⟨hk4, h⟩ | ⟨hk4, h⟩
        · try simp only [go_sem, n1, n2, n3, n4, hk1, hk2, ghk3ana, ghk3anb, ghk3b] at hk4
          all_goals
          obtain rfl := so_some h
          refine ⟨0, fun L hL => ?_⟩
          simp only [go_sem, ir11, E_laws_a2Rises_l1, R_laws_a2Rises_l1, ir11_b0, ir11_k0, ir11_o0, ir11_r0, hk1, hk2, lhk2, xhk2, ghk3ana, ghk3anb, ghk3b, hk4]
        · try simp only [go_sem, n1, n2, n3, n4, hk1, hk2, ghk3ana, ghk3anb, ghk3b] at hk4
          all_goals
          obtain rfl := so_some h
          refine ⟨0, fun L hL => ?_⟩
          simp only [go_sem, ir11, E_laws_a2Rises_l1, R_laws_a2Rises_l1, ir11_b0, ir11_k0, ir11_o0, ir11_r0, hk1, hk2, lhk2, xhk2, ghk3ana, ghk3anb, ghk3b, hk4]
  · try simp only [go_sem, n1, n2, n3, n4] at hk1
    all_goals
    obtain rfl := so_some h
    refine ⟨0, fun L hL => ?_⟩
    simp only [go_sem, ir11, E_laws_a2Rises_l1, R_laws_a2Rises_l1, ir11_b0, ir11_k0, ir11_o0, ir11_r0, hk1]

theorem Fs_laws_a2Rises {list : List Int} {n : Int} {y_ : Bool} (h : laws_a2Rises list n = some y_) : c_laws_a2Rises.F [.sl 1 (List.map (AV.int .i64) list), .int .i64 n] = ⟨true, .bool y_, [.any, .any]⟩ := by
  refine mkF_E rfl ?_
  dsimp only [laws_a2Rises] at h
  obtain ⟨y_5, hk5, h⟩ := bd_some h
  obtain ⟨Lhk5, ehk5⟩ := laws_a2Rises_l1_ex hk5
  rcases y_5 with y_5a | y_5b
  · dsimp only at h
    obtain rfl := so_some h
    refine ⟨Lhk5, fun L hL => ?_⟩
    have ehk5 := ehk5 L (by omega)
    try simp only [go_sem, E_laws_a2Rises_l1, R_laws_a2Rises_l1, ir11_k0, ir11_o0, ir11_r0] at ehk5
    simp only [go_sem, ir11, E_laws_a2Rises_l1, R_laws_a2Rises_l1, ir11_k0, ir11_o0, ir11_r0, ehk5]
  · dsimp only at h
    obtain rfl := so_some h
    refine ⟨Lhk5, fun L hL => ?_⟩
    have ehk5 := ehk5 L (by omega)
    try simp only [go_sem, E_laws_a2Rises_l1, R_laws_a2Rises_l1, ir11_k0, ir11_o0, ir11_r0] at ehk5
    simp only [go_sem, ir11, E_laws_a2Rises_l1, R_laws_a2Rises_l1, ir11_k0, ir11_o0, ir11_r0, ehk5]


def ir13_b0 : IR := .seq (.test false [
    ⟨.push, 6, none, .mov (.v 3)⟩,
    ⟨.push, 7, none, .mov (.v 0)⟩,
    ⟨.push, 8, none, .len false (.s 0)⟩,
    ⟨.push, 9, none, .bin false .lss (.s 2) (.s 0)⟩] (.s 0)
  (.skip)
  (.exit 0))
 (.seq (.block 1 (.test false [
     ⟨.push, 12, none, .mov (.v 0)⟩,
     ⟨.push, 13, none, .mov (.v 3)⟩,
     ⟨.push, 14, none, .ixAddr 1 (.s 1) (.s 0)⟩,
     ⟨.push, 15, none, .load false 1 (.s 0)⟩,
     ⟨.push, 16, none, .mov (.v 1)⟩,
     ⟨.push, 17, none, .bin false .eql (.s 1) (.s 0)⟩] (.s 0)
   (.seq (.region false [
       ⟨.var 2, 4, none, .mov (.c (.bool true))⟩])
    (.ret))
   (.skip)))
 (.region false [
   ⟨.push, 10, none, .mov (.v 3)⟩,
   ⟨.push, 11, none, .bin false .add (.s 0) (.c (.int .i64 (1)))⟩,
   ⟨.var 3, 5, none, .mov (.s 0)⟩]))
def ir13_k0 : List Bool := [true, true, false, true]
def ir13_o0 : List Bool := [false, false, false, false]
def ir13_r0 : List Bool := [false, false, true, false]
def ir13_v : List Nat := [0, 1, 4, 5]
def ir13 : AFn := ⟨2, 4, .seq (.region false [
    ⟨.var 2, 4, none, .mov (.c (.bool false))⟩])
 (.seq (.seq (.region false [
     ⟨.var 3, 5, none, .mov (.c (.int .i64 (0)))⟩])
  (.block 0 (.loop ir13_k0 ir13_o0 ir13_r0 ir13_b0)))
 (.seq (.region false [
    ⟨.var 2, 4, none, .mov (.c (.bool false))⟩])
 (.ret))), [.t 2]⟩
noncomputable def t_laws_a2Has : List (Nat × Ctr) := []
noncomputable def c_laws_a2Has : Ctr := mkF t_laws_a2Has ir13 [.bor, .bor]
theorem s_laws_a2Has : Sound Try.prog 13 c_laws_a2Has := mkF_sound _ rfl snd_nil (by kernel_rfl : chkFn Try.prog 13 ir13 ir13_v = true)
theorem M_laws_a2Has : c_laws_a2Has.modes = [.bor, .bor] := rfl
theorem Fl_laws_a2Has : c_laws_a2Has.flat = true := rfl
attribute [go_sem] M_laws_a2Has Fl_laws_a2Has
def E_laws_a2Has_l1 (list : List Int) (n : Int) : Int → St
  | i => ⟨[.sl 1 (List.map (AV.int .i64) list), .int .i64 n, .any, .int .i64 i], [], [], true⟩
def R_laws_a2Has_l1 (list : List Int) (n : Int) : (Unit ⊕ Bool) → Res
  | .inl y => (.exit 0, ⟨[.any, .any, .any, .any], [], [], true⟩)
  | .inr y => (.ret, ⟨[.any, .any, .bool y, .any], [], [], true⟩)
theorem laws_a2Has_l1_ex {list : List Int} {n : Int} {sgm_ : Int} {rho_ : Unit ⊕ Bool} (h : whileE (laws_a2Has_l1 list n) sgm_ = some rho_) : ∃ L0, ∀ L, L0 ≤ L → iter (exec (look t_laws_a2Has) L ir13_b0) ir13_k0 ir13_o0 ir13_r0 L (E_laws_a2Has_l1 list n sgm_) = R_laws_a2Has_l1 list n rho_ := by
  refine loop_ex (E := E_laws_a2Has_l1 list n) (R := R_laws_a2Has_l1 list n) (fun y => by first | (intro c; cases c) | (rcases y with y | y <;> (intro c; cases c)) | (rcases y with y | y | y <;> (intro c; cases c))) ?_ h
  clear h
  intro i o_ h
  dsimp only [laws_a2Has_l1] at h
  rcases it_some h with ⟨hk1, h⟩ | ⟨hk1, h⟩
  · try simp only [go_sem, n1, n2, n3, n4] at hk1
    all_goals
    obtain ⟨hk2, h⟩ := ck_some h
    have lhk2 := ix_lt hk2
    have xhk2 := getD_mapD (AV.int .i64) list lhk2
    try simp only [go_sem] at lhk2
    try simp only [go_sem] at xhk2
    try simp only [go_sem, n1, n2, n3, n4, hk1] at hk2
    all_goals
    rcases it_some h with ⟨hk3, h⟩ | ⟨hk3, h⟩
    · try simp only [go_sem, n1, n2, n3, n4, hk1, hk2] at hk3
      all_goals
      obtain rfl := so_some h
      refine ⟨0, fun L hL => ?_⟩
      simp only [go_sem, ir13, E_laws_a2Has_l1, R_laws_a2Has_l1, ir13_b0, ir13_k0, ir13_o0, ir13_r0, hk1, hk2, lhk2, xhk2, hk3]
    · try simp only [go_sem, n1, n2, n3, n4, hk1, hk2] at hk3
      all_goals
      obtain rfl := so_some h
      refine ⟨0, fun L hL => ?_⟩
      simp only [go_sem, ir13, E_laws_a2Has_l1, R_laws_a2Has_l1, ir13_b0, ir13_k0, ir13_o0, ir13_r0, hk1, hk2, lhk2, xhk2, hk3]
  · try simp only [go_sem, n1, n2, n3, n4] at hk1
    all_goals
    obtain rfl := so_some h
    refine ⟨0, fun L hL => ?_⟩
    simp only [go_sem, ir13, E_laws_a2Has_l1, R_laws_a2Has_l1, ir13_b0, ir13_k0, ir13_o0, ir13_r0, hk1]

theorem Fs_laws_a2Has {list : List Int} {n : Int} {y_ : Bool} (h : laws_a2Has list n = some y_) : c_laws_a2Has.F [.sl 1 (List.map (AV.int .i64) list), .int .i64 n] = ⟨true, .bool y_, [.any, .any]⟩ := by
  refine mkF_E rfl ?_
  dsimp only [laws_a2Has] at h
  obtain ⟨y_4, hk4, h⟩ := bd_some h
  obtain ⟨Lhk4, ehk4⟩ := laws_a2Has_l1_ex hk4
  rcases y_4 with y_4a | y_4b
  · dsimp only at h
    obtain rfl := so_some h
    refine ⟨Lhk4, fun L hL => ?_⟩
    have ehk4 := ehk4 L (by omega)
    try simp only [go_sem, E_laws_a2Has_l1, R_laws_a2Has_l1, ir13_k0, ir13_o0, ir13_r0] at ehk4
    simp only [go_sem, ir13, E_laws_a2Has_l1, R_laws_a2Has_l1, ir13_k0, ir13_o0, ir13_r0, ehk4]
  · dsimp only at h
    obtain rfl := so_some h
    refine ⟨Lhk4, fun L hL => ?_⟩
    have ehk4 := ehk4 L (by omega)
    try simp only [go_sem, E_laws_a2Has_l1, R_laws_a2Has_l1, ir13_k0, ir13_o0, ir13_r0] at ehk4
    simp only [go_sem, ir13, E_laws_a2Has_l1, R_laws_a2Has_l1, ir13_k0, ir13_o0, ir13_r0, ehk4]


def ir3_b0 : IR := .seq (.test false [
    ⟨.push, 72, none, .mov (.v 12)⟩,
    ⟨.push, 73, none, .mov (.v 3)⟩,
    ⟨.push, 74, none, .len false (.s 0)⟩,
    ⟨.push, 75, none, .bin false .lss (.s 2) (.s 0)⟩] (.s 0)
  (.skip)
  (.exit 0))
 (.seq (.block 1 (.seq (.anyo 11 [
      ⟨.slot 0, 79, none, .fldAddr 1 (.v 4)⟩,
      ⟨.slot 1, 80, none, .load false 1 (.s 0)⟩,
      ⟨.slot 2, 81, none, .mov (.v 3)⟩,
      ⟨.slot 3, 82, none, .mov (.v 12)⟩,
      ⟨.slot 4, 83, none, .ixAddr 5 (.s 2) (.s 3)⟩,
      ⟨.slot 5, 84, none, .fldAddr 1 (.s 4)⟩,
      ⟨.slot 6, 85, none, .load false 1 (.s 5)⟩,
      ⟨.slot 7, 86, none, .call 12 [(.s 1), (.s 6)]⟩,
      ⟨.slot 8, 78, none, .mov (.s 7)⟩,
      ⟨.slot 9, 87, none, .ext (.s 8) 0⟩,
      ⟨.slot 10, 88, none, .ext (.s 8) 1⟩,
      ⟨.var 13, 15, none, .mov (.s 9)⟩,
      ⟨.var 14, 16, none, .mov (.s 10)⟩] [] .skip)
   (.seq (.anyo 11 [
      ⟨.slot 0, 90, none, .mov (.v 3)⟩,
      ⟨.slot 1, 91, none, .mov (.v 12)⟩,
      ⟨.slot 2, 92, none, .ixAddr 5 (.s 0) (.s 1)⟩,
      ⟨.slot 3, 93, none, .fldAddr 1 (.s 2)⟩,
      ⟨.slot 4, 94, none, .load false 1 (.s 3)⟩,
      ⟨.slot 5, 95, none, .fldAddr 1 (.v 4)⟩,
      ⟨.slot 6, 96, none, .load false 1 (.s 5)⟩,
      ⟨.slot 7, 97, none, .call 12 [(.s 4), (.s 6)]⟩,
      ⟨.slot 8, 89, none, .mov (.s 7)⟩,
      ⟨.slot 9, 98, none, .ext (.s 8) 0⟩,
      ⟨.slot 10, 99, none, .ext (.s 8) 1⟩,
      ⟨.var 15, 17, none, .mov (.s 9)⟩,
      ⟨.var 16, 18, none, .mov (.s 10)⟩] [] .skip)
   (.seq (.test false [
      ⟨.push, 100, none, .mov (.v 14)⟩,
      ⟨.push, 101, none, .bin false .neq (.s 0) (.c (.int .i64 (0)))⟩,
      ⟨.push, 102, none, .mov (.s 0)⟩,
      ⟨.push, 103, (some ((.s 0), false)), .mov (.v 16)⟩,
      ⟨.push, 104, (some ((.s 1), false)), .bin false .neq (.s 0) (.c (.int .i64 (0)))⟩,
      ⟨.push, 105, none, .pick (.s 2) (.c (.bool true)) (.s 0)⟩,
      ⟨.push, 106, none, .mov (.s 0)⟩,
      ⟨.push, 107, (some ((.s 0), false)), .mov (.v 13)⟩,
      ⟨.push, 108, (some ((.s 1), false)), .mov (.v 15)⟩,
      ⟨.push, 109, (some ((.s 2), false)), .bin false .neq (.s 1) (.s 0)⟩,
      ⟨.push, 110, none, .pick (.s 3) (.c (.bool true)) (.s 0)⟩,
      ⟨.push, 111, none, .mov (.s 0)⟩,
      ⟨.push, 112, (some ((.s 0), false)), .mov (.v 13)⟩,
      ⟨.push, 113, (some ((.s 1), false)), .bin false .lss (.s 0) (.c (.int .i64 (0)))⟩,
      ⟨.push, 114, none, .pick (.s 2) (.c (.bool true)) (.s 0)⟩,
      ⟨.push, 115, none, .mov (.s 0)⟩,
      ⟨.push, 116, (some ((.s 0), false)), .mov (.v 13)⟩,
      ⟨.push, 117, (some ((.s 1), false)), .bin false .gtr (.s 0) (.c (.int .i64 (43200)))⟩,
      ⟨.push, 118, none, .pick (.s 2) (.c (.bool true)) (.s 0)⟩] (.s 0)
    (.seq (.region false [
        ⟨.var 2, 4, none, .mov (.c (.bool false))⟩])
     (.ret))
    (.skip))
   (.seq (.anyo 8 [
      ⟨.slot 0, 119, none, .mov (.v 3)⟩,
      ⟨.slot 1, 120, none, .mov (.v 12)⟩,
      ⟨.slot 2, 121, none, .ixAddr 5 (.s 0) (.s 1)⟩,
      ⟨.slot 3, 122, none, .fldAddr 2 (.s 2)⟩,
      ⟨.slot 4, 123, none, .load false 1 (.s 3)⟩,
      ⟨.slot 5, 124, none, .fldAddr 2 (.v 4)⟩,
      ⟨.slot 6, 125, none, .load false 1 (.s 5)⟩,
      ⟨.slot 7, 126, none, .bin false .sub (.s 4) (.s 6)⟩,
      ⟨.var 17, 19, none, .mov (.s 7)⟩] [] .skip)
   (.seq (.region false [
      ⟨.push, 127, none, .mov (.v 13)⟩,
      ⟨.push, 128, none, .mov (.v 5)⟩,
      ⟨.push, 129, none, .bin false .leq (.s 1) (.s 0)⟩,
      ⟨.push, 130, none, .mov (.s 0)⟩,
      ⟨.push, 131, (some ((.s 0), true)), .mov (.v 17)⟩,
      ⟨.push, 132, (some ((.s 1), true)), .mov (.v 5)⟩,
      ⟨.push, 133, (some ((.s 2), true)), .bin false .mul (.c (.int .i64 (15))) (.s 0)⟩,
      ⟨.push, 134, (some ((.s 3), true)), .bin false .leq (.s 2) (.s 0)⟩,
      ⟨.push, 135, none, .pick (.s 4) (.s 0) (.c (.bool false))⟩,
      ⟨.push, 136, none, .mov (.s 0)⟩,
      ⟨.push, 137, (some ((.s 0), true)), .mov (.v 17)⟩,
      ⟨.push, 138, (some ((.s 1), true)), .mov (.v 5)⟩,
      ⟨.push, 139, (some ((.s 2), true)), .bin false .mul (.c (.int .i64 (-15))) (.s 0)⟩,
      ⟨.push, 140, (some ((.s 3), true)), .bin false .geq (.s 2) (.s 0)⟩,
      ⟨.push, 141, none, .pick (.s 4) (.s 0) (.c (.bool false))⟩,
      ⟨.var 18, 20, none, .mov (.s 0)⟩])
   (.test false [
     ⟨.push, 142, none, .mov (.v 18)⟩,
     ⟨.push, 143, none, .mov (.v 8)⟩,
     ⟨.push, 144, none, .mov (.v 12)⟩,
     ⟨.push, 145, none, .call 13 [(.s 1), (.s 0)]⟩,
     ⟨.push, 146, none, .bin true .neq (.s 3) (.s 0)⟩] (.s 0)
   (.seq (.region false [
       ⟨.var 2, 4, none, .mov (.c (.bool false))⟩])
    (.ret))
   (.skip))))))))
 (.region false [
   ⟨.push, 76, none, .mov (.v 12)⟩,
   ⟨.push, 77, none, .bin false .add (.s 0) (.c (.int .i64 (1)))⟩,
   ⟨.var 12, 14, none, .mov (.s 0)⟩]))
def ir3_k0 : List Bool := [false, false, false, true, true, true, false, false, true, false, false, false, true, false, false, false, false, false, false]
def ir3_o0 : List Bool := [false, false, false, false, false, false, false, false, false, false, false, false, false, false, false, false, false, false, false]
def ir3_r0 : List Bool := [false, false, true, false, false, false, false, false, false, false, false, false, false, false, false, false, false, false, false]
def ir3_v : List Nat := [0, 1, 4, 5, 6, 7, 8, 9, 10, 11, 12, 13, 14, 15, 16, 17, 18, 19, 20]
def ir3 : AFn := ⟨2, 19, .seq (.region false [
    ⟨.var 2, 4, none, .mov (.c (.bool false))⟩])
 (.seq (.test false [
    ⟨.push, 21, none, .mov (.v 0)⟩,
    ⟨.push, 22, none, .mov (.v 1)⟩,
    ⟨.push, 23, none, .call 5 [(.s 1), (.s 0)]⟩] (.s 0)
  (.seq (.region false [
      ⟨.var 2, 4, none, .mov (.c (.bool true))⟩])
   (.ret))
  (.skip))
 (.seq (.region false [
    ⟨.push, 24, none, .mov (.v 0)⟩,
    ⟨.push, 25, none, .call 6 [(.s 0)]⟩,
    ⟨.var 3, 5, none, .mov (.s 0)⟩])
 (.seq (.region false [
    ⟨.push, 26, none, .mov (.v 1)⟩,
    ⟨.push, 27, none, .call 7 [(.s 0)]⟩,
    ⟨.var 4, 6, none, .alloc (.agg [.str [], .int .i64 (0), .int .i64 (0), .int .i64 (0), .int .i64 (0)])⟩,
    ⟨.no, 0, none, .store 5 (.v 4) (.s 0)⟩])
 (.seq (.region false [
    ⟨.push, 28, none, .mov (.v 1)⟩,
    ⟨.push, 29, none, .call 8 [(.s 0), (.c (.int .i64 (0))), (.c (.int .i64 (256)))]⟩,
    ⟨.push, 30, none, .bin false .mul (.c (.int .i64 (40))) (.s 0)⟩,
    ⟨.var 5, 7, none, .mov (.s 0)⟩])
 (.seq (.region false [
    ⟨.push, 32, none, .load true 5 (.v 4)⟩,
    ⟨.push, 33, none, .mov (.v 5)⟩,
    ⟨.push, 34, none, .call 9 [(.s 1), (.s 0)]⟩,
    ⟨.push, 31, none, .mov (.s 0)⟩,
    ⟨.push, 35, none, .ext (.s 0) 0⟩,
    ⟨.push, 36, none, .ext (.s 1) 1⟩,
    ⟨.var 6, 8, none, .alloc (.agg [.int .i64 (0), .int .i64 (0), .int .i64 (0), .int .i64 (0)])⟩,
    ⟨.no, 0, none, .store 4 (.v 6) (.s 1)⟩,
    ⟨.var 7, 9, none, .mov (.s 0)⟩])
 (.seq (.region false [
    ⟨.push, 38, none, .mov (.v 3)⟩,
    ⟨.push, 39, none, .load true 4 (.v 6)⟩,
    ⟨.push, 40, none, .call 10 [(.s 1), (.s 0)]⟩,
    ⟨.push, 37, none, .mov (.s 0)⟩,
    ⟨.push, 41, none, .ext (.s 0) 0⟩,
    ⟨.push, 42, none, .ext (.s 1) 1⟩,
    ⟨.var 8, 10, none, .mov (.s 1)⟩,
    ⟨.var 9, 11, none, .mov (.s 0)⟩])
 (.seq (.region false [
    ⟨.push, 44, none, .load true 5 (.v 4)⟩,
    ⟨.push, 45, none, .mkSl 5 (.agg [.str [], .int .i64 (0), .int .i64 (0), .int .i64 (0), .int .i64 (0)]) 1 [(0, (.s 0))]⟩,
    ⟨.push, 46, none, .load true 4 (.v 6)⟩,
    ⟨.push, 47, none, .call 10 [(.s 1), (.s 0)]⟩,
    ⟨.push, 43, none, .mov (.s 0)⟩,
    ⟨.push, 48, none, .ext (.s 0) 0⟩,
    ⟨.push, 49, none, .ext (.s 1) 1⟩,
    ⟨.var 10, 12, none, .mov (.s 1)⟩,
    ⟨.var 11, 13, none, .mov (.s 0)⟩])
 (.seq (.test false [
    ⟨.push, 50, none, .mov (.v 7)⟩,
    ⟨.push, 51, none, .bin false .neq (.s 0) (.c (.int .i64 (0)))⟩,
    ⟨.push, 52, none, .mov (.s 0)⟩,
    ⟨.push, 53, (some ((.s 0), false)), .mov (.v 9)⟩,
    ⟨.push, 54, (some ((.s 1), false)), .bin false .neq (.s 0) (.c (.int .i64 (0)))⟩,
    ⟨.push, 55, none, .pick (.s 2) (.c (.bool true)) (.s 0)⟩,
    ⟨.push, 56, none, .mov (.s 0)⟩,
    ⟨.push, 57, (some ((.s 0), false)), .mov (.v 8)⟩,
    ⟨.push, 58, (some ((.s 1), false)), .mov (.v 3)⟩,
    ⟨.push, 59, (some ((.s 2), false)), .len false (.s 0)⟩,
    ⟨.push, 60, (some ((.s 3), false)), .call 11 [(.s 2), (.s 0)]⟩,
    ⟨.push, 61, (some ((.s 4), false)), .un .not (.s 0)⟩,
    ⟨.push, 62, none, .pick (.s 5) (.c (.bool true)) (.s 0)⟩,
    ⟨.push, 63, none, .mov (.s 0)⟩,
    ⟨.push, 64, (some ((.s 0), false)), .mov (.v 11)⟩,
    ⟨.push, 65, (some ((.s 1), false)), .bin false .neq (.s 0) (.c (.int .i64 (0)))⟩,
    ⟨.push, 66, none, .pick (.s 2) (.c (.bool true)) (.s 0)⟩,
    ⟨.push, 67, none, .mov (.s 0)⟩,
    ⟨.push, 68, (some ((.s 0), false)), .mov (.v 10)⟩,
    ⟨.push, 69, (some ((.s 1), false)), .len false (.s 0)⟩,
    ⟨.push, 70, (some ((.s 2), false)), .bin false .neq (.s 0) (.c (.int .i64 (1)))⟩,
    ⟨.push, 71, none, .pick (.s 3) (.c (.bool true)) (.s 0)⟩] (.s 0)
  (.seq (.region false [
      ⟨.var 2, 4, none, .mov (.c (.bool false))⟩])
   (.ret))
  (.skip))
 (.seq (.seq (.region false [
     ⟨.var 12, 14, none, .mov (.c (.int .i64 (0)))⟩])
  (.block 0 (.loop ir3_k0 ir3_o0 ir3_r0 ir3_b0)))
 (.seq (.region false [
    ⟨.var 2, 4, none, .mov (.c (.bool true))⟩])
 (.ret))))))))))), [.t 2]⟩
noncomputable def t_laws_FnSkies : List (Nat × Ctr) := [(5, c_laws_a2Long), (6, c_spec_A2Stars), (7, c_spec_A2Star), (8, c_laws_a2At), (9, c_impl_BoxAround), (10, c_impl_InBox), (11, c_laws_a2Rises), (12, c_impl_AscensionApart), (13, c_laws_a2Has)]
theorem lk_laws_FnSkies_5 : look t_laws_FnSkies 5 = some c_laws_a2Long := rfl
theorem lk_laws_FnSkies_6 : look t_laws_FnSkies 6 = some c_spec_A2Stars := rfl
theorem lk_laws_FnSkies_7 : look t_laws_FnSkies 7 = some c_spec_A2Star := rfl
theorem lk_laws_FnSkies_8 : look t_laws_FnSkies 8 = some c_laws_a2At := rfl
theorem lk_laws_FnSkies_9 : look t_laws_FnSkies 9 = some c_impl_BoxAround := rfl
theorem lk_laws_FnSkies_10 : look t_laws_FnSkies 10 = some c_impl_InBox := rfl
theorem lk_laws_FnSkies_11 : look t_laws_FnSkies 11 = some c_laws_a2Rises := rfl
theorem lk_laws_FnSkies_12 : look t_laws_FnSkies 12 = some c_impl_AscensionApart := rfl
theorem lk_laws_FnSkies_13 : look t_laws_FnSkies 13 = some c_laws_a2Has := rfl
noncomputable def c_laws_FnSkies : Ctr := mkF t_laws_FnSkies ir3 [.bor, .bor]
theorem s_laws_FnSkies : Sound Try.prog 3 c_laws_FnSkies := mkF_sound _ rfl (snd_cons s_laws_a2Long (snd_cons s_spec_A2Stars (snd_cons s_spec_A2Star (snd_cons s_laws_a2At (snd_cons s_impl_BoxAround (snd_cons s_impl_InBox (snd_cons s_laws_a2Rises (snd_cons s_impl_AscensionApart (snd_cons s_laws_a2Has snd_nil))))))))) (by kernel_rfl : chkFn Try.prog 3 ir3 ir3_v = true)
theorem M_laws_FnSkies : c_laws_FnSkies.modes = [.bor, .bor] := rfl
theorem Fl_laws_FnSkies : c_laws_FnSkies.flat = true := rfl
attribute [go_sem] M_laws_FnSkies Fl_laws_FnSkies
attribute [go_sem] lk_laws_FnSkies_5 lk_laws_FnSkies_6 lk_laws_FnSkies_7 lk_laws_FnSkies_8 lk_laws_FnSkies_9 lk_laws_FnSkies_10 lk_laws_FnSkies_11 lk_laws_FnSkies_12 lk_laws_FnSkies_13
def E_laws_FnSkies_l1 (list : List Star) (x : Star) (width : Int) (near : List Int) : Int → St
  | i => ⟨[.any, .any, .any, .own 3200000, .ref 3200032 0 0, .int .i64 width, .any, .any, .own 3200064, .any, .any, .any, .int .i64 i, .any, .any, .any, .any, .any, .any], [], [(3200000, ⟨5, List.map Star_av list⟩), (3200032, ⟨5, [Star_av x]⟩), (3200064, ⟨1, List.map (AV.int .i64) near⟩)], true⟩
def R_laws_FnSkies_l1 (list : List Star) (x : Star) (width : Int) (near : List Int) : (Unit ⊕ Bool) → Res
  | .inl y => (.exit 0, ⟨[.any, .any, .any, .any, .any, .any, .any, .any, .any, .any, .any, .any, .any, .any, .any, .any, .any, .any, .any], [], [], true⟩)
  | .inr y => (.ret, ⟨[.any, .any, .bool y, .any, .any, .any, .any, .any, .any, .any, .any, .any, .any, .any, .any, .any, .any, .any, .any], [], [], true⟩)
theorem laws_FnSkies_l1_ex {list : List Star} {x : Star} {width : Int} {near : List Int} {sgm_ : Int} {rho_ : Unit ⊕ Bool} (h : whileE (laws_FnSkies_l1 list x width near) sgm_ = some rho_) : ∃ L0, ∀ L, L0 ≤ L → iter (exec (look t_laws_FnSkies) L ir3_b0) ir3_k0 ir3_o0 ir3_r0 L (E_laws_FnSkies_l1 list x width near sgm_) = R_laws_FnSkies_l1 list x width near rho_ := by
  refine loop_ex (E := E_laws_FnSkies_l1 list x width near) (R := R_laws_FnSkies_l1 list x width near) (fun y => by first | (intro c; cases c) | (rcases y with y | y <;> (intro c; cases c)) | (rcases y with y | y | y <;> (intro c; cases c))) ?_ h
  clear h
  intro i o_ h
  dsimp only [laws_FnSkies_l1] at h
  rcases it_some h with ⟨hk11, h⟩ | ⟨hk11, h⟩
  · try simp only [go_sem, n1, n2, n3, n4] at hk11
    all_goals
    obtain ⟨hk12, h⟩ := ck_some h
    have lhk12 := ix_lt hk12
    have xhk12 := getD_mapD Star_av list lhk12
    try simp only [go_sem] at lhk12
    try simp only [go_sem] at xhk12
    try simp only [go_sem, n1, n2, n3, n4, hk11] at hk12
    all_goals
    obtain ⟨y_13, hk13, h⟩ := bd_some h
    have fhk13 := Fs_impl_AscensionApart hk13
    try simp only [go_sem] at fhk13
    obtain ⟨y_14, hk14, h⟩ := bd_some h
    have fhk14 := Fs_impl_AscensionApart hk14
    try simp only [go_sem] at fhk14
    rcases it_some h with ⟨hk15, h⟩ | ⟨hk15, h⟩
    · try simp only [go_sem, n1, n2, n3, n4, hk11, hk12] at hk15
      all_goals
      obtain rfl := so_some h
      refine ⟨0, fun L hL => ?_⟩
      simp only [go_sem, ir3, E_laws_FnSkies_l1, R_laws_FnSkies_l1, ir3_b0, ir3_k0, ir3_o0, ir3_r0, hk11, hk12, lhk12, xhk12, fhk13, fhk14, hk15]
    · try simp only [go_sem, n1, n2, n3, n4, hk11, hk12] at hk15
      all_goals
      obtain ⟨y_16, hk16, h⟩ := bd_some h
      have fhk16 := Fs_laws_a2Has hk16
      try simp only [go_sem] at fhk16
      rcases it_some h with ⟨hk17, h⟩ | ⟨hk17, h⟩
      · try simp only [go_sem, n1, n2, n3, n4, hk11, hk12, hk15] at hk17
        all_goals
        obtain rfl := so_some h
        refine ⟨0, fun L hL => ?_⟩
        simp only [go_sem, ir3, E_laws_FnSkies_l1, R_laws_FnSkies_l1, ir3_b0, ir3_k0, ir3_o0, ir3_r0, hk11, hk12, lhk12, xhk12, fhk13, fhk14, hk15, fhk16, hk17]
      · try simp only [go_sem, n1, n2, n3, n4, hk11, hk12, hk15] at hk17
        all_goals
        obtain rfl := so_some h
        refine ⟨0, fun L hL => ?_⟩
        simp only [go_sem, ir3, E_laws_FnSkies_l1, R_laws_FnSkies_l1, ir3_b0, ir3_k0, ir3_o0, ir3_r0, hk11, hk12, lhk12, xhk12, fhk13, fhk14, hk15, fhk16, hk17]
  · try simp only [go_sem, n1, n2, n3, n4] at hk11
    all_goals
    obtain rfl := so_some h
    refine ⟨0, fun L hL => ?_⟩
    simp only [go_sem, ir3, E_laws_FnSkies_l1, R_laws_FnSkies_l1, ir3_b0, ir3_k0, ir3_o0, ir3_r0, hk11]

theorem Fs_laws_FnSkies {code : List UInt8} {more : List UInt8} {y_ : Bool} (h : laws_FnSkies code more = some y_) : c_laws_FnSkies.F [.sl 1 (List.map byteAV code), .sl 1 (List.map byteAV more)] = ⟨true, .bool y_, [.any, .any]⟩ := by
  refine mkF_E rfl ?_
  dsimp only [laws_FnSkies] at h
  obtain ⟨y_1, hk1, h⟩ := bd_some h
  have fhk1 := Fs_laws_a2Long hk1
  try simp only [go_sem] at fhk1
  rcases it_some h with ⟨hk2, h⟩ | ⟨hk2, h⟩
  · try simp only [go_sem, n1, n2, n3, n4] at hk2
    all_goals
    obtain rfl := so_some h
    refine ⟨0, fun L hL => ?_⟩
    simp only [go_sem, ir3, E_laws_FnSkies_l1, R_laws_FnSkies_l1, ir3_k0, ir3_o0, ir3_r0, fhk1, hk2]
  · try simp only [go_sem, n1, n2, n3, n4] at hk2
    all_goals
    obtain ⟨y_3, hk3, h⟩ := bd_some h
    have fhk3 := Fs_spec_A2Stars hk3
    try simp only [go_sem] at fhk3
    obtain ⟨y_4, hk4, h⟩ := bd_some h
    have fhk4 := Fs_spec_A2Star hk4
    try simp only [go_sem] at fhk4
    obtain ⟨y_5, hk5, h⟩ := bd_some h
    have fhk5 := Fs_laws_a2At hk5
    try simp only [go_sem] at fhk5
    obtain ⟨y_6, hk6, h⟩ := bd_some h
    have fhk6 := Fs_impl_BoxAround hk6
    try simp only [go_sem] at fhk6
    obtain ⟨y_7, hk7, h⟩ := bd_some h
    have fhk7 := Fs_impl_InBox hk7
    try simp only [go_sem] at fhk7
    obtain ⟨y_8, hk8, h⟩ := bd_some h
    have fhk8 := Fs_impl_InBox hk8
    try simp only [go_sem] at fhk8
    obtain ⟨hk9, h⟩ := ck_some h
    rcases or_split hk9 with ⟨ghk9, hk9⟩ | ghk9
    · try simp only [go_sem, n1, n2, n3, n4, hk2] at ghk9
      all_goals
      obtain ⟨y_9, hhk9⟩ := Option.isSome_iff_exists.1 hk9
      have fhk9 := Fs_laws_a2Rises hhk9
      try simp only [go_sem] at fhk9
      rcases it_some h with ⟨hk10, h⟩ | ⟨hk10, h⟩
      · try simp only [go_sem, n1, n2, n3, n4, hk2, ghk9, hhk9] at hk10
        all_goals
        obtain rfl := so_some h
        refine ⟨0, fun L hL => ?_⟩
        simp only [go_sem, ir3, E_laws_FnSkies_l1, R_laws_FnSkies_l1, ir3_k0, ir3_o0, ir3_r0, fhk1, hk2, fhk3, fhk4, fhk5, fhk6, fhk7, fhk8, ghk9, hhk9, fhk9, hk10]
      · try simp only [go_sem, n1, n2, n3, n4, hk2, ghk9, hhk9] at hk10
        all_goals
        obtain ⟨y_18, hk18, h⟩ := bd_some h
        obtain ⟨Lhk18, ehk18⟩ := laws_FnSkies_l1_ex hk18
        rcases y_18 with y_18a | y_18b
        · dsimp only at h
          obtain rfl := so_some h
          refine ⟨Lhk18, fun L hL => ?_⟩
          have ehk18 := ehk18 L (by omega)
          try simp only [go_sem, E_laws_FnSkies_l1, R_laws_FnSkies_l1, ir3_k0, ir3_o0, ir3_r0] at ehk18
          simp only [go_sem, ir3, E_laws_FnSkies_l1, R_laws_FnSkies_l1, ir3_k0, ir3_o0, ir3_r0, fhk1, hk2, fhk3, fhk4, fhk5, fhk6, fhk7, fhk8, ghk9, hhk9, fhk9, hk10, ehk18]
        · dsimp only at h
          obtain rfl := so_some h
          refine ⟨Lhk18, fun L hL => ?_⟩
          have ehk18 := ehk18 L (by omega)
          try simp only [go_sem, E_laws_FnSkies_l1, R_laws_FnSkies_l1, ir3_k0, ir3_o0, ir3_r0] at ehk18
          simp only [go_sem, ir3, E_laws_FnSkies_l1, R_laws_FnSkies_l1, ir3_k0, ir3_o0, ir3_r0, fhk1, hk2, fhk3, fhk4, fhk5, fhk6, fhk7, fhk8, ghk9, hhk9, fhk9, hk10, ehk18]
    · have ghk9n := no_f ghk9
      rcases or_t ghk9n with ghk9na | ⟨ghk9na, ghk9nb⟩
      · have ghk9nan := no_t ghk9na
        try simp only [go_sem, n1, n2, n3, n4, hk2] at ghk9nan
        all_goals
        rcases it_some h with ⟨hk10, h⟩ | ⟨hk10, h⟩
        · try simp only [go_sem, n1, n2, n3, n4, hk2, ghk9nan] at hk10
          all_goals
          obtain rfl := so_some h
          refine ⟨0, fun L hL => ?_⟩
          simp only [go_sem, ir3, E_laws_FnSkies_l1, R_laws_FnSkies_l1, ir3_k0, ir3_o0, ir3_r0, fhk1, hk2, fhk3, fhk4, fhk5, fhk6, fhk7, fhk8, ghk9nan, hk10]
        · try simp only [go_sem, n1, n2, n3, n4, hk2, ghk9nan] at hk10
          all_goals
          obtain ⟨y_18, hk18, h⟩ := bd_some h
          obtain ⟨Lhk18, ehk18⟩ := laws_FnSkies_l1_ex hk18
          rcases y_18 with y_18a | y_18b
          · dsimp only at h
            obtain rfl := so_some h
            refine ⟨Lhk18, fun L hL => ?_⟩
            have ehk18 := ehk18 L (by omega)
            try simp only [go_sem, E_laws_FnSkies_l1, R_laws_FnSkies_l1, ir3_k0, ir3_o0, ir3_r0] at ehk18
            simp only [go_sem, ir3, E_laws_FnSkies_l1, R_laws_FnSkies_l1, ir3_k0, ir3_o0, ir3_r0, fhk1, hk2, fhk3, fhk4, fhk5, fhk6, fhk7, fhk8, ghk9nan, hk10, ehk18]
          · dsimp only at h
            obtain rfl := so_some h
            refine ⟨Lhk18, fun L hL => ?_⟩
            have ehk18 := ehk18 L (by omega)
            try simp only [go_sem, E_laws_FnSkies_l1, R_laws_FnSkies_l1, ir3_k0, ir3_o0, ir3_r0] at ehk18
            simp only [go_sem, ir3, E_laws_FnSkies_l1, R_laws_FnSkies_l1, ir3_k0, ir3_o0, ir3_r0, fhk1, hk2, fhk3, fhk4, fhk5, fhk6, fhk7, fhk8, ghk9nan, hk10, ehk18]
      · have ghk9nan := no_f ghk9na
        have ghk9nbn := no_t ghk9nb
        try simp only [go_sem, n1, n2, n3, n4, hk2] at ghk9nan
        all_goals
        try simp only [go_sem, n1, n2, n3, n4, hk2, ghk9nan] at ghk9nbn
        all_goals
        rcases it_some h with ⟨hk10, h⟩ | ⟨hk10, h⟩
        · try simp only [go_sem, n1, n2, n3, n4, hk2, ghk9nan, ghk9nbn] at hk10
          all_goals
          obtain rfl := so_some h
          refine ⟨0, fun L hL => ?_⟩
          simp only [go_sem, ir3, E_laws_FnSkies_l1, R_laws_FnSkies_l1, ir3_k0, ir3_o0, ir3_r0, fhk1, hk2, fhk3, fhk4, fhk5, fhk6, fhk7, fhk8, ghk9nan, ghk9nbn, hk10]
        · try simp only [go_sem, n1, n2, n3, n4, hk2, ghk9nan, ghk9nbn] at hk10
          all_goals
          obtain ⟨y_18, hk18, h⟩ := bd_some h
          obtain ⟨Lhk18, ehk18⟩ := laws_FnSkies_l1_ex hk18
          rcases y_18 with y_18a | y_18b
          · dsimp only at h
            obtain rfl := so_some h
            refine ⟨Lhk18, fun L hL => ?_⟩
            have ehk18 := ehk18 L (by omega)
            try simp only [go_sem, E_laws_FnSkies_l1, R_laws_FnSkies_l1, ir3_k0, ir3_o0, ir3_r0] at ehk18
            simp only [go_sem, ir3, E_laws_FnSkies_l1, R_laws_FnSkies_l1, ir3_k0, ir3_o0, ir3_r0, fhk1, hk2, fhk3, fhk4, fhk5, fhk6, fhk7, fhk8, ghk9nan, ghk9nbn, hk10, ehk18]
          · dsimp only at h
            obtain rfl := so_some h
            refine ⟨Lhk18, fun L hL => ?_⟩
            have ehk18 := ehk18 L (by omega)
            try simp only [go_sem, E_laws_FnSkies_l1, R_laws_FnSkies_l1, ir3_k0, ir3_o0, ir3_r0] at ehk18
            simp only [go_sem, ir3, E_laws_FnSkies_l1, R_laws_FnSkies_l1, ir3_k0, ir3_o0, ir3_r0, fhk1, hk2, fhk3, fhk4, fhk5, fhk6, fhk7, fhk8, ghk9nan, ghk9nbn, hk10, ehk18]


end Go.Proofs.Ytgbibhhblimfiaa
