/- Codes and contracts of the functions that C6 reaches, and that their typed forms say what they do. No condition. -/
import Derived.Test.YtgbibhhblimfiabR6T
import Derived.Test.YtgbibhhblimfiabRows
import Derived.WalkKit
namespace Go.Proofs.Ytgbibhhblimfiab
open Go Go.RowKit
set_option linter.unusedVariables false
set_option linter.unusedSimpArgs false
set_option maxRecDepth 10000

def ir7_v : List Nat := [0, 1, 4]
def ir7 : AFn := ⟨2, 3, .seq (.region false [
    ⟨.var 2, 4, none, .mov (.c (.bool false))⟩])
 (.seq (.region false [
    ⟨.push, 5, none, .mov (.v 0)⟩,
    ⟨.push, 6, none, .len false (.s 0)⟩,
    ⟨.push, 7, none, .bin false .gtr (.s 0) (.c (.int .i64 (3000)))⟩,
    ⟨.push, 8, none, .mov (.s 0)⟩,
    ⟨.push, 9, (some ((.s 0), false)), .mov (.v 1)⟩,
    ⟨.push, 10, (some ((.s 1), false)), .len false (.s 0)⟩,
    ⟨.push, 11, (some ((.s 2), false)), .bin false .gtr (.s 0) (.c (.int .i64 (3000)))⟩,
    ⟨.push, 12, none, .pick (.s 3) (.c (.bool true)) (.s 0)⟩,
    ⟨.var 2, 4, none, .mov (.s 0)⟩])
 (.ret)), [.t 2]⟩
noncomputable def t_laws_a2Long : List (Nat × Ctr) := []
noncomputable def c_laws_a2Long : Ctr := mkF t_laws_a2Long ir7 [.bor, .bor]
theorem s_laws_a2Long : Sound Try.prog 7 c_laws_a2Long := mkF_sound _ rfl snd_nil (by kernel_rfl : chkFn Try.prog 7 ir7 ir7_v = true)
theorem M_laws_a2Long : c_laws_a2Long.modes = [.bor, .bor] := rfl
theorem Fl_laws_a2Long : c_laws_a2Long.flat = true := rfl
attribute [go_sem] M_laws_a2Long Fl_laws_a2Long
theorem Fs_laws_a2Long {code : List UInt8} {more : List UInt8} {y_ : Bool} (h : laws_a2Long code more = some y_) : c_laws_a2Long.F [.sl 1 (List.map byteAV code), .sl 1 (List.map byteAV more)] = ⟨true, .bool y_, [.any, .any]⟩ := by
  refine mkF_E rfl ?_
  dsimp only [laws_a2Long] at h
  obtain rfl := so_some h
  refine ⟨0, fun L hL => ?_⟩
  simp only [go_sem, ir7]


def ir38_v : List Nat := [0, 2]
def ir38 : AFn := ⟨1, 2, .seq (.region false [
    ⟨.var 1, 2, none, .mov (.c (.cv (.pointer none)))⟩])
 (.seq (.region false [
    ⟨.push, 3, none, .mov (.v 0)⟩,
    ⟨.push, 4, none, .build [.sl 1 [], .int .i64 (0), .int .u64 (0)] [(0, 1, (.s 0))]⟩,
    ⟨.push, 5, none, .box (.s 0)⟩,
    ⟨.var 1, 2, none, .mov (.s 0)⟩])
 (.ret)), [.t 1]⟩
noncomputable def t_spec_l00From : List (Nat × Ctr) := []
noncomputable def c_spec_l00From : Ctr := mkN t_spec_l00From ir38 [.bor]
theorem s_spec_l00From : Sound Try.prog 38 c_spec_l00From := mkN_sound _ snd_nil (by kernel_rfl : chkFn Try.prog 38 ir38 ir38_v = true)
theorem M_spec_l00From : c_spec_l00From.modes = [.bor] := rfl
theorem Fl_spec_l00From : c_spec_l00From.flat = false := rfl
attribute [go_sem] M_spec_l00From Fl_spec_l00From
theorem Fs_spec_l00From {code : List UInt8} {y_ : L00Src} (h : spec_l00From code = some y_) : c_spec_l00From.F [.sl 1 (List.map byteAV code)] = ⟨true, .mem 3 [L00Src_av y_], [.any]⟩ := by
  refine mkN_E ?_
  dsimp only [spec_l00From] at h
  obtain rfl := so_some h
  refine ⟨0, fun L hL => ?_⟩
  simp only [go_sem, ir38]


def ir110_v : List Nat := [0, 2, 3]
def ir110 : AFn := ⟨1, 3, .seq (.region false [
    ⟨.var 1, 2, none, .mov (.c (.int .i64 (0)))⟩])
 (.seq (.region false [
    ⟨.var 2, 3, none, .mov (.c (.int .i64 (0)))⟩])
 (.seq (.anyo 10 [
    ⟨.slot 0, 4, none, .mov (.v 0)⟩,
    ⟨.slot 1, 5, none, .nilck (.s 0)⟩,
    ⟨.slot 2, 6, none, .fldAddr 1 (.s 1)⟩,
    ⟨.slot 3, 7, none, .load false 1 (.s 2)⟩,
    ⟨.slot 4, 8, none, .mov (.v 0)⟩,
    ⟨.slot 5, 9, none, .nilck (.s 4)⟩,
    ⟨.slot 6, 10, none, .fldAddr 0 (.s 5)⟩,
    ⟨.slot 7, 11, none, .load false 1 (.s 6)⟩,
    ⟨.slot 8, 12, none, .len false (.s 7)⟩,
    ⟨.slot 9, 13, none, .bin false .lss (.s 3) (.s 8)⟩] [] (.cond (.s 9)
  (.anyo 11 [
     ⟨.slot 0, 14, none, .mov (.v 0)⟩,
     ⟨.slot 1, 15, none, .nilck (.s 0)⟩,
     ⟨.slot 2, 16, none, .fldAddr 0 (.s 1)⟩,
     ⟨.slot 3, 17, none, .load false 1 (.s 2)⟩,
     ⟨.slot 4, 18, none, .mov (.v 0)⟩,
     ⟨.slot 5, 19, none, .nilck (.s 4)⟩,
     ⟨.slot 6, 20, none, .fldAddr 1 (.s 5)⟩,
     ⟨.slot 7, 21, none, .load false 1 (.s 6)⟩,
     ⟨.slot 8, 22, none, .ixAddr 1 (.s 3) (.s 7)⟩,
     ⟨.slot 9, 23, none, .load false 1 (.s 8)⟩,
     ⟨.slot 10, 24, none, .conv .i64 (.s 9)⟩,
     ⟨.var 2, 3, none, .mov (.s 10)⟩] [] .skip)
  (.skip)))
 (.seq (.region false [
    ⟨.push, 25, none, .mov (.v 0)⟩,
    ⟨.push, 26, none, .nilck (.s 0)⟩,
    ⟨.push, 27, none, .fldAddr 1 (.s 0)⟩,
    ⟨.push, 28, none, .load false 1 (.s 0)⟩,
    ⟨.push, 29, none, .bin false .add (.s 0) (.c (.int .i64 (1)))⟩,
    ⟨.push, 30, none, .nilck (.s 4)⟩,
    ⟨.push, 31, none, .fldAddr 1 (.s 0)⟩,
    ⟨.no, 0, none, .store 1 (.s 0) (.s 2)⟩])
 (.seq (.region false [
    ⟨.push, 32, none, .mov (.v 0)⟩,
    ⟨.push, 33, none, .mov (.v 0)⟩,
    ⟨.push, 34, none, .nilck (.s 0)⟩,
    ⟨.push, 35, none, .fldAddr 2 (.s 0)⟩,
    ⟨.push, 36, none, .load false 1 (.s 0)⟩,
    ⟨.push, 37, none, .bin false .mul (.s 0) (.c (.int .u64 (6364136223846793005)))⟩,
    ⟨.push, 38, none, .mov (.v 2)⟩,
    ⟨.push, 39, none, .conv .u64 (.s 0)⟩,
    ⟨.push, 40, none, .bin false .add (.s 2) (.s 0)⟩,
    ⟨.push, 41, none, .bin false .add (.s 0) (.c (.int .u64 (1442695040888963407)))⟩,
    ⟨.push, 42, none, .nilck (.s 9)⟩,
    ⟨.push, 43, none, .fldAddr 2 (.s 0)⟩,
    ⟨.no, 0, none, .store 1 (.s 0) (.s 2)⟩])
 (.seq (.anyo 10 [
    ⟨.slot 0, 44, none, .mov (.v 0)⟩,
    ⟨.slot 1, 45, none, .nilck (.s 0)⟩,
    ⟨.slot 2, 46, none, .fldAddr 1 (.s 1)⟩,
    ⟨.slot 3, 47, none, .load false 1 (.s 2)⟩,
    ⟨.slot 4, 48, none, .mov (.v 0)⟩,
    ⟨.slot 5, 49, none, .nilck (.s 4)⟩,
    ⟨.slot 6, 50, none, .fldAddr 0 (.s 5)⟩,
    ⟨.slot 7, 51, none, .load false 1 (.s 6)⟩,
    ⟨.slot 8, 52, none, .len false (.s 7)⟩,
    ⟨.slot 9, 53, none, .bin false .leq (.s 3) (.s 8)⟩] [] (.cond (.s 9)
  (.seq (.region false [
      ⟨.push, 54, none, .mov (.v 2)⟩,
      ⟨.var 1, 2, none, .mov (.s 0)⟩])
   (.ret))
  (.skip)))
 (.seq (.region false [
    ⟨.push, 55, none, .mov (.v 0)⟩,
    ⟨.push, 56, none, .nilck (.s 0)⟩,
    ⟨.push, 57, none, .fldAddr 2 (.s 0)⟩,
    ⟨.push, 58, none, .load false 1 (.s 0)⟩,
    ⟨.push, 59, none, .bin false .shr (.s 0) (.c (.int .u64 (40)))⟩,
    ⟨.push, 60, none, .bin false .and (.s 0) (.c (.int .u64 (255)))⟩,
    ⟨.push, 61, none, .conv .i64 (.s 0)⟩,
    ⟨.var 1, 2, none, .mov (.s 0)⟩])
 (.ret))))))), [.t 1]⟩
noncomputable def t_spec_l00Src_next : List (Nat × Ctr) := []
noncomputable def c_spec_l00Src_next : Ctr := mkN t_spec_l00Src_next ir110 [.io]
theorem s_spec_l00Src_next : Sound Try.prog 110 c_spec_l00Src_next := mkN_sound _ snd_nil (by kernel_rfl : chkFn Try.prog 110 ir110 ir110_v = true)
theorem M_spec_l00Src_next : c_spec_l00Src_next.modes = [.io] := rfl
theorem Fl_spec_l00Src_next : c_spec_l00Src_next.flat = false := rfl
attribute [go_sem] M_spec_l00Src_next Fl_spec_l00Src_next
theorem Fs_spec_l00Src_next {s_ : L00Src} {y_ : Int × L00Src} (h : spec_l00Src_next s_ = some y_) : c_spec_l00Src_next.F [.mem 3 [L00Src_av s_]] = ⟨true, .int .i64 y_.1, [.mem 3 [L00Src_av y_.2]]⟩ := by
  refine mkN_E ?_
  dsimp only [spec_l00Src_next] at h
  rcases it_some h with ⟨hk1, h⟩ | ⟨hk1, h⟩
  · try simp only [go_sem, n1, n2, n3, n4] at hk1
    all_goals
    obtain ⟨hk2, h⟩ := ck_some h
    have lhk2 := ix_lt hk2
    have xhk2 := getD_mapD byteAV s_.code_ lhk2
    try simp only [go_sem] at lhk2
    try simp only [go_sem] at xhk2
    try simp only [go_sem, n1, n2, n3, n4, hk1] at hk2
    all_goals
    rcases it_some h with ⟨hk3, h⟩ | ⟨hk3, h⟩
    · try simp only [go_sem, n1, n2, n3, n4, hk1, hk2] at hk3
      all_goals
      obtain rfl := so_some h
      refine ⟨0, fun L hL => ?_⟩
      simp only [go_sem, ir110, hk1, hk2, lhk2, xhk2, hk3]
    · try simp only [go_sem, n1, n2, n3, n4, hk1, hk2] at hk3
      all_goals
      obtain ⟨hk4, h⟩ := ck_some h
      try simp only [go_sem, n1, n2, n3, n4, hk1, hk2, hk3] at hk4
      all_goals
      obtain rfl := so_some h
      refine ⟨0, fun L hL => ?_⟩
      simp only [go_sem, ir110, hk1, hk2, lhk2, xhk2, hk3, hk4]
  · try simp only [go_sem, n1, n2, n3, n4] at hk1
    all_goals
    rcases it_some h with ⟨hk5, h⟩ | ⟨hk5, h⟩
    · try simp only [go_sem, n1, n2, n3, n4, hk1] at hk5
      all_goals
      obtain rfl := so_some h
      refine ⟨0, fun L hL => ?_⟩
      simp only [go_sem, ir110, hk1, hk5]
    · try simp only [go_sem, n1, n2, n3, n4, hk1] at hk5
      all_goals
      obtain ⟨hk6, h⟩ := ck_some h
      try simp only [go_sem, n1, n2, n3, n4, hk1, hk5] at hk6
      all_goals
      obtain rfl := so_some h
      refine ⟨0, fun L hL => ?_⟩
      simp only [go_sem, ir110, hk1, hk5, hk6]


def ir75_v : List Nat := [0, 1, 4, 5]
def ir75 : AFn := ⟨2, 4, .seq (.region false [
    ⟨.var 2, 4, none, .mov (.c (.int .i64 (0)))⟩])
 (.seq (.test false [
    ⟨.push, 6, none, .mov (.v 1)⟩,
    ⟨.push, 7, none, .bin false .leq (.s 0) (.c (.int .i64 (1)))⟩] (.s 0)
  (.seq (.region false [
      ⟨.var 2, 4, none, .mov (.c (.int .i64 (0)))⟩])
   (.ret))
  (.skip))
 (.seq (.region false [
    ⟨.push, 8, none, .mov (.v 0)⟩,
    ⟨.push, 9, none, .call 110 [(.s 0)]⟩,
    ⟨.var 3, 5, none, .mov (.s 0)⟩])
 (.seq (.test false [
    ⟨.push, 10, none, .mov (.v 1)⟩,
    ⟨.push, 11, none, .bin false .gtr (.s 0) (.c (.int .i64 (200)))⟩] (.s 0)
  (.region false [
     ⟨.push, 12, none, .mov (.v 3)⟩,
     ⟨.push, 13, none, .bin false .mul (.s 0) (.c (.int .i64 (256)))⟩,
     ⟨.push, 14, none, .mov (.v 0)⟩,
     ⟨.push, 15, none, .call 110 [(.s 0)]⟩,
     ⟨.push, 16, none, .bin false .add (.s 2) (.s 0)⟩,
     ⟨.var 3, 5, none, .mov (.s 0)⟩])
  (.skip))
 (.seq (.region false [
    ⟨.push, 17, none, .mov (.v 3)⟩,
    ⟨.push, 18, none, .mov (.v 1)⟩,
    ⟨.push, 19, none, .bin false .rem (.s 1) (.s 0)⟩,
    ⟨.var 2, 4, none, .mov (.s 0)⟩])
 (.ret))))), [.t 2]⟩
noncomputable def t_spec_l00Src_pick : List (Nat × Ctr) := [(110, c_spec_l00Src_next)]
theorem lk_spec_l00Src_pick_110 : look t_spec_l00Src_pick 110 = some c_spec_l00Src_next := rfl
noncomputable def c_spec_l00Src_pick : Ctr := mkN t_spec_l00Src_pick ir75 [.io, .bor]
theorem s_spec_l00Src_pick : Sound Try.prog 75 c_spec_l00Src_pick := mkN_sound _ (snd_cons s_spec_l00Src_next snd_nil) (by kernel_rfl : chkFn Try.prog 75 ir75 ir75_v = true)
theorem M_spec_l00Src_pick : c_spec_l00Src_pick.modes = [.io, .bor] := rfl
theorem Fl_spec_l00Src_pick : c_spec_l00Src_pick.flat = false := rfl
attribute [go_sem] M_spec_l00Src_pick Fl_spec_l00Src_pick
attribute [go_sem] lk_spec_l00Src_pick_110
theorem Fs_spec_l00Src_pick {s_ : L00Src} {n : Int} {y_ : Int × L00Src} (h : spec_l00Src_pick s_ n = some y_) : c_spec_l00Src_pick.F [.mem 3 [L00Src_av s_], .int .i64 n] = ⟨true, .int .i64 y_.1, [.mem 3 [L00Src_av y_.2], .any]⟩ := by
  refine mkN_E ?_
  dsimp only [spec_l00Src_pick] at h
  rcases it_some h with ⟨hk1, h⟩ | ⟨hk1, h⟩
  · try simp only [go_sem, n1, n2, n3, n4] at hk1
    all_goals
    obtain rfl := so_some h
    refine ⟨0, fun L hL => ?_⟩
    simp only [go_sem, ir75, hk1]
  · try simp only [go_sem, n1, n2, n3, n4] at hk1
    all_goals
    obtain ⟨y_2, hk2, h⟩ := bd_some h
    have fhk2 := Fs_spec_l00Src_next hk2
    try simp only [go_sem, hk1] at fhk2
    rcases it_some h with ⟨hk3, h⟩ | ⟨hk3, h⟩
    · try simp only [go_sem, n1, n2, n3, n4, hk1] at hk3
      all_goals
      obtain ⟨y_4, hk4, h⟩ := bd_some h
      have fhk4 := Fs_spec_l00Src_next hk4
      try simp only [go_sem, hk1, hk3] at fhk4
      obtain ⟨hk5, h⟩ := ck_some h
      try simp only [go_sem, n1, n2, n3, n4, hk1, hk3] at hk5
      all_goals
      obtain rfl := so_some h
      refine ⟨0, fun L hL => ?_⟩
      simp only [go_sem, ir75, hk1, fhk2, hk3, fhk4, hk5]
    · try simp only [go_sem, n1, n2, n3, n4, hk1] at hk3
      all_goals
      obtain ⟨hk6, h⟩ := ck_some h
      try simp only [go_sem, n1, n2, n3, n4, hk1, hk3] at hk6
      all_goals
      obtain rfl := so_some h
      refine ⟨0, fun L hL => ?_⟩
      simp only [go_sem, ir75, hk1, fhk2, hk3, hk6]


def ir111_v : List Nat := [0, 1, 4]
def ir111 : AFn := ⟨2, 3, .seq (.region false [
    ⟨.var 2, 4, none, .mov (.c (.bool false))⟩])
 (.seq (.region false [
    ⟨.push, 5, none, .mov (.v 0)⟩,
    ⟨.push, 6, none, .mov (.v 1)⟩,
    ⟨.push, 7, none, .call 75 [(.s 1), (.s 0)]⟩,
    ⟨.push, 8, none, .bin false .eql (.s 0) (.c (.int .i64 (0)))⟩,
    ⟨.var 2, 4, none, .mov (.s 0)⟩])
 (.ret)), [.t 2]⟩
noncomputable def t_spec_l00Src_one : List (Nat × Ctr) := [(75, c_spec_l00Src_pick)]
theorem lk_spec_l00Src_one_75 : look t_spec_l00Src_one 75 = some c_spec_l00Src_pick := rfl
noncomputable def c_spec_l00Src_one : Ctr := mkN t_spec_l00Src_one ir111 [.io, .bor]
theorem s_spec_l00Src_one : Sound Try.prog 111 c_spec_l00Src_one := mkN_sound _ (snd_cons s_spec_l00Src_pick snd_nil) (by kernel_rfl : chkFn Try.prog 111 ir111 ir111_v = true)
theorem M_spec_l00Src_one : c_spec_l00Src_one.modes = [.io, .bor] := rfl
theorem Fl_spec_l00Src_one : c_spec_l00Src_one.flat = false := rfl
attribute [go_sem] M_spec_l00Src_one Fl_spec_l00Src_one
attribute [go_sem] lk_spec_l00Src_one_75
theorem Fs_spec_l00Src_one {s_ : L00Src} {n : Int} {y_ : Bool × L00Src} (h : spec_l00Src_one s_ n = some y_) : c_spec_l00Src_one.F [.mem 3 [L00Src_av s_], .int .i64 n] = ⟨true, .bool y_.1, [.mem 3 [L00Src_av y_.2], .any]⟩ := by
  refine mkN_E ?_
  dsimp only [spec_l00Src_one] at h
  obtain ⟨y_1, hk1, h⟩ := bd_some h
  have fhk1 := Fs_spec_l00Src_pick hk1
  try simp only [go_sem] at fhk1
  obtain rfl := so_some h
  refine ⟨0, fun L hL => ?_⟩
  simp only [go_sem, ir111, fhk1]


def ir112_v : List Nat := [0, 1, 4]
def ir112 : AFn := ⟨2, 3, .seq (.region false [
    ⟨.var 2, 4, none, .mov (.c (.str []))⟩])
 (.seq (.region false [
    ⟨.push, 5, none, .mov (.v 1)⟩,
    ⟨.push, 6, none, .mov (.v 0)⟩,
    ⟨.push, 7, none, .mov (.v 1)⟩,
    ⟨.push, 8, none, .len false (.s 0)⟩,
    ⟨.push, 9, none, .call 75 [(.s 2), (.s 0)]⟩,
    ⟨.push, 10, none, .ixAddr 1 (.s 4) (.s 0)⟩,
    ⟨.push, 11, none, .load false 1 (.s 0)⟩,
    ⟨.var 2, 4, none, .mov (.s 0)⟩])
 (.ret)), [.t 2]⟩
noncomputable def t_spec_l00Src_text : List (Nat × Ctr) := [(75, c_spec_l00Src_pick)]
theorem lk_spec_l00Src_text_75 : look t_spec_l00Src_text 75 = some c_spec_l00Src_pick := rfl
noncomputable def c_spec_l00Src_text : Ctr := mkN t_spec_l00Src_text ir112 [.io, .bor]
theorem s_spec_l00Src_text : Sound Try.prog 112 c_spec_l00Src_text := mkN_sound _ (snd_cons s_spec_l00Src_pick snd_nil) (by kernel_rfl : chkFn Try.prog 112 ir112 ir112_v = true)
theorem M_spec_l00Src_text : c_spec_l00Src_text.modes = [.io, .bor] := rfl
theorem Fl_spec_l00Src_text : c_spec_l00Src_text.flat = false := rfl
attribute [go_sem] M_spec_l00Src_text Fl_spec_l00Src_text
attribute [go_sem] lk_spec_l00Src_text_75
theorem Fs_spec_l00Src_text {s_ : L00Src} {list : List (List UInt8)} {y_ : (List UInt8) × L00Src} (h : spec_l00Src_text s_ list = some y_) : c_spec_l00Src_text.F [.mem 3 [L00Src_av s_], .sl 1 (List.map AV.str list)] = ⟨true, .str y_.1, [.mem 3 [L00Src_av y_.2], .any]⟩ := by
  refine mkN_E ?_
  dsimp only [spec_l00Src_text] at h
  obtain ⟨y_1, hk1, h⟩ := bd_some h
  have fhk1 := Fs_spec_l00Src_pick hk1
  try simp only [go_sem] at fhk1
  obtain ⟨hk2, h⟩ := ck_some h
  have lhk2 := ix_lt hk2
  have xhk2 := getD_mapD AV.str list lhk2
  try simp only [go_sem] at lhk2
  try simp only [go_sem] at xhk2
  try simp only [go_sem, n1, n2, n3, n4] at hk2
  all_goals
  obtain rfl := so_some h
  refine ⟨0, fun L hL => ?_⟩
  simp only [go_sem, ir112, fhk1, hk2, lhk2, xhk2]


def ir76_v : List Nat := [0, 2, 3]
def ir76 : AFn := ⟨1, 3, .seq (.region false [
    ⟨.var 1, 2, none, .alloc (.agg [.int .i64 (0), .str [], .str [], .int .i64 (0), .bool false])⟩])
 (.seq (.region false [
    ⟨.push, 4, none, .mov (.v 0)⟩,
    ⟨.push, 5, none, .call 75 [(.s 0), (.c (.int .i64 (30)))]⟩,
    ⟨.push, 6, none, .bin false .mul (.c (.int .i64 (1000))) (.s 0)⟩,
    ⟨.push, 7, none, .build [.int .i64 (0), .str [], .str [], .int .i64 (0), .bool false] [(0, 1, (.s 0))]⟩,
    ⟨.var 2, 3, none, .alloc (.agg [.int .i64 (0), .str [], .str [], .int .i64 (0), .bool false])⟩,
    ⟨.no, 0, none, .store 5 (.v 2) (.s 0)⟩])
 (.seq (.test false [
    ⟨.push, 8, none, .mov (.v 0)⟩,
    ⟨.push, 9, none, .call 111 [(.s 0), (.c (.int .i64 (2)))]⟩] (.s 0)
  (.anyo 6 [
     ⟨.slot 0, 10, none, .fldAddr 0 (.v 2)⟩,
     ⟨.slot 1, 11, none, .load false 1 (.s 0)⟩,
     ⟨.slot 2, 12, none, .mov (.v 0)⟩,
     ⟨.slot 3, 13, none, .call 75 [(.s 2), (.c (.int .i64 (3000)))]⟩,
     ⟨.slot 4, 14, none, .bin false .add (.s 1) (.s 3)⟩,
     ⟨.slot 5, 15, none, .fldAddr 0 (.v 2)⟩,
     ⟨.no, 0, none, .store 1 (.s 5) (.s 4)⟩] [[2, 0, 1, 3, 4, 5, 6], [2, 0, 3, 1, 4, 5, 6], [2, 3, 0, 1, 4, 5, 6]] .skip)
  (.skip))
 (.seq (.region false [
    ⟨.push, 16, none, .mov (.v 0)⟩,
    ⟨.push, 17, none, .mkSl 1 (.str []) 3 [(0, (.c (.str [109, 105, 114, 97]))), (1, (.c (.str [114, 114, 45, 108, 121, 114]))), (2, (.c (.str [115, 115, 45, 99, 121, 103])))]⟩,
    ⟨.push, 18, none, .call 112 [(.s 1), (.s 0)]⟩,
    ⟨.push, 19, none, .fldAddr 1 (.v 2)⟩,
    ⟨.no, 0, none, .store 1 (.s 0) (.s 1)⟩])
 (.seq (.region false [
    ⟨.push, 20, none, .mov (.v 0)⟩,
    ⟨.push, 21, none, .mkSl 1 (.str []) 3 [(0, (.c (.str [97, 98]))), (1, (.c (.str [99, 100]))), (2, (.c (.str [101])))]⟩,
    ⟨.push, 22, none, .call 112 [(.s 1), (.s 0)]⟩,
    ⟨.push, 23, none, .fldAddr 2 (.v 2)⟩,
    ⟨.no, 0, none, .store 1 (.s 0) (.s 1)⟩])
 (.seq (.region false [
    ⟨.push, 24, none, .mov (.v 0)⟩,
    ⟨.push, 25, none, .call 75 [(.s 0), (.c (.int .i64 (60)))]⟩,
    ⟨.push, 26, none, .bin false .mul (.c (.int .i64 (50))) (.s 0)⟩,
    ⟨.push, 27, none, .bin false .add (.c (.int .i64 (8000))) (.s 0)⟩,
    ⟨.push, 28, none, .fldAddr 3 (.v 2)⟩,
    ⟨.no, 0, none, .store 1 (.s 0) (.s 1)⟩])
 (.seq (.region false [
    ⟨.push, 29, none, .mov (.v 0)⟩,
    ⟨.push, 30, none, .call 111 [(.s 0), (.c (.int .i64 (5)))]⟩,
    ⟨.push, 31, none, .fldAddr 4 (.v 2)⟩,
    ⟨.no, 0, none, .store 1 (.s 0) (.s 1)⟩])
 (.seq (.region false [
    ⟨.push, 32, none, .load true 5 (.v 2)⟩,
    ⟨.no, 0, none, .store 5 (.v 1) (.s 0)⟩])
 (.ret)))))))), [.cell true 5 1]⟩
noncomputable def t_spec_l06New : List (Nat × Ctr) := [(75, c_spec_l00Src_pick), (111, c_spec_l00Src_one), (112, c_spec_l00Src_text)]
theorem lk_spec_l06New_75 : look t_spec_l06New 75 = some c_spec_l00Src_pick := rfl
theorem lk_spec_l06New_111 : look t_spec_l06New 111 = some c_spec_l00Src_one := rfl
theorem lk_spec_l06New_112 : look t_spec_l06New 112 = some c_spec_l00Src_text := rfl
noncomputable def c_spec_l06New : Ctr := mkN t_spec_l06New ir76 [.io]
theorem s_spec_l06New : Sound Try.prog 76 c_spec_l06New := mkN_sound _ (snd_cons s_spec_l00Src_pick (snd_cons s_spec_l00Src_one (snd_cons s_spec_l00Src_text snd_nil))) (by kernel_rfl : chkFn Try.prog 76 ir76 ir76_v = true)
theorem M_spec_l06New : c_spec_l06New.modes = [.io] := rfl
theorem Fl_spec_l06New : c_spec_l06New.flat = false := rfl
attribute [go_sem] M_spec_l06New Fl_spec_l06New
attribute [go_sem] lk_spec_l06New_75 lk_spec_l06New_111 lk_spec_l06New_112
theorem Fs_spec_l06New {s_ : L00Src} {y_ : Estimate × L00Src} (h : spec_l06New s_ = some y_) : c_spec_l06New.F [.mem 3 [L00Src_av s_]] = ⟨true, Estimate_av y_.1, [.mem 3 [L00Src_av y_.2]]⟩ := by
  refine mkN_E ?_
  dsimp only [spec_l06New] at h
  obtain ⟨y_1, hk1, h⟩ := bd_some h
  have fhk1 := Fs_spec_l00Src_pick hk1
  try simp only [go_sem] at fhk1
  obtain ⟨y_2, hk2, h⟩ := bd_some h
  have fhk2 := Fs_spec_l00Src_one hk2
  try simp only [go_sem] at fhk2
  rcases it_some h with ⟨hk3, h⟩ | ⟨hk3, h⟩
  · try simp only [go_sem, n1, n2, n3, n4] at hk3
    all_goals
    obtain ⟨y_4, hk4, h⟩ := bd_some h
    have fhk4 := Fs_spec_l00Src_pick hk4
    try simp only [go_sem, hk3] at fhk4
    obtain ⟨y_5, hk5, h⟩ := bd_some h
    have fhk5 := Fs_spec_l00Src_text hk5
    try simp only [go_sem, hk3] at fhk5
    obtain ⟨y_6, hk6, h⟩ := bd_some h
    have fhk6 := Fs_spec_l00Src_text hk6
    try simp only [go_sem, hk3] at fhk6
    obtain ⟨y_7, hk7, h⟩ := bd_some h
    have fhk7 := Fs_spec_l00Src_pick hk7
    try simp only [go_sem, hk3] at fhk7
    obtain ⟨y_8, hk8, h⟩ := bd_some h
    have fhk8 := Fs_spec_l00Src_one hk8
    try simp only [go_sem, hk3] at fhk8
    obtain rfl := so_some h
    refine ⟨0, fun L hL => ?_⟩
    simp only [go_sem, ir76, fhk1, fhk2, hk3, fhk4, fhk5, fhk6, fhk7, fhk8]
  · try simp only [go_sem, n1, n2, n3, n4] at hk3
    all_goals
    obtain ⟨y_9, hk9, h⟩ := bd_some h
    have fhk9 := Fs_spec_l00Src_text hk9
    try simp only [go_sem, hk3] at fhk9
    obtain ⟨y_10, hk10, h⟩ := bd_some h
    have fhk10 := Fs_spec_l00Src_text hk10
    try simp only [go_sem, hk3] at fhk10
    obtain ⟨y_11, hk11, h⟩ := bd_some h
    have fhk11 := Fs_spec_l00Src_pick hk11
    try simp only [go_sem, hk3] at fhk11
    obtain ⟨y_12, hk12, h⟩ := bd_some h
    have fhk12 := Fs_spec_l00Src_one hk12
    try simp only [go_sem, hk3] at fhk12
    obtain rfl := so_some h
    refine ⟨0, fun L hL => ?_⟩
    simp only [go_sem, ir76, fhk1, fhk2, hk3, fhk9, fhk10, fhk11, fhk12]


def ir87_v : List Nat := [0, 1, 4]
def ir87 : AFn := ⟨2, 3, .seq (.region false [
    ⟨.var 2, 4, none, .mov (.c (.bool false))⟩])
 (.seq (.anyo 9 [
    ⟨.slot 0, 5, none, .mov (.v 0)⟩,
    ⟨.slot 1, 6, none, .nilck (.s 0)⟩,
    ⟨.slot 2, 7, none, .fldAddr 0 (.s 1)⟩,
    ⟨.slot 3, 8, none, .load false 1 (.s 2)⟩,
    ⟨.slot 4, 9, none, .mov (.v 1)⟩,
    ⟨.slot 5, 10, none, .nilck (.s 4)⟩,
    ⟨.slot 6, 11, none, .fldAddr 0 (.s 5)⟩,
    ⟨.slot 7, 12, none, .load false 1 (.s 6)⟩,
    ⟨.slot 8, 13, none, .bin false .neq (.s 3) (.s 7)⟩] [] (.cond (.s 8)
  (.seq (.anyo 9 [
      ⟨.slot 0, 14, none, .mov (.v 0)⟩,
      ⟨.slot 1, 15, none, .nilck (.s 0)⟩,
      ⟨.slot 2, 16, none, .fldAddr 0 (.s 1)⟩,
      ⟨.slot 3, 17, none, .load false 1 (.s 2)⟩,
      ⟨.slot 4, 18, none, .mov (.v 1)⟩,
      ⟨.slot 5, 19, none, .nilck (.s 4)⟩,
      ⟨.slot 6, 20, none, .fldAddr 0 (.s 5)⟩,
      ⟨.slot 7, 21, none, .load false 1 (.s 6)⟩,
      ⟨.slot 8, 22, none, .bin false .lss (.s 3) (.s 7)⟩,
      ⟨.var 2, 4, none, .mov (.s 8)⟩] [] .skip)
   (.ret))
  (.skip)))
 (.seq (.anyo 9 [
    ⟨.slot 0, 23, none, .mov (.v 0)⟩,
    ⟨.slot 1, 24, none, .nilck (.s 0)⟩,
    ⟨.slot 2, 25, none, .fldAddr 1 (.s 1)⟩,
    ⟨.slot 3, 26, none, .load false 1 (.s 2)⟩,
    ⟨.slot 4, 27, none, .mov (.v 1)⟩,
    ⟨.slot 5, 28, none, .nilck (.s 4)⟩,
    ⟨.slot 6, 29, none, .fldAddr 1 (.s 5)⟩,
    ⟨.slot 7, 30, none, .load false 1 (.s 6)⟩,
    ⟨.slot 8, 31, none, .bin false .neq (.s 3) (.s 7)⟩] [] (.cond (.s 8)
  (.seq (.anyo 9 [
      ⟨.slot 0, 32, none, .mov (.v 0)⟩,
      ⟨.slot 1, 33, none, .nilck (.s 0)⟩,
      ⟨.slot 2, 34, none, .fldAddr 1 (.s 1)⟩,
      ⟨.slot 3, 35, none, .load false 1 (.s 2)⟩,
      ⟨.slot 4, 36, none, .mov (.v 1)⟩,
      ⟨.slot 5, 37, none, .nilck (.s 4)⟩,
      ⟨.slot 6, 38, none, .fldAddr 1 (.s 5)⟩,
      ⟨.slot 7, 39, none, .load false 1 (.s 6)⟩,
      ⟨.slot 8, 40, none, .bin false .lss (.s 3) (.s 7)⟩,
      ⟨.var 2, 4, none, .mov (.s 8)⟩] [] .skip)
   (.ret))
  (.skip)))
 (.seq (.anyo 9 [
    ⟨.slot 0, 41, none, .mov (.v 0)⟩,
    ⟨.slot 1, 42, none, .nilck (.s 0)⟩,
    ⟨.slot 2, 43, none, .fldAddr 2 (.s 1)⟩,
    ⟨.slot 3, 44, none, .load false 1 (.s 2)⟩,
    ⟨.slot 4, 45, none, .mov (.v 1)⟩,
    ⟨.slot 5, 46, none, .nilck (.s 4)⟩,
    ⟨.slot 6, 47, none, .fldAddr 2 (.s 5)⟩,
    ⟨.slot 7, 48, none, .load false 1 (.s 6)⟩,
    ⟨.slot 8, 49, none, .bin false .lss (.s 3) (.s 7)⟩,
    ⟨.var 2, 4, none, .mov (.s 8)⟩] [] .skip)
 (.ret)))), [.t 2]⟩
noncomputable def t_spec_l06Before : List (Nat × Ctr) := []
noncomputable def c_spec_l06Before : Ctr := mkF t_spec_l06Before ir87 [.bor, .bor]
theorem s_spec_l06Before : Sound Try.prog 87 c_spec_l06Before := mkF_sound _ rfl snd_nil (by kernel_rfl : chkFn Try.prog 87 ir87 ir87_v = true)
theorem M_spec_l06Before : c_spec_l06Before.modes = [.bor, .bor] := rfl
theorem Fl_spec_l06Before : c_spec_l06Before.flat = true := rfl
attribute [go_sem] M_spec_l06Before Fl_spec_l06Before
theorem Fs_spec_l06Before {a : Estimate} {b : Estimate} {y_ : Bool} (h : spec_l06Before a b = some y_) : c_spec_l06Before.F [.ptr 5 [Estimate_av a] 0 0, .ptr 5 [Estimate_av b] 0 0] = ⟨true, .bool y_, [.any, .any]⟩ := by
  refine mkF_E rfl ?_
  dsimp only [spec_l06Before] at h
  rcases it_some h with ⟨hk1, h⟩ | ⟨hk1, h⟩
  · try simp only [go_sem, n1, n2, n3, n4] at hk1
    all_goals
    obtain rfl := so_some h
    refine ⟨0, fun L hL => ?_⟩
    simp only [go_sem, ir87, hk1]
  · try simp only [go_sem, n1, n2, n3, n4] at hk1
    all_goals
    rcases it_some h with ⟨hk2, h⟩ | ⟨hk2, h⟩
    · try simp only [go_sem, n1, n2, n3, n4, hk1] at hk2
      all_goals
      obtain rfl := so_some h
      refine ⟨0, fun L hL => ?_⟩
      simp only [go_sem, ir87, hk1, hk2]
    · try simp only [go_sem, n1, n2, n3, n4, hk1] at hk2
      all_goals
      obtain rfl := so_some h
      refine ⟨0, fun L hL => ?_⟩
      simp only [go_sem, ir87, hk1, hk2]


def ir77_b0 : IR := .seq (.test false [
    ⟨.push, 6, none, .mov (.v 3)⟩,
    ⟨.push, 7, none, .mov (.v 0)⟩,
    ⟨.push, 8, none, .len false (.s 0)⟩,
    ⟨.push, 9, none, .bin false .lss (.s 2) (.s 0)⟩] (.s 0)
  (.skip)
  (.exit 0))
 (.seq (.block 1 (.test false [
     ⟨.push, 12, none, .mov (.v 0)⟩,
     ⟨.push, 13, none, .mov (.v 3)⟩,
     ⟨.push, 14, none, .ixAddr 5 (.s 1) (.s 0)⟩,
     ⟨.push, 15, none, .mov (.v 1)⟩,
     ⟨.push, 16, none, .call 87 [(.s 1), (.s 0)]⟩,
     ⟨.push, 17, none, .un .not (.s 0)⟩,
     ⟨.push, 18, none, .mov (.s 0)⟩,
     ⟨.push, 19, (some ((.s 0), true)), .mov (.v 1)⟩,
     ⟨.push, 20, (some ((.s 1), true)), .mov (.v 0)⟩,
     ⟨.push, 21, (some ((.s 2), true)), .mov (.v 3)⟩,
     ⟨.push, 22, (some ((.s 3), true)), .ixAddr 5 (.s 1) (.s 0)⟩,
     ⟨.push, 23, (some ((.s 4), true)), .call 87 [(.s 3), (.s 0)]⟩,
     ⟨.push, 24, (some ((.s 5), true)), .un .not (.s 0)⟩,
     ⟨.push, 25, none, .pick (.s 6) (.s 0) (.c (.bool false))⟩] (.s 0)
   (.seq (.region false [
       ⟨.push, 26, none, .mov (.v 3)⟩,
       ⟨.var 2, 4, none, .mov (.s 0)⟩])
    (.ret))
   (.skip)))
 (.region false [
   ⟨.push, 10, none, .mov (.v 3)⟩,
   ⟨.push, 11, none, .bin false .add (.s 0) (.c (.int .i64 (1)))⟩,
   ⟨.var 3, 5, none, .mov (.s 0)⟩]))
def ir77_k0 : List Bool := [true, true, false, true]
def ir77_o0 : List Bool := [false, false, false, false]
def ir77_r0 : List Bool := [false, false, true, false]
def ir77_v : List Nat := [0, 1, 4, 5]
def ir77 : AFn := ⟨2, 4, .seq (.region false [
    ⟨.var 2, 4, none, .mov (.c (.int .i64 (0)))⟩])
 (.seq (.seq (.region false [
     ⟨.var 3, 5, none, .mov (.c (.int .i64 (0)))⟩])
  (.block 0 (.loop ir77_k0 ir77_o0 ir77_r0 ir77_b0)))
 (.seq (.region false [
    ⟨.var 2, 4, none, .mov (.c (.int .i64 (-1)))⟩])
 (.ret))), [.t 2]⟩
noncomputable def t_spec_l06Find : List (Nat × Ctr) := [(87, c_spec_l06Before)]
theorem lk_spec_l06Find_87 : look t_spec_l06Find 87 = some c_spec_l06Before := rfl
noncomputable def c_spec_l06Find : Ctr := mkF t_spec_l06Find ir77 [.bor, .bor]
theorem s_spec_l06Find : Sound Try.prog 77 c_spec_l06Find := mkF_sound _ rfl (snd_cons s_spec_l06Before snd_nil) (by kernel_rfl : chkFn Try.prog 77 ir77 ir77_v = true)
theorem M_spec_l06Find : c_spec_l06Find.modes = [.bor, .bor] := rfl
theorem Fl_spec_l06Find : c_spec_l06Find.flat = true := rfl
attribute [go_sem] M_spec_l06Find Fl_spec_l06Find
attribute [go_sem] lk_spec_l06Find_87
def E_spec_l06Find_l1 (list : List Estimate) (e_ : Estimate) : Int → St
  | i => ⟨[.sl 5 (List.map Estimate_av list), .ptr 5 [Estimate_av e_] 0 0, .any, .int .i64 i], [], [], true⟩
def R_spec_l06Find_l1 (list : List Estimate) (e_ : Estimate) : (Unit ⊕ Int) → Res
  | .inl y => (.exit 0, ⟨[.any, .any, .any, .any], [], [], true⟩)
  | .inr y => (.ret, ⟨[.any, .any, .int .i64 y, .any], [], [], true⟩)
theorem spec_l06Find_l1_ex {list : List Estimate} {e_ : Estimate} {sgm_ : Int} {rho_ : Unit ⊕ Int} (h : whileE (spec_l06Find_l1 list e_) sgm_ = some rho_) : ∃ L0, ∀ L, L0 ≤ L → iter (exec (look t_spec_l06Find) L ir77_b0) ir77_k0 ir77_o0 ir77_r0 L (E_spec_l06Find_l1 list e_ sgm_) = R_spec_l06Find_l1 list e_ rho_ := by
  refine loop_ex (E := E_spec_l06Find_l1 list e_) (R := R_spec_l06Find_l1 list e_) (fun y => by first | (intro c; cases c) | (rcases y with y | y <;> (intro c; cases c)) | (rcases y with y | y | y <;> (intro c; cases c))) ?_ h
  clear h
  intro i o_ h
  dsimp only [spec_l06Find_l1] at h
  rcases it_some h with ⟨hk1, h⟩ | ⟨hk1, h⟩
  · try simp only [go_sem, n1, n2, n3, n4] at hk1
    all_goals
    obtain ⟨hk2, h⟩ := ck_some h
    have lhk2 := ix_lt hk2
    have xhk2 := getD_mapD Estimate_av list lhk2
    try simp only [go_sem] at lhk2
    try simp only [go_sem] at xhk2
    try simp only [go_sem, n1, n2, n3, n4, hk1] at hk2
    all_goals
    obtain ⟨y_3, hk3, h⟩ := bd_some h
    have fhk3 := Fs_spec_l06Before hk3
    try simp only [go_sem, hk1, hk2] at fhk3
    obtain ⟨hk4, h⟩ := ck_some h
    rcases or_split hk4 with ⟨ghk4, hk4⟩ | ghk4
    · try simp only [go_sem, n1, n2, n3, n4, hk1, hk2] at ghk4
      all_goals
      obtain ⟨y_4, hhk4⟩ := Option.isSome_iff_exists.1 hk4
      have fhk4 := Fs_spec_l06Before hhk4
      try simp only [go_sem, hk1, hk2, ghk4] at fhk4
      rcases it_some h with ⟨hk5, h⟩ | ⟨hk5, h⟩
      · try simp only [go_sem, n1, n2, n3, n4, hk1, hk2, ghk4, hhk4] at hk5
        all_goals
        obtain rfl := so_some h
        refine ⟨0, fun L hL => ?_⟩
        simp only [go_sem, ir77, E_spec_l06Find_l1, R_spec_l06Find_l1, ir77_b0, ir77_k0, ir77_o0, ir77_r0, hk1, hk2, lhk2, xhk2, fhk3, ghk4, hhk4, fhk4, hk5]
      · try simp only [go_sem, n1, n2, n3, n4, hk1, hk2, ghk4, hhk4] at hk5
        all_goals
        obtain rfl := so_some h
        refine ⟨0, fun L hL => ?_⟩
        simp only [go_sem, ir77, E_spec_l06Find_l1, R_spec_l06Find_l1, ir77_b0, ir77_k0, ir77_o0, ir77_r0, hk1, hk2, lhk2, xhk2, fhk3, ghk4, hhk4, fhk4, hk5]
    · have ghk4n := no_f ghk4
      try simp only [go_sem, n1, n2, n3, n4, hk1, hk2] at ghk4n
      all_goals
      rcases it_some h with ⟨hk5, h⟩ | ⟨hk5, h⟩
      · try simp only [go_sem, n1, n2, n3, n4, hk1, hk2, ghk4n] at hk5
        all_goals
        obtain rfl := so_some h
        refine ⟨0, fun L hL => ?_⟩
        simp only [go_sem, ir77, E_spec_l06Find_l1, R_spec_l06Find_l1, ir77_b0, ir77_k0, ir77_o0, ir77_r0, hk1, hk2, lhk2, xhk2, fhk3, ghk4n, hk5]
      · try simp only [go_sem, n1, n2, n3, n4, hk1, hk2, ghk4n] at hk5
        all_goals
        obtain rfl := so_some h
        refine ⟨0, fun L hL => ?_⟩
        simp only [go_sem, ir77, E_spec_l06Find_l1, R_spec_l06Find_l1, ir77_b0, ir77_k0, ir77_o0, ir77_r0, hk1, hk2, lhk2, xhk2, fhk3, ghk4n, hk5]
  · try simp only [go_sem, n1, n2, n3, n4] at hk1
    all_goals
    obtain rfl := so_some h
    refine ⟨0, fun L hL => ?_⟩
    simp only [go_sem, ir77, E_spec_l06Find_l1, R_spec_l06Find_l1, ir77_b0, ir77_k0, ir77_o0, ir77_r0, hk1]

theorem Fs_spec_l06Find {list : List Estimate} {e_ : Estimate} {y_ : Int} (h : spec_l06Find list e_ = some y_) : c_spec_l06Find.F [.sl 5 (List.map Estimate_av list), .ptr 5 [Estimate_av e_] 0 0] = ⟨true, .int .i64 y_, [.any, .any]⟩ := by
  refine mkF_E rfl ?_
  dsimp only [spec_l06Find] at h
  obtain ⟨y_6, hk6, h⟩ := bd_some h
  obtain ⟨Lhk6, ehk6⟩ := spec_l06Find_l1_ex hk6
  rcases y_6 with y_6a | y_6b
  · dsimp only at h
    obtain rfl := so_some h
    refine ⟨Lhk6, fun L hL => ?_⟩
    have ehk6 := ehk6 L (by omega)
    try simp only [go_sem, E_spec_l06Find_l1, R_spec_l06Find_l1, ir77_k0, ir77_o0, ir77_r0] at ehk6
    simp only [go_sem, ir77, E_spec_l06Find_l1, R_spec_l06Find_l1, ir77_k0, ir77_o0, ir77_r0, ehk6]
  · dsimp only at h
    obtain rfl := so_some h
    refine ⟨Lhk6, fun L hL => ?_⟩
    have ehk6 := ehk6 L (by omega)
    try simp only [go_sem, E_spec_l06Find_l1, R_spec_l06Find_l1, ir77_k0, ir77_o0, ir77_r0] at ehk6
    simp only [go_sem, ir77, E_spec_l06Find_l1, R_spec_l06Find_l1, ir77_k0, ir77_o0, ir77_r0, ehk6]


def ir78_b0 : IR := .seq (.test false [
    ⟨.push, 9, none, .mov (.v 4)⟩,
    ⟨.push, 10, none, .bin false .gtr (.s 0) (.c (.int .i64 (0)))⟩,
    ⟨.push, 11, none, .mov (.s 0)⟩,
    ⟨.push, 12, (some ((.s 0), true)), .mov (.v 0)⟩,
    ⟨.push, 13, (some ((.s 1), true)), .mov (.v 4)⟩,
    ⟨.push, 14, (some ((.s 2), true)), .bin false .sub (.s 0) (.c (.int .i64 (1)))⟩,
    ⟨.push, 15, (some ((.s 3), true)), .ixAddr 5 (.s 2) (.s 0)⟩,
    ⟨.push, 16, (some ((.s 4), true)), .call 87 [(.v 2), (.s 0)]⟩,
    ⟨.push, 17, none, .pick (.s 5) (.s 0) (.c (.bool false))⟩] (.s 0)
  (.skip)
  (.exit 0))
 (.block 1 (.region false [
    ⟨.push, 18, none, .mov (.v 4)⟩,
    ⟨.push, 19, none, .bin false .sub (.s 0) (.c (.int .i64 (1)))⟩,
    ⟨.var 4, 5, none, .mov (.s 0)⟩]))
def ir78_k0 : List Bool := [true, false, true, false, true, false]
def ir78_o0 : List Bool := [true, false, true, false, true, false]
def ir78_r0 : List Bool := [false, false, false, true, false, false]
def ir78_v : List Nat := [0, 1, 3, 4, 5, 6]
def ir78 : AFn := ⟨2, 6, .seq (.region false [
    ⟨.var 2, 3, none, .box (.v 1)⟩,
    ⟨.var 3, 4, none, .newnil 5⟩])
 (.seq (.region false [
    ⟨.push, 7, none, .mov (.v 0)⟩,
    ⟨.push, 8, none, .len false (.s 0)⟩,
    ⟨.var 4, 5, none, .mov (.s 0)⟩])
 (.seq (.block 0 (.loop ir78_k0 ir78_o0 ir78_r0 ir78_b0))
 (.seq (.region false [
    ⟨.push, 20, none, .mkSl 5 (.agg [.int .i64 (0), .str [], .str [], .int .i64 (0), .bool false]) 0 []⟩,
    ⟨.push, 21, none, .mov (.v 0)⟩,
    ⟨.push, 22, none, .mov (.v 4)⟩,
    ⟨.push, 23, none, .slice 5 (.s 1) none (some (.s 0))⟩,
    ⟨.push, 24, none, .app 5 56 (.agg [.int .i64 (0), .str [], .str [], .int .i64 (0), .bool false]) (.s 3) (.s 0)⟩,
    ⟨.var 5, 6, none, .mov (.s 0)⟩])
 (.seq (.region false [
    ⟨.push, 25, none, .mov (.v 5)⟩,
    ⟨.push, 26, none, .load true 5 (.v 2)⟩,
    ⟨.push, 27, none, .mkSl 5 (.agg [.int .i64 (0), .str [], .str [], .int .i64 (0), .bool false]) 1 [(0, (.s 0))]⟩,
    ⟨.push, 28, none, .app 5 56 (.agg [.int .i64 (0), .str [], .str [], .int .i64 (0), .bool false]) (.s 2) (.s 0)⟩,
    ⟨.var 5, 6, none, .mov (.s 0)⟩])
 (.seq (.region false [
    ⟨.push, 29, none, .mov (.v 5)⟩,
    ⟨.push, 30, none, .mov (.v 0)⟩,
    ⟨.push, 31, none, .mov (.v 4)⟩,
    ⟨.push, 32, none, .slice 5 (.s 1) (some (.s 0)) none⟩,
    ⟨.push, 33, none, .app 5 56 (.agg [.int .i64 (0), .str [], .str [], .int .i64 (0), .bool false]) (.s 3) (.s 0)⟩,
    ⟨.var 3, 4, none, .mov (.s 0)⟩])
 (.ret)))))), [.t 3]⟩
noncomputable def t_spec_l06Put : List (Nat × Ctr) := [(87, c_spec_l06Before)]
theorem lk_spec_l06Put_87 : look t_spec_l06Put 87 = some c_spec_l06Before := rfl
noncomputable def c_spec_l06Put : Ctr := mkF t_spec_l06Put ir78 [.bor, .bor]
theorem s_spec_l06Put : Sound Try.prog 78 c_spec_l06Put := mkF_sound _ rfl (snd_cons s_spec_l06Before snd_nil) (by kernel_rfl : chkFn Try.prog 78 ir78 ir78_v = true)
theorem M_spec_l06Put : c_spec_l06Put.modes = [.bor, .bor] := rfl
theorem Fl_spec_l06Put : c_spec_l06Put.flat = true := rfl
attribute [go_sem] M_spec_l06Put Fl_spec_l06Put
attribute [go_sem] lk_spec_l06Put_87
def E_spec_l06Put_l1 (list : List Estimate) (e_ : Estimate) : Int → St
  | k => ⟨[.sl 5 (List.map Estimate_av list), .any, .ref 3200000 0 0, .any, .int .i64 k, .any], [], [(3200000, ⟨5, [Estimate_av e_]⟩)], true⟩
def R_spec_l06Put_l1 (list : List Estimate) (e_ : Estimate) (y : Int) : Res := (.exit 0, ⟨[.sl 5 (List.map Estimate_av list), .any, .ref 3200000 0 0, .any, .int .i64 y, .any], [], [(3200000, ⟨5, [Estimate_av e_]⟩)], true⟩)
theorem spec_l06Put_l1_ex {list : List Estimate} {e_ : Estimate} {sgm_ : Int} {rho_ : Int} (h : whileE (spec_l06Put_l1 list e_) sgm_ = some rho_) : ∃ L0, ∀ L, L0 ≤ L → iter (exec (look t_spec_l06Put) L ir78_b0) ir78_k0 ir78_o0 ir78_r0 L (E_spec_l06Put_l1 list e_ sgm_) = R_spec_l06Put_l1 list e_ rho_ := by
  refine loop_ex (E := E_spec_l06Put_l1 list e_) (R := R_spec_l06Put_l1 list e_) (fun y => by first | (intro c; cases c) | (rcases y with y | y <;> (intro c; cases c)) | (rcases y with y | y | y <;> (intro c; cases c))) ?_ h
  clear h
  intro k o_ h
  dsimp only [spec_l06Put_l1] at h
  obtain ⟨hk1, h⟩ := ck_some h
  rcases or_split hk1 with ⟨ghk1, hk1⟩ | ghk1
  · try simp only [go_sem, n1, n2, n3, n4] at ghk1
    all_goals
    have lhk1 := ix_lt hk1
    have xhk1 := getD_mapD Estimate_av list lhk1
    try simp only [go_sem] at lhk1
    try simp only [go_sem] at xhk1
    try simp only [go_sem, n1, n2, n3, n4, ghk1] at hk1
    all_goals
    obtain ⟨hk2, h⟩ := ck_some h
    rcases or_split hk2 with ⟨ghk2, hk2⟩ | ghk2
    · try simp only [go_sem, n1, n2, n3, n4, ghk1, hk1] at ghk2
      all_goals
      obtain ⟨y_2, hhk2⟩ := Option.isSome_iff_exists.1 hk2
      have fhk2 := Fs_spec_l06Before hhk2
      try simp only [go_sem, ghk1, hk1, ghk2] at fhk2
      rcases it_some h with ⟨hk3, h⟩ | ⟨hk3, h⟩
      · try simp only [go_sem, n1, n2, n3, n4, ghk1, hk1, ghk2, hhk2] at hk3
        all_goals
        obtain rfl := so_some h
        refine ⟨0, fun L hL => ?_⟩
        simp only [go_sem, ir78, E_spec_l06Put_l1, R_spec_l06Put_l1, ir78_b0, ir78_k0, ir78_o0, ir78_r0, ghk1, hk1, lhk1, xhk1, ghk2, hhk2, fhk2, hk3]
      · try simp only [go_sem, n1, n2, n3, n4, ghk1, hk1, ghk2, hhk2] at hk3
        all_goals
        obtain rfl := so_some h
        refine ⟨0, fun L hL => ?_⟩
        simp only [go_sem, ir78, E_spec_l06Put_l1, R_spec_l06Put_l1, ir78_b0, ir78_k0, ir78_o0, ir78_r0, ghk1, hk1, lhk1, xhk1, ghk2, hhk2, fhk2, hk3]
    · try simp only [go_sem, n1, n2, n3, n4, ghk1, hk1] at ghk2
      all_goals
      rcases it_some h with ⟨hk3, h⟩ | ⟨hk3, h⟩
      · try simp only [go_sem, n1, n2, n3, n4, ghk1, hk1, ghk2] at hk3
        all_goals
        obtain rfl := so_some h
        refine ⟨0, fun L hL => ?_⟩
        simp only [go_sem, ir78, E_spec_l06Put_l1, R_spec_l06Put_l1, ir78_b0, ir78_k0, ir78_o0, ir78_r0, ghk1, hk1, lhk1, xhk1, ghk2, hk3]
      · try simp only [go_sem, n1, n2, n3, n4, ghk1, hk1, ghk2] at hk3
        all_goals
        obtain rfl := so_some h
        refine ⟨0, fun L hL => ?_⟩
        simp only [go_sem, ir78, E_spec_l06Put_l1, R_spec_l06Put_l1, ir78_b0, ir78_k0, ir78_o0, ir78_r0, ghk1, hk1, lhk1, xhk1, ghk2, hk3]
  · try simp only [go_sem, n1, n2, n3, n4] at ghk1
    all_goals
    obtain ⟨hk2, h⟩ := ck_some h
    rcases or_split hk2 with ⟨ghk2, hk2⟩ | ghk2
    · try simp only [go_sem, n1, n2, n3, n4, ghk1] at ghk2
      all_goals
      obtain ⟨y_2, hhk2⟩ := Option.isSome_iff_exists.1 hk2
      have fhk2 := Fs_spec_l06Before hhk2
      try simp only [go_sem, ghk1, ghk2] at fhk2
      rcases it_some h with ⟨hk3, h⟩ | ⟨hk3, h⟩
      · try simp only [go_sem, n1, n2, n3, n4, ghk1, ghk2, hhk2] at hk3
        all_goals
        obtain rfl := so_some h
        refine ⟨0, fun L hL => ?_⟩
        simp only [go_sem, ir78, E_spec_l06Put_l1, R_spec_l06Put_l1, ir78_b0, ir78_k0, ir78_o0, ir78_r0, ghk1, ghk2, hhk2, fhk2, hk3]
      · try simp only [go_sem, n1, n2, n3, n4, ghk1, ghk2, hhk2] at hk3
        all_goals
        obtain rfl := so_some h
        refine ⟨0, fun L hL => ?_⟩
        simp only [go_sem, ir78, E_spec_l06Put_l1, R_spec_l06Put_l1, ir78_b0, ir78_k0, ir78_o0, ir78_r0, ghk1, ghk2, hhk2, fhk2, hk3]
    · try simp only [go_sem, n1, n2, n3, n4, ghk1] at ghk2
      all_goals
      rcases it_some h with ⟨hk3, h⟩ | ⟨hk3, h⟩
      · try simp only [go_sem, n1, n2, n3, n4, ghk1, ghk2] at hk3
        all_goals
        obtain rfl := so_some h
        refine ⟨0, fun L hL => ?_⟩
        simp only [go_sem, ir78, E_spec_l06Put_l1, R_spec_l06Put_l1, ir78_b0, ir78_k0, ir78_o0, ir78_r0, ghk1, ghk2, hk3]
      · try simp only [go_sem, n1, n2, n3, n4, ghk1, ghk2] at hk3
        all_goals
        obtain rfl := so_some h
        refine ⟨0, fun L hL => ?_⟩
        simp only [go_sem, ir78, E_spec_l06Put_l1, R_spec_l06Put_l1, ir78_b0, ir78_k0, ir78_o0, ir78_r0, ghk1, ghk2, hk3]

theorem Fs_spec_l06Put {list : List Estimate} {e_ : Estimate} {y_ : (List Estimate)} (h : spec_l06Put list e_ = some y_) : c_spec_l06Put.F [.sl 5 (List.map Estimate_av list), Estimate_av e_] = ⟨true, .fresh 5 (List.map Estimate_av y_), [.any, .any]⟩ := by
  refine mkF_E (by simp only [flatA, flatB, flat1, List.all_cons, List.all_nil, Bool.and_self, flatE_map (f := Estimate_av) (fun _ => rfl)]) ?_
  dsimp only [spec_l06Put] at h
  obtain ⟨y_4, hk4, h⟩ := bd_some h
  obtain ⟨Lhk4, ehk4⟩ := spec_l06Put_l1_ex hk4
  obtain ⟨hk5, h⟩ := ck_some h
  try simp only [go_sem, n1, n2, n3, n4] at hk5
  all_goals
  obtain ⟨hk6, h⟩ := ck_some h
  try simp only [go_sem, n1, n2, n3, n4, hk5] at hk6
  all_goals
  obtain ⟨hk7, h⟩ := ck_some h
  try simp only [go_sem, n1, n2, n3, n4, hk5, hk6] at hk7
  all_goals
  obtain ⟨hk8, h⟩ := ck_some h
  try simp only [go_sem, n1, n2, n3, n4, hk5, hk6, hk7] at hk8
  all_goals
  obtain ⟨hk9, h⟩ := ck_some h
  try simp only [go_sem, n1, n2, n3, n4, hk5, hk6, hk7, hk8] at hk9
  all_goals
  obtain rfl := so_some h
  refine ⟨Lhk4, fun L hL => ?_⟩
  have ehk4 := ehk4 L (by omega)
  try simp only [go_sem, E_spec_l06Put_l1, R_spec_l06Put_l1, ir78_k0, ir78_o0, ir78_r0, hk5, hk6, hk7, hk8, hk9] at ehk4
  simp only [go_sem, ir78, E_spec_l06Put_l1, R_spec_l06Put_l1, ir78_k0, ir78_o0, ir78_r0, hk5, hk6, hk7, hk8, hk9, ehk4]


def ir37_b0 : IR := .seq (.test false [
    ⟨.push, 13, none, .mov (.v 4)⟩,
    ⟨.push, 14, none, .bin false .gtr (.s 0) (.c (.int .i64 (0)))⟩] (.s 0)
  (.skip)
  (.exit 0))
 (.seq (.block 1 (.seq (.region false [
      ⟨.push, 17, none, .mov (.v 0)⟩,
      ⟨.push, 18, none, .call 76 [(.s 0)]⟩,
      ⟨.var 5, 7, none, .alloc (.agg [.int .i64 (0), .str [], .str [], .int .i64 (0), .bool false])⟩,
      ⟨.no, 0, none, .store 5 (.v 5) (.s 0)⟩])
   (.test false [
     ⟨.push, 19, none, .mov (.v 3)⟩,
     ⟨.push, 20, none, .call 77 [(.s 0), (.v 5)]⟩,
     ⟨.push, 21, none, .bin false .lss (.s 0) (.c (.int .i64 (0)))⟩] (.s 0)
   (.region false [
      ⟨.push, 22, none, .mov (.v 3)⟩,
      ⟨.push, 23, none, .load true 5 (.v 5)⟩,
      ⟨.push, 24, none, .call 78 [(.s 1), (.s 0)]⟩,
      ⟨.var 3, 5, none, .mov (.s 0)⟩])
   (.skip))))
 (.region false [
   ⟨.push, 15, none, .mov (.v 4)⟩,
   ⟨.push, 16, none, .bin false .sub (.s 0) (.c (.int .i64 (1)))⟩,
   ⟨.var 4, 6, none, .mov (.s 0)⟩]))
def ir37_k0 : List Bool := [true, false, false, true, true, false]
def ir37_o0 : List Bool := [true, false, false, true, false, false]
def ir37_r0 : List Bool := [true, false, true, false, false, false]
def ir37_v : List Nat := [0, 1, 4, 5, 6, 7]
def ir37 : AFn := ⟨2, 6, .seq (.region false [
    ⟨.var 2, 4, none, .newnil 5⟩])
 (.seq (.region false [
    ⟨.push, 8, none, .mkSl 5 (.agg [.int .i64 (0), .str [], .str [], .int .i64 (0), .bool false]) 0 []⟩,
    ⟨.var 3, 5, none, .mov (.s 0)⟩])
 (.seq (.seq (.region false [
     ⟨.push, 9, none, .mov (.v 0)⟩,
     ⟨.push, 10, none, .mov (.v 1)⟩,
     ⟨.push, 11, none, .bin false .add (.s 0) (.c (.int .i64 (1)))⟩,
     ⟨.push, 12, none, .call 75 [(.s 2), (.s 0)]⟩,
     ⟨.var 4, 6, none, .mov (.s 0)⟩])
  (.block 0 (.loop ir37_k0 ir37_o0 ir37_r0 ir37_b0)))
 (.seq (.region false [
    ⟨.push, 25, none, .mov (.v 3)⟩,
    ⟨.var 2, 4, none, .mov (.s 0)⟩])
 (.ret)))), [.t 2]⟩
noncomputable def t_spec_l06Draw : List (Nat × Ctr) := [(75, c_spec_l00Src_pick), (76, c_spec_l06New), (77, c_spec_l06Find), (78, c_spec_l06Put)]
theorem lk_spec_l06Draw_75 : look t_spec_l06Draw 75 = some c_spec_l00Src_pick := rfl
theorem lk_spec_l06Draw_76 : look t_spec_l06Draw 76 = some c_spec_l06New := rfl
theorem lk_spec_l06Draw_77 : look t_spec_l06Draw 77 = some c_spec_l06Find := rfl
theorem lk_spec_l06Draw_78 : look t_spec_l06Draw 78 = some c_spec_l06Put := rfl
noncomputable def c_spec_l06Draw : Ctr := mkN t_spec_l06Draw ir37 [.io, .bor]
theorem s_spec_l06Draw : Sound Try.prog 37 c_spec_l06Draw := mkN_sound _ (snd_cons s_spec_l00Src_pick (snd_cons s_spec_l06New (snd_cons s_spec_l06Find (snd_cons s_spec_l06Put snd_nil)))) (by kernel_rfl : chkFn Try.prog 37 ir37 ir37_v = true)
theorem M_spec_l06Draw : c_spec_l06Draw.modes = [.io, .bor] := rfl
theorem Fl_spec_l06Draw : c_spec_l06Draw.flat = false := rfl
attribute [go_sem] M_spec_l06Draw Fl_spec_l06Draw
attribute [go_sem] lk_spec_l06Draw_75 lk_spec_l06Draw_76 lk_spec_l06Draw_77 lk_spec_l06Draw_78
def E_spec_l06Draw_l1  : (L00Src × (List Estimate) × Int) → St
  | (s_, out, k) => ⟨[.ref 31 0 0, .any, .any, .own 3200032, .int .i64 k, .any], [], [(31, ⟨3, [L00Src_av s_]⟩), (3200032, ⟨5, List.map Estimate_av out⟩)], true⟩
def R_spec_l06Draw_l1  (y : L00Src × (List Estimate)) : Res := (.exit 0, ⟨[.ref 31 0 0, .any, .any, .own 3200032, .any, .any], [], [(31, ⟨3, [L00Src_av y.1]⟩), (3200032, ⟨5, List.map Estimate_av y.2⟩)], true⟩)
theorem spec_l06Draw_l1_ex  {sgm_ : L00Src × (List Estimate) × Int} {rho_ : L00Src × (List Estimate)} (h : whileE (spec_l06Draw_l1) sgm_ = some rho_) : ∃ L0, ∀ L, L0 ≤ L → iter (exec (look t_spec_l06Draw) L ir37_b0) ir37_k0 ir37_o0 ir37_r0 L (E_spec_l06Draw_l1 sgm_) = R_spec_l06Draw_l1 rho_ := by
  refine loop_ex (E := E_spec_l06Draw_l1) (R := R_spec_l06Draw_l1) (fun y => by first | (intro c; cases c) | (rcases y with y | y <;> (intro c; cases c)) | (rcases y with y | y | y <;> (intro c; cases c))) ?_ h
  clear h
  rintro ⟨s_, out, k⟩ o_ h
  dsimp only [spec_l06Draw_l1] at h
  rcases it_some h with ⟨hk2, h⟩ | ⟨hk2, h⟩
  · try simp only [go_sem, n1, n2, n3, n4] at hk2
    all_goals
    obtain ⟨y_3, hk3, h⟩ := bd_some h
    have fhk3 := Fs_spec_l06New hk3
    try simp only [go_sem, hk2] at fhk3
    obtain ⟨y_4, hk4, h⟩ := bd_some h
    have fhk4 := Fs_spec_l06Find hk4
    try simp only [go_sem, hk2] at fhk4
    rcases it_some h with ⟨hk5, h⟩ | ⟨hk5, h⟩
    · try simp only [go_sem, n1, n2, n3, n4, hk2] at hk5
      all_goals
      obtain ⟨y_6, hk6, h⟩ := bd_some h
      have fhk6 := Fs_spec_l06Put hk6
      try simp only [go_sem, hk2, hk5] at fhk6
      obtain rfl := so_some h
      refine ⟨0, fun L hL => ?_⟩
      simp only [go_sem, ir37, E_spec_l06Draw_l1, R_spec_l06Draw_l1, ir37_b0, ir37_k0, ir37_o0, ir37_r0, hk2, fhk3, fhk4, hk5, fhk6]
    · try simp only [go_sem, n1, n2, n3, n4, hk2] at hk5
      all_goals
      obtain rfl := so_some h
      refine ⟨0, fun L hL => ?_⟩
      simp only [go_sem, ir37, E_spec_l06Draw_l1, R_spec_l06Draw_l1, ir37_b0, ir37_k0, ir37_o0, ir37_r0, hk2, fhk3, fhk4, hk5]
  · try simp only [go_sem, n1, n2, n3, n4] at hk2
    all_goals
    obtain rfl := so_some h
    refine ⟨0, fun L hL => ?_⟩
    simp only [go_sem, ir37, E_spec_l06Draw_l1, R_spec_l06Draw_l1, ir37_b0, ir37_k0, ir37_o0, ir37_r0, hk2]

theorem Fs_spec_l06Draw {s_ : L00Src} {most : Int} {y_ : (List Estimate) × L00Src} (h : spec_l06Draw s_ most = some y_) : c_spec_l06Draw.F [.mem 3 [L00Src_av s_], .int .i64 most] = ⟨true, .fresh 5 (List.map Estimate_av y_.1), [.mem 3 [L00Src_av y_.2], .any]⟩ := by
  refine mkN_E ?_
  dsimp only [spec_l06Draw] at h
  obtain ⟨y_1, hk1, h⟩ := bd_some h
  have fhk1 := Fs_spec_l00Src_pick hk1
  try simp only [go_sem] at fhk1
  obtain ⟨y_7, hk7, h⟩ := bd_some h
  obtain ⟨Lhk7, ehk7⟩ := spec_l06Draw_l1_ex hk7
  obtain rfl := so_some h
  refine ⟨Lhk7, fun L hL => ?_⟩
  have ehk7 := ehk7 L (by omega)
  try simp only [go_sem, E_spec_l06Draw_l1, R_spec_l06Draw_l1, ir37_k0, ir37_o0, ir37_r0] at ehk7
  simp only [go_sem, ir37, E_spec_l06Draw_l1, R_spec_l06Draw_l1, ir37_k0, ir37_o0, ir37_r0, fhk1, ehk7]


def ir8_v : List Nat := [0, 2]
def ir8 : AFn := ⟨1, 2, .seq (.region false [
    ⟨.var 1, 2, none, .newnil 5⟩])
 (.seq (.region false [
    ⟨.push, 3, none, .mov (.v 0)⟩,
    ⟨.push, 4, none, .call 38 [(.s 0)]⟩,
    ⟨.push, 5, none, .call 37 [(.s 0), (.c (.int .i64 (12)))]⟩,
    ⟨.var 1, 2, none, .mov (.s 0)⟩])
 (.ret)), [.t 1]⟩
noncomputable def t_spec_A2Estimates : List (Nat × Ctr) := [(38, c_spec_l00From), (37, c_spec_l06Draw)]
theorem lk_spec_A2Estimates_38 : look t_spec_A2Estimates 38 = some c_spec_l00From := rfl
theorem lk_spec_A2Estimates_37 : look t_spec_A2Estimates 37 = some c_spec_l06Draw := rfl
noncomputable def c_spec_A2Estimates : Ctr := mkF t_spec_A2Estimates ir8 [.bor]
theorem s_spec_A2Estimates : Sound Try.prog 8 c_spec_A2Estimates := mkF_sound _ rfl (snd_cons s_spec_l00From (snd_cons s_spec_l06Draw snd_nil)) (by kernel_rfl : chkFn Try.prog 8 ir8 ir8_v = true)
theorem M_spec_A2Estimates : c_spec_A2Estimates.modes = [.bor] := rfl
theorem Fl_spec_A2Estimates : c_spec_A2Estimates.flat = true := rfl
attribute [go_sem] M_spec_A2Estimates Fl_spec_A2Estimates
attribute [go_sem] lk_spec_A2Estimates_38 lk_spec_A2Estimates_37
theorem Fs_spec_A2Estimates {code : List UInt8} {y_ : (List Estimate)} (h : spec_A2Estimates code = some y_) : c_spec_A2Estimates.F [.sl 1 (List.map byteAV code)] = ⟨true, .fresh 5 (List.map Estimate_av y_), [.any]⟩ := by
  refine mkF_E (by simp only [flatA, flatB, flat1, List.all_cons, List.all_nil, Bool.and_self, flatE_map (f := Estimate_av) (fun _ => rfl)]) ?_
  dsimp only [spec_A2Estimates] at h
  obtain ⟨y_1, hk1, h⟩ := bd_some h
  have fhk1 := Fs_spec_l00From hk1
  try simp only [go_sem] at fhk1
  obtain ⟨y_2, hk2, h⟩ := bd_some h
  have fhk2 := Fs_spec_l06Draw hk2
  try simp only [go_sem] at fhk2
  obtain rfl := so_some h
  refine ⟨0, fun L hL => ?_⟩
  simp only [go_sem, ir8, fhk1, fhk2]


def ir45_v : List Nat := [0, 1, 2, 6]
def ir45 : AFn := ⟨3, 4, .seq (.region false [
    ⟨.var 3, 6, none, .mov (.c (.bool false))⟩])
 (.seq (.region false [
    ⟨.push, 7, none, .mov (.v 0)⟩,
    ⟨.push, 8, none, .mov (.v 1)⟩,
    ⟨.push, 9, none, .bin false .geq (.s 1) (.s 0)⟩,
    ⟨.push, 10, none, .mov (.s 0)⟩,
    ⟨.push, 11, (some ((.s 0), true)), .mov (.v 0)⟩,
    ⟨.push, 12, (some ((.s 1), true)), .mov (.v 2)⟩,
    ⟨.push, 13, (some ((.s 2), true)), .bin false .leq (.s 1) (.s 0)⟩,
    ⟨.push, 14, none, .pick (.s 3) (.s 0) (.c (.bool false))⟩,
    ⟨.var 3, 6, none, .mov (.s 0)⟩])
 (.ret)), [.t 3]⟩
noncomputable def t_impl_in : List (Nat × Ctr) := []
noncomputable def c_impl_in : Ctr := mkF t_impl_in ir45 [.bor, .bor, .bor]
theorem s_impl_in : Sound Try.prog 45 c_impl_in := mkF_sound _ rfl snd_nil (by kernel_rfl : chkFn Try.prog 45 ir45 ir45_v = true)
theorem M_impl_in : c_impl_in.modes = [.bor, .bor, .bor] := rfl
theorem Fl_impl_in : c_impl_in.flat = true := rfl
attribute [go_sem] M_impl_in Fl_impl_in
theorem Fs_impl_in {n : Int} {low : Int} {high : Int} {y_ : Bool} (h : impl_in n low high = some y_) : c_impl_in.F [.int .i64 n, .int .i64 low, .int .i64 high] = ⟨true, .bool y_, [.any, .any, .any]⟩ := by
  refine mkF_E rfl ?_
  dsimp only [impl_in] at h
  obtain rfl := so_some h
  refine ⟨0, fun L hL => ?_⟩
  simp only [go_sem, ir45]


def ir113_v : List Nat := [0, 2]
def ir113 : AFn := ⟨1, 2, .seq (.region false [
    ⟨.var 1, 2, none, .mov (.c (.bool false))⟩])
 (.seq (.region false [
    ⟨.push, 3, none, .mov (.v 0)⟩,
    ⟨.push, 4, none, .call 45 [(.s 0), (.c (.int .i64 (0))), (.c (.int .i64 (10000000)))]⟩,
    ⟨.var 1, 2, none, .mov (.s 0)⟩])
 (.ret)), [.t 1]⟩
noncomputable def t_impl_ValidTime : List (Nat × Ctr) := [(45, c_impl_in)]
theorem lk_impl_ValidTime_45 : look t_impl_ValidTime 45 = some c_impl_in := rfl
noncomputable def c_impl_ValidTime : Ctr := mkF t_impl_ValidTime ir113 [.bor]
theorem s_impl_ValidTime : Sound Try.prog 113 c_impl_ValidTime := mkF_sound _ rfl (snd_cons s_impl_in snd_nil) (by kernel_rfl : chkFn Try.prog 113 ir113 ir113_v = true)
theorem M_impl_ValidTime : c_impl_ValidTime.modes = [.bor] := rfl
theorem Fl_impl_ValidTime : c_impl_ValidTime.flat = true := rfl
attribute [go_sem] M_impl_ValidTime Fl_impl_ValidTime
attribute [go_sem] lk_impl_ValidTime_45
theorem Fs_impl_ValidTime {t : Int} {y_ : Bool} (h : impl_ValidTime t = some y_) : c_impl_ValidTime.F [.int .i64 t] = ⟨true, .bool y_, [.any]⟩ := by
  refine mkF_E rfl ?_
  dsimp only [impl_ValidTime] at h
  obtain ⟨y_1, hk1, h⟩ := bd_some h
  have fhk1 := Fs_impl_in hk1
  try simp only [go_sem] at fhk1
  obtain rfl := so_some h
  refine ⟨0, fun L hL => ?_⟩
  simp only [go_sem, ir113, fhk1]


def ir40_b0 : IR := .seq (.region false [
    ⟨.var 7, 17, none, .bin false .lss (.v 6) (.v 5)⟩])
 (.seq (.cond (.v 7) (.skip)
  (.exit 0))
 (.seq (.block 1 (.seq (.region false [
      ⟨.push, 18, none, .mov (.v 6)⟩,
      ⟨.var 2, 3, none, .mov (.s 0)⟩])
   (.seq (.region false [
      ⟨.push, 19, none, .mov (.v 0)⟩,
      ⟨.push, 20, none, .mov (.v 2)⟩,
      ⟨.push, 21, none, .ixStr (.s 1) (.s 0)⟩,
      ⟨.push, 22, none, .bin false .geq (.s 0) (.c (.int .u8 (97)))⟩,
      ⟨.push, 23, none, .mov (.s 0)⟩,
      ⟨.push, 24, (some ((.s 0), true)), .mov (.v 0)⟩,
      ⟨.push, 25, (some ((.s 1), true)), .mov (.v 2)⟩,
      ⟨.push, 26, (some ((.s 2), true)), .ixStr (.s 1) (.s 0)⟩,
      ⟨.push, 27, (some ((.s 3), true)), .bin false .leq (.s 0) (.c (.int .u8 (122)))⟩,
      ⟨.push, 28, none, .pick (.s 4) (.s 0) (.c (.bool false))⟩,
      ⟨.var 3, 4, none, .mov (.s 0)⟩])
   (.seq (.region false [
      ⟨.push, 29, none, .mov (.v 0)⟩,
      ⟨.push, 30, none, .mov (.v 2)⟩,
      ⟨.push, 31, none, .ixStr (.s 1) (.s 0)⟩,
      ⟨.push, 32, none, .bin false .geq (.s 0) (.c (.int .u8 (48)))⟩,
      ⟨.push, 33, none, .mov (.s 0)⟩,
      ⟨.push, 34, (some ((.s 0), true)), .mov (.v 0)⟩,
      ⟨.push, 35, (some ((.s 1), true)), .mov (.v 2)⟩,
      ⟨.push, 36, (some ((.s 2), true)), .ixStr (.s 1) (.s 0)⟩,
      ⟨.push, 37, (some ((.s 3), true)), .bin false .leq (.s 0) (.c (.int .u8 (57)))⟩,
      ⟨.push, 38, none, .pick (.s 4) (.s 0) (.c (.bool false))⟩,
      ⟨.push, 39, none, .mov (.s 0)⟩,
      ⟨.push, 40, (some ((.s 0), false)), .mov (.v 0)⟩,
      ⟨.push, 41, (some ((.s 1), false)), .mov (.v 2)⟩,
      ⟨.push, 42, (some ((.s 2), false)), .ixStr (.s 1) (.s 0)⟩,
      ⟨.push, 43, (some ((.s 3), false)), .bin false .eql (.s 0) (.c (.int .u8 (45)))⟩,
      ⟨.push, 44, none, .pick (.s 4) (.c (.bool true)) (.s 0)⟩,
      ⟨.var 4, 5, none, .mov (.s 0)⟩])
   (.test false [
     ⟨.push, 45, none, .mov (.v 3)⟩,
     ⟨.push, 46, none, .un .not (.s 0)⟩,
     ⟨.push, 47, none, .mov (.s 0)⟩,
     ⟨.push, 48, (some ((.s 0), true)), .mov (.v 2)⟩,
     ⟨.push, 49, (some ((.s 1), true)), .bin false .eql (.s 0) (.c (.int .i64 (0)))⟩,
     ⟨.push, 50, (some ((.s 2), true)), .mov (.s 0)⟩,
     ⟨.push, 51, (some ((.s 0), false)), .mov (.v 4)⟩,
     ⟨.push, 52, (some ((.s 1), false)), .un .not (.s 0)⟩,
     ⟨.push, 53, (some ((.s 5), true)), .pick (.s 2) (.c (.bool true)) (.s 0)⟩,
     ⟨.push, 54, none, .pick (.s 6) (.s 0) (.c (.bool false))⟩] (.s 0)
   (.seq (.region false [
       ⟨.var 1, 2, none, .mov (.c (.bool false))⟩])
    (.ret))
   (.skip))))))
 (.region false [
   ⟨.push, 55, none, .bin false .add (.v 6) (.c (.int .i64 (1)))⟩,
   ⟨.var 6, 16, none, .mov (.s 0)⟩])))
def ir40_k0 : List Bool := [true, false, false, false, false, true, true, false]
def ir40_o0 : List Bool := [false, false, false, false, false, false, false, false]
def ir40_r0 : List Bool := [false, true, false, false, false, false, false, false]
def ir40_v : List Nat := [0, 2, 3, 4, 5, 15, 16, 17]
def ir40 : AFn := ⟨1, 8, .seq (.region false [
    ⟨.var 1, 2, none, .mov (.c (.bool false))⟩])
 (.seq (.test false [
    ⟨.push, 6, none, .mov (.v 0)⟩,
    ⟨.push, 7, none, .len true (.s 0)⟩,
    ⟨.push, 8, none, .bin false .lss (.s 0) (.c (.int .i64 (1)))⟩,
    ⟨.push, 9, none, .mov (.s 0)⟩,
    ⟨.push, 10, (some ((.s 0), false)), .mov (.v 0)⟩,
    ⟨.push, 11, (some ((.s 1), false)), .len true (.s 0)⟩,
    ⟨.push, 12, (some ((.s 2), false)), .bin false .gtr (.s 0) (.c (.int .i64 (12)))⟩,
    ⟨.push, 13, none, .pick (.s 3) (.c (.bool true)) (.s 0)⟩] (.s 0)
  (.seq (.region false [
      ⟨.var 1, 2, none, .mov (.c (.bool false))⟩])
   (.ret))
  (.skip))
 (.seq (.seq (.region false [
     ⟨.push, 14, none, .mov (.v 0)⟩,
     ⟨.var 5, 15, none, .len true (.s 0)⟩,
     ⟨.var 6, 16, none, .mov (.c (.int .i64 (0)))⟩])
  (.block 0 (.loop ir40_k0 ir40_o0 ir40_r0 ir40_b0)))
 (.seq (.region false [
    ⟨.var 1, 2, none, .mov (.c (.bool true))⟩])
 (.ret)))), [.t 1]⟩
noncomputable def t_impl_IsName : List (Nat × Ctr) := []
noncomputable def c_impl_IsName : Ctr := mkF t_impl_IsName ir40 [.bor]
theorem s_impl_IsName : Sound Try.prog 40 c_impl_IsName := mkF_sound _ rfl snd_nil (by kernel_rfl : chkFn Try.prog 40 ir40 ir40_v = true)
theorem M_impl_IsName : c_impl_IsName.modes = [.bor] := rfl
theorem Fl_impl_IsName : c_impl_IsName.flat = true := rfl
attribute [go_sem] M_impl_IsName Fl_impl_IsName
def E_impl_IsName_l1 (s_ : List UInt8) (t15 : Int) : Int → St
  | t16 => ⟨[.str s_, .any, .any, .any, .any, .int .i64 t15, .int .i64 t16, .any], [], [], true⟩
def R_impl_IsName_l1 (s_ : List UInt8) (t15 : Int) : (Unit ⊕ Bool) → Res
  | .inl y => (.exit 0, ⟨[.any, .any, .any, .any, .any, .any, .any, .any], [], [], true⟩)
  | .inr y => (.ret, ⟨[.any, .bool y, .any, .any, .any, .any, .any, .any], [], [], true⟩)
theorem impl_IsName_l1_ex {s_ : List UInt8} {t15 : Int} {sgm_ : Int} {rho_ : Unit ⊕ Bool} (h : whileE (impl_IsName_l1 s_ t15) sgm_ = some rho_) : ∃ L0, ∀ L, L0 ≤ L → iter (exec (look t_impl_IsName) L ir40_b0) ir40_k0 ir40_o0 ir40_r0 L (E_impl_IsName_l1 s_ t15 sgm_) = R_impl_IsName_l1 s_ t15 rho_ := by
  refine loop_ex (E := E_impl_IsName_l1 s_ t15) (R := R_impl_IsName_l1 s_ t15) (fun y => by first | (intro c; cases c) | (rcases y with y | y <;> (intro c; cases c)) | (rcases y with y | y | y <;> (intro c; cases c))) ?_ h
  clear h
  intro t16 o_ h
  dsimp only [impl_IsName_l1] at h
  rcases it_some h with ⟨hk2, h⟩ | ⟨hk2, h⟩
  · try simp only [go_sem, n1, n2, n3, n4] at hk2
    all_goals
    obtain ⟨hk3, h⟩ := ck_some h
    try simp only [go_sem, n1, n2, n3, n4, hk2] at hk3
    all_goals
    rcases it_some h with ⟨hk4, h⟩ | ⟨hk4, h⟩
    · try simp only [go_sem, n1, n2, n3, n4, hk2, hk3] at hk4
      all_goals
      obtain rfl := so_some h
      refine ⟨0, fun L hL => ?_⟩
      simp only [go_sem, ir40, E_impl_IsName_l1, R_impl_IsName_l1, ir40_b0, ir40_k0, ir40_o0, ir40_r0, hk2, hk3, hk4]
    · try simp only [go_sem, n1, n2, n3, n4, hk2, hk3] at hk4
      all_goals
      obtain rfl := so_some h
      refine ⟨0, fun L hL => ?_⟩
      simp only [go_sem, ir40, E_impl_IsName_l1, R_impl_IsName_l1, ir40_b0, ir40_k0, ir40_o0, ir40_r0, hk2, hk3, hk4]
  · try simp only [go_sem, n1, n2, n3, n4] at hk2
    all_goals
    obtain rfl := so_some h
    refine ⟨0, fun L hL => ?_⟩
    simp only [go_sem, ir40, E_impl_IsName_l1, R_impl_IsName_l1, ir40_b0, ir40_k0, ir40_o0, ir40_r0, hk2]

theorem Fs_impl_IsName {s_ : List UInt8} {y_ : Bool} (h : impl_IsName s_ = some y_) : c_impl_IsName.F [.str s_] = ⟨true, .bool y_, [.any]⟩ := by
  refine mkF_E rfl ?_
  dsimp only [impl_IsName] at h
  rcases it_some h with ⟨hk1, h⟩ | ⟨hk1, h⟩
  · try simp only [go_sem, n1, n2, n3, n4] at hk1
    all_goals
    obtain rfl := so_some h
    refine ⟨0, fun L hL => ?_⟩
    simp only [go_sem, ir40, E_impl_IsName_l1, R_impl_IsName_l1, ir40_k0, ir40_o0, ir40_r0, hk1]
  · try simp only [go_sem, n1, n2, n3, n4] at hk1
    all_goals
    obtain ⟨y_5, hk5, h⟩ := bd_some h
    obtain ⟨Lhk5, ehk5⟩ := impl_IsName_l1_ex hk5
    rcases y_5 with y_5a | y_5b
    · dsimp only at h
      obtain rfl := so_some h
      refine ⟨Lhk5, fun L hL => ?_⟩
      have ehk5 := ehk5 L (by omega)
      try simp only [go_sem, E_impl_IsName_l1, R_impl_IsName_l1, ir40_k0, ir40_o0, ir40_r0, hk1] at ehk5
      simp only [go_sem, ir40, E_impl_IsName_l1, R_impl_IsName_l1, ir40_k0, ir40_o0, ir40_r0, hk1, ehk5]
    · dsimp only at h
      obtain rfl := so_some h
      refine ⟨Lhk5, fun L hL => ?_⟩
      have ehk5 := ehk5 L (by omega)
      try simp only [go_sem, E_impl_IsName_l1, R_impl_IsName_l1, ir40_k0, ir40_o0, ir40_r0, hk1] at ehk5
      simp only [go_sem, ir40, E_impl_IsName_l1, R_impl_IsName_l1, ir40_k0, ir40_o0, ir40_r0, hk1, ehk5]


def ir114_v : List Nat := [0, 2]
def ir114 : AFn := ⟨1, 2, .seq (.region false [
    ⟨.var 1, 2, none, .mov (.c (.bool false))⟩])
 (.seq (.region false [
    ⟨.push, 3, none, .mov (.v 0)⟩,
    ⟨.push, 4, none, .call 45 [(.s 0), (.c (.int .i64 (-2000))), (.c (.int .i64 (20000)))]⟩,
    ⟨.var 1, 2, none, .mov (.s 0)⟩])
 (.ret)), [.t 1]⟩
noncomputable def t_impl_ValidMag : List (Nat × Ctr) := [(45, c_impl_in)]
theorem lk_impl_ValidMag_45 : look t_impl_ValidMag 45 = some c_impl_in := rfl
noncomputable def c_impl_ValidMag : Ctr := mkF t_impl_ValidMag ir114 [.bor]
theorem s_impl_ValidMag : Sound Try.prog 114 c_impl_ValidMag := mkF_sound _ rfl (snd_cons s_impl_in snd_nil) (by kernel_rfl : chkFn Try.prog 114 ir114 ir114_v = true)
theorem M_impl_ValidMag : c_impl_ValidMag.modes = [.bor] := rfl
theorem Fl_impl_ValidMag : c_impl_ValidMag.flat = true := rfl
attribute [go_sem] M_impl_ValidMag Fl_impl_ValidMag
attribute [go_sem] lk_impl_ValidMag_45
theorem Fs_impl_ValidMag {m : Int} {y_ : Bool} (h : impl_ValidMag m = some y_) : c_impl_ValidMag.F [.int .i64 m] = ⟨true, .bool y_, [.any]⟩ := by
  refine mkF_E rfl ?_
  dsimp only [impl_ValidMag] at h
  obtain ⟨y_1, hk1, h⟩ := bd_some h
  have fhk1 := Fs_impl_in hk1
  try simp only [go_sem] at fhk1
  obtain rfl := so_some h
  refine ⟨0, fun L hL => ?_⟩
  simp only [go_sem, ir114, fhk1]


def ir79_v : List Nat := [0, 1, 2]
def ir79 : AFn := ⟨1, 3, .seq (.region false [
    ⟨.var 1, 1, none, .box (.v 0)⟩,
    ⟨.var 2, 2, none, .mov (.c (.bool false))⟩])
 (.seq (.region false [
    ⟨.push, 3, none, .fldAddr 0 (.v 1)⟩,
    ⟨.push, 4, none, .load false 1 (.s 0)⟩,
    ⟨.push, 5, none, .call 113 [(.s 0)]⟩,
    ⟨.push, 6, none, .mov (.s 0)⟩,
    ⟨.push, 7, (some ((.s 0), true)), .fldAddr 1 (.v 1)⟩,
    ⟨.push, 8, (some ((.s 1), true)), .load false 1 (.s 0)⟩,
    ⟨.push, 9, (some ((.s 2), true)), .call 40 [(.s 0)]⟩,
    ⟨.push, 10, none, .pick (.s 3) (.s 0) (.c (.bool false))⟩,
    ⟨.push, 11, none, .mov (.s 0)⟩,
    ⟨.push, 12, (some ((.s 0), true)), .fldAddr 2 (.v 1)⟩,
    ⟨.push, 13, (some ((.s 1), true)), .load false 1 (.s 0)⟩,
    ⟨.push, 14, (some ((.s 2), true)), .call 40 [(.s 0)]⟩,
    ⟨.push, 15, none, .pick (.s 3) (.s 0) (.c (.bool false))⟩,
    ⟨.push, 16, none, .mov (.s 0)⟩,
    ⟨.push, 17, (some ((.s 0), true)), .fldAddr 3 (.v 1)⟩,
    ⟨.push, 18, (some ((.s 1), true)), .load false 1 (.s 0)⟩,
    ⟨.push, 19, (some ((.s 2), true)), .call 114 [(.s 0)]⟩,
    ⟨.push, 20, none, .pick (.s 3) (.s 0) (.c (.bool false))⟩,
    ⟨.var 2, 2, none, .mov (.s 0)⟩])
 (.ret)), [.t 2]⟩
noncomputable def t_impl_isEstimate : List (Nat × Ctr) := [(113, c_impl_ValidTime), (40, c_impl_IsName), (114, c_impl_ValidMag)]
theorem lk_impl_isEstimate_113 : look t_impl_isEstimate 113 = some c_impl_ValidTime := rfl
theorem lk_impl_isEstimate_40 : look t_impl_isEstimate 40 = some c_impl_IsName := rfl
theorem lk_impl_isEstimate_114 : look t_impl_isEstimate 114 = some c_impl_ValidMag := rfl
noncomputable def c_impl_isEstimate : Ctr := mkF t_impl_isEstimate ir79 [.bor]
theorem s_impl_isEstimate : Sound Try.prog 79 c_impl_isEstimate := mkF_sound _ rfl (snd_cons s_impl_ValidTime (snd_cons s_impl_IsName (snd_cons s_impl_ValidMag snd_nil))) (by kernel_rfl : chkFn Try.prog 79 ir79 ir79_v = true)
theorem M_impl_isEstimate : c_impl_isEstimate.modes = [.bor] := rfl
theorem Fl_impl_isEstimate : c_impl_isEstimate.flat = true := rfl
attribute [go_sem] M_impl_isEstimate Fl_impl_isEstimate
attribute [go_sem] lk_impl_isEstimate_113 lk_impl_isEstimate_40 lk_impl_isEstimate_114
theorem Fs_impl_isEstimate {e_ : Estimate} {y_ : Bool} (h : impl_isEstimate e_ = some y_) : c_impl_isEstimate.F [Estimate_av e_] = ⟨true, .bool y_, [.any]⟩ := by
  refine mkF_E rfl ?_
  dsimp only [impl_isEstimate] at h
  obtain ⟨y_1, hk1, h⟩ := bd_some h
  have fhk1 := Fs_impl_ValidTime hk1
  try simp only [go_sem] at fhk1
  obtain ⟨hk2, h⟩ := ck_some h
  rcases or_split hk2 with ⟨ghk2, hk2⟩ | ghk2
  · try simp only [go_sem, n1, n2, n3, n4] at ghk2
    all_goals
    obtain ⟨y_2, hhk2⟩ := Option.isSome_iff_exists.1 hk2
    have fhk2 := Fs_impl_IsName hhk2
    try simp only [go_sem, ghk2] at fhk2
    obtain ⟨hk3, h⟩ := ck_some h
    rcases or_split hk3 with ⟨ghk3, hk3⟩ | ghk3
    · try simp only [go_sem, n1, n2, n3, n4, ghk2, hhk2] at ghk3
      all_goals
      obtain ⟨y_3, hhk3⟩ := Option.isSome_iff_exists.1 hk3
      have fhk3 := Fs_impl_IsName hhk3
      try simp only [go_sem, ghk2, hhk2, ghk3] at fhk3
      obtain ⟨hk4, h⟩ := ck_some h
      rcases or_split hk4 with ⟨ghk4, hk4⟩ | ghk4
      · try simp only [go_sem, n1, n2, n3, n4, ghk2, hhk2, ghk3, hhk3] at ghk4
        all_goals
        obtain ⟨y_4, hhk4⟩ := Option.isSome_iff_exists.1 hk4
        have fhk4 := Fs_impl_ValidMag hhk4
        try simp only [go_sem, ghk2, hhk2, ghk3, hhk3, ghk4] at fhk4
        obtain rfl := so_some h
        refine ⟨0, fun L hL => ?_⟩
        simp only [go_sem, ir79, fhk1, ghk2, hhk2, fhk2, ghk3, hhk3, fhk3, ghk4, hhk4, fhk4]
      · rcases and_f ghk4 with ghk4a | ⟨ghk4a, ghk4b⟩
        · rcases and_f ghk4a with ghk4aa | ⟨ghk4aa, ghk4ab⟩
          · try simp only [go_sem, n1, n2, n3, n4, ghk2, hhk2, ghk3, hhk3] at ghk4aa
            all_goals
            obtain rfl := so_some h
            refine ⟨0, fun L hL => ?_⟩
            simp only [go_sem, ir79, fhk1, ghk2, hhk2, fhk2, ghk3, hhk3, fhk3, ghk4aa]
          · try simp only [go_sem, n1, n2, n3, n4, ghk2, hhk2, ghk3, hhk3] at ghk4aa
            all_goals
            try simp only [go_sem, n1, n2, n3, n4, ghk2, hhk2, ghk3, hhk3, ghk4aa] at ghk4ab
            all_goals
            obtain rfl := so_some h
            refine ⟨0, fun L hL => ?_⟩
            simp only [go_sem, ir79, fhk1, ghk2, hhk2, fhk2, ghk3, hhk3, fhk3, ghk4aa, ghk4ab]
        · obtain ⟨ghk4aa, ghk4ab⟩ := and_t ghk4a
          try simp only [go_sem, n1, n2, n3, n4, ghk2, hhk2, ghk3, hhk3] at ghk4aa
          all_goals
          try simp only [go_sem, n1, n2, n3, n4, ghk2, hhk2, ghk3, hhk3, ghk4aa] at ghk4ab
          all_goals
          try simp only [go_sem, n1, n2, n3, n4, ghk2, hhk2, ghk3, hhk3, ghk4aa, ghk4ab] at ghk4b
          all_goals
          obtain rfl := so_some h
          refine ⟨0, fun L hL => ?_⟩
          simp only [go_sem, ir79, fhk1, ghk2, hhk2, fhk2, ghk3, hhk3, fhk3, ghk4aa, ghk4ab, ghk4b]
    · rcases and_f ghk3 with ghk3a | ⟨ghk3a, ghk3b⟩
      · try simp only [go_sem, n1, n2, n3, n4, ghk2, hhk2] at ghk3a
        all_goals
        obtain ⟨hk4, h⟩ := ck_some h
        rcases or_split hk4 with ⟨ghk4, hk4⟩ | ghk4
        · try simp only [go_sem, n1, n2, n3, n4, ghk2, hhk2, ghk3a] at ghk4
          all_goals
          obtain ⟨y_4, hhk4⟩ := Option.isSome_iff_exists.1 hk4
          have fhk4 := Fs_impl_ValidMag hhk4
          try simp only [go_sem, ghk2, hhk2, ghk3a, ghk4] at fhk4
          obtain rfl := so_some h
          refine ⟨0, fun L hL => ?_⟩
          simp only [go_sem, ir79, fhk1, ghk2, hhk2, fhk2, ghk3a, ghk4, hhk4, fhk4]
        · rcases and_f ghk4 with ghk4a | ⟨ghk4a, ghk4b⟩
          · rcases and_f ghk4a with ghk4aa | ⟨ghk4aa, ghk4ab⟩
            · try simp only [go_sem, n1, n2, n3, n4, ghk2, hhk2, ghk3a] at ghk4aa
              all_goals
              obtain rfl := so_some h
              refine ⟨0, fun L hL => ?_⟩
              simp only [go_sem, ir79, fhk1, ghk2, hhk2, fhk2, ghk3a, ghk4aa]
            · try simp only [go_sem, n1, n2, n3, n4, ghk2, hhk2, ghk3a] at ghk4aa
              all_goals
              try simp only [go_sem, n1, n2, n3, n4, ghk2, hhk2, ghk3a, ghk4aa] at ghk4ab
              all_goals
              obtain rfl := so_some h
              refine ⟨0, fun L hL => ?_⟩
              simp only [go_sem, ir79, fhk1, ghk2, hhk2, fhk2, ghk3a, ghk4aa, ghk4ab]
          · obtain ⟨ghk4aa, ghk4ab⟩ := and_t ghk4a
            try simp only [go_sem, n1, n2, n3, n4, ghk2, hhk2, ghk3a] at ghk4aa
            all_goals
            try simp only [go_sem, n1, n2, n3, n4, ghk2, hhk2, ghk3a, ghk4aa] at ghk4ab
            all_goals
            try simp only [go_sem, n1, n2, n3, n4, ghk2, hhk2, ghk3a, ghk4aa, ghk4ab] at ghk4b
            all_goals
            obtain rfl := so_some h
            refine ⟨0, fun L hL => ?_⟩
            simp only [go_sem, ir79, fhk1, ghk2, hhk2, fhk2, ghk3a, ghk4aa, ghk4ab, ghk4b]
      · try simp only [go_sem, n1, n2, n3, n4, ghk2, hhk2] at ghk3a
        all_goals
        try simp only [go_sem, n1, n2, n3, n4, ghk2, hhk2, ghk3a] at ghk3b
        all_goals
        obtain ⟨hk4, h⟩ := ck_some h
        rcases or_split hk4 with ⟨ghk4, hk4⟩ | ghk4
        · try simp only [go_sem, n1, n2, n3, n4, ghk2, hhk2, ghk3a, ghk3b] at ghk4
          all_goals
          obtain ⟨y_4, hhk4⟩ := Option.isSome_iff_exists.1 hk4
          have fhk4 := Fs_impl_ValidMag hhk4
          try simp only [go_sem, ghk2, hhk2, ghk3a, ghk3b, ghk4] at fhk4
          obtain rfl := so_some h
          refine ⟨0, fun L hL => ?_⟩
          simp only [go_sem, ir79, fhk1, ghk2, hhk2, fhk2, ghk3a, ghk3b, ghk4, hhk4, fhk4]
        · rcases and_f ghk4 with ghk4a | ⟨ghk4a, ghk4b⟩
          · rcases and_f ghk4a with ghk4aa | ⟨ghk4aa, ghk4ab⟩
            · try simp only [go_sem, n1, n2, n3, n4, ghk2, hhk2, ghk3a, ghk3b] at ghk4aa
              all_goals
              obtain rfl := so_some h
              refine ⟨0, fun L hL => ?_⟩
              simp only [go_sem, ir79, fhk1, ghk2, hhk2, fhk2, ghk3a, ghk3b, ghk4aa]
            · try simp only [go_sem, n1, n2, n3, n4, ghk2, hhk2, ghk3a, ghk3b] at ghk4aa
              all_goals
              try simp only [go_sem, n1, n2, n3, n4, ghk2, hhk2, ghk3a, ghk3b, ghk4aa] at ghk4ab
              all_goals
              obtain rfl := so_some h
              refine ⟨0, fun L hL => ?_⟩
              simp only [go_sem, ir79, fhk1, ghk2, hhk2, fhk2, ghk3a, ghk3b, ghk4aa, ghk4ab]
          · obtain ⟨ghk4aa, ghk4ab⟩ := and_t ghk4a
            try simp only [go_sem, n1, n2, n3, n4, ghk2, hhk2, ghk3a, ghk3b] at ghk4aa
            all_goals
            try simp only [go_sem, n1, n2, n3, n4, ghk2, hhk2, ghk3a, ghk3b, ghk4aa] at ghk4ab
            all_goals
            try simp only [go_sem, n1, n2, n3, n4, ghk2, hhk2, ghk3a, ghk3b, ghk4aa, ghk4ab] at ghk4b
            all_goals
            obtain rfl := so_some h
            refine ⟨0, fun L hL => ?_⟩
            simp only [go_sem, ir79, fhk1, ghk2, hhk2, fhk2, ghk3a, ghk3b, ghk4aa, ghk4ab, ghk4b]
  · try simp only [go_sem, n1, n2, n3, n4] at ghk2
    all_goals
    obtain ⟨hk3, h⟩ := ck_some h
    rcases or_split hk3 with ⟨ghk3, hk3⟩ | ghk3
    · try simp only [go_sem, n1, n2, n3, n4, ghk2] at ghk3
      all_goals
      obtain ⟨y_3, hhk3⟩ := Option.isSome_iff_exists.1 hk3
      have fhk3 := Fs_impl_IsName hhk3
      try simp only [go_sem, ghk2, ghk3] at fhk3
      obtain ⟨hk4, h⟩ := ck_some h
      rcases or_split hk4 with ⟨ghk4, hk4⟩ | ghk4
      · try simp only [go_sem, n1, n2, n3, n4, ghk2, ghk3, hhk3] at ghk4
        all_goals
        obtain ⟨y_4, hhk4⟩ := Option.isSome_iff_exists.1 hk4
        have fhk4 := Fs_impl_ValidMag hhk4
        try simp only [go_sem, ghk2, ghk3, hhk3, ghk4] at fhk4
        obtain rfl := so_some h
        refine ⟨0, fun L hL => ?_⟩
        simp only [go_sem, ir79, fhk1, ghk2, ghk3, hhk3, fhk3, ghk4, hhk4, fhk4]
      · rcases and_f ghk4 with ghk4a | ⟨ghk4a, ghk4b⟩
        · rcases and_f ghk4a with ghk4aa | ⟨ghk4aa, ghk4ab⟩
          · try simp only [go_sem, n1, n2, n3, n4, ghk2, ghk3, hhk3] at ghk4aa
            all_goals
            obtain rfl := so_some h
            refine ⟨0, fun L hL => ?_⟩
            simp only [go_sem, ir79, fhk1, ghk2, ghk3, hhk3, fhk3, ghk4aa]
          · try simp only [go_sem, n1, n2, n3, n4, ghk2, ghk3, hhk3] at ghk4aa
            all_goals
            try simp only [go_sem, n1, n2, n3, n4, ghk2, ghk3, hhk3, ghk4aa] at ghk4ab
            all_goals
            obtain rfl := so_some h
            refine ⟨0, fun L hL => ?_⟩
            simp only [go_sem, ir79, fhk1, ghk2, ghk3, hhk3, fhk3, ghk4aa, ghk4ab]
        · obtain ⟨ghk4aa, ghk4ab⟩ := and_t ghk4a
          try simp only [go_sem, n1, n2, n3, n4, ghk2, ghk3, hhk3] at ghk4aa
          all_goals
          try simp only [go_sem, n1, n2, n3, n4, ghk2, ghk3, hhk3, ghk4aa] at ghk4ab
          all_goals
          try simp only [go_sem, n1, n2, n3, n4, ghk2, ghk3, hhk3, ghk4aa, ghk4ab] at ghk4b
          all_goals
          obtain rfl := so_some h
          refine ⟨0, fun L hL => ?_⟩
          simp only [go_sem, ir79, fhk1, ghk2, ghk3, hhk3, fhk3, ghk4aa, ghk4ab, ghk4b]
    · rcases and_f ghk3 with ghk3a | ⟨ghk3a, ghk3b⟩
      · try simp only [go_sem, n1, n2, n3, n4, ghk2] at ghk3a
        all_goals
        obtain ⟨hk4, h⟩ := ck_some h
        rcases or_split hk4 with ⟨ghk4, hk4⟩ | ghk4
        · try simp only [go_sem, n1, n2, n3, n4, ghk2, ghk3a] at ghk4
          all_goals
          obtain ⟨y_4, hhk4⟩ := Option.isSome_iff_exists.1 hk4
          have fhk4 := Fs_impl_ValidMag hhk4
          try simp only [go_sem, ghk2, ghk3a, ghk4] at fhk4
          obtain rfl := so_some h
          refine ⟨0, fun L hL => ?_⟩
          simp only [go_sem, ir79, fhk1, ghk2, ghk3a, ghk4, hhk4, fhk4]
        · rcases and_f ghk4 with ghk4a | ⟨ghk4a, ghk4b⟩
          · rcases and_f ghk4a with ghk4aa | ⟨ghk4aa, ghk4ab⟩
            · try simp only [go_sem, n1, n2, n3, n4, ghk2, ghk3a] at ghk4aa
              all_goals
              obtain rfl := so_some h
              refine ⟨0, fun L hL => ?_⟩
              simp only [go_sem, ir79, fhk1, ghk2, ghk3a, ghk4aa]
            · try simp only [go_sem, n1, n2, n3, n4, ghk2, ghk3a] at ghk4aa
              all_goals
              try simp only [go_sem, n1, n2, n3, n4, ghk2, ghk3a, ghk4aa] at ghk4ab
              all_goals
              obtain rfl := so_some h
              refine ⟨0, fun L hL => ?_⟩
              simp only [go_sem, ir79, fhk1, ghk2, ghk3a, ghk4aa, ghk4ab]
          · obtain ⟨ghk4aa, ghk4ab⟩ := and_t ghk4a
            try simp only [go_sem, n1, n2, n3, n4, ghk2, ghk3a] at ghk4aa
            all_goals
            try simp only [go_sem, n1, n2, n3, n4, ghk2, ghk3a, ghk4aa] at ghk4ab
            all_goals
            try simp only [go_sem, n1, n2, n3, n4, ghk2, ghk3a, ghk4aa, ghk4ab] at ghk4b
            all_goals
            obtain rfl := so_some h
            refine ⟨0, fun L hL => ?_⟩
            simp only [go_sem, ir79, fhk1, ghk2, ghk3a, ghk4aa, ghk4ab, ghk4b]
      · try simp only [go_sem, n1, n2, n3, n4, ghk2] at ghk3a
        all_goals
        try simp only [go_sem, n1, n2, n3, n4, ghk2, ghk3a] at ghk3b
        all_goals
        obtain ⟨hk4, h⟩ := ck_some h
        rcases or_split hk4 with ⟨ghk4, hk4⟩ | ghk4
        · try simp only [go_sem, n1, n2, n3, n4, ghk2, ghk3a, ghk3b] at ghk4
          all_goals
          obtain ⟨y_4, hhk4⟩ := Option.isSome_iff_exists.1 hk4
          have fhk4 := Fs_impl_ValidMag hhk4
          try simp only [go_sem, ghk2, ghk3a, ghk3b, ghk4] at fhk4
          obtain rfl := so_some h
          refine ⟨0, fun L hL => ?_⟩
          simp only [go_sem, ir79, fhk1, ghk2, ghk3a, ghk3b, ghk4, hhk4, fhk4]
        · rcases and_f ghk4 with ghk4a | ⟨ghk4a, ghk4b⟩
          · rcases and_f ghk4a with ghk4aa | ⟨ghk4aa, ghk4ab⟩
            · try simp only [go_sem, n1, n2, n3, n4, ghk2, ghk3a, ghk3b] at ghk4aa
              all_goals
              obtain rfl := so_some h
              refine ⟨0, fun L hL => ?_⟩
              simp only [go_sem, ir79, fhk1, ghk2, ghk3a, ghk3b, ghk4aa]
            · try simp only [go_sem, n1, n2, n3, n4, ghk2, ghk3a, ghk3b] at ghk4aa
              all_goals
              try simp only [go_sem, n1, n2, n3, n4, ghk2, ghk3a, ghk3b, ghk4aa] at ghk4ab
              all_goals
              obtain rfl := so_some h
              refine ⟨0, fun L hL => ?_⟩
              simp only [go_sem, ir79, fhk1, ghk2, ghk3a, ghk3b, ghk4aa, ghk4ab]
          · obtain ⟨ghk4aa, ghk4ab⟩ := and_t ghk4a
            try simp only [go_sem, n1, n2, n3, n4, ghk2, ghk3a, ghk3b] at ghk4aa
            all_goals
            try simp only [go_sem, n1, n2, n3, n4, ghk2, ghk3a, ghk3b, ghk4aa] at ghk4ab
            all_goals
            try simp only [go_sem, n1, n2, n3, n4, ghk2, ghk3a, ghk3b, ghk4aa, ghk4ab] at ghk4b
            all_goals
            obtain rfl := so_some h
            refine ⟨0, fun L hL => ?_⟩
            simp only [go_sem, ir79, fhk1, ghk2, ghk3a, ghk3b, ghk4aa, ghk4ab, ghk4b]


def ir128_v : List Nat := [0, 2]
def ir128 : AFn := ⟨1, 2, .seq (.region false [
    ⟨.var 1, 2, none, .mov (.c (.bool false))⟩])
 (.seq (.region false [
    ⟨.push, 3, none, .mov (.v 0)⟩,
    ⟨.push, 4, none, .mov (.v 0)⟩,
    ⟨.push, 5, none, .bin false .neq (.s 1) (.s 0)⟩,
    ⟨.var 1, 2, none, .mov (.s 0)⟩])
 (.ret)), [.t 1]⟩
noncomputable def t_cmp_isNaN_int64 : List (Nat × Ctr) := []
noncomputable def c_cmp_isNaN_int64 : Ctr := mkF t_cmp_isNaN_int64 ir128 [.bor]
theorem s_cmp_isNaN_int64 : Sound Try.prog 128 c_cmp_isNaN_int64 := mkF_sound _ rfl snd_nil (by kernel_rfl : chkFn Try.prog 128 ir128 ir128_v = true)
theorem M_cmp_isNaN_int64 : c_cmp_isNaN_int64.modes = [.bor] := rfl
theorem Fl_cmp_isNaN_int64 : c_cmp_isNaN_int64.flat = true := rfl
attribute [go_sem] M_cmp_isNaN_int64 Fl_cmp_isNaN_int64
theorem Fs_cmp_isNaN_int64 {x : Int} {y_ : Bool} (h : cmp_isNaN_int64 x = some y_) : c_cmp_isNaN_int64.F [.int .i64 x] = ⟨true, .bool y_, [.any]⟩ := by
  refine mkF_E rfl ?_
  dsimp only [cmp_isNaN_int64] at h
  obtain rfl := so_some h
  refine ⟨0, fun L hL => ?_⟩
  simp only [go_sem, ir128]


def ir116_v : List Nat := [0, 1, 4, 5, 6]
def ir116 : AFn := ⟨2, 5, .seq (.region false [
    ⟨.var 2, 4, none, .mov (.c (.int .i64 (0)))⟩])
 (.seq (.region false [
    ⟨.push, 7, none, .mov (.v 0)⟩,
    ⟨.push, 8, none, .call 128 [(.s 0)]⟩,
    ⟨.var 3, 5, none, .mov (.s 0)⟩])
 (.seq (.region false [
    ⟨.push, 9, none, .mov (.v 1)⟩,
    ⟨.push, 10, none, .call 128 [(.s 0)]⟩,
    ⟨.var 4, 6, none, .mov (.s 0)⟩])
 (.seq (.test false [
    ⟨.push, 11, none, .mov (.v 3)⟩] (.s 0)
  (.seq (.test false [
      ⟨.push, 12, none, .mov (.v 4)⟩] (.s 0)
    (.seq (.region false [
        ⟨.var 2, 4, none, .mov (.c (.int .i64 (0)))⟩])
     (.ret))
    (.skip))
   (.seq (.region false [
      ⟨.var 2, 4, none, .mov (.c (.int .i64 (-1)))⟩])
   (.ret)))
  (.skip))
 (.seq (.test false [
    ⟨.push, 13, none, .mov (.v 4)⟩] (.s 0)
  (.seq (.region false [
      ⟨.var 2, 4, none, .mov (.c (.int .i64 (1)))⟩])
   (.ret))
  (.skip))
 (.seq (.test false [
    ⟨.push, 14, none, .mov (.v 0)⟩,
    ⟨.push, 15, none, .mov (.v 1)⟩,
    ⟨.push, 16, none, .bin false .lss (.s 1) (.s 0)⟩] (.s 0)
  (.seq (.region false [
      ⟨.var 2, 4, none, .mov (.c (.int .i64 (-1)))⟩])
   (.ret))
  (.skip))
 (.seq (.test false [
    ⟨.push, 17, none, .mov (.v 0)⟩,
    ⟨.push, 18, none, .mov (.v 1)⟩,
    ⟨.push, 19, none, .bin false .gtr (.s 1) (.s 0)⟩] (.s 0)
  (.seq (.region false [
      ⟨.var 2, 4, none, .mov (.c (.int .i64 (1)))⟩])
   (.ret))
  (.skip))
 (.seq (.region false [
    ⟨.var 2, 4, none, .mov (.c (.int .i64 (0)))⟩])
 (.ret)))))))), [.t 2]⟩
noncomputable def t_cmp_Compare_int64 : List (Nat × Ctr) := [(128, c_cmp_isNaN_int64)]
theorem lk_cmp_Compare_int64_128 : look t_cmp_Compare_int64 128 = some c_cmp_isNaN_int64 := rfl
noncomputable def c_cmp_Compare_int64 : Ctr := mkF t_cmp_Compare_int64 ir116 [.bor, .bor]
theorem s_cmp_Compare_int64 : Sound Try.prog 116 c_cmp_Compare_int64 := mkF_sound _ rfl (snd_cons s_cmp_isNaN_int64 snd_nil) (by kernel_rfl : chkFn Try.prog 116 ir116 ir116_v = true)
theorem M_cmp_Compare_int64 : c_cmp_Compare_int64.modes = [.bor, .bor] := rfl
theorem Fl_cmp_Compare_int64 : c_cmp_Compare_int64.flat = true := rfl
attribute [go_sem] M_cmp_Compare_int64 Fl_cmp_Compare_int64
attribute [go_sem] lk_cmp_Compare_int64_128
theorem Fs_cmp_Compare_int64 {x : Int} {y : Int} {y_ : Int} (h : cmp_Compare_int64 x y = some y_) : c_cmp_Compare_int64.F [.int .i64 x, .int .i64 y] = ⟨true, .int .i64 y_, [.any, .any]⟩ := by
  refine mkF_E rfl ?_
  dsimp only [cmp_Compare_int64] at h
  obtain ⟨y_1, hk1, h⟩ := bd_some h
  have fhk1 := Fs_cmp_isNaN_int64 hk1
  try simp only [go_sem] at fhk1
  obtain ⟨y_2, hk2, h⟩ := bd_some h
  have fhk2 := Fs_cmp_isNaN_int64 hk2
  try simp only [go_sem] at fhk2
  rcases it_some h with ⟨hk3, h⟩ | ⟨hk3, h⟩
  · try simp only [go_sem, n1, n2, n3, n4] at hk3
    all_goals
    rcases it_some h with ⟨hk4, h⟩ | ⟨hk4, h⟩
    · try simp only [go_sem, n1, n2, n3, n4, hk3] at hk4
      all_goals
      obtain rfl := so_some h
      refine ⟨0, fun L hL => ?_⟩
      simp only [go_sem, ir116, fhk1, fhk2, hk3, hk4]
    · try simp only [go_sem, n1, n2, n3, n4, hk3] at hk4
      all_goals
      obtain rfl := so_some h
      refine ⟨0, fun L hL => ?_⟩
      simp only [go_sem, ir116, fhk1, fhk2, hk3, hk4]
  · try simp only [go_sem, n1, n2, n3, n4] at hk3
    all_goals
    rcases it_some h with ⟨hk5, h⟩ | ⟨hk5, h⟩
    · try simp only [go_sem, n1, n2, n3, n4, hk3] at hk5
      all_goals
      obtain rfl := so_some h
      refine ⟨0, fun L hL => ?_⟩
      simp only [go_sem, ir116, fhk1, fhk2, hk3, hk5]
    · try simp only [go_sem, n1, n2, n3, n4, hk3] at hk5
      all_goals
      rcases it_some h with ⟨hk6, h⟩ | ⟨hk6, h⟩
      · try simp only [go_sem, n1, n2, n3, n4, hk3, hk5] at hk6
        all_goals
        obtain rfl := so_some h
        refine ⟨0, fun L hL => ?_⟩
        simp only [go_sem, ir116, fhk1, fhk2, hk3, hk5, hk6]
      · try simp only [go_sem, n1, n2, n3, n4, hk3, hk5] at hk6
        all_goals
        rcases it_some h with ⟨hk7, h⟩ | ⟨hk7, h⟩
        · try simp only [go_sem, n1, n2, n3, n4, hk3, hk5, hk6] at hk7
          all_goals
          obtain rfl := so_some h
          refine ⟨0, fun L hL => ?_⟩
          simp only [go_sem, ir116, fhk1, fhk2, hk3, hk5, hk6, hk7]
        · try simp only [go_sem, n1, n2, n3, n4, hk3, hk5, hk6] at hk7
          all_goals
          obtain rfl := so_some h
          refine ⟨0, fun L hL => ?_⟩
          simp only [go_sem, ir116, fhk1, fhk2, hk3, hk5, hk6, hk7]


theorem s_hCmp : Sound Try.prog 133 c_hCmp := hCmp_sound Try.func133 (by kernel_rfl) (by kernel_rfl) (by kernel_rfl) (by kernel_rfl)

def ir129_v : List Nat := [0, 1, 4]
def ir129 : AFn := ⟨2, 3, .seq (.region false [
    ⟨.var 2, 4, none, .mov (.c (.int .i64 (0)))⟩])
 (.seq (.region false [
    ⟨.push, 5, none, .mov (.v 0)⟩,
    ⟨.push, 6, none, .mov (.v 1)⟩,
    ⟨.push, 7, none, .call 133 [(.s 1), (.s 0)]⟩,
    ⟨.var 2, 4, none, .mov (.s 0)⟩])
 (.ret)), [.t 2]⟩
noncomputable def t_internal_bytealg_CompareString : List (Nat × Ctr) := [(133, c_hCmp)]
theorem lk_internal_bytealg_CompareString_133 : look t_internal_bytealg_CompareString 133 = some c_hCmp := rfl
noncomputable def c_internal_bytealg_CompareString : Ctr := mkF t_internal_bytealg_CompareString ir129 [.bor, .bor]
theorem s_internal_bytealg_CompareString : Sound Try.prog 129 c_internal_bytealg_CompareString := mkF_sound _ rfl (snd_cons s_hCmp snd_nil) (by kernel_rfl : chkFn Try.prog 129 ir129 ir129_v = true)
theorem M_internal_bytealg_CompareString : c_internal_bytealg_CompareString.modes = [.bor, .bor] := rfl
theorem Fl_internal_bytealg_CompareString : c_internal_bytealg_CompareString.flat = true := rfl
attribute [go_sem] M_internal_bytealg_CompareString Fl_internal_bytealg_CompareString
attribute [go_sem] lk_internal_bytealg_CompareString_133
theorem Fs_internal_bytealg_CompareString {a : List UInt8} {b : List UInt8} {y_ : Int} (h : internal_bytealg_CompareString a b = some y_) : c_internal_bytealg_CompareString.F [.str a, .str b] = ⟨true, .int .i64 y_, [.any, .any]⟩ := by
  refine mkF_E rfl ?_
  dsimp only [internal_bytealg_CompareString] at h
  obtain ⟨y_1, hk1, h⟩ := bd_some h
  have fhk1 := Fs_hCmp hk1
  try simp only [go_sem] at fhk1
  obtain rfl := so_some h
  refine ⟨0, fun L hL => ?_⟩
  simp only [go_sem, ir129, fhk1]


def ir117_v : List Nat := [0, 1, 4]
def ir117 : AFn := ⟨2, 3, .seq (.region false [
    ⟨.var 2, 4, none, .mov (.c (.int .i64 (0)))⟩])
 (.seq (.region false [
    ⟨.push, 5, none, .mov (.v 0)⟩,
    ⟨.push, 6, none, .mov (.v 1)⟩,
    ⟨.push, 7, none, .call 129 [(.s 1), (.s 0)]⟩,
    ⟨.var 2, 4, none, .mov (.s 0)⟩])
 (.ret)), [.t 2]⟩
noncomputable def t_strings_Compare : List (Nat × Ctr) := [(129, c_internal_bytealg_CompareString)]
theorem lk_strings_Compare_129 : look t_strings_Compare 129 = some c_internal_bytealg_CompareString := rfl
noncomputable def c_strings_Compare : Ctr := mkF t_strings_Compare ir117 [.bor, .bor]
theorem s_strings_Compare : Sound Try.prog 117 c_strings_Compare := mkF_sound _ rfl (snd_cons s_internal_bytealg_CompareString snd_nil) (by kernel_rfl : chkFn Try.prog 117 ir117 ir117_v = true)
theorem M_strings_Compare : c_strings_Compare.modes = [.bor, .bor] := rfl
theorem Fl_strings_Compare : c_strings_Compare.flat = true := rfl
attribute [go_sem] M_strings_Compare Fl_strings_Compare
attribute [go_sem] lk_strings_Compare_129
theorem Fs_strings_Compare {a : List UInt8} {b : List UInt8} {y_ : Int} (h : strings_Compare a b = some y_) : c_strings_Compare.F [.str a, .str b] = ⟨true, .int .i64 y_, [.any, .any]⟩ := by
  refine mkF_E rfl ?_
  dsimp only [strings_Compare] at h
  obtain ⟨y_1, hk1, h⟩ := bd_some h
  have fhk1 := Fs_internal_bytealg_CompareString hk1
  try simp only [go_sem] at fhk1
  obtain rfl := so_some h
  refine ⟨0, fun L hL => ?_⟩
  simp only [go_sem, ir117, fhk1]


def ir115_b0 : IR := .seq (.region false [
    ⟨.var 7, 9, none, .bin false .lss (.v 6) (.v 5)⟩])
 (.seq (.cond (.v 7) (.skip)
  (.exit 0))
 (.seq (.block 1 (.seq (.region false [
      ⟨.push, 10, none, .ixAddr 1 (.v 4) (.v 6)⟩,
      ⟨.push, 11, none, .load false 1 (.s 0)⟩,
      ⟨.var 3, 5, none, .mov (.s 0)⟩])
   (.test false [
     ⟨.push, 12, none, .mov (.v 3)⟩,
     ⟨.push, 13, none, .mov (.v 2)⟩,
     ⟨.push, 14, none, .bin false .neq (.s 1) (.s 0)⟩] (.s 0)
   (.seq (.region false [
       ⟨.push, 15, none, .mov (.v 3)⟩,
       ⟨.var 1, 2, none, .mov (.s 0)⟩])
    (.ret))
   (.skip))))
 (.region false [
   ⟨.push, 16, none, .bin false .add (.v 6) (.c (.int .i64 (1)))⟩,
   ⟨.var 6, 8, none, .mov (.s 0)⟩])))
def ir115_k0 : List Bool := [false, false, true, false, true, true, true, false]
def ir115_o0 : List Bool := [false, false, true, false, false, false, false, false]
def ir115_r0 : List Bool := [false, true, false, false, false, false, false, false]
def ir115_v : List Nat := [0, 2, 3, 5, 6, 7, 8, 9]
def ir115 : AFn := ⟨1, 8, .seq (.region false [
    ⟨.var 1, 2, none, .mov (.c (.int .i64 (0)))⟩])
 (.seq (.region false [
    ⟨.var 2, 3, none, .mov (.c (.int .i64 (0)))⟩])
 (.seq (.seq (.region false [
     ⟨.var 4, 6, none, .mov (.v 0)⟩,
     ⟨.var 5, 7, none, .len false (.v 4)⟩,
     ⟨.var 6, 8, none, .mov (.c (.int .i64 (0)))⟩])
  (.block 0 (.loop ir115_k0 ir115_o0 ir115_r0 ir115_b0)))
 (.seq (.region false [
    ⟨.push, 17, none, .mov (.v 2)⟩,
    ⟨.var 1, 2, none, .mov (.s 0)⟩])
 (.ret)))), [.t 1]⟩
noncomputable def t_cmp_Or_int : List (Nat × Ctr) := []
noncomputable def c_cmp_Or_int : Ctr := mkF t_cmp_Or_int ir115 [.bor]
theorem s_cmp_Or_int : Sound Try.prog 115 c_cmp_Or_int := mkF_sound _ rfl snd_nil (by kernel_rfl : chkFn Try.prog 115 ir115 ir115_v = true)
theorem M_cmp_Or_int : c_cmp_Or_int.modes = [.bor] := rfl
theorem Fl_cmp_Or_int : c_cmp_Or_int.flat = true := rfl
attribute [go_sem] M_cmp_Or_int Fl_cmp_Or_int
def E_cmp_Or_int_l1 (zero : Int) (t6 : List Int) (t7 : Int) : Int → St
  | t8 => ⟨[.any, .any, .int .i64 zero, .any, .sl 1 (List.map (AV.int .i64) t6), .int .i64 t7, .int .i64 t8, .any], [], [], true⟩
def R_cmp_Or_int_l1 (zero : Int) (t6 : List Int) (t7 : Int) : (Unit ⊕ Int) → Res
  | .inl y => (.exit 0, ⟨[.any, .any, .int .i64 zero, .any, .any, .any, .any, .any], [], [], true⟩)
  | .inr y => (.ret, ⟨[.any, .int .i64 y, .any, .any, .any, .any, .any, .any], [], [], true⟩)
theorem cmp_Or_int_l1_ex {zero : Int} {t6 : List Int} {t7 : Int} {sgm_ : Int} {rho_ : Unit ⊕ Int} (h : whileE (cmp_Or_int_l1 zero t6 t7) sgm_ = some rho_) : ∃ L0, ∀ L, L0 ≤ L → iter (exec (look t_cmp_Or_int) L ir115_b0) ir115_k0 ir115_o0 ir115_r0 L (E_cmp_Or_int_l1 zero t6 t7 sgm_) = R_cmp_Or_int_l1 zero t6 t7 rho_ := by
  refine loop_ex (E := E_cmp_Or_int_l1 zero t6 t7) (R := R_cmp_Or_int_l1 zero t6 t7) (fun y => by first | (intro c; cases c) | (rcases y with y | y <;> (intro c; cases c)) | (rcases y with y | y | y <;> (intro c; cases c))) ?_ h
  clear h
  intro t8 o_ h
  dsimp only [cmp_Or_int_l1] at h
  rcases it_some h with ⟨hk1, h⟩ | ⟨hk1, h⟩
  · try simp only [go_sem, n1, n2, n3, n4] at hk1
    all_goals
    obtain ⟨hk2, h⟩ := ck_some h
    have lhk2 := ix_lt hk2
    have xhk2 := getD_mapD (AV.int .i64) t6 lhk2
    try simp only [go_sem] at lhk2
    try simp only [go_sem] at xhk2
    try simp only [go_sem, n1, n2, n3, n4, hk1] at hk2
    all_goals
    rcases it_some h with ⟨hk3, h⟩ | ⟨hk3, h⟩
    · try simp only [go_sem, n1, n2, n3, n4, hk1, hk2] at hk3
      all_goals
      obtain rfl := so_some h
      refine ⟨0, fun L hL => ?_⟩
      simp only [go_sem, ir115, E_cmp_Or_int_l1, R_cmp_Or_int_l1, ir115_b0, ir115_k0, ir115_o0, ir115_r0, hk1, hk2, lhk2, xhk2, hk3]
    · try simp only [go_sem, n1, n2, n3, n4, hk1, hk2] at hk3
      all_goals
      obtain rfl := so_some h
      refine ⟨0, fun L hL => ?_⟩
      simp only [go_sem, ir115, E_cmp_Or_int_l1, R_cmp_Or_int_l1, ir115_b0, ir115_k0, ir115_o0, ir115_r0, hk1, hk2, lhk2, xhk2, hk3]
  · try simp only [go_sem, n1, n2, n3, n4] at hk1
    all_goals
    obtain rfl := so_some h
    refine ⟨0, fun L hL => ?_⟩
    simp only [go_sem, ir115, E_cmp_Or_int_l1, R_cmp_Or_int_l1, ir115_b0, ir115_k0, ir115_o0, ir115_r0, hk1]

theorem Fs_cmp_Or_int {vals : List Int} {y_ : Int} (h : cmp_Or_int vals = some y_) : c_cmp_Or_int.F [.sl 1 (List.map (AV.int .i64) vals)] = ⟨true, .int .i64 y_, [.any]⟩ := by
  refine mkF_E rfl ?_
  dsimp only [cmp_Or_int] at h
  obtain ⟨y_4, hk4, h⟩ := bd_some h
  obtain ⟨Lhk4, ehk4⟩ := cmp_Or_int_l1_ex hk4
  rcases y_4 with y_4a | y_4b
  · dsimp only at h
    obtain rfl := so_some h
    refine ⟨Lhk4, fun L hL => ?_⟩
    have ehk4 := ehk4 L (by omega)
    try simp only [go_sem, E_cmp_Or_int_l1, R_cmp_Or_int_l1, ir115_k0, ir115_o0, ir115_r0] at ehk4
    simp only [go_sem, ir115, E_cmp_Or_int_l1, R_cmp_Or_int_l1, ir115_k0, ir115_o0, ir115_r0, ehk4]
  · dsimp only at h
    obtain rfl := so_some h
    refine ⟨Lhk4, fun L hL => ?_⟩
    have ehk4 := ehk4 L (by omega)
    try simp only [go_sem, E_cmp_Or_int_l1, R_cmp_Or_int_l1, ir115_k0, ir115_o0, ir115_r0] at ehk4
    simp only [go_sem, ir115, E_cmp_Or_int_l1, R_cmp_Or_int_l1, ir115_k0, ir115_o0, ir115_r0, ehk4]


def ir80_v : List Nat := [0, 1, 2, 3, 4]
def ir80 : AFn := ⟨2, 5, .seq (.region false [
    ⟨.var 2, 2, none, .box (.v 0)⟩,
    ⟨.var 3, 3, none, .box (.v 1)⟩,
    ⟨.var 4, 4, none, .mov (.c (.int .i64 (0)))⟩])
 (.seq (.anyo 17 [
    ⟨.slot 0, 5, none, .fldAddr 0 (.v 2)⟩,
    ⟨.slot 1, 6, none, .load false 1 (.s 0)⟩,
    ⟨.slot 2, 7, none, .fldAddr 0 (.v 3)⟩,
    ⟨.slot 3, 8, none, .load false 1 (.s 2)⟩,
    ⟨.slot 4, 9, none, .callp 116 [(.s 1), (.s 3)]⟩,
    ⟨.slot 5, 10, none, .fldAddr 1 (.v 2)⟩,
    ⟨.slot 6, 11, none, .load false 1 (.s 5)⟩,
    ⟨.slot 7, 12, none, .fldAddr 1 (.v 3)⟩,
    ⟨.slot 8, 13, none, .load false 1 (.s 7)⟩,
    ⟨.slot 9, 14, none, .callp 117 [(.s 6), (.s 8)]⟩,
    ⟨.slot 10, 15, none, .fldAddr 2 (.v 2)⟩,
    ⟨.slot 11, 16, none, .load false 1 (.s 10)⟩,
    ⟨.slot 12, 17, none, .fldAddr 2 (.v 3)⟩,
    ⟨.slot 13, 18, none, .load false 1 (.s 12)⟩,
    ⟨.slot 14, 19, none, .callp 117 [(.s 11), (.s 13)]⟩,
    ⟨.slot 15, 20, none, .pur (.mkSl 1 (.int .i64 (0)) 3 [(0, (.s 4)), (1, (.s 9)), (2, (.s 14))])⟩,
    ⟨.slot 16, 21, none, .callp 115 [(.s 15)]⟩,
    ⟨.var 4, 4, none, .mov (.s 16)⟩] [] .skip)
 (.ret)), [.t 4]⟩
noncomputable def t_impl_compareEstimates : List (Nat × Ctr) := [(116, c_cmp_Compare_int64), (117, c_strings_Compare), (115, c_cmp_Or_int)]
theorem lk_impl_compareEstimates_116 : look t_impl_compareEstimates 116 = some c_cmp_Compare_int64 := rfl
theorem lk_impl_compareEstimates_117 : look t_impl_compareEstimates 117 = some c_strings_Compare := rfl
theorem lk_impl_compareEstimates_115 : look t_impl_compareEstimates 115 = some c_cmp_Or_int := rfl
noncomputable def c_impl_compareEstimates : Ctr := mkF t_impl_compareEstimates ir80 [.bor, .bor]
theorem s_impl_compareEstimates : Sound Try.prog 80 c_impl_compareEstimates := mkF_sound _ rfl (snd_cons s_cmp_Compare_int64 (snd_cons s_strings_Compare (snd_cons s_cmp_Or_int snd_nil))) (by kernel_rfl : chkFn Try.prog 80 ir80 ir80_v = true)
theorem M_impl_compareEstimates : c_impl_compareEstimates.modes = [.bor, .bor] := rfl
theorem Fl_impl_compareEstimates : c_impl_compareEstimates.flat = true := rfl
attribute [go_sem] M_impl_compareEstimates Fl_impl_compareEstimates
attribute [go_sem] lk_impl_compareEstimates_116 lk_impl_compareEstimates_117 lk_impl_compareEstimates_115
theorem Fs_impl_compareEstimates {a : Estimate} {b : Estimate} {y_ : Int} (h : impl_compareEstimates a b = some y_) : c_impl_compareEstimates.F [Estimate_av a, Estimate_av b] = ⟨true, .int .i64 y_, [.any, .any]⟩ := by
  refine mkF_E rfl ?_
  dsimp only [impl_compareEstimates] at h
  obtain ⟨y_1, hk1, h⟩ := bd_some h
  have fhk1 := Fs_cmp_Compare_int64 hk1
  try simp only [go_sem] at fhk1
  obtain ⟨y_2, hk2, h⟩ := bd_some h
  have fhk2 := Fs_strings_Compare hk2
  try simp only [go_sem] at fhk2
  obtain ⟨y_3, hk3, h⟩ := bd_some h
  have fhk3 := Fs_strings_Compare hk3
  try simp only [go_sem] at fhk3
  obtain ⟨y_4, hk4, h⟩ := bd_some h
  have fhk4 := Fs_cmp_Or_int hk4
  try simp only [go_sem] at fhk4
  obtain rfl := so_some h
  refine ⟨0, fun L hL => ?_⟩
  simp only [go_sem, ir80, fhk1, fhk2, fhk3, fhk4]


def ir39_b0 : IR := .seq (.region false [
    ⟨.var 7, 11, none, .bin false .lss (.v 6) (.v 5)⟩])
 (.seq (.cond (.v 7) (.skip)
  (.exit 0))
 (.seq (.block 1 (.seq (.region false [
      ⟨.push, 12, none, .mov (.v 6)⟩,
      ⟨.push, 13, none, .ixAddr 5 (.v 4) (.v 6)⟩,
      ⟨.push, 14, none, .load true 5 (.s 0)⟩,
      ⟨.var 3, 4, none, .alloc (.agg [.int .i64 (0), .str [], .str [], .int .i64 (0), .bool false])⟩,
      ⟨.var 2, 3, none, .mov (.s 2)⟩,
      ⟨.no, 0, none, .store 5 (.v 3) (.s 0)⟩])
   (.anyo 17 [
     ⟨.slot 0, 15, none, .load true 5 (.v 3)⟩,
     ⟨.slot 1, 16, none, .callp 79 [(.s 0)]⟩,
     ⟨.slot 2, 17, none, .un .not (.s 1)⟩,
     ⟨.slot 3, 18, none, .mov (.s 2)⟩,
     ⟨.slot 4, 19, (some ((.s 3), false)), .mov (.v 2)⟩,
     ⟨.slot 5, 20, (some ((.s 3), false)), .bin false .gtr (.s 4) (.c (.int .i64 (0)))⟩,
     ⟨.slot 6, 21, (some ((.s 3), false)), .mov (.s 5)⟩,
     ⟨.slot 7, 22, (some ((.s 6), true)), .mov (.v 0)⟩,
     ⟨.slot 8, 23, (some ((.s 6), true)), .mov (.v 2)⟩,
     ⟨.slot 9, 24, (some ((.s 6), true)), .bin false .sub (.s 8) (.c (.int .i64 (1)))⟩,
     ⟨.slot 10, 25, (some ((.s 6), true)), .ixAddr 5 (.s 7) (.s 9)⟩,
     ⟨.slot 11, 26, (some ((.s 6), true)), .load true 5 (.s 10)⟩,
     ⟨.slot 12, 27, (some ((.s 6), true)), .load true 5 (.v 3)⟩,
     ⟨.slot 13, 28, (some ((.s 6), true)), .call 80 [(.s 11), (.s 12)]⟩,
     ⟨.slot 14, 29, (some ((.s 6), true)), .bin false .geq (.s 13) (.c (.int .i64 (0)))⟩,
     ⟨.slot 15, 30, (some ((.s 3), false)), .pick (.s 6) (.s 14) (.c (.bool false))⟩,
     ⟨.slot 16, 31, none, .pick (.s 3) (.c (.bool true)) (.s 15)⟩] [] (.cond (.s 16)
   (.seq (.region false [
       ⟨.var 1, 2, none, .mov (.c (.bool false))⟩])
    (.ret))
   (.skip)))))
 (.region false [
   ⟨.push, 32, none, .bin false .add (.v 6) (.c (.int .i64 (1)))⟩,
   ⟨.var 6, 10, none, .mov (.s 0)⟩])))
def ir39_k0 : List Bool := [true, false, false, false, true, true, true, false]
def ir39_o0 : List Bool := [false, false, false, false, false, false, false, false]
def ir39_r0 : List Bool := [false, true, false, false, false, false, false, false]
def ir39_v : List Nat := [0, 2, 3, 4, 8, 9, 10, 11]
def ir39 : AFn := ⟨1, 8, .seq (.region false [
    ⟨.var 1, 2, none, .mov (.c (.bool false))⟩])
 (.seq (.test false [
    ⟨.push, 5, none, .mov (.v 0)⟩,
    ⟨.push, 6, none, .len false (.s 0)⟩,
    ⟨.push, 7, none, .bin false .gtr (.s 0) (.c (.int .i64 (100)))⟩] (.s 0)
  (.seq (.region false [
      ⟨.var 1, 2, none, .mov (.c (.bool false))⟩])
   (.ret))
  (.skip))
 (.seq (.seq (.region false [
     ⟨.var 4, 8, none, .mov (.v 0)⟩,
     ⟨.var 5, 9, none, .len false (.v 4)⟩,
     ⟨.var 6, 10, none, .mov (.c (.int .i64 (0)))⟩])
  (.block 0 (.loop ir39_k0 ir39_o0 ir39_r0 ir39_b0)))
 (.seq (.region false [
    ⟨.var 1, 2, none, .mov (.c (.bool true))⟩])
 (.ret)))), [.t 1]⟩
noncomputable def t_impl_ValidEstimates : List (Nat × Ctr) := [(79, c_impl_isEstimate), (80, c_impl_compareEstimates)]
theorem lk_impl_ValidEstimates_79 : look t_impl_ValidEstimates 79 = some c_impl_isEstimate := rfl
theorem lk_impl_ValidEstimates_80 : look t_impl_ValidEstimates 80 = some c_impl_compareEstimates := rfl
noncomputable def c_impl_ValidEstimates : Ctr := mkF t_impl_ValidEstimates ir39 [.bor]
theorem s_impl_ValidEstimates : Sound Try.prog 39 c_impl_ValidEstimates := mkF_sound _ rfl (snd_cons s_impl_isEstimate (snd_cons s_impl_compareEstimates snd_nil)) (by kernel_rfl : chkFn Try.prog 39 ir39 ir39_v = true)
theorem M_impl_ValidEstimates : c_impl_ValidEstimates.modes = [.bor] := rfl
theorem Fl_impl_ValidEstimates : c_impl_ValidEstimates.flat = true := rfl
attribute [go_sem] M_impl_ValidEstimates Fl_impl_ValidEstimates
attribute [go_sem] lk_impl_ValidEstimates_79 lk_impl_ValidEstimates_80
def E_impl_ValidEstimates_l1 (list : List Estimate) (t8 : List Estimate) (t9 : Int) : Int → St
  | t10 => ⟨[.sl 5 (List.map Estimate_av list), .any, .any, .any, .sl 5 (List.map Estimate_av t8), .int .i64 t9, .int .i64 t10, .any], [], [], true⟩
def R_impl_ValidEstimates_l1 (list : List Estimate) (t8 : List Estimate) (t9 : Int) : (Unit ⊕ Bool) → Res
  | .inl y => (.exit 0, ⟨[.any, .any, .any, .any, .any, .any, .any, .any], [], [], true⟩)
  | .inr y => (.ret, ⟨[.any, .bool y, .any, .any, .any, .any, .any, .any], [], [], true⟩)
theorem impl_ValidEstimates_l1_ex {list : List Estimate} {t8 : List Estimate} {t9 : Int} {sgm_ : Int} {rho_ : Unit ⊕ Bool} (h : whileE (impl_ValidEstimates_l1 list t8 t9) sgm_ = some rho_) : ∃ L0, ∀ L, L0 ≤ L → iter (exec (look t_impl_ValidEstimates) L ir39_b0) ir39_k0 ir39_o0 ir39_r0 L (E_impl_ValidEstimates_l1 list t8 t9 sgm_) = R_impl_ValidEstimates_l1 list t8 t9 rho_ := by
  refine loop_ex (E := E_impl_ValidEstimates_l1 list t8 t9) (R := R_impl_ValidEstimates_l1 list t8 t9) (fun y => by first | (intro c; cases c) | (rcases y with y | y <;> (intro c; cases c)) | (rcases y with y | y | y <;> (intro c; cases c))) ?_ h
  clear h
  intro t10 o_ h
  dsimp only [impl_ValidEstimates_l1] at h
  rcases it_some h with ⟨hk2, h⟩ | ⟨hk2, h⟩
  · try simp only [go_sem, n1, n2, n3, n4] at hk2
    all_goals
    obtain ⟨hk3, h⟩ := ck_some h
    have lhk3 := ix_lt hk3
    have xhk3 := getD_mapD Estimate_av t8 lhk3
    try simp only [go_sem] at lhk3
    try simp only [go_sem] at xhk3
    try simp only [go_sem, n1, n2, n3, n4, hk2] at hk3
    all_goals
    obtain ⟨y_4, hk4, h⟩ := bd_some h
    have fhk4 := Fs_impl_isEstimate hk4
    try simp only [go_sem, hk2, hk3] at fhk4
    obtain ⟨hk5, h⟩ := ck_some h
    rcases or_split hk5 with ⟨ghk5, hk5⟩ | ghk5
    · try simp only [go_sem, n1, n2, n3, n4, hk2, hk3] at ghk5
      all_goals
      have lhk5 := ix_lt hk5
      have xhk5 := getD_mapD Estimate_av list lhk5
      try simp only [go_sem] at lhk5
      try simp only [go_sem] at xhk5
      try simp only [go_sem, n1, n2, n3, n4, hk2, hk3, ghk5] at hk5
      all_goals
      obtain ⟨hk6, h⟩ := ck_some h
      rcases or_split hk6 with ⟨ghk6, hk6⟩ | ghk6
      · try simp only [go_sem, n1, n2, n3, n4, hk2, hk3, ghk5, hk5] at ghk6
        all_goals
        obtain ⟨y_6, hhk6⟩ := Option.isSome_iff_exists.1 hk6
        have fhk6 := Fs_impl_compareEstimates hhk6
        try simp only [go_sem, hk2, hk3, ghk5, hk5, ghk6] at fhk6
        rcases it_some h with ⟨hk7, h⟩ | ⟨hk7, h⟩
        · try simp only [go_sem, n1, n2, n3, n4, hk2, hk3, ghk5, hk5, ghk6, hhk6] at hk7
          all_goals
          obtain rfl := so_some h
          refine ⟨0, fun L hL => ?_⟩
          simp only [go_sem, ir39, E_impl_ValidEstimates_l1, R_impl_ValidEstimates_l1, ir39_b0, ir39_k0, ir39_o0, ir39_r0, hk2, hk3, lhk3, xhk3, fhk4, ghk5, hk5, lhk5, xhk5, ghk6, hhk6, fhk6, hk7]
        · try simp only [go_sem, n1, n2, n3, n4, hk2, hk3, ghk5, hk5, ghk6, hhk6] at hk7
          all_goals
          obtain rfl := so_some h
          refine ⟨0, fun L hL => ?_⟩
          simp only [go_sem, ir39, E_impl_ValidEstimates_l1, R_impl_ValidEstimates_l1, ir39_b0, ir39_k0, ir39_o0, ir39_r0, hk2, hk3, lhk3, xhk3, fhk4, ghk5, hk5, lhk5, xhk5, ghk6, hhk6, fhk6, hk7]
      · rcases and_f ghk6 with ghk6a | ⟨ghk6a, ghk6b⟩
        · have ghk6an := no_f ghk6a
          have ghk6ann := no_t ghk6an
          try simp only [go_sem, n1, n2, n3, n4, hk2, hk3, ghk5, hk5] at ghk6ann
          all_goals
          rcases it_some h with ⟨hk7, h⟩ | ⟨hk7, h⟩
          · try simp only [go_sem, n1, n2, n3, n4, hk2, hk3, ghk5, hk5, ghk6ann] at hk7
            all_goals
            obtain rfl := so_some h
            refine ⟨0, fun L hL => ?_⟩
            simp only [go_sem, ir39, E_impl_ValidEstimates_l1, R_impl_ValidEstimates_l1, ir39_b0, ir39_k0, ir39_o0, ir39_r0, hk2, hk3, lhk3, xhk3, fhk4, ghk5, hk5, lhk5, xhk5, ghk6ann, hk7]
          · try simp only [go_sem, n1, n2, n3, n4, hk2, hk3, ghk5, hk5, ghk6ann] at hk7
            all_goals
            obtain rfl := so_some h
            refine ⟨0, fun L hL => ?_⟩
            simp only [go_sem, ir39, E_impl_ValidEstimates_l1, R_impl_ValidEstimates_l1, ir39_b0, ir39_k0, ir39_o0, ir39_r0, hk2, hk3, lhk3, xhk3, fhk4, ghk5, hk5, lhk5, xhk5, ghk6ann, hk7]
        · have ghk6an := no_t ghk6a
          have ghk6ann := no_f ghk6an
          try simp only [go_sem, n1, n2, n3, n4, hk2, hk3, ghk5, hk5] at ghk6ann
          all_goals
          try simp only [go_sem, n1, n2, n3, n4, hk2, hk3, ghk5, hk5, ghk6ann] at ghk6b
          all_goals
          rcases it_some h with ⟨hk7, h⟩ | ⟨hk7, h⟩
          · try simp only [go_sem, n1, n2, n3, n4, hk2, hk3, ghk5, hk5, ghk6ann, ghk6b] at hk7
            all_goals
            obtain rfl := so_some h
            refine ⟨0, fun L hL => ?_⟩
            simp only [go_sem, ir39, E_impl_ValidEstimates_l1, R_impl_ValidEstimates_l1, ir39_b0, ir39_k0, ir39_o0, ir39_r0, hk2, hk3, lhk3, xhk3, fhk4, ghk5, hk5, lhk5, xhk5, ghk6ann, ghk6b, hk7]
          · try simp only [go_sem, n1, n2, n3, n4, hk2, hk3, ghk5, hk5, ghk6ann, ghk6b] at hk7
            all_goals
            obtain rfl := so_some h
            refine ⟨0, fun L hL => ?_⟩
            simp only [go_sem, ir39, E_impl_ValidEstimates_l1, R_impl_ValidEstimates_l1, ir39_b0, ir39_k0, ir39_o0, ir39_r0, hk2, hk3, lhk3, xhk3, fhk4, ghk5, hk5, lhk5, xhk5, ghk6ann, ghk6b, hk7]
    · rcases and_f ghk5 with ghk5a | ⟨ghk5a, ghk5b⟩
      · have ghk5an := no_f ghk5a
        have ghk5ann := no_t ghk5an
        try simp only [go_sem, n1, n2, n3, n4, hk2, hk3] at ghk5ann
        all_goals
        obtain ⟨hk6, h⟩ := ck_some h
        rcases or_split hk6 with ⟨ghk6, hk6⟩ | ghk6
        · try simp only [go_sem, n1, n2, n3, n4, hk2, hk3, ghk5ann] at ghk6
          all_goals
          obtain ⟨y_6, hhk6⟩ := Option.isSome_iff_exists.1 hk6
          have fhk6 := Fs_impl_compareEstimates hhk6
          try simp only [go_sem, hk2, hk3, ghk5ann, ghk6] at fhk6
          rcases it_some h with ⟨hk7, h⟩ | ⟨hk7, h⟩
          · try simp only [go_sem, n1, n2, n3, n4, hk2, hk3, ghk5ann, ghk6, hhk6] at hk7
            all_goals
            obtain rfl := so_some h
            refine ⟨0, fun L hL => ?_⟩
            simp only [go_sem, ir39, E_impl_ValidEstimates_l1, R_impl_ValidEstimates_l1, ir39_b0, ir39_k0, ir39_o0, ir39_r0, hk2, hk3, lhk3, xhk3, fhk4, ghk5ann, ghk6, hhk6, fhk6, hk7]
          · try simp only [go_sem, n1, n2, n3, n4, hk2, hk3, ghk5ann, ghk6, hhk6] at hk7
            all_goals
            obtain rfl := so_some h
            refine ⟨0, fun L hL => ?_⟩
            simp only [go_sem, ir39, E_impl_ValidEstimates_l1, R_impl_ValidEstimates_l1, ir39_b0, ir39_k0, ir39_o0, ir39_r0, hk2, hk3, lhk3, xhk3, fhk4, ghk5ann, ghk6, hhk6, fhk6, hk7]
        · rcases and_f ghk6 with ghk6a | ⟨ghk6a, ghk6b⟩
          · have ghk6an := no_f ghk6a
            have ghk6ann := no_t ghk6an
            try simp only [go_sem, n1, n2, n3, n4, hk2, hk3, ghk5ann] at ghk6ann
            all_goals
            rcases it_some h with ⟨hk7, h⟩ | ⟨hk7, h⟩
            · try simp only [go_sem, n1, n2, n3, n4, hk2, hk3, ghk5ann, ghk6ann] at hk7
              all_goals
              obtain rfl := so_some h
              refine ⟨0, fun L hL => ?_⟩
              simp only [go_sem, ir39, E_impl_ValidEstimates_l1, R_impl_ValidEstimates_l1, ir39_b0, ir39_k0, ir39_o0, ir39_r0, hk2, hk3, lhk3, xhk3, fhk4, ghk5ann, ghk6ann, hk7]
            · try simp only [go_sem, n1, n2, n3, n4, hk2, hk3, ghk5ann, ghk6ann] at hk7
              all_goals
              obtain rfl := so_some h
              refine ⟨0, fun L hL => ?_⟩
              simp only [go_sem, ir39, E_impl_ValidEstimates_l1, R_impl_ValidEstimates_l1, ir39_b0, ir39_k0, ir39_o0, ir39_r0, hk2, hk3, lhk3, xhk3, fhk4, ghk5ann, ghk6ann, hk7]
          · have ghk6an := no_t ghk6a
            have ghk6ann := no_f ghk6an
            try simp only [go_sem, n1, n2, n3, n4, hk2, hk3, ghk5ann] at ghk6ann
            all_goals
            try simp only [go_sem, n1, n2, n3, n4, hk2, hk3, ghk5ann, ghk6ann] at ghk6b
            all_goals
            rcases it_some h with ⟨hk7, h⟩ | ⟨hk7, h⟩
            · try simp only [go_sem, n1, n2, n3, n4, hk2, hk3, ghk5ann, ghk6ann, ghk6b] at hk7
              all_goals
              obtain rfl := so_some h
              refine ⟨0, fun L hL => ?_⟩
              simp only [go_sem, ir39, E_impl_ValidEstimates_l1, R_impl_ValidEstimates_l1, ir39_b0, ir39_k0, ir39_o0, ir39_r0, hk2, hk3, lhk3, xhk3, fhk4, ghk5ann, ghk6ann, ghk6b, hk7]
            · try simp only [go_sem, n1, n2, n3, n4, hk2, hk3, ghk5ann, ghk6ann, ghk6b] at hk7
              all_goals
              obtain rfl := so_some h
              refine ⟨0, fun L hL => ?_⟩
              simp only [go_sem, ir39, E_impl_ValidEstimates_l1, R_impl_ValidEstimates_l1, ir39_b0, ir39_k0, ir39_o0, ir39_r0, hk2, hk3, lhk3, xhk3, fhk4, ghk5ann, ghk6ann, ghk6b, hk7]
      · have ghk5an := no_t ghk5a
        have ghk5ann := no_f ghk5an
        try simp only [go_sem, n1, n2, n3, n4, hk2, hk3] at ghk5ann
        all_goals
        try simp only [go_sem, n1, n2, n3, n4, hk2, hk3, ghk5ann] at ghk5b
        all_goals
        obtain ⟨hk6, h⟩ := ck_some h
        rcases or_split hk6 with ⟨ghk6, hk6⟩ | ghk6
        · try simp only [go_sem, n1, n2, n3, n4, hk2, hk3, ghk5ann, ghk5b] at ghk6
          all_goals
          obtain ⟨y_6, hhk6⟩ := Option.isSome_iff_exists.1 hk6
          have fhk6 := Fs_impl_compareEstimates hhk6
          try simp only [go_sem, hk2, hk3, ghk5ann, ghk5b, ghk6] at fhk6
          rcases it_some h with ⟨hk7, h⟩ | ⟨hk7, h⟩
          · try simp only [go_sem, n1, n2, n3, n4, hk2, hk3, ghk5ann, ghk5b, ghk6, hhk6] at hk7
            all_goals
            obtain rfl := so_some h
            refine ⟨0, fun L hL => ?_⟩
            simp only [go_sem, ir39, E_impl_ValidEstimates_l1, R_impl_ValidEstimates_l1, ir39_b0, ir39_k0, ir39_o0, ir39_r0, hk2, hk3, lhk3, xhk3, fhk4, ghk5ann, ghk5b, ghk6, hhk6, fhk6, hk7]
          · try simp only [go_sem, n1, n2, n3, n4, hk2, hk3, ghk5ann, ghk5b, ghk6, hhk6] at hk7
            all_goals
            obtain rfl := so_some h
            refine ⟨0, fun L hL => ?_⟩
            simp only [go_sem, ir39, E_impl_ValidEstimates_l1, R_impl_ValidEstimates_l1, ir39_b0, ir39_k0, ir39_o0, ir39_r0, hk2, hk3, lhk3, xhk3, fhk4, ghk5ann, ghk5b, ghk6, hhk6, fhk6, hk7]
        · rcases and_f ghk6 with ghk6a | ⟨ghk6a, ghk6b⟩
          · have ghk6an := no_f ghk6a
            have ghk6ann := no_t ghk6an
            try simp only [go_sem, n1, n2, n3, n4, hk2, hk3, ghk5ann, ghk5b] at ghk6ann
            all_goals
            rcases it_some h with ⟨hk7, h⟩ | ⟨hk7, h⟩
            · try simp only [go_sem, n1, n2, n3, n4, hk2, hk3, ghk5ann, ghk5b, ghk6ann] at hk7
              all_goals
              obtain rfl := so_some h
              refine ⟨0, fun L hL => ?_⟩
              simp only [go_sem, ir39, E_impl_ValidEstimates_l1, R_impl_ValidEstimates_l1, ir39_b0, ir39_k0, ir39_o0, ir39_r0, hk2, hk3, lhk3, xhk3, fhk4, ghk5ann, ghk5b, ghk6ann, hk7]
            · try simp only [go_sem, n1, n2, n3, n4, hk2, hk3, ghk5ann, ghk5b, ghk6ann] at hk7
              all_goals
              obtain rfl := so_some h
              refine ⟨0, fun L hL => ?_⟩
              simp only [go_sem, ir39, E_impl_ValidEstimates_l1, R_impl_ValidEstimates_l1, ir39_b0, ir39_k0, ir39_o0, ir39_r0, hk2, hk3, lhk3, xhk3, fhk4, ghk5ann, ghk5b, ghk6ann, hk7]
          · have ghk6an := no_t ghk6a
            have ghk6ann := no_f ghk6an
            try simp only [go_sem, n1, n2, n3, n4, hk2, hk3, ghk5ann, ghk5b] at ghk6ann
            all_goals
            try simp only [go_sem, n1, n2, n3, n4, hk2, hk3, ghk5ann, ghk5b, ghk6ann] at ghk6b
            all_goals
            rcases it_some h with ⟨hk7, h⟩ | ⟨hk7, h⟩
            · try simp only [go_sem, n1, n2, n3, n4, hk2, hk3, ghk5ann, ghk5b, ghk6ann, ghk6b] at hk7
              all_goals
              obtain rfl := so_some h
              refine ⟨0, fun L hL => ?_⟩
              simp only [go_sem, ir39, E_impl_ValidEstimates_l1, R_impl_ValidEstimates_l1, ir39_b0, ir39_k0, ir39_o0, ir39_r0, hk2, hk3, lhk3, xhk3, fhk4, ghk5ann, ghk5b, ghk6ann, ghk6b, hk7]
            · try simp only [go_sem, n1, n2, n3, n4, hk2, hk3, ghk5ann, ghk5b, ghk6ann, ghk6b] at hk7
              all_goals
              obtain rfl := so_some h
              refine ⟨0, fun L hL => ?_⟩
              simp only [go_sem, ir39, E_impl_ValidEstimates_l1, R_impl_ValidEstimates_l1, ir39_b0, ir39_k0, ir39_o0, ir39_r0, hk2, hk3, lhk3, xhk3, fhk4, ghk5ann, ghk5b, ghk6ann, ghk6b, hk7]
  · try simp only [go_sem, n1, n2, n3, n4] at hk2
    all_goals
    obtain rfl := so_some h
    refine ⟨0, fun L hL => ?_⟩
    simp only [go_sem, ir39, E_impl_ValidEstimates_l1, R_impl_ValidEstimates_l1, ir39_b0, ir39_k0, ir39_o0, ir39_r0, hk2]

theorem Fs_impl_ValidEstimates {list : List Estimate} {y_ : Bool} (h : impl_ValidEstimates list = some y_) : c_impl_ValidEstimates.F [.sl 5 (List.map Estimate_av list)] = ⟨true, .bool y_, [.any]⟩ := by
  refine mkF_E rfl ?_
  dsimp only [impl_ValidEstimates] at h
  rcases it_some h with ⟨hk1, h⟩ | ⟨hk1, h⟩
  · try simp only [go_sem, n1, n2, n3, n4] at hk1
    all_goals
    obtain rfl := so_some h
    refine ⟨0, fun L hL => ?_⟩
    simp only [go_sem, ir39, E_impl_ValidEstimates_l1, R_impl_ValidEstimates_l1, ir39_k0, ir39_o0, ir39_r0, hk1]
  · try simp only [go_sem, n1, n2, n3, n4] at hk1
    all_goals
    obtain ⟨y_8, hk8, h⟩ := bd_some h
    obtain ⟨Lhk8, ehk8⟩ := impl_ValidEstimates_l1_ex hk8
    rcases y_8 with y_8a | y_8b
    · dsimp only at h
      obtain rfl := so_some h
      refine ⟨Lhk8, fun L hL => ?_⟩
      have ehk8 := ehk8 L (by omega)
      try simp only [go_sem, E_impl_ValidEstimates_l1, R_impl_ValidEstimates_l1, ir39_k0, ir39_o0, ir39_r0, hk1] at ehk8
      simp only [go_sem, ir39, E_impl_ValidEstimates_l1, R_impl_ValidEstimates_l1, ir39_k0, ir39_o0, ir39_r0, hk1, ehk8]
    · dsimp only at h
      obtain rfl := so_some h
      refine ⟨Lhk8, fun L hL => ?_⟩
      have ehk8 := ehk8 L (by omega)
      try simp only [go_sem, E_impl_ValidEstimates_l1, R_impl_ValidEstimates_l1, ir39_k0, ir39_o0, ir39_r0, hk1] at ehk8
      simp only [go_sem, ir39, E_impl_ValidEstimates_l1, R_impl_ValidEstimates_l1, ir39_k0, ir39_o0, ir39_r0, hk1, ehk8]


def ir42_v : List Nat := [0, 1, 2, 3]
def ir42 : AFn := ⟨2, 4, .seq (.region false [
    ⟨.var 2, 2, none, .box (.v 0)⟩,
    ⟨.var 3, 3, none, .mov (.c (.bool false))⟩])
 (.seq (.region false [
    ⟨.push, 4, none, .fldAddr 1 (.v 2)⟩,
    ⟨.push, 5, none, .load false 1 (.s 0)⟩,
    ⟨.push, 6, none, .load false 1 (.v 1)⟩,
    ⟨.push, 7, none, .bin false .eql (.s 1) (.s 0)⟩,
    ⟨.push, 8, none, .mov (.s 0)⟩,
    ⟨.push, 9, (some ((.s 0), true)), .fldAddr 4 (.v 2)⟩,
    ⟨.push, 10, (some ((.s 1), true)), .load false 1 (.s 0)⟩,
    ⟨.push, 11, (some ((.s 2), true)), .un .not (.s 0)⟩,
    ⟨.push, 12, none, .pick (.s 3) (.s 0) (.c (.bool false))⟩,
    ⟨.var 3, 3, none, .mov (.s 0)⟩])
 (.ret)), [.t 3]⟩
noncomputable def t_impl_CurveOf_c1 : List (Nat × Ctr) := []
noncomputable def c_impl_CurveOf_c1 : Ctr := mkF t_impl_CurveOf_c1 ir42 [.bor, .bor]
theorem s_impl_CurveOf_c1 : Sound Try.prog 42 c_impl_CurveOf_c1 := mkF_sound _ rfl snd_nil (by kernel_rfl : chkFn Try.prog 42 ir42 ir42_v = true)
theorem M_impl_CurveOf_c1 : c_impl_CurveOf_c1.modes = [.bor, .bor] := rfl
theorem Fl_impl_CurveOf_c1 : c_impl_CurveOf_c1.flat = true := rfl
attribute [go_sem] M_impl_CurveOf_c1 Fl_impl_CurveOf_c1
theorem Fs_impl_CurveOf_c1 {e_ : Estimate} {t1 : List UInt8} {y_ : Bool} (h : impl_CurveOf_c1 e_ t1 = some y_) : c_impl_CurveOf_c1.F [Estimate_av e_, .ptr 1 [.str t1] 0 0] = ⟨true, .bool y_, [.any, .any]⟩ := by
  refine mkF_E rfl ?_
  dsimp only [impl_CurveOf_c1] at h
  obtain rfl := so_some h
  refine ⟨0, fun L hL => ?_⟩
  simp only [go_sem, ir42]


def ir41_b0 : IR := .seq (.region false [
    ⟨.var 8, 12, none, .bin false .lss (.v 7) (.v 6)⟩])
 (.seq (.cond (.v 8) (.skip)
  (.exit 0))
 (.seq (.block 1 (.seq (.region false [
      ⟨.push, 13, none, .ixAddr 5 (.v 5) (.v 7)⟩,
      ⟨.push, 14, none, .load true 5 (.s 0)⟩,
      ⟨.var 4, 7, none, .alloc (.agg [.int .i64 (0), .str [], .str [], .int .i64 (0), .bool false])⟩,
      ⟨.no, 0, none, .store 5 (.v 4) (.s 0)⟩])
   (.test false [
     ⟨.push, 15, none, .mov (.v 1)⟩,
     ⟨.push, 16, none, .load true 5 (.v 4)⟩,
     ⟨.push, 17, none, .callv (.s 1) [(.s 0)]⟩] (.s 0)
   (.region false [
      ⟨.push, 18, none, .mov (.v 3)⟩,
      ⟨.push, 19, none, .load true 5 (.v 4)⟩,
      ⟨.push, 20, none, .mkSl 5 (.agg [.int .i64 (0), .str [], .str [], .int .i64 (0), .bool false]) 1 [(0, (.s 0))]⟩,
      ⟨.push, 21, none, .app 5 56 (.agg [.int .i64 (0), .str [], .str [], .int .i64 (0), .bool false]) (.s 2) (.s 0)⟩,
      ⟨.var 3, 5, none, .mov (.s 0)⟩])
   (.skip))))
 (.region false [
   ⟨.push, 22, none, .bin false .add (.v 7) (.c (.int .i64 (1)))⟩,
   ⟨.var 7, 11, none, .mov (.s 0)⟩])))
def ir41_k0 : List Bool := [false, true, false, true, false, true, true, true, false]
def ir41_o0 : List Bool := [false, false, false, true, false, false, false, false, false]
def ir41_r0 : List Bool := [false, false, true, false, false, false, false, false, false]
def ir41_v : List Nat := [0, 1, 4, 5, 7, 9, 10, 11, 12]
def ir41 : AFn := ⟨2, 9, .seq (.region false [
    ⟨.var 2, 4, none, .newnil 5⟩])
 (.seq (.region false [
    ⟨.push, 8, none, .mkSl 5 (.agg [.int .i64 (0), .str [], .str [], .int .i64 (0), .bool false]) 0 []⟩,
    ⟨.var 3, 5, none, .mov (.s 0)⟩])
 (.seq (.seq (.region false [
     ⟨.var 5, 9, none, .mov (.v 0)⟩,
     ⟨.var 6, 10, none, .len false (.v 5)⟩,
     ⟨.var 7, 11, none, .mov (.c (.int .i64 (0)))⟩])
  (.block 0 (.loop ir41_k0 ir41_o0 ir41_r0 ir41_b0)))
 (.seq (.region false [
    ⟨.push, 23, none, .mov (.v 3)⟩,
    ⟨.var 2, 4, none, .mov (.s 0)⟩])
 (.ret)))), [.t 2]⟩
noncomputable def t_impl_chosen_impl_Estimate__impl_CurveOf_c1 : List (Nat × Ctr) := [(42, c_impl_CurveOf_c1)]
theorem lk_impl_chosen_impl_Estimate__impl_CurveOf_c1_42 : look t_impl_chosen_impl_Estimate__impl_CurveOf_c1 42 = some c_impl_CurveOf_c1 := rfl
noncomputable def c_impl_chosen_impl_Estimate__impl_CurveOf_c1 : Ctr := mkF t_impl_chosen_impl_Estimate__impl_CurveOf_c1 ir41 [.bor, .bor]
theorem s_impl_chosen_impl_Estimate__impl_CurveOf_c1 : Sound Try.prog 41 c_impl_chosen_impl_Estimate__impl_CurveOf_c1 := mkF_sound _ rfl (snd_cons s_impl_CurveOf_c1 snd_nil) (by kernel_rfl : chkFn Try.prog 41 ir41 ir41_v = true)
theorem M_impl_chosen_impl_Estimate__impl_CurveOf_c1 : c_impl_chosen_impl_Estimate__impl_CurveOf_c1.modes = [.bor, .bor] := rfl
theorem Fl_impl_chosen_impl_Estimate__impl_CurveOf_c1 : c_impl_chosen_impl_Estimate__impl_CurveOf_c1.flat = true := rfl
attribute [go_sem] M_impl_chosen_impl_Estimate__impl_CurveOf_c1 Fl_impl_chosen_impl_Estimate__impl_CurveOf_c1
attribute [go_sem] lk_impl_chosen_impl_Estimate__impl_CurveOf_c1_42
def E_impl_chosen_impl_Estimate__impl_CurveOf_c1_l1 (c : List UInt8) (t9 : List Estimate) (t10 : Int) : ((List Estimate) × Int) → St
  | (out, t11) => ⟨[.any, .fn (.func 42) [] [.ptr 1 [.str c] 0 0], .any, .own 3200000, .any, .sl 5 (List.map Estimate_av t9), .int .i64 t10, .int .i64 t11, .any], [], [(3200000, ⟨5, List.map Estimate_av out⟩)], true⟩
def R_impl_chosen_impl_Estimate__impl_CurveOf_c1_l1 (c : List UInt8) (t9 : List Estimate) (t10 : Int) (y : (List Estimate)) : Res := (.exit 0, ⟨[.any, .any, .any, .own 3200000, .any, .any, .any, .any, .any], [], [(3200000, ⟨5, List.map Estimate_av y⟩)], true⟩)
theorem impl_chosen_impl_Estimate__impl_CurveOf_c1_l1_ex {c : List UInt8} {t9 : List Estimate} {t10 : Int} {sgm_ : (List Estimate) × Int} {rho_ : (List Estimate)} (h : whileE (impl_chosen_impl_Estimate__impl_CurveOf_c1_l1 c t9 t10) sgm_ = some rho_) : ∃ L0, ∀ L, L0 ≤ L → iter (exec (look t_impl_chosen_impl_Estimate__impl_CurveOf_c1) L ir41_b0) ir41_k0 ir41_o0 ir41_r0 L (E_impl_chosen_impl_Estimate__impl_CurveOf_c1_l1 c t9 t10 sgm_) = R_impl_chosen_impl_Estimate__impl_CurveOf_c1_l1 c t9 t10 rho_ := by
  refine loop_ex (E := E_impl_chosen_impl_Estimate__impl_CurveOf_c1_l1 c t9 t10) (R := R_impl_chosen_impl_Estimate__impl_CurveOf_c1_l1 c t9 t10) (fun y => by first | (intro c; cases c) | (rcases y with y | y <;> (intro c; cases c)) | (rcases y with y | y | y <;> (intro c; cases c))) ?_ h
  clear h
  rintro ⟨out, t11⟩ o_ h
  dsimp only [impl_chosen_impl_Estimate__impl_CurveOf_c1_l1] at h
  rcases it_some h with ⟨hk1, h⟩ | ⟨hk1, h⟩
  · try simp only [go_sem, n1, n2, n3, n4] at hk1
    all_goals
    obtain ⟨hk2, h⟩ := ck_some h
    have lhk2 := ix_lt hk2
    have xhk2 := getD_mapD Estimate_av t9 lhk2
    try simp only [go_sem] at lhk2
    try simp only [go_sem] at xhk2
    try simp only [go_sem, n1, n2, n3, n4, hk1] at hk2
    all_goals
    obtain ⟨y_3, hk3, h⟩ := bd_some h
    have fhk3 := Fs_impl_CurveOf_c1 hk3
    try simp only [go_sem, hk1, hk2] at fhk3
    rcases it_some h with ⟨hk4, h⟩ | ⟨hk4, h⟩
    · try simp only [go_sem, n1, n2, n3, n4, hk1, hk2] at hk4
      all_goals
      obtain ⟨hk5, h⟩ := ck_some h
      try simp only [go_sem, n1, n2, n3, n4, hk1, hk2, hk4] at hk5
      all_goals
      obtain rfl := so_some h
      refine ⟨0, fun L hL => ?_⟩
      simp only [go_sem, ir41, E_impl_chosen_impl_Estimate__impl_CurveOf_c1_l1, R_impl_chosen_impl_Estimate__impl_CurveOf_c1_l1, ir41_b0, ir41_k0, ir41_o0, ir41_r0, hk1, hk2, lhk2, xhk2, fhk3, hk4, hk5]
    · try simp only [go_sem, n1, n2, n3, n4, hk1, hk2] at hk4
      all_goals
      obtain rfl := so_some h
      refine ⟨0, fun L hL => ?_⟩
      simp only [go_sem, ir41, E_impl_chosen_impl_Estimate__impl_CurveOf_c1_l1, R_impl_chosen_impl_Estimate__impl_CurveOf_c1_l1, ir41_b0, ir41_k0, ir41_o0, ir41_r0, hk1, hk2, lhk2, xhk2, fhk3, hk4]
  · try simp only [go_sem, n1, n2, n3, n4] at hk1
    all_goals
    obtain rfl := so_some h
    refine ⟨0, fun L hL => ?_⟩
    simp only [go_sem, ir41, E_impl_chosen_impl_Estimate__impl_CurveOf_c1_l1, R_impl_chosen_impl_Estimate__impl_CurveOf_c1_l1, ir41_b0, ir41_k0, ir41_o0, ir41_r0, hk1]

theorem Fs_impl_chosen_impl_Estimate__impl_CurveOf_c1 {list : List Estimate} {wanted_c0 : List UInt8} {y_ : (List Estimate)} (h : impl_chosen_impl_Estimate__impl_CurveOf_c1 list wanted_c0 = some y_) : c_impl_chosen_impl_Estimate__impl_CurveOf_c1.F [.sl 5 (List.map Estimate_av list), .fn (.func 42) [] [.ptr 1 [.str wanted_c0] 0 0]] = ⟨true, .fresh 5 (List.map Estimate_av y_), [.any, .any]⟩ := by
  refine mkF_E (by simp only [flatA, flatB, flat1, List.all_cons, List.all_nil, Bool.and_self, flatE_map (f := Estimate_av) (fun _ => rfl)]) ?_
  dsimp only [impl_chosen_impl_Estimate__impl_CurveOf_c1] at h
  obtain ⟨y_6, hk6, h⟩ := bd_some h
  obtain ⟨Lhk6, ehk6⟩ := impl_chosen_impl_Estimate__impl_CurveOf_c1_l1_ex hk6
  obtain rfl := so_some h
  refine ⟨Lhk6, fun L hL => ?_⟩
  have ehk6 := ehk6 L (by omega)
  try simp only [go_sem, E_impl_chosen_impl_Estimate__impl_CurveOf_c1_l1, R_impl_chosen_impl_Estimate__impl_CurveOf_c1_l1, ir41_k0, ir41_o0, ir41_r0] at ehk6
  simp only [go_sem, ir41, E_impl_chosen_impl_Estimate__impl_CurveOf_c1_l1, R_impl_chosen_impl_Estimate__impl_CurveOf_c1_l1, ir41_k0, ir41_o0, ir41_r0, ehk6]


def ir82_b0 : IR := .seq (.region false [
    ⟨.var 7, 9, none, .bin false .lss (.v 6) (.v 5)⟩])
 (.seq (.cond (.v 7) (.skip)
  (.exit 0))
 (.seq (.block 1 (.seq (.region false [
      ⟨.push, 10, none, .ixAddr 1 (.v 4) (.v 6)⟩,
      ⟨.push, 11, none, .load false 1 (.s 0)⟩,
      ⟨.var 3, 5, none, .mov (.s 0)⟩])
   (.region false [
     ⟨.push, 12, none, .mov (.v 2)⟩,
     ⟨.push, 13, none, .mov (.v 3)⟩,
     ⟨.push, 14, none, .bin false .add (.s 1) (.s 0)⟩,
     ⟨.var 2, 3, none, .mov (.s 0)⟩])))
 (.region false [
   ⟨.push, 15, none, .bin false .add (.v 6) (.c (.int .i64 (1)))⟩,
   ⟨.var 6, 8, none, .mov (.s 0)⟩])))
def ir82_k0 : List Bool := [false, false, true, false, true, true, true, false]
def ir82_o0 : List Bool := [false, false, true, false, false, false, false, false]
def ir82_r0 : List Bool := [false, true, false, false, false, false, false, false]
def ir82_v : List Nat := [0, 2, 3, 5, 6, 7, 8, 9]
def ir82 : AFn := ⟨1, 8, .seq (.region false [
    ⟨.var 1, 2, none, .mov (.c (.int .i64 (0)))⟩])
 (.seq (.region false [
    ⟨.var 2, 3, none, .mov (.c (.int .i64 (0)))⟩])
 (.seq (.seq (.region false [
     ⟨.var 4, 6, none, .mov (.v 0)⟩,
     ⟨.var 5, 7, none, .len false (.v 4)⟩,
     ⟨.var 6, 8, none, .mov (.c (.int .i64 (0)))⟩])
  (.block 0 (.loop ir82_k0 ir82_o0 ir82_r0 ir82_b0)))
 (.seq (.region false [
    ⟨.push, 16, none, .mov (.v 2)⟩,
    ⟨.var 1, 2, none, .mov (.s 0)⟩])
 (.ret)))), [.t 1]⟩
noncomputable def t_impl_sum : List (Nat × Ctr) := []
noncomputable def c_impl_sum : Ctr := mkF t_impl_sum ir82 [.bor]
theorem s_impl_sum : Sound Try.prog 82 c_impl_sum := mkF_sound _ rfl snd_nil (by kernel_rfl : chkFn Try.prog 82 ir82 ir82_v = true)
theorem M_impl_sum : c_impl_sum.modes = [.bor] := rfl
theorem Fl_impl_sum : c_impl_sum.flat = true := rfl
attribute [go_sem] M_impl_sum Fl_impl_sum
def E_impl_sum_l1 (t6 : List Int) (t7 : Int) : (Int × Int) → St
  | (n, t8) => ⟨[.any, .any, .int .i64 n, .any, .sl 1 (List.map (AV.int .i64) t6), .int .i64 t7, .int .i64 t8, .any], [], [], true⟩
def R_impl_sum_l1 (t6 : List Int) (t7 : Int) (y : Int) : Res := (.exit 0, ⟨[.any, .any, .int .i64 y, .any, .any, .any, .any, .any], [], [], true⟩)
theorem impl_sum_l1_ex {t6 : List Int} {t7 : Int} {sgm_ : Int × Int} {rho_ : Int} (h : whileE (impl_sum_l1 t6 t7) sgm_ = some rho_) : ∃ L0, ∀ L, L0 ≤ L → iter (exec (look t_impl_sum) L ir82_b0) ir82_k0 ir82_o0 ir82_r0 L (E_impl_sum_l1 t6 t7 sgm_) = R_impl_sum_l1 t6 t7 rho_ := by
  refine loop_ex (E := E_impl_sum_l1 t6 t7) (R := R_impl_sum_l1 t6 t7) (fun y => by first | (intro c; cases c) | (rcases y with y | y <;> (intro c; cases c)) | (rcases y with y | y | y <;> (intro c; cases c))) ?_ h
  clear h
  rintro ⟨n, t8⟩ o_ h
  dsimp only [impl_sum_l1] at h
  rcases it_some h with ⟨hk1, h⟩ | ⟨hk1, h⟩
  · try simp only [go_sem, n1, n2, n3, n4] at hk1
    all_goals
    obtain ⟨hk2, h⟩ := ck_some h
    have lhk2 := ix_lt hk2
    have xhk2 := getD_mapD (AV.int .i64) t6 lhk2
    try simp only [go_sem] at lhk2
    try simp only [go_sem] at xhk2
    try simp only [go_sem, n1, n2, n3, n4, hk1] at hk2
    all_goals
    obtain rfl := so_some h
    refine ⟨0, fun L hL => ?_⟩
    simp only [go_sem, ir82, E_impl_sum_l1, R_impl_sum_l1, ir82_b0, ir82_k0, ir82_o0, ir82_r0, hk1, hk2, lhk2, xhk2]
  · try simp only [go_sem, n1, n2, n3, n4] at hk1
    all_goals
    obtain rfl := so_some h
    refine ⟨0, fun L hL => ?_⟩
    simp only [go_sem, ir82, E_impl_sum_l1, R_impl_sum_l1, ir82_b0, ir82_k0, ir82_o0, ir82_r0, hk1]

theorem Fs_impl_sum {list : List Int} {y_ : Int} (h : impl_sum list = some y_) : c_impl_sum.F [.sl 1 (List.map (AV.int .i64) list)] = ⟨true, .int .i64 y_, [.any]⟩ := by
  refine mkF_E rfl ?_
  dsimp only [impl_sum] at h
  obtain ⟨y_3, hk3, h⟩ := bd_some h
  obtain ⟨Lhk3, ehk3⟩ := impl_sum_l1_ex hk3
  obtain rfl := so_some h
  refine ⟨Lhk3, fun L hL => ?_⟩
  have ehk3 := ehk3 L (by omega)
  try simp only [go_sem, E_impl_sum_l1, R_impl_sum_l1, ir82_k0, ir82_o0, ir82_r0] at ehk3
  simp only [go_sem, ir82, E_impl_sum_l1, R_impl_sum_l1, ir82_k0, ir82_o0, ir82_r0, ehk3]


def ir83_v : List Nat := [0, 2]
def ir83 : AFn := ⟨1, 2, .seq (.region false [
    ⟨.var 1, 2, none, .mov (.c (.int .i64 (0)))⟩])
 (.seq (.region false [
    ⟨.push, 3, none, .mov (.v 0)⟩,
    ⟨.push, 4, none, .len false (.s 0)⟩,
    ⟨.var 1, 2, none, .mov (.s 0)⟩])
 (.ret)), [.t 1]⟩
noncomputable def t_impl_count_int64 : List (Nat × Ctr) := []
noncomputable def c_impl_count_int64 : Ctr := mkF t_impl_count_int64 ir83 [.bor]
theorem s_impl_count_int64 : Sound Try.prog 83 c_impl_count_int64 := mkF_sound _ rfl snd_nil (by kernel_rfl : chkFn Try.prog 83 ir83 ir83_v = true)
theorem M_impl_count_int64 : c_impl_count_int64.modes = [.bor] := rfl
theorem Fl_impl_count_int64 : c_impl_count_int64.flat = true := rfl
attribute [go_sem] M_impl_count_int64 Fl_impl_count_int64
theorem Fs_impl_count_int64 {list : List Int} {y_ : Int} (h : impl_count_int64 list = some y_) : c_impl_count_int64.F [.sl 1 (List.map (AV.int .i64) list)] = ⟨true, .int .i64 y_, [.any]⟩ := by
  refine mkF_E rfl ?_
  dsimp only [impl_count_int64] at h
  obtain rfl := so_some h
  refine ⟨0, fun L hL => ?_⟩
  simp only [go_sem, ir83]


def ir118_v : List Nat := [0, 1, 4, 5]
def ir118 : AFn := ⟨2, 4, .seq (.region false [
    ⟨.var 2, 4, none, .mov (.c (.int .i64 (0)))⟩])
 (.seq (.region false [
    ⟨.push, 6, none, .mov (.v 0)⟩,
    ⟨.push, 7, none, .mov (.v 1)⟩,
    ⟨.push, 8, none, .bin false .quo (.s 1) (.s 0)⟩,
    ⟨.var 3, 5, none, .mov (.s 0)⟩])
 (.seq (.test false [
    ⟨.push, 9, none, .mov (.v 0)⟩,
    ⟨.push, 10, none, .mov (.v 1)⟩,
    ⟨.push, 11, none, .bin false .rem (.s 1) (.s 0)⟩,
    ⟨.push, 12, none, .bin false .lss (.s 0) (.c (.int .i64 (0)))⟩] (.s 0)
  (.region false [
     ⟨.push, 13, none, .mov (.v 3)⟩,
     ⟨.push, 14, none, .bin false .sub (.s 0) (.c (.int .i64 (1)))⟩,
     ⟨.var 3, 5, none, .mov (.s 0)⟩])
  (.skip))
 (.seq (.region false [
    ⟨.push, 15, none, .mov (.v 3)⟩,
    ⟨.var 2, 4, none, .mov (.s 0)⟩])
 (.ret)))), [.t 2]⟩
noncomputable def t_impl_floorDiv : List (Nat × Ctr) := []
noncomputable def c_impl_floorDiv : Ctr := mkF t_impl_floorDiv ir118 [.bor, .bor]
theorem s_impl_floorDiv : Sound Try.prog 118 c_impl_floorDiv := mkF_sound _ rfl snd_nil (by kernel_rfl : chkFn Try.prog 118 ir118 ir118_v = true)
theorem M_impl_floorDiv : c_impl_floorDiv.modes = [.bor, .bor] := rfl
theorem Fl_impl_floorDiv : c_impl_floorDiv.flat = true := rfl
attribute [go_sem] M_impl_floorDiv Fl_impl_floorDiv
theorem Fs_impl_floorDiv {a : Int} {b : Int} {y_ : Int} (h : impl_floorDiv a b = some y_) : c_impl_floorDiv.F [.int .i64 a, .int .i64 b] = ⟨true, .int .i64 y_, [.any, .any]⟩ := by
  refine mkF_E rfl ?_
  dsimp only [impl_floorDiv] at h
  obtain ⟨hk1, h⟩ := ck_some h
  try simp only [go_sem, n1, n2, n3, n4] at hk1
  all_goals
  rcases it_some h with ⟨hk2, h⟩ | ⟨hk2, h⟩
  · try simp only [go_sem, n1, n2, n3, n4, hk1] at hk2
    all_goals
    obtain rfl := so_some h
    refine ⟨0, fun L hL => ?_⟩
    simp only [go_sem, ir118, hk1, hk2]
  · try simp only [go_sem, n1, n2, n3, n4, hk1] at hk2
    all_goals
    obtain rfl := so_some h
    refine ⟨0, fun L hL => ?_⟩
    simp only [go_sem, ir118, hk1, hk2]


def ir81_v : List Nat := [0, 1, 4, 5, 6]
def ir81 : AFn := ⟨2, 5, .seq (.region false [
    ⟨.var 2, 4, none, .mov (.c (.int .i64 (0)))⟩])
 (.seq (.region false [
    ⟨.push, 7, none, .mov (.v 0)⟩,
    ⟨.push, 8, none, .mov (.v 1)⟩,
    ⟨.push, 9, none, .call 118 [(.s 1), (.s 0)]⟩,
    ⟨.var 3, 5, none, .mov (.s 0)⟩])
 (.seq (.seq (.region false [
     ⟨.push, 10, none, .mov (.v 0)⟩,
     ⟨.push, 11, none, .mov (.v 3)⟩,
     ⟨.push, 12, none, .mov (.v 1)⟩,
     ⟨.push, 13, none, .bin false .mul (.s 1) (.s 0)⟩,
     ⟨.push, 14, none, .bin false .sub (.s 3) (.s 0)⟩,
     ⟨.var 4, 6, none, .mov (.s 0)⟩])
  (.test false [
    ⟨.push, 15, none, .mov (.v 4)⟩,
    ⟨.push, 16, none, .mov (.v 1)⟩,
    ⟨.push, 17, none, .mov (.v 4)⟩,
    ⟨.push, 18, none, .bin false .sub (.s 1) (.s 0)⟩,
    ⟨.push, 19, none, .bin false .geq (.s 3) (.s 0)⟩] (.s 0)
  (.region false [
     ⟨.push, 20, none, .mov (.v 3)⟩,
     ⟨.push, 21, none, .bin false .add (.s 0) (.c (.int .i64 (1)))⟩,
     ⟨.var 3, 5, none, .mov (.s 0)⟩])
  (.skip)))
 (.seq (.region false [
    ⟨.push, 22, none, .mov (.v 3)⟩,
    ⟨.var 2, 4, none, .mov (.s 0)⟩])
 (.ret)))), [.t 2]⟩
noncomputable def t_impl_nearest : List (Nat × Ctr) := [(118, c_impl_floorDiv)]
theorem lk_impl_nearest_118 : look t_impl_nearest 118 = some c_impl_floorDiv := rfl
noncomputable def c_impl_nearest : Ctr := mkF t_impl_nearest ir81 [.bor, .bor]
theorem s_impl_nearest : Sound Try.prog 81 c_impl_nearest := mkF_sound _ rfl (snd_cons s_impl_floorDiv snd_nil) (by kernel_rfl : chkFn Try.prog 81 ir81 ir81_v = true)
theorem M_impl_nearest : c_impl_nearest.modes = [.bor, .bor] := rfl
theorem Fl_impl_nearest : c_impl_nearest.flat = true := rfl
attribute [go_sem] M_impl_nearest Fl_impl_nearest
attribute [go_sem] lk_impl_nearest_118
theorem Fs_impl_nearest {num : Int} {den : Int} {y_ : Int} (h : impl_nearest num den = some y_) : c_impl_nearest.F [.int .i64 num, .int .i64 den] = ⟨true, .int .i64 y_, [.any, .any]⟩ := by
  refine mkF_E rfl ?_
  dsimp only [impl_nearest] at h
  obtain ⟨y_1, hk1, h⟩ := bd_some h
  have fhk1 := Fs_impl_floorDiv hk1
  try simp only [go_sem] at fhk1
  rcases it_some h with ⟨hk2, h⟩ | ⟨hk2, h⟩
  · try simp only [go_sem, n1, n2, n3, n4] at hk2
    all_goals
    obtain rfl := so_some h
    refine ⟨0, fun L hL => ?_⟩
    simp only [go_sem, ir81, fhk1, hk2]
  · try simp only [go_sem, n1, n2, n3, n4] at hk2
    all_goals
    obtain rfl := so_some h
    refine ⟨0, fun L hL => ?_⟩
    simp only [go_sem, ir81, fhk1, hk2]


def ir43_v : List Nat := [0, 2]
def ir43 : AFn := ⟨1, 2, .seq (.region false [
    ⟨.var 1, 2, none, .mov (.c (.int .i64 (0)))⟩])
 (.seq (.region false [
    ⟨.push, 3, none, .mov (.v 0)⟩,
    ⟨.push, 4, none, .call 82 [(.s 0)]⟩,
    ⟨.push, 5, none, .mov (.v 0)⟩,
    ⟨.push, 6, none, .call 83 [(.s 0)]⟩,
    ⟨.push, 7, none, .call 81 [(.s 2), (.s 0)]⟩,
    ⟨.var 1, 2, none, .mov (.s 0)⟩])
 (.ret)), [.t 1]⟩
noncomputable def t_impl_mean : List (Nat × Ctr) := [(82, c_impl_sum), (83, c_impl_count_int64), (81, c_impl_nearest)]
theorem lk_impl_mean_82 : look t_impl_mean 82 = some c_impl_sum := rfl
theorem lk_impl_mean_83 : look t_impl_mean 83 = some c_impl_count_int64 := rfl
theorem lk_impl_mean_81 : look t_impl_mean 81 = some c_impl_nearest := rfl
noncomputable def c_impl_mean : Ctr := mkF t_impl_mean ir43 [.bor]
theorem s_impl_mean : Sound Try.prog 43 c_impl_mean := mkF_sound _ rfl (snd_cons s_impl_sum (snd_cons s_impl_count_int64 (snd_cons s_impl_nearest snd_nil))) (by kernel_rfl : chkFn Try.prog 43 ir43 ir43_v = true)
theorem M_impl_mean : c_impl_mean.modes = [.bor] := rfl
theorem Fl_impl_mean : c_impl_mean.flat = true := rfl
attribute [go_sem] M_impl_mean Fl_impl_mean
attribute [go_sem] lk_impl_mean_82 lk_impl_mean_83 lk_impl_mean_81
theorem Fs_impl_mean {list : List Int} {y_ : Int} (h : impl_mean list = some y_) : c_impl_mean.F [.sl 1 (List.map (AV.int .i64) list)] = ⟨true, .int .i64 y_, [.any]⟩ := by
  refine mkF_E rfl ?_
  dsimp only [impl_mean] at h
  obtain ⟨y_1, hk1, h⟩ := bd_some h
  have fhk1 := Fs_impl_sum hk1
  try simp only [go_sem] at fhk1
  obtain ⟨y_2, hk2, h⟩ := bd_some h
  have fhk2 := Fs_impl_count_int64 hk2
  try simp only [go_sem] at fhk2
  obtain ⟨y_3, hk3, h⟩ := bd_some h
  have fhk3 := Fs_impl_nearest hk3
  try simp only [go_sem] at fhk3
  obtain rfl := so_some h
  refine ⟨0, fun L hL => ?_⟩
  simp only [go_sem, ir43, fhk1, fhk2, fhk3]


def ir9_b1 : IR := .seq (.test false [
    ⟨.push, 33, none, .mov (.v 7)⟩,
    ⟨.push, 34, none, .mov (.v 5)⟩,
    ⟨.push, 35, none, .len false (.s 0)⟩,
    ⟨.push, 36, none, .bin false .lss (.s 2) (.s 0)⟩,
    ⟨.push, 37, none, .mov (.s 0)⟩,
    ⟨.push, 38, (some ((.s 0), true)), .mov (.v 5)⟩,
    ⟨.push, 39, (some ((.s 1), true)), .mov (.v 7)⟩,
    ⟨.push, 40, (some ((.s 2), true)), .ixAddr 5 (.s 1) (.s 0)⟩,
    ⟨.push, 41, (some ((.s 3), true)), .fldAddr 0 (.s 0)⟩,
    ⟨.push, 42, (some ((.s 4), true)), .load false 1 (.s 0)⟩,
    ⟨.push, 43, (some ((.s 5), true)), .mov (.v 9)⟩,
    ⟨.push, 44, (some ((.s 6), true)), .bin false .eql (.s 1) (.s 0)⟩,
    ⟨.push, 45, none, .pick (.s 7) (.s 0) (.c (.bool false))⟩] (.s 0)
  (.skip)
  (.exit 3))
 (.seq (.block 4 (.region false [
     ⟨.push, 48, none, .mov (.v 8)⟩,
     ⟨.push, 49, none, .mov (.v 5)⟩,
     ⟨.push, 50, none, .mov (.v 7)⟩,
     ⟨.push, 51, none, .ixAddr 5 (.s 1) (.s 0)⟩,
     ⟨.push, 52, none, .fldAddr 3 (.s 0)⟩,
     ⟨.push, 53, none, .load false 1 (.s 0)⟩,
     ⟨.push, 54, none, .mkSl 1 (.int .i64 (0)) 1 [(0, (.s 0))]⟩,
     ⟨.push, 55, none, .app 1 8 (.int .i64 (0)) (.s 6) (.s 0)⟩,
     ⟨.var 8, 9, none, .mov (.s 0)⟩]))
 (.region false [
   ⟨.push, 46, none, .mov (.v 7)⟩,
   ⟨.push, 47, none, .bin false .add (.s 0) (.c (.int .i64 (1)))⟩,
   ⟨.var 7, 8, none, .mov (.s 0)⟩]))
def ir9_k1 : List Bool := [false, false, false, false, false, true, true, true, true, true]
def ir9_o1 : List Bool := [false, false, false, false, false, true, true, true, true, true]
def ir9_r1 : List Bool := [false, false, false, true, true, false, false, false, false, false]
def ir9_b0 : IR := .seq (.test false [
    ⟨.push, 23, none, .mov (.v 7)⟩,
    ⟨.push, 24, none, .mov (.v 5)⟩,
    ⟨.push, 25, none, .len false (.s 0)⟩,
    ⟨.push, 26, none, .bin false .lss (.s 2) (.s 0)⟩] (.s 0)
  (.skip)
  (.exit 1))
 (.block 2 (.seq (.region false [
     ⟨.push, 27, none, .mkSl 1 (.int .i64 (0)) 0 []⟩,
     ⟨.var 8, 9, none, .mov (.s 0)⟩])
  (.seq (.region false [
     ⟨.push, 28, none, .mov (.v 5)⟩,
     ⟨.push, 29, none, .mov (.v 7)⟩,
     ⟨.push, 30, none, .ixAddr 5 (.s 1) (.s 0)⟩,
     ⟨.push, 31, none, .fldAddr 0 (.s 0)⟩,
     ⟨.push, 32, none, .load false 1 (.s 0)⟩,
     ⟨.var 9, 10, none, .mov (.s 0)⟩])
  (.seq (.block 3 (.loop ir9_k1 ir9_o1 ir9_r1 ir9_b1))
  (.region false [
    ⟨.push, 56, none, .mov (.v 6)⟩,
    ⟨.push, 57, none, .mov (.v 9)⟩,
    ⟨.push, 58, none, .mov (.v 8)⟩,
    ⟨.push, 59, none, .call 43 [(.s 0)]⟩,
    ⟨.push, 60, none, .build [.int .i64 (0), .int .i64 (0)] [(0, 1, (.s 2)), (1, 1, (.s 0))]⟩,
    ⟨.push, 61, none, .mkSl 2 (.agg [.int .i64 (0), .int .i64 (0)]) 1 [(0, (.s 0))]⟩,
    ⟨.push, 62, none, .app 2 16 (.agg [.int .i64 (0), .int .i64 (0)]) (.s 5) (.s 0)⟩,
    ⟨.var 6, 7, none, .mov (.s 0)⟩])))))
def ir9_k0 : List Bool := [false, false, false, false, false, true, true, true, false, false]
def ir9_o0 : List Bool := [false, false, false, false, false, false, true, false, false, false]
def ir9_r0 : List Bool := [false, false, false, true, true, false, false, false, false, false]
def ir9_v : List Nat := [0, 1, 3, 4, 5, 6, 7, 8, 9, 10]
def ir9 : AFn := ⟨2, 10, .seq (.region false [
    ⟨.var 2, 3, none, .box (.v 1)⟩,
    ⟨.var 3, 4, none, .newnil 2⟩,
    ⟨.var 4, 5, none, .mov (.c (.int .i64 (0)))⟩])
 (.seq (.block 0 (.test false [
     ⟨.push, 12, none, .mov (.v 0)⟩,
     ⟨.push, 13, none, .call 39 [(.s 0)]⟩,
     ⟨.push, 14, none, .un .not (.s 0)⟩,
     ⟨.push, 11, none, .mov (.s 0)⟩] (.s 0)
   (.seq (.region false [
       ⟨.var 3, 4, none, .newnil 2⟩,
       ⟨.var 4, 5, none, .mov (.c (.int .i64 (1)))⟩])
    (.ret))
   (.test false [
      ⟨.push, 16, none, .load false 1 (.v 2)⟩,
      ⟨.push, 17, none, .call 40 [(.s 0)]⟩,
      ⟨.push, 18, none, .un .not (.s 0)⟩,
      ⟨.push, 15, none, .mov (.s 0)⟩] (.s 0)
    (.seq (.region false [
        ⟨.var 3, 4, none, .newnil 2⟩,
        ⟨.var 4, 5, none, .mov (.c (.int .i64 (2)))⟩])
     (.ret))
    (.skip))))
 (.seq (.region false [
    ⟨.push, 19, none, .mov (.v 0)⟩,
    ⟨.push, 20, none, .mkFn (.func 42) [] [(.v 2)]⟩,
    ⟨.push, 21, none, .call 41 [(.s 1), (.s 0)]⟩,
    ⟨.var 5, 6, none, .mov (.s 0)⟩])
 (.seq (.region false [
    ⟨.push, 22, none, .mkSl 2 (.agg [.int .i64 (0), .int .i64 (0)]) 0 []⟩,
    ⟨.var 6, 7, none, .mov (.s 0)⟩])
 (.seq (.seq (.region false [
     ⟨.var 7, 8, none, .mov (.c (.int .i64 (0)))⟩])
  (.block 1 (.loop ir9_k0 ir9_o0 ir9_r0 ir9_b0)))
 (.seq (.region false [
    ⟨.push, 63, none, .mov (.v 6)⟩,
    ⟨.var 3, 4, none, .mov (.s 0)⟩,
    ⟨.var 4, 5, none, .mov (.c (.int .i64 (0)))⟩])
 (.ret)))))), [.t 3, .t 4]⟩
noncomputable def t_impl_CurveOf : List (Nat × Ctr) := [(39, c_impl_ValidEstimates), (40, c_impl_IsName), (41, c_impl_chosen_impl_Estimate__impl_CurveOf_c1), (43, c_impl_mean)]
theorem lk_impl_CurveOf_39 : look t_impl_CurveOf 39 = some c_impl_ValidEstimates := rfl
theorem lk_impl_CurveOf_40 : look t_impl_CurveOf 40 = some c_impl_IsName := rfl
theorem lk_impl_CurveOf_41 : look t_impl_CurveOf 41 = some c_impl_chosen_impl_Estimate__impl_CurveOf_c1 := rfl
theorem lk_impl_CurveOf_43 : look t_impl_CurveOf 43 = some c_impl_mean := rfl
noncomputable def c_impl_CurveOf : Ctr := mkF t_impl_CurveOf ir9 [.bor, .bor]
theorem s_impl_CurveOf : Sound Try.prog 9 c_impl_CurveOf := mkF_sound _ rfl (snd_cons s_impl_ValidEstimates (snd_cons s_impl_IsName (snd_cons s_impl_chosen_impl_Estimate__impl_CurveOf_c1 (snd_cons s_impl_mean snd_nil)))) (by kernel_rfl : chkFn Try.prog 9 ir9 ir9_v = true)
theorem M_impl_CurveOf : c_impl_CurveOf.modes = [.bor, .bor] := rfl
theorem Fl_impl_CurveOf : c_impl_CurveOf.flat = true := rfl
attribute [go_sem] M_impl_CurveOf Fl_impl_CurveOf
attribute [go_sem] lk_impl_CurveOf_39 lk_impl_CurveOf_40 lk_impl_CurveOf_41 lk_impl_CurveOf_43
def E_impl_CurveOf_l2 (seen : List Estimate) (out : List Point) (time : Int) : (Int × (List Int)) → St
  | (i, mags) => ⟨[.any, .any, .any, .any, .any, .own 3200000, .own 3200032, .int .i64 i, .own 3200064, .int .i64 time], [], [(3200000, ⟨5, List.map Estimate_av seen⟩), (3200032, ⟨2, List.map Point_av out⟩), (3200064, ⟨1, List.map (AV.int .i64) mags⟩)], true⟩
def R_impl_CurveOf_l2 (seen : List Estimate) (out : List Point) (time : Int) (y : Int × (List Int)) : Res := (.exit 3, ⟨[.any, .any, .any, .any, .any, .own 3200000, .own 3200032, .int .i64 y.1, .own 3200064, .int .i64 time], [], [(3200000, ⟨5, List.map Estimate_av seen⟩), (3200032, ⟨2, List.map Point_av out⟩), (3200064, ⟨1, List.map (AV.int .i64) y.2⟩)], true⟩)
theorem impl_CurveOf_l2_ex {seen : List Estimate} {out : List Point} {time : Int} {sgm_ : Int × (List Int)} {rho_ : Int × (List Int)} (h : whileE (impl_CurveOf_l2 seen out time) sgm_ = some rho_) : ∃ L0, ∀ L, L0 ≤ L → iter (exec (look t_impl_CurveOf) L ir9_b1) ir9_k1 ir9_o1 ir9_r1 L (E_impl_CurveOf_l2 seen out time sgm_) = R_impl_CurveOf_l2 seen out time rho_ := by
  refine loop_ex (E := E_impl_CurveOf_l2 seen out time) (R := R_impl_CurveOf_l2 seen out time) (fun y => by first | (intro c; cases c) | (rcases y with y | y <;> (intro c; cases c)) | (rcases y with y | y | y <;> (intro c; cases c))) ?_ h
  clear h
  rintro ⟨i, mags⟩ o_ h
  dsimp only [impl_CurveOf_l2] at h
  obtain ⟨hk8, h⟩ := ck_some h
  rcases or_split hk8 with ⟨ghk8, hk8⟩ | ghk8
  · try simp only [go_sem, n1, n2, n3, n4] at ghk8
    all_goals
    have lhk8 := ix_lt hk8
    have xhk8 := getD_mapD Estimate_av seen lhk8
    try simp only [go_sem] at lhk8
    try simp only [go_sem] at xhk8
    try simp only [go_sem, n1, n2, n3, n4, ghk8] at hk8
    all_goals
    rcases it_some h with ⟨hk9, h⟩ | ⟨hk9, h⟩
    · try simp only [go_sem, n1, n2, n3, n4, ghk8, hk8] at hk9
      all_goals
      obtain ⟨hk10, h⟩ := ck_some h
      have lhk10 := ix_lt hk10
      have xhk10 := getD_mapD Estimate_av seen lhk10
      try simp only [go_sem] at lhk10
      try simp only [go_sem] at xhk10
      try simp only [go_sem, n1, n2, n3, n4, ghk8, hk8, hk9] at hk10
      all_goals
      obtain ⟨hk11, h⟩ := ck_some h
      try simp only [go_sem, n1, n2, n3, n4, ghk8, hk8, hk9, hk10] at hk11
      all_goals
      obtain rfl := so_some h
      refine ⟨0, fun L hL => ?_⟩
      simp only [go_sem, ir9, E_impl_CurveOf_l2, R_impl_CurveOf_l2, ir9_b1, ir9_k1, ir9_o1, ir9_r1, ghk8, hk8, lhk8, xhk8, hk9, hk10, lhk10, xhk10, hk11]
    · try simp only [go_sem, n1, n2, n3, n4, ghk8, hk8] at hk9
      all_goals
      obtain rfl := so_some h
      refine ⟨0, fun L hL => ?_⟩
      simp only [go_sem, ir9, E_impl_CurveOf_l2, R_impl_CurveOf_l2, ir9_b1, ir9_k1, ir9_o1, ir9_r1, ghk8, hk8, lhk8, xhk8, hk9]
  · try simp only [go_sem, n1, n2, n3, n4] at ghk8
    all_goals
    rcases it_some h with ⟨hk9, h⟩ | ⟨hk9, h⟩
    · try simp only [go_sem, n1, n2, n3, n4, ghk8] at hk9
      all_goals
      obtain ⟨hk10, h⟩ := ck_some h
      have lhk10 := ix_lt hk10
      have xhk10 := getD_mapD Estimate_av seen lhk10
      try simp only [go_sem] at lhk10
      try simp only [go_sem] at xhk10
      try simp only [go_sem, n1, n2, n3, n4, ghk8, hk9] at hk10
      all_goals
      obtain ⟨hk11, h⟩ := ck_some h
      try simp only [go_sem, n1, n2, n3, n4, ghk8, hk9, hk10] at hk11
      all_goals
      obtain rfl := so_some h
      refine ⟨0, fun L hL => ?_⟩
      simp only [go_sem, ir9, E_impl_CurveOf_l2, R_impl_CurveOf_l2, ir9_b1, ir9_k1, ir9_o1, ir9_r1, ghk8, hk9, hk10, lhk10, xhk10, hk11]
    · try simp only [go_sem, n1, n2, n3, n4, ghk8] at hk9
      all_goals
      obtain rfl := so_some h
      refine ⟨0, fun L hL => ?_⟩
      simp only [go_sem, ir9, E_impl_CurveOf_l2, R_impl_CurveOf_l2, ir9_b1, ir9_k1, ir9_o1, ir9_r1, ghk8, hk9]

def E_impl_CurveOf_l1 (seen : List Estimate) : ((List Point) × Int) → St
  | (out, i) => ⟨[.any, .any, .any, .any, .any, .own 3200000, .own 3200032, .int .i64 i, .any, .any], [], [(3200000, ⟨5, List.map Estimate_av seen⟩), (3200032, ⟨2, List.map Point_av out⟩)], true⟩
def R_impl_CurveOf_l1 (seen : List Estimate) (y : (List Point)) : Res := (.exit 1, ⟨[.any, .any, .any, .any, .any, .any, .own 3200000, .any, .any, .any], [], [(3200000, ⟨2, List.map Point_av y⟩)], true⟩)
theorem impl_CurveOf_l1_ex {seen : List Estimate} {sgm_ : (List Point) × Int} {rho_ : (List Point)} (h : whileE (impl_CurveOf_l1 seen) sgm_ = some rho_) : ∃ L0, ∀ L, L0 ≤ L → iter (exec (look t_impl_CurveOf) L ir9_b0) ir9_k0 ir9_o0 ir9_r0 L (E_impl_CurveOf_l1 seen sgm_) = R_impl_CurveOf_l1 seen rho_ := by
  refine loop_ex (E := E_impl_CurveOf_l1 seen) (R := R_impl_CurveOf_l1 seen) (fun y => by first | (intro c; cases c) | (rcases y with y | y <;> (intro c; cases c)) | (rcases y with y | y | y <;> (intro c; cases c))) ?_ h
  clear h
  rintro ⟨out, i⟩ o_ h
  dsimp only [impl_CurveOf_l1] at h
  rcases it_some h with ⟨hk6, h⟩ | ⟨hk6, h⟩
  · try simp only [go_sem, n1, n2, n3, n4] at hk6
    all_goals
    obtain ⟨hk7, h⟩ := ck_some h
    have lhk7 := ix_lt hk7
    have xhk7 := getD_mapD Estimate_av seen lhk7
    try simp only [go_sem] at lhk7
    try simp only [go_sem] at xhk7
    try simp only [go_sem, n1, n2, n3, n4, hk6] at hk7
    all_goals
    obtain ⟨y_12, hk12, h⟩ := bd_some h
    obtain ⟨Lhk12, ehk12⟩ := impl_CurveOf_l2_ex hk12
    obtain ⟨y_13, hk13, h⟩ := bd_some h
    have fhk13 := Fs_impl_mean hk13
    try simp only [go_sem, hk6, hk7] at fhk13
    obtain ⟨hk14, h⟩ := ck_some h
    try simp only [go_sem, n1, n2, n3, n4, hk6, hk7] at hk14
    all_goals
    obtain rfl := so_some h
    refine ⟨Lhk12, fun L hL => ?_⟩
    have ehk12 := ehk12 L (by omega)
    try simp only [go_sem, E_impl_CurveOf_l1, R_impl_CurveOf_l1, ir9_b0, ir9_k0, ir9_o0, ir9_r0, E_impl_CurveOf_l2, R_impl_CurveOf_l2, ir9_k1, ir9_o1, ir9_r1, hk6, hk7, hk14] at ehk12
    simp only [go_sem, ir9, E_impl_CurveOf_l1, R_impl_CurveOf_l1, ir9_b0, ir9_k0, ir9_o0, ir9_r0, E_impl_CurveOf_l2, R_impl_CurveOf_l2, ir9_k1, ir9_o1, ir9_r1, hk6, hk7, lhk7, xhk7, fhk13, hk14, ehk12]
  · try simp only [go_sem, n1, n2, n3, n4] at hk6
    all_goals
    obtain rfl := so_some h
    refine ⟨0, fun L hL => ?_⟩
    simp only [go_sem, ir9, E_impl_CurveOf_l1, R_impl_CurveOf_l1, ir9_b0, ir9_k0, ir9_o0, ir9_r0, E_impl_CurveOf_l2, R_impl_CurveOf_l2, ir9_k1, ir9_o1, ir9_r1, hk6]

theorem Fs_impl_CurveOf {list : List Estimate} {star : List UInt8} {y_ : (List Point) × Int} (h : impl_CurveOf list star = some y_) : c_impl_CurveOf.F [.sl 5 (List.map Estimate_av list), .str star] = ⟨true, .tup [.fresh 2 (List.map Point_av y_.1), .int .i64 y_.2], [.any, .any]⟩ := by
  refine mkF_E (by simp only [flatA, flatB, flat1, List.all_cons, List.all_nil, Bool.and_self, flatE_map (f := Point_av) (fun _ => rfl)]) ?_
  dsimp only [impl_CurveOf] at h
  obtain ⟨y_1, hk1, h⟩ := bd_some h
  have fhk1 := Fs_impl_ValidEstimates hk1
  try simp only [go_sem] at fhk1
  rcases it_some h with ⟨hk2, h⟩ | ⟨hk2, h⟩
  · try simp only [go_sem, n1, n2, n3, n4] at hk2
    all_goals
    obtain rfl := so_some h
    refine ⟨0, fun L hL => ?_⟩
    simp only [go_sem, ir9, E_impl_CurveOf_l2, R_impl_CurveOf_l2, ir9_k1, ir9_o1, ir9_r1, E_impl_CurveOf_l1, R_impl_CurveOf_l1, ir9_k0, ir9_o0, ir9_r0, fhk1, hk2]
  · try simp only [go_sem, n1, n2, n3, n4] at hk2
    all_goals
    obtain ⟨y_3, hk3, h⟩ := bd_some h
    have fhk3 := Fs_impl_IsName hk3
    try simp only [go_sem, hk2] at fhk3
    rcases it_some h with ⟨hk4, h⟩ | ⟨hk4, h⟩
    · try simp only [go_sem, n1, n2, n3, n4, hk2] at hk4
      all_goals
      obtain rfl := so_some h
      refine ⟨0, fun L hL => ?_⟩
      simp only [go_sem, ir9, E_impl_CurveOf_l2, R_impl_CurveOf_l2, ir9_k1, ir9_o1, ir9_r1, E_impl_CurveOf_l1, R_impl_CurveOf_l1, ir9_k0, ir9_o0, ir9_r0, fhk1, hk2, fhk3, hk4]
    · try simp only [go_sem, n1, n2, n3, n4, hk2] at hk4
      all_goals
      obtain ⟨y_5, hk5, h⟩ := bd_some h
      have fhk5 := Fs_impl_chosen_impl_Estimate__impl_CurveOf_c1 hk5
      try simp only [go_sem, hk2, hk4] at fhk5
      obtain ⟨y_15, hk15, h⟩ := bd_some h
      obtain ⟨Lhk15, ehk15⟩ := impl_CurveOf_l1_ex hk15
      obtain rfl := so_some h
      refine ⟨Lhk15, fun L hL => ?_⟩
      have ehk15 := ehk15 L (by omega)
      try simp only [go_sem, E_impl_CurveOf_l2, R_impl_CurveOf_l2, ir9_k1, ir9_o1, ir9_r1, E_impl_CurveOf_l1, R_impl_CurveOf_l1, ir9_k0, ir9_o0, ir9_r0, hk2, hk4] at ehk15
      simp only [go_sem, ir9, E_impl_CurveOf_l2, R_impl_CurveOf_l2, ir9_k1, ir9_o1, ir9_r1, E_impl_CurveOf_l1, R_impl_CurveOf_l1, ir9_k0, ir9_o0, ir9_r0, fhk1, hk2, fhk3, hk4, fhk5, ehk15]


def ir51_v : List Nat := [0, 1, 2, 6]
def ir51 : AFn := ⟨3, 4, .seq (.region false [
    ⟨.var 3, 6, none, .mov (.c (.bool false))⟩])
 (.seq (.region false [
    ⟨.push, 7, none, .mov (.v 0)⟩,
    ⟨.push, 8, none, .mov (.v 1)⟩,
    ⟨.push, 9, none, .bin false .geq (.s 1) (.s 0)⟩,
    ⟨.push, 10, none, .mov (.s 0)⟩,
    ⟨.push, 11, (some ((.s 0), true)), .mov (.v 0)⟩,
    ⟨.push, 12, (some ((.s 1), true)), .mov (.v 2)⟩,
    ⟨.push, 13, (some ((.s 2), true)), .bin false .leq (.s 1) (.s 0)⟩,
    ⟨.push, 14, none, .pick (.s 3) (.s 0) (.c (.bool false))⟩,
    ⟨.var 3, 6, none, .mov (.s 0)⟩])
 (.ret)), [.t 3]⟩
noncomputable def t_spec_l00In : List (Nat × Ctr) := []
noncomputable def c_spec_l00In : Ctr := mkF t_spec_l00In ir51 [.bor, .bor, .bor]
theorem s_spec_l00In : Sound Try.prog 51 c_spec_l00In := mkF_sound _ rfl snd_nil (by kernel_rfl : chkFn Try.prog 51 ir51 ir51_v = true)
theorem M_spec_l00In : c_spec_l00In.modes = [.bor, .bor, .bor] := rfl
theorem Fl_spec_l00In : c_spec_l00In.flat = true := rfl
attribute [go_sem] M_spec_l00In Fl_spec_l00In
theorem Fs_spec_l00In {n : Int} {low : Int} {high : Int} {y_ : Bool} (h : spec_l00In n low high = some y_) : c_spec_l00In.F [.int .i64 n, .int .i64 low, .int .i64 high] = ⟨true, .bool y_, [.any, .any, .any]⟩ := by
  refine mkF_E rfl ?_
  dsimp only [spec_l00In] at h
  obtain rfl := so_some h
  refine ⟨0, fun L hL => ?_⟩
  simp only [go_sem, ir51]


def ir84_v : List Nat := [0, 2]
def ir84 : AFn := ⟨1, 2, .seq (.region false [
    ⟨.var 1, 2, none, .mov (.c (.bool false))⟩])
 (.seq (.region false [
    ⟨.push, 3, none, .mov (.v 0)⟩,
    ⟨.push, 4, none, .call 51 [(.s 0), (.c (.int .i64 (0))), (.c (.int .i64 (10000000)))]⟩,
    ⟨.var 1, 2, none, .mov (.s 0)⟩])
 (.ret)), [.t 1]⟩
noncomputable def t_spec_l06Time : List (Nat × Ctr) := [(51, c_spec_l00In)]
theorem lk_spec_l06Time_51 : look t_spec_l06Time 51 = some c_spec_l00In := rfl
noncomputable def c_spec_l06Time : Ctr := mkF t_spec_l06Time ir84 [.bor]
theorem s_spec_l06Time : Sound Try.prog 84 c_spec_l06Time := mkF_sound _ rfl (snd_cons s_spec_l00In snd_nil) (by kernel_rfl : chkFn Try.prog 84 ir84 ir84_v = true)
theorem M_spec_l06Time : c_spec_l06Time.modes = [.bor] := rfl
theorem Fl_spec_l06Time : c_spec_l06Time.flat = true := rfl
attribute [go_sem] M_spec_l06Time Fl_spec_l06Time
attribute [go_sem] lk_spec_l06Time_51
theorem Fs_spec_l06Time {n : Int} {y_ : Bool} (h : spec_l06Time n = some y_) : c_spec_l06Time.F [.int .i64 n] = ⟨true, .bool y_, [.any]⟩ := by
  refine mkF_E rfl ?_
  dsimp only [spec_l06Time] at h
  obtain ⟨y_1, hk1, h⟩ := bd_some h
  have fhk1 := Fs_spec_l00In hk1
  try simp only [go_sem] at fhk1
  obtain rfl := so_some h
  refine ⟨0, fun L hL => ?_⟩
  simp only [go_sem, ir84, fhk1]


def ir85_v : List Nat := [0, 2]
def ir85 : AFn := ⟨1, 2, .seq (.region false [
    ⟨.var 1, 2, none, .mov (.c (.bool false))⟩])
 (.seq (.region false [
    ⟨.push, 3, none, .mov (.v 0)⟩,
    ⟨.push, 4, none, .call 51 [(.s 0), (.c (.int .i64 (-2000))), (.c (.int .i64 (20000)))]⟩,
    ⟨.var 1, 2, none, .mov (.s 0)⟩])
 (.ret)), [.t 1]⟩
noncomputable def t_spec_l02Mag : List (Nat × Ctr) := [(51, c_spec_l00In)]
theorem lk_spec_l02Mag_51 : look t_spec_l02Mag 51 = some c_spec_l00In := rfl
noncomputable def c_spec_l02Mag : Ctr := mkF t_spec_l02Mag ir85 [.bor]
theorem s_spec_l02Mag : Sound Try.prog 85 c_spec_l02Mag := mkF_sound _ rfl (snd_cons s_spec_l00In snd_nil) (by kernel_rfl : chkFn Try.prog 85 ir85 ir85_v = true)
theorem M_spec_l02Mag : c_spec_l02Mag.modes = [.bor] := rfl
theorem Fl_spec_l02Mag : c_spec_l02Mag.flat = true := rfl
attribute [go_sem] M_spec_l02Mag Fl_spec_l02Mag
attribute [go_sem] lk_spec_l02Mag_51
theorem Fs_spec_l02Mag {m : Int} {y_ : Bool} (h : spec_l02Mag m = some y_) : c_spec_l02Mag.F [.int .i64 m] = ⟨true, .bool y_, [.any]⟩ := by
  refine mkF_E rfl ?_
  dsimp only [spec_l02Mag] at h
  obtain ⟨y_1, hk1, h⟩ := bd_some h
  have fhk1 := Fs_spec_l00In hk1
  try simp only [go_sem] at fhk1
  obtain rfl := so_some h
  refine ⟨0, fun L hL => ?_⟩
  simp only [go_sem, ir85, fhk1]


def ir44_b0 : IR := .seq (.test false [
    ⟨.push, 4, none, .mov (.v 2)⟩,
    ⟨.push, 5, none, .mov (.v 0)⟩,
    ⟨.push, 6, none, .len false (.s 0)⟩,
    ⟨.push, 7, none, .bin false .lss (.s 2) (.s 0)⟩] (.s 0)
  (.skip)
  (.exit 0))
 (.seq (.block 1 (.anyo 34 [
     ⟨.slot 0, 10, none, .mov (.v 0)⟩,
     ⟨.slot 1, 11, none, .mov (.v 2)⟩,
     ⟨.slot 2, 12, none, .ixAddr 2 (.s 0) (.s 1)⟩,
     ⟨.slot 3, 13, none, .fldAddr 0 (.s 2)⟩,
     ⟨.slot 4, 14, none, .load false 1 (.s 3)⟩,
     ⟨.slot 5, 15, none, .callp 84 [(.s 4)]⟩,
     ⟨.slot 6, 16, none, .un .not (.s 5)⟩,
     ⟨.slot 7, 17, none, .mov (.s 6)⟩,
     ⟨.slot 8, 18, (some ((.s 7), false)), .mov (.v 0)⟩,
     ⟨.slot 9, 19, (some ((.s 7), false)), .mov (.v 2)⟩,
     ⟨.slot 10, 20, (some ((.s 7), false)), .ixAddr 2 (.s 8) (.s 9)⟩,
     ⟨.slot 11, 21, (some ((.s 7), false)), .fldAddr 1 (.s 10)⟩,
     ⟨.slot 12, 22, (some ((.s 7), false)), .load false 1 (.s 11)⟩,
     ⟨.slot 13, 23, (some ((.s 7), false)), .call 85 [(.s 12)]⟩,
     ⟨.slot 14, 24, (some ((.s 7), false)), .un .not (.s 13)⟩,
     ⟨.slot 15, 25, none, .pick (.s 7) (.c (.bool true)) (.s 14)⟩,
     ⟨.slot 16, 26, none, .mov (.s 15)⟩,
     ⟨.slot 17, 27, (some ((.s 16), false)), .mov (.v 2)⟩,
     ⟨.slot 18, 28, (some ((.s 16), false)), .bin false .gtr (.s 17) (.c (.int .i64 (0)))⟩,
     ⟨.slot 19, 29, (some ((.s 16), false)), .mov (.s 18)⟩,
     ⟨.slot 20, 30, (some ((.s 19), true)), .mov (.v 0)⟩,
     ⟨.slot 21, 31, (some ((.s 19), true)), .mov (.v 2)⟩,
     ⟨.slot 22, 32, (some ((.s 19), true)), .bin false .sub (.s 21) (.c (.int .i64 (1)))⟩,
     ⟨.slot 23, 33, (some ((.s 19), true)), .ixAddr 2 (.s 20) (.s 22)⟩,
     ⟨.slot 24, 34, (some ((.s 19), true)), .fldAddr 0 (.s 23)⟩,
     ⟨.slot 25, 35, (some ((.s 19), true)), .load false 1 (.s 24)⟩,
     ⟨.slot 26, 36, (some ((.s 19), true)), .mov (.v 0)⟩,
     ⟨.slot 27, 37, (some ((.s 19), true)), .mov (.v 2)⟩,
     ⟨.slot 28, 38, (some ((.s 19), true)), .ixAddr 2 (.s 26) (.s 27)⟩,
     ⟨.slot 29, 39, (some ((.s 19), true)), .fldAddr 0 (.s 28)⟩,
     ⟨.slot 30, 40, (some ((.s 19), true)), .load false 1 (.s 29)⟩,
     ⟨.slot 31, 41, (some ((.s 19), true)), .bin false .geq (.s 25) (.s 30)⟩,
     ⟨.slot 32, 42, (some ((.s 16), false)), .pick (.s 19) (.s 31) (.c (.bool false))⟩,
     ⟨.slot 33, 43, none, .pick (.s 16) (.c (.bool true)) (.s 32)⟩] [] (.cond (.s 33)
   (.seq (.region false [
       ⟨.var 1, 2, none, .mov (.c (.bool false))⟩])
    (.ret))
   (.skip))))
 (.region false [
   ⟨.push, 8, none, .mov (.v 2)⟩,
   ⟨.push, 9, none, .bin false .add (.s 0) (.c (.int .i64 (1)))⟩,
   ⟨.var 2, 3, none, .mov (.s 0)⟩]))
def ir44_k0 : List Bool := [true, false, true]
def ir44_o0 : List Bool := [true, false, false]
def ir44_r0 : List Bool := [false, true, false]
def ir44_v : List Nat := [0, 2, 3]
def ir44 : AFn := ⟨1, 3, .seq (.region false [
    ⟨.var 1, 2, none, .mov (.c (.bool false))⟩])
 (.seq (.seq (.region false [
     ⟨.var 2, 3, none, .mov (.c (.int .i64 (0)))⟩])
  (.block 0 (.loop ir44_k0 ir44_o0 ir44_r0 ir44_b0)))
 (.seq (.region false [
    ⟨.push, 44, none, .mov (.v 0)⟩,
    ⟨.push, 45, none, .len false (.s 0)⟩,
    ⟨.push, 46, none, .bin false .leq (.s 0) (.c (.int .i64 (100)))⟩,
    ⟨.var 1, 2, none, .mov (.s 0)⟩])
 (.ret))), [.t 1]⟩
noncomputable def t_spec_l08Ok : List (Nat × Ctr) := [(84, c_spec_l06Time), (85, c_spec_l02Mag)]
theorem lk_spec_l08Ok_84 : look t_spec_l08Ok 84 = some c_spec_l06Time := rfl
theorem lk_spec_l08Ok_85 : look t_spec_l08Ok 85 = some c_spec_l02Mag := rfl
noncomputable def c_spec_l08Ok : Ctr := mkF t_spec_l08Ok ir44 [.bor]
theorem s_spec_l08Ok : Sound Try.prog 44 c_spec_l08Ok := mkF_sound _ rfl (snd_cons s_spec_l06Time (snd_cons s_spec_l02Mag snd_nil)) (by kernel_rfl : chkFn Try.prog 44 ir44 ir44_v = true)
theorem M_spec_l08Ok : c_spec_l08Ok.modes = [.bor] := rfl
theorem Fl_spec_l08Ok : c_spec_l08Ok.flat = true := rfl
attribute [go_sem] M_spec_l08Ok Fl_spec_l08Ok
attribute [go_sem] lk_spec_l08Ok_84 lk_spec_l08Ok_85
def E_spec_l08Ok_l1 (curve : List Point) : Int → St
  | i => ⟨[.sl 2 (List.map Point_av curve), .any, .int .i64 i], [], [], true⟩
def R_spec_l08Ok_l1 (curve : List Point) : (Unit ⊕ Bool) → Res
  | .inl y => (.exit 0, ⟨[.sl 2 (List.map Point_av curve), .any, .any], [], [], true⟩)
  | .inr y => (.ret, ⟨[.any, .bool y, .any], [], [], true⟩)
theorem spec_l08Ok_l1_ex {curve : List Point} {sgm_ : Int} {rho_ : Unit ⊕ Bool} (h : whileE (spec_l08Ok_l1 curve) sgm_ = some rho_) : ∃ L0, ∀ L, L0 ≤ L → iter (exec (look t_spec_l08Ok) L ir44_b0) ir44_k0 ir44_o0 ir44_r0 L (E_spec_l08Ok_l1 curve sgm_) = R_spec_l08Ok_l1 curve rho_ := by
  refine loop_ex (E := E_spec_l08Ok_l1 curve) (R := R_spec_l08Ok_l1 curve) (fun y => by first | (intro c; cases c) | (rcases y with y | y <;> (intro c; cases c)) | (rcases y with y | y | y <;> (intro c; cases c))) ?_ h
  clear h
  intro i o_ h
  dsimp only [spec_l08Ok_l1] at h
  rcases it_some h with ⟨hk1, h⟩ | ⟨hk1, h⟩
  · try simp only [go_sem, n1, n2, n3, n4] at hk1
    all_goals
    obtain ⟨hk2, h⟩ := ck_some h
    have lhk2 := ix_lt hk2
    have xhk2 := getD_mapD Point_av curve lhk2
    try simp only [go_sem] at lhk2
    try simp only [go_sem] at xhk2
    try simp only [go_sem, n1, n2, n3, n4, hk1] at hk2
    all_goals
    obtain ⟨y_3, hk3, h⟩ := bd_some h
    have fhk3 := Fs_spec_l06Time hk3
    try simp only [go_sem, hk1, hk2] at fhk3
    obtain ⟨hk4, h⟩ := ck_some h
    rcases or_split hk4 with ⟨ghk4, hk4⟩ | ghk4
    · try simp only [go_sem, n1, n2, n3, n4, hk1, hk2] at ghk4
      all_goals
      obtain ⟨y_4, hhk4⟩ := Option.isSome_iff_exists.1 hk4
      have fhk4 := Fs_spec_l02Mag hhk4
      try simp only [go_sem, hk1, hk2, ghk4] at fhk4
      obtain ⟨hk5, h⟩ := ck_some h
      rcases or_split hk5 with ⟨ghk5, hk5⟩ | ghk5
      · try simp only [go_sem, n1, n2, n3, n4, hk1, hk2, ghk4, hhk4] at ghk5
        all_goals
        have lhk5 := ix_lt hk5
        have xhk5 := getD_mapD Point_av curve lhk5
        try simp only [go_sem] at lhk5
        try simp only [go_sem] at xhk5
        try simp only [go_sem, n1, n2, n3, n4, hk1, hk2, ghk4, hhk4, ghk5] at hk5
        all_goals
        rcases it_some h with ⟨hk6, h⟩ | ⟨hk6, h⟩
        · try simp only [go_sem, n1, n2, n3, n4, hk1, hk2, ghk4, hhk4, ghk5, hk5] at hk6
          all_goals
          obtain rfl := so_some h
          refine ⟨0, fun L hL => ?_⟩
          simp only [go_sem, ir44, E_spec_l08Ok_l1, R_spec_l08Ok_l1, ir44_b0, ir44_k0, ir44_o0, ir44_r0, hk1, hk2, lhk2, xhk2, fhk3, ghk4, hhk4, fhk4, ghk5, hk5, lhk5, xhk5, hk6]
        · try simp only [go_sem, n1, n2, n3, n4, hk1, hk2, ghk4, hhk4, ghk5, hk5] at hk6
          all_goals
          obtain rfl := so_some h
          refine ⟨0, fun L hL => ?_⟩
          simp only [go_sem, ir44, E_spec_l08Ok_l1, R_spec_l08Ok_l1, ir44_b0, ir44_k0, ir44_o0, ir44_r0, hk1, hk2, lhk2, xhk2, fhk3, ghk4, hhk4, fhk4, ghk5, hk5, lhk5, xhk5, hk6]
      · rcases and_f ghk5 with ghk5a | ⟨ghk5a, ghk5b⟩
        · have ghk5an := no_f ghk5a
          rcases or_t ghk5an with ghk5ana | ⟨ghk5ana, ghk5anb⟩
          · have ghk5anan := no_t ghk5ana
            try simp only [go_sem, n1, n2, n3, n4, hk1, hk2, ghk4, hhk4] at ghk5anan
            all_goals
            rcases it_some h with ⟨hk6, h⟩ | ⟨hk6, h⟩
            · try simp only [go_sem, n1, n2, n3, n4, hk1, hk2, ghk4, hhk4, ghk5anan] at hk6
              all_goals
              obtain rfl := so_some h
              refine ⟨0, fun L hL => ?_⟩
              simp only [go_sem, ir44, E_spec_l08Ok_l1, R_spec_l08Ok_l1, ir44_b0, ir44_k0, ir44_o0, ir44_r0, hk1, hk2, lhk2, xhk2, fhk3, ghk4, hhk4, fhk4, ghk5anan, hk6]
            · try simp only [go_sem, n1, n2, n3, n4, hk1, hk2, ghk4, hhk4, ghk5anan] at hk6
              all_goals
              obtain rfl := so_some h
              refine ⟨0, fun L hL => ?_⟩
              simp only [go_sem, ir44, E_spec_l08Ok_l1, R_spec_l08Ok_l1, ir44_b0, ir44_k0, ir44_o0, ir44_r0, hk1, hk2, lhk2, xhk2, fhk3, ghk4, hhk4, fhk4, ghk5anan, hk6]
          · have ghk5anan := no_f ghk5ana
            have ghk5anbn := no_t ghk5anb
            try simp only [go_sem, n1, n2, n3, n4, hk1, hk2, ghk4, hhk4] at ghk5anan
            all_goals
            try simp only [go_sem, n1, n2, n3, n4, hk1, hk2, ghk4, hhk4, ghk5anan] at ghk5anbn
            all_goals
            rcases it_some h with ⟨hk6, h⟩ | ⟨hk6, h⟩
            · try simp only [go_sem, n1, n2, n3, n4, hk1, hk2, ghk4, hhk4, ghk5anan, ghk5anbn] at hk6
              all_goals
              obtain rfl := so_some h
              refine ⟨0, fun L hL => ?_⟩
              simp only [go_sem, ir44, E_spec_l08Ok_l1, R_spec_l08Ok_l1, ir44_b0, ir44_k0, ir44_o0, ir44_r0, hk1, hk2, lhk2, xhk2, fhk3, ghk4, hhk4, fhk4, ghk5anan, ghk5anbn, hk6]
            · try simp only [go_sem, n1, n2, n3, n4, hk1, hk2, ghk4, hhk4, ghk5anan, ghk5anbn] at hk6
              all_goals
              obtain rfl := so_some h
              refine ⟨0, fun L hL => ?_⟩
              simp only [go_sem, ir44, E_spec_l08Ok_l1, R_spec_l08Ok_l1, ir44_b0, ir44_k0, ir44_o0, ir44_r0, hk1, hk2, lhk2, xhk2, fhk3, ghk4, hhk4, fhk4, ghk5anan, ghk5anbn, hk6]
        · have ghk5an := no_t ghk5a
          obtain ⟨ghk5ana, ghk5anb⟩ := or_f ghk5an
          have ghk5anan := no_f ghk5ana
          have ghk5anbn := no_f ghk5anb
          try simp only [go_sem, n1, n2, n3, n4, hk1, hk2, ghk4, hhk4] at ghk5anan
          all_goals
          try simp only [go_sem, n1, n2, n3, n4, hk1, hk2, ghk4, hhk4, ghk5anan] at ghk5anbn
          all_goals
          try simp only [go_sem, n1, n2, n3, n4, hk1, hk2, ghk4, hhk4, ghk5anan, ghk5anbn] at ghk5b
          all_goals
          rcases it_some h with ⟨hk6, h⟩ | ⟨hk6, h⟩
          · try simp only [go_sem, n1, n2, n3, n4, hk1, hk2, ghk4, hhk4, ghk5anan, ghk5anbn, ghk5b] at hk6
            all_goals
            obtain rfl := so_some h
            refine ⟨0, fun L hL => ?_⟩
            simp only [go_sem, ir44, E_spec_l08Ok_l1, R_spec_l08Ok_l1, ir44_b0, ir44_k0, ir44_o0, ir44_r0, hk1, hk2, lhk2, xhk2, fhk3, ghk4, hhk4, fhk4, ghk5anan, ghk5anbn, ghk5b, hk6]
          · try simp only [go_sem, n1, n2, n3, n4, hk1, hk2, ghk4, hhk4, ghk5anan, ghk5anbn, ghk5b] at hk6
            all_goals
            obtain rfl := so_some h
            refine ⟨0, fun L hL => ?_⟩
            simp only [go_sem, ir44, E_spec_l08Ok_l1, R_spec_l08Ok_l1, ir44_b0, ir44_k0, ir44_o0, ir44_r0, hk1, hk2, lhk2, xhk2, fhk3, ghk4, hhk4, fhk4, ghk5anan, ghk5anbn, ghk5b, hk6]
    · have ghk4n := no_f ghk4
      have ghk4nn := no_t ghk4n
      try simp only [go_sem, n1, n2, n3, n4, hk1, hk2] at ghk4nn
      all_goals
      obtain ⟨hk5, h⟩ := ck_some h
      rcases or_split hk5 with ⟨ghk5, hk5⟩ | ghk5
      · try simp only [go_sem, n1, n2, n3, n4, hk1, hk2, ghk4nn] at ghk5
        all_goals
        have lhk5 := ix_lt hk5
        have xhk5 := getD_mapD Point_av curve lhk5
        try simp only [go_sem] at lhk5
        try simp only [go_sem] at xhk5
        try simp only [go_sem, n1, n2, n3, n4, hk1, hk2, ghk4nn, ghk5] at hk5
        all_goals
        rcases it_some h with ⟨hk6, h⟩ | ⟨hk6, h⟩
        · try simp only [go_sem, n1, n2, n3, n4, hk1, hk2, ghk4nn, ghk5, hk5] at hk6
          all_goals
          obtain rfl := so_some h
          refine ⟨0, fun L hL => ?_⟩
          simp only [go_sem, ir44, E_spec_l08Ok_l1, R_spec_l08Ok_l1, ir44_b0, ir44_k0, ir44_o0, ir44_r0, hk1, hk2, lhk2, xhk2, fhk3, ghk4nn, ghk5, hk5, lhk5, xhk5, hk6]
        · try simp only [go_sem, n1, n2, n3, n4, hk1, hk2, ghk4nn, ghk5, hk5] at hk6
          all_goals
          obtain rfl := so_some h
          refine ⟨0, fun L hL => ?_⟩
          simp only [go_sem, ir44, E_spec_l08Ok_l1, R_spec_l08Ok_l1, ir44_b0, ir44_k0, ir44_o0, ir44_r0, hk1, hk2, lhk2, xhk2, fhk3, ghk4nn, ghk5, hk5, lhk5, xhk5, hk6]
      · rcases and_f ghk5 with ghk5a | ⟨ghk5a, ghk5b⟩
        · have ghk5an := no_f ghk5a
          rcases or_t ghk5an with ghk5ana | ⟨ghk5ana, ghk5anb⟩
          · have ghk5anan := no_t ghk5ana
            try simp only [go_sem, n1, n2, n3, n4, hk1, hk2, ghk4nn] at ghk5anan
            all_goals
            rcases it_some h with ⟨hk6, h⟩ | ⟨hk6, h⟩
            · try simp only [go_sem, n1, n2, n3, n4, hk1, hk2, ghk4nn, ghk5anan] at hk6
              all_goals
              obtain rfl := so_some h
              refine ⟨0, fun L hL => ?_⟩
              simp only [go_sem, ir44, E_spec_l08Ok_l1, R_spec_l08Ok_l1, ir44_b0, ir44_k0, ir44_o0, ir44_r0, hk1, hk2, lhk2, xhk2, fhk3, ghk4nn, ghk5anan, hk6]
            · try simp only [go_sem, n1, n2, n3, n4, hk1, hk2, ghk4nn, ghk5anan] at hk6
              all_goals
              obtain rfl := so_some h
              refine ⟨0, fun L hL => ?_⟩
              simp only [go_sem, ir44, E_spec_l08Ok_l1, R_spec_l08Ok_l1, ir44_b0, ir44_k0, ir44_o0, ir44_r0, hk1, hk2, lhk2, xhk2, fhk3, ghk4nn, ghk5anan, hk6]
          · have ghk5anan := no_f ghk5ana
            have ghk5anbn := no_t ghk5anb
            try simp only [go_sem, n1, n2, n3, n4, hk1, hk2, ghk4nn] at ghk5anan
            all_goals
            try simp only [go_sem, n1, n2, n3, n4, hk1, hk2, ghk4nn, ghk5anan] at ghk5anbn
            all_goals
            rcases it_some h with ⟨hk6, h⟩ | ⟨hk6, h⟩
            · try simp only [go_sem, n1, n2, n3, n4, hk1, hk2, ghk4nn, ghk5anan, ghk5anbn] at hk6
              all_goals
              obtain rfl := so_some h
              refine ⟨0, fun L hL => ?_⟩
              simp only [go_sem, ir44, E_spec_l08Ok_l1, R_spec_l08Ok_l1, ir44_b0, ir44_k0, ir44_o0, ir44_r0, hk1, hk2, lhk2, xhk2, fhk3, ghk4nn, ghk5anan, ghk5anbn, hk6]
            · try simp only [go_sem, n1, n2, n3, n4, hk1, hk2, ghk4nn, ghk5anan, ghk5anbn] at hk6
              all_goals
              obtain rfl := so_some h
              refine ⟨0, fun L hL => ?_⟩
              simp only [go_sem, ir44, E_spec_l08Ok_l1, R_spec_l08Ok_l1, ir44_b0, ir44_k0, ir44_o0, ir44_r0, hk1, hk2, lhk2, xhk2, fhk3, ghk4nn, ghk5anan, ghk5anbn, hk6]
        · have ghk5an := no_t ghk5a
          obtain ⟨ghk5ana, ghk5anb⟩ := or_f ghk5an
          have ghk5anan := no_f ghk5ana
          have ghk5anbn := no_f ghk5anb
          try simp only [go_sem, n1, n2, n3, n4, hk1, hk2, ghk4nn] at ghk5anan
          all_goals
          try simp only [go_sem, n1, n2, n3, n4, hk1, hk2, ghk4nn, ghk5anan] at ghk5anbn
          all_goals
          try simp only [go_sem, n1, n2, n3, n4, hk1, hk2, ghk4nn, ghk5anan, ghk5anbn] at ghk5b
          all_goals
          rcases it_some h with ⟨hk6, h⟩ | ⟨hk6, h⟩
          · try simp only [go_sem, n1, n2, n3, n4, hk1, hk2, ghk4nn, ghk5anan, ghk5anbn, ghk5b] at hk6
            all_goals
            obtain rfl := so_some h
            refine ⟨0, fun L hL => ?_⟩
            simp only [go_sem, ir44, E_spec_l08Ok_l1, R_spec_l08Ok_l1, ir44_b0, ir44_k0, ir44_o0, ir44_r0, hk1, hk2, lhk2, xhk2, fhk3, ghk4nn, ghk5anan, ghk5anbn, ghk5b, hk6]
          · try simp only [go_sem, n1, n2, n3, n4, hk1, hk2, ghk4nn, ghk5anan, ghk5anbn, ghk5b] at hk6
            all_goals
            obtain rfl := so_some h
            refine ⟨0, fun L hL => ?_⟩
            simp only [go_sem, ir44, E_spec_l08Ok_l1, R_spec_l08Ok_l1, ir44_b0, ir44_k0, ir44_o0, ir44_r0, hk1, hk2, lhk2, xhk2, fhk3, ghk4nn, ghk5anan, ghk5anbn, ghk5b, hk6]
  · try simp only [go_sem, n1, n2, n3, n4] at hk1
    all_goals
    obtain rfl := so_some h
    refine ⟨0, fun L hL => ?_⟩
    simp only [go_sem, ir44, E_spec_l08Ok_l1, R_spec_l08Ok_l1, ir44_b0, ir44_k0, ir44_o0, ir44_r0, hk1]

theorem Fs_spec_l08Ok {curve : List Point} {y_ : Bool} (h : spec_l08Ok curve = some y_) : c_spec_l08Ok.F [.sl 2 (List.map Point_av curve)] = ⟨true, .bool y_, [.any]⟩ := by
  refine mkF_E rfl ?_
  dsimp only [spec_l08Ok] at h
  obtain ⟨y_7, hk7, h⟩ := bd_some h
  obtain ⟨Lhk7, ehk7⟩ := spec_l08Ok_l1_ex hk7
  rcases y_7 with y_7a | y_7b
  · dsimp only at h
    obtain rfl := so_some h
    refine ⟨Lhk7, fun L hL => ?_⟩
    have ehk7 := ehk7 L (by omega)
    try simp only [go_sem, E_spec_l08Ok_l1, R_spec_l08Ok_l1, ir44_k0, ir44_o0, ir44_r0] at ehk7
    simp only [go_sem, ir44, E_spec_l08Ok_l1, R_spec_l08Ok_l1, ir44_k0, ir44_o0, ir44_r0, ehk7]
  · dsimp only at h
    obtain rfl := so_some h
    refine ⟨Lhk7, fun L hL => ?_⟩
    have ehk7 := ehk7 L (by omega)
    try simp only [go_sem, E_spec_l08Ok_l1, R_spec_l08Ok_l1, ir44_k0, ir44_o0, ir44_r0] at ehk7
    simp only [go_sem, ir44, E_spec_l08Ok_l1, R_spec_l08Ok_l1, ir44_k0, ir44_o0, ir44_r0, ehk7]


def ir10_v : List Nat := [0, 2]
def ir10 : AFn := ⟨1, 2, .seq (.region false [
    ⟨.var 1, 2, none, .mov (.c (.bool false))⟩])
 (.seq (.region false [
    ⟨.push, 3, none, .mov (.v 0)⟩,
    ⟨.push, 4, none, .call 44 [(.s 0)]⟩,
    ⟨.var 1, 2, none, .mov (.s 0)⟩])
 (.ret)), [.t 1]⟩
noncomputable def t_spec_ValidCurve : List (Nat × Ctr) := [(44, c_spec_l08Ok)]
theorem lk_spec_ValidCurve_44 : look t_spec_ValidCurve 44 = some c_spec_l08Ok := rfl
noncomputable def c_spec_ValidCurve : Ctr := mkF t_spec_ValidCurve ir10 [.bor]
theorem s_spec_ValidCurve : Sound Try.prog 10 c_spec_ValidCurve := mkF_sound _ rfl (snd_cons s_spec_l08Ok snd_nil) (by kernel_rfl : chkFn Try.prog 10 ir10 ir10_v = true)
theorem M_spec_ValidCurve : c_spec_ValidCurve.modes = [.bor] := rfl
theorem Fl_spec_ValidCurve : c_spec_ValidCurve.flat = true := rfl
attribute [go_sem] M_spec_ValidCurve Fl_spec_ValidCurve
attribute [go_sem] lk_spec_ValidCurve_44
theorem Fs_spec_ValidCurve {curve : List Point} {y_ : Bool} (h : spec_ValidCurve curve = some y_) : c_spec_ValidCurve.F [.sl 2 (List.map Point_av curve)] = ⟨true, .bool y_, [.any]⟩ := by
  refine mkF_E rfl ?_
  dsimp only [spec_ValidCurve] at h
  obtain ⟨y_1, hk1, h⟩ := bd_some h
  have fhk1 := Fs_spec_l08Ok hk1
  try simp only [go_sem] at fhk1
  obtain rfl := so_some h
  refine ⟨0, fun L hL => ?_⟩
  simp only [go_sem, ir10, fhk1]


def ir3_b1 : IR := .seq (.anyo 17 [
    ⟨.slot 0, 43, none, .mov (.v 5)⟩,
    ⟨.slot 1, 44, none, .mov (.v 3)⟩,
    ⟨.slot 2, 45, none, .len false (.s 1)⟩,
    ⟨.slot 3, 46, none, .bin false .lss (.s 0) (.s 2)⟩,
    ⟨.slot 4, 47, none, .mov (.s 3)⟩,
    ⟨.slot 5, 48, (some ((.s 4), true)), .mov (.v 3)⟩,
    ⟨.slot 6, 49, (some ((.s 4), true)), .mov (.v 5)⟩,
    ⟨.slot 7, 50, (some ((.s 4), true)), .ixAddr 2 (.s 5) (.s 6)⟩,
    ⟨.slot 8, 51, (some ((.s 4), true)), .fldAddr 0 (.s 7)⟩,
    ⟨.slot 9, 52, (some ((.s 4), true)), .load false 1 (.s 8)⟩,
    ⟨.slot 10, 53, (some ((.s 4), true)), .mov (.v 2)⟩,
    ⟨.slot 11, 54, (some ((.s 4), true)), .mov (.v 6)⟩,
    ⟨.slot 12, 55, (some ((.s 4), true)), .ixAddr 5 (.s 10) (.s 11)⟩,
    ⟨.slot 13, 56, (some ((.s 4), true)), .fldAddr 0 (.s 12)⟩,
    ⟨.slot 14, 57, (some ((.s 4), true)), .load false 1 (.s 13)⟩,
    ⟨.slot 15, 58, (some ((.s 4), true)), .bin false .lss (.s 9) (.s 14)⟩,
    ⟨.slot 16, 59, none, .pick (.s 4) (.s 15) (.c (.bool false))⟩] [] (.cond (.s 16)
  (.skip)
  (.exit 2)))
 (.block 3 (.region false [
    ⟨.push, 60, none, .mov (.v 5)⟩,
    ⟨.push, 61, none, .bin false .add (.s 0) (.c (.int .i64 (1)))⟩,
    ⟨.var 5, 6, none, .mov (.s 0)⟩]))
def ir3_k1 : List Bool := [false, false, true, true, false, true, true]
def ir3_o1 : List Bool := [false, false, true, true, false, true, true]
def ir3_r1 : List Bool := [false, true, false, false, false, false, false]
def ir3_b0 : IR := .seq (.test false [
    ⟨.push, 24, none, .mov (.v 6)⟩,
    ⟨.push, 25, none, .mov (.v 2)⟩,
    ⟨.push, 26, none, .len false (.s 0)⟩,
    ⟨.push, 27, none, .bin false .lss (.s 2) (.s 0)⟩] (.s 0)
  (.skip)
  (.exit 0))
 (.seq (.block 1 (.seq (.test false [
      ⟨.push, 30, none, .mov (.v 2)⟩,
      ⟨.push, 31, none, .mov (.v 6)⟩,
      ⟨.push, 32, none, .ixAddr 5 (.s 1) (.s 0)⟩,
      ⟨.push, 33, none, .fldAddr 1 (.s 0)⟩,
      ⟨.push, 34, none, .load false 1 (.s 0)⟩,
      ⟨.push, 35, none, .bin false .neq (.s 0) (.c (.str [109, 105, 114, 97]))⟩,
      ⟨.push, 36, none, .mov (.s 0)⟩,
      ⟨.push, 37, (some ((.s 0), false)), .mov (.v 2)⟩,
      ⟨.push, 38, (some ((.s 1), false)), .mov (.v 6)⟩,
      ⟨.push, 39, (some ((.s 2), false)), .ixAddr 5 (.s 1) (.s 0)⟩,
      ⟨.push, 40, (some ((.s 3), false)), .fldAddr 4 (.s 0)⟩,
      ⟨.push, 41, (some ((.s 4), false)), .load false 1 (.s 0)⟩,
      ⟨.push, 42, none, .pick (.s 5) (.c (.bool true)) (.s 0)⟩] (.s 0)
    (.exit 1)
    (.skip))
   (.seq (.block 2 (.loop ir3_k1 ir3_o1 ir3_r1 ir3_b1))
   (.anyo 17 [
     ⟨.slot 0, 62, none, .mov (.v 5)⟩,
     ⟨.slot 1, 63, none, .mov (.v 3)⟩,
     ⟨.slot 2, 64, none, .len false (.s 1)⟩,
     ⟨.slot 3, 65, none, .bin false .geq (.s 0) (.s 2)⟩,
     ⟨.slot 4, 66, none, .mov (.s 3)⟩,
     ⟨.slot 5, 67, (some ((.s 4), false)), .mov (.v 3)⟩,
     ⟨.slot 6, 68, (some ((.s 4), false)), .mov (.v 5)⟩,
     ⟨.slot 7, 69, (some ((.s 4), false)), .ixAddr 2 (.s 5) (.s 6)⟩,
     ⟨.slot 8, 70, (some ((.s 4), false)), .fldAddr 0 (.s 7)⟩,
     ⟨.slot 9, 71, (some ((.s 4), false)), .load false 1 (.s 8)⟩,
     ⟨.slot 10, 72, (some ((.s 4), false)), .mov (.v 2)⟩,
     ⟨.slot 11, 73, (some ((.s 4), false)), .mov (.v 6)⟩,
     ⟨.slot 12, 74, (some ((.s 4), false)), .ixAddr 5 (.s 10) (.s 11)⟩,
     ⟨.slot 13, 75, (some ((.s 4), false)), .fldAddr 0 (.s 12)⟩,
     ⟨.slot 14, 76, (some ((.s 4), false)), .load false 1 (.s 13)⟩,
     ⟨.slot 15, 77, (some ((.s 4), false)), .bin false .neq (.s 9) (.s 14)⟩,
     ⟨.slot 16, 78, none, .pick (.s 4) (.c (.bool true)) (.s 15)⟩] [] (.cond (.s 16)
   (.seq (.region false [
       ⟨.var 1, 2, none, .mov (.c (.bool false))⟩])
    (.ret))
   (.skip))))))
 (.region false [
   ⟨.push, 28, none, .mov (.v 6)⟩,
   ⟨.push, 29, none, .bin false .add (.s 0) (.c (.int .i64 (1)))⟩,
   ⟨.var 6, 7, none, .mov (.s 0)⟩]))
def ir3_k0 : List Bool := [false, false, true, true, false, true, true]
def ir3_o0 : List Bool := [false, false, true, true, false, false, false]
def ir3_r0 : List Bool := [false, true, false, false, false, false, false]
def ir3_v : List Nat := [0, 2, 3, 4, 5, 6, 7]
def ir3 : AFn := ⟨1, 7, .seq (.region false [
    ⟨.var 1, 2, none, .mov (.c (.bool false))⟩])
 (.seq (.test false [
    ⟨.push, 8, none, .mov (.v 0)⟩,
    ⟨.push, 9, none, .call 7 [(.s 0), (.c (.sl 1 []))]⟩] (.s 0)
  (.seq (.region false [
      ⟨.var 1, 2, none, .mov (.c (.bool true))⟩])
   (.ret))
  (.skip))
 (.seq (.region false [
    ⟨.push, 10, none, .mov (.v 0)⟩,
    ⟨.push, 11, none, .call 8 [(.s 0)]⟩,
    ⟨.var 2, 3, none, .mov (.s 0)⟩])
 (.seq (.region false [
    ⟨.push, 13, none, .mov (.v 2)⟩,
    ⟨.push, 14, none, .call 9 [(.s 0), (.c (.str [109, 105, 114, 97]))]⟩,
    ⟨.push, 12, none, .mov (.s 0)⟩,
    ⟨.push, 15, none, .ext (.s 0) 0⟩,
    ⟨.push, 16, none, .ext (.s 1) 1⟩,
    ⟨.var 3, 4, none, .mov (.s 1)⟩,
    ⟨.var 4, 5, none, .mov (.s 0)⟩])
 (.seq (.test false [
    ⟨.push, 17, none, .mov (.v 4)⟩,
    ⟨.push, 18, none, .bin false .neq (.s 0) (.c (.int .i64 (0)))⟩,
    ⟨.push, 19, none, .mov (.s 0)⟩,
    ⟨.push, 20, (some ((.s 0), false)), .mov (.v 3)⟩,
    ⟨.push, 21, (some ((.s 1), false)), .call 10 [(.s 0)]⟩,
    ⟨.push, 22, (some ((.s 2), false)), .un .not (.s 0)⟩,
    ⟨.push, 23, none, .pick (.s 3) (.c (.bool true)) (.s 0)⟩] (.s 0)
  (.seq (.region false [
      ⟨.var 1, 2, none, .mov (.c (.bool false))⟩])
   (.ret))
  (.skip))
 (.seq (.region false [
    ⟨.var 5, 6, none, .mov (.c (.int .i64 (0)))⟩])
 (.seq (.seq (.region false [
     ⟨.var 6, 7, none, .mov (.c (.int .i64 (0)))⟩])
  (.block 0 (.loop ir3_k0 ir3_o0 ir3_r0 ir3_b0)))
 (.seq (.region false [
    ⟨.push, 79, none, .mov (.v 3)⟩,
    ⟨.push, 80, none, .len false (.s 0)⟩,
    ⟨.push, 81, none, .mov (.v 2)⟩,
    ⟨.push, 82, none, .len false (.s 0)⟩,
    ⟨.push, 83, none, .bin false .leq (.s 2) (.s 0)⟩,
    ⟨.var 1, 2, none, .mov (.s 0)⟩])
 (.ret)))))))), [.t 1]⟩
noncomputable def t_laws_FnCurves : List (Nat × Ctr) := [(7, c_laws_a2Long), (8, c_spec_A2Estimates), (9, c_impl_CurveOf), (10, c_spec_ValidCurve)]
theorem lk_laws_FnCurves_7 : look t_laws_FnCurves 7 = some c_laws_a2Long := rfl
theorem lk_laws_FnCurves_8 : look t_laws_FnCurves 8 = some c_spec_A2Estimates := rfl
theorem lk_laws_FnCurves_9 : look t_laws_FnCurves 9 = some c_impl_CurveOf := rfl
theorem lk_laws_FnCurves_10 : look t_laws_FnCurves 10 = some c_spec_ValidCurve := rfl
noncomputable def c_laws_FnCurves : Ctr := mkF t_laws_FnCurves ir3 [.bor]
theorem s_laws_FnCurves : Sound Try.prog 3 c_laws_FnCurves := mkF_sound _ rfl (snd_cons s_laws_a2Long (snd_cons s_spec_A2Estimates (snd_cons s_impl_CurveOf (snd_cons s_spec_ValidCurve snd_nil)))) (by kernel_rfl : chkFn Try.prog 3 ir3 ir3_v = true)
theorem M_laws_FnCurves : c_laws_FnCurves.modes = [.bor] := rfl
theorem Fl_laws_FnCurves : c_laws_FnCurves.flat = true := rfl
attribute [go_sem] M_laws_FnCurves Fl_laws_FnCurves
attribute [go_sem] lk_laws_FnCurves_7 lk_laws_FnCurves_8 lk_laws_FnCurves_9 lk_laws_FnCurves_10
def E_laws_FnCurves_l2 (list : List Estimate) (curve : List Point) (i : Int) : Int → St
  | at_ => ⟨[.any, .any, .own 3200000, .own 3200032, .any, .int .i64 at_, .int .i64 i], [], [(3200000, ⟨5, List.map Estimate_av list⟩), (3200032, ⟨2, List.map Point_av curve⟩)], true⟩
def R_laws_FnCurves_l2 (list : List Estimate) (curve : List Point) (i : Int) (y : Int) : Res := (.exit 2, ⟨[.any, .any, .own 3200000, .own 3200032, .any, .int .i64 y, .int .i64 i], [], [(3200000, ⟨5, List.map Estimate_av list⟩), (3200032, ⟨2, List.map Point_av curve⟩)], true⟩)
theorem laws_FnCurves_l2_ex {list : List Estimate} {curve : List Point} {i : Int} {sgm_ : Int} {rho_ : Int} (h : whileE (laws_FnCurves_l2 list curve i) sgm_ = some rho_) : ∃ L0, ∀ L, L0 ≤ L → iter (exec (look t_laws_FnCurves) L ir3_b1) ir3_k1 ir3_o1 ir3_r1 L (E_laws_FnCurves_l2 list curve i sgm_) = R_laws_FnCurves_l2 list curve i rho_ := by
  refine loop_ex (E := E_laws_FnCurves_l2 list curve i) (R := R_laws_FnCurves_l2 list curve i) (fun y => by first | (intro c; cases c) | (rcases y with y | y <;> (intro c; cases c)) | (rcases y with y | y | y <;> (intro c; cases c))) ?_ h
  clear h
  intro at_ o_ h
  dsimp only [laws_FnCurves_l2] at h
  obtain ⟨hk10, h⟩ := ck_some h
  rcases or_split hk10 with ⟨ghk10, hk10⟩ | ghk10
  · try simp only [go_sem, n1, n2, n3, n4] at ghk10
    all_goals
    have lhk10 := ix_lt hk10
    have xhk10 := getD_mapD Point_av curve lhk10
    try simp only [go_sem] at lhk10
    try simp only [go_sem] at xhk10
    try simp only [go_sem, n1, n2, n3, n4, ghk10] at hk10
    all_goals
    obtain ⟨hk11, h⟩ := ck_some h
    rcases or_split hk11 with ⟨ghk11, hk11⟩ | ghk11
    · try simp only [go_sem, n1, n2, n3, n4, ghk10, hk10] at ghk11
      all_goals
      have lhk11 := ix_lt hk11
      have xhk11 := getD_mapD Estimate_av list lhk11
      try simp only [go_sem] at lhk11
      try simp only [go_sem] at xhk11
      try simp only [go_sem, n1, n2, n3, n4, ghk10, hk10, ghk11] at hk11
      all_goals
      rcases it_some h with ⟨hk12, h⟩ | ⟨hk12, h⟩
      · try simp only [go_sem, n1, n2, n3, n4, ghk10, hk10, ghk11, hk11] at hk12
        all_goals
        obtain rfl := so_some h
        refine ⟨0, fun L hL => ?_⟩
        simp only [go_sem, ir3, E_laws_FnCurves_l2, R_laws_FnCurves_l2, ir3_b1, ir3_k1, ir3_o1, ir3_r1, ghk10, hk10, lhk10, xhk10, ghk11, hk11, lhk11, xhk11, hk12]
      · try simp only [go_sem, n1, n2, n3, n4, ghk10, hk10, ghk11, hk11] at hk12
        all_goals
        obtain rfl := so_some h
        refine ⟨0, fun L hL => ?_⟩
        simp only [go_sem, ir3, E_laws_FnCurves_l2, R_laws_FnCurves_l2, ir3_b1, ir3_k1, ir3_o1, ir3_r1, ghk10, hk10, lhk10, xhk10, ghk11, hk11, lhk11, xhk11, hk12]
    · try simp only [go_sem, n1, n2, n3, n4, ghk10, hk10] at ghk11
      all_goals
      rcases it_some h with ⟨hk12, h⟩ | ⟨hk12, h⟩
      · try simp only [go_sem, n1, n2, n3, n4, ghk10, hk10, ghk11] at hk12
        all_goals
        obtain rfl := so_some h
        refine ⟨0, fun L hL => ?_⟩
        simp only [go_sem, ir3, E_laws_FnCurves_l2, R_laws_FnCurves_l2, ir3_b1, ir3_k1, ir3_o1, ir3_r1, ghk10, hk10, lhk10, xhk10, ghk11, hk12]
      · try simp only [go_sem, n1, n2, n3, n4, ghk10, hk10, ghk11] at hk12
        all_goals
        obtain rfl := so_some h
        refine ⟨0, fun L hL => ?_⟩
        simp only [go_sem, ir3, E_laws_FnCurves_l2, R_laws_FnCurves_l2, ir3_b1, ir3_k1, ir3_o1, ir3_r1, ghk10, hk10, lhk10, xhk10, ghk11, hk12]
  · try simp only [go_sem, n1, n2, n3, n4] at ghk10
    all_goals
    obtain ⟨hk11, h⟩ := ck_some h
    rcases or_split hk11 with ⟨ghk11, hk11⟩ | ghk11
    · try simp only [go_sem, n1, n2, n3, n4, ghk10] at ghk11
      all_goals
      have lhk11 := ix_lt hk11
      have xhk11 := getD_mapD Estimate_av list lhk11
      try simp only [go_sem] at lhk11
      try simp only [go_sem] at xhk11
      try simp only [go_sem, n1, n2, n3, n4, ghk10, ghk11] at hk11
      all_goals
      rcases it_some h with ⟨hk12, h⟩ | ⟨hk12, h⟩
      · try simp only [go_sem, n1, n2, n3, n4, ghk10, ghk11, hk11] at hk12
        all_goals
        obtain rfl := so_some h
        refine ⟨0, fun L hL => ?_⟩
        simp only [go_sem, ir3, E_laws_FnCurves_l2, R_laws_FnCurves_l2, ir3_b1, ir3_k1, ir3_o1, ir3_r1, ghk10, ghk11, hk11, lhk11, xhk11, hk12]
      · try simp only [go_sem, n1, n2, n3, n4, ghk10, ghk11, hk11] at hk12
        all_goals
        obtain rfl := so_some h
        refine ⟨0, fun L hL => ?_⟩
        simp only [go_sem, ir3, E_laws_FnCurves_l2, R_laws_FnCurves_l2, ir3_b1, ir3_k1, ir3_o1, ir3_r1, ghk10, ghk11, hk11, lhk11, xhk11, hk12]
    · try simp only [go_sem, n1, n2, n3, n4, ghk10] at ghk11
      all_goals
      rcases it_some h with ⟨hk12, h⟩ | ⟨hk12, h⟩
      · try simp only [go_sem, n1, n2, n3, n4, ghk10, ghk11] at hk12
        all_goals
        obtain rfl := so_some h
        refine ⟨0, fun L hL => ?_⟩
        simp only [go_sem, ir3, E_laws_FnCurves_l2, R_laws_FnCurves_l2, ir3_b1, ir3_k1, ir3_o1, ir3_r1, ghk10, ghk11, hk12]
      · try simp only [go_sem, n1, n2, n3, n4, ghk10, ghk11] at hk12
        all_goals
        obtain rfl := so_some h
        refine ⟨0, fun L hL => ?_⟩
        simp only [go_sem, ir3, E_laws_FnCurves_l2, R_laws_FnCurves_l2, ir3_b1, ir3_k1, ir3_o1, ir3_r1, ghk10, ghk11, hk12]

def E_laws_FnCurves_l1 (list : List Estimate) (curve : List Point) : (Int × Int) → St
  | (at_, i) => ⟨[.any, .any, .own 3200000, .own 3200032, .any, .int .i64 at_, .int .i64 i], [], [(3200000, ⟨5, List.map Estimate_av list⟩), (3200032, ⟨2, List.map Point_av curve⟩)], true⟩
def R_laws_FnCurves_l1 (list : List Estimate) (curve : List Point) : (Unit ⊕ Bool) → Res
  | .inl y => (.exit 0, ⟨[.any, .any, .own 3200000, .own 3200032, .any, .any, .any], [], [(3200000, ⟨5, List.map Estimate_av list⟩), (3200032, ⟨2, List.map Point_av curve⟩)], true⟩)
  | .inr y => (.ret, ⟨[.any, .bool y, .any, .any, .any, .any, .any], [], [], true⟩)
theorem laws_FnCurves_l1_ex {list : List Estimate} {curve : List Point} {sgm_ : Int × Int} {rho_ : Unit ⊕ Bool} (h : whileE (laws_FnCurves_l1 list curve) sgm_ = some rho_) : ∃ L0, ∀ L, L0 ≤ L → iter (exec (look t_laws_FnCurves) L ir3_b0) ir3_k0 ir3_o0 ir3_r0 L (E_laws_FnCurves_l1 list curve sgm_) = R_laws_FnCurves_l1 list curve rho_ := by
  refine loop_ex (E := E_laws_FnCurves_l1 list curve) (R := R_laws_FnCurves_l1 list curve) (fun y => by first | (intro c; cases c) | (rcases y with y | y <;> (intro c; cases c)) | (rcases y with y | y | y <;> (intro c; cases c))) ?_ h
  clear h
  rintro ⟨at_, i⟩ o_ h
  dsimp only [laws_FnCurves_l1] at h
  rcases it_some h with ⟨hk7, h⟩ | ⟨hk7, h⟩
  · try simp only [go_sem, n1, n2, n3, n4] at hk7
    all_goals
    obtain ⟨hk8, h⟩ := ck_some h
    have lhk8 := ix_lt hk8
    have xhk8 := getD_mapD Estimate_av list lhk8
    try simp only [go_sem] at lhk8
    try simp only [go_sem] at xhk8
    try simp only [go_sem, n1, n2, n3, n4, hk7] at hk8
    all_goals
    rcases it_some h with ⟨hk9, h⟩ | ⟨hk9, h⟩
    · try simp only [go_sem, n1, n2, n3, n4, hk7, hk8] at hk9
      all_goals
      obtain rfl := so_some h
      refine ⟨0, fun L hL => ?_⟩
      simp only [go_sem, ir3, E_laws_FnCurves_l1, R_laws_FnCurves_l1, ir3_b0, ir3_k0, ir3_o0, ir3_r0, E_laws_FnCurves_l2, R_laws_FnCurves_l2, ir3_k1, ir3_o1, ir3_r1, hk7, hk8, lhk8, xhk8, hk9]
    · try simp only [go_sem, n1, n2, n3, n4, hk7, hk8] at hk9
      all_goals
      obtain ⟨y_13, hk13, h⟩ := bd_some h
      obtain ⟨Lhk13, ehk13⟩ := laws_FnCurves_l2_ex hk13
      obtain ⟨hk14, h⟩ := ck_some h
      rcases or_split hk14 with ⟨ghk14, hk14⟩ | ghk14
      · try simp only [go_sem, n1, n2, n3, n4, hk7, hk8, hk9] at ghk14
        all_goals
        have lhk14 := ix_lt hk14
        have xhk14 := getD_mapD Point_av curve lhk14
        try simp only [go_sem] at lhk14
        try simp only [go_sem] at xhk14
        try simp only [go_sem, n1, n2, n3, n4, hk7, hk8, hk9, ghk14] at hk14
        all_goals
        rcases it_some h with ⟨hk15, h⟩ | ⟨hk15, h⟩
        · try simp only [go_sem, n1, n2, n3, n4, hk7, hk8, hk9, ghk14, hk14] at hk15
          all_goals
          obtain rfl := so_some h
          refine ⟨Lhk13, fun L hL => ?_⟩
          have ehk13 := ehk13 L (by omega)
          try simp only [go_sem, E_laws_FnCurves_l1, R_laws_FnCurves_l1, ir3_b0, ir3_k0, ir3_o0, ir3_r0, E_laws_FnCurves_l2, R_laws_FnCurves_l2, ir3_k1, ir3_o1, ir3_r1, hk7, hk8, hk9, ghk14, hk14, hk15] at ehk13
          simp only [go_sem, ir3, E_laws_FnCurves_l1, R_laws_FnCurves_l1, ir3_b0, ir3_k0, ir3_o0, ir3_r0, E_laws_FnCurves_l2, R_laws_FnCurves_l2, ir3_k1, ir3_o1, ir3_r1, hk7, hk8, lhk8, xhk8, hk9, ghk14, hk14, lhk14, xhk14, hk15, ehk13]
        · try simp only [go_sem, n1, n2, n3, n4, hk7, hk8, hk9, ghk14, hk14] at hk15
          all_goals
          obtain rfl := so_some h
          refine ⟨Lhk13, fun L hL => ?_⟩
          have ehk13 := ehk13 L (by omega)
          try simp only [go_sem, E_laws_FnCurves_l1, R_laws_FnCurves_l1, ir3_b0, ir3_k0, ir3_o0, ir3_r0, E_laws_FnCurves_l2, R_laws_FnCurves_l2, ir3_k1, ir3_o1, ir3_r1, hk7, hk8, hk9, ghk14, hk14, hk15] at ehk13
          simp only [go_sem, ir3, E_laws_FnCurves_l1, R_laws_FnCurves_l1, ir3_b0, ir3_k0, ir3_o0, ir3_r0, E_laws_FnCurves_l2, R_laws_FnCurves_l2, ir3_k1, ir3_o1, ir3_r1, hk7, hk8, lhk8, xhk8, hk9, ghk14, hk14, lhk14, xhk14, hk15, ehk13]
      · have ghk14n := no_f ghk14
        try simp only [go_sem, n1, n2, n3, n4, hk7, hk8, hk9] at ghk14n
        all_goals
        rcases it_some h with ⟨hk15, h⟩ | ⟨hk15, h⟩
        · try simp only [go_sem, n1, n2, n3, n4, hk7, hk8, hk9, ghk14n] at hk15
          all_goals
          obtain rfl := so_some h
          refine ⟨Lhk13, fun L hL => ?_⟩
          have ehk13 := ehk13 L (by omega)
          try simp only [go_sem, E_laws_FnCurves_l1, R_laws_FnCurves_l1, ir3_b0, ir3_k0, ir3_o0, ir3_r0, E_laws_FnCurves_l2, R_laws_FnCurves_l2, ir3_k1, ir3_o1, ir3_r1, hk7, hk8, hk9, ghk14n, hk15] at ehk13
          simp only [go_sem, ir3, E_laws_FnCurves_l1, R_laws_FnCurves_l1, ir3_b0, ir3_k0, ir3_o0, ir3_r0, E_laws_FnCurves_l2, R_laws_FnCurves_l2, ir3_k1, ir3_o1, ir3_r1, hk7, hk8, lhk8, xhk8, hk9, ghk14n, hk15, ehk13]
        · try simp only [go_sem, n1, n2, n3, n4, hk7, hk8, hk9, ghk14n] at hk15
          all_goals
          obtain rfl := so_some h
          refine ⟨Lhk13, fun L hL => ?_⟩
          have ehk13 := ehk13 L (by omega)
          try simp only [go_sem, E_laws_FnCurves_l1, R_laws_FnCurves_l1, ir3_b0, ir3_k0, ir3_o0, ir3_r0, E_laws_FnCurves_l2, R_laws_FnCurves_l2, ir3_k1, ir3_o1, ir3_r1, hk7, hk8, hk9, ghk14n, hk15] at ehk13
          simp only [go_sem, ir3, E_laws_FnCurves_l1, R_laws_FnCurves_l1, ir3_b0, ir3_k0, ir3_o0, ir3_r0, E_laws_FnCurves_l2, R_laws_FnCurves_l2, ir3_k1, ir3_o1, ir3_r1, hk7, hk8, lhk8, xhk8, hk9, ghk14n, hk15, ehk13]
  · try simp only [go_sem, n1, n2, n3, n4] at hk7
    all_goals
    obtain rfl := so_some h
    refine ⟨0, fun L hL => ?_⟩
    simp only [go_sem, ir3, E_laws_FnCurves_l1, R_laws_FnCurves_l1, ir3_b0, ir3_k0, ir3_o0, ir3_r0, E_laws_FnCurves_l2, R_laws_FnCurves_l2, ir3_k1, ir3_o1, ir3_r1, hk7]

theorem Fs_laws_FnCurves {code : List UInt8} {y_ : Bool} (h : laws_FnCurves code = some y_) : c_laws_FnCurves.F [.sl 1 (List.map byteAV code)] = ⟨true, .bool y_, [.any]⟩ := by
  refine mkF_E rfl ?_
  dsimp only [laws_FnCurves] at h
  obtain ⟨y_1, hk1, h⟩ := bd_some h
  have fhk1 := Fs_laws_a2Long hk1
  try simp only [go_sem] at fhk1
  rcases it_some h with ⟨hk2, h⟩ | ⟨hk2, h⟩
  · try simp only [go_sem, n1, n2, n3, n4] at hk2
    all_goals
    obtain rfl := so_some h
    refine ⟨0, fun L hL => ?_⟩
    simp only [go_sem, ir3, E_laws_FnCurves_l2, R_laws_FnCurves_l2, ir3_k1, ir3_o1, ir3_r1, E_laws_FnCurves_l1, R_laws_FnCurves_l1, ir3_k0, ir3_o0, ir3_r0, fhk1, hk2]
  · try simp only [go_sem, n1, n2, n3, n4] at hk2
    all_goals
    obtain ⟨y_3, hk3, h⟩ := bd_some h
    have fhk3 := Fs_spec_A2Estimates hk3
    try simp only [go_sem, hk2] at fhk3
    obtain ⟨y_4, hk4, h⟩ := bd_some h
    have fhk4 := Fs_impl_CurveOf hk4
    try simp only [go_sem, hk2] at fhk4
    obtain ⟨hk5, h⟩ := ck_some h
    rcases or_split hk5 with ⟨ghk5, hk5⟩ | ghk5
    · try simp only [go_sem, n1, n2, n3, n4, hk2] at ghk5
      all_goals
      obtain ⟨y_5, hhk5⟩ := Option.isSome_iff_exists.1 hk5
      have fhk5 := Fs_spec_ValidCurve hhk5
      try simp only [go_sem, hk2, ghk5] at fhk5
      rcases it_some h with ⟨hk6, h⟩ | ⟨hk6, h⟩
      · try simp only [go_sem, n1, n2, n3, n4, hk2, ghk5, hhk5] at hk6
        all_goals
        obtain rfl := so_some h
        refine ⟨0, fun L hL => ?_⟩
        simp only [go_sem, ir3, E_laws_FnCurves_l2, R_laws_FnCurves_l2, ir3_k1, ir3_o1, ir3_r1, E_laws_FnCurves_l1, R_laws_FnCurves_l1, ir3_k0, ir3_o0, ir3_r0, fhk1, hk2, fhk3, fhk4, ghk5, hhk5, fhk5, hk6]
      · try simp only [go_sem, n1, n2, n3, n4, hk2, ghk5, hhk5] at hk6
        all_goals
        obtain ⟨y_16, hk16, h⟩ := bd_some h
        obtain ⟨Lhk16, ehk16⟩ := laws_FnCurves_l1_ex hk16
        rcases y_16 with y_16a | y_16b
        · dsimp only at h
          obtain rfl := so_some h
          refine ⟨Lhk16, fun L hL => ?_⟩
          have ehk16 := ehk16 L (by omega)
          try simp only [go_sem, E_laws_FnCurves_l2, R_laws_FnCurves_l2, ir3_k1, ir3_o1, ir3_r1, E_laws_FnCurves_l1, R_laws_FnCurves_l1, ir3_k0, ir3_o0, ir3_r0, hk2, ghk5, hhk5, hk6] at ehk16
          simp only [go_sem, ir3, E_laws_FnCurves_l2, R_laws_FnCurves_l2, ir3_k1, ir3_o1, ir3_r1, E_laws_FnCurves_l1, R_laws_FnCurves_l1, ir3_k0, ir3_o0, ir3_r0, fhk1, hk2, fhk3, fhk4, ghk5, hhk5, fhk5, hk6, ehk16]
        · dsimp only at h
          obtain rfl := so_some h
          refine ⟨Lhk16, fun L hL => ?_⟩
          have ehk16 := ehk16 L (by omega)
          try simp only [go_sem, E_laws_FnCurves_l2, R_laws_FnCurves_l2, ir3_k1, ir3_o1, ir3_r1, E_laws_FnCurves_l1, R_laws_FnCurves_l1, ir3_k0, ir3_o0, ir3_r0, hk2, ghk5, hhk5, hk6] at ehk16
          simp only [go_sem, ir3, E_laws_FnCurves_l2, R_laws_FnCurves_l2, ir3_k1, ir3_o1, ir3_r1, E_laws_FnCurves_l1, R_laws_FnCurves_l1, ir3_k0, ir3_o0, ir3_r0, fhk1, hk2, fhk3, fhk4, ghk5, hhk5, fhk5, hk6, ehk16]
    · have ghk5n := no_f ghk5
      have ghk5nn := no_t ghk5n
      try simp only [go_sem, n1, n2, n3, n4, hk2] at ghk5nn
      all_goals
      rcases it_some h with ⟨hk6, h⟩ | ⟨hk6, h⟩
      · try simp only [go_sem, n1, n2, n3, n4, hk2, ghk5nn] at hk6
        all_goals
        obtain rfl := so_some h
        refine ⟨0, fun L hL => ?_⟩
        simp only [go_sem, ir3, E_laws_FnCurves_l2, R_laws_FnCurves_l2, ir3_k1, ir3_o1, ir3_r1, E_laws_FnCurves_l1, R_laws_FnCurves_l1, ir3_k0, ir3_o0, ir3_r0, fhk1, hk2, fhk3, fhk4, ghk5nn, hk6]
      · try simp only [go_sem, n1, n2, n3, n4, hk2, ghk5nn] at hk6
        all_goals
        obtain ⟨y_16, hk16, h⟩ := bd_some h
        obtain ⟨Lhk16, ehk16⟩ := laws_FnCurves_l1_ex hk16
        rcases y_16 with y_16a | y_16b
        · dsimp only at h
          obtain rfl := so_some h
          refine ⟨Lhk16, fun L hL => ?_⟩
          have ehk16 := ehk16 L (by omega)
          try simp only [go_sem, E_laws_FnCurves_l2, R_laws_FnCurves_l2, ir3_k1, ir3_o1, ir3_r1, E_laws_FnCurves_l1, R_laws_FnCurves_l1, ir3_k0, ir3_o0, ir3_r0, hk2, ghk5nn, hk6] at ehk16
          simp only [go_sem, ir3, E_laws_FnCurves_l2, R_laws_FnCurves_l2, ir3_k1, ir3_o1, ir3_r1, E_laws_FnCurves_l1, R_laws_FnCurves_l1, ir3_k0, ir3_o0, ir3_r0, fhk1, hk2, fhk3, fhk4, ghk5nn, hk6, ehk16]
        · dsimp only at h
          obtain rfl := so_some h
          refine ⟨Lhk16, fun L hL => ?_⟩
          have ehk16 := ehk16 L (by omega)
          try simp only [go_sem, E_laws_FnCurves_l2, R_laws_FnCurves_l2, ir3_k1, ir3_o1, ir3_r1, E_laws_FnCurves_l1, R_laws_FnCurves_l1, ir3_k0, ir3_o0, ir3_r0, hk2, ghk5nn, hk6] at ehk16
          simp only [go_sem, ir3, E_laws_FnCurves_l2, R_laws_FnCurves_l2, ir3_k1, ir3_o1, ir3_r1, E_laws_FnCurves_l1, R_laws_FnCurves_l1, ir3_k0, ir3_o0, ir3_r0, fhk1, hk2, fhk3, fhk4, ghk5nn, hk6, ehk16]


end Go.Proofs.Ytgbibhhblimfiab
