/- Codes and contracts of the functions that DT reaches, and that their typed forms say what they do. No condition. -/
import Derived.Test.YtbdghipedlldbaaGreatDoorEngLR
import Derived.Test.YtbdghipedlldbaaGreatDoorRows
import Derived.WalkKit
namespace Go.Proofs.YtbdghipedlldbaaGreatDoor
open Go Go.RowKit
set_option linter.unusedVariables false
set_option linter.unusedSimpArgs false
set_option maxRecDepth 10000

def ir21_v : List Nat := [0, 2, 3, 4]
def ir21 : AFn := ⟨1, 4, .seq (.region false [
    ⟨.var 1, 2, none, .mov (.c (.cv (.pointer none)))⟩,
    ⟨.var 2, 3, none, .mov (.c (.int .i64 (0)))⟩])
 (.seq (.test false [
    ⟨.push, 5, none, .mov (.v 0)⟩,
    ⟨.push, 6, none, .len true (.s 0)⟩,
    ⟨.push, 7, none, .bin false .gtr (.s 0) (.c (.int .i64 (4000)))⟩] (.s 0)
  (.seq (.region false [
      ⟨.push, 8, none, .build [.str [], .int .i64 (0), .int .i64 (0), .sl 3 []] []⟩,
      ⟨.push, 9, none, .box (.s 0)⟩,
      ⟨.var 1, 2, none, .mov (.s 0)⟩,
      ⟨.var 2, 3, none, .mov (.c (.int .i64 (5)))⟩])
   (.ret))
  (.skip))
 (.seq (.region false [
    ⟨.push, 10, none, .mov (.v 0)⟩,
    ⟨.push, 11, none, .call 37 [(.s 0)]⟩,
    ⟨.var 3, 4, none, .mov (.s 0)⟩])
 (.seq (.test false [
    ⟨.push, 12, none, .mov (.v 3)⟩,
    ⟨.push, 13, none, .nilck (.s 0)⟩,
    ⟨.push, 14, none, .fldAddr 1 (.s 0)⟩,
    ⟨.push, 15, none, .load false 1 (.s 0)⟩,
    ⟨.push, 16, none, .mov (.v 0)⟩,
    ⟨.push, 17, none, .len true (.s 0)⟩,
    ⟨.push, 18, none, .bin false .neq (.s 2) (.s 0)⟩] (.s 0)
  (.seq (.region false [
      ⟨.push, 19, none, .mov (.v 3)⟩,
      ⟨.var 1, 2, none, .mov (.s 0)⟩,
      ⟨.var 2, 3, none, .mov (.c (.int .i64 (8)))⟩])
   (.ret))
  (.skip))
 (.seq (.region false [
    ⟨.push, 20, none, .mov (.v 3)⟩,
    ⟨.var 1, 2, none, .mov (.s 0)⟩,
    ⟨.var 2, 3, none, .mov (.c (.int .i64 (0)))⟩])
 (.ret))))), [.t 1, .t 2]⟩
noncomputable def t_spec_l27Code : List (Nat × Ctr) := [(37, c_spec_l27Read)]
theorem lk_spec_l27Code_37 : look t_spec_l27Code 37 = some c_spec_l27Read := rfl
noncomputable def c_spec_l27Code : Ctr := mkN t_spec_l27Code ir21 [.bor]
theorem s_spec_l27Code : Sound Tryz.prog 21 c_spec_l27Code := mkN_sound _ (snd_cons s_spec_l27Read snd_nil) (by kernel_rfl : chkFn Tryz.prog 21 ir21 ir21_v = true)
theorem M_spec_l27Code : c_spec_l27Code.modes = [.bor] := rfl
theorem Fl_spec_l27Code : c_spec_l27Code.flat = false := rfl
attribute [go_sem] M_spec_l27Code Fl_spec_l27Code
attribute [go_sem] lk_spec_l27Code_37
theorem Fs_spec_l27Code {s_ : List UInt8} {y_ : L27R × Int} (h : spec_l27Code s_ = some y_) : c_spec_l27Code.F [.str s_] = ⟨true, .tup [.mem 4 [L27R_av y_.1], .int .i64 y_.2], [.any]⟩ := by
  refine mkN_E ?_
  dsimp only [spec_l27Code] at h
  rcases it_some h with ⟨hk1, h⟩ | ⟨hk1, h⟩
  · try simp only [go_sem, n1, n2, n3, n4] at hk1
    all_goals
    obtain rfl := so_some h
    refine ⟨0, fun L hL => ?_⟩
    simp only [go_sem, ir21, hk1]
  · try simp only [go_sem, n1, n2, n3, n4] at hk1
    all_goals
    obtain ⟨y_2, hk2, h⟩ := bd_some h
    have fhk2 := Fs_spec_l27Read hk2
    try simp only [go_sem, hk1] at fhk2
    rcases it_some h with ⟨hk3, h⟩ | ⟨hk3, h⟩
    · try simp only [go_sem, n1, n2, n3, n4, hk1] at hk3
      all_goals
      obtain rfl := so_some h
      refine ⟨0, fun L hL => ?_⟩
      simp only [go_sem, ir21, hk1, fhk2, hk3]
    · try simp only [go_sem, n1, n2, n3, n4, hk1] at hk3
      all_goals
      obtain rfl := so_some h
      refine ⟨0, fun L hL => ?_⟩
      simp only [go_sem, ir21, hk1, fhk2, hk3]


def ir52_v : List Nat := [0, 2]
def ir52 : AFn := ⟨1, 2, .seq (.region false [
    ⟨.var 1, 2, none, .mov (.c (.bool false))⟩])
 (.seq (.region false [
    ⟨.push, 3, none, .mov (.v 0)⟩,
    ⟨.push, 4, none, .call 75 [(.s 0), (.c (.int .i64 (0))), (.c (.int .i64 (86399)))]⟩,
    ⟨.var 1, 2, none, .mov (.s 0)⟩])
 (.ret)), [.t 1]⟩
noncomputable def t_spec_l04Ascend : List (Nat × Ctr) := [(75, c_spec_l00In)]
theorem lk_spec_l04Ascend_75 : look t_spec_l04Ascend 75 = some c_spec_l00In := rfl
noncomputable def c_spec_l04Ascend : Ctr := mkF t_spec_l04Ascend ir52 [.bor]
theorem s_spec_l04Ascend : Sound Tryz.prog 52 c_spec_l04Ascend := mkF_sound _ rfl (snd_cons s_spec_l00In snd_nil) (by kernel_rfl : chkFn Tryz.prog 52 ir52 ir52_v = true)
theorem M_spec_l04Ascend : c_spec_l04Ascend.modes = [.bor] := rfl
theorem Fl_spec_l04Ascend : c_spec_l04Ascend.flat = true := rfl
attribute [go_sem] M_spec_l04Ascend Fl_spec_l04Ascend
attribute [go_sem] lk_spec_l04Ascend_75
theorem Fs_spec_l04Ascend {n : Int} {y_ : Bool} (h : spec_l04Ascend n = some y_) : c_spec_l04Ascend.F [.int .i64 n] = ⟨true, .bool y_, [.any]⟩ := by
  refine mkF_E rfl ?_
  dsimp only [spec_l04Ascend] at h
  obtain ⟨y_1, hk1, h⟩ := bd_some h
  have fhk1 := Fs_spec_l00In hk1
  try simp only [go_sem] at fhk1
  obtain rfl := so_some h
  refine ⟨0, fun L hL => ?_⟩
  simp only [go_sem, ir52, fhk1]


def ir53_v : List Nat := [0, 2]
def ir53 : AFn := ⟨1, 2, .seq (.region false [
    ⟨.var 1, 2, none, .mov (.c (.bool false))⟩])
 (.seq (.region false [
    ⟨.push, 3, none, .mov (.v 0)⟩,
    ⟨.push, 4, none, .call 75 [(.s 0), (.c (.int .i64 (-324000))), (.c (.int .i64 (324000)))]⟩,
    ⟨.var 1, 2, none, .mov (.s 0)⟩])
 (.ret)), [.t 1]⟩
noncomputable def t_spec_l04Decl : List (Nat × Ctr) := [(75, c_spec_l00In)]
theorem lk_spec_l04Decl_75 : look t_spec_l04Decl 75 = some c_spec_l00In := rfl
noncomputable def c_spec_l04Decl : Ctr := mkF t_spec_l04Decl ir53 [.bor]
theorem s_spec_l04Decl : Sound Tryz.prog 53 c_spec_l04Decl := mkF_sound _ rfl (snd_cons s_spec_l00In snd_nil) (by kernel_rfl : chkFn Tryz.prog 53 ir53 ir53_v = true)
theorem M_spec_l04Decl : c_spec_l04Decl.modes = [.bor] := rfl
theorem Fl_spec_l04Decl : c_spec_l04Decl.flat = true := rfl
attribute [go_sem] M_spec_l04Decl Fl_spec_l04Decl
attribute [go_sem] lk_spec_l04Decl_75
theorem Fs_spec_l04Decl {n : Int} {y_ : Bool} (h : spec_l04Decl n = some y_) : c_spec_l04Decl.F [.int .i64 n] = ⟨true, .bool y_, [.any]⟩ := by
  refine mkF_E rfl ?_
  dsimp only [spec_l04Decl] at h
  obtain ⟨y_1, hk1, h⟩ := bd_some h
  have fhk1 := Fs_spec_l00In hk1
  try simp only [go_sem] at fhk1
  obtain rfl := so_some h
  refine ⟨0, fun L hL => ?_⟩
  simp only [go_sem, ir53, fhk1]


def ir54_v : List Nat := [0, 2]
def ir54 : AFn := ⟨1, 2, .seq (.region false [
    ⟨.var 1, 2, none, .mov (.c (.bool false))⟩])
 (.seq (.region false [
    ⟨.push, 3, none, .mov (.v 0)⟩,
    ⟨.push, 4, none, .call 75 [(.s 0), (.c (.int .i64 (-2000))), (.c (.int .i64 (20000)))]⟩,
    ⟨.var 1, 2, none, .mov (.s 0)⟩])
 (.ret)), [.t 1]⟩
noncomputable def t_spec_l02Mag : List (Nat × Ctr) := [(75, c_spec_l00In)]
theorem lk_spec_l02Mag_75 : look t_spec_l02Mag 75 = some c_spec_l00In := rfl
noncomputable def c_spec_l02Mag : Ctr := mkF t_spec_l02Mag ir54 [.bor]
theorem s_spec_l02Mag : Sound Tryz.prog 54 c_spec_l02Mag := mkF_sound _ rfl (snd_cons s_spec_l00In snd_nil) (by kernel_rfl : chkFn Tryz.prog 54 ir54 ir54_v = true)
theorem M_spec_l02Mag : c_spec_l02Mag.modes = [.bor] := rfl
theorem Fl_spec_l02Mag : c_spec_l02Mag.flat = true := rfl
attribute [go_sem] M_spec_l02Mag Fl_spec_l02Mag
attribute [go_sem] lk_spec_l02Mag_75
theorem Fs_spec_l02Mag {m : Int} {y_ : Bool} (h : spec_l02Mag m = some y_) : c_spec_l02Mag.F [.int .i64 m] = ⟨true, .bool y_, [.any]⟩ := by
  refine mkF_E rfl ?_
  dsimp only [spec_l02Mag] at h
  obtain ⟨y_1, hk1, h⟩ := bd_some h
  have fhk1 := Fs_spec_l00In hk1
  try simp only [go_sem] at fhk1
  obtain rfl := so_some h
  refine ⟨0, fun L hL => ?_⟩
  simp only [go_sem, ir54, fhk1]


def ir38_v : List Nat := [0, 2]
def ir38 : AFn := ⟨1, 2, .seq (.region false [
    ⟨.var 1, 2, none, .mov (.c (.bool false))⟩])
 (.seq (.anyo 44 [
    ⟨.slot 0, 3, none, .mov (.v 0)⟩,
    ⟨.slot 1, 4, none, .nilck (.s 0)⟩,
    ⟨.slot 2, 5, none, .fldAddr 0 (.s 1)⟩,
    ⟨.slot 3, 6, none, .load false 1 (.s 2)⟩,
    ⟨.slot 4, 7, none, .callp 51 [(.s 3)]⟩,
    ⟨.slot 5, 8, none, .mov (.s 4)⟩,
    ⟨.slot 6, 9, (some ((.s 5), true)), .mov (.v 0)⟩,
    ⟨.slot 7, 10, (some ((.s 5), true)), .nilck (.s 6)⟩,
    ⟨.slot 8, 11, (some ((.s 5), true)), .fldAddr 1 (.s 7)⟩,
    ⟨.slot 9, 12, (some ((.s 5), true)), .load false 1 (.s 8)⟩,
    ⟨.slot 10, 13, (some ((.s 5), true)), .call 52 [(.s 9)]⟩,
    ⟨.slot 11, 14, none, .pick (.s 5) (.s 10) (.c (.bool false))⟩,
    ⟨.slot 12, 15, none, .mov (.s 11)⟩,
    ⟨.slot 13, 16, (some ((.s 12), true)), .mov (.v 0)⟩,
    ⟨.slot 14, 17, (some ((.s 12), true)), .nilck (.s 13)⟩,
    ⟨.slot 15, 18, (some ((.s 12), true)), .fldAddr 2 (.s 14)⟩,
    ⟨.slot 16, 19, (some ((.s 12), true)), .load false 1 (.s 15)⟩,
    ⟨.slot 17, 20, (some ((.s 12), true)), .call 53 [(.s 16)]⟩,
    ⟨.slot 18, 21, none, .pick (.s 12) (.s 17) (.c (.bool false))⟩,
    ⟨.slot 19, 22, none, .mov (.s 18)⟩,
    ⟨.slot 20, 23, (some ((.s 19), true)), .mov (.v 0)⟩,
    ⟨.slot 21, 24, (some ((.s 19), true)), .nilck (.s 20)⟩,
    ⟨.slot 22, 25, (some ((.s 19), true)), .fldAddr 3 (.s 21)⟩,
    ⟨.slot 23, 26, (some ((.s 19), true)), .load false 1 (.s 22)⟩,
    ⟨.slot 24, 27, (some ((.s 19), true)), .call 54 [(.s 23)]⟩,
    ⟨.slot 25, 28, none, .pick (.s 19) (.s 24) (.c (.bool false))⟩,
    ⟨.slot 26, 29, none, .mov (.s 25)⟩,
    ⟨.slot 27, 30, (some ((.s 26), true)), .mov (.v 0)⟩,
    ⟨.slot 28, 31, (some ((.s 26), true)), .nilck (.s 27)⟩,
    ⟨.slot 29, 32, (some ((.s 26), true)), .fldAddr 4 (.s 28)⟩,
    ⟨.slot 30, 33, (some ((.s 26), true)), .load false 1 (.s 29)⟩,
    ⟨.slot 31, 34, (some ((.s 26), true)), .call 54 [(.s 30)]⟩,
    ⟨.slot 32, 35, none, .pick (.s 26) (.s 31) (.c (.bool false))⟩,
    ⟨.slot 33, 36, none, .mov (.s 32)⟩,
    ⟨.slot 34, 37, (some ((.s 33), true)), .mov (.v 0)⟩,
    ⟨.slot 35, 38, (some ((.s 33), true)), .nilck (.s 34)⟩,
    ⟨.slot 36, 39, (some ((.s 33), true)), .fldAddr 3 (.s 35)⟩,
    ⟨.slot 37, 40, (some ((.s 33), true)), .load false 1 (.s 36)⟩,
    ⟨.slot 38, 41, (some ((.s 33), true)), .mov (.v 0)⟩,
    ⟨.slot 39, 42, (some ((.s 33), true)), .nilck (.s 38)⟩,
    ⟨.slot 40, 43, (some ((.s 33), true)), .fldAddr 4 (.s 39)⟩,
    ⟨.slot 41, 44, (some ((.s 33), true)), .load false 1 (.s 40)⟩,
    ⟨.slot 42, 45, (some ((.s 33), true)), .bin false .leq (.s 37) (.s 41)⟩,
    ⟨.slot 43, 46, none, .pick (.s 33) (.s 42) (.c (.bool false))⟩,
    ⟨.var 1, 2, none, .mov (.s 43)⟩] [] .skip)
 (.ret)), [.t 1]⟩
noncomputable def t_spec_l04One : List (Nat × Ctr) := [(51, c_spec_IsName), (52, c_spec_l04Ascend), (53, c_spec_l04Decl), (54, c_spec_l02Mag)]
theorem lk_spec_l04One_51 : look t_spec_l04One 51 = some c_spec_IsName := rfl
theorem lk_spec_l04One_52 : look t_spec_l04One 52 = some c_spec_l04Ascend := rfl
theorem lk_spec_l04One_53 : look t_spec_l04One 53 = some c_spec_l04Decl := rfl
theorem lk_spec_l04One_54 : look t_spec_l04One 54 = some c_spec_l02Mag := rfl
noncomputable def c_spec_l04One : Ctr := mkF t_spec_l04One ir38 [.bor]
theorem s_spec_l04One : Sound Tryz.prog 38 c_spec_l04One := mkF_sound _ rfl (snd_cons s_spec_IsName (snd_cons s_spec_l04Ascend (snd_cons s_spec_l04Decl (snd_cons s_spec_l02Mag snd_nil)))) (by kernel_rfl : chkFn Tryz.prog 38 ir38 ir38_v = true)
theorem M_spec_l04One : c_spec_l04One.modes = [.bor] := rfl
theorem Fl_spec_l04One : c_spec_l04One.flat = true := rfl
attribute [go_sem] M_spec_l04One Fl_spec_l04One
attribute [go_sem] lk_spec_l04One_51 lk_spec_l04One_52 lk_spec_l04One_53 lk_spec_l04One_54
theorem Fs_spec_l04One {x : Star} {y_ : Bool} (h : spec_l04One x = some y_) : c_spec_l04One.F [.ptr 5 [Star_av x] 0 0] = ⟨true, .bool y_, [.any]⟩ := by
  refine mkF_E rfl ?_
  dsimp only [spec_l04One] at h
  obtain ⟨y_1, hk1, h⟩ := bd_some h
  have fhk1 := Fs_spec_IsName hk1
  try simp only [go_sem] at fhk1
  obtain ⟨hk2, h⟩ := ck_some h
  rcases or_split hk2 with ⟨ghk2, hk2⟩ | ghk2
  · try simp only [go_sem, n1, n2, n3, n4] at ghk2
    all_goals
    obtain ⟨y_2, hhk2⟩ := Option.isSome_iff_exists.1 hk2
    have fhk2 := Fs_spec_l04Ascend hhk2
    try simp only [go_sem, ghk2] at fhk2
    obtain ⟨hk3, h⟩ := ck_some h
    rcases or_split hk3 with ⟨ghk3, hk3⟩ | ghk3
    · try simp only [go_sem, n1, n2, n3, n4, ghk2, hhk2] at ghk3
      all_goals
      obtain ⟨y_3, hhk3⟩ := Option.isSome_iff_exists.1 hk3
      have fhk3 := Fs_spec_l04Decl hhk3
      try simp only [go_sem, ghk2, hhk2, ghk3] at fhk3
      obtain ⟨hk4, h⟩ := ck_some h
      rcases or_split hk4 with ⟨ghk4, hk4⟩ | ghk4
      · try simp only [go_sem, n1, n2, n3, n4, ghk2, hhk2, ghk3, hhk3] at ghk4
        all_goals
        obtain ⟨y_4, hhk4⟩ := Option.isSome_iff_exists.1 hk4
        have fhk4 := Fs_spec_l02Mag hhk4
        try simp only [go_sem, ghk2, hhk2, ghk3, hhk3, ghk4] at fhk4
        obtain ⟨hk5, h⟩ := ck_some h
        rcases or_split hk5 with ⟨ghk5, hk5⟩ | ghk5
        · try simp only [go_sem, n1, n2, n3, n4, ghk2, hhk2, ghk3, hhk3, ghk4, hhk4] at ghk5
          all_goals
          obtain ⟨y_5, hhk5⟩ := Option.isSome_iff_exists.1 hk5
          have fhk5 := Fs_spec_l02Mag hhk5
          try simp only [go_sem, ghk2, hhk2, ghk3, hhk3, ghk4, hhk4, ghk5] at fhk5
          obtain rfl := so_some h
          refine ⟨0, fun L hL => ?_⟩
          simp only [go_sem, ir38, fhk1, ghk2, hhk2, fhk2, ghk3, hhk3, fhk3, ghk4, hhk4, fhk4, ghk5, hhk5, fhk5]
        · rcases and_f ghk5 with ghk5a | ⟨ghk5a, ghk5b⟩
          · rcases and_f ghk5a with ghk5aa | ⟨ghk5aa, ghk5ab⟩
            · rcases and_f ghk5aa with ghk5aaa | ⟨ghk5aaa, ghk5aab⟩
              · try simp only [go_sem, n1, n2, n3, n4, ghk2, hhk2, ghk3, hhk3, ghk4, hhk4] at ghk5aaa
                all_goals
                obtain rfl := so_some h
                refine ⟨0, fun L hL => ?_⟩
                simp only [go_sem, ir38, fhk1, ghk2, hhk2, fhk2, ghk3, hhk3, fhk3, ghk4, hhk4, fhk4, ghk5aaa]
              · try simp only [go_sem, n1, n2, n3, n4, ghk2, hhk2, ghk3, hhk3, ghk4, hhk4] at ghk5aaa
                all_goals
                try simp only [go_sem, n1, n2, n3, n4, ghk2, hhk2, ghk3, hhk3, ghk4, hhk4, ghk5aaa] at ghk5aab
                all_goals
                obtain rfl := so_some h
                refine ⟨0, fun L hL => ?_⟩
                simp only [go_sem, ir38, fhk1, ghk2, hhk2, fhk2, ghk3, hhk3, fhk3, ghk4, hhk4, fhk4, ghk5aaa, ghk5aab]
            · obtain ⟨ghk5aaa, ghk5aab⟩ := and_t ghk5aa
              try simp only [go_sem, n1, n2, n3, n4, ghk2, hhk2, ghk3, hhk3, ghk4, hhk4] at ghk5aaa
              all_goals
              try simp only [go_sem, n1, n2, n3, n4, ghk2, hhk2, ghk3, hhk3, ghk4, hhk4, ghk5aaa] at ghk5aab
              all_goals
              try simp only [go_sem, n1, n2, n3, n4, ghk2, hhk2, ghk3, hhk3, ghk4, hhk4, ghk5aaa, ghk5aab] at ghk5ab
              all_goals
              obtain rfl := so_some h
              refine ⟨0, fun L hL => ?_⟩
              simp only [go_sem, ir38, fhk1, ghk2, hhk2, fhk2, ghk3, hhk3, fhk3, ghk4, hhk4, fhk4, ghk5aaa, ghk5aab, ghk5ab]
          · obtain ⟨ghk5aa, ghk5ab⟩ := and_t ghk5a
            obtain ⟨ghk5aaa, ghk5aab⟩ := and_t ghk5aa
            try simp only [go_sem, n1, n2, n3, n4, ghk2, hhk2, ghk3, hhk3, ghk4, hhk4] at ghk5aaa
            all_goals
            try simp only [go_sem, n1, n2, n3, n4, ghk2, hhk2, ghk3, hhk3, ghk4, hhk4, ghk5aaa] at ghk5aab
            all_goals
            try simp only [go_sem, n1, n2, n3, n4, ghk2, hhk2, ghk3, hhk3, ghk4, hhk4, ghk5aaa, ghk5aab] at ghk5ab
            all_goals
            try simp only [go_sem, n1, n2, n3, n4, ghk2, hhk2, ghk3, hhk3, ghk4, hhk4, ghk5aaa, ghk5aab, ghk5ab] at ghk5b
            all_goals
            obtain rfl := so_some h
            refine ⟨0, fun L hL => ?_⟩
            simp only [go_sem, ir38, fhk1, ghk2, hhk2, fhk2, ghk3, hhk3, fhk3, ghk4, hhk4, fhk4, ghk5aaa, ghk5aab, ghk5ab, ghk5b]
      · rcases and_f ghk4 with ghk4a | ⟨ghk4a, ghk4b⟩
        · rcases and_f ghk4a with ghk4aa | ⟨ghk4aa, ghk4ab⟩
          · try simp only [go_sem, n1, n2, n3, n4, ghk2, hhk2, ghk3, hhk3] at ghk4aa
            all_goals
            obtain ⟨hk5, h⟩ := ck_some h
            rcases or_split hk5 with ⟨ghk5, hk5⟩ | ghk5
            · try simp only [go_sem, n1, n2, n3, n4, ghk2, hhk2, ghk3, hhk3, ghk4aa] at ghk5
              all_goals
              obtain ⟨y_5, hhk5⟩ := Option.isSome_iff_exists.1 hk5
              have fhk5 := Fs_spec_l02Mag hhk5
              try simp only [go_sem, ghk2, hhk2, ghk3, hhk3, ghk4aa, ghk5] at fhk5
              obtain rfl := so_some h
              refine ⟨0, fun L hL => ?_⟩
              simp only [go_sem, ir38, fhk1, ghk2, hhk2, fhk2, ghk3, hhk3, fhk3, ghk4aa, ghk5, hhk5, fhk5]
            · rcases and_f ghk5 with ghk5a | ⟨ghk5a, ghk5b⟩
              · rcases and_f ghk5a with ghk5aa | ⟨ghk5aa, ghk5ab⟩
                · rcases and_f ghk5aa with ghk5aaa | ⟨ghk5aaa, ghk5aab⟩
                  · try simp only [go_sem, n1, n2, n3, n4, ghk2, hhk2, ghk3, hhk3, ghk4aa] at ghk5aaa
                    all_goals
                    obtain rfl := so_some h
                    refine ⟨0, fun L hL => ?_⟩
                    simp only [go_sem, ir38, fhk1, ghk2, hhk2, fhk2, ghk3, hhk3, fhk3, ghk4aa, ghk5aaa]
                  · try simp only [go_sem, n1, n2, n3, n4, ghk2, hhk2, ghk3, hhk3, ghk4aa] at ghk5aaa
                    all_goals
                    try simp only [go_sem, n1, n2, n3, n4, ghk2, hhk2, ghk3, hhk3, ghk4aa, ghk5aaa] at ghk5aab
                    all_goals
                    obtain rfl := so_some h
                    refine ⟨0, fun L hL => ?_⟩
                    simp only [go_sem, ir38, fhk1, ghk2, hhk2, fhk2, ghk3, hhk3, fhk3, ghk4aa, ghk5aaa, ghk5aab]
                · obtain ⟨ghk5aaa, ghk5aab⟩ := and_t ghk5aa
                  try simp only [go_sem, n1, n2, n3, n4, ghk2, hhk2, ghk3, hhk3, ghk4aa] at ghk5aaa
                  all_goals
                  try simp only [go_sem, n1, n2, n3, n4, ghk2, hhk2, ghk3, hhk3, ghk4aa, ghk5aaa] at ghk5aab
                  all_goals
                  try simp only [go_sem, n1, n2, n3, n4, ghk2, hhk2, ghk3, hhk3, ghk4aa, ghk5aaa, ghk5aab] at ghk5ab
                  all_goals
                  obtain rfl := so_some h
                  refine ⟨0, fun L hL => ?_⟩
                  simp only [go_sem, ir38, fhk1, ghk2, hhk2, fhk2, ghk3, hhk3, fhk3, ghk4aa, ghk5aaa, ghk5aab, ghk5ab]
              · obtain ⟨ghk5aa, ghk5ab⟩ := and_t ghk5a
                obtain ⟨ghk5aaa, ghk5aab⟩ := and_t ghk5aa
                try simp only [go_sem, n1, n2, n3, n4, ghk2, hhk2, ghk3, hhk3, ghk4aa] at ghk5aaa
                all_goals
                try simp only [go_sem, n1, n2, n3, n4, ghk2, hhk2, ghk3, hhk3, ghk4aa, ghk5aaa] at ghk5aab
                all_goals
                try simp only [go_sem, n1, n2, n3, n4, ghk2, hhk2, ghk3, hhk3, ghk4aa, ghk5aaa, ghk5aab] at ghk5ab
                all_goals
                try simp only [go_sem, n1, n2, n3, n4, ghk2, hhk2, ghk3, hhk3, ghk4aa, ghk5aaa, ghk5aab, ghk5ab] at ghk5b
                all_goals
                obtain rfl := so_some h
                refine ⟨0, fun L hL => ?_⟩
                simp only [go_sem, ir38, fhk1, ghk2, hhk2, fhk2, ghk3, hhk3, fhk3, ghk4aa, ghk5aaa, ghk5aab, ghk5ab, ghk5b]
          · try simp only [go_sem, n1, n2, n3, n4, ghk2, hhk2, ghk3, hhk3] at ghk4aa
            all_goals
            try simp only [go_sem, n1, n2, n3, n4, ghk2, hhk2, ghk3, hhk3, ghk4aa] at ghk4ab
            all_goals
            obtain ⟨hk5, h⟩ := ck_some h
            rcases or_split hk5 with ⟨ghk5, hk5⟩ | ghk5
            · try simp only [go_sem, n1, n2, n3, n4, ghk2, hhk2, ghk3, hhk3, ghk4aa, ghk4ab] at ghk5
              all_goals
              obtain ⟨y_5, hhk5⟩ := Option.isSome_iff_exists.1 hk5
              have fhk5 := Fs_spec_l02Mag hhk5
              try simp only [go_sem, ghk2, hhk2, ghk3, hhk3, ghk4aa, ghk4ab, ghk5] at fhk5
              obtain rfl := so_some h
              refine ⟨0, fun L hL => ?_⟩
              simp only [go_sem, ir38, fhk1, ghk2, hhk2, fhk2, ghk3, hhk3, fhk3, ghk4aa, ghk4ab, ghk5, hhk5, fhk5]
            · rcases and_f ghk5 with ghk5a | ⟨ghk5a, ghk5b⟩
              · rcases and_f ghk5a with ghk5aa | ⟨ghk5aa, ghk5ab⟩
                · rcases and_f ghk5aa with ghk5aaa | ⟨ghk5aaa, ghk5aab⟩
                  · try simp only [go_sem, n1, n2, n3, n4, ghk2, hhk2, ghk3, hhk3, ghk4aa, ghk4ab] at ghk5aaa
                    all_goals
                    obtain rfl := so_some h
                    refine ⟨0, fun L hL => ?_⟩
                    simp only [go_sem, ir38, fhk1, ghk2, hhk2, fhk2, ghk3, hhk3, fhk3, ghk4aa, ghk4ab, ghk5aaa]
                  · try simp only [go_sem, n1, n2, n3, n4, ghk2, hhk2, ghk3, hhk3, ghk4aa, ghk4ab] at ghk5aaa
                    all_goals
                    try simp only [go_sem, n1, n2, n3, n4, ghk2, hhk2, ghk3, hhk3, ghk4aa, ghk4ab, ghk5aaa] at ghk5aab
                    all_goals
                    obtain rfl := so_some h
                    refine ⟨0, fun L hL => ?_⟩
                    simp only [go_sem, ir38, fhk1, ghk2, hhk2, fhk2, ghk3, hhk3, fhk3, ghk4aa, ghk4ab, ghk5aaa, ghk5aab]
                · obtain ⟨ghk5aaa, ghk5aab⟩ := and_t ghk5aa
                  try simp only [go_sem, n1, n2, n3, n4, ghk2, hhk2, ghk3, hhk3, ghk4aa, ghk4ab] at ghk5aaa
                  all_goals
                  try simp only [go_sem, n1, n2, n3, n4, ghk2, hhk2, ghk3, hhk3, ghk4aa, ghk4ab, ghk5aaa] at ghk5aab
                  all_goals
                  try simp only [go_sem, n1, n2, n3, n4, ghk2, hhk2, ghk3, hhk3, ghk4aa, ghk4ab, ghk5aaa, ghk5aab] at ghk5ab
                  all_goals
                  obtain rfl := so_some h
                  refine ⟨0, fun L hL => ?_⟩
                  simp only [go_sem, ir38, fhk1, ghk2, hhk2, fhk2, ghk3, hhk3, fhk3, ghk4aa, ghk4ab, ghk5aaa, ghk5aab, ghk5ab]
              · obtain ⟨ghk5aa, ghk5ab⟩ := and_t ghk5a
                obtain ⟨ghk5aaa, ghk5aab⟩ := and_t ghk5aa
                try simp only [go_sem, n1, n2, n3, n4, ghk2, hhk2, ghk3, hhk3, ghk4aa, ghk4ab] at ghk5aaa
                all_goals
                try simp only [go_sem, n1, n2, n3, n4, ghk2, hhk2, ghk3, hhk3, ghk4aa, ghk4ab, ghk5aaa] at ghk5aab
                all_goals
                try simp only [go_sem, n1, n2, n3, n4, ghk2, hhk2, ghk3, hhk3, ghk4aa, ghk4ab, ghk5aaa, ghk5aab] at ghk5ab
                all_goals
                try simp only [go_sem, n1, n2, n3, n4, ghk2, hhk2, ghk3, hhk3, ghk4aa, ghk4ab, ghk5aaa, ghk5aab, ghk5ab] at ghk5b
                all_goals
                obtain rfl := so_some h
                refine ⟨0, fun L hL => ?_⟩
                simp only [go_sem, ir38, fhk1, ghk2, hhk2, fhk2, ghk3, hhk3, fhk3, ghk4aa, ghk4ab, ghk5aaa, ghk5aab, ghk5ab, ghk5b]
        · obtain ⟨ghk4aa, ghk4ab⟩ := and_t ghk4a
          try simp only [go_sem, n1, n2, n3, n4, ghk2, hhk2, ghk3, hhk3] at ghk4aa
          all_goals
          try simp only [go_sem, n1, n2, n3, n4, ghk2, hhk2, ghk3, hhk3, ghk4aa] at ghk4ab
          all_goals
          try simp only [go_sem, n1, n2, n3, n4, ghk2, hhk2, ghk3, hhk3, ghk4aa, ghk4ab] at ghk4b
          all_goals
          obtain ⟨hk5, h⟩ := ck_some h
          rcases or_split hk5 with ⟨ghk5, hk5⟩ | ghk5
          · try simp only [go_sem, n1, n2, n3, n4, ghk2, hhk2, ghk3, hhk3, ghk4aa, ghk4ab, ghk4b] at ghk5
            all_goals
            obtain ⟨y_5, hhk5⟩ := Option.isSome_iff_exists.1 hk5
            have fhk5 := Fs_spec_l02Mag hhk5
            try simp only [go_sem, ghk2, hhk2, ghk3, hhk3, ghk4aa, ghk4ab, ghk4b, ghk5] at fhk5
            obtain rfl := so_some h
            refine ⟨0, fun L hL => ?_⟩
            simp only [go_sem, ir38, fhk1, ghk2, hhk2, fhk2, ghk3, hhk3, fhk3, ghk4aa, ghk4ab, ghk4b, ghk5, hhk5, fhk5]
          · rcases and_f ghk5 with ghk5a | ⟨ghk5a, ghk5b⟩
            · rcases and_f ghk5a with ghk5aa | ⟨ghk5aa, ghk5ab⟩
              · rcases and_f ghk5aa with ghk5aaa | ⟨ghk5aaa, ghk5aab⟩
                · try simp only [go_sem, n1, n2, n3, n4, ghk2, hhk2, ghk3, hhk3, ghk4aa, ghk4ab, ghk4b] at ghk5aaa
                  all_goals
                  obtain rfl := so_some h
                  refine ⟨0, fun L hL => ?_⟩
                  simp only [go_sem, ir38, fhk1, ghk2, hhk2, fhk2, ghk3, hhk3, fhk3, ghk4aa, ghk4ab, ghk4b, ghk5aaa]
                · try simp only [go_sem, n1, n2, n3, n4, ghk2, hhk2, ghk3, hhk3, ghk4aa, ghk4ab, ghk4b] at ghk5aaa
                  all_goals
                  try simp only [go_sem, n1, n2, n3, n4, ghk2, hhk2, ghk3, hhk3, ghk4aa, ghk4ab, ghk4b, ghk5aaa] at ghk5aab
                  all_goals
                  obtain rfl := so_some h
                  refine ⟨0, fun L hL => ?_⟩
                  simp only [go_sem, ir38, fhk1, ghk2, hhk2, fhk2, ghk3, hhk3, fhk3, ghk4aa, ghk4ab, ghk4b, ghk5aaa, ghk5aab]
              · obtain ⟨ghk5aaa, ghk5aab⟩ := and_t ghk5aa
                try simp only [go_sem, n1, n2, n3, n4, ghk2, hhk2, ghk3, hhk3, ghk4aa, ghk4ab, ghk4b] at ghk5aaa
                all_goals
                try simp only [go_sem, n1, n2, n3, n4, ghk2, hhk2, ghk3, hhk3, ghk4aa, ghk4ab, ghk4b, ghk5aaa] at ghk5aab
                all_goals
                try simp only [go_sem, n1, n2, n3, n4, ghk2, hhk2, ghk3, hhk3, ghk4aa, ghk4ab, ghk4b, ghk5aaa, ghk5aab] at ghk5ab
                all_goals
                obtain rfl := so_some h
                refine ⟨0, fun L hL => ?_⟩
                simp only [go_sem, ir38, fhk1, ghk2, hhk2, fhk2, ghk3, hhk3, fhk3, ghk4aa, ghk4ab, ghk4b, ghk5aaa, ghk5aab, ghk5ab]
            · obtain ⟨ghk5aa, ghk5ab⟩ := and_t ghk5a
              obtain ⟨ghk5aaa, ghk5aab⟩ := and_t ghk5aa
              try simp only [go_sem, n1, n2, n3, n4, ghk2, hhk2, ghk3, hhk3, ghk4aa, ghk4ab, ghk4b] at ghk5aaa
              all_goals
              try simp only [go_sem, n1, n2, n3, n4, ghk2, hhk2, ghk3, hhk3, ghk4aa, ghk4ab, ghk4b, ghk5aaa] at ghk5aab
              all_goals
              try simp only [go_sem, n1, n2, n3, n4, ghk2, hhk2, ghk3, hhk3, ghk4aa, ghk4ab, ghk4b, ghk5aaa, ghk5aab] at ghk5ab
              all_goals
              try simp only [go_sem, n1, n2, n3, n4, ghk2, hhk2, ghk3, hhk3, ghk4aa, ghk4ab, ghk4b, ghk5aaa, ghk5aab, ghk5ab] at ghk5b
              all_goals
              obtain rfl := so_some h
              refine ⟨0, fun L hL => ?_⟩
              simp only [go_sem, ir38, fhk1, ghk2, hhk2, fhk2, ghk3, hhk3, fhk3, ghk4aa, ghk4ab, ghk4b, ghk5aaa, ghk5aab, ghk5ab, ghk5b]
    · rcases and_f ghk3 with ghk3a | ⟨ghk3a, ghk3b⟩
      · try simp only [go_sem, n1, n2, n3, n4, ghk2, hhk2] at ghk3a
        all_goals
        obtain ⟨hk4, h⟩ := ck_some h
        rcases or_split hk4 with ⟨ghk4, hk4⟩ | ghk4
        · try simp only [go_sem, n1, n2, n3, n4, ghk2, hhk2, ghk3a] at ghk4
          all_goals
          obtain ⟨y_4, hhk4⟩ := Option.isSome_iff_exists.1 hk4
          have fhk4 := Fs_spec_l02Mag hhk4
          try simp only [go_sem, ghk2, hhk2, ghk3a, ghk4] at fhk4
          obtain ⟨hk5, h⟩ := ck_some h
          rcases or_split hk5 with ⟨ghk5, hk5⟩ | ghk5
          · try simp only [go_sem, n1, n2, n3, n4, ghk2, hhk2, ghk3a, ghk4, hhk4] at ghk5
            all_goals
            obtain ⟨y_5, hhk5⟩ := Option.isSome_iff_exists.1 hk5
            have fhk5 := Fs_spec_l02Mag hhk5
            try simp only [go_sem, ghk2, hhk2, ghk3a, ghk4, hhk4, ghk5] at fhk5
            obtain rfl := so_some h
            refine ⟨0, fun L hL => ?_⟩
            simp only [go_sem, ir38, fhk1, ghk2, hhk2, fhk2, ghk3a, ghk4, hhk4, fhk4, ghk5, hhk5, fhk5]
          · rcases and_f ghk5 with ghk5a | ⟨ghk5a, ghk5b⟩
            · rcases and_f ghk5a with ghk5aa | ⟨ghk5aa, ghk5ab⟩
              · rcases and_f ghk5aa with ghk5aaa | ⟨ghk5aaa, ghk5aab⟩
                · try simp only [go_sem, n1, n2, n3, n4, ghk2, hhk2, ghk3a, ghk4, hhk4] at ghk5aaa
                  all_goals
                  obtain rfl := so_some h
                  refine ⟨0, fun L hL => ?_⟩
                  simp only [go_sem, ir38, fhk1, ghk2, hhk2, fhk2, ghk3a, ghk4, hhk4, fhk4, ghk5aaa]
                · try simp only [go_sem, n1, n2, n3, n4, ghk2, hhk2, ghk3a, ghk4, hhk4] at ghk5aaa
                  all_goals
                  try simp only [go_sem, n1, n2, n3, n4, ghk2, hhk2, ghk3a, ghk4, hhk4, ghk5aaa] at ghk5aab
                  all_goals
                  obtain rfl := so_some h
                  refine ⟨0, fun L hL => ?_⟩
                  simp only [go_sem, ir38, fhk1, ghk2, hhk2, fhk2, ghk3a, ghk4, hhk4, fhk4, ghk5aaa, ghk5aab]
              · obtain ⟨ghk5aaa, ghk5aab⟩ := and_t ghk5aa
                try simp only [go_sem, n1, n2, n3, n4, ghk2, hhk2, ghk3a, ghk4, hhk4] at ghk5aaa
                all_goals
                try simp only [go_sem, n1, n2, n3, n4, ghk2, hhk2, ghk3a, ghk4, hhk4, ghk5aaa] at ghk5aab
                all_goals
                try simp only [go_sem, n1, n2, n3, n4, ghk2, hhk2, ghk3a, ghk4, hhk4, ghk5aaa, ghk5aab] at ghk5ab
                all_goals
                obtain rfl := so_some h
                refine ⟨0, fun L hL => ?_⟩
                simp only [go_sem, ir38, fhk1, ghk2, hhk2, fhk2, ghk3a, ghk4, hhk4, fhk4, ghk5aaa, ghk5aab, ghk5ab]
            · obtain ⟨ghk5aa, ghk5ab⟩ := and_t ghk5a
              obtain ⟨ghk5aaa, ghk5aab⟩ := and_t ghk5aa
              try simp only [go_sem, n1, n2, n3, n4, ghk2, hhk2, ghk3a, ghk4, hhk4] at ghk5aaa
              all_goals
              try simp only [go_sem, n1, n2, n3, n4, ghk2, hhk2, ghk3a, ghk4, hhk4, ghk5aaa] at ghk5aab
              all_goals
              try simp only [go_sem, n1, n2, n3, n4, ghk2, hhk2, ghk3a, ghk4, hhk4, ghk5aaa, ghk5aab] at ghk5ab
              all_goals
              try simp only [go_sem, n1, n2, n3, n4, ghk2, hhk2, ghk3a, ghk4, hhk4, ghk5aaa, ghk5aab, ghk5ab] at ghk5b
              all_goals
              obtain rfl := so_some h
              refine ⟨0, fun L hL => ?_⟩
              simp only [go_sem, ir38, fhk1, ghk2, hhk2, fhk2, ghk3a, ghk4, hhk4, fhk4, ghk5aaa, ghk5aab, ghk5ab, ghk5b]
        · rcases and_f ghk4 with ghk4a | ⟨ghk4a, ghk4b⟩
          · rcases and_f ghk4a with ghk4aa | ⟨ghk4aa, ghk4ab⟩
            · try simp only [go_sem, n1, n2, n3, n4, ghk2, hhk2, ghk3a] at ghk4aa
              all_goals
              obtain ⟨hk5, h⟩ := ck_some h
              rcases or_split hk5 with ⟨ghk5, hk5⟩ | ghk5
              · try simp only [go_sem, n1, n2, n3, n4, ghk2, hhk2, ghk3a, ghk4aa] at ghk5
                all_goals
                obtain ⟨y_5, hhk5⟩ := Option.isSome_iff_exists.1 hk5
                have fhk5 := Fs_spec_l02Mag hhk5
                try simp only [go_sem, ghk2, hhk2, ghk3a, ghk4aa, ghk5] at fhk5
                obtain rfl := so_some h
                refine ⟨0, fun L hL => ?_⟩
                simp only [go_sem, ir38, fhk1, ghk2, hhk2, fhk2, ghk3a, ghk4aa, ghk5, hhk5, fhk5]
              · rcases and_f ghk5 with ghk5a | ⟨ghk5a, ghk5b⟩
                · rcases and_f ghk5a with ghk5aa | ⟨ghk5aa, ghk5ab⟩
                  · rcases and_f ghk5aa with ghk5aaa | ⟨ghk5aaa, ghk5aab⟩
                    · try simp only [go_sem, n1, n2, n3, n4, ghk2, hhk2, ghk3a, ghk4aa] at ghk5aaa
                      all_goals
                      obtain rfl := so_some h
                      refine ⟨0, fun L hL => ?_⟩
                      simp only [go_sem, ir38, fhk1, ghk2, hhk2, fhk2, ghk3a, ghk4aa, ghk5aaa]
                    · try simp only [go_sem, n1, n2, n3, n4, ghk2, hhk2, ghk3a, ghk4aa] at ghk5aaa
                      all_goals
                      try simp only [go_sem, n1, n2, n3, n4, ghk2, hhk2, ghk3a, ghk4aa, ghk5aaa] at ghk5aab
                      all_goals
                      obtain rfl := so_some h
                      refine ⟨0, fun L hL => ?_⟩
                      simp only [go_sem, ir38, fhk1, ghk2, hhk2, fhk2, ghk3a, ghk4aa, ghk5aaa, ghk5aab]
                  · obtain ⟨ghk5aaa, ghk5aab⟩ := and_t ghk5aa
                    try simp only [go_sem, n1, n2, n3, n4, ghk2, hhk2, ghk3a, ghk4aa] at ghk5aaa
                    all_goals
                    try simp only [go_sem, n1, n2, n3, n4, ghk2, hhk2, ghk3a, ghk4aa, ghk5aaa] at ghk5aab
                    all_goals
                    try simp only [go_sem, n1, n2, n3, n4, ghk2, hhk2, ghk3a, ghk4aa, ghk5aaa, ghk5aab] at ghk5ab
                    all_goals
                    obtain rfl := so_some h
                    refine ⟨0, fun L hL => ?_⟩
                    simp only [go_sem, ir38, fhk1, ghk2, hhk2, fhk2, ghk3a, ghk4aa, ghk5aaa, ghk5aab, ghk5ab]
                · obtain ⟨ghk5aa, ghk5ab⟩ := and_t ghk5a
                  obtain ⟨ghk5aaa, ghk5aab⟩ := and_t ghk5aa
                  try simp only [go_sem, n1, n2, n3, n4, ghk2, hhk2, ghk3a, ghk4aa] at ghk5aaa
                  all_goals
                  try simp only [go_sem, n1, n2, n3, n4, ghk2, hhk2, ghk3a, ghk4aa, ghk5aaa] at ghk5aab
                  all_goals
                  try simp only [go_sem, n1, n2, n3, n4, ghk2, hhk2, ghk3a, ghk4aa, ghk5aaa, ghk5aab] at ghk5ab
                  all_goals
                  try simp only [go_sem, n1, n2, n3, n4, ghk2, hhk2, ghk3a, ghk4aa, ghk5aaa, ghk5aab, ghk5ab] at ghk5b
                  all_goals
                  obtain rfl := so_some h
                  refine ⟨0, fun L hL => ?_⟩
                  simp only [go_sem, ir38, fhk1, ghk2, hhk2, fhk2, ghk3a, ghk4aa, ghk5aaa, ghk5aab, ghk5ab, ghk5b]
            · try simp only [go_sem, n1, n2, n3, n4, ghk2, hhk2, ghk3a] at ghk4aa
              all_goals
              try simp only [go_sem, n1, n2, n3, n4, ghk2, hhk2, ghk3a, ghk4aa] at ghk4ab
              all_goals
              obtain ⟨hk5, h⟩ := ck_some h
              rcases or_split hk5 with ⟨ghk5, hk5⟩ | ghk5
              · try simp only [go_sem, n1, n2, n3, n4, ghk2, hhk2, ghk3a, ghk4aa, ghk4ab] at ghk5
                all_goals
                obtain ⟨y_5, hhk5⟩ := Option.isSome_iff_exists.1 hk5
                have fhk5 := Fs_spec_l02Mag hhk5
                try simp only [go_sem, ghk2, hhk2, ghk3a, ghk4aa, ghk4ab, ghk5] at fhk5
                obtain rfl := so_some h
                refine ⟨0, fun L hL => ?_⟩
                simp only [go_sem, ir38, fhk1, ghk2, hhk2, fhk2, ghk3a, ghk4aa, ghk4ab, ghk5, hhk5, fhk5]
              · rcases and_f ghk5 with ghk5a | ⟨ghk5a, ghk5b⟩
                · rcases and_f ghk5a with ghk5aa | ⟨ghk5aa, ghk5ab⟩
                  · rcases and_f ghk5aa with ghk5aaa | ⟨ghk5aaa, ghk5aab⟩
                    · try simp only [go_sem, n1, n2, n3, n4, ghk2, hhk2, ghk3a, ghk4aa, ghk4ab] at ghk5aaa
                      all_goals
                      obtain rfl := so_some h
                      refine ⟨0, fun L hL => ?_⟩
                      simp only [go_sem, ir38, fhk1, ghk2, hhk2, fhk2, ghk3a, ghk4aa, ghk4ab, ghk5aaa]
                    · try simp only [go_sem, n1, n2, n3, n4, ghk2, hhk2, ghk3a, ghk4aa, ghk4ab] at ghk5aaa
                      all_goals
                      try simp only [go_sem, n1, n2, n3, n4, ghk2, hhk2, ghk3a, ghk4aa, ghk4ab, ghk5aaa] at ghk5aab
                      all_goals
                      obtain rfl := so_some h
                      refine ⟨0, fun L hL => ?_⟩
                      simp only [go_sem, ir38, fhk1, ghk2, hhk2, fhk2, ghk3a, ghk4aa, ghk4ab, ghk5aaa, ghk5aab]
                  · obtain ⟨ghk5aaa, ghk5aab⟩ := and_t ghk5aa
                    try simp only [go_sem, n1, n2, n3, n4, ghk2, hhk2, ghk3a, ghk4aa, ghk4ab] at ghk5aaa
                    all_goals
                    try simp only [go_sem, n1, n2, n3, n4, ghk2, hhk2, ghk3a, ghk4aa, ghk4ab, ghk5aaa] at ghk5aab
                    all_goals
                    try simp only [go_sem, n1, n2, n3, n4, ghk2, hhk2, ghk3a, ghk4aa, ghk4ab, ghk5aaa, ghk5aab] at ghk5ab
                    all_goals
                    obtain rfl := so_some h
                    refine ⟨0, fun L hL => ?_⟩
                    simp only [go_sem, ir38, fhk1, ghk2, hhk2, fhk2, ghk3a, ghk4aa, ghk4ab, ghk5aaa, ghk5aab, ghk5ab]
                · obtain ⟨ghk5aa, ghk5ab⟩ := and_t ghk5a
                  obtain ⟨ghk5aaa, ghk5aab⟩ := and_t ghk5aa
                  try simp only [go_sem, n1, n2, n3, n4, ghk2, hhk2, ghk3a, ghk4aa, ghk4ab] at ghk5aaa
                  all_goals
                  try simp only [go_sem, n1, n2, n3, n4, ghk2, hhk2, ghk3a, ghk4aa, ghk4ab, ghk5aaa] at ghk5aab
                  all_goals
                  try simp only [go_sem, n1, n2, n3, n4, ghk2, hhk2, ghk3a, ghk4aa, ghk4ab, ghk5aaa, ghk5aab] at ghk5ab
                  all_goals
                  try simp only [go_sem, n1, n2, n3, n4, ghk2, hhk2, ghk3a, ghk4aa, ghk4ab, ghk5aaa, ghk5aab, ghk5ab] at ghk5b
                  all_goals
                  obtain rfl := so_some h
                  refine ⟨0, fun L hL => ?_⟩
                  simp only [go_sem, ir38, fhk1, ghk2, hhk2, fhk2, ghk3a, ghk4aa, ghk4ab, ghk5aaa, ghk5aab, ghk5ab, ghk5b]
          · obtain ⟨ghk4aa, ghk4ab⟩ := and_t ghk4a
            try simp only [go_sem, n1, n2, n3, n4, ghk2, hhk2, ghk3a] at ghk4aa
            all_goals
            try simp only [go_sem, n1, n2, n3, n4, ghk2, hhk2, ghk3a, ghk4aa] at ghk4ab
            all_goals
            try simp only [go_sem, n1, n2, n3, n4, ghk2, hhk2, ghk3a, ghk4aa, ghk4ab] at ghk4b
            all_goals
            obtain ⟨hk5, h⟩ := ck_some h
            rcases or_split hk5 with ⟨ghk5, hk5⟩ | ghk5
            · try simp only [go_sem, n1, n2, n3, n4, ghk2, hhk2, ghk3a, ghk4aa, ghk4ab, ghk4b] at ghk5
              all_goals
              obtain ⟨y_5, hhk5⟩ := Option.isSome_iff_exists.1 hk5
              have fhk5 := Fs_spec_l02Mag hhk5
              try simp only [go_sem, ghk2, hhk2, ghk3a, ghk4aa, ghk4ab, ghk4b, ghk5] at fhk5
              obtain rfl := so_some h
              refine ⟨0, fun L hL => ?_⟩
              simp only [go_sem, ir38, fhk1, ghk2, hhk2, fhk2, ghk3a, ghk4aa, ghk4ab, ghk4b, ghk5, hhk5, fhk5]
            · rcases and_f ghk5 with ghk5a | ⟨ghk5a, ghk5b⟩
              · rcases and_f ghk5a with ghk5aa | ⟨ghk5aa, ghk5ab⟩
                · rcases and_f ghk5aa with ghk5aaa | ⟨ghk5aaa, ghk5aab⟩
                  · try simp only [go_sem, n1, n2, n3, n4, ghk2, hhk2, ghk3a, ghk4aa, ghk4ab, ghk4b] at ghk5aaa
                    all_goals
                    obtain rfl := so_some h
                    refine ⟨0, fun L hL => ?_⟩
                    simp only [go_sem, ir38, fhk1, ghk2, hhk2, fhk2, ghk3a, ghk4aa, ghk4ab, ghk4b, ghk5aaa]
                  · try simp only [go_sem, n1, n2, n3, n4, ghk2, hhk2, ghk3a, ghk4aa, ghk4ab, ghk4b] at ghk5aaa
                    all_goals
                    try simp only [go_sem, n1, n2, n3, n4, ghk2, hhk2, ghk3a, ghk4aa, ghk4ab, ghk4b, ghk5aaa] at ghk5aab
                    all_goals
                    obtain rfl := so_some h
                    refine ⟨0, fun L hL => ?_⟩
                    simp only [go_sem, ir38, fhk1, ghk2, hhk2, fhk2, ghk3a, ghk4aa, ghk4ab, ghk4b, ghk5aaa, ghk5aab]
                · obtain ⟨ghk5aaa, ghk5aab⟩ := and_t ghk5aa
                  try simp only [go_sem, n1, n2, n3, n4, ghk2, hhk2, ghk3a, ghk4aa, ghk4ab, ghk4b] at ghk5aaa
                  all_goals
                  try simp only [go_sem, n1, n2, n3, n4, ghk2, hhk2, ghk3a, ghk4aa, ghk4ab, ghk4b, ghk5aaa] at ghk5aab
                  all_goals
                  try simp only [go_sem, n1, n2, n3, n4, ghk2, hhk2, ghk3a, ghk4aa, ghk4ab, ghk4b, ghk5aaa, ghk5aab] at ghk5ab
                  all_goals
                  obtain rfl := so_some h
                  refine ⟨0, fun L hL => ?_⟩
                  simp only [go_sem, ir38, fhk1, ghk2, hhk2, fhk2, ghk3a, ghk4aa, ghk4ab, ghk4b, ghk5aaa, ghk5aab, ghk5ab]
              · obtain ⟨ghk5aa, ghk5ab⟩ := and_t ghk5a
                obtain ⟨ghk5aaa, ghk5aab⟩ := and_t ghk5aa
                try simp only [go_sem, n1, n2, n3, n4, ghk2, hhk2, ghk3a, ghk4aa, ghk4ab, ghk4b] at ghk5aaa
                all_goals
                try simp only [go_sem, n1, n2, n3, n4, ghk2, hhk2, ghk3a, ghk4aa, ghk4ab, ghk4b, ghk5aaa] at ghk5aab
                all_goals
                try simp only [go_sem, n1, n2, n3, n4, ghk2, hhk2, ghk3a, ghk4aa, ghk4ab, ghk4b, ghk5aaa, ghk5aab] at ghk5ab
                all_goals
                try simp only [go_sem, n1, n2, n3, n4, ghk2, hhk2, ghk3a, ghk4aa, ghk4ab, ghk4b, ghk5aaa, ghk5aab, ghk5ab] at ghk5b
                all_goals
                obtain rfl := so_some h
                refine ⟨0, fun L hL => ?_⟩
                simp only [go_sem, ir38, fhk1, ghk2, hhk2, fhk2, ghk3a, ghk4aa, ghk4ab, ghk4b, ghk5aaa, ghk5aab, ghk5ab, ghk5b]
      · try simp only [go_sem, n1, n2, n3, n4, ghk2, hhk2] at ghk3a
        all_goals
        try simp only [go_sem, n1, n2, n3, n4, ghk2, hhk2, ghk3a] at ghk3b
        all_goals
        obtain ⟨hk4, h⟩ := ck_some h
        rcases or_split hk4 with ⟨ghk4, hk4⟩ | ghk4
        · try simp only [go_sem, n1, n2, n3, n4, ghk2, hhk2, ghk3a, ghk3b] at ghk4
          all_goals
          obtain ⟨y_4, hhk4⟩ := Option.isSome_iff_exists.1 hk4
          have fhk4 := Fs_spec_l02Mag hhk4
          try simp only [go_sem, ghk2, hhk2, ghk3a, ghk3b, ghk4] at fhk4
          obtain ⟨hk5, h⟩ := ck_some h
          rcases or_split hk5 with ⟨ghk5, hk5⟩ | ghk5
          · try simp only [go_sem, n1, n2, n3, n4, ghk2, hhk2, ghk3a, ghk3b, ghk4, hhk4] at ghk5
            all_goals
            obtain ⟨y_5, hhk5⟩ := Option.isSome_iff_exists.1 hk5
            have fhk5 := Fs_spec_l02Mag hhk5
            try simp only [go_sem, ghk2, hhk2, ghk3a, ghk3b, ghk4, hhk4, ghk5] at fhk5
            obtain rfl := so_some h
            refine ⟨0, fun L hL => ?_⟩
            simp only [go_sem, ir38, fhk1, ghk2, hhk2, fhk2, ghk3a, ghk3b, ghk4, hhk4, fhk4, ghk5, hhk5, fhk5]
          · rcases and_f ghk5 with ghk5a | ⟨ghk5a, ghk5b⟩
            · rcases and_f ghk5a with ghk5aa | ⟨ghk5aa, ghk5ab⟩
              · rcases and_f ghk5aa with ghk5aaa | ⟨ghk5aaa, ghk5aab⟩
                · try simp only [go_sem, n1, n2, n3, n4, ghk2, hhk2, ghk3a, ghk3b, ghk4, hhk4] at ghk5aaa
                  all_goals
                  obtain rfl := so_some h
                  refine ⟨0, fun L hL => ?_⟩
                  simp only [go_sem, ir38, fhk1, ghk2, hhk2, fhk2, ghk3a, ghk3b, ghk4, hhk4, fhk4, ghk5aaa]
                · try simp only [go_sem, n1, n2, n3, n4, ghk2, hhk2, ghk3a, ghk3b, ghk4, hhk4] at ghk5aaa
                  all_goals
                  try simp only [go_sem, n1, n2, n3, n4, ghk2, hhk2, ghk3a, ghk3b, ghk4, hhk4, ghk5aaa] at ghk5aab
                  all_goals
                  obtain rfl := so_some h
                  refine ⟨0, fun L hL => ?_⟩
                  simp only [go_sem, ir38, fhk1, ghk2, hhk2, fhk2, ghk3a, ghk3b, ghk4, hhk4, fhk4, ghk5aaa, ghk5aab]
              · obtain ⟨ghk5aaa, ghk5aab⟩ := and_t ghk5aa
                try simp only [go_sem, n1, n2, n3, n4, ghk2, hhk2, ghk3a, ghk3b, ghk4, hhk4] at ghk5aaa
                all_goals
                try simp only [go_sem, n1, n2, n3, n4, ghk2, hhk2, ghk3a, ghk3b, ghk4, hhk4, ghk5aaa] at ghk5aab
                all_goals
                try simp only [go_sem, n1, n2, n3, n4, ghk2, hhk2, ghk3a, ghk3b, ghk4, hhk4, ghk5aaa, ghk5aab] at ghk5ab
                all_goals
                obtain rfl := so_some h
                refine ⟨0, fun L hL => ?_⟩
                simp only [go_sem, ir38, fhk1, ghk2, hhk2, fhk2, ghk3a, ghk3b, ghk4, hhk4, fhk4, ghk5aaa, ghk5aab, ghk5ab]
            · obtain ⟨ghk5aa, ghk5ab⟩ := and_t ghk5a
              obtain ⟨ghk5aaa, ghk5aab⟩ := and_t ghk5aa
              try simp only [go_sem, n1, n2, n3, n4, ghk2, hhk2, ghk3a, ghk3b, ghk4, hhk4] at ghk5aaa
              all_goals
              try simp only [go_sem, n1, n2, n3, n4, ghk2, hhk2, ghk3a, ghk3b, ghk4, hhk4, ghk5aaa] at ghk5aab
              all_goals
              try simp only [go_sem, n1, n2, n3, n4, ghk2, hhk2, ghk3a, ghk3b, ghk4, hhk4, ghk5aaa, ghk5aab] at ghk5ab
              all_goals
              try simp only [go_sem, n1, n2, n3, n4, ghk2, hhk2, ghk3a, ghk3b, ghk4, hhk4, ghk5aaa, ghk5aab, ghk5ab] at ghk5b
              all_goals
              obtain rfl := so_some h
              refine ⟨0, fun L hL => ?_⟩
              simp only [go_sem, ir38, fhk1, ghk2, hhk2, fhk2, ghk3a, ghk3b, ghk4, hhk4, fhk4, ghk5aaa, ghk5aab, ghk5ab, ghk5b]
        · rcases and_f ghk4 with ghk4a | ⟨ghk4a, ghk4b⟩
          · rcases and_f ghk4a with ghk4aa | ⟨ghk4aa, ghk4ab⟩
            · try simp only [go_sem, n1, n2, n3, n4, ghk2, hhk2, ghk3a, ghk3b] at ghk4aa
              all_goals
              obtain ⟨hk5, h⟩ := ck_some h
              rcases or_split hk5 with ⟨ghk5, hk5⟩ | ghk5
              · try simp only [go_sem, n1, n2, n3, n4, ghk2, hhk2, ghk3a, ghk3b, ghk4aa] at ghk5
                all_goals
                obtain ⟨y_5, hhk5⟩ := Option.isSome_iff_exists.1 hk5
                have fhk5 := Fs_spec_l02Mag hhk5
                try simp only [go_sem, ghk2, hhk2, ghk3a, ghk3b, ghk4aa, ghk5] at fhk5
                obtain rfl := so_some h
                refine ⟨0, fun L hL => ?_⟩
                simp only [go_sem, ir38, fhk1, ghk2, hhk2, fhk2, ghk3a, ghk3b, ghk4aa, ghk5, hhk5, fhk5]
              · rcases and_f ghk5 with ghk5a | ⟨ghk5a, ghk5b⟩
                · rcases and_f ghk5a with ghk5aa | ⟨ghk5aa, ghk5ab⟩
                  · rcases and_f ghk5aa with ghk5aaa | ⟨ghk5aaa, ghk5aab⟩
                    · try simp only [go_sem, n1, n2, n3, n4, ghk2, hhk2, ghk3a, ghk3b, ghk4aa] at ghk5aaa
                      all_goals
                      obtain rfl := so_some h
                      refine ⟨0, fun L hL => ?_⟩
                      simp only [go_sem, ir38, fhk1, ghk2, hhk2, fhk2, ghk3a, ghk3b, ghk4aa, ghk5aaa]
                    · try simp only [go_sem, n1, n2, n3, n4, ghk2, hhk2, ghk3a, ghk3b, ghk4aa] at ghk5aaa
                      all_goals
                      try simp only [go_sem, n1, n2, n3, n4, ghk2, hhk2, ghk3a, ghk3b, ghk4aa, ghk5aaa] at ghk5aab
                      all_goals
                      obtain rfl := so_some h
                      refine ⟨0, fun L hL => ?_⟩
                      simp only [go_sem, ir38, fhk1, ghk2, hhk2, fhk2, ghk3a, ghk3b, ghk4aa, ghk5aaa, ghk5aab]
                  · obtain ⟨ghk5aaa, ghk5aab⟩ := and_t ghk5aa
                    try simp only [go_sem, n1, n2, n3, n4, ghk2, hhk2, ghk3a, ghk3b, ghk4aa] at ghk5aaa
                    all_goals
                    try simp only [go_sem, n1, n2, n3, n4, ghk2, hhk2, ghk3a, ghk3b, ghk4aa, ghk5aaa] at ghk5aab
                    all_goals
                    try simp only [go_sem, n1, n2, n3, n4, ghk2, hhk2, ghk3a, ghk3b, ghk4aa, ghk5aaa, ghk5aab] at ghk5ab
                    all_goals
                    obtain rfl := so_some h
                    refine ⟨0, fun L hL => ?_⟩
                    simp only [go_sem, ir38, fhk1, ghk2, hhk2, fhk2, ghk3a, ghk3b, ghk4aa, ghk5aaa, ghk5aab, ghk5ab]
                · obtain ⟨ghk5aa, ghk5ab⟩ := and_t ghk5a
                  obtain ⟨ghk5aaa, ghk5aab⟩ := and_t ghk5aa
                  try simp only [go_sem, n1, n2, n3, n4, ghk2, hhk2, ghk3a, ghk3b, ghk4aa] at ghk5aaa
                  all_goals
                  try simp only [go_sem, n1, n2, n3, n4, ghk2, hhk2, ghk3a, ghk3b, ghk4aa, ghk5aaa] at ghk5aab
                  all_goals
                  try simp only [go_sem, n1, n2, n3, n4, ghk2, hhk2, ghk3a, ghk3b, ghk4aa, ghk5aaa, ghk5aab] at ghk5ab
                  all_goals
                  try simp only [go_sem, n1, n2, n3, n4, ghk2, hhk2, ghk3a, ghk3b, ghk4aa, ghk5aaa, ghk5aab, ghk5ab] at ghk5b
                  all_goals
                  obtain rfl := so_some h
                  refine ⟨0, fun L hL => ?_⟩
                  simp only [go_sem, ir38, fhk1, ghk2, hhk2, fhk2, ghk3a, ghk3b, ghk4aa, ghk5aaa, ghk5aab, ghk5ab, ghk5b]
            · try simp only [go_sem, n1, n2, n3, n4, ghk2, hhk2, ghk3a, ghk3b] at ghk4aa
              all_goals
              try simp only [go_sem, n1, n2, n3, n4, ghk2, hhk2, ghk3a, ghk3b, ghk4aa] at ghk4ab
              all_goals
              obtain ⟨hk5, h⟩ := ck_some h
              rcases or_split hk5 with ⟨ghk5, hk5⟩ | ghk5
              · try simp only [go_sem, n1, n2, n3, n4, ghk2, hhk2, ghk3a, ghk3b, ghk4aa, ghk4ab] at ghk5
                all_goals
                obtain ⟨y_5, hhk5⟩ := Option.isSome_iff_exists.1 hk5
                have fhk5 := Fs_spec_l02Mag hhk5
                try simp only [go_sem, ghk2, hhk2, ghk3a, ghk3b, ghk4aa, ghk4ab, ghk5] at fhk5
                obtain rfl := so_some h
                refine ⟨0, fun L hL => ?_⟩
                simp only [go_sem, ir38, fhk1, ghk2, hhk2, fhk2, ghk3a, ghk3b, ghk4aa, ghk4ab, ghk5, hhk5, fhk5]
              · rcases and_f ghk5 with ghk5a | ⟨ghk5a, ghk5b⟩
                · rcases and_f ghk5a with ghk5aa | ⟨ghk5aa, ghk5ab⟩
                  · rcases and_f ghk5aa with ghk5aaa | ⟨ghk5aaa, ghk5aab⟩
                    · try simp only [go_sem, n1, n2, n3, n4, ghk2, hhk2, ghk3a, ghk3b, ghk4aa, ghk4ab] at ghk5aaa
                      all_goals
                      obtain rfl := so_some h
                      refine ⟨0, fun L hL => ?_⟩
                      simp only [go_sem, ir38, fhk1, ghk2, hhk2, fhk2, ghk3a, ghk3b, ghk4aa, ghk4ab, ghk5aaa]
                    · try simp only [go_sem, n1, n2, n3, n4, ghk2, hhk2, ghk3a, ghk3b, ghk4aa, ghk4ab] at ghk5aaa
                      all_goals
                      try simp only [go_sem, n1, n2, n3, n4, ghk2, hhk2, ghk3a, ghk3b, ghk4aa, ghk4ab, ghk5aaa] at ghk5aab
                      all_goals
                      obtain rfl := so_some h
                      refine ⟨0, fun L hL => ?_⟩
                      simp only [go_sem, ir38, fhk1, ghk2, hhk2, fhk2, ghk3a, ghk3b, ghk4aa, ghk4ab, ghk5aaa, ghk5aab]
                  · obtain ⟨ghk5aaa, ghk5aab⟩ := and_t ghk5aa
                    try simp only [go_sem, n1, n2, n3, n4, ghk2, hhk2, ghk3a, ghk3b, ghk4aa, ghk4ab] at ghk5aaa
                    all_goals
                    try simp only [go_sem, n1, n2, n3, n4, ghk2, hhk2, ghk3a, ghk3b, ghk4aa, ghk4ab, ghk5aaa] at ghk5aab
                    all_goals
                    try simp only [go_sem, n1, n2, n3, n4, ghk2, hhk2, ghk3a, ghk3b, ghk4aa, ghk4ab, ghk5aaa, ghk5aab] at ghk5ab
                    all_goals
                    obtain rfl := so_some h
                    refine ⟨0, fun L hL => ?_⟩
                    simp only [go_sem, ir38, fhk1, ghk2, hhk2, fhk2, ghk3a, ghk3b, ghk4aa, ghk4ab, ghk5aaa, ghk5aab, ghk5ab]
                · obtain ⟨ghk5aa, ghk5ab⟩ := and_t ghk5a
                  obtain ⟨ghk5aaa, ghk5aab⟩ := and_t ghk5aa
                  try simp only [go_sem, n1, n2, n3, n4, ghk2, hhk2, ghk3a, ghk3b, ghk4aa, ghk4ab] at ghk5aaa
                  all_goals
                  try simp only [go_sem, n1, n2, n3, n4, ghk2, hhk2, ghk3a, ghk3b, ghk4aa, ghk4ab, ghk5aaa] at ghk5aab
                  all_goals
                  try simp only [go_sem, n1, n2, n3, n4, ghk2, hhk2, ghk3a, ghk3b, ghk4aa, ghk4ab, ghk5aaa, ghk5aab] at ghk5ab
                  all_goals
                  try simp only [go_sem, n1, n2, n3, n4, ghk2, hhk2, ghk3a, ghk3b, ghk4aa, ghk4ab, ghk5aaa, ghk5aab, ghk5ab] at ghk5b
                  all_goals
                  obtain rfl := so_some h
                  refine ⟨0, fun L hL => ?_⟩
                  simp only [go_sem, ir38, fhk1, ghk2, hhk2, fhk2, ghk3a, ghk3b, ghk4aa, ghk4ab, ghk5aaa, ghk5aab, ghk5ab, ghk5b]
          · obtain ⟨ghk4aa, ghk4ab⟩ := and_t ghk4a
            try simp only [go_sem, n1, n2, n3, n4, ghk2, hhk2, ghk3a, ghk3b] at ghk4aa
            all_goals
            try simp only [go_sem, n1, n2, n3, n4, ghk2, hhk2, ghk3a, ghk3b, ghk4aa] at ghk4ab
            all_goals
            try simp only [go_sem, n1, n2, n3, n4, ghk2, hhk2, ghk3a, ghk3b, ghk4aa, ghk4ab] at ghk4b
            all_goals
            obtain ⟨hk5, h⟩ := ck_some h
            rcases or_split hk5 with ⟨ghk5, hk5⟩ | ghk5
            · try simp only [go_sem, n1, n2, n3, n4, ghk2, hhk2, ghk3a, ghk3b, ghk4aa, ghk4ab, ghk4b] at ghk5
              all_goals
              obtain ⟨y_5, hhk5⟩ := Option.isSome_iff_exists.1 hk5
              have fhk5 := Fs_spec_l02Mag hhk5
              try simp only [go_sem, ghk2, hhk2, ghk3a, ghk3b, ghk4aa, ghk4ab, ghk4b, ghk5] at fhk5
              obtain rfl := so_some h
              refine ⟨0, fun L hL => ?_⟩
              simp only [go_sem, ir38, fhk1, ghk2, hhk2, fhk2, ghk3a, ghk3b, ghk4aa, ghk4ab, ghk4b, ghk5, hhk5, fhk5]
            · rcases and_f ghk5 with ghk5a | ⟨ghk5a, ghk5b⟩
              · rcases and_f ghk5a with ghk5aa | ⟨ghk5aa, ghk5ab⟩
                · rcases and_f ghk5aa with ghk5aaa | ⟨ghk5aaa, ghk5aab⟩
                  · try simp only [go_sem, n1, n2, n3, n4, ghk2, hhk2, ghk3a, ghk3b, ghk4aa, ghk4ab, ghk4b] at ghk5aaa
                    all_goals
                    obtain rfl := so_some h
                    refine ⟨0, fun L hL => ?_⟩
                    simp only [go_sem, ir38, fhk1, ghk2, hhk2, fhk2, ghk3a, ghk3b, ghk4aa, ghk4ab, ghk4b, ghk5aaa]
                  · try simp only [go_sem, n1, n2, n3, n4, ghk2, hhk2, ghk3a, ghk3b, ghk4aa, ghk4ab, ghk4b] at ghk5aaa
                    all_goals
                    try simp only [go_sem, n1, n2, n3, n4, ghk2, hhk2, ghk3a, ghk3b, ghk4aa, ghk4ab, ghk4b, ghk5aaa] at ghk5aab
                    all_goals
                    obtain rfl := so_some h
                    refine ⟨0, fun L hL => ?_⟩
                    simp only [go_sem, ir38, fhk1, ghk2, hhk2, fhk2, ghk3a, ghk3b, ghk4aa, ghk4ab, ghk4b, ghk5aaa, ghk5aab]
                · obtain ⟨ghk5aaa, ghk5aab⟩ := and_t ghk5aa
                  try simp only [go_sem, n1, n2, n3, n4, ghk2, hhk2, ghk3a, ghk3b, ghk4aa, ghk4ab, ghk4b] at ghk5aaa
                  all_goals
                  try simp only [go_sem, n1, n2, n3, n4, ghk2, hhk2, ghk3a, ghk3b, ghk4aa, ghk4ab, ghk4b, ghk5aaa] at ghk5aab
                  all_goals
                  try simp only [go_sem, n1, n2, n3, n4, ghk2, hhk2, ghk3a, ghk3b, ghk4aa, ghk4ab, ghk4b, ghk5aaa, ghk5aab] at ghk5ab
                  all_goals
                  obtain rfl := so_some h
                  refine ⟨0, fun L hL => ?_⟩
                  simp only [go_sem, ir38, fhk1, ghk2, hhk2, fhk2, ghk3a, ghk3b, ghk4aa, ghk4ab, ghk4b, ghk5aaa, ghk5aab, ghk5ab]
              · obtain ⟨ghk5aa, ghk5ab⟩ := and_t ghk5a
                obtain ⟨ghk5aaa, ghk5aab⟩ := and_t ghk5aa
                try simp only [go_sem, n1, n2, n3, n4, ghk2, hhk2, ghk3a, ghk3b, ghk4aa, ghk4ab, ghk4b] at ghk5aaa
                all_goals
                try simp only [go_sem, n1, n2, n3, n4, ghk2, hhk2, ghk3a, ghk3b, ghk4aa, ghk4ab, ghk4b, ghk5aaa] at ghk5aab
                all_goals
                try simp only [go_sem, n1, n2, n3, n4, ghk2, hhk2, ghk3a, ghk3b, ghk4aa, ghk4ab, ghk4b, ghk5aaa, ghk5aab] at ghk5ab
                all_goals
                try simp only [go_sem, n1, n2, n3, n4, ghk2, hhk2, ghk3a, ghk3b, ghk4aa, ghk4ab, ghk4b, ghk5aaa, ghk5aab, ghk5ab] at ghk5b
                all_goals
                obtain rfl := so_some h
                refine ⟨0, fun L hL => ?_⟩
                simp only [go_sem, ir38, fhk1, ghk2, hhk2, fhk2, ghk3a, ghk3b, ghk4aa, ghk4ab, ghk4b, ghk5aaa, ghk5aab, ghk5ab, ghk5b]
  · try simp only [go_sem, n1, n2, n3, n4] at ghk2
    all_goals
    obtain ⟨hk3, h⟩ := ck_some h
    rcases or_split hk3 with ⟨ghk3, hk3⟩ | ghk3
    · try simp only [go_sem, n1, n2, n3, n4, ghk2] at ghk3
      all_goals
      obtain ⟨y_3, hhk3⟩ := Option.isSome_iff_exists.1 hk3
      have fhk3 := Fs_spec_l04Decl hhk3
      try simp only [go_sem, ghk2, ghk3] at fhk3
      obtain ⟨hk4, h⟩ := ck_some h
      rcases or_split hk4 with ⟨ghk4, hk4⟩ | ghk4
      · try simp only [go_sem, n1, n2, n3, n4, ghk2, ghk3, hhk3] at ghk4
        all_goals
        obtain ⟨y_4, hhk4⟩ := Option.isSome_iff_exists.1 hk4
        have fhk4 := Fs_spec_l02Mag hhk4
        try simp only [go_sem, ghk2, ghk3, hhk3, ghk4] at fhk4
        obtain ⟨hk5, h⟩ := ck_some h
        rcases or_split hk5 with ⟨ghk5, hk5⟩ | ghk5
        · try simp only [go_sem, n1, n2, n3, n4, ghk2, ghk3, hhk3, ghk4, hhk4] at ghk5
          all_goals
          obtain ⟨y_5, hhk5⟩ := Option.isSome_iff_exists.1 hk5
          have fhk5 := Fs_spec_l02Mag hhk5
          try simp only [go_sem, ghk2, ghk3, hhk3, ghk4, hhk4, ghk5] at fhk5
          obtain rfl := so_some h
          refine ⟨0, fun L hL => ?_⟩
          simp only [go_sem, ir38, fhk1, ghk2, ghk3, hhk3, fhk3, ghk4, hhk4, fhk4, ghk5, hhk5, fhk5]
        · rcases and_f ghk5 with ghk5a | ⟨ghk5a, ghk5b⟩
          · rcases and_f ghk5a with ghk5aa | ⟨ghk5aa, ghk5ab⟩
            · rcases and_f ghk5aa with ghk5aaa | ⟨ghk5aaa, ghk5aab⟩
              · try simp only [go_sem, n1, n2, n3, n4, ghk2, ghk3, hhk3, ghk4, hhk4] at ghk5aaa
                all_goals
                obtain rfl := so_some h
                refine ⟨0, fun L hL => ?_⟩
                simp only [go_sem, ir38, fhk1, ghk2, ghk3, hhk3, fhk3, ghk4, hhk4, fhk4, ghk5aaa]
              · try simp only [go_sem, n1, n2, n3, n4, ghk2, ghk3, hhk3, ghk4, hhk4] at ghk5aaa
                all_goals
                try simp only [go_sem, n1, n2, n3, n4, ghk2, ghk3, hhk3, ghk4, hhk4, ghk5aaa] at ghk5aab
                all_goals
                obtain rfl := so_some h
                refine ⟨0, fun L hL => ?_⟩
                simp only [go_sem, ir38, fhk1, ghk2, ghk3, hhk3, fhk3, ghk4, hhk4, fhk4, ghk5aaa, ghk5aab]
            · obtain ⟨ghk5aaa, ghk5aab⟩ := and_t ghk5aa
              try simp only [go_sem, n1, n2, n3, n4, ghk2, ghk3, hhk3, ghk4, hhk4] at ghk5aaa
              all_goals
              try simp only [go_sem, n1, n2, n3, n4, ghk2, ghk3, hhk3, ghk4, hhk4, ghk5aaa] at ghk5aab
              all_goals
              try simp only [go_sem, n1, n2, n3, n4, ghk2, ghk3, hhk3, ghk4, hhk4, ghk5aaa, ghk5aab] at ghk5ab
              all_goals
              obtain rfl := so_some h
              refine ⟨0, fun L hL => ?_⟩
              simp only [go_sem, ir38, fhk1, ghk2, ghk3, hhk3, fhk3, ghk4, hhk4, fhk4, ghk5aaa, ghk5aab, ghk5ab]
          · obtain ⟨ghk5aa, ghk5ab⟩ := and_t ghk5a
            obtain ⟨ghk5aaa, ghk5aab⟩ := and_t ghk5aa
            try simp only [go_sem, n1, n2, n3, n4, ghk2, ghk3, hhk3, ghk4, hhk4] at ghk5aaa
            all_goals
            try simp only [go_sem, n1, n2, n3, n4, ghk2, ghk3, hhk3, ghk4, hhk4, ghk5aaa] at ghk5aab
            all_goals
            try simp only [go_sem, n1, n2, n3, n4, ghk2, ghk3, hhk3, ghk4, hhk4, ghk5aaa, ghk5aab] at ghk5ab
            all_goals
            try simp only [go_sem, n1, n2, n3, n4, ghk2, ghk3, hhk3, ghk4, hhk4, ghk5aaa, ghk5aab, ghk5ab] at ghk5b
            all_goals
            obtain rfl := so_some h
            refine ⟨0, fun L hL => ?_⟩
            simp only [go_sem, ir38, fhk1, ghk2, ghk3, hhk3, fhk3, ghk4, hhk4, fhk4, ghk5aaa, ghk5aab, ghk5ab, ghk5b]
      · rcases and_f ghk4 with ghk4a | ⟨ghk4a, ghk4b⟩
        · rcases and_f ghk4a with ghk4aa | ⟨ghk4aa, ghk4ab⟩
          · try simp only [go_sem, n1, n2, n3, n4, ghk2, ghk3, hhk3] at ghk4aa
            all_goals
            obtain ⟨hk5, h⟩ := ck_some h
            rcases or_split hk5 with ⟨ghk5, hk5⟩ | ghk5
            · try simp only [go_sem, n1, n2, n3, n4, ghk2, ghk3, hhk3, ghk4aa] at ghk5
              all_goals
              obtain ⟨y_5, hhk5⟩ := Option.isSome_iff_exists.1 hk5
              have fhk5 := Fs_spec_l02Mag hhk5
              try simp only [go_sem, ghk2, ghk3, hhk3, ghk4aa, ghk5] at fhk5
              obtain rfl := so_some h
              refine ⟨0, fun L hL => ?_⟩
              simp only [go_sem, ir38, fhk1, ghk2, ghk3, hhk3, fhk3, ghk4aa, ghk5, hhk5, fhk5]
            · rcases and_f ghk5 with ghk5a | ⟨ghk5a, ghk5b⟩
              · rcases and_f ghk5a with ghk5aa | ⟨ghk5aa, ghk5ab⟩
                · rcases and_f ghk5aa with ghk5aaa | ⟨ghk5aaa, ghk5aab⟩
                  · try simp only [go_sem, n1, n2, n3, n4, ghk2, ghk3, hhk3, ghk4aa] at ghk5aaa
                    all_goals
                    obtain rfl := so_some h
                    refine ⟨0, fun L hL => ?_⟩
                    simp only [go_sem, ir38, fhk1, ghk2, ghk3, hhk3, fhk3, ghk4aa, ghk5aaa]
                  · try simp only [go_sem, n1, n2, n3, n4, ghk2, ghk3, hhk3, ghk4aa] at ghk5aaa
                    all_goals
                    try simp only [go_sem, n1, n2, n3, n4, ghk2, ghk3, hhk3, ghk4aa, ghk5aaa] at ghk5aab
                    all_goals
                    obtain rfl := so_some h
                    refine ⟨0, fun L hL => ?_⟩
                    simp only [go_sem, ir38, fhk1, ghk2, ghk3, hhk3, fhk3, ghk4aa, ghk5aaa, ghk5aab]
                · obtain ⟨ghk5aaa, ghk5aab⟩ := and_t ghk5aa
                  try simp only [go_sem, n1, n2, n3, n4, ghk2, ghk3, hhk3, ghk4aa] at ghk5aaa
                  all_goals
                  try simp only [go_sem, n1, n2, n3, n4, ghk2, ghk3, hhk3, ghk4aa, ghk5aaa] at ghk5aab
                  all_goals
                  try simp only [go_sem, n1, n2, n3, n4, ghk2, ghk3, hhk3, ghk4aa, ghk5aaa, ghk5aab] at ghk5ab
                  all_goals
                  obtain rfl := so_some h
                  refine ⟨0, fun L hL => ?_⟩
                  simp only [go_sem, ir38, fhk1, ghk2, ghk3, hhk3, fhk3, ghk4aa, ghk5aaa, ghk5aab, ghk5ab]
              · obtain ⟨ghk5aa, ghk5ab⟩ := and_t ghk5a
                obtain ⟨ghk5aaa, ghk5aab⟩ := and_t ghk5aa
                try simp only [go_sem, n1, n2, n3, n4, ghk2, ghk3, hhk3, ghk4aa] at ghk5aaa
                all_goals
                try simp only [go_sem, n1, n2, n3, n4, ghk2, ghk3, hhk3, ghk4aa, ghk5aaa] at ghk5aab
                all_goals
                try simp only [go_sem, n1, n2, n3, n4, ghk2, ghk3, hhk3, ghk4aa, ghk5aaa, ghk5aab] at ghk5ab
                all_goals
                try simp only [go_sem, n1, n2, n3, n4, ghk2, ghk3, hhk3, ghk4aa, ghk5aaa, ghk5aab, ghk5ab] at ghk5b
                all_goals
                obtain rfl := so_some h
                refine ⟨0, fun L hL => ?_⟩
                simp only [go_sem, ir38, fhk1, ghk2, ghk3, hhk3, fhk3, ghk4aa, ghk5aaa, ghk5aab, ghk5ab, ghk5b]
          · try simp only [go_sem, n1, n2, n3, n4, ghk2, ghk3, hhk3] at ghk4aa
            all_goals
            try simp only [go_sem, n1, n2, n3, n4, ghk2, ghk3, hhk3, ghk4aa] at ghk4ab
            all_goals
            obtain ⟨hk5, h⟩ := ck_some h
            rcases or_split hk5 with ⟨ghk5, hk5⟩ | ghk5
            · try simp only [go_sem, n1, n2, n3, n4, ghk2, ghk3, hhk3, ghk4aa, ghk4ab] at ghk5
              all_goals
              obtain ⟨y_5, hhk5⟩ := Option.isSome_iff_exists.1 hk5
              have fhk5 := Fs_spec_l02Mag hhk5
              try simp only [go_sem, ghk2, ghk3, hhk3, ghk4aa, ghk4ab, ghk5] at fhk5
              obtain rfl := so_some h
              refine ⟨0, fun L hL => ?_⟩
              simp only [go_sem, ir38, fhk1, ghk2, ghk3, hhk3, fhk3, ghk4aa, ghk4ab, ghk5, hhk5, fhk5]
            · rcases and_f ghk5 with ghk5a | ⟨ghk5a, ghk5b⟩
              · rcases and_f ghk5a with ghk5aa | ⟨ghk5aa, ghk5ab⟩
                · rcases and_f ghk5aa with ghk5aaa | ⟨ghk5aaa, ghk5aab⟩
                  · try simp only [go_sem, n1, n2, n3, n4, ghk2, ghk3, hhk3, ghk4aa, ghk4ab] at ghk5aaa
                    all_goals
                    obtain rfl := so_some h
                    refine ⟨0, fun L hL => ?_⟩
                    simp only [go_sem, ir38, fhk1, ghk2, ghk3, hhk3, fhk3, ghk4aa, ghk4ab, ghk5aaa]
                  · try simp only [go_sem, n1, n2, n3, n4, ghk2, ghk3, hhk3, ghk4aa, ghk4ab] at ghk5aaa
                    all_goals
                    try simp only [go_sem, n1, n2, n3, n4, ghk2, ghk3, hhk3, ghk4aa, ghk4ab, ghk5aaa] at ghk5aab
                    all_goals
                    obtain rfl := so_some h
                    refine ⟨0, fun L hL => ?_⟩
                    simp only [go_sem, ir38, fhk1, ghk2, ghk3, hhk3, fhk3, ghk4aa, ghk4ab, ghk5aaa, ghk5aab]
                · obtain ⟨ghk5aaa, ghk5aab⟩ := and_t ghk5aa
                  try simp only [go_sem, n1, n2, n3, n4, ghk2, ghk3, hhk3, ghk4aa, ghk4ab] at ghk5aaa
                  all_goals
                  try simp only [go_sem, n1, n2, n3, n4, ghk2, ghk3, hhk3, ghk4aa, ghk4ab, ghk5aaa] at ghk5aab
                  all_goals
                  try simp only [go_sem, n1, n2, n3, n4, ghk2, ghk3, hhk3, ghk4aa, ghk4ab, ghk5aaa, ghk5aab] at ghk5ab
                  all_goals
                  obtain rfl := so_some h
                  refine ⟨0, fun L hL => ?_⟩
                  simp only [go_sem, ir38, fhk1, ghk2, ghk3, hhk3, fhk3, ghk4aa, ghk4ab, ghk5aaa, ghk5aab, ghk5ab]
              · obtain ⟨ghk5aa, ghk5ab⟩ := and_t ghk5a
                obtain ⟨ghk5aaa, ghk5aab⟩ := and_t ghk5aa
                try simp only [go_sem, n1, n2, n3, n4, ghk2, ghk3, hhk3, ghk4aa, ghk4ab] at ghk5aaa
                all_goals
                try simp only [go_sem, n1, n2, n3, n4, ghk2, ghk3, hhk3, ghk4aa, ghk4ab, ghk5aaa] at ghk5aab
                all_goals
                try simp only [go_sem, n1, n2, n3, n4, ghk2, ghk3, hhk3, ghk4aa, ghk4ab, ghk5aaa, ghk5aab] at ghk5ab
                all_goals
                try simp only [go_sem, n1, n2, n3, n4, ghk2, ghk3, hhk3, ghk4aa, ghk4ab, ghk5aaa, ghk5aab, ghk5ab] at ghk5b
                all_goals
                obtain rfl := so_some h
                refine ⟨0, fun L hL => ?_⟩
                simp only [go_sem, ir38, fhk1, ghk2, ghk3, hhk3, fhk3, ghk4aa, ghk4ab, ghk5aaa, ghk5aab, ghk5ab, ghk5b]
        · obtain ⟨ghk4aa, ghk4ab⟩ := and_t ghk4a
          try simp only [go_sem, n1, n2, n3, n4, ghk2, ghk3, hhk3] at ghk4aa
          all_goals
          try simp only [go_sem, n1, n2, n3, n4, ghk2, ghk3, hhk3, ghk4aa] at ghk4ab
          all_goals
          try simp only [go_sem, n1, n2, n3, n4, ghk2, ghk3, hhk3, ghk4aa, ghk4ab] at ghk4b
          all_goals
          obtain ⟨hk5, h⟩ := ck_some h
          rcases or_split hk5 with ⟨ghk5, hk5⟩ | ghk5
          · try simp only [go_sem, n1, n2, n3, n4, ghk2, ghk3, hhk3, ghk4aa, ghk4ab, ghk4b] at ghk5
            all_goals
            obtain ⟨y_5, hhk5⟩ := Option.isSome_iff_exists.1 hk5
            have fhk5 := Fs_spec_l02Mag hhk5
            try simp only [go_sem, ghk2, ghk3, hhk3, ghk4aa, ghk4ab, ghk4b, ghk5] at fhk5
            obtain rfl := so_some h
            refine ⟨0, fun L hL => ?_⟩
            simp only [go_sem, ir38, fhk1, ghk2, ghk3, hhk3, fhk3, ghk4aa, ghk4ab, ghk4b, ghk5, hhk5, fhk5]
          · rcases and_f ghk5 with ghk5a | ⟨ghk5a, ghk5b⟩
            · rcases and_f ghk5a with ghk5aa | ⟨ghk5aa, ghk5ab⟩
              · rcases and_f ghk5aa with ghk5aaa | ⟨ghk5aaa, ghk5aab⟩
                · try simp only [go_sem, n1, n2, n3, n4, ghk2, ghk3, hhk3, ghk4aa, ghk4ab, ghk4b] at ghk5aaa
                  all_goals
                  obtain rfl := so_some h
                  refine ⟨0, fun L hL => ?_⟩
                  simp only [go_sem, ir38, fhk1, ghk2, ghk3, hhk3, fhk3, ghk4aa, ghk4ab, ghk4b, ghk5aaa]
                · try simp only [go_sem, n1, n2, n3, n4, ghk2, ghk3, hhk3, ghk4aa, ghk4ab, ghk4b] at ghk5aaa
                  all_goals
                  try simp only [go_sem, n1, n2, n3, n4, ghk2, ghk3, hhk3, ghk4aa, ghk4ab, ghk4b, ghk5aaa] at ghk5aab
                  all_goals
                  obtain rfl := so_some h
                  refine ⟨0, fun L hL => ?_⟩
                  simp only [go_sem, ir38, fhk1, ghk2, ghk3, hhk3, fhk3, ghk4aa, ghk4ab, ghk4b, ghk5aaa, ghk5aab]
              · obtain ⟨ghk5aaa, ghk5aab⟩ := and_t ghk5aa
                try simp only [go_sem, n1, n2, n3, n4, ghk2, ghk3, hhk3, ghk4aa, ghk4ab, ghk4b] at ghk5aaa
                all_goals
                try simp only [go_sem, n1, n2, n3, n4, ghk2, ghk3, hhk3, ghk4aa, ghk4ab, ghk4b, ghk5aaa] at ghk5aab
                all_goals
                try simp only [go_sem, n1, n2, n3, n4, ghk2, ghk3, hhk3, ghk4aa, ghk4ab, ghk4b, ghk5aaa, ghk5aab] at ghk5ab
                all_goals
                obtain rfl := so_some h
                refine ⟨0, fun L hL => ?_⟩
                simp only [go_sem, ir38, fhk1, ghk2, ghk3, hhk3, fhk3, ghk4aa, ghk4ab, ghk4b, ghk5aaa, ghk5aab, ghk5ab]
            · obtain ⟨ghk5aa, ghk5ab⟩ := and_t ghk5a
              obtain ⟨ghk5aaa, ghk5aab⟩ := and_t ghk5aa
              try simp only [go_sem, n1, n2, n3, n4, ghk2, ghk3, hhk3, ghk4aa, ghk4ab, ghk4b] at ghk5aaa
              all_goals
              try simp only [go_sem, n1, n2, n3, n4, ghk2, ghk3, hhk3, ghk4aa, ghk4ab, ghk4b, ghk5aaa] at ghk5aab
              all_goals
              try simp only [go_sem, n1, n2, n3, n4, ghk2, ghk3, hhk3, ghk4aa, ghk4ab, ghk4b, ghk5aaa, ghk5aab] at ghk5ab
              all_goals
              try simp only [go_sem, n1, n2, n3, n4, ghk2, ghk3, hhk3, ghk4aa, ghk4ab, ghk4b, ghk5aaa, ghk5aab, ghk5ab] at ghk5b
              all_goals
              obtain rfl := so_some h
              refine ⟨0, fun L hL => ?_⟩
              simp only [go_sem, ir38, fhk1, ghk2, ghk3, hhk3, fhk3, ghk4aa, ghk4ab, ghk4b, ghk5aaa, ghk5aab, ghk5ab, ghk5b]
    · rcases and_f ghk3 with ghk3a | ⟨ghk3a, ghk3b⟩
      · try simp only [go_sem, n1, n2, n3, n4, ghk2] at ghk3a
        all_goals
        obtain ⟨hk4, h⟩ := ck_some h
        rcases or_split hk4 with ⟨ghk4, hk4⟩ | ghk4
        · try simp only [go_sem, n1, n2, n3, n4, ghk2, ghk3a] at ghk4
          all_goals
          obtain ⟨y_4, hhk4⟩ := Option.isSome_iff_exists.1 hk4
          have fhk4 := Fs_spec_l02Mag hhk4
          try simp only [go_sem, ghk2, ghk3a, ghk4] at fhk4
          obtain ⟨hk5, h⟩ := ck_some h
          rcases or_split hk5 with ⟨ghk5, hk5⟩ | ghk5
          · try simp only [go_sem, n1, n2, n3, n4, ghk2, ghk3a, ghk4, hhk4] at ghk5
            all_goals
            obtain ⟨y_5, hhk5⟩ := Option.isSome_iff_exists.1 hk5
            have fhk5 := Fs_spec_l02Mag hhk5
            try simp only [go_sem, ghk2, ghk3a, ghk4, hhk4, ghk5] at fhk5
            obtain rfl := so_some h
            refine ⟨0, fun L hL => ?_⟩
            simp only [go_sem, ir38, fhk1, ghk2, ghk3a, ghk4, hhk4, fhk4, ghk5, hhk5, fhk5]
          · rcases and_f ghk5 with ghk5a | ⟨ghk5a, ghk5b⟩
            · rcases and_f ghk5a with ghk5aa | ⟨ghk5aa, ghk5ab⟩
              · rcases and_f ghk5aa with ghk5aaa | ⟨ghk5aaa, ghk5aab⟩
                · try simp only [go_sem, n1, n2, n3, n4, ghk2, ghk3a, ghk4, hhk4] at ghk5aaa
                  all_goals
                  obtain rfl := so_some h
                  refine ⟨0, fun L hL => ?_⟩
                  simp only [go_sem, ir38, fhk1, ghk2, ghk3a, ghk4, hhk4, fhk4, ghk5aaa]
                · try simp only [go_sem, n1, n2, n3, n4, ghk2, ghk3a, ghk4, hhk4] at ghk5aaa
                  all_goals
                  try simp only [go_sem, n1, n2, n3, n4, ghk2, ghk3a, ghk4, hhk4, ghk5aaa] at ghk5aab
                  all_goals
                  obtain rfl := so_some h
                  refine ⟨0, fun L hL => ?_⟩
                  simp only [go_sem, ir38, fhk1, ghk2, ghk3a, ghk4, hhk4, fhk4, ghk5aaa, ghk5aab]
              · obtain ⟨ghk5aaa, ghk5aab⟩ := and_t ghk5aa
                try simp only [go_sem, n1, n2, n3, n4, ghk2, ghk3a, ghk4, hhk4] at ghk5aaa
                all_goals
                try simp only [go_sem, n1, n2, n3, n4, ghk2, ghk3a, ghk4, hhk4, ghk5aaa] at ghk5aab
                all_goals
                try simp only [go_sem, n1, n2, n3, n4, ghk2, ghk3a, ghk4, hhk4, ghk5aaa, ghk5aab] at ghk5ab
                all_goals
                obtain rfl := so_some h
                refine ⟨0, fun L hL => ?_⟩
                simp only [go_sem, ir38, fhk1, ghk2, ghk3a, ghk4, hhk4, fhk4, ghk5aaa, ghk5aab, ghk5ab]
            · obtain ⟨ghk5aa, ghk5ab⟩ := and_t ghk5a
              obtain ⟨ghk5aaa, ghk5aab⟩ := and_t ghk5aa
              try simp only [go_sem, n1, n2, n3, n4, ghk2, ghk3a, ghk4, hhk4] at ghk5aaa
              all_goals
              try simp only [go_sem, n1, n2, n3, n4, ghk2, ghk3a, ghk4, hhk4, ghk5aaa] at ghk5aab
              all_goals
              try simp only [go_sem, n1, n2, n3, n4, ghk2, ghk3a, ghk4, hhk4, ghk5aaa, ghk5aab] at ghk5ab
              all_goals
              try simp only [go_sem, n1, n2, n3, n4, ghk2, ghk3a, ghk4, hhk4, ghk5aaa, ghk5aab, ghk5ab] at ghk5b
              all_goals
              obtain rfl := so_some h
              refine ⟨0, fun L hL => ?_⟩
              simp only [go_sem, ir38, fhk1, ghk2, ghk3a, ghk4, hhk4, fhk4, ghk5aaa, ghk5aab, ghk5ab, ghk5b]
        · rcases and_f ghk4 with ghk4a | ⟨ghk4a, ghk4b⟩
          · rcases and_f ghk4a with ghk4aa | ⟨ghk4aa, ghk4ab⟩
            · try simp only [go_sem, n1, n2, n3, n4, ghk2, ghk3a] at ghk4aa
              all_goals
              obtain ⟨hk5, h⟩ := ck_some h
              rcases or_split hk5 with ⟨ghk5, hk5⟩ | ghk5
              · try simp only [go_sem, n1, n2, n3, n4, ghk2, ghk3a, ghk4aa] at ghk5
                all_goals
                obtain ⟨y_5, hhk5⟩ := Option.isSome_iff_exists.1 hk5
                have fhk5 := Fs_spec_l02Mag hhk5
                try simp only [go_sem, ghk2, ghk3a, ghk4aa, ghk5] at fhk5
                obtain rfl := so_some h
                refine ⟨0, fun L hL => ?_⟩
                simp only [go_sem, ir38, fhk1, ghk2, ghk3a, ghk4aa, ghk5, hhk5, fhk5]
              · rcases and_f ghk5 with ghk5a | ⟨ghk5a, ghk5b⟩
                · rcases and_f ghk5a with ghk5aa | ⟨ghk5aa, ghk5ab⟩
                  · rcases and_f ghk5aa with ghk5aaa | ⟨ghk5aaa, ghk5aab⟩
                    · try simp only [go_sem, n1, n2, n3, n4, ghk2, ghk3a, ghk4aa] at ghk5aaa
                      all_goals
                      obtain rfl := so_some h
                      refine ⟨0, fun L hL => ?_⟩
                      simp only [go_sem, ir38, fhk1, ghk2, ghk3a, ghk4aa, ghk5aaa]
                    · try simp only [go_sem, n1, n2, n3, n4, ghk2, ghk3a, ghk4aa] at ghk5aaa
                      all_goals
                      try simp only [go_sem, n1, n2, n3, n4, ghk2, ghk3a, ghk4aa, ghk5aaa] at ghk5aab
                      all_goals
                      obtain rfl := so_some h
                      refine ⟨0, fun L hL => ?_⟩
                      simp only [go_sem, ir38, fhk1, ghk2, ghk3a, ghk4aa, ghk5aaa, ghk5aab]
                  · obtain ⟨ghk5aaa, ghk5aab⟩ := and_t ghk5aa
                    try simp only [go_sem, n1, n2, n3, n4, ghk2, ghk3a, ghk4aa] at ghk5aaa
                    all_goals
                    try simp only [go_sem, n1, n2, n3, n4, ghk2, ghk3a, ghk4aa, ghk5aaa] at ghk5aab
                    all_goals
                    try simp only [go_sem, n1, n2, n3, n4, ghk2, ghk3a, ghk4aa, ghk5aaa, ghk5aab] at ghk5ab
                    all_goals
                    obtain rfl := so_some h
                    refine ⟨0, fun L hL => ?_⟩
                    simp only [go_sem, ir38, fhk1, ghk2, ghk3a, ghk4aa, ghk5aaa, ghk5aab, ghk5ab]
                · obtain ⟨ghk5aa, ghk5ab⟩ := and_t ghk5a
                  obtain ⟨ghk5aaa, ghk5aab⟩ := and_t ghk5aa
                  try simp only [go_sem, n1, n2, n3, n4, ghk2, ghk3a, ghk4aa] at ghk5aaa
                  all_goals
                  try simp only [go_sem, n1, n2, n3, n4, ghk2, ghk3a, ghk4aa, ghk5aaa] at ghk5aab
                  all_goals
                  try simp only [go_sem, n1, n2, n3, n4, ghk2, ghk3a, ghk4aa, ghk5aaa, ghk5aab] at ghk5ab
                  all_goals
                  try simp only [go_sem, n1, n2, n3, n4, ghk2, ghk3a, ghk4aa, ghk5aaa, ghk5aab, ghk5ab] at ghk5b
                  all_goals
                  obtain rfl := so_some h
                  refine ⟨0, fun L hL => ?_⟩
                  simp only [go_sem, ir38, fhk1, ghk2, ghk3a, ghk4aa, ghk5aaa, ghk5aab, ghk5ab, ghk5b]
            · try simp only [go_sem, n1, n2, n3, n4, ghk2, ghk3a] at ghk4aa
              all_goals
              try simp only [go_sem, n1, n2, n3, n4, ghk2, ghk3a, ghk4aa] at ghk4ab
              all_goals
              obtain ⟨hk5, h⟩ := ck_some h
              rcases or_split hk5 with ⟨ghk5, hk5⟩ | ghk5
              · try simp only [go_sem, n1, n2, n3, n4, ghk2, ghk3a, ghk4aa, ghk4ab] at ghk5
                all_goals
                obtain ⟨y_5, hhk5⟩ := Option.isSome_iff_exists.1 hk5
                have fhk5 := Fs_spec_l02Mag hhk5
                try simp only [go_sem, ghk2, ghk3a, ghk4aa, ghk4ab, ghk5] at fhk5
                obtain rfl := so_some h
                refine ⟨0, fun L hL => ?_⟩
                simp only [go_sem, ir38, fhk1, ghk2, ghk3a, ghk4aa, ghk4ab, ghk5, hhk5, fhk5]
              · rcases and_f ghk5 with ghk5a | ⟨ghk5a, ghk5b⟩
                · rcases and_f ghk5a with ghk5aa | ⟨ghk5aa, ghk5ab⟩
                  · rcases and_f ghk5aa with ghk5aaa | ⟨ghk5aaa, ghk5aab⟩
                    · try simp only [go_sem, n1, n2, n3, n4, ghk2, ghk3a, ghk4aa, ghk4ab] at ghk5aaa
                      all_goals
                      obtain rfl := so_some h
                      refine ⟨0, fun L hL => ?_⟩
                      simp only [go_sem, ir38, fhk1, ghk2, ghk3a, ghk4aa, ghk4ab, ghk5aaa]
                    · try simp only [go_sem, n1, n2, n3, n4, ghk2, ghk3a, ghk4aa, ghk4ab] at ghk5aaa
                      all_goals
                      try simp only [go_sem, n1, n2, n3, n4, ghk2, ghk3a, ghk4aa, ghk4ab, ghk5aaa] at ghk5aab
                      all_goals
                      obtain rfl := so_some h
                      refine ⟨0, fun L hL => ?_⟩
                      simp only [go_sem, ir38, fhk1, ghk2, ghk3a, ghk4aa, ghk4ab, ghk5aaa, ghk5aab]
                  · obtain ⟨ghk5aaa, ghk5aab⟩ := and_t ghk5aa
                    try simp only [go_sem, n1, n2, n3, n4, ghk2, ghk3a, ghk4aa, ghk4ab] at ghk5aaa
                    all_goals
                    try simp only [go_sem, n1, n2, n3, n4, ghk2, ghk3a, ghk4aa, ghk4ab, ghk5aaa] at ghk5aab
                    all_goals
                    try simp only [go_sem, n1, n2, n3, n4, ghk2, ghk3a, ghk4aa, ghk4ab, ghk5aaa, ghk5aab] at ghk5ab
                    all_goals
                    obtain rfl := so_some h
                    refine ⟨0, fun L hL => ?_⟩
                    simp only [go_sem, ir38, fhk1, ghk2, ghk3a, ghk4aa, ghk4ab, ghk5aaa, ghk5aab, ghk5ab]
                · obtain ⟨ghk5aa, ghk5ab⟩ := and_t ghk5a
                  obtain ⟨ghk5aaa, ghk5aab⟩ := and_t ghk5aa
                  try simp only [go_sem, n1, n2, n3, n4, ghk2, ghk3a, ghk4aa, ghk4ab] at ghk5aaa
                  all_goals
                  try simp only [go_sem, n1, n2, n3, n4, ghk2, ghk3a, ghk4aa, ghk4ab, ghk5aaa] at ghk5aab
                  all_goals
                  try simp only [go_sem, n1, n2, n3, n4, ghk2, ghk3a, ghk4aa, ghk4ab, ghk5aaa, ghk5aab] at ghk5ab
                  all_goals
                  try simp only [go_sem, n1, n2, n3, n4, ghk2, ghk3a, ghk4aa, ghk4ab, ghk5aaa, ghk5aab, ghk5ab] at ghk5b
                  all_goals
                  obtain rfl := so_some h
                  refine ⟨0, fun L hL => ?_⟩
                  simp only [go_sem, ir38, fhk1, ghk2, ghk3a, ghk4aa, ghk4ab, ghk5aaa, ghk5aab, ghk5ab, ghk5b]
          · obtain ⟨ghk4aa, ghk4ab⟩ := and_t ghk4a
            try simp only [go_sem, n1, n2, n3, n4, ghk2, ghk3a] at ghk4aa
            all_goals
            try simp only [go_sem, n1, n2, n3, n4, ghk2, ghk3a, ghk4aa] at ghk4ab
            all_goals
            try simp only [go_sem, n1, n2, n3, n4, ghk2, ghk3a, ghk4aa, ghk4ab] at ghk4b
            all_goals
            obtain ⟨hk5, h⟩ := ck_some h
            rcases or_split hk5 with ⟨ghk5, hk5⟩ | ghk5
            · try simp only [go_sem, n1, n2, n3, n4, ghk2, ghk3a, ghk4aa, ghk4ab, ghk4b] at ghk5
              all_goals
              obtain ⟨y_5, hhk5⟩ := Option.isSome_iff_exists.1 hk5
              have fhk5 := Fs_spec_l02Mag hhk5
              try simp only [go_sem, ghk2, ghk3a, ghk4aa, ghk4ab, ghk4b, ghk5] at fhk5
              obtain rfl := so_some h
              refine ⟨0, fun L hL => ?_⟩
              simp only [go_sem, ir38, fhk1, ghk2, ghk3a, ghk4aa, ghk4ab, ghk4b, ghk5, hhk5, fhk5]
            · rcases and_f ghk5 with ghk5a | ⟨ghk5a, ghk5b⟩
              · rcases and_f ghk5a with ghk5aa | ⟨ghk5aa, ghk5ab⟩
                · rcases and_f ghk5aa with ghk5aaa | ⟨ghk5aaa, ghk5aab⟩
                  · try simp only [go_sem, n1, n2, n3, n4, ghk2, ghk3a, ghk4aa, ghk4ab, ghk4b] at ghk5aaa
                    all_goals
                    obtain rfl := so_some h
                    refine ⟨0, fun L hL => ?_⟩
                    simp only [go_sem, ir38, fhk1, ghk2, ghk3a, ghk4aa, ghk4ab, ghk4b, ghk5aaa]
                  · try simp only [go_sem, n1, n2, n3, n4, ghk2, ghk3a, ghk4aa, ghk4ab, ghk4b] at ghk5aaa
                    all_goals
                    try simp only [go_sem, n1, n2, n3, n4, ghk2, ghk3a, ghk4aa, ghk4ab, ghk4b, ghk5aaa] at ghk5aab
                    all_goals
                    obtain rfl := so_some h
                    refine ⟨0, fun L hL => ?_⟩
                    simp only [go_sem, ir38, fhk1, ghk2, ghk3a, ghk4aa, ghk4ab, ghk4b, ghk5aaa, ghk5aab]
                · obtain ⟨ghk5aaa, ghk5aab⟩ := and_t ghk5aa
                  try simp only [go_sem, n1, n2, n3, n4, ghk2, ghk3a, ghk4aa, ghk4ab, ghk4b] at ghk5aaa
                  all_goals
                  try simp only [go_sem, n1, n2, n3, n4, ghk2, ghk3a, ghk4aa, ghk4ab, ghk4b, ghk5aaa] at ghk5aab
                  all_goals
                  try simp only [go_sem, n1, n2, n3, n4, ghk2, ghk3a, ghk4aa, ghk4ab, ghk4b, ghk5aaa, ghk5aab] at ghk5ab
                  all_goals
                  obtain rfl := so_some h
                  refine ⟨0, fun L hL => ?_⟩
                  simp only [go_sem, ir38, fhk1, ghk2, ghk3a, ghk4aa, ghk4ab, ghk4b, ghk5aaa, ghk5aab, ghk5ab]
              · obtain ⟨ghk5aa, ghk5ab⟩ := and_t ghk5a
                obtain ⟨ghk5aaa, ghk5aab⟩ := and_t ghk5aa
                try simp only [go_sem, n1, n2, n3, n4, ghk2, ghk3a, ghk4aa, ghk4ab, ghk4b] at ghk5aaa
                all_goals
                try simp only [go_sem, n1, n2, n3, n4, ghk2, ghk3a, ghk4aa, ghk4ab, ghk4b, ghk5aaa] at ghk5aab
                all_goals
                try simp only [go_sem, n1, n2, n3, n4, ghk2, ghk3a, ghk4aa, ghk4ab, ghk4b, ghk5aaa, ghk5aab] at ghk5ab
                all_goals
                try simp only [go_sem, n1, n2, n3, n4, ghk2, ghk3a, ghk4aa, ghk4ab, ghk4b, ghk5aaa, ghk5aab, ghk5ab] at ghk5b
                all_goals
                obtain rfl := so_some h
                refine ⟨0, fun L hL => ?_⟩
                simp only [go_sem, ir38, fhk1, ghk2, ghk3a, ghk4aa, ghk4ab, ghk4b, ghk5aaa, ghk5aab, ghk5ab, ghk5b]
      · try simp only [go_sem, n1, n2, n3, n4, ghk2] at ghk3a
        all_goals
        try simp only [go_sem, n1, n2, n3, n4, ghk2, ghk3a] at ghk3b
        all_goals
        obtain ⟨hk4, h⟩ := ck_some h
        rcases or_split hk4 with ⟨ghk4, hk4⟩ | ghk4
        · try simp only [go_sem, n1, n2, n3, n4, ghk2, ghk3a, ghk3b] at ghk4
          all_goals
          obtain ⟨y_4, hhk4⟩ := Option.isSome_iff_exists.1 hk4
          have fhk4 := Fs_spec_l02Mag hhk4
          try simp only [go_sem, ghk2, ghk3a, ghk3b, ghk4] at fhk4
          obtain ⟨hk5, h⟩ := ck_some h
          rcases or_split hk5 with ⟨ghk5, hk5⟩ | ghk5
          · try simp only [go_sem, n1, n2, n3, n4, ghk2, ghk3a, ghk3b, ghk4, hhk4] at ghk5
            all_goals
            obtain ⟨y_5, hhk5⟩ := Option.isSome_iff_exists.1 hk5
            have fhk5 := Fs_spec_l02Mag hhk5
            try simp only [go_sem, ghk2, ghk3a, ghk3b, ghk4, hhk4, ghk5] at fhk5
            obtain rfl := so_some h
            refine ⟨0, fun L hL => ?_⟩
            simp only [go_sem, ir38, fhk1, ghk2, ghk3a, ghk3b, ghk4, hhk4, fhk4, ghk5, hhk5, fhk5]
          · rcases and_f ghk5 with ghk5a | ⟨ghk5a, ghk5b⟩
            · rcases and_f ghk5a with ghk5aa | ⟨ghk5aa, ghk5ab⟩
              · rcases and_f ghk5aa with ghk5aaa | ⟨ghk5aaa, ghk5aab⟩
                · try simp only [go_sem, n1, n2, n3, n4, ghk2, ghk3a, ghk3b, ghk4, hhk4] at ghk5aaa
                  all_goals
                  obtain rfl := so_some h
                  refine ⟨0, fun L hL => ?_⟩
                  simp only [go_sem, ir38, fhk1, ghk2, ghk3a, ghk3b, ghk4, hhk4, fhk4, ghk5aaa]
                · try simp only [go_sem, n1, n2, n3, n4, ghk2, ghk3a, ghk3b, ghk4, hhk4] at ghk5aaa
                  all_goals
                  try simp only [go_sem, n1, n2, n3, n4, ghk2, ghk3a, ghk3b, ghk4, hhk4, ghk5aaa] at ghk5aab
                  all_goals
                  obtain rfl := so_some h
                  refine ⟨0, fun L hL => ?_⟩
                  simp only [go_sem, ir38, fhk1, ghk2, ghk3a, ghk3b, ghk4, hhk4, fhk4, ghk5aaa, ghk5aab]
              · obtain ⟨ghk5aaa, ghk5aab⟩ := and_t ghk5aa
                try simp only [go_sem, n1, n2, n3, n4, ghk2, ghk3a, ghk3b, ghk4, hhk4] at ghk5aaa
                all_goals
                try simp only [go_sem, n1, n2, n3, n4, ghk2, ghk3a, ghk3b, ghk4, hhk4, ghk5aaa] at ghk5aab
                all_goals
                try simp only [go_sem, n1, n2, n3, n4, ghk2, ghk3a, ghk3b, ghk4, hhk4, ghk5aaa, ghk5aab] at ghk5ab
                all_goals
                obtain rfl := so_some h
                refine ⟨0, fun L hL => ?_⟩
                simp only [go_sem, ir38, fhk1, ghk2, ghk3a, ghk3b, ghk4, hhk4, fhk4, ghk5aaa, ghk5aab, ghk5ab]
            · obtain ⟨ghk5aa, ghk5ab⟩ := and_t ghk5a
              obtain ⟨ghk5aaa, ghk5aab⟩ := and_t ghk5aa
              try simp only [go_sem, n1, n2, n3, n4, ghk2, ghk3a, ghk3b, ghk4, hhk4] at ghk5aaa
              all_goals
              try simp only [go_sem, n1, n2, n3, n4, ghk2, ghk3a, ghk3b, ghk4, hhk4, ghk5aaa] at ghk5aab
              all_goals
              try simp only [go_sem, n1, n2, n3, n4, ghk2, ghk3a, ghk3b, ghk4, hhk4, ghk5aaa, ghk5aab] at ghk5ab
              all_goals
              try simp only [go_sem, n1, n2, n3, n4, ghk2, ghk3a, ghk3b, ghk4, hhk4, ghk5aaa, ghk5aab, ghk5ab] at ghk5b
              all_goals
              obtain rfl := so_some h
              refine ⟨0, fun L hL => ?_⟩
              simp only [go_sem, ir38, fhk1, ghk2, ghk3a, ghk3b, ghk4, hhk4, fhk4, ghk5aaa, ghk5aab, ghk5ab, ghk5b]
        · rcases and_f ghk4 with ghk4a | ⟨ghk4a, ghk4b⟩
          · rcases and_f ghk4a with ghk4aa | ⟨ghk4aa, ghk4ab⟩
            · try simp only [go_sem, n1, n2, n3, n4, ghk2, ghk3a, ghk3b] at ghk4aa
              all_goals
              obtain ⟨hk5, h⟩ := ck_some h
              rcases or_split hk5 with ⟨ghk5, hk5⟩ | ghk5
              · try simp only [go_sem, n1, n2, n3, n4, ghk2, ghk3a, ghk3b, ghk4aa] at ghk5
                all_goals
                obtain ⟨y_5, hhk5⟩ := Option.isSome_iff_exists.1 hk5
                have fhk5 := Fs_spec_l02Mag hhk5
                try simp only [go_sem, ghk2, ghk3a, ghk3b, ghk4aa, ghk5] at fhk5
                obtain rfl := so_some h
                refine ⟨0, fun L hL => ?_⟩
                simp only [go_sem, ir38, fhk1, ghk2, ghk3a, ghk3b, ghk4aa, ghk5, hhk5, fhk5]
              · rcases and_f ghk5 with ghk5a | ⟨ghk5a, ghk5b⟩
                · rcases and_f ghk5a with ghk5aa | ⟨ghk5aa, ghk5ab⟩
                  · rcases and_f ghk5aa with ghk5aaa | ⟨ghk5aaa, ghk5aab⟩
                    · try simp only [go_sem, n1, n2, n3, n4, ghk2, ghk3a, ghk3b, ghk4aa] at ghk5aaa
                      all_goals
                      obtain rfl := so_some h
                      refine ⟨0, fun L hL => ?_⟩
                      simp only [go_sem, ir38, fhk1, ghk2, ghk3a, ghk3b, ghk4aa, ghk5aaa]
                    · try simp only [go_sem, n1, n2, n3, n4, ghk2, ghk3a, ghk3b, ghk4aa] at ghk5aaa
                      all_goals
                      try simp only [go_sem, n1, n2, n3, n4, ghk2, ghk3a, ghk3b, ghk4aa, ghk5aaa] at ghk5aab
                      all_goals
                      obtain rfl := so_some h
                      refine ⟨0, fun L hL => ?_⟩
                      simp only [go_sem, ir38, fhk1, ghk2, ghk3a, ghk3b, ghk4aa, ghk5aaa, ghk5aab]
                  · obtain ⟨ghk5aaa, ghk5aab⟩ := and_t ghk5aa
                    try simp only [go_sem, n1, n2, n3, n4, ghk2, ghk3a, ghk3b, ghk4aa] at ghk5aaa
                    all_goals
                    try simp only [go_sem, n1, n2, n3, n4, ghk2, ghk3a, ghk3b, ghk4aa, ghk5aaa] at ghk5aab
                    all_goals
                    try simp only [go_sem, n1, n2, n3, n4, ghk2, ghk3a, ghk3b, ghk4aa, ghk5aaa, ghk5aab] at ghk5ab
                    all_goals
                    obtain rfl := so_some h
                    refine ⟨0, fun L hL => ?_⟩
                    simp only [go_sem, ir38, fhk1, ghk2, ghk3a, ghk3b, ghk4aa, ghk5aaa, ghk5aab, ghk5ab]
                · obtain ⟨ghk5aa, ghk5ab⟩ := and_t ghk5a
                  obtain ⟨ghk5aaa, ghk5aab⟩ := and_t ghk5aa
                  try simp only [go_sem, n1, n2, n3, n4, ghk2, ghk3a, ghk3b, ghk4aa] at ghk5aaa
                  all_goals
                  try simp only [go_sem, n1, n2, n3, n4, ghk2, ghk3a, ghk3b, ghk4aa, ghk5aaa] at ghk5aab
                  all_goals
                  try simp only [go_sem, n1, n2, n3, n4, ghk2, ghk3a, ghk3b, ghk4aa, ghk5aaa, ghk5aab] at ghk5ab
                  all_goals
                  try simp only [go_sem, n1, n2, n3, n4, ghk2, ghk3a, ghk3b, ghk4aa, ghk5aaa, ghk5aab, ghk5ab] at ghk5b
                  all_goals
                  obtain rfl := so_some h
                  refine ⟨0, fun L hL => ?_⟩
                  simp only [go_sem, ir38, fhk1, ghk2, ghk3a, ghk3b, ghk4aa, ghk5aaa, ghk5aab, ghk5ab, ghk5b]
            · try simp only [go_sem, n1, n2, n3, n4, ghk2, ghk3a, ghk3b] at ghk4aa
              all_goals
              try simp only [go_sem, n1, n2, n3, n4, ghk2, ghk3a, ghk3b, ghk4aa] at ghk4ab
              all_goals
              obtain ⟨hk5, h⟩ := ck_some h
              rcases or_split hk5 with ⟨ghk5, hk5⟩ | ghk5
              · try simp only [go_sem, n1, n2, n3, n4, ghk2, ghk3a, ghk3b, ghk4aa, ghk4ab] at ghk5
                all_goals
                obtain ⟨y_5, hhk5⟩ := Option.isSome_iff_exists.1 hk5
                have fhk5 := Fs_spec_l02Mag hhk5
                try simp only [go_sem, ghk2, ghk3a, ghk3b, ghk4aa, ghk4ab, ghk5] at fhk5
                obtain rfl := so_some h
                refine ⟨0, fun L hL => ?_⟩
                simp only [go_sem, ir38, fhk1, ghk2, ghk3a, ghk3b, ghk4aa, ghk4ab, ghk5, hhk5, fhk5]
              · rcases and_f ghk5 with ghk5a | ⟨ghk5a, ghk5b⟩
                · rcases and_f ghk5a with ghk5aa | ⟨ghk5aa, ghk5ab⟩
                  · rcases and_f ghk5aa with ghk5aaa | ⟨ghk5aaa, ghk5aab⟩
                    · try simp only [go_sem, n1, n2, n3, n4, ghk2, ghk3a, ghk3b, ghk4aa, ghk4ab] at ghk5aaa
                      all_goals
                      obtain rfl := so_some h
                      refine ⟨0, fun L hL => ?_⟩
                      simp only [go_sem, ir38, fhk1, ghk2, ghk3a, ghk3b, ghk4aa, ghk4ab, ghk5aaa]
                    · try simp only [go_sem, n1, n2, n3, n4, ghk2, ghk3a, ghk3b, ghk4aa, ghk4ab] at ghk5aaa
                      all_goals
                      try simp only [go_sem, n1, n2, n3, n4, ghk2, ghk3a, ghk3b, ghk4aa, ghk4ab, ghk5aaa] at ghk5aab
                      all_goals
                      obtain rfl := so_some h
                      refine ⟨0, fun L hL => ?_⟩
                      simp only [go_sem, ir38, fhk1, ghk2, ghk3a, ghk3b, ghk4aa, ghk4ab, ghk5aaa, ghk5aab]
                  · obtain ⟨ghk5aaa, ghk5aab⟩ := and_t ghk5aa
                    try simp only [go_sem, n1, n2, n3, n4, ghk2, ghk3a, ghk3b, ghk4aa, ghk4ab] at ghk5aaa
                    all_goals
                    try simp only [go_sem, n1, n2, n3, n4, ghk2, ghk3a, ghk3b, ghk4aa, ghk4ab, ghk5aaa] at ghk5aab
                    all_goals
                    try simp only [go_sem, n1, n2, n3, n4, ghk2, ghk3a, ghk3b, ghk4aa, ghk4ab, ghk5aaa, ghk5aab] at ghk5ab
                    all_goals
                    obtain rfl := so_some h
                    refine ⟨0, fun L hL => ?_⟩
                    simp only [go_sem, ir38, fhk1, ghk2, ghk3a, ghk3b, ghk4aa, ghk4ab, ghk5aaa, ghk5aab, ghk5ab]
                · obtain ⟨ghk5aa, ghk5ab⟩ := and_t ghk5a
                  obtain ⟨ghk5aaa, ghk5aab⟩ := and_t ghk5aa
                  try simp only [go_sem, n1, n2, n3, n4, ghk2, ghk3a, ghk3b, ghk4aa, ghk4ab] at ghk5aaa
                  all_goals
                  try simp only [go_sem, n1, n2, n3, n4, ghk2, ghk3a, ghk3b, ghk4aa, ghk4ab, ghk5aaa] at ghk5aab
                  all_goals
                  try simp only [go_sem, n1, n2, n3, n4, ghk2, ghk3a, ghk3b, ghk4aa, ghk4ab, ghk5aaa, ghk5aab] at ghk5ab
                  all_goals
                  try simp only [go_sem, n1, n2, n3, n4, ghk2, ghk3a, ghk3b, ghk4aa, ghk4ab, ghk5aaa, ghk5aab, ghk5ab] at ghk5b
                  all_goals
                  obtain rfl := so_some h
                  refine ⟨0, fun L hL => ?_⟩
                  simp only [go_sem, ir38, fhk1, ghk2, ghk3a, ghk3b, ghk4aa, ghk4ab, ghk5aaa, ghk5aab, ghk5ab, ghk5b]
          · obtain ⟨ghk4aa, ghk4ab⟩ := and_t ghk4a
            try simp only [go_sem, n1, n2, n3, n4, ghk2, ghk3a, ghk3b] at ghk4aa
            all_goals
            try simp only [go_sem, n1, n2, n3, n4, ghk2, ghk3a, ghk3b, ghk4aa] at ghk4ab
            all_goals
            try simp only [go_sem, n1, n2, n3, n4, ghk2, ghk3a, ghk3b, ghk4aa, ghk4ab] at ghk4b
            all_goals
            obtain ⟨hk5, h⟩ := ck_some h
            rcases or_split hk5 with ⟨ghk5, hk5⟩ | ghk5
            · try simp only [go_sem, n1, n2, n3, n4, ghk2, ghk3a, ghk3b, ghk4aa, ghk4ab, ghk4b] at ghk5
              all_goals
              obtain ⟨y_5, hhk5⟩ := Option.isSome_iff_exists.1 hk5
              have fhk5 := Fs_spec_l02Mag hhk5
              try simp only [go_sem, ghk2, ghk3a, ghk3b, ghk4aa, ghk4ab, ghk4b, ghk5] at fhk5
              obtain rfl := so_some h
              refine ⟨0, fun L hL => ?_⟩
              simp only [go_sem, ir38, fhk1, ghk2, ghk3a, ghk3b, ghk4aa, ghk4ab, ghk4b, ghk5, hhk5, fhk5]
            · rcases and_f ghk5 with ghk5a | ⟨ghk5a, ghk5b⟩
              · rcases and_f ghk5a with ghk5aa | ⟨ghk5aa, ghk5ab⟩
                · rcases and_f ghk5aa with ghk5aaa | ⟨ghk5aaa, ghk5aab⟩
                  · try simp only [go_sem, n1, n2, n3, n4, ghk2, ghk3a, ghk3b, ghk4aa, ghk4ab, ghk4b] at ghk5aaa
                    all_goals
                    obtain rfl := so_some h
                    refine ⟨0, fun L hL => ?_⟩
                    simp only [go_sem, ir38, fhk1, ghk2, ghk3a, ghk3b, ghk4aa, ghk4ab, ghk4b, ghk5aaa]
                  · try simp only [go_sem, n1, n2, n3, n4, ghk2, ghk3a, ghk3b, ghk4aa, ghk4ab, ghk4b] at ghk5aaa
                    all_goals
                    try simp only [go_sem, n1, n2, n3, n4, ghk2, ghk3a, ghk3b, ghk4aa, ghk4ab, ghk4b, ghk5aaa] at ghk5aab
                    all_goals
                    obtain rfl := so_some h
                    refine ⟨0, fun L hL => ?_⟩
                    simp only [go_sem, ir38, fhk1, ghk2, ghk3a, ghk3b, ghk4aa, ghk4ab, ghk4b, ghk5aaa, ghk5aab]
                · obtain ⟨ghk5aaa, ghk5aab⟩ := and_t ghk5aa
                  try simp only [go_sem, n1, n2, n3, n4, ghk2, ghk3a, ghk3b, ghk4aa, ghk4ab, ghk4b] at ghk5aaa
                  all_goals
                  try simp only [go_sem, n1, n2, n3, n4, ghk2, ghk3a, ghk3b, ghk4aa, ghk4ab, ghk4b, ghk5aaa] at ghk5aab
                  all_goals
                  try simp only [go_sem, n1, n2, n3, n4, ghk2, ghk3a, ghk3b, ghk4aa, ghk4ab, ghk4b, ghk5aaa, ghk5aab] at ghk5ab
                  all_goals
                  obtain rfl := so_some h
                  refine ⟨0, fun L hL => ?_⟩
                  simp only [go_sem, ir38, fhk1, ghk2, ghk3a, ghk3b, ghk4aa, ghk4ab, ghk4b, ghk5aaa, ghk5aab, ghk5ab]
              · obtain ⟨ghk5aa, ghk5ab⟩ := and_t ghk5a
                obtain ⟨ghk5aaa, ghk5aab⟩ := and_t ghk5aa
                try simp only [go_sem, n1, n2, n3, n4, ghk2, ghk3a, ghk3b, ghk4aa, ghk4ab, ghk4b] at ghk5aaa
                all_goals
                try simp only [go_sem, n1, n2, n3, n4, ghk2, ghk3a, ghk3b, ghk4aa, ghk4ab, ghk4b, ghk5aaa] at ghk5aab
                all_goals
                try simp only [go_sem, n1, n2, n3, n4, ghk2, ghk3a, ghk3b, ghk4aa, ghk4ab, ghk4b, ghk5aaa, ghk5aab] at ghk5ab
                all_goals
                try simp only [go_sem, n1, n2, n3, n4, ghk2, ghk3a, ghk3b, ghk4aa, ghk4ab, ghk4b, ghk5aaa, ghk5aab, ghk5ab] at ghk5b
                all_goals
                obtain rfl := so_some h
                refine ⟨0, fun L hL => ?_⟩
                simp only [go_sem, ir38, fhk1, ghk2, ghk3a, ghk3b, ghk4aa, ghk4ab, ghk4b, ghk5aaa, ghk5aab, ghk5ab, ghk5b]


def ir22_b0 : IR := .seq (.test false [
    ⟨.push, 4, none, .mov (.v 2)⟩,
    ⟨.push, 5, none, .mov (.v 0)⟩,
    ⟨.push, 6, none, .len false (.s 0)⟩,
    ⟨.push, 7, none, .bin false .lss (.s 2) (.s 0)⟩] (.s 0)
  (.skip)
  (.exit 0))
 (.seq (.block 1 (.anyo 23 [
     ⟨.slot 0, 10, none, .mov (.v 0)⟩,
     ⟨.slot 1, 11, none, .mov (.v 2)⟩,
     ⟨.slot 2, 12, none, .ixAddr 5 (.s 0) (.s 1)⟩,
     ⟨.slot 3, 13, none, .callp 38 [(.s 2)]⟩,
     ⟨.slot 4, 14, none, .un .not (.s 3)⟩,
     ⟨.slot 5, 15, none, .mov (.s 4)⟩,
     ⟨.slot 6, 16, (some ((.s 5), false)), .mov (.v 2)⟩,
     ⟨.slot 7, 17, (some ((.s 5), false)), .bin false .gtr (.s 6) (.c (.int .i64 (0)))⟩,
     ⟨.slot 8, 18, (some ((.s 5), false)), .mov (.s 7)⟩,
     ⟨.slot 9, 19, (some ((.s 8), true)), .mov (.v 0)⟩,
     ⟨.slot 10, 20, (some ((.s 8), true)), .mov (.v 2)⟩,
     ⟨.slot 11, 21, (some ((.s 8), true)), .bin false .sub (.s 10) (.c (.int .i64 (1)))⟩,
     ⟨.slot 12, 22, (some ((.s 8), true)), .ixAddr 5 (.s 9) (.s 11)⟩,
     ⟨.slot 13, 23, (some ((.s 8), true)), .fldAddr 0 (.s 12)⟩,
     ⟨.slot 14, 24, (some ((.s 8), true)), .load false 1 (.s 13)⟩,
     ⟨.slot 15, 25, (some ((.s 8), true)), .mov (.v 0)⟩,
     ⟨.slot 16, 26, (some ((.s 8), true)), .mov (.v 2)⟩,
     ⟨.slot 17, 27, (some ((.s 8), true)), .ixAddr 5 (.s 15) (.s 16)⟩,
     ⟨.slot 18, 28, (some ((.s 8), true)), .fldAddr 0 (.s 17)⟩,
     ⟨.slot 19, 29, (some ((.s 8), true)), .load false 1 (.s 18)⟩,
     ⟨.slot 20, 30, (some ((.s 8), true)), .bin false .geq (.s 14) (.s 19)⟩,
     ⟨.slot 21, 31, (some ((.s 5), false)), .pick (.s 8) (.s 20) (.c (.bool false))⟩,
     ⟨.slot 22, 32, none, .pick (.s 5) (.c (.bool true)) (.s 21)⟩] [] (.cond (.s 22)
   (.seq (.region false [
       ⟨.var 1, 2, none, .mov (.c (.bool false))⟩])
    (.ret))
   (.skip))))
 (.region false [
   ⟨.push, 8, none, .mov (.v 2)⟩,
   ⟨.push, 9, none, .bin false .add (.s 0) (.c (.int .i64 (1)))⟩,
   ⟨.var 2, 3, none, .mov (.s 0)⟩]))
def ir22_k0 : List Bool := [true, false, true]
def ir22_o0 : List Bool := [true, false, false]
def ir22_r0 : List Bool := [false, true, false]
def ir22_v : List Nat := [0, 2, 3]
def ir22 : AFn := ⟨1, 3, .seq (.region false [
    ⟨.var 1, 2, none, .mov (.c (.bool false))⟩])
 (.seq (.seq (.region false [
     ⟨.var 2, 3, none, .mov (.c (.int .i64 (0)))⟩])
  (.block 0 (.loop ir22_k0 ir22_o0 ir22_r0 ir22_b0)))
 (.seq (.region false [
    ⟨.push, 33, none, .mov (.v 0)⟩,
    ⟨.push, 34, none, .len false (.s 0)⟩,
    ⟨.push, 35, none, .bin false .leq (.s 0) (.c (.int .i64 (60)))⟩,
    ⟨.var 1, 2, none, .mov (.s 0)⟩])
 (.ret))), [.t 1]⟩
noncomputable def t_spec_l04Ok : List (Nat × Ctr) := [(38, c_spec_l04One)]
theorem lk_spec_l04Ok_38 : look t_spec_l04Ok 38 = some c_spec_l04One := rfl
noncomputable def c_spec_l04Ok : Ctr := mkF t_spec_l04Ok ir22 [.bor]
theorem s_spec_l04Ok : Sound Tryz.prog 22 c_spec_l04Ok := mkF_sound _ rfl (snd_cons s_spec_l04One snd_nil) (by kernel_rfl : chkFn Tryz.prog 22 ir22 ir22_v = true)
theorem M_spec_l04Ok : c_spec_l04Ok.modes = [.bor] := rfl
theorem Fl_spec_l04Ok : c_spec_l04Ok.flat = true := rfl
attribute [go_sem] M_spec_l04Ok Fl_spec_l04Ok
attribute [go_sem] lk_spec_l04Ok_38
def E_spec_l04Ok_l1 (list : List Star) : Int → St
  | i => ⟨[.sl 5 (List.map Star_av list), .any, .int .i64 i], [], [], true⟩
def R_spec_l04Ok_l1 (list : List Star) : (Unit ⊕ Bool) → Res
  | .inl y => (.exit 0, ⟨[.sl 5 (List.map Star_av list), .any, .any], [], [], true⟩)
  | .inr y => (.ret, ⟨[.any, .bool y, .any], [], [], true⟩)
theorem spec_l04Ok_l1_ex {list : List Star} {sgm_ : Int} {rho_ : Unit ⊕ Bool} (h : whileE (spec_l04Ok_l1 list) sgm_ = some rho_) : ∃ L0, ∀ L, L0 ≤ L → iter (exec (look t_spec_l04Ok) L ir22_b0) ir22_k0 ir22_o0 ir22_r0 L (E_spec_l04Ok_l1 list sgm_) = R_spec_l04Ok_l1 list rho_ := by
  refine loop_ex (E := E_spec_l04Ok_l1 list) (R := R_spec_l04Ok_l1 list) (fun y => by first | (intro c; cases c) | (rcases y with y | y <;> (intro c; cases c)) | (rcases y with y | y | y <;> (intro c; cases c))) ?_ h
  clear h
  intro i o_ h
  dsimp only [spec_l04Ok_l1] at h
  rcases it_some h with ⟨hk1, h⟩ | ⟨hk1, h⟩
  · try simp only [go_sem, n1, n2, n3, n4] at hk1
    all_goals
    obtain ⟨hk2, h⟩ := ck_some h
    have lhk2 := ix_lt hk2
    have xhk2 := getD_mapD Star_av list lhk2
    try simp only [go_sem] at lhk2
    try simp only [go_sem] at xhk2
    try simp only [go_sem, n1, n2, n3, n4, hk1] at hk2
    all_goals
    obtain ⟨y_3, hk3, h⟩ := bd_some h
    have fhk3 := Fs_spec_l04One hk3
    try simp only [go_sem, hk1, hk2] at fhk3
    obtain ⟨hk4, h⟩ := ck_some h
    rcases or_split hk4 with ⟨ghk4, hk4⟩ | ghk4
    · try simp only [go_sem, n1, n2, n3, n4, hk1, hk2] at ghk4
      all_goals
      have lhk4 := ix_lt hk4
      have xhk4 := getD_mapD Star_av list lhk4
      try simp only [go_sem] at lhk4
      try simp only [go_sem] at xhk4
      try simp only [go_sem, n1, n2, n3, n4, hk1, hk2, ghk4] at hk4
      all_goals
      rcases it_some h with ⟨hk5, h⟩ | ⟨hk5, h⟩
      · try simp only [go_sem, n1, n2, n3, n4, hk1, hk2, ghk4, hk4] at hk5
        all_goals
        obtain rfl := so_some h
        refine ⟨0, fun L hL => ?_⟩
        simp only [go_sem, ir22, E_spec_l04Ok_l1, R_spec_l04Ok_l1, ir22_b0, ir22_k0, ir22_o0, ir22_r0, hk1, hk2, lhk2, xhk2, fhk3, ghk4, hk4, lhk4, xhk4, hk5]
      · try simp only [go_sem, n1, n2, n3, n4, hk1, hk2, ghk4, hk4] at hk5
        all_goals
        obtain rfl := so_some h
        refine ⟨0, fun L hL => ?_⟩
        simp only [go_sem, ir22, E_spec_l04Ok_l1, R_spec_l04Ok_l1, ir22_b0, ir22_k0, ir22_o0, ir22_r0, hk1, hk2, lhk2, xhk2, fhk3, ghk4, hk4, lhk4, xhk4, hk5]
    · rcases and_f ghk4 with ghk4a | ⟨ghk4a, ghk4b⟩
      · have ghk4an := no_f ghk4a
        have ghk4ann := no_t ghk4an
        try simp only [go_sem, n1, n2, n3, n4, hk1, hk2] at ghk4ann
        all_goals
        rcases it_some h with ⟨hk5, h⟩ | ⟨hk5, h⟩
        · try simp only [go_sem, n1, n2, n3, n4, hk1, hk2, ghk4ann] at hk5
          all_goals
          obtain rfl := so_some h
          refine ⟨0, fun L hL => ?_⟩
          simp only [go_sem, ir22, E_spec_l04Ok_l1, R_spec_l04Ok_l1, ir22_b0, ir22_k0, ir22_o0, ir22_r0, hk1, hk2, lhk2, xhk2, fhk3, ghk4ann, hk5]
        · try simp only [go_sem, n1, n2, n3, n4, hk1, hk2, ghk4ann] at hk5
          all_goals
          obtain rfl := so_some h
          refine ⟨0, fun L hL => ?_⟩
          simp only [go_sem, ir22, E_spec_l04Ok_l1, R_spec_l04Ok_l1, ir22_b0, ir22_k0, ir22_o0, ir22_r0, hk1, hk2, lhk2, xhk2, fhk3, ghk4ann, hk5]
      · have ghk4an := no_t ghk4a
        have ghk4ann := no_f ghk4an
        try simp only [go_sem, n1, n2, n3, n4, hk1, hk2] at ghk4ann
        all_goals
        try simp only [go_sem, n1, n2, n3, n4, hk1, hk2, ghk4ann] at ghk4b
        all_goals
        rcases it_some h with ⟨hk5, h⟩ | ⟨hk5, h⟩
        · try simp only [go_sem, n1, n2, n3, n4, hk1, hk2, ghk4ann, ghk4b] at hk5
          all_goals
          obtain rfl := so_some h
          refine ⟨0, fun L hL => ?_⟩
          simp only [go_sem, ir22, E_spec_l04Ok_l1, R_spec_l04Ok_l1, ir22_b0, ir22_k0, ir22_o0, ir22_r0, hk1, hk2, lhk2, xhk2, fhk3, ghk4ann, ghk4b, hk5]
        · try simp only [go_sem, n1, n2, n3, n4, hk1, hk2, ghk4ann, ghk4b] at hk5
          all_goals
          obtain rfl := so_some h
          refine ⟨0, fun L hL => ?_⟩
          simp only [go_sem, ir22, E_spec_l04Ok_l1, R_spec_l04Ok_l1, ir22_b0, ir22_k0, ir22_o0, ir22_r0, hk1, hk2, lhk2, xhk2, fhk3, ghk4ann, ghk4b, hk5]
  · try simp only [go_sem, n1, n2, n3, n4] at hk1
    all_goals
    obtain rfl := so_some h
    refine ⟨0, fun L hL => ?_⟩
    simp only [go_sem, ir22, E_spec_l04Ok_l1, R_spec_l04Ok_l1, ir22_b0, ir22_k0, ir22_o0, ir22_r0, hk1]

theorem Fs_spec_l04Ok {list : List Star} {y_ : Bool} (h : spec_l04Ok list = some y_) : c_spec_l04Ok.F [.sl 5 (List.map Star_av list)] = ⟨true, .bool y_, [.any]⟩ := by
  refine mkF_E rfl ?_
  dsimp only [spec_l04Ok] at h
  obtain ⟨y_6, hk6, h⟩ := bd_some h
  obtain ⟨Lhk6, ehk6⟩ := spec_l04Ok_l1_ex hk6
  rcases y_6 with y_6a | y_6b
  · dsimp only at h
    obtain rfl := so_some h
    refine ⟨Lhk6, fun L hL => ?_⟩
    have ehk6 := ehk6 L (by omega)
    try simp only [go_sem, E_spec_l04Ok_l1, R_spec_l04Ok_l1, ir22_k0, ir22_o0, ir22_r0] at ehk6
    simp only [go_sem, ir22, E_spec_l04Ok_l1, R_spec_l04Ok_l1, ir22_k0, ir22_o0, ir22_r0, ehk6]
  · dsimp only at h
    obtain rfl := so_some h
    refine ⟨Lhk6, fun L hL => ?_⟩
    have ehk6 := ehk6 L (by omega)
    try simp only [go_sem, E_spec_l04Ok_l1, R_spec_l04Ok_l1, ir22_k0, ir22_o0, ir22_r0] at ehk6
    simp only [go_sem, ir22, E_spec_l04Ok_l1, R_spec_l04Ok_l1, ir22_k0, ir22_o0, ir22_r0, ehk6]


def ir55_v : List Nat := [0, 2]
def ir55 : AFn := ⟨1, 2, .seq (.region false [
    ⟨.var 1, 2, none, .mov (.c (.bool false))⟩])
 (.seq (.region false [
    ⟨.push, 3, none, .mov (.v 0)⟩,
    ⟨.push, 4, none, .call 75 [(.s 0), (.c (.int .i64 (0))), (.c (.int .i64 (10000000)))]⟩,
    ⟨.var 1, 2, none, .mov (.s 0)⟩])
 (.ret)), [.t 1]⟩
noncomputable def t_spec_l06Time : List (Nat × Ctr) := [(75, c_spec_l00In)]
theorem lk_spec_l06Time_75 : look t_spec_l06Time 75 = some c_spec_l00In := rfl
noncomputable def c_spec_l06Time : Ctr := mkF t_spec_l06Time ir55 [.bor]
theorem s_spec_l06Time : Sound Tryz.prog 55 c_spec_l06Time := mkF_sound _ rfl (snd_cons s_spec_l00In snd_nil) (by kernel_rfl : chkFn Tryz.prog 55 ir55 ir55_v = true)
theorem M_spec_l06Time : c_spec_l06Time.modes = [.bor] := rfl
theorem Fl_spec_l06Time : c_spec_l06Time.flat = true := rfl
attribute [go_sem] M_spec_l06Time Fl_spec_l06Time
attribute [go_sem] lk_spec_l06Time_75
theorem Fs_spec_l06Time {n : Int} {y_ : Bool} (h : spec_l06Time n = some y_) : c_spec_l06Time.F [.int .i64 n] = ⟨true, .bool y_, [.any]⟩ := by
  refine mkF_E rfl ?_
  dsimp only [spec_l06Time] at h
  obtain ⟨y_1, hk1, h⟩ := bd_some h
  have fhk1 := Fs_spec_l00In hk1
  try simp only [go_sem] at fhk1
  obtain rfl := so_some h
  refine ⟨0, fun L hL => ?_⟩
  simp only [go_sem, ir55, fhk1]


def ir39_v : List Nat := [0, 2]
def ir39 : AFn := ⟨1, 2, .seq (.region false [
    ⟨.var 1, 2, none, .mov (.c (.bool false))⟩])
 (.seq (.region false [
    ⟨.push, 3, none, .mov (.v 0)⟩,
    ⟨.push, 4, none, .nilck (.s 0)⟩,
    ⟨.push, 5, none, .fldAddr 0 (.s 0)⟩,
    ⟨.push, 6, none, .load false 1 (.s 0)⟩,
    ⟨.push, 7, none, .call 55 [(.s 0)]⟩,
    ⟨.push, 8, none, .mov (.s 0)⟩,
    ⟨.push, 9, (some ((.s 0), true)), .mov (.v 0)⟩,
    ⟨.push, 10, (some ((.s 1), true)), .nilck (.s 0)⟩,
    ⟨.push, 11, (some ((.s 2), true)), .fldAddr 1 (.s 0)⟩,
    ⟨.push, 12, (some ((.s 3), true)), .load false 1 (.s 0)⟩,
    ⟨.push, 13, (some ((.s 4), true)), .call 51 [(.s 0)]⟩,
    ⟨.push, 14, none, .pick (.s 5) (.s 0) (.c (.bool false))⟩,
    ⟨.push, 15, none, .mov (.s 0)⟩,
    ⟨.push, 16, (some ((.s 0), true)), .mov (.v 0)⟩,
    ⟨.push, 17, (some ((.s 1), true)), .nilck (.s 0)⟩,
    ⟨.push, 18, (some ((.s 2), true)), .fldAddr 2 (.s 0)⟩,
    ⟨.push, 19, (some ((.s 3), true)), .load false 1 (.s 0)⟩,
    ⟨.push, 20, (some ((.s 4), true)), .call 51 [(.s 0)]⟩,
    ⟨.push, 21, none, .pick (.s 5) (.s 0) (.c (.bool false))⟩,
    ⟨.push, 22, none, .mov (.s 0)⟩,
    ⟨.push, 23, (some ((.s 0), true)), .mov (.v 0)⟩,
    ⟨.push, 24, (some ((.s 1), true)), .nilck (.s 0)⟩,
    ⟨.push, 25, (some ((.s 2), true)), .fldAddr 3 (.s 0)⟩,
    ⟨.push, 26, (some ((.s 3), true)), .load false 1 (.s 0)⟩,
    ⟨.push, 27, (some ((.s 4), true)), .call 54 [(.s 0)]⟩,
    ⟨.push, 28, none, .pick (.s 5) (.s 0) (.c (.bool false))⟩,
    ⟨.var 1, 2, none, .mov (.s 0)⟩])
 (.ret)), [.t 1]⟩
noncomputable def t_spec_l06One : List (Nat × Ctr) := [(55, c_spec_l06Time), (51, c_spec_IsName), (54, c_spec_l02Mag)]
theorem lk_spec_l06One_55 : look t_spec_l06One 55 = some c_spec_l06Time := rfl
theorem lk_spec_l06One_51 : look t_spec_l06One 51 = some c_spec_IsName := rfl
theorem lk_spec_l06One_54 : look t_spec_l06One 54 = some c_spec_l02Mag := rfl
noncomputable def c_spec_l06One : Ctr := mkF t_spec_l06One ir39 [.bor]
theorem s_spec_l06One : Sound Tryz.prog 39 c_spec_l06One := mkF_sound _ rfl (snd_cons s_spec_l06Time (snd_cons s_spec_IsName (snd_cons s_spec_l02Mag snd_nil))) (by kernel_rfl : chkFn Tryz.prog 39 ir39 ir39_v = true)
theorem M_spec_l06One : c_spec_l06One.modes = [.bor] := rfl
theorem Fl_spec_l06One : c_spec_l06One.flat = true := rfl
attribute [go_sem] M_spec_l06One Fl_spec_l06One
attribute [go_sem] lk_spec_l06One_55 lk_spec_l06One_51 lk_spec_l06One_54
theorem Fs_spec_l06One {e_ : Estimate} {y_ : Bool} (h : spec_l06One e_ = some y_) : c_spec_l06One.F [.ptr 5 [Estimate_av e_] 0 0] = ⟨true, .bool y_, [.any]⟩ := by
  refine mkF_E rfl ?_
  dsimp only [spec_l06One] at h
  obtain ⟨y_1, hk1, h⟩ := bd_some h
  have fhk1 := Fs_spec_l06Time hk1
  try simp only [go_sem] at fhk1
  obtain ⟨hk2, h⟩ := ck_some h
  rcases or_split hk2 with ⟨ghk2, hk2⟩ | ghk2
  · try simp only [go_sem, n1, n2, n3, n4] at ghk2
    all_goals
    obtain ⟨y_2, hhk2⟩ := Option.isSome_iff_exists.1 hk2
    have fhk2 := Fs_spec_IsName hhk2
    try simp only [go_sem, ghk2] at fhk2
    obtain ⟨hk3, h⟩ := ck_some h
    rcases or_split hk3 with ⟨ghk3, hk3⟩ | ghk3
    · try simp only [go_sem, n1, n2, n3, n4, ghk2, hhk2] at ghk3
      all_goals
      obtain ⟨y_3, hhk3⟩ := Option.isSome_iff_exists.1 hk3
      have fhk3 := Fs_spec_IsName hhk3
      try simp only [go_sem, ghk2, hhk2, ghk3] at fhk3
      obtain ⟨hk4, h⟩ := ck_some h
      rcases or_split hk4 with ⟨ghk4, hk4⟩ | ghk4
      · try simp only [go_sem, n1, n2, n3, n4, ghk2, hhk2, ghk3, hhk3] at ghk4
        all_goals
        obtain ⟨y_4, hhk4⟩ := Option.isSome_iff_exists.1 hk4
        have fhk4 := Fs_spec_l02Mag hhk4
        try simp only [go_sem, ghk2, hhk2, ghk3, hhk3, ghk4] at fhk4
        obtain rfl := so_some h
        refine ⟨0, fun L hL => ?_⟩
        simp only [go_sem, ir39, fhk1, ghk2, hhk2, fhk2, ghk3, hhk3, fhk3, ghk4, hhk4, fhk4]
      · rcases and_f ghk4 with ghk4a | ⟨ghk4a, ghk4b⟩
        · rcases and_f ghk4a with ghk4aa | ⟨ghk4aa, ghk4ab⟩
          · try simp only [go_sem, n1, n2, n3, n4, ghk2, hhk2, ghk3, hhk3] at ghk4aa
            all_goals
            obtain rfl := so_some h
            refine ⟨0, fun L hL => ?_⟩
            simp only [go_sem, ir39, fhk1, ghk2, hhk2, fhk2, ghk3, hhk3, fhk3, ghk4aa]
          · try simp only [go_sem, n1, n2, n3, n4, ghk2, hhk2, ghk3, hhk3] at ghk4aa
            all_goals
            try simp only [go_sem, n1, n2, n3, n4, ghk2, hhk2, ghk3, hhk3, ghk4aa] at ghk4ab
            all_goals
            obtain rfl := so_some h
            refine ⟨0, fun L hL => ?_⟩
            simp only [go_sem, ir39, fhk1, ghk2, hhk2, fhk2, ghk3, hhk3, fhk3, ghk4aa, ghk4ab]
        · obtain ⟨ghk4aa, ghk4ab⟩ := and_t ghk4a
          try simp only [go_sem, n1, n2, n3, n4, ghk2, hhk2, ghk3, hhk3] at ghk4aa
          all_goals
          try simp only [go_sem, n1, n2, n3, n4, ghk2, hhk2, ghk3, hhk3, ghk4aa] at ghk4ab
          all_goals
          try simp only [go_sem, n1, n2, n3, n4, ghk2, hhk2, ghk3, hhk3, ghk4aa, ghk4ab] at ghk4b
          all_goals
          obtain rfl := so_some h
          refine ⟨0, fun L hL => ?_⟩
          simp only [go_sem, ir39, fhk1, ghk2, hhk2, fhk2, ghk3, hhk3, fhk3, ghk4aa, ghk4ab, ghk4b]
    · rcases and_f ghk3 with ghk3a | ⟨ghk3a, ghk3b⟩
      · try simp only [go_sem, n1, n2, n3, n4, ghk2, hhk2] at ghk3a
        all_goals
        obtain ⟨hk4, h⟩ := ck_some h
        rcases or_split hk4 with ⟨ghk4, hk4⟩ | ghk4
        · try simp only [go_sem, n1, n2, n3, n4, ghk2, hhk2, ghk3a] at ghk4
          all_goals
          obtain ⟨y_4, hhk4⟩ := Option.isSome_iff_exists.1 hk4
          have fhk4 := Fs_spec_l02Mag hhk4
          try simp only [go_sem, ghk2, hhk2, ghk3a, ghk4] at fhk4
          obtain rfl := so_some h
          refine ⟨0, fun L hL => ?_⟩
          simp only [go_sem, ir39, fhk1, ghk2, hhk2, fhk2, ghk3a, ghk4, hhk4, fhk4]
        · rcases and_f ghk4 with ghk4a | ⟨ghk4a, ghk4b⟩
          · rcases and_f ghk4a with ghk4aa | ⟨ghk4aa, ghk4ab⟩
            · try simp only [go_sem, n1, n2, n3, n4, ghk2, hhk2, ghk3a] at ghk4aa
              all_goals
              obtain rfl := so_some h
              refine ⟨0, fun L hL => ?_⟩
              simp only [go_sem, ir39, fhk1, ghk2, hhk2, fhk2, ghk3a, ghk4aa]
            · try simp only [go_sem, n1, n2, n3, n4, ghk2, hhk2, ghk3a] at ghk4aa
              all_goals
              try simp only [go_sem, n1, n2, n3, n4, ghk2, hhk2, ghk3a, ghk4aa] at ghk4ab
              all_goals
              obtain rfl := so_some h
              refine ⟨0, fun L hL => ?_⟩
              simp only [go_sem, ir39, fhk1, ghk2, hhk2, fhk2, ghk3a, ghk4aa, ghk4ab]
          · obtain ⟨ghk4aa, ghk4ab⟩ := and_t ghk4a
            try simp only [go_sem, n1, n2, n3, n4, ghk2, hhk2, ghk3a] at ghk4aa
            all_goals
            try simp only [go_sem, n1, n2, n3, n4, ghk2, hhk2, ghk3a, ghk4aa] at ghk4ab
            all_goals
            try simp only [go_sem, n1, n2, n3, n4, ghk2, hhk2, ghk3a, ghk4aa, ghk4ab] at ghk4b
            all_goals
            obtain rfl := so_some h
            refine ⟨0, fun L hL => ?_⟩
            simp only [go_sem, ir39, fhk1, ghk2, hhk2, fhk2, ghk3a, ghk4aa, ghk4ab, ghk4b]
      · try simp only [go_sem, n1, n2, n3, n4, ghk2, hhk2] at ghk3a
        all_goals
        try simp only [go_sem, n1, n2, n3, n4, ghk2, hhk2, ghk3a] at ghk3b
        all_goals
        obtain ⟨hk4, h⟩ := ck_some h
        rcases or_split hk4 with ⟨ghk4, hk4⟩ | ghk4
        · try simp only [go_sem, n1, n2, n3, n4, ghk2, hhk2, ghk3a, ghk3b] at ghk4
          all_goals
          obtain ⟨y_4, hhk4⟩ := Option.isSome_iff_exists.1 hk4
          have fhk4 := Fs_spec_l02Mag hhk4
          try simp only [go_sem, ghk2, hhk2, ghk3a, ghk3b, ghk4] at fhk4
          obtain rfl := so_some h
          refine ⟨0, fun L hL => ?_⟩
          simp only [go_sem, ir39, fhk1, ghk2, hhk2, fhk2, ghk3a, ghk3b, ghk4, hhk4, fhk4]
        · rcases and_f ghk4 with ghk4a | ⟨ghk4a, ghk4b⟩
          · rcases and_f ghk4a with ghk4aa | ⟨ghk4aa, ghk4ab⟩
            · try simp only [go_sem, n1, n2, n3, n4, ghk2, hhk2, ghk3a, ghk3b] at ghk4aa
              all_goals
              obtain rfl := so_some h
              refine ⟨0, fun L hL => ?_⟩
              simp only [go_sem, ir39, fhk1, ghk2, hhk2, fhk2, ghk3a, ghk3b, ghk4aa]
            · try simp only [go_sem, n1, n2, n3, n4, ghk2, hhk2, ghk3a, ghk3b] at ghk4aa
              all_goals
              try simp only [go_sem, n1, n2, n3, n4, ghk2, hhk2, ghk3a, ghk3b, ghk4aa] at ghk4ab
              all_goals
              obtain rfl := so_some h
              refine ⟨0, fun L hL => ?_⟩
              simp only [go_sem, ir39, fhk1, ghk2, hhk2, fhk2, ghk3a, ghk3b, ghk4aa, ghk4ab]
          · obtain ⟨ghk4aa, ghk4ab⟩ := and_t ghk4a
            try simp only [go_sem, n1, n2, n3, n4, ghk2, hhk2, ghk3a, ghk3b] at ghk4aa
            all_goals
            try simp only [go_sem, n1, n2, n3, n4, ghk2, hhk2, ghk3a, ghk3b, ghk4aa] at ghk4ab
            all_goals
            try simp only [go_sem, n1, n2, n3, n4, ghk2, hhk2, ghk3a, ghk3b, ghk4aa, ghk4ab] at ghk4b
            all_goals
            obtain rfl := so_some h
            refine ⟨0, fun L hL => ?_⟩
            simp only [go_sem, ir39, fhk1, ghk2, hhk2, fhk2, ghk3a, ghk3b, ghk4aa, ghk4ab, ghk4b]
  · try simp only [go_sem, n1, n2, n3, n4] at ghk2
    all_goals
    obtain ⟨hk3, h⟩ := ck_some h
    rcases or_split hk3 with ⟨ghk3, hk3⟩ | ghk3
    · try simp only [go_sem, n1, n2, n3, n4, ghk2] at ghk3
      all_goals
      obtain ⟨y_3, hhk3⟩ := Option.isSome_iff_exists.1 hk3
      have fhk3 := Fs_spec_IsName hhk3
      try simp only [go_sem, ghk2, ghk3] at fhk3
      obtain ⟨hk4, h⟩ := ck_some h
      rcases or_split hk4 with ⟨ghk4, hk4⟩ | ghk4
      · try simp only [go_sem, n1, n2, n3, n4, ghk2, ghk3, hhk3] at ghk4
        all_goals
        obtain ⟨y_4, hhk4⟩ := Option.isSome_iff_exists.1 hk4
        have fhk4 := Fs_spec_l02Mag hhk4
        try simp only [go_sem, ghk2, ghk3, hhk3, ghk4] at fhk4
        obtain rfl := so_some h
        refine ⟨0, fun L hL => ?_⟩
        simp only [go_sem, ir39, fhk1, ghk2, ghk3, hhk3, fhk3, ghk4, hhk4, fhk4]
      · rcases and_f ghk4 with ghk4a | ⟨ghk4a, ghk4b⟩
        · rcases and_f ghk4a with ghk4aa | ⟨ghk4aa, ghk4ab⟩
          · try simp only [go_sem, n1, n2, n3, n4, ghk2, ghk3, hhk3] at ghk4aa
            all_goals
            obtain rfl := so_some h
            refine ⟨0, fun L hL => ?_⟩
            simp only [go_sem, ir39, fhk1, ghk2, ghk3, hhk3, fhk3, ghk4aa]
          · try simp only [go_sem, n1, n2, n3, n4, ghk2, ghk3, hhk3] at ghk4aa
            all_goals
            try simp only [go_sem, n1, n2, n3, n4, ghk2, ghk3, hhk3, ghk4aa] at ghk4ab
            all_goals
            obtain rfl := so_some h
            refine ⟨0, fun L hL => ?_⟩
            simp only [go_sem, ir39, fhk1, ghk2, ghk3, hhk3, fhk3, ghk4aa, ghk4ab]
        · obtain ⟨ghk4aa, ghk4ab⟩ := and_t ghk4a
          try simp only [go_sem, n1, n2, n3, n4, ghk2, ghk3, hhk3] at ghk4aa
          all_goals
          try simp only [go_sem, n1, n2, n3, n4, ghk2, ghk3, hhk3, ghk4aa] at ghk4ab
          all_goals
          try simp only [go_sem, n1, n2, n3, n4, ghk2, ghk3, hhk3, ghk4aa, ghk4ab] at ghk4b
          all_goals
          obtain rfl := so_some h
          refine ⟨0, fun L hL => ?_⟩
          simp only [go_sem, ir39, fhk1, ghk2, ghk3, hhk3, fhk3, ghk4aa, ghk4ab, ghk4b]
    · rcases and_f ghk3 with ghk3a | ⟨ghk3a, ghk3b⟩
      · try simp only [go_sem, n1, n2, n3, n4, ghk2] at ghk3a
        all_goals
        obtain ⟨hk4, h⟩ := ck_some h
        rcases or_split hk4 with ⟨ghk4, hk4⟩ | ghk4
        · try simp only [go_sem, n1, n2, n3, n4, ghk2, ghk3a] at ghk4
          all_goals
          obtain ⟨y_4, hhk4⟩ := Option.isSome_iff_exists.1 hk4
          have fhk4 := Fs_spec_l02Mag hhk4
          try simp only [go_sem, ghk2, ghk3a, ghk4] at fhk4
          obtain rfl := so_some h
          refine ⟨0, fun L hL => ?_⟩
          simp only [go_sem, ir39, fhk1, ghk2, ghk3a, ghk4, hhk4, fhk4]
        · rcases and_f ghk4 with ghk4a | ⟨ghk4a, ghk4b⟩
          · rcases and_f ghk4a with ghk4aa | ⟨ghk4aa, ghk4ab⟩
            · try simp only [go_sem, n1, n2, n3, n4, ghk2, ghk3a] at ghk4aa
              all_goals
              obtain rfl := so_some h
              refine ⟨0, fun L hL => ?_⟩
              simp only [go_sem, ir39, fhk1, ghk2, ghk3a, ghk4aa]
            · try simp only [go_sem, n1, n2, n3, n4, ghk2, ghk3a] at ghk4aa
              all_goals
              try simp only [go_sem, n1, n2, n3, n4, ghk2, ghk3a, ghk4aa] at ghk4ab
              all_goals
              obtain rfl := so_some h
              refine ⟨0, fun L hL => ?_⟩
              simp only [go_sem, ir39, fhk1, ghk2, ghk3a, ghk4aa, ghk4ab]
          · obtain ⟨ghk4aa, ghk4ab⟩ := and_t ghk4a
            try simp only [go_sem, n1, n2, n3, n4, ghk2, ghk3a] at ghk4aa
            all_goals
            try simp only [go_sem, n1, n2, n3, n4, ghk2, ghk3a, ghk4aa] at ghk4ab
            all_goals
            try simp only [go_sem, n1, n2, n3, n4, ghk2, ghk3a, ghk4aa, ghk4ab] at ghk4b
            all_goals
            obtain rfl := so_some h
            refine ⟨0, fun L hL => ?_⟩
            simp only [go_sem, ir39, fhk1, ghk2, ghk3a, ghk4aa, ghk4ab, ghk4b]
      · try simp only [go_sem, n1, n2, n3, n4, ghk2] at ghk3a
        all_goals
        try simp only [go_sem, n1, n2, n3, n4, ghk2, ghk3a] at ghk3b
        all_goals
        obtain ⟨hk4, h⟩ := ck_some h
        rcases or_split hk4 with ⟨ghk4, hk4⟩ | ghk4
        · try simp only [go_sem, n1, n2, n3, n4, ghk2, ghk3a, ghk3b] at ghk4
          all_goals
          obtain ⟨y_4, hhk4⟩ := Option.isSome_iff_exists.1 hk4
          have fhk4 := Fs_spec_l02Mag hhk4
          try simp only [go_sem, ghk2, ghk3a, ghk3b, ghk4] at fhk4
          obtain rfl := so_some h
          refine ⟨0, fun L hL => ?_⟩
          simp only [go_sem, ir39, fhk1, ghk2, ghk3a, ghk3b, ghk4, hhk4, fhk4]
        · rcases and_f ghk4 with ghk4a | ⟨ghk4a, ghk4b⟩
          · rcases and_f ghk4a with ghk4aa | ⟨ghk4aa, ghk4ab⟩
            · try simp only [go_sem, n1, n2, n3, n4, ghk2, ghk3a, ghk3b] at ghk4aa
              all_goals
              obtain rfl := so_some h
              refine ⟨0, fun L hL => ?_⟩
              simp only [go_sem, ir39, fhk1, ghk2, ghk3a, ghk3b, ghk4aa]
            · try simp only [go_sem, n1, n2, n3, n4, ghk2, ghk3a, ghk3b] at ghk4aa
              all_goals
              try simp only [go_sem, n1, n2, n3, n4, ghk2, ghk3a, ghk3b, ghk4aa] at ghk4ab
              all_goals
              obtain rfl := so_some h
              refine ⟨0, fun L hL => ?_⟩
              simp only [go_sem, ir39, fhk1, ghk2, ghk3a, ghk3b, ghk4aa, ghk4ab]
          · obtain ⟨ghk4aa, ghk4ab⟩ := and_t ghk4a
            try simp only [go_sem, n1, n2, n3, n4, ghk2, ghk3a, ghk3b] at ghk4aa
            all_goals
            try simp only [go_sem, n1, n2, n3, n4, ghk2, ghk3a, ghk3b, ghk4aa] at ghk4ab
            all_goals
            try simp only [go_sem, n1, n2, n3, n4, ghk2, ghk3a, ghk3b, ghk4aa, ghk4ab] at ghk4b
            all_goals
            obtain rfl := so_some h
            refine ⟨0, fun L hL => ?_⟩
            simp only [go_sem, ir39, fhk1, ghk2, ghk3a, ghk3b, ghk4aa, ghk4ab, ghk4b]


def ir40_v : List Nat := [0, 1, 4]
def ir40 : AFn := ⟨2, 3, .seq (.region false [
    ⟨.var 2, 4, none, .mov (.c (.bool false))⟩])
 (.seq (.anyo 9 [
    ⟨.slot 0, 5, none, .mov (.v 0)⟩,
    ⟨.slot 1, 6, none, .nilck (.s 0)⟩,
    ⟨.slot 2, 7, none, .fldAddr 0 (.s 1)⟩,
    ⟨.slot 3, 8, none, .load false 1 (.s 2)⟩,
    ⟨.slot 4, 9, none, .mov (.v 1)⟩,
    ⟨.slot 5, 10, none, .nilck (.s 4)⟩,
    ⟨.slot 6, 11, none, .fldAddr 0 (.s 5)⟩,
    ⟨.slot 7, 12, none, .load false 1 (.s 6)⟩,
    ⟨.slot 8, 13, none, .bin false .neq (.s 3) (.s 7)⟩] [] (.cond (.s 8)
  (.seq (.anyo 9 [
      ⟨.slot 0, 14, none, .mov (.v 0)⟩,
      ⟨.slot 1, 15, none, .nilck (.s 0)⟩,
      ⟨.slot 2, 16, none, .fldAddr 0 (.s 1)⟩,
      ⟨.slot 3, 17, none, .load false 1 (.s 2)⟩,
      ⟨.slot 4, 18, none, .mov (.v 1)⟩,
      ⟨.slot 5, 19, none, .nilck (.s 4)⟩,
      ⟨.slot 6, 20, none, .fldAddr 0 (.s 5)⟩,
      ⟨.slot 7, 21, none, .load false 1 (.s 6)⟩,
      ⟨.slot 8, 22, none, .bin false .lss (.s 3) (.s 7)⟩,
      ⟨.var 2, 4, none, .mov (.s 8)⟩] [] .skip)
   (.ret))
  (.skip)))
 (.seq (.anyo 9 [
    ⟨.slot 0, 23, none, .mov (.v 0)⟩,
    ⟨.slot 1, 24, none, .nilck (.s 0)⟩,
    ⟨.slot 2, 25, none, .fldAddr 1 (.s 1)⟩,
    ⟨.slot 3, 26, none, .load false 1 (.s 2)⟩,
    ⟨.slot 4, 27, none, .mov (.v 1)⟩,
    ⟨.slot 5, 28, none, .nilck (.s 4)⟩,
    ⟨.slot 6, 29, none, .fldAddr 1 (.s 5)⟩,
    ⟨.slot 7, 30, none, .load false 1 (.s 6)⟩,
    ⟨.slot 8, 31, none, .bin false .neq (.s 3) (.s 7)⟩] [] (.cond (.s 8)
  (.seq (.anyo 9 [
      ⟨.slot 0, 32, none, .mov (.v 0)⟩,
      ⟨.slot 1, 33, none, .nilck (.s 0)⟩,
      ⟨.slot 2, 34, none, .fldAddr 1 (.s 1)⟩,
      ⟨.slot 3, 35, none, .load false 1 (.s 2)⟩,
      ⟨.slot 4, 36, none, .mov (.v 1)⟩,
      ⟨.slot 5, 37, none, .nilck (.s 4)⟩,
      ⟨.slot 6, 38, none, .fldAddr 1 (.s 5)⟩,
      ⟨.slot 7, 39, none, .load false 1 (.s 6)⟩,
      ⟨.slot 8, 40, none, .bin false .lss (.s 3) (.s 7)⟩,
      ⟨.var 2, 4, none, .mov (.s 8)⟩] [] .skip)
   (.ret))
  (.skip)))
 (.seq (.anyo 9 [
    ⟨.slot 0, 41, none, .mov (.v 0)⟩,
    ⟨.slot 1, 42, none, .nilck (.s 0)⟩,
    ⟨.slot 2, 43, none, .fldAddr 2 (.s 1)⟩,
    ⟨.slot 3, 44, none, .load false 1 (.s 2)⟩,
    ⟨.slot 4, 45, none, .mov (.v 1)⟩,
    ⟨.slot 5, 46, none, .nilck (.s 4)⟩,
    ⟨.slot 6, 47, none, .fldAddr 2 (.s 5)⟩,
    ⟨.slot 7, 48, none, .load false 1 (.s 6)⟩,
    ⟨.slot 8, 49, none, .bin false .lss (.s 3) (.s 7)⟩,
    ⟨.var 2, 4, none, .mov (.s 8)⟩] [] .skip)
 (.ret)))), [.t 2]⟩
noncomputable def t_spec_l06Before : List (Nat × Ctr) := []
noncomputable def c_spec_l06Before : Ctr := mkF t_spec_l06Before ir40 [.bor, .bor]
theorem s_spec_l06Before : Sound Tryz.prog 40 c_spec_l06Before := mkF_sound _ rfl snd_nil (by kernel_rfl : chkFn Tryz.prog 40 ir40 ir40_v = true)
theorem M_spec_l06Before : c_spec_l06Before.modes = [.bor, .bor] := rfl
theorem Fl_spec_l06Before : c_spec_l06Before.flat = true := rfl
attribute [go_sem] M_spec_l06Before Fl_spec_l06Before
theorem Fs_spec_l06Before {a : Estimate} {b : Estimate} {y_ : Bool} (h : spec_l06Before a b = some y_) : c_spec_l06Before.F [.ptr 5 [Estimate_av a] 0 0, .ptr 5 [Estimate_av b] 0 0] = ⟨true, .bool y_, [.any, .any]⟩ := by
  refine mkF_E rfl ?_
  dsimp only [spec_l06Before] at h
  rcases it_some h with ⟨hk1, h⟩ | ⟨hk1, h⟩
  · try simp only [go_sem, n1, n2, n3, n4] at hk1
    all_goals
    obtain rfl := so_some h
    refine ⟨0, fun L hL => ?_⟩
    simp only [go_sem, ir40, hk1]
  · try simp only [go_sem, n1, n2, n3, n4] at hk1
    all_goals
    rcases it_some h with ⟨hk2, h⟩ | ⟨hk2, h⟩
    · try simp only [go_sem, n1, n2, n3, n4, hk1] at hk2
      all_goals
      obtain rfl := so_some h
      refine ⟨0, fun L hL => ?_⟩
      simp only [go_sem, ir40, hk1, hk2]
    · try simp only [go_sem, n1, n2, n3, n4, hk1] at hk2
      all_goals
      obtain rfl := so_some h
      refine ⟨0, fun L hL => ?_⟩
      simp only [go_sem, ir40, hk1, hk2]


def ir23_b0 : IR := .seq (.test false [
    ⟨.push, 4, none, .mov (.v 2)⟩,
    ⟨.push, 5, none, .mov (.v 0)⟩,
    ⟨.push, 6, none, .len false (.s 0)⟩,
    ⟨.push, 7, none, .bin false .lss (.s 2) (.s 0)⟩] (.s 0)
  (.skip)
  (.exit 0))
 (.seq (.block 1 (.anyo 20 [
     ⟨.slot 0, 10, none, .mov (.v 0)⟩,
     ⟨.slot 1, 11, none, .mov (.v 2)⟩,
     ⟨.slot 2, 12, none, .ixAddr 5 (.s 0) (.s 1)⟩,
     ⟨.slot 3, 13, none, .callp 39 [(.s 2)]⟩,
     ⟨.slot 4, 14, none, .un .not (.s 3)⟩,
     ⟨.slot 5, 15, none, .mov (.s 4)⟩,
     ⟨.slot 6, 16, (some ((.s 5), false)), .mov (.v 2)⟩,
     ⟨.slot 7, 17, (some ((.s 5), false)), .bin false .gtr (.s 6) (.c (.int .i64 (0)))⟩,
     ⟨.slot 8, 18, (some ((.s 5), false)), .mov (.s 7)⟩,
     ⟨.slot 9, 19, (some ((.s 8), true)), .mov (.v 0)⟩,
     ⟨.slot 10, 20, (some ((.s 8), true)), .mov (.v 2)⟩,
     ⟨.slot 11, 21, (some ((.s 8), true)), .bin false .sub (.s 10) (.c (.int .i64 (1)))⟩,
     ⟨.slot 12, 22, (some ((.s 8), true)), .ixAddr 5 (.s 9) (.s 11)⟩,
     ⟨.slot 13, 23, (some ((.s 8), true)), .mov (.v 0)⟩,
     ⟨.slot 14, 24, (some ((.s 8), true)), .mov (.v 2)⟩,
     ⟨.slot 15, 25, (some ((.s 8), true)), .ixAddr 5 (.s 13) (.s 14)⟩,
     ⟨.slot 16, 26, (some ((.s 8), true)), .call 40 [(.s 12), (.s 15)]⟩,
     ⟨.slot 17, 27, (some ((.s 8), true)), .un .not (.s 16)⟩,
     ⟨.slot 18, 28, (some ((.s 5), false)), .pick (.s 8) (.s 17) (.c (.bool false))⟩,
     ⟨.slot 19, 29, none, .pick (.s 5) (.c (.bool true)) (.s 18)⟩] [] (.cond (.s 19)
   (.seq (.region false [
       ⟨.var 1, 2, none, .mov (.c (.bool false))⟩])
    (.ret))
   (.skip))))
 (.region false [
   ⟨.push, 8, none, .mov (.v 2)⟩,
   ⟨.push, 9, none, .bin false .add (.s 0) (.c (.int .i64 (1)))⟩,
   ⟨.var 2, 3, none, .mov (.s 0)⟩]))
def ir23_k0 : List Bool := [true, false, true]
def ir23_o0 : List Bool := [true, false, false]
def ir23_r0 : List Bool := [false, true, false]
def ir23_v : List Nat := [0, 2, 3]
def ir23 : AFn := ⟨1, 3, .seq (.region false [
    ⟨.var 1, 2, none, .mov (.c (.bool false))⟩])
 (.seq (.seq (.region false [
     ⟨.var 2, 3, none, .mov (.c (.int .i64 (0)))⟩])
  (.block 0 (.loop ir23_k0 ir23_o0 ir23_r0 ir23_b0)))
 (.seq (.region false [
    ⟨.push, 30, none, .mov (.v 0)⟩,
    ⟨.push, 31, none, .len false (.s 0)⟩,
    ⟨.push, 32, none, .bin false .leq (.s 0) (.c (.int .i64 (100)))⟩,
    ⟨.var 1, 2, none, .mov (.s 0)⟩])
 (.ret))), [.t 1]⟩
noncomputable def t_spec_l06Ok : List (Nat × Ctr) := [(39, c_spec_l06One), (40, c_spec_l06Before)]
theorem lk_spec_l06Ok_39 : look t_spec_l06Ok 39 = some c_spec_l06One := rfl
theorem lk_spec_l06Ok_40 : look t_spec_l06Ok 40 = some c_spec_l06Before := rfl
noncomputable def c_spec_l06Ok : Ctr := mkF t_spec_l06Ok ir23 [.bor]
theorem s_spec_l06Ok : Sound Tryz.prog 23 c_spec_l06Ok := mkF_sound _ rfl (snd_cons s_spec_l06One (snd_cons s_spec_l06Before snd_nil)) (by kernel_rfl : chkFn Tryz.prog 23 ir23 ir23_v = true)
theorem M_spec_l06Ok : c_spec_l06Ok.modes = [.bor] := rfl
theorem Fl_spec_l06Ok : c_spec_l06Ok.flat = true := rfl
attribute [go_sem] M_spec_l06Ok Fl_spec_l06Ok
attribute [go_sem] lk_spec_l06Ok_39 lk_spec_l06Ok_40
def E_spec_l06Ok_l1 (list : List Estimate) : Int → St
  | i => ⟨[.sl 5 (List.map Estimate_av list), .any, .int .i64 i], [], [], true⟩
def R_spec_l06Ok_l1 (list : List Estimate) : (Unit ⊕ Bool) → Res
  | .inl y => (.exit 0, ⟨[.sl 5 (List.map Estimate_av list), .any, .any], [], [], true⟩)
  | .inr y => (.ret, ⟨[.any, .bool y, .any], [], [], true⟩)
theorem spec_l06Ok_l1_ex {list : List Estimate} {sgm_ : Int} {rho_ : Unit ⊕ Bool} (h : whileE (spec_l06Ok_l1 list) sgm_ = some rho_) : ∃ L0, ∀ L, L0 ≤ L → iter (exec (look t_spec_l06Ok) L ir23_b0) ir23_k0 ir23_o0 ir23_r0 L (E_spec_l06Ok_l1 list sgm_) = R_spec_l06Ok_l1 list rho_ := by
  refine loop_ex (E := E_spec_l06Ok_l1 list) (R := R_spec_l06Ok_l1 list) (fun y => by first | (intro c; cases c) | (rcases y with y | y <;> (intro c; cases c)) | (rcases y with y | y | y <;> (intro c; cases c))) ?_ h
  clear h
  intro i o_ h
  dsimp only [spec_l06Ok_l1] at h
  rcases it_some h with ⟨hk1, h⟩ | ⟨hk1, h⟩
  · try simp only [go_sem, n1, n2, n3, n4] at hk1
    all_goals
    obtain ⟨hk2, h⟩ := ck_some h
    have lhk2 := ix_lt hk2
    have xhk2 := getD_mapD Estimate_av list lhk2
    try simp only [go_sem] at lhk2
    try simp only [go_sem] at xhk2
    try simp only [go_sem, n1, n2, n3, n4, hk1] at hk2
    all_goals
    obtain ⟨y_3, hk3, h⟩ := bd_some h
    have fhk3 := Fs_spec_l06One hk3
    try simp only [go_sem, hk1, hk2] at fhk3
    obtain ⟨hk4, h⟩ := ck_some h
    rcases or_split hk4 with ⟨ghk4, hk4⟩ | ghk4
    · try simp only [go_sem, n1, n2, n3, n4, hk1, hk2] at ghk4
      all_goals
      have lhk4 := ix_lt hk4
      have xhk4 := getD_mapD Estimate_av list lhk4
      try simp only [go_sem] at lhk4
      try simp only [go_sem] at xhk4
      try simp only [go_sem, n1, n2, n3, n4, hk1, hk2, ghk4] at hk4
      all_goals
      obtain ⟨hk5, h⟩ := ck_some h
      rcases or_split hk5 with ⟨ghk5, hk5⟩ | ghk5
      · try simp only [go_sem, n1, n2, n3, n4, hk1, hk2, ghk4, hk4] at ghk5
        all_goals
        obtain ⟨y_5, hhk5⟩ := Option.isSome_iff_exists.1 hk5
        have fhk5 := Fs_spec_l06Before hhk5
        try simp only [go_sem, hk1, hk2, ghk4, hk4, ghk5] at fhk5
        rcases it_some h with ⟨hk6, h⟩ | ⟨hk6, h⟩
        · try simp only [go_sem, n1, n2, n3, n4, hk1, hk2, ghk4, hk4, ghk5, hhk5] at hk6
          all_goals
          obtain rfl := so_some h
          refine ⟨0, fun L hL => ?_⟩
          simp only [go_sem, ir23, E_spec_l06Ok_l1, R_spec_l06Ok_l1, ir23_b0, ir23_k0, ir23_o0, ir23_r0, hk1, hk2, lhk2, xhk2, fhk3, ghk4, hk4, lhk4, xhk4, ghk5, hhk5, fhk5, hk6]
        · try simp only [go_sem, n1, n2, n3, n4, hk1, hk2, ghk4, hk4, ghk5, hhk5] at hk6
          all_goals
          obtain rfl := so_some h
          refine ⟨0, fun L hL => ?_⟩
          simp only [go_sem, ir23, E_spec_l06Ok_l1, R_spec_l06Ok_l1, ir23_b0, ir23_k0, ir23_o0, ir23_r0, hk1, hk2, lhk2, xhk2, fhk3, ghk4, hk4, lhk4, xhk4, ghk5, hhk5, fhk5, hk6]
      · rcases and_f ghk5 with ghk5a | ⟨ghk5a, ghk5b⟩
        · have ghk5an := no_f ghk5a
          have ghk5ann := no_t ghk5an
          try simp only [go_sem, n1, n2, n3, n4, hk1, hk2, ghk4, hk4] at ghk5ann
          all_goals
          rcases it_some h with ⟨hk6, h⟩ | ⟨hk6, h⟩
          · try simp only [go_sem, n1, n2, n3, n4, hk1, hk2, ghk4, hk4, ghk5ann] at hk6
            all_goals
            obtain rfl := so_some h
            refine ⟨0, fun L hL => ?_⟩
            simp only [go_sem, ir23, E_spec_l06Ok_l1, R_spec_l06Ok_l1, ir23_b0, ir23_k0, ir23_o0, ir23_r0, hk1, hk2, lhk2, xhk2, fhk3, ghk4, hk4, lhk4, xhk4, ghk5ann, hk6]
          · try simp only [go_sem, n1, n2, n3, n4, hk1, hk2, ghk4, hk4, ghk5ann] at hk6
            all_goals
            obtain rfl := so_some h
            refine ⟨0, fun L hL => ?_⟩
            simp only [go_sem, ir23, E_spec_l06Ok_l1, R_spec_l06Ok_l1, ir23_b0, ir23_k0, ir23_o0, ir23_r0, hk1, hk2, lhk2, xhk2, fhk3, ghk4, hk4, lhk4, xhk4, ghk5ann, hk6]
        · have ghk5an := no_t ghk5a
          have ghk5ann := no_f ghk5an
          try simp only [go_sem, n1, n2, n3, n4, hk1, hk2, ghk4, hk4] at ghk5ann
          all_goals
          try simp only [go_sem, n1, n2, n3, n4, hk1, hk2, ghk4, hk4, ghk5ann] at ghk5b
          all_goals
          rcases it_some h with ⟨hk6, h⟩ | ⟨hk6, h⟩
          · try simp only [go_sem, n1, n2, n3, n4, hk1, hk2, ghk4, hk4, ghk5ann, ghk5b] at hk6
            all_goals
            obtain rfl := so_some h
            refine ⟨0, fun L hL => ?_⟩
            simp only [go_sem, ir23, E_spec_l06Ok_l1, R_spec_l06Ok_l1, ir23_b0, ir23_k0, ir23_o0, ir23_r0, hk1, hk2, lhk2, xhk2, fhk3, ghk4, hk4, lhk4, xhk4, ghk5ann, ghk5b, hk6]
          · try simp only [go_sem, n1, n2, n3, n4, hk1, hk2, ghk4, hk4, ghk5ann, ghk5b] at hk6
            all_goals
            obtain rfl := so_some h
            refine ⟨0, fun L hL => ?_⟩
            simp only [go_sem, ir23, E_spec_l06Ok_l1, R_spec_l06Ok_l1, ir23_b0, ir23_k0, ir23_o0, ir23_r0, hk1, hk2, lhk2, xhk2, fhk3, ghk4, hk4, lhk4, xhk4, ghk5ann, ghk5b, hk6]
    · rcases and_f ghk4 with ghk4a | ⟨ghk4a, ghk4b⟩
      · have ghk4an := no_f ghk4a
        have ghk4ann := no_t ghk4an
        try simp only [go_sem, n1, n2, n3, n4, hk1, hk2] at ghk4ann
        all_goals
        obtain ⟨hk5, h⟩ := ck_some h
        rcases or_split hk5 with ⟨ghk5, hk5⟩ | ghk5
        · try simp only [go_sem, n1, n2, n3, n4, hk1, hk2, ghk4ann] at ghk5
          all_goals
          obtain ⟨y_5, hhk5⟩ := Option.isSome_iff_exists.1 hk5
          have fhk5 := Fs_spec_l06Before hhk5
          try simp only [go_sem, hk1, hk2, ghk4ann, ghk5] at fhk5
          rcases it_some h with ⟨hk6, h⟩ | ⟨hk6, h⟩
          · try simp only [go_sem, n1, n2, n3, n4, hk1, hk2, ghk4ann, ghk5, hhk5] at hk6
            all_goals
            obtain rfl := so_some h
            refine ⟨0, fun L hL => ?_⟩
            simp only [go_sem, ir23, E_spec_l06Ok_l1, R_spec_l06Ok_l1, ir23_b0, ir23_k0, ir23_o0, ir23_r0, hk1, hk2, lhk2, xhk2, fhk3, ghk4ann, ghk5, hhk5, fhk5, hk6]
          · try simp only [go_sem, n1, n2, n3, n4, hk1, hk2, ghk4ann, ghk5, hhk5] at hk6
            all_goals
            obtain rfl := so_some h
            refine ⟨0, fun L hL => ?_⟩
            simp only [go_sem, ir23, E_spec_l06Ok_l1, R_spec_l06Ok_l1, ir23_b0, ir23_k0, ir23_o0, ir23_r0, hk1, hk2, lhk2, xhk2, fhk3, ghk4ann, ghk5, hhk5, fhk5, hk6]
        · rcases and_f ghk5 with ghk5a | ⟨ghk5a, ghk5b⟩
          · have ghk5an := no_f ghk5a
            have ghk5ann := no_t ghk5an
            try simp only [go_sem, n1, n2, n3, n4, hk1, hk2, ghk4ann] at ghk5ann
            all_goals
            rcases it_some h with ⟨hk6, h⟩ | ⟨hk6, h⟩
            · try simp only [go_sem, n1, n2, n3, n4, hk1, hk2, ghk4ann, ghk5ann] at hk6
              all_goals
              obtain rfl := so_some h
              refine ⟨0, fun L hL => ?_⟩
              simp only [go_sem, ir23, E_spec_l06Ok_l1, R_spec_l06Ok_l1, ir23_b0, ir23_k0, ir23_o0, ir23_r0, hk1, hk2, lhk2, xhk2, fhk3, ghk4ann, ghk5ann, hk6]
            · try simp only [go_sem, n1, n2, n3, n4, hk1, hk2, ghk4ann, ghk5ann] at hk6
              all_goals
              obtain rfl := so_some h
              refine ⟨0, fun L hL => ?_⟩
              simp only [go_sem, ir23, E_spec_l06Ok_l1, R_spec_l06Ok_l1, ir23_b0, ir23_k0, ir23_o0, ir23_r0, hk1, hk2, lhk2, xhk2, fhk3, ghk4ann, ghk5ann, hk6]
          · have ghk5an := no_t ghk5a
            have ghk5ann := no_f ghk5an
            try simp only [go_sem, n1, n2, n3, n4, hk1, hk2, ghk4ann] at ghk5ann
            all_goals
            try simp only [go_sem, n1, n2, n3, n4, hk1, hk2, ghk4ann, ghk5ann] at ghk5b
            all_goals
            rcases it_some h with ⟨hk6, h⟩ | ⟨hk6, h⟩
            · try simp only [go_sem, n1, n2, n3, n4, hk1, hk2, ghk4ann, ghk5ann, ghk5b] at hk6
              all_goals
              obtain rfl := so_some h
              refine ⟨0, fun L hL => ?_⟩
              simp only [go_sem, ir23, E_spec_l06Ok_l1, R_spec_l06Ok_l1, ir23_b0, ir23_k0, ir23_o0, ir23_r0, hk1, hk2, lhk2, xhk2, fhk3, ghk4ann, ghk5ann, ghk5b, hk6]
            · try simp only [go_sem, n1, n2, n3, n4, hk1, hk2, ghk4ann, ghk5ann, ghk5b] at hk6
              all_goals
              obtain rfl := so_some h
              refine ⟨0, fun L hL => ?_⟩
              simp only [go_sem, ir23, E_spec_l06Ok_l1, R_spec_l06Ok_l1, ir23_b0, ir23_k0, ir23_o0, ir23_r0, hk1, hk2, lhk2, xhk2, fhk3, ghk4ann, ghk5ann, ghk5b, hk6]
      · have ghk4an := no_t ghk4a
        have ghk4ann := no_f ghk4an
        try simp only [go_sem, n1, n2, n3, n4, hk1, hk2] at ghk4ann
        all_goals
        try simp only [go_sem, n1, n2, n3, n4, hk1, hk2, ghk4ann] at ghk4b
        all_goals
        obtain ⟨hk5, h⟩ := ck_some h
        rcases or_split hk5 with ⟨ghk5, hk5⟩ | ghk5
        · try simp only [go_sem, n1, n2, n3, n4, hk1, hk2, ghk4ann, ghk4b] at ghk5
          all_goals
          obtain ⟨y_5, hhk5⟩ := Option.isSome_iff_exists.1 hk5
          have fhk5 := Fs_spec_l06Before hhk5
          try simp only [go_sem, hk1, hk2, ghk4ann, ghk4b, ghk5] at fhk5
          rcases it_some h with ⟨hk6, h⟩ | ⟨hk6, h⟩
          · try simp only [go_sem, n1, n2, n3, n4, hk1, hk2, ghk4ann, ghk4b, ghk5, hhk5] at hk6
            all_goals
            obtain rfl := so_some h
            refine ⟨0, fun L hL => ?_⟩
            simp only [go_sem, ir23, E_spec_l06Ok_l1, R_spec_l06Ok_l1, ir23_b0, ir23_k0, ir23_o0, ir23_r0, hk1, hk2, lhk2, xhk2, fhk3, ghk4ann, ghk4b, ghk5, hhk5, fhk5, hk6]
          · try simp only [go_sem, n1, n2, n3, n4, hk1, hk2, ghk4ann, ghk4b, ghk5, hhk5] at hk6
            all_goals
            obtain rfl := so_some h
            refine ⟨0, fun L hL => ?_⟩
            simp only [go_sem, ir23, E_spec_l06Ok_l1, R_spec_l06Ok_l1, ir23_b0, ir23_k0, ir23_o0, ir23_r0, hk1, hk2, lhk2, xhk2, fhk3, ghk4ann, ghk4b, ghk5, hhk5, fhk5, hk6]
        · rcases and_f ghk5 with ghk5a | ⟨ghk5a, ghk5b⟩
          · have ghk5an := no_f ghk5a
            have ghk5ann := no_t ghk5an
            try simp only [go_sem, n1, n2, n3, n4, hk1, hk2, ghk4ann, ghk4b] at ghk5ann
            all_goals
            rcases it_some h with ⟨hk6, h⟩ | ⟨hk6, h⟩
            · try simp only [go_sem, n1, n2, n3, n4, hk1, hk2, ghk4ann, ghk4b, ghk5ann] at hk6
              all_goals
              obtain rfl := so_some h
              refine ⟨0, fun L hL => ?_⟩
              simp only [go_sem, ir23, E_spec_l06Ok_l1, R_spec_l06Ok_l1, ir23_b0, ir23_k0, ir23_o0, ir23_r0, hk1, hk2, lhk2, xhk2, fhk3, ghk4ann, ghk4b, ghk5ann, hk6]
            · try simp only [go_sem, n1, n2, n3, n4, hk1, hk2, ghk4ann, ghk4b, ghk5ann] at hk6
              all_goals
              obtain rfl := so_some h
              refine ⟨0, fun L hL => ?_⟩
              simp only [go_sem, ir23, E_spec_l06Ok_l1, R_spec_l06Ok_l1, ir23_b0, ir23_k0, ir23_o0, ir23_r0, hk1, hk2, lhk2, xhk2, fhk3, ghk4ann, ghk4b, ghk5ann, hk6]
          · have ghk5an := no_t ghk5a
            have ghk5ann := no_f ghk5an
            try simp only [go_sem, n1, n2, n3, n4, hk1, hk2, ghk4ann, ghk4b] at ghk5ann
            all_goals
            try simp only [go_sem, n1, n2, n3, n4, hk1, hk2, ghk4ann, ghk4b, ghk5ann] at ghk5b
            all_goals
            rcases it_some h with ⟨hk6, h⟩ | ⟨hk6, h⟩
            · try simp only [go_sem, n1, n2, n3, n4, hk1, hk2, ghk4ann, ghk4b, ghk5ann, ghk5b] at hk6
              all_goals
              obtain rfl := so_some h
              refine ⟨0, fun L hL => ?_⟩
              simp only [go_sem, ir23, E_spec_l06Ok_l1, R_spec_l06Ok_l1, ir23_b0, ir23_k0, ir23_o0, ir23_r0, hk1, hk2, lhk2, xhk2, fhk3, ghk4ann, ghk4b, ghk5ann, ghk5b, hk6]
            · try simp only [go_sem, n1, n2, n3, n4, hk1, hk2, ghk4ann, ghk4b, ghk5ann, ghk5b] at hk6
              all_goals
              obtain rfl := so_some h
              refine ⟨0, fun L hL => ?_⟩
              simp only [go_sem, ir23, E_spec_l06Ok_l1, R_spec_l06Ok_l1, ir23_b0, ir23_k0, ir23_o0, ir23_r0, hk1, hk2, lhk2, xhk2, fhk3, ghk4ann, ghk4b, ghk5ann, ghk5b, hk6]
  · try simp only [go_sem, n1, n2, n3, n4] at hk1
    all_goals
    obtain rfl := so_some h
    refine ⟨0, fun L hL => ?_⟩
    simp only [go_sem, ir23, E_spec_l06Ok_l1, R_spec_l06Ok_l1, ir23_b0, ir23_k0, ir23_o0, ir23_r0, hk1]

theorem Fs_spec_l06Ok {list : List Estimate} {y_ : Bool} (h : spec_l06Ok list = some y_) : c_spec_l06Ok.F [.sl 5 (List.map Estimate_av list)] = ⟨true, .bool y_, [.any]⟩ := by
  refine mkF_E rfl ?_
  dsimp only [spec_l06Ok] at h
  obtain ⟨y_7, hk7, h⟩ := bd_some h
  obtain ⟨Lhk7, ehk7⟩ := spec_l06Ok_l1_ex hk7
  rcases y_7 with y_7a | y_7b
  · dsimp only at h
    obtain rfl := so_some h
    refine ⟨Lhk7, fun L hL => ?_⟩
    have ehk7 := ehk7 L (by omega)
    try simp only [go_sem, E_spec_l06Ok_l1, R_spec_l06Ok_l1, ir23_k0, ir23_o0, ir23_r0] at ehk7
    simp only [go_sem, ir23, E_spec_l06Ok_l1, R_spec_l06Ok_l1, ir23_k0, ir23_o0, ir23_r0, ehk7]
  · dsimp only at h
    obtain rfl := so_some h
    refine ⟨Lhk7, fun L hL => ?_⟩
    have ehk7 := ehk7 L (by omega)
    try simp only [go_sem, E_spec_l06Ok_l1, R_spec_l06Ok_l1, ir23_k0, ir23_o0, ir23_r0] at ehk7
    simp only [go_sem, ir23, E_spec_l06Ok_l1, R_spec_l06Ok_l1, ir23_k0, ir23_o0, ir23_r0, ehk7]


def ir11_b0 : IR := .seq (.test false [
    ⟨.push, 32, none, .mov (.v 3)⟩,
    ⟨.push, 33, none, .mov (.v 0)⟩,
    ⟨.push, 34, none, .nilck (.s 0)⟩,
    ⟨.push, 35, none, .fldAddr 1 (.s 0)⟩,
    ⟨.push, 36, none, .load false 1 (.s 0)⟩,
    ⟨.push, 37, none, .len false (.s 0)⟩,
    ⟨.push, 38, none, .bin false .lss (.s 5) (.s 0)⟩] (.s 0)
  (.skip)
  (.exit 0))
 (.seq (.block 1 (.anyo 14 [
     ⟨.slot 0, 41, none, .mov (.v 0)⟩,
     ⟨.slot 1, 42, none, .nilck (.s 0)⟩,
     ⟨.slot 2, 43, none, .fldAddr 0 (.s 1)⟩,
     ⟨.slot 3, 44, none, .load false 1 (.s 2)⟩,
     ⟨.slot 4, 45, none, .mov (.v 0)⟩,
     ⟨.slot 5, 46, none, .nilck (.s 4)⟩,
     ⟨.slot 6, 47, none, .fldAddr 1 (.s 5)⟩,
     ⟨.slot 7, 48, none, .load false 1 (.s 6)⟩,
     ⟨.slot 8, 49, none, .mov (.v 3)⟩,
     ⟨.slot 9, 50, none, .ixAddr 5 (.s 7) (.s 8)⟩,
     ⟨.slot 10, 51, none, .fldAddr 1 (.s 9)⟩,
     ⟨.slot 11, 52, none, .load false 1 (.s 10)⟩,
     ⟨.slot 12, 53, none, .callp 24 [(.s 3), (.s 11)]⟩,
     ⟨.slot 13, 54, none, .bin false .lss (.s 12) (.c (.int .i64 (0)))⟩] [] (.cond (.s 13)
   (.seq (.region false [
       ⟨.var 1, 2, none, .mov (.c (.bool false))⟩])
    (.ret))
   (.skip))))
 (.region false [
   ⟨.push, 39, none, .mov (.v 3)⟩,
   ⟨.push, 40, none, .bin false .add (.s 0) (.c (.int .i64 (1)))⟩,
   ⟨.var 3, 5, none, .mov (.s 0)⟩]))
def ir11_k0 : List Bool := [true, false, false, true]
def ir11_o0 : List Bool := [false, false, false, false]
def ir11_r0 : List Bool := [false, true, false, false]
def ir11_v : List Nat := [0, 2, 4, 5]
def ir11 : AFn := ⟨1, 4, .seq (.region false [
    ⟨.var 1, 2, none, .mov (.c (.bool false))⟩])
 (.seq (.region false [
    ⟨.push, 7, none, .mov (.v 0)⟩,
    ⟨.push, 8, none, .nilck (.s 0)⟩,
    ⟨.push, 9, none, .fldAddr 2 (.s 0)⟩,
    ⟨.push, 10, none, .load false 1 (.s 0)⟩,
    ⟨.push, 11, none, .call 21 [(.s 0)]⟩,
    ⟨.push, 6, none, .mov (.s 0)⟩,
    ⟨.push, 12, none, .ext (.s 0) 0⟩,
    ⟨.push, 13, none, .ext (.s 1) 1⟩,
    ⟨.push, 3, none, .mov (.s 1)⟩,
    ⟨.var 2, 4, none, .mov (.s 1)⟩])
 (.seq (.test false [
    ⟨.push, 14, none, .mov (.v 0)⟩,
    ⟨.push, 15, none, .nilck (.s 0)⟩,
    ⟨.push, 16, none, .fldAddr 0 (.s 0)⟩,
    ⟨.push, 17, none, .load false 1 (.s 0)⟩,
    ⟨.push, 18, none, .call 22 [(.s 0)]⟩,
    ⟨.push, 19, none, .un .not (.s 0)⟩,
    ⟨.push, 20, none, .mov (.s 0)⟩,
    ⟨.push, 21, (some ((.s 0), false)), .mov (.v 0)⟩,
    ⟨.push, 22, (some ((.s 1), false)), .nilck (.s 0)⟩,
    ⟨.push, 23, (some ((.s 2), false)), .fldAddr 1 (.s 0)⟩,
    ⟨.push, 24, (some ((.s 3), false)), .load false 1 (.s 0)⟩,
    ⟨.push, 25, (some ((.s 4), false)), .call 23 [(.s 0)]⟩,
    ⟨.push, 26, (some ((.s 5), false)), .un .not (.s 0)⟩,
    ⟨.push, 27, none, .pick (.s 6) (.c (.bool true)) (.s 0)⟩,
    ⟨.push, 28, none, .mov (.s 0)⟩,
    ⟨.push, 29, (some ((.s 0), false)), .mov (.v 2)⟩,
    ⟨.push, 30, (some ((.s 1), false)), .bin false .neq (.s 0) (.c (.int .i64 (0)))⟩,
    ⟨.push, 31, none, .pick (.s 2) (.c (.bool true)) (.s 0)⟩] (.s 0)
  (.seq (.region false [
      ⟨.var 1, 2, none, .mov (.c (.bool false))⟩])
   (.ret))
  (.skip))
 (.seq (.seq (.region false [
     ⟨.var 3, 5, none, .mov (.c (.int .i64 (0)))⟩])
  (.block 0 (.loop ir11_k0 ir11_o0 ir11_r0 ir11_b0)))
 (.seq (.region false [
    ⟨.var 1, 2, none, .mov (.c (.bool true))⟩])
 (.ret))))), [.t 1]⟩
noncomputable def t_spec_l28Ok : List (Nat × Ctr) := [(21, c_spec_l27Code), (22, c_spec_l04Ok), (23, c_spec_l06Ok), (24, c_spec_l04Find)]
theorem lk_spec_l28Ok_21 : look t_spec_l28Ok 21 = some c_spec_l27Code := rfl
theorem lk_spec_l28Ok_22 : look t_spec_l28Ok 22 = some c_spec_l04Ok := rfl
theorem lk_spec_l28Ok_23 : look t_spec_l28Ok 23 = some c_spec_l06Ok := rfl
theorem lk_spec_l28Ok_24 : look t_spec_l28Ok 24 = some c_spec_l04Find := rfl
noncomputable def c_spec_l28Ok : Ctr := mkF t_spec_l28Ok ir11 [.bor]
theorem s_spec_l28Ok : Sound Tryz.prog 11 c_spec_l28Ok := mkF_sound _ rfl (snd_cons s_spec_l27Code (snd_cons s_spec_l04Ok (snd_cons s_spec_l06Ok (snd_cons s_spec_l04Find snd_nil)))) (by kernel_rfl : chkFn Tryz.prog 11 ir11 ir11_v = true)
theorem M_spec_l28Ok : c_spec_l28Ok.modes = [.bor] := rfl
theorem Fl_spec_l28Ok : c_spec_l28Ok.flat = true := rfl
attribute [go_sem] M_spec_l28Ok Fl_spec_l28Ok
attribute [go_sem] lk_spec_l28Ok_21 lk_spec_l28Ok_22 lk_spec_l28Ok_23 lk_spec_l28Ok_24
def E_spec_l28Ok_l1 (d : Desk) : Int → St
  | i => ⟨[.ptr 3 [Desk_av d] 0 0, .any, .any, .int .i64 i], [], [], true⟩
def R_spec_l28Ok_l1 (d : Desk) : (Unit ⊕ Bool) → Res
  | .inl y => (.exit 0, ⟨[.any, .any, .any, .any], [], [], true⟩)
  | .inr y => (.ret, ⟨[.any, .bool y, .any, .any], [], [], true⟩)
theorem spec_l28Ok_l1_ex {d : Desk} {sgm_ : Int} {rho_ : Unit ⊕ Bool} (h : whileE (spec_l28Ok_l1 d) sgm_ = some rho_) : ∃ L0, ∀ L, L0 ≤ L → iter (exec (look t_spec_l28Ok) L ir11_b0) ir11_k0 ir11_o0 ir11_r0 L (E_spec_l28Ok_l1 d sgm_) = R_spec_l28Ok_l1 d rho_ := by
  refine loop_ex (E := E_spec_l28Ok_l1 d) (R := R_spec_l28Ok_l1 d) (fun y => by first | (intro c; cases c) | (rcases y with y | y <;> (intro c; cases c)) | (rcases y with y | y | y <;> (intro c; cases c))) ?_ h
  clear h
  intro i o_ h
  dsimp only [spec_l28Ok_l1] at h
  rcases it_some h with ⟨hk5, h⟩ | ⟨hk5, h⟩
  · try simp only [go_sem, n1, n2, n3, n4] at hk5
    all_goals
    obtain ⟨hk6, h⟩ := ck_some h
    have lhk6 := ix_lt hk6
    have xhk6 := getD_mapD Estimate_av d.Estimates lhk6
    try simp only [go_sem] at lhk6
    try simp only [go_sem] at xhk6
    try simp only [go_sem, n1, n2, n3, n4, hk5] at hk6
    all_goals
    obtain ⟨y_7, hk7, h⟩ := bd_some h
    have fhk7 := Fs_spec_l04Find hk7
    try simp only [go_sem, hk5, hk6] at fhk7
    rcases it_some h with ⟨hk8, h⟩ | ⟨hk8, h⟩
    · try simp only [go_sem, n1, n2, n3, n4, hk5, hk6] at hk8
      all_goals
      obtain rfl := so_some h
      refine ⟨0, fun L hL => ?_⟩
      simp only [go_sem, ir11, E_spec_l28Ok_l1, R_spec_l28Ok_l1, ir11_b0, ir11_k0, ir11_o0, ir11_r0, hk5, hk6, lhk6, xhk6, fhk7, hk8]
    · try simp only [go_sem, n1, n2, n3, n4, hk5, hk6] at hk8
      all_goals
      obtain rfl := so_some h
      refine ⟨0, fun L hL => ?_⟩
      simp only [go_sem, ir11, E_spec_l28Ok_l1, R_spec_l28Ok_l1, ir11_b0, ir11_k0, ir11_o0, ir11_r0, hk5, hk6, lhk6, xhk6, fhk7, hk8]
  · try simp only [go_sem, n1, n2, n3, n4] at hk5
    all_goals
    obtain rfl := so_some h
    refine ⟨0, fun L hL => ?_⟩
    simp only [go_sem, ir11, E_spec_l28Ok_l1, R_spec_l28Ok_l1, ir11_b0, ir11_k0, ir11_o0, ir11_r0, hk5]

theorem Fs_spec_l28Ok {d : Desk} {y_ : Bool} (h : spec_l28Ok d = some y_) : c_spec_l28Ok.F [.ptr 3 [Desk_av d] 0 0] = ⟨true, .bool y_, [.any]⟩ := by
  refine mkF_E rfl ?_
  dsimp only [spec_l28Ok] at h
  obtain ⟨y_1, hk1, h⟩ := bd_some h
  have fhk1 := Fs_spec_l27Code hk1
  try simp only [go_sem] at fhk1
  obtain ⟨y_2, hk2, h⟩ := bd_some h
  have fhk2 := Fs_spec_l04Ok hk2
  try simp only [go_sem] at fhk2
  obtain ⟨hk3, h⟩ := ck_some h
  rcases or_split hk3 with ⟨ghk3, hk3⟩ | ghk3
  · try simp only [go_sem, n1, n2, n3, n4] at ghk3
    all_goals
    obtain ⟨y_3, hhk3⟩ := Option.isSome_iff_exists.1 hk3
    have fhk3 := Fs_spec_l06Ok hhk3
    try simp only [go_sem, ghk3] at fhk3
    rcases it_some h with ⟨hk4, h⟩ | ⟨hk4, h⟩
    · try simp only [go_sem, n1, n2, n3, n4, ghk3, hhk3] at hk4
      all_goals
      obtain rfl := so_some h
      refine ⟨0, fun L hL => ?_⟩
      simp only [go_sem, ir11, E_spec_l28Ok_l1, R_spec_l28Ok_l1, ir11_k0, ir11_o0, ir11_r0, fhk1, fhk2, ghk3, hhk3, fhk3, hk4]
    · try simp only [go_sem, n1, n2, n3, n4, ghk3, hhk3] at hk4
      all_goals
      obtain ⟨y_9, hk9, h⟩ := bd_some h
      obtain ⟨Lhk9, ehk9⟩ := spec_l28Ok_l1_ex hk9
      rcases y_9 with y_9a | y_9b
      · dsimp only at h
        obtain rfl := so_some h
        refine ⟨Lhk9, fun L hL => ?_⟩
        have ehk9 := ehk9 L (by omega)
        try simp only [go_sem, E_spec_l28Ok_l1, R_spec_l28Ok_l1, ir11_k0, ir11_o0, ir11_r0, ghk3, hhk3, hk4] at ehk9
        simp only [go_sem, ir11, E_spec_l28Ok_l1, R_spec_l28Ok_l1, ir11_k0, ir11_o0, ir11_r0, fhk1, fhk2, ghk3, hhk3, fhk3, hk4, ehk9]
      · dsimp only at h
        obtain rfl := so_some h
        refine ⟨Lhk9, fun L hL => ?_⟩
        have ehk9 := ehk9 L (by omega)
        try simp only [go_sem, E_spec_l28Ok_l1, R_spec_l28Ok_l1, ir11_k0, ir11_o0, ir11_r0, ghk3, hhk3, hk4] at ehk9
        simp only [go_sem, ir11, E_spec_l28Ok_l1, R_spec_l28Ok_l1, ir11_k0, ir11_o0, ir11_r0, fhk1, fhk2, ghk3, hhk3, fhk3, hk4, ehk9]
  · have ghk3n := no_f ghk3
    have ghk3nn := no_t ghk3n
    try simp only [go_sem, n1, n2, n3, n4] at ghk3nn
    all_goals
    rcases it_some h with ⟨hk4, h⟩ | ⟨hk4, h⟩
    · try simp only [go_sem, n1, n2, n3, n4, ghk3nn] at hk4
      all_goals
      obtain rfl := so_some h
      refine ⟨0, fun L hL => ?_⟩
      simp only [go_sem, ir11, E_spec_l28Ok_l1, R_spec_l28Ok_l1, ir11_k0, ir11_o0, ir11_r0, fhk1, fhk2, ghk3nn, hk4]
    · try simp only [go_sem, n1, n2, n3, n4, ghk3nn] at hk4
      all_goals
      obtain ⟨y_9, hk9, h⟩ := bd_some h
      obtain ⟨Lhk9, ehk9⟩ := spec_l28Ok_l1_ex hk9
      rcases y_9 with y_9a | y_9b
      · dsimp only at h
        obtain rfl := so_some h
        refine ⟨Lhk9, fun L hL => ?_⟩
        have ehk9 := ehk9 L (by omega)
        try simp only [go_sem, E_spec_l28Ok_l1, R_spec_l28Ok_l1, ir11_k0, ir11_o0, ir11_r0, ghk3nn, hk4] at ehk9
        simp only [go_sem, ir11, E_spec_l28Ok_l1, R_spec_l28Ok_l1, ir11_k0, ir11_o0, ir11_r0, fhk1, fhk2, ghk3nn, hk4, ehk9]
      · dsimp only at h
        obtain rfl := so_some h
        refine ⟨Lhk9, fun L hL => ?_⟩
        have ehk9 := ehk9 L (by omega)
        try simp only [go_sem, E_spec_l28Ok_l1, R_spec_l28Ok_l1, ir11_k0, ir11_o0, ir11_r0, ghk3nn, hk4] at ehk9
        simp only [go_sem, ir11, E_spec_l28Ok_l1, R_spec_l28Ok_l1, ir11_k0, ir11_o0, ir11_r0, fhk1, fhk2, ghk3nn, hk4, ehk9]


def ir12_v : List Nat := [0, 2]
def ir12 : AFn := ⟨1, 2, .seq (.region false [
    ⟨.var 1, 2, none, .mov (.c (.str []))⟩])
 (.seq (.anyo 15 [
    ⟨.slot 0, 3, none, .mov (.v 0)⟩,
    ⟨.slot 1, 4, none, .nilck (.s 0)⟩,
    ⟨.slot 2, 5, none, .fldAddr 0 (.s 1)⟩,
    ⟨.slot 3, 6, none, .load false 1 (.s 2)⟩,
    ⟨.slot 4, 7, none, .len false (.s 3)⟩,
    ⟨.slot 5, 8, none, .callp 25 [(.s 4)]⟩,
    ⟨.slot 6, 9, none, .bin false .add (.s 5) (.c (.str [32, 115, 116, 97, 114, 115, 32]))⟩,
    ⟨.slot 7, 10, none, .mov (.v 0)⟩,
    ⟨.slot 8, 11, none, .nilck (.s 7)⟩,
    ⟨.slot 9, 12, none, .fldAddr 1 (.s 8)⟩,
    ⟨.slot 10, 13, none, .load false 1 (.s 9)⟩,
    ⟨.slot 11, 14, none, .len false (.s 10)⟩,
    ⟨.slot 12, 15, none, .callp 25 [(.s 11)]⟩,
    ⟨.slot 13, 16, none, .bin false .add (.s 6) (.s 12)⟩,
    ⟨.slot 14, 17, none, .bin false .add (.s 13) (.c (.str [32, 101, 115, 116, 105, 109, 97, 116, 101, 115]))⟩,
    ⟨.var 1, 2, none, .mov (.s 14)⟩] [] .skip)
 (.ret)), [.t 1]⟩
noncomputable def t_spec_l28Text : List (Nat × Ctr) := [(25, c_spec_l01Dec)]
theorem lk_spec_l28Text_25 : look t_spec_l28Text 25 = some c_spec_l01Dec := rfl
noncomputable def c_spec_l28Text : Ctr := mkF t_spec_l28Text ir12 [.bor]
theorem s_spec_l28Text : Sound Tryz.prog 12 c_spec_l28Text := mkF_sound _ rfl (snd_cons s_spec_l01Dec snd_nil) (by kernel_rfl : chkFn Tryz.prog 12 ir12 ir12_v = true)
theorem M_spec_l28Text : c_spec_l28Text.modes = [.bor] := rfl
theorem Fl_spec_l28Text : c_spec_l28Text.flat = true := rfl
attribute [go_sem] M_spec_l28Text Fl_spec_l28Text
attribute [go_sem] lk_spec_l28Text_25
theorem Fs_spec_l28Text {d : Desk} {y_ : (List UInt8)} (h : spec_l28Text d = some y_) : c_spec_l28Text.F [.ptr 3 [Desk_av d] 0 0] = ⟨true, .str y_, [.any]⟩ := by
  refine mkF_E rfl ?_
  dsimp only [spec_l28Text] at h
  obtain ⟨y_1, hk1, h⟩ := bd_some h
  have fhk1 := Fs_spec_l01Dec hk1
  try simp only [go_sem] at fhk1
  obtain ⟨hk2, h⟩ := ck_some h
  try simp only [go_sem, n1, n2, n3, n4] at hk2
  all_goals
  obtain ⟨y_3, hk3, h⟩ := bd_some h
  have fhk3 := Fs_spec_l01Dec hk3
  try simp only [go_sem, hk2] at fhk3
  obtain ⟨hk4, h⟩ := ck_some h
  try simp only [go_sem, n1, n2, n3, n4, hk2] at hk4
  all_goals
  obtain ⟨hk5, h⟩ := ck_some h
  try simp only [go_sem, n1, n2, n3, n4, hk2, hk4] at hk5
  all_goals
  obtain rfl := so_some h
  refine ⟨0, fun L hL => ?_⟩
  simp only [go_sem, ir12, fhk1, hk2, fhk3, hk4, hk5]


def ir5_v : List Nat := [0, 1, 2]
def ir5 : AFn := ⟨1, 3, .seq (.region false [
    ⟨.var 1, 1, none, .box (.v 0)⟩,
    ⟨.var 2, 2, none, .mov (.c (.str []))⟩])
 (.seq (.test false [
    ⟨.push, 3, none, .call 11 [(.v 1)]⟩,
    ⟨.push, 4, none, .un .not (.s 0)⟩] (.s 0)
  (.seq (.region false [
      ⟨.var 2, 2, none, .mov (.c (.str []))⟩])
   (.ret))
  (.skip))
 (.seq (.region false [
    ⟨.push, 5, none, .call 12 [(.v 1)]⟩,
    ⟨.var 2, 2, none, .mov (.s 0)⟩])
 (.ret))), [.t 2]⟩
noncomputable def t_spec_DeskText : List (Nat × Ctr) := [(11, c_spec_l28Ok), (12, c_spec_l28Text)]
theorem lk_spec_DeskText_11 : look t_spec_DeskText 11 = some c_spec_l28Ok := rfl
theorem lk_spec_DeskText_12 : look t_spec_DeskText 12 = some c_spec_l28Text := rfl
noncomputable def c_spec_DeskText : Ctr := mkF t_spec_DeskText ir5 [.bor]
theorem s_spec_DeskText : Sound Tryz.prog 5 c_spec_DeskText := mkF_sound _ rfl (snd_cons s_spec_l28Ok (snd_cons s_spec_l28Text snd_nil)) (by kernel_rfl : chkFn Tryz.prog 5 ir5 ir5_v = true)
theorem M_spec_DeskText : c_spec_DeskText.modes = [.bor] := rfl
theorem Fl_spec_DeskText : c_spec_DeskText.flat = true := rfl
attribute [go_sem] M_spec_DeskText Fl_spec_DeskText
attribute [go_sem] lk_spec_DeskText_11 lk_spec_DeskText_12
theorem Fs_spec_DeskText {d : Desk} {y_ : (List UInt8)} (h : spec_DeskText d = some y_) : c_spec_DeskText.F [Desk_av d] = ⟨true, .str y_, [.any]⟩ := by
  refine mkF_E rfl ?_
  dsimp only [spec_DeskText] at h
  obtain ⟨y_1, hk1, h⟩ := bd_some h
  have fhk1 := Fs_spec_l28Ok hk1
  try simp only [go_sem] at fhk1
  rcases it_some h with ⟨hk2, h⟩ | ⟨hk2, h⟩
  · try simp only [go_sem, n1, n2, n3, n4] at hk2
    all_goals
    obtain rfl := so_some h
    refine ⟨0, fun L hL => ?_⟩
    simp only [go_sem, ir5, fhk1, hk2]
  · try simp only [go_sem, n1, n2, n3, n4] at hk2
    all_goals
    obtain ⟨y_3, hk3, h⟩ := bd_some h
    have fhk3 := Fs_spec_l28Text hk3
    try simp only [go_sem, hk2] at fhk3
    obtain rfl := so_some h
    refine ⟨0, fun L hL => ?_⟩
    simp only [go_sem, ir5, fhk1, hk2, fhk3]


def ir56_v : List Nat := [0, 1, 2, 6]
def ir56 : AFn := ⟨3, 4, .seq (.region false [
    ⟨.var 3, 6, none, .mov (.c (.bool false))⟩])
 (.seq (.region false [
    ⟨.push, 7, none, .mov (.v 0)⟩,
    ⟨.push, 8, none, .mov (.v 1)⟩,
    ⟨.push, 9, none, .bin false .geq (.s 1) (.s 0)⟩,
    ⟨.push, 10, none, .mov (.s 0)⟩,
    ⟨.push, 11, (some ((.s 0), true)), .mov (.v 0)⟩,
    ⟨.push, 12, (some ((.s 1), true)), .mov (.v 2)⟩,
    ⟨.push, 13, (some ((.s 2), true)), .bin false .leq (.s 1) (.s 0)⟩,
    ⟨.push, 14, none, .pick (.s 3) (.s 0) (.c (.bool false))⟩,
    ⟨.var 3, 6, none, .mov (.s 0)⟩])
 (.ret)), [.t 3]⟩
noncomputable def t_impl_in : List (Nat × Ctr) := []
noncomputable def c_impl_in : Ctr := mkF t_impl_in ir56 [.bor, .bor, .bor]
theorem s_impl_in : Sound Tryz.prog 56 c_impl_in := mkF_sound _ rfl snd_nil (by kernel_rfl : chkFn Tryz.prog 56 ir56 ir56_v = true)
theorem M_impl_in : c_impl_in.modes = [.bor, .bor, .bor] := rfl
theorem Fl_impl_in : c_impl_in.flat = true := rfl
attribute [go_sem] M_impl_in Fl_impl_in
theorem Fs_impl_in {n : Int} {low : Int} {high : Int} {y_ : Bool} (h : impl_in n low high = some y_) : c_impl_in.F [.int .i64 n, .int .i64 low, .int .i64 high] = ⟨true, .bool y_, [.any, .any, .any]⟩ := by
  refine mkF_E rfl ?_
  dsimp only [impl_in] at h
  obtain rfl := so_some h
  refine ⟨0, fun L hL => ?_⟩
  simp only [go_sem, ir56]


def ir57_b0 : IR := .seq (.region false [
    ⟨.var 7, 17, none, .bin false .lss (.v 6) (.v 5)⟩])
 (.seq (.cond (.v 7) (.skip)
  (.exit 0))
 (.seq (.block 1 (.seq (.region false [
      ⟨.push, 18, none, .mov (.v 6)⟩,
      ⟨.var 2, 3, none, .mov (.s 0)⟩])
   (.seq (.region false [
      ⟨.push, 19, none, .mov (.v 0)⟩,
      ⟨.push, 20, none, .mov (.v 2)⟩,
      ⟨.push, 21, none, .ixStr (.s 1) (.s 0)⟩,
      ⟨.push, 22, none, .bin false .geq (.s 0) (.c (.int .u8 (97)))⟩,
      ⟨.push, 23, none, .mov (.s 0)⟩,
      ⟨.push, 24, (some ((.s 0), true)), .mov (.v 0)⟩,
      ⟨.push, 25, (some ((.s 1), true)), .mov (.v 2)⟩,
      ⟨.push, 26, (some ((.s 2), true)), .ixStr (.s 1) (.s 0)⟩,
      ⟨.push, 27, (some ((.s 3), true)), .bin false .leq (.s 0) (.c (.int .u8 (122)))⟩,
      ⟨.push, 28, none, .pick (.s 4) (.s 0) (.c (.bool false))⟩,
      ⟨.var 3, 4, none, .mov (.s 0)⟩])
   (.seq (.region false [
      ⟨.push, 29, none, .mov (.v 0)⟩,
      ⟨.push, 30, none, .mov (.v 2)⟩,
      ⟨.push, 31, none, .ixStr (.s 1) (.s 0)⟩,
      ⟨.push, 32, none, .bin false .geq (.s 0) (.c (.int .u8 (48)))⟩,
      ⟨.push, 33, none, .mov (.s 0)⟩,
      ⟨.push, 34, (some ((.s 0), true)), .mov (.v 0)⟩,
      ⟨.push, 35, (some ((.s 1), true)), .mov (.v 2)⟩,
      ⟨.push, 36, (some ((.s 2), true)), .ixStr (.s 1) (.s 0)⟩,
      ⟨.push, 37, (some ((.s 3), true)), .bin false .leq (.s 0) (.c (.int .u8 (57)))⟩,
      ⟨.push, 38, none, .pick (.s 4) (.s 0) (.c (.bool false))⟩,
      ⟨.push, 39, none, .mov (.s 0)⟩,
      ⟨.push, 40, (some ((.s 0), false)), .mov (.v 0)⟩,
      ⟨.push, 41, (some ((.s 1), false)), .mov (.v 2)⟩,
      ⟨.push, 42, (some ((.s 2), false)), .ixStr (.s 1) (.s 0)⟩,
      ⟨.push, 43, (some ((.s 3), false)), .bin false .eql (.s 0) (.c (.int .u8 (45)))⟩,
      ⟨.push, 44, none, .pick (.s 4) (.c (.bool true)) (.s 0)⟩,
      ⟨.var 4, 5, none, .mov (.s 0)⟩])
   (.test false [
     ⟨.push, 45, none, .mov (.v 3)⟩,
     ⟨.push, 46, none, .un .not (.s 0)⟩,
     ⟨.push, 47, none, .mov (.s 0)⟩,
     ⟨.push, 48, (some ((.s 0), true)), .mov (.v 2)⟩,
     ⟨.push, 49, (some ((.s 1), true)), .bin false .eql (.s 0) (.c (.int .i64 (0)))⟩,
     ⟨.push, 50, (some ((.s 2), true)), .mov (.s 0)⟩,
     ⟨.push, 51, (some ((.s 0), false)), .mov (.v 4)⟩,
     ⟨.push, 52, (some ((.s 1), false)), .un .not (.s 0)⟩,
     ⟨.push, 53, (some ((.s 5), true)), .pick (.s 2) (.c (.bool true)) (.s 0)⟩,
     ⟨.push, 54, none, .pick (.s 6) (.s 0) (.c (.bool false))⟩] (.s 0)
   (.seq (.region false [
       ⟨.var 1, 2, none, .mov (.c (.bool false))⟩])
    (.ret))
   (.skip))))))
 (.region false [
   ⟨.push, 55, none, .bin false .add (.v 6) (.c (.int .i64 (1)))⟩,
   ⟨.var 6, 16, none, .mov (.s 0)⟩])))
def ir57_k0 : List Bool := [true, false, false, false, false, true, true, false]
def ir57_o0 : List Bool := [false, false, false, false, false, false, false, false]
def ir57_r0 : List Bool := [false, true, false, false, false, false, false, false]
def ir57_v : List Nat := [0, 2, 3, 4, 5, 15, 16, 17]
def ir57 : AFn := ⟨1, 8, .seq (.region false [
    ⟨.var 1, 2, none, .mov (.c (.bool false))⟩])
 (.seq (.test false [
    ⟨.push, 6, none, .mov (.v 0)⟩,
    ⟨.push, 7, none, .len true (.s 0)⟩,
    ⟨.push, 8, none, .bin false .lss (.s 0) (.c (.int .i64 (1)))⟩,
    ⟨.push, 9, none, .mov (.s 0)⟩,
    ⟨.push, 10, (some ((.s 0), false)), .mov (.v 0)⟩,
    ⟨.push, 11, (some ((.s 1), false)), .len true (.s 0)⟩,
    ⟨.push, 12, (some ((.s 2), false)), .bin false .gtr (.s 0) (.c (.int .i64 (12)))⟩,
    ⟨.push, 13, none, .pick (.s 3) (.c (.bool true)) (.s 0)⟩] (.s 0)
  (.seq (.region false [
      ⟨.var 1, 2, none, .mov (.c (.bool false))⟩])
   (.ret))
  (.skip))
 (.seq (.seq (.region false [
     ⟨.push, 14, none, .mov (.v 0)⟩,
     ⟨.var 5, 15, none, .len true (.s 0)⟩,
     ⟨.var 6, 16, none, .mov (.c (.int .i64 (0)))⟩])
  (.block 0 (.loop ir57_k0 ir57_o0 ir57_r0 ir57_b0)))
 (.seq (.region false [
    ⟨.var 1, 2, none, .mov (.c (.bool true))⟩])
 (.ret)))), [.t 1]⟩
noncomputable def t_impl_IsName : List (Nat × Ctr) := []
noncomputable def c_impl_IsName : Ctr := mkF t_impl_IsName ir57 [.bor]
theorem s_impl_IsName : Sound Tryz.prog 57 c_impl_IsName := mkF_sound _ rfl snd_nil (by kernel_rfl : chkFn Tryz.prog 57 ir57 ir57_v = true)
theorem M_impl_IsName : c_impl_IsName.modes = [.bor] := rfl
theorem Fl_impl_IsName : c_impl_IsName.flat = true := rfl
attribute [go_sem] M_impl_IsName Fl_impl_IsName
def E_impl_IsName_l1 (s_ : List UInt8) (t15 : Int) : Int → St
  | t16 => ⟨[.str s_, .any, .any, .any, .any, .int .i64 t15, .int .i64 t16, .any], [], [], true⟩
def R_impl_IsName_l1 (s_ : List UInt8) (t15 : Int) : (Unit ⊕ Bool) → Res
  | .inl y => (.exit 0, ⟨[.any, .any, .any, .any, .any, .any, .any, .any], [], [], true⟩)
  | .inr y => (.ret, ⟨[.any, .bool y, .any, .any, .any, .any, .any, .any], [], [], true⟩)
theorem impl_IsName_l1_ex {s_ : List UInt8} {t15 : Int} {sgm_ : Int} {rho_ : Unit ⊕ Bool} (h : whileE (impl_IsName_l1 s_ t15) sgm_ = some rho_) : ∃ L0, ∀ L, L0 ≤ L → iter (exec (look t_impl_IsName) L ir57_b0) ir57_k0 ir57_o0 ir57_r0 L (E_impl_IsName_l1 s_ t15 sgm_) = R_impl_IsName_l1 s_ t15 rho_ := by
  refine loop_ex (E := E_impl_IsName_l1 s_ t15) (R := R_impl_IsName_l1 s_ t15) (fun y => by first | (intro c; cases c) | (rcases y with y | y <;> (intro c; cases c)) | (rcases y with y | y | y <;> (intro c; cases c))) ?_ h
  clear h
  intro t16 o_ h
  dsimp only [impl_IsName_l1] at h
  rcases it_some h with ⟨hk2, h⟩ | ⟨hk2, h⟩
  · try simp only [go_sem, n1, n2, n3, n4] at hk2
    all_goals
    obtain ⟨hk3, h⟩ := ck_some h
    try simp only [go_sem, n1, n2, n3, n4, hk2] at hk3
    all_goals
    rcases it_some h with ⟨hk4, h⟩ | ⟨hk4, h⟩
    · try simp only [go_sem, n1, n2, n3, n4, hk2, hk3] at hk4
      all_goals
      obtain rfl := so_some h
      refine ⟨0, fun L hL => ?_⟩
      simp only [go_sem, ir57, E_impl_IsName_l1, R_impl_IsName_l1, ir57_b0, ir57_k0, ir57_o0, ir57_r0, hk2, hk3, hk4]
    · try simp only [go_sem, n1, n2, n3, n4, hk2, hk3] at hk4
      all_goals
      obtain rfl := so_some h
      refine ⟨0, fun L hL => ?_⟩
      simp only [go_sem, ir57, E_impl_IsName_l1, R_impl_IsName_l1, ir57_b0, ir57_k0, ir57_o0, ir57_r0, hk2, hk3, hk4]
  · try simp only [go_sem, n1, n2, n3, n4] at hk2
    all_goals
    obtain rfl := so_some h
    refine ⟨0, fun L hL => ?_⟩
    simp only [go_sem, ir57, E_impl_IsName_l1, R_impl_IsName_l1, ir57_b0, ir57_k0, ir57_o0, ir57_r0, hk2]

theorem Fs_impl_IsName {s_ : List UInt8} {y_ : Bool} (h : impl_IsName s_ = some y_) : c_impl_IsName.F [.str s_] = ⟨true, .bool y_, [.any]⟩ := by
  refine mkF_E rfl ?_
  dsimp only [impl_IsName] at h
  rcases it_some h with ⟨hk1, h⟩ | ⟨hk1, h⟩
  · try simp only [go_sem, n1, n2, n3, n4] at hk1
    all_goals
    obtain rfl := so_some h
    refine ⟨0, fun L hL => ?_⟩
    simp only [go_sem, ir57, E_impl_IsName_l1, R_impl_IsName_l1, ir57_k0, ir57_o0, ir57_r0, hk1]
  · try simp only [go_sem, n1, n2, n3, n4] at hk1
    all_goals
    obtain ⟨y_5, hk5, h⟩ := bd_some h
    obtain ⟨Lhk5, ehk5⟩ := impl_IsName_l1_ex hk5
    rcases y_5 with y_5a | y_5b
    · dsimp only at h
      obtain rfl := so_some h
      refine ⟨Lhk5, fun L hL => ?_⟩
      have ehk5 := ehk5 L (by omega)
      try simp only [go_sem, E_impl_IsName_l1, R_impl_IsName_l1, ir57_k0, ir57_o0, ir57_r0, hk1] at ehk5
      simp only [go_sem, ir57, E_impl_IsName_l1, R_impl_IsName_l1, ir57_k0, ir57_o0, ir57_r0, hk1, ehk5]
    · dsimp only at h
      obtain rfl := so_some h
      refine ⟨Lhk5, fun L hL => ?_⟩
      have ehk5 := ehk5 L (by omega)
      try simp only [go_sem, E_impl_IsName_l1, R_impl_IsName_l1, ir57_k0, ir57_o0, ir57_r0, hk1] at ehk5
      simp only [go_sem, ir57, E_impl_IsName_l1, R_impl_IsName_l1, ir57_k0, ir57_o0, ir57_r0, hk1, ehk5]


def ir58_v : List Nat := [0, 2]
def ir58 : AFn := ⟨1, 2, .seq (.region false [
    ⟨.var 1, 2, none, .mov (.c (.bool false))⟩])
 (.seq (.region false [
    ⟨.push, 3, none, .mov (.v 0)⟩,
    ⟨.push, 4, none, .call 56 [(.s 0), (.c (.int .i64 (-2000))), (.c (.int .i64 (20000)))]⟩,
    ⟨.var 1, 2, none, .mov (.s 0)⟩])
 (.ret)), [.t 1]⟩
noncomputable def t_impl_ValidMag : List (Nat × Ctr) := [(56, c_impl_in)]
theorem lk_impl_ValidMag_56 : look t_impl_ValidMag 56 = some c_impl_in := rfl
noncomputable def c_impl_ValidMag : Ctr := mkF t_impl_ValidMag ir58 [.bor]
theorem s_impl_ValidMag : Sound Tryz.prog 58 c_impl_ValidMag := mkF_sound _ rfl (snd_cons s_impl_in snd_nil) (by kernel_rfl : chkFn Tryz.prog 58 ir58 ir58_v = true)
theorem M_impl_ValidMag : c_impl_ValidMag.modes = [.bor] := rfl
theorem Fl_impl_ValidMag : c_impl_ValidMag.flat = true := rfl
attribute [go_sem] M_impl_ValidMag Fl_impl_ValidMag
attribute [go_sem] lk_impl_ValidMag_56
theorem Fs_impl_ValidMag {m : Int} {y_ : Bool} (h : impl_ValidMag m = some y_) : c_impl_ValidMag.F [.int .i64 m] = ⟨true, .bool y_, [.any]⟩ := by
  refine mkF_E rfl ?_
  dsimp only [impl_ValidMag] at h
  obtain ⟨y_1, hk1, h⟩ := bd_some h
  have fhk1 := Fs_impl_in hk1
  try simp only [go_sem] at fhk1
  obtain rfl := so_some h
  refine ⟨0, fun L hL => ?_⟩
  simp only [go_sem, ir58, fhk1]


def ir42_v : List Nat := [0, 1, 2, 3]
def ir42 : AFn := ⟨1, 4, .seq (.region false [
    ⟨.var 1, 1, none, .box (.v 0)⟩,
    ⟨.var 2, 2, none, .mov (.c (.bool false))⟩])
 (.seq (.region false [
    ⟨.push, 4, none, .fldAddr 1 (.v 1)⟩,
    ⟨.push, 5, none, .load false 1 (.s 0)⟩,
    ⟨.push, 6, none, .call 56 [(.s 0), (.c (.int .i64 (0))), (.c (.int .i64 (86399)))]⟩,
    ⟨.push, 7, none, .mov (.s 0)⟩,
    ⟨.push, 8, (some ((.s 0), true)), .fldAddr 2 (.v 1)⟩,
    ⟨.push, 9, (some ((.s 1), true)), .load false 1 (.s 0)⟩,
    ⟨.push, 10, (some ((.s 2), true)), .call 56 [(.s 0), (.c (.int .i64 (-324000))), (.c (.int .i64 (324000)))]⟩,
    ⟨.push, 11, none, .pick (.s 3) (.s 0) (.c (.bool false))⟩,
    ⟨.var 3, 3, none, .mov (.s 0)⟩])
 (.seq (.region false [
    ⟨.push, 12, none, .fldAddr 0 (.v 1)⟩,
    ⟨.push, 13, none, .load false 1 (.s 0)⟩,
    ⟨.push, 14, none, .call 57 [(.s 0)]⟩,
    ⟨.push, 15, none, .mov (.s 0)⟩,
    ⟨.push, 16, (some ((.s 0), true)), .mov (.v 3)⟩,
    ⟨.push, 17, none, .pick (.s 1) (.s 0) (.c (.bool false))⟩,
    ⟨.push, 18, none, .mov (.s 0)⟩,
    ⟨.push, 19, (some ((.s 0), true)), .fldAddr 3 (.v 1)⟩,
    ⟨.push, 20, (some ((.s 1), true)), .load false 1 (.s 0)⟩,
    ⟨.push, 21, (some ((.s 2), true)), .call 58 [(.s 0)]⟩,
    ⟨.push, 22, none, .pick (.s 3) (.s 0) (.c (.bool false))⟩,
    ⟨.push, 23, none, .mov (.s 0)⟩,
    ⟨.push, 24, (some ((.s 0), true)), .fldAddr 4 (.v 1)⟩,
    ⟨.push, 25, (some ((.s 1), true)), .load false 1 (.s 0)⟩,
    ⟨.push, 26, (some ((.s 2), true)), .call 58 [(.s 0)]⟩,
    ⟨.push, 27, none, .pick (.s 3) (.s 0) (.c (.bool false))⟩,
    ⟨.push, 28, none, .mov (.s 0)⟩,
    ⟨.push, 29, (some ((.s 0), true)), .fldAddr 3 (.v 1)⟩,
    ⟨.push, 30, (some ((.s 1), true)), .load false 1 (.s 0)⟩,
    ⟨.push, 31, (some ((.s 2), true)), .fldAddr 4 (.v 1)⟩,
    ⟨.push, 32, (some ((.s 3), true)), .load false 1 (.s 0)⟩,
    ⟨.push, 33, (some ((.s 4), true)), .bin false .leq (.s 2) (.s 0)⟩,
    ⟨.push, 34, none, .pick (.s 5) (.s 0) (.c (.bool false))⟩,
    ⟨.var 2, 2, none, .mov (.s 0)⟩])
 (.ret))), [.t 2]⟩
noncomputable def t_impl_isStar : List (Nat × Ctr) := [(56, c_impl_in), (57, c_impl_IsName), (58, c_impl_ValidMag)]
theorem lk_impl_isStar_56 : look t_impl_isStar 56 = some c_impl_in := rfl
theorem lk_impl_isStar_57 : look t_impl_isStar 57 = some c_impl_IsName := rfl
theorem lk_impl_isStar_58 : look t_impl_isStar 58 = some c_impl_ValidMag := rfl
noncomputable def c_impl_isStar : Ctr := mkF t_impl_isStar ir42 [.bor]
theorem s_impl_isStar : Sound Tryz.prog 42 c_impl_isStar := mkF_sound _ rfl (snd_cons s_impl_in (snd_cons s_impl_IsName (snd_cons s_impl_ValidMag snd_nil))) (by kernel_rfl : chkFn Tryz.prog 42 ir42 ir42_v = true)
theorem M_impl_isStar : c_impl_isStar.modes = [.bor] := rfl
theorem Fl_impl_isStar : c_impl_isStar.flat = true := rfl
attribute [go_sem] M_impl_isStar Fl_impl_isStar
attribute [go_sem] lk_impl_isStar_56 lk_impl_isStar_57 lk_impl_isStar_58
theorem Fs_impl_isStar {x : Star} {y_ : Bool} (h : impl_isStar x = some y_) : c_impl_isStar.F [Star_av x] = ⟨true, .bool y_, [.any]⟩ := by
  refine mkF_E rfl ?_
  dsimp only [impl_isStar] at h
  obtain ⟨y_1, hk1, h⟩ := bd_some h
  have fhk1 := Fs_impl_in hk1
  try simp only [go_sem] at fhk1
  obtain ⟨hk2, h⟩ := ck_some h
  rcases or_split hk2 with ⟨ghk2, hk2⟩ | ghk2
  · try simp only [go_sem, n1, n2, n3, n4] at ghk2
    all_goals
    obtain ⟨y_2, hhk2⟩ := Option.isSome_iff_exists.1 hk2
    have fhk2 := Fs_impl_in hhk2
    try simp only [go_sem, ghk2] at fhk2
    obtain ⟨y_3, hk3, h⟩ := bd_some h
    have fhk3 := Fs_impl_IsName hk3
    try simp only [go_sem, ghk2, hhk2] at fhk3
    obtain ⟨hk4, h⟩ := ck_some h
    rcases or_split hk4 with ⟨ghk4, hk4⟩ | ghk4
    · try simp only [go_sem, n1, n2, n3, n4, ghk2, hhk2] at ghk4
      all_goals
      obtain ⟨y_4, hhk4⟩ := Option.isSome_iff_exists.1 hk4
      have fhk4 := Fs_impl_ValidMag hhk4
      try simp only [go_sem, ghk2, hhk2, ghk4] at fhk4
      obtain ⟨hk5, h⟩ := ck_some h
      rcases or_split hk5 with ⟨ghk5, hk5⟩ | ghk5
      · try simp only [go_sem, n1, n2, n3, n4, ghk2, hhk2, ghk4, hhk4] at ghk5
        all_goals
        obtain ⟨y_5, hhk5⟩ := Option.isSome_iff_exists.1 hk5
        have fhk5 := Fs_impl_ValidMag hhk5
        try simp only [go_sem, ghk2, hhk2, ghk4, hhk4, ghk5] at fhk5
        obtain rfl := so_some h
        refine ⟨0, fun L hL => ?_⟩
        simp only [go_sem, ir42, fhk1, ghk2, hhk2, fhk2, fhk3, ghk4, hhk4, fhk4, ghk5, hhk5, fhk5]
      · rcases and_f ghk5 with ghk5a | ⟨ghk5a, ghk5b⟩
        · rcases and_f ghk5a with ghk5aa | ⟨ghk5aa, ghk5ab⟩
          · try simp only [go_sem, n1, n2, n3, n4, ghk2, hhk2, ghk4, hhk4] at ghk5aa
            all_goals
            obtain rfl := so_some h
            refine ⟨0, fun L hL => ?_⟩
            simp only [go_sem, ir42, fhk1, ghk2, hhk2, fhk2, fhk3, ghk4, hhk4, fhk4, ghk5aa]
          · rcases and_f ghk5ab with ghk5aba | ⟨ghk5aba, ghk5abb⟩
            · try simp only [go_sem, n1, n2, n3, n4, ghk2, hhk2, ghk4, hhk4] at ghk5aa
              all_goals
              try simp only [go_sem, n1, n2, n3, n4, ghk2, hhk2, ghk4, hhk4, ghk5aa] at ghk5aba
              all_goals
              obtain rfl := so_some h
              refine ⟨0, fun L hL => ?_⟩
              simp only [go_sem, ir42, fhk1, ghk2, hhk2, fhk2, fhk3, ghk4, hhk4, fhk4, ghk5aa, ghk5aba]
            · try simp only [go_sem, n1, n2, n3, n4, ghk2, hhk2, ghk4, hhk4] at ghk5aa
              all_goals
              try simp only [go_sem, n1, n2, n3, n4, ghk2, hhk2, ghk4, hhk4, ghk5aa] at ghk5aba
              all_goals
              try simp only [go_sem, n1, n2, n3, n4, ghk2, hhk2, ghk4, hhk4, ghk5aa, ghk5aba] at ghk5abb
              all_goals
              obtain rfl := so_some h
              refine ⟨0, fun L hL => ?_⟩
              simp only [go_sem, ir42, fhk1, ghk2, hhk2, fhk2, fhk3, ghk4, hhk4, fhk4, ghk5aa, ghk5aba, ghk5abb]
        · obtain ⟨ghk5aa, ghk5ab⟩ := and_t ghk5a
          obtain ⟨ghk5aba, ghk5abb⟩ := and_t ghk5ab
          try simp only [go_sem, n1, n2, n3, n4, ghk2, hhk2, ghk4, hhk4] at ghk5aa
          all_goals
          try simp only [go_sem, n1, n2, n3, n4, ghk2, hhk2, ghk4, hhk4, ghk5aa] at ghk5aba
          all_goals
          try simp only [go_sem, n1, n2, n3, n4, ghk2, hhk2, ghk4, hhk4, ghk5aa, ghk5aba] at ghk5abb
          all_goals
          try simp only [go_sem, n1, n2, n3, n4, ghk2, hhk2, ghk4, hhk4, ghk5aa, ghk5aba, ghk5abb] at ghk5b
          all_goals
          obtain rfl := so_some h
          refine ⟨0, fun L hL => ?_⟩
          simp only [go_sem, ir42, fhk1, ghk2, hhk2, fhk2, fhk3, ghk4, hhk4, fhk4, ghk5aa, ghk5aba, ghk5abb, ghk5b]
    · rcases and_f ghk4 with ghk4a | ⟨ghk4a, ghk4b⟩
      · try simp only [go_sem, n1, n2, n3, n4, ghk2, hhk2] at ghk4a
        all_goals
        obtain ⟨hk5, h⟩ := ck_some h
        rcases or_split hk5 with ⟨ghk5, hk5⟩ | ghk5
        · try simp only [go_sem, n1, n2, n3, n4, ghk2, hhk2, ghk4a] at ghk5
          all_goals
          obtain ⟨y_5, hhk5⟩ := Option.isSome_iff_exists.1 hk5
          have fhk5 := Fs_impl_ValidMag hhk5
          try simp only [go_sem, ghk2, hhk2, ghk4a, ghk5] at fhk5
          obtain rfl := so_some h
          refine ⟨0, fun L hL => ?_⟩
          simp only [go_sem, ir42, fhk1, ghk2, hhk2, fhk2, fhk3, ghk4a, ghk5, hhk5, fhk5]
        · rcases and_f ghk5 with ghk5a | ⟨ghk5a, ghk5b⟩
          · rcases and_f ghk5a with ghk5aa | ⟨ghk5aa, ghk5ab⟩
            · try simp only [go_sem, n1, n2, n3, n4, ghk2, hhk2, ghk4a] at ghk5aa
              all_goals
              obtain rfl := so_some h
              refine ⟨0, fun L hL => ?_⟩
              simp only [go_sem, ir42, fhk1, ghk2, hhk2, fhk2, fhk3, ghk4a, ghk5aa]
            · rcases and_f ghk5ab with ghk5aba | ⟨ghk5aba, ghk5abb⟩
              · try simp only [go_sem, n1, n2, n3, n4, ghk2, hhk2, ghk4a] at ghk5aa
                all_goals
                try simp only [go_sem, n1, n2, n3, n4, ghk2, hhk2, ghk4a, ghk5aa] at ghk5aba
                all_goals
                obtain rfl := so_some h
                refine ⟨0, fun L hL => ?_⟩
                simp only [go_sem, ir42, fhk1, ghk2, hhk2, fhk2, fhk3, ghk4a, ghk5aa, ghk5aba]
              · try simp only [go_sem, n1, n2, n3, n4, ghk2, hhk2, ghk4a] at ghk5aa
                all_goals
                try simp only [go_sem, n1, n2, n3, n4, ghk2, hhk2, ghk4a, ghk5aa] at ghk5aba
                all_goals
                try simp only [go_sem, n1, n2, n3, n4, ghk2, hhk2, ghk4a, ghk5aa, ghk5aba] at ghk5abb
                all_goals
                obtain rfl := so_some h
                refine ⟨0, fun L hL => ?_⟩
                simp only [go_sem, ir42, fhk1, ghk2, hhk2, fhk2, fhk3, ghk4a, ghk5aa, ghk5aba, ghk5abb]
          · obtain ⟨ghk5aa, ghk5ab⟩ := and_t ghk5a
            obtain ⟨ghk5aba, ghk5abb⟩ := and_t ghk5ab
            try simp only [go_sem, n1, n2, n3, n4, ghk2, hhk2, ghk4a] at ghk5aa
            all_goals
            try simp only [go_sem, n1, n2, n3, n4, ghk2, hhk2, ghk4a, ghk5aa] at ghk5aba
            all_goals
            try simp only [go_sem, n1, n2, n3, n4, ghk2, hhk2, ghk4a, ghk5aa, ghk5aba] at ghk5abb
            all_goals
            try simp only [go_sem, n1, n2, n3, n4, ghk2, hhk2, ghk4a, ghk5aa, ghk5aba, ghk5abb] at ghk5b
            all_goals
            obtain rfl := so_some h
            refine ⟨0, fun L hL => ?_⟩
            simp only [go_sem, ir42, fhk1, ghk2, hhk2, fhk2, fhk3, ghk4a, ghk5aa, ghk5aba, ghk5abb, ghk5b]
      · rcases and_f ghk4b with ghk4ba | ⟨ghk4ba, ghk4bb⟩
        · try simp only [go_sem, n1, n2, n3, n4, ghk2, hhk2] at ghk4a
          all_goals
          try simp only [go_sem, n1, n2, n3, n4, ghk2, hhk2, ghk4a] at ghk4ba
          all_goals
          obtain ⟨hk5, h⟩ := ck_some h
          rcases or_split hk5 with ⟨ghk5, hk5⟩ | ghk5
          · try simp only [go_sem, n1, n2, n3, n4, ghk2, hhk2, ghk4a, ghk4ba] at ghk5
            all_goals
            obtain ⟨y_5, hhk5⟩ := Option.isSome_iff_exists.1 hk5
            have fhk5 := Fs_impl_ValidMag hhk5
            try simp only [go_sem, ghk2, hhk2, ghk4a, ghk4ba, ghk5] at fhk5
            obtain rfl := so_some h
            refine ⟨0, fun L hL => ?_⟩
            simp only [go_sem, ir42, fhk1, ghk2, hhk2, fhk2, fhk3, ghk4a, ghk4ba, ghk5, hhk5, fhk5]
          · rcases and_f ghk5 with ghk5a | ⟨ghk5a, ghk5b⟩
            · rcases and_f ghk5a with ghk5aa | ⟨ghk5aa, ghk5ab⟩
              · try simp only [go_sem, n1, n2, n3, n4, ghk2, hhk2, ghk4a, ghk4ba] at ghk5aa
                all_goals
                obtain rfl := so_some h
                refine ⟨0, fun L hL => ?_⟩
                simp only [go_sem, ir42, fhk1, ghk2, hhk2, fhk2, fhk3, ghk4a, ghk4ba, ghk5aa]
              · rcases and_f ghk5ab with ghk5aba | ⟨ghk5aba, ghk5abb⟩
                · try simp only [go_sem, n1, n2, n3, n4, ghk2, hhk2, ghk4a, ghk4ba] at ghk5aa
                  all_goals
                  try simp only [go_sem, n1, n2, n3, n4, ghk2, hhk2, ghk4a, ghk4ba, ghk5aa] at ghk5aba
                  all_goals
                  obtain rfl := so_some h
                  refine ⟨0, fun L hL => ?_⟩
                  simp only [go_sem, ir42, fhk1, ghk2, hhk2, fhk2, fhk3, ghk4a, ghk4ba, ghk5aa, ghk5aba]
                · try simp only [go_sem, n1, n2, n3, n4, ghk2, hhk2, ghk4a, ghk4ba] at ghk5aa
                  all_goals
                  try simp only [go_sem, n1, n2, n3, n4, ghk2, hhk2, ghk4a, ghk4ba, ghk5aa] at ghk5aba
                  all_goals
                  try simp only [go_sem, n1, n2, n3, n4, ghk2, hhk2, ghk4a, ghk4ba, ghk5aa, ghk5aba] at ghk5abb
                  all_goals
                  obtain rfl := so_some h
                  refine ⟨0, fun L hL => ?_⟩
                  simp only [go_sem, ir42, fhk1, ghk2, hhk2, fhk2, fhk3, ghk4a, ghk4ba, ghk5aa, ghk5aba, ghk5abb]
            · obtain ⟨ghk5aa, ghk5ab⟩ := and_t ghk5a
              obtain ⟨ghk5aba, ghk5abb⟩ := and_t ghk5ab
              try simp only [go_sem, n1, n2, n3, n4, ghk2, hhk2, ghk4a, ghk4ba] at ghk5aa
              all_goals
              try simp only [go_sem, n1, n2, n3, n4, ghk2, hhk2, ghk4a, ghk4ba, ghk5aa] at ghk5aba
              all_goals
              try simp only [go_sem, n1, n2, n3, n4, ghk2, hhk2, ghk4a, ghk4ba, ghk5aa, ghk5aba] at ghk5abb
              all_goals
              try simp only [go_sem, n1, n2, n3, n4, ghk2, hhk2, ghk4a, ghk4ba, ghk5aa, ghk5aba, ghk5abb] at ghk5b
              all_goals
              obtain rfl := so_some h
              refine ⟨0, fun L hL => ?_⟩
              simp only [go_sem, ir42, fhk1, ghk2, hhk2, fhk2, fhk3, ghk4a, ghk4ba, ghk5aa, ghk5aba, ghk5abb, ghk5b]
        · try simp only [go_sem, n1, n2, n3, n4, ghk2, hhk2] at ghk4a
          all_goals
          try simp only [go_sem, n1, n2, n3, n4, ghk2, hhk2, ghk4a] at ghk4ba
          all_goals
          try simp only [go_sem, n1, n2, n3, n4, ghk2, hhk2, ghk4a, ghk4ba] at ghk4bb
          all_goals
          obtain ⟨hk5, h⟩ := ck_some h
          rcases or_split hk5 with ⟨ghk5, hk5⟩ | ghk5
          · try simp only [go_sem, n1, n2, n3, n4, ghk2, hhk2, ghk4a, ghk4ba, ghk4bb] at ghk5
            all_goals
            obtain ⟨y_5, hhk5⟩ := Option.isSome_iff_exists.1 hk5
            have fhk5 := Fs_impl_ValidMag hhk5
            try simp only [go_sem, ghk2, hhk2, ghk4a, ghk4ba, ghk4bb, ghk5] at fhk5
            obtain rfl := so_some h
            refine ⟨0, fun L hL => ?_⟩
            simp only [go_sem, ir42, fhk1, ghk2, hhk2, fhk2, fhk3, ghk4a, ghk4ba, ghk4bb, ghk5, hhk5, fhk5]
          · rcases and_f ghk5 with ghk5a | ⟨ghk5a, ghk5b⟩
            · rcases and_f ghk5a with ghk5aa | ⟨ghk5aa, ghk5ab⟩
              · try simp only [go_sem, n1, n2, n3, n4, ghk2, hhk2, ghk4a, ghk4ba, ghk4bb] at ghk5aa
                all_goals
                obtain rfl := so_some h
                refine ⟨0, fun L hL => ?_⟩
                simp only [go_sem, ir42, fhk1, ghk2, hhk2, fhk2, fhk3, ghk4a, ghk4ba, ghk4bb, ghk5aa]
              · rcases and_f ghk5ab with ghk5aba | ⟨ghk5aba, ghk5abb⟩
                · try simp only [go_sem, n1, n2, n3, n4, ghk2, hhk2, ghk4a, ghk4ba, ghk4bb] at ghk5aa
                  all_goals
                  try simp only [go_sem, n1, n2, n3, n4, ghk2, hhk2, ghk4a, ghk4ba, ghk4bb, ghk5aa] at ghk5aba
                  all_goals
                  obtain rfl := so_some h
                  refine ⟨0, fun L hL => ?_⟩
                  simp only [go_sem, ir42, fhk1, ghk2, hhk2, fhk2, fhk3, ghk4a, ghk4ba, ghk4bb, ghk5aa, ghk5aba]
                · try simp only [go_sem, n1, n2, n3, n4, ghk2, hhk2, ghk4a, ghk4ba, ghk4bb] at ghk5aa
                  all_goals
                  try simp only [go_sem, n1, n2, n3, n4, ghk2, hhk2, ghk4a, ghk4ba, ghk4bb, ghk5aa] at ghk5aba
                  all_goals
                  try simp only [go_sem, n1, n2, n3, n4, ghk2, hhk2, ghk4a, ghk4ba, ghk4bb, ghk5aa, ghk5aba] at ghk5abb
                  all_goals
                  obtain rfl := so_some h
                  refine ⟨0, fun L hL => ?_⟩
                  simp only [go_sem, ir42, fhk1, ghk2, hhk2, fhk2, fhk3, ghk4a, ghk4ba, ghk4bb, ghk5aa, ghk5aba, ghk5abb]
            · obtain ⟨ghk5aa, ghk5ab⟩ := and_t ghk5a
              obtain ⟨ghk5aba, ghk5abb⟩ := and_t ghk5ab
              try simp only [go_sem, n1, n2, n3, n4, ghk2, hhk2, ghk4a, ghk4ba, ghk4bb] at ghk5aa
              all_goals
              try simp only [go_sem, n1, n2, n3, n4, ghk2, hhk2, ghk4a, ghk4ba, ghk4bb, ghk5aa] at ghk5aba
              all_goals
              try simp only [go_sem, n1, n2, n3, n4, ghk2, hhk2, ghk4a, ghk4ba, ghk4bb, ghk5aa, ghk5aba] at ghk5abb
              all_goals
              try simp only [go_sem, n1, n2, n3, n4, ghk2, hhk2, ghk4a, ghk4ba, ghk4bb, ghk5aa, ghk5aba, ghk5abb] at ghk5b
              all_goals
              obtain rfl := so_some h
              refine ⟨0, fun L hL => ?_⟩
              simp only [go_sem, ir42, fhk1, ghk2, hhk2, fhk2, fhk3, ghk4a, ghk4ba, ghk4bb, ghk5aa, ghk5aba, ghk5abb, ghk5b]
  · try simp only [go_sem, n1, n2, n3, n4] at ghk2
    all_goals
    obtain ⟨y_3, hk3, h⟩ := bd_some h
    have fhk3 := Fs_impl_IsName hk3
    try simp only [go_sem, ghk2] at fhk3
    obtain ⟨hk4, h⟩ := ck_some h
    rcases or_split hk4 with ⟨ghk4, hk4⟩ | ghk4
    · try simp only [go_sem, n1, n2, n3, n4, ghk2] at ghk4
      all_goals
      obtain ⟨y_4, hhk4⟩ := Option.isSome_iff_exists.1 hk4
      have fhk4 := Fs_impl_ValidMag hhk4
      try simp only [go_sem, ghk2, ghk4] at fhk4
      obtain ⟨hk5, h⟩ := ck_some h
      rcases or_split hk5 with ⟨ghk5, hk5⟩ | ghk5
      · try simp only [go_sem, n1, n2, n3, n4, ghk2, ghk4, hhk4] at ghk5
        all_goals
        obtain ⟨y_5, hhk5⟩ := Option.isSome_iff_exists.1 hk5
        have fhk5 := Fs_impl_ValidMag hhk5
        try simp only [go_sem, ghk2, ghk4, hhk4, ghk5] at fhk5
        obtain rfl := so_some h
        refine ⟨0, fun L hL => ?_⟩
        simp only [go_sem, ir42, fhk1, ghk2, fhk3, ghk4, hhk4, fhk4, ghk5, hhk5, fhk5]
      · rcases and_f ghk5 with ghk5a | ⟨ghk5a, ghk5b⟩
        · rcases and_f ghk5a with ghk5aa | ⟨ghk5aa, ghk5ab⟩
          · try simp only [go_sem, n1, n2, n3, n4, ghk2, ghk4, hhk4] at ghk5aa
            all_goals
            obtain rfl := so_some h
            refine ⟨0, fun L hL => ?_⟩
            simp only [go_sem, ir42, fhk1, ghk2, fhk3, ghk4, hhk4, fhk4, ghk5aa]
          · rcases and_f ghk5ab with ghk5aba | ⟨ghk5aba, ghk5abb⟩
            · try simp only [go_sem, n1, n2, n3, n4, ghk2, ghk4, hhk4] at ghk5aa
              all_goals
              try simp only [go_sem, n1, n2, n3, n4, ghk2, ghk4, hhk4, ghk5aa] at ghk5aba
              all_goals
              obtain rfl := so_some h
              refine ⟨0, fun L hL => ?_⟩
              simp only [go_sem, ir42, fhk1, ghk2, fhk3, ghk4, hhk4, fhk4, ghk5aa, ghk5aba]
            · try simp only [go_sem, n1, n2, n3, n4, ghk2, ghk4, hhk4] at ghk5aa
              all_goals
              try simp only [go_sem, n1, n2, n3, n4, ghk2, ghk4, hhk4, ghk5aa] at ghk5aba
              all_goals
              try simp only [go_sem, n1, n2, n3, n4, ghk2, ghk4, hhk4, ghk5aa, ghk5aba] at ghk5abb
              all_goals
              obtain rfl := so_some h
              refine ⟨0, fun L hL => ?_⟩
              simp only [go_sem, ir42, fhk1, ghk2, fhk3, ghk4, hhk4, fhk4, ghk5aa, ghk5aba, ghk5abb]
        · obtain ⟨ghk5aa, ghk5ab⟩ := and_t ghk5a
          obtain ⟨ghk5aba, ghk5abb⟩ := and_t ghk5ab
          try simp only [go_sem, n1, n2, n3, n4, ghk2, ghk4, hhk4] at ghk5aa
          all_goals
          try simp only [go_sem, n1, n2, n3, n4, ghk2, ghk4, hhk4, ghk5aa] at ghk5aba
          all_goals
          try simp only [go_sem, n1, n2, n3, n4, ghk2, ghk4, hhk4, ghk5aa, ghk5aba] at ghk5abb
          all_goals
          try simp only [go_sem, n1, n2, n3, n4, ghk2, ghk4, hhk4, ghk5aa, ghk5aba, ghk5abb] at ghk5b
          all_goals
          obtain rfl := so_some h
          refine ⟨0, fun L hL => ?_⟩
          simp only [go_sem, ir42, fhk1, ghk2, fhk3, ghk4, hhk4, fhk4, ghk5aa, ghk5aba, ghk5abb, ghk5b]
    · rcases and_f ghk4 with ghk4a | ⟨ghk4a, ghk4b⟩
      · try simp only [go_sem, n1, n2, n3, n4, ghk2] at ghk4a
        all_goals
        obtain ⟨hk5, h⟩ := ck_some h
        rcases or_split hk5 with ⟨ghk5, hk5⟩ | ghk5
        · try simp only [go_sem, n1, n2, n3, n4, ghk2, ghk4a] at ghk5
          all_goals
          obtain ⟨y_5, hhk5⟩ := Option.isSome_iff_exists.1 hk5
          have fhk5 := Fs_impl_ValidMag hhk5
          try simp only [go_sem, ghk2, ghk4a, ghk5] at fhk5
          obtain rfl := so_some h
          refine ⟨0, fun L hL => ?_⟩
          simp only [go_sem, ir42, fhk1, ghk2, fhk3, ghk4a, ghk5, hhk5, fhk5]
        · rcases and_f ghk5 with ghk5a | ⟨ghk5a, ghk5b⟩
          · rcases and_f ghk5a with ghk5aa | ⟨ghk5aa, ghk5ab⟩
            · try simp only [go_sem, n1, n2, n3, n4, ghk2, ghk4a] at ghk5aa
              all_goals
              obtain rfl := so_some h
              refine ⟨0, fun L hL => ?_⟩
              simp only [go_sem, ir42, fhk1, ghk2, fhk3, ghk4a, ghk5aa]
            · rcases and_f ghk5ab with ghk5aba | ⟨ghk5aba, ghk5abb⟩
              · try simp only [go_sem, n1, n2, n3, n4, ghk2, ghk4a] at ghk5aa
                all_goals
                try simp only [go_sem, n1, n2, n3, n4, ghk2, ghk4a, ghk5aa] at ghk5aba
                all_goals
                obtain rfl := so_some h
                refine ⟨0, fun L hL => ?_⟩
                simp only [go_sem, ir42, fhk1, ghk2, fhk3, ghk4a, ghk5aa, ghk5aba]
              · try simp only [go_sem, n1, n2, n3, n4, ghk2, ghk4a] at ghk5aa
                all_goals
                try simp only [go_sem, n1, n2, n3, n4, ghk2, ghk4a, ghk5aa] at ghk5aba
                all_goals
                try simp only [go_sem, n1, n2, n3, n4, ghk2, ghk4a, ghk5aa, ghk5aba] at ghk5abb
                all_goals
                obtain rfl := so_some h
                refine ⟨0, fun L hL => ?_⟩
                simp only [go_sem, ir42, fhk1, ghk2, fhk3, ghk4a, ghk5aa, ghk5aba, ghk5abb]
          · obtain ⟨ghk5aa, ghk5ab⟩ := and_t ghk5a
            obtain ⟨ghk5aba, ghk5abb⟩ := and_t ghk5ab
            try simp only [go_sem, n1, n2, n3, n4, ghk2, ghk4a] at ghk5aa
            all_goals
            try simp only [go_sem, n1, n2, n3, n4, ghk2, ghk4a, ghk5aa] at ghk5aba
            all_goals
            try simp only [go_sem, n1, n2, n3, n4, ghk2, ghk4a, ghk5aa, ghk5aba] at ghk5abb
            all_goals
            try simp only [go_sem, n1, n2, n3, n4, ghk2, ghk4a, ghk5aa, ghk5aba, ghk5abb] at ghk5b
            all_goals
            obtain rfl := so_some h
            refine ⟨0, fun L hL => ?_⟩
            simp only [go_sem, ir42, fhk1, ghk2, fhk3, ghk4a, ghk5aa, ghk5aba, ghk5abb, ghk5b]
      · rcases and_f ghk4b with ghk4ba | ⟨ghk4ba, ghk4bb⟩
        · try simp only [go_sem, n1, n2, n3, n4, ghk2] at ghk4a
          all_goals
          try simp only [go_sem, n1, n2, n3, n4, ghk2, ghk4a] at ghk4ba
          all_goals
          obtain ⟨hk5, h⟩ := ck_some h
          rcases or_split hk5 with ⟨ghk5, hk5⟩ | ghk5
          · try simp only [go_sem, n1, n2, n3, n4, ghk2, ghk4a, ghk4ba] at ghk5
            all_goals
            obtain ⟨y_5, hhk5⟩ := Option.isSome_iff_exists.1 hk5
            have fhk5 := Fs_impl_ValidMag hhk5
            try simp only [go_sem, ghk2, ghk4a, ghk4ba, ghk5] at fhk5
            obtain rfl := so_some h
            refine ⟨0, fun L hL => ?_⟩
            simp only [go_sem, ir42, fhk1, ghk2, fhk3, ghk4a, ghk4ba, ghk5, hhk5, fhk5]
          · rcases and_f ghk5 with ghk5a | ⟨ghk5a, ghk5b⟩
            · rcases and_f ghk5a with ghk5aa | ⟨ghk5aa, ghk5ab⟩
              · try simp only [go_sem, n1, n2, n3, n4, ghk2, ghk4a, ghk4ba] at ghk5aa
                all_goals
                obtain rfl := so_some h
                refine ⟨0, fun L hL => ?_⟩
                simp only [go_sem, ir42, fhk1, ghk2, fhk3, ghk4a, ghk4ba, ghk5aa]
              · rcases and_f ghk5ab with ghk5aba | ⟨ghk5aba, ghk5abb⟩
                · try simp only [go_sem, n1, n2, n3, n4, ghk2, ghk4a, ghk4ba] at ghk5aa
                  all_goals
                  try simp only [go_sem, n1, n2, n3, n4, ghk2, ghk4a, ghk4ba, ghk5aa] at ghk5aba
                  all_goals
                  obtain rfl := so_some h
                  refine ⟨0, fun L hL => ?_⟩
                  simp only [go_sem, ir42, fhk1, ghk2, fhk3, ghk4a, ghk4ba, ghk5aa, ghk5aba]
                · try simp only [go_sem, n1, n2, n3, n4, ghk2, ghk4a, ghk4ba] at ghk5aa
                  all_goals
                  try simp only [go_sem, n1, n2, n3, n4, ghk2, ghk4a, ghk4ba, ghk5aa] at ghk5aba
                  all_goals
                  try simp only [go_sem, n1, n2, n3, n4, ghk2, ghk4a, ghk4ba, ghk5aa, ghk5aba] at ghk5abb
                  all_goals
                  obtain rfl := so_some h
                  refine ⟨0, fun L hL => ?_⟩
                  simp only [go_sem, ir42, fhk1, ghk2, fhk3, ghk4a, ghk4ba, ghk5aa, ghk5aba, ghk5abb]
            · obtain ⟨ghk5aa, ghk5ab⟩ := and_t ghk5a
              obtain ⟨ghk5aba, ghk5abb⟩ := and_t ghk5ab
              try simp only [go_sem, n1, n2, n3, n4, ghk2, ghk4a, ghk4ba] at ghk5aa
              all_goals
              try simp only [go_sem, n1, n2, n3, n4, ghk2, ghk4a, ghk4ba, ghk5aa] at ghk5aba
              all_goals
              try simp only [go_sem, n1, n2, n3, n4, ghk2, ghk4a, ghk4ba, ghk5aa, ghk5aba] at ghk5abb
              all_goals
              try simp only [go_sem, n1, n2, n3, n4, ghk2, ghk4a, ghk4ba, ghk5aa, ghk5aba, ghk5abb] at ghk5b
              all_goals
              obtain rfl := so_some h
              refine ⟨0, fun L hL => ?_⟩
              simp only [go_sem, ir42, fhk1, ghk2, fhk3, ghk4a, ghk4ba, ghk5aa, ghk5aba, ghk5abb, ghk5b]
        · try simp only [go_sem, n1, n2, n3, n4, ghk2] at ghk4a
          all_goals
          try simp only [go_sem, n1, n2, n3, n4, ghk2, ghk4a] at ghk4ba
          all_goals
          try simp only [go_sem, n1, n2, n3, n4, ghk2, ghk4a, ghk4ba] at ghk4bb
          all_goals
          obtain ⟨hk5, h⟩ := ck_some h
          rcases or_split hk5 with ⟨ghk5, hk5⟩ | ghk5
          · try simp only [go_sem, n1, n2, n3, n4, ghk2, ghk4a, ghk4ba, ghk4bb] at ghk5
            all_goals
            obtain ⟨y_5, hhk5⟩ := Option.isSome_iff_exists.1 hk5
            have fhk5 := Fs_impl_ValidMag hhk5
            try simp only [go_sem, ghk2, ghk4a, ghk4ba, ghk4bb, ghk5] at fhk5
            obtain rfl := so_some h
            refine ⟨0, fun L hL => ?_⟩
            simp only [go_sem, ir42, fhk1, ghk2, fhk3, ghk4a, ghk4ba, ghk4bb, ghk5, hhk5, fhk5]
          · rcases and_f ghk5 with ghk5a | ⟨ghk5a, ghk5b⟩
            · rcases and_f ghk5a with ghk5aa | ⟨ghk5aa, ghk5ab⟩
              · try simp only [go_sem, n1, n2, n3, n4, ghk2, ghk4a, ghk4ba, ghk4bb] at ghk5aa
                all_goals
                obtain rfl := so_some h
                refine ⟨0, fun L hL => ?_⟩
                simp only [go_sem, ir42, fhk1, ghk2, fhk3, ghk4a, ghk4ba, ghk4bb, ghk5aa]
              · rcases and_f ghk5ab with ghk5aba | ⟨ghk5aba, ghk5abb⟩
                · try simp only [go_sem, n1, n2, n3, n4, ghk2, ghk4a, ghk4ba, ghk4bb] at ghk5aa
                  all_goals
                  try simp only [go_sem, n1, n2, n3, n4, ghk2, ghk4a, ghk4ba, ghk4bb, ghk5aa] at ghk5aba
                  all_goals
                  obtain rfl := so_some h
                  refine ⟨0, fun L hL => ?_⟩
                  simp only [go_sem, ir42, fhk1, ghk2, fhk3, ghk4a, ghk4ba, ghk4bb, ghk5aa, ghk5aba]
                · try simp only [go_sem, n1, n2, n3, n4, ghk2, ghk4a, ghk4ba, ghk4bb] at ghk5aa
                  all_goals
                  try simp only [go_sem, n1, n2, n3, n4, ghk2, ghk4a, ghk4ba, ghk4bb, ghk5aa] at ghk5aba
                  all_goals
                  try simp only [go_sem, n1, n2, n3, n4, ghk2, ghk4a, ghk4ba, ghk4bb, ghk5aa, ghk5aba] at ghk5abb
                  all_goals
                  obtain rfl := so_some h
                  refine ⟨0, fun L hL => ?_⟩
                  simp only [go_sem, ir42, fhk1, ghk2, fhk3, ghk4a, ghk4ba, ghk4bb, ghk5aa, ghk5aba, ghk5abb]
            · obtain ⟨ghk5aa, ghk5ab⟩ := and_t ghk5a
              obtain ⟨ghk5aba, ghk5abb⟩ := and_t ghk5ab
              try simp only [go_sem, n1, n2, n3, n4, ghk2, ghk4a, ghk4ba, ghk4bb] at ghk5aa
              all_goals
              try simp only [go_sem, n1, n2, n3, n4, ghk2, ghk4a, ghk4ba, ghk4bb, ghk5aa] at ghk5aba
              all_goals
              try simp only [go_sem, n1, n2, n3, n4, ghk2, ghk4a, ghk4ba, ghk4bb, ghk5aa, ghk5aba] at ghk5abb
              all_goals
              try simp only [go_sem, n1, n2, n3, n4, ghk2, ghk4a, ghk4ba, ghk4bb, ghk5aa, ghk5aba, ghk5abb] at ghk5b
              all_goals
              obtain rfl := so_some h
              refine ⟨0, fun L hL => ?_⟩
              simp only [go_sem, ir42, fhk1, ghk2, fhk3, ghk4a, ghk4ba, ghk4bb, ghk5aa, ghk5aba, ghk5abb, ghk5b]


def ir43_v : List Nat := [0, 1, 2]
def ir43 : AFn := ⟨1, 3, .seq (.region false [
    ⟨.var 1, 1, none, .box (.v 0)⟩,
    ⟨.var 2, 2, none, .mov (.c (.str []))⟩])
 (.seq (.region false [
    ⟨.push, 3, none, .fldAddr 0 (.v 1)⟩,
    ⟨.push, 4, none, .load false 1 (.s 0)⟩,
    ⟨.var 2, 2, none, .mov (.s 0)⟩])
 (.ret)), [.t 2]⟩
noncomputable def t_impl_starName : List (Nat × Ctr) := []
noncomputable def c_impl_starName : Ctr := mkF t_impl_starName ir43 [.bor]
theorem s_impl_starName : Sound Tryz.prog 43 c_impl_starName := mkF_sound _ rfl snd_nil (by kernel_rfl : chkFn Tryz.prog 43 ir43 ir43_v = true)
theorem M_impl_starName : c_impl_starName.modes = [.bor] := rfl
theorem Fl_impl_starName : c_impl_starName.flat = true := rfl
attribute [go_sem] M_impl_starName Fl_impl_starName
theorem Fs_impl_starName {x : Star} {y_ : (List UInt8)} (h : impl_starName x = some y_) : c_impl_starName.F [Star_av x] = ⟨true, .str y_, [.any]⟩ := by
  refine mkF_E rfl ?_
  dsimp only [impl_starName] at h
  obtain rfl := so_some h
  refine ⟨0, fun L hL => ?_⟩
  simp only [go_sem, ir43]


def ir41_b0 : IR := .seq (.region false [
    ⟨.var 10, 18, none, .bin false .lss (.v 9) (.v 8)⟩])
 (.seq (.cond (.v 10) (.skip)
  (.exit 0))
 (.seq (.block 1 (.seq (.region false [
      ⟨.push, 19, none, .mov (.v 9)⟩,
      ⟨.push, 20, none, .ixAddr 5 (.v 7) (.v 9)⟩,
      ⟨.push, 21, none, .load true 5 (.s 0)⟩,
      ⟨.var 6, 10, none, .alloc (.agg [.str [], .int .i64 (0), .int .i64 (0), .int .i64 (0), .int .i64 (0)])⟩,
      ⟨.var 5, 9, none, .mov (.s 2)⟩,
      ⟨.no, 0, none, .store 5 (.v 6) (.s 0)⟩])
   (.anyo 21 [
     ⟨.slot 0, 22, none, .mov (.v 2)⟩,
     ⟨.slot 1, 23, none, .load true 5 (.v 6)⟩,
     ⟨.slot 2, 24, none, .pur (.callv (.s 0) [(.s 1)])⟩,
     ⟨.slot 3, 25, none, .un .not (.s 2)⟩,
     ⟨.slot 4, 26, none, .mov (.s 3)⟩,
     ⟨.slot 5, 27, (some ((.s 4), false)), .mov (.v 5)⟩,
     ⟨.slot 6, 28, (some ((.s 4), false)), .bin false .gtr (.s 5) (.c (.int .i64 (0)))⟩,
     ⟨.slot 7, 29, (some ((.s 4), false)), .mov (.s 6)⟩,
     ⟨.slot 8, 30, (some ((.s 7), true)), .mov (.v 3)⟩,
     ⟨.slot 9, 31, (some ((.s 7), true)), .mov (.v 0)⟩,
     ⟨.slot 10, 32, (some ((.s 7), true)), .mov (.v 5)⟩,
     ⟨.slot 11, 33, (some ((.s 7), true)), .bin false .sub (.s 10) (.c (.int .i64 (1)))⟩,
     ⟨.slot 12, 34, (some ((.s 7), true)), .ixAddr 5 (.s 9) (.s 11)⟩,
     ⟨.slot 13, 35, (some ((.s 7), true)), .load true 5 (.s 12)⟩,
     ⟨.slot 14, 36, (some ((.s 7), true)), .callv (.s 8) [(.s 13)]⟩,
     ⟨.slot 15, 37, (some ((.s 7), true)), .mov (.v 3)⟩,
     ⟨.slot 16, 38, (some ((.s 7), true)), .load true 5 (.v 6)⟩,
     ⟨.slot 17, 39, (some ((.s 7), true)), .callv (.s 15) [(.s 16)]⟩,
     ⟨.slot 18, 40, (some ((.s 7), true)), .bin false .geq (.s 14) (.s 17)⟩,
     ⟨.slot 19, 41, (some ((.s 4), false)), .pick (.s 7) (.s 18) (.c (.bool false))⟩,
     ⟨.slot 20, 42, none, .pick (.s 4) (.c (.bool true)) (.s 19)⟩] [] (.cond (.s 20)
   (.seq (.region false [
       ⟨.var 4, 8, none, .mov (.c (.bool false))⟩])
    (.ret))
   (.skip)))))
 (.region false [
   ⟨.push, 43, none, .bin false .add (.v 9) (.c (.int .i64 (1)))⟩,
   ⟨.var 9, 17, none, .mov (.s 0)⟩])))
def ir41_k0 : List Bool := [true, false, true, true, false, false, false, true, true, true, false]
def ir41_o0 : List Bool := [false, false, false, false, false, false, false, false, false, false, false]
def ir41_r0 : List Bool := [false, false, false, false, true, false, false, false, false, false, false]
def ir41_v : List Nat := [0, 1, 2, 3, 8, 9, 10, 15, 16, 17, 18]
def ir41 : AFn := ⟨4, 11, .seq (.region false [
    ⟨.var 4, 8, none, .mov (.c (.bool false))⟩])
 (.seq (.test false [
    ⟨.push, 11, none, .mov (.v 0)⟩,
    ⟨.push, 12, none, .len false (.s 0)⟩,
    ⟨.push, 13, none, .mov (.v 1)⟩,
    ⟨.push, 14, none, .bin false .gtr (.s 1) (.s 0)⟩] (.s 0)
  (.seq (.region false [
      ⟨.var 4, 8, none, .mov (.c (.bool false))⟩])
   (.ret))
  (.skip))
 (.seq (.seq (.region false [
     ⟨.var 7, 15, none, .mov (.v 0)⟩,
     ⟨.var 8, 16, none, .len false (.v 7)⟩,
     ⟨.var 9, 17, none, .mov (.c (.int .i64 (0)))⟩])
  (.block 0 (.loop ir41_k0 ir41_o0 ir41_r0 ir41_b0)))
 (.seq (.region false [
    ⟨.var 4, 8, none, .mov (.c (.bool true))⟩])
 (.ret)))), [.t 4]⟩
noncomputable def t_impl_rising_impl_Star__impl_isStar__impl_starName : List (Nat × Ctr) := [(42, c_impl_isStar), (43, c_impl_starName)]
theorem lk_impl_rising_impl_Star__impl_isStar__impl_starName_42 : look t_impl_rising_impl_Star__impl_isStar__impl_starName 42 = some c_impl_isStar := rfl
theorem lk_impl_rising_impl_Star__impl_isStar__impl_starName_43 : look t_impl_rising_impl_Star__impl_isStar__impl_starName 43 = some c_impl_starName := rfl
noncomputable def c_impl_rising_impl_Star__impl_isStar__impl_starName : Ctr := mkF t_impl_rising_impl_Star__impl_isStar__impl_starName ir41 [.bor, .bor, .bor, .bor]
theorem s_impl_rising_impl_Star__impl_isStar__impl_starName : Sound Tryz.prog 41 c_impl_rising_impl_Star__impl_isStar__impl_starName := mkF_sound _ rfl (snd_cons s_impl_isStar (snd_cons s_impl_starName snd_nil)) (by kernel_rfl : chkFn Tryz.prog 41 ir41 ir41_v = true)
theorem M_impl_rising_impl_Star__impl_isStar__impl_starName : c_impl_rising_impl_Star__impl_isStar__impl_starName.modes = [.bor, .bor, .bor, .bor] := rfl
theorem Fl_impl_rising_impl_Star__impl_isStar__impl_starName : c_impl_rising_impl_Star__impl_isStar__impl_starName.flat = true := rfl
attribute [go_sem] M_impl_rising_impl_Star__impl_isStar__impl_starName Fl_impl_rising_impl_Star__impl_isStar__impl_starName
attribute [go_sem] lk_impl_rising_impl_Star__impl_isStar__impl_starName_42 lk_impl_rising_impl_Star__impl_isStar__impl_starName_43
def E_impl_rising_impl_Star__impl_isStar__impl_starName_l1 (list : List Star) (t15 : List Star) (t16 : Int) : Int → St
  | t17 => ⟨[.sl 5 (List.map Star_av list), .any, .fn (.func 42) [] [], .fn (.func 43) [] [], .any, .any, .any, .sl 5 (List.map Star_av t15), .int .i64 t16, .int .i64 t17, .any], [], [], true⟩
def R_impl_rising_impl_Star__impl_isStar__impl_starName_l1 (list : List Star) (t15 : List Star) (t16 : Int) : (Unit ⊕ Bool) → Res
  | .inl y => (.exit 0, ⟨[.any, .any, .any, .any, .any, .any, .any, .any, .any, .any, .any], [], [], true⟩)
  | .inr y => (.ret, ⟨[.any, .any, .any, .any, .bool y, .any, .any, .any, .any, .any, .any], [], [], true⟩)
theorem impl_rising_impl_Star__impl_isStar__impl_starName_l1_ex {list : List Star} {t15 : List Star} {t16 : Int} {sgm_ : Int} {rho_ : Unit ⊕ Bool} (h : whileE (impl_rising_impl_Star__impl_isStar__impl_starName_l1 list t15 t16) sgm_ = some rho_) : ∃ L0, ∀ L, L0 ≤ L → iter (exec (look t_impl_rising_impl_Star__impl_isStar__impl_starName) L ir41_b0) ir41_k0 ir41_o0 ir41_r0 L (E_impl_rising_impl_Star__impl_isStar__impl_starName_l1 list t15 t16 sgm_) = R_impl_rising_impl_Star__impl_isStar__impl_starName_l1 list t15 t16 rho_ := by
  refine loop_ex (E := E_impl_rising_impl_Star__impl_isStar__impl_starName_l1 list t15 t16) (R := R_impl_rising_impl_Star__impl_isStar__impl_starName_l1 list t15 t16) (fun y => by first | (intro c; cases c) | (rcases y with y | y <;> (intro c; cases c)) | (rcases y with y | y | y <;> (intro c; cases c))) ?_ h
  clear h
  intro t17 o_ h
  dsimp only [impl_rising_impl_Star__impl_isStar__impl_starName_l1] at h
  rcases it_some h with ⟨hk2, h⟩ | ⟨hk2, h⟩
  · try simp only [go_sem, n1, n2, n3, n4] at hk2
    all_goals
    obtain ⟨hk3, h⟩ := ck_some h
    have lhk3 := ix_lt hk3
    have xhk3 := getD_mapD Star_av t15 lhk3
    try simp only [go_sem] at lhk3
    try simp only [go_sem] at xhk3
    try simp only [go_sem, n1, n2, n3, n4, hk2] at hk3
    all_goals
    obtain ⟨y_4, hk4, h⟩ := bd_some h
    have fhk4 := Fs_impl_isStar hk4
    try simp only [go_sem, hk2, hk3] at fhk4
    obtain ⟨hk5, h⟩ := ck_some h
    rcases or_split hk5 with ⟨ghk5, hk5⟩ | ghk5
    · try simp only [go_sem, n1, n2, n3, n4, hk2, hk3] at ghk5
      all_goals
      have lhk5 := ix_lt hk5
      have xhk5 := getD_mapD Star_av list lhk5
      try simp only [go_sem] at lhk5
      try simp only [go_sem] at xhk5
      try simp only [go_sem, n1, n2, n3, n4, hk2, hk3, ghk5] at hk5
      all_goals
      obtain ⟨hk6, h⟩ := ck_some h
      rcases or_split hk6 with ⟨ghk6, hk6⟩ | ghk6
      · try simp only [go_sem, n1, n2, n3, n4, hk2, hk3, ghk5, hk5] at ghk6
        all_goals
        obtain ⟨y_6, hhk6⟩ := Option.isSome_iff_exists.1 hk6
        have fhk6 := Fs_impl_starName hhk6
        try simp only [go_sem, hk2, hk3, ghk5, hk5, ghk6] at fhk6
        obtain ⟨hk7, h⟩ := ck_some h
        rcases or_split hk7 with ⟨ghk7, hk7⟩ | ghk7
        · try simp only [go_sem, n1, n2, n3, n4, hk2, hk3, ghk5, hk5, ghk6, hhk6] at ghk7
          all_goals
          obtain ⟨y_7, hhk7⟩ := Option.isSome_iff_exists.1 hk7
          have fhk7 := Fs_impl_starName hhk7
          try simp only [go_sem, hk2, hk3, ghk5, hk5, ghk6, hhk6, ghk7] at fhk7
          rcases it_some h with ⟨hk8, h⟩ | ⟨hk8, h⟩
          · try simp only [go_sem, n1, n2, n3, n4, hk2, hk3, ghk5, hk5, ghk6, hhk6, ghk7, hhk7] at hk8
            all_goals
            obtain rfl := so_some h
            refine ⟨0, fun L hL => ?_⟩
            simp only [go_sem, ir41, E_impl_rising_impl_Star__impl_isStar__impl_starName_l1, R_impl_rising_impl_Star__impl_isStar__impl_starName_l1, ir41_b0, ir41_k0, ir41_o0, ir41_r0, hk2, hk3, lhk3, xhk3, fhk4, ghk5, hk5, lhk5, xhk5, ghk6, hhk6, fhk6, ghk7, hhk7, fhk7, hk8]
          · try simp only [go_sem, n1, n2, n3, n4, hk2, hk3, ghk5, hk5, ghk6, hhk6, ghk7, hhk7] at hk8
            all_goals
            obtain rfl := so_some h
            refine ⟨0, fun L hL => ?_⟩
            simp only [go_sem, ir41, E_impl_rising_impl_Star__impl_isStar__impl_starName_l1, R_impl_rising_impl_Star__impl_isStar__impl_starName_l1, ir41_b0, ir41_k0, ir41_o0, ir41_r0, hk2, hk3, lhk3, xhk3, fhk4, ghk5, hk5, lhk5, xhk5, ghk6, hhk6, fhk6, ghk7, hhk7, fhk7, hk8]
        · rcases and_f ghk7 with ghk7a | ⟨ghk7a, ghk7b⟩
          · have ghk7an := no_f ghk7a
            have ghk7ann := no_t ghk7an
            try simp only [go_sem, n1, n2, n3, n4, hk2, hk3, ghk5, hk5, ghk6, hhk6] at ghk7ann
            all_goals
            rcases it_some h with ⟨hk8, h⟩ | ⟨hk8, h⟩
            · try simp only [go_sem, n1, n2, n3, n4, hk2, hk3, ghk5, hk5, ghk6, hhk6, ghk7ann] at hk8
              all_goals
              obtain rfl := so_some h
              refine ⟨0, fun L hL => ?_⟩
              simp only [go_sem, ir41, E_impl_rising_impl_Star__impl_isStar__impl_starName_l1, R_impl_rising_impl_Star__impl_isStar__impl_starName_l1, ir41_b0, ir41_k0, ir41_o0, ir41_r0, hk2, hk3, lhk3, xhk3, fhk4, ghk5, hk5, lhk5, xhk5, ghk6, hhk6, fhk6, ghk7ann, hk8]
            · try simp only [go_sem, n1, n2, n3, n4, hk2, hk3, ghk5, hk5, ghk6, hhk6, ghk7ann] at hk8
              all_goals
              obtain rfl := so_some h
              refine ⟨0, fun L hL => ?_⟩
              simp only [go_sem, ir41, E_impl_rising_impl_Star__impl_isStar__impl_starName_l1, R_impl_rising_impl_Star__impl_isStar__impl_starName_l1, ir41_b0, ir41_k0, ir41_o0, ir41_r0, hk2, hk3, lhk3, xhk3, fhk4, ghk5, hk5, lhk5, xhk5, ghk6, hhk6, fhk6, ghk7ann, hk8]
          · have ghk7an := no_t ghk7a
            have ghk7ann := no_f ghk7an
            try simp only [go_sem, n1, n2, n3, n4, hk2, hk3, ghk5, hk5, ghk6, hhk6] at ghk7ann
            all_goals
            try simp only [go_sem, n1, n2, n3, n4, hk2, hk3, ghk5, hk5, ghk6, hhk6, ghk7ann] at ghk7b
            all_goals
            rcases it_some h with ⟨hk8, h⟩ | ⟨hk8, h⟩
            · try simp only [go_sem, n1, n2, n3, n4, hk2, hk3, ghk5, hk5, ghk6, hhk6, ghk7ann, ghk7b] at hk8
              all_goals
              obtain rfl := so_some h
              refine ⟨0, fun L hL => ?_⟩
              simp only [go_sem, ir41, E_impl_rising_impl_Star__impl_isStar__impl_starName_l1, R_impl_rising_impl_Star__impl_isStar__impl_starName_l1, ir41_b0, ir41_k0, ir41_o0, ir41_r0, hk2, hk3, lhk3, xhk3, fhk4, ghk5, hk5, lhk5, xhk5, ghk6, hhk6, fhk6, ghk7ann, ghk7b, hk8]
            · try simp only [go_sem, n1, n2, n3, n4, hk2, hk3, ghk5, hk5, ghk6, hhk6, ghk7ann, ghk7b] at hk8
              all_goals
              obtain rfl := so_some h
              refine ⟨0, fun L hL => ?_⟩
              simp only [go_sem, ir41, E_impl_rising_impl_Star__impl_isStar__impl_starName_l1, R_impl_rising_impl_Star__impl_isStar__impl_starName_l1, ir41_b0, ir41_k0, ir41_o0, ir41_r0, hk2, hk3, lhk3, xhk3, fhk4, ghk5, hk5, lhk5, xhk5, ghk6, hhk6, fhk6, ghk7ann, ghk7b, hk8]
      · rcases and_f ghk6 with ghk6a | ⟨ghk6a, ghk6b⟩
        · have ghk6an := no_f ghk6a
          have ghk6ann := no_t ghk6an
          try simp only [go_sem, n1, n2, n3, n4, hk2, hk3, ghk5, hk5] at ghk6ann
          all_goals
          obtain ⟨hk7, h⟩ := ck_some h
          rcases or_split hk7 with ⟨ghk7, hk7⟩ | ghk7
          · try simp only [go_sem, n1, n2, n3, n4, hk2, hk3, ghk5, hk5, ghk6ann] at ghk7
            all_goals
            obtain ⟨y_7, hhk7⟩ := Option.isSome_iff_exists.1 hk7
            have fhk7 := Fs_impl_starName hhk7
            try simp only [go_sem, hk2, hk3, ghk5, hk5, ghk6ann, ghk7] at fhk7
            rcases it_some h with ⟨hk8, h⟩ | ⟨hk8, h⟩
            · try simp only [go_sem, n1, n2, n3, n4, hk2, hk3, ghk5, hk5, ghk6ann, ghk7, hhk7] at hk8
              all_goals
              obtain rfl := so_some h
              refine ⟨0, fun L hL => ?_⟩
              simp only [go_sem, ir41, E_impl_rising_impl_Star__impl_isStar__impl_starName_l1, R_impl_rising_impl_Star__impl_isStar__impl_starName_l1, ir41_b0, ir41_k0, ir41_o0, ir41_r0, hk2, hk3, lhk3, xhk3, fhk4, ghk5, hk5, lhk5, xhk5, ghk6ann, ghk7, hhk7, fhk7, hk8]
            · try simp only [go_sem, n1, n2, n3, n4, hk2, hk3, ghk5, hk5, ghk6ann, ghk7, hhk7] at hk8
              all_goals
              obtain rfl := so_some h
              refine ⟨0, fun L hL => ?_⟩
              simp only [go_sem, ir41, E_impl_rising_impl_Star__impl_isStar__impl_starName_l1, R_impl_rising_impl_Star__impl_isStar__impl_starName_l1, ir41_b0, ir41_k0, ir41_o0, ir41_r0, hk2, hk3, lhk3, xhk3, fhk4, ghk5, hk5, lhk5, xhk5, ghk6ann, ghk7, hhk7, fhk7, hk8]
          · rcases and_f ghk7 with ghk7a | ⟨ghk7a, ghk7b⟩
            · have ghk7an := no_f ghk7a
              have ghk7ann := no_t ghk7an
              try simp only [go_sem, n1, n2, n3, n4, hk2, hk3, ghk5, hk5, ghk6ann] at ghk7ann
              all_goals
              rcases it_some h with ⟨hk8, h⟩ | ⟨hk8, h⟩
              · try simp only [go_sem, n1, n2, n3, n4, hk2, hk3, ghk5, hk5, ghk6ann, ghk7ann] at hk8
                all_goals
                obtain rfl := so_some h
                refine ⟨0, fun L hL => ?_⟩
                simp only [go_sem, ir41, E_impl_rising_impl_Star__impl_isStar__impl_starName_l1, R_impl_rising_impl_Star__impl_isStar__impl_starName_l1, ir41_b0, ir41_k0, ir41_o0, ir41_r0, hk2, hk3, lhk3, xhk3, fhk4, ghk5, hk5, lhk5, xhk5, ghk6ann, ghk7ann, hk8]
              · try simp only [go_sem, n1, n2, n3, n4, hk2, hk3, ghk5, hk5, ghk6ann, ghk7ann] at hk8
                all_goals
                obtain rfl := so_some h
                refine ⟨0, fun L hL => ?_⟩
                simp only [go_sem, ir41, E_impl_rising_impl_Star__impl_isStar__impl_starName_l1, R_impl_rising_impl_Star__impl_isStar__impl_starName_l1, ir41_b0, ir41_k0, ir41_o0, ir41_r0, hk2, hk3, lhk3, xhk3, fhk4, ghk5, hk5, lhk5, xhk5, ghk6ann, ghk7ann, hk8]
            · have ghk7an := no_t ghk7a
              have ghk7ann := no_f ghk7an
              try simp only [go_sem, n1, n2, n3, n4, hk2, hk3, ghk5, hk5, ghk6ann] at ghk7ann
              all_goals
              try simp only [go_sem, n1, n2, n3, n4, hk2, hk3, ghk5, hk5, ghk6ann, ghk7ann] at ghk7b
              all_goals
              rcases it_some h with ⟨hk8, h⟩ | ⟨hk8, h⟩
              · try simp only [go_sem, n1, n2, n3, n4, hk2, hk3, ghk5, hk5, ghk6ann, ghk7ann, ghk7b] at hk8
                all_goals
                obtain rfl := so_some h
                refine ⟨0, fun L hL => ?_⟩
                simp only [go_sem, ir41, E_impl_rising_impl_Star__impl_isStar__impl_starName_l1, R_impl_rising_impl_Star__impl_isStar__impl_starName_l1, ir41_b0, ir41_k0, ir41_o0, ir41_r0, hk2, hk3, lhk3, xhk3, fhk4, ghk5, hk5, lhk5, xhk5, ghk6ann, ghk7ann, ghk7b, hk8]
              · try simp only [go_sem, n1, n2, n3, n4, hk2, hk3, ghk5, hk5, ghk6ann, ghk7ann, ghk7b] at hk8
                all_goals
                obtain rfl := so_some h
                refine ⟨0, fun L hL => ?_⟩
                simp only [go_sem, ir41, E_impl_rising_impl_Star__impl_isStar__impl_starName_l1, R_impl_rising_impl_Star__impl_isStar__impl_starName_l1, ir41_b0, ir41_k0, ir41_o0, ir41_r0, hk2, hk3, lhk3, xhk3, fhk4, ghk5, hk5, lhk5, xhk5, ghk6ann, ghk7ann, ghk7b, hk8]
        · have ghk6an := no_t ghk6a
          have ghk6ann := no_f ghk6an
          try simp only [go_sem, n1, n2, n3, n4, hk2, hk3, ghk5, hk5] at ghk6ann
          all_goals
          try simp only [go_sem, n1, n2, n3, n4, hk2, hk3, ghk5, hk5, ghk6ann] at ghk6b
          all_goals
          obtain ⟨hk7, h⟩ := ck_some h
          rcases or_split hk7 with ⟨ghk7, hk7⟩ | ghk7
          · try simp only [go_sem, n1, n2, n3, n4, hk2, hk3, ghk5, hk5, ghk6ann, ghk6b] at ghk7
            all_goals
            obtain ⟨y_7, hhk7⟩ := Option.isSome_iff_exists.1 hk7
            have fhk7 := Fs_impl_starName hhk7
            try simp only [go_sem, hk2, hk3, ghk5, hk5, ghk6ann, ghk6b, ghk7] at fhk7
            rcases it_some h with ⟨hk8, h⟩ | ⟨hk8, h⟩
            · try simp only [go_sem, n1, n2, n3, n4, hk2, hk3, ghk5, hk5, ghk6ann, ghk6b, ghk7, hhk7] at hk8
              all_goals
              obtain rfl := so_some h
              refine ⟨0, fun L hL => ?_⟩
              simp only [go_sem, ir41, E_impl_rising_impl_Star__impl_isStar__impl_starName_l1, R_impl_rising_impl_Star__impl_isStar__impl_starName_l1, ir41_b0, ir41_k0, ir41_o0, ir41_r0, hk2, hk3, lhk3, xhk3, fhk4, ghk5, hk5, lhk5, xhk5, ghk6ann, ghk6b, ghk7, hhk7, fhk7, hk8]
            · try simp only [go_sem, n1, n2, n3, n4, hk2, hk3, ghk5, hk5, ghk6ann, ghk6b, ghk7, hhk7] at hk8
              all_goals
              obtain rfl := so_some h
              refine ⟨0, fun L hL => ?_⟩
              simp only [go_sem, ir41, E_impl_rising_impl_Star__impl_isStar__impl_starName_l1, R_impl_rising_impl_Star__impl_isStar__impl_starName_l1, ir41_b0, ir41_k0, ir41_o0, ir41_r0, hk2, hk3, lhk3, xhk3, fhk4, ghk5, hk5, lhk5, xhk5, ghk6ann, ghk6b, ghk7, hhk7, fhk7, hk8]
          · rcases and_f ghk7 with ghk7a | ⟨ghk7a, ghk7b⟩
            · have ghk7an := no_f ghk7a
              have ghk7ann := no_t ghk7an
              try simp only [go_sem, n1, n2, n3, n4, hk2, hk3, ghk5, hk5, ghk6ann, ghk6b] at ghk7ann
              all_goals
              rcases it_some h with ⟨hk8, h⟩ | ⟨hk8, h⟩
              · try simp only [go_sem, n1, n2, n3, n4, hk2, hk3, ghk5, hk5, ghk6ann, ghk6b, ghk7ann] at hk8
                all_goals
                obtain rfl := so_some h
                refine ⟨0, fun L hL => ?_⟩
                simp only [go_sem, ir41, E_impl_rising_impl_Star__impl_isStar__impl_starName_l1, R_impl_rising_impl_Star__impl_isStar__impl_starName_l1, ir41_b0, ir41_k0, ir41_o0, ir41_r0, hk2, hk3, lhk3, xhk3, fhk4, ghk5, hk5, lhk5, xhk5, ghk6ann, ghk6b, ghk7ann, hk8]
              · try simp only [go_sem, n1, n2, n3, n4, hk2, hk3, ghk5, hk5, ghk6ann, ghk6b, ghk7ann] at hk8
                all_goals
                obtain rfl := so_some h
                refine ⟨0, fun L hL => ?_⟩
                simp only [go_sem, ir41, E_impl_rising_impl_Star__impl_isStar__impl_starName_l1, R_impl_rising_impl_Star__impl_isStar__impl_starName_l1, ir41_b0, ir41_k0, ir41_o0, ir41_r0, hk2, hk3, lhk3, xhk3, fhk4, ghk5, hk5, lhk5, xhk5, ghk6ann, ghk6b, ghk7ann, hk8]
            · have ghk7an := no_t ghk7a
              have ghk7ann := no_f ghk7an
              try simp only [go_sem, n1, n2, n3, n4, hk2, hk3, ghk5, hk5, ghk6ann, ghk6b] at ghk7ann
              all_goals
              try simp only [go_sem, n1, n2, n3, n4, hk2, hk3, ghk5, hk5, ghk6ann, ghk6b, ghk7ann] at ghk7b
              all_goals
              rcases it_some h with ⟨hk8, h⟩ | ⟨hk8, h⟩
              · try simp only [go_sem, n1, n2, n3, n4, hk2, hk3, ghk5, hk5, ghk6ann, ghk6b, ghk7ann, ghk7b] at hk8
                all_goals
                obtain rfl := so_some h
                refine ⟨0, fun L hL => ?_⟩
                simp only [go_sem, ir41, E_impl_rising_impl_Star__impl_isStar__impl_starName_l1, R_impl_rising_impl_Star__impl_isStar__impl_starName_l1, ir41_b0, ir41_k0, ir41_o0, ir41_r0, hk2, hk3, lhk3, xhk3, fhk4, ghk5, hk5, lhk5, xhk5, ghk6ann, ghk6b, ghk7ann, ghk7b, hk8]
              · try simp only [go_sem, n1, n2, n3, n4, hk2, hk3, ghk5, hk5, ghk6ann, ghk6b, ghk7ann, ghk7b] at hk8
                all_goals
                obtain rfl := so_some h
                refine ⟨0, fun L hL => ?_⟩
                simp only [go_sem, ir41, E_impl_rising_impl_Star__impl_isStar__impl_starName_l1, R_impl_rising_impl_Star__impl_isStar__impl_starName_l1, ir41_b0, ir41_k0, ir41_o0, ir41_r0, hk2, hk3, lhk3, xhk3, fhk4, ghk5, hk5, lhk5, xhk5, ghk6ann, ghk6b, ghk7ann, ghk7b, hk8]
    · rcases and_f ghk5 with ghk5a | ⟨ghk5a, ghk5b⟩
      · have ghk5an := no_f ghk5a
        have ghk5ann := no_t ghk5an
        try simp only [go_sem, n1, n2, n3, n4, hk2, hk3] at ghk5ann
        all_goals
        obtain ⟨hk6, h⟩ := ck_some h
        rcases or_split hk6 with ⟨ghk6, hk6⟩ | ghk6
        · try simp only [go_sem, n1, n2, n3, n4, hk2, hk3, ghk5ann] at ghk6
          all_goals
          obtain ⟨y_6, hhk6⟩ := Option.isSome_iff_exists.1 hk6
          have fhk6 := Fs_impl_starName hhk6
          try simp only [go_sem, hk2, hk3, ghk5ann, ghk6] at fhk6
          obtain ⟨hk7, h⟩ := ck_some h
          rcases or_split hk7 with ⟨ghk7, hk7⟩ | ghk7
          · try simp only [go_sem, n1, n2, n3, n4, hk2, hk3, ghk5ann, ghk6, hhk6] at ghk7
            all_goals
            obtain ⟨y_7, hhk7⟩ := Option.isSome_iff_exists.1 hk7
            have fhk7 := Fs_impl_starName hhk7
            try simp only [go_sem, hk2, hk3, ghk5ann, ghk6, hhk6, ghk7] at fhk7
            rcases it_some h with ⟨hk8, h⟩ | ⟨hk8, h⟩
            · try simp only [go_sem, n1, n2, n3, n4, hk2, hk3, ghk5ann, ghk6, hhk6, ghk7, hhk7] at hk8
              all_goals
              obtain rfl := so_some h
              refine ⟨0, fun L hL => ?_⟩
              simp only [go_sem, ir41, E_impl_rising_impl_Star__impl_isStar__impl_starName_l1, R_impl_rising_impl_Star__impl_isStar__impl_starName_l1, ir41_b0, ir41_k0, ir41_o0, ir41_r0, hk2, hk3, lhk3, xhk3, fhk4, ghk5ann, ghk6, hhk6, fhk6, ghk7, hhk7, fhk7, hk8]
            · try simp only [go_sem, n1, n2, n3, n4, hk2, hk3, ghk5ann, ghk6, hhk6, ghk7, hhk7] at hk8
              all_goals
              obtain rfl := so_some h
              refine ⟨0, fun L hL => ?_⟩
              simp only [go_sem, ir41, E_impl_rising_impl_Star__impl_isStar__impl_starName_l1, R_impl_rising_impl_Star__impl_isStar__impl_starName_l1, ir41_b0, ir41_k0, ir41_o0, ir41_r0, hk2, hk3, lhk3, xhk3, fhk4, ghk5ann, ghk6, hhk6, fhk6, ghk7, hhk7, fhk7, hk8]
          · rcases and_f ghk7 with ghk7a | ⟨ghk7a, ghk7b⟩
            · have ghk7an := no_f ghk7a
              have ghk7ann := no_t ghk7an
              try simp only [go_sem, n1, n2, n3, n4, hk2, hk3, ghk5ann, ghk6, hhk6] at ghk7ann
              all_goals
              rcases it_some h with ⟨hk8, h⟩ | ⟨hk8, h⟩
              · try simp only [go_sem, n1, n2, n3, n4, hk2, hk3, ghk5ann, ghk6, hhk6, ghk7ann] at hk8
                all_goals
                obtain rfl := so_some h
                refine ⟨0, fun L hL => ?_⟩
                simp only [go_sem, ir41, E_impl_rising_impl_Star__impl_isStar__impl_starName_l1, R_impl_rising_impl_Star__impl_isStar__impl_starName_l1, ir41_b0, ir41_k0, ir41_o0, ir41_r0, hk2, hk3, lhk3, xhk3, fhk4, ghk5ann, ghk6, hhk6, fhk6, ghk7ann, hk8]
              · try simp only [go_sem, n1, n2, n3, n4, hk2, hk3, ghk5ann, ghk6, hhk6, ghk7ann] at hk8
                all_goals
                obtain rfl := so_some h
                refine ⟨0, fun L hL => ?_⟩
                simp only [go_sem, ir41, E_impl_rising_impl_Star__impl_isStar__impl_starName_l1, R_impl_rising_impl_Star__impl_isStar__impl_starName_l1, ir41_b0, ir41_k0, ir41_o0, ir41_r0, hk2, hk3, lhk3, xhk3, fhk4, ghk5ann, ghk6, hhk6, fhk6, ghk7ann, hk8]
            · have ghk7an := no_t ghk7a
              have ghk7ann := no_f ghk7an
              try simp only [go_sem, n1, n2, n3, n4, hk2, hk3, ghk5ann, ghk6, hhk6] at ghk7ann
              all_goals
              try simp only [go_sem, n1, n2, n3, n4, hk2, hk3, ghk5ann, ghk6, hhk6, ghk7ann] at ghk7b
              all_goals
              rcases it_some h with ⟨hk8, h⟩ | ⟨hk8, h⟩
              · try simp only [go_sem, n1, n2, n3, n4, hk2, hk3, ghk5ann, ghk6, hhk6, ghk7ann, ghk7b] at hk8
                all_goals
                obtain rfl := so_some h
                refine ⟨0, fun L hL => ?_⟩
                simp only [go_sem, ir41, E_impl_rising_impl_Star__impl_isStar__impl_starName_l1, R_impl_rising_impl_Star__impl_isStar__impl_starName_l1, ir41_b0, ir41_k0, ir41_o0, ir41_r0, hk2, hk3, lhk3, xhk3, fhk4, ghk5ann, ghk6, hhk6, fhk6, ghk7ann, ghk7b, hk8]
              · try simp only [go_sem, n1, n2, n3, n4, hk2, hk3, ghk5ann, ghk6, hhk6, ghk7ann, ghk7b] at hk8
                all_goals
                obtain rfl := so_some h
                refine ⟨0, fun L hL => ?_⟩
                simp only [go_sem, ir41, E_impl_rising_impl_Star__impl_isStar__impl_starName_l1, R_impl_rising_impl_Star__impl_isStar__impl_starName_l1, ir41_b0, ir41_k0, ir41_o0, ir41_r0, hk2, hk3, lhk3, xhk3, fhk4, ghk5ann, ghk6, hhk6, fhk6, ghk7ann, ghk7b, hk8]
        · rcases and_f ghk6 with ghk6a | ⟨ghk6a, ghk6b⟩
          · have ghk6an := no_f ghk6a
            have ghk6ann := no_t ghk6an
            try simp only [go_sem, n1, n2, n3, n4, hk2, hk3, ghk5ann] at ghk6ann
            all_goals
            obtain ⟨hk7, h⟩ := ck_some h
            rcases or_split hk7 with ⟨ghk7, hk7⟩ | ghk7
            · try simp only [go_sem, n1, n2, n3, n4, hk2, hk3, ghk5ann, ghk6ann] at ghk7
              all_goals
              obtain ⟨y_7, hhk7⟩ := Option.isSome_iff_exists.1 hk7
              have fhk7 := Fs_impl_starName hhk7
              try simp only [go_sem, hk2, hk3, ghk5ann, ghk6ann, ghk7] at fhk7
              rcases it_some h with ⟨hk8, h⟩ | ⟨hk8, h⟩
              · try simp only [go_sem, n1, n2, n3, n4, hk2, hk3, ghk5ann, ghk6ann, ghk7, hhk7] at hk8
                all_goals
                obtain rfl := so_some h
                refine ⟨0, fun L hL => ?_⟩
                simp only [go_sem, ir41, E_impl_rising_impl_Star__impl_isStar__impl_starName_l1, R_impl_rising_impl_Star__impl_isStar__impl_starName_l1, ir41_b0, ir41_k0, ir41_o0, ir41_r0, hk2, hk3, lhk3, xhk3, fhk4, ghk5ann, ghk6ann, ghk7, hhk7, fhk7, hk8]
              · try simp only [go_sem, n1, n2, n3, n4, hk2, hk3, ghk5ann, ghk6ann, ghk7, hhk7] at hk8
                all_goals
                obtain rfl := so_some h
                refine ⟨0, fun L hL => ?_⟩
                simp only [go_sem, ir41, E_impl_rising_impl_Star__impl_isStar__impl_starName_l1, R_impl_rising_impl_Star__impl_isStar__impl_starName_l1, ir41_b0, ir41_k0, ir41_o0, ir41_r0, hk2, hk3, lhk3, xhk3, fhk4, ghk5ann, ghk6ann, ghk7, hhk7, fhk7, hk8]
            · rcases and_f ghk7 with ghk7a | ⟨ghk7a, ghk7b⟩
              · have ghk7an := no_f ghk7a
                have ghk7ann := no_t ghk7an
                try simp only [go_sem, n1, n2, n3, n4, hk2, hk3, ghk5ann, ghk6ann] at ghk7ann
                all_goals
                rcases it_some h with ⟨hk8, h⟩ | ⟨hk8, h⟩
                · try simp only [go_sem, n1, n2, n3, n4, hk2, hk3, ghk5ann, ghk6ann, ghk7ann] at hk8
                  all_goals
                  obtain rfl := so_some h
                  refine ⟨0, fun L hL => ?_⟩
                  simp only [go_sem, ir41, E_impl_rising_impl_Star__impl_isStar__impl_starName_l1, R_impl_rising_impl_Star__impl_isStar__impl_starName_l1, ir41_b0, ir41_k0, ir41_o0, ir41_r0, hk2, hk3, lhk3, xhk3, fhk4, ghk5ann, ghk6ann, ghk7ann, hk8]
                · try simp only [go_sem, n1, n2, n3, n4, hk2, hk3, ghk5ann, ghk6ann, ghk7ann] at hk8
                  all_goals
                  obtain rfl := so_some h
                  refine ⟨0, fun L hL => ?_⟩
                  simp only [go_sem, ir41, E_impl_rising_impl_Star__impl_isStar__impl_starName_l1, R_impl_rising_impl_Star__impl_isStar__impl_starName_l1, ir41_b0, ir41_k0, ir41_o0, ir41_r0, hk2, hk3, lhk3, xhk3, fhk4, ghk5ann, ghk6ann, ghk7ann, hk8]
              · have ghk7an := no_t ghk7a
                have ghk7ann := no_f ghk7an
                try simp only [go_sem, n1, n2, n3, n4, hk2, hk3, ghk5ann, ghk6ann] at ghk7ann
                all_goals
                try simp only [go_sem, n1, n2, n3, n4, hk2, hk3, ghk5ann, ghk6ann, ghk7ann] at ghk7b
                all_goals
                rcases it_some h with ⟨hk8, h⟩ | ⟨hk8, h⟩
                · try simp only [go_sem, n1, n2, n3, n4, hk2, hk3, ghk5ann, ghk6ann, ghk7ann, ghk7b] at hk8
                  all_goals
                  obtain rfl := so_some h
                  refine ⟨0, fun L hL => ?_⟩
                  simp only [go_sem, ir41, E_impl_rising_impl_Star__impl_isStar__impl_starName_l1, R_impl_rising_impl_Star__impl_isStar__impl_starName_l1, ir41_b0, ir41_k0, ir41_o0, ir41_r0, hk2, hk3, lhk3, xhk3, fhk4, ghk5ann, ghk6ann, ghk7ann, ghk7b, hk8]
                · try simp only [go_sem, n1, n2, n3, n4, hk2, hk3, ghk5ann, ghk6ann, ghk7ann, ghk7b] at hk8
                  all_goals
                  obtain rfl := so_some h
                  refine ⟨0, fun L hL => ?_⟩
                  simp only [go_sem, ir41, E_impl_rising_impl_Star__impl_isStar__impl_starName_l1, R_impl_rising_impl_Star__impl_isStar__impl_starName_l1, ir41_b0, ir41_k0, ir41_o0, ir41_r0, hk2, hk3, lhk3, xhk3, fhk4, ghk5ann, ghk6ann, ghk7ann, ghk7b, hk8]
          · have ghk6an := no_t ghk6a
            have ghk6ann := no_f ghk6an
            try simp only [go_sem, n1, n2, n3, n4, hk2, hk3, ghk5ann] at ghk6ann
            all_goals
            try simp only [go_sem, n1, n2, n3, n4, hk2, hk3, ghk5ann, ghk6ann] at ghk6b
            all_goals
            obtain ⟨hk7, h⟩ := ck_some h
            rcases or_split hk7 with ⟨ghk7, hk7⟩ | ghk7
            · try simp only [go_sem, n1, n2, n3, n4, hk2, hk3, ghk5ann, ghk6ann, ghk6b] at ghk7
              all_goals
              obtain ⟨y_7, hhk7⟩ := Option.isSome_iff_exists.1 hk7
              have fhk7 := Fs_impl_starName hhk7
              try simp only [go_sem, hk2, hk3, ghk5ann, ghk6ann, ghk6b, ghk7] at fhk7
              rcases it_some h with ⟨hk8, h⟩ | ⟨hk8, h⟩
              · try simp only [go_sem, n1, n2, n3, n4, hk2, hk3, ghk5ann, ghk6ann, ghk6b, ghk7, hhk7] at hk8
                all_goals
                obtain rfl := so_some h
                refine ⟨0, fun L hL => ?_⟩
                simp only [go_sem, ir41, E_impl_rising_impl_Star__impl_isStar__impl_starName_l1, R_impl_rising_impl_Star__impl_isStar__impl_starName_l1, ir41_b0, ir41_k0, ir41_o0, ir41_r0, hk2, hk3, lhk3, xhk3, fhk4, ghk5ann, ghk6ann, ghk6b, ghk7, hhk7, fhk7, hk8]
              · try simp only [go_sem, n1, n2, n3, n4, hk2, hk3, ghk5ann, ghk6ann, ghk6b, ghk7, hhk7] at hk8
                all_goals
                obtain rfl := so_some h
                refine ⟨0, fun L hL => ?_⟩
                simp only [go_sem, ir41, E_impl_rising_impl_Star__impl_isStar__impl_starName_l1, R_impl_rising_impl_Star__impl_isStar__impl_starName_l1, ir41_b0, ir41_k0, ir41_o0, ir41_r0, hk2, hk3, lhk3, xhk3, fhk4, ghk5ann, ghk6ann, ghk6b, ghk7, hhk7, fhk7, hk8]
            · rcases and_f ghk7 with ghk7a | ⟨ghk7a, ghk7b⟩
              · have ghk7an := no_f ghk7a
                have ghk7ann := no_t ghk7an
                try simp only [go_sem, n1, n2, n3, n4, hk2, hk3, ghk5ann, ghk6ann, ghk6b] at ghk7ann
                all_goals
                rcases it_some h with ⟨hk8, h⟩ | ⟨hk8, h⟩
                · try simp only [go_sem, n1, n2, n3, n4, hk2, hk3, ghk5ann, ghk6ann, ghk6b, ghk7ann] at hk8
                  all_goals
                  obtain rfl := so_some h
                  refine ⟨0, fun L hL => ?_⟩
                  simp only [go_sem, ir41, E_impl_rising_impl_Star__impl_isStar__impl_starName_l1, R_impl_rising_impl_Star__impl_isStar__impl_starName_l1, ir41_b0, ir41_k0, ir41_o0, ir41_r0, hk2, hk3, lhk3, xhk3, fhk4, ghk5ann, ghk6ann, ghk6b, ghk7ann, hk8]
                · try simp only [go_sem, n1, n2, n3, n4, hk2, hk3, ghk5ann, ghk6ann, ghk6b, ghk7ann] at hk8
                  all_goals
                  obtain rfl := so_some h
                  refine ⟨0, fun L hL => ?_⟩
                  simp only [go_sem, ir41, E_impl_rising_impl_Star__impl_isStar__impl_starName_l1, R_impl_rising_impl_Star__impl_isStar__impl_starName_l1, ir41_b0, ir41_k0, ir41_o0, ir41_r0, hk2, hk3, lhk3, xhk3, fhk4, ghk5ann, ghk6ann, ghk6b, ghk7ann, hk8]
              · have ghk7an := no_t ghk7a
                have ghk7ann := no_f ghk7an
                try simp only [go_sem, n1, n2, n3, n4, hk2, hk3, ghk5ann, ghk6ann, ghk6b] at ghk7ann
                all_goals
                try simp only [go_sem, n1, n2, n3, n4, hk2, hk3, ghk5ann, ghk6ann, ghk6b, ghk7ann] at ghk7b
                all_goals
                rcases it_some h with ⟨hk8, h⟩ | ⟨hk8, h⟩
                · try simp only [go_sem, n1, n2, n3, n4, hk2, hk3, ghk5ann, ghk6ann, ghk6b, ghk7ann, ghk7b] at hk8
                  all_goals
                  obtain rfl := so_some h
                  refine ⟨0, fun L hL => ?_⟩
                  simp only [go_sem, ir41, E_impl_rising_impl_Star__impl_isStar__impl_starName_l1, R_impl_rising_impl_Star__impl_isStar__impl_starName_l1, ir41_b0, ir41_k0, ir41_o0, ir41_r0, hk2, hk3, lhk3, xhk3, fhk4, ghk5ann, ghk6ann, ghk6b, ghk7ann, ghk7b, hk8]
                · try simp only [go_sem, n1, n2, n3, n4, hk2, hk3, ghk5ann, ghk6ann, ghk6b, ghk7ann, ghk7b] at hk8
                  all_goals
                  obtain rfl := so_some h
                  refine ⟨0, fun L hL => ?_⟩
                  simp only [go_sem, ir41, E_impl_rising_impl_Star__impl_isStar__impl_starName_l1, R_impl_rising_impl_Star__impl_isStar__impl_starName_l1, ir41_b0, ir41_k0, ir41_o0, ir41_r0, hk2, hk3, lhk3, xhk3, fhk4, ghk5ann, ghk6ann, ghk6b, ghk7ann, ghk7b, hk8]
      · have ghk5an := no_t ghk5a
        have ghk5ann := no_f ghk5an
        try simp only [go_sem, n1, n2, n3, n4, hk2, hk3] at ghk5ann
        all_goals
        try simp only [go_sem, n1, n2, n3, n4, hk2, hk3, ghk5ann] at ghk5b
        all_goals
        obtain ⟨hk6, h⟩ := ck_some h
        rcases or_split hk6 with ⟨ghk6, hk6⟩ | ghk6
        · try simp only [go_sem, n1, n2, n3, n4, hk2, hk3, ghk5ann, ghk5b] at ghk6
          all_goals
          obtain ⟨y_6, hhk6⟩ := Option.isSome_iff_exists.1 hk6
          have fhk6 := Fs_impl_starName hhk6
          try simp only [go_sem, hk2, hk3, ghk5ann, ghk5b, ghk6] at fhk6
          obtain ⟨hk7, h⟩ := ck_some h
          rcases or_split hk7 with ⟨ghk7, hk7⟩ | ghk7
          · try simp only [go_sem, n1, n2, n3, n4, hk2, hk3, ghk5ann, ghk5b, ghk6, hhk6] at ghk7
            all_goals
            obtain ⟨y_7, hhk7⟩ := Option.isSome_iff_exists.1 hk7
            have fhk7 := Fs_impl_starName hhk7
            try simp only [go_sem, hk2, hk3, ghk5ann, ghk5b, ghk6, hhk6, ghk7] at fhk7
            rcases it_some h with ⟨hk8, h⟩ | ⟨hk8, h⟩
            · try simp only [go_sem, n1, n2, n3, n4, hk2, hk3, ghk5ann, ghk5b, ghk6, hhk6, ghk7, hhk7] at hk8
              all_goals
              obtain rfl := so_some h
              refine ⟨0, fun L hL => ?_⟩
              simp only [go_sem, ir41, E_impl_rising_impl_Star__impl_isStar__impl_starName_l1, R_impl_rising_impl_Star__impl_isStar__impl_starName_l1, ir41_b0, ir41_k0, ir41_o0, ir41_r0, hk2, hk3, lhk3, xhk3, fhk4, ghk5ann, ghk5b, ghk6, hhk6, fhk6, ghk7, hhk7, fhk7, hk8]
            · try simp only [go_sem, n1, n2, n3, n4, hk2, hk3, ghk5ann, ghk5b, ghk6, hhk6, ghk7, hhk7] at hk8
              all_goals
              obtain rfl := so_some h
              refine ⟨0, fun L hL => ?_⟩
              simp only [go_sem, ir41, E_impl_rising_impl_Star__impl_isStar__impl_starName_l1, R_impl_rising_impl_Star__impl_isStar__impl_starName_l1, ir41_b0, ir41_k0, ir41_o0, ir41_r0, hk2, hk3, lhk3, xhk3, fhk4, ghk5ann, ghk5b, ghk6, hhk6, fhk6, ghk7, hhk7, fhk7, hk8]
          · rcases and_f ghk7 with ghk7a | ⟨ghk7a, ghk7b⟩
            · have ghk7an := no_f ghk7a
              have ghk7ann := no_t ghk7an
              try simp only [go_sem, n1, n2, n3, n4, hk2, hk3, ghk5ann, ghk5b, ghk6, hhk6] at ghk7ann
              all_goals
              rcases it_some h with ⟨hk8, h⟩ | ⟨hk8, h⟩
              · try simp only [go_sem, n1, n2, n3, n4, hk2, hk3, ghk5ann, ghk5b, ghk6, hhk6, ghk7ann] at hk8
                all_goals
                obtain rfl := so_some h
                refine ⟨0, fun L hL => ?_⟩
                simp only [go_sem, ir41, E_impl_rising_impl_Star__impl_isStar__impl_starName_l1, R_impl_rising_impl_Star__impl_isStar__impl_starName_l1, ir41_b0, ir41_k0, ir41_o0, ir41_r0, hk2, hk3, lhk3, xhk3, fhk4, ghk5ann, ghk5b, ghk6, hhk6, fhk6, ghk7ann, hk8]
              · try simp only [go_sem, n1, n2, n3, n4, hk2, hk3, ghk5ann, ghk5b, ghk6, hhk6, ghk7ann] at hk8
                all_goals
                obtain rfl := so_some h
                refine ⟨0, fun L hL => ?_⟩
                simp only [go_sem, ir41, E_impl_rising_impl_Star__impl_isStar__impl_starName_l1, R_impl_rising_impl_Star__impl_isStar__impl_starName_l1, ir41_b0, ir41_k0, ir41_o0, ir41_r0, hk2, hk3, lhk3, xhk3, fhk4, ghk5ann, ghk5b, ghk6, hhk6, fhk6, ghk7ann, hk8]
            · have ghk7an := no_t ghk7a
              have ghk7ann := no_f ghk7an
              try simp only [go_sem, n1, n2, n3, n4, hk2, hk3, ghk5ann, ghk5b, ghk6, hhk6] at ghk7ann
              all_goals
              try simp only [go_sem, n1, n2, n3, n4, hk2, hk3, ghk5ann, ghk5b, ghk6, hhk6, ghk7ann] at ghk7b
              all_goals
              rcases it_some h with ⟨hk8, h⟩ | ⟨hk8, h⟩
              · try simp only [go_sem, n1, n2, n3, n4, hk2, hk3, ghk5ann, ghk5b, ghk6, hhk6, ghk7ann, ghk7b] at hk8
                all_goals
                obtain rfl := so_some h
                refine ⟨0, fun L hL => ?_⟩
                simp only [go_sem, ir41, E_impl_rising_impl_Star__impl_isStar__impl_starName_l1, R_impl_rising_impl_Star__impl_isStar__impl_starName_l1, ir41_b0, ir41_k0, ir41_o0, ir41_r0, hk2, hk3, lhk3, xhk3, fhk4, ghk5ann, ghk5b, ghk6, hhk6, fhk6, ghk7ann, ghk7b, hk8]
              · try simp only [go_sem, n1, n2, n3, n4, hk2, hk3, ghk5ann, ghk5b, ghk6, hhk6, ghk7ann, ghk7b] at hk8
                all_goals
                obtain rfl := so_some h
                refine ⟨0, fun L hL => ?_⟩
                simp only [go_sem, ir41, E_impl_rising_impl_Star__impl_isStar__impl_starName_l1, R_impl_rising_impl_Star__impl_isStar__impl_starName_l1, ir41_b0, ir41_k0, ir41_o0, ir41_r0, hk2, hk3, lhk3, xhk3, fhk4, ghk5ann, ghk5b, ghk6, hhk6, fhk6, ghk7ann, ghk7b, hk8]
        · rcases and_f ghk6 with ghk6a | ⟨ghk6a, ghk6b⟩
          · have ghk6an := no_f ghk6a
            have ghk6ann := no_t ghk6an
            try simp only [go_sem, n1, n2, n3, n4, hk2, hk3, ghk5ann, ghk5b] at ghk6ann
            all_goals
            obtain ⟨hk7, h⟩ := ck_some h
            rcases or_split hk7 with ⟨ghk7, hk7⟩ | ghk7
            · try simp only [go_sem, n1, n2, n3, n4, hk2, hk3, ghk5ann, ghk5b, ghk6ann] at ghk7
              all_goals
              obtain ⟨y_7, hhk7⟩ := Option.isSome_iff_exists.1 hk7
              have fhk7 := Fs_impl_starName hhk7
              try simp only [go_sem, hk2, hk3, ghk5ann, ghk5b, ghk6ann, ghk7] at fhk7
              rcases it_some h with ⟨hk8, h⟩ | ⟨hk8, h⟩
              · try simp only [go_sem, n1, n2, n3, n4, hk2, hk3, ghk5ann, ghk5b, ghk6ann, ghk7, hhk7] at hk8
                all_goals
                obtain rfl := so_some h
                refine ⟨0, fun L hL => ?_⟩
                simp only [go_sem, ir41, E_impl_rising_impl_Star__impl_isStar__impl_starName_l1, R_impl_rising_impl_Star__impl_isStar__impl_starName_l1, ir41_b0, ir41_k0, ir41_o0, ir41_r0, hk2, hk3, lhk3, xhk3, fhk4, ghk5ann, ghk5b, ghk6ann, ghk7, hhk7, fhk7, hk8]
              · try simp only [go_sem, n1, n2, n3, n4, hk2, hk3, ghk5ann, ghk5b, ghk6ann, ghk7, hhk7] at hk8
                all_goals
                obtain rfl := so_some h
                refine ⟨0, fun L hL => ?_⟩
                simp only [go_sem, ir41, E_impl_rising_impl_Star__impl_isStar__impl_starName_l1, R_impl_rising_impl_Star__impl_isStar__impl_starName_l1, ir41_b0, ir41_k0, ir41_o0, ir41_r0, hk2, hk3, lhk3, xhk3, fhk4, ghk5ann, ghk5b, ghk6ann, ghk7, hhk7, fhk7, hk8]
            · rcases and_f ghk7 with ghk7a | ⟨ghk7a, ghk7b⟩
              · have ghk7an := no_f ghk7a
                have ghk7ann := no_t ghk7an
                try simp only [go_sem, n1, n2, n3, n4, hk2, hk3, ghk5ann, ghk5b, ghk6ann] at ghk7ann
                all_goals
                rcases it_some h with ⟨hk8, h⟩ | ⟨hk8, h⟩
                · try simp only [go_sem, n1, n2, n3, n4, hk2, hk3, ghk5ann, ghk5b, ghk6ann, ghk7ann] at hk8
                  all_goals
                  obtain rfl := so_some h
                  refine ⟨0, fun L hL => ?_⟩
                  simp only [go_sem, ir41, E_impl_rising_impl_Star__impl_isStar__impl_starName_l1, R_impl_rising_impl_Star__impl_isStar__impl_starName_l1, ir41_b0, ir41_k0, ir41_o0, ir41_r0, hk2, hk3, lhk3, xhk3, fhk4, ghk5ann, ghk5b, ghk6ann, ghk7ann, hk8]
                · try simp only [go_sem, n1, n2, n3, n4, hk2, hk3, ghk5ann, ghk5b, ghk6ann, ghk7ann] at hk8
                  all_goals
                  obtain rfl := so_some h
                  refine ⟨0, fun L hL => ?_⟩
                  simp only [go_sem, ir41, E_impl_rising_impl_Star__impl_isStar__impl_starName_l1, R_impl_rising_impl_Star__impl_isStar__impl_starName_l1, ir41_b0, ir41_k0, ir41_o0, ir41_r0, hk2, hk3, lhk3, xhk3, fhk4, ghk5ann, ghk5b, ghk6ann, ghk7ann, hk8]
              · have ghk7an := no_t ghk7a
                have ghk7ann := no_f ghk7an
                try simp only [go_sem, n1, n2, n3, n4, hk2, hk3, ghk5ann, ghk5b, ghk6ann] at ghk7ann
                all_goals
                try simp only [go_sem, n1, n2, n3, n4, hk2, hk3, ghk5ann, ghk5b, ghk6ann, ghk7ann] at ghk7b
                all_goals
                rcases it_some h with ⟨hk8, h⟩ | ⟨hk8, h⟩
                · try simp only [go_sem, n1, n2, n3, n4, hk2, hk3, ghk5ann, ghk5b, ghk6ann, ghk7ann, ghk7b] at hk8
                  all_goals
                  obtain rfl := so_some h
                  refine ⟨0, fun L hL => ?_⟩
                  simp only [go_sem, ir41, E_impl_rising_impl_Star__impl_isStar__impl_starName_l1, R_impl_rising_impl_Star__impl_isStar__impl_starName_l1, ir41_b0, ir41_k0, ir41_o0, ir41_r0, hk2, hk3, lhk3, xhk3, fhk4, ghk5ann, ghk5b, ghk6ann, ghk7ann, ghk7b, hk8]
                · try simp only [go_sem, n1, n2, n3, n4, hk2, hk3, ghk5ann, ghk5b, ghk6ann, ghk7ann, ghk7b] at hk8
                  all_goals
                  obtain rfl := so_some h
                  refine ⟨0, fun L hL => ?_⟩
                  simp only [go_sem, ir41, E_impl_rising_impl_Star__impl_isStar__impl_starName_l1, R_impl_rising_impl_Star__impl_isStar__impl_starName_l1, ir41_b0, ir41_k0, ir41_o0, ir41_r0, hk2, hk3, lhk3, xhk3, fhk4, ghk5ann, ghk5b, ghk6ann, ghk7ann, ghk7b, hk8]
          · have ghk6an := no_t ghk6a
            have ghk6ann := no_f ghk6an
            try simp only [go_sem, n1, n2, n3, n4, hk2, hk3, ghk5ann, ghk5b] at ghk6ann
            all_goals
            try simp only [go_sem, n1, n2, n3, n4, hk2, hk3, ghk5ann, ghk5b, ghk6ann] at ghk6b
            all_goals
            obtain ⟨hk7, h⟩ := ck_some h
            rcases or_split hk7 with ⟨ghk7, hk7⟩ | ghk7
            · try simp only [go_sem, n1, n2, n3, n4, hk2, hk3, ghk5ann, ghk5b, ghk6ann, ghk6b] at ghk7
              all_goals
              obtain ⟨y_7, hhk7⟩ := Option.isSome_iff_exists.1 hk7
              have fhk7 := Fs_impl_starName hhk7
              try simp only [go_sem, hk2, hk3, ghk5ann, ghk5b, ghk6ann, ghk6b, ghk7] at fhk7
              rcases it_some h with ⟨hk8, h⟩ | ⟨hk8, h⟩
              · try simp only [go_sem, n1, n2, n3, n4, hk2, hk3, ghk5ann, ghk5b, ghk6ann, ghk6b, ghk7, hhk7] at hk8
                all_goals
                obtain rfl := so_some h
                refine ⟨0, fun L hL => ?_⟩
                simp only [go_sem, ir41, E_impl_rising_impl_Star__impl_isStar__impl_starName_l1, R_impl_rising_impl_Star__impl_isStar__impl_starName_l1, ir41_b0, ir41_k0, ir41_o0, ir41_r0, hk2, hk3, lhk3, xhk3, fhk4, ghk5ann, ghk5b, ghk6ann, ghk6b, ghk7, hhk7, fhk7, hk8]
              · try simp only [go_sem, n1, n2, n3, n4, hk2, hk3, ghk5ann, ghk5b, ghk6ann, ghk6b, ghk7, hhk7] at hk8
                all_goals
                obtain rfl := so_some h
                refine ⟨0, fun L hL => ?_⟩
                simp only [go_sem, ir41, E_impl_rising_impl_Star__impl_isStar__impl_starName_l1, R_impl_rising_impl_Star__impl_isStar__impl_starName_l1, ir41_b0, ir41_k0, ir41_o0, ir41_r0, hk2, hk3, lhk3, xhk3, fhk4, ghk5ann, ghk5b, ghk6ann, ghk6b, ghk7, hhk7, fhk7, hk8]
            · rcases and_f ghk7 with ghk7a | ⟨ghk7a, ghk7b⟩
              · have ghk7an := no_f ghk7a
                have ghk7ann := no_t ghk7an
                try simp only [go_sem, n1, n2, n3, n4, hk2, hk3, ghk5ann, ghk5b, ghk6ann, ghk6b] at ghk7ann
                all_goals
                rcases it_some h with ⟨hk8, h⟩ | ⟨hk8, h⟩
                · try simp only [go_sem, n1, n2, n3, n4, hk2, hk3, ghk5ann, ghk5b, ghk6ann, ghk6b, ghk7ann] at hk8
                  all_goals
                  obtain rfl := so_some h
                  refine ⟨0, fun L hL => ?_⟩
                  simp only [go_sem, ir41, E_impl_rising_impl_Star__impl_isStar__impl_starName_l1, R_impl_rising_impl_Star__impl_isStar__impl_starName_l1, ir41_b0, ir41_k0, ir41_o0, ir41_r0, hk2, hk3, lhk3, xhk3, fhk4, ghk5ann, ghk5b, ghk6ann, ghk6b, ghk7ann, hk8]
                · try simp only [go_sem, n1, n2, n3, n4, hk2, hk3, ghk5ann, ghk5b, ghk6ann, ghk6b, ghk7ann] at hk8
                  all_goals
                  obtain rfl := so_some h
                  refine ⟨0, fun L hL => ?_⟩
                  simp only [go_sem, ir41, E_impl_rising_impl_Star__impl_isStar__impl_starName_l1, R_impl_rising_impl_Star__impl_isStar__impl_starName_l1, ir41_b0, ir41_k0, ir41_o0, ir41_r0, hk2, hk3, lhk3, xhk3, fhk4, ghk5ann, ghk5b, ghk6ann, ghk6b, ghk7ann, hk8]
              · have ghk7an := no_t ghk7a
                have ghk7ann := no_f ghk7an
                try simp only [go_sem, n1, n2, n3, n4, hk2, hk3, ghk5ann, ghk5b, ghk6ann, ghk6b] at ghk7ann
                all_goals
                try simp only [go_sem, n1, n2, n3, n4, hk2, hk3, ghk5ann, ghk5b, ghk6ann, ghk6b, ghk7ann] at ghk7b
                all_goals
                rcases it_some h with ⟨hk8, h⟩ | ⟨hk8, h⟩
                · try simp only [go_sem, n1, n2, n3, n4, hk2, hk3, ghk5ann, ghk5b, ghk6ann, ghk6b, ghk7ann, ghk7b] at hk8
                  all_goals
                  obtain rfl := so_some h
                  refine ⟨0, fun L hL => ?_⟩
                  simp only [go_sem, ir41, E_impl_rising_impl_Star__impl_isStar__impl_starName_l1, R_impl_rising_impl_Star__impl_isStar__impl_starName_l1, ir41_b0, ir41_k0, ir41_o0, ir41_r0, hk2, hk3, lhk3, xhk3, fhk4, ghk5ann, ghk5b, ghk6ann, ghk6b, ghk7ann, ghk7b, hk8]
                · try simp only [go_sem, n1, n2, n3, n4, hk2, hk3, ghk5ann, ghk5b, ghk6ann, ghk6b, ghk7ann, ghk7b] at hk8
                  all_goals
                  obtain rfl := so_some h
                  refine ⟨0, fun L hL => ?_⟩
                  simp only [go_sem, ir41, E_impl_rising_impl_Star__impl_isStar__impl_starName_l1, R_impl_rising_impl_Star__impl_isStar__impl_starName_l1, ir41_b0, ir41_k0, ir41_o0, ir41_r0, hk2, hk3, lhk3, xhk3, fhk4, ghk5ann, ghk5b, ghk6ann, ghk6b, ghk7ann, ghk7b, hk8]
  · try simp only [go_sem, n1, n2, n3, n4] at hk2
    all_goals
    obtain rfl := so_some h
    refine ⟨0, fun L hL => ?_⟩
    simp only [go_sem, ir41, E_impl_rising_impl_Star__impl_isStar__impl_starName_l1, R_impl_rising_impl_Star__impl_isStar__impl_starName_l1, ir41_b0, ir41_k0, ir41_o0, ir41_r0, hk2]

theorem Fs_impl_rising_impl_Star__impl_isStar__impl_starName {list : List Star} {most : Int} {y_ : Bool} (h : impl_rising_impl_Star__impl_isStar__impl_starName list most = some y_) : c_impl_rising_impl_Star__impl_isStar__impl_starName.F [.sl 5 (List.map Star_av list), .int .i64 most, .fn (.func 42) [] [], .fn (.func 43) [] []] = ⟨true, .bool y_, [.any, .any, .any, .any]⟩ := by
  refine mkF_E rfl ?_
  dsimp only [impl_rising_impl_Star__impl_isStar__impl_starName] at h
  rcases it_some h with ⟨hk1, h⟩ | ⟨hk1, h⟩
  · try simp only [go_sem, n1, n2, n3, n4] at hk1
    all_goals
    obtain rfl := so_some h
    refine ⟨0, fun L hL => ?_⟩
    simp only [go_sem, ir41, E_impl_rising_impl_Star__impl_isStar__impl_starName_l1, R_impl_rising_impl_Star__impl_isStar__impl_starName_l1, ir41_k0, ir41_o0, ir41_r0, hk1]
  · try simp only [go_sem, n1, n2, n3, n4] at hk1
    all_goals
    obtain ⟨y_9, hk9, h⟩ := bd_some h
    obtain ⟨Lhk9, ehk9⟩ := impl_rising_impl_Star__impl_isStar__impl_starName_l1_ex hk9
    rcases y_9 with y_9a | y_9b
    · dsimp only at h
      obtain rfl := so_some h
      refine ⟨Lhk9, fun L hL => ?_⟩
      have ehk9 := ehk9 L (by omega)
      try simp only [go_sem, E_impl_rising_impl_Star__impl_isStar__impl_starName_l1, R_impl_rising_impl_Star__impl_isStar__impl_starName_l1, ir41_k0, ir41_o0, ir41_r0, hk1] at ehk9
      simp only [go_sem, ir41, E_impl_rising_impl_Star__impl_isStar__impl_starName_l1, R_impl_rising_impl_Star__impl_isStar__impl_starName_l1, ir41_k0, ir41_o0, ir41_r0, hk1, ehk9]
    · dsimp only at h
      obtain rfl := so_some h
      refine ⟨Lhk9, fun L hL => ?_⟩
      have ehk9 := ehk9 L (by omega)
      try simp only [go_sem, E_impl_rising_impl_Star__impl_isStar__impl_starName_l1, R_impl_rising_impl_Star__impl_isStar__impl_starName_l1, ir41_k0, ir41_o0, ir41_r0, hk1] at ehk9
      simp only [go_sem, ir41, E_impl_rising_impl_Star__impl_isStar__impl_starName_l1, R_impl_rising_impl_Star__impl_isStar__impl_starName_l1, ir41_k0, ir41_o0, ir41_r0, hk1, ehk9]


def ir28_v : List Nat := [0, 2]
def ir28 : AFn := ⟨1, 2, .seq (.region false [
    ⟨.var 1, 2, none, .mov (.c (.bool false))⟩])
 (.seq (.region false [
    ⟨.push, 3, none, .mov (.v 0)⟩,
    ⟨.push, 4, none, .call 41 [(.s 0), (.c (.int .i64 (60))), (.c (.fn (.func 42) [] [])), (.c (.fn (.func 43) [] []))]⟩,
    ⟨.var 1, 2, none, .mov (.s 0)⟩])
 (.ret)), [.t 1]⟩
noncomputable def t_impl_ValidStars : List (Nat × Ctr) := [(41, c_impl_rising_impl_Star__impl_isStar__impl_starName)]
theorem lk_impl_ValidStars_41 : look t_impl_ValidStars 41 = some c_impl_rising_impl_Star__impl_isStar__impl_starName := rfl
noncomputable def c_impl_ValidStars : Ctr := mkF t_impl_ValidStars ir28 [.bor]
theorem s_impl_ValidStars : Sound Tryz.prog 28 c_impl_ValidStars := mkF_sound _ rfl (snd_cons s_impl_rising_impl_Star__impl_isStar__impl_starName snd_nil) (by kernel_rfl : chkFn Tryz.prog 28 ir28 ir28_v = true)
theorem M_impl_ValidStars : c_impl_ValidStars.modes = [.bor] := rfl
theorem Fl_impl_ValidStars : c_impl_ValidStars.flat = true := rfl
attribute [go_sem] M_impl_ValidStars Fl_impl_ValidStars
attribute [go_sem] lk_impl_ValidStars_41
theorem Fs_impl_ValidStars {list : List Star} {y_ : Bool} (h : impl_ValidStars list = some y_) : c_impl_ValidStars.F [.sl 5 (List.map Star_av list)] = ⟨true, .bool y_, [.any]⟩ := by
  refine mkF_E rfl ?_
  dsimp only [impl_ValidStars] at h
  obtain ⟨y_1, hk1, h⟩ := bd_some h
  have fhk1 := Fs_impl_rising_impl_Star__impl_isStar__impl_starName hk1
  try simp only [go_sem] at fhk1
  obtain rfl := so_some h
  refine ⟨0, fun L hL => ?_⟩
  simp only [go_sem, ir28, fhk1]


def ir59_v : List Nat := [0, 2]
def ir59 : AFn := ⟨1, 2, .seq (.region false [
    ⟨.var 1, 2, none, .mov (.c (.bool false))⟩])
 (.seq (.region false [
    ⟨.push, 3, none, .mov (.v 0)⟩,
    ⟨.push, 4, none, .call 56 [(.s 0), (.c (.int .i64 (0))), (.c (.int .i64 (10000000)))]⟩,
    ⟨.var 1, 2, none, .mov (.s 0)⟩])
 (.ret)), [.t 1]⟩
noncomputable def t_impl_ValidTime : List (Nat × Ctr) := [(56, c_impl_in)]
theorem lk_impl_ValidTime_56 : look t_impl_ValidTime 56 = some c_impl_in := rfl
noncomputable def c_impl_ValidTime : Ctr := mkF t_impl_ValidTime ir59 [.bor]
theorem s_impl_ValidTime : Sound Tryz.prog 59 c_impl_ValidTime := mkF_sound _ rfl (snd_cons s_impl_in snd_nil) (by kernel_rfl : chkFn Tryz.prog 59 ir59 ir59_v = true)
theorem M_impl_ValidTime : c_impl_ValidTime.modes = [.bor] := rfl
theorem Fl_impl_ValidTime : c_impl_ValidTime.flat = true := rfl
attribute [go_sem] M_impl_ValidTime Fl_impl_ValidTime
attribute [go_sem] lk_impl_ValidTime_56
theorem Fs_impl_ValidTime {t : Int} {y_ : Bool} (h : impl_ValidTime t = some y_) : c_impl_ValidTime.F [.int .i64 t] = ⟨true, .bool y_, [.any]⟩ := by
  refine mkF_E rfl ?_
  dsimp only [impl_ValidTime] at h
  obtain ⟨y_1, hk1, h⟩ := bd_some h
  have fhk1 := Fs_impl_in hk1
  try simp only [go_sem] at fhk1
  obtain rfl := so_some h
  refine ⟨0, fun L hL => ?_⟩
  simp only [go_sem, ir59, fhk1]


def ir44_v : List Nat := [0, 1, 2]
def ir44 : AFn := ⟨1, 3, .seq (.region false [
    ⟨.var 1, 1, none, .box (.v 0)⟩,
    ⟨.var 2, 2, none, .mov (.c (.bool false))⟩])
 (.seq (.region false [
    ⟨.push, 3, none, .fldAddr 0 (.v 1)⟩,
    ⟨.push, 4, none, .load false 1 (.s 0)⟩,
    ⟨.push, 5, none, .call 59 [(.s 0)]⟩,
    ⟨.push, 6, none, .mov (.s 0)⟩,
    ⟨.push, 7, (some ((.s 0), true)), .fldAddr 1 (.v 1)⟩,
    ⟨.push, 8, (some ((.s 1), true)), .load false 1 (.s 0)⟩,
    ⟨.push, 9, (some ((.s 2), true)), .call 57 [(.s 0)]⟩,
    ⟨.push, 10, none, .pick (.s 3) (.s 0) (.c (.bool false))⟩,
    ⟨.push, 11, none, .mov (.s 0)⟩,
    ⟨.push, 12, (some ((.s 0), true)), .fldAddr 2 (.v 1)⟩,
    ⟨.push, 13, (some ((.s 1), true)), .load false 1 (.s 0)⟩,
    ⟨.push, 14, (some ((.s 2), true)), .call 57 [(.s 0)]⟩,
    ⟨.push, 15, none, .pick (.s 3) (.s 0) (.c (.bool false))⟩,
    ⟨.push, 16, none, .mov (.s 0)⟩,
    ⟨.push, 17, (some ((.s 0), true)), .fldAddr 3 (.v 1)⟩,
    ⟨.push, 18, (some ((.s 1), true)), .load false 1 (.s 0)⟩,
    ⟨.push, 19, (some ((.s 2), true)), .call 58 [(.s 0)]⟩,
    ⟨.push, 20, none, .pick (.s 3) (.s 0) (.c (.bool false))⟩,
    ⟨.var 2, 2, none, .mov (.s 0)⟩])
 (.ret)), [.t 2]⟩
noncomputable def t_impl_isEstimate : List (Nat × Ctr) := [(59, c_impl_ValidTime), (57, c_impl_IsName), (58, c_impl_ValidMag)]
theorem lk_impl_isEstimate_59 : look t_impl_isEstimate 59 = some c_impl_ValidTime := rfl
theorem lk_impl_isEstimate_57 : look t_impl_isEstimate 57 = some c_impl_IsName := rfl
theorem lk_impl_isEstimate_58 : look t_impl_isEstimate 58 = some c_impl_ValidMag := rfl
noncomputable def c_impl_isEstimate : Ctr := mkF t_impl_isEstimate ir44 [.bor]
theorem s_impl_isEstimate : Sound Tryz.prog 44 c_impl_isEstimate := mkF_sound _ rfl (snd_cons s_impl_ValidTime (snd_cons s_impl_IsName (snd_cons s_impl_ValidMag snd_nil))) (by kernel_rfl : chkFn Tryz.prog 44 ir44 ir44_v = true)
theorem M_impl_isEstimate : c_impl_isEstimate.modes = [.bor] := rfl
theorem Fl_impl_isEstimate : c_impl_isEstimate.flat = true := rfl
attribute [go_sem] M_impl_isEstimate Fl_impl_isEstimate
attribute [go_sem] lk_impl_isEstimate_59 lk_impl_isEstimate_57 lk_impl_isEstimate_58
theorem Fs_impl_isEstimate {e_ : Estimate} {y_ : Bool} (h : impl_isEstimate e_ = some y_) : c_impl_isEstimate.F [Estimate_av e_] = ⟨true, .bool y_, [.any]⟩ := by
  refine mkF_E rfl ?_
  dsimp only [impl_isEstimate] at h
  obtain ⟨y_1, hk1, h⟩ := bd_some h
  have fhk1 := Fs_impl_ValidTime hk1
  try simp only [go_sem] at fhk1
  obtain ⟨hk2, h⟩ := ck_some h
  rcases or_split hk2 with ⟨ghk2, hk2⟩ | ghk2
  · try simp only [go_sem, n1, n2, n3, n4] at ghk2
    all_goals
    obtain ⟨y_2, hhk2⟩ := Option.isSome_iff_exists.1 hk2
    have fhk2 := Fs_impl_IsName hhk2
    try simp only [go_sem, ghk2] at fhk2
    obtain ⟨hk3, h⟩ := ck_some h
    rcases or_split hk3 with ⟨ghk3, hk3⟩ | ghk3
    · try simp only [go_sem, n1, n2, n3, n4, ghk2, hhk2] at ghk3
      all_goals
      obtain ⟨y_3, hhk3⟩ := Option.isSome_iff_exists.1 hk3
      have fhk3 := Fs_impl_IsName hhk3
      try simp only [go_sem, ghk2, hhk2, ghk3] at fhk3
      obtain ⟨hk4, h⟩ := ck_some h
      rcases or_split hk4 with ⟨ghk4, hk4⟩ | ghk4
      · try simp only [go_sem, n1, n2, n3, n4, ghk2, hhk2, ghk3, hhk3] at ghk4
        all_goals
        obtain ⟨y_4, hhk4⟩ := Option.isSome_iff_exists.1 hk4
        have fhk4 := Fs_impl_ValidMag hhk4
        try simp only [go_sem, ghk2, hhk2, ghk3, hhk3, ghk4] at fhk4
        obtain rfl := so_some h
        refine ⟨0, fun L hL => ?_⟩
        simp only [go_sem, ir44, fhk1, ghk2, hhk2, fhk2, ghk3, hhk3, fhk3, ghk4, hhk4, fhk4]
      · rcases and_f ghk4 with ghk4a | ⟨ghk4a, ghk4b⟩
        · rcases and_f ghk4a with ghk4aa | ⟨ghk4aa, ghk4ab⟩
          · try simp only [go_sem, n1, n2, n3, n4, ghk2, hhk2, ghk3, hhk3] at ghk4aa
            all_goals
            obtain rfl := so_some h
            refine ⟨0, fun L hL => ?_⟩
            simp only [go_sem, ir44, fhk1, ghk2, hhk2, fhk2, ghk3, hhk3, fhk3, ghk4aa]
          · try simp only [go_sem, n1, n2, n3, n4, ghk2, hhk2, ghk3, hhk3] at ghk4aa
            all_goals
            try simp only [go_sem, n1, n2, n3, n4, ghk2, hhk2, ghk3, hhk3, ghk4aa] at ghk4ab
            all_goals
            obtain rfl := so_some h
            refine ⟨0, fun L hL => ?_⟩
            simp only [go_sem, ir44, fhk1, ghk2, hhk2, fhk2, ghk3, hhk3, fhk3, ghk4aa, ghk4ab]
        · obtain ⟨ghk4aa, ghk4ab⟩ := and_t ghk4a
          try simp only [go_sem, n1, n2, n3, n4, ghk2, hhk2, ghk3, hhk3] at ghk4aa
          all_goals
          try simp only [go_sem, n1, n2, n3, n4, ghk2, hhk2, ghk3, hhk3, ghk4aa] at ghk4ab
          all_goals
          try simp only [go_sem, n1, n2, n3, n4, ghk2, hhk2, ghk3, hhk3, ghk4aa, ghk4ab] at ghk4b
          all_goals
          obtain rfl := so_some h
          refine ⟨0, fun L hL => ?_⟩
          simp only [go_sem, ir44, fhk1, ghk2, hhk2, fhk2, ghk3, hhk3, fhk3, ghk4aa, ghk4ab, ghk4b]
    · rcases and_f ghk3 with ghk3a | ⟨ghk3a, ghk3b⟩
      · try simp only [go_sem, n1, n2, n3, n4, ghk2, hhk2] at ghk3a
        all_goals
        obtain ⟨hk4, h⟩ := ck_some h
        rcases or_split hk4 with ⟨ghk4, hk4⟩ | ghk4
        · try simp only [go_sem, n1, n2, n3, n4, ghk2, hhk2, ghk3a] at ghk4
          all_goals
          obtain ⟨y_4, hhk4⟩ := Option.isSome_iff_exists.1 hk4
          have fhk4 := Fs_impl_ValidMag hhk4
          try simp only [go_sem, ghk2, hhk2, ghk3a, ghk4] at fhk4
          obtain rfl := so_some h
          refine ⟨0, fun L hL => ?_⟩
          simp only [go_sem, ir44, fhk1, ghk2, hhk2, fhk2, ghk3a, ghk4, hhk4, fhk4]
        · rcases and_f ghk4 with ghk4a | ⟨ghk4a, ghk4b⟩
          · rcases and_f ghk4a with ghk4aa | ⟨ghk4aa, ghk4ab⟩
            · try simp only [go_sem, n1, n2, n3, n4, ghk2, hhk2, ghk3a] at ghk4aa
              all_goals
              obtain rfl := so_some h
              refine ⟨0, fun L hL => ?_⟩
              simp only [go_sem, ir44, fhk1, ghk2, hhk2, fhk2, ghk3a, ghk4aa]
            · try simp only [go_sem, n1, n2, n3, n4, ghk2, hhk2, ghk3a] at ghk4aa
              all_goals
              try simp only [go_sem, n1, n2, n3, n4, ghk2, hhk2, ghk3a, ghk4aa] at ghk4ab
              all_goals
              obtain rfl := so_some h
              refine ⟨0, fun L hL => ?_⟩
              simp only [go_sem, ir44, fhk1, ghk2, hhk2, fhk2, ghk3a, ghk4aa, ghk4ab]
          · obtain ⟨ghk4aa, ghk4ab⟩ := and_t ghk4a
            try simp only [go_sem, n1, n2, n3, n4, ghk2, hhk2, ghk3a] at ghk4aa
            all_goals
            try simp only [go_sem, n1, n2, n3, n4, ghk2, hhk2, ghk3a, ghk4aa] at ghk4ab
            all_goals
            try simp only [go_sem, n1, n2, n3, n4, ghk2, hhk2, ghk3a, ghk4aa, ghk4ab] at ghk4b
            all_goals
            obtain rfl := so_some h
            refine ⟨0, fun L hL => ?_⟩
            simp only [go_sem, ir44, fhk1, ghk2, hhk2, fhk2, ghk3a, ghk4aa, ghk4ab, ghk4b]
      · try simp only [go_sem, n1, n2, n3, n4, ghk2, hhk2] at ghk3a
        all_goals
        try simp only [go_sem, n1, n2, n3, n4, ghk2, hhk2, ghk3a] at ghk3b
        all_goals
        obtain ⟨hk4, h⟩ := ck_some h
        rcases or_split hk4 with ⟨ghk4, hk4⟩ | ghk4
        · try simp only [go_sem, n1, n2, n3, n4, ghk2, hhk2, ghk3a, ghk3b] at ghk4
          all_goals
          obtain ⟨y_4, hhk4⟩ := Option.isSome_iff_exists.1 hk4
          have fhk4 := Fs_impl_ValidMag hhk4
          try simp only [go_sem, ghk2, hhk2, ghk3a, ghk3b, ghk4] at fhk4
          obtain rfl := so_some h
          refine ⟨0, fun L hL => ?_⟩
          simp only [go_sem, ir44, fhk1, ghk2, hhk2, fhk2, ghk3a, ghk3b, ghk4, hhk4, fhk4]
        · rcases and_f ghk4 with ghk4a | ⟨ghk4a, ghk4b⟩
          · rcases and_f ghk4a with ghk4aa | ⟨ghk4aa, ghk4ab⟩
            · try simp only [go_sem, n1, n2, n3, n4, ghk2, hhk2, ghk3a, ghk3b] at ghk4aa
              all_goals
              obtain rfl := so_some h
              refine ⟨0, fun L hL => ?_⟩
              simp only [go_sem, ir44, fhk1, ghk2, hhk2, fhk2, ghk3a, ghk3b, ghk4aa]
            · try simp only [go_sem, n1, n2, n3, n4, ghk2, hhk2, ghk3a, ghk3b] at ghk4aa
              all_goals
              try simp only [go_sem, n1, n2, n3, n4, ghk2, hhk2, ghk3a, ghk3b, ghk4aa] at ghk4ab
              all_goals
              obtain rfl := so_some h
              refine ⟨0, fun L hL => ?_⟩
              simp only [go_sem, ir44, fhk1, ghk2, hhk2, fhk2, ghk3a, ghk3b, ghk4aa, ghk4ab]
          · obtain ⟨ghk4aa, ghk4ab⟩ := and_t ghk4a
            try simp only [go_sem, n1, n2, n3, n4, ghk2, hhk2, ghk3a, ghk3b] at ghk4aa
            all_goals
            try simp only [go_sem, n1, n2, n3, n4, ghk2, hhk2, ghk3a, ghk3b, ghk4aa] at ghk4ab
            all_goals
            try simp only [go_sem, n1, n2, n3, n4, ghk2, hhk2, ghk3a, ghk3b, ghk4aa, ghk4ab] at ghk4b
            all_goals
            obtain rfl := so_some h
            refine ⟨0, fun L hL => ?_⟩
            simp only [go_sem, ir44, fhk1, ghk2, hhk2, fhk2, ghk3a, ghk3b, ghk4aa, ghk4ab, ghk4b]
  · try simp only [go_sem, n1, n2, n3, n4] at ghk2
    all_goals
    obtain ⟨hk3, h⟩ := ck_some h
    rcases or_split hk3 with ⟨ghk3, hk3⟩ | ghk3
    · try simp only [go_sem, n1, n2, n3, n4, ghk2] at ghk3
      all_goals
      obtain ⟨y_3, hhk3⟩ := Option.isSome_iff_exists.1 hk3
      have fhk3 := Fs_impl_IsName hhk3
      try simp only [go_sem, ghk2, ghk3] at fhk3
      obtain ⟨hk4, h⟩ := ck_some h
      rcases or_split hk4 with ⟨ghk4, hk4⟩ | ghk4
      · try simp only [go_sem, n1, n2, n3, n4, ghk2, ghk3, hhk3] at ghk4
        all_goals
        obtain ⟨y_4, hhk4⟩ := Option.isSome_iff_exists.1 hk4
        have fhk4 := Fs_impl_ValidMag hhk4
        try simp only [go_sem, ghk2, ghk3, hhk3, ghk4] at fhk4
        obtain rfl := so_some h
        refine ⟨0, fun L hL => ?_⟩
        simp only [go_sem, ir44, fhk1, ghk2, ghk3, hhk3, fhk3, ghk4, hhk4, fhk4]
      · rcases and_f ghk4 with ghk4a | ⟨ghk4a, ghk4b⟩
        · rcases and_f ghk4a with ghk4aa | ⟨ghk4aa, ghk4ab⟩
          · try simp only [go_sem, n1, n2, n3, n4, ghk2, ghk3, hhk3] at ghk4aa
            all_goals
            obtain rfl := so_some h
            refine ⟨0, fun L hL => ?_⟩
            simp only [go_sem, ir44, fhk1, ghk2, ghk3, hhk3, fhk3, ghk4aa]
          · try simp only [go_sem, n1, n2, n3, n4, ghk2, ghk3, hhk3] at ghk4aa
            all_goals
            try simp only [go_sem, n1, n2, n3, n4, ghk2, ghk3, hhk3, ghk4aa] at ghk4ab
            all_goals
            obtain rfl := so_some h
            refine ⟨0, fun L hL => ?_⟩
            simp only [go_sem, ir44, fhk1, ghk2, ghk3, hhk3, fhk3, ghk4aa, ghk4ab]
        · obtain ⟨ghk4aa, ghk4ab⟩ := and_t ghk4a
          try simp only [go_sem, n1, n2, n3, n4, ghk2, ghk3, hhk3] at ghk4aa
          all_goals
          try simp only [go_sem, n1, n2, n3, n4, ghk2, ghk3, hhk3, ghk4aa] at ghk4ab
          all_goals
          try simp only [go_sem, n1, n2, n3, n4, ghk2, ghk3, hhk3, ghk4aa, ghk4ab] at ghk4b
          all_goals
          obtain rfl := so_some h
          refine ⟨0, fun L hL => ?_⟩
          simp only [go_sem, ir44, fhk1, ghk2, ghk3, hhk3, fhk3, ghk4aa, ghk4ab, ghk4b]
    · rcases and_f ghk3 with ghk3a | ⟨ghk3a, ghk3b⟩
      · try simp only [go_sem, n1, n2, n3, n4, ghk2] at ghk3a
        all_goals
        obtain ⟨hk4, h⟩ := ck_some h
        rcases or_split hk4 with ⟨ghk4, hk4⟩ | ghk4
        · try simp only [go_sem, n1, n2, n3, n4, ghk2, ghk3a] at ghk4
          all_goals
          obtain ⟨y_4, hhk4⟩ := Option.isSome_iff_exists.1 hk4
          have fhk4 := Fs_impl_ValidMag hhk4
          try simp only [go_sem, ghk2, ghk3a, ghk4] at fhk4
          obtain rfl := so_some h
          refine ⟨0, fun L hL => ?_⟩
          simp only [go_sem, ir44, fhk1, ghk2, ghk3a, ghk4, hhk4, fhk4]
        · rcases and_f ghk4 with ghk4a | ⟨ghk4a, ghk4b⟩
          · rcases and_f ghk4a with ghk4aa | ⟨ghk4aa, ghk4ab⟩
            · try simp only [go_sem, n1, n2, n3, n4, ghk2, ghk3a] at ghk4aa
              all_goals
              obtain rfl := so_some h
              refine ⟨0, fun L hL => ?_⟩
              simp only [go_sem, ir44, fhk1, ghk2, ghk3a, ghk4aa]
            · try simp only [go_sem, n1, n2, n3, n4, ghk2, ghk3a] at ghk4aa
              all_goals
              try simp only [go_sem, n1, n2, n3, n4, ghk2, ghk3a, ghk4aa] at ghk4ab
              all_goals
              obtain rfl := so_some h
              refine ⟨0, fun L hL => ?_⟩
              simp only [go_sem, ir44, fhk1, ghk2, ghk3a, ghk4aa, ghk4ab]
          · obtain ⟨ghk4aa, ghk4ab⟩ := and_t ghk4a
            try simp only [go_sem, n1, n2, n3, n4, ghk2, ghk3a] at ghk4aa
            all_goals
            try simp only [go_sem, n1, n2, n3, n4, ghk2, ghk3a, ghk4aa] at ghk4ab
            all_goals
            try simp only [go_sem, n1, n2, n3, n4, ghk2, ghk3a, ghk4aa, ghk4ab] at ghk4b
            all_goals
            obtain rfl := so_some h
            refine ⟨0, fun L hL => ?_⟩
            simp only [go_sem, ir44, fhk1, ghk2, ghk3a, ghk4aa, ghk4ab, ghk4b]
      · try simp only [go_sem, n1, n2, n3, n4, ghk2] at ghk3a
        all_goals
        try simp only [go_sem, n1, n2, n3, n4, ghk2, ghk3a] at ghk3b
        all_goals
        obtain ⟨hk4, h⟩ := ck_some h
        rcases or_split hk4 with ⟨ghk4, hk4⟩ | ghk4
        · try simp only [go_sem, n1, n2, n3, n4, ghk2, ghk3a, ghk3b] at ghk4
          all_goals
          obtain ⟨y_4, hhk4⟩ := Option.isSome_iff_exists.1 hk4
          have fhk4 := Fs_impl_ValidMag hhk4
          try simp only [go_sem, ghk2, ghk3a, ghk3b, ghk4] at fhk4
          obtain rfl := so_some h
          refine ⟨0, fun L hL => ?_⟩
          simp only [go_sem, ir44, fhk1, ghk2, ghk3a, ghk3b, ghk4, hhk4, fhk4]
        · rcases and_f ghk4 with ghk4a | ⟨ghk4a, ghk4b⟩
          · rcases and_f ghk4a with ghk4aa | ⟨ghk4aa, ghk4ab⟩
            · try simp only [go_sem, n1, n2, n3, n4, ghk2, ghk3a, ghk3b] at ghk4aa
              all_goals
              obtain rfl := so_some h
              refine ⟨0, fun L hL => ?_⟩
              simp only [go_sem, ir44, fhk1, ghk2, ghk3a, ghk3b, ghk4aa]
            · try simp only [go_sem, n1, n2, n3, n4, ghk2, ghk3a, ghk3b] at ghk4aa
              all_goals
              try simp only [go_sem, n1, n2, n3, n4, ghk2, ghk3a, ghk3b, ghk4aa] at ghk4ab
              all_goals
              obtain rfl := so_some h
              refine ⟨0, fun L hL => ?_⟩
              simp only [go_sem, ir44, fhk1, ghk2, ghk3a, ghk3b, ghk4aa, ghk4ab]
          · obtain ⟨ghk4aa, ghk4ab⟩ := and_t ghk4a
            try simp only [go_sem, n1, n2, n3, n4, ghk2, ghk3a, ghk3b] at ghk4aa
            all_goals
            try simp only [go_sem, n1, n2, n3, n4, ghk2, ghk3a, ghk3b, ghk4aa] at ghk4ab
            all_goals
            try simp only [go_sem, n1, n2, n3, n4, ghk2, ghk3a, ghk3b, ghk4aa, ghk4ab] at ghk4b
            all_goals
            obtain rfl := so_some h
            refine ⟨0, fun L hL => ?_⟩
            simp only [go_sem, ir44, fhk1, ghk2, ghk3a, ghk3b, ghk4aa, ghk4ab, ghk4b]


def ir76_v : List Nat := [0, 2]
def ir76 : AFn := ⟨1, 2, .seq (.region false [
    ⟨.var 1, 2, none, .mov (.c (.bool false))⟩])
 (.seq (.region false [
    ⟨.push, 3, none, .mov (.v 0)⟩,
    ⟨.push, 4, none, .mov (.v 0)⟩,
    ⟨.push, 5, none, .bin false .neq (.s 1) (.s 0)⟩,
    ⟨.var 1, 2, none, .mov (.s 0)⟩])
 (.ret)), [.t 1]⟩
noncomputable def t_cmp_isNaN_int64 : List (Nat × Ctr) := []
noncomputable def c_cmp_isNaN_int64 : Ctr := mkF t_cmp_isNaN_int64 ir76 [.bor]
theorem s_cmp_isNaN_int64 : Sound Tryz.prog 76 c_cmp_isNaN_int64 := mkF_sound _ rfl snd_nil (by kernel_rfl : chkFn Tryz.prog 76 ir76 ir76_v = true)
theorem M_cmp_isNaN_int64 : c_cmp_isNaN_int64.modes = [.bor] := rfl
theorem Fl_cmp_isNaN_int64 : c_cmp_isNaN_int64.flat = true := rfl
attribute [go_sem] M_cmp_isNaN_int64 Fl_cmp_isNaN_int64
theorem Fs_cmp_isNaN_int64 {x : Int} {y_ : Bool} (h : cmp_isNaN_int64 x = some y_) : c_cmp_isNaN_int64.F [.int .i64 x] = ⟨true, .bool y_, [.any]⟩ := by
  refine mkF_E rfl ?_
  dsimp only [cmp_isNaN_int64] at h
  obtain rfl := so_some h
  refine ⟨0, fun L hL => ?_⟩
  simp only [go_sem, ir76]


end Go.Proofs.YtbdghipedlldbaaGreatDoor
