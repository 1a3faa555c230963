/- Codes and contracts of the functions that AG reaches, and that their typed forms say what they do. No condition. -/
import Derived.Test.YtpjpfdoaemoddaaAGT
import Derived.Test.YtpjpfdoaemoddaaRows
import Derived.WalkKit
namespace Go.Proofs.Ytpjpfdoaemoddaa
open Go Go.RowKit
set_option linter.unusedVariables false
set_option linter.unusedSimpArgs false
set_option maxRecDepth 10000

def ir17_v : List Nat := [0, 1, 4]
def ir17 : AFn := ⟨2, 3, .seq (.region false [
    ⟨.var 2, 4, none, .mov (.c (.bool false))⟩])
 (.seq (.region false [
    ⟨.push, 5, none, .mov (.v 0)⟩,
    ⟨.push, 6, none, .len false (.s 0)⟩,
    ⟨.push, 7, none, .bin false .gtr (.s 0) (.c (.int .i64 (3000)))⟩,
    ⟨.push, 8, none, .mov (.s 0)⟩,
    ⟨.push, 9, (some ((.s 0), false)), .mov (.v 1)⟩,
    ⟨.push, 10, (some ((.s 1), false)), .len false (.s 0)⟩,
    ⟨.push, 11, (some ((.s 2), false)), .bin false .gtr (.s 0) (.c (.int .i64 (3000)))⟩,
    ⟨.push, 12, none, .pick (.s 3) (.c (.bool true)) (.s 0)⟩,
    ⟨.var 2, 4, none, .mov (.s 0)⟩])
 (.ret)), [.t 2]⟩
noncomputable def t_laws_a2Long : List (Nat × Ctr) := []
noncomputable def c_laws_a2Long : Ctr := mkF t_laws_a2Long ir17 [.bor, .bor]
theorem s_laws_a2Long : Sound Try.prog 17 c_laws_a2Long := mkF_sound _ rfl snd_nil (by kernel_rfl : chkFn Try.prog 17 ir17 ir17_v = true)
theorem M_laws_a2Long : c_laws_a2Long.modes = [.bor, .bor] := rfl
theorem Fl_laws_a2Long : c_laws_a2Long.flat = true := rfl
attribute [go_sem] M_laws_a2Long Fl_laws_a2Long
theorem Fs_laws_a2Long {code : List UInt8} {more : List UInt8} {y_ : Bool} (h : laws_a2Long code more = some y_) : c_laws_a2Long.F [.sl 1 (List.map byteAV code), .sl 1 (List.map byteAV more)] = ⟨true, .bool y_, [.any, .any]⟩ := by
  refine mkF_E rfl ?_
  dsimp only [laws_a2Long] at h
  obtain rfl := so_some h
  refine ⟨0, fun L hL => ?_⟩
  simp only [go_sem, ir17]


def ir36_v : List Nat := [0, 2]
def ir36 : AFn := ⟨1, 2, .seq (.region false [
    ⟨.var 1, 2, none, .mov (.c (.cv (.pointer none)))⟩])
 (.seq (.region false [
    ⟨.push, 3, none, .mov (.v 0)⟩,
    ⟨.push, 4, none, .build [.sl 1 [], .int .i64 (0), .int .u64 (0)] [(0, 1, (.s 0))]⟩,
    ⟨.push, 5, none, .box (.s 0)⟩,
    ⟨.var 1, 2, none, .mov (.s 0)⟩])
 (.ret)), [.t 1]⟩
noncomputable def t_spec_l00From : List (Nat × Ctr) := []
noncomputable def c_spec_l00From : Ctr := mkN t_spec_l00From ir36 [.bor]
theorem s_spec_l00From : Sound Try.prog 36 c_spec_l00From := mkN_sound _ snd_nil (by kernel_rfl : chkFn Try.prog 36 ir36 ir36_v = true)
theorem M_spec_l00From : c_spec_l00From.modes = [.bor] := rfl
theorem Fl_spec_l00From : c_spec_l00From.flat = false := rfl
attribute [go_sem] M_spec_l00From Fl_spec_l00From
theorem Fs_spec_l00From {code : List UInt8} {y_ : L00Src} (h : spec_l00From code = some y_) : c_spec_l00From.F [.sl 1 (List.map byteAV code)] = ⟨true, .mem 3 [L00Src_av y_], [.any]⟩ := by
  refine mkN_E ?_
  dsimp only [spec_l00From] at h
  obtain rfl := so_some h
  refine ⟨0, fun L hL => ?_⟩
  simp only [go_sem, ir36]


def ir71_v : List Nat := [0, 2, 3]
def ir71 : AFn := ⟨1, 3, .seq (.region false [
    ⟨.var 1, 2, none, .mov (.c (.int .i64 (0)))⟩])
 (.seq (.region false [
    ⟨.var 2, 3, none, .mov (.c (.int .i64 (0)))⟩])
 (.seq (.anyo 10 [
    ⟨.slot 0, 4, none, .mov (.v 0)⟩,
    ⟨.slot 1, 5, none, .nilck (.s 0)⟩,
    ⟨.slot 2, 6, none, .fldAddr 1 (.s 1)⟩,
    ⟨.slot 3, 7, none, .load false 1 (.s 2)⟩,
    ⟨.slot 4, 8, none, .mov (.v 0)⟩,
    ⟨.slot 5, 9, none, .nilck (.s 4)⟩,
    ⟨.slot 6, 10, none, .fldAddr 0 (.s 5)⟩,
    ⟨.slot 7, 11, none, .load false 1 (.s 6)⟩,
    ⟨.slot 8, 12, none, .len false (.s 7)⟩,
    ⟨.slot 9, 13, none, .bin false .lss (.s 3) (.s 8)⟩] [] (.cond (.s 9)
  (.anyo 11 [
     ⟨.slot 0, 14, none, .mov (.v 0)⟩,
     ⟨.slot 1, 15, none, .nilck (.s 0)⟩,
     ⟨.slot 2, 16, none, .fldAddr 0 (.s 1)⟩,
     ⟨.slot 3, 17, none, .load false 1 (.s 2)⟩,
     ⟨.slot 4, 18, none, .mov (.v 0)⟩,
     ⟨.slot 5, 19, none, .nilck (.s 4)⟩,
     ⟨.slot 6, 20, none, .fldAddr 1 (.s 5)⟩,
     ⟨.slot 7, 21, none, .load false 1 (.s 6)⟩,
     ⟨.slot 8, 22, none, .ixAddr 1 (.s 3) (.s 7)⟩,
     ⟨.slot 9, 23, none, .load false 1 (.s 8)⟩,
     ⟨.slot 10, 24, none, .conv .i64 (.s 9)⟩,
     ⟨.var 2, 3, none, .mov (.s 10)⟩] [] .skip)
  (.skip)))
 (.seq (.region false [
    ⟨.push, 25, none, .mov (.v 0)⟩,
    ⟨.push, 26, none, .nilck (.s 0)⟩,
    ⟨.push, 27, none, .fldAddr 1 (.s 0)⟩,
    ⟨.push, 28, none, .load false 1 (.s 0)⟩,
    ⟨.push, 29, none, .bin false .add (.s 0) (.c (.int .i64 (1)))⟩,
    ⟨.push, 30, none, .nilck (.s 4)⟩,
    ⟨.push, 31, none, .fldAddr 1 (.s 0)⟩,
    ⟨.no, 0, none, .store 1 (.s 0) (.s 2)⟩])
 (.seq (.region false [
    ⟨.push, 32, none, .mov (.v 0)⟩,
    ⟨.push, 33, none, .mov (.v 0)⟩,
    ⟨.push, 34, none, .nilck (.s 0)⟩,
    ⟨.push, 35, none, .fldAddr 2 (.s 0)⟩,
    ⟨.push, 36, none, .load false 1 (.s 0)⟩,
    ⟨.push, 37, none, .bin false .mul (.s 0) (.c (.int .u64 (6364136223846793005)))⟩,
    ⟨.push, 38, none, .mov (.v 2)⟩,
    ⟨.push, 39, none, .conv .u64 (.s 0)⟩,
    ⟨.push, 40, none, .bin false .add (.s 2) (.s 0)⟩,
    ⟨.push, 41, none, .bin false .add (.s 0) (.c (.int .u64 (1442695040888963407)))⟩,
    ⟨.push, 42, none, .nilck (.s 9)⟩,
    ⟨.push, 43, none, .fldAddr 2 (.s 0)⟩,
    ⟨.no, 0, none, .store 1 (.s 0) (.s 2)⟩])
 (.seq (.anyo 10 [
    ⟨.slot 0, 44, none, .mov (.v 0)⟩,
    ⟨.slot 1, 45, none, .nilck (.s 0)⟩,
    ⟨.slot 2, 46, none, .fldAddr 1 (.s 1)⟩,
    ⟨.slot 3, 47, none, .load false 1 (.s 2)⟩,
    ⟨.slot 4, 48, none, .mov (.v 0)⟩,
    ⟨.slot 5, 49, none, .nilck (.s 4)⟩,
    ⟨.slot 6, 50, none, .fldAddr 0 (.s 5)⟩,
    ⟨.slot 7, 51, none, .load false 1 (.s 6)⟩,
    ⟨.slot 8, 52, none, .len false (.s 7)⟩,
    ⟨.slot 9, 53, none, .bin false .leq (.s 3) (.s 8)⟩] [] (.cond (.s 9)
  (.seq (.region false [
      ⟨.push, 54, none, .mov (.v 2)⟩,
      ⟨.var 1, 2, none, .mov (.s 0)⟩])
   (.ret))
  (.skip)))
 (.seq (.region false [
    ⟨.push, 55, none, .mov (.v 0)⟩,
    ⟨.push, 56, none, .nilck (.s 0)⟩,
    ⟨.push, 57, none, .fldAddr 2 (.s 0)⟩,
    ⟨.push, 58, none, .load false 1 (.s 0)⟩,
    ⟨.push, 59, none, .bin false .shr (.s 0) (.c (.int .u64 (40)))⟩,
    ⟨.push, 60, none, .bin false .and (.s 0) (.c (.int .u64 (255)))⟩,
    ⟨.push, 61, none, .conv .i64 (.s 0)⟩,
    ⟨.var 1, 2, none, .mov (.s 0)⟩])
 (.ret))))))), [.t 1]⟩
noncomputable def t_spec_l00Src_next : List (Nat × Ctr) := []
noncomputable def c_spec_l00Src_next : Ctr := mkN t_spec_l00Src_next ir71 [.io]
theorem s_spec_l00Src_next : Sound Try.prog 71 c_spec_l00Src_next := mkN_sound _ snd_nil (by kernel_rfl : chkFn Try.prog 71 ir71 ir71_v = true)
theorem M_spec_l00Src_next : c_spec_l00Src_next.modes = [.io] := rfl
theorem Fl_spec_l00Src_next : c_spec_l00Src_next.flat = false := rfl
attribute [go_sem] M_spec_l00Src_next Fl_spec_l00Src_next
theorem Fs_spec_l00Src_next {s_ : L00Src} {y_ : Int × L00Src} (h : spec_l00Src_next s_ = some y_) : c_spec_l00Src_next.F [.mem 3 [L00Src_av s_]] = ⟨true, .int .i64 y_.1, [.mem 3 [L00Src_av y_.2]]⟩ := by
  refine mkN_E ?_
  dsimp only [spec_l00Src_next] at h
  rcases it_some h with ⟨hk1, h⟩ | ⟨hk1, h⟩
  · try simp only [go_sem, n1, n2, n3, n4] at hk1
    all_goals
    obtain ⟨hk2, h⟩ := ck_some h
    have lhk2 := ix_lt hk2
    have xhk2 := getD_mapD byteAV s_.code_ lhk2
    try simp only [go_sem] at lhk2
    try simp only [go_sem] at xhk2
    try simp only [go_sem, n1, n2, n3, n4, hk1] at hk2
    all_goals
    rcases it_some h with ⟨hk3, h⟩ | ⟨hk3, h⟩
    · try simp only [go_sem, n1, n2, n3, n4, hk1, hk2] at hk3
      all_goals
      obtain rfl := so_some h
      refine ⟨0, fun L hL => ?_⟩
      simp only [go_sem, ir71, hk1, hk2, lhk2, xhk2, hk3]
    · try simp only [go_sem, n1, n2, n3, n4, hk1, hk2] at hk3
      all_goals
      obtain ⟨hk4, h⟩ := ck_some h
      try simp only [go_sem, n1, n2, n3, n4, hk1, hk2, hk3] at hk4
      all_goals
      obtain rfl := so_some h
      refine ⟨0, fun L hL => ?_⟩
      simp only [go_sem, ir71, hk1, hk2, lhk2, xhk2, hk3, hk4]
  · try simp only [go_sem, n1, n2, n3, n4] at hk1
    all_goals
    rcases it_some h with ⟨hk5, h⟩ | ⟨hk5, h⟩
    · try simp only [go_sem, n1, n2, n3, n4, hk1] at hk5
      all_goals
      obtain rfl := so_some h
      refine ⟨0, fun L hL => ?_⟩
      simp only [go_sem, ir71, hk1, hk5]
    · try simp only [go_sem, n1, n2, n3, n4, hk1] at hk5
      all_goals
      obtain ⟨hk6, h⟩ := ck_some h
      try simp only [go_sem, n1, n2, n3, n4, hk1, hk5] at hk6
      all_goals
      obtain rfl := so_some h
      refine ⟨0, fun L hL => ?_⟩
      simp only [go_sem, ir71, hk1, hk5, hk6]


def ir37_v : List Nat := [0, 1, 4, 5]
def ir37 : AFn := ⟨2, 4, .seq (.region false [
    ⟨.var 2, 4, none, .mov (.c (.int .i64 (0)))⟩])
 (.seq (.test false [
    ⟨.push, 6, none, .mov (.v 1)⟩,
    ⟨.push, 7, none, .bin false .leq (.s 0) (.c (.int .i64 (1)))⟩] (.s 0)
  (.seq (.region false [
      ⟨.var 2, 4, none, .mov (.c (.int .i64 (0)))⟩])
   (.ret))
  (.skip))
 (.seq (.region false [
    ⟨.push, 8, none, .mov (.v 0)⟩,
    ⟨.push, 9, none, .call 71 [(.s 0)]⟩,
    ⟨.var 3, 5, none, .mov (.s 0)⟩])
 (.seq (.test false [
    ⟨.push, 10, none, .mov (.v 1)⟩,
    ⟨.push, 11, none, .bin false .gtr (.s 0) (.c (.int .i64 (200)))⟩] (.s 0)
  (.region false [
     ⟨.push, 12, none, .mov (.v 3)⟩,
     ⟨.push, 13, none, .bin false .mul (.s 0) (.c (.int .i64 (256)))⟩,
     ⟨.push, 14, none, .mov (.v 0)⟩,
     ⟨.push, 15, none, .call 71 [(.s 0)]⟩,
     ⟨.push, 16, none, .bin false .add (.s 2) (.s 0)⟩,
     ⟨.var 3, 5, none, .mov (.s 0)⟩])
  (.skip))
 (.seq (.region false [
    ⟨.push, 17, none, .mov (.v 3)⟩,
    ⟨.push, 18, none, .mov (.v 1)⟩,
    ⟨.push, 19, none, .bin false .rem (.s 1) (.s 0)⟩,
    ⟨.var 2, 4, none, .mov (.s 0)⟩])
 (.ret))))), [.t 2]⟩
noncomputable def t_spec_l00Src_pick : List (Nat × Ctr) := [(71, c_spec_l00Src_next)]
theorem lk_spec_l00Src_pick_71 : look t_spec_l00Src_pick 71 = some c_spec_l00Src_next := rfl
noncomputable def c_spec_l00Src_pick : Ctr := mkN t_spec_l00Src_pick ir37 [.io, .bor]
theorem s_spec_l00Src_pick : Sound Try.prog 37 c_spec_l00Src_pick := mkN_sound _ (snd_cons s_spec_l00Src_next snd_nil) (by kernel_rfl : chkFn Try.prog 37 ir37 ir37_v = true)
theorem M_spec_l00Src_pick : c_spec_l00Src_pick.modes = [.io, .bor] := rfl
theorem Fl_spec_l00Src_pick : c_spec_l00Src_pick.flat = false := rfl
attribute [go_sem] M_spec_l00Src_pick Fl_spec_l00Src_pick
attribute [go_sem] lk_spec_l00Src_pick_71
theorem Fs_spec_l00Src_pick {s_ : L00Src} {n : Int} {y_ : Int × L00Src} (h : spec_l00Src_pick s_ n = some y_) : c_spec_l00Src_pick.F [.mem 3 [L00Src_av s_], .int .i64 n] = ⟨true, .int .i64 y_.1, [.mem 3 [L00Src_av y_.2], .any]⟩ := by
  refine mkN_E ?_
  dsimp only [spec_l00Src_pick] at h
  rcases it_some h with ⟨hk1, h⟩ | ⟨hk1, h⟩
  · try simp only [go_sem, n1, n2, n3, n4] at hk1
    all_goals
    obtain rfl := so_some h
    refine ⟨0, fun L hL => ?_⟩
    simp only [go_sem, ir37, hk1]
  · try simp only [go_sem, n1, n2, n3, n4] at hk1
    all_goals
    obtain ⟨y_2, hk2, h⟩ := bd_some h
    have fhk2 := Fs_spec_l00Src_next hk2
    try simp only [go_sem, hk1] at fhk2
    rcases it_some h with ⟨hk3, h⟩ | ⟨hk3, h⟩
    · try simp only [go_sem, n1, n2, n3, n4, hk1] at hk3
      all_goals
      obtain ⟨y_4, hk4, h⟩ := bd_some h
      have fhk4 := Fs_spec_l00Src_next hk4
      try simp only [go_sem, hk1, hk3] at fhk4
      obtain ⟨hk5, h⟩ := ck_some h
      try simp only [go_sem, n1, n2, n3, n4, hk1, hk3] at hk5
      all_goals
      obtain rfl := so_some h
      refine ⟨0, fun L hL => ?_⟩
      simp only [go_sem, ir37, hk1, fhk2, hk3, fhk4, hk5]
    · try simp only [go_sem, n1, n2, n3, n4, hk1] at hk3
      all_goals
      obtain ⟨hk6, h⟩ := ck_some h
      try simp only [go_sem, n1, n2, n3, n4, hk1, hk3] at hk6
      all_goals
      obtain rfl := so_some h
      refine ⟨0, fun L hL => ?_⟩
      simp only [go_sem, ir37, hk1, fhk2, hk3, hk6]


def ir38_v : List Nat := [0, 1, 4]
def ir38 : AFn := ⟨2, 3, .seq (.region false [
    ⟨.var 2, 4, none, .mov (.c (.bool false))⟩])
 (.seq (.region false [
    ⟨.push, 5, none, .mov (.v 0)⟩,
    ⟨.push, 6, none, .mov (.v 1)⟩,
    ⟨.push, 7, none, .call 37 [(.s 1), (.s 0)]⟩,
    ⟨.push, 8, none, .bin false .eql (.s 0) (.c (.int .i64 (0)))⟩,
    ⟨.var 2, 4, none, .mov (.s 0)⟩])
 (.ret)), [.t 2]⟩
noncomputable def t_spec_l00Src_one : List (Nat × Ctr) := [(37, c_spec_l00Src_pick)]
theorem lk_spec_l00Src_one_37 : look t_spec_l00Src_one 37 = some c_spec_l00Src_pick := rfl
noncomputable def c_spec_l00Src_one : Ctr := mkN t_spec_l00Src_one ir38 [.io, .bor]
theorem s_spec_l00Src_one : Sound Try.prog 38 c_spec_l00Src_one := mkN_sound _ (snd_cons s_spec_l00Src_pick snd_nil) (by kernel_rfl : chkFn Try.prog 38 ir38 ir38_v = true)
theorem M_spec_l00Src_one : c_spec_l00Src_one.modes = [.io, .bor] := rfl
theorem Fl_spec_l00Src_one : c_spec_l00Src_one.flat = false := rfl
attribute [go_sem] M_spec_l00Src_one Fl_spec_l00Src_one
attribute [go_sem] lk_spec_l00Src_one_37
theorem Fs_spec_l00Src_one {s_ : L00Src} {n : Int} {y_ : Bool × L00Src} (h : spec_l00Src_one s_ n = some y_) : c_spec_l00Src_one.F [.mem 3 [L00Src_av s_], .int .i64 n] = ⟨true, .bool y_.1, [.mem 3 [L00Src_av y_.2], .any]⟩ := by
  refine mkN_E ?_
  dsimp only [spec_l00Src_one] at h
  obtain ⟨y_1, hk1, h⟩ := bd_some h
  have fhk1 := Fs_spec_l00Src_pick hk1
  try simp only [go_sem] at fhk1
  obtain rfl := so_some h
  refine ⟨0, fun L hL => ?_⟩
  simp only [go_sem, ir38, fhk1]


def ir96_v : List Nat := [0, 1, 4]
def ir96 : AFn := ⟨2, 3, .seq (.region false [
    ⟨.var 2, 4, none, .mov (.c (.str []))⟩])
 (.seq (.region false [
    ⟨.push, 5, none, .mov (.v 1)⟩,
    ⟨.push, 6, none, .mov (.v 0)⟩,
    ⟨.push, 7, none, .mov (.v 1)⟩,
    ⟨.push, 8, none, .len false (.s 0)⟩,
    ⟨.push, 9, none, .call 37 [(.s 2), (.s 0)]⟩,
    ⟨.push, 10, none, .ixAddr 1 (.s 4) (.s 0)⟩,
    ⟨.push, 11, none, .load false 1 (.s 0)⟩,
    ⟨.var 2, 4, none, .mov (.s 0)⟩])
 (.ret)), [.t 2]⟩
noncomputable def t_spec_l00Src_text : List (Nat × Ctr) := [(37, c_spec_l00Src_pick)]
theorem lk_spec_l00Src_text_37 : look t_spec_l00Src_text 37 = some c_spec_l00Src_pick := rfl
noncomputable def c_spec_l00Src_text : Ctr := mkN t_spec_l00Src_text ir96 [.io, .bor]
theorem s_spec_l00Src_text : Sound Try.prog 96 c_spec_l00Src_text := mkN_sound _ (snd_cons s_spec_l00Src_pick snd_nil) (by kernel_rfl : chkFn Try.prog 96 ir96 ir96_v = true)
theorem M_spec_l00Src_text : c_spec_l00Src_text.modes = [.io, .bor] := rfl
theorem Fl_spec_l00Src_text : c_spec_l00Src_text.flat = false := rfl
attribute [go_sem] M_spec_l00Src_text Fl_spec_l00Src_text
attribute [go_sem] lk_spec_l00Src_text_37
theorem Fs_spec_l00Src_text {s_ : L00Src} {list : List (List UInt8)} {y_ : (List UInt8) × L00Src} (h : spec_l00Src_text s_ list = some y_) : c_spec_l00Src_text.F [.mem 3 [L00Src_av s_], .sl 1 (List.map AV.str list)] = ⟨true, .str y_.1, [.mem 3 [L00Src_av y_.2], .any]⟩ := by
  refine mkN_E ?_
  dsimp only [spec_l00Src_text] at h
  obtain ⟨y_1, hk1, h⟩ := bd_some h
  have fhk1 := Fs_spec_l00Src_pick hk1
  try simp only [go_sem] at fhk1
  obtain ⟨hk2, h⟩ := ck_some h
  have lhk2 := ix_lt hk2
  have xhk2 := getD_mapD AV.str list lhk2
  try simp only [go_sem] at lhk2
  try simp only [go_sem] at xhk2
  try simp only [go_sem, n1, n2, n3, n4] at hk2
  all_goals
  obtain rfl := so_some h
  refine ⟨0, fun L hL => ?_⟩
  simp only [go_sem, ir96, fhk1, hk2, lhk2, xhk2]


def ir75_v : List Nat := [0, 2, 3]
def ir75 : AFn := ⟨1, 3, .seq (.region false [
    ⟨.var 1, 2, none, .alloc (.agg [.int .i64 (0), .str [], .str [], .int .i64 (0), .bool false])⟩])
 (.seq (.region false [
    ⟨.push, 4, none, .mov (.v 0)⟩,
    ⟨.push, 5, none, .call 37 [(.s 0), (.c (.int .i64 (30)))]⟩,
    ⟨.push, 6, none, .bin false .mul (.c (.int .i64 (1000))) (.s 0)⟩,
    ⟨.push, 7, none, .build [.int .i64 (0), .str [], .str [], .int .i64 (0), .bool false] [(0, 1, (.s 0))]⟩,
    ⟨.var 2, 3, none, .alloc (.agg [.int .i64 (0), .str [], .str [], .int .i64 (0), .bool false])⟩,
    ⟨.no, 0, none, .store 5 (.v 2) (.s 0)⟩])
 (.seq (.test false [
    ⟨.push, 8, none, .mov (.v 0)⟩,
    ⟨.push, 9, none, .call 38 [(.s 0), (.c (.int .i64 (2)))]⟩] (.s 0)
  (.anyo 6 [
     ⟨.slot 0, 10, none, .fldAddr 0 (.v 2)⟩,
     ⟨.slot 1, 11, none, .load false 1 (.s 0)⟩,
     ⟨.slot 2, 12, none, .mov (.v 0)⟩,
     ⟨.slot 3, 13, none, .call 37 [(.s 2), (.c (.int .i64 (3000)))]⟩,
     ⟨.slot 4, 14, none, .bin false .add (.s 1) (.s 3)⟩,
     ⟨.slot 5, 15, none, .fldAddr 0 (.v 2)⟩,
     ⟨.no, 0, none, .store 1 (.s 5) (.s 4)⟩] [[2, 0, 1, 3, 4, 5, 6], [2, 0, 3, 1, 4, 5, 6], [2, 3, 0, 1, 4, 5, 6]] .skip)
  (.skip))
 (.seq (.region false [
    ⟨.push, 16, none, .mov (.v 0)⟩,
    ⟨.push, 17, none, .mkSl 1 (.str []) 3 [(0, (.c (.str [109, 105, 114, 97]))), (1, (.c (.str [114, 114, 45, 108, 121, 114]))), (2, (.c (.str [115, 115, 45, 99, 121, 103])))]⟩,
    ⟨.push, 18, none, .call 96 [(.s 1), (.s 0)]⟩,
    ⟨.push, 19, none, .fldAddr 1 (.v 2)⟩,
    ⟨.no, 0, none, .store 1 (.s 0) (.s 1)⟩])
 (.seq (.region false [
    ⟨.push, 20, none, .mov (.v 0)⟩,
    ⟨.push, 21, none, .mkSl 1 (.str []) 3 [(0, (.c (.str [97, 98]))), (1, (.c (.str [99, 100]))), (2, (.c (.str [101])))]⟩,
    ⟨.push, 22, none, .call 96 [(.s 1), (.s 0)]⟩,
    ⟨.push, 23, none, .fldAddr 2 (.v 2)⟩,
    ⟨.no, 0, none, .store 1 (.s 0) (.s 1)⟩])
 (.seq (.region false [
    ⟨.push, 24, none, .mov (.v 0)⟩,
    ⟨.push, 25, none, .call 37 [(.s 0), (.c (.int .i64 (60)))]⟩,
    ⟨.push, 26, none, .bin false .mul (.c (.int .i64 (50))) (.s 0)⟩,
    ⟨.push, 27, none, .bin false .add (.c (.int .i64 (8000))) (.s 0)⟩,
    ⟨.push, 28, none, .fldAddr 3 (.v 2)⟩,
    ⟨.no, 0, none, .store 1 (.s 0) (.s 1)⟩])
 (.seq (.region false [
    ⟨.push, 29, none, .mov (.v 0)⟩,
    ⟨.push, 30, none, .call 38 [(.s 0), (.c (.int .i64 (5)))]⟩,
    ⟨.push, 31, none, .fldAddr 4 (.v 2)⟩,
    ⟨.no, 0, none, .store 1 (.s 0) (.s 1)⟩])
 (.seq (.region false [
    ⟨.push, 32, none, .load true 5 (.v 2)⟩,
    ⟨.no, 0, none, .store 5 (.v 1) (.s 0)⟩])
 (.ret)))))))), [.cell true 5 1]⟩
noncomputable def t_spec_l06New : List (Nat × Ctr) := [(37, c_spec_l00Src_pick), (38, c_spec_l00Src_one), (96, c_spec_l00Src_text)]
theorem lk_spec_l06New_37 : look t_spec_l06New 37 = some c_spec_l00Src_pick := rfl
theorem lk_spec_l06New_38 : look t_spec_l06New 38 = some c_spec_l00Src_one := rfl
theorem lk_spec_l06New_96 : look t_spec_l06New 96 = some c_spec_l00Src_text := rfl
noncomputable def c_spec_l06New : Ctr := mkN t_spec_l06New ir75 [.io]
theorem s_spec_l06New : Sound Try.prog 75 c_spec_l06New := mkN_sound _ (snd_cons s_spec_l00Src_pick (snd_cons s_spec_l00Src_one (snd_cons s_spec_l00Src_text snd_nil))) (by kernel_rfl : chkFn Try.prog 75 ir75 ir75_v = true)
theorem M_spec_l06New : c_spec_l06New.modes = [.io] := rfl
theorem Fl_spec_l06New : c_spec_l06New.flat = false := rfl
attribute [go_sem] M_spec_l06New Fl_spec_l06New
attribute [go_sem] lk_spec_l06New_37 lk_spec_l06New_38 lk_spec_l06New_96
theorem Fs_spec_l06New {s_ : L00Src} {y_ : Estimate × L00Src} (h : spec_l06New s_ = some y_) : c_spec_l06New.F [.mem 3 [L00Src_av s_]] = ⟨true, Estimate_av y_.1, [.mem 3 [L00Src_av y_.2]]⟩ := by
  refine mkN_E ?_
  dsimp only [spec_l06New] at h
  obtain ⟨y_1, hk1, h⟩ := bd_some h
  have fhk1 := Fs_spec_l00Src_pick hk1
  try simp only [go_sem] at fhk1
  obtain ⟨y_2, hk2, h⟩ := bd_some h
  have fhk2 := Fs_spec_l00Src_one hk2
  try simp only [go_sem] at fhk2
  rcases it_some h with ⟨hk3, h⟩ | ⟨hk3, h⟩
  · try simp only [go_sem, n1, n2, n3, n4] at hk3
    all_goals
    obtain ⟨y_4, hk4, h⟩ := bd_some h
    have fhk4 := Fs_spec_l00Src_pick hk4
    try simp only [go_sem, hk3] at fhk4
    obtain ⟨y_5, hk5, h⟩ := bd_some h
    have fhk5 := Fs_spec_l00Src_text hk5
    try simp only [go_sem, hk3] at fhk5
    obtain ⟨y_6, hk6, h⟩ := bd_some h
    have fhk6 := Fs_spec_l00Src_text hk6
    try simp only [go_sem, hk3] at fhk6
    obtain ⟨y_7, hk7, h⟩ := bd_some h
    have fhk7 := Fs_spec_l00Src_pick hk7
    try simp only [go_sem, hk3] at fhk7
    obtain ⟨y_8, hk8, h⟩ := bd_some h
    have fhk8 := Fs_spec_l00Src_one hk8
    try simp only [go_sem, hk3] at fhk8
    obtain rfl := so_some h
    refine ⟨0, fun L hL => ?_⟩
    simp only [go_sem, ir75, fhk1, fhk2, hk3, fhk4, fhk5, fhk6, fhk7, fhk8]
  · try simp only [go_sem, n1, n2, n3, n4] at hk3
    all_goals
    obtain ⟨y_9, hk9, h⟩ := bd_some h
    have fhk9 := Fs_spec_l00Src_text hk9
    try simp only [go_sem, hk3] at fhk9
    obtain ⟨y_10, hk10, h⟩ := bd_some h
    have fhk10 := Fs_spec_l00Src_text hk10
    try simp only [go_sem, hk3] at fhk10
    obtain ⟨y_11, hk11, h⟩ := bd_some h
    have fhk11 := Fs_spec_l00Src_pick hk11
    try simp only [go_sem, hk3] at fhk11
    obtain ⟨y_12, hk12, h⟩ := bd_some h
    have fhk12 := Fs_spec_l00Src_one hk12
    try simp only [go_sem, hk3] at fhk12
    obtain rfl := so_some h
    refine ⟨0, fun L hL => ?_⟩
    simp only [go_sem, ir75, fhk1, fhk2, hk3, fhk9, fhk10, fhk11, fhk12]


def ir81_v : List Nat := [0, 1, 4]
def ir81 : AFn := ⟨2, 3, .seq (.region false [
    ⟨.var 2, 4, none, .mov (.c (.bool false))⟩])
 (.seq (.anyo 9 [
    ⟨.slot 0, 5, none, .mov (.v 0)⟩,
    ⟨.slot 1, 6, none, .nilck (.s 0)⟩,
    ⟨.slot 2, 7, none, .fldAddr 0 (.s 1)⟩,
    ⟨.slot 3, 8, none, .load false 1 (.s 2)⟩,
    ⟨.slot 4, 9, none, .mov (.v 1)⟩,
    ⟨.slot 5, 10, none, .nilck (.s 4)⟩,
    ⟨.slot 6, 11, none, .fldAddr 0 (.s 5)⟩,
    ⟨.slot 7, 12, none, .load false 1 (.s 6)⟩,
    ⟨.slot 8, 13, none, .bin false .neq (.s 3) (.s 7)⟩] [] (.cond (.s 8)
  (.seq (.anyo 9 [
      ⟨.slot 0, 14, none, .mov (.v 0)⟩,
      ⟨.slot 1, 15, none, .nilck (.s 0)⟩,
      ⟨.slot 2, 16, none, .fldAddr 0 (.s 1)⟩,
      ⟨.slot 3, 17, none, .load false 1 (.s 2)⟩,
      ⟨.slot 4, 18, none, .mov (.v 1)⟩,
      ⟨.slot 5, 19, none, .nilck (.s 4)⟩,
      ⟨.slot 6, 20, none, .fldAddr 0 (.s 5)⟩,
      ⟨.slot 7, 21, none, .load false 1 (.s 6)⟩,
      ⟨.slot 8, 22, none, .bin false .lss (.s 3) (.s 7)⟩,
      ⟨.var 2, 4, none, .mov (.s 8)⟩] [] .skip)
   (.ret))
  (.skip)))
 (.seq (.anyo 9 [
    ⟨.slot 0, 23, none, .mov (.v 0)⟩,
    ⟨.slot 1, 24, none, .nilck (.s 0)⟩,
    ⟨.slot 2, 25, none, .fldAddr 1 (.s 1)⟩,
    ⟨.slot 3, 26, none, .load false 1 (.s 2)⟩,
    ⟨.slot 4, 27, none, .mov (.v 1)⟩,
    ⟨.slot 5, 28, none, .nilck (.s 4)⟩,
    ⟨.slot 6, 29, none, .fldAddr 1 (.s 5)⟩,
    ⟨.slot 7, 30, none, .load false 1 (.s 6)⟩,
    ⟨.slot 8, 31, none, .bin false .neq (.s 3) (.s 7)⟩] [] (.cond (.s 8)
  (.seq (.anyo 9 [
      ⟨.slot 0, 32, none, .mov (.v 0)⟩,
      ⟨.slot 1, 33, none, .nilck (.s 0)⟩,
      ⟨.slot 2, 34, none, .fldAddr 1 (.s 1)⟩,
      ⟨.slot 3, 35, none, .load false 1 (.s 2)⟩,
      ⟨.slot 4, 36, none, .mov (.v 1)⟩,
      ⟨.slot 5, 37, none, .nilck (.s 4)⟩,
      ⟨.slot 6, 38, none, .fldAddr 1 (.s 5)⟩,
      ⟨.slot 7, 39, none, .load false 1 (.s 6)⟩,
      ⟨.slot 8, 40, none, .bin false .lss (.s 3) (.s 7)⟩,
      ⟨.var 2, 4, none, .mov (.s 8)⟩] [] .skip)
   (.ret))
  (.skip)))
 (.seq (.anyo 9 [
    ⟨.slot 0, 41, none, .mov (.v 0)⟩,
    ⟨.slot 1, 42, none, .nilck (.s 0)⟩,
    ⟨.slot 2, 43, none, .fldAddr 2 (.s 1)⟩,
    ⟨.slot 3, 44, none, .load false 1 (.s 2)⟩,
    ⟨.slot 4, 45, none, .mov (.v 1)⟩,
    ⟨.slot 5, 46, none, .nilck (.s 4)⟩,
    ⟨.slot 6, 47, none, .fldAddr 2 (.s 5)⟩,
    ⟨.slot 7, 48, none, .load false 1 (.s 6)⟩,
    ⟨.slot 8, 49, none, .bin false .lss (.s 3) (.s 7)⟩,
    ⟨.var 2, 4, none, .mov (.s 8)⟩] [] .skip)
 (.ret)))), [.t 2]⟩
noncomputable def t_spec_l06Before : List (Nat × Ctr) := []
noncomputable def c_spec_l06Before : Ctr := mkF t_spec_l06Before ir81 [.bor, .bor]
theorem s_spec_l06Before : Sound Try.prog 81 c_spec_l06Before := mkF_sound _ rfl snd_nil (by kernel_rfl : chkFn Try.prog 81 ir81 ir81_v = true)
theorem M_spec_l06Before : c_spec_l06Before.modes = [.bor, .bor] := rfl
theorem Fl_spec_l06Before : c_spec_l06Before.flat = true := rfl
attribute [go_sem] M_spec_l06Before Fl_spec_l06Before
theorem Fs_spec_l06Before {a : Estimate} {b : Estimate} {y_ : Bool} (h : spec_l06Before a b = some y_) : c_spec_l06Before.F [.ptr 5 [Estimate_av a] 0 0, .ptr 5 [Estimate_av b] 0 0] = ⟨true, .bool y_, [.any, .any]⟩ := by
  refine mkF_E rfl ?_
  dsimp only [spec_l06Before] at h
  rcases it_some h with ⟨hk1, h⟩ | ⟨hk1, h⟩
  · try simp only [go_sem, n1, n2, n3, n4] at hk1
    all_goals
    obtain rfl := so_some h
    refine ⟨0, fun L hL => ?_⟩
    simp only [go_sem, ir81, hk1]
  · try simp only [go_sem, n1, n2, n3, n4] at hk1
    all_goals
    rcases it_some h with ⟨hk2, h⟩ | ⟨hk2, h⟩
    · try simp only [go_sem, n1, n2, n3, n4, hk1] at hk2
      all_goals
      obtain rfl := so_some h
      refine ⟨0, fun L hL => ?_⟩
      simp only [go_sem, ir81, hk1, hk2]
    · try simp only [go_sem, n1, n2, n3, n4, hk1] at hk2
      all_goals
      obtain rfl := so_some h
      refine ⟨0, fun L hL => ?_⟩
      simp only [go_sem, ir81, hk1, hk2]


def ir76_b0 : IR := .seq (.test false [
    ⟨.push, 6, none, .mov (.v 3)⟩,
    ⟨.push, 7, none, .mov (.v 0)⟩,
    ⟨.push, 8, none, .len false (.s 0)⟩,
    ⟨.push, 9, none, .bin false .lss (.s 2) (.s 0)⟩] (.s 0)
  (.skip)
  (.exit 0))
 (.seq (.block 1 (.test false [
     ⟨.push, 12, none, .mov (.v 0)⟩,
     ⟨.push, 13, none, .mov (.v 3)⟩,
     ⟨.push, 14, none, .ixAddr 5 (.s 1) (.s 0)⟩,
     ⟨.push, 15, none, .mov (.v 1)⟩,
     ⟨.push, 16, none, .call 81 [(.s 1), (.s 0)]⟩,
     ⟨.push, 17, none, .un .not (.s 0)⟩,
     ⟨.push, 18, none, .mov (.s 0)⟩,
     ⟨.push, 19, (some ((.s 0), true)), .mov (.v 1)⟩,
     ⟨.push, 20, (some ((.s 1), true)), .mov (.v 0)⟩,
     ⟨.push, 21, (some ((.s 2), true)), .mov (.v 3)⟩,
     ⟨.push, 22, (some ((.s 3), true)), .ixAddr 5 (.s 1) (.s 0)⟩,
     ⟨.push, 23, (some ((.s 4), true)), .call 81 [(.s 3), (.s 0)]⟩,
     ⟨.push, 24, (some ((.s 5), true)), .un .not (.s 0)⟩,
     ⟨.push, 25, none, .pick (.s 6) (.s 0) (.c (.bool false))⟩] (.s 0)
   (.seq (.region false [
       ⟨.push, 26, none, .mov (.v 3)⟩,
       ⟨.var 2, 4, none, .mov (.s 0)⟩])
    (.ret))
   (.skip)))
 (.region false [
   ⟨.push, 10, none, .mov (.v 3)⟩,
   ⟨.push, 11, none, .bin false .add (.s 0) (.c (.int .i64 (1)))⟩,
   ⟨.var 3, 5, none, .mov (.s 0)⟩]))
def ir76_k0 : List Bool := [true, true, false, true]
def ir76_o0 : List Bool := [false, false, false, false]
def ir76_r0 : List Bool := [false, false, true, false]
def ir76_v : List Nat := [0, 1, 4, 5]
def ir76 : AFn := ⟨2, 4, .seq (.region false [
    ⟨.var 2, 4, none, .mov (.c (.int .i64 (0)))⟩])
 (.seq (.seq (.region false [
     ⟨.var 3, 5, none, .mov (.c (.int .i64 (0)))⟩])
  (.block 0 (.loop ir76_k0 ir76_o0 ir76_r0 ir76_b0)))
 (.seq (.region false [
    ⟨.var 2, 4, none, .mov (.c (.int .i64 (-1)))⟩])
 (.ret))), [.t 2]⟩
noncomputable def t_spec_l06Find : List (Nat × Ctr) := [(81, c_spec_l06Before)]
theorem lk_spec_l06Find_81 : look t_spec_l06Find 81 = some c_spec_l06Before := rfl
noncomputable def c_spec_l06Find : Ctr := mkF t_spec_l06Find ir76 [.bor, .bor]
theorem s_spec_l06Find : Sound Try.prog 76 c_spec_l06Find := mkF_sound _ rfl (snd_cons s_spec_l06Before snd_nil) (by kernel_rfl : chkFn Try.prog 76 ir76 ir76_v = true)
theorem M_spec_l06Find : c_spec_l06Find.modes = [.bor, .bor] := rfl
theorem Fl_spec_l06Find : c_spec_l06Find.flat = true := rfl
attribute [go_sem] M_spec_l06Find Fl_spec_l06Find
attribute [go_sem] lk_spec_l06Find_81
def E_spec_l06Find_l1 (list : List Estimate) (e_ : Estimate) : Int → St
  | i => ⟨[.sl 5 (List.map Estimate_av list), .ptr 5 [Estimate_av e_] 0 0, .any, .int .i64 i], [], [], true⟩
def R_spec_l06Find_l1 (list : List Estimate) (e_ : Estimate) : (Unit ⊕ Int) → Res
  | .inl y => (.exit 0, ⟨[.any, .any, .any, .any], [], [], true⟩)
  | .inr y => (.ret, ⟨[.any, .any, .int .i64 y, .any], [], [], true⟩)
theorem spec_l06Find_l1_ex {list : List Estimate} {e_ : Estimate} {sgm_ : Int} {rho_ : Unit ⊕ Int} (h : whileE (spec_l06Find_l1 list e_) sgm_ = some rho_) : ∃ L0, ∀ L, L0 ≤ L → iter (exec (look t_spec_l06Find) L ir76_b0) ir76_k0 ir76_o0 ir76_r0 L (E_spec_l06Find_l1 list e_ sgm_) = R_spec_l06Find_l1 list e_ rho_ := by
  refine loop_ex (E := E_spec_l06Find_l1 list e_) (R := R_spec_l06Find_l1 list e_) (fun y => by first | (intro c; cases c) | (rcases y with y | y <;> (intro c; cases c)) | (rcases y with y | y | y <;> (intro c; cases c))) ?_ h
  clear h
  intro i o_ h
  dsimp only [spec_l06Find_l1] at h
  rcases it_some h with ⟨hk1, h⟩ | ⟨hk1, h⟩
  · try simp only [go_sem, n1, n2, n3, n4] at hk1
    all_goals
    obtain ⟨hk2, h⟩ := ck_some h
    have lhk2 := ix_lt hk2
    have xhk2 := getD_mapD Estimate_av list lhk2
    try simp only [go_sem] at lhk2
    try simp only [go_sem] at xhk2
    try simp only [go_sem, n1, n2, n3, n4, hk1] at hk2
    all_goals
    obtain ⟨y_3, hk3, h⟩ := bd_some h
    have fhk3 := Fs_spec_l06Before hk3
    try simp only [go_sem, hk1, hk2] at fhk3
    obtain ⟨hk4, h⟩ := ck_some h
    rcases or_split hk4 with ⟨ghk4, hk4⟩ | ghk4
    · try simp only [go_sem, n1, n2, n3, n4, hk1, hk2] at ghk4
      all_goals
      obtain ⟨y_4, hhk4⟩ := Option.isSome_iff_exists.1 hk4
      have fhk4 := Fs_spec_l06Before hhk4
      try simp only [go_sem, n1, n2, n3, n4, hk1, hk2, ghk4] at hhk4
      all_goals
      try simp only [go_sem, hk1, hk2, ghk4] at fhk4
      rcases it_some h with ⟨hk5, h⟩ | ⟨hk5, h⟩
      · try simp only [go_sem, n1, n2, n3, n4, hk1, hk2, ghk4, hhk4] at hk5
        all_goals
        obtain rfl := so_some h
        refine ⟨0, fun L hL => ?_⟩
        simp only [go_sem, ir76, E_spec_l06Find_l1, R_spec_l06Find_l1, ir76_b0, ir76_k0, ir76_o0, ir76_r0, hk1, hk2, lhk2, xhk2, fhk3, ghk4, hhk4, fhk4, hk5]
      · try simp only [go_sem, n1, n2, n3, n4, hk1, hk2, ghk4, hhk4] at hk5
        all_goals
        obtain rfl := so_some h
        refine ⟨0, fun L hL => ?_⟩
        simp only [go_sem, ir76, E_spec_l06Find_l1, R_spec_l06Find_l1, ir76_b0, ir76_k0, ir76_o0, ir76_r0, hk1, hk2, lhk2, xhk2, fhk3, ghk4, hhk4, fhk4, hk5]
    · have ghk4n := no_f ghk4
      try simp only [go_sem, n1, n2, n3, n4, hk1, hk2] at ghk4n
      all_goals
      rcases it_some h with ⟨hk5, h⟩ | ⟨hk5, h⟩
      · try simp only [go_sem, n1, n2, n3, n4, hk1, hk2, ghk4n] at hk5
        all_goals
        (simp_all)
      · try simp only [go_sem, n1, n2, n3, n4, hk1, hk2, ghk4n] at hk5
        all_goals
        obtain rfl := so_some h
        refine ⟨0, fun L hL => ?_⟩
        simp only [go_sem, ir76, E_spec_l06Find_l1, R_spec_l06Find_l1, ir76_b0, ir76_k0, ir76_o0, ir76_r0, hk1, hk2, lhk2, xhk2, fhk3, ghk4n, hk5]
  · try simp only [go_sem, n1, n2, n3, n4] at hk1
    all_goals
    obtain rfl := so_some h
    refine ⟨0, fun L hL => ?_⟩
    simp only [go_sem, ir76, E_spec_l06Find_l1, R_spec_l06Find_l1, ir76_b0, ir76_k0, ir76_o0, ir76_r0, hk1]

theorem Fs_spec_l06Find {list : List Estimate} {e_ : Estimate} {y_ : Int} (h : spec_l06Find list e_ = some y_) : c_spec_l06Find.F [.sl 5 (List.map Estimate_av list), .ptr 5 [Estimate_av e_] 0 0] = ⟨true, .int .i64 y_, [.any, .any]⟩ := by
  refine mkF_E rfl ?_
  dsimp only [spec_l06Find] at h
  obtain ⟨y_6, hk6, h⟩ := bd_some h
  obtain ⟨Lhk6, ehk6⟩ := spec_l06Find_l1_ex hk6
  rcases y_6 with y_6a | y_6b
  · dsimp only at h
    obtain rfl := so_some h
    refine ⟨Lhk6, fun L hL => ?_⟩
    have ehk6 := ehk6 L (by omega)
    try simp only [go_sem, E_spec_l06Find_l1, R_spec_l06Find_l1, ir76_k0, ir76_o0, ir76_r0] at ehk6
    simp only [go_sem, ir76, E_spec_l06Find_l1, R_spec_l06Find_l1, ir76_k0, ir76_o0, ir76_r0, ehk6]
  · dsimp only at h
    obtain rfl := so_some h
    refine ⟨Lhk6, fun L hL => ?_⟩
    have ehk6 := ehk6 L (by omega)
    try simp only [go_sem, E_spec_l06Find_l1, R_spec_l06Find_l1, ir76_k0, ir76_o0, ir76_r0] at ehk6
    simp only [go_sem, ir76, E_spec_l06Find_l1, R_spec_l06Find_l1, ir76_k0, ir76_o0, ir76_r0, ehk6]


def ir77_b0 : IR := .seq (.test false [
    ⟨.push, 9, none, .mov (.v 4)⟩,
    ⟨.push, 10, none, .bin false .gtr (.s 0) (.c (.int .i64 (0)))⟩,
    ⟨.push, 11, none, .mov (.s 0)⟩,
    ⟨.push, 12, (some ((.s 0), true)), .mov (.v 0)⟩,
    ⟨.push, 13, (some ((.s 1), true)), .mov (.v 4)⟩,
    ⟨.push, 14, (some ((.s 2), true)), .bin false .sub (.s 0) (.c (.int .i64 (1)))⟩,
    ⟨.push, 15, (some ((.s 3), true)), .ixAddr 5 (.s 2) (.s 0)⟩,
    ⟨.push, 16, (some ((.s 4), true)), .call 81 [(.v 2), (.s 0)]⟩,
    ⟨.push, 17, none, .pick (.s 5) (.s 0) (.c (.bool false))⟩] (.s 0)
  (.skip)
  (.exit 0))
 (.block 1 (.region false [
    ⟨.push, 18, none, .mov (.v 4)⟩,
    ⟨.push, 19, none, .bin false .sub (.s 0) (.c (.int .i64 (1)))⟩,
    ⟨.var 4, 5, none, .mov (.s 0)⟩]))
def ir77_k0 : List Bool := [true, false, true, false, true, false]
def ir77_o0 : List Bool := [true, false, true, false, true, false]
def ir77_r0 : List Bool := [false, false, false, true, false, false]
def ir77_v : List Nat := [0, 1, 3, 4, 5, 6]
def ir77 : AFn := ⟨2, 6, .seq (.region false [
    ⟨.var 2, 3, none, .box (.v 1)⟩,
    ⟨.var 3, 4, none, .newnil 5⟩])
 (.seq (.region false [
    ⟨.push, 7, none, .mov (.v 0)⟩,
    ⟨.push, 8, none, .len false (.s 0)⟩,
    ⟨.var 4, 5, none, .mov (.s 0)⟩])
 (.seq (.block 0 (.loop ir77_k0 ir77_o0 ir77_r0 ir77_b0))
 (.seq (.region false [
    ⟨.push, 20, none, .mkSl 5 (.agg [.int .i64 (0), .str [], .str [], .int .i64 (0), .bool false]) 0 []⟩,
    ⟨.push, 21, none, .mov (.v 0)⟩,
    ⟨.push, 22, none, .mov (.v 4)⟩,
    ⟨.push, 23, none, .slice 5 (.s 1) none (some (.s 0))⟩,
    ⟨.push, 24, none, .app 5 56 (.agg [.int .i64 (0), .str [], .str [], .int .i64 (0), .bool false]) (.s 3) (.s 0)⟩,
    ⟨.var 5, 6, none, .mov (.s 0)⟩])
 (.seq (.region false [
    ⟨.push, 25, none, .mov (.v 5)⟩,
    ⟨.push, 26, none, .load true 5 (.v 2)⟩,
    ⟨.push, 27, none, .mkSl 5 (.agg [.int .i64 (0), .str [], .str [], .int .i64 (0), .bool false]) 1 [(0, (.s 0))]⟩,
    ⟨.push, 28, none, .app 5 56 (.agg [.int .i64 (0), .str [], .str [], .int .i64 (0), .bool false]) (.s 2) (.s 0)⟩,
    ⟨.var 5, 6, none, .mov (.s 0)⟩])
 (.seq (.region false [
    ⟨.push, 29, none, .mov (.v 5)⟩,
    ⟨.push, 30, none, .mov (.v 0)⟩,
    ⟨.push, 31, none, .mov (.v 4)⟩,
    ⟨.push, 32, none, .slice 5 (.s 1) (some (.s 0)) none⟩,
    ⟨.push, 33, none, .app 5 56 (.agg [.int .i64 (0), .str [], .str [], .int .i64 (0), .bool false]) (.s 3) (.s 0)⟩,
    ⟨.var 3, 4, none, .mov (.s 0)⟩])
 (.ret)))))), [.t 3]⟩
noncomputable def t_spec_l06Put : List (Nat × Ctr) := [(81, c_spec_l06Before)]
theorem lk_spec_l06Put_81 : look t_spec_l06Put 81 = some c_spec_l06Before := rfl
noncomputable def c_spec_l06Put : Ctr := mkF t_spec_l06Put ir77 [.bor, .bor]
theorem s_spec_l06Put : Sound Try.prog 77 c_spec_l06Put := mkF_sound _ rfl (snd_cons s_spec_l06Before snd_nil) (by kernel_rfl : chkFn Try.prog 77 ir77 ir77_v = true)
theorem M_spec_l06Put : c_spec_l06Put.modes = [.bor, .bor] := rfl
theorem Fl_spec_l06Put : c_spec_l06Put.flat = true := rfl
attribute [go_sem] M_spec_l06Put Fl_spec_l06Put
attribute [go_sem] lk_spec_l06Put_81
def E_spec_l06Put_l1 (list : List Estimate) (e_ : Estimate) : Int → St
  | k => ⟨[.sl 5 (List.map Estimate_av list), .any, .ref 3200000 0 0, .any, .int .i64 k, .any], [], [(3200000, ⟨5, [Estimate_av e_]⟩)], true⟩
def R_spec_l06Put_l1 (list : List Estimate) (e_ : Estimate) (y : Int) : Res := (.exit 0, ⟨[.sl 5 (List.map Estimate_av list), .any, .ref 3200000 0 0, .any, .int .i64 y, .any], [], [(3200000, ⟨5, [Estimate_av e_]⟩)], true⟩)
theorem spec_l06Put_l1_ex {list : List Estimate} {e_ : Estimate} {sgm_ : Int} {rho_ : Int} (h : whileE (spec_l06Put_l1 list e_) sgm_ = some rho_) : ∃ L0, ∀ L, L0 ≤ L → iter (exec (look t_spec_l06Put) L ir77_b0) ir77_k0 ir77_o0 ir77_r0 L (E_spec_l06Put_l1 list e_ sgm_) = R_spec_l06Put_l1 list e_ rho_ := by
  refine loop_ex (E := E_spec_l06Put_l1 list e_) (R := R_spec_l06Put_l1 list e_) (fun y => by first | (intro c; cases c) | (rcases y with y | y <;> (intro c; cases c)) | (rcases y with y | y | y <;> (intro c; cases c))) ?_ h
  clear h
  intro k o_ h
  dsimp only [spec_l06Put_l1] at h
  obtain ⟨hk1, h⟩ := ck_some h
  rcases or_split hk1 with ⟨ghk1, hk1⟩ | ghk1
  · try simp only [go_sem, n1, n2, n3, n4] at ghk1
    all_goals
    have lhk1 := ix_lt hk1
    have xhk1 := getD_mapD Estimate_av list lhk1
    try simp only [go_sem] at lhk1
    try simp only [go_sem] at xhk1
    try simp only [go_sem, n1, n2, n3, n4, ghk1] at hk1
    all_goals
    obtain ⟨hk2, h⟩ := ck_some h
    rcases or_split hk2 with ⟨ghk2, hk2⟩ | ghk2
    · try simp only [go_sem, n1, n2, n3, n4, ghk1, hk1] at ghk2
      all_goals
      obtain ⟨y_2, hhk2⟩ := Option.isSome_iff_exists.1 hk2
      have fhk2 := Fs_spec_l06Before hhk2
      try simp only [go_sem, n1, n2, n3, n4, ghk1, hk1, ghk2] at hhk2
      all_goals
      try simp only [go_sem, ghk1, hk1, ghk2] at fhk2
      rcases it_some h with ⟨hk3, h⟩ | ⟨hk3, h⟩
      · try simp only [go_sem, n1, n2, n3, n4, ghk1, hk1, ghk2, hhk2] at hk3
        all_goals
        obtain rfl := so_some h
        refine ⟨0, fun L hL => ?_⟩
        simp only [go_sem, ir77, E_spec_l06Put_l1, R_spec_l06Put_l1, ir77_b0, ir77_k0, ir77_o0, ir77_r0, ghk1, hk1, lhk1, xhk1, ghk2, hhk2, fhk2, hk3]
      · try simp only [go_sem, n1, n2, n3, n4, ghk1, hk1, ghk2, hhk2] at hk3
        all_goals
        obtain rfl := so_some h
        refine ⟨0, fun L hL => ?_⟩
        simp only [go_sem, ir77, E_spec_l06Put_l1, R_spec_l06Put_l1, ir77_b0, ir77_k0, ir77_o0, ir77_r0, ghk1, hk1, lhk1, xhk1, ghk2, hhk2, fhk2, hk3]
    · try simp only [go_sem, n1, n2, n3, n4, ghk1, hk1] at ghk2
      all_goals
      rcases it_some h with ⟨hk3, h⟩ | ⟨hk3, h⟩
      · try simp only [go_sem, n1, n2, n3, n4, ghk1, hk1, ghk2] at hk3
        all_goals
        (simp_all)
      · try simp only [go_sem, n1, n2, n3, n4, ghk1, hk1, ghk2] at hk3
        all_goals
        obtain rfl := so_some h
        refine ⟨0, fun L hL => ?_⟩
        simp only [go_sem, ir77, E_spec_l06Put_l1, R_spec_l06Put_l1, ir77_b0, ir77_k0, ir77_o0, ir77_r0, ghk1, hk1, lhk1, xhk1, ghk2, hk3]
  · try simp only [go_sem, n1, n2, n3, n4] at ghk1
    all_goals
    obtain ⟨hk2, h⟩ := ck_some h
    rcases it_some h with ⟨hk3, h⟩ | ⟨hk3, h⟩
    · try simp only [go_sem, n1, n2, n3, n4, ghk1] at hk3
      all_goals
      (simp_all)
    · try simp only [go_sem, n1, n2, n3, n4, ghk1] at hk3
      all_goals
      obtain rfl := so_some h
      refine ⟨0, fun L hL => ?_⟩
      simp only [go_sem, ir77, E_spec_l06Put_l1, R_spec_l06Put_l1, ir77_b0, ir77_k0, ir77_o0, ir77_r0, ghk1, hk3]

theorem Fs_spec_l06Put {list : List Estimate} {e_ : Estimate} {y_ : (List Estimate)} (h : spec_l06Put list e_ = some y_) : c_spec_l06Put.F [.sl 5 (List.map Estimate_av list), Estimate_av e_] = ⟨true, .fresh 5 (List.map Estimate_av y_), [.any, .any]⟩ := by
  refine mkF_E (by simp only [flatA, flatB, flat1, List.all_cons, List.all_nil, Bool.and_self, flatE_map (f := Estimate_av) (fun _ => rfl)]) ?_
  dsimp only [spec_l06Put] at h
  obtain ⟨y_4, hk4, h⟩ := bd_some h
  obtain ⟨Lhk4, ehk4⟩ := spec_l06Put_l1_ex hk4
  obtain ⟨hk5, h⟩ := ck_some h
  try simp only [go_sem, n1, n2, n3, n4] at hk5
  all_goals
  obtain ⟨hk6, h⟩ := ck_some h
  try simp only [go_sem, n1, n2, n3, n4, hk5] at hk6
  all_goals
  obtain ⟨hk7, h⟩ := ck_some h
  try simp only [go_sem, n1, n2, n3, n4, hk5, hk6] at hk7
  all_goals
  obtain ⟨hk8, h⟩ := ck_some h
  try simp only [go_sem, n1, n2, n3, n4, hk5, hk6, hk7] at hk8
  all_goals
  obtain ⟨hk9, h⟩ := ck_some h
  try simp only [go_sem, n1, n2, n3, n4, hk5, hk6, hk7, hk8] at hk9
  all_goals
  obtain rfl := so_some h
  refine ⟨Lhk4, fun L hL => ?_⟩
  have ehk4 := ehk4 L (by omega)
  try simp only [go_sem, E_spec_l06Put_l1, R_spec_l06Put_l1, ir77_k0, ir77_o0, ir77_r0, hk5, hk6, hk7, hk8, hk9] at ehk4
  simp only [go_sem, ir77, E_spec_l06Put_l1, R_spec_l06Put_l1, ir77_k0, ir77_o0, ir77_r0, hk5, hk6, hk7, hk8, hk9, ehk4]


def ir48_b0 : IR := .seq (.test false [
    ⟨.push, 13, none, .mov (.v 4)⟩,
    ⟨.push, 14, none, .bin false .gtr (.s 0) (.c (.int .i64 (0)))⟩] (.s 0)
  (.skip)
  (.exit 0))
 (.seq (.block 1 (.seq (.region false [
      ⟨.push, 17, none, .mov (.v 0)⟩,
      ⟨.push, 18, none, .call 75 [(.s 0)]⟩,
      ⟨.var 5, 7, none, .alloc (.agg [.int .i64 (0), .str [], .str [], .int .i64 (0), .bool false])⟩,
      ⟨.no, 0, none, .store 5 (.v 5) (.s 0)⟩])
   (.test false [
     ⟨.push, 19, none, .mov (.v 3)⟩,
     ⟨.push, 20, none, .call 76 [(.s 0), (.v 5)]⟩,
     ⟨.push, 21, none, .bin false .lss (.s 0) (.c (.int .i64 (0)))⟩] (.s 0)
   (.region false [
      ⟨.push, 22, none, .mov (.v 3)⟩,
      ⟨.push, 23, none, .load true 5 (.v 5)⟩,
      ⟨.push, 24, none, .call 77 [(.s 1), (.s 0)]⟩,
      ⟨.var 3, 5, none, .mov (.s 0)⟩])
   (.skip))))
 (.region false [
   ⟨.push, 15, none, .mov (.v 4)⟩,
   ⟨.push, 16, none, .bin false .sub (.s 0) (.c (.int .i64 (1)))⟩,
   ⟨.var 4, 6, none, .mov (.s 0)⟩]))
def ir48_k0 : List Bool := [true, false, false, true, true, false]
def ir48_o0 : List Bool := [true, false, false, true, false, false]
def ir48_r0 : List Bool := [true, false, true, false, false, false]
def ir48_v : List Nat := [0, 1, 4, 5, 6, 7]
def ir48 : AFn := ⟨2, 6, .seq (.region false [
    ⟨.var 2, 4, none, .newnil 5⟩])
 (.seq (.region false [
    ⟨.push, 8, none, .mkSl 5 (.agg [.int .i64 (0), .str [], .str [], .int .i64 (0), .bool false]) 0 []⟩,
    ⟨.var 3, 5, none, .mov (.s 0)⟩])
 (.seq (.seq (.region false [
     ⟨.push, 9, none, .mov (.v 0)⟩,
     ⟨.push, 10, none, .mov (.v 1)⟩,
     ⟨.push, 11, none, .bin false .add (.s 0) (.c (.int .i64 (1)))⟩,
     ⟨.push, 12, none, .call 37 [(.s 2), (.s 0)]⟩,
     ⟨.var 4, 6, none, .mov (.s 0)⟩])
  (.block 0 (.loop ir48_k0 ir48_o0 ir48_r0 ir48_b0)))
 (.seq (.region false [
    ⟨.push, 25, none, .mov (.v 3)⟩,
    ⟨.var 2, 4, none, .mov (.s 0)⟩])
 (.ret)))), [.t 2]⟩
noncomputable def t_spec_l06Draw : List (Nat × Ctr) := [(37, c_spec_l00Src_pick), (75, c_spec_l06New), (76, c_spec_l06Find), (77, c_spec_l06Put)]
theorem lk_spec_l06Draw_37 : look t_spec_l06Draw 37 = some c_spec_l00Src_pick := rfl
theorem lk_spec_l06Draw_75 : look t_spec_l06Draw 75 = some c_spec_l06New := rfl
theorem lk_spec_l06Draw_76 : look t_spec_l06Draw 76 = some c_spec_l06Find := rfl
theorem lk_spec_l06Draw_77 : look t_spec_l06Draw 77 = some c_spec_l06Put := rfl
noncomputable def c_spec_l06Draw : Ctr := mkN t_spec_l06Draw ir48 [.io, .bor]
theorem s_spec_l06Draw : Sound Try.prog 48 c_spec_l06Draw := mkN_sound _ (snd_cons s_spec_l00Src_pick (snd_cons s_spec_l06New (snd_cons s_spec_l06Find (snd_cons s_spec_l06Put snd_nil)))) (by kernel_rfl : chkFn Try.prog 48 ir48 ir48_v = true)
theorem M_spec_l06Draw : c_spec_l06Draw.modes = [.io, .bor] := rfl
theorem Fl_spec_l06Draw : c_spec_l06Draw.flat = false := rfl
attribute [go_sem] M_spec_l06Draw Fl_spec_l06Draw
attribute [go_sem] lk_spec_l06Draw_37 lk_spec_l06Draw_75 lk_spec_l06Draw_76 lk_spec_l06Draw_77
def E_spec_l06Draw_l1  : (L00Src × (List Estimate) × Int) → St
  | (s_, out, k) => ⟨[.ref 31 0 0, .any, .any, .own 3200032, .int .i64 k, .any], [], [(31, ⟨3, [L00Src_av s_]⟩), (3200032, ⟨5, List.map Estimate_av out⟩)], true⟩
def R_spec_l06Draw_l1  (y : L00Src × (List Estimate)) : Res := (.exit 0, ⟨[.ref 31 0 0, .any, .any, .own 3200032, .any, .any], [], [(31, ⟨3, [L00Src_av y.1]⟩), (3200032, ⟨5, List.map Estimate_av y.2⟩)], true⟩)
theorem spec_l06Draw_l1_ex  {sgm_ : L00Src × (List Estimate) × Int} {rho_ : L00Src × (List Estimate)} (h : whileE (spec_l06Draw_l1) sgm_ = some rho_) : ∃ L0, ∀ L, L0 ≤ L → iter (exec (look t_spec_l06Draw) L ir48_b0) ir48_k0 ir48_o0 ir48_r0 L (E_spec_l06Draw_l1 sgm_) = R_spec_l06Draw_l1 rho_ := by
  refine loop_ex (E := E_spec_l06Draw_l1) (R := R_spec_l06Draw_l1) (fun y => by first | (intro c; cases c) | (rcases y with y | y <;> (intro c; cases c)) | (rcases y with y | y | y <;> (intro c; cases c))) ?_ h
  clear h
  rintro ⟨s_, out, k⟩ o_ h
  dsimp only [spec_l06Draw_l1] at h
  rcases it_some h with ⟨hk2, h⟩ | ⟨hk2, h⟩
  · try simp only [go_sem, n1, n2, n3, n4] at hk2
    all_goals
    obtain ⟨y_3, hk3, h⟩ := bd_some h
    have fhk3 := Fs_spec_l06New hk3
    try simp only [go_sem, hk2] at fhk3
    obtain ⟨y_4, hk4, h⟩ := bd_some h
    have fhk4 := Fs_spec_l06Find hk4
    try simp only [go_sem, hk2] at fhk4
    rcases it_some h with ⟨hk5, h⟩ | ⟨hk5, h⟩
    · try simp only [go_sem, n1, n2, n3, n4, hk2] at hk5
      all_goals
      obtain ⟨y_6, hk6, h⟩ := bd_some h
      have fhk6 := Fs_spec_l06Put hk6
      try simp only [go_sem, hk2, hk5] at fhk6
      obtain rfl := so_some h
      refine ⟨0, fun L hL => ?_⟩
      simp only [go_sem, ir48, E_spec_l06Draw_l1, R_spec_l06Draw_l1, ir48_b0, ir48_k0, ir48_o0, ir48_r0, hk2, fhk3, fhk4, hk5, fhk6]
    · try simp only [go_sem, n1, n2, n3, n4, hk2] at hk5
      all_goals
      obtain rfl := so_some h
      refine ⟨0, fun L hL => ?_⟩
      simp only [go_sem, ir48, E_spec_l06Draw_l1, R_spec_l06Draw_l1, ir48_b0, ir48_k0, ir48_o0, ir48_r0, hk2, fhk3, fhk4, hk5]
  · try simp only [go_sem, n1, n2, n3, n4] at hk2
    all_goals
    obtain rfl := so_some h
    refine ⟨0, fun L hL => ?_⟩
    simp only [go_sem, ir48, E_spec_l06Draw_l1, R_spec_l06Draw_l1, ir48_b0, ir48_k0, ir48_o0, ir48_r0, hk2]

theorem Fs_spec_l06Draw {s_ : L00Src} {most : Int} {y_ : (List Estimate) × L00Src} (h : spec_l06Draw s_ most = some y_) : c_spec_l06Draw.F [.mem 3 [L00Src_av s_], .int .i64 most] = ⟨true, .fresh 5 (List.map Estimate_av y_.1), [.mem 3 [L00Src_av y_.2], .any]⟩ := by
  refine mkN_E ?_
  dsimp only [spec_l06Draw] at h
  obtain ⟨y_1, hk1, h⟩ := bd_some h
  have fhk1 := Fs_spec_l00Src_pick hk1
  try simp only [go_sem] at fhk1
  obtain ⟨y_7, hk7, h⟩ := bd_some h
  obtain ⟨Lhk7, ehk7⟩ := spec_l06Draw_l1_ex hk7
  obtain rfl := so_some h
  refine ⟨Lhk7, fun L hL => ?_⟩
  have ehk7 := ehk7 L (by omega)
  try simp only [go_sem, E_spec_l06Draw_l1, R_spec_l06Draw_l1, ir48_k0, ir48_o0, ir48_r0] at ehk7
  simp only [go_sem, ir48, E_spec_l06Draw_l1, R_spec_l06Draw_l1, ir48_k0, ir48_o0, ir48_r0, fhk1, ehk7]


def ir18_v : List Nat := [0, 2]
def ir18 : AFn := ⟨1, 2, .seq (.region false [
    ⟨.var 1, 2, none, .newnil 5⟩])
 (.seq (.region false [
    ⟨.push, 3, none, .mov (.v 0)⟩,
    ⟨.push, 4, none, .call 36 [(.s 0)]⟩,
    ⟨.push, 5, none, .call 48 [(.s 0), (.c (.int .i64 (12)))]⟩,
    ⟨.var 1, 2, none, .mov (.s 0)⟩])
 (.ret)), [.t 1]⟩
noncomputable def t_spec_A2Estimates : List (Nat × Ctr) := [(36, c_spec_l00From), (48, c_spec_l06Draw)]
theorem lk_spec_A2Estimates_36 : look t_spec_A2Estimates 36 = some c_spec_l00From := rfl
theorem lk_spec_A2Estimates_48 : look t_spec_A2Estimates 48 = some c_spec_l06Draw := rfl
noncomputable def c_spec_A2Estimates : Ctr := mkF t_spec_A2Estimates ir18 [.bor]
theorem s_spec_A2Estimates : Sound Try.prog 18 c_spec_A2Estimates := mkF_sound _ rfl (snd_cons s_spec_l00From (snd_cons s_spec_l06Draw snd_nil)) (by kernel_rfl : chkFn Try.prog 18 ir18 ir18_v = true)
theorem M_spec_A2Estimates : c_spec_A2Estimates.modes = [.bor] := rfl
theorem Fl_spec_A2Estimates : c_spec_A2Estimates.flat = true := rfl
attribute [go_sem] M_spec_A2Estimates Fl_spec_A2Estimates
attribute [go_sem] lk_spec_A2Estimates_36 lk_spec_A2Estimates_48
theorem Fs_spec_A2Estimates {code : List UInt8} {y_ : (List Estimate)} (h : spec_A2Estimates code = some y_) : c_spec_A2Estimates.F [.sl 1 (List.map byteAV code)] = ⟨true, .fresh 5 (List.map Estimate_av y_), [.any]⟩ := by
  refine mkF_E (by simp only [flatA, flatB, flat1, List.all_cons, List.all_nil, Bool.and_self, flatE_map (f := Estimate_av) (fun _ => rfl)]) ?_
  dsimp only [spec_A2Estimates] at h
  obtain ⟨y_1, hk1, h⟩ := bd_some h
  have fhk1 := Fs_spec_l00From hk1
  try simp only [go_sem] at fhk1
  obtain ⟨y_2, hk2, h⟩ := bd_some h
  have fhk2 := Fs_spec_l06Draw hk2
  try simp only [go_sem] at fhk2
  obtain rfl := so_some h
  refine ⟨0, fun L hL => ?_⟩
  simp only [go_sem, ir18, fhk1, fhk2]


def ir19_v : List Nat := [0, 1, 2, 6]
def ir19 : AFn := ⟨3, 4, .seq (.region false [
    ⟨.var 3, 6, none, .mov (.c (.int .i64 (0)))⟩])
 (.seq (.test false [
    ⟨.push, 7, none, .mov (.v 1)⟩,
    ⟨.push, 8, none, .mov (.v 0)⟩,
    ⟨.push, 9, none, .len false (.s 0)⟩,
    ⟨.push, 10, none, .bin false .geq (.s 2) (.s 0)⟩,
    ⟨.push, 11, none, .mov (.s 0)⟩,
    ⟨.push, 12, (some ((.s 0), false)), .mov (.v 2)⟩,
    ⟨.push, 13, (some ((.s 1), false)), .bin false .lss (.s 0) (.c (.int .i64 (1)))⟩,
    ⟨.push, 14, none, .pick (.s 2) (.c (.bool true)) (.s 0)⟩] (.s 0)
  (.seq (.region false [
      ⟨.var 3, 6, none, .mov (.c (.int .i64 (0)))⟩])
   (.ret))
  (.skip))
 (.seq (.region false [
    ⟨.push, 15, none, .mov (.v 0)⟩,
    ⟨.push, 16, none, .mov (.v 1)⟩,
    ⟨.push, 17, none, .ixAddr 1 (.s 1) (.s 0)⟩,
    ⟨.push, 18, none, .load false 1 (.s 0)⟩,
    ⟨.push, 19, none, .conv .i64 (.s 0)⟩,
    ⟨.push, 20, none, .mov (.v 2)⟩,
    ⟨.push, 21, none, .bin false .rem (.s 1) (.s 0)⟩,
    ⟨.var 3, 6, none, .mov (.s 0)⟩])
 (.ret))), [.t 3]⟩
noncomputable def t_laws_a2At : List (Nat × Ctr) := []
noncomputable def c_laws_a2At : Ctr := mkF t_laws_a2At ir19 [.bor, .bor, .bor]
theorem s_laws_a2At : Sound Try.prog 19 c_laws_a2At := mkF_sound _ rfl snd_nil (by kernel_rfl : chkFn Try.prog 19 ir19 ir19_v = true)
theorem M_laws_a2At : c_laws_a2At.modes = [.bor, .bor, .bor] := rfl
theorem Fl_laws_a2At : c_laws_a2At.flat = true := rfl
attribute [go_sem] M_laws_a2At Fl_laws_a2At
theorem Fs_laws_a2At {code : List UInt8} {at_ : Int} {n : Int} {y_ : Int} (h : laws_a2At code at_ n = some y_) : c_laws_a2At.F [.sl 1 (List.map byteAV code), .int .i64 at_, .int .i64 n] = ⟨true, .int .i64 y_, [.any, .any, .any]⟩ := by
  refine mkF_E rfl ?_
  dsimp only [laws_a2At] at h
  rcases it_some h with ⟨hk1, h⟩ | ⟨hk1, h⟩
  · try simp only [go_sem, n1, n2, n3, n4] at hk1
    all_goals
    obtain rfl := so_some h
    refine ⟨0, fun L hL => ?_⟩
    simp only [go_sem, ir19, hk1]
  · try simp only [go_sem, n1, n2, n3, n4] at hk1
    all_goals
    obtain ⟨hk2, h⟩ := ck_some h
    have lhk2 := ix_lt hk2
    have xhk2 := getD_mapD byteAV code lhk2
    try simp only [go_sem] at lhk2
    try simp only [go_sem] at xhk2
    try simp only [go_sem, n1, n2, n3, n4, hk1] at hk2
    all_goals
    obtain ⟨hk3, h⟩ := ck_some h
    try simp only [go_sem, n1, n2, n3, n4, hk1, hk2] at hk3
    all_goals
    obtain rfl := so_some h
    refine ⟨0, fun L hL => ?_⟩
    simp only [go_sem, ir19, hk1, hk2, lhk2, xhk2, hk3]


def ir40_v : List Nat := [0, 1, 2, 6]
def ir40 : AFn := ⟨3, 4, .seq (.region false [
    ⟨.var 3, 6, none, .mov (.c (.bool false))⟩])
 (.seq (.region false [
    ⟨.push, 7, none, .mov (.v 0)⟩,
    ⟨.push, 8, none, .mov (.v 1)⟩,
    ⟨.push, 9, none, .bin false .geq (.s 1) (.s 0)⟩,
    ⟨.push, 10, none, .mov (.s 0)⟩,
    ⟨.push, 11, (some ((.s 0), true)), .mov (.v 0)⟩,
    ⟨.push, 12, (some ((.s 1), true)), .mov (.v 2)⟩,
    ⟨.push, 13, (some ((.s 2), true)), .bin false .leq (.s 1) (.s 0)⟩,
    ⟨.push, 14, none, .pick (.s 3) (.s 0) (.c (.bool false))⟩,
    ⟨.var 3, 6, none, .mov (.s 0)⟩])
 (.ret)), [.t 3]⟩
noncomputable def t_impl_in : List (Nat × Ctr) := []
noncomputable def c_impl_in : Ctr := mkF t_impl_in ir40 [.bor, .bor, .bor]
theorem s_impl_in : Sound Try.prog 40 c_impl_in := mkF_sound _ rfl snd_nil (by kernel_rfl : chkFn Try.prog 40 ir40 ir40_v = true)
theorem M_impl_in : c_impl_in.modes = [.bor, .bor, .bor] := rfl
theorem Fl_impl_in : c_impl_in.flat = true := rfl
attribute [go_sem] M_impl_in Fl_impl_in
theorem Fs_impl_in {n : Int} {low : Int} {high : Int} {y_ : Bool} (h : impl_in n low high = some y_) : c_impl_in.F [.int .i64 n, .int .i64 low, .int .i64 high] = ⟨true, .bool y_, [.any, .any, .any]⟩ := by
  refine mkF_E rfl ?_
  dsimp only [impl_in] at h
  obtain rfl := so_some h
  refine ⟨0, fun L hL => ?_⟩
  simp only [go_sem, ir40]


def ir97_v : List Nat := [0, 2]
def ir97 : AFn := ⟨1, 2, .seq (.region false [
    ⟨.var 1, 2, none, .mov (.c (.bool false))⟩])
 (.seq (.region false [
    ⟨.push, 3, none, .mov (.v 0)⟩,
    ⟨.push, 4, none, .call 40 [(.s 0), (.c (.int .i64 (0))), (.c (.int .i64 (10000000)))]⟩,
    ⟨.var 1, 2, none, .mov (.s 0)⟩])
 (.ret)), [.t 1]⟩
noncomputable def t_impl_ValidTime : List (Nat × Ctr) := [(40, c_impl_in)]
theorem lk_impl_ValidTime_40 : look t_impl_ValidTime 40 = some c_impl_in := rfl
noncomputable def c_impl_ValidTime : Ctr := mkF t_impl_ValidTime ir97 [.bor]
theorem s_impl_ValidTime : Sound Try.prog 97 c_impl_ValidTime := mkF_sound _ rfl (snd_cons s_impl_in snd_nil) (by kernel_rfl : chkFn Try.prog 97 ir97 ir97_v = true)
theorem M_impl_ValidTime : c_impl_ValidTime.modes = [.bor] := rfl
theorem Fl_impl_ValidTime : c_impl_ValidTime.flat = true := rfl
attribute [go_sem] M_impl_ValidTime Fl_impl_ValidTime
attribute [go_sem] lk_impl_ValidTime_40
theorem Fs_impl_ValidTime {t : Int} {y_ : Bool} (h : impl_ValidTime t = some y_) : c_impl_ValidTime.F [.int .i64 t] = ⟨true, .bool y_, [.any]⟩ := by
  refine mkF_E rfl ?_
  dsimp only [impl_ValidTime] at h
  obtain ⟨y_1, hk1, h⟩ := bd_some h
  have fhk1 := Fs_impl_in hk1
  try simp only [go_sem] at fhk1
  obtain rfl := so_some h
  refine ⟨0, fun L hL => ?_⟩
  simp only [go_sem, ir97, fhk1]


def ir98_b0 : IR := .seq (.region false [
    ⟨.var 7, 17, none, .bin false .lss (.v 6) (.v 5)⟩])
 (.seq (.cond (.v 7) (.skip)
  (.exit 0))
 (.seq (.block 1 (.seq (.region false [
      ⟨.push, 18, none, .mov (.v 6)⟩,
      ⟨.var 2, 3, none, .mov (.s 0)⟩])
   (.seq (.region false [
      ⟨.push, 19, none, .mov (.v 0)⟩,
      ⟨.push, 20, none, .mov (.v 2)⟩,
      ⟨.push, 21, none, .ixStr (.s 1) (.s 0)⟩,
      ⟨.push, 22, none, .bin false .geq (.s 0) (.c (.int .u8 (97)))⟩,
      ⟨.push, 23, none, .mov (.s 0)⟩,
      ⟨.push, 24, (some ((.s 0), true)), .mov (.v 0)⟩,
      ⟨.push, 25, (some ((.s 1), true)), .mov (.v 2)⟩,
      ⟨.push, 26, (some ((.s 2), true)), .ixStr (.s 1) (.s 0)⟩,
      ⟨.push, 27, (some ((.s 3), true)), .bin false .leq (.s 0) (.c (.int .u8 (122)))⟩,
      ⟨.push, 28, none, .pick (.s 4) (.s 0) (.c (.bool false))⟩,
      ⟨.var 3, 4, none, .mov (.s 0)⟩])
   (.seq (.region false [
      ⟨.push, 29, none, .mov (.v 0)⟩,
      ⟨.push, 30, none, .mov (.v 2)⟩,
      ⟨.push, 31, none, .ixStr (.s 1) (.s 0)⟩,
      ⟨.push, 32, none, .bin false .geq (.s 0) (.c (.int .u8 (48)))⟩,
      ⟨.push, 33, none, .mov (.s 0)⟩,
      ⟨.push, 34, (some ((.s 0), true)), .mov (.v 0)⟩,
      ⟨.push, 35, (some ((.s 1), true)), .mov (.v 2)⟩,
      ⟨.push, 36, (some ((.s 2), true)), .ixStr (.s 1) (.s 0)⟩,
      ⟨.push, 37, (some ((.s 3), true)), .bin false .leq (.s 0) (.c (.int .u8 (57)))⟩,
      ⟨.push, 38, none, .pick (.s 4) (.s 0) (.c (.bool false))⟩,
      ⟨.push, 39, none, .mov (.s 0)⟩,
      ⟨.push, 40, (some ((.s 0), false)), .mov (.v 0)⟩,
      ⟨.push, 41, (some ((.s 1), false)), .mov (.v 2)⟩,
      ⟨.push, 42, (some ((.s 2), false)), .ixStr (.s 1) (.s 0)⟩,
      ⟨.push, 43, (some ((.s 3), false)), .bin false .eql (.s 0) (.c (.int .u8 (45)))⟩,
      ⟨.push, 44, none, .pick (.s 4) (.c (.bool true)) (.s 0)⟩,
      ⟨.var 4, 5, none, .mov (.s 0)⟩])
   (.test false [
     ⟨.push, 45, none, .mov (.v 3)⟩,
     ⟨.push, 46, none, .un .not (.s 0)⟩,
     ⟨.push, 47, none, .mov (.s 0)⟩,
     ⟨.push, 48, (some ((.s 0), true)), .mov (.v 2)⟩,
     ⟨.push, 49, (some ((.s 1), true)), .bin false .eql (.s 0) (.c (.int .i64 (0)))⟩,
     ⟨.push, 50, (some ((.s 2), true)), .mov (.s 0)⟩,
     ⟨.push, 51, (some ((.s 0), false)), .mov (.v 4)⟩,
     ⟨.push, 52, (some ((.s 1), false)), .un .not (.s 0)⟩,
     ⟨.push, 53, (some ((.s 5), true)), .pick (.s 2) (.c (.bool true)) (.s 0)⟩,
     ⟨.push, 54, none, .pick (.s 6) (.s 0) (.c (.bool false))⟩] (.s 0)
   (.seq (.region false [
       ⟨.var 1, 2, none, .mov (.c (.bool false))⟩])
    (.ret))
   (.skip))))))
 (.region false [
   ⟨.push, 55, none, .bin false .add (.v 6) (.c (.int .i64 (1)))⟩,
   ⟨.var 6, 16, none, .mov (.s 0)⟩])))
def ir98_k0 : List Bool := [true, false, false, false, false, true, true, false]
def ir98_o0 : List Bool := [false, false, false, false, false, false, false, false]
def ir98_r0 : List Bool := [false, true, false, false, false, false, false, false]
def ir98_v : List Nat := [0, 2, 3, 4, 5, 15, 16, 17]
def ir98 : AFn := ⟨1, 8, .seq (.region false [
    ⟨.var 1, 2, none, .mov (.c (.bool false))⟩])
 (.seq (.test false [
    ⟨.push, 6, none, .mov (.v 0)⟩,
    ⟨.push, 7, none, .len true (.s 0)⟩,
    ⟨.push, 8, none, .bin false .lss (.s 0) (.c (.int .i64 (1)))⟩,
    ⟨.push, 9, none, .mov (.s 0)⟩,
    ⟨.push, 10, (some ((.s 0), false)), .mov (.v 0)⟩,
    ⟨.push, 11, (some ((.s 1), false)), .len true (.s 0)⟩,
    ⟨.push, 12, (some ((.s 2), false)), .bin false .gtr (.s 0) (.c (.int .i64 (12)))⟩,
    ⟨.push, 13, none, .pick (.s 3) (.c (.bool true)) (.s 0)⟩] (.s 0)
  (.seq (.region false [
      ⟨.var 1, 2, none, .mov (.c (.bool false))⟩])
   (.ret))
  (.skip))
 (.seq (.seq (.region false [
     ⟨.push, 14, none, .mov (.v 0)⟩,
     ⟨.var 5, 15, none, .len true (.s 0)⟩,
     ⟨.var 6, 16, none, .mov (.c (.int .i64 (0)))⟩])
  (.block 0 (.loop ir98_k0 ir98_o0 ir98_r0 ir98_b0)))
 (.seq (.region false [
    ⟨.var 1, 2, none, .mov (.c (.bool true))⟩])
 (.ret)))), [.t 1]⟩
noncomputable def t_impl_IsName : List (Nat × Ctr) := []
noncomputable def c_impl_IsName : Ctr := mkF t_impl_IsName ir98 [.bor]
theorem s_impl_IsName : Sound Try.prog 98 c_impl_IsName := mkF_sound _ rfl snd_nil (by kernel_rfl : chkFn Try.prog 98 ir98 ir98_v = true)
theorem M_impl_IsName : c_impl_IsName.modes = [.bor] := rfl
theorem Fl_impl_IsName : c_impl_IsName.flat = true := rfl
attribute [go_sem] M_impl_IsName Fl_impl_IsName
def E_impl_IsName_l1 (s_ : List UInt8) (t15 : Int) : Int → St
  | t16 => ⟨[.str s_, .any, .any, .any, .any, .int .i64 t15, .int .i64 t16, .any], [], [], true⟩
def R_impl_IsName_l1 (s_ : List UInt8) (t15 : Int) : (Unit ⊕ Bool) → Res
  | .inl y => (.exit 0, ⟨[.any, .any, .any, .any, .any, .any, .any, .any], [], [], true⟩)
  | .inr y => (.ret, ⟨[.any, .bool y, .any, .any, .any, .any, .any, .any], [], [], true⟩)
theorem impl_IsName_l1_ex {s_ : List UInt8} {t15 : Int} {sgm_ : Int} {rho_ : Unit ⊕ Bool} (h : whileE (impl_IsName_l1 s_ t15) sgm_ = some rho_) : ∃ L0, ∀ L, L0 ≤ L → iter (exec (look t_impl_IsName) L ir98_b0) ir98_k0 ir98_o0 ir98_r0 L (E_impl_IsName_l1 s_ t15 sgm_) = R_impl_IsName_l1 s_ t15 rho_ := by
  refine loop_ex (E := E_impl_IsName_l1 s_ t15) (R := R_impl_IsName_l1 s_ t15) (fun y => by first | (intro c; cases c) | (rcases y with y | y <;> (intro c; cases c)) | (rcases y with y | y | y <;> (intro c; cases c))) ?_ h
  clear h
  intro t16 o_ h
  dsimp only [impl_IsName_l1] at h
  rcases it_some h with ⟨hk2, h⟩ | ⟨hk2, h⟩
  · try simp only [go_sem, n1, n2, n3, n4] at hk2
    all_goals
    obtain ⟨hk3, h⟩ := ck_some h
    try simp only [go_sem, n1, n2, n3, n4, hk2] at hk3
    all_goals
    rcases it_some h with ⟨hk4, h⟩ | ⟨hk4, h⟩
    · try simp only [go_sem, n1, n2, n3, n4, hk2, hk3] at hk4
      all_goals
      obtain rfl := so_some h
      refine ⟨0, fun L hL => ?_⟩
      simp only [go_sem, ir98, E_impl_IsName_l1, R_impl_IsName_l1, ir98_b0, ir98_k0, ir98_o0, ir98_r0, hk2, hk3, hk4]
    · try simp only [go_sem, n1, n2, n3, n4, hk2, hk3] at hk4
      all_goals
      obtain rfl := so_some h
      refine ⟨0, fun L hL => ?_⟩
      simp only [go_sem, ir98, E_impl_IsName_l1, R_impl_IsName_l1, ir98_b0, ir98_k0, ir98_o0, ir98_r0, hk2, hk3, hk4]
  · try simp only [go_sem, n1, n2, n3, n4] at hk2
    all_goals
    obtain rfl := so_some h
    refine ⟨0, fun L hL => ?_⟩
    simp only [go_sem, ir98, E_impl_IsName_l1, R_impl_IsName_l1, ir98_b0, ir98_k0, ir98_o0, ir98_r0, hk2]

theorem Fs_impl_IsName {s_ : List UInt8} {y_ : Bool} (h : impl_IsName s_ = some y_) : c_impl_IsName.F [.str s_] = ⟨true, .bool y_, [.any]⟩ := by
  refine mkF_E rfl ?_
  dsimp only [impl_IsName] at h
  rcases it_some h with ⟨hk1, h⟩ | ⟨hk1, h⟩
  · try simp only [go_sem, n1, n2, n3, n4] at hk1
    all_goals
    obtain rfl := so_some h
    refine ⟨0, fun L hL => ?_⟩
    simp only [go_sem, ir98, E_impl_IsName_l1, R_impl_IsName_l1, ir98_k0, ir98_o0, ir98_r0, hk1]
  · try simp only [go_sem, n1, n2, n3, n4] at hk1
    all_goals
    obtain ⟨y_5, hk5, h⟩ := bd_some h
    obtain ⟨Lhk5, ehk5⟩ := impl_IsName_l1_ex hk5
    rcases y_5 with y_5a | y_5b
    · dsimp only at h
      obtain rfl := so_some h
      refine ⟨Lhk5, fun L hL => ?_⟩
      have ehk5 := ehk5 L (by omega)
      try simp only [go_sem, E_impl_IsName_l1, R_impl_IsName_l1, ir98_k0, ir98_o0, ir98_r0, hk1] at ehk5
      simp only [go_sem, ir98, E_impl_IsName_l1, R_impl_IsName_l1, ir98_k0, ir98_o0, ir98_r0, hk1, ehk5]
    · dsimp only at h
      obtain rfl := so_some h
      refine ⟨Lhk5, fun L hL => ?_⟩
      have ehk5 := ehk5 L (by omega)
      try simp only [go_sem, E_impl_IsName_l1, R_impl_IsName_l1, ir98_k0, ir98_o0, ir98_r0, hk1] at ehk5
      simp only [go_sem, ir98, E_impl_IsName_l1, R_impl_IsName_l1, ir98_k0, ir98_o0, ir98_r0, hk1, ehk5]


def ir99_v : List Nat := [0, 2]
def ir99 : AFn := ⟨1, 2, .seq (.region false [
    ⟨.var 1, 2, none, .mov (.c (.bool false))⟩])
 (.seq (.region false [
    ⟨.push, 3, none, .mov (.v 0)⟩,
    ⟨.push, 4, none, .call 40 [(.s 0), (.c (.int .i64 (-2000))), (.c (.int .i64 (20000)))]⟩,
    ⟨.var 1, 2, none, .mov (.s 0)⟩])
 (.ret)), [.t 1]⟩
noncomputable def t_impl_ValidMag : List (Nat × Ctr) := [(40, c_impl_in)]
theorem lk_impl_ValidMag_40 : look t_impl_ValidMag 40 = some c_impl_in := rfl
noncomputable def c_impl_ValidMag : Ctr := mkF t_impl_ValidMag ir99 [.bor]
theorem s_impl_ValidMag : Sound Try.prog 99 c_impl_ValidMag := mkF_sound _ rfl (snd_cons s_impl_in snd_nil) (by kernel_rfl : chkFn Try.prog 99 ir99 ir99_v = true)
theorem M_impl_ValidMag : c_impl_ValidMag.modes = [.bor] := rfl
theorem Fl_impl_ValidMag : c_impl_ValidMag.flat = true := rfl
attribute [go_sem] M_impl_ValidMag Fl_impl_ValidMag
attribute [go_sem] lk_impl_ValidMag_40
theorem Fs_impl_ValidMag {m : Int} {y_ : Bool} (h : impl_ValidMag m = some y_) : c_impl_ValidMag.F [.int .i64 m] = ⟨true, .bool y_, [.any]⟩ := by
  refine mkF_E rfl ?_
  dsimp only [impl_ValidMag] at h
  obtain ⟨y_1, hk1, h⟩ := bd_some h
  have fhk1 := Fs_impl_in hk1
  try simp only [go_sem] at fhk1
  obtain rfl := so_some h
  refine ⟨0, fun L hL => ?_⟩
  simp only [go_sem, ir99, fhk1]


def ir78_v : List Nat := [0, 1, 2]
def ir78 : AFn := ⟨1, 3, .seq (.region false [
    ⟨.var 1, 1, none, .box (.v 0)⟩,
    ⟨.var 2, 2, none, .mov (.c (.bool false))⟩])
 (.seq (.region false [
    ⟨.push, 3, none, .fldAddr 0 (.v 1)⟩,
    ⟨.push, 4, none, .load false 1 (.s 0)⟩,
    ⟨.push, 5, none, .call 97 [(.s 0)]⟩,
    ⟨.push, 6, none, .mov (.s 0)⟩,
    ⟨.push, 7, (some ((.s 0), true)), .fldAddr 1 (.v 1)⟩,
    ⟨.push, 8, (some ((.s 1), true)), .load false 1 (.s 0)⟩,
    ⟨.push, 9, (some ((.s 2), true)), .call 98 [(.s 0)]⟩,
    ⟨.push, 10, none, .pick (.s 3) (.s 0) (.c (.bool false))⟩,
    ⟨.push, 11, none, .mov (.s 0)⟩,
    ⟨.push, 12, (some ((.s 0), true)), .fldAddr 2 (.v 1)⟩,
    ⟨.push, 13, (some ((.s 1), true)), .load false 1 (.s 0)⟩,
    ⟨.push, 14, (some ((.s 2), true)), .call 98 [(.s 0)]⟩,
    ⟨.push, 15, none, .pick (.s 3) (.s 0) (.c (.bool false))⟩,
    ⟨.push, 16, none, .mov (.s 0)⟩,
    ⟨.push, 17, (some ((.s 0), true)), .fldAddr 3 (.v 1)⟩,
    ⟨.push, 18, (some ((.s 1), true)), .load false 1 (.s 0)⟩,
    ⟨.push, 19, (some ((.s 2), true)), .call 99 [(.s 0)]⟩,
    ⟨.push, 20, none, .pick (.s 3) (.s 0) (.c (.bool false))⟩,
    ⟨.var 2, 2, none, .mov (.s 0)⟩])
 (.ret)), [.t 2]⟩
noncomputable def t_impl_isEstimate : List (Nat × Ctr) := [(97, c_impl_ValidTime), (98, c_impl_IsName), (99, c_impl_ValidMag)]
theorem lk_impl_isEstimate_97 : look t_impl_isEstimate 97 = some c_impl_ValidTime := rfl
theorem lk_impl_isEstimate_98 : look t_impl_isEstimate 98 = some c_impl_IsName := rfl
theorem lk_impl_isEstimate_99 : look t_impl_isEstimate 99 = some c_impl_ValidMag := rfl
noncomputable def c_impl_isEstimate : Ctr := mkF t_impl_isEstimate ir78 [.bor]
theorem s_impl_isEstimate : Sound Try.prog 78 c_impl_isEstimate := mkF_sound _ rfl (snd_cons s_impl_ValidTime (snd_cons s_impl_IsName (snd_cons s_impl_ValidMag snd_nil))) (by kernel_rfl : chkFn Try.prog 78 ir78 ir78_v = true)
theorem M_impl_isEstimate : c_impl_isEstimate.modes = [.bor] := rfl
theorem Fl_impl_isEstimate : c_impl_isEstimate.flat = true := rfl
attribute [go_sem] M_impl_isEstimate Fl_impl_isEstimate
attribute [go_sem] lk_impl_isEstimate_97 lk_impl_isEstimate_98 lk_impl_isEstimate_99
theorem Fs_impl_isEstimate {e_ : Estimate} {y_ : Bool} (h : impl_isEstimate e_ = some y_) : c_impl_isEstimate.F [Estimate_av e_] = ⟨true, .bool y_, [.any]⟩ := by
  refine mkF_E rfl ?_
  dsimp only [impl_isEstimate] at h
  obtain ⟨y_1, hk1, h⟩ := bd_some h
  have fhk1 := Fs_impl_ValidTime hk1
  try simp only [go_sem] at fhk1
  obtain ⟨hk2, h⟩ := ck_some h
  rcases or_split hk2 with ⟨ghk2, hk2⟩ | ghk2
  · try simp only [go_sem, n1, n2, n3, n4] at ghk2
    all_goals
    obtain ⟨y_2, hhk2⟩ := Option.isSome_iff_exists.1 hk2
    have fhk2 := Fs_impl_IsName hhk2
    try simp only [go_sem, n1, n2, n3, n4, ghk2] at hhk2
    all_goals
    try simp only [go_sem, ghk2] at fhk2
    obtain ⟨hk3, h⟩ := ck_some h
    rcases or_split hk3 with ⟨ghk3, hk3⟩ | ghk3
    · try simp only [go_sem, n1, n2, n3, n4, ghk2, hhk2] at ghk3
      all_goals
      obtain ⟨y_3, hhk3⟩ := Option.isSome_iff_exists.1 hk3
      have fhk3 := Fs_impl_IsName hhk3
      try simp only [go_sem, n1, n2, n3, n4, ghk2, hhk2, ghk3] at hhk3
      all_goals
      try simp only [go_sem, ghk2, hhk2, ghk3] at fhk3
      obtain ⟨hk4, h⟩ := ck_some h
      rcases or_split hk4 with ⟨ghk4, hk4⟩ | ghk4
      · try simp only [go_sem, n1, n2, n3, n4, ghk2, hhk2, ghk3, hhk3] at ghk4
        all_goals
        obtain ⟨y_4, hhk4⟩ := Option.isSome_iff_exists.1 hk4
        have fhk4 := Fs_impl_ValidMag hhk4
        try simp only [go_sem, n1, n2, n3, n4, ghk2, hhk2, ghk3, hhk3, ghk4] at hhk4
        all_goals
        try simp only [go_sem, ghk2, hhk2, ghk3, hhk3, ghk4] at fhk4
        obtain rfl := so_some h
        refine ⟨0, fun L hL => ?_⟩
        simp only [go_sem, ir78, fhk1, ghk2, hhk2, fhk2, ghk3, hhk3, fhk3, ghk4, hhk4, fhk4]
      · rcases and_f ghk4 with ghk4a | ⟨ghk4a, ghk4b⟩
        · try simp only [go_sem, n1, n2, n3, n4, ghk2, hhk2, ghk3, hhk3] at ghk4a
          all_goals
          (simp_all)
        · obtain ⟨ghk4aa, ghk4ab⟩ := and_t ghk4a
          try simp only [go_sem, n1, n2, n3, n4, ghk2, hhk2, ghk3, hhk3] at ghk4aa
          all_goals
          try simp only [go_sem, n1, n2, n3, n4, ghk2, hhk2, ghk3, hhk3, ghk4aa] at ghk4ab
          all_goals
          try simp only [go_sem, n1, n2, n3, n4, ghk2, hhk2, ghk3, hhk3, ghk4aa, ghk4ab] at ghk4b
          all_goals
          obtain rfl := so_some h
          refine ⟨0, fun L hL => ?_⟩
          simp only [go_sem, ir78, fhk1, ghk2, hhk2, fhk2, ghk3, hhk3, fhk3, ghk4aa, ghk4ab, ghk4b]
    · rcases and_f ghk3 with ghk3a | ⟨ghk3a, ghk3b⟩
      · try simp only [go_sem, n1, n2, n3, n4, ghk2, hhk2] at ghk3a
        all_goals
        (simp_all)
      · try simp only [go_sem, n1, n2, n3, n4, ghk2, hhk2] at ghk3a
        all_goals
        try simp only [go_sem, n1, n2, n3, n4, ghk2, hhk2, ghk3a] at ghk3b
        all_goals
        obtain ⟨hk4, h⟩ := ck_some h
        obtain rfl := so_some h
        refine ⟨0, fun L hL => ?_⟩
        simp only [go_sem, ir78, fhk1, ghk2, hhk2, fhk2, ghk3a, ghk3b]
  · try simp only [go_sem, n1, n2, n3, n4] at ghk2
    all_goals
    obtain ⟨hk3, h⟩ := ck_some h
    obtain ⟨hk4, h⟩ := ck_some h
    obtain rfl := so_some h
    refine ⟨0, fun L hL => ?_⟩
    simp only [go_sem, ir78, fhk1, ghk2]


def ir114_v : List Nat := [0, 2]
def ir114 : AFn := ⟨1, 2, .seq (.region false [
    ⟨.var 1, 2, none, .mov (.c (.bool false))⟩])
 (.seq (.region false [
    ⟨.push, 3, none, .mov (.v 0)⟩,
    ⟨.push, 4, none, .mov (.v 0)⟩,
    ⟨.push, 5, none, .bin false .neq (.s 1) (.s 0)⟩,
    ⟨.var 1, 2, none, .mov (.s 0)⟩])
 (.ret)), [.t 1]⟩
noncomputable def t_cmp_isNaN_int64 : List (Nat × Ctr) := []
noncomputable def c_cmp_isNaN_int64 : Ctr := mkF t_cmp_isNaN_int64 ir114 [.bor]
theorem s_cmp_isNaN_int64 : Sound Try.prog 114 c_cmp_isNaN_int64 := mkF_sound _ rfl snd_nil (by kernel_rfl : chkFn Try.prog 114 ir114 ir114_v = true)
theorem M_cmp_isNaN_int64 : c_cmp_isNaN_int64.modes = [.bor] := rfl
theorem Fl_cmp_isNaN_int64 : c_cmp_isNaN_int64.flat = true := rfl
attribute [go_sem] M_cmp_isNaN_int64 Fl_cmp_isNaN_int64
theorem Fs_cmp_isNaN_int64 {x : Int} {y_ : Bool} (h : cmp_isNaN_int64 x = some y_) : c_cmp_isNaN_int64.F [.int .i64 x] = ⟨true, .bool y_, [.any]⟩ := by
  refine mkF_E rfl ?_
  dsimp only [cmp_isNaN_int64] at h
  obtain rfl := so_some h
  refine ⟨0, fun L hL => ?_⟩
  simp only [go_sem, ir114]


def ir101_v : List Nat := [0, 1, 4, 5, 6]
def ir101 : AFn := ⟨2, 5, .seq (.region false [
    ⟨.var 2, 4, none, .mov (.c (.int .i64 (0)))⟩])
 (.seq (.region false [
    ⟨.push, 7, none, .mov (.v 0)⟩,
    ⟨.push, 8, none, .call 114 [(.s 0)]⟩,
    ⟨.var 3, 5, none, .mov (.s 0)⟩])
 (.seq (.region false [
    ⟨.push, 9, none, .mov (.v 1)⟩,
    ⟨.push, 10, none, .call 114 [(.s 0)]⟩,
    ⟨.var 4, 6, none, .mov (.s 0)⟩])
 (.seq (.test false [
    ⟨.push, 11, none, .mov (.v 3)⟩] (.s 0)
  (.seq (.test false [
      ⟨.push, 12, none, .mov (.v 4)⟩] (.s 0)
    (.seq (.region false [
        ⟨.var 2, 4, none, .mov (.c (.int .i64 (0)))⟩])
     (.ret))
    (.skip))
   (.seq (.region false [
      ⟨.var 2, 4, none, .mov (.c (.int .i64 (-1)))⟩])
   (.ret)))
  (.skip))
 (.seq (.test false [
    ⟨.push, 13, none, .mov (.v 4)⟩] (.s 0)
  (.seq (.region false [
      ⟨.var 2, 4, none, .mov (.c (.int .i64 (1)))⟩])
   (.ret))
  (.skip))
 (.seq (.test false [
    ⟨.push, 14, none, .mov (.v 0)⟩,
    ⟨.push, 15, none, .mov (.v 1)⟩,
    ⟨.push, 16, none, .bin false .lss (.s 1) (.s 0)⟩] (.s 0)
  (.seq (.region false [
      ⟨.var 2, 4, none, .mov (.c (.int .i64 (-1)))⟩])
   (.ret))
  (.skip))
 (.seq (.test false [
    ⟨.push, 17, none, .mov (.v 0)⟩,
    ⟨.push, 18, none, .mov (.v 1)⟩,
    ⟨.push, 19, none, .bin false .gtr (.s 1) (.s 0)⟩] (.s 0)
  (.seq (.region false [
      ⟨.var 2, 4, none, .mov (.c (.int .i64 (1)))⟩])
   (.ret))
  (.skip))
 (.seq (.region false [
    ⟨.var 2, 4, none, .mov (.c (.int .i64 (0)))⟩])
 (.ret)))))))), [.t 2]⟩
noncomputable def t_cmp_Compare_int64 : List (Nat × Ctr) := [(114, c_cmp_isNaN_int64)]
theorem lk_cmp_Compare_int64_114 : look t_cmp_Compare_int64 114 = some c_cmp_isNaN_int64 := rfl
noncomputable def c_cmp_Compare_int64 : Ctr := mkF t_cmp_Compare_int64 ir101 [.bor, .bor]
theorem s_cmp_Compare_int64 : Sound Try.prog 101 c_cmp_Compare_int64 := mkF_sound _ rfl (snd_cons s_cmp_isNaN_int64 snd_nil) (by kernel_rfl : chkFn Try.prog 101 ir101 ir101_v = true)
theorem M_cmp_Compare_int64 : c_cmp_Compare_int64.modes = [.bor, .bor] := rfl
theorem Fl_cmp_Compare_int64 : c_cmp_Compare_int64.flat = true := rfl
attribute [go_sem] M_cmp_Compare_int64 Fl_cmp_Compare_int64
attribute [go_sem] lk_cmp_Compare_int64_114
theorem Fs_cmp_Compare_int64 {x : Int} {y : Int} {y_ : Int} (h : cmp_Compare_int64 x y = some y_) : c_cmp_Compare_int64.F [.int .i64 x, .int .i64 y] = ⟨true, .int .i64 y_, [.any, .any]⟩ := by
  refine mkF_E rfl ?_
  dsimp only [cmp_Compare_int64] at h
  obtain ⟨y_1, hk1, h⟩ := bd_some h
  have fhk1 := Fs_cmp_isNaN_int64 hk1
  try simp only [go_sem] at fhk1
  obtain ⟨y_2, hk2, h⟩ := bd_some h
  have fhk2 := Fs_cmp_isNaN_int64 hk2
  try simp only [go_sem] at fhk2
  rcases it_some h with ⟨hk3, h⟩ | ⟨hk3, h⟩
  · try simp only [go_sem, n1, n2, n3, n4] at hk3
    all_goals
    rcases it_some h with ⟨hk4, h⟩ | ⟨hk4, h⟩
    · try simp only [go_sem, n1, n2, n3, n4, hk3] at hk4
      all_goals
      obtain rfl := so_some h
      refine ⟨0, fun L hL => ?_⟩
      simp only [go_sem, ir101, fhk1, fhk2, hk3, hk4]
    · try simp only [go_sem, n1, n2, n3, n4, hk3] at hk4
      all_goals
      obtain rfl := so_some h
      refine ⟨0, fun L hL => ?_⟩
      simp only [go_sem, ir101, fhk1, fhk2, hk3, hk4]
  · try simp only [go_sem, n1, n2, n3, n4] at hk3
    all_goals
    rcases it_some h with ⟨hk5, h⟩ | ⟨hk5, h⟩
    · try simp only [go_sem, n1, n2, n3, n4, hk3] at hk5
      all_goals
      obtain rfl := so_some h
      refine ⟨0, fun L hL => ?_⟩
      simp only [go_sem, ir101, fhk1, fhk2, hk3, hk5]
    · try simp only [go_sem, n1, n2, n3, n4, hk3] at hk5
      all_goals
      rcases it_some h with ⟨hk6, h⟩ | ⟨hk6, h⟩
      · try simp only [go_sem, n1, n2, n3, n4, hk3, hk5] at hk6
        all_goals
        obtain rfl := so_some h
        refine ⟨0, fun L hL => ?_⟩
        simp only [go_sem, ir101, fhk1, fhk2, hk3, hk5, hk6]
      · try simp only [go_sem, n1, n2, n3, n4, hk3, hk5] at hk6
        all_goals
        rcases it_some h with ⟨hk7, h⟩ | ⟨hk7, h⟩
        · try simp only [go_sem, n1, n2, n3, n4, hk3, hk5, hk6] at hk7
          all_goals
          obtain rfl := so_some h
          refine ⟨0, fun L hL => ?_⟩
          simp only [go_sem, ir101, fhk1, fhk2, hk3, hk5, hk6, hk7]
        · try simp only [go_sem, n1, n2, n3, n4, hk3, hk5, hk6] at hk7
          all_goals
          obtain rfl := so_some h
          refine ⟨0, fun L hL => ?_⟩
          simp only [go_sem, ir101, fhk1, fhk2, hk3, hk5, hk6, hk7]


theorem s_hCmp : Sound Try.prog 120 c_hCmp := hCmp_sound Try.func120 (by kernel_rfl) (by kernel_rfl) (by kernel_rfl) (by kernel_rfl)

def ir115_v : List Nat := [0, 1, 4]
def ir115 : AFn := ⟨2, 3, .seq (.region false [
    ⟨.var 2, 4, none, .mov (.c (.int .i64 (0)))⟩])
 (.seq (.region false [
    ⟨.push, 5, none, .mov (.v 0)⟩,
    ⟨.push, 6, none, .mov (.v 1)⟩,
    ⟨.push, 7, none, .call 120 [(.s 1), (.s 0)]⟩,
    ⟨.var 2, 4, none, .mov (.s 0)⟩])
 (.ret)), [.t 2]⟩
noncomputable def t_internal_bytealg_CompareString : List (Nat × Ctr) := [(120, c_hCmp)]
theorem lk_internal_bytealg_CompareString_120 : look t_internal_bytealg_CompareString 120 = some c_hCmp := rfl
noncomputable def c_internal_bytealg_CompareString : Ctr := mkF t_internal_bytealg_CompareString ir115 [.bor, .bor]
theorem s_internal_bytealg_CompareString : Sound Try.prog 115 c_internal_bytealg_CompareString := mkF_sound _ rfl (snd_cons s_hCmp snd_nil) (by kernel_rfl : chkFn Try.prog 115 ir115 ir115_v = true)
theorem M_internal_bytealg_CompareString : c_internal_bytealg_CompareString.modes = [.bor, .bor] := rfl
theorem Fl_internal_bytealg_CompareString : c_internal_bytealg_CompareString.flat = true := rfl
attribute [go_sem] M_internal_bytealg_CompareString Fl_internal_bytealg_CompareString
attribute [go_sem] lk_internal_bytealg_CompareString_120
theorem Fs_internal_bytealg_CompareString {a : List UInt8} {b : List UInt8} {y_ : Int} (h : internal_bytealg_CompareString a b = some y_) : c_internal_bytealg_CompareString.F [.str a, .str b] = ⟨true, .int .i64 y_, [.any, .any]⟩ := by
  refine mkF_E rfl ?_
  dsimp only [internal_bytealg_CompareString] at h
  obtain ⟨y_1, hk1, h⟩ := bd_some h
  have fhk1 := Fs_hCmp hk1
  try simp only [go_sem] at fhk1
  obtain rfl := so_some h
  refine ⟨0, fun L hL => ?_⟩
  simp only [go_sem, ir115, fhk1]


def ir102_v : List Nat := [0, 1, 4]
def ir102 : AFn := ⟨2, 3, .seq (.region false [
    ⟨.var 2, 4, none, .mov (.c (.int .i64 (0)))⟩])
 (.seq (.region false [
    ⟨.push, 5, none, .mov (.v 0)⟩,
    ⟨.push, 6, none, .mov (.v 1)⟩,
    ⟨.push, 7, none, .call 115 [(.s 1), (.s 0)]⟩,
    ⟨.var 2, 4, none, .mov (.s 0)⟩])
 (.ret)), [.t 2]⟩
noncomputable def t_strings_Compare : List (Nat × Ctr) := [(115, c_internal_bytealg_CompareString)]
theorem lk_strings_Compare_115 : look t_strings_Compare 115 = some c_internal_bytealg_CompareString := rfl
noncomputable def c_strings_Compare : Ctr := mkF t_strings_Compare ir102 [.bor, .bor]
theorem s_strings_Compare : Sound Try.prog 102 c_strings_Compare := mkF_sound _ rfl (snd_cons s_internal_bytealg_CompareString snd_nil) (by kernel_rfl : chkFn Try.prog 102 ir102 ir102_v = true)
theorem M_strings_Compare : c_strings_Compare.modes = [.bor, .bor] := rfl
theorem Fl_strings_Compare : c_strings_Compare.flat = true := rfl
attribute [go_sem] M_strings_Compare Fl_strings_Compare
attribute [go_sem] lk_strings_Compare_115
theorem Fs_strings_Compare {a : List UInt8} {b : List UInt8} {y_ : Int} (h : strings_Compare a b = some y_) : c_strings_Compare.F [.str a, .str b] = ⟨true, .int .i64 y_, [.any, .any]⟩ := by
  refine mkF_E rfl ?_
  dsimp only [strings_Compare] at h
  obtain ⟨y_1, hk1, h⟩ := bd_some h
  have fhk1 := Fs_internal_bytealg_CompareString hk1
  try simp only [go_sem] at fhk1
  obtain rfl := so_some h
  refine ⟨0, fun L hL => ?_⟩
  simp only [go_sem, ir102, fhk1]


def ir100_b0 : IR := .seq (.region false [
    ⟨.var 7, 9, none, .bin false .lss (.v 6) (.v 5)⟩])
 (.seq (.cond (.v 7) (.skip)
  (.exit 0))
 (.seq (.block 1 (.seq (.region false [
      ⟨.push, 10, none, .ixAddr 1 (.v 4) (.v 6)⟩,
      ⟨.push, 11, none, .load false 1 (.s 0)⟩,
      ⟨.var 3, 5, none, .mov (.s 0)⟩])
   (.test false [
     ⟨.push, 12, none, .mov (.v 3)⟩,
     ⟨.push, 13, none, .mov (.v 2)⟩,
     ⟨.push, 14, none, .bin false .neq (.s 1) (.s 0)⟩] (.s 0)
   (.seq (.region false [
       ⟨.push, 15, none, .mov (.v 3)⟩,
       ⟨.var 1, 2, none, .mov (.s 0)⟩])
    (.ret))
   (.skip))))
 (.region false [
   ⟨.push, 16, none, .bin false .add (.v 6) (.c (.int .i64 (1)))⟩,
   ⟨.var 6, 8, none, .mov (.s 0)⟩])))
def ir100_k0 : List Bool := [false, false, true, false, true, true, true, false]
def ir100_o0 : List Bool := [false, false, true, false, false, false, false, false]
def ir100_r0 : List Bool := [false, true, false, false, false, false, false, false]
def ir100_v : List Nat := [0, 2, 3, 5, 6, 7, 8, 9]
def ir100 : AFn := ⟨1, 8, .seq (.region false [
    ⟨.var 1, 2, none, .mov (.c (.int .i64 (0)))⟩])
 (.seq (.region false [
    ⟨.var 2, 3, none, .mov (.c (.int .i64 (0)))⟩])
 (.seq (.seq (.region false [
     ⟨.var 4, 6, none, .mov (.v 0)⟩,
     ⟨.var 5, 7, none, .len false (.v 4)⟩,
     ⟨.var 6, 8, none, .mov (.c (.int .i64 (0)))⟩])
  (.block 0 (.loop ir100_k0 ir100_o0 ir100_r0 ir100_b0)))
 (.seq (.region false [
    ⟨.push, 17, none, .mov (.v 2)⟩,
    ⟨.var 1, 2, none, .mov (.s 0)⟩])
 (.ret)))), [.t 1]⟩
noncomputable def t_cmp_Or_int : List (Nat × Ctr) := []
noncomputable def c_cmp_Or_int : Ctr := mkF t_cmp_Or_int ir100 [.bor]
theorem s_cmp_Or_int : Sound Try.prog 100 c_cmp_Or_int := mkF_sound _ rfl snd_nil (by kernel_rfl : chkFn Try.prog 100 ir100 ir100_v = true)
theorem M_cmp_Or_int : c_cmp_Or_int.modes = [.bor] := rfl
theorem Fl_cmp_Or_int : c_cmp_Or_int.flat = true := rfl
attribute [go_sem] M_cmp_Or_int Fl_cmp_Or_int
def E_cmp_Or_int_l1 (zero : Int) (t6 : List Int) (t7 : Int) : Int → St
  | t8 => ⟨[.any, .any, .int .i64 zero, .any, .sl 1 (List.map (AV.int .i64) t6), .int .i64 t7, .int .i64 t8, .any], [], [], true⟩
def R_cmp_Or_int_l1 (zero : Int) (t6 : List Int) (t7 : Int) : (Unit ⊕ Int) → Res
  | .inl y => (.exit 0, ⟨[.any, .any, .int .i64 zero, .any, .any, .any, .any, .any], [], [], true⟩)
  | .inr y => (.ret, ⟨[.any, .int .i64 y, .any, .any, .any, .any, .any, .any], [], [], true⟩)
theorem cmp_Or_int_l1_ex {zero : Int} {t6 : List Int} {t7 : Int} {sgm_ : Int} {rho_ : Unit ⊕ Int} (h : whileE (cmp_Or_int_l1 zero t6 t7) sgm_ = some rho_) : ∃ L0, ∀ L, L0 ≤ L → iter (exec (look t_cmp_Or_int) L ir100_b0) ir100_k0 ir100_o0 ir100_r0 L (E_cmp_Or_int_l1 zero t6 t7 sgm_) = R_cmp_Or_int_l1 zero t6 t7 rho_ := by
  refine loop_ex (E := E_cmp_Or_int_l1 zero t6 t7) (R := R_cmp_Or_int_l1 zero t6 t7) (fun y => by first | (intro c; cases c) | (rcases y with y | y <;> (intro c; cases c)) | (rcases y with y | y | y <;> (intro c; cases c))) ?_ h
  clear h
  intro t8 o_ h
  dsimp only [cmp_Or_int_l1] at h
  rcases it_some h with ⟨hk1, h⟩ | ⟨hk1, h⟩
  · try simp only [go_sem, n1, n2, n3, n4] at hk1
    all_goals
    obtain ⟨hk2, h⟩ := ck_some h
    have lhk2 := ix_lt hk2
    have xhk2 := getD_mapD (AV.int .i64) t6 lhk2
    try simp only [go_sem] at lhk2
    try simp only [go_sem] at xhk2
    try simp only [go_sem, n1, n2, n3, n4, hk1] at hk2
    all_goals
    rcases it_some h with ⟨hk3, h⟩ | ⟨hk3, h⟩
    · try simp only [go_sem, n1, n2, n3, n4, hk1, hk2] at hk3
      all_goals
      obtain rfl := so_some h
      refine ⟨0, fun L hL => ?_⟩
      simp only [go_sem, ir100, E_cmp_Or_int_l1, R_cmp_Or_int_l1, ir100_b0, ir100_k0, ir100_o0, ir100_r0, hk1, hk2, lhk2, xhk2, hk3]
    · try simp only [go_sem, n1, n2, n3, n4, hk1, hk2] at hk3
      all_goals
      obtain rfl := so_some h
      refine ⟨0, fun L hL => ?_⟩
      simp only [go_sem, ir100, E_cmp_Or_int_l1, R_cmp_Or_int_l1, ir100_b0, ir100_k0, ir100_o0, ir100_r0, hk1, hk2, lhk2, xhk2, hk3]
  · try simp only [go_sem, n1, n2, n3, n4] at hk1
    all_goals
    obtain rfl := so_some h
    refine ⟨0, fun L hL => ?_⟩
    simp only [go_sem, ir100, E_cmp_Or_int_l1, R_cmp_Or_int_l1, ir100_b0, ir100_k0, ir100_o0, ir100_r0, hk1]

theorem Fs_cmp_Or_int {vals : List Int} {y_ : Int} (h : cmp_Or_int vals = some y_) : c_cmp_Or_int.F [.sl 1 (List.map (AV.int .i64) vals)] = ⟨true, .int .i64 y_, [.any]⟩ := by
  refine mkF_E rfl ?_
  dsimp only [cmp_Or_int] at h
  obtain ⟨y_4, hk4, h⟩ := bd_some h
  obtain ⟨Lhk4, ehk4⟩ := cmp_Or_int_l1_ex hk4
  rcases y_4 with y_4a | y_4b
  · dsimp only at h
    obtain rfl := so_some h
    refine ⟨Lhk4, fun L hL => ?_⟩
    have ehk4 := ehk4 L (by omega)
    try simp only [go_sem, E_cmp_Or_int_l1, R_cmp_Or_int_l1, ir100_k0, ir100_o0, ir100_r0] at ehk4
    simp only [go_sem, ir100, E_cmp_Or_int_l1, R_cmp_Or_int_l1, ir100_k0, ir100_o0, ir100_r0, ehk4]
  · dsimp only at h
    obtain rfl := so_some h
    refine ⟨Lhk4, fun L hL => ?_⟩
    have ehk4 := ehk4 L (by omega)
    try simp only [go_sem, E_cmp_Or_int_l1, R_cmp_Or_int_l1, ir100_k0, ir100_o0, ir100_r0] at ehk4
    simp only [go_sem, ir100, E_cmp_Or_int_l1, R_cmp_Or_int_l1, ir100_k0, ir100_o0, ir100_r0, ehk4]


def ir79_v : List Nat := [0, 1, 2, 3, 4]
def ir79 : AFn := ⟨2, 5, .seq (.region false [
    ⟨.var 2, 2, none, .box (.v 0)⟩,
    ⟨.var 3, 3, none, .box (.v 1)⟩,
    ⟨.var 4, 4, none, .mov (.c (.int .i64 (0)))⟩])
 (.seq (.anyo 17 [
    ⟨.slot 0, 5, none, .fldAddr 0 (.v 2)⟩,
    ⟨.slot 1, 6, none, .load false 1 (.s 0)⟩,
    ⟨.slot 2, 7, none, .fldAddr 0 (.v 3)⟩,
    ⟨.slot 3, 8, none, .load false 1 (.s 2)⟩,
    ⟨.slot 4, 9, none, .callp 101 [(.s 1), (.s 3)]⟩,
    ⟨.slot 5, 10, none, .fldAddr 1 (.v 2)⟩,
    ⟨.slot 6, 11, none, .load false 1 (.s 5)⟩,
    ⟨.slot 7, 12, none, .fldAddr 1 (.v 3)⟩,
    ⟨.slot 8, 13, none, .load false 1 (.s 7)⟩,
    ⟨.slot 9, 14, none, .callp 102 [(.s 6), (.s 8)]⟩,
    ⟨.slot 10, 15, none, .fldAddr 2 (.v 2)⟩,
    ⟨.slot 11, 16, none, .load false 1 (.s 10)⟩,
    ⟨.slot 12, 17, none, .fldAddr 2 (.v 3)⟩,
    ⟨.slot 13, 18, none, .load false 1 (.s 12)⟩,
    ⟨.slot 14, 19, none, .callp 102 [(.s 11), (.s 13)]⟩,
    ⟨.slot 15, 20, none, .pur (.mkSl 1 (.int .i64 (0)) 3 [(0, (.s 4)), (1, (.s 9)), (2, (.s 14))])⟩,
    ⟨.slot 16, 21, none, .callp 100 [(.s 15)]⟩,
    ⟨.var 4, 4, none, .mov (.s 16)⟩] [] .skip)
 (.ret)), [.t 4]⟩
noncomputable def t_impl_compareEstimates : List (Nat × Ctr) := [(101, c_cmp_Compare_int64), (102, c_strings_Compare), (100, c_cmp_Or_int)]
theorem lk_impl_compareEstimates_101 : look t_impl_compareEstimates 101 = some c_cmp_Compare_int64 := rfl
theorem lk_impl_compareEstimates_102 : look t_impl_compareEstimates 102 = some c_strings_Compare := rfl
theorem lk_impl_compareEstimates_100 : look t_impl_compareEstimates 100 = some c_cmp_Or_int := rfl
noncomputable def c_impl_compareEstimates : Ctr := mkF t_impl_compareEstimates ir79 [.bor, .bor]
theorem s_impl_compareEstimates : Sound Try.prog 79 c_impl_compareEstimates := mkF_sound _ rfl (snd_cons s_cmp_Compare_int64 (snd_cons s_strings_Compare (snd_cons s_cmp_Or_int snd_nil))) (by kernel_rfl : chkFn Try.prog 79 ir79 ir79_v = true)
theorem M_impl_compareEstimates : c_impl_compareEstimates.modes = [.bor, .bor] := rfl
theorem Fl_impl_compareEstimates : c_impl_compareEstimates.flat = true := rfl
attribute [go_sem] M_impl_compareEstimates Fl_impl_compareEstimates
attribute [go_sem] lk_impl_compareEstimates_101 lk_impl_compareEstimates_102 lk_impl_compareEstimates_100
theorem Fs_impl_compareEstimates {a : Estimate} {b : Estimate} {y_ : Int} (h : impl_compareEstimates a b = some y_) : c_impl_compareEstimates.F [Estimate_av a, Estimate_av b] = ⟨true, .int .i64 y_, [.any, .any]⟩ := by
  refine mkF_E rfl ?_
  dsimp only [impl_compareEstimates] at h
  obtain ⟨y_1, hk1, h⟩ := bd_some h
  have fhk1 := Fs_cmp_Compare_int64 hk1
  try simp only [go_sem] at fhk1
  obtain ⟨y_2, hk2, h⟩ := bd_some h
  have fhk2 := Fs_strings_Compare hk2
  try simp only [go_sem] at fhk2
  obtain ⟨y_3, hk3, h⟩ := bd_some h
  have fhk3 := Fs_strings_Compare hk3
  try simp only [go_sem] at fhk3
  obtain ⟨y_4, hk4, h⟩ := bd_some h
  have fhk4 := Fs_cmp_Or_int hk4
  try simp only [go_sem] at fhk4
  obtain rfl := so_some h
  refine ⟨0, fun L hL => ?_⟩
  simp only [go_sem, ir79, fhk1, fhk2, fhk3, fhk4]


def ir49_b0 : IR := .seq (.region false [
    ⟨.var 7, 11, none, .bin false .lss (.v 6) (.v 5)⟩])
 (.seq (.cond (.v 7) (.skip)
  (.exit 0))
 (.seq (.block 1 (.seq (.region false [
      ⟨.push, 12, none, .mov (.v 6)⟩,
      ⟨.push, 13, none, .ixAddr 5 (.v 4) (.v 6)⟩,
      ⟨.push, 14, none, .load true 5 (.s 0)⟩,
      ⟨.var 3, 4, none, .alloc (.agg [.int .i64 (0), .str [], .str [], .int .i64 (0), .bool false])⟩,
      ⟨.var 2, 3, none, .mov (.s 2)⟩,
      ⟨.no, 0, none, .store 5 (.v 3) (.s 0)⟩])
   (.anyo 17 [
     ⟨.slot 0, 15, none, .load true 5 (.v 3)⟩,
     ⟨.slot 1, 16, none, .callp 78 [(.s 0)]⟩,
     ⟨.slot 2, 17, none, .un .not (.s 1)⟩,
     ⟨.slot 3, 18, none, .mov (.s 2)⟩,
     ⟨.slot 4, 19, (some ((.s 3), false)), .mov (.v 2)⟩,
     ⟨.slot 5, 20, (some ((.s 3), false)), .bin false .gtr (.s 4) (.c (.int .i64 (0)))⟩,
     ⟨.slot 6, 21, (some ((.s 3), false)), .mov (.s 5)⟩,
     ⟨.slot 7, 22, (some ((.s 6), true)), .mov (.v 0)⟩,
     ⟨.slot 8, 23, (some ((.s 6), true)), .mov (.v 2)⟩,
     ⟨.slot 9, 24, (some ((.s 6), true)), .bin false .sub (.s 8) (.c (.int .i64 (1)))⟩,
     ⟨.slot 10, 25, (some ((.s 6), true)), .ixAddr 5 (.s 7) (.s 9)⟩,
     ⟨.slot 11, 26, (some ((.s 6), true)), .load true 5 (.s 10)⟩,
     ⟨.slot 12, 27, (some ((.s 6), true)), .load true 5 (.v 3)⟩,
     ⟨.slot 13, 28, (some ((.s 6), true)), .call 79 [(.s 11), (.s 12)]⟩,
     ⟨.slot 14, 29, (some ((.s 6), true)), .bin false .geq (.s 13) (.c (.int .i64 (0)))⟩,
     ⟨.slot 15, 30, (some ((.s 3), false)), .pick (.s 6) (.s 14) (.c (.bool false))⟩,
     ⟨.slot 16, 31, none, .pick (.s 3) (.c (.bool true)) (.s 15)⟩] [] (.cond (.s 16)
   (.seq (.region false [
       ⟨.var 1, 2, none, .mov (.c (.bool false))⟩])
    (.ret))
   (.skip)))))
 (.region false [
   ⟨.push, 32, none, .bin false .add (.v 6) (.c (.int .i64 (1)))⟩,
   ⟨.var 6, 10, none, .mov (.s 0)⟩])))
def ir49_k0 : List Bool := [true, false, false, false, true, true, true, false]
def ir49_o0 : List Bool := [false, false, false, false, false, false, false, false]
def ir49_r0 : List Bool := [false, true, false, false, false, false, false, false]
def ir49_v : List Nat := [0, 2, 3, 4, 8, 9, 10, 11]
def ir49 : AFn := ⟨1, 8, .seq (.region false [
    ⟨.var 1, 2, none, .mov (.c (.bool false))⟩])
 (.seq (.test false [
    ⟨.push, 5, none, .mov (.v 0)⟩,
    ⟨.push, 6, none, .len false (.s 0)⟩,
    ⟨.push, 7, none, .bin false .gtr (.s 0) (.c (.int .i64 (100)))⟩] (.s 0)
  (.seq (.region false [
      ⟨.var 1, 2, none, .mov (.c (.bool false))⟩])
   (.ret))
  (.skip))
 (.seq (.seq (.region false [
     ⟨.var 4, 8, none, .mov (.v 0)⟩,
     ⟨.var 5, 9, none, .len false (.v 4)⟩,
     ⟨.var 6, 10, none, .mov (.c (.int .i64 (0)))⟩])
  (.block 0 (.loop ir49_k0 ir49_o0 ir49_r0 ir49_b0)))
 (.seq (.region false [
    ⟨.var 1, 2, none, .mov (.c (.bool true))⟩])
 (.ret)))), [.t 1]⟩
noncomputable def t_impl_ValidEstimates : List (Nat × Ctr) := [(78, c_impl_isEstimate), (79, c_impl_compareEstimates)]
theorem lk_impl_ValidEstimates_78 : look t_impl_ValidEstimates 78 = some c_impl_isEstimate := rfl
theorem lk_impl_ValidEstimates_79 : look t_impl_ValidEstimates 79 = some c_impl_compareEstimates := rfl
noncomputable def c_impl_ValidEstimates : Ctr := mkF t_impl_ValidEstimates ir49 [.bor]
theorem s_impl_ValidEstimates : Sound Try.prog 49 c_impl_ValidEstimates := mkF_sound _ rfl (snd_cons s_impl_isEstimate (snd_cons s_impl_compareEstimates snd_nil)) (by kernel_rfl : chkFn Try.prog 49 ir49 ir49_v = true)
theorem M_impl_ValidEstimates : c_impl_ValidEstimates.modes = [.bor] := rfl
theorem Fl_impl_ValidEstimates : c_impl_ValidEstimates.flat = true := rfl
attribute [go_sem] M_impl_ValidEstimates Fl_impl_ValidEstimates
attribute [go_sem] lk_impl_ValidEstimates_78 lk_impl_ValidEstimates_79
def E_impl_ValidEstimates_l1 (list : List Estimate) (t8 : List Estimate) (t9 : Int) : Int → St
  | t10 => ⟨[.sl 5 (List.map Estimate_av list), .any, .any, .any, .sl 5 (List.map Estimate_av t8), .int .i64 t9, .int .i64 t10, .any], [], [], true⟩
def R_impl_ValidEstimates_l1 (list : List Estimate) (t8 : List Estimate) (t9 : Int) : (Unit ⊕ Bool) → Res
  | .inl y => (.exit 0, ⟨[.any, .any, .any, .any, .any, .any, .any, .any], [], [], true⟩)
  | .inr y => (.ret, ⟨[.any, .bool y, .any, .any, .any, .any, .any, .any], [], [], true⟩)
theorem impl_ValidEstimates_l1_ex {list : List Estimate} {t8 : List Estimate} {t9 : Int} {sgm_ : Int} {rho_ : Unit ⊕ Bool} (h : whileE (impl_ValidEstimates_l1 list t8 t9) sgm_ = some rho_) : ∃ L0, ∀ L, L0 ≤ L → iter (exec (look t_impl_ValidEstimates) L ir49_b0) ir49_k0 ir49_o0 ir49_r0 L (E_impl_ValidEstimates_l1 list t8 t9 sgm_) = R_impl_ValidEstimates_l1 list t8 t9 rho_ := by
  refine loop_ex (E := E_impl_ValidEstimates_l1 list t8 t9) (R := R_impl_ValidEstimates_l1 list t8 t9) (fun y => by first | (intro c; cases c) | (rcases y with y | y <;> (intro c; cases c)) | (rcases y with y | y | y <;> (intro c; cases c))) ?_ h
  clear h
  intro t10 o_ h
  dsimp only [impl_ValidEstimates_l1] at h
  rcases it_some h with ⟨hk2, h⟩ | ⟨hk2, h⟩
  · try simp only [go_sem, n1, n2, n3, n4] at hk2
    all_goals
    obtain ⟨hk3, h⟩ := ck_some h
    have lhk3 := ix_lt hk3
    have xhk3 := getD_mapD Estimate_av t8 lhk3
    try simp only [go_sem] at lhk3
    try simp only [go_sem] at xhk3
    try simp only [go_sem, n1, n2, n3, n4, hk2] at hk3
    all_goals
    obtain ⟨y_4, hk4, h⟩ := bd_some h
    have fhk4 := Fs_impl_isEstimate hk4
    try simp only [go_sem, hk2, hk3] at fhk4
    obtain ⟨hk5, h⟩ := ck_some h
    rcases or_split hk5 with ⟨ghk5, hk5⟩ | ghk5
    · try simp only [go_sem, n1, n2, n3, n4, hk2, hk3] at ghk5
      all_goals
      have lhk5 := ix_lt hk5
      have xhk5 := getD_mapD Estimate_av list lhk5
      try simp only [go_sem] at lhk5
      try simp only [go_sem] at xhk5
      try simp only [go_sem, n1, n2, n3, n4, hk2, hk3, ghk5] at hk5
      all_goals
      obtain ⟨hk6, h⟩ := ck_some h
      rcases or_split hk6 with ⟨ghk6, hk6⟩ | ghk6
      · try simp only [go_sem, n1, n2, n3, n4, hk2, hk3, ghk5, hk5] at ghk6
        all_goals
        obtain ⟨y_6, hhk6⟩ := Option.isSome_iff_exists.1 hk6
        have fhk6 := Fs_impl_compareEstimates hhk6
        try simp only [go_sem, n1, n2, n3, n4, hk2, hk3, ghk5, hk5, ghk6] at hhk6
        all_goals
        try simp only [go_sem, hk2, hk3, ghk5, hk5, ghk6] at fhk6
        rcases it_some h with ⟨hk7, h⟩ | ⟨hk7, h⟩
        · try simp only [go_sem, n1, n2, n3, n4, hk2, hk3, ghk5, hk5, ghk6, hhk6] at hk7
          all_goals
          obtain rfl := so_some h
          refine ⟨0, fun L hL => ?_⟩
          simp only [go_sem, ir49, E_impl_ValidEstimates_l1, R_impl_ValidEstimates_l1, ir49_b0, ir49_k0, ir49_o0, ir49_r0, hk2, hk3, lhk3, xhk3, fhk4, ghk5, hk5, lhk5, xhk5, ghk6, hhk6, fhk6, hk7]
        · try simp only [go_sem, n1, n2, n3, n4, hk2, hk3, ghk5, hk5, ghk6, hhk6] at hk7
          all_goals
          obtain rfl := so_some h
          refine ⟨0, fun L hL => ?_⟩
          simp only [go_sem, ir49, E_impl_ValidEstimates_l1, R_impl_ValidEstimates_l1, ir49_b0, ir49_k0, ir49_o0, ir49_r0, hk2, hk3, lhk3, xhk3, fhk4, ghk5, hk5, lhk5, xhk5, ghk6, hhk6, fhk6, hk7]
      · rcases and_f ghk6 with ghk6a | ⟨ghk6a, ghk6b⟩
        · try simp only [go_sem, n1, n2, n3, n4, hk2, hk3, ghk5, hk5] at ghk6a
          all_goals
          (simp_all)
        · have ghk6an := no_t ghk6a
          have ghk6ann := no_f ghk6an
          try simp only [go_sem, n1, n2, n3, n4, hk2, hk3, ghk5, hk5] at ghk6ann
          all_goals
          try simp only [go_sem, n1, n2, n3, n4, hk2, hk3, ghk5, hk5, ghk6ann] at ghk6b
          all_goals
          rcases it_some h with ⟨hk7, h⟩ | ⟨hk7, h⟩
          · try simp only [go_sem, n1, n2, n3, n4, hk2, hk3, ghk5, hk5, ghk6ann, ghk6b] at hk7
            all_goals
            (simp_all)
          · try simp only [go_sem, n1, n2, n3, n4, hk2, hk3, ghk5, hk5, ghk6ann, ghk6b] at hk7
            all_goals
            obtain rfl := so_some h
            refine ⟨0, fun L hL => ?_⟩
            simp only [go_sem, ir49, E_impl_ValidEstimates_l1, R_impl_ValidEstimates_l1, ir49_b0, ir49_k0, ir49_o0, ir49_r0, hk2, hk3, lhk3, xhk3, fhk4, ghk5, hk5, lhk5, xhk5, ghk6ann, ghk6b, hk7]
    · rcases and_f ghk5 with ghk5a | ⟨ghk5a, ghk5b⟩
      · have ghk5an := no_f ghk5a
        have ghk5ann := no_t ghk5an
        try simp only [go_sem, n1, n2, n3, n4, hk2, hk3] at ghk5ann
        all_goals
        obtain ⟨hk6, h⟩ := ck_some h
        rcases it_some h with ⟨hk7, h⟩ | ⟨hk7, h⟩
        · try simp only [go_sem, n1, n2, n3, n4, hk2, hk3, ghk5ann] at hk7
          all_goals
          obtain rfl := so_some h
          refine ⟨0, fun L hL => ?_⟩
          simp only [go_sem, ir49, E_impl_ValidEstimates_l1, R_impl_ValidEstimates_l1, ir49_b0, ir49_k0, ir49_o0, ir49_r0, hk2, hk3, lhk3, xhk3, fhk4, ghk5ann, hk7]
        · try simp only [go_sem, n1, n2, n3, n4, hk2, hk3, ghk5ann] at hk7
          all_goals
          (simp_all)
      · have ghk5an := no_t ghk5a
        have ghk5ann := no_f ghk5an
        try simp only [go_sem, n1, n2, n3, n4, hk2, hk3] at ghk5ann
        all_goals
        try simp only [go_sem, n1, n2, n3, n4, hk2, hk3, ghk5ann] at ghk5b
        all_goals
        obtain ⟨hk6, h⟩ := ck_some h
        rcases it_some h with ⟨hk7, h⟩ | ⟨hk7, h⟩
        · try simp only [go_sem, n1, n2, n3, n4, hk2, hk3, ghk5ann, ghk5b] at hk7
          all_goals
          (simp_all)
        · try simp only [go_sem, n1, n2, n3, n4, hk2, hk3, ghk5ann, ghk5b] at hk7
          all_goals
          obtain rfl := so_some h
          refine ⟨0, fun L hL => ?_⟩
          simp only [go_sem, ir49, E_impl_ValidEstimates_l1, R_impl_ValidEstimates_l1, ir49_b0, ir49_k0, ir49_o0, ir49_r0, hk2, hk3, lhk3, xhk3, fhk4, ghk5ann, ghk5b, hk7]
  · try simp only [go_sem, n1, n2, n3, n4] at hk2
    all_goals
    obtain rfl := so_some h
    refine ⟨0, fun L hL => ?_⟩
    simp only [go_sem, ir49, E_impl_ValidEstimates_l1, R_impl_ValidEstimates_l1, ir49_b0, ir49_k0, ir49_o0, ir49_r0, hk2]

theorem Fs_impl_ValidEstimates {list : List Estimate} {y_ : Bool} (h : impl_ValidEstimates list = some y_) : c_impl_ValidEstimates.F [.sl 5 (List.map Estimate_av list)] = ⟨true, .bool y_, [.any]⟩ := by
  refine mkF_E rfl ?_
  dsimp only [impl_ValidEstimates] at h
  rcases it_some h with ⟨hk1, h⟩ | ⟨hk1, h⟩
  · try simp only [go_sem, n1, n2, n3, n4] at hk1
    all_goals
    obtain rfl := so_some h
    refine ⟨0, fun L hL => ?_⟩
    simp only [go_sem, ir49, E_impl_ValidEstimates_l1, R_impl_ValidEstimates_l1, ir49_k0, ir49_o0, ir49_r0, hk1]
  · try simp only [go_sem, n1, n2, n3, n4] at hk1
    all_goals
    obtain ⟨y_8, hk8, h⟩ := bd_some h
    obtain ⟨Lhk8, ehk8⟩ := impl_ValidEstimates_l1_ex hk8
    rcases y_8 with y_8a | y_8b
    · dsimp only at h
      obtain rfl := so_some h
      refine ⟨Lhk8, fun L hL => ?_⟩
      have ehk8 := ehk8 L (by omega)
      try simp only [go_sem, E_impl_ValidEstimates_l1, R_impl_ValidEstimates_l1, ir49_k0, ir49_o0, ir49_r0, hk1] at ehk8
      simp only [go_sem, ir49, E_impl_ValidEstimates_l1, R_impl_ValidEstimates_l1, ir49_k0, ir49_o0, ir49_r0, hk1, ehk8]
    · dsimp only at h
      obtain rfl := so_some h
      refine ⟨Lhk8, fun L hL => ?_⟩
      have ehk8 := ehk8 L (by omega)
      try simp only [go_sem, E_impl_ValidEstimates_l1, R_impl_ValidEstimates_l1, ir49_k0, ir49_o0, ir49_r0, hk1] at ehk8
      simp only [go_sem, ir49, E_impl_ValidEstimates_l1, R_impl_ValidEstimates_l1, ir49_k0, ir49_o0, ir49_r0, hk1, ehk8]


def ir52_v : List Nat := [0, 2]
def ir52 : AFn := ⟨1, 2, .seq (.region false [
    ⟨.var 1, 2, none, .mov (.c (.int .i64 (0)))⟩])
 (.seq (.test false [
    ⟨.push, 3, none, .mov (.v 0)⟩,
    ⟨.push, 4, none, .bin false .lss (.s 0) (.c (.int .i64 (0)))⟩] (.s 0)
  (.seq (.region false [
      ⟨.push, 5, none, .mov (.v 0)⟩,
      ⟨.push, 6, none, .un .neg (.s 0)⟩,
      ⟨.var 1, 2, none, .mov (.s 0)⟩])
   (.ret))
  (.skip))
 (.seq (.region false [
    ⟨.push, 7, none, .mov (.v 0)⟩,
    ⟨.var 1, 2, none, .mov (.s 0)⟩])
 (.ret))), [.t 1]⟩
noncomputable def t_impl_abs : List (Nat × Ctr) := []
noncomputable def c_impl_abs : Ctr := mkF t_impl_abs ir52 [.bor]
theorem s_impl_abs : Sound Try.prog 52 c_impl_abs := mkF_sound _ rfl snd_nil (by kernel_rfl : chkFn Try.prog 52 ir52 ir52_v = true)
theorem M_impl_abs : c_impl_abs.modes = [.bor] := rfl
theorem Fl_impl_abs : c_impl_abs.flat = true := rfl
attribute [go_sem] M_impl_abs Fl_impl_abs
theorem Fs_impl_abs {n : Int} {y_ : Int} (h : impl_abs n = some y_) : c_impl_abs.F [.int .i64 n] = ⟨true, .int .i64 y_, [.any]⟩ := by
  refine mkF_E rfl ?_
  dsimp only [impl_abs] at h
  rcases it_some h with ⟨hk1, h⟩ | ⟨hk1, h⟩
  · try simp only [go_sem, n1, n2, n3, n4] at hk1
    all_goals
    obtain rfl := so_some h
    refine ⟨0, fun L hL => ?_⟩
    simp only [go_sem, ir52, hk1]
  · try simp only [go_sem, n1, n2, n3, n4] at hk1
    all_goals
    obtain rfl := so_some h
    refine ⟨0, fun L hL => ?_⟩
    simp only [go_sem, ir52, hk1]


def ir53_v : List Nat := [0, 1, 2, 3, 4, 6]
def ir53 : AFn := ⟨3, 6, .seq (.region false [
    ⟨.var 3, 3, none, .box (.v 0)⟩,
    ⟨.var 4, 4, none, .box (.v 1)⟩,
    ⟨.var 5, 6, none, .mov (.c (.bool false))⟩])
 (.seq (.block 0 (.test false [
     ⟨.push, 8, none, .fldAddr 4 (.v 3)⟩,
     ⟨.push, 9, none, .load false 1 (.s 0)⟩,
     ⟨.push, 10, none, .mov (.s 0)⟩,
     ⟨.push, 11, (some ((.s 0), true)), .fldAddr 4 (.v 4)⟩,
     ⟨.push, 12, (some ((.s 1), true)), .load false 1 (.s 0)⟩,
     ⟨.push, 13, none, .pick (.s 2) (.s 0) (.c (.bool false))⟩,
     ⟨.push, 7, none, .mov (.s 0)⟩] (.s 0)
   (.seq (.region false [
       ⟨.var 5, 6, none, .mov (.c (.bool false))⟩])
    (.ret))
   (.test false [
      ⟨.push, 15, none, .fldAddr 4 (.v 3)⟩,
      ⟨.push, 16, none, .load false 1 (.s 0)⟩,
      ⟨.push, 14, none, .mov (.s 0)⟩] (.s 0)
    (.seq (.region false [
        ⟨.push, 17, none, .fldAddr 3 (.v 4)⟩,
        ⟨.push, 18, none, .load false 1 (.s 0)⟩,
        ⟨.push, 19, none, .mov (.v 2)⟩,
        ⟨.push, 20, none, .bin false .add (.s 1) (.s 0)⟩,
        ⟨.push, 21, none, .fldAddr 3 (.v 3)⟩,
        ⟨.push, 22, none, .load false 1 (.s 0)⟩,
        ⟨.push, 23, none, .bin false .lss (.s 2) (.s 0)⟩,
        ⟨.var 5, 6, none, .mov (.s 0)⟩])
     (.ret))
    (.test false [
       ⟨.push, 25, none, .fldAddr 4 (.v 4)⟩,
       ⟨.push, 26, none, .load false 1 (.s 0)⟩,
       ⟨.push, 24, none, .mov (.s 0)⟩] (.s 0)
     (.seq (.region false [
         ⟨.push, 27, none, .fldAddr 3 (.v 3)⟩,
         ⟨.push, 28, none, .load false 1 (.s 0)⟩,
         ⟨.push, 29, none, .mov (.v 2)⟩,
         ⟨.push, 30, none, .bin false .add (.s 1) (.s 0)⟩,
         ⟨.push, 31, none, .fldAddr 3 (.v 4)⟩,
         ⟨.push, 32, none, .load false 1 (.s 0)⟩,
         ⟨.push, 33, none, .bin false .lss (.s 2) (.s 0)⟩,
         ⟨.var 5, 6, none, .mov (.s 0)⟩])
      (.ret))
     (.skip)))))
 (.seq (.region false [
    ⟨.push, 34, none, .fldAddr 3 (.v 3)⟩,
    ⟨.push, 35, none, .load false 1 (.s 0)⟩,
    ⟨.push, 36, none, .fldAddr 3 (.v 4)⟩,
    ⟨.push, 37, none, .load false 1 (.s 0)⟩,
    ⟨.push, 38, none, .bin false .sub (.s 2) (.s 0)⟩,
    ⟨.push, 39, none, .call 52 [(.s 0)]⟩,
    ⟨.push, 40, none, .mov (.v 2)⟩,
    ⟨.push, 41, none, .bin false .gtr (.s 1) (.s 0)⟩,
    ⟨.var 5, 6, none, .mov (.s 0)⟩])
 (.ret))), [.t 5]⟩
noncomputable def t_impl_contradict : List (Nat × Ctr) := [(52, c_impl_abs)]
theorem lk_impl_contradict_52 : look t_impl_contradict 52 = some c_impl_abs := rfl
noncomputable def c_impl_contradict : Ctr := mkF t_impl_contradict ir53 [.bor, .bor, .bor]
theorem s_impl_contradict : Sound Try.prog 53 c_impl_contradict := mkF_sound _ rfl (snd_cons s_impl_abs snd_nil) (by kernel_rfl : chkFn Try.prog 53 ir53 ir53_v = true)
theorem M_impl_contradict : c_impl_contradict.modes = [.bor, .bor, .bor] := rfl
theorem Fl_impl_contradict : c_impl_contradict.flat = true := rfl
attribute [go_sem] M_impl_contradict Fl_impl_contradict
attribute [go_sem] lk_impl_contradict_52
theorem Fs_impl_contradict {a : Estimate} {b : Estimate} {by_ : Int} {y_ : Bool} (h : impl_contradict a b by_ = some y_) : c_impl_contradict.F [Estimate_av a, Estimate_av b, .int .i64 by_] = ⟨true, .bool y_, [.any, .any, .any]⟩ := by
  refine mkF_E rfl ?_
  dsimp only [impl_contradict] at h
  rcases it_some h with ⟨hk1, h⟩ | ⟨hk1, h⟩
  · try simp only [go_sem, n1, n2, n3, n4] at hk1
    all_goals
    obtain rfl := so_some h
    refine ⟨0, fun L hL => ?_⟩
    simp only [go_sem, ir53, hk1]
  · try simp only [go_sem, n1, n2, n3, n4] at hk1
    all_goals
    rcases it_some h with ⟨hk2, h⟩ | ⟨hk2, h⟩
    · have hk2d0 := and_fr hk1 hk2
      try simp only [go_sem, n1, n2, n3, n4, hk1] at hk2
      all_goals
      obtain rfl := so_some h
      refine ⟨0, fun L hL => ?_⟩
      simp only [go_sem, ir53, hk1, hk2, hk2d0]
    · try simp only [go_sem, n1, n2, n3, n4, hk1] at hk2
      all_goals
      rcases it_some h with ⟨hk3, h⟩ | ⟨hk3, h⟩
      · have hk3d0 := and_fl hk1 hk3
        try simp only [go_sem, n1, n2, n3, n4, hk1, hk2] at hk3
        all_goals
        obtain rfl := so_some h
        refine ⟨0, fun L hL => ?_⟩
        simp only [go_sem, ir53, hk1, hk2, hk3, hk3d0]
      · try simp only [go_sem, n1, n2, n3, n4, hk1, hk2] at hk3
        all_goals
        obtain ⟨y_4, hk4, h⟩ := bd_some h
        have fhk4 := Fs_impl_abs hk4
        try simp only [go_sem, hk1, hk2, hk3] at fhk4
        obtain rfl := so_some h
        refine ⟨0, fun L hL => ?_⟩
        simp only [go_sem, ir53, hk1, hk2, hk3, fhk4]


def ir51_v : List Nat := [0, 1, 2, 3, 4, 7, 8, 9]
def ir51 : AFn := ⟨5, 8, .seq (.region false [
    ⟨.var 5, 7, none, .mov (.c (.bool false))⟩])
 (.seq (.anyo 8 [
    ⟨.slot 0, 10, none, .safe [8, 9] (.load false 1 (.v 2))⟩,
    ⟨.slot 1, 11, none, .flat (.mov (.v 0))⟩,
    ⟨.slot 2, 12, none, .safe [8, 9] (.ixAddr 5 (.s 0) (.s 1))⟩,
    ⟨.slot 3, 13, none, .safe [8, 9] (.load true 5 (.s 2))⟩,
    ⟨.slot 4, 14, none, .safe [8, 9] (.load false 1 (.v 2))⟩,
    ⟨.slot 5, 15, none, .flat (.mov (.v 1))⟩,
    ⟨.slot 6, 16, none, .safe [8, 9] (.ixAddr 5 (.s 4) (.s 5))⟩,
    ⟨.slot 7, 17, none, .safe [8, 9] (.load true 5 (.s 6))⟩,
    ⟨.var 6, 8, none, .alloc (.agg [.int .i64 (0), .str [], .str [], .int .i64 (0), .bool false])⟩,
    ⟨.var 7, 9, none, .alloc (.agg [.int .i64 (0), .str [], .str [], .int .i64 (0), .bool false])⟩,
    ⟨.no, 0, none, .store 5 (.v 6) (.s 3)⟩,
    ⟨.no, 0, none, .store 5 (.v 7) (.s 7)⟩] [[0, 1, 2, 3, 5, 4, 6, 7, 8, 9, 10, 11], [0, 1, 2, 3, 5, 4, 6, 7, 9, 8, 10, 11], [0, 1, 2, 3, 5, 4, 6, 8, 9, 7, 10, 11], [0, 1, 2, 3, 5, 4, 6, 8, 9, 10, 7, 11], [0, 1, 2, 3, 5, 4, 6, 9, 8, 7, 10, 11], [0, 1, 2, 3, 5, 4, 6, 9, 8, 10, 7, 11], [0, 1, 2, 3, 5, 4, 8, 9, 6, 7, 10, 11], [0, 1, 2, 3, 5, 4, 8, 9, 6, 10, 7, 11], [0, 1, 2, 3, 5, 4, 8, 9, 10, 6, 7, 11], [0, 1, 2, 3, 5, 4, 9, 8, 6, 7, 10, 11], [0, 1, 2, 3, 5, 4, 9, 8, 6, 10, 7, 11], [0, 1, 2, 3, 5, 4, 9, 8, 10, 6, 7, 11], [0, 1, 2, 3, 5, 8, 9, 4, 6, 7, 10, 11], [0, 1, 2, 3, 5, 8, 9, 4, 6, 10, 7, 11], [0, 1, 2, 3, 5, 8, 9, 4, 10, 6, 7, 11], [0, 1, 2, 3, 5, 8, 9, 10, 4, 6, 7, 11], [0, 1, 2, 3, 5, 9, 8, 4, 6, 7, 10, 11], [0, 1, 2, 3, 5, 9, 8, 4, 6, 10, 7, 11], [0, 1, 2, 3, 5, 9, 8, 4, 10, 6, 7, 11], [0, 1, 2, 3, 5, 9, 8, 10, 4, 6, 7, 11]] .skip)
 (.seq (.anyo 21 [
    ⟨.slot 0, 18, none, .fldAddr 1 (.v 6)⟩,
    ⟨.slot 1, 19, none, .load false 1 (.s 0)⟩,
    ⟨.slot 2, 20, none, .fldAddr 1 (.v 7)⟩,
    ⟨.slot 3, 21, none, .load false 1 (.s 2)⟩,
    ⟨.slot 4, 22, none, .bin false .eql (.s 1) (.s 3)⟩,
    ⟨.slot 5, 23, none, .mov (.s 4)⟩,
    ⟨.slot 6, 24, (some ((.s 5), true)), .fldAddr 0 (.v 6)⟩,
    ⟨.slot 7, 25, (some ((.s 5), true)), .load false 1 (.s 6)⟩,
    ⟨.slot 8, 26, (some ((.s 5), true)), .fldAddr 0 (.v 7)⟩,
    ⟨.slot 9, 27, (some ((.s 5), true)), .load false 1 (.s 8)⟩,
    ⟨.slot 10, 28, (some ((.s 5), true)), .bin false .sub (.s 7) (.s 9)⟩,
    ⟨.slot 11, 29, (some ((.s 5), true)), .call 52 [(.s 10)]⟩,
    ⟨.slot 12, 30, (some ((.s 5), true)), .load false 1 (.v 3)⟩,
    ⟨.slot 13, 31, (some ((.s 5), true)), .bin false .leq (.s 11) (.s 12)⟩,
    ⟨.slot 14, 32, none, .pick (.s 5) (.s 13) (.c (.bool false))⟩,
    ⟨.slot 15, 33, none, .mov (.s 14)⟩,
    ⟨.slot 16, 34, (some ((.s 15), true)), .load true 5 (.v 6)⟩,
    ⟨.slot 17, 35, (some ((.s 15), true)), .load true 5 (.v 7)⟩,
    ⟨.slot 18, 36, (some ((.s 15), true)), .load false 1 (.v 4)⟩,
    ⟨.slot 19, 37, (some ((.s 15), true)), .call 53 [(.s 16), (.s 17), (.s 18)]⟩,
    ⟨.slot 20, 38, none, .pick (.s 15) (.s 19) (.c (.bool false))⟩,
    ⟨.var 5, 7, none, .mov (.s 20)⟩] [] .skip)
 (.ret))), [.t 5]⟩
noncomputable def t_impl_Contradictions_c1 : List (Nat × Ctr) := [(52, c_impl_abs), (53, c_impl_contradict)]
theorem lk_impl_Contradictions_c1_52 : look t_impl_Contradictions_c1 52 = some c_impl_abs := rfl
theorem lk_impl_Contradictions_c1_53 : look t_impl_Contradictions_c1 53 = some c_impl_contradict := rfl
noncomputable def c_impl_Contradictions_c1 : Ctr := mkF t_impl_Contradictions_c1 ir51 [.bor, .bor, .bor, .bor, .bor]
theorem s_impl_Contradictions_c1 : Sound Try.prog 51 c_impl_Contradictions_c1 := mkF_sound _ rfl (snd_cons s_impl_abs (snd_cons s_impl_contradict snd_nil)) (by kernel_rfl : chkFn Try.prog 51 ir51 ir51_v = true)
theorem M_impl_Contradictions_c1 : c_impl_Contradictions_c1.modes = [.bor, .bor, .bor, .bor, .bor] := rfl
theorem Fl_impl_Contradictions_c1 : c_impl_Contradictions_c1.flat = true := rfl
attribute [go_sem] M_impl_Contradictions_c1 Fl_impl_Contradictions_c1
attribute [go_sem] lk_impl_Contradictions_c1_52 lk_impl_Contradictions_c1_53
theorem Fs_impl_Contradictions_c1 {i : Int} {k : Int} {t2 : List Estimate} {t3 : Int} {t4 : Int} {y_ : Bool} (h : impl_Contradictions_c1 i k t2 t3 t4 = some y_) : c_impl_Contradictions_c1.F [.int .i64 i, .int .i64 k, .ptr 1 [.sl 5 (List.map Estimate_av t2)] 0 0, .ptr 1 [.int .i64 t3] 0 0, .ptr 1 [.int .i64 t4] 0 0] = ⟨true, .bool y_, [.any, .any, .any, .any, .any]⟩ := by
  refine mkF_E rfl ?_
  dsimp only [impl_Contradictions_c1] at h
  obtain ⟨hk1, h⟩ := ck_some h
  have lhk1 := ix_lt hk1
  have xhk1 := getD_mapD Estimate_av t2 lhk1
  try simp only [go_sem] at lhk1
  try simp only [go_sem] at xhk1
  try simp only [go_sem, n1, n2, n3, n4] at hk1
  all_goals
  obtain ⟨hk2, h⟩ := ck_some h
  have lhk2 := ix_lt hk2
  have xhk2 := getD_mapD Estimate_av t2 lhk2
  try simp only [go_sem] at lhk2
  try simp only [go_sem] at xhk2
  try simp only [go_sem, n1, n2, n3, n4, hk1] at hk2
  all_goals
  obtain ⟨hk3, h⟩ := ck_some h
  rcases or_split hk3 with ⟨ghk3, hk3⟩ | ghk3
  · try simp only [go_sem, n1, n2, n3, n4, hk1, hk2] at ghk3
    all_goals
    obtain ⟨y_3, hhk3⟩ := Option.isSome_iff_exists.1 hk3
    have fhk3 := Fs_impl_abs hhk3
    try simp only [go_sem, n1, n2, n3, n4, hk1, hk2, ghk3] at hhk3
    all_goals
    try simp only [go_sem, hk1, hk2, ghk3] at fhk3
    obtain ⟨hk4, h⟩ := ck_some h
    rcases or_split hk4 with ⟨ghk4, hk4⟩ | ghk4
    · try simp only [go_sem, n1, n2, n3, n4, hk1, hk2, ghk3, hhk3] at ghk4
      all_goals
      obtain ⟨y_4, hhk4⟩ := Option.isSome_iff_exists.1 hk4
      have fhk4 := Fs_impl_contradict hhk4
      try simp only [go_sem, n1, n2, n3, n4, hk1, hk2, ghk3, hhk3, ghk4] at hhk4
      all_goals
      try simp only [go_sem, hk1, hk2, ghk3, hhk3, ghk4] at fhk4
      obtain rfl := so_some h
      refine ⟨0, fun L hL => ?_⟩
      simp only [go_sem, ir51, hk1, lhk1, xhk1, hk2, lhk2, xhk2, ghk3, hhk3, fhk3, ghk4, hhk4, fhk4]
    · rcases and_f ghk4 with ghk4a | ⟨ghk4a, ghk4b⟩
      · try simp only [go_sem, n1, n2, n3, n4, hk1, hk2, ghk3, hhk3] at ghk4a
        all_goals
        (simp_all)
      · try simp only [go_sem, n1, n2, n3, n4, hk1, hk2, ghk3, hhk3] at ghk4a
        all_goals
        try simp only [go_sem, n1, n2, n3, n4, hk1, hk2, ghk3, hhk3, ghk4a] at ghk4b
        all_goals
        obtain rfl := so_some h
        refine ⟨0, fun L hL => ?_⟩
        simp only [go_sem, ir51, hk1, lhk1, xhk1, hk2, lhk2, xhk2, ghk3, hhk3, fhk3, ghk4a, ghk4b]
  · try simp only [go_sem, n1, n2, n3, n4, hk1, hk2] at ghk3
    all_goals
    obtain ⟨hk4, h⟩ := ck_some h
    obtain rfl := so_some h
    refine ⟨0, fun L hL => ?_⟩
    simp only [go_sem, ir51, hk1, lhk1, xhk1, hk2, lhk2, xhk2, ghk3]


def ir50_b1 : IR := .seq (.test false [
    ⟨.push, 15, none, .mov (.v 5)⟩,
    ⟨.push, 16, none, .mov (.v 0)⟩,
    ⟨.push, 17, none, .bin false .lss (.s 1) (.s 0)⟩] (.s 0)
  (.skip)
  (.exit 2))
 (.seq (.block 3 (.test false [
     ⟨.push, 20, none, .mov (.v 1)⟩,
     ⟨.push, 21, none, .mov (.v 4)⟩,
     ⟨.push, 22, none, .mov (.v 5)⟩,
     ⟨.push, 23, none, .callv (.s 2) [(.s 1), (.s 0)]⟩] (.s 0)
   (.region false [
      ⟨.push, 24, none, .mov (.v 3)⟩,
      ⟨.push, 25, none, .mov (.v 4)⟩,
      ⟨.push, 26, none, .mov (.v 5)⟩,
      ⟨.push, 27, none, .mkSl 1 (.int .i64 (0)) 2 [(0, (.s 1)), (1, (.s 0))]⟩,
      ⟨.push, 28, none, .mkSl 1 (.sl 1 []) 1 [(0, (.s 0))]⟩,
      ⟨.push, 29, none, .app 1 24 (.sl 1 []) (.s 4) (.s 0)⟩,
      ⟨.var 3, 5, none, .mov (.s 0)⟩])
   (.skip)))
 (.region false [
   ⟨.push, 18, none, .mov (.v 5)⟩,
   ⟨.push, 19, none, .bin false .add (.s 0) (.c (.int .i64 (1)))⟩,
   ⟨.var 5, 7, none, .mov (.s 0)⟩]))
def ir50_k1 : List Bool := [true, true, false, true, true, true, true, true, false]
def ir50_o1 : List Bool := [true, true, false, true, false, false, true, true, false]
def ir50_r1 : List Bool := [false, false, true, false, false, false, false, false, false]
def ir50_b0 : IR := .seq (.region false [
    ⟨.var 8, 11, none, .bin false .lss (.v 7) (.v 6)⟩])
 (.seq (.cond (.v 8) (.skip)
  (.exit 0))
 (.seq (.block 1 (.seq (.region false [
      ⟨.push, 12, none, .mov (.v 7)⟩,
      ⟨.var 4, 6, none, .mov (.s 0)⟩])
   (.seq (.region false [
      ⟨.push, 13, none, .mov (.v 4)⟩,
      ⟨.push, 14, none, .bin false .add (.s 0) (.c (.int .i64 (1)))⟩,
      ⟨.var 5, 7, none, .mov (.s 0)⟩])
   (.block 2 (.loop ir50_k1 ir50_o1 ir50_r1 ir50_b1)))))
 (.region false [
   ⟨.push, 30, none, .bin false .add (.v 7) (.c (.int .i64 (1)))⟩,
   ⟨.var 7, 10, none, .mov (.s 0)⟩])))
def ir50_k0 : List Bool := [true, true, false, true, false, false, true, true, false]
def ir50_o0 : List Bool := [false, false, false, true, false, false, false, false, false]
def ir50_r0 : List Bool := [false, false, true, false, false, false, false, false, false]
def ir50_v : List Nat := [0, 1, 4, 5, 6, 7, 9, 10, 11]
def ir50 : AFn := ⟨2, 9, .seq (.region false [
    ⟨.var 2, 4, none, .newnil 1⟩])
 (.seq (.region false [
    ⟨.push, 8, none, .mkSl 1 (.sl 1 []) 0 []⟩,
    ⟨.var 3, 5, none, .mov (.s 0)⟩])
 (.seq (.seq (.region false [
     ⟨.var 6, 9, none, .mov (.v 0)⟩,
     ⟨.var 7, 10, none, .mov (.c (.int .i64 (0)))⟩])
  (.block 0 (.loop ir50_k0 ir50_o0 ir50_r0 ir50_b0)))
 (.seq (.region false [
    ⟨.push, 31, none, .mov (.v 3)⟩,
    ⟨.var 2, 4, none, .mov (.s 0)⟩])
 (.ret)))), [.t 2]⟩
noncomputable def t_impl_pairsWhere__impl_Contradictions_c1 : List (Nat × Ctr) := [(51, c_impl_Contradictions_c1)]
theorem lk_impl_pairsWhere__impl_Contradictions_c1_51 : look t_impl_pairsWhere__impl_Contradictions_c1 51 = some c_impl_Contradictions_c1 := rfl
noncomputable def c_impl_pairsWhere__impl_Contradictions_c1 : Ctr := mkN t_impl_pairsWhere__impl_Contradictions_c1 ir50 [.bor, .bor]
theorem s_impl_pairsWhere__impl_Contradictions_c1 : Sound Try.prog 50 c_impl_pairsWhere__impl_Contradictions_c1 := mkN_sound _ (snd_cons s_impl_Contradictions_c1 snd_nil) (by kernel_rfl : chkFn Try.prog 50 ir50 ir50_v = true)
theorem M_impl_pairsWhere__impl_Contradictions_c1 : c_impl_pairsWhere__impl_Contradictions_c1.modes = [.bor, .bor] := rfl
theorem Fl_impl_pairsWhere__impl_Contradictions_c1 : c_impl_pairsWhere__impl_Contradictions_c1.flat = false := rfl
attribute [go_sem] M_impl_pairsWhere__impl_Contradictions_c1 Fl_impl_pairsWhere__impl_Contradictions_c1
attribute [go_sem] lk_impl_pairsWhere__impl_Contradictions_c1_51
def E_impl_pairsWhere__impl_Contradictions_c1_l2 (n : Int) (c : List Estimate) (c2 : Int) (c3 : Int) (i : Int) (t9 : Int) (t10 : Int) : ((List (List Int)) × Int) → St
  | (out, k) => ⟨[.int .i64 n, .fn (.func 51) [] [.ptr 1 [.sl 5 (List.map Estimate_av c)] 0 0, .ptr 1 [.int .i64 c2] 0 0, .ptr 1 [.int .i64 c3] 0 0], .any, .own 3200000, .int .i64 i, .int .i64 k, .int .i64 t9, .int .i64 t10, .any], [], [(3200000, ⟨1, List.map (slE 1 (AV.int .i64)) out⟩)], true⟩
def R_impl_pairsWhere__impl_Contradictions_c1_l2 (n : Int) (c : List Estimate) (c2 : Int) (c3 : Int) (i : Int) (t9 : Int) (t10 : Int) (y : (List (List Int))) : Res := (.exit 2, ⟨[.int .i64 n, .fn (.func 51) [] [.ptr 1 [.sl 5 (List.map Estimate_av c)] 0 0, .ptr 1 [.int .i64 c2] 0 0, .ptr 1 [.int .i64 c3] 0 0], .any, .own 3200000, .any, .any, .int .i64 t9, .int .i64 t10, .any], [], [(3200000, ⟨1, List.map (slE 1 (AV.int .i64)) y⟩)], true⟩)
theorem impl_pairsWhere__impl_Contradictions_c1_l2_ex {n : Int} {c : List Estimate} {c2 : Int} {c3 : Int} {i : Int} {t9 : Int} {t10 : Int} {sgm_ : (List (List Int)) × Int} {rho_ : (List (List Int))} (h : whileE (impl_pairsWhere__impl_Contradictions_c1_l2 n c c2 c3 i t9 t10) sgm_ = some rho_) : ∃ L0, ∀ L, L0 ≤ L → iter (exec (look t_impl_pairsWhere__impl_Contradictions_c1) L ir50_b1) ir50_k1 ir50_o1 ir50_r1 L (E_impl_pairsWhere__impl_Contradictions_c1_l2 n c c2 c3 i t9 t10 sgm_) = R_impl_pairsWhere__impl_Contradictions_c1_l2 n c c2 c3 i t9 t10 rho_ := by
  refine loop_ex (E := E_impl_pairsWhere__impl_Contradictions_c1_l2 n c c2 c3 i t9 t10) (R := R_impl_pairsWhere__impl_Contradictions_c1_l2 n c c2 c3 i t9 t10) (fun y => by first | (intro c; cases c) | (rcases y with y | y <;> (intro c; cases c)) | (rcases y with y | y | y <;> (intro c; cases c))) ?_ h
  clear h
  rintro ⟨out, k⟩ o_ h
  dsimp only [impl_pairsWhere__impl_Contradictions_c1_l2] at h
  rcases it_some h with ⟨hk2, h⟩ | ⟨hk2, h⟩
  · try simp only [go_sem, n1, n2, n3, n4] at hk2
    all_goals
    obtain ⟨y_3, hk3, h⟩ := bd_some h
    have fhk3 := Fs_impl_Contradictions_c1 hk3
    try simp only [go_sem, hk2] at fhk3
    rcases it_some h with ⟨hk4, h⟩ | ⟨hk4, h⟩
    · try simp only [go_sem, n1, n2, n3, n4, hk2] at hk4
      all_goals
      obtain ⟨hk5, h⟩ := ck_some h
      try simp only [go_sem, n1, n2, n3, n4, hk2, hk4] at hk5
      all_goals
      obtain rfl := so_some h
      refine ⟨0, fun L hL => ?_⟩
      simp only [go_sem, ir50, E_impl_pairsWhere__impl_Contradictions_c1_l2, R_impl_pairsWhere__impl_Contradictions_c1_l2, ir50_b1, ir50_k1, ir50_o1, ir50_r1, hk2, fhk3, hk4, hk5]
    · try simp only [go_sem, n1, n2, n3, n4, hk2] at hk4
      all_goals
      obtain rfl := so_some h
      refine ⟨0, fun L hL => ?_⟩
      simp only [go_sem, ir50, E_impl_pairsWhere__impl_Contradictions_c1_l2, R_impl_pairsWhere__impl_Contradictions_c1_l2, ir50_b1, ir50_k1, ir50_o1, ir50_r1, hk2, fhk3, hk4]
  · try simp only [go_sem, n1, n2, n3, n4] at hk2
    all_goals
    obtain rfl := so_some h
    refine ⟨0, fun L hL => ?_⟩
    simp only [go_sem, ir50, E_impl_pairsWhere__impl_Contradictions_c1_l2, R_impl_pairsWhere__impl_Contradictions_c1_l2, ir50_b1, ir50_k1, ir50_o1, ir50_r1, hk2]

def E_impl_pairsWhere__impl_Contradictions_c1_l1 (n : Int) (c : List Estimate) (c2 : Int) (c3 : Int) (t9 : Int) : ((List (List Int)) × Int) → St
  | (out, t10) => ⟨[.int .i64 n, .fn (.func 51) [] [.ptr 1 [.sl 5 (List.map Estimate_av c)] 0 0, .ptr 1 [.int .i64 c2] 0 0, .ptr 1 [.int .i64 c3] 0 0], .any, .own 3200000, .any, .any, .int .i64 t9, .int .i64 t10, .any], [], [(3200000, ⟨1, List.map (slE 1 (AV.int .i64)) out⟩)], true⟩
def R_impl_pairsWhere__impl_Contradictions_c1_l1 (n : Int) (c : List Estimate) (c2 : Int) (c3 : Int) (t9 : Int) (y : (List (List Int))) : Res := (.exit 0, ⟨[.any, .any, .any, .own 3200000, .any, .any, .any, .any, .any], [], [(3200000, ⟨1, List.map (slE 1 (AV.int .i64)) y⟩)], true⟩)
theorem impl_pairsWhere__impl_Contradictions_c1_l1_ex {n : Int} {c : List Estimate} {c2 : Int} {c3 : Int} {t9 : Int} {sgm_ : (List (List Int)) × Int} {rho_ : (List (List Int))} (h : whileE (impl_pairsWhere__impl_Contradictions_c1_l1 n c c2 c3 t9) sgm_ = some rho_) : ∃ L0, ∀ L, L0 ≤ L → iter (exec (look t_impl_pairsWhere__impl_Contradictions_c1) L ir50_b0) ir50_k0 ir50_o0 ir50_r0 L (E_impl_pairsWhere__impl_Contradictions_c1_l1 n c c2 c3 t9 sgm_) = R_impl_pairsWhere__impl_Contradictions_c1_l1 n c c2 c3 t9 rho_ := by
  refine loop_ex (E := E_impl_pairsWhere__impl_Contradictions_c1_l1 n c c2 c3 t9) (R := R_impl_pairsWhere__impl_Contradictions_c1_l1 n c c2 c3 t9) (fun y => by first | (intro c; cases c) | (rcases y with y | y <;> (intro c; cases c)) | (rcases y with y | y | y <;> (intro c; cases c))) ?_ h
  clear h
  rintro ⟨out, t10⟩ o_ h
  dsimp only [impl_pairsWhere__impl_Contradictions_c1_l1] at h
  rcases it_some h with ⟨hk1, h⟩ | ⟨hk1, h⟩
  · try simp only [go_sem, n1, n2, n3, n4] at hk1
    all_goals
    obtain ⟨y_6, hk6, h⟩ := bd_some h
    obtain ⟨Lhk6, ehk6⟩ := impl_pairsWhere__impl_Contradictions_c1_l2_ex hk6
    obtain rfl := so_some h
    refine ⟨Lhk6, fun L hL => ?_⟩
    have ehk6 := ehk6 L (by omega)
    try simp only [go_sem, E_impl_pairsWhere__impl_Contradictions_c1_l1, R_impl_pairsWhere__impl_Contradictions_c1_l1, ir50_b0, ir50_k0, ir50_o0, ir50_r0, E_impl_pairsWhere__impl_Contradictions_c1_l2, R_impl_pairsWhere__impl_Contradictions_c1_l2, ir50_k1, ir50_o1, ir50_r1, hk1] at ehk6
    simp only [go_sem, ir50, E_impl_pairsWhere__impl_Contradictions_c1_l1, R_impl_pairsWhere__impl_Contradictions_c1_l1, ir50_b0, ir50_k0, ir50_o0, ir50_r0, E_impl_pairsWhere__impl_Contradictions_c1_l2, R_impl_pairsWhere__impl_Contradictions_c1_l2, ir50_k1, ir50_o1, ir50_r1, hk1, ehk6]
  · try simp only [go_sem, n1, n2, n3, n4] at hk1
    all_goals
    obtain rfl := so_some h
    refine ⟨0, fun L hL => ?_⟩
    simp only [go_sem, ir50, E_impl_pairsWhere__impl_Contradictions_c1_l1, R_impl_pairsWhere__impl_Contradictions_c1_l1, ir50_b0, ir50_k0, ir50_o0, ir50_r0, E_impl_pairsWhere__impl_Contradictions_c1_l2, R_impl_pairsWhere__impl_Contradictions_c1_l2, ir50_k1, ir50_o1, ir50_r1, hk1]

theorem Fs_impl_pairsWhere__impl_Contradictions_c1 {n : Int} {wanted_c0 : List Estimate} {wanted_c1 : Int} {wanted_c2 : Int} {y_ : (List (List Int))} (h : impl_pairsWhere__impl_Contradictions_c1 n wanted_c0 wanted_c1 wanted_c2 = some y_) : c_impl_pairsWhere__impl_Contradictions_c1.F [.int .i64 n, .fn (.func 51) [] [.ptr 1 [.sl 5 (List.map Estimate_av wanted_c0)] 0 0, .ptr 1 [.int .i64 wanted_c1] 0 0, .ptr 1 [.int .i64 wanted_c2] 0 0]] = ⟨true, .fresh 1 (List.map (slE 1 (AV.int .i64)) y_), [.any, .any]⟩ := by
  refine mkN_E ?_
  dsimp only [impl_pairsWhere__impl_Contradictions_c1] at h
  obtain ⟨y_7, hk7, h⟩ := bd_some h
  obtain ⟨Lhk7, ehk7⟩ := impl_pairsWhere__impl_Contradictions_c1_l1_ex hk7
  obtain rfl := so_some h
  refine ⟨Lhk7, fun L hL => ?_⟩
  have ehk7 := ehk7 L (by omega)
  try simp only [go_sem, E_impl_pairsWhere__impl_Contradictions_c1_l2, R_impl_pairsWhere__impl_Contradictions_c1_l2, ir50_k1, ir50_o1, ir50_r1, E_impl_pairsWhere__impl_Contradictions_c1_l1, R_impl_pairsWhere__impl_Contradictions_c1_l1, ir50_k0, ir50_o0, ir50_r0] at ehk7
  simp only [go_sem, ir50, E_impl_pairsWhere__impl_Contradictions_c1_l2, R_impl_pairsWhere__impl_Contradictions_c1_l2, ir50_k1, ir50_o1, ir50_r1, E_impl_pairsWhere__impl_Contradictions_c1_l1, R_impl_pairsWhere__impl_Contradictions_c1_l1, ir50_k0, ir50_o0, ir50_r0, ehk7]


def ir20_v : List Nat := [0, 1, 2, 3, 4, 5, 6, 7]
def ir20 : AFn := ⟨3, 8, .seq (.region false [
    ⟨.var 3, 3, none, .box (.v 0)⟩,
    ⟨.var 4, 4, none, .box (.v 1)⟩,
    ⟨.var 5, 5, none, .box (.v 2)⟩,
    ⟨.var 6, 6, none, .newnil 1⟩,
    ⟨.var 7, 7, none, .mov (.c (.int .i64 (0)))⟩])
 (.seq (.block 0 (.test false [
     ⟨.push, 9, none, .load false 1 (.v 3)⟩,
     ⟨.push, 10, none, .call 49 [(.s 0)]⟩,
     ⟨.push, 11, none, .un .not (.s 0)⟩,
     ⟨.push, 8, none, .mov (.s 0)⟩] (.s 0)
   (.seq (.region false [
       ⟨.var 6, 6, none, .newnil 1⟩,
       ⟨.var 7, 7, none, .mov (.c (.int .i64 (1)))⟩])
    (.ret))
   (.test false [
      ⟨.push, 13, none, .load false 1 (.v 4)⟩,
      ⟨.push, 14, none, .call 40 [(.s 0), (.c (.int .i64 (0))), (.c (.int .i64 (100000)))]⟩,
      ⟨.push, 15, none, .un .not (.s 0)⟩,
      ⟨.push, 16, none, .mov (.s 0)⟩,
      ⟨.push, 17, (some ((.s 0), false)), .load false 1 (.v 5)⟩,
      ⟨.push, 18, (some ((.s 1), false)), .call 40 [(.s 0), (.c (.int .i64 (1))), (.c (.int .i64 (20000)))]⟩,
      ⟨.push, 19, (some ((.s 2), false)), .un .not (.s 0)⟩,
      ⟨.push, 20, none, .pick (.s 3) (.c (.bool true)) (.s 0)⟩,
      ⟨.push, 12, none, .mov (.s 0)⟩] (.s 0)
    (.seq (.region false [
        ⟨.var 6, 6, none, .newnil 1⟩,
        ⟨.var 7, 7, none, .mov (.c (.int .i64 (2)))⟩])
     (.ret))
    (.skip))))
 (.seq (.region false [
    ⟨.push, 21, none, .load false 1 (.v 3)⟩,
    ⟨.push, 22, none, .len false (.s 0)⟩,
    ⟨.push, 23, none, .mkFn (.func 51) [] [(.v 3), (.v 4), (.v 5)]⟩,
    ⟨.push, 24, none, .call 50 [(.s 1), (.s 0)]⟩,
    ⟨.var 6, 6, none, .mov (.s 0)⟩,
    ⟨.var 7, 7, none, .mov (.c (.int .i64 (0)))⟩])
 (.ret))), [.t 6, .t 7]⟩
noncomputable def t_impl_Contradictions : List (Nat × Ctr) := [(49, c_impl_ValidEstimates), (40, c_impl_in), (50, c_impl_pairsWhere__impl_Contradictions_c1)]
theorem lk_impl_Contradictions_49 : look t_impl_Contradictions 49 = some c_impl_ValidEstimates := rfl
theorem lk_impl_Contradictions_40 : look t_impl_Contradictions 40 = some c_impl_in := rfl
theorem lk_impl_Contradictions_50 : look t_impl_Contradictions 50 = some c_impl_pairsWhere__impl_Contradictions_c1 := rfl
noncomputable def c_impl_Contradictions : Ctr := mkN t_impl_Contradictions ir20 [.bor, .bor, .bor]
theorem s_impl_Contradictions : Sound Try.prog 20 c_impl_Contradictions := mkN_sound _ (snd_cons s_impl_ValidEstimates (snd_cons s_impl_in (snd_cons s_impl_pairsWhere__impl_Contradictions_c1 snd_nil))) (by kernel_rfl : chkFn Try.prog 20 ir20 ir20_v = true)
theorem M_impl_Contradictions : c_impl_Contradictions.modes = [.bor, .bor, .bor] := rfl
theorem Fl_impl_Contradictions : c_impl_Contradictions.flat = false := rfl
attribute [go_sem] M_impl_Contradictions Fl_impl_Contradictions
attribute [go_sem] lk_impl_Contradictions_49 lk_impl_Contradictions_40 lk_impl_Contradictions_50
theorem Fs_impl_Contradictions {list : List Estimate} {apart : Int} {by_ : Int} {y_ : (List (List Int)) × Int} (h : impl_Contradictions list apart by_ = some y_) : c_impl_Contradictions.F [.sl 5 (List.map Estimate_av list), .int .i64 apart, .int .i64 by_] = ⟨true, .tup [.fresh 1 (List.map (slE 1 (AV.int .i64)) y_.1), .int .i64 y_.2], [.any, .any, .any]⟩ := by
  refine mkN_E ?_
  dsimp only [impl_Contradictions] at h
  obtain ⟨y_1, hk1, h⟩ := bd_some h
  have fhk1 := Fs_impl_ValidEstimates hk1
  try simp only [go_sem] at fhk1
  rcases it_some h with ⟨hk2, h⟩ | ⟨hk2, h⟩
  · try simp only [go_sem, n1, n2, n3, n4] at hk2
    all_goals
    obtain rfl := so_some h
    refine ⟨0, fun L hL => ?_⟩
    simp only [go_sem, ir20, fhk1, hk2]
  · try simp only [go_sem, n1, n2, n3, n4] at hk2
    all_goals
    obtain ⟨y_3, hk3, h⟩ := bd_some h
    have fhk3 := Fs_impl_in hk3
    try simp only [go_sem, hk2] at fhk3
    obtain ⟨hk4, h⟩ := ck_some h
    rcases or_split hk4 with ⟨ghk4, hk4⟩ | ghk4
    · try simp only [go_sem, n1, n2, n3, n4, hk2] at ghk4
      all_goals
      obtain ⟨y_4, hhk4⟩ := Option.isSome_iff_exists.1 hk4
      have fhk4 := Fs_impl_in hhk4
      try simp only [go_sem, n1, n2, n3, n4, hk2, ghk4] at hhk4
      all_goals
      try simp only [go_sem, hk2, ghk4] at fhk4
      rcases it_some h with ⟨hk5, h⟩ | ⟨hk5, h⟩
      · try simp only [go_sem, n1, n2, n3, n4, hk2, ghk4, hhk4] at hk5
        all_goals
        obtain rfl := so_some h
        refine ⟨0, fun L hL => ?_⟩
        simp only [go_sem, ir20, fhk1, hk2, fhk3, ghk4, hhk4, fhk4, hk5]
      · try simp only [go_sem, n1, n2, n3, n4, hk2, ghk4, hhk4] at hk5
        all_goals
        obtain ⟨y_6, hk6, h⟩ := bd_some h
        have fhk6 := Fs_impl_pairsWhere__impl_Contradictions_c1 hk6
        try simp only [go_sem, hk2, ghk4, hhk4, hk5] at fhk6
        obtain rfl := so_some h
        refine ⟨0, fun L hL => ?_⟩
        simp only [go_sem, ir20, fhk1, hk2, fhk3, ghk4, hhk4, fhk4, hk5, fhk6]
    · have ghk4n := no_f ghk4
      have ghk4nn := no_t ghk4n
      try simp only [go_sem, n1, n2, n3, n4, hk2] at ghk4nn
      all_goals
      rcases it_some h with ⟨hk5, h⟩ | ⟨hk5, h⟩
      · try simp only [go_sem, n1, n2, n3, n4, hk2, ghk4nn] at hk5
        all_goals
        obtain rfl := so_some h
        refine ⟨0, fun L hL => ?_⟩
        simp only [go_sem, ir20, fhk1, hk2, fhk3, ghk4nn, hk5]
      · try simp only [go_sem, n1, n2, n3, n4, hk2, ghk4nn] at hk5
        all_goals
        (simp_all)


def ir41_v : List Nat := [0, 1, 2, 6]
def ir41 : AFn := ⟨3, 4, .seq (.region false [
    ⟨.var 3, 6, none, .mov (.c (.bool false))⟩])
 (.seq (.region false [
    ⟨.push, 7, none, .mov (.v 0)⟩,
    ⟨.push, 8, none, .mov (.v 1)⟩,
    ⟨.push, 9, none, .bin false .geq (.s 1) (.s 0)⟩,
    ⟨.push, 10, none, .mov (.s 0)⟩,
    ⟨.push, 11, (some ((.s 0), true)), .mov (.v 0)⟩,
    ⟨.push, 12, (some ((.s 1), true)), .mov (.v 2)⟩,
    ⟨.push, 13, (some ((.s 2), true)), .bin false .leq (.s 1) (.s 0)⟩,
    ⟨.push, 14, none, .pick (.s 3) (.s 0) (.c (.bool false))⟩,
    ⟨.var 3, 6, none, .mov (.s 0)⟩])
 (.ret)), [.t 3]⟩
noncomputable def t_spec_l00In : List (Nat × Ctr) := []
noncomputable def c_spec_l00In : Ctr := mkF t_spec_l00In ir41 [.bor, .bor, .bor]
theorem s_spec_l00In : Sound Try.prog 41 c_spec_l00In := mkF_sound _ rfl snd_nil (by kernel_rfl : chkFn Try.prog 41 ir41 ir41_v = true)
theorem M_spec_l00In : c_spec_l00In.modes = [.bor, .bor, .bor] := rfl
theorem Fl_spec_l00In : c_spec_l00In.flat = true := rfl
attribute [go_sem] M_spec_l00In Fl_spec_l00In
theorem Fs_spec_l00In {n : Int} {low : Int} {high : Int} {y_ : Bool} (h : spec_l00In n low high = some y_) : c_spec_l00In.F [.int .i64 n, .int .i64 low, .int .i64 high] = ⟨true, .bool y_, [.any, .any, .any]⟩ := by
  refine mkF_E rfl ?_
  dsimp only [spec_l00In] at h
  obtain rfl := so_some h
  refine ⟨0, fun L hL => ?_⟩
  simp only [go_sem, ir41]


def ir103_v : List Nat := [0, 2]
def ir103 : AFn := ⟨1, 2, .seq (.region false [
    ⟨.var 1, 2, none, .mov (.c (.bool false))⟩])
 (.seq (.region false [
    ⟨.push, 3, none, .mov (.v 0)⟩,
    ⟨.push, 4, none, .call 41 [(.s 0), (.c (.int .i64 (0))), (.c (.int .i64 (10000000)))]⟩,
    ⟨.var 1, 2, none, .mov (.s 0)⟩])
 (.ret)), [.t 1]⟩
noncomputable def t_spec_l06Time : List (Nat × Ctr) := [(41, c_spec_l00In)]
theorem lk_spec_l06Time_41 : look t_spec_l06Time 41 = some c_spec_l00In := rfl
noncomputable def c_spec_l06Time : Ctr := mkF t_spec_l06Time ir103 [.bor]
theorem s_spec_l06Time : Sound Try.prog 103 c_spec_l06Time := mkF_sound _ rfl (snd_cons s_spec_l00In snd_nil) (by kernel_rfl : chkFn Try.prog 103 ir103 ir103_v = true)
theorem M_spec_l06Time : c_spec_l06Time.modes = [.bor] := rfl
theorem Fl_spec_l06Time : c_spec_l06Time.flat = true := rfl
attribute [go_sem] M_spec_l06Time Fl_spec_l06Time
attribute [go_sem] lk_spec_l06Time_41
theorem Fs_spec_l06Time {n : Int} {y_ : Bool} (h : spec_l06Time n = some y_) : c_spec_l06Time.F [.int .i64 n] = ⟨true, .bool y_, [.any]⟩ := by
  refine mkF_E rfl ?_
  dsimp only [spec_l06Time] at h
  obtain ⟨y_1, hk1, h⟩ := bd_some h
  have fhk1 := Fs_spec_l00In hk1
  try simp only [go_sem] at fhk1
  obtain rfl := so_some h
  refine ⟨0, fun L hL => ?_⟩
  simp only [go_sem, ir103, fhk1]


def ir116_v : List Nat := [0, 2]
def ir116 : AFn := ⟨1, 2, .seq (.region false [
    ⟨.var 1, 2, none, .mov (.c (.bool false))⟩])
 (.seq (.region false [
    ⟨.push, 3, none, .mov (.v 0)⟩,
    ⟨.push, 4, none, .bin false .geq (.s 0) (.c (.int .u8 (97)))⟩,
    ⟨.push, 5, none, .mov (.s 0)⟩,
    ⟨.push, 6, (some ((.s 0), true)), .mov (.v 0)⟩,
    ⟨.push, 7, (some ((.s 1), true)), .bin false .leq (.s 0) (.c (.int .u8 (122)))⟩,
    ⟨.push, 8, none, .pick (.s 2) (.s 0) (.c (.bool false))⟩,
    ⟨.var 1, 2, none, .mov (.s 0)⟩])
 (.ret)), [.t 1]⟩
noncomputable def t_spec_l01Small : List (Nat × Ctr) := []
noncomputable def c_spec_l01Small : Ctr := mkF t_spec_l01Small ir116 [.bor]
theorem s_spec_l01Small : Sound Try.prog 116 c_spec_l01Small := mkF_sound _ rfl snd_nil (by kernel_rfl : chkFn Try.prog 116 ir116 ir116_v = true)
theorem M_spec_l01Small : c_spec_l01Small.modes = [.bor] := rfl
theorem Fl_spec_l01Small : c_spec_l01Small.flat = true := rfl
attribute [go_sem] M_spec_l01Small Fl_spec_l01Small
theorem Fs_spec_l01Small {c : UInt8} {y_ : Bool} (h : spec_l01Small c = some y_) : c_spec_l01Small.F [.int .u8 (c.toNat : Int)] = ⟨true, .bool y_, [.any]⟩ := by
  refine mkF_E rfl ?_
  dsimp only [spec_l01Small] at h
  obtain rfl := so_some h
  refine ⟨0, fun L hL => ?_⟩
  simp only [go_sem, ir116]


def ir117_v : List Nat := [0, 2]
def ir117 : AFn := ⟨1, 2, .seq (.region false [
    ⟨.var 1, 2, none, .mov (.c (.bool false))⟩])
 (.seq (.region false [
    ⟨.push, 3, none, .mov (.v 0)⟩,
    ⟨.push, 4, none, .bin false .geq (.s 0) (.c (.int .u8 (48)))⟩,
    ⟨.push, 5, none, .mov (.s 0)⟩,
    ⟨.push, 6, (some ((.s 0), true)), .mov (.v 0)⟩,
    ⟨.push, 7, (some ((.s 1), true)), .bin false .leq (.s 0) (.c (.int .u8 (57)))⟩,
    ⟨.push, 8, none, .pick (.s 2) (.s 0) (.c (.bool false))⟩,
    ⟨.var 1, 2, none, .mov (.s 0)⟩])
 (.ret)), [.t 1]⟩
noncomputable def t_spec_l01Digit : List (Nat × Ctr) := []
noncomputable def c_spec_l01Digit : Ctr := mkF t_spec_l01Digit ir117 [.bor]
theorem s_spec_l01Digit : Sound Try.prog 117 c_spec_l01Digit := mkF_sound _ rfl snd_nil (by kernel_rfl : chkFn Try.prog 117 ir117 ir117_v = true)
theorem M_spec_l01Digit : c_spec_l01Digit.modes = [.bor] := rfl
theorem Fl_spec_l01Digit : c_spec_l01Digit.flat = true := rfl
attribute [go_sem] M_spec_l01Digit Fl_spec_l01Digit
theorem Fs_spec_l01Digit {c : UInt8} {y_ : Bool} (h : spec_l01Digit c = some y_) : c_spec_l01Digit.F [.int .u8 (c.toNat : Int)] = ⟨true, .bool y_, [.any]⟩ := by
  refine mkF_E rfl ?_
  dsimp only [spec_l01Digit] at h
  obtain rfl := so_some h
  refine ⟨0, fun L hL => ?_⟩
  simp only [go_sem, ir117]


def ir104_b0 : IR := .seq (.test false [
    ⟨.push, 17, none, .mov (.v 2)⟩,
    ⟨.push, 18, none, .mov (.v 0)⟩,
    ⟨.push, 19, none, .len true (.s 0)⟩,
    ⟨.push, 20, none, .bin false .lss (.s 2) (.s 0)⟩] (.s 0)
  (.skip)
  (.exit 0))
 (.seq (.block 1 (.test false [
     ⟨.push, 23, none, .mov (.v 0)⟩,
     ⟨.push, 24, none, .mov (.v 2)⟩,
     ⟨.push, 25, none, .ixStr (.s 1) (.s 0)⟩,
     ⟨.push, 26, none, .call 116 [(.s 0)]⟩,
     ⟨.push, 27, none, .un .not (.s 0)⟩,
     ⟨.push, 28, none, .mov (.s 0)⟩,
     ⟨.push, 29, (some ((.s 0), true)), .mov (.v 0)⟩,
     ⟨.push, 30, (some ((.s 1), true)), .mov (.v 2)⟩,
     ⟨.push, 31, (some ((.s 2), true)), .ixStr (.s 1) (.s 0)⟩,
     ⟨.push, 32, (some ((.s 3), true)), .call 117 [(.s 0)]⟩,
     ⟨.push, 33, (some ((.s 4), true)), .un .not (.s 0)⟩,
     ⟨.push, 34, none, .pick (.s 5) (.s 0) (.c (.bool false))⟩,
     ⟨.push, 35, none, .mov (.s 0)⟩,
     ⟨.push, 36, (some ((.s 0), true)), .mov (.v 0)⟩,
     ⟨.push, 37, (some ((.s 1), true)), .mov (.v 2)⟩,
     ⟨.push, 38, (some ((.s 2), true)), .ixStr (.s 1) (.s 0)⟩,
     ⟨.push, 39, (some ((.s 3), true)), .bin false .neq (.s 0) (.c (.int .u8 (45)))⟩,
     ⟨.push, 40, none, .pick (.s 4) (.s 0) (.c (.bool false))⟩] (.s 0)
   (.seq (.region false [
       ⟨.var 1, 2, none, .mov (.c (.bool false))⟩])
    (.ret))
   (.skip)))
 (.region false [
   ⟨.push, 21, none, .mov (.v 2)⟩,
   ⟨.push, 22, none, .bin false .add (.s 0) (.c (.int .i64 (1)))⟩,
   ⟨.var 2, 3, none, .mov (.s 0)⟩]))
def ir104_k0 : List Bool := [true, false, true]
def ir104_o0 : List Bool := [false, false, false]
def ir104_r0 : List Bool := [false, true, false]
def ir104_v : List Nat := [0, 2, 3]
def ir104 : AFn := ⟨1, 3, .seq (.region false [
    ⟨.var 1, 2, none, .mov (.c (.bool false))⟩])
 (.seq (.test false [
    ⟨.push, 4, none, .mov (.v 0)⟩,
    ⟨.push, 5, none, .bin false .eql (.s 0) (.c (.str []))⟩,
    ⟨.push, 6, none, .mov (.s 0)⟩,
    ⟨.push, 7, (some ((.s 0), false)), .mov (.v 0)⟩,
    ⟨.push, 8, (some ((.s 1), false)), .len true (.s 0)⟩,
    ⟨.push, 9, (some ((.s 2), false)), .bin false .gtr (.s 0) (.c (.int .i64 (12)))⟩,
    ⟨.push, 10, none, .pick (.s 3) (.c (.bool true)) (.s 0)⟩,
    ⟨.push, 11, none, .mov (.s 0)⟩,
    ⟨.push, 12, (some ((.s 0), false)), .mov (.v 0)⟩,
    ⟨.push, 13, (some ((.s 1), false)), .ixStr (.s 0) (.c (.int .i64 (0)))⟩,
    ⟨.push, 14, (some ((.s 2), false)), .call 116 [(.s 0)]⟩,
    ⟨.push, 15, (some ((.s 3), false)), .un .not (.s 0)⟩,
    ⟨.push, 16, none, .pick (.s 4) (.c (.bool true)) (.s 0)⟩] (.s 0)
  (.seq (.region false [
      ⟨.var 1, 2, none, .mov (.c (.bool false))⟩])
   (.ret))
  (.skip))
 (.seq (.seq (.region false [
     ⟨.var 2, 3, none, .mov (.c (.int .i64 (0)))⟩])
  (.block 0 (.loop ir104_k0 ir104_o0 ir104_r0 ir104_b0)))
 (.seq (.region false [
    ⟨.var 1, 2, none, .mov (.c (.bool true))⟩])
 (.ret)))), [.t 1]⟩
noncomputable def t_spec_IsName : List (Nat × Ctr) := [(116, c_spec_l01Small), (117, c_spec_l01Digit)]
theorem lk_spec_IsName_116 : look t_spec_IsName 116 = some c_spec_l01Small := rfl
theorem lk_spec_IsName_117 : look t_spec_IsName 117 = some c_spec_l01Digit := rfl
noncomputable def c_spec_IsName : Ctr := mkF t_spec_IsName ir104 [.bor]
theorem s_spec_IsName : Sound Try.prog 104 c_spec_IsName := mkF_sound _ rfl (snd_cons s_spec_l01Small (snd_cons s_spec_l01Digit snd_nil)) (by kernel_rfl : chkFn Try.prog 104 ir104 ir104_v = true)
theorem M_spec_IsName : c_spec_IsName.modes = [.bor] := rfl
theorem Fl_spec_IsName : c_spec_IsName.flat = true := rfl
attribute [go_sem] M_spec_IsName Fl_spec_IsName
attribute [go_sem] lk_spec_IsName_116 lk_spec_IsName_117
def E_spec_IsName_l1 (s_ : List UInt8) : Int → St
  | i => ⟨[.str s_, .any, .int .i64 i], [], [], true⟩
def R_spec_IsName_l1 (s_ : List UInt8) : (Unit ⊕ Bool) → Res
  | .inl y => (.exit 0, ⟨[.any, .any, .any], [], [], true⟩)
  | .inr y => (.ret, ⟨[.any, .bool y, .any], [], [], true⟩)
theorem spec_IsName_l1_ex {s_ : List UInt8} {sgm_ : Int} {rho_ : Unit ⊕ Bool} (h : whileE (spec_IsName_l1 s_) sgm_ = some rho_) : ∃ L0, ∀ L, L0 ≤ L → iter (exec (look t_spec_IsName) L ir104_b0) ir104_k0 ir104_o0 ir104_r0 L (E_spec_IsName_l1 s_ sgm_) = R_spec_IsName_l1 s_ rho_ := by
  refine loop_ex (E := E_spec_IsName_l1 s_) (R := R_spec_IsName_l1 s_) (fun y => by first | (intro c; cases c) | (rcases y with y | y <;> (intro c; cases c)) | (rcases y with y | y | y <;> (intro c; cases c))) ?_ h
  clear h
  intro i o_ h
  dsimp only [spec_IsName_l1] at h
  rcases it_some h with ⟨hk4, h⟩ | ⟨hk4, h⟩
  · try simp only [go_sem, n1, n2, n3, n4] at hk4
    all_goals
    obtain ⟨hk5, h⟩ := ck_some h
    try simp only [go_sem, n1, n2, n3, n4, hk4] at hk5
    all_goals
    obtain ⟨y_6, hk6, h⟩ := bd_some h
    have fhk6 := Fs_spec_l01Small hk6
    try simp only [go_sem, hk4, hk5] at fhk6
    obtain ⟨hk7, h⟩ := ck_some h
    rcases or_split hk7 with ⟨ghk7, hk7⟩ | ghk7
    · try simp only [go_sem, n1, n2, n3, n4, hk4, hk5] at ghk7
      all_goals
      obtain ⟨y_7, hhk7⟩ := Option.isSome_iff_exists.1 hk7
      have fhk7 := Fs_spec_l01Digit hhk7
      try simp only [go_sem, n1, n2, n3, n4, hk4, hk5, ghk7] at hhk7
      all_goals
      try simp only [go_sem, hk4, hk5, ghk7] at fhk7
      rcases it_some h with ⟨hk8, h⟩ | ⟨hk8, h⟩
      · try simp only [go_sem, n1, n2, n3, n4, hk4, hk5, ghk7, hhk7] at hk8
        all_goals
        obtain rfl := so_some h
        refine ⟨0, fun L hL => ?_⟩
        simp only [go_sem, ir104, E_spec_IsName_l1, R_spec_IsName_l1, ir104_b0, ir104_k0, ir104_o0, ir104_r0, hk4, hk5, fhk6, ghk7, hhk7, fhk7, hk8]
      · try simp only [go_sem, n1, n2, n3, n4, hk4, hk5, ghk7, hhk7] at hk8
        all_goals
        obtain rfl := so_some h
        refine ⟨0, fun L hL => ?_⟩
        simp only [go_sem, ir104, E_spec_IsName_l1, R_spec_IsName_l1, ir104_b0, ir104_k0, ir104_o0, ir104_r0, hk4, hk5, fhk6, ghk7, hhk7, fhk7, hk8]
    · have ghk7n := no_f ghk7
      try simp only [go_sem, n1, n2, n3, n4, hk4, hk5] at ghk7n
      all_goals
      rcases it_some h with ⟨hk8, h⟩ | ⟨hk8, h⟩
      · try simp only [go_sem, n1, n2, n3, n4, hk4, hk5, ghk7n] at hk8
        all_goals
        (simp_all)
      · try simp only [go_sem, n1, n2, n3, n4, hk4, hk5, ghk7n] at hk8
        all_goals
        obtain rfl := so_some h
        refine ⟨0, fun L hL => ?_⟩
        simp only [go_sem, ir104, E_spec_IsName_l1, R_spec_IsName_l1, ir104_b0, ir104_k0, ir104_o0, ir104_r0, hk4, hk5, fhk6, ghk7n, hk8]
  · try simp only [go_sem, n1, n2, n3, n4] at hk4
    all_goals
    obtain rfl := so_some h
    refine ⟨0, fun L hL => ?_⟩
    simp only [go_sem, ir104, E_spec_IsName_l1, R_spec_IsName_l1, ir104_b0, ir104_k0, ir104_o0, ir104_r0, hk4]

theorem Fs_spec_IsName {s_ : List UInt8} {y_ : Bool} (h : spec_IsName s_ = some y_) : c_spec_IsName.F [.str s_] = ⟨true, .bool y_, [.any]⟩ := by
  refine mkF_E rfl ?_
  dsimp only [spec_IsName] at h
  obtain ⟨hk1, h⟩ := ck_some h
  rcases or_split hk1 with ⟨ghk1, hk1⟩ | ghk1
  · try simp only [go_sem, n1, n2, n3, n4] at ghk1
    all_goals
    try simp only [go_sem, n1, n2, n3, n4, ghk1] at hk1
    all_goals
    obtain ⟨hk2, h⟩ := ck_some h
    rcases or_split hk2 with ⟨ghk2, hk2⟩ | ghk2
    · try simp only [go_sem, n1, n2, n3, n4, ghk1, hk1] at ghk2
      all_goals
      obtain ⟨y_2, hhk2⟩ := Option.isSome_iff_exists.1 hk2
      have fhk2 := Fs_spec_l01Small hhk2
      try simp only [go_sem, n1, n2, n3, n4, ghk1, hk1, ghk2] at hhk2
      all_goals
      try simp only [go_sem, ghk1, hk1, ghk2] at fhk2
      rcases it_some h with ⟨hk3, h⟩ | ⟨hk3, h⟩
      · try simp only [go_sem, n1, n2, n3, n4, ghk1, hk1, ghk2, hhk2] at hk3
        all_goals
        obtain rfl := so_some h
        refine ⟨0, fun L hL => ?_⟩
        simp only [go_sem, ir104, E_spec_IsName_l1, R_spec_IsName_l1, ir104_k0, ir104_o0, ir104_r0, ghk1, hk1, ghk2, hhk2, fhk2, hk3]
      · try simp only [go_sem, n1, n2, n3, n4, ghk1, hk1, ghk2, hhk2] at hk3
        all_goals
        obtain ⟨y_9, hk9, h⟩ := bd_some h
        obtain ⟨Lhk9, ehk9⟩ := spec_IsName_l1_ex hk9
        rcases y_9 with y_9a | y_9b
        · dsimp only at h
          obtain rfl := so_some h
          refine ⟨Lhk9, fun L hL => ?_⟩
          have ehk9 := ehk9 L (by omega)
          try simp only [go_sem, E_spec_IsName_l1, R_spec_IsName_l1, ir104_k0, ir104_o0, ir104_r0, ghk1, hk1, ghk2, hhk2, hk3] at ehk9
          simp only [go_sem, ir104, E_spec_IsName_l1, R_spec_IsName_l1, ir104_k0, ir104_o0, ir104_r0, ghk1, hk1, ghk2, hhk2, fhk2, hk3, ehk9]
        · dsimp only at h
          obtain rfl := so_some h
          refine ⟨Lhk9, fun L hL => ?_⟩
          have ehk9 := ehk9 L (by omega)
          try simp only [go_sem, E_spec_IsName_l1, R_spec_IsName_l1, ir104_k0, ir104_o0, ir104_r0, ghk1, hk1, ghk2, hhk2, hk3] at ehk9
          simp only [go_sem, ir104, E_spec_IsName_l1, R_spec_IsName_l1, ir104_k0, ir104_o0, ir104_r0, ghk1, hk1, ghk2, hhk2, fhk2, hk3, ehk9]
    · have ghk2n := no_f ghk2
      rcases or_t ghk2n with ghk2na | ⟨ghk2na, ghk2nb⟩
      · try simp only [go_sem, n1, n2, n3, n4, ghk1, hk1] at ghk2na
        all_goals
        (simp_all)
      · try simp only [go_sem, n1, n2, n3, n4, ghk1, hk1] at ghk2na
        all_goals
        try simp only [go_sem, n1, n2, n3, n4, ghk1, hk1, ghk2na] at ghk2nb
        all_goals
        rcases it_some h with ⟨hk3, h⟩ | ⟨hk3, h⟩
        · try simp only [go_sem, n1, n2, n3, n4, ghk1, hk1, ghk2na, ghk2nb] at hk3
          all_goals
          obtain rfl := so_some h
          refine ⟨0, fun L hL => ?_⟩
          simp only [go_sem, ir104, E_spec_IsName_l1, R_spec_IsName_l1, ir104_k0, ir104_o0, ir104_r0, ghk1, hk1, ghk2na, ghk2nb, hk3]
        · try simp only [go_sem, n1, n2, n3, n4, ghk1, hk1, ghk2na, ghk2nb] at hk3
          all_goals
          obtain ⟨y_9, hk9, h⟩ := bd_some h
          obtain ⟨Lhk9, ehk9⟩ := spec_IsName_l1_ex hk9
          rcases y_9 with y_9a | y_9b
          · dsimp only at h
            obtain rfl := so_some h
            refine ⟨Lhk9, fun L hL => ?_⟩
            have ehk9 := ehk9 L (by omega)
            try simp only [go_sem, E_spec_IsName_l1, R_spec_IsName_l1, ir104_k0, ir104_o0, ir104_r0, ghk1, hk1, ghk2na, ghk2nb, hk3] at ehk9
            simp only [go_sem, ir104, E_spec_IsName_l1, R_spec_IsName_l1, ir104_k0, ir104_o0, ir104_r0, ghk1, hk1, ghk2na, ghk2nb, hk3, ehk9]
          · dsimp only at h
            obtain rfl := so_some h
            refine ⟨Lhk9, fun L hL => ?_⟩
            have ehk9 := ehk9 L (by omega)
            try simp only [go_sem, E_spec_IsName_l1, R_spec_IsName_l1, ir104_k0, ir104_o0, ir104_r0, ghk1, hk1, ghk2na, ghk2nb, hk3] at ehk9
            simp only [go_sem, ir104, E_spec_IsName_l1, R_spec_IsName_l1, ir104_k0, ir104_o0, ir104_r0, ghk1, hk1, ghk2na, ghk2nb, hk3, ehk9]
  · have ghk1n := no_f ghk1
    rcases or_t ghk1n with ghk1na | ⟨ghk1na, ghk1nb⟩
    · try simp only [go_sem, n1, n2, n3, n4] at ghk1na
      all_goals
      obtain ⟨hk2, h⟩ := ck_some h
      rcases it_some h with ⟨hk3, h⟩ | ⟨hk3, h⟩
      · try simp only [go_sem, n1, n2, n3, n4, ghk1na] at hk3
        all_goals
        obtain rfl := so_some h
        refine ⟨0, fun L hL => ?_⟩
        simp only [go_sem, ir104, E_spec_IsName_l1, R_spec_IsName_l1, ir104_k0, ir104_o0, ir104_r0, ghk1na, hk3]
      · try simp only [go_sem, n1, n2, n3, n4, ghk1na] at hk3
        all_goals
        (simp_all)
    · try simp only [go_sem, n1, n2, n3, n4] at ghk1na
      all_goals
      try simp only [go_sem, n1, n2, n3, n4, ghk1na] at ghk1nb
      all_goals
      obtain ⟨hk2, h⟩ := ck_some h
      rcases it_some h with ⟨hk3, h⟩ | ⟨hk3, h⟩
      · try simp only [go_sem, n1, n2, n3, n4, ghk1na, ghk1nb] at hk3
        all_goals
        obtain rfl := so_some h
        refine ⟨0, fun L hL => ?_⟩
        simp only [go_sem, ir104, E_spec_IsName_l1, R_spec_IsName_l1, ir104_k0, ir104_o0, ir104_r0, ghk1na, ghk1nb, hk3]
      · try simp only [go_sem, n1, n2, n3, n4, ghk1na, ghk1nb] at hk3
        all_goals
        (simp_all)


def ir105_v : List Nat := [0, 2]
def ir105 : AFn := ⟨1, 2, .seq (.region false [
    ⟨.var 1, 2, none, .mov (.c (.bool false))⟩])
 (.seq (.region false [
    ⟨.push, 3, none, .mov (.v 0)⟩,
    ⟨.push, 4, none, .call 41 [(.s 0), (.c (.int .i64 (-2000))), (.c (.int .i64 (20000)))]⟩,
    ⟨.var 1, 2, none, .mov (.s 0)⟩])
 (.ret)), [.t 1]⟩
noncomputable def t_spec_l02Mag : List (Nat × Ctr) := [(41, c_spec_l00In)]
theorem lk_spec_l02Mag_41 : look t_spec_l02Mag 41 = some c_spec_l00In := rfl
noncomputable def c_spec_l02Mag : Ctr := mkF t_spec_l02Mag ir105 [.bor]
theorem s_spec_l02Mag : Sound Try.prog 105 c_spec_l02Mag := mkF_sound _ rfl (snd_cons s_spec_l00In snd_nil) (by kernel_rfl : chkFn Try.prog 105 ir105 ir105_v = true)
theorem M_spec_l02Mag : c_spec_l02Mag.modes = [.bor] := rfl
theorem Fl_spec_l02Mag : c_spec_l02Mag.flat = true := rfl
attribute [go_sem] M_spec_l02Mag Fl_spec_l02Mag
attribute [go_sem] lk_spec_l02Mag_41
theorem Fs_spec_l02Mag {m : Int} {y_ : Bool} (h : spec_l02Mag m = some y_) : c_spec_l02Mag.F [.int .i64 m] = ⟨true, .bool y_, [.any]⟩ := by
  refine mkF_E rfl ?_
  dsimp only [spec_l02Mag] at h
  obtain ⟨y_1, hk1, h⟩ := bd_some h
  have fhk1 := Fs_spec_l00In hk1
  try simp only [go_sem] at fhk1
  obtain rfl := so_some h
  refine ⟨0, fun L hL => ?_⟩
  simp only [go_sem, ir105, fhk1]


def ir80_v : List Nat := [0, 2]
def ir80 : AFn := ⟨1, 2, .seq (.region false [
    ⟨.var 1, 2, none, .mov (.c (.bool false))⟩])
 (.seq (.region false [
    ⟨.push, 3, none, .mov (.v 0)⟩,
    ⟨.push, 4, none, .nilck (.s 0)⟩,
    ⟨.push, 5, none, .fldAddr 0 (.s 0)⟩,
    ⟨.push, 6, none, .load false 1 (.s 0)⟩,
    ⟨.push, 7, none, .call 103 [(.s 0)]⟩,
    ⟨.push, 8, none, .mov (.s 0)⟩,
    ⟨.push, 9, (some ((.s 0), true)), .mov (.v 0)⟩,
    ⟨.push, 10, (some ((.s 1), true)), .nilck (.s 0)⟩,
    ⟨.push, 11, (some ((.s 2), true)), .fldAddr 1 (.s 0)⟩,
    ⟨.push, 12, (some ((.s 3), true)), .load false 1 (.s 0)⟩,
    ⟨.push, 13, (some ((.s 4), true)), .call 104 [(.s 0)]⟩,
    ⟨.push, 14, none, .pick (.s 5) (.s 0) (.c (.bool false))⟩,
    ⟨.push, 15, none, .mov (.s 0)⟩,
    ⟨.push, 16, (some ((.s 0), true)), .mov (.v 0)⟩,
    ⟨.push, 17, (some ((.s 1), true)), .nilck (.s 0)⟩,
    ⟨.push, 18, (some ((.s 2), true)), .fldAddr 2 (.s 0)⟩,
    ⟨.push, 19, (some ((.s 3), true)), .load false 1 (.s 0)⟩,
    ⟨.push, 20, (some ((.s 4), true)), .call 104 [(.s 0)]⟩,
    ⟨.push, 21, none, .pick (.s 5) (.s 0) (.c (.bool false))⟩,
    ⟨.push, 22, none, .mov (.s 0)⟩,
    ⟨.push, 23, (some ((.s 0), true)), .mov (.v 0)⟩,
    ⟨.push, 24, (some ((.s 1), true)), .nilck (.s 0)⟩,
    ⟨.push, 25, (some ((.s 2), true)), .fldAddr 3 (.s 0)⟩,
    ⟨.push, 26, (some ((.s 3), true)), .load false 1 (.s 0)⟩,
    ⟨.push, 27, (some ((.s 4), true)), .call 105 [(.s 0)]⟩,
    ⟨.push, 28, none, .pick (.s 5) (.s 0) (.c (.bool false))⟩,
    ⟨.var 1, 2, none, .mov (.s 0)⟩])
 (.ret)), [.t 1]⟩
noncomputable def t_spec_l06One : List (Nat × Ctr) := [(103, c_spec_l06Time), (104, c_spec_IsName), (105, c_spec_l02Mag)]
theorem lk_spec_l06One_103 : look t_spec_l06One 103 = some c_spec_l06Time := rfl
theorem lk_spec_l06One_104 : look t_spec_l06One 104 = some c_spec_IsName := rfl
theorem lk_spec_l06One_105 : look t_spec_l06One 105 = some c_spec_l02Mag := rfl
noncomputable def c_spec_l06One : Ctr := mkF t_spec_l06One ir80 [.bor]
theorem s_spec_l06One : Sound Try.prog 80 c_spec_l06One := mkF_sound _ rfl (snd_cons s_spec_l06Time (snd_cons s_spec_IsName (snd_cons s_spec_l02Mag snd_nil))) (by kernel_rfl : chkFn Try.prog 80 ir80 ir80_v = true)
theorem M_spec_l06One : c_spec_l06One.modes = [.bor] := rfl
theorem Fl_spec_l06One : c_spec_l06One.flat = true := rfl
attribute [go_sem] M_spec_l06One Fl_spec_l06One
attribute [go_sem] lk_spec_l06One_103 lk_spec_l06One_104 lk_spec_l06One_105
theorem Fs_spec_l06One {e_ : Estimate} {y_ : Bool} (h : spec_l06One e_ = some y_) : c_spec_l06One.F [.ptr 5 [Estimate_av e_] 0 0] = ⟨true, .bool y_, [.any]⟩ := by
  refine mkF_E rfl ?_
  dsimp only [spec_l06One] at h
  obtain ⟨y_1, hk1, h⟩ := bd_some h
  have fhk1 := Fs_spec_l06Time hk1
  try simp only [go_sem] at fhk1
  obtain ⟨hk2, h⟩ := ck_some h
  rcases or_split hk2 with ⟨ghk2, hk2⟩ | ghk2
  · try simp only [go_sem, n1, n2, n3, n4] at ghk2
    all_goals
    obtain ⟨y_2, hhk2⟩ := Option.isSome_iff_exists.1 hk2
    have fhk2 := Fs_spec_IsName hhk2
    try simp only [go_sem, n1, n2, n3, n4, ghk2] at hhk2
    all_goals
    try simp only [go_sem, ghk2] at fhk2
    obtain ⟨hk3, h⟩ := ck_some h
    rcases or_split hk3 with ⟨ghk3, hk3⟩ | ghk3
    · try simp only [go_sem, n1, n2, n3, n4, ghk2, hhk2] at ghk3
      all_goals
      obtain ⟨y_3, hhk3⟩ := Option.isSome_iff_exists.1 hk3
      have fhk3 := Fs_spec_IsName hhk3
      try simp only [go_sem, n1, n2, n3, n4, ghk2, hhk2, ghk3] at hhk3
      all_goals
      try simp only [go_sem, ghk2, hhk2, ghk3] at fhk3
      obtain ⟨hk4, h⟩ := ck_some h
      rcases or_split hk4 with ⟨ghk4, hk4⟩ | ghk4
      · try simp only [go_sem, n1, n2, n3, n4, ghk2, hhk2, ghk3, hhk3] at ghk4
        all_goals
        obtain ⟨y_4, hhk4⟩ := Option.isSome_iff_exists.1 hk4
        have fhk4 := Fs_spec_l02Mag hhk4
        try simp only [go_sem, n1, n2, n3, n4, ghk2, hhk2, ghk3, hhk3, ghk4] at hhk4
        all_goals
        try simp only [go_sem, ghk2, hhk2, ghk3, hhk3, ghk4] at fhk4
        obtain rfl := so_some h
        refine ⟨0, fun L hL => ?_⟩
        simp only [go_sem, ir80, fhk1, ghk2, hhk2, fhk2, ghk3, hhk3, fhk3, ghk4, hhk4, fhk4]
      · rcases and_f ghk4 with ghk4a | ⟨ghk4a, ghk4b⟩
        · try simp only [go_sem, n1, n2, n3, n4, ghk2, hhk2, ghk3, hhk3] at ghk4a
          all_goals
          (simp_all)
        · obtain ⟨ghk4aa, ghk4ab⟩ := and_t ghk4a
          try simp only [go_sem, n1, n2, n3, n4, ghk2, hhk2, ghk3, hhk3] at ghk4aa
          all_goals
          try simp only [go_sem, n1, n2, n3, n4, ghk2, hhk2, ghk3, hhk3, ghk4aa] at ghk4ab
          all_goals
          try simp only [go_sem, n1, n2, n3, n4, ghk2, hhk2, ghk3, hhk3, ghk4aa, ghk4ab] at ghk4b
          all_goals
          obtain rfl := so_some h
          refine ⟨0, fun L hL => ?_⟩
          simp only [go_sem, ir80, fhk1, ghk2, hhk2, fhk2, ghk3, hhk3, fhk3, ghk4aa, ghk4ab, ghk4b]
    · rcases and_f ghk3 with ghk3a | ⟨ghk3a, ghk3b⟩
      · try simp only [go_sem, n1, n2, n3, n4, ghk2, hhk2] at ghk3a
        all_goals
        (simp_all)
      · try simp only [go_sem, n1, n2, n3, n4, ghk2, hhk2] at ghk3a
        all_goals
        try simp only [go_sem, n1, n2, n3, n4, ghk2, hhk2, ghk3a] at ghk3b
        all_goals
        obtain ⟨hk4, h⟩ := ck_some h
        obtain rfl := so_some h
        refine ⟨0, fun L hL => ?_⟩
        simp only [go_sem, ir80, fhk1, ghk2, hhk2, fhk2, ghk3a, ghk3b]
  · try simp only [go_sem, n1, n2, n3, n4] at ghk2
    all_goals
    obtain ⟨hk3, h⟩ := ck_some h
    obtain ⟨hk4, h⟩ := ck_some h
    obtain rfl := so_some h
    refine ⟨0, fun L hL => ?_⟩
    simp only [go_sem, ir80, fhk1, ghk2]


def ir54_b0 : IR := .seq (.test false [
    ⟨.push, 4, none, .mov (.v 2)⟩,
    ⟨.push, 5, none, .mov (.v 0)⟩,
    ⟨.push, 6, none, .len false (.s 0)⟩,
    ⟨.push, 7, none, .bin false .lss (.s 2) (.s 0)⟩] (.s 0)
  (.skip)
  (.exit 0))
 (.seq (.block 1 (.anyo 20 [
     ⟨.slot 0, 10, none, .mov (.v 0)⟩,
     ⟨.slot 1, 11, none, .mov (.v 2)⟩,
     ⟨.slot 2, 12, none, .ixAddr 5 (.s 0) (.s 1)⟩,
     ⟨.slot 3, 13, none, .callp 80 [(.s 2)]⟩,
     ⟨.slot 4, 14, none, .un .not (.s 3)⟩,
     ⟨.slot 5, 15, none, .mov (.s 4)⟩,
     ⟨.slot 6, 16, (some ((.s 5), false)), .mov (.v 2)⟩,
     ⟨.slot 7, 17, (some ((.s 5), false)), .bin false .gtr (.s 6) (.c (.int .i64 (0)))⟩,
     ⟨.slot 8, 18, (some ((.s 5), false)), .mov (.s 7)⟩,
     ⟨.slot 9, 19, (some ((.s 8), true)), .mov (.v 0)⟩,
     ⟨.slot 10, 20, (some ((.s 8), true)), .mov (.v 2)⟩,
     ⟨.slot 11, 21, (some ((.s 8), true)), .bin false .sub (.s 10) (.c (.int .i64 (1)))⟩,
     ⟨.slot 12, 22, (some ((.s 8), true)), .ixAddr 5 (.s 9) (.s 11)⟩,
     ⟨.slot 13, 23, (some ((.s 8), true)), .mov (.v 0)⟩,
     ⟨.slot 14, 24, (some ((.s 8), true)), .mov (.v 2)⟩,
     ⟨.slot 15, 25, (some ((.s 8), true)), .ixAddr 5 (.s 13) (.s 14)⟩,
     ⟨.slot 16, 26, (some ((.s 8), true)), .call 81 [(.s 12), (.s 15)]⟩,
     ⟨.slot 17, 27, (some ((.s 8), true)), .un .not (.s 16)⟩,
     ⟨.slot 18, 28, (some ((.s 5), false)), .pick (.s 8) (.s 17) (.c (.bool false))⟩,
     ⟨.slot 19, 29, none, .pick (.s 5) (.c (.bool true)) (.s 18)⟩] [] (.cond (.s 19)
   (.seq (.region false [
       ⟨.var 1, 2, none, .mov (.c (.bool false))⟩])
    (.ret))
   (.skip))))
 (.region false [
   ⟨.push, 8, none, .mov (.v 2)⟩,
   ⟨.push, 9, none, .bin false .add (.s 0) (.c (.int .i64 (1)))⟩,
   ⟨.var 2, 3, none, .mov (.s 0)⟩]))
def ir54_k0 : List Bool := [true, false, true]
def ir54_o0 : List Bool := [true, false, false]
def ir54_r0 : List Bool := [false, true, false]
def ir54_v : List Nat := [0, 2, 3]
def ir54 : AFn := ⟨1, 3, .seq (.region false [
    ⟨.var 1, 2, none, .mov (.c (.bool false))⟩])
 (.seq (.seq (.region false [
     ⟨.var 2, 3, none, .mov (.c (.int .i64 (0)))⟩])
  (.block 0 (.loop ir54_k0 ir54_o0 ir54_r0 ir54_b0)))
 (.seq (.region false [
    ⟨.push, 30, none, .mov (.v 0)⟩,
    ⟨.push, 31, none, .len false (.s 0)⟩,
    ⟨.push, 32, none, .bin false .leq (.s 0) (.c (.int .i64 (100)))⟩,
    ⟨.var 1, 2, none, .mov (.s 0)⟩])
 (.ret))), [.t 1]⟩
noncomputable def t_spec_l06Ok : List (Nat × Ctr) := [(80, c_spec_l06One), (81, c_spec_l06Before)]
theorem lk_spec_l06Ok_80 : look t_spec_l06Ok 80 = some c_spec_l06One := rfl
theorem lk_spec_l06Ok_81 : look t_spec_l06Ok 81 = some c_spec_l06Before := rfl
noncomputable def c_spec_l06Ok : Ctr := mkF t_spec_l06Ok ir54 [.bor]
theorem s_spec_l06Ok : Sound Try.prog 54 c_spec_l06Ok := mkF_sound _ rfl (snd_cons s_spec_l06One (snd_cons s_spec_l06Before snd_nil)) (by kernel_rfl : chkFn Try.prog 54 ir54 ir54_v = true)
theorem M_spec_l06Ok : c_spec_l06Ok.modes = [.bor] := rfl
theorem Fl_spec_l06Ok : c_spec_l06Ok.flat = true := rfl
attribute [go_sem] M_spec_l06Ok Fl_spec_l06Ok
attribute [go_sem] lk_spec_l06Ok_80 lk_spec_l06Ok_81
def E_spec_l06Ok_l1 (list : List Estimate) : Int → St
  | i => ⟨[.sl 5 (List.map Estimate_av list), .any, .int .i64 i], [], [], true⟩
def R_spec_l06Ok_l1 (list : List Estimate) : (Unit ⊕ Bool) → Res
  | .inl y => (.exit 0, ⟨[.sl 5 (List.map Estimate_av list), .any, .any], [], [], true⟩)
  | .inr y => (.ret, ⟨[.any, .bool y, .any], [], [], true⟩)
theorem spec_l06Ok_l1_ex {list : List Estimate} {sgm_ : Int} {rho_ : Unit ⊕ Bool} (h : whileE (spec_l06Ok_l1 list) sgm_ = some rho_) : ∃ L0, ∀ L, L0 ≤ L → iter (exec (look t_spec_l06Ok) L ir54_b0) ir54_k0 ir54_o0 ir54_r0 L (E_spec_l06Ok_l1 list sgm_) = R_spec_l06Ok_l1 list rho_ := by
  refine loop_ex (E := E_spec_l06Ok_l1 list) (R := R_spec_l06Ok_l1 list) (fun y => by first | (intro c; cases c) | (rcases y with y | y <;> (intro c; cases c)) | (rcases y with y | y | y <;> (intro c; cases c))) ?_ h
  clear h
  intro i o_ h
  dsimp only [spec_l06Ok_l1] at h
  rcases it_some h with ⟨hk1, h⟩ | ⟨hk1, h⟩
  · try simp only [go_sem, n1, n2, n3, n4] at hk1
    all_goals
    obtain ⟨hk2, h⟩ := ck_some h
    have lhk2 := ix_lt hk2
    have xhk2 := getD_mapD Estimate_av list lhk2
    try simp only [go_sem] at lhk2
    try simp only [go_sem] at xhk2
    try simp only [go_sem, n1, n2, n3, n4, hk1] at hk2
    all_goals
    obtain ⟨y_3, hk3, h⟩ := bd_some h
    have fhk3 := Fs_spec_l06One hk3
    try simp only [go_sem, hk1, hk2] at fhk3
    obtain ⟨hk4, h⟩ := ck_some h
    rcases or_split hk4 with ⟨ghk4, hk4⟩ | ghk4
    · try simp only [go_sem, n1, n2, n3, n4, hk1, hk2] at ghk4
      all_goals
      have lhk4 := ix_lt hk4
      have xhk4 := getD_mapD Estimate_av list lhk4
      try simp only [go_sem] at lhk4
      try simp only [go_sem] at xhk4
      try simp only [go_sem, n1, n2, n3, n4, hk1, hk2, ghk4] at hk4
      all_goals
      obtain ⟨hk5, h⟩ := ck_some h
      rcases or_split hk5 with ⟨ghk5, hk5⟩ | ghk5
      · try simp only [go_sem, n1, n2, n3, n4, hk1, hk2, ghk4, hk4] at ghk5
        all_goals
        obtain ⟨y_5, hhk5⟩ := Option.isSome_iff_exists.1 hk5
        have fhk5 := Fs_spec_l06Before hhk5
        try simp only [go_sem, n1, n2, n3, n4, hk1, hk2, ghk4, hk4, ghk5] at hhk5
        all_goals
        try simp only [go_sem, hk1, hk2, ghk4, hk4, ghk5] at fhk5
        rcases it_some h with ⟨hk6, h⟩ | ⟨hk6, h⟩
        · try simp only [go_sem, n1, n2, n3, n4, hk1, hk2, ghk4, hk4, ghk5, hhk5] at hk6
          all_goals
          obtain rfl := so_some h
          refine ⟨0, fun L hL => ?_⟩
          simp only [go_sem, ir54, E_spec_l06Ok_l1, R_spec_l06Ok_l1, ir54_b0, ir54_k0, ir54_o0, ir54_r0, hk1, hk2, lhk2, xhk2, fhk3, ghk4, hk4, lhk4, xhk4, ghk5, hhk5, fhk5, hk6]
        · try simp only [go_sem, n1, n2, n3, n4, hk1, hk2, ghk4, hk4, ghk5, hhk5] at hk6
          all_goals
          obtain rfl := so_some h
          refine ⟨0, fun L hL => ?_⟩
          simp only [go_sem, ir54, E_spec_l06Ok_l1, R_spec_l06Ok_l1, ir54_b0, ir54_k0, ir54_o0, ir54_r0, hk1, hk2, lhk2, xhk2, fhk3, ghk4, hk4, lhk4, xhk4, ghk5, hhk5, fhk5, hk6]
      · rcases and_f ghk5 with ghk5a | ⟨ghk5a, ghk5b⟩
        · try simp only [go_sem, n1, n2, n3, n4, hk1, hk2, ghk4, hk4] at ghk5a
          all_goals
          (simp_all)
        · have ghk5an := no_t ghk5a
          have ghk5ann := no_f ghk5an
          try simp only [go_sem, n1, n2, n3, n4, hk1, hk2, ghk4, hk4] at ghk5ann
          all_goals
          try simp only [go_sem, n1, n2, n3, n4, hk1, hk2, ghk4, hk4, ghk5ann] at ghk5b
          all_goals
          rcases it_some h with ⟨hk6, h⟩ | ⟨hk6, h⟩
          · try simp only [go_sem, n1, n2, n3, n4, hk1, hk2, ghk4, hk4, ghk5ann, ghk5b] at hk6
            all_goals
            (simp_all)
          · try simp only [go_sem, n1, n2, n3, n4, hk1, hk2, ghk4, hk4, ghk5ann, ghk5b] at hk6
            all_goals
            obtain rfl := so_some h
            refine ⟨0, fun L hL => ?_⟩
            simp only [go_sem, ir54, E_spec_l06Ok_l1, R_spec_l06Ok_l1, ir54_b0, ir54_k0, ir54_o0, ir54_r0, hk1, hk2, lhk2, xhk2, fhk3, ghk4, hk4, lhk4, xhk4, ghk5ann, ghk5b, hk6]
    · rcases and_f ghk4 with ghk4a | ⟨ghk4a, ghk4b⟩
      · have ghk4an := no_f ghk4a
        have ghk4ann := no_t ghk4an
        try simp only [go_sem, n1, n2, n3, n4, hk1, hk2] at ghk4ann
        all_goals
        obtain ⟨hk5, h⟩ := ck_some h
        rcases it_some h with ⟨hk6, h⟩ | ⟨hk6, h⟩
        · try simp only [go_sem, n1, n2, n3, n4, hk1, hk2, ghk4ann] at hk6
          all_goals
          obtain rfl := so_some h
          refine ⟨0, fun L hL => ?_⟩
          simp only [go_sem, ir54, E_spec_l06Ok_l1, R_spec_l06Ok_l1, ir54_b0, ir54_k0, ir54_o0, ir54_r0, hk1, hk2, lhk2, xhk2, fhk3, ghk4ann, hk6]
        · try simp only [go_sem, n1, n2, n3, n4, hk1, hk2, ghk4ann] at hk6
          all_goals
          (simp_all)
      · have ghk4an := no_t ghk4a
        have ghk4ann := no_f ghk4an
        try simp only [go_sem, n1, n2, n3, n4, hk1, hk2] at ghk4ann
        all_goals
        try simp only [go_sem, n1, n2, n3, n4, hk1, hk2, ghk4ann] at ghk4b
        all_goals
        obtain ⟨hk5, h⟩ := ck_some h
        rcases it_some h with ⟨hk6, h⟩ | ⟨hk6, h⟩
        · try simp only [go_sem, n1, n2, n3, n4, hk1, hk2, ghk4ann, ghk4b] at hk6
          all_goals
          (simp_all)
        · try simp only [go_sem, n1, n2, n3, n4, hk1, hk2, ghk4ann, ghk4b] at hk6
          all_goals
          obtain rfl := so_some h
          refine ⟨0, fun L hL => ?_⟩
          simp only [go_sem, ir54, E_spec_l06Ok_l1, R_spec_l06Ok_l1, ir54_b0, ir54_k0, ir54_o0, ir54_r0, hk1, hk2, lhk2, xhk2, fhk3, ghk4ann, ghk4b, hk6]
  · try simp only [go_sem, n1, n2, n3, n4] at hk1
    all_goals
    obtain rfl := so_some h
    refine ⟨0, fun L hL => ?_⟩
    simp only [go_sem, ir54, E_spec_l06Ok_l1, R_spec_l06Ok_l1, ir54_b0, ir54_k0, ir54_o0, ir54_r0, hk1]

theorem Fs_spec_l06Ok {list : List Estimate} {y_ : Bool} (h : spec_l06Ok list = some y_) : c_spec_l06Ok.F [.sl 5 (List.map Estimate_av list)] = ⟨true, .bool y_, [.any]⟩ := by
  refine mkF_E rfl ?_
  dsimp only [spec_l06Ok] at h
  obtain ⟨y_7, hk7, h⟩ := bd_some h
  obtain ⟨Lhk7, ehk7⟩ := spec_l06Ok_l1_ex hk7
  rcases y_7 with y_7a | y_7b
  · dsimp only at h
    obtain rfl := so_some h
    refine ⟨Lhk7, fun L hL => ?_⟩
    have ehk7 := ehk7 L (by omega)
    try simp only [go_sem, E_spec_l06Ok_l1, R_spec_l06Ok_l1, ir54_k0, ir54_o0, ir54_r0] at ehk7
    simp only [go_sem, ir54, E_spec_l06Ok_l1, R_spec_l06Ok_l1, ir54_k0, ir54_o0, ir54_r0, ehk7]
  · dsimp only at h
    obtain rfl := so_some h
    refine ⟨Lhk7, fun L hL => ?_⟩
    have ehk7 := ehk7 L (by omega)
    try simp only [go_sem, E_spec_l06Ok_l1, R_spec_l06Ok_l1, ir54_k0, ir54_o0, ir54_r0] at ehk7
    simp only [go_sem, ir54, E_spec_l06Ok_l1, R_spec_l06Ok_l1, ir54_k0, ir54_o0, ir54_r0, ehk7]


def ir82_v : List Nat := [0, 2]
def ir82 : AFn := ⟨1, 2, .seq (.region false [
    ⟨.var 1, 2, none, .mov (.c (.int .i64 (0)))⟩])
 (.seq (.test false [
    ⟨.push, 3, none, .mov (.v 0)⟩,
    ⟨.push, 4, none, .bin false .lss (.s 0) (.c (.int .i64 (0)))⟩] (.s 0)
  (.seq (.region false [
      ⟨.push, 5, none, .mov (.v 0)⟩,
      ⟨.push, 6, none, .un .neg (.s 0)⟩,
      ⟨.var 1, 2, none, .mov (.s 0)⟩])
   (.ret))
  (.skip))
 (.seq (.region false [
    ⟨.push, 7, none, .mov (.v 0)⟩,
    ⟨.var 1, 2, none, .mov (.s 0)⟩])
 (.ret))), [.t 1]⟩
noncomputable def t_spec_l02Size : List (Nat × Ctr) := []
noncomputable def c_spec_l02Size : Ctr := mkF t_spec_l02Size ir82 [.bor]
theorem s_spec_l02Size : Sound Try.prog 82 c_spec_l02Size := mkF_sound _ rfl snd_nil (by kernel_rfl : chkFn Try.prog 82 ir82 ir82_v = true)
theorem M_spec_l02Size : c_spec_l02Size.modes = [.bor] := rfl
theorem Fl_spec_l02Size : c_spec_l02Size.flat = true := rfl
attribute [go_sem] M_spec_l02Size Fl_spec_l02Size
theorem Fs_spec_l02Size {n : Int} {y_ : Int} (h : spec_l02Size n = some y_) : c_spec_l02Size.F [.int .i64 n] = ⟨true, .int .i64 y_, [.any]⟩ := by
  refine mkF_E rfl ?_
  dsimp only [spec_l02Size] at h
  rcases it_some h with ⟨hk1, h⟩ | ⟨hk1, h⟩
  · try simp only [go_sem, n1, n2, n3, n4] at hk1
    all_goals
    obtain rfl := so_some h
    refine ⟨0, fun L hL => ?_⟩
    simp only [go_sem, ir82, hk1]
  · try simp only [go_sem, n1, n2, n3, n4] at hk1
    all_goals
    obtain rfl := so_some h
    refine ⟨0, fun L hL => ?_⟩
    simp only [go_sem, ir82, hk1]


def ir55_v : List Nat := [0, 1, 2, 6]
def ir55 : AFn := ⟨3, 4, .seq (.region false [
    ⟨.var 3, 6, none, .mov (.c (.bool false))⟩])
 (.seq (.block 0 (.test false [
     ⟨.push, 8, none, .mov (.v 0)⟩,
     ⟨.push, 9, none, .nilck (.s 0)⟩,
     ⟨.push, 10, none, .fldAddr 4 (.s 0)⟩,
     ⟨.push, 11, none, .load false 1 (.s 0)⟩,
     ⟨.push, 12, none, .mov (.s 0)⟩,
     ⟨.push, 13, (some ((.s 0), true)), .mov (.v 1)⟩,
     ⟨.push, 14, (some ((.s 1), true)), .nilck (.s 0)⟩,
     ⟨.push, 15, (some ((.s 2), true)), .fldAddr 4 (.s 0)⟩,
     ⟨.push, 16, (some ((.s 3), true)), .load false 1 (.s 0)⟩,
     ⟨.push, 17, none, .pick (.s 4) (.s 0) (.c (.bool false))⟩,
     ⟨.push, 7, none, .mov (.s 0)⟩] (.s 0)
   (.seq (.region false [
       ⟨.var 3, 6, none, .mov (.c (.bool false))⟩])
    (.ret))
   (.test false [
      ⟨.push, 19, none, .mov (.v 0)⟩,
      ⟨.push, 20, none, .nilck (.s 0)⟩,
      ⟨.push, 21, none, .fldAddr 4 (.s 0)⟩,
      ⟨.push, 22, none, .load false 1 (.s 0)⟩,
      ⟨.push, 18, none, .mov (.s 0)⟩] (.s 0)
    (.seq (.anyo 11 [
        ⟨.slot 0, 23, none, .mov (.v 1)⟩,
        ⟨.slot 1, 24, none, .nilck (.s 0)⟩,
        ⟨.slot 2, 25, none, .fldAddr 3 (.s 1)⟩,
        ⟨.slot 3, 26, none, .load false 1 (.s 2)⟩,
        ⟨.slot 4, 27, none, .mov (.v 2)⟩,
        ⟨.slot 5, 28, none, .bin false .add (.s 3) (.s 4)⟩,
        ⟨.slot 6, 29, none, .mov (.v 0)⟩,
        ⟨.slot 7, 30, none, .nilck (.s 6)⟩,
        ⟨.slot 8, 31, none, .fldAddr 3 (.s 7)⟩,
        ⟨.slot 9, 32, none, .load false 1 (.s 8)⟩,
        ⟨.slot 10, 33, none, .bin false .lss (.s 5) (.s 9)⟩,
        ⟨.var 3, 6, none, .mov (.s 10)⟩] [] .skip)
     (.ret))
    (.test false [
       ⟨.push, 35, none, .mov (.v 1)⟩,
       ⟨.push, 36, none, .nilck (.s 0)⟩,
       ⟨.push, 37, none, .fldAddr 4 (.s 0)⟩,
       ⟨.push, 38, none, .load false 1 (.s 0)⟩,
       ⟨.push, 34, none, .mov (.s 0)⟩] (.s 0)
     (.seq (.anyo 11 [
         ⟨.slot 0, 39, none, .mov (.v 0)⟩,
         ⟨.slot 1, 40, none, .nilck (.s 0)⟩,
         ⟨.slot 2, 41, none, .fldAddr 3 (.s 1)⟩,
         ⟨.slot 3, 42, none, .load false 1 (.s 2)⟩,
         ⟨.slot 4, 43, none, .mov (.v 2)⟩,
         ⟨.slot 5, 44, none, .bin false .add (.s 3) (.s 4)⟩,
         ⟨.slot 6, 45, none, .mov (.v 1)⟩,
         ⟨.slot 7, 46, none, .nilck (.s 6)⟩,
         ⟨.slot 8, 47, none, .fldAddr 3 (.s 7)⟩,
         ⟨.slot 9, 48, none, .load false 1 (.s 8)⟩,
         ⟨.slot 10, 49, none, .bin false .lss (.s 5) (.s 9)⟩,
         ⟨.var 3, 6, none, .mov (.s 10)⟩] [] .skip)
      (.ret))
     (.skip)))))
 (.seq (.anyo 12 [
    ⟨.slot 0, 50, none, .mov (.v 0)⟩,
    ⟨.slot 1, 51, none, .nilck (.s 0)⟩,
    ⟨.slot 2, 52, none, .fldAddr 3 (.s 1)⟩,
    ⟨.slot 3, 53, none, .load false 1 (.s 2)⟩,
    ⟨.slot 4, 54, none, .mov (.v 1)⟩,
    ⟨.slot 5, 55, none, .nilck (.s 4)⟩,
    ⟨.slot 6, 56, none, .fldAddr 3 (.s 5)⟩,
    ⟨.slot 7, 57, none, .load false 1 (.s 6)⟩,
    ⟨.slot 8, 58, none, .bin false .sub (.s 3) (.s 7)⟩,
    ⟨.slot 9, 59, none, .callp 82 [(.s 8)]⟩,
    ⟨.slot 10, 60, none, .mov (.v 2)⟩,
    ⟨.slot 11, 61, none, .bin false .gtr (.s 9) (.s 10)⟩,
    ⟨.var 3, 6, none, .mov (.s 11)⟩] [] .skip)
 (.ret))), [.t 3]⟩
noncomputable def t_spec_l06Against : List (Nat × Ctr) := [(82, c_spec_l02Size)]
theorem lk_spec_l06Against_82 : look t_spec_l06Against 82 = some c_spec_l02Size := rfl
noncomputable def c_spec_l06Against : Ctr := mkF t_spec_l06Against ir55 [.bor, .bor, .bor]
theorem s_spec_l06Against : Sound Try.prog 55 c_spec_l06Against := mkF_sound _ rfl (snd_cons s_spec_l02Size snd_nil) (by kernel_rfl : chkFn Try.prog 55 ir55 ir55_v = true)
theorem M_spec_l06Against : c_spec_l06Against.modes = [.bor, .bor, .bor] := rfl
theorem Fl_spec_l06Against : c_spec_l06Against.flat = true := rfl
attribute [go_sem] M_spec_l06Against Fl_spec_l06Against
attribute [go_sem] lk_spec_l06Against_82
theorem Fs_spec_l06Against {a : Estimate} {b : Estimate} {by_ : Int} {y_ : Bool} (h : spec_l06Against a b by_ = some y_) : c_spec_l06Against.F [.ptr 5 [Estimate_av a] 0 0, .ptr 5 [Estimate_av b] 0 0, .int .i64 by_] = ⟨true, .bool y_, [.any, .any, .any]⟩ := by
  refine mkF_E rfl ?_
  dsimp only [spec_l06Against] at h
  rcases it_some h with ⟨hk1, h⟩ | ⟨hk1, h⟩
  · try simp only [go_sem, n1, n2, n3, n4] at hk1
    all_goals
    obtain rfl := so_some h
    refine ⟨0, fun L hL => ?_⟩
    simp only [go_sem, ir55, hk1]
  · try simp only [go_sem, n1, n2, n3, n4] at hk1
    all_goals
    rcases it_some h with ⟨hk2, h⟩ | ⟨hk2, h⟩
    · have hk2d0 := and_fr hk1 hk2
      try simp only [go_sem, n1, n2, n3, n4, hk1] at hk2
      all_goals
      obtain rfl := so_some h
      refine ⟨0, fun L hL => ?_⟩
      simp only [go_sem, ir55, hk1, hk2, hk2d0]
    · try simp only [go_sem, n1, n2, n3, n4, hk1] at hk2
      all_goals
      rcases it_some h with ⟨hk3, h⟩ | ⟨hk3, h⟩
      · have hk3d0 := and_fl hk1 hk3
        try simp only [go_sem, n1, n2, n3, n4, hk1, hk2] at hk3
        all_goals
        obtain rfl := so_some h
        refine ⟨0, fun L hL => ?_⟩
        simp only [go_sem, ir55, hk1, hk2, hk3, hk3d0]
      · try simp only [go_sem, n1, n2, n3, n4, hk1, hk2] at hk3
        all_goals
        obtain ⟨y_4, hk4, h⟩ := bd_some h
        have fhk4 := Fs_spec_l02Size hk4
        try simp only [go_sem, hk1, hk2, hk3] at fhk4
        obtain rfl := so_some h
        refine ⟨0, fun L hL => ?_⟩
        simp only [go_sem, ir55, hk1, hk2, hk3, fhk4]


def ir21_b1 : IR := .seq (.test false [
    ⟨.push, 31, none, .mov (.v 7)⟩,
    ⟨.push, 32, none, .mov (.v 0)⟩,
    ⟨.push, 33, none, .len false (.s 0)⟩,
    ⟨.push, 34, none, .bin false .lss (.s 2) (.s 0)⟩] (.s 0)
  (.skip)
  (.exit 2))
 (.seq (.block 3 (.anyo 36 [
     ⟨.slot 0, 37, none, .mov (.v 0)⟩,
     ⟨.slot 1, 38, none, .mov (.v 6)⟩,
     ⟨.slot 2, 39, none, .ixAddr 5 (.s 0) (.s 1)⟩,
     ⟨.slot 3, 40, none, .fldAddr 1 (.s 2)⟩,
     ⟨.slot 4, 41, none, .load false 1 (.s 3)⟩,
     ⟨.slot 5, 42, none, .mov (.v 0)⟩,
     ⟨.slot 6, 43, none, .mov (.v 7)⟩,
     ⟨.slot 7, 44, none, .ixAddr 5 (.s 5) (.s 6)⟩,
     ⟨.slot 8, 45, none, .fldAddr 1 (.s 7)⟩,
     ⟨.slot 9, 46, none, .load false 1 (.s 8)⟩,
     ⟨.slot 10, 47, none, .bin false .eql (.s 4) (.s 9)⟩,
     ⟨.slot 11, 48, none, .mov (.s 10)⟩,
     ⟨.slot 12, 49, (some ((.s 11), true)), .mov (.v 0)⟩,
     ⟨.slot 13, 50, (some ((.s 11), true)), .mov (.v 7)⟩,
     ⟨.slot 14, 51, (some ((.s 11), true)), .ixAddr 5 (.s 12) (.s 13)⟩,
     ⟨.slot 15, 52, (some ((.s 11), true)), .fldAddr 0 (.s 14)⟩,
     ⟨.slot 16, 53, (some ((.s 11), true)), .load false 1 (.s 15)⟩,
     ⟨.slot 17, 54, (some ((.s 11), true)), .mov (.v 0)⟩,
     ⟨.slot 18, 55, (some ((.s 11), true)), .mov (.v 6)⟩,
     ⟨.slot 19, 56, (some ((.s 11), true)), .ixAddr 5 (.s 17) (.s 18)⟩,
     ⟨.slot 20, 57, (some ((.s 11), true)), .fldAddr 0 (.s 19)⟩,
     ⟨.slot 21, 58, (some ((.s 11), true)), .load false 1 (.s 20)⟩,
     ⟨.slot 22, 59, (some ((.s 11), true)), .bin false .sub (.s 16) (.s 21)⟩,
     ⟨.slot 23, 60, (some ((.s 11), true)), .mov (.v 1)⟩,
     ⟨.slot 24, 61, (some ((.s 11), true)), .bin false .leq (.s 22) (.s 23)⟩,
     ⟨.slot 25, 62, none, .pick (.s 11) (.s 24) (.c (.bool false))⟩,
     ⟨.slot 26, 63, none, .mov (.s 25)⟩,
     ⟨.slot 27, 64, (some ((.s 26), true)), .mov (.v 0)⟩,
     ⟨.slot 28, 65, (some ((.s 26), true)), .mov (.v 6)⟩,
     ⟨.slot 29, 66, (some ((.s 26), true)), .ixAddr 5 (.s 27) (.s 28)⟩,
     ⟨.slot 30, 67, (some ((.s 26), true)), .mov (.v 0)⟩,
     ⟨.slot 31, 68, (some ((.s 26), true)), .mov (.v 7)⟩,
     ⟨.slot 32, 69, (some ((.s 26), true)), .ixAddr 5 (.s 30) (.s 31)⟩,
     ⟨.slot 33, 70, (some ((.s 26), true)), .mov (.v 2)⟩,
     ⟨.slot 34, 71, (some ((.s 26), true)), .call 55 [(.s 29), (.s 32), (.s 33)]⟩,
     ⟨.slot 35, 72, none, .pick (.s 26) (.s 34) (.c (.bool false))⟩] [] (.cond (.s 35)
   (.region false [
      ⟨.push, 73, none, .mov (.v 5)⟩,
      ⟨.push, 74, none, .mov (.v 6)⟩,
      ⟨.push, 75, none, .mov (.v 7)⟩,
      ⟨.push, 76, none, .mkSl 1 (.int .i64 (0)) 2 [(0, (.s 1)), (1, (.s 0))]⟩,
      ⟨.push, 77, none, .mkSl 1 (.sl 1 []) 1 [(0, (.s 0))]⟩,
      ⟨.push, 78, none, .app 1 24 (.sl 1 []) (.s 4) (.s 0)⟩,
      ⟨.var 5, 8, none, .mov (.s 0)⟩])
   (.skip))))
 (.region false [
   ⟨.push, 35, none, .mov (.v 7)⟩,
   ⟨.push, 36, none, .bin false .add (.s 0) (.c (.int .i64 (1)))⟩,
   ⟨.var 7, 10, none, .mov (.s 0)⟩]))
def ir21_k1 : List Bool := [true, true, true, false, false, true, true, true]
def ir21_o1 : List Bool := [true, true, true, false, false, true, true, false]
def ir21_r1 : List Bool := [false, false, false, true, true, false, false, false]
def ir21_b0 : IR := .seq (.test false [
    ⟨.push, 23, none, .mov (.v 6)⟩,
    ⟨.push, 24, none, .mov (.v 0)⟩,
    ⟨.push, 25, none, .len false (.s 0)⟩,
    ⟨.push, 26, none, .bin false .lss (.s 2) (.s 0)⟩] (.s 0)
  (.skip)
  (.exit 0))
 (.seq (.block 1 (.seq (.region false [
      ⟨.push, 29, none, .mov (.v 6)⟩,
      ⟨.push, 30, none, .bin false .add (.s 0) (.c (.int .i64 (1)))⟩,
      ⟨.var 7, 10, none, .mov (.s 0)⟩])
   (.block 2 (.loop ir21_k1 ir21_o1 ir21_r1 ir21_b1))))
 (.region false [
   ⟨.push, 27, none, .mov (.v 6)⟩,
   ⟨.push, 28, none, .bin false .add (.s 0) (.c (.int .i64 (1)))⟩,
   ⟨.var 6, 9, none, .mov (.s 0)⟩]))
def ir21_k0 : List Bool := [true, true, true, false, false, true, true, false]
def ir21_o0 : List Bool := [false, false, false, false, false, true, false, false]
def ir21_r0 : List Bool := [false, false, false, true, true, false, false, false]
def ir21_v : List Nat := [0, 1, 2, 6, 7, 8, 9, 10]
def ir21 : AFn := ⟨3, 8, .seq (.region false [
    ⟨.var 3, 6, none, .newnil 1⟩,
    ⟨.var 4, 7, none, .mov (.c (.int .i64 (0)))⟩])
 (.seq (.test false [
    ⟨.push, 11, none, .mov (.v 0)⟩,
    ⟨.push, 12, none, .call 54 [(.s 0)]⟩,
    ⟨.push, 13, none, .un .not (.s 0)⟩] (.s 0)
  (.seq (.region false [
      ⟨.var 3, 6, none, .newnil 1⟩,
      ⟨.var 4, 7, none, .mov (.c (.int .i64 (1)))⟩])
   (.ret))
  (.skip))
 (.seq (.test false [
    ⟨.push, 14, none, .mov (.v 1)⟩,
    ⟨.push, 15, none, .call 41 [(.s 0), (.c (.int .i64 (0))), (.c (.int .i64 (100000)))]⟩,
    ⟨.push, 16, none, .un .not (.s 0)⟩,
    ⟨.push, 17, none, .mov (.s 0)⟩,
    ⟨.push, 18, (some ((.s 0), false)), .mov (.v 2)⟩,
    ⟨.push, 19, (some ((.s 1), false)), .call 41 [(.s 0), (.c (.int .i64 (1))), (.c (.int .i64 (20000)))]⟩,
    ⟨.push, 20, (some ((.s 2), false)), .un .not (.s 0)⟩,
    ⟨.push, 21, none, .pick (.s 3) (.c (.bool true)) (.s 0)⟩] (.s 0)
  (.seq (.region false [
      ⟨.var 3, 6, none, .newnil 1⟩,
      ⟨.var 4, 7, none, .mov (.c (.int .i64 (2)))⟩])
   (.ret))
  (.skip))
 (.seq (.region false [
    ⟨.push, 22, none, .mkSl 1 (.sl 1 []) 0 []⟩,
    ⟨.var 5, 8, none, .mov (.s 0)⟩])
 (.seq (.seq (.region false [
     ⟨.var 6, 9, none, .mov (.c (.int .i64 (0)))⟩])
  (.block 0 (.loop ir21_k0 ir21_o0 ir21_r0 ir21_b0)))
 (.seq (.region false [
    ⟨.push, 79, none, .mov (.v 5)⟩,
    ⟨.var 3, 6, none, .mov (.s 0)⟩,
    ⟨.var 4, 7, none, .mov (.c (.int .i64 (0)))⟩])
 (.ret)))))), [.t 3, .t 4]⟩
noncomputable def t_spec_Contradictions : List (Nat × Ctr) := [(54, c_spec_l06Ok), (41, c_spec_l00In), (55, c_spec_l06Against)]
theorem lk_spec_Contradictions_54 : look t_spec_Contradictions 54 = some c_spec_l06Ok := rfl
theorem lk_spec_Contradictions_41 : look t_spec_Contradictions 41 = some c_spec_l00In := rfl
theorem lk_spec_Contradictions_55 : look t_spec_Contradictions 55 = some c_spec_l06Against := rfl
noncomputable def c_spec_Contradictions : Ctr := mkN t_spec_Contradictions ir21 [.bor, .bor, .bor]
theorem s_spec_Contradictions : Sound Try.prog 21 c_spec_Contradictions := mkN_sound _ (snd_cons s_spec_l06Ok (snd_cons s_spec_l00In (snd_cons s_spec_l06Against snd_nil))) (by kernel_rfl : chkFn Try.prog 21 ir21 ir21_v = true)
theorem M_spec_Contradictions : c_spec_Contradictions.modes = [.bor, .bor, .bor] := rfl
theorem Fl_spec_Contradictions : c_spec_Contradictions.flat = false := rfl
attribute [go_sem] M_spec_Contradictions Fl_spec_Contradictions
attribute [go_sem] lk_spec_Contradictions_54 lk_spec_Contradictions_41 lk_spec_Contradictions_55
def E_spec_Contradictions_l2 (list : List Estimate) (apart : Int) (by_ : Int) (i : Int) : ((List (List Int)) × Int) → St
  | (out, k) => ⟨[.sl 5 (List.map Estimate_av list), .int .i64 apart, .int .i64 by_, .any, .any, .own 3200000, .int .i64 i, .int .i64 k], [], [(3200000, ⟨1, List.map (slE 1 (AV.int .i64)) out⟩)], true⟩
def R_spec_Contradictions_l2 (list : List Estimate) (apart : Int) (by_ : Int) (i : Int) (y : (List (List Int))) : Res := (.exit 2, ⟨[.sl 5 (List.map Estimate_av list), .int .i64 apart, .int .i64 by_, .any, .any, .own 3200000, .int .i64 i, .any], [], [(3200000, ⟨1, List.map (slE 1 (AV.int .i64)) y⟩)], true⟩)
theorem spec_Contradictions_l2_ex {list : List Estimate} {apart : Int} {by_ : Int} {i : Int} {sgm_ : (List (List Int)) × Int} {rho_ : (List (List Int))} (h : whileE (spec_Contradictions_l2 list apart by_ i) sgm_ = some rho_) : ∃ L0, ∀ L, L0 ≤ L → iter (exec (look t_spec_Contradictions) L ir21_b1) ir21_k1 ir21_o1 ir21_r1 L (E_spec_Contradictions_l2 list apart by_ i sgm_) = R_spec_Contradictions_l2 list apart by_ i rho_ := by
  refine loop_ex (E := E_spec_Contradictions_l2 list apart by_ i) (R := R_spec_Contradictions_l2 list apart by_ i) (fun y => by first | (intro c; cases c) | (rcases y with y | y <;> (intro c; cases c)) | (rcases y with y | y | y <;> (intro c; cases c))) ?_ h
  clear h
  rintro ⟨out, k⟩ o_ h
  dsimp only [spec_Contradictions_l2] at h
  rcases it_some h with ⟨hk7, h⟩ | ⟨hk7, h⟩
  · try simp only [go_sem, n1, n2, n3, n4] at hk7
    all_goals
    obtain ⟨hk8, h⟩ := ck_some h
    have lhk8 := ix_lt hk8
    have xhk8 := getD_mapD Estimate_av list lhk8
    try simp only [go_sem] at lhk8
    try simp only [go_sem] at xhk8
    try simp only [go_sem, n1, n2, n3, n4, hk7] at hk8
    all_goals
    obtain ⟨hk9, h⟩ := ck_some h
    have lhk9 := ix_lt hk9
    have xhk9 := getD_mapD Estimate_av list lhk9
    try simp only [go_sem] at lhk9
    try simp only [go_sem] at xhk9
    try simp only [go_sem, n1, n2, n3, n4, hk7, hk8] at hk9
    all_goals
    obtain ⟨hk10, h⟩ := ck_some h
    rcases or_split hk10 with ⟨ghk10, hk10⟩ | ghk10
    · try simp only [go_sem, n1, n2, n3, n4, hk7, hk8, hk9] at ghk10
      all_goals
      obtain ⟨y_10, hhk10⟩ := Option.isSome_iff_exists.1 hk10
      have fhk10 := Fs_spec_l06Against hhk10
      try simp only [go_sem, n1, n2, n3, n4, hk7, hk8, hk9, ghk10] at hhk10
      all_goals
      try simp only [go_sem, hk7, hk8, hk9, ghk10] at fhk10
      rcases it_some h with ⟨hk11, h⟩ | ⟨hk11, h⟩
      · try simp only [go_sem, n1, n2, n3, n4, hk7, hk8, hk9, ghk10, hhk10] at hk11
        all_goals
        obtain ⟨hk12, h⟩ := ck_some h
        try simp only [go_sem, n1, n2, n3, n4, hk7, hk8, hk9, ghk10, hhk10, hk11] at hk12
        all_goals
        obtain rfl := so_some h
        refine ⟨0, fun L hL => ?_⟩
        simp only [go_sem, ir21, E_spec_Contradictions_l2, R_spec_Contradictions_l2, ir21_b1, ir21_k1, ir21_o1, ir21_r1, hk7, hk8, lhk8, xhk8, hk9, lhk9, xhk9, ghk10, hhk10, fhk10, hk11, hk12]
      · try simp only [go_sem, n1, n2, n3, n4, hk7, hk8, hk9, ghk10, hhk10] at hk11
        all_goals
        obtain rfl := so_some h
        refine ⟨0, fun L hL => ?_⟩
        simp only [go_sem, ir21, E_spec_Contradictions_l2, R_spec_Contradictions_l2, ir21_b1, ir21_k1, ir21_o1, ir21_r1, hk7, hk8, lhk8, xhk8, hk9, lhk9, xhk9, ghk10, hhk10, fhk10, hk11]
    · rcases and_f ghk10 with ghk10a | ⟨ghk10a, ghk10b⟩
      · try simp only [go_sem, n1, n2, n3, n4, hk7, hk8, hk9] at ghk10a
        all_goals
        rcases it_some h with ⟨hk11, h⟩ | ⟨hk11, h⟩
        · try simp only [go_sem, n1, n2, n3, n4, hk7, hk8, hk9, ghk10a] at hk11
          all_goals
          (simp_all)
        · try simp only [go_sem, n1, n2, n3, n4, hk7, hk8, hk9, ghk10a] at hk11
          all_goals
          obtain rfl := so_some h
          refine ⟨0, fun L hL => ?_⟩
          simp only [go_sem, ir21, E_spec_Contradictions_l2, R_spec_Contradictions_l2, ir21_b1, ir21_k1, ir21_o1, ir21_r1, hk7, hk8, lhk8, xhk8, hk9, lhk9, xhk9, ghk10a, hk11]
      · try simp only [go_sem, n1, n2, n3, n4, hk7, hk8, hk9] at ghk10a
        all_goals
        try simp only [go_sem, n1, n2, n3, n4, hk7, hk8, hk9, ghk10a] at ghk10b
        all_goals
        rcases it_some h with ⟨hk11, h⟩ | ⟨hk11, h⟩
        · try simp only [go_sem, n1, n2, n3, n4, hk7, hk8, hk9, ghk10a, ghk10b] at hk11
          all_goals
          (simp_all)
        · try simp only [go_sem, n1, n2, n3, n4, hk7, hk8, hk9, ghk10a, ghk10b] at hk11
          all_goals
          obtain rfl := so_some h
          refine ⟨0, fun L hL => ?_⟩
          simp only [go_sem, ir21, E_spec_Contradictions_l2, R_spec_Contradictions_l2, ir21_b1, ir21_k1, ir21_o1, ir21_r1, hk7, hk8, lhk8, xhk8, hk9, lhk9, xhk9, ghk10a, ghk10b, hk11]
  · try simp only [go_sem, n1, n2, n3, n4] at hk7
    all_goals
    obtain rfl := so_some h
    refine ⟨0, fun L hL => ?_⟩
    simp only [go_sem, ir21, E_spec_Contradictions_l2, R_spec_Contradictions_l2, ir21_b1, ir21_k1, ir21_o1, ir21_r1, hk7]

def E_spec_Contradictions_l1 (list : List Estimate) (apart : Int) (by_ : Int) : ((List (List Int)) × Int) → St
  | (out, i) => ⟨[.sl 5 (List.map Estimate_av list), .int .i64 apart, .int .i64 by_, .any, .any, .own 3200000, .int .i64 i, .any], [], [(3200000, ⟨1, List.map (slE 1 (AV.int .i64)) out⟩)], true⟩
def R_spec_Contradictions_l1 (list : List Estimate) (apart : Int) (by_ : Int) (y : (List (List Int))) : Res := (.exit 0, ⟨[.any, .any, .any, .any, .any, .own 3200000, .any, .any], [], [(3200000, ⟨1, List.map (slE 1 (AV.int .i64)) y⟩)], true⟩)
theorem spec_Contradictions_l1_ex {list : List Estimate} {apart : Int} {by_ : Int} {sgm_ : (List (List Int)) × Int} {rho_ : (List (List Int))} (h : whileE (spec_Contradictions_l1 list apart by_) sgm_ = some rho_) : ∃ L0, ∀ L, L0 ≤ L → iter (exec (look t_spec_Contradictions) L ir21_b0) ir21_k0 ir21_o0 ir21_r0 L (E_spec_Contradictions_l1 list apart by_ sgm_) = R_spec_Contradictions_l1 list apart by_ rho_ := by
  refine loop_ex (E := E_spec_Contradictions_l1 list apart by_) (R := R_spec_Contradictions_l1 list apart by_) (fun y => by first | (intro c; cases c) | (rcases y with y | y <;> (intro c; cases c)) | (rcases y with y | y | y <;> (intro c; cases c))) ?_ h
  clear h
  rintro ⟨out, i⟩ o_ h
  dsimp only [spec_Contradictions_l1] at h
  rcases it_some h with ⟨hk6, h⟩ | ⟨hk6, h⟩
  · try simp only [go_sem, n1, n2, n3, n4] at hk6
    all_goals
    obtain ⟨y_13, hk13, h⟩ := bd_some h
    obtain ⟨Lhk13, ehk13⟩ := spec_Contradictions_l2_ex hk13
    obtain rfl := so_some h
    refine ⟨Lhk13, fun L hL => ?_⟩
    have ehk13 := ehk13 L (by omega)
    try simp only [go_sem, E_spec_Contradictions_l1, R_spec_Contradictions_l1, ir21_b0, ir21_k0, ir21_o0, ir21_r0, E_spec_Contradictions_l2, R_spec_Contradictions_l2, ir21_k1, ir21_o1, ir21_r1, hk6] at ehk13
    simp only [go_sem, ir21, E_spec_Contradictions_l1, R_spec_Contradictions_l1, ir21_b0, ir21_k0, ir21_o0, ir21_r0, E_spec_Contradictions_l2, R_spec_Contradictions_l2, ir21_k1, ir21_o1, ir21_r1, hk6, ehk13]
  · try simp only [go_sem, n1, n2, n3, n4] at hk6
    all_goals
    obtain rfl := so_some h
    refine ⟨0, fun L hL => ?_⟩
    simp only [go_sem, ir21, E_spec_Contradictions_l1, R_spec_Contradictions_l1, ir21_b0, ir21_k0, ir21_o0, ir21_r0, E_spec_Contradictions_l2, R_spec_Contradictions_l2, ir21_k1, ir21_o1, ir21_r1, hk6]

theorem Fs_spec_Contradictions {list : List Estimate} {apart : Int} {by_ : Int} {y_ : (List (List Int)) × Int} (h : spec_Contradictions list apart by_ = some y_) : c_spec_Contradictions.F [.sl 5 (List.map Estimate_av list), .int .i64 apart, .int .i64 by_] = ⟨true, .tup [.fresh 1 (List.map (slE 1 (AV.int .i64)) y_.1), .int .i64 y_.2], [.any, .any, .any]⟩ := by
  refine mkN_E ?_
  dsimp only [spec_Contradictions] at h
  obtain ⟨y_1, hk1, h⟩ := bd_some h
  have fhk1 := Fs_spec_l06Ok hk1
  try simp only [go_sem] at fhk1
  rcases it_some h with ⟨hk2, h⟩ | ⟨hk2, h⟩
  · try simp only [go_sem, n1, n2, n3, n4] at hk2
    all_goals
    obtain rfl := so_some h
    refine ⟨0, fun L hL => ?_⟩
    simp only [go_sem, ir21, E_spec_Contradictions_l2, R_spec_Contradictions_l2, ir21_k1, ir21_o1, ir21_r1, E_spec_Contradictions_l1, R_spec_Contradictions_l1, ir21_k0, ir21_o0, ir21_r0, fhk1, hk2]
  · try simp only [go_sem, n1, n2, n3, n4] at hk2
    all_goals
    obtain ⟨y_3, hk3, h⟩ := bd_some h
    have fhk3 := Fs_spec_l00In hk3
    try simp only [go_sem, hk2] at fhk3
    obtain ⟨hk4, h⟩ := ck_some h
    rcases or_split hk4 with ⟨ghk4, hk4⟩ | ghk4
    · try simp only [go_sem, n1, n2, n3, n4, hk2] at ghk4
      all_goals
      obtain ⟨y_4, hhk4⟩ := Option.isSome_iff_exists.1 hk4
      have fhk4 := Fs_spec_l00In hhk4
      try simp only [go_sem, n1, n2, n3, n4, hk2, ghk4] at hhk4
      all_goals
      try simp only [go_sem, hk2, ghk4] at fhk4
      rcases it_some h with ⟨hk5, h⟩ | ⟨hk5, h⟩
      · try simp only [go_sem, n1, n2, n3, n4, hk2, ghk4, hhk4] at hk5
        all_goals
        obtain rfl := so_some h
        refine ⟨0, fun L hL => ?_⟩
        simp only [go_sem, ir21, E_spec_Contradictions_l2, R_spec_Contradictions_l2, ir21_k1, ir21_o1, ir21_r1, E_spec_Contradictions_l1, R_spec_Contradictions_l1, ir21_k0, ir21_o0, ir21_r0, fhk1, hk2, fhk3, ghk4, hhk4, fhk4, hk5]
      · try simp only [go_sem, n1, n2, n3, n4, hk2, ghk4, hhk4] at hk5
        all_goals
        obtain ⟨y_14, hk14, h⟩ := bd_some h
        obtain ⟨Lhk14, ehk14⟩ := spec_Contradictions_l1_ex hk14
        obtain rfl := so_some h
        refine ⟨Lhk14, fun L hL => ?_⟩
        have ehk14 := ehk14 L (by omega)
        try simp only [go_sem, E_spec_Contradictions_l2, R_spec_Contradictions_l2, ir21_k1, ir21_o1, ir21_r1, E_spec_Contradictions_l1, R_spec_Contradictions_l1, ir21_k0, ir21_o0, ir21_r0, hk2, ghk4, hhk4, hk5] at ehk14
        simp only [go_sem, ir21, E_spec_Contradictions_l2, R_spec_Contradictions_l2, ir21_k1, ir21_o1, ir21_r1, E_spec_Contradictions_l1, R_spec_Contradictions_l1, ir21_k0, ir21_o0, ir21_r0, fhk1, hk2, fhk3, ghk4, hhk4, fhk4, hk5, ehk14]
    · have ghk4n := no_f ghk4
      have ghk4nn := no_t ghk4n
      try simp only [go_sem, n1, n2, n3, n4, hk2] at ghk4nn
      all_goals
      rcases it_some h with ⟨hk5, h⟩ | ⟨hk5, h⟩
      · try simp only [go_sem, n1, n2, n3, n4, hk2, ghk4nn] at hk5
        all_goals
        obtain rfl := so_some h
        refine ⟨0, fun L hL => ?_⟩
        simp only [go_sem, ir21, E_spec_Contradictions_l2, R_spec_Contradictions_l2, ir21_k1, ir21_o1, ir21_r1, E_spec_Contradictions_l1, R_spec_Contradictions_l1, ir21_k0, ir21_o0, ir21_r0, fhk1, hk2, fhk3, ghk4nn, hk5]
      · try simp only [go_sem, n1, n2, n3, n4, hk2, ghk4nn] at hk5
        all_goals
        (simp_all)


def ir22_b0 : IR := .seq (.test false [
    ⟨.push, 6, none, .mov (.v 3)⟩,
    ⟨.push, 7, none, .mov (.v 0)⟩,
    ⟨.push, 8, none, .len false (.s 0)⟩,
    ⟨.push, 9, none, .bin false .lss (.s 2) (.s 0)⟩] (.s 0)
  (.skip)
  (.exit 0))
 (.seq (.block 1 (.anyo 29 [
     ⟨.slot 0, 12, none, .mov (.v 0)⟩,
     ⟨.slot 1, 13, none, .mov (.v 3)⟩,
     ⟨.slot 2, 14, none, .ixAddr 1 (.s 0) (.s 1)⟩,
     ⟨.slot 3, 15, none, .load false 1 (.s 2)⟩,
     ⟨.slot 4, 16, none, .bin false .lss (.s 3) (.c (.int .i64 (0)))⟩,
     ⟨.slot 5, 17, none, .mov (.s 4)⟩,
     ⟨.slot 6, 18, (some ((.s 5), false)), .mov (.v 0)⟩,
     ⟨.slot 7, 19, (some ((.s 5), false)), .mov (.v 3)⟩,
     ⟨.slot 8, 20, (some ((.s 5), false)), .ixAddr 1 (.s 6) (.s 7)⟩,
     ⟨.slot 9, 21, (some ((.s 5), false)), .load false 1 (.s 8)⟩,
     ⟨.slot 10, 22, (some ((.s 5), false)), .mov (.v 1)⟩,
     ⟨.slot 11, 23, (some ((.s 5), false)), .bin false .geq (.s 9) (.s 10)⟩,
     ⟨.slot 12, 24, none, .pick (.s 5) (.c (.bool true)) (.s 11)⟩,
     ⟨.slot 13, 25, none, .mov (.s 12)⟩,
     ⟨.slot 14, 26, (some ((.s 13), false)), .mov (.v 3)⟩,
     ⟨.slot 15, 27, (some ((.s 13), false)), .bin false .gtr (.s 14) (.c (.int .i64 (0)))⟩,
     ⟨.slot 16, 28, (some ((.s 13), false)), .mov (.s 15)⟩,
     ⟨.slot 17, 29, (some ((.s 16), true)), .mov (.v 0)⟩,
     ⟨.slot 18, 30, (some ((.s 16), true)), .mov (.v 3)⟩,
     ⟨.slot 19, 31, (some ((.s 16), true)), .bin false .sub (.s 18) (.c (.int .i64 (1)))⟩,
     ⟨.slot 20, 32, (some ((.s 16), true)), .ixAddr 1 (.s 17) (.s 19)⟩,
     ⟨.slot 21, 33, (some ((.s 16), true)), .load false 1 (.s 20)⟩,
     ⟨.slot 22, 34, (some ((.s 16), true)), .mov (.v 0)⟩,
     ⟨.slot 23, 35, (some ((.s 16), true)), .mov (.v 3)⟩,
     ⟨.slot 24, 36, (some ((.s 16), true)), .ixAddr 1 (.s 22) (.s 23)⟩,
     ⟨.slot 25, 37, (some ((.s 16), true)), .load false 1 (.s 24)⟩,
     ⟨.slot 26, 38, (some ((.s 16), true)), .bin false .geq (.s 21) (.s 25)⟩,
     ⟨.slot 27, 39, (some ((.s 13), false)), .pick (.s 16) (.s 26) (.c (.bool false))⟩,
     ⟨.slot 28, 40, none, .pick (.s 13) (.c (.bool true)) (.s 27)⟩] [] (.cond (.s 28)
   (.seq (.region false [
       ⟨.var 2, 4, none, .mov (.c (.bool false))⟩])
    (.ret))
   (.skip))))
 (.region false [
   ⟨.push, 10, none, .mov (.v 3)⟩,
   ⟨.push, 11, none, .bin false .add (.s 0) (.c (.int .i64 (1)))⟩,
   ⟨.var 3, 5, none, .mov (.s 0)⟩]))
def ir22_k0 : List Bool := [true, true, false, true]
def ir22_o0 : List Bool := [false, false, false, false]
def ir22_r0 : List Bool := [false, false, true, false]
def ir22_v : List Nat := [0, 1, 4, 5]
def ir22 : AFn := ⟨2, 4, .seq (.region false [
    ⟨.var 2, 4, none, .mov (.c (.bool false))⟩])
 (.seq (.seq (.region false [
     ⟨.var 3, 5, none, .mov (.c (.int .i64 (0)))⟩])
  (.block 0 (.loop ir22_k0 ir22_o0 ir22_r0 ir22_b0)))
 (.seq (.region false [
    ⟨.var 2, 4, none, .mov (.c (.bool true))⟩])
 (.ret))), [.t 2]⟩
noncomputable def t_laws_a2Rises : List (Nat × Ctr) := []
noncomputable def c_laws_a2Rises : Ctr := mkF t_laws_a2Rises ir22 [.bor, .bor]
theorem s_laws_a2Rises : Sound Try.prog 22 c_laws_a2Rises := mkF_sound _ rfl snd_nil (by kernel_rfl : chkFn Try.prog 22 ir22 ir22_v = true)
theorem M_laws_a2Rises : c_laws_a2Rises.modes = [.bor, .bor] := rfl
theorem Fl_laws_a2Rises : c_laws_a2Rises.flat = true := rfl
attribute [go_sem] M_laws_a2Rises Fl_laws_a2Rises
def E_laws_a2Rises_l1 (list : List Int) (n : Int) : Int → St
  | i => ⟨[.sl 1 (List.map (AV.int .i64) list), .int .i64 n, .any, .int .i64 i], [], [], true⟩
def R_laws_a2Rises_l1 (list : List Int) (n : Int) : (Unit ⊕ Bool) → Res
  | .inl y => (.exit 0, ⟨[.any, .any, .any, .any], [], [], true⟩)
  | .inr y => (.ret, ⟨[.any, .any, .bool y, .any], [], [], true⟩)
theorem laws_a2Rises_l1_ex {list : List Int} {n : Int} {sgm_ : Int} {rho_ : Unit ⊕ Bool} (h : whileE (laws_a2Rises_l1 list n) sgm_ = some rho_) : ∃ L0, ∀ L, L0 ≤ L → iter (exec (look t_laws_a2Rises) L ir22_b0) ir22_k0 ir22_o0 ir22_r0 L (E_laws_a2Rises_l1 list n sgm_) = R_laws_a2Rises_l1 list n rho_ := by
  refine loop_ex (E := E_laws_a2Rises_l1 list n) (R := R_laws_a2Rises_l1 list n) (fun y => by first | (intro c; cases c) | (rcases y with y | y <;> (intro c; cases c)) | (rcases y with y | y | y <;> (intro c; cases c))) ?_ h
  clear h
  intro i o_ h
  dsimp only [laws_a2Rises_l1] at h
  rcases it_some h with ⟨hk1, h⟩ | ⟨hk1, h⟩
  · try simp only [go_sem, n1, n2, n3, n4] at hk1
    all_goals
    obtain ⟨hk2, h⟩ := ck_some h
    have lhk2 := ix_lt hk2
    have xhk2 := getD_mapD (AV.int .i64) list lhk2
    try simp only [go_sem] at lhk2
    try simp only [go_sem] at xhk2
    try simp only [go_sem, n1, n2, n3, n4, hk1] at hk2
    all_goals
    obtain ⟨hk3, h⟩ := ck_some h
    rcases or_split hk3 with ⟨ghk3, hk3⟩ | ghk3
    · try simp only [go_sem, n1, n2, n3, n4, hk1, hk2] at ghk3
      all_goals
      have lhk3 := ix_lt hk3
      have xhk3 := getD_mapD (AV.int .i64) list lhk3
      try simp only [go_sem] at lhk3
      try simp only [go_sem] at xhk3
      try simp only [go_sem, n1, n2, n3, n4, hk1, hk2, ghk3] at hk3
      all_goals
      rcases it_some h with ⟨hk4, h⟩ | ⟨hk4, h⟩
      · try simp only [go_sem, n1, n2, n3, n4, hk1, hk2, ghk3, hk3] at hk4
        all_goals
        obtain rfl := so_some h
        refine ⟨0, fun L hL => ?_⟩
        simp only [go_sem, ir22, E_laws_a2Rises_l1, R_laws_a2Rises_l1, ir22_b0, ir22_k0, ir22_o0, ir22_r0, hk1, hk2, lhk2, xhk2, ghk3, hk3, lhk3, xhk3, hk4]
      · try simp only [go_sem, n1, n2, n3, n4, hk1, hk2, ghk3, hk3] at hk4
        all_goals
        obtain rfl := so_some h
        refine ⟨0, fun L hL => ?_⟩
        simp only [go_sem, ir22, E_laws_a2Rises_l1, R_laws_a2Rises_l1, ir22_b0, ir22_k0, ir22_o0, ir22_r0, hk1, hk2, lhk2, xhk2, ghk3, hk3, lhk3, xhk3, hk4]
    · rcases and_f ghk3 with ghk3a | ⟨ghk3a, ghk3b⟩
      · have ghk3an := no_f ghk3a
        rcases or_t ghk3an with ghk3ana | ⟨ghk3ana, ghk3anb⟩
        · try simp only [go_sem, n1, n2, n3, n4, hk1, hk2] at ghk3ana
          all_goals
          rcases it_some h with ⟨hk4, h⟩ | ⟨hk4, h⟩
          · try simp only [go_sem, n1, n2, n3, n4, hk1, hk2, ghk3ana] at hk4
            all_goals
            obtain rfl := so_some h
            refine ⟨0, fun L hL => ?_⟩
            simp only [go_sem, ir22, E_laws_a2Rises_l1, R_laws_a2Rises_l1, ir22_b0, ir22_k0, ir22_o0, ir22_r0, hk1, hk2, lhk2, xhk2, ghk3ana, hk4]
          · try simp only [go_sem, n1, n2, n3, n4, hk1, hk2, ghk3ana] at hk4
            all_goals
            (simp_all)
        · try simp only [go_sem, n1, n2, n3, n4, hk1, hk2] at ghk3ana
          all_goals
          try simp only [go_sem, n1, n2, n3, n4, hk1, hk2, ghk3ana] at ghk3anb
          all_goals
          rcases it_some h with ⟨hk4, h⟩ | ⟨hk4, h⟩
          · try simp only [go_sem, n1, n2, n3, n4, hk1, hk2, ghk3ana, ghk3anb] at hk4
            all_goals
            obtain rfl := so_some h
            refine ⟨0, fun L hL => ?_⟩
            simp only [go_sem, ir22, E_laws_a2Rises_l1, R_laws_a2Rises_l1, ir22_b0, ir22_k0, ir22_o0, ir22_r0, hk1, hk2, lhk2, xhk2, ghk3ana, ghk3anb, hk4]
          · try simp only [go_sem, n1, n2, n3, n4, hk1, hk2, ghk3ana, ghk3anb] at hk4
            all_goals
            (simp_all)
      · have ghk3an := no_t ghk3a
        obtain ⟨ghk3ana, ghk3anb⟩ := or_f ghk3an
        try simp only [go_sem, n1, n2, n3, n4, hk1, hk2] at ghk3ana
        all_goals
        try simp only [go_sem, n1, n2, n3, n4, hk1, hk2, ghk3ana] at ghk3anb
        all_goals
        try simp only [go_sem, n1, n2, n3, n4, hk1, hk2, ghk3ana, ghk3anb] at ghk3b
        all_goals
        rcases it_some h with ⟨hk4, h⟩ | ⟨hk4, h⟩
        · try simp only [go_sem, n1, n2, n3, n4, hk1, hk2, ghk3ana, ghk3anb, ghk3b] at hk4
          all_goals
          (simp_all)
        · try simp only [go_sem, n1, n2, n3, n4, hk1, hk2, ghk3ana, ghk3anb, ghk3b] at hk4
          all_goals
          obtain rfl := so_some h
          refine ⟨0, fun L hL => ?_⟩
          simp only [go_sem, ir22, E_laws_a2Rises_l1, R_laws_a2Rises_l1, ir22_b0, ir22_k0, ir22_o0, ir22_r0, hk1, hk2, lhk2, xhk2, ghk3ana, ghk3anb, ghk3b, hk4]
  · try simp only [go_sem, n1, n2, n3, n4] at hk1
    all_goals
    obtain rfl := so_some h
    refine ⟨0, fun L hL => ?_⟩
    simp only [go_sem, ir22, E_laws_a2Rises_l1, R_laws_a2Rises_l1, ir22_b0, ir22_k0, ir22_o0, ir22_r0, hk1]

theorem Fs_laws_a2Rises {list : List Int} {n : Int} {y_ : Bool} (h : laws_a2Rises list n = some y_) : c_laws_a2Rises.F [.sl 1 (List.map (AV.int .i64) list), .int .i64 n] = ⟨true, .bool y_, [.any, .any]⟩ := by
  refine mkF_E rfl ?_
  dsimp only [laws_a2Rises] at h
  obtain ⟨y_5, hk5, h⟩ := bd_some h
  obtain ⟨Lhk5, ehk5⟩ := laws_a2Rises_l1_ex hk5
  rcases y_5 with y_5a | y_5b
  · dsimp only at h
    obtain rfl := so_some h
    refine ⟨Lhk5, fun L hL => ?_⟩
    have ehk5 := ehk5 L (by omega)
    try simp only [go_sem, E_laws_a2Rises_l1, R_laws_a2Rises_l1, ir22_k0, ir22_o0, ir22_r0] at ehk5
    simp only [go_sem, ir22, E_laws_a2Rises_l1, R_laws_a2Rises_l1, ir22_k0, ir22_o0, ir22_r0, ehk5]
  · dsimp only at h
    obtain rfl := so_some h
    refine ⟨Lhk5, fun L hL => ?_⟩
    have ehk5 := ehk5 L (by omega)
    try simp only [go_sem, E_laws_a2Rises_l1, R_laws_a2Rises_l1, ir22_k0, ir22_o0, ir22_r0] at ehk5
    simp only [go_sem, ir22, E_laws_a2Rises_l1, R_laws_a2Rises_l1, ir22_k0, ir22_o0, ir22_r0, ehk5]


def ir4_b0 : IR := .seq (.test false [
    ⟨.push, 96, none, .mov (.v 14)⟩,
    ⟨.push, 97, none, .mov (.v 6)⟩,
    ⟨.push, 98, none, .len false (.s 0)⟩,
    ⟨.push, 99, none, .bin false .lss (.s 2) (.s 0)⟩] (.s 0)
  (.skip)
  (.exit 0))
 (.seq (.block 1 (.seq (.test false [
      ⟨.push, 102, none, .mov (.v 6)⟩,
      ⟨.push, 103, none, .mov (.v 14)⟩,
      ⟨.push, 104, none, .ixAddr 1 (.s 1) (.s 0)⟩,
      ⟨.push, 105, none, .load false 1 (.s 0)⟩,
      ⟨.push, 106, none, .mov (.v 3)⟩,
      ⟨.push, 107, none, .len false (.s 0)⟩,
      ⟨.push, 108, none, .call 22 [(.s 2), (.s 0)]⟩,
      ⟨.push, 109, none, .un .not (.s 0)⟩,
      ⟨.push, 110, none, .mov (.s 0)⟩,
      ⟨.push, 111, (some ((.s 0), false)), .mov (.v 6)⟩,
      ⟨.push, 112, (some ((.s 1), false)), .mov (.v 14)⟩,
      ⟨.push, 113, (some ((.s 2), false)), .ixAddr 1 (.s 1) (.s 0)⟩,
      ⟨.push, 114, (some ((.s 3), false)), .load false 1 (.s 0)⟩,
      ⟨.push, 115, (some ((.s 4), false)), .len false (.s 0)⟩,
      ⟨.push, 116, (some ((.s 5), false)), .bin false .neq (.s 0) (.c (.int .i64 (2)))⟩,
      ⟨.push, 117, none, .pick (.s 6) (.c (.bool true)) (.s 0)⟩] (.s 0)
    (.seq (.region false [
        ⟨.var 2, 4, none, .mov (.c (.bool false))⟩])
     (.ret))
    (.skip))
   (.seq (.region false [
      ⟨.push, 118, none, .mov (.v 3)⟩,
      ⟨.push, 119, none, .mov (.v 6)⟩,
      ⟨.push, 120, none, .mov (.v 14)⟩,
      ⟨.push, 121, none, .ixAddr 1 (.s 1) (.s 0)⟩,
      ⟨.push, 122, none, .load false 1 (.s 0)⟩,
      ⟨.push, 123, none, .ixAddr 1 (.s 0) (.c (.int .i64 (0)))⟩,
      ⟨.push, 124, none, .load false 1 (.s 0)⟩,
      ⟨.push, 125, none, .ixAddr 5 (.s 6) (.s 0)⟩,
      ⟨.push, 126, none, .load true 5 (.s 0)⟩,
      ⟨.var 15, 17, none, .alloc (.agg [.int .i64 (0), .str [], .str [], .int .i64 (0), .bool false])⟩,
      ⟨.no, 0, none, .store 5 (.v 15) (.s 0)⟩])
   (.seq (.region false [
      ⟨.push, 127, none, .mov (.v 3)⟩,
      ⟨.push, 128, none, .mov (.v 6)⟩,
      ⟨.push, 129, none, .mov (.v 14)⟩,
      ⟨.push, 130, none, .ixAddr 1 (.s 1) (.s 0)⟩,
      ⟨.push, 131, none, .load false 1 (.s 0)⟩,
      ⟨.push, 132, none, .ixAddr 1 (.s 0) (.c (.int .i64 (1)))⟩,
      ⟨.push, 133, none, .load false 1 (.s 0)⟩,
      ⟨.push, 134, none, .ixAddr 5 (.s 6) (.s 0)⟩,
      ⟨.push, 135, none, .load true 5 (.s 0)⟩,
      ⟨.var 16, 18, none, .alloc (.agg [.int .i64 (0), .str [], .str [], .int .i64 (0), .bool false])⟩,
      ⟨.no, 0, none, .store 5 (.v 16) (.s 0)⟩])
   (.test false [
     ⟨.push, 136, none, .fldAddr 1 (.v 15)⟩,
     ⟨.push, 137, none, .load false 1 (.s 0)⟩,
     ⟨.push, 138, none, .fldAddr 1 (.v 16)⟩,
     ⟨.push, 139, none, .load false 1 (.s 0)⟩,
     ⟨.push, 140, none, .bin false .neq (.s 2) (.s 0)⟩,
     ⟨.push, 141, none, .mov (.s 0)⟩,
     ⟨.push, 142, (some ((.s 0), false)), .fldAddr 0 (.v 16)⟩,
     ⟨.push, 143, (some ((.s 1), false)), .load false 1 (.s 0)⟩,
     ⟨.push, 144, (some ((.s 2), false)), .fldAddr 0 (.v 15)⟩,
     ⟨.push, 145, (some ((.s 3), false)), .load false 1 (.s 0)⟩,
     ⟨.push, 146, (some ((.s 4), false)), .bin false .sub (.s 2) (.s 0)⟩,
     ⟨.push, 147, (some ((.s 5), false)), .mov (.v 4)⟩,
     ⟨.push, 148, (some ((.s 6), false)), .bin false .gtr (.s 1) (.s 0)⟩,
     ⟨.push, 149, none, .pick (.s 7) (.c (.bool true)) (.s 0)⟩,
     ⟨.push, 150, none, .mov (.s 0)⟩,
     ⟨.push, 151, (some ((.s 0), false)), .fldAddr 4 (.v 15)⟩,
     ⟨.push, 152, (some ((.s 1), false)), .load false 1 (.s 0)⟩,
     ⟨.push, 153, (some ((.s 2), false)), .mov (.s 0)⟩,
     ⟨.push, 154, (some ((.s 0), true)), .fldAddr 4 (.v 16)⟩,
     ⟨.push, 155, (some ((.s 1), true)), .load false 1 (.s 0)⟩,
     ⟨.push, 156, (some ((.s 5), false)), .pick (.s 2) (.s 0) (.c (.bool false))⟩,
     ⟨.push, 157, none, .pick (.s 6) (.c (.bool true)) (.s 0)⟩] (.s 0)
   (.seq (.region false [
       ⟨.var 2, 4, none, .mov (.c (.bool false))⟩])
    (.ret))
   (.skip))))))
 (.region false [
   ⟨.push, 100, none, .mov (.v 14)⟩,
   ⟨.push, 101, none, .bin false .add (.s 0) (.c (.int .i64 (1)))⟩,
   ⟨.var 14, 16, none, .mov (.s 0)⟩]))
def ir4_k0 : List Bool := [false, false, false, true, true, false, true, false, false, false, false, false, false, false, true, false, false]
def ir4_o0 : List Bool := [false, false, false, false, false, false, false, false, false, false, false, false, false, false, false, false, false]
def ir4_r0 : List Bool := [false, false, true, false, false, false, false, false, false, false, false, false, false, false, false, false, false]
def ir4_v : List Nat := [0, 1, 4, 5, 6, 7, 8, 9, 10, 11, 12, 13, 14, 15, 16, 17, 18]
def ir4 : AFn := ⟨2, 17, .seq (.region false [
    ⟨.var 2, 4, none, .mov (.c (.bool false))⟩])
 (.seq (.test false [
    ⟨.push, 19, none, .mov (.v 0)⟩,
    ⟨.push, 20, none, .mov (.v 1)⟩,
    ⟨.push, 21, none, .call 17 [(.s 1), (.s 0)]⟩] (.s 0)
  (.seq (.region false [
      ⟨.var 2, 4, none, .mov (.c (.bool true))⟩])
   (.ret))
  (.skip))
 (.seq (.region false [
    ⟨.push, 22, none, .mov (.v 0)⟩,
    ⟨.push, 23, none, .call 18 [(.s 0)]⟩,
    ⟨.var 3, 5, none, .mov (.s 0)⟩])
 (.seq (.region false [
    ⟨.push, 24, none, .mov (.v 1)⟩,
    ⟨.push, 25, none, .call 19 [(.s 0), (.c (.int .i64 (0))), (.c (.int .i64 (256)))]⟩,
    ⟨.push, 26, none, .bin false .mul (.c (.int .i64 (100))) (.s 0)⟩,
    ⟨.var 4, 6, none, .mov (.s 0)⟩])
 (.seq (.region false [
    ⟨.push, 27, none, .mov (.v 1)⟩,
    ⟨.push, 28, none, .call 19 [(.s 0), (.c (.int .i64 (1))), (.c (.int .i64 (256)))]⟩,
    ⟨.push, 29, none, .bin false .mul (.c (.int .i64 (5))) (.s 0)⟩,
    ⟨.push, 30, none, .bin false .add (.c (.int .i64 (1))) (.s 0)⟩,
    ⟨.var 5, 7, none, .mov (.s 0)⟩])
 (.seq (.region false [
    ⟨.push, 32, none, .mov (.v 3)⟩,
    ⟨.push, 33, none, .mov (.v 4)⟩,
    ⟨.push, 34, none, .mov (.v 5)⟩,
    ⟨.push, 35, none, .call 20 [(.s 2), (.s 1), (.s 0)]⟩,
    ⟨.push, 31, none, .mov (.s 0)⟩,
    ⟨.push, 36, none, .ext (.s 0) 0⟩,
    ⟨.push, 37, none, .ext (.s 1) 1⟩,
    ⟨.var 6, 8, none, .mov (.s 1)⟩,
    ⟨.var 7, 9, none, .mov (.s 0)⟩])
 (.seq (.region false [
    ⟨.push, 39, none, .mov (.v 3)⟩,
    ⟨.push, 40, none, .mov (.v 4)⟩,
    ⟨.push, 41, none, .mov (.v 5)⟩,
    ⟨.push, 42, none, .bin false .add (.s 0) (.c (.int .i64 (100)))⟩,
    ⟨.push, 43, none, .call 20 [(.s 3), (.s 2), (.s 0)]⟩,
    ⟨.push, 38, none, .mov (.s 0)⟩,
    ⟨.push, 44, none, .ext (.s 0) 0⟩,
    ⟨.push, 45, none, .ext (.s 1) 1⟩,
    ⟨.var 8, 10, none, .mov (.s 1)⟩,
    ⟨.var 9, 11, none, .mov (.s 0)⟩])
 (.seq (.region false [
    ⟨.push, 47, none, .mov (.v 3)⟩,
    ⟨.push, 48, none, .mov (.v 4)⟩,
    ⟨.push, 49, none, .bin false .add (.s 0) (.c (.int .i64 (500)))⟩,
    ⟨.push, 50, none, .mov (.v 5)⟩,
    ⟨.push, 51, none, .call 20 [(.s 3), (.s 1), (.s 0)]⟩,
    ⟨.push, 46, none, .mov (.s 0)⟩,
    ⟨.push, 52, none, .ext (.s 0) 0⟩,
    ⟨.push, 53, none, .ext (.s 1) 1⟩,
    ⟨.var 10, 12, none, .mov (.s 1)⟩,
    ⟨.var 11, 13, none, .mov (.s 0)⟩])
 (.seq (.region false [
    ⟨.push, 55, none, .mov (.v 3)⟩,
    ⟨.push, 56, none, .mov (.v 4)⟩,
    ⟨.push, 57, none, .mov (.v 5)⟩,
    ⟨.push, 58, none, .call 21 [(.s 2), (.s 1), (.s 0)]⟩,
    ⟨.push, 54, none, .mov (.s 0)⟩,
    ⟨.push, 59, none, .ext (.s 0) 0⟩,
    ⟨.push, 60, none, .ext (.s 1) 1⟩,
    ⟨.var 12, 14, none, .mov (.s 1)⟩,
    ⟨.var 13, 15, none, .mov (.s 0)⟩])
 (.seq (.test false [
    ⟨.push, 61, none, .mov (.v 7)⟩,
    ⟨.push, 62, none, .bin false .neq (.s 0) (.c (.int .i64 (0)))⟩,
    ⟨.push, 63, none, .mov (.s 0)⟩,
    ⟨.push, 64, (some ((.s 0), false)), .mov (.v 9)⟩,
    ⟨.push, 65, (some ((.s 1), false)), .bin false .neq (.s 0) (.c (.int .i64 (0)))⟩,
    ⟨.push, 66, none, .pick (.s 2) (.c (.bool true)) (.s 0)⟩,
    ⟨.push, 67, none, .mov (.s 0)⟩,
    ⟨.push, 68, (some ((.s 0), false)), .mov (.v 11)⟩,
    ⟨.push, 69, (some ((.s 1), false)), .bin false .neq (.s 0) (.c (.int .i64 (0)))⟩,
    ⟨.push, 70, none, .pick (.s 2) (.c (.bool true)) (.s 0)⟩,
    ⟨.push, 71, none, .mov (.s 0)⟩,
    ⟨.push, 72, (some ((.s 0), false)), .mov (.v 13)⟩,
    ⟨.push, 73, (some ((.s 1), false)), .bin false .neq (.s 0) (.c (.int .i64 (0)))⟩,
    ⟨.push, 74, none, .pick (.s 2) (.c (.bool true)) (.s 0)⟩,
    ⟨.push, 75, none, .mov (.s 0)⟩,
    ⟨.push, 76, (some ((.s 0), false)), .mov (.v 6)⟩,
    ⟨.push, 77, (some ((.s 1), false)), .len false (.s 0)⟩,
    ⟨.push, 78, (some ((.s 2), false)), .mov (.v 12)⟩,
    ⟨.push, 79, (some ((.s 3), false)), .len false (.s 0)⟩,
    ⟨.push, 80, (some ((.s 4), false)), .bin false .neq (.s 2) (.s 0)⟩,
    ⟨.push, 81, none, .pick (.s 5) (.c (.bool true)) (.s 0)⟩,
    ⟨.push, 82, none, .mov (.s 0)⟩,
    ⟨.push, 83, (some ((.s 0), false)), .mov (.v 8)⟩,
    ⟨.push, 84, (some ((.s 1), false)), .len false (.s 0)⟩,
    ⟨.push, 85, (some ((.s 2), false)), .mov (.v 6)⟩,
    ⟨.push, 86, (some ((.s 3), false)), .len false (.s 0)⟩,
    ⟨.push, 87, (some ((.s 4), false)), .bin false .gtr (.s 2) (.s 0)⟩,
    ⟨.push, 88, none, .pick (.s 5) (.c (.bool true)) (.s 0)⟩,
    ⟨.push, 89, none, .mov (.s 0)⟩,
    ⟨.push, 90, (some ((.s 0), false)), .mov (.v 10)⟩,
    ⟨.push, 91, (some ((.s 1), false)), .len false (.s 0)⟩,
    ⟨.push, 92, (some ((.s 2), false)), .mov (.v 6)⟩,
    ⟨.push, 93, (some ((.s 3), false)), .len false (.s 0)⟩,
    ⟨.push, 94, (some ((.s 4), false)), .bin false .lss (.s 2) (.s 0)⟩,
    ⟨.push, 95, none, .pick (.s 5) (.c (.bool true)) (.s 0)⟩] (.s 0)
  (.seq (.region false [
      ⟨.var 2, 4, none, .mov (.c (.bool false))⟩])
   (.ret))
  (.skip))
 (.seq (.seq (.region false [
     ⟨.var 14, 16, none, .mov (.c (.int .i64 (0)))⟩])
  (.block 0 (.loop ir4_k0 ir4_o0 ir4_r0 ir4_b0)))
 (.seq (.region false [
    ⟨.var 2, 4, none, .mov (.c (.bool true))⟩])
 (.ret)))))))))))), [.t 2]⟩
noncomputable def t_laws_FnAgainst : List (Nat × Ctr) := [(17, c_laws_a2Long), (18, c_spec_A2Estimates), (19, c_laws_a2At), (20, c_impl_Contradictions), (21, c_spec_Contradictions), (22, c_laws_a2Rises)]
theorem lk_laws_FnAgainst_17 : look t_laws_FnAgainst 17 = some c_laws_a2Long := rfl
theorem lk_laws_FnAgainst_18 : look t_laws_FnAgainst 18 = some c_spec_A2Estimates := rfl
theorem lk_laws_FnAgainst_19 : look t_laws_FnAgainst 19 = some c_laws_a2At := rfl
theorem lk_laws_FnAgainst_20 : look t_laws_FnAgainst 20 = some c_impl_Contradictions := rfl
theorem lk_laws_FnAgainst_21 : look t_laws_FnAgainst 21 = some c_spec_Contradictions := rfl
theorem lk_laws_FnAgainst_22 : look t_laws_FnAgainst 22 = some c_laws_a2Rises := rfl
noncomputable def c_laws_FnAgainst : Ctr := mkF t_laws_FnAgainst ir4 [.bor, .bor]
theorem s_laws_FnAgainst : Sound Try.prog 4 c_laws_FnAgainst := mkF_sound _ rfl (snd_cons s_laws_a2Long (snd_cons s_spec_A2Estimates (snd_cons s_laws_a2At (snd_cons s_impl_Contradictions (snd_cons s_spec_Contradictions (snd_cons s_laws_a2Rises snd_nil)))))) (by kernel_rfl : chkFn Try.prog 4 ir4 ir4_v = true)
theorem M_laws_FnAgainst : c_laws_FnAgainst.modes = [.bor, .bor] := rfl
theorem Fl_laws_FnAgainst : c_laws_FnAgainst.flat = true := rfl
attribute [go_sem] M_laws_FnAgainst Fl_laws_FnAgainst
attribute [go_sem] lk_laws_FnAgainst_17 lk_laws_FnAgainst_18 lk_laws_FnAgainst_19 lk_laws_FnAgainst_20 lk_laws_FnAgainst_21 lk_laws_FnAgainst_22
def E_laws_FnAgainst_l1 (list : List Estimate) (apart : Int) (some_ : List (List Int)) : Int → St
  | i => ⟨[.any, .any, .any, .sl 5 (List.map Estimate_av list), .int .i64 apart, .any, .own 3200000, .any, .any, .any, .any, .any, .any, .any, .int .i64 i, .any, .any], [], [(3200000, ⟨1, List.map (slE 1 (AV.int .i64)) some_⟩)], true⟩
def R_laws_FnAgainst_l1 (list : List Estimate) (apart : Int) (some_ : List (List Int)) : (Unit ⊕ Bool) → Res
  | .inl y => (.exit 0, ⟨[.any, .any, .any, .any, .any, .any, .any, .any, .any, .any, .any, .any, .any, .any, .any, .any, .any], [], [], true⟩)
  | .inr y => (.ret, ⟨[.any, .any, .bool y, .any, .any, .any, .any, .any, .any, .any, .any, .any, .any, .any, .any, .any, .any], [], [], true⟩)
theorem laws_FnAgainst_l1_ex {list : List Estimate} {apart : Int} {some_ : List (List Int)} {sgm_ : Int} {rho_ : Unit ⊕ Bool} (h : whileE (laws_FnAgainst_l1 list apart some_) sgm_ = some rho_) : ∃ L0, ∀ L, L0 ≤ L → iter (exec (look t_laws_FnAgainst) L ir4_b0) ir4_k0 ir4_o0 ir4_r0 L (E_laws_FnAgainst_l1 list apart some_ sgm_) = R_laws_FnAgainst_l1 list apart some_ rho_ := by
  refine loop_ex (E := E_laws_FnAgainst_l1 list apart some_) (R := R_laws_FnAgainst_l1 list apart some_) (fun y => by first | (intro c; cases c) | (rcases y with y | y <;> (intro c; cases c)) | (rcases y with y | y | y <;> (intro c; cases c))) ?_ h
  clear h
  intro i o_ h
  dsimp only [laws_FnAgainst_l1] at h
  rcases it_some h with ⟨hk11, h⟩ | ⟨hk11, h⟩
  · try simp only [go_sem, n1, n2, n3, n4] at hk11
    all_goals
    obtain ⟨hk12, h⟩ := ck_some h
    have lhk12 := ix_lt hk12
    have xhk12 := getD_mapD (slE 1 (AV.int .i64)) some_ lhk12
    try simp only [go_sem] at lhk12
    try simp only [go_sem] at xhk12
    try simp only [go_sem, n1, n2, n3, n4, hk11] at hk12
    all_goals
    obtain ⟨y_13, hk13, h⟩ := bd_some h
    have fhk13 := Fs_laws_a2Rises hk13
    try simp only [go_sem, hk11, hk12] at fhk13
    rcases it_some h with ⟨hk14, h⟩ | ⟨hk14, h⟩
    · try simp only [go_sem, n1, n2, n3, n4, hk11, hk12] at hk14
      all_goals
      obtain rfl := so_some h
      refine ⟨0, fun L hL => ?_⟩
      simp only [go_sem, ir4, E_laws_FnAgainst_l1, R_laws_FnAgainst_l1, ir4_b0, ir4_k0, ir4_o0, ir4_r0, hk11, hk12, lhk12, xhk12, fhk13, hk14]
    · try simp only [go_sem, n1, n2, n3, n4, hk11, hk12] at hk14
      all_goals
      obtain ⟨hk15, h⟩ := ck_some h
      have lhk15 := ix_lt hk15
      have xhk15 := getD_mapD (AV.int .i64) (some_.getD i.toNat default) lhk15
      try simp only [go_sem] at lhk15
      try simp only [go_sem] at xhk15
      try simp only [go_sem, n1, n2, n3, n4, hk11, hk12, hk14] at hk15
      all_goals
      obtain ⟨hk16, h⟩ := ck_some h
      have lhk16 := ix_lt hk16
      have xhk16 := getD_mapD Estimate_av list lhk16
      try simp only [go_sem] at lhk16
      try simp only [go_sem] at xhk16
      try simp only [go_sem, n1, n2, n3, n4, hk11, hk12, hk14, hk15] at hk16
      all_goals
      obtain ⟨hk17, h⟩ := ck_some h
      have lhk17 := ix_lt hk17
      have xhk17 := getD_mapD (AV.int .i64) (some_.getD i.toNat default) lhk17
      try simp only [go_sem] at lhk17
      try simp only [go_sem] at xhk17
      try simp only [go_sem, n1, n2, n3, n4, hk11, hk12, hk14, hk15, hk16] at hk17
      all_goals
      obtain ⟨hk18, h⟩ := ck_some h
      have lhk18 := ix_lt hk18
      have xhk18 := getD_mapD Estimate_av list lhk18
      try simp only [go_sem] at lhk18
      try simp only [go_sem] at xhk18
      try simp only [go_sem, n1, n2, n3, n4, hk11, hk12, hk14, hk15, hk16, hk17] at hk18
      all_goals
      rcases it_some h with ⟨hk19, h⟩ | ⟨hk19, h⟩
      · try simp only [go_sem, n1, n2, n3, n4, hk11, hk12, hk14, hk15, hk16, hk17, hk18] at hk19
        all_goals
        obtain rfl := so_some h
        refine ⟨0, fun L hL => ?_⟩
        simp only [go_sem, ir4, E_laws_FnAgainst_l1, R_laws_FnAgainst_l1, ir4_b0, ir4_k0, ir4_o0, ir4_r0, hk11, hk12, lhk12, xhk12, fhk13, hk14, hk15, lhk15, xhk15, hk16, lhk16, xhk16, hk17, lhk17, xhk17, hk18, lhk18, xhk18, hk19]
      · try simp only [go_sem, n1, n2, n3, n4, hk11, hk12, hk14, hk15, hk16, hk17, hk18] at hk19
        all_goals
        obtain rfl := so_some h
        refine ⟨0, fun L hL => ?_⟩
        simp only [go_sem, ir4, E_laws_FnAgainst_l1, R_laws_FnAgainst_l1, ir4_b0, ir4_k0, ir4_o0, ir4_r0, hk11, hk12, lhk12, xhk12, fhk13, hk14, hk15, lhk15, xhk15, hk16, lhk16, xhk16, hk17, lhk17, xhk17, hk18, lhk18, xhk18, hk19]
  · try simp only [go_sem, n1, n2, n3, n4] at hk11
    all_goals
    obtain rfl := so_some h
    refine ⟨0, fun L hL => ?_⟩
    simp only [go_sem, ir4, E_laws_FnAgainst_l1, R_laws_FnAgainst_l1, ir4_b0, ir4_k0, ir4_o0, ir4_r0, hk11]

theorem Fs_laws_FnAgainst {code : List UInt8} {more : List UInt8} {y_ : Bool} (h : laws_FnAgainst code more = some y_) : c_laws_FnAgainst.F [.sl 1 (List.map byteAV code), .sl 1 (List.map byteAV more)] = ⟨true, .bool y_, [.any, .any]⟩ := by
  refine mkF_E rfl ?_
  dsimp only [laws_FnAgainst] at h
  obtain ⟨y_1, hk1, h⟩ := bd_some h
  have fhk1 := Fs_laws_a2Long hk1
  try simp only [go_sem] at fhk1
  rcases it_some h with ⟨hk2, h⟩ | ⟨hk2, h⟩
  · try simp only [go_sem, n1, n2, n3, n4] at hk2
    all_goals
    obtain rfl := so_some h
    refine ⟨0, fun L hL => ?_⟩
    simp only [go_sem, ir4, E_laws_FnAgainst_l1, R_laws_FnAgainst_l1, ir4_k0, ir4_o0, ir4_r0, fhk1, hk2]
  · try simp only [go_sem, n1, n2, n3, n4] at hk2
    all_goals
    obtain ⟨y_3, hk3, h⟩ := bd_some h
    have fhk3 := Fs_spec_A2Estimates hk3
    try simp only [go_sem, hk2] at fhk3
    obtain ⟨y_4, hk4, h⟩ := bd_some h
    have fhk4 := Fs_laws_a2At hk4
    try simp only [go_sem, hk2] at fhk4
    obtain ⟨y_5, hk5, h⟩ := bd_some h
    have fhk5 := Fs_laws_a2At hk5
    try simp only [go_sem, hk2] at fhk5
    obtain ⟨y_6, hk6, h⟩ := bd_some h
    have fhk6 := Fs_impl_Contradictions hk6
    try simp only [go_sem, hk2] at fhk6
    obtain ⟨y_7, hk7, h⟩ := bd_some h
    have fhk7 := Fs_impl_Contradictions hk7
    try simp only [go_sem, hk2] at fhk7
    obtain ⟨y_8, hk8, h⟩ := bd_some h
    have fhk8 := Fs_impl_Contradictions hk8
    try simp only [go_sem, hk2] at fhk8
    obtain ⟨y_9, hk9, h⟩ := bd_some h
    have fhk9 := Fs_spec_Contradictions hk9
    try simp only [go_sem, hk2] at fhk9
    rcases it_some h with ⟨hk10, h⟩ | ⟨hk10, h⟩
    · try simp only [go_sem, n1, n2, n3, n4, hk2] at hk10
      all_goals
      obtain rfl := so_some h
      refine ⟨0, fun L hL => ?_⟩
      simp only [go_sem, ir4, E_laws_FnAgainst_l1, R_laws_FnAgainst_l1, ir4_k0, ir4_o0, ir4_r0, fhk1, hk2, fhk3, fhk4, fhk5, fhk6, fhk7, fhk8, fhk9, hk10]
    · try simp only [go_sem, n1, n2, n3, n4, hk2] at hk10
      all_goals
      obtain ⟨y_20, hk20, h⟩ := bd_some h
      obtain ⟨Lhk20, ehk20⟩ := laws_FnAgainst_l1_ex hk20
      rcases y_20 with y_20a | y_20b
      · dsimp only at h
        obtain rfl := so_some h
        refine ⟨Lhk20, fun L hL => ?_⟩
        have ehk20 := ehk20 L (by omega)
        try simp only [go_sem, E_laws_FnAgainst_l1, R_laws_FnAgainst_l1, ir4_k0, ir4_o0, ir4_r0, hk2, hk10] at ehk20
        simp only [go_sem, ir4, E_laws_FnAgainst_l1, R_laws_FnAgainst_l1, ir4_k0, ir4_o0, ir4_r0, fhk1, hk2, fhk3, fhk4, fhk5, fhk6, fhk7, fhk8, fhk9, hk10, ehk20]
      · dsimp only at h
        obtain rfl := so_some h
        refine ⟨Lhk20, fun L hL => ?_⟩
        have ehk20 := ehk20 L (by omega)
        try simp only [go_sem, E_laws_FnAgainst_l1, R_laws_FnAgainst_l1, ir4_k0, ir4_o0, ir4_r0, hk2, hk10] at ehk20
        simp only [go_sem, ir4, E_laws_FnAgainst_l1, R_laws_FnAgainst_l1, ir4_k0, ir4_o0, ir4_r0, fhk1, hk2, fhk3, fhk4, fhk5, fhk6, fhk7, fhk8, fhk9, hk10, ehk20]


end Go.Proofs.Ytpjpfdoaemoddaa
