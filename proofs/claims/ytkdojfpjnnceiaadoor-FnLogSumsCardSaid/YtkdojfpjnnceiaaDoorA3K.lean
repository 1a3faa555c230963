/- Codes and contracts of the functions that A3 reaches, and that their typed forms say what they do. No condition. -/
import Derived.Test.YtkdojfpjnnceiaaDoorRFT
import Derived.Test.YtkdojfpjnnceiaaDoorEngSCut
import Derived.Test.YtkdojfpjnnceiaaDoorEngSF
import Derived.Test.YtkdojfpjnnceiaaDoorEngSRd
import Derived.Test.YtkdojfpjnnceiaaDoorRows
import Derived.WalkKit
namespace Go.Proofs.YtkdojfpjnnceiaaDoor
open Go Go.RowKit
set_option linter.unusedVariables false
set_option linter.unusedSimpArgs false
set_option maxRecDepth 10000

def ir9_v : List Nat := [0, 1, 4]
def ir9 : AFn := ⟨2, 3, .seq (.region false [
    ⟨.var 2, 4, none, .mov (.c (.bool false))⟩])
 (.seq (.region false [
    ⟨.push, 5, none, .mov (.v 0)⟩,
    ⟨.push, 6, none, .len false (.s 0)⟩,
    ⟨.push, 7, none, .bin false .gtr (.s 0) (.c (.int .i64 (3000)))⟩,
    ⟨.push, 8, none, .mov (.s 0)⟩,
    ⟨.push, 9, (some ((.s 0), false)), .mov (.v 1)⟩,
    ⟨.push, 10, (some ((.s 1), false)), .len false (.s 0)⟩,
    ⟨.push, 11, (some ((.s 2), false)), .bin false .gtr (.s 0) (.c (.int .i64 (3000)))⟩,
    ⟨.push, 12, none, .pick (.s 3) (.c (.bool true)) (.s 0)⟩,
    ⟨.var 2, 4, none, .mov (.s 0)⟩])
 (.ret)), [.t 2]⟩
noncomputable def t_laws_a2Long : List (Nat × Ctr) := []
noncomputable def c_laws_a2Long : Ctr := mkF t_laws_a2Long ir9 [.bor, .bor]
theorem s_laws_a2Long : Sound Tryd.prog 9 c_laws_a2Long := mkF_sound _ rfl snd_nil (by kernel_rfl : chkFn Tryd.prog 9 ir9 ir9_v = true)
theorem M_laws_a2Long : c_laws_a2Long.modes = [.bor, .bor] := rfl
theorem Fl_laws_a2Long : c_laws_a2Long.flat = true := rfl
attribute [go_sem] M_laws_a2Long Fl_laws_a2Long
theorem Fs_laws_a2Long {code : List UInt8} {more : List UInt8} {y_ : Bool} (h : laws_a2Long code more = some y_) : c_laws_a2Long.F [.sl 1 (List.map byteAV code), .sl 1 (List.map byteAV more)] = ⟨true, .bool y_, [.any, .any]⟩ := by
  refine mkF_E rfl ?_
  dsimp only [laws_a2Long] at h
  obtain rfl := so_some h
  refine ⟨0, fun L hL => ?_⟩
  simp only [go_sem, ir9]


def ir31_v : List Nat := [0, 2]
def ir31 : AFn := ⟨1, 2, .seq (.region false [
    ⟨.var 1, 2, none, .mov (.c (.cv (.pointer none)))⟩])
 (.seq (.region false [
    ⟨.push, 3, none, .mov (.v 0)⟩,
    ⟨.push, 4, none, .build [.sl 1 [], .int .i64 (0), .int .u64 (0)] [(0, 1, (.s 0))]⟩,
    ⟨.push, 5, none, .box (.s 0)⟩,
    ⟨.var 1, 2, none, .mov (.s 0)⟩])
 (.ret)), [.t 1]⟩
noncomputable def t_spec_l00From : List (Nat × Ctr) := []
noncomputable def c_spec_l00From : Ctr := mkN t_spec_l00From ir31 [.bor]
theorem s_spec_l00From : Sound Tryd.prog 31 c_spec_l00From := mkN_sound _ snd_nil (by kernel_rfl : chkFn Tryd.prog 31 ir31 ir31_v = true)
theorem M_spec_l00From : c_spec_l00From.modes = [.bor] := rfl
theorem Fl_spec_l00From : c_spec_l00From.flat = false := rfl
attribute [go_sem] M_spec_l00From Fl_spec_l00From
theorem Fs_spec_l00From {code : List UInt8} {y_ : L00Src} (h : spec_l00From code = some y_) : c_spec_l00From.F [.sl 1 (List.map byteAV code)] = ⟨true, .mem 3 [L00Src_av y_], [.any]⟩ := by
  refine mkN_E ?_
  dsimp only [spec_l00From] at h
  obtain rfl := so_some h
  refine ⟨0, fun L hL => ?_⟩
  simp only [go_sem, ir31]


def ir68_v : List Nat := [0, 2, 3]
def ir68 : AFn := ⟨1, 3, .seq (.region false [
    ⟨.var 1, 2, none, .mov (.c (.int .i64 (0)))⟩])
 (.seq (.region false [
    ⟨.var 2, 3, none, .mov (.c (.int .i64 (0)))⟩])
 (.seq (.anyo 10 [
    ⟨.slot 0, 4, none, .mov (.v 0)⟩,
    ⟨.slot 1, 5, none, .nilck (.s 0)⟩,
    ⟨.slot 2, 6, none, .fldAddr 1 (.s 1)⟩,
    ⟨.slot 3, 7, none, .load false 1 (.s 2)⟩,
    ⟨.slot 4, 8, none, .mov (.v 0)⟩,
    ⟨.slot 5, 9, none, .nilck (.s 4)⟩,
    ⟨.slot 6, 10, none, .fldAddr 0 (.s 5)⟩,
    ⟨.slot 7, 11, none, .load false 1 (.s 6)⟩,
    ⟨.slot 8, 12, none, .len false (.s 7)⟩,
    ⟨.slot 9, 13, none, .bin false .lss (.s 3) (.s 8)⟩] [] (.cond (.s 9)
  (.anyo 11 [
     ⟨.slot 0, 14, none, .mov (.v 0)⟩,
     ⟨.slot 1, 15, none, .nilck (.s 0)⟩,
     ⟨.slot 2, 16, none, .fldAddr 0 (.s 1)⟩,
     ⟨.slot 3, 17, none, .load false 1 (.s 2)⟩,
     ⟨.slot 4, 18, none, .mov (.v 0)⟩,
     ⟨.slot 5, 19, none, .nilck (.s 4)⟩,
     ⟨.slot 6, 20, none, .fldAddr 1 (.s 5)⟩,
     ⟨.slot 7, 21, none, .load false 1 (.s 6)⟩,
     ⟨.slot 8, 22, none, .ixAddr 1 (.s 3) (.s 7)⟩,
     ⟨.slot 9, 23, none, .load false 1 (.s 8)⟩,
     ⟨.slot 10, 24, none, .conv .i64 (.s 9)⟩,
     ⟨.var 2, 3, none, .mov (.s 10)⟩] [] .skip)
  (.skip)))
 (.seq (.region false [
    ⟨.push, 25, none, .mov (.v 0)⟩,
    ⟨.push, 26, none, .nilck (.s 0)⟩,
    ⟨.push, 27, none, .fldAddr 1 (.s 0)⟩,
    ⟨.push, 28, none, .load false 1 (.s 0)⟩,
    ⟨.push, 29, none, .bin false .add (.s 0) (.c (.int .i64 (1)))⟩,
    ⟨.push, 30, none, .nilck (.s 4)⟩,
    ⟨.push, 31, none, .fldAddr 1 (.s 0)⟩,
    ⟨.no, 0, none, .store 1 (.s 0) (.s 2)⟩])
 (.seq (.region false [
    ⟨.push, 32, none, .mov (.v 0)⟩,
    ⟨.push, 33, none, .mov (.v 0)⟩,
    ⟨.push, 34, none, .nilck (.s 0)⟩,
    ⟨.push, 35, none, .fldAddr 2 (.s 0)⟩,
    ⟨.push, 36, none, .load false 1 (.s 0)⟩,
    ⟨.push, 37, none, .bin false .mul (.s 0) (.c (.int .u64 (6364136223846793005)))⟩,
    ⟨.push, 38, none, .mov (.v 2)⟩,
    ⟨.push, 39, none, .conv .u64 (.s 0)⟩,
    ⟨.push, 40, none, .bin false .add (.s 2) (.s 0)⟩,
    ⟨.push, 41, none, .bin false .add (.s 0) (.c (.int .u64 (1442695040888963407)))⟩,
    ⟨.push, 42, none, .nilck (.s 9)⟩,
    ⟨.push, 43, none, .fldAddr 2 (.s 0)⟩,
    ⟨.no, 0, none, .store 1 (.s 0) (.s 2)⟩])
 (.seq (.anyo 10 [
    ⟨.slot 0, 44, none, .mov (.v 0)⟩,
    ⟨.slot 1, 45, none, .nilck (.s 0)⟩,
    ⟨.slot 2, 46, none, .fldAddr 1 (.s 1)⟩,
    ⟨.slot 3, 47, none, .load false 1 (.s 2)⟩,
    ⟨.slot 4, 48, none, .mov (.v 0)⟩,
    ⟨.slot 5, 49, none, .nilck (.s 4)⟩,
    ⟨.slot 6, 50, none, .fldAddr 0 (.s 5)⟩,
    ⟨.slot 7, 51, none, .load false 1 (.s 6)⟩,
    ⟨.slot 8, 52, none, .len false (.s 7)⟩,
    ⟨.slot 9, 53, none, .bin false .leq (.s 3) (.s 8)⟩] [] (.cond (.s 9)
  (.seq (.region false [
      ⟨.push, 54, none, .mov (.v 2)⟩,
      ⟨.var 1, 2, none, .mov (.s 0)⟩])
   (.ret))
  (.skip)))
 (.seq (.region false [
    ⟨.push, 55, none, .mov (.v 0)⟩,
    ⟨.push, 56, none, .nilck (.s 0)⟩,
    ⟨.push, 57, none, .fldAddr 2 (.s 0)⟩,
    ⟨.push, 58, none, .load false 1 (.s 0)⟩,
    ⟨.push, 59, none, .bin false .shr (.s 0) (.c (.int .u64 (40)))⟩,
    ⟨.push, 60, none, .bin false .and (.s 0) (.c (.int .u64 (255)))⟩,
    ⟨.push, 61, none, .conv .i64 (.s 0)⟩,
    ⟨.var 1, 2, none, .mov (.s 0)⟩])
 (.ret))))))), [.t 1]⟩
noncomputable def t_spec_l00Src_next : List (Nat × Ctr) := []
noncomputable def c_spec_l00Src_next : Ctr := mkN t_spec_l00Src_next ir68 [.io]
theorem s_spec_l00Src_next : Sound Tryd.prog 68 c_spec_l00Src_next := mkN_sound _ snd_nil (by kernel_rfl : chkFn Tryd.prog 68 ir68 ir68_v = true)
theorem M_spec_l00Src_next : c_spec_l00Src_next.modes = [.io] := rfl
theorem Fl_spec_l00Src_next : c_spec_l00Src_next.flat = false := rfl
attribute [go_sem] M_spec_l00Src_next Fl_spec_l00Src_next
theorem Fs_spec_l00Src_next {s_ : L00Src} {y_ : Int × L00Src} (h : spec_l00Src_next s_ = some y_) : c_spec_l00Src_next.F [.mem 3 [L00Src_av s_]] = ⟨true, .int .i64 y_.1, [.mem 3 [L00Src_av y_.2]]⟩ := by
  refine mkN_E ?_
  dsimp only [spec_l00Src_next] at h
  rcases it_some h with ⟨hk1, h⟩ | ⟨hk1, h⟩
  · try simp only [go_sem, n1, n2, n3, n4] at hk1
    all_goals
    obtain ⟨hk2, h⟩ := ck_some h
    have lhk2 := ix_lt hk2
    have xhk2 := getD_mapD byteAV s_.code_ lhk2
    try simp only [go_sem] at lhk2
    try simp only [go_sem] at xhk2
    try simp only [go_sem, n1, n2, n3, n4, hk1] at hk2
    all_goals
    rcases it_some h with ⟨hk3, h⟩ | ⟨hk3, h⟩
    · try simp only [go_sem, n1, n2, n3, n4, hk1, hk2] at hk3
      all_goals
      obtain rfl := so_some h
      refine ⟨0, fun L hL => ?_⟩
      simp only [go_sem, ir68, hk1, hk2, lhk2, xhk2, hk3]
    · try simp only [go_sem, n1, n2, n3, n4, hk1, hk2] at hk3
      all_goals
      obtain ⟨hk4, h⟩ := ck_some h
      try simp only [go_sem, n1, n2, n3, n4, hk1, hk2, hk3] at hk4
      all_goals
      obtain rfl := so_some h
      refine ⟨0, fun L hL => ?_⟩
      simp only [go_sem, ir68, hk1, hk2, lhk2, xhk2, hk3, hk4]
  · try simp only [go_sem, n1, n2, n3, n4] at hk1
    all_goals
    rcases it_some h with ⟨hk5, h⟩ | ⟨hk5, h⟩
    · try simp only [go_sem, n1, n2, n3, n4, hk1] at hk5
      all_goals
      obtain rfl := so_some h
      refine ⟨0, fun L hL => ?_⟩
      simp only [go_sem, ir68, hk1, hk5]
    · try simp only [go_sem, n1, n2, n3, n4, hk1] at hk5
      all_goals
      obtain ⟨hk6, h⟩ := ck_some h
      try simp only [go_sem, n1, n2, n3, n4, hk1, hk5] at hk6
      all_goals
      obtain rfl := so_some h
      refine ⟨0, fun L hL => ?_⟩
      simp only [go_sem, ir68, hk1, hk5, hk6]


def ir54_v : List Nat := [0, 1, 4, 5]
def ir54 : AFn := ⟨2, 4, .seq (.region false [
    ⟨.var 2, 4, none, .mov (.c (.int .i64 (0)))⟩])
 (.seq (.test false [
    ⟨.push, 6, none, .mov (.v 1)⟩,
    ⟨.push, 7, none, .bin false .leq (.s 0) (.c (.int .i64 (1)))⟩] (.s 0)
  (.seq (.region false [
      ⟨.var 2, 4, none, .mov (.c (.int .i64 (0)))⟩])
   (.ret))
  (.skip))
 (.seq (.region false [
    ⟨.push, 8, none, .mov (.v 0)⟩,
    ⟨.push, 9, none, .call 68 [(.s 0)]⟩,
    ⟨.var 3, 5, none, .mov (.s 0)⟩])
 (.seq (.test false [
    ⟨.push, 10, none, .mov (.v 1)⟩,
    ⟨.push, 11, none, .bin false .gtr (.s 0) (.c (.int .i64 (200)))⟩] (.s 0)
  (.region false [
     ⟨.push, 12, none, .mov (.v 3)⟩,
     ⟨.push, 13, none, .bin false .mul (.s 0) (.c (.int .i64 (256)))⟩,
     ⟨.push, 14, none, .mov (.v 0)⟩,
     ⟨.push, 15, none, .call 68 [(.s 0)]⟩,
     ⟨.push, 16, none, .bin false .add (.s 2) (.s 0)⟩,
     ⟨.var 3, 5, none, .mov (.s 0)⟩])
  (.skip))
 (.seq (.region false [
    ⟨.push, 17, none, .mov (.v 3)⟩,
    ⟨.push, 18, none, .mov (.v 1)⟩,
    ⟨.push, 19, none, .bin false .rem (.s 1) (.s 0)⟩,
    ⟨.var 2, 4, none, .mov (.s 0)⟩])
 (.ret))))), [.t 2]⟩
noncomputable def t_spec_l00Src_pick : List (Nat × Ctr) := [(68, c_spec_l00Src_next)]
theorem lk_spec_l00Src_pick_68 : look t_spec_l00Src_pick 68 = some c_spec_l00Src_next := rfl
noncomputable def c_spec_l00Src_pick : Ctr := mkN t_spec_l00Src_pick ir54 [.io, .bor]
theorem s_spec_l00Src_pick : Sound Tryd.prog 54 c_spec_l00Src_pick := mkN_sound _ (snd_cons s_spec_l00Src_next snd_nil) (by kernel_rfl : chkFn Tryd.prog 54 ir54 ir54_v = true)
theorem M_spec_l00Src_pick : c_spec_l00Src_pick.modes = [.io, .bor] := rfl
theorem Fl_spec_l00Src_pick : c_spec_l00Src_pick.flat = false := rfl
attribute [go_sem] M_spec_l00Src_pick Fl_spec_l00Src_pick
attribute [go_sem] lk_spec_l00Src_pick_68
theorem Fs_spec_l00Src_pick {s_ : L00Src} {n : Int} {y_ : Int × L00Src} (h : spec_l00Src_pick s_ n = some y_) : c_spec_l00Src_pick.F [.mem 3 [L00Src_av s_], .int .i64 n] = ⟨true, .int .i64 y_.1, [.mem 3 [L00Src_av y_.2], .any]⟩ := by
  refine mkN_E ?_
  dsimp only [spec_l00Src_pick] at h
  rcases it_some h with ⟨hk1, h⟩ | ⟨hk1, h⟩
  · try simp only [go_sem, n1, n2, n3, n4] at hk1
    all_goals
    obtain rfl := so_some h
    refine ⟨0, fun L hL => ?_⟩
    simp only [go_sem, ir54, hk1]
  · try simp only [go_sem, n1, n2, n3, n4] at hk1
    all_goals
    obtain ⟨y_2, hk2, h⟩ := bd_some h
    have fhk2 := Fs_spec_l00Src_next hk2
    try simp only [go_sem, hk1] at fhk2
    rcases it_some h with ⟨hk3, h⟩ | ⟨hk3, h⟩
    · try simp only [go_sem, n1, n2, n3, n4, hk1] at hk3
      all_goals
      obtain ⟨y_4, hk4, h⟩ := bd_some h
      have fhk4 := Fs_spec_l00Src_next hk4
      try simp only [go_sem, hk1, hk3] at fhk4
      obtain ⟨hk5, h⟩ := ck_some h
      try simp only [go_sem, n1, n2, n3, n4, hk1, hk3] at hk5
      all_goals
      obtain rfl := so_some h
      refine ⟨0, fun L hL => ?_⟩
      simp only [go_sem, ir54, hk1, fhk2, hk3, fhk4, hk5]
    · try simp only [go_sem, n1, n2, n3, n4, hk1] at hk3
      all_goals
      obtain ⟨hk6, h⟩ := ck_some h
      try simp only [go_sem, n1, n2, n3, n4, hk1, hk3] at hk6
      all_goals
      obtain rfl := so_some h
      refine ⟨0, fun L hL => ?_⟩
      simp only [go_sem, ir54, hk1, fhk2, hk3, hk6]


def ir69_v : List Nat := [0, 1, 4]
def ir69 : AFn := ⟨2, 3, .seq (.region false [
    ⟨.var 2, 4, none, .mov (.c (.str []))⟩])
 (.seq (.region false [
    ⟨.push, 5, none, .mov (.v 1)⟩,
    ⟨.push, 6, none, .mov (.v 0)⟩,
    ⟨.push, 7, none, .mov (.v 1)⟩,
    ⟨.push, 8, none, .len false (.s 0)⟩,
    ⟨.push, 9, none, .call 54 [(.s 2), (.s 0)]⟩,
    ⟨.push, 10, none, .ixAddr 1 (.s 4) (.s 0)⟩,
    ⟨.push, 11, none, .load false 1 (.s 0)⟩,
    ⟨.var 2, 4, none, .mov (.s 0)⟩])
 (.ret)), [.t 2]⟩
noncomputable def t_spec_l00Src_text : List (Nat × Ctr) := [(54, c_spec_l00Src_pick)]
theorem lk_spec_l00Src_text_54 : look t_spec_l00Src_text 54 = some c_spec_l00Src_pick := rfl
noncomputable def c_spec_l00Src_text : Ctr := mkN t_spec_l00Src_text ir69 [.io, .bor]
theorem s_spec_l00Src_text : Sound Tryd.prog 69 c_spec_l00Src_text := mkN_sound _ (snd_cons s_spec_l00Src_pick snd_nil) (by kernel_rfl : chkFn Tryd.prog 69 ir69 ir69_v = true)
theorem M_spec_l00Src_text : c_spec_l00Src_text.modes = [.io, .bor] := rfl
theorem Fl_spec_l00Src_text : c_spec_l00Src_text.flat = false := rfl
attribute [go_sem] M_spec_l00Src_text Fl_spec_l00Src_text
attribute [go_sem] lk_spec_l00Src_text_54
theorem Fs_spec_l00Src_text {s_ : L00Src} {list : List (List UInt8)} {y_ : (List UInt8) × L00Src} (h : spec_l00Src_text s_ list = some y_) : c_spec_l00Src_text.F [.mem 3 [L00Src_av s_], .sl 1 (List.map AV.str list)] = ⟨true, .str y_.1, [.mem 3 [L00Src_av y_.2], .any]⟩ := by
  refine mkN_E ?_
  dsimp only [spec_l00Src_text] at h
  obtain ⟨y_1, hk1, h⟩ := bd_some h
  have fhk1 := Fs_spec_l00Src_pick hk1
  try simp only [go_sem] at fhk1
  obtain ⟨hk2, h⟩ := ck_some h
  have lhk2 := ix_lt hk2
  have xhk2 := getD_mapD AV.str list lhk2
  try simp only [go_sem] at lhk2
  try simp only [go_sem] at xhk2
  try simp only [go_sem, n1, n2, n3, n4] at hk2
  all_goals
  obtain rfl := so_some h
  refine ⟨0, fun L hL => ?_⟩
  simp only [go_sem, ir69, fhk1, hk2, lhk2, xhk2]


def ir70_v : List Nat := [0, 1, 4]
def ir70 : AFn := ⟨2, 3, .seq (.region false [
    ⟨.var 2, 4, none, .mov (.c (.int .i64 (0)))⟩])
 (.seq (.region false [
    ⟨.push, 5, none, .mov (.v 1)⟩,
    ⟨.push, 6, none, .mov (.v 0)⟩,
    ⟨.push, 7, none, .mov (.v 1)⟩,
    ⟨.push, 8, none, .len false (.s 0)⟩,
    ⟨.push, 9, none, .call 54 [(.s 2), (.s 0)]⟩,
    ⟨.push, 10, none, .ixAddr 1 (.s 4) (.s 0)⟩,
    ⟨.push, 11, none, .load false 1 (.s 0)⟩,
    ⟨.var 2, 4, none, .mov (.s 0)⟩])
 (.ret)), [.t 2]⟩
noncomputable def t_spec_l00Src_among : List (Nat × Ctr) := [(54, c_spec_l00Src_pick)]
theorem lk_spec_l00Src_among_54 : look t_spec_l00Src_among 54 = some c_spec_l00Src_pick := rfl
noncomputable def c_spec_l00Src_among : Ctr := mkN t_spec_l00Src_among ir70 [.io, .bor]
theorem s_spec_l00Src_among : Sound Tryd.prog 70 c_spec_l00Src_among := mkN_sound _ (snd_cons s_spec_l00Src_pick snd_nil) (by kernel_rfl : chkFn Tryd.prog 70 ir70 ir70_v = true)
theorem M_spec_l00Src_among : c_spec_l00Src_among.modes = [.io, .bor] := rfl
theorem Fl_spec_l00Src_among : c_spec_l00Src_among.flat = false := rfl
attribute [go_sem] M_spec_l00Src_among Fl_spec_l00Src_among
attribute [go_sem] lk_spec_l00Src_among_54
theorem Fs_spec_l00Src_among {s_ : L00Src} {list : List Int} {y_ : Int × L00Src} (h : spec_l00Src_among s_ list = some y_) : c_spec_l00Src_among.F [.mem 3 [L00Src_av s_], .sl 1 (List.map (AV.int .i64) list)] = ⟨true, .int .i64 y_.1, [.mem 3 [L00Src_av y_.2], .any]⟩ := by
  refine mkN_E ?_
  dsimp only [spec_l00Src_among] at h
  obtain ⟨y_1, hk1, h⟩ := bd_some h
  have fhk1 := Fs_spec_l00Src_pick hk1
  try simp only [go_sem] at fhk1
  obtain ⟨hk2, h⟩ := ck_some h
  have lhk2 := ix_lt hk2
  have xhk2 := getD_mapD (AV.int .i64) list lhk2
  try simp only [go_sem] at lhk2
  try simp only [go_sem] at xhk2
  try simp only [go_sem, n1, n2, n3, n4] at hk2
  all_goals
  obtain rfl := so_some h
  refine ⟨0, fun L hL => ?_⟩
  simp only [go_sem, ir70, fhk1, hk2, lhk2, xhk2]


def ir55_v : List Nat := [0, 1, 4, 5, 20]
def ir55 : AFn := ⟨2, 5, .seq (.region false [
    ⟨.var 2, 4, none, .alloc (.agg [.int .i64 (0), .str [], .int .i64 (0)])⟩])
 (.seq (.region false [
    ⟨.push, 6, none, .mov (.v 1)⟩,
    ⟨.push, 7, none, .mov (.v 0)⟩,
    ⟨.push, 8, none, .call 54 [(.s 0), (.c (.int .i64 (4)))]⟩,
    ⟨.push, 9, none, .bin false .add (.s 2) (.s 0)⟩,
    ⟨.push, 10, none, .build [.int .i64 (0), .str [], .int .i64 (0)] [(0, 1, (.s 0))]⟩,
    ⟨.var 3, 5, none, .alloc (.agg [.int .i64 (0), .str [], .int .i64 (0)])⟩,
    ⟨.no, 0, none, .store 3 (.v 3) (.s 0)⟩])
 (.seq (.region false [
    ⟨.push, 11, none, .mov (.v 0)⟩,
    ⟨.push, 12, none, .mkSl 1 (.str []) 4 [(0, (.c (.str [115, 101, 101, 110]))), (1, (.c (.str [104, 111, 117, 114, 115]))), (2, (.c (.str [115, 116, 97, 114, 45, 51]))), (3, (.c (.str [99, 108, 111, 117, 100, 115])))]⟩,
    ⟨.push, 13, none, .call 69 [(.s 1), (.s 0)]⟩,
    ⟨.push, 14, none, .fldAddr 1 (.v 3)⟩,
    ⟨.no, 0, none, .store 1 (.s 0) (.s 1)⟩])
 (.seq (.region false [
    ⟨.push, 15, none, .mov (.v 0)⟩,
    ⟨.push, 16, none, .call 54 [(.s 0), (.c (.int .i64 (900)))]⟩,
    ⟨.push, 17, none, .bin false .sub (.s 0) (.c (.int .i64 (200)))⟩,
    ⟨.push, 18, none, .fldAddr 2 (.v 3)⟩,
    ⟨.no, 0, none, .store 1 (.s 0) (.s 1)⟩])
 (.seq (.seq (.region false [
     ⟨.push, 19, none, .mov (.v 0)⟩,
     ⟨.var 4, 20, none, .call 54 [(.s 0), (.c (.int .i64 (24)))]⟩])
  (.block 0 (.test false [
     ⟨.push, 22, none, .bin false .eql (.v 4) (.c (.int .i64 (0)))⟩,
     ⟨.push, 21, none, .mov (.s 0)⟩] (.s 0)
   (.region false [
      ⟨.push, 23, none, .mov (.v 0)⟩,
      ⟨.push, 24, none, .mkSl 1 (.int .i64 (0)) 4 [(0, (.c (.int .i64 (-1)))), (1, (.c (.int .i64 (0)))), (2, (.c (.int .i64 (100000)))), (3, (.c (.int .i64 (100001))))]⟩,
      ⟨.push, 25, none, .call 70 [(.s 1), (.s 0)]⟩,
      ⟨.push, 26, none, .fldAddr 0 (.v 3)⟩,
      ⟨.no, 0, none, .store 1 (.s 0) (.s 1)⟩])
   (.test false [
      ⟨.push, 28, none, .bin false .eql (.v 4) (.c (.int .i64 (1)))⟩,
      ⟨.push, 27, none, .mov (.s 0)⟩] (.s 0)
    (.region false [
       ⟨.push, 29, none, .mov (.v 0)⟩,
       ⟨.push, 30, none, .mkSl 1 (.str []) 3 [(0, (.c (.str []))), (1, (.c (.str [83, 101, 101, 110]))), (2, (.c (.str [97, 32, 98])))]⟩,
       ⟨.push, 31, none, .call 69 [(.s 1), (.s 0)]⟩,
       ⟨.push, 32, none, .fldAddr 1 (.v 3)⟩,
       ⟨.no, 0, none, .store 1 (.s 0) (.s 1)⟩])
    (.test false [
       ⟨.push, 34, none, .bin false .eql (.v 4) (.c (.int .i64 (2)))⟩,
       ⟨.push, 33, none, .mov (.s 0)⟩] (.s 0)
     (.region false [
        ⟨.push, 35, none, .mov (.v 0)⟩,
        ⟨.push, 36, none, .mkSl 1 (.int .i64 (0)) 5 [(0, (.c (.int .i64 (-1000001)))), (1, (.c (.int .i64 (-1000000)))), (2, (.c (.int .i64 (1000000)))), (3, (.c (.int .i64 (1000001)))), (4, (.c (.int .i64 (-9223372036854775808))))]⟩,
        ⟨.push, 37, none, .call 70 [(.s 1), (.s 0)]⟩,
        ⟨.push, 38, none, .fldAddr 2 (.v 3)⟩,
        ⟨.no, 0, none, .store 1 (.s 0) (.s 1)⟩])
     (.skip))))))
 (.seq (.region false [
    ⟨.push, 39, none, .load true 3 (.v 3)⟩,
    ⟨.no, 0, none, .store 3 (.v 2) (.s 0)⟩])
 (.ret)))))), [.cell true 3 2]⟩
noncomputable def t_spec_l27DrawEntry : List (Nat × Ctr) := [(54, c_spec_l00Src_pick), (69, c_spec_l00Src_text), (70, c_spec_l00Src_among)]
theorem lk_spec_l27DrawEntry_54 : look t_spec_l27DrawEntry 54 = some c_spec_l00Src_pick := rfl
theorem lk_spec_l27DrawEntry_69 : look t_spec_l27DrawEntry 69 = some c_spec_l00Src_text := rfl
theorem lk_spec_l27DrawEntry_70 : look t_spec_l27DrawEntry 70 = some c_spec_l00Src_among := rfl
noncomputable def c_spec_l27DrawEntry : Ctr := mkN t_spec_l27DrawEntry ir55 [.io, .bor]
theorem s_spec_l27DrawEntry : Sound Tryd.prog 55 c_spec_l27DrawEntry := mkN_sound _ (snd_cons s_spec_l00Src_pick (snd_cons s_spec_l00Src_text (snd_cons s_spec_l00Src_among snd_nil))) (by kernel_rfl : chkFn Tryd.prog 55 ir55 ir55_v = true)
theorem M_spec_l27DrawEntry : c_spec_l27DrawEntry.modes = [.io, .bor] := rfl
theorem Fl_spec_l27DrawEntry : c_spec_l27DrawEntry.flat = false := rfl
attribute [go_sem] M_spec_l27DrawEntry Fl_spec_l27DrawEntry
attribute [go_sem] lk_spec_l27DrawEntry_54 lk_spec_l27DrawEntry_69 lk_spec_l27DrawEntry_70
theorem Fs_spec_l27DrawEntry {s_ : L00Src} {day : Int} {y_ : Entry × L00Src} (h : spec_l27DrawEntry s_ day = some y_) : c_spec_l27DrawEntry.F [.mem 3 [L00Src_av s_], .int .i64 day] = ⟨true, Entry_av y_.1, [.mem 3 [L00Src_av y_.2], .any]⟩ := by
  refine mkN_E ?_
  dsimp only [spec_l27DrawEntry] at h
  obtain ⟨y_1, hk1, h⟩ := bd_some h
  have fhk1 := Fs_spec_l00Src_pick hk1
  try simp only [go_sem] at fhk1
  obtain ⟨y_2, hk2, h⟩ := bd_some h
  have fhk2 := Fs_spec_l00Src_text hk2
  try simp only [go_sem] at fhk2
  obtain ⟨y_3, hk3, h⟩ := bd_some h
  have fhk3 := Fs_spec_l00Src_pick hk3
  try simp only [go_sem] at fhk3
  obtain ⟨y_4, hk4, h⟩ := bd_some h
  have fhk4 := Fs_spec_l00Src_pick hk4
  try simp only [go_sem] at fhk4
  rcases it_some h with ⟨hk5, h⟩ | ⟨hk5, h⟩
  · try simp only [go_sem, n1, n2, n3, n4] at hk5
    all_goals
    obtain ⟨y_6, hk6, h⟩ := bd_some h
    have fhk6 := Fs_spec_l00Src_among hk6
    try simp only [go_sem, hk5] at fhk6
    obtain rfl := so_some h
    refine ⟨0, fun L hL => ?_⟩
    simp only [go_sem, ir55, fhk1, fhk2, fhk3, fhk4, hk5, fhk6]
  · try simp only [go_sem, n1, n2, n3, n4] at hk5
    all_goals
    rcases it_some h with ⟨hk7, h⟩ | ⟨hk7, h⟩
    · try simp only [go_sem, n1, n2, n3, n4, hk5] at hk7
      all_goals
      obtain ⟨y_8, hk8, h⟩ := bd_some h
      have fhk8 := Fs_spec_l00Src_text hk8
      try simp only [go_sem, hk5, hk7] at fhk8
      obtain rfl := so_some h
      refine ⟨0, fun L hL => ?_⟩
      simp only [go_sem, ir55, fhk1, fhk2, fhk3, fhk4, hk5, hk7, fhk8]
    · try simp only [go_sem, n1, n2, n3, n4, hk5] at hk7
      all_goals
      rcases it_some h with ⟨hk9, h⟩ | ⟨hk9, h⟩
      · try simp only [go_sem, n1, n2, n3, n4, hk5, hk7] at hk9
        all_goals
        obtain ⟨y_10, hk10, h⟩ := bd_some h
        have fhk10 := Fs_spec_l00Src_among hk10
        try simp only [go_sem, hk5, hk7, hk9] at fhk10
        obtain rfl := so_some h
        refine ⟨0, fun L hL => ?_⟩
        simp only [go_sem, ir55, fhk1, fhk2, fhk3, fhk4, hk5, hk7, hk9, fhk10]
      · try simp only [go_sem, n1, n2, n3, n4, hk5, hk7] at hk9
        all_goals
        obtain rfl := so_some h
        refine ⟨0, fun L hL => ?_⟩
        simp only [go_sem, ir55, fhk1, fhk2, fhk3, fhk4, hk5, hk7, hk9]


def ir46_v : List Nat := [0, 1, 2, 6]
def ir46 : AFn := ⟨3, 4, .seq (.region false [
    ⟨.var 3, 6, none, .mov (.c (.bool false))⟩])
 (.seq (.region false [
    ⟨.push, 7, none, .mov (.v 0)⟩,
    ⟨.push, 8, none, .mov (.v 1)⟩,
    ⟨.push, 9, none, .bin false .geq (.s 1) (.s 0)⟩,
    ⟨.push, 10, none, .mov (.s 0)⟩,
    ⟨.push, 11, (some ((.s 0), true)), .mov (.v 0)⟩,
    ⟨.push, 12, (some ((.s 1), true)), .mov (.v 2)⟩,
    ⟨.push, 13, (some ((.s 2), true)), .bin false .leq (.s 1) (.s 0)⟩,
    ⟨.push, 14, none, .pick (.s 3) (.s 0) (.c (.bool false))⟩,
    ⟨.var 3, 6, none, .mov (.s 0)⟩])
 (.ret)), [.t 3]⟩
noncomputable def t_spec_l00In : List (Nat × Ctr) := []
noncomputable def c_spec_l00In : Ctr := mkF t_spec_l00In ir46 [.bor, .bor, .bor]
theorem s_spec_l00In : Sound Tryd.prog 46 c_spec_l00In := mkF_sound _ rfl snd_nil (by kernel_rfl : chkFn Tryd.prog 46 ir46 ir46_v = true)
theorem M_spec_l00In : c_spec_l00In.modes = [.bor, .bor, .bor] := rfl
theorem Fl_spec_l00In : c_spec_l00In.flat = true := rfl
attribute [go_sem] M_spec_l00In Fl_spec_l00In
theorem Fs_spec_l00In {n : Int} {low : Int} {high : Int} {y_ : Bool} (h : spec_l00In n low high = some y_) : c_spec_l00In.F [.int .i64 n, .int .i64 low, .int .i64 high] = ⟨true, .bool y_, [.any, .any, .any]⟩ := by
  refine mkF_E rfl ?_
  dsimp only [spec_l00In] at h
  obtain rfl := so_some h
  refine ⟨0, fun L hL => ?_⟩
  simp only [go_sem, ir46]


def ir56_v : List Nat := [0, 2]
def ir56 : AFn := ⟨1, 2, .seq (.region false [
    ⟨.var 1, 2, none, .mov (.c (.bool false))⟩])
 (.seq (.region false [
    ⟨.push, 3, none, .mov (.v 0)⟩,
    ⟨.push, 4, none, .call 46 [(.s 0), (.c (.int .i64 (0))), (.c (.int .i64 (100000)))]⟩,
    ⟨.var 1, 2, none, .mov (.s 0)⟩])
 (.ret)), [.t 1]⟩
noncomputable def t_spec_l27Day : List (Nat × Ctr) := [(46, c_spec_l00In)]
theorem lk_spec_l27Day_46 : look t_spec_l27Day 46 = some c_spec_l00In := rfl
noncomputable def c_spec_l27Day : Ctr := mkF t_spec_l27Day ir56 [.bor]
theorem s_spec_l27Day : Sound Tryd.prog 56 c_spec_l27Day := mkF_sound _ rfl (snd_cons s_spec_l00In snd_nil) (by kernel_rfl : chkFn Tryd.prog 56 ir56 ir56_v = true)
theorem M_spec_l27Day : c_spec_l27Day.modes = [.bor] := rfl
theorem Fl_spec_l27Day : c_spec_l27Day.flat = true := rfl
attribute [go_sem] M_spec_l27Day Fl_spec_l27Day
attribute [go_sem] lk_spec_l27Day_46
theorem Fs_spec_l27Day {n : Int} {y_ : Bool} (h : spec_l27Day n = some y_) : c_spec_l27Day.F [.int .i64 n] = ⟨true, .bool y_, [.any]⟩ := by
  refine mkF_E rfl ?_
  dsimp only [spec_l27Day] at h
  obtain ⟨y_1, hk1, h⟩ := bd_some h
  have fhk1 := Fs_spec_l00In hk1
  try simp only [go_sem] at fhk1
  obtain rfl := so_some h
  refine ⟨0, fun L hL => ?_⟩
  simp only [go_sem, ir56, fhk1]


def ir71_v : List Nat := [0, 2]
def ir71 : AFn := ⟨1, 2, .seq (.region false [
    ⟨.var 1, 2, none, .mov (.c (.bool false))⟩])
 (.seq (.region false [
    ⟨.push, 3, none, .mov (.v 0)⟩,
    ⟨.push, 4, none, .bin false .geq (.s 0) (.c (.int .u8 (97)))⟩,
    ⟨.push, 5, none, .mov (.s 0)⟩,
    ⟨.push, 6, (some ((.s 0), true)), .mov (.v 0)⟩,
    ⟨.push, 7, (some ((.s 1), true)), .bin false .leq (.s 0) (.c (.int .u8 (122)))⟩,
    ⟨.push, 8, none, .pick (.s 2) (.s 0) (.c (.bool false))⟩,
    ⟨.var 1, 2, none, .mov (.s 0)⟩])
 (.ret)), [.t 1]⟩
noncomputable def t_spec_l01Small : List (Nat × Ctr) := []
noncomputable def c_spec_l01Small : Ctr := mkF t_spec_l01Small ir71 [.bor]
theorem s_spec_l01Small : Sound Tryd.prog 71 c_spec_l01Small := mkF_sound _ rfl snd_nil (by kernel_rfl : chkFn Tryd.prog 71 ir71 ir71_v = true)
theorem M_spec_l01Small : c_spec_l01Small.modes = [.bor] := rfl
theorem Fl_spec_l01Small : c_spec_l01Small.flat = true := rfl
attribute [go_sem] M_spec_l01Small Fl_spec_l01Small
theorem Fs_spec_l01Small {c : UInt8} {y_ : Bool} (h : spec_l01Small c = some y_) : c_spec_l01Small.F [.int .u8 (c.toNat : Int)] = ⟨true, .bool y_, [.any]⟩ := by
  refine mkF_E rfl ?_
  dsimp only [spec_l01Small] at h
  obtain rfl := so_some h
  refine ⟨0, fun L hL => ?_⟩
  simp only [go_sem, ir71]


def ir44_v : List Nat := [0, 2]
def ir44 : AFn := ⟨1, 2, .seq (.region false [
    ⟨.var 1, 2, none, .mov (.c (.bool false))⟩])
 (.seq (.region false [
    ⟨.push, 3, none, .mov (.v 0)⟩,
    ⟨.push, 4, none, .bin false .geq (.s 0) (.c (.int .u8 (48)))⟩,
    ⟨.push, 5, none, .mov (.s 0)⟩,
    ⟨.push, 6, (some ((.s 0), true)), .mov (.v 0)⟩,
    ⟨.push, 7, (some ((.s 1), true)), .bin false .leq (.s 0) (.c (.int .u8 (57)))⟩,
    ⟨.push, 8, none, .pick (.s 2) (.s 0) (.c (.bool false))⟩,
    ⟨.var 1, 2, none, .mov (.s 0)⟩])
 (.ret)), [.t 1]⟩
noncomputable def t_spec_l01Digit : List (Nat × Ctr) := []
noncomputable def c_spec_l01Digit : Ctr := mkF t_spec_l01Digit ir44 [.bor]
theorem s_spec_l01Digit : Sound Tryd.prog 44 c_spec_l01Digit := mkF_sound _ rfl snd_nil (by kernel_rfl : chkFn Tryd.prog 44 ir44 ir44_v = true)
theorem M_spec_l01Digit : c_spec_l01Digit.modes = [.bor] := rfl
theorem Fl_spec_l01Digit : c_spec_l01Digit.flat = true := rfl
attribute [go_sem] M_spec_l01Digit Fl_spec_l01Digit
theorem Fs_spec_l01Digit {c : UInt8} {y_ : Bool} (h : spec_l01Digit c = some y_) : c_spec_l01Digit.F [.int .u8 (c.toNat : Int)] = ⟨true, .bool y_, [.any]⟩ := by
  refine mkF_E rfl ?_
  dsimp only [spec_l01Digit] at h
  obtain rfl := so_some h
  refine ⟨0, fun L hL => ?_⟩
  simp only [go_sem, ir44]


def ir57_b0 : IR := .seq (.test false [
    ⟨.push, 17, none, .mov (.v 2)⟩,
    ⟨.push, 18, none, .mov (.v 0)⟩,
    ⟨.push, 19, none, .len true (.s 0)⟩,
    ⟨.push, 20, none, .bin false .lss (.s 2) (.s 0)⟩] (.s 0)
  (.skip)
  (.exit 0))
 (.seq (.block 1 (.test false [
     ⟨.push, 23, none, .mov (.v 0)⟩,
     ⟨.push, 24, none, .mov (.v 2)⟩,
     ⟨.push, 25, none, .ixStr (.s 1) (.s 0)⟩,
     ⟨.push, 26, none, .call 71 [(.s 0)]⟩,
     ⟨.push, 27, none, .un .not (.s 0)⟩,
     ⟨.push, 28, none, .mov (.s 0)⟩,
     ⟨.push, 29, (some ((.s 0), true)), .mov (.v 0)⟩,
     ⟨.push, 30, (some ((.s 1), true)), .mov (.v 2)⟩,
     ⟨.push, 31, (some ((.s 2), true)), .ixStr (.s 1) (.s 0)⟩,
     ⟨.push, 32, (some ((.s 3), true)), .call 44 [(.s 0)]⟩,
     ⟨.push, 33, (some ((.s 4), true)), .un .not (.s 0)⟩,
     ⟨.push, 34, none, .pick (.s 5) (.s 0) (.c (.bool false))⟩,
     ⟨.push, 35, none, .mov (.s 0)⟩,
     ⟨.push, 36, (some ((.s 0), true)), .mov (.v 0)⟩,
     ⟨.push, 37, (some ((.s 1), true)), .mov (.v 2)⟩,
     ⟨.push, 38, (some ((.s 2), true)), .ixStr (.s 1) (.s 0)⟩,
     ⟨.push, 39, (some ((.s 3), true)), .bin false .neq (.s 0) (.c (.int .u8 (45)))⟩,
     ⟨.push, 40, none, .pick (.s 4) (.s 0) (.c (.bool false))⟩] (.s 0)
   (.seq (.region false [
       ⟨.var 1, 2, none, .mov (.c (.bool false))⟩])
    (.ret))
   (.skip)))
 (.region false [
   ⟨.push, 21, none, .mov (.v 2)⟩,
   ⟨.push, 22, none, .bin false .add (.s 0) (.c (.int .i64 (1)))⟩,
   ⟨.var 2, 3, none, .mov (.s 0)⟩]))
def ir57_k0 : List Bool := [true, false, true]
def ir57_o0 : List Bool := [false, false, false]
def ir57_r0 : List Bool := [false, true, false]
def ir57_v : List Nat := [0, 2, 3]
def ir57 : AFn := ⟨1, 3, .seq (.region false [
    ⟨.var 1, 2, none, .mov (.c (.bool false))⟩])
 (.seq (.test false [
    ⟨.push, 4, none, .mov (.v 0)⟩,
    ⟨.push, 5, none, .bin false .eql (.s 0) (.c (.str []))⟩,
    ⟨.push, 6, none, .mov (.s 0)⟩,
    ⟨.push, 7, (some ((.s 0), false)), .mov (.v 0)⟩,
    ⟨.push, 8, (some ((.s 1), false)), .len true (.s 0)⟩,
    ⟨.push, 9, (some ((.s 2), false)), .bin false .gtr (.s 0) (.c (.int .i64 (12)))⟩,
    ⟨.push, 10, none, .pick (.s 3) (.c (.bool true)) (.s 0)⟩,
    ⟨.push, 11, none, .mov (.s 0)⟩,
    ⟨.push, 12, (some ((.s 0), false)), .mov (.v 0)⟩,
    ⟨.push, 13, (some ((.s 1), false)), .ixStr (.s 0) (.c (.int .i64 (0)))⟩,
    ⟨.push, 14, (some ((.s 2), false)), .call 71 [(.s 0)]⟩,
    ⟨.push, 15, (some ((.s 3), false)), .un .not (.s 0)⟩,
    ⟨.push, 16, none, .pick (.s 4) (.c (.bool true)) (.s 0)⟩] (.s 0)
  (.seq (.region false [
      ⟨.var 1, 2, none, .mov (.c (.bool false))⟩])
   (.ret))
  (.skip))
 (.seq (.seq (.region false [
     ⟨.var 2, 3, none, .mov (.c (.int .i64 (0)))⟩])
  (.block 0 (.loop ir57_k0 ir57_o0 ir57_r0 ir57_b0)))
 (.seq (.region false [
    ⟨.var 1, 2, none, .mov (.c (.bool true))⟩])
 (.ret)))), [.t 1]⟩
noncomputable def t_spec_IsName : List (Nat × Ctr) := [(71, c_spec_l01Small), (44, c_spec_l01Digit)]
theorem lk_spec_IsName_71 : look t_spec_IsName 71 = some c_spec_l01Small := rfl
theorem lk_spec_IsName_44 : look t_spec_IsName 44 = some c_spec_l01Digit := rfl
noncomputable def c_spec_IsName : Ctr := mkF t_spec_IsName ir57 [.bor]
theorem s_spec_IsName : Sound Tryd.prog 57 c_spec_IsName := mkF_sound _ rfl (snd_cons s_spec_l01Small (snd_cons s_spec_l01Digit snd_nil)) (by kernel_rfl : chkFn Tryd.prog 57 ir57 ir57_v = true)
theorem M_spec_IsName : c_spec_IsName.modes = [.bor] := rfl
theorem Fl_spec_IsName : c_spec_IsName.flat = true := rfl
attribute [go_sem] M_spec_IsName Fl_spec_IsName
attribute [go_sem] lk_spec_IsName_71 lk_spec_IsName_44
def E_spec_IsName_l1 (s_ : List UInt8) : Int → St
  | i => ⟨[.str s_, .any, .int .i64 i], [], [], true⟩
def R_spec_IsName_l1 (s_ : List UInt8) : (Unit ⊕ Bool) → Res
  | .inl y => (.exit 0, ⟨[.any, .any, .any], [], [], true⟩)
  | .inr y => (.ret, ⟨[.any, .bool y, .any], [], [], true⟩)
theorem spec_IsName_l1_ex {s_ : List UInt8} {sgm_ : Int} {rho_ : Unit ⊕ Bool} (h : whileE (spec_IsName_l1 s_) sgm_ = some rho_) : ∃ L0, ∀ L, L0 ≤ L → iter (exec (look t_spec_IsName) L ir57_b0) ir57_k0 ir57_o0 ir57_r0 L (E_spec_IsName_l1 s_ sgm_) = R_spec_IsName_l1 s_ rho_ := by
  refine loop_ex (E := E_spec_IsName_l1 s_) (R := R_spec_IsName_l1 s_) (fun y => by first | (intro c; cases c) | (rcases y with y | y <;> (intro c; cases c)) | (rcases y with y | y | y <;> (intro c; cases c))) ?_ h
  clear h
  intro i o_ h
  dsimp only [spec_IsName_l1] at h
  rcases it_some h with ⟨hk4, h⟩ | ⟨hk4, h⟩
  · try simp only [go_sem, n1, n2, n3, n4] at hk4
    all_goals
    obtain ⟨hk5, h⟩ := ck_some h
    try simp only [go_sem, n1, n2, n3, n4, hk4] at hk5
    all_goals
    obtain ⟨y_6, hk6, h⟩ := bd_some h
    have fhk6 := Fs_spec_l01Small hk6
    try simp only [go_sem, hk4, hk5] at fhk6
    obtain ⟨hk7, h⟩ := ck_some h
    rcases or_split hk7 with ⟨ghk7, hk7⟩ | ghk7
    · try simp only [go_sem, n1, n2, n3, n4, hk4, hk5] at ghk7
      all_goals
      obtain ⟨y_7, hhk7⟩ := Option.isSome_iff_exists.1 hk7
      have fhk7 := Fs_spec_l01Digit hhk7
      try simp only [go_sem, hk4, hk5, ghk7] at fhk7
      rcases it_some h with ⟨hk8, h⟩ | ⟨hk8, h⟩
      · try simp only [go_sem, n1, n2, n3, n4, hk4, hk5, ghk7, hhk7] at hk8
        all_goals
        obtain rfl := so_some h
        refine ⟨0, fun L hL => ?_⟩
        simp only [go_sem, ir57, E_spec_IsName_l1, R_spec_IsName_l1, ir57_b0, ir57_k0, ir57_o0, ir57_r0, hk4, hk5, fhk6, ghk7, hhk7, fhk7, hk8]
      · try simp only [go_sem, n1, n2, n3, n4, hk4, hk5, ghk7, hhk7] at hk8
        all_goals
        obtain rfl := so_some h
        refine ⟨0, fun L hL => ?_⟩
        simp only [go_sem, ir57, E_spec_IsName_l1, R_spec_IsName_l1, ir57_b0, ir57_k0, ir57_o0, ir57_r0, hk4, hk5, fhk6, ghk7, hhk7, fhk7, hk8]
    · have ghk7n := no_f ghk7
      try simp only [go_sem, n1, n2, n3, n4, hk4, hk5] at ghk7n
      all_goals
      rcases it_some h with ⟨hk8, h⟩ | ⟨hk8, h⟩
      · try simp only [go_sem, n1, n2, n3, n4, hk4, hk5, ghk7n] at hk8
        all_goals
        obtain rfl := so_some h
        refine ⟨0, fun L hL => ?_⟩
        simp only [go_sem, ir57, E_spec_IsName_l1, R_spec_IsName_l1, ir57_b0, ir57_k0, ir57_o0, ir57_r0, hk4, hk5, fhk6, ghk7n, hk8]
      · try simp only [go_sem, n1, n2, n3, n4, hk4, hk5, ghk7n] at hk8
        all_goals
        obtain rfl := so_some h
        refine ⟨0, fun L hL => ?_⟩
        simp only [go_sem, ir57, E_spec_IsName_l1, R_spec_IsName_l1, ir57_b0, ir57_k0, ir57_o0, ir57_r0, hk4, hk5, fhk6, ghk7n, hk8]
  · try simp only [go_sem, n1, n2, n3, n4] at hk4
    all_goals
    obtain rfl := so_some h
    refine ⟨0, fun L hL => ?_⟩
    simp only [go_sem, ir57, E_spec_IsName_l1, R_spec_IsName_l1, ir57_b0, ir57_k0, ir57_o0, ir57_r0, hk4]

theorem Fs_spec_IsName {s_ : List UInt8} {y_ : Bool} (h : spec_IsName s_ = some y_) : c_spec_IsName.F [.str s_] = ⟨true, .bool y_, [.any]⟩ := by
  refine mkF_E rfl ?_
  dsimp only [spec_IsName] at h
  obtain ⟨hk1, h⟩ := ck_some h
  rcases or_split hk1 with ⟨ghk1, hk1⟩ | ghk1
  · try simp only [go_sem, n1, n2, n3, n4] at ghk1
    all_goals
    try simp only [go_sem, n1, n2, n3, n4, ghk1] at hk1
    all_goals
    obtain ⟨hk2, h⟩ := ck_some h
    rcases or_split hk2 with ⟨ghk2, hk2⟩ | ghk2
    · try simp only [go_sem, n1, n2, n3, n4, ghk1, hk1] at ghk2
      all_goals
      obtain ⟨y_2, hhk2⟩ := Option.isSome_iff_exists.1 hk2
      have fhk2 := Fs_spec_l01Small hhk2
      try simp only [go_sem, ghk1, hk1, ghk2] at fhk2
      rcases it_some h with ⟨hk3, h⟩ | ⟨hk3, h⟩
      · try simp only [go_sem, n1, n2, n3, n4, ghk1, hk1, ghk2, hhk2] at hk3
        all_goals
        obtain rfl := so_some h
        refine ⟨0, fun L hL => ?_⟩
        simp only [go_sem, ir57, E_spec_IsName_l1, R_spec_IsName_l1, ir57_k0, ir57_o0, ir57_r0, ghk1, hk1, ghk2, hhk2, fhk2, hk3]
      · try simp only [go_sem, n1, n2, n3, n4, ghk1, hk1, ghk2, hhk2] at hk3
        all_goals
        obtain ⟨y_9, hk9, h⟩ := bd_some h
        obtain ⟨Lhk9, ehk9⟩ := spec_IsName_l1_ex hk9
        rcases y_9 with y_9a | y_9b
        · dsimp only at h
          obtain rfl := so_some h
          refine ⟨Lhk9, fun L hL => ?_⟩
          have ehk9 := ehk9 L (by omega)
          try simp only [go_sem, E_spec_IsName_l1, R_spec_IsName_l1, ir57_k0, ir57_o0, ir57_r0, ghk1, hk1, ghk2, hhk2, hk3] at ehk9
          simp only [go_sem, ir57, E_spec_IsName_l1, R_spec_IsName_l1, ir57_k0, ir57_o0, ir57_r0, ghk1, hk1, ghk2, hhk2, fhk2, hk3, ehk9]
        · dsimp only at h
          obtain rfl := so_some h
          refine ⟨Lhk9, fun L hL => ?_⟩
          have ehk9 := ehk9 L (by omega)
          try simp only [go_sem, E_spec_IsName_l1, R_spec_IsName_l1, ir57_k0, ir57_o0, ir57_r0, ghk1, hk1, ghk2, hhk2, hk3] at ehk9
          simp only [go_sem, ir57, E_spec_IsName_l1, R_spec_IsName_l1, ir57_k0, ir57_o0, ir57_r0, ghk1, hk1, ghk2, hhk2, fhk2, hk3, ehk9]
    · have ghk2n := no_f ghk2
      rcases or_t ghk2n with ghk2na | ⟨ghk2na, ghk2nb⟩
      · try simp only [go_sem, n1, n2, n3, n4, ghk1, hk1] at ghk2na
        all_goals
        rcases it_some h with ⟨hk3, h⟩ | ⟨hk3, h⟩
        · try simp only [go_sem, n1, n2, n3, n4, ghk1, hk1, ghk2na] at hk3
          all_goals
          obtain rfl := so_some h
          refine ⟨0, fun L hL => ?_⟩
          simp only [go_sem, ir57, E_spec_IsName_l1, R_spec_IsName_l1, ir57_k0, ir57_o0, ir57_r0, ghk1, hk1, ghk2na, hk3]
        · try simp only [go_sem, n1, n2, n3, n4, ghk1, hk1, ghk2na] at hk3
          all_goals
          obtain ⟨y_9, hk9, h⟩ := bd_some h
          obtain ⟨Lhk9, ehk9⟩ := spec_IsName_l1_ex hk9
          rcases y_9 with y_9a | y_9b
          · dsimp only at h
            obtain rfl := so_some h
            refine ⟨Lhk9, fun L hL => ?_⟩
            have ehk9 := ehk9 L (by omega)
            try simp only [go_sem, E_spec_IsName_l1, R_spec_IsName_l1, ir57_k0, ir57_o0, ir57_r0, ghk1, hk1, ghk2na, hk3] at ehk9
            simp only [go_sem, ir57, E_spec_IsName_l1, R_spec_IsName_l1, ir57_k0, ir57_o0, ir57_r0, ghk1, hk1, ghk2na, hk3, ehk9]
          · dsimp only at h
            obtain rfl := so_some h
            refine ⟨Lhk9, fun L hL => ?_⟩
            have ehk9 := ehk9 L (by omega)
            try simp only [go_sem, E_spec_IsName_l1, R_spec_IsName_l1, ir57_k0, ir57_o0, ir57_r0, ghk1, hk1, ghk2na, hk3] at ehk9
            simp only [go_sem, ir57, E_spec_IsName_l1, R_spec_IsName_l1, ir57_k0, ir57_o0, ir57_r0, ghk1, hk1, ghk2na, hk3, ehk9]
      · try simp only [go_sem, n1, n2, n3, n4, ghk1, hk1] at ghk2na
        all_goals
        try simp only [go_sem, n1, n2, n3, n4, ghk1, hk1, ghk2na] at ghk2nb
        all_goals
        rcases it_some h with ⟨hk3, h⟩ | ⟨hk3, h⟩
        · try simp only [go_sem, n1, n2, n3, n4, ghk1, hk1, ghk2na, ghk2nb] at hk3
          all_goals
          obtain rfl := so_some h
          refine ⟨0, fun L hL => ?_⟩
          simp only [go_sem, ir57, E_spec_IsName_l1, R_spec_IsName_l1, ir57_k0, ir57_o0, ir57_r0, ghk1, hk1, ghk2na, ghk2nb, hk3]
        · try simp only [go_sem, n1, n2, n3, n4, ghk1, hk1, ghk2na, ghk2nb] at hk3
          all_goals
          obtain ⟨y_9, hk9, h⟩ := bd_some h
          obtain ⟨Lhk9, ehk9⟩ := spec_IsName_l1_ex hk9
          rcases y_9 with y_9a | y_9b
          · dsimp only at h
            obtain rfl := so_some h
            refine ⟨Lhk9, fun L hL => ?_⟩
            have ehk9 := ehk9 L (by omega)
            try simp only [go_sem, E_spec_IsName_l1, R_spec_IsName_l1, ir57_k0, ir57_o0, ir57_r0, ghk1, hk1, ghk2na, ghk2nb, hk3] at ehk9
            simp only [go_sem, ir57, E_spec_IsName_l1, R_spec_IsName_l1, ir57_k0, ir57_o0, ir57_r0, ghk1, hk1, ghk2na, ghk2nb, hk3, ehk9]
          · dsimp only at h
            obtain rfl := so_some h
            refine ⟨Lhk9, fun L hL => ?_⟩
            have ehk9 := ehk9 L (by omega)
            try simp only [go_sem, E_spec_IsName_l1, R_spec_IsName_l1, ir57_k0, ir57_o0, ir57_r0, ghk1, hk1, ghk2na, ghk2nb, hk3] at ehk9
            simp only [go_sem, ir57, E_spec_IsName_l1, R_spec_IsName_l1, ir57_k0, ir57_o0, ir57_r0, ghk1, hk1, ghk2na, ghk2nb, hk3, ehk9]
  · have ghk1n := no_f ghk1
    rcases or_t ghk1n with ghk1na | ⟨ghk1na, ghk1nb⟩
    · try simp only [go_sem, n1, n2, n3, n4] at ghk1na
      all_goals
      obtain ⟨hk2, h⟩ := ck_some h
      rcases or_split hk2 with ⟨ghk2, hk2⟩ | ghk2
      · try simp only [go_sem, n1, n2, n3, n4, ghk1na] at ghk2
        all_goals
        obtain ⟨y_2, hhk2⟩ := Option.isSome_iff_exists.1 hk2
        have fhk2 := Fs_spec_l01Small hhk2
        try simp only [go_sem, ghk1na, ghk2] at fhk2
        rcases it_some h with ⟨hk3, h⟩ | ⟨hk3, h⟩
        · try simp only [go_sem, n1, n2, n3, n4, ghk1na, ghk2, hhk2] at hk3
          all_goals
          obtain rfl := so_some h
          refine ⟨0, fun L hL => ?_⟩
          simp only [go_sem, ir57, E_spec_IsName_l1, R_spec_IsName_l1, ir57_k0, ir57_o0, ir57_r0, ghk1na, ghk2, hhk2, fhk2, hk3]
        · try simp only [go_sem, n1, n2, n3, n4, ghk1na, ghk2, hhk2] at hk3
          all_goals
          obtain ⟨y_9, hk9, h⟩ := bd_some h
          obtain ⟨Lhk9, ehk9⟩ := spec_IsName_l1_ex hk9
          rcases y_9 with y_9a | y_9b
          · dsimp only at h
            obtain rfl := so_some h
            refine ⟨Lhk9, fun L hL => ?_⟩
            have ehk9 := ehk9 L (by omega)
            try simp only [go_sem, E_spec_IsName_l1, R_spec_IsName_l1, ir57_k0, ir57_o0, ir57_r0, ghk1na, ghk2, hhk2, hk3] at ehk9
            simp only [go_sem, ir57, E_spec_IsName_l1, R_spec_IsName_l1, ir57_k0, ir57_o0, ir57_r0, ghk1na, ghk2, hhk2, fhk2, hk3, ehk9]
          · dsimp only at h
            obtain rfl := so_some h
            refine ⟨Lhk9, fun L hL => ?_⟩
            have ehk9 := ehk9 L (by omega)
            try simp only [go_sem, E_spec_IsName_l1, R_spec_IsName_l1, ir57_k0, ir57_o0, ir57_r0, ghk1na, ghk2, hhk2, hk3] at ehk9
            simp only [go_sem, ir57, E_spec_IsName_l1, R_spec_IsName_l1, ir57_k0, ir57_o0, ir57_r0, ghk1na, ghk2, hhk2, fhk2, hk3, ehk9]
      · have ghk2n := no_f ghk2
        rcases or_t ghk2n with ghk2na | ⟨ghk2na, ghk2nb⟩
        · try simp only [go_sem, n1, n2, n3, n4, ghk1na] at ghk2na
          all_goals
          rcases it_some h with ⟨hk3, h⟩ | ⟨hk3, h⟩
          · try simp only [go_sem, n1, n2, n3, n4, ghk1na, ghk2na] at hk3
            all_goals
            obtain rfl := so_some h
            refine ⟨0, fun L hL => ?_⟩
            simp only [go_sem, ir57, E_spec_IsName_l1, R_spec_IsName_l1, ir57_k0, ir57_o0, ir57_r0, ghk1na, ghk2na, hk3]
          · try simp only [go_sem, n1, n2, n3, n4, ghk1na, ghk2na] at hk3
            all_goals
            obtain ⟨y_9, hk9, h⟩ := bd_some h
            obtain ⟨Lhk9, ehk9⟩ := spec_IsName_l1_ex hk9
            rcases y_9 with y_9a | y_9b
            · dsimp only at h
              obtain rfl := so_some h
              refine ⟨Lhk9, fun L hL => ?_⟩
              have ehk9 := ehk9 L (by omega)
              try simp only [go_sem, E_spec_IsName_l1, R_spec_IsName_l1, ir57_k0, ir57_o0, ir57_r0, ghk1na, ghk2na, hk3] at ehk9
              simp only [go_sem, ir57, E_spec_IsName_l1, R_spec_IsName_l1, ir57_k0, ir57_o0, ir57_r0, ghk1na, ghk2na, hk3, ehk9]
            · dsimp only at h
              obtain rfl := so_some h
              refine ⟨Lhk9, fun L hL => ?_⟩
              have ehk9 := ehk9 L (by omega)
              try simp only [go_sem, E_spec_IsName_l1, R_spec_IsName_l1, ir57_k0, ir57_o0, ir57_r0, ghk1na, ghk2na, hk3] at ehk9
              simp only [go_sem, ir57, E_spec_IsName_l1, R_spec_IsName_l1, ir57_k0, ir57_o0, ir57_r0, ghk1na, ghk2na, hk3, ehk9]
        · try simp only [go_sem, n1, n2, n3, n4, ghk1na] at ghk2na
          all_goals
          try simp only [go_sem, n1, n2, n3, n4, ghk1na, ghk2na] at ghk2nb
          all_goals
          rcases it_some h with ⟨hk3, h⟩ | ⟨hk3, h⟩
          · try simp only [go_sem, n1, n2, n3, n4, ghk1na, ghk2na, ghk2nb] at hk3
            all_goals
            obtain rfl := so_some h
            refine ⟨0, fun L hL => ?_⟩
            simp only [go_sem, ir57, E_spec_IsName_l1, R_spec_IsName_l1, ir57_k0, ir57_o0, ir57_r0, ghk1na, ghk2na, ghk2nb, hk3]
          · try simp only [go_sem, n1, n2, n3, n4, ghk1na, ghk2na, ghk2nb] at hk3
            all_goals
            obtain ⟨y_9, hk9, h⟩ := bd_some h
            obtain ⟨Lhk9, ehk9⟩ := spec_IsName_l1_ex hk9
            rcases y_9 with y_9a | y_9b
            · dsimp only at h
              obtain rfl := so_some h
              refine ⟨Lhk9, fun L hL => ?_⟩
              have ehk9 := ehk9 L (by omega)
              try simp only [go_sem, E_spec_IsName_l1, R_spec_IsName_l1, ir57_k0, ir57_o0, ir57_r0, ghk1na, ghk2na, ghk2nb, hk3] at ehk9
              simp only [go_sem, ir57, E_spec_IsName_l1, R_spec_IsName_l1, ir57_k0, ir57_o0, ir57_r0, ghk1na, ghk2na, ghk2nb, hk3, ehk9]
            · dsimp only at h
              obtain rfl := so_some h
              refine ⟨Lhk9, fun L hL => ?_⟩
              have ehk9 := ehk9 L (by omega)
              try simp only [go_sem, E_spec_IsName_l1, R_spec_IsName_l1, ir57_k0, ir57_o0, ir57_r0, ghk1na, ghk2na, ghk2nb, hk3] at ehk9
              simp only [go_sem, ir57, E_spec_IsName_l1, R_spec_IsName_l1, ir57_k0, ir57_o0, ir57_r0, ghk1na, ghk2na, ghk2nb, hk3, ehk9]
    · try simp only [go_sem, n1, n2, n3, n4] at ghk1na
      all_goals
      try simp only [go_sem, n1, n2, n3, n4, ghk1na] at ghk1nb
      all_goals
      obtain ⟨hk2, h⟩ := ck_some h
      rcases or_split hk2 with ⟨ghk2, hk2⟩ | ghk2
      · try simp only [go_sem, n1, n2, n3, n4, ghk1na, ghk1nb] at ghk2
        all_goals
        obtain ⟨y_2, hhk2⟩ := Option.isSome_iff_exists.1 hk2
        have fhk2 := Fs_spec_l01Small hhk2
        try simp only [go_sem, ghk1na, ghk1nb, ghk2] at fhk2
        rcases it_some h with ⟨hk3, h⟩ | ⟨hk3, h⟩
        · try simp only [go_sem, n1, n2, n3, n4, ghk1na, ghk1nb, ghk2, hhk2] at hk3
          all_goals
          obtain rfl := so_some h
          refine ⟨0, fun L hL => ?_⟩
          simp only [go_sem, ir57, E_spec_IsName_l1, R_spec_IsName_l1, ir57_k0, ir57_o0, ir57_r0, ghk1na, ghk1nb, ghk2, hhk2, fhk2, hk3]
        · try simp only [go_sem, n1, n2, n3, n4, ghk1na, ghk1nb, ghk2, hhk2] at hk3
          all_goals
          obtain ⟨y_9, hk9, h⟩ := bd_some h
          obtain ⟨Lhk9, ehk9⟩ := spec_IsName_l1_ex hk9
          rcases y_9 with y_9a | y_9b
          · dsimp only at h
            obtain rfl := so_some h
            refine ⟨Lhk9, fun L hL => ?_⟩
            have ehk9 := ehk9 L (by omega)
            try simp only [go_sem, E_spec_IsName_l1, R_spec_IsName_l1, ir57_k0, ir57_o0, ir57_r0, ghk1na, ghk1nb, ghk2, hhk2, hk3] at ehk9
            simp only [go_sem, ir57, E_spec_IsName_l1, R_spec_IsName_l1, ir57_k0, ir57_o0, ir57_r0, ghk1na, ghk1nb, ghk2, hhk2, fhk2, hk3, ehk9]
          · dsimp only at h
            obtain rfl := so_some h
            refine ⟨Lhk9, fun L hL => ?_⟩
            have ehk9 := ehk9 L (by omega)
            try simp only [go_sem, E_spec_IsName_l1, R_spec_IsName_l1, ir57_k0, ir57_o0, ir57_r0, ghk1na, ghk1nb, ghk2, hhk2, hk3] at ehk9
            simp only [go_sem, ir57, E_spec_IsName_l1, R_spec_IsName_l1, ir57_k0, ir57_o0, ir57_r0, ghk1na, ghk1nb, ghk2, hhk2, fhk2, hk3, ehk9]
      · have ghk2n := no_f ghk2
        rcases or_t ghk2n with ghk2na | ⟨ghk2na, ghk2nb⟩
        · try simp only [go_sem, n1, n2, n3, n4, ghk1na, ghk1nb] at ghk2na
          all_goals
          rcases it_some h with ⟨hk3, h⟩ | ⟨hk3, h⟩
          · try simp only [go_sem, n1, n2, n3, n4, ghk1na, ghk1nb, ghk2na] at hk3
            all_goals
            obtain rfl := so_some h
            refine ⟨0, fun L hL => ?_⟩
            simp only [go_sem, ir57, E_spec_IsName_l1, R_spec_IsName_l1, ir57_k0, ir57_o0, ir57_r0, ghk1na, ghk1nb, ghk2na, hk3]
          · try simp only [go_sem, n1, n2, n3, n4, ghk1na, ghk1nb, ghk2na] at hk3
            all_goals
            obtain ⟨y_9, hk9, h⟩ := bd_some h
            obtain ⟨Lhk9, ehk9⟩ := spec_IsName_l1_ex hk9
            rcases y_9 with y_9a | y_9b
            · dsimp only at h
              obtain rfl := so_some h
              refine ⟨Lhk9, fun L hL => ?_⟩
              have ehk9 := ehk9 L (by omega)
              try simp only [go_sem, E_spec_IsName_l1, R_spec_IsName_l1, ir57_k0, ir57_o0, ir57_r0, ghk1na, ghk1nb, ghk2na, hk3] at ehk9
              simp only [go_sem, ir57, E_spec_IsName_l1, R_spec_IsName_l1, ir57_k0, ir57_o0, ir57_r0, ghk1na, ghk1nb, ghk2na, hk3, ehk9]
            · dsimp only at h
              obtain rfl := so_some h
              refine ⟨Lhk9, fun L hL => ?_⟩
              have ehk9 := ehk9 L (by omega)
              try simp only [go_sem, E_spec_IsName_l1, R_spec_IsName_l1, ir57_k0, ir57_o0, ir57_r0, ghk1na, ghk1nb, ghk2na, hk3] at ehk9
              simp only [go_sem, ir57, E_spec_IsName_l1, R_spec_IsName_l1, ir57_k0, ir57_o0, ir57_r0, ghk1na, ghk1nb, ghk2na, hk3, ehk9]
        · try simp only [go_sem, n1, n2, n3, n4, ghk1na, ghk1nb] at ghk2na
          all_goals
          try simp only [go_sem, n1, n2, n3, n4, ghk1na, ghk1nb, ghk2na] at ghk2nb
          all_goals
          rcases it_some h with ⟨hk3, h⟩ | ⟨hk3, h⟩
          · try simp only [go_sem, n1, n2, n3, n4, ghk1na, ghk1nb, ghk2na, ghk2nb] at hk3
            all_goals
            obtain rfl := so_some h
            refine ⟨0, fun L hL => ?_⟩
            simp only [go_sem, ir57, E_spec_IsName_l1, R_spec_IsName_l1, ir57_k0, ir57_o0, ir57_r0, ghk1na, ghk1nb, ghk2na, ghk2nb, hk3]
          · try simp only [go_sem, n1, n2, n3, n4, ghk1na, ghk1nb, ghk2na, ghk2nb] at hk3
            all_goals
            obtain ⟨y_9, hk9, h⟩ := bd_some h
            obtain ⟨Lhk9, ehk9⟩ := spec_IsName_l1_ex hk9
            rcases y_9 with y_9a | y_9b
            · dsimp only at h
              obtain rfl := so_some h
              refine ⟨Lhk9, fun L hL => ?_⟩
              have ehk9 := ehk9 L (by omega)
              try simp only [go_sem, E_spec_IsName_l1, R_spec_IsName_l1, ir57_k0, ir57_o0, ir57_r0, ghk1na, ghk1nb, ghk2na, ghk2nb, hk3] at ehk9
              simp only [go_sem, ir57, E_spec_IsName_l1, R_spec_IsName_l1, ir57_k0, ir57_o0, ir57_r0, ghk1na, ghk1nb, ghk2na, ghk2nb, hk3, ehk9]
            · dsimp only at h
              obtain rfl := so_some h
              refine ⟨Lhk9, fun L hL => ?_⟩
              have ehk9 := ehk9 L (by omega)
              try simp only [go_sem, E_spec_IsName_l1, R_spec_IsName_l1, ir57_k0, ir57_o0, ir57_r0, ghk1na, ghk1nb, ghk2na, ghk2nb, hk3] at ehk9
              simp only [go_sem, ir57, E_spec_IsName_l1, R_spec_IsName_l1, ir57_k0, ir57_o0, ir57_r0, ghk1na, ghk1nb, ghk2na, ghk2nb, hk3, ehk9]


def ir32_v : List Nat := [0, 2]
def ir32 : AFn := ⟨1, 2, .seq (.region false [
    ⟨.var 1, 2, none, .mov (.c (.bool false))⟩])
 (.seq (.region false [
    ⟨.push, 3, none, .mov (.v 0)⟩,
    ⟨.push, 4, none, .nilck (.s 0)⟩,
    ⟨.push, 5, none, .fldAddr 0 (.s 0)⟩,
    ⟨.push, 6, none, .load false 1 (.s 0)⟩,
    ⟨.push, 7, none, .call 56 [(.s 0)]⟩,
    ⟨.push, 8, none, .mov (.s 0)⟩,
    ⟨.push, 9, (some ((.s 0), true)), .mov (.v 0)⟩,
    ⟨.push, 10, (some ((.s 1), true)), .nilck (.s 0)⟩,
    ⟨.push, 11, (some ((.s 2), true)), .fldAddr 1 (.s 0)⟩,
    ⟨.push, 12, (some ((.s 3), true)), .load false 1 (.s 0)⟩,
    ⟨.push, 13, (some ((.s 4), true)), .call 57 [(.s 0)]⟩,
    ⟨.push, 14, none, .pick (.s 5) (.s 0) (.c (.bool false))⟩,
    ⟨.push, 15, none, .mov (.s 0)⟩,
    ⟨.push, 16, (some ((.s 0), true)), .mov (.v 0)⟩,
    ⟨.push, 17, (some ((.s 1), true)), .nilck (.s 0)⟩,
    ⟨.push, 18, (some ((.s 2), true)), .fldAddr 2 (.s 0)⟩,
    ⟨.push, 19, (some ((.s 3), true)), .load false 1 (.s 0)⟩,
    ⟨.push, 20, (some ((.s 4), true)), .call 46 [(.s 0), (.c (.int .i64 (-1000000))), (.c (.int .i64 (1000000)))]⟩,
    ⟨.push, 21, none, .pick (.s 5) (.s 0) (.c (.bool false))⟩,
    ⟨.var 1, 2, none, .mov (.s 0)⟩])
 (.ret)), [.t 1]⟩
noncomputable def t_spec_l27Ok : List (Nat × Ctr) := [(56, c_spec_l27Day), (57, c_spec_IsName), (46, c_spec_l00In)]
theorem lk_spec_l27Ok_56 : look t_spec_l27Ok 56 = some c_spec_l27Day := rfl
theorem lk_spec_l27Ok_57 : look t_spec_l27Ok 57 = some c_spec_IsName := rfl
theorem lk_spec_l27Ok_46 : look t_spec_l27Ok 46 = some c_spec_l00In := rfl
noncomputable def c_spec_l27Ok : Ctr := mkF t_spec_l27Ok ir32 [.bor]
theorem s_spec_l27Ok : Sound Tryd.prog 32 c_spec_l27Ok := mkF_sound _ rfl (snd_cons s_spec_l27Day (snd_cons s_spec_IsName (snd_cons s_spec_l00In snd_nil))) (by kernel_rfl : chkFn Tryd.prog 32 ir32 ir32_v = true)
theorem M_spec_l27Ok : c_spec_l27Ok.modes = [.bor] := rfl
theorem Fl_spec_l27Ok : c_spec_l27Ok.flat = true := rfl
attribute [go_sem] M_spec_l27Ok Fl_spec_l27Ok
attribute [go_sem] lk_spec_l27Ok_56 lk_spec_l27Ok_57 lk_spec_l27Ok_46
theorem Fs_spec_l27Ok {e_ : Entry} {y_ : Bool} (h : spec_l27Ok e_ = some y_) : c_spec_l27Ok.F [.ptr 3 [Entry_av e_] 0 0] = ⟨true, .bool y_, [.any]⟩ := by
  refine mkF_E rfl ?_
  dsimp only [spec_l27Ok] at h
  obtain ⟨y_1, hk1, h⟩ := bd_some h
  have fhk1 := Fs_spec_l27Day hk1
  try simp only [go_sem] at fhk1
  obtain ⟨hk2, h⟩ := ck_some h
  rcases or_split hk2 with ⟨ghk2, hk2⟩ | ghk2
  · try simp only [go_sem, n1, n2, n3, n4] at ghk2
    all_goals
    obtain ⟨y_2, hhk2⟩ := Option.isSome_iff_exists.1 hk2
    have fhk2 := Fs_spec_IsName hhk2
    try simp only [go_sem, ghk2] at fhk2
    obtain ⟨hk3, h⟩ := ck_some h
    rcases or_split hk3 with ⟨ghk3, hk3⟩ | ghk3
    · try simp only [go_sem, n1, n2, n3, n4, ghk2, hhk2] at ghk3
      all_goals
      obtain ⟨y_3, hhk3⟩ := Option.isSome_iff_exists.1 hk3
      have fhk3 := Fs_spec_l00In hhk3
      try simp only [go_sem, ghk2, hhk2, ghk3] at fhk3
      obtain rfl := so_some h
      refine ⟨0, fun L hL => ?_⟩
      simp only [go_sem, ir32, fhk1, ghk2, hhk2, fhk2, ghk3, hhk3, fhk3]
    · rcases and_f ghk3 with ghk3a | ⟨ghk3a, ghk3b⟩
      · try simp only [go_sem, n1, n2, n3, n4, ghk2, hhk2] at ghk3a
        all_goals
        obtain rfl := so_some h
        refine ⟨0, fun L hL => ?_⟩
        simp only [go_sem, ir32, fhk1, ghk2, hhk2, fhk2, ghk3a]
      · try simp only [go_sem, n1, n2, n3, n4, ghk2, hhk2] at ghk3a
        all_goals
        try simp only [go_sem, n1, n2, n3, n4, ghk2, hhk2, ghk3a] at ghk3b
        all_goals
        obtain rfl := so_some h
        refine ⟨0, fun L hL => ?_⟩
        simp only [go_sem, ir32, fhk1, ghk2, hhk2, fhk2, ghk3a, ghk3b]
  · try simp only [go_sem, n1, n2, n3, n4] at ghk2
    all_goals
    obtain ⟨hk3, h⟩ := ck_some h
    rcases or_split hk3 with ⟨ghk3, hk3⟩ | ghk3
    · try simp only [go_sem, n1, n2, n3, n4, ghk2] at ghk3
      all_goals
      obtain ⟨y_3, hhk3⟩ := Option.isSome_iff_exists.1 hk3
      have fhk3 := Fs_spec_l00In hhk3
      try simp only [go_sem, ghk2, ghk3] at fhk3
      obtain rfl := so_some h
      refine ⟨0, fun L hL => ?_⟩
      simp only [go_sem, ir32, fhk1, ghk2, ghk3, hhk3, fhk3]
    · rcases and_f ghk3 with ghk3a | ⟨ghk3a, ghk3b⟩
      · try simp only [go_sem, n1, n2, n3, n4, ghk2] at ghk3a
        all_goals
        obtain rfl := so_some h
        refine ⟨0, fun L hL => ?_⟩
        simp only [go_sem, ir32, fhk1, ghk2, ghk3a]
      · try simp only [go_sem, n1, n2, n3, n4, ghk2] at ghk3a
        all_goals
        try simp only [go_sem, n1, n2, n3, n4, ghk2, ghk3a] at ghk3b
        all_goals
        obtain rfl := so_some h
        refine ⟨0, fun L hL => ?_⟩
        simp only [go_sem, ir32, fhk1, ghk2, ghk3a, ghk3b]


def ir30_b0 : IR := .seq (.test false [
    ⟨.push, 14, none, .mov (.v 5)⟩,
    ⟨.push, 15, none, .bin false .gtr (.s 0) (.c (.int .i64 (0)))⟩] (.s 0)
  (.skip)
  (.exit 0))
 (.seq (.block 1 (.seq (.region false [
      ⟨.push, 18, none, .mov (.v 0)⟩,
      ⟨.push, 19, none, .mov (.v 4)⟩,
      ⟨.push, 20, none, .call 55 [(.s 1), (.s 0)]⟩,
      ⟨.var 6, 8, none, .alloc (.agg [.int .i64 (0), .str [], .int .i64 (0)])⟩,
      ⟨.no, 0, none, .store 3 (.v 6) (.s 0)⟩])
   (.test false [
     ⟨.push, 21, none, .call 32 [(.v 6)]⟩,
     ⟨.push, 22, none, .mov (.s 0)⟩,
     ⟨.push, 23, (some ((.s 0), true)), .fldAddr 0 (.v 6)⟩,
     ⟨.push, 24, (some ((.s 1), true)), .load false 1 (.s 0)⟩,
     ⟨.push, 25, (some ((.s 2), true)), .mov (.v 4)⟩,
     ⟨.push, 26, (some ((.s 3), true)), .bin false .geq (.s 1) (.s 0)⟩,
     ⟨.push, 27, none, .pick (.s 4) (.s 0) (.c (.bool false))⟩] (.s 0)
   (.seq (.region false [
       ⟨.push, 28, none, .mov (.v 3)⟩,
       ⟨.push, 29, none, .load true 3 (.v 6)⟩,
       ⟨.push, 30, none, .mkSl 3 (.agg [.int .i64 (0), .str [], .int .i64 (0)]) 1 [(0, (.s 0))]⟩,
       ⟨.push, 31, none, .app 3 32 (.agg [.int .i64 (0), .str [], .int .i64 (0)]) (.s 2) (.s 0)⟩,
       ⟨.var 3, 5, none, .mov (.s 0)⟩])
    (.region false [
      ⟨.push, 32, none, .fldAddr 0 (.v 6)⟩,
      ⟨.push, 33, none, .load false 1 (.s 0)⟩,
      ⟨.var 4, 6, none, .mov (.s 0)⟩]))
   (.skip))))
 (.region false [
   ⟨.push, 16, none, .mov (.v 5)⟩,
   ⟨.push, 17, none, .bin false .sub (.s 0) (.c (.int .i64 (1)))⟩,
   ⟨.var 5, 7, none, .mov (.s 0)⟩]))
def ir30_k0 : List Bool := [true, false, false, true, true, true, false]
def ir30_o0 : List Bool := [true, false, false, true, false, false, false]
def ir30_r0 : List Bool := [true, false, true, false, false, false, false]
def ir30_v : List Nat := [0, 1, 4, 5, 6, 7, 8]
def ir30 : AFn := ⟨2, 7, .seq (.region false [
    ⟨.var 2, 4, none, .newnil 3⟩])
 (.seq (.region false [
    ⟨.push, 9, none, .mkSl 3 (.agg [.int .i64 (0), .str [], .int .i64 (0)]) 0 []⟩,
    ⟨.var 3, 5, none, .mov (.s 0)⟩])
 (.seq (.region false [
    ⟨.var 4, 6, none, .mov (.c (.int .i64 (0)))⟩])
 (.seq (.seq (.region false [
     ⟨.push, 10, none, .mov (.v 0)⟩,
     ⟨.push, 11, none, .mov (.v 1)⟩,
     ⟨.push, 12, none, .bin false .add (.s 0) (.c (.int .i64 (1)))⟩,
     ⟨.push, 13, none, .call 54 [(.s 2), (.s 0)]⟩,
     ⟨.var 5, 7, none, .mov (.s 0)⟩])
  (.block 0 (.loop ir30_k0 ir30_o0 ir30_r0 ir30_b0)))
 (.seq (.region false [
    ⟨.push, 34, none, .mov (.v 3)⟩,
    ⟨.var 2, 4, none, .mov (.s 0)⟩])
 (.ret))))), [.t 2]⟩
noncomputable def t_spec_l27Entries : List (Nat × Ctr) := [(54, c_spec_l00Src_pick), (55, c_spec_l27DrawEntry), (32, c_spec_l27Ok)]
theorem lk_spec_l27Entries_54 : look t_spec_l27Entries 54 = some c_spec_l00Src_pick := rfl
theorem lk_spec_l27Entries_55 : look t_spec_l27Entries 55 = some c_spec_l27DrawEntry := rfl
theorem lk_spec_l27Entries_32 : look t_spec_l27Entries 32 = some c_spec_l27Ok := rfl
noncomputable def c_spec_l27Entries : Ctr := mkN t_spec_l27Entries ir30 [.io, .bor]
theorem s_spec_l27Entries : Sound Tryd.prog 30 c_spec_l27Entries := mkN_sound _ (snd_cons s_spec_l00Src_pick (snd_cons s_spec_l27DrawEntry (snd_cons s_spec_l27Ok snd_nil))) (by kernel_rfl : chkFn Tryd.prog 30 ir30 ir30_v = true)
theorem M_spec_l27Entries : c_spec_l27Entries.modes = [.io, .bor] := rfl
theorem Fl_spec_l27Entries : c_spec_l27Entries.flat = false := rfl
attribute [go_sem] M_spec_l27Entries Fl_spec_l27Entries
attribute [go_sem] lk_spec_l27Entries_54 lk_spec_l27Entries_55 lk_spec_l27Entries_32
def E_spec_l27Entries_l1  : (L00Src × (List Entry) × Int × Int) → St
  | (s_, out, day, k) => ⟨[.ref 31 0 0, .any, .any, .own 3200032, .int .i64 day, .int .i64 k, .any], [], [(31, ⟨3, [L00Src_av s_]⟩), (3200032, ⟨3, List.map Entry_av out⟩)], true⟩
def R_spec_l27Entries_l1  (y : L00Src × (List Entry)) : Res := (.exit 0, ⟨[.ref 31 0 0, .any, .any, .own 3200032, .any, .any, .any], [], [(31, ⟨3, [L00Src_av y.1]⟩), (3200032, ⟨3, List.map Entry_av y.2⟩)], true⟩)
theorem spec_l27Entries_l1_ex  {sgm_ : L00Src × (List Entry) × Int × Int} {rho_ : L00Src × (List Entry)} (h : whileE (spec_l27Entries_l1) sgm_ = some rho_) : ∃ L0, ∀ L, L0 ≤ L → iter (exec (look t_spec_l27Entries) L ir30_b0) ir30_k0 ir30_o0 ir30_r0 L (E_spec_l27Entries_l1 sgm_) = R_spec_l27Entries_l1 rho_ := by
  refine loop_ex (E := E_spec_l27Entries_l1) (R := R_spec_l27Entries_l1) (fun y => by first | (intro c; cases c) | (rcases y with y | y <;> (intro c; cases c)) | (rcases y with y | y | y <;> (intro c; cases c))) ?_ h
  clear h
  rintro ⟨s_, out, day, k⟩ o_ h
  dsimp only [spec_l27Entries_l1] at h
  rcases it_some h with ⟨hk2, h⟩ | ⟨hk2, h⟩
  · try simp only [go_sem, n1, n2, n3, n4] at hk2
    all_goals
    obtain ⟨y_3, hk3, h⟩ := bd_some h
    have fhk3 := Fs_spec_l27DrawEntry hk3
    try simp only [go_sem, hk2] at fhk3
    obtain ⟨y_4, hk4, h⟩ := bd_some h
    have fhk4 := Fs_spec_l27Ok hk4
    try simp only [go_sem, hk2] at fhk4
    rcases it_some h with ⟨hk5, h⟩ | ⟨hk5, h⟩
    · try simp only [go_sem, n1, n2, n3, n4, hk2] at hk5
      all_goals
      obtain ⟨hk6, h⟩ := ck_some h
      try simp only [go_sem, n1, n2, n3, n4, hk2, hk5] at hk6
      all_goals
      obtain rfl := so_some h
      refine ⟨0, fun L hL => ?_⟩
      simp only [go_sem, ir30, E_spec_l27Entries_l1, R_spec_l27Entries_l1, ir30_b0, ir30_k0, ir30_o0, ir30_r0, hk2, fhk3, fhk4, hk5, hk6]
    · try simp only [go_sem, n1, n2, n3, n4, hk2] at hk5
      all_goals
      obtain rfl := so_some h
      refine ⟨0, fun L hL => ?_⟩
      simp only [go_sem, ir30, E_spec_l27Entries_l1, R_spec_l27Entries_l1, ir30_b0, ir30_k0, ir30_o0, ir30_r0, hk2, fhk3, fhk4, hk5]
  · try simp only [go_sem, n1, n2, n3, n4] at hk2
    all_goals
    obtain rfl := so_some h
    refine ⟨0, fun L hL => ?_⟩
    simp only [go_sem, ir30, E_spec_l27Entries_l1, R_spec_l27Entries_l1, ir30_b0, ir30_k0, ir30_o0, ir30_r0, hk2]

theorem Fs_spec_l27Entries {s_ : L00Src} {most : Int} {y_ : (List Entry) × L00Src} (h : spec_l27Entries s_ most = some y_) : c_spec_l27Entries.F [.mem 3 [L00Src_av s_], .int .i64 most] = ⟨true, .fresh 3 (List.map Entry_av y_.1), [.mem 3 [L00Src_av y_.2], .any]⟩ := by
  refine mkN_E ?_
  dsimp only [spec_l27Entries] at h
  obtain ⟨y_1, hk1, h⟩ := bd_some h
  have fhk1 := Fs_spec_l00Src_pick hk1
  try simp only [go_sem] at fhk1
  obtain ⟨y_7, hk7, h⟩ := bd_some h
  obtain ⟨Lhk7, ehk7⟩ := spec_l27Entries_l1_ex hk7
  obtain rfl := so_some h
  refine ⟨Lhk7, fun L hL => ?_⟩
  have ehk7 := ehk7 L (by omega)
  try simp only [go_sem, E_spec_l27Entries_l1, R_spec_l27Entries_l1, ir30_k0, ir30_o0, ir30_r0] at ehk7
  simp only [go_sem, ir30, E_spec_l27Entries_l1, R_spec_l27Entries_l1, ir30_k0, ir30_o0, ir30_r0, fhk1, ehk7]


def ir10_v : List Nat := [0, 2]
def ir10 : AFn := ⟨1, 2, .seq (.region false [
    ⟨.var 1, 2, none, .newnil 3⟩])
 (.seq (.region false [
    ⟨.push, 3, none, .mov (.v 0)⟩,
    ⟨.push, 4, none, .call 31 [(.s 0)]⟩,
    ⟨.push, 5, none, .call 30 [(.s 0), (.c (.int .i64 (7)))]⟩,
    ⟨.var 1, 2, none, .mov (.s 0)⟩])
 (.ret)), [.t 1]⟩
noncomputable def t_spec_A2Entries : List (Nat × Ctr) := [(31, c_spec_l00From), (30, c_spec_l27Entries)]
theorem lk_spec_A2Entries_31 : look t_spec_A2Entries 31 = some c_spec_l00From := rfl
theorem lk_spec_A2Entries_30 : look t_spec_A2Entries 30 = some c_spec_l27Entries := rfl
noncomputable def c_spec_A2Entries : Ctr := mkF t_spec_A2Entries ir10 [.bor]
theorem s_spec_A2Entries : Sound Tryd.prog 10 c_spec_A2Entries := mkF_sound _ rfl (snd_cons s_spec_l00From (snd_cons s_spec_l27Entries snd_nil)) (by kernel_rfl : chkFn Tryd.prog 10 ir10 ir10_v = true)
theorem M_spec_A2Entries : c_spec_A2Entries.modes = [.bor] := rfl
theorem Fl_spec_A2Entries : c_spec_A2Entries.flat = true := rfl
attribute [go_sem] M_spec_A2Entries Fl_spec_A2Entries
attribute [go_sem] lk_spec_A2Entries_31 lk_spec_A2Entries_30
theorem Fs_spec_A2Entries {code : List UInt8} {y_ : (List Entry)} (h : spec_A2Entries code = some y_) : c_spec_A2Entries.F [.sl 1 (List.map byteAV code)] = ⟨true, .fresh 3 (List.map Entry_av y_), [.any]⟩ := by
  refine mkF_E (by simp only [flatA, flatB, flat1, List.all_cons, List.all_nil, Bool.and_self, flatE_map (f := Entry_av) (fun _ => rfl)]) ?_
  dsimp only [spec_A2Entries] at h
  obtain ⟨y_1, hk1, h⟩ := bd_some h
  have fhk1 := Fs_spec_l00From hk1
  try simp only [go_sem] at fhk1
  obtain ⟨y_2, hk2, h⟩ := bd_some h
  have fhk2 := Fs_spec_l27Entries hk2
  try simp only [go_sem] at fhk2
  obtain rfl := so_some h
  refine ⟨0, fun L hL => ?_⟩
  simp only [go_sem, ir10, fhk1, fhk2]


def ir45_b0 : IR := .seq (.test false [
    ⟨.push, 8, none, .mov (.v 3)⟩,
    ⟨.push, 9, none, .bin false .neq (.s 0) (.c (.int .i64 (0)))⟩] (.s 0)
  (.skip)
  (.exit 0))
 (.seq (.block 1 (.seq (.region false [
      ⟨.push, 12, none, .mov (.v 3)⟩,
      ⟨.push, 13, none, .bin false .rem (.s 0) (.c (.int .i64 (10)))⟩,
      ⟨.var 4, 5, none, .mov (.s 0)⟩])
   (.seq (.test false [
      ⟨.push, 14, none, .mov (.v 4)⟩,
      ⟨.push, 15, none, .bin false .lss (.s 0) (.c (.int .i64 (0)))⟩] (.s 0)
    (.region false [
       ⟨.push, 16, none, .mov (.v 4)⟩,
       ⟨.push, 17, none, .un .neg (.s 0)⟩,
       ⟨.var 4, 5, none, .mov (.s 0)⟩])
    (.skip))
   (.region false [
     ⟨.push, 18, none, .mov (.v 4)⟩,
     ⟨.push, 19, none, .bin false .add (.c (.int .i64 (48))) (.s 0)⟩,
     ⟨.push, 20, none, .conv .u8 (.s 0)⟩,
     ⟨.push, 21, none, .mkSl 1 (.int .u8 (0)) 1 [(0, (.s 0))]⟩,
     ⟨.push, 22, none, .mov (.v 2)⟩,
     ⟨.push, 23, none, .app 1 1 (.int .u8 (0)) (.s 1) (.s 0)⟩,
     ⟨.var 2, 3, none, .mov (.s 0)⟩]))))
 (.region false [
   ⟨.push, 10, none, .mov (.v 3)⟩,
   ⟨.push, 11, none, .bin false .quo (.s 0) (.c (.int .i64 (10)))⟩,
   ⟨.var 3, 4, none, .mov (.s 0)⟩]))
def ir45_k0 : List Bool := [true, false, true, true, false]
def ir45_o0 : List Bool := [true, false, true, false, false]
def ir45_r0 : List Bool := [false, true, false, false, false]
def ir45_v : List Nat := [0, 2, 3, 4, 5]
def ir45 : AFn := ⟨1, 5, .seq (.region false [
    ⟨.var 1, 2, none, .mov (.c (.str []))⟩])
 (.seq (.region false [
    ⟨.push, 6, none, .mkSl 1 (.int .u8 (0)) 0 []⟩,
    ⟨.var 2, 3, none, .mov (.s 0)⟩])
 (.seq (.seq (.region false [
     ⟨.push, 7, none, .mov (.v 0)⟩,
     ⟨.var 3, 4, none, .mov (.s 0)⟩])
  (.block 0 (.loop ir45_k0 ir45_o0 ir45_r0 ir45_b0)))
 (.seq (.test false [
    ⟨.push, 24, none, .mov (.v 2)⟩,
    ⟨.push, 25, none, .len false (.s 0)⟩,
    ⟨.push, 26, none, .bin false .eql (.s 0) (.c (.int .i64 (0)))⟩] (.s 0)
  (.seq (.region false [
      ⟨.var 1, 2, none, .mov (.c (.str [48]))⟩])
   (.ret))
  (.skip))
 (.seq (.test false [
    ⟨.push, 27, none, .mov (.v 0)⟩,
    ⟨.push, 28, none, .bin false .lss (.s 0) (.c (.int .i64 (0)))⟩] (.s 0)
  (.seq (.region false [
      ⟨.push, 29, none, .mov (.v 2)⟩,
      ⟨.push, 30, none, .b2s (.s 0)⟩,
      ⟨.push, 31, none, .bin false .add (.c (.str [45])) (.s 0)⟩,
      ⟨.var 1, 2, none, .mov (.s 0)⟩])
   (.ret))
  (.skip))
 (.seq (.region false [
    ⟨.push, 32, none, .mov (.v 2)⟩,
    ⟨.push, 33, none, .b2s (.s 0)⟩,
    ⟨.var 1, 2, none, .mov (.s 0)⟩])
 (.ret)))))), [.t 1]⟩
noncomputable def t_spec_l01Dec : List (Nat × Ctr) := []
noncomputable def c_spec_l01Dec : Ctr := mkF t_spec_l01Dec ir45 [.bor]
theorem s_spec_l01Dec : Sound Tryd.prog 45 c_spec_l01Dec := mkF_sound _ rfl snd_nil (by kernel_rfl : chkFn Tryd.prog 45 ir45 ir45_v = true)
theorem M_spec_l01Dec : c_spec_l01Dec.modes = [.bor] := rfl
theorem Fl_spec_l01Dec : c_spec_l01Dec.flat = true := rfl
attribute [go_sem] M_spec_l01Dec Fl_spec_l01Dec
def E_spec_l01Dec_l1 (n : Int) : ((List UInt8) × Int) → St
  | (out, k) => ⟨[.int .i64 n, .any, .own 3200000, .int .i64 k, .any], [], [(3200000, ⟨1, List.map byteAV out⟩)], true⟩
def R_spec_l01Dec_l1 (n : Int) (y : (List UInt8)) : Res := (.exit 0, ⟨[.int .i64 n, .any, .own 3200000, .any, .any], [], [(3200000, ⟨1, List.map byteAV y⟩)], true⟩)
theorem spec_l01Dec_l1_ex {n : Int} {sgm_ : (List UInt8) × Int} {rho_ : (List UInt8)} (h : whileE (spec_l01Dec_l1 n) sgm_ = some rho_) : ∃ L0, ∀ L, L0 ≤ L → iter (exec (look t_spec_l01Dec) L ir45_b0) ir45_k0 ir45_o0 ir45_r0 L (E_spec_l01Dec_l1 n sgm_) = R_spec_l01Dec_l1 n rho_ := by
  refine loop_ex (E := E_spec_l01Dec_l1 n) (R := R_spec_l01Dec_l1 n) (fun y => by first | (intro c; cases c) | (rcases y with y | y <;> (intro c; cases c)) | (rcases y with y | y | y <;> (intro c; cases c))) ?_ h
  clear h
  rintro ⟨out, k⟩ o_ h
  dsimp only [spec_l01Dec_l1] at h
  rcases it_some h with ⟨hk1, h⟩ | ⟨hk1, h⟩
  · try simp only [go_sem, n1, n2, n3, n4] at hk1
    all_goals
    obtain ⟨hk2, h⟩ := ck_some h
    try simp only [go_sem, n1, n2, n3, n4, hk1] at hk2
    all_goals
    rcases it_some h with ⟨hk3, h⟩ | ⟨hk3, h⟩
    · try simp only [go_sem, n1, n2, n3, n4, hk1, hk2] at hk3
      all_goals
      obtain ⟨hk4, h⟩ := ck_some h
      try simp only [go_sem, n1, n2, n3, n4, hk1, hk2, hk3] at hk4
      all_goals
      obtain rfl := so_some h
      refine ⟨0, fun L hL => ?_⟩
      simp only [go_sem, ir45, E_spec_l01Dec_l1, R_spec_l01Dec_l1, ir45_b0, ir45_k0, ir45_o0, ir45_r0, hk1, hk2, hk3, hk4]
    · try simp only [go_sem, n1, n2, n3, n4, hk1, hk2] at hk3
      all_goals
      obtain ⟨hk5, h⟩ := ck_some h
      try simp only [go_sem, n1, n2, n3, n4, hk1, hk2, hk3] at hk5
      all_goals
      obtain rfl := so_some h
      refine ⟨0, fun L hL => ?_⟩
      simp only [go_sem, ir45, E_spec_l01Dec_l1, R_spec_l01Dec_l1, ir45_b0, ir45_k0, ir45_o0, ir45_r0, hk1, hk2, hk3, hk5]
  · try simp only [go_sem, n1, n2, n3, n4] at hk1
    all_goals
    obtain rfl := so_some h
    refine ⟨0, fun L hL => ?_⟩
    simp only [go_sem, ir45, E_spec_l01Dec_l1, R_spec_l01Dec_l1, ir45_b0, ir45_k0, ir45_o0, ir45_r0, hk1]

theorem Fs_spec_l01Dec {n : Int} {y_ : (List UInt8)} (h : spec_l01Dec n = some y_) : c_spec_l01Dec.F [.int .i64 n] = ⟨true, .str y_, [.any]⟩ := by
  refine mkF_E rfl ?_
  dsimp only [spec_l01Dec] at h
  obtain ⟨y_6, hk6, h⟩ := bd_some h
  obtain ⟨Lhk6, ehk6⟩ := spec_l01Dec_l1_ex hk6
  rcases it_some h with ⟨hk7, h⟩ | ⟨hk7, h⟩
  · try simp only [go_sem, n1, n2, n3, n4] at hk7
    all_goals
    obtain rfl := so_some h
    refine ⟨Lhk6, fun L hL => ?_⟩
    have ehk6 := ehk6 L (by omega)
    try simp only [go_sem, E_spec_l01Dec_l1, R_spec_l01Dec_l1, ir45_k0, ir45_o0, ir45_r0, hk7] at ehk6
    simp only [go_sem, ir45, E_spec_l01Dec_l1, R_spec_l01Dec_l1, ir45_k0, ir45_o0, ir45_r0, hk7, ehk6]
  · try simp only [go_sem, n1, n2, n3, n4] at hk7
    all_goals
    rcases it_some h with ⟨hk8, h⟩ | ⟨hk8, h⟩
    · try simp only [go_sem, n1, n2, n3, n4, hk7] at hk8
      all_goals
      obtain ⟨hk9, h⟩ := ck_some h
      try simp only [go_sem, n1, n2, n3, n4, hk7, hk8] at hk9
      all_goals
      obtain rfl := so_some h
      refine ⟨Lhk6, fun L hL => ?_⟩
      have ehk6 := ehk6 L (by omega)
      try simp only [go_sem, E_spec_l01Dec_l1, R_spec_l01Dec_l1, ir45_k0, ir45_o0, ir45_r0, hk7, hk8, hk9] at ehk6
      simp only [go_sem, ir45, E_spec_l01Dec_l1, R_spec_l01Dec_l1, ir45_k0, ir45_o0, ir45_r0, hk7, hk8, hk9, ehk6]
    · try simp only [go_sem, n1, n2, n3, n4, hk7] at hk8
      all_goals
      obtain rfl := so_some h
      refine ⟨Lhk6, fun L hL => ?_⟩
      have ehk6 := ehk6 L (by omega)
      try simp only [go_sem, E_spec_l01Dec_l1, R_spec_l01Dec_l1, ir45_k0, ir45_o0, ir45_r0, hk7, hk8] at ehk6
      simp only [go_sem, ir45, E_spec_l01Dec_l1, R_spec_l01Dec_l1, ir45_k0, ir45_o0, ir45_r0, hk7, hk8, ehk6]


def ir59_v : List Nat := [0, 2]
def ir59 : AFn := ⟨1, 2, .seq (.region false [
    ⟨.var 1, 2, none, .mov (.c (.str []))⟩])
 (.seq (.anyo 18 [
    ⟨.slot 0, 3, none, .mov (.v 0)⟩,
    ⟨.slot 1, 4, none, .nilck (.s 0)⟩,
    ⟨.slot 2, 5, none, .fldAddr 0 (.s 1)⟩,
    ⟨.slot 3, 6, none, .load false 1 (.s 2)⟩,
    ⟨.slot 4, 7, none, .callp 45 [(.s 3)]⟩,
    ⟨.slot 5, 8, none, .bin false .add (.s 4) (.c (.str [32]))⟩,
    ⟨.slot 6, 9, none, .mov (.v 0)⟩,
    ⟨.slot 7, 10, none, .nilck (.s 6)⟩,
    ⟨.slot 8, 11, none, .fldAddr 1 (.s 7)⟩,
    ⟨.slot 9, 12, none, .load false 1 (.s 8)⟩,
    ⟨.slot 10, 13, none, .bin false .add (.s 5) (.s 9)⟩,
    ⟨.slot 11, 14, none, .bin false .add (.s 10) (.c (.str [32]))⟩,
    ⟨.slot 12, 15, none, .mov (.v 0)⟩,
    ⟨.slot 13, 16, none, .nilck (.s 12)⟩,
    ⟨.slot 14, 17, none, .fldAddr 2 (.s 13)⟩,
    ⟨.slot 15, 18, none, .load false 1 (.s 14)⟩,
    ⟨.slot 16, 19, none, .callp 45 [(.s 15)]⟩,
    ⟨.slot 17, 20, none, .bin false .add (.s 11) (.s 16)⟩,
    ⟨.var 1, 2, none, .mov (.s 17)⟩] [] .skip)
 (.ret)), [.t 1]⟩
noncomputable def t_spec_l27Words : List (Nat × Ctr) := [(45, c_spec_l01Dec)]
theorem lk_spec_l27Words_45 : look t_spec_l27Words 45 = some c_spec_l01Dec := rfl
noncomputable def c_spec_l27Words : Ctr := mkF t_spec_l27Words ir59 [.bor]
theorem s_spec_l27Words : Sound Tryd.prog 59 c_spec_l27Words := mkF_sound _ rfl (snd_cons s_spec_l01Dec snd_nil) (by kernel_rfl : chkFn Tryd.prog 59 ir59 ir59_v = true)
theorem M_spec_l27Words : c_spec_l27Words.modes = [.bor] := rfl
theorem Fl_spec_l27Words : c_spec_l27Words.flat = true := rfl
attribute [go_sem] M_spec_l27Words Fl_spec_l27Words
attribute [go_sem] lk_spec_l27Words_45
theorem Fs_spec_l27Words {e_ : Entry} {y_ : (List UInt8)} (h : spec_l27Words e_ = some y_) : c_spec_l27Words.F [.ptr 3 [Entry_av e_] 0 0] = ⟨true, .str y_, [.any]⟩ := by
  refine mkF_E rfl ?_
  dsimp only [spec_l27Words] at h
  obtain ⟨y_1, hk1, h⟩ := bd_some h
  have fhk1 := Fs_spec_l01Dec hk1
  try simp only [go_sem] at fhk1
  obtain ⟨hk2, h⟩ := ck_some h
  try simp only [go_sem, n1, n2, n3, n4] at hk2
  all_goals
  obtain ⟨hk3, h⟩ := ck_some h
  try simp only [go_sem, n1, n2, n3, n4, hk2] at hk3
  all_goals
  obtain ⟨hk4, h⟩ := ck_some h
  try simp only [go_sem, n1, n2, n3, n4, hk2, hk3] at hk4
  all_goals
  obtain ⟨y_5, hk5, h⟩ := bd_some h
  have fhk5 := Fs_spec_l01Dec hk5
  try simp only [go_sem, hk2, hk3, hk4] at fhk5
  obtain ⟨hk6, h⟩ := ck_some h
  try simp only [go_sem, n1, n2, n3, n4, hk2, hk3, hk4] at hk6
  all_goals
  obtain rfl := so_some h
  refine ⟨0, fun L hL => ?_⟩
  simp only [go_sem, ir59, fhk1, hk2, hk3, hk4, fhk5, hk6]


def ir58_b0 : IR := .seq (.test false [
    ⟨.push, 10, none, .mov (.v 4)⟩,
    ⟨.push, 11, none, .mov (.v 1)⟩,
    ⟨.push, 12, none, .len true (.s 0)⟩,
    ⟨.push, 13, none, .bin false .lss (.s 2) (.s 0)⟩] (.s 0)
  (.skip)
  (.exit 0))
 (.seq (.block 1 (.region false [
     ⟨.push, 16, none, .mov (.v 3)⟩,
     ⟨.push, 17, none, .bin false .mul (.c (.int .i64 (31))) (.s 0)⟩,
     ⟨.push, 18, none, .mov (.v 1)⟩,
     ⟨.push, 19, none, .mov (.v 4)⟩,
     ⟨.push, 20, none, .ixStr (.s 1) (.s 0)⟩,
     ⟨.push, 21, none, .conv .i64 (.s 0)⟩,
     ⟨.push, 22, none, .bin false .add (.s 4) (.s 0)⟩,
     ⟨.push, 23, none, .bin false .rem (.s 0) (.c (.int .i64 (65521)))⟩,
     ⟨.var 3, 5, none, .mov (.s 0)⟩]))
 (.region false [
   ⟨.push, 14, none, .mov (.v 4)⟩,
   ⟨.push, 15, none, .bin false .add (.s 0) (.c (.int .i64 (1)))⟩,
   ⟨.var 4, 6, none, .mov (.s 0)⟩]))
def ir58_k0 : List Bool := [false, true, false, true, true]
def ir58_o0 : List Bool := [false, false, false, true, false]
def ir58_r0 : List Bool := [false, false, true, false, false]
def ir58_v : List Nat := [0, 1, 4, 5, 6]
def ir58 : AFn := ⟨2, 5, .seq (.region false [
    ⟨.var 2, 4, none, .mov (.c (.int .i64 (0)))⟩])
 (.seq (.region false [
    ⟨.push, 7, none, .mov (.v 0)⟩,
    ⟨.push, 8, none, .bin false .add (.s 0) (.c (.int .i64 (23)))⟩,
    ⟨.push, 9, none, .bin false .rem (.s 0) (.c (.int .i64 (65521)))⟩,
    ⟨.var 3, 5, none, .mov (.s 0)⟩])
 (.seq (.seq (.region false [
     ⟨.var 4, 6, none, .mov (.c (.int .i64 (0)))⟩])
  (.block 0 (.loop ir58_k0 ir58_o0 ir58_r0 ir58_b0)))
 (.seq (.region false [
    ⟨.push, 24, none, .mov (.v 3)⟩,
    ⟨.var 2, 4, none, .mov (.s 0)⟩])
 (.ret)))), [.t 2]⟩
noncomputable def t_spec_l27Stamp : List (Nat × Ctr) := []
noncomputable def c_spec_l27Stamp : Ctr := mkF t_spec_l27Stamp ir58 [.bor, .bor]
theorem s_spec_l27Stamp : Sound Tryd.prog 58 c_spec_l27Stamp := mkF_sound _ rfl snd_nil (by kernel_rfl : chkFn Tryd.prog 58 ir58 ir58_v = true)
theorem M_spec_l27Stamp : c_spec_l27Stamp.modes = [.bor, .bor] := rfl
theorem Fl_spec_l27Stamp : c_spec_l27Stamp.flat = true := rfl
attribute [go_sem] M_spec_l27Stamp Fl_spec_l27Stamp
def E_spec_l27Stamp_l1 (words : List UInt8) : (Int × Int) → St
  | (sum, i) => ⟨[.any, .str words, .any, .int .i64 sum, .int .i64 i], [], [], true⟩
def R_spec_l27Stamp_l1 (words : List UInt8) (y : Int) : Res := (.exit 0, ⟨[.any, .any, .any, .int .i64 y, .any], [], [], true⟩)
theorem spec_l27Stamp_l1_ex {words : List UInt8} {sgm_ : Int × Int} {rho_ : Int} (h : whileE (spec_l27Stamp_l1 words) sgm_ = some rho_) : ∃ L0, ∀ L, L0 ≤ L → iter (exec (look t_spec_l27Stamp) L ir58_b0) ir58_k0 ir58_o0 ir58_r0 L (E_spec_l27Stamp_l1 words sgm_) = R_spec_l27Stamp_l1 words rho_ := by
  refine loop_ex (E := E_spec_l27Stamp_l1 words) (R := R_spec_l27Stamp_l1 words) (fun y => by first | (intro c; cases c) | (rcases y with y | y <;> (intro c; cases c)) | (rcases y with y | y | y <;> (intro c; cases c))) ?_ h
  clear h
  rintro ⟨sum, i⟩ o_ h
  dsimp only [spec_l27Stamp_l1] at h
  rcases it_some h with ⟨hk2, h⟩ | ⟨hk2, h⟩
  · try simp only [go_sem, n1, n2, n3, n4] at hk2
    all_goals
    obtain ⟨hk3, h⟩ := ck_some h
    try simp only [go_sem, n1, n2, n3, n4, hk2] at hk3
    all_goals
    obtain ⟨hk4, h⟩ := ck_some h
    try simp only [go_sem, n1, n2, n3, n4, hk2, hk3] at hk4
    all_goals
    obtain rfl := so_some h
    refine ⟨0, fun L hL => ?_⟩
    simp only [go_sem, ir58, E_spec_l27Stamp_l1, R_spec_l27Stamp_l1, ir58_b0, ir58_k0, ir58_o0, ir58_r0, hk2, hk3, hk4]
  · try simp only [go_sem, n1, n2, n3, n4] at hk2
    all_goals
    obtain rfl := so_some h
    refine ⟨0, fun L hL => ?_⟩
    simp only [go_sem, ir58, E_spec_l27Stamp_l1, R_spec_l27Stamp_l1, ir58_b0, ir58_k0, ir58_o0, ir58_r0, hk2]

theorem Fs_spec_l27Stamp {before : Int} {words : List UInt8} {y_ : Int} (h : spec_l27Stamp before words = some y_) : c_spec_l27Stamp.F [.int .i64 before, .str words] = ⟨true, .int .i64 y_, [.any, .any]⟩ := by
  refine mkF_E rfl ?_
  dsimp only [spec_l27Stamp] at h
  obtain ⟨hk1, h⟩ := ck_some h
  try simp only [go_sem, n1, n2, n3, n4] at hk1
  all_goals
  obtain ⟨y_5, hk5, h⟩ := bd_some h
  obtain ⟨Lhk5, ehk5⟩ := spec_l27Stamp_l1_ex hk5
  obtain rfl := so_some h
  refine ⟨Lhk5, fun L hL => ?_⟩
  have ehk5 := ehk5 L (by omega)
  try simp only [go_sem, E_spec_l27Stamp_l1, R_spec_l27Stamp_l1, ir58_k0, ir58_o0, ir58_r0, hk1] at ehk5
  simp only [go_sem, ir58, E_spec_l27Stamp_l1, R_spec_l27Stamp_l1, ir58_k0, ir58_o0, ir58_r0, hk1, ehk5]


def ir60_v : List Nat := [0, 1, 4]
def ir60 : AFn := ⟨2, 3, .seq (.region false [
    ⟨.var 2, 4, none, .mov (.c (.str []))⟩])
 (.seq (.region false [
    ⟨.push, 5, none, .mov (.v 1)⟩,
    ⟨.push, 6, none, .call 59 [(.s 0)]⟩,
    ⟨.push, 7, none, .bin false .add (.s 0) (.c (.str [32]))⟩,
    ⟨.push, 8, none, .mov (.v 0)⟩,
    ⟨.push, 9, none, .call 45 [(.s 0)]⟩,
    ⟨.push, 10, none, .bin false .add (.s 2) (.s 0)⟩,
    ⟨.push, 11, none, .bin false .add (.s 0) (.c (.str [10]))⟩,
    ⟨.var 2, 4, none, .mov (.s 0)⟩])
 (.ret)), [.t 2]⟩
noncomputable def t_spec_l27Line : List (Nat × Ctr) := [(59, c_spec_l27Words), (45, c_spec_l01Dec)]
theorem lk_spec_l27Line_59 : look t_spec_l27Line 59 = some c_spec_l27Words := rfl
theorem lk_spec_l27Line_45 : look t_spec_l27Line 45 = some c_spec_l01Dec := rfl
noncomputable def c_spec_l27Line : Ctr := mkF t_spec_l27Line ir60 [.bor, .bor]
theorem s_spec_l27Line : Sound Tryd.prog 60 c_spec_l27Line := mkF_sound _ rfl (snd_cons s_spec_l27Words (snd_cons s_spec_l01Dec snd_nil)) (by kernel_rfl : chkFn Tryd.prog 60 ir60 ir60_v = true)
theorem M_spec_l27Line : c_spec_l27Line.modes = [.bor, .bor] := rfl
theorem Fl_spec_l27Line : c_spec_l27Line.flat = true := rfl
attribute [go_sem] M_spec_l27Line Fl_spec_l27Line
attribute [go_sem] lk_spec_l27Line_59 lk_spec_l27Line_45
theorem Fs_spec_l27Line {stamp : Int} {e_ : Entry} {y_ : (List UInt8)} (h : spec_l27Line stamp e_ = some y_) : c_spec_l27Line.F [.int .i64 stamp, .ptr 3 [Entry_av e_] 0 0] = ⟨true, .str y_, [.any, .any]⟩ := by
  refine mkF_E rfl ?_
  dsimp only [spec_l27Line] at h
  obtain ⟨y_1, hk1, h⟩ := bd_some h
  have fhk1 := Fs_spec_l27Words hk1
  try simp only [go_sem] at fhk1
  obtain ⟨hk2, h⟩ := ck_some h
  try simp only [go_sem, n1, n2, n3, n4] at hk2
  all_goals
  obtain ⟨y_3, hk3, h⟩ := bd_some h
  have fhk3 := Fs_spec_l01Dec hk3
  try simp only [go_sem, hk2] at fhk3
  obtain ⟨hk4, h⟩ := ck_some h
  try simp only [go_sem, n1, n2, n3, n4, hk2] at hk4
  all_goals
  obtain ⟨hk5, h⟩ := ck_some h
  try simp only [go_sem, n1, n2, n3, n4, hk2, hk4] at hk5
  all_goals
  obtain rfl := so_some h
  refine ⟨0, fun L hL => ?_⟩
  simp only [go_sem, ir60, fhk1, hk2, fhk3, hk4, hk5]


def ir33_b0 : IR := .seq (.test false [
    ⟨.push, 7, none, .mov (.v 4)⟩,
    ⟨.push, 8, none, .mov (.v 0)⟩,
    ⟨.push, 9, none, .len false (.s 0)⟩,
    ⟨.push, 10, none, .bin false .lss (.s 2) (.s 0)⟩] (.s 0)
  (.skip)
  (.exit 0))
 (.seq (.block 1 (.seq (.region false [
      ⟨.push, 13, none, .mov (.v 3)⟩,
      ⟨.push, 14, none, .mov (.v 0)⟩,
      ⟨.push, 15, none, .mov (.v 4)⟩,
      ⟨.push, 16, none, .ixAddr 3 (.s 1) (.s 0)⟩,
      ⟨.push, 17, none, .call 59 [(.s 0)]⟩,
      ⟨.push, 18, none, .call 58 [(.s 4), (.s 0)]⟩,
      ⟨.var 3, 4, none, .mov (.s 0)⟩])
   (.region false [
     ⟨.push, 19, none, .mov (.v 2)⟩,
     ⟨.push, 20, none, .mov (.v 3)⟩,
     ⟨.push, 21, none, .mov (.v 0)⟩,
     ⟨.push, 22, none, .mov (.v 4)⟩,
     ⟨.push, 23, none, .ixAddr 3 (.s 1) (.s 0)⟩,
     ⟨.push, 24, none, .call 60 [(.s 3), (.s 0)]⟩,
     ⟨.push, 25, none, .app 1 1 (.int .u8 (0)) (.s 5) (.s 0)⟩,
     ⟨.var 2, 3, none, .mov (.s 0)⟩])))
 (.region false [
   ⟨.push, 11, none, .mov (.v 4)⟩,
   ⟨.push, 12, none, .bin false .add (.s 0) (.c (.int .i64 (1)))⟩,
   ⟨.var 4, 5, none, .mov (.s 0)⟩]))
def ir33_k0 : List Bool := [true, false, true, true, true]
def ir33_o0 : List Bool := [false, false, true, false, false]
def ir33_r0 : List Bool := [false, true, false, false, false]
def ir33_v : List Nat := [0, 2, 3, 4, 5]
def ir33 : AFn := ⟨1, 5, .seq (.region false [
    ⟨.var 1, 2, none, .mov (.c (.str []))⟩])
 (.seq (.region false [
    ⟨.push, 6, none, .mkSl 1 (.int .u8 (0)) 0 []⟩,
    ⟨.var 2, 3, none, .mov (.s 0)⟩])
 (.seq (.region false [
    ⟨.var 3, 4, none, .mov (.c (.int .i64 (0)))⟩])
 (.seq (.seq (.region false [
     ⟨.var 4, 5, none, .mov (.c (.int .i64 (0)))⟩])
  (.block 0 (.loop ir33_k0 ir33_o0 ir33_r0 ir33_b0)))
 (.seq (.region false [
    ⟨.push, 26, none, .mov (.v 2)⟩,
    ⟨.push, 27, none, .b2s (.s 0)⟩,
    ⟨.var 1, 2, none, .mov (.s 0)⟩])
 (.ret))))), [.t 1]⟩
noncomputable def t_spec_l27Make : List (Nat × Ctr) := [(59, c_spec_l27Words), (58, c_spec_l27Stamp), (60, c_spec_l27Line)]
theorem lk_spec_l27Make_59 : look t_spec_l27Make 59 = some c_spec_l27Words := rfl
theorem lk_spec_l27Make_58 : look t_spec_l27Make 58 = some c_spec_l27Stamp := rfl
theorem lk_spec_l27Make_60 : look t_spec_l27Make 60 = some c_spec_l27Line := rfl
noncomputable def c_spec_l27Make : Ctr := mkF t_spec_l27Make ir33 [.bor]
theorem s_spec_l27Make : Sound Tryd.prog 33 c_spec_l27Make := mkF_sound _ rfl (snd_cons s_spec_l27Words (snd_cons s_spec_l27Stamp (snd_cons s_spec_l27Line snd_nil))) (by kernel_rfl : chkFn Tryd.prog 33 ir33 ir33_v = true)
theorem M_spec_l27Make : c_spec_l27Make.modes = [.bor] := rfl
theorem Fl_spec_l27Make : c_spec_l27Make.flat = true := rfl
attribute [go_sem] M_spec_l27Make Fl_spec_l27Make
attribute [go_sem] lk_spec_l27Make_59 lk_spec_l27Make_58 lk_spec_l27Make_60
def E_spec_l27Make_l1 (list : List Entry) : ((List UInt8) × Int × Int) → St
  | (out, stamp, i) => ⟨[.sl 3 (List.map Entry_av list), .any, .own 3200000, .int .i64 stamp, .int .i64 i], [], [(3200000, ⟨1, List.map byteAV out⟩)], true⟩
def R_spec_l27Make_l1 (list : List Entry) (y : (List UInt8)) : Res := (.exit 0, ⟨[.any, .any, .own 3200000, .any, .any], [], [(3200000, ⟨1, List.map byteAV y⟩)], true⟩)
theorem spec_l27Make_l1_ex {list : List Entry} {sgm_ : (List UInt8) × Int × Int} {rho_ : (List UInt8)} (h : whileE (spec_l27Make_l1 list) sgm_ = some rho_) : ∃ L0, ∀ L, L0 ≤ L → iter (exec (look t_spec_l27Make) L ir33_b0) ir33_k0 ir33_o0 ir33_r0 L (E_spec_l27Make_l1 list sgm_) = R_spec_l27Make_l1 list rho_ := by
  refine loop_ex (E := E_spec_l27Make_l1 list) (R := R_spec_l27Make_l1 list) (fun y => by first | (intro c; cases c) | (rcases y with y | y <;> (intro c; cases c)) | (rcases y with y | y | y <;> (intro c; cases c))) ?_ h
  clear h
  rintro ⟨out, stamp, i⟩ o_ h
  dsimp only [spec_l27Make_l1] at h
  rcases it_some h with ⟨hk1, h⟩ | ⟨hk1, h⟩
  · try simp only [go_sem, n1, n2, n3, n4] at hk1
    all_goals
    obtain ⟨hk2, h⟩ := ck_some h
    have lhk2 := ix_lt hk2
    have xhk2 := getD_mapD Entry_av list lhk2
    try simp only [go_sem] at lhk2
    try simp only [go_sem] at xhk2
    try simp only [go_sem, n1, n2, n3, n4, hk1] at hk2
    all_goals
    obtain ⟨y_3, hk3, h⟩ := bd_some h
    have fhk3 := Fs_spec_l27Words hk3
    try simp only [go_sem, hk1, hk2] at fhk3
    obtain ⟨y_4, hk4, h⟩ := bd_some h
    have fhk4 := Fs_spec_l27Stamp hk4
    try simp only [go_sem, hk1, hk2] at fhk4
    obtain ⟨y_5, hk5, h⟩ := bd_some h
    have fhk5 := Fs_spec_l27Line hk5
    try simp only [go_sem, hk1, hk2] at fhk5
    obtain ⟨hk6, h⟩ := ck_some h
    try simp only [go_sem, n1, n2, n3, n4, hk1, hk2] at hk6
    all_goals
    obtain rfl := so_some h
    refine ⟨0, fun L hL => ?_⟩
    simp only [go_sem, ir33, E_spec_l27Make_l1, R_spec_l27Make_l1, ir33_b0, ir33_k0, ir33_o0, ir33_r0, hk1, hk2, lhk2, xhk2, fhk3, fhk4, fhk5, hk6]
  · try simp only [go_sem, n1, n2, n3, n4] at hk1
    all_goals
    obtain rfl := so_some h
    refine ⟨0, fun L hL => ?_⟩
    simp only [go_sem, ir33, E_spec_l27Make_l1, R_spec_l27Make_l1, ir33_b0, ir33_k0, ir33_o0, ir33_r0, hk1]

theorem Fs_spec_l27Make {list : List Entry} {y_ : (List UInt8)} (h : spec_l27Make list = some y_) : c_spec_l27Make.F [.sl 3 (List.map Entry_av list)] = ⟨true, .str y_, [.any]⟩ := by
  refine mkF_E rfl ?_
  dsimp only [spec_l27Make] at h
  obtain ⟨y_7, hk7, h⟩ := bd_some h
  obtain ⟨Lhk7, ehk7⟩ := spec_l27Make_l1_ex hk7
  obtain rfl := so_some h
  refine ⟨Lhk7, fun L hL => ?_⟩
  have ehk7 := ehk7 L (by omega)
  try simp only [go_sem, E_spec_l27Make_l1, R_spec_l27Make_l1, ir33_k0, ir33_o0, ir33_r0] at ehk7
  simp only [go_sem, ir33, E_spec_l27Make_l1, R_spec_l27Make_l1, ir33_k0, ir33_o0, ir33_r0, ehk7]


def ir11_b0 : IR := .seq (.test false [
    ⟨.push, 7, none, .mov (.v 3)⟩,
    ⟨.push, 8, none, .mov (.v 0)⟩,
    ⟨.push, 9, none, .len false (.s 0)⟩,
    ⟨.push, 10, none, .bin false .lss (.s 2) (.s 0)⟩] (.s 0)
  (.skip)
  (.exit 0))
 (.seq (.block 1 (.test false [
     ⟨.push, 13, none, .mov (.v 0)⟩,
     ⟨.push, 14, none, .mov (.v 3)⟩,
     ⟨.push, 15, none, .ixAddr 3 (.s 1) (.s 0)⟩,
     ⟨.push, 16, none, .call 32 [(.s 0)]⟩,
     ⟨.push, 17, none, .un .not (.s 0)⟩] (.s 0)
   (.seq (.region false [
       ⟨.var 1, 2, none, .mov (.c (.str []))⟩,
       ⟨.var 2, 3, none, .mov (.c (.int .i64 (7)))⟩])
    (.ret))
   (.skip)))
 (.region false [
   ⟨.push, 11, none, .mov (.v 3)⟩,
   ⟨.push, 12, none, .bin false .add (.s 0) (.c (.int .i64 (1)))⟩,
   ⟨.var 3, 4, none, .mov (.s 0)⟩]))
def ir11_k0 : List Bool := [true, false, false, true, false, false]
def ir11_o0 : List Bool := [true, false, false, false, false, false]
def ir11_r0 : List Bool := [false, true, true, false, false, false]
def ir11_b1 : IR := .seq (.test false [
    ⟨.push, 18, none, .mov (.v 4)⟩,
    ⟨.push, 19, none, .mov (.v 0)⟩,
    ⟨.push, 20, none, .len false (.s 0)⟩,
    ⟨.push, 21, none, .bin false .lss (.s 2) (.s 0)⟩] (.s 0)
  (.skip)
  (.exit 2))
 (.seq (.block 3 (.anyo 12 [
     ⟨.slot 0, 24, none, .mov (.v 0)⟩,
     ⟨.slot 1, 25, none, .mov (.v 4)⟩,
     ⟨.slot 2, 26, none, .ixAddr 3 (.s 0) (.s 1)⟩,
     ⟨.slot 3, 27, none, .fldAddr 0 (.s 2)⟩,
     ⟨.slot 4, 28, none, .load false 1 (.s 3)⟩,
     ⟨.slot 5, 29, none, .mov (.v 0)⟩,
     ⟨.slot 6, 30, none, .mov (.v 4)⟩,
     ⟨.slot 7, 31, none, .bin false .sub (.s 6) (.c (.int .i64 (1)))⟩,
     ⟨.slot 8, 32, none, .ixAddr 3 (.s 5) (.s 7)⟩,
     ⟨.slot 9, 33, none, .fldAddr 0 (.s 8)⟩,
     ⟨.slot 10, 34, none, .load false 1 (.s 9)⟩,
     ⟨.slot 11, 35, none, .bin false .lss (.s 4) (.s 10)⟩] [] (.cond (.s 11)
   (.seq (.region false [
       ⟨.var 1, 2, none, .mov (.c (.str []))⟩,
       ⟨.var 2, 3, none, .mov (.c (.int .i64 (6)))⟩])
    (.ret))
   (.skip))))
 (.region false [
   ⟨.push, 22, none, .mov (.v 4)⟩,
   ⟨.push, 23, none, .bin false .add (.s 0) (.c (.int .i64 (1)))⟩,
   ⟨.var 4, 5, none, .mov (.s 0)⟩]))
def ir11_k1 : List Bool := [true, false, false, false, true, false]
def ir11_o1 : List Bool := [true, false, false, false, false, false]
def ir11_r1 : List Bool := [false, true, true, false, false, false]
def ir11_v : List Nat := [0, 2, 3, 4, 5, 6]
def ir11 : AFn := ⟨1, 6, .seq (.region false [
    ⟨.var 1, 2, none, .mov (.c (.str []))⟩,
    ⟨.var 2, 3, none, .mov (.c (.int .i64 (0)))⟩])
 (.seq (.seq (.region false [
     ⟨.var 3, 4, none, .mov (.c (.int .i64 (0)))⟩])
  (.block 0 (.loop ir11_k0 ir11_o0 ir11_r0 ir11_b0)))
 (.seq (.seq (.region false [
     ⟨.var 4, 5, none, .mov (.c (.int .i64 (1)))⟩])
  (.block 2 (.loop ir11_k1 ir11_o1 ir11_r1 ir11_b1)))
 (.seq (.region false [
    ⟨.push, 36, none, .mov (.v 0)⟩,
    ⟨.push, 37, none, .call 33 [(.s 0)]⟩,
    ⟨.var 5, 6, none, .mov (.s 0)⟩])
 (.seq (.test false [
    ⟨.push, 38, none, .mov (.v 5)⟩,
    ⟨.push, 39, none, .len true (.s 0)⟩,
    ⟨.push, 40, none, .bin false .gtr (.s 0) (.c (.int .i64 (4000)))⟩] (.s 0)
  (.seq (.region false [
      ⟨.var 1, 2, none, .mov (.c (.str []))⟩,
      ⟨.var 2, 3, none, .mov (.c (.int .i64 (5)))⟩])
   (.ret))
  (.skip))
 (.seq (.region false [
    ⟨.push, 41, none, .mov (.v 5)⟩,
    ⟨.var 1, 2, none, .mov (.s 0)⟩,
    ⟨.var 2, 3, none, .mov (.c (.int .i64 (0)))⟩])
 (.ret)))))), [.t 1, .t 2]⟩
noncomputable def t_spec_LogOf : List (Nat × Ctr) := [(32, c_spec_l27Ok), (33, c_spec_l27Make)]
theorem lk_spec_LogOf_32 : look t_spec_LogOf 32 = some c_spec_l27Ok := rfl
theorem lk_spec_LogOf_33 : look t_spec_LogOf 33 = some c_spec_l27Make := rfl
noncomputable def c_spec_LogOf : Ctr := mkF t_spec_LogOf ir11 [.bor]
theorem s_spec_LogOf : Sound Tryd.prog 11 c_spec_LogOf := mkF_sound _ rfl (snd_cons s_spec_l27Ok (snd_cons s_spec_l27Make snd_nil)) (by kernel_rfl : chkFn Tryd.prog 11 ir11 ir11_v = true)
theorem M_spec_LogOf : c_spec_LogOf.modes = [.bor] := rfl
theorem Fl_spec_LogOf : c_spec_LogOf.flat = true := rfl
attribute [go_sem] M_spec_LogOf Fl_spec_LogOf
attribute [go_sem] lk_spec_LogOf_32 lk_spec_LogOf_33
def E_spec_LogOf_l1 (list : List Entry) : Int → St
  | i => ⟨[.sl 3 (List.map Entry_av list), .any, .any, .int .i64 i, .any, .any], [], [], true⟩
def R_spec_LogOf_l1 (list : List Entry) : (Unit ⊕ ((List UInt8) × Int)) → Res
  | .inl y => (.exit 0, ⟨[.sl 3 (List.map Entry_av list), .any, .any, .any, .any, .any], [], [], true⟩)
  | .inr y => (.ret, ⟨[.any, .str y.1, .int .i64 y.2, .any, .any, .any], [], [], true⟩)
theorem spec_LogOf_l1_ex {list : List Entry} {sgm_ : Int} {rho_ : Unit ⊕ ((List UInt8) × Int)} (h : whileE (spec_LogOf_l1 list) sgm_ = some rho_) : ∃ L0, ∀ L, L0 ≤ L → iter (exec (look t_spec_LogOf) L ir11_b0) ir11_k0 ir11_o0 ir11_r0 L (E_spec_LogOf_l1 list sgm_) = R_spec_LogOf_l1 list rho_ := by
  refine loop_ex (E := E_spec_LogOf_l1 list) (R := R_spec_LogOf_l1 list) (fun y => by first | (intro c; cases c) | (rcases y with y | y <;> (intro c; cases c)) | (rcases y with y | y | y <;> (intro c; cases c))) ?_ h
  clear h
  intro i o_ h
  dsimp only [spec_LogOf_l1] at h
  rcases it_some h with ⟨hk1, h⟩ | ⟨hk1, h⟩
  · try simp only [go_sem, n1, n2, n3, n4] at hk1
    all_goals
    obtain ⟨hk2, h⟩ := ck_some h
    have lhk2 := ix_lt hk2
    have xhk2 := getD_mapD Entry_av list lhk2
    try simp only [go_sem] at lhk2
    try simp only [go_sem] at xhk2
    try simp only [go_sem, n1, n2, n3, n4, hk1] at hk2
    all_goals
    obtain ⟨y_3, hk3, h⟩ := bd_some h
    have fhk3 := Fs_spec_l27Ok hk3
    try simp only [go_sem, hk1, hk2] at fhk3
    rcases it_some h with ⟨hk4, h⟩ | ⟨hk4, h⟩
    · try simp only [go_sem, n1, n2, n3, n4, hk1, hk2] at hk4
      all_goals
      obtain rfl := so_some h
      refine ⟨0, fun L hL => ?_⟩
      simp only [go_sem, ir11, E_spec_LogOf_l1, R_spec_LogOf_l1, ir11_b0, ir11_k0, ir11_o0, ir11_r0, hk1, hk2, lhk2, xhk2, fhk3, hk4]
    · try simp only [go_sem, n1, n2, n3, n4, hk1, hk2] at hk4
      all_goals
      obtain rfl := so_some h
      refine ⟨0, fun L hL => ?_⟩
      simp only [go_sem, ir11, E_spec_LogOf_l1, R_spec_LogOf_l1, ir11_b0, ir11_k0, ir11_o0, ir11_r0, hk1, hk2, lhk2, xhk2, fhk3, hk4]
  · try simp only [go_sem, n1, n2, n3, n4] at hk1
    all_goals
    obtain rfl := so_some h
    refine ⟨0, fun L hL => ?_⟩
    simp only [go_sem, ir11, E_spec_LogOf_l1, R_spec_LogOf_l1, ir11_b0, ir11_k0, ir11_o0, ir11_r0, hk1]

def E_spec_LogOf_l2 (list : List Entry) : Int → St
  | i => ⟨[.sl 3 (List.map Entry_av list), .any, .any, .any, .int .i64 i, .any], [], [], true⟩
def R_spec_LogOf_l2 (list : List Entry) : (Unit ⊕ ((List UInt8) × Int)) → Res
  | .inl y => (.exit 2, ⟨[.sl 3 (List.map Entry_av list), .any, .any, .any, .any, .any], [], [], true⟩)
  | .inr y => (.ret, ⟨[.any, .str y.1, .int .i64 y.2, .any, .any, .any], [], [], true⟩)
theorem spec_LogOf_l2_ex {list : List Entry} {sgm_ : Int} {rho_ : Unit ⊕ ((List UInt8) × Int)} (h : whileE (spec_LogOf_l2 list) sgm_ = some rho_) : ∃ L0, ∀ L, L0 ≤ L → iter (exec (look t_spec_LogOf) L ir11_b1) ir11_k1 ir11_o1 ir11_r1 L (E_spec_LogOf_l2 list sgm_) = R_spec_LogOf_l2 list rho_ := by
  refine loop_ex (E := E_spec_LogOf_l2 list) (R := R_spec_LogOf_l2 list) (fun y => by first | (intro c; cases c) | (rcases y with y | y <;> (intro c; cases c)) | (rcases y with y | y | y <;> (intro c; cases c))) ?_ h
  clear h
  intro i o_ h
  dsimp only [spec_LogOf_l2] at h
  rcases it_some h with ⟨hk6, h⟩ | ⟨hk6, h⟩
  · try simp only [go_sem, n1, n2, n3, n4] at hk6
    all_goals
    obtain ⟨hk7, h⟩ := ck_some h
    have lhk7 := ix_lt hk7
    have xhk7 := getD_mapD Entry_av list lhk7
    try simp only [go_sem] at lhk7
    try simp only [go_sem] at xhk7
    try simp only [go_sem, n1, n2, n3, n4, hk6] at hk7
    all_goals
    obtain ⟨hk8, h⟩ := ck_some h
    have lhk8 := ix_lt hk8
    have xhk8 := getD_mapD Entry_av list lhk8
    try simp only [go_sem] at lhk8
    try simp only [go_sem] at xhk8
    try simp only [go_sem, n1, n2, n3, n4, hk6, hk7] at hk8
    all_goals
    rcases it_some h with ⟨hk9, h⟩ | ⟨hk9, h⟩
    · try simp only [go_sem, n1, n2, n3, n4, hk6, hk7, hk8] at hk9
      all_goals
      obtain rfl := so_some h
      refine ⟨0, fun L hL => ?_⟩
      simp only [go_sem, ir11, E_spec_LogOf_l2, R_spec_LogOf_l2, ir11_b1, ir11_k1, ir11_o1, ir11_r1, E_spec_LogOf_l1, R_spec_LogOf_l1, ir11_k0, ir11_o0, ir11_r0, hk6, hk7, lhk7, xhk7, hk8, lhk8, xhk8, hk9]
    · try simp only [go_sem, n1, n2, n3, n4, hk6, hk7, hk8] at hk9
      all_goals
      obtain rfl := so_some h
      refine ⟨0, fun L hL => ?_⟩
      simp only [go_sem, ir11, E_spec_LogOf_l2, R_spec_LogOf_l2, ir11_b1, ir11_k1, ir11_o1, ir11_r1, E_spec_LogOf_l1, R_spec_LogOf_l1, ir11_k0, ir11_o0, ir11_r0, hk6, hk7, lhk7, xhk7, hk8, lhk8, xhk8, hk9]
  · try simp only [go_sem, n1, n2, n3, n4] at hk6
    all_goals
    obtain rfl := so_some h
    refine ⟨0, fun L hL => ?_⟩
    simp only [go_sem, ir11, E_spec_LogOf_l2, R_spec_LogOf_l2, ir11_b1, ir11_k1, ir11_o1, ir11_r1, E_spec_LogOf_l1, R_spec_LogOf_l1, ir11_k0, ir11_o0, ir11_r0, hk6]

theorem Fs_spec_LogOf {list : List Entry} {y_ : (List UInt8) × Int} (h : spec_LogOf list = some y_) : c_spec_LogOf.F [.sl 3 (List.map Entry_av list)] = ⟨true, .tup [.str y_.1, .int .i64 y_.2], [.any]⟩ := by
  refine mkF_E rfl ?_
  dsimp only [spec_LogOf] at h
  obtain ⟨y_5, hk5, h⟩ := bd_some h
  obtain ⟨Lhk5, ehk5⟩ := spec_LogOf_l1_ex hk5
  rcases y_5 with y_5a | y_5b
  · dsimp only at h
    obtain ⟨y_10, hk10, h⟩ := bd_some h
    obtain ⟨Lhk10, ehk10⟩ := spec_LogOf_l2_ex hk10
    rcases y_10 with y_10a | y_10b
    · dsimp only at h
      obtain ⟨y_11, hk11, h⟩ := bd_some h
      have fhk11 := Fs_spec_l27Make hk11
      try simp only [go_sem] at fhk11
      rcases it_some h with ⟨hk12, h⟩ | ⟨hk12, h⟩
      · try simp only [go_sem, n1, n2, n3, n4] at hk12
        all_goals
        obtain rfl := so_some h
        refine ⟨Lhk5 + Lhk10, fun L hL => ?_⟩
        have ehk5 := ehk5 L (by omega)
        have ehk10 := ehk10 L (by omega)
        try simp only [go_sem, E_spec_LogOf_l1, R_spec_LogOf_l1, ir11_k0, ir11_o0, ir11_r0, E_spec_LogOf_l2, R_spec_LogOf_l2, ir11_k1, ir11_o1, ir11_r1, hk12] at ehk5
        try simp only [go_sem, E_spec_LogOf_l1, R_spec_LogOf_l1, ir11_k0, ir11_o0, ir11_r0, E_spec_LogOf_l2, R_spec_LogOf_l2, ir11_k1, ir11_o1, ir11_r1, hk12] at ehk10
        simp only [go_sem, ir11, E_spec_LogOf_l1, R_spec_LogOf_l1, ir11_k0, ir11_o0, ir11_r0, E_spec_LogOf_l2, R_spec_LogOf_l2, ir11_k1, ir11_o1, ir11_r1, fhk11, hk12, ehk5, ehk10]
      · try simp only [go_sem, n1, n2, n3, n4] at hk12
        all_goals
        obtain rfl := so_some h
        refine ⟨Lhk5 + Lhk10, fun L hL => ?_⟩
        have ehk5 := ehk5 L (by omega)
        have ehk10 := ehk10 L (by omega)
        try simp only [go_sem, E_spec_LogOf_l1, R_spec_LogOf_l1, ir11_k0, ir11_o0, ir11_r0, E_spec_LogOf_l2, R_spec_LogOf_l2, ir11_k1, ir11_o1, ir11_r1, hk12] at ehk5
        try simp only [go_sem, E_spec_LogOf_l1, R_spec_LogOf_l1, ir11_k0, ir11_o0, ir11_r0, E_spec_LogOf_l2, R_spec_LogOf_l2, ir11_k1, ir11_o1, ir11_r1, hk12] at ehk10
        simp only [go_sem, ir11, E_spec_LogOf_l1, R_spec_LogOf_l1, ir11_k0, ir11_o0, ir11_r0, E_spec_LogOf_l2, R_spec_LogOf_l2, ir11_k1, ir11_o1, ir11_r1, fhk11, hk12, ehk5, ehk10]
    · dsimp only at h
      obtain rfl := so_some h
      refine ⟨Lhk5 + Lhk10, fun L hL => ?_⟩
      have ehk5 := ehk5 L (by omega)
      have ehk10 := ehk10 L (by omega)
      try simp only [go_sem, E_spec_LogOf_l1, R_spec_LogOf_l1, ir11_k0, ir11_o0, ir11_r0, E_spec_LogOf_l2, R_spec_LogOf_l2, ir11_k1, ir11_o1, ir11_r1] at ehk5
      try simp only [go_sem, E_spec_LogOf_l1, R_spec_LogOf_l1, ir11_k0, ir11_o0, ir11_r0, E_spec_LogOf_l2, R_spec_LogOf_l2, ir11_k1, ir11_o1, ir11_r1] at ehk10
      simp only [go_sem, ir11, E_spec_LogOf_l1, R_spec_LogOf_l1, ir11_k0, ir11_o0, ir11_r0, E_spec_LogOf_l2, R_spec_LogOf_l2, ir11_k1, ir11_o1, ir11_r1, ehk5, ehk10]
  · dsimp only at h
    obtain rfl := so_some h
    refine ⟨Lhk5, fun L hL => ?_⟩
    have ehk5 := ehk5 L (by omega)
    try simp only [go_sem, E_spec_LogOf_l1, R_spec_LogOf_l1, ir11_k0, ir11_o0, ir11_r0, E_spec_LogOf_l2, R_spec_LogOf_l2, ir11_k1, ir11_o1, ir11_r1] at ehk5
    simp only [go_sem, ir11, E_spec_LogOf_l1, R_spec_LogOf_l1, ir11_k0, ir11_o0, ir11_r0, E_spec_LogOf_l2, R_spec_LogOf_l2, ir11_k1, ir11_o1, ir11_r1, ehk5]


theorem s_hCut : Sound Tryd.prog 25 c_hCut := hCut_is

theorem s_hSplit : Sound Tryd.prog 99 c_hSplit := hSplit_is

theorem s_hRdDec : Sound Tryd.prog 26 c_hRdDec := hRdDec_is

def ir37_v : List Nat := [0, 1, 2, 6]
def ir37 : AFn := ⟨3, 4, .seq (.region false [
    ⟨.var 3, 6, none, .mov (.c (.bool false))⟩])
 (.seq (.region false [
    ⟨.push, 7, none, .mov (.v 0)⟩,
    ⟨.push, 8, none, .mov (.v 1)⟩,
    ⟨.push, 9, none, .bin false .geq (.s 1) (.s 0)⟩,
    ⟨.push, 10, none, .mov (.s 0)⟩,
    ⟨.push, 11, (some ((.s 0), true)), .mov (.v 0)⟩,
    ⟨.push, 12, (some ((.s 1), true)), .mov (.v 2)⟩,
    ⟨.push, 13, (some ((.s 2), true)), .bin false .leq (.s 1) (.s 0)⟩,
    ⟨.push, 14, none, .pick (.s 3) (.s 0) (.c (.bool false))⟩,
    ⟨.var 3, 6, none, .mov (.s 0)⟩])
 (.ret)), [.t 3]⟩
noncomputable def t_impl_in : List (Nat × Ctr) := []
noncomputable def c_impl_in : Ctr := mkF t_impl_in ir37 [.bor, .bor, .bor]
theorem s_impl_in : Sound Tryd.prog 37 c_impl_in := mkF_sound _ rfl snd_nil (by kernel_rfl : chkFn Tryd.prog 37 ir37 ir37_v = true)
theorem M_impl_in : c_impl_in.modes = [.bor, .bor, .bor] := rfl
theorem Fl_impl_in : c_impl_in.flat = true := rfl
attribute [go_sem] M_impl_in Fl_impl_in
theorem Fs_impl_in {n : Int} {low : Int} {high : Int} {y_ : Bool} (h : impl_in n low high = some y_) : c_impl_in.F [.int .i64 n, .int .i64 low, .int .i64 high] = ⟨true, .bool y_, [.any, .any, .any]⟩ := by
  refine mkF_E rfl ?_
  dsimp only [impl_in] at h
  obtain rfl := so_some h
  refine ⟨0, fun L hL => ?_⟩
  simp only [go_sem, ir37]


def ir36_b0 : IR := .seq (.region false [
    ⟨.var 7, 17, none, .bin false .lss (.v 6) (.v 5)⟩])
 (.seq (.cond (.v 7) (.skip)
  (.exit 0))
 (.seq (.block 1 (.seq (.region false [
      ⟨.push, 18, none, .mov (.v 6)⟩,
      ⟨.var 2, 3, none, .mov (.s 0)⟩])
   (.seq (.region false [
      ⟨.push, 19, none, .mov (.v 0)⟩,
      ⟨.push, 20, none, .mov (.v 2)⟩,
      ⟨.push, 21, none, .ixStr (.s 1) (.s 0)⟩,
      ⟨.push, 22, none, .bin false .geq (.s 0) (.c (.int .u8 (97)))⟩,
      ⟨.push, 23, none, .mov (.s 0)⟩,
      ⟨.push, 24, (some ((.s 0), true)), .mov (.v 0)⟩,
      ⟨.push, 25, (some ((.s 1), true)), .mov (.v 2)⟩,
      ⟨.push, 26, (some ((.s 2), true)), .ixStr (.s 1) (.s 0)⟩,
      ⟨.push, 27, (some ((.s 3), true)), .bin false .leq (.s 0) (.c (.int .u8 (122)))⟩,
      ⟨.push, 28, none, .pick (.s 4) (.s 0) (.c (.bool false))⟩,
      ⟨.var 3, 4, none, .mov (.s 0)⟩])
   (.seq (.region false [
      ⟨.push, 29, none, .mov (.v 0)⟩,
      ⟨.push, 30, none, .mov (.v 2)⟩,
      ⟨.push, 31, none, .ixStr (.s 1) (.s 0)⟩,
      ⟨.push, 32, none, .bin false .geq (.s 0) (.c (.int .u8 (48)))⟩,
      ⟨.push, 33, none, .mov (.s 0)⟩,
      ⟨.push, 34, (some ((.s 0), true)), .mov (.v 0)⟩,
      ⟨.push, 35, (some ((.s 1), true)), .mov (.v 2)⟩,
      ⟨.push, 36, (some ((.s 2), true)), .ixStr (.s 1) (.s 0)⟩,
      ⟨.push, 37, (some ((.s 3), true)), .bin false .leq (.s 0) (.c (.int .u8 (57)))⟩,
      ⟨.push, 38, none, .pick (.s 4) (.s 0) (.c (.bool false))⟩,
      ⟨.push, 39, none, .mov (.s 0)⟩,
      ⟨.push, 40, (some ((.s 0), false)), .mov (.v 0)⟩,
      ⟨.push, 41, (some ((.s 1), false)), .mov (.v 2)⟩,
      ⟨.push, 42, (some ((.s 2), false)), .ixStr (.s 1) (.s 0)⟩,
      ⟨.push, 43, (some ((.s 3), false)), .bin false .eql (.s 0) (.c (.int .u8 (45)))⟩,
      ⟨.push, 44, none, .pick (.s 4) (.c (.bool true)) (.s 0)⟩,
      ⟨.var 4, 5, none, .mov (.s 0)⟩])
   (.test false [
     ⟨.push, 45, none, .mov (.v 3)⟩,
     ⟨.push, 46, none, .un .not (.s 0)⟩,
     ⟨.push, 47, none, .mov (.s 0)⟩,
     ⟨.push, 48, (some ((.s 0), true)), .mov (.v 2)⟩,
     ⟨.push, 49, (some ((.s 1), true)), .bin false .eql (.s 0) (.c (.int .i64 (0)))⟩,
     ⟨.push, 50, (some ((.s 2), true)), .mov (.s 0)⟩,
     ⟨.push, 51, (some ((.s 0), false)), .mov (.v 4)⟩,
     ⟨.push, 52, (some ((.s 1), false)), .un .not (.s 0)⟩,
     ⟨.push, 53, (some ((.s 5), true)), .pick (.s 2) (.c (.bool true)) (.s 0)⟩,
     ⟨.push, 54, none, .pick (.s 6) (.s 0) (.c (.bool false))⟩] (.s 0)
   (.seq (.region false [
       ⟨.var 1, 2, none, .mov (.c (.bool false))⟩])
    (.ret))
   (.skip))))))
 (.region false [
   ⟨.push, 55, none, .bin false .add (.v 6) (.c (.int .i64 (1)))⟩,
   ⟨.var 6, 16, none, .mov (.s 0)⟩])))
def ir36_k0 : List Bool := [true, false, false, false, false, true, true, false]
def ir36_o0 : List Bool := [false, false, false, false, false, false, false, false]
def ir36_r0 : List Bool := [false, true, false, false, false, false, false, false]
def ir36_v : List Nat := [0, 2, 3, 4, 5, 15, 16, 17]
def ir36 : AFn := ⟨1, 8, .seq (.region false [
    ⟨.var 1, 2, none, .mov (.c (.bool false))⟩])
 (.seq (.test false [
    ⟨.push, 6, none, .mov (.v 0)⟩,
    ⟨.push, 7, none, .len true (.s 0)⟩,
    ⟨.push, 8, none, .bin false .lss (.s 0) (.c (.int .i64 (1)))⟩,
    ⟨.push, 9, none, .mov (.s 0)⟩,
    ⟨.push, 10, (some ((.s 0), false)), .mov (.v 0)⟩,
    ⟨.push, 11, (some ((.s 1), false)), .len true (.s 0)⟩,
    ⟨.push, 12, (some ((.s 2), false)), .bin false .gtr (.s 0) (.c (.int .i64 (12)))⟩,
    ⟨.push, 13, none, .pick (.s 3) (.c (.bool true)) (.s 0)⟩] (.s 0)
  (.seq (.region false [
      ⟨.var 1, 2, none, .mov (.c (.bool false))⟩])
   (.ret))
  (.skip))
 (.seq (.seq (.region false [
     ⟨.push, 14, none, .mov (.v 0)⟩,
     ⟨.var 5, 15, none, .len true (.s 0)⟩,
     ⟨.var 6, 16, none, .mov (.c (.int .i64 (0)))⟩])
  (.block 0 (.loop ir36_k0 ir36_o0 ir36_r0 ir36_b0)))
 (.seq (.region false [
    ⟨.var 1, 2, none, .mov (.c (.bool true))⟩])
 (.ret)))), [.t 1]⟩
noncomputable def t_impl_IsName : List (Nat × Ctr) := []
noncomputable def c_impl_IsName : Ctr := mkF t_impl_IsName ir36 [.bor]
theorem s_impl_IsName : Sound Tryd.prog 36 c_impl_IsName := mkF_sound _ rfl snd_nil (by kernel_rfl : chkFn Tryd.prog 36 ir36 ir36_v = true)
theorem M_impl_IsName : c_impl_IsName.modes = [.bor] := rfl
theorem Fl_impl_IsName : c_impl_IsName.flat = true := rfl
attribute [go_sem] M_impl_IsName Fl_impl_IsName
def E_impl_IsName_l1 (s_ : List UInt8) (t15 : Int) : Int → St
  | t16 => ⟨[.str s_, .any, .any, .any, .any, .int .i64 t15, .int .i64 t16, .any], [], [], true⟩
def R_impl_IsName_l1 (s_ : List UInt8) (t15 : Int) : (Unit ⊕ Bool) → Res
  | .inl y => (.exit 0, ⟨[.any, .any, .any, .any, .any, .any, .any, .any], [], [], true⟩)
  | .inr y => (.ret, ⟨[.any, .bool y, .any, .any, .any, .any, .any, .any], [], [], true⟩)
theorem impl_IsName_l1_ex {s_ : List UInt8} {t15 : Int} {sgm_ : Int} {rho_ : Unit ⊕ Bool} (h : whileE (impl_IsName_l1 s_ t15) sgm_ = some rho_) : ∃ L0, ∀ L, L0 ≤ L → iter (exec (look t_impl_IsName) L ir36_b0) ir36_k0 ir36_o0 ir36_r0 L (E_impl_IsName_l1 s_ t15 sgm_) = R_impl_IsName_l1 s_ t15 rho_ := by
  refine loop_ex (E := E_impl_IsName_l1 s_ t15) (R := R_impl_IsName_l1 s_ t15) (fun y => by first | (intro c; cases c) | (rcases y with y | y <;> (intro c; cases c)) | (rcases y with y | y | y <;> (intro c; cases c))) ?_ h
  clear h
  intro t16 o_ h
  dsimp only [impl_IsName_l1] at h
  rcases it_some h with ⟨hk2, h⟩ | ⟨hk2, h⟩
  · try simp only [go_sem, n1, n2, n3, n4] at hk2
    all_goals
    obtain ⟨hk3, h⟩ := ck_some h
    try simp only [go_sem, n1, n2, n3, n4, hk2] at hk3
    all_goals
    rcases it_some h with ⟨hk4, h⟩ | ⟨hk4, h⟩
    · try simp only [go_sem, n1, n2, n3, n4, hk2, hk3] at hk4
      all_goals
      obtain rfl := so_some h
      refine ⟨0, fun L hL => ?_⟩
      simp only [go_sem, ir36, E_impl_IsName_l1, R_impl_IsName_l1, ir36_b0, ir36_k0, ir36_o0, ir36_r0, hk2, hk3, hk4]
    · try simp only [go_sem, n1, n2, n3, n4, hk2, hk3] at hk4
      all_goals
      obtain rfl := so_some h
      refine ⟨0, fun L hL => ?_⟩
      simp only [go_sem, ir36, E_impl_IsName_l1, R_impl_IsName_l1, ir36_b0, ir36_k0, ir36_o0, ir36_r0, hk2, hk3, hk4]
  · try simp only [go_sem, n1, n2, n3, n4] at hk2
    all_goals
    obtain rfl := so_some h
    refine ⟨0, fun L hL => ?_⟩
    simp only [go_sem, ir36, E_impl_IsName_l1, R_impl_IsName_l1, ir36_b0, ir36_k0, ir36_o0, ir36_r0, hk2]

theorem Fs_impl_IsName {s_ : List UInt8} {y_ : Bool} (h : impl_IsName s_ = some y_) : c_impl_IsName.F [.str s_] = ⟨true, .bool y_, [.any]⟩ := by
  refine mkF_E rfl ?_
  dsimp only [impl_IsName] at h
  rcases it_some h with ⟨hk1, h⟩ | ⟨hk1, h⟩
  · try simp only [go_sem, n1, n2, n3, n4] at hk1
    all_goals
    obtain rfl := so_some h
    refine ⟨0, fun L hL => ?_⟩
    simp only [go_sem, ir36, E_impl_IsName_l1, R_impl_IsName_l1, ir36_k0, ir36_o0, ir36_r0, hk1]
  · try simp only [go_sem, n1, n2, n3, n4] at hk1
    all_goals
    obtain ⟨y_5, hk5, h⟩ := bd_some h
    obtain ⟨Lhk5, ehk5⟩ := impl_IsName_l1_ex hk5
    rcases y_5 with y_5a | y_5b
    · dsimp only at h
      obtain rfl := so_some h
      refine ⟨Lhk5, fun L hL => ?_⟩
      have ehk5 := ehk5 L (by omega)
      try simp only [go_sem, E_impl_IsName_l1, R_impl_IsName_l1, ir36_k0, ir36_o0, ir36_r0, hk1] at ehk5
      simp only [go_sem, ir36, E_impl_IsName_l1, R_impl_IsName_l1, ir36_k0, ir36_o0, ir36_r0, hk1, ehk5]
    · dsimp only at h
      obtain rfl := so_some h
      refine ⟨Lhk5, fun L hL => ?_⟩
      have ehk5 := ehk5 L (by omega)
      try simp only [go_sem, E_impl_IsName_l1, R_impl_IsName_l1, ir36_k0, ir36_o0, ir36_r0, hk1] at ehk5
      simp only [go_sem, ir36, E_impl_IsName_l1, R_impl_IsName_l1, ir36_k0, ir36_o0, ir36_r0, hk1, ehk5]


def ir100_v : List Nat := [0, 1, 2]
def ir100 : AFn := ⟨1, 3, .seq (.region false [
    ⟨.var 1, 1, none, .box (.v 0)⟩,
    ⟨.var 2, 2, none, .mov (.c (.bool false))⟩])
 (.seq (.region false [
    ⟨.push, 3, none, .fldAddr 0 (.v 1)⟩,
    ⟨.push, 4, none, .load false 1 (.s 0)⟩,
    ⟨.push, 5, none, .call 37 [(.s 0), (.c (.int .i64 (0))), (.c (.int .i64 (100000)))]⟩,
    ⟨.push, 6, none, .mov (.s 0)⟩,
    ⟨.push, 7, (some ((.s 0), true)), .fldAddr 1 (.v 1)⟩,
    ⟨.push, 8, (some ((.s 1), true)), .load false 1 (.s 0)⟩,
    ⟨.push, 9, (some ((.s 2), true)), .call 36 [(.s 0)]⟩,
    ⟨.push, 10, none, .pick (.s 3) (.s 0) (.c (.bool false))⟩,
    ⟨.push, 11, none, .mov (.s 0)⟩,
    ⟨.push, 12, (some ((.s 0), true)), .fldAddr 2 (.v 1)⟩,
    ⟨.push, 13, (some ((.s 1), true)), .load false 1 (.s 0)⟩,
    ⟨.push, 14, (some ((.s 2), true)), .call 37 [(.s 0), (.c (.int .i64 (-1000000))), (.c (.int .i64 (1000000)))]⟩,
    ⟨.push, 15, none, .pick (.s 3) (.s 0) (.c (.bool false))⟩,
    ⟨.var 2, 2, none, .mov (.s 0)⟩])
 (.ret)), [.t 2]⟩
noncomputable def t_impl_ValidEntry : List (Nat × Ctr) := [(37, c_impl_in), (36, c_impl_IsName)]
theorem lk_impl_ValidEntry_37 : look t_impl_ValidEntry 37 = some c_impl_in := rfl
theorem lk_impl_ValidEntry_36 : look t_impl_ValidEntry 36 = some c_impl_IsName := rfl
noncomputable def c_impl_ValidEntry : Ctr := mkF t_impl_ValidEntry ir100 [.bor]
theorem s_impl_ValidEntry : Sound Tryd.prog 100 c_impl_ValidEntry := mkF_sound _ rfl (snd_cons s_impl_in (snd_cons s_impl_IsName snd_nil)) (by kernel_rfl : chkFn Tryd.prog 100 ir100 ir100_v = true)
theorem M_impl_ValidEntry : c_impl_ValidEntry.modes = [.bor] := rfl
theorem Fl_impl_ValidEntry : c_impl_ValidEntry.flat = true := rfl
attribute [go_sem] M_impl_ValidEntry Fl_impl_ValidEntry
attribute [go_sem] lk_impl_ValidEntry_37 lk_impl_ValidEntry_36
theorem Fs_impl_ValidEntry {e_ : Entry} {y_ : Bool} (h : impl_ValidEntry e_ = some y_) : c_impl_ValidEntry.F [Entry_av e_] = ⟨true, .bool y_, [.any]⟩ := by
  refine mkF_E rfl ?_
  dsimp only [impl_ValidEntry] at h
  obtain ⟨y_1, hk1, h⟩ := bd_some h
  have fhk1 := Fs_impl_in hk1
  try simp only [go_sem] at fhk1
  obtain ⟨hk2, h⟩ := ck_some h
  rcases or_split hk2 with ⟨ghk2, hk2⟩ | ghk2
  · try simp only [go_sem, n1, n2, n3, n4] at ghk2
    all_goals
    obtain ⟨y_2, hhk2⟩ := Option.isSome_iff_exists.1 hk2
    have fhk2 := Fs_impl_IsName hhk2
    try simp only [go_sem, ghk2] at fhk2
    obtain ⟨hk3, h⟩ := ck_some h
    rcases or_split hk3 with ⟨ghk3, hk3⟩ | ghk3
    · try simp only [go_sem, n1, n2, n3, n4, ghk2, hhk2] at ghk3
      all_goals
      obtain ⟨y_3, hhk3⟩ := Option.isSome_iff_exists.1 hk3
      have fhk3 := Fs_impl_in hhk3
      try simp only [go_sem, ghk2, hhk2, ghk3] at fhk3
      obtain rfl := so_some h
      refine ⟨0, fun L hL => ?_⟩
      simp only [go_sem, ir100, fhk1, ghk2, hhk2, fhk2, ghk3, hhk3, fhk3]
    · rcases and_f ghk3 with ghk3a | ⟨ghk3a, ghk3b⟩
      · try simp only [go_sem, n1, n2, n3, n4, ghk2, hhk2] at ghk3a
        all_goals
        obtain rfl := so_some h
        refine ⟨0, fun L hL => ?_⟩
        simp only [go_sem, ir100, fhk1, ghk2, hhk2, fhk2, ghk3a]
      · try simp only [go_sem, n1, n2, n3, n4, ghk2, hhk2] at ghk3a
        all_goals
        try simp only [go_sem, n1, n2, n3, n4, ghk2, hhk2, ghk3a] at ghk3b
        all_goals
        obtain rfl := so_some h
        refine ⟨0, fun L hL => ?_⟩
        simp only [go_sem, ir100, fhk1, ghk2, hhk2, fhk2, ghk3a, ghk3b]
  · try simp only [go_sem, n1, n2, n3, n4] at ghk2
    all_goals
    obtain ⟨hk3, h⟩ := ck_some h
    rcases or_split hk3 with ⟨ghk3, hk3⟩ | ghk3
    · try simp only [go_sem, n1, n2, n3, n4, ghk2] at ghk3
      all_goals
      obtain ⟨y_3, hhk3⟩ := Option.isSome_iff_exists.1 hk3
      have fhk3 := Fs_impl_in hhk3
      try simp only [go_sem, ghk2, ghk3] at fhk3
      obtain rfl := so_some h
      refine ⟨0, fun L hL => ?_⟩
      simp only [go_sem, ir100, fhk1, ghk2, ghk3, hhk3, fhk3]
    · rcases and_f ghk3 with ghk3a | ⟨ghk3a, ghk3b⟩
      · try simp only [go_sem, n1, n2, n3, n4, ghk2] at ghk3a
        all_goals
        obtain rfl := so_some h
        refine ⟨0, fun L hL => ?_⟩
        simp only [go_sem, ir100, fhk1, ghk2, ghk3a]
      · try simp only [go_sem, n1, n2, n3, n4, ghk2] at ghk3a
        all_goals
        try simp only [go_sem, n1, n2, n3, n4, ghk2, ghk3a] at ghk3b
        all_goals
        obtain rfl := so_some h
        refine ⟨0, fun L hL => ?_⟩
        simp only [go_sem, ir100, fhk1, ghk2, ghk3a, ghk3b]


def ir85_v : List Nat := [0, 2, 3, 4, 5, 6, 7, 8, 9, 10, 11, 12]
def ir85 : AFn := ⟨1, 12, .seq (.region false [
    ⟨.var 1, 2, none, .alloc (.agg [.int .i64 (0), .str [], .int .i64 (0)])⟩,
    ⟨.var 2, 3, none, .mov (.c (.int .i64 (0)))⟩,
    ⟨.var 3, 4, none, .mov (.c (.bool false))⟩])
 (.seq (.region false [
    ⟨.push, 13, none, .mov (.v 0)⟩,
    ⟨.push, 14, none, .call 99 [(.s 0), (.c (.str [32]))]⟩,
    ⟨.var 4, 5, none, .mov (.s 0)⟩])
 (.seq (.test false [
    ⟨.push, 15, none, .mov (.v 4)⟩,
    ⟨.push, 16, none, .len false (.s 0)⟩,
    ⟨.push, 17, none, .bin false .neq (.s 0) (.c (.int .i64 (4)))⟩] (.s 0)
  (.seq (.region false [
      ⟨.push, 18, none, .build [.int .i64 (0), .str [], .int .i64 (0)] []⟩,
      ⟨.no, 0, none, .store 3 (.v 1) (.s 0)⟩,
      ⟨.var 2, 3, none, .mov (.c (.int .i64 (0)))⟩,
      ⟨.var 3, 4, none, .mov (.c (.bool false))⟩])
   (.ret))
  (.skip))
 (.seq (.region false [
    ⟨.push, 20, none, .mov (.v 4)⟩,
    ⟨.push, 21, none, .ixAddr 1 (.s 0) (.c (.int .i64 (0)))⟩,
    ⟨.push, 22, none, .load false 1 (.s 0)⟩,
    ⟨.push, 23, none, .call 26 [(.s 0)]⟩,
    ⟨.push, 19, none, .mov (.s 0)⟩,
    ⟨.push, 24, none, .ext (.s 0) 0⟩,
    ⟨.push, 25, none, .ext (.s 1) 1⟩,
    ⟨.var 5, 6, none, .mov (.s 1)⟩,
    ⟨.var 6, 7, none, .mov (.s 0)⟩])
 (.seq (.region false [
    ⟨.push, 27, none, .mov (.v 4)⟩,
    ⟨.push, 28, none, .ixAddr 1 (.s 0) (.c (.int .i64 (2)))⟩,
    ⟨.push, 29, none, .load false 1 (.s 0)⟩,
    ⟨.push, 30, none, .call 26 [(.s 0)]⟩,
    ⟨.push, 26, none, .mov (.s 0)⟩,
    ⟨.push, 31, none, .ext (.s 0) 0⟩,
    ⟨.push, 32, none, .ext (.s 1) 1⟩,
    ⟨.var 7, 8, none, .mov (.s 1)⟩,
    ⟨.var 8, 9, none, .mov (.s 0)⟩])
 (.seq (.region false [
    ⟨.push, 34, none, .mov (.v 4)⟩,
    ⟨.push, 35, none, .ixAddr 1 (.s 0) (.c (.int .i64 (3)))⟩,
    ⟨.push, 36, none, .load false 1 (.s 0)⟩,
    ⟨.push, 37, none, .call 26 [(.s 0)]⟩,
    ⟨.push, 33, none, .mov (.s 0)⟩,
    ⟨.push, 38, none, .ext (.s 0) 0⟩,
    ⟨.push, 39, none, .ext (.s 1) 1⟩,
    ⟨.var 9, 10, none, .mov (.s 1)⟩,
    ⟨.var 10, 11, none, .mov (.s 0)⟩])
 (.seq (.region false [
    ⟨.push, 40, none, .mov (.v 5)⟩,
    ⟨.push, 41, none, .mov (.v 4)⟩,
    ⟨.push, 42, none, .ixAddr 1 (.s 0) (.c (.int .i64 (1)))⟩,
    ⟨.push, 43, none, .load false 1 (.s 0)⟩,
    ⟨.push, 44, none, .mov (.v 7)⟩,
    ⟨.push, 45, none, .build [.int .i64 (0), .str [], .int .i64 (0)] [(0, 1, (.s 4)), (1, 1, (.s 1)), (2, 1, (.s 0))]⟩,
    ⟨.var 11, 12, none, .alloc (.agg [.int .i64 (0), .str [], .int .i64 (0)])⟩,
    ⟨.no, 0, none, .store 3 (.v 11) (.s 0)⟩])
 (.seq (.anyo 13 [
    ⟨.slot 0, 46, none, .load true 3 (.v 11)⟩,
    ⟨.slot 1, 47, none, .mov (.v 9)⟩,
    ⟨.slot 2, 48, none, .mov (.v 6)⟩,
    ⟨.slot 3, 49, none, .mov (.s 2)⟩,
    ⟨.slot 4, 50, (some ((.s 3), true)), .mov (.v 8)⟩,
    ⟨.slot 5, 51, none, .pick (.s 3) (.s 4) (.c (.bool false))⟩,
    ⟨.slot 6, 52, none, .mov (.s 5)⟩,
    ⟨.slot 7, 53, (some ((.s 6), true)), .mov (.v 10)⟩,
    ⟨.slot 8, 54, none, .pick (.s 6) (.s 7) (.c (.bool false))⟩,
    ⟨.slot 9, 55, none, .mov (.s 8)⟩,
    ⟨.slot 10, 56, (some ((.s 9), true)), .load true 3 (.v 11)⟩,
    ⟨.slot 11, 57, (some ((.s 9), true)), .call 100 [(.s 10)]⟩,
    ⟨.slot 12, 58, none, .pick (.s 9) (.s 11) (.c (.bool false))⟩,
    ⟨.no, 0, none, .store 3 (.v 1) (.s 0)⟩,
    ⟨.var 2, 3, none, .mov (.s 1)⟩,
    ⟨.var 3, 4, none, .mov (.s 12)⟩] [[0, 2, 3, 4, 5, 6, 7, 8, 9, 10, 11, 1, 12, 13, 14, 15], [0, 2, 3, 4, 5, 6, 7, 8, 9, 10, 11, 1, 13, 12, 14, 15], [0, 2, 3, 4, 5, 6, 7, 8, 9, 10, 11, 12, 1, 13, 14, 15], [0, 2, 3, 4, 5, 6, 7, 8, 9, 10, 11, 12, 13, 1, 14, 15], [0, 2, 3, 4, 5, 6, 7, 8, 9, 10, 11, 13, 1, 12, 14, 15]] .skip)
 (.ret)))))))), [.cell true 3 1, .t 2, .t 3]⟩
noncomputable def t_impl_readEntry : List (Nat × Ctr) := [(99, c_hSplit), (26, c_hRdDec), (100, c_impl_ValidEntry)]
theorem lk_impl_readEntry_99 : look t_impl_readEntry 99 = some c_hSplit := rfl
theorem lk_impl_readEntry_26 : look t_impl_readEntry 26 = some c_hRdDec := rfl
theorem lk_impl_readEntry_100 : look t_impl_readEntry 100 = some c_impl_ValidEntry := rfl
noncomputable def c_impl_readEntry : Ctr := mkN t_impl_readEntry ir85 [.bor]
theorem s_impl_readEntry : Sound Tryd.prog 85 c_impl_readEntry := mkN_sound _ (snd_cons s_hSplit (snd_cons s_hRdDec (snd_cons s_impl_ValidEntry snd_nil))) (by kernel_rfl : chkFn Tryd.prog 85 ir85 ir85_v = true)
theorem M_impl_readEntry : c_impl_readEntry.modes = [.bor] := rfl
theorem Fl_impl_readEntry : c_impl_readEntry.flat = false := rfl
attribute [go_sem] M_impl_readEntry Fl_impl_readEntry
attribute [go_sem] lk_impl_readEntry_99 lk_impl_readEntry_26 lk_impl_readEntry_100
theorem Fs_impl_readEntry {line : List UInt8} {y_ : Entry × Int × Bool} (h : impl_readEntry line = some y_) : c_impl_readEntry.F [.str line] = ⟨true, .tup [Entry_av y_.1, .int .i64 y_.2.1, .bool y_.2.2], [.any]⟩ := by
  refine mkN_E ?_
  dsimp only [impl_readEntry] at h
  obtain ⟨y_1, hk1, h⟩ := bd_some h
  have fhk1 := Fs_hSplit hk1
  try simp only [go_sem] at fhk1
  rcases it_some h with ⟨hk2, h⟩ | ⟨hk2, h⟩
  · try simp only [go_sem, n1, n2, n3, n4] at hk2
    all_goals
    obtain rfl := so_some h
    refine ⟨0, fun L hL => ?_⟩
    simp only [go_sem, ir85, fhk1, hk2]
  · try simp only [go_sem, n1, n2, n3, n4] at hk2
    all_goals
    obtain ⟨hk3, h⟩ := ck_some h
    have lhk3 := ix_lt hk3
    have xhk3 := getD_mapD AV.str y_1 lhk3
    try simp only [go_sem] at lhk3
    try simp only [go_sem] at xhk3
    try simp only [go_sem, n1, n2, n3, n4, hk2] at hk3
    all_goals
    obtain ⟨y_4, hk4, h⟩ := bd_some h
    have fhk4 := Fs_hRdDec hk4
    try simp only [go_sem, hk2, hk3] at fhk4
    obtain ⟨hk5, h⟩ := ck_some h
    have lhk5 := ix_lt hk5
    have xhk5 := getD_mapD AV.str y_1 lhk5
    try simp only [go_sem] at lhk5
    try simp only [go_sem] at xhk5
    try simp only [go_sem, n1, n2, n3, n4, hk2, hk3] at hk5
    all_goals
    obtain ⟨y_6, hk6, h⟩ := bd_some h
    have fhk6 := Fs_hRdDec hk6
    try simp only [go_sem, hk2, hk3, hk5] at fhk6
    obtain ⟨hk7, h⟩ := ck_some h
    have lhk7 := ix_lt hk7
    have xhk7 := getD_mapD AV.str y_1 lhk7
    try simp only [go_sem] at lhk7
    try simp only [go_sem] at xhk7
    try simp only [go_sem, n1, n2, n3, n4, hk2, hk3, hk5] at hk7
    all_goals
    obtain ⟨y_8, hk8, h⟩ := bd_some h
    have fhk8 := Fs_hRdDec hk8
    try simp only [go_sem, hk2, hk3, hk5, hk7] at fhk8
    obtain ⟨hk9, h⟩ := ck_some h
    have lhk9 := ix_lt hk9
    have xhk9 := getD_mapD AV.str y_1 lhk9
    try simp only [go_sem] at lhk9
    try simp only [go_sem] at xhk9
    try simp only [go_sem, n1, n2, n3, n4, hk2, hk3, hk5, hk7] at hk9
    all_goals
    obtain ⟨hk10, h⟩ := ck_some h
    rcases or_split hk10 with ⟨ghk10, hk10⟩ | ghk10
    · try simp only [go_sem, n1, n2, n3, n4, hk2, hk3, hk5, hk7, hk9] at ghk10
      all_goals
      obtain ⟨y_10, hhk10⟩ := Option.isSome_iff_exists.1 hk10
      have fhk10 := Fs_impl_ValidEntry hhk10
      try simp only [go_sem, hk2, hk3, hk5, hk7, hk9, ghk10] at fhk10
      obtain rfl := so_some h
      refine ⟨0, fun L hL => ?_⟩
      simp only [go_sem, ir85, fhk1, hk2, hk3, lhk3, xhk3, fhk4, hk5, lhk5, xhk5, fhk6, hk7, lhk7, xhk7, fhk8, hk9, lhk9, xhk9, ghk10, hhk10, fhk10]
    · rcases and_f ghk10 with ghk10a | ⟨ghk10a, ghk10b⟩
      · rcases and_f ghk10a with ghk10aa | ⟨ghk10aa, ghk10ab⟩
        · try simp only [go_sem, n1, n2, n3, n4, hk2, hk3, hk5, hk7, hk9] at ghk10aa
          all_goals
          obtain rfl := so_some h
          refine ⟨0, fun L hL => ?_⟩
          simp only [go_sem, ir85, fhk1, hk2, hk3, lhk3, xhk3, fhk4, hk5, lhk5, xhk5, fhk6, hk7, lhk7, xhk7, fhk8, hk9, lhk9, xhk9, ghk10aa]
        · try simp only [go_sem, n1, n2, n3, n4, hk2, hk3, hk5, hk7, hk9] at ghk10aa
          all_goals
          try simp only [go_sem, n1, n2, n3, n4, hk2, hk3, hk5, hk7, hk9, ghk10aa] at ghk10ab
          all_goals
          obtain rfl := so_some h
          refine ⟨0, fun L hL => ?_⟩
          simp only [go_sem, ir85, fhk1, hk2, hk3, lhk3, xhk3, fhk4, hk5, lhk5, xhk5, fhk6, hk7, lhk7, xhk7, fhk8, hk9, lhk9, xhk9, ghk10aa, ghk10ab]
      · obtain ⟨ghk10aa, ghk10ab⟩ := and_t ghk10a
        try simp only [go_sem, n1, n2, n3, n4, hk2, hk3, hk5, hk7, hk9] at ghk10aa
        all_goals
        try simp only [go_sem, n1, n2, n3, n4, hk2, hk3, hk5, hk7, hk9, ghk10aa] at ghk10ab
        all_goals
        try simp only [go_sem, n1, n2, n3, n4, hk2, hk3, hk5, hk7, hk9, ghk10aa, ghk10ab] at ghk10b
        all_goals
        obtain rfl := so_some h
        refine ⟨0, fun L hL => ?_⟩
        simp only [go_sem, ir85, fhk1, hk2, hk3, lhk3, xhk3, fhk4, hk5, lhk5, xhk5, fhk6, hk7, lhk7, xhk7, fhk8, hk9, lhk9, xhk9, ghk10aa, ghk10ab, ghk10b]


theorem s_hFmt : Sound Tryd.prog 84 c_hFmt := hFmt_is

def ir67_v : List Nat := [0, 1, 4]
def ir67 : AFn := ⟨2, 3, .seq (.region false [
    ⟨.var 2, 4, none, .mov (.c (.str []))⟩])
 (.seq (.region false [
    ⟨.push, 5, none, .mov (.v 0)⟩,
    ⟨.push, 6, none, .mov (.v 1)⟩,
    ⟨.push, 7, none, .call 84 [(.s 1), (.s 0)]⟩,
    ⟨.var 2, 4, none, .mov (.s 0)⟩])
 (.ret)), [.t 2]⟩
noncomputable def t_strconv_FormatInt : List (Nat × Ctr) := [(84, c_hFmt)]
theorem lk_strconv_FormatInt_84 : look t_strconv_FormatInt 84 = some c_hFmt := rfl
noncomputable def c_strconv_FormatInt : Ctr := mkF t_strconv_FormatInt ir67 [.bor, .bor]
theorem s_strconv_FormatInt : Sound Tryd.prog 67 c_strconv_FormatInt := mkF_sound _ rfl (snd_cons s_hFmt snd_nil) (by kernel_rfl : chkFn Tryd.prog 67 ir67 ir67_v = true)
theorem M_strconv_FormatInt : c_strconv_FormatInt.modes = [.bor, .bor] := rfl
theorem Fl_strconv_FormatInt : c_strconv_FormatInt.flat = true := rfl
attribute [go_sem] M_strconv_FormatInt Fl_strconv_FormatInt
attribute [go_sem] lk_strconv_FormatInt_84
theorem Fs_strconv_FormatInt {i : Int} {base : Int} {y_ : (List UInt8)} (h : strconv_FormatInt i base = some y_) : c_strconv_FormatInt.F [.int .i64 i, .int .i64 base] = ⟨true, .str y_, [.any, .any]⟩ := by
  refine mkF_E rfl ?_
  dsimp only [strconv_FormatInt] at h
  obtain ⟨y_1, hk1, h⟩ := bd_some h
  have fhk1 := Fs_hFmt hk1
  try simp only [go_sem] at fhk1
  obtain rfl := so_some h
  refine ⟨0, fun L hL => ?_⟩
  simp only [go_sem, ir67, fhk1]


def ir51_v : List Nat := [0, 2]
def ir51 : AFn := ⟨1, 2, .seq (.region false [
    ⟨.var 1, 2, none, .mov (.c (.str []))⟩])
 (.seq (.region false [
    ⟨.push, 3, none, .mov (.v 0)⟩,
    ⟨.push, 4, none, .call 67 [(.s 0), (.c (.int .i64 (10)))]⟩,
    ⟨.var 1, 2, none, .mov (.s 0)⟩])
 (.ret)), [.t 1]⟩
noncomputable def t_impl_Decimal : List (Nat × Ctr) := [(67, c_strconv_FormatInt)]
theorem lk_impl_Decimal_67 : look t_impl_Decimal 67 = some c_strconv_FormatInt := rfl
noncomputable def c_impl_Decimal : Ctr := mkF t_impl_Decimal ir51 [.bor]
theorem s_impl_Decimal : Sound Tryd.prog 51 c_impl_Decimal := mkF_sound _ rfl (snd_cons s_strconv_FormatInt snd_nil) (by kernel_rfl : chkFn Tryd.prog 51 ir51 ir51_v = true)
theorem M_impl_Decimal : c_impl_Decimal.modes = [.bor] := rfl
theorem Fl_impl_Decimal : c_impl_Decimal.flat = true := rfl
attribute [go_sem] M_impl_Decimal Fl_impl_Decimal
attribute [go_sem] lk_impl_Decimal_67
theorem Fs_impl_Decimal {n : Int} {y_ : (List UInt8)} (h : impl_Decimal n = some y_) : c_impl_Decimal.F [.int .i64 n] = ⟨true, .str y_, [.any]⟩ := by
  refine mkF_E rfl ?_
  dsimp only [impl_Decimal] at h
  obtain ⟨y_1, hk1, h⟩ := bd_some h
  have fhk1 := Fs_strconv_FormatInt hk1
  try simp only [go_sem] at fhk1
  obtain rfl := so_some h
  refine ⟨0, fun L hL => ?_⟩
  simp only [go_sem, ir51, fhk1]


def ir101_v : List Nat := [0, 1, 2]
def ir101 : AFn := ⟨1, 3, .seq (.region false [
    ⟨.var 1, 1, none, .box (.v 0)⟩,
    ⟨.var 2, 2, none, .mov (.c (.str []))⟩])
 (.seq (.anyo 12 [
    ⟨.slot 0, 3, none, .fldAddr 0 (.v 1)⟩,
    ⟨.slot 1, 4, none, .load false 1 (.s 0)⟩,
    ⟨.slot 2, 5, none, .callp 51 [(.s 1)]⟩,
    ⟨.slot 3, 6, none, .bin false .add (.s 2) (.c (.str [32]))⟩,
    ⟨.slot 4, 7, none, .fldAddr 1 (.v 1)⟩,
    ⟨.slot 5, 8, none, .load false 1 (.s 4)⟩,
    ⟨.slot 6, 9, none, .bin false .add (.s 3) (.s 5)⟩,
    ⟨.slot 7, 10, none, .bin false .add (.s 6) (.c (.str [32]))⟩,
    ⟨.slot 8, 11, none, .fldAddr 2 (.v 1)⟩,
    ⟨.slot 9, 12, none, .load false 1 (.s 8)⟩,
    ⟨.slot 10, 13, none, .callp 51 [(.s 9)]⟩,
    ⟨.slot 11, 14, none, .bin false .add (.s 7) (.s 10)⟩,
    ⟨.var 2, 2, none, .mov (.s 11)⟩] [] .skip)
 (.ret)), [.t 2]⟩
noncomputable def t_impl_Entry_words : List (Nat × Ctr) := [(51, c_impl_Decimal)]
theorem lk_impl_Entry_words_51 : look t_impl_Entry_words 51 = some c_impl_Decimal := rfl
noncomputable def c_impl_Entry_words : Ctr := mkF t_impl_Entry_words ir101 [.bor]
theorem s_impl_Entry_words : Sound Tryd.prog 101 c_impl_Entry_words := mkF_sound _ rfl (snd_cons s_impl_Decimal snd_nil) (by kernel_rfl : chkFn Tryd.prog 101 ir101 ir101_v = true)
theorem M_impl_Entry_words : c_impl_Entry_words.modes = [.bor] := rfl
theorem Fl_impl_Entry_words : c_impl_Entry_words.flat = true := rfl
attribute [go_sem] M_impl_Entry_words Fl_impl_Entry_words
attribute [go_sem] lk_impl_Entry_words_51
theorem Fs_impl_Entry_words {e_ : Entry} {y_ : (List UInt8)} (h : impl_Entry_words e_ = some y_) : c_impl_Entry_words.F [Entry_av e_] = ⟨true, .str y_, [.any]⟩ := by
  refine mkF_E rfl ?_
  dsimp only [impl_Entry_words] at h
  obtain ⟨y_1, hk1, h⟩ := bd_some h
  have fhk1 := Fs_impl_Decimal hk1
  try simp only [go_sem] at fhk1
  obtain ⟨hk2, h⟩ := ck_some h
  try simp only [go_sem, n1, n2, n3, n4] at hk2
  all_goals
  obtain ⟨hk3, h⟩ := ck_some h
  try simp only [go_sem, n1, n2, n3, n4, hk2] at hk3
  all_goals
  obtain ⟨hk4, h⟩ := ck_some h
  try simp only [go_sem, n1, n2, n3, n4, hk2, hk3] at hk4
  all_goals
  obtain ⟨y_5, hk5, h⟩ := bd_some h
  have fhk5 := Fs_impl_Decimal hk5
  try simp only [go_sem, hk2, hk3, hk4] at fhk5
  obtain ⟨hk6, h⟩ := ck_some h
  try simp only [go_sem, n1, n2, n3, n4, hk2, hk3, hk4] at hk6
  all_goals
  obtain rfl := so_some h
  refine ⟨0, fun L hL => ?_⟩
  simp only [go_sem, ir101, fhk1, hk2, hk3, hk4, fhk5, hk6]


def ir86_b0 : IR := .seq (.region false [
    ⟨.var 9, 16, none, .bin false .lss (.v 8) (.v 7)⟩])
 (.seq (.cond (.v 9) (.skip)
  (.exit 0))
 (.seq (.block 1 (.seq (.region false [
      ⟨.push, 17, none, .mov (.v 8)⟩,
      ⟨.var 6, 7, none, .mov (.s 0)⟩])
   (.region false [
     ⟨.push, 18, none, .mov (.v 4)⟩,
     ⟨.push, 19, none, .bin false .mul (.c (.int .i64 (31))) (.s 0)⟩,
     ⟨.push, 20, none, .mov (.v 5)⟩,
     ⟨.push, 21, none, .mov (.v 6)⟩,
     ⟨.push, 22, none, .ixStr (.s 1) (.s 0)⟩,
     ⟨.push, 23, none, .conv .i64 (.s 0)⟩,
     ⟨.push, 24, none, .bin false .add (.s 4) (.s 0)⟩,
     ⟨.push, 25, none, .bin false .rem (.s 0) (.c (.int .i64 (65521)))⟩,
     ⟨.var 4, 5, none, .mov (.s 0)⟩])))
 (.region false [
   ⟨.push, 26, none, .bin false .add (.v 8) (.c (.int .i64 (1)))⟩,
   ⟨.var 8, 15, none, .mov (.s 0)⟩])))
def ir86_k0 : List Bool := [false, false, false, false, true, true, false, true, true, false]
def ir86_o0 : List Bool := [false, false, false, false, true, false, false, false, false, false]
def ir86_r0 : List Bool := [false, false, false, true, false, false, false, false, false, false]
def ir86_v : List Nat := [0, 1, 3, 4, 5, 6, 7, 14, 15, 16]
def ir86 : AFn := ⟨2, 10, .seq (.region false [
    ⟨.var 2, 3, none, .box (.v 1)⟩,
    ⟨.var 3, 4, none, .mov (.c (.int .i64 (0)))⟩])
 (.seq (.region false [
    ⟨.push, 8, none, .mov (.v 0)⟩,
    ⟨.push, 9, none, .bin false .add (.s 0) (.c (.int .i64 (23)))⟩,
    ⟨.push, 10, none, .bin false .rem (.s 0) (.c (.int .i64 (65521)))⟩,
    ⟨.push, 11, none, .load true 3 (.v 2)⟩,
    ⟨.push, 12, none, .call 101 [(.s 0)]⟩,
    ⟨.var 4, 5, none, .mov (.s 2)⟩,
    ⟨.var 5, 6, none, .mov (.s 0)⟩])
 (.seq (.seq (.region false [
     ⟨.push, 13, none, .mov (.v 5)⟩,
     ⟨.var 7, 14, none, .len true (.s 0)⟩,
     ⟨.var 8, 15, none, .mov (.c (.int .i64 (0)))⟩])
  (.block 0 (.loop ir86_k0 ir86_o0 ir86_r0 ir86_b0)))
 (.seq (.region false [
    ⟨.push, 27, none, .mov (.v 4)⟩,
    ⟨.var 3, 4, none, .mov (.s 0)⟩])
 (.ret)))), [.t 3]⟩
noncomputable def t_impl_stamp : List (Nat × Ctr) := [(101, c_impl_Entry_words)]
theorem lk_impl_stamp_101 : look t_impl_stamp 101 = some c_impl_Entry_words := rfl
noncomputable def c_impl_stamp : Ctr := mkF t_impl_stamp ir86 [.bor, .bor]
theorem s_impl_stamp : Sound Tryd.prog 86 c_impl_stamp := mkF_sound _ rfl (snd_cons s_impl_Entry_words snd_nil) (by kernel_rfl : chkFn Tryd.prog 86 ir86 ir86_v = true)
theorem M_impl_stamp : c_impl_stamp.modes = [.bor, .bor] := rfl
theorem Fl_impl_stamp : c_impl_stamp.flat = true := rfl
attribute [go_sem] M_impl_stamp Fl_impl_stamp
attribute [go_sem] lk_impl_stamp_101
def E_impl_stamp_l1 (words : List UInt8) (t14 : Int) : (Int × Int) → St
  | (sum, t15) => ⟨[.any, .any, .any, .any, .int .i64 sum, .str words, .any, .int .i64 t14, .int .i64 t15, .any], [], [], true⟩
def R_impl_stamp_l1 (words : List UInt8) (t14 : Int) (y : Int) : Res := (.exit 0, ⟨[.any, .any, .any, .any, .int .i64 y, .any, .any, .any, .any, .any], [], [], true⟩)
theorem impl_stamp_l1_ex {words : List UInt8} {t14 : Int} {sgm_ : Int × Int} {rho_ : Int} (h : whileE (impl_stamp_l1 words t14) sgm_ = some rho_) : ∃ L0, ∀ L, L0 ≤ L → iter (exec (look t_impl_stamp) L ir86_b0) ir86_k0 ir86_o0 ir86_r0 L (E_impl_stamp_l1 words t14 sgm_) = R_impl_stamp_l1 words t14 rho_ := by
  refine loop_ex (E := E_impl_stamp_l1 words t14) (R := R_impl_stamp_l1 words t14) (fun y => by first | (intro c; cases c) | (rcases y with y | y <;> (intro c; cases c)) | (rcases y with y | y | y <;> (intro c; cases c))) ?_ h
  clear h
  rintro ⟨sum, t15⟩ o_ h
  dsimp only [impl_stamp_l1] at h
  rcases it_some h with ⟨hk3, h⟩ | ⟨hk3, h⟩
  · try simp only [go_sem, n1, n2, n3, n4] at hk3
    all_goals
    obtain ⟨hk4, h⟩ := ck_some h
    try simp only [go_sem, n1, n2, n3, n4, hk3] at hk4
    all_goals
    obtain ⟨hk5, h⟩ := ck_some h
    try simp only [go_sem, n1, n2, n3, n4, hk3, hk4] at hk5
    all_goals
    obtain rfl := so_some h
    refine ⟨0, fun L hL => ?_⟩
    simp only [go_sem, ir86, E_impl_stamp_l1, R_impl_stamp_l1, ir86_b0, ir86_k0, ir86_o0, ir86_r0, hk3, hk4, hk5]
  · try simp only [go_sem, n1, n2, n3, n4] at hk3
    all_goals
    obtain rfl := so_some h
    refine ⟨0, fun L hL => ?_⟩
    simp only [go_sem, ir86, E_impl_stamp_l1, R_impl_stamp_l1, ir86_b0, ir86_k0, ir86_o0, ir86_r0, hk3]

theorem Fs_impl_stamp {before : Int} {e_ : Entry} {y_ : Int} (h : impl_stamp before e_ = some y_) : c_impl_stamp.F [.int .i64 before, Entry_av e_] = ⟨true, .int .i64 y_, [.any, .any]⟩ := by
  refine mkF_E rfl ?_
  dsimp only [impl_stamp] at h
  obtain ⟨hk1, h⟩ := ck_some h
  try simp only [go_sem, n1, n2, n3, n4] at hk1
  all_goals
  obtain ⟨y_2, hk2, h⟩ := bd_some h
  have fhk2 := Fs_impl_Entry_words hk2
  try simp only [go_sem, hk1] at fhk2
  obtain ⟨y_6, hk6, h⟩ := bd_some h
  obtain ⟨Lhk6, ehk6⟩ := impl_stamp_l1_ex hk6
  obtain rfl := so_some h
  refine ⟨Lhk6, fun L hL => ?_⟩
  have ehk6 := ehk6 L (by omega)
  try simp only [go_sem, E_impl_stamp_l1, R_impl_stamp_l1, ir86_k0, ir86_o0, ir86_r0, hk1] at ehk6
  simp only [go_sem, ir86, E_impl_stamp_l1, R_impl_stamp_l1, ir86_k0, ir86_o0, ir86_r0, hk1, fhk2, ehk6]


def ir72_b0 : IR := .block 1 (.seq (.region false [
     ⟨.push, 17, none, .mov (.v 0)⟩,
     ⟨.push, 18, none, .mov (.v 5)⟩,
     ⟨.push, 19, none, .slice 0 (.s 1) (some (.s 0)) none⟩,
     ⟨.push, 20, none, .call 25 [(.s 0), (.c (.str [10]))]⟩,
     ⟨.push, 16, none, .mov (.s 0)⟩,
     ⟨.push, 21, none, .ext (.s 0) 0⟩,
     ⟨.push, 22, none, .ext (.s 1) 1⟩,
     ⟨.push, 23, none, .ext (.s 2) 2⟩,
     ⟨.var 8, 9, none, .mov (.s 2)⟩,
     ⟨.push, 10, none, .mov (.s 1)⟩,
     ⟨.var 9, 11, none, .mov (.s 1)⟩])
  (.seq (.region false [
     ⟨.push, 25, none, .mov (.v 8)⟩,
     ⟨.push, 26, none, .call 85 [(.s 0)]⟩,
     ⟨.push, 24, none, .mov (.s 0)⟩,
     ⟨.push, 27, none, .ext (.s 0) 0⟩,
     ⟨.push, 28, none, .ext (.s 1) 1⟩,
     ⟨.push, 29, none, .ext (.s 2) 2⟩,
     ⟨.var 10, 12, none, .alloc (.agg [.int .i64 (0), .str [], .int .i64 (0)])⟩,
     ⟨.no, 0, none, .store 3 (.v 10) (.s 2)⟩,
     ⟨.var 11, 13, none, .mov (.s 1)⟩,
     ⟨.var 12, 14, none, .mov (.s 0)⟩])
  (.seq (.test false [
     ⟨.push, 30, none, .mov (.v 9)⟩,
     ⟨.push, 31, none, .un .not (.s 0)⟩,
     ⟨.push, 32, none, .mov (.s 0)⟩,
     ⟨.push, 33, (some ((.s 0), false)), .mov (.v 12)⟩,
     ⟨.push, 34, (some ((.s 1), false)), .un .not (.s 0)⟩,
     ⟨.push, 35, none, .pick (.s 2) (.c (.bool true)) (.s 0)⟩,
     ⟨.push, 36, none, .mov (.s 0)⟩,
     ⟨.push, 37, (some ((.s 0), false)), .fldAddr 0 (.v 10)⟩,
     ⟨.push, 38, (some ((.s 1), false)), .load false 1 (.s 0)⟩,
     ⟨.push, 39, (some ((.s 2), false)), .mov (.v 7)⟩,
     ⟨.push, 40, (some ((.s 3), false)), .bin false .lss (.s 1) (.s 0)⟩,
     ⟨.push, 41, none, .pick (.s 4) (.c (.bool true)) (.s 0)⟩,
     ⟨.push, 42, none, .mov (.s 0)⟩,
     ⟨.push, 43, (some ((.s 0), false)), .mov (.v 11)⟩,
     ⟨.push, 44, (some ((.s 1), false)), .mov (.v 6)⟩,
     ⟨.push, 45, (some ((.s 2), false)), .load true 3 (.v 10)⟩,
     ⟨.push, 46, (some ((.s 3), false)), .call 86 [(.s 1), (.s 0)]⟩,
     ⟨.push, 47, (some ((.s 4), false)), .bin false .neq (.s 3) (.s 0)⟩,
     ⟨.push, 48, none, .pick (.s 5) (.c (.bool true)) (.s 0)⟩] (.s 0)
   (.seq (.region false [
       ⟨.push, 49, none, .mov (.v 4)⟩,
       ⟨.push, 50, none, .mov (.v 5)⟩,
       ⟨.push, 51, none, .mov (.v 6)⟩,
       ⟨.var 1, 2, none, .mov (.s 2)⟩,
       ⟨.var 2, 3, none, .mov (.s 1)⟩,
       ⟨.var 3, 4, none, .mov (.s 0)⟩])
    (.ret))
   (.skip))
  (.seq (.region false [
     ⟨.push, 52, none, .mov (.v 4)⟩,
     ⟨.push, 53, none, .load true 3 (.v 10)⟩,
     ⟨.push, 54, none, .mkSl 3 (.agg [.int .i64 (0), .str [], .int .i64 (0)]) 1 [(0, (.s 0))]⟩,
     ⟨.push, 55, none, .app 3 32 (.agg [.int .i64 (0), .str [], .int .i64 (0)]) (.s 2) (.s 0)⟩,
     ⟨.var 4, 5, none, .mov (.s 0)⟩])
  (.seq (.region false [
     ⟨.push, 56, none, .mov (.v 5)⟩,
     ⟨.push, 57, none, .mov (.v 8)⟩,
     ⟨.push, 58, none, .len true (.s 0)⟩,
     ⟨.push, 59, none, .bin false .add (.s 0) (.c (.int .i64 (1)))⟩,
     ⟨.push, 60, none, .bin false .add (.s 3) (.s 0)⟩,
     ⟨.var 5, 6, none, .mov (.s 0)⟩])
  (.anyo 3 [
    ⟨.slot 0, 61, none, .mov (.v 11)⟩,
    ⟨.slot 1, 62, none, .fldAddr 0 (.v 10)⟩,
    ⟨.slot 2, 63, none, .load false 1 (.s 1)⟩,
    ⟨.var 6, 7, none, .mov (.s 0)⟩,
    ⟨.var 7, 8, none, .mov (.s 2)⟩] [] .skip))))))
def ir72_k0 : List Bool := [true, false, false, false, true, true, true, true, false, false, false, false, false]
def ir72_o0 : List Bool := [false, false, false, false, false, false, false, false, false, false, false, false, false]
def ir72_r0 : List Bool := [false, true, true, true, false, false, false, false, false, false, false, false, false]
def ir72_v : List Nat := [0, 2, 3, 4, 5, 6, 7, 8, 9, 11, 12, 13, 14]
def ir72 : AFn := ⟨1, 13, .seq (.region false [
    ⟨.var 1, 2, none, .newnil 3⟩,
    ⟨.var 2, 3, none, .mov (.c (.int .i64 (0)))⟩,
    ⟨.var 3, 4, none, .mov (.c (.int .i64 (0)))⟩])
 (.seq (.region false [
    ⟨.push, 15, none, .mkSl 3 (.agg [.int .i64 (0), .str [], .int .i64 (0)]) 0 []⟩,
    ⟨.var 4, 5, none, .mov (.s 0)⟩,
    ⟨.var 5, 6, none, .mov (.c (.int .i64 (0)))⟩,
    ⟨.var 6, 7, none, .mov (.c (.int .i64 (0)))⟩,
    ⟨.var 7, 8, none, .mov (.c (.int .i64 (0)))⟩])
 (.block 0 (.loop ir72_k0 ir72_o0 ir72_r0 ir72_b0))), [.t 1, .t 2, .t 3]⟩
noncomputable def t_impl_readLog : List (Nat × Ctr) := [(25, c_hCut), (85, c_impl_readEntry), (86, c_impl_stamp)]
theorem lk_impl_readLog_25 : look t_impl_readLog 25 = some c_hCut := rfl
theorem lk_impl_readLog_85 : look t_impl_readLog 85 = some c_impl_readEntry := rfl
theorem lk_impl_readLog_86 : look t_impl_readLog 86 = some c_impl_stamp := rfl
noncomputable def c_impl_readLog : Ctr := mkF t_impl_readLog ir72 [.bor]
theorem s_impl_readLog : Sound Tryd.prog 72 c_impl_readLog := mkF_sound _ rfl (snd_cons s_hCut (snd_cons s_impl_readEntry (snd_cons s_impl_stamp snd_nil))) (by kernel_rfl : chkFn Tryd.prog 72 ir72 ir72_v = true)
theorem M_impl_readLog : c_impl_readLog.modes = [.bor] := rfl
theorem Fl_impl_readLog : c_impl_readLog.flat = true := rfl
attribute [go_sem] M_impl_readLog Fl_impl_readLog
attribute [go_sem] lk_impl_readLog_25 lk_impl_readLog_85 lk_impl_readLog_86
def E_impl_readLog_l1 (log : List UInt8) : ((List Entry) × Int × Int × Int) → St
  | (entries, used, last, day) => ⟨[.str log, .any, .any, .any, .own 3200000, .int .i64 used, .int .i64 last, .int .i64 day, .any, .any, .any, .any, .any], [], [(3200000, ⟨3, List.map Entry_av entries⟩)], true⟩
def R_impl_readLog_l1 (log : List UInt8) (y : (List Entry) × Int × Int) : Res := (.ret, ⟨[.any, .own 3200000, .int .i64 y.2.1, .int .i64 y.2.2, .any, .any, .any, .any, .any, .any, .any, .any, .any], [], [(3200000, ⟨3, List.map Entry_av y.1⟩)], true⟩)
theorem impl_readLog_l1_ex {log : List UInt8} {sgm_ : (List Entry) × Int × Int × Int} {rho_ : (List Entry) × Int × Int} (h : whileE (impl_readLog_l1 log) sgm_ = some rho_) : ∃ L0, ∀ L, L0 ≤ L → iter (exec (look t_impl_readLog) L ir72_b0) ir72_k0 ir72_o0 ir72_r0 L (E_impl_readLog_l1 log sgm_) = R_impl_readLog_l1 log rho_ := by
  refine loop_ex (E := E_impl_readLog_l1 log) (R := R_impl_readLog_l1 log) (fun y => by first | (intro c; cases c) | (rcases y with y | y <;> (intro c; cases c)) | (rcases y with y | y | y <;> (intro c; cases c))) ?_ h
  clear h
  rintro ⟨entries, used, last, day⟩ o_ h
  dsimp only [impl_readLog_l1] at h
  obtain ⟨hk1, h⟩ := ck_some h
  try simp only [go_sem, n1, n2, n3, n4] at hk1
  all_goals
  obtain ⟨y_2, hk2, h⟩ := bd_some h
  have fhk2 := Fs_hCut hk2
  try simp only [go_sem, hk1] at fhk2
  obtain ⟨y_3, hk3, h⟩ := bd_some h
  have fhk3 := Fs_impl_readEntry hk3
  try simp only [go_sem, hk1] at fhk3
  obtain ⟨hk4, h⟩ := ck_some h
  rcases or_split hk4 with ⟨ghk4, hk4⟩ | ghk4
  · try simp only [go_sem, n1, n2, n3, n4, hk1] at ghk4
    all_goals
    obtain ⟨y_4, hhk4⟩ := Option.isSome_iff_exists.1 hk4
    have fhk4 := Fs_impl_stamp hhk4
    try simp only [go_sem, hk1, ghk4] at fhk4
    rcases it_some h with ⟨hk5, h⟩ | ⟨hk5, h⟩
    · try simp only [go_sem, n1, n2, n3, n4, hk1, ghk4, hhk4] at hk5
      all_goals
      obtain rfl := so_some h
      refine ⟨0, fun L hL => ?_⟩
      simp only [go_sem, ir72, E_impl_readLog_l1, R_impl_readLog_l1, ir72_b0, ir72_k0, ir72_o0, ir72_r0, hk1, fhk2, fhk3, ghk4, hhk4, fhk4, hk5]
    · try simp only [go_sem, n1, n2, n3, n4, hk1, ghk4, hhk4] at hk5
      all_goals
      obtain ⟨hk6, h⟩ := ck_some h
      try simp only [go_sem, n1, n2, n3, n4, hk1, ghk4, hhk4, hk5] at hk6
      all_goals
      obtain rfl := so_some h
      refine ⟨0, fun L hL => ?_⟩
      simp only [go_sem, ir72, E_impl_readLog_l1, R_impl_readLog_l1, ir72_b0, ir72_k0, ir72_o0, ir72_r0, hk1, fhk2, fhk3, ghk4, hhk4, fhk4, hk5, hk6]
  · have ghk4n := no_f ghk4
    rcases or_t ghk4n with ghk4na | ⟨ghk4na, ghk4nb⟩
    · rcases or_t ghk4na with ghk4naa | ⟨ghk4naa, ghk4nab⟩
      · have ghk4naan := no_t ghk4naa
        try simp only [go_sem, n1, n2, n3, n4, hk1] at ghk4naan
        all_goals
        rcases it_some h with ⟨hk5, h⟩ | ⟨hk5, h⟩
        · try simp only [go_sem, n1, n2, n3, n4, hk1, ghk4naan] at hk5
          all_goals
          obtain rfl := so_some h
          refine ⟨0, fun L hL => ?_⟩
          simp only [go_sem, ir72, E_impl_readLog_l1, R_impl_readLog_l1, ir72_b0, ir72_k0, ir72_o0, ir72_r0, hk1, fhk2, fhk3, ghk4naan, hk5]
        · try simp only [go_sem, n1, n2, n3, n4, hk1, ghk4naan] at hk5
          all_goals
          obtain ⟨hk6, h⟩ := ck_some h
          try simp only [go_sem, n1, n2, n3, n4, hk1, ghk4naan, hk5] at hk6
          all_goals
          obtain rfl := so_some h
          refine ⟨0, fun L hL => ?_⟩
          simp only [go_sem, ir72, E_impl_readLog_l1, R_impl_readLog_l1, ir72_b0, ir72_k0, ir72_o0, ir72_r0, hk1, fhk2, fhk3, ghk4naan, hk5, hk6]
      · have ghk4naan := no_f ghk4naa
        have ghk4nabn := no_t ghk4nab
        try simp only [go_sem, n1, n2, n3, n4, hk1] at ghk4naan
        all_goals
        try simp only [go_sem, n1, n2, n3, n4, hk1, ghk4naan] at ghk4nabn
        all_goals
        rcases it_some h with ⟨hk5, h⟩ | ⟨hk5, h⟩
        · try simp only [go_sem, n1, n2, n3, n4, hk1, ghk4naan, ghk4nabn] at hk5
          all_goals
          obtain rfl := so_some h
          refine ⟨0, fun L hL => ?_⟩
          simp only [go_sem, ir72, E_impl_readLog_l1, R_impl_readLog_l1, ir72_b0, ir72_k0, ir72_o0, ir72_r0, hk1, fhk2, fhk3, ghk4naan, ghk4nabn, hk5]
        · try simp only [go_sem, n1, n2, n3, n4, hk1, ghk4naan, ghk4nabn] at hk5
          all_goals
          obtain ⟨hk6, h⟩ := ck_some h
          try simp only [go_sem, n1, n2, n3, n4, hk1, ghk4naan, ghk4nabn, hk5] at hk6
          all_goals
          obtain rfl := so_some h
          refine ⟨0, fun L hL => ?_⟩
          simp only [go_sem, ir72, E_impl_readLog_l1, R_impl_readLog_l1, ir72_b0, ir72_k0, ir72_o0, ir72_r0, hk1, fhk2, fhk3, ghk4naan, ghk4nabn, hk5, hk6]
    · obtain ⟨ghk4naa, ghk4nab⟩ := or_f ghk4na
      have ghk4naan := no_f ghk4naa
      have ghk4nabn := no_f ghk4nab
      try simp only [go_sem, n1, n2, n3, n4, hk1] at ghk4naan
      all_goals
      try simp only [go_sem, n1, n2, n3, n4, hk1, ghk4naan] at ghk4nabn
      all_goals
      try simp only [go_sem, n1, n2, n3, n4, hk1, ghk4naan, ghk4nabn] at ghk4nb
      all_goals
      rcases it_some h with ⟨hk5, h⟩ | ⟨hk5, h⟩
      · try simp only [go_sem, n1, n2, n3, n4, hk1, ghk4naan, ghk4nabn, ghk4nb] at hk5
        all_goals
        obtain rfl := so_some h
        refine ⟨0, fun L hL => ?_⟩
        simp only [go_sem, ir72, E_impl_readLog_l1, R_impl_readLog_l1, ir72_b0, ir72_k0, ir72_o0, ir72_r0, hk1, fhk2, fhk3, ghk4naan, ghk4nabn, ghk4nb, hk5]
      · try simp only [go_sem, n1, n2, n3, n4, hk1, ghk4naan, ghk4nabn, ghk4nb] at hk5
        all_goals
        obtain ⟨hk6, h⟩ := ck_some h
        try simp only [go_sem, n1, n2, n3, n4, hk1, ghk4naan, ghk4nabn, ghk4nb, hk5] at hk6
        all_goals
        obtain rfl := so_some h
        refine ⟨0, fun L hL => ?_⟩
        simp only [go_sem, ir72, E_impl_readLog_l1, R_impl_readLog_l1, ir72_b0, ir72_k0, ir72_o0, ir72_r0, hk1, fhk2, fhk3, ghk4naan, ghk4nabn, ghk4nb, hk5, hk6]

theorem Fs_impl_readLog {log : List UInt8} {y_ : (List Entry) × Int × Int} (h : impl_readLog log = some y_) : c_impl_readLog.F [.str log] = ⟨true, .tup [.fresh 3 (List.map Entry_av y_.1), .int .i64 y_.2.1, .int .i64 y_.2.2], [.any]⟩ := by
  refine mkF_E (by simp only [flatA, flatB, flat1, List.all_cons, List.all_nil, Bool.and_self, flatE_map (f := Entry_av) (fun _ => rfl)]) ?_
  dsimp only [impl_readLog] at h
  obtain ⟨y_7, hk7, h⟩ := bd_some h
  obtain ⟨Lhk7, ehk7⟩ := impl_readLog_l1_ex hk7
  obtain rfl := so_some h
  refine ⟨Lhk7, fun L hL => ?_⟩
  have ehk7 := ehk7 L (by omega)
  try simp only [go_sem, E_impl_readLog_l1, R_impl_readLog_l1, ir72_k0, ir72_o0, ir72_r0] at ehk7
  simp only [go_sem, ir72, E_impl_readLog_l1, R_impl_readLog_l1, ir72_k0, ir72_o0, ir72_r0, ehk7]


def ir61_v : List Nat := [0, 2, 3, 4, 5, 6, 7]
def ir61 : AFn := ⟨1, 7, .seq (.region false [
    ⟨.var 1, 2, none, .newnil 3⟩,
    ⟨.var 2, 3, none, .mov (.c (.int .i64 (0)))⟩,
    ⟨.var 3, 4, none, .mov (.c (.int .i64 (0)))⟩])
 (.seq (.test false [
    ⟨.push, 8, none, .mov (.v 0)⟩,
    ⟨.push, 9, none, .len true (.s 0)⟩,
    ⟨.push, 10, none, .bin false .gtr (.s 0) (.c (.int .i64 (4000)))⟩] (.s 0)
  (.seq (.region false [
      ⟨.var 1, 2, none, .newnil 3⟩,
      ⟨.var 2, 3, none, .mov (.c (.int .i64 (0)))⟩,
      ⟨.var 3, 4, none, .mov (.c (.int .i64 (5)))⟩])
   (.ret))
  (.skip))
 (.seq (.region false [
    ⟨.push, 12, none, .mov (.v 0)⟩,
    ⟨.push, 13, none, .call 72 [(.s 0)]⟩,
    ⟨.push, 11, none, .mov (.s 0)⟩,
    ⟨.push, 14, none, .ext (.s 0) 0⟩,
    ⟨.push, 15, none, .ext (.s 1) 1⟩,
    ⟨.push, 16, none, .ext (.s 2) 2⟩,
    ⟨.var 4, 5, none, .mov (.s 2)⟩,
    ⟨.var 5, 6, none, .mov (.s 1)⟩,
    ⟨.var 6, 7, none, .mov (.s 0)⟩])
 (.seq (.test false [
    ⟨.push, 17, none, .mov (.v 5)⟩,
    ⟨.push, 18, none, .mov (.v 0)⟩,
    ⟨.push, 19, none, .len true (.s 0)⟩,
    ⟨.push, 20, none, .bin false .lss (.s 2) (.s 0)⟩] (.s 0)
  (.seq (.region false [
      ⟨.var 1, 2, none, .newnil 3⟩,
      ⟨.var 2, 3, none, .mov (.c (.int .i64 (0)))⟩,
      ⟨.var 3, 4, none, .mov (.c (.int .i64 (8)))⟩])
   (.ret))
  (.skip))
 (.seq (.region false [
    ⟨.push, 21, none, .mov (.v 4)⟩,
    ⟨.push, 22, none, .mov (.v 6)⟩,
    ⟨.var 1, 2, none, .mov (.s 1)⟩,
    ⟨.var 2, 3, none, .mov (.s 0)⟩,
    ⟨.var 3, 4, none, .mov (.c (.int .i64 (0)))⟩])
 (.ret))))), [.t 1, .t 2, .t 3]⟩
noncomputable def t_impl_wholeLog : List (Nat × Ctr) := [(72, c_impl_readLog)]
theorem lk_impl_wholeLog_72 : look t_impl_wholeLog 72 = some c_impl_readLog := rfl
noncomputable def c_impl_wholeLog : Ctr := mkF t_impl_wholeLog ir61 [.bor]
theorem s_impl_wholeLog : Sound Tryd.prog 61 c_impl_wholeLog := mkF_sound _ rfl (snd_cons s_impl_readLog snd_nil) (by kernel_rfl : chkFn Tryd.prog 61 ir61 ir61_v = true)
theorem M_impl_wholeLog : c_impl_wholeLog.modes = [.bor] := rfl
theorem Fl_impl_wholeLog : c_impl_wholeLog.flat = true := rfl
attribute [go_sem] M_impl_wholeLog Fl_impl_wholeLog
attribute [go_sem] lk_impl_wholeLog_72
theorem Fs_impl_wholeLog {log : List UInt8} {y_ : (List Entry) × Int × Int} (h : impl_wholeLog log = some y_) : c_impl_wholeLog.F [.str log] = ⟨true, .tup [.fresh 3 (List.map Entry_av y_.1), .int .i64 y_.2.1, .int .i64 y_.2.2], [.any]⟩ := by
  refine mkF_E (by simp only [flatA, flatB, flat1, List.all_cons, List.all_nil, Bool.and_self, flatE_map (f := Entry_av) (fun _ => rfl)]) ?_
  dsimp only [impl_wholeLog] at h
  rcases it_some h with ⟨hk1, h⟩ | ⟨hk1, h⟩
  · try simp only [go_sem, n1, n2, n3, n4] at hk1
    all_goals
    obtain rfl := so_some h
    refine ⟨0, fun L hL => ?_⟩
    simp only [go_sem, ir61, hk1]
  · try simp only [go_sem, n1, n2, n3, n4] at hk1
    all_goals
    obtain ⟨y_2, hk2, h⟩ := bd_some h
    have fhk2 := Fs_impl_readLog hk2
    try simp only [go_sem, hk1] at fhk2
    rcases it_some h with ⟨hk3, h⟩ | ⟨hk3, h⟩
    · try simp only [go_sem, n1, n2, n3, n4, hk1] at hk3
      all_goals
      obtain rfl := so_some h
      refine ⟨0, fun L hL => ?_⟩
      simp only [go_sem, ir61, hk1, fhk2, hk3]
    · try simp only [go_sem, n1, n2, n3, n4, hk1] at hk3
      all_goals
      obtain rfl := so_some h
      refine ⟨0, fun L hL => ?_⟩
      simp only [go_sem, ir61, hk1, fhk2, hk3]


def ir34_v : List Nat := [0, 2, 3, 4, 6]
def ir34 : AFn := ⟨1, 5, .seq (.region false [
    ⟨.var 1, 2, none, .newnil 3⟩,
    ⟨.var 2, 3, none, .mov (.c (.int .i64 (0)))⟩])
 (.seq (.region false [
    ⟨.push, 8, none, .mov (.v 0)⟩,
    ⟨.push, 9, none, .call 61 [(.s 0)]⟩,
    ⟨.push, 7, none, .mov (.s 0)⟩,
    ⟨.push, 10, none, .ext (.s 0) 0⟩,
    ⟨.push, 11, none, .ext (.s 1) 1⟩,
    ⟨.push, 12, none, .ext (.s 2) 2⟩,
    ⟨.var 3, 4, none, .mov (.s 2)⟩,
    ⟨.push, 5, none, .mov (.s 1)⟩,
    ⟨.var 4, 6, none, .mov (.s 1)⟩])
 (.seq (.region false [
    ⟨.push, 13, none, .mov (.v 3)⟩,
    ⟨.push, 14, none, .mov (.v 4)⟩,
    ⟨.var 1, 2, none, .mov (.s 1)⟩,
    ⟨.var 2, 3, none, .mov (.s 0)⟩])
 (.ret))), [.t 1, .t 2]⟩
noncomputable def t_impl_EntriesOf : List (Nat × Ctr) := [(61, c_impl_wholeLog)]
theorem lk_impl_EntriesOf_61 : look t_impl_EntriesOf 61 = some c_impl_wholeLog := rfl
noncomputable def c_impl_EntriesOf : Ctr := mkF t_impl_EntriesOf ir34 [.bor]
theorem s_impl_EntriesOf : Sound Tryd.prog 34 c_impl_EntriesOf := mkF_sound _ rfl (snd_cons s_impl_wholeLog snd_nil) (by kernel_rfl : chkFn Tryd.prog 34 ir34 ir34_v = true)
theorem M_impl_EntriesOf : c_impl_EntriesOf.modes = [.bor] := rfl
theorem Fl_impl_EntriesOf : c_impl_EntriesOf.flat = true := rfl
attribute [go_sem] M_impl_EntriesOf Fl_impl_EntriesOf
attribute [go_sem] lk_impl_EntriesOf_61
theorem Fs_impl_EntriesOf {log : List UInt8} {y_ : (List Entry) × Int} (h : impl_EntriesOf log = some y_) : c_impl_EntriesOf.F [.str log] = ⟨true, .tup [.fresh 3 (List.map Entry_av y_.1), .int .i64 y_.2], [.any]⟩ := by
  refine mkF_E (by simp only [flatA, flatB, flat1, List.all_cons, List.all_nil, Bool.and_self, flatE_map (f := Entry_av) (fun _ => rfl)]) ?_
  dsimp only [impl_EntriesOf] at h
  obtain ⟨y_1, hk1, h⟩ := bd_some h
  have fhk1 := Fs_impl_wholeLog hk1
  try simp only [go_sem] at fhk1
  obtain rfl := so_some h
  refine ⟨0, fun L hL => ?_⟩
  simp only [go_sem, ir34, fhk1]


def ir27_b0 : IR := .seq (.region false [
    ⟨.var 6, 9, none, .bin false .lss (.v 5) (.v 4)⟩])
 (.seq (.cond (.v 6) (.skip)
  (.exit 0))
 (.seq (.block 1 (.seq (.region false [
      ⟨.push, 10, none, .mov (.v 5)⟩,
      ⟨.var 3, 5, none, .mov (.s 0)⟩])
   (.test false [
     ⟨.push, 11, none, .mov (.v 1)⟩,
     ⟨.push, 12, none, .mov (.v 0)⟩,
     ⟨.push, 13, none, .mov (.v 3)⟩,
     ⟨.push, 14, none, .ixAddr 1 (.s 1) (.s 0)⟩,
     ⟨.push, 15, none, .load false 1 (.s 0)⟩,
     ⟨.push, 16, none, .bin false .eql (.s 4) (.s 0)⟩] (.s 0)
   (.seq (.region false [
       ⟨.push, 17, none, .mov (.v 3)⟩,
       ⟨.var 2, 4, none, .mov (.s 0)⟩])
    (.ret))
   (.skip))))
 (.region false [
   ⟨.push, 18, none, .bin false .add (.v 5) (.c (.int .i64 (1)))⟩,
   ⟨.var 5, 8, none, .mov (.s 0)⟩])))
def ir27_k0 : List Bool := [true, true, false, false, true, true, false]
def ir27_o0 : List Bool := [false, false, false, false, false, false, false]
def ir27_r0 : List Bool := [false, false, true, false, false, false, false]
def ir27_v : List Nat := [0, 1, 4, 5, 7, 8, 9]
def ir27 : AFn := ⟨2, 7, .seq (.region false [
    ⟨.var 2, 4, none, .mov (.c (.int .i64 (0)))⟩])
 (.seq (.seq (.region false [
     ⟨.push, 6, none, .mov (.v 0)⟩,
     ⟨.var 4, 7, none, .len false (.s 0)⟩,
     ⟨.var 5, 8, none, .mov (.c (.int .i64 (0)))⟩])
  (.block 0 (.loop ir27_k0 ir27_o0 ir27_r0 ir27_b0)))
 (.seq (.region false [
    ⟨.var 2, 4, none, .mov (.c (.int .i64 (-1)))⟩])
 (.ret))), [.t 2]⟩
noncomputable def t_slices_Index_string_string : List (Nat × Ctr) := []
noncomputable def c_slices_Index_string_string : Ctr := mkF t_slices_Index_string_string ir27 [.bor, .bor]
theorem s_slices_Index_string_string : Sound Tryd.prog 27 c_slices_Index_string_string := mkF_sound _ rfl snd_nil (by kernel_rfl : chkFn Tryd.prog 27 ir27 ir27_v = true)
theorem M_slices_Index_string_string : c_slices_Index_string_string.modes = [.bor, .bor] := rfl
theorem Fl_slices_Index_string_string : c_slices_Index_string_string.flat = true := rfl
attribute [go_sem] M_slices_Index_string_string Fl_slices_Index_string_string
def E_slices_Index_string_string_l1 (s_ : List (List UInt8)) (v : List UInt8) (t7 : Int) : Int → St
  | t8 => ⟨[.sl 1 (List.map AV.str s_), .str v, .any, .any, .int .i64 t7, .int .i64 t8, .any], [], [], true⟩
def R_slices_Index_string_string_l1 (s_ : List (List UInt8)) (v : List UInt8) (t7 : Int) : (Unit ⊕ Int) → Res
  | .inl y => (.exit 0, ⟨[.any, .any, .any, .any, .any, .any, .any], [], [], true⟩)
  | .inr y => (.ret, ⟨[.any, .any, .int .i64 y, .any, .any, .any, .any], [], [], true⟩)
theorem slices_Index_string_string_l1_ex {s_ : List (List UInt8)} {v : List UInt8} {t7 : Int} {sgm_ : Int} {rho_ : Unit ⊕ Int} (h : whileE (slices_Index_string_string_l1 s_ v t7) sgm_ = some rho_) : ∃ L0, ∀ L, L0 ≤ L → iter (exec (look t_slices_Index_string_string) L ir27_b0) ir27_k0 ir27_o0 ir27_r0 L (E_slices_Index_string_string_l1 s_ v t7 sgm_) = R_slices_Index_string_string_l1 s_ v t7 rho_ := by
  refine loop_ex (E := E_slices_Index_string_string_l1 s_ v t7) (R := R_slices_Index_string_string_l1 s_ v t7) (fun y => by first | (intro c; cases c) | (rcases y with y | y <;> (intro c; cases c)) | (rcases y with y | y | y <;> (intro c; cases c))) ?_ h
  clear h
  intro t8 o_ h
  dsimp only [slices_Index_string_string_l1] at h
  rcases it_some h with ⟨hk1, h⟩ | ⟨hk1, h⟩
  · try simp only [go_sem, n1, n2, n3, n4] at hk1
    all_goals
    obtain ⟨hk2, h⟩ := ck_some h
    have lhk2 := ix_lt hk2
    have xhk2 := getD_mapD AV.str s_ lhk2
    try simp only [go_sem] at lhk2
    try simp only [go_sem] at xhk2
    try simp only [go_sem, n1, n2, n3, n4, hk1] at hk2
    all_goals
    rcases it_some h with ⟨hk3, h⟩ | ⟨hk3, h⟩
    · try simp only [go_sem, n1, n2, n3, n4, hk1, hk2] at hk3
      all_goals
      obtain rfl := so_some h
      refine ⟨0, fun L hL => ?_⟩
      simp only [go_sem, ir27, E_slices_Index_string_string_l1, R_slices_Index_string_string_l1, ir27_b0, ir27_k0, ir27_o0, ir27_r0, hk1, hk2, lhk2, xhk2, hk3]
    · try simp only [go_sem, n1, n2, n3, n4, hk1, hk2] at hk3
      all_goals
      obtain rfl := so_some h
      refine ⟨0, fun L hL => ?_⟩
      simp only [go_sem, ir27, E_slices_Index_string_string_l1, R_slices_Index_string_string_l1, ir27_b0, ir27_k0, ir27_o0, ir27_r0, hk1, hk2, lhk2, xhk2, hk3]
  · try simp only [go_sem, n1, n2, n3, n4] at hk1
    all_goals
    obtain rfl := so_some h
    refine ⟨0, fun L hL => ?_⟩
    simp only [go_sem, ir27, E_slices_Index_string_string_l1, R_slices_Index_string_string_l1, ir27_b0, ir27_k0, ir27_o0, ir27_r0, hk1]

theorem Fs_slices_Index_string_string {s_ : List (List UInt8)} {v : List UInt8} {y_ : Int} (h : slices_Index_string_string s_ v = some y_) : c_slices_Index_string_string.F [.sl 1 (List.map AV.str s_), .str v] = ⟨true, .int .i64 y_, [.any, .any]⟩ := by
  refine mkF_E rfl ?_
  dsimp only [slices_Index_string_string] at h
  obtain ⟨y_4, hk4, h⟩ := bd_some h
  obtain ⟨Lhk4, ehk4⟩ := slices_Index_string_string_l1_ex hk4
  rcases y_4 with y_4a | y_4b
  · dsimp only at h
    obtain rfl := so_some h
    refine ⟨Lhk4, fun L hL => ?_⟩
    have ehk4 := ehk4 L (by omega)
    try simp only [go_sem, E_slices_Index_string_string_l1, R_slices_Index_string_string_l1, ir27_k0, ir27_o0, ir27_r0] at ehk4
    simp only [go_sem, ir27, E_slices_Index_string_string_l1, R_slices_Index_string_string_l1, ir27_k0, ir27_o0, ir27_r0, ehk4]
  · dsimp only at h
    obtain rfl := so_some h
    refine ⟨Lhk4, fun L hL => ?_⟩
    have ehk4 := ehk4 L (by omega)
    try simp only [go_sem, E_slices_Index_string_string_l1, R_slices_Index_string_string_l1, ir27_k0, ir27_o0, ir27_r0] at ehk4
    simp only [go_sem, ir27, E_slices_Index_string_string_l1, R_slices_Index_string_string_l1, ir27_k0, ir27_o0, ir27_r0, ehk4]


def ir35_v : List Nat := [0, 1, 4]
def ir35 : AFn := ⟨2, 3, .seq (.region false [
    ⟨.var 2, 4, none, .mov (.c (.bool false))⟩])
 (.seq (.region false [
    ⟨.push, 5, none, .mov (.v 0)⟩,
    ⟨.push, 6, none, .mov (.v 1)⟩,
    ⟨.push, 7, none, .call 27 [(.s 1), (.s 0)]⟩,
    ⟨.push, 8, none, .bin false .geq (.s 0) (.c (.int .i64 (0)))⟩,
    ⟨.var 2, 4, none, .mov (.s 0)⟩])
 (.ret)), [.t 2]⟩
noncomputable def t_slices_Contains_string_string : List (Nat × Ctr) := [(27, c_slices_Index_string_string)]
theorem lk_slices_Contains_string_string_27 : look t_slices_Contains_string_string 27 = some c_slices_Index_string_string := rfl
noncomputable def c_slices_Contains_string_string : Ctr := mkF t_slices_Contains_string_string ir35 [.bor, .bor]
theorem s_slices_Contains_string_string : Sound Tryd.prog 35 c_slices_Contains_string_string := mkF_sound _ rfl (snd_cons s_slices_Index_string_string snd_nil) (by kernel_rfl : chkFn Tryd.prog 35 ir35 ir35_v = true)
theorem M_slices_Contains_string_string : c_slices_Contains_string_string.modes = [.bor, .bor] := rfl
theorem Fl_slices_Contains_string_string : c_slices_Contains_string_string.flat = true := rfl
attribute [go_sem] M_slices_Contains_string_string Fl_slices_Contains_string_string
attribute [go_sem] lk_slices_Contains_string_string_27
theorem Fs_slices_Contains_string_string {s_ : List (List UInt8)} {v : List UInt8} {y_ : Bool} (h : slices_Contains_string_string s_ v = some y_) : c_slices_Contains_string_string.F [.sl 1 (List.map AV.str s_), .str v] = ⟨true, .bool y_, [.any, .any]⟩ := by
  refine mkF_E rfl ?_
  dsimp only [slices_Contains_string_string] at h
  obtain ⟨y_1, hk1, h⟩ := bd_some h
  have fhk1 := Fs_slices_Index_string_string hk1
  try simp only [go_sem] at fhk1
  obtain rfl := so_some h
  refine ⟨0, fun L hL => ?_⟩
  simp only [go_sem, ir35, fhk1]


def ir12_b0 : IR := .seq (.region false [
    ⟨.var 10, 21, none, .bin false .lss (.v 9) (.v 8)⟩])
 (.seq (.cond (.v 10) (.skip)
  (.exit 0))
 (.seq (.block 1 (.seq (.region false [
      ⟨.push, 22, none, .ixAddr 3 (.v 7) (.v 9)⟩,
      ⟨.push, 23, none, .load true 3 (.s 0)⟩,
      ⟨.var 6, 8, none, .alloc (.agg [.int .i64 (0), .str [], .int .i64 (0)])⟩,
      ⟨.no, 0, none, .store 3 (.v 6) (.s 0)⟩])
   (.test false [
     ⟨.push, 24, none, .mov (.v 5)⟩,
     ⟨.push, 25, none, .fldAddr 1 (.v 6)⟩,
     ⟨.push, 26, none, .load false 1 (.s 0)⟩,
     ⟨.push, 27, none, .call 35 [(.s 2), (.s 0)]⟩,
     ⟨.push, 28, none, .un .not (.s 0)⟩] (.s 0)
   (.region false [
      ⟨.push, 29, none, .mov (.v 5)⟩,
      ⟨.push, 30, none, .fldAddr 1 (.v 6)⟩,
      ⟨.push, 31, none, .load false 1 (.s 0)⟩,
      ⟨.push, 32, none, .mkSl 1 (.str []) 1 [(0, (.s 0))]⟩,
      ⟨.push, 33, none, .app 1 16 (.str []) (.s 3) (.s 0)⟩,
      ⟨.var 5, 6, none, .mov (.s 0)⟩])
   (.skip))))
 (.region false [
   ⟨.push, 34, none, .bin false .add (.v 9) (.c (.int .i64 (1)))⟩,
   ⟨.var 9, 20, none, .mov (.s 0)⟩])))
def ir12_k0 : List Bool := [false, false, false, false, false, true, false, true, true, true, false]
def ir12_o0 : List Bool := [false, false, false, false, false, true, false, false, false, false, false]
def ir12_r0 : List Bool := [false, true, true, false, false, false, false, false, false, false, false]
def ir12_v : List Nat := [0, 2, 3, 4, 5, 6, 8, 18, 19, 20, 21]
def ir12 : AFn := ⟨1, 11, .seq (.region false [
    ⟨.var 1, 2, none, .newnil 1⟩,
    ⟨.var 2, 3, none, .mov (.c (.int .i64 (0)))⟩])
 (.seq (.region false [
    ⟨.push, 10, none, .mov (.v 0)⟩,
    ⟨.push, 11, none, .call 34 [(.s 0)]⟩,
    ⟨.push, 9, none, .mov (.s 0)⟩,
    ⟨.push, 12, none, .ext (.s 0) 0⟩,
    ⟨.push, 13, none, .ext (.s 1) 1⟩,
    ⟨.var 3, 4, none, .mov (.s 1)⟩,
    ⟨.var 4, 5, none, .mov (.s 0)⟩])
 (.seq (.test false [
    ⟨.push, 14, none, .mov (.v 4)⟩,
    ⟨.push, 15, none, .bin false .neq (.s 0) (.c (.int .i64 (0)))⟩] (.s 0)
  (.seq (.region false [
      ⟨.push, 16, none, .mov (.v 4)⟩,
      ⟨.var 1, 2, none, .newnil 1⟩,
      ⟨.var 2, 3, none, .mov (.s 0)⟩])
   (.ret))
  (.skip))
 (.seq (.region false [
    ⟨.push, 17, none, .mkSl 1 (.str []) 0 []⟩,
    ⟨.var 5, 6, none, .mov (.s 0)⟩])
 (.seq (.seq (.region false [
     ⟨.var 7, 18, none, .mov (.v 3)⟩,
     ⟨.var 8, 19, none, .len false (.v 7)⟩,
     ⟨.var 9, 20, none, .mov (.c (.int .i64 (0)))⟩])
  (.block 0 (.loop ir12_k0 ir12_o0 ir12_r0 ir12_b0)))
 (.seq (.region false [
    ⟨.push, 35, none, .mov (.v 5)⟩,
    ⟨.var 1, 2, none, .mov (.s 0)⟩,
    ⟨.var 2, 3, none, .mov (.c (.int .i64 (0)))⟩])
 (.ret)))))), [.t 1, .t 2]⟩
noncomputable def t_impl_NamesIn : List (Nat × Ctr) := [(34, c_impl_EntriesOf), (35, c_slices_Contains_string_string)]
theorem lk_impl_NamesIn_34 : look t_impl_NamesIn 34 = some c_impl_EntriesOf := rfl
theorem lk_impl_NamesIn_35 : look t_impl_NamesIn 35 = some c_slices_Contains_string_string := rfl
noncomputable def c_impl_NamesIn : Ctr := mkF t_impl_NamesIn ir12 [.bor]
theorem s_impl_NamesIn : Sound Tryd.prog 12 c_impl_NamesIn := mkF_sound _ rfl (snd_cons s_impl_EntriesOf (snd_cons s_slices_Contains_string_string snd_nil)) (by kernel_rfl : chkFn Tryd.prog 12 ir12 ir12_v = true)
theorem M_impl_NamesIn : c_impl_NamesIn.modes = [.bor] := rfl
theorem Fl_impl_NamesIn : c_impl_NamesIn.flat = true := rfl
attribute [go_sem] M_impl_NamesIn Fl_impl_NamesIn
attribute [go_sem] lk_impl_NamesIn_34 lk_impl_NamesIn_35
def E_impl_NamesIn_l1 (t18 : List Entry) (t19 : Int) : ((List (List UInt8)) × Int) → St
  | (out, t20) => ⟨[.any, .any, .any, .any, .any, .own 3200000, .any, .own 3200032, .int .i64 t19, .int .i64 t20, .any], [], [(3200000, ⟨1, List.map AV.str out⟩), (3200032, ⟨3, List.map Entry_av t18⟩)], true⟩
def R_impl_NamesIn_l1 (t18 : List Entry) (t19 : Int) (y : (List (List UInt8))) : Res := (.exit 0, ⟨[.any, .any, .any, .any, .any, .own 3200000, .any, .any, .any, .any, .any], [], [(3200000, ⟨1, List.map AV.str y⟩)], true⟩)
theorem impl_NamesIn_l1_ex {t18 : List Entry} {t19 : Int} {sgm_ : (List (List UInt8)) × Int} {rho_ : (List (List UInt8))} (h : whileE (impl_NamesIn_l1 t18 t19) sgm_ = some rho_) : ∃ L0, ∀ L, L0 ≤ L → iter (exec (look t_impl_NamesIn) L ir12_b0) ir12_k0 ir12_o0 ir12_r0 L (E_impl_NamesIn_l1 t18 t19 sgm_) = R_impl_NamesIn_l1 t18 t19 rho_ := by
  refine loop_ex (E := E_impl_NamesIn_l1 t18 t19) (R := R_impl_NamesIn_l1 t18 t19) (fun y => by first | (intro c; cases c) | (rcases y with y | y <;> (intro c; cases c)) | (rcases y with y | y | y <;> (intro c; cases c))) ?_ h
  clear h
  rintro ⟨out, t20⟩ o_ h
  dsimp only [impl_NamesIn_l1] at h
  rcases it_some h with ⟨hk3, h⟩ | ⟨hk3, h⟩
  · try simp only [go_sem, n1, n2, n3, n4] at hk3
    all_goals
    obtain ⟨hk4, h⟩ := ck_some h
    have lhk4 := ix_lt hk4
    have xhk4 := getD_mapD Entry_av t18 lhk4
    try simp only [go_sem] at lhk4
    try simp only [go_sem] at xhk4
    try simp only [go_sem, n1, n2, n3, n4, hk3] at hk4
    all_goals
    obtain ⟨y_5, hk5, h⟩ := bd_some h
    have fhk5 := Fs_slices_Contains_string_string hk5
    try simp only [go_sem, hk3, hk4] at fhk5
    rcases it_some h with ⟨hk6, h⟩ | ⟨hk6, h⟩
    · try simp only [go_sem, n1, n2, n3, n4, hk3, hk4] at hk6
      all_goals
      obtain ⟨hk7, h⟩ := ck_some h
      try simp only [go_sem, n1, n2, n3, n4, hk3, hk4, hk6] at hk7
      all_goals
      obtain rfl := so_some h
      refine ⟨0, fun L hL => ?_⟩
      simp only [go_sem, ir12, E_impl_NamesIn_l1, R_impl_NamesIn_l1, ir12_b0, ir12_k0, ir12_o0, ir12_r0, hk3, hk4, lhk4, xhk4, fhk5, hk6, hk7]
    · try simp only [go_sem, n1, n2, n3, n4, hk3, hk4] at hk6
      all_goals
      obtain rfl := so_some h
      refine ⟨0, fun L hL => ?_⟩
      simp only [go_sem, ir12, E_impl_NamesIn_l1, R_impl_NamesIn_l1, ir12_b0, ir12_k0, ir12_o0, ir12_r0, hk3, hk4, lhk4, xhk4, fhk5, hk6]
  · try simp only [go_sem, n1, n2, n3, n4] at hk3
    all_goals
    obtain rfl := so_some h
    refine ⟨0, fun L hL => ?_⟩
    simp only [go_sem, ir12, E_impl_NamesIn_l1, R_impl_NamesIn_l1, ir12_b0, ir12_k0, ir12_o0, ir12_r0, hk3]

theorem Fs_impl_NamesIn {log : List UInt8} {y_ : (List (List UInt8)) × Int} (h : impl_NamesIn log = some y_) : c_impl_NamesIn.F [.str log] = ⟨true, .tup [.fresh 1 (List.map AV.str y_.1), .int .i64 y_.2], [.any]⟩ := by
  refine mkF_E (by simp only [flatA, flatB, flat1, List.all_cons, List.all_nil, Bool.and_self, flatE_map (f := AV.str) (fun _ => rfl)]) ?_
  dsimp only [impl_NamesIn] at h
  obtain ⟨y_1, hk1, h⟩ := bd_some h
  have fhk1 := Fs_impl_EntriesOf hk1
  try simp only [go_sem] at fhk1
  rcases it_some h with ⟨hk2, h⟩ | ⟨hk2, h⟩
  · try simp only [go_sem, n1, n2, n3, n4] at hk2
    all_goals
    obtain rfl := so_some h
    refine ⟨0, fun L hL => ?_⟩
    simp only [go_sem, ir12, E_impl_NamesIn_l1, R_impl_NamesIn_l1, ir12_k0, ir12_o0, ir12_r0, fhk1, hk2]
  · try simp only [go_sem, n1, n2, n3, n4] at hk2
    all_goals
    obtain ⟨y_8, hk8, h⟩ := bd_some h
    obtain ⟨Lhk8, ehk8⟩ := impl_NamesIn_l1_ex hk8
    obtain rfl := so_some h
    refine ⟨Lhk8, fun L hL => ?_⟩
    have ehk8 := ehk8 L (by omega)
    try simp only [go_sem, E_impl_NamesIn_l1, R_impl_NamesIn_l1, ir12_k0, ir12_o0, ir12_r0, hk2] at ehk8
    simp only [go_sem, ir12, E_impl_NamesIn_l1, R_impl_NamesIn_l1, ir12_k0, ir12_o0, ir12_r0, fhk1, hk2, ehk8]


def ir40_v : List Nat := [0, 1, 2, 3, 4, 5]
def ir40 : AFn := ⟨4, 6, .seq (.region false [
    ⟨.var 4, 4, none, .box (.v 0)⟩,
    ⟨.var 5, 5, none, .mov (.c (.bool false))⟩])
 (.seq (.region false [
    ⟨.push, 6, none, .fldAddr 1 (.v 4)⟩,
    ⟨.push, 7, none, .load false 1 (.s 0)⟩,
    ⟨.push, 8, none, .load false 1 (.v 1)⟩,
    ⟨.push, 9, none, .bin false .eql (.s 1) (.s 0)⟩,
    ⟨.push, 10, none, .mov (.s 0)⟩,
    ⟨.push, 11, (some ((.s 0), true)), .fldAddr 0 (.v 4)⟩,
    ⟨.push, 12, (some ((.s 1), true)), .load false 1 (.s 0)⟩,
    ⟨.push, 13, (some ((.s 2), true)), .load false 1 (.v 2)⟩,
    ⟨.push, 14, (some ((.s 3), true)), .load false 1 (.v 3)⟩,
    ⟨.push, 15, (some ((.s 4), true)), .call 37 [(.s 2), (.s 1), (.s 0)]⟩,
    ⟨.push, 16, none, .pick (.s 5) (.s 0) (.c (.bool false))⟩,
    ⟨.var 5, 5, none, .mov (.s 0)⟩])
 (.ret)), [.t 5]⟩
noncomputable def t_impl_SumOfWhat_c1 : List (Nat × Ctr) := [(37, c_impl_in)]
theorem lk_impl_SumOfWhat_c1_37 : look t_impl_SumOfWhat_c1 37 = some c_impl_in := rfl
noncomputable def c_impl_SumOfWhat_c1 : Ctr := mkF t_impl_SumOfWhat_c1 ir40 [.bor, .bor, .bor, .bor]
theorem s_impl_SumOfWhat_c1 : Sound Tryd.prog 40 c_impl_SumOfWhat_c1 := mkF_sound _ rfl (snd_cons s_impl_in snd_nil) (by kernel_rfl : chkFn Tryd.prog 40 ir40 ir40_v = true)
theorem M_impl_SumOfWhat_c1 : c_impl_SumOfWhat_c1.modes = [.bor, .bor, .bor, .bor] := rfl
theorem Fl_impl_SumOfWhat_c1 : c_impl_SumOfWhat_c1.flat = true := rfl
attribute [go_sem] M_impl_SumOfWhat_c1 Fl_impl_SumOfWhat_c1
attribute [go_sem] lk_impl_SumOfWhat_c1_37
theorem Fs_impl_SumOfWhat_c1 {e_ : Entry} {t1 : List UInt8} {t2 : Int} {t3 : Int} {y_ : Bool} (h : impl_SumOfWhat_c1 e_ t1 t2 t3 = some y_) : c_impl_SumOfWhat_c1.F [Entry_av e_, .ptr 1 [.str t1] 0 0, .ptr 1 [.int .i64 t2] 0 0, .ptr 1 [.int .i64 t3] 0 0] = ⟨true, .bool y_, [.any, .any, .any, .any]⟩ := by
  refine mkF_E rfl ?_
  dsimp only [impl_SumOfWhat_c1] at h
  obtain ⟨hk1, h⟩ := ck_some h
  rcases or_split hk1 with ⟨ghk1, hk1⟩ | ghk1
  · try simp only [go_sem, n1, n2, n3, n4] at ghk1
    all_goals
    obtain ⟨y_1, hhk1⟩ := Option.isSome_iff_exists.1 hk1
    have fhk1 := Fs_impl_in hhk1
    try simp only [go_sem, ghk1] at fhk1
    obtain rfl := so_some h
    refine ⟨0, fun L hL => ?_⟩
    simp only [go_sem, ir40, ghk1, hhk1, fhk1]
  · try simp only [go_sem, n1, n2, n3, n4] at ghk1
    all_goals
    obtain rfl := so_some h
    refine ⟨0, fun L hL => ?_⟩
    simp only [go_sem, ir40, ghk1]


def ir39_b0 : IR := .seq (.region false [
    ⟨.var 8, 12, none, .bin false .lss (.v 7) (.v 6)⟩])
 (.seq (.cond (.v 8) (.skip)
  (.exit 0))
 (.seq (.block 1 (.seq (.region false [
      ⟨.push, 13, none, .ixAddr 3 (.v 5) (.v 7)⟩,
      ⟨.push, 14, none, .load true 3 (.s 0)⟩,
      ⟨.var 4, 7, none, .alloc (.agg [.int .i64 (0), .str [], .int .i64 (0)])⟩,
      ⟨.no, 0, none, .store 3 (.v 4) (.s 0)⟩])
   (.test false [
     ⟨.push, 15, none, .mov (.v 1)⟩,
     ⟨.push, 16, none, .load true 3 (.v 4)⟩,
     ⟨.push, 17, none, .callv (.s 1) [(.s 0)]⟩] (.s 0)
   (.region false [
      ⟨.push, 18, none, .mov (.v 3)⟩,
      ⟨.push, 19, none, .fldAddr 2 (.v 4)⟩,
      ⟨.push, 20, none, .load false 1 (.s 0)⟩,
      ⟨.push, 21, none, .mkSl 1 (.int .i64 (0)) 1 [(0, (.s 0))]⟩,
      ⟨.push, 22, none, .app 1 8 (.int .i64 (0)) (.s 3) (.s 0)⟩,
      ⟨.var 3, 5, none, .mov (.s 0)⟩])
   (.skip))))
 (.region false [
   ⟨.push, 23, none, .bin false .add (.v 7) (.c (.int .i64 (1)))⟩,
   ⟨.var 7, 11, none, .mov (.s 0)⟩])))
def ir39_k0 : List Bool := [false, true, false, true, false, true, true, true, false]
def ir39_o0 : List Bool := [false, false, false, true, false, false, false, false, false]
def ir39_r0 : List Bool := [false, false, true, false, false, false, false, false, false]
def ir39_v : List Nat := [0, 1, 4, 5, 7, 9, 10, 11, 12]
def ir39 : AFn := ⟨2, 9, .seq (.region false [
    ⟨.var 2, 4, none, .newnil 1⟩])
 (.seq (.region false [
    ⟨.push, 8, none, .mkSl 1 (.int .i64 (0)) 0 []⟩,
    ⟨.var 3, 5, none, .mov (.s 0)⟩])
 (.seq (.seq (.region false [
     ⟨.var 5, 9, none, .mov (.v 0)⟩,
     ⟨.var 6, 10, none, .len false (.v 5)⟩,
     ⟨.var 7, 11, none, .mov (.c (.int .i64 (0)))⟩])
  (.block 0 (.loop ir39_k0 ir39_o0 ir39_r0 ir39_b0)))
 (.seq (.region false [
    ⟨.push, 24, none, .mov (.v 3)⟩,
    ⟨.var 2, 4, none, .mov (.s 0)⟩])
 (.ret)))), [.t 2]⟩
noncomputable def t_impl_valuesOf__impl_SumOfWhat_c1 : List (Nat × Ctr) := [(40, c_impl_SumOfWhat_c1)]
theorem lk_impl_valuesOf__impl_SumOfWhat_c1_40 : look t_impl_valuesOf__impl_SumOfWhat_c1 40 = some c_impl_SumOfWhat_c1 := rfl
noncomputable def c_impl_valuesOf__impl_SumOfWhat_c1 : Ctr := mkF t_impl_valuesOf__impl_SumOfWhat_c1 ir39 [.bor, .bor]
theorem s_impl_valuesOf__impl_SumOfWhat_c1 : Sound Tryd.prog 39 c_impl_valuesOf__impl_SumOfWhat_c1 := mkF_sound _ rfl (snd_cons s_impl_SumOfWhat_c1 snd_nil) (by kernel_rfl : chkFn Tryd.prog 39 ir39 ir39_v = true)
theorem M_impl_valuesOf__impl_SumOfWhat_c1 : c_impl_valuesOf__impl_SumOfWhat_c1.modes = [.bor, .bor] := rfl
theorem Fl_impl_valuesOf__impl_SumOfWhat_c1 : c_impl_valuesOf__impl_SumOfWhat_c1.flat = true := rfl
attribute [go_sem] M_impl_valuesOf__impl_SumOfWhat_c1 Fl_impl_valuesOf__impl_SumOfWhat_c1
attribute [go_sem] lk_impl_valuesOf__impl_SumOfWhat_c1_40
def E_impl_valuesOf__impl_SumOfWhat_c1_l1 (c : List UInt8) (c2 : Int) (c3 : Int) (t9 : List Entry) (t10 : Int) : ((List Int) × Int) → St
  | (out, t11) => ⟨[.any, .fn (.func 40) [] [.ptr 1 [.str c] 0 0, .ptr 1 [.int .i64 c2] 0 0, .ptr 1 [.int .i64 c3] 0 0], .any, .own 3200000, .any, .sl 3 (List.map Entry_av t9), .int .i64 t10, .int .i64 t11, .any], [], [(3200000, ⟨1, List.map (AV.int .i64) out⟩)], true⟩
def R_impl_valuesOf__impl_SumOfWhat_c1_l1 (c : List UInt8) (c2 : Int) (c3 : Int) (t9 : List Entry) (t10 : Int) (y : (List Int)) : Res := (.exit 0, ⟨[.any, .any, .any, .own 3200000, .any, .any, .any, .any, .any], [], [(3200000, ⟨1, List.map (AV.int .i64) y⟩)], true⟩)
theorem impl_valuesOf__impl_SumOfWhat_c1_l1_ex {c : List UInt8} {c2 : Int} {c3 : Int} {t9 : List Entry} {t10 : Int} {sgm_ : (List Int) × Int} {rho_ : (List Int)} (h : whileE (impl_valuesOf__impl_SumOfWhat_c1_l1 c c2 c3 t9 t10) sgm_ = some rho_) : ∃ L0, ∀ L, L0 ≤ L → iter (exec (look t_impl_valuesOf__impl_SumOfWhat_c1) L ir39_b0) ir39_k0 ir39_o0 ir39_r0 L (E_impl_valuesOf__impl_SumOfWhat_c1_l1 c c2 c3 t9 t10 sgm_) = R_impl_valuesOf__impl_SumOfWhat_c1_l1 c c2 c3 t9 t10 rho_ := by
  refine loop_ex (E := E_impl_valuesOf__impl_SumOfWhat_c1_l1 c c2 c3 t9 t10) (R := R_impl_valuesOf__impl_SumOfWhat_c1_l1 c c2 c3 t9 t10) (fun y => by first | (intro c; cases c) | (rcases y with y | y <;> (intro c; cases c)) | (rcases y with y | y | y <;> (intro c; cases c))) ?_ h
  clear h
  rintro ⟨out, t11⟩ o_ h
  dsimp only [impl_valuesOf__impl_SumOfWhat_c1_l1] at h
  rcases it_some h with ⟨hk1, h⟩ | ⟨hk1, h⟩
  · try simp only [go_sem, n1, n2, n3, n4] at hk1
    all_goals
    obtain ⟨hk2, h⟩ := ck_some h
    have lhk2 := ix_lt hk2
    have xhk2 := getD_mapD Entry_av t9 lhk2
    try simp only [go_sem] at lhk2
    try simp only [go_sem] at xhk2
    try simp only [go_sem, n1, n2, n3, n4, hk1] at hk2
    all_goals
    obtain ⟨y_3, hk3, h⟩ := bd_some h
    have fhk3 := Fs_impl_SumOfWhat_c1 hk3
    try simp only [go_sem, hk1, hk2] at fhk3
    rcases it_some h with ⟨hk4, h⟩ | ⟨hk4, h⟩
    · try simp only [go_sem, n1, n2, n3, n4, hk1, hk2] at hk4
      all_goals
      obtain ⟨hk5, h⟩ := ck_some h
      try simp only [go_sem, n1, n2, n3, n4, hk1, hk2, hk4] at hk5
      all_goals
      obtain rfl := so_some h
      refine ⟨0, fun L hL => ?_⟩
      simp only [go_sem, ir39, E_impl_valuesOf__impl_SumOfWhat_c1_l1, R_impl_valuesOf__impl_SumOfWhat_c1_l1, ir39_b0, ir39_k0, ir39_o0, ir39_r0, hk1, hk2, lhk2, xhk2, fhk3, hk4, hk5]
    · try simp only [go_sem, n1, n2, n3, n4, hk1, hk2] at hk4
      all_goals
      obtain rfl := so_some h
      refine ⟨0, fun L hL => ?_⟩
      simp only [go_sem, ir39, E_impl_valuesOf__impl_SumOfWhat_c1_l1, R_impl_valuesOf__impl_SumOfWhat_c1_l1, ir39_b0, ir39_k0, ir39_o0, ir39_r0, hk1, hk2, lhk2, xhk2, fhk3, hk4]
  · try simp only [go_sem, n1, n2, n3, n4] at hk1
    all_goals
    obtain rfl := so_some h
    refine ⟨0, fun L hL => ?_⟩
    simp only [go_sem, ir39, E_impl_valuesOf__impl_SumOfWhat_c1_l1, R_impl_valuesOf__impl_SumOfWhat_c1_l1, ir39_b0, ir39_k0, ir39_o0, ir39_r0, hk1]

theorem Fs_impl_valuesOf__impl_SumOfWhat_c1 {entries : List Entry} {wanted_c0 : List UInt8} {wanted_c1 : Int} {wanted_c2 : Int} {y_ : (List Int)} (h : impl_valuesOf__impl_SumOfWhat_c1 entries wanted_c0 wanted_c1 wanted_c2 = some y_) : c_impl_valuesOf__impl_SumOfWhat_c1.F [.sl 3 (List.map Entry_av entries), .fn (.func 40) [] [.ptr 1 [.str wanted_c0] 0 0, .ptr 1 [.int .i64 wanted_c1] 0 0, .ptr 1 [.int .i64 wanted_c2] 0 0]] = ⟨true, .fresh 1 (List.map (AV.int .i64) y_), [.any, .any]⟩ := by
  refine mkF_E (by simp only [flatA, flatB, flat1, List.all_cons, List.all_nil, Bool.and_self, flatE_map (f := (AV.int .i64)) (fun _ => rfl)]) ?_
  dsimp only [impl_valuesOf__impl_SumOfWhat_c1] at h
  obtain ⟨y_6, hk6, h⟩ := bd_some h
  obtain ⟨Lhk6, ehk6⟩ := impl_valuesOf__impl_SumOfWhat_c1_l1_ex hk6
  obtain rfl := so_some h
  refine ⟨Lhk6, fun L hL => ?_⟩
  have ehk6 := ehk6 L (by omega)
  try simp only [go_sem, E_impl_valuesOf__impl_SumOfWhat_c1_l1, R_impl_valuesOf__impl_SumOfWhat_c1_l1, ir39_k0, ir39_o0, ir39_r0] at ehk6
  simp only [go_sem, ir39, E_impl_valuesOf__impl_SumOfWhat_c1_l1, R_impl_valuesOf__impl_SumOfWhat_c1_l1, ir39_k0, ir39_o0, ir39_r0, ehk6]


def ir38_b0 : IR := .seq (.region false [
    ⟨.var 7, 9, none, .bin false .lss (.v 6) (.v 5)⟩])
 (.seq (.cond (.v 7) (.skip)
  (.exit 0))
 (.seq (.block 1 (.seq (.region false [
      ⟨.push, 10, none, .ixAddr 1 (.v 4) (.v 6)⟩,
      ⟨.push, 11, none, .load false 1 (.s 0)⟩,
      ⟨.var 3, 5, none, .mov (.s 0)⟩])
   (.region false [
     ⟨.push, 12, none, .mov (.v 2)⟩,
     ⟨.push, 13, none, .mov (.v 3)⟩,
     ⟨.push, 14, none, .bin false .add (.s 1) (.s 0)⟩,
     ⟨.var 2, 3, none, .mov (.s 0)⟩])))
 (.region false [
   ⟨.push, 15, none, .bin false .add (.v 6) (.c (.int .i64 (1)))⟩,
   ⟨.var 6, 8, none, .mov (.s 0)⟩])))
def ir38_k0 : List Bool := [false, false, true, false, true, true, true, false]
def ir38_o0 : List Bool := [false, false, true, false, false, false, false, false]
def ir38_r0 : List Bool := [false, true, false, false, false, false, false, false]
def ir38_v : List Nat := [0, 2, 3, 5, 6, 7, 8, 9]
def ir38 : AFn := ⟨1, 8, .seq (.region false [
    ⟨.var 1, 2, none, .mov (.c (.int .i64 (0)))⟩])
 (.seq (.region false [
    ⟨.var 2, 3, none, .mov (.c (.int .i64 (0)))⟩])
 (.seq (.seq (.region false [
     ⟨.var 4, 6, none, .mov (.v 0)⟩,
     ⟨.var 5, 7, none, .len false (.v 4)⟩,
     ⟨.var 6, 8, none, .mov (.c (.int .i64 (0)))⟩])
  (.block 0 (.loop ir38_k0 ir38_o0 ir38_r0 ir38_b0)))
 (.seq (.region false [
    ⟨.push, 16, none, .mov (.v 2)⟩,
    ⟨.var 1, 2, none, .mov (.s 0)⟩])
 (.ret)))), [.t 1]⟩
noncomputable def t_impl_sum : List (Nat × Ctr) := []
noncomputable def c_impl_sum : Ctr := mkF t_impl_sum ir38 [.bor]
theorem s_impl_sum : Sound Tryd.prog 38 c_impl_sum := mkF_sound _ rfl snd_nil (by kernel_rfl : chkFn Tryd.prog 38 ir38 ir38_v = true)
theorem M_impl_sum : c_impl_sum.modes = [.bor] := rfl
theorem Fl_impl_sum : c_impl_sum.flat = true := rfl
attribute [go_sem] M_impl_sum Fl_impl_sum
def E_impl_sum_l1 (t6 : List Int) (t7 : Int) : (Int × Int) → St
  | (n, t8) => ⟨[.any, .any, .int .i64 n, .any, .sl 1 (List.map (AV.int .i64) t6), .int .i64 t7, .int .i64 t8, .any], [], [], true⟩
def R_impl_sum_l1 (t6 : List Int) (t7 : Int) (y : Int) : Res := (.exit 0, ⟨[.any, .any, .int .i64 y, .any, .any, .any, .any, .any], [], [], true⟩)
theorem impl_sum_l1_ex {t6 : List Int} {t7 : Int} {sgm_ : Int × Int} {rho_ : Int} (h : whileE (impl_sum_l1 t6 t7) sgm_ = some rho_) : ∃ L0, ∀ L, L0 ≤ L → iter (exec (look t_impl_sum) L ir38_b0) ir38_k0 ir38_o0 ir38_r0 L (E_impl_sum_l1 t6 t7 sgm_) = R_impl_sum_l1 t6 t7 rho_ := by
  refine loop_ex (E := E_impl_sum_l1 t6 t7) (R := R_impl_sum_l1 t6 t7) (fun y => by first | (intro c; cases c) | (rcases y with y | y <;> (intro c; cases c)) | (rcases y with y | y | y <;> (intro c; cases c))) ?_ h
  clear h
  rintro ⟨n, t8⟩ o_ h
  dsimp only [impl_sum_l1] at h
  rcases it_some h with ⟨hk1, h⟩ | ⟨hk1, h⟩
  · try simp only [go_sem, n1, n2, n3, n4] at hk1
    all_goals
    obtain ⟨hk2, h⟩ := ck_some h
    have lhk2 := ix_lt hk2
    have xhk2 := getD_mapD (AV.int .i64) t6 lhk2
    try simp only [go_sem] at lhk2
    try simp only [go_sem] at xhk2
    try simp only [go_sem, n1, n2, n3, n4, hk1] at hk2
    all_goals
    obtain rfl := so_some h
    refine ⟨0, fun L hL => ?_⟩
    simp only [go_sem, ir38, E_impl_sum_l1, R_impl_sum_l1, ir38_b0, ir38_k0, ir38_o0, ir38_r0, hk1, hk2, lhk2, xhk2]
  · try simp only [go_sem, n1, n2, n3, n4] at hk1
    all_goals
    obtain rfl := so_some h
    refine ⟨0, fun L hL => ?_⟩
    simp only [go_sem, ir38, E_impl_sum_l1, R_impl_sum_l1, ir38_b0, ir38_k0, ir38_o0, ir38_r0, hk1]

theorem Fs_impl_sum {list : List Int} {y_ : Int} (h : impl_sum list = some y_) : c_impl_sum.F [.sl 1 (List.map (AV.int .i64) list)] = ⟨true, .int .i64 y_, [.any]⟩ := by
  refine mkF_E rfl ?_
  dsimp only [impl_sum] at h
  obtain ⟨y_3, hk3, h⟩ := bd_some h
  obtain ⟨Lhk3, ehk3⟩ := impl_sum_l1_ex hk3
  obtain rfl := so_some h
  refine ⟨Lhk3, fun L hL => ?_⟩
  have ehk3 := ehk3 L (by omega)
  try simp only [go_sem, E_impl_sum_l1, R_impl_sum_l1, ir38_k0, ir38_o0, ir38_r0] at ehk3
  simp only [go_sem, ir38, E_impl_sum_l1, R_impl_sum_l1, ir38_k0, ir38_o0, ir38_r0, ehk3]


def ir13_v : List Nat := [0, 1, 2, 3, 5, 6, 7, 8, 9, 10, 11]
def ir13 : AFn := ⟨4, 11, .seq (.region false [
    ⟨.var 4, 5, none, .box (.v 1)⟩,
    ⟨.var 5, 6, none, .box (.v 2)⟩,
    ⟨.var 6, 7, none, .box (.v 3)⟩,
    ⟨.var 7, 8, none, .mov (.c (.int .i64 (0)))⟩,
    ⟨.var 8, 9, none, .mov (.c (.int .i64 (0)))⟩])
 (.seq (.region false [
    ⟨.push, 13, none, .mov (.v 0)⟩,
    ⟨.push, 14, none, .call 34 [(.s 0)]⟩,
    ⟨.push, 12, none, .mov (.s 0)⟩,
    ⟨.push, 15, none, .ext (.s 0) 0⟩,
    ⟨.push, 16, none, .ext (.s 1) 1⟩,
    ⟨.var 9, 10, none, .mov (.s 1)⟩,
    ⟨.var 10, 11, none, .mov (.s 0)⟩])
 (.seq (.block 0 (.test false [
     ⟨.push, 18, none, .mov (.v 10)⟩,
     ⟨.push, 19, none, .bin false .neq (.s 0) (.c (.int .i64 (0)))⟩,
     ⟨.push, 17, none, .mov (.s 0)⟩] (.s 0)
   (.seq (.region false [
       ⟨.push, 20, none, .mov (.v 10)⟩,
       ⟨.var 7, 8, none, .mov (.c (.int .i64 (0)))⟩,
       ⟨.var 8, 9, none, .mov (.s 0)⟩])
    (.ret))
   (.test false [
      ⟨.push, 22, none, .load false 1 (.v 4)⟩,
      ⟨.push, 23, none, .call 36 [(.s 0)]⟩,
      ⟨.push, 24, none, .un .not (.s 0)⟩,
      ⟨.push, 25, none, .mov (.s 0)⟩,
      ⟨.push, 26, (some ((.s 0), false)), .load false 1 (.v 5)⟩,
      ⟨.push, 27, (some ((.s 1), false)), .call 37 [(.s 0), (.c (.int .i64 (0))), (.c (.int .i64 (100000)))]⟩,
      ⟨.push, 28, (some ((.s 2), false)), .un .not (.s 0)⟩,
      ⟨.push, 29, none, .pick (.s 3) (.c (.bool true)) (.s 0)⟩,
      ⟨.push, 30, none, .mov (.s 0)⟩,
      ⟨.push, 31, (some ((.s 0), false)), .load false 1 (.v 6)⟩,
      ⟨.push, 32, (some ((.s 1), false)), .call 37 [(.s 0), (.c (.int .i64 (0))), (.c (.int .i64 (100000)))]⟩,
      ⟨.push, 33, (some ((.s 2), false)), .un .not (.s 0)⟩,
      ⟨.push, 34, none, .pick (.s 3) (.c (.bool true)) (.s 0)⟩,
      ⟨.push, 21, none, .mov (.s 0)⟩] (.s 0)
    (.seq (.region false [
        ⟨.var 7, 8, none, .mov (.c (.int .i64 (0)))⟩,
        ⟨.var 8, 9, none, .mov (.c (.int .i64 (2)))⟩])
     (.ret))
    (.skip))))
 (.seq (.region false [
    ⟨.push, 35, none, .mov (.v 9)⟩,
    ⟨.push, 36, none, .mkFn (.func 40) [] [(.v 4), (.v 5), (.v 6)]⟩,
    ⟨.push, 37, none, .call 39 [(.s 1), (.s 0)]⟩,
    ⟨.push, 38, none, .call 38 [(.s 0)]⟩,
    ⟨.var 7, 8, none, .mov (.s 0)⟩,
    ⟨.var 8, 9, none, .mov (.c (.int .i64 (0)))⟩])
 (.ret)))), [.t 7, .t 8]⟩
noncomputable def t_impl_SumOfWhat : List (Nat × Ctr) := [(34, c_impl_EntriesOf), (36, c_impl_IsName), (37, c_impl_in), (39, c_impl_valuesOf__impl_SumOfWhat_c1), (38, c_impl_sum)]
theorem lk_impl_SumOfWhat_34 : look t_impl_SumOfWhat 34 = some c_impl_EntriesOf := rfl
theorem lk_impl_SumOfWhat_36 : look t_impl_SumOfWhat 36 = some c_impl_IsName := rfl
theorem lk_impl_SumOfWhat_37 : look t_impl_SumOfWhat 37 = some c_impl_in := rfl
theorem lk_impl_SumOfWhat_39 : look t_impl_SumOfWhat 39 = some c_impl_valuesOf__impl_SumOfWhat_c1 := rfl
theorem lk_impl_SumOfWhat_38 : look t_impl_SumOfWhat 38 = some c_impl_sum := rfl
noncomputable def c_impl_SumOfWhat : Ctr := mkF t_impl_SumOfWhat ir13 [.bor, .bor, .bor, .bor]
theorem s_impl_SumOfWhat : Sound Tryd.prog 13 c_impl_SumOfWhat := mkF_sound _ rfl (snd_cons s_impl_EntriesOf (snd_cons s_impl_IsName (snd_cons s_impl_in (snd_cons s_impl_valuesOf__impl_SumOfWhat_c1 (snd_cons s_impl_sum snd_nil))))) (by kernel_rfl : chkFn Tryd.prog 13 ir13 ir13_v = true)
theorem M_impl_SumOfWhat : c_impl_SumOfWhat.modes = [.bor, .bor, .bor, .bor] := rfl
theorem Fl_impl_SumOfWhat : c_impl_SumOfWhat.flat = true := rfl
attribute [go_sem] M_impl_SumOfWhat Fl_impl_SumOfWhat
attribute [go_sem] lk_impl_SumOfWhat_34 lk_impl_SumOfWhat_36 lk_impl_SumOfWhat_37 lk_impl_SumOfWhat_39 lk_impl_SumOfWhat_38
theorem Fs_impl_SumOfWhat {log : List UInt8} {what : List UInt8} {from_ : Int} {to_ : Int} {y_ : Int × Int} (h : impl_SumOfWhat log what from_ to_ = some y_) : c_impl_SumOfWhat.F [.str log, .str what, .int .i64 from_, .int .i64 to_] = ⟨true, .tup [.int .i64 y_.1, .int .i64 y_.2], [.any, .any, .any, .any]⟩ := by
  refine mkF_E rfl ?_
  dsimp only [impl_SumOfWhat] at h
  obtain ⟨y_1, hk1, h⟩ := bd_some h
  have fhk1 := Fs_impl_EntriesOf hk1
  try simp only [go_sem] at fhk1
  rcases it_some h with ⟨hk2, h⟩ | ⟨hk2, h⟩
  · try simp only [go_sem, n1, n2, n3, n4] at hk2
    all_goals
    obtain rfl := so_some h
    refine ⟨0, fun L hL => ?_⟩
    simp only [go_sem, ir13, fhk1, hk2]
  · try simp only [go_sem, n1, n2, n3, n4] at hk2
    all_goals
    obtain ⟨y_3, hk3, h⟩ := bd_some h
    have fhk3 := Fs_impl_IsName hk3
    try simp only [go_sem, hk2] at fhk3
    obtain ⟨hk4, h⟩ := ck_some h
    rcases or_split hk4 with ⟨ghk4, hk4⟩ | ghk4
    · try simp only [go_sem, n1, n2, n3, n4, hk2] at ghk4
      all_goals
      obtain ⟨y_4, hhk4⟩ := Option.isSome_iff_exists.1 hk4
      have fhk4 := Fs_impl_in hhk4
      try simp only [go_sem, hk2, ghk4] at fhk4
      obtain ⟨hk5, h⟩ := ck_some h
      rcases or_split hk5 with ⟨ghk5, hk5⟩ | ghk5
      · try simp only [go_sem, n1, n2, n3, n4, hk2, ghk4, hhk4] at ghk5
        all_goals
        obtain ⟨y_5, hhk5⟩ := Option.isSome_iff_exists.1 hk5
        have fhk5 := Fs_impl_in hhk5
        try simp only [go_sem, hk2, ghk4, hhk4, ghk5] at fhk5
        rcases it_some h with ⟨hk6, h⟩ | ⟨hk6, h⟩
        · try simp only [go_sem, n1, n2, n3, n4, hk2, ghk4, hhk4, ghk5, hhk5] at hk6
          all_goals
          obtain rfl := so_some h
          refine ⟨0, fun L hL => ?_⟩
          simp only [go_sem, ir13, fhk1, hk2, fhk3, ghk4, hhk4, fhk4, ghk5, hhk5, fhk5, hk6]
        · try simp only [go_sem, n1, n2, n3, n4, hk2, ghk4, hhk4, ghk5, hhk5] at hk6
          all_goals
          obtain ⟨y_7, hk7, h⟩ := bd_some h
          have fhk7 := Fs_impl_valuesOf__impl_SumOfWhat_c1 hk7
          try simp only [go_sem, hk2, ghk4, hhk4, ghk5, hhk5, hk6] at fhk7
          obtain ⟨y_8, hk8, h⟩ := bd_some h
          have fhk8 := Fs_impl_sum hk8
          try simp only [go_sem, hk2, ghk4, hhk4, ghk5, hhk5, hk6] at fhk8
          obtain rfl := so_some h
          refine ⟨0, fun L hL => ?_⟩
          simp only [go_sem, ir13, fhk1, hk2, fhk3, ghk4, hhk4, fhk4, ghk5, hhk5, fhk5, hk6, fhk7, fhk8]
      · have ghk5n := no_f ghk5
        rcases or_t ghk5n with ghk5na | ⟨ghk5na, ghk5nb⟩
        · have ghk5nan := no_t ghk5na
          try simp only [go_sem, n1, n2, n3, n4, hk2, ghk4, hhk4] at ghk5nan
          all_goals
          rcases it_some h with ⟨hk6, h⟩ | ⟨hk6, h⟩
          · try simp only [go_sem, n1, n2, n3, n4, hk2, ghk4, hhk4, ghk5nan] at hk6
            all_goals
            obtain rfl := so_some h
            refine ⟨0, fun L hL => ?_⟩
            simp only [go_sem, ir13, fhk1, hk2, fhk3, ghk4, hhk4, fhk4, ghk5nan, hk6]
          · try simp only [go_sem, n1, n2, n3, n4, hk2, ghk4, hhk4, ghk5nan] at hk6
            all_goals
            obtain ⟨y_7, hk7, h⟩ := bd_some h
            have fhk7 := Fs_impl_valuesOf__impl_SumOfWhat_c1 hk7
            try simp only [go_sem, hk2, ghk4, hhk4, ghk5nan, hk6] at fhk7
            obtain ⟨y_8, hk8, h⟩ := bd_some h
            have fhk8 := Fs_impl_sum hk8
            try simp only [go_sem, hk2, ghk4, hhk4, ghk5nan, hk6] at fhk8
            obtain rfl := so_some h
            refine ⟨0, fun L hL => ?_⟩
            simp only [go_sem, ir13, fhk1, hk2, fhk3, ghk4, hhk4, fhk4, ghk5nan, hk6, fhk7, fhk8]
        · have ghk5nan := no_f ghk5na
          have ghk5nbn := no_t ghk5nb
          try simp only [go_sem, n1, n2, n3, n4, hk2, ghk4, hhk4] at ghk5nan
          all_goals
          try simp only [go_sem, n1, n2, n3, n4, hk2, ghk4, hhk4, ghk5nan] at ghk5nbn
          all_goals
          rcases it_some h with ⟨hk6, h⟩ | ⟨hk6, h⟩
          · try simp only [go_sem, n1, n2, n3, n4, hk2, ghk4, hhk4, ghk5nan, ghk5nbn] at hk6
            all_goals
            obtain rfl := so_some h
            refine ⟨0, fun L hL => ?_⟩
            simp only [go_sem, ir13, fhk1, hk2, fhk3, ghk4, hhk4, fhk4, ghk5nan, ghk5nbn, hk6]
          · try simp only [go_sem, n1, n2, n3, n4, hk2, ghk4, hhk4, ghk5nan, ghk5nbn] at hk6
            all_goals
            obtain ⟨y_7, hk7, h⟩ := bd_some h
            have fhk7 := Fs_impl_valuesOf__impl_SumOfWhat_c1 hk7
            try simp only [go_sem, hk2, ghk4, hhk4, ghk5nan, ghk5nbn, hk6] at fhk7
            obtain ⟨y_8, hk8, h⟩ := bd_some h
            have fhk8 := Fs_impl_sum hk8
            try simp only [go_sem, hk2, ghk4, hhk4, ghk5nan, ghk5nbn, hk6] at fhk8
            obtain rfl := so_some h
            refine ⟨0, fun L hL => ?_⟩
            simp only [go_sem, ir13, fhk1, hk2, fhk3, ghk4, hhk4, fhk4, ghk5nan, ghk5nbn, hk6, fhk7, fhk8]
    · have ghk4n := no_f ghk4
      have ghk4nn := no_t ghk4n
      try simp only [go_sem, n1, n2, n3, n4, hk2] at ghk4nn
      all_goals
      obtain ⟨hk5, h⟩ := ck_some h
      rcases or_split hk5 with ⟨ghk5, hk5⟩ | ghk5
      · try simp only [go_sem, n1, n2, n3, n4, hk2, ghk4nn] at ghk5
        all_goals
        obtain ⟨y_5, hhk5⟩ := Option.isSome_iff_exists.1 hk5
        have fhk5 := Fs_impl_in hhk5
        try simp only [go_sem, hk2, ghk4nn, ghk5] at fhk5
        rcases it_some h with ⟨hk6, h⟩ | ⟨hk6, h⟩
        · try simp only [go_sem, n1, n2, n3, n4, hk2, ghk4nn, ghk5, hhk5] at hk6
          all_goals
          obtain rfl := so_some h
          refine ⟨0, fun L hL => ?_⟩
          simp only [go_sem, ir13, fhk1, hk2, fhk3, ghk4nn, ghk5, hhk5, fhk5, hk6]
        · try simp only [go_sem, n1, n2, n3, n4, hk2, ghk4nn, ghk5, hhk5] at hk6
          all_goals
          obtain ⟨y_7, hk7, h⟩ := bd_some h
          have fhk7 := Fs_impl_valuesOf__impl_SumOfWhat_c1 hk7
          try simp only [go_sem, hk2, ghk4nn, ghk5, hhk5, hk6] at fhk7
          obtain ⟨y_8, hk8, h⟩ := bd_some h
          have fhk8 := Fs_impl_sum hk8
          try simp only [go_sem, hk2, ghk4nn, ghk5, hhk5, hk6] at fhk8
          obtain rfl := so_some h
          refine ⟨0, fun L hL => ?_⟩
          simp only [go_sem, ir13, fhk1, hk2, fhk3, ghk4nn, ghk5, hhk5, fhk5, hk6, fhk7, fhk8]
      · have ghk5n := no_f ghk5
        rcases or_t ghk5n with ghk5na | ⟨ghk5na, ghk5nb⟩
        · have ghk5nan := no_t ghk5na
          try simp only [go_sem, n1, n2, n3, n4, hk2, ghk4nn] at ghk5nan
          all_goals
          rcases it_some h with ⟨hk6, h⟩ | ⟨hk6, h⟩
          · try simp only [go_sem, n1, n2, n3, n4, hk2, ghk4nn, ghk5nan] at hk6
            all_goals
            obtain rfl := so_some h
            refine ⟨0, fun L hL => ?_⟩
            simp only [go_sem, ir13, fhk1, hk2, fhk3, ghk4nn, ghk5nan, hk6]
          · try simp only [go_sem, n1, n2, n3, n4, hk2, ghk4nn, ghk5nan] at hk6
            all_goals
            obtain ⟨y_7, hk7, h⟩ := bd_some h
            have fhk7 := Fs_impl_valuesOf__impl_SumOfWhat_c1 hk7
            try simp only [go_sem, hk2, ghk4nn, ghk5nan, hk6] at fhk7
            obtain ⟨y_8, hk8, h⟩ := bd_some h
            have fhk8 := Fs_impl_sum hk8
            try simp only [go_sem, hk2, ghk4nn, ghk5nan, hk6] at fhk8
            obtain rfl := so_some h
            refine ⟨0, fun L hL => ?_⟩
            simp only [go_sem, ir13, fhk1, hk2, fhk3, ghk4nn, ghk5nan, hk6, fhk7, fhk8]
        · have ghk5nan := no_f ghk5na
          have ghk5nbn := no_t ghk5nb
          try simp only [go_sem, n1, n2, n3, n4, hk2, ghk4nn] at ghk5nan
          all_goals
          try simp only [go_sem, n1, n2, n3, n4, hk2, ghk4nn, ghk5nan] at ghk5nbn
          all_goals
          rcases it_some h with ⟨hk6, h⟩ | ⟨hk6, h⟩
          · try simp only [go_sem, n1, n2, n3, n4, hk2, ghk4nn, ghk5nan, ghk5nbn] at hk6
            all_goals
            obtain rfl := so_some h
            refine ⟨0, fun L hL => ?_⟩
            simp only [go_sem, ir13, fhk1, hk2, fhk3, ghk4nn, ghk5nan, ghk5nbn, hk6]
          · try simp only [go_sem, n1, n2, n3, n4, hk2, ghk4nn, ghk5nan, ghk5nbn] at hk6
            all_goals
            obtain ⟨y_7, hk7, h⟩ := bd_some h
            have fhk7 := Fs_impl_valuesOf__impl_SumOfWhat_c1 hk7
            try simp only [go_sem, hk2, ghk4nn, ghk5nan, ghk5nbn, hk6] at fhk7
            obtain ⟨y_8, hk8, h⟩ := bd_some h
            have fhk8 := Fs_impl_sum hk8
            try simp only [go_sem, hk2, ghk4nn, ghk5nan, ghk5nbn, hk6] at fhk8
            obtain rfl := so_some h
            refine ⟨0, fun L hL => ?_⟩
            simp only [go_sem, ir13, fhk1, hk2, fhk3, ghk4nn, ghk5nan, ghk5nbn, hk6, fhk7, fhk8]


def ir41_v : List Nat := [0, 1, 2, 3]
def ir41 : AFn := ⟨2, 4, .seq (.region false [
    ⟨.var 2, 2, none, .box (.v 0)⟩,
    ⟨.var 3, 3, none, .mov (.c (.bool false))⟩])
 (.seq (.region false [
    ⟨.push, 4, none, .fldAddr 1 (.v 2)⟩,
    ⟨.push, 5, none, .load false 1 (.s 0)⟩,
    ⟨.push, 6, none, .load false 1 (.v 1)⟩,
    ⟨.push, 7, none, .bin false .eql (.s 1) (.s 0)⟩,
    ⟨.var 3, 3, none, .mov (.s 0)⟩])
 (.ret)), [.t 3]⟩
noncomputable def t_impl_ValuesOf_c1 : List (Nat × Ctr) := []
noncomputable def c_impl_ValuesOf_c1 : Ctr := mkF t_impl_ValuesOf_c1 ir41 [.bor, .bor]
theorem s_impl_ValuesOf_c1 : Sound Tryd.prog 41 c_impl_ValuesOf_c1 := mkF_sound _ rfl snd_nil (by kernel_rfl : chkFn Tryd.prog 41 ir41 ir41_v = true)
theorem M_impl_ValuesOf_c1 : c_impl_ValuesOf_c1.modes = [.bor, .bor] := rfl
theorem Fl_impl_ValuesOf_c1 : c_impl_ValuesOf_c1.flat = true := rfl
attribute [go_sem] M_impl_ValuesOf_c1 Fl_impl_ValuesOf_c1
theorem Fs_impl_ValuesOf_c1 {e_ : Entry} {t1 : List UInt8} {y_ : Bool} (h : impl_ValuesOf_c1 e_ t1 = some y_) : c_impl_ValuesOf_c1.F [Entry_av e_, .ptr 1 [.str t1] 0 0] = ⟨true, .bool y_, [.any, .any]⟩ := by
  refine mkF_E rfl ?_
  dsimp only [impl_ValuesOf_c1] at h
  obtain rfl := so_some h
  refine ⟨0, fun L hL => ?_⟩
  simp only [go_sem, ir41]


noncomputable def t_impl_valuesOf__impl_ValuesOf_c1 : List (Nat × Ctr) := [(41, c_impl_ValuesOf_c1)]
theorem lk_impl_valuesOf__impl_ValuesOf_c1_41 : look t_impl_valuesOf__impl_ValuesOf_c1 41 = some c_impl_ValuesOf_c1 := rfl
noncomputable def c_impl_valuesOf__impl_ValuesOf_c1 : Ctr := mkF t_impl_valuesOf__impl_ValuesOf_c1 ir39 [.bor, .bor]
theorem s_impl_valuesOf__impl_ValuesOf_c1 : Sound Tryd.prog 39 c_impl_valuesOf__impl_ValuesOf_c1 := mkF_sound _ rfl (snd_cons s_impl_ValuesOf_c1 snd_nil) (by kernel_rfl : chkFn Tryd.prog 39 ir39 ir39_v = true)
theorem M_impl_valuesOf__impl_ValuesOf_c1 : c_impl_valuesOf__impl_ValuesOf_c1.modes = [.bor, .bor] := rfl
theorem Fl_impl_valuesOf__impl_ValuesOf_c1 : c_impl_valuesOf__impl_ValuesOf_c1.flat = true := rfl
attribute [go_sem] M_impl_valuesOf__impl_ValuesOf_c1 Fl_impl_valuesOf__impl_ValuesOf_c1
attribute [go_sem] lk_impl_valuesOf__impl_ValuesOf_c1_41
def E_impl_valuesOf__impl_ValuesOf_c1_l1 (c : List UInt8) (t9 : List Entry) (t10 : Int) : ((List Int) × Int) → St
  | (out, t11) => ⟨[.any, .fn (.func 41) [] [.ptr 1 [.str c] 0 0], .any, .own 3200000, .any, .sl 3 (List.map Entry_av t9), .int .i64 t10, .int .i64 t11, .any], [], [(3200000, ⟨1, List.map (AV.int .i64) out⟩)], true⟩
def R_impl_valuesOf__impl_ValuesOf_c1_l1 (c : List UInt8) (t9 : List Entry) (t10 : Int) (y : (List Int)) : Res := (.exit 0, ⟨[.any, .any, .any, .own 3200000, .any, .any, .any, .any, .any], [], [(3200000, ⟨1, List.map (AV.int .i64) y⟩)], true⟩)
theorem impl_valuesOf__impl_ValuesOf_c1_l1_ex {c : List UInt8} {t9 : List Entry} {t10 : Int} {sgm_ : (List Int) × Int} {rho_ : (List Int)} (h : whileE (impl_valuesOf__impl_ValuesOf_c1_l1 c t9 t10) sgm_ = some rho_) : ∃ L0, ∀ L, L0 ≤ L → iter (exec (look t_impl_valuesOf__impl_ValuesOf_c1) L ir39_b0) ir39_k0 ir39_o0 ir39_r0 L (E_impl_valuesOf__impl_ValuesOf_c1_l1 c t9 t10 sgm_) = R_impl_valuesOf__impl_ValuesOf_c1_l1 c t9 t10 rho_ := by
  refine loop_ex (E := E_impl_valuesOf__impl_ValuesOf_c1_l1 c t9 t10) (R := R_impl_valuesOf__impl_ValuesOf_c1_l1 c t9 t10) (fun y => by first | (intro c; cases c) | (rcases y with y | y <;> (intro c; cases c)) | (rcases y with y | y | y <;> (intro c; cases c))) ?_ h
  clear h
  rintro ⟨out, t11⟩ o_ h
  dsimp only [impl_valuesOf__impl_ValuesOf_c1_l1] at h
  rcases it_some h with ⟨hk1, h⟩ | ⟨hk1, h⟩
  · try simp only [go_sem, n1, n2, n3, n4] at hk1
    all_goals
    obtain ⟨hk2, h⟩ := ck_some h
    have lhk2 := ix_lt hk2
    have xhk2 := getD_mapD Entry_av t9 lhk2
    try simp only [go_sem] at lhk2
    try simp only [go_sem] at xhk2
    try simp only [go_sem, n1, n2, n3, n4, hk1] at hk2
    all_goals
    obtain ⟨y_3, hk3, h⟩ := bd_some h
    have fhk3 := Fs_impl_ValuesOf_c1 hk3
    try simp only [go_sem, hk1, hk2] at fhk3
    rcases it_some h with ⟨hk4, h⟩ | ⟨hk4, h⟩
    · try simp only [go_sem, n1, n2, n3, n4, hk1, hk2] at hk4
      all_goals
      obtain ⟨hk5, h⟩ := ck_some h
      try simp only [go_sem, n1, n2, n3, n4, hk1, hk2, hk4] at hk5
      all_goals
      obtain rfl := so_some h
      refine ⟨0, fun L hL => ?_⟩
      simp only [go_sem, ir39, E_impl_valuesOf__impl_ValuesOf_c1_l1, R_impl_valuesOf__impl_ValuesOf_c1_l1, ir39_b0, ir39_k0, ir39_o0, ir39_r0, hk1, hk2, lhk2, xhk2, fhk3, hk4, hk5]
    · try simp only [go_sem, n1, n2, n3, n4, hk1, hk2] at hk4
      all_goals
      obtain rfl := so_some h
      refine ⟨0, fun L hL => ?_⟩
      simp only [go_sem, ir39, E_impl_valuesOf__impl_ValuesOf_c1_l1, R_impl_valuesOf__impl_ValuesOf_c1_l1, ir39_b0, ir39_k0, ir39_o0, ir39_r0, hk1, hk2, lhk2, xhk2, fhk3, hk4]
  · try simp only [go_sem, n1, n2, n3, n4] at hk1
    all_goals
    obtain rfl := so_some h
    refine ⟨0, fun L hL => ?_⟩
    simp only [go_sem, ir39, E_impl_valuesOf__impl_ValuesOf_c1_l1, R_impl_valuesOf__impl_ValuesOf_c1_l1, ir39_b0, ir39_k0, ir39_o0, ir39_r0, hk1]

theorem Fs_impl_valuesOf__impl_ValuesOf_c1 {entries : List Entry} {wanted_c0 : List UInt8} {y_ : (List Int)} (h : impl_valuesOf__impl_ValuesOf_c1 entries wanted_c0 = some y_) : c_impl_valuesOf__impl_ValuesOf_c1.F [.sl 3 (List.map Entry_av entries), .fn (.func 41) [] [.ptr 1 [.str wanted_c0] 0 0]] = ⟨true, .fresh 1 (List.map (AV.int .i64) y_), [.any, .any]⟩ := by
  refine mkF_E (by simp only [flatA, flatB, flat1, List.all_cons, List.all_nil, Bool.and_self, flatE_map (f := (AV.int .i64)) (fun _ => rfl)]) ?_
  dsimp only [impl_valuesOf__impl_ValuesOf_c1] at h
  obtain ⟨y_6, hk6, h⟩ := bd_some h
  obtain ⟨Lhk6, ehk6⟩ := impl_valuesOf__impl_ValuesOf_c1_l1_ex hk6
  obtain rfl := so_some h
  refine ⟨Lhk6, fun L hL => ?_⟩
  have ehk6 := ehk6 L (by omega)
  try simp only [go_sem, E_impl_valuesOf__impl_ValuesOf_c1_l1, R_impl_valuesOf__impl_ValuesOf_c1_l1, ir39_k0, ir39_o0, ir39_r0] at ehk6
  simp only [go_sem, ir39, E_impl_valuesOf__impl_ValuesOf_c1_l1, R_impl_valuesOf__impl_ValuesOf_c1_l1, ir39_k0, ir39_o0, ir39_r0, ehk6]


def ir14_v : List Nat := [0, 1, 3, 4, 5, 6, 7]
def ir14 : AFn := ⟨2, 7, .seq (.region false [
    ⟨.var 2, 3, none, .box (.v 1)⟩,
    ⟨.var 3, 4, none, .newnil 1⟩,
    ⟨.var 4, 5, none, .mov (.c (.int .i64 (0)))⟩])
 (.seq (.region false [
    ⟨.push, 9, none, .mov (.v 0)⟩,
    ⟨.push, 10, none, .call 34 [(.s 0)]⟩,
    ⟨.push, 8, none, .mov (.s 0)⟩,
    ⟨.push, 11, none, .ext (.s 0) 0⟩,
    ⟨.push, 12, none, .ext (.s 1) 1⟩,
    ⟨.var 5, 6, none, .mov (.s 1)⟩,
    ⟨.var 6, 7, none, .mov (.s 0)⟩])
 (.seq (.block 0 (.test false [
     ⟨.push, 14, none, .mov (.v 6)⟩,
     ⟨.push, 15, none, .bin false .neq (.s 0) (.c (.int .i64 (0)))⟩,
     ⟨.push, 13, none, .mov (.s 0)⟩] (.s 0)
   (.seq (.region false [
       ⟨.push, 16, none, .mov (.v 6)⟩,
       ⟨.var 3, 4, none, .newnil 1⟩,
       ⟨.var 4, 5, none, .mov (.s 0)⟩])
    (.ret))
   (.test false [
      ⟨.push, 18, none, .load false 1 (.v 2)⟩,
      ⟨.push, 19, none, .call 36 [(.s 0)]⟩,
      ⟨.push, 20, none, .un .not (.s 0)⟩,
      ⟨.push, 17, none, .mov (.s 0)⟩] (.s 0)
    (.seq (.region false [
        ⟨.var 3, 4, none, .newnil 1⟩,
        ⟨.var 4, 5, none, .mov (.c (.int .i64 (2)))⟩])
     (.ret))
    (.skip))))
 (.seq (.region false [
    ⟨.push, 21, none, .mov (.v 5)⟩,
    ⟨.push, 22, none, .mkFn (.func 41) [] [(.v 2)]⟩,
    ⟨.push, 23, none, .call 39 [(.s 1), (.s 0)]⟩,
    ⟨.var 3, 4, none, .mov (.s 0)⟩,
    ⟨.var 4, 5, none, .mov (.c (.int .i64 (0)))⟩])
 (.ret)))), [.t 3, .t 4]⟩
noncomputable def t_impl_ValuesOf : List (Nat × Ctr) := [(34, c_impl_EntriesOf), (36, c_impl_IsName), (39, c_impl_valuesOf__impl_ValuesOf_c1)]
theorem lk_impl_ValuesOf_34 : look t_impl_ValuesOf 34 = some c_impl_EntriesOf := rfl
theorem lk_impl_ValuesOf_36 : look t_impl_ValuesOf 36 = some c_impl_IsName := rfl
theorem lk_impl_ValuesOf_39 : look t_impl_ValuesOf 39 = some c_impl_valuesOf__impl_ValuesOf_c1 := rfl
noncomputable def c_impl_ValuesOf : Ctr := mkF t_impl_ValuesOf ir14 [.bor, .bor]
theorem s_impl_ValuesOf : Sound Tryd.prog 14 c_impl_ValuesOf := mkF_sound _ rfl (snd_cons s_impl_EntriesOf (snd_cons s_impl_IsName (snd_cons s_impl_valuesOf__impl_ValuesOf_c1 snd_nil))) (by kernel_rfl : chkFn Tryd.prog 14 ir14 ir14_v = true)
theorem M_impl_ValuesOf : c_impl_ValuesOf.modes = [.bor, .bor] := rfl
theorem Fl_impl_ValuesOf : c_impl_ValuesOf.flat = true := rfl
attribute [go_sem] M_impl_ValuesOf Fl_impl_ValuesOf
attribute [go_sem] lk_impl_ValuesOf_34 lk_impl_ValuesOf_36 lk_impl_ValuesOf_39
theorem Fs_impl_ValuesOf {log : List UInt8} {what : List UInt8} {y_ : (List Int) × Int} (h : impl_ValuesOf log what = some y_) : c_impl_ValuesOf.F [.str log, .str what] = ⟨true, .tup [.fresh 1 (List.map (AV.int .i64) y_.1), .int .i64 y_.2], [.any, .any]⟩ := by
  refine mkF_E (by simp only [flatA, flatB, flat1, List.all_cons, List.all_nil, Bool.and_self, flatE_map (f := (AV.int .i64)) (fun _ => rfl)]) ?_
  dsimp only [impl_ValuesOf] at h
  obtain ⟨y_1, hk1, h⟩ := bd_some h
  have fhk1 := Fs_impl_EntriesOf hk1
  try simp only [go_sem] at fhk1
  rcases it_some h with ⟨hk2, h⟩ | ⟨hk2, h⟩
  · try simp only [go_sem, n1, n2, n3, n4] at hk2
    all_goals
    obtain rfl := so_some h
    refine ⟨0, fun L hL => ?_⟩
    simp only [go_sem, ir14, fhk1, hk2]
  · try simp only [go_sem, n1, n2, n3, n4] at hk2
    all_goals
    obtain ⟨y_3, hk3, h⟩ := bd_some h
    have fhk3 := Fs_impl_IsName hk3
    try simp only [go_sem, hk2] at fhk3
    rcases it_some h with ⟨hk4, h⟩ | ⟨hk4, h⟩
    · try simp only [go_sem, n1, n2, n3, n4, hk2] at hk4
      all_goals
      obtain rfl := so_some h
      refine ⟨0, fun L hL => ?_⟩
      simp only [go_sem, ir14, fhk1, hk2, fhk3, hk4]
    · try simp only [go_sem, n1, n2, n3, n4, hk2] at hk4
      all_goals
      obtain ⟨y_5, hk5, h⟩ := bd_some h
      have fhk5 := Fs_impl_valuesOf__impl_ValuesOf_c1 hk5
      try simp only [go_sem, hk2, hk4] at fhk5
      obtain rfl := so_some h
      refine ⟨0, fun L hL => ?_⟩
      simp only [go_sem, ir14, fhk1, hk2, fhk3, hk4, fhk5]


def ir15_b0 : IR := .seq (.test false [
    ⟨.push, 5, none, .mov (.v 3)⟩,
    ⟨.push, 6, none, .mov (.v 0)⟩,
    ⟨.push, 7, none, .len false (.s 0)⟩,
    ⟨.push, 8, none, .bin false .lss (.s 2) (.s 0)⟩] (.s 0)
  (.skip)
  (.exit 0))
 (.seq (.block 1 (.region false [
     ⟨.push, 11, none, .mov (.v 2)⟩,
     ⟨.push, 12, none, .mov (.v 0)⟩,
     ⟨.push, 13, none, .mov (.v 3)⟩,
     ⟨.push, 14, none, .ixAddr 1 (.s 1) (.s 0)⟩,
     ⟨.push, 15, none, .load false 1 (.s 0)⟩,
     ⟨.push, 16, none, .bin false .add (.s 4) (.s 0)⟩,
     ⟨.var 2, 3, none, .mov (.s 0)⟩]))
 (.region false [
   ⟨.push, 9, none, .mov (.v 3)⟩,
   ⟨.push, 10, none, .bin false .add (.s 0) (.c (.int .i64 (1)))⟩,
   ⟨.var 3, 4, none, .mov (.s 0)⟩]))
def ir15_k0 : List Bool := [true, false, true, true]
def ir15_o0 : List Bool := [false, false, true, false]
def ir15_r0 : List Bool := [false, true, false, false]
def ir15_v : List Nat := [0, 2, 3, 4]
def ir15 : AFn := ⟨1, 4, .seq (.region false [
    ⟨.var 1, 2, none, .mov (.c (.int .i64 (0)))⟩])
 (.seq (.region false [
    ⟨.var 2, 3, none, .mov (.c (.int .i64 (0)))⟩])
 (.seq (.seq (.region false [
     ⟨.var 3, 4, none, .mov (.c (.int .i64 (0)))⟩])
  (.block 0 (.loop ir15_k0 ir15_o0 ir15_r0 ir15_b0)))
 (.seq (.region false [
    ⟨.push, 17, none, .mov (.v 2)⟩,
    ⟨.var 1, 2, none, .mov (.s 0)⟩])
 (.ret)))), [.t 1]⟩
noncomputable def t_laws_a2Sum : List (Nat × Ctr) := []
noncomputable def c_laws_a2Sum : Ctr := mkF t_laws_a2Sum ir15 [.bor]
theorem s_laws_a2Sum : Sound Tryd.prog 15 c_laws_a2Sum := mkF_sound _ rfl snd_nil (by kernel_rfl : chkFn Tryd.prog 15 ir15 ir15_v = true)
theorem M_laws_a2Sum : c_laws_a2Sum.modes = [.bor] := rfl
theorem Fl_laws_a2Sum : c_laws_a2Sum.flat = true := rfl
attribute [go_sem] M_laws_a2Sum Fl_laws_a2Sum
def E_laws_a2Sum_l1 (list : List Int) : (Int × Int) → St
  | (sum, i) => ⟨[.sl 1 (List.map (AV.int .i64) list), .any, .int .i64 sum, .int .i64 i], [], [], true⟩
def R_laws_a2Sum_l1 (list : List Int) (y : Int) : Res := (.exit 0, ⟨[.any, .any, .int .i64 y, .any], [], [], true⟩)
theorem laws_a2Sum_l1_ex {list : List Int} {sgm_ : Int × Int} {rho_ : Int} (h : whileE (laws_a2Sum_l1 list) sgm_ = some rho_) : ∃ L0, ∀ L, L0 ≤ L → iter (exec (look t_laws_a2Sum) L ir15_b0) ir15_k0 ir15_o0 ir15_r0 L (E_laws_a2Sum_l1 list sgm_) = R_laws_a2Sum_l1 list rho_ := by
  refine loop_ex (E := E_laws_a2Sum_l1 list) (R := R_laws_a2Sum_l1 list) (fun y => by first | (intro c; cases c) | (rcases y with y | y <;> (intro c; cases c)) | (rcases y with y | y | y <;> (intro c; cases c))) ?_ h
  clear h
  rintro ⟨sum, i⟩ o_ h
  dsimp only [laws_a2Sum_l1] at h
  rcases it_some h with ⟨hk1, h⟩ | ⟨hk1, h⟩
  · try simp only [go_sem, n1, n2, n3, n4] at hk1
    all_goals
    obtain ⟨hk2, h⟩ := ck_some h
    have lhk2 := ix_lt hk2
    have xhk2 := getD_mapD (AV.int .i64) list lhk2
    try simp only [go_sem] at lhk2
    try simp only [go_sem] at xhk2
    try simp only [go_sem, n1, n2, n3, n4, hk1] at hk2
    all_goals
    obtain rfl := so_some h
    refine ⟨0, fun L hL => ?_⟩
    simp only [go_sem, ir15, E_laws_a2Sum_l1, R_laws_a2Sum_l1, ir15_b0, ir15_k0, ir15_o0, ir15_r0, hk1, hk2, lhk2, xhk2]
  · try simp only [go_sem, n1, n2, n3, n4] at hk1
    all_goals
    obtain rfl := so_some h
    refine ⟨0, fun L hL => ?_⟩
    simp only [go_sem, ir15, E_laws_a2Sum_l1, R_laws_a2Sum_l1, ir15_b0, ir15_k0, ir15_o0, ir15_r0, hk1]

theorem Fs_laws_a2Sum {list : List Int} {y_ : Int} (h : laws_a2Sum list = some y_) : c_laws_a2Sum.F [.sl 1 (List.map (AV.int .i64) list)] = ⟨true, .int .i64 y_, [.any]⟩ := by
  refine mkF_E rfl ?_
  dsimp only [laws_a2Sum] at h
  obtain ⟨y_3, hk3, h⟩ := bd_some h
  obtain ⟨Lhk3, ehk3⟩ := laws_a2Sum_l1_ex hk3
  obtain rfl := so_some h
  refine ⟨Lhk3, fun L hL => ?_⟩
  have ehk3 := ehk3 L (by omega)
  try simp only [go_sem, E_laws_a2Sum_l1, R_laws_a2Sum_l1, ir15_k0, ir15_o0, ir15_r0] at ehk3
  simp only [go_sem, ir15, E_laws_a2Sum_l1, R_laws_a2Sum_l1, ir15_k0, ir15_o0, ir15_r0, ehk3]


def ir4_b0 : IR := .seq (.test false [
    ⟨.push, 42, none, .mov (.v 8)⟩,
    ⟨.push, 43, none, .mov (.v 4)⟩,
    ⟨.push, 44, none, .len false (.s 0)⟩,
    ⟨.push, 45, none, .bin false .lss (.s 2) (.s 0)⟩] (.s 0)
  (.skip)
  (.exit 0))
 (.seq (.block 1 (.seq (.region false [
      ⟨.push, 49, none, .mov (.v 3)⟩,
      ⟨.push, 50, none, .mov (.v 4)⟩,
      ⟨.push, 51, none, .mov (.v 8)⟩,
      ⟨.push, 52, none, .ixAddr 1 (.s 1) (.s 0)⟩,
      ⟨.push, 53, none, .load false 1 (.s 0)⟩,
      ⟨.push, 54, none, .call 13 [(.s 4), (.s 0), (.c (.int .i64 (0))), (.c (.int .i64 (100000)))]⟩,
      ⟨.push, 48, none, .mov (.s 0)⟩,
      ⟨.push, 55, none, .ext (.s 0) 0⟩,
      ⟨.push, 56, none, .ext (.s 1) 1⟩,
      ⟨.var 9, 11, none, .mov (.s 1)⟩,
      ⟨.var 10, 12, none, .mov (.s 0)⟩])
   (.seq (.region false [
      ⟨.push, 58, none, .mov (.v 3)⟩,
      ⟨.push, 59, none, .mov (.v 4)⟩,
      ⟨.push, 60, none, .mov (.v 8)⟩,
      ⟨.push, 61, none, .ixAddr 1 (.s 1) (.s 0)⟩,
      ⟨.push, 62, none, .load false 1 (.s 0)⟩,
      ⟨.push, 63, none, .call 14 [(.s 4), (.s 0)]⟩,
      ⟨.push, 57, none, .mov (.s 0)⟩,
      ⟨.push, 64, none, .ext (.s 0) 0⟩,
      ⟨.push, 65, none, .ext (.s 1) 1⟩,
      ⟨.var 11, 13, none, .mov (.s 1)⟩,
      ⟨.var 12, 14, none, .mov (.s 0)⟩])
   (.seq (.test false [
      ⟨.push, 66, none, .mov (.v 10)⟩,
      ⟨.push, 67, none, .bin false .neq (.s 0) (.c (.int .i64 (0)))⟩,
      ⟨.push, 68, none, .mov (.s 0)⟩,
      ⟨.push, 69, (some ((.s 0), false)), .mov (.v 12)⟩,
      ⟨.push, 70, (some ((.s 1), false)), .bin false .neq (.s 0) (.c (.int .i64 (0)))⟩,
      ⟨.push, 71, none, .pick (.s 2) (.c (.bool true)) (.s 0)⟩,
      ⟨.push, 72, none, .mov (.s 0)⟩,
      ⟨.push, 73, (some ((.s 0), false)), .mov (.v 11)⟩,
      ⟨.push, 74, (some ((.s 1), false)), .len false (.s 0)⟩,
      ⟨.push, 75, (some ((.s 2), false)), .bin false .eql (.s 0) (.c (.int .i64 (0)))⟩,
      ⟨.push, 76, none, .pick (.s 3) (.c (.bool true)) (.s 0)⟩,
      ⟨.push, 77, none, .mov (.s 0)⟩,
      ⟨.push, 78, (some ((.s 0), false)), .mov (.v 11)⟩,
      ⟨.push, 79, (some ((.s 1), false)), .call 15 [(.s 0)]⟩,
      ⟨.push, 80, (some ((.s 2), false)), .mov (.v 9)⟩,
      ⟨.push, 81, (some ((.s 3), false)), .bin false .neq (.s 1) (.s 0)⟩,
      ⟨.push, 82, none, .pick (.s 4) (.c (.bool true)) (.s 0)⟩] (.s 0)
    (.seq (.region false [
        ⟨.var 1, 2, none, .mov (.c (.bool false))⟩])
     (.ret))
    (.skip))
   (.seq (.region false [
      ⟨.push, 83, none, .mov (.v 6)⟩,
      ⟨.push, 84, none, .mov (.v 9)⟩,
      ⟨.push, 85, none, .bin false .add (.s 1) (.s 0)⟩,
      ⟨.var 6, 8, none, .mov (.s 0)⟩])
   (.region false [
     ⟨.push, 86, none, .mov (.v 7)⟩,
     ⟨.push, 87, none, .mov (.v 11)⟩,
     ⟨.push, 88, none, .len false (.s 0)⟩,
     ⟨.push, 89, none, .bin false .add (.s 2) (.s 0)⟩,
     ⟨.var 7, 9, none, .mov (.s 0)⟩]))))))
 (.region false [
   ⟨.push, 46, none, .mov (.v 8)⟩,
   ⟨.push, 47, none, .bin false .add (.s 0) (.c (.int .i64 (1)))⟩,
   ⟨.var 8, 10, none, .mov (.s 0)⟩]))
def ir4_k0 : List Bool := [false, false, true, true, true, false, true, true, true, false, false, false, false, false, false]
def ir4_o0 : List Bool := [false, false, true, false, false, false, true, true, false, false, false, false, false, false, false]
def ir4_r0 : List Bool := [false, true, false, false, false, false, false, false, false, false, false, false, false, false, false]
def ir4_b1 : IR := .seq (.test false [
    ⟨.push, 90, none, .mov (.v 14)⟩,
    ⟨.push, 91, none, .mov (.v 2)⟩,
    ⟨.push, 92, none, .len false (.s 0)⟩,
    ⟨.push, 93, none, .bin false .lss (.s 2) (.s 0)⟩] (.s 0)
  (.skip)
  (.exit 2))
 (.seq (.block 3 (.region false [
     ⟨.push, 96, none, .mov (.v 13)⟩,
     ⟨.push, 97, none, .mov (.v 2)⟩,
     ⟨.push, 98, none, .mov (.v 14)⟩,
     ⟨.push, 99, none, .ixAddr 3 (.s 1) (.s 0)⟩,
     ⟨.push, 100, none, .fldAddr 2 (.s 0)⟩,
     ⟨.push, 101, none, .load false 1 (.s 0)⟩,
     ⟨.push, 102, none, .bin false .add (.s 5) (.s 0)⟩,
     ⟨.var 13, 15, none, .mov (.s 0)⟩]))
 (.region false [
   ⟨.push, 94, none, .mov (.v 14)⟩,
   ⟨.push, 95, none, .bin false .add (.s 0) (.c (.int .i64 (1)))⟩,
   ⟨.var 14, 16, none, .mov (.s 0)⟩]))
def ir4_k1 : List Bool := [false, false, true, false, false, false, true, true, false, false, false, false, false, true, true]
def ir4_o1 : List Bool := [false, false, true, false, false, false, true, true, false, false, false, false, false, true, false]
def ir4_r1 : List Bool := [false, true, false, false, false, false, false, false, false, false, false, false, false, false, false]
def ir4_v : List Nat := [0, 2, 3, 4, 6, 7, 8, 9, 10, 11, 12, 13, 14, 15, 16]
def ir4 : AFn := ⟨1, 15, .seq (.region false [
    ⟨.var 1, 2, none, .mov (.c (.bool false))⟩])
 (.seq (.test false [
    ⟨.push, 17, none, .mov (.v 0)⟩,
    ⟨.push, 18, none, .call 9 [(.s 0), (.c (.sl 1 []))]⟩] (.s 0)
  (.seq (.region false [
      ⟨.var 1, 2, none, .mov (.c (.bool true))⟩])
   (.ret))
  (.skip))
 (.seq (.region false [
    ⟨.push, 19, none, .mov (.v 0)⟩,
    ⟨.push, 20, none, .call 10 [(.s 0)]⟩,
    ⟨.var 2, 3, none, .mov (.s 0)⟩])
 (.seq (.region false [
    ⟨.push, 22, none, .mov (.v 2)⟩,
    ⟨.push, 23, none, .call 11 [(.s 0)]⟩,
    ⟨.push, 21, none, .mov (.s 0)⟩,
    ⟨.push, 24, none, .ext (.s 0) 0⟩,
    ⟨.push, 25, none, .ext (.s 1) 1⟩,
    ⟨.var 3, 4, none, .mov (.s 1)⟩,
    ⟨.push, 5, none, .mov (.s 0)⟩])
 (.seq (.region false [
    ⟨.push, 27, none, .mov (.v 3)⟩,
    ⟨.push, 28, none, .call 12 [(.s 0)]⟩,
    ⟨.push, 26, none, .mov (.s 0)⟩,
    ⟨.push, 29, none, .ext (.s 0) 0⟩,
    ⟨.push, 30, none, .ext (.s 1) 1⟩,
    ⟨.var 4, 6, none, .mov (.s 1)⟩,
    ⟨.var 5, 7, none, .mov (.s 0)⟩])
 (.seq (.test false [
    ⟨.push, 31, none, .mov (.v 5)⟩,
    ⟨.push, 32, none, .bin false .neq (.s 0) (.c (.int .i64 (0)))⟩,
    ⟨.push, 33, none, .mov (.s 0)⟩,
    ⟨.push, 34, (some ((.s 0), false)), .mov (.v 4)⟩,
    ⟨.push, 35, (some ((.s 1), false)), .len false (.s 0)⟩,
    ⟨.push, 36, (some ((.s 2), false)), .bin false .eql (.s 0) (.c (.int .i64 (0)))⟩,
    ⟨.push, 37, (some ((.s 3), false)), .mov (.v 2)⟩,
    ⟨.push, 38, (some ((.s 4), false)), .len false (.s 0)⟩,
    ⟨.push, 39, (some ((.s 5), false)), .bin false .eql (.s 0) (.c (.int .i64 (0)))⟩,
    ⟨.push, 40, (some ((.s 6), false)), .bin true .neq (.s 3) (.s 0)⟩,
    ⟨.push, 41, none, .pick (.s 7) (.c (.bool true)) (.s 0)⟩] (.s 0)
  (.seq (.region false [
      ⟨.var 1, 2, none, .mov (.c (.bool false))⟩])
   (.ret))
  (.skip))
 (.seq (.region false [
    ⟨.var 6, 8, none, .mov (.c (.int .i64 (0)))⟩])
 (.seq (.region false [
    ⟨.var 7, 9, none, .mov (.c (.int .i64 (0)))⟩])
 (.seq (.seq (.region false [
     ⟨.var 8, 10, none, .mov (.c (.int .i64 (0)))⟩])
  (.block 0 (.loop ir4_k0 ir4_o0 ir4_r0 ir4_b0)))
 (.seq (.region false [
    ⟨.var 13, 15, none, .mov (.c (.int .i64 (0)))⟩])
 (.seq (.seq (.region false [
     ⟨.var 14, 16, none, .mov (.c (.int .i64 (0)))⟩])
  (.block 2 (.loop ir4_k1 ir4_o1 ir4_r1 ir4_b1)))
 (.seq (.region false [
    ⟨.push, 103, none, .mov (.v 6)⟩,
    ⟨.push, 104, none, .mov (.v 13)⟩,
    ⟨.push, 105, none, .bin false .eql (.s 1) (.s 0)⟩,
    ⟨.push, 106, none, .mov (.s 0)⟩,
    ⟨.push, 107, (some ((.s 0), true)), .mov (.v 7)⟩,
    ⟨.push, 108, (some ((.s 1), true)), .mov (.v 2)⟩,
    ⟨.push, 109, (some ((.s 2), true)), .len false (.s 0)⟩,
    ⟨.push, 110, (some ((.s 3), true)), .bin false .eql (.s 2) (.s 0)⟩,
    ⟨.push, 111, none, .pick (.s 4) (.s 0) (.c (.bool false))⟩,
    ⟨.var 1, 2, none, .mov (.s 0)⟩])
 (.ret)))))))))))), [.t 1]⟩
noncomputable def t_laws_FnLogSums : List (Nat × Ctr) := [(9, c_laws_a2Long), (10, c_spec_A2Entries), (11, c_spec_LogOf), (12, c_impl_NamesIn), (13, c_impl_SumOfWhat), (14, c_impl_ValuesOf), (15, c_laws_a2Sum)]
theorem lk_laws_FnLogSums_9 : look t_laws_FnLogSums 9 = some c_laws_a2Long := rfl
theorem lk_laws_FnLogSums_10 : look t_laws_FnLogSums 10 = some c_spec_A2Entries := rfl
theorem lk_laws_FnLogSums_11 : look t_laws_FnLogSums 11 = some c_spec_LogOf := rfl
theorem lk_laws_FnLogSums_12 : look t_laws_FnLogSums 12 = some c_impl_NamesIn := rfl
theorem lk_laws_FnLogSums_13 : look t_laws_FnLogSums 13 = some c_impl_SumOfWhat := rfl
theorem lk_laws_FnLogSums_14 : look t_laws_FnLogSums 14 = some c_impl_ValuesOf := rfl
theorem lk_laws_FnLogSums_15 : look t_laws_FnLogSums 15 = some c_laws_a2Sum := rfl
noncomputable def c_laws_FnLogSums : Ctr := mkF t_laws_FnLogSums ir4 [.bor]
theorem s_laws_FnLogSums : Sound Tryd.prog 4 c_laws_FnLogSums := mkF_sound _ rfl (snd_cons s_laws_a2Long (snd_cons s_spec_A2Entries (snd_cons s_spec_LogOf (snd_cons s_impl_NamesIn (snd_cons s_impl_SumOfWhat (snd_cons s_impl_ValuesOf (snd_cons s_laws_a2Sum snd_nil))))))) (by kernel_rfl : chkFn Tryd.prog 4 ir4 ir4_v = true)
theorem M_laws_FnLogSums : c_laws_FnLogSums.modes = [.bor] := rfl
theorem Fl_laws_FnLogSums : c_laws_FnLogSums.flat = true := rfl
attribute [go_sem] M_laws_FnLogSums Fl_laws_FnLogSums
attribute [go_sem] lk_laws_FnLogSums_9 lk_laws_FnLogSums_10 lk_laws_FnLogSums_11 lk_laws_FnLogSums_12 lk_laws_FnLogSums_13 lk_laws_FnLogSums_14 lk_laws_FnLogSums_15
def E_laws_FnLogSums_l1 (list : List Entry) (log : List UInt8) (names : List (List UInt8)) : (Int × Int × Int) → St
  | (sum, many, i) => ⟨[.any, .any, .own 3200000, .str log, .own 3200032, .any, .int .i64 sum, .int .i64 many, .int .i64 i, .any, .any, .any, .any, .any, .any], [], [(3200000, ⟨3, List.map Entry_av list⟩), (3200032, ⟨1, List.map AV.str names⟩)], true⟩
def R_laws_FnLogSums_l1 (list : List Entry) (log : List UInt8) (names : List (List UInt8)) : ((Int × Int) ⊕ Bool) → Res
  | .inl y => (.exit 0, ⟨[.any, .any, .own 3200000, .any, .any, .any, .int .i64 y.1, .int .i64 y.2, .any, .any, .any, .any, .any, .any, .any], [], [(3200000, ⟨3, List.map Entry_av list⟩)], true⟩)
  | .inr y => (.ret, ⟨[.any, .bool y, .any, .any, .any, .any, .any, .any, .any, .any, .any, .any, .any, .any, .any], [], [], true⟩)
theorem laws_FnLogSums_l1_ex {list : List Entry} {log : List UInt8} {names : List (List UInt8)} {sgm_ : Int × Int × Int} {rho_ : (Int × Int) ⊕ Bool} (h : whileE (laws_FnLogSums_l1 list log names) sgm_ = some rho_) : ∃ L0, ∀ L, L0 ≤ L → iter (exec (look t_laws_FnLogSums) L ir4_b0) ir4_k0 ir4_o0 ir4_r0 L (E_laws_FnLogSums_l1 list log names sgm_) = R_laws_FnLogSums_l1 list log names rho_ := by
  refine loop_ex (E := E_laws_FnLogSums_l1 list log names) (R := R_laws_FnLogSums_l1 list log names) (fun y => by first | (intro c; cases c) | (rcases y with y | y <;> (intro c; cases c)) | (rcases y with y | y | y <;> (intro c; cases c))) ?_ h
  clear h
  rintro ⟨sum, many, i⟩ o_ h
  dsimp only [laws_FnLogSums_l1] at h
  rcases it_some h with ⟨hk7, h⟩ | ⟨hk7, h⟩
  · try simp only [go_sem, n1, n2, n3, n4] at hk7
    all_goals
    obtain ⟨hk8, h⟩ := ck_some h
    have lhk8 := ix_lt hk8
    have xhk8 := getD_mapD AV.str names lhk8
    try simp only [go_sem] at lhk8
    try simp only [go_sem] at xhk8
    try simp only [go_sem, n1, n2, n3, n4, hk7] at hk8
    all_goals
    obtain ⟨y_9, hk9, h⟩ := bd_some h
    have fhk9 := Fs_impl_SumOfWhat hk9
    try simp only [go_sem, hk7, hk8] at fhk9
    obtain ⟨y_10, hk10, h⟩ := bd_some h
    have fhk10 := Fs_impl_ValuesOf hk10
    try simp only [go_sem, hk7, hk8] at fhk10
    obtain ⟨hk11, h⟩ := ck_some h
    rcases or_split hk11 with ⟨ghk11, hk11⟩ | ghk11
    · try simp only [go_sem, n1, n2, n3, n4, hk7, hk8] at ghk11
      all_goals
      obtain ⟨y_11, hhk11⟩ := Option.isSome_iff_exists.1 hk11
      have fhk11 := Fs_laws_a2Sum hhk11
      try simp only [go_sem, hk7, hk8, ghk11] at fhk11
      rcases it_some h with ⟨hk12, h⟩ | ⟨hk12, h⟩
      · try simp only [go_sem, n1, n2, n3, n4, hk7, hk8, ghk11, hhk11] at hk12
        all_goals
        obtain rfl := so_some h
        refine ⟨0, fun L hL => ?_⟩
        simp only [go_sem, ir4, E_laws_FnLogSums_l1, R_laws_FnLogSums_l1, ir4_b0, ir4_k0, ir4_o0, ir4_r0, hk7, hk8, lhk8, xhk8, fhk9, fhk10, ghk11, hhk11, fhk11, hk12]
      · try simp only [go_sem, n1, n2, n3, n4, hk7, hk8, ghk11, hhk11] at hk12
        all_goals
        obtain rfl := so_some h
        refine ⟨0, fun L hL => ?_⟩
        simp only [go_sem, ir4, E_laws_FnLogSums_l1, R_laws_FnLogSums_l1, ir4_b0, ir4_k0, ir4_o0, ir4_r0, hk7, hk8, lhk8, xhk8, fhk9, fhk10, ghk11, hhk11, fhk11, hk12]
    · have ghk11n := no_f ghk11
      rcases or_t ghk11n with ghk11na | ⟨ghk11na, ghk11nb⟩
      · rcases or_t ghk11na with ghk11naa | ⟨ghk11naa, ghk11nab⟩
        · have ghk11naan := no_t ghk11naa
          try simp only [go_sem, n1, n2, n3, n4, hk7, hk8] at ghk11naan
          all_goals
          rcases it_some h with ⟨hk12, h⟩ | ⟨hk12, h⟩
          · try simp only [go_sem, n1, n2, n3, n4, hk7, hk8, ghk11naan] at hk12
            all_goals
            obtain rfl := so_some h
            refine ⟨0, fun L hL => ?_⟩
            simp only [go_sem, ir4, E_laws_FnLogSums_l1, R_laws_FnLogSums_l1, ir4_b0, ir4_k0, ir4_o0, ir4_r0, hk7, hk8, lhk8, xhk8, fhk9, fhk10, ghk11naan, hk12]
          · try simp only [go_sem, n1, n2, n3, n4, hk7, hk8, ghk11naan] at hk12
            all_goals
            obtain rfl := so_some h
            refine ⟨0, fun L hL => ?_⟩
            simp only [go_sem, ir4, E_laws_FnLogSums_l1, R_laws_FnLogSums_l1, ir4_b0, ir4_k0, ir4_o0, ir4_r0, hk7, hk8, lhk8, xhk8, fhk9, fhk10, ghk11naan, hk12]
        · have ghk11naan := no_f ghk11naa
          have ghk11nabn := no_t ghk11nab
          try simp only [go_sem, n1, n2, n3, n4, hk7, hk8] at ghk11naan
          all_goals
          try simp only [go_sem, n1, n2, n3, n4, hk7, hk8, ghk11naan] at ghk11nabn
          all_goals
          rcases it_some h with ⟨hk12, h⟩ | ⟨hk12, h⟩
          · try simp only [go_sem, n1, n2, n3, n4, hk7, hk8, ghk11naan, ghk11nabn] at hk12
            all_goals
            obtain rfl := so_some h
            refine ⟨0, fun L hL => ?_⟩
            simp only [go_sem, ir4, E_laws_FnLogSums_l1, R_laws_FnLogSums_l1, ir4_b0, ir4_k0, ir4_o0, ir4_r0, hk7, hk8, lhk8, xhk8, fhk9, fhk10, ghk11naan, ghk11nabn, hk12]
          · try simp only [go_sem, n1, n2, n3, n4, hk7, hk8, ghk11naan, ghk11nabn] at hk12
            all_goals
            obtain rfl := so_some h
            refine ⟨0, fun L hL => ?_⟩
            simp only [go_sem, ir4, E_laws_FnLogSums_l1, R_laws_FnLogSums_l1, ir4_b0, ir4_k0, ir4_o0, ir4_r0, hk7, hk8, lhk8, xhk8, fhk9, fhk10, ghk11naan, ghk11nabn, hk12]
      · obtain ⟨ghk11naa, ghk11nab⟩ := or_f ghk11na
        have ghk11naan := no_f ghk11naa
        have ghk11nabn := no_f ghk11nab
        try simp only [go_sem, n1, n2, n3, n4, hk7, hk8] at ghk11naan
        all_goals
        try simp only [go_sem, n1, n2, n3, n4, hk7, hk8, ghk11naan] at ghk11nabn
        all_goals
        try simp only [go_sem, n1, n2, n3, n4, hk7, hk8, ghk11naan, ghk11nabn] at ghk11nb
        all_goals
        rcases it_some h with ⟨hk12, h⟩ | ⟨hk12, h⟩
        · try simp only [go_sem, n1, n2, n3, n4, hk7, hk8, ghk11naan, ghk11nabn, ghk11nb] at hk12
          all_goals
          obtain rfl := so_some h
          refine ⟨0, fun L hL => ?_⟩
          simp only [go_sem, ir4, E_laws_FnLogSums_l1, R_laws_FnLogSums_l1, ir4_b0, ir4_k0, ir4_o0, ir4_r0, hk7, hk8, lhk8, xhk8, fhk9, fhk10, ghk11naan, ghk11nabn, ghk11nb, hk12]
        · try simp only [go_sem, n1, n2, n3, n4, hk7, hk8, ghk11naan, ghk11nabn, ghk11nb] at hk12
          all_goals
          obtain rfl := so_some h
          refine ⟨0, fun L hL => ?_⟩
          simp only [go_sem, ir4, E_laws_FnLogSums_l1, R_laws_FnLogSums_l1, ir4_b0, ir4_k0, ir4_o0, ir4_r0, hk7, hk8, lhk8, xhk8, fhk9, fhk10, ghk11naan, ghk11nabn, ghk11nb, hk12]
  · try simp only [go_sem, n1, n2, n3, n4] at hk7
    all_goals
    obtain rfl := so_some h
    refine ⟨0, fun L hL => ?_⟩
    simp only [go_sem, ir4, E_laws_FnLogSums_l1, R_laws_FnLogSums_l1, ir4_b0, ir4_k0, ir4_o0, ir4_r0, hk7]

def E_laws_FnLogSums_l2 (list : List Entry) (sum : Int) (many : Int) : (Int × Int) → St
  | (want, i) => ⟨[.any, .any, .own 3200000, .any, .any, .any, .int .i64 sum, .int .i64 many, .any, .any, .any, .any, .any, .int .i64 want, .int .i64 i], [], [(3200000, ⟨3, List.map Entry_av list⟩)], true⟩
def R_laws_FnLogSums_l2 (list : List Entry) (sum : Int) (many : Int) (y : Int) : Res := (.exit 2, ⟨[.any, .any, .own 3200000, .any, .any, .any, .int .i64 sum, .int .i64 many, .any, .any, .any, .any, .any, .int .i64 y, .any], [], [(3200000, ⟨3, List.map Entry_av list⟩)], true⟩)
theorem laws_FnLogSums_l2_ex {list : List Entry} {sum : Int} {many : Int} {sgm_ : Int × Int} {rho_ : Int} (h : whileE (laws_FnLogSums_l2 list sum many) sgm_ = some rho_) : ∃ L0, ∀ L, L0 ≤ L → iter (exec (look t_laws_FnLogSums) L ir4_b1) ir4_k1 ir4_o1 ir4_r1 L (E_laws_FnLogSums_l2 list sum many sgm_) = R_laws_FnLogSums_l2 list sum many rho_ := by
  refine loop_ex (E := E_laws_FnLogSums_l2 list sum many) (R := R_laws_FnLogSums_l2 list sum many) (fun y => by first | (intro c; cases c) | (rcases y with y | y <;> (intro c; cases c)) | (rcases y with y | y | y <;> (intro c; cases c))) ?_ h
  clear h
  rintro ⟨want, i⟩ o_ h
  dsimp only [laws_FnLogSums_l2] at h
  rcases it_some h with ⟨hk14, h⟩ | ⟨hk14, h⟩
  · try simp only [go_sem, n1, n2, n3, n4] at hk14
    all_goals
    obtain ⟨hk15, h⟩ := ck_some h
    have lhk15 := ix_lt hk15
    have xhk15 := getD_mapD Entry_av list lhk15
    try simp only [go_sem] at lhk15
    try simp only [go_sem] at xhk15
    try simp only [go_sem, n1, n2, n3, n4, hk14] at hk15
    all_goals
    obtain rfl := so_some h
    refine ⟨0, fun L hL => ?_⟩
    simp only [go_sem, ir4, E_laws_FnLogSums_l2, R_laws_FnLogSums_l2, ir4_b1, ir4_k1, ir4_o1, ir4_r1, E_laws_FnLogSums_l1, R_laws_FnLogSums_l1, ir4_k0, ir4_o0, ir4_r0, hk14, hk15, lhk15, xhk15]
  · try simp only [go_sem, n1, n2, n3, n4] at hk14
    all_goals
    obtain rfl := so_some h
    refine ⟨0, fun L hL => ?_⟩
    simp only [go_sem, ir4, E_laws_FnLogSums_l2, R_laws_FnLogSums_l2, ir4_b1, ir4_k1, ir4_o1, ir4_r1, E_laws_FnLogSums_l1, R_laws_FnLogSums_l1, ir4_k0, ir4_o0, ir4_r0, hk14]

theorem Fs_laws_FnLogSums {code : List UInt8} {y_ : Bool} (h : laws_FnLogSums code = some y_) : c_laws_FnLogSums.F [.sl 1 (List.map byteAV code)] = ⟨true, .bool y_, [.any]⟩ := by
  refine mkF_E rfl ?_
  dsimp only [laws_FnLogSums] at h
  obtain ⟨y_1, hk1, h⟩ := bd_some h
  have fhk1 := Fs_laws_a2Long hk1
  try simp only [go_sem] at fhk1
  rcases it_some h with ⟨hk2, h⟩ | ⟨hk2, h⟩
  · try simp only [go_sem, n1, n2, n3, n4] at hk2
    all_goals
    obtain rfl := so_some h
    refine ⟨0, fun L hL => ?_⟩
    simp only [go_sem, ir4, E_laws_FnLogSums_l1, R_laws_FnLogSums_l1, ir4_k0, ir4_o0, ir4_r0, E_laws_FnLogSums_l2, R_laws_FnLogSums_l2, ir4_k1, ir4_o1, ir4_r1, fhk1, hk2]
  · try simp only [go_sem, n1, n2, n3, n4] at hk2
    all_goals
    obtain ⟨y_3, hk3, h⟩ := bd_some h
    have fhk3 := Fs_spec_A2Entries hk3
    try simp only [go_sem, hk2] at fhk3
    obtain ⟨y_4, hk4, h⟩ := bd_some h
    have fhk4 := Fs_spec_LogOf hk4
    try simp only [go_sem, hk2] at fhk4
    obtain ⟨y_5, hk5, h⟩ := bd_some h
    have fhk5 := Fs_impl_NamesIn hk5
    try simp only [go_sem, hk2] at fhk5
    rcases it_some h with ⟨hk6, h⟩ | ⟨hk6, h⟩
    · try simp only [go_sem, n1, n2, n3, n4, hk2] at hk6
      all_goals
      obtain rfl := so_some h
      refine ⟨0, fun L hL => ?_⟩
      simp only [go_sem, ir4, E_laws_FnLogSums_l1, R_laws_FnLogSums_l1, ir4_k0, ir4_o0, ir4_r0, E_laws_FnLogSums_l2, R_laws_FnLogSums_l2, ir4_k1, ir4_o1, ir4_r1, fhk1, hk2, fhk3, fhk4, fhk5, hk6]
    · try simp only [go_sem, n1, n2, n3, n4, hk2] at hk6
      all_goals
      obtain ⟨y_13, hk13, h⟩ := bd_some h
      obtain ⟨Lhk13, ehk13⟩ := laws_FnLogSums_l1_ex hk13
      rcases y_13 with y_13a | y_13b
      · dsimp only at h
        obtain ⟨y_16, hk16, h⟩ := bd_some h
        obtain ⟨Lhk16, ehk16⟩ := laws_FnLogSums_l2_ex hk16
        obtain rfl := so_some h
        refine ⟨Lhk13 + Lhk16, fun L hL => ?_⟩
        have ehk13 := ehk13 L (by omega)
        have ehk16 := ehk16 L (by omega)
        try simp only [go_sem, E_laws_FnLogSums_l1, R_laws_FnLogSums_l1, ir4_k0, ir4_o0, ir4_r0, E_laws_FnLogSums_l2, R_laws_FnLogSums_l2, ir4_k1, ir4_o1, ir4_r1, hk2, hk6] at ehk13
        try simp only [go_sem, E_laws_FnLogSums_l1, R_laws_FnLogSums_l1, ir4_k0, ir4_o0, ir4_r0, E_laws_FnLogSums_l2, R_laws_FnLogSums_l2, ir4_k1, ir4_o1, ir4_r1, hk2, hk6] at ehk16
        simp only [go_sem, ir4, E_laws_FnLogSums_l1, R_laws_FnLogSums_l1, ir4_k0, ir4_o0, ir4_r0, E_laws_FnLogSums_l2, R_laws_FnLogSums_l2, ir4_k1, ir4_o1, ir4_r1, fhk1, hk2, fhk3, fhk4, fhk5, hk6, ehk13, ehk16]
      · dsimp only at h
        obtain rfl := so_some h
        refine ⟨Lhk13, fun L hL => ?_⟩
        have ehk13 := ehk13 L (by omega)
        try simp only [go_sem, E_laws_FnLogSums_l1, R_laws_FnLogSums_l1, ir4_k0, ir4_o0, ir4_r0, E_laws_FnLogSums_l2, R_laws_FnLogSums_l2, ir4_k1, ir4_o1, ir4_r1, hk2, hk6] at ehk13
        simp only [go_sem, ir4, E_laws_FnLogSums_l1, R_laws_FnLogSums_l1, ir4_k0, ir4_o0, ir4_r0, E_laws_FnLogSums_l2, R_laws_FnLogSums_l2, ir4_k1, ir4_o1, ir4_r1, fhk1, hk2, fhk3, fhk4, fhk5, hk6, ehk13]


end Go.Proofs.YtkdojfpjnnceiaaDoor
