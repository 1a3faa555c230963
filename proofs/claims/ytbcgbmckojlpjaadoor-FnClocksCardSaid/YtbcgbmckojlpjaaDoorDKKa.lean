/- Codes and contracts of the functions that DK reaches, and that their typed forms say what they do. No condition. -/
import Derived.Test.YtbcgbmckojlpjaaDoorDCT
import Derived.Test.YtbcgbmckojlpjaaDoorEngSCut
import Derived.Test.YtbcgbmckojlpjaaDoorEngSF
import Derived.Test.YtbcgbmckojlpjaaDoorEngSRd
import Derived.Test.YtbcgbmckojlpjaaDoorRows
import Derived.WalkKit
namespace Go.Proofs.YtbcgbmckojlpjaaDoor
open Go Go.RowKit
set_option linter.unusedVariables false
set_option linter.unusedSimpArgs false
set_option maxRecDepth 10000

def ir6_v : List Nat := [0, 2]
def ir6 : AFn := ⟨1, 2, .seq (.region false [
    ⟨.var 1, 2, none, .mov (.c (.bool false))⟩])
 (.seq (.region false [
    ⟨.push, 3, none, .mov (.v 0)⟩,
    ⟨.push, 4, none, .len false (.s 0)⟩,
    ⟨.push, 5, none, .bin false .gtr (.s 0) (.c (.int .i64 (4096)))⟩,
    ⟨.var 1, 2, none, .mov (.s 0)⟩])
 (.ret)), [.t 1]⟩
noncomputable def t_laws_f6big : List (Nat × Ctr) := []
noncomputable def c_laws_f6big : Ctr := mkF t_laws_f6big ir6 [.bor]
theorem s_laws_f6big : Sound Tryd.prog 6 c_laws_f6big := mkF_sound _ rfl snd_nil (by kernel_rfl : chkFn Tryd.prog 6 ir6 ir6_v = true)
theorem M_laws_f6big : c_laws_f6big.modes = [.bor] := rfl
theorem Fl_laws_f6big : c_laws_f6big.flat = true := rfl
attribute [go_sem] M_laws_f6big Fl_laws_f6big
theorem Fs_laws_f6big {code : List UInt8} {y_ : Bool} (h : laws_f6big code = some y_) : c_laws_f6big.F [.sl 1 (List.map byteAV code)] = ⟨true, .bool y_, [.any]⟩ := by
  refine mkF_E rfl ?_
  dsimp only [laws_f6big] at h
  obtain rfl := so_some h
  refine ⟨0, fun L hL => ?_⟩
  simp only [go_sem, ir6]


def ir50_v : List Nat := [0, 2]
def ir50 : AFn := ⟨1, 2, .seq (.region false [
    ⟨.var 1, 2, none, .mov (.c (.cv (.pointer none)))⟩])
 (.seq (.region false [
    ⟨.push, 3, none, .mov (.v 0)⟩,
    ⟨.push, 4, none, .build [.sl 1 [], .int .i64 (0), .int .u64 (0)] [(0, 1, (.s 0))]⟩,
    ⟨.push, 5, none, .box (.s 0)⟩,
    ⟨.var 1, 2, none, .mov (.s 0)⟩])
 (.ret)), [.t 1]⟩
noncomputable def t_spec_l00From : List (Nat × Ctr) := []
noncomputable def c_spec_l00From : Ctr := mkN t_spec_l00From ir50 [.bor]
theorem s_spec_l00From : Sound Tryd.prog 50 c_spec_l00From := mkN_sound _ snd_nil (by kernel_rfl : chkFn Tryd.prog 50 ir50 ir50_v = true)
theorem M_spec_l00From : c_spec_l00From.modes = [.bor] := rfl
theorem Fl_spec_l00From : c_spec_l00From.flat = false := rfl
attribute [go_sem] M_spec_l00From Fl_spec_l00From
theorem Fs_spec_l00From {code : List UInt8} {y_ : L00Src} (h : spec_l00From code = some y_) : c_spec_l00From.F [.sl 1 (List.map byteAV code)] = ⟨true, .mem 3 [L00Src_av y_], [.any]⟩ := by
  refine mkN_E ?_
  dsimp only [spec_l00From] at h
  obtain rfl := so_some h
  refine ⟨0, fun L hL => ?_⟩
  simp only [go_sem, ir50]


def ir99_v : List Nat := [0, 2, 3]
def ir99 : AFn := ⟨1, 3, .seq (.region false [
    ⟨.var 1, 2, none, .mov (.c (.int .i64 (0)))⟩])
 (.seq (.region false [
    ⟨.var 2, 3, none, .mov (.c (.int .i64 (0)))⟩])
 (.seq (.anyo 10 [
    ⟨.slot 0, 4, none, .mov (.v 0)⟩,
    ⟨.slot 1, 5, none, .nilck (.s 0)⟩,
    ⟨.slot 2, 6, none, .fldAddr 1 (.s 1)⟩,
    ⟨.slot 3, 7, none, .load false 1 (.s 2)⟩,
    ⟨.slot 4, 8, none, .mov (.v 0)⟩,
    ⟨.slot 5, 9, none, .nilck (.s 4)⟩,
    ⟨.slot 6, 10, none, .fldAddr 0 (.s 5)⟩,
    ⟨.slot 7, 11, none, .load false 1 (.s 6)⟩,
    ⟨.slot 8, 12, none, .len false (.s 7)⟩,
    ⟨.slot 9, 13, none, .bin false .lss (.s 3) (.s 8)⟩] [] (.cond (.s 9)
  (.anyo 11 [
     ⟨.slot 0, 14, none, .mov (.v 0)⟩,
     ⟨.slot 1, 15, none, .nilck (.s 0)⟩,
     ⟨.slot 2, 16, none, .fldAddr 0 (.s 1)⟩,
     ⟨.slot 3, 17, none, .load false 1 (.s 2)⟩,
     ⟨.slot 4, 18, none, .mov (.v 0)⟩,
     ⟨.slot 5, 19, none, .nilck (.s 4)⟩,
     ⟨.slot 6, 20, none, .fldAddr 1 (.s 5)⟩,
     ⟨.slot 7, 21, none, .load false 1 (.s 6)⟩,
     ⟨.slot 8, 22, none, .ixAddr 1 (.s 3) (.s 7)⟩,
     ⟨.slot 9, 23, none, .load false 1 (.s 8)⟩,
     ⟨.slot 10, 24, none, .conv .i64 (.s 9)⟩,
     ⟨.var 2, 3, none, .mov (.s 10)⟩] [] .skip)
  (.skip)))
 (.seq (.region false [
    ⟨.push, 25, none, .mov (.v 0)⟩,
    ⟨.push, 26, none, .nilck (.s 0)⟩,
    ⟨.push, 27, none, .fldAddr 1 (.s 0)⟩,
    ⟨.push, 28, none, .load false 1 (.s 0)⟩,
    ⟨.push, 29, none, .bin false .add (.s 0) (.c (.int .i64 (1)))⟩,
    ⟨.push, 30, none, .nilck (.s 4)⟩,
    ⟨.push, 31, none, .fldAddr 1 (.s 0)⟩,
    ⟨.no, 0, none, .store 1 (.s 0) (.s 2)⟩])
 (.seq (.region false [
    ⟨.push, 32, none, .mov (.v 0)⟩,
    ⟨.push, 33, none, .mov (.v 0)⟩,
    ⟨.push, 34, none, .nilck (.s 0)⟩,
    ⟨.push, 35, none, .fldAddr 2 (.s 0)⟩,
    ⟨.push, 36, none, .load false 1 (.s 0)⟩,
    ⟨.push, 37, none, .bin false .mul (.s 0) (.c (.int .u64 (6364136223846793005)))⟩,
    ⟨.push, 38, none, .mov (.v 2)⟩,
    ⟨.push, 39, none, .conv .u64 (.s 0)⟩,
    ⟨.push, 40, none, .bin false .add (.s 2) (.s 0)⟩,
    ⟨.push, 41, none, .bin false .add (.s 0) (.c (.int .u64 (1442695040888963407)))⟩,
    ⟨.push, 42, none, .nilck (.s 9)⟩,
    ⟨.push, 43, none, .fldAddr 2 (.s 0)⟩,
    ⟨.no, 0, none, .store 1 (.s 0) (.s 2)⟩])
 (.seq (.anyo 10 [
    ⟨.slot 0, 44, none, .mov (.v 0)⟩,
    ⟨.slot 1, 45, none, .nilck (.s 0)⟩,
    ⟨.slot 2, 46, none, .fldAddr 1 (.s 1)⟩,
    ⟨.slot 3, 47, none, .load false 1 (.s 2)⟩,
    ⟨.slot 4, 48, none, .mov (.v 0)⟩,
    ⟨.slot 5, 49, none, .nilck (.s 4)⟩,
    ⟨.slot 6, 50, none, .fldAddr 0 (.s 5)⟩,
    ⟨.slot 7, 51, none, .load false 1 (.s 6)⟩,
    ⟨.slot 8, 52, none, .len false (.s 7)⟩,
    ⟨.slot 9, 53, none, .bin false .leq (.s 3) (.s 8)⟩] [] (.cond (.s 9)
  (.seq (.region false [
      ⟨.push, 54, none, .mov (.v 2)⟩,
      ⟨.var 1, 2, none, .mov (.s 0)⟩])
   (.ret))
  (.skip)))
 (.seq (.region false [
    ⟨.push, 55, none, .mov (.v 0)⟩,
    ⟨.push, 56, none, .nilck (.s 0)⟩,
    ⟨.push, 57, none, .fldAddr 2 (.s 0)⟩,
    ⟨.push, 58, none, .load false 1 (.s 0)⟩,
    ⟨.push, 59, none, .bin false .shr (.s 0) (.c (.int .u64 (40)))⟩,
    ⟨.push, 60, none, .bin false .and (.s 0) (.c (.int .u64 (255)))⟩,
    ⟨.push, 61, none, .conv .i64 (.s 0)⟩,
    ⟨.var 1, 2, none, .mov (.s 0)⟩])
 (.ret))))))), [.t 1]⟩
noncomputable def t_spec_l00Src_next : List (Nat × Ctr) := []
noncomputable def c_spec_l00Src_next : Ctr := mkN t_spec_l00Src_next ir99 [.io]
theorem s_spec_l00Src_next : Sound Tryd.prog 99 c_spec_l00Src_next := mkN_sound _ snd_nil (by kernel_rfl : chkFn Tryd.prog 99 ir99 ir99_v = true)
theorem M_spec_l00Src_next : c_spec_l00Src_next.modes = [.io] := rfl
theorem Fl_spec_l00Src_next : c_spec_l00Src_next.flat = false := rfl
attribute [go_sem] M_spec_l00Src_next Fl_spec_l00Src_next
theorem Fs_spec_l00Src_next {s_ : L00Src} {y_ : Int × L00Src} (h : spec_l00Src_next s_ = some y_) : c_spec_l00Src_next.F [.mem 3 [L00Src_av s_]] = ⟨true, .int .i64 y_.1, [.mem 3 [L00Src_av y_.2]]⟩ := by
  refine mkN_E ?_
  dsimp only [spec_l00Src_next] at h
  rcases it_some h with ⟨hk1, h⟩ | ⟨hk1, h⟩
  · try simp only [go_sem, n1, n2, n3, n4] at hk1
    all_goals
    obtain ⟨hk2, h⟩ := ck_some h
    have lhk2 := ix_lt hk2
    have xhk2 := getD_mapD byteAV s_.code_ lhk2
    try simp only [go_sem] at lhk2
    try simp only [go_sem] at xhk2
    try simp only [go_sem, n1, n2, n3, n4, hk1] at hk2
    all_goals
    rcases it_some h with ⟨hk3, h⟩ | ⟨hk3, h⟩
    · try simp only [go_sem, n1, n2, n3, n4, hk1, hk2] at hk3
      all_goals
      obtain rfl := so_some h
      refine ⟨0, fun L hL => ?_⟩
      simp only [go_sem, ir99, hk1, hk2, lhk2, xhk2, hk3]
    · try simp only [go_sem, n1, n2, n3, n4, hk1, hk2] at hk3
      all_goals
      obtain ⟨hk4, h⟩ := ck_some h
      try simp only [go_sem, n1, n2, n3, n4, hk1, hk2, hk3] at hk4
      all_goals
      obtain rfl := so_some h
      refine ⟨0, fun L hL => ?_⟩
      simp only [go_sem, ir99, hk1, hk2, lhk2, xhk2, hk3, hk4]
  · try simp only [go_sem, n1, n2, n3, n4] at hk1
    all_goals
    rcases it_some h with ⟨hk5, h⟩ | ⟨hk5, h⟩
    · try simp only [go_sem, n1, n2, n3, n4, hk1] at hk5
      all_goals
      obtain rfl := so_some h
      refine ⟨0, fun L hL => ?_⟩
      simp only [go_sem, ir99, hk1, hk5]
    · try simp only [go_sem, n1, n2, n3, n4, hk1] at hk5
      all_goals
      obtain ⟨hk6, h⟩ := ck_some h
      try simp only [go_sem, n1, n2, n3, n4, hk1, hk5] at hk6
      all_goals
      obtain rfl := so_some h
      refine ⟨0, fun L hL => ?_⟩
      simp only [go_sem, ir99, hk1, hk5, hk6]


def ir68_v : List Nat := [0, 1, 4, 5]
def ir68 : AFn := ⟨2, 4, .seq (.region false [
    ⟨.var 2, 4, none, .mov (.c (.int .i64 (0)))⟩])
 (.seq (.test false [
    ⟨.push, 6, none, .mov (.v 1)⟩,
    ⟨.push, 7, none, .bin false .leq (.s 0) (.c (.int .i64 (1)))⟩] (.s 0)
  (.seq (.region false [
      ⟨.var 2, 4, none, .mov (.c (.int .i64 (0)))⟩])
   (.ret))
  (.skip))
 (.seq (.region false [
    ⟨.push, 8, none, .mov (.v 0)⟩,
    ⟨.push, 9, none, .call 99 [(.s 0)]⟩,
    ⟨.var 3, 5, none, .mov (.s 0)⟩])
 (.seq (.test false [
    ⟨.push, 10, none, .mov (.v 1)⟩,
    ⟨.push, 11, none, .bin false .gtr (.s 0) (.c (.int .i64 (200)))⟩] (.s 0)
  (.region false [
     ⟨.push, 12, none, .mov (.v 3)⟩,
     ⟨.push, 13, none, .bin false .mul (.s 0) (.c (.int .i64 (256)))⟩,
     ⟨.push, 14, none, .mov (.v 0)⟩,
     ⟨.push, 15, none, .call 99 [(.s 0)]⟩,
     ⟨.push, 16, none, .bin false .add (.s 2) (.s 0)⟩,
     ⟨.var 3, 5, none, .mov (.s 0)⟩])
  (.skip))
 (.seq (.region false [
    ⟨.push, 17, none, .mov (.v 3)⟩,
    ⟨.push, 18, none, .mov (.v 1)⟩,
    ⟨.push, 19, none, .bin false .rem (.s 1) (.s 0)⟩,
    ⟨.var 2, 4, none, .mov (.s 0)⟩])
 (.ret))))), [.t 2]⟩
noncomputable def t_spec_l00Src_pick : List (Nat × Ctr) := [(99, c_spec_l00Src_next)]
theorem lk_spec_l00Src_pick_99 : look t_spec_l00Src_pick 99 = some c_spec_l00Src_next := rfl
noncomputable def c_spec_l00Src_pick : Ctr := mkN t_spec_l00Src_pick ir68 [.io, .bor]
theorem s_spec_l00Src_pick : Sound Tryd.prog 68 c_spec_l00Src_pick := mkN_sound _ (snd_cons s_spec_l00Src_next snd_nil) (by kernel_rfl : chkFn Tryd.prog 68 ir68 ir68_v = true)
theorem M_spec_l00Src_pick : c_spec_l00Src_pick.modes = [.io, .bor] := rfl
theorem Fl_spec_l00Src_pick : c_spec_l00Src_pick.flat = false := rfl
attribute [go_sem] M_spec_l00Src_pick Fl_spec_l00Src_pick
attribute [go_sem] lk_spec_l00Src_pick_99
theorem Fs_spec_l00Src_pick {s_ : L00Src} {n : Int} {y_ : Int × L00Src} (h : spec_l00Src_pick s_ n = some y_) : c_spec_l00Src_pick.F [.mem 3 [L00Src_av s_], .int .i64 n] = ⟨true, .int .i64 y_.1, [.mem 3 [L00Src_av y_.2], .any]⟩ := by
  refine mkN_E ?_
  dsimp only [spec_l00Src_pick] at h
  rcases it_some h with ⟨hk1, h⟩ | ⟨hk1, h⟩
  · try simp only [go_sem, n1, n2, n3, n4] at hk1
    all_goals
    obtain rfl := so_some h
    refine ⟨0, fun L hL => ?_⟩
    simp only [go_sem, ir68, hk1]
  · try simp only [go_sem, n1, n2, n3, n4] at hk1
    all_goals
    obtain ⟨y_2, hk2, h⟩ := bd_some h
    have fhk2 := Fs_spec_l00Src_next hk2
    try simp only [go_sem, hk1] at fhk2
    rcases it_some h with ⟨hk3, h⟩ | ⟨hk3, h⟩
    · try simp only [go_sem, n1, n2, n3, n4, hk1] at hk3
      all_goals
      obtain ⟨y_4, hk4, h⟩ := bd_some h
      have fhk4 := Fs_spec_l00Src_next hk4
      try simp only [go_sem, hk1, hk3] at fhk4
      obtain ⟨hk5, h⟩ := ck_some h
      try simp only [go_sem, n1, n2, n3, n4, hk1, hk3] at hk5
      all_goals
      obtain rfl := so_some h
      refine ⟨0, fun L hL => ?_⟩
      simp only [go_sem, ir68, hk1, fhk2, hk3, fhk4, hk5]
    · try simp only [go_sem, n1, n2, n3, n4, hk1] at hk3
      all_goals
      obtain ⟨hk6, h⟩ := ck_some h
      try simp only [go_sem, n1, n2, n3, n4, hk1, hk3] at hk6
      all_goals
      obtain rfl := so_some h
      refine ⟨0, fun L hL => ?_⟩
      simp only [go_sem, ir68, hk1, fhk2, hk3, hk6]


def ir64_v : List Nat := [0, 1, 4]
def ir64 : AFn := ⟨2, 3, .seq (.region false [
    ⟨.var 2, 4, none, .mov (.c (.bool false))⟩])
 (.seq (.region false [
    ⟨.push, 5, none, .mov (.v 0)⟩,
    ⟨.push, 6, none, .mov (.v 1)⟩,
    ⟨.push, 7, none, .call 68 [(.s 1), (.s 0)]⟩,
    ⟨.push, 8, none, .bin false .eql (.s 0) (.c (.int .i64 (0)))⟩,
    ⟨.var 2, 4, none, .mov (.s 0)⟩])
 (.ret)), [.t 2]⟩
noncomputable def t_spec_l00Src_one : List (Nat × Ctr) := [(68, c_spec_l00Src_pick)]
theorem lk_spec_l00Src_one_68 : look t_spec_l00Src_one 68 = some c_spec_l00Src_pick := rfl
noncomputable def c_spec_l00Src_one : Ctr := mkN t_spec_l00Src_one ir64 [.io, .bor]
theorem s_spec_l00Src_one : Sound Tryd.prog 64 c_spec_l00Src_one := mkN_sound _ (snd_cons s_spec_l00Src_pick snd_nil) (by kernel_rfl : chkFn Tryd.prog 64 ir64 ir64_v = true)
theorem M_spec_l00Src_one : c_spec_l00Src_one.modes = [.io, .bor] := rfl
theorem Fl_spec_l00Src_one : c_spec_l00Src_one.flat = false := rfl
attribute [go_sem] M_spec_l00Src_one Fl_spec_l00Src_one
attribute [go_sem] lk_spec_l00Src_one_68
theorem Fs_spec_l00Src_one {s_ : L00Src} {n : Int} {y_ : Bool × L00Src} (h : spec_l00Src_one s_ n = some y_) : c_spec_l00Src_one.F [.mem 3 [L00Src_av s_], .int .i64 n] = ⟨true, .bool y_.1, [.mem 3 [L00Src_av y_.2], .any]⟩ := by
  refine mkN_E ?_
  dsimp only [spec_l00Src_one] at h
  obtain ⟨y_1, hk1, h⟩ := bd_some h
  have fhk1 := Fs_spec_l00Src_pick hk1
  try simp only [go_sem] at fhk1
  obtain rfl := so_some h
  refine ⟨0, fun L hL => ?_⟩
  simp only [go_sem, ir64, fhk1]


def ir94_v : List Nat := [0, 1, 4]
def ir94 : AFn := ⟨2, 3, .seq (.region false [
    ⟨.var 2, 4, none, .mov (.c (.int .i64 (0)))⟩])
 (.seq (.region false [
    ⟨.push, 5, none, .mov (.v 1)⟩,
    ⟨.push, 6, none, .mov (.v 0)⟩,
    ⟨.push, 7, none, .mov (.v 1)⟩,
    ⟨.push, 8, none, .len false (.s 0)⟩,
    ⟨.push, 9, none, .call 68 [(.s 2), (.s 0)]⟩,
    ⟨.push, 10, none, .ixAddr 1 (.s 4) (.s 0)⟩,
    ⟨.push, 11, none, .load false 1 (.s 0)⟩,
    ⟨.var 2, 4, none, .mov (.s 0)⟩])
 (.ret)), [.t 2]⟩
noncomputable def t_spec_l00Src_among : List (Nat × Ctr) := [(68, c_spec_l00Src_pick)]
theorem lk_spec_l00Src_among_68 : look t_spec_l00Src_among 68 = some c_spec_l00Src_pick := rfl
noncomputable def c_spec_l00Src_among : Ctr := mkN t_spec_l00Src_among ir94 [.io, .bor]
theorem s_spec_l00Src_among : Sound Tryd.prog 94 c_spec_l00Src_among := mkN_sound _ (snd_cons s_spec_l00Src_pick snd_nil) (by kernel_rfl : chkFn Tryd.prog 94 ir94 ir94_v = true)
theorem M_spec_l00Src_among : c_spec_l00Src_among.modes = [.io, .bor] := rfl
theorem Fl_spec_l00Src_among : c_spec_l00Src_among.flat = false := rfl
attribute [go_sem] M_spec_l00Src_among Fl_spec_l00Src_among
attribute [go_sem] lk_spec_l00Src_among_68
theorem Fs_spec_l00Src_among {s_ : L00Src} {list : List Int} {y_ : Int × L00Src} (h : spec_l00Src_among s_ list = some y_) : c_spec_l00Src_among.F [.mem 3 [L00Src_av s_], .sl 1 (List.map (AV.int .i64) list)] = ⟨true, .int .i64 y_.1, [.mem 3 [L00Src_av y_.2], .any]⟩ := by
  refine mkN_E ?_
  dsimp only [spec_l00Src_among] at h
  obtain ⟨y_1, hk1, h⟩ := bd_some h
  have fhk1 := Fs_spec_l00Src_pick hk1
  try simp only [go_sem] at fhk1
  obtain ⟨hk2, h⟩ := ck_some h
  have lhk2 := ix_lt hk2
  have xhk2 := getD_mapD (AV.int .i64) list lhk2
  try simp only [go_sem] at lhk2
  try simp only [go_sem] at xhk2
  try simp only [go_sem, n1, n2, n3, n4] at hk2
  all_goals
  obtain rfl := so_some h
  refine ⟨0, fun L hL => ?_⟩
  simp only [go_sem, ir94, fhk1, hk2, lhk2, xhk2]


def ir49_v : List Nat := [0, 2, 3]
def ir49 : AFn := ⟨1, 3, .seq (.region false [
    ⟨.var 1, 2, none, .mov (.c (.int .i64 (0)))⟩])
 (.seq (.test false [
    ⟨.push, 4, none, .mov (.v 0)⟩,
    ⟨.push, 5, none, .call 64 [(.s 0), (.c (.int .i64 (10)))]⟩] (.s 0)
  (.seq (.region false [
      ⟨.push, 6, none, .mov (.v 0)⟩,
      ⟨.push, 7, none, .mkSl 1 (.int .i64 (0)) 5 [(0, (.c (.int .i64 (-1)))), (1, (.c (.int .i64 (0)))), (2, (.c (.int .i64 (100000)))), (3, (.c (.int .i64 (100001)))), (4, (.c (.int .i64 (9223372036854775807))))]⟩,
      ⟨.push, 8, none, .call 94 [(.s 1), (.s 0)]⟩,
      ⟨.var 1, 2, none, .mov (.s 0)⟩])
   (.ret))
  (.skip))
 (.seq (.region false [
    ⟨.push, 9, none, .mov (.v 0)⟩,
    ⟨.push, 10, none, .call 68 [(.s 0), (.c (.int .i64 (370)))]⟩,
    ⟨.var 2, 3, none, .mov (.s 0)⟩])
 (.seq (.region false [
    ⟨.push, 11, none, .mov (.v 2)⟩,
    ⟨.push, 12, none, .mov (.v 0)⟩,
    ⟨.push, 13, none, .call 68 [(.s 0), (.c (.int .i64 (270)))]⟩,
    ⟨.push, 14, none, .bin false .mul (.c (.int .i64 (365))) (.s 0)⟩,
    ⟨.push, 15, none, .bin false .add (.s 3) (.s 0)⟩,
    ⟨.var 1, 2, none, .mov (.s 0)⟩])
 (.ret)))), [.t 1]⟩
noncomputable def t_spec_l03Day : List (Nat × Ctr) := [(64, c_spec_l00Src_one), (94, c_spec_l00Src_among), (68, c_spec_l00Src_pick)]
theorem lk_spec_l03Day_64 : look t_spec_l03Day 64 = some c_spec_l00Src_one := rfl
theorem lk_spec_l03Day_94 : look t_spec_l03Day 94 = some c_spec_l00Src_among := rfl
theorem lk_spec_l03Day_68 : look t_spec_l03Day 68 = some c_spec_l00Src_pick := rfl
noncomputable def c_spec_l03Day : Ctr := mkN t_spec_l03Day ir49 [.io]
theorem s_spec_l03Day : Sound Tryd.prog 49 c_spec_l03Day := mkN_sound _ (snd_cons s_spec_l00Src_one (snd_cons s_spec_l00Src_among (snd_cons s_spec_l00Src_pick snd_nil))) (by kernel_rfl : chkFn Tryd.prog 49 ir49 ir49_v = true)
theorem M_spec_l03Day : c_spec_l03Day.modes = [.io] := rfl
theorem Fl_spec_l03Day : c_spec_l03Day.flat = false := rfl
attribute [go_sem] M_spec_l03Day Fl_spec_l03Day
attribute [go_sem] lk_spec_l03Day_64 lk_spec_l03Day_94 lk_spec_l03Day_68
theorem Fs_spec_l03Day {s_ : L00Src} {y_ : Int × L00Src} (h : spec_l03Day s_ = some y_) : c_spec_l03Day.F [.mem 3 [L00Src_av s_]] = ⟨true, .int .i64 y_.1, [.mem 3 [L00Src_av y_.2]]⟩ := by
  refine mkN_E ?_
  dsimp only [spec_l03Day] at h
  obtain ⟨y_1, hk1, h⟩ := bd_some h
  have fhk1 := Fs_spec_l00Src_one hk1
  try simp only [go_sem] at fhk1
  rcases it_some h with ⟨hk2, h⟩ | ⟨hk2, h⟩
  · try simp only [go_sem, n1, n2, n3, n4] at hk2
    all_goals
    obtain ⟨y_3, hk3, h⟩ := bd_some h
    have fhk3 := Fs_spec_l00Src_among hk3
    try simp only [go_sem, hk2] at fhk3
    obtain rfl := so_some h
    refine ⟨0, fun L hL => ?_⟩
    simp only [go_sem, ir49, fhk1, hk2, fhk3]
  · try simp only [go_sem, n1, n2, n3, n4] at hk2
    all_goals
    obtain ⟨y_4, hk4, h⟩ := bd_some h
    have fhk4 := Fs_spec_l00Src_pick hk4
    try simp only [go_sem, hk2] at fhk4
    obtain ⟨y_5, hk5, h⟩ := bd_some h
    have fhk5 := Fs_spec_l00Src_pick hk5
    try simp only [go_sem, hk2] at fhk5
    obtain rfl := so_some h
    refine ⟨0, fun L hL => ?_⟩
    simp only [go_sem, ir49, fhk1, hk2, fhk4, fhk5]


def ir24_v : List Nat := [0, 2, 3, 4, 5, 6, 7]
def ir24 : AFn := ⟨1, 7, .seq (.region false [
    ⟨.var 1, 2, none, .mov (.c (.int .i64 (0)))⟩,
    ⟨.var 2, 3, none, .mov (.c (.int .i64 (0)))⟩,
    ⟨.var 3, 4, none, .mov (.c (.int .i64 (0)))⟩])
 (.seq (.region false [
    ⟨.push, 8, none, .mov (.v 0)⟩,
    ⟨.push, 9, none, .call 50 [(.s 0)]⟩,
    ⟨.var 4, 5, none, .mov (.s 0)⟩])
 (.seq (.region false [
    ⟨.push, 10, none, .mov (.v 4)⟩,
    ⟨.push, 11, none, .call 68 [(.s 0), (.c (.int .i64 (1002)))]⟩,
    ⟨.var 5, 6, none, .mov (.s 0)⟩])
 (.seq (.test false [
    ⟨.push, 12, none, .mov (.v 4)⟩,
    ⟨.push, 13, none, .call 64 [(.s 0), (.c (.int .i64 (10)))]⟩] (.s 0)
  (.region false [
     ⟨.push, 14, none, .mov (.v 4)⟩,
     ⟨.push, 15, none, .call 49 [(.s 0)]⟩,
     ⟨.var 5, 6, none, .mov (.s 0)⟩])
  (.skip))
 (.seq (.region false [
    ⟨.push, 16, none, .mov (.v 4)⟩,
    ⟨.push, 17, none, .call 68 [(.s 0), (.c (.int .i64 (25)))]⟩,
    ⟨.push, 18, none, .mov (.v 4)⟩,
    ⟨.push, 19, none, .call 68 [(.s 0), (.c (.int .i64 (16)))]⟩,
    ⟨.push, 20, none, .bin false .quo (.s 0) (.c (.int .i64 (15)))⟩,
    ⟨.push, 21, none, .bin false .sub (.s 3) (.s 0)⟩,
    ⟨.var 6, 7, none, .mov (.s 0)⟩])
 (.seq (.region false [
    ⟨.push, 22, none, .mov (.v 5)⟩,
    ⟨.push, 23, none, .mov (.v 6)⟩,
    ⟨.push, 24, none, .mov (.v 4)⟩,
    ⟨.push, 25, none, .call 68 [(.s 0), (.c (.int .i64 (61)))]⟩,
    ⟨.push, 26, none, .mov (.v 4)⟩,
    ⟨.push, 27, none, .call 68 [(.s 0), (.c (.int .i64 (16)))]⟩,
    ⟨.push, 28, none, .bin false .quo (.s 0) (.c (.int .i64 (15)))⟩,
    ⟨.push, 29, none, .bin false .sub (.s 3) (.s 0)⟩,
    ⟨.var 1, 2, none, .mov (.s 7)⟩,
    ⟨.var 2, 3, none, .mov (.s 6)⟩,
    ⟨.var 3, 4, none, .mov (.s 0)⟩])
 (.ret)))))), [.t 1, .t 2, .t 3]⟩
noncomputable def t_spec_DrawTimeOf : List (Nat × Ctr) := [(50, c_spec_l00From), (68, c_spec_l00Src_pick), (64, c_spec_l00Src_one), (49, c_spec_l03Day)]
theorem lk_spec_DrawTimeOf_50 : look t_spec_DrawTimeOf 50 = some c_spec_l00From := rfl
theorem lk_spec_DrawTimeOf_68 : look t_spec_DrawTimeOf 68 = some c_spec_l00Src_pick := rfl
theorem lk_spec_DrawTimeOf_64 : look t_spec_DrawTimeOf 64 = some c_spec_l00Src_one := rfl
theorem lk_spec_DrawTimeOf_49 : look t_spec_DrawTimeOf 49 = some c_spec_l03Day := rfl
noncomputable def c_spec_DrawTimeOf : Ctr := mkF t_spec_DrawTimeOf ir24 [.bor]
theorem s_spec_DrawTimeOf : Sound Tryd.prog 24 c_spec_DrawTimeOf := mkF_sound _ rfl (snd_cons s_spec_l00From (snd_cons s_spec_l00Src_pick (snd_cons s_spec_l00Src_one (snd_cons s_spec_l03Day snd_nil)))) (by kernel_rfl : chkFn Tryd.prog 24 ir24 ir24_v = true)
theorem M_spec_DrawTimeOf : c_spec_DrawTimeOf.modes = [.bor] := rfl
theorem Fl_spec_DrawTimeOf : c_spec_DrawTimeOf.flat = true := rfl
attribute [go_sem] M_spec_DrawTimeOf Fl_spec_DrawTimeOf
attribute [go_sem] lk_spec_DrawTimeOf_50 lk_spec_DrawTimeOf_68 lk_spec_DrawTimeOf_64 lk_spec_DrawTimeOf_49
theorem Fs_spec_DrawTimeOf {code : List UInt8} {y_ : Int × Int × Int} (h : spec_DrawTimeOf code = some y_) : c_spec_DrawTimeOf.F [.sl 1 (List.map byteAV code)] = ⟨true, .tup [.int .i64 y_.1, .int .i64 y_.2.1, .int .i64 y_.2.2], [.any]⟩ := by
  refine mkF_E rfl ?_
  dsimp only [spec_DrawTimeOf] at h
  obtain ⟨y_1, hk1, h⟩ := bd_some h
  have fhk1 := Fs_spec_l00From hk1
  try simp only [go_sem] at fhk1
  obtain ⟨y_2, hk2, h⟩ := bd_some h
  have fhk2 := Fs_spec_l00Src_pick hk2
  try simp only [go_sem] at fhk2
  obtain ⟨y_3, hk3, h⟩ := bd_some h
  have fhk3 := Fs_spec_l00Src_one hk3
  try simp only [go_sem] at fhk3
  rcases it_some h with ⟨hk4, h⟩ | ⟨hk4, h⟩
  · try simp only [go_sem, n1, n2, n3, n4] at hk4
    all_goals
    obtain ⟨y_5, hk5, h⟩ := bd_some h
    have fhk5 := Fs_spec_l03Day hk5
    try simp only [go_sem, hk4] at fhk5
    obtain ⟨y_6, hk6, h⟩ := bd_some h
    have fhk6 := Fs_spec_l00Src_pick hk6
    try simp only [go_sem, hk4] at fhk6
    obtain ⟨y_7, hk7, h⟩ := bd_some h
    have fhk7 := Fs_spec_l00Src_pick hk7
    try simp only [go_sem, hk4] at fhk7
    obtain ⟨hk8, h⟩ := ck_some h
    try simp only [go_sem, n1, n2, n3, n4, hk4] at hk8
    all_goals
    obtain ⟨y_9, hk9, h⟩ := bd_some h
    have fhk9 := Fs_spec_l00Src_pick hk9
    try simp only [go_sem, hk4, hk8] at fhk9
    obtain ⟨y_10, hk10, h⟩ := bd_some h
    have fhk10 := Fs_spec_l00Src_pick hk10
    try simp only [go_sem, hk4, hk8] at fhk10
    obtain rfl := so_some h
    refine ⟨0, fun L hL => ?_⟩
    simp only [go_sem, ir24, fhk1, fhk2, fhk3, hk4, fhk5, fhk6, fhk7, hk8, fhk9, fhk10]
  · try simp only [go_sem, n1, n2, n3, n4] at hk4
    all_goals
    obtain ⟨y_11, hk11, h⟩ := bd_some h
    have fhk11 := Fs_spec_l00Src_pick hk11
    try simp only [go_sem, hk4] at fhk11
    obtain ⟨y_12, hk12, h⟩ := bd_some h
    have fhk12 := Fs_spec_l00Src_pick hk12
    try simp only [go_sem, hk4] at fhk12
    obtain ⟨hk13, h⟩ := ck_some h
    try simp only [go_sem, n1, n2, n3, n4, hk4] at hk13
    all_goals
    obtain ⟨y_14, hk14, h⟩ := bd_some h
    have fhk14 := Fs_spec_l00Src_pick hk14
    try simp only [go_sem, hk4, hk13] at fhk14
    obtain ⟨y_15, hk15, h⟩ := bd_some h
    have fhk15 := Fs_spec_l00Src_pick hk15
    try simp only [go_sem, hk4, hk13] at fhk15
    obtain rfl := so_some h
    refine ⟨0, fun L hL => ?_⟩
    simp only [go_sem, ir24, fhk1, fhk2, fhk3, hk4, fhk11, fhk12, hk13, fhk14, fhk15]


def ir51_v : List Nat := [0, 1, 2, 6]
def ir51 : AFn := ⟨3, 4, .seq (.region false [
    ⟨.var 3, 6, none, .mov (.c (.bool false))⟩])
 (.seq (.region false [
    ⟨.push, 7, none, .mov (.v 0)⟩,
    ⟨.push, 8, none, .mov (.v 1)⟩,
    ⟨.push, 9, none, .bin false .geq (.s 1) (.s 0)⟩,
    ⟨.push, 10, none, .mov (.s 0)⟩,
    ⟨.push, 11, (some ((.s 0), true)), .mov (.v 0)⟩,
    ⟨.push, 12, (some ((.s 1), true)), .mov (.v 2)⟩,
    ⟨.push, 13, (some ((.s 2), true)), .bin false .leq (.s 1) (.s 0)⟩,
    ⟨.push, 14, none, .pick (.s 3) (.s 0) (.c (.bool false))⟩,
    ⟨.var 3, 6, none, .mov (.s 0)⟩])
 (.ret)), [.t 3]⟩
noncomputable def t_impl_in : List (Nat × Ctr) := []
noncomputable def c_impl_in : Ctr := mkF t_impl_in ir51 [.bor, .bor, .bor]
theorem s_impl_in : Sound Tryd.prog 51 c_impl_in := mkF_sound _ rfl snd_nil (by kernel_rfl : chkFn Tryd.prog 51 ir51 ir51_v = true)
theorem M_impl_in : c_impl_in.modes = [.bor, .bor, .bor] := rfl
theorem Fl_impl_in : c_impl_in.flat = true := rfl
attribute [go_sem] M_impl_in Fl_impl_in
theorem Fs_impl_in {n : Int} {low : Int} {high : Int} {y_ : Bool} (h : impl_in n low high = some y_) : c_impl_in.F [.int .i64 n, .int .i64 low, .int .i64 high] = ⟨true, .bool y_, [.any, .any, .any]⟩ := by
  refine mkF_E rfl ?_
  dsimp only [impl_in] at h
  obtain rfl := so_some h
  refine ⟨0, fun L hL => ?_⟩
  simp only [go_sem, ir51]


def ir100_v : List Nat := [0, 1, 4, 5]
def ir100 : AFn := ⟨2, 4, .seq (.region false [
    ⟨.var 2, 4, none, .mov (.c (.int .i64 (0)))⟩])
 (.seq (.region false [
    ⟨.push, 6, none, .mov (.v 0)⟩,
    ⟨.push, 7, none, .mov (.v 1)⟩,
    ⟨.push, 8, none, .bin false .quo (.s 1) (.s 0)⟩,
    ⟨.var 3, 5, none, .mov (.s 0)⟩])
 (.seq (.test false [
    ⟨.push, 9, none, .mov (.v 0)⟩,
    ⟨.push, 10, none, .mov (.v 1)⟩,
    ⟨.push, 11, none, .bin false .rem (.s 1) (.s 0)⟩,
    ⟨.push, 12, none, .bin false .lss (.s 0) (.c (.int .i64 (0)))⟩] (.s 0)
  (.region false [
     ⟨.push, 13, none, .mov (.v 3)⟩,
     ⟨.push, 14, none, .bin false .sub (.s 0) (.c (.int .i64 (1)))⟩,
     ⟨.var 3, 5, none, .mov (.s 0)⟩])
  (.skip))
 (.seq (.region false [
    ⟨.push, 15, none, .mov (.v 3)⟩,
    ⟨.var 2, 4, none, .mov (.s 0)⟩])
 (.ret)))), [.t 2]⟩
noncomputable def t_impl_floorDiv : List (Nat × Ctr) := []
noncomputable def c_impl_floorDiv : Ctr := mkF t_impl_floorDiv ir100 [.bor, .bor]
theorem s_impl_floorDiv : Sound Tryd.prog 100 c_impl_floorDiv := mkF_sound _ rfl snd_nil (by kernel_rfl : chkFn Tryd.prog 100 ir100 ir100_v = true)
theorem M_impl_floorDiv : c_impl_floorDiv.modes = [.bor, .bor] := rfl
theorem Fl_impl_floorDiv : c_impl_floorDiv.flat = true := rfl
attribute [go_sem] M_impl_floorDiv Fl_impl_floorDiv
theorem Fs_impl_floorDiv {a : Int} {b : Int} {y_ : Int} (h : impl_floorDiv a b = some y_) : c_impl_floorDiv.F [.int .i64 a, .int .i64 b] = ⟨true, .int .i64 y_, [.any, .any]⟩ := by
  refine mkF_E rfl ?_
  dsimp only [impl_floorDiv] at h
  obtain ⟨hk1, h⟩ := ck_some h
  try simp only [go_sem, n1, n2, n3, n4] at hk1
  all_goals
  rcases it_some h with ⟨hk2, h⟩ | ⟨hk2, h⟩
  · try simp only [go_sem, n1, n2, n3, n4, hk1] at hk2
    all_goals
    obtain rfl := so_some h
    refine ⟨0, fun L hL => ?_⟩
    simp only [go_sem, ir100, hk1, hk2]
  · try simp only [go_sem, n1, n2, n3, n4, hk1] at hk2
    all_goals
    obtain rfl := so_some h
    refine ⟨0, fun L hL => ?_⟩
    simp only [go_sem, ir100, hk1, hk2]


def ir69_v : List Nat := [0, 1, 4]
def ir69 : AFn := ⟨2, 3, .seq (.region false [
    ⟨.var 2, 4, none, .mov (.c (.int .i64 (0)))⟩])
 (.seq (.region false [
    ⟨.push, 5, none, .mov (.v 0)⟩,
    ⟨.push, 6, none, .un .neg (.s 0)⟩,
    ⟨.push, 7, none, .mov (.v 1)⟩,
    ⟨.push, 8, none, .call 100 [(.s 1), (.s 0)]⟩,
    ⟨.push, 9, none, .un .neg (.s 0)⟩,
    ⟨.var 2, 4, none, .mov (.s 0)⟩])
 (.ret)), [.t 2]⟩
noncomputable def t_impl_ceilDiv : List (Nat × Ctr) := [(100, c_impl_floorDiv)]
theorem lk_impl_ceilDiv_100 : look t_impl_ceilDiv 100 = some c_impl_floorDiv := rfl
noncomputable def c_impl_ceilDiv : Ctr := mkF t_impl_ceilDiv ir69 [.bor, .bor]
theorem s_impl_ceilDiv : Sound Tryd.prog 69 c_impl_ceilDiv := mkF_sound _ rfl (snd_cons s_impl_floorDiv snd_nil) (by kernel_rfl : chkFn Tryd.prog 69 ir69 ir69_v = true)
theorem M_impl_ceilDiv : c_impl_ceilDiv.modes = [.bor, .bor] := rfl
theorem Fl_impl_ceilDiv : c_impl_ceilDiv.flat = true := rfl
attribute [go_sem] M_impl_ceilDiv Fl_impl_ceilDiv
attribute [go_sem] lk_impl_ceilDiv_100
theorem Fs_impl_ceilDiv {a : Int} {b : Int} {y_ : Int} (h : impl_ceilDiv a b = some y_) : c_impl_ceilDiv.F [.int .i64 a, .int .i64 b] = ⟨true, .int .i64 y_, [.any, .any]⟩ := by
  refine mkF_E rfl ?_
  dsimp only [impl_ceilDiv] at h
  obtain ⟨y_1, hk1, h⟩ := bd_some h
  have fhk1 := Fs_impl_floorDiv hk1
  try simp only [go_sem] at fhk1
  obtain rfl := so_some h
  refine ⟨0, fun L hL => ?_⟩
  simp only [go_sem, ir69, fhk1]


def ir25_v : List Nat := [0, 1, 2, 6, 7, 8]
def ir25 : AFn := ⟨3, 6, .seq (.region false [
    ⟨.var 3, 6, none, .mov (.c (.int .i64 (0)))⟩,
    ⟨.var 4, 7, none, .mov (.c (.int .i64 (0)))⟩])
 (.seq (.test false [
    ⟨.push, 9, none, .mov (.v 0)⟩,
    ⟨.push, 10, none, .call 51 [(.s 0), (.c (.int .i64 (0))), (.c (.int .i64 (100000)))]⟩,
    ⟨.push, 11, none, .un .not (.s 0)⟩,
    ⟨.push, 12, none, .mov (.s 0)⟩,
    ⟨.push, 13, (some ((.s 0), false)), .mov (.v 1)⟩,
    ⟨.push, 14, (some ((.s 1), false)), .call 51 [(.s 0), (.c (.int .i64 (0))), (.c (.int .i64 (23)))]⟩,
    ⟨.push, 15, (some ((.s 2), false)), .un .not (.s 0)⟩,
    ⟨.push, 16, none, .pick (.s 3) (.c (.bool true)) (.s 0)⟩,
    ⟨.push, 17, none, .mov (.s 0)⟩,
    ⟨.push, 18, (some ((.s 0), false)), .mov (.v 2)⟩,
    ⟨.push, 19, (some ((.s 1), false)), .call 51 [(.s 0), (.c (.int .i64 (0))), (.c (.int .i64 (59)))]⟩,
    ⟨.push, 20, (some ((.s 2), false)), .un .not (.s 0)⟩,
    ⟨.push, 21, none, .pick (.s 3) (.c (.bool true)) (.s 0)⟩] (.s 0)
  (.seq (.region false [
      ⟨.var 3, 6, none, .mov (.c (.int .i64 (0)))⟩,
      ⟨.var 4, 7, none, .mov (.c (.int .i64 (2)))⟩])
   (.ret))
  (.skip))
 (.seq (.region false [
    ⟨.push, 22, none, .mov (.v 0)⟩,
    ⟨.push, 23, none, .bin false .mul (.s 0) (.c (.int .i64 (10000)))⟩,
    ⟨.push, 24, none, .mov (.v 1)⟩,
    ⟨.push, 25, none, .bin false .mul (.s 0) (.c (.int .i64 (60)))⟩,
    ⟨.push, 26, none, .mov (.v 2)⟩,
    ⟨.push, 27, none, .bin false .add (.s 1) (.s 0)⟩,
    ⟨.push, 28, none, .bin false .mul (.s 0) (.c (.int .i64 (10000)))⟩,
    ⟨.push, 29, none, .call 69 [(.s 0), (.c (.int .i64 (1440)))]⟩,
    ⟨.push, 30, none, .bin false .add (.s 6) (.s 0)⟩,
    ⟨.var 5, 8, none, .mov (.s 0)⟩])
 (.seq (.test false [
    ⟨.push, 31, none, .mov (.v 5)⟩,
    ⟨.push, 32, none, .bin false .gtr (.s 0) (.c (.int .i64 (10000000)))⟩] (.s 0)
  (.seq (.region false [
      ⟨.var 3, 6, none, .mov (.c (.int .i64 (0)))⟩,
      ⟨.var 4, 7, none, .mov (.c (.int .i64 (5)))⟩])
   (.ret))
  (.skip))
 (.seq (.region false [
    ⟨.push, 33, none, .mov (.v 5)⟩,
    ⟨.var 3, 6, none, .mov (.s 0)⟩,
    ⟨.var 4, 7, none, .mov (.c (.int .i64 (0)))⟩])
 (.ret))))), [.t 3, .t 4]⟩
noncomputable def t_impl_TimeOf : List (Nat × Ctr) := [(51, c_impl_in), (69, c_impl_ceilDiv)]
theorem lk_impl_TimeOf_51 : look t_impl_TimeOf 51 = some c_impl_in := rfl
theorem lk_impl_TimeOf_69 : look t_impl_TimeOf 69 = some c_impl_ceilDiv := rfl
noncomputable def c_impl_TimeOf : Ctr := mkF t_impl_TimeOf ir25 [.bor, .bor, .bor]
theorem s_impl_TimeOf : Sound Tryd.prog 25 c_impl_TimeOf := mkF_sound _ rfl (snd_cons s_impl_in (snd_cons s_impl_ceilDiv snd_nil)) (by kernel_rfl : chkFn Tryd.prog 25 ir25 ir25_v = true)
theorem M_impl_TimeOf : c_impl_TimeOf.modes = [.bor, .bor, .bor] := rfl
theorem Fl_impl_TimeOf : c_impl_TimeOf.flat = true := rfl
attribute [go_sem] M_impl_TimeOf Fl_impl_TimeOf
attribute [go_sem] lk_impl_TimeOf_51 lk_impl_TimeOf_69
theorem Fs_impl_TimeOf {day : Int} {hour : Int} {minute : Int} {y_ : Int × Int} (h : impl_TimeOf day hour minute = some y_) : c_impl_TimeOf.F [.int .i64 day, .int .i64 hour, .int .i64 minute] = ⟨true, .tup [.int .i64 y_.1, .int .i64 y_.2], [.any, .any, .any]⟩ := by
  refine mkF_E rfl ?_
  dsimp only [impl_TimeOf] at h
  obtain ⟨y_1, hk1, h⟩ := bd_some h
  have fhk1 := Fs_impl_in hk1
  try simp only [go_sem] at fhk1
  obtain ⟨hk2, h⟩ := ck_some h
  rcases or_split hk2 with ⟨ghk2, hk2⟩ | ghk2
  · try simp only [go_sem, n1, n2, n3, n4] at ghk2
    all_goals
    obtain ⟨y_2, hhk2⟩ := Option.isSome_iff_exists.1 hk2
    have fhk2 := Fs_impl_in hhk2
    try simp only [go_sem, n1, n2, n3, n4, ghk2] at hhk2
    all_goals
    try simp only [go_sem, ghk2] at fhk2
    obtain ⟨hk3, h⟩ := ck_some h
    rcases or_split hk3 with ⟨ghk3, hk3⟩ | ghk3
    · try simp only [go_sem, n1, n2, n3, n4, ghk2, hhk2] at ghk3
      all_goals
      obtain ⟨y_3, hhk3⟩ := Option.isSome_iff_exists.1 hk3
      have fhk3 := Fs_impl_in hhk3
      try simp only [go_sem, n1, n2, n3, n4, ghk2, hhk2, ghk3] at hhk3
      all_goals
      try simp only [go_sem, ghk2, hhk2, ghk3] at fhk3
      rcases it_some h with ⟨hk4, h⟩ | ⟨hk4, h⟩
      · try simp only [go_sem, n1, n2, n3, n4, ghk2, hhk2, ghk3, hhk3] at hk4
        all_goals
        obtain rfl := so_some h
        refine ⟨0, fun L hL => ?_⟩
        simp only [go_sem, ir25, fhk1, ghk2, hhk2, fhk2, ghk3, hhk3, fhk3, hk4]
      · try simp only [go_sem, n1, n2, n3, n4, ghk2, hhk2, ghk3, hhk3] at hk4
        all_goals
        obtain ⟨y_5, hk5, h⟩ := bd_some h
        have fhk5 := Fs_impl_ceilDiv hk5
        try simp only [go_sem, ghk2, hhk2, ghk3, hhk3, hk4] at fhk5
        rcases it_some h with ⟨hk6, h⟩ | ⟨hk6, h⟩
        · try simp only [go_sem, n1, n2, n3, n4, ghk2, hhk2, ghk3, hhk3, hk4] at hk6
          all_goals
          obtain rfl := so_some h
          refine ⟨0, fun L hL => ?_⟩
          simp only [go_sem, ir25, fhk1, ghk2, hhk2, fhk2, ghk3, hhk3, fhk3, hk4, fhk5, hk6]
        · try simp only [go_sem, n1, n2, n3, n4, ghk2, hhk2, ghk3, hhk3, hk4] at hk6
          all_goals
          obtain rfl := so_some h
          refine ⟨0, fun L hL => ?_⟩
          simp only [go_sem, ir25, fhk1, ghk2, hhk2, fhk2, ghk3, hhk3, fhk3, hk4, fhk5, hk6]
    · have ghk3n := no_f ghk3
      rcases or_t ghk3n with ghk3na | ⟨ghk3na, ghk3nb⟩
      · try simp only [go_sem, n1, n2, n3, n4, ghk2, hhk2] at ghk3na
        all_goals
        (simp_all)
      · have ghk3nan := no_f ghk3na
        have ghk3nbn := no_t ghk3nb
        try simp only [go_sem, n1, n2, n3, n4, ghk2, hhk2] at ghk3nan
        all_goals
        try simp only [go_sem, n1, n2, n3, n4, ghk2, hhk2, ghk3nan] at ghk3nbn
        all_goals
        rcases it_some h with ⟨hk4, h⟩ | ⟨hk4, h⟩
        · try simp only [go_sem, n1, n2, n3, n4, ghk2, hhk2, ghk3nan, ghk3nbn] at hk4
          all_goals
          obtain rfl := so_some h
          refine ⟨0, fun L hL => ?_⟩
          simp only [go_sem, ir25, fhk1, ghk2, hhk2, fhk2, ghk3nan, ghk3nbn, hk4]
        · try simp only [go_sem, n1, n2, n3, n4, ghk2, hhk2, ghk3nan, ghk3nbn] at hk4
          all_goals
          (simp_all)
  · have ghk2n := no_f ghk2
    have ghk2nn := no_t ghk2n
    try simp only [go_sem, n1, n2, n3, n4] at ghk2nn
    all_goals
    obtain ⟨hk3, h⟩ := ck_some h
    rcases it_some h with ⟨hk4, h⟩ | ⟨hk4, h⟩
    · try simp only [go_sem, n1, n2, n3, n4, ghk2nn] at hk4
      all_goals
      obtain rfl := so_some h
      refine ⟨0, fun L hL => ?_⟩
      simp only [go_sem, ir25, fhk1, ghk2nn, hk4]
    · try simp only [go_sem, n1, n2, n3, n4, ghk2nn] at hk4
      all_goals
      (simp_all)


def ir54_v : List Nat := [0, 1, 2, 6]
def ir54 : AFn := ⟨3, 4, .seq (.region false [
    ⟨.var 3, 6, none, .mov (.c (.bool false))⟩])
 (.seq (.region false [
    ⟨.push, 7, none, .mov (.v 0)⟩,
    ⟨.push, 8, none, .mov (.v 1)⟩,
    ⟨.push, 9, none, .bin false .geq (.s 1) (.s 0)⟩,
    ⟨.push, 10, none, .mov (.s 0)⟩,
    ⟨.push, 11, (some ((.s 0), true)), .mov (.v 0)⟩,
    ⟨.push, 12, (some ((.s 1), true)), .mov (.v 2)⟩,
    ⟨.push, 13, (some ((.s 2), true)), .bin false .leq (.s 1) (.s 0)⟩,
    ⟨.push, 14, none, .pick (.s 3) (.s 0) (.c (.bool false))⟩,
    ⟨.var 3, 6, none, .mov (.s 0)⟩])
 (.ret)), [.t 3]⟩
noncomputable def t_spec_l00In : List (Nat × Ctr) := []
noncomputable def c_spec_l00In : Ctr := mkF t_spec_l00In ir54 [.bor, .bor, .bor]
theorem s_spec_l00In : Sound Tryd.prog 54 c_spec_l00In := mkF_sound _ rfl snd_nil (by kernel_rfl : chkFn Tryd.prog 54 ir54 ir54_v = true)
theorem M_spec_l00In : c_spec_l00In.modes = [.bor, .bor, .bor] := rfl
theorem Fl_spec_l00In : c_spec_l00In.flat = true := rfl
attribute [go_sem] M_spec_l00In Fl_spec_l00In
theorem Fs_spec_l00In {n : Int} {low : Int} {high : Int} {y_ : Bool} (h : spec_l00In n low high = some y_) : c_spec_l00In.F [.int .i64 n, .int .i64 low, .int .i64 high] = ⟨true, .bool y_, [.any, .any, .any]⟩ := by
  refine mkF_E rfl ?_
  dsimp only [spec_l00In] at h
  obtain rfl := so_some h
  refine ⟨0, fun L hL => ?_⟩
  simp only [go_sem, ir54]


def ir70_v : List Nat := [0, 2]
def ir70 : AFn := ⟨1, 2, .seq (.region false [
    ⟨.var 1, 2, none, .mov (.c (.bool false))⟩])
 (.seq (.region false [
    ⟨.push, 3, none, .mov (.v 0)⟩,
    ⟨.push, 4, none, .call 54 [(.s 0), (.c (.int .i64 (0))), (.c (.int .i64 (10000000)))]⟩,
    ⟨.var 1, 2, none, .mov (.s 0)⟩])
 (.ret)), [.t 1]⟩
noncomputable def t_spec_l03Time : List (Nat × Ctr) := [(54, c_spec_l00In)]
theorem lk_spec_l03Time_54 : look t_spec_l03Time 54 = some c_spec_l00In := rfl
noncomputable def c_spec_l03Time : Ctr := mkF t_spec_l03Time ir70 [.bor]
theorem s_spec_l03Time : Sound Tryd.prog 70 c_spec_l03Time := mkF_sound _ rfl (snd_cons s_spec_l00In snd_nil) (by kernel_rfl : chkFn Tryd.prog 70 ir70 ir70_v = true)
theorem M_spec_l03Time : c_spec_l03Time.modes = [.bor] := rfl
theorem Fl_spec_l03Time : c_spec_l03Time.flat = true := rfl
attribute [go_sem] M_spec_l03Time Fl_spec_l03Time
attribute [go_sem] lk_spec_l03Time_54
theorem Fs_spec_l03Time {t : Int} {y_ : Bool} (h : spec_l03Time t = some y_) : c_spec_l03Time.F [.int .i64 t] = ⟨true, .bool y_, [.any]⟩ := by
  refine mkF_E rfl ?_
  dsimp only [spec_l03Time] at h
  obtain ⟨y_1, hk1, h⟩ := bd_some h
  have fhk1 := Fs_spec_l00In hk1
  try simp only [go_sem] at fhk1
  obtain rfl := so_some h
  refine ⟨0, fun L hL => ?_⟩
  simp only [go_sem, ir70, fhk1]


def ir26_v : List Nat := [0, 1, 2, 6, 7, 8]
def ir26 : AFn := ⟨3, 6, .seq (.region false [
    ⟨.var 3, 6, none, .mov (.c (.int .i64 (0)))⟩,
    ⟨.var 4, 7, none, .mov (.c (.int .i64 (0)))⟩])
 (.seq (.test false [
    ⟨.push, 9, none, .mov (.v 0)⟩,
    ⟨.push, 10, none, .call 54 [(.s 0), (.c (.int .i64 (0))), (.c (.int .i64 (100000)))]⟩,
    ⟨.push, 11, none, .un .not (.s 0)⟩,
    ⟨.push, 12, none, .mov (.s 0)⟩,
    ⟨.push, 13, (some ((.s 0), false)), .mov (.v 1)⟩,
    ⟨.push, 14, (some ((.s 1), false)), .call 54 [(.s 0), (.c (.int .i64 (0))), (.c (.int .i64 (23)))]⟩,
    ⟨.push, 15, (some ((.s 2), false)), .un .not (.s 0)⟩,
    ⟨.push, 16, none, .pick (.s 3) (.c (.bool true)) (.s 0)⟩,
    ⟨.push, 17, none, .mov (.s 0)⟩,
    ⟨.push, 18, (some ((.s 0), false)), .mov (.v 2)⟩,
    ⟨.push, 19, (some ((.s 1), false)), .call 54 [(.s 0), (.c (.int .i64 (0))), (.c (.int .i64 (59)))]⟩,
    ⟨.push, 20, (some ((.s 2), false)), .un .not (.s 0)⟩,
    ⟨.push, 21, none, .pick (.s 3) (.c (.bool true)) (.s 0)⟩] (.s 0)
  (.seq (.region false [
      ⟨.var 3, 6, none, .mov (.c (.int .i64 (0)))⟩,
      ⟨.var 4, 7, none, .mov (.c (.int .i64 (2)))⟩])
   (.ret))
  (.skip))
 (.seq (.region false [
    ⟨.push, 22, none, .mov (.v 0)⟩,
    ⟨.push, 23, none, .bin false .mul (.s 0) (.c (.int .i64 (10000)))⟩,
    ⟨.push, 24, none, .mov (.v 1)⟩,
    ⟨.push, 25, none, .bin false .mul (.c (.int .i64 (60))) (.s 0)⟩,
    ⟨.push, 26, none, .mov (.v 2)⟩,
    ⟨.push, 27, none, .bin false .add (.s 1) (.s 0)⟩,
    ⟨.push, 28, none, .bin false .mul (.s 0) (.c (.int .i64 (10000)))⟩,
    ⟨.push, 29, none, .bin false .add (.s 0) (.c (.int .i64 (1439)))⟩,
    ⟨.push, 30, none, .bin false .quo (.s 0) (.c (.int .i64 (1440)))⟩,
    ⟨.push, 31, none, .bin false .add (.s 7) (.s 0)⟩,
    ⟨.var 5, 8, none, .mov (.s 0)⟩])
 (.seq (.test false [
    ⟨.push, 32, none, .mov (.v 5)⟩,
    ⟨.push, 33, none, .call 70 [(.s 0)]⟩,
    ⟨.push, 34, none, .un .not (.s 0)⟩] (.s 0)
  (.seq (.region false [
      ⟨.var 3, 6, none, .mov (.c (.int .i64 (0)))⟩,
      ⟨.var 4, 7, none, .mov (.c (.int .i64 (5)))⟩])
   (.ret))
  (.skip))
 (.seq (.region false [
    ⟨.push, 35, none, .mov (.v 5)⟩,
    ⟨.var 3, 6, none, .mov (.s 0)⟩,
    ⟨.var 4, 7, none, .mov (.c (.int .i64 (0)))⟩])
 (.ret))))), [.t 3, .t 4]⟩
noncomputable def t_spec_TimeOf : List (Nat × Ctr) := [(54, c_spec_l00In), (70, c_spec_l03Time)]
theorem lk_spec_TimeOf_54 : look t_spec_TimeOf 54 = some c_spec_l00In := rfl
theorem lk_spec_TimeOf_70 : look t_spec_TimeOf 70 = some c_spec_l03Time := rfl
noncomputable def c_spec_TimeOf : Ctr := mkF t_spec_TimeOf ir26 [.bor, .bor, .bor]
theorem s_spec_TimeOf : Sound Tryd.prog 26 c_spec_TimeOf := mkF_sound _ rfl (snd_cons s_spec_l00In (snd_cons s_spec_l03Time snd_nil)) (by kernel_rfl : chkFn Tryd.prog 26 ir26 ir26_v = true)
theorem M_spec_TimeOf : c_spec_TimeOf.modes = [.bor, .bor, .bor] := rfl
theorem Fl_spec_TimeOf : c_spec_TimeOf.flat = true := rfl
attribute [go_sem] M_spec_TimeOf Fl_spec_TimeOf
attribute [go_sem] lk_spec_TimeOf_54 lk_spec_TimeOf_70
theorem Fs_spec_TimeOf {day : Int} {hour : Int} {minute : Int} {y_ : Int × Int} (h : spec_TimeOf day hour minute = some y_) : c_spec_TimeOf.F [.int .i64 day, .int .i64 hour, .int .i64 minute] = ⟨true, .tup [.int .i64 y_.1, .int .i64 y_.2], [.any, .any, .any]⟩ := by
  refine mkF_E rfl ?_
  dsimp only [spec_TimeOf] at h
  obtain ⟨y_1, hk1, h⟩ := bd_some h
  have fhk1 := Fs_spec_l00In hk1
  try simp only [go_sem] at fhk1
  obtain ⟨hk2, h⟩ := ck_some h
  rcases or_split hk2 with ⟨ghk2, hk2⟩ | ghk2
  · try simp only [go_sem, n1, n2, n3, n4] at ghk2
    all_goals
    obtain ⟨y_2, hhk2⟩ := Option.isSome_iff_exists.1 hk2
    have fhk2 := Fs_spec_l00In hhk2
    try simp only [go_sem, n1, n2, n3, n4, ghk2] at hhk2
    all_goals
    try simp only [go_sem, ghk2] at fhk2
    obtain ⟨hk3, h⟩ := ck_some h
    rcases or_split hk3 with ⟨ghk3, hk3⟩ | ghk3
    · try simp only [go_sem, n1, n2, n3, n4, ghk2, hhk2] at ghk3
      all_goals
      obtain ⟨y_3, hhk3⟩ := Option.isSome_iff_exists.1 hk3
      have fhk3 := Fs_spec_l00In hhk3
      try simp only [go_sem, n1, n2, n3, n4, ghk2, hhk2, ghk3] at hhk3
      all_goals
      try simp only [go_sem, ghk2, hhk2, ghk3] at fhk3
      rcases it_some h with ⟨hk4, h⟩ | ⟨hk4, h⟩
      · try simp only [go_sem, n1, n2, n3, n4, ghk2, hhk2, ghk3, hhk3] at hk4
        all_goals
        obtain rfl := so_some h
        refine ⟨0, fun L hL => ?_⟩
        simp only [go_sem, ir26, fhk1, ghk2, hhk2, fhk2, ghk3, hhk3, fhk3, hk4]
      · try simp only [go_sem, n1, n2, n3, n4, ghk2, hhk2, ghk3, hhk3] at hk4
        all_goals
        obtain ⟨hk5, h⟩ := ck_some h
        try simp only [go_sem, n1, n2, n3, n4, ghk2, hhk2, ghk3, hhk3, hk4] at hk5
        all_goals
        obtain ⟨y_6, hk6, h⟩ := bd_some h
        have fhk6 := Fs_spec_l03Time hk6
        try simp only [go_sem, ghk2, hhk2, ghk3, hhk3, hk4, hk5] at fhk6
        rcases it_some h with ⟨hk7, h⟩ | ⟨hk7, h⟩
        · try simp only [go_sem, n1, n2, n3, n4, ghk2, hhk2, ghk3, hhk3, hk4, hk5] at hk7
          all_goals
          obtain rfl := so_some h
          refine ⟨0, fun L hL => ?_⟩
          simp only [go_sem, ir26, fhk1, ghk2, hhk2, fhk2, ghk3, hhk3, fhk3, hk4, hk5, fhk6, hk7]
        · try simp only [go_sem, n1, n2, n3, n4, ghk2, hhk2, ghk3, hhk3, hk4, hk5] at hk7
          all_goals
          obtain rfl := so_some h
          refine ⟨0, fun L hL => ?_⟩
          simp only [go_sem, ir26, fhk1, ghk2, hhk2, fhk2, ghk3, hhk3, fhk3, hk4, hk5, fhk6, hk7]
    · have ghk3n := no_f ghk3
      rcases or_t ghk3n with ghk3na | ⟨ghk3na, ghk3nb⟩
      · try simp only [go_sem, n1, n2, n3, n4, ghk2, hhk2] at ghk3na
        all_goals
        (simp_all)
      · have ghk3nan := no_f ghk3na
        have ghk3nbn := no_t ghk3nb
        try simp only [go_sem, n1, n2, n3, n4, ghk2, hhk2] at ghk3nan
        all_goals
        try simp only [go_sem, n1, n2, n3, n4, ghk2, hhk2, ghk3nan] at ghk3nbn
        all_goals
        rcases it_some h with ⟨hk4, h⟩ | ⟨hk4, h⟩
        · try simp only [go_sem, n1, n2, n3, n4, ghk2, hhk2, ghk3nan, ghk3nbn] at hk4
          all_goals
          obtain rfl := so_some h
          refine ⟨0, fun L hL => ?_⟩
          simp only [go_sem, ir26, fhk1, ghk2, hhk2, fhk2, ghk3nan, ghk3nbn, hk4]
        · try simp only [go_sem, n1, n2, n3, n4, ghk2, hhk2, ghk3nan, ghk3nbn] at hk4
          all_goals
          (simp_all)
  · have ghk2n := no_f ghk2
    have ghk2nn := no_t ghk2n
    try simp only [go_sem, n1, n2, n3, n4] at ghk2nn
    all_goals
    obtain ⟨hk3, h⟩ := ck_some h
    rcases it_some h with ⟨hk4, h⟩ | ⟨hk4, h⟩
    · try simp only [go_sem, n1, n2, n3, n4, ghk2nn] at hk4
      all_goals
      obtain rfl := so_some h
      refine ⟨0, fun L hL => ?_⟩
      simp only [go_sem, ir26, fhk1, ghk2nn, hk4]
    · try simp only [go_sem, n1, n2, n3, n4, ghk2nn] at hk4
      all_goals
      (simp_all)


def ir71_v : List Nat := [0, 2, 3]
def ir71 : AFn := ⟨1, 3, .seq (.region false [
    ⟨.var 1, 2, none, .mov (.c (.int .i64 (0)))⟩])
 (.seq (.test false [
    ⟨.push, 4, none, .mov (.v 0)⟩,
    ⟨.push, 5, none, .call 64 [(.s 0), (.c (.int .i64 (10)))]⟩] (.s 0)
  (.seq (.region false [
      ⟨.push, 6, none, .mov (.v 0)⟩,
      ⟨.push, 7, none, .mkSl 1 (.int .i64 (0)) 5 [(0, (.c (.int .i64 (-1)))), (1, (.c (.int .i64 (0)))), (2, (.c (.int .i64 (10000000)))), (3, (.c (.int .i64 (10000001)))), (4, (.c (.int .i64 (-9223372036854775808))))]⟩,
      ⟨.push, 8, none, .call 94 [(.s 1), (.s 0)]⟩,
      ⟨.var 1, 2, none, .mov (.s 0)⟩])
   (.ret))
  (.skip))
 (.seq (.region false [
    ⟨.push, 9, none, .mov (.v 0)⟩,
    ⟨.push, 10, none, .call 68 [(.s 0), (.c (.int .i64 (999)))]⟩,
    ⟨.var 2, 3, none, .mov (.s 0)⟩])
 (.seq (.region false [
    ⟨.push, 11, none, .mov (.v 2)⟩,
    ⟨.push, 12, none, .bin false .mul (.s 0) (.c (.int .i64 (10000)))⟩,
    ⟨.push, 13, none, .mov (.v 0)⟩,
    ⟨.push, 14, none, .call 68 [(.s 0), (.c (.int .i64 (10000)))]⟩,
    ⟨.push, 15, none, .bin false .add (.s 2) (.s 0)⟩,
    ⟨.var 1, 2, none, .mov (.s 0)⟩])
 (.ret)))), [.t 1]⟩
noncomputable def t_spec_l03When : List (Nat × Ctr) := [(64, c_spec_l00Src_one), (94, c_spec_l00Src_among), (68, c_spec_l00Src_pick)]
theorem lk_spec_l03When_64 : look t_spec_l03When 64 = some c_spec_l00Src_one := rfl
theorem lk_spec_l03When_94 : look t_spec_l03When 94 = some c_spec_l00Src_among := rfl
theorem lk_spec_l03When_68 : look t_spec_l03When 68 = some c_spec_l00Src_pick := rfl
noncomputable def c_spec_l03When : Ctr := mkN t_spec_l03When ir71 [.io]
theorem s_spec_l03When : Sound Tryd.prog 71 c_spec_l03When := mkN_sound _ (snd_cons s_spec_l00Src_one (snd_cons s_spec_l00Src_among (snd_cons s_spec_l00Src_pick snd_nil))) (by kernel_rfl : chkFn Tryd.prog 71 ir71 ir71_v = true)
theorem M_spec_l03When : c_spec_l03When.modes = [.io] := rfl
theorem Fl_spec_l03When : c_spec_l03When.flat = false := rfl
attribute [go_sem] M_spec_l03When Fl_spec_l03When
attribute [go_sem] lk_spec_l03When_64 lk_spec_l03When_94 lk_spec_l03When_68
theorem Fs_spec_l03When {s_ : L00Src} {y_ : Int × L00Src} (h : spec_l03When s_ = some y_) : c_spec_l03When.F [.mem 3 [L00Src_av s_]] = ⟨true, .int .i64 y_.1, [.mem 3 [L00Src_av y_.2]]⟩ := by
  refine mkN_E ?_
  dsimp only [spec_l03When] at h
  obtain ⟨y_1, hk1, h⟩ := bd_some h
  have fhk1 := Fs_spec_l00Src_one hk1
  try simp only [go_sem] at fhk1
  rcases it_some h with ⟨hk2, h⟩ | ⟨hk2, h⟩
  · try simp only [go_sem, n1, n2, n3, n4] at hk2
    all_goals
    obtain ⟨y_3, hk3, h⟩ := bd_some h
    have fhk3 := Fs_spec_l00Src_among hk3
    try simp only [go_sem, hk2] at fhk3
    obtain rfl := so_some h
    refine ⟨0, fun L hL => ?_⟩
    simp only [go_sem, ir71, fhk1, hk2, fhk3]
  · try simp only [go_sem, n1, n2, n3, n4] at hk2
    all_goals
    obtain ⟨y_4, hk4, h⟩ := bd_some h
    have fhk4 := Fs_spec_l00Src_pick hk4
    try simp only [go_sem, hk2] at fhk4
    obtain ⟨y_5, hk5, h⟩ := bd_some h
    have fhk5 := Fs_spec_l00Src_pick hk5
    try simp only [go_sem, hk2] at fhk5
    obtain rfl := so_some h
    refine ⟨0, fun L hL => ?_⟩
    simp only [go_sem, ir71, fhk1, hk2, fhk4, fhk5]


def ir27_v : List Nat := [0, 2]
def ir27 : AFn := ⟨1, 2, .seq (.region false [
    ⟨.var 1, 2, none, .mov (.c (.int .i64 (0)))⟩])
 (.seq (.region false [
    ⟨.push, 3, none, .mov (.v 0)⟩,
    ⟨.push, 4, none, .call 50 [(.s 0)]⟩,
    ⟨.push, 5, none, .call 71 [(.s 0)]⟩,
    ⟨.var 1, 2, none, .mov (.s 0)⟩])
 (.ret)), [.t 1]⟩
noncomputable def t_spec_DrawClockOf : List (Nat × Ctr) := [(50, c_spec_l00From), (71, c_spec_l03When)]
theorem lk_spec_DrawClockOf_50 : look t_spec_DrawClockOf 50 = some c_spec_l00From := rfl
theorem lk_spec_DrawClockOf_71 : look t_spec_DrawClockOf 71 = some c_spec_l03When := rfl
noncomputable def c_spec_DrawClockOf : Ctr := mkF t_spec_DrawClockOf ir27 [.bor]
theorem s_spec_DrawClockOf : Sound Tryd.prog 27 c_spec_DrawClockOf := mkF_sound _ rfl (snd_cons s_spec_l00From (snd_cons s_spec_l03When snd_nil)) (by kernel_rfl : chkFn Tryd.prog 27 ir27 ir27_v = true)
theorem M_spec_DrawClockOf : c_spec_DrawClockOf.modes = [.bor] := rfl
theorem Fl_spec_DrawClockOf : c_spec_DrawClockOf.flat = true := rfl
attribute [go_sem] M_spec_DrawClockOf Fl_spec_DrawClockOf
attribute [go_sem] lk_spec_DrawClockOf_50 lk_spec_DrawClockOf_71
theorem Fs_spec_DrawClockOf {code : List UInt8} {y_ : Int} (h : spec_DrawClockOf code = some y_) : c_spec_DrawClockOf.F [.sl 1 (List.map byteAV code)] = ⟨true, .int .i64 y_, [.any]⟩ := by
  refine mkF_E rfl ?_
  dsimp only [spec_DrawClockOf] at h
  obtain ⟨y_1, hk1, h⟩ := bd_some h
  have fhk1 := Fs_spec_l00From hk1
  try simp only [go_sem] at fhk1
  obtain ⟨y_2, hk2, h⟩ := bd_some h
  have fhk2 := Fs_spec_l03When hk2
  try simp only [go_sem] at fhk2
  obtain rfl := so_some h
  refine ⟨0, fun L hL => ?_⟩
  simp only [go_sem, ir27, fhk1, fhk2]


def ir42_v : List Nat := [0, 2]
def ir42 : AFn := ⟨1, 2, .seq (.region false [
    ⟨.var 1, 2, none, .mov (.c (.bool false))⟩])
 (.seq (.region false [
    ⟨.push, 3, none, .mov (.v 0)⟩,
    ⟨.push, 4, none, .call 51 [(.s 0), (.c (.int .i64 (0))), (.c (.int .i64 (10000000)))]⟩,
    ⟨.var 1, 2, none, .mov (.s 0)⟩])
 (.ret)), [.t 1]⟩
noncomputable def t_impl_ValidTime : List (Nat × Ctr) := [(51, c_impl_in)]
theorem lk_impl_ValidTime_51 : look t_impl_ValidTime 51 = some c_impl_in := rfl
noncomputable def c_impl_ValidTime : Ctr := mkF t_impl_ValidTime ir42 [.bor]
theorem s_impl_ValidTime : Sound Tryd.prog 42 c_impl_ValidTime := mkF_sound _ rfl (snd_cons s_impl_in snd_nil) (by kernel_rfl : chkFn Tryd.prog 42 ir42 ir42_v = true)
theorem M_impl_ValidTime : c_impl_ValidTime.modes = [.bor] := rfl
theorem Fl_impl_ValidTime : c_impl_ValidTime.flat = true := rfl
attribute [go_sem] M_impl_ValidTime Fl_impl_ValidTime
attribute [go_sem] lk_impl_ValidTime_51
theorem Fs_impl_ValidTime {t : Int} {y_ : Bool} (h : impl_ValidTime t = some y_) : c_impl_ValidTime.F [.int .i64 t] = ⟨true, .bool y_, [.any]⟩ := by
  refine mkF_E rfl ?_
  dsimp only [impl_ValidTime] at h
  obtain ⟨y_1, hk1, h⟩ := bd_some h
  have fhk1 := Fs_impl_in hk1
  try simp only [go_sem] at fhk1
  obtain rfl := so_some h
  refine ⟨0, fun L hL => ?_⟩
  simp only [go_sem, ir42, fhk1]


def ir28_v : List Nat := [0, 2, 3, 4, 5]
def ir28 : AFn := ⟨1, 5, .seq (.region false [
    ⟨.var 1, 2, none, .mov (.c (.int .i64 (0)))⟩,
    ⟨.var 2, 3, none, .mov (.c (.int .i64 (0)))⟩,
    ⟨.var 3, 4, none, .mov (.c (.int .i64 (0)))⟩])
 (.seq (.test false [
    ⟨.push, 6, none, .mov (.v 0)⟩,
    ⟨.push, 7, none, .call 42 [(.s 0)]⟩,
    ⟨.push, 8, none, .un .not (.s 0)⟩] (.s 0)
  (.seq (.region false [
      ⟨.var 1, 2, none, .mov (.c (.int .i64 (0)))⟩,
      ⟨.var 2, 3, none, .mov (.c (.int .i64 (0)))⟩,
      ⟨.var 3, 4, none, .mov (.c (.int .i64 (2)))⟩])
   (.ret))
  (.skip))
 (.seq (.region false [
    ⟨.push, 9, none, .mov (.v 0)⟩,
    ⟨.push, 10, none, .bin false .rem (.s 0) (.c (.int .i64 (10000)))⟩,
    ⟨.push, 11, none, .bin false .mul (.s 0) (.c (.int .i64 (1440)))⟩,
    ⟨.push, 12, none, .bin false .quo (.s 0) (.c (.int .i64 (10000)))⟩,
    ⟨.var 4, 5, none, .mov (.s 0)⟩])
 (.seq (.region false [
    ⟨.push, 13, none, .mov (.v 4)⟩,
    ⟨.push, 14, none, .bin false .quo (.s 0) (.c (.int .i64 (60)))⟩,
    ⟨.push, 15, none, .mov (.v 4)⟩,
    ⟨.push, 16, none, .bin false .rem (.s 0) (.c (.int .i64 (60)))⟩,
    ⟨.var 1, 2, none, .mov (.s 2)⟩,
    ⟨.var 2, 3, none, .mov (.s 0)⟩,
    ⟨.var 3, 4, none, .mov (.c (.int .i64 (0)))⟩])
 (.ret)))), [.t 1, .t 2, .t 3]⟩
noncomputable def t_impl_ClockOf : List (Nat × Ctr) := [(42, c_impl_ValidTime)]
theorem lk_impl_ClockOf_42 : look t_impl_ClockOf 42 = some c_impl_ValidTime := rfl
noncomputable def c_impl_ClockOf : Ctr := mkF t_impl_ClockOf ir28 [.bor]
theorem s_impl_ClockOf : Sound Tryd.prog 28 c_impl_ClockOf := mkF_sound _ rfl (snd_cons s_impl_ValidTime snd_nil) (by kernel_rfl : chkFn Tryd.prog 28 ir28 ir28_v = true)
theorem M_impl_ClockOf : c_impl_ClockOf.modes = [.bor] := rfl
theorem Fl_impl_ClockOf : c_impl_ClockOf.flat = true := rfl
attribute [go_sem] M_impl_ClockOf Fl_impl_ClockOf
attribute [go_sem] lk_impl_ClockOf_42
theorem Fs_impl_ClockOf {t : Int} {y_ : Int × Int × Int} (h : impl_ClockOf t = some y_) : c_impl_ClockOf.F [.int .i64 t] = ⟨true, .tup [.int .i64 y_.1, .int .i64 y_.2.1, .int .i64 y_.2.2], [.any]⟩ := by
  refine mkF_E rfl ?_
  dsimp only [impl_ClockOf] at h
  obtain ⟨y_1, hk1, h⟩ := bd_some h
  have fhk1 := Fs_impl_ValidTime hk1
  try simp only [go_sem] at fhk1
  rcases it_some h with ⟨hk2, h⟩ | ⟨hk2, h⟩
  · try simp only [go_sem, n1, n2, n3, n4] at hk2
    all_goals
    obtain rfl := so_some h
    refine ⟨0, fun L hL => ?_⟩
    simp only [go_sem, ir28, fhk1, hk2]
  · try simp only [go_sem, n1, n2, n3, n4] at hk2
    all_goals
    obtain ⟨hk3, h⟩ := ck_some h
    try simp only [go_sem, n1, n2, n3, n4, hk2] at hk3
    all_goals
    obtain ⟨hk4, h⟩ := ck_some h
    try simp only [go_sem, n1, n2, n3, n4, hk2, hk3] at hk4
    all_goals
    obtain rfl := so_some h
    refine ⟨0, fun L hL => ?_⟩
    simp only [go_sem, ir28, fhk1, hk2, hk3, hk4]


def ir29_v : List Nat := [0, 2, 3, 4, 5]
def ir29 : AFn := ⟨1, 5, .seq (.region false [
    ⟨.var 1, 2, none, .mov (.c (.int .i64 (0)))⟩,
    ⟨.var 2, 3, none, .mov (.c (.int .i64 (0)))⟩,
    ⟨.var 3, 4, none, .mov (.c (.int .i64 (0)))⟩])
 (.seq (.test false [
    ⟨.push, 6, none, .mov (.v 0)⟩,
    ⟨.push, 7, none, .call 70 [(.s 0)]⟩,
    ⟨.push, 8, none, .un .not (.s 0)⟩] (.s 0)
  (.seq (.region false [
      ⟨.var 1, 2, none, .mov (.c (.int .i64 (0)))⟩,
      ⟨.var 2, 3, none, .mov (.c (.int .i64 (0)))⟩,
      ⟨.var 3, 4, none, .mov (.c (.int .i64 (2)))⟩])
   (.ret))
  (.skip))
 (.seq (.region false [
    ⟨.push, 9, none, .mov (.v 0)⟩,
    ⟨.push, 10, none, .bin false .rem (.s 0) (.c (.int .i64 (10000)))⟩,
    ⟨.push, 11, none, .bin false .mul (.s 0) (.c (.int .i64 (1440)))⟩,
    ⟨.push, 12, none, .bin false .quo (.s 0) (.c (.int .i64 (10000)))⟩,
    ⟨.var 4, 5, none, .mov (.s 0)⟩])
 (.seq (.region false [
    ⟨.push, 13, none, .mov (.v 4)⟩,
    ⟨.push, 14, none, .bin false .quo (.s 0) (.c (.int .i64 (60)))⟩,
    ⟨.push, 15, none, .mov (.v 4)⟩,
    ⟨.push, 16, none, .bin false .rem (.s 0) (.c (.int .i64 (60)))⟩,
    ⟨.var 1, 2, none, .mov (.s 2)⟩,
    ⟨.var 2, 3, none, .mov (.s 0)⟩,
    ⟨.var 3, 4, none, .mov (.c (.int .i64 (0)))⟩])
 (.ret)))), [.t 1, .t 2, .t 3]⟩
noncomputable def t_spec_ClockOf : List (Nat × Ctr) := [(70, c_spec_l03Time)]
theorem lk_spec_ClockOf_70 : look t_spec_ClockOf 70 = some c_spec_l03Time := rfl
noncomputable def c_spec_ClockOf : Ctr := mkF t_spec_ClockOf ir29 [.bor]
theorem s_spec_ClockOf : Sound Tryd.prog 29 c_spec_ClockOf := mkF_sound _ rfl (snd_cons s_spec_l03Time snd_nil) (by kernel_rfl : chkFn Tryd.prog 29 ir29 ir29_v = true)
theorem M_spec_ClockOf : c_spec_ClockOf.modes = [.bor] := rfl
theorem Fl_spec_ClockOf : c_spec_ClockOf.flat = true := rfl
attribute [go_sem] M_spec_ClockOf Fl_spec_ClockOf
attribute [go_sem] lk_spec_ClockOf_70
theorem Fs_spec_ClockOf {t : Int} {y_ : Int × Int × Int} (h : spec_ClockOf t = some y_) : c_spec_ClockOf.F [.int .i64 t] = ⟨true, .tup [.int .i64 y_.1, .int .i64 y_.2.1, .int .i64 y_.2.2], [.any]⟩ := by
  refine mkF_E rfl ?_
  dsimp only [spec_ClockOf] at h
  obtain ⟨y_1, hk1, h⟩ := bd_some h
  have fhk1 := Fs_spec_l03Time hk1
  try simp only [go_sem] at fhk1
  rcases it_some h with ⟨hk2, h⟩ | ⟨hk2, h⟩
  · try simp only [go_sem, n1, n2, n3, n4] at hk2
    all_goals
    obtain rfl := so_some h
    refine ⟨0, fun L hL => ?_⟩
    simp only [go_sem, ir29, fhk1, hk2]
  · try simp only [go_sem, n1, n2, n3, n4] at hk2
    all_goals
    obtain ⟨hk3, h⟩ := ck_some h
    try simp only [go_sem, n1, n2, n3, n4, hk2] at hk3
    all_goals
    obtain ⟨hk4, h⟩ := ck_some h
    try simp only [go_sem, n1, n2, n3, n4, hk2, hk3] at hk4
    all_goals
    obtain rfl := so_some h
    refine ⟨0, fun L hL => ?_⟩
    simp only [go_sem, ir29, fhk1, hk2, hk3, hk4]


def ir30_v : List Nat := [0, 2]
def ir30 : AFn := ⟨1, 2, .seq (.region false [
    ⟨.var 1, 2, none, .mov (.c (.int .i64 (0)))⟩])
 (.seq (.region false [
    ⟨.push, 3, none, .mov (.v 0)⟩,
    ⟨.push, 4, none, .call 50 [(.s 0)]⟩,
    ⟨.push, 5, none, .call 71 [(.s 0)]⟩,
    ⟨.var 1, 2, none, .mov (.s 0)⟩])
 (.ret)), [.t 1]⟩
noncomputable def t_spec_DrawDayOf : List (Nat × Ctr) := [(50, c_spec_l00From), (71, c_spec_l03When)]
theorem lk_spec_DrawDayOf_50 : look t_spec_DrawDayOf 50 = some c_spec_l00From := rfl
theorem lk_spec_DrawDayOf_71 : look t_spec_DrawDayOf 71 = some c_spec_l03When := rfl
noncomputable def c_spec_DrawDayOf : Ctr := mkF t_spec_DrawDayOf ir30 [.bor]
theorem s_spec_DrawDayOf : Sound Tryd.prog 30 c_spec_DrawDayOf := mkF_sound _ rfl (snd_cons s_spec_l00From (snd_cons s_spec_l03When snd_nil)) (by kernel_rfl : chkFn Tryd.prog 30 ir30 ir30_v = true)
theorem M_spec_DrawDayOf : c_spec_DrawDayOf.modes = [.bor] := rfl
theorem Fl_spec_DrawDayOf : c_spec_DrawDayOf.flat = true := rfl
attribute [go_sem] M_spec_DrawDayOf Fl_spec_DrawDayOf
attribute [go_sem] lk_spec_DrawDayOf_50 lk_spec_DrawDayOf_71
theorem Fs_spec_DrawDayOf {code : List UInt8} {y_ : Int} (h : spec_DrawDayOf code = some y_) : c_spec_DrawDayOf.F [.sl 1 (List.map byteAV code)] = ⟨true, .int .i64 y_, [.any]⟩ := by
  refine mkF_E rfl ?_
  dsimp only [spec_DrawDayOf] at h
  obtain ⟨y_1, hk1, h⟩ := bd_some h
  have fhk1 := Fs_spec_l00From hk1
  try simp only [go_sem] at fhk1
  obtain ⟨y_2, hk2, h⟩ := bd_some h
  have fhk2 := Fs_spec_l03When hk2
  try simp only [go_sem] at fhk2
  obtain rfl := so_some h
  refine ⟨0, fun L hL => ?_⟩
  simp only [go_sem, ir30, fhk1, fhk2]


def ir31_v : List Nat := [0, 2, 3]
def ir31 : AFn := ⟨1, 3, .seq (.region false [
    ⟨.var 1, 2, none, .mov (.c (.int .i64 (0)))⟩,
    ⟨.var 2, 3, none, .mov (.c (.int .i64 (0)))⟩])
 (.seq (.test false [
    ⟨.push, 4, none, .mov (.v 0)⟩,
    ⟨.push, 5, none, .call 42 [(.s 0)]⟩,
    ⟨.push, 6, none, .un .not (.s 0)⟩] (.s 0)
  (.seq (.region false [
      ⟨.var 1, 2, none, .mov (.c (.int .i64 (0)))⟩,
      ⟨.var 2, 3, none, .mov (.c (.int .i64 (2)))⟩])
   (.ret))
  (.skip))
 (.seq (.region false [
    ⟨.push, 7, none, .mov (.v 0)⟩,
    ⟨.push, 8, none, .bin false .quo (.s 0) (.c (.int .i64 (10000)))⟩,
    ⟨.var 1, 2, none, .mov (.s 0)⟩,
    ⟨.var 2, 3, none, .mov (.c (.int .i64 (0)))⟩])
 (.ret))), [.t 1, .t 2]⟩
noncomputable def t_impl_DayOf : List (Nat × Ctr) := [(42, c_impl_ValidTime)]
theorem lk_impl_DayOf_42 : look t_impl_DayOf 42 = some c_impl_ValidTime := rfl
noncomputable def c_impl_DayOf : Ctr := mkF t_impl_DayOf ir31 [.bor]
theorem s_impl_DayOf : Sound Tryd.prog 31 c_impl_DayOf := mkF_sound _ rfl (snd_cons s_impl_ValidTime snd_nil) (by kernel_rfl : chkFn Tryd.prog 31 ir31 ir31_v = true)
theorem M_impl_DayOf : c_impl_DayOf.modes = [.bor] := rfl
theorem Fl_impl_DayOf : c_impl_DayOf.flat = true := rfl
attribute [go_sem] M_impl_DayOf Fl_impl_DayOf
attribute [go_sem] lk_impl_DayOf_42
theorem Fs_impl_DayOf {t : Int} {y_ : Int × Int} (h : impl_DayOf t = some y_) : c_impl_DayOf.F [.int .i64 t] = ⟨true, .tup [.int .i64 y_.1, .int .i64 y_.2], [.any]⟩ := by
  refine mkF_E rfl ?_
  dsimp only [impl_DayOf] at h
  obtain ⟨y_1, hk1, h⟩ := bd_some h
  have fhk1 := Fs_impl_ValidTime hk1
  try simp only [go_sem] at fhk1
  rcases it_some h with ⟨hk2, h⟩ | ⟨hk2, h⟩
  · try simp only [go_sem, n1, n2, n3, n4] at hk2
    all_goals
    obtain rfl := so_some h
    refine ⟨0, fun L hL => ?_⟩
    simp only [go_sem, ir31, fhk1, hk2]
  · try simp only [go_sem, n1, n2, n3, n4] at hk2
    all_goals
    obtain ⟨hk3, h⟩ := ck_some h
    try simp only [go_sem, n1, n2, n3, n4, hk2] at hk3
    all_goals
    obtain rfl := so_some h
    refine ⟨0, fun L hL => ?_⟩
    simp only [go_sem, ir31, fhk1, hk2, hk3]


def ir32_v : List Nat := [0, 2, 3]
def ir32 : AFn := ⟨1, 3, .seq (.region false [
    ⟨.var 1, 2, none, .mov (.c (.int .i64 (0)))⟩,
    ⟨.var 2, 3, none, .mov (.c (.int .i64 (0)))⟩])
 (.seq (.test false [
    ⟨.push, 4, none, .mov (.v 0)⟩,
    ⟨.push, 5, none, .call 70 [(.s 0)]⟩,
    ⟨.push, 6, none, .un .not (.s 0)⟩] (.s 0)
  (.seq (.region false [
      ⟨.var 1, 2, none, .mov (.c (.int .i64 (0)))⟩,
      ⟨.var 2, 3, none, .mov (.c (.int .i64 (2)))⟩])
   (.ret))
  (.skip))
 (.seq (.region false [
    ⟨.push, 7, none, .mov (.v 0)⟩,
    ⟨.push, 8, none, .bin false .quo (.s 0) (.c (.int .i64 (10000)))⟩,
    ⟨.var 1, 2, none, .mov (.s 0)⟩,
    ⟨.var 2, 3, none, .mov (.c (.int .i64 (0)))⟩])
 (.ret))), [.t 1, .t 2]⟩
noncomputable def t_spec_DayOf : List (Nat × Ctr) := [(70, c_spec_l03Time)]
theorem lk_spec_DayOf_70 : look t_spec_DayOf 70 = some c_spec_l03Time := rfl
noncomputable def c_spec_DayOf : Ctr := mkF t_spec_DayOf ir32 [.bor]
theorem s_spec_DayOf : Sound Tryd.prog 32 c_spec_DayOf := mkF_sound _ rfl (snd_cons s_spec_l03Time snd_nil) (by kernel_rfl : chkFn Tryd.prog 32 ir32 ir32_v = true)
theorem M_spec_DayOf : c_spec_DayOf.modes = [.bor] := rfl
theorem Fl_spec_DayOf : c_spec_DayOf.flat = true := rfl
attribute [go_sem] M_spec_DayOf Fl_spec_DayOf
attribute [go_sem] lk_spec_DayOf_70
theorem Fs_spec_DayOf {t : Int} {y_ : Int × Int} (h : spec_DayOf t = some y_) : c_spec_DayOf.F [.int .i64 t] = ⟨true, .tup [.int .i64 y_.1, .int .i64 y_.2], [.any]⟩ := by
  refine mkF_E rfl ?_
  dsimp only [spec_DayOf] at h
  obtain ⟨y_1, hk1, h⟩ := bd_some h
  have fhk1 := Fs_spec_l03Time hk1
  try simp only [go_sem] at fhk1
  rcases it_some h with ⟨hk2, h⟩ | ⟨hk2, h⟩
  · try simp only [go_sem, n1, n2, n3, n4] at hk2
    all_goals
    obtain rfl := so_some h
    refine ⟨0, fun L hL => ?_⟩
    simp only [go_sem, ir32, fhk1, hk2]
  · try simp only [go_sem, n1, n2, n3, n4] at hk2
    all_goals
    obtain ⟨hk3, h⟩ := ck_some h
    try simp only [go_sem, n1, n2, n3, n4, hk2] at hk3
    all_goals
    obtain rfl := so_some h
    refine ⟨0, fun L hL => ?_⟩
    simp only [go_sem, ir32, fhk1, hk2, hk3]


def ir33_v : List Nat := [0, 2, 3, 4, 5]
def ir33 : AFn := ⟨1, 5, .seq (.region false [
    ⟨.var 1, 2, none, .mov (.c (.int .i64 (0)))⟩,
    ⟨.var 2, 3, none, .mov (.c (.int .i64 (0)))⟩])
 (.seq (.region false [
    ⟨.push, 6, none, .mov (.v 0)⟩,
    ⟨.push, 7, none, .call 50 [(.s 0)]⟩,
    ⟨.var 3, 4, none, .mov (.s 0)⟩])
 (.seq (.region false [
    ⟨.push, 8, none, .mov (.v 3)⟩,
    ⟨.push, 9, none, .call 71 [(.s 0)]⟩,
    ⟨.var 4, 5, none, .mov (.s 0)⟩])
 (.seq (.region false [
    ⟨.push, 10, none, .mov (.v 4)⟩,
    ⟨.push, 11, none, .mov (.v 3)⟩,
    ⟨.push, 12, none, .call 71 [(.s 0)]⟩,
    ⟨.var 1, 2, none, .mov (.s 2)⟩,
    ⟨.var 2, 3, none, .mov (.s 0)⟩])
 (.ret)))), [.t 1, .t 2]⟩
noncomputable def t_spec_DrawHoursBetween : List (Nat × Ctr) := [(50, c_spec_l00From), (71, c_spec_l03When)]
theorem lk_spec_DrawHoursBetween_50 : look t_spec_DrawHoursBetween 50 = some c_spec_l00From := rfl
theorem lk_spec_DrawHoursBetween_71 : look t_spec_DrawHoursBetween 71 = some c_spec_l03When := rfl
noncomputable def c_spec_DrawHoursBetween : Ctr := mkF t_spec_DrawHoursBetween ir33 [.bor]
theorem s_spec_DrawHoursBetween : Sound Tryd.prog 33 c_spec_DrawHoursBetween := mkF_sound _ rfl (snd_cons s_spec_l00From (snd_cons s_spec_l03When snd_nil)) (by kernel_rfl : chkFn Tryd.prog 33 ir33 ir33_v = true)
theorem M_spec_DrawHoursBetween : c_spec_DrawHoursBetween.modes = [.bor] := rfl
theorem Fl_spec_DrawHoursBetween : c_spec_DrawHoursBetween.flat = true := rfl
attribute [go_sem] M_spec_DrawHoursBetween Fl_spec_DrawHoursBetween
attribute [go_sem] lk_spec_DrawHoursBetween_50 lk_spec_DrawHoursBetween_71
theorem Fs_spec_DrawHoursBetween {code : List UInt8} {y_ : Int × Int} (h : spec_DrawHoursBetween code = some y_) : c_spec_DrawHoursBetween.F [.sl 1 (List.map byteAV code)] = ⟨true, .tup [.int .i64 y_.1, .int .i64 y_.2], [.any]⟩ := by
  refine mkF_E rfl ?_
  dsimp only [spec_DrawHoursBetween] at h
  obtain ⟨y_1, hk1, h⟩ := bd_some h
  have fhk1 := Fs_spec_l00From hk1
  try simp only [go_sem] at fhk1
  obtain ⟨y_2, hk2, h⟩ := bd_some h
  have fhk2 := Fs_spec_l03When hk2
  try simp only [go_sem] at fhk2
  obtain ⟨y_3, hk3, h⟩ := bd_some h
  have fhk3 := Fs_spec_l03When hk3
  try simp only [go_sem] at fhk3
  obtain rfl := so_some h
  refine ⟨0, fun L hL => ?_⟩
  simp only [go_sem, ir33, fhk1, fhk2, fhk3]


def ir117_v : List Nat := [0, 2]
def ir117 : AFn := ⟨1, 2, .seq (.region false [
    ⟨.var 1, 2, none, .mov (.c (.int .i64 (0)))⟩])
 (.seq (.test false [
    ⟨.push, 3, none, .mov (.v 0)⟩,
    ⟨.push, 4, none, .bin false .lss (.s 0) (.c (.int .i64 (0)))⟩] (.s 0)
  (.seq (.region false [
      ⟨.push, 5, none, .mov (.v 0)⟩,
      ⟨.push, 6, none, .un .neg (.s 0)⟩,
      ⟨.var 1, 2, none, .mov (.s 0)⟩])
   (.ret))
  (.skip))
 (.seq (.region false [
    ⟨.push, 7, none, .mov (.v 0)⟩,
    ⟨.var 1, 2, none, .mov (.s 0)⟩])
 (.ret))), [.t 1]⟩
noncomputable def t_impl_abs : List (Nat × Ctr) := []
noncomputable def c_impl_abs : Ctr := mkF t_impl_abs ir117 [.bor]
theorem s_impl_abs : Sound Tryd.prog 117 c_impl_abs := mkF_sound _ rfl snd_nil (by kernel_rfl : chkFn Tryd.prog 117 ir117 ir117_v = true)
theorem M_impl_abs : c_impl_abs.modes = [.bor] := rfl
theorem Fl_impl_abs : c_impl_abs.flat = true := rfl
attribute [go_sem] M_impl_abs Fl_impl_abs
theorem Fs_impl_abs {n : Int} {y_ : Int} (h : impl_abs n = some y_) : c_impl_abs.F [.int .i64 n] = ⟨true, .int .i64 y_, [.any]⟩ := by
  refine mkF_E rfl ?_
  dsimp only [impl_abs] at h
  rcases it_some h with ⟨hk1, h⟩ | ⟨hk1, h⟩
  · try simp only [go_sem, n1, n2, n3, n4] at hk1
    all_goals
    obtain rfl := so_some h
    refine ⟨0, fun L hL => ?_⟩
    simp only [go_sem, ir117, hk1]
  · try simp only [go_sem, n1, n2, n3, n4] at hk1
    all_goals
    obtain rfl := so_some h
    refine ⟨0, fun L hL => ?_⟩
    simp only [go_sem, ir117, hk1]


def ir101_b0 : IR := .seq (.test false [
    ⟨.push, 5, none, .mov (.v 1)⟩,
    ⟨.push, 6, none, .bin false .neq (.s 0) (.c (.int .i64 (0)))⟩] (.s 0)
  (.skip)
  (.exit 0))
 (.block 1 (.anyo 4 [
    ⟨.slot 0, 7, none, .mov (.v 1)⟩,
    ⟨.slot 1, 8, none, .mov (.v 0)⟩,
    ⟨.slot 2, 9, none, .mov (.v 1)⟩,
    ⟨.slot 3, 10, none, .bin false .rem (.s 1) (.s 2)⟩,
    ⟨.var 0, 0, none, .mov (.s 0)⟩,
    ⟨.var 1, 1, none, .mov (.s 3)⟩] [] .skip))
def ir101_k0 : List Bool := [true, true, false]
def ir101_o0 : List Bool := [true, false, false]
def ir101_r0 : List Bool := [false, false, true]
def ir101_v : List Nat := [0, 1, 4]
def ir101 : AFn := ⟨2, 3, .seq (.region false [
    ⟨.var 2, 4, none, .mov (.c (.int .i64 (0)))⟩])
 (.seq (.block 0 (.loop ir101_k0 ir101_o0 ir101_r0 ir101_b0))
 (.seq (.region false [
    ⟨.push, 11, none, .mov (.v 0)⟩,
    ⟨.push, 12, none, .call 117 [(.s 0)]⟩,
    ⟨.var 2, 4, none, .mov (.s 0)⟩])
 (.ret))), [.t 2]⟩
noncomputable def t_impl_gcd : List (Nat × Ctr) := [(117, c_impl_abs)]
theorem lk_impl_gcd_117 : look t_impl_gcd 117 = some c_impl_abs := rfl
noncomputable def c_impl_gcd : Ctr := mkF t_impl_gcd ir101 [.bor, .bor]
theorem s_impl_gcd : Sound Tryd.prog 101 c_impl_gcd := mkF_sound _ rfl (snd_cons s_impl_abs snd_nil) (by kernel_rfl : chkFn Tryd.prog 101 ir101 ir101_v = true)
theorem M_impl_gcd : c_impl_gcd.modes = [.bor, .bor] := rfl
theorem Fl_impl_gcd : c_impl_gcd.flat = true := rfl
attribute [go_sem] M_impl_gcd Fl_impl_gcd
attribute [go_sem] lk_impl_gcd_117
def E_impl_gcd_l1  : (Int × Int) → St
  | (a, b) => ⟨[.int .i64 a, .int .i64 b, .any], [], [], true⟩
def R_impl_gcd_l1  (y : Int) : Res := (.exit 0, ⟨[.int .i64 y, .any, .any], [], [], true⟩)
theorem impl_gcd_l1_ex  {sgm_ : Int × Int} {rho_ : Int} (h : whileE (impl_gcd_l1) sgm_ = some rho_) : ∃ L0, ∀ L, L0 ≤ L → iter (exec (look t_impl_gcd) L ir101_b0) ir101_k0 ir101_o0 ir101_r0 L (E_impl_gcd_l1 sgm_) = R_impl_gcd_l1 rho_ := by
  refine loop_ex (E := E_impl_gcd_l1) (R := R_impl_gcd_l1) (fun y => by first | (intro c; cases c) | (rcases y with y | y <;> (intro c; cases c)) | (rcases y with y | y | y <;> (intro c; cases c))) ?_ h
  clear h
  rintro ⟨a, b⟩ o_ h
  dsimp only [impl_gcd_l1] at h
  rcases it_some h with ⟨hk1, h⟩ | ⟨hk1, h⟩
  · try simp only [go_sem, n1, n2, n3, n4] at hk1
    all_goals
    obtain ⟨hk2, h⟩ := ck_some h
    try simp only [go_sem, n1, n2, n3, n4, hk1] at hk2
    all_goals
    obtain rfl := so_some h
    refine ⟨0, fun L hL => ?_⟩
    simp only [go_sem, ir101, E_impl_gcd_l1, R_impl_gcd_l1, ir101_b0, ir101_k0, ir101_o0, ir101_r0, hk1, hk2]
  · try simp only [go_sem, n1, n2, n3, n4] at hk1
    all_goals
    obtain rfl := so_some h
    refine ⟨0, fun L hL => ?_⟩
    simp only [go_sem, ir101, E_impl_gcd_l1, R_impl_gcd_l1, ir101_b0, ir101_k0, ir101_o0, ir101_r0, hk1]

theorem Fs_impl_gcd {a : Int} {b : Int} {y_ : Int} (h : impl_gcd a b = some y_) : c_impl_gcd.F [.int .i64 a, .int .i64 b] = ⟨true, .int .i64 y_, [.any, .any]⟩ := by
  refine mkF_E rfl ?_
  dsimp only [impl_gcd] at h
  obtain ⟨y_3, hk3, h⟩ := bd_some h
  obtain ⟨Lhk3, ehk3⟩ := impl_gcd_l1_ex hk3
  obtain ⟨y_4, hk4, h⟩ := bd_some h
  have fhk4 := Fs_impl_abs hk4
  try simp only [go_sem] at fhk4
  obtain rfl := so_some h
  refine ⟨Lhk3, fun L hL => ?_⟩
  have ehk3 := ehk3 L (by omega)
  try simp only [go_sem, E_impl_gcd_l1, R_impl_gcd_l1, ir101_k0, ir101_o0, ir101_r0] at ehk3
  simp only [go_sem, ir101, E_impl_gcd_l1, R_impl_gcd_l1, ir101_k0, ir101_o0, ir101_r0, fhk4, ehk3]


def ir72_v : List Nat := [0, 1, 4, 5]
def ir72 : AFn := ⟨2, 4, .seq (.region false [
    ⟨.var 2, 4, none, .alloc (.agg [.int .i64 (0), .int .i64 (0)])⟩])
 (.seq (.region false [
    ⟨.push, 6, none, .mov (.v 0)⟩,
    ⟨.push, 7, none, .mov (.v 1)⟩,
    ⟨.push, 8, none, .call 101 [(.s 1), (.s 0)]⟩,
    ⟨.var 3, 5, none, .mov (.s 0)⟩])
 (.seq (.test false [
    ⟨.push, 9, none, .mov (.v 1)⟩,
    ⟨.push, 10, none, .bin false .lss (.s 0) (.c (.int .i64 (0)))⟩] (.s 0)
  (.region false [
     ⟨.push, 11, none, .mov (.v 3)⟩,
     ⟨.push, 12, none, .un .neg (.s 0)⟩,
     ⟨.var 3, 5, none, .mov (.s 0)⟩])
  (.skip))
 (.seq (.anyo 7 [
    ⟨.slot 0, 13, none, .mov (.v 0)⟩,
    ⟨.slot 1, 14, none, .mov (.v 3)⟩,
    ⟨.slot 2, 15, none, .bin false .quo (.s 0) (.s 1)⟩,
    ⟨.slot 3, 16, none, .mov (.v 1)⟩,
    ⟨.slot 4, 17, none, .mov (.v 3)⟩,
    ⟨.slot 5, 18, none, .bin false .quo (.s 3) (.s 4)⟩,
    ⟨.slot 6, 19, none, .pur (.build [.int .i64 (0), .int .i64 (0)] [(0, 1, (.s 2)), (1, 1, (.s 5))])⟩,
    ⟨.no, 0, none, .store 2 (.v 2) (.s 6)⟩] [] .skip)
 (.ret)))), [.cell true 2 2]⟩
noncomputable def t_impl_lowest : List (Nat × Ctr) := [(101, c_impl_gcd)]
theorem lk_impl_lowest_101 : look t_impl_lowest 101 = some c_impl_gcd := rfl
noncomputable def c_impl_lowest : Ctr := mkN t_impl_lowest ir72 [.bor, .bor]
theorem s_impl_lowest : Sound Tryd.prog 72 c_impl_lowest := mkN_sound _ (snd_cons s_impl_gcd snd_nil) (by kernel_rfl : chkFn Tryd.prog 72 ir72 ir72_v = true)
theorem M_impl_lowest : c_impl_lowest.modes = [.bor, .bor] := rfl
theorem Fl_impl_lowest : c_impl_lowest.flat = false := rfl
attribute [go_sem] M_impl_lowest Fl_impl_lowest
attribute [go_sem] lk_impl_lowest_101
theorem Fs_impl_lowest {num : Int} {den : Int} {y_ : Fraction} (h : impl_lowest num den = some y_) : c_impl_lowest.F [.int .i64 num, .int .i64 den] = ⟨true, Fraction_av y_, [.any, .any]⟩ := by
  refine mkN_E ?_
  dsimp only [impl_lowest] at h
  obtain ⟨y_1, hk1, h⟩ := bd_some h
  have fhk1 := Fs_impl_gcd hk1
  try simp only [go_sem] at fhk1
  rcases it_some h with ⟨hk2, h⟩ | ⟨hk2, h⟩
  · try simp only [go_sem, n1, n2, n3, n4] at hk2
    all_goals
    obtain ⟨hk3, h⟩ := ck_some h
    try simp only [go_sem, n1, n2, n3, n4, hk2] at hk3
    all_goals
    obtain rfl := so_some h
    refine ⟨0, fun L hL => ?_⟩
    simp only [go_sem, ir72, fhk1, hk2, hk3]
  · try simp only [go_sem, n1, n2, n3, n4] at hk2
    all_goals
    obtain ⟨hk4, h⟩ := ck_some h
    try simp only [go_sem, n1, n2, n3, n4, hk2] at hk4
    all_goals
    obtain rfl := so_some h
    refine ⟨0, fun L hL => ?_⟩
    simp only [go_sem, ir72, fhk1, hk2, hk4]


def ir34_v : List Nat := [0, 1, 4, 5]
def ir34 : AFn := ⟨2, 4, .seq (.region false [
    ⟨.var 2, 4, none, .alloc (.agg [.int .i64 (0), .int .i64 (0)])⟩,
    ⟨.var 3, 5, none, .mov (.c (.int .i64 (0)))⟩])
 (.seq (.test false [
    ⟨.push, 6, none, .mov (.v 0)⟩,
    ⟨.push, 7, none, .call 42 [(.s 0)]⟩,
    ⟨.push, 8, none, .un .not (.s 0)⟩,
    ⟨.push, 9, none, .mov (.s 0)⟩,
    ⟨.push, 10, (some ((.s 0), false)), .mov (.v 1)⟩,
    ⟨.push, 11, (some ((.s 1), false)), .call 42 [(.s 0)]⟩,
    ⟨.push, 12, (some ((.s 2), false)), .un .not (.s 0)⟩,
    ⟨.push, 13, none, .pick (.s 3) (.c (.bool true)) (.s 0)⟩] (.s 0)
  (.seq (.region false [
      ⟨.push, 14, none, .build [.int .i64 (0), .int .i64 (0)] []⟩,
      ⟨.no, 0, none, .store 2 (.v 2) (.s 0)⟩,
      ⟨.var 3, 5, none, .mov (.c (.int .i64 (2)))⟩])
   (.ret))
  (.skip))
 (.seq (.region false [
    ⟨.push, 15, none, .mov (.v 1)⟩,
    ⟨.push, 16, none, .mov (.v 0)⟩,
    ⟨.push, 17, none, .bin false .sub (.s 1) (.s 0)⟩,
    ⟨.push, 18, none, .bin false .mul (.c (.int .i64 (24))) (.s 0)⟩,
    ⟨.push, 19, none, .call 72 [(.s 0), (.c (.int .i64 (10000)))]⟩,
    ⟨.no, 0, none, .store 2 (.v 2) (.s 0)⟩,
    ⟨.var 3, 5, none, .mov (.c (.int .i64 (0)))⟩])
 (.ret))), [.cell true 2 2, .t 3]⟩
noncomputable def t_impl_HoursBetween : List (Nat × Ctr) := [(42, c_impl_ValidTime), (72, c_impl_lowest)]
theorem lk_impl_HoursBetween_42 : look t_impl_HoursBetween 42 = some c_impl_ValidTime := rfl
theorem lk_impl_HoursBetween_72 : look t_impl_HoursBetween 72 = some c_impl_lowest := rfl
noncomputable def c_impl_HoursBetween : Ctr := mkN t_impl_HoursBetween ir34 [.bor, .bor]
theorem s_impl_HoursBetween : Sound Tryd.prog 34 c_impl_HoursBetween := mkN_sound _ (snd_cons s_impl_ValidTime (snd_cons s_impl_lowest snd_nil)) (by kernel_rfl : chkFn Tryd.prog 34 ir34 ir34_v = true)
theorem M_impl_HoursBetween : c_impl_HoursBetween.modes = [.bor, .bor] := rfl
theorem Fl_impl_HoursBetween : c_impl_HoursBetween.flat = false := rfl
attribute [go_sem] M_impl_HoursBetween Fl_impl_HoursBetween
attribute [go_sem] lk_impl_HoursBetween_42 lk_impl_HoursBetween_72
theorem Fs_impl_HoursBetween {a : Int} {b : Int} {y_ : Fraction × Int} (h : impl_HoursBetween a b = some y_) : c_impl_HoursBetween.F [.int .i64 a, .int .i64 b] = ⟨true, .tup [Fraction_av y_.1, .int .i64 y_.2], [.any, .any]⟩ := by
  refine mkN_E ?_
  dsimp only [impl_HoursBetween] at h
  obtain ⟨y_1, hk1, h⟩ := bd_some h
  have fhk1 := Fs_impl_ValidTime hk1
  try simp only [go_sem] at fhk1
  obtain ⟨hk2, h⟩ := ck_some h
  rcases or_split hk2 with ⟨ghk2, hk2⟩ | ghk2
  · try simp only [go_sem, n1, n2, n3, n4] at ghk2
    all_goals
    obtain ⟨y_2, hhk2⟩ := Option.isSome_iff_exists.1 hk2
    have fhk2 := Fs_impl_ValidTime hhk2
    try simp only [go_sem, n1, n2, n3, n4, ghk2] at hhk2
    all_goals
    try simp only [go_sem, ghk2] at fhk2
    rcases it_some h with ⟨hk3, h⟩ | ⟨hk3, h⟩
    · try simp only [go_sem, n1, n2, n3, n4, ghk2, hhk2] at hk3
      all_goals
      obtain rfl := so_some h
      refine ⟨0, fun L hL => ?_⟩
      simp only [go_sem, ir34, fhk1, ghk2, hhk2, fhk2, hk3]
    · try simp only [go_sem, n1, n2, n3, n4, ghk2, hhk2] at hk3
      all_goals
      obtain ⟨y_4, hk4, h⟩ := bd_some h
      have fhk4 := Fs_impl_lowest hk4
      try simp only [go_sem, ghk2, hhk2, hk3] at fhk4
      obtain rfl := so_some h
      refine ⟨0, fun L hL => ?_⟩
      simp only [go_sem, ir34, fhk1, ghk2, hhk2, fhk2, hk3, fhk4]
  · have ghk2n := no_f ghk2
    have ghk2nn := no_t ghk2n
    try simp only [go_sem, n1, n2, n3, n4] at ghk2nn
    all_goals
    rcases it_some h with ⟨hk3, h⟩ | ⟨hk3, h⟩
    · try simp only [go_sem, n1, n2, n3, n4, ghk2nn] at hk3
      all_goals
      obtain rfl := so_some h
      refine ⟨0, fun L hL => ?_⟩
      simp only [go_sem, ir34, fhk1, ghk2nn, hk3]
    · try simp only [go_sem, n1, n2, n3, n4, ghk2nn] at hk3
      all_goals
      (simp_all)


def ir103_v : List Nat := [0, 2]
def ir103 : AFn := ⟨1, 2, .seq (.region false [
    ⟨.var 1, 2, none, .mov (.c (.int .i64 (0)))⟩])
 (.seq (.test false [
    ⟨.push, 3, none, .mov (.v 0)⟩,
    ⟨.push, 4, none, .bin false .lss (.s 0) (.c (.int .i64 (0)))⟩] (.s 0)
  (.seq (.region false [
      ⟨.push, 5, none, .mov (.v 0)⟩,
      ⟨.push, 6, none, .un .neg (.s 0)⟩,
      ⟨.var 1, 2, none, .mov (.s 0)⟩])
   (.ret))
  (.skip))
 (.seq (.region false [
    ⟨.push, 7, none, .mov (.v 0)⟩,
    ⟨.var 1, 2, none, .mov (.s 0)⟩])
 (.ret))), [.t 1]⟩
noncomputable def t_spec_l02Size : List (Nat × Ctr) := []
noncomputable def c_spec_l02Size : Ctr := mkF t_spec_l02Size ir103 [.bor]
theorem s_spec_l02Size : Sound Tryd.prog 103 c_spec_l02Size := mkF_sound _ rfl snd_nil (by kernel_rfl : chkFn Tryd.prog 103 ir103 ir103_v = true)
theorem M_spec_l02Size : c_spec_l02Size.modes = [.bor] := rfl
theorem Fl_spec_l02Size : c_spec_l02Size.flat = true := rfl
attribute [go_sem] M_spec_l02Size Fl_spec_l02Size
theorem Fs_spec_l02Size {n : Int} {y_ : Int} (h : spec_l02Size n = some y_) : c_spec_l02Size.F [.int .i64 n] = ⟨true, .int .i64 y_, [.any]⟩ := by
  refine mkF_E rfl ?_
  dsimp only [spec_l02Size] at h
  rcases it_some h with ⟨hk1, h⟩ | ⟨hk1, h⟩
  · try simp only [go_sem, n1, n2, n3, n4] at hk1
    all_goals
    obtain rfl := so_some h
    refine ⟨0, fun L hL => ?_⟩
    simp only [go_sem, ir103, hk1]
  · try simp only [go_sem, n1, n2, n3, n4] at hk1
    all_goals
    obtain rfl := so_some h
    refine ⟨0, fun L hL => ?_⟩
    simp only [go_sem, ir103, hk1]


def ir102_b0 : IR := .seq (.test false [
    ⟨.push, 6, none, .mov (.v 1)⟩,
    ⟨.push, 7, none, .bin false .neq (.s 0) (.c (.int .i64 (0)))⟩] (.s 0)
  (.skip)
  (.exit 0))
 (.block 1 (.seq (.region false [
     ⟨.push, 8, none, .mov (.v 0)⟩,
     ⟨.push, 9, none, .mov (.v 1)⟩,
     ⟨.push, 10, none, .bin false .rem (.s 1) (.s 0)⟩,
     ⟨.var 3, 5, none, .mov (.s 0)⟩])
  (.seq (.region false [
     ⟨.push, 11, none, .mov (.v 1)⟩,
     ⟨.var 0, 0, none, .mov (.s 0)⟩])
  (.region false [
    ⟨.push, 12, none, .mov (.v 3)⟩,
    ⟨.var 1, 1, none, .mov (.s 0)⟩]))))
def ir102_k0 : List Bool := [true, true, false, false]
def ir102_o0 : List Bool := [true, false, false, false]
def ir102_r0 : List Bool := [false, false, true, false]
def ir102_v : List Nat := [0, 1, 4, 5]
def ir102 : AFn := ⟨2, 4, .seq (.region false [
    ⟨.var 2, 4, none, .mov (.c (.int .i64 (0)))⟩])
 (.seq (.block 0 (.loop ir102_k0 ir102_o0 ir102_r0 ir102_b0))
 (.seq (.region false [
    ⟨.push, 13, none, .mov (.v 0)⟩,
    ⟨.var 2, 4, none, .mov (.s 0)⟩])
 (.ret))), [.t 2]⟩
noncomputable def t_spec_l02Gcd : List (Nat × Ctr) := []
noncomputable def c_spec_l02Gcd : Ctr := mkF t_spec_l02Gcd ir102 [.bor, .bor]
theorem s_spec_l02Gcd : Sound Tryd.prog 102 c_spec_l02Gcd := mkF_sound _ rfl snd_nil (by kernel_rfl : chkFn Tryd.prog 102 ir102 ir102_v = true)
theorem M_spec_l02Gcd : c_spec_l02Gcd.modes = [.bor, .bor] := rfl
theorem Fl_spec_l02Gcd : c_spec_l02Gcd.flat = true := rfl
attribute [go_sem] M_spec_l02Gcd Fl_spec_l02Gcd
def E_spec_l02Gcd_l1  : (Int × Int) → St
  | (a, b) => ⟨[.int .i64 a, .int .i64 b, .any, .any], [], [], true⟩
def R_spec_l02Gcd_l1  (y : Int) : Res := (.exit 0, ⟨[.int .i64 y, .any, .any, .any], [], [], true⟩)
theorem spec_l02Gcd_l1_ex  {sgm_ : Int × Int} {rho_ : Int} (h : whileE (spec_l02Gcd_l1) sgm_ = some rho_) : ∃ L0, ∀ L, L0 ≤ L → iter (exec (look t_spec_l02Gcd) L ir102_b0) ir102_k0 ir102_o0 ir102_r0 L (E_spec_l02Gcd_l1 sgm_) = R_spec_l02Gcd_l1 rho_ := by
  refine loop_ex (E := E_spec_l02Gcd_l1) (R := R_spec_l02Gcd_l1) (fun y => by first | (intro c; cases c) | (rcases y with y | y <;> (intro c; cases c)) | (rcases y with y | y | y <;> (intro c; cases c))) ?_ h
  clear h
  rintro ⟨a, b⟩ o_ h
  dsimp only [spec_l02Gcd_l1] at h
  rcases it_some h with ⟨hk1, h⟩ | ⟨hk1, h⟩
  · try simp only [go_sem, n1, n2, n3, n4] at hk1
    all_goals
    obtain ⟨hk2, h⟩ := ck_some h
    try simp only [go_sem, n1, n2, n3, n4, hk1] at hk2
    all_goals
    obtain rfl := so_some h
    refine ⟨0, fun L hL => ?_⟩
    simp only [go_sem, ir102, E_spec_l02Gcd_l1, R_spec_l02Gcd_l1, ir102_b0, ir102_k0, ir102_o0, ir102_r0, hk1, hk2]
  · try simp only [go_sem, n1, n2, n3, n4] at hk1
    all_goals
    obtain rfl := so_some h
    refine ⟨0, fun L hL => ?_⟩
    simp only [go_sem, ir102, E_spec_l02Gcd_l1, R_spec_l02Gcd_l1, ir102_b0, ir102_k0, ir102_o0, ir102_r0, hk1]

theorem Fs_spec_l02Gcd {a : Int} {b : Int} {y_ : Int} (h : spec_l02Gcd a b = some y_) : c_spec_l02Gcd.F [.int .i64 a, .int .i64 b] = ⟨true, .int .i64 y_, [.any, .any]⟩ := by
  refine mkF_E rfl ?_
  dsimp only [spec_l02Gcd] at h
  obtain ⟨y_3, hk3, h⟩ := bd_some h
  obtain ⟨Lhk3, ehk3⟩ := spec_l02Gcd_l1_ex hk3
  obtain rfl := so_some h
  refine ⟨Lhk3, fun L hL => ?_⟩
  have ehk3 := ehk3 L (by omega)
  try simp only [go_sem, E_spec_l02Gcd_l1, R_spec_l02Gcd_l1, ir102_k0, ir102_o0, ir102_r0] at ehk3
  simp only [go_sem, ir102, E_spec_l02Gcd_l1, R_spec_l02Gcd_l1, ir102_k0, ir102_o0, ir102_r0, ehk3]


def ir73_v : List Nat := [0, 1, 4, 5]
def ir73 : AFn := ⟨2, 4, .seq (.region false [
    ⟨.var 2, 4, none, .alloc (.agg [.int .i64 (0), .int .i64 (0)])⟩])
 (.seq (.region false [
    ⟨.push, 6, none, .mov (.v 0)⟩,
    ⟨.push, 7, none, .call 103 [(.s 0)]⟩,
    ⟨.push, 8, none, .mov (.v 1)⟩,
    ⟨.push, 9, none, .call 102 [(.s 1), (.s 0)]⟩,
    ⟨.var 3, 5, none, .mov (.s 0)⟩])
 (.seq (.anyo 7 [
    ⟨.slot 0, 10, none, .mov (.v 0)⟩,
    ⟨.slot 1, 11, none, .mov (.v 3)⟩,
    ⟨.slot 2, 12, none, .bin false .quo (.s 0) (.s 1)⟩,
    ⟨.slot 3, 13, none, .mov (.v 1)⟩,
    ⟨.slot 4, 14, none, .mov (.v 3)⟩,
    ⟨.slot 5, 15, none, .bin false .quo (.s 3) (.s 4)⟩,
    ⟨.slot 6, 16, none, .pur (.build [.int .i64 (0), .int .i64 (0)] [(0, 1, (.s 2)), (1, 1, (.s 5))])⟩,
    ⟨.no, 0, none, .store 2 (.v 2) (.s 6)⟩] [] .skip)
 (.ret))), [.cell true 2 2]⟩
noncomputable def t_spec_l02Make : List (Nat × Ctr) := [(103, c_spec_l02Size), (102, c_spec_l02Gcd)]
theorem lk_spec_l02Make_103 : look t_spec_l02Make 103 = some c_spec_l02Size := rfl
theorem lk_spec_l02Make_102 : look t_spec_l02Make 102 = some c_spec_l02Gcd := rfl
noncomputable def c_spec_l02Make : Ctr := mkN t_spec_l02Make ir73 [.bor, .bor]
theorem s_spec_l02Make : Sound Tryd.prog 73 c_spec_l02Make := mkN_sound _ (snd_cons s_spec_l02Size (snd_cons s_spec_l02Gcd snd_nil)) (by kernel_rfl : chkFn Tryd.prog 73 ir73 ir73_v = true)
theorem M_spec_l02Make : c_spec_l02Make.modes = [.bor, .bor] := rfl
theorem Fl_spec_l02Make : c_spec_l02Make.flat = false := rfl
attribute [go_sem] M_spec_l02Make Fl_spec_l02Make
attribute [go_sem] lk_spec_l02Make_103 lk_spec_l02Make_102
theorem Fs_spec_l02Make {num : Int} {den : Int} {y_ : Fraction} (h : spec_l02Make num den = some y_) : c_spec_l02Make.F [.int .i64 num, .int .i64 den] = ⟨true, Fraction_av y_, [.any, .any]⟩ := by
  refine mkN_E ?_
  dsimp only [spec_l02Make] at h
  obtain ⟨y_1, hk1, h⟩ := bd_some h
  have fhk1 := Fs_spec_l02Size hk1
  try simp only [go_sem] at fhk1
  obtain ⟨y_2, hk2, h⟩ := bd_some h
  have fhk2 := Fs_spec_l02Gcd hk2
  try simp only [go_sem] at fhk2
  obtain ⟨hk3, h⟩ := ck_some h
  try simp only [go_sem, n1, n2, n3, n4] at hk3
  all_goals
  obtain rfl := so_some h
  refine ⟨0, fun L hL => ?_⟩
  simp only [go_sem, ir73, fhk1, fhk2, hk3]


def ir35_v : List Nat := [0, 1, 4, 5]
def ir35 : AFn := ⟨2, 4, .seq (.region false [
    ⟨.var 2, 4, none, .alloc (.agg [.int .i64 (0), .int .i64 (0)])⟩,
    ⟨.var 3, 5, none, .mov (.c (.int .i64 (0)))⟩])
 (.seq (.test false [
    ⟨.push, 6, none, .mov (.v 0)⟩,
    ⟨.push, 7, none, .call 70 [(.s 0)]⟩,
    ⟨.push, 8, none, .un .not (.s 0)⟩,
    ⟨.push, 9, none, .mov (.s 0)⟩,
    ⟨.push, 10, (some ((.s 0), false)), .mov (.v 1)⟩,
    ⟨.push, 11, (some ((.s 1), false)), .call 70 [(.s 0)]⟩,
    ⟨.push, 12, (some ((.s 2), false)), .un .not (.s 0)⟩,
    ⟨.push, 13, none, .pick (.s 3) (.c (.bool true)) (.s 0)⟩] (.s 0)
  (.seq (.region false [
      ⟨.push, 14, none, .build [.int .i64 (0), .int .i64 (0)] []⟩,
      ⟨.no, 0, none, .store 2 (.v 2) (.s 0)⟩,
      ⟨.var 3, 5, none, .mov (.c (.int .i64 (2)))⟩])
   (.ret))
  (.skip))
 (.seq (.region false [
    ⟨.push, 15, none, .mov (.v 1)⟩,
    ⟨.push, 16, none, .mov (.v 0)⟩,
    ⟨.push, 17, none, .bin false .sub (.s 1) (.s 0)⟩,
    ⟨.push, 18, none, .bin false .mul (.c (.int .i64 (24))) (.s 0)⟩,
    ⟨.push, 19, none, .call 73 [(.s 0), (.c (.int .i64 (10000)))]⟩,
    ⟨.no, 0, none, .store 2 (.v 2) (.s 0)⟩,
    ⟨.var 3, 5, none, .mov (.c (.int .i64 (0)))⟩])
 (.ret))), [.cell true 2 2, .t 3]⟩
noncomputable def t_spec_HoursBetween : List (Nat × Ctr) := [(70, c_spec_l03Time), (73, c_spec_l02Make)]
theorem lk_spec_HoursBetween_70 : look t_spec_HoursBetween 70 = some c_spec_l03Time := rfl
theorem lk_spec_HoursBetween_73 : look t_spec_HoursBetween 73 = some c_spec_l02Make := rfl
noncomputable def c_spec_HoursBetween : Ctr := mkN t_spec_HoursBetween ir35 [.bor, .bor]
theorem s_spec_HoursBetween : Sound Tryd.prog 35 c_spec_HoursBetween := mkN_sound _ (snd_cons s_spec_l03Time (snd_cons s_spec_l02Make snd_nil)) (by kernel_rfl : chkFn Tryd.prog 35 ir35 ir35_v = true)
theorem M_spec_HoursBetween : c_spec_HoursBetween.modes = [.bor, .bor] := rfl
theorem Fl_spec_HoursBetween : c_spec_HoursBetween.flat = false := rfl
attribute [go_sem] M_spec_HoursBetween Fl_spec_HoursBetween
attribute [go_sem] lk_spec_HoursBetween_70 lk_spec_HoursBetween_73
theorem Fs_spec_HoursBetween {a : Int} {b : Int} {y_ : Fraction × Int} (h : spec_HoursBetween a b = some y_) : c_spec_HoursBetween.F [.int .i64 a, .int .i64 b] = ⟨true, .tup [Fraction_av y_.1, .int .i64 y_.2], [.any, .any]⟩ := by
  refine mkN_E ?_
  dsimp only [spec_HoursBetween] at h
  obtain ⟨y_1, hk1, h⟩ := bd_some h
  have fhk1 := Fs_spec_l03Time hk1
  try simp only [go_sem] at fhk1
  obtain ⟨hk2, h⟩ := ck_some h
  rcases or_split hk2 with ⟨ghk2, hk2⟩ | ghk2
  · try simp only [go_sem, n1, n2, n3, n4] at ghk2
    all_goals
    obtain ⟨y_2, hhk2⟩ := Option.isSome_iff_exists.1 hk2
    have fhk2 := Fs_spec_l03Time hhk2
    try simp only [go_sem, n1, n2, n3, n4, ghk2] at hhk2
    all_goals
    try simp only [go_sem, ghk2] at fhk2
    rcases it_some h with ⟨hk3, h⟩ | ⟨hk3, h⟩
    · try simp only [go_sem, n1, n2, n3, n4, ghk2, hhk2] at hk3
      all_goals
      obtain rfl := so_some h
      refine ⟨0, fun L hL => ?_⟩
      simp only [go_sem, ir35, fhk1, ghk2, hhk2, fhk2, hk3]
    · try simp only [go_sem, n1, n2, n3, n4, ghk2, hhk2] at hk3
      all_goals
      obtain ⟨y_4, hk4, h⟩ := bd_some h
      have fhk4 := Fs_spec_l02Make hk4
      try simp only [go_sem, ghk2, hhk2, hk3] at fhk4
      obtain rfl := so_some h
      refine ⟨0, fun L hL => ?_⟩
      simp only [go_sem, ir35, fhk1, ghk2, hhk2, fhk2, hk3, fhk4]
  · have ghk2n := no_f ghk2
    have ghk2nn := no_t ghk2n
    try simp only [go_sem, n1, n2, n3, n4] at ghk2nn
    all_goals
    rcases it_some h with ⟨hk3, h⟩ | ⟨hk3, h⟩
    · try simp only [go_sem, n1, n2, n3, n4, ghk2nn] at hk3
      all_goals
      obtain rfl := so_some h
      refine ⟨0, fun L hL => ?_⟩
      simp only [go_sem, ir35, fhk1, ghk2nn, hk3]
    · try simp only [go_sem, n1, n2, n3, n4, ghk2nn] at hk3
      all_goals
      (simp_all)


def ir36_v : List Nat := [0, 2]
def ir36 : AFn := ⟨1, 2, .seq (.region false [
    ⟨.var 1, 2, none, .mov (.c (.int .i64 (0)))⟩])
 (.seq (.region false [
    ⟨.push, 3, none, .mov (.v 0)⟩,
    ⟨.push, 4, none, .call 50 [(.s 0)]⟩,
    ⟨.push, 5, none, .call 71 [(.s 0)]⟩,
    ⟨.var 1, 2, none, .mov (.s 0)⟩])
 (.ret)), [.t 1]⟩
noncomputable def t_spec_DrawTimeText : List (Nat × Ctr) := [(50, c_spec_l00From), (71, c_spec_l03When)]
theorem lk_spec_DrawTimeText_50 : look t_spec_DrawTimeText 50 = some c_spec_l00From := rfl
theorem lk_spec_DrawTimeText_71 : look t_spec_DrawTimeText 71 = some c_spec_l03When := rfl
noncomputable def c_spec_DrawTimeText : Ctr := mkF t_spec_DrawTimeText ir36 [.bor]
theorem s_spec_DrawTimeText : Sound Tryd.prog 36 c_spec_DrawTimeText := mkF_sound _ rfl (snd_cons s_spec_l00From (snd_cons s_spec_l03When snd_nil)) (by kernel_rfl : chkFn Tryd.prog 36 ir36 ir36_v = true)
theorem M_spec_DrawTimeText : c_spec_DrawTimeText.modes = [.bor] := rfl
theorem Fl_spec_DrawTimeText : c_spec_DrawTimeText.flat = true := rfl
attribute [go_sem] M_spec_DrawTimeText Fl_spec_DrawTimeText
attribute [go_sem] lk_spec_DrawTimeText_50 lk_spec_DrawTimeText_71
theorem Fs_spec_DrawTimeText {code : List UInt8} {y_ : Int} (h : spec_DrawTimeText code = some y_) : c_spec_DrawTimeText.F [.sl 1 (List.map byteAV code)] = ⟨true, .int .i64 y_, [.any]⟩ := by
  refine mkF_E rfl ?_
  dsimp only [spec_DrawTimeText] at h
  obtain ⟨y_1, hk1, h⟩ := bd_some h
  have fhk1 := Fs_spec_l00From hk1
  try simp only [go_sem] at fhk1
  obtain ⟨y_2, hk2, h⟩ := bd_some h
  have fhk2 := Fs_spec_l03When hk2
  try simp only [go_sem] at fhk2
  obtain rfl := so_some h
  refine ⟨0, fun L hL => ?_⟩
  simp only [go_sem, ir36, fhk1, fhk2]


theorem s_hFmt : Sound Tryd.prog 118 c_hFmt := hFmt_is

def ir104_v : List Nat := [0, 1, 4]
def ir104 : AFn := ⟨2, 3, .seq (.region false [
    ⟨.var 2, 4, none, .mov (.c (.str []))⟩])
 (.seq (.region false [
    ⟨.push, 5, none, .mov (.v 0)⟩,
    ⟨.push, 6, none, .mov (.v 1)⟩,
    ⟨.push, 7, none, .call 118 [(.s 1), (.s 0)]⟩,
    ⟨.var 2, 4, none, .mov (.s 0)⟩])
 (.ret)), [.t 2]⟩
noncomputable def t_strconv_FormatInt : List (Nat × Ctr) := [(118, c_hFmt)]
theorem lk_strconv_FormatInt_118 : look t_strconv_FormatInt 118 = some c_hFmt := rfl
noncomputable def c_strconv_FormatInt : Ctr := mkF t_strconv_FormatInt ir104 [.bor, .bor]
theorem s_strconv_FormatInt : Sound Tryd.prog 104 c_strconv_FormatInt := mkF_sound _ rfl (snd_cons s_hFmt snd_nil) (by kernel_rfl : chkFn Tryd.prog 104 ir104 ir104_v = true)
theorem M_strconv_FormatInt : c_strconv_FormatInt.modes = [.bor, .bor] := rfl
theorem Fl_strconv_FormatInt : c_strconv_FormatInt.flat = true := rfl
attribute [go_sem] M_strconv_FormatInt Fl_strconv_FormatInt
attribute [go_sem] lk_strconv_FormatInt_118
theorem Fs_strconv_FormatInt {i : Int} {base : Int} {y_ : (List UInt8)} (h : strconv_FormatInt i base = some y_) : c_strconv_FormatInt.F [.int .i64 i, .int .i64 base] = ⟨true, .str y_, [.any, .any]⟩ := by
  refine mkF_E rfl ?_
  dsimp only [strconv_FormatInt] at h
  obtain ⟨y_1, hk1, h⟩ := bd_some h
  have fhk1 := Fs_hFmt hk1
  try simp only [go_sem] at fhk1
  obtain rfl := so_some h
  refine ⟨0, fun L hL => ?_⟩
  simp only [go_sem, ir104, fhk1]


def ir74_v : List Nat := [0, 2]
def ir74 : AFn := ⟨1, 2, .seq (.region false [
    ⟨.var 1, 2, none, .mov (.c (.str []))⟩])
 (.seq (.region false [
    ⟨.push, 3, none, .mov (.v 0)⟩,
    ⟨.push, 4, none, .call 104 [(.s 0), (.c (.int .i64 (10)))]⟩,
    ⟨.var 1, 2, none, .mov (.s 0)⟩])
 (.ret)), [.t 1]⟩
noncomputable def t_impl_Decimal : List (Nat × Ctr) := [(104, c_strconv_FormatInt)]
theorem lk_impl_Decimal_104 : look t_impl_Decimal 104 = some c_strconv_FormatInt := rfl
noncomputable def c_impl_Decimal : Ctr := mkF t_impl_Decimal ir74 [.bor]
theorem s_impl_Decimal : Sound Tryd.prog 74 c_impl_Decimal := mkF_sound _ rfl (snd_cons s_strconv_FormatInt snd_nil) (by kernel_rfl : chkFn Tryd.prog 74 ir74 ir74_v = true)
theorem M_impl_Decimal : c_impl_Decimal.modes = [.bor] := rfl
theorem Fl_impl_Decimal : c_impl_Decimal.flat = true := rfl
attribute [go_sem] M_impl_Decimal Fl_impl_Decimal
attribute [go_sem] lk_impl_Decimal_104
theorem Fs_impl_Decimal {n : Int} {y_ : (List UInt8)} (h : impl_Decimal n = some y_) : c_impl_Decimal.F [.int .i64 n] = ⟨true, .str y_, [.any]⟩ := by
  refine mkF_E rfl ?_
  dsimp only [impl_Decimal] at h
  obtain ⟨y_1, hk1, h⟩ := bd_some h
  have fhk1 := Fs_strconv_FormatInt hk1
  try simp only [go_sem] at fhk1
  obtain rfl := so_some h
  refine ⟨0, fun L hL => ?_⟩
  simp only [go_sem, ir74, fhk1]


def ir60_b0 : IR := .seq (.test false [
    ⟨.push, 8, none, .mov (.v 3)⟩,
    ⟨.push, 9, none, .len true (.s 0)⟩,
    ⟨.push, 10, none, .mov (.v 1)⟩,
    ⟨.push, 11, none, .bin false .lss (.s 1) (.s 0)⟩] (.s 0)
  (.skip)
  (.exit 0))
 (.block 1 (.region false [
    ⟨.push, 12, none, .mov (.v 3)⟩,
    ⟨.push, 13, none, .bin false .add (.c (.str [48])) (.s 0)⟩,
    ⟨.var 3, 5, none, .mov (.s 0)⟩]))
def ir60_k0 : List Bool := [false, true, false, true]
def ir60_o0 : List Bool := [false, false, false, true]
def ir60_r0 : List Bool := [false, false, true, false]
def ir60_v : List Nat := [0, 1, 4, 5]
def ir60 : AFn := ⟨2, 4, .seq (.region false [
    ⟨.var 2, 4, none, .mov (.c (.str []))⟩])
 (.seq (.region false [
    ⟨.push, 6, none, .mov (.v 0)⟩,
    ⟨.push, 7, none, .call 74 [(.s 0)]⟩,
    ⟨.var 3, 5, none, .mov (.s 0)⟩])
 (.seq (.block 0 (.loop ir60_k0 ir60_o0 ir60_r0 ir60_b0))
 (.seq (.region false [
    ⟨.push, 14, none, .mov (.v 3)⟩,
    ⟨.var 2, 4, none, .mov (.s 0)⟩])
 (.ret)))), [.t 2]⟩
noncomputable def t_impl_padded : List (Nat × Ctr) := [(74, c_impl_Decimal)]
theorem lk_impl_padded_74 : look t_impl_padded 74 = some c_impl_Decimal := rfl
noncomputable def c_impl_padded : Ctr := mkF t_impl_padded ir60 [.bor, .bor]
theorem s_impl_padded : Sound Tryd.prog 60 c_impl_padded := mkF_sound _ rfl (snd_cons s_impl_Decimal snd_nil) (by kernel_rfl : chkFn Tryd.prog 60 ir60 ir60_v = true)
theorem M_impl_padded : c_impl_padded.modes = [.bor, .bor] := rfl
theorem Fl_impl_padded : c_impl_padded.flat = true := rfl
attribute [go_sem] M_impl_padded Fl_impl_padded
attribute [go_sem] lk_impl_padded_74
def E_impl_padded_l1 (digits : Int) : (List UInt8) → St
  | s_ => ⟨[.any, .int .i64 digits, .any, .str s_], [], [], true⟩
def R_impl_padded_l1 (digits : Int) (y : (List UInt8)) : Res := (.exit 0, ⟨[.any, .any, .any, .str y], [], [], true⟩)
theorem impl_padded_l1_ex {digits : Int} {sgm_ : (List UInt8)} {rho_ : (List UInt8)} (h : whileE (impl_padded_l1 digits) sgm_ = some rho_) : ∃ L0, ∀ L, L0 ≤ L → iter (exec (look t_impl_padded) L ir60_b0) ir60_k0 ir60_o0 ir60_r0 L (E_impl_padded_l1 digits sgm_) = R_impl_padded_l1 digits rho_ := by
  refine loop_ex (E := E_impl_padded_l1 digits) (R := R_impl_padded_l1 digits) (fun y => by first | (intro c; cases c) | (rcases y with y | y <;> (intro c; cases c)) | (rcases y with y | y | y <;> (intro c; cases c))) ?_ h
  clear h
  intro s_ o_ h
  dsimp only [impl_padded_l1] at h
  rcases it_some h with ⟨hk2, h⟩ | ⟨hk2, h⟩
  · try simp only [go_sem, n1, n2, n3, n4] at hk2
    all_goals
    obtain ⟨hk3, h⟩ := ck_some h
    try simp only [go_sem, n1, n2, n3, n4, hk2] at hk3
    all_goals
    obtain rfl := so_some h
    refine ⟨0, fun L hL => ?_⟩
    simp only [go_sem, ir60, E_impl_padded_l1, R_impl_padded_l1, ir60_b0, ir60_k0, ir60_o0, ir60_r0, hk2, hk3]
  · try simp only [go_sem, n1, n2, n3, n4] at hk2
    all_goals
    obtain rfl := so_some h
    refine ⟨0, fun L hL => ?_⟩
    simp only [go_sem, ir60, E_impl_padded_l1, R_impl_padded_l1, ir60_b0, ir60_k0, ir60_o0, ir60_r0, hk2]

theorem Fs_impl_padded {n : Int} {digits : Int} {y_ : (List UInt8)} (h : impl_padded n digits = some y_) : c_impl_padded.F [.int .i64 n, .int .i64 digits] = ⟨true, .str y_, [.any, .any]⟩ := by
  refine mkF_E rfl ?_
  dsimp only [impl_padded] at h
  obtain ⟨y_1, hk1, h⟩ := bd_some h
  have fhk1 := Fs_impl_Decimal hk1
  try simp only [go_sem] at fhk1
  obtain ⟨y_4, hk4, h⟩ := bd_some h
  obtain ⟨Lhk4, ehk4⟩ := impl_padded_l1_ex hk4
  obtain rfl := so_some h
  refine ⟨Lhk4, fun L hL => ?_⟩
  have ehk4 := ehk4 L (by omega)
  try simp only [go_sem, E_impl_padded_l1, R_impl_padded_l1, ir60_k0, ir60_o0, ir60_r0] at ehk4
  simp only [go_sem, ir60, E_impl_padded_l1, R_impl_padded_l1, ir60_k0, ir60_o0, ir60_r0, fhk1, ehk4]


def ir37_v : List Nat := [0, 2]
def ir37 : AFn := ⟨1, 2, .seq (.region false [
    ⟨.var 1, 2, none, .mov (.c (.str []))⟩])
 (.seq (.test false [
    ⟨.push, 3, none, .mov (.v 0)⟩,
    ⟨.push, 4, none, .call 42 [(.s 0)]⟩,
    ⟨.push, 5, none, .un .not (.s 0)⟩] (.s 0)
  (.seq (.region false [
      ⟨.var 1, 2, none, .mov (.c (.str []))⟩])
   (.ret))
  (.skip))
 (.seq (.region false [
    ⟨.push, 6, none, .mov (.v 0)⟩,
    ⟨.push, 7, none, .bin false .quo (.s 0) (.c (.int .i64 (10000)))⟩,
    ⟨.push, 8, none, .call 74 [(.s 0)]⟩,
    ⟨.push, 9, none, .bin false .add (.s 0) (.c (.str [46]))⟩,
    ⟨.push, 10, none, .mov (.v 0)⟩,
    ⟨.push, 11, none, .bin false .rem (.s 0) (.c (.int .i64 (10000)))⟩,
    ⟨.push, 12, none, .call 60 [(.s 0), (.c (.int .i64 (4)))]⟩,
    ⟨.push, 13, none, .bin false .add (.s 3) (.s 0)⟩,
    ⟨.var 1, 2, none, .mov (.s 0)⟩])
 (.ret))), [.t 1]⟩
noncomputable def t_impl_TimeText : List (Nat × Ctr) := [(42, c_impl_ValidTime), (74, c_impl_Decimal), (60, c_impl_padded)]
theorem lk_impl_TimeText_42 : look t_impl_TimeText 42 = some c_impl_ValidTime := rfl
theorem lk_impl_TimeText_74 : look t_impl_TimeText 74 = some c_impl_Decimal := rfl
theorem lk_impl_TimeText_60 : look t_impl_TimeText 60 = some c_impl_padded := rfl
noncomputable def c_impl_TimeText : Ctr := mkF t_impl_TimeText ir37 [.bor]
theorem s_impl_TimeText : Sound Tryd.prog 37 c_impl_TimeText := mkF_sound _ rfl (snd_cons s_impl_ValidTime (snd_cons s_impl_Decimal (snd_cons s_impl_padded snd_nil))) (by kernel_rfl : chkFn Tryd.prog 37 ir37 ir37_v = true)
theorem M_impl_TimeText : c_impl_TimeText.modes = [.bor] := rfl
theorem Fl_impl_TimeText : c_impl_TimeText.flat = true := rfl
attribute [go_sem] M_impl_TimeText Fl_impl_TimeText
attribute [go_sem] lk_impl_TimeText_42 lk_impl_TimeText_74 lk_impl_TimeText_60
theorem Fs_impl_TimeText {t : Int} {y_ : (List UInt8)} (h : impl_TimeText t = some y_) : c_impl_TimeText.F [.int .i64 t] = ⟨true, .str y_, [.any]⟩ := by
  refine mkF_E rfl ?_
  dsimp only [impl_TimeText] at h
  obtain ⟨y_1, hk1, h⟩ := bd_some h
  have fhk1 := Fs_impl_ValidTime hk1
  try simp only [go_sem] at fhk1
  rcases it_some h with ⟨hk2, h⟩ | ⟨hk2, h⟩
  · try simp only [go_sem, n1, n2, n3, n4] at hk2
    all_goals
    obtain rfl := so_some h
    refine ⟨0, fun L hL => ?_⟩
    simp only [go_sem, ir37, fhk1, hk2]
  · try simp only [go_sem, n1, n2, n3, n4] at hk2
    all_goals
    obtain ⟨hk3, h⟩ := ck_some h
    try simp only [go_sem, n1, n2, n3, n4, hk2] at hk3
    all_goals
    obtain ⟨y_4, hk4, h⟩ := bd_some h
    have fhk4 := Fs_impl_Decimal hk4
    try simp only [go_sem, hk2, hk3] at fhk4
    obtain ⟨hk5, h⟩ := ck_some h
    try simp only [go_sem, n1, n2, n3, n4, hk2, hk3] at hk5
    all_goals
    obtain ⟨y_6, hk6, h⟩ := bd_some h
    have fhk6 := Fs_impl_padded hk6
    try simp only [go_sem, hk2, hk3, hk5] at fhk6
    obtain ⟨hk7, h⟩ := ck_some h
    try simp only [go_sem, n1, n2, n3, n4, hk2, hk3, hk5] at hk7
    all_goals
    obtain rfl := so_some h
    refine ⟨0, fun L hL => ?_⟩
    simp only [go_sem, ir37, fhk1, hk2, hk3, fhk4, hk5, fhk6, hk7]


def ir61_v : List Nat := [0, 2]
def ir61 : AFn := ⟨1, 2, .seq (.region false [
    ⟨.var 1, 2, none, .mov (.c (.int .i64 (0)))⟩])
 (.seq (.anyo 10 [
    ⟨.slot 0, 3, none, .mov (.v 0)⟩,
    ⟨.slot 1, 4, none, .ixStr (.s 0) (.c (.int .i64 (0)))⟩,
    ⟨.slot 2, 5, none, .bin false .sub (.s 1) (.c (.int .u8 (48)))⟩,
    ⟨.slot 3, 6, none, .conv .i64 (.s 2)⟩,
    ⟨.slot 4, 7, none, .bin false .mul (.s 3) (.c (.int .i64 (10)))⟩,
    ⟨.slot 5, 8, none, .mov (.v 0)⟩,
    ⟨.slot 6, 9, none, .ixStr (.s 5) (.c (.int .i64 (1)))⟩,
    ⟨.slot 7, 10, none, .bin false .sub (.s 6) (.c (.int .u8 (48)))⟩,
    ⟨.slot 8, 11, none, .conv .i64 (.s 7)⟩,
    ⟨.slot 9, 12, none, .bin false .add (.s 4) (.s 8)⟩,
    ⟨.var 1, 2, none, .mov (.s 9)⟩] [] .skip)
 (.ret)), [.t 1]⟩
noncomputable def t_impl_twoDigits : List (Nat × Ctr) := []
noncomputable def c_impl_twoDigits : Ctr := mkF t_impl_twoDigits ir61 [.bor]
theorem s_impl_twoDigits : Sound Tryd.prog 61 c_impl_twoDigits := mkF_sound _ rfl snd_nil (by kernel_rfl : chkFn Tryd.prog 61 ir61 ir61_v = true)
theorem M_impl_twoDigits : c_impl_twoDigits.modes = [.bor] := rfl
theorem Fl_impl_twoDigits : c_impl_twoDigits.flat = true := rfl
attribute [go_sem] M_impl_twoDigits Fl_impl_twoDigits
theorem Fs_impl_twoDigits {s_ : List UInt8} {y_ : Int} (h : impl_twoDigits s_ = some y_) : c_impl_twoDigits.F [.str s_] = ⟨true, .int .i64 y_, [.any]⟩ := by
  refine mkF_E rfl ?_
  dsimp only [impl_twoDigits] at h
  obtain ⟨hk1, h⟩ := ck_some h
  try simp only [go_sem, n1, n2, n3, n4] at hk1
  all_goals
  obtain ⟨hk2, h⟩ := ck_some h
  try simp only [go_sem, n1, n2, n3, n4, hk1] at hk2
  all_goals
  obtain rfl := so_some h
  refine ⟨0, fun L hL => ?_⟩
  simp only [go_sem, ir61, hk1, hk2]


theorem s_hCut : Sound Tryd.prog 75 c_hCut := hCut_is

theorem s_hRdDec : Sound Tryd.prog 76 c_hRdDec := hRdDec_is

def ir38_v : List Nat := [0, 2, 3, 4, 5, 7, 8, 9]
def ir38 : AFn := ⟨1, 8, .seq (.region false [
    ⟨.var 1, 2, none, .mov (.c (.int .i64 (0)))⟩,
    ⟨.var 2, 3, none, .mov (.c (.bool false))⟩])
 (.seq (.region false [
    ⟨.push, 11, none, .mov (.v 0)⟩,
    ⟨.push, 12, none, .call 75 [(.s 0), (.c (.str [46]))]⟩,
    ⟨.push, 10, none, .mov (.s 0)⟩,
    ⟨.push, 13, none, .ext (.s 0) 0⟩,
    ⟨.push, 14, none, .ext (.s 1) 1⟩,
    ⟨.push, 15, none, .ext (.s 2) 2⟩,
    ⟨.var 3, 4, none, .mov (.s 2)⟩,
    ⟨.var 4, 5, none, .mov (.s 1)⟩,
    ⟨.push, 6, none, .mov (.s 0)⟩])
 (.seq (.region false [
    ⟨.push, 17, none, .mov (.v 3)⟩,
    ⟨.push, 18, none, .call 76 [(.s 0)]⟩,
    ⟨.push, 16, none, .mov (.s 0)⟩,
    ⟨.push, 19, none, .ext (.s 0) 0⟩,
    ⟨.push, 20, none, .ext (.s 1) 1⟩,
    ⟨.var 5, 7, none, .mov (.s 1)⟩,
    ⟨.var 6, 8, none, .mov (.s 0)⟩])
 (.seq (.test false [
    ⟨.push, 21, none, .mov (.v 6)⟩,
    ⟨.push, 22, none, .un .not (.s 0)⟩,
    ⟨.push, 23, none, .mov (.s 0)⟩,
    ⟨.push, 24, (some ((.s 0), false)), .mov (.v 5)⟩,
    ⟨.push, 25, (some ((.s 1), false)), .call 51 [(.s 0), (.c (.int .i64 (0))), (.c (.int .i64 (1000)))]⟩,
    ⟨.push, 26, (some ((.s 2), false)), .un .not (.s 0)⟩,
    ⟨.push, 27, none, .pick (.s 3) (.c (.bool true)) (.s 0)⟩,
    ⟨.push, 28, none, .mov (.s 0)⟩,
    ⟨.push, 29, (some ((.s 0), false)), .mov (.v 4)⟩,
    ⟨.push, 30, (some ((.s 1), false)), .len true (.s 0)⟩,
    ⟨.push, 31, (some ((.s 2), false)), .bin false .neq (.s 0) (.c (.int .i64 (4)))⟩,
    ⟨.push, 32, none, .pick (.s 3) (.c (.bool true)) (.s 0)⟩] (.s 0)
  (.seq (.region false [
      ⟨.var 1, 2, none, .mov (.c (.int .i64 (0)))⟩,
      ⟨.var 2, 3, none, .mov (.c (.bool false))⟩])
   (.ret))
  (.skip))
 (.seq (.anyo 11 [
    ⟨.slot 0, 33, none, .mov (.v 5)⟩,
    ⟨.slot 1, 34, none, .bin false .mul (.s 0) (.c (.int .i64 (10000)))⟩,
    ⟨.slot 2, 35, none, .mov (.v 4)⟩,
    ⟨.slot 3, 36, none, .pur (.slice 0 (.s 2) none (some (.c (.int .i64 (2)))))⟩,
    ⟨.slot 4, 37, none, .callp 61 [(.s 3)]⟩,
    ⟨.slot 5, 38, none, .bin false .mul (.s 4) (.c (.int .i64 (100)))⟩,
    ⟨.slot 6, 39, none, .bin false .add (.s 1) (.s 5)⟩,
    ⟨.slot 7, 40, none, .mov (.v 4)⟩,
    ⟨.slot 8, 41, none, .pur (.slice 0 (.s 7) (some (.c (.int .i64 (2)))) none)⟩,
    ⟨.slot 9, 42, none, .callp 61 [(.s 8)]⟩,
    ⟨.slot 10, 43, none, .bin false .add (.s 6) (.s 9)⟩,
    ⟨.var 7, 9, none, .mov (.s 10)⟩] [] .skip)
 (.seq (.test false [
    ⟨.push, 44, none, .mov (.v 7)⟩,
    ⟨.push, 45, none, .call 37 [(.s 0)]⟩,
    ⟨.push, 46, none, .mov (.v 0)⟩,
    ⟨.push, 47, none, .bin false .neq (.s 1) (.s 0)⟩] (.s 0)
  (.seq (.region false [
      ⟨.var 1, 2, none, .mov (.c (.int .i64 (0)))⟩,
      ⟨.var 2, 3, none, .mov (.c (.bool false))⟩])
   (.ret))
  (.skip))
 (.seq (.region false [
    ⟨.push, 48, none, .mov (.v 7)⟩,
    ⟨.var 1, 2, none, .mov (.s 0)⟩,
    ⟨.var 2, 3, none, .mov (.c (.bool true))⟩])
 (.ret))))))), [.t 1, .t 2]⟩
noncomputable def t_impl_ReadTime : List (Nat × Ctr) := [(75, c_hCut), (76, c_hRdDec), (51, c_impl_in), (61, c_impl_twoDigits), (37, c_impl_TimeText)]
theorem lk_impl_ReadTime_75 : look t_impl_ReadTime 75 = some c_hCut := rfl
theorem lk_impl_ReadTime_76 : look t_impl_ReadTime 76 = some c_hRdDec := rfl
theorem lk_impl_ReadTime_51 : look t_impl_ReadTime 51 = some c_impl_in := rfl
theorem lk_impl_ReadTime_61 : look t_impl_ReadTime 61 = some c_impl_twoDigits := rfl
theorem lk_impl_ReadTime_37 : look t_impl_ReadTime 37 = some c_impl_TimeText := rfl
noncomputable def c_impl_ReadTime : Ctr := mkF t_impl_ReadTime ir38 [.bor]
theorem s_impl_ReadTime : Sound Tryd.prog 38 c_impl_ReadTime := mkF_sound _ rfl (snd_cons s_hCut (snd_cons s_hRdDec (snd_cons s_impl_in (snd_cons s_impl_twoDigits (snd_cons s_impl_TimeText snd_nil))))) (by kernel_rfl : chkFn Tryd.prog 38 ir38 ir38_v = true)
theorem M_impl_ReadTime : c_impl_ReadTime.modes = [.bor] := rfl
theorem Fl_impl_ReadTime : c_impl_ReadTime.flat = true := rfl
attribute [go_sem] M_impl_ReadTime Fl_impl_ReadTime
attribute [go_sem] lk_impl_ReadTime_75 lk_impl_ReadTime_76 lk_impl_ReadTime_51 lk_impl_ReadTime_61 lk_impl_ReadTime_37
theorem Fs_impl_ReadTime {s_ : List UInt8} {y_ : Int × Bool} (h : impl_ReadTime s_ = some y_) : c_impl_ReadTime.F [.str s_] = ⟨true, .tup [.int .i64 y_.1, .bool y_.2], [.any]⟩ := by
  refine mkF_E rfl ?_
  dsimp only [impl_ReadTime] at h
  obtain ⟨y_1, hk1, h⟩ := bd_some h
  have fhk1 := Fs_hCut hk1
  try simp only [go_sem] at fhk1
  obtain ⟨y_2, hk2, h⟩ := bd_some h
  have fhk2 := Fs_hRdDec hk2
  try simp only [go_sem] at fhk2
  obtain ⟨hk3, h⟩ := ck_some h
  rcases or_split hk3 with ⟨ghk3, hk3⟩ | ghk3
  · try simp only [go_sem, n1, n2, n3, n4] at ghk3
    all_goals
    obtain ⟨y_3, hhk3⟩ := Option.isSome_iff_exists.1 hk3
    have fhk3 := Fs_impl_in hhk3
    try simp only [go_sem, n1, n2, n3, n4, ghk3] at hhk3
    all_goals
    try simp only [go_sem, ghk3] at fhk3
    rcases it_some h with ⟨hk4, h⟩ | ⟨hk4, h⟩
    · try simp only [go_sem, n1, n2, n3, n4, ghk3, hhk3] at hk4
      all_goals
      obtain rfl := so_some h
      refine ⟨0, fun L hL => ?_⟩
      simp only [go_sem, ir38, fhk1, fhk2, ghk3, hhk3, fhk3, hk4]
    · try simp only [go_sem, n1, n2, n3, n4, ghk3, hhk3] at hk4
      all_goals
      obtain ⟨hk5, h⟩ := ck_some h
      try simp only [go_sem, n1, n2, n3, n4, ghk3, hhk3, hk4] at hk5
      all_goals
      obtain ⟨y_6, hk6, h⟩ := bd_some h
      have fhk6 := Fs_impl_twoDigits hk6
      try simp only [go_sem, ghk3, hhk3, hk4, hk5] at fhk6
      obtain ⟨hk7, h⟩ := ck_some h
      try simp only [go_sem, n1, n2, n3, n4, ghk3, hhk3, hk4, hk5] at hk7
      all_goals
      obtain ⟨y_8, hk8, h⟩ := bd_some h
      have fhk8 := Fs_impl_twoDigits hk8
      try simp only [go_sem, ghk3, hhk3, hk4, hk5, hk7] at fhk8
      obtain ⟨y_9, hk9, h⟩ := bd_some h
      have fhk9 := Fs_impl_TimeText hk9
      try simp only [go_sem, ghk3, hhk3, hk4, hk5, hk7] at fhk9
      rcases it_some h with ⟨hk10, h⟩ | ⟨hk10, h⟩
      · try simp only [go_sem, n1, n2, n3, n4, ghk3, hhk3, hk4, hk5, hk7] at hk10
        all_goals
        obtain rfl := so_some h
        refine ⟨0, fun L hL => ?_⟩
        simp only [go_sem, ir38, fhk1, fhk2, ghk3, hhk3, fhk3, hk4, hk5, fhk6, hk7, fhk8, fhk9, hk10]
      · try simp only [go_sem, n1, n2, n3, n4, ghk3, hhk3, hk4, hk5, hk7] at hk10
        all_goals
        obtain rfl := so_some h
        refine ⟨0, fun L hL => ?_⟩
        simp only [go_sem, ir38, fhk1, fhk2, ghk3, hhk3, fhk3, hk4, hk5, fhk6, hk7, fhk8, fhk9, hk10]
  · have ghk3n := no_f ghk3
    have ghk3nn := no_t ghk3n
    try simp only [go_sem, n1, n2, n3, n4] at ghk3nn
    all_goals
    rcases it_some h with ⟨hk4, h⟩ | ⟨hk4, h⟩
    · try simp only [go_sem, n1, n2, n3, n4, ghk3nn] at hk4
      all_goals
      obtain rfl := so_some h
      refine ⟨0, fun L hL => ?_⟩
      simp only [go_sem, ir38, fhk1, fhk2, ghk3nn, hk4]
    · try simp only [go_sem, n1, n2, n3, n4, ghk3nn] at hk4
      all_goals
      (simp_all)


def ir79_b0 : IR := .seq (.test false [
    ⟨.push, 8, none, .mov (.v 3)⟩,
    ⟨.push, 9, none, .bin false .neq (.s 0) (.c (.int .i64 (0)))⟩] (.s 0)
  (.skip)
  (.exit 0))
 (.seq (.block 1 (.seq (.region false [
      ⟨.push, 12, none, .mov (.v 3)⟩,
      ⟨.push, 13, none, .bin false .rem (.s 0) (.c (.int .i64 (10)))⟩,
      ⟨.var 4, 5, none, .mov (.s 0)⟩])
   (.seq (.test false [
      ⟨.push, 14, none, .mov (.v 4)⟩,
      ⟨.push, 15, none, .bin false .lss (.s 0) (.c (.int .i64 (0)))⟩] (.s 0)
    (.region false [
       ⟨.push, 16, none, .mov (.v 4)⟩,
       ⟨.push, 17, none, .un .neg (.s 0)⟩,
       ⟨.var 4, 5, none, .mov (.s 0)⟩])
    (.skip))
   (.region false [
     ⟨.push, 18, none, .mov (.v 4)⟩,
     ⟨.push, 19, none, .bin false .add (.c (.int .i64 (48))) (.s 0)⟩,
     ⟨.push, 20, none, .conv .u8 (.s 0)⟩,
     ⟨.push, 21, none, .mkSl 1 (.int .u8 (0)) 1 [(0, (.s 0))]⟩,
     ⟨.push, 22, none, .mov (.v 2)⟩,
     ⟨.push, 23, none, .app 1 1 (.int .u8 (0)) (.s 1) (.s 0)⟩,
     ⟨.var 2, 3, none, .mov (.s 0)⟩]))))
 (.region false [
   ⟨.push, 10, none, .mov (.v 3)⟩,
   ⟨.push, 11, none, .bin false .quo (.s 0) (.c (.int .i64 (10)))⟩,
   ⟨.var 3, 4, none, .mov (.s 0)⟩]))
def ir79_k0 : List Bool := [true, false, true, true, false]
def ir79_o0 : List Bool := [true, false, true, false, false]
def ir79_r0 : List Bool := [false, true, false, false, false]
def ir79_v : List Nat := [0, 2, 3, 4, 5]
def ir79 : AFn := ⟨1, 5, .seq (.region false [
    ⟨.var 1, 2, none, .mov (.c (.str []))⟩])
 (.seq (.region false [
    ⟨.push, 6, none, .mkSl 1 (.int .u8 (0)) 0 []⟩,
    ⟨.var 2, 3, none, .mov (.s 0)⟩])
 (.seq (.seq (.region false [
     ⟨.push, 7, none, .mov (.v 0)⟩,
     ⟨.var 3, 4, none, .mov (.s 0)⟩])
  (.block 0 (.loop ir79_k0 ir79_o0 ir79_r0 ir79_b0)))
 (.seq (.test false [
    ⟨.push, 24, none, .mov (.v 2)⟩,
    ⟨.push, 25, none, .len false (.s 0)⟩,
    ⟨.push, 26, none, .bin false .eql (.s 0) (.c (.int .i64 (0)))⟩] (.s 0)
  (.seq (.region false [
      ⟨.var 1, 2, none, .mov (.c (.str [48]))⟩])
   (.ret))
  (.skip))
 (.seq (.test false [
    ⟨.push, 27, none, .mov (.v 0)⟩,
    ⟨.push, 28, none, .bin false .lss (.s 0) (.c (.int .i64 (0)))⟩] (.s 0)
  (.seq (.region false [
      ⟨.push, 29, none, .mov (.v 2)⟩,
      ⟨.push, 30, none, .b2s (.s 0)⟩,
      ⟨.push, 31, none, .bin false .add (.c (.str [45])) (.s 0)⟩,
      ⟨.var 1, 2, none, .mov (.s 0)⟩])
   (.ret))
  (.skip))
 (.seq (.region false [
    ⟨.push, 32, none, .mov (.v 2)⟩,
    ⟨.push, 33, none, .b2s (.s 0)⟩,
    ⟨.var 1, 2, none, .mov (.s 0)⟩])
 (.ret)))))), [.t 1]⟩
noncomputable def t_spec_l01Dec : List (Nat × Ctr) := []
noncomputable def c_spec_l01Dec : Ctr := mkF t_spec_l01Dec ir79 [.bor]
theorem s_spec_l01Dec : Sound Tryd.prog 79 c_spec_l01Dec := mkF_sound _ rfl snd_nil (by kernel_rfl : chkFn Tryd.prog 79 ir79 ir79_v = true)
theorem M_spec_l01Dec : c_spec_l01Dec.modes = [.bor] := rfl
theorem Fl_spec_l01Dec : c_spec_l01Dec.flat = true := rfl
attribute [go_sem] M_spec_l01Dec Fl_spec_l01Dec
def E_spec_l01Dec_l1 (n : Int) : ((List UInt8) × Int) → St
  | (out, k) => ⟨[.int .i64 n, .any, .own 3200000, .int .i64 k, .any], [], [(3200000, ⟨1, List.map byteAV out⟩)], true⟩
def R_spec_l01Dec_l1 (n : Int) (y : (List UInt8)) : Res := (.exit 0, ⟨[.int .i64 n, .any, .own 3200000, .any, .any], [], [(3200000, ⟨1, List.map byteAV y⟩)], true⟩)
theorem spec_l01Dec_l1_ex {n : Int} {sgm_ : (List UInt8) × Int} {rho_ : (List UInt8)} (h : whileE (spec_l01Dec_l1 n) sgm_ = some rho_) : ∃ L0, ∀ L, L0 ≤ L → iter (exec (look t_spec_l01Dec) L ir79_b0) ir79_k0 ir79_o0 ir79_r0 L (E_spec_l01Dec_l1 n sgm_) = R_spec_l01Dec_l1 n rho_ := by
  refine loop_ex (E := E_spec_l01Dec_l1 n) (R := R_spec_l01Dec_l1 n) (fun y => by first | (intro c; cases c) | (rcases y with y | y <;> (intro c; cases c)) | (rcases y with y | y | y <;> (intro c; cases c))) ?_ h
  clear h
  rintro ⟨out, k⟩ o_ h
  dsimp only [spec_l01Dec_l1] at h
  rcases it_some h with ⟨hk1, h⟩ | ⟨hk1, h⟩
  · try simp only [go_sem, n1, n2, n3, n4] at hk1
    all_goals
    obtain ⟨hk2, h⟩ := ck_some h
    try simp only [go_sem, n1, n2, n3, n4, hk1] at hk2
    all_goals
    rcases it_some h with ⟨hk3, h⟩ | ⟨hk3, h⟩
    · try simp only [go_sem, n1, n2, n3, n4, hk1, hk2] at hk3
      all_goals
      obtain ⟨hk4, h⟩ := ck_some h
      try simp only [go_sem, n1, n2, n3, n4, hk1, hk2, hk3] at hk4
      all_goals
      obtain rfl := so_some h
      refine ⟨0, fun L hL => ?_⟩
      simp only [go_sem, ir79, E_spec_l01Dec_l1, R_spec_l01Dec_l1, ir79_b0, ir79_k0, ir79_o0, ir79_r0, hk1, hk2, hk3, hk4]
    · try simp only [go_sem, n1, n2, n3, n4, hk1, hk2] at hk3
      all_goals
      obtain ⟨hk5, h⟩ := ck_some h
      try simp only [go_sem, n1, n2, n3, n4, hk1, hk2, hk3] at hk5
      all_goals
      obtain rfl := so_some h
      refine ⟨0, fun L hL => ?_⟩
      simp only [go_sem, ir79, E_spec_l01Dec_l1, R_spec_l01Dec_l1, ir79_b0, ir79_k0, ir79_o0, ir79_r0, hk1, hk2, hk3, hk5]
  · try simp only [go_sem, n1, n2, n3, n4] at hk1
    all_goals
    obtain rfl := so_some h
    refine ⟨0, fun L hL => ?_⟩
    simp only [go_sem, ir79, E_spec_l01Dec_l1, R_spec_l01Dec_l1, ir79_b0, ir79_k0, ir79_o0, ir79_r0, hk1]

theorem Fs_spec_l01Dec {n : Int} {y_ : (List UInt8)} (h : spec_l01Dec n = some y_) : c_spec_l01Dec.F [.int .i64 n] = ⟨true, .str y_, [.any]⟩ := by
  refine mkF_E rfl ?_
  dsimp only [spec_l01Dec] at h
  obtain ⟨y_6, hk6, h⟩ := bd_some h
  obtain ⟨Lhk6, ehk6⟩ := spec_l01Dec_l1_ex hk6
  rcases it_some h with ⟨hk7, h⟩ | ⟨hk7, h⟩
  · try simp only [go_sem, n1, n2, n3, n4] at hk7
    all_goals
    obtain rfl := so_some h
    refine ⟨Lhk6, fun L hL => ?_⟩
    have ehk6 := ehk6 L (by omega)
    try simp only [go_sem, E_spec_l01Dec_l1, R_spec_l01Dec_l1, ir79_k0, ir79_o0, ir79_r0, hk7] at ehk6
    simp only [go_sem, ir79, E_spec_l01Dec_l1, R_spec_l01Dec_l1, ir79_k0, ir79_o0, ir79_r0, hk7, ehk6]
  · try simp only [go_sem, n1, n2, n3, n4] at hk7
    all_goals
    rcases it_some h with ⟨hk8, h⟩ | ⟨hk8, h⟩
    · try simp only [go_sem, n1, n2, n3, n4, hk7] at hk8
      all_goals
      obtain ⟨hk9, h⟩ := ck_some h
      try simp only [go_sem, n1, n2, n3, n4, hk7, hk8] at hk9
      all_goals
      obtain rfl := so_some h
      refine ⟨Lhk6, fun L hL => ?_⟩
      have ehk6 := ehk6 L (by omega)
      try simp only [go_sem, E_spec_l01Dec_l1, R_spec_l01Dec_l1, ir79_k0, ir79_o0, ir79_r0, hk7, hk8, hk9] at ehk6
      simp only [go_sem, ir79, E_spec_l01Dec_l1, R_spec_l01Dec_l1, ir79_k0, ir79_o0, ir79_r0, hk7, hk8, hk9, ehk6]
    · try simp only [go_sem, n1, n2, n3, n4, hk7] at hk8
      all_goals
      obtain rfl := so_some h
      refine ⟨Lhk6, fun L hL => ?_⟩
      have ehk6 := ehk6 L (by omega)
      try simp only [go_sem, E_spec_l01Dec_l1, R_spec_l01Dec_l1, ir79_k0, ir79_o0, ir79_r0, hk7, hk8] at ehk6
      simp only [go_sem, ir79, E_spec_l01Dec_l1, R_spec_l01Dec_l1, ir79_k0, ir79_o0, ir79_r0, hk7, hk8, ehk6]


def ir97_v : List Nat := [0, 2]
def ir97 : AFn := ⟨1, 2, .seq (.region false [
    ⟨.var 1, 2, none, .mov (.c (.str []))⟩])
 (.seq (.region false [
    ⟨.push, 3, none, .mov (.v 0)⟩,
    ⟨.push, 4, none, .bin false .quo (.s 0) (.c (.int .i64 (10)))⟩,
    ⟨.push, 5, none, .call 79 [(.s 0)]⟩,
    ⟨.push, 6, none, .mov (.v 0)⟩,
    ⟨.push, 7, none, .bin false .rem (.s 0) (.c (.int .i64 (10)))⟩,
    ⟨.push, 8, none, .call 79 [(.s 0)]⟩,
    ⟨.push, 9, none, .bin false .add (.s 3) (.s 0)⟩,
    ⟨.var 1, 2, none, .mov (.s 0)⟩])
 (.ret)), [.t 1]⟩
noncomputable def t_spec_l03Two : List (Nat × Ctr) := [(79, c_spec_l01Dec)]
theorem lk_spec_l03Two_79 : look t_spec_l03Two 79 = some c_spec_l01Dec := rfl
noncomputable def c_spec_l03Two : Ctr := mkF t_spec_l03Two ir97 [.bor]
theorem s_spec_l03Two : Sound Tryd.prog 97 c_spec_l03Two := mkF_sound _ rfl (snd_cons s_spec_l01Dec snd_nil) (by kernel_rfl : chkFn Tryd.prog 97 ir97 ir97_v = true)
theorem M_spec_l03Two : c_spec_l03Two.modes = [.bor] := rfl
theorem Fl_spec_l03Two : c_spec_l03Two.flat = true := rfl
attribute [go_sem] M_spec_l03Two Fl_spec_l03Two
attribute [go_sem] lk_spec_l03Two_79
theorem Fs_spec_l03Two {n : Int} {y_ : (List UInt8)} (h : spec_l03Two n = some y_) : c_spec_l03Two.F [.int .i64 n] = ⟨true, .str y_, [.any]⟩ := by
  refine mkF_E rfl ?_
  dsimp only [spec_l03Two] at h
  obtain ⟨hk1, h⟩ := ck_some h
  try simp only [go_sem, n1, n2, n3, n4] at hk1
  all_goals
  obtain ⟨y_2, hk2, h⟩ := bd_some h
  have fhk2 := Fs_spec_l01Dec hk2
  try simp only [go_sem, hk1] at fhk2
  obtain ⟨y_3, hk3, h⟩ := bd_some h
  have fhk3 := Fs_spec_l01Dec hk3
  try simp only [go_sem, hk1] at fhk3
  obtain ⟨hk4, h⟩ := ck_some h
  try simp only [go_sem, n1, n2, n3, n4, hk1] at hk4
  all_goals
  obtain rfl := so_some h
  refine ⟨0, fun L hL => ?_⟩
  simp only [go_sem, ir97, hk1, fhk2, fhk3, hk4]


def ir80_v : List Nat := [0, 2]
def ir80 : AFn := ⟨1, 2, .seq (.region false [
    ⟨.var 1, 2, none, .mov (.c (.str []))⟩])
 (.seq (.region false [
    ⟨.push, 3, none, .mov (.v 0)⟩,
    ⟨.push, 4, none, .bin false .quo (.s 0) (.c (.int .i64 (100)))⟩,
    ⟨.push, 5, none, .bin false .rem (.s 0) (.c (.int .i64 (100)))⟩,
    ⟨.push, 6, none, .call 97 [(.s 0)]⟩,
    ⟨.push, 7, none, .mov (.v 0)⟩,
    ⟨.push, 8, none, .bin false .rem (.s 0) (.c (.int .i64 (100)))⟩,
    ⟨.push, 9, none, .call 97 [(.s 0)]⟩,
    ⟨.push, 10, none, .bin false .add (.s 3) (.s 0)⟩,
    ⟨.var 1, 2, none, .mov (.s 0)⟩])
 (.ret)), [.t 1]⟩
noncomputable def t_spec_l03Four : List (Nat × Ctr) := [(97, c_spec_l03Two)]
theorem lk_spec_l03Four_97 : look t_spec_l03Four 97 = some c_spec_l03Two := rfl
noncomputable def c_spec_l03Four : Ctr := mkF t_spec_l03Four ir80 [.bor]
theorem s_spec_l03Four : Sound Tryd.prog 80 c_spec_l03Four := mkF_sound _ rfl (snd_cons s_spec_l03Two snd_nil) (by kernel_rfl : chkFn Tryd.prog 80 ir80 ir80_v = true)
theorem M_spec_l03Four : c_spec_l03Four.modes = [.bor] := rfl
theorem Fl_spec_l03Four : c_spec_l03Four.flat = true := rfl
attribute [go_sem] M_spec_l03Four Fl_spec_l03Four
attribute [go_sem] lk_spec_l03Four_97
theorem Fs_spec_l03Four {n : Int} {y_ : (List UInt8)} (h : spec_l03Four n = some y_) : c_spec_l03Four.F [.int .i64 n] = ⟨true, .str y_, [.any]⟩ := by
  refine mkF_E rfl ?_
  dsimp only [spec_l03Four] at h
  obtain ⟨hk1, h⟩ := ck_some h
  try simp only [go_sem, n1, n2, n3, n4] at hk1
  all_goals
  obtain ⟨y_2, hk2, h⟩ := bd_some h
  have fhk2 := Fs_spec_l03Two hk2
  try simp only [go_sem, hk1] at fhk2
  obtain ⟨y_3, hk3, h⟩ := bd_some h
  have fhk3 := Fs_spec_l03Two hk3
  try simp only [go_sem, hk1] at fhk3
  obtain ⟨hk4, h⟩ := ck_some h
  try simp only [go_sem, n1, n2, n3, n4, hk1] at hk4
  all_goals
  obtain rfl := so_some h
  refine ⟨0, fun L hL => ?_⟩
  simp only [go_sem, ir80, hk1, fhk2, fhk3, hk4]


def ir41_v : List Nat := [0, 2]
def ir41 : AFn := ⟨1, 2, .seq (.region false [
    ⟨.var 1, 2, none, .mov (.c (.str []))⟩])
 (.seq (.test false [
    ⟨.push, 3, none, .mov (.v 0)⟩,
    ⟨.push, 4, none, .call 70 [(.s 0)]⟩,
    ⟨.push, 5, none, .un .not (.s 0)⟩] (.s 0)
  (.seq (.region false [
      ⟨.var 1, 2, none, .mov (.c (.str []))⟩])
   (.ret))
  (.skip))
 (.seq (.region false [
    ⟨.push, 6, none, .mov (.v 0)⟩,
    ⟨.push, 7, none, .bin false .quo (.s 0) (.c (.int .i64 (10000)))⟩,
    ⟨.push, 8, none, .call 79 [(.s 0)]⟩,
    ⟨.push, 9, none, .bin false .add (.s 0) (.c (.str [46]))⟩,
    ⟨.push, 10, none, .mov (.v 0)⟩,
    ⟨.push, 11, none, .bin false .rem (.s 0) (.c (.int .i64 (10000)))⟩,
    ⟨.push, 12, none, .call 80 [(.s 0)]⟩,
    ⟨.push, 13, none, .bin false .add (.s 3) (.s 0)⟩,
    ⟨.var 1, 2, none, .mov (.s 0)⟩])
 (.ret))), [.t 1]⟩
noncomputable def t_spec_TimeText : List (Nat × Ctr) := [(70, c_spec_l03Time), (79, c_spec_l01Dec), (80, c_spec_l03Four)]
theorem lk_spec_TimeText_70 : look t_spec_TimeText 70 = some c_spec_l03Time := rfl
theorem lk_spec_TimeText_79 : look t_spec_TimeText 79 = some c_spec_l01Dec := rfl
theorem lk_spec_TimeText_80 : look t_spec_TimeText 80 = some c_spec_l03Four := rfl
noncomputable def c_spec_TimeText : Ctr := mkF t_spec_TimeText ir41 [.bor]
theorem s_spec_TimeText : Sound Tryd.prog 41 c_spec_TimeText := mkF_sound _ rfl (snd_cons s_spec_l03Time (snd_cons s_spec_l01Dec (snd_cons s_spec_l03Four snd_nil))) (by kernel_rfl : chkFn Tryd.prog 41 ir41 ir41_v = true)
theorem M_spec_TimeText : c_spec_TimeText.modes = [.bor] := rfl
theorem Fl_spec_TimeText : c_spec_TimeText.flat = true := rfl
attribute [go_sem] M_spec_TimeText Fl_spec_TimeText
attribute [go_sem] lk_spec_TimeText_70 lk_spec_TimeText_79 lk_spec_TimeText_80
theorem Fs_spec_TimeText {t : Int} {y_ : (List UInt8)} (h : spec_TimeText t = some y_) : c_spec_TimeText.F [.int .i64 t] = ⟨true, .str y_, [.any]⟩ := by
  refine mkF_E rfl ?_
  dsimp only [spec_TimeText] at h
  obtain ⟨y_1, hk1, h⟩ := bd_some h
  have fhk1 := Fs_spec_l03Time hk1
  try simp only [go_sem] at fhk1
  rcases it_some h with ⟨hk2, h⟩ | ⟨hk2, h⟩
  · try simp only [go_sem, n1, n2, n3, n4] at hk2
    all_goals
    obtain rfl := so_some h
    refine ⟨0, fun L hL => ?_⟩
    simp only [go_sem, ir41, fhk1, hk2]
  · try simp only [go_sem, n1, n2, n3, n4] at hk2
    all_goals
    obtain ⟨hk3, h⟩ := ck_some h
    try simp only [go_sem, n1, n2, n3, n4, hk2] at hk3
    all_goals
    obtain ⟨y_4, hk4, h⟩ := bd_some h
    have fhk4 := Fs_spec_l01Dec hk4
    try simp only [go_sem, hk2, hk3] at fhk4
    obtain ⟨hk5, h⟩ := ck_some h
    try simp only [go_sem, n1, n2, n3, n4, hk2, hk3] at hk5
    all_goals
    obtain ⟨y_6, hk6, h⟩ := bd_some h
    have fhk6 := Fs_spec_l03Four hk6
    try simp only [go_sem, hk2, hk3, hk5] at fhk6
    obtain ⟨hk7, h⟩ := ck_some h
    try simp only [go_sem, n1, n2, n3, n4, hk2, hk3, hk5] at hk7
    all_goals
    obtain rfl := so_some h
    refine ⟨0, fun L hL => ?_⟩
    simp only [go_sem, ir41, fhk1, hk2, hk3, fhk4, hk5, fhk6, hk7]


def ir62_v : List Nat := [0, 1, 4]
def ir62 : AFn := ⟨2, 3, .seq (.region false [
    ⟨.var 2, 4, none, .mov (.c (.str []))⟩])
 (.seq (.region false [
    ⟨.push, 5, none, .mov (.v 1)⟩,
    ⟨.push, 6, none, .mov (.v 0)⟩,
    ⟨.push, 7, none, .mov (.v 1)⟩,
    ⟨.push, 8, none, .len false (.s 0)⟩,
    ⟨.push, 9, none, .call 68 [(.s 2), (.s 0)]⟩,
    ⟨.push, 10, none, .ixAddr 1 (.s 4) (.s 0)⟩,
    ⟨.push, 11, none, .load false 1 (.s 0)⟩,
    ⟨.var 2, 4, none, .mov (.s 0)⟩])
 (.ret)), [.t 2]⟩
noncomputable def t_spec_l00Src_text : List (Nat × Ctr) := [(68, c_spec_l00Src_pick)]
theorem lk_spec_l00Src_text_68 : look t_spec_l00Src_text 68 = some c_spec_l00Src_pick := rfl
noncomputable def c_spec_l00Src_text : Ctr := mkN t_spec_l00Src_text ir62 [.io, .bor]
theorem s_spec_l00Src_text : Sound Tryd.prog 62 c_spec_l00Src_text := mkN_sound _ (snd_cons s_spec_l00Src_pick snd_nil) (by kernel_rfl : chkFn Tryd.prog 62 ir62 ir62_v = true)
theorem M_spec_l00Src_text : c_spec_l00Src_text.modes = [.io, .bor] := rfl
theorem Fl_spec_l00Src_text : c_spec_l00Src_text.flat = false := rfl
attribute [go_sem] M_spec_l00Src_text Fl_spec_l00Src_text
attribute [go_sem] lk_spec_l00Src_text_68
theorem Fs_spec_l00Src_text {s_ : L00Src} {list : List (List UInt8)} {y_ : (List UInt8) × L00Src} (h : spec_l00Src_text s_ list = some y_) : c_spec_l00Src_text.F [.mem 3 [L00Src_av s_], .sl 1 (List.map AV.str list)] = ⟨true, .str y_.1, [.mem 3 [L00Src_av y_.2], .any]⟩ := by
  refine mkN_E ?_
  dsimp only [spec_l00Src_text] at h
  obtain ⟨y_1, hk1, h⟩ := bd_some h
  have fhk1 := Fs_spec_l00Src_pick hk1
  try simp only [go_sem] at fhk1
  obtain ⟨hk2, h⟩ := ck_some h
  have lhk2 := ix_lt hk2
  have xhk2 := getD_mapD AV.str list lhk2
  try simp only [go_sem] at lhk2
  try simp only [go_sem] at xhk2
  try simp only [go_sem, n1, n2, n3, n4] at hk2
  all_goals
  obtain rfl := so_some h
  refine ⟨0, fun L hL => ?_⟩
  simp only [go_sem, ir62, fhk1, hk2, lhk2, xhk2]


def ir65_v : List Nat := [0, 1, 4, 5, 6, 8]
def ir65 : AFn := ⟨2, 6, .seq (.region false [
    ⟨.var 2, 4, none, .mov (.c (.str []))⟩])
 (.seq (.seq (.region false [
     ⟨.push, 7, none, .mov (.v 0)⟩,
     ⟨.var 5, 8, none, .call 68 [(.s 0), (.c (.int .i64 (5)))]⟩])
  (.block 0 (.test false [
     ⟨.push, 10, none, .bin false .eql (.v 5) (.c (.int .i64 (0)))⟩,
     ⟨.push, 9, none, .mov (.s 0)⟩] (.s 0)
   (.seq (.region false [
       ⟨.push, 11, none, .mov (.v 0)⟩,
       ⟨.push, 12, none, .mov (.v 1)⟩,
       ⟨.push, 13, none, .len true (.s 0)⟩,
       ⟨.push, 14, none, .bin false .add (.s 0) (.c (.int .i64 (1)))⟩,
       ⟨.push, 15, none, .call 68 [(.s 3), (.s 0)]⟩,
       ⟨.var 3, 5, none, .mov (.s 0)⟩])
    (.anyo 11 [
      ⟨.slot 0, 16, none, .flat (.mov (.v 1))⟩,
      ⟨.slot 1, 17, none, .flat (.mov (.v 3))⟩,
      ⟨.slot 2, 18, none, .flat (.pur (.slice 0 (.s 0) none (some (.s 1))))⟩,
      ⟨.slot 3, 19, none, .mov (.v 0)⟩,
      ⟨.slot 4, 20, none, .pur (.mkSl 1 (.str []) 7 [(0, (.c (.str [32]))), (1, (.c (.str [48]))), (2, (.c (.str [45]))), (3, (.c (.str [120]))), (4, (.c (.str [49]))), (5, (.c (.str [57]))), (6, (.c (.str [46])))])⟩,
      ⟨.slot 5, 21, none, .call 62 [(.s 3), (.s 4)]⟩,
      ⟨.slot 6, 22, none, .flat (.bin false .add (.s 2) (.s 5))⟩,
      ⟨.slot 7, 23, none, .flat (.mov (.v 1))⟩,
      ⟨.slot 8, 24, none, .flat (.mov (.v 3))⟩,
      ⟨.slot 9, 25, none, .flat (.pur (.slice 0 (.s 7) (some (.s 8)) none))⟩,
      ⟨.slot 10, 26, none, .flat (.bin false .add (.s 6) (.s 9))⟩,
      ⟨.var 1, 1, none, .flat (.mov (.s 10))⟩] [] .skip))
   (.test false [
      ⟨.push, 28, none, .bin false .eql (.v 5) (.c (.int .i64 (1)))⟩,
      ⟨.push, 27, none, .mov (.s 0)⟩] (.s 0)
    (.test false [
       ⟨.push, 29, none, .mov (.v 1)⟩,
       ⟨.push, 30, none, .bin false .neq (.s 0) (.c (.str []))⟩] (.s 0)
     (.seq (.region false [
         ⟨.push, 31, none, .mov (.v 0)⟩,
         ⟨.push, 32, none, .mov (.v 1)⟩,
         ⟨.push, 33, none, .len true (.s 0)⟩,
         ⟨.push, 34, none, .call 68 [(.s 2), (.s 0)]⟩,
         ⟨.var 4, 6, none, .mov (.s 0)⟩])
      (.anyo 8 [
        ⟨.slot 0, 35, none, .mov (.v 1)⟩,
        ⟨.slot 1, 36, none, .mov (.v 4)⟩,
        ⟨.slot 2, 37, none, .pur (.slice 0 (.s 0) none (some (.s 1)))⟩,
        ⟨.slot 3, 38, none, .mov (.v 1)⟩,
        ⟨.slot 4, 39, none, .mov (.v 4)⟩,
        ⟨.slot 5, 40, none, .bin false .add (.s 4) (.c (.int .i64 (1)))⟩,
        ⟨.slot 6, 41, none, .pur (.slice 0 (.s 3) (some (.s 5)) none)⟩,
        ⟨.slot 7, 42, none, .bin false .add (.s 2) (.s 6)⟩,
        ⟨.var 1, 1, none, .mov (.s 7)⟩] [] .skip))
     (.skip))
    (.skip)))))
 (.seq (.region false [
    ⟨.push, 43, none, .mov (.v 1)⟩,
    ⟨.var 2, 4, none, .mov (.s 0)⟩])
 (.ret))), [.t 2]⟩
noncomputable def t_spec_l01Spoil : List (Nat × Ctr) := [(68, c_spec_l00Src_pick), (62, c_spec_l00Src_text)]
theorem lk_spec_l01Spoil_68 : look t_spec_l01Spoil 68 = some c_spec_l00Src_pick := rfl
theorem lk_spec_l01Spoil_62 : look t_spec_l01Spoil 62 = some c_spec_l00Src_text := rfl
noncomputable def c_spec_l01Spoil : Ctr := mkN t_spec_l01Spoil ir65 [.io, .bor]
theorem s_spec_l01Spoil : Sound Tryd.prog 65 c_spec_l01Spoil := mkN_sound _ (snd_cons s_spec_l00Src_pick (snd_cons s_spec_l00Src_text snd_nil)) (by kernel_rfl : chkFn Tryd.prog 65 ir65 ir65_v = true)
theorem M_spec_l01Spoil : c_spec_l01Spoil.modes = [.io, .bor] := rfl
theorem Fl_spec_l01Spoil : c_spec_l01Spoil.flat = false := rfl
attribute [go_sem] M_spec_l01Spoil Fl_spec_l01Spoil
attribute [go_sem] lk_spec_l01Spoil_68 lk_spec_l01Spoil_62
theorem Fs_spec_l01Spoil {s_ : L00Src} {t : List UInt8} {y_ : (List UInt8) × L00Src} (h : spec_l01Spoil s_ t = some y_) : c_spec_l01Spoil.F [.mem 3 [L00Src_av s_], .str t] = ⟨true, .str y_.1, [.mem 3 [L00Src_av y_.2], .any]⟩ := by
  refine mkN_E ?_
  dsimp only [spec_l01Spoil] at h
  obtain ⟨y_1, hk1, h⟩ := bd_some h
  have fhk1 := Fs_spec_l00Src_pick hk1
  try simp only [go_sem] at fhk1
  rcases it_some h with ⟨hk2, h⟩ | ⟨hk2, h⟩
  · try simp only [go_sem, n1, n2, n3, n4] at hk2
    all_goals
    obtain ⟨y_3, hk3, h⟩ := bd_some h
    have fhk3 := Fs_spec_l00Src_pick hk3
    try simp only [go_sem, hk2] at fhk3
    obtain ⟨hk4, h⟩ := ck_some h
    try simp only [go_sem, n1, n2, n3, n4, hk2] at hk4
    all_goals
    obtain ⟨y_5, hk5, h⟩ := bd_some h
    have fhk5 := Fs_spec_l00Src_text hk5
    try simp only [go_sem, hk2, hk4] at fhk5
    obtain ⟨hk6, h⟩ := ck_some h
    try simp only [go_sem, n1, n2, n3, n4, hk2, hk4] at hk6
    all_goals
    obtain ⟨hk7, h⟩ := ck_some h
    try simp only [go_sem, n1, n2, n3, n4, hk2, hk4, hk6] at hk7
    all_goals
    obtain ⟨hk8, h⟩ := ck_some h
    try simp only [go_sem, n1, n2, n3, n4, hk2, hk4, hk6, hk7] at hk8
    all_goals
    obtain rfl := so_some h
    refine ⟨0, fun L hL => ?_⟩
    simp only [go_sem, ir65, fhk1, hk2, fhk3, hk4, fhk5, hk6, hk7, hk8]
  · try simp only [go_sem, n1, n2, n3, n4] at hk2
    all_goals
    rcases it_some h with ⟨hk9, h⟩ | ⟨hk9, h⟩
    · try simp only [go_sem, n1, n2, n3, n4, hk2] at hk9
      all_goals
      rcases it_some h with ⟨hk10, h⟩ | ⟨hk10, h⟩
      · try simp only [go_sem, n1, n2, n3, n4, hk2, hk9] at hk10
        all_goals
        obtain ⟨y_11, hk11, h⟩ := bd_some h
        have fhk11 := Fs_spec_l00Src_pick hk11
        try simp only [go_sem, hk2, hk9, hk10] at fhk11
        obtain ⟨hk12, h⟩ := ck_some h
        try simp only [go_sem, n1, n2, n3, n4, hk2, hk9, hk10] at hk12
        all_goals
        obtain ⟨hk13, h⟩ := ck_some h
        try simp only [go_sem, n1, n2, n3, n4, hk2, hk9, hk10, hk12] at hk13
        all_goals
        obtain ⟨hk14, h⟩ := ck_some h
        try simp only [go_sem, n1, n2, n3, n4, hk2, hk9, hk10, hk12, hk13] at hk14
        all_goals
        obtain rfl := so_some h
        refine ⟨0, fun L hL => ?_⟩
        simp only [go_sem, ir65, fhk1, hk2, hk9, hk10, fhk11, hk12, hk13, hk14]
      · try simp only [go_sem, n1, n2, n3, n4, hk2, hk9] at hk10
        all_goals
        obtain rfl := so_some h
        refine ⟨0, fun L hL => ?_⟩
        simp only [go_sem, ir65, fhk1, hk2, hk9, hk10]
    · try simp only [go_sem, n1, n2, n3, n4, hk2] at hk9
      all_goals
      obtain rfl := so_some h
      refine ⟨0, fun L hL => ?_⟩
      simp only [go_sem, ir65, fhk1, hk2, hk9]


def ir39_v : List Nat := [0, 2, 3, 4]
def ir39 : AFn := ⟨1, 4, .seq (.region false [
    ⟨.var 1, 2, none, .mov (.c (.str []))⟩])
 (.seq (.region false [
    ⟨.push, 5, none, .mov (.v 0)⟩,
    ⟨.push, 6, none, .call 50 [(.s 0)]⟩,
    ⟨.var 2, 3, none, .mov (.s 0)⟩])
 (.seq (.region false [
    ⟨.push, 7, none, .mov (.v 2)⟩,
    ⟨.push, 8, none, .call 71 [(.s 0)]⟩,
    ⟨.push, 9, none, .call 41 [(.s 0)]⟩,
    ⟨.var 3, 4, none, .mov (.s 0)⟩])
 (.seq (.test false [
    ⟨.push, 10, none, .mov (.v 2)⟩,
    ⟨.push, 11, none, .call 64 [(.s 0), (.c (.int .i64 (3)))]⟩] (.s 0)
  (.seq (.region false [
      ⟨.push, 12, none, .mov (.v 2)⟩,
      ⟨.push, 13, none, .mov (.v 3)⟩,
      ⟨.push, 14, none, .call 65 [(.s 1), (.s 0)]⟩,
      ⟨.var 1, 2, none, .mov (.s 0)⟩])
   (.ret))
  (.skip))
 (.seq (.test false [
    ⟨.push, 15, none, .mov (.v 2)⟩,
    ⟨.push, 16, none, .call 64 [(.s 0), (.c (.int .i64 (8)))]⟩] (.s 0)
  (.seq (.region false [
      ⟨.push, 17, none, .mov (.v 2)⟩,
      ⟨.push, 18, none, .mkSl 1 (.str []) 8 [(0, (.c (.str []))), (1, (.c (.str [49]))), (2, (.c (.str [49, 46, 53]))), (3, (.c (.str [48, 49, 46, 48, 48, 48, 48]))), (4, (.c (.str [45, 49, 46, 48, 48, 48, 48]))), (5, (.c (.str [49, 48, 48, 48, 46, 48, 48, 48, 49]))), (6, (.c (.str [49, 48, 48, 48, 46, 48, 48, 48, 48]))), (7, (.c (.str [49, 46, 48, 48, 48, 48, 48])))]⟩,
      ⟨.push, 19, none, .call 62 [(.s 1), (.s 0)]⟩,
      ⟨.var 1, 2, none, .mov (.s 0)⟩])
   (.ret))
  (.skip))
 (.seq (.region false [
    ⟨.push, 20, none, .mov (.v 3)⟩,
    ⟨.var 1, 2, none, .mov (.s 0)⟩])
 (.ret)))))), [.t 1]⟩
noncomputable def t_spec_DrawReadTime : List (Nat × Ctr) := [(50, c_spec_l00From), (71, c_spec_l03When), (41, c_spec_TimeText), (64, c_spec_l00Src_one), (65, c_spec_l01Spoil), (62, c_spec_l00Src_text)]
theorem lk_spec_DrawReadTime_50 : look t_spec_DrawReadTime 50 = some c_spec_l00From := rfl
theorem lk_spec_DrawReadTime_71 : look t_spec_DrawReadTime 71 = some c_spec_l03When := rfl
theorem lk_spec_DrawReadTime_41 : look t_spec_DrawReadTime 41 = some c_spec_TimeText := rfl
theorem lk_spec_DrawReadTime_64 : look t_spec_DrawReadTime 64 = some c_spec_l00Src_one := rfl
theorem lk_spec_DrawReadTime_65 : look t_spec_DrawReadTime 65 = some c_spec_l01Spoil := rfl
theorem lk_spec_DrawReadTime_62 : look t_spec_DrawReadTime 62 = some c_spec_l00Src_text := rfl
noncomputable def c_spec_DrawReadTime : Ctr := mkF t_spec_DrawReadTime ir39 [.bor]
theorem s_spec_DrawReadTime : Sound Tryd.prog 39 c_spec_DrawReadTime := mkF_sound _ rfl (snd_cons s_spec_l00From (snd_cons s_spec_l03When (snd_cons s_spec_TimeText (snd_cons s_spec_l00Src_one (snd_cons s_spec_l01Spoil (snd_cons s_spec_l00Src_text snd_nil)))))) (by kernel_rfl : chkFn Tryd.prog 39 ir39 ir39_v = true)
theorem M_spec_DrawReadTime : c_spec_DrawReadTime.modes = [.bor] := rfl
theorem Fl_spec_DrawReadTime : c_spec_DrawReadTime.flat = true := rfl
attribute [go_sem] M_spec_DrawReadTime Fl_spec_DrawReadTime
attribute [go_sem] lk_spec_DrawReadTime_50 lk_spec_DrawReadTime_71 lk_spec_DrawReadTime_41 lk_spec_DrawReadTime_64 lk_spec_DrawReadTime_65 lk_spec_DrawReadTime_62
theorem Fs_spec_DrawReadTime {code : List UInt8} {y_ : (List UInt8)} (h : spec_DrawReadTime code = some y_) : c_spec_DrawReadTime.F [.sl 1 (List.map byteAV code)] = ⟨true, .str y_, [.any]⟩ := by
  refine mkF_E rfl ?_
  dsimp only [spec_DrawReadTime] at h
  obtain ⟨y_1, hk1, h⟩ := bd_some h
  have fhk1 := Fs_spec_l00From hk1
  try simp only [go_sem] at fhk1
  obtain ⟨y_2, hk2, h⟩ := bd_some h
  have fhk2 := Fs_spec_l03When hk2
  try simp only [go_sem] at fhk2
  obtain ⟨y_3, hk3, h⟩ := bd_some h
  have fhk3 := Fs_spec_TimeText hk3
  try simp only [go_sem] at fhk3
  obtain ⟨y_4, hk4, h⟩ := bd_some h
  have fhk4 := Fs_spec_l00Src_one hk4
  try simp only [go_sem] at fhk4
  rcases it_some h with ⟨hk5, h⟩ | ⟨hk5, h⟩
  · try simp only [go_sem, n1, n2, n3, n4] at hk5
    all_goals
    obtain ⟨y_6, hk6, h⟩ := bd_some h
    have fhk6 := Fs_spec_l01Spoil hk6
    try simp only [go_sem, hk5] at fhk6
    obtain rfl := so_some h
    refine ⟨0, fun L hL => ?_⟩
    simp only [go_sem, ir39, fhk1, fhk2, fhk3, fhk4, hk5, fhk6]
  · try simp only [go_sem, n1, n2, n3, n4] at hk5
    all_goals
    obtain ⟨y_7, hk7, h⟩ := bd_some h
    have fhk7 := Fs_spec_l00Src_one hk7
    try simp only [go_sem, hk5] at fhk7
    rcases it_some h with ⟨hk8, h⟩ | ⟨hk8, h⟩
    · try simp only [go_sem, n1, n2, n3, n4, hk5] at hk8
      all_goals
      obtain ⟨y_9, hk9, h⟩ := bd_some h
      have fhk9 := Fs_spec_l00Src_text hk9
      try simp only [go_sem, hk5, hk8] at fhk9
      obtain rfl := so_some h
      refine ⟨0, fun L hL => ?_⟩
      simp only [go_sem, ir39, fhk1, fhk2, fhk3, fhk4, hk5, fhk7, hk8, fhk9]
    · try simp only [go_sem, n1, n2, n3, n4, hk5] at hk8
      all_goals
      obtain rfl := so_some h
      refine ⟨0, fun L hL => ?_⟩
      simp only [go_sem, ir39, fhk1, fhk2, fhk3, fhk4, hk5, fhk7, hk8]


def ir77_b0 : IR := .seq (.test false [
    ⟨.push, 9, none, .mov (.v 5)⟩,
    ⟨.push, 10, none, .mov (.v 0)⟩,
    ⟨.push, 11, none, .len true (.s 0)⟩,
    ⟨.push, 12, none, .bin false .lss (.s 2) (.s 0)⟩] (.s 0)
  (.skip)
  (.exit 0))
 (.seq (.block 1 (.test false [
     ⟨.push, 15, none, .mov (.v 0)⟩,
     ⟨.push, 16, none, .mov (.v 5)⟩,
     ⟨.push, 17, none, .ixStr (.s 1) (.s 0)⟩,
     ⟨.push, 18, none, .mov (.v 1)⟩,
     ⟨.push, 19, none, .bin false .eql (.s 1) (.s 0)⟩] (.s 0)
   (.seq (.region false [
       ⟨.push, 20, none, .mov (.v 3)⟩,
       ⟨.push, 21, none, .mov (.v 0)⟩,
       ⟨.push, 22, none, .mov (.v 4)⟩,
       ⟨.push, 23, none, .mov (.v 5)⟩,
       ⟨.push, 24, none, .slice 0 (.s 2) (some (.s 1)) (some (.s 0))⟩,
       ⟨.push, 25, none, .mkSl 1 (.str []) 1 [(0, (.s 0))]⟩,
       ⟨.push, 26, none, .app 1 16 (.str []) (.s 5) (.s 0)⟩,
       ⟨.var 3, 5, none, .mov (.s 0)⟩])
    (.region false [
      ⟨.push, 27, none, .mov (.v 5)⟩,
      ⟨.push, 28, none, .bin false .add (.s 0) (.c (.int .i64 (1)))⟩,
      ⟨.var 4, 6, none, .mov (.s 0)⟩]))
   (.skip)))
 (.region false [
   ⟨.push, 13, none, .mov (.v 5)⟩,
   ⟨.push, 14, none, .bin false .add (.s 0) (.c (.int .i64 (1)))⟩,
   ⟨.var 5, 7, none, .mov (.s 0)⟩]))
def ir77_k0 : List Bool := [true, true, false, true, true, true]
def ir77_o0 : List Bool := [true, false, false, true, true, false]
def ir77_r0 : List Bool := [false, false, true, false, false, false]
def ir77_v : List Nat := [0, 1, 4, 5, 6, 7]
def ir77 : AFn := ⟨2, 6, .seq (.region false [
    ⟨.var 2, 4, none, .newnil 1⟩])
 (.seq (.region false [
    ⟨.push, 8, none, .mkSl 1 (.str []) 0 []⟩,
    ⟨.var 3, 5, none, .mov (.s 0)⟩])
 (.seq (.region false [
    ⟨.var 4, 6, none, .mov (.c (.int .i64 (0)))⟩])
 (.seq (.seq (.region false [
     ⟨.var 5, 7, none, .mov (.c (.int .i64 (0)))⟩])
  (.block 0 (.loop ir77_k0 ir77_o0 ir77_r0 ir77_b0)))
 (.seq (.region false [
    ⟨.push, 29, none, .mov (.v 3)⟩,
    ⟨.push, 30, none, .mov (.v 0)⟩,
    ⟨.push, 31, none, .mov (.v 4)⟩,
    ⟨.push, 32, none, .slice 0 (.s 1) (some (.s 0)) none⟩,
    ⟨.push, 33, none, .mkSl 1 (.str []) 1 [(0, (.s 0))]⟩,
    ⟨.push, 34, none, .app 1 16 (.str []) (.s 4) (.s 0)⟩,
    ⟨.var 2, 4, none, .mov (.s 0)⟩])
 (.ret))))), [.t 2]⟩
noncomputable def t_spec_l01Split : List (Nat × Ctr) := []
noncomputable def c_spec_l01Split : Ctr := mkF t_spec_l01Split ir77 [.bor, .bor]
theorem s_spec_l01Split : Sound Tryd.prog 77 c_spec_l01Split := mkF_sound _ rfl snd_nil (by kernel_rfl : chkFn Tryd.prog 77 ir77 ir77_v = true)
theorem M_spec_l01Split : c_spec_l01Split.modes = [.bor, .bor] := rfl
theorem Fl_spec_l01Split : c_spec_l01Split.flat = true := rfl
attribute [go_sem] M_spec_l01Split Fl_spec_l01Split
def E_spec_l01Split_l1 (s_ : List UInt8) (by_ : UInt8) : ((List (List UInt8)) × Int × Int) → St
  | (out, from_, i) => ⟨[.str s_, .int .u8 (by_.toNat : Int), .any, .own 3200000, .int .i64 from_, .int .i64 i], [], [(3200000, ⟨1, List.map AV.str out⟩)], true⟩
def R_spec_l01Split_l1 (s_ : List UInt8) (by_ : UInt8) (y : (List (List UInt8)) × Int) : Res := (.exit 0, ⟨[.str s_, .any, .any, .own 3200000, .int .i64 y.2, .any], [], [(3200000, ⟨1, List.map AV.str y.1⟩)], true⟩)
theorem spec_l01Split_l1_ex {s_ : List UInt8} {by_ : UInt8} {sgm_ : (List (List UInt8)) × Int × Int} {rho_ : (List (List UInt8)) × Int} (h : whileE (spec_l01Split_l1 s_ by_) sgm_ = some rho_) : ∃ L0, ∀ L, L0 ≤ L → iter (exec (look t_spec_l01Split) L ir77_b0) ir77_k0 ir77_o0 ir77_r0 L (E_spec_l01Split_l1 s_ by_ sgm_) = R_spec_l01Split_l1 s_ by_ rho_ := by
  refine loop_ex (E := E_spec_l01Split_l1 s_ by_) (R := R_spec_l01Split_l1 s_ by_) (fun y => by first | (intro c; cases c) | (rcases y with y | y <;> (intro c; cases c)) | (rcases y with y | y | y <;> (intro c; cases c))) ?_ h
  clear h
  rintro ⟨out, from_, i⟩ o_ h
  dsimp only [spec_l01Split_l1] at h
  rcases it_some h with ⟨hk1, h⟩ | ⟨hk1, h⟩
  · try simp only [go_sem, n1, n2, n3, n4] at hk1
    all_goals
    obtain ⟨hk2, h⟩ := ck_some h
    try simp only [go_sem, n1, n2, n3, n4, hk1] at hk2
    all_goals
    rcases it_some h with ⟨hk3, h⟩ | ⟨hk3, h⟩
    · try simp only [go_sem, n1, n2, n3, n4, hk1, hk2] at hk3
      all_goals
      obtain ⟨hk4, h⟩ := ck_some h
      try simp only [go_sem, n1, n2, n3, n4, hk1, hk2, hk3] at hk4
      all_goals
      obtain ⟨hk5, h⟩ := ck_some h
      try simp only [go_sem, n1, n2, n3, n4, hk1, hk2, hk3, hk4] at hk5
      all_goals
      obtain rfl := so_some h
      refine ⟨0, fun L hL => ?_⟩
      simp only [go_sem, ir77, E_spec_l01Split_l1, R_spec_l01Split_l1, ir77_b0, ir77_k0, ir77_o0, ir77_r0, hk1, hk2, hk3, hk4, hk5]
    · try simp only [go_sem, n1, n2, n3, n4, hk1, hk2] at hk3
      all_goals
      obtain rfl := so_some h
      refine ⟨0, fun L hL => ?_⟩
      simp only [go_sem, ir77, E_spec_l01Split_l1, R_spec_l01Split_l1, ir77_b0, ir77_k0, ir77_o0, ir77_r0, hk1, hk2, hk3]
  · try simp only [go_sem, n1, n2, n3, n4] at hk1
    all_goals
    obtain rfl := so_some h
    refine ⟨0, fun L hL => ?_⟩
    simp only [go_sem, ir77, E_spec_l01Split_l1, R_spec_l01Split_l1, ir77_b0, ir77_k0, ir77_o0, ir77_r0, hk1]

theorem Fs_spec_l01Split {s_ : List UInt8} {by_ : UInt8} {y_ : (List (List UInt8))} (h : spec_l01Split s_ by_ = some y_) : c_spec_l01Split.F [.str s_, .int .u8 (by_.toNat : Int)] = ⟨true, .fresh 1 (List.map AV.str y_), [.any, .any]⟩ := by
  refine mkF_E (by simp only [flatA, flatB, flat1, List.all_cons, List.all_nil, Bool.and_self, flatE_map (f := AV.str) (fun _ => rfl)]) ?_
  dsimp only [spec_l01Split] at h
  obtain ⟨y_6, hk6, h⟩ := bd_some h
  obtain ⟨Lhk6, ehk6⟩ := spec_l01Split_l1_ex hk6
  obtain ⟨hk7, h⟩ := ck_some h
  try simp only [go_sem, n1, n2, n3, n4] at hk7
  all_goals
  obtain ⟨hk8, h⟩ := ck_some h
  try simp only [go_sem, n1, n2, n3, n4, hk7] at hk8
  all_goals
  obtain rfl := so_some h
  refine ⟨Lhk6, fun L hL => ?_⟩
  have ehk6 := ehk6 L (by omega)
  try simp only [go_sem, E_spec_l01Split_l1, R_spec_l01Split_l1, ir77_k0, ir77_o0, ir77_r0, hk7, hk8] at ehk6
  simp only [go_sem, ir77, E_spec_l01Split_l1, R_spec_l01Split_l1, ir77_k0, ir77_o0, ir77_r0, hk7, hk8, ehk6]


def ir98_v : List Nat := [0, 2]
def ir98 : AFn := ⟨1, 2, .seq (.region false [
    ⟨.var 1, 2, none, .mov (.c (.bool false))⟩])
 (.seq (.region false [
    ⟨.push, 3, none, .mov (.v 0)⟩,
    ⟨.push, 4, none, .bin false .geq (.s 0) (.c (.int .u8 (48)))⟩,
    ⟨.push, 5, none, .mov (.s 0)⟩,
    ⟨.push, 6, (some ((.s 0), true)), .mov (.v 0)⟩,
    ⟨.push, 7, (some ((.s 1), true)), .bin false .leq (.s 0) (.c (.int .u8 (57)))⟩,
    ⟨.push, 8, none, .pick (.s 2) (.s 0) (.c (.bool false))⟩,
    ⟨.var 1, 2, none, .mov (.s 0)⟩])
 (.ret)), [.t 1]⟩
noncomputable def t_spec_l01Digit : List (Nat × Ctr) := []
noncomputable def c_spec_l01Digit : Ctr := mkF t_spec_l01Digit ir98 [.bor]
theorem s_spec_l01Digit : Sound Tryd.prog 98 c_spec_l01Digit := mkF_sound _ rfl snd_nil (by kernel_rfl : chkFn Tryd.prog 98 ir98 ir98_v = true)
theorem M_spec_l01Digit : c_spec_l01Digit.modes = [.bor] := rfl
theorem Fl_spec_l01Digit : c_spec_l01Digit.flat = true := rfl
attribute [go_sem] M_spec_l01Digit Fl_spec_l01Digit
theorem Fs_spec_l01Digit {c : UInt8} {y_ : Bool} (h : spec_l01Digit c = some y_) : c_spec_l01Digit.F [.int .u8 (c.toNat : Int)] = ⟨true, .bool y_, [.any]⟩ := by
  refine mkF_E rfl ?_
  dsimp only [spec_l01Digit] at h
  obtain rfl := so_some h
  refine ⟨0, fun L hL => ?_⟩
  simp only [go_sem, ir98]


def ir78_b0 : IR := .seq (.test false [
    ⟨.push, 25, none, .mov (.v 5)⟩,
    ⟨.push, 26, none, .mov (.v 3)⟩,
    ⟨.push, 27, none, .len true (.s 0)⟩,
    ⟨.push, 28, none, .bin false .lss (.s 2) (.s 0)⟩] (.s 0)
  (.skip)
  (.exit 0))
 (.seq (.block 1 (.seq (.test false [
      ⟨.push, 31, none, .mov (.v 3)⟩,
      ⟨.push, 32, none, .mov (.v 5)⟩,
      ⟨.push, 33, none, .ixStr (.s 1) (.s 0)⟩,
      ⟨.push, 34, none, .call 98 [(.s 0)]⟩,
      ⟨.push, 35, none, .un .not (.s 0)⟩] (.s 0)
    (.seq (.region false [
        ⟨.var 1, 2, none, .mov (.c (.int .i64 (0)))⟩,
        ⟨.var 2, 3, none, .mov (.c (.bool false))⟩])
     (.ret))
    (.skip))
   (.region false [
     ⟨.push, 36, none, .mov (.v 4)⟩,
     ⟨.push, 37, none, .bin false .mul (.c (.int .i64 (10))) (.s 0)⟩,
     ⟨.push, 38, none, .mov (.v 3)⟩,
     ⟨.push, 39, none, .mov (.v 5)⟩,
     ⟨.push, 40, none, .ixStr (.s 1) (.s 0)⟩,
     ⟨.push, 41, none, .bin false .sub (.s 0) (.c (.int .u8 (48)))⟩,
     ⟨.push, 42, none, .conv .i64 (.s 0)⟩,
     ⟨.push, 43, none, .bin false .add (.s 5) (.s 0)⟩,
     ⟨.var 4, 5, none, .mov (.s 0)⟩])))
 (.region false [
   ⟨.push, 29, none, .mov (.v 5)⟩,
   ⟨.push, 30, none, .bin false .add (.s 0) (.c (.int .i64 (1)))⟩,
   ⟨.var 5, 6, none, .mov (.s 0)⟩]))
def ir78_k0 : List Bool := [true, false, false, true, true, true]
def ir78_o0 : List Bool := [true, false, false, true, true, false]
def ir78_r0 : List Bool := [false, true, true, false, false, false]
def ir78_v : List Nat := [0, 2, 3, 4, 5, 6]
def ir78 : AFn := ⟨1, 6, .seq (.region false [
    ⟨.var 1, 2, none, .mov (.c (.int .i64 (0)))⟩,
    ⟨.var 2, 3, none, .mov (.c (.bool false))⟩])
 (.seq (.region false [
    ⟨.push, 7, none, .mov (.v 0)⟩,
    ⟨.var 3, 4, none, .mov (.s 0)⟩])
 (.seq (.test false [
    ⟨.push, 8, none, .mov (.v 3)⟩,
    ⟨.push, 9, none, .bin false .neq (.s 0) (.c (.str []))⟩,
    ⟨.push, 10, none, .mov (.s 0)⟩,
    ⟨.push, 11, (some ((.s 0), true)), .mov (.v 3)⟩,
    ⟨.push, 12, (some ((.s 1), true)), .ixStr (.s 0) (.c (.int .i64 (0)))⟩,
    ⟨.push, 13, (some ((.s 2), true)), .bin false .eql (.s 0) (.c (.int .u8 (45)))⟩,
    ⟨.push, 14, none, .pick (.s 3) (.s 0) (.c (.bool false))⟩] (.s 0)
  (.region false [
     ⟨.push, 15, none, .mov (.v 3)⟩,
     ⟨.push, 16, none, .slice 0 (.s 0) (some (.c (.int .i64 (1)))) none⟩,
     ⟨.var 3, 4, none, .mov (.s 0)⟩])
  (.skip))
 (.seq (.test false [
    ⟨.push, 17, none, .mov (.v 3)⟩,
    ⟨.push, 18, none, .len true (.s 0)⟩,
    ⟨.push, 19, none, .bin false .lss (.s 0) (.c (.int .i64 (1)))⟩,
    ⟨.push, 20, none, .mov (.s 0)⟩,
    ⟨.push, 21, (some ((.s 0), false)), .mov (.v 3)⟩,
    ⟨.push, 22, (some ((.s 1), false)), .len true (.s 0)⟩,
    ⟨.push, 23, (some ((.s 2), false)), .bin false .gtr (.s 0) (.c (.int .i64 (18)))⟩,
    ⟨.push, 24, none, .pick (.s 3) (.c (.bool true)) (.s 0)⟩] (.s 0)
  (.seq (.region false [
      ⟨.var 1, 2, none, .mov (.c (.int .i64 (0)))⟩,
      ⟨.var 2, 3, none, .mov (.c (.bool false))⟩])
   (.ret))
  (.skip))
 (.seq (.region false [
    ⟨.var 4, 5, none, .mov (.c (.int .i64 (0)))⟩])
 (.seq (.seq (.region false [
     ⟨.var 5, 6, none, .mov (.c (.int .i64 (0)))⟩])
  (.block 0 (.loop ir78_k0 ir78_o0 ir78_r0 ir78_b0)))
 (.seq (.test false [
    ⟨.push, 44, none, .mov (.v 3)⟩,
    ⟨.push, 45, none, .len true (.s 0)⟩,
    ⟨.push, 46, none, .mov (.v 0)⟩,
    ⟨.push, 47, none, .len true (.s 0)⟩,
    ⟨.push, 48, none, .bin false .lss (.s 2) (.s 0)⟩] (.s 0)
  (.region false [
     ⟨.push, 49, none, .mov (.v 4)⟩,
     ⟨.push, 50, none, .un .neg (.s 0)⟩,
     ⟨.var 4, 5, none, .mov (.s 0)⟩])
  (.skip))
 (.seq (.test false [
    ⟨.push, 51, none, .mov (.v 4)⟩,
    ⟨.push, 52, none, .call 79 [(.s 0)]⟩,
    ⟨.push, 53, none, .mov (.v 0)⟩,
    ⟨.push, 54, none, .bin false .neq (.s 1) (.s 0)⟩] (.s 0)
  (.seq (.region false [
      ⟨.var 1, 2, none, .mov (.c (.int .i64 (0)))⟩,
      ⟨.var 2, 3, none, .mov (.c (.bool false))⟩])
   (.ret))
  (.skip))
 (.seq (.region false [
    ⟨.push, 55, none, .mov (.v 4)⟩,
    ⟨.var 1, 2, none, .mov (.s 0)⟩,
    ⟨.var 2, 3, none, .mov (.c (.bool true))⟩])
 (.ret))))))))), [.t 1, .t 2]⟩
noncomputable def t_spec_l01Number : List (Nat × Ctr) := [(98, c_spec_l01Digit), (79, c_spec_l01Dec)]
theorem lk_spec_l01Number_98 : look t_spec_l01Number 98 = some c_spec_l01Digit := rfl
theorem lk_spec_l01Number_79 : look t_spec_l01Number 79 = some c_spec_l01Dec := rfl
noncomputable def c_spec_l01Number : Ctr := mkF t_spec_l01Number ir78 [.bor]
theorem s_spec_l01Number : Sound Tryd.prog 78 c_spec_l01Number := mkF_sound _ rfl (snd_cons s_spec_l01Digit (snd_cons s_spec_l01Dec snd_nil)) (by kernel_rfl : chkFn Tryd.prog 78 ir78 ir78_v = true)
theorem M_spec_l01Number : c_spec_l01Number.modes = [.bor] := rfl
theorem Fl_spec_l01Number : c_spec_l01Number.flat = true := rfl
attribute [go_sem] M_spec_l01Number Fl_spec_l01Number
attribute [go_sem] lk_spec_l01Number_98 lk_spec_l01Number_79
def E_spec_l01Number_l1 (s_ : List UInt8) (t : List UInt8) : (Int × Int) → St
  | (n, i) => ⟨[.str s_, .any, .any, .str t, .int .i64 n, .int .i64 i], [], [], true⟩
def R_spec_l01Number_l1 (s_ : List UInt8) (t : List UInt8) : (Int ⊕ (Int × Bool)) → Res
  | .inl y => (.exit 0, ⟨[.str s_, .any, .any, .str t, .int .i64 y, .any], [], [], true⟩)
  | .inr y => (.ret, ⟨[.any, .int .i64 y.1, .bool y.2, .any, .any, .any], [], [], true⟩)
theorem spec_l01Number_l1_ex {s_ : List UInt8} {t : List UInt8} {sgm_ : Int × Int} {rho_ : Int ⊕ (Int × Bool)} (h : whileE (spec_l01Number_l1 s_ t) sgm_ = some rho_) : ∃ L0, ∀ L, L0 ≤ L → iter (exec (look t_spec_l01Number) L ir78_b0) ir78_k0 ir78_o0 ir78_r0 L (E_spec_l01Number_l1 s_ t sgm_) = R_spec_l01Number_l1 s_ t rho_ := by
  refine loop_ex (E := E_spec_l01Number_l1 s_ t) (R := R_spec_l01Number_l1 s_ t) (fun y => by first | (intro c; cases c) | (rcases y with y | y <;> (intro c; cases c)) | (rcases y with y | y | y <;> (intro c; cases c))) ?_ h
  clear h
  rintro ⟨n, i⟩ o_ h
  dsimp only [spec_l01Number_l1] at h
  rcases it_some h with ⟨hk5, h⟩ | ⟨hk5, h⟩
  · try simp only [go_sem, n1, n2, n3, n4] at hk5
    all_goals
    obtain ⟨hk6, h⟩ := ck_some h
    try simp only [go_sem, n1, n2, n3, n4, hk5] at hk6
    all_goals
    obtain ⟨y_7, hk7, h⟩ := bd_some h
    have fhk7 := Fs_spec_l01Digit hk7
    try simp only [go_sem, hk5, hk6] at fhk7
    rcases it_some h with ⟨hk8, h⟩ | ⟨hk8, h⟩
    · try simp only [go_sem, n1, n2, n3, n4, hk5, hk6] at hk8
      all_goals
      obtain rfl := so_some h
      refine ⟨0, fun L hL => ?_⟩
      simp only [go_sem, ir78, E_spec_l01Number_l1, R_spec_l01Number_l1, ir78_b0, ir78_k0, ir78_o0, ir78_r0, hk5, hk6, fhk7, hk8]
    · try simp only [go_sem, n1, n2, n3, n4, hk5, hk6] at hk8
      all_goals
      obtain rfl := so_some h
      refine ⟨0, fun L hL => ?_⟩
      simp only [go_sem, ir78, E_spec_l01Number_l1, R_spec_l01Number_l1, ir78_b0, ir78_k0, ir78_o0, ir78_r0, hk5, hk6, fhk7, hk8]
  · try simp only [go_sem, n1, n2, n3, n4] at hk5
    all_goals
    obtain rfl := so_some h
    refine ⟨0, fun L hL => ?_⟩
    simp only [go_sem, ir78, E_spec_l01Number_l1, R_spec_l01Number_l1, ir78_b0, ir78_k0, ir78_o0, ir78_r0, hk5]

def E_spec_l01Number_l2 (s_ : List UInt8) (t : List UInt8) : (Int × Int) → St
  | (n, i) => ⟨[.str s_, .any, .any, .str t, .int .i64 n, .int .i64 i], [], [], true⟩
def R_spec_l01Number_l2 (s_ : List UInt8) (t : List UInt8) : (Int ⊕ (Int × Bool)) → Res
  | .inl y => (.exit 0, ⟨[.str s_, .any, .any, .str t, .int .i64 y, .any], [], [], true⟩)
  | .inr y => (.ret, ⟨[.any, .int .i64 y.1, .bool y.2, .any, .any, .any], [], [], true⟩)
theorem spec_l01Number_l2_ex {s_ : List UInt8} {t : List UInt8} {sgm_ : Int × Int} {rho_ : Int ⊕ (Int × Bool)} (h : whileE (spec_l01Number_l2 s_ t) sgm_ = some rho_) : ∃ L0, ∀ L, L0 ≤ L → iter (exec (look t_spec_l01Number) L ir78_b0) ir78_k0 ir78_o0 ir78_r0 L (E_spec_l01Number_l2 s_ t sgm_) = R_spec_l01Number_l2 s_ t rho_ := by
  refine loop_ex (E := E_spec_l01Number_l2 s_ t) (R := R_spec_l01Number_l2 s_ t) (fun y => by first | (intro c; cases c) | (rcases y with y | y <;> (intro c; cases c)) | (rcases y with y | y | y <;> (intro c; cases c))) ?_ h
  clear h
  rintro ⟨n, i⟩ o_ h
  dsimp only [spec_l01Number_l2] at h
  rcases it_some h with ⟨hk16, h⟩ | ⟨hk16, h⟩
  · try simp only [go_sem, n1, n2, n3, n4] at hk16
    all_goals
    obtain ⟨hk17, h⟩ := ck_some h
    try simp only [go_sem, n1, n2, n3, n4, hk16] at hk17
    all_goals
    obtain ⟨y_18, hk18, h⟩ := bd_some h
    have fhk18 := Fs_spec_l01Digit hk18
    try simp only [go_sem, hk16, hk17] at fhk18
    rcases it_some h with ⟨hk19, h⟩ | ⟨hk19, h⟩
    · try simp only [go_sem, n1, n2, n3, n4, hk16, hk17] at hk19
      all_goals
      obtain rfl := so_some h
      refine ⟨0, fun L hL => ?_⟩
      simp only [go_sem, ir78, E_spec_l01Number_l2, R_spec_l01Number_l2, ir78_b0, ir78_k0, ir78_o0, ir78_r0, E_spec_l01Number_l1, R_spec_l01Number_l1, ir78_k0, ir78_o0, ir78_r0, hk16, hk17, fhk18, hk19]
    · try simp only [go_sem, n1, n2, n3, n4, hk16, hk17] at hk19
      all_goals
      obtain rfl := so_some h
      refine ⟨0, fun L hL => ?_⟩
      simp only [go_sem, ir78, E_spec_l01Number_l2, R_spec_l01Number_l2, ir78_b0, ir78_k0, ir78_o0, ir78_r0, E_spec_l01Number_l1, R_spec_l01Number_l1, ir78_k0, ir78_o0, ir78_r0, hk16, hk17, fhk18, hk19]
  · try simp only [go_sem, n1, n2, n3, n4] at hk16
    all_goals
    obtain rfl := so_some h
    refine ⟨0, fun L hL => ?_⟩
    simp only [go_sem, ir78, E_spec_l01Number_l2, R_spec_l01Number_l2, ir78_b0, ir78_k0, ir78_o0, ir78_r0, E_spec_l01Number_l1, R_spec_l01Number_l1, ir78_k0, ir78_o0, ir78_r0, hk16]

theorem Fs_spec_l01Number {s_ : List UInt8} {y_ : Int × Bool} (h : spec_l01Number s_ = some y_) : c_spec_l01Number.F [.str s_] = ⟨true, .tup [.int .i64 y_.1, .bool y_.2], [.any]⟩ := by
  refine mkF_E rfl ?_
  dsimp only [spec_l01Number] at h
  obtain ⟨hk1, h⟩ := ck_some h
  rcases or_split hk1 with ⟨ghk1, hk1⟩ | ghk1
  · try simp only [go_sem, n1, n2, n3, n4] at ghk1
    all_goals
    try simp only [go_sem, n1, n2, n3, n4, ghk1] at hk1
    all_goals
    rcases it_some h with ⟨hk2, h⟩ | ⟨hk2, h⟩
    · try simp only [go_sem, n1, n2, n3, n4, ghk1, hk1] at hk2
      all_goals
      obtain ⟨hk3, h⟩ := ck_some h
      try simp only [go_sem, n1, n2, n3, n4, ghk1, hk1, hk2] at hk3
      all_goals
      rcases it_some h with ⟨hk4, h⟩ | ⟨hk4, h⟩
      · try simp only [go_sem, n1, n2, n3, n4, ghk1, hk1, hk2, hk3] at hk4
        all_goals
        obtain rfl := so_some h
        refine ⟨0, fun L hL => ?_⟩
        simp only [go_sem, ir78, E_spec_l01Number_l1, R_spec_l01Number_l1, ir78_k0, ir78_o0, ir78_r0, E_spec_l01Number_l2, R_spec_l01Number_l2, ir78_k0, ir78_o0, ir78_r0, ghk1, hk1, hk2, hk3, hk4]
      · try simp only [go_sem, n1, n2, n3, n4, ghk1, hk1, hk2, hk3] at hk4
        all_goals
        obtain ⟨y_9, hk9, h⟩ := bd_some h
        obtain ⟨Lhk9, ehk9⟩ := spec_l01Number_l1_ex hk9
        rcases y_9 with y_9a | y_9b
        · dsimp only at h
          rcases it_some h with ⟨hk10, h⟩ | ⟨hk10, h⟩
          · try simp only [go_sem, n1, n2, n3, n4, ghk1, hk1, hk2, hk3, hk4] at hk10
            all_goals
            obtain ⟨y_11, hk11, h⟩ := bd_some h
            have fhk11 := Fs_spec_l01Dec hk11
            try simp only [go_sem, ghk1, hk1, hk2, hk3, hk4, hk10] at fhk11
            rcases it_some h with ⟨hk12, h⟩ | ⟨hk12, h⟩
            · try simp only [go_sem, n1, n2, n3, n4, ghk1, hk1, hk2, hk3, hk4, hk10] at hk12
              all_goals
              obtain rfl := so_some h
              refine ⟨Lhk9, fun L hL => ?_⟩
              have ehk9 := ehk9 L (by omega)
              try simp only [go_sem, E_spec_l01Number_l1, R_spec_l01Number_l1, ir78_k0, ir78_o0, ir78_r0, E_spec_l01Number_l2, R_spec_l01Number_l2, ir78_k0, ir78_o0, ir78_r0, ghk1, hk1, hk2, hk3, hk4, hk10, hk12] at ehk9
              simp only [go_sem, ir78, E_spec_l01Number_l1, R_spec_l01Number_l1, ir78_k0, ir78_o0, ir78_r0, E_spec_l01Number_l2, R_spec_l01Number_l2, ir78_k0, ir78_o0, ir78_r0, ghk1, hk1, hk2, hk3, hk4, hk10, fhk11, hk12, ehk9]
            · try simp only [go_sem, n1, n2, n3, n4, ghk1, hk1, hk2, hk3, hk4, hk10] at hk12
              all_goals
              obtain rfl := so_some h
              refine ⟨Lhk9, fun L hL => ?_⟩
              have ehk9 := ehk9 L (by omega)
              try simp only [go_sem, E_spec_l01Number_l1, R_spec_l01Number_l1, ir78_k0, ir78_o0, ir78_r0, E_spec_l01Number_l2, R_spec_l01Number_l2, ir78_k0, ir78_o0, ir78_r0, ghk1, hk1, hk2, hk3, hk4, hk10, hk12] at ehk9
              simp only [go_sem, ir78, E_spec_l01Number_l1, R_spec_l01Number_l1, ir78_k0, ir78_o0, ir78_r0, E_spec_l01Number_l2, R_spec_l01Number_l2, ir78_k0, ir78_o0, ir78_r0, ghk1, hk1, hk2, hk3, hk4, hk10, fhk11, hk12, ehk9]
          · try simp only [go_sem, n1, n2, n3, n4, ghk1, hk1, hk2, hk3, hk4] at hk10
            all_goals
            obtain ⟨y_13, hk13, h⟩ := bd_some h
            have fhk13 := Fs_spec_l01Dec hk13
            try simp only [go_sem, ghk1, hk1, hk2, hk3, hk4, hk10] at fhk13
            rcases it_some h with ⟨hk14, h⟩ | ⟨hk14, h⟩
            · try simp only [go_sem, n1, n2, n3, n4, ghk1, hk1, hk2, hk3, hk4, hk10] at hk14
              all_goals
              obtain rfl := so_some h
              refine ⟨Lhk9, fun L hL => ?_⟩
              have ehk9 := ehk9 L (by omega)
              try simp only [go_sem, E_spec_l01Number_l1, R_spec_l01Number_l1, ir78_k0, ir78_o0, ir78_r0, E_spec_l01Number_l2, R_spec_l01Number_l2, ir78_k0, ir78_o0, ir78_r0, ghk1, hk1, hk2, hk3, hk4, hk10, hk14] at ehk9
              simp only [go_sem, ir78, E_spec_l01Number_l1, R_spec_l01Number_l1, ir78_k0, ir78_o0, ir78_r0, E_spec_l01Number_l2, R_spec_l01Number_l2, ir78_k0, ir78_o0, ir78_r0, ghk1, hk1, hk2, hk3, hk4, hk10, fhk13, hk14, ehk9]
            · try simp only [go_sem, n1, n2, n3, n4, ghk1, hk1, hk2, hk3, hk4, hk10] at hk14
              all_goals
              obtain rfl := so_some h
              refine ⟨Lhk9, fun L hL => ?_⟩
              have ehk9 := ehk9 L (by omega)
              try simp only [go_sem, E_spec_l01Number_l1, R_spec_l01Number_l1, ir78_k0, ir78_o0, ir78_r0, E_spec_l01Number_l2, R_spec_l01Number_l2, ir78_k0, ir78_o0, ir78_r0, ghk1, hk1, hk2, hk3, hk4, hk10, hk14] at ehk9
              simp only [go_sem, ir78, E_spec_l01Number_l1, R_spec_l01Number_l1, ir78_k0, ir78_o0, ir78_r0, E_spec_l01Number_l2, R_spec_l01Number_l2, ir78_k0, ir78_o0, ir78_r0, ghk1, hk1, hk2, hk3, hk4, hk10, fhk13, hk14, ehk9]
        · dsimp only at h
          obtain rfl := so_some h
          refine ⟨Lhk9, fun L hL => ?_⟩
          have ehk9 := ehk9 L (by omega)
          try simp only [go_sem, E_spec_l01Number_l1, R_spec_l01Number_l1, ir78_k0, ir78_o0, ir78_r0, E_spec_l01Number_l2, R_spec_l01Number_l2, ir78_k0, ir78_o0, ir78_r0, ghk1, hk1, hk2, hk3, hk4] at ehk9
          simp only [go_sem, ir78, E_spec_l01Number_l1, R_spec_l01Number_l1, ir78_k0, ir78_o0, ir78_r0, E_spec_l01Number_l2, R_spec_l01Number_l2, ir78_k0, ir78_o0, ir78_r0, ghk1, hk1, hk2, hk3, hk4, ehk9]
    · try simp only [go_sem, n1, n2, n3, n4, ghk1, hk1] at hk2
      all_goals
      rcases it_some h with ⟨hk15, h⟩ | ⟨hk15, h⟩
      · try simp only [go_sem, n1, n2, n3, n4, ghk1, hk1, hk2] at hk15
        all_goals
        obtain rfl := so_some h
        refine ⟨0, fun L hL => ?_⟩
        simp only [go_sem, ir78, E_spec_l01Number_l1, R_spec_l01Number_l1, ir78_k0, ir78_o0, ir78_r0, E_spec_l01Number_l2, R_spec_l01Number_l2, ir78_k0, ir78_o0, ir78_r0, ghk1, hk1, hk2, hk15]
      · try simp only [go_sem, n1, n2, n3, n4, ghk1, hk1, hk2] at hk15
        all_goals
        obtain ⟨y_20, hk20, h⟩ := bd_some h
        obtain ⟨Lhk20, ehk20⟩ := spec_l01Number_l2_ex hk20
        rcases y_20 with y_20a | y_20b
        · dsimp only at h
          rcases it_some h with ⟨hk21, h⟩ | ⟨hk21, h⟩
          · try simp only [go_sem, n1, n2, n3, n4, ghk1, hk1, hk2, hk15] at hk21
            all_goals
            obtain ⟨y_22, hk22, h⟩ := bd_some h
            have fhk22 := Fs_spec_l01Dec hk22
            try simp only [go_sem, ghk1, hk1, hk2, hk15, hk21] at fhk22
            rcases it_some h with ⟨hk23, h⟩ | ⟨hk23, h⟩
            · try simp only [go_sem, n1, n2, n3, n4, ghk1, hk1, hk2, hk15, hk21] at hk23
              all_goals
              obtain rfl := so_some h
              refine ⟨Lhk20, fun L hL => ?_⟩
              have ehk20 := ehk20 L (by omega)
              try simp only [go_sem, E_spec_l01Number_l1, R_spec_l01Number_l1, ir78_k0, ir78_o0, ir78_r0, E_spec_l01Number_l2, R_spec_l01Number_l2, ir78_k0, ir78_o0, ir78_r0, ghk1, hk1, hk2, hk15, hk21, hk23] at ehk20
              simp only [go_sem, ir78, E_spec_l01Number_l1, R_spec_l01Number_l1, ir78_k0, ir78_o0, ir78_r0, E_spec_l01Number_l2, R_spec_l01Number_l2, ir78_k0, ir78_o0, ir78_r0, ghk1, hk1, hk2, hk15, hk21, fhk22, hk23, ehk20]
            · try simp only [go_sem, n1, n2, n3, n4, ghk1, hk1, hk2, hk15, hk21] at hk23
              all_goals
              obtain rfl := so_some h
              refine ⟨Lhk20, fun L hL => ?_⟩
              have ehk20 := ehk20 L (by omega)
              try simp only [go_sem, E_spec_l01Number_l1, R_spec_l01Number_l1, ir78_k0, ir78_o0, ir78_r0, E_spec_l01Number_l2, R_spec_l01Number_l2, ir78_k0, ir78_o0, ir78_r0, ghk1, hk1, hk2, hk15, hk21, hk23] at ehk20
              simp only [go_sem, ir78, E_spec_l01Number_l1, R_spec_l01Number_l1, ir78_k0, ir78_o0, ir78_r0, E_spec_l01Number_l2, R_spec_l01Number_l2, ir78_k0, ir78_o0, ir78_r0, ghk1, hk1, hk2, hk15, hk21, fhk22, hk23, ehk20]
          · try simp only [go_sem, n1, n2, n3, n4, ghk1, hk1, hk2, hk15] at hk21
            all_goals
            obtain ⟨y_24, hk24, h⟩ := bd_some h
            have fhk24 := Fs_spec_l01Dec hk24
            try simp only [go_sem, ghk1, hk1, hk2, hk15, hk21] at fhk24
            rcases it_some h with ⟨hk25, h⟩ | ⟨hk25, h⟩
            · try simp only [go_sem, n1, n2, n3, n4, ghk1, hk1, hk2, hk15, hk21] at hk25
              all_goals
              obtain rfl := so_some h
              refine ⟨Lhk20, fun L hL => ?_⟩
              have ehk20 := ehk20 L (by omega)
              try simp only [go_sem, E_spec_l01Number_l1, R_spec_l01Number_l1, ir78_k0, ir78_o0, ir78_r0, E_spec_l01Number_l2, R_spec_l01Number_l2, ir78_k0, ir78_o0, ir78_r0, ghk1, hk1, hk2, hk15, hk21, hk25] at ehk20
              simp only [go_sem, ir78, E_spec_l01Number_l1, R_spec_l01Number_l1, ir78_k0, ir78_o0, ir78_r0, E_spec_l01Number_l2, R_spec_l01Number_l2, ir78_k0, ir78_o0, ir78_r0, ghk1, hk1, hk2, hk15, hk21, fhk24, hk25, ehk20]
            · try simp only [go_sem, n1, n2, n3, n4, ghk1, hk1, hk2, hk15, hk21] at hk25
              all_goals
              obtain rfl := so_some h
              refine ⟨Lhk20, fun L hL => ?_⟩
              have ehk20 := ehk20 L (by omega)
              try simp only [go_sem, E_spec_l01Number_l1, R_spec_l01Number_l1, ir78_k0, ir78_o0, ir78_r0, E_spec_l01Number_l2, R_spec_l01Number_l2, ir78_k0, ir78_o0, ir78_r0, ghk1, hk1, hk2, hk15, hk21, hk25] at ehk20
              simp only [go_sem, ir78, E_spec_l01Number_l1, R_spec_l01Number_l1, ir78_k0, ir78_o0, ir78_r0, E_spec_l01Number_l2, R_spec_l01Number_l2, ir78_k0, ir78_o0, ir78_r0, ghk1, hk1, hk2, hk15, hk21, fhk24, hk25, ehk20]
        · dsimp only at h
          obtain rfl := so_some h
          refine ⟨Lhk20, fun L hL => ?_⟩
          have ehk20 := ehk20 L (by omega)
          try simp only [go_sem, E_spec_l01Number_l1, R_spec_l01Number_l1, ir78_k0, ir78_o0, ir78_r0, E_spec_l01Number_l2, R_spec_l01Number_l2, ir78_k0, ir78_o0, ir78_r0, ghk1, hk1, hk2, hk15] at ehk20
          simp only [go_sem, ir78, E_spec_l01Number_l1, R_spec_l01Number_l1, ir78_k0, ir78_o0, ir78_r0, E_spec_l01Number_l2, R_spec_l01Number_l2, ir78_k0, ir78_o0, ir78_r0, ghk1, hk1, hk2, hk15, ehk20]
  · have ghk1n := no_f ghk1
    try simp only [go_sem, n1, n2, n3, n4] at ghk1n
    all_goals
    rcases it_some h with ⟨hk2, h⟩ | ⟨hk2, h⟩
    · try simp only [go_sem, n1, n2, n3, n4, ghk1n] at hk2
      all_goals
      (simp_all)
    · try simp only [go_sem, n1, n2, n3, n4, ghk1n] at hk2
      all_goals
      rcases it_some h with ⟨hk15, h⟩ | ⟨hk15, h⟩
      · try simp only [go_sem, n1, n2, n3, n4, ghk1n, hk2] at hk15
        all_goals
        obtain rfl := so_some h
        refine ⟨0, fun L hL => ?_⟩
        simp only [go_sem, ir78, E_spec_l01Number_l1, R_spec_l01Number_l1, ir78_k0, ir78_o0, ir78_r0, E_spec_l01Number_l2, R_spec_l01Number_l2, ir78_k0, ir78_o0, ir78_r0, ghk1n, hk2, hk15]
      · try simp only [go_sem, n1, n2, n3, n4, ghk1n, hk2] at hk15
        all_goals
        obtain ⟨y_20, hk20, h⟩ := bd_some h
        obtain ⟨Lhk20, ehk20⟩ := spec_l01Number_l2_ex hk20
        rcases y_20 with y_20a | y_20b
        · dsimp only at h
          rcases it_some h with ⟨hk21, h⟩ | ⟨hk21, h⟩
          · try simp only [go_sem, n1, n2, n3, n4, ghk1n, hk2, hk15] at hk21
            all_goals
            obtain ⟨y_22, hk22, h⟩ := bd_some h
            have fhk22 := Fs_spec_l01Dec hk22
            try simp only [go_sem, ghk1n, hk2, hk15, hk21] at fhk22
            rcases it_some h with ⟨hk23, h⟩ | ⟨hk23, h⟩
            · try simp only [go_sem, n1, n2, n3, n4, ghk1n, hk2, hk15, hk21] at hk23
              all_goals
              obtain rfl := so_some h
              refine ⟨Lhk20, fun L hL => ?_⟩
              have ehk20 := ehk20 L (by omega)
              try simp only [go_sem, E_spec_l01Number_l1, R_spec_l01Number_l1, ir78_k0, ir78_o0, ir78_r0, E_spec_l01Number_l2, R_spec_l01Number_l2, ir78_k0, ir78_o0, ir78_r0, ghk1n, hk2, hk15, hk21, hk23] at ehk20
              simp only [go_sem, ir78, E_spec_l01Number_l1, R_spec_l01Number_l1, ir78_k0, ir78_o0, ir78_r0, E_spec_l01Number_l2, R_spec_l01Number_l2, ir78_k0, ir78_o0, ir78_r0, ghk1n, hk2, hk15, hk21, fhk22, hk23, ehk20]
            · try simp only [go_sem, n1, n2, n3, n4, ghk1n, hk2, hk15, hk21] at hk23
              all_goals
              obtain rfl := so_some h
              refine ⟨Lhk20, fun L hL => ?_⟩
              have ehk20 := ehk20 L (by omega)
              try simp only [go_sem, E_spec_l01Number_l1, R_spec_l01Number_l1, ir78_k0, ir78_o0, ir78_r0, E_spec_l01Number_l2, R_spec_l01Number_l2, ir78_k0, ir78_o0, ir78_r0, ghk1n, hk2, hk15, hk21, hk23] at ehk20
              simp only [go_sem, ir78, E_spec_l01Number_l1, R_spec_l01Number_l1, ir78_k0, ir78_o0, ir78_r0, E_spec_l01Number_l2, R_spec_l01Number_l2, ir78_k0, ir78_o0, ir78_r0, ghk1n, hk2, hk15, hk21, fhk22, hk23, ehk20]
          · try simp only [go_sem, n1, n2, n3, n4, ghk1n, hk2, hk15] at hk21
            all_goals
            obtain ⟨y_24, hk24, h⟩ := bd_some h
            have fhk24 := Fs_spec_l01Dec hk24
            try simp only [go_sem, ghk1n, hk2, hk15, hk21] at fhk24
            rcases it_some h with ⟨hk25, h⟩ | ⟨hk25, h⟩
            · try simp only [go_sem, n1, n2, n3, n4, ghk1n, hk2, hk15, hk21] at hk25
              all_goals
              obtain rfl := so_some h
              refine ⟨Lhk20, fun L hL => ?_⟩
              have ehk20 := ehk20 L (by omega)
              try simp only [go_sem, E_spec_l01Number_l1, R_spec_l01Number_l1, ir78_k0, ir78_o0, ir78_r0, E_spec_l01Number_l2, R_spec_l01Number_l2, ir78_k0, ir78_o0, ir78_r0, ghk1n, hk2, hk15, hk21, hk25] at ehk20
              simp only [go_sem, ir78, E_spec_l01Number_l1, R_spec_l01Number_l1, ir78_k0, ir78_o0, ir78_r0, E_spec_l01Number_l2, R_spec_l01Number_l2, ir78_k0, ir78_o0, ir78_r0, ghk1n, hk2, hk15, hk21, fhk24, hk25, ehk20]
            · try simp only [go_sem, n1, n2, n3, n4, ghk1n, hk2, hk15, hk21] at hk25
              all_goals
              obtain rfl := so_some h
              refine ⟨Lhk20, fun L hL => ?_⟩
              have ehk20 := ehk20 L (by omega)
              try simp only [go_sem, E_spec_l01Number_l1, R_spec_l01Number_l1, ir78_k0, ir78_o0, ir78_r0, E_spec_l01Number_l2, R_spec_l01Number_l2, ir78_k0, ir78_o0, ir78_r0, ghk1n, hk2, hk15, hk21, hk25] at ehk20
              simp only [go_sem, ir78, E_spec_l01Number_l1, R_spec_l01Number_l1, ir78_k0, ir78_o0, ir78_r0, E_spec_l01Number_l2, R_spec_l01Number_l2, ir78_k0, ir78_o0, ir78_r0, ghk1n, hk2, hk15, hk21, fhk24, hk25, ehk20]
        · dsimp only at h
          obtain rfl := so_some h
          refine ⟨Lhk20, fun L hL => ?_⟩
          have ehk20 := ehk20 L (by omega)
          try simp only [go_sem, E_spec_l01Number_l1, R_spec_l01Number_l1, ir78_k0, ir78_o0, ir78_r0, E_spec_l01Number_l2, R_spec_l01Number_l2, ir78_k0, ir78_o0, ir78_r0, ghk1n, hk2, hk15] at ehk20
          simp only [go_sem, ir78, E_spec_l01Number_l1, R_spec_l01Number_l1, ir78_k0, ir78_o0, ir78_r0, E_spec_l01Number_l2, R_spec_l01Number_l2, ir78_k0, ir78_o0, ir78_r0, ghk1n, hk2, hk15, ehk20]


def ir66_b0 : IR := .seq (.test false [
    ⟨.push, 6, none, .mov (.v 4)⟩,
    ⟨.push, 7, none, .mov (.v 0)⟩,
    ⟨.push, 8, none, .len true (.s 0)⟩,
    ⟨.push, 9, none, .bin false .lss (.s 2) (.s 0)⟩] (.s 0)
  (.skip)
  (.exit 0))
 (.seq (.block 1 (.seq (.test false [
      ⟨.push, 12, none, .mov (.v 0)⟩,
      ⟨.push, 13, none, .mov (.v 4)⟩,
      ⟨.push, 14, none, .ixStr (.s 1) (.s 0)⟩,
      ⟨.push, 15, none, .call 98 [(.s 0)]⟩,
      ⟨.push, 16, none, .un .not (.s 0)⟩] (.s 0)
    (.seq (.region false [
        ⟨.var 1, 2, none, .mov (.c (.int .i64 (0)))⟩,
        ⟨.var 2, 3, none, .mov (.c (.bool false))⟩])
     (.ret))
    (.skip))
   (.region false [
     ⟨.push, 17, none, .mov (.v 3)⟩,
     ⟨.push, 18, none, .bin false .mul (.c (.int .i64 (10))) (.s 0)⟩,
     ⟨.push, 19, none, .mov (.v 0)⟩,
     ⟨.push, 20, none, .mov (.v 4)⟩,
     ⟨.push, 21, none, .ixStr (.s 1) (.s 0)⟩,
     ⟨.push, 22, none, .bin false .sub (.s 0) (.c (.int .u8 (48)))⟩,
     ⟨.push, 23, none, .conv .i64 (.s 0)⟩,
     ⟨.push, 24, none, .bin false .add (.s 5) (.s 0)⟩,
     ⟨.var 3, 4, none, .mov (.s 0)⟩])))
 (.region false [
   ⟨.push, 10, none, .mov (.v 4)⟩,
   ⟨.push, 11, none, .bin false .add (.s 0) (.c (.int .i64 (1)))⟩,
   ⟨.var 4, 5, none, .mov (.s 0)⟩]))
def ir66_k0 : List Bool := [true, false, false, true, true]
def ir66_o0 : List Bool := [false, false, false, true, false]
def ir66_r0 : List Bool := [false, true, true, false, false]
def ir66_v : List Nat := [0, 2, 3, 4, 5]
def ir66 : AFn := ⟨1, 5, .seq (.region false [
    ⟨.var 1, 2, none, .mov (.c (.int .i64 (0)))⟩,
    ⟨.var 2, 3, none, .mov (.c (.bool false))⟩])
 (.seq (.region false [
    ⟨.var 3, 4, none, .mov (.c (.int .i64 (0)))⟩])
 (.seq (.seq (.region false [
     ⟨.var 4, 5, none, .mov (.c (.int .i64 (0)))⟩])
  (.block 0 (.loop ir66_k0 ir66_o0 ir66_r0 ir66_b0)))
 (.seq (.region false [
    ⟨.push, 25, none, .mov (.v 3)⟩,
    ⟨.var 1, 2, none, .mov (.s 0)⟩,
    ⟨.var 2, 3, none, .mov (.c (.bool true))⟩])
 (.ret)))), [.t 1, .t 2]⟩
noncomputable def t_spec_l03Digits : List (Nat × Ctr) := [(98, c_spec_l01Digit)]
theorem lk_spec_l03Digits_98 : look t_spec_l03Digits 98 = some c_spec_l01Digit := rfl
noncomputable def c_spec_l03Digits : Ctr := mkF t_spec_l03Digits ir66 [.bor]
theorem s_spec_l03Digits : Sound Tryd.prog 66 c_spec_l03Digits := mkF_sound _ rfl (snd_cons s_spec_l01Digit snd_nil) (by kernel_rfl : chkFn Tryd.prog 66 ir66 ir66_v = true)
theorem M_spec_l03Digits : c_spec_l03Digits.modes = [.bor] := rfl
theorem Fl_spec_l03Digits : c_spec_l03Digits.flat = true := rfl
attribute [go_sem] M_spec_l03Digits Fl_spec_l03Digits
attribute [go_sem] lk_spec_l03Digits_98
def E_spec_l03Digits_l1 (s_ : List UInt8) : (Int × Int) → St
  | (n, i) => ⟨[.str s_, .any, .any, .int .i64 n, .int .i64 i], [], [], true⟩
def R_spec_l03Digits_l1 (s_ : List UInt8) : (Int ⊕ (Int × Bool)) → Res
  | .inl y => (.exit 0, ⟨[.any, .any, .any, .int .i64 y, .any], [], [], true⟩)
  | .inr y => (.ret, ⟨[.any, .int .i64 y.1, .bool y.2, .any, .any], [], [], true⟩)
theorem spec_l03Digits_l1_ex {s_ : List UInt8} {sgm_ : Int × Int} {rho_ : Int ⊕ (Int × Bool)} (h : whileE (spec_l03Digits_l1 s_) sgm_ = some rho_) : ∃ L0, ∀ L, L0 ≤ L → iter (exec (look t_spec_l03Digits) L ir66_b0) ir66_k0 ir66_o0 ir66_r0 L (E_spec_l03Digits_l1 s_ sgm_) = R_spec_l03Digits_l1 s_ rho_ := by
  refine loop_ex (E := E_spec_l03Digits_l1 s_) (R := R_spec_l03Digits_l1 s_) (fun y => by first | (intro c; cases c) | (rcases y with y | y <;> (intro c; cases c)) | (rcases y with y | y | y <;> (intro c; cases c))) ?_ h
  clear h
  rintro ⟨n, i⟩ o_ h
  dsimp only [spec_l03Digits_l1] at h
  rcases it_some h with ⟨hk1, h⟩ | ⟨hk1, h⟩
  · try simp only [go_sem, n1, n2, n3, n4] at hk1
    all_goals
    obtain ⟨hk2, h⟩ := ck_some h
    try simp only [go_sem, n1, n2, n3, n4, hk1] at hk2
    all_goals
    obtain ⟨y_3, hk3, h⟩ := bd_some h
    have fhk3 := Fs_spec_l01Digit hk3
    try simp only [go_sem, hk1, hk2] at fhk3
    rcases it_some h with ⟨hk4, h⟩ | ⟨hk4, h⟩
    · try simp only [go_sem, n1, n2, n3, n4, hk1, hk2] at hk4
      all_goals
      obtain rfl := so_some h
      refine ⟨0, fun L hL => ?_⟩
      simp only [go_sem, ir66, E_spec_l03Digits_l1, R_spec_l03Digits_l1, ir66_b0, ir66_k0, ir66_o0, ir66_r0, hk1, hk2, fhk3, hk4]
    · try simp only [go_sem, n1, n2, n3, n4, hk1, hk2] at hk4
      all_goals
      obtain rfl := so_some h
      refine ⟨0, fun L hL => ?_⟩
      simp only [go_sem, ir66, E_spec_l03Digits_l1, R_spec_l03Digits_l1, ir66_b0, ir66_k0, ir66_o0, ir66_r0, hk1, hk2, fhk3, hk4]
  · try simp only [go_sem, n1, n2, n3, n4] at hk1
    all_goals
    obtain rfl := so_some h
    refine ⟨0, fun L hL => ?_⟩
    simp only [go_sem, ir66, E_spec_l03Digits_l1, R_spec_l03Digits_l1, ir66_b0, ir66_k0, ir66_o0, ir66_r0, hk1]

theorem Fs_spec_l03Digits {s_ : List UInt8} {y_ : Int × Bool} (h : spec_l03Digits s_ = some y_) : c_spec_l03Digits.F [.str s_] = ⟨true, .tup [.int .i64 y_.1, .bool y_.2], [.any]⟩ := by
  refine mkF_E rfl ?_
  dsimp only [spec_l03Digits] at h
  obtain ⟨y_5, hk5, h⟩ := bd_some h
  obtain ⟨Lhk5, ehk5⟩ := spec_l03Digits_l1_ex hk5
  rcases y_5 with y_5a | y_5b
  · dsimp only at h
    obtain rfl := so_some h
    refine ⟨Lhk5, fun L hL => ?_⟩
    have ehk5 := ehk5 L (by omega)
    try simp only [go_sem, E_spec_l03Digits_l1, R_spec_l03Digits_l1, ir66_k0, ir66_o0, ir66_r0] at ehk5
    simp only [go_sem, ir66, E_spec_l03Digits_l1, R_spec_l03Digits_l1, ir66_k0, ir66_o0, ir66_r0, ehk5]
  · dsimp only at h
    obtain rfl := so_some h
    refine ⟨Lhk5, fun L hL => ?_⟩
    have ehk5 := ehk5 L (by omega)
    try simp only [go_sem, E_spec_l03Digits_l1, R_spec_l03Digits_l1, ir66_k0, ir66_o0, ir66_r0] at ehk5
    simp only [go_sem, ir66, E_spec_l03Digits_l1, R_spec_l03Digits_l1, ir66_k0, ir66_o0, ir66_r0, ehk5]


def ir40_v : List Nat := [0, 2, 3, 4, 5, 6, 7, 8]
def ir40 : AFn := ⟨1, 8, .seq (.region false [
    ⟨.var 1, 2, none, .mov (.c (.int .i64 (0)))⟩,
    ⟨.var 2, 3, none, .mov (.c (.bool false))⟩])
 (.seq (.region false [
    ⟨.push, 9, none, .mov (.v 0)⟩,
    ⟨.push, 10, none, .call 77 [(.s 0), (.c (.int .u8 (46)))]⟩,
    ⟨.var 3, 4, none, .mov (.s 0)⟩])
 (.seq (.test false [
    ⟨.push, 11, none, .mov (.v 3)⟩,
    ⟨.push, 12, none, .len false (.s 0)⟩,
    ⟨.push, 13, none, .bin false .neq (.s 0) (.c (.int .i64 (2)))⟩,
    ⟨.push, 14, none, .mov (.s 0)⟩,
    ⟨.push, 15, (some ((.s 0), false)), .mov (.v 3)⟩,
    ⟨.push, 16, (some ((.s 1), false)), .ixAddr 1 (.s 0) (.c (.int .i64 (1)))⟩,
    ⟨.push, 17, (some ((.s 2), false)), .load false 1 (.s 0)⟩,
    ⟨.push, 18, (some ((.s 3), false)), .len true (.s 0)⟩,
    ⟨.push, 19, (some ((.s 4), false)), .bin false .neq (.s 0) (.c (.int .i64 (4)))⟩,
    ⟨.push, 20, none, .pick (.s 5) (.c (.bool true)) (.s 0)⟩] (.s 0)
  (.seq (.region false [
      ⟨.var 1, 2, none, .mov (.c (.int .i64 (0)))⟩,
      ⟨.var 2, 3, none, .mov (.c (.bool false))⟩])
   (.ret))
  (.skip))
 (.seq (.region false [
    ⟨.push, 22, none, .mov (.v 3)⟩,
    ⟨.push, 23, none, .ixAddr 1 (.s 0) (.c (.int .i64 (0)))⟩,
    ⟨.push, 24, none, .load false 1 (.s 0)⟩,
    ⟨.push, 25, none, .call 78 [(.s 0)]⟩,
    ⟨.push, 21, none, .mov (.s 0)⟩,
    ⟨.push, 26, none, .ext (.s 0) 0⟩,
    ⟨.push, 27, none, .ext (.s 1) 1⟩,
    ⟨.var 4, 5, none, .mov (.s 1)⟩,
    ⟨.var 5, 6, none, .mov (.s 0)⟩])
 (.seq (.region false [
    ⟨.push, 29, none, .mov (.v 3)⟩,
    ⟨.push, 30, none, .ixAddr 1 (.s 0) (.c (.int .i64 (1)))⟩,
    ⟨.push, 31, none, .load false 1 (.s 0)⟩,
    ⟨.push, 32, none, .call 66 [(.s 0)]⟩,
    ⟨.push, 28, none, .mov (.s 0)⟩,
    ⟨.push, 33, none, .ext (.s 0) 0⟩,
    ⟨.push, 34, none, .ext (.s 1) 1⟩,
    ⟨.var 6, 7, none, .mov (.s 1)⟩,
    ⟨.var 7, 8, none, .mov (.s 0)⟩])
 (.seq (.test false [
    ⟨.push, 35, none, .mov (.v 5)⟩,
    ⟨.push, 36, none, .un .not (.s 0)⟩,
    ⟨.push, 37, none, .mov (.s 0)⟩,
    ⟨.push, 38, (some ((.s 0), false)), .mov (.v 7)⟩,
    ⟨.push, 39, (some ((.s 1), false)), .un .not (.s 0)⟩,
    ⟨.push, 40, none, .pick (.s 2) (.c (.bool true)) (.s 0)⟩,
    ⟨.push, 41, none, .mov (.s 0)⟩,
    ⟨.push, 42, (some ((.s 0), false)), .mov (.v 4)⟩,
    ⟨.push, 43, (some ((.s 1), false)), .call 54 [(.s 0), (.c (.int .i64 (0))), (.c (.int .i64 (1000)))]⟩,
    ⟨.push, 44, (some ((.s 2), false)), .un .not (.s 0)⟩,
    ⟨.push, 45, none, .pick (.s 3) (.c (.bool true)) (.s 0)⟩,
    ⟨.push, 46, none, .mov (.s 0)⟩,
    ⟨.push, 47, (some ((.s 0), false)), .mov (.v 4)⟩,
    ⟨.push, 48, (some ((.s 1), false)), .bin false .mul (.s 0) (.c (.int .i64 (10000)))⟩,
    ⟨.push, 49, (some ((.s 2), false)), .mov (.v 6)⟩,
    ⟨.push, 50, (some ((.s 3), false)), .bin false .add (.s 1) (.s 0)⟩,
    ⟨.push, 51, (some ((.s 4), false)), .call 70 [(.s 0)]⟩,
    ⟨.push, 52, (some ((.s 5), false)), .un .not (.s 0)⟩,
    ⟨.push, 53, none, .pick (.s 6) (.c (.bool true)) (.s 0)⟩] (.s 0)
  (.seq (.region false [
      ⟨.var 1, 2, none, .mov (.c (.int .i64 (0)))⟩,
      ⟨.var 2, 3, none, .mov (.c (.bool false))⟩])
   (.ret))
  (.skip))
 (.seq (.region false [
    ⟨.push, 54, none, .mov (.v 4)⟩,
    ⟨.push, 55, none, .bin false .mul (.s 0) (.c (.int .i64 (10000)))⟩,
    ⟨.push, 56, none, .mov (.v 6)⟩,
    ⟨.push, 57, none, .bin false .add (.s 1) (.s 0)⟩,
    ⟨.var 1, 2, none, .mov (.s 0)⟩,
    ⟨.var 2, 3, none, .mov (.c (.bool true))⟩])
 (.ret))))))), [.t 1, .t 2]⟩
noncomputable def t_spec_ReadTime : List (Nat × Ctr) := [(77, c_spec_l01Split), (78, c_spec_l01Number), (66, c_spec_l03Digits), (54, c_spec_l00In), (70, c_spec_l03Time)]
theorem lk_spec_ReadTime_77 : look t_spec_ReadTime 77 = some c_spec_l01Split := rfl
theorem lk_spec_ReadTime_78 : look t_spec_ReadTime 78 = some c_spec_l01Number := rfl
theorem lk_spec_ReadTime_66 : look t_spec_ReadTime 66 = some c_spec_l03Digits := rfl
theorem lk_spec_ReadTime_54 : look t_spec_ReadTime 54 = some c_spec_l00In := rfl
theorem lk_spec_ReadTime_70 : look t_spec_ReadTime 70 = some c_spec_l03Time := rfl
noncomputable def c_spec_ReadTime : Ctr := mkF t_spec_ReadTime ir40 [.bor]
theorem s_spec_ReadTime : Sound Tryd.prog 40 c_spec_ReadTime := mkF_sound _ rfl (snd_cons s_spec_l01Split (snd_cons s_spec_l01Number (snd_cons s_spec_l03Digits (snd_cons s_spec_l00In (snd_cons s_spec_l03Time snd_nil))))) (by kernel_rfl : chkFn Tryd.prog 40 ir40 ir40_v = true)
theorem M_spec_ReadTime : c_spec_ReadTime.modes = [.bor] := rfl
theorem Fl_spec_ReadTime : c_spec_ReadTime.flat = true := rfl
attribute [go_sem] M_spec_ReadTime Fl_spec_ReadTime
attribute [go_sem] lk_spec_ReadTime_77 lk_spec_ReadTime_78 lk_spec_ReadTime_66 lk_spec_ReadTime_54 lk_spec_ReadTime_70
theorem Fs_spec_ReadTime {s_ : List UInt8} {y_ : Int × Bool} (h : spec_ReadTime s_ = some y_) : c_spec_ReadTime.F [.str s_] = ⟨true, .tup [.int .i64 y_.1, .bool y_.2], [.any]⟩ := by
  refine mkF_E rfl ?_
  dsimp only [spec_ReadTime] at h
  obtain ⟨y_1, hk1, h⟩ := bd_some h
  have fhk1 := Fs_spec_l01Split hk1
  try simp only [go_sem] at fhk1
  obtain ⟨hk2, h⟩ := ck_some h
  rcases or_split hk2 with ⟨ghk2, hk2⟩ | ghk2
  · try simp only [go_sem, n1, n2, n3, n4] at ghk2
    all_goals
    have lhk2 := ix_lt hk2
    have xhk2 := getD_mapD AV.str y_1 lhk2
    try simp only [go_sem] at lhk2
    try simp only [go_sem] at xhk2
    try simp only [go_sem, n1, n2, n3, n4, ghk2] at hk2
    all_goals
    rcases it_some h with ⟨hk3, h⟩ | ⟨hk3, h⟩
    · try simp only [go_sem, n1, n2, n3, n4, ghk2, hk2] at hk3
      all_goals
      obtain rfl := so_some h
      refine ⟨0, fun L hL => ?_⟩
      simp only [go_sem, ir40, fhk1, ghk2, hk2, lhk2, xhk2, hk3]
    · try simp only [go_sem, n1, n2, n3, n4, ghk2, hk2] at hk3
      all_goals
      obtain ⟨hk4, h⟩ := ck_some h
      have lhk4 := ix_lt hk4
      have xhk4 := getD_mapD AV.str y_1 lhk4
      try simp only [go_sem] at lhk4
      try simp only [go_sem] at xhk4
      try simp only [go_sem, n1, n2, n3, n4, ghk2, hk2, hk3] at hk4
      all_goals
      obtain ⟨y_5, hk5, h⟩ := bd_some h
      have fhk5 := Fs_spec_l01Number hk5
      try simp only [go_sem, ghk2, hk2, hk3, hk4] at fhk5
      obtain ⟨hk6, h⟩ := ck_some h
      have lhk6 := ix_lt hk6
      have xhk6 := getD_mapD AV.str y_1 lhk6
      try simp only [go_sem] at lhk6
      try simp only [go_sem] at xhk6
      try simp only [go_sem, n1, n2, n3, n4, ghk2, hk2, hk3, hk4] at hk6
      all_goals
      obtain ⟨y_7, hk7, h⟩ := bd_some h
      have fhk7 := Fs_spec_l03Digits hk7
      try simp only [go_sem, ghk2, hk2, hk3, hk4, hk6] at fhk7
      obtain ⟨hk8, h⟩ := ck_some h
      rcases or_split hk8 with ⟨ghk8, hk8⟩ | ghk8
      · try simp only [go_sem, n1, n2, n3, n4, ghk2, hk2, hk3, hk4, hk6] at ghk8
        all_goals
        obtain ⟨y_8, hhk8⟩ := Option.isSome_iff_exists.1 hk8
        have fhk8 := Fs_spec_l00In hhk8
        try simp only [go_sem, n1, n2, n3, n4, ghk2, hk2, hk3, hk4, hk6, ghk8] at hhk8
        all_goals
        try simp only [go_sem, ghk2, hk2, hk3, hk4, hk6, ghk8] at fhk8
        obtain ⟨hk9, h⟩ := ck_some h
        rcases or_split hk9 with ⟨ghk9, hk9⟩ | ghk9
        · try simp only [go_sem, n1, n2, n3, n4, ghk2, hk2, hk3, hk4, hk6, ghk8, hhk8] at ghk9
          all_goals
          obtain ⟨y_9, hhk9⟩ := Option.isSome_iff_exists.1 hk9
          have fhk9 := Fs_spec_l03Time hhk9
          try simp only [go_sem, n1, n2, n3, n4, ghk2, hk2, hk3, hk4, hk6, ghk8, hhk8, ghk9] at hhk9
          all_goals
          try simp only [go_sem, ghk2, hk2, hk3, hk4, hk6, ghk8, hhk8, ghk9] at fhk9
          rcases it_some h with ⟨hk10, h⟩ | ⟨hk10, h⟩
          · try simp only [go_sem, n1, n2, n3, n4, ghk2, hk2, hk3, hk4, hk6, ghk8, hhk8, ghk9, hhk9] at hk10
            all_goals
            obtain rfl := so_some h
            refine ⟨0, fun L hL => ?_⟩
            simp only [go_sem, ir40, fhk1, ghk2, hk2, lhk2, xhk2, hk3, hk4, lhk4, xhk4, fhk5, hk6, lhk6, xhk6, fhk7, ghk8, hhk8, fhk8, ghk9, hhk9, fhk9, hk10]
          · try simp only [go_sem, n1, n2, n3, n4, ghk2, hk2, hk3, hk4, hk6, ghk8, hhk8, ghk9, hhk9] at hk10
            all_goals
            obtain rfl := so_some h
            refine ⟨0, fun L hL => ?_⟩
            simp only [go_sem, ir40, fhk1, ghk2, hk2, lhk2, xhk2, hk3, hk4, lhk4, xhk4, fhk5, hk6, lhk6, xhk6, fhk7, ghk8, hhk8, fhk8, ghk9, hhk9, fhk9, hk10]
        · have ghk9n := no_f ghk9
          rcases or_t ghk9n with ghk9na | ⟨ghk9na, ghk9nb⟩
          · try simp only [go_sem, n1, n2, n3, n4, ghk2, hk2, hk3, hk4, hk6, ghk8, hhk8] at ghk9na
            all_goals
            (simp_all)
          · obtain ⟨ghk9naa, ghk9nab⟩ := or_f ghk9na
            have ghk9naan := no_f ghk9naa
            have ghk9nabn := no_f ghk9nab
            have ghk9nbn := no_t ghk9nb
            try simp only [go_sem, n1, n2, n3, n4, ghk2, hk2, hk3, hk4, hk6, ghk8, hhk8] at ghk9naan
            all_goals
            try simp only [go_sem, n1, n2, n3, n4, ghk2, hk2, hk3, hk4, hk6, ghk8, hhk8, ghk9naan] at ghk9nabn
            all_goals
            try simp only [go_sem, n1, n2, n3, n4, ghk2, hk2, hk3, hk4, hk6, ghk8, hhk8, ghk9naan, ghk9nabn] at ghk9nbn
            all_goals
            rcases it_some h with ⟨hk10, h⟩ | ⟨hk10, h⟩
            · try simp only [go_sem, n1, n2, n3, n4, ghk2, hk2, hk3, hk4, hk6, ghk8, hhk8, ghk9naan, ghk9nabn, ghk9nbn] at hk10
              all_goals
              obtain rfl := so_some h
              refine ⟨0, fun L hL => ?_⟩
              simp only [go_sem, ir40, fhk1, ghk2, hk2, lhk2, xhk2, hk3, hk4, lhk4, xhk4, fhk5, hk6, lhk6, xhk6, fhk7, ghk8, hhk8, fhk8, ghk9naan, ghk9nabn, ghk9nbn, hk10]
            · try simp only [go_sem, n1, n2, n3, n4, ghk2, hk2, hk3, hk4, hk6, ghk8, hhk8, ghk9naan, ghk9nabn, ghk9nbn] at hk10
              all_goals
              (simp_all)
      · have ghk8n := no_f ghk8
        rcases or_t ghk8n with ghk8na | ⟨ghk8na, ghk8nb⟩
        · have ghk8nan := no_t ghk8na
          try simp only [go_sem, n1, n2, n3, n4, ghk2, hk2, hk3, hk4, hk6] at ghk8nan
          all_goals
          obtain ⟨hk9, h⟩ := ck_some h
          rcases it_some h with ⟨hk10, h⟩ | ⟨hk10, h⟩
          · try simp only [go_sem, n1, n2, n3, n4, ghk2, hk2, hk3, hk4, hk6, ghk8nan] at hk10
            all_goals
            obtain rfl := so_some h
            refine ⟨0, fun L hL => ?_⟩
            simp only [go_sem, ir40, fhk1, ghk2, hk2, lhk2, xhk2, hk3, hk4, lhk4, xhk4, fhk5, hk6, lhk6, xhk6, fhk7, ghk8nan, hk10]
          · try simp only [go_sem, n1, n2, n3, n4, ghk2, hk2, hk3, hk4, hk6, ghk8nan] at hk10
            all_goals
            (simp_all)
        · have ghk8nan := no_f ghk8na
          have ghk8nbn := no_t ghk8nb
          try simp only [go_sem, n1, n2, n3, n4, ghk2, hk2, hk3, hk4, hk6] at ghk8nan
          all_goals
          try simp only [go_sem, n1, n2, n3, n4, ghk2, hk2, hk3, hk4, hk6, ghk8nan] at ghk8nbn
          all_goals
          obtain ⟨hk9, h⟩ := ck_some h
          rcases it_some h with ⟨hk10, h⟩ | ⟨hk10, h⟩
          · try simp only [go_sem, n1, n2, n3, n4, ghk2, hk2, hk3, hk4, hk6, ghk8nan, ghk8nbn] at hk10
            all_goals
            obtain rfl := so_some h
            refine ⟨0, fun L hL => ?_⟩
            simp only [go_sem, ir40, fhk1, ghk2, hk2, lhk2, xhk2, hk3, hk4, lhk4, xhk4, fhk5, hk6, lhk6, xhk6, fhk7, ghk8nan, ghk8nbn, hk10]
          · try simp only [go_sem, n1, n2, n3, n4, ghk2, hk2, hk3, hk4, hk6, ghk8nan, ghk8nbn] at hk10
            all_goals
            (simp_all)
  · have ghk2n := no_f ghk2
    have ghk2nn := no_t ghk2n
    try simp only [go_sem, n1, n2, n3, n4] at ghk2nn
    all_goals
    rcases it_some h with ⟨hk3, h⟩ | ⟨hk3, h⟩
    · try simp only [go_sem, n1, n2, n3, n4, ghk2nn] at hk3
      all_goals
      obtain rfl := so_some h
      refine ⟨0, fun L hL => ?_⟩
      simp only [go_sem, ir40, fhk1, ghk2nn, hk3]
    · try simp only [go_sem, n1, n2, n3, n4, ghk2nn] at hk3
      all_goals
      (simp_all)


def ir43_v : List Nat := [0, 2]
def ir43 : AFn := ⟨1, 2, .seq (.region false [
    ⟨.var 1, 2, none, .mov (.c (.bool false))⟩])
 (.seq (.region false [
    ⟨.push, 3, none, .mov (.v 0)⟩,
    ⟨.push, 4, none, .call 70 [(.s 0)]⟩,
    ⟨.var 1, 2, none, .mov (.s 0)⟩])
 (.ret)), [.t 1]⟩
noncomputable def t_spec_ValidTime : List (Nat × Ctr) := [(70, c_spec_l03Time)]
theorem lk_spec_ValidTime_70 : look t_spec_ValidTime 70 = some c_spec_l03Time := rfl
noncomputable def c_spec_ValidTime : Ctr := mkF t_spec_ValidTime ir43 [.bor]
theorem s_spec_ValidTime : Sound Tryd.prog 43 c_spec_ValidTime := mkF_sound _ rfl (snd_cons s_spec_l03Time snd_nil) (by kernel_rfl : chkFn Tryd.prog 43 ir43 ir43_v = true)
theorem M_spec_ValidTime : c_spec_ValidTime.modes = [.bor] := rfl
theorem Fl_spec_ValidTime : c_spec_ValidTime.flat = true := rfl
attribute [go_sem] M_spec_ValidTime Fl_spec_ValidTime
attribute [go_sem] lk_spec_ValidTime_70
theorem Fs_spec_ValidTime {t : Int} {y_ : Bool} (h : spec_ValidTime t = some y_) : c_spec_ValidTime.F [.int .i64 t] = ⟨true, .bool y_, [.any]⟩ := by
  refine mkF_E rfl ?_
  dsimp only [spec_ValidTime] at h
  obtain ⟨y_1, hk1, h⟩ := bd_some h
  have fhk1 := Fs_spec_l03Time hk1
  try simp only [go_sem] at fhk1
  obtain rfl := so_some h
  refine ⟨0, fun L hL => ?_⟩
  simp only [go_sem, ir43, fhk1]


end Go.Proofs.YtbcgbmckojlpjaaDoor
