/- Codes and contracts of the functions that BY reaches, and that their typed forms say what they do. No condition. -/
import Derived.Test.YtcfjogkgmkagiaaBYT
import Derived.Test.YtcfjogkgmkagiaaRows
import Derived.WalkKit
namespace Go.Proofs.Ytcfjogkgmkagiaa
open Go Go.RowKit
set_option linter.unusedVariables false
set_option linter.unusedSimpArgs false
set_option maxRecDepth 10000

def ir6_v : List Nat := [0, 2]
def ir6 : AFn := ⟨1, 2, .seq (.region false [
    ⟨.var 1, 2, none, .mov (.c (.bool false))⟩])
 (.seq (.region false [
    ⟨.push, 3, none, .mov (.v 0)⟩,
    ⟨.push, 4, none, .len false (.s 0)⟩,
    ⟨.push, 5, none, .bin false .gtr (.s 0) (.c (.int .i64 (4096)))⟩,
    ⟨.var 1, 2, none, .mov (.s 0)⟩])
 (.ret)), [.t 1]⟩
noncomputable def t_laws_f6big : List (Nat × Ctr) := []
noncomputable def c_laws_f6big : Ctr := mkF t_laws_f6big ir6 [.bor]
theorem s_laws_f6big : Sound Try.prog 6 c_laws_f6big := mkF_sound _ rfl snd_nil (by kernel_rfl : chkFn Try.prog 6 ir6 ir6_v = true)
theorem M_laws_f6big : c_laws_f6big.modes = [.bor] := rfl
theorem Fl_laws_f6big : c_laws_f6big.flat = true := rfl
attribute [go_sem] M_laws_f6big Fl_laws_f6big
theorem Fs_laws_f6big {code : List UInt8} {y_ : Bool} (h : laws_f6big code = some y_) : c_laws_f6big.F [.sl 1 (List.map byteAV code)] = ⟨true, .bool y_, [.any]⟩ := by
  refine mkF_E rfl ?_
  dsimp only [laws_f6big] at h
  obtain rfl := so_some h
  refine ⟨0, fun L hL => ?_⟩
  simp only [go_sem, ir6]


def ir44_v : List Nat := [0, 2]
def ir44 : AFn := ⟨1, 2, .seq (.region false [
    ⟨.var 1, 2, none, .mov (.c (.cv (.pointer none)))⟩])
 (.seq (.region false [
    ⟨.push, 3, none, .mov (.v 0)⟩,
    ⟨.push, 4, none, .build [.sl 1 [], .int .i64 (0), .int .u64 (0)] [(0, 1, (.s 0))]⟩,
    ⟨.push, 5, none, .box (.s 0)⟩,
    ⟨.var 1, 2, none, .mov (.s 0)⟩])
 (.ret)), [.t 1]⟩
noncomputable def t_spec_l00From : List (Nat × Ctr) := []
noncomputable def c_spec_l00From : Ctr := mkN t_spec_l00From ir44 [.bor]
theorem s_spec_l00From : Sound Try.prog 44 c_spec_l00From := mkN_sound _ snd_nil (by kernel_rfl : chkFn Try.prog 44 ir44 ir44_v = true)
theorem M_spec_l00From : c_spec_l00From.modes = [.bor] := rfl
theorem Fl_spec_l00From : c_spec_l00From.flat = false := rfl
attribute [go_sem] M_spec_l00From Fl_spec_l00From
theorem Fs_spec_l00From {code : List UInt8} {y_ : L00Src} (h : spec_l00From code = some y_) : c_spec_l00From.F [.sl 1 (List.map byteAV code)] = ⟨true, .mem 3 [L00Src_av y_], [.any]⟩ := by
  refine mkN_E ?_
  dsimp only [spec_l00From] at h
  obtain rfl := so_some h
  refine ⟨0, fun L hL => ?_⟩
  simp only [go_sem, ir44]


def ir77_v : List Nat := [0, 2, 3]
def ir77 : AFn := ⟨1, 3, .seq (.region false [
    ⟨.var 1, 2, none, .mov (.c (.int .i64 (0)))⟩])
 (.seq (.region false [
    ⟨.var 2, 3, none, .mov (.c (.int .i64 (0)))⟩])
 (.seq (.anyo 10 [
    ⟨.slot 0, 4, none, .mov (.v 0)⟩,
    ⟨.slot 1, 5, none, .nilck (.s 0)⟩,
    ⟨.slot 2, 6, none, .fldAddr 1 (.s 1)⟩,
    ⟨.slot 3, 7, none, .load false 1 (.s 2)⟩,
    ⟨.slot 4, 8, none, .mov (.v 0)⟩,
    ⟨.slot 5, 9, none, .nilck (.s 4)⟩,
    ⟨.slot 6, 10, none, .fldAddr 0 (.s 5)⟩,
    ⟨.slot 7, 11, none, .load false 1 (.s 6)⟩,
    ⟨.slot 8, 12, none, .len false (.s 7)⟩,
    ⟨.slot 9, 13, none, .bin false .lss (.s 3) (.s 8)⟩] [] (.cond (.s 9)
  (.anyo 11 [
     ⟨.slot 0, 14, none, .mov (.v 0)⟩,
     ⟨.slot 1, 15, none, .nilck (.s 0)⟩,
     ⟨.slot 2, 16, none, .fldAddr 0 (.s 1)⟩,
     ⟨.slot 3, 17, none, .load false 1 (.s 2)⟩,
     ⟨.slot 4, 18, none, .mov (.v 0)⟩,
     ⟨.slot 5, 19, none, .nilck (.s 4)⟩,
     ⟨.slot 6, 20, none, .fldAddr 1 (.s 5)⟩,
     ⟨.slot 7, 21, none, .load false 1 (.s 6)⟩,
     ⟨.slot 8, 22, none, .ixAddr 1 (.s 3) (.s 7)⟩,
     ⟨.slot 9, 23, none, .load false 1 (.s 8)⟩,
     ⟨.slot 10, 24, none, .conv .i64 (.s 9)⟩,
     ⟨.var 2, 3, none, .mov (.s 10)⟩] [] .skip)
  (.skip)))
 (.seq (.region false [
    ⟨.push, 25, none, .mov (.v 0)⟩,
    ⟨.push, 26, none, .nilck (.s 0)⟩,
    ⟨.push, 27, none, .fldAddr 1 (.s 0)⟩,
    ⟨.push, 28, none, .load false 1 (.s 0)⟩,
    ⟨.push, 29, none, .bin false .add (.s 0) (.c (.int .i64 (1)))⟩,
    ⟨.push, 30, none, .nilck (.s 4)⟩,
    ⟨.push, 31, none, .fldAddr 1 (.s 0)⟩,
    ⟨.no, 0, none, .store 1 (.s 0) (.s 2)⟩])
 (.seq (.region false [
    ⟨.push, 32, none, .mov (.v 0)⟩,
    ⟨.push, 33, none, .mov (.v 0)⟩,
    ⟨.push, 34, none, .nilck (.s 0)⟩,
    ⟨.push, 35, none, .fldAddr 2 (.s 0)⟩,
    ⟨.push, 36, none, .load false 1 (.s 0)⟩,
    ⟨.push, 37, none, .bin false .mul (.s 0) (.c (.int .u64 (6364136223846793005)))⟩,
    ⟨.push, 38, none, .mov (.v 2)⟩,
    ⟨.push, 39, none, .conv .u64 (.s 0)⟩,
    ⟨.push, 40, none, .bin false .add (.s 2) (.s 0)⟩,
    ⟨.push, 41, none, .bin false .add (.s 0) (.c (.int .u64 (1442695040888963407)))⟩,
    ⟨.push, 42, none, .nilck (.s 9)⟩,
    ⟨.push, 43, none, .fldAddr 2 (.s 0)⟩,
    ⟨.no, 0, none, .store 1 (.s 0) (.s 2)⟩])
 (.seq (.anyo 10 [
    ⟨.slot 0, 44, none, .mov (.v 0)⟩,
    ⟨.slot 1, 45, none, .nilck (.s 0)⟩,
    ⟨.slot 2, 46, none, .fldAddr 1 (.s 1)⟩,
    ⟨.slot 3, 47, none, .load false 1 (.s 2)⟩,
    ⟨.slot 4, 48, none, .mov (.v 0)⟩,
    ⟨.slot 5, 49, none, .nilck (.s 4)⟩,
    ⟨.slot 6, 50, none, .fldAddr 0 (.s 5)⟩,
    ⟨.slot 7, 51, none, .load false 1 (.s 6)⟩,
    ⟨.slot 8, 52, none, .len false (.s 7)⟩,
    ⟨.slot 9, 53, none, .bin false .leq (.s 3) (.s 8)⟩] [] (.cond (.s 9)
  (.seq (.region false [
      ⟨.push, 54, none, .mov (.v 2)⟩,
      ⟨.var 1, 2, none, .mov (.s 0)⟩])
   (.ret))
  (.skip)))
 (.seq (.region false [
    ⟨.push, 55, none, .mov (.v 0)⟩,
    ⟨.push, 56, none, .nilck (.s 0)⟩,
    ⟨.push, 57, none, .fldAddr 2 (.s 0)⟩,
    ⟨.push, 58, none, .load false 1 (.s 0)⟩,
    ⟨.push, 59, none, .bin false .shr (.s 0) (.c (.int .u64 (40)))⟩,
    ⟨.push, 60, none, .bin false .and (.s 0) (.c (.int .u64 (255)))⟩,
    ⟨.push, 61, none, .conv .i64 (.s 0)⟩,
    ⟨.var 1, 2, none, .mov (.s 0)⟩])
 (.ret))))))), [.t 1]⟩
noncomputable def t_spec_l00Src_next : List (Nat × Ctr) := []
noncomputable def c_spec_l00Src_next : Ctr := mkN t_spec_l00Src_next ir77 [.io]
theorem s_spec_l00Src_next : Sound Try.prog 77 c_spec_l00Src_next := mkN_sound _ snd_nil (by kernel_rfl : chkFn Try.prog 77 ir77 ir77_v = true)
theorem M_spec_l00Src_next : c_spec_l00Src_next.modes = [.io] := rfl
theorem Fl_spec_l00Src_next : c_spec_l00Src_next.flat = false := rfl
attribute [go_sem] M_spec_l00Src_next Fl_spec_l00Src_next
theorem Fs_spec_l00Src_next {s_ : L00Src} {y_ : Int × L00Src} (h : spec_l00Src_next s_ = some y_) : c_spec_l00Src_next.F [.mem 3 [L00Src_av s_]] = ⟨true, .int .i64 y_.1, [.mem 3 [L00Src_av y_.2]]⟩ := by
  refine mkN_E ?_
  dsimp only [spec_l00Src_next] at h
  rcases it_some h with ⟨hk1, h⟩ | ⟨hk1, h⟩
  · try simp only [go_sem, n1, n2, n3, n4] at hk1
    all_goals
    obtain ⟨hk2, h⟩ := ck_some h
    have lhk2 := ix_lt hk2
    have xhk2 := getD_mapD byteAV s_.code_ lhk2
    try simp only [go_sem] at lhk2
    try simp only [go_sem] at xhk2
    try simp only [go_sem, n1, n2, n3, n4, hk1] at hk2
    all_goals
    rcases it_some h with ⟨hk3, h⟩ | ⟨hk3, h⟩
    · try simp only [go_sem, n1, n2, n3, n4, hk1, hk2] at hk3
      all_goals
      obtain rfl := so_some h
      refine ⟨0, fun L hL => ?_⟩
      simp only [go_sem, ir77, hk1, hk2, lhk2, xhk2, hk3]
    · try simp only [go_sem, n1, n2, n3, n4, hk1, hk2] at hk3
      all_goals
      obtain ⟨hk4, h⟩ := ck_some h
      try simp only [go_sem, n1, n2, n3, n4, hk1, hk2, hk3] at hk4
      all_goals
      obtain rfl := so_some h
      refine ⟨0, fun L hL => ?_⟩
      simp only [go_sem, ir77, hk1, hk2, lhk2, xhk2, hk3, hk4]
  · try simp only [go_sem, n1, n2, n3, n4] at hk1
    all_goals
    rcases it_some h with ⟨hk5, h⟩ | ⟨hk5, h⟩
    · try simp only [go_sem, n1, n2, n3, n4, hk1] at hk5
      all_goals
      obtain rfl := so_some h
      refine ⟨0, fun L hL => ?_⟩
      simp only [go_sem, ir77, hk1, hk5]
    · try simp only [go_sem, n1, n2, n3, n4, hk1] at hk5
      all_goals
      obtain ⟨hk6, h⟩ := ck_some h
      try simp only [go_sem, n1, n2, n3, n4, hk1, hk5] at hk6
      all_goals
      obtain rfl := so_some h
      refine ⟨0, fun L hL => ?_⟩
      simp only [go_sem, ir77, hk1, hk5, hk6]


def ir45_v : List Nat := [0, 1, 4, 5]
def ir45 : AFn := ⟨2, 4, .seq (.region false [
    ⟨.var 2, 4, none, .mov (.c (.int .i64 (0)))⟩])
 (.seq (.test false [
    ⟨.push, 6, none, .mov (.v 1)⟩,
    ⟨.push, 7, none, .bin false .leq (.s 0) (.c (.int .i64 (1)))⟩] (.s 0)
  (.seq (.region false [
      ⟨.var 2, 4, none, .mov (.c (.int .i64 (0)))⟩])
   (.ret))
  (.skip))
 (.seq (.region false [
    ⟨.push, 8, none, .mov (.v 0)⟩,
    ⟨.push, 9, none, .call 77 [(.s 0)]⟩,
    ⟨.var 3, 5, none, .mov (.s 0)⟩])
 (.seq (.test false [
    ⟨.push, 10, none, .mov (.v 1)⟩,
    ⟨.push, 11, none, .bin false .gtr (.s 0) (.c (.int .i64 (200)))⟩] (.s 0)
  (.region false [
     ⟨.push, 12, none, .mov (.v 3)⟩,
     ⟨.push, 13, none, .bin false .mul (.s 0) (.c (.int .i64 (256)))⟩,
     ⟨.push, 14, none, .mov (.v 0)⟩,
     ⟨.push, 15, none, .call 77 [(.s 0)]⟩,
     ⟨.push, 16, none, .bin false .add (.s 2) (.s 0)⟩,
     ⟨.var 3, 5, none, .mov (.s 0)⟩])
  (.skip))
 (.seq (.region false [
    ⟨.push, 17, none, .mov (.v 3)⟩,
    ⟨.push, 18, none, .mov (.v 1)⟩,
    ⟨.push, 19, none, .bin false .rem (.s 1) (.s 0)⟩,
    ⟨.var 2, 4, none, .mov (.s 0)⟩])
 (.ret))))), [.t 2]⟩
noncomputable def t_spec_l00Src_pick : List (Nat × Ctr) := [(77, c_spec_l00Src_next)]
theorem lk_spec_l00Src_pick_77 : look t_spec_l00Src_pick 77 = some c_spec_l00Src_next := rfl
noncomputable def c_spec_l00Src_pick : Ctr := mkN t_spec_l00Src_pick ir45 [.io, .bor]
theorem s_spec_l00Src_pick : Sound Try.prog 45 c_spec_l00Src_pick := mkN_sound _ (snd_cons s_spec_l00Src_next snd_nil) (by kernel_rfl : chkFn Try.prog 45 ir45 ir45_v = true)
theorem M_spec_l00Src_pick : c_spec_l00Src_pick.modes = [.io, .bor] := rfl
theorem Fl_spec_l00Src_pick : c_spec_l00Src_pick.flat = false := rfl
attribute [go_sem] M_spec_l00Src_pick Fl_spec_l00Src_pick
attribute [go_sem] lk_spec_l00Src_pick_77
theorem Fs_spec_l00Src_pick {s_ : L00Src} {n : Int} {y_ : Int × L00Src} (h : spec_l00Src_pick s_ n = some y_) : c_spec_l00Src_pick.F [.mem 3 [L00Src_av s_], .int .i64 n] = ⟨true, .int .i64 y_.1, [.mem 3 [L00Src_av y_.2], .any]⟩ := by
  refine mkN_E ?_
  dsimp only [spec_l00Src_pick] at h
  rcases it_some h with ⟨hk1, h⟩ | ⟨hk1, h⟩
  · try simp only [go_sem, n1, n2, n3, n4] at hk1
    all_goals
    obtain rfl := so_some h
    refine ⟨0, fun L hL => ?_⟩
    simp only [go_sem, ir45, hk1]
  · try simp only [go_sem, n1, n2, n3, n4] at hk1
    all_goals
    obtain ⟨y_2, hk2, h⟩ := bd_some h
    have fhk2 := Fs_spec_l00Src_next hk2
    try simp only [go_sem, hk1] at fhk2
    rcases it_some h with ⟨hk3, h⟩ | ⟨hk3, h⟩
    · try simp only [go_sem, n1, n2, n3, n4, hk1] at hk3
      all_goals
      obtain ⟨y_4, hk4, h⟩ := bd_some h
      have fhk4 := Fs_spec_l00Src_next hk4
      try simp only [go_sem, hk1, hk3] at fhk4
      obtain ⟨hk5, h⟩ := ck_some h
      try simp only [go_sem, n1, n2, n3, n4, hk1, hk3] at hk5
      all_goals
      obtain rfl := so_some h
      refine ⟨0, fun L hL => ?_⟩
      simp only [go_sem, ir45, hk1, fhk2, hk3, fhk4, hk5]
    · try simp only [go_sem, n1, n2, n3, n4, hk1] at hk3
      all_goals
      obtain ⟨hk6, h⟩ := ck_some h
      try simp only [go_sem, n1, n2, n3, n4, hk1, hk3] at hk6
      all_goals
      obtain rfl := so_some h
      refine ⟨0, fun L hL => ?_⟩
      simp only [go_sem, ir45, hk1, fhk2, hk3, hk6]


def ir46_v : List Nat := [0, 1, 4]
def ir46 : AFn := ⟨2, 3, .seq (.region false [
    ⟨.var 2, 4, none, .mov (.c (.bool false))⟩])
 (.seq (.region false [
    ⟨.push, 5, none, .mov (.v 0)⟩,
    ⟨.push, 6, none, .mov (.v 1)⟩,
    ⟨.push, 7, none, .call 45 [(.s 1), (.s 0)]⟩,
    ⟨.push, 8, none, .bin false .eql (.s 0) (.c (.int .i64 (0)))⟩,
    ⟨.var 2, 4, none, .mov (.s 0)⟩])
 (.ret)), [.t 2]⟩
noncomputable def t_spec_l00Src_one : List (Nat × Ctr) := [(45, c_spec_l00Src_pick)]
theorem lk_spec_l00Src_one_45 : look t_spec_l00Src_one 45 = some c_spec_l00Src_pick := rfl
noncomputable def c_spec_l00Src_one : Ctr := mkN t_spec_l00Src_one ir46 [.io, .bor]
theorem s_spec_l00Src_one : Sound Try.prog 46 c_spec_l00Src_one := mkN_sound _ (snd_cons s_spec_l00Src_pick snd_nil) (by kernel_rfl : chkFn Try.prog 46 ir46 ir46_v = true)
theorem M_spec_l00Src_one : c_spec_l00Src_one.modes = [.io, .bor] := rfl
theorem Fl_spec_l00Src_one : c_spec_l00Src_one.flat = false := rfl
attribute [go_sem] M_spec_l00Src_one Fl_spec_l00Src_one
attribute [go_sem] lk_spec_l00Src_one_45
theorem Fs_spec_l00Src_one {s_ : L00Src} {n : Int} {y_ : Bool × L00Src} (h : spec_l00Src_one s_ n = some y_) : c_spec_l00Src_one.F [.mem 3 [L00Src_av s_], .int .i64 n] = ⟨true, .bool y_.1, [.mem 3 [L00Src_av y_.2], .any]⟩ := by
  refine mkN_E ?_
  dsimp only [spec_l00Src_one] at h
  obtain ⟨y_1, hk1, h⟩ := bd_some h
  have fhk1 := Fs_spec_l00Src_pick hk1
  try simp only [go_sem] at fhk1
  obtain rfl := so_some h
  refine ⟨0, fun L hL => ?_⟩
  simp only [go_sem, ir46, fhk1]


def ir47_v : List Nat := [0, 1, 4]
def ir47 : AFn := ⟨2, 3, .seq (.region false [
    ⟨.var 2, 4, none, .mov (.c (.int .i64 (0)))⟩])
 (.seq (.region false [
    ⟨.push, 5, none, .mov (.v 1)⟩,
    ⟨.push, 6, none, .mov (.v 0)⟩,
    ⟨.push, 7, none, .mov (.v 1)⟩,
    ⟨.push, 8, none, .len false (.s 0)⟩,
    ⟨.push, 9, none, .call 45 [(.s 2), (.s 0)]⟩,
    ⟨.push, 10, none, .ixAddr 1 (.s 4) (.s 0)⟩,
    ⟨.push, 11, none, .load false 1 (.s 0)⟩,
    ⟨.var 2, 4, none, .mov (.s 0)⟩])
 (.ret)), [.t 2]⟩
noncomputable def t_spec_l00Src_among : List (Nat × Ctr) := [(45, c_spec_l00Src_pick)]
theorem lk_spec_l00Src_among_45 : look t_spec_l00Src_among 45 = some c_spec_l00Src_pick := rfl
noncomputable def c_spec_l00Src_among : Ctr := mkN t_spec_l00Src_among ir47 [.io, .bor]
theorem s_spec_l00Src_among : Sound Try.prog 47 c_spec_l00Src_among := mkN_sound _ (snd_cons s_spec_l00Src_pick snd_nil) (by kernel_rfl : chkFn Try.prog 47 ir47 ir47_v = true)
theorem M_spec_l00Src_among : c_spec_l00Src_among.modes = [.io, .bor] := rfl
theorem Fl_spec_l00Src_among : c_spec_l00Src_among.flat = false := rfl
attribute [go_sem] M_spec_l00Src_among Fl_spec_l00Src_among
attribute [go_sem] lk_spec_l00Src_among_45
theorem Fs_spec_l00Src_among {s_ : L00Src} {list : List Int} {y_ : Int × L00Src} (h : spec_l00Src_among s_ list = some y_) : c_spec_l00Src_among.F [.mem 3 [L00Src_av s_], .sl 1 (List.map (AV.int .i64) list)] = ⟨true, .int .i64 y_.1, [.mem 3 [L00Src_av y_.2], .any]⟩ := by
  refine mkN_E ?_
  dsimp only [spec_l00Src_among] at h
  obtain ⟨y_1, hk1, h⟩ := bd_some h
  have fhk1 := Fs_spec_l00Src_pick hk1
  try simp only [go_sem] at fhk1
  obtain ⟨hk2, h⟩ := ck_some h
  have lhk2 := ix_lt hk2
  have xhk2 := getD_mapD (AV.int .i64) list lhk2
  try simp only [go_sem] at lhk2
  try simp only [go_sem] at xhk2
  try simp only [go_sem, n1, n2, n3, n4] at hk2
  all_goals
  obtain rfl := so_some h
  refine ⟨0, fun L hL => ?_⟩
  simp only [go_sem, ir47, fhk1, hk2, lhk2, xhk2]


def ir23_v : List Nat := [0, 2, 3, 4]
def ir23 : AFn := ⟨1, 4, .seq (.region false [
    ⟨.var 1, 2, none, .mov (.c (.int .i64 (0)))⟩])
 (.seq (.region false [
    ⟨.push, 5, none, .mov (.v 0)⟩,
    ⟨.push, 6, none, .call 44 [(.s 0)]⟩,
    ⟨.var 2, 3, none, .mov (.s 0)⟩])
 (.seq (.test false [
    ⟨.push, 7, none, .mov (.v 2)⟩,
    ⟨.push, 8, none, .call 46 [(.s 0), (.c (.int .i64 (8)))]⟩] (.s 0)
  (.seq (.region false [
      ⟨.push, 9, none, .mov (.v 2)⟩,
      ⟨.push, 10, none, .mkSl 1 (.int .i64 (0)) 8 [(0, (.c (.int .i64 (-1)))), (1, (.c (.int .i64 (0)))), (2, (.c (.int .i64 (127)))), (3, (.c (.int .i64 (128)))), (4, (.c (.int .i64 (16383)))), (5, (.c (.int .i64 (16384)))), (6, (.c (.int .i64 (-9223372036854775808)))), (7, (.c (.int .i64 (9223372036854775807))))]⟩,
      ⟨.push, 11, none, .call 47 [(.s 1), (.s 0)]⟩,
      ⟨.var 1, 2, none, .mov (.s 0)⟩])
   (.ret))
  (.skip))
 (.seq (.region false [
    ⟨.push, 12, none, .mov (.v 2)⟩,
    ⟨.push, 13, none, .call 45 [(.s 0), (.c (.int .i64 (1000)))]⟩,
    ⟨.var 3, 4, none, .mov (.s 0)⟩])
 (.seq (.region false [
    ⟨.push, 14, none, .mov (.v 3)⟩,
    ⟨.push, 15, none, .mov (.v 2)⟩,
    ⟨.push, 16, none, .call 45 [(.s 0), (.c (.int .i64 (1000)))]⟩,
    ⟨.push, 17, none, .bin false .add (.c (.int .i64 (1))) (.s 0)⟩,
    ⟨.push, 18, none, .bin false .mul (.s 3) (.s 0)⟩,
    ⟨.var 1, 2, none, .mov (.s 0)⟩])
 (.ret))))), [.t 1]⟩
noncomputable def t_spec_DrawNumberBytes : List (Nat × Ctr) := [(44, c_spec_l00From), (46, c_spec_l00Src_one), (47, c_spec_l00Src_among), (45, c_spec_l00Src_pick)]
theorem lk_spec_DrawNumberBytes_44 : look t_spec_DrawNumberBytes 44 = some c_spec_l00From := rfl
theorem lk_spec_DrawNumberBytes_46 : look t_spec_DrawNumberBytes 46 = some c_spec_l00Src_one := rfl
theorem lk_spec_DrawNumberBytes_47 : look t_spec_DrawNumberBytes 47 = some c_spec_l00Src_among := rfl
theorem lk_spec_DrawNumberBytes_45 : look t_spec_DrawNumberBytes 45 = some c_spec_l00Src_pick := rfl
noncomputable def c_spec_DrawNumberBytes : Ctr := mkF t_spec_DrawNumberBytes ir23 [.bor]
theorem s_spec_DrawNumberBytes : Sound Try.prog 23 c_spec_DrawNumberBytes := mkF_sound _ rfl (snd_cons s_spec_l00From (snd_cons s_spec_l00Src_one (snd_cons s_spec_l00Src_among (snd_cons s_spec_l00Src_pick snd_nil)))) (by kernel_rfl : chkFn Try.prog 23 ir23 ir23_v = true)
theorem M_spec_DrawNumberBytes : c_spec_DrawNumberBytes.modes = [.bor] := rfl
theorem Fl_spec_DrawNumberBytes : c_spec_DrawNumberBytes.flat = true := rfl
attribute [go_sem] M_spec_DrawNumberBytes Fl_spec_DrawNumberBytes
attribute [go_sem] lk_spec_DrawNumberBytes_44 lk_spec_DrawNumberBytes_46 lk_spec_DrawNumberBytes_47 lk_spec_DrawNumberBytes_45
theorem Fs_spec_DrawNumberBytes {code : List UInt8} {y_ : Int} (h : spec_DrawNumberBytes code = some y_) : c_spec_DrawNumberBytes.F [.sl 1 (List.map byteAV code)] = ⟨true, .int .i64 y_, [.any]⟩ := by
  refine mkF_E rfl ?_
  dsimp only [spec_DrawNumberBytes] at h
  obtain ⟨y_1, hk1, h⟩ := bd_some h
  have fhk1 := Fs_spec_l00From hk1
  try simp only [go_sem] at fhk1
  obtain ⟨y_2, hk2, h⟩ := bd_some h
  have fhk2 := Fs_spec_l00Src_one hk2
  try simp only [go_sem] at fhk2
  rcases it_some h with ⟨hk3, h⟩ | ⟨hk3, h⟩
  · try simp only [go_sem, n1, n2, n3, n4] at hk3
    all_goals
    obtain ⟨y_4, hk4, h⟩ := bd_some h
    have fhk4 := Fs_spec_l00Src_among hk4
    try simp only [go_sem, hk3] at fhk4
    obtain rfl := so_some h
    refine ⟨0, fun L hL => ?_⟩
    simp only [go_sem, ir23, fhk1, fhk2, hk3, fhk4]
  · try simp only [go_sem, n1, n2, n3, n4] at hk3
    all_goals
    obtain ⟨y_5, hk5, h⟩ := bd_some h
    have fhk5 := Fs_spec_l00Src_pick hk5
    try simp only [go_sem, hk3] at fhk5
    obtain ⟨y_6, hk6, h⟩ := bd_some h
    have fhk6 := Fs_spec_l00Src_pick hk6
    try simp only [go_sem, hk3] at fhk6
    obtain rfl := so_some h
    refine ⟨0, fun L hL => ?_⟩
    simp only [go_sem, ir23, fhk1, fhk2, hk3, fhk5, fhk6]


def ir64_b0 : IR := .seq (.test false [
    ⟨.push, 5, none, .mov (.v 1)⟩,
    ⟨.push, 6, none, .bin false .geq (.s 0) (.c (.int .i64 (128)))⟩] (.s 0)
  (.skip)
  (.exit 0))
 (.seq (.block 1 (.region false [
     ⟨.push, 9, none, .mov (.v 0)⟩,
     ⟨.push, 10, none, .mov (.v 1)⟩,
     ⟨.push, 11, none, .bin false .rem (.s 0) (.c (.int .i64 (128)))⟩,
     ⟨.push, 12, none, .bin false .add (.s 0) (.c (.int .i64 (128)))⟩,
     ⟨.push, 13, none, .conv .u8 (.s 0)⟩,
     ⟨.push, 14, none, .mkSl 1 (.int .u8 (0)) 1 [(0, (.s 0))]⟩,
     ⟨.push, 15, none, .app 1 1 (.int .u8 (0)) (.s 5) (.s 0)⟩,
     ⟨.var 0, 0, none, .mov (.s 0)⟩]))
 (.region false [
   ⟨.push, 7, none, .mov (.v 1)⟩,
   ⟨.push, 8, none, .bin false .quo (.s 0) (.c (.int .i64 (128)))⟩,
   ⟨.var 1, 1, none, .mov (.s 0)⟩]))
def ir64_k0 : List Bool := [true, true, false]
def ir64_o0 : List Bool := [true, true, false]
def ir64_r0 : List Bool := [false, false, true]
def ir64_v : List Nat := [0, 1, 4]
def ir64 : AFn := ⟨2, 3, .seq (.region false [
    ⟨.var 2, 4, none, .newnil 1⟩])
 (.seq (.block 0 (.loop ir64_k0 ir64_o0 ir64_r0 ir64_b0))
 (.seq (.region false [
    ⟨.push, 16, none, .mov (.v 0)⟩,
    ⟨.push, 17, none, .mov (.v 1)⟩,
    ⟨.push, 18, none, .conv .u8 (.s 0)⟩,
    ⟨.push, 19, none, .mkSl 1 (.int .u8 (0)) 1 [(0, (.s 0))]⟩,
    ⟨.push, 20, none, .app 1 1 (.int .u8 (0)) (.s 3) (.s 0)⟩,
    ⟨.var 2, 4, none, .mov (.s 0)⟩])
 (.ret))), [.t 2]⟩
noncomputable def t_impl_appendNumber : List (Nat × Ctr) := []
noncomputable def c_impl_appendNumber : Ctr := mkF t_impl_appendNumber ir64 [.mov, .bor]
theorem s_impl_appendNumber : Sound Try.prog 64 c_impl_appendNumber := mkF_sound _ rfl snd_nil (by kernel_rfl : chkFn Try.prog 64 ir64 ir64_v = true)
theorem M_impl_appendNumber : c_impl_appendNumber.modes = [.mov, .bor] := rfl
theorem Fl_impl_appendNumber : c_impl_appendNumber.flat = true := rfl
attribute [go_sem] M_impl_appendNumber Fl_impl_appendNumber
def E_impl_appendNumber_l1  : ((List UInt8) × Int) → St
  | (b, n) => ⟨[.own 31, .int .i64 n, .any], [], [(31, ⟨1, List.map byteAV b⟩)], true⟩
def R_impl_appendNumber_l1  (y : (List UInt8) × Int) : Res := (.exit 0, ⟨[.own 31, .int .i64 y.2, .any], [], [(31, ⟨1, List.map byteAV y.1⟩)], true⟩)
theorem impl_appendNumber_l1_ex  {sgm_ : (List UInt8) × Int} {rho_ : (List UInt8) × Int} (h : whileE (impl_appendNumber_l1) sgm_ = some rho_) : ∃ L0, ∀ L, L0 ≤ L → iter (exec (look t_impl_appendNumber) L ir64_b0) ir64_k0 ir64_o0 ir64_r0 L (E_impl_appendNumber_l1 sgm_) = R_impl_appendNumber_l1 rho_ := by
  refine loop_ex (E := E_impl_appendNumber_l1) (R := R_impl_appendNumber_l1) (fun y => by first | (intro c; cases c) | (rcases y with y | y <;> (intro c; cases c)) | (rcases y with y | y | y <;> (intro c; cases c))) ?_ h
  clear h
  rintro ⟨b, n⟩ o_ h
  dsimp only [impl_appendNumber_l1] at h
  rcases it_some h with ⟨hk1, h⟩ | ⟨hk1, h⟩
  · try simp only [go_sem, n1, n2, n3, n4] at hk1
    all_goals
    obtain ⟨hk2, h⟩ := ck_some h
    try simp only [go_sem, n1, n2, n3, n4, hk1] at hk2
    all_goals
    obtain ⟨hk3, h⟩ := ck_some h
    try simp only [go_sem, n1, n2, n3, n4, hk1, hk2] at hk3
    all_goals
    obtain rfl := so_some h
    refine ⟨0, fun L hL => ?_⟩
    simp only [go_sem, ir64, E_impl_appendNumber_l1, R_impl_appendNumber_l1, ir64_b0, ir64_k0, ir64_o0, ir64_r0, hk1, hk2, hk3]
  · try simp only [go_sem, n1, n2, n3, n4] at hk1
    all_goals
    obtain rfl := so_some h
    refine ⟨0, fun L hL => ?_⟩
    simp only [go_sem, ir64, E_impl_appendNumber_l1, R_impl_appendNumber_l1, ir64_b0, ir64_k0, ir64_o0, ir64_r0, hk1]

theorem Fs_impl_appendNumber {b : List UInt8} {n : Int} {y_ : (List UInt8)} (h : impl_appendNumber b n = some y_) : c_impl_appendNumber.F [.fresh 1 (List.map byteAV b), .int .i64 n] = ⟨true, .fresh 1 (List.map byteAV y_), [.any, .any]⟩ := by
  refine mkF_E (by simp only [flatA, flatB, flat1, List.all_cons, List.all_nil, Bool.and_self, flatE_map (f := byteAV) (fun _ => rfl)]) ?_
  dsimp only [impl_appendNumber] at h
  obtain ⟨y_4, hk4, h⟩ := bd_some h
  obtain ⟨Lhk4, ehk4⟩ := impl_appendNumber_l1_ex hk4
  obtain ⟨hk5, h⟩ := ck_some h
  try simp only [go_sem, n1, n2, n3, n4] at hk5
  all_goals
  obtain rfl := so_some h
  refine ⟨Lhk4, fun L hL => ?_⟩
  have ehk4 := ehk4 L (by omega)
  try simp only [go_sem, E_impl_appendNumber_l1, R_impl_appendNumber_l1, ir64_k0, ir64_o0, ir64_r0, hk5] at ehk4
  simp only [go_sem, ir64, E_impl_appendNumber_l1, R_impl_appendNumber_l1, ir64_k0, ir64_o0, ir64_r0, hk5, ehk4]


def ir24_v : List Nat := [0, 2, 3]
def ir24 : AFn := ⟨1, 3, .seq (.region false [
    ⟨.var 1, 2, none, .newnil 1⟩,
    ⟨.var 2, 3, none, .mov (.c (.int .i64 (0)))⟩])
 (.seq (.test false [
    ⟨.push, 4, none, .mov (.v 0)⟩,
    ⟨.push, 5, none, .bin false .lss (.s 0) (.c (.int .i64 (0)))⟩] (.s 0)
  (.seq (.region false [
      ⟨.var 1, 2, none, .newnil 1⟩,
      ⟨.var 2, 3, none, .mov (.c (.int .i64 (2)))⟩])
   (.ret))
  (.skip))
 (.seq (.region false [
    ⟨.push, 6, none, .mkSl 1 (.int .u8 (0)) 0 []⟩,
    ⟨.push, 7, none, .mov (.v 0)⟩,
    ⟨.push, 8, none, .call 64 [(.s 1), (.s 0)]⟩,
    ⟨.var 1, 2, none, .mov (.s 0)⟩,
    ⟨.var 2, 3, none, .mov (.c (.int .i64 (0)))⟩])
 (.ret))), [.t 1, .t 2]⟩
noncomputable def t_impl_NumberBytes : List (Nat × Ctr) := [(64, c_impl_appendNumber)]
theorem lk_impl_NumberBytes_64 : look t_impl_NumberBytes 64 = some c_impl_appendNumber := rfl
noncomputable def c_impl_NumberBytes : Ctr := mkF t_impl_NumberBytes ir24 [.bor]
theorem s_impl_NumberBytes : Sound Try.prog 24 c_impl_NumberBytes := mkF_sound _ rfl (snd_cons s_impl_appendNumber snd_nil) (by kernel_rfl : chkFn Try.prog 24 ir24 ir24_v = true)
theorem M_impl_NumberBytes : c_impl_NumberBytes.modes = [.bor] := rfl
theorem Fl_impl_NumberBytes : c_impl_NumberBytes.flat = true := rfl
attribute [go_sem] M_impl_NumberBytes Fl_impl_NumberBytes
attribute [go_sem] lk_impl_NumberBytes_64
theorem Fs_impl_NumberBytes {n : Int} {y_ : (List UInt8) × Int} (h : impl_NumberBytes n = some y_) : c_impl_NumberBytes.F [.int .i64 n] = ⟨true, .tup [.fresh 1 (List.map byteAV y_.1), .int .i64 y_.2], [.any]⟩ := by
  refine mkF_E (by simp only [flatA, flatB, flat1, List.all_cons, List.all_nil, Bool.and_self, flatE_map (f := byteAV) (fun _ => rfl)]) ?_
  dsimp only [impl_NumberBytes] at h
  rcases it_some h with ⟨hk1, h⟩ | ⟨hk1, h⟩
  · try simp only [go_sem, n1, n2, n3, n4] at hk1
    all_goals
    obtain rfl := so_some h
    refine ⟨0, fun L hL => ?_⟩
    simp only [go_sem, ir24, hk1]
  · try simp only [go_sem, n1, n2, n3, n4] at hk1
    all_goals
    obtain ⟨y_2, hk2, h⟩ := bd_some h
    have fhk2 := Fs_impl_appendNumber hk2
    try simp only [go_sem, hk1] at fhk2
    obtain rfl := so_some h
    refine ⟨0, fun L hL => ?_⟩
    simp only [go_sem, ir24, hk1, fhk2]


def ir65_b0 : IR := .seq (.test false [
    ⟨.push, 5, none, .mov (.v 0)⟩,
    ⟨.push, 6, none, .bin false .geq (.s 0) (.c (.int .i64 (128)))⟩] (.s 0)
  (.skip)
  (.exit 0))
 (.block 1 (.seq (.region false [
     ⟨.push, 7, none, .mov (.v 2)⟩,
     ⟨.push, 8, none, .mov (.v 0)⟩,
     ⟨.push, 9, none, .bin false .rem (.s 0) (.c (.int .i64 (128)))⟩,
     ⟨.push, 10, none, .bin false .add (.s 0) (.c (.int .i64 (128)))⟩,
     ⟨.push, 11, none, .conv .u8 (.s 0)⟩,
     ⟨.push, 12, none, .mkSl 1 (.int .u8 (0)) 1 [(0, (.s 0))]⟩,
     ⟨.push, 13, none, .app 1 1 (.int .u8 (0)) (.s 5) (.s 0)⟩,
     ⟨.var 2, 3, none, .mov (.s 0)⟩])
  (.region false [
    ⟨.push, 14, none, .mov (.v 0)⟩,
    ⟨.push, 15, none, .bin false .quo (.s 0) (.c (.int .i64 (128)))⟩,
    ⟨.var 0, 0, none, .mov (.s 0)⟩])))
def ir65_k0 : List Bool := [true, false, true]
def ir65_o0 : List Bool := [true, false, true]
def ir65_r0 : List Bool := [false, true, false]
def ir65_v : List Nat := [0, 2, 3]
def ir65 : AFn := ⟨1, 3, .seq (.region false [
    ⟨.var 1, 2, none, .newnil 1⟩])
 (.seq (.region false [
    ⟨.push, 4, none, .mkSl 1 (.int .u8 (0)) 0 []⟩,
    ⟨.var 2, 3, none, .mov (.s 0)⟩])
 (.seq (.block 0 (.loop ir65_k0 ir65_o0 ir65_r0 ir65_b0))
 (.seq (.region false [
    ⟨.push, 16, none, .mov (.v 2)⟩,
    ⟨.push, 17, none, .mov (.v 0)⟩,
    ⟨.push, 18, none, .conv .u8 (.s 0)⟩,
    ⟨.push, 19, none, .mkSl 1 (.int .u8 (0)) 1 [(0, (.s 0))]⟩,
    ⟨.push, 20, none, .app 1 1 (.int .u8 (0)) (.s 3) (.s 0)⟩,
    ⟨.var 1, 2, none, .mov (.s 0)⟩])
 (.ret)))), [.t 1]⟩
noncomputable def t_spec_l25Number : List (Nat × Ctr) := []
noncomputable def c_spec_l25Number : Ctr := mkF t_spec_l25Number ir65 [.bor]
theorem s_spec_l25Number : Sound Try.prog 65 c_spec_l25Number := mkF_sound _ rfl snd_nil (by kernel_rfl : chkFn Try.prog 65 ir65 ir65_v = true)
theorem M_spec_l25Number : c_spec_l25Number.modes = [.bor] := rfl
theorem Fl_spec_l25Number : c_spec_l25Number.flat = true := rfl
attribute [go_sem] M_spec_l25Number Fl_spec_l25Number
def E_spec_l25Number_l1  : (Int × (List UInt8)) → St
  | (n, out) => ⟨[.int .i64 n, .any, .own 3200000], [], [(3200000, ⟨1, List.map byteAV out⟩)], true⟩
def R_spec_l25Number_l1  (y : Int × (List UInt8)) : Res := (.exit 0, ⟨[.int .i64 y.1, .any, .own 3200000], [], [(3200000, ⟨1, List.map byteAV y.2⟩)], true⟩)
theorem spec_l25Number_l1_ex  {sgm_ : Int × (List UInt8)} {rho_ : Int × (List UInt8)} (h : whileE (spec_l25Number_l1) sgm_ = some rho_) : ∃ L0, ∀ L, L0 ≤ L → iter (exec (look t_spec_l25Number) L ir65_b0) ir65_k0 ir65_o0 ir65_r0 L (E_spec_l25Number_l1 sgm_) = R_spec_l25Number_l1 rho_ := by
  refine loop_ex (E := E_spec_l25Number_l1) (R := R_spec_l25Number_l1) (fun y => by first | (intro c; cases c) | (rcases y with y | y <;> (intro c; cases c)) | (rcases y with y | y | y <;> (intro c; cases c))) ?_ h
  clear h
  rintro ⟨n, out⟩ o_ h
  dsimp only [spec_l25Number_l1] at h
  rcases it_some h with ⟨hk1, h⟩ | ⟨hk1, h⟩
  · try simp only [go_sem, n1, n2, n3, n4] at hk1
    all_goals
    obtain ⟨hk2, h⟩ := ck_some h
    try simp only [go_sem, n1, n2, n3, n4, hk1] at hk2
    all_goals
    obtain ⟨hk3, h⟩ := ck_some h
    try simp only [go_sem, n1, n2, n3, n4, hk1, hk2] at hk3
    all_goals
    obtain rfl := so_some h
    refine ⟨0, fun L hL => ?_⟩
    simp only [go_sem, ir65, E_spec_l25Number_l1, R_spec_l25Number_l1, ir65_b0, ir65_k0, ir65_o0, ir65_r0, hk1, hk2, hk3]
  · try simp only [go_sem, n1, n2, n3, n4] at hk1
    all_goals
    obtain rfl := so_some h
    refine ⟨0, fun L hL => ?_⟩
    simp only [go_sem, ir65, E_spec_l25Number_l1, R_spec_l25Number_l1, ir65_b0, ir65_k0, ir65_o0, ir65_r0, hk1]

theorem Fs_spec_l25Number {n : Int} {y_ : (List UInt8)} (h : spec_l25Number n = some y_) : c_spec_l25Number.F [.int .i64 n] = ⟨true, .fresh 1 (List.map byteAV y_), [.any]⟩ := by
  refine mkF_E (by simp only [flatA, flatB, flat1, List.all_cons, List.all_nil, Bool.and_self, flatE_map (f := byteAV) (fun _ => rfl)]) ?_
  dsimp only [spec_l25Number] at h
  obtain ⟨y_4, hk4, h⟩ := bd_some h
  obtain ⟨Lhk4, ehk4⟩ := spec_l25Number_l1_ex hk4
  obtain ⟨hk5, h⟩ := ck_some h
  try simp only [go_sem, n1, n2, n3, n4] at hk5
  all_goals
  obtain rfl := so_some h
  refine ⟨Lhk4, fun L hL => ?_⟩
  have ehk4 := ehk4 L (by omega)
  try simp only [go_sem, E_spec_l25Number_l1, R_spec_l25Number_l1, ir65_k0, ir65_o0, ir65_r0, hk5] at ehk4
  simp only [go_sem, ir65, E_spec_l25Number_l1, R_spec_l25Number_l1, ir65_k0, ir65_o0, ir65_r0, hk5, ehk4]


def ir25_v : List Nat := [0, 2, 3]
def ir25 : AFn := ⟨1, 3, .seq (.region false [
    ⟨.var 1, 2, none, .newnil 1⟩,
    ⟨.var 2, 3, none, .mov (.c (.int .i64 (0)))⟩])
 (.seq (.test false [
    ⟨.push, 4, none, .mov (.v 0)⟩,
    ⟨.push, 5, none, .bin false .lss (.s 0) (.c (.int .i64 (0)))⟩] (.s 0)
  (.seq (.region false [
      ⟨.var 1, 2, none, .newnil 1⟩,
      ⟨.var 2, 3, none, .mov (.c (.int .i64 (2)))⟩])
   (.ret))
  (.skip))
 (.seq (.region false [
    ⟨.push, 6, none, .mov (.v 0)⟩,
    ⟨.push, 7, none, .call 65 [(.s 0)]⟩,
    ⟨.var 1, 2, none, .mov (.s 0)⟩,
    ⟨.var 2, 3, none, .mov (.c (.int .i64 (0)))⟩])
 (.ret))), [.t 1, .t 2]⟩
noncomputable def t_spec_NumberBytes : List (Nat × Ctr) := [(65, c_spec_l25Number)]
theorem lk_spec_NumberBytes_65 : look t_spec_NumberBytes 65 = some c_spec_l25Number := rfl
noncomputable def c_spec_NumberBytes : Ctr := mkF t_spec_NumberBytes ir25 [.bor]
theorem s_spec_NumberBytes : Sound Try.prog 25 c_spec_NumberBytes := mkF_sound _ rfl (snd_cons s_spec_l25Number snd_nil) (by kernel_rfl : chkFn Try.prog 25 ir25 ir25_v = true)
theorem M_spec_NumberBytes : c_spec_NumberBytes.modes = [.bor] := rfl
theorem Fl_spec_NumberBytes : c_spec_NumberBytes.flat = true := rfl
attribute [go_sem] M_spec_NumberBytes Fl_spec_NumberBytes
attribute [go_sem] lk_spec_NumberBytes_65
theorem Fs_spec_NumberBytes {n : Int} {y_ : (List UInt8) × Int} (h : spec_NumberBytes n = some y_) : c_spec_NumberBytes.F [.int .i64 n] = ⟨true, .tup [.fresh 1 (List.map byteAV y_.1), .int .i64 y_.2], [.any]⟩ := by
  refine mkF_E (by simp only [flatA, flatB, flat1, List.all_cons, List.all_nil, Bool.and_self, flatE_map (f := byteAV) (fun _ => rfl)]) ?_
  dsimp only [spec_NumberBytes] at h
  rcases it_some h with ⟨hk1, h⟩ | ⟨hk1, h⟩
  · try simp only [go_sem, n1, n2, n3, n4] at hk1
    all_goals
    obtain rfl := so_some h
    refine ⟨0, fun L hL => ?_⟩
    simp only [go_sem, ir25, hk1]
  · try simp only [go_sem, n1, n2, n3, n4] at hk1
    all_goals
    obtain ⟨y_2, hk2, h⟩ := bd_some h
    have fhk2 := Fs_spec_l25Number hk2
    try simp only [go_sem, hk1] at fhk2
    obtain rfl := so_some h
    refine ⟨0, fun L hL => ?_⟩
    simp only [go_sem, ir25, hk1, fhk2]


def ir66_b0 : IR := .seq (.test false [
    ⟨.push, 8, none, .mov (.v 3)⟩,
    ⟨.push, 9, none, .bin false .gtr (.s 0) (.c (.int .i64 (0)))⟩] (.s 0)
  (.skip)
  (.exit 0))
 (.seq (.block 1 (.region false [
     ⟨.push, 12, none, .mov (.v 2)⟩,
     ⟨.push, 13, none, .mov (.v 0)⟩,
     ⟨.push, 14, none, .call 45 [(.s 0), (.c (.int .i64 (256)))]⟩,
     ⟨.push, 15, none, .conv .u8 (.s 0)⟩,
     ⟨.push, 16, none, .mkSl 1 (.int .u8 (0)) 1 [(0, (.s 0))]⟩,
     ⟨.push, 17, none, .app 1 1 (.int .u8 (0)) (.s 4) (.s 0)⟩,
     ⟨.var 2, 3, none, .mov (.s 0)⟩]))
 (.region false [
   ⟨.push, 10, none, .mov (.v 3)⟩,
   ⟨.push, 11, none, .bin false .sub (.s 0) (.c (.int .i64 (1)))⟩,
   ⟨.var 3, 4, none, .mov (.s 0)⟩]))
def ir66_k0 : List Bool := [true, false, true, true]
def ir66_o0 : List Bool := [true, false, true, false]
def ir66_r0 : List Bool := [true, true, false, false]
def ir66_v : List Nat := [0, 2, 3, 4]
def ir66 : AFn := ⟨1, 4, .seq (.region false [
    ⟨.var 1, 2, none, .newnil 1⟩])
 (.seq (.region false [
    ⟨.push, 5, none, .mkSl 1 (.int .u8 (0)) 0 []⟩,
    ⟨.var 2, 3, none, .mov (.s 0)⟩])
 (.seq (.seq (.region false [
     ⟨.push, 6, none, .mov (.v 0)⟩,
     ⟨.push, 7, none, .call 45 [(.s 0), (.c (.int .i64 (12)))]⟩,
     ⟨.var 3, 4, none, .mov (.s 0)⟩])
  (.block 0 (.loop ir66_k0 ir66_o0 ir66_r0 ir66_b0)))
 (.seq (.region false [
    ⟨.push, 18, none, .mov (.v 2)⟩,
    ⟨.var 1, 2, none, .mov (.s 0)⟩])
 (.ret)))), [.t 1]⟩
noncomputable def t_spec_l25Bytes : List (Nat × Ctr) := [(45, c_spec_l00Src_pick)]
theorem lk_spec_l25Bytes_45 : look t_spec_l25Bytes 45 = some c_spec_l00Src_pick := rfl
noncomputable def c_spec_l25Bytes : Ctr := mkN t_spec_l25Bytes ir66 [.io]
theorem s_spec_l25Bytes : Sound Try.prog 66 c_spec_l25Bytes := mkN_sound _ (snd_cons s_spec_l00Src_pick snd_nil) (by kernel_rfl : chkFn Try.prog 66 ir66 ir66_v = true)
theorem M_spec_l25Bytes : c_spec_l25Bytes.modes = [.io] := rfl
theorem Fl_spec_l25Bytes : c_spec_l25Bytes.flat = false := rfl
attribute [go_sem] M_spec_l25Bytes Fl_spec_l25Bytes
attribute [go_sem] lk_spec_l25Bytes_45
def E_spec_l25Bytes_l1  : (L00Src × (List UInt8) × Int) → St
  | (s_, out, k) => ⟨[.ref 31 0 0, .any, .own 3200032, .int .i64 k], [], [(31, ⟨3, [L00Src_av s_]⟩), (3200032, ⟨1, List.map byteAV out⟩)], true⟩
def R_spec_l25Bytes_l1  (y : L00Src × (List UInt8)) : Res := (.exit 0, ⟨[.ref 31 0 0, .any, .own 3200032, .any], [], [(31, ⟨3, [L00Src_av y.1]⟩), (3200032, ⟨1, List.map byteAV y.2⟩)], true⟩)
theorem spec_l25Bytes_l1_ex  {sgm_ : L00Src × (List UInt8) × Int} {rho_ : L00Src × (List UInt8)} (h : whileE (spec_l25Bytes_l1) sgm_ = some rho_) : ∃ L0, ∀ L, L0 ≤ L → iter (exec (look t_spec_l25Bytes) L ir66_b0) ir66_k0 ir66_o0 ir66_r0 L (E_spec_l25Bytes_l1 sgm_) = R_spec_l25Bytes_l1 rho_ := by
  refine loop_ex (E := E_spec_l25Bytes_l1) (R := R_spec_l25Bytes_l1) (fun y => by first | (intro c; cases c) | (rcases y with y | y <;> (intro c; cases c)) | (rcases y with y | y | y <;> (intro c; cases c))) ?_ h
  clear h
  rintro ⟨s_, out, k⟩ o_ h
  dsimp only [spec_l25Bytes_l1] at h
  rcases it_some h with ⟨hk2, h⟩ | ⟨hk2, h⟩
  · try simp only [go_sem, n1, n2, n3, n4] at hk2
    all_goals
    obtain ⟨y_3, hk3, h⟩ := bd_some h
    have fhk3 := Fs_spec_l00Src_pick hk3
    try simp only [go_sem, hk2] at fhk3
    obtain ⟨hk4, h⟩ := ck_some h
    try simp only [go_sem, n1, n2, n3, n4, hk2] at hk4
    all_goals
    obtain rfl := so_some h
    refine ⟨0, fun L hL => ?_⟩
    simp only [go_sem, ir66, E_spec_l25Bytes_l1, R_spec_l25Bytes_l1, ir66_b0, ir66_k0, ir66_o0, ir66_r0, hk2, fhk3, hk4]
  · try simp only [go_sem, n1, n2, n3, n4] at hk2
    all_goals
    obtain rfl := so_some h
    refine ⟨0, fun L hL => ?_⟩
    simp only [go_sem, ir66, E_spec_l25Bytes_l1, R_spec_l25Bytes_l1, ir66_b0, ir66_k0, ir66_o0, ir66_r0, hk2]

theorem Fs_spec_l25Bytes {s_ : L00Src} {y_ : (List UInt8) × L00Src} (h : spec_l25Bytes s_ = some y_) : c_spec_l25Bytes.F [.mem 3 [L00Src_av s_]] = ⟨true, .fresh 1 (List.map byteAV y_.1), [.mem 3 [L00Src_av y_.2]]⟩ := by
  refine mkN_E ?_
  dsimp only [spec_l25Bytes] at h
  obtain ⟨y_1, hk1, h⟩ := bd_some h
  have fhk1 := Fs_spec_l00Src_pick hk1
  try simp only [go_sem] at fhk1
  obtain ⟨y_5, hk5, h⟩ := bd_some h
  obtain ⟨Lhk5, ehk5⟩ := spec_l25Bytes_l1_ex hk5
  obtain rfl := so_some h
  refine ⟨Lhk5, fun L hL => ?_⟩
  have ehk5 := ehk5 L (by omega)
  try simp only [go_sem, E_spec_l25Bytes_l1, R_spec_l25Bytes_l1, ir66_k0, ir66_o0, ir66_r0] at ehk5
  simp only [go_sem, ir66, E_spec_l25Bytes_l1, R_spec_l25Bytes_l1, ir66_k0, ir66_o0, ir66_r0, fhk1, ehk5]


def ir26_v : List Nat := [0, 2, 3, 4, 8]
def ir26 : AFn := ⟨1, 5, .seq (.region false [
    ⟨.var 1, 2, none, .newnil 1⟩])
 (.seq (.region false [
    ⟨.push, 5, none, .mov (.v 0)⟩,
    ⟨.push, 6, none, .call 44 [(.s 0)]⟩,
    ⟨.var 2, 3, none, .mov (.s 0)⟩])
 (.seq (.seq (.region false [
     ⟨.push, 7, none, .mov (.v 2)⟩,
     ⟨.var 4, 8, none, .call 45 [(.s 0), (.c (.int .i64 (3)))]⟩])
  (.block 0 (.test false [
     ⟨.push, 10, none, .bin false .eql (.v 4) (.c (.int .i64 (0)))⟩,
     ⟨.push, 9, none, .mov (.s 0)⟩] (.s 0)
   (.seq (.region false [
       ⟨.push, 11, none, .mov (.v 2)⟩,
       ⟨.push, 12, none, .call 66 [(.s 0)]⟩,
       ⟨.var 1, 2, none, .mov (.s 0)⟩])
    (.ret))
   (.test false [
      ⟨.push, 14, none, .bin false .eql (.v 4) (.c (.int .i64 (1)))⟩,
      ⟨.push, 13, none, .mov (.s 0)⟩] (.s 0)
    (.seq (.region false [
        ⟨.push, 15, none, .mov (.v 2)⟩,
        ⟨.push, 16, none, .call 45 [(.s 0), (.c (.int .i64 (256)))]⟩,
        ⟨.push, 17, none, .conv .u8 (.s 0)⟩,
        ⟨.push, 18, none, .mkSl 1 (.int .u8 (0)) 9 [(0, (.c (.int .u8 (255)))), (1, (.c (.int .u8 (255)))), (2, (.c (.int .u8 (255)))), (3, (.c (.int .u8 (255)))), (4, (.c (.int .u8 (255)))), (5, (.c (.int .u8 (255)))), (6, (.c (.int .u8 (255)))), (7, (.c (.int .u8 (255)))), (8, (.s 0))]⟩,
        ⟨.var 1, 2, none, .mov (.s 0)⟩])
     (.ret))
    (.skip)))))
 (.seq (.region false [
    ⟨.push, 19, none, .mov (.v 2)⟩,
    ⟨.push, 20, none, .call 45 [(.s 0), (.c (.int .i64 (100000)))]⟩,
    ⟨.push, 21, none, .call 65 [(.s 0)]⟩,
    ⟨.var 3, 4, none, .mov (.s 0)⟩])
 (.seq (.region false [
    ⟨.push, 22, none, .mov (.v 3)⟩,
    ⟨.push, 23, none, .mov (.v 2)⟩,
    ⟨.push, 24, none, .call 66 [(.s 0)]⟩,
    ⟨.push, 25, none, .app 1 1 (.int .u8 (0)) (.s 2) (.s 0)⟩,
    ⟨.var 1, 2, none, .mov (.s 0)⟩])
 (.ret))))), [.t 1]⟩
noncomputable def t_spec_DrawReadNumber : List (Nat × Ctr) := [(44, c_spec_l00From), (45, c_spec_l00Src_pick), (66, c_spec_l25Bytes), (65, c_spec_l25Number)]
theorem lk_spec_DrawReadNumber_44 : look t_spec_DrawReadNumber 44 = some c_spec_l00From := rfl
theorem lk_spec_DrawReadNumber_45 : look t_spec_DrawReadNumber 45 = some c_spec_l00Src_pick := rfl
theorem lk_spec_DrawReadNumber_66 : look t_spec_DrawReadNumber 66 = some c_spec_l25Bytes := rfl
theorem lk_spec_DrawReadNumber_65 : look t_spec_DrawReadNumber 65 = some c_spec_l25Number := rfl
noncomputable def c_spec_DrawReadNumber : Ctr := mkF t_spec_DrawReadNumber ir26 [.bor]
theorem s_spec_DrawReadNumber : Sound Try.prog 26 c_spec_DrawReadNumber := mkF_sound _ rfl (snd_cons s_spec_l00From (snd_cons s_spec_l00Src_pick (snd_cons s_spec_l25Bytes (snd_cons s_spec_l25Number snd_nil)))) (by kernel_rfl : chkFn Try.prog 26 ir26 ir26_v = true)
theorem M_spec_DrawReadNumber : c_spec_DrawReadNumber.modes = [.bor] := rfl
theorem Fl_spec_DrawReadNumber : c_spec_DrawReadNumber.flat = true := rfl
attribute [go_sem] M_spec_DrawReadNumber Fl_spec_DrawReadNumber
attribute [go_sem] lk_spec_DrawReadNumber_44 lk_spec_DrawReadNumber_45 lk_spec_DrawReadNumber_66 lk_spec_DrawReadNumber_65
theorem Fs_spec_DrawReadNumber {code : List UInt8} {y_ : (List UInt8)} (h : spec_DrawReadNumber code = some y_) : c_spec_DrawReadNumber.F [.sl 1 (List.map byteAV code)] = ⟨true, .fresh 1 (List.map byteAV y_), [.any]⟩ := by
  refine mkF_E (by simp only [flatA, flatB, flat1, List.all_cons, List.all_nil, Bool.and_self, flatE_map (f := byteAV) (fun _ => rfl)]) ?_
  dsimp only [spec_DrawReadNumber] at h
  obtain ⟨y_1, hk1, h⟩ := bd_some h
  have fhk1 := Fs_spec_l00From hk1
  try simp only [go_sem] at fhk1
  obtain ⟨y_2, hk2, h⟩ := bd_some h
  have fhk2 := Fs_spec_l00Src_pick hk2
  try simp only [go_sem] at fhk2
  rcases it_some h with ⟨hk3, h⟩ | ⟨hk3, h⟩
  · try simp only [go_sem, n1, n2, n3, n4] at hk3
    all_goals
    obtain ⟨y_4, hk4, h⟩ := bd_some h
    have fhk4 := Fs_spec_l25Bytes hk4
    try simp only [go_sem, hk3] at fhk4
    obtain rfl := so_some h
    refine ⟨0, fun L hL => ?_⟩
    simp only [go_sem, ir26, fhk1, fhk2, hk3, fhk4]
  · try simp only [go_sem, n1, n2, n3, n4] at hk3
    all_goals
    rcases it_some h with ⟨hk5, h⟩ | ⟨hk5, h⟩
    · try simp only [go_sem, n1, n2, n3, n4, hk3] at hk5
      all_goals
      obtain ⟨y_6, hk6, h⟩ := bd_some h
      have fhk6 := Fs_spec_l00Src_pick hk6
      try simp only [go_sem, hk3, hk5] at fhk6
      obtain rfl := so_some h
      refine ⟨0, fun L hL => ?_⟩
      simp only [go_sem, ir26, fhk1, fhk2, hk3, hk5, fhk6]
    · try simp only [go_sem, n1, n2, n3, n4, hk3] at hk5
      all_goals
      obtain ⟨y_7, hk7, h⟩ := bd_some h
      have fhk7 := Fs_spec_l00Src_pick hk7
      try simp only [go_sem, hk3, hk5] at fhk7
      obtain ⟨y_8, hk8, h⟩ := bd_some h
      have fhk8 := Fs_spec_l25Number hk8
      try simp only [go_sem, hk3, hk5] at fhk8
      obtain ⟨y_9, hk9, h⟩ := bd_some h
      have fhk9 := Fs_spec_l25Bytes hk9
      try simp only [go_sem, hk3, hk5] at fhk9
      obtain ⟨hk10, h⟩ := ck_some h
      try simp only [go_sem, n1, n2, n3, n4, hk3, hk5] at hk10
      all_goals
      obtain rfl := so_some h
      refine ⟨0, fun L hL => ?_⟩
      simp only [go_sem, ir26, fhk1, fhk2, hk3, hk5, fhk7, fhk8, fhk9, hk10]


def ir27_b0 : IR := .seq (.test false [
    ⟨.push, 7, none, .mov (.v 5)⟩,
    ⟨.push, 8, none, .mov (.v 0)⟩,
    ⟨.push, 9, none, .len false (.s 0)⟩,
    ⟨.push, 10, none, .bin false .lss (.s 2) (.s 0)⟩,
    ⟨.push, 11, none, .mov (.s 0)⟩,
    ⟨.push, 12, (some ((.s 0), true)), .mov (.v 5)⟩,
    ⟨.push, 13, (some ((.s 1), true)), .bin false .lss (.s 0) (.c (.int .i64 (9)))⟩,
    ⟨.push, 14, none, .pick (.s 2) (.s 0) (.c (.bool false))⟩] (.s 0)
  (.skip)
  (.exit 0))
 (.seq (.block 1 (.seq (.region false [
      ⟨.push, 17, none, .mov (.v 4)⟩,
      ⟨.push, 18, none, .mov (.v 0)⟩,
      ⟨.push, 19, none, .mov (.v 5)⟩,
      ⟨.push, 20, none, .ixAddr 1 (.s 1) (.s 0)⟩,
      ⟨.push, 21, none, .load false 1 (.s 0)⟩,
      ⟨.push, 22, none, .bin false .and (.s 0) (.c (.int .u8 (127)))⟩,
      ⟨.push, 23, none, .conv .i64 (.s 0)⟩,
      ⟨.push, 24, none, .mov (.v 5)⟩,
      ⟨.push, 25, none, .bin false .mul (.c (.int .i64 (7))) (.s 0)⟩,
      ⟨.push, 26, none, .bin false .shl (.s 2) (.s 0)⟩,
      ⟨.push, 27, none, .bin false .or (.s 9) (.s 0)⟩,
      ⟨.var 4, 5, none, .mov (.s 0)⟩])
   (.test false [
     ⟨.push, 28, none, .mov (.v 0)⟩,
     ⟨.push, 29, none, .mov (.v 5)⟩,
     ⟨.push, 30, none, .ixAddr 1 (.s 1) (.s 0)⟩,
     ⟨.push, 31, none, .load false 1 (.s 0)⟩,
     ⟨.push, 32, none, .bin false .lss (.s 0) (.c (.int .u8 (128)))⟩] (.s 0)
   (.seq (.test false [
       ⟨.push, 33, none, .mov (.v 0)⟩,
       ⟨.push, 34, none, .mov (.v 5)⟩,
       ⟨.push, 35, none, .ixAddr 1 (.s 1) (.s 0)⟩,
       ⟨.push, 36, none, .load false 1 (.s 0)⟩,
       ⟨.push, 37, none, .bin false .eql (.s 0) (.c (.int .u8 (0)))⟩,
       ⟨.push, 38, none, .mov (.s 0)⟩,
       ⟨.push, 39, (some ((.s 0), true)), .mov (.v 5)⟩,
       ⟨.push, 40, (some ((.s 1), true)), .bin false .gtr (.s 0) (.c (.int .i64 (0)))⟩,
       ⟨.push, 41, none, .pick (.s 2) (.s 0) (.c (.bool false))⟩] (.s 0)
     (.seq (.region false [
         ⟨.var 1, 2, none, .mov (.c (.int .i64 (0)))⟩,
         ⟨.var 2, 3, none, .mov (.c (.int .i64 (0)))⟩,
         ⟨.var 3, 4, none, .mov (.c (.bool false))⟩])
      (.ret))
     (.skip))
    (.seq (.region false [
       ⟨.push, 42, none, .mov (.v 4)⟩,
       ⟨.push, 43, none, .mov (.v 5)⟩,
       ⟨.push, 44, none, .bin false .add (.s 0) (.c (.int .i64 (1)))⟩,
       ⟨.var 1, 2, none, .mov (.s 2)⟩,
       ⟨.var 2, 3, none, .mov (.s 0)⟩,
       ⟨.var 3, 4, none, .mov (.c (.bool true))⟩])
    (.ret)))
   (.skip))))
 (.region false [
   ⟨.push, 15, none, .mov (.v 5)⟩,
   ⟨.push, 16, none, .bin false .add (.s 0) (.c (.int .i64 (1)))⟩,
   ⟨.var 5, 6, none, .mov (.s 0)⟩]))
def ir27_k0 : List Bool := [true, false, false, false, true, true]
def ir27_o0 : List Bool := [false, false, false, false, false, false]
def ir27_r0 : List Bool := [false, true, true, true, false, false]
def ir27_v : List Nat := [0, 2, 3, 4, 5, 6]
def ir27 : AFn := ⟨1, 6, .seq (.region false [
    ⟨.var 1, 2, none, .mov (.c (.int .i64 (0)))⟩,
    ⟨.var 2, 3, none, .mov (.c (.int .i64 (0)))⟩,
    ⟨.var 3, 4, none, .mov (.c (.bool false))⟩])
 (.seq (.region false [
    ⟨.var 4, 5, none, .mov (.c (.int .i64 (0)))⟩])
 (.seq (.seq (.region false [
     ⟨.var 5, 6, none, .mov (.c (.int .i64 (0)))⟩])
  (.block 0 (.loop ir27_k0 ir27_o0 ir27_r0 ir27_b0)))
 (.seq (.region false [
    ⟨.var 1, 2, none, .mov (.c (.int .i64 (0)))⟩,
    ⟨.var 2, 3, none, .mov (.c (.int .i64 (0)))⟩,
    ⟨.var 3, 4, none, .mov (.c (.bool false))⟩])
 (.ret)))), [.t 1, .t 2, .t 3]⟩
noncomputable def t_impl_ReadNumber : List (Nat × Ctr) := []
noncomputable def c_impl_ReadNumber : Ctr := mkF t_impl_ReadNumber ir27 [.bor]
theorem s_impl_ReadNumber : Sound Try.prog 27 c_impl_ReadNumber := mkF_sound _ rfl snd_nil (by kernel_rfl : chkFn Try.prog 27 ir27 ir27_v = true)
theorem M_impl_ReadNumber : c_impl_ReadNumber.modes = [.bor] := rfl
theorem Fl_impl_ReadNumber : c_impl_ReadNumber.flat = true := rfl
attribute [go_sem] M_impl_ReadNumber Fl_impl_ReadNumber
def E_impl_ReadNumber_l1 (b : List UInt8) : (Int × Int) → St
  | (n, i) => ⟨[.sl 1 (List.map byteAV b), .any, .any, .any, .int .i64 n, .int .i64 i], [], [], true⟩
def R_impl_ReadNumber_l1 (b : List UInt8) : (Unit ⊕ (Int × Int × Bool)) → Res
  | .inl y => (.exit 0, ⟨[.any, .any, .any, .any, .any, .any], [], [], true⟩)
  | .inr y => (.ret, ⟨[.any, .int .i64 y.1, .int .i64 y.2.1, .bool y.2.2, .any, .any], [], [], true⟩)
theorem impl_ReadNumber_l1_ex {b : List UInt8} {sgm_ : Int × Int} {rho_ : Unit ⊕ (Int × Int × Bool)} (h : whileE (impl_ReadNumber_l1 b) sgm_ = some rho_) : ∃ L0, ∀ L, L0 ≤ L → iter (exec (look t_impl_ReadNumber) L ir27_b0) ir27_k0 ir27_o0 ir27_r0 L (E_impl_ReadNumber_l1 b sgm_) = R_impl_ReadNumber_l1 b rho_ := by
  refine loop_ex (E := E_impl_ReadNumber_l1 b) (R := R_impl_ReadNumber_l1 b) (fun y => by first | (intro c; cases c) | (rcases y with y | y <;> (intro c; cases c)) | (rcases y with y | y | y <;> (intro c; cases c))) ?_ h
  clear h
  rintro ⟨n, i⟩ o_ h
  dsimp only [impl_ReadNumber_l1] at h
  rcases it_some h with ⟨hk1, h⟩ | ⟨hk1, h⟩
  · try simp only [go_sem, n1, n2, n3, n4] at hk1
    all_goals
    obtain ⟨hk2, h⟩ := ck_some h
    have lhk2 := ix_lt hk2
    have xhk2 := getD_mapD byteAV b lhk2
    try simp only [go_sem] at lhk2
    try simp only [go_sem] at xhk2
    try simp only [go_sem, n1, n2, n3, n4, hk1] at hk2
    all_goals
    obtain ⟨hk3, h⟩ := ck_some h
    try simp only [go_sem, n1, n2, n3, n4, hk1, hk2] at hk3
    all_goals
    rcases it_some h with ⟨hk4, h⟩ | ⟨hk4, h⟩
    · try simp only [go_sem, n1, n2, n3, n4, hk1, hk2, hk3] at hk4
      all_goals
      rcases it_some h with ⟨hk5, h⟩ | ⟨hk5, h⟩
      · try simp only [go_sem, n1, n2, n3, n4, hk1, hk2, hk3, hk4] at hk5
        all_goals
        obtain rfl := so_some h
        refine ⟨0, fun L hL => ?_⟩
        simp only [go_sem, ir27, E_impl_ReadNumber_l1, R_impl_ReadNumber_l1, ir27_b0, ir27_k0, ir27_o0, ir27_r0, hk1, hk2, lhk2, xhk2, hk3, hk4, hk5]
      · try simp only [go_sem, n1, n2, n3, n4, hk1, hk2, hk3, hk4] at hk5
        all_goals
        obtain rfl := so_some h
        refine ⟨0, fun L hL => ?_⟩
        simp only [go_sem, ir27, E_impl_ReadNumber_l1, R_impl_ReadNumber_l1, ir27_b0, ir27_k0, ir27_o0, ir27_r0, hk1, hk2, lhk2, xhk2, hk3, hk4, hk5]
    · try simp only [go_sem, n1, n2, n3, n4, hk1, hk2, hk3] at hk4
      all_goals
      obtain rfl := so_some h
      refine ⟨0, fun L hL => ?_⟩
      simp only [go_sem, ir27, E_impl_ReadNumber_l1, R_impl_ReadNumber_l1, ir27_b0, ir27_k0, ir27_o0, ir27_r0, hk1, hk2, lhk2, xhk2, hk3, hk4]
  · try simp only [go_sem, n1, n2, n3, n4] at hk1
    all_goals
    obtain rfl := so_some h
    refine ⟨0, fun L hL => ?_⟩
    simp only [go_sem, ir27, E_impl_ReadNumber_l1, R_impl_ReadNumber_l1, ir27_b0, ir27_k0, ir27_o0, ir27_r0, hk1]

theorem Fs_impl_ReadNumber {b : List UInt8} {y_ : Int × Int × Bool} (h : impl_ReadNumber b = some y_) : c_impl_ReadNumber.F [.sl 1 (List.map byteAV b)] = ⟨true, .tup [.int .i64 y_.1, .int .i64 y_.2.1, .bool y_.2.2], [.any]⟩ := by
  refine mkF_E rfl ?_
  dsimp only [impl_ReadNumber] at h
  obtain ⟨y_6, hk6, h⟩ := bd_some h
  obtain ⟨Lhk6, ehk6⟩ := impl_ReadNumber_l1_ex hk6
  rcases y_6 with y_6a | y_6b
  · dsimp only at h
    obtain rfl := so_some h
    refine ⟨Lhk6, fun L hL => ?_⟩
    have ehk6 := ehk6 L (by omega)
    try simp only [go_sem, E_impl_ReadNumber_l1, R_impl_ReadNumber_l1, ir27_k0, ir27_o0, ir27_r0] at ehk6
    simp only [go_sem, ir27, E_impl_ReadNumber_l1, R_impl_ReadNumber_l1, ir27_k0, ir27_o0, ir27_r0, ehk6]
  · dsimp only at h
    obtain rfl := so_some h
    refine ⟨Lhk6, fun L hL => ?_⟩
    have ehk6 := ehk6 L (by omega)
    try simp only [go_sem, E_impl_ReadNumber_l1, R_impl_ReadNumber_l1, ir27_k0, ir27_o0, ir27_r0] at ehk6
    simp only [go_sem, ir27, E_impl_ReadNumber_l1, R_impl_ReadNumber_l1, ir27_k0, ir27_o0, ir27_r0, ehk6]


def ir67_b0 : IR := .seq (.test false [
    ⟨.push, 7, none, .mov (.v 5)⟩,
    ⟨.push, 8, none, .mov (.v 0)⟩,
    ⟨.push, 9, none, .len false (.s 0)⟩,
    ⟨.push, 10, none, .bin false .lss (.s 2) (.s 0)⟩,
    ⟨.push, 11, none, .mov (.s 0)⟩,
    ⟨.push, 12, (some ((.s 0), true)), .mov (.v 5)⟩,
    ⟨.push, 13, (some ((.s 1), true)), .bin false .lss (.s 0) (.c (.int .i64 (9)))⟩,
    ⟨.push, 14, none, .pick (.s 2) (.s 0) (.c (.bool false))⟩] (.s 0)
  (.skip)
  (.exit 0))
 (.seq (.block 1 (.seq (.region false [
      ⟨.push, 17, none, .mov (.v 4)⟩,
      ⟨.push, 18, none, .mov (.v 0)⟩,
      ⟨.push, 19, none, .mov (.v 5)⟩,
      ⟨.push, 20, none, .ixAddr 1 (.s 1) (.s 0)⟩,
      ⟨.push, 21, none, .load false 1 (.s 0)⟩,
      ⟨.push, 22, none, .bin false .and (.s 0) (.c (.int .u8 (127)))⟩,
      ⟨.push, 23, none, .conv .i64 (.s 0)⟩,
      ⟨.push, 24, none, .mov (.v 5)⟩,
      ⟨.push, 25, none, .bin false .mul (.c (.int .i64 (7))) (.s 0)⟩,
      ⟨.push, 26, none, .conv .u64 (.s 0)⟩,
      ⟨.push, 27, none, .bin false .shl (.s 3) (.s 0)⟩,
      ⟨.push, 28, none, .bin false .add (.s 10) (.s 0)⟩,
      ⟨.var 4, 5, none, .mov (.s 0)⟩])
   (.test false [
     ⟨.push, 29, none, .mov (.v 0)⟩,
     ⟨.push, 30, none, .mov (.v 5)⟩,
     ⟨.push, 31, none, .ixAddr 1 (.s 1) (.s 0)⟩,
     ⟨.push, 32, none, .load false 1 (.s 0)⟩,
     ⟨.push, 33, none, .bin false .lss (.s 0) (.c (.int .u8 (128)))⟩] (.s 0)
   (.seq (.test false [
       ⟨.push, 34, none, .mov (.v 5)⟩,
       ⟨.push, 35, none, .bin false .gtr (.s 0) (.c (.int .i64 (0)))⟩,
       ⟨.push, 36, none, .mov (.s 0)⟩,
       ⟨.push, 37, (some ((.s 0), true)), .mov (.v 0)⟩,
       ⟨.push, 38, (some ((.s 1), true)), .mov (.v 5)⟩,
       ⟨.push, 39, (some ((.s 2), true)), .ixAddr 1 (.s 1) (.s 0)⟩,
       ⟨.push, 40, (some ((.s 3), true)), .load false 1 (.s 0)⟩,
       ⟨.push, 41, (some ((.s 4), true)), .bin false .eql (.s 0) (.c (.int .u8 (0)))⟩,
       ⟨.push, 42, none, .pick (.s 5) (.s 0) (.c (.bool false))⟩] (.s 0)
     (.seq (.region false [
         ⟨.var 1, 2, none, .mov (.c (.int .i64 (0)))⟩,
         ⟨.var 2, 3, none, .mov (.c (.int .i64 (0)))⟩,
         ⟨.var 3, 4, none, .mov (.c (.bool false))⟩])
      (.ret))
     (.skip))
    (.seq (.region false [
       ⟨.push, 43, none, .mov (.v 4)⟩,
       ⟨.push, 44, none, .mov (.v 5)⟩,
       ⟨.push, 45, none, .bin false .add (.s 0) (.c (.int .i64 (1)))⟩,
       ⟨.var 1, 2, none, .mov (.s 2)⟩,
       ⟨.var 2, 3, none, .mov (.s 0)⟩,
       ⟨.var 3, 4, none, .mov (.c (.bool true))⟩])
    (.ret)))
   (.skip))))
 (.region false [
   ⟨.push, 15, none, .mov (.v 5)⟩,
   ⟨.push, 16, none, .bin false .add (.s 0) (.c (.int .i64 (1)))⟩,
   ⟨.var 5, 6, none, .mov (.s 0)⟩]))
def ir67_k0 : List Bool := [true, false, false, false, true, true]
def ir67_o0 : List Bool := [false, false, false, false, false, false]
def ir67_r0 : List Bool := [false, true, true, true, false, false]
def ir67_v : List Nat := [0, 2, 3, 4, 5, 6]
def ir67 : AFn := ⟨1, 6, .seq (.region false [
    ⟨.var 1, 2, none, .mov (.c (.int .i64 (0)))⟩,
    ⟨.var 2, 3, none, .mov (.c (.int .i64 (0)))⟩,
    ⟨.var 3, 4, none, .mov (.c (.bool false))⟩])
 (.seq (.region false [
    ⟨.var 4, 5, none, .mov (.c (.int .i64 (0)))⟩])
 (.seq (.seq (.region false [
     ⟨.var 5, 6, none, .mov (.c (.int .i64 (0)))⟩])
  (.block 0 (.loop ir67_k0 ir67_o0 ir67_r0 ir67_b0)))
 (.seq (.region false [
    ⟨.var 1, 2, none, .mov (.c (.int .i64 (0)))⟩,
    ⟨.var 2, 3, none, .mov (.c (.int .i64 (0)))⟩,
    ⟨.var 3, 4, none, .mov (.c (.bool false))⟩])
 (.ret)))), [.t 1, .t 2, .t 3]⟩
noncomputable def t_spec_l25Read : List (Nat × Ctr) := []
noncomputable def c_spec_l25Read : Ctr := mkF t_spec_l25Read ir67 [.bor]
theorem s_spec_l25Read : Sound Try.prog 67 c_spec_l25Read := mkF_sound _ rfl snd_nil (by kernel_rfl : chkFn Try.prog 67 ir67 ir67_v = true)
theorem M_spec_l25Read : c_spec_l25Read.modes = [.bor] := rfl
theorem Fl_spec_l25Read : c_spec_l25Read.flat = true := rfl
attribute [go_sem] M_spec_l25Read Fl_spec_l25Read
def E_spec_l25Read_l1 (b : List UInt8) : (Int × Int) → St
  | (n, i) => ⟨[.sl 1 (List.map byteAV b), .any, .any, .any, .int .i64 n, .int .i64 i], [], [], true⟩
def R_spec_l25Read_l1 (b : List UInt8) : (Unit ⊕ (Int × Int × Bool)) → Res
  | .inl y => (.exit 0, ⟨[.any, .any, .any, .any, .any, .any], [], [], true⟩)
  | .inr y => (.ret, ⟨[.any, .int .i64 y.1, .int .i64 y.2.1, .bool y.2.2, .any, .any], [], [], true⟩)
theorem spec_l25Read_l1_ex {b : List UInt8} {sgm_ : Int × Int} {rho_ : Unit ⊕ (Int × Int × Bool)} (h : whileE (spec_l25Read_l1 b) sgm_ = some rho_) : ∃ L0, ∀ L, L0 ≤ L → iter (exec (look t_spec_l25Read) L ir67_b0) ir67_k0 ir67_o0 ir67_r0 L (E_spec_l25Read_l1 b sgm_) = R_spec_l25Read_l1 b rho_ := by
  refine loop_ex (E := E_spec_l25Read_l1 b) (R := R_spec_l25Read_l1 b) (fun y => by first | (intro c; cases c) | (rcases y with y | y <;> (intro c; cases c)) | (rcases y with y | y | y <;> (intro c; cases c))) ?_ h
  clear h
  rintro ⟨n, i⟩ o_ h
  dsimp only [spec_l25Read_l1] at h
  rcases it_some h with ⟨hk1, h⟩ | ⟨hk1, h⟩
  · try simp only [go_sem, n1, n2, n3, n4] at hk1
    all_goals
    obtain ⟨hk2, h⟩ := ck_some h
    have lhk2 := ix_lt hk2
    have xhk2 := getD_mapD byteAV b lhk2
    try simp only [go_sem] at lhk2
    try simp only [go_sem] at xhk2
    try simp only [go_sem, n1, n2, n3, n4, hk1] at hk2
    all_goals
    obtain ⟨hk3, h⟩ := ck_some h
    try simp only [go_sem, n1, n2, n3, n4, hk1, hk2] at hk3
    all_goals
    rcases it_some h with ⟨hk4, h⟩ | ⟨hk4, h⟩
    · try simp only [go_sem, n1, n2, n3, n4, hk1, hk2, hk3] at hk4
      all_goals
      rcases it_some h with ⟨hk5, h⟩ | ⟨hk5, h⟩
      · try simp only [go_sem, n1, n2, n3, n4, hk1, hk2, hk3, hk4] at hk5
        all_goals
        obtain rfl := so_some h
        refine ⟨0, fun L hL => ?_⟩
        simp only [go_sem, ir67, E_spec_l25Read_l1, R_spec_l25Read_l1, ir67_b0, ir67_k0, ir67_o0, ir67_r0, hk1, hk2, lhk2, xhk2, hk3, hk4, hk5]
      · try simp only [go_sem, n1, n2, n3, n4, hk1, hk2, hk3, hk4] at hk5
        all_goals
        obtain rfl := so_some h
        refine ⟨0, fun L hL => ?_⟩
        simp only [go_sem, ir67, E_spec_l25Read_l1, R_spec_l25Read_l1, ir67_b0, ir67_k0, ir67_o0, ir67_r0, hk1, hk2, lhk2, xhk2, hk3, hk4, hk5]
    · try simp only [go_sem, n1, n2, n3, n4, hk1, hk2, hk3] at hk4
      all_goals
      obtain rfl := so_some h
      refine ⟨0, fun L hL => ?_⟩
      simp only [go_sem, ir67, E_spec_l25Read_l1, R_spec_l25Read_l1, ir67_b0, ir67_k0, ir67_o0, ir67_r0, hk1, hk2, lhk2, xhk2, hk3, hk4]
  · try simp only [go_sem, n1, n2, n3, n4] at hk1
    all_goals
    obtain rfl := so_some h
    refine ⟨0, fun L hL => ?_⟩
    simp only [go_sem, ir67, E_spec_l25Read_l1, R_spec_l25Read_l1, ir67_b0, ir67_k0, ir67_o0, ir67_r0, hk1]

theorem Fs_spec_l25Read {b : List UInt8} {y_ : Int × Int × Bool} (h : spec_l25Read b = some y_) : c_spec_l25Read.F [.sl 1 (List.map byteAV b)] = ⟨true, .tup [.int .i64 y_.1, .int .i64 y_.2.1, .bool y_.2.2], [.any]⟩ := by
  refine mkF_E rfl ?_
  dsimp only [spec_l25Read] at h
  obtain ⟨y_6, hk6, h⟩ := bd_some h
  obtain ⟨Lhk6, ehk6⟩ := spec_l25Read_l1_ex hk6
  rcases y_6 with y_6a | y_6b
  · dsimp only at h
    obtain rfl := so_some h
    refine ⟨Lhk6, fun L hL => ?_⟩
    have ehk6 := ehk6 L (by omega)
    try simp only [go_sem, E_spec_l25Read_l1, R_spec_l25Read_l1, ir67_k0, ir67_o0, ir67_r0] at ehk6
    simp only [go_sem, ir67, E_spec_l25Read_l1, R_spec_l25Read_l1, ir67_k0, ir67_o0, ir67_r0, ehk6]
  · dsimp only at h
    obtain rfl := so_some h
    refine ⟨Lhk6, fun L hL => ?_⟩
    have ehk6 := ehk6 L (by omega)
    try simp only [go_sem, E_spec_l25Read_l1, R_spec_l25Read_l1, ir67_k0, ir67_o0, ir67_r0] at ehk6
    simp only [go_sem, ir67, E_spec_l25Read_l1, R_spec_l25Read_l1, ir67_k0, ir67_o0, ir67_r0, ehk6]


def ir28_v : List Nat := [0, 2, 3, 4, 5, 6, 7]
def ir28 : AFn := ⟨1, 7, .seq (.region false [
    ⟨.var 1, 2, none, .mov (.c (.int .i64 (0)))⟩,
    ⟨.var 2, 3, none, .mov (.c (.int .i64 (0)))⟩,
    ⟨.var 3, 4, none, .mov (.c (.bool false))⟩])
 (.seq (.region false [
    ⟨.push, 9, none, .mov (.v 0)⟩,
    ⟨.push, 10, none, .call 67 [(.s 0)]⟩,
    ⟨.push, 8, none, .mov (.s 0)⟩,
    ⟨.push, 11, none, .ext (.s 0) 0⟩,
    ⟨.push, 12, none, .ext (.s 1) 1⟩,
    ⟨.push, 13, none, .ext (.s 2) 2⟩,
    ⟨.var 4, 5, none, .mov (.s 2)⟩,
    ⟨.var 5, 6, none, .mov (.s 1)⟩,
    ⟨.var 6, 7, none, .mov (.s 0)⟩])
 (.seq (.region false [
    ⟨.push, 14, none, .mov (.v 4)⟩,
    ⟨.push, 15, none, .mov (.v 5)⟩,
    ⟨.push, 16, none, .mov (.v 6)⟩,
    ⟨.var 1, 2, none, .mov (.s 2)⟩,
    ⟨.var 2, 3, none, .mov (.s 1)⟩,
    ⟨.var 3, 4, none, .mov (.s 0)⟩])
 (.ret))), [.t 1, .t 2, .t 3]⟩
noncomputable def t_spec_ReadNumber : List (Nat × Ctr) := [(67, c_spec_l25Read)]
theorem lk_spec_ReadNumber_67 : look t_spec_ReadNumber 67 = some c_spec_l25Read := rfl
noncomputable def c_spec_ReadNumber : Ctr := mkF t_spec_ReadNumber ir28 [.bor]
theorem s_spec_ReadNumber : Sound Try.prog 28 c_spec_ReadNumber := mkF_sound _ rfl (snd_cons s_spec_l25Read snd_nil) (by kernel_rfl : chkFn Try.prog 28 ir28 ir28_v = true)
theorem M_spec_ReadNumber : c_spec_ReadNumber.modes = [.bor] := rfl
theorem Fl_spec_ReadNumber : c_spec_ReadNumber.flat = true := rfl
attribute [go_sem] M_spec_ReadNumber Fl_spec_ReadNumber
attribute [go_sem] lk_spec_ReadNumber_67
theorem Fs_spec_ReadNumber {b : List UInt8} {y_ : Int × Int × Bool} (h : spec_ReadNumber b = some y_) : c_spec_ReadNumber.F [.sl 1 (List.map byteAV b)] = ⟨true, .tup [.int .i64 y_.1, .int .i64 y_.2.1, .bool y_.2.2], [.any]⟩ := by
  refine mkF_E rfl ?_
  dsimp only [spec_ReadNumber] at h
  obtain ⟨y_1, hk1, h⟩ := bd_some h
  have fhk1 := Fs_spec_l25Read hk1
  try simp only [go_sem] at fhk1
  obtain rfl := so_some h
  refine ⟨0, fun L hL => ?_⟩
  simp only [go_sem, ir28, fhk1]


def ir29_v : List Nat := [0, 2, 3]
def ir29 : AFn := ⟨1, 3, .seq (.region false [
    ⟨.var 1, 2, none, .mov (.c (.int .i64 (0)))⟩])
 (.seq (.region false [
    ⟨.push, 4, none, .mov (.v 0)⟩,
    ⟨.push, 5, none, .call 44 [(.s 0)]⟩,
    ⟨.var 2, 3, none, .mov (.s 0)⟩])
 (.seq (.test false [
    ⟨.push, 6, none, .mov (.v 2)⟩,
    ⟨.push, 7, none, .call 46 [(.s 0), (.c (.int .i64 (8)))]⟩] (.s 0)
  (.seq (.region false [
      ⟨.push, 8, none, .mov (.v 2)⟩,
      ⟨.push, 9, none, .mkSl 1 (.int .i64 (0)) 6 [(0, (.c (.int .i64 (-1000000000000000001)))), (1, (.c (.int .i64 (-1000000000000000000)))), (2, (.c (.int .i64 (0)))), (3, (.c (.int .i64 (1000000000000000000)))), (4, (.c (.int .i64 (1000000000000000001)))), (5, (.c (.int .i64 (-9223372036854775808))))]⟩,
      ⟨.push, 10, none, .call 47 [(.s 1), (.s 0)]⟩,
      ⟨.var 1, 2, none, .mov (.s 0)⟩])
   (.ret))
  (.skip))
 (.seq (.region false [
    ⟨.push, 11, none, .mov (.v 2)⟩,
    ⟨.push, 12, none, .call 45 [(.s 0), (.c (.int .i64 (2001)))]⟩,
    ⟨.push, 13, none, .bin false .sub (.s 0) (.c (.int .i64 (1000)))⟩,
    ⟨.var 1, 2, none, .mov (.s 0)⟩])
 (.ret)))), [.t 1]⟩
noncomputable def t_spec_DrawFoldSign : List (Nat × Ctr) := [(44, c_spec_l00From), (46, c_spec_l00Src_one), (47, c_spec_l00Src_among), (45, c_spec_l00Src_pick)]
theorem lk_spec_DrawFoldSign_44 : look t_spec_DrawFoldSign 44 = some c_spec_l00From := rfl
theorem lk_spec_DrawFoldSign_46 : look t_spec_DrawFoldSign 46 = some c_spec_l00Src_one := rfl
theorem lk_spec_DrawFoldSign_47 : look t_spec_DrawFoldSign 47 = some c_spec_l00Src_among := rfl
theorem lk_spec_DrawFoldSign_45 : look t_spec_DrawFoldSign 45 = some c_spec_l00Src_pick := rfl
noncomputable def c_spec_DrawFoldSign : Ctr := mkF t_spec_DrawFoldSign ir29 [.bor]
theorem s_spec_DrawFoldSign : Sound Try.prog 29 c_spec_DrawFoldSign := mkF_sound _ rfl (snd_cons s_spec_l00From (snd_cons s_spec_l00Src_one (snd_cons s_spec_l00Src_among (snd_cons s_spec_l00Src_pick snd_nil)))) (by kernel_rfl : chkFn Try.prog 29 ir29 ir29_v = true)
theorem M_spec_DrawFoldSign : c_spec_DrawFoldSign.modes = [.bor] := rfl
theorem Fl_spec_DrawFoldSign : c_spec_DrawFoldSign.flat = true := rfl
attribute [go_sem] M_spec_DrawFoldSign Fl_spec_DrawFoldSign
attribute [go_sem] lk_spec_DrawFoldSign_44 lk_spec_DrawFoldSign_46 lk_spec_DrawFoldSign_47 lk_spec_DrawFoldSign_45
theorem Fs_spec_DrawFoldSign {code : List UInt8} {y_ : Int} (h : spec_DrawFoldSign code = some y_) : c_spec_DrawFoldSign.F [.sl 1 (List.map byteAV code)] = ⟨true, .int .i64 y_, [.any]⟩ := by
  refine mkF_E rfl ?_
  dsimp only [spec_DrawFoldSign] at h
  obtain ⟨y_1, hk1, h⟩ := bd_some h
  have fhk1 := Fs_spec_l00From hk1
  try simp only [go_sem] at fhk1
  obtain ⟨y_2, hk2, h⟩ := bd_some h
  have fhk2 := Fs_spec_l00Src_one hk2
  try simp only [go_sem] at fhk2
  rcases it_some h with ⟨hk3, h⟩ | ⟨hk3, h⟩
  · try simp only [go_sem, n1, n2, n3, n4] at hk3
    all_goals
    obtain ⟨y_4, hk4, h⟩ := bd_some h
    have fhk4 := Fs_spec_l00Src_among hk4
    try simp only [go_sem, hk3] at fhk4
    obtain rfl := so_some h
    refine ⟨0, fun L hL => ?_⟩
    simp only [go_sem, ir29, fhk1, fhk2, hk3, fhk4]
  · try simp only [go_sem, n1, n2, n3, n4] at hk3
    all_goals
    obtain ⟨y_5, hk5, h⟩ := bd_some h
    have fhk5 := Fs_spec_l00Src_pick hk5
    try simp only [go_sem, hk3] at fhk5
    obtain rfl := so_some h
    refine ⟨0, fun L hL => ?_⟩
    simp only [go_sem, ir29, fhk1, fhk2, hk3, fhk5]


def ir48_v : List Nat := [0, 1, 2, 6]
def ir48 : AFn := ⟨3, 4, .seq (.region false [
    ⟨.var 3, 6, none, .mov (.c (.bool false))⟩])
 (.seq (.region false [
    ⟨.push, 7, none, .mov (.v 0)⟩,
    ⟨.push, 8, none, .mov (.v 1)⟩,
    ⟨.push, 9, none, .bin false .geq (.s 1) (.s 0)⟩,
    ⟨.push, 10, none, .mov (.s 0)⟩,
    ⟨.push, 11, (some ((.s 0), true)), .mov (.v 0)⟩,
    ⟨.push, 12, (some ((.s 1), true)), .mov (.v 2)⟩,
    ⟨.push, 13, (some ((.s 2), true)), .bin false .leq (.s 1) (.s 0)⟩,
    ⟨.push, 14, none, .pick (.s 3) (.s 0) (.c (.bool false))⟩,
    ⟨.var 3, 6, none, .mov (.s 0)⟩])
 (.ret)), [.t 3]⟩
noncomputable def t_impl_in : List (Nat × Ctr) := []
noncomputable def c_impl_in : Ctr := mkF t_impl_in ir48 [.bor, .bor, .bor]
theorem s_impl_in : Sound Try.prog 48 c_impl_in := mkF_sound _ rfl snd_nil (by kernel_rfl : chkFn Try.prog 48 ir48 ir48_v = true)
theorem M_impl_in : c_impl_in.modes = [.bor, .bor, .bor] := rfl
theorem Fl_impl_in : c_impl_in.flat = true := rfl
attribute [go_sem] M_impl_in Fl_impl_in
theorem Fs_impl_in {n : Int} {low : Int} {high : Int} {y_ : Bool} (h : impl_in n low high = some y_) : c_impl_in.F [.int .i64 n, .int .i64 low, .int .i64 high] = ⟨true, .bool y_, [.any, .any, .any]⟩ := by
  refine mkF_E rfl ?_
  dsimp only [impl_in] at h
  obtain rfl := so_some h
  refine ⟨0, fun L hL => ?_⟩
  simp only [go_sem, ir48]


def ir68_v : List Nat := [0, 2]
def ir68 : AFn := ⟨1, 2, .seq (.region false [
    ⟨.var 1, 2, none, .mov (.c (.int .i64 (0)))⟩])
 (.seq (.test false [
    ⟨.push, 3, none, .mov (.v 0)⟩,
    ⟨.push, 4, none, .bin false .lss (.s 0) (.c (.int .i64 (0)))⟩] (.s 0)
  (.seq (.region false [
      ⟨.push, 5, none, .mov (.v 0)⟩,
      ⟨.push, 6, none, .bin false .mul (.c (.int .i64 (-2))) (.s 0)⟩,
      ⟨.push, 7, none, .bin false .sub (.s 0) (.c (.int .i64 (1)))⟩,
      ⟨.var 1, 2, none, .mov (.s 0)⟩])
   (.ret))
  (.skip))
 (.seq (.region false [
    ⟨.push, 8, none, .mov (.v 0)⟩,
    ⟨.push, 9, none, .bin false .mul (.c (.int .i64 (2))) (.s 0)⟩,
    ⟨.var 1, 2, none, .mov (.s 0)⟩])
 (.ret))), [.t 1]⟩
noncomputable def t_impl_fold : List (Nat × Ctr) := []
noncomputable def c_impl_fold : Ctr := mkF t_impl_fold ir68 [.bor]
theorem s_impl_fold : Sound Try.prog 68 c_impl_fold := mkF_sound _ rfl snd_nil (by kernel_rfl : chkFn Try.prog 68 ir68 ir68_v = true)
theorem M_impl_fold : c_impl_fold.modes = [.bor] := rfl
theorem Fl_impl_fold : c_impl_fold.flat = true := rfl
attribute [go_sem] M_impl_fold Fl_impl_fold
theorem Fs_impl_fold {n : Int} {y_ : Int} (h : impl_fold n = some y_) : c_impl_fold.F [.int .i64 n] = ⟨true, .int .i64 y_, [.any]⟩ := by
  refine mkF_E rfl ?_
  dsimp only [impl_fold] at h
  rcases it_some h with ⟨hk1, h⟩ | ⟨hk1, h⟩
  · try simp only [go_sem, n1, n2, n3, n4] at hk1
    all_goals
    obtain rfl := so_some h
    refine ⟨0, fun L hL => ?_⟩
    simp only [go_sem, ir68, hk1]
  · try simp only [go_sem, n1, n2, n3, n4] at hk1
    all_goals
    obtain rfl := so_some h
    refine ⟨0, fun L hL => ?_⟩
    simp only [go_sem, ir68, hk1]


def ir30_v : List Nat := [0, 2, 3]
def ir30 : AFn := ⟨1, 3, .seq (.region false [
    ⟨.var 1, 2, none, .mov (.c (.int .i64 (0)))⟩,
    ⟨.var 2, 3, none, .mov (.c (.int .i64 (0)))⟩])
 (.seq (.test false [
    ⟨.push, 4, none, .mov (.v 0)⟩,
    ⟨.push, 5, none, .call 48 [(.s 0), (.c (.int .i64 (-1000000000000000000))), (.c (.int .i64 (1000000000000000000)))]⟩,
    ⟨.push, 6, none, .un .not (.s 0)⟩] (.s 0)
  (.seq (.region false [
      ⟨.var 1, 2, none, .mov (.c (.int .i64 (0)))⟩,
      ⟨.var 2, 3, none, .mov (.c (.int .i64 (2)))⟩])
   (.ret))
  (.skip))
 (.seq (.region false [
    ⟨.push, 7, none, .mov (.v 0)⟩,
    ⟨.push, 8, none, .call 68 [(.s 0)]⟩,
    ⟨.var 1, 2, none, .mov (.s 0)⟩,
    ⟨.var 2, 3, none, .mov (.c (.int .i64 (0)))⟩])
 (.ret))), [.t 1, .t 2]⟩
noncomputable def t_impl_FoldSign : List (Nat × Ctr) := [(48, c_impl_in), (68, c_impl_fold)]
theorem lk_impl_FoldSign_48 : look t_impl_FoldSign 48 = some c_impl_in := rfl
theorem lk_impl_FoldSign_68 : look t_impl_FoldSign 68 = some c_impl_fold := rfl
noncomputable def c_impl_FoldSign : Ctr := mkF t_impl_FoldSign ir30 [.bor]
theorem s_impl_FoldSign : Sound Try.prog 30 c_impl_FoldSign := mkF_sound _ rfl (snd_cons s_impl_in (snd_cons s_impl_fold snd_nil)) (by kernel_rfl : chkFn Try.prog 30 ir30 ir30_v = true)
theorem M_impl_FoldSign : c_impl_FoldSign.modes = [.bor] := rfl
theorem Fl_impl_FoldSign : c_impl_FoldSign.flat = true := rfl
attribute [go_sem] M_impl_FoldSign Fl_impl_FoldSign
attribute [go_sem] lk_impl_FoldSign_48 lk_impl_FoldSign_68
theorem Fs_impl_FoldSign {n : Int} {y_ : Int × Int} (h : impl_FoldSign n = some y_) : c_impl_FoldSign.F [.int .i64 n] = ⟨true, .tup [.int .i64 y_.1, .int .i64 y_.2], [.any]⟩ := by
  refine mkF_E rfl ?_
  dsimp only [impl_FoldSign] at h
  obtain ⟨y_1, hk1, h⟩ := bd_some h
  have fhk1 := Fs_impl_in hk1
  try simp only [go_sem] at fhk1
  rcases it_some h with ⟨hk2, h⟩ | ⟨hk2, h⟩
  · try simp only [go_sem, n1, n2, n3, n4] at hk2
    all_goals
    obtain rfl := so_some h
    refine ⟨0, fun L hL => ?_⟩
    simp only [go_sem, ir30, fhk1, hk2]
  · try simp only [go_sem, n1, n2, n3, n4] at hk2
    all_goals
    obtain ⟨y_3, hk3, h⟩ := bd_some h
    have fhk3 := Fs_impl_fold hk3
    try simp only [go_sem, hk2] at fhk3
    obtain rfl := so_some h
    refine ⟨0, fun L hL => ?_⟩
    simp only [go_sem, ir30, fhk1, hk2, fhk3]


def ir49_v : List Nat := [0, 1, 2, 6]
def ir49 : AFn := ⟨3, 4, .seq (.region false [
    ⟨.var 3, 6, none, .mov (.c (.bool false))⟩])
 (.seq (.region false [
    ⟨.push, 7, none, .mov (.v 0)⟩,
    ⟨.push, 8, none, .mov (.v 1)⟩,
    ⟨.push, 9, none, .bin false .geq (.s 1) (.s 0)⟩,
    ⟨.push, 10, none, .mov (.s 0)⟩,
    ⟨.push, 11, (some ((.s 0), true)), .mov (.v 0)⟩,
    ⟨.push, 12, (some ((.s 1), true)), .mov (.v 2)⟩,
    ⟨.push, 13, (some ((.s 2), true)), .bin false .leq (.s 1) (.s 0)⟩,
    ⟨.push, 14, none, .pick (.s 3) (.s 0) (.c (.bool false))⟩,
    ⟨.var 3, 6, none, .mov (.s 0)⟩])
 (.ret)), [.t 3]⟩
noncomputable def t_spec_l00In : List (Nat × Ctr) := []
noncomputable def c_spec_l00In : Ctr := mkF t_spec_l00In ir49 [.bor, .bor, .bor]
theorem s_spec_l00In : Sound Try.prog 49 c_spec_l00In := mkF_sound _ rfl snd_nil (by kernel_rfl : chkFn Try.prog 49 ir49 ir49_v = true)
theorem M_spec_l00In : c_spec_l00In.modes = [.bor, .bor, .bor] := rfl
theorem Fl_spec_l00In : c_spec_l00In.flat = true := rfl
attribute [go_sem] M_spec_l00In Fl_spec_l00In
theorem Fs_spec_l00In {n : Int} {low : Int} {high : Int} {y_ : Bool} (h : spec_l00In n low high = some y_) : c_spec_l00In.F [.int .i64 n, .int .i64 low, .int .i64 high] = ⟨true, .bool y_, [.any, .any, .any]⟩ := by
  refine mkF_E rfl ?_
  dsimp only [spec_l00In] at h
  obtain rfl := so_some h
  refine ⟨0, fun L hL => ?_⟩
  simp only [go_sem, ir49]


def ir69_v : List Nat := [0, 2]
def ir69 : AFn := ⟨1, 2, .seq (.region false [
    ⟨.var 1, 2, none, .mov (.c (.int .i64 (0)))⟩])
 (.seq (.test false [
    ⟨.push, 3, none, .mov (.v 0)⟩,
    ⟨.push, 4, none, .bin false .lss (.s 0) (.c (.int .i64 (0)))⟩] (.s 0)
  (.seq (.region false [
      ⟨.push, 5, none, .mov (.v 0)⟩,
      ⟨.push, 6, none, .bin false .mul (.c (.int .i64 (-2))) (.s 0)⟩,
      ⟨.push, 7, none, .bin false .sub (.s 0) (.c (.int .i64 (1)))⟩,
      ⟨.var 1, 2, none, .mov (.s 0)⟩])
   (.ret))
  (.skip))
 (.seq (.region false [
    ⟨.push, 8, none, .mov (.v 0)⟩,
    ⟨.push, 9, none, .bin false .mul (.c (.int .i64 (2))) (.s 0)⟩,
    ⟨.var 1, 2, none, .mov (.s 0)⟩])
 (.ret))), [.t 1]⟩
noncomputable def t_spec_l25Fold : List (Nat × Ctr) := []
noncomputable def c_spec_l25Fold : Ctr := mkF t_spec_l25Fold ir69 [.bor]
theorem s_spec_l25Fold : Sound Try.prog 69 c_spec_l25Fold := mkF_sound _ rfl snd_nil (by kernel_rfl : chkFn Try.prog 69 ir69 ir69_v = true)
theorem M_spec_l25Fold : c_spec_l25Fold.modes = [.bor] := rfl
theorem Fl_spec_l25Fold : c_spec_l25Fold.flat = true := rfl
attribute [go_sem] M_spec_l25Fold Fl_spec_l25Fold
theorem Fs_spec_l25Fold {n : Int} {y_ : Int} (h : spec_l25Fold n = some y_) : c_spec_l25Fold.F [.int .i64 n] = ⟨true, .int .i64 y_, [.any]⟩ := by
  refine mkF_E rfl ?_
  dsimp only [spec_l25Fold] at h
  rcases it_some h with ⟨hk1, h⟩ | ⟨hk1, h⟩
  · try simp only [go_sem, n1, n2, n3, n4] at hk1
    all_goals
    obtain rfl := so_some h
    refine ⟨0, fun L hL => ?_⟩
    simp only [go_sem, ir69, hk1]
  · try simp only [go_sem, n1, n2, n3, n4] at hk1
    all_goals
    obtain rfl := so_some h
    refine ⟨0, fun L hL => ?_⟩
    simp only [go_sem, ir69, hk1]


def ir31_v : List Nat := [0, 2, 3]
def ir31 : AFn := ⟨1, 3, .seq (.region false [
    ⟨.var 1, 2, none, .mov (.c (.int .i64 (0)))⟩,
    ⟨.var 2, 3, none, .mov (.c (.int .i64 (0)))⟩])
 (.seq (.test false [
    ⟨.push, 4, none, .mov (.v 0)⟩,
    ⟨.push, 5, none, .call 49 [(.s 0), (.c (.int .i64 (-1000000000000000000))), (.c (.int .i64 (1000000000000000000)))]⟩,
    ⟨.push, 6, none, .un .not (.s 0)⟩] (.s 0)
  (.seq (.region false [
      ⟨.var 1, 2, none, .mov (.c (.int .i64 (0)))⟩,
      ⟨.var 2, 3, none, .mov (.c (.int .i64 (2)))⟩])
   (.ret))
  (.skip))
 (.seq (.region false [
    ⟨.push, 7, none, .mov (.v 0)⟩,
    ⟨.push, 8, none, .call 69 [(.s 0)]⟩,
    ⟨.var 1, 2, none, .mov (.s 0)⟩,
    ⟨.var 2, 3, none, .mov (.c (.int .i64 (0)))⟩])
 (.ret))), [.t 1, .t 2]⟩
noncomputable def t_spec_FoldSign : List (Nat × Ctr) := [(49, c_spec_l00In), (69, c_spec_l25Fold)]
theorem lk_spec_FoldSign_49 : look t_spec_FoldSign 49 = some c_spec_l00In := rfl
theorem lk_spec_FoldSign_69 : look t_spec_FoldSign 69 = some c_spec_l25Fold := rfl
noncomputable def c_spec_FoldSign : Ctr := mkF t_spec_FoldSign ir31 [.bor]
theorem s_spec_FoldSign : Sound Try.prog 31 c_spec_FoldSign := mkF_sound _ rfl (snd_cons s_spec_l00In (snd_cons s_spec_l25Fold snd_nil)) (by kernel_rfl : chkFn Try.prog 31 ir31 ir31_v = true)
theorem M_spec_FoldSign : c_spec_FoldSign.modes = [.bor] := rfl
theorem Fl_spec_FoldSign : c_spec_FoldSign.flat = true := rfl
attribute [go_sem] M_spec_FoldSign Fl_spec_FoldSign
attribute [go_sem] lk_spec_FoldSign_49 lk_spec_FoldSign_69
theorem Fs_spec_FoldSign {n : Int} {y_ : Int × Int} (h : spec_FoldSign n = some y_) : c_spec_FoldSign.F [.int .i64 n] = ⟨true, .tup [.int .i64 y_.1, .int .i64 y_.2], [.any]⟩ := by
  refine mkF_E rfl ?_
  dsimp only [spec_FoldSign] at h
  obtain ⟨y_1, hk1, h⟩ := bd_some h
  have fhk1 := Fs_spec_l00In hk1
  try simp only [go_sem] at fhk1
  rcases it_some h with ⟨hk2, h⟩ | ⟨hk2, h⟩
  · try simp only [go_sem, n1, n2, n3, n4] at hk2
    all_goals
    obtain rfl := so_some h
    refine ⟨0, fun L hL => ?_⟩
    simp only [go_sem, ir31, fhk1, hk2]
  · try simp only [go_sem, n1, n2, n3, n4] at hk2
    all_goals
    obtain ⟨y_3, hk3, h⟩ := bd_some h
    have fhk3 := Fs_spec_l25Fold hk3
    try simp only [go_sem, hk2] at fhk3
    obtain rfl := so_some h
    refine ⟨0, fun L hL => ?_⟩
    simp only [go_sem, ir31, fhk1, hk2, fhk3]


def ir32_v : List Nat := [0, 2, 3]
def ir32 : AFn := ⟨1, 3, .seq (.region false [
    ⟨.var 1, 2, none, .mov (.c (.int .i64 (0)))⟩])
 (.seq (.region false [
    ⟨.push, 4, none, .mov (.v 0)⟩,
    ⟨.push, 5, none, .call 44 [(.s 0)]⟩,
    ⟨.var 2, 3, none, .mov (.s 0)⟩])
 (.seq (.test false [
    ⟨.push, 6, none, .mov (.v 2)⟩,
    ⟨.push, 7, none, .call 46 [(.s 0), (.c (.int .i64 (8)))]⟩] (.s 0)
  (.seq (.region false [
      ⟨.push, 8, none, .mov (.v 2)⟩,
      ⟨.push, 9, none, .mkSl 1 (.int .i64 (0)) 6 [(0, (.c (.int .i64 (-1)))), (1, (.c (.int .i64 (0)))), (2, (.c (.int .i64 (1)))), (3, (.c (.int .i64 (2000000000000000000)))), (4, (.c (.int .i64 (2000000000000000001)))), (5, (.c (.int .i64 (9223372036854775807))))]⟩,
      ⟨.push, 10, none, .call 47 [(.s 1), (.s 0)]⟩,
      ⟨.var 1, 2, none, .mov (.s 0)⟩])
   (.ret))
  (.skip))
 (.seq (.region false [
    ⟨.push, 11, none, .mov (.v 2)⟩,
    ⟨.push, 12, none, .call 45 [(.s 0), (.c (.int .i64 (2001)))]⟩,
    ⟨.var 1, 2, none, .mov (.s 0)⟩])
 (.ret)))), [.t 1]⟩
noncomputable def t_spec_DrawUnfoldSign : List (Nat × Ctr) := [(44, c_spec_l00From), (46, c_spec_l00Src_one), (47, c_spec_l00Src_among), (45, c_spec_l00Src_pick)]
theorem lk_spec_DrawUnfoldSign_44 : look t_spec_DrawUnfoldSign 44 = some c_spec_l00From := rfl
theorem lk_spec_DrawUnfoldSign_46 : look t_spec_DrawUnfoldSign 46 = some c_spec_l00Src_one := rfl
theorem lk_spec_DrawUnfoldSign_47 : look t_spec_DrawUnfoldSign 47 = some c_spec_l00Src_among := rfl
theorem lk_spec_DrawUnfoldSign_45 : look t_spec_DrawUnfoldSign 45 = some c_spec_l00Src_pick := rfl
noncomputable def c_spec_DrawUnfoldSign : Ctr := mkF t_spec_DrawUnfoldSign ir32 [.bor]
theorem s_spec_DrawUnfoldSign : Sound Try.prog 32 c_spec_DrawUnfoldSign := mkF_sound _ rfl (snd_cons s_spec_l00From (snd_cons s_spec_l00Src_one (snd_cons s_spec_l00Src_among (snd_cons s_spec_l00Src_pick snd_nil)))) (by kernel_rfl : chkFn Try.prog 32 ir32 ir32_v = true)
theorem M_spec_DrawUnfoldSign : c_spec_DrawUnfoldSign.modes = [.bor] := rfl
theorem Fl_spec_DrawUnfoldSign : c_spec_DrawUnfoldSign.flat = true := rfl
attribute [go_sem] M_spec_DrawUnfoldSign Fl_spec_DrawUnfoldSign
attribute [go_sem] lk_spec_DrawUnfoldSign_44 lk_spec_DrawUnfoldSign_46 lk_spec_DrawUnfoldSign_47 lk_spec_DrawUnfoldSign_45
theorem Fs_spec_DrawUnfoldSign {code : List UInt8} {y_ : Int} (h : spec_DrawUnfoldSign code = some y_) : c_spec_DrawUnfoldSign.F [.sl 1 (List.map byteAV code)] = ⟨true, .int .i64 y_, [.any]⟩ := by
  refine mkF_E rfl ?_
  dsimp only [spec_DrawUnfoldSign] at h
  obtain ⟨y_1, hk1, h⟩ := bd_some h
  have fhk1 := Fs_spec_l00From hk1
  try simp only [go_sem] at fhk1
  obtain ⟨y_2, hk2, h⟩ := bd_some h
  have fhk2 := Fs_spec_l00Src_one hk2
  try simp only [go_sem] at fhk2
  rcases it_some h with ⟨hk3, h⟩ | ⟨hk3, h⟩
  · try simp only [go_sem, n1, n2, n3, n4] at hk3
    all_goals
    obtain ⟨y_4, hk4, h⟩ := bd_some h
    have fhk4 := Fs_spec_l00Src_among hk4
    try simp only [go_sem, hk3] at fhk4
    obtain rfl := so_some h
    refine ⟨0, fun L hL => ?_⟩
    simp only [go_sem, ir32, fhk1, fhk2, hk3, fhk4]
  · try simp only [go_sem, n1, n2, n3, n4] at hk3
    all_goals
    obtain ⟨y_5, hk5, h⟩ := bd_some h
    have fhk5 := Fs_spec_l00Src_pick hk5
    try simp only [go_sem, hk3] at fhk5
    obtain rfl := so_some h
    refine ⟨0, fun L hL => ?_⟩
    simp only [go_sem, ir32, fhk1, fhk2, hk3, fhk5]


def ir70_v : List Nat := [0, 2]
def ir70 : AFn := ⟨1, 2, .seq (.region false [
    ⟨.var 1, 2, none, .mov (.c (.int .i64 (0)))⟩])
 (.seq (.test false [
    ⟨.push, 3, none, .mov (.v 0)⟩,
    ⟨.push, 4, none, .bin false .rem (.s 0) (.c (.int .i64 (2)))⟩,
    ⟨.push, 5, none, .bin false .eql (.s 0) (.c (.int .i64 (1)))⟩] (.s 0)
  (.seq (.region false [
      ⟨.push, 6, none, .mov (.v 0)⟩,
      ⟨.push, 7, none, .bin false .add (.s 0) (.c (.int .i64 (1)))⟩,
      ⟨.push, 8, none, .un .neg (.s 0)⟩,
      ⟨.push, 9, none, .bin false .quo (.s 0) (.c (.int .i64 (2)))⟩,
      ⟨.var 1, 2, none, .mov (.s 0)⟩])
   (.ret))
  (.skip))
 (.seq (.region false [
    ⟨.push, 10, none, .mov (.v 0)⟩,
    ⟨.push, 11, none, .bin false .quo (.s 0) (.c (.int .i64 (2)))⟩,
    ⟨.var 1, 2, none, .mov (.s 0)⟩])
 (.ret))), [.t 1]⟩
noncomputable def t_impl_unfold : List (Nat × Ctr) := []
noncomputable def c_impl_unfold : Ctr := mkF t_impl_unfold ir70 [.bor]
theorem s_impl_unfold : Sound Try.prog 70 c_impl_unfold := mkF_sound _ rfl snd_nil (by kernel_rfl : chkFn Try.prog 70 ir70 ir70_v = true)
theorem M_impl_unfold : c_impl_unfold.modes = [.bor] := rfl
theorem Fl_impl_unfold : c_impl_unfold.flat = true := rfl
attribute [go_sem] M_impl_unfold Fl_impl_unfold
theorem Fs_impl_unfold {n : Int} {y_ : Int} (h : impl_unfold n = some y_) : c_impl_unfold.F [.int .i64 n] = ⟨true, .int .i64 y_, [.any]⟩ := by
  refine mkF_E rfl ?_
  dsimp only [impl_unfold] at h
  obtain ⟨hk1, h⟩ := ck_some h
  try simp only [go_sem, n1, n2, n3, n4] at hk1
  all_goals
  rcases it_some h with ⟨hk2, h⟩ | ⟨hk2, h⟩
  · try simp only [go_sem, n1, n2, n3, n4, hk1] at hk2
    all_goals
    obtain rfl := so_some h
    refine ⟨0, fun L hL => ?_⟩
    simp only [go_sem, ir70, hk1, hk2]
  · try simp only [go_sem, n1, n2, n3, n4, hk1] at hk2
    all_goals
    obtain rfl := so_some h
    refine ⟨0, fun L hL => ?_⟩
    simp only [go_sem, ir70, hk1, hk2]


def ir33_v : List Nat := [0, 2, 3]
def ir33 : AFn := ⟨1, 3, .seq (.region false [
    ⟨.var 1, 2, none, .mov (.c (.int .i64 (0)))⟩,
    ⟨.var 2, 3, none, .mov (.c (.int .i64 (0)))⟩])
 (.seq (.test false [
    ⟨.push, 4, none, .mov (.v 0)⟩,
    ⟨.push, 5, none, .call 48 [(.s 0), (.c (.int .i64 (0))), (.c (.int .i64 (2000000000000000000)))]⟩,
    ⟨.push, 6, none, .un .not (.s 0)⟩] (.s 0)
  (.seq (.region false [
      ⟨.var 1, 2, none, .mov (.c (.int .i64 (0)))⟩,
      ⟨.var 2, 3, none, .mov (.c (.int .i64 (2)))⟩])
   (.ret))
  (.skip))
 (.seq (.region false [
    ⟨.push, 7, none, .mov (.v 0)⟩,
    ⟨.push, 8, none, .call 70 [(.s 0)]⟩,
    ⟨.var 1, 2, none, .mov (.s 0)⟩,
    ⟨.var 2, 3, none, .mov (.c (.int .i64 (0)))⟩])
 (.ret))), [.t 1, .t 2]⟩
noncomputable def t_impl_UnfoldSign : List (Nat × Ctr) := [(48, c_impl_in), (70, c_impl_unfold)]
theorem lk_impl_UnfoldSign_48 : look t_impl_UnfoldSign 48 = some c_impl_in := rfl
theorem lk_impl_UnfoldSign_70 : look t_impl_UnfoldSign 70 = some c_impl_unfold := rfl
noncomputable def c_impl_UnfoldSign : Ctr := mkF t_impl_UnfoldSign ir33 [.bor]
theorem s_impl_UnfoldSign : Sound Try.prog 33 c_impl_UnfoldSign := mkF_sound _ rfl (snd_cons s_impl_in (snd_cons s_impl_unfold snd_nil)) (by kernel_rfl : chkFn Try.prog 33 ir33 ir33_v = true)
theorem M_impl_UnfoldSign : c_impl_UnfoldSign.modes = [.bor] := rfl
theorem Fl_impl_UnfoldSign : c_impl_UnfoldSign.flat = true := rfl
attribute [go_sem] M_impl_UnfoldSign Fl_impl_UnfoldSign
attribute [go_sem] lk_impl_UnfoldSign_48 lk_impl_UnfoldSign_70
theorem Fs_impl_UnfoldSign {n : Int} {y_ : Int × Int} (h : impl_UnfoldSign n = some y_) : c_impl_UnfoldSign.F [.int .i64 n] = ⟨true, .tup [.int .i64 y_.1, .int .i64 y_.2], [.any]⟩ := by
  refine mkF_E rfl ?_
  dsimp only [impl_UnfoldSign] at h
  obtain ⟨y_1, hk1, h⟩ := bd_some h
  have fhk1 := Fs_impl_in hk1
  try simp only [go_sem] at fhk1
  rcases it_some h with ⟨hk2, h⟩ | ⟨hk2, h⟩
  · try simp only [go_sem, n1, n2, n3, n4] at hk2
    all_goals
    obtain rfl := so_some h
    refine ⟨0, fun L hL => ?_⟩
    simp only [go_sem, ir33, fhk1, hk2]
  · try simp only [go_sem, n1, n2, n3, n4] at hk2
    all_goals
    obtain ⟨y_3, hk3, h⟩ := bd_some h
    have fhk3 := Fs_impl_unfold hk3
    try simp only [go_sem, hk2] at fhk3
    obtain rfl := so_some h
    refine ⟨0, fun L hL => ?_⟩
    simp only [go_sem, ir33, fhk1, hk2, fhk3]


def ir71_v : List Nat := [0, 2]
def ir71 : AFn := ⟨1, 2, .seq (.region false [
    ⟨.var 1, 2, none, .mov (.c (.int .i64 (0)))⟩])
 (.seq (.test false [
    ⟨.push, 3, none, .mov (.v 0)⟩,
    ⟨.push, 4, none, .bin false .rem (.s 0) (.c (.int .i64 (2)))⟩,
    ⟨.push, 5, none, .bin false .eql (.s 0) (.c (.int .i64 (1)))⟩] (.s 0)
  (.seq (.region false [
      ⟨.push, 6, none, .mov (.v 0)⟩,
      ⟨.push, 7, none, .bin false .add (.s 0) (.c (.int .i64 (1)))⟩,
      ⟨.push, 8, none, .un .neg (.s 0)⟩,
      ⟨.push, 9, none, .bin false .quo (.s 0) (.c (.int .i64 (2)))⟩,
      ⟨.var 1, 2, none, .mov (.s 0)⟩])
   (.ret))
  (.skip))
 (.seq (.region false [
    ⟨.push, 10, none, .mov (.v 0)⟩,
    ⟨.push, 11, none, .bin false .quo (.s 0) (.c (.int .i64 (2)))⟩,
    ⟨.var 1, 2, none, .mov (.s 0)⟩])
 (.ret))), [.t 1]⟩
noncomputable def t_spec_l25Unfold : List (Nat × Ctr) := []
noncomputable def c_spec_l25Unfold : Ctr := mkF t_spec_l25Unfold ir71 [.bor]
theorem s_spec_l25Unfold : Sound Try.prog 71 c_spec_l25Unfold := mkF_sound _ rfl snd_nil (by kernel_rfl : chkFn Try.prog 71 ir71 ir71_v = true)
theorem M_spec_l25Unfold : c_spec_l25Unfold.modes = [.bor] := rfl
theorem Fl_spec_l25Unfold : c_spec_l25Unfold.flat = true := rfl
attribute [go_sem] M_spec_l25Unfold Fl_spec_l25Unfold
theorem Fs_spec_l25Unfold {n : Int} {y_ : Int} (h : spec_l25Unfold n = some y_) : c_spec_l25Unfold.F [.int .i64 n] = ⟨true, .int .i64 y_, [.any]⟩ := by
  refine mkF_E rfl ?_
  dsimp only [spec_l25Unfold] at h
  obtain ⟨hk1, h⟩ := ck_some h
  try simp only [go_sem, n1, n2, n3, n4] at hk1
  all_goals
  rcases it_some h with ⟨hk2, h⟩ | ⟨hk2, h⟩
  · try simp only [go_sem, n1, n2, n3, n4, hk1] at hk2
    all_goals
    obtain rfl := so_some h
    refine ⟨0, fun L hL => ?_⟩
    simp only [go_sem, ir71, hk1, hk2]
  · try simp only [go_sem, n1, n2, n3, n4, hk1] at hk2
    all_goals
    obtain rfl := so_some h
    refine ⟨0, fun L hL => ?_⟩
    simp only [go_sem, ir71, hk1, hk2]


def ir34_v : List Nat := [0, 2, 3]
def ir34 : AFn := ⟨1, 3, .seq (.region false [
    ⟨.var 1, 2, none, .mov (.c (.int .i64 (0)))⟩,
    ⟨.var 2, 3, none, .mov (.c (.int .i64 (0)))⟩])
 (.seq (.test false [
    ⟨.push, 4, none, .mov (.v 0)⟩,
    ⟨.push, 5, none, .call 49 [(.s 0), (.c (.int .i64 (0))), (.c (.int .i64 (2000000000000000000)))]⟩,
    ⟨.push, 6, none, .un .not (.s 0)⟩] (.s 0)
  (.seq (.region false [
      ⟨.var 1, 2, none, .mov (.c (.int .i64 (0)))⟩,
      ⟨.var 2, 3, none, .mov (.c (.int .i64 (2)))⟩])
   (.ret))
  (.skip))
 (.seq (.region false [
    ⟨.push, 7, none, .mov (.v 0)⟩,
    ⟨.push, 8, none, .call 71 [(.s 0)]⟩,
    ⟨.var 1, 2, none, .mov (.s 0)⟩,
    ⟨.var 2, 3, none, .mov (.c (.int .i64 (0)))⟩])
 (.ret))), [.t 1, .t 2]⟩
noncomputable def t_spec_UnfoldSign : List (Nat × Ctr) := [(49, c_spec_l00In), (71, c_spec_l25Unfold)]
theorem lk_spec_UnfoldSign_49 : look t_spec_UnfoldSign 49 = some c_spec_l00In := rfl
theorem lk_spec_UnfoldSign_71 : look t_spec_UnfoldSign 71 = some c_spec_l25Unfold := rfl
noncomputable def c_spec_UnfoldSign : Ctr := mkF t_spec_UnfoldSign ir34 [.bor]
theorem s_spec_UnfoldSign : Sound Try.prog 34 c_spec_UnfoldSign := mkF_sound _ rfl (snd_cons s_spec_l00In (snd_cons s_spec_l25Unfold snd_nil)) (by kernel_rfl : chkFn Try.prog 34 ir34 ir34_v = true)
theorem M_spec_UnfoldSign : c_spec_UnfoldSign.modes = [.bor] := rfl
theorem Fl_spec_UnfoldSign : c_spec_UnfoldSign.flat = true := rfl
attribute [go_sem] M_spec_UnfoldSign Fl_spec_UnfoldSign
attribute [go_sem] lk_spec_UnfoldSign_49 lk_spec_UnfoldSign_71
theorem Fs_spec_UnfoldSign {n : Int} {y_ : Int × Int} (h : spec_UnfoldSign n = some y_) : c_spec_UnfoldSign.F [.int .i64 n] = ⟨true, .tup [.int .i64 y_.1, .int .i64 y_.2], [.any]⟩ := by
  refine mkF_E rfl ?_
  dsimp only [spec_UnfoldSign] at h
  obtain ⟨y_1, hk1, h⟩ := bd_some h
  have fhk1 := Fs_spec_l00In hk1
  try simp only [go_sem] at fhk1
  rcases it_some h with ⟨hk2, h⟩ | ⟨hk2, h⟩
  · try simp only [go_sem, n1, n2, n3, n4] at hk2
    all_goals
    obtain rfl := so_some h
    refine ⟨0, fun L hL => ?_⟩
    simp only [go_sem, ir34, fhk1, hk2]
  · try simp only [go_sem, n1, n2, n3, n4] at hk2
    all_goals
    obtain ⟨y_3, hk3, h⟩ := bd_some h
    have fhk3 := Fs_spec_l25Unfold hk3
    try simp only [go_sem, hk2] at fhk3
    obtain rfl := so_some h
    refine ⟨0, fun L hL => ?_⟩
    simp only [go_sem, ir34, fhk1, hk2, fhk3]


def ir35_v : List Nat := [0, 2, 3]
def ir35 : AFn := ⟨1, 3, .seq (.region false [
    ⟨.var 1, 2, none, .newnil 1⟩])
 (.seq (.region false [
    ⟨.push, 4, none, .mov (.v 0)⟩,
    ⟨.push, 5, none, .call 44 [(.s 0)]⟩,
    ⟨.var 2, 3, none, .mov (.s 0)⟩])
 (.seq (.test false [
    ⟨.push, 6, none, .mov (.v 2)⟩,
    ⟨.push, 7, none, .call 46 [(.s 0), (.c (.int .i64 (24)))]⟩] (.s 0)
  (.seq (.region false [
      ⟨.push, 8, none, .mov (.v 2)⟩,
      ⟨.push, 9, none, .call 45 [(.s 0), (.c (.int .i64 (2)))]⟩,
      ⟨.push, 10, none, .bin false .add (.c (.int .i64 (8000))) (.s 0)⟩,
      ⟨.push, 11, none, .make 1 1 (.int .u8 (0)) (.s 0) (.s 0)⟩,
      ⟨.var 1, 2, none, .mov (.s 0)⟩])
   (.ret))
  (.skip))
 (.seq (.region false [
    ⟨.push, 12, none, .mov (.v 2)⟩,
    ⟨.push, 13, none, .call 66 [(.s 0)]⟩,
    ⟨.var 1, 2, none, .mov (.s 0)⟩])
 (.ret)))), [.t 1]⟩
noncomputable def t_spec_DrawHexOf : List (Nat × Ctr) := [(44, c_spec_l00From), (46, c_spec_l00Src_one), (45, c_spec_l00Src_pick), (66, c_spec_l25Bytes)]
theorem lk_spec_DrawHexOf_44 : look t_spec_DrawHexOf 44 = some c_spec_l00From := rfl
theorem lk_spec_DrawHexOf_46 : look t_spec_DrawHexOf 46 = some c_spec_l00Src_one := rfl
theorem lk_spec_DrawHexOf_45 : look t_spec_DrawHexOf 45 = some c_spec_l00Src_pick := rfl
theorem lk_spec_DrawHexOf_66 : look t_spec_DrawHexOf 66 = some c_spec_l25Bytes := rfl
noncomputable def c_spec_DrawHexOf : Ctr := mkF t_spec_DrawHexOf ir35 [.bor]
theorem s_spec_DrawHexOf : Sound Try.prog 35 c_spec_DrawHexOf := mkF_sound _ rfl (snd_cons s_spec_l00From (snd_cons s_spec_l00Src_one (snd_cons s_spec_l00Src_pick (snd_cons s_spec_l25Bytes snd_nil)))) (by kernel_rfl : chkFn Try.prog 35 ir35 ir35_v = true)
theorem M_spec_DrawHexOf : c_spec_DrawHexOf.modes = [.bor] := rfl
theorem Fl_spec_DrawHexOf : c_spec_DrawHexOf.flat = true := rfl
attribute [go_sem] M_spec_DrawHexOf Fl_spec_DrawHexOf
attribute [go_sem] lk_spec_DrawHexOf_44 lk_spec_DrawHexOf_46 lk_spec_DrawHexOf_45 lk_spec_DrawHexOf_66
theorem Fs_spec_DrawHexOf {code : List UInt8} {y_ : (List UInt8)} (h : spec_DrawHexOf code = some y_) : c_spec_DrawHexOf.F [.sl 1 (List.map byteAV code)] = ⟨true, .fresh 1 (List.map byteAV y_), [.any]⟩ := by
  refine mkF_E (by simp only [flatA, flatB, flat1, List.all_cons, List.all_nil, Bool.and_self, flatE_map (f := byteAV) (fun _ => rfl)]) ?_
  dsimp only [spec_DrawHexOf] at h
  obtain ⟨y_1, hk1, h⟩ := bd_some h
  have fhk1 := Fs_spec_l00From hk1
  try simp only [go_sem] at fhk1
  obtain ⟨y_2, hk2, h⟩ := bd_some h
  have fhk2 := Fs_spec_l00Src_one hk2
  try simp only [go_sem] at fhk2
  rcases it_some h with ⟨hk3, h⟩ | ⟨hk3, h⟩
  · try simp only [go_sem, n1, n2, n3, n4] at hk3
    all_goals
    obtain ⟨y_4, hk4, h⟩ := bd_some h
    have fhk4 := Fs_spec_l00Src_pick hk4
    try simp only [go_sem, hk3] at fhk4
    obtain ⟨hk5, h⟩ := ck_some h
    try simp only [go_sem, n1, n2, n3, n4, hk3] at hk5
    all_goals
    obtain rfl := so_some h
    refine ⟨0, fun L hL => ?_⟩
    simp only [go_sem, ir35, fhk1, fhk2, hk3, fhk4, hk5]
  · try simp only [go_sem, n1, n2, n3, n4] at hk3
    all_goals
    obtain ⟨y_6, hk6, h⟩ := bd_some h
    have fhk6 := Fs_spec_l25Bytes hk6
    try simp only [go_sem, hk3] at fhk6
    obtain rfl := so_some h
    refine ⟨0, fun L hL => ?_⟩
    simp only [go_sem, ir35, fhk1, fhk2, hk3, fhk6]


def ir36_b0 : IR := .seq (.region false [
    ⟨.var 8, 14, none, .bin false .lss (.v 7) (.v 6)⟩])
 (.seq (.cond (.v 8) (.skip)
  (.exit 0))
 (.seq (.block 1 (.seq (.region false [
      ⟨.push, 15, none, .ixAddr 1 (.v 5) (.v 7)⟩,
      ⟨.push, 16, none, .load false 1 (.s 0)⟩,
      ⟨.var 4, 6, none, .mov (.s 0)⟩])
   (.anyo 9 [
     ⟨.slot 0, 17, none, .mov (.v 3)⟩,
     ⟨.slot 1, 18, none, .mov (.v 4)⟩,
     ⟨.slot 2, 19, none, .bin false .quo (.s 1) (.c (.int .u8 (16)))⟩,
     ⟨.slot 3, 20, none, .ixStr (.c (.str [48, 49, 50, 51, 52, 53, 54, 55, 56, 57, 97, 98, 99, 100, 101, 102])) (.s 2)⟩,
     ⟨.slot 4, 21, none, .mov (.v 4)⟩,
     ⟨.slot 5, 22, none, .bin false .rem (.s 4) (.c (.int .u8 (16)))⟩,
     ⟨.slot 6, 23, none, .ixStr (.c (.str [48, 49, 50, 51, 52, 53, 54, 55, 56, 57, 97, 98, 99, 100, 101, 102])) (.s 5)⟩,
     ⟨.slot 7, 24, none, .pur (.mkSl 1 (.int .u8 (0)) 2 [(0, (.s 3)), (1, (.s 6))])⟩,
     ⟨.slot 8, 25, none, .app 1 1 (.int .u8 (0)) (.s 0) (.s 7)⟩,
     ⟨.var 3, 4, none, .mov (.s 8)⟩] [] .skip)))
 (.region false [
   ⟨.push, 26, none, .bin false .add (.v 7) (.c (.int .i64 (1)))⟩,
   ⟨.var 7, 13, none, .mov (.s 0)⟩])))
def ir36_k0 : List Bool := [false, false, false, true, false, true, true, true, false]
def ir36_o0 : List Bool := [false, false, false, true, false, false, false, false, false]
def ir36_r0 : List Bool := [false, true, true, false, false, false, false, false, false]
def ir36_v : List Nat := [0, 2, 3, 4, 6, 11, 12, 13, 14]
def ir36 : AFn := ⟨1, 9, .seq (.region false [
    ⟨.var 1, 2, none, .mov (.c (.str []))⟩,
    ⟨.var 2, 3, none, .mov (.c (.int .i64 (0)))⟩])
 (.seq (.test false [
    ⟨.push, 7, none, .mov (.v 0)⟩,
    ⟨.push, 8, none, .len false (.s 0)⟩,
    ⟨.push, 9, none, .bin false .gtr (.s 0) (.c (.int .i64 (8000)))⟩] (.s 0)
  (.seq (.region false [
      ⟨.var 1, 2, none, .mov (.c (.str []))⟩,
      ⟨.var 2, 3, none, .mov (.c (.int .i64 (5)))⟩])
   (.ret))
  (.skip))
 (.seq (.region false [
    ⟨.push, 10, none, .mkSl 1 (.int .u8 (0)) 0 []⟩,
    ⟨.var 3, 4, none, .mov (.s 0)⟩])
 (.seq (.seq (.region false [
     ⟨.var 5, 11, none, .mov (.v 0)⟩,
     ⟨.var 6, 12, none, .len false (.v 5)⟩,
     ⟨.var 7, 13, none, .mov (.c (.int .i64 (0)))⟩])
  (.block 0 (.loop ir36_k0 ir36_o0 ir36_r0 ir36_b0)))
 (.seq (.region false [
    ⟨.push, 27, none, .mov (.v 3)⟩,
    ⟨.push, 28, none, .b2s (.s 0)⟩,
    ⟨.var 1, 2, none, .mov (.s 0)⟩,
    ⟨.var 2, 3, none, .mov (.c (.int .i64 (0)))⟩])
 (.ret))))), [.t 1, .t 2]⟩
noncomputable def t_impl_HexOf : List (Nat × Ctr) := []
noncomputable def c_impl_HexOf : Ctr := mkF t_impl_HexOf ir36 [.bor]
theorem s_impl_HexOf : Sound Try.prog 36 c_impl_HexOf := mkF_sound _ rfl snd_nil (by kernel_rfl : chkFn Try.prog 36 ir36 ir36_v = true)
theorem M_impl_HexOf : c_impl_HexOf.modes = [.bor] := rfl
theorem Fl_impl_HexOf : c_impl_HexOf.flat = true := rfl
attribute [go_sem] M_impl_HexOf Fl_impl_HexOf
def E_impl_HexOf_l1 (t11 : List UInt8) (t12 : Int) : ((List UInt8) × Int) → St
  | (out, t13) => ⟨[.any, .any, .any, .own 3200000, .any, .sl 1 (List.map byteAV t11), .int .i64 t12, .int .i64 t13, .any], [], [(3200000, ⟨1, List.map byteAV out⟩)], true⟩
def R_impl_HexOf_l1 (t11 : List UInt8) (t12 : Int) (y : (List UInt8)) : Res := (.exit 0, ⟨[.any, .any, .any, .own 3200000, .any, .any, .any, .any, .any], [], [(3200000, ⟨1, List.map byteAV y⟩)], true⟩)
theorem impl_HexOf_l1_ex {t11 : List UInt8} {t12 : Int} {sgm_ : (List UInt8) × Int} {rho_ : (List UInt8)} (h : whileE (impl_HexOf_l1 t11 t12) sgm_ = some rho_) : ∃ L0, ∀ L, L0 ≤ L → iter (exec (look t_impl_HexOf) L ir36_b0) ir36_k0 ir36_o0 ir36_r0 L (E_impl_HexOf_l1 t11 t12 sgm_) = R_impl_HexOf_l1 t11 t12 rho_ := by
  refine loop_ex (E := E_impl_HexOf_l1 t11 t12) (R := R_impl_HexOf_l1 t11 t12) (fun y => by first | (intro c; cases c) | (rcases y with y | y <;> (intro c; cases c)) | (rcases y with y | y | y <;> (intro c; cases c))) ?_ h
  clear h
  rintro ⟨out, t13⟩ o_ h
  dsimp only [impl_HexOf_l1] at h
  rcases it_some h with ⟨hk2, h⟩ | ⟨hk2, h⟩
  · try simp only [go_sem, n1, n2, n3, n4] at hk2
    all_goals
    obtain ⟨hk3, h⟩ := ck_some h
    have lhk3 := ix_lt hk3
    have xhk3 := getD_mapD byteAV t11 lhk3
    try simp only [go_sem] at lhk3
    try simp only [go_sem] at xhk3
    try simp only [go_sem, n1, n2, n3, n4, hk2] at hk3
    all_goals
    obtain ⟨hk4, h⟩ := ck_some h
    try simp only [go_sem, n1, n2, n3, n4, hk2, hk3] at hk4
    all_goals
    obtain ⟨hk5, h⟩ := ck_some h
    try simp only [go_sem, n1, n2, n3, n4, hk2, hk3, hk4] at hk5
    all_goals
    obtain ⟨hk6, h⟩ := ck_some h
    try simp only [go_sem, n1, n2, n3, n4, hk2, hk3, hk4, hk5] at hk6
    all_goals
    obtain ⟨hk7, h⟩ := ck_some h
    try simp only [go_sem, n1, n2, n3, n4, hk2, hk3, hk4, hk5, hk6] at hk7
    all_goals
    obtain rfl := so_some h
    refine ⟨0, fun L hL => ?_⟩
    simp only [go_sem, ir36, E_impl_HexOf_l1, R_impl_HexOf_l1, ir36_b0, ir36_k0, ir36_o0, ir36_r0, hk2, hk3, lhk3, xhk3, hk4, hk5, hk6, hk7]
  · try simp only [go_sem, n1, n2, n3, n4] at hk2
    all_goals
    obtain rfl := so_some h
    refine ⟨0, fun L hL => ?_⟩
    simp only [go_sem, ir36, E_impl_HexOf_l1, R_impl_HexOf_l1, ir36_b0, ir36_k0, ir36_o0, ir36_r0, hk2]

theorem Fs_impl_HexOf {b : List UInt8} {y_ : (List UInt8) × Int} (h : impl_HexOf b = some y_) : c_impl_HexOf.F [.sl 1 (List.map byteAV b)] = ⟨true, .tup [.str y_.1, .int .i64 y_.2], [.any]⟩ := by
  refine mkF_E rfl ?_
  dsimp only [impl_HexOf] at h
  rcases it_some h with ⟨hk1, h⟩ | ⟨hk1, h⟩
  · try simp only [go_sem, n1, n2, n3, n4] at hk1
    all_goals
    obtain rfl := so_some h
    refine ⟨0, fun L hL => ?_⟩
    simp only [go_sem, ir36, E_impl_HexOf_l1, R_impl_HexOf_l1, ir36_k0, ir36_o0, ir36_r0, hk1]
  · try simp only [go_sem, n1, n2, n3, n4] at hk1
    all_goals
    obtain ⟨y_8, hk8, h⟩ := bd_some h
    obtain ⟨Lhk8, ehk8⟩ := impl_HexOf_l1_ex hk8
    obtain rfl := so_some h
    refine ⟨Lhk8, fun L hL => ?_⟩
    have ehk8 := ehk8 L (by omega)
    try simp only [go_sem, E_impl_HexOf_l1, R_impl_HexOf_l1, ir36_k0, ir36_o0, ir36_r0, hk1] at ehk8
    simp only [go_sem, ir36, E_impl_HexOf_l1, R_impl_HexOf_l1, ir36_k0, ir36_o0, ir36_r0, hk1, ehk8]


def ir37_b0 : IR := .seq (.test false [
    ⟨.push, 10, none, .mov (.v 4)⟩,
    ⟨.push, 11, none, .mov (.v 0)⟩,
    ⟨.push, 12, none, .len false (.s 0)⟩,
    ⟨.push, 13, none, .bin false .lss (.s 2) (.s 0)⟩] (.s 0)
  (.skip)
  (.exit 0))
 (.seq (.block 1 (.seq (.region false [
      ⟨.push, 16, none, .mov (.v 3)⟩,
      ⟨.push, 17, none, .mov (.v 0)⟩,
      ⟨.push, 18, none, .mov (.v 4)⟩,
      ⟨.push, 19, none, .ixAddr 1 (.s 1) (.s 0)⟩,
      ⟨.push, 20, none, .load false 1 (.s 0)⟩,
      ⟨.push, 21, none, .bin false .quo (.s 0) (.c (.int .u8 (16)))⟩,
      ⟨.push, 22, none, .ixStr (.c (.str [48, 49, 50, 51, 52, 53, 54, 55, 56, 57, 97, 98, 99, 100, 101, 102])) (.s 0)⟩,
      ⟨.push, 23, none, .mkSl 1 (.int .u8 (0)) 1 [(0, (.s 0))]⟩,
      ⟨.push, 24, none, .app 1 1 (.int .u8 (0)) (.s 7) (.s 0)⟩,
      ⟨.var 3, 4, none, .mov (.s 0)⟩])
   (.region false [
     ⟨.push, 25, none, .mov (.v 3)⟩,
     ⟨.push, 26, none, .mov (.v 0)⟩,
     ⟨.push, 27, none, .mov (.v 4)⟩,
     ⟨.push, 28, none, .ixAddr 1 (.s 1) (.s 0)⟩,
     ⟨.push, 29, none, .load false 1 (.s 0)⟩,
     ⟨.push, 30, none, .bin false .rem (.s 0) (.c (.int .u8 (16)))⟩,
     ⟨.push, 31, none, .ixStr (.c (.str [48, 49, 50, 51, 52, 53, 54, 55, 56, 57, 97, 98, 99, 100, 101, 102])) (.s 0)⟩,
     ⟨.push, 32, none, .mkSl 1 (.int .u8 (0)) 1 [(0, (.s 0))]⟩,
     ⟨.push, 33, none, .app 1 1 (.int .u8 (0)) (.s 7) (.s 0)⟩,
     ⟨.var 3, 4, none, .mov (.s 0)⟩])))
 (.region false [
   ⟨.push, 14, none, .mov (.v 4)⟩,
   ⟨.push, 15, none, .bin false .add (.s 0) (.c (.int .i64 (1)))⟩,
   ⟨.var 4, 5, none, .mov (.s 0)⟩]))
def ir37_k0 : List Bool := [true, false, false, true, true]
def ir37_o0 : List Bool := [false, false, false, true, false]
def ir37_r0 : List Bool := [false, true, true, false, false]
def ir37_v : List Nat := [0, 2, 3, 4, 5]
def ir37 : AFn := ⟨1, 5, .seq (.region false [
    ⟨.var 1, 2, none, .mov (.c (.str []))⟩,
    ⟨.var 2, 3, none, .mov (.c (.int .i64 (0)))⟩])
 (.seq (.test false [
    ⟨.push, 6, none, .mov (.v 0)⟩,
    ⟨.push, 7, none, .len false (.s 0)⟩,
    ⟨.push, 8, none, .bin false .gtr (.s 0) (.c (.int .i64 (8000)))⟩] (.s 0)
  (.seq (.region false [
      ⟨.var 1, 2, none, .mov (.c (.str []))⟩,
      ⟨.var 2, 3, none, .mov (.c (.int .i64 (5)))⟩])
   (.ret))
  (.skip))
 (.seq (.region false [
    ⟨.push, 9, none, .mkSl 1 (.int .u8 (0)) 0 []⟩,
    ⟨.var 3, 4, none, .mov (.s 0)⟩])
 (.seq (.seq (.region false [
     ⟨.var 4, 5, none, .mov (.c (.int .i64 (0)))⟩])
  (.block 0 (.loop ir37_k0 ir37_o0 ir37_r0 ir37_b0)))
 (.seq (.region false [
    ⟨.push, 34, none, .mov (.v 3)⟩,
    ⟨.push, 35, none, .b2s (.s 0)⟩,
    ⟨.var 1, 2, none, .mov (.s 0)⟩,
    ⟨.var 2, 3, none, .mov (.c (.int .i64 (0)))⟩])
 (.ret))))), [.t 1, .t 2]⟩
noncomputable def t_spec_HexOf : List (Nat × Ctr) := []
noncomputable def c_spec_HexOf : Ctr := mkF t_spec_HexOf ir37 [.bor]
theorem s_spec_HexOf : Sound Try.prog 37 c_spec_HexOf := mkF_sound _ rfl snd_nil (by kernel_rfl : chkFn Try.prog 37 ir37 ir37_v = true)
theorem M_spec_HexOf : c_spec_HexOf.modes = [.bor] := rfl
theorem Fl_spec_HexOf : c_spec_HexOf.flat = true := rfl
attribute [go_sem] M_spec_HexOf Fl_spec_HexOf
def E_spec_HexOf_l1 (b : List UInt8) : ((List UInt8) × Int) → St
  | (out, i) => ⟨[.sl 1 (List.map byteAV b), .any, .any, .own 3200000, .int .i64 i], [], [(3200000, ⟨1, List.map byteAV out⟩)], true⟩
def R_spec_HexOf_l1 (b : List UInt8) (y : (List UInt8)) : Res := (.exit 0, ⟨[.any, .any, .any, .own 3200000, .any], [], [(3200000, ⟨1, List.map byteAV y⟩)], true⟩)
theorem spec_HexOf_l1_ex {b : List UInt8} {sgm_ : (List UInt8) × Int} {rho_ : (List UInt8)} (h : whileE (spec_HexOf_l1 b) sgm_ = some rho_) : ∃ L0, ∀ L, L0 ≤ L → iter (exec (look t_spec_HexOf) L ir37_b0) ir37_k0 ir37_o0 ir37_r0 L (E_spec_HexOf_l1 b sgm_) = R_spec_HexOf_l1 b rho_ := by
  refine loop_ex (E := E_spec_HexOf_l1 b) (R := R_spec_HexOf_l1 b) (fun y => by first | (intro c; cases c) | (rcases y with y | y <;> (intro c; cases c)) | (rcases y with y | y | y <;> (intro c; cases c))) ?_ h
  clear h
  rintro ⟨out, i⟩ o_ h
  dsimp only [spec_HexOf_l1] at h
  rcases it_some h with ⟨hk2, h⟩ | ⟨hk2, h⟩
  · try simp only [go_sem, n1, n2, n3, n4] at hk2
    all_goals
    obtain ⟨hk3, h⟩ := ck_some h
    have lhk3 := ix_lt hk3
    have xhk3 := getD_mapD byteAV b lhk3
    try simp only [go_sem] at lhk3
    try simp only [go_sem] at xhk3
    try simp only [go_sem, n1, n2, n3, n4, hk2] at hk3
    all_goals
    obtain ⟨hk4, h⟩ := ck_some h
    try simp only [go_sem, n1, n2, n3, n4, hk2, hk3] at hk4
    all_goals
    obtain ⟨hk5, h⟩ := ck_some h
    try simp only [go_sem, n1, n2, n3, n4, hk2, hk3, hk4] at hk5
    all_goals
    obtain ⟨hk6, h⟩ := ck_some h
    try simp only [go_sem, n1, n2, n3, n4, hk2, hk3, hk4, hk5] at hk6
    all_goals
    obtain ⟨hk7, h⟩ := ck_some h
    try simp only [go_sem, n1, n2, n3, n4, hk2, hk3, hk4, hk5, hk6] at hk7
    all_goals
    obtain ⟨hk8, h⟩ := ck_some h
    try simp only [go_sem, n1, n2, n3, n4, hk2, hk3, hk4, hk5, hk6, hk7] at hk8
    all_goals
    obtain rfl := so_some h
    refine ⟨0, fun L hL => ?_⟩
    simp only [go_sem, ir37, E_spec_HexOf_l1, R_spec_HexOf_l1, ir37_b0, ir37_k0, ir37_o0, ir37_r0, hk2, hk3, lhk3, xhk3, hk4, hk5, hk6, hk7, hk8]
  · try simp only [go_sem, n1, n2, n3, n4] at hk2
    all_goals
    obtain rfl := so_some h
    refine ⟨0, fun L hL => ?_⟩
    simp only [go_sem, ir37, E_spec_HexOf_l1, R_spec_HexOf_l1, ir37_b0, ir37_k0, ir37_o0, ir37_r0, hk2]

theorem Fs_spec_HexOf {b : List UInt8} {y_ : (List UInt8) × Int} (h : spec_HexOf b = some y_) : c_spec_HexOf.F [.sl 1 (List.map byteAV b)] = ⟨true, .tup [.str y_.1, .int .i64 y_.2], [.any]⟩ := by
  refine mkF_E rfl ?_
  dsimp only [spec_HexOf] at h
  rcases it_some h with ⟨hk1, h⟩ | ⟨hk1, h⟩
  · try simp only [go_sem, n1, n2, n3, n4] at hk1
    all_goals
    obtain rfl := so_some h
    refine ⟨0, fun L hL => ?_⟩
    simp only [go_sem, ir37, E_spec_HexOf_l1, R_spec_HexOf_l1, ir37_k0, ir37_o0, ir37_r0, hk1]
  · try simp only [go_sem, n1, n2, n3, n4] at hk1
    all_goals
    obtain ⟨y_9, hk9, h⟩ := bd_some h
    obtain ⟨Lhk9, ehk9⟩ := spec_HexOf_l1_ex hk9
    obtain rfl := so_some h
    refine ⟨Lhk9, fun L hL => ?_⟩
    have ehk9 := ehk9 L (by omega)
    try simp only [go_sem, E_spec_HexOf_l1, R_spec_HexOf_l1, ir37_k0, ir37_o0, ir37_r0, hk1] at ehk9
    simp only [go_sem, ir37, E_spec_HexOf_l1, R_spec_HexOf_l1, ir37_k0, ir37_o0, ir37_r0, hk1, ehk9]


def ir73_v : List Nat := [0, 1, 4]
def ir73 : AFn := ⟨2, 3, .seq (.region false [
    ⟨.var 2, 4, none, .mov (.c (.str []))⟩])
 (.seq (.region false [
    ⟨.push, 5, none, .mov (.v 1)⟩,
    ⟨.push, 6, none, .mov (.v 0)⟩,
    ⟨.push, 7, none, .mov (.v 1)⟩,
    ⟨.push, 8, none, .len false (.s 0)⟩,
    ⟨.push, 9, none, .call 45 [(.s 2), (.s 0)]⟩,
    ⟨.push, 10, none, .ixAddr 1 (.s 4) (.s 0)⟩,
    ⟨.push, 11, none, .load false 1 (.s 0)⟩,
    ⟨.var 2, 4, none, .mov (.s 0)⟩])
 (.ret)), [.t 2]⟩
noncomputable def t_spec_l00Src_text : List (Nat × Ctr) := [(45, c_spec_l00Src_pick)]
theorem lk_spec_l00Src_text_45 : look t_spec_l00Src_text 45 = some c_spec_l00Src_pick := rfl
noncomputable def c_spec_l00Src_text : Ctr := mkN t_spec_l00Src_text ir73 [.io, .bor]
theorem s_spec_l00Src_text : Sound Try.prog 73 c_spec_l00Src_text := mkN_sound _ (snd_cons s_spec_l00Src_pick snd_nil) (by kernel_rfl : chkFn Try.prog 73 ir73 ir73_v = true)
theorem M_spec_l00Src_text : c_spec_l00Src_text.modes = [.io, .bor] := rfl
theorem Fl_spec_l00Src_text : c_spec_l00Src_text.flat = false := rfl
attribute [go_sem] M_spec_l00Src_text Fl_spec_l00Src_text
attribute [go_sem] lk_spec_l00Src_text_45
theorem Fs_spec_l00Src_text {s_ : L00Src} {list : List (List UInt8)} {y_ : (List UInt8) × L00Src} (h : spec_l00Src_text s_ list = some y_) : c_spec_l00Src_text.F [.mem 3 [L00Src_av s_], .sl 1 (List.map AV.str list)] = ⟨true, .str y_.1, [.mem 3 [L00Src_av y_.2], .any]⟩ := by
  refine mkN_E ?_
  dsimp only [spec_l00Src_text] at h
  obtain ⟨y_1, hk1, h⟩ := bd_some h
  have fhk1 := Fs_spec_l00Src_pick hk1
  try simp only [go_sem] at fhk1
  obtain ⟨hk2, h⟩ := ck_some h
  have lhk2 := ix_lt hk2
  have xhk2 := getD_mapD AV.str list lhk2
  try simp only [go_sem] at lhk2
  try simp only [go_sem] at xhk2
  try simp only [go_sem, n1, n2, n3, n4] at hk2
  all_goals
  obtain rfl := so_some h
  refine ⟨0, fun L hL => ?_⟩
  simp only [go_sem, ir73, fhk1, hk2, lhk2, xhk2]


def ir72_v : List Nat := [0, 1, 4, 5, 6, 8]
def ir72 : AFn := ⟨2, 6, .seq (.region false [
    ⟨.var 2, 4, none, .mov (.c (.str []))⟩])
 (.seq (.seq (.region false [
     ⟨.push, 7, none, .mov (.v 0)⟩,
     ⟨.var 5, 8, none, .call 45 [(.s 0), (.c (.int .i64 (5)))]⟩])
  (.block 0 (.test false [
     ⟨.push, 10, none, .bin false .eql (.v 5) (.c (.int .i64 (0)))⟩,
     ⟨.push, 9, none, .mov (.s 0)⟩] (.s 0)
   (.seq (.region false [
       ⟨.push, 11, none, .mov (.v 0)⟩,
       ⟨.push, 12, none, .mov (.v 1)⟩,
       ⟨.push, 13, none, .len true (.s 0)⟩,
       ⟨.push, 14, none, .bin false .add (.s 0) (.c (.int .i64 (1)))⟩,
       ⟨.push, 15, none, .call 45 [(.s 3), (.s 0)]⟩,
       ⟨.var 3, 5, none, .mov (.s 0)⟩])
    (.anyo 11 [
      ⟨.slot 0, 16, none, .flat (.mov (.v 1))⟩,
      ⟨.slot 1, 17, none, .flat (.mov (.v 3))⟩,
      ⟨.slot 2, 18, none, .flat (.pur (.slice 0 (.s 0) none (some (.s 1))))⟩,
      ⟨.slot 3, 19, none, .mov (.v 0)⟩,
      ⟨.slot 4, 20, none, .pur (.mkSl 1 (.str []) 7 [(0, (.c (.str [32]))), (1, (.c (.str [48]))), (2, (.c (.str [45]))), (3, (.c (.str [120]))), (4, (.c (.str [49]))), (5, (.c (.str [57]))), (6, (.c (.str [46])))])⟩,
      ⟨.slot 5, 21, none, .call 73 [(.s 3), (.s 4)]⟩,
      ⟨.slot 6, 22, none, .flat (.bin false .add (.s 2) (.s 5))⟩,
      ⟨.slot 7, 23, none, .flat (.mov (.v 1))⟩,
      ⟨.slot 8, 24, none, .flat (.mov (.v 3))⟩,
      ⟨.slot 9, 25, none, .flat (.pur (.slice 0 (.s 7) (some (.s 8)) none))⟩,
      ⟨.slot 10, 26, none, .flat (.bin false .add (.s 6) (.s 9))⟩,
      ⟨.var 1, 1, none, .flat (.mov (.s 10))⟩] [] .skip))
   (.test false [
      ⟨.push, 28, none, .bin false .eql (.v 5) (.c (.int .i64 (1)))⟩,
      ⟨.push, 27, none, .mov (.s 0)⟩] (.s 0)
    (.test false [
       ⟨.push, 29, none, .mov (.v 1)⟩,
       ⟨.push, 30, none, .bin false .neq (.s 0) (.c (.str []))⟩] (.s 0)
     (.seq (.region false [
         ⟨.push, 31, none, .mov (.v 0)⟩,
         ⟨.push, 32, none, .mov (.v 1)⟩,
         ⟨.push, 33, none, .len true (.s 0)⟩,
         ⟨.push, 34, none, .call 45 [(.s 2), (.s 0)]⟩,
         ⟨.var 4, 6, none, .mov (.s 0)⟩])
      (.anyo 8 [
        ⟨.slot 0, 35, none, .mov (.v 1)⟩,
        ⟨.slot 1, 36, none, .mov (.v 4)⟩,
        ⟨.slot 2, 37, none, .pur (.slice 0 (.s 0) none (some (.s 1)))⟩,
        ⟨.slot 3, 38, none, .mov (.v 1)⟩,
        ⟨.slot 4, 39, none, .mov (.v 4)⟩,
        ⟨.slot 5, 40, none, .bin false .add (.s 4) (.c (.int .i64 (1)))⟩,
        ⟨.slot 6, 41, none, .pur (.slice 0 (.s 3) (some (.s 5)) none)⟩,
        ⟨.slot 7, 42, none, .bin false .add (.s 2) (.s 6)⟩,
        ⟨.var 1, 1, none, .mov (.s 7)⟩] [] .skip))
     (.skip))
    (.skip)))))
 (.seq (.region false [
    ⟨.push, 43, none, .mov (.v 1)⟩,
    ⟨.var 2, 4, none, .mov (.s 0)⟩])
 (.ret))), [.t 2]⟩
noncomputable def t_spec_l01Spoil : List (Nat × Ctr) := [(45, c_spec_l00Src_pick), (73, c_spec_l00Src_text)]
theorem lk_spec_l01Spoil_45 : look t_spec_l01Spoil 45 = some c_spec_l00Src_pick := rfl
theorem lk_spec_l01Spoil_73 : look t_spec_l01Spoil 73 = some c_spec_l00Src_text := rfl
noncomputable def c_spec_l01Spoil : Ctr := mkN t_spec_l01Spoil ir72 [.io, .bor]
theorem s_spec_l01Spoil : Sound Try.prog 72 c_spec_l01Spoil := mkN_sound _ (snd_cons s_spec_l00Src_pick (snd_cons s_spec_l00Src_text snd_nil)) (by kernel_rfl : chkFn Try.prog 72 ir72 ir72_v = true)
theorem M_spec_l01Spoil : c_spec_l01Spoil.modes = [.io, .bor] := rfl
theorem Fl_spec_l01Spoil : c_spec_l01Spoil.flat = false := rfl
attribute [go_sem] M_spec_l01Spoil Fl_spec_l01Spoil
attribute [go_sem] lk_spec_l01Spoil_45 lk_spec_l01Spoil_73
theorem Fs_spec_l01Spoil {s_ : L00Src} {t : List UInt8} {y_ : (List UInt8) × L00Src} (h : spec_l01Spoil s_ t = some y_) : c_spec_l01Spoil.F [.mem 3 [L00Src_av s_], .str t] = ⟨true, .str y_.1, [.mem 3 [L00Src_av y_.2], .any]⟩ := by
  refine mkN_E ?_
  dsimp only [spec_l01Spoil] at h
  obtain ⟨y_1, hk1, h⟩ := bd_some h
  have fhk1 := Fs_spec_l00Src_pick hk1
  try simp only [go_sem] at fhk1
  rcases it_some h with ⟨hk2, h⟩ | ⟨hk2, h⟩
  · try simp only [go_sem, n1, n2, n3, n4] at hk2
    all_goals
    obtain ⟨y_3, hk3, h⟩ := bd_some h
    have fhk3 := Fs_spec_l00Src_pick hk3
    try simp only [go_sem, hk2] at fhk3
    obtain ⟨hk4, h⟩ := ck_some h
    try simp only [go_sem, n1, n2, n3, n4, hk2] at hk4
    all_goals
    obtain ⟨y_5, hk5, h⟩ := bd_some h
    have fhk5 := Fs_spec_l00Src_text hk5
    try simp only [go_sem, hk2, hk4] at fhk5
    obtain ⟨hk6, h⟩ := ck_some h
    try simp only [go_sem, n1, n2, n3, n4, hk2, hk4] at hk6
    all_goals
    obtain ⟨hk7, h⟩ := ck_some h
    try simp only [go_sem, n1, n2, n3, n4, hk2, hk4, hk6] at hk7
    all_goals
    obtain ⟨hk8, h⟩ := ck_some h
    try simp only [go_sem, n1, n2, n3, n4, hk2, hk4, hk6, hk7] at hk8
    all_goals
    obtain rfl := so_some h
    refine ⟨0, fun L hL => ?_⟩
    simp only [go_sem, ir72, fhk1, hk2, fhk3, hk4, fhk5, hk6, hk7, hk8]
  · try simp only [go_sem, n1, n2, n3, n4] at hk2
    all_goals
    rcases it_some h with ⟨hk9, h⟩ | ⟨hk9, h⟩
    · try simp only [go_sem, n1, n2, n3, n4, hk2] at hk9
      all_goals
      rcases it_some h with ⟨hk10, h⟩ | ⟨hk10, h⟩
      · try simp only [go_sem, n1, n2, n3, n4, hk2, hk9] at hk10
        all_goals
        obtain ⟨y_11, hk11, h⟩ := bd_some h
        have fhk11 := Fs_spec_l00Src_pick hk11
        try simp only [go_sem, hk2, hk9, hk10] at fhk11
        obtain ⟨hk12, h⟩ := ck_some h
        try simp only [go_sem, n1, n2, n3, n4, hk2, hk9, hk10] at hk12
        all_goals
        obtain ⟨hk13, h⟩ := ck_some h
        try simp only [go_sem, n1, n2, n3, n4, hk2, hk9, hk10, hk12] at hk13
        all_goals
        obtain ⟨hk14, h⟩ := ck_some h
        try simp only [go_sem, n1, n2, n3, n4, hk2, hk9, hk10, hk12, hk13] at hk14
        all_goals
        obtain rfl := so_some h
        refine ⟨0, fun L hL => ?_⟩
        simp only [go_sem, ir72, fhk1, hk2, hk9, hk10, fhk11, hk12, hk13, hk14]
      · try simp only [go_sem, n1, n2, n3, n4, hk2, hk9] at hk10
        all_goals
        obtain rfl := so_some h
        refine ⟨0, fun L hL => ?_⟩
        simp only [go_sem, ir72, fhk1, hk2, hk9, hk10]
    · try simp only [go_sem, n1, n2, n3, n4, hk2] at hk9
      all_goals
      obtain rfl := so_some h
      refine ⟨0, fun L hL => ?_⟩
      simp only [go_sem, ir72, fhk1, hk2, hk9]


section
theorem rp1_spec_DrawBytesOfHex {α : Type} (x : α) : List.replicate 1 x = [x] := rfl
theorem rp2_spec_DrawBytesOfHex {α : Type} (x : α) : List.replicate 2 x = [x, x] := rfl
theorem rp3_spec_DrawBytesOfHex {α : Type} (x : α) : List.replicate 3 x = [x, x, x] := rfl
theorem rp4_spec_DrawBytesOfHex {α : Type} (x : α) : List.replicate 4 x = [x, x, x, x] := rfl
theorem rp5_spec_DrawBytesOfHex {α : Type} (x : α) : List.replicate 5 x = [x, x, x, x, x] := rfl
theorem rp6_spec_DrawBytesOfHex {α : Type} (x : α) : List.replicate 6 x = [x, x, x, x, x, x] := rfl
theorem rp7_spec_DrawBytesOfHex {α : Type} (x : α) : List.replicate 7 x = [x, x, x, x, x, x, x] := rfl
theorem rp8_spec_DrawBytesOfHex {α : Type} (x : α) : List.replicate 8 x = [x, x, x, x, x, x, x, x] := rfl
theorem rp9_spec_DrawBytesOfHex {α : Type} (x : α) : List.replicate 9 x = [x, x, x, x, x, x, x, x, x] := rfl
theorem rp10_spec_DrawBytesOfHex {α : Type} (x : α) : List.replicate 10 x = [x, x, x, x, x, x, x, x, x, x] := rfl
theorem rp11_spec_DrawBytesOfHex {α : Type} (x : α) : List.replicate 11 x = [x, x, x, x, x, x, x, x, x, x, x] := rfl
theorem rp12_spec_DrawBytesOfHex {α : Type} (x : α) : List.replicate 12 x = [x, x, x, x, x, x, x, x, x, x, x, x] := rfl
theorem rp13_spec_DrawBytesOfHex {α : Type} (x : α) : List.replicate 13 x = [x, x, x, x, x, x, x, x, x, x, x, x, x] := rfl
theorem rp14_spec_DrawBytesOfHex {α : Type} (x : α) : List.replicate 14 x = [x, x, x, x, x, x, x, x, x, x, x, x, x, x] := rfl
theorem rp15_spec_DrawBytesOfHex {α : Type} (x : α) : List.replicate 15 x = [x, x, x, x, x, x, x, x, x, x, x, x, x, x, x] := rfl
theorem rp16_spec_DrawBytesOfHex {α : Type} (x : α) : List.replicate 16 x = [x, x, x, x, x, x, x, x, x, x, x, x, x, x, x, x] := rfl
theorem rp17_spec_DrawBytesOfHex {α : Type} (x : α) : List.replicate 17 x = [x, x, x, x, x, x, x, x, x, x, x, x, x, x, x, x, x] := rfl
theorem rp18_spec_DrawBytesOfHex {α : Type} (x : α) : List.replicate 18 x = [x, x, x, x, x, x, x, x, x, x, x, x, x, x, x, x, x, x] := rfl
theorem rp19_spec_DrawBytesOfHex {α : Type} (x : α) : List.replicate 19 x = [x, x, x, x, x, x, x, x, x, x, x, x, x, x, x, x, x, x, x] := rfl
theorem rp20_spec_DrawBytesOfHex {α : Type} (x : α) : List.replicate 20 x = [x, x, x, x, x, x, x, x, x, x, x, x, x, x, x, x, x, x, x, x] := rfl
theorem rp21_spec_DrawBytesOfHex {α : Type} (x : α) : List.replicate 21 x = [x, x, x, x, x, x, x, x, x, x, x, x, x, x, x, x, x, x, x, x, x] := rfl
theorem rp22_spec_DrawBytesOfHex {α : Type} (x : α) : List.replicate 22 x = [x, x, x, x, x, x, x, x, x, x, x, x, x, x, x, x, x, x, x, x, x, x] := rfl
theorem rp23_spec_DrawBytesOfHex {α : Type} (x : α) : List.replicate 23 x = [x, x, x, x, x, x, x, x, x, x, x, x, x, x, x, x, x, x, x, x, x, x, x] := rfl
theorem rp24_spec_DrawBytesOfHex {α : Type} (x : α) : List.replicate 24 x = [x, x, x, x, x, x, x, x, x, x, x, x, x, x, x, x, x, x, x, x, x, x, x, x] := rfl
theorem rp25_spec_DrawBytesOfHex {α : Type} (x : α) : List.replicate 25 x = [x, x, x, x, x, x, x, x, x, x, x, x, x, x, x, x, x, x, x, x, x, x, x, x, x] := rfl
theorem rp26_spec_DrawBytesOfHex {α : Type} (x : α) : List.replicate 26 x = [x, x, x, x, x, x, x, x, x, x, x, x, x, x, x, x, x, x, x, x, x, x, x, x, x, x] := rfl
theorem rp27_spec_DrawBytesOfHex {α : Type} (x : α) : List.replicate 27 x = [x, x, x, x, x, x, x, x, x, x, x, x, x, x, x, x, x, x, x, x, x, x, x, x, x, x, x] := rfl
theorem rp28_spec_DrawBytesOfHex {α : Type} (x : α) : List.replicate 28 x = [x, x, x, x, x, x, x, x, x, x, x, x, x, x, x, x, x, x, x, x, x, x, x, x, x, x, x, x] := rfl
theorem rp29_spec_DrawBytesOfHex {α : Type} (x : α) : List.replicate 29 x = [x, x, x, x, x, x, x, x, x, x, x, x, x, x, x, x, x, x, x, x, x, x, x, x, x, x, x, x, x] := rfl
theorem rp30_spec_DrawBytesOfHex {α : Type} (x : α) : List.replicate 30 x = [x, x, x, x, x, x, x, x, x, x, x, x, x, x, x, x, x, x, x, x, x, x, x, x, x, x, x, x, x, x] := rfl
theorem rp31_spec_DrawBytesOfHex {α : Type} (x : α) : List.replicate 31 x = [x, x, x, x, x, x, x, x, x, x, x, x, x, x, x, x, x, x, x, x, x, x, x, x, x, x, x, x, x, x, x] := rfl
theorem rp32_spec_DrawBytesOfHex {α : Type} (x : α) : List.replicate 32 x = [x, x, x, x, x, x, x, x, x, x, x, x, x, x, x, x, x, x, x, x, x, x, x, x, x, x, x, x, x, x, x, x] := rfl
theorem rp33_spec_DrawBytesOfHex {α : Type} (x : α) : List.replicate 33 x = [x, x, x, x, x, x, x, x, x, x, x, x, x, x, x, x, x, x, x, x, x, x, x, x, x, x, x, x, x, x, x, x, x] := rfl
theorem rp34_spec_DrawBytesOfHex {α : Type} (x : α) : List.replicate 34 x = [x, x, x, x, x, x, x, x, x, x, x, x, x, x, x, x, x, x, x, x, x, x, x, x, x, x, x, x, x, x, x, x, x, x] := rfl
theorem rp35_spec_DrawBytesOfHex {α : Type} (x : α) : List.replicate 35 x = [x, x, x, x, x, x, x, x, x, x, x, x, x, x, x, x, x, x, x, x, x, x, x, x, x, x, x, x, x, x, x, x, x, x, x] := rfl
theorem rp36_spec_DrawBytesOfHex {α : Type} (x : α) : List.replicate 36 x = [x, x, x, x, x, x, x, x, x, x, x, x, x, x, x, x, x, x, x, x, x, x, x, x, x, x, x, x, x, x, x, x, x, x, x, x] := rfl
theorem rp37_spec_DrawBytesOfHex {α : Type} (x : α) : List.replicate 37 x = [x, x, x, x, x, x, x, x, x, x, x, x, x, x, x, x, x, x, x, x, x, x, x, x, x, x, x, x, x, x, x, x, x, x, x, x, x] := rfl
theorem rp38_spec_DrawBytesOfHex {α : Type} (x : α) : List.replicate 38 x = [x, x, x, x, x, x, x, x, x, x, x, x, x, x, x, x, x, x, x, x, x, x, x, x, x, x, x, x, x, x, x, x, x, x, x, x, x, x] := rfl
theorem rp39_spec_DrawBytesOfHex {α : Type} (x : α) : List.replicate 39 x = [x, x, x, x, x, x, x, x, x, x, x, x, x, x, x, x, x, x, x, x, x, x, x, x, x, x, x, x, x, x, x, x, x, x, x, x, x, x, x] := rfl
theorem rp40_spec_DrawBytesOfHex {α : Type} (x : α) : List.replicate 40 x = [x, x, x, x, x, x, x, x, x, x, x, x, x, x, x, x, x, x, x, x, x, x, x, x, x, x, x, x, x, x, x, x, x, x, x, x, x, x, x, x] := rfl
attribute [-go_sem] List.replicate_succ
attribute [local go_sem] rp1_spec_DrawBytesOfHex rp2_spec_DrawBytesOfHex rp3_spec_DrawBytesOfHex rp4_spec_DrawBytesOfHex rp5_spec_DrawBytesOfHex rp6_spec_DrawBytesOfHex rp7_spec_DrawBytesOfHex rp8_spec_DrawBytesOfHex rp9_spec_DrawBytesOfHex rp10_spec_DrawBytesOfHex rp11_spec_DrawBytesOfHex rp12_spec_DrawBytesOfHex rp13_spec_DrawBytesOfHex rp14_spec_DrawBytesOfHex rp15_spec_DrawBytesOfHex rp16_spec_DrawBytesOfHex rp17_spec_DrawBytesOfHex rp18_spec_DrawBytesOfHex rp19_spec_DrawBytesOfHex rp20_spec_DrawBytesOfHex rp21_spec_DrawBytesOfHex rp22_spec_DrawBytesOfHex rp23_spec_DrawBytesOfHex rp24_spec_DrawBytesOfHex rp25_spec_DrawBytesOfHex rp26_spec_DrawBytesOfHex rp27_spec_DrawBytesOfHex rp28_spec_DrawBytesOfHex rp29_spec_DrawBytesOfHex rp30_spec_DrawBytesOfHex rp31_spec_DrawBytesOfHex rp32_spec_DrawBytesOfHex rp33_spec_DrawBytesOfHex rp34_spec_DrawBytesOfHex rp35_spec_DrawBytesOfHex rp36_spec_DrawBytesOfHex rp37_spec_DrawBytesOfHex rp38_spec_DrawBytesOfHex rp39_spec_DrawBytesOfHex rp40_spec_DrawBytesOfHex
def ir38_v : List Nat := [0, 2, 3, 4]
def ir38 : AFn := ⟨1, 4, .seq (.region false [
    ⟨.var 1, 2, none, .mov (.c (.str []))⟩])
 (.seq (.region false [
    ⟨.push, 6, none, .mov (.v 0)⟩,
    ⟨.push, 7, none, .call 44 [(.s 0)]⟩,
    ⟨.var 2, 3, none, .mov (.s 0)⟩])
 (.seq (.region false [
    ⟨.push, 9, none, .mov (.v 2)⟩,
    ⟨.push, 10, none, .call 66 [(.s 0)]⟩,
    ⟨.push, 11, none, .call 37 [(.s 0)]⟩,
    ⟨.push, 8, none, .mov (.s 0)⟩,
    ⟨.push, 12, none, .ext (.s 0) 0⟩,
    ⟨.push, 13, none, .ext (.s 1) 1⟩,
    ⟨.var 3, 4, none, .mov (.s 1)⟩,
    ⟨.push, 5, none, .mov (.s 0)⟩])
 (.seq (.test false [
    ⟨.push, 14, none, .mov (.v 2)⟩,
    ⟨.push, 15, none, .call 46 [(.s 0), (.c (.int .i64 (3)))]⟩] (.s 0)
  (.seq (.region false [
      ⟨.push, 16, none, .mov (.v 2)⟩,
      ⟨.push, 17, none, .mov (.v 3)⟩,
      ⟨.push, 18, none, .call 72 [(.s 1), (.s 0)]⟩,
      ⟨.var 1, 2, none, .mov (.s 0)⟩])
   (.ret))
  (.skip))
 (.seq (.test false [
    ⟨.push, 19, none, .mov (.v 2)⟩,
    ⟨.push, 20, none, .call 46 [(.s 0), (.c (.int .i64 (24)))]⟩] (.s 0)
  (.seq (.region false [
      ⟨.push, 22, none, .make 1 1 (.int .u8 (0)) (.c (.int .i64 (8000))) (.c (.int .i64 (8000)))⟩,
      ⟨.push, 23, none, .call 37 [(.s 0)]⟩,
      ⟨.push, 21, none, .mov (.s 0)⟩,
      ⟨.push, 24, none, .ext (.s 0) 0⟩,
      ⟨.push, 25, none, .ext (.s 1) 1⟩,
      ⟨.var 3, 4, none, .mov (.s 1)⟩])
   (.seq (.region false [
      ⟨.push, 26, none, .mov (.v 3)⟩,
      ⟨.push, 27, none, .mov (.v 2)⟩,
      ⟨.push, 28, none, .mkSl 1 (.str []) 2 [(0, (.c (.str []))), (1, (.c (.str [48, 48])))]⟩,
      ⟨.push, 29, none, .call 73 [(.s 1), (.s 0)]⟩,
      ⟨.push, 30, none, .bin false .add (.s 3) (.s 0)⟩,
      ⟨.var 1, 2, none, .mov (.s 0)⟩])
   (.ret)))
  (.skip))
 (.seq (.region false [
    ⟨.push, 31, none, .mov (.v 3)⟩,
    ⟨.var 1, 2, none, .mov (.s 0)⟩])
 (.ret)))))), [.t 1]⟩
noncomputable def t_spec_DrawBytesOfHex : List (Nat × Ctr) := [(44, c_spec_l00From), (66, c_spec_l25Bytes), (37, c_spec_HexOf), (46, c_spec_l00Src_one), (72, c_spec_l01Spoil), (73, c_spec_l00Src_text)]
theorem lk_spec_DrawBytesOfHex_44 : look t_spec_DrawBytesOfHex 44 = some c_spec_l00From := rfl
theorem lk_spec_DrawBytesOfHex_66 : look t_spec_DrawBytesOfHex 66 = some c_spec_l25Bytes := rfl
theorem lk_spec_DrawBytesOfHex_37 : look t_spec_DrawBytesOfHex 37 = some c_spec_HexOf := rfl
theorem lk_spec_DrawBytesOfHex_46 : look t_spec_DrawBytesOfHex 46 = some c_spec_l00Src_one := rfl
theorem lk_spec_DrawBytesOfHex_72 : look t_spec_DrawBytesOfHex 72 = some c_spec_l01Spoil := rfl
theorem lk_spec_DrawBytesOfHex_73 : look t_spec_DrawBytesOfHex 73 = some c_spec_l00Src_text := rfl
noncomputable def c_spec_DrawBytesOfHex : Ctr := mkF t_spec_DrawBytesOfHex ir38 [.bor]
theorem s_spec_DrawBytesOfHex : Sound Try.prog 38 c_spec_DrawBytesOfHex := mkF_sound _ rfl (snd_cons s_spec_l00From (snd_cons s_spec_l25Bytes (snd_cons s_spec_HexOf (snd_cons s_spec_l00Src_one (snd_cons s_spec_l01Spoil (snd_cons s_spec_l00Src_text snd_nil)))))) (by kernel_rfl : chkFn Try.prog 38 ir38 ir38_v = true)
theorem M_spec_DrawBytesOfHex : c_spec_DrawBytesOfHex.modes = [.bor] := rfl
theorem Fl_spec_DrawBytesOfHex : c_spec_DrawBytesOfHex.flat = true := rfl
attribute [go_sem] M_spec_DrawBytesOfHex Fl_spec_DrawBytesOfHex
attribute [go_sem] lk_spec_DrawBytesOfHex_44 lk_spec_DrawBytesOfHex_66 lk_spec_DrawBytesOfHex_37 lk_spec_DrawBytesOfHex_46 lk_spec_DrawBytesOfHex_72 lk_spec_DrawBytesOfHex_73
theorem Fs_spec_DrawBytesOfHex {code : List UInt8} {y_ : (List UInt8)} (h : spec_DrawBytesOfHex code = some y_) : c_spec_DrawBytesOfHex.F [.sl 1 (List.map byteAV code)] = ⟨true, .str y_, [.any]⟩ := by
  refine mkF_E rfl ?_
  dsimp only [spec_DrawBytesOfHex] at h
  obtain ⟨y_1, hk1, h⟩ := bd_some h
  have fhk1 := Fs_spec_l00From hk1
  try simp only [go_sem] at fhk1
  obtain ⟨y_2, hk2, h⟩ := bd_some h
  have fhk2 := Fs_spec_l25Bytes hk2
  try simp only [go_sem] at fhk2
  obtain ⟨y_3, hk3, h⟩ := bd_some h
  have fhk3 := Fs_spec_HexOf hk3
  try simp only [go_sem] at fhk3
  obtain ⟨y_4, hk4, h⟩ := bd_some h
  have fhk4 := Fs_spec_l00Src_one hk4
  try simp only [go_sem] at fhk4
  rcases it_some h with ⟨hk5, h⟩ | ⟨hk5, h⟩
  · try simp only [go_sem, n1, n2, n3, n4] at hk5
    all_goals
    obtain ⟨y_6, hk6, h⟩ := bd_some h
    have fhk6 := Fs_spec_l01Spoil hk6
    try simp only [go_sem, hk5] at fhk6
    obtain rfl := so_some h
    refine ⟨0, fun L hL => ?_⟩
    simp only [go_sem, ir38, fhk1, fhk2, fhk3, fhk4, hk5, fhk6]
  · try simp only [go_sem, n1, n2, n3, n4] at hk5
    all_goals
    obtain ⟨y_7, hk7, h⟩ := bd_some h
    have fhk7 := Fs_spec_l00Src_one hk7
    try simp only [go_sem, hk5] at fhk7
    rcases it_some h with ⟨hk8, h⟩ | ⟨hk8, h⟩
    · try simp only [go_sem, n1, n2, n3, n4, hk5] at hk8
      all_goals
      obtain ⟨hk9, h⟩ := ck_some h
      try simp only [go_sem, n1, n2, n3, n4, hk5, hk8] at hk9
      all_goals
      obtain ⟨y_10, hk10, h⟩ := bd_some h
      have fhk10 := Fs_spec_HexOf hk10
      try simp only [go_sem, hk5, hk8, hk9] at fhk10
      obtain ⟨y_11, hk11, h⟩ := bd_some h
      have fhk11 := Fs_spec_l00Src_text hk11
      try simp only [go_sem, hk5, hk8, hk9] at fhk11
      obtain ⟨hk12, h⟩ := ck_some h
      try simp only [go_sem, n1, n2, n3, n4, hk5, hk8, hk9] at hk12
      all_goals
      obtain rfl := so_some h
      refine ⟨0, fun L hL => ?_⟩
      simp only [go_sem, ir38, fhk1, fhk2, fhk3, fhk4, hk5, fhk7, hk8, hk9, fhk10, fhk11, hk12]
    · try simp only [go_sem, n1, n2, n3, n4, hk5] at hk8
      all_goals
      obtain rfl := so_some h
      refine ⟨0, fun L hL => ?_⟩
      simp only [go_sem, ir38, fhk1, fhk2, fhk3, fhk4, hk5, fhk7, hk8]


end
theorem s_hIdx : Sound Try.prog 100 c_hIdx := hIdx_sound Try.func100 (by kernel_rfl) (by kernel_rfl) (by kernel_rfl) (by kernel_rfl)

def ir89_v : List Nat := [0, 1, 4]
def ir89 : AFn := ⟨2, 3, .seq (.region false [
    ⟨.var 2, 4, none, .mov (.c (.int .i64 (0)))⟩])
 (.seq (.region false [
    ⟨.push, 5, none, .mov (.v 0)⟩,
    ⟨.push, 6, none, .mov (.v 1)⟩,
    ⟨.push, 7, none, .call 100 [(.s 1), (.s 0)]⟩,
    ⟨.var 2, 4, none, .mov (.s 0)⟩])
 (.ret)), [.t 2]⟩
noncomputable def t_internal_stringslite_IndexByte : List (Nat × Ctr) := [(100, c_hIdx)]
theorem lk_internal_stringslite_IndexByte_100 : look t_internal_stringslite_IndexByte 100 = some c_hIdx := rfl
noncomputable def c_internal_stringslite_IndexByte : Ctr := mkF t_internal_stringslite_IndexByte ir89 [.bor, .bor]
theorem s_internal_stringslite_IndexByte : Sound Try.prog 89 c_internal_stringslite_IndexByte := mkF_sound _ rfl (snd_cons s_hIdx snd_nil) (by kernel_rfl : chkFn Try.prog 89 ir89 ir89_v = true)
theorem M_internal_stringslite_IndexByte : c_internal_stringslite_IndexByte.modes = [.bor, .bor] := rfl
theorem Fl_internal_stringslite_IndexByte : c_internal_stringslite_IndexByte.flat = true := rfl
attribute [go_sem] M_internal_stringslite_IndexByte Fl_internal_stringslite_IndexByte
attribute [go_sem] lk_internal_stringslite_IndexByte_100
theorem Fs_internal_stringslite_IndexByte {s_ : List UInt8} {c : UInt8} {y_ : Int} (h : internal_stringslite_IndexByte s_ c = some y_) : c_internal_stringslite_IndexByte.F [.str s_, .int .u8 (c.toNat : Int)] = ⟨true, .int .i64 y_, [.any, .any]⟩ := by
  refine mkF_E rfl ?_
  dsimp only [internal_stringslite_IndexByte] at h
  obtain ⟨y_1, hk1, h⟩ := bd_some h
  have fhk1 := Fs_hIdx hk1
  try simp only [go_sem] at fhk1
  obtain rfl := so_some h
  refine ⟨0, fun L hL => ?_⟩
  simp only [go_sem, ir89, fhk1]


def ir74_v : List Nat := [0, 1, 4]
def ir74 : AFn := ⟨2, 3, .seq (.region false [
    ⟨.var 2, 4, none, .mov (.c (.int .i64 (0)))⟩])
 (.seq (.region false [
    ⟨.push, 5, none, .mov (.v 0)⟩,
    ⟨.push, 6, none, .mov (.v 1)⟩,
    ⟨.push, 7, none, .call 89 [(.s 1), (.s 0)]⟩,
    ⟨.var 2, 4, none, .mov (.s 0)⟩])
 (.ret)), [.t 2]⟩
noncomputable def t_strings_IndexByte : List (Nat × Ctr) := [(89, c_internal_stringslite_IndexByte)]
theorem lk_strings_IndexByte_89 : look t_strings_IndexByte 89 = some c_internal_stringslite_IndexByte := rfl
noncomputable def c_strings_IndexByte : Ctr := mkF t_strings_IndexByte ir74 [.bor, .bor]
theorem s_strings_IndexByte : Sound Try.prog 74 c_strings_IndexByte := mkF_sound _ rfl (snd_cons s_internal_stringslite_IndexByte snd_nil) (by kernel_rfl : chkFn Try.prog 74 ir74 ir74_v = true)
theorem M_strings_IndexByte : c_strings_IndexByte.modes = [.bor, .bor] := rfl
theorem Fl_strings_IndexByte : c_strings_IndexByte.flat = true := rfl
attribute [go_sem] M_strings_IndexByte Fl_strings_IndexByte
attribute [go_sem] lk_strings_IndexByte_89
theorem Fs_strings_IndexByte {s_ : List UInt8} {c : UInt8} {y_ : Int} (h : strings_IndexByte s_ c = some y_) : c_strings_IndexByte.F [.str s_, .int .u8 (c.toNat : Int)] = ⟨true, .int .i64 y_, [.any, .any]⟩ := by
  refine mkF_E rfl ?_
  dsimp only [strings_IndexByte] at h
  obtain ⟨y_1, hk1, h⟩ := bd_some h
  have fhk1 := Fs_internal_stringslite_IndexByte hk1
  try simp only [go_sem] at fhk1
  obtain rfl := so_some h
  refine ⟨0, fun L hL => ?_⟩
  simp only [go_sem, ir74, fhk1]


def ir39_b0 : IR := .seq (.test false [
    ⟨.push, 18, none, .mov (.v 4)⟩,
    ⟨.push, 19, none, .mov (.v 0)⟩,
    ⟨.push, 20, none, .len true (.s 0)⟩,
    ⟨.push, 21, none, .bin false .lss (.s 2) (.s 0)⟩] (.s 0)
  (.skip)
  (.exit 0))
 (.seq (.block 1 (.seq (.anyo 9 [
      ⟨.slot 0, 24, none, .mov (.v 0)⟩,
      ⟨.slot 1, 25, none, .mov (.v 4)⟩,
      ⟨.slot 2, 26, none, .ixStr (.s 0) (.s 1)⟩,
      ⟨.slot 3, 27, none, .callp 74 [(.c (.str [48, 49, 50, 51, 52, 53, 54, 55, 56, 57, 97, 98, 99, 100, 101, 102])), (.s 2)]⟩,
      ⟨.slot 4, 28, none, .mov (.v 0)⟩,
      ⟨.slot 5, 29, none, .mov (.v 4)⟩,
      ⟨.slot 6, 30, none, .bin false .add (.s 5) (.c (.int .i64 (1)))⟩,
      ⟨.slot 7, 31, none, .ixStr (.s 4) (.s 6)⟩,
      ⟨.slot 8, 32, none, .callp 74 [(.c (.str [48, 49, 50, 51, 52, 53, 54, 55, 56, 57, 97, 98, 99, 100, 101, 102])), (.s 7)]⟩,
      ⟨.var 5, 6, none, .mov (.s 3)⟩,
      ⟨.var 6, 7, none, .mov (.s 8)⟩] [] .skip)
   (.seq (.test false [
      ⟨.push, 33, none, .mov (.v 5)⟩,
      ⟨.push, 34, none, .bin false .lss (.s 0) (.c (.int .i64 (0)))⟩,
      ⟨.push, 35, none, .mov (.s 0)⟩,
      ⟨.push, 36, (some ((.s 0), false)), .mov (.v 6)⟩,
      ⟨.push, 37, (some ((.s 1), false)), .bin false .lss (.s 0) (.c (.int .i64 (0)))⟩,
      ⟨.push, 38, none, .pick (.s 2) (.c (.bool true)) (.s 0)⟩] (.s 0)
    (.seq (.region false [
        ⟨.var 1, 2, none, .newnil 1⟩,
        ⟨.var 2, 3, none, .mov (.c (.bool false))⟩])
     (.ret))
    (.skip))
   (.region false [
     ⟨.push, 39, none, .mov (.v 3)⟩,
     ⟨.push, 40, none, .mov (.v 5)⟩,
     ⟨.push, 41, none, .bin false .mul (.c (.int .i64 (16))) (.s 0)⟩,
     ⟨.push, 42, none, .mov (.v 6)⟩,
     ⟨.push, 43, none, .bin false .add (.s 1) (.s 0)⟩,
     ⟨.push, 44, none, .conv .u8 (.s 0)⟩,
     ⟨.push, 45, none, .mkSl 1 (.int .u8 (0)) 1 [(0, (.s 0))]⟩,
     ⟨.push, 46, none, .app 1 1 (.int .u8 (0)) (.s 6) (.s 0)⟩,
     ⟨.var 3, 4, none, .mov (.s 0)⟩]))))
 (.region false [
   ⟨.push, 22, none, .mov (.v 4)⟩,
   ⟨.push, 23, none, .bin false .add (.s 0) (.c (.int .i64 (2)))⟩,
   ⟨.var 4, 5, none, .mov (.s 0)⟩]))
def ir39_k0 : List Bool := [true, false, false, true, true, false, false]
def ir39_o0 : List Bool := [false, false, false, true, false, false, false]
def ir39_r0 : List Bool := [false, true, true, false, false, false, false]
def ir39_v : List Nat := [0, 2, 3, 4, 5, 6, 7]
def ir39 : AFn := ⟨1, 7, .seq (.region false [
    ⟨.var 1, 2, none, .newnil 1⟩,
    ⟨.var 2, 3, none, .mov (.c (.bool false))⟩])
 (.seq (.test false [
    ⟨.push, 8, none, .mov (.v 0)⟩,
    ⟨.push, 9, none, .len true (.s 0)⟩,
    ⟨.push, 10, none, .bin false .rem (.s 0) (.c (.int .i64 (2)))⟩,
    ⟨.push, 11, none, .bin false .neq (.s 0) (.c (.int .i64 (0)))⟩,
    ⟨.push, 12, none, .mov (.s 0)⟩,
    ⟨.push, 13, (some ((.s 0), false)), .mov (.v 0)⟩,
    ⟨.push, 14, (some ((.s 1), false)), .len true (.s 0)⟩,
    ⟨.push, 15, (some ((.s 2), false)), .bin false .gtr (.s 0) (.c (.int .i64 (16000)))⟩,
    ⟨.push, 16, none, .pick (.s 3) (.c (.bool true)) (.s 0)⟩] (.s 0)
  (.seq (.region false [
      ⟨.var 1, 2, none, .newnil 1⟩,
      ⟨.var 2, 3, none, .mov (.c (.bool false))⟩])
   (.ret))
  (.skip))
 (.seq (.region false [
    ⟨.push, 17, none, .mkSl 1 (.int .u8 (0)) 0 []⟩,
    ⟨.var 3, 4, none, .mov (.s 0)⟩])
 (.seq (.seq (.region false [
     ⟨.var 4, 5, none, .mov (.c (.int .i64 (0)))⟩])
  (.block 0 (.loop ir39_k0 ir39_o0 ir39_r0 ir39_b0)))
 (.seq (.region false [
    ⟨.push, 47, none, .mov (.v 3)⟩,
    ⟨.var 1, 2, none, .mov (.s 0)⟩,
    ⟨.var 2, 3, none, .mov (.c (.bool true))⟩])
 (.ret))))), [.t 1, .t 2]⟩
noncomputable def t_impl_BytesOfHex : List (Nat × Ctr) := [(74, c_strings_IndexByte)]
theorem lk_impl_BytesOfHex_74 : look t_impl_BytesOfHex 74 = some c_strings_IndexByte := rfl
noncomputable def c_impl_BytesOfHex : Ctr := mkF t_impl_BytesOfHex ir39 [.bor]
theorem s_impl_BytesOfHex : Sound Try.prog 39 c_impl_BytesOfHex := mkF_sound _ rfl (snd_cons s_strings_IndexByte snd_nil) (by kernel_rfl : chkFn Try.prog 39 ir39 ir39_v = true)
theorem M_impl_BytesOfHex : c_impl_BytesOfHex.modes = [.bor] := rfl
theorem Fl_impl_BytesOfHex : c_impl_BytesOfHex.flat = true := rfl
attribute [go_sem] M_impl_BytesOfHex Fl_impl_BytesOfHex
attribute [go_sem] lk_impl_BytesOfHex_74
def E_impl_BytesOfHex_l1 (s_ : List UInt8) : ((List UInt8) × Int) → St
  | (out, i) => ⟨[.str s_, .any, .any, .own 3200000, .int .i64 i, .any, .any], [], [(3200000, ⟨1, List.map byteAV out⟩)], true⟩
def R_impl_BytesOfHex_l1 (s_ : List UInt8) : ((List UInt8) ⊕ ((List UInt8) × Bool)) → Res
  | .inl y => (.exit 0, ⟨[.any, .any, .any, .own 3200000, .any, .any, .any], [], [(3200000, ⟨1, List.map byteAV y⟩)], true⟩)
  | .inr y => (.ret, ⟨[.any, .own 3200000, .bool y.2, .any, .any, .any, .any], [], [(3200000, ⟨1, List.map byteAV y.1⟩)], true⟩)
theorem impl_BytesOfHex_l1_ex {s_ : List UInt8} {sgm_ : (List UInt8) × Int} {rho_ : (List UInt8) ⊕ ((List UInt8) × Bool)} (h : whileE (impl_BytesOfHex_l1 s_) sgm_ = some rho_) : ∃ L0, ∀ L, L0 ≤ L → iter (exec (look t_impl_BytesOfHex) L ir39_b0) ir39_k0 ir39_o0 ir39_r0 L (E_impl_BytesOfHex_l1 s_ sgm_) = R_impl_BytesOfHex_l1 s_ rho_ := by
  refine loop_ex (E := E_impl_BytesOfHex_l1 s_) (R := R_impl_BytesOfHex_l1 s_) (fun y => by first | (intro c; cases c) | (rcases y with y | y <;> (intro c; cases c)) | (rcases y with y | y | y <;> (intro c; cases c))) ?_ h
  clear h
  rintro ⟨out, i⟩ o_ h
  dsimp only [impl_BytesOfHex_l1] at h
  rcases it_some h with ⟨hk3, h⟩ | ⟨hk3, h⟩
  · try simp only [go_sem, n1, n2, n3, n4] at hk3
    all_goals
    obtain ⟨hk4, h⟩ := ck_some h
    try simp only [go_sem, n1, n2, n3, n4, hk3] at hk4
    all_goals
    obtain ⟨y_5, hk5, h⟩ := bd_some h
    have fhk5 := Fs_strings_IndexByte hk5
    try simp only [go_sem, hk3, hk4] at fhk5
    obtain ⟨hk6, h⟩ := ck_some h
    try simp only [go_sem, n1, n2, n3, n4, hk3, hk4] at hk6
    all_goals
    obtain ⟨y_7, hk7, h⟩ := bd_some h
    have fhk7 := Fs_strings_IndexByte hk7
    try simp only [go_sem, hk3, hk4, hk6] at fhk7
    rcases it_some h with ⟨hk8, h⟩ | ⟨hk8, h⟩
    · try simp only [go_sem, n1, n2, n3, n4, hk3, hk4, hk6] at hk8
      all_goals
      obtain rfl := so_some h
      refine ⟨0, fun L hL => ?_⟩
      simp only [go_sem, ir39, E_impl_BytesOfHex_l1, R_impl_BytesOfHex_l1, ir39_b0, ir39_k0, ir39_o0, ir39_r0, hk3, hk4, fhk5, hk6, fhk7, hk8]
    · try simp only [go_sem, n1, n2, n3, n4, hk3, hk4, hk6] at hk8
      all_goals
      obtain ⟨hk9, h⟩ := ck_some h
      try simp only [go_sem, n1, n2, n3, n4, hk3, hk4, hk6, hk8] at hk9
      all_goals
      obtain rfl := so_some h
      refine ⟨0, fun L hL => ?_⟩
      simp only [go_sem, ir39, E_impl_BytesOfHex_l1, R_impl_BytesOfHex_l1, ir39_b0, ir39_k0, ir39_o0, ir39_r0, hk3, hk4, fhk5, hk6, fhk7, hk8, hk9]
  · try simp only [go_sem, n1, n2, n3, n4] at hk3
    all_goals
    obtain rfl := so_some h
    refine ⟨0, fun L hL => ?_⟩
    simp only [go_sem, ir39, E_impl_BytesOfHex_l1, R_impl_BytesOfHex_l1, ir39_b0, ir39_k0, ir39_o0, ir39_r0, hk3]

theorem Fs_impl_BytesOfHex {s_ : List UInt8} {y_ : (List UInt8) × Bool} (h : impl_BytesOfHex s_ = some y_) : c_impl_BytesOfHex.F [.str s_] = ⟨true, .tup [.fresh 1 (List.map byteAV y_.1), .bool y_.2], [.any]⟩ := by
  refine mkF_E (by simp only [flatA, flatB, flat1, List.all_cons, List.all_nil, Bool.and_self, flatE_map (f := byteAV) (fun _ => rfl)]) ?_
  dsimp only [impl_BytesOfHex] at h
  obtain ⟨hk1, h⟩ := ck_some h
  try simp only [go_sem, n1, n2, n3, n4] at hk1
  all_goals
  rcases it_some h with ⟨hk2, h⟩ | ⟨hk2, h⟩
  · try simp only [go_sem, n1, n2, n3, n4, hk1] at hk2
    all_goals
    obtain rfl := so_some h
    refine ⟨0, fun L hL => ?_⟩
    simp only [go_sem, ir39, E_impl_BytesOfHex_l1, R_impl_BytesOfHex_l1, ir39_k0, ir39_o0, ir39_r0, hk1, hk2]
  · try simp only [go_sem, n1, n2, n3, n4, hk1] at hk2
    all_goals
    obtain ⟨y_10, hk10, h⟩ := bd_some h
    obtain ⟨Lhk10, ehk10⟩ := impl_BytesOfHex_l1_ex hk10
    rcases y_10 with y_10a | y_10b
    · dsimp only at h
      obtain rfl := so_some h
      refine ⟨Lhk10, fun L hL => ?_⟩
      have ehk10 := ehk10 L (by omega)
      try simp only [go_sem, E_impl_BytesOfHex_l1, R_impl_BytesOfHex_l1, ir39_k0, ir39_o0, ir39_r0, hk1, hk2] at ehk10
      simp only [go_sem, ir39, E_impl_BytesOfHex_l1, R_impl_BytesOfHex_l1, ir39_k0, ir39_o0, ir39_r0, hk1, hk2, ehk10]
    · dsimp only at h
      obtain rfl := so_some h
      refine ⟨Lhk10, fun L hL => ?_⟩
      have ehk10 := ehk10 L (by omega)
      try simp only [go_sem, E_impl_BytesOfHex_l1, R_impl_BytesOfHex_l1, ir39_k0, ir39_o0, ir39_r0, hk1, hk2] at ehk10
      simp only [go_sem, ir39, E_impl_BytesOfHex_l1, R_impl_BytesOfHex_l1, ir39_k0, ir39_o0, ir39_r0, hk1, hk2, ehk10]


def ir90_v : List Nat := [0, 2]
def ir90 : AFn := ⟨1, 2, .seq (.region false [
    ⟨.var 1, 2, none, .mov (.c (.bool false))⟩])
 (.seq (.region false [
    ⟨.push, 3, none, .mov (.v 0)⟩,
    ⟨.push, 4, none, .bin false .geq (.s 0) (.c (.int .u8 (48)))⟩,
    ⟨.push, 5, none, .mov (.s 0)⟩,
    ⟨.push, 6, (some ((.s 0), true)), .mov (.v 0)⟩,
    ⟨.push, 7, (some ((.s 1), true)), .bin false .leq (.s 0) (.c (.int .u8 (57)))⟩,
    ⟨.push, 8, none, .pick (.s 2) (.s 0) (.c (.bool false))⟩,
    ⟨.var 1, 2, none, .mov (.s 0)⟩])
 (.ret)), [.t 1]⟩
noncomputable def t_spec_l01Digit : List (Nat × Ctr) := []
noncomputable def c_spec_l01Digit : Ctr := mkF t_spec_l01Digit ir90 [.bor]
theorem s_spec_l01Digit : Sound Try.prog 90 c_spec_l01Digit := mkF_sound _ rfl snd_nil (by kernel_rfl : chkFn Try.prog 90 ir90 ir90_v = true)
theorem M_spec_l01Digit : c_spec_l01Digit.modes = [.bor] := rfl
theorem Fl_spec_l01Digit : c_spec_l01Digit.flat = true := rfl
attribute [go_sem] M_spec_l01Digit Fl_spec_l01Digit
theorem Fs_spec_l01Digit {c : UInt8} {y_ : Bool} (h : spec_l01Digit c = some y_) : c_spec_l01Digit.F [.int .u8 (c.toNat : Int)] = ⟨true, .bool y_, [.any]⟩ := by
  refine mkF_E rfl ?_
  dsimp only [spec_l01Digit] at h
  obtain rfl := so_some h
  refine ⟨0, fun L hL => ?_⟩
  simp only [go_sem, ir90]


def ir75_v : List Nat := [0, 2]
def ir75 : AFn := ⟨1, 2, .seq (.region false [
    ⟨.var 1, 2, none, .mov (.c (.int .i64 (0)))⟩])
 (.seq (.test false [
    ⟨.push, 3, none, .mov (.v 0)⟩,
    ⟨.push, 4, none, .call 90 [(.s 0)]⟩] (.s 0)
  (.seq (.region false [
      ⟨.push, 5, none, .mov (.v 0)⟩,
      ⟨.push, 6, none, .bin false .sub (.s 0) (.c (.int .u8 (48)))⟩,
      ⟨.push, 7, none, .conv .i64 (.s 0)⟩,
      ⟨.var 1, 2, none, .mov (.s 0)⟩])
   (.ret))
  (.skip))
 (.seq (.test false [
    ⟨.push, 8, none, .mov (.v 0)⟩,
    ⟨.push, 9, none, .bin false .geq (.s 0) (.c (.int .u8 (97)))⟩,
    ⟨.push, 10, none, .mov (.s 0)⟩,
    ⟨.push, 11, (some ((.s 0), true)), .mov (.v 0)⟩,
    ⟨.push, 12, (some ((.s 1), true)), .bin false .leq (.s 0) (.c (.int .u8 (102)))⟩,
    ⟨.push, 13, none, .pick (.s 2) (.s 0) (.c (.bool false))⟩] (.s 0)
  (.seq (.region false [
      ⟨.push, 14, none, .mov (.v 0)⟩,
      ⟨.push, 15, none, .bin false .sub (.s 0) (.c (.int .u8 (97)))⟩,
      ⟨.push, 16, none, .conv .i64 (.s 0)⟩,
      ⟨.push, 17, none, .bin false .add (.s 0) (.c (.int .i64 (10)))⟩,
      ⟨.var 1, 2, none, .mov (.s 0)⟩])
   (.ret))
  (.skip))
 (.seq (.region false [
    ⟨.var 1, 2, none, .mov (.c (.int .i64 (-1)))⟩])
 (.ret)))), [.t 1]⟩
noncomputable def t_spec_l25Digit : List (Nat × Ctr) := [(90, c_spec_l01Digit)]
theorem lk_spec_l25Digit_90 : look t_spec_l25Digit 90 = some c_spec_l01Digit := rfl
noncomputable def c_spec_l25Digit : Ctr := mkF t_spec_l25Digit ir75 [.bor]
theorem s_spec_l25Digit : Sound Try.prog 75 c_spec_l25Digit := mkF_sound _ rfl (snd_cons s_spec_l01Digit snd_nil) (by kernel_rfl : chkFn Try.prog 75 ir75 ir75_v = true)
theorem M_spec_l25Digit : c_spec_l25Digit.modes = [.bor] := rfl
theorem Fl_spec_l25Digit : c_spec_l25Digit.flat = true := rfl
attribute [go_sem] M_spec_l25Digit Fl_spec_l25Digit
attribute [go_sem] lk_spec_l25Digit_90
theorem Fs_spec_l25Digit {c : UInt8} {y_ : Int} (h : spec_l25Digit c = some y_) : c_spec_l25Digit.F [.int .u8 (c.toNat : Int)] = ⟨true, .int .i64 y_, [.any]⟩ := by
  refine mkF_E rfl ?_
  dsimp only [spec_l25Digit] at h
  obtain ⟨y_1, hk1, h⟩ := bd_some h
  have fhk1 := Fs_spec_l01Digit hk1
  try simp only [go_sem] at fhk1
  rcases it_some h with ⟨hk2, h⟩ | ⟨hk2, h⟩
  · try simp only [go_sem, n1, n2, n3, n4] at hk2
    all_goals
    obtain rfl := so_some h
    refine ⟨0, fun L hL => ?_⟩
    simp only [go_sem, ir75, fhk1, hk2]
  · try simp only [go_sem, n1, n2, n3, n4] at hk2
    all_goals
    rcases it_some h with ⟨hk3, h⟩ | ⟨hk3, h⟩
    · try simp only [go_sem, n1, n2, n3, n4, hk2] at hk3
      all_goals
      obtain rfl := so_some h
      refine ⟨0, fun L hL => ?_⟩
      simp only [go_sem, ir75, fhk1, hk2, hk3]
    · try simp only [go_sem, n1, n2, n3, n4, hk2] at hk3
      all_goals
      obtain rfl := so_some h
      refine ⟨0, fun L hL => ?_⟩
      simp only [go_sem, ir75, fhk1, hk2, hk3]


def ir40_b0 : IR := .seq (.test false [
    ⟨.push, 18, none, .mov (.v 4)⟩,
    ⟨.push, 19, none, .mov (.v 0)⟩,
    ⟨.push, 20, none, .len true (.s 0)⟩,
    ⟨.push, 21, none, .bin false .lss (.s 2) (.s 0)⟩] (.s 0)
  (.skip)
  (.exit 0))
 (.seq (.block 1 (.seq (.region false [
      ⟨.push, 24, none, .mov (.v 0)⟩,
      ⟨.push, 25, none, .mov (.v 4)⟩,
      ⟨.push, 26, none, .ixStr (.s 1) (.s 0)⟩,
      ⟨.push, 27, none, .call 75 [(.s 0)]⟩,
      ⟨.var 5, 6, none, .mov (.s 0)⟩])
   (.seq (.region false [
      ⟨.push, 28, none, .mov (.v 0)⟩,
      ⟨.push, 29, none, .mov (.v 4)⟩,
      ⟨.push, 30, none, .bin false .add (.s 0) (.c (.int .i64 (1)))⟩,
      ⟨.push, 31, none, .ixStr (.s 2) (.s 0)⟩,
      ⟨.push, 32, none, .call 75 [(.s 0)]⟩,
      ⟨.var 6, 7, none, .mov (.s 0)⟩])
   (.seq (.test false [
      ⟨.push, 33, none, .mov (.v 5)⟩,
      ⟨.push, 34, none, .bin false .lss (.s 0) (.c (.int .i64 (0)))⟩,
      ⟨.push, 35, none, .mov (.s 0)⟩,
      ⟨.push, 36, (some ((.s 0), false)), .mov (.v 6)⟩,
      ⟨.push, 37, (some ((.s 1), false)), .bin false .lss (.s 0) (.c (.int .i64 (0)))⟩,
      ⟨.push, 38, none, .pick (.s 2) (.c (.bool true)) (.s 0)⟩] (.s 0)
    (.seq (.region false [
        ⟨.var 1, 2, none, .newnil 1⟩,
        ⟨.var 2, 3, none, .mov (.c (.bool false))⟩])
     (.ret))
    (.skip))
   (.region false [
     ⟨.push, 39, none, .mov (.v 3)⟩,
     ⟨.push, 40, none, .mov (.v 5)⟩,
     ⟨.push, 41, none, .bin false .mul (.c (.int .i64 (16))) (.s 0)⟩,
     ⟨.push, 42, none, .mov (.v 6)⟩,
     ⟨.push, 43, none, .bin false .add (.s 1) (.s 0)⟩,
     ⟨.push, 44, none, .conv .u8 (.s 0)⟩,
     ⟨.push, 45, none, .mkSl 1 (.int .u8 (0)) 1 [(0, (.s 0))]⟩,
     ⟨.push, 46, none, .app 1 1 (.int .u8 (0)) (.s 6) (.s 0)⟩,
     ⟨.var 3, 4, none, .mov (.s 0)⟩])))))
 (.region false [
   ⟨.push, 22, none, .mov (.v 4)⟩,
   ⟨.push, 23, none, .bin false .add (.s 0) (.c (.int .i64 (2)))⟩,
   ⟨.var 4, 5, none, .mov (.s 0)⟩]))
def ir40_k0 : List Bool := [true, false, false, true, true, false, false]
def ir40_o0 : List Bool := [false, false, false, true, false, false, false]
def ir40_r0 : List Bool := [false, true, true, false, false, false, false]
def ir40_v : List Nat := [0, 2, 3, 4, 5, 6, 7]
def ir40 : AFn := ⟨1, 7, .seq (.region false [
    ⟨.var 1, 2, none, .newnil 1⟩,
    ⟨.var 2, 3, none, .mov (.c (.bool false))⟩])
 (.seq (.test false [
    ⟨.push, 8, none, .mov (.v 0)⟩,
    ⟨.push, 9, none, .len true (.s 0)⟩,
    ⟨.push, 10, none, .bin false .rem (.s 0) (.c (.int .i64 (2)))⟩,
    ⟨.push, 11, none, .bin false .neq (.s 0) (.c (.int .i64 (0)))⟩,
    ⟨.push, 12, none, .mov (.s 0)⟩,
    ⟨.push, 13, (some ((.s 0), false)), .mov (.v 0)⟩,
    ⟨.push, 14, (some ((.s 1), false)), .len true (.s 0)⟩,
    ⟨.push, 15, (some ((.s 2), false)), .bin false .gtr (.s 0) (.c (.int .i64 (16000)))⟩,
    ⟨.push, 16, none, .pick (.s 3) (.c (.bool true)) (.s 0)⟩] (.s 0)
  (.seq (.region false [
      ⟨.var 1, 2, none, .newnil 1⟩,
      ⟨.var 2, 3, none, .mov (.c (.bool false))⟩])
   (.ret))
  (.skip))
 (.seq (.region false [
    ⟨.push, 17, none, .mkSl 1 (.int .u8 (0)) 0 []⟩,
    ⟨.var 3, 4, none, .mov (.s 0)⟩])
 (.seq (.seq (.region false [
     ⟨.var 4, 5, none, .mov (.c (.int .i64 (0)))⟩])
  (.block 0 (.loop ir40_k0 ir40_o0 ir40_r0 ir40_b0)))
 (.seq (.region false [
    ⟨.push, 47, none, .mov (.v 3)⟩,
    ⟨.var 1, 2, none, .mov (.s 0)⟩,
    ⟨.var 2, 3, none, .mov (.c (.bool true))⟩])
 (.ret))))), [.t 1, .t 2]⟩
noncomputable def t_spec_BytesOfHex : List (Nat × Ctr) := [(75, c_spec_l25Digit)]
theorem lk_spec_BytesOfHex_75 : look t_spec_BytesOfHex 75 = some c_spec_l25Digit := rfl
noncomputable def c_spec_BytesOfHex : Ctr := mkF t_spec_BytesOfHex ir40 [.bor]
theorem s_spec_BytesOfHex : Sound Try.prog 40 c_spec_BytesOfHex := mkF_sound _ rfl (snd_cons s_spec_l25Digit snd_nil) (by kernel_rfl : chkFn Try.prog 40 ir40 ir40_v = true)
theorem M_spec_BytesOfHex : c_spec_BytesOfHex.modes = [.bor] := rfl
theorem Fl_spec_BytesOfHex : c_spec_BytesOfHex.flat = true := rfl
attribute [go_sem] M_spec_BytesOfHex Fl_spec_BytesOfHex
attribute [go_sem] lk_spec_BytesOfHex_75
def E_spec_BytesOfHex_l1 (s_ : List UInt8) : ((List UInt8) × Int) → St
  | (out, i) => ⟨[.str s_, .any, .any, .own 3200000, .int .i64 i, .any, .any], [], [(3200000, ⟨1, List.map byteAV out⟩)], true⟩
def R_spec_BytesOfHex_l1 (s_ : List UInt8) : ((List UInt8) ⊕ ((List UInt8) × Bool)) → Res
  | .inl y => (.exit 0, ⟨[.any, .any, .any, .own 3200000, .any, .any, .any], [], [(3200000, ⟨1, List.map byteAV y⟩)], true⟩)
  | .inr y => (.ret, ⟨[.any, .own 3200000, .bool y.2, .any, .any, .any, .any], [], [(3200000, ⟨1, List.map byteAV y.1⟩)], true⟩)
theorem spec_BytesOfHex_l1_ex {s_ : List UInt8} {sgm_ : (List UInt8) × Int} {rho_ : (List UInt8) ⊕ ((List UInt8) × Bool)} (h : whileE (spec_BytesOfHex_l1 s_) sgm_ = some rho_) : ∃ L0, ∀ L, L0 ≤ L → iter (exec (look t_spec_BytesOfHex) L ir40_b0) ir40_k0 ir40_o0 ir40_r0 L (E_spec_BytesOfHex_l1 s_ sgm_) = R_spec_BytesOfHex_l1 s_ rho_ := by
  refine loop_ex (E := E_spec_BytesOfHex_l1 s_) (R := R_spec_BytesOfHex_l1 s_) (fun y => by first | (intro c; cases c) | (rcases y with y | y <;> (intro c; cases c)) | (rcases y with y | y | y <;> (intro c; cases c))) ?_ h
  clear h
  rintro ⟨out, i⟩ o_ h
  dsimp only [spec_BytesOfHex_l1] at h
  rcases it_some h with ⟨hk3, h⟩ | ⟨hk3, h⟩
  · try simp only [go_sem, n1, n2, n3, n4] at hk3
    all_goals
    obtain ⟨hk4, h⟩ := ck_some h
    try simp only [go_sem, n1, n2, n3, n4, hk3] at hk4
    all_goals
    obtain ⟨y_5, hk5, h⟩ := bd_some h
    have fhk5 := Fs_spec_l25Digit hk5
    try simp only [go_sem, hk3, hk4] at fhk5
    obtain ⟨hk6, h⟩ := ck_some h
    try simp only [go_sem, n1, n2, n3, n4, hk3, hk4] at hk6
    all_goals
    obtain ⟨y_7, hk7, h⟩ := bd_some h
    have fhk7 := Fs_spec_l25Digit hk7
    try simp only [go_sem, hk3, hk4, hk6] at fhk7
    rcases it_some h with ⟨hk8, h⟩ | ⟨hk8, h⟩
    · try simp only [go_sem, n1, n2, n3, n4, hk3, hk4, hk6] at hk8
      all_goals
      obtain rfl := so_some h
      refine ⟨0, fun L hL => ?_⟩
      simp only [go_sem, ir40, E_spec_BytesOfHex_l1, R_spec_BytesOfHex_l1, ir40_b0, ir40_k0, ir40_o0, ir40_r0, hk3, hk4, fhk5, hk6, fhk7, hk8]
    · try simp only [go_sem, n1, n2, n3, n4, hk3, hk4, hk6] at hk8
      all_goals
      obtain ⟨hk9, h⟩ := ck_some h
      try simp only [go_sem, n1, n2, n3, n4, hk3, hk4, hk6, hk8] at hk9
      all_goals
      obtain rfl := so_some h
      refine ⟨0, fun L hL => ?_⟩
      simp only [go_sem, ir40, E_spec_BytesOfHex_l1, R_spec_BytesOfHex_l1, ir40_b0, ir40_k0, ir40_o0, ir40_r0, hk3, hk4, fhk5, hk6, fhk7, hk8, hk9]
  · try simp only [go_sem, n1, n2, n3, n4] at hk3
    all_goals
    obtain rfl := so_some h
    refine ⟨0, fun L hL => ?_⟩
    simp only [go_sem, ir40, E_spec_BytesOfHex_l1, R_spec_BytesOfHex_l1, ir40_b0, ir40_k0, ir40_o0, ir40_r0, hk3]

theorem Fs_spec_BytesOfHex {s_ : List UInt8} {y_ : (List UInt8) × Bool} (h : spec_BytesOfHex s_ = some y_) : c_spec_BytesOfHex.F [.str s_] = ⟨true, .tup [.fresh 1 (List.map byteAV y_.1), .bool y_.2], [.any]⟩ := by
  refine mkF_E (by simp only [flatA, flatB, flat1, List.all_cons, List.all_nil, Bool.and_self, flatE_map (f := byteAV) (fun _ => rfl)]) ?_
  dsimp only [spec_BytesOfHex] at h
  obtain ⟨hk1, h⟩ := ck_some h
  try simp only [go_sem, n1, n2, n3, n4] at hk1
  all_goals
  rcases it_some h with ⟨hk2, h⟩ | ⟨hk2, h⟩
  · try simp only [go_sem, n1, n2, n3, n4, hk1] at hk2
    all_goals
    obtain rfl := so_some h
    refine ⟨0, fun L hL => ?_⟩
    simp only [go_sem, ir40, E_spec_BytesOfHex_l1, R_spec_BytesOfHex_l1, ir40_k0, ir40_o0, ir40_r0, hk1, hk2]
  · try simp only [go_sem, n1, n2, n3, n4, hk1] at hk2
    all_goals
    obtain ⟨y_10, hk10, h⟩ := bd_some h
    obtain ⟨Lhk10, ehk10⟩ := spec_BytesOfHex_l1_ex hk10
    rcases y_10 with y_10a | y_10b
    · dsimp only at h
      obtain rfl := so_some h
      refine ⟨Lhk10, fun L hL => ?_⟩
      have ehk10 := ehk10 L (by omega)
      try simp only [go_sem, E_spec_BytesOfHex_l1, R_spec_BytesOfHex_l1, ir40_k0, ir40_o0, ir40_r0, hk1, hk2] at ehk10
      simp only [go_sem, ir40, E_spec_BytesOfHex_l1, R_spec_BytesOfHex_l1, ir40_k0, ir40_o0, ir40_r0, hk1, hk2, ehk10]
    · dsimp only at h
      obtain rfl := so_some h
      refine ⟨Lhk10, fun L hL => ?_⟩
      have ehk10 := ehk10 L (by omega)
      try simp only [go_sem, E_spec_BytesOfHex_l1, R_spec_BytesOfHex_l1, ir40_k0, ir40_o0, ir40_r0, hk1, hk2] at ehk10
      simp only [go_sem, ir40, E_spec_BytesOfHex_l1, R_spec_BytesOfHex_l1, ir40_k0, ir40_o0, ir40_r0, hk1, hk2, ehk10]


def ir41_v : List Nat := [0, 2]
def ir41 : AFn := ⟨1, 2, .seq (.region false [
    ⟨.var 1, 2, none, .newnil 1⟩])
 (.seq (.region false [
    ⟨.push, 3, none, .mov (.v 0)⟩,
    ⟨.push, 4, none, .call 44 [(.s 0)]⟩,
    ⟨.push, 5, none, .call 66 [(.s 0)]⟩,
    ⟨.var 1, 2, none, .mov (.s 0)⟩])
 (.ret)), [.t 1]⟩
noncomputable def t_spec_DrawSumOfBytes : List (Nat × Ctr) := [(44, c_spec_l00From), (66, c_spec_l25Bytes)]
theorem lk_spec_DrawSumOfBytes_44 : look t_spec_DrawSumOfBytes 44 = some c_spec_l00From := rfl
theorem lk_spec_DrawSumOfBytes_66 : look t_spec_DrawSumOfBytes 66 = some c_spec_l25Bytes := rfl
noncomputable def c_spec_DrawSumOfBytes : Ctr := mkF t_spec_DrawSumOfBytes ir41 [.bor]
theorem s_spec_DrawSumOfBytes : Sound Try.prog 41 c_spec_DrawSumOfBytes := mkF_sound _ rfl (snd_cons s_spec_l00From (snd_cons s_spec_l25Bytes snd_nil)) (by kernel_rfl : chkFn Try.prog 41 ir41 ir41_v = true)
theorem M_spec_DrawSumOfBytes : c_spec_DrawSumOfBytes.modes = [.bor] := rfl
theorem Fl_spec_DrawSumOfBytes : c_spec_DrawSumOfBytes.flat = true := rfl
attribute [go_sem] M_spec_DrawSumOfBytes Fl_spec_DrawSumOfBytes
attribute [go_sem] lk_spec_DrawSumOfBytes_44 lk_spec_DrawSumOfBytes_66
theorem Fs_spec_DrawSumOfBytes {code : List UInt8} {y_ : (List UInt8)} (h : spec_DrawSumOfBytes code = some y_) : c_spec_DrawSumOfBytes.F [.sl 1 (List.map byteAV code)] = ⟨true, .fresh 1 (List.map byteAV y_), [.any]⟩ := by
  refine mkF_E (by simp only [flatA, flatB, flat1, List.all_cons, List.all_nil, Bool.and_self, flatE_map (f := byteAV) (fun _ => rfl)]) ?_
  dsimp only [spec_DrawSumOfBytes] at h
  obtain ⟨y_1, hk1, h⟩ := bd_some h
  have fhk1 := Fs_spec_l00From hk1
  try simp only [go_sem] at fhk1
  obtain ⟨y_2, hk2, h⟩ := bd_some h
  have fhk2 := Fs_spec_l25Bytes hk2
  try simp only [go_sem] at fhk2
  obtain rfl := so_some h
  refine ⟨0, fun L hL => ?_⟩
  simp only [go_sem, ir41, fhk1, fhk2]


def ir42_b0 : IR := .seq (.region false [
    ⟨.var 8, 10, none, .bin false .lss (.v 7) (.v 6)⟩])
 (.seq (.cond (.v 8) (.skip)
  (.exit 0))
 (.seq (.block 1 (.seq (.region false [
      ⟨.push, 11, none, .ixAddr 1 (.v 5) (.v 7)⟩,
      ⟨.push, 12, none, .load false 1 (.s 0)⟩,
      ⟨.var 4, 6, none, .mov (.s 0)⟩])
   (.seq (.region false [
      ⟨.push, 13, none, .mov (.v 2)⟩,
      ⟨.push, 14, none, .mov (.v 4)⟩,
      ⟨.push, 15, none, .conv .i64 (.s 0)⟩,
      ⟨.push, 16, none, .bin false .add (.s 2) (.s 0)⟩,
      ⟨.push, 17, none, .bin false .rem (.s 0) (.c (.int .i64 (251)))⟩,
      ⟨.var 2, 3, none, .mov (.s 0)⟩])
   (.region false [
     ⟨.push, 18, none, .mov (.v 3)⟩,
     ⟨.push, 19, none, .mov (.v 2)⟩,
     ⟨.push, 20, none, .bin false .add (.s 1) (.s 0)⟩,
     ⟨.push, 21, none, .bin false .rem (.s 0) (.c (.int .i64 (251)))⟩,
     ⟨.var 3, 4, none, .mov (.s 0)⟩]))))
 (.region false [
   ⟨.push, 22, none, .bin false .add (.v 7) (.c (.int .i64 (1)))⟩,
   ⟨.var 7, 9, none, .mov (.s 0)⟩])))
def ir42_k0 : List Bool := [false, false, true, true, false, true, true, true, false]
def ir42_o0 : List Bool := [false, false, true, true, false, false, false, false, false]
def ir42_r0 : List Bool := [false, true, false, false, false, false, false, false, false]
def ir42_v : List Nat := [0, 2, 3, 4, 6, 7, 8, 9, 10]
def ir42 : AFn := ⟨1, 9, .seq (.region false [
    ⟨.var 1, 2, none, .mov (.c (.int .i64 (0)))⟩])
 (.seq (.region false [
    ⟨.var 2, 3, none, .mov (.c (.int .i64 (1)))⟩,
    ⟨.var 3, 4, none, .mov (.c (.int .i64 (0)))⟩])
 (.seq (.seq (.region false [
     ⟨.var 5, 7, none, .mov (.v 0)⟩,
     ⟨.var 6, 8, none, .len false (.v 5)⟩,
     ⟨.var 7, 9, none, .mov (.c (.int .i64 (0)))⟩])
  (.block 0 (.loop ir42_k0 ir42_o0 ir42_r0 ir42_b0)))
 (.seq (.region false [
    ⟨.push, 23, none, .mov (.v 3)⟩,
    ⟨.push, 24, none, .bin false .mul (.c (.int .i64 (251))) (.s 0)⟩,
    ⟨.push, 25, none, .mov (.v 2)⟩,
    ⟨.push, 26, none, .bin false .add (.s 1) (.s 0)⟩,
    ⟨.var 1, 2, none, .mov (.s 0)⟩])
 (.ret)))), [.t 1]⟩
noncomputable def t_impl_SumOfBytes : List (Nat × Ctr) := []
noncomputable def c_impl_SumOfBytes : Ctr := mkF t_impl_SumOfBytes ir42 [.bor]
theorem s_impl_SumOfBytes : Sound Try.prog 42 c_impl_SumOfBytes := mkF_sound _ rfl snd_nil (by kernel_rfl : chkFn Try.prog 42 ir42 ir42_v = true)
theorem M_impl_SumOfBytes : c_impl_SumOfBytes.modes = [.bor] := rfl
theorem Fl_impl_SumOfBytes : c_impl_SumOfBytes.flat = true := rfl
attribute [go_sem] M_impl_SumOfBytes Fl_impl_SumOfBytes
def E_impl_SumOfBytes_l1 (t7 : List UInt8) (t8 : Int) : (Int × Int × Int) → St
  | (s_, t, t9) => ⟨[.any, .any, .int .i64 s_, .int .i64 t, .any, .sl 1 (List.map byteAV t7), .int .i64 t8, .int .i64 t9, .any], [], [], true⟩
def R_impl_SumOfBytes_l1 (t7 : List UInt8) (t8 : Int) (y : Int × Int) : Res := (.exit 0, ⟨[.any, .any, .int .i64 y.1, .int .i64 y.2, .any, .any, .any, .any, .any], [], [], true⟩)
theorem impl_SumOfBytes_l1_ex {t7 : List UInt8} {t8 : Int} {sgm_ : Int × Int × Int} {rho_ : Int × Int} (h : whileE (impl_SumOfBytes_l1 t7 t8) sgm_ = some rho_) : ∃ L0, ∀ L, L0 ≤ L → iter (exec (look t_impl_SumOfBytes) L ir42_b0) ir42_k0 ir42_o0 ir42_r0 L (E_impl_SumOfBytes_l1 t7 t8 sgm_) = R_impl_SumOfBytes_l1 t7 t8 rho_ := by
  refine loop_ex (E := E_impl_SumOfBytes_l1 t7 t8) (R := R_impl_SumOfBytes_l1 t7 t8) (fun y => by first | (intro c; cases c) | (rcases y with y | y <;> (intro c; cases c)) | (rcases y with y | y | y <;> (intro c; cases c))) ?_ h
  clear h
  rintro ⟨s_, t, t9⟩ o_ h
  dsimp only [impl_SumOfBytes_l1] at h
  rcases it_some h with ⟨hk1, h⟩ | ⟨hk1, h⟩
  · try simp only [go_sem, n1, n2, n3, n4] at hk1
    all_goals
    obtain ⟨hk2, h⟩ := ck_some h
    have lhk2 := ix_lt hk2
    have xhk2 := getD_mapD byteAV t7 lhk2
    try simp only [go_sem] at lhk2
    try simp only [go_sem] at xhk2
    try simp only [go_sem, n1, n2, n3, n4, hk1] at hk2
    all_goals
    obtain ⟨hk3, h⟩ := ck_some h
    try simp only [go_sem, n1, n2, n3, n4, hk1, hk2] at hk3
    all_goals
    obtain rfl := so_some h
    refine ⟨0, fun L hL => ?_⟩
    simp only [go_sem, ir42, E_impl_SumOfBytes_l1, R_impl_SumOfBytes_l1, ir42_b0, ir42_k0, ir42_o0, ir42_r0, hk1, hk2, lhk2, xhk2, hk3]
  · try simp only [go_sem, n1, n2, n3, n4] at hk1
    all_goals
    obtain rfl := so_some h
    refine ⟨0, fun L hL => ?_⟩
    simp only [go_sem, ir42, E_impl_SumOfBytes_l1, R_impl_SumOfBytes_l1, ir42_b0, ir42_k0, ir42_o0, ir42_r0, hk1]

theorem Fs_impl_SumOfBytes {b : List UInt8} {y_ : Int} (h : impl_SumOfBytes b = some y_) : c_impl_SumOfBytes.F [.sl 1 (List.map byteAV b)] = ⟨true, .int .i64 y_, [.any]⟩ := by
  refine mkF_E rfl ?_
  dsimp only [impl_SumOfBytes] at h
  obtain ⟨y_4, hk4, h⟩ := bd_some h
  obtain ⟨Lhk4, ehk4⟩ := impl_SumOfBytes_l1_ex hk4
  obtain rfl := so_some h
  refine ⟨Lhk4, fun L hL => ?_⟩
  have ehk4 := ehk4 L (by omega)
  try simp only [go_sem, E_impl_SumOfBytes_l1, R_impl_SumOfBytes_l1, ir42_k0, ir42_o0, ir42_r0] at ehk4
  simp only [go_sem, ir42, E_impl_SumOfBytes_l1, R_impl_SumOfBytes_l1, ir42_k0, ir42_o0, ir42_r0, ehk4]


def ir76_b0 : IR := .seq (.test false [
    ⟨.push, 6, none, .mov (.v 4)⟩,
    ⟨.push, 7, none, .mov (.v 0)⟩,
    ⟨.push, 8, none, .len false (.s 0)⟩,
    ⟨.push, 9, none, .bin false .lss (.s 2) (.s 0)⟩] (.s 0)
  (.skip)
  (.exit 0))
 (.seq (.block 1 (.seq (.region false [
      ⟨.push, 12, none, .mov (.v 2)⟩,
      ⟨.push, 13, none, .mov (.v 0)⟩,
      ⟨.push, 14, none, .mov (.v 4)⟩,
      ⟨.push, 15, none, .ixAddr 1 (.s 1) (.s 0)⟩,
      ⟨.push, 16, none, .load false 1 (.s 0)⟩,
      ⟨.push, 17, none, .conv .i64 (.s 0)⟩,
      ⟨.push, 18, none, .bin false .add (.s 5) (.s 0)⟩,
      ⟨.push, 19, none, .bin false .rem (.s 0) (.c (.int .i64 (251)))⟩,
      ⟨.var 2, 3, none, .mov (.s 0)⟩])
   (.region false [
     ⟨.push, 20, none, .mov (.v 3)⟩,
     ⟨.push, 21, none, .mov (.v 2)⟩,
     ⟨.push, 22, none, .bin false .add (.s 1) (.s 0)⟩,
     ⟨.push, 23, none, .bin false .rem (.s 0) (.c (.int .i64 (251)))⟩,
     ⟨.var 3, 4, none, .mov (.s 0)⟩])))
 (.region false [
   ⟨.push, 10, none, .mov (.v 4)⟩,
   ⟨.push, 11, none, .bin false .add (.s 0) (.c (.int .i64 (1)))⟩,
   ⟨.var 4, 5, none, .mov (.s 0)⟩]))
def ir76_k0 : List Bool := [true, false, true, true, true]
def ir76_o0 : List Bool := [false, false, true, true, false]
def ir76_r0 : List Bool := [false, true, false, false, false]
def ir76_v : List Nat := [0, 2, 3, 4, 5]
def ir76 : AFn := ⟨1, 5, .seq (.region false [
    ⟨.var 1, 2, none, .mov (.c (.int .i64 (0)))⟩])
 (.seq (.region false [
    ⟨.var 2, 3, none, .mov (.c (.int .i64 (1)))⟩])
 (.seq (.region false [
    ⟨.var 3, 4, none, .mov (.c (.int .i64 (0)))⟩])
 (.seq (.seq (.region false [
     ⟨.var 4, 5, none, .mov (.c (.int .i64 (0)))⟩])
  (.block 0 (.loop ir76_k0 ir76_o0 ir76_r0 ir76_b0)))
 (.seq (.region false [
    ⟨.push, 24, none, .mov (.v 3)⟩,
    ⟨.push, 25, none, .bin false .mul (.c (.int .i64 (251))) (.s 0)⟩,
    ⟨.push, 26, none, .mov (.v 2)⟩,
    ⟨.push, 27, none, .bin false .add (.s 1) (.s 0)⟩,
    ⟨.var 1, 2, none, .mov (.s 0)⟩])
 (.ret))))), [.t 1]⟩
noncomputable def t_spec_l25Sum : List (Nat × Ctr) := []
noncomputable def c_spec_l25Sum : Ctr := mkF t_spec_l25Sum ir76 [.bor]
theorem s_spec_l25Sum : Sound Try.prog 76 c_spec_l25Sum := mkF_sound _ rfl snd_nil (by kernel_rfl : chkFn Try.prog 76 ir76 ir76_v = true)
theorem M_spec_l25Sum : c_spec_l25Sum.modes = [.bor] := rfl
theorem Fl_spec_l25Sum : c_spec_l25Sum.flat = true := rfl
attribute [go_sem] M_spec_l25Sum Fl_spec_l25Sum
def E_spec_l25Sum_l1 (b : List UInt8) : (Int × Int × Int) → St
  | (sum, all, i) => ⟨[.sl 1 (List.map byteAV b), .any, .int .i64 sum, .int .i64 all, .int .i64 i], [], [], true⟩
def R_spec_l25Sum_l1 (b : List UInt8) (y : Int × Int) : Res := (.exit 0, ⟨[.any, .any, .int .i64 y.1, .int .i64 y.2, .any], [], [], true⟩)
theorem spec_l25Sum_l1_ex {b : List UInt8} {sgm_ : Int × Int × Int} {rho_ : Int × Int} (h : whileE (spec_l25Sum_l1 b) sgm_ = some rho_) : ∃ L0, ∀ L, L0 ≤ L → iter (exec (look t_spec_l25Sum) L ir76_b0) ir76_k0 ir76_o0 ir76_r0 L (E_spec_l25Sum_l1 b sgm_) = R_spec_l25Sum_l1 b rho_ := by
  refine loop_ex (E := E_spec_l25Sum_l1 b) (R := R_spec_l25Sum_l1 b) (fun y => by first | (intro c; cases c) | (rcases y with y | y <;> (intro c; cases c)) | (rcases y with y | y | y <;> (intro c; cases c))) ?_ h
  clear h
  rintro ⟨sum, all, i⟩ o_ h
  dsimp only [spec_l25Sum_l1] at h
  rcases it_some h with ⟨hk1, h⟩ | ⟨hk1, h⟩
  · try simp only [go_sem, n1, n2, n3, n4] at hk1
    all_goals
    obtain ⟨hk2, h⟩ := ck_some h
    have lhk2 := ix_lt hk2
    have xhk2 := getD_mapD byteAV b lhk2
    try simp only [go_sem] at lhk2
    try simp only [go_sem] at xhk2
    try simp only [go_sem, n1, n2, n3, n4, hk1] at hk2
    all_goals
    obtain ⟨hk3, h⟩ := ck_some h
    try simp only [go_sem, n1, n2, n3, n4, hk1, hk2] at hk3
    all_goals
    obtain rfl := so_some h
    refine ⟨0, fun L hL => ?_⟩
    simp only [go_sem, ir76, E_spec_l25Sum_l1, R_spec_l25Sum_l1, ir76_b0, ir76_k0, ir76_o0, ir76_r0, hk1, hk2, lhk2, xhk2, hk3]
  · try simp only [go_sem, n1, n2, n3, n4] at hk1
    all_goals
    obtain rfl := so_some h
    refine ⟨0, fun L hL => ?_⟩
    simp only [go_sem, ir76, E_spec_l25Sum_l1, R_spec_l25Sum_l1, ir76_b0, ir76_k0, ir76_o0, ir76_r0, hk1]

theorem Fs_spec_l25Sum {b : List UInt8} {y_ : Int} (h : spec_l25Sum b = some y_) : c_spec_l25Sum.F [.sl 1 (List.map byteAV b)] = ⟨true, .int .i64 y_, [.any]⟩ := by
  refine mkF_E rfl ?_
  dsimp only [spec_l25Sum] at h
  obtain ⟨y_4, hk4, h⟩ := bd_some h
  obtain ⟨Lhk4, ehk4⟩ := spec_l25Sum_l1_ex hk4
  obtain rfl := so_some h
  refine ⟨Lhk4, fun L hL => ?_⟩
  have ehk4 := ehk4 L (by omega)
  try simp only [go_sem, E_spec_l25Sum_l1, R_spec_l25Sum_l1, ir76_k0, ir76_o0, ir76_r0] at ehk4
  simp only [go_sem, ir76, E_spec_l25Sum_l1, R_spec_l25Sum_l1, ir76_k0, ir76_o0, ir76_r0, ehk4]


def ir43_v : List Nat := [0, 2]
def ir43 : AFn := ⟨1, 2, .seq (.region false [
    ⟨.var 1, 2, none, .mov (.c (.int .i64 (0)))⟩])
 (.seq (.region false [
    ⟨.push, 3, none, .mov (.v 0)⟩,
    ⟨.push, 4, none, .call 76 [(.s 0)]⟩,
    ⟨.var 1, 2, none, .mov (.s 0)⟩])
 (.ret)), [.t 1]⟩
noncomputable def t_spec_SumOfBytes : List (Nat × Ctr) := [(76, c_spec_l25Sum)]
theorem lk_spec_SumOfBytes_76 : look t_spec_SumOfBytes 76 = some c_spec_l25Sum := rfl
noncomputable def c_spec_SumOfBytes : Ctr := mkF t_spec_SumOfBytes ir43 [.bor]
theorem s_spec_SumOfBytes : Sound Try.prog 43 c_spec_SumOfBytes := mkF_sound _ rfl (snd_cons s_spec_l25Sum snd_nil) (by kernel_rfl : chkFn Try.prog 43 ir43 ir43_v = true)
theorem M_spec_SumOfBytes : c_spec_SumOfBytes.modes = [.bor] := rfl
theorem Fl_spec_SumOfBytes : c_spec_SumOfBytes.flat = true := rfl
attribute [go_sem] M_spec_SumOfBytes Fl_spec_SumOfBytes
attribute [go_sem] lk_spec_SumOfBytes_76
theorem Fs_spec_SumOfBytes {b : List UInt8} {y_ : Int} (h : spec_SumOfBytes b = some y_) : c_spec_SumOfBytes.F [.sl 1 (List.map byteAV b)] = ⟨true, .int .i64 y_, [.any]⟩ := by
  refine mkF_E rfl ?_
  dsimp only [spec_SumOfBytes] at h
  obtain ⟨y_1, hk1, h⟩ := bd_some h
  have fhk1 := Fs_spec_l25Sum hk1
  try simp only [go_sem] at fhk1
  obtain rfl := so_some h
  refine ⟨0, fun L hL => ?_⟩
  simp only [go_sem, ir43, fhk1]


def ir5_v : List Nat := [0, 2, 3, 4, 5, 6, 7, 8, 9, 10, 11, 12, 13, 14, 15, 16, 17, 18, 19, 20, 21, 22, 23, 24, 25, 26, 27, 28, 29, 30, 31, 32, 33, 34, 35, 36, 37, 38, 39, 40, 41, 42]
def ir5 : AFn := ⟨1, 42, .seq (.region false [
    ⟨.var 1, 2, none, .mov (.c (.bool false))⟩])
 (.seq (.test false [
    ⟨.push, 43, none, .mov (.v 0)⟩,
    ⟨.push, 44, none, .call 6 [(.s 0)]⟩] (.s 0)
  (.seq (.region false [
      ⟨.var 1, 2, none, .mov (.c (.bool true))⟩])
   (.ret))
  (.skip))
 (.seq (.region false [
    ⟨.push, 45, none, .mov (.v 0)⟩,
    ⟨.push, 46, none, .call 23 [(.s 0)]⟩,
    ⟨.var 2, 3, none, .mov (.s 0)⟩])
 (.seq (.region false [
    ⟨.push, 48, none, .mov (.v 2)⟩,
    ⟨.push, 49, none, .call 24 [(.s 0)]⟩,
    ⟨.push, 47, none, .mov (.s 0)⟩,
    ⟨.push, 50, none, .ext (.s 0) 0⟩,
    ⟨.push, 51, none, .ext (.s 1) 1⟩,
    ⟨.var 3, 4, none, .mov (.s 1)⟩,
    ⟨.var 4, 5, none, .mov (.s 0)⟩])
 (.seq (.region false [
    ⟨.push, 53, none, .mov (.v 2)⟩,
    ⟨.push, 54, none, .call 25 [(.s 0)]⟩,
    ⟨.push, 52, none, .mov (.s 0)⟩,
    ⟨.push, 55, none, .ext (.s 0) 0⟩,
    ⟨.push, 56, none, .ext (.s 1) 1⟩,
    ⟨.var 5, 6, none, .mov (.s 1)⟩,
    ⟨.var 6, 7, none, .mov (.s 0)⟩])
 (.seq (.region false [
    ⟨.push, 57, none, .mov (.v 0)⟩,
    ⟨.push, 58, none, .call 26 [(.s 0)]⟩,
    ⟨.var 7, 8, none, .mov (.s 0)⟩])
 (.seq (.region false [
    ⟨.push, 60, none, .mov (.v 7)⟩,
    ⟨.push, 61, none, .call 27 [(.s 0)]⟩,
    ⟨.push, 59, none, .mov (.s 0)⟩,
    ⟨.push, 62, none, .ext (.s 0) 0⟩,
    ⟨.push, 63, none, .ext (.s 1) 1⟩,
    ⟨.push, 64, none, .ext (.s 2) 2⟩,
    ⟨.var 8, 9, none, .mov (.s 2)⟩,
    ⟨.var 9, 10, none, .mov (.s 1)⟩,
    ⟨.var 10, 11, none, .mov (.s 0)⟩])
 (.seq (.region false [
    ⟨.push, 66, none, .mov (.v 7)⟩,
    ⟨.push, 67, none, .call 28 [(.s 0)]⟩,
    ⟨.push, 65, none, .mov (.s 0)⟩,
    ⟨.push, 68, none, .ext (.s 0) 0⟩,
    ⟨.push, 69, none, .ext (.s 1) 1⟩,
    ⟨.push, 70, none, .ext (.s 2) 2⟩,
    ⟨.var 11, 12, none, .mov (.s 2)⟩,
    ⟨.var 12, 13, none, .mov (.s 1)⟩,
    ⟨.var 13, 14, none, .mov (.s 0)⟩])
 (.seq (.region false [
    ⟨.push, 71, none, .mov (.v 0)⟩,
    ⟨.push, 72, none, .call 29 [(.s 0)]⟩,
    ⟨.var 14, 15, none, .mov (.s 0)⟩])
 (.seq (.region false [
    ⟨.push, 74, none, .mov (.v 14)⟩,
    ⟨.push, 75, none, .call 30 [(.s 0)]⟩,
    ⟨.push, 73, none, .mov (.s 0)⟩,
    ⟨.push, 76, none, .ext (.s 0) 0⟩,
    ⟨.push, 77, none, .ext (.s 1) 1⟩,
    ⟨.var 15, 16, none, .mov (.s 1)⟩,
    ⟨.var 16, 17, none, .mov (.s 0)⟩])
 (.seq (.region false [
    ⟨.push, 79, none, .mov (.v 14)⟩,
    ⟨.push, 80, none, .call 31 [(.s 0)]⟩,
    ⟨.push, 78, none, .mov (.s 0)⟩,
    ⟨.push, 81, none, .ext (.s 0) 0⟩,
    ⟨.push, 82, none, .ext (.s 1) 1⟩,
    ⟨.var 17, 18, none, .mov (.s 1)⟩,
    ⟨.var 18, 19, none, .mov (.s 0)⟩])
 (.seq (.region false [
    ⟨.push, 83, none, .mov (.v 0)⟩,
    ⟨.push, 84, none, .call 32 [(.s 0)]⟩,
    ⟨.var 19, 20, none, .mov (.s 0)⟩])
 (.seq (.region false [
    ⟨.push, 86, none, .mov (.v 19)⟩,
    ⟨.push, 87, none, .call 33 [(.s 0)]⟩,
    ⟨.push, 85, none, .mov (.s 0)⟩,
    ⟨.push, 88, none, .ext (.s 0) 0⟩,
    ⟨.push, 89, none, .ext (.s 1) 1⟩,
    ⟨.var 20, 21, none, .mov (.s 1)⟩,
    ⟨.var 21, 22, none, .mov (.s 0)⟩])
 (.seq (.region false [
    ⟨.push, 91, none, .mov (.v 19)⟩,
    ⟨.push, 92, none, .call 34 [(.s 0)]⟩,
    ⟨.push, 90, none, .mov (.s 0)⟩,
    ⟨.push, 93, none, .ext (.s 0) 0⟩,
    ⟨.push, 94, none, .ext (.s 1) 1⟩,
    ⟨.var 22, 23, none, .mov (.s 1)⟩,
    ⟨.var 23, 24, none, .mov (.s 0)⟩])
 (.seq (.region false [
    ⟨.push, 95, none, .mov (.v 0)⟩,
    ⟨.push, 96, none, .call 35 [(.s 0)]⟩,
    ⟨.var 24, 25, none, .mov (.s 0)⟩])
 (.seq (.region false [
    ⟨.push, 98, none, .mov (.v 24)⟩,
    ⟨.push, 99, none, .call 36 [(.s 0)]⟩,
    ⟨.push, 97, none, .mov (.s 0)⟩,
    ⟨.push, 100, none, .ext (.s 0) 0⟩,
    ⟨.push, 101, none, .ext (.s 1) 1⟩,
    ⟨.var 25, 26, none, .mov (.s 1)⟩,
    ⟨.var 26, 27, none, .mov (.s 0)⟩])
 (.seq (.region false [
    ⟨.push, 103, none, .mov (.v 24)⟩,
    ⟨.push, 104, none, .call 37 [(.s 0)]⟩,
    ⟨.push, 102, none, .mov (.s 0)⟩,
    ⟨.push, 105, none, .ext (.s 0) 0⟩,
    ⟨.push, 106, none, .ext (.s 1) 1⟩,
    ⟨.var 27, 28, none, .mov (.s 1)⟩,
    ⟨.var 28, 29, none, .mov (.s 0)⟩])
 (.seq (.region false [
    ⟨.push, 107, none, .mov (.v 0)⟩,
    ⟨.push, 108, none, .call 38 [(.s 0)]⟩,
    ⟨.var 29, 30, none, .mov (.s 0)⟩])
 (.seq (.region false [
    ⟨.push, 110, none, .mov (.v 29)⟩,
    ⟨.push, 111, none, .call 39 [(.s 0)]⟩,
    ⟨.push, 109, none, .mov (.s 0)⟩,
    ⟨.push, 112, none, .ext (.s 0) 0⟩,
    ⟨.push, 113, none, .ext (.s 1) 1⟩,
    ⟨.var 30, 31, none, .mov (.s 1)⟩,
    ⟨.var 31, 32, none, .mov (.s 0)⟩])
 (.seq (.region false [
    ⟨.push, 115, none, .mov (.v 29)⟩,
    ⟨.push, 116, none, .call 40 [(.s 0)]⟩,
    ⟨.push, 114, none, .mov (.s 0)⟩,
    ⟨.push, 117, none, .ext (.s 0) 0⟩,
    ⟨.push, 118, none, .ext (.s 1) 1⟩,
    ⟨.var 32, 33, none, .mov (.s 1)⟩,
    ⟨.var 33, 34, none, .mov (.s 0)⟩])
 (.seq (.region false [
    ⟨.push, 119, none, .mov (.v 0)⟩,
    ⟨.push, 120, none, .call 41 [(.s 0)]⟩,
    ⟨.var 34, 35, none, .mov (.s 0)⟩])
 (.seq (.test false [
    ⟨.push, 121, none, .mov (.v 4)⟩,
    ⟨.push, 122, none, .mov (.v 6)⟩,
    ⟨.push, 123, none, .bin false .neq (.s 1) (.s 0)⟩,
    ⟨.push, 124, none, .mov (.s 0)⟩,
    ⟨.push, 125, (some ((.s 0), false)), .mov (.v 3)⟩,
    ⟨.push, 126, (some ((.s 1), false)), .b2s (.s 0)⟩,
    ⟨.push, 127, (some ((.s 2), false)), .mov (.v 5)⟩,
    ⟨.push, 128, (some ((.s 3), false)), .b2s (.s 0)⟩,
    ⟨.push, 129, (some ((.s 4), false)), .bin false .neq (.s 2) (.s 0)⟩,
    ⟨.push, 130, none, .pick (.s 5) (.c (.bool true)) (.s 0)⟩,
    ⟨.push, 131, none, .mov (.s 0)⟩,
    ⟨.push, 132, (some ((.s 0), false)), .mov (.v 8)⟩,
    ⟨.push, 133, (some ((.s 1), false)), .mov (.v 11)⟩,
    ⟨.push, 134, (some ((.s 2), false)), .bin false .neq (.s 1) (.s 0)⟩,
    ⟨.push, 135, none, .pick (.s 3) (.c (.bool true)) (.s 0)⟩,
    ⟨.push, 136, none, .mov (.s 0)⟩,
    ⟨.push, 137, (some ((.s 0), false)), .mov (.v 9)⟩,
    ⟨.push, 138, (some ((.s 1), false)), .mov (.v 12)⟩,
    ⟨.push, 139, (some ((.s 2), false)), .bin false .neq (.s 1) (.s 0)⟩,
    ⟨.push, 140, none, .pick (.s 3) (.c (.bool true)) (.s 0)⟩,
    ⟨.push, 141, none, .mov (.s 0)⟩,
    ⟨.push, 142, (some ((.s 0), false)), .mov (.v 10)⟩,
    ⟨.push, 143, (some ((.s 1), false)), .mov (.v 13)⟩,
    ⟨.push, 144, (some ((.s 2), false)), .bin true .neq (.s 1) (.s 0)⟩,
    ⟨.push, 145, none, .pick (.s 3) (.c (.bool true)) (.s 0)⟩,
    ⟨.push, 146, none, .mov (.s 0)⟩,
    ⟨.push, 147, (some ((.s 0), false)), .mov (.v 16)⟩,
    ⟨.push, 148, (some ((.s 1), false)), .mov (.v 18)⟩,
    ⟨.push, 149, (some ((.s 2), false)), .bin false .neq (.s 1) (.s 0)⟩,
    ⟨.push, 150, none, .pick (.s 3) (.c (.bool true)) (.s 0)⟩,
    ⟨.push, 151, none, .mov (.s 0)⟩,
    ⟨.push, 152, (some ((.s 0), false)), .mov (.v 15)⟩,
    ⟨.push, 153, (some ((.s 1), false)), .mov (.v 17)⟩,
    ⟨.push, 154, (some ((.s 2), false)), .bin false .neq (.s 1) (.s 0)⟩,
    ⟨.push, 155, none, .pick (.s 3) (.c (.bool true)) (.s 0)⟩,
    ⟨.push, 156, none, .mov (.s 0)⟩,
    ⟨.push, 157, (some ((.s 0), false)), .mov (.v 21)⟩,
    ⟨.push, 158, (some ((.s 1), false)), .mov (.v 23)⟩,
    ⟨.push, 159, (some ((.s 2), false)), .bin false .neq (.s 1) (.s 0)⟩,
    ⟨.push, 160, none, .pick (.s 3) (.c (.bool true)) (.s 0)⟩,
    ⟨.push, 161, none, .mov (.s 0)⟩,
    ⟨.push, 162, (some ((.s 0), false)), .mov (.v 20)⟩,
    ⟨.push, 163, (some ((.s 1), false)), .mov (.v 22)⟩,
    ⟨.push, 164, (some ((.s 2), false)), .bin false .neq (.s 1) (.s 0)⟩,
    ⟨.push, 165, none, .pick (.s 3) (.c (.bool true)) (.s 0)⟩,
    ⟨.push, 166, none, .mov (.s 0)⟩,
    ⟨.push, 167, (some ((.s 0), false)), .mov (.v 26)⟩,
    ⟨.push, 168, (some ((.s 1), false)), .mov (.v 28)⟩,
    ⟨.push, 169, (some ((.s 2), false)), .bin false .neq (.s 1) (.s 0)⟩,
    ⟨.push, 170, none, .pick (.s 3) (.c (.bool true)) (.s 0)⟩,
    ⟨.push, 171, none, .mov (.s 0)⟩,
    ⟨.push, 172, (some ((.s 0), false)), .mov (.v 25)⟩,
    ⟨.push, 173, (some ((.s 1), false)), .mov (.v 27)⟩,
    ⟨.push, 174, (some ((.s 2), false)), .bin false .neq (.s 1) (.s 0)⟩,
    ⟨.push, 175, none, .pick (.s 3) (.c (.bool true)) (.s 0)⟩,
    ⟨.push, 176, none, .mov (.s 0)⟩,
    ⟨.push, 177, (some ((.s 0), false)), .mov (.v 31)⟩,
    ⟨.push, 178, (some ((.s 1), false)), .mov (.v 33)⟩,
    ⟨.push, 179, (some ((.s 2), false)), .bin true .neq (.s 1) (.s 0)⟩,
    ⟨.push, 180, none, .pick (.s 3) (.c (.bool true)) (.s 0)⟩,
    ⟨.push, 181, none, .mov (.s 0)⟩,
    ⟨.push, 182, (some ((.s 0), false)), .mov (.v 30)⟩,
    ⟨.push, 183, (some ((.s 1), false)), .b2s (.s 0)⟩,
    ⟨.push, 184, (some ((.s 2), false)), .mov (.v 32)⟩,
    ⟨.push, 185, (some ((.s 3), false)), .b2s (.s 0)⟩,
    ⟨.push, 186, (some ((.s 4), false)), .bin false .neq (.s 2) (.s 0)⟩,
    ⟨.push, 187, none, .pick (.s 5) (.c (.bool true)) (.s 0)⟩,
    ⟨.push, 188, none, .mov (.s 0)⟩,
    ⟨.push, 189, (some ((.s 0), false)), .mov (.v 34)⟩,
    ⟨.push, 190, (some ((.s 1), false)), .call 42 [(.s 0)]⟩,
    ⟨.push, 191, (some ((.s 2), false)), .mov (.v 34)⟩,
    ⟨.push, 192, (some ((.s 3), false)), .call 43 [(.s 0)]⟩,
    ⟨.push, 193, (some ((.s 4), false)), .bin false .neq (.s 2) (.s 0)⟩,
    ⟨.push, 194, none, .pick (.s 5) (.c (.bool true)) (.s 0)⟩] (.s 0)
  (.seq (.region false [
      ⟨.var 1, 2, none, .mov (.c (.bool false))⟩])
   (.ret))
  (.skip))
 (.seq (.test false [
    ⟨.push, 195, none, .mov (.v 16)⟩,
    ⟨.push, 196, none, .bin false .eql (.s 0) (.c (.int .i64 (0)))⟩] (.s 0)
  (.seq (.region false [
      ⟨.push, 198, none, .mov (.v 15)⟩,
      ⟨.push, 199, none, .call 33 [(.s 0)]⟩,
      ⟨.push, 197, none, .mov (.s 0)⟩,
      ⟨.push, 200, none, .ext (.s 0) 0⟩,
      ⟨.push, 201, none, .ext (.s 1) 1⟩,
      ⟨.var 35, 36, none, .mov (.s 1)⟩,
      ⟨.var 36, 37, none, .mov (.s 0)⟩])
   (.test false [
     ⟨.push, 202, none, .mov (.v 36)⟩,
     ⟨.push, 203, none, .bin false .neq (.s 0) (.c (.int .i64 (0)))⟩,
     ⟨.push, 204, none, .mov (.s 0)⟩,
     ⟨.push, 205, (some ((.s 0), false)), .mov (.v 35)⟩,
     ⟨.push, 206, (some ((.s 1), false)), .mov (.v 14)⟩,
     ⟨.push, 207, (some ((.s 2), false)), .bin false .neq (.s 1) (.s 0)⟩,
     ⟨.push, 208, none, .pick (.s 3) (.c (.bool true)) (.s 0)⟩] (.s 0)
   (.seq (.region false [
       ⟨.var 1, 2, none, .mov (.c (.bool false))⟩])
    (.ret))
   (.skip)))
  (.skip))
 (.seq (.test false [
    ⟨.push, 209, none, .mov (.v 26)⟩,
    ⟨.push, 210, none, .bin false .eql (.s 0) (.c (.int .i64 (0)))⟩] (.s 0)
  (.seq (.region false [
      ⟨.push, 212, none, .mov (.v 25)⟩,
      ⟨.push, 213, none, .call 39 [(.s 0)]⟩,
      ⟨.push, 211, none, .mov (.s 0)⟩,
      ⟨.push, 214, none, .ext (.s 0) 0⟩,
      ⟨.push, 215, none, .ext (.s 1) 1⟩,
      ⟨.var 37, 38, none, .mov (.s 1)⟩,
      ⟨.var 38, 39, none, .mov (.s 0)⟩])
   (.test false [
     ⟨.push, 216, none, .mov (.v 38)⟩,
     ⟨.push, 217, none, .un .not (.s 0)⟩,
     ⟨.push, 218, none, .mov (.s 0)⟩,
     ⟨.push, 219, (some ((.s 0), false)), .mov (.v 37)⟩,
     ⟨.push, 220, (some ((.s 1), false)), .b2s (.s 0)⟩,
     ⟨.push, 221, (some ((.s 2), false)), .mov (.v 24)⟩,
     ⟨.push, 222, (some ((.s 3), false)), .b2s (.s 0)⟩,
     ⟨.push, 223, (some ((.s 4), false)), .bin false .neq (.s 2) (.s 0)⟩,
     ⟨.push, 224, none, .pick (.s 5) (.c (.bool true)) (.s 0)⟩] (.s 0)
   (.seq (.region false [
       ⟨.var 1, 2, none, .mov (.c (.bool false))⟩])
    (.ret))
   (.skip)))
  (.skip))
 (.seq (.test false [
    ⟨.push, 225, none, .mov (.v 4)⟩,
    ⟨.push, 226, none, .bin false .neq (.s 0) (.c (.int .i64 (0)))⟩] (.s 0)
  (.seq (.region false [
      ⟨.var 1, 2, none, .mov (.c (.bool true))⟩])
   (.ret))
  (.skip))
 (.seq (.region false [
    ⟨.push, 228, none, .mov (.v 3)⟩,
    ⟨.push, 229, none, .call 27 [(.s 0)]⟩,
    ⟨.push, 227, none, .mov (.s 0)⟩,
    ⟨.push, 230, none, .ext (.s 0) 0⟩,
    ⟨.push, 231, none, .ext (.s 1) 1⟩,
    ⟨.push, 232, none, .ext (.s 2) 2⟩,
    ⟨.var 39, 40, none, .mov (.s 2)⟩,
    ⟨.var 40, 41, none, .mov (.s 1)⟩,
    ⟨.var 41, 42, none, .mov (.s 0)⟩])
 (.seq (.region false [
    ⟨.push, 233, none, .mov (.v 41)⟩,
    ⟨.push, 234, none, .mov (.s 0)⟩,
    ⟨.push, 235, (some ((.s 0), true)), .mov (.v 39)⟩,
    ⟨.push, 236, (some ((.s 1), true)), .mov (.v 2)⟩,
    ⟨.push, 237, (some ((.s 2), true)), .bin false .eql (.s 1) (.s 0)⟩,
    ⟨.push, 238, none, .pick (.s 3) (.s 0) (.c (.bool false))⟩,
    ⟨.push, 239, none, .mov (.s 0)⟩,
    ⟨.push, 240, (some ((.s 0), true)), .mov (.v 40)⟩,
    ⟨.push, 241, (some ((.s 1), true)), .mov (.v 3)⟩,
    ⟨.push, 242, (some ((.s 2), true)), .len false (.s 0)⟩,
    ⟨.push, 243, (some ((.s 3), true)), .bin false .eql (.s 2) (.s 0)⟩,
    ⟨.push, 244, none, .pick (.s 4) (.s 0) (.c (.bool false))⟩,
    ⟨.var 1, 2, none, .mov (.s 0)⟩])
 (.ret))))))))))))))))))))))))))), [.t 1]⟩
noncomputable def t_laws_FnBytes : List (Nat × Ctr) := [(6, c_laws_f6big), (23, c_spec_DrawNumberBytes), (24, c_impl_NumberBytes), (25, c_spec_NumberBytes), (26, c_spec_DrawReadNumber), (27, c_impl_ReadNumber), (28, c_spec_ReadNumber), (29, c_spec_DrawFoldSign), (30, c_impl_FoldSign), (31, c_spec_FoldSign), (32, c_spec_DrawUnfoldSign), (33, c_impl_UnfoldSign), (34, c_spec_UnfoldSign), (35, c_spec_DrawHexOf), (36, c_impl_HexOf), (37, c_spec_HexOf), (38, c_spec_DrawBytesOfHex), (39, c_impl_BytesOfHex), (40, c_spec_BytesOfHex), (41, c_spec_DrawSumOfBytes), (42, c_impl_SumOfBytes), (43, c_spec_SumOfBytes)]
theorem lk_laws_FnBytes_6 : look t_laws_FnBytes 6 = some c_laws_f6big := rfl
theorem lk_laws_FnBytes_23 : look t_laws_FnBytes 23 = some c_spec_DrawNumberBytes := rfl
theorem lk_laws_FnBytes_24 : look t_laws_FnBytes 24 = some c_impl_NumberBytes := rfl
theorem lk_laws_FnBytes_25 : look t_laws_FnBytes 25 = some c_spec_NumberBytes := rfl
theorem lk_laws_FnBytes_26 : look t_laws_FnBytes 26 = some c_spec_DrawReadNumber := rfl
theorem lk_laws_FnBytes_27 : look t_laws_FnBytes 27 = some c_impl_ReadNumber := rfl
theorem lk_laws_FnBytes_28 : look t_laws_FnBytes 28 = some c_spec_ReadNumber := rfl
theorem lk_laws_FnBytes_29 : look t_laws_FnBytes 29 = some c_spec_DrawFoldSign := rfl
theorem lk_laws_FnBytes_30 : look t_laws_FnBytes 30 = some c_impl_FoldSign := rfl
theorem lk_laws_FnBytes_31 : look t_laws_FnBytes 31 = some c_spec_FoldSign := rfl
theorem lk_laws_FnBytes_32 : look t_laws_FnBytes 32 = some c_spec_DrawUnfoldSign := rfl
theorem lk_laws_FnBytes_33 : look t_laws_FnBytes 33 = some c_impl_UnfoldSign := rfl
theorem lk_laws_FnBytes_34 : look t_laws_FnBytes 34 = some c_spec_UnfoldSign := rfl
theorem lk_laws_FnBytes_35 : look t_laws_FnBytes 35 = some c_spec_DrawHexOf := rfl
theorem lk_laws_FnBytes_36 : look t_laws_FnBytes 36 = some c_impl_HexOf := rfl
theorem lk_laws_FnBytes_37 : look t_laws_FnBytes 37 = some c_spec_HexOf := rfl
theorem lk_laws_FnBytes_38 : look t_laws_FnBytes 38 = some c_spec_DrawBytesOfHex := rfl
theorem lk_laws_FnBytes_39 : look t_laws_FnBytes 39 = some c_impl_BytesOfHex := rfl
theorem lk_laws_FnBytes_40 : look t_laws_FnBytes 40 = some c_spec_BytesOfHex := rfl
theorem lk_laws_FnBytes_41 : look t_laws_FnBytes 41 = some c_spec_DrawSumOfBytes := rfl
theorem lk_laws_FnBytes_42 : look t_laws_FnBytes 42 = some c_impl_SumOfBytes := rfl
theorem lk_laws_FnBytes_43 : look t_laws_FnBytes 43 = some c_spec_SumOfBytes := rfl
noncomputable def c_laws_FnBytes : Ctr := mkF t_laws_FnBytes ir5 [.bor]
theorem s_laws_FnBytes : Sound Try.prog 5 c_laws_FnBytes := mkF_sound _ rfl (snd_cons s_laws_f6big (snd_cons s_spec_DrawNumberBytes (snd_cons s_impl_NumberBytes (snd_cons s_spec_NumberBytes (snd_cons s_spec_DrawReadNumber (snd_cons s_impl_ReadNumber (snd_cons s_spec_ReadNumber (snd_cons s_spec_DrawFoldSign (snd_cons s_impl_FoldSign (snd_cons s_spec_FoldSign (snd_cons s_spec_DrawUnfoldSign (snd_cons s_impl_UnfoldSign (snd_cons s_spec_UnfoldSign (snd_cons s_spec_DrawHexOf (snd_cons s_impl_HexOf (snd_cons s_spec_HexOf (snd_cons s_spec_DrawBytesOfHex (snd_cons s_impl_BytesOfHex (snd_cons s_spec_BytesOfHex (snd_cons s_spec_DrawSumOfBytes (snd_cons s_impl_SumOfBytes (snd_cons s_spec_SumOfBytes snd_nil)))))))))))))))))))))) (by kernel_rfl : chkFn Try.prog 5 ir5 ir5_v = true)
theorem M_laws_FnBytes : c_laws_FnBytes.modes = [.bor] := rfl
theorem Fl_laws_FnBytes : c_laws_FnBytes.flat = true := rfl
attribute [go_sem] M_laws_FnBytes Fl_laws_FnBytes
attribute [go_sem] lk_laws_FnBytes_6 lk_laws_FnBytes_23 lk_laws_FnBytes_24 lk_laws_FnBytes_25 lk_laws_FnBytes_26 lk_laws_FnBytes_27 lk_laws_FnBytes_28 lk_laws_FnBytes_29 lk_laws_FnBytes_30 lk_laws_FnBytes_31 lk_laws_FnBytes_32 lk_laws_FnBytes_33 lk_laws_FnBytes_34 lk_laws_FnBytes_35 lk_laws_FnBytes_36 lk_laws_FnBytes_37 lk_laws_FnBytes_38 lk_laws_FnBytes_39 lk_laws_FnBytes_40 lk_laws_FnBytes_41 lk_laws_FnBytes_42 lk_laws_FnBytes_43
set_option maxHeartbeats 8000000 in
theorem Fs_laws_FnBytes {code : List UInt8} {y_ : Bool} (h : laws_FnBytes code = some y_) : c_laws_FnBytes.F [.sl 1 (List.map byteAV code)] = ⟨true, .bool y_, [.any]⟩ := by
  refine mkF_E rfl ?_
  dsimp only [laws_FnBytes] at h
  obtain ⟨y_1, hk1, h⟩ := bd_some h
  have fhk1 := Fs_laws_f6big hk1
  try simp only [go_sem] at fhk1
  rcases it_some h with ⟨hk2, h⟩ | ⟨hk2, h⟩
  · try simp only [go_sem, n1, n2, n3, n4] at hk2
    all_goals
    obtain rfl := so_some h
    refine ⟨0, fun L hL => ?_⟩
    simp only [go_sem, ir5, fhk1, hk2]
  · try simp only [go_sem, n1, n2, n3, n4] at hk2
    all_goals
    obtain ⟨y_3, hk3, h⟩ := bd_some h
    have fhk3 := Fs_spec_DrawNumberBytes hk3
    try simp only [go_sem, hk2] at fhk3
    obtain ⟨y_4, hk4, h⟩ := bd_some h
    have fhk4 := Fs_impl_NumberBytes hk4
    try simp only [go_sem, hk2] at fhk4
    obtain ⟨y_5, hk5, h⟩ := bd_some h
    have fhk5 := Fs_spec_NumberBytes hk5
    try simp only [go_sem, hk2] at fhk5
    obtain ⟨y_6, hk6, h⟩ := bd_some h
    have fhk6 := Fs_spec_DrawReadNumber hk6
    try simp only [go_sem, hk2] at fhk6
    obtain ⟨y_7, hk7, h⟩ := bd_some h
    have fhk7 := Fs_impl_ReadNumber hk7
    try simp only [go_sem, hk2] at fhk7
    obtain ⟨y_8, hk8, h⟩ := bd_some h
    have fhk8 := Fs_spec_ReadNumber hk8
    try simp only [go_sem, hk2] at fhk8
    obtain ⟨y_9, hk9, h⟩ := bd_some h
    have fhk9 := Fs_spec_DrawFoldSign hk9
    try simp only [go_sem, hk2] at fhk9
    obtain ⟨y_10, hk10, h⟩ := bd_some h
    have fhk10 := Fs_impl_FoldSign hk10
    try simp only [go_sem, hk2] at fhk10
    obtain ⟨y_11, hk11, h⟩ := bd_some h
    have fhk11 := Fs_spec_FoldSign hk11
    try simp only [go_sem, hk2] at fhk11
    obtain ⟨y_12, hk12, h⟩ := bd_some h
    have fhk12 := Fs_spec_DrawUnfoldSign hk12
    try simp only [go_sem, hk2] at fhk12
    obtain ⟨y_13, hk13, h⟩ := bd_some h
    have fhk13 := Fs_impl_UnfoldSign hk13
    try simp only [go_sem, hk2] at fhk13
    obtain ⟨y_14, hk14, h⟩ := bd_some h
    have fhk14 := Fs_spec_UnfoldSign hk14
    try simp only [go_sem, hk2] at fhk14
    obtain ⟨y_15, hk15, h⟩ := bd_some h
    have fhk15 := Fs_spec_DrawHexOf hk15
    try simp only [go_sem, hk2] at fhk15
    obtain ⟨y_16, hk16, h⟩ := bd_some h
    have fhk16 := Fs_impl_HexOf hk16
    try simp only [go_sem, hk2] at fhk16
    obtain ⟨y_17, hk17, h⟩ := bd_some h
    have fhk17 := Fs_spec_HexOf hk17
    try simp only [go_sem, hk2] at fhk17
    obtain ⟨y_18, hk18, h⟩ := bd_some h
    have fhk18 := Fs_spec_DrawBytesOfHex hk18
    try simp only [go_sem, hk2] at fhk18
    obtain ⟨y_19, hk19, h⟩ := bd_some h
    have fhk19 := Fs_impl_BytesOfHex hk19
    try simp only [go_sem, hk2] at fhk19
    obtain ⟨y_20, hk20, h⟩ := bd_some h
    have fhk20 := Fs_spec_BytesOfHex hk20
    try simp only [go_sem, hk2] at fhk20
    obtain ⟨y_21, hk21, h⟩ := bd_some h
    have fhk21 := Fs_spec_DrawSumOfBytes hk21
    try simp only [go_sem, hk2] at fhk21
    obtain ⟨hk22, h⟩ := ck_some h
    rcases or_split hk22 with ⟨ghk22, hk22⟩ | ghk22
    · try simp only [go_sem, n1, n2, n3, n4, hk2] at ghk22
      all_goals
      obtain ⟨y_22, hhk22⟩ := Option.isSome_iff_exists.1 hk22
      have fhk22 := Fs_impl_SumOfBytes hhk22
      try simp only [go_sem, hk2, ghk22] at fhk22
      obtain ⟨hk23, h⟩ := ck_some h
      rcases or_split hk23 with ⟨ghk23, hk23⟩ | ghk23
      · try simp only [go_sem, n1, n2, n3, n4, hk2, ghk22, hhk22] at ghk23
        all_goals
        obtain ⟨y_23, hhk23⟩ := Option.isSome_iff_exists.1 hk23
        have fhk23 := Fs_spec_SumOfBytes hhk23
        try simp only [go_sem, hk2, ghk22, hhk22, ghk23] at fhk23
        rcases it_some h with ⟨hk24, h⟩ | ⟨hk24, h⟩
        · try simp only [go_sem, n1, n2, n3, n4, hk2, ghk22, hhk22, ghk23, hhk23] at hk24
          all_goals
          obtain rfl := so_some h
          refine ⟨0, fun L hL => ?_⟩
          simp only [go_sem, ir5, fhk1, hk2, fhk3, fhk4, fhk5, fhk6, fhk7, fhk8, fhk9, fhk10, fhk11, fhk12, fhk13, fhk14, fhk15, fhk16, fhk17, fhk18, fhk19, fhk20, fhk21, ghk22, hhk22, fhk22, ghk23, hhk23, fhk23, hk24]
        · try simp only [go_sem, n1, n2, n3, n4, hk2, ghk22, hhk22, ghk23, hhk23] at hk24
          all_goals
          rcases it_some h with ⟨hk25, h⟩ | ⟨hk25, h⟩
          · try simp only [go_sem, n1, n2, n3, n4, hk2, ghk22, hhk22, ghk23, hhk23, hk24] at hk25
            all_goals
            obtain ⟨y_26, hk26, h⟩ := bd_some h
            have fhk26 := Fs_impl_UnfoldSign hk26
            try simp only [go_sem, hk2, ghk22, hhk22, ghk23, hhk23, hk24, hk25] at fhk26
            rcases it_some h with ⟨hk27, h⟩ | ⟨hk27, h⟩
            · try simp only [go_sem, n1, n2, n3, n4, hk2, ghk22, hhk22, ghk23, hhk23, hk24, hk25] at hk27
              all_goals
              obtain rfl := so_some h
              refine ⟨0, fun L hL => ?_⟩
              simp only [go_sem, ir5, fhk1, hk2, fhk3, fhk4, fhk5, fhk6, fhk7, fhk8, fhk9, fhk10, fhk11, fhk12, fhk13, fhk14, fhk15, fhk16, fhk17, fhk18, fhk19, fhk20, fhk21, ghk22, hhk22, fhk22, ghk23, hhk23, fhk23, hk24, hk25, fhk26, hk27]
            · try simp only [go_sem, n1, n2, n3, n4, hk2, ghk22, hhk22, ghk23, hhk23, hk24, hk25] at hk27
              all_goals
              rcases it_some h with ⟨hk28, h⟩ | ⟨hk28, h⟩
              · try simp only [go_sem, n1, n2, n3, n4, hk2, ghk22, hhk22, ghk23, hhk23, hk24, hk25, hk27] at hk28
                all_goals
                obtain ⟨y_29, hk29, h⟩ := bd_some h
                have fhk29 := Fs_impl_BytesOfHex hk29
                try simp only [go_sem, hk2, ghk22, hhk22, ghk23, hhk23, hk24, hk25, hk27, hk28] at fhk29
                rcases it_some h with ⟨hk30, h⟩ | ⟨hk30, h⟩
                · try simp only [go_sem, n1, n2, n3, n4, hk2, ghk22, hhk22, ghk23, hhk23, hk24, hk25, hk27, hk28] at hk30
                  all_goals
                  obtain rfl := so_some h
                  refine ⟨0, fun L hL => ?_⟩
                  simp only [go_sem, ir5, fhk1, hk2, fhk3, fhk4, fhk5, fhk6, fhk7, fhk8, fhk9, fhk10, fhk11, fhk12, fhk13, fhk14, fhk15, fhk16, fhk17, fhk18, fhk19, fhk20, fhk21, ghk22, hhk22, fhk22, ghk23, hhk23, fhk23, hk24, hk25, fhk26, hk27, hk28, fhk29, hk30]
                · try simp only [go_sem, n1, n2, n3, n4, hk2, ghk22, hhk22, ghk23, hhk23, hk24, hk25, hk27, hk28] at hk30
                  all_goals
                  rcases it_some h with ⟨hk31, h⟩ | ⟨hk31, h⟩
                  · try simp only [go_sem, n1, n2, n3, n4, hk2, ghk22, hhk22, ghk23, hhk23, hk24, hk25, hk27, hk28, hk30] at hk31
                    all_goals
                    obtain rfl := so_some h
                    refine ⟨0, fun L hL => ?_⟩
                    simp only [go_sem, ir5, fhk1, hk2, fhk3, fhk4, fhk5, fhk6, fhk7, fhk8, fhk9, fhk10, fhk11, fhk12, fhk13, fhk14, fhk15, fhk16, fhk17, fhk18, fhk19, fhk20, fhk21, ghk22, hhk22, fhk22, ghk23, hhk23, fhk23, hk24, hk25, fhk26, hk27, hk28, fhk29, hk30, hk31]
                  · try simp only [go_sem, n1, n2, n3, n4, hk2, ghk22, hhk22, ghk23, hhk23, hk24, hk25, hk27, hk28, hk30] at hk31
                    all_goals
                    obtain ⟨y_32, hk32, h⟩ := bd_some h
                    have fhk32 := Fs_impl_ReadNumber hk32
                    try simp only [go_sem, hk2, ghk22, hhk22, ghk23, hhk23, hk24, hk25, hk27, hk28, hk30, hk31] at fhk32
                    obtain rfl := so_some h
                    refine ⟨0, fun L hL => ?_⟩
                    simp only [go_sem, ir5, fhk1, hk2, fhk3, fhk4, fhk5, fhk6, fhk7, fhk8, fhk9, fhk10, fhk11, fhk12, fhk13, fhk14, fhk15, fhk16, fhk17, fhk18, fhk19, fhk20, fhk21, ghk22, hhk22, fhk22, ghk23, hhk23, fhk23, hk24, hk25, fhk26, hk27, hk28, fhk29, hk30, hk31, fhk32]
              · try simp only [go_sem, n1, n2, n3, n4, hk2, ghk22, hhk22, ghk23, hhk23, hk24, hk25, hk27] at hk28
                all_goals
                rcases it_some h with ⟨hk33, h⟩ | ⟨hk33, h⟩
                · try simp only [go_sem, n1, n2, n3, n4, hk2, ghk22, hhk22, ghk23, hhk23, hk24, hk25, hk27, hk28] at hk33
                  all_goals
                  obtain rfl := so_some h
                  refine ⟨0, fun L hL => ?_⟩
                  simp only [go_sem, ir5, fhk1, hk2, fhk3, fhk4, fhk5, fhk6, fhk7, fhk8, fhk9, fhk10, fhk11, fhk12, fhk13, fhk14, fhk15, fhk16, fhk17, fhk18, fhk19, fhk20, fhk21, ghk22, hhk22, fhk22, ghk23, hhk23, fhk23, hk24, hk25, fhk26, hk27, hk28, hk33]
                · try simp only [go_sem, n1, n2, n3, n4, hk2, ghk22, hhk22, ghk23, hhk23, hk24, hk25, hk27, hk28] at hk33
                  all_goals
                  obtain ⟨y_34, hk34, h⟩ := bd_some h
                  have fhk34 := Fs_impl_ReadNumber hk34
                  try simp only [go_sem, hk2, ghk22, hhk22, ghk23, hhk23, hk24, hk25, hk27, hk28, hk33] at fhk34
                  obtain rfl := so_some h
                  refine ⟨0, fun L hL => ?_⟩
                  simp only [go_sem, ir5, fhk1, hk2, fhk3, fhk4, fhk5, fhk6, fhk7, fhk8, fhk9, fhk10, fhk11, fhk12, fhk13, fhk14, fhk15, fhk16, fhk17, fhk18, fhk19, fhk20, fhk21, ghk22, hhk22, fhk22, ghk23, hhk23, fhk23, hk24, hk25, fhk26, hk27, hk28, hk33, fhk34]
          · try simp only [go_sem, n1, n2, n3, n4, hk2, ghk22, hhk22, ghk23, hhk23, hk24] at hk25
            all_goals
            rcases it_some h with ⟨hk35, h⟩ | ⟨hk35, h⟩
            · try simp only [go_sem, n1, n2, n3, n4, hk2, ghk22, hhk22, ghk23, hhk23, hk24, hk25] at hk35
              all_goals
              obtain ⟨y_36, hk36, h⟩ := bd_some h
              have fhk36 := Fs_impl_BytesOfHex hk36
              try simp only [go_sem, hk2, ghk22, hhk22, ghk23, hhk23, hk24, hk25, hk35] at fhk36
              rcases it_some h with ⟨hk37, h⟩ | ⟨hk37, h⟩
              · try simp only [go_sem, n1, n2, n3, n4, hk2, ghk22, hhk22, ghk23, hhk23, hk24, hk25, hk35] at hk37
                all_goals
                obtain rfl := so_some h
                refine ⟨0, fun L hL => ?_⟩
                simp only [go_sem, ir5, fhk1, hk2, fhk3, fhk4, fhk5, fhk6, fhk7, fhk8, fhk9, fhk10, fhk11, fhk12, fhk13, fhk14, fhk15, fhk16, fhk17, fhk18, fhk19, fhk20, fhk21, ghk22, hhk22, fhk22, ghk23, hhk23, fhk23, hk24, hk25, hk35, fhk36, hk37]
              · try simp only [go_sem, n1, n2, n3, n4, hk2, ghk22, hhk22, ghk23, hhk23, hk24, hk25, hk35] at hk37
                all_goals
                rcases it_some h with ⟨hk38, h⟩ | ⟨hk38, h⟩
                · try simp only [go_sem, n1, n2, n3, n4, hk2, ghk22, hhk22, ghk23, hhk23, hk24, hk25, hk35, hk37] at hk38
                  all_goals
                  obtain rfl := so_some h
                  refine ⟨0, fun L hL => ?_⟩
                  simp only [go_sem, ir5, fhk1, hk2, fhk3, fhk4, fhk5, fhk6, fhk7, fhk8, fhk9, fhk10, fhk11, fhk12, fhk13, fhk14, fhk15, fhk16, fhk17, fhk18, fhk19, fhk20, fhk21, ghk22, hhk22, fhk22, ghk23, hhk23, fhk23, hk24, hk25, hk35, fhk36, hk37, hk38]
                · try simp only [go_sem, n1, n2, n3, n4, hk2, ghk22, hhk22, ghk23, hhk23, hk24, hk25, hk35, hk37] at hk38
                  all_goals
                  obtain ⟨y_39, hk39, h⟩ := bd_some h
                  have fhk39 := Fs_impl_ReadNumber hk39
                  try simp only [go_sem, hk2, ghk22, hhk22, ghk23, hhk23, hk24, hk25, hk35, hk37, hk38] at fhk39
                  obtain rfl := so_some h
                  refine ⟨0, fun L hL => ?_⟩
                  simp only [go_sem, ir5, fhk1, hk2, fhk3, fhk4, fhk5, fhk6, fhk7, fhk8, fhk9, fhk10, fhk11, fhk12, fhk13, fhk14, fhk15, fhk16, fhk17, fhk18, fhk19, fhk20, fhk21, ghk22, hhk22, fhk22, ghk23, hhk23, fhk23, hk24, hk25, hk35, fhk36, hk37, hk38, fhk39]
            · try simp only [go_sem, n1, n2, n3, n4, hk2, ghk22, hhk22, ghk23, hhk23, hk24, hk25] at hk35
              all_goals
              rcases it_some h with ⟨hk40, h⟩ | ⟨hk40, h⟩
              · try simp only [go_sem, n1, n2, n3, n4, hk2, ghk22, hhk22, ghk23, hhk23, hk24, hk25, hk35] at hk40
                all_goals
                obtain rfl := so_some h
                refine ⟨0, fun L hL => ?_⟩
                simp only [go_sem, ir5, fhk1, hk2, fhk3, fhk4, fhk5, fhk6, fhk7, fhk8, fhk9, fhk10, fhk11, fhk12, fhk13, fhk14, fhk15, fhk16, fhk17, fhk18, fhk19, fhk20, fhk21, ghk22, hhk22, fhk22, ghk23, hhk23, fhk23, hk24, hk25, hk35, hk40]
              · try simp only [go_sem, n1, n2, n3, n4, hk2, ghk22, hhk22, ghk23, hhk23, hk24, hk25, hk35] at hk40
                all_goals
                obtain ⟨y_41, hk41, h⟩ := bd_some h
                have fhk41 := Fs_impl_ReadNumber hk41
                try simp only [go_sem, hk2, ghk22, hhk22, ghk23, hhk23, hk24, hk25, hk35, hk40] at fhk41
                obtain rfl := so_some h
                refine ⟨0, fun L hL => ?_⟩
                simp only [go_sem, ir5, fhk1, hk2, fhk3, fhk4, fhk5, fhk6, fhk7, fhk8, fhk9, fhk10, fhk11, fhk12, fhk13, fhk14, fhk15, fhk16, fhk17, fhk18, fhk19, fhk20, fhk21, ghk22, hhk22, fhk22, ghk23, hhk23, fhk23, hk24, hk25, hk35, hk40, fhk41]
      · have ghk23n := no_f ghk23
        rcases or_t ghk23n with ghk23na | ⟨ghk23na, ghk23nb⟩
        · try simp only [go_sem, n1, n2, n3, n4, hk2, ghk22, hhk22] at ghk23na
          all_goals
          (simp_all)
        · obtain ⟨ghk23naa, ghk23nab⟩ := or_f ghk23na
          obtain ⟨ghk23naaa, ghk23naab⟩ := or_f ghk23naa
          obtain ⟨ghk23naaaa, ghk23naaab⟩ := or_f ghk23naaa
          obtain ⟨ghk23naaaaa, ghk23naaaab⟩ := or_f ghk23naaaa
          obtain ⟨ghk23naaaaaa, ghk23naaaaab⟩ := or_f ghk23naaaaa
          obtain ⟨ghk23naaaaaaa, ghk23naaaaaab⟩ := or_f ghk23naaaaaa
          obtain ⟨ghk23naaaaaaaa, ghk23naaaaaaab⟩ := or_f ghk23naaaaaaa
          obtain ⟨ghk23naaaaaaaaa, ghk23naaaaaaaab⟩ := or_f ghk23naaaaaaaa
          obtain ⟨ghk23naaaaaaaaaa, ghk23naaaaaaaaab⟩ := or_f ghk23naaaaaaaaa
          obtain ⟨ghk23naaaaaaaaaaa, ghk23naaaaaaaaaab⟩ := or_f ghk23naaaaaaaaaa
          obtain ⟨ghk23naaaaaaaaaaaa, ghk23naaaaaaaaaaab⟩ := or_f ghk23naaaaaaaaaaa
          have ghk23naaaaaaaaaaaan := no_f ghk23naaaaaaaaaaaa
          have ghk23naaaaaaaaaaabn := no_f ghk23naaaaaaaaaaab
          have ghk23naaaaaaaaaabn := no_f ghk23naaaaaaaaaab
          have ghk23naaaaaaaaabn := no_f ghk23naaaaaaaaab
          have ghk23naaaaaaaabn := no_f ghk23naaaaaaaab
          have ghk23naaaaaaabn := no_f ghk23naaaaaaab
          have ghk23naaaaaabn := no_f ghk23naaaaaab
          have ghk23naaaaabn := no_f ghk23naaaaab
          have ghk23naaaabn := no_f ghk23naaaab
          have ghk23naaabn := no_f ghk23naaab
          have ghk23naabn := no_f ghk23naab
          have ghk23nabn := no_f ghk23nab
          have ghk23nbn := no_t ghk23nb
          try simp only [go_sem, n1, n2, n3, n4, hk2, ghk22, hhk22] at ghk23naaaaaaaaaaaan
          all_goals
          try simp only [go_sem, n1, n2, n3, n4, hk2, ghk22, hhk22, ghk23naaaaaaaaaaaan] at ghk23naaaaaaaaaaabn
          all_goals
          try simp only [go_sem, n1, n2, n3, n4, hk2, ghk22, hhk22, ghk23naaaaaaaaaaaan, ghk23naaaaaaaaaaabn] at ghk23naaaaaaaaaabn
          all_goals
          try simp only [go_sem, n1, n2, n3, n4, hk2, ghk22, hhk22, ghk23naaaaaaaaaaaan, ghk23naaaaaaaaaaabn, ghk23naaaaaaaaaabn] at ghk23naaaaaaaaabn
          all_goals
          try simp only [go_sem, n1, n2, n3, n4, hk2, ghk22, hhk22, ghk23naaaaaaaaaaaan, ghk23naaaaaaaaaaabn, ghk23naaaaaaaaaabn, ghk23naaaaaaaaabn] at ghk23naaaaaaaabn
          all_goals
          try simp only [go_sem, n1, n2, n3, n4, hk2, ghk22, hhk22, ghk23naaaaaaaaaaaan, ghk23naaaaaaaaaaabn, ghk23naaaaaaaaaabn, ghk23naaaaaaaaabn, ghk23naaaaaaaabn] at ghk23naaaaaaabn
          all_goals
          try simp only [go_sem, n1, n2, n3, n4, hk2, ghk22, hhk22, ghk23naaaaaaaaaaaan, ghk23naaaaaaaaaaabn, ghk23naaaaaaaaaabn, ghk23naaaaaaaaabn, ghk23naaaaaaaabn, ghk23naaaaaaabn] at ghk23naaaaaabn
          all_goals
          try simp only [go_sem, n1, n2, n3, n4, hk2, ghk22, hhk22, ghk23naaaaaaaaaaaan, ghk23naaaaaaaaaaabn, ghk23naaaaaaaaaabn, ghk23naaaaaaaaabn, ghk23naaaaaaaabn, ghk23naaaaaaabn, ghk23naaaaaabn] at ghk23naaaaabn
          all_goals
          try simp only [go_sem, n1, n2, n3, n4, hk2, ghk22, hhk22, ghk23naaaaaaaaaaaan, ghk23naaaaaaaaaaabn, ghk23naaaaaaaaaabn, ghk23naaaaaaaaabn, ghk23naaaaaaaabn, ghk23naaaaaaabn, ghk23naaaaaabn, ghk23naaaaabn] at ghk23naaaabn
          all_goals
          try simp only [go_sem, n1, n2, n3, n4, hk2, ghk22, hhk22, ghk23naaaaaaaaaaaan, ghk23naaaaaaaaaaabn, ghk23naaaaaaaaaabn, ghk23naaaaaaaaabn, ghk23naaaaaaaabn, ghk23naaaaaaabn, ghk23naaaaaabn, ghk23naaaaabn, ghk23naaaabn] at ghk23naaabn
          all_goals
          try simp only [go_sem, n1, n2, n3, n4, hk2, ghk22, hhk22, ghk23naaaaaaaaaaaan, ghk23naaaaaaaaaaabn, ghk23naaaaaaaaaabn, ghk23naaaaaaaaabn, ghk23naaaaaaaabn, ghk23naaaaaaabn, ghk23naaaaaabn, ghk23naaaaabn, ghk23naaaabn, ghk23naaabn] at ghk23naabn
          all_goals
          try simp only [go_sem, n1, n2, n3, n4, hk2, ghk22, hhk22, ghk23naaaaaaaaaaaan, ghk23naaaaaaaaaaabn, ghk23naaaaaaaaaabn, ghk23naaaaaaaaabn, ghk23naaaaaaaabn, ghk23naaaaaaabn, ghk23naaaaaabn, ghk23naaaaabn, ghk23naaaabn, ghk23naaabn, ghk23naabn] at ghk23nabn
          all_goals
          try simp only [go_sem, n1, n2, n3, n4, hk2, ghk22, hhk22, ghk23naaaaaaaaaaaan, ghk23naaaaaaaaaaabn, ghk23naaaaaaaaaabn, ghk23naaaaaaaaabn, ghk23naaaaaaaabn, ghk23naaaaaaabn, ghk23naaaaaabn, ghk23naaaaabn, ghk23naaaabn, ghk23naaabn, ghk23naabn, ghk23nabn] at ghk23nbn
          all_goals
          rcases it_some h with ⟨hk24, h⟩ | ⟨hk24, h⟩
          · try simp only [go_sem, n1, n2, n3, n4, hk2, ghk22, hhk22, ghk23naaaaaaaaaaaan, ghk23naaaaaaaaaaabn, ghk23naaaaaaaaaabn, ghk23naaaaaaaaabn, ghk23naaaaaaaabn, ghk23naaaaaaabn, ghk23naaaaaabn, ghk23naaaaabn, ghk23naaaabn, ghk23naaabn, ghk23naabn, ghk23nabn, ghk23nbn] at hk24
            all_goals
            obtain rfl := so_some h
            refine ⟨0, fun L hL => ?_⟩
            simp only [go_sem, ir5, fhk1, hk2, fhk3, fhk4, fhk5, fhk6, fhk7, fhk8, fhk9, fhk10, fhk11, fhk12, fhk13, fhk14, fhk15, fhk16, fhk17, fhk18, fhk19, fhk20, fhk21, ghk22, hhk22, fhk22, ghk23naaaaaaaaaaaan, ghk23naaaaaaaaaaabn, ghk23naaaaaaaaaabn, ghk23naaaaaaaaabn, ghk23naaaaaaaabn, ghk23naaaaaaabn, ghk23naaaaaabn, ghk23naaaaabn, ghk23naaaabn, ghk23naaabn, ghk23naabn, ghk23nabn, ghk23nbn, hk24]
          · try simp only [go_sem, n1, n2, n3, n4, hk2, ghk22, hhk22, ghk23naaaaaaaaaaaan, ghk23naaaaaaaaaaabn, ghk23naaaaaaaaaabn, ghk23naaaaaaaaabn, ghk23naaaaaaaabn, ghk23naaaaaaabn, ghk23naaaaaabn, ghk23naaaaabn, ghk23naaaabn, ghk23naaabn, ghk23naabn, ghk23nabn, ghk23nbn] at hk24
            all_goals
            rcases it_some h with ⟨hk25, h⟩ | ⟨hk25, h⟩
            · try simp only [go_sem, n1, n2, n3, n4, hk2, ghk22, hhk22, ghk23naaaaaaaaaaaan, ghk23naaaaaaaaaaabn, ghk23naaaaaaaaaabn, ghk23naaaaaaaaabn, ghk23naaaaaaaabn, ghk23naaaaaaabn, ghk23naaaaaabn, ghk23naaaaabn, ghk23naaaabn, ghk23naaabn, ghk23naabn, ghk23nabn, ghk23nbn, hk24] at hk25
              all_goals
              obtain ⟨y_26, hk26, h⟩ := bd_some h
              have fhk26 := Fs_impl_UnfoldSign hk26
              try simp only [go_sem, hk2, ghk22, hhk22, ghk23naaaaaaaaaaaan, ghk23naaaaaaaaaaabn, ghk23naaaaaaaaaabn, ghk23naaaaaaaaabn, ghk23naaaaaaaabn, ghk23naaaaaaabn, ghk23naaaaaabn, ghk23naaaaabn, ghk23naaaabn, ghk23naaabn, ghk23naabn, ghk23nabn, ghk23nbn, hk24, hk25] at fhk26
              rcases it_some h with ⟨hk27, h⟩ | ⟨hk27, h⟩
              · try simp only [go_sem, n1, n2, n3, n4, hk2, ghk22, hhk22, ghk23naaaaaaaaaaaan, ghk23naaaaaaaaaaabn, ghk23naaaaaaaaaabn, ghk23naaaaaaaaabn, ghk23naaaaaaaabn, ghk23naaaaaaabn, ghk23naaaaaabn, ghk23naaaaabn, ghk23naaaabn, ghk23naaabn, ghk23naabn, ghk23nabn, ghk23nbn, hk24, hk25] at hk27
                all_goals
                obtain rfl := so_some h
                refine ⟨0, fun L hL => ?_⟩
                simp only [go_sem, ir5, fhk1, hk2, fhk3, fhk4, fhk5, fhk6, fhk7, fhk8, fhk9, fhk10, fhk11, fhk12, fhk13, fhk14, fhk15, fhk16, fhk17, fhk18, fhk19, fhk20, fhk21, ghk22, hhk22, fhk22, ghk23naaaaaaaaaaaan, ghk23naaaaaaaaaaabn, ghk23naaaaaaaaaabn, ghk23naaaaaaaaabn, ghk23naaaaaaaabn, ghk23naaaaaaabn, ghk23naaaaaabn, ghk23naaaaabn, ghk23naaaabn, ghk23naaabn, ghk23naabn, ghk23nabn, ghk23nbn, hk24, hk25, fhk26, hk27]
              · try simp only [go_sem, n1, n2, n3, n4, hk2, ghk22, hhk22, ghk23naaaaaaaaaaaan, ghk23naaaaaaaaaaabn, ghk23naaaaaaaaaabn, ghk23naaaaaaaaabn, ghk23naaaaaaaabn, ghk23naaaaaaabn, ghk23naaaaaabn, ghk23naaaaabn, ghk23naaaabn, ghk23naaabn, ghk23naabn, ghk23nabn, ghk23nbn, hk24, hk25] at hk27
                all_goals
                rcases it_some h with ⟨hk28, h⟩ | ⟨hk28, h⟩
                · try simp only [go_sem, n1, n2, n3, n4, hk2, ghk22, hhk22, ghk23naaaaaaaaaaaan, ghk23naaaaaaaaaaabn, ghk23naaaaaaaaaabn, ghk23naaaaaaaaabn, ghk23naaaaaaaabn, ghk23naaaaaaabn, ghk23naaaaaabn, ghk23naaaaabn, ghk23naaaabn, ghk23naaabn, ghk23naabn, ghk23nabn, ghk23nbn, hk24, hk25, hk27] at hk28
                  all_goals
                  obtain ⟨y_29, hk29, h⟩ := bd_some h
                  have fhk29 := Fs_impl_BytesOfHex hk29
                  try simp only [go_sem, hk2, ghk22, hhk22, ghk23naaaaaaaaaaaan, ghk23naaaaaaaaaaabn, ghk23naaaaaaaaaabn, ghk23naaaaaaaaabn, ghk23naaaaaaaabn, ghk23naaaaaaabn, ghk23naaaaaabn, ghk23naaaaabn, ghk23naaaabn, ghk23naaabn, ghk23naabn, ghk23nabn, ghk23nbn, hk24, hk25, hk27, hk28] at fhk29
                  rcases it_some h with ⟨hk30, h⟩ | ⟨hk30, h⟩
                  · try simp only [go_sem, n1, n2, n3, n4, hk2, ghk22, hhk22, ghk23naaaaaaaaaaaan, ghk23naaaaaaaaaaabn, ghk23naaaaaaaaaabn, ghk23naaaaaaaaabn, ghk23naaaaaaaabn, ghk23naaaaaaabn, ghk23naaaaaabn, ghk23naaaaabn, ghk23naaaabn, ghk23naaabn, ghk23naabn, ghk23nabn, ghk23nbn, hk24, hk25, hk27, hk28] at hk30
                    all_goals
                    obtain rfl := so_some h
                    refine ⟨0, fun L hL => ?_⟩
                    simp only [go_sem, ir5, fhk1, hk2, fhk3, fhk4, fhk5, fhk6, fhk7, fhk8, fhk9, fhk10, fhk11, fhk12, fhk13, fhk14, fhk15, fhk16, fhk17, fhk18, fhk19, fhk20, fhk21, ghk22, hhk22, fhk22, ghk23naaaaaaaaaaaan, ghk23naaaaaaaaaaabn, ghk23naaaaaaaaaabn, ghk23naaaaaaaaabn, ghk23naaaaaaaabn, ghk23naaaaaaabn, ghk23naaaaaabn, ghk23naaaaabn, ghk23naaaabn, ghk23naaabn, ghk23naabn, ghk23nabn, ghk23nbn, hk24, hk25, fhk26, hk27, hk28, fhk29, hk30]
                  · try simp only [go_sem, n1, n2, n3, n4, hk2, ghk22, hhk22, ghk23naaaaaaaaaaaan, ghk23naaaaaaaaaaabn, ghk23naaaaaaaaaabn, ghk23naaaaaaaaabn, ghk23naaaaaaaabn, ghk23naaaaaaabn, ghk23naaaaaabn, ghk23naaaaabn, ghk23naaaabn, ghk23naaabn, ghk23naabn, ghk23nabn, ghk23nbn, hk24, hk25, hk27, hk28] at hk30
                    all_goals
                    rcases it_some h with ⟨hk31, h⟩ | ⟨hk31, h⟩
                    · try simp only [go_sem, n1, n2, n3, n4, hk2, ghk22, hhk22, ghk23naaaaaaaaaaaan, ghk23naaaaaaaaaaabn, ghk23naaaaaaaaaabn, ghk23naaaaaaaaabn, ghk23naaaaaaaabn, ghk23naaaaaaabn, ghk23naaaaaabn, ghk23naaaaabn, ghk23naaaabn, ghk23naaabn, ghk23naabn, ghk23nabn, ghk23nbn, hk24, hk25, hk27, hk28, hk30] at hk31
                      all_goals
                      obtain rfl := so_some h
                      refine ⟨0, fun L hL => ?_⟩
                      simp only [go_sem, ir5, fhk1, hk2, fhk3, fhk4, fhk5, fhk6, fhk7, fhk8, fhk9, fhk10, fhk11, fhk12, fhk13, fhk14, fhk15, fhk16, fhk17, fhk18, fhk19, fhk20, fhk21, ghk22, hhk22, fhk22, ghk23naaaaaaaaaaaan, ghk23naaaaaaaaaaabn, ghk23naaaaaaaaaabn, ghk23naaaaaaaaabn, ghk23naaaaaaaabn, ghk23naaaaaaabn, ghk23naaaaaabn, ghk23naaaaabn, ghk23naaaabn, ghk23naaabn, ghk23naabn, ghk23nabn, ghk23nbn, hk24, hk25, fhk26, hk27, hk28, fhk29, hk30, hk31]
                    · try simp only [go_sem, n1, n2, n3, n4, hk2, ghk22, hhk22, ghk23naaaaaaaaaaaan, ghk23naaaaaaaaaaabn, ghk23naaaaaaaaaabn, ghk23naaaaaaaaabn, ghk23naaaaaaaabn, ghk23naaaaaaabn, ghk23naaaaaabn, ghk23naaaaabn, ghk23naaaabn, ghk23naaabn, ghk23naabn, ghk23nabn, ghk23nbn, hk24, hk25, hk27, hk28, hk30] at hk31
                      all_goals
                      obtain ⟨y_32, hk32, h⟩ := bd_some h
                      have fhk32 := Fs_impl_ReadNumber hk32
                      try simp only [go_sem, hk2, ghk22, hhk22, ghk23naaaaaaaaaaaan, ghk23naaaaaaaaaaabn, ghk23naaaaaaaaaabn, ghk23naaaaaaaaabn, ghk23naaaaaaaabn, ghk23naaaaaaabn, ghk23naaaaaabn, ghk23naaaaabn, ghk23naaaabn, ghk23naaabn, ghk23naabn, ghk23nabn, ghk23nbn, hk24, hk25, hk27, hk28, hk30, hk31] at fhk32
                      obtain rfl := so_some h
                      refine ⟨0, fun L hL => ?_⟩
                      simp only [go_sem, ir5, fhk1, hk2, fhk3, fhk4, fhk5, fhk6, fhk7, fhk8, fhk9, fhk10, fhk11, fhk12, fhk13, fhk14, fhk15, fhk16, fhk17, fhk18, fhk19, fhk20, fhk21, ghk22, hhk22, fhk22, ghk23naaaaaaaaaaaan, ghk23naaaaaaaaaaabn, ghk23naaaaaaaaaabn, ghk23naaaaaaaaabn, ghk23naaaaaaaabn, ghk23naaaaaaabn, ghk23naaaaaabn, ghk23naaaaabn, ghk23naaaabn, ghk23naaabn, ghk23naabn, ghk23nabn, ghk23nbn, hk24, hk25, fhk26, hk27, hk28, fhk29, hk30, hk31, fhk32]
                · try simp only [go_sem, n1, n2, n3, n4, hk2, ghk22, hhk22, ghk23naaaaaaaaaaaan, ghk23naaaaaaaaaaabn, ghk23naaaaaaaaaabn, ghk23naaaaaaaaabn, ghk23naaaaaaaabn, ghk23naaaaaaabn, ghk23naaaaaabn, ghk23naaaaabn, ghk23naaaabn, ghk23naaabn, ghk23naabn, ghk23nabn, ghk23nbn, hk24, hk25, hk27] at hk28
                  all_goals
                  rcases it_some h with ⟨hk33, h⟩ | ⟨hk33, h⟩
                  · try simp only [go_sem, n1, n2, n3, n4, hk2, ghk22, hhk22, ghk23naaaaaaaaaaaan, ghk23naaaaaaaaaaabn, ghk23naaaaaaaaaabn, ghk23naaaaaaaaabn, ghk23naaaaaaaabn, ghk23naaaaaaabn, ghk23naaaaaabn, ghk23naaaaabn, ghk23naaaabn, ghk23naaabn, ghk23naabn, ghk23nabn, ghk23nbn, hk24, hk25, hk27, hk28] at hk33
                    all_goals
                    obtain rfl := so_some h
                    refine ⟨0, fun L hL => ?_⟩
                    simp only [go_sem, ir5, fhk1, hk2, fhk3, fhk4, fhk5, fhk6, fhk7, fhk8, fhk9, fhk10, fhk11, fhk12, fhk13, fhk14, fhk15, fhk16, fhk17, fhk18, fhk19, fhk20, fhk21, ghk22, hhk22, fhk22, ghk23naaaaaaaaaaaan, ghk23naaaaaaaaaaabn, ghk23naaaaaaaaaabn, ghk23naaaaaaaaabn, ghk23naaaaaaaabn, ghk23naaaaaaabn, ghk23naaaaaabn, ghk23naaaaabn, ghk23naaaabn, ghk23naaabn, ghk23naabn, ghk23nabn, ghk23nbn, hk24, hk25, fhk26, hk27, hk28, hk33]
                  · try simp only [go_sem, n1, n2, n3, n4, hk2, ghk22, hhk22, ghk23naaaaaaaaaaaan, ghk23naaaaaaaaaaabn, ghk23naaaaaaaaaabn, ghk23naaaaaaaaabn, ghk23naaaaaaaabn, ghk23naaaaaaabn, ghk23naaaaaabn, ghk23naaaaabn, ghk23naaaabn, ghk23naaabn, ghk23naabn, ghk23nabn, ghk23nbn, hk24, hk25, hk27, hk28] at hk33
                    all_goals
                    obtain ⟨y_34, hk34, h⟩ := bd_some h
                    have fhk34 := Fs_impl_ReadNumber hk34
                    try simp only [go_sem, hk2, ghk22, hhk22, ghk23naaaaaaaaaaaan, ghk23naaaaaaaaaaabn, ghk23naaaaaaaaaabn, ghk23naaaaaaaaabn, ghk23naaaaaaaabn, ghk23naaaaaaabn, ghk23naaaaaabn, ghk23naaaaabn, ghk23naaaabn, ghk23naaabn, ghk23naabn, ghk23nabn, ghk23nbn, hk24, hk25, hk27, hk28, hk33] at fhk34
                    obtain rfl := so_some h
                    refine ⟨0, fun L hL => ?_⟩
                    simp only [go_sem, ir5, fhk1, hk2, fhk3, fhk4, fhk5, fhk6, fhk7, fhk8, fhk9, fhk10, fhk11, fhk12, fhk13, fhk14, fhk15, fhk16, fhk17, fhk18, fhk19, fhk20, fhk21, ghk22, hhk22, fhk22, ghk23naaaaaaaaaaaan, ghk23naaaaaaaaaaabn, ghk23naaaaaaaaaabn, ghk23naaaaaaaaabn, ghk23naaaaaaaabn, ghk23naaaaaaabn, ghk23naaaaaabn, ghk23naaaaabn, ghk23naaaabn, ghk23naaabn, ghk23naabn, ghk23nabn, ghk23nbn, hk24, hk25, fhk26, hk27, hk28, hk33, fhk34]
            · try simp only [go_sem, n1, n2, n3, n4, hk2, ghk22, hhk22, ghk23naaaaaaaaaaaan, ghk23naaaaaaaaaaabn, ghk23naaaaaaaaaabn, ghk23naaaaaaaaabn, ghk23naaaaaaaabn, ghk23naaaaaaabn, ghk23naaaaaabn, ghk23naaaaabn, ghk23naaaabn, ghk23naaabn, ghk23naabn, ghk23nabn, ghk23nbn, hk24] at hk25
              all_goals
              rcases it_some h with ⟨hk35, h⟩ | ⟨hk35, h⟩
              · try simp only [go_sem, n1, n2, n3, n4, hk2, ghk22, hhk22, ghk23naaaaaaaaaaaan, ghk23naaaaaaaaaaabn, ghk23naaaaaaaaaabn, ghk23naaaaaaaaabn, ghk23naaaaaaaabn, ghk23naaaaaaabn, ghk23naaaaaabn, ghk23naaaaabn, ghk23naaaabn, ghk23naaabn, ghk23naabn, ghk23nabn, ghk23nbn, hk24, hk25] at hk35
                all_goals
                obtain ⟨y_36, hk36, h⟩ := bd_some h
                have fhk36 := Fs_impl_BytesOfHex hk36
                try simp only [go_sem, hk2, ghk22, hhk22, ghk23naaaaaaaaaaaan, ghk23naaaaaaaaaaabn, ghk23naaaaaaaaaabn, ghk23naaaaaaaaabn, ghk23naaaaaaaabn, ghk23naaaaaaabn, ghk23naaaaaabn, ghk23naaaaabn, ghk23naaaabn, ghk23naaabn, ghk23naabn, ghk23nabn, ghk23nbn, hk24, hk25, hk35] at fhk36
                rcases it_some h with ⟨hk37, h⟩ | ⟨hk37, h⟩
                · try simp only [go_sem, n1, n2, n3, n4, hk2, ghk22, hhk22, ghk23naaaaaaaaaaaan, ghk23naaaaaaaaaaabn, ghk23naaaaaaaaaabn, ghk23naaaaaaaaabn, ghk23naaaaaaaabn, ghk23naaaaaaabn, ghk23naaaaaabn, ghk23naaaaabn, ghk23naaaabn, ghk23naaabn, ghk23naabn, ghk23nabn, ghk23nbn, hk24, hk25, hk35] at hk37
                  all_goals
                  obtain rfl := so_some h
                  refine ⟨0, fun L hL => ?_⟩
                  simp only [go_sem, ir5, fhk1, hk2, fhk3, fhk4, fhk5, fhk6, fhk7, fhk8, fhk9, fhk10, fhk11, fhk12, fhk13, fhk14, fhk15, fhk16, fhk17, fhk18, fhk19, fhk20, fhk21, ghk22, hhk22, fhk22, ghk23naaaaaaaaaaaan, ghk23naaaaaaaaaaabn, ghk23naaaaaaaaaabn, ghk23naaaaaaaaabn, ghk23naaaaaaaabn, ghk23naaaaaaabn, ghk23naaaaaabn, ghk23naaaaabn, ghk23naaaabn, ghk23naaabn, ghk23naabn, ghk23nabn, ghk23nbn, hk24, hk25, hk35, fhk36, hk37]
                · try simp only [go_sem, n1, n2, n3, n4, hk2, ghk22, hhk22, ghk23naaaaaaaaaaaan, ghk23naaaaaaaaaaabn, ghk23naaaaaaaaaabn, ghk23naaaaaaaaabn, ghk23naaaaaaaabn, ghk23naaaaaaabn, ghk23naaaaaabn, ghk23naaaaabn, ghk23naaaabn, ghk23naaabn, ghk23naabn, ghk23nabn, ghk23nbn, hk24, hk25, hk35] at hk37
                  all_goals
                  rcases it_some h with ⟨hk38, h⟩ | ⟨hk38, h⟩
                  · try simp only [go_sem, n1, n2, n3, n4, hk2, ghk22, hhk22, ghk23naaaaaaaaaaaan, ghk23naaaaaaaaaaabn, ghk23naaaaaaaaaabn, ghk23naaaaaaaaabn, ghk23naaaaaaaabn, ghk23naaaaaaabn, ghk23naaaaaabn, ghk23naaaaabn, ghk23naaaabn, ghk23naaabn, ghk23naabn, ghk23nabn, ghk23nbn, hk24, hk25, hk35, hk37] at hk38
                    all_goals
                    obtain rfl := so_some h
                    refine ⟨0, fun L hL => ?_⟩
                    simp only [go_sem, ir5, fhk1, hk2, fhk3, fhk4, fhk5, fhk6, fhk7, fhk8, fhk9, fhk10, fhk11, fhk12, fhk13, fhk14, fhk15, fhk16, fhk17, fhk18, fhk19, fhk20, fhk21, ghk22, hhk22, fhk22, ghk23naaaaaaaaaaaan, ghk23naaaaaaaaaaabn, ghk23naaaaaaaaaabn, ghk23naaaaaaaaabn, ghk23naaaaaaaabn, ghk23naaaaaaabn, ghk23naaaaaabn, ghk23naaaaabn, ghk23naaaabn, ghk23naaabn, ghk23naabn, ghk23nabn, ghk23nbn, hk24, hk25, hk35, fhk36, hk37, hk38]
                  · try simp only [go_sem, n1, n2, n3, n4, hk2, ghk22, hhk22, ghk23naaaaaaaaaaaan, ghk23naaaaaaaaaaabn, ghk23naaaaaaaaaabn, ghk23naaaaaaaaabn, ghk23naaaaaaaabn, ghk23naaaaaaabn, ghk23naaaaaabn, ghk23naaaaabn, ghk23naaaabn, ghk23naaabn, ghk23naabn, ghk23nabn, ghk23nbn, hk24, hk25, hk35, hk37] at hk38
                    all_goals
                    obtain ⟨y_39, hk39, h⟩ := bd_some h
                    have fhk39 := Fs_impl_ReadNumber hk39
                    try simp only [go_sem, hk2, ghk22, hhk22, ghk23naaaaaaaaaaaan, ghk23naaaaaaaaaaabn, ghk23naaaaaaaaaabn, ghk23naaaaaaaaabn, ghk23naaaaaaaabn, ghk23naaaaaaabn, ghk23naaaaaabn, ghk23naaaaabn, ghk23naaaabn, ghk23naaabn, ghk23naabn, ghk23nabn, ghk23nbn, hk24, hk25, hk35, hk37, hk38] at fhk39
                    obtain rfl := so_some h
                    refine ⟨0, fun L hL => ?_⟩
                    simp only [go_sem, ir5, fhk1, hk2, fhk3, fhk4, fhk5, fhk6, fhk7, fhk8, fhk9, fhk10, fhk11, fhk12, fhk13, fhk14, fhk15, fhk16, fhk17, fhk18, fhk19, fhk20, fhk21, ghk22, hhk22, fhk22, ghk23naaaaaaaaaaaan, ghk23naaaaaaaaaaabn, ghk23naaaaaaaaaabn, ghk23naaaaaaaaabn, ghk23naaaaaaaabn, ghk23naaaaaaabn, ghk23naaaaaabn, ghk23naaaaabn, ghk23naaaabn, ghk23naaabn, ghk23naabn, ghk23nabn, ghk23nbn, hk24, hk25, hk35, fhk36, hk37, hk38, fhk39]
              · try simp only [go_sem, n1, n2, n3, n4, hk2, ghk22, hhk22, ghk23naaaaaaaaaaaan, ghk23naaaaaaaaaaabn, ghk23naaaaaaaaaabn, ghk23naaaaaaaaabn, ghk23naaaaaaaabn, ghk23naaaaaaabn, ghk23naaaaaabn, ghk23naaaaabn, ghk23naaaabn, ghk23naaabn, ghk23naabn, ghk23nabn, ghk23nbn, hk24, hk25] at hk35
                all_goals
                rcases it_some h with ⟨hk40, h⟩ | ⟨hk40, h⟩
                · try simp only [go_sem, n1, n2, n3, n4, hk2, ghk22, hhk22, ghk23naaaaaaaaaaaan, ghk23naaaaaaaaaaabn, ghk23naaaaaaaaaabn, ghk23naaaaaaaaabn, ghk23naaaaaaaabn, ghk23naaaaaaabn, ghk23naaaaaabn, ghk23naaaaabn, ghk23naaaabn, ghk23naaabn, ghk23naabn, ghk23nabn, ghk23nbn, hk24, hk25, hk35] at hk40
                  all_goals
                  obtain rfl := so_some h
                  refine ⟨0, fun L hL => ?_⟩
                  simp only [go_sem, ir5, fhk1, hk2, fhk3, fhk4, fhk5, fhk6, fhk7, fhk8, fhk9, fhk10, fhk11, fhk12, fhk13, fhk14, fhk15, fhk16, fhk17, fhk18, fhk19, fhk20, fhk21, ghk22, hhk22, fhk22, ghk23naaaaaaaaaaaan, ghk23naaaaaaaaaaabn, ghk23naaaaaaaaaabn, ghk23naaaaaaaaabn, ghk23naaaaaaaabn, ghk23naaaaaaabn, ghk23naaaaaabn, ghk23naaaaabn, ghk23naaaabn, ghk23naaabn, ghk23naabn, ghk23nabn, ghk23nbn, hk24, hk25, hk35, hk40]
                · try simp only [go_sem, n1, n2, n3, n4, hk2, ghk22, hhk22, ghk23naaaaaaaaaaaan, ghk23naaaaaaaaaaabn, ghk23naaaaaaaaaabn, ghk23naaaaaaaaabn, ghk23naaaaaaaabn, ghk23naaaaaaabn, ghk23naaaaaabn, ghk23naaaaabn, ghk23naaaabn, ghk23naaabn, ghk23naabn, ghk23nabn, ghk23nbn, hk24, hk25, hk35] at hk40
                  all_goals
                  obtain ⟨y_41, hk41, h⟩ := bd_some h
                  have fhk41 := Fs_impl_ReadNumber hk41
                  try simp only [go_sem, hk2, ghk22, hhk22, ghk23naaaaaaaaaaaan, ghk23naaaaaaaaaaabn, ghk23naaaaaaaaaabn, ghk23naaaaaaaaabn, ghk23naaaaaaaabn, ghk23naaaaaaabn, ghk23naaaaaabn, ghk23naaaaabn, ghk23naaaabn, ghk23naaabn, ghk23naabn, ghk23nabn, ghk23nbn, hk24, hk25, hk35, hk40] at fhk41
                  obtain rfl := so_some h
                  refine ⟨0, fun L hL => ?_⟩
                  simp only [go_sem, ir5, fhk1, hk2, fhk3, fhk4, fhk5, fhk6, fhk7, fhk8, fhk9, fhk10, fhk11, fhk12, fhk13, fhk14, fhk15, fhk16, fhk17, fhk18, fhk19, fhk20, fhk21, ghk22, hhk22, fhk22, ghk23naaaaaaaaaaaan, ghk23naaaaaaaaaaabn, ghk23naaaaaaaaaabn, ghk23naaaaaaaaabn, ghk23naaaaaaaabn, ghk23naaaaaaabn, ghk23naaaaaabn, ghk23naaaaabn, ghk23naaaabn, ghk23naaabn, ghk23naabn, ghk23nabn, ghk23nbn, hk24, hk25, hk35, hk40, fhk41]
    · have ghk22n := no_f ghk22
      rcases or_t ghk22n with ghk22na | ⟨ghk22na, ghk22nb⟩
      · rcases or_t ghk22na with ghk22naa | ⟨ghk22naa, ghk22nab⟩
        · rcases or_t ghk22naa with ghk22naaa | ⟨ghk22naaa, ghk22naab⟩
          · rcases or_t ghk22naaa with ghk22naaaa | ⟨ghk22naaaa, ghk22naaab⟩
            · rcases or_t ghk22naaaa with ghk22naaaaa | ⟨ghk22naaaaa, ghk22naaaab⟩
              · rcases or_t ghk22naaaaa with ghk22naaaaaa | ⟨ghk22naaaaaa, ghk22naaaaab⟩
                · rcases or_t ghk22naaaaaa with ghk22naaaaaaa | ⟨ghk22naaaaaaa, ghk22naaaaaab⟩
                  · rcases or_t ghk22naaaaaaa with ghk22naaaaaaaa | ⟨ghk22naaaaaaaa, ghk22naaaaaaab⟩
                    · rcases or_t ghk22naaaaaaaa with ghk22naaaaaaaaa | ⟨ghk22naaaaaaaaa, ghk22naaaaaaaab⟩
                      · rcases or_t ghk22naaaaaaaaa with ghk22naaaaaaaaaa | ⟨ghk22naaaaaaaaaa, ghk22naaaaaaaaab⟩
                        · rcases or_t ghk22naaaaaaaaaa with ghk22naaaaaaaaaaa | ⟨ghk22naaaaaaaaaaa, ghk22naaaaaaaaaab⟩
                          · rcases or_t ghk22naaaaaaaaaaa with ghk22naaaaaaaaaaaa | ⟨ghk22naaaaaaaaaaaa, ghk22naaaaaaaaaaab⟩
                            · have ghk22naaaaaaaaaaaan := no_t ghk22naaaaaaaaaaaa
                              try simp only [go_sem, n1, n2, n3, n4, hk2] at ghk22naaaaaaaaaaaan
                              all_goals
                              obtain ⟨hk23, h⟩ := ck_some h
                              rcases it_some h with ⟨hk24, h⟩ | ⟨hk24, h⟩
                              · try simp only [go_sem, n1, n2, n3, n4, hk2, ghk22naaaaaaaaaaaan] at hk24
                                all_goals
                                obtain rfl := so_some h
                                refine ⟨0, fun L hL => ?_⟩
                                simp only [go_sem, ir5, fhk1, hk2, fhk3, fhk4, fhk5, fhk6, fhk7, fhk8, fhk9, fhk10, fhk11, fhk12, fhk13, fhk14, fhk15, fhk16, fhk17, fhk18, fhk19, fhk20, fhk21, ghk22naaaaaaaaaaaan, hk24]
                              · try simp only [go_sem, n1, n2, n3, n4, hk2, ghk22naaaaaaaaaaaan] at hk24
                                all_goals
                                (simp_all)
                            · have ghk22naaaaaaaaaaaan := no_f ghk22naaaaaaaaaaaa
                              have ghk22naaaaaaaaaaabn := no_t ghk22naaaaaaaaaaab
                              try simp only [go_sem, n1, n2, n3, n4, hk2] at ghk22naaaaaaaaaaaan
                              all_goals
                              try simp only [go_sem, n1, n2, n3, n4, hk2, ghk22naaaaaaaaaaaan] at ghk22naaaaaaaaaaabn
                              all_goals
                              obtain ⟨hk23, h⟩ := ck_some h
                              rcases it_some h with ⟨hk24, h⟩ | ⟨hk24, h⟩
                              · try simp only [go_sem, n1, n2, n3, n4, hk2, ghk22naaaaaaaaaaaan, ghk22naaaaaaaaaaabn] at hk24
                                all_goals
                                obtain rfl := so_some h
                                refine ⟨0, fun L hL => ?_⟩
                                simp only [go_sem, ir5, fhk1, hk2, fhk3, fhk4, fhk5, fhk6, fhk7, fhk8, fhk9, fhk10, fhk11, fhk12, fhk13, fhk14, fhk15, fhk16, fhk17, fhk18, fhk19, fhk20, fhk21, ghk22naaaaaaaaaaaan, ghk22naaaaaaaaaaabn, hk24]
                              · try simp only [go_sem, n1, n2, n3, n4, hk2, ghk22naaaaaaaaaaaan, ghk22naaaaaaaaaaabn] at hk24
                                all_goals
                                (simp_all)
                          · obtain ⟨ghk22naaaaaaaaaaaa, ghk22naaaaaaaaaaab⟩ := or_f ghk22naaaaaaaaaaa
                            have ghk22naaaaaaaaaaaan := no_f ghk22naaaaaaaaaaaa
                            have ghk22naaaaaaaaaaabn := no_f ghk22naaaaaaaaaaab
                            have ghk22naaaaaaaaaabn := no_t ghk22naaaaaaaaaab
                            try simp only [go_sem, n1, n2, n3, n4, hk2] at ghk22naaaaaaaaaaaan
                            all_goals
                            try simp only [go_sem, n1, n2, n3, n4, hk2, ghk22naaaaaaaaaaaan] at ghk22naaaaaaaaaaabn
                            all_goals
                            try simp only [go_sem, n1, n2, n3, n4, hk2, ghk22naaaaaaaaaaaan, ghk22naaaaaaaaaaabn] at ghk22naaaaaaaaaabn
                            all_goals
                            obtain ⟨hk23, h⟩ := ck_some h
                            rcases it_some h with ⟨hk24, h⟩ | ⟨hk24, h⟩
                            · try simp only [go_sem, n1, n2, n3, n4, hk2, ghk22naaaaaaaaaaaan, ghk22naaaaaaaaaaabn, ghk22naaaaaaaaaabn] at hk24
                              all_goals
                              obtain rfl := so_some h
                              refine ⟨0, fun L hL => ?_⟩
                              simp only [go_sem, ir5, fhk1, hk2, fhk3, fhk4, fhk5, fhk6, fhk7, fhk8, fhk9, fhk10, fhk11, fhk12, fhk13, fhk14, fhk15, fhk16, fhk17, fhk18, fhk19, fhk20, fhk21, ghk22naaaaaaaaaaaan, ghk22naaaaaaaaaaabn, ghk22naaaaaaaaaabn, hk24]
                            · try simp only [go_sem, n1, n2, n3, n4, hk2, ghk22naaaaaaaaaaaan, ghk22naaaaaaaaaaabn, ghk22naaaaaaaaaabn] at hk24
                              all_goals
                              (simp_all)
                        · obtain ⟨ghk22naaaaaaaaaaa, ghk22naaaaaaaaaab⟩ := or_f ghk22naaaaaaaaaa
                          obtain ⟨ghk22naaaaaaaaaaaa, ghk22naaaaaaaaaaab⟩ := or_f ghk22naaaaaaaaaaa
                          have ghk22naaaaaaaaaaaan := no_f ghk22naaaaaaaaaaaa
                          have ghk22naaaaaaaaaaabn := no_f ghk22naaaaaaaaaaab
                          have ghk22naaaaaaaaaabn := no_f ghk22naaaaaaaaaab
                          have ghk22naaaaaaaaabn := no_t ghk22naaaaaaaaab
                          try simp only [go_sem, n1, n2, n3, n4, hk2] at ghk22naaaaaaaaaaaan
                          all_goals
                          try simp only [go_sem, n1, n2, n3, n4, hk2, ghk22naaaaaaaaaaaan] at ghk22naaaaaaaaaaabn
                          all_goals
                          try simp only [go_sem, n1, n2, n3, n4, hk2, ghk22naaaaaaaaaaaan, ghk22naaaaaaaaaaabn] at ghk22naaaaaaaaaabn
                          all_goals
                          try simp only [go_sem, n1, n2, n3, n4, hk2, ghk22naaaaaaaaaaaan, ghk22naaaaaaaaaaabn, ghk22naaaaaaaaaabn] at ghk22naaaaaaaaabn
                          all_goals
                          obtain ⟨hk23, h⟩ := ck_some h
                          rcases it_some h with ⟨hk24, h⟩ | ⟨hk24, h⟩
                          · try simp only [go_sem, n1, n2, n3, n4, hk2, ghk22naaaaaaaaaaaan, ghk22naaaaaaaaaaabn, ghk22naaaaaaaaaabn, ghk22naaaaaaaaabn] at hk24
                            all_goals
                            obtain rfl := so_some h
                            refine ⟨0, fun L hL => ?_⟩
                            simp only [go_sem, ir5, fhk1, hk2, fhk3, fhk4, fhk5, fhk6, fhk7, fhk8, fhk9, fhk10, fhk11, fhk12, fhk13, fhk14, fhk15, fhk16, fhk17, fhk18, fhk19, fhk20, fhk21, ghk22naaaaaaaaaaaan, ghk22naaaaaaaaaaabn, ghk22naaaaaaaaaabn, ghk22naaaaaaaaabn, hk24]
                          · try simp only [go_sem, n1, n2, n3, n4, hk2, ghk22naaaaaaaaaaaan, ghk22naaaaaaaaaaabn, ghk22naaaaaaaaaabn, ghk22naaaaaaaaabn] at hk24
                            all_goals
                            (simp_all)
                      · obtain ⟨ghk22naaaaaaaaaa, ghk22naaaaaaaaab⟩ := or_f ghk22naaaaaaaaa
                        obtain ⟨ghk22naaaaaaaaaaa, ghk22naaaaaaaaaab⟩ := or_f ghk22naaaaaaaaaa
                        obtain ⟨ghk22naaaaaaaaaaaa, ghk22naaaaaaaaaaab⟩ := or_f ghk22naaaaaaaaaaa
                        have ghk22naaaaaaaaaaaan := no_f ghk22naaaaaaaaaaaa
                        have ghk22naaaaaaaaaaabn := no_f ghk22naaaaaaaaaaab
                        have ghk22naaaaaaaaaabn := no_f ghk22naaaaaaaaaab
                        have ghk22naaaaaaaaabn := no_f ghk22naaaaaaaaab
                        have ghk22naaaaaaaabn := no_t ghk22naaaaaaaab
                        try simp only [go_sem, n1, n2, n3, n4, hk2] at ghk22naaaaaaaaaaaan
                        all_goals
                        try simp only [go_sem, n1, n2, n3, n4, hk2, ghk22naaaaaaaaaaaan] at ghk22naaaaaaaaaaabn
                        all_goals
                        try simp only [go_sem, n1, n2, n3, n4, hk2, ghk22naaaaaaaaaaaan, ghk22naaaaaaaaaaabn] at ghk22naaaaaaaaaabn
                        all_goals
                        try simp only [go_sem, n1, n2, n3, n4, hk2, ghk22naaaaaaaaaaaan, ghk22naaaaaaaaaaabn, ghk22naaaaaaaaaabn] at ghk22naaaaaaaaabn
                        all_goals
                        try simp only [go_sem, n1, n2, n3, n4, hk2, ghk22naaaaaaaaaaaan, ghk22naaaaaaaaaaabn, ghk22naaaaaaaaaabn, ghk22naaaaaaaaabn] at ghk22naaaaaaaabn
                        all_goals
                        obtain ⟨hk23, h⟩ := ck_some h
                        rcases it_some h with ⟨hk24, h⟩ | ⟨hk24, h⟩
                        · try simp only [go_sem, n1, n2, n3, n4, hk2, ghk22naaaaaaaaaaaan, ghk22naaaaaaaaaaabn, ghk22naaaaaaaaaabn, ghk22naaaaaaaaabn, ghk22naaaaaaaabn] at hk24
                          all_goals
                          obtain rfl := so_some h
                          refine ⟨0, fun L hL => ?_⟩
                          simp only [go_sem, ir5, fhk1, hk2, fhk3, fhk4, fhk5, fhk6, fhk7, fhk8, fhk9, fhk10, fhk11, fhk12, fhk13, fhk14, fhk15, fhk16, fhk17, fhk18, fhk19, fhk20, fhk21, ghk22naaaaaaaaaaaan, ghk22naaaaaaaaaaabn, ghk22naaaaaaaaaabn, ghk22naaaaaaaaabn, ghk22naaaaaaaabn, hk24]
                        · try simp only [go_sem, n1, n2, n3, n4, hk2, ghk22naaaaaaaaaaaan, ghk22naaaaaaaaaaabn, ghk22naaaaaaaaaabn, ghk22naaaaaaaaabn, ghk22naaaaaaaabn] at hk24
                          all_goals
                          (simp_all)
                    · obtain ⟨ghk22naaaaaaaaa, ghk22naaaaaaaab⟩ := or_f ghk22naaaaaaaa
                      obtain ⟨ghk22naaaaaaaaaa, ghk22naaaaaaaaab⟩ := or_f ghk22naaaaaaaaa
                      obtain ⟨ghk22naaaaaaaaaaa, ghk22naaaaaaaaaab⟩ := or_f ghk22naaaaaaaaaa
                      obtain ⟨ghk22naaaaaaaaaaaa, ghk22naaaaaaaaaaab⟩ := or_f ghk22naaaaaaaaaaa
                      have ghk22naaaaaaaaaaaan := no_f ghk22naaaaaaaaaaaa
                      have ghk22naaaaaaaaaaabn := no_f ghk22naaaaaaaaaaab
                      have ghk22naaaaaaaaaabn := no_f ghk22naaaaaaaaaab
                      have ghk22naaaaaaaaabn := no_f ghk22naaaaaaaaab
                      have ghk22naaaaaaaabn := no_f ghk22naaaaaaaab
                      have ghk22naaaaaaabn := no_t ghk22naaaaaaab
                      try simp only [go_sem, n1, n2, n3, n4, hk2] at ghk22naaaaaaaaaaaan
                      all_goals
                      try simp only [go_sem, n1, n2, n3, n4, hk2, ghk22naaaaaaaaaaaan] at ghk22naaaaaaaaaaabn
                      all_goals
                      try simp only [go_sem, n1, n2, n3, n4, hk2, ghk22naaaaaaaaaaaan, ghk22naaaaaaaaaaabn] at ghk22naaaaaaaaaabn
                      all_goals
                      try simp only [go_sem, n1, n2, n3, n4, hk2, ghk22naaaaaaaaaaaan, ghk22naaaaaaaaaaabn, ghk22naaaaaaaaaabn] at ghk22naaaaaaaaabn
                      all_goals
                      try simp only [go_sem, n1, n2, n3, n4, hk2, ghk22naaaaaaaaaaaan, ghk22naaaaaaaaaaabn, ghk22naaaaaaaaaabn, ghk22naaaaaaaaabn] at ghk22naaaaaaaabn
                      all_goals
                      try simp only [go_sem, n1, n2, n3, n4, hk2, ghk22naaaaaaaaaaaan, ghk22naaaaaaaaaaabn, ghk22naaaaaaaaaabn, ghk22naaaaaaaaabn, ghk22naaaaaaaabn] at ghk22naaaaaaabn
                      all_goals
                      obtain ⟨hk23, h⟩ := ck_some h
                      rcases it_some h with ⟨hk24, h⟩ | ⟨hk24, h⟩
                      · try simp only [go_sem, n1, n2, n3, n4, hk2, ghk22naaaaaaaaaaaan, ghk22naaaaaaaaaaabn, ghk22naaaaaaaaaabn, ghk22naaaaaaaaabn, ghk22naaaaaaaabn, ghk22naaaaaaabn] at hk24
                        all_goals
                        obtain rfl := so_some h
                        refine ⟨0, fun L hL => ?_⟩
                        simp only [go_sem, ir5, fhk1, hk2, fhk3, fhk4, fhk5, fhk6, fhk7, fhk8, fhk9, fhk10, fhk11, fhk12, fhk13, fhk14, fhk15, fhk16, fhk17, fhk18, fhk19, fhk20, fhk21, ghk22naaaaaaaaaaaan, ghk22naaaaaaaaaaabn, ghk22naaaaaaaaaabn, ghk22naaaaaaaaabn, ghk22naaaaaaaabn, ghk22naaaaaaabn, hk24]
                      · try simp only [go_sem, n1, n2, n3, n4, hk2, ghk22naaaaaaaaaaaan, ghk22naaaaaaaaaaabn, ghk22naaaaaaaaaabn, ghk22naaaaaaaaabn, ghk22naaaaaaaabn, ghk22naaaaaaabn] at hk24
                        all_goals
                        (simp_all)
                  · obtain ⟨ghk22naaaaaaaa, ghk22naaaaaaab⟩ := or_f ghk22naaaaaaa
                    obtain ⟨ghk22naaaaaaaaa, ghk22naaaaaaaab⟩ := or_f ghk22naaaaaaaa
                    obtain ⟨ghk22naaaaaaaaaa, ghk22naaaaaaaaab⟩ := or_f ghk22naaaaaaaaa
                    obtain ⟨ghk22naaaaaaaaaaa, ghk22naaaaaaaaaab⟩ := or_f ghk22naaaaaaaaaa
                    obtain ⟨ghk22naaaaaaaaaaaa, ghk22naaaaaaaaaaab⟩ := or_f ghk22naaaaaaaaaaa
                    have ghk22naaaaaaaaaaaan := no_f ghk22naaaaaaaaaaaa
                    have ghk22naaaaaaaaaaabn := no_f ghk22naaaaaaaaaaab
                    have ghk22naaaaaaaaaabn := no_f ghk22naaaaaaaaaab
                    have ghk22naaaaaaaaabn := no_f ghk22naaaaaaaaab
                    have ghk22naaaaaaaabn := no_f ghk22naaaaaaaab
                    have ghk22naaaaaaabn := no_f ghk22naaaaaaab
                    have ghk22naaaaaabn := no_t ghk22naaaaaab
                    try simp only [go_sem, n1, n2, n3, n4, hk2] at ghk22naaaaaaaaaaaan
                    all_goals
                    try simp only [go_sem, n1, n2, n3, n4, hk2, ghk22naaaaaaaaaaaan] at ghk22naaaaaaaaaaabn
                    all_goals
                    try simp only [go_sem, n1, n2, n3, n4, hk2, ghk22naaaaaaaaaaaan, ghk22naaaaaaaaaaabn] at ghk22naaaaaaaaaabn
                    all_goals
                    try simp only [go_sem, n1, n2, n3, n4, hk2, ghk22naaaaaaaaaaaan, ghk22naaaaaaaaaaabn, ghk22naaaaaaaaaabn] at ghk22naaaaaaaaabn
                    all_goals
                    try simp only [go_sem, n1, n2, n3, n4, hk2, ghk22naaaaaaaaaaaan, ghk22naaaaaaaaaaabn, ghk22naaaaaaaaaabn, ghk22naaaaaaaaabn] at ghk22naaaaaaaabn
                    all_goals
                    try simp only [go_sem, n1, n2, n3, n4, hk2, ghk22naaaaaaaaaaaan, ghk22naaaaaaaaaaabn, ghk22naaaaaaaaaabn, ghk22naaaaaaaaabn, ghk22naaaaaaaabn] at ghk22naaaaaaabn
                    all_goals
                    try simp only [go_sem, n1, n2, n3, n4, hk2, ghk22naaaaaaaaaaaan, ghk22naaaaaaaaaaabn, ghk22naaaaaaaaaabn, ghk22naaaaaaaaabn, ghk22naaaaaaaabn, ghk22naaaaaaabn] at ghk22naaaaaabn
                    all_goals
                    obtain ⟨hk23, h⟩ := ck_some h
                    rcases it_some h with ⟨hk24, h⟩ | ⟨hk24, h⟩
                    · try simp only [go_sem, n1, n2, n3, n4, hk2, ghk22naaaaaaaaaaaan, ghk22naaaaaaaaaaabn, ghk22naaaaaaaaaabn, ghk22naaaaaaaaabn, ghk22naaaaaaaabn, ghk22naaaaaaabn, ghk22naaaaaabn] at hk24
                      all_goals
                      obtain rfl := so_some h
                      refine ⟨0, fun L hL => ?_⟩
                      simp only [go_sem, ir5, fhk1, hk2, fhk3, fhk4, fhk5, fhk6, fhk7, fhk8, fhk9, fhk10, fhk11, fhk12, fhk13, fhk14, fhk15, fhk16, fhk17, fhk18, fhk19, fhk20, fhk21, ghk22naaaaaaaaaaaan, ghk22naaaaaaaaaaabn, ghk22naaaaaaaaaabn, ghk22naaaaaaaaabn, ghk22naaaaaaaabn, ghk22naaaaaaabn, ghk22naaaaaabn, hk24]
                    · try simp only [go_sem, n1, n2, n3, n4, hk2, ghk22naaaaaaaaaaaan, ghk22naaaaaaaaaaabn, ghk22naaaaaaaaaabn, ghk22naaaaaaaaabn, ghk22naaaaaaaabn, ghk22naaaaaaabn, ghk22naaaaaabn] at hk24
                      all_goals
                      (simp_all)
                · obtain ⟨ghk22naaaaaaa, ghk22naaaaaab⟩ := or_f ghk22naaaaaa
                  obtain ⟨ghk22naaaaaaaa, ghk22naaaaaaab⟩ := or_f ghk22naaaaaaa
                  obtain ⟨ghk22naaaaaaaaa, ghk22naaaaaaaab⟩ := or_f ghk22naaaaaaaa
                  obtain ⟨ghk22naaaaaaaaaa, ghk22naaaaaaaaab⟩ := or_f ghk22naaaaaaaaa
                  obtain ⟨ghk22naaaaaaaaaaa, ghk22naaaaaaaaaab⟩ := or_f ghk22naaaaaaaaaa
                  obtain ⟨ghk22naaaaaaaaaaaa, ghk22naaaaaaaaaaab⟩ := or_f ghk22naaaaaaaaaaa
                  have ghk22naaaaaaaaaaaan := no_f ghk22naaaaaaaaaaaa
                  have ghk22naaaaaaaaaaabn := no_f ghk22naaaaaaaaaaab
                  have ghk22naaaaaaaaaabn := no_f ghk22naaaaaaaaaab
                  have ghk22naaaaaaaaabn := no_f ghk22naaaaaaaaab
                  have ghk22naaaaaaaabn := no_f ghk22naaaaaaaab
                  have ghk22naaaaaaabn := no_f ghk22naaaaaaab
                  have ghk22naaaaaabn := no_f ghk22naaaaaab
                  have ghk22naaaaabn := no_t ghk22naaaaab
                  try simp only [go_sem, n1, n2, n3, n4, hk2] at ghk22naaaaaaaaaaaan
                  all_goals
                  try simp only [go_sem, n1, n2, n3, n4, hk2, ghk22naaaaaaaaaaaan] at ghk22naaaaaaaaaaabn
                  all_goals
                  try simp only [go_sem, n1, n2, n3, n4, hk2, ghk22naaaaaaaaaaaan, ghk22naaaaaaaaaaabn] at ghk22naaaaaaaaaabn
                  all_goals
                  try simp only [go_sem, n1, n2, n3, n4, hk2, ghk22naaaaaaaaaaaan, ghk22naaaaaaaaaaabn, ghk22naaaaaaaaaabn] at ghk22naaaaaaaaabn
                  all_goals
                  try simp only [go_sem, n1, n2, n3, n4, hk2, ghk22naaaaaaaaaaaan, ghk22naaaaaaaaaaabn, ghk22naaaaaaaaaabn, ghk22naaaaaaaaabn] at ghk22naaaaaaaabn
                  all_goals
                  try simp only [go_sem, n1, n2, n3, n4, hk2, ghk22naaaaaaaaaaaan, ghk22naaaaaaaaaaabn, ghk22naaaaaaaaaabn, ghk22naaaaaaaaabn, ghk22naaaaaaaabn] at ghk22naaaaaaabn
                  all_goals
                  try simp only [go_sem, n1, n2, n3, n4, hk2, ghk22naaaaaaaaaaaan, ghk22naaaaaaaaaaabn, ghk22naaaaaaaaaabn, ghk22naaaaaaaaabn, ghk22naaaaaaaabn, ghk22naaaaaaabn] at ghk22naaaaaabn
                  all_goals
                  try simp only [go_sem, n1, n2, n3, n4, hk2, ghk22naaaaaaaaaaaan, ghk22naaaaaaaaaaabn, ghk22naaaaaaaaaabn, ghk22naaaaaaaaabn, ghk22naaaaaaaabn, ghk22naaaaaaabn, ghk22naaaaaabn] at ghk22naaaaabn
                  all_goals
                  obtain ⟨hk23, h⟩ := ck_some h
                  rcases it_some h with ⟨hk24, h⟩ | ⟨hk24, h⟩
                  · try simp only [go_sem, n1, n2, n3, n4, hk2, ghk22naaaaaaaaaaaan, ghk22naaaaaaaaaaabn, ghk22naaaaaaaaaabn, ghk22naaaaaaaaabn, ghk22naaaaaaaabn, ghk22naaaaaaabn, ghk22naaaaaabn, ghk22naaaaabn] at hk24
                    all_goals
                    obtain rfl := so_some h
                    refine ⟨0, fun L hL => ?_⟩
                    simp only [go_sem, ir5, fhk1, hk2, fhk3, fhk4, fhk5, fhk6, fhk7, fhk8, fhk9, fhk10, fhk11, fhk12, fhk13, fhk14, fhk15, fhk16, fhk17, fhk18, fhk19, fhk20, fhk21, ghk22naaaaaaaaaaaan, ghk22naaaaaaaaaaabn, ghk22naaaaaaaaaabn, ghk22naaaaaaaaabn, ghk22naaaaaaaabn, ghk22naaaaaaabn, ghk22naaaaaabn, ghk22naaaaabn, hk24]
                  · try simp only [go_sem, n1, n2, n3, n4, hk2, ghk22naaaaaaaaaaaan, ghk22naaaaaaaaaaabn, ghk22naaaaaaaaaabn, ghk22naaaaaaaaabn, ghk22naaaaaaaabn, ghk22naaaaaaabn, ghk22naaaaaabn, ghk22naaaaabn] at hk24
                    all_goals
                    (simp_all)
              · obtain ⟨ghk22naaaaaa, ghk22naaaaab⟩ := or_f ghk22naaaaa
                obtain ⟨ghk22naaaaaaa, ghk22naaaaaab⟩ := or_f ghk22naaaaaa
                obtain ⟨ghk22naaaaaaaa, ghk22naaaaaaab⟩ := or_f ghk22naaaaaaa
                obtain ⟨ghk22naaaaaaaaa, ghk22naaaaaaaab⟩ := or_f ghk22naaaaaaaa
                obtain ⟨ghk22naaaaaaaaaa, ghk22naaaaaaaaab⟩ := or_f ghk22naaaaaaaaa
                obtain ⟨ghk22naaaaaaaaaaa, ghk22naaaaaaaaaab⟩ := or_f ghk22naaaaaaaaaa
                obtain ⟨ghk22naaaaaaaaaaaa, ghk22naaaaaaaaaaab⟩ := or_f ghk22naaaaaaaaaaa
                have ghk22naaaaaaaaaaaan := no_f ghk22naaaaaaaaaaaa
                have ghk22naaaaaaaaaaabn := no_f ghk22naaaaaaaaaaab
                have ghk22naaaaaaaaaabn := no_f ghk22naaaaaaaaaab
                have ghk22naaaaaaaaabn := no_f ghk22naaaaaaaaab
                have ghk22naaaaaaaabn := no_f ghk22naaaaaaaab
                have ghk22naaaaaaabn := no_f ghk22naaaaaaab
                have ghk22naaaaaabn := no_f ghk22naaaaaab
                have ghk22naaaaabn := no_f ghk22naaaaab
                have ghk22naaaabn := no_t ghk22naaaab
                try simp only [go_sem, n1, n2, n3, n4, hk2] at ghk22naaaaaaaaaaaan
                all_goals
                try simp only [go_sem, n1, n2, n3, n4, hk2, ghk22naaaaaaaaaaaan] at ghk22naaaaaaaaaaabn
                all_goals
                try simp only [go_sem, n1, n2, n3, n4, hk2, ghk22naaaaaaaaaaaan, ghk22naaaaaaaaaaabn] at ghk22naaaaaaaaaabn
                all_goals
                try simp only [go_sem, n1, n2, n3, n4, hk2, ghk22naaaaaaaaaaaan, ghk22naaaaaaaaaaabn, ghk22naaaaaaaaaabn] at ghk22naaaaaaaaabn
                all_goals
                try simp only [go_sem, n1, n2, n3, n4, hk2, ghk22naaaaaaaaaaaan, ghk22naaaaaaaaaaabn, ghk22naaaaaaaaaabn, ghk22naaaaaaaaabn] at ghk22naaaaaaaabn
                all_goals
                try simp only [go_sem, n1, n2, n3, n4, hk2, ghk22naaaaaaaaaaaan, ghk22naaaaaaaaaaabn, ghk22naaaaaaaaaabn, ghk22naaaaaaaaabn, ghk22naaaaaaaabn] at ghk22naaaaaaabn
                all_goals
                try simp only [go_sem, n1, n2, n3, n4, hk2, ghk22naaaaaaaaaaaan, ghk22naaaaaaaaaaabn, ghk22naaaaaaaaaabn, ghk22naaaaaaaaabn, ghk22naaaaaaaabn, ghk22naaaaaaabn] at ghk22naaaaaabn
                all_goals
                try simp only [go_sem, n1, n2, n3, n4, hk2, ghk22naaaaaaaaaaaan, ghk22naaaaaaaaaaabn, ghk22naaaaaaaaaabn, ghk22naaaaaaaaabn, ghk22naaaaaaaabn, ghk22naaaaaaabn, ghk22naaaaaabn] at ghk22naaaaabn
                all_goals
                try simp only [go_sem, n1, n2, n3, n4, hk2, ghk22naaaaaaaaaaaan, ghk22naaaaaaaaaaabn, ghk22naaaaaaaaaabn, ghk22naaaaaaaaabn, ghk22naaaaaaaabn, ghk22naaaaaaabn, ghk22naaaaaabn, ghk22naaaaabn] at ghk22naaaabn
                all_goals
                obtain ⟨hk23, h⟩ := ck_some h
                rcases it_some h with ⟨hk24, h⟩ | ⟨hk24, h⟩
                · try simp only [go_sem, n1, n2, n3, n4, hk2, ghk22naaaaaaaaaaaan, ghk22naaaaaaaaaaabn, ghk22naaaaaaaaaabn, ghk22naaaaaaaaabn, ghk22naaaaaaaabn, ghk22naaaaaaabn, ghk22naaaaaabn, ghk22naaaaabn, ghk22naaaabn] at hk24
                  all_goals
                  obtain rfl := so_some h
                  refine ⟨0, fun L hL => ?_⟩
                  simp only [go_sem, ir5, fhk1, hk2, fhk3, fhk4, fhk5, fhk6, fhk7, fhk8, fhk9, fhk10, fhk11, fhk12, fhk13, fhk14, fhk15, fhk16, fhk17, fhk18, fhk19, fhk20, fhk21, ghk22naaaaaaaaaaaan, ghk22naaaaaaaaaaabn, ghk22naaaaaaaaaabn, ghk22naaaaaaaaabn, ghk22naaaaaaaabn, ghk22naaaaaaabn, ghk22naaaaaabn, ghk22naaaaabn, ghk22naaaabn, hk24]
                · try simp only [go_sem, n1, n2, n3, n4, hk2, ghk22naaaaaaaaaaaan, ghk22naaaaaaaaaaabn, ghk22naaaaaaaaaabn, ghk22naaaaaaaaabn, ghk22naaaaaaaabn, ghk22naaaaaaabn, ghk22naaaaaabn, ghk22naaaaabn, ghk22naaaabn] at hk24
                  all_goals
                  (simp_all)
            · obtain ⟨ghk22naaaaa, ghk22naaaab⟩ := or_f ghk22naaaa
              obtain ⟨ghk22naaaaaa, ghk22naaaaab⟩ := or_f ghk22naaaaa
              obtain ⟨ghk22naaaaaaa, ghk22naaaaaab⟩ := or_f ghk22naaaaaa
              obtain ⟨ghk22naaaaaaaa, ghk22naaaaaaab⟩ := or_f ghk22naaaaaaa
              obtain ⟨ghk22naaaaaaaaa, ghk22naaaaaaaab⟩ := or_f ghk22naaaaaaaa
              obtain ⟨ghk22naaaaaaaaaa, ghk22naaaaaaaaab⟩ := or_f ghk22naaaaaaaaa
              obtain ⟨ghk22naaaaaaaaaaa, ghk22naaaaaaaaaab⟩ := or_f ghk22naaaaaaaaaa
              obtain ⟨ghk22naaaaaaaaaaaa, ghk22naaaaaaaaaaab⟩ := or_f ghk22naaaaaaaaaaa
              have ghk22naaaaaaaaaaaan := no_f ghk22naaaaaaaaaaaa
              have ghk22naaaaaaaaaaabn := no_f ghk22naaaaaaaaaaab
              have ghk22naaaaaaaaaabn := no_f ghk22naaaaaaaaaab
              have ghk22naaaaaaaaabn := no_f ghk22naaaaaaaaab
              have ghk22naaaaaaaabn := no_f ghk22naaaaaaaab
              have ghk22naaaaaaabn := no_f ghk22naaaaaaab
              have ghk22naaaaaabn := no_f ghk22naaaaaab
              have ghk22naaaaabn := no_f ghk22naaaaab
              have ghk22naaaabn := no_f ghk22naaaab
              have ghk22naaabn := no_t ghk22naaab
              try simp only [go_sem, n1, n2, n3, n4, hk2] at ghk22naaaaaaaaaaaan
              all_goals
              try simp only [go_sem, n1, n2, n3, n4, hk2, ghk22naaaaaaaaaaaan] at ghk22naaaaaaaaaaabn
              all_goals
              try simp only [go_sem, n1, n2, n3, n4, hk2, ghk22naaaaaaaaaaaan, ghk22naaaaaaaaaaabn] at ghk22naaaaaaaaaabn
              all_goals
              try simp only [go_sem, n1, n2, n3, n4, hk2, ghk22naaaaaaaaaaaan, ghk22naaaaaaaaaaabn, ghk22naaaaaaaaaabn] at ghk22naaaaaaaaabn
              all_goals
              try simp only [go_sem, n1, n2, n3, n4, hk2, ghk22naaaaaaaaaaaan, ghk22naaaaaaaaaaabn, ghk22naaaaaaaaaabn, ghk22naaaaaaaaabn] at ghk22naaaaaaaabn
              all_goals
              try simp only [go_sem, n1, n2, n3, n4, hk2, ghk22naaaaaaaaaaaan, ghk22naaaaaaaaaaabn, ghk22naaaaaaaaaabn, ghk22naaaaaaaaabn, ghk22naaaaaaaabn] at ghk22naaaaaaabn
              all_goals
              try simp only [go_sem, n1, n2, n3, n4, hk2, ghk22naaaaaaaaaaaan, ghk22naaaaaaaaaaabn, ghk22naaaaaaaaaabn, ghk22naaaaaaaaabn, ghk22naaaaaaaabn, ghk22naaaaaaabn] at ghk22naaaaaabn
              all_goals
              try simp only [go_sem, n1, n2, n3, n4, hk2, ghk22naaaaaaaaaaaan, ghk22naaaaaaaaaaabn, ghk22naaaaaaaaaabn, ghk22naaaaaaaaabn, ghk22naaaaaaaabn, ghk22naaaaaaabn, ghk22naaaaaabn] at ghk22naaaaabn
              all_goals
              try simp only [go_sem, n1, n2, n3, n4, hk2, ghk22naaaaaaaaaaaan, ghk22naaaaaaaaaaabn, ghk22naaaaaaaaaabn, ghk22naaaaaaaaabn, ghk22naaaaaaaabn, ghk22naaaaaaabn, ghk22naaaaaabn, ghk22naaaaabn] at ghk22naaaabn
              all_goals
              try simp only [go_sem, n1, n2, n3, n4, hk2, ghk22naaaaaaaaaaaan, ghk22naaaaaaaaaaabn, ghk22naaaaaaaaaabn, ghk22naaaaaaaaabn, ghk22naaaaaaaabn, ghk22naaaaaaabn, ghk22naaaaaabn, ghk22naaaaabn, ghk22naaaabn] at ghk22naaabn
              all_goals
              obtain ⟨hk23, h⟩ := ck_some h
              rcases it_some h with ⟨hk24, h⟩ | ⟨hk24, h⟩
              · try simp only [go_sem, n1, n2, n3, n4, hk2, ghk22naaaaaaaaaaaan, ghk22naaaaaaaaaaabn, ghk22naaaaaaaaaabn, ghk22naaaaaaaaabn, ghk22naaaaaaaabn, ghk22naaaaaaabn, ghk22naaaaaabn, ghk22naaaaabn, ghk22naaaabn, ghk22naaabn] at hk24
                all_goals
                obtain rfl := so_some h
                refine ⟨0, fun L hL => ?_⟩
                simp only [go_sem, ir5, fhk1, hk2, fhk3, fhk4, fhk5, fhk6, fhk7, fhk8, fhk9, fhk10, fhk11, fhk12, fhk13, fhk14, fhk15, fhk16, fhk17, fhk18, fhk19, fhk20, fhk21, ghk22naaaaaaaaaaaan, ghk22naaaaaaaaaaabn, ghk22naaaaaaaaaabn, ghk22naaaaaaaaabn, ghk22naaaaaaaabn, ghk22naaaaaaabn, ghk22naaaaaabn, ghk22naaaaabn, ghk22naaaabn, ghk22naaabn, hk24]
              · try simp only [go_sem, n1, n2, n3, n4, hk2, ghk22naaaaaaaaaaaan, ghk22naaaaaaaaaaabn, ghk22naaaaaaaaaabn, ghk22naaaaaaaaabn, ghk22naaaaaaaabn, ghk22naaaaaaabn, ghk22naaaaaabn, ghk22naaaaabn, ghk22naaaabn, ghk22naaabn] at hk24
                all_goals
                (simp_all)
          · obtain ⟨ghk22naaaa, ghk22naaab⟩ := or_f ghk22naaa
            obtain ⟨ghk22naaaaa, ghk22naaaab⟩ := or_f ghk22naaaa
            obtain ⟨ghk22naaaaaa, ghk22naaaaab⟩ := or_f ghk22naaaaa
            obtain ⟨ghk22naaaaaaa, ghk22naaaaaab⟩ := or_f ghk22naaaaaa
            obtain ⟨ghk22naaaaaaaa, ghk22naaaaaaab⟩ := or_f ghk22naaaaaaa
            obtain ⟨ghk22naaaaaaaaa, ghk22naaaaaaaab⟩ := or_f ghk22naaaaaaaa
            obtain ⟨ghk22naaaaaaaaaa, ghk22naaaaaaaaab⟩ := or_f ghk22naaaaaaaaa
            obtain ⟨ghk22naaaaaaaaaaa, ghk22naaaaaaaaaab⟩ := or_f ghk22naaaaaaaaaa
            obtain ⟨ghk22naaaaaaaaaaaa, ghk22naaaaaaaaaaab⟩ := or_f ghk22naaaaaaaaaaa
            have ghk22naaaaaaaaaaaan := no_f ghk22naaaaaaaaaaaa
            have ghk22naaaaaaaaaaabn := no_f ghk22naaaaaaaaaaab
            have ghk22naaaaaaaaaabn := no_f ghk22naaaaaaaaaab
            have ghk22naaaaaaaaabn := no_f ghk22naaaaaaaaab
            have ghk22naaaaaaaabn := no_f ghk22naaaaaaaab
            have ghk22naaaaaaabn := no_f ghk22naaaaaaab
            have ghk22naaaaaabn := no_f ghk22naaaaaab
            have ghk22naaaaabn := no_f ghk22naaaaab
            have ghk22naaaabn := no_f ghk22naaaab
            have ghk22naaabn := no_f ghk22naaab
            have ghk22naabn := no_t ghk22naab
            try simp only [go_sem, n1, n2, n3, n4, hk2] at ghk22naaaaaaaaaaaan
            all_goals
            try simp only [go_sem, n1, n2, n3, n4, hk2, ghk22naaaaaaaaaaaan] at ghk22naaaaaaaaaaabn
            all_goals
            try simp only [go_sem, n1, n2, n3, n4, hk2, ghk22naaaaaaaaaaaan, ghk22naaaaaaaaaaabn] at ghk22naaaaaaaaaabn
            all_goals
            try simp only [go_sem, n1, n2, n3, n4, hk2, ghk22naaaaaaaaaaaan, ghk22naaaaaaaaaaabn, ghk22naaaaaaaaaabn] at ghk22naaaaaaaaabn
            all_goals
            try simp only [go_sem, n1, n2, n3, n4, hk2, ghk22naaaaaaaaaaaan, ghk22naaaaaaaaaaabn, ghk22naaaaaaaaaabn, ghk22naaaaaaaaabn] at ghk22naaaaaaaabn
            all_goals
            try simp only [go_sem, n1, n2, n3, n4, hk2, ghk22naaaaaaaaaaaan, ghk22naaaaaaaaaaabn, ghk22naaaaaaaaaabn, ghk22naaaaaaaaabn, ghk22naaaaaaaabn] at ghk22naaaaaaabn
            all_goals
            try simp only [go_sem, n1, n2, n3, n4, hk2, ghk22naaaaaaaaaaaan, ghk22naaaaaaaaaaabn, ghk22naaaaaaaaaabn, ghk22naaaaaaaaabn, ghk22naaaaaaaabn, ghk22naaaaaaabn] at ghk22naaaaaabn
            all_goals
            try simp only [go_sem, n1, n2, n3, n4, hk2, ghk22naaaaaaaaaaaan, ghk22naaaaaaaaaaabn, ghk22naaaaaaaaaabn, ghk22naaaaaaaaabn, ghk22naaaaaaaabn, ghk22naaaaaaabn, ghk22naaaaaabn] at ghk22naaaaabn
            all_goals
            try simp only [go_sem, n1, n2, n3, n4, hk2, ghk22naaaaaaaaaaaan, ghk22naaaaaaaaaaabn, ghk22naaaaaaaaaabn, ghk22naaaaaaaaabn, ghk22naaaaaaaabn, ghk22naaaaaaabn, ghk22naaaaaabn, ghk22naaaaabn] at ghk22naaaabn
            all_goals
            try simp only [go_sem, n1, n2, n3, n4, hk2, ghk22naaaaaaaaaaaan, ghk22naaaaaaaaaaabn, ghk22naaaaaaaaaabn, ghk22naaaaaaaaabn, ghk22naaaaaaaabn, ghk22naaaaaaabn, ghk22naaaaaabn, ghk22naaaaabn, ghk22naaaabn] at ghk22naaabn
            all_goals
            try simp only [go_sem, n1, n2, n3, n4, hk2, ghk22naaaaaaaaaaaan, ghk22naaaaaaaaaaabn, ghk22naaaaaaaaaabn, ghk22naaaaaaaaabn, ghk22naaaaaaaabn, ghk22naaaaaaabn, ghk22naaaaaabn, ghk22naaaaabn, ghk22naaaabn, ghk22naaabn] at ghk22naabn
            all_goals
            obtain ⟨hk23, h⟩ := ck_some h
            rcases it_some h with ⟨hk24, h⟩ | ⟨hk24, h⟩
            · try simp only [go_sem, n1, n2, n3, n4, hk2, ghk22naaaaaaaaaaaan, ghk22naaaaaaaaaaabn, ghk22naaaaaaaaaabn, ghk22naaaaaaaaabn, ghk22naaaaaaaabn, ghk22naaaaaaabn, ghk22naaaaaabn, ghk22naaaaabn, ghk22naaaabn, ghk22naaabn, ghk22naabn] at hk24
              all_goals
              obtain rfl := so_some h
              refine ⟨0, fun L hL => ?_⟩
              simp only [go_sem, ir5, fhk1, hk2, fhk3, fhk4, fhk5, fhk6, fhk7, fhk8, fhk9, fhk10, fhk11, fhk12, fhk13, fhk14, fhk15, fhk16, fhk17, fhk18, fhk19, fhk20, fhk21, ghk22naaaaaaaaaaaan, ghk22naaaaaaaaaaabn, ghk22naaaaaaaaaabn, ghk22naaaaaaaaabn, ghk22naaaaaaaabn, ghk22naaaaaaabn, ghk22naaaaaabn, ghk22naaaaabn, ghk22naaaabn, ghk22naaabn, ghk22naabn, hk24]
            · try simp only [go_sem, n1, n2, n3, n4, hk2, ghk22naaaaaaaaaaaan, ghk22naaaaaaaaaaabn, ghk22naaaaaaaaaabn, ghk22naaaaaaaaabn, ghk22naaaaaaaabn, ghk22naaaaaaabn, ghk22naaaaaabn, ghk22naaaaabn, ghk22naaaabn, ghk22naaabn, ghk22naabn] at hk24
              all_goals
              (simp_all)
        · obtain ⟨ghk22naaa, ghk22naab⟩ := or_f ghk22naa
          obtain ⟨ghk22naaaa, ghk22naaab⟩ := or_f ghk22naaa
          obtain ⟨ghk22naaaaa, ghk22naaaab⟩ := or_f ghk22naaaa
          obtain ⟨ghk22naaaaaa, ghk22naaaaab⟩ := or_f ghk22naaaaa
          obtain ⟨ghk22naaaaaaa, ghk22naaaaaab⟩ := or_f ghk22naaaaaa
          obtain ⟨ghk22naaaaaaaa, ghk22naaaaaaab⟩ := or_f ghk22naaaaaaa
          obtain ⟨ghk22naaaaaaaaa, ghk22naaaaaaaab⟩ := or_f ghk22naaaaaaaa
          obtain ⟨ghk22naaaaaaaaaa, ghk22naaaaaaaaab⟩ := or_f ghk22naaaaaaaaa
          obtain ⟨ghk22naaaaaaaaaaa, ghk22naaaaaaaaaab⟩ := or_f ghk22naaaaaaaaaa
          obtain ⟨ghk22naaaaaaaaaaaa, ghk22naaaaaaaaaaab⟩ := or_f ghk22naaaaaaaaaaa
          have ghk22naaaaaaaaaaaan := no_f ghk22naaaaaaaaaaaa
          have ghk22naaaaaaaaaaabn := no_f ghk22naaaaaaaaaaab
          have ghk22naaaaaaaaaabn := no_f ghk22naaaaaaaaaab
          have ghk22naaaaaaaaabn := no_f ghk22naaaaaaaaab
          have ghk22naaaaaaaabn := no_f ghk22naaaaaaaab
          have ghk22naaaaaaabn := no_f ghk22naaaaaaab
          have ghk22naaaaaabn := no_f ghk22naaaaaab
          have ghk22naaaaabn := no_f ghk22naaaaab
          have ghk22naaaabn := no_f ghk22naaaab
          have ghk22naaabn := no_f ghk22naaab
          have ghk22naabn := no_f ghk22naab
          have ghk22nabn := no_t ghk22nab
          try simp only [go_sem, n1, n2, n3, n4, hk2] at ghk22naaaaaaaaaaaan
          all_goals
          try simp only [go_sem, n1, n2, n3, n4, hk2, ghk22naaaaaaaaaaaan] at ghk22naaaaaaaaaaabn
          all_goals
          try simp only [go_sem, n1, n2, n3, n4, hk2, ghk22naaaaaaaaaaaan, ghk22naaaaaaaaaaabn] at ghk22naaaaaaaaaabn
          all_goals
          try simp only [go_sem, n1, n2, n3, n4, hk2, ghk22naaaaaaaaaaaan, ghk22naaaaaaaaaaabn, ghk22naaaaaaaaaabn] at ghk22naaaaaaaaabn
          all_goals
          try simp only [go_sem, n1, n2, n3, n4, hk2, ghk22naaaaaaaaaaaan, ghk22naaaaaaaaaaabn, ghk22naaaaaaaaaabn, ghk22naaaaaaaaabn] at ghk22naaaaaaaabn
          all_goals
          try simp only [go_sem, n1, n2, n3, n4, hk2, ghk22naaaaaaaaaaaan, ghk22naaaaaaaaaaabn, ghk22naaaaaaaaaabn, ghk22naaaaaaaaabn, ghk22naaaaaaaabn] at ghk22naaaaaaabn
          all_goals
          try simp only [go_sem, n1, n2, n3, n4, hk2, ghk22naaaaaaaaaaaan, ghk22naaaaaaaaaaabn, ghk22naaaaaaaaaabn, ghk22naaaaaaaaabn, ghk22naaaaaaaabn, ghk22naaaaaaabn] at ghk22naaaaaabn
          all_goals
          try simp only [go_sem, n1, n2, n3, n4, hk2, ghk22naaaaaaaaaaaan, ghk22naaaaaaaaaaabn, ghk22naaaaaaaaaabn, ghk22naaaaaaaaabn, ghk22naaaaaaaabn, ghk22naaaaaaabn, ghk22naaaaaabn] at ghk22naaaaabn
          all_goals
          try simp only [go_sem, n1, n2, n3, n4, hk2, ghk22naaaaaaaaaaaan, ghk22naaaaaaaaaaabn, ghk22naaaaaaaaaabn, ghk22naaaaaaaaabn, ghk22naaaaaaaabn, ghk22naaaaaaabn, ghk22naaaaaabn, ghk22naaaaabn] at ghk22naaaabn
          all_goals
          try simp only [go_sem, n1, n2, n3, n4, hk2, ghk22naaaaaaaaaaaan, ghk22naaaaaaaaaaabn, ghk22naaaaaaaaaabn, ghk22naaaaaaaaabn, ghk22naaaaaaaabn, ghk22naaaaaaabn, ghk22naaaaaabn, ghk22naaaaabn, ghk22naaaabn] at ghk22naaabn
          all_goals
          try simp only [go_sem, n1, n2, n3, n4, hk2, ghk22naaaaaaaaaaaan, ghk22naaaaaaaaaaabn, ghk22naaaaaaaaaabn, ghk22naaaaaaaaabn, ghk22naaaaaaaabn, ghk22naaaaaaabn, ghk22naaaaaabn, ghk22naaaaabn, ghk22naaaabn, ghk22naaabn] at ghk22naabn
          all_goals
          try simp only [go_sem, n1, n2, n3, n4, hk2, ghk22naaaaaaaaaaaan, ghk22naaaaaaaaaaabn, ghk22naaaaaaaaaabn, ghk22naaaaaaaaabn, ghk22naaaaaaaabn, ghk22naaaaaaabn, ghk22naaaaaabn, ghk22naaaaabn, ghk22naaaabn, ghk22naaabn, ghk22naabn] at ghk22nabn
          all_goals
          obtain ⟨hk23, h⟩ := ck_some h
          rcases it_some h with ⟨hk24, h⟩ | ⟨hk24, h⟩
          · try simp only [go_sem, n1, n2, n3, n4, hk2, ghk22naaaaaaaaaaaan, ghk22naaaaaaaaaaabn, ghk22naaaaaaaaaabn, ghk22naaaaaaaaabn, ghk22naaaaaaaabn, ghk22naaaaaaabn, ghk22naaaaaabn, ghk22naaaaabn, ghk22naaaabn, ghk22naaabn, ghk22naabn, ghk22nabn] at hk24
            all_goals
            obtain rfl := so_some h
            refine ⟨0, fun L hL => ?_⟩
            simp only [go_sem, ir5, fhk1, hk2, fhk3, fhk4, fhk5, fhk6, fhk7, fhk8, fhk9, fhk10, fhk11, fhk12, fhk13, fhk14, fhk15, fhk16, fhk17, fhk18, fhk19, fhk20, fhk21, ghk22naaaaaaaaaaaan, ghk22naaaaaaaaaaabn, ghk22naaaaaaaaaabn, ghk22naaaaaaaaabn, ghk22naaaaaaaabn, ghk22naaaaaaabn, ghk22naaaaaabn, ghk22naaaaabn, ghk22naaaabn, ghk22naaabn, ghk22naabn, ghk22nabn, hk24]
          · try simp only [go_sem, n1, n2, n3, n4, hk2, ghk22naaaaaaaaaaaan, ghk22naaaaaaaaaaabn, ghk22naaaaaaaaaabn, ghk22naaaaaaaaabn, ghk22naaaaaaaabn, ghk22naaaaaaabn, ghk22naaaaaabn, ghk22naaaaabn, ghk22naaaabn, ghk22naaabn, ghk22naabn, ghk22nabn] at hk24
            all_goals
            (simp_all)
      · obtain ⟨ghk22naa, ghk22nab⟩ := or_f ghk22na
        obtain ⟨ghk22naaa, ghk22naab⟩ := or_f ghk22naa
        obtain ⟨ghk22naaaa, ghk22naaab⟩ := or_f ghk22naaa
        obtain ⟨ghk22naaaaa, ghk22naaaab⟩ := or_f ghk22naaaa
        obtain ⟨ghk22naaaaaa, ghk22naaaaab⟩ := or_f ghk22naaaaa
        obtain ⟨ghk22naaaaaaa, ghk22naaaaaab⟩ := or_f ghk22naaaaaa
        obtain ⟨ghk22naaaaaaaa, ghk22naaaaaaab⟩ := or_f ghk22naaaaaaa
        obtain ⟨ghk22naaaaaaaaa, ghk22naaaaaaaab⟩ := or_f ghk22naaaaaaaa
        obtain ⟨ghk22naaaaaaaaaa, ghk22naaaaaaaaab⟩ := or_f ghk22naaaaaaaaa
        obtain ⟨ghk22naaaaaaaaaaa, ghk22naaaaaaaaaab⟩ := or_f ghk22naaaaaaaaaa
        obtain ⟨ghk22naaaaaaaaaaaa, ghk22naaaaaaaaaaab⟩ := or_f ghk22naaaaaaaaaaa
        have ghk22naaaaaaaaaaaan := no_f ghk22naaaaaaaaaaaa
        have ghk22naaaaaaaaaaabn := no_f ghk22naaaaaaaaaaab
        have ghk22naaaaaaaaaabn := no_f ghk22naaaaaaaaaab
        have ghk22naaaaaaaaabn := no_f ghk22naaaaaaaaab
        have ghk22naaaaaaaabn := no_f ghk22naaaaaaaab
        have ghk22naaaaaaabn := no_f ghk22naaaaaaab
        have ghk22naaaaaabn := no_f ghk22naaaaaab
        have ghk22naaaaabn := no_f ghk22naaaaab
        have ghk22naaaabn := no_f ghk22naaaab
        have ghk22naaabn := no_f ghk22naaab
        have ghk22naabn := no_f ghk22naab
        have ghk22nabn := no_f ghk22nab
        have ghk22nbn := no_t ghk22nb
        try simp only [go_sem, n1, n2, n3, n4, hk2] at ghk22naaaaaaaaaaaan
        all_goals
        try simp only [go_sem, n1, n2, n3, n4, hk2, ghk22naaaaaaaaaaaan] at ghk22naaaaaaaaaaabn
        all_goals
        try simp only [go_sem, n1, n2, n3, n4, hk2, ghk22naaaaaaaaaaaan, ghk22naaaaaaaaaaabn] at ghk22naaaaaaaaaabn
        all_goals
        try simp only [go_sem, n1, n2, n3, n4, hk2, ghk22naaaaaaaaaaaan, ghk22naaaaaaaaaaabn, ghk22naaaaaaaaaabn] at ghk22naaaaaaaaabn
        all_goals
        try simp only [go_sem, n1, n2, n3, n4, hk2, ghk22naaaaaaaaaaaan, ghk22naaaaaaaaaaabn, ghk22naaaaaaaaaabn, ghk22naaaaaaaaabn] at ghk22naaaaaaaabn
        all_goals
        try simp only [go_sem, n1, n2, n3, n4, hk2, ghk22naaaaaaaaaaaan, ghk22naaaaaaaaaaabn, ghk22naaaaaaaaaabn, ghk22naaaaaaaaabn, ghk22naaaaaaaabn] at ghk22naaaaaaabn
        all_goals
        try simp only [go_sem, n1, n2, n3, n4, hk2, ghk22naaaaaaaaaaaan, ghk22naaaaaaaaaaabn, ghk22naaaaaaaaaabn, ghk22naaaaaaaaabn, ghk22naaaaaaaabn, ghk22naaaaaaabn] at ghk22naaaaaabn
        all_goals
        try simp only [go_sem, n1, n2, n3, n4, hk2, ghk22naaaaaaaaaaaan, ghk22naaaaaaaaaaabn, ghk22naaaaaaaaaabn, ghk22naaaaaaaaabn, ghk22naaaaaaaabn, ghk22naaaaaaabn, ghk22naaaaaabn] at ghk22naaaaabn
        all_goals
        try simp only [go_sem, n1, n2, n3, n4, hk2, ghk22naaaaaaaaaaaan, ghk22naaaaaaaaaaabn, ghk22naaaaaaaaaabn, ghk22naaaaaaaaabn, ghk22naaaaaaaabn, ghk22naaaaaaabn, ghk22naaaaaabn, ghk22naaaaabn] at ghk22naaaabn
        all_goals
        try simp only [go_sem, n1, n2, n3, n4, hk2, ghk22naaaaaaaaaaaan, ghk22naaaaaaaaaaabn, ghk22naaaaaaaaaabn, ghk22naaaaaaaaabn, ghk22naaaaaaaabn, ghk22naaaaaaabn, ghk22naaaaaabn, ghk22naaaaabn, ghk22naaaabn] at ghk22naaabn
        all_goals
        try simp only [go_sem, n1, n2, n3, n4, hk2, ghk22naaaaaaaaaaaan, ghk22naaaaaaaaaaabn, ghk22naaaaaaaaaabn, ghk22naaaaaaaaabn, ghk22naaaaaaaabn, ghk22naaaaaaabn, ghk22naaaaaabn, ghk22naaaaabn, ghk22naaaabn, ghk22naaabn] at ghk22naabn
        all_goals
        try simp only [go_sem, n1, n2, n3, n4, hk2, ghk22naaaaaaaaaaaan, ghk22naaaaaaaaaaabn, ghk22naaaaaaaaaabn, ghk22naaaaaaaaabn, ghk22naaaaaaaabn, ghk22naaaaaaabn, ghk22naaaaaabn, ghk22naaaaabn, ghk22naaaabn, ghk22naaabn, ghk22naabn] at ghk22nabn
        all_goals
        try simp only [go_sem, n1, n2, n3, n4, hk2, ghk22naaaaaaaaaaaan, ghk22naaaaaaaaaaabn, ghk22naaaaaaaaaabn, ghk22naaaaaaaaabn, ghk22naaaaaaaabn, ghk22naaaaaaabn, ghk22naaaaaabn, ghk22naaaaabn, ghk22naaaabn, ghk22naaabn, ghk22naabn, ghk22nabn] at ghk22nbn
        all_goals
        obtain ⟨hk23, h⟩ := ck_some h
        rcases it_some h with ⟨hk24, h⟩ | ⟨hk24, h⟩
        · try simp only [go_sem, n1, n2, n3, n4, hk2, ghk22naaaaaaaaaaaan, ghk22naaaaaaaaaaabn, ghk22naaaaaaaaaabn, ghk22naaaaaaaaabn, ghk22naaaaaaaabn, ghk22naaaaaaabn, ghk22naaaaaabn, ghk22naaaaabn, ghk22naaaabn, ghk22naaabn, ghk22naabn, ghk22nabn, ghk22nbn] at hk24
          all_goals
          obtain rfl := so_some h
          refine ⟨0, fun L hL => ?_⟩
          simp only [go_sem, ir5, fhk1, hk2, fhk3, fhk4, fhk5, fhk6, fhk7, fhk8, fhk9, fhk10, fhk11, fhk12, fhk13, fhk14, fhk15, fhk16, fhk17, fhk18, fhk19, fhk20, fhk21, ghk22naaaaaaaaaaaan, ghk22naaaaaaaaaaabn, ghk22naaaaaaaaaabn, ghk22naaaaaaaaabn, ghk22naaaaaaaabn, ghk22naaaaaaabn, ghk22naaaaaabn, ghk22naaaaabn, ghk22naaaabn, ghk22naaabn, ghk22naabn, ghk22nabn, ghk22nbn, hk24]
        · try simp only [go_sem, n1, n2, n3, n4, hk2, ghk22naaaaaaaaaaaan, ghk22naaaaaaaaaaabn, ghk22naaaaaaaaaabn, ghk22naaaaaaaaabn, ghk22naaaaaaaabn, ghk22naaaaaaabn, ghk22naaaaaabn, ghk22naaaaabn, ghk22naaaabn, ghk22naaabn, ghk22naabn, ghk22nabn, ghk22nbn] at hk24
          all_goals
          (simp_all)


end Go.Proofs.Ytcfjogkgmkagiaa
