/- Codes and contracts of the functions that SA reaches, and that their typed forms say what they do. No condition. -/
import Derived.Test.YtpjpfdoaemoddaaSAT
import Derived.Test.YtpjpfdoaemoddaaRows
import Derived.WalkKit
namespace Go.Proofs.Ytpjpfdoaemoddaa
open Go Go.RowKit
set_option linter.unusedVariables false
set_option linter.unusedSimpArgs false
set_option maxRecDepth 10000

def ir6_v : List Nat := [0, 2]
def ir6 : AFn := ⟨1, 2, .seq (.region false [
    ⟨.var 1, 2, none, .mov (.c (.bool false))⟩])
 (.seq (.region false [
    ⟨.push, 3, none, .mov (.v 0)⟩,
    ⟨.push, 4, none, .len false (.s 0)⟩,
    ⟨.push, 5, none, .bin false .gtr (.s 0) (.c (.int .i64 (4096)))⟩,
    ⟨.var 1, 2, none, .mov (.s 0)⟩])
 (.ret)), [.t 1]⟩
noncomputable def t_laws_f6big : List (Nat × Ctr) := []
noncomputable def c_laws_f6big : Ctr := mkF t_laws_f6big ir6 [.bor]
theorem s_laws_f6big : Sound Try.prog 6 c_laws_f6big := mkF_sound _ rfl snd_nil (by kernel_rfl : chkFn Try.prog 6 ir6 ir6_v = true)
theorem M_laws_f6big : c_laws_f6big.modes = [.bor] := rfl
theorem Fl_laws_f6big : c_laws_f6big.flat = true := rfl
attribute [go_sem] M_laws_f6big Fl_laws_f6big
theorem Fs_laws_f6big {code : List UInt8} {y_ : Bool} (h : laws_f6big code = some y_) : c_laws_f6big.F [.sl 1 (List.map byteAV code)] = ⟨true, .bool y_, [.any]⟩ := by
  refine mkF_E rfl ?_
  dsimp only [laws_f6big] at h
  obtain rfl := so_some h
  refine ⟨0, fun L hL => ?_⟩
  simp only [go_sem, ir6]


def ir36_v : List Nat := [0, 2]
def ir36 : AFn := ⟨1, 2, .seq (.region false [
    ⟨.var 1, 2, none, .mov (.c (.cv (.pointer none)))⟩])
 (.seq (.region false [
    ⟨.push, 3, none, .mov (.v 0)⟩,
    ⟨.push, 4, none, .build [.sl 1 [], .int .i64 (0), .int .u64 (0)] [(0, 1, (.s 0))]⟩,
    ⟨.push, 5, none, .box (.s 0)⟩,
    ⟨.var 1, 2, none, .mov (.s 0)⟩])
 (.ret)), [.t 1]⟩
noncomputable def t_spec_l00From : List (Nat × Ctr) := []
noncomputable def c_spec_l00From : Ctr := mkN t_spec_l00From ir36 [.bor]
theorem s_spec_l00From : Sound Try.prog 36 c_spec_l00From := mkN_sound _ snd_nil (by kernel_rfl : chkFn Try.prog 36 ir36 ir36_v = true)
theorem M_spec_l00From : c_spec_l00From.modes = [.bor] := rfl
theorem Fl_spec_l00From : c_spec_l00From.flat = false := rfl
attribute [go_sem] M_spec_l00From Fl_spec_l00From
theorem Fs_spec_l00From {code : List UInt8} {y_ : L00Src} (h : spec_l00From code = some y_) : c_spec_l00From.F [.sl 1 (List.map byteAV code)] = ⟨true, .mem 3 [L00Src_av y_], [.any]⟩ := by
  refine mkN_E ?_
  dsimp only [spec_l00From] at h
  obtain rfl := so_some h
  refine ⟨0, fun L hL => ?_⟩
  simp only [go_sem, ir36]


def ir71_v : List Nat := [0, 2, 3]
def ir71 : AFn := ⟨1, 3, .seq (.region false [
    ⟨.var 1, 2, none, .mov (.c (.int .i64 (0)))⟩])
 (.seq (.region false [
    ⟨.var 2, 3, none, .mov (.c (.int .i64 (0)))⟩])
 (.seq (.anyo 10 [
    ⟨.slot 0, 4, none, .mov (.v 0)⟩,
    ⟨.slot 1, 5, none, .nilck (.s 0)⟩,
    ⟨.slot 2, 6, none, .fldAddr 1 (.s 1)⟩,
    ⟨.slot 3, 7, none, .load false 1 (.s 2)⟩,
    ⟨.slot 4, 8, none, .mov (.v 0)⟩,
    ⟨.slot 5, 9, none, .nilck (.s 4)⟩,
    ⟨.slot 6, 10, none, .fldAddr 0 (.s 5)⟩,
    ⟨.slot 7, 11, none, .load false 1 (.s 6)⟩,
    ⟨.slot 8, 12, none, .len false (.s 7)⟩,
    ⟨.slot 9, 13, none, .bin false .lss (.s 3) (.s 8)⟩] [] (.cond (.s 9)
  (.anyo 11 [
     ⟨.slot 0, 14, none, .mov (.v 0)⟩,
     ⟨.slot 1, 15, none, .nilck (.s 0)⟩,
     ⟨.slot 2, 16, none, .fldAddr 0 (.s 1)⟩,
     ⟨.slot 3, 17, none, .load false 1 (.s 2)⟩,
     ⟨.slot 4, 18, none, .mov (.v 0)⟩,
     ⟨.slot 5, 19, none, .nilck (.s 4)⟩,
     ⟨.slot 6, 20, none, .fldAddr 1 (.s 5)⟩,
     ⟨.slot 7, 21, none, .load false 1 (.s 6)⟩,
     ⟨.slot 8, 22, none, .ixAddr 1 (.s 3) (.s 7)⟩,
     ⟨.slot 9, 23, none, .load false 1 (.s 8)⟩,
     ⟨.slot 10, 24, none, .conv .i64 (.s 9)⟩,
     ⟨.var 2, 3, none, .mov (.s 10)⟩] [] .skip)
  (.skip)))
 (.seq (.region false [
    ⟨.push, 25, none, .mov (.v 0)⟩,
    ⟨.push, 26, none, .nilck (.s 0)⟩,
    ⟨.push, 27, none, .fldAddr 1 (.s 0)⟩,
    ⟨.push, 28, none, .load false 1 (.s 0)⟩,
    ⟨.push, 29, none, .bin false .add (.s 0) (.c (.int .i64 (1)))⟩,
    ⟨.push, 30, none, .nilck (.s 4)⟩,
    ⟨.push, 31, none, .fldAddr 1 (.s 0)⟩,
    ⟨.no, 0, none, .store 1 (.s 0) (.s 2)⟩])
 (.seq (.region false [
    ⟨.push, 32, none, .mov (.v 0)⟩,
    ⟨.push, 33, none, .mov (.v 0)⟩,
    ⟨.push, 34, none, .nilck (.s 0)⟩,
    ⟨.push, 35, none, .fldAddr 2 (.s 0)⟩,
    ⟨.push, 36, none, .load false 1 (.s 0)⟩,
    ⟨.push, 37, none, .bin false .mul (.s 0) (.c (.int .u64 (6364136223846793005)))⟩,
    ⟨.push, 38, none, .mov (.v 2)⟩,
    ⟨.push, 39, none, .conv .u64 (.s 0)⟩,
    ⟨.push, 40, none, .bin false .add (.s 2) (.s 0)⟩,
    ⟨.push, 41, none, .bin false .add (.s 0) (.c (.int .u64 (1442695040888963407)))⟩,
    ⟨.push, 42, none, .nilck (.s 9)⟩,
    ⟨.push, 43, none, .fldAddr 2 (.s 0)⟩,
    ⟨.no, 0, none, .store 1 (.s 0) (.s 2)⟩])
 (.seq (.anyo 10 [
    ⟨.slot 0, 44, none, .mov (.v 0)⟩,
    ⟨.slot 1, 45, none, .nilck (.s 0)⟩,
    ⟨.slot 2, 46, none, .fldAddr 1 (.s 1)⟩,
    ⟨.slot 3, 47, none, .load false 1 (.s 2)⟩,
    ⟨.slot 4, 48, none, .mov (.v 0)⟩,
    ⟨.slot 5, 49, none, .nilck (.s 4)⟩,
    ⟨.slot 6, 50, none, .fldAddr 0 (.s 5)⟩,
    ⟨.slot 7, 51, none, .load false 1 (.s 6)⟩,
    ⟨.slot 8, 52, none, .len false (.s 7)⟩,
    ⟨.slot 9, 53, none, .bin false .leq (.s 3) (.s 8)⟩] [] (.cond (.s 9)
  (.seq (.region false [
      ⟨.push, 54, none, .mov (.v 2)⟩,
      ⟨.var 1, 2, none, .mov (.s 0)⟩])
   (.ret))
  (.skip)))
 (.seq (.region false [
    ⟨.push, 55, none, .mov (.v 0)⟩,
    ⟨.push, 56, none, .nilck (.s 0)⟩,
    ⟨.push, 57, none, .fldAddr 2 (.s 0)⟩,
    ⟨.push, 58, none, .load false 1 (.s 0)⟩,
    ⟨.push, 59, none, .bin false .shr (.s 0) (.c (.int .u64 (40)))⟩,
    ⟨.push, 60, none, .bin false .and (.s 0) (.c (.int .u64 (255)))⟩,
    ⟨.push, 61, none, .conv .i64 (.s 0)⟩,
    ⟨.var 1, 2, none, .mov (.s 0)⟩])
 (.ret))))))), [.t 1]⟩
noncomputable def t_spec_l00Src_next : List (Nat × Ctr) := []
noncomputable def c_spec_l00Src_next : Ctr := mkN t_spec_l00Src_next ir71 [.io]
theorem s_spec_l00Src_next : Sound Try.prog 71 c_spec_l00Src_next := mkN_sound _ snd_nil (by kernel_rfl : chkFn Try.prog 71 ir71 ir71_v = true)
theorem M_spec_l00Src_next : c_spec_l00Src_next.modes = [.io] := rfl
theorem Fl_spec_l00Src_next : c_spec_l00Src_next.flat = false := rfl
attribute [go_sem] M_spec_l00Src_next Fl_spec_l00Src_next
theorem Fs_spec_l00Src_next {s_ : L00Src} {y_ : Int × L00Src} (h : spec_l00Src_next s_ = some y_) : c_spec_l00Src_next.F [.mem 3 [L00Src_av s_]] = ⟨true, .int .i64 y_.1, [.mem 3 [L00Src_av y_.2]]⟩ := by
  refine mkN_E ?_
  dsimp only [spec_l00Src_next] at h
  rcases it_some h with ⟨hk1, h⟩ | ⟨hk1, h⟩
  · try simp only [go_sem, n1, n2, n3, n4] at hk1
    all_goals
    obtain ⟨hk2, h⟩ := ck_some h
    have lhk2 := ix_lt hk2
    have xhk2 := getD_mapD byteAV s_.code_ lhk2
    try simp only [go_sem] at lhk2
    try simp only [go_sem] at xhk2
    try simp only [go_sem, n1, n2, n3, n4, hk1] at hk2
    all_goals
    rcases it_some h with ⟨hk3, h⟩ | ⟨hk3, h⟩
    · try simp only [go_sem, n1, n2, n3, n4, hk1, hk2] at hk3
      all_goals
      obtain rfl := so_some h
      refine ⟨0, fun L hL => ?_⟩
      simp only [go_sem, ir71, hk1, hk2, lhk2, xhk2, hk3]
    · try simp only [go_sem, n1, n2, n3, n4, hk1, hk2] at hk3
      all_goals
      obtain ⟨hk4, h⟩ := ck_some h
      try simp only [go_sem, n1, n2, n3, n4, hk1, hk2, hk3] at hk4
      all_goals
      obtain rfl := so_some h
      refine ⟨0, fun L hL => ?_⟩
      simp only [go_sem, ir71, hk1, hk2, lhk2, xhk2, hk3, hk4]
  · try simp only [go_sem, n1, n2, n3, n4] at hk1
    all_goals
    rcases it_some h with ⟨hk5, h⟩ | ⟨hk5, h⟩
    · try simp only [go_sem, n1, n2, n3, n4, hk1] at hk5
      all_goals
      obtain rfl := so_some h
      refine ⟨0, fun L hL => ?_⟩
      simp only [go_sem, ir71, hk1, hk5]
    · try simp only [go_sem, n1, n2, n3, n4, hk1] at hk5
      all_goals
      obtain ⟨hk6, h⟩ := ck_some h
      try simp only [go_sem, n1, n2, n3, n4, hk1, hk5] at hk6
      all_goals
      obtain rfl := so_some h
      refine ⟨0, fun L hL => ?_⟩
      simp only [go_sem, ir71, hk1, hk5, hk6]


def ir37_v : List Nat := [0, 1, 4, 5]
def ir37 : AFn := ⟨2, 4, .seq (.region false [
    ⟨.var 2, 4, none, .mov (.c (.int .i64 (0)))⟩])
 (.seq (.test false [
    ⟨.push, 6, none, .mov (.v 1)⟩,
    ⟨.push, 7, none, .bin false .leq (.s 0) (.c (.int .i64 (1)))⟩] (.s 0)
  (.seq (.region false [
      ⟨.var 2, 4, none, .mov (.c (.int .i64 (0)))⟩])
   (.ret))
  (.skip))
 (.seq (.region false [
    ⟨.push, 8, none, .mov (.v 0)⟩,
    ⟨.push, 9, none, .call 71 [(.s 0)]⟩,
    ⟨.var 3, 5, none, .mov (.s 0)⟩])
 (.seq (.test false [
    ⟨.push, 10, none, .mov (.v 1)⟩,
    ⟨.push, 11, none, .bin false .gtr (.s 0) (.c (.int .i64 (200)))⟩] (.s 0)
  (.region false [
     ⟨.push, 12, none, .mov (.v 3)⟩,
     ⟨.push, 13, none, .bin false .mul (.s 0) (.c (.int .i64 (256)))⟩,
     ⟨.push, 14, none, .mov (.v 0)⟩,
     ⟨.push, 15, none, .call 71 [(.s 0)]⟩,
     ⟨.push, 16, none, .bin false .add (.s 2) (.s 0)⟩,
     ⟨.var 3, 5, none, .mov (.s 0)⟩])
  (.skip))
 (.seq (.region false [
    ⟨.push, 17, none, .mov (.v 3)⟩,
    ⟨.push, 18, none, .mov (.v 1)⟩,
    ⟨.push, 19, none, .bin false .rem (.s 1) (.s 0)⟩,
    ⟨.var 2, 4, none, .mov (.s 0)⟩])
 (.ret))))), [.t 2]⟩
noncomputable def t_spec_l00Src_pick : List (Nat × Ctr) := [(71, c_spec_l00Src_next)]
theorem lk_spec_l00Src_pick_71 : look t_spec_l00Src_pick 71 = some c_spec_l00Src_next := rfl
noncomputable def c_spec_l00Src_pick : Ctr := mkN t_spec_l00Src_pick ir37 [.io, .bor]
theorem s_spec_l00Src_pick : Sound Try.prog 37 c_spec_l00Src_pick := mkN_sound _ (snd_cons s_spec_l00Src_next snd_nil) (by kernel_rfl : chkFn Try.prog 37 ir37 ir37_v = true)
theorem M_spec_l00Src_pick : c_spec_l00Src_pick.modes = [.io, .bor] := rfl
theorem Fl_spec_l00Src_pick : c_spec_l00Src_pick.flat = false := rfl
attribute [go_sem] M_spec_l00Src_pick Fl_spec_l00Src_pick
attribute [go_sem] lk_spec_l00Src_pick_71
theorem Fs_spec_l00Src_pick {s_ : L00Src} {n : Int} {y_ : Int × L00Src} (h : spec_l00Src_pick s_ n = some y_) : c_spec_l00Src_pick.F [.mem 3 [L00Src_av s_], .int .i64 n] = ⟨true, .int .i64 y_.1, [.mem 3 [L00Src_av y_.2], .any]⟩ := by
  refine mkN_E ?_
  dsimp only [spec_l00Src_pick] at h
  rcases it_some h with ⟨hk1, h⟩ | ⟨hk1, h⟩
  · try simp only [go_sem, n1, n2, n3, n4] at hk1
    all_goals
    obtain rfl := so_some h
    refine ⟨0, fun L hL => ?_⟩
    simp only [go_sem, ir37, hk1]
  · try simp only [go_sem, n1, n2, n3, n4] at hk1
    all_goals
    obtain ⟨y_2, hk2, h⟩ := bd_some h
    have fhk2 := Fs_spec_l00Src_next hk2
    try simp only [go_sem, hk1] at fhk2
    rcases it_some h with ⟨hk3, h⟩ | ⟨hk3, h⟩
    · try simp only [go_sem, n1, n2, n3, n4, hk1] at hk3
      all_goals
      obtain ⟨y_4, hk4, h⟩ := bd_some h
      have fhk4 := Fs_spec_l00Src_next hk4
      try simp only [go_sem, hk1, hk3] at fhk4
      obtain ⟨hk5, h⟩ := ck_some h
      try simp only [go_sem, n1, n2, n3, n4, hk1, hk3] at hk5
      all_goals
      obtain rfl := so_some h
      refine ⟨0, fun L hL => ?_⟩
      simp only [go_sem, ir37, hk1, fhk2, hk3, fhk4, hk5]
    · try simp only [go_sem, n1, n2, n3, n4, hk1] at hk3
      all_goals
      obtain ⟨hk6, h⟩ := ck_some h
      try simp only [go_sem, n1, n2, n3, n4, hk1, hk3] at hk6
      all_goals
      obtain rfl := so_some h
      refine ⟨0, fun L hL => ?_⟩
      simp only [go_sem, ir37, hk1, fhk2, hk3, hk6]


def ir38_v : List Nat := [0, 1, 4]
def ir38 : AFn := ⟨2, 3, .seq (.region false [
    ⟨.var 2, 4, none, .mov (.c (.bool false))⟩])
 (.seq (.region false [
    ⟨.push, 5, none, .mov (.v 0)⟩,
    ⟨.push, 6, none, .mov (.v 1)⟩,
    ⟨.push, 7, none, .call 37 [(.s 1), (.s 0)]⟩,
    ⟨.push, 8, none, .bin false .eql (.s 0) (.c (.int .i64 (0)))⟩,
    ⟨.var 2, 4, none, .mov (.s 0)⟩])
 (.ret)), [.t 2]⟩
noncomputable def t_spec_l00Src_one : List (Nat × Ctr) := [(37, c_spec_l00Src_pick)]
theorem lk_spec_l00Src_one_37 : look t_spec_l00Src_one 37 = some c_spec_l00Src_pick := rfl
noncomputable def c_spec_l00Src_one : Ctr := mkN t_spec_l00Src_one ir38 [.io, .bor]
theorem s_spec_l00Src_one : Sound Try.prog 38 c_spec_l00Src_one := mkN_sound _ (snd_cons s_spec_l00Src_pick snd_nil) (by kernel_rfl : chkFn Try.prog 38 ir38 ir38_v = true)
theorem M_spec_l00Src_one : c_spec_l00Src_one.modes = [.io, .bor] := rfl
theorem Fl_spec_l00Src_one : c_spec_l00Src_one.flat = false := rfl
attribute [go_sem] M_spec_l00Src_one Fl_spec_l00Src_one
attribute [go_sem] lk_spec_l00Src_one_37
theorem Fs_spec_l00Src_one {s_ : L00Src} {n : Int} {y_ : Bool × L00Src} (h : spec_l00Src_one s_ n = some y_) : c_spec_l00Src_one.F [.mem 3 [L00Src_av s_], .int .i64 n] = ⟨true, .bool y_.1, [.mem 3 [L00Src_av y_.2], .any]⟩ := by
  refine mkN_E ?_
  dsimp only [spec_l00Src_one] at h
  obtain ⟨y_1, hk1, h⟩ := bd_some h
  have fhk1 := Fs_spec_l00Src_pick hk1
  try simp only [go_sem] at fhk1
  obtain rfl := so_some h
  refine ⟨0, fun L hL => ?_⟩
  simp only [go_sem, ir38, fhk1]


def ir39_v : List Nat := [0, 1, 4]
def ir39 : AFn := ⟨2, 3, .seq (.region false [
    ⟨.var 2, 4, none, .mov (.c (.int .i64 (0)))⟩])
 (.seq (.region false [
    ⟨.push, 5, none, .mov (.v 1)⟩,
    ⟨.push, 6, none, .mov (.v 0)⟩,
    ⟨.push, 7, none, .mov (.v 1)⟩,
    ⟨.push, 8, none, .len false (.s 0)⟩,
    ⟨.push, 9, none, .call 37 [(.s 2), (.s 0)]⟩,
    ⟨.push, 10, none, .ixAddr 1 (.s 4) (.s 0)⟩,
    ⟨.push, 11, none, .load false 1 (.s 0)⟩,
    ⟨.var 2, 4, none, .mov (.s 0)⟩])
 (.ret)), [.t 2]⟩
noncomputable def t_spec_l00Src_among : List (Nat × Ctr) := [(37, c_spec_l00Src_pick)]
theorem lk_spec_l00Src_among_37 : look t_spec_l00Src_among 37 = some c_spec_l00Src_pick := rfl
noncomputable def c_spec_l00Src_among : Ctr := mkN t_spec_l00Src_among ir39 [.io, .bor]
theorem s_spec_l00Src_among : Sound Try.prog 39 c_spec_l00Src_among := mkN_sound _ (snd_cons s_spec_l00Src_pick snd_nil) (by kernel_rfl : chkFn Try.prog 39 ir39 ir39_v = true)
theorem M_spec_l00Src_among : c_spec_l00Src_among.modes = [.io, .bor] := rfl
theorem Fl_spec_l00Src_among : c_spec_l00Src_among.flat = false := rfl
attribute [go_sem] M_spec_l00Src_among Fl_spec_l00Src_among
attribute [go_sem] lk_spec_l00Src_among_37
theorem Fs_spec_l00Src_among {s_ : L00Src} {list : List Int} {y_ : Int × L00Src} (h : spec_l00Src_among s_ list = some y_) : c_spec_l00Src_among.F [.mem 3 [L00Src_av s_], .sl 1 (List.map (AV.int .i64) list)] = ⟨true, .int .i64 y_.1, [.mem 3 [L00Src_av y_.2], .any]⟩ := by
  refine mkN_E ?_
  dsimp only [spec_l00Src_among] at h
  obtain ⟨y_1, hk1, h⟩ := bd_some h
  have fhk1 := Fs_spec_l00Src_pick hk1
  try simp only [go_sem] at fhk1
  obtain ⟨hk2, h⟩ := ck_some h
  have lhk2 := ix_lt hk2
  have xhk2 := getD_mapD (AV.int .i64) list lhk2
  try simp only [go_sem] at lhk2
  try simp only [go_sem] at xhk2
  try simp only [go_sem, n1, n2, n3, n4] at hk2
  all_goals
  obtain rfl := so_some h
  refine ⟨0, fun L hL => ?_⟩
  simp only [go_sem, ir39, fhk1, hk2, lhk2, xhk2]


def ir7_v : List Nat := [0, 2, 3, 4, 5, 6, 7]
def ir7 : AFn := ⟨1, 7, .seq (.region false [
    ⟨.var 1, 2, none, .mov (.c (.int .i64 (0)))⟩,
    ⟨.var 2, 3, none, .mov (.c (.int .i64 (0)))⟩,
    ⟨.var 3, 4, none, .mov (.c (.int .i64 (0)))⟩])
 (.seq (.region false [
    ⟨.push, 8, none, .mov (.v 0)⟩,
    ⟨.push, 9, none, .call 36 [(.s 0)]⟩,
    ⟨.var 4, 5, none, .mov (.s 0)⟩])
 (.seq (.region false [
    ⟨.push, 10, none, .mov (.v 4)⟩,
    ⟨.push, 11, none, .call 37 [(.s 0), (.c (.int .i64 (40)))]⟩,
    ⟨.var 5, 6, none, .mov (.s 0)⟩])
 (.seq (.test false [
    ⟨.push, 12, none, .mov (.v 4)⟩,
    ⟨.push, 13, none, .call 38 [(.s 0), (.c (.int .i64 (10)))]⟩] (.s 0)
  (.region false [
     ⟨.push, 14, none, .mov (.v 4)⟩,
     ⟨.push, 15, none, .mkSl 1 (.int .i64 (0)) 5 [(0, (.c (.int .i64 (-1)))), (1, (.c (.int .i64 (0)))), (2, (.c (.int .i64 (10000)))), (3, (.c (.int .i64 (10001)))), (4, (.c (.int .i64 (9223372036854775807))))]⟩,
     ⟨.push, 16, none, .call 39 [(.s 1), (.s 0)]⟩,
     ⟨.var 5, 6, none, .mov (.s 0)⟩])
  (.skip))
 (.seq (.region false [
    ⟨.push, 17, none, .mov (.v 4)⟩,
    ⟨.push, 18, none, .call 37 [(.s 0), (.c (.int .i64 (20)))]⟩,
    ⟨.var 6, 7, none, .mov (.s 0)⟩])
 (.seq (.test false [
    ⟨.push, 19, none, .mov (.v 4)⟩,
    ⟨.push, 20, none, .call 38 [(.s 0), (.c (.int .i64 (10)))]⟩] (.s 0)
  (.region false [
     ⟨.push, 21, none, .mov (.v 4)⟩,
     ⟨.push, 22, none, .mkSl 1 (.int .i64 (0)) 4 [(0, (.c (.int .i64 (-1)))), (1, (.c (.int .i64 (0)))), (2, (.c (.int .i64 (100)))), (3, (.c (.int .i64 (101))))]⟩,
     ⟨.push, 23, none, .call 39 [(.s 1), (.s 0)]⟩,
     ⟨.var 6, 7, none, .mov (.s 0)⟩])
  (.skip))
 (.seq (.test false [
    ⟨.push, 24, none, .mov (.v 4)⟩,
    ⟨.push, 25, none, .call 38 [(.s 0), (.c (.int .i64 (10)))]⟩] (.s 0)
  (.seq (.region false [
      ⟨.push, 26, none, .mov (.v 5)⟩,
      ⟨.push, 27, none, .mov (.v 6)⟩,
      ⟨.push, 28, none, .mov (.v 4)⟩,
      ⟨.push, 29, none, .mkSl 1 (.int .i64 (0)) 4 [(0, (.c (.int .i64 (-1)))), (1, (.c (.int .i64 (0)))), (2, (.c (.int .i64 (65535)))), (3, (.c (.int .i64 (65536))))]⟩,
      ⟨.push, 30, none, .call 39 [(.s 1), (.s 0)]⟩,
      ⟨.var 1, 2, none, .mov (.s 4)⟩,
      ⟨.var 2, 3, none, .mov (.s 3)⟩,
      ⟨.var 3, 4, none, .mov (.s 0)⟩])
   (.ret))
  (.skip))
 (.seq (.region false [
    ⟨.push, 31, none, .mov (.v 5)⟩,
    ⟨.push, 32, none, .mov (.v 6)⟩,
    ⟨.push, 33, none, .mov (.v 4)⟩,
    ⟨.push, 34, none, .call 37 [(.s 0), (.c (.int .i64 (65536)))]⟩,
    ⟨.var 1, 2, none, .mov (.s 3)⟩,
    ⟨.var 2, 3, none, .mov (.s 2)⟩,
    ⟨.var 3, 4, none, .mov (.s 0)⟩])
 (.ret)))))))), [.t 1, .t 2, .t 3]⟩
noncomputable def t_spec_DrawSampleOf : List (Nat × Ctr) := [(36, c_spec_l00From), (37, c_spec_l00Src_pick), (38, c_spec_l00Src_one), (39, c_spec_l00Src_among)]
theorem lk_spec_DrawSampleOf_36 : look t_spec_DrawSampleOf 36 = some c_spec_l00From := rfl
theorem lk_spec_DrawSampleOf_37 : look t_spec_DrawSampleOf 37 = some c_spec_l00Src_pick := rfl
theorem lk_spec_DrawSampleOf_38 : look t_spec_DrawSampleOf 38 = some c_spec_l00Src_one := rfl
theorem lk_spec_DrawSampleOf_39 : look t_spec_DrawSampleOf 39 = some c_spec_l00Src_among := rfl
noncomputable def c_spec_DrawSampleOf : Ctr := mkF t_spec_DrawSampleOf ir7 [.bor]
theorem s_spec_DrawSampleOf : Sound Try.prog 7 c_spec_DrawSampleOf := mkF_sound _ rfl (snd_cons s_spec_l00From (snd_cons s_spec_l00Src_pick (snd_cons s_spec_l00Src_one (snd_cons s_spec_l00Src_among snd_nil)))) (by kernel_rfl : chkFn Try.prog 7 ir7 ir7_v = true)
theorem M_spec_DrawSampleOf : c_spec_DrawSampleOf.modes = [.bor] := rfl
theorem Fl_spec_DrawSampleOf : c_spec_DrawSampleOf.flat = true := rfl
attribute [go_sem] M_spec_DrawSampleOf Fl_spec_DrawSampleOf
attribute [go_sem] lk_spec_DrawSampleOf_36 lk_spec_DrawSampleOf_37 lk_spec_DrawSampleOf_38 lk_spec_DrawSampleOf_39
theorem Fs_spec_DrawSampleOf {code : List UInt8} {y_ : Int × Int × Int} (h : spec_DrawSampleOf code = some y_) : c_spec_DrawSampleOf.F [.sl 1 (List.map byteAV code)] = ⟨true, .tup [.int .i64 y_.1, .int .i64 y_.2.1, .int .i64 y_.2.2], [.any]⟩ := by
  refine mkF_E rfl ?_
  dsimp only [spec_DrawSampleOf] at h
  obtain ⟨y_1, hk1, h⟩ := bd_some h
  have fhk1 := Fs_spec_l00From hk1
  try simp only [go_sem] at fhk1
  obtain ⟨y_2, hk2, h⟩ := bd_some h
  have fhk2 := Fs_spec_l00Src_pick hk2
  try simp only [go_sem] at fhk2
  obtain ⟨y_3, hk3, h⟩ := bd_some h
  have fhk3 := Fs_spec_l00Src_one hk3
  try simp only [go_sem] at fhk3
  rcases it_some h with ⟨hk4, h⟩ | ⟨hk4, h⟩
  · try simp only [go_sem, n1, n2, n3, n4] at hk4
    all_goals
    obtain ⟨y_5, hk5, h⟩ := bd_some h
    have fhk5 := Fs_spec_l00Src_among hk5
    try simp only [go_sem, hk4] at fhk5
    obtain ⟨y_6, hk6, h⟩ := bd_some h
    have fhk6 := Fs_spec_l00Src_pick hk6
    try simp only [go_sem, hk4] at fhk6
    obtain ⟨y_7, hk7, h⟩ := bd_some h
    have fhk7 := Fs_spec_l00Src_one hk7
    try simp only [go_sem, hk4] at fhk7
    rcases it_some h with ⟨hk8, h⟩ | ⟨hk8, h⟩
    · try simp only [go_sem, n1, n2, n3, n4, hk4] at hk8
      all_goals
      obtain ⟨y_9, hk9, h⟩ := bd_some h
      have fhk9 := Fs_spec_l00Src_among hk9
      try simp only [go_sem, hk4, hk8] at fhk9
      obtain ⟨y_10, hk10, h⟩ := bd_some h
      have fhk10 := Fs_spec_l00Src_one hk10
      try simp only [go_sem, hk4, hk8] at fhk10
      rcases it_some h with ⟨hk11, h⟩ | ⟨hk11, h⟩
      · try simp only [go_sem, n1, n2, n3, n4, hk4, hk8] at hk11
        all_goals
        obtain ⟨y_12, hk12, h⟩ := bd_some h
        have fhk12 := Fs_spec_l00Src_among hk12
        try simp only [go_sem, hk4, hk8, hk11] at fhk12
        obtain rfl := so_some h
        refine ⟨0, fun L hL => ?_⟩
        simp only [go_sem, ir7, fhk1, fhk2, fhk3, hk4, fhk5, fhk6, fhk7, hk8, fhk9, fhk10, hk11, fhk12]
      · try simp only [go_sem, n1, n2, n3, n4, hk4, hk8] at hk11
        all_goals
        obtain ⟨y_13, hk13, h⟩ := bd_some h
        have fhk13 := Fs_spec_l00Src_pick hk13
        try simp only [go_sem, hk4, hk8, hk11] at fhk13
        obtain rfl := so_some h
        refine ⟨0, fun L hL => ?_⟩
        simp only [go_sem, ir7, fhk1, fhk2, fhk3, hk4, fhk5, fhk6, fhk7, hk8, fhk9, fhk10, hk11, fhk13]
    · try simp only [go_sem, n1, n2, n3, n4, hk4] at hk8
      all_goals
      obtain ⟨y_14, hk14, h⟩ := bd_some h
      have fhk14 := Fs_spec_l00Src_one hk14
      try simp only [go_sem, hk4, hk8] at fhk14
      rcases it_some h with ⟨hk15, h⟩ | ⟨hk15, h⟩
      · try simp only [go_sem, n1, n2, n3, n4, hk4, hk8] at hk15
        all_goals
        obtain ⟨y_16, hk16, h⟩ := bd_some h
        have fhk16 := Fs_spec_l00Src_among hk16
        try simp only [go_sem, hk4, hk8, hk15] at fhk16
        obtain rfl := so_some h
        refine ⟨0, fun L hL => ?_⟩
        simp only [go_sem, ir7, fhk1, fhk2, fhk3, hk4, fhk5, fhk6, fhk7, hk8, fhk14, hk15, fhk16]
      · try simp only [go_sem, n1, n2, n3, n4, hk4, hk8] at hk15
        all_goals
        obtain ⟨y_17, hk17, h⟩ := bd_some h
        have fhk17 := Fs_spec_l00Src_pick hk17
        try simp only [go_sem, hk4, hk8, hk15] at fhk17
        obtain rfl := so_some h
        refine ⟨0, fun L hL => ?_⟩
        simp only [go_sem, ir7, fhk1, fhk2, fhk3, hk4, fhk5, fhk6, fhk7, hk8, fhk14, hk15, fhk17]
  · try simp only [go_sem, n1, n2, n3, n4] at hk4
    all_goals
    obtain ⟨y_18, hk18, h⟩ := bd_some h
    have fhk18 := Fs_spec_l00Src_pick hk18
    try simp only [go_sem, hk4] at fhk18
    obtain ⟨y_19, hk19, h⟩ := bd_some h
    have fhk19 := Fs_spec_l00Src_one hk19
    try simp only [go_sem, hk4] at fhk19
    rcases it_some h with ⟨hk20, h⟩ | ⟨hk20, h⟩
    · try simp only [go_sem, n1, n2, n3, n4, hk4] at hk20
      all_goals
      obtain ⟨y_21, hk21, h⟩ := bd_some h
      have fhk21 := Fs_spec_l00Src_among hk21
      try simp only [go_sem, hk4, hk20] at fhk21
      obtain ⟨y_22, hk22, h⟩ := bd_some h
      have fhk22 := Fs_spec_l00Src_one hk22
      try simp only [go_sem, hk4, hk20] at fhk22
      rcases it_some h with ⟨hk23, h⟩ | ⟨hk23, h⟩
      · try simp only [go_sem, n1, n2, n3, n4, hk4, hk20] at hk23
        all_goals
        obtain ⟨y_24, hk24, h⟩ := bd_some h
        have fhk24 := Fs_spec_l00Src_among hk24
        try simp only [go_sem, hk4, hk20, hk23] at fhk24
        obtain rfl := so_some h
        refine ⟨0, fun L hL => ?_⟩
        simp only [go_sem, ir7, fhk1, fhk2, fhk3, hk4, fhk18, fhk19, hk20, fhk21, fhk22, hk23, fhk24]
      · try simp only [go_sem, n1, n2, n3, n4, hk4, hk20] at hk23
        all_goals
        obtain ⟨y_25, hk25, h⟩ := bd_some h
        have fhk25 := Fs_spec_l00Src_pick hk25
        try simp only [go_sem, hk4, hk20, hk23] at fhk25
        obtain rfl := so_some h
        refine ⟨0, fun L hL => ?_⟩
        simp only [go_sem, ir7, fhk1, fhk2, fhk3, hk4, fhk18, fhk19, hk20, fhk21, fhk22, hk23, fhk25]
    · try simp only [go_sem, n1, n2, n3, n4, hk4] at hk20
      all_goals
      obtain ⟨y_26, hk26, h⟩ := bd_some h
      have fhk26 := Fs_spec_l00Src_one hk26
      try simp only [go_sem, hk4, hk20] at fhk26
      rcases it_some h with ⟨hk27, h⟩ | ⟨hk27, h⟩
      · try simp only [go_sem, n1, n2, n3, n4, hk4, hk20] at hk27
        all_goals
        obtain ⟨y_28, hk28, h⟩ := bd_some h
        have fhk28 := Fs_spec_l00Src_among hk28
        try simp only [go_sem, hk4, hk20, hk27] at fhk28
        obtain rfl := so_some h
        refine ⟨0, fun L hL => ?_⟩
        simp only [go_sem, ir7, fhk1, fhk2, fhk3, hk4, fhk18, fhk19, hk20, fhk26, hk27, fhk28]
      · try simp only [go_sem, n1, n2, n3, n4, hk4, hk20] at hk27
        all_goals
        obtain ⟨y_29, hk29, h⟩ := bd_some h
        have fhk29 := Fs_spec_l00Src_pick hk29
        try simp only [go_sem, hk4, hk20, hk27] at fhk29
        obtain rfl := so_some h
        refine ⟨0, fun L hL => ?_⟩
        simp only [go_sem, ir7, fhk1, fhk2, fhk3, hk4, fhk18, fhk19, hk20, fhk26, hk27, fhk29]


def ir40_v : List Nat := [0, 1, 2, 6]
def ir40 : AFn := ⟨3, 4, .seq (.region false [
    ⟨.var 3, 6, none, .mov (.c (.bool false))⟩])
 (.seq (.region false [
    ⟨.push, 7, none, .mov (.v 0)⟩,
    ⟨.push, 8, none, .mov (.v 1)⟩,
    ⟨.push, 9, none, .bin false .geq (.s 1) (.s 0)⟩,
    ⟨.push, 10, none, .mov (.s 0)⟩,
    ⟨.push, 11, (some ((.s 0), true)), .mov (.v 0)⟩,
    ⟨.push, 12, (some ((.s 1), true)), .mov (.v 2)⟩,
    ⟨.push, 13, (some ((.s 2), true)), .bin false .leq (.s 1) (.s 0)⟩,
    ⟨.push, 14, none, .pick (.s 3) (.s 0) (.c (.bool false))⟩,
    ⟨.var 3, 6, none, .mov (.s 0)⟩])
 (.ret)), [.t 3]⟩
noncomputable def t_impl_in : List (Nat × Ctr) := []
noncomputable def c_impl_in : Ctr := mkF t_impl_in ir40 [.bor, .bor, .bor]
theorem s_impl_in : Sound Try.prog 40 c_impl_in := mkF_sound _ rfl snd_nil (by kernel_rfl : chkFn Try.prog 40 ir40 ir40_v = true)
theorem M_impl_in : c_impl_in.modes = [.bor, .bor, .bor] := rfl
theorem Fl_impl_in : c_impl_in.flat = true := rfl
attribute [go_sem] M_impl_in Fl_impl_in
theorem Fs_impl_in {n : Int} {low : Int} {high : Int} {y_ : Bool} (h : impl_in n low high = some y_) : c_impl_in.F [.int .i64 n, .int .i64 low, .int .i64 high] = ⟨true, .bool y_, [.any, .any, .any]⟩ := by
  refine mkF_E rfl ?_
  dsimp only [impl_in] at h
  obtain rfl := so_some h
  refine ⟨0, fun L hL => ?_⟩
  simp only [go_sem, ir40]


def ir8_b0 : IR := .seq (.test false [
    ⟨.push, 31, none, .mov (.v 7)⟩,
    ⟨.push, 32, none, .mov (.v 0)⟩,
    ⟨.push, 33, none, .bin false .lss (.s 1) (.s 0)⟩,
    ⟨.push, 34, none, .mov (.s 0)⟩,
    ⟨.push, 35, (some ((.s 0), true)), .mov (.v 5)⟩,
    ⟨.push, 36, (some ((.s 1), true)), .len false (.s 0)⟩,
    ⟨.push, 37, (some ((.s 2), true)), .mov (.v 1)⟩,
    ⟨.push, 38, (some ((.s 3), true)), .bin false .lss (.s 1) (.s 0)⟩,
    ⟨.push, 39, none, .pick (.s 4) (.s 0) (.c (.bool false))⟩] (.s 0)
  (.skip)
  (.exit 1))
 (.seq (.block 2 (.seq (.region false [
      ⟨.push, 42, none, .mov (.v 6)⟩,
      ⟨.push, 43, none, .bin false .mul (.c (.int .i64 (75))) (.s 0)⟩,
      ⟨.push, 44, none, .bin false .add (.s 0) (.c (.int .i64 (74)))⟩,
      ⟨.push, 45, none, .bin false .rem (.s 0) (.c (.int .i64 (65537)))⟩,
      ⟨.var 6, 9, none, .mov (.s 0)⟩])
   (.test false [
     ⟨.push, 46, none, .mov (.v 6)⟩,
     ⟨.push, 47, none, .mov (.v 0)⟩,
     ⟨.push, 48, none, .mov (.v 7)⟩,
     ⟨.push, 49, none, .bin false .sub (.s 1) (.s 0)⟩,
     ⟨.push, 50, none, .bin false .rem (.s 3) (.s 0)⟩,
     ⟨.push, 51, none, .mov (.v 1)⟩,
     ⟨.push, 52, none, .mov (.v 5)⟩,
     ⟨.push, 53, none, .len false (.s 0)⟩,
     ⟨.push, 54, none, .bin false .sub (.s 2) (.s 0)⟩,
     ⟨.push, 55, none, .bin false .lss (.s 4) (.s 0)⟩] (.s 0)
   (.region false [
      ⟨.push, 56, none, .mov (.v 5)⟩,
      ⟨.push, 57, none, .mov (.v 7)⟩,
      ⟨.push, 58, none, .mkSl 1 (.int .i64 (0)) 1 [(0, (.s 0))]⟩,
      ⟨.push, 59, none, .app 1 8 (.int .i64 (0)) (.s 2) (.s 0)⟩,
      ⟨.var 5, 8, none, .mov (.s 0)⟩])
   (.skip))))
 (.region false [
   ⟨.push, 40, none, .mov (.v 7)⟩,
   ⟨.push, 41, none, .bin false .add (.s 0) (.c (.int .i64 (1)))⟩,
   ⟨.var 7, 10, none, .mov (.s 0)⟩]))
def ir8_k0 : List Bool := [true, true, false, false, false, true, true, true]
def ir8_o0 : List Bool := [false, false, false, false, false, true, false, false]
def ir8_r0 : List Bool := [false, false, false, true, true, false, false, false]
def ir8_v : List Nat := [0, 1, 2, 6, 7, 8, 9, 10]
def ir8 : AFn := ⟨3, 8, .seq (.region false [
    ⟨.var 3, 6, none, .newnil 1⟩,
    ⟨.var 4, 7, none, .mov (.c (.int .i64 (0)))⟩])
 (.seq (.block 0 (.test false [
     ⟨.push, 12, none, .mov (.v 0)⟩,
     ⟨.push, 13, none, .call 40 [(.s 0), (.c (.int .i64 (0))), (.c (.int .i64 (10000)))]⟩,
     ⟨.push, 14, none, .un .not (.s 0)⟩,
     ⟨.push, 15, none, .mov (.s 0)⟩,
     ⟨.push, 16, (some ((.s 0), false)), .mov (.v 1)⟩,
     ⟨.push, 17, (some ((.s 1), false)), .call 40 [(.s 0), (.c (.int .i64 (0))), (.c (.int .i64 (100)))]⟩,
     ⟨.push, 18, (some ((.s 2), false)), .un .not (.s 0)⟩,
     ⟨.push, 19, none, .pick (.s 3) (.c (.bool true)) (.s 0)⟩,
     ⟨.push, 20, none, .mov (.s 0)⟩,
     ⟨.push, 21, (some ((.s 0), false)), .mov (.v 2)⟩,
     ⟨.push, 22, (some ((.s 1), false)), .call 40 [(.s 0), (.c (.int .i64 (0))), (.c (.int .i64 (65535)))]⟩,
     ⟨.push, 23, (some ((.s 2), false)), .un .not (.s 0)⟩,
     ⟨.push, 24, none, .pick (.s 3) (.c (.bool true)) (.s 0)⟩,
     ⟨.push, 11, none, .mov (.s 0)⟩] (.s 0)
   (.seq (.region false [
       ⟨.var 3, 6, none, .newnil 1⟩,
       ⟨.var 4, 7, none, .mov (.c (.int .i64 (2)))⟩])
    (.ret))
   (.test false [
      ⟨.push, 26, none, .mov (.v 1)⟩,
      ⟨.push, 27, none, .mov (.v 0)⟩,
      ⟨.push, 28, none, .bin false .gtr (.s 1) (.s 0)⟩,
      ⟨.push, 25, none, .mov (.s 0)⟩] (.s 0)
    (.seq (.region false [
        ⟨.var 3, 6, none, .newnil 1⟩,
        ⟨.var 4, 7, none, .mov (.c (.int .i64 (6)))⟩])
     (.ret))
    (.skip))))
 (.seq (.region false [
    ⟨.push, 29, none, .mkSl 1 (.int .i64 (0)) 0 []⟩,
    ⟨.push, 30, none, .mov (.v 2)⟩,
    ⟨.var 5, 8, none, .mov (.s 1)⟩,
    ⟨.var 6, 9, none, .mov (.s 0)⟩])
 (.seq (.seq (.region false [
     ⟨.var 7, 10, none, .mov (.c (.int .i64 (0)))⟩])
  (.block 1 (.loop ir8_k0 ir8_o0 ir8_r0 ir8_b0)))
 (.seq (.region false [
    ⟨.push, 60, none, .mov (.v 5)⟩,
    ⟨.var 3, 6, none, .mov (.s 0)⟩,
    ⟨.var 4, 7, none, .mov (.c (.int .i64 (0)))⟩])
 (.ret))))), [.t 3, .t 4]⟩
noncomputable def t_impl_SampleOf : List (Nat × Ctr) := [(40, c_impl_in)]
theorem lk_impl_SampleOf_40 : look t_impl_SampleOf 40 = some c_impl_in := rfl
noncomputable def c_impl_SampleOf : Ctr := mkF t_impl_SampleOf ir8 [.bor, .bor, .bor]
theorem s_impl_SampleOf : Sound Try.prog 8 c_impl_SampleOf := mkF_sound _ rfl (snd_cons s_impl_in snd_nil) (by kernel_rfl : chkFn Try.prog 8 ir8 ir8_v = true)
theorem M_impl_SampleOf : c_impl_SampleOf.modes = [.bor, .bor, .bor] := rfl
theorem Fl_impl_SampleOf : c_impl_SampleOf.flat = true := rfl
attribute [go_sem] M_impl_SampleOf Fl_impl_SampleOf
attribute [go_sem] lk_impl_SampleOf_40
def E_impl_SampleOf_l1 (count : Int) (many : Int) : ((List Int) × Int × Int) → St
  | (out, x, i) => ⟨[.int .i64 count, .int .i64 many, .any, .any, .any, .own 3200000, .int .i64 x, .int .i64 i], [], [(3200000, ⟨1, List.map (AV.int .i64) out⟩)], true⟩
def R_impl_SampleOf_l1 (count : Int) (many : Int) (y : (List Int)) : Res := (.exit 1, ⟨[.any, .any, .any, .any, .any, .own 3200000, .any, .any], [], [(3200000, ⟨1, List.map (AV.int .i64) y⟩)], true⟩)
theorem impl_SampleOf_l1_ex {count : Int} {many : Int} {sgm_ : (List Int) × Int × Int} {rho_ : (List Int)} (h : whileE (impl_SampleOf_l1 count many) sgm_ = some rho_) : ∃ L0, ∀ L, L0 ≤ L → iter (exec (look t_impl_SampleOf) L ir8_b0) ir8_k0 ir8_o0 ir8_r0 L (E_impl_SampleOf_l1 count many sgm_) = R_impl_SampleOf_l1 count many rho_ := by
  refine loop_ex (E := E_impl_SampleOf_l1 count many) (R := R_impl_SampleOf_l1 count many) (fun y => by first | (intro c; cases c) | (rcases y with y | y <;> (intro c; cases c)) | (rcases y with y | y | y <;> (intro c; cases c))) ?_ h
  clear h
  rintro ⟨out, x, i⟩ o_ h
  dsimp only [impl_SampleOf_l1] at h
  rcases it_some h with ⟨hk6, h⟩ | ⟨hk6, h⟩
  · try simp only [go_sem, n1, n2, n3, n4] at hk6
    all_goals
    obtain ⟨hk7, h⟩ := ck_some h
    try simp only [go_sem, n1, n2, n3, n4, hk6] at hk7
    all_goals
    obtain ⟨hk8, h⟩ := ck_some h
    try simp only [go_sem, n1, n2, n3, n4, hk6, hk7] at hk8
    all_goals
    rcases it_some h with ⟨hk9, h⟩ | ⟨hk9, h⟩
    · try simp only [go_sem, n1, n2, n3, n4, hk6, hk7, hk8] at hk9
      all_goals
      obtain ⟨hk10, h⟩ := ck_some h
      try simp only [go_sem, n1, n2, n3, n4, hk6, hk7, hk8, hk9] at hk10
      all_goals
      obtain rfl := so_some h
      refine ⟨0, fun L hL => ?_⟩
      simp only [go_sem, ir8, E_impl_SampleOf_l1, R_impl_SampleOf_l1, ir8_b0, ir8_k0, ir8_o0, ir8_r0, hk6, hk7, hk8, hk9, hk10]
    · try simp only [go_sem, n1, n2, n3, n4, hk6, hk7, hk8] at hk9
      all_goals
      obtain rfl := so_some h
      refine ⟨0, fun L hL => ?_⟩
      simp only [go_sem, ir8, E_impl_SampleOf_l1, R_impl_SampleOf_l1, ir8_b0, ir8_k0, ir8_o0, ir8_r0, hk6, hk7, hk8, hk9]
  · try simp only [go_sem, n1, n2, n3, n4] at hk6
    all_goals
    obtain rfl := so_some h
    refine ⟨0, fun L hL => ?_⟩
    simp only [go_sem, ir8, E_impl_SampleOf_l1, R_impl_SampleOf_l1, ir8_b0, ir8_k0, ir8_o0, ir8_r0, hk6]

theorem Fs_impl_SampleOf {count : Int} {many : Int} {seed : Int} {y_ : (List Int) × Int} (h : impl_SampleOf count many seed = some y_) : c_impl_SampleOf.F [.int .i64 count, .int .i64 many, .int .i64 seed] = ⟨true, .tup [.fresh 1 (List.map (AV.int .i64) y_.1), .int .i64 y_.2], [.any, .any, .any]⟩ := by
  refine mkF_E (by simp only [flatA, flatB, flat1, List.all_cons, List.all_nil, Bool.and_self, flatE_map (f := (AV.int .i64)) (fun _ => rfl)]) ?_
  dsimp only [impl_SampleOf] at h
  obtain ⟨y_1, hk1, h⟩ := bd_some h
  have fhk1 := Fs_impl_in hk1
  try simp only [go_sem] at fhk1
  obtain ⟨hk2, h⟩ := ck_some h
  rcases or_split hk2 with ⟨ghk2, hk2⟩ | ghk2
  · try simp only [go_sem, n1, n2, n3, n4] at ghk2
    all_goals
    obtain ⟨y_2, hhk2⟩ := Option.isSome_iff_exists.1 hk2
    have fhk2 := Fs_impl_in hhk2
    try simp only [go_sem, n1, n2, n3, n4, ghk2] at hhk2
    all_goals
    try simp only [go_sem, ghk2] at fhk2
    obtain ⟨hk3, h⟩ := ck_some h
    rcases or_split hk3 with ⟨ghk3, hk3⟩ | ghk3
    · try simp only [go_sem, n1, n2, n3, n4, ghk2, hhk2] at ghk3
      all_goals
      obtain ⟨y_3, hhk3⟩ := Option.isSome_iff_exists.1 hk3
      have fhk3 := Fs_impl_in hhk3
      try simp only [go_sem, n1, n2, n3, n4, ghk2, hhk2, ghk3] at hhk3
      all_goals
      try simp only [go_sem, ghk2, hhk2, ghk3] at fhk3
      rcases it_some h with ⟨hk4, h⟩ | ⟨hk4, h⟩
      · try simp only [go_sem, n1, n2, n3, n4, ghk2, hhk2, ghk3, hhk3] at hk4
        all_goals
        obtain rfl := so_some h
        refine ⟨0, fun L hL => ?_⟩
        simp only [go_sem, ir8, E_impl_SampleOf_l1, R_impl_SampleOf_l1, ir8_k0, ir8_o0, ir8_r0, fhk1, ghk2, hhk2, fhk2, ghk3, hhk3, fhk3, hk4]
      · try simp only [go_sem, n1, n2, n3, n4, ghk2, hhk2, ghk3, hhk3] at hk4
        all_goals
        rcases it_some h with ⟨hk5, h⟩ | ⟨hk5, h⟩
        · try simp only [go_sem, n1, n2, n3, n4, ghk2, hhk2, ghk3, hhk3, hk4] at hk5
          all_goals
          obtain rfl := so_some h
          refine ⟨0, fun L hL => ?_⟩
          simp only [go_sem, ir8, E_impl_SampleOf_l1, R_impl_SampleOf_l1, ir8_k0, ir8_o0, ir8_r0, fhk1, ghk2, hhk2, fhk2, ghk3, hhk3, fhk3, hk4, hk5]
        · try simp only [go_sem, n1, n2, n3, n4, ghk2, hhk2, ghk3, hhk3, hk4] at hk5
          all_goals
          obtain ⟨y_11, hk11, h⟩ := bd_some h
          obtain ⟨Lhk11, ehk11⟩ := impl_SampleOf_l1_ex hk11
          obtain rfl := so_some h
          refine ⟨Lhk11, fun L hL => ?_⟩
          have ehk11 := ehk11 L (by omega)
          try simp only [go_sem, E_impl_SampleOf_l1, R_impl_SampleOf_l1, ir8_k0, ir8_o0, ir8_r0, ghk2, hhk2, ghk3, hhk3, hk4, hk5] at ehk11
          simp only [go_sem, ir8, E_impl_SampleOf_l1, R_impl_SampleOf_l1, ir8_k0, ir8_o0, ir8_r0, fhk1, ghk2, hhk2, fhk2, ghk3, hhk3, fhk3, hk4, hk5, ehk11]
    · have ghk3n := no_f ghk3
      rcases or_t ghk3n with ghk3na | ⟨ghk3na, ghk3nb⟩
      · try simp only [go_sem, n1, n2, n3, n4, ghk2, hhk2] at ghk3na
        all_goals
        (simp_all)
      · have ghk3nan := no_f ghk3na
        have ghk3nbn := no_t ghk3nb
        try simp only [go_sem, n1, n2, n3, n4, ghk2, hhk2] at ghk3nan
        all_goals
        try simp only [go_sem, n1, n2, n3, n4, ghk2, hhk2, ghk3nan] at ghk3nbn
        all_goals
        rcases it_some h with ⟨hk4, h⟩ | ⟨hk4, h⟩
        · try simp only [go_sem, n1, n2, n3, n4, ghk2, hhk2, ghk3nan, ghk3nbn] at hk4
          all_goals
          obtain rfl := so_some h
          refine ⟨0, fun L hL => ?_⟩
          simp only [go_sem, ir8, E_impl_SampleOf_l1, R_impl_SampleOf_l1, ir8_k0, ir8_o0, ir8_r0, fhk1, ghk2, hhk2, fhk2, ghk3nan, ghk3nbn, hk4]
        · try simp only [go_sem, n1, n2, n3, n4, ghk2, hhk2, ghk3nan, ghk3nbn] at hk4
          all_goals
          (simp_all)
  · have ghk2n := no_f ghk2
    have ghk2nn := no_t ghk2n
    try simp only [go_sem, n1, n2, n3, n4] at ghk2nn
    all_goals
    obtain ⟨hk3, h⟩ := ck_some h
    rcases it_some h with ⟨hk4, h⟩ | ⟨hk4, h⟩
    · try simp only [go_sem, n1, n2, n3, n4, ghk2nn] at hk4
      all_goals
      obtain rfl := so_some h
      refine ⟨0, fun L hL => ?_⟩
      simp only [go_sem, ir8, E_impl_SampleOf_l1, R_impl_SampleOf_l1, ir8_k0, ir8_o0, ir8_r0, fhk1, ghk2nn, hk4]
    · try simp only [go_sem, n1, n2, n3, n4, ghk2nn] at hk4
      all_goals
      (simp_all)


def ir41_v : List Nat := [0, 1, 2, 6]
def ir41 : AFn := ⟨3, 4, .seq (.region false [
    ⟨.var 3, 6, none, .mov (.c (.bool false))⟩])
 (.seq (.region false [
    ⟨.push, 7, none, .mov (.v 0)⟩,
    ⟨.push, 8, none, .mov (.v 1)⟩,
    ⟨.push, 9, none, .bin false .geq (.s 1) (.s 0)⟩,
    ⟨.push, 10, none, .mov (.s 0)⟩,
    ⟨.push, 11, (some ((.s 0), true)), .mov (.v 0)⟩,
    ⟨.push, 12, (some ((.s 1), true)), .mov (.v 2)⟩,
    ⟨.push, 13, (some ((.s 2), true)), .bin false .leq (.s 1) (.s 0)⟩,
    ⟨.push, 14, none, .pick (.s 3) (.s 0) (.c (.bool false))⟩,
    ⟨.var 3, 6, none, .mov (.s 0)⟩])
 (.ret)), [.t 3]⟩
noncomputable def t_spec_l00In : List (Nat × Ctr) := []
noncomputable def c_spec_l00In : Ctr := mkF t_spec_l00In ir41 [.bor, .bor, .bor]
theorem s_spec_l00In : Sound Try.prog 41 c_spec_l00In := mkF_sound _ rfl snd_nil (by kernel_rfl : chkFn Try.prog 41 ir41 ir41_v = true)
theorem M_spec_l00In : c_spec_l00In.modes = [.bor, .bor, .bor] := rfl
theorem Fl_spec_l00In : c_spec_l00In.flat = true := rfl
attribute [go_sem] M_spec_l00In Fl_spec_l00In
theorem Fs_spec_l00In {n : Int} {low : Int} {high : Int} {y_ : Bool} (h : spec_l00In n low high = some y_) : c_spec_l00In.F [.int .i64 n, .int .i64 low, .int .i64 high] = ⟨true, .bool y_, [.any, .any, .any]⟩ := by
  refine mkF_E rfl ?_
  dsimp only [spec_l00In] at h
  obtain rfl := so_some h
  refine ⟨0, fun L hL => ?_⟩
  simp only [go_sem, ir41]


def ir9_b0 : IR := .seq (.test false [
    ⟨.push, 31, none, .mov (.v 7)⟩,
    ⟨.push, 32, none, .bin false .gtr (.s 0) (.c (.int .i64 (0)))⟩] (.s 0)
  (.skip)
  (.exit 0))
 (.seq (.block 1 (.seq (.region false [
      ⟨.push, 35, none, .mov (.v 6)⟩,
      ⟨.push, 36, none, .bin false .mul (.s 0) (.c (.int .i64 (75)))⟩,
      ⟨.push, 37, none, .bin false .add (.s 0) (.c (.int .i64 (74)))⟩,
      ⟨.push, 38, none, .bin false .rem (.s 0) (.c (.int .i64 (65537)))⟩,
      ⟨.var 6, 9, none, .mov (.s 0)⟩])
   (.test false [
     ⟨.push, 39, none, .mov (.v 6)⟩,
     ⟨.push, 40, none, .mov (.v 0)⟩,
     ⟨.push, 41, none, .mov (.v 8)⟩,
     ⟨.push, 42, none, .bin false .sub (.s 1) (.s 0)⟩,
     ⟨.push, 43, none, .bin false .rem (.s 3) (.s 0)⟩,
     ⟨.push, 44, none, .mov (.v 7)⟩,
     ⟨.push, 45, none, .bin false .lss (.s 1) (.s 0)⟩] (.s 0)
   (.seq (.region false [
       ⟨.push, 46, none, .mov (.v 5)⟩,
       ⟨.push, 47, none, .mov (.v 8)⟩,
       ⟨.push, 48, none, .mkSl 1 (.int .i64 (0)) 1 [(0, (.s 0))]⟩,
       ⟨.push, 49, none, .app 1 8 (.int .i64 (0)) (.s 2) (.s 0)⟩,
       ⟨.var 5, 8, none, .mov (.s 0)⟩])
    (.region false [
      ⟨.push, 50, none, .mov (.v 7)⟩,
      ⟨.push, 51, none, .bin false .sub (.s 0) (.c (.int .i64 (1)))⟩,
      ⟨.var 7, 10, none, .mov (.s 0)⟩]))
   (.skip))))
 (.region false [
   ⟨.push, 33, none, .mov (.v 8)⟩,
   ⟨.push, 34, none, .bin false .add (.s 0) (.c (.int .i64 (1)))⟩,
   ⟨.var 8, 11, none, .mov (.s 0)⟩]))
def ir9_k0 : List Bool := [true, false, false, false, false, true, true, true, true]
def ir9_o0 : List Bool := [false, false, false, false, false, true, false, false, false]
def ir9_r0 : List Bool := [false, false, false, true, true, false, false, false, false]
def ir9_v : List Nat := [0, 1, 2, 6, 7, 8, 9, 10, 11]
def ir9 : AFn := ⟨3, 9, .seq (.region false [
    ⟨.var 3, 6, none, .newnil 1⟩,
    ⟨.var 4, 7, none, .mov (.c (.int .i64 (0)))⟩])
 (.seq (.test false [
    ⟨.push, 12, none, .mov (.v 0)⟩,
    ⟨.push, 13, none, .call 41 [(.s 0), (.c (.int .i64 (0))), (.c (.int .i64 (10000)))]⟩,
    ⟨.push, 14, none, .un .not (.s 0)⟩,
    ⟨.push, 15, none, .mov (.s 0)⟩,
    ⟨.push, 16, (some ((.s 0), false)), .mov (.v 1)⟩,
    ⟨.push, 17, (some ((.s 1), false)), .call 41 [(.s 0), (.c (.int .i64 (0))), (.c (.int .i64 (100)))]⟩,
    ⟨.push, 18, (some ((.s 2), false)), .un .not (.s 0)⟩,
    ⟨.push, 19, none, .pick (.s 3) (.c (.bool true)) (.s 0)⟩,
    ⟨.push, 20, none, .mov (.s 0)⟩,
    ⟨.push, 21, (some ((.s 0), false)), .mov (.v 2)⟩,
    ⟨.push, 22, (some ((.s 1), false)), .call 41 [(.s 0), (.c (.int .i64 (0))), (.c (.int .i64 (65535)))]⟩,
    ⟨.push, 23, (some ((.s 2), false)), .un .not (.s 0)⟩,
    ⟨.push, 24, none, .pick (.s 3) (.c (.bool true)) (.s 0)⟩] (.s 0)
  (.seq (.region false [
      ⟨.var 3, 6, none, .newnil 1⟩,
      ⟨.var 4, 7, none, .mov (.c (.int .i64 (2)))⟩])
   (.ret))
  (.skip))
 (.seq (.test false [
    ⟨.push, 25, none, .mov (.v 1)⟩,
    ⟨.push, 26, none, .mov (.v 0)⟩,
    ⟨.push, 27, none, .bin false .gtr (.s 1) (.s 0)⟩] (.s 0)
  (.seq (.region false [
      ⟨.var 3, 6, none, .newnil 1⟩,
      ⟨.var 4, 7, none, .mov (.c (.int .i64 (6)))⟩])
   (.ret))
  (.skip))
 (.seq (.region false [
    ⟨.push, 28, none, .mkSl 1 (.int .i64 (0)) 0 []⟩,
    ⟨.var 5, 8, none, .mov (.s 0)⟩])
 (.seq (.region false [
    ⟨.push, 29, none, .mov (.v 2)⟩,
    ⟨.var 6, 9, none, .mov (.s 0)⟩])
 (.seq (.region false [
    ⟨.push, 30, none, .mov (.v 1)⟩,
    ⟨.var 7, 10, none, .mov (.s 0)⟩])
 (.seq (.seq (.region false [
     ⟨.var 8, 11, none, .mov (.c (.int .i64 (0)))⟩])
  (.block 0 (.loop ir9_k0 ir9_o0 ir9_r0 ir9_b0)))
 (.seq (.region false [
    ⟨.push, 52, none, .mov (.v 5)⟩,
    ⟨.var 3, 6, none, .mov (.s 0)⟩,
    ⟨.var 4, 7, none, .mov (.c (.int .i64 (0)))⟩])
 (.ret)))))))), [.t 3, .t 4]⟩
noncomputable def t_spec_SampleOf : List (Nat × Ctr) := [(41, c_spec_l00In)]
theorem lk_spec_SampleOf_41 : look t_spec_SampleOf 41 = some c_spec_l00In := rfl
noncomputable def c_spec_SampleOf : Ctr := mkF t_spec_SampleOf ir9 [.bor, .bor, .bor]
theorem s_spec_SampleOf : Sound Try.prog 9 c_spec_SampleOf := mkF_sound _ rfl (snd_cons s_spec_l00In snd_nil) (by kernel_rfl : chkFn Try.prog 9 ir9 ir9_v = true)
theorem M_spec_SampleOf : c_spec_SampleOf.modes = [.bor, .bor, .bor] := rfl
theorem Fl_spec_SampleOf : c_spec_SampleOf.flat = true := rfl
attribute [go_sem] M_spec_SampleOf Fl_spec_SampleOf
attribute [go_sem] lk_spec_SampleOf_41
def E_spec_SampleOf_l1 (count : Int) : ((List Int) × Int × Int × Int) → St
  | (out, x, need, i) => ⟨[.int .i64 count, .any, .any, .any, .any, .own 3200000, .int .i64 x, .int .i64 need, .int .i64 i], [], [(3200000, ⟨1, List.map (AV.int .i64) out⟩)], true⟩
def R_spec_SampleOf_l1 (count : Int) (y : (List Int)) : Res := (.exit 0, ⟨[.any, .any, .any, .any, .any, .own 3200000, .any, .any, .any], [], [(3200000, ⟨1, List.map (AV.int .i64) y⟩)], true⟩)
theorem spec_SampleOf_l1_ex {count : Int} {sgm_ : (List Int) × Int × Int × Int} {rho_ : (List Int)} (h : whileE (spec_SampleOf_l1 count) sgm_ = some rho_) : ∃ L0, ∀ L, L0 ≤ L → iter (exec (look t_spec_SampleOf) L ir9_b0) ir9_k0 ir9_o0 ir9_r0 L (E_spec_SampleOf_l1 count sgm_) = R_spec_SampleOf_l1 count rho_ := by
  refine loop_ex (E := E_spec_SampleOf_l1 count) (R := R_spec_SampleOf_l1 count) (fun y => by first | (intro c; cases c) | (rcases y with y | y <;> (intro c; cases c)) | (rcases y with y | y | y <;> (intro c; cases c))) ?_ h
  clear h
  rintro ⟨out, x, need, i⟩ o_ h
  dsimp only [spec_SampleOf_l1] at h
  rcases it_some h with ⟨hk6, h⟩ | ⟨hk6, h⟩
  · try simp only [go_sem, n1, n2, n3, n4] at hk6
    all_goals
    obtain ⟨hk7, h⟩ := ck_some h
    try simp only [go_sem, n1, n2, n3, n4, hk6] at hk7
    all_goals
    obtain ⟨hk8, h⟩ := ck_some h
    try simp only [go_sem, n1, n2, n3, n4, hk6, hk7] at hk8
    all_goals
    rcases it_some h with ⟨hk9, h⟩ | ⟨hk9, h⟩
    · try simp only [go_sem, n1, n2, n3, n4, hk6, hk7, hk8] at hk9
      all_goals
      obtain ⟨hk10, h⟩ := ck_some h
      try simp only [go_sem, n1, n2, n3, n4, hk6, hk7, hk8, hk9] at hk10
      all_goals
      obtain rfl := so_some h
      refine ⟨0, fun L hL => ?_⟩
      simp only [go_sem, ir9, E_spec_SampleOf_l1, R_spec_SampleOf_l1, ir9_b0, ir9_k0, ir9_o0, ir9_r0, hk6, hk7, hk8, hk9, hk10]
    · try simp only [go_sem, n1, n2, n3, n4, hk6, hk7, hk8] at hk9
      all_goals
      obtain rfl := so_some h
      refine ⟨0, fun L hL => ?_⟩
      simp only [go_sem, ir9, E_spec_SampleOf_l1, R_spec_SampleOf_l1, ir9_b0, ir9_k0, ir9_o0, ir9_r0, hk6, hk7, hk8, hk9]
  · try simp only [go_sem, n1, n2, n3, n4] at hk6
    all_goals
    obtain rfl := so_some h
    refine ⟨0, fun L hL => ?_⟩
    simp only [go_sem, ir9, E_spec_SampleOf_l1, R_spec_SampleOf_l1, ir9_b0, ir9_k0, ir9_o0, ir9_r0, hk6]

theorem Fs_spec_SampleOf {count : Int} {many : Int} {seed : Int} {y_ : (List Int) × Int} (h : spec_SampleOf count many seed = some y_) : c_spec_SampleOf.F [.int .i64 count, .int .i64 many, .int .i64 seed] = ⟨true, .tup [.fresh 1 (List.map (AV.int .i64) y_.1), .int .i64 y_.2], [.any, .any, .any]⟩ := by
  refine mkF_E (by simp only [flatA, flatB, flat1, List.all_cons, List.all_nil, Bool.and_self, flatE_map (f := (AV.int .i64)) (fun _ => rfl)]) ?_
  dsimp only [spec_SampleOf] at h
  obtain ⟨y_1, hk1, h⟩ := bd_some h
  have fhk1 := Fs_spec_l00In hk1
  try simp only [go_sem] at fhk1
  obtain ⟨hk2, h⟩ := ck_some h
  rcases or_split hk2 with ⟨ghk2, hk2⟩ | ghk2
  · try simp only [go_sem, n1, n2, n3, n4] at ghk2
    all_goals
    obtain ⟨y_2, hhk2⟩ := Option.isSome_iff_exists.1 hk2
    have fhk2 := Fs_spec_l00In hhk2
    try simp only [go_sem, n1, n2, n3, n4, ghk2] at hhk2
    all_goals
    try simp only [go_sem, ghk2] at fhk2
    obtain ⟨hk3, h⟩ := ck_some h
    rcases or_split hk3 with ⟨ghk3, hk3⟩ | ghk3
    · try simp only [go_sem, n1, n2, n3, n4, ghk2, hhk2] at ghk3
      all_goals
      obtain ⟨y_3, hhk3⟩ := Option.isSome_iff_exists.1 hk3
      have fhk3 := Fs_spec_l00In hhk3
      try simp only [go_sem, n1, n2, n3, n4, ghk2, hhk2, ghk3] at hhk3
      all_goals
      try simp only [go_sem, ghk2, hhk2, ghk3] at fhk3
      rcases it_some h with ⟨hk4, h⟩ | ⟨hk4, h⟩
      · try simp only [go_sem, n1, n2, n3, n4, ghk2, hhk2, ghk3, hhk3] at hk4
        all_goals
        obtain rfl := so_some h
        refine ⟨0, fun L hL => ?_⟩
        simp only [go_sem, ir9, E_spec_SampleOf_l1, R_spec_SampleOf_l1, ir9_k0, ir9_o0, ir9_r0, fhk1, ghk2, hhk2, fhk2, ghk3, hhk3, fhk3, hk4]
      · try simp only [go_sem, n1, n2, n3, n4, ghk2, hhk2, ghk3, hhk3] at hk4
        all_goals
        rcases it_some h with ⟨hk5, h⟩ | ⟨hk5, h⟩
        · try simp only [go_sem, n1, n2, n3, n4, ghk2, hhk2, ghk3, hhk3, hk4] at hk5
          all_goals
          obtain rfl := so_some h
          refine ⟨0, fun L hL => ?_⟩
          simp only [go_sem, ir9, E_spec_SampleOf_l1, R_spec_SampleOf_l1, ir9_k0, ir9_o0, ir9_r0, fhk1, ghk2, hhk2, fhk2, ghk3, hhk3, fhk3, hk4, hk5]
        · try simp only [go_sem, n1, n2, n3, n4, ghk2, hhk2, ghk3, hhk3, hk4] at hk5
          all_goals
          obtain ⟨y_11, hk11, h⟩ := bd_some h
          obtain ⟨Lhk11, ehk11⟩ := spec_SampleOf_l1_ex hk11
          obtain rfl := so_some h
          refine ⟨Lhk11, fun L hL => ?_⟩
          have ehk11 := ehk11 L (by omega)
          try simp only [go_sem, E_spec_SampleOf_l1, R_spec_SampleOf_l1, ir9_k0, ir9_o0, ir9_r0, ghk2, hhk2, ghk3, hhk3, hk4, hk5] at ehk11
          simp only [go_sem, ir9, E_spec_SampleOf_l1, R_spec_SampleOf_l1, ir9_k0, ir9_o0, ir9_r0, fhk1, ghk2, hhk2, fhk2, ghk3, hhk3, fhk3, hk4, hk5, ehk11]
    · have ghk3n := no_f ghk3
      rcases or_t ghk3n with ghk3na | ⟨ghk3na, ghk3nb⟩
      · try simp only [go_sem, n1, n2, n3, n4, ghk2, hhk2] at ghk3na
        all_goals
        (simp_all)
      · have ghk3nan := no_f ghk3na
        have ghk3nbn := no_t ghk3nb
        try simp only [go_sem, n1, n2, n3, n4, ghk2, hhk2] at ghk3nan
        all_goals
        try simp only [go_sem, n1, n2, n3, n4, ghk2, hhk2, ghk3nan] at ghk3nbn
        all_goals
        rcases it_some h with ⟨hk4, h⟩ | ⟨hk4, h⟩
        · try simp only [go_sem, n1, n2, n3, n4, ghk2, hhk2, ghk3nan, ghk3nbn] at hk4
          all_goals
          obtain rfl := so_some h
          refine ⟨0, fun L hL => ?_⟩
          simp only [go_sem, ir9, E_spec_SampleOf_l1, R_spec_SampleOf_l1, ir9_k0, ir9_o0, ir9_r0, fhk1, ghk2, hhk2, fhk2, ghk3nan, ghk3nbn, hk4]
        · try simp only [go_sem, n1, n2, n3, n4, ghk2, hhk2, ghk3nan, ghk3nbn] at hk4
          all_goals
          (simp_all)
  · have ghk2n := no_f ghk2
    have ghk2nn := no_t ghk2n
    try simp only [go_sem, n1, n2, n3, n4] at ghk2nn
    all_goals
    obtain ⟨hk3, h⟩ := ck_some h
    rcases it_some h with ⟨hk4, h⟩ | ⟨hk4, h⟩
    · try simp only [go_sem, n1, n2, n3, n4, ghk2nn] at hk4
      all_goals
      obtain rfl := so_some h
      refine ⟨0, fun L hL => ?_⟩
      simp only [go_sem, ir9, E_spec_SampleOf_l1, R_spec_SampleOf_l1, ir9_k0, ir9_o0, ir9_r0, fhk1, ghk2nn, hk4]
    · try simp only [go_sem, n1, n2, n3, n4, ghk2nn] at hk4
      all_goals
      (simp_all)


def ir72_v : List Nat := [0, 1, 4]
def ir72 : AFn := ⟨2, 3, .seq (.region false [
    ⟨.var 2, 4, none, .mov (.c (.int .i64 (0)))⟩])
 (.seq (.test false [
    ⟨.push, 5, none, .mov (.v 0)⟩,
    ⟨.push, 6, none, .mov (.v 1)⟩,
    ⟨.push, 7, none, .bin false .lss (.s 1) (.s 0)⟩] (.s 0)
  (.seq (.region false [
      ⟨.push, 8, none, .mov (.v 0)⟩,
      ⟨.var 2, 4, none, .mov (.s 0)⟩])
   (.ret))
  (.skip))
 (.seq (.region false [
    ⟨.push, 9, none, .mov (.v 1)⟩,
    ⟨.var 2, 4, none, .mov (.s 0)⟩])
 (.ret))), [.t 2]⟩
noncomputable def t_spec_l00Min : List (Nat × Ctr) := []
noncomputable def c_spec_l00Min : Ctr := mkF t_spec_l00Min ir72 [.bor, .bor]
theorem s_spec_l00Min : Sound Try.prog 72 c_spec_l00Min := mkF_sound _ rfl snd_nil (by kernel_rfl : chkFn Try.prog 72 ir72 ir72_v = true)
theorem M_spec_l00Min : c_spec_l00Min.modes = [.bor, .bor] := rfl
theorem Fl_spec_l00Min : c_spec_l00Min.flat = true := rfl
attribute [go_sem] M_spec_l00Min Fl_spec_l00Min
theorem Fs_spec_l00Min {a : Int} {b : Int} {y_ : Int} (h : spec_l00Min a b = some y_) : c_spec_l00Min.F [.int .i64 a, .int .i64 b] = ⟨true, .int .i64 y_, [.any, .any]⟩ := by
  refine mkF_E rfl ?_
  dsimp only [spec_l00Min] at h
  rcases it_some h with ⟨hk1, h⟩ | ⟨hk1, h⟩
  · try simp only [go_sem, n1, n2, n3, n4] at hk1
    all_goals
    obtain rfl := so_some h
    refine ⟨0, fun L hL => ?_⟩
    simp only [go_sem, ir72, hk1]
  · try simp only [go_sem, n1, n2, n3, n4] at hk1
    all_goals
    obtain rfl := so_some h
    refine ⟨0, fun L hL => ?_⟩
    simp only [go_sem, ir72, hk1]


def ir73_v : List Nat := [0, 2]
def ir73 : AFn := ⟨1, 2, .seq (.region false [
    ⟨.var 1, 2, none, .mov (.c (.bool false))⟩])
 (.seq (.region false [
    ⟨.push, 3, none, .mov (.v 0)⟩,
    ⟨.push, 4, none, .call 41 [(.s 0), (.c (.int .i64 (1))), (.c (.int .i64 (5)))]⟩,
    ⟨.var 1, 2, none, .mov (.s 0)⟩])
 (.ret)), [.t 1]⟩
noncomputable def t_spec_l26Kind : List (Nat × Ctr) := [(41, c_spec_l00In)]
theorem lk_spec_l26Kind_41 : look t_spec_l26Kind 41 = some c_spec_l00In := rfl
noncomputable def c_spec_l26Kind : Ctr := mkF t_spec_l26Kind ir73 [.bor]
theorem s_spec_l26Kind : Sound Try.prog 73 c_spec_l26Kind := mkF_sound _ rfl (snd_cons s_spec_l00In snd_nil) (by kernel_rfl : chkFn Try.prog 73 ir73 ir73_v = true)
theorem M_spec_l26Kind : c_spec_l26Kind.modes = [.bor] := rfl
theorem Fl_spec_l26Kind : c_spec_l26Kind.flat = true := rfl
attribute [go_sem] M_spec_l26Kind Fl_spec_l26Kind
attribute [go_sem] lk_spec_l26Kind_41
theorem Fs_spec_l26Kind {n : Int} {y_ : Bool} (h : spec_l26Kind n = some y_) : c_spec_l26Kind.F [.int .i64 n] = ⟨true, .bool y_, [.any]⟩ := by
  refine mkF_E rfl ?_
  dsimp only [spec_l26Kind] at h
  obtain ⟨y_1, hk1, h⟩ := bd_some h
  have fhk1 := Fs_spec_l00In hk1
  try simp only [go_sem] at fhk1
  obtain rfl := so_some h
  refine ⟨0, fun L hL => ?_⟩
  simp only [go_sem, ir73, fhk1]


def ir44_b0 : IR := .seq (.test false [
    ⟨.push, 7, none, .mov (.v 3)⟩,
    ⟨.push, 8, none, .mov (.v 0)⟩,
    ⟨.push, 9, none, .len false (.s 0)⟩,
    ⟨.push, 10, none, .bin false .lss (.s 2) (.s 0)⟩] (.s 0)
  (.skip)
  (.exit 0))
 (.seq (.block 1 (.seq (.region false [
      ⟨.push, 13, none, .mov (.v 0)⟩,
      ⟨.push, 14, none, .mov (.v 3)⟩,
      ⟨.push, 15, none, .ixAddr 2 (.s 1) (.s 0)⟩,
      ⟨.var 4, 6, none, .mov (.s 0)⟩])
   (.seq (.test false [
      ⟨.push, 16, none, .mov (.v 4)⟩,
      ⟨.push, 17, none, .nilck (.s 0)⟩,
      ⟨.push, 18, none, .fldAddr 0 (.s 0)⟩,
      ⟨.push, 19, none, .load false 1 (.s 0)⟩,
      ⟨.push, 20, none, .mov (.v 1)⟩,
      ⟨.push, 21, none, .bin false .sub (.s 0) (.c (.int .i64 (1)))⟩,
      ⟨.push, 22, none, .call 41 [(.s 2), (.c (.int .i64 (0))), (.s 0)]⟩,
      ⟨.push, 23, none, .un .not (.s 0)⟩,
      ⟨.push, 24, none, .mov (.s 0)⟩,
      ⟨.push, 25, (some ((.s 0), false)), .mov (.v 4)⟩,
      ⟨.push, 26, (some ((.s 1), false)), .nilck (.s 0)⟩,
      ⟨.push, 27, (some ((.s 2), false)), .fldAddr 1 (.s 0)⟩,
      ⟨.push, 28, (some ((.s 3), false)), .load false 1 (.s 0)⟩,
      ⟨.push, 29, (some ((.s 4), false)), .call 73 [(.s 0)]⟩,
      ⟨.push, 30, (some ((.s 5), false)), .un .not (.s 0)⟩,
      ⟨.push, 31, none, .pick (.s 6) (.c (.bool true)) (.s 0)⟩] (.s 0)
    (.seq (.region false [
        ⟨.var 2, 4, none, .mov (.c (.bool false))⟩])
     (.ret))
    (.skip))
   (.anyo 41 [
     ⟨.slot 0, 32, none, .mov (.v 3)⟩,
     ⟨.slot 1, 33, none, .bin false .gtr (.s 0) (.c (.int .i64 (0)))⟩,
     ⟨.slot 2, 34, none, .mov (.s 1)⟩,
     ⟨.slot 3, 35, (some ((.s 2), true)), .mov (.v 0)⟩,
     ⟨.slot 4, 36, (some ((.s 2), true)), .mov (.v 3)⟩,
     ⟨.slot 5, 37, (some ((.s 2), true)), .bin false .sub (.s 4) (.c (.int .i64 (1)))⟩,
     ⟨.slot 6, 38, (some ((.s 2), true)), .ixAddr 2 (.s 3) (.s 5)⟩,
     ⟨.slot 7, 39, (some ((.s 2), true)), .fldAddr 0 (.s 6)⟩,
     ⟨.slot 8, 40, (some ((.s 2), true)), .load false 1 (.s 7)⟩,
     ⟨.slot 9, 41, (some ((.s 2), true)), .mov (.v 4)⟩,
     ⟨.slot 10, 42, (some ((.s 2), true)), .nilck (.s 9)⟩,
     ⟨.slot 11, 43, (some ((.s 2), true)), .fldAddr 0 (.s 10)⟩,
     ⟨.slot 12, 44, (some ((.s 2), true)), .load false 1 (.s 11)⟩,
     ⟨.slot 13, 45, (some ((.s 2), true)), .bin false .gtr (.s 8) (.s 12)⟩,
     ⟨.slot 14, 46, (some ((.s 2), true)), .mov (.s 13)⟩,
     ⟨.slot 15, 47, (some ((.s 14), false)), .mov (.v 0)⟩,
     ⟨.slot 16, 48, (some ((.s 14), false)), .mov (.v 3)⟩,
     ⟨.slot 17, 49, (some ((.s 14), false)), .bin false .sub (.s 16) (.c (.int .i64 (1)))⟩,
     ⟨.slot 18, 50, (some ((.s 14), false)), .ixAddr 2 (.s 15) (.s 17)⟩,
     ⟨.slot 19, 51, (some ((.s 14), false)), .fldAddr 0 (.s 18)⟩,
     ⟨.slot 20, 52, (some ((.s 14), false)), .load false 1 (.s 19)⟩,
     ⟨.slot 21, 53, (some ((.s 14), false)), .mov (.v 4)⟩,
     ⟨.slot 22, 54, (some ((.s 14), false)), .nilck (.s 21)⟩,
     ⟨.slot 23, 55, (some ((.s 14), false)), .fldAddr 0 (.s 22)⟩,
     ⟨.slot 24, 56, (some ((.s 14), false)), .load false 1 (.s 23)⟩,
     ⟨.slot 25, 57, (some ((.s 14), false)), .bin false .eql (.s 20) (.s 24)⟩,
     ⟨.slot 26, 58, (some ((.s 14), false)), .mov (.s 25)⟩,
     ⟨.slot 27, 59, (some ((.s 26), true)), .mov (.v 0)⟩,
     ⟨.slot 28, 60, (some ((.s 26), true)), .mov (.v 3)⟩,
     ⟨.slot 29, 61, (some ((.s 26), true)), .bin false .sub (.s 28) (.c (.int .i64 (1)))⟩,
     ⟨.slot 30, 62, (some ((.s 26), true)), .ixAddr 2 (.s 27) (.s 29)⟩,
     ⟨.slot 31, 63, (some ((.s 26), true)), .fldAddr 1 (.s 30)⟩,
     ⟨.slot 32, 64, (some ((.s 26), true)), .load false 1 (.s 31)⟩,
     ⟨.slot 33, 65, (some ((.s 26), true)), .mov (.v 4)⟩,
     ⟨.slot 34, 66, (some ((.s 26), true)), .nilck (.s 33)⟩,
     ⟨.slot 35, 67, (some ((.s 26), true)), .fldAddr 1 (.s 34)⟩,
     ⟨.slot 36, 68, (some ((.s 26), true)), .load false 1 (.s 35)⟩,
     ⟨.slot 37, 69, (some ((.s 26), true)), .bin false .geq (.s 32) (.s 36)⟩,
     ⟨.slot 38, 70, (some ((.s 14), false)), .pick (.s 26) (.s 37) (.c (.bool false))⟩,
     ⟨.slot 39, 71, (some ((.s 2), true)), .pick (.s 14) (.c (.bool true)) (.s 38)⟩,
     ⟨.slot 40, 72, none, .pick (.s 2) (.s 39) (.c (.bool false))⟩] [] (.cond (.s 40)
   (.seq (.region false [
       ⟨.var 2, 4, none, .mov (.c (.bool false))⟩])
    (.ret))
   (.skip))))))
 (.region false [
   ⟨.push, 11, none, .mov (.v 3)⟩,
   ⟨.push, 12, none, .bin false .add (.s 0) (.c (.int .i64 (1)))⟩,
   ⟨.var 3, 5, none, .mov (.s 0)⟩]))
def ir44_k0 : List Bool := [true, true, false, true, false]
def ir44_o0 : List Bool := [false, false, false, false, false]
def ir44_r0 : List Bool := [false, false, true, false, false]
def ir44_v : List Nat := [0, 1, 4, 5, 6]
def ir44 : AFn := ⟨2, 5, .seq (.region false [
    ⟨.var 2, 4, none, .mov (.c (.bool false))⟩])
 (.seq (.seq (.region false [
     ⟨.var 3, 5, none, .mov (.c (.int .i64 (0)))⟩])
  (.block 0 (.loop ir44_k0 ir44_o0 ir44_r0 ir44_b0)))
 (.seq (.region false [
    ⟨.var 2, 4, none, .mov (.c (.bool true))⟩])
 (.ret))), [.t 2]⟩
noncomputable def t_spec_l26Faults : List (Nat × Ctr) := [(41, c_spec_l00In), (73, c_spec_l26Kind)]
theorem lk_spec_l26Faults_41 : look t_spec_l26Faults 41 = some c_spec_l00In := rfl
theorem lk_spec_l26Faults_73 : look t_spec_l26Faults 73 = some c_spec_l26Kind := rfl
noncomputable def c_spec_l26Faults : Ctr := mkF t_spec_l26Faults ir44 [.bor, .bor]
theorem s_spec_l26Faults : Sound Try.prog 44 c_spec_l26Faults := mkF_sound _ rfl (snd_cons s_spec_l00In (snd_cons s_spec_l26Kind snd_nil)) (by kernel_rfl : chkFn Try.prog 44 ir44 ir44_v = true)
theorem M_spec_l26Faults : c_spec_l26Faults.modes = [.bor, .bor] := rfl
theorem Fl_spec_l26Faults : c_spec_l26Faults.flat = true := rfl
attribute [go_sem] M_spec_l26Faults Fl_spec_l26Faults
attribute [go_sem] lk_spec_l26Faults_41 lk_spec_l26Faults_73
def E_spec_l26Faults_l1 (faults : List Fault) (count : Int) : Int → St
  | i => ⟨[.sl 2 (List.map Fault_av faults), .int .i64 count, .any, .int .i64 i, .any], [], [], true⟩
def R_spec_l26Faults_l1 (faults : List Fault) (count : Int) : (Unit ⊕ Bool) → Res
  | .inl y => (.exit 0, ⟨[.any, .any, .any, .any, .any], [], [], true⟩)
  | .inr y => (.ret, ⟨[.any, .any, .bool y, .any, .any], [], [], true⟩)
theorem spec_l26Faults_l1_ex {faults : List Fault} {count : Int} {sgm_ : Int} {rho_ : Unit ⊕ Bool} (h : whileE (spec_l26Faults_l1 faults count) sgm_ = some rho_) : ∃ L0, ∀ L, L0 ≤ L → iter (exec (look t_spec_l26Faults) L ir44_b0) ir44_k0 ir44_o0 ir44_r0 L (E_spec_l26Faults_l1 faults count sgm_) = R_spec_l26Faults_l1 faults count rho_ := by
  refine loop_ex (E := E_spec_l26Faults_l1 faults count) (R := R_spec_l26Faults_l1 faults count) (fun y => by first | (intro c; cases c) | (rcases y with y | y <;> (intro c; cases c)) | (rcases y with y | y | y <;> (intro c; cases c))) ?_ h
  clear h
  intro i o_ h
  dsimp only [spec_l26Faults_l1] at h
  rcases it_some h with ⟨hk1, h⟩ | ⟨hk1, h⟩
  · try simp only [go_sem, n1, n2, n3, n4] at hk1
    all_goals
    obtain ⟨hk2, h⟩ := ck_some h
    have lhk2 := ix_lt hk2
    have xhk2 := getD_mapD Fault_av faults lhk2
    try simp only [go_sem] at lhk2
    try simp only [go_sem] at xhk2
    try simp only [go_sem, n1, n2, n3, n4, hk1] at hk2
    all_goals
    obtain ⟨y_3, hk3, h⟩ := bd_some h
    have fhk3 := Fs_spec_l00In hk3
    try simp only [go_sem, hk1, hk2] at fhk3
    obtain ⟨hk4, h⟩ := ck_some h
    rcases or_split hk4 with ⟨ghk4, hk4⟩ | ghk4
    · try simp only [go_sem, n1, n2, n3, n4, hk1, hk2] at ghk4
      all_goals
      obtain ⟨y_4, hhk4⟩ := Option.isSome_iff_exists.1 hk4
      have fhk4 := Fs_spec_l26Kind hhk4
      try simp only [go_sem, n1, n2, n3, n4, hk1, hk2, ghk4] at hhk4
      all_goals
      try simp only [go_sem, hk1, hk2, ghk4] at fhk4
      rcases it_some h with ⟨hk5, h⟩ | ⟨hk5, h⟩
      · try simp only [go_sem, n1, n2, n3, n4, hk1, hk2, ghk4, hhk4] at hk5
        all_goals
        obtain rfl := so_some h
        refine ⟨0, fun L hL => ?_⟩
        simp only [go_sem, ir44, E_spec_l26Faults_l1, R_spec_l26Faults_l1, ir44_b0, ir44_k0, ir44_o0, ir44_r0, hk1, hk2, lhk2, xhk2, fhk3, ghk4, hhk4, fhk4, hk5]
      · try simp only [go_sem, n1, n2, n3, n4, hk1, hk2, ghk4, hhk4] at hk5
        all_goals
        obtain ⟨hk6, h⟩ := ck_some h
        rcases or_split hk6 with ⟨ghk6, hk6⟩ | ghk6
        · try simp only [go_sem, n1, n2, n3, n4, hk1, hk2, ghk4, hhk4, hk5] at ghk6
          all_goals
          have lhk6 := ix_lt hk6
          have xhk6 := getD_mapD Fault_av faults lhk6
          try simp only [go_sem] at lhk6
          try simp only [go_sem] at xhk6
          try simp only [go_sem, n1, n2, n3, n4, hk1, hk2, ghk4, hhk4, hk5, ghk6] at hk6
          all_goals
          obtain ⟨hk7, h⟩ := ck_some h
          rcases or_split hk7 with ⟨ghk7, hk7⟩ | ghk7
          · try simp only [go_sem, n1, n2, n3, n4, hk1, hk2, ghk4, hhk4, hk5, ghk6, hk6] at ghk7
            all_goals
            have lhk7 := ix_lt hk7
            have xhk7 := getD_mapD Fault_av faults lhk7
            try simp only [go_sem] at lhk7
            try simp only [go_sem] at xhk7
            try simp only [go_sem, n1, n2, n3, n4, hk1, hk2, ghk4, hhk4, hk5, ghk6, hk6, ghk7] at hk7
            all_goals
            obtain ⟨hk8, h⟩ := ck_some h
            rcases or_split hk8 with ⟨ghk8, hk8⟩ | ghk8
            · try simp only [go_sem, n1, n2, n3, n4, hk1, hk2, ghk4, hhk4, hk5, ghk6, hk6, ghk7, hk7] at ghk8
              all_goals
              have lhk8 := ix_lt hk8
              have xhk8 := getD_mapD Fault_av faults lhk8
              try simp only [go_sem] at lhk8
              try simp only [go_sem] at xhk8
              try simp only [go_sem, n1, n2, n3, n4, hk1, hk2, ghk4, hhk4, hk5, ghk6, hk6, ghk7, hk7, ghk8] at hk8
              all_goals
              rcases it_some h with ⟨hk9, h⟩ | ⟨hk9, h⟩
              · try simp only [go_sem, n1, n2, n3, n4, hk1, hk2, ghk4, hhk4, hk5, ghk6, hk6, ghk7, hk7, ghk8, hk8] at hk9
                all_goals
                obtain rfl := so_some h
                refine ⟨0, fun L hL => ?_⟩
                simp only [go_sem, ir44, E_spec_l26Faults_l1, R_spec_l26Faults_l1, ir44_b0, ir44_k0, ir44_o0, ir44_r0, hk1, hk2, lhk2, xhk2, fhk3, ghk4, hhk4, fhk4, hk5, ghk6, hk6, lhk6, xhk6, ghk7, hk7, lhk7, xhk7, ghk8, hk8, lhk8, xhk8, hk9]
              · try simp only [go_sem, n1, n2, n3, n4, hk1, hk2, ghk4, hhk4, hk5, ghk6, hk6, ghk7, hk7, ghk8, hk8] at hk9
                all_goals
                obtain rfl := so_some h
                refine ⟨0, fun L hL => ?_⟩
                simp only [go_sem, ir44, E_spec_l26Faults_l1, R_spec_l26Faults_l1, ir44_b0, ir44_k0, ir44_o0, ir44_r0, hk1, hk2, lhk2, xhk2, fhk3, ghk4, hhk4, fhk4, hk5, ghk6, hk6, lhk6, xhk6, ghk7, hk7, lhk7, xhk7, ghk8, hk8, lhk8, xhk8, hk9]
            · rcases and_f ghk8 with ghk8a | ⟨ghk8a, ghk8b⟩
              · try simp only [go_sem, n1, n2, n3, n4, hk1, hk2, ghk4, hhk4, hk5, ghk6, hk6, ghk7, hk7] at ghk8a
                all_goals
                (simp_all)
              · obtain ⟨ghk8aa, ghk8ab⟩ := and_t ghk8a
                have ghk8abn := no_t ghk8ab
                try simp only [go_sem, n1, n2, n3, n4, hk1, hk2, ghk4, hhk4, hk5, ghk6, hk6, ghk7, hk7] at ghk8aa
                all_goals
                try simp only [go_sem, n1, n2, n3, n4, hk1, hk2, ghk4, hhk4, hk5, ghk6, hk6, ghk7, hk7, ghk8aa] at ghk8abn
                all_goals
                try simp only [go_sem, n1, n2, n3, n4, hk1, hk2, ghk4, hhk4, hk5, ghk6, hk6, ghk7, hk7, ghk8aa, ghk8abn] at ghk8b
                all_goals
                rcases it_some h with ⟨hk9, h⟩ | ⟨hk9, h⟩
                · try simp only [go_sem, n1, n2, n3, n4, hk1, hk2, ghk4, hhk4, hk5, ghk6, hk6, ghk7, hk7, ghk8aa, ghk8abn, ghk8b] at hk9
                  all_goals
                  (simp_all)
                · try simp only [go_sem, n1, n2, n3, n4, hk1, hk2, ghk4, hhk4, hk5, ghk6, hk6, ghk7, hk7, ghk8aa, ghk8abn, ghk8b] at hk9
                  all_goals
                  obtain rfl := so_some h
                  refine ⟨0, fun L hL => ?_⟩
                  simp only [go_sem, ir44, E_spec_l26Faults_l1, R_spec_l26Faults_l1, ir44_b0, ir44_k0, ir44_o0, ir44_r0, hk1, hk2, lhk2, xhk2, fhk3, ghk4, hhk4, fhk4, hk5, ghk6, hk6, lhk6, xhk6, ghk7, hk7, lhk7, xhk7, ghk8aa, ghk8abn, ghk8b, hk9]
          · rcases and_f ghk7 with ghk7a | ⟨ghk7a, ghk7b⟩
            · try simp only [go_sem, n1, n2, n3, n4, hk1, hk2, ghk4, hhk4, hk5, ghk6, hk6] at ghk7a
              all_goals
              (simp_all)
            · have ghk7bn := no_f ghk7b
              try simp only [go_sem, n1, n2, n3, n4, hk1, hk2, ghk4, hhk4, hk5, ghk6, hk6] at ghk7a
              all_goals
              try simp only [go_sem, n1, n2, n3, n4, hk1, hk2, ghk4, hhk4, hk5, ghk6, hk6, ghk7a] at ghk7bn
              all_goals
              obtain ⟨hk8, h⟩ := ck_some h
              rcases it_some h with ⟨hk9, h⟩ | ⟨hk9, h⟩
              · try simp only [go_sem, n1, n2, n3, n4, hk1, hk2, ghk4, hhk4, hk5, ghk6, hk6, ghk7a, ghk7bn] at hk9
                all_goals
                obtain rfl := so_some h
                refine ⟨0, fun L hL => ?_⟩
                simp only [go_sem, ir44, E_spec_l26Faults_l1, R_spec_l26Faults_l1, ir44_b0, ir44_k0, ir44_o0, ir44_r0, hk1, hk2, lhk2, xhk2, fhk3, ghk4, hhk4, fhk4, hk5, ghk6, hk6, lhk6, xhk6, ghk7a, ghk7bn, hk9]
              · try simp only [go_sem, n1, n2, n3, n4, hk1, hk2, ghk4, hhk4, hk5, ghk6, hk6, ghk7a, ghk7bn] at hk9
                all_goals
                (simp_all)
        · try simp only [go_sem, n1, n2, n3, n4, hk1, hk2, ghk4, hhk4, hk5] at ghk6
          all_goals
          obtain ⟨hk7, h⟩ := ck_some h
          obtain ⟨hk8, h⟩ := ck_some h
          rcases it_some h with ⟨hk9, h⟩ | ⟨hk9, h⟩
          · try simp only [go_sem, n1, n2, n3, n4, hk1, hk2, ghk4, hhk4, hk5, ghk6] at hk9
            all_goals
            (simp_all)
          · try simp only [go_sem, n1, n2, n3, n4, hk1, hk2, ghk4, hhk4, hk5, ghk6] at hk9
            all_goals
            obtain rfl := so_some h
            refine ⟨0, fun L hL => ?_⟩
            simp only [go_sem, ir44, E_spec_l26Faults_l1, R_spec_l26Faults_l1, ir44_b0, ir44_k0, ir44_o0, ir44_r0, hk1, hk2, lhk2, xhk2, fhk3, ghk4, hhk4, fhk4, hk5, ghk6, hk9]
    · have ghk4n := no_f ghk4
      have ghk4nn := no_t ghk4n
      try simp only [go_sem, n1, n2, n3, n4, hk1, hk2] at ghk4nn
      all_goals
      rcases it_some h with ⟨hk5, h⟩ | ⟨hk5, h⟩
      · try simp only [go_sem, n1, n2, n3, n4, hk1, hk2, ghk4nn] at hk5
        all_goals
        obtain rfl := so_some h
        refine ⟨0, fun L hL => ?_⟩
        simp only [go_sem, ir44, E_spec_l26Faults_l1, R_spec_l26Faults_l1, ir44_b0, ir44_k0, ir44_o0, ir44_r0, hk1, hk2, lhk2, xhk2, fhk3, ghk4nn, hk5]
      · try simp only [go_sem, n1, n2, n3, n4, hk1, hk2, ghk4nn] at hk5
        all_goals
        (simp_all)
  · try simp only [go_sem, n1, n2, n3, n4] at hk1
    all_goals
    obtain rfl := so_some h
    refine ⟨0, fun L hL => ?_⟩
    simp only [go_sem, ir44, E_spec_l26Faults_l1, R_spec_l26Faults_l1, ir44_b0, ir44_k0, ir44_o0, ir44_r0, hk1]

theorem Fs_spec_l26Faults {faults : List Fault} {count : Int} {y_ : Bool} (h : spec_l26Faults faults count = some y_) : c_spec_l26Faults.F [.sl 2 (List.map Fault_av faults), .int .i64 count] = ⟨true, .bool y_, [.any, .any]⟩ := by
  refine mkF_E rfl ?_
  dsimp only [spec_l26Faults] at h
  obtain ⟨y_10, hk10, h⟩ := bd_some h
  obtain ⟨Lhk10, ehk10⟩ := spec_l26Faults_l1_ex hk10
  rcases y_10 with y_10a | y_10b
  · dsimp only at h
    obtain rfl := so_some h
    refine ⟨Lhk10, fun L hL => ?_⟩
    have ehk10 := ehk10 L (by omega)
    try simp only [go_sem, E_spec_l26Faults_l1, R_spec_l26Faults_l1, ir44_k0, ir44_o0, ir44_r0] at ehk10
    simp only [go_sem, ir44, E_spec_l26Faults_l1, R_spec_l26Faults_l1, ir44_k0, ir44_o0, ir44_r0, ehk10]
  · dsimp only at h
    obtain rfl := so_some h
    refine ⟨Lhk10, fun L hL => ?_⟩
    have ehk10 := ehk10 L (by omega)
    try simp only [go_sem, E_spec_l26Faults_l1, R_spec_l26Faults_l1, ir44_k0, ir44_o0, ir44_r0] at ehk10
    simp only [go_sem, ir44, E_spec_l26Faults_l1, R_spec_l26Faults_l1, ir44_k0, ir44_o0, ir44_r0, ehk10]


def ir42_b0 : IR := .seq (.test false [
    ⟨.push, 9, none, .mov (.v 4)⟩,
    ⟨.push, 10, none, .mov (.v 1)⟩,
    ⟨.push, 11, none, .call 72 [(.s 0), (.c (.int .i64 (12)))]⟩,
    ⟨.push, 12, none, .bin false .lss (.s 2) (.s 0)⟩] (.s 0)
  (.skip)
  (.exit 0))
 (.seq (.block 1 (.seq (.test false [
      ⟨.push, 15, none, .mov (.v 0)⟩,
      ⟨.push, 16, none, .call 38 [(.s 0), (.c (.int .i64 (3)))]⟩] (.s 0)
    (.region false [
       ⟨.push, 17, none, .mov (.v 3)⟩,
       ⟨.push, 18, none, .mov (.v 4)⟩,
       ⟨.push, 19, none, .mov (.v 0)⟩,
       ⟨.push, 20, none, .call 37 [(.s 0), (.c (.int .i64 (5)))]⟩,
       ⟨.push, 21, none, .bin false .add (.c (.int .i64 (1))) (.s 0)⟩,
       ⟨.push, 22, none, .build [.int .i64 (0), .int .i64 (0)] [(0, 1, (.s 3)), (1, 1, (.s 0))]⟩,
       ⟨.push, 23, none, .mkSl 2 (.agg [.int .i64 (0), .int .i64 (0)]) 1 [(0, (.s 0))]⟩,
       ⟨.push, 24, none, .app 2 16 (.agg [.int .i64 (0), .int .i64 (0)]) (.s 6) (.s 0)⟩,
       ⟨.var 3, 5, none, .mov (.s 0)⟩])
    (.skip))
   (.test false [
     ⟨.push, 25, none, .mov (.v 0)⟩,
     ⟨.push, 26, none, .call 38 [(.s 0), (.c (.int .i64 (8)))]⟩] (.s 0)
   (.seq (.region false [
       ⟨.push, 27, none, .mov (.v 3)⟩,
       ⟨.push, 28, none, .mov (.v 4)⟩,
       ⟨.push, 29, none, .mov (.v 0)⟩,
       ⟨.push, 30, none, .call 37 [(.s 0), (.c (.int .i64 (5)))]⟩,
       ⟨.push, 31, none, .bin false .add (.c (.int .i64 (1))) (.s 0)⟩,
       ⟨.push, 32, none, .build [.int .i64 (0), .int .i64 (0)] [(0, 1, (.s 3)), (1, 1, (.s 0))]⟩,
       ⟨.push, 33, none, .mkSl 2 (.agg [.int .i64 (0), .int .i64 (0)]) 1 [(0, (.s 0))]⟩,
       ⟨.push, 34, none, .app 2 16 (.agg [.int .i64 (0), .int .i64 (0)]) (.s 6) (.s 0)⟩,
       ⟨.var 3, 5, none, .mov (.s 0)⟩])
    (.test false [
      ⟨.push, 35, none, .mov (.v 3)⟩,
      ⟨.push, 36, none, .mov (.v 1)⟩,
      ⟨.push, 37, none, .call 44 [(.s 1), (.s 0)]⟩,
      ⟨.push, 38, none, .un .not (.s 0)⟩] (.s 0)
    (.region false [
       ⟨.push, 39, none, .mov (.v 3)⟩,
       ⟨.push, 40, none, .mov (.v 3)⟩,
       ⟨.push, 41, none, .len false (.s 0)⟩,
       ⟨.push, 42, none, .bin false .sub (.s 0) (.c (.int .i64 (1)))⟩,
       ⟨.push, 43, none, .trunc 2 (.s 3) (.s 0)⟩,
       ⟨.var 3, 5, none, .mov (.s 0)⟩])
    (.skip)))
   (.skip))))
 (.region false [
   ⟨.push, 13, none, .mov (.v 4)⟩,
   ⟨.push, 14, none, .bin false .add (.s 0) (.c (.int .i64 (1)))⟩,
   ⟨.var 4, 6, none, .mov (.s 0)⟩]))
def ir42_k0 : List Bool := [true, true, false, true, true, false]
def ir42_o0 : List Bool := [true, true, false, true, false, false]
def ir42_r0 : List Bool := [true, false, true, false, false, false]
def ir42_v : List Nat := [0, 1, 4, 5, 6, 7]
def ir42 : AFn := ⟨2, 6, .seq (.region false [
    ⟨.var 2, 4, none, .newnil 2⟩])
 (.seq (.region false [
    ⟨.push, 8, none, .mkSl 2 (.agg [.int .i64 (0), .int .i64 (0)]) 0 []⟩,
    ⟨.var 3, 5, none, .mov (.s 0)⟩])
 (.seq (.seq (.region false [
     ⟨.var 4, 6, none, .mov (.c (.int .i64 (0)))⟩])
  (.block 0 (.loop ir42_k0 ir42_o0 ir42_r0 ir42_b0)))
 (.seq (.test false [
    ⟨.push, 44, none, .mov (.v 3)⟩,
    ⟨.push, 45, none, .len false (.s 0)⟩,
    ⟨.push, 46, none, .bin false .gtr (.s 0) (.c (.int .i64 (0)))⟩,
    ⟨.push, 47, none, .mov (.s 0)⟩,
    ⟨.push, 48, (some ((.s 0), true)), .mov (.v 0)⟩,
    ⟨.push, 49, (some ((.s 1), true)), .callw 38 [(.s 0), (.c (.int .i64 (10)))]⟩,
    ⟨.push, 50, none, .pick (.s 2) (.s 0) (.c (.bool false))⟩] (.s 0)
  (.seq (.region false [
      ⟨.push, 51, none, .mov (.v 3)⟩,
      ⟨.push, 52, none, .mov (.v 0)⟩,
      ⟨.push, 53, none, .mov (.v 3)⟩,
      ⟨.push, 54, none, .len false (.s 0)⟩,
      ⟨.push, 55, none, .call 37 [(.s 2), (.s 0)]⟩,
      ⟨.push, 56, none, .ixAddr 2 (.s 4) (.s 0)⟩,
      ⟨.var 5, 7, none, .mov (.s 0)⟩])
   (.seq (.region false [
      ⟨.push, 57, none, .mov (.v 5)⟩,
      ⟨.push, 58, none, .mov (.v 0)⟩,
      ⟨.push, 59, none, .mkSl 1 (.int .i64 (0)) 4 [(0, (.c (.int .i64 (0)))), (1, (.c (.int .i64 (5)))), (2, (.c (.int .i64 (6)))), (3, (.c (.int .i64 (-1))))]⟩,
      ⟨.push, 60, none, .call 39 [(.s 1), (.s 0)]⟩,
      ⟨.push, 61, none, .nilck (.s 3)⟩,
      ⟨.push, 62, none, .fldAddr 1 (.s 0)⟩,
      ⟨.no, 0, none, .store 1 (.s 0) (.s 2)⟩])
   (.anyo 16 [
     ⟨.slot 0, 63, none, .mov (.v 5)⟩,
     ⟨.slot 1, 64, none, .mov (.v 0)⟩,
     ⟨.slot 2, 65, none, .mov (.v 5)⟩,
     ⟨.slot 3, 66, none, .nilck (.s 2)⟩,
     ⟨.slot 4, 67, none, .fldAddr 0 (.s 3)⟩,
     ⟨.slot 5, 68, none, .load false 1 (.s 4)⟩,
     ⟨.slot 6, 69, none, .mov (.v 5)⟩,
     ⟨.slot 7, 70, none, .nilck (.s 6)⟩,
     ⟨.slot 8, 71, none, .fldAddr 0 (.s 7)⟩,
     ⟨.slot 9, 72, none, .load false 1 (.s 8)⟩,
     ⟨.slot 10, 73, none, .bin false .add (.s 9) (.c (.int .i64 (1)))⟩,
     ⟨.slot 11, 74, none, .mov (.v 1)⟩,
     ⟨.slot 12, 75, none, .pur (.mkSl 1 (.int .i64 (0)) 5 [(0, (.s 5)), (1, (.s 10)), (2, (.c (.int .i64 (-1)))), (3, (.s 11)), (4, (.c (.int .i64 (100))))])⟩,
     ⟨.slot 13, 76, none, .call 39 [(.s 1), (.s 12)]⟩,
     ⟨.slot 14, 77, none, .nilck (.s 0)⟩,
     ⟨.slot 15, 78, none, .fldAddr 0 (.s 14)⟩,
     ⟨.no, 0, none, .store 1 (.s 15) (.s 13)⟩] [[1, 2, 3, 4, 5, 6, 7, 8, 9, 10, 11, 12, 0, 13, 14, 15, 16], [1, 2, 3, 4, 5, 6, 7, 8, 9, 10, 11, 12, 13, 0, 14, 15, 16]] .skip)))
  (.skip))
 (.seq (.region false [
    ⟨.push, 79, none, .mov (.v 3)⟩,
    ⟨.var 2, 4, none, .mov (.s 0)⟩])
 (.ret))))), [.t 2]⟩
noncomputable def t_spec_l26Draw : List (Nat × Ctr) := [(72, c_spec_l00Min), (38, c_spec_l00Src_one), (37, c_spec_l00Src_pick), (44, c_spec_l26Faults), (39, c_spec_l00Src_among)]
theorem lk_spec_l26Draw_72 : look t_spec_l26Draw 72 = some c_spec_l00Min := rfl
theorem lk_spec_l26Draw_38 : look t_spec_l26Draw 38 = some c_spec_l00Src_one := rfl
theorem lk_spec_l26Draw_37 : look t_spec_l26Draw 37 = some c_spec_l00Src_pick := rfl
theorem lk_spec_l26Draw_44 : look t_spec_l26Draw 44 = some c_spec_l26Faults := rfl
theorem lk_spec_l26Draw_39 : look t_spec_l26Draw 39 = some c_spec_l00Src_among := rfl
noncomputable def c_spec_l26Draw : Ctr := mkN t_spec_l26Draw ir42 [.io, .bor]
theorem s_spec_l26Draw : Sound Try.prog 42 c_spec_l26Draw := mkN_sound _ (snd_cons s_spec_l00Min (snd_cons s_spec_l00Src_one (snd_cons s_spec_l00Src_pick (snd_cons s_spec_l26Faults (snd_cons s_spec_l00Src_among snd_nil))))) (by kernel_rfl : chkFn Try.prog 42 ir42 ir42_v = true)
theorem M_spec_l26Draw : c_spec_l26Draw.modes = [.io, .bor] := rfl
theorem Fl_spec_l26Draw : c_spec_l26Draw.flat = false := rfl
attribute [go_sem] M_spec_l26Draw Fl_spec_l26Draw
attribute [go_sem] lk_spec_l26Draw_72 lk_spec_l26Draw_38 lk_spec_l26Draw_37 lk_spec_l26Draw_44 lk_spec_l26Draw_39
def E_spec_l26Draw_l1 (count : Int) : (L00Src × (List Fault) × Int) → St
  | (s_, out, i) => ⟨[.ref 31 0 0, .int .i64 count, .any, .own 3200032, .int .i64 i, .any], [], [(31, ⟨3, [L00Src_av s_]⟩), (3200032, ⟨2, List.map Fault_av out⟩)], true⟩
def R_spec_l26Draw_l1 (count : Int) (y : L00Src × (List Fault)) : Res := (.exit 0, ⟨[.ref 31 0 0, .int .i64 count, .any, .own 3200032, .any, .any], [], [(31, ⟨3, [L00Src_av y.1]⟩), (3200032, ⟨2, List.map Fault_av y.2⟩)], true⟩)
theorem spec_l26Draw_l1_ex {count : Int} {sgm_ : L00Src × (List Fault) × Int} {rho_ : L00Src × (List Fault)} (h : whileE (spec_l26Draw_l1 count) sgm_ = some rho_) : ∃ L0, ∀ L, L0 ≤ L → iter (exec (look t_spec_l26Draw) L ir42_b0) ir42_k0 ir42_o0 ir42_r0 L (E_spec_l26Draw_l1 count sgm_) = R_spec_l26Draw_l1 count rho_ := by
  refine loop_ex (E := E_spec_l26Draw_l1 count) (R := R_spec_l26Draw_l1 count) (fun y => by first | (intro c; cases c) | (rcases y with y | y <;> (intro c; cases c)) | (rcases y with y | y | y <;> (intro c; cases c))) ?_ h
  clear h
  rintro ⟨s_, out, i⟩ o_ h
  dsimp only [spec_l26Draw_l1] at h
  obtain ⟨y_1, hk1, h⟩ := bd_some h
  have fhk1 := Fs_spec_l00Min hk1
  try simp only [go_sem] at fhk1
  rcases it_some h with ⟨hk2, h⟩ | ⟨hk2, h⟩
  · try simp only [go_sem, n1, n2, n3, n4] at hk2
    all_goals
    obtain ⟨y_3, hk3, h⟩ := bd_some h
    have fhk3 := Fs_spec_l00Src_one hk3
    try simp only [go_sem, hk2] at fhk3
    rcases it_some h with ⟨hk4, h⟩ | ⟨hk4, h⟩
    · try simp only [go_sem, n1, n2, n3, n4, hk2] at hk4
      all_goals
      obtain ⟨y_5, hk5, h⟩ := bd_some h
      have fhk5 := Fs_spec_l00Src_pick hk5
      try simp only [go_sem, hk2, hk4] at fhk5
      obtain ⟨hk6, h⟩ := ck_some h
      try simp only [go_sem, n1, n2, n3, n4, hk2, hk4] at hk6
      all_goals
      obtain ⟨y_7, hk7, h⟩ := bd_some h
      have fhk7 := Fs_spec_l00Src_one hk7
      try simp only [go_sem, hk2, hk4, hk6] at fhk7
      rcases it_some h with ⟨hk8, h⟩ | ⟨hk8, h⟩
      · try simp only [go_sem, n1, n2, n3, n4, hk2, hk4, hk6] at hk8
        all_goals
        obtain ⟨y_9, hk9, h⟩ := bd_some h
        have fhk9 := Fs_spec_l00Src_pick hk9
        try simp only [go_sem, hk2, hk4, hk6, hk8] at fhk9
        obtain ⟨hk10, h⟩ := ck_some h
        try simp only [go_sem, n1, n2, n3, n4, hk2, hk4, hk6, hk8] at hk10
        all_goals
        obtain ⟨y_11, hk11, h⟩ := bd_some h
        have fhk11 := Fs_spec_l26Faults hk11
        try simp only [go_sem, hk2, hk4, hk6, hk8, hk10] at fhk11
        rcases it_some h with ⟨hk12, h⟩ | ⟨hk12, h⟩
        · try simp only [go_sem, n1, n2, n3, n4, hk2, hk4, hk6, hk8, hk10] at hk12
          all_goals
          obtain ⟨hk13, h⟩ := ck_some h
          try simp only [go_sem, n1, n2, n3, n4, hk2, hk4, hk6, hk8, hk10, hk12] at hk13
          all_goals
          obtain rfl := so_some h
          refine ⟨0, fun L hL => ?_⟩
          simp only [go_sem, ir42, E_spec_l26Draw_l1, R_spec_l26Draw_l1, ir42_b0, ir42_k0, ir42_o0, ir42_r0, fhk1, hk2, fhk3, hk4, fhk5, hk6, fhk7, hk8, fhk9, hk10, fhk11, hk12, hk13]
        · try simp only [go_sem, n1, n2, n3, n4, hk2, hk4, hk6, hk8, hk10] at hk12
          all_goals
          obtain rfl := so_some h
          refine ⟨0, fun L hL => ?_⟩
          simp only [go_sem, ir42, E_spec_l26Draw_l1, R_spec_l26Draw_l1, ir42_b0, ir42_k0, ir42_o0, ir42_r0, fhk1, hk2, fhk3, hk4, fhk5, hk6, fhk7, hk8, fhk9, hk10, fhk11, hk12]
      · try simp only [go_sem, n1, n2, n3, n4, hk2, hk4, hk6] at hk8
        all_goals
        obtain rfl := so_some h
        refine ⟨0, fun L hL => ?_⟩
        simp only [go_sem, ir42, E_spec_l26Draw_l1, R_spec_l26Draw_l1, ir42_b0, ir42_k0, ir42_o0, ir42_r0, fhk1, hk2, fhk3, hk4, fhk5, hk6, fhk7, hk8]
    · try simp only [go_sem, n1, n2, n3, n4, hk2] at hk4
      all_goals
      obtain ⟨y_14, hk14, h⟩ := bd_some h
      have fhk14 := Fs_spec_l00Src_one hk14
      try simp only [go_sem, hk2, hk4] at fhk14
      rcases it_some h with ⟨hk15, h⟩ | ⟨hk15, h⟩
      · try simp only [go_sem, n1, n2, n3, n4, hk2, hk4] at hk15
        all_goals
        obtain ⟨y_16, hk16, h⟩ := bd_some h
        have fhk16 := Fs_spec_l00Src_pick hk16
        try simp only [go_sem, hk2, hk4, hk15] at fhk16
        obtain ⟨hk17, h⟩ := ck_some h
        try simp only [go_sem, n1, n2, n3, n4, hk2, hk4, hk15] at hk17
        all_goals
        obtain ⟨y_18, hk18, h⟩ := bd_some h
        have fhk18 := Fs_spec_l26Faults hk18
        try simp only [go_sem, hk2, hk4, hk15, hk17] at fhk18
        rcases it_some h with ⟨hk19, h⟩ | ⟨hk19, h⟩
        · try simp only [go_sem, n1, n2, n3, n4, hk2, hk4, hk15, hk17] at hk19
          all_goals
          obtain ⟨hk20, h⟩ := ck_some h
          try simp only [go_sem, n1, n2, n3, n4, hk2, hk4, hk15, hk17, hk19] at hk20
          all_goals
          obtain rfl := so_some h
          refine ⟨0, fun L hL => ?_⟩
          simp only [go_sem, ir42, E_spec_l26Draw_l1, R_spec_l26Draw_l1, ir42_b0, ir42_k0, ir42_o0, ir42_r0, fhk1, hk2, fhk3, hk4, fhk14, hk15, fhk16, hk17, fhk18, hk19, hk20]
        · try simp only [go_sem, n1, n2, n3, n4, hk2, hk4, hk15, hk17] at hk19
          all_goals
          obtain rfl := so_some h
          refine ⟨0, fun L hL => ?_⟩
          simp only [go_sem, ir42, E_spec_l26Draw_l1, R_spec_l26Draw_l1, ir42_b0, ir42_k0, ir42_o0, ir42_r0, fhk1, hk2, fhk3, hk4, fhk14, hk15, fhk16, hk17, fhk18, hk19]
      · try simp only [go_sem, n1, n2, n3, n4, hk2, hk4] at hk15
        all_goals
        obtain rfl := so_some h
        refine ⟨0, fun L hL => ?_⟩
        simp only [go_sem, ir42, E_spec_l26Draw_l1, R_spec_l26Draw_l1, ir42_b0, ir42_k0, ir42_o0, ir42_r0, fhk1, hk2, fhk3, hk4, fhk14, hk15]
  · try simp only [go_sem, n1, n2, n3, n4] at hk2
    all_goals
    obtain rfl := so_some h
    refine ⟨0, fun L hL => ?_⟩
    simp only [go_sem, ir42, E_spec_l26Draw_l1, R_spec_l26Draw_l1, ir42_b0, ir42_k0, ir42_o0, ir42_r0, fhk1, hk2]

theorem Fs_spec_l26Draw {s_ : L00Src} {count : Int} {y_ : (List Fault) × L00Src} (h : spec_l26Draw s_ count = some y_) : c_spec_l26Draw.F [.mem 3 [L00Src_av s_], .int .i64 count] = ⟨true, .fresh 2 (List.map Fault_av y_.1), [.mem 3 [L00Src_av y_.2], .any]⟩ := by
  refine mkN_E ?_
  dsimp only [spec_l26Draw] at h
  obtain ⟨y_21, hk21, h⟩ := bd_some h
  obtain ⟨Lhk21, ehk21⟩ := spec_l26Draw_l1_ex hk21
  rcases it_some h with ⟨hk22, h⟩ | ⟨hk22, h⟩
  · try simp only [go_sem, n1, n2, n3, n4] at hk22
    all_goals
    obtain ⟨y_23, hk23, h⟩ := bd_some h
    have fhk23 := Fs_spec_l00Src_one hk23
    try simp only [go_sem, hk22] at fhk23
    rcases it_some h with ⟨hk24, h⟩ | ⟨hk24, h⟩
    · try simp only [go_sem, n1, n2, n3, n4, hk22] at hk24
      all_goals
      obtain ⟨y_25, hk25, h⟩ := bd_some h
      have fhk25 := Fs_spec_l00Src_pick hk25
      try simp only [go_sem, hk22, hk24] at fhk25
      obtain ⟨hk26, h⟩ := ck_some h
      have lhk26 := ix_lt hk26
      have xhk26 := getD_mapD Fault_av y_21.2 lhk26
      try simp only [go_sem] at lhk26
      try simp only [go_sem] at xhk26
      try simp only [go_sem, n1, n2, n3, n4, hk22, hk24] at hk26
      all_goals
      obtain ⟨y_27, hk27, h⟩ := bd_some h
      have fhk27 := Fs_spec_l00Src_among hk27
      try simp only [go_sem, hk22, hk24, hk26] at fhk27
      obtain ⟨y_28, hk28, h⟩ := bd_some h
      have fhk28 := Fs_spec_l00Src_among hk28
      try simp only [go_sem, hk22, hk24, hk26] at fhk28
      obtain rfl := so_some h
      refine ⟨Lhk21, fun L hL => ?_⟩
      have ehk21 := ehk21 L (by omega)
      try simp only [go_sem, E_spec_l26Draw_l1, R_spec_l26Draw_l1, ir42_k0, ir42_o0, ir42_r0, hk22, hk24, hk26] at ehk21
      simp only [go_sem, ir42, E_spec_l26Draw_l1, R_spec_l26Draw_l1, ir42_k0, ir42_o0, ir42_r0, hk22, fhk23, hk24, fhk25, hk26, lhk26, xhk26, fhk27, fhk28, ehk21]
    · try simp only [go_sem, n1, n2, n3, n4, hk22] at hk24
      all_goals
      obtain rfl := so_some h
      refine ⟨Lhk21, fun L hL => ?_⟩
      have ehk21 := ehk21 L (by omega)
      try simp only [go_sem, E_spec_l26Draw_l1, R_spec_l26Draw_l1, ir42_k0, ir42_o0, ir42_r0, hk22, hk24] at ehk21
      simp only [go_sem, ir42, E_spec_l26Draw_l1, R_spec_l26Draw_l1, ir42_k0, ir42_o0, ir42_r0, hk22, fhk23, hk24, ehk21]
  · try simp only [go_sem, n1, n2, n3, n4] at hk22
    all_goals
    obtain rfl := so_some h
    refine ⟨Lhk21, fun L hL => ?_⟩
    have ehk21 := ehk21 L (by omega)
    try simp only [go_sem, E_spec_l26Draw_l1, R_spec_l26Draw_l1, ir42_k0, ir42_o0, ir42_r0, hk22] at ehk21
    simp only [go_sem, ir42, E_spec_l26Draw_l1, R_spec_l26Draw_l1, ir42_k0, ir42_o0, ir42_r0, hk22, ehk21]


def ir10_v : List Nat := [0, 2]
def ir10 : AFn := ⟨1, 2, .seq (.region false [
    ⟨.var 1, 2, none, .newnil 2⟩])
 (.seq (.region false [
    ⟨.push, 3, none, .mov (.v 0)⟩,
    ⟨.push, 4, none, .call 36 [(.s 0)]⟩,
    ⟨.push, 5, none, .call 42 [(.s 0), (.c (.int .i64 (12)))]⟩,
    ⟨.var 1, 2, none, .mov (.s 0)⟩])
 (.ret)), [.t 1]⟩
noncomputable def t_spec_DrawCountFaults : List (Nat × Ctr) := [(36, c_spec_l00From), (42, c_spec_l26Draw)]
theorem lk_spec_DrawCountFaults_36 : look t_spec_DrawCountFaults 36 = some c_spec_l00From := rfl
theorem lk_spec_DrawCountFaults_42 : look t_spec_DrawCountFaults 42 = some c_spec_l26Draw := rfl
noncomputable def c_spec_DrawCountFaults : Ctr := mkF t_spec_DrawCountFaults ir10 [.bor]
theorem s_spec_DrawCountFaults : Sound Try.prog 10 c_spec_DrawCountFaults := mkF_sound _ rfl (snd_cons s_spec_l00From (snd_cons s_spec_l26Draw snd_nil)) (by kernel_rfl : chkFn Try.prog 10 ir10 ir10_v = true)
theorem M_spec_DrawCountFaults : c_spec_DrawCountFaults.modes = [.bor] := rfl
theorem Fl_spec_DrawCountFaults : c_spec_DrawCountFaults.flat = true := rfl
attribute [go_sem] M_spec_DrawCountFaults Fl_spec_DrawCountFaults
attribute [go_sem] lk_spec_DrawCountFaults_36 lk_spec_DrawCountFaults_42
theorem Fs_spec_DrawCountFaults {code : List UInt8} {y_ : (List Fault)} (h : spec_DrawCountFaults code = some y_) : c_spec_DrawCountFaults.F [.sl 1 (List.map byteAV code)] = ⟨true, .fresh 2 (List.map Fault_av y_), [.any]⟩ := by
  refine mkF_E (by simp only [flatA, flatB, flat1, List.all_cons, List.all_nil, Bool.and_self, flatE_map (f := Fault_av) (fun _ => rfl)]) ?_
  dsimp only [spec_DrawCountFaults] at h
  obtain ⟨y_1, hk1, h⟩ := bd_some h
  have fhk1 := Fs_spec_l00From hk1
  try simp only [go_sem] at fhk1
  obtain ⟨y_2, hk2, h⟩ := bd_some h
  have fhk2 := Fs_spec_l26Draw hk2
  try simp only [go_sem] at fhk2
  obtain rfl := so_some h
  refine ⟨0, fun L hL => ?_⟩
  simp only [go_sem, ir10, fhk1, fhk2]


def ir43_b0 : IR := .seq (.region false [
    ⟨.var 8, 10, none, .bin false .lss (.v 7) (.v 6)⟩])
 (.seq (.cond (.v 8) (.skip)
  (.exit 0))
 (.seq (.block 1 (.seq (.region false [
      ⟨.push, 11, none, .mov (.v 7)⟩,
      ⟨.push, 12, none, .ixAddr 2 (.v 5) (.v 7)⟩,
      ⟨.push, 13, none, .load true 2 (.s 0)⟩,
      ⟨.var 4, 6, none, .alloc (.agg [.int .i64 (0), .int .i64 (0)])⟩,
      ⟨.var 3, 5, none, .mov (.s 2)⟩,
      ⟨.no, 0, none, .store 2 (.v 4) (.s 0)⟩])
   (.seq (.test false [
      ⟨.push, 14, none, .fldAddr 0 (.v 4)⟩,
      ⟨.push, 15, none, .load false 1 (.s 0)⟩,
      ⟨.push, 16, none, .mov (.v 1)⟩,
      ⟨.push, 17, none, .bin false .sub (.s 0) (.c (.int .i64 (1)))⟩,
      ⟨.push, 18, none, .call 40 [(.s 2), (.c (.int .i64 (0))), (.s 0)]⟩,
      ⟨.push, 19, none, .un .not (.s 0)⟩,
      ⟨.push, 20, none, .mov (.s 0)⟩,
      ⟨.push, 21, (some ((.s 0), false)), .fldAddr 1 (.v 4)⟩,
      ⟨.push, 22, (some ((.s 1), false)), .load false 1 (.s 0)⟩,
      ⟨.push, 23, (some ((.s 2), false)), .call 40 [(.s 0), (.c (.int .i64 (1))), (.c (.int .i64 (5)))]⟩,
      ⟨.push, 24, (some ((.s 3), false)), .un .not (.s 0)⟩,
      ⟨.push, 25, none, .pick (.s 4) (.c (.bool true)) (.s 0)⟩] (.s 0)
    (.seq (.region false [
        ⟨.var 2, 4, none, .mov (.c (.bool false))⟩])
     (.ret))
    (.skip))
   (.anyo 35 [
     ⟨.slot 0, 26, none, .mov (.v 3)⟩,
     ⟨.slot 1, 27, none, .bin false .gtr (.s 0) (.c (.int .i64 (0)))⟩,
     ⟨.slot 2, 28, none, .mov (.s 1)⟩,
     ⟨.slot 3, 29, (some ((.s 2), true)), .mov (.v 0)⟩,
     ⟨.slot 4, 30, (some ((.s 2), true)), .mov (.v 3)⟩,
     ⟨.slot 5, 31, (some ((.s 2), true)), .bin false .sub (.s 4) (.c (.int .i64 (1)))⟩,
     ⟨.slot 6, 32, (some ((.s 2), true)), .ixAddr 2 (.s 3) (.s 5)⟩,
     ⟨.slot 7, 33, (some ((.s 2), true)), .fldAddr 0 (.s 6)⟩,
     ⟨.slot 8, 34, (some ((.s 2), true)), .load false 1 (.s 7)⟩,
     ⟨.slot 9, 35, (some ((.s 2), true)), .fldAddr 0 (.v 4)⟩,
     ⟨.slot 10, 36, (some ((.s 2), true)), .load false 1 (.s 9)⟩,
     ⟨.slot 11, 37, (some ((.s 2), true)), .bin false .gtr (.s 8) (.s 10)⟩,
     ⟨.slot 12, 38, (some ((.s 2), true)), .mov (.s 11)⟩,
     ⟨.slot 13, 39, (some ((.s 12), false)), .mov (.v 0)⟩,
     ⟨.slot 14, 40, (some ((.s 12), false)), .mov (.v 3)⟩,
     ⟨.slot 15, 41, (some ((.s 12), false)), .bin false .sub (.s 14) (.c (.int .i64 (1)))⟩,
     ⟨.slot 16, 42, (some ((.s 12), false)), .ixAddr 2 (.s 13) (.s 15)⟩,
     ⟨.slot 17, 43, (some ((.s 12), false)), .fldAddr 0 (.s 16)⟩,
     ⟨.slot 18, 44, (some ((.s 12), false)), .load false 1 (.s 17)⟩,
     ⟨.slot 19, 45, (some ((.s 12), false)), .fldAddr 0 (.v 4)⟩,
     ⟨.slot 20, 46, (some ((.s 12), false)), .load false 1 (.s 19)⟩,
     ⟨.slot 21, 47, (some ((.s 12), false)), .bin false .eql (.s 18) (.s 20)⟩,
     ⟨.slot 22, 48, (some ((.s 12), false)), .mov (.s 21)⟩,
     ⟨.slot 23, 49, (some ((.s 22), true)), .mov (.v 0)⟩,
     ⟨.slot 24, 50, (some ((.s 22), true)), .mov (.v 3)⟩,
     ⟨.slot 25, 51, (some ((.s 22), true)), .bin false .sub (.s 24) (.c (.int .i64 (1)))⟩,
     ⟨.slot 26, 52, (some ((.s 22), true)), .ixAddr 2 (.s 23) (.s 25)⟩,
     ⟨.slot 27, 53, (some ((.s 22), true)), .fldAddr 1 (.s 26)⟩,
     ⟨.slot 28, 54, (some ((.s 22), true)), .load false 1 (.s 27)⟩,
     ⟨.slot 29, 55, (some ((.s 22), true)), .fldAddr 1 (.v 4)⟩,
     ⟨.slot 30, 56, (some ((.s 22), true)), .load false 1 (.s 29)⟩,
     ⟨.slot 31, 57, (some ((.s 22), true)), .bin false .geq (.s 28) (.s 30)⟩,
     ⟨.slot 32, 58, (some ((.s 12), false)), .pick (.s 22) (.s 31) (.c (.bool false))⟩,
     ⟨.slot 33, 59, (some ((.s 2), true)), .pick (.s 12) (.c (.bool true)) (.s 32)⟩,
     ⟨.slot 34, 60, none, .pick (.s 2) (.s 33) (.c (.bool false))⟩] [] (.cond (.s 34)
   (.seq (.region false [
       ⟨.var 2, 4, none, .mov (.c (.bool false))⟩])
    (.ret))
   (.skip))))))
 (.region false [
   ⟨.push, 61, none, .bin false .add (.v 7) (.c (.int .i64 (1)))⟩,
   ⟨.var 7, 9, none, .mov (.s 0)⟩])))
def ir43_k0 : List Bool := [true, true, false, false, false, true, true, true, false]
def ir43_o0 : List Bool := [false, false, false, false, false, false, false, false, false]
def ir43_r0 : List Bool := [false, false, true, false, false, false, false, false, false]
def ir43_v : List Nat := [0, 1, 4, 5, 6, 7, 8, 9, 10]
def ir43 : AFn := ⟨2, 9, .seq (.region false [
    ⟨.var 2, 4, none, .mov (.c (.bool false))⟩])
 (.seq (.seq (.region false [
     ⟨.var 5, 7, none, .mov (.v 0)⟩,
     ⟨.var 6, 8, none, .len false (.v 5)⟩,
     ⟨.var 7, 9, none, .mov (.c (.int .i64 (0)))⟩])
  (.block 0 (.loop ir43_k0 ir43_o0 ir43_r0 ir43_b0)))
 (.seq (.region false [
    ⟨.var 2, 4, none, .mov (.c (.bool true))⟩])
 (.ret))), [.t 2]⟩
noncomputable def t_impl_ordered : List (Nat × Ctr) := [(40, c_impl_in)]
theorem lk_impl_ordered_40 : look t_impl_ordered 40 = some c_impl_in := rfl
noncomputable def c_impl_ordered : Ctr := mkF t_impl_ordered ir43 [.bor, .bor]
theorem s_impl_ordered : Sound Try.prog 43 c_impl_ordered := mkF_sound _ rfl (snd_cons s_impl_in snd_nil) (by kernel_rfl : chkFn Try.prog 43 ir43 ir43_v = true)
theorem M_impl_ordered : c_impl_ordered.modes = [.bor, .bor] := rfl
theorem Fl_impl_ordered : c_impl_ordered.flat = true := rfl
attribute [go_sem] M_impl_ordered Fl_impl_ordered
attribute [go_sem] lk_impl_ordered_40
def E_impl_ordered_l1 (faults : List Fault) (estimates : Int) (t7 : List Fault) (t8 : Int) : Int → St
  | t9 => ⟨[.sl 2 (List.map Fault_av faults), .int .i64 estimates, .any, .any, .any, .sl 2 (List.map Fault_av t7), .int .i64 t8, .int .i64 t9, .any], [], [], true⟩
def R_impl_ordered_l1 (faults : List Fault) (estimates : Int) (t7 : List Fault) (t8 : Int) : (Unit ⊕ Bool) → Res
  | .inl y => (.exit 0, ⟨[.any, .any, .any, .any, .any, .any, .any, .any, .any], [], [], true⟩)
  | .inr y => (.ret, ⟨[.any, .any, .bool y, .any, .any, .any, .any, .any, .any], [], [], true⟩)
theorem impl_ordered_l1_ex {faults : List Fault} {estimates : Int} {t7 : List Fault} {t8 : Int} {sgm_ : Int} {rho_ : Unit ⊕ Bool} (h : whileE (impl_ordered_l1 faults estimates t7 t8) sgm_ = some rho_) : ∃ L0, ∀ L, L0 ≤ L → iter (exec (look t_impl_ordered) L ir43_b0) ir43_k0 ir43_o0 ir43_r0 L (E_impl_ordered_l1 faults estimates t7 t8 sgm_) = R_impl_ordered_l1 faults estimates t7 t8 rho_ := by
  refine loop_ex (E := E_impl_ordered_l1 faults estimates t7 t8) (R := R_impl_ordered_l1 faults estimates t7 t8) (fun y => by first | (intro c; cases c) | (rcases y with y | y <;> (intro c; cases c)) | (rcases y with y | y | y <;> (intro c; cases c))) ?_ h
  clear h
  intro t9 o_ h
  dsimp only [impl_ordered_l1] at h
  rcases it_some h with ⟨hk1, h⟩ | ⟨hk1, h⟩
  · try simp only [go_sem, n1, n2, n3, n4] at hk1
    all_goals
    obtain ⟨hk2, h⟩ := ck_some h
    have lhk2 := ix_lt hk2
    have xhk2 := getD_mapD Fault_av t7 lhk2
    try simp only [go_sem] at lhk2
    try simp only [go_sem] at xhk2
    try simp only [go_sem, n1, n2, n3, n4, hk1] at hk2
    all_goals
    obtain ⟨y_3, hk3, h⟩ := bd_some h
    have fhk3 := Fs_impl_in hk3
    try simp only [go_sem, hk1, hk2] at fhk3
    obtain ⟨hk4, h⟩ := ck_some h
    rcases or_split hk4 with ⟨ghk4, hk4⟩ | ghk4
    · try simp only [go_sem, n1, n2, n3, n4, hk1, hk2] at ghk4
      all_goals
      obtain ⟨y_4, hhk4⟩ := Option.isSome_iff_exists.1 hk4
      have fhk4 := Fs_impl_in hhk4
      try simp only [go_sem, n1, n2, n3, n4, hk1, hk2, ghk4] at hhk4
      all_goals
      try simp only [go_sem, hk1, hk2, ghk4] at fhk4
      rcases it_some h with ⟨hk5, h⟩ | ⟨hk5, h⟩
      · try simp only [go_sem, n1, n2, n3, n4, hk1, hk2, ghk4, hhk4] at hk5
        all_goals
        obtain rfl := so_some h
        refine ⟨0, fun L hL => ?_⟩
        simp only [go_sem, ir43, E_impl_ordered_l1, R_impl_ordered_l1, ir43_b0, ir43_k0, ir43_o0, ir43_r0, hk1, hk2, lhk2, xhk2, fhk3, ghk4, hhk4, fhk4, hk5]
      · try simp only [go_sem, n1, n2, n3, n4, hk1, hk2, ghk4, hhk4] at hk5
        all_goals
        obtain ⟨hk6, h⟩ := ck_some h
        rcases or_split hk6 with ⟨ghk6, hk6⟩ | ghk6
        · try simp only [go_sem, n1, n2, n3, n4, hk1, hk2, ghk4, hhk4, hk5] at ghk6
          all_goals
          have lhk6 := ix_lt hk6
          have xhk6 := getD_mapD Fault_av faults lhk6
          try simp only [go_sem] at lhk6
          try simp only [go_sem] at xhk6
          try simp only [go_sem, n1, n2, n3, n4, hk1, hk2, ghk4, hhk4, hk5, ghk6] at hk6
          all_goals
          obtain ⟨hk7, h⟩ := ck_some h
          rcases or_split hk7 with ⟨ghk7, hk7⟩ | ghk7
          · try simp only [go_sem, n1, n2, n3, n4, hk1, hk2, ghk4, hhk4, hk5, ghk6, hk6] at ghk7
            all_goals
            have lhk7 := ix_lt hk7
            have xhk7 := getD_mapD Fault_av faults lhk7
            try simp only [go_sem] at lhk7
            try simp only [go_sem] at xhk7
            try simp only [go_sem, n1, n2, n3, n4, hk1, hk2, ghk4, hhk4, hk5, ghk6, hk6, ghk7] at hk7
            all_goals
            obtain ⟨hk8, h⟩ := ck_some h
            rcases or_split hk8 with ⟨ghk8, hk8⟩ | ghk8
            · try simp only [go_sem, n1, n2, n3, n4, hk1, hk2, ghk4, hhk4, hk5, ghk6, hk6, ghk7, hk7] at ghk8
              all_goals
              have lhk8 := ix_lt hk8
              have xhk8 := getD_mapD Fault_av faults lhk8
              try simp only [go_sem] at lhk8
              try simp only [go_sem] at xhk8
              try simp only [go_sem, n1, n2, n3, n4, hk1, hk2, ghk4, hhk4, hk5, ghk6, hk6, ghk7, hk7, ghk8] at hk8
              all_goals
              rcases it_some h with ⟨hk9, h⟩ | ⟨hk9, h⟩
              · try simp only [go_sem, n1, n2, n3, n4, hk1, hk2, ghk4, hhk4, hk5, ghk6, hk6, ghk7, hk7, ghk8, hk8] at hk9
                all_goals
                obtain rfl := so_some h
                refine ⟨0, fun L hL => ?_⟩
                simp only [go_sem, ir43, E_impl_ordered_l1, R_impl_ordered_l1, ir43_b0, ir43_k0, ir43_o0, ir43_r0, hk1, hk2, lhk2, xhk2, fhk3, ghk4, hhk4, fhk4, hk5, ghk6, hk6, lhk6, xhk6, ghk7, hk7, lhk7, xhk7, ghk8, hk8, lhk8, xhk8, hk9]
              · try simp only [go_sem, n1, n2, n3, n4, hk1, hk2, ghk4, hhk4, hk5, ghk6, hk6, ghk7, hk7, ghk8, hk8] at hk9
                all_goals
                obtain rfl := so_some h
                refine ⟨0, fun L hL => ?_⟩
                simp only [go_sem, ir43, E_impl_ordered_l1, R_impl_ordered_l1, ir43_b0, ir43_k0, ir43_o0, ir43_r0, hk1, hk2, lhk2, xhk2, fhk3, ghk4, hhk4, fhk4, hk5, ghk6, hk6, lhk6, xhk6, ghk7, hk7, lhk7, xhk7, ghk8, hk8, lhk8, xhk8, hk9]
            · rcases and_f ghk8 with ghk8a | ⟨ghk8a, ghk8b⟩
              · try simp only [go_sem, n1, n2, n3, n4, hk1, hk2, ghk4, hhk4, hk5, ghk6, hk6, ghk7, hk7] at ghk8a
                all_goals
                (simp_all)
              · obtain ⟨ghk8aa, ghk8ab⟩ := and_t ghk8a
                have ghk8abn := no_t ghk8ab
                try simp only [go_sem, n1, n2, n3, n4, hk1, hk2, ghk4, hhk4, hk5, ghk6, hk6, ghk7, hk7] at ghk8aa
                all_goals
                try simp only [go_sem, n1, n2, n3, n4, hk1, hk2, ghk4, hhk4, hk5, ghk6, hk6, ghk7, hk7, ghk8aa] at ghk8abn
                all_goals
                try simp only [go_sem, n1, n2, n3, n4, hk1, hk2, ghk4, hhk4, hk5, ghk6, hk6, ghk7, hk7, ghk8aa, ghk8abn] at ghk8b
                all_goals
                rcases it_some h with ⟨hk9, h⟩ | ⟨hk9, h⟩
                · try simp only [go_sem, n1, n2, n3, n4, hk1, hk2, ghk4, hhk4, hk5, ghk6, hk6, ghk7, hk7, ghk8aa, ghk8abn, ghk8b] at hk9
                  all_goals
                  (simp_all)
                · try simp only [go_sem, n1, n2, n3, n4, hk1, hk2, ghk4, hhk4, hk5, ghk6, hk6, ghk7, hk7, ghk8aa, ghk8abn, ghk8b] at hk9
                  all_goals
                  obtain rfl := so_some h
                  refine ⟨0, fun L hL => ?_⟩
                  simp only [go_sem, ir43, E_impl_ordered_l1, R_impl_ordered_l1, ir43_b0, ir43_k0, ir43_o0, ir43_r0, hk1, hk2, lhk2, xhk2, fhk3, ghk4, hhk4, fhk4, hk5, ghk6, hk6, lhk6, xhk6, ghk7, hk7, lhk7, xhk7, ghk8aa, ghk8abn, ghk8b, hk9]
          · rcases and_f ghk7 with ghk7a | ⟨ghk7a, ghk7b⟩
            · try simp only [go_sem, n1, n2, n3, n4, hk1, hk2, ghk4, hhk4, hk5, ghk6, hk6] at ghk7a
              all_goals
              (simp_all)
            · have ghk7bn := no_f ghk7b
              try simp only [go_sem, n1, n2, n3, n4, hk1, hk2, ghk4, hhk4, hk5, ghk6, hk6] at ghk7a
              all_goals
              try simp only [go_sem, n1, n2, n3, n4, hk1, hk2, ghk4, hhk4, hk5, ghk6, hk6, ghk7a] at ghk7bn
              all_goals
              obtain ⟨hk8, h⟩ := ck_some h
              rcases it_some h with ⟨hk9, h⟩ | ⟨hk9, h⟩
              · try simp only [go_sem, n1, n2, n3, n4, hk1, hk2, ghk4, hhk4, hk5, ghk6, hk6, ghk7a, ghk7bn] at hk9
                all_goals
                obtain rfl := so_some h
                refine ⟨0, fun L hL => ?_⟩
                simp only [go_sem, ir43, E_impl_ordered_l1, R_impl_ordered_l1, ir43_b0, ir43_k0, ir43_o0, ir43_r0, hk1, hk2, lhk2, xhk2, fhk3, ghk4, hhk4, fhk4, hk5, ghk6, hk6, lhk6, xhk6, ghk7a, ghk7bn, hk9]
              · try simp only [go_sem, n1, n2, n3, n4, hk1, hk2, ghk4, hhk4, hk5, ghk6, hk6, ghk7a, ghk7bn] at hk9
                all_goals
                (simp_all)
        · try simp only [go_sem, n1, n2, n3, n4, hk1, hk2, ghk4, hhk4, hk5] at ghk6
          all_goals
          obtain ⟨hk7, h⟩ := ck_some h
          obtain ⟨hk8, h⟩ := ck_some h
          rcases it_some h with ⟨hk9, h⟩ | ⟨hk9, h⟩
          · try simp only [go_sem, n1, n2, n3, n4, hk1, hk2, ghk4, hhk4, hk5, ghk6] at hk9
            all_goals
            (simp_all)
          · try simp only [go_sem, n1, n2, n3, n4, hk1, hk2, ghk4, hhk4, hk5, ghk6] at hk9
            all_goals
            obtain rfl := so_some h
            refine ⟨0, fun L hL => ?_⟩
            simp only [go_sem, ir43, E_impl_ordered_l1, R_impl_ordered_l1, ir43_b0, ir43_k0, ir43_o0, ir43_r0, hk1, hk2, lhk2, xhk2, fhk3, ghk4, hhk4, fhk4, hk5, ghk6, hk9]
    · have ghk4n := no_f ghk4
      have ghk4nn := no_t ghk4n
      try simp only [go_sem, n1, n2, n3, n4, hk1, hk2] at ghk4nn
      all_goals
      rcases it_some h with ⟨hk5, h⟩ | ⟨hk5, h⟩
      · try simp only [go_sem, n1, n2, n3, n4, hk1, hk2, ghk4nn] at hk5
        all_goals
        obtain rfl := so_some h
        refine ⟨0, fun L hL => ?_⟩
        simp only [go_sem, ir43, E_impl_ordered_l1, R_impl_ordered_l1, ir43_b0, ir43_k0, ir43_o0, ir43_r0, hk1, hk2, lhk2, xhk2, fhk3, ghk4nn, hk5]
      · try simp only [go_sem, n1, n2, n3, n4, hk1, hk2, ghk4nn] at hk5
        all_goals
        (simp_all)
  · try simp only [go_sem, n1, n2, n3, n4] at hk1
    all_goals
    obtain rfl := so_some h
    refine ⟨0, fun L hL => ?_⟩
    simp only [go_sem, ir43, E_impl_ordered_l1, R_impl_ordered_l1, ir43_b0, ir43_k0, ir43_o0, ir43_r0, hk1]

theorem Fs_impl_ordered {faults : List Fault} {estimates : Int} {y_ : Bool} (h : impl_ordered faults estimates = some y_) : c_impl_ordered.F [.sl 2 (List.map Fault_av faults), .int .i64 estimates] = ⟨true, .bool y_, [.any, .any]⟩ := by
  refine mkF_E rfl ?_
  dsimp only [impl_ordered] at h
  obtain ⟨y_10, hk10, h⟩ := bd_some h
  obtain ⟨Lhk10, ehk10⟩ := impl_ordered_l1_ex hk10
  rcases y_10 with y_10a | y_10b
  · dsimp only at h
    obtain rfl := so_some h
    refine ⟨Lhk10, fun L hL => ?_⟩
    have ehk10 := ehk10 L (by omega)
    try simp only [go_sem, E_impl_ordered_l1, R_impl_ordered_l1, ir43_k0, ir43_o0, ir43_r0] at ehk10
    simp only [go_sem, ir43, E_impl_ordered_l1, R_impl_ordered_l1, ir43_k0, ir43_o0, ir43_r0, ehk10]
  · dsimp only at h
    obtain rfl := so_some h
    refine ⟨Lhk10, fun L hL => ?_⟩
    have ehk10 := ehk10 L (by omega)
    try simp only [go_sem, E_impl_ordered_l1, R_impl_ordered_l1, ir43_k0, ir43_o0, ir43_r0] at ehk10
    simp only [go_sem, ir43, E_impl_ordered_l1, R_impl_ordered_l1, ir43_k0, ir43_o0, ir43_r0, ehk10]


def ir11_b0 : IR := .seq (.region false [
    ⟨.var 8, 14, none, .bin false .lss (.v 7) (.v 6)⟩])
 (.seq (.cond (.v 8) (.skip)
  (.exit 0))
 (.seq (.block 1 (.seq (.region false [
      ⟨.push, 15, none, .ixAddr 2 (.v 5) (.v 7)⟩,
      ⟨.push, 16, none, .load true 2 (.s 0)⟩,
      ⟨.var 4, 6, none, .alloc (.agg [.int .i64 (0), .int .i64 (0)])⟩,
      ⟨.no, 0, none, .store 2 (.v 4) (.s 0)⟩])
   (.region false [
     ⟨.push, 17, none, .mov (.v 3)⟩,
     ⟨.push, 18, none, .fldAddr 1 (.v 4)⟩,
     ⟨.push, 19, none, .load false 1 (.s 0)⟩,
     ⟨.push, 20, none, .bin false .sub (.s 0) (.c (.int .i64 (1)))⟩,
     ⟨.push, 21, none, .ixAddr 1 (.s 3) (.s 0)⟩,
     ⟨.push, 22, none, .load false 1 (.s 0)⟩,
     ⟨.push, 23, none, .bin false .add (.s 0) (.c (.int .i64 (1)))⟩,
     ⟨.push, 24, none, .ixAddr 1 (.s 6) (.s 3)⟩,
     ⟨.no, 0, none, .store 1 (.s 0) (.s 1)⟩])))
 (.region false [
   ⟨.push, 25, none, .bin false .add (.v 7) (.c (.int .i64 (1)))⟩,
   ⟨.var 7, 13, none, .mov (.s 0)⟩])))
def ir11_k0 : List Bool := [false, false, false, true, false, true, true, true, false]
def ir11_o0 : List Bool := [false, false, false, true, false, false, false, false, false]
def ir11_r0 : List Bool := [false, true, true, false, false, false, false, false, false]
def ir11_v : List Nat := [0, 2, 3, 4, 6, 11, 12, 13, 14]
def ir11 : AFn := ⟨1, 9, .seq (.region false [
    ⟨.var 1, 2, none, .newnil 1⟩,
    ⟨.var 2, 3, none, .mov (.c (.int .i64 (0)))⟩])
 (.seq (.test false [
    ⟨.push, 7, none, .mov (.v 0)⟩,
    ⟨.push, 8, none, .call 43 [(.s 0), (.c (.int .i64 (100)))]⟩,
    ⟨.push, 9, none, .un .not (.s 0)⟩] (.s 0)
  (.seq (.region false [
      ⟨.var 1, 2, none, .newnil 1⟩,
      ⟨.var 2, 3, none, .mov (.c (.int .i64 (2)))⟩])
   (.ret))
  (.skip))
 (.seq (.region false [
    ⟨.push, 10, none, .make 1 8 (.int .i64 (0)) (.c (.int .i64 (5))) (.c (.int .i64 (5)))⟩,
    ⟨.var 3, 4, none, .mov (.s 0)⟩])
 (.seq (.seq (.region false [
     ⟨.var 5, 11, none, .mov (.v 0)⟩,
     ⟨.var 6, 12, none, .len false (.v 5)⟩,
     ⟨.var 7, 13, none, .mov (.c (.int .i64 (0)))⟩])
  (.block 0 (.loop ir11_k0 ir11_o0 ir11_r0 ir11_b0)))
 (.seq (.region false [
    ⟨.push, 26, none, .mov (.v 3)⟩,
    ⟨.var 1, 2, none, .mov (.s 0)⟩,
    ⟨.var 2, 3, none, .mov (.c (.int .i64 (0)))⟩])
 (.ret))))), [.t 1, .t 2]⟩
noncomputable def t_impl_CountFaults : List (Nat × Ctr) := [(43, c_impl_ordered)]
theorem lk_impl_CountFaults_43 : look t_impl_CountFaults 43 = some c_impl_ordered := rfl
noncomputable def c_impl_CountFaults : Ctr := mkF t_impl_CountFaults ir11 [.bor]
theorem s_impl_CountFaults : Sound Try.prog 11 c_impl_CountFaults := mkF_sound _ rfl (snd_cons s_impl_ordered snd_nil) (by kernel_rfl : chkFn Try.prog 11 ir11 ir11_v = true)
theorem M_impl_CountFaults : c_impl_CountFaults.modes = [.bor] := rfl
theorem Fl_impl_CountFaults : c_impl_CountFaults.flat = true := rfl
attribute [go_sem] M_impl_CountFaults Fl_impl_CountFaults
attribute [go_sem] lk_impl_CountFaults_43
def E_impl_CountFaults_l1 (t11 : List Fault) (t12 : Int) : ((List Int) × Int) → St
  | (out, t13) => ⟨[.any, .any, .any, .own 3200000, .any, .sl 2 (List.map Fault_av t11), .int .i64 t12, .int .i64 t13, .any], [], [(3200000, ⟨1, List.map (AV.int .i64) out⟩)], true⟩
def R_impl_CountFaults_l1 (t11 : List Fault) (t12 : Int) (y : (List Int)) : Res := (.exit 0, ⟨[.any, .any, .any, .own 3200000, .any, .any, .any, .any, .any], [], [(3200000, ⟨1, List.map (AV.int .i64) y⟩)], true⟩)
theorem impl_CountFaults_l1_ex {t11 : List Fault} {t12 : Int} {sgm_ : (List Int) × Int} {rho_ : (List Int)} (h : whileE (impl_CountFaults_l1 t11 t12) sgm_ = some rho_) : ∃ L0, ∀ L, L0 ≤ L → iter (exec (look t_impl_CountFaults) L ir11_b0) ir11_k0 ir11_o0 ir11_r0 L (E_impl_CountFaults_l1 t11 t12 sgm_) = R_impl_CountFaults_l1 t11 t12 rho_ := by
  refine loop_ex (E := E_impl_CountFaults_l1 t11 t12) (R := R_impl_CountFaults_l1 t11 t12) (fun y => by first | (intro c; cases c) | (rcases y with y | y <;> (intro c; cases c)) | (rcases y with y | y | y <;> (intro c; cases c))) ?_ h
  clear h
  rintro ⟨out, t13⟩ o_ h
  dsimp only [impl_CountFaults_l1] at h
  rcases it_some h with ⟨hk4, h⟩ | ⟨hk4, h⟩
  · try simp only [go_sem, n1, n2, n3, n4] at hk4
    all_goals
    obtain ⟨hk5, h⟩ := ck_some h
    have lhk5 := ix_lt hk5
    have xhk5 := getD_mapD Fault_av t11 lhk5
    try simp only [go_sem] at lhk5
    try simp only [go_sem] at xhk5
    try simp only [go_sem, n1, n2, n3, n4, hk4] at hk5
    all_goals
    obtain ⟨hk6, h⟩ := ck_some h
    have lhk6 := ix_lt hk6
    have xhk6 := getD_mapD (AV.int .i64) out lhk6
    try simp only [go_sem] at lhk6
    try simp only [go_sem] at xhk6
    try simp only [go_sem, n1, n2, n3, n4, hk4, hk5] at hk6
    all_goals
    obtain rfl := so_some h
    refine ⟨0, fun L hL => ?_⟩
    simp only [go_sem, ir11, E_impl_CountFaults_l1, R_impl_CountFaults_l1, ir11_b0, ir11_k0, ir11_o0, ir11_r0, hk4, hk5, lhk5, xhk5, hk6, lhk6, xhk6]
  · try simp only [go_sem, n1, n2, n3, n4] at hk4
    all_goals
    obtain rfl := so_some h
    refine ⟨0, fun L hL => ?_⟩
    simp only [go_sem, ir11, E_impl_CountFaults_l1, R_impl_CountFaults_l1, ir11_b0, ir11_k0, ir11_o0, ir11_r0, hk4]

theorem Fs_impl_CountFaults {faults : List Fault} {y_ : (List Int) × Int} (h : impl_CountFaults faults = some y_) : c_impl_CountFaults.F [.sl 2 (List.map Fault_av faults)] = ⟨true, .tup [.fresh 1 (List.map (AV.int .i64) y_.1), .int .i64 y_.2], [.any]⟩ := by
  refine mkF_E (by simp only [flatA, flatB, flat1, List.all_cons, List.all_nil, Bool.and_self, flatE_map (f := (AV.int .i64)) (fun _ => rfl)]) ?_
  dsimp only [impl_CountFaults] at h
  obtain ⟨y_1, hk1, h⟩ := bd_some h
  have fhk1 := Fs_impl_ordered hk1
  try simp only [go_sem] at fhk1
  rcases it_some h with ⟨hk2, h⟩ | ⟨hk2, h⟩
  · try simp only [go_sem, n1, n2, n3, n4] at hk2
    all_goals
    obtain rfl := so_some h
    refine ⟨0, fun L hL => ?_⟩
    simp only [go_sem, ir11, E_impl_CountFaults_l1, R_impl_CountFaults_l1, ir11_k0, ir11_o0, ir11_r0, fhk1, hk2]
  · try simp only [go_sem, n1, n2, n3, n4] at hk2
    all_goals
    obtain ⟨hk3, h⟩ := ck_some h
    try simp only [go_sem, n1, n2, n3, n4, hk2] at hk3
    all_goals
    obtain ⟨y_7, hk7, h⟩ := bd_some h
    obtain ⟨Lhk7, ehk7⟩ := impl_CountFaults_l1_ex hk7
    obtain rfl := so_some h
    refine ⟨Lhk7, fun L hL => ?_⟩
    have ehk7 := ehk7 L (by omega)
    try simp only [go_sem, E_impl_CountFaults_l1, R_impl_CountFaults_l1, ir11_k0, ir11_o0, ir11_r0, hk2, hk3] at ehk7
    simp only [go_sem, ir11, E_impl_CountFaults_l1, R_impl_CountFaults_l1, ir11_k0, ir11_o0, ir11_r0, fhk1, hk2, hk3, ehk7]


def ir12_b0 : IR := .seq (.test false [
    ⟨.push, 10, none, .mov (.v 4)⟩,
    ⟨.push, 11, none, .mov (.v 0)⟩,
    ⟨.push, 12, none, .len false (.s 0)⟩,
    ⟨.push, 13, none, .bin false .lss (.s 2) (.s 0)⟩] (.s 0)
  (.skip)
  (.exit 0))
 (.seq (.block 1 (.region false [
     ⟨.push, 16, none, .mov (.v 3)⟩,
     ⟨.push, 17, none, .mov (.v 0)⟩,
     ⟨.push, 18, none, .mov (.v 4)⟩,
     ⟨.push, 19, none, .ixAddr 2 (.s 1) (.s 0)⟩,
     ⟨.push, 20, none, .fldAddr 1 (.s 0)⟩,
     ⟨.push, 21, none, .load false 1 (.s 0)⟩,
     ⟨.push, 22, none, .bin false .sub (.s 0) (.c (.int .i64 (1)))⟩,
     ⟨.push, 23, none, .ixAddr 1 (.s 6) (.s 0)⟩,
     ⟨.push, 24, none, .load false 1 (.s 0)⟩,
     ⟨.push, 25, none, .bin false .add (.s 0) (.c (.int .i64 (1)))⟩,
     ⟨.push, 26, none, .ixAddr 1 (.s 9) (.s 3)⟩,
     ⟨.no, 0, none, .store 1 (.s 0) (.s 1)⟩]))
 (.region false [
   ⟨.push, 14, none, .mov (.v 4)⟩,
   ⟨.push, 15, none, .bin false .add (.s 0) (.c (.int .i64 (1)))⟩,
   ⟨.var 4, 5, none, .mov (.s 0)⟩]))
def ir12_k0 : List Bool := [true, false, false, true, true]
def ir12_o0 : List Bool := [false, false, false, true, false]
def ir12_r0 : List Bool := [false, true, true, false, false]
def ir12_v : List Nat := [0, 2, 3, 4, 5]
def ir12 : AFn := ⟨1, 5, .seq (.region false [
    ⟨.var 1, 2, none, .newnil 1⟩,
    ⟨.var 2, 3, none, .mov (.c (.int .i64 (0)))⟩])
 (.seq (.test false [
    ⟨.push, 6, none, .mov (.v 0)⟩,
    ⟨.push, 7, none, .call 44 [(.s 0), (.c (.int .i64 (100)))]⟩,
    ⟨.push, 8, none, .un .not (.s 0)⟩] (.s 0)
  (.seq (.region false [
      ⟨.var 1, 2, none, .newnil 1⟩,
      ⟨.var 2, 3, none, .mov (.c (.int .i64 (2)))⟩])
   (.ret))
  (.skip))
 (.seq (.region false [
    ⟨.push, 9, none, .make 1 8 (.int .i64 (0)) (.c (.int .i64 (5))) (.c (.int .i64 (5)))⟩,
    ⟨.var 3, 4, none, .mov (.s 0)⟩])
 (.seq (.seq (.region false [
     ⟨.var 4, 5, none, .mov (.c (.int .i64 (0)))⟩])
  (.block 0 (.loop ir12_k0 ir12_o0 ir12_r0 ir12_b0)))
 (.seq (.region false [
    ⟨.push, 27, none, .mov (.v 3)⟩,
    ⟨.var 1, 2, none, .mov (.s 0)⟩,
    ⟨.var 2, 3, none, .mov (.c (.int .i64 (0)))⟩])
 (.ret))))), [.t 1, .t 2]⟩
noncomputable def t_spec_CountFaults : List (Nat × Ctr) := [(44, c_spec_l26Faults)]
theorem lk_spec_CountFaults_44 : look t_spec_CountFaults 44 = some c_spec_l26Faults := rfl
noncomputable def c_spec_CountFaults : Ctr := mkF t_spec_CountFaults ir12 [.bor]
theorem s_spec_CountFaults : Sound Try.prog 12 c_spec_CountFaults := mkF_sound _ rfl (snd_cons s_spec_l26Faults snd_nil) (by kernel_rfl : chkFn Try.prog 12 ir12 ir12_v = true)
theorem M_spec_CountFaults : c_spec_CountFaults.modes = [.bor] := rfl
theorem Fl_spec_CountFaults : c_spec_CountFaults.flat = true := rfl
attribute [go_sem] M_spec_CountFaults Fl_spec_CountFaults
attribute [go_sem] lk_spec_CountFaults_44
def E_spec_CountFaults_l1 (faults : List Fault) : ((List Int) × Int) → St
  | (out, i) => ⟨[.sl 2 (List.map Fault_av faults), .any, .any, .own 3200000, .int .i64 i], [], [(3200000, ⟨1, List.map (AV.int .i64) out⟩)], true⟩
def R_spec_CountFaults_l1 (faults : List Fault) (y : (List Int)) : Res := (.exit 0, ⟨[.any, .any, .any, .own 3200000, .any], [], [(3200000, ⟨1, List.map (AV.int .i64) y⟩)], true⟩)
theorem spec_CountFaults_l1_ex {faults : List Fault} {sgm_ : (List Int) × Int} {rho_ : (List Int)} (h : whileE (spec_CountFaults_l1 faults) sgm_ = some rho_) : ∃ L0, ∀ L, L0 ≤ L → iter (exec (look t_spec_CountFaults) L ir12_b0) ir12_k0 ir12_o0 ir12_r0 L (E_spec_CountFaults_l1 faults sgm_) = R_spec_CountFaults_l1 faults rho_ := by
  refine loop_ex (E := E_spec_CountFaults_l1 faults) (R := R_spec_CountFaults_l1 faults) (fun y => by first | (intro c; cases c) | (rcases y with y | y <;> (intro c; cases c)) | (rcases y with y | y | y <;> (intro c; cases c))) ?_ h
  clear h
  rintro ⟨out, i⟩ o_ h
  dsimp only [spec_CountFaults_l1] at h
  rcases it_some h with ⟨hk4, h⟩ | ⟨hk4, h⟩
  · try simp only [go_sem, n1, n2, n3, n4] at hk4
    all_goals
    obtain ⟨hk5, h⟩ := ck_some h
    have lhk5 := ix_lt hk5
    have xhk5 := getD_mapD Fault_av faults lhk5
    try simp only [go_sem] at lhk5
    try simp only [go_sem] at xhk5
    try simp only [go_sem, n1, n2, n3, n4, hk4] at hk5
    all_goals
    obtain ⟨hk6, h⟩ := ck_some h
    have lhk6 := ix_lt hk6
    have xhk6 := getD_mapD (AV.int .i64) out lhk6
    try simp only [go_sem] at lhk6
    try simp only [go_sem] at xhk6
    try simp only [go_sem, n1, n2, n3, n4, hk4, hk5] at hk6
    all_goals
    obtain rfl := so_some h
    refine ⟨0, fun L hL => ?_⟩
    simp only [go_sem, ir12, E_spec_CountFaults_l1, R_spec_CountFaults_l1, ir12_b0, ir12_k0, ir12_o0, ir12_r0, hk4, hk5, lhk5, xhk5, hk6, lhk6, xhk6]
  · try simp only [go_sem, n1, n2, n3, n4] at hk4
    all_goals
    obtain rfl := so_some h
    refine ⟨0, fun L hL => ?_⟩
    simp only [go_sem, ir12, E_spec_CountFaults_l1, R_spec_CountFaults_l1, ir12_b0, ir12_k0, ir12_o0, ir12_r0, hk4]

theorem Fs_spec_CountFaults {faults : List Fault} {y_ : (List Int) × Int} (h : spec_CountFaults faults = some y_) : c_spec_CountFaults.F [.sl 2 (List.map Fault_av faults)] = ⟨true, .tup [.fresh 1 (List.map (AV.int .i64) y_.1), .int .i64 y_.2], [.any]⟩ := by
  refine mkF_E (by simp only [flatA, flatB, flat1, List.all_cons, List.all_nil, Bool.and_self, flatE_map (f := (AV.int .i64)) (fun _ => rfl)]) ?_
  dsimp only [spec_CountFaults] at h
  obtain ⟨y_1, hk1, h⟩ := bd_some h
  have fhk1 := Fs_spec_l26Faults hk1
  try simp only [go_sem] at fhk1
  rcases it_some h with ⟨hk2, h⟩ | ⟨hk2, h⟩
  · try simp only [go_sem, n1, n2, n3, n4] at hk2
    all_goals
    obtain rfl := so_some h
    refine ⟨0, fun L hL => ?_⟩
    simp only [go_sem, ir12, E_spec_CountFaults_l1, R_spec_CountFaults_l1, ir12_k0, ir12_o0, ir12_r0, fhk1, hk2]
  · try simp only [go_sem, n1, n2, n3, n4] at hk2
    all_goals
    obtain ⟨hk3, h⟩ := ck_some h
    try simp only [go_sem, n1, n2, n3, n4, hk2] at hk3
    all_goals
    obtain ⟨y_7, hk7, h⟩ := bd_some h
    obtain ⟨Lhk7, ehk7⟩ := spec_CountFaults_l1_ex hk7
    obtain rfl := so_some h
    refine ⟨Lhk7, fun L hL => ?_⟩
    have ehk7 := ehk7 L (by omega)
    try simp only [go_sem, E_spec_CountFaults_l1, R_spec_CountFaults_l1, ir12_k0, ir12_o0, ir12_r0, hk2, hk3] at ehk7
    simp only [go_sem, ir12, E_spec_CountFaults_l1, R_spec_CountFaults_l1, ir12_k0, ir12_o0, ir12_r0, fhk1, hk2, hk3, ehk7]


def ir13_v : List Nat := [0, 2, 3, 4, 5]
def ir13 : AFn := ⟨1, 5, .seq (.region false [
    ⟨.var 1, 2, none, .newnil 2⟩,
    ⟨.var 2, 3, none, .newnil 2⟩])
 (.seq (.region false [
    ⟨.push, 6, none, .mov (.v 0)⟩,
    ⟨.push, 7, none, .call 36 [(.s 0)]⟩,
    ⟨.var 3, 4, none, .mov (.s 0)⟩])
 (.seq (.region false [
    ⟨.push, 8, none, .mov (.v 3)⟩,
    ⟨.push, 9, none, .call 42 [(.s 0), (.c (.int .i64 (12)))]⟩,
    ⟨.var 4, 5, none, .mov (.s 0)⟩])
 (.seq (.test false [
    ⟨.push, 10, none, .mov (.v 3)⟩,
    ⟨.push, 11, none, .call 38 [(.s 0), (.c (.int .i64 (3)))]⟩] (.s 0)
  (.seq (.region false [
      ⟨.push, 12, none, .mov (.v 4)⟩,
      ⟨.push, 13, none, .mov (.v 4)⟩,
      ⟨.var 1, 2, none, .movz (.s 1)⟩,
      ⟨.var 2, 3, none, .movz (.s 0)⟩])
   (.ret))
  (.skip))
 (.seq (.region false [
    ⟨.push, 14, none, .mov (.v 4)⟩,
    ⟨.push, 15, none, .mov (.v 3)⟩,
    ⟨.push, 16, none, .call 42 [(.s 0), (.c (.int .i64 (12)))]⟩,
    ⟨.var 1, 2, none, .movz (.s 2)⟩,
    ⟨.var 2, 3, none, .movz (.s 0)⟩])
 (.ret))))), [.t 1, .t 2]⟩
noncomputable def t_spec_DrawNewFaults : List (Nat × Ctr) := [(36, c_spec_l00From), (42, c_spec_l26Draw), (38, c_spec_l00Src_one)]
theorem lk_spec_DrawNewFaults_36 : look t_spec_DrawNewFaults 36 = some c_spec_l00From := rfl
theorem lk_spec_DrawNewFaults_42 : look t_spec_DrawNewFaults 42 = some c_spec_l26Draw := rfl
theorem lk_spec_DrawNewFaults_38 : look t_spec_DrawNewFaults 38 = some c_spec_l00Src_one := rfl
noncomputable def c_spec_DrawNewFaults : Ctr := mkN t_spec_DrawNewFaults ir13 [.bor]
theorem s_spec_DrawNewFaults : Sound Try.prog 13 c_spec_DrawNewFaults := mkN_sound _ (snd_cons s_spec_l00From (snd_cons s_spec_l26Draw (snd_cons s_spec_l00Src_one snd_nil))) (by kernel_rfl : chkFn Try.prog 13 ir13 ir13_v = true)
theorem M_spec_DrawNewFaults : c_spec_DrawNewFaults.modes = [.bor] := rfl
theorem Fl_spec_DrawNewFaults : c_spec_DrawNewFaults.flat = false := rfl
attribute [go_sem] M_spec_DrawNewFaults Fl_spec_DrawNewFaults
attribute [go_sem] lk_spec_DrawNewFaults_36 lk_spec_DrawNewFaults_42 lk_spec_DrawNewFaults_38
theorem Fs_spec_DrawNewFaults {code : List UInt8} {y_ : (List Fault) × (List Fault)} (h : spec_DrawNewFaults code = some y_) : c_spec_DrawNewFaults.F [.sl 1 (List.map byteAV code)] = ⟨true, .tup [.sl 2 (List.map Fault_av y_.1), .sl 2 (List.map Fault_av y_.2)], [.any]⟩ := by
  refine mkN_E ?_
  dsimp only [spec_DrawNewFaults] at h
  obtain ⟨y_1, hk1, h⟩ := bd_some h
  have fhk1 := Fs_spec_l00From hk1
  try simp only [go_sem] at fhk1
  obtain ⟨y_2, hk2, h⟩ := bd_some h
  have fhk2 := Fs_spec_l26Draw hk2
  try simp only [go_sem] at fhk2
  obtain ⟨y_3, hk3, h⟩ := bd_some h
  have fhk3 := Fs_spec_l00Src_one hk3
  try simp only [go_sem] at fhk3
  rcases it_some h with ⟨hk4, h⟩ | ⟨hk4, h⟩
  · try simp only [go_sem, n1, n2, n3, n4] at hk4
    all_goals
    obtain rfl := so_some h
    refine ⟨0, fun L hL => ?_⟩
    simp only [go_sem, ir13, fhk1, fhk2, fhk3, hk4]
  · try simp only [go_sem, n1, n2, n3, n4] at hk4
    all_goals
    obtain ⟨y_5, hk5, h⟩ := bd_some h
    have fhk5 := Fs_spec_l26Draw hk5
    try simp only [go_sem, hk4] at fhk5
    obtain rfl := so_some h
    refine ⟨0, fun L hL => ?_⟩
    simp only [go_sem, ir13, fhk1, fhk2, fhk3, hk4, fhk5]


def ir74_b0 : IR := .seq (.region false [
    ⟨.var 7, 9, none, .bin false .lss (.v 6) (.v 5)⟩])
 (.seq (.cond (.v 7) (.skip)
  (.exit 0))
 (.seq (.block 1 (.seq (.region false [
      ⟨.push, 10, none, .mov (.v 6)⟩,
      ⟨.var 4, 5, none, .mov (.s 0)⟩])
   (.anyo 6 [
     ⟨.slot 0, 11, none, .load true 2 (.v 2)⟩,
     ⟨.slot 1, 12, none, .mov (.v 0)⟩,
     ⟨.slot 2, 13, none, .mov (.v 4)⟩,
     ⟨.slot 3, 14, none, .ixAddr 2 (.s 1) (.s 2)⟩,
     ⟨.slot 4, 15, none, .load true 2 (.s 3)⟩,
     ⟨.slot 5, 16, none, .eqA false [1, 1] (.s 0) (.s 4)⟩] [] (.cond (.s 5)
   (.seq (.region false [
       ⟨.push, 17, none, .mov (.v 4)⟩,
       ⟨.var 3, 4, none, .mov (.s 0)⟩])
    (.ret))
   (.skip)))))
 (.region false [
   ⟨.push, 18, none, .bin false .add (.v 6) (.c (.int .i64 (1)))⟩,
   ⟨.var 6, 8, none, .mov (.s 0)⟩])))
def ir74_k0 : List Bool := [true, false, true, false, false, true, true, false]
def ir74_o0 : List Bool := [false, false, false, false, false, false, false, false]
def ir74_r0 : List Bool := [false, false, false, true, false, false, false, false]
def ir74_v : List Nat := [0, 1, 3, 4, 5, 7, 8, 9]
def ir74 : AFn := ⟨2, 8, .seq (.region false [
    ⟨.var 2, 3, none, .box (.v 1)⟩,
    ⟨.var 3, 4, none, .mov (.c (.int .i64 (0)))⟩])
 (.seq (.seq (.region false [
     ⟨.push, 6, none, .mov (.v 0)⟩,
     ⟨.var 5, 7, none, .len false (.s 0)⟩,
     ⟨.var 6, 8, none, .mov (.c (.int .i64 (0)))⟩])
  (.block 0 (.loop ir74_k0 ir74_o0 ir74_r0 ir74_b0)))
 (.seq (.region false [
    ⟨.var 3, 4, none, .mov (.c (.int .i64 (-1)))⟩])
 (.ret))), [.t 3]⟩
noncomputable def t_slices_Index_impl_Fault_impl_Fault : List (Nat × Ctr) := []
noncomputable def c_slices_Index_impl_Fault_impl_Fault : Ctr := mkF t_slices_Index_impl_Fault_impl_Fault ir74 [.bor, .bor]
theorem s_slices_Index_impl_Fault_impl_Fault : Sound Try.prog 74 c_slices_Index_impl_Fault_impl_Fault := mkF_sound _ rfl snd_nil (by kernel_rfl : chkFn Try.prog 74 ir74 ir74_v = true)
theorem M_slices_Index_impl_Fault_impl_Fault : c_slices_Index_impl_Fault_impl_Fault.modes = [.bor, .bor] := rfl
theorem Fl_slices_Index_impl_Fault_impl_Fault : c_slices_Index_impl_Fault_impl_Fault.flat = true := rfl
attribute [go_sem] M_slices_Index_impl_Fault_impl_Fault Fl_slices_Index_impl_Fault_impl_Fault
def E_slices_Index_impl_Fault_impl_Fault_l1 (s_ : List Fault) (v : Fault) (t7 : Int) : Int → St
  | t8 => ⟨[.sl 2 (List.map Fault_av s_), .any, .ref 3200000 0 0, .any, .any, .int .i64 t7, .int .i64 t8, .any], [], [(3200000, ⟨2, [Fault_av v]⟩)], true⟩
def R_slices_Index_impl_Fault_impl_Fault_l1 (s_ : List Fault) (v : Fault) (t7 : Int) : (Unit ⊕ Int) → Res
  | .inl y => (.exit 0, ⟨[.any, .any, .any, .any, .any, .any, .any, .any], [], [], true⟩)
  | .inr y => (.ret, ⟨[.any, .any, .any, .int .i64 y, .any, .any, .any, .any], [], [], true⟩)
theorem slices_Index_impl_Fault_impl_Fault_l1_ex {s_ : List Fault} {v : Fault} {t7 : Int} {sgm_ : Int} {rho_ : Unit ⊕ Int} (h : whileE (slices_Index_impl_Fault_impl_Fault_l1 s_ v t7) sgm_ = some rho_) : ∃ L0, ∀ L, L0 ≤ L → iter (exec (look t_slices_Index_impl_Fault_impl_Fault) L ir74_b0) ir74_k0 ir74_o0 ir74_r0 L (E_slices_Index_impl_Fault_impl_Fault_l1 s_ v t7 sgm_) = R_slices_Index_impl_Fault_impl_Fault_l1 s_ v t7 rho_ := by
  refine loop_ex (E := E_slices_Index_impl_Fault_impl_Fault_l1 s_ v t7) (R := R_slices_Index_impl_Fault_impl_Fault_l1 s_ v t7) (fun y => by first | (intro c; cases c) | (rcases y with y | y <;> (intro c; cases c)) | (rcases y with y | y | y <;> (intro c; cases c))) ?_ h
  clear h
  intro t8 o_ h
  dsimp only [slices_Index_impl_Fault_impl_Fault_l1] at h
  rcases it_some h with ⟨hk1, h⟩ | ⟨hk1, h⟩
  · try simp only [go_sem, n1, n2, n3, n4] at hk1
    all_goals
    obtain ⟨hk2, h⟩ := ck_some h
    have lhk2 := ix_lt hk2
    have xhk2 := getD_mapD Fault_av s_ lhk2
    try simp only [go_sem] at lhk2
    try simp only [go_sem] at xhk2
    try simp only [go_sem, n1, n2, n3, n4, hk1] at hk2
    all_goals
    rcases it_some h with ⟨hk3, h⟩ | ⟨hk3, h⟩
    · try simp only [go_sem, n1, n2, n3, n4, hk1, hk2] at hk3
      all_goals
      obtain rfl := so_some h
      refine ⟨0, fun L hL => ?_⟩
      simp only [go_sem, ir74, E_slices_Index_impl_Fault_impl_Fault_l1, R_slices_Index_impl_Fault_impl_Fault_l1, ir74_b0, ir74_k0, ir74_o0, ir74_r0, hk1, hk2, lhk2, xhk2, hk3]
    · try simp only [go_sem, n1, n2, n3, n4, hk1, hk2] at hk3
      all_goals
      obtain rfl := so_some h
      refine ⟨0, fun L hL => ?_⟩
      simp only [go_sem, ir74, E_slices_Index_impl_Fault_impl_Fault_l1, R_slices_Index_impl_Fault_impl_Fault_l1, ir74_b0, ir74_k0, ir74_o0, ir74_r0, hk1, hk2, lhk2, xhk2, hk3]
  · try simp only [go_sem, n1, n2, n3, n4] at hk1
    all_goals
    obtain rfl := so_some h
    refine ⟨0, fun L hL => ?_⟩
    simp only [go_sem, ir74, E_slices_Index_impl_Fault_impl_Fault_l1, R_slices_Index_impl_Fault_impl_Fault_l1, ir74_b0, ir74_k0, ir74_o0, ir74_r0, hk1]

theorem Fs_slices_Index_impl_Fault_impl_Fault {s_ : List Fault} {v : Fault} {y_ : Int} (h : slices_Index_impl_Fault_impl_Fault s_ v = some y_) : c_slices_Index_impl_Fault_impl_Fault.F [.sl 2 (List.map Fault_av s_), Fault_av v] = ⟨true, .int .i64 y_, [.any, .any]⟩ := by
  refine mkF_E rfl ?_
  dsimp only [slices_Index_impl_Fault_impl_Fault] at h
  obtain ⟨y_4, hk4, h⟩ := bd_some h
  obtain ⟨Lhk4, ehk4⟩ := slices_Index_impl_Fault_impl_Fault_l1_ex hk4
  rcases y_4 with y_4a | y_4b
  · dsimp only at h
    obtain rfl := so_some h
    refine ⟨Lhk4, fun L hL => ?_⟩
    have ehk4 := ehk4 L (by omega)
    try simp only [go_sem, E_slices_Index_impl_Fault_impl_Fault_l1, R_slices_Index_impl_Fault_impl_Fault_l1, ir74_k0, ir74_o0, ir74_r0] at ehk4
    simp only [go_sem, ir74, E_slices_Index_impl_Fault_impl_Fault_l1, R_slices_Index_impl_Fault_impl_Fault_l1, ir74_k0, ir74_o0, ir74_r0, ehk4]
  · dsimp only at h
    obtain rfl := so_some h
    refine ⟨Lhk4, fun L hL => ?_⟩
    have ehk4 := ehk4 L (by omega)
    try simp only [go_sem, E_slices_Index_impl_Fault_impl_Fault_l1, R_slices_Index_impl_Fault_impl_Fault_l1, ir74_k0, ir74_o0, ir74_r0] at ehk4
    simp only [go_sem, ir74, E_slices_Index_impl_Fault_impl_Fault_l1, R_slices_Index_impl_Fault_impl_Fault_l1, ir74_k0, ir74_o0, ir74_r0, ehk4]


def ir47_v : List Nat := [0, 1, 3, 4]
def ir47 : AFn := ⟨2, 4, .seq (.region false [
    ⟨.var 2, 3, none, .box (.v 1)⟩,
    ⟨.var 3, 4, none, .mov (.c (.bool false))⟩])
 (.seq (.region false [
    ⟨.push, 5, none, .mov (.v 0)⟩,
    ⟨.push, 6, none, .load true 2 (.v 2)⟩,
    ⟨.push, 7, none, .call 74 [(.s 1), (.s 0)]⟩,
    ⟨.push, 8, none, .bin false .geq (.s 0) (.c (.int .i64 (0)))⟩,
    ⟨.var 3, 4, none, .mov (.s 0)⟩])
 (.ret)), [.t 3]⟩
noncomputable def t_slices_Contains_impl_Fault_impl_Fault : List (Nat × Ctr) := [(74, c_slices_Index_impl_Fault_impl_Fault)]
theorem lk_slices_Contains_impl_Fault_impl_Fault_74 : look t_slices_Contains_impl_Fault_impl_Fault 74 = some c_slices_Index_impl_Fault_impl_Fault := rfl
noncomputable def c_slices_Contains_impl_Fault_impl_Fault : Ctr := mkF t_slices_Contains_impl_Fault_impl_Fault ir47 [.bor, .bor]
theorem s_slices_Contains_impl_Fault_impl_Fault : Sound Try.prog 47 c_slices_Contains_impl_Fault_impl_Fault := mkF_sound _ rfl (snd_cons s_slices_Index_impl_Fault_impl_Fault snd_nil) (by kernel_rfl : chkFn Try.prog 47 ir47 ir47_v = true)
theorem M_slices_Contains_impl_Fault_impl_Fault : c_slices_Contains_impl_Fault_impl_Fault.modes = [.bor, .bor] := rfl
theorem Fl_slices_Contains_impl_Fault_impl_Fault : c_slices_Contains_impl_Fault_impl_Fault.flat = true := rfl
attribute [go_sem] M_slices_Contains_impl_Fault_impl_Fault Fl_slices_Contains_impl_Fault_impl_Fault
attribute [go_sem] lk_slices_Contains_impl_Fault_impl_Fault_74
theorem Fs_slices_Contains_impl_Fault_impl_Fault {s_ : List Fault} {v : Fault} {y_ : Bool} (h : slices_Contains_impl_Fault_impl_Fault s_ v = some y_) : c_slices_Contains_impl_Fault_impl_Fault.F [.sl 2 (List.map Fault_av s_), Fault_av v] = ⟨true, .bool y_, [.any, .any]⟩ := by
  refine mkF_E rfl ?_
  dsimp only [slices_Contains_impl_Fault_impl_Fault] at h
  obtain ⟨y_1, hk1, h⟩ := bd_some h
  have fhk1 := Fs_slices_Index_impl_Fault_impl_Fault hk1
  try simp only [go_sem] at fhk1
  obtain rfl := so_some h
  refine ⟨0, fun L hL => ?_⟩
  simp only [go_sem, ir47, fhk1]


def ir46_v : List Nat := [0, 1, 2, 3]
def ir46 : AFn := ⟨2, 4, .seq (.region false [
    ⟨.var 2, 2, none, .box (.v 0)⟩,
    ⟨.var 3, 3, none, .mov (.c (.bool false))⟩])
 (.seq (.region false [
    ⟨.push, 4, none, .load false 1 (.v 1)⟩,
    ⟨.push, 5, none, .load true 2 (.v 2)⟩,
    ⟨.push, 6, none, .call 47 [(.s 1), (.s 0)]⟩,
    ⟨.push, 7, none, .un .not (.s 0)⟩,
    ⟨.var 3, 3, none, .mov (.s 0)⟩])
 (.ret)), [.t 3]⟩
noncomputable def t_impl_NewFaults_c1 : List (Nat × Ctr) := [(47, c_slices_Contains_impl_Fault_impl_Fault)]
theorem lk_impl_NewFaults_c1_47 : look t_impl_NewFaults_c1 47 = some c_slices_Contains_impl_Fault_impl_Fault := rfl
noncomputable def c_impl_NewFaults_c1 : Ctr := mkF t_impl_NewFaults_c1 ir46 [.bor, .bor]
theorem s_impl_NewFaults_c1 : Sound Try.prog 46 c_impl_NewFaults_c1 := mkF_sound _ rfl (snd_cons s_slices_Contains_impl_Fault_impl_Fault snd_nil) (by kernel_rfl : chkFn Try.prog 46 ir46 ir46_v = true)
theorem M_impl_NewFaults_c1 : c_impl_NewFaults_c1.modes = [.bor, .bor] := rfl
theorem Fl_impl_NewFaults_c1 : c_impl_NewFaults_c1.flat = true := rfl
attribute [go_sem] M_impl_NewFaults_c1 Fl_impl_NewFaults_c1
attribute [go_sem] lk_impl_NewFaults_c1_47
theorem Fs_impl_NewFaults_c1 {x : Fault} {t1 : List Fault} {y_ : Bool} (h : impl_NewFaults_c1 x t1 = some y_) : c_impl_NewFaults_c1.F [Fault_av x, .ptr 1 [.sl 2 (List.map Fault_av t1)] 0 0] = ⟨true, .bool y_, [.any, .any]⟩ := by
  refine mkF_E rfl ?_
  dsimp only [impl_NewFaults_c1] at h
  obtain ⟨y_1, hk1, h⟩ := bd_some h
  have fhk1 := Fs_slices_Contains_impl_Fault_impl_Fault hk1
  try simp only [go_sem] at fhk1
  obtain rfl := so_some h
  refine ⟨0, fun L hL => ?_⟩
  simp only [go_sem, ir46, fhk1]


def ir45_b0 : IR := .seq (.region false [
    ⟨.var 8, 12, none, .bin false .lss (.v 7) (.v 6)⟩])
 (.seq (.cond (.v 8) (.skip)
  (.exit 0))
 (.seq (.block 1 (.seq (.region false [
      ⟨.push, 13, none, .ixAddr 2 (.v 5) (.v 7)⟩,
      ⟨.push, 14, none, .load true 2 (.s 0)⟩,
      ⟨.var 4, 7, none, .alloc (.agg [.int .i64 (0), .int .i64 (0)])⟩,
      ⟨.no, 0, none, .store 2 (.v 4) (.s 0)⟩])
   (.test false [
     ⟨.push, 15, none, .mov (.v 1)⟩,
     ⟨.push, 16, none, .load true 2 (.v 4)⟩,
     ⟨.push, 17, none, .callv (.s 1) [(.s 0)]⟩] (.s 0)
   (.region false [
      ⟨.push, 18, none, .mov (.v 3)⟩,
      ⟨.push, 19, none, .load true 2 (.v 4)⟩,
      ⟨.push, 20, none, .mkSl 2 (.agg [.int .i64 (0), .int .i64 (0)]) 1 [(0, (.s 0))]⟩,
      ⟨.push, 21, none, .app 2 16 (.agg [.int .i64 (0), .int .i64 (0)]) (.s 2) (.s 0)⟩,
      ⟨.var 3, 5, none, .mov (.s 0)⟩])
   (.skip))))
 (.region false [
   ⟨.push, 22, none, .bin false .add (.v 7) (.c (.int .i64 (1)))⟩,
   ⟨.var 7, 11, none, .mov (.s 0)⟩])))
def ir45_k0 : List Bool := [false, true, false, true, false, true, true, true, false]
def ir45_o0 : List Bool := [false, false, false, true, false, false, false, false, false]
def ir45_r0 : List Bool := [false, false, true, false, false, false, false, false, false]
def ir45_v : List Nat := [0, 1, 4, 5, 7, 9, 10, 11, 12]
def ir45 : AFn := ⟨2, 9, .seq (.region false [
    ⟨.var 2, 4, none, .newnil 2⟩])
 (.seq (.region false [
    ⟨.push, 8, none, .mkSl 2 (.agg [.int .i64 (0), .int .i64 (0)]) 0 []⟩,
    ⟨.var 3, 5, none, .mov (.s 0)⟩])
 (.seq (.seq (.region false [
     ⟨.var 5, 9, none, .mov (.v 0)⟩,
     ⟨.var 6, 10, none, .len false (.v 5)⟩,
     ⟨.var 7, 11, none, .mov (.c (.int .i64 (0)))⟩])
  (.block 0 (.loop ir45_k0 ir45_o0 ir45_r0 ir45_b0)))
 (.seq (.region false [
    ⟨.push, 23, none, .mov (.v 3)⟩,
    ⟨.var 2, 4, none, .mov (.s 0)⟩])
 (.ret)))), [.t 2]⟩
noncomputable def t_impl_chosen_impl_Fault__impl_NewFaults_c1 : List (Nat × Ctr) := [(46, c_impl_NewFaults_c1)]
theorem lk_impl_chosen_impl_Fault__impl_NewFaults_c1_46 : look t_impl_chosen_impl_Fault__impl_NewFaults_c1 46 = some c_impl_NewFaults_c1 := rfl
noncomputable def c_impl_chosen_impl_Fault__impl_NewFaults_c1 : Ctr := mkF t_impl_chosen_impl_Fault__impl_NewFaults_c1 ir45 [.bor, .bor]
theorem s_impl_chosen_impl_Fault__impl_NewFaults_c1 : Sound Try.prog 45 c_impl_chosen_impl_Fault__impl_NewFaults_c1 := mkF_sound _ rfl (snd_cons s_impl_NewFaults_c1 snd_nil) (by kernel_rfl : chkFn Try.prog 45 ir45 ir45_v = true)
theorem M_impl_chosen_impl_Fault__impl_NewFaults_c1 : c_impl_chosen_impl_Fault__impl_NewFaults_c1.modes = [.bor, .bor] := rfl
theorem Fl_impl_chosen_impl_Fault__impl_NewFaults_c1 : c_impl_chosen_impl_Fault__impl_NewFaults_c1.flat = true := rfl
attribute [go_sem] M_impl_chosen_impl_Fault__impl_NewFaults_c1 Fl_impl_chosen_impl_Fault__impl_NewFaults_c1
attribute [go_sem] lk_impl_chosen_impl_Fault__impl_NewFaults_c1_46
def E_impl_chosen_impl_Fault__impl_NewFaults_c1_l1 (c : List Fault) (t9 : List Fault) (t10 : Int) : ((List Fault) × Int) → St
  | (out, t11) => ⟨[.any, .fn (.func 46) [] [.ptr 1 [.sl 2 (List.map Fault_av c)] 0 0], .any, .own 3200000, .any, .sl 2 (List.map Fault_av t9), .int .i64 t10, .int .i64 t11, .any], [], [(3200000, ⟨2, List.map Fault_av out⟩)], true⟩
def R_impl_chosen_impl_Fault__impl_NewFaults_c1_l1 (c : List Fault) (t9 : List Fault) (t10 : Int) (y : (List Fault)) : Res := (.exit 0, ⟨[.any, .any, .any, .own 3200000, .any, .any, .any, .any, .any], [], [(3200000, ⟨2, List.map Fault_av y⟩)], true⟩)
theorem impl_chosen_impl_Fault__impl_NewFaults_c1_l1_ex {c : List Fault} {t9 : List Fault} {t10 : Int} {sgm_ : (List Fault) × Int} {rho_ : (List Fault)} (h : whileE (impl_chosen_impl_Fault__impl_NewFaults_c1_l1 c t9 t10) sgm_ = some rho_) : ∃ L0, ∀ L, L0 ≤ L → iter (exec (look t_impl_chosen_impl_Fault__impl_NewFaults_c1) L ir45_b0) ir45_k0 ir45_o0 ir45_r0 L (E_impl_chosen_impl_Fault__impl_NewFaults_c1_l1 c t9 t10 sgm_) = R_impl_chosen_impl_Fault__impl_NewFaults_c1_l1 c t9 t10 rho_ := by
  refine loop_ex (E := E_impl_chosen_impl_Fault__impl_NewFaults_c1_l1 c t9 t10) (R := R_impl_chosen_impl_Fault__impl_NewFaults_c1_l1 c t9 t10) (fun y => by first | (intro c; cases c) | (rcases y with y | y <;> (intro c; cases c)) | (rcases y with y | y | y <;> (intro c; cases c))) ?_ h
  clear h
  rintro ⟨out, t11⟩ o_ h
  dsimp only [impl_chosen_impl_Fault__impl_NewFaults_c1_l1] at h
  rcases it_some h with ⟨hk1, h⟩ | ⟨hk1, h⟩
  · try simp only [go_sem, n1, n2, n3, n4] at hk1
    all_goals
    obtain ⟨hk2, h⟩ := ck_some h
    have lhk2 := ix_lt hk2
    have xhk2 := getD_mapD Fault_av t9 lhk2
    try simp only [go_sem] at lhk2
    try simp only [go_sem] at xhk2
    try simp only [go_sem, n1, n2, n3, n4, hk1] at hk2
    all_goals
    obtain ⟨y_3, hk3, h⟩ := bd_some h
    have fhk3 := Fs_impl_NewFaults_c1 hk3
    try simp only [go_sem, hk1, hk2] at fhk3
    rcases it_some h with ⟨hk4, h⟩ | ⟨hk4, h⟩
    · try simp only [go_sem, n1, n2, n3, n4, hk1, hk2] at hk4
      all_goals
      obtain ⟨hk5, h⟩ := ck_some h
      try simp only [go_sem, n1, n2, n3, n4, hk1, hk2, hk4] at hk5
      all_goals
      obtain rfl := so_some h
      refine ⟨0, fun L hL => ?_⟩
      simp only [go_sem, ir45, E_impl_chosen_impl_Fault__impl_NewFaults_c1_l1, R_impl_chosen_impl_Fault__impl_NewFaults_c1_l1, ir45_b0, ir45_k0, ir45_o0, ir45_r0, hk1, hk2, lhk2, xhk2, fhk3, hk4, hk5]
    · try simp only [go_sem, n1, n2, n3, n4, hk1, hk2] at hk4
      all_goals
      obtain rfl := so_some h
      refine ⟨0, fun L hL => ?_⟩
      simp only [go_sem, ir45, E_impl_chosen_impl_Fault__impl_NewFaults_c1_l1, R_impl_chosen_impl_Fault__impl_NewFaults_c1_l1, ir45_b0, ir45_k0, ir45_o0, ir45_r0, hk1, hk2, lhk2, xhk2, fhk3, hk4]
  · try simp only [go_sem, n1, n2, n3, n4] at hk1
    all_goals
    obtain rfl := so_some h
    refine ⟨0, fun L hL => ?_⟩
    simp only [go_sem, ir45, E_impl_chosen_impl_Fault__impl_NewFaults_c1_l1, R_impl_chosen_impl_Fault__impl_NewFaults_c1_l1, ir45_b0, ir45_k0, ir45_o0, ir45_r0, hk1]

theorem Fs_impl_chosen_impl_Fault__impl_NewFaults_c1 {list : List Fault} {wanted_c0 : List Fault} {y_ : (List Fault)} (h : impl_chosen_impl_Fault__impl_NewFaults_c1 list wanted_c0 = some y_) : c_impl_chosen_impl_Fault__impl_NewFaults_c1.F [.sl 2 (List.map Fault_av list), .fn (.func 46) [] [.ptr 1 [.sl 2 (List.map Fault_av wanted_c0)] 0 0]] = ⟨true, .fresh 2 (List.map Fault_av y_), [.any, .any]⟩ := by
  refine mkF_E (by simp only [flatA, flatB, flat1, List.all_cons, List.all_nil, Bool.and_self, flatE_map (f := Fault_av) (fun _ => rfl)]) ?_
  dsimp only [impl_chosen_impl_Fault__impl_NewFaults_c1] at h
  obtain ⟨y_6, hk6, h⟩ := bd_some h
  obtain ⟨Lhk6, ehk6⟩ := impl_chosen_impl_Fault__impl_NewFaults_c1_l1_ex hk6
  obtain rfl := so_some h
  refine ⟨Lhk6, fun L hL => ?_⟩
  have ehk6 := ehk6 L (by omega)
  try simp only [go_sem, E_impl_chosen_impl_Fault__impl_NewFaults_c1_l1, R_impl_chosen_impl_Fault__impl_NewFaults_c1_l1, ir45_k0, ir45_o0, ir45_r0] at ehk6
  simp only [go_sem, ir45, E_impl_chosen_impl_Fault__impl_NewFaults_c1_l1, R_impl_chosen_impl_Fault__impl_NewFaults_c1_l1, ir45_k0, ir45_o0, ir45_r0, ehk6]


def ir14_v : List Nat := [0, 1, 2, 4, 5]
def ir14 : AFn := ⟨2, 5, .seq (.region false [
    ⟨.var 2, 2, none, .box (.v 0)⟩,
    ⟨.var 3, 4, none, .newnil 2⟩,
    ⟨.var 4, 5, none, .mov (.c (.int .i64 (0)))⟩])
 (.seq (.test false [
    ⟨.push, 6, none, .load false 1 (.v 2)⟩,
    ⟨.push, 7, none, .call 43 [(.s 0), (.c (.int .i64 (100)))]⟩,
    ⟨.push, 8, none, .un .not (.s 0)⟩,
    ⟨.push, 9, none, .mov (.s 0)⟩,
    ⟨.push, 10, (some ((.s 0), false)), .mov (.v 1)⟩,
    ⟨.push, 11, (some ((.s 1), false)), .call 43 [(.s 0), (.c (.int .i64 (100)))]⟩,
    ⟨.push, 12, (some ((.s 2), false)), .un .not (.s 0)⟩,
    ⟨.push, 13, none, .pick (.s 3) (.c (.bool true)) (.s 0)⟩] (.s 0)
  (.seq (.region false [
      ⟨.var 3, 4, none, .newnil 2⟩,
      ⟨.var 4, 5, none, .mov (.c (.int .i64 (2)))⟩])
   (.ret))
  (.skip))
 (.seq (.region false [
    ⟨.push, 14, none, .mov (.v 1)⟩,
    ⟨.push, 15, none, .mkFn (.func 46) [] [(.v 2)]⟩,
    ⟨.push, 16, none, .call 45 [(.s 1), (.s 0)]⟩,
    ⟨.var 3, 4, none, .mov (.s 0)⟩,
    ⟨.var 4, 5, none, .mov (.c (.int .i64 (0)))⟩])
 (.ret))), [.t 3, .t 4]⟩
noncomputable def t_impl_NewFaults : List (Nat × Ctr) := [(43, c_impl_ordered), (45, c_impl_chosen_impl_Fault__impl_NewFaults_c1)]
theorem lk_impl_NewFaults_43 : look t_impl_NewFaults 43 = some c_impl_ordered := rfl
theorem lk_impl_NewFaults_45 : look t_impl_NewFaults 45 = some c_impl_chosen_impl_Fault__impl_NewFaults_c1 := rfl
noncomputable def c_impl_NewFaults : Ctr := mkF t_impl_NewFaults ir14 [.bor, .bor]
theorem s_impl_NewFaults : Sound Try.prog 14 c_impl_NewFaults := mkF_sound _ rfl (snd_cons s_impl_ordered (snd_cons s_impl_chosen_impl_Fault__impl_NewFaults_c1 snd_nil)) (by kernel_rfl : chkFn Try.prog 14 ir14 ir14_v = true)
theorem M_impl_NewFaults : c_impl_NewFaults.modes = [.bor, .bor] := rfl
theorem Fl_impl_NewFaults : c_impl_NewFaults.flat = true := rfl
attribute [go_sem] M_impl_NewFaults Fl_impl_NewFaults
attribute [go_sem] lk_impl_NewFaults_43 lk_impl_NewFaults_45
theorem Fs_impl_NewFaults {before : List Fault} {now : List Fault} {y_ : (List Fault) × Int} (h : impl_NewFaults before now = some y_) : c_impl_NewFaults.F [.sl 2 (List.map Fault_av before), .sl 2 (List.map Fault_av now)] = ⟨true, .tup [.fresh 2 (List.map Fault_av y_.1), .int .i64 y_.2], [.any, .any]⟩ := by
  refine mkF_E (by simp only [flatA, flatB, flat1, List.all_cons, List.all_nil, Bool.and_self, flatE_map (f := Fault_av) (fun _ => rfl)]) ?_
  dsimp only [impl_NewFaults] at h
  obtain ⟨y_1, hk1, h⟩ := bd_some h
  have fhk1 := Fs_impl_ordered hk1
  try simp only [go_sem] at fhk1
  obtain ⟨hk2, h⟩ := ck_some h
  rcases or_split hk2 with ⟨ghk2, hk2⟩ | ghk2
  · try simp only [go_sem, n1, n2, n3, n4] at ghk2
    all_goals
    obtain ⟨y_2, hhk2⟩ := Option.isSome_iff_exists.1 hk2
    have fhk2 := Fs_impl_ordered hhk2
    try simp only [go_sem, n1, n2, n3, n4, ghk2] at hhk2
    all_goals
    try simp only [go_sem, ghk2] at fhk2
    rcases it_some h with ⟨hk3, h⟩ | ⟨hk3, h⟩
    · try simp only [go_sem, n1, n2, n3, n4, ghk2, hhk2] at hk3
      all_goals
      obtain rfl := so_some h
      refine ⟨0, fun L hL => ?_⟩
      simp only [go_sem, ir14, fhk1, ghk2, hhk2, fhk2, hk3]
    · try simp only [go_sem, n1, n2, n3, n4, ghk2, hhk2] at hk3
      all_goals
      obtain ⟨y_4, hk4, h⟩ := bd_some h
      have fhk4 := Fs_impl_chosen_impl_Fault__impl_NewFaults_c1 hk4
      try simp only [go_sem, ghk2, hhk2, hk3] at fhk4
      obtain rfl := so_some h
      refine ⟨0, fun L hL => ?_⟩
      simp only [go_sem, ir14, fhk1, ghk2, hhk2, fhk2, hk3, fhk4]
  · have ghk2n := no_f ghk2
    have ghk2nn := no_t ghk2n
    try simp only [go_sem, n1, n2, n3, n4] at ghk2nn
    all_goals
    rcases it_some h with ⟨hk3, h⟩ | ⟨hk3, h⟩
    · try simp only [go_sem, n1, n2, n3, n4, ghk2nn] at hk3
      all_goals
      obtain rfl := so_some h
      refine ⟨0, fun L hL => ?_⟩
      simp only [go_sem, ir14, fhk1, ghk2nn, hk3]
    · try simp only [go_sem, n1, n2, n3, n4, ghk2nn] at hk3
      all_goals
      (simp_all)


def ir15_b1 : IR := .seq (.test false [
    ⟨.push, 25, none, .mov (.v 7)⟩,
    ⟨.push, 26, none, .mov (.v 0)⟩,
    ⟨.push, 27, none, .len false (.s 0)⟩,
    ⟨.push, 28, none, .bin false .lss (.s 2) (.s 0)⟩] (.s 0)
  (.skip)
  (.exit 2))
 (.seq (.block 3 (.anyo 12 [
     ⟨.slot 0, 31, none, .mov (.v 6)⟩,
     ⟨.slot 1, 32, none, .mov (.s 0)⟩,
     ⟨.slot 2, 33, (some ((.s 1), false)), .mov (.v 0)⟩,
     ⟨.slot 3, 34, (some ((.s 1), false)), .mov (.v 7)⟩,
     ⟨.slot 4, 35, (some ((.s 1), false)), .ixAddr 2 (.s 2) (.s 3)⟩,
     ⟨.slot 5, 36, (some ((.s 1), false)), .load true 2 (.s 4)⟩,
     ⟨.slot 6, 37, (some ((.s 1), false)), .mov (.v 1)⟩,
     ⟨.slot 7, 38, (some ((.s 1), false)), .mov (.v 5)⟩,
     ⟨.slot 8, 39, (some ((.s 1), false)), .ixAddr 2 (.s 6) (.s 7)⟩,
     ⟨.slot 9, 40, (some ((.s 1), false)), .load true 2 (.s 8)⟩,
     ⟨.slot 10, 41, (some ((.s 1), false)), .eqA false [1, 1] (.s 5) (.s 9)⟩,
     ⟨.slot 11, 42, none, .pick (.s 1) (.c (.bool true)) (.s 10)⟩,
     ⟨.var 6, 8, none, .mov (.s 11)⟩] [] .skip))
 (.region false [
   ⟨.push, 29, none, .mov (.v 7)⟩,
   ⟨.push, 30, none, .bin false .add (.s 0) (.c (.int .i64 (1)))⟩,
   ⟨.var 7, 9, none, .mov (.s 0)⟩]))
def ir15_k1 : List Bool := [true, true, false, false, true, true, true, true]
def ir15_o1 : List Bool := [true, true, false, false, true, true, true, false]
def ir15_r1 : List Bool := [false, false, true, true, false, false, false, false]
def ir15_b0 : IR := .seq (.test false [
    ⟨.push, 19, none, .mov (.v 5)⟩,
    ⟨.push, 20, none, .mov (.v 1)⟩,
    ⟨.push, 21, none, .len false (.s 0)⟩,
    ⟨.push, 22, none, .bin false .lss (.s 2) (.s 0)⟩] (.s 0)
  (.skip)
  (.exit 0))
 (.seq (.block 1 (.seq (.region false [
      ⟨.var 6, 8, none, .mov (.c (.bool false))⟩])
   (.seq (.seq (.region false [
       ⟨.var 7, 9, none, .mov (.c (.int .i64 (0)))⟩])
    (.block 2 (.loop ir15_k1 ir15_o1 ir15_r1 ir15_b1)))
   (.test false [
     ⟨.push, 43, none, .mov (.v 6)⟩,
     ⟨.push, 44, none, .un .not (.s 0)⟩] (.s 0)
   (.region false [
      ⟨.push, 45, none, .mov (.v 4)⟩,
      ⟨.push, 46, none, .mov (.v 1)⟩,
      ⟨.push, 47, none, .mov (.v 5)⟩,
      ⟨.push, 48, none, .ixAddr 2 (.s 1) (.s 0)⟩,
      ⟨.push, 49, none, .load true 2 (.s 0)⟩,
      ⟨.push, 50, none, .mkSl 2 (.agg [.int .i64 (0), .int .i64 (0)]) 1 [(0, (.s 0))]⟩,
      ⟨.push, 51, none, .app 2 16 (.agg [.int .i64 (0), .int .i64 (0)]) (.s 5) (.s 0)⟩,
      ⟨.var 4, 6, none, .mov (.s 0)⟩])
   (.skip)))))
 (.region false [
   ⟨.push, 23, none, .mov (.v 5)⟩,
   ⟨.push, 24, none, .bin false .add (.s 0) (.c (.int .i64 (1)))⟩,
   ⟨.var 5, 7, none, .mov (.s 0)⟩]))
def ir15_k0 : List Bool := [true, true, false, false, true, true, false, false]
def ir15_o0 : List Bool := [false, false, false, false, true, false, false, false]
def ir15_r0 : List Bool := [false, false, true, true, false, false, false, false]
def ir15_v : List Nat := [0, 1, 4, 5, 6, 7, 8, 9]
def ir15 : AFn := ⟨2, 8, .seq (.region false [
    ⟨.var 2, 4, none, .newnil 2⟩,
    ⟨.var 3, 5, none, .mov (.c (.int .i64 (0)))⟩])
 (.seq (.test false [
    ⟨.push, 10, none, .mov (.v 0)⟩,
    ⟨.push, 11, none, .call 44 [(.s 0), (.c (.int .i64 (100)))]⟩,
    ⟨.push, 12, none, .un .not (.s 0)⟩,
    ⟨.push, 13, none, .mov (.s 0)⟩,
    ⟨.push, 14, (some ((.s 0), false)), .mov (.v 1)⟩,
    ⟨.push, 15, (some ((.s 1), false)), .call 44 [(.s 0), (.c (.int .i64 (100)))]⟩,
    ⟨.push, 16, (some ((.s 2), false)), .un .not (.s 0)⟩,
    ⟨.push, 17, none, .pick (.s 3) (.c (.bool true)) (.s 0)⟩] (.s 0)
  (.seq (.region false [
      ⟨.var 2, 4, none, .newnil 2⟩,
      ⟨.var 3, 5, none, .mov (.c (.int .i64 (2)))⟩])
   (.ret))
  (.skip))
 (.seq (.region false [
    ⟨.push, 18, none, .mkSl 2 (.agg [.int .i64 (0), .int .i64 (0)]) 0 []⟩,
    ⟨.var 4, 6, none, .mov (.s 0)⟩])
 (.seq (.seq (.region false [
     ⟨.var 5, 7, none, .mov (.c (.int .i64 (0)))⟩])
  (.block 0 (.loop ir15_k0 ir15_o0 ir15_r0 ir15_b0)))
 (.seq (.region false [
    ⟨.push, 52, none, .mov (.v 4)⟩,
    ⟨.var 2, 4, none, .mov (.s 0)⟩,
    ⟨.var 3, 5, none, .mov (.c (.int .i64 (0)))⟩])
 (.ret))))), [.t 2, .t 3]⟩
noncomputable def t_spec_NewFaults : List (Nat × Ctr) := [(44, c_spec_l26Faults)]
theorem lk_spec_NewFaults_44 : look t_spec_NewFaults 44 = some c_spec_l26Faults := rfl
noncomputable def c_spec_NewFaults : Ctr := mkF t_spec_NewFaults ir15 [.bor, .bor]
theorem s_spec_NewFaults : Sound Try.prog 15 c_spec_NewFaults := mkF_sound _ rfl (snd_cons s_spec_l26Faults snd_nil) (by kernel_rfl : chkFn Try.prog 15 ir15 ir15_v = true)
theorem M_spec_NewFaults : c_spec_NewFaults.modes = [.bor, .bor] := rfl
theorem Fl_spec_NewFaults : c_spec_NewFaults.flat = true := rfl
attribute [go_sem] M_spec_NewFaults Fl_spec_NewFaults
attribute [go_sem] lk_spec_NewFaults_44
def E_spec_NewFaults_l2 (before : List Fault) (now : List Fault) (out : List Fault) (i : Int) : (Bool × Int) → St
  | (known, k) => ⟨[.sl 2 (List.map Fault_av before), .sl 2 (List.map Fault_av now), .any, .any, .own 3200000, .int .i64 i, .bool known, .int .i64 k], [], [(3200000, ⟨2, List.map Fault_av out⟩)], true⟩
def R_spec_NewFaults_l2 (before : List Fault) (now : List Fault) (out : List Fault) (i : Int) (y : Bool) : Res := (.exit 2, ⟨[.sl 2 (List.map Fault_av before), .sl 2 (List.map Fault_av now), .any, .any, .own 3200000, .int .i64 i, .bool y, .any], [], [(3200000, ⟨2, List.map Fault_av out⟩)], true⟩)
theorem spec_NewFaults_l2_ex {before : List Fault} {now : List Fault} {out : List Fault} {i : Int} {sgm_ : Bool × Int} {rho_ : Bool} (h : whileE (spec_NewFaults_l2 before now out i) sgm_ = some rho_) : ∃ L0, ∀ L, L0 ≤ L → iter (exec (look t_spec_NewFaults) L ir15_b1) ir15_k1 ir15_o1 ir15_r1 L (E_spec_NewFaults_l2 before now out i sgm_) = R_spec_NewFaults_l2 before now out i rho_ := by
  refine loop_ex (E := E_spec_NewFaults_l2 before now out i) (R := R_spec_NewFaults_l2 before now out i) (fun y => by first | (intro c; cases c) | (rcases y with y | y <;> (intro c; cases c)) | (rcases y with y | y | y <;> (intro c; cases c))) ?_ h
  clear h
  rintro ⟨known, k⟩ o_ h
  dsimp only [spec_NewFaults_l2] at h
  rcases it_some h with ⟨hk5, h⟩ | ⟨hk5, h⟩
  · try simp only [go_sem, n1, n2, n3, n4] at hk5
    all_goals
    obtain ⟨hk6, h⟩ := ck_some h
    rcases or_split hk6 with ⟨ghk6, hk6⟩ | ghk6
    · try simp only [go_sem, n1, n2, n3, n4, hk5] at ghk6
      all_goals
      have lhk6 := ix_lt hk6
      have xhk6 := getD_mapD Fault_av before lhk6
      try simp only [go_sem] at lhk6
      try simp only [go_sem] at xhk6
      try simp only [go_sem, n1, n2, n3, n4, hk5, ghk6] at hk6
      all_goals
      obtain ⟨hk7, h⟩ := ck_some h
      rcases or_split hk7 with ⟨ghk7, hk7⟩ | ghk7
      · try simp only [go_sem, n1, n2, n3, n4, hk5, ghk6, hk6] at ghk7
        all_goals
        have lhk7 := ix_lt hk7
        have xhk7 := getD_mapD Fault_av now lhk7
        try simp only [go_sem] at lhk7
        try simp only [go_sem] at xhk7
        try simp only [go_sem, n1, n2, n3, n4, hk5, ghk6, hk6, ghk7] at hk7
        all_goals
        obtain rfl := so_some h
        refine ⟨0, fun L hL => ?_⟩
        simp only [go_sem, ir15, E_spec_NewFaults_l2, R_spec_NewFaults_l2, ir15_b1, ir15_k1, ir15_o1, ir15_r1, hk5, ghk6, hk6, lhk6, xhk6, ghk7, hk7, lhk7, xhk7]
      · have ghk7n := no_f ghk7
        try simp only [go_sem, n1, n2, n3, n4, hk5, ghk6, hk6] at ghk7n
        all_goals
        obtain rfl := so_some h
        refine ⟨0, fun L hL => ?_⟩
        simp only [go_sem, ir15, E_spec_NewFaults_l2, R_spec_NewFaults_l2, ir15_b1, ir15_k1, ir15_o1, ir15_r1, hk5, ghk6, hk6, lhk6, xhk6, ghk7n]
    · have ghk6n := no_f ghk6
      try simp only [go_sem, n1, n2, n3, n4, hk5] at ghk6n
      all_goals
      obtain ⟨hk7, h⟩ := ck_some h
      obtain rfl := so_some h
      refine ⟨0, fun L hL => ?_⟩
      simp only [go_sem, ir15, E_spec_NewFaults_l2, R_spec_NewFaults_l2, ir15_b1, ir15_k1, ir15_o1, ir15_r1, hk5, ghk6n]
  · try simp only [go_sem, n1, n2, n3, n4] at hk5
    all_goals
    obtain rfl := so_some h
    refine ⟨0, fun L hL => ?_⟩
    simp only [go_sem, ir15, E_spec_NewFaults_l2, R_spec_NewFaults_l2, ir15_b1, ir15_k1, ir15_o1, ir15_r1, hk5]

def E_spec_NewFaults_l1 (before : List Fault) (now : List Fault) : ((List Fault) × Int) → St
  | (out, i) => ⟨[.sl 2 (List.map Fault_av before), .sl 2 (List.map Fault_av now), .any, .any, .own 3200000, .int .i64 i, .any, .any], [], [(3200000, ⟨2, List.map Fault_av out⟩)], true⟩
def R_spec_NewFaults_l1 (before : List Fault) (now : List Fault) (y : (List Fault)) : Res := (.exit 0, ⟨[.any, .any, .any, .any, .own 3200000, .any, .any, .any], [], [(3200000, ⟨2, List.map Fault_av y⟩)], true⟩)
theorem spec_NewFaults_l1_ex {before : List Fault} {now : List Fault} {sgm_ : (List Fault) × Int} {rho_ : (List Fault)} (h : whileE (spec_NewFaults_l1 before now) sgm_ = some rho_) : ∃ L0, ∀ L, L0 ≤ L → iter (exec (look t_spec_NewFaults) L ir15_b0) ir15_k0 ir15_o0 ir15_r0 L (E_spec_NewFaults_l1 before now sgm_) = R_spec_NewFaults_l1 before now rho_ := by
  refine loop_ex (E := E_spec_NewFaults_l1 before now) (R := R_spec_NewFaults_l1 before now) (fun y => by first | (intro c; cases c) | (rcases y with y | y <;> (intro c; cases c)) | (rcases y with y | y | y <;> (intro c; cases c))) ?_ h
  clear h
  rintro ⟨out, i⟩ o_ h
  dsimp only [spec_NewFaults_l1] at h
  rcases it_some h with ⟨hk4, h⟩ | ⟨hk4, h⟩
  · try simp only [go_sem, n1, n2, n3, n4] at hk4
    all_goals
    obtain ⟨y_8, hk8, h⟩ := bd_some h
    obtain ⟨Lhk8, ehk8⟩ := spec_NewFaults_l2_ex hk8
    rcases it_some h with ⟨hk9, h⟩ | ⟨hk9, h⟩
    · try simp only [go_sem, n1, n2, n3, n4, hk4] at hk9
      all_goals
      obtain ⟨hk10, h⟩ := ck_some h
      have lhk10 := ix_lt hk10
      have xhk10 := getD_mapD Fault_av now lhk10
      try simp only [go_sem] at lhk10
      try simp only [go_sem] at xhk10
      try simp only [go_sem, n1, n2, n3, n4, hk4, hk9] at hk10
      all_goals
      obtain ⟨hk11, h⟩ := ck_some h
      try simp only [go_sem, n1, n2, n3, n4, hk4, hk9, hk10] at hk11
      all_goals
      obtain rfl := so_some h
      refine ⟨Lhk8, fun L hL => ?_⟩
      have ehk8 := ehk8 L (by omega)
      try simp only [go_sem, E_spec_NewFaults_l1, R_spec_NewFaults_l1, ir15_b0, ir15_k0, ir15_o0, ir15_r0, E_spec_NewFaults_l2, R_spec_NewFaults_l2, ir15_k1, ir15_o1, ir15_r1, hk4, hk9, hk10, hk11] at ehk8
      simp only [go_sem, ir15, E_spec_NewFaults_l1, R_spec_NewFaults_l1, ir15_b0, ir15_k0, ir15_o0, ir15_r0, E_spec_NewFaults_l2, R_spec_NewFaults_l2, ir15_k1, ir15_o1, ir15_r1, hk4, hk9, hk10, lhk10, xhk10, hk11, ehk8]
    · try simp only [go_sem, n1, n2, n3, n4, hk4] at hk9
      all_goals
      obtain rfl := so_some h
      refine ⟨Lhk8, fun L hL => ?_⟩
      have ehk8 := ehk8 L (by omega)
      try simp only [go_sem, E_spec_NewFaults_l1, R_spec_NewFaults_l1, ir15_b0, ir15_k0, ir15_o0, ir15_r0, E_spec_NewFaults_l2, R_spec_NewFaults_l2, ir15_k1, ir15_o1, ir15_r1, hk4, hk9] at ehk8
      simp only [go_sem, ir15, E_spec_NewFaults_l1, R_spec_NewFaults_l1, ir15_b0, ir15_k0, ir15_o0, ir15_r0, E_spec_NewFaults_l2, R_spec_NewFaults_l2, ir15_k1, ir15_o1, ir15_r1, hk4, hk9, ehk8]
  · try simp only [go_sem, n1, n2, n3, n4] at hk4
    all_goals
    obtain rfl := so_some h
    refine ⟨0, fun L hL => ?_⟩
    simp only [go_sem, ir15, E_spec_NewFaults_l1, R_spec_NewFaults_l1, ir15_b0, ir15_k0, ir15_o0, ir15_r0, E_spec_NewFaults_l2, R_spec_NewFaults_l2, ir15_k1, ir15_o1, ir15_r1, hk4]

theorem Fs_spec_NewFaults {before : List Fault} {now : List Fault} {y_ : (List Fault) × Int} (h : spec_NewFaults before now = some y_) : c_spec_NewFaults.F [.sl 2 (List.map Fault_av before), .sl 2 (List.map Fault_av now)] = ⟨true, .tup [.fresh 2 (List.map Fault_av y_.1), .int .i64 y_.2], [.any, .any]⟩ := by
  refine mkF_E (by simp only [flatA, flatB, flat1, List.all_cons, List.all_nil, Bool.and_self, flatE_map (f := Fault_av) (fun _ => rfl)]) ?_
  dsimp only [spec_NewFaults] at h
  obtain ⟨y_1, hk1, h⟩ := bd_some h
  have fhk1 := Fs_spec_l26Faults hk1
  try simp only [go_sem] at fhk1
  obtain ⟨hk2, h⟩ := ck_some h
  rcases or_split hk2 with ⟨ghk2, hk2⟩ | ghk2
  · try simp only [go_sem, n1, n2, n3, n4] at ghk2
    all_goals
    obtain ⟨y_2, hhk2⟩ := Option.isSome_iff_exists.1 hk2
    have fhk2 := Fs_spec_l26Faults hhk2
    try simp only [go_sem, n1, n2, n3, n4, ghk2] at hhk2
    all_goals
    try simp only [go_sem, ghk2] at fhk2
    rcases it_some h with ⟨hk3, h⟩ | ⟨hk3, h⟩
    · try simp only [go_sem, n1, n2, n3, n4, ghk2, hhk2] at hk3
      all_goals
      obtain rfl := so_some h
      refine ⟨0, fun L hL => ?_⟩
      simp only [go_sem, ir15, E_spec_NewFaults_l2, R_spec_NewFaults_l2, ir15_k1, ir15_o1, ir15_r1, E_spec_NewFaults_l1, R_spec_NewFaults_l1, ir15_k0, ir15_o0, ir15_r0, fhk1, ghk2, hhk2, fhk2, hk3]
    · try simp only [go_sem, n1, n2, n3, n4, ghk2, hhk2] at hk3
      all_goals
      obtain ⟨y_12, hk12, h⟩ := bd_some h
      obtain ⟨Lhk12, ehk12⟩ := spec_NewFaults_l1_ex hk12
      obtain rfl := so_some h
      refine ⟨Lhk12, fun L hL => ?_⟩
      have ehk12 := ehk12 L (by omega)
      try simp only [go_sem, E_spec_NewFaults_l2, R_spec_NewFaults_l2, ir15_k1, ir15_o1, ir15_r1, E_spec_NewFaults_l1, R_spec_NewFaults_l1, ir15_k0, ir15_o0, ir15_r0, ghk2, hhk2, hk3] at ehk12
      simp only [go_sem, ir15, E_spec_NewFaults_l2, R_spec_NewFaults_l2, ir15_k1, ir15_o1, ir15_r1, E_spec_NewFaults_l1, R_spec_NewFaults_l1, ir15_k0, ir15_o0, ir15_r0, fhk1, ghk2, hhk2, fhk2, hk3, ehk12]
  · have ghk2n := no_f ghk2
    have ghk2nn := no_t ghk2n
    try simp only [go_sem, n1, n2, n3, n4] at ghk2nn
    all_goals
    rcases it_some h with ⟨hk3, h⟩ | ⟨hk3, h⟩
    · try simp only [go_sem, n1, n2, n3, n4, ghk2nn] at hk3
      all_goals
      obtain rfl := so_some h
      refine ⟨0, fun L hL => ?_⟩
      simp only [go_sem, ir15, E_spec_NewFaults_l2, R_spec_NewFaults_l2, ir15_k1, ir15_o1, ir15_r1, E_spec_NewFaults_l1, R_spec_NewFaults_l1, ir15_k0, ir15_o0, ir15_r0, fhk1, ghk2nn, hk3]
    · try simp only [go_sem, n1, n2, n3, n4, ghk2nn] at hk3
      all_goals
      (simp_all)


def ir16_b0 : IR := .seq (.test false [
    ⟨.push, 11, none, .mov (.v 3)⟩,
    ⟨.push, 12, none, .mov (.v 0)⟩,
    ⟨.push, 13, none, .len false (.s 0)⟩,
    ⟨.push, 14, none, .bin false .lss (.s 2) (.s 0)⟩] (.s 0)
  (.skip)
  (.exit 0))
 (.seq (.block 1 (.anyo 9 [
     ⟨.slot 0, 17, none, .mov (.v 0)⟩,
     ⟨.slot 1, 18, none, .mov (.v 3)⟩,
     ⟨.slot 2, 19, none, .ixAddr 1 (.s 0) (.s 1)⟩,
     ⟨.slot 3, 20, none, .load false 1 (.s 2)⟩,
     ⟨.slot 4, 21, none, .mov (.v 1)⟩,
     ⟨.slot 5, 22, none, .mov (.v 3)⟩,
     ⟨.slot 6, 23, none, .ixAddr 1 (.s 4) (.s 5)⟩,
     ⟨.slot 7, 24, none, .load false 1 (.s 6)⟩,
     ⟨.slot 8, 25, none, .bin false .neq (.s 3) (.s 7)⟩] [] (.cond (.s 8)
   (.seq (.region false [
       ⟨.var 2, 4, none, .mov (.c (.bool false))⟩])
    (.ret))
   (.skip))))
 (.region false [
   ⟨.push, 15, none, .mov (.v 3)⟩,
   ⟨.push, 16, none, .bin false .add (.s 0) (.c (.int .i64 (1)))⟩,
   ⟨.var 3, 5, none, .mov (.s 0)⟩]))
def ir16_k0 : List Bool := [true, true, false, true]
def ir16_o0 : List Bool := [false, false, false, false]
def ir16_r0 : List Bool := [false, false, true, false]
def ir16_v : List Nat := [0, 1, 4, 5]
def ir16 : AFn := ⟨2, 4, .seq (.region false [
    ⟨.var 2, 4, none, .mov (.c (.bool false))⟩])
 (.seq (.test false [
    ⟨.push, 6, none, .mov (.v 0)⟩,
    ⟨.push, 7, none, .len false (.s 0)⟩,
    ⟨.push, 8, none, .mov (.v 1)⟩,
    ⟨.push, 9, none, .len false (.s 0)⟩,
    ⟨.push, 10, none, .bin false .neq (.s 2) (.s 0)⟩] (.s 0)
  (.seq (.region false [
      ⟨.var 2, 4, none, .mov (.c (.bool false))⟩])
   (.ret))
  (.skip))
 (.seq (.seq (.region false [
     ⟨.var 3, 5, none, .mov (.c (.int .i64 (0)))⟩])
  (.block 0 (.loop ir16_k0 ir16_o0 ir16_r0 ir16_b0)))
 (.seq (.region false [
    ⟨.var 2, 4, none, .mov (.c (.bool true))⟩])
 (.ret)))), [.t 2]⟩
noncomputable def t_laws_f6ints : List (Nat × Ctr) := []
noncomputable def c_laws_f6ints : Ctr := mkF t_laws_f6ints ir16 [.bor, .bor]
theorem s_laws_f6ints : Sound Try.prog 16 c_laws_f6ints := mkF_sound _ rfl snd_nil (by kernel_rfl : chkFn Try.prog 16 ir16 ir16_v = true)
theorem M_laws_f6ints : c_laws_f6ints.modes = [.bor, .bor] := rfl
theorem Fl_laws_f6ints : c_laws_f6ints.flat = true := rfl
attribute [go_sem] M_laws_f6ints Fl_laws_f6ints
def E_laws_f6ints_l1 (a : List Int) (b : List Int) : Int → St
  | i => ⟨[.sl 1 (List.map (AV.int .i64) a), .sl 1 (List.map (AV.int .i64) b), .any, .int .i64 i], [], [], true⟩
def R_laws_f6ints_l1 (a : List Int) (b : List Int) : (Unit ⊕ Bool) → Res
  | .inl y => (.exit 0, ⟨[.any, .any, .any, .any], [], [], true⟩)
  | .inr y => (.ret, ⟨[.any, .any, .bool y, .any], [], [], true⟩)
theorem laws_f6ints_l1_ex {a : List Int} {b : List Int} {sgm_ : Int} {rho_ : Unit ⊕ Bool} (h : whileE (laws_f6ints_l1 a b) sgm_ = some rho_) : ∃ L0, ∀ L, L0 ≤ L → iter (exec (look t_laws_f6ints) L ir16_b0) ir16_k0 ir16_o0 ir16_r0 L (E_laws_f6ints_l1 a b sgm_) = R_laws_f6ints_l1 a b rho_ := by
  refine loop_ex (E := E_laws_f6ints_l1 a b) (R := R_laws_f6ints_l1 a b) (fun y => by first | (intro c; cases c) | (rcases y with y | y <;> (intro c; cases c)) | (rcases y with y | y | y <;> (intro c; cases c))) ?_ h
  clear h
  intro i o_ h
  dsimp only [laws_f6ints_l1] at h
  rcases it_some h with ⟨hk2, h⟩ | ⟨hk2, h⟩
  · try simp only [go_sem, n1, n2, n3, n4] at hk2
    all_goals
    obtain ⟨hk3, h⟩ := ck_some h
    have lhk3 := ix_lt hk3
    have xhk3 := getD_mapD (AV.int .i64) a lhk3
    try simp only [go_sem] at lhk3
    try simp only [go_sem] at xhk3
    try simp only [go_sem, n1, n2, n3, n4, hk2] at hk3
    all_goals
    obtain ⟨hk4, h⟩ := ck_some h
    have lhk4 := ix_lt hk4
    have xhk4 := getD_mapD (AV.int .i64) b lhk4
    try simp only [go_sem] at lhk4
    try simp only [go_sem] at xhk4
    try simp only [go_sem, n1, n2, n3, n4, hk2, hk3] at hk4
    all_goals
    rcases it_some h with ⟨hk5, h⟩ | ⟨hk5, h⟩
    · try simp only [go_sem, n1, n2, n3, n4, hk2, hk3, hk4] at hk5
      all_goals
      obtain rfl := so_some h
      refine ⟨0, fun L hL => ?_⟩
      simp only [go_sem, ir16, E_laws_f6ints_l1, R_laws_f6ints_l1, ir16_b0, ir16_k0, ir16_o0, ir16_r0, hk2, hk3, lhk3, xhk3, hk4, lhk4, xhk4, hk5]
    · try simp only [go_sem, n1, n2, n3, n4, hk2, hk3, hk4] at hk5
      all_goals
      obtain rfl := so_some h
      refine ⟨0, fun L hL => ?_⟩
      simp only [go_sem, ir16, E_laws_f6ints_l1, R_laws_f6ints_l1, ir16_b0, ir16_k0, ir16_o0, ir16_r0, hk2, hk3, lhk3, xhk3, hk4, lhk4, xhk4, hk5]
  · try simp only [go_sem, n1, n2, n3, n4] at hk2
    all_goals
    obtain rfl := so_some h
    refine ⟨0, fun L hL => ?_⟩
    simp only [go_sem, ir16, E_laws_f6ints_l1, R_laws_f6ints_l1, ir16_b0, ir16_k0, ir16_o0, ir16_r0, hk2]

theorem Fs_laws_f6ints {a : List Int} {b : List Int} {y_ : Bool} (h : laws_f6ints a b = some y_) : c_laws_f6ints.F [.sl 1 (List.map (AV.int .i64) a), .sl 1 (List.map (AV.int .i64) b)] = ⟨true, .bool y_, [.any, .any]⟩ := by
  refine mkF_E rfl ?_
  dsimp only [laws_f6ints] at h
  rcases it_some h with ⟨hk1, h⟩ | ⟨hk1, h⟩
  · try simp only [go_sem, n1, n2, n3, n4] at hk1
    all_goals
    obtain rfl := so_some h
    refine ⟨0, fun L hL => ?_⟩
    simp only [go_sem, ir16, E_laws_f6ints_l1, R_laws_f6ints_l1, ir16_k0, ir16_o0, ir16_r0, hk1]
  · try simp only [go_sem, n1, n2, n3, n4] at hk1
    all_goals
    obtain ⟨y_6, hk6, h⟩ := bd_some h
    obtain ⟨Lhk6, ehk6⟩ := laws_f6ints_l1_ex hk6
    rcases y_6 with y_6a | y_6b
    · dsimp only at h
      obtain rfl := so_some h
      refine ⟨Lhk6, fun L hL => ?_⟩
      have ehk6 := ehk6 L (by omega)
      try simp only [go_sem, E_laws_f6ints_l1, R_laws_f6ints_l1, ir16_k0, ir16_o0, ir16_r0, hk1] at ehk6
      simp only [go_sem, ir16, E_laws_f6ints_l1, R_laws_f6ints_l1, ir16_k0, ir16_o0, ir16_r0, hk1, ehk6]
    · dsimp only at h
      obtain rfl := so_some h
      refine ⟨Lhk6, fun L hL => ?_⟩
      have ehk6 := ehk6 L (by omega)
      try simp only [go_sem, E_laws_f6ints_l1, R_laws_f6ints_l1, ir16_k0, ir16_o0, ir16_r0, hk1] at ehk6
      simp only [go_sem, ir16, E_laws_f6ints_l1, R_laws_f6ints_l1, ir16_k0, ir16_o0, ir16_r0, hk1, ehk6]


def ir3_b0 : IR := .seq (.test false [
    ⟨.push, 110, none, .mov (.v 20)⟩,
    ⟨.push, 111, none, .mov (.v 16)⟩,
    ⟨.push, 112, none, .len false (.s 0)⟩,
    ⟨.push, 113, none, .bin false .lss (.s 2) (.s 0)⟩] (.s 0)
  (.skip)
  (.exit 0))
 (.seq (.block 1 (.anyo 9 [
     ⟨.slot 0, 116, none, .mov (.v 16)⟩,
     ⟨.slot 1, 117, none, .mov (.v 20)⟩,
     ⟨.slot 2, 118, none, .ixAddr 2 (.s 0) (.s 1)⟩,
     ⟨.slot 3, 119, none, .load true 2 (.s 2)⟩,
     ⟨.slot 4, 120, none, .mov (.v 18)⟩,
     ⟨.slot 5, 121, none, .mov (.v 20)⟩,
     ⟨.slot 6, 122, none, .ixAddr 2 (.s 4) (.s 5)⟩,
     ⟨.slot 7, 123, none, .load true 2 (.s 6)⟩,
     ⟨.slot 8, 124, none, .eqA true [1, 1] (.s 3) (.s 7)⟩] [] (.cond (.s 8)
   (.seq (.region false [
       ⟨.var 1, 2, none, .mov (.c (.bool false))⟩])
    (.ret))
   (.skip))))
 (.region false [
   ⟨.push, 114, none, .mov (.v 20)⟩,
   ⟨.push, 115, none, .bin false .add (.s 0) (.c (.int .i64 (1)))⟩,
   ⟨.var 20, 21, none, .mov (.s 0)⟩]))
def ir3_k0 : List Bool := [false, false, true, true, false, false, true, true, false, true, false, true, true, false, false, true, true, true, true, false, true, false, false, false, false, false]
def ir3_o0 : List Bool := [false, false, true, true, false, false, true, true, false, true, false, true, true, false, false, true, false, true, false, false, false, false, false, false, false, false]
def ir3_r0 : List Bool := [false, true, false, false, false, false, false, false, false, false, false, false, false, false, false, false, false, false, false, false, false, false, false, false, false, false]
def ir3_b1 : IR := .seq (.test false [
    ⟨.push, 127, none, .mov (.v 22)⟩,
    ⟨.push, 128, none, .mov (.v 12)⟩,
    ⟨.push, 129, none, .len false (.s 0)⟩,
    ⟨.push, 130, none, .bin false .lss (.s 2) (.s 0)⟩] (.s 0)
  (.skip)
  (.exit 2))
 (.seq (.block 3 (.region false [
     ⟨.push, 133, none, .mov (.v 21)⟩,
     ⟨.push, 134, none, .mov (.v 12)⟩,
     ⟨.push, 135, none, .mov (.v 22)⟩,
     ⟨.push, 136, none, .ixAddr 1 (.s 1) (.s 0)⟩,
     ⟨.push, 137, none, .load false 1 (.s 0)⟩,
     ⟨.push, 138, none, .bin false .add (.s 4) (.s 0)⟩,
     ⟨.var 21, 22, none, .mov (.s 0)⟩]))
 (.region false [
   ⟨.push, 131, none, .mov (.v 22)⟩,
   ⟨.push, 132, none, .bin false .add (.s 0) (.c (.int .i64 (1)))⟩,
   ⟨.var 22, 23, none, .mov (.s 0)⟩]))
def ir3_k1 : List Bool := [false, false, true, true, false, false, true, true, false, true, false, false, true, false, false, true, false, true, false, false, false, true, true, false, false, false]
def ir3_o1 : List Bool := [false, false, true, true, false, false, true, true, false, true, false, false, false, false, false, true, false, true, false, false, false, true, false, false, false, false]
def ir3_r1 : List Bool := [false, true, false, false, false, false, false, false, false, false, false, false, false, false, false, false, false, false, false, false, false, false, false, false, false, false]
def ir3_b2 : IR := .seq (.test false [
    ⟨.push, 160, none, .mov (.v 25)⟩,
    ⟨.push, 161, none, .mov (.v 7)⟩,
    ⟨.push, 162, none, .len false (.s 0)⟩,
    ⟨.push, 163, none, .bin false .lss (.s 2) (.s 0)⟩] (.s 0)
  (.skip)
  (.exit 4))
 (.seq (.block 5 (.anyo 29 [
     ⟨.slot 0, 166, none, .mov (.v 7)⟩,
     ⟨.slot 1, 167, none, .mov (.v 25)⟩,
     ⟨.slot 2, 168, none, .ixAddr 1 (.s 0) (.s 1)⟩,
     ⟨.slot 3, 169, none, .load false 1 (.s 2)⟩,
     ⟨.slot 4, 170, none, .bin false .lss (.s 3) (.c (.int .i64 (0)))⟩,
     ⟨.slot 5, 171, none, .mov (.s 4)⟩,
     ⟨.slot 6, 172, (some ((.s 5), false)), .mov (.v 7)⟩,
     ⟨.slot 7, 173, (some ((.s 5), false)), .mov (.v 25)⟩,
     ⟨.slot 8, 174, (some ((.s 5), false)), .ixAddr 1 (.s 6) (.s 7)⟩,
     ⟨.slot 9, 175, (some ((.s 5), false)), .load false 1 (.s 8)⟩,
     ⟨.slot 10, 176, (some ((.s 5), false)), .mov (.v 2)⟩,
     ⟨.slot 11, 177, (some ((.s 5), false)), .bin false .geq (.s 9) (.s 10)⟩,
     ⟨.slot 12, 178, none, .pick (.s 5) (.c (.bool true)) (.s 11)⟩,
     ⟨.slot 13, 179, none, .mov (.s 12)⟩,
     ⟨.slot 14, 180, (some ((.s 13), false)), .mov (.v 25)⟩,
     ⟨.slot 15, 181, (some ((.s 13), false)), .bin false .gtr (.s 14) (.c (.int .i64 (0)))⟩,
     ⟨.slot 16, 182, (some ((.s 13), false)), .mov (.s 15)⟩,
     ⟨.slot 17, 183, (some ((.s 16), true)), .mov (.v 7)⟩,
     ⟨.slot 18, 184, (some ((.s 16), true)), .mov (.v 25)⟩,
     ⟨.slot 19, 185, (some ((.s 16), true)), .bin false .sub (.s 18) (.c (.int .i64 (1)))⟩,
     ⟨.slot 20, 186, (some ((.s 16), true)), .ixAddr 1 (.s 17) (.s 19)⟩,
     ⟨.slot 21, 187, (some ((.s 16), true)), .load false 1 (.s 20)⟩,
     ⟨.slot 22, 188, (some ((.s 16), true)), .mov (.v 7)⟩,
     ⟨.slot 23, 189, (some ((.s 16), true)), .mov (.v 25)⟩,
     ⟨.slot 24, 190, (some ((.s 16), true)), .ixAddr 1 (.s 22) (.s 23)⟩,
     ⟨.slot 25, 191, (some ((.s 16), true)), .load false 1 (.s 24)⟩,
     ⟨.slot 26, 192, (some ((.s 16), true)), .bin false .geq (.s 21) (.s 25)⟩,
     ⟨.slot 27, 193, (some ((.s 13), false)), .pick (.s 16) (.s 26) (.c (.bool false))⟩,
     ⟨.slot 28, 194, none, .pick (.s 13) (.c (.bool true)) (.s 27)⟩] [] (.cond (.s 28)
   (.seq (.region false [
       ⟨.var 1, 2, none, .mov (.c (.bool false))⟩])
    (.ret))
   (.skip))))
 (.region false [
   ⟨.push, 164, none, .mov (.v 25)⟩,
   ⟨.push, 165, none, .bin false .add (.s 0) (.c (.int .i64 (1)))⟩,
   ⟨.var 25, 26, none, .mov (.s 0)⟩]))
def ir3_k2 : List Bool := [false, false, true, true, false, false, false, true, false, false, false, false, false, false, false, false, false, false, false, false, false, false, false, false, false, true]
def ir3_o2 : List Bool := [false, false, false, true, false, false, false, true, false, false, false, false, false, false, false, false, false, false, false, false, false, false, false, false, false, false]
def ir3_r2 : List Bool := [false, true, false, false, false, false, false, false, false, false, false, false, false, false, false, false, false, false, false, false, false, false, false, false, false, false]
def ir3_v : List Nat := [0, 2, 3, 4, 5, 6, 7, 8, 9, 10, 11, 12, 13, 14, 15, 16, 17, 18, 19, 20, 21, 22, 23, 24, 25, 26]
def ir3 : AFn := ⟨1, 26, .seq (.region false [
    ⟨.var 1, 2, none, .mov (.c (.bool false))⟩])
 (.seq (.test false [
    ⟨.push, 27, none, .mov (.v 0)⟩,
    ⟨.push, 28, none, .call 6 [(.s 0)]⟩] (.s 0)
  (.seq (.region false [
      ⟨.var 1, 2, none, .mov (.c (.bool true))⟩])
   (.ret))
  (.skip))
 (.seq (.region false [
    ⟨.push, 30, none, .mov (.v 0)⟩,
    ⟨.push, 31, none, .call 7 [(.s 0)]⟩,
    ⟨.push, 29, none, .mov (.s 0)⟩,
    ⟨.push, 32, none, .ext (.s 0) 0⟩,
    ⟨.push, 33, none, .ext (.s 1) 1⟩,
    ⟨.push, 34, none, .ext (.s 2) 2⟩,
    ⟨.var 2, 3, none, .mov (.s 2)⟩,
    ⟨.var 3, 4, none, .mov (.s 1)⟩,
    ⟨.var 4, 5, none, .mov (.s 0)⟩])
 (.seq (.region false [
    ⟨.push, 36, none, .mov (.v 2)⟩,
    ⟨.push, 37, none, .mov (.v 3)⟩,
    ⟨.push, 38, none, .mov (.v 4)⟩,
    ⟨.push, 39, none, .call 8 [(.s 2), (.s 1), (.s 0)]⟩,
    ⟨.push, 35, none, .mov (.s 0)⟩,
    ⟨.push, 40, none, .ext (.s 0) 0⟩,
    ⟨.push, 41, none, .ext (.s 1) 1⟩,
    ⟨.var 5, 6, none, .mov (.s 1)⟩,
    ⟨.var 6, 7, none, .mov (.s 0)⟩])
 (.seq (.region false [
    ⟨.push, 43, none, .mov (.v 2)⟩,
    ⟨.push, 44, none, .mov (.v 3)⟩,
    ⟨.push, 45, none, .mov (.v 4)⟩,
    ⟨.push, 46, none, .call 9 [(.s 2), (.s 1), (.s 0)]⟩,
    ⟨.push, 42, none, .mov (.s 0)⟩,
    ⟨.push, 47, none, .ext (.s 0) 0⟩,
    ⟨.push, 48, none, .ext (.s 1) 1⟩,
    ⟨.var 7, 8, none, .mov (.s 1)⟩,
    ⟨.var 8, 9, none, .mov (.s 0)⟩])
 (.seq (.region false [
    ⟨.push, 49, none, .mov (.v 0)⟩,
    ⟨.push, 50, none, .call 10 [(.s 0)]⟩,
    ⟨.var 9, 10, none, .mov (.s 0)⟩])
 (.seq (.region false [
    ⟨.push, 52, none, .mov (.v 9)⟩,
    ⟨.push, 53, none, .call 11 [(.s 0)]⟩,
    ⟨.push, 51, none, .mov (.s 0)⟩,
    ⟨.push, 54, none, .ext (.s 0) 0⟩,
    ⟨.push, 55, none, .ext (.s 1) 1⟩,
    ⟨.var 10, 11, none, .mov (.s 1)⟩,
    ⟨.var 11, 12, none, .mov (.s 0)⟩])
 (.seq (.region false [
    ⟨.push, 57, none, .mov (.v 9)⟩,
    ⟨.push, 58, none, .call 12 [(.s 0)]⟩,
    ⟨.push, 56, none, .mov (.s 0)⟩,
    ⟨.push, 59, none, .ext (.s 0) 0⟩,
    ⟨.push, 60, none, .ext (.s 1) 1⟩,
    ⟨.var 12, 13, none, .mov (.s 1)⟩,
    ⟨.var 13, 14, none, .mov (.s 0)⟩])
 (.seq (.region false [
    ⟨.push, 62, none, .mov (.v 0)⟩,
    ⟨.push, 63, none, .call 13 [(.s 0)]⟩,
    ⟨.push, 61, none, .mov (.s 0)⟩,
    ⟨.push, 64, none, .ext (.s 0) 0⟩,
    ⟨.push, 65, none, .ext (.s 1) 1⟩,
    ⟨.var 14, 15, none, .mov (.s 1)⟩,
    ⟨.var 15, 16, none, .mov (.s 0)⟩])
 (.seq (.region false [
    ⟨.push, 67, none, .mov (.v 14)⟩,
    ⟨.push, 68, none, .mov (.v 15)⟩,
    ⟨.push, 69, none, .call 14 [(.s 1), (.s 0)]⟩,
    ⟨.push, 66, none, .mov (.s 0)⟩,
    ⟨.push, 70, none, .ext (.s 0) 0⟩,
    ⟨.push, 71, none, .ext (.s 1) 1⟩,
    ⟨.var 16, 17, none, .mov (.s 1)⟩,
    ⟨.var 17, 18, none, .mov (.s 0)⟩])
 (.seq (.region false [
    ⟨.push, 73, none, .mov (.v 14)⟩,
    ⟨.push, 74, none, .mov (.v 15)⟩,
    ⟨.push, 75, none, .call 15 [(.s 1), (.s 0)]⟩,
    ⟨.push, 72, none, .mov (.s 0)⟩,
    ⟨.push, 76, none, .ext (.s 0) 0⟩,
    ⟨.push, 77, none, .ext (.s 1) 1⟩,
    ⟨.var 18, 19, none, .mov (.s 1)⟩,
    ⟨.var 19, 20, none, .mov (.s 0)⟩])
 (.seq (.test false [
    ⟨.push, 78, none, .mov (.v 6)⟩,
    ⟨.push, 79, none, .mov (.v 8)⟩,
    ⟨.push, 80, none, .bin false .neq (.s 1) (.s 0)⟩,
    ⟨.push, 81, none, .mov (.s 0)⟩,
    ⟨.push, 82, (some ((.s 0), false)), .mov (.v 5)⟩,
    ⟨.push, 83, (some ((.s 1), false)), .mov (.v 7)⟩,
    ⟨.push, 84, (some ((.s 2), false)), .call 16 [(.s 1), (.s 0)]⟩,
    ⟨.push, 85, (some ((.s 3), false)), .un .not (.s 0)⟩,
    ⟨.push, 86, none, .pick (.s 4) (.c (.bool true)) (.s 0)⟩,
    ⟨.push, 87, none, .mov (.s 0)⟩,
    ⟨.push, 88, (some ((.s 0), false)), .mov (.v 11)⟩,
    ⟨.push, 89, (some ((.s 1), false)), .mov (.v 13)⟩,
    ⟨.push, 90, (some ((.s 2), false)), .bin false .neq (.s 1) (.s 0)⟩,
    ⟨.push, 91, none, .pick (.s 3) (.c (.bool true)) (.s 0)⟩,
    ⟨.push, 92, none, .mov (.s 0)⟩,
    ⟨.push, 93, (some ((.s 0), false)), .mov (.v 10)⟩,
    ⟨.push, 94, (some ((.s 1), false)), .mov (.v 12)⟩,
    ⟨.push, 95, (some ((.s 2), false)), .call 16 [(.s 1), (.s 0)]⟩,
    ⟨.push, 96, (some ((.s 3), false)), .un .not (.s 0)⟩,
    ⟨.push, 97, none, .pick (.s 4) (.c (.bool true)) (.s 0)⟩,
    ⟨.push, 98, none, .mov (.s 0)⟩,
    ⟨.push, 99, (some ((.s 0), false)), .mov (.v 17)⟩,
    ⟨.push, 100, (some ((.s 1), false)), .mov (.v 19)⟩,
    ⟨.push, 101, (some ((.s 2), false)), .bin false .neq (.s 1) (.s 0)⟩,
    ⟨.push, 102, none, .pick (.s 3) (.c (.bool true)) (.s 0)⟩,
    ⟨.push, 103, none, .mov (.s 0)⟩,
    ⟨.push, 104, (some ((.s 0), false)), .mov (.v 16)⟩,
    ⟨.push, 105, (some ((.s 1), false)), .len false (.s 0)⟩,
    ⟨.push, 106, (some ((.s 2), false)), .mov (.v 18)⟩,
    ⟨.push, 107, (some ((.s 3), false)), .len false (.s 0)⟩,
    ⟨.push, 108, (some ((.s 4), false)), .bin false .neq (.s 2) (.s 0)⟩,
    ⟨.push, 109, none, .pick (.s 5) (.c (.bool true)) (.s 0)⟩] (.s 0)
  (.seq (.region false [
      ⟨.var 1, 2, none, .mov (.c (.bool false))⟩])
   (.ret))
  (.skip))
 (.seq (.seq (.region false [
     ⟨.var 20, 21, none, .mov (.c (.int .i64 (0)))⟩])
  (.block 0 (.loop ir3_k0 ir3_o0 ir3_r0 ir3_b0)))
 (.seq (.test false [
    ⟨.push, 125, none, .mov (.v 11)⟩,
    ⟨.push, 126, none, .bin false .eql (.s 0) (.c (.int .i64 (0)))⟩] (.s 0)
  (.seq (.region false [
      ⟨.var 21, 22, none, .mov (.c (.int .i64 (0)))⟩])
   (.seq (.seq (.region false [
       ⟨.var 22, 23, none, .mov (.c (.int .i64 (0)))⟩])
    (.block 2 (.loop ir3_k1 ir3_o1 ir3_r1 ir3_b1)))
   (.test false [
     ⟨.push, 139, none, .mov (.v 21)⟩,
     ⟨.push, 140, none, .mov (.v 9)⟩,
     ⟨.push, 141, none, .len false (.s 0)⟩,
     ⟨.push, 142, none, .bin false .neq (.s 2) (.s 0)⟩] (.s 0)
   (.seq (.region false [
       ⟨.var 1, 2, none, .mov (.c (.bool false))⟩])
    (.ret))
   (.skip))))
  (.skip))
 (.seq (.test false [
    ⟨.push, 143, none, .mov (.v 17)⟩,
    ⟨.push, 144, none, .bin false .eql (.s 0) (.c (.int .i64 (0)))⟩] (.s 0)
  (.seq (.region false [
      ⟨.push, 146, none, .mov (.v 15)⟩,
      ⟨.push, 147, none, .mov (.v 15)⟩,
      ⟨.push, 148, none, .call 14 [(.s 1), (.s 0)]⟩,
      ⟨.push, 145, none, .mov (.s 0)⟩,
      ⟨.push, 149, none, .ext (.s 0) 0⟩,
      ⟨.push, 150, none, .ext (.s 1) 1⟩,
      ⟨.var 23, 24, none, .mov (.s 1)⟩,
      ⟨.var 24, 25, none, .mov (.s 0)⟩])
   (.test false [
     ⟨.push, 151, none, .mov (.v 24)⟩,
     ⟨.push, 152, none, .bin false .neq (.s 0) (.c (.int .i64 (0)))⟩,
     ⟨.push, 153, none, .mov (.s 0)⟩,
     ⟨.push, 154, (some ((.s 0), false)), .mov (.v 23)⟩,
     ⟨.push, 155, (some ((.s 1), false)), .len false (.s 0)⟩,
     ⟨.push, 156, (some ((.s 2), false)), .bin false .neq (.s 0) (.c (.int .i64 (0)))⟩,
     ⟨.push, 157, none, .pick (.s 3) (.c (.bool true)) (.s 0)⟩] (.s 0)
   (.seq (.region false [
       ⟨.var 1, 2, none, .mov (.c (.bool false))⟩])
    (.ret))
   (.skip)))
  (.skip))
 (.seq (.test false [
    ⟨.push, 158, none, .mov (.v 6)⟩,
    ⟨.push, 159, none, .bin false .neq (.s 0) (.c (.int .i64 (0)))⟩] (.s 0)
  (.seq (.region false [
      ⟨.var 1, 2, none, .mov (.c (.bool true))⟩])
   (.ret))
  (.skip))
 (.seq (.seq (.region false [
     ⟨.var 25, 26, none, .mov (.c (.int .i64 (0)))⟩])
  (.block 4 (.loop ir3_k2 ir3_o2 ir3_r2 ir3_b2)))
 (.seq (.region false [
    ⟨.push, 195, none, .mov (.v 7)⟩,
    ⟨.push, 196, none, .len false (.s 0)⟩,
    ⟨.push, 197, none, .mov (.v 3)⟩,
    ⟨.push, 198, none, .bin false .eql (.s 1) (.s 0)⟩,
    ⟨.var 1, 2, none, .mov (.s 0)⟩])
 (.ret)))))))))))))))))), [.t 1]⟩
noncomputable def t_laws_FnSampled : List (Nat × Ctr) := [(6, c_laws_f6big), (7, c_spec_DrawSampleOf), (8, c_impl_SampleOf), (9, c_spec_SampleOf), (10, c_spec_DrawCountFaults), (11, c_impl_CountFaults), (12, c_spec_CountFaults), (13, c_spec_DrawNewFaults), (14, c_impl_NewFaults), (15, c_spec_NewFaults), (16, c_laws_f6ints)]
theorem lk_laws_FnSampled_6 : look t_laws_FnSampled 6 = some c_laws_f6big := rfl
theorem lk_laws_FnSampled_7 : look t_laws_FnSampled 7 = some c_spec_DrawSampleOf := rfl
theorem lk_laws_FnSampled_8 : look t_laws_FnSampled 8 = some c_impl_SampleOf := rfl
theorem lk_laws_FnSampled_9 : look t_laws_FnSampled 9 = some c_spec_SampleOf := rfl
theorem lk_laws_FnSampled_10 : look t_laws_FnSampled 10 = some c_spec_DrawCountFaults := rfl
theorem lk_laws_FnSampled_11 : look t_laws_FnSampled 11 = some c_impl_CountFaults := rfl
theorem lk_laws_FnSampled_12 : look t_laws_FnSampled 12 = some c_spec_CountFaults := rfl
theorem lk_laws_FnSampled_13 : look t_laws_FnSampled 13 = some c_spec_DrawNewFaults := rfl
theorem lk_laws_FnSampled_14 : look t_laws_FnSampled 14 = some c_impl_NewFaults := rfl
theorem lk_laws_FnSampled_15 : look t_laws_FnSampled 15 = some c_spec_NewFaults := rfl
theorem lk_laws_FnSampled_16 : look t_laws_FnSampled 16 = some c_laws_f6ints := rfl
noncomputable def c_laws_FnSampled : Ctr := mkF t_laws_FnSampled ir3 [.bor]
theorem s_laws_FnSampled : Sound Try.prog 3 c_laws_FnSampled := mkF_sound _ rfl (snd_cons s_laws_f6big (snd_cons s_spec_DrawSampleOf (snd_cons s_impl_SampleOf (snd_cons s_spec_SampleOf (snd_cons s_spec_DrawCountFaults (snd_cons s_impl_CountFaults (snd_cons s_spec_CountFaults (snd_cons s_spec_DrawNewFaults (snd_cons s_impl_NewFaults (snd_cons s_spec_NewFaults (snd_cons s_laws_f6ints snd_nil))))))))))) (by kernel_rfl : chkFn Try.prog 3 ir3 ir3_v = true)
theorem M_laws_FnSampled : c_laws_FnSampled.modes = [.bor] := rfl
theorem Fl_laws_FnSampled : c_laws_FnSampled.flat = true := rfl
attribute [go_sem] M_laws_FnSampled Fl_laws_FnSampled
attribute [go_sem] lk_laws_FnSampled_6 lk_laws_FnSampled_7 lk_laws_FnSampled_8 lk_laws_FnSampled_9 lk_laws_FnSampled_10 lk_laws_FnSampled_11 lk_laws_FnSampled_12 lk_laws_FnSampled_13 lk_laws_FnSampled_14 lk_laws_FnSampled_15 lk_laws_FnSampled_16
def E_laws_FnSampled_l1 (count : Int) (many : Int) (bad : Int) (model : List Int) (f : List Fault) (one : Int) (right_ : List Int) (now : List Fault) (fresh : List Fault) (three : Int) (some_ : List Fault) : Int → St
  | i => ⟨[.any, .any, .int .i64 count, .int .i64 many, .any, .any, .int .i64 bad, .own 3200000, .any, .own 3200032, .any, .int .i64 one, .own 3200064, .any, .any, .sl 2 (List.map Fault_av now), .own 3200096, .int .i64 three, .own 3200128, .any, .int .i64 i, .any, .any, .any, .any, .any], [], [(3200000, ⟨1, List.map (AV.int .i64) model⟩), (3200032, ⟨2, List.map Fault_av f⟩), (3200064, ⟨1, List.map (AV.int .i64) right_⟩), (3200096, ⟨2, List.map Fault_av fresh⟩), (3200128, ⟨2, List.map Fault_av some_⟩)], true⟩
def R_laws_FnSampled_l1 (count : Int) (many : Int) (bad : Int) (model : List Int) (f : List Fault) (one : Int) (right_ : List Int) (now : List Fault) (fresh : List Fault) (three : Int) (some_ : List Fault) : (Unit ⊕ Bool) → Res
  | .inl y => (.exit 0, ⟨[.any, .any, .int .i64 count, .int .i64 many, .any, .any, .int .i64 bad, .own 3200000, .any, .own 3200032, .any, .int .i64 one, .own 3200064, .any, .any, .sl 2 (List.map Fault_av now), .any, .int .i64 three, .any, .any, .any, .any, .any, .any, .any, .any], [], [(3200000, ⟨1, List.map (AV.int .i64) model⟩), (3200032, ⟨2, List.map Fault_av f⟩), (3200064, ⟨1, List.map (AV.int .i64) right_⟩)], true⟩)
  | .inr y => (.ret, ⟨[.any, .bool y, .any, .any, .any, .any, .any, .any, .any, .any, .any, .any, .any, .any, .any, .any, .any, .any, .any, .any, .any, .any, .any, .any, .any, .any], [], [], true⟩)
theorem laws_FnSampled_l1_ex {count : Int} {many : Int} {bad : Int} {model : List Int} {f : List Fault} {one : Int} {right_ : List Int} {now : List Fault} {fresh : List Fault} {three : Int} {some_ : List Fault} {sgm_ : Int} {rho_ : Unit ⊕ Bool} (h : whileE (laws_FnSampled_l1 count many bad model f one right_ now fresh three some_) sgm_ = some rho_) : ∃ L0, ∀ L, L0 ≤ L → iter (exec (look t_laws_FnSampled) L ir3_b0) ir3_k0 ir3_o0 ir3_r0 L (E_laws_FnSampled_l1 count many bad model f one right_ now fresh three some_ sgm_) = R_laws_FnSampled_l1 count many bad model f one right_ now fresh three some_ rho_ := by
  refine loop_ex (E := E_laws_FnSampled_l1 count many bad model f one right_ now fresh three some_) (R := R_laws_FnSampled_l1 count many bad model f one right_ now fresh three some_) (fun y => by first | (intro c; cases c) | (rcases y with y | y <;> (intro c; cases c)) | (rcases y with y | y | y <;> (intro c; cases c))) ?_ h
  clear h
  intro i o_ h
  dsimp only [laws_FnSampled_l1] at h
  rcases it_some h with ⟨hk15, h⟩ | ⟨hk15, h⟩
  · try simp only [go_sem, n1, n2, n3, n4] at hk15
    all_goals
    obtain ⟨hk16, h⟩ := ck_some h
    have lhk16 := ix_lt hk16
    have xhk16 := getD_mapD Fault_av fresh lhk16
    try simp only [go_sem] at lhk16
    try simp only [go_sem] at xhk16
    try simp only [go_sem, n1, n2, n3, n4, hk15] at hk16
    all_goals
    obtain ⟨hk17, h⟩ := ck_some h
    have lhk17 := ix_lt hk17
    have xhk17 := getD_mapD Fault_av some_ lhk17
    try simp only [go_sem] at lhk17
    try simp only [go_sem] at xhk17
    try simp only [go_sem, n1, n2, n3, n4, hk15, hk16] at hk17
    all_goals
    rcases it_some h with ⟨hk18, h⟩ | ⟨hk18, h⟩
    · try simp only [go_sem, n1, n2, n3, n4, hk15, hk16, hk17] at hk18
      all_goals
      obtain rfl := so_some h
      refine ⟨0, fun L hL => ?_⟩
      simp only [go_sem, ir3, E_laws_FnSampled_l1, R_laws_FnSampled_l1, ir3_b0, ir3_k0, ir3_o0, ir3_r0, hk15, hk16, lhk16, xhk16, hk17, lhk17, xhk17, hk18]
    · try simp only [go_sem, n1, n2, n3, n4, hk15, hk16, hk17] at hk18
      all_goals
      obtain rfl := so_some h
      refine ⟨0, fun L hL => ?_⟩
      simp only [go_sem, ir3, E_laws_FnSampled_l1, R_laws_FnSampled_l1, ir3_b0, ir3_k0, ir3_o0, ir3_r0, hk15, hk16, lhk16, xhk16, hk17, lhk17, xhk17, hk18]
  · try simp only [go_sem, n1, n2, n3, n4] at hk15
    all_goals
    obtain rfl := so_some h
    refine ⟨0, fun L hL => ?_⟩
    simp only [go_sem, ir3, E_laws_FnSampled_l1, R_laws_FnSampled_l1, ir3_b0, ir3_k0, ir3_o0, ir3_r0, hk15]

def E_laws_FnSampled_l2 (count : Int) (many : Int) (bad : Int) (model : List Int) (f : List Fault) (right_ : List Int) (now : List Fault) (three : Int) : (Int × Int) → St
  | (sum, i) => ⟨[.any, .any, .int .i64 count, .int .i64 many, .any, .any, .int .i64 bad, .own 3200000, .any, .own 3200032, .any, .any, .own 3200064, .any, .any, .sl 2 (List.map Fault_av now), .any, .int .i64 three, .any, .any, .any, .int .i64 sum, .int .i64 i, .any, .any, .any], [], [(3200000, ⟨1, List.map (AV.int .i64) model⟩), (3200032, ⟨2, List.map Fault_av f⟩), (3200064, ⟨1, List.map (AV.int .i64) right_⟩)], true⟩
def R_laws_FnSampled_l2 (count : Int) (many : Int) (bad : Int) (model : List Int) (f : List Fault) (right_ : List Int) (now : List Fault) (three : Int) (y : Int) : Res := (.exit 2, ⟨[.any, .any, .int .i64 count, .int .i64 many, .any, .any, .int .i64 bad, .own 3200000, .any, .own 3200032, .any, .any, .any, .any, .any, .sl 2 (List.map Fault_av now), .any, .int .i64 three, .any, .any, .any, .int .i64 y, .any, .any, .any, .any], [], [(3200000, ⟨1, List.map (AV.int .i64) model⟩), (3200032, ⟨2, List.map Fault_av f⟩)], true⟩)
theorem laws_FnSampled_l2_ex {count : Int} {many : Int} {bad : Int} {model : List Int} {f : List Fault} {right_ : List Int} {now : List Fault} {three : Int} {sgm_ : Int × Int} {rho_ : Int} (h : whileE (laws_FnSampled_l2 count many bad model f right_ now three) sgm_ = some rho_) : ∃ L0, ∀ L, L0 ≤ L → iter (exec (look t_laws_FnSampled) L ir3_b1) ir3_k1 ir3_o1 ir3_r1 L (E_laws_FnSampled_l2 count many bad model f right_ now three sgm_) = R_laws_FnSampled_l2 count many bad model f right_ now three rho_ := by
  refine loop_ex (E := E_laws_FnSampled_l2 count many bad model f right_ now three) (R := R_laws_FnSampled_l2 count many bad model f right_ now three) (fun y => by first | (intro c; cases c) | (rcases y with y | y <;> (intro c; cases c)) | (rcases y with y | y | y <;> (intro c; cases c))) ?_ h
  clear h
  rintro ⟨sum, i⟩ o_ h
  dsimp only [laws_FnSampled_l2] at h
  rcases it_some h with ⟨hk21, h⟩ | ⟨hk21, h⟩
  · try simp only [go_sem, n1, n2, n3, n4] at hk21
    all_goals
    obtain ⟨hk22, h⟩ := ck_some h
    have lhk22 := ix_lt hk22
    have xhk22 := getD_mapD (AV.int .i64) right_ lhk22
    try simp only [go_sem] at lhk22
    try simp only [go_sem] at xhk22
    try simp only [go_sem, n1, n2, n3, n4, hk21] at hk22
    all_goals
    obtain rfl := so_some h
    refine ⟨0, fun L hL => ?_⟩
    simp only [go_sem, ir3, E_laws_FnSampled_l2, R_laws_FnSampled_l2, ir3_b1, ir3_k1, ir3_o1, ir3_r1, E_laws_FnSampled_l1, R_laws_FnSampled_l1, ir3_k0, ir3_o0, ir3_r0, hk21, hk22, lhk22, xhk22]
  · try simp only [go_sem, n1, n2, n3, n4] at hk21
    all_goals
    obtain rfl := so_some h
    refine ⟨0, fun L hL => ?_⟩
    simp only [go_sem, ir3, E_laws_FnSampled_l2, R_laws_FnSampled_l2, ir3_b1, ir3_k1, ir3_o1, ir3_r1, E_laws_FnSampled_l1, R_laws_FnSampled_l1, ir3_k0, ir3_o0, ir3_r0, hk21]

def E_laws_FnSampled_l3 (count : Int) (many : Int) (model : List Int) : Int → St
  | i => ⟨[.any, .any, .int .i64 count, .int .i64 many, .any, .any, .any, .own 3200000, .any, .any, .any, .any, .any, .any, .any, .any, .any, .any, .any, .any, .any, .any, .any, .any, .any, .int .i64 i], [], [(3200000, ⟨1, List.map (AV.int .i64) model⟩)], true⟩
def R_laws_FnSampled_l3 (count : Int) (many : Int) (model : List Int) : (Unit ⊕ Bool) → Res
  | .inl y => (.exit 4, ⟨[.any, .any, .any, .int .i64 many, .any, .any, .any, .own 3200000, .any, .any, .any, .any, .any, .any, .any, .any, .any, .any, .any, .any, .any, .any, .any, .any, .any, .any], [], [(3200000, ⟨1, List.map (AV.int .i64) model⟩)], true⟩)
  | .inr y => (.ret, ⟨[.any, .bool y, .any, .any, .any, .any, .any, .any, .any, .any, .any, .any, .any, .any, .any, .any, .any, .any, .any, .any, .any, .any, .any, .any, .any, .any], [], [], true⟩)
theorem laws_FnSampled_l3_ex {count : Int} {many : Int} {model : List Int} {sgm_ : Int} {rho_ : Unit ⊕ Bool} (h : whileE (laws_FnSampled_l3 count many model) sgm_ = some rho_) : ∃ L0, ∀ L, L0 ≤ L → iter (exec (look t_laws_FnSampled) L ir3_b2) ir3_k2 ir3_o2 ir3_r2 L (E_laws_FnSampled_l3 count many model sgm_) = R_laws_FnSampled_l3 count many model rho_ := by
  refine loop_ex (E := E_laws_FnSampled_l3 count many model) (R := R_laws_FnSampled_l3 count many model) (fun y => by first | (intro c; cases c) | (rcases y with y | y <;> (intro c; cases c)) | (rcases y with y | y | y <;> (intro c; cases c))) ?_ h
  clear h
  intro i o_ h
  dsimp only [laws_FnSampled_l3] at h
  rcases it_some h with ⟨hk29, h⟩ | ⟨hk29, h⟩
  · try simp only [go_sem, n1, n2, n3, n4] at hk29
    all_goals
    obtain ⟨hk30, h⟩ := ck_some h
    have lhk30 := ix_lt hk30
    have xhk30 := getD_mapD (AV.int .i64) model lhk30
    try simp only [go_sem] at lhk30
    try simp only [go_sem] at xhk30
    try simp only [go_sem, n1, n2, n3, n4, hk29] at hk30
    all_goals
    obtain ⟨hk31, h⟩ := ck_some h
    rcases or_split hk31 with ⟨ghk31, hk31⟩ | ghk31
    · try simp only [go_sem, n1, n2, n3, n4, hk29, hk30] at ghk31
      all_goals
      have lhk31 := ix_lt hk31
      have xhk31 := getD_mapD (AV.int .i64) model lhk31
      try simp only [go_sem] at lhk31
      try simp only [go_sem] at xhk31
      try simp only [go_sem, n1, n2, n3, n4, hk29, hk30, ghk31] at hk31
      all_goals
      rcases it_some h with ⟨hk32, h⟩ | ⟨hk32, h⟩
      · try simp only [go_sem, n1, n2, n3, n4, hk29, hk30, ghk31, hk31] at hk32
        all_goals
        obtain rfl := so_some h
        refine ⟨0, fun L hL => ?_⟩
        simp only [go_sem, ir3, E_laws_FnSampled_l3, R_laws_FnSampled_l3, ir3_b2, ir3_k2, ir3_o2, ir3_r2, E_laws_FnSampled_l1, R_laws_FnSampled_l1, ir3_k0, ir3_o0, ir3_r0, E_laws_FnSampled_l2, R_laws_FnSampled_l2, ir3_k1, ir3_o1, ir3_r1, hk29, hk30, lhk30, xhk30, ghk31, hk31, lhk31, xhk31, hk32]
      · try simp only [go_sem, n1, n2, n3, n4, hk29, hk30, ghk31, hk31] at hk32
        all_goals
        obtain rfl := so_some h
        refine ⟨0, fun L hL => ?_⟩
        simp only [go_sem, ir3, E_laws_FnSampled_l3, R_laws_FnSampled_l3, ir3_b2, ir3_k2, ir3_o2, ir3_r2, E_laws_FnSampled_l1, R_laws_FnSampled_l1, ir3_k0, ir3_o0, ir3_r0, E_laws_FnSampled_l2, R_laws_FnSampled_l2, ir3_k1, ir3_o1, ir3_r1, hk29, hk30, lhk30, xhk30, ghk31, hk31, lhk31, xhk31, hk32]
    · rcases and_f ghk31 with ghk31a | ⟨ghk31a, ghk31b⟩
      · have ghk31an := no_f ghk31a
        rcases or_t ghk31an with ghk31ana | ⟨ghk31ana, ghk31anb⟩
        · try simp only [go_sem, n1, n2, n3, n4, hk29, hk30] at ghk31ana
          all_goals
          rcases it_some h with ⟨hk32, h⟩ | ⟨hk32, h⟩
          · try simp only [go_sem, n1, n2, n3, n4, hk29, hk30, ghk31ana] at hk32
            all_goals
            obtain rfl := so_some h
            refine ⟨0, fun L hL => ?_⟩
            simp only [go_sem, ir3, E_laws_FnSampled_l3, R_laws_FnSampled_l3, ir3_b2, ir3_k2, ir3_o2, ir3_r2, E_laws_FnSampled_l1, R_laws_FnSampled_l1, ir3_k0, ir3_o0, ir3_r0, E_laws_FnSampled_l2, R_laws_FnSampled_l2, ir3_k1, ir3_o1, ir3_r1, hk29, hk30, lhk30, xhk30, ghk31ana, hk32]
          · try simp only [go_sem, n1, n2, n3, n4, hk29, hk30, ghk31ana] at hk32
            all_goals
            (simp_all)
        · try simp only [go_sem, n1, n2, n3, n4, hk29, hk30] at ghk31ana
          all_goals
          try simp only [go_sem, n1, n2, n3, n4, hk29, hk30, ghk31ana] at ghk31anb
          all_goals
          rcases it_some h with ⟨hk32, h⟩ | ⟨hk32, h⟩
          · try simp only [go_sem, n1, n2, n3, n4, hk29, hk30, ghk31ana, ghk31anb] at hk32
            all_goals
            obtain rfl := so_some h
            refine ⟨0, fun L hL => ?_⟩
            simp only [go_sem, ir3, E_laws_FnSampled_l3, R_laws_FnSampled_l3, ir3_b2, ir3_k2, ir3_o2, ir3_r2, E_laws_FnSampled_l1, R_laws_FnSampled_l1, ir3_k0, ir3_o0, ir3_r0, E_laws_FnSampled_l2, R_laws_FnSampled_l2, ir3_k1, ir3_o1, ir3_r1, hk29, hk30, lhk30, xhk30, ghk31ana, ghk31anb, hk32]
          · try simp only [go_sem, n1, n2, n3, n4, hk29, hk30, ghk31ana, ghk31anb] at hk32
            all_goals
            (simp_all)
      · have ghk31an := no_t ghk31a
        obtain ⟨ghk31ana, ghk31anb⟩ := or_f ghk31an
        try simp only [go_sem, n1, n2, n3, n4, hk29, hk30] at ghk31ana
        all_goals
        try simp only [go_sem, n1, n2, n3, n4, hk29, hk30, ghk31ana] at ghk31anb
        all_goals
        try simp only [go_sem, n1, n2, n3, n4, hk29, hk30, ghk31ana, ghk31anb] at ghk31b
        all_goals
        rcases it_some h with ⟨hk32, h⟩ | ⟨hk32, h⟩
        · try simp only [go_sem, n1, n2, n3, n4, hk29, hk30, ghk31ana, ghk31anb, ghk31b] at hk32
          all_goals
          (simp_all)
        · try simp only [go_sem, n1, n2, n3, n4, hk29, hk30, ghk31ana, ghk31anb, ghk31b] at hk32
          all_goals
          obtain rfl := so_some h
          refine ⟨0, fun L hL => ?_⟩
          simp only [go_sem, ir3, E_laws_FnSampled_l3, R_laws_FnSampled_l3, ir3_b2, ir3_k2, ir3_o2, ir3_r2, E_laws_FnSampled_l1, R_laws_FnSampled_l1, ir3_k0, ir3_o0, ir3_r0, E_laws_FnSampled_l2, R_laws_FnSampled_l2, ir3_k1, ir3_o1, ir3_r1, hk29, hk30, lhk30, xhk30, ghk31ana, ghk31anb, ghk31b, hk32]
  · try simp only [go_sem, n1, n2, n3, n4] at hk29
    all_goals
    obtain rfl := so_some h
    refine ⟨0, fun L hL => ?_⟩
    simp only [go_sem, ir3, E_laws_FnSampled_l3, R_laws_FnSampled_l3, ir3_b2, ir3_k2, ir3_o2, ir3_r2, E_laws_FnSampled_l1, R_laws_FnSampled_l1, ir3_k0, ir3_o0, ir3_r0, E_laws_FnSampled_l2, R_laws_FnSampled_l2, ir3_k1, ir3_o1, ir3_r1, hk29]

def E_laws_FnSampled_l4 (count : Int) (many : Int) (model : List Int) : Int → St
  | i => ⟨[.any, .any, .int .i64 count, .int .i64 many, .any, .any, .any, .own 3200000, .any, .any, .any, .any, .any, .any, .any, .any, .any, .any, .any, .any, .any, .any, .any, .any, .any, .int .i64 i], [], [(3200000, ⟨1, List.map (AV.int .i64) model⟩)], true⟩
def R_laws_FnSampled_l4 (count : Int) (many : Int) (model : List Int) : (Unit ⊕ Bool) → Res
  | .inl y => (.exit 4, ⟨[.any, .any, .any, .int .i64 many, .any, .any, .any, .own 3200000, .any, .any, .any, .any, .any, .any, .any, .any, .any, .any, .any, .any, .any, .any, .any, .any, .any, .any], [], [(3200000, ⟨1, List.map (AV.int .i64) model⟩)], true⟩)
  | .inr y => (.ret, ⟨[.any, .bool y, .any, .any, .any, .any, .any, .any, .any, .any, .any, .any, .any, .any, .any, .any, .any, .any, .any, .any, .any, .any, .any, .any, .any, .any], [], [], true⟩)
theorem laws_FnSampled_l4_ex {count : Int} {many : Int} {model : List Int} {sgm_ : Int} {rho_ : Unit ⊕ Bool} (h : whileE (laws_FnSampled_l4 count many model) sgm_ = some rho_) : ∃ L0, ∀ L, L0 ≤ L → iter (exec (look t_laws_FnSampled) L ir3_b2) ir3_k2 ir3_o2 ir3_r2 L (E_laws_FnSampled_l4 count many model sgm_) = R_laws_FnSampled_l4 count many model rho_ := by
  refine loop_ex (E := E_laws_FnSampled_l4 count many model) (R := R_laws_FnSampled_l4 count many model) (fun y => by first | (intro c; cases c) | (rcases y with y | y <;> (intro c; cases c)) | (rcases y with y | y | y <;> (intro c; cases c))) ?_ h
  clear h
  intro i o_ h
  dsimp only [laws_FnSampled_l4] at h
  rcases it_some h with ⟨hk35, h⟩ | ⟨hk35, h⟩
  · try simp only [go_sem, n1, n2, n3, n4] at hk35
    all_goals
    obtain ⟨hk36, h⟩ := ck_some h
    have lhk36 := ix_lt hk36
    have xhk36 := getD_mapD (AV.int .i64) model lhk36
    try simp only [go_sem] at lhk36
    try simp only [go_sem] at xhk36
    try simp only [go_sem, n1, n2, n3, n4, hk35] at hk36
    all_goals
    obtain ⟨hk37, h⟩ := ck_some h
    rcases or_split hk37 with ⟨ghk37, hk37⟩ | ghk37
    · try simp only [go_sem, n1, n2, n3, n4, hk35, hk36] at ghk37
      all_goals
      have lhk37 := ix_lt hk37
      have xhk37 := getD_mapD (AV.int .i64) model lhk37
      try simp only [go_sem] at lhk37
      try simp only [go_sem] at xhk37
      try simp only [go_sem, n1, n2, n3, n4, hk35, hk36, ghk37] at hk37
      all_goals
      rcases it_some h with ⟨hk38, h⟩ | ⟨hk38, h⟩
      · try simp only [go_sem, n1, n2, n3, n4, hk35, hk36, ghk37, hk37] at hk38
        all_goals
        obtain rfl := so_some h
        refine ⟨0, fun L hL => ?_⟩
        simp only [go_sem, ir3, E_laws_FnSampled_l4, R_laws_FnSampled_l4, ir3_b2, ir3_k2, ir3_o2, ir3_r2, E_laws_FnSampled_l1, R_laws_FnSampled_l1, ir3_k0, ir3_o0, ir3_r0, E_laws_FnSampled_l2, R_laws_FnSampled_l2, ir3_k1, ir3_o1, ir3_r1, E_laws_FnSampled_l3, R_laws_FnSampled_l3, ir3_k2, ir3_o2, ir3_r2, hk35, hk36, lhk36, xhk36, ghk37, hk37, lhk37, xhk37, hk38]
      · try simp only [go_sem, n1, n2, n3, n4, hk35, hk36, ghk37, hk37] at hk38
        all_goals
        obtain rfl := so_some h
        refine ⟨0, fun L hL => ?_⟩
        simp only [go_sem, ir3, E_laws_FnSampled_l4, R_laws_FnSampled_l4, ir3_b2, ir3_k2, ir3_o2, ir3_r2, E_laws_FnSampled_l1, R_laws_FnSampled_l1, ir3_k0, ir3_o0, ir3_r0, E_laws_FnSampled_l2, R_laws_FnSampled_l2, ir3_k1, ir3_o1, ir3_r1, E_laws_FnSampled_l3, R_laws_FnSampled_l3, ir3_k2, ir3_o2, ir3_r2, hk35, hk36, lhk36, xhk36, ghk37, hk37, lhk37, xhk37, hk38]
    · rcases and_f ghk37 with ghk37a | ⟨ghk37a, ghk37b⟩
      · have ghk37an := no_f ghk37a
        rcases or_t ghk37an with ghk37ana | ⟨ghk37ana, ghk37anb⟩
        · try simp only [go_sem, n1, n2, n3, n4, hk35, hk36] at ghk37ana
          all_goals
          rcases it_some h with ⟨hk38, h⟩ | ⟨hk38, h⟩
          · try simp only [go_sem, n1, n2, n3, n4, hk35, hk36, ghk37ana] at hk38
            all_goals
            obtain rfl := so_some h
            refine ⟨0, fun L hL => ?_⟩
            simp only [go_sem, ir3, E_laws_FnSampled_l4, R_laws_FnSampled_l4, ir3_b2, ir3_k2, ir3_o2, ir3_r2, E_laws_FnSampled_l1, R_laws_FnSampled_l1, ir3_k0, ir3_o0, ir3_r0, E_laws_FnSampled_l2, R_laws_FnSampled_l2, ir3_k1, ir3_o1, ir3_r1, E_laws_FnSampled_l3, R_laws_FnSampled_l3, ir3_k2, ir3_o2, ir3_r2, hk35, hk36, lhk36, xhk36, ghk37ana, hk38]
          · try simp only [go_sem, n1, n2, n3, n4, hk35, hk36, ghk37ana] at hk38
            all_goals
            (simp_all)
        · try simp only [go_sem, n1, n2, n3, n4, hk35, hk36] at ghk37ana
          all_goals
          try simp only [go_sem, n1, n2, n3, n4, hk35, hk36, ghk37ana] at ghk37anb
          all_goals
          rcases it_some h with ⟨hk38, h⟩ | ⟨hk38, h⟩
          · try simp only [go_sem, n1, n2, n3, n4, hk35, hk36, ghk37ana, ghk37anb] at hk38
            all_goals
            obtain rfl := so_some h
            refine ⟨0, fun L hL => ?_⟩
            simp only [go_sem, ir3, E_laws_FnSampled_l4, R_laws_FnSampled_l4, ir3_b2, ir3_k2, ir3_o2, ir3_r2, E_laws_FnSampled_l1, R_laws_FnSampled_l1, ir3_k0, ir3_o0, ir3_r0, E_laws_FnSampled_l2, R_laws_FnSampled_l2, ir3_k1, ir3_o1, ir3_r1, E_laws_FnSampled_l3, R_laws_FnSampled_l3, ir3_k2, ir3_o2, ir3_r2, hk35, hk36, lhk36, xhk36, ghk37ana, ghk37anb, hk38]
          · try simp only [go_sem, n1, n2, n3, n4, hk35, hk36, ghk37ana, ghk37anb] at hk38
            all_goals
            (simp_all)
      · have ghk37an := no_t ghk37a
        obtain ⟨ghk37ana, ghk37anb⟩ := or_f ghk37an
        try simp only [go_sem, n1, n2, n3, n4, hk35, hk36] at ghk37ana
        all_goals
        try simp only [go_sem, n1, n2, n3, n4, hk35, hk36, ghk37ana] at ghk37anb
        all_goals
        try simp only [go_sem, n1, n2, n3, n4, hk35, hk36, ghk37ana, ghk37anb] at ghk37b
        all_goals
        rcases it_some h with ⟨hk38, h⟩ | ⟨hk38, h⟩
        · try simp only [go_sem, n1, n2, n3, n4, hk35, hk36, ghk37ana, ghk37anb, ghk37b] at hk38
          all_goals
          (simp_all)
        · try simp only [go_sem, n1, n2, n3, n4, hk35, hk36, ghk37ana, ghk37anb, ghk37b] at hk38
          all_goals
          obtain rfl := so_some h
          refine ⟨0, fun L hL => ?_⟩
          simp only [go_sem, ir3, E_laws_FnSampled_l4, R_laws_FnSampled_l4, ir3_b2, ir3_k2, ir3_o2, ir3_r2, E_laws_FnSampled_l1, R_laws_FnSampled_l1, ir3_k0, ir3_o0, ir3_r0, E_laws_FnSampled_l2, R_laws_FnSampled_l2, ir3_k1, ir3_o1, ir3_r1, E_laws_FnSampled_l3, R_laws_FnSampled_l3, ir3_k2, ir3_o2, ir3_r2, hk35, hk36, lhk36, xhk36, ghk37ana, ghk37anb, ghk37b, hk38]
  · try simp only [go_sem, n1, n2, n3, n4] at hk35
    all_goals
    obtain rfl := so_some h
    refine ⟨0, fun L hL => ?_⟩
    simp only [go_sem, ir3, E_laws_FnSampled_l4, R_laws_FnSampled_l4, ir3_b2, ir3_k2, ir3_o2, ir3_r2, E_laws_FnSampled_l1, R_laws_FnSampled_l1, ir3_k0, ir3_o0, ir3_r0, E_laws_FnSampled_l2, R_laws_FnSampled_l2, ir3_k1, ir3_o1, ir3_r1, E_laws_FnSampled_l3, R_laws_FnSampled_l3, ir3_k2, ir3_o2, ir3_r2, hk35]

def E_laws_FnSampled_l5 (count : Int) (many : Int) (model : List Int) : Int → St
  | i => ⟨[.any, .any, .int .i64 count, .int .i64 many, .any, .any, .any, .own 3200000, .any, .any, .any, .any, .any, .any, .any, .any, .any, .any, .any, .any, .any, .any, .any, .any, .any, .int .i64 i], [], [(3200000, ⟨1, List.map (AV.int .i64) model⟩)], true⟩
def R_laws_FnSampled_l5 (count : Int) (many : Int) (model : List Int) : (Unit ⊕ Bool) → Res
  | .inl y => (.exit 4, ⟨[.any, .any, .any, .int .i64 many, .any, .any, .any, .own 3200000, .any, .any, .any, .any, .any, .any, .any, .any, .any, .any, .any, .any, .any, .any, .any, .any, .any, .any], [], [(3200000, ⟨1, List.map (AV.int .i64) model⟩)], true⟩)
  | .inr y => (.ret, ⟨[.any, .bool y, .any, .any, .any, .any, .any, .any, .any, .any, .any, .any, .any, .any, .any, .any, .any, .any, .any, .any, .any, .any, .any, .any, .any, .any], [], [], true⟩)
theorem laws_FnSampled_l5_ex {count : Int} {many : Int} {model : List Int} {sgm_ : Int} {rho_ : Unit ⊕ Bool} (h : whileE (laws_FnSampled_l5 count many model) sgm_ = some rho_) : ∃ L0, ∀ L, L0 ≤ L → iter (exec (look t_laws_FnSampled) L ir3_b2) ir3_k2 ir3_o2 ir3_r2 L (E_laws_FnSampled_l5 count many model sgm_) = R_laws_FnSampled_l5 count many model rho_ := by
  refine loop_ex (E := E_laws_FnSampled_l5 count many model) (R := R_laws_FnSampled_l5 count many model) (fun y => by first | (intro c; cases c) | (rcases y with y | y <;> (intro c; cases c)) | (rcases y with y | y | y <;> (intro c; cases c))) ?_ h
  clear h
  intro i o_ h
  dsimp only [laws_FnSampled_l5] at h
  rcases it_some h with ⟨hk44, h⟩ | ⟨hk44, h⟩
  · try simp only [go_sem, n1, n2, n3, n4] at hk44
    all_goals
    obtain ⟨hk45, h⟩ := ck_some h
    have lhk45 := ix_lt hk45
    have xhk45 := getD_mapD (AV.int .i64) model lhk45
    try simp only [go_sem] at lhk45
    try simp only [go_sem] at xhk45
    try simp only [go_sem, n1, n2, n3, n4, hk44] at hk45
    all_goals
    obtain ⟨hk46, h⟩ := ck_some h
    rcases or_split hk46 with ⟨ghk46, hk46⟩ | ghk46
    · try simp only [go_sem, n1, n2, n3, n4, hk44, hk45] at ghk46
      all_goals
      have lhk46 := ix_lt hk46
      have xhk46 := getD_mapD (AV.int .i64) model lhk46
      try simp only [go_sem] at lhk46
      try simp only [go_sem] at xhk46
      try simp only [go_sem, n1, n2, n3, n4, hk44, hk45, ghk46] at hk46
      all_goals
      rcases it_some h with ⟨hk47, h⟩ | ⟨hk47, h⟩
      · try simp only [go_sem, n1, n2, n3, n4, hk44, hk45, ghk46, hk46] at hk47
        all_goals
        obtain rfl := so_some h
        refine ⟨0, fun L hL => ?_⟩
        simp only [go_sem, ir3, E_laws_FnSampled_l5, R_laws_FnSampled_l5, ir3_b2, ir3_k2, ir3_o2, ir3_r2, E_laws_FnSampled_l1, R_laws_FnSampled_l1, ir3_k0, ir3_o0, ir3_r0, E_laws_FnSampled_l2, R_laws_FnSampled_l2, ir3_k1, ir3_o1, ir3_r1, E_laws_FnSampled_l3, R_laws_FnSampled_l3, ir3_k2, ir3_o2, ir3_r2, E_laws_FnSampled_l4, R_laws_FnSampled_l4, ir3_k2, ir3_o2, ir3_r2, hk44, hk45, lhk45, xhk45, ghk46, hk46, lhk46, xhk46, hk47]
      · try simp only [go_sem, n1, n2, n3, n4, hk44, hk45, ghk46, hk46] at hk47
        all_goals
        obtain rfl := so_some h
        refine ⟨0, fun L hL => ?_⟩
        simp only [go_sem, ir3, E_laws_FnSampled_l5, R_laws_FnSampled_l5, ir3_b2, ir3_k2, ir3_o2, ir3_r2, E_laws_FnSampled_l1, R_laws_FnSampled_l1, ir3_k0, ir3_o0, ir3_r0, E_laws_FnSampled_l2, R_laws_FnSampled_l2, ir3_k1, ir3_o1, ir3_r1, E_laws_FnSampled_l3, R_laws_FnSampled_l3, ir3_k2, ir3_o2, ir3_r2, E_laws_FnSampled_l4, R_laws_FnSampled_l4, ir3_k2, ir3_o2, ir3_r2, hk44, hk45, lhk45, xhk45, ghk46, hk46, lhk46, xhk46, hk47]
    · rcases and_f ghk46 with ghk46a | ⟨ghk46a, ghk46b⟩
      · have ghk46an := no_f ghk46a
        rcases or_t ghk46an with ghk46ana | ⟨ghk46ana, ghk46anb⟩
        · try simp only [go_sem, n1, n2, n3, n4, hk44, hk45] at ghk46ana
          all_goals
          rcases it_some h with ⟨hk47, h⟩ | ⟨hk47, h⟩
          · try simp only [go_sem, n1, n2, n3, n4, hk44, hk45, ghk46ana] at hk47
            all_goals
            obtain rfl := so_some h
            refine ⟨0, fun L hL => ?_⟩
            simp only [go_sem, ir3, E_laws_FnSampled_l5, R_laws_FnSampled_l5, ir3_b2, ir3_k2, ir3_o2, ir3_r2, E_laws_FnSampled_l1, R_laws_FnSampled_l1, ir3_k0, ir3_o0, ir3_r0, E_laws_FnSampled_l2, R_laws_FnSampled_l2, ir3_k1, ir3_o1, ir3_r1, E_laws_FnSampled_l3, R_laws_FnSampled_l3, ir3_k2, ir3_o2, ir3_r2, E_laws_FnSampled_l4, R_laws_FnSampled_l4, ir3_k2, ir3_o2, ir3_r2, hk44, hk45, lhk45, xhk45, ghk46ana, hk47]
          · try simp only [go_sem, n1, n2, n3, n4, hk44, hk45, ghk46ana] at hk47
            all_goals
            (simp_all)
        · try simp only [go_sem, n1, n2, n3, n4, hk44, hk45] at ghk46ana
          all_goals
          try simp only [go_sem, n1, n2, n3, n4, hk44, hk45, ghk46ana] at ghk46anb
          all_goals
          rcases it_some h with ⟨hk47, h⟩ | ⟨hk47, h⟩
          · try simp only [go_sem, n1, n2, n3, n4, hk44, hk45, ghk46ana, ghk46anb] at hk47
            all_goals
            obtain rfl := so_some h
            refine ⟨0, fun L hL => ?_⟩
            simp only [go_sem, ir3, E_laws_FnSampled_l5, R_laws_FnSampled_l5, ir3_b2, ir3_k2, ir3_o2, ir3_r2, E_laws_FnSampled_l1, R_laws_FnSampled_l1, ir3_k0, ir3_o0, ir3_r0, E_laws_FnSampled_l2, R_laws_FnSampled_l2, ir3_k1, ir3_o1, ir3_r1, E_laws_FnSampled_l3, R_laws_FnSampled_l3, ir3_k2, ir3_o2, ir3_r2, E_laws_FnSampled_l4, R_laws_FnSampled_l4, ir3_k2, ir3_o2, ir3_r2, hk44, hk45, lhk45, xhk45, ghk46ana, ghk46anb, hk47]
          · try simp only [go_sem, n1, n2, n3, n4, hk44, hk45, ghk46ana, ghk46anb] at hk47
            all_goals
            (simp_all)
      · have ghk46an := no_t ghk46a
        obtain ⟨ghk46ana, ghk46anb⟩ := or_f ghk46an
        try simp only [go_sem, n1, n2, n3, n4, hk44, hk45] at ghk46ana
        all_goals
        try simp only [go_sem, n1, n2, n3, n4, hk44, hk45, ghk46ana] at ghk46anb
        all_goals
        try simp only [go_sem, n1, n2, n3, n4, hk44, hk45, ghk46ana, ghk46anb] at ghk46b
        all_goals
        rcases it_some h with ⟨hk47, h⟩ | ⟨hk47, h⟩
        · try simp only [go_sem, n1, n2, n3, n4, hk44, hk45, ghk46ana, ghk46anb, ghk46b] at hk47
          all_goals
          (simp_all)
        · try simp only [go_sem, n1, n2, n3, n4, hk44, hk45, ghk46ana, ghk46anb, ghk46b] at hk47
          all_goals
          obtain rfl := so_some h
          refine ⟨0, fun L hL => ?_⟩
          simp only [go_sem, ir3, E_laws_FnSampled_l5, R_laws_FnSampled_l5, ir3_b2, ir3_k2, ir3_o2, ir3_r2, E_laws_FnSampled_l1, R_laws_FnSampled_l1, ir3_k0, ir3_o0, ir3_r0, E_laws_FnSampled_l2, R_laws_FnSampled_l2, ir3_k1, ir3_o1, ir3_r1, E_laws_FnSampled_l3, R_laws_FnSampled_l3, ir3_k2, ir3_o2, ir3_r2, E_laws_FnSampled_l4, R_laws_FnSampled_l4, ir3_k2, ir3_o2, ir3_r2, hk44, hk45, lhk45, xhk45, ghk46ana, ghk46anb, ghk46b, hk47]
  · try simp only [go_sem, n1, n2, n3, n4] at hk44
    all_goals
    obtain rfl := so_some h
    refine ⟨0, fun L hL => ?_⟩
    simp only [go_sem, ir3, E_laws_FnSampled_l5, R_laws_FnSampled_l5, ir3_b2, ir3_k2, ir3_o2, ir3_r2, E_laws_FnSampled_l1, R_laws_FnSampled_l1, ir3_k0, ir3_o0, ir3_r0, E_laws_FnSampled_l2, R_laws_FnSampled_l2, ir3_k1, ir3_o1, ir3_r1, E_laws_FnSampled_l3, R_laws_FnSampled_l3, ir3_k2, ir3_o2, ir3_r2, E_laws_FnSampled_l4, R_laws_FnSampled_l4, ir3_k2, ir3_o2, ir3_r2, hk44]

def E_laws_FnSampled_l6 (count : Int) (many : Int) (model : List Int) : Int → St
  | i => ⟨[.any, .any, .int .i64 count, .int .i64 many, .any, .any, .any, .own 3200000, .any, .any, .any, .any, .any, .any, .any, .any, .any, .any, .any, .any, .any, .any, .any, .any, .any, .int .i64 i], [], [(3200000, ⟨1, List.map (AV.int .i64) model⟩)], true⟩
def R_laws_FnSampled_l6 (count : Int) (many : Int) (model : List Int) : (Unit ⊕ Bool) → Res
  | .inl y => (.exit 4, ⟨[.any, .any, .any, .int .i64 many, .any, .any, .any, .own 3200000, .any, .any, .any, .any, .any, .any, .any, .any, .any, .any, .any, .any, .any, .any, .any, .any, .any, .any], [], [(3200000, ⟨1, List.map (AV.int .i64) model⟩)], true⟩)
  | .inr y => (.ret, ⟨[.any, .bool y, .any, .any, .any, .any, .any, .any, .any, .any, .any, .any, .any, .any, .any, .any, .any, .any, .any, .any, .any, .any, .any, .any, .any, .any], [], [], true⟩)
theorem laws_FnSampled_l6_ex {count : Int} {many : Int} {model : List Int} {sgm_ : Int} {rho_ : Unit ⊕ Bool} (h : whileE (laws_FnSampled_l6 count many model) sgm_ = some rho_) : ∃ L0, ∀ L, L0 ≤ L → iter (exec (look t_laws_FnSampled) L ir3_b2) ir3_k2 ir3_o2 ir3_r2 L (E_laws_FnSampled_l6 count many model sgm_) = R_laws_FnSampled_l6 count many model rho_ := by
  refine loop_ex (E := E_laws_FnSampled_l6 count many model) (R := R_laws_FnSampled_l6 count many model) (fun y => by first | (intro c; cases c) | (rcases y with y | y <;> (intro c; cases c)) | (rcases y with y | y | y <;> (intro c; cases c))) ?_ h
  clear h
  intro i o_ h
  dsimp only [laws_FnSampled_l6] at h
  rcases it_some h with ⟨hk50, h⟩ | ⟨hk50, h⟩
  · try simp only [go_sem, n1, n2, n3, n4] at hk50
    all_goals
    obtain ⟨hk51, h⟩ := ck_some h
    have lhk51 := ix_lt hk51
    have xhk51 := getD_mapD (AV.int .i64) model lhk51
    try simp only [go_sem] at lhk51
    try simp only [go_sem] at xhk51
    try simp only [go_sem, n1, n2, n3, n4, hk50] at hk51
    all_goals
    obtain ⟨hk52, h⟩ := ck_some h
    rcases or_split hk52 with ⟨ghk52, hk52⟩ | ghk52
    · try simp only [go_sem, n1, n2, n3, n4, hk50, hk51] at ghk52
      all_goals
      have lhk52 := ix_lt hk52
      have xhk52 := getD_mapD (AV.int .i64) model lhk52
      try simp only [go_sem] at lhk52
      try simp only [go_sem] at xhk52
      try simp only [go_sem, n1, n2, n3, n4, hk50, hk51, ghk52] at hk52
      all_goals
      rcases it_some h with ⟨hk53, h⟩ | ⟨hk53, h⟩
      · try simp only [go_sem, n1, n2, n3, n4, hk50, hk51, ghk52, hk52] at hk53
        all_goals
        obtain rfl := so_some h
        refine ⟨0, fun L hL => ?_⟩
        simp only [go_sem, ir3, E_laws_FnSampled_l6, R_laws_FnSampled_l6, ir3_b2, ir3_k2, ir3_o2, ir3_r2, E_laws_FnSampled_l1, R_laws_FnSampled_l1, ir3_k0, ir3_o0, ir3_r0, E_laws_FnSampled_l2, R_laws_FnSampled_l2, ir3_k1, ir3_o1, ir3_r1, E_laws_FnSampled_l3, R_laws_FnSampled_l3, ir3_k2, ir3_o2, ir3_r2, E_laws_FnSampled_l4, R_laws_FnSampled_l4, ir3_k2, ir3_o2, ir3_r2, E_laws_FnSampled_l5, R_laws_FnSampled_l5, ir3_k2, ir3_o2, ir3_r2, hk50, hk51, lhk51, xhk51, ghk52, hk52, lhk52, xhk52, hk53]
      · try simp only [go_sem, n1, n2, n3, n4, hk50, hk51, ghk52, hk52] at hk53
        all_goals
        obtain rfl := so_some h
        refine ⟨0, fun L hL => ?_⟩
        simp only [go_sem, ir3, E_laws_FnSampled_l6, R_laws_FnSampled_l6, ir3_b2, ir3_k2, ir3_o2, ir3_r2, E_laws_FnSampled_l1, R_laws_FnSampled_l1, ir3_k0, ir3_o0, ir3_r0, E_laws_FnSampled_l2, R_laws_FnSampled_l2, ir3_k1, ir3_o1, ir3_r1, E_laws_FnSampled_l3, R_laws_FnSampled_l3, ir3_k2, ir3_o2, ir3_r2, E_laws_FnSampled_l4, R_laws_FnSampled_l4, ir3_k2, ir3_o2, ir3_r2, E_laws_FnSampled_l5, R_laws_FnSampled_l5, ir3_k2, ir3_o2, ir3_r2, hk50, hk51, lhk51, xhk51, ghk52, hk52, lhk52, xhk52, hk53]
    · rcases and_f ghk52 with ghk52a | ⟨ghk52a, ghk52b⟩
      · have ghk52an := no_f ghk52a
        rcases or_t ghk52an with ghk52ana | ⟨ghk52ana, ghk52anb⟩
        · try simp only [go_sem, n1, n2, n3, n4, hk50, hk51] at ghk52ana
          all_goals
          rcases it_some h with ⟨hk53, h⟩ | ⟨hk53, h⟩
          · try simp only [go_sem, n1, n2, n3, n4, hk50, hk51, ghk52ana] at hk53
            all_goals
            obtain rfl := so_some h
            refine ⟨0, fun L hL => ?_⟩
            simp only [go_sem, ir3, E_laws_FnSampled_l6, R_laws_FnSampled_l6, ir3_b2, ir3_k2, ir3_o2, ir3_r2, E_laws_FnSampled_l1, R_laws_FnSampled_l1, ir3_k0, ir3_o0, ir3_r0, E_laws_FnSampled_l2, R_laws_FnSampled_l2, ir3_k1, ir3_o1, ir3_r1, E_laws_FnSampled_l3, R_laws_FnSampled_l3, ir3_k2, ir3_o2, ir3_r2, E_laws_FnSampled_l4, R_laws_FnSampled_l4, ir3_k2, ir3_o2, ir3_r2, E_laws_FnSampled_l5, R_laws_FnSampled_l5, ir3_k2, ir3_o2, ir3_r2, hk50, hk51, lhk51, xhk51, ghk52ana, hk53]
          · try simp only [go_sem, n1, n2, n3, n4, hk50, hk51, ghk52ana] at hk53
            all_goals
            (simp_all)
        · try simp only [go_sem, n1, n2, n3, n4, hk50, hk51] at ghk52ana
          all_goals
          try simp only [go_sem, n1, n2, n3, n4, hk50, hk51, ghk52ana] at ghk52anb
          all_goals
          rcases it_some h with ⟨hk53, h⟩ | ⟨hk53, h⟩
          · try simp only [go_sem, n1, n2, n3, n4, hk50, hk51, ghk52ana, ghk52anb] at hk53
            all_goals
            obtain rfl := so_some h
            refine ⟨0, fun L hL => ?_⟩
            simp only [go_sem, ir3, E_laws_FnSampled_l6, R_laws_FnSampled_l6, ir3_b2, ir3_k2, ir3_o2, ir3_r2, E_laws_FnSampled_l1, R_laws_FnSampled_l1, ir3_k0, ir3_o0, ir3_r0, E_laws_FnSampled_l2, R_laws_FnSampled_l2, ir3_k1, ir3_o1, ir3_r1, E_laws_FnSampled_l3, R_laws_FnSampled_l3, ir3_k2, ir3_o2, ir3_r2, E_laws_FnSampled_l4, R_laws_FnSampled_l4, ir3_k2, ir3_o2, ir3_r2, E_laws_FnSampled_l5, R_laws_FnSampled_l5, ir3_k2, ir3_o2, ir3_r2, hk50, hk51, lhk51, xhk51, ghk52ana, ghk52anb, hk53]
          · try simp only [go_sem, n1, n2, n3, n4, hk50, hk51, ghk52ana, ghk52anb] at hk53
            all_goals
            (simp_all)
      · have ghk52an := no_t ghk52a
        obtain ⟨ghk52ana, ghk52anb⟩ := or_f ghk52an
        try simp only [go_sem, n1, n2, n3, n4, hk50, hk51] at ghk52ana
        all_goals
        try simp only [go_sem, n1, n2, n3, n4, hk50, hk51, ghk52ana] at ghk52anb
        all_goals
        try simp only [go_sem, n1, n2, n3, n4, hk50, hk51, ghk52ana, ghk52anb] at ghk52b
        all_goals
        rcases it_some h with ⟨hk53, h⟩ | ⟨hk53, h⟩
        · try simp only [go_sem, n1, n2, n3, n4, hk50, hk51, ghk52ana, ghk52anb, ghk52b] at hk53
          all_goals
          (simp_all)
        · try simp only [go_sem, n1, n2, n3, n4, hk50, hk51, ghk52ana, ghk52anb, ghk52b] at hk53
          all_goals
          obtain rfl := so_some h
          refine ⟨0, fun L hL => ?_⟩
          simp only [go_sem, ir3, E_laws_FnSampled_l6, R_laws_FnSampled_l6, ir3_b2, ir3_k2, ir3_o2, ir3_r2, E_laws_FnSampled_l1, R_laws_FnSampled_l1, ir3_k0, ir3_o0, ir3_r0, E_laws_FnSampled_l2, R_laws_FnSampled_l2, ir3_k1, ir3_o1, ir3_r1, E_laws_FnSampled_l3, R_laws_FnSampled_l3, ir3_k2, ir3_o2, ir3_r2, E_laws_FnSampled_l4, R_laws_FnSampled_l4, ir3_k2, ir3_o2, ir3_r2, E_laws_FnSampled_l5, R_laws_FnSampled_l5, ir3_k2, ir3_o2, ir3_r2, hk50, hk51, lhk51, xhk51, ghk52ana, ghk52anb, ghk52b, hk53]
  · try simp only [go_sem, n1, n2, n3, n4] at hk50
    all_goals
    obtain rfl := so_some h
    refine ⟨0, fun L hL => ?_⟩
    simp only [go_sem, ir3, E_laws_FnSampled_l6, R_laws_FnSampled_l6, ir3_b2, ir3_k2, ir3_o2, ir3_r2, E_laws_FnSampled_l1, R_laws_FnSampled_l1, ir3_k0, ir3_o0, ir3_r0, E_laws_FnSampled_l2, R_laws_FnSampled_l2, ir3_k1, ir3_o1, ir3_r1, E_laws_FnSampled_l3, R_laws_FnSampled_l3, ir3_k2, ir3_o2, ir3_r2, E_laws_FnSampled_l4, R_laws_FnSampled_l4, ir3_k2, ir3_o2, ir3_r2, E_laws_FnSampled_l5, R_laws_FnSampled_l5, ir3_k2, ir3_o2, ir3_r2, hk50]

set_option maxHeartbeats 8000000 in
theorem Fs_laws_FnSampled {code : List UInt8} {y_ : Bool} (h : laws_FnSampled code = some y_) : c_laws_FnSampled.F [.sl 1 (List.map byteAV code)] = ⟨true, .bool y_, [.any]⟩ := by
  refine mkF_E rfl ?_
  dsimp only [laws_FnSampled] at h
  obtain ⟨y_1, hk1, h⟩ := bd_some h
  have fhk1 := Fs_laws_f6big hk1
  try simp only [go_sem] at fhk1
  rcases it_some h with ⟨hk2, h⟩ | ⟨hk2, h⟩
  · try simp only [go_sem, n1, n2, n3, n4] at hk2
    all_goals
    obtain rfl := so_some h
    refine ⟨0, fun L hL => ?_⟩
    simp only [go_sem, ir3, E_laws_FnSampled_l1, R_laws_FnSampled_l1, ir3_k0, ir3_o0, ir3_r0, E_laws_FnSampled_l2, R_laws_FnSampled_l2, ir3_k1, ir3_o1, ir3_r1, E_laws_FnSampled_l3, R_laws_FnSampled_l3, ir3_k2, ir3_o2, ir3_r2, E_laws_FnSampled_l4, R_laws_FnSampled_l4, ir3_k2, ir3_o2, ir3_r2, E_laws_FnSampled_l5, R_laws_FnSampled_l5, ir3_k2, ir3_o2, ir3_r2, E_laws_FnSampled_l6, R_laws_FnSampled_l6, ir3_k2, ir3_o2, ir3_r2, fhk1, hk2]
  · try simp only [go_sem, n1, n2, n3, n4] at hk2
    all_goals
    obtain ⟨y_3, hk3, h⟩ := bd_some h
    have fhk3 := Fs_spec_DrawSampleOf hk3
    try simp only [go_sem, hk2] at fhk3
    obtain ⟨y_4, hk4, h⟩ := bd_some h
    have fhk4 := Fs_impl_SampleOf hk4
    try simp only [go_sem, hk2] at fhk4
    obtain ⟨y_5, hk5, h⟩ := bd_some h
    have fhk5 := Fs_spec_SampleOf hk5
    try simp only [go_sem, hk2] at fhk5
    obtain ⟨y_6, hk6, h⟩ := bd_some h
    have fhk6 := Fs_spec_DrawCountFaults hk6
    try simp only [go_sem, hk2] at fhk6
    obtain ⟨y_7, hk7, h⟩ := bd_some h
    have fhk7 := Fs_impl_CountFaults hk7
    try simp only [go_sem, hk2] at fhk7
    obtain ⟨y_8, hk8, h⟩ := bd_some h
    have fhk8 := Fs_spec_CountFaults hk8
    try simp only [go_sem, hk2] at fhk8
    obtain ⟨y_9, hk9, h⟩ := bd_some h
    have fhk9 := Fs_spec_DrawNewFaults hk9
    try simp only [go_sem, hk2] at fhk9
    obtain ⟨y_10, hk10, h⟩ := bd_some h
    have fhk10 := Fs_impl_NewFaults hk10
    try simp only [go_sem, hk2] at fhk10
    obtain ⟨y_11, hk11, h⟩ := bd_some h
    have fhk11 := Fs_spec_NewFaults hk11
    try simp only [go_sem, hk2] at fhk11
    obtain ⟨hk12, h⟩ := ck_some h
    rcases or_split hk12 with ⟨ghk12, hk12⟩ | ghk12
    · try simp only [go_sem, n1, n2, n3, n4, hk2] at ghk12
      all_goals
      obtain ⟨y_12, hhk12⟩ := Option.isSome_iff_exists.1 hk12
      have fhk12 := Fs_laws_f6ints hhk12
      try simp only [go_sem, n1, n2, n3, n4, hk2, ghk12] at hhk12
      all_goals
      try simp only [go_sem, hk2, ghk12] at fhk12
      obtain ⟨hk13, h⟩ := ck_some h
      rcases or_split hk13 with ⟨ghk13, hk13⟩ | ghk13
      · try simp only [go_sem, n1, n2, n3, n4, hk2, ghk12, hhk12] at ghk13
        all_goals
        obtain ⟨y_13, hhk13⟩ := Option.isSome_iff_exists.1 hk13
        have fhk13 := Fs_laws_f6ints hhk13
        try simp only [go_sem, n1, n2, n3, n4, hk2, ghk12, hhk12, ghk13] at hhk13
        all_goals
        try simp only [go_sem, hk2, ghk12, hhk12, ghk13] at fhk13
        rcases it_some h with ⟨hk14, h⟩ | ⟨hk14, h⟩
        · try simp only [go_sem, n1, n2, n3, n4, hk2, ghk12, hhk12, ghk13, hhk13] at hk14
          all_goals
          obtain rfl := so_some h
          refine ⟨0, fun L hL => ?_⟩
          simp only [go_sem, ir3, E_laws_FnSampled_l1, R_laws_FnSampled_l1, ir3_k0, ir3_o0, ir3_r0, E_laws_FnSampled_l2, R_laws_FnSampled_l2, ir3_k1, ir3_o1, ir3_r1, E_laws_FnSampled_l3, R_laws_FnSampled_l3, ir3_k2, ir3_o2, ir3_r2, E_laws_FnSampled_l4, R_laws_FnSampled_l4, ir3_k2, ir3_o2, ir3_r2, E_laws_FnSampled_l5, R_laws_FnSampled_l5, ir3_k2, ir3_o2, ir3_r2, E_laws_FnSampled_l6, R_laws_FnSampled_l6, ir3_k2, ir3_o2, ir3_r2, fhk1, hk2, fhk3, fhk4, fhk5, fhk6, fhk7, fhk8, fhk9, fhk10, fhk11, ghk12, hhk12, fhk12, ghk13, hhk13, fhk13, hk14]
        · try simp only [go_sem, n1, n2, n3, n4, hk2, ghk12, hhk12, ghk13, hhk13] at hk14
          all_goals
          obtain ⟨y_19, hk19, h⟩ := bd_some h
          obtain ⟨Lhk19, ehk19⟩ := laws_FnSampled_l1_ex hk19
          rcases y_19 with y_19a | y_19b
          · dsimp only at h
            rcases it_some h with ⟨hk20, h⟩ | ⟨hk20, h⟩
            · try simp only [go_sem, n1, n2, n3, n4, hk2, ghk12, hhk12, ghk13, hhk13, hk14] at hk20
              all_goals
              obtain ⟨y_23, hk23, h⟩ := bd_some h
              obtain ⟨Lhk23, ehk23⟩ := laws_FnSampled_l2_ex hk23
              rcases it_some h with ⟨hk24, h⟩ | ⟨hk24, h⟩
              · try simp only [go_sem, n1, n2, n3, n4, hk2, ghk12, hhk12, ghk13, hhk13, hk14, hk20] at hk24
                all_goals
                obtain rfl := so_some h
                refine ⟨Lhk19 + Lhk23, fun L hL => ?_⟩
                have ehk19 := ehk19 L (by omega)
                have ehk23 := ehk23 L (by omega)
                try simp only [go_sem, E_laws_FnSampled_l1, R_laws_FnSampled_l1, ir3_k0, ir3_o0, ir3_r0, E_laws_FnSampled_l2, R_laws_FnSampled_l2, ir3_k1, ir3_o1, ir3_r1, E_laws_FnSampled_l3, R_laws_FnSampled_l3, ir3_k2, ir3_o2, ir3_r2, E_laws_FnSampled_l4, R_laws_FnSampled_l4, ir3_k2, ir3_o2, ir3_r2, E_laws_FnSampled_l5, R_laws_FnSampled_l5, ir3_k2, ir3_o2, ir3_r2, E_laws_FnSampled_l6, R_laws_FnSampled_l6, ir3_k2, ir3_o2, ir3_r2, hk2, ghk12, hhk12, ghk13, hhk13, hk14, hk20, hk24] at ehk19
                try simp only [go_sem, E_laws_FnSampled_l1, R_laws_FnSampled_l1, ir3_k0, ir3_o0, ir3_r0, E_laws_FnSampled_l2, R_laws_FnSampled_l2, ir3_k1, ir3_o1, ir3_r1, E_laws_FnSampled_l3, R_laws_FnSampled_l3, ir3_k2, ir3_o2, ir3_r2, E_laws_FnSampled_l4, R_laws_FnSampled_l4, ir3_k2, ir3_o2, ir3_r2, E_laws_FnSampled_l5, R_laws_FnSampled_l5, ir3_k2, ir3_o2, ir3_r2, E_laws_FnSampled_l6, R_laws_FnSampled_l6, ir3_k2, ir3_o2, ir3_r2, hk2, ghk12, hhk12, ghk13, hhk13, hk14, hk20, hk24] at ehk23
                simp only [go_sem, ir3, E_laws_FnSampled_l1, R_laws_FnSampled_l1, ir3_k0, ir3_o0, ir3_r0, E_laws_FnSampled_l2, R_laws_FnSampled_l2, ir3_k1, ir3_o1, ir3_r1, E_laws_FnSampled_l3, R_laws_FnSampled_l3, ir3_k2, ir3_o2, ir3_r2, E_laws_FnSampled_l4, R_laws_FnSampled_l4, ir3_k2, ir3_o2, ir3_r2, E_laws_FnSampled_l5, R_laws_FnSampled_l5, ir3_k2, ir3_o2, ir3_r2, E_laws_FnSampled_l6, R_laws_FnSampled_l6, ir3_k2, ir3_o2, ir3_r2, fhk1, hk2, fhk3, fhk4, fhk5, fhk6, fhk7, fhk8, fhk9, fhk10, fhk11, ghk12, hhk12, fhk12, ghk13, hhk13, fhk13, hk14, hk20, hk24, ehk19, ehk23]
              · try simp only [go_sem, n1, n2, n3, n4, hk2, ghk12, hhk12, ghk13, hhk13, hk14, hk20] at hk24
                all_goals
                rcases it_some h with ⟨hk25, h⟩ | ⟨hk25, h⟩
                · try simp only [go_sem, n1, n2, n3, n4, hk2, ghk12, hhk12, ghk13, hhk13, hk14, hk20, hk24] at hk25
                  all_goals
                  obtain ⟨y_26, hk26, h⟩ := bd_some h
                  have fhk26 := Fs_impl_NewFaults hk26
                  try simp only [go_sem, hk2, ghk12, hhk12, ghk13, hhk13, hk14, hk20, hk24, hk25] at fhk26
                  rcases it_some h with ⟨hk27, h⟩ | ⟨hk27, h⟩
                  · try simp only [go_sem, n1, n2, n3, n4, hk2, ghk12, hhk12, ghk13, hhk13, hk14, hk20, hk24, hk25] at hk27
                    all_goals
                    obtain rfl := so_some h
                    refine ⟨Lhk19 + Lhk23, fun L hL => ?_⟩
                    have ehk19 := ehk19 L (by omega)
                    have ehk23 := ehk23 L (by omega)
                    try simp only [go_sem, E_laws_FnSampled_l1, R_laws_FnSampled_l1, ir3_k0, ir3_o0, ir3_r0, E_laws_FnSampled_l2, R_laws_FnSampled_l2, ir3_k1, ir3_o1, ir3_r1, E_laws_FnSampled_l3, R_laws_FnSampled_l3, ir3_k2, ir3_o2, ir3_r2, E_laws_FnSampled_l4, R_laws_FnSampled_l4, ir3_k2, ir3_o2, ir3_r2, E_laws_FnSampled_l5, R_laws_FnSampled_l5, ir3_k2, ir3_o2, ir3_r2, E_laws_FnSampled_l6, R_laws_FnSampled_l6, ir3_k2, ir3_o2, ir3_r2, hk2, ghk12, hhk12, ghk13, hhk13, hk14, hk20, hk24, hk25, hk27] at ehk19
                    try simp only [go_sem, E_laws_FnSampled_l1, R_laws_FnSampled_l1, ir3_k0, ir3_o0, ir3_r0, E_laws_FnSampled_l2, R_laws_FnSampled_l2, ir3_k1, ir3_o1, ir3_r1, E_laws_FnSampled_l3, R_laws_FnSampled_l3, ir3_k2, ir3_o2, ir3_r2, E_laws_FnSampled_l4, R_laws_FnSampled_l4, ir3_k2, ir3_o2, ir3_r2, E_laws_FnSampled_l5, R_laws_FnSampled_l5, ir3_k2, ir3_o2, ir3_r2, E_laws_FnSampled_l6, R_laws_FnSampled_l6, ir3_k2, ir3_o2, ir3_r2, hk2, ghk12, hhk12, ghk13, hhk13, hk14, hk20, hk24, hk25, hk27] at ehk23
                    simp only [go_sem, ir3, E_laws_FnSampled_l1, R_laws_FnSampled_l1, ir3_k0, ir3_o0, ir3_r0, E_laws_FnSampled_l2, R_laws_FnSampled_l2, ir3_k1, ir3_o1, ir3_r1, E_laws_FnSampled_l3, R_laws_FnSampled_l3, ir3_k2, ir3_o2, ir3_r2, E_laws_FnSampled_l4, R_laws_FnSampled_l4, ir3_k2, ir3_o2, ir3_r2, E_laws_FnSampled_l5, R_laws_FnSampled_l5, ir3_k2, ir3_o2, ir3_r2, E_laws_FnSampled_l6, R_laws_FnSampled_l6, ir3_k2, ir3_o2, ir3_r2, fhk1, hk2, fhk3, fhk4, fhk5, fhk6, fhk7, fhk8, fhk9, fhk10, fhk11, ghk12, hhk12, fhk12, ghk13, hhk13, fhk13, hk14, hk20, hk24, hk25, fhk26, hk27, ehk19, ehk23]
                  · try simp only [go_sem, n1, n2, n3, n4, hk2, ghk12, hhk12, ghk13, hhk13, hk14, hk20, hk24, hk25] at hk27
                    all_goals
                    rcases it_some h with ⟨hk28, h⟩ | ⟨hk28, h⟩
                    · try simp only [go_sem, n1, n2, n3, n4, hk2, ghk12, hhk12, ghk13, hhk13, hk14, hk20, hk24, hk25, hk27] at hk28
                      all_goals
                      obtain rfl := so_some h
                      refine ⟨Lhk19 + Lhk23, fun L hL => ?_⟩
                      have ehk19 := ehk19 L (by omega)
                      have ehk23 := ehk23 L (by omega)
                      try simp only [go_sem, E_laws_FnSampled_l1, R_laws_FnSampled_l1, ir3_k0, ir3_o0, ir3_r0, E_laws_FnSampled_l2, R_laws_FnSampled_l2, ir3_k1, ir3_o1, ir3_r1, E_laws_FnSampled_l3, R_laws_FnSampled_l3, ir3_k2, ir3_o2, ir3_r2, E_laws_FnSampled_l4, R_laws_FnSampled_l4, ir3_k2, ir3_o2, ir3_r2, E_laws_FnSampled_l5, R_laws_FnSampled_l5, ir3_k2, ir3_o2, ir3_r2, E_laws_FnSampled_l6, R_laws_FnSampled_l6, ir3_k2, ir3_o2, ir3_r2, hk2, ghk12, hhk12, ghk13, hhk13, hk14, hk20, hk24, hk25, hk27, hk28] at ehk19
                      try simp only [go_sem, E_laws_FnSampled_l1, R_laws_FnSampled_l1, ir3_k0, ir3_o0, ir3_r0, E_laws_FnSampled_l2, R_laws_FnSampled_l2, ir3_k1, ir3_o1, ir3_r1, E_laws_FnSampled_l3, R_laws_FnSampled_l3, ir3_k2, ir3_o2, ir3_r2, E_laws_FnSampled_l4, R_laws_FnSampled_l4, ir3_k2, ir3_o2, ir3_r2, E_laws_FnSampled_l5, R_laws_FnSampled_l5, ir3_k2, ir3_o2, ir3_r2, E_laws_FnSampled_l6, R_laws_FnSampled_l6, ir3_k2, ir3_o2, ir3_r2, hk2, ghk12, hhk12, ghk13, hhk13, hk14, hk20, hk24, hk25, hk27, hk28] at ehk23
                      simp only [go_sem, ir3, E_laws_FnSampled_l1, R_laws_FnSampled_l1, ir3_k0, ir3_o0, ir3_r0, E_laws_FnSampled_l2, R_laws_FnSampled_l2, ir3_k1, ir3_o1, ir3_r1, E_laws_FnSampled_l3, R_laws_FnSampled_l3, ir3_k2, ir3_o2, ir3_r2, E_laws_FnSampled_l4, R_laws_FnSampled_l4, ir3_k2, ir3_o2, ir3_r2, E_laws_FnSampled_l5, R_laws_FnSampled_l5, ir3_k2, ir3_o2, ir3_r2, E_laws_FnSampled_l6, R_laws_FnSampled_l6, ir3_k2, ir3_o2, ir3_r2, fhk1, hk2, fhk3, fhk4, fhk5, fhk6, fhk7, fhk8, fhk9, fhk10, fhk11, ghk12, hhk12, fhk12, ghk13, hhk13, fhk13, hk14, hk20, hk24, hk25, fhk26, hk27, hk28, ehk19, ehk23]
                    · try simp only [go_sem, n1, n2, n3, n4, hk2, ghk12, hhk12, ghk13, hhk13, hk14, hk20, hk24, hk25, hk27] at hk28
                      all_goals
                      obtain ⟨y_33, hk33, h⟩ := bd_some h
                      obtain ⟨Lhk33, ehk33⟩ := laws_FnSampled_l3_ex hk33
                      rcases y_33 with y_33a | y_33b
                      · dsimp only at h
                        obtain rfl := so_some h
                        refine ⟨Lhk19 + Lhk23 + Lhk33, fun L hL => ?_⟩
                        have ehk19 := ehk19 L (by omega)
                        have ehk23 := ehk23 L (by omega)
                        have ehk33 := ehk33 L (by omega)
                        try simp only [go_sem, E_laws_FnSampled_l1, R_laws_FnSampled_l1, ir3_k0, ir3_o0, ir3_r0, E_laws_FnSampled_l2, R_laws_FnSampled_l2, ir3_k1, ir3_o1, ir3_r1, E_laws_FnSampled_l3, R_laws_FnSampled_l3, ir3_k2, ir3_o2, ir3_r2, E_laws_FnSampled_l4, R_laws_FnSampled_l4, ir3_k2, ir3_o2, ir3_r2, E_laws_FnSampled_l5, R_laws_FnSampled_l5, ir3_k2, ir3_o2, ir3_r2, E_laws_FnSampled_l6, R_laws_FnSampled_l6, ir3_k2, ir3_o2, ir3_r2, hk2, ghk12, hhk12, ghk13, hhk13, hk14, hk20, hk24, hk25, hk27, hk28] at ehk19
                        try simp only [go_sem, E_laws_FnSampled_l1, R_laws_FnSampled_l1, ir3_k0, ir3_o0, ir3_r0, E_laws_FnSampled_l2, R_laws_FnSampled_l2, ir3_k1, ir3_o1, ir3_r1, E_laws_FnSampled_l3, R_laws_FnSampled_l3, ir3_k2, ir3_o2, ir3_r2, E_laws_FnSampled_l4, R_laws_FnSampled_l4, ir3_k2, ir3_o2, ir3_r2, E_laws_FnSampled_l5, R_laws_FnSampled_l5, ir3_k2, ir3_o2, ir3_r2, E_laws_FnSampled_l6, R_laws_FnSampled_l6, ir3_k2, ir3_o2, ir3_r2, hk2, ghk12, hhk12, ghk13, hhk13, hk14, hk20, hk24, hk25, hk27, hk28] at ehk23
                        try simp only [go_sem, E_laws_FnSampled_l1, R_laws_FnSampled_l1, ir3_k0, ir3_o0, ir3_r0, E_laws_FnSampled_l2, R_laws_FnSampled_l2, ir3_k1, ir3_o1, ir3_r1, E_laws_FnSampled_l3, R_laws_FnSampled_l3, ir3_k2, ir3_o2, ir3_r2, E_laws_FnSampled_l4, R_laws_FnSampled_l4, ir3_k2, ir3_o2, ir3_r2, E_laws_FnSampled_l5, R_laws_FnSampled_l5, ir3_k2, ir3_o2, ir3_r2, E_laws_FnSampled_l6, R_laws_FnSampled_l6, ir3_k2, ir3_o2, ir3_r2, hk2, ghk12, hhk12, ghk13, hhk13, hk14, hk20, hk24, hk25, hk27, hk28] at ehk33
                        simp only [go_sem, ir3, E_laws_FnSampled_l1, R_laws_FnSampled_l1, ir3_k0, ir3_o0, ir3_r0, E_laws_FnSampled_l2, R_laws_FnSampled_l2, ir3_k1, ir3_o1, ir3_r1, E_laws_FnSampled_l3, R_laws_FnSampled_l3, ir3_k2, ir3_o2, ir3_r2, E_laws_FnSampled_l4, R_laws_FnSampled_l4, ir3_k2, ir3_o2, ir3_r2, E_laws_FnSampled_l5, R_laws_FnSampled_l5, ir3_k2, ir3_o2, ir3_r2, E_laws_FnSampled_l6, R_laws_FnSampled_l6, ir3_k2, ir3_o2, ir3_r2, fhk1, hk2, fhk3, fhk4, fhk5, fhk6, fhk7, fhk8, fhk9, fhk10, fhk11, ghk12, hhk12, fhk12, ghk13, hhk13, fhk13, hk14, hk20, hk24, hk25, fhk26, hk27, hk28, ehk19, ehk23, ehk33]
                      · dsimp only at h
                        obtain rfl := so_some h
                        refine ⟨Lhk19 + Lhk23 + Lhk33, fun L hL => ?_⟩
                        have ehk19 := ehk19 L (by omega)
                        have ehk23 := ehk23 L (by omega)
                        have ehk33 := ehk33 L (by omega)
                        try simp only [go_sem, E_laws_FnSampled_l1, R_laws_FnSampled_l1, ir3_k0, ir3_o0, ir3_r0, E_laws_FnSampled_l2, R_laws_FnSampled_l2, ir3_k1, ir3_o1, ir3_r1, E_laws_FnSampled_l3, R_laws_FnSampled_l3, ir3_k2, ir3_o2, ir3_r2, E_laws_FnSampled_l4, R_laws_FnSampled_l4, ir3_k2, ir3_o2, ir3_r2, E_laws_FnSampled_l5, R_laws_FnSampled_l5, ir3_k2, ir3_o2, ir3_r2, E_laws_FnSampled_l6, R_laws_FnSampled_l6, ir3_k2, ir3_o2, ir3_r2, hk2, ghk12, hhk12, ghk13, hhk13, hk14, hk20, hk24, hk25, hk27, hk28] at ehk19
                        try simp only [go_sem, E_laws_FnSampled_l1, R_laws_FnSampled_l1, ir3_k0, ir3_o0, ir3_r0, E_laws_FnSampled_l2, R_laws_FnSampled_l2, ir3_k1, ir3_o1, ir3_r1, E_laws_FnSampled_l3, R_laws_FnSampled_l3, ir3_k2, ir3_o2, ir3_r2, E_laws_FnSampled_l4, R_laws_FnSampled_l4, ir3_k2, ir3_o2, ir3_r2, E_laws_FnSampled_l5, R_laws_FnSampled_l5, ir3_k2, ir3_o2, ir3_r2, E_laws_FnSampled_l6, R_laws_FnSampled_l6, ir3_k2, ir3_o2, ir3_r2, hk2, ghk12, hhk12, ghk13, hhk13, hk14, hk20, hk24, hk25, hk27, hk28] at ehk23
                        try simp only [go_sem, E_laws_FnSampled_l1, R_laws_FnSampled_l1, ir3_k0, ir3_o0, ir3_r0, E_laws_FnSampled_l2, R_laws_FnSampled_l2, ir3_k1, ir3_o1, ir3_r1, E_laws_FnSampled_l3, R_laws_FnSampled_l3, ir3_k2, ir3_o2, ir3_r2, E_laws_FnSampled_l4, R_laws_FnSampled_l4, ir3_k2, ir3_o2, ir3_r2, E_laws_FnSampled_l5, R_laws_FnSampled_l5, ir3_k2, ir3_o2, ir3_r2, E_laws_FnSampled_l6, R_laws_FnSampled_l6, ir3_k2, ir3_o2, ir3_r2, hk2, ghk12, hhk12, ghk13, hhk13, hk14, hk20, hk24, hk25, hk27, hk28] at ehk33
                        simp only [go_sem, ir3, E_laws_FnSampled_l1, R_laws_FnSampled_l1, ir3_k0, ir3_o0, ir3_r0, E_laws_FnSampled_l2, R_laws_FnSampled_l2, ir3_k1, ir3_o1, ir3_r1, E_laws_FnSampled_l3, R_laws_FnSampled_l3, ir3_k2, ir3_o2, ir3_r2, E_laws_FnSampled_l4, R_laws_FnSampled_l4, ir3_k2, ir3_o2, ir3_r2, E_laws_FnSampled_l5, R_laws_FnSampled_l5, ir3_k2, ir3_o2, ir3_r2, E_laws_FnSampled_l6, R_laws_FnSampled_l6, ir3_k2, ir3_o2, ir3_r2, fhk1, hk2, fhk3, fhk4, fhk5, fhk6, fhk7, fhk8, fhk9, fhk10, fhk11, ghk12, hhk12, fhk12, ghk13, hhk13, fhk13, hk14, hk20, hk24, hk25, fhk26, hk27, hk28, ehk19, ehk23, ehk33]
                · try simp only [go_sem, n1, n2, n3, n4, hk2, ghk12, hhk12, ghk13, hhk13, hk14, hk20, hk24] at hk25
                  all_goals
                  rcases it_some h with ⟨hk34, h⟩ | ⟨hk34, h⟩
                  · try simp only [go_sem, n1, n2, n3, n4, hk2, ghk12, hhk12, ghk13, hhk13, hk14, hk20, hk24, hk25] at hk34
                    all_goals
                    obtain rfl := so_some h
                    refine ⟨Lhk19 + Lhk23, fun L hL => ?_⟩
                    have ehk19 := ehk19 L (by omega)
                    have ehk23 := ehk23 L (by omega)
                    try simp only [go_sem, E_laws_FnSampled_l1, R_laws_FnSampled_l1, ir3_k0, ir3_o0, ir3_r0, E_laws_FnSampled_l2, R_laws_FnSampled_l2, ir3_k1, ir3_o1, ir3_r1, E_laws_FnSampled_l3, R_laws_FnSampled_l3, ir3_k2, ir3_o2, ir3_r2, E_laws_FnSampled_l4, R_laws_FnSampled_l4, ir3_k2, ir3_o2, ir3_r2, E_laws_FnSampled_l5, R_laws_FnSampled_l5, ir3_k2, ir3_o2, ir3_r2, E_laws_FnSampled_l6, R_laws_FnSampled_l6, ir3_k2, ir3_o2, ir3_r2, hk2, ghk12, hhk12, ghk13, hhk13, hk14, hk20, hk24, hk25, hk34] at ehk19
                    try simp only [go_sem, E_laws_FnSampled_l1, R_laws_FnSampled_l1, ir3_k0, ir3_o0, ir3_r0, E_laws_FnSampled_l2, R_laws_FnSampled_l2, ir3_k1, ir3_o1, ir3_r1, E_laws_FnSampled_l3, R_laws_FnSampled_l3, ir3_k2, ir3_o2, ir3_r2, E_laws_FnSampled_l4, R_laws_FnSampled_l4, ir3_k2, ir3_o2, ir3_r2, E_laws_FnSampled_l5, R_laws_FnSampled_l5, ir3_k2, ir3_o2, ir3_r2, E_laws_FnSampled_l6, R_laws_FnSampled_l6, ir3_k2, ir3_o2, ir3_r2, hk2, ghk12, hhk12, ghk13, hhk13, hk14, hk20, hk24, hk25, hk34] at ehk23
                    simp only [go_sem, ir3, E_laws_FnSampled_l1, R_laws_FnSampled_l1, ir3_k0, ir3_o0, ir3_r0, E_laws_FnSampled_l2, R_laws_FnSampled_l2, ir3_k1, ir3_o1, ir3_r1, E_laws_FnSampled_l3, R_laws_FnSampled_l3, ir3_k2, ir3_o2, ir3_r2, E_laws_FnSampled_l4, R_laws_FnSampled_l4, ir3_k2, ir3_o2, ir3_r2, E_laws_FnSampled_l5, R_laws_FnSampled_l5, ir3_k2, ir3_o2, ir3_r2, E_laws_FnSampled_l6, R_laws_FnSampled_l6, ir3_k2, ir3_o2, ir3_r2, fhk1, hk2, fhk3, fhk4, fhk5, fhk6, fhk7, fhk8, fhk9, fhk10, fhk11, ghk12, hhk12, fhk12, ghk13, hhk13, fhk13, hk14, hk20, hk24, hk25, hk34, ehk19, ehk23]
                  · try simp only [go_sem, n1, n2, n3, n4, hk2, ghk12, hhk12, ghk13, hhk13, hk14, hk20, hk24, hk25] at hk34
                    all_goals
                    obtain ⟨y_39, hk39, h⟩ := bd_some h
                    obtain ⟨Lhk39, ehk39⟩ := laws_FnSampled_l4_ex hk39
                    rcases y_39 with y_39a | y_39b
                    · dsimp only at h
                      obtain rfl := so_some h
                      refine ⟨Lhk19 + Lhk23 + Lhk39, fun L hL => ?_⟩
                      have ehk19 := ehk19 L (by omega)
                      have ehk23 := ehk23 L (by omega)
                      have ehk39 := ehk39 L (by omega)
                      try simp only [go_sem, E_laws_FnSampled_l1, R_laws_FnSampled_l1, ir3_k0, ir3_o0, ir3_r0, E_laws_FnSampled_l2, R_laws_FnSampled_l2, ir3_k1, ir3_o1, ir3_r1, E_laws_FnSampled_l3, R_laws_FnSampled_l3, ir3_k2, ir3_o2, ir3_r2, E_laws_FnSampled_l4, R_laws_FnSampled_l4, ir3_k2, ir3_o2, ir3_r2, E_laws_FnSampled_l5, R_laws_FnSampled_l5, ir3_k2, ir3_o2, ir3_r2, E_laws_FnSampled_l6, R_laws_FnSampled_l6, ir3_k2, ir3_o2, ir3_r2, hk2, ghk12, hhk12, ghk13, hhk13, hk14, hk20, hk24, hk25, hk34] at ehk19
                      try simp only [go_sem, E_laws_FnSampled_l1, R_laws_FnSampled_l1, ir3_k0, ir3_o0, ir3_r0, E_laws_FnSampled_l2, R_laws_FnSampled_l2, ir3_k1, ir3_o1, ir3_r1, E_laws_FnSampled_l3, R_laws_FnSampled_l3, ir3_k2, ir3_o2, ir3_r2, E_laws_FnSampled_l4, R_laws_FnSampled_l4, ir3_k2, ir3_o2, ir3_r2, E_laws_FnSampled_l5, R_laws_FnSampled_l5, ir3_k2, ir3_o2, ir3_r2, E_laws_FnSampled_l6, R_laws_FnSampled_l6, ir3_k2, ir3_o2, ir3_r2, hk2, ghk12, hhk12, ghk13, hhk13, hk14, hk20, hk24, hk25, hk34] at ehk23
                      try simp only [go_sem, E_laws_FnSampled_l1, R_laws_FnSampled_l1, ir3_k0, ir3_o0, ir3_r0, E_laws_FnSampled_l2, R_laws_FnSampled_l2, ir3_k1, ir3_o1, ir3_r1, E_laws_FnSampled_l3, R_laws_FnSampled_l3, ir3_k2, ir3_o2, ir3_r2, E_laws_FnSampled_l4, R_laws_FnSampled_l4, ir3_k2, ir3_o2, ir3_r2, E_laws_FnSampled_l5, R_laws_FnSampled_l5, ir3_k2, ir3_o2, ir3_r2, E_laws_FnSampled_l6, R_laws_FnSampled_l6, ir3_k2, ir3_o2, ir3_r2, hk2, ghk12, hhk12, ghk13, hhk13, hk14, hk20, hk24, hk25, hk34] at ehk39
                      simp only [go_sem, ir3, E_laws_FnSampled_l1, R_laws_FnSampled_l1, ir3_k0, ir3_o0, ir3_r0, E_laws_FnSampled_l2, R_laws_FnSampled_l2, ir3_k1, ir3_o1, ir3_r1, E_laws_FnSampled_l3, R_laws_FnSampled_l3, ir3_k2, ir3_o2, ir3_r2, E_laws_FnSampled_l4, R_laws_FnSampled_l4, ir3_k2, ir3_o2, ir3_r2, E_laws_FnSampled_l5, R_laws_FnSampled_l5, ir3_k2, ir3_o2, ir3_r2, E_laws_FnSampled_l6, R_laws_FnSampled_l6, ir3_k2, ir3_o2, ir3_r2, fhk1, hk2, fhk3, fhk4, fhk5, fhk6, fhk7, fhk8, fhk9, fhk10, fhk11, ghk12, hhk12, fhk12, ghk13, hhk13, fhk13, hk14, hk20, hk24, hk25, hk34, ehk19, ehk23, ehk39]
                    · dsimp only at h
                      obtain rfl := so_some h
                      refine ⟨Lhk19 + Lhk23 + Lhk39, fun L hL => ?_⟩
                      have ehk19 := ehk19 L (by omega)
                      have ehk23 := ehk23 L (by omega)
                      have ehk39 := ehk39 L (by omega)
                      try simp only [go_sem, E_laws_FnSampled_l1, R_laws_FnSampled_l1, ir3_k0, ir3_o0, ir3_r0, E_laws_FnSampled_l2, R_laws_FnSampled_l2, ir3_k1, ir3_o1, ir3_r1, E_laws_FnSampled_l3, R_laws_FnSampled_l3, ir3_k2, ir3_o2, ir3_r2, E_laws_FnSampled_l4, R_laws_FnSampled_l4, ir3_k2, ir3_o2, ir3_r2, E_laws_FnSampled_l5, R_laws_FnSampled_l5, ir3_k2, ir3_o2, ir3_r2, E_laws_FnSampled_l6, R_laws_FnSampled_l6, ir3_k2, ir3_o2, ir3_r2, hk2, ghk12, hhk12, ghk13, hhk13, hk14, hk20, hk24, hk25, hk34] at ehk19
                      try simp only [go_sem, E_laws_FnSampled_l1, R_laws_FnSampled_l1, ir3_k0, ir3_o0, ir3_r0, E_laws_FnSampled_l2, R_laws_FnSampled_l2, ir3_k1, ir3_o1, ir3_r1, E_laws_FnSampled_l3, R_laws_FnSampled_l3, ir3_k2, ir3_o2, ir3_r2, E_laws_FnSampled_l4, R_laws_FnSampled_l4, ir3_k2, ir3_o2, ir3_r2, E_laws_FnSampled_l5, R_laws_FnSampled_l5, ir3_k2, ir3_o2, ir3_r2, E_laws_FnSampled_l6, R_laws_FnSampled_l6, ir3_k2, ir3_o2, ir3_r2, hk2, ghk12, hhk12, ghk13, hhk13, hk14, hk20, hk24, hk25, hk34] at ehk23
                      try simp only [go_sem, E_laws_FnSampled_l1, R_laws_FnSampled_l1, ir3_k0, ir3_o0, ir3_r0, E_laws_FnSampled_l2, R_laws_FnSampled_l2, ir3_k1, ir3_o1, ir3_r1, E_laws_FnSampled_l3, R_laws_FnSampled_l3, ir3_k2, ir3_o2, ir3_r2, E_laws_FnSampled_l4, R_laws_FnSampled_l4, ir3_k2, ir3_o2, ir3_r2, E_laws_FnSampled_l5, R_laws_FnSampled_l5, ir3_k2, ir3_o2, ir3_r2, E_laws_FnSampled_l6, R_laws_FnSampled_l6, ir3_k2, ir3_o2, ir3_r2, hk2, ghk12, hhk12, ghk13, hhk13, hk14, hk20, hk24, hk25, hk34] at ehk39
                      simp only [go_sem, ir3, E_laws_FnSampled_l1, R_laws_FnSampled_l1, ir3_k0, ir3_o0, ir3_r0, E_laws_FnSampled_l2, R_laws_FnSampled_l2, ir3_k1, ir3_o1, ir3_r1, E_laws_FnSampled_l3, R_laws_FnSampled_l3, ir3_k2, ir3_o2, ir3_r2, E_laws_FnSampled_l4, R_laws_FnSampled_l4, ir3_k2, ir3_o2, ir3_r2, E_laws_FnSampled_l5, R_laws_FnSampled_l5, ir3_k2, ir3_o2, ir3_r2, E_laws_FnSampled_l6, R_laws_FnSampled_l6, ir3_k2, ir3_o2, ir3_r2, fhk1, hk2, fhk3, fhk4, fhk5, fhk6, fhk7, fhk8, fhk9, fhk10, fhk11, ghk12, hhk12, fhk12, ghk13, hhk13, fhk13, hk14, hk20, hk24, hk25, hk34, ehk19, ehk23, ehk39]
            · try simp only [go_sem, n1, n2, n3, n4, hk2, ghk12, hhk12, ghk13, hhk13, hk14] at hk20
              all_goals
              rcases it_some h with ⟨hk40, h⟩ | ⟨hk40, h⟩
              · try simp only [go_sem, n1, n2, n3, n4, hk2, ghk12, hhk12, ghk13, hhk13, hk14, hk20] at hk40
                all_goals
                obtain ⟨y_41, hk41, h⟩ := bd_some h
                have fhk41 := Fs_impl_NewFaults hk41
                try simp only [go_sem, hk2, ghk12, hhk12, ghk13, hhk13, hk14, hk20, hk40] at fhk41
                rcases it_some h with ⟨hk42, h⟩ | ⟨hk42, h⟩
                · try simp only [go_sem, n1, n2, n3, n4, hk2, ghk12, hhk12, ghk13, hhk13, hk14, hk20, hk40] at hk42
                  all_goals
                  obtain rfl := so_some h
                  refine ⟨Lhk19, fun L hL => ?_⟩
                  have ehk19 := ehk19 L (by omega)
                  try simp only [go_sem, E_laws_FnSampled_l1, R_laws_FnSampled_l1, ir3_k0, ir3_o0, ir3_r0, E_laws_FnSampled_l2, R_laws_FnSampled_l2, ir3_k1, ir3_o1, ir3_r1, E_laws_FnSampled_l3, R_laws_FnSampled_l3, ir3_k2, ir3_o2, ir3_r2, E_laws_FnSampled_l4, R_laws_FnSampled_l4, ir3_k2, ir3_o2, ir3_r2, E_laws_FnSampled_l5, R_laws_FnSampled_l5, ir3_k2, ir3_o2, ir3_r2, E_laws_FnSampled_l6, R_laws_FnSampled_l6, ir3_k2, ir3_o2, ir3_r2, hk2, ghk12, hhk12, ghk13, hhk13, hk14, hk20, hk40, hk42] at ehk19
                  simp only [go_sem, ir3, E_laws_FnSampled_l1, R_laws_FnSampled_l1, ir3_k0, ir3_o0, ir3_r0, E_laws_FnSampled_l2, R_laws_FnSampled_l2, ir3_k1, ir3_o1, ir3_r1, E_laws_FnSampled_l3, R_laws_FnSampled_l3, ir3_k2, ir3_o2, ir3_r2, E_laws_FnSampled_l4, R_laws_FnSampled_l4, ir3_k2, ir3_o2, ir3_r2, E_laws_FnSampled_l5, R_laws_FnSampled_l5, ir3_k2, ir3_o2, ir3_r2, E_laws_FnSampled_l6, R_laws_FnSampled_l6, ir3_k2, ir3_o2, ir3_r2, fhk1, hk2, fhk3, fhk4, fhk5, fhk6, fhk7, fhk8, fhk9, fhk10, fhk11, ghk12, hhk12, fhk12, ghk13, hhk13, fhk13, hk14, hk20, hk40, fhk41, hk42, ehk19]
                · try simp only [go_sem, n1, n2, n3, n4, hk2, ghk12, hhk12, ghk13, hhk13, hk14, hk20, hk40] at hk42
                  all_goals
                  rcases it_some h with ⟨hk43, h⟩ | ⟨hk43, h⟩
                  · try simp only [go_sem, n1, n2, n3, n4, hk2, ghk12, hhk12, ghk13, hhk13, hk14, hk20, hk40, hk42] at hk43
                    all_goals
                    obtain rfl := so_some h
                    refine ⟨Lhk19, fun L hL => ?_⟩
                    have ehk19 := ehk19 L (by omega)
                    try simp only [go_sem, E_laws_FnSampled_l1, R_laws_FnSampled_l1, ir3_k0, ir3_o0, ir3_r0, E_laws_FnSampled_l2, R_laws_FnSampled_l2, ir3_k1, ir3_o1, ir3_r1, E_laws_FnSampled_l3, R_laws_FnSampled_l3, ir3_k2, ir3_o2, ir3_r2, E_laws_FnSampled_l4, R_laws_FnSampled_l4, ir3_k2, ir3_o2, ir3_r2, E_laws_FnSampled_l5, R_laws_FnSampled_l5, ir3_k2, ir3_o2, ir3_r2, E_laws_FnSampled_l6, R_laws_FnSampled_l6, ir3_k2, ir3_o2, ir3_r2, hk2, ghk12, hhk12, ghk13, hhk13, hk14, hk20, hk40, hk42, hk43] at ehk19
                    simp only [go_sem, ir3, E_laws_FnSampled_l1, R_laws_FnSampled_l1, ir3_k0, ir3_o0, ir3_r0, E_laws_FnSampled_l2, R_laws_FnSampled_l2, ir3_k1, ir3_o1, ir3_r1, E_laws_FnSampled_l3, R_laws_FnSampled_l3, ir3_k2, ir3_o2, ir3_r2, E_laws_FnSampled_l4, R_laws_FnSampled_l4, ir3_k2, ir3_o2, ir3_r2, E_laws_FnSampled_l5, R_laws_FnSampled_l5, ir3_k2, ir3_o2, ir3_r2, E_laws_FnSampled_l6, R_laws_FnSampled_l6, ir3_k2, ir3_o2, ir3_r2, fhk1, hk2, fhk3, fhk4, fhk5, fhk6, fhk7, fhk8, fhk9, fhk10, fhk11, ghk12, hhk12, fhk12, ghk13, hhk13, fhk13, hk14, hk20, hk40, fhk41, hk42, hk43, ehk19]
                  · try simp only [go_sem, n1, n2, n3, n4, hk2, ghk12, hhk12, ghk13, hhk13, hk14, hk20, hk40, hk42] at hk43
                    all_goals
                    obtain ⟨y_48, hk48, h⟩ := bd_some h
                    obtain ⟨Lhk48, ehk48⟩ := laws_FnSampled_l5_ex hk48
                    rcases y_48 with y_48a | y_48b
                    · dsimp only at h
                      obtain rfl := so_some h
                      refine ⟨Lhk19 + Lhk48, fun L hL => ?_⟩
                      have ehk19 := ehk19 L (by omega)
                      have ehk48 := ehk48 L (by omega)
                      try simp only [go_sem, E_laws_FnSampled_l1, R_laws_FnSampled_l1, ir3_k0, ir3_o0, ir3_r0, E_laws_FnSampled_l2, R_laws_FnSampled_l2, ir3_k1, ir3_o1, ir3_r1, E_laws_FnSampled_l3, R_laws_FnSampled_l3, ir3_k2, ir3_o2, ir3_r2, E_laws_FnSampled_l4, R_laws_FnSampled_l4, ir3_k2, ir3_o2, ir3_r2, E_laws_FnSampled_l5, R_laws_FnSampled_l5, ir3_k2, ir3_o2, ir3_r2, E_laws_FnSampled_l6, R_laws_FnSampled_l6, ir3_k2, ir3_o2, ir3_r2, hk2, ghk12, hhk12, ghk13, hhk13, hk14, hk20, hk40, hk42, hk43] at ehk19
                      try simp only [go_sem, E_laws_FnSampled_l1, R_laws_FnSampled_l1, ir3_k0, ir3_o0, ir3_r0, E_laws_FnSampled_l2, R_laws_FnSampled_l2, ir3_k1, ir3_o1, ir3_r1, E_laws_FnSampled_l3, R_laws_FnSampled_l3, ir3_k2, ir3_o2, ir3_r2, E_laws_FnSampled_l4, R_laws_FnSampled_l4, ir3_k2, ir3_o2, ir3_r2, E_laws_FnSampled_l5, R_laws_FnSampled_l5, ir3_k2, ir3_o2, ir3_r2, E_laws_FnSampled_l6, R_laws_FnSampled_l6, ir3_k2, ir3_o2, ir3_r2, hk2, ghk12, hhk12, ghk13, hhk13, hk14, hk20, hk40, hk42, hk43] at ehk48
                      simp only [go_sem, ir3, E_laws_FnSampled_l1, R_laws_FnSampled_l1, ir3_k0, ir3_o0, ir3_r0, E_laws_FnSampled_l2, R_laws_FnSampled_l2, ir3_k1, ir3_o1, ir3_r1, E_laws_FnSampled_l3, R_laws_FnSampled_l3, ir3_k2, ir3_o2, ir3_r2, E_laws_FnSampled_l4, R_laws_FnSampled_l4, ir3_k2, ir3_o2, ir3_r2, E_laws_FnSampled_l5, R_laws_FnSampled_l5, ir3_k2, ir3_o2, ir3_r2, E_laws_FnSampled_l6, R_laws_FnSampled_l6, ir3_k2, ir3_o2, ir3_r2, fhk1, hk2, fhk3, fhk4, fhk5, fhk6, fhk7, fhk8, fhk9, fhk10, fhk11, ghk12, hhk12, fhk12, ghk13, hhk13, fhk13, hk14, hk20, hk40, fhk41, hk42, hk43, ehk19, ehk48]
                    · dsimp only at h
                      obtain rfl := so_some h
                      refine ⟨Lhk19 + Lhk48, fun L hL => ?_⟩
                      have ehk19 := ehk19 L (by omega)
                      have ehk48 := ehk48 L (by omega)
                      try simp only [go_sem, E_laws_FnSampled_l1, R_laws_FnSampled_l1, ir3_k0, ir3_o0, ir3_r0, E_laws_FnSampled_l2, R_laws_FnSampled_l2, ir3_k1, ir3_o1, ir3_r1, E_laws_FnSampled_l3, R_laws_FnSampled_l3, ir3_k2, ir3_o2, ir3_r2, E_laws_FnSampled_l4, R_laws_FnSampled_l4, ir3_k2, ir3_o2, ir3_r2, E_laws_FnSampled_l5, R_laws_FnSampled_l5, ir3_k2, ir3_o2, ir3_r2, E_laws_FnSampled_l6, R_laws_FnSampled_l6, ir3_k2, ir3_o2, ir3_r2, hk2, ghk12, hhk12, ghk13, hhk13, hk14, hk20, hk40, hk42, hk43] at ehk19
                      try simp only [go_sem, E_laws_FnSampled_l1, R_laws_FnSampled_l1, ir3_k0, ir3_o0, ir3_r0, E_laws_FnSampled_l2, R_laws_FnSampled_l2, ir3_k1, ir3_o1, ir3_r1, E_laws_FnSampled_l3, R_laws_FnSampled_l3, ir3_k2, ir3_o2, ir3_r2, E_laws_FnSampled_l4, R_laws_FnSampled_l4, ir3_k2, ir3_o2, ir3_r2, E_laws_FnSampled_l5, R_laws_FnSampled_l5, ir3_k2, ir3_o2, ir3_r2, E_laws_FnSampled_l6, R_laws_FnSampled_l6, ir3_k2, ir3_o2, ir3_r2, hk2, ghk12, hhk12, ghk13, hhk13, hk14, hk20, hk40, hk42, hk43] at ehk48
                      simp only [go_sem, ir3, E_laws_FnSampled_l1, R_laws_FnSampled_l1, ir3_k0, ir3_o0, ir3_r0, E_laws_FnSampled_l2, R_laws_FnSampled_l2, ir3_k1, ir3_o1, ir3_r1, E_laws_FnSampled_l3, R_laws_FnSampled_l3, ir3_k2, ir3_o2, ir3_r2, E_laws_FnSampled_l4, R_laws_FnSampled_l4, ir3_k2, ir3_o2, ir3_r2, E_laws_FnSampled_l5, R_laws_FnSampled_l5, ir3_k2, ir3_o2, ir3_r2, E_laws_FnSampled_l6, R_laws_FnSampled_l6, ir3_k2, ir3_o2, ir3_r2, fhk1, hk2, fhk3, fhk4, fhk5, fhk6, fhk7, fhk8, fhk9, fhk10, fhk11, ghk12, hhk12, fhk12, ghk13, hhk13, fhk13, hk14, hk20, hk40, fhk41, hk42, hk43, ehk19, ehk48]
              · try simp only [go_sem, n1, n2, n3, n4, hk2, ghk12, hhk12, ghk13, hhk13, hk14, hk20] at hk40
                all_goals
                rcases it_some h with ⟨hk49, h⟩ | ⟨hk49, h⟩
                · try simp only [go_sem, n1, n2, n3, n4, hk2, ghk12, hhk12, ghk13, hhk13, hk14, hk20, hk40] at hk49
                  all_goals
                  obtain rfl := so_some h
                  refine ⟨Lhk19, fun L hL => ?_⟩
                  have ehk19 := ehk19 L (by omega)
                  try simp only [go_sem, E_laws_FnSampled_l1, R_laws_FnSampled_l1, ir3_k0, ir3_o0, ir3_r0, E_laws_FnSampled_l2, R_laws_FnSampled_l2, ir3_k1, ir3_o1, ir3_r1, E_laws_FnSampled_l3, R_laws_FnSampled_l3, ir3_k2, ir3_o2, ir3_r2, E_laws_FnSampled_l4, R_laws_FnSampled_l4, ir3_k2, ir3_o2, ir3_r2, E_laws_FnSampled_l5, R_laws_FnSampled_l5, ir3_k2, ir3_o2, ir3_r2, E_laws_FnSampled_l6, R_laws_FnSampled_l6, ir3_k2, ir3_o2, ir3_r2, hk2, ghk12, hhk12, ghk13, hhk13, hk14, hk20, hk40, hk49] at ehk19
                  simp only [go_sem, ir3, E_laws_FnSampled_l1, R_laws_FnSampled_l1, ir3_k0, ir3_o0, ir3_r0, E_laws_FnSampled_l2, R_laws_FnSampled_l2, ir3_k1, ir3_o1, ir3_r1, E_laws_FnSampled_l3, R_laws_FnSampled_l3, ir3_k2, ir3_o2, ir3_r2, E_laws_FnSampled_l4, R_laws_FnSampled_l4, ir3_k2, ir3_o2, ir3_r2, E_laws_FnSampled_l5, R_laws_FnSampled_l5, ir3_k2, ir3_o2, ir3_r2, E_laws_FnSampled_l6, R_laws_FnSampled_l6, ir3_k2, ir3_o2, ir3_r2, fhk1, hk2, fhk3, fhk4, fhk5, fhk6, fhk7, fhk8, fhk9, fhk10, fhk11, ghk12, hhk12, fhk12, ghk13, hhk13, fhk13, hk14, hk20, hk40, hk49, ehk19]
                · try simp only [go_sem, n1, n2, n3, n4, hk2, ghk12, hhk12, ghk13, hhk13, hk14, hk20, hk40] at hk49
                  all_goals
                  obtain ⟨y_54, hk54, h⟩ := bd_some h
                  obtain ⟨Lhk54, ehk54⟩ := laws_FnSampled_l6_ex hk54
                  rcases y_54 with y_54a | y_54b
                  · dsimp only at h
                    obtain rfl := so_some h
                    refine ⟨Lhk19 + Lhk54, fun L hL => ?_⟩
                    have ehk19 := ehk19 L (by omega)
                    have ehk54 := ehk54 L (by omega)
                    try simp only [go_sem, E_laws_FnSampled_l1, R_laws_FnSampled_l1, ir3_k0, ir3_o0, ir3_r0, E_laws_FnSampled_l2, R_laws_FnSampled_l2, ir3_k1, ir3_o1, ir3_r1, E_laws_FnSampled_l3, R_laws_FnSampled_l3, ir3_k2, ir3_o2, ir3_r2, E_laws_FnSampled_l4, R_laws_FnSampled_l4, ir3_k2, ir3_o2, ir3_r2, E_laws_FnSampled_l5, R_laws_FnSampled_l5, ir3_k2, ir3_o2, ir3_r2, E_laws_FnSampled_l6, R_laws_FnSampled_l6, ir3_k2, ir3_o2, ir3_r2, hk2, ghk12, hhk12, ghk13, hhk13, hk14, hk20, hk40, hk49] at ehk19
                    try simp only [go_sem, E_laws_FnSampled_l1, R_laws_FnSampled_l1, ir3_k0, ir3_o0, ir3_r0, E_laws_FnSampled_l2, R_laws_FnSampled_l2, ir3_k1, ir3_o1, ir3_r1, E_laws_FnSampled_l3, R_laws_FnSampled_l3, ir3_k2, ir3_o2, ir3_r2, E_laws_FnSampled_l4, R_laws_FnSampled_l4, ir3_k2, ir3_o2, ir3_r2, E_laws_FnSampled_l5, R_laws_FnSampled_l5, ir3_k2, ir3_o2, ir3_r2, E_laws_FnSampled_l6, R_laws_FnSampled_l6, ir3_k2, ir3_o2, ir3_r2, hk2, ghk12, hhk12, ghk13, hhk13, hk14, hk20, hk40, hk49] at ehk54
                    simp only [go_sem, ir3, E_laws_FnSampled_l1, R_laws_FnSampled_l1, ir3_k0, ir3_o0, ir3_r0, E_laws_FnSampled_l2, R_laws_FnSampled_l2, ir3_k1, ir3_o1, ir3_r1, E_laws_FnSampled_l3, R_laws_FnSampled_l3, ir3_k2, ir3_o2, ir3_r2, E_laws_FnSampled_l4, R_laws_FnSampled_l4, ir3_k2, ir3_o2, ir3_r2, E_laws_FnSampled_l5, R_laws_FnSampled_l5, ir3_k2, ir3_o2, ir3_r2, E_laws_FnSampled_l6, R_laws_FnSampled_l6, ir3_k2, ir3_o2, ir3_r2, fhk1, hk2, fhk3, fhk4, fhk5, fhk6, fhk7, fhk8, fhk9, fhk10, fhk11, ghk12, hhk12, fhk12, ghk13, hhk13, fhk13, hk14, hk20, hk40, hk49, ehk19, ehk54]
                  · dsimp only at h
                    obtain rfl := so_some h
                    refine ⟨Lhk19 + Lhk54, fun L hL => ?_⟩
                    have ehk19 := ehk19 L (by omega)
                    have ehk54 := ehk54 L (by omega)
                    try simp only [go_sem, E_laws_FnSampled_l1, R_laws_FnSampled_l1, ir3_k0, ir3_o0, ir3_r0, E_laws_FnSampled_l2, R_laws_FnSampled_l2, ir3_k1, ir3_o1, ir3_r1, E_laws_FnSampled_l3, R_laws_FnSampled_l3, ir3_k2, ir3_o2, ir3_r2, E_laws_FnSampled_l4, R_laws_FnSampled_l4, ir3_k2, ir3_o2, ir3_r2, E_laws_FnSampled_l5, R_laws_FnSampled_l5, ir3_k2, ir3_o2, ir3_r2, E_laws_FnSampled_l6, R_laws_FnSampled_l6, ir3_k2, ir3_o2, ir3_r2, hk2, ghk12, hhk12, ghk13, hhk13, hk14, hk20, hk40, hk49] at ehk19
                    try simp only [go_sem, E_laws_FnSampled_l1, R_laws_FnSampled_l1, ir3_k0, ir3_o0, ir3_r0, E_laws_FnSampled_l2, R_laws_FnSampled_l2, ir3_k1, ir3_o1, ir3_r1, E_laws_FnSampled_l3, R_laws_FnSampled_l3, ir3_k2, ir3_o2, ir3_r2, E_laws_FnSampled_l4, R_laws_FnSampled_l4, ir3_k2, ir3_o2, ir3_r2, E_laws_FnSampled_l5, R_laws_FnSampled_l5, ir3_k2, ir3_o2, ir3_r2, E_laws_FnSampled_l6, R_laws_FnSampled_l6, ir3_k2, ir3_o2, ir3_r2, hk2, ghk12, hhk12, ghk13, hhk13, hk14, hk20, hk40, hk49] at ehk54
                    simp only [go_sem, ir3, E_laws_FnSampled_l1, R_laws_FnSampled_l1, ir3_k0, ir3_o0, ir3_r0, E_laws_FnSampled_l2, R_laws_FnSampled_l2, ir3_k1, ir3_o1, ir3_r1, E_laws_FnSampled_l3, R_laws_FnSampled_l3, ir3_k2, ir3_o2, ir3_r2, E_laws_FnSampled_l4, R_laws_FnSampled_l4, ir3_k2, ir3_o2, ir3_r2, E_laws_FnSampled_l5, R_laws_FnSampled_l5, ir3_k2, ir3_o2, ir3_r2, E_laws_FnSampled_l6, R_laws_FnSampled_l6, ir3_k2, ir3_o2, ir3_r2, fhk1, hk2, fhk3, fhk4, fhk5, fhk6, fhk7, fhk8, fhk9, fhk10, fhk11, ghk12, hhk12, fhk12, ghk13, hhk13, fhk13, hk14, hk20, hk40, hk49, ehk19, ehk54]
          · dsimp only at h
            obtain rfl := so_some h
            refine ⟨Lhk19, fun L hL => ?_⟩
            have ehk19 := ehk19 L (by omega)
            try simp only [go_sem, E_laws_FnSampled_l1, R_laws_FnSampled_l1, ir3_k0, ir3_o0, ir3_r0, E_laws_FnSampled_l2, R_laws_FnSampled_l2, ir3_k1, ir3_o1, ir3_r1, E_laws_FnSampled_l3, R_laws_FnSampled_l3, ir3_k2, ir3_o2, ir3_r2, E_laws_FnSampled_l4, R_laws_FnSampled_l4, ir3_k2, ir3_o2, ir3_r2, E_laws_FnSampled_l5, R_laws_FnSampled_l5, ir3_k2, ir3_o2, ir3_r2, E_laws_FnSampled_l6, R_laws_FnSampled_l6, ir3_k2, ir3_o2, ir3_r2, hk2, ghk12, hhk12, ghk13, hhk13, hk14] at ehk19
            simp only [go_sem, ir3, E_laws_FnSampled_l1, R_laws_FnSampled_l1, ir3_k0, ir3_o0, ir3_r0, E_laws_FnSampled_l2, R_laws_FnSampled_l2, ir3_k1, ir3_o1, ir3_r1, E_laws_FnSampled_l3, R_laws_FnSampled_l3, ir3_k2, ir3_o2, ir3_r2, E_laws_FnSampled_l4, R_laws_FnSampled_l4, ir3_k2, ir3_o2, ir3_r2, E_laws_FnSampled_l5, R_laws_FnSampled_l5, ir3_k2, ir3_o2, ir3_r2, E_laws_FnSampled_l6, R_laws_FnSampled_l6, ir3_k2, ir3_o2, ir3_r2, fhk1, hk2, fhk3, fhk4, fhk5, fhk6, fhk7, fhk8, fhk9, fhk10, fhk11, ghk12, hhk12, fhk12, ghk13, hhk13, fhk13, hk14, ehk19]
      · have ghk13n := no_f ghk13
        rcases or_t ghk13n with ghk13na | ⟨ghk13na, ghk13nb⟩
        · rcases or_t ghk13na with ghk13naa | ⟨ghk13naa, ghk13nab⟩
          · try simp only [go_sem, n1, n2, n3, n4, hk2, ghk12, hhk12] at ghk13naa
            all_goals
            (simp_all)
          · have ghk13naan := no_f ghk13naa
            have ghk13nabn := no_t ghk13nab
            try simp only [go_sem, n1, n2, n3, n4, hk2, ghk12, hhk12] at ghk13naan
            all_goals
            try simp only [go_sem, n1, n2, n3, n4, hk2, ghk12, hhk12, ghk13naan] at ghk13nabn
            all_goals
            rcases it_some h with ⟨hk14, h⟩ | ⟨hk14, h⟩
            · try simp only [go_sem, n1, n2, n3, n4, hk2, ghk12, hhk12, ghk13naan, ghk13nabn] at hk14
              all_goals
              obtain rfl := so_some h
              refine ⟨0, fun L hL => ?_⟩
              simp only [go_sem, ir3, E_laws_FnSampled_l1, R_laws_FnSampled_l1, ir3_k0, ir3_o0, ir3_r0, E_laws_FnSampled_l2, R_laws_FnSampled_l2, ir3_k1, ir3_o1, ir3_r1, E_laws_FnSampled_l3, R_laws_FnSampled_l3, ir3_k2, ir3_o2, ir3_r2, E_laws_FnSampled_l4, R_laws_FnSampled_l4, ir3_k2, ir3_o2, ir3_r2, E_laws_FnSampled_l5, R_laws_FnSampled_l5, ir3_k2, ir3_o2, ir3_r2, E_laws_FnSampled_l6, R_laws_FnSampled_l6, ir3_k2, ir3_o2, ir3_r2, fhk1, hk2, fhk3, fhk4, fhk5, fhk6, fhk7, fhk8, fhk9, fhk10, fhk11, ghk12, hhk12, fhk12, ghk13naan, ghk13nabn, hk14]
            · try simp only [go_sem, n1, n2, n3, n4, hk2, ghk12, hhk12, ghk13naan, ghk13nabn] at hk14
              all_goals
              (simp_all)
        · obtain ⟨ghk13naa, ghk13nab⟩ := or_f ghk13na
          have ghk13naan := no_f ghk13naa
          have ghk13nabn := no_f ghk13nab
          have ghk13nbn := no_t ghk13nb
          try simp only [go_sem, n1, n2, n3, n4, hk2, ghk12, hhk12] at ghk13naan
          all_goals
          try simp only [go_sem, n1, n2, n3, n4, hk2, ghk12, hhk12, ghk13naan] at ghk13nabn
          all_goals
          try simp only [go_sem, n1, n2, n3, n4, hk2, ghk12, hhk12, ghk13naan, ghk13nabn] at ghk13nbn
          all_goals
          rcases it_some h with ⟨hk14, h⟩ | ⟨hk14, h⟩
          · try simp only [go_sem, n1, n2, n3, n4, hk2, ghk12, hhk12, ghk13naan, ghk13nabn, ghk13nbn] at hk14
            all_goals
            obtain rfl := so_some h
            refine ⟨0, fun L hL => ?_⟩
            simp only [go_sem, ir3, E_laws_FnSampled_l1, R_laws_FnSampled_l1, ir3_k0, ir3_o0, ir3_r0, E_laws_FnSampled_l2, R_laws_FnSampled_l2, ir3_k1, ir3_o1, ir3_r1, E_laws_FnSampled_l3, R_laws_FnSampled_l3, ir3_k2, ir3_o2, ir3_r2, E_laws_FnSampled_l4, R_laws_FnSampled_l4, ir3_k2, ir3_o2, ir3_r2, E_laws_FnSampled_l5, R_laws_FnSampled_l5, ir3_k2, ir3_o2, ir3_r2, E_laws_FnSampled_l6, R_laws_FnSampled_l6, ir3_k2, ir3_o2, ir3_r2, fhk1, hk2, fhk3, fhk4, fhk5, fhk6, fhk7, fhk8, fhk9, fhk10, fhk11, ghk12, hhk12, fhk12, ghk13naan, ghk13nabn, ghk13nbn, hk14]
          · try simp only [go_sem, n1, n2, n3, n4, hk2, ghk12, hhk12, ghk13naan, ghk13nabn, ghk13nbn] at hk14
            all_goals
            (simp_all)
    · have ghk12n := no_f ghk12
      have ghk12nn := no_t ghk12n
      try simp only [go_sem, n1, n2, n3, n4, hk2] at ghk12nn
      all_goals
      obtain ⟨hk13, h⟩ := ck_some h
      rcases it_some h with ⟨hk14, h⟩ | ⟨hk14, h⟩
      · try simp only [go_sem, n1, n2, n3, n4, hk2, ghk12nn] at hk14
        all_goals
        obtain rfl := so_some h
        refine ⟨0, fun L hL => ?_⟩
        simp only [go_sem, ir3, E_laws_FnSampled_l1, R_laws_FnSampled_l1, ir3_k0, ir3_o0, ir3_r0, E_laws_FnSampled_l2, R_laws_FnSampled_l2, ir3_k1, ir3_o1, ir3_r1, E_laws_FnSampled_l3, R_laws_FnSampled_l3, ir3_k2, ir3_o2, ir3_r2, E_laws_FnSampled_l4, R_laws_FnSampled_l4, ir3_k2, ir3_o2, ir3_r2, E_laws_FnSampled_l5, R_laws_FnSampled_l5, ir3_k2, ir3_o2, ir3_r2, E_laws_FnSampled_l6, R_laws_FnSampled_l6, ir3_k2, ir3_o2, ir3_r2, fhk1, hk2, fhk3, fhk4, fhk5, fhk6, fhk7, fhk8, fhk9, fhk10, fhk11, ghk12nn, hk14]
      · try simp only [go_sem, n1, n2, n3, n4, hk2, ghk12nn] at hk14
        all_goals
        (simp_all)


end Go.Proofs.Ytpjpfdoaemoddaa
