/- Codes and contracts of the functions that DA reaches, and that their typed forms say what they do. No condition. -/
import Derived.Test.YtmpmmodbigjdgaaDoorDCT
import Derived.Test.YtmpmmodbigjdgaaDoorEngSF
import Derived.Test.YtmpmmodbigjdgaaDoorRows
import Derived.WalkKit
namespace Go.Proofs.YtmpmmodbigjdgaaDoor
open Go Go.RowKit
set_option linter.unusedVariables false
set_option linter.unusedSimpArgs false
set_option maxRecDepth 10000

def ir5_v : List Nat := [0, 2]
def ir5 : AFn := ⟨1, 2, .seq (.region false [
    ⟨.var 1, 2, none, .mov (.c (.bool false))⟩])
 (.seq (.region false [
    ⟨.push, 3, none, .mov (.v 0)⟩,
    ⟨.push, 4, none, .len false (.s 0)⟩,
    ⟨.push, 5, none, .bin false .gtr (.s 0) (.c (.int .i64 (4096)))⟩,
    ⟨.var 1, 2, none, .mov (.s 0)⟩])
 (.ret)), [.t 1]⟩
noncomputable def t_laws_f6big : List (Nat × Ctr) := []
noncomputable def c_laws_f6big : Ctr := mkF t_laws_f6big ir5 [.bor]
theorem s_laws_f6big : Sound Tryd.prog 5 c_laws_f6big := mkF_sound _ rfl snd_nil (by kernel_rfl : chkFn Tryd.prog 5 ir5 ir5_v = true)
theorem M_laws_f6big : c_laws_f6big.modes = [.bor] := rfl
theorem Fl_laws_f6big : c_laws_f6big.flat = true := rfl
attribute [go_sem] M_laws_f6big Fl_laws_f6big
theorem Fs_laws_f6big {code : List UInt8} {y_ : Bool} (h : laws_f6big code = some y_) : c_laws_f6big.F [.sl 1 (List.map byteAV code)] = ⟨true, .bool y_, [.any]⟩ := by
  refine mkF_E rfl ?_
  dsimp only [laws_f6big] at h
  obtain rfl := so_some h
  refine ⟨0, fun L hL => ?_⟩
  simp only [go_sem, ir5]


def ir29_v : List Nat := [0, 2]
def ir29 : AFn := ⟨1, 2, .seq (.region false [
    ⟨.var 1, 2, none, .mov (.c (.cv (.pointer none)))⟩])
 (.seq (.region false [
    ⟨.push, 3, none, .mov (.v 0)⟩,
    ⟨.push, 4, none, .build [.sl 1 [], .int .i64 (0), .int .u64 (0)] [(0, 1, (.s 0))]⟩,
    ⟨.push, 5, none, .box (.s 0)⟩,
    ⟨.var 1, 2, none, .mov (.s 0)⟩])
 (.ret)), [.t 1]⟩
noncomputable def t_spec_l00From : List (Nat × Ctr) := []
noncomputable def c_spec_l00From : Ctr := mkN t_spec_l00From ir29 [.bor]
theorem s_spec_l00From : Sound Tryd.prog 29 c_spec_l00From := mkN_sound _ snd_nil (by kernel_rfl : chkFn Tryd.prog 29 ir29 ir29_v = true)
theorem M_spec_l00From : c_spec_l00From.modes = [.bor] := rfl
theorem Fl_spec_l00From : c_spec_l00From.flat = false := rfl
attribute [go_sem] M_spec_l00From Fl_spec_l00From
theorem Fs_spec_l00From {code : List UInt8} {y_ : L00Src} (h : spec_l00From code = some y_) : c_spec_l00From.F [.sl 1 (List.map byteAV code)] = ⟨true, .mem 3 [L00Src_av y_], [.any]⟩ := by
  refine mkN_E ?_
  dsimp only [spec_l00From] at h
  obtain rfl := so_some h
  refine ⟨0, fun L hL => ?_⟩
  simp only [go_sem, ir29]


def ir77_v : List Nat := [0, 2, 3]
def ir77 : AFn := ⟨1, 3, .seq (.region false [
    ⟨.var 1, 2, none, .mov (.c (.int .i64 (0)))⟩])
 (.seq (.region false [
    ⟨.var 2, 3, none, .mov (.c (.int .i64 (0)))⟩])
 (.seq (.anyo 10 [
    ⟨.slot 0, 4, none, .mov (.v 0)⟩,
    ⟨.slot 1, 5, none, .nilck (.s 0)⟩,
    ⟨.slot 2, 6, none, .fldAddr 1 (.s 1)⟩,
    ⟨.slot 3, 7, none, .load false 1 (.s 2)⟩,
    ⟨.slot 4, 8, none, .mov (.v 0)⟩,
    ⟨.slot 5, 9, none, .nilck (.s 4)⟩,
    ⟨.slot 6, 10, none, .fldAddr 0 (.s 5)⟩,
    ⟨.slot 7, 11, none, .load false 1 (.s 6)⟩,
    ⟨.slot 8, 12, none, .len false (.s 7)⟩,
    ⟨.slot 9, 13, none, .bin false .lss (.s 3) (.s 8)⟩] [] (.cond (.s 9)
  (.anyo 11 [
     ⟨.slot 0, 14, none, .mov (.v 0)⟩,
     ⟨.slot 1, 15, none, .nilck (.s 0)⟩,
     ⟨.slot 2, 16, none, .fldAddr 0 (.s 1)⟩,
     ⟨.slot 3, 17, none, .load false 1 (.s 2)⟩,
     ⟨.slot 4, 18, none, .mov (.v 0)⟩,
     ⟨.slot 5, 19, none, .nilck (.s 4)⟩,
     ⟨.slot 6, 20, none, .fldAddr 1 (.s 5)⟩,
     ⟨.slot 7, 21, none, .load false 1 (.s 6)⟩,
     ⟨.slot 8, 22, none, .ixAddr 1 (.s 3) (.s 7)⟩,
     ⟨.slot 9, 23, none, .load false 1 (.s 8)⟩,
     ⟨.slot 10, 24, none, .conv .i64 (.s 9)⟩,
     ⟨.var 2, 3, none, .mov (.s 10)⟩] [] .skip)
  (.skip)))
 (.seq (.region false [
    ⟨.push, 25, none, .mov (.v 0)⟩,
    ⟨.push, 26, none, .nilck (.s 0)⟩,
    ⟨.push, 27, none, .fldAddr 1 (.s 0)⟩,
    ⟨.push, 28, none, .load false 1 (.s 0)⟩,
    ⟨.push, 29, none, .bin false .add (.s 0) (.c (.int .i64 (1)))⟩,
    ⟨.push, 30, none, .nilck (.s 4)⟩,
    ⟨.push, 31, none, .fldAddr 1 (.s 0)⟩,
    ⟨.no, 0, none, .store 1 (.s 0) (.s 2)⟩])
 (.seq (.region false [
    ⟨.push, 32, none, .mov (.v 0)⟩,
    ⟨.push, 33, none, .mov (.v 0)⟩,
    ⟨.push, 34, none, .nilck (.s 0)⟩,
    ⟨.push, 35, none, .fldAddr 2 (.s 0)⟩,
    ⟨.push, 36, none, .load false 1 (.s 0)⟩,
    ⟨.push, 37, none, .bin false .mul (.s 0) (.c (.int .u64 (6364136223846793005)))⟩,
    ⟨.push, 38, none, .mov (.v 2)⟩,
    ⟨.push, 39, none, .conv .u64 (.s 0)⟩,
    ⟨.push, 40, none, .bin false .add (.s 2) (.s 0)⟩,
    ⟨.push, 41, none, .bin false .add (.s 0) (.c (.int .u64 (1442695040888963407)))⟩,
    ⟨.push, 42, none, .nilck (.s 9)⟩,
    ⟨.push, 43, none, .fldAddr 2 (.s 0)⟩,
    ⟨.no, 0, none, .store 1 (.s 0) (.s 2)⟩])
 (.seq (.anyo 10 [
    ⟨.slot 0, 44, none, .mov (.v 0)⟩,
    ⟨.slot 1, 45, none, .nilck (.s 0)⟩,
    ⟨.slot 2, 46, none, .fldAddr 1 (.s 1)⟩,
    ⟨.slot 3, 47, none, .load false 1 (.s 2)⟩,
    ⟨.slot 4, 48, none, .mov (.v 0)⟩,
    ⟨.slot 5, 49, none, .nilck (.s 4)⟩,
    ⟨.slot 6, 50, none, .fldAddr 0 (.s 5)⟩,
    ⟨.slot 7, 51, none, .load false 1 (.s 6)⟩,
    ⟨.slot 8, 52, none, .len false (.s 7)⟩,
    ⟨.slot 9, 53, none, .bin false .leq (.s 3) (.s 8)⟩] [] (.cond (.s 9)
  (.seq (.region false [
      ⟨.push, 54, none, .mov (.v 2)⟩,
      ⟨.var 1, 2, none, .mov (.s 0)⟩])
   (.ret))
  (.skip)))
 (.seq (.region false [
    ⟨.push, 55, none, .mov (.v 0)⟩,
    ⟨.push, 56, none, .nilck (.s 0)⟩,
    ⟨.push, 57, none, .fldAddr 2 (.s 0)⟩,
    ⟨.push, 58, none, .load false 1 (.s 0)⟩,
    ⟨.push, 59, none, .bin false .shr (.s 0) (.c (.int .u64 (40)))⟩,
    ⟨.push, 60, none, .bin false .and (.s 0) (.c (.int .u64 (255)))⟩,
    ⟨.push, 61, none, .conv .i64 (.s 0)⟩,
    ⟨.var 1, 2, none, .mov (.s 0)⟩])
 (.ret))))))), [.t 1]⟩
noncomputable def t_spec_l00Src_next : List (Nat × Ctr) := []
noncomputable def c_spec_l00Src_next : Ctr := mkN t_spec_l00Src_next ir77 [.io]
theorem s_spec_l00Src_next : Sound Tryd.prog 77 c_spec_l00Src_next := mkN_sound _ snd_nil (by kernel_rfl : chkFn Tryd.prog 77 ir77 ir77_v = true)
theorem M_spec_l00Src_next : c_spec_l00Src_next.modes = [.io] := rfl
theorem Fl_spec_l00Src_next : c_spec_l00Src_next.flat = false := rfl
attribute [go_sem] M_spec_l00Src_next Fl_spec_l00Src_next
theorem Fs_spec_l00Src_next {s_ : L00Src} {y_ : Int × L00Src} (h : spec_l00Src_next s_ = some y_) : c_spec_l00Src_next.F [.mem 3 [L00Src_av s_]] = ⟨true, .int .i64 y_.1, [.mem 3 [L00Src_av y_.2]]⟩ := by
  refine mkN_E ?_
  dsimp only [spec_l00Src_next] at h
  rcases it_some h with ⟨hk1, h⟩ | ⟨hk1, h⟩
  · try simp only [go_sem, n1, n2, n3, n4] at hk1
    all_goals
    obtain ⟨hk2, h⟩ := ck_some h
    have lhk2 := ix_lt hk2
    have xhk2 := getD_mapD byteAV s_.code_ lhk2
    try simp only [go_sem] at lhk2
    try simp only [go_sem] at xhk2
    try simp only [go_sem, n1, n2, n3, n4, hk1] at hk2
    all_goals
    rcases it_some h with ⟨hk3, h⟩ | ⟨hk3, h⟩
    · try simp only [go_sem, n1, n2, n3, n4, hk1, hk2] at hk3
      all_goals
      obtain rfl := so_some h
      refine ⟨0, fun L hL => ?_⟩
      simp only [go_sem, ir77, hk1, hk2, lhk2, xhk2, hk3]
    · try simp only [go_sem, n1, n2, n3, n4, hk1, hk2] at hk3
      all_goals
      obtain ⟨hk4, h⟩ := ck_some h
      try simp only [go_sem, n1, n2, n3, n4, hk1, hk2, hk3] at hk4
      all_goals
      obtain rfl := so_some h
      refine ⟨0, fun L hL => ?_⟩
      simp only [go_sem, ir77, hk1, hk2, lhk2, xhk2, hk3, hk4]
  · try simp only [go_sem, n1, n2, n3, n4] at hk1
    all_goals
    rcases it_some h with ⟨hk5, h⟩ | ⟨hk5, h⟩
    · try simp only [go_sem, n1, n2, n3, n4, hk1] at hk5
      all_goals
      obtain rfl := so_some h
      refine ⟨0, fun L hL => ?_⟩
      simp only [go_sem, ir77, hk1, hk5]
    · try simp only [go_sem, n1, n2, n3, n4, hk1] at hk5
      all_goals
      obtain ⟨hk6, h⟩ := ck_some h
      try simp only [go_sem, n1, n2, n3, n4, hk1, hk5] at hk6
      all_goals
      obtain rfl := so_some h
      refine ⟨0, fun L hL => ?_⟩
      simp only [go_sem, ir77, hk1, hk5, hk6]


def ir61_v : List Nat := [0, 1, 4, 5]
def ir61 : AFn := ⟨2, 4, .seq (.region false [
    ⟨.var 2, 4, none, .mov (.c (.int .i64 (0)))⟩])
 (.seq (.test false [
    ⟨.push, 6, none, .mov (.v 1)⟩,
    ⟨.push, 7, none, .bin false .leq (.s 0) (.c (.int .i64 (1)))⟩] (.s 0)
  (.seq (.region false [
      ⟨.var 2, 4, none, .mov (.c (.int .i64 (0)))⟩])
   (.ret))
  (.skip))
 (.seq (.region false [
    ⟨.push, 8, none, .mov (.v 0)⟩,
    ⟨.push, 9, none, .call 77 [(.s 0)]⟩,
    ⟨.var 3, 5, none, .mov (.s 0)⟩])
 (.seq (.test false [
    ⟨.push, 10, none, .mov (.v 1)⟩,
    ⟨.push, 11, none, .bin false .gtr (.s 0) (.c (.int .i64 (200)))⟩] (.s 0)
  (.region false [
     ⟨.push, 12, none, .mov (.v 3)⟩,
     ⟨.push, 13, none, .bin false .mul (.s 0) (.c (.int .i64 (256)))⟩,
     ⟨.push, 14, none, .mov (.v 0)⟩,
     ⟨.push, 15, none, .call 77 [(.s 0)]⟩,
     ⟨.push, 16, none, .bin false .add (.s 2) (.s 0)⟩,
     ⟨.var 3, 5, none, .mov (.s 0)⟩])
  (.skip))
 (.seq (.region false [
    ⟨.push, 17, none, .mov (.v 3)⟩,
    ⟨.push, 18, none, .mov (.v 1)⟩,
    ⟨.push, 19, none, .bin false .rem (.s 1) (.s 0)⟩,
    ⟨.var 2, 4, none, .mov (.s 0)⟩])
 (.ret))))), [.t 2]⟩
noncomputable def t_spec_l00Src_pick : List (Nat × Ctr) := [(77, c_spec_l00Src_next)]
theorem lk_spec_l00Src_pick_77 : look t_spec_l00Src_pick 77 = some c_spec_l00Src_next := rfl
noncomputable def c_spec_l00Src_pick : Ctr := mkN t_spec_l00Src_pick ir61 [.io, .bor]
theorem s_spec_l00Src_pick : Sound Tryd.prog 61 c_spec_l00Src_pick := mkN_sound _ (snd_cons s_spec_l00Src_next snd_nil) (by kernel_rfl : chkFn Tryd.prog 61 ir61 ir61_v = true)
theorem M_spec_l00Src_pick : c_spec_l00Src_pick.modes = [.io, .bor] := rfl
theorem Fl_spec_l00Src_pick : c_spec_l00Src_pick.flat = false := rfl
attribute [go_sem] M_spec_l00Src_pick Fl_spec_l00Src_pick
attribute [go_sem] lk_spec_l00Src_pick_77
theorem Fs_spec_l00Src_pick {s_ : L00Src} {n : Int} {y_ : Int × L00Src} (h : spec_l00Src_pick s_ n = some y_) : c_spec_l00Src_pick.F [.mem 3 [L00Src_av s_], .int .i64 n] = ⟨true, .int .i64 y_.1, [.mem 3 [L00Src_av y_.2], .any]⟩ := by
  refine mkN_E ?_
  dsimp only [spec_l00Src_pick] at h
  rcases it_some h with ⟨hk1, h⟩ | ⟨hk1, h⟩
  · try simp only [go_sem, n1, n2, n3, n4] at hk1
    all_goals
    obtain rfl := so_some h
    refine ⟨0, fun L hL => ?_⟩
    simp only [go_sem, ir61, hk1]
  · try simp only [go_sem, n1, n2, n3, n4] at hk1
    all_goals
    obtain ⟨y_2, hk2, h⟩ := bd_some h
    have fhk2 := Fs_spec_l00Src_next hk2
    try simp only [go_sem, hk1] at fhk2
    rcases it_some h with ⟨hk3, h⟩ | ⟨hk3, h⟩
    · try simp only [go_sem, n1, n2, n3, n4, hk1] at hk3
      all_goals
      obtain ⟨y_4, hk4, h⟩ := bd_some h
      have fhk4 := Fs_spec_l00Src_next hk4
      try simp only [go_sem, hk1, hk3] at fhk4
      obtain ⟨hk5, h⟩ := ck_some h
      try simp only [go_sem, n1, n2, n3, n4, hk1, hk3] at hk5
      all_goals
      obtain rfl := so_some h
      refine ⟨0, fun L hL => ?_⟩
      simp only [go_sem, ir61, hk1, fhk2, hk3, fhk4, hk5]
    · try simp only [go_sem, n1, n2, n3, n4, hk1] at hk3
      all_goals
      obtain ⟨hk6, h⟩ := ck_some h
      try simp only [go_sem, n1, n2, n3, n4, hk1, hk3] at hk6
      all_goals
      obtain rfl := so_some h
      refine ⟨0, fun L hL => ?_⟩
      simp only [go_sem, ir61, hk1, fhk2, hk3, hk6]


def ir43_v : List Nat := [0, 1, 4]
def ir43 : AFn := ⟨2, 3, .seq (.region false [
    ⟨.var 2, 4, none, .mov (.c (.bool false))⟩])
 (.seq (.region false [
    ⟨.push, 5, none, .mov (.v 0)⟩,
    ⟨.push, 6, none, .mov (.v 1)⟩,
    ⟨.push, 7, none, .call 61 [(.s 1), (.s 0)]⟩,
    ⟨.push, 8, none, .bin false .eql (.s 0) (.c (.int .i64 (0)))⟩,
    ⟨.var 2, 4, none, .mov (.s 0)⟩])
 (.ret)), [.t 2]⟩
noncomputable def t_spec_l00Src_one : List (Nat × Ctr) := [(61, c_spec_l00Src_pick)]
theorem lk_spec_l00Src_one_61 : look t_spec_l00Src_one 61 = some c_spec_l00Src_pick := rfl
noncomputable def c_spec_l00Src_one : Ctr := mkN t_spec_l00Src_one ir43 [.io, .bor]
theorem s_spec_l00Src_one : Sound Tryd.prog 43 c_spec_l00Src_one := mkN_sound _ (snd_cons s_spec_l00Src_pick snd_nil) (by kernel_rfl : chkFn Tryd.prog 43 ir43 ir43_v = true)
theorem M_spec_l00Src_one : c_spec_l00Src_one.modes = [.io, .bor] := rfl
theorem Fl_spec_l00Src_one : c_spec_l00Src_one.flat = false := rfl
attribute [go_sem] M_spec_l00Src_one Fl_spec_l00Src_one
attribute [go_sem] lk_spec_l00Src_one_61
theorem Fs_spec_l00Src_one {s_ : L00Src} {n : Int} {y_ : Bool × L00Src} (h : spec_l00Src_one s_ n = some y_) : c_spec_l00Src_one.F [.mem 3 [L00Src_av s_], .int .i64 n] = ⟨true, .bool y_.1, [.mem 3 [L00Src_av y_.2], .any]⟩ := by
  refine mkN_E ?_
  dsimp only [spec_l00Src_one] at h
  obtain ⟨y_1, hk1, h⟩ := bd_some h
  have fhk1 := Fs_spec_l00Src_pick hk1
  try simp only [go_sem] at fhk1
  obtain rfl := so_some h
  refine ⟨0, fun L hL => ?_⟩
  simp only [go_sem, ir43, fhk1]


def ir60_v : List Nat := [0, 1, 4]
def ir60 : AFn := ⟨2, 3, .seq (.region false [
    ⟨.var 2, 4, none, .mov (.c (.int .i64 (0)))⟩])
 (.seq (.region false [
    ⟨.push, 5, none, .mov (.v 1)⟩,
    ⟨.push, 6, none, .mov (.v 0)⟩,
    ⟨.push, 7, none, .mov (.v 1)⟩,
    ⟨.push, 8, none, .len false (.s 0)⟩,
    ⟨.push, 9, none, .call 61 [(.s 2), (.s 0)]⟩,
    ⟨.push, 10, none, .ixAddr 1 (.s 4) (.s 0)⟩,
    ⟨.push, 11, none, .load false 1 (.s 0)⟩,
    ⟨.var 2, 4, none, .mov (.s 0)⟩])
 (.ret)), [.t 2]⟩
noncomputable def t_spec_l00Src_among : List (Nat × Ctr) := [(61, c_spec_l00Src_pick)]
theorem lk_spec_l00Src_among_61 : look t_spec_l00Src_among 61 = some c_spec_l00Src_pick := rfl
noncomputable def c_spec_l00Src_among : Ctr := mkN t_spec_l00Src_among ir60 [.io, .bor]
theorem s_spec_l00Src_among : Sound Tryd.prog 60 c_spec_l00Src_among := mkN_sound _ (snd_cons s_spec_l00Src_pick snd_nil) (by kernel_rfl : chkFn Tryd.prog 60 ir60 ir60_v = true)
theorem M_spec_l00Src_among : c_spec_l00Src_among.modes = [.io, .bor] := rfl
theorem Fl_spec_l00Src_among : c_spec_l00Src_among.flat = false := rfl
attribute [go_sem] M_spec_l00Src_among Fl_spec_l00Src_among
attribute [go_sem] lk_spec_l00Src_among_61
theorem Fs_spec_l00Src_among {s_ : L00Src} {list : List Int} {y_ : Int × L00Src} (h : spec_l00Src_among s_ list = some y_) : c_spec_l00Src_among.F [.mem 3 [L00Src_av s_], .sl 1 (List.map (AV.int .i64) list)] = ⟨true, .int .i64 y_.1, [.mem 3 [L00Src_av y_.2], .any]⟩ := by
  refine mkN_E ?_
  dsimp only [spec_l00Src_among] at h
  obtain ⟨y_1, hk1, h⟩ := bd_some h
  have fhk1 := Fs_spec_l00Src_pick hk1
  try simp only [go_sem] at fhk1
  obtain ⟨hk2, h⟩ := ck_some h
  have lhk2 := ix_lt hk2
  have xhk2 := getD_mapD (AV.int .i64) list lhk2
  try simp only [go_sem] at lhk2
  try simp only [go_sem] at xhk2
  try simp only [go_sem, n1, n2, n3, n4] at hk2
  all_goals
  obtain rfl := so_some h
  refine ⟨0, fun L hL => ?_⟩
  simp only [go_sem, ir60, fhk1, hk2, lhk2, xhk2]


def ir28_v : List Nat := [0, 2, 3]
def ir28 : AFn := ⟨1, 3, .seq (.region false [
    ⟨.var 1, 2, none, .mov (.c (.int .i64 (0)))⟩])
 (.seq (.test false [
    ⟨.push, 4, none, .mov (.v 0)⟩,
    ⟨.push, 5, none, .call 43 [(.s 0), (.c (.int .i64 (10)))]⟩] (.s 0)
  (.seq (.region false [
      ⟨.push, 6, none, .mov (.v 0)⟩,
      ⟨.push, 7, none, .mkSl 1 (.int .i64 (0)) 5 [(0, (.c (.int .i64 (-1)))), (1, (.c (.int .i64 (0)))), (2, (.c (.int .i64 (100000)))), (3, (.c (.int .i64 (100001)))), (4, (.c (.int .i64 (9223372036854775807))))]⟩,
      ⟨.push, 8, none, .call 60 [(.s 1), (.s 0)]⟩,
      ⟨.var 1, 2, none, .mov (.s 0)⟩])
   (.ret))
  (.skip))
 (.seq (.region false [
    ⟨.push, 9, none, .mov (.v 0)⟩,
    ⟨.push, 10, none, .call 61 [(.s 0), (.c (.int .i64 (370)))]⟩,
    ⟨.var 2, 3, none, .mov (.s 0)⟩])
 (.seq (.region false [
    ⟨.push, 11, none, .mov (.v 2)⟩,
    ⟨.push, 12, none, .mov (.v 0)⟩,
    ⟨.push, 13, none, .call 61 [(.s 0), (.c (.int .i64 (270)))]⟩,
    ⟨.push, 14, none, .bin false .mul (.c (.int .i64 (365))) (.s 0)⟩,
    ⟨.push, 15, none, .bin false .add (.s 3) (.s 0)⟩,
    ⟨.var 1, 2, none, .mov (.s 0)⟩])
 (.ret)))), [.t 1]⟩
noncomputable def t_spec_l03Day : List (Nat × Ctr) := [(43, c_spec_l00Src_one), (60, c_spec_l00Src_among), (61, c_spec_l00Src_pick)]
theorem lk_spec_l03Day_43 : look t_spec_l03Day 43 = some c_spec_l00Src_one := rfl
theorem lk_spec_l03Day_60 : look t_spec_l03Day 60 = some c_spec_l00Src_among := rfl
theorem lk_spec_l03Day_61 : look t_spec_l03Day 61 = some c_spec_l00Src_pick := rfl
noncomputable def c_spec_l03Day : Ctr := mkN t_spec_l03Day ir28 [.io]
theorem s_spec_l03Day : Sound Tryd.prog 28 c_spec_l03Day := mkN_sound _ (snd_cons s_spec_l00Src_one (snd_cons s_spec_l00Src_among (snd_cons s_spec_l00Src_pick snd_nil))) (by kernel_rfl : chkFn Tryd.prog 28 ir28 ir28_v = true)
theorem M_spec_l03Day : c_spec_l03Day.modes = [.io] := rfl
theorem Fl_spec_l03Day : c_spec_l03Day.flat = false := rfl
attribute [go_sem] M_spec_l03Day Fl_spec_l03Day
attribute [go_sem] lk_spec_l03Day_43 lk_spec_l03Day_60 lk_spec_l03Day_61
theorem Fs_spec_l03Day {s_ : L00Src} {y_ : Int × L00Src} (h : spec_l03Day s_ = some y_) : c_spec_l03Day.F [.mem 3 [L00Src_av s_]] = ⟨true, .int .i64 y_.1, [.mem 3 [L00Src_av y_.2]]⟩ := by
  refine mkN_E ?_
  dsimp only [spec_l03Day] at h
  obtain ⟨y_1, hk1, h⟩ := bd_some h
  have fhk1 := Fs_spec_l00Src_one hk1
  try simp only [go_sem] at fhk1
  rcases it_some h with ⟨hk2, h⟩ | ⟨hk2, h⟩
  · try simp only [go_sem, n1, n2, n3, n4] at hk2
    all_goals
    obtain ⟨y_3, hk3, h⟩ := bd_some h
    have fhk3 := Fs_spec_l00Src_among hk3
    try simp only [go_sem, hk2] at fhk3
    obtain rfl := so_some h
    refine ⟨0, fun L hL => ?_⟩
    simp only [go_sem, ir28, fhk1, hk2, fhk3]
  · try simp only [go_sem, n1, n2, n3, n4] at hk2
    all_goals
    obtain ⟨y_4, hk4, h⟩ := bd_some h
    have fhk4 := Fs_spec_l00Src_pick hk4
    try simp only [go_sem, hk2] at fhk4
    obtain ⟨y_5, hk5, h⟩ := bd_some h
    have fhk5 := Fs_spec_l00Src_pick hk5
    try simp only [go_sem, hk2] at fhk5
    obtain rfl := so_some h
    refine ⟨0, fun L hL => ?_⟩
    simp only [go_sem, ir28, fhk1, hk2, fhk4, fhk5]


def ir6_v : List Nat := [0, 2]
def ir6 : AFn := ⟨1, 2, .seq (.region false [
    ⟨.var 1, 2, none, .mov (.c (.int .i64 (0)))⟩])
 (.seq (.region false [
    ⟨.push, 3, none, .mov (.v 0)⟩,
    ⟨.push, 4, none, .call 29 [(.s 0)]⟩,
    ⟨.push, 5, none, .call 28 [(.s 0)]⟩,
    ⟨.var 1, 2, none, .mov (.s 0)⟩])
 (.ret)), [.t 1]⟩
noncomputable def t_spec_DrawDateOf : List (Nat × Ctr) := [(29, c_spec_l00From), (28, c_spec_l03Day)]
theorem lk_spec_DrawDateOf_29 : look t_spec_DrawDateOf 29 = some c_spec_l00From := rfl
theorem lk_spec_DrawDateOf_28 : look t_spec_DrawDateOf 28 = some c_spec_l03Day := rfl
noncomputable def c_spec_DrawDateOf : Ctr := mkF t_spec_DrawDateOf ir6 [.bor]
theorem s_spec_DrawDateOf : Sound Tryd.prog 6 c_spec_DrawDateOf := mkF_sound _ rfl (snd_cons s_spec_l00From (snd_cons s_spec_l03Day snd_nil)) (by kernel_rfl : chkFn Tryd.prog 6 ir6 ir6_v = true)
theorem M_spec_DrawDateOf : c_spec_DrawDateOf.modes = [.bor] := rfl
theorem Fl_spec_DrawDateOf : c_spec_DrawDateOf.flat = true := rfl
attribute [go_sem] M_spec_DrawDateOf Fl_spec_DrawDateOf
attribute [go_sem] lk_spec_DrawDateOf_29 lk_spec_DrawDateOf_28
theorem Fs_spec_DrawDateOf {code : List UInt8} {y_ : Int} (h : spec_DrawDateOf code = some y_) : c_spec_DrawDateOf.F [.sl 1 (List.map byteAV code)] = ⟨true, .int .i64 y_, [.any]⟩ := by
  refine mkF_E rfl ?_
  dsimp only [spec_DrawDateOf] at h
  obtain ⟨y_1, hk1, h⟩ := bd_some h
  have fhk1 := Fs_spec_l00From hk1
  try simp only [go_sem] at fhk1
  obtain ⟨y_2, hk2, h⟩ := bd_some h
  have fhk2 := Fs_spec_l03Day hk2
  try simp only [go_sem] at fhk2
  obtain rfl := so_some h
  refine ⟨0, fun L hL => ?_⟩
  simp only [go_sem, ir6, fhk1, fhk2]


def ir30_v : List Nat := [0, 1, 2, 6]
def ir30 : AFn := ⟨3, 4, .seq (.region false [
    ⟨.var 3, 6, none, .mov (.c (.bool false))⟩])
 (.seq (.region false [
    ⟨.push, 7, none, .mov (.v 0)⟩,
    ⟨.push, 8, none, .mov (.v 1)⟩,
    ⟨.push, 9, none, .bin false .geq (.s 1) (.s 0)⟩,
    ⟨.push, 10, none, .mov (.s 0)⟩,
    ⟨.push, 11, (some ((.s 0), true)), .mov (.v 0)⟩,
    ⟨.push, 12, (some ((.s 1), true)), .mov (.v 2)⟩,
    ⟨.push, 13, (some ((.s 2), true)), .bin false .leq (.s 1) (.s 0)⟩,
    ⟨.push, 14, none, .pick (.s 3) (.s 0) (.c (.bool false))⟩,
    ⟨.var 3, 6, none, .mov (.s 0)⟩])
 (.ret)), [.t 3]⟩
noncomputable def t_impl_in : List (Nat × Ctr) := []
noncomputable def c_impl_in : Ctr := mkF t_impl_in ir30 [.bor, .bor, .bor]
theorem s_impl_in : Sound Tryd.prog 30 c_impl_in := mkF_sound _ rfl snd_nil (by kernel_rfl : chkFn Tryd.prog 30 ir30 ir30_v = true)
theorem M_impl_in : c_impl_in.modes = [.bor, .bor, .bor] := rfl
theorem Fl_impl_in : c_impl_in.flat = true := rfl
attribute [go_sem] M_impl_in Fl_impl_in
theorem Fs_impl_in {n : Int} {low : Int} {high : Int} {y_ : Bool} (h : impl_in n low high = some y_) : c_impl_in.F [.int .i64 n, .int .i64 low, .int .i64 high] = ⟨true, .bool y_, [.any, .any, .any]⟩ := by
  refine mkF_E rfl ?_
  dsimp only [impl_in] at h
  obtain rfl := so_some h
  refine ⟨0, fun L hL => ?_⟩
  simp only [go_sem, ir30]


def ir62_v : List Nat := [0, 2]
def ir62 : AFn := ⟨1, 2, .seq (.region false [
    ⟨.var 1, 2, none, .mov (.c (.bool false))⟩])
 (.seq (.region false [
    ⟨.push, 3, none, .mov (.v 0)⟩,
    ⟨.push, 4, none, .bin false .rem (.s 0) (.c (.int .i64 (4)))⟩,
    ⟨.push, 5, none, .bin false .eql (.s 0) (.c (.int .i64 (0)))⟩,
    ⟨.push, 6, none, .mov (.s 0)⟩,
    ⟨.push, 7, (some ((.s 0), true)), .mov (.v 0)⟩,
    ⟨.push, 8, (some ((.s 1), true)), .bin false .rem (.s 0) (.c (.int .i64 (100)))⟩,
    ⟨.push, 9, (some ((.s 2), true)), .bin false .neq (.s 0) (.c (.int .i64 (0)))⟩,
    ⟨.push, 10, none, .pick (.s 3) (.s 0) (.c (.bool false))⟩,
    ⟨.push, 11, none, .mov (.s 0)⟩,
    ⟨.push, 12, (some ((.s 0), false)), .mov (.v 0)⟩,
    ⟨.push, 13, (some ((.s 1), false)), .bin false .rem (.s 0) (.c (.int .i64 (400)))⟩,
    ⟨.push, 14, (some ((.s 2), false)), .bin false .eql (.s 0) (.c (.int .i64 (0)))⟩,
    ⟨.push, 15, none, .pick (.s 3) (.c (.bool true)) (.s 0)⟩,
    ⟨.var 1, 2, none, .mov (.s 0)⟩])
 (.ret)), [.t 1]⟩
noncomputable def t_impl_isLeap : List (Nat × Ctr) := []
noncomputable def c_impl_isLeap : Ctr := mkF t_impl_isLeap ir62 [.bor]
theorem s_impl_isLeap : Sound Tryd.prog 62 c_impl_isLeap := mkF_sound _ rfl snd_nil (by kernel_rfl : chkFn Tryd.prog 62 ir62 ir62_v = true)
theorem M_impl_isLeap : c_impl_isLeap.modes = [.bor] := rfl
theorem Fl_impl_isLeap : c_impl_isLeap.flat = true := rfl
attribute [go_sem] M_impl_isLeap Fl_impl_isLeap
theorem Fs_impl_isLeap {year : Int} {y_ : Bool} (h : impl_isLeap year = some y_) : c_impl_isLeap.F [.int .i64 year] = ⟨true, .bool y_, [.any]⟩ := by
  refine mkF_E rfl ?_
  dsimp only [impl_isLeap] at h
  obtain ⟨hk1, h⟩ := ck_some h
  try simp only [go_sem, n1, n2, n3, n4] at hk1
  all_goals
  obtain ⟨hk2, h⟩ := ck_some h
  rcases or_split hk2 with ⟨ghk2, hk2⟩ | ghk2
  · try simp only [go_sem, n1, n2, n3, n4, hk1] at ghk2
    all_goals
    try simp only [go_sem, n1, n2, n3, n4, hk1, ghk2] at hk2
    all_goals
    obtain ⟨hk3, h⟩ := ck_some h
    rcases or_split hk3 with ⟨ghk3, hk3⟩ | ghk3
    · try simp only [go_sem, n1, n2, n3, n4, hk1, ghk2, hk2] at ghk3
      all_goals
      try simp only [go_sem, n1, n2, n3, n4, hk1, ghk2, hk2, ghk3] at hk3
      all_goals
      obtain rfl := so_some h
      refine ⟨0, fun L hL => ?_⟩
      simp only [go_sem, ir62, hk1, ghk2, hk2, ghk3, hk3]
    · have ghk3n := no_f ghk3
      obtain ⟨ghk3na, ghk3nb⟩ := and_t ghk3n
      have ghk3nbn := no_t ghk3nb
      try simp only [go_sem, n1, n2, n3, n4, hk1, ghk2, hk2] at ghk3na
      all_goals
      try simp only [go_sem, n1, n2, n3, n4, hk1, ghk2, hk2, ghk3na] at ghk3nbn
      all_goals
      obtain rfl := so_some h
      refine ⟨0, fun L hL => ?_⟩
      simp only [go_sem, ir62, hk1, ghk2, hk2, ghk3na, ghk3nbn]
  · try simp only [go_sem, n1, n2, n3, n4, hk1] at ghk2
    all_goals
    obtain ⟨hk3, h⟩ := ck_some h
    rcases or_split hk3 with ⟨ghk3, hk3⟩ | ghk3
    · try simp only [go_sem, n1, n2, n3, n4, hk1, ghk2] at ghk3
      all_goals
      try simp only [go_sem, n1, n2, n3, n4, hk1, ghk2, ghk3] at hk3
      all_goals
      obtain rfl := so_some h
      refine ⟨0, fun L hL => ?_⟩
      simp only [go_sem, ir62, hk1, ghk2, ghk3, hk3]
    · have ghk3n := no_f ghk3
      obtain ⟨ghk3na, ghk3nb⟩ := and_t ghk3n
      have ghk3nbn := no_t ghk3nb
      try simp only [go_sem, n1, n2, n3, n4, hk1, ghk2] at ghk3na
      all_goals
      try simp only [go_sem, n1, n2, n3, n4, hk1, ghk2, ghk3na] at ghk3nbn
      all_goals
      obtain rfl := so_some h
      refine ⟨0, fun L hL => ?_⟩
      simp only [go_sem, ir62, hk1, ghk2, ghk3na, ghk3nbn]


def ir31_v : List Nat := [0, 2]
def ir31 : AFn := ⟨1, 2, .seq (.region false [
    ⟨.var 1, 2, none, .mov (.c (.int .i64 (0)))⟩])
 (.seq (.test false [
    ⟨.push, 3, none, .mov (.v 0)⟩,
    ⟨.push, 4, none, .call 62 [(.s 0)]⟩] (.s 0)
  (.seq (.region false [
      ⟨.var 1, 2, none, .mov (.c (.int .i64 (366)))⟩])
   (.ret))
  (.skip))
 (.seq (.region false [
    ⟨.var 1, 2, none, .mov (.c (.int .i64 (365)))⟩])
 (.ret))), [.t 1]⟩
noncomputable def t_impl_yearDays : List (Nat × Ctr) := [(62, c_impl_isLeap)]
theorem lk_impl_yearDays_62 : look t_impl_yearDays 62 = some c_impl_isLeap := rfl
noncomputable def c_impl_yearDays : Ctr := mkF t_impl_yearDays ir31 [.bor]
theorem s_impl_yearDays : Sound Tryd.prog 31 c_impl_yearDays := mkF_sound _ rfl (snd_cons s_impl_isLeap snd_nil) (by kernel_rfl : chkFn Tryd.prog 31 ir31 ir31_v = true)
theorem M_impl_yearDays : c_impl_yearDays.modes = [.bor] := rfl
theorem Fl_impl_yearDays : c_impl_yearDays.flat = true := rfl
attribute [go_sem] M_impl_yearDays Fl_impl_yearDays
attribute [go_sem] lk_impl_yearDays_62
theorem Fs_impl_yearDays {year : Int} {y_ : Int} (h : impl_yearDays year = some y_) : c_impl_yearDays.F [.int .i64 year] = ⟨true, .int .i64 y_, [.any]⟩ := by
  refine mkF_E rfl ?_
  dsimp only [impl_yearDays] at h
  obtain ⟨y_1, hk1, h⟩ := bd_some h
  have fhk1 := Fs_impl_isLeap hk1
  try simp only [go_sem] at fhk1
  rcases it_some h with ⟨hk2, h⟩ | ⟨hk2, h⟩
  · try simp only [go_sem, n1, n2, n3, n4] at hk2
    all_goals
    obtain rfl := so_some h
    refine ⟨0, fun L hL => ?_⟩
    simp only [go_sem, ir31, fhk1, hk2]
  · try simp only [go_sem, n1, n2, n3, n4] at hk2
    all_goals
    obtain rfl := so_some h
    refine ⟨0, fun L hL => ?_⟩
    simp only [go_sem, ir31, fhk1, hk2]


def ir32_v : List Nat := [0, 1, 4, 5, 6]
def ir32 : AFn := ⟨2, 5, .seq (.region false [
    ⟨.var 2, 4, none, .mov (.c (.int .i64 (0)))⟩])
 (.seq (.seq (.region false [
     ⟨.var 3, 5, none, .mov (.v 1)⟩])
  (.block 0 (.seq (.test false [
      ⟨.push, 7, none, .bin false .eql (.v 3) (.c (.int .i64 (4)))⟩,
      ⟨.var 4, 6, none, .mov (.s 0)⟩] (.v 4)
    (.skip)
    (.test false [
       ⟨.push, 8, none, .bin false .eql (.v 3) (.c (.int .i64 (6)))⟩,
       ⟨.var 4, 6, none, .mov (.s 0)⟩] (.v 4)
     (.skip)
     (.test false [
        ⟨.push, 9, none, .bin false .eql (.v 3) (.c (.int .i64 (9)))⟩,
        ⟨.var 4, 6, none, .mov (.s 0)⟩] (.v 4)
      (.skip)
      (.region false [
         ⟨.push, 10, none, .bin false .eql (.v 3) (.c (.int .i64 (11)))⟩,
         ⟨.var 4, 6, none, .mov (.s 0)⟩]))))
   (.cond (.v 4) (.seq (.region false [
       ⟨.var 2, 4, none, .mov (.c (.int .i64 (30)))⟩])
    (.ret))
   (.test false [
      ⟨.push, 12, none, .bin false .eql (.v 3) (.c (.int .i64 (2)))⟩,
      ⟨.push, 11, none, .mov (.s 0)⟩] (.s 0)
    (.seq (.region false [
        ⟨.push, 13, none, .mov (.v 0)⟩,
        ⟨.push, 14, none, .call 31 [(.s 0)]⟩,
        ⟨.push, 15, none, .bin false .sub (.s 0) (.c (.int .i64 (337)))⟩,
        ⟨.var 2, 4, none, .mov (.s 0)⟩])
     (.ret))
    (.skip))))))
 (.seq (.region false [
    ⟨.var 2, 4, none, .mov (.c (.int .i64 (31)))⟩])
 (.ret))), [.t 2]⟩
noncomputable def t_impl_monthDays : List (Nat × Ctr) := [(31, c_impl_yearDays)]
theorem lk_impl_monthDays_31 : look t_impl_monthDays 31 = some c_impl_yearDays := rfl
noncomputable def c_impl_monthDays : Ctr := mkF t_impl_monthDays ir32 [.bor, .bor]
theorem s_impl_monthDays : Sound Tryd.prog 32 c_impl_monthDays := mkF_sound _ rfl (snd_cons s_impl_yearDays snd_nil) (by kernel_rfl : chkFn Tryd.prog 32 ir32 ir32_v = true)
theorem M_impl_monthDays : c_impl_monthDays.modes = [.bor, .bor] := rfl
theorem Fl_impl_monthDays : c_impl_monthDays.flat = true := rfl
attribute [go_sem] M_impl_monthDays Fl_impl_monthDays
attribute [go_sem] lk_impl_monthDays_31
theorem Fs_impl_monthDays {year : Int} {month : Int} {y_ : Int} (h : impl_monthDays year month = some y_) : c_impl_monthDays.F [.int .i64 year, .int .i64 month] = ⟨true, .int .i64 y_, [.any, .any]⟩ := by
  refine mkF_E rfl ?_
  dsimp only [impl_monthDays] at h
  rcases it_some h with ⟨hk1, h⟩ | ⟨hk1, h⟩
  · try simp only [go_sem, n1, n2, n3, n4] at hk1
    all_goals
    obtain rfl := so_some h
    refine ⟨0, fun L hL => ?_⟩
    simp only [go_sem, ir32, hk1]
  · try simp only [go_sem, n1, n2, n3, n4] at hk1
    all_goals
    rcases it_some h with ⟨hk2, h⟩ | ⟨hk2, h⟩
    · try simp only [go_sem, n1, n2, n3, n4, hk1] at hk2
      all_goals
      obtain rfl := so_some h
      refine ⟨0, fun L hL => ?_⟩
      simp only [go_sem, ir32, hk1, hk2]
    · try simp only [go_sem, n1, n2, n3, n4, hk1] at hk2
      all_goals
      rcases it_some h with ⟨hk3, h⟩ | ⟨hk3, h⟩
      · try simp only [go_sem, n1, n2, n3, n4, hk1, hk2] at hk3
        all_goals
        obtain rfl := so_some h
        refine ⟨0, fun L hL => ?_⟩
        simp only [go_sem, ir32, hk1, hk2, hk3]
      · try simp only [go_sem, n1, n2, n3, n4, hk1, hk2] at hk3
        all_goals
        rcases it_some h with ⟨hk4, h⟩ | ⟨hk4, h⟩
        · try simp only [go_sem, n1, n2, n3, n4, hk1, hk2, hk3] at hk4
          all_goals
          obtain rfl := so_some h
          refine ⟨0, fun L hL => ?_⟩
          simp only [go_sem, ir32, hk1, hk2, hk3, hk4]
        · try simp only [go_sem, n1, n2, n3, n4, hk1, hk2, hk3] at hk4
          all_goals
          rcases it_some h with ⟨hk5, h⟩ | ⟨hk5, h⟩
          · try simp only [go_sem, n1, n2, n3, n4, hk1, hk2, hk3, hk4] at hk5
            all_goals
            obtain ⟨y_6, hk6, h⟩ := bd_some h
            have fhk6 := Fs_impl_yearDays hk6
            try simp only [go_sem, hk1, hk2, hk3, hk4, hk5] at fhk6
            obtain rfl := so_some h
            refine ⟨0, fun L hL => ?_⟩
            simp only [go_sem, ir32, hk1, hk2, hk3, hk4, hk5, fhk6]
          · try simp only [go_sem, n1, n2, n3, n4, hk1, hk2, hk3, hk4] at hk5
            all_goals
            obtain rfl := so_some h
            refine ⟨0, fun L hL => ?_⟩
            simp only [go_sem, ir32, hk1, hk2, hk3, hk4, hk5]


def ir7_b0 : IR := .seq (.test false [
    ⟨.push, 10, none, .mov (.v 0)⟩,
    ⟨.push, 11, none, .fldAddr 0 (.v 3)⟩,
    ⟨.push, 12, none, .load false 1 (.s 0)⟩,
    ⟨.push, 13, none, .call 31 [(.s 0)]⟩,
    ⟨.push, 14, none, .bin false .geq (.s 3) (.s 0)⟩] (.s 0)
  (.skip)
  (.exit 0))
 (.seq (.block 1 (.region false [
     ⟨.push, 19, none, .mov (.v 0)⟩,
     ⟨.push, 20, none, .fldAddr 0 (.v 3)⟩,
     ⟨.push, 21, none, .load false 1 (.s 0)⟩,
     ⟨.push, 22, none, .call 31 [(.s 0)]⟩,
     ⟨.push, 23, none, .bin false .sub (.s 3) (.s 0)⟩,
     ⟨.var 0, 0, none, .mov (.s 0)⟩]))
 (.region false [
   ⟨.push, 15, none, .fldAddr 0 (.v 3)⟩,
   ⟨.push, 16, none, .load false 1 (.s 0)⟩,
   ⟨.push, 17, none, .bin false .add (.s 0) (.c (.int .i64 (1)))⟩,
   ⟨.push, 18, none, .fldAddr 0 (.v 3)⟩,
   ⟨.no, 0, none, .store 1 (.s 0) (.s 1)⟩]))
def ir7_k0 : List Bool := [true, true, false, true]
def ir7_o0 : List Bool := [true, true, false, true]
def ir7_r0 : List Bool := [false, true, true, false]
def ir7_b1 : IR := .seq (.test false [
    ⟨.push, 24, none, .mov (.v 0)⟩,
    ⟨.push, 25, none, .fldAddr 0 (.v 3)⟩,
    ⟨.push, 26, none, .load false 1 (.s 0)⟩,
    ⟨.push, 27, none, .fldAddr 1 (.v 3)⟩,
    ⟨.push, 28, none, .load false 1 (.s 0)⟩,
    ⟨.push, 29, none, .call 32 [(.s 2), (.s 0)]⟩,
    ⟨.push, 30, none, .bin false .geq (.s 5) (.s 0)⟩] (.s 0)
  (.skip)
  (.exit 2))
 (.seq (.block 3 (.region false [
     ⟨.push, 35, none, .mov (.v 0)⟩,
     ⟨.push, 36, none, .fldAddr 0 (.v 3)⟩,
     ⟨.push, 37, none, .load false 1 (.s 0)⟩,
     ⟨.push, 38, none, .fldAddr 1 (.v 3)⟩,
     ⟨.push, 39, none, .load false 1 (.s 0)⟩,
     ⟨.push, 40, none, .call 32 [(.s 2), (.s 0)]⟩,
     ⟨.push, 41, none, .bin false .sub (.s 5) (.s 0)⟩,
     ⟨.var 0, 0, none, .mov (.s 0)⟩]))
 (.region false [
   ⟨.push, 31, none, .fldAddr 1 (.v 3)⟩,
   ⟨.push, 32, none, .load false 1 (.s 0)⟩,
   ⟨.push, 33, none, .bin false .add (.s 0) (.c (.int .i64 (1)))⟩,
   ⟨.push, 34, none, .fldAddr 1 (.v 3)⟩,
   ⟨.no, 0, none, .store 1 (.s 0) (.s 1)⟩]))
def ir7_k1 : List Bool := [true, true, false, true]
def ir7_o1 : List Bool := [true, true, false, true]
def ir7_r1 : List Bool := [false, true, true, false]
def ir7_v : List Nat := [0, 2, 3, 4]
def ir7 : AFn := ⟨1, 4, .seq (.region false [
    ⟨.var 1, 2, none, .alloc (.agg [.int .i64 (0), .int .i64 (0), .int .i64 (0)])⟩,
    ⟨.var 2, 3, none, .mov (.c (.int .i64 (0)))⟩])
 (.seq (.test false [
    ⟨.push, 5, none, .mov (.v 0)⟩,
    ⟨.push, 6, none, .call 30 [(.s 0), (.c (.int .i64 (0))), (.c (.int .i64 (100000)))]⟩,
    ⟨.push, 7, none, .un .not (.s 0)⟩] (.s 0)
  (.seq (.region false [
      ⟨.push, 8, none, .build [.int .i64 (0), .int .i64 (0), .int .i64 (0)] []⟩,
      ⟨.no, 0, none, .store 3 (.v 1) (.s 0)⟩,
      ⟨.var 2, 3, none, .mov (.c (.int .i64 (2)))⟩])
   (.ret))
  (.skip))
 (.seq (.region false [
    ⟨.push, 9, none, .build [.int .i64 (0), .int .i64 (0), .int .i64 (0)] [(0, 1, (.c (.int .i64 (2001)))), (1, 1, (.c (.int .i64 (1))))]⟩,
    ⟨.var 3, 4, none, .alloc (.agg [.int .i64 (0), .int .i64 (0), .int .i64 (0)])⟩,
    ⟨.no, 0, none, .store 3 (.v 3) (.s 0)⟩])
 (.seq (.block 0 (.loop ir7_k0 ir7_o0 ir7_r0 ir7_b0))
 (.seq (.block 2 (.loop ir7_k1 ir7_o1 ir7_r1 ir7_b1))
 (.seq (.region false [
    ⟨.push, 42, none, .mov (.v 0)⟩,
    ⟨.push, 43, none, .bin false .add (.s 0) (.c (.int .i64 (1)))⟩,
    ⟨.push, 44, none, .fldAddr 2 (.v 3)⟩,
    ⟨.no, 0, none, .store 1 (.s 0) (.s 1)⟩])
 (.seq (.region false [
    ⟨.push, 45, none, .load true 3 (.v 3)⟩,
    ⟨.no, 0, none, .store 3 (.v 1) (.s 0)⟩,
    ⟨.var 2, 3, none, .mov (.c (.int .i64 (0)))⟩])
 (.ret))))))), [.cell true 3 1, .t 2]⟩
noncomputable def t_impl_DateOf : List (Nat × Ctr) := [(30, c_impl_in), (31, c_impl_yearDays), (32, c_impl_monthDays)]
theorem lk_impl_DateOf_30 : look t_impl_DateOf 30 = some c_impl_in := rfl
theorem lk_impl_DateOf_31 : look t_impl_DateOf 31 = some c_impl_yearDays := rfl
theorem lk_impl_DateOf_32 : look t_impl_DateOf 32 = some c_impl_monthDays := rfl
noncomputable def c_impl_DateOf : Ctr := mkN t_impl_DateOf ir7 [.bor]
theorem s_impl_DateOf : Sound Tryd.prog 7 c_impl_DateOf := mkN_sound _ (snd_cons s_impl_in (snd_cons s_impl_yearDays (snd_cons s_impl_monthDays snd_nil))) (by kernel_rfl : chkFn Tryd.prog 7 ir7 ir7_v = true)
theorem M_impl_DateOf : c_impl_DateOf.modes = [.bor] := rfl
theorem Fl_impl_DateOf : c_impl_DateOf.flat = false := rfl
attribute [go_sem] M_impl_DateOf Fl_impl_DateOf
attribute [go_sem] lk_impl_DateOf_30 lk_impl_DateOf_31 lk_impl_DateOf_32
def E_impl_DateOf_l1 (t2 : Date) : (Int × Date) → St
  | (day, d) => ⟨[.int .i64 day, .ref 3200000 0 0, .any, .ref 3200032 0 0], [], [(3200000, ⟨3, [Date_av t2]⟩), (3200032, ⟨3, [Date_av d]⟩)], true⟩
def R_impl_DateOf_l1 (t2 : Date) (y : Int × Date) : Res := (.exit 0, ⟨[.int .i64 y.1, .ref 3200000 0 0, .any, .ref 3200032 0 0], [], [(3200000, ⟨3, [Date_av t2]⟩), (3200032, ⟨3, [Date_av y.2]⟩)], true⟩)
theorem impl_DateOf_l1_ex {t2 : Date} {sgm_ : Int × Date} {rho_ : Int × Date} (h : whileE (impl_DateOf_l1 t2) sgm_ = some rho_) : ∃ L0, ∀ L, L0 ≤ L → iter (exec (look t_impl_DateOf) L ir7_b0) ir7_k0 ir7_o0 ir7_r0 L (E_impl_DateOf_l1 t2 sgm_) = R_impl_DateOf_l1 t2 rho_ := by
  refine loop_ex (E := E_impl_DateOf_l1 t2) (R := R_impl_DateOf_l1 t2) (fun y => by first | (intro c; cases c) | (rcases y with y | y <;> (intro c; cases c)) | (rcases y with y | y | y <;> (intro c; cases c))) ?_ h
  clear h
  rintro ⟨day, d⟩ o_ h
  dsimp only [impl_DateOf_l1] at h
  obtain ⟨y_3, hk3, h⟩ := bd_some h
  have fhk3 := Fs_impl_yearDays hk3
  try simp only [go_sem] at fhk3
  rcases it_some h with ⟨hk4, h⟩ | ⟨hk4, h⟩
  · try simp only [go_sem, n1, n2, n3, n4] at hk4
    all_goals
    obtain rfl := so_some h
    refine ⟨0, fun L hL => ?_⟩
    simp only [go_sem, ir7, E_impl_DateOf_l1, R_impl_DateOf_l1, ir7_b0, ir7_k0, ir7_o0, ir7_r0, fhk3, hk4]
  · try simp only [go_sem, n1, n2, n3, n4] at hk4
    all_goals
    obtain rfl := so_some h
    refine ⟨0, fun L hL => ?_⟩
    simp only [go_sem, ir7, E_impl_DateOf_l1, R_impl_DateOf_l1, ir7_b0, ir7_k0, ir7_o0, ir7_r0, fhk3, hk4]

def E_impl_DateOf_l2 (t2 : Date) : (Int × Date) → St
  | (day, d) => ⟨[.int .i64 day, .ref 3200000 0 0, .any, .ref 3200032 0 0], [], [(3200000, ⟨3, [Date_av t2]⟩), (3200032, ⟨3, [Date_av d]⟩)], true⟩
def R_impl_DateOf_l2 (t2 : Date) (y : Int × Date) : Res := (.exit 2, ⟨[.int .i64 y.1, .ref 3200000 0 0, .any, .ref 3200032 0 0], [], [(3200000, ⟨3, [Date_av t2]⟩), (3200032, ⟨3, [Date_av y.2]⟩)], true⟩)
theorem impl_DateOf_l2_ex {t2 : Date} {sgm_ : Int × Date} {rho_ : Int × Date} (h : whileE (impl_DateOf_l2 t2) sgm_ = some rho_) : ∃ L0, ∀ L, L0 ≤ L → iter (exec (look t_impl_DateOf) L ir7_b1) ir7_k1 ir7_o1 ir7_r1 L (E_impl_DateOf_l2 t2 sgm_) = R_impl_DateOf_l2 t2 rho_ := by
  refine loop_ex (E := E_impl_DateOf_l2 t2) (R := R_impl_DateOf_l2 t2) (fun y => by first | (intro c; cases c) | (rcases y with y | y <;> (intro c; cases c)) | (rcases y with y | y | y <;> (intro c; cases c))) ?_ h
  clear h
  rintro ⟨day, d⟩ o_ h
  dsimp only [impl_DateOf_l2] at h
  obtain ⟨y_6, hk6, h⟩ := bd_some h
  have fhk6 := Fs_impl_monthDays hk6
  try simp only [go_sem] at fhk6
  rcases it_some h with ⟨hk7, h⟩ | ⟨hk7, h⟩
  · try simp only [go_sem, n1, n2, n3, n4] at hk7
    all_goals
    obtain rfl := so_some h
    refine ⟨0, fun L hL => ?_⟩
    simp only [go_sem, ir7, E_impl_DateOf_l2, R_impl_DateOf_l2, ir7_b1, ir7_k1, ir7_o1, ir7_r1, E_impl_DateOf_l1, R_impl_DateOf_l1, ir7_k0, ir7_o0, ir7_r0, fhk6, hk7]
  · try simp only [go_sem, n1, n2, n3, n4] at hk7
    all_goals
    obtain rfl := so_some h
    refine ⟨0, fun L hL => ?_⟩
    simp only [go_sem, ir7, E_impl_DateOf_l2, R_impl_DateOf_l2, ir7_b1, ir7_k1, ir7_o1, ir7_r1, E_impl_DateOf_l1, R_impl_DateOf_l1, ir7_k0, ir7_o0, ir7_r0, fhk6, hk7]

theorem Fs_impl_DateOf {day : Int} {y_ : Date × Int} (h : impl_DateOf day = some y_) : c_impl_DateOf.F [.int .i64 day] = ⟨true, .tup [Date_av y_.1, .int .i64 y_.2], [.any]⟩ := by
  refine mkN_E ?_
  dsimp only [impl_DateOf] at h
  obtain ⟨y_1, hk1, h⟩ := bd_some h
  have fhk1 := Fs_impl_in hk1
  try simp only [go_sem] at fhk1
  rcases it_some h with ⟨hk2, h⟩ | ⟨hk2, h⟩
  · try simp only [go_sem, n1, n2, n3, n4] at hk2
    all_goals
    obtain rfl := so_some h
    refine ⟨0, fun L hL => ?_⟩
    simp only [go_sem, ir7, E_impl_DateOf_l1, R_impl_DateOf_l1, ir7_k0, ir7_o0, ir7_r0, E_impl_DateOf_l2, R_impl_DateOf_l2, ir7_k1, ir7_o1, ir7_r1, fhk1, hk2]
  · try simp only [go_sem, n1, n2, n3, n4] at hk2
    all_goals
    obtain ⟨y_5, hk5, h⟩ := bd_some h
    obtain ⟨Lhk5, ehk5⟩ := impl_DateOf_l1_ex hk5
    obtain ⟨y_8, hk8, h⟩ := bd_some h
    obtain ⟨Lhk8, ehk8⟩ := impl_DateOf_l2_ex hk8
    obtain rfl := so_some h
    refine ⟨Lhk5 + Lhk8, fun L hL => ?_⟩
    have ehk5 := ehk5 L (by omega)
    have ehk8 := ehk8 L (by omega)
    try simp only [go_sem, E_impl_DateOf_l1, R_impl_DateOf_l1, ir7_k0, ir7_o0, ir7_r0, E_impl_DateOf_l2, R_impl_DateOf_l2, ir7_k1, ir7_o1, ir7_r1, hk2] at ehk5
    try simp only [go_sem, E_impl_DateOf_l1, R_impl_DateOf_l1, ir7_k0, ir7_o0, ir7_r0, E_impl_DateOf_l2, R_impl_DateOf_l2, ir7_k1, ir7_o1, ir7_r1, hk2] at ehk8
    simp only [go_sem, ir7, E_impl_DateOf_l1, R_impl_DateOf_l1, ir7_k0, ir7_o0, ir7_r0, E_impl_DateOf_l2, R_impl_DateOf_l2, ir7_k1, ir7_o1, ir7_r1, fhk1, hk2, ehk5, ehk8]


def ir63_v : List Nat := [0, 2]
def ir63 : AFn := ⟨1, 2, .seq (.region false [
    ⟨.var 1, 2, none, .mov (.c (.bool false))⟩])
 (.seq (.region false [
    ⟨.push, 3, none, .mov (.v 0)⟩,
    ⟨.push, 4, none, .bin false .rem (.s 0) (.c (.int .i64 (4)))⟩,
    ⟨.push, 5, none, .bin false .eql (.s 0) (.c (.int .i64 (0)))⟩,
    ⟨.push, 6, none, .mov (.s 0)⟩,
    ⟨.push, 7, (some ((.s 0), true)), .mov (.v 0)⟩,
    ⟨.push, 8, (some ((.s 1), true)), .bin false .rem (.s 0) (.c (.int .i64 (100)))⟩,
    ⟨.push, 9, (some ((.s 2), true)), .bin false .neq (.s 0) (.c (.int .i64 (0)))⟩,
    ⟨.push, 10, none, .pick (.s 3) (.s 0) (.c (.bool false))⟩,
    ⟨.push, 11, none, .mov (.s 0)⟩,
    ⟨.push, 12, (some ((.s 0), false)), .mov (.v 0)⟩,
    ⟨.push, 13, (some ((.s 1), false)), .bin false .rem (.s 0) (.c (.int .i64 (400)))⟩,
    ⟨.push, 14, (some ((.s 2), false)), .bin false .eql (.s 0) (.c (.int .i64 (0)))⟩,
    ⟨.push, 15, none, .pick (.s 3) (.c (.bool true)) (.s 0)⟩,
    ⟨.var 1, 2, none, .mov (.s 0)⟩])
 (.ret)), [.t 1]⟩
noncomputable def t_spec_l03Leap : List (Nat × Ctr) := []
noncomputable def c_spec_l03Leap : Ctr := mkF t_spec_l03Leap ir63 [.bor]
theorem s_spec_l03Leap : Sound Tryd.prog 63 c_spec_l03Leap := mkF_sound _ rfl snd_nil (by kernel_rfl : chkFn Tryd.prog 63 ir63 ir63_v = true)
theorem M_spec_l03Leap : c_spec_l03Leap.modes = [.bor] := rfl
theorem Fl_spec_l03Leap : c_spec_l03Leap.flat = true := rfl
attribute [go_sem] M_spec_l03Leap Fl_spec_l03Leap
theorem Fs_spec_l03Leap {year : Int} {y_ : Bool} (h : spec_l03Leap year = some y_) : c_spec_l03Leap.F [.int .i64 year] = ⟨true, .bool y_, [.any]⟩ := by
  refine mkF_E rfl ?_
  dsimp only [spec_l03Leap] at h
  obtain ⟨hk1, h⟩ := ck_some h
  try simp only [go_sem, n1, n2, n3, n4] at hk1
  all_goals
  obtain ⟨hk2, h⟩ := ck_some h
  rcases or_split hk2 with ⟨ghk2, hk2⟩ | ghk2
  · try simp only [go_sem, n1, n2, n3, n4, hk1] at ghk2
    all_goals
    try simp only [go_sem, n1, n2, n3, n4, hk1, ghk2] at hk2
    all_goals
    obtain ⟨hk3, h⟩ := ck_some h
    rcases or_split hk3 with ⟨ghk3, hk3⟩ | ghk3
    · try simp only [go_sem, n1, n2, n3, n4, hk1, ghk2, hk2] at ghk3
      all_goals
      try simp only [go_sem, n1, n2, n3, n4, hk1, ghk2, hk2, ghk3] at hk3
      all_goals
      obtain rfl := so_some h
      refine ⟨0, fun L hL => ?_⟩
      simp only [go_sem, ir63, hk1, ghk2, hk2, ghk3, hk3]
    · have ghk3n := no_f ghk3
      obtain ⟨ghk3na, ghk3nb⟩ := and_t ghk3n
      have ghk3nbn := no_t ghk3nb
      try simp only [go_sem, n1, n2, n3, n4, hk1, ghk2, hk2] at ghk3na
      all_goals
      try simp only [go_sem, n1, n2, n3, n4, hk1, ghk2, hk2, ghk3na] at ghk3nbn
      all_goals
      obtain rfl := so_some h
      refine ⟨0, fun L hL => ?_⟩
      simp only [go_sem, ir63, hk1, ghk2, hk2, ghk3na, ghk3nbn]
  · try simp only [go_sem, n1, n2, n3, n4, hk1] at ghk2
    all_goals
    obtain ⟨hk3, h⟩ := ck_some h
    rcases or_split hk3 with ⟨ghk3, hk3⟩ | ghk3
    · try simp only [go_sem, n1, n2, n3, n4, hk1, ghk2] at ghk3
      all_goals
      try simp only [go_sem, n1, n2, n3, n4, hk1, ghk2, ghk3] at hk3
      all_goals
      obtain rfl := so_some h
      refine ⟨0, fun L hL => ?_⟩
      simp only [go_sem, ir63, hk1, ghk2, ghk3, hk3]
    · have ghk3n := no_f ghk3
      obtain ⟨ghk3na, ghk3nb⟩ := and_t ghk3n
      have ghk3nbn := no_t ghk3nb
      try simp only [go_sem, n1, n2, n3, n4, hk1, ghk2] at ghk3na
      all_goals
      try simp only [go_sem, n1, n2, n3, n4, hk1, ghk2, ghk3na] at ghk3nbn
      all_goals
      obtain rfl := so_some h
      refine ⟨0, fun L hL => ?_⟩
      simp only [go_sem, ir63, hk1, ghk2, ghk3na, ghk3nbn]


def ir35_v : List Nat := [0, 1, 4, 5]
def ir35 : AFn := ⟨2, 4, .seq (.region false [
    ⟨.var 2, 4, none, .mov (.c (.int .i64 (0)))⟩])
 (.seq (.region false [
    ⟨.push, 6, none, .mkSl 1 (.int .i64 (0)) 12 [(0, (.c (.int .i64 (31)))), (1, (.c (.int .i64 (28)))), (2, (.c (.int .i64 (31)))), (3, (.c (.int .i64 (30)))), (4, (.c (.int .i64 (31)))), (5, (.c (.int .i64 (30)))), (6, (.c (.int .i64 (31)))), (7, (.c (.int .i64 (31)))), (8, (.c (.int .i64 (30)))), (9, (.c (.int .i64 (31)))), (10, (.c (.int .i64 (30)))), (11, (.c (.int .i64 (31))))]⟩,
    ⟨.var 3, 5, none, .mov (.s 0)⟩])
 (.seq (.test false [
    ⟨.push, 7, none, .mov (.v 1)⟩,
    ⟨.push, 8, none, .bin false .eql (.s 0) (.c (.int .i64 (2)))⟩,
    ⟨.push, 9, none, .mov (.s 0)⟩,
    ⟨.push, 10, (some ((.s 0), true)), .mov (.v 0)⟩,
    ⟨.push, 11, (some ((.s 1), true)), .call 63 [(.s 0)]⟩,
    ⟨.push, 12, none, .pick (.s 2) (.s 0) (.c (.bool false))⟩] (.s 0)
  (.seq (.region false [
      ⟨.var 2, 4, none, .mov (.c (.int .i64 (29)))⟩])
   (.ret))
  (.skip))
 (.seq (.region false [
    ⟨.push, 13, none, .mov (.v 3)⟩,
    ⟨.push, 14, none, .mov (.v 1)⟩,
    ⟨.push, 15, none, .bin false .sub (.s 0) (.c (.int .i64 (1)))⟩,
    ⟨.push, 16, none, .ixAddr 1 (.s 2) (.s 0)⟩,
    ⟨.push, 17, none, .load false 1 (.s 0)⟩,
    ⟨.var 2, 4, none, .mov (.s 0)⟩])
 (.ret)))), [.t 2]⟩
noncomputable def t_spec_l03Days : List (Nat × Ctr) := [(63, c_spec_l03Leap)]
theorem lk_spec_l03Days_63 : look t_spec_l03Days 63 = some c_spec_l03Leap := rfl
noncomputable def c_spec_l03Days : Ctr := mkF t_spec_l03Days ir35 [.bor, .bor]
theorem s_spec_l03Days : Sound Tryd.prog 35 c_spec_l03Days := mkF_sound _ rfl (snd_cons s_spec_l03Leap snd_nil) (by kernel_rfl : chkFn Tryd.prog 35 ir35 ir35_v = true)
theorem M_spec_l03Days : c_spec_l03Days.modes = [.bor, .bor] := rfl
theorem Fl_spec_l03Days : c_spec_l03Days.flat = true := rfl
attribute [go_sem] M_spec_l03Days Fl_spec_l03Days
attribute [go_sem] lk_spec_l03Days_63
theorem Fs_spec_l03Days {year : Int} {month : Int} {y_ : Int} (h : spec_l03Days year month = some y_) : c_spec_l03Days.F [.int .i64 year, .int .i64 month] = ⟨true, .int .i64 y_, [.any, .any]⟩ := by
  refine mkF_E rfl ?_
  dsimp only [spec_l03Days] at h
  obtain ⟨hk1, h⟩ := ck_some h
  rcases or_split hk1 with ⟨ghk1, hk1⟩ | ghk1
  · try simp only [go_sem, n1, n2, n3, n4] at ghk1
    all_goals
    obtain ⟨y_1, hhk1⟩ := Option.isSome_iff_exists.1 hk1
    have fhk1 := Fs_spec_l03Leap hhk1
    try simp only [go_sem, n1, n2, n3, n4, ghk1] at hhk1
    all_goals
    try simp only [go_sem, ghk1] at fhk1
    rcases it_some h with ⟨hk2, h⟩ | ⟨hk2, h⟩
    · try simp only [go_sem, n1, n2, n3, n4, ghk1, hhk1] at hk2
      all_goals
      obtain rfl := so_some h
      refine ⟨0, fun L hL => ?_⟩
      simp only [go_sem, ir35, ghk1, hhk1, fhk1, hk2]
    · try simp only [go_sem, n1, n2, n3, n4, ghk1, hhk1] at hk2
      all_goals
      obtain ⟨hk3, h⟩ := ck_some h
      have lhk3 := ix_lt hk3
      have xhk3 := getD_mapD (AV.int .i64) ([31, 28, 31, 30, 31, 30, 31, 31, 30, 31, 30, 31] : List Int) lhk3
      try simp only [go_sem] at lhk3
      try simp only [go_sem] at xhk3
      try simp only [go_sem, n1, n2, n3, n4, ghk1, hhk1, hk2] at hk3
      all_goals
      obtain rfl := so_some h
      refine ⟨0, fun L hL => ?_⟩
      simp only [go_sem, ir35, ghk1, hhk1, fhk1, hk2, hk3, lhk3, xhk3]
  · try simp only [go_sem, n1, n2, n3, n4] at ghk1
    all_goals
    rcases it_some h with ⟨hk2, h⟩ | ⟨hk2, h⟩
    · try simp only [go_sem, n1, n2, n3, n4, ghk1] at hk2
      all_goals
      (simp_all)
    · try simp only [go_sem, n1, n2, n3, n4, ghk1] at hk2
      all_goals
      obtain ⟨hk3, h⟩ := ck_some h
      have lhk3 := ix_lt hk3
      have xhk3 := getD_mapD (AV.int .i64) ([31, 28, 31, 30, 31, 30, 31, 31, 30, 31, 30, 31] : List Int) lhk3
      try simp only [go_sem] at lhk3
      try simp only [go_sem] at xhk3
      try simp only [go_sem, n1, n2, n3, n4, ghk1, hk2] at hk3
      all_goals
      obtain rfl := so_some h
      refine ⟨0, fun L hL => ?_⟩
      simp only [go_sem, ir35, ghk1, hk2, hk3, lhk3, xhk3]


def ir33_v : List Nat := [0, 1, 2, 6]
def ir33 : AFn := ⟨3, 4, .seq (.region false [
    ⟨.var 3, 6, none, .mov (.c (.bool false))⟩])
 (.seq (.region false [
    ⟨.push, 7, none, .mov (.v 0)⟩,
    ⟨.push, 8, none, .mov (.v 1)⟩,
    ⟨.push, 9, none, .bin false .geq (.s 1) (.s 0)⟩,
    ⟨.push, 10, none, .mov (.s 0)⟩,
    ⟨.push, 11, (some ((.s 0), true)), .mov (.v 0)⟩,
    ⟨.push, 12, (some ((.s 1), true)), .mov (.v 2)⟩,
    ⟨.push, 13, (some ((.s 2), true)), .bin false .leq (.s 1) (.s 0)⟩,
    ⟨.push, 14, none, .pick (.s 3) (.s 0) (.c (.bool false))⟩,
    ⟨.var 3, 6, none, .mov (.s 0)⟩])
 (.ret)), [.t 3]⟩
noncomputable def t_spec_l00In : List (Nat × Ctr) := []
noncomputable def c_spec_l00In : Ctr := mkF t_spec_l00In ir33 [.bor, .bor, .bor]
theorem s_spec_l00In : Sound Tryd.prog 33 c_spec_l00In := mkF_sound _ rfl snd_nil (by kernel_rfl : chkFn Tryd.prog 33 ir33 ir33_v = true)
theorem M_spec_l00In : c_spec_l00In.modes = [.bor, .bor, .bor] := rfl
theorem Fl_spec_l00In : c_spec_l00In.flat = true := rfl
attribute [go_sem] M_spec_l00In Fl_spec_l00In
theorem Fs_spec_l00In {n : Int} {low : Int} {high : Int} {y_ : Bool} (h : spec_l00In n low high = some y_) : c_spec_l00In.F [.int .i64 n, .int .i64 low, .int .i64 high] = ⟨true, .bool y_, [.any, .any, .any]⟩ := by
  refine mkF_E rfl ?_
  dsimp only [spec_l00In] at h
  obtain rfl := so_some h
  refine ⟨0, fun L hL => ?_⟩
  simp only [go_sem, ir33]


def ir34_v : List Nat := [0, 2, 3]
def ir34 : AFn := ⟨1, 3, .seq (.region false [
    ⟨.var 1, 2, none, .mov (.c (.int .i64 (0)))⟩])
 (.seq (.region false [
    ⟨.push, 4, none, .mov (.v 0)⟩,
    ⟨.push, 5, none, .bin false .sub (.s 0) (.c (.int .i64 (2001)))⟩,
    ⟨.var 2, 3, none, .mov (.s 0)⟩])
 (.seq (.region false [
    ⟨.push, 6, none, .mov (.v 2)⟩,
    ⟨.push, 7, none, .bin false .mul (.c (.int .i64 (365))) (.s 0)⟩,
    ⟨.push, 8, none, .mov (.v 2)⟩,
    ⟨.push, 9, none, .bin false .quo (.s 0) (.c (.int .i64 (4)))⟩,
    ⟨.push, 10, none, .bin false .add (.s 2) (.s 0)⟩,
    ⟨.push, 11, none, .mov (.v 2)⟩,
    ⟨.push, 12, none, .bin false .quo (.s 0) (.c (.int .i64 (100)))⟩,
    ⟨.push, 13, none, .bin false .sub (.s 2) (.s 0)⟩,
    ⟨.push, 14, none, .mov (.v 2)⟩,
    ⟨.push, 15, none, .bin false .quo (.s 0) (.c (.int .i64 (400)))⟩,
    ⟨.push, 16, none, .bin false .add (.s 2) (.s 0)⟩,
    ⟨.var 1, 2, none, .mov (.s 0)⟩])
 (.ret))), [.t 1]⟩
noncomputable def t_spec_l03Start : List (Nat × Ctr) := []
noncomputable def c_spec_l03Start : Ctr := mkF t_spec_l03Start ir34 [.bor]
theorem s_spec_l03Start : Sound Tryd.prog 34 c_spec_l03Start := mkF_sound _ rfl snd_nil (by kernel_rfl : chkFn Tryd.prog 34 ir34 ir34_v = true)
theorem M_spec_l03Start : c_spec_l03Start.modes = [.bor] := rfl
theorem Fl_spec_l03Start : c_spec_l03Start.flat = true := rfl
attribute [go_sem] M_spec_l03Start Fl_spec_l03Start
theorem Fs_spec_l03Start {year : Int} {y_ : Int} (h : spec_l03Start year = some y_) : c_spec_l03Start.F [.int .i64 year] = ⟨true, .int .i64 y_, [.any]⟩ := by
  refine mkF_E rfl ?_
  dsimp only [spec_l03Start] at h
  obtain ⟨hk1, h⟩ := ck_some h
  try simp only [go_sem, n1, n2, n3, n4] at hk1
  all_goals
  obtain ⟨hk2, h⟩ := ck_some h
  try simp only [go_sem, n1, n2, n3, n4, hk1] at hk2
  all_goals
  obtain ⟨hk3, h⟩ := ck_some h
  try simp only [go_sem, n1, n2, n3, n4, hk1, hk2] at hk3
  all_goals
  obtain rfl := so_some h
  refine ⟨0, fun L hL => ?_⟩
  simp only [go_sem, ir34, hk1, hk2, hk3]


def ir8_b0 : IR := .seq (.test false [
    ⟨.push, 13, none, .mov (.v 3)⟩,
    ⟨.push, 14, none, .bin false .add (.s 0) (.c (.int .i64 (1)))⟩,
    ⟨.push, 15, none, .call 34 [(.s 0)]⟩,
    ⟨.push, 16, none, .mov (.v 0)⟩,
    ⟨.push, 17, none, .bin false .leq (.s 1) (.s 0)⟩] (.s 0)
  (.skip)
  (.exit 0))
 (.block 1 (.region false [
    ⟨.push, 18, none, .mov (.v 3)⟩,
    ⟨.push, 19, none, .bin false .add (.s 0) (.c (.int .i64 (1)))⟩,
    ⟨.var 3, 4, none, .mov (.s 0)⟩]))
def ir8_k0 : List Bool := [true, true, false, true, false]
def ir8_o0 : List Bool := [true, true, false, true, false]
def ir8_r0 : List Bool := [false, true, true, false, false]
def ir8_b1 : IR := .seq (.anyo 7 [
    ⟨.slot 0, 27, none, .fldAddr 2 (.v 4)⟩,
    ⟨.slot 1, 28, none, .load false 1 (.s 0)⟩,
    ⟨.slot 2, 29, none, .mov (.v 3)⟩,
    ⟨.slot 3, 30, none, .fldAddr 1 (.v 4)⟩,
    ⟨.slot 4, 31, none, .load false 1 (.s 3)⟩,
    ⟨.slot 5, 32, none, .callp 35 [(.s 2), (.s 4)]⟩,
    ⟨.slot 6, 33, none, .bin false .gtr (.s 1) (.s 5)⟩] [] (.cond (.s 6)
  (.skip)
  (.exit 2)))
 (.block 3 (.seq (.anyo 8 [
     ⟨.slot 0, 34, none, .fldAddr 2 (.v 4)⟩,
     ⟨.slot 1, 35, none, .load false 1 (.s 0)⟩,
     ⟨.slot 2, 36, none, .mov (.v 3)⟩,
     ⟨.slot 3, 37, none, .fldAddr 1 (.v 4)⟩,
     ⟨.slot 4, 38, none, .load false 1 (.s 3)⟩,
     ⟨.slot 5, 39, none, .callp 35 [(.s 2), (.s 4)]⟩,
     ⟨.slot 6, 40, none, .bin false .sub (.s 1) (.s 5)⟩,
     ⟨.slot 7, 41, none, .fldAddr 2 (.v 4)⟩,
     ⟨.no, 0, none, .store 1 (.s 7) (.s 6)⟩] [] .skip)
  (.region false [
    ⟨.push, 42, none, .fldAddr 1 (.v 4)⟩,
    ⟨.push, 43, none, .load false 1 (.s 0)⟩,
    ⟨.push, 44, none, .bin false .add (.s 0) (.c (.int .i64 (1)))⟩,
    ⟨.push, 45, none, .fldAddr 1 (.v 4)⟩,
    ⟨.no, 0, none, .store 1 (.s 0) (.s 1)⟩])))
def ir8_k1 : List Bool := [false, true, false, true, true]
def ir8_o1 : List Bool := [false, true, false, false, true]
def ir8_r1 : List Bool := [false, true, true, false, false]
def ir8_v : List Nat := [0, 2, 3, 4, 5]
def ir8 : AFn := ⟨1, 5, .seq (.region false [
    ⟨.var 1, 2, none, .alloc (.agg [.int .i64 (0), .int .i64 (0), .int .i64 (0)])⟩,
    ⟨.var 2, 3, none, .mov (.c (.int .i64 (0)))⟩])
 (.seq (.test false [
    ⟨.push, 6, none, .mov (.v 0)⟩,
    ⟨.push, 7, none, .call 33 [(.s 0), (.c (.int .i64 (0))), (.c (.int .i64 (100000)))]⟩,
    ⟨.push, 8, none, .un .not (.s 0)⟩] (.s 0)
  (.seq (.region false [
      ⟨.push, 9, none, .build [.int .i64 (0), .int .i64 (0), .int .i64 (0)] []⟩,
      ⟨.no, 0, none, .store 3 (.v 1) (.s 0)⟩,
      ⟨.var 2, 3, none, .mov (.c (.int .i64 (2)))⟩])
   (.ret))
  (.skip))
 (.seq (.region false [
    ⟨.push, 10, none, .mov (.v 0)⟩,
    ⟨.push, 11, none, .bin false .quo (.s 0) (.c (.int .i64 (366)))⟩,
    ⟨.push, 12, none, .bin false .add (.c (.int .i64 (2001))) (.s 0)⟩,
    ⟨.var 3, 4, none, .mov (.s 0)⟩])
 (.seq (.block 0 (.loop ir8_k0 ir8_o0 ir8_r0 ir8_b0))
 (.seq (.region false [
    ⟨.push, 20, none, .mov (.v 3)⟩,
    ⟨.push, 21, none, .mov (.v 0)⟩,
    ⟨.push, 22, none, .mov (.v 3)⟩,
    ⟨.push, 23, none, .call 34 [(.s 0)]⟩,
    ⟨.push, 24, none, .bin false .sub (.s 2) (.s 0)⟩,
    ⟨.push, 25, none, .bin false .add (.s 0) (.c (.int .i64 (1)))⟩,
    ⟨.push, 26, none, .build [.int .i64 (0), .int .i64 (0), .int .i64 (0)] [(0, 1, (.s 5)), (1, 1, (.c (.int .i64 (1)))), (2, 1, (.s 0))]⟩,
    ⟨.var 4, 5, none, .alloc (.agg [.int .i64 (0), .int .i64 (0), .int .i64 (0)])⟩,
    ⟨.no, 0, none, .store 3 (.v 4) (.s 0)⟩])
 (.seq (.block 2 (.loop ir8_k1 ir8_o1 ir8_r1 ir8_b1))
 (.seq (.region false [
    ⟨.push, 46, none, .load true 3 (.v 4)⟩,
    ⟨.no, 0, none, .store 3 (.v 1) (.s 0)⟩,
    ⟨.var 2, 3, none, .mov (.c (.int .i64 (0)))⟩])
 (.ret))))))), [.cell true 3 1, .t 2]⟩
noncomputable def t_spec_DateOf : List (Nat × Ctr) := [(33, c_spec_l00In), (34, c_spec_l03Start), (35, c_spec_l03Days)]
theorem lk_spec_DateOf_33 : look t_spec_DateOf 33 = some c_spec_l00In := rfl
theorem lk_spec_DateOf_34 : look t_spec_DateOf 34 = some c_spec_l03Start := rfl
theorem lk_spec_DateOf_35 : look t_spec_DateOf 35 = some c_spec_l03Days := rfl
noncomputable def c_spec_DateOf : Ctr := mkN t_spec_DateOf ir8 [.bor]
theorem s_spec_DateOf : Sound Tryd.prog 8 c_spec_DateOf := mkN_sound _ (snd_cons s_spec_l00In (snd_cons s_spec_l03Start (snd_cons s_spec_l03Days snd_nil))) (by kernel_rfl : chkFn Tryd.prog 8 ir8 ir8_v = true)
theorem M_spec_DateOf : c_spec_DateOf.modes = [.bor] := rfl
theorem Fl_spec_DateOf : c_spec_DateOf.flat = false := rfl
attribute [go_sem] M_spec_DateOf Fl_spec_DateOf
attribute [go_sem] lk_spec_DateOf_33 lk_spec_DateOf_34 lk_spec_DateOf_35
def E_spec_DateOf_l1 (day : Int) (t2 : Date) : Int → St
  | year => ⟨[.int .i64 day, .ref 3200000 0 0, .any, .int .i64 year, .any], [], [(3200000, ⟨3, [Date_av t2]⟩)], true⟩
def R_spec_DateOf_l1 (day : Int) (t2 : Date) (y : Int) : Res := (.exit 0, ⟨[.int .i64 day, .ref 3200000 0 0, .any, .int .i64 y, .any], [], [(3200000, ⟨3, [Date_av t2]⟩)], true⟩)
theorem spec_DateOf_l1_ex {day : Int} {t2 : Date} {sgm_ : Int} {rho_ : Int} (h : whileE (spec_DateOf_l1 day t2) sgm_ = some rho_) : ∃ L0, ∀ L, L0 ≤ L → iter (exec (look t_spec_DateOf) L ir8_b0) ir8_k0 ir8_o0 ir8_r0 L (E_spec_DateOf_l1 day t2 sgm_) = R_spec_DateOf_l1 day t2 rho_ := by
  refine loop_ex (E := E_spec_DateOf_l1 day t2) (R := R_spec_DateOf_l1 day t2) (fun y => by first | (intro c; cases c) | (rcases y with y | y <;> (intro c; cases c)) | (rcases y with y | y | y <;> (intro c; cases c))) ?_ h
  clear h
  intro year o_ h
  dsimp only [spec_DateOf_l1] at h
  obtain ⟨y_4, hk4, h⟩ := bd_some h
  have fhk4 := Fs_spec_l03Start hk4
  try simp only [go_sem] at fhk4
  rcases it_some h with ⟨hk5, h⟩ | ⟨hk5, h⟩
  · try simp only [go_sem, n1, n2, n3, n4] at hk5
    all_goals
    obtain rfl := so_some h
    refine ⟨0, fun L hL => ?_⟩
    simp only [go_sem, ir8, E_spec_DateOf_l1, R_spec_DateOf_l1, ir8_b0, ir8_k0, ir8_o0, ir8_r0, fhk4, hk5]
  · try simp only [go_sem, n1, n2, n3, n4] at hk5
    all_goals
    obtain rfl := so_some h
    refine ⟨0, fun L hL => ?_⟩
    simp only [go_sem, ir8, E_spec_DateOf_l1, R_spec_DateOf_l1, ir8_b0, ir8_k0, ir8_o0, ir8_r0, fhk4, hk5]

def E_spec_DateOf_l2 (t2 : Date) (year : Int) : Date → St
  | out => ⟨[.any, .ref 3200000 0 0, .any, .int .i64 year, .ref 3200032 0 0], [], [(3200000, ⟨3, [Date_av t2]⟩), (3200032, ⟨3, [Date_av out]⟩)], true⟩
def R_spec_DateOf_l2 (t2 : Date) (year : Int) (y : Date) : Res := (.exit 2, ⟨[.any, .ref 3200000 0 0, .any, .any, .ref 3200032 0 0], [], [(3200000, ⟨3, [Date_av t2]⟩), (3200032, ⟨3, [Date_av y]⟩)], true⟩)
theorem spec_DateOf_l2_ex {t2 : Date} {year : Int} {sgm_ : Date} {rho_ : Date} (h : whileE (spec_DateOf_l2 t2 year) sgm_ = some rho_) : ∃ L0, ∀ L, L0 ≤ L → iter (exec (look t_spec_DateOf) L ir8_b1) ir8_k1 ir8_o1 ir8_r1 L (E_spec_DateOf_l2 t2 year sgm_) = R_spec_DateOf_l2 t2 year rho_ := by
  refine loop_ex (E := E_spec_DateOf_l2 t2 year) (R := R_spec_DateOf_l2 t2 year) (fun y => by first | (intro c; cases c) | (rcases y with y | y <;> (intro c; cases c)) | (rcases y with y | y | y <;> (intro c; cases c))) ?_ h
  clear h
  intro out o_ h
  dsimp only [spec_DateOf_l2] at h
  obtain ⟨y_8, hk8, h⟩ := bd_some h
  have fhk8 := Fs_spec_l03Days hk8
  try simp only [go_sem] at fhk8
  rcases it_some h with ⟨hk9, h⟩ | ⟨hk9, h⟩
  · try simp only [go_sem, n1, n2, n3, n4] at hk9
    all_goals
    obtain rfl := so_some h
    refine ⟨0, fun L hL => ?_⟩
    simp only [go_sem, ir8, E_spec_DateOf_l2, R_spec_DateOf_l2, ir8_b1, ir8_k1, ir8_o1, ir8_r1, E_spec_DateOf_l1, R_spec_DateOf_l1, ir8_k0, ir8_o0, ir8_r0, fhk8, hk9]
  · try simp only [go_sem, n1, n2, n3, n4] at hk9
    all_goals
    obtain rfl := so_some h
    refine ⟨0, fun L hL => ?_⟩
    simp only [go_sem, ir8, E_spec_DateOf_l2, R_spec_DateOf_l2, ir8_b1, ir8_k1, ir8_o1, ir8_r1, E_spec_DateOf_l1, R_spec_DateOf_l1, ir8_k0, ir8_o0, ir8_r0, fhk8, hk9]

theorem Fs_spec_DateOf {day : Int} {y_ : Date × Int} (h : spec_DateOf day = some y_) : c_spec_DateOf.F [.int .i64 day] = ⟨true, .tup [Date_av y_.1, .int .i64 y_.2], [.any]⟩ := by
  refine mkN_E ?_
  dsimp only [spec_DateOf] at h
  obtain ⟨y_1, hk1, h⟩ := bd_some h
  have fhk1 := Fs_spec_l00In hk1
  try simp only [go_sem] at fhk1
  rcases it_some h with ⟨hk2, h⟩ | ⟨hk2, h⟩
  · try simp only [go_sem, n1, n2, n3, n4] at hk2
    all_goals
    obtain rfl := so_some h
    refine ⟨0, fun L hL => ?_⟩
    simp only [go_sem, ir8, E_spec_DateOf_l1, R_spec_DateOf_l1, ir8_k0, ir8_o0, ir8_r0, E_spec_DateOf_l2, R_spec_DateOf_l2, ir8_k1, ir8_o1, ir8_r1, fhk1, hk2]
  · try simp only [go_sem, n1, n2, n3, n4] at hk2
    all_goals
    obtain ⟨hk3, h⟩ := ck_some h
    try simp only [go_sem, n1, n2, n3, n4, hk2] at hk3
    all_goals
    obtain ⟨y_6, hk6, h⟩ := bd_some h
    obtain ⟨Lhk6, ehk6⟩ := spec_DateOf_l1_ex hk6
    obtain ⟨y_7, hk7, h⟩ := bd_some h
    have fhk7 := Fs_spec_l03Start hk7
    try simp only [go_sem, hk2, hk3] at fhk7
    obtain ⟨y_10, hk10, h⟩ := bd_some h
    obtain ⟨Lhk10, ehk10⟩ := spec_DateOf_l2_ex hk10
    obtain rfl := so_some h
    refine ⟨Lhk6 + Lhk10, fun L hL => ?_⟩
    have ehk6 := ehk6 L (by omega)
    have ehk10 := ehk10 L (by omega)
    try simp only [go_sem, E_spec_DateOf_l1, R_spec_DateOf_l1, ir8_k0, ir8_o0, ir8_r0, E_spec_DateOf_l2, R_spec_DateOf_l2, ir8_k1, ir8_o1, ir8_r1, hk2, hk3] at ehk6
    try simp only [go_sem, E_spec_DateOf_l1, R_spec_DateOf_l1, ir8_k0, ir8_o0, ir8_r0, E_spec_DateOf_l2, R_spec_DateOf_l2, ir8_k1, ir8_o1, ir8_r1, hk2, hk3] at ehk10
    simp only [go_sem, ir8, E_spec_DateOf_l1, R_spec_DateOf_l1, ir8_k0, ir8_o0, ir8_r0, E_spec_DateOf_l2, R_spec_DateOf_l2, ir8_k1, ir8_o1, ir8_r1, fhk1, hk2, hk3, fhk7, ehk6, ehk10]


def ir36_v : List Nat := [0, 2, 3, 17]
def ir36 : AFn := ⟨1, 4, .seq (.region false [
    ⟨.var 1, 2, none, .alloc (.agg [.int .i64 (0), .int .i64 (0), .int .i64 (0)])⟩])
 (.seq (.region false [
    ⟨.push, 4, none, .mov (.v 0)⟩,
    ⟨.push, 5, none, .call 61 [(.s 0), (.c (.int .i64 (270)))]⟩,
    ⟨.push, 6, none, .bin false .add (.c (.int .i64 (2001))) (.s 0)⟩,
    ⟨.push, 7, none, .build [.int .i64 (0), .int .i64 (0), .int .i64 (0)] [(0, 1, (.s 0))]⟩,
    ⟨.var 2, 3, none, .alloc (.agg [.int .i64 (0), .int .i64 (0), .int .i64 (0)])⟩,
    ⟨.no, 0, none, .store 3 (.v 2) (.s 0)⟩])
 (.seq (.region false [
    ⟨.push, 8, none, .mov (.v 0)⟩,
    ⟨.push, 9, none, .call 61 [(.s 0), (.c (.int .i64 (12)))]⟩,
    ⟨.push, 10, none, .bin false .add (.c (.int .i64 (1))) (.s 0)⟩,
    ⟨.push, 11, none, .fldAddr 1 (.v 2)⟩,
    ⟨.no, 0, none, .store 1 (.s 0) (.s 1)⟩])
 (.seq (.region false [
    ⟨.push, 12, none, .mov (.v 0)⟩,
    ⟨.push, 13, none, .call 61 [(.s 0), (.c (.int .i64 (28)))]⟩,
    ⟨.push, 14, none, .bin false .add (.c (.int .i64 (1))) (.s 0)⟩,
    ⟨.push, 15, none, .fldAddr 2 (.v 2)⟩,
    ⟨.no, 0, none, .store 1 (.s 0) (.s 1)⟩])
 (.seq (.seq (.region false [
     ⟨.push, 16, none, .mov (.v 0)⟩,
     ⟨.var 3, 17, none, .call 61 [(.s 0), (.c (.int .i64 (10)))]⟩])
  (.block 0 (.test false [
     ⟨.push, 19, none, .bin false .eql (.v 3) (.c (.int .i64 (0)))⟩,
     ⟨.push, 18, none, .mov (.s 0)⟩] (.s 0)
   (.region false [
      ⟨.push, 20, none, .mov (.v 0)⟩,
      ⟨.push, 21, none, .mkSl 1 (.int .i64 (0)) 7 [(0, (.c (.int .i64 (-1)))), (1, (.c (.int .i64 (0)))), (2, (.c (.int .i64 (29)))), (3, (.c (.int .i64 (30)))), (4, (.c (.int .i64 (31)))), (5, (.c (.int .i64 (32)))), (6, (.c (.int .i64 (-9223372036854775808))))]⟩,
      ⟨.push, 22, none, .call 60 [(.s 1), (.s 0)]⟩,
      ⟨.push, 23, none, .fldAddr 2 (.v 2)⟩,
      ⟨.no, 0, none, .store 1 (.s 0) (.s 1)⟩])
   (.test false [
      ⟨.push, 25, none, .bin false .eql (.v 3) (.c (.int .i64 (1)))⟩,
      ⟨.push, 24, none, .mov (.s 0)⟩] (.s 0)
    (.region false [
       ⟨.push, 26, none, .mov (.v 0)⟩,
       ⟨.push, 27, none, .mkSl 1 (.int .i64 (0)) 4 [(0, (.c (.int .i64 (-1)))), (1, (.c (.int .i64 (0)))), (2, (.c (.int .i64 (13)))), (3, (.c (.int .i64 (9223372036854775807))))]⟩,
       ⟨.push, 28, none, .call 60 [(.s 1), (.s 0)]⟩,
       ⟨.push, 29, none, .fldAddr 1 (.v 2)⟩,
       ⟨.no, 0, none, .store 1 (.s 0) (.s 1)⟩])
    (.test false [
       ⟨.push, 31, none, .bin false .eql (.v 3) (.c (.int .i64 (2)))⟩,
       ⟨.push, 30, none, .mov (.s 0)⟩] (.s 0)
     (.region false [
        ⟨.push, 32, none, .mov (.v 0)⟩,
        ⟨.push, 33, none, .mkSl 1 (.int .i64 (0)) 8 [(0, (.c (.int .i64 (-1)))), (1, (.c (.int .i64 (2000)))), (2, (.c (.int .i64 (2001)))), (3, (.c (.int .i64 (2274)))), (4, (.c (.int .i64 (2275)))), (5, (.c (.int .i64 (2300)))), (6, (.c (.int .i64 (2301)))), (7, (.c (.int .i64 (9223372036854775807))))]⟩,
        ⟨.push, 34, none, .call 60 [(.s 1), (.s 0)]⟩,
        ⟨.push, 35, none, .fldAddr 0 (.v 2)⟩,
        ⟨.no, 0, none, .store 1 (.s 0) (.s 1)⟩])
     (.test false [
        ⟨.push, 37, none, .bin false .eql (.v 3) (.c (.int .i64 (3)))⟩,
        ⟨.push, 36, none, .mov (.s 0)⟩] (.s 0)
      (.seq (.region false [
          ⟨.push, 38, none, .mov (.v 0)⟩,
          ⟨.push, 39, none, .call 61 [(.s 0), (.c (.int .i64 (60)))]⟩,
          ⟨.push, 40, none, .bin false .mul (.c (.int .i64 (4))) (.s 0)⟩,
          ⟨.push, 41, none, .bin false .add (.s 0) (.c (.int .i64 (2004)))⟩,
          ⟨.push, 42, none, .build [.int .i64 (0), .int .i64 (0), .int .i64 (0)] [(0, 1, (.s 0)), (1, 1, (.c (.int .i64 (2)))), (2, 1, (.c (.int .i64 (29))))]⟩,
          ⟨.no, 0, none, .store 3 (.v 1) (.s 0)⟩])
       (.ret))
      (.test false [
         ⟨.push, 44, none, .bin false .eql (.v 3) (.c (.int .i64 (4)))⟩,
         ⟨.push, 43, none, .mov (.s 0)⟩] (.s 0)
       (.seq (.region false [
           ⟨.push, 45, none, .mov (.v 0)⟩,
           ⟨.push, 46, none, .call 61 [(.s 0), (.c (.int .i64 (3)))]⟩,
           ⟨.push, 47, none, .bin false .add (.c (.int .i64 (16))) (.s 0)⟩,
           ⟨.push, 48, none, .build [.int .i64 (0), .int .i64 (0), .int .i64 (0)] [(0, 1, (.c (.int .i64 (2274)))), (1, 1, (.c (.int .i64 (10)))), (2, 1, (.s 0))]⟩,
           ⟨.no, 0, none, .store 3 (.v 1) (.s 0)⟩])
        (.ret))
       (.skip))))))))
 (.seq (.region false [
    ⟨.push, 49, none, .load true 3 (.v 2)⟩,
    ⟨.no, 0, none, .store 3 (.v 1) (.s 0)⟩])
 (.ret)))))), [.cell true 3 1]⟩
noncomputable def t_spec_l03Bent : List (Nat × Ctr) := [(61, c_spec_l00Src_pick), (60, c_spec_l00Src_among)]
theorem lk_spec_l03Bent_61 : look t_spec_l03Bent 61 = some c_spec_l00Src_pick := rfl
theorem lk_spec_l03Bent_60 : look t_spec_l03Bent 60 = some c_spec_l00Src_among := rfl
noncomputable def c_spec_l03Bent : Ctr := mkN t_spec_l03Bent ir36 [.io]
theorem s_spec_l03Bent : Sound Tryd.prog 36 c_spec_l03Bent := mkN_sound _ (snd_cons s_spec_l00Src_pick (snd_cons s_spec_l00Src_among snd_nil)) (by kernel_rfl : chkFn Tryd.prog 36 ir36 ir36_v = true)
theorem M_spec_l03Bent : c_spec_l03Bent.modes = [.io] := rfl
theorem Fl_spec_l03Bent : c_spec_l03Bent.flat = false := rfl
attribute [go_sem] M_spec_l03Bent Fl_spec_l03Bent
attribute [go_sem] lk_spec_l03Bent_61 lk_spec_l03Bent_60
theorem Fs_spec_l03Bent {s_ : L00Src} {y_ : Date × L00Src} (h : spec_l03Bent s_ = some y_) : c_spec_l03Bent.F [.mem 3 [L00Src_av s_]] = ⟨true, Date_av y_.1, [.mem 3 [L00Src_av y_.2]]⟩ := by
  refine mkN_E ?_
  dsimp only [spec_l03Bent] at h
  obtain ⟨y_1, hk1, h⟩ := bd_some h
  have fhk1 := Fs_spec_l00Src_pick hk1
  try simp only [go_sem] at fhk1
  obtain ⟨y_2, hk2, h⟩ := bd_some h
  have fhk2 := Fs_spec_l00Src_pick hk2
  try simp only [go_sem] at fhk2
  obtain ⟨y_3, hk3, h⟩ := bd_some h
  have fhk3 := Fs_spec_l00Src_pick hk3
  try simp only [go_sem] at fhk3
  obtain ⟨y_4, hk4, h⟩ := bd_some h
  have fhk4 := Fs_spec_l00Src_pick hk4
  try simp only [go_sem] at fhk4
  rcases it_some h with ⟨hk5, h⟩ | ⟨hk5, h⟩
  · try simp only [go_sem, n1, n2, n3, n4] at hk5
    all_goals
    obtain ⟨y_6, hk6, h⟩ := bd_some h
    have fhk6 := Fs_spec_l00Src_among hk6
    try simp only [go_sem, hk5] at fhk6
    obtain rfl := so_some h
    refine ⟨0, fun L hL => ?_⟩
    simp only [go_sem, ir36, fhk1, fhk2, fhk3, fhk4, hk5, fhk6]
  · try simp only [go_sem, n1, n2, n3, n4] at hk5
    all_goals
    rcases it_some h with ⟨hk7, h⟩ | ⟨hk7, h⟩
    · try simp only [go_sem, n1, n2, n3, n4, hk5] at hk7
      all_goals
      obtain ⟨y_8, hk8, h⟩ := bd_some h
      have fhk8 := Fs_spec_l00Src_among hk8
      try simp only [go_sem, hk5, hk7] at fhk8
      obtain rfl := so_some h
      refine ⟨0, fun L hL => ?_⟩
      simp only [go_sem, ir36, fhk1, fhk2, fhk3, fhk4, hk5, hk7, fhk8]
    · try simp only [go_sem, n1, n2, n3, n4, hk5] at hk7
      all_goals
      rcases it_some h with ⟨hk9, h⟩ | ⟨hk9, h⟩
      · try simp only [go_sem, n1, n2, n3, n4, hk5, hk7] at hk9
        all_goals
        obtain ⟨y_10, hk10, h⟩ := bd_some h
        have fhk10 := Fs_spec_l00Src_among hk10
        try simp only [go_sem, hk5, hk7, hk9] at fhk10
        obtain rfl := so_some h
        refine ⟨0, fun L hL => ?_⟩
        simp only [go_sem, ir36, fhk1, fhk2, fhk3, fhk4, hk5, hk7, hk9, fhk10]
      · try simp only [go_sem, n1, n2, n3, n4, hk5, hk7] at hk9
        all_goals
        rcases it_some h with ⟨hk11, h⟩ | ⟨hk11, h⟩
        · try simp only [go_sem, n1, n2, n3, n4, hk5, hk7, hk9] at hk11
          all_goals
          obtain ⟨y_12, hk12, h⟩ := bd_some h
          have fhk12 := Fs_spec_l00Src_pick hk12
          try simp only [go_sem, hk5, hk7, hk9, hk11] at fhk12
          obtain rfl := so_some h
          refine ⟨0, fun L hL => ?_⟩
          simp only [go_sem, ir36, fhk1, fhk2, fhk3, fhk4, hk5, hk7, hk9, hk11, fhk12]
        · try simp only [go_sem, n1, n2, n3, n4, hk5, hk7, hk9] at hk11
          all_goals
          rcases it_some h with ⟨hk13, h⟩ | ⟨hk13, h⟩
          · try simp only [go_sem, n1, n2, n3, n4, hk5, hk7, hk9, hk11] at hk13
            all_goals
            obtain ⟨y_14, hk14, h⟩ := bd_some h
            have fhk14 := Fs_spec_l00Src_pick hk14
            try simp only [go_sem, hk5, hk7, hk9, hk11, hk13] at fhk14
            obtain rfl := so_some h
            refine ⟨0, fun L hL => ?_⟩
            simp only [go_sem, ir36, fhk1, fhk2, fhk3, fhk4, hk5, hk7, hk9, hk11, hk13, fhk14]
          · try simp only [go_sem, n1, n2, n3, n4, hk5, hk7, hk9, hk11] at hk13
            all_goals
            obtain rfl := so_some h
            refine ⟨0, fun L hL => ?_⟩
            simp only [go_sem, ir36, fhk1, fhk2, fhk3, fhk4, hk5, hk7, hk9, hk11, hk13]


def ir9_v : List Nat := [0, 2]
def ir9 : AFn := ⟨1, 2, .seq (.region false [
    ⟨.var 1, 2, none, .alloc (.agg [.int .i64 (0), .int .i64 (0), .int .i64 (0)])⟩])
 (.seq (.region false [
    ⟨.push, 3, none, .mov (.v 0)⟩,
    ⟨.push, 4, none, .call 29 [(.s 0)]⟩,
    ⟨.push, 5, none, .call 36 [(.s 0)]⟩,
    ⟨.no, 0, none, .store 3 (.v 1) (.s 0)⟩])
 (.ret)), [.cell true 3 1]⟩
noncomputable def t_spec_DrawDayNumber : List (Nat × Ctr) := [(29, c_spec_l00From), (36, c_spec_l03Bent)]
theorem lk_spec_DrawDayNumber_29 : look t_spec_DrawDayNumber 29 = some c_spec_l00From := rfl
theorem lk_spec_DrawDayNumber_36 : look t_spec_DrawDayNumber 36 = some c_spec_l03Bent := rfl
noncomputable def c_spec_DrawDayNumber : Ctr := mkN t_spec_DrawDayNumber ir9 [.bor]
theorem s_spec_DrawDayNumber : Sound Tryd.prog 9 c_spec_DrawDayNumber := mkN_sound _ (snd_cons s_spec_l00From (snd_cons s_spec_l03Bent snd_nil)) (by kernel_rfl : chkFn Tryd.prog 9 ir9 ir9_v = true)
theorem M_spec_DrawDayNumber : c_spec_DrawDayNumber.modes = [.bor] := rfl
theorem Fl_spec_DrawDayNumber : c_spec_DrawDayNumber.flat = false := rfl
attribute [go_sem] M_spec_DrawDayNumber Fl_spec_DrawDayNumber
attribute [go_sem] lk_spec_DrawDayNumber_29 lk_spec_DrawDayNumber_36
theorem Fs_spec_DrawDayNumber {code : List UInt8} {y_ : Date} (h : spec_DrawDayNumber code = some y_) : c_spec_DrawDayNumber.F [.sl 1 (List.map byteAV code)] = ⟨true, Date_av y_, [.any]⟩ := by
  refine mkN_E ?_
  dsimp only [spec_DrawDayNumber] at h
  obtain ⟨y_1, hk1, h⟩ := bd_some h
  have fhk1 := Fs_spec_l00From hk1
  try simp only [go_sem] at fhk1
  obtain ⟨y_2, hk2, h⟩ := bd_some h
  have fhk2 := Fs_spec_l03Bent hk2
  try simp only [go_sem] at fhk2
  obtain rfl := so_some h
  refine ⟨0, fun L hL => ?_⟩
  simp only [go_sem, ir9, fhk1, fhk2]


def ir37_b0 : IR := .seq (.test false [
    ⟨.push, 9, none, .mov (.v 4)⟩,
    ⟨.push, 10, none, .fldAddr 0 (.v 1)⟩,
    ⟨.push, 11, none, .load false 1 (.s 0)⟩,
    ⟨.push, 12, none, .bin false .lss (.s 2) (.s 0)⟩] (.s 0)
  (.skip)
  (.exit 0))
 (.seq (.block 1 (.region false [
     ⟨.push, 15, none, .mov (.v 3)⟩,
     ⟨.push, 16, none, .mov (.v 4)⟩,
     ⟨.push, 17, none, .call 31 [(.s 0)]⟩,
     ⟨.push, 18, none, .bin false .add (.s 2) (.s 0)⟩,
     ⟨.var 3, 3, none, .mov (.s 0)⟩]))
 (.region false [
   ⟨.push, 13, none, .mov (.v 4)⟩,
   ⟨.push, 14, none, .bin false .add (.s 0) (.c (.int .i64 (1)))⟩,
   ⟨.var 4, 4, none, .mov (.s 0)⟩]))
def ir37_k0 : List Bool := [false, true, false, true, true, false]
def ir37_o0 : List Bool := [false, true, false, true, false, false]
def ir37_r0 : List Bool := [false, false, true, false, false, false]
def ir37_b1 : IR := .seq (.test false [
    ⟨.push, 19, none, .mov (.v 5)⟩,
    ⟨.push, 20, none, .fldAddr 1 (.v 1)⟩,
    ⟨.push, 21, none, .load false 1 (.s 0)⟩,
    ⟨.push, 22, none, .bin false .lss (.s 2) (.s 0)⟩] (.s 0)
  (.skip)
  (.exit 2))
 (.seq (.block 3 (.region false [
     ⟨.push, 25, none, .mov (.v 3)⟩,
     ⟨.push, 26, none, .fldAddr 0 (.v 1)⟩,
     ⟨.push, 27, none, .load false 1 (.s 0)⟩,
     ⟨.push, 28, none, .mov (.v 5)⟩,
     ⟨.push, 29, none, .call 32 [(.s 1), (.s 0)]⟩,
     ⟨.push, 30, none, .bin false .add (.s 4) (.s 0)⟩,
     ⟨.var 3, 3, none, .mov (.s 0)⟩]))
 (.region false [
   ⟨.push, 23, none, .mov (.v 5)⟩,
   ⟨.push, 24, none, .bin false .add (.s 0) (.c (.int .i64 (1)))⟩,
   ⟨.var 5, 5, none, .mov (.s 0)⟩]))
def ir37_k1 : List Bool := [false, true, false, true, false, true]
def ir37_o1 : List Bool := [false, false, false, true, false, false]
def ir37_r1 : List Bool := [false, false, true, false, false, false]
def ir37_v : List Nat := [0, 1, 2, 3, 4, 5]
def ir37 : AFn := ⟨1, 6, .seq (.region false [
    ⟨.var 1, 1, none, .box (.v 0)⟩,
    ⟨.var 2, 2, none, .mov (.c (.int .i64 (0)))⟩])
 (.seq (.region false [
    ⟨.push, 6, none, .fldAddr 2 (.v 1)⟩,
    ⟨.push, 7, none, .load false 1 (.s 0)⟩,
    ⟨.push, 8, none, .bin false .sub (.s 0) (.c (.int .i64 (1)))⟩,
    ⟨.var 3, 3, none, .mov (.s 0)⟩])
 (.seq (.seq (.region false [
     ⟨.var 4, 4, none, .mov (.c (.int .i64 (2001)))⟩])
  (.block 0 (.loop ir37_k0 ir37_o0 ir37_r0 ir37_b0)))
 (.seq (.seq (.region false [
     ⟨.var 5, 5, none, .mov (.c (.int .i64 (1)))⟩])
  (.block 2 (.loop ir37_k1 ir37_o1 ir37_r1 ir37_b1)))
 (.seq (.region false [
    ⟨.push, 31, none, .mov (.v 3)⟩,
    ⟨.var 2, 2, none, .mov (.s 0)⟩])
 (.ret))))), [.t 2]⟩
noncomputable def t_impl_numberOf : List (Nat × Ctr) := [(31, c_impl_yearDays), (32, c_impl_monthDays)]
theorem lk_impl_numberOf_31 : look t_impl_numberOf 31 = some c_impl_yearDays := rfl
theorem lk_impl_numberOf_32 : look t_impl_numberOf 32 = some c_impl_monthDays := rfl
noncomputable def c_impl_numberOf : Ctr := mkF t_impl_numberOf ir37 [.bor]
theorem s_impl_numberOf : Sound Tryd.prog 37 c_impl_numberOf := mkF_sound _ rfl (snd_cons s_impl_yearDays (snd_cons s_impl_monthDays snd_nil)) (by kernel_rfl : chkFn Tryd.prog 37 ir37 ir37_v = true)
theorem M_impl_numberOf : c_impl_numberOf.modes = [.bor] := rfl
theorem Fl_impl_numberOf : c_impl_numberOf.flat = true := rfl
attribute [go_sem] M_impl_numberOf Fl_impl_numberOf
attribute [go_sem] lk_impl_numberOf_31 lk_impl_numberOf_32
def E_impl_numberOf_l1 (d : Date) : (Int × Int) → St
  | (day, year) => ⟨[.any, .ref 3200000 0 0, .any, .int .i64 day, .int .i64 year, .any], [], [(3200000, ⟨3, [Date_av d]⟩)], true⟩
def R_impl_numberOf_l1 (d : Date) (y : Int) : Res := (.exit 0, ⟨[.any, .ref 3200000 0 0, .any, .int .i64 y, .any, .any], [], [(3200000, ⟨3, [Date_av d]⟩)], true⟩)
theorem impl_numberOf_l1_ex {d : Date} {sgm_ : Int × Int} {rho_ : Int} (h : whileE (impl_numberOf_l1 d) sgm_ = some rho_) : ∃ L0, ∀ L, L0 ≤ L → iter (exec (look t_impl_numberOf) L ir37_b0) ir37_k0 ir37_o0 ir37_r0 L (E_impl_numberOf_l1 d sgm_) = R_impl_numberOf_l1 d rho_ := by
  refine loop_ex (E := E_impl_numberOf_l1 d) (R := R_impl_numberOf_l1 d) (fun y => by first | (intro c; cases c) | (rcases y with y | y <;> (intro c; cases c)) | (rcases y with y | y | y <;> (intro c; cases c))) ?_ h
  clear h
  rintro ⟨day, year⟩ o_ h
  dsimp only [impl_numberOf_l1] at h
  rcases it_some h with ⟨hk1, h⟩ | ⟨hk1, h⟩
  · try simp only [go_sem, n1, n2, n3, n4] at hk1
    all_goals
    obtain ⟨y_2, hk2, h⟩ := bd_some h
    have fhk2 := Fs_impl_yearDays hk2
    try simp only [go_sem, hk1] at fhk2
    obtain rfl := so_some h
    refine ⟨0, fun L hL => ?_⟩
    simp only [go_sem, ir37, E_impl_numberOf_l1, R_impl_numberOf_l1, ir37_b0, ir37_k0, ir37_o0, ir37_r0, hk1, fhk2]
  · try simp only [go_sem, n1, n2, n3, n4] at hk1
    all_goals
    obtain rfl := so_some h
    refine ⟨0, fun L hL => ?_⟩
    simp only [go_sem, ir37, E_impl_numberOf_l1, R_impl_numberOf_l1, ir37_b0, ir37_k0, ir37_o0, ir37_r0, hk1]

def E_impl_numberOf_l2 (d : Date) : (Int × Int) → St
  | (day, month) => ⟨[.any, .ref 3200000 0 0, .any, .int .i64 day, .any, .int .i64 month], [], [(3200000, ⟨3, [Date_av d]⟩)], true⟩
def R_impl_numberOf_l2 (d : Date) (y : Int) : Res := (.exit 2, ⟨[.any, .any, .any, .int .i64 y, .any, .any], [], [], true⟩)
theorem impl_numberOf_l2_ex {d : Date} {sgm_ : Int × Int} {rho_ : Int} (h : whileE (impl_numberOf_l2 d) sgm_ = some rho_) : ∃ L0, ∀ L, L0 ≤ L → iter (exec (look t_impl_numberOf) L ir37_b1) ir37_k1 ir37_o1 ir37_r1 L (E_impl_numberOf_l2 d sgm_) = R_impl_numberOf_l2 d rho_ := by
  refine loop_ex (E := E_impl_numberOf_l2 d) (R := R_impl_numberOf_l2 d) (fun y => by first | (intro c; cases c) | (rcases y with y | y <;> (intro c; cases c)) | (rcases y with y | y | y <;> (intro c; cases c))) ?_ h
  clear h
  rintro ⟨day, month⟩ o_ h
  dsimp only [impl_numberOf_l2] at h
  rcases it_some h with ⟨hk4, h⟩ | ⟨hk4, h⟩
  · try simp only [go_sem, n1, n2, n3, n4] at hk4
    all_goals
    obtain ⟨y_5, hk5, h⟩ := bd_some h
    have fhk5 := Fs_impl_monthDays hk5
    try simp only [go_sem, hk4] at fhk5
    obtain rfl := so_some h
    refine ⟨0, fun L hL => ?_⟩
    simp only [go_sem, ir37, E_impl_numberOf_l2, R_impl_numberOf_l2, ir37_b1, ir37_k1, ir37_o1, ir37_r1, E_impl_numberOf_l1, R_impl_numberOf_l1, ir37_k0, ir37_o0, ir37_r0, hk4, fhk5]
  · try simp only [go_sem, n1, n2, n3, n4] at hk4
    all_goals
    obtain rfl := so_some h
    refine ⟨0, fun L hL => ?_⟩
    simp only [go_sem, ir37, E_impl_numberOf_l2, R_impl_numberOf_l2, ir37_b1, ir37_k1, ir37_o1, ir37_r1, E_impl_numberOf_l1, R_impl_numberOf_l1, ir37_k0, ir37_o0, ir37_r0, hk4]

theorem Fs_impl_numberOf {d : Date} {y_ : Int} (h : impl_numberOf d = some y_) : c_impl_numberOf.F [Date_av d] = ⟨true, .int .i64 y_, [.any]⟩ := by
  refine mkF_E rfl ?_
  dsimp only [impl_numberOf] at h
  obtain ⟨y_3, hk3, h⟩ := bd_some h
  obtain ⟨Lhk3, ehk3⟩ := impl_numberOf_l1_ex hk3
  obtain ⟨y_6, hk6, h⟩ := bd_some h
  obtain ⟨Lhk6, ehk6⟩ := impl_numberOf_l2_ex hk6
  obtain rfl := so_some h
  refine ⟨Lhk3 + Lhk6, fun L hL => ?_⟩
  have ehk3 := ehk3 L (by omega)
  have ehk6 := ehk6 L (by omega)
  try simp only [go_sem, E_impl_numberOf_l1, R_impl_numberOf_l1, ir37_k0, ir37_o0, ir37_r0, E_impl_numberOf_l2, R_impl_numberOf_l2, ir37_k1, ir37_o1, ir37_r1] at ehk3
  try simp only [go_sem, E_impl_numberOf_l1, R_impl_numberOf_l1, ir37_k0, ir37_o0, ir37_r0, E_impl_numberOf_l2, R_impl_numberOf_l2, ir37_k1, ir37_o1, ir37_r1] at ehk6
  simp only [go_sem, ir37, E_impl_numberOf_l1, R_impl_numberOf_l1, ir37_k0, ir37_o0, ir37_r0, E_impl_numberOf_l2, R_impl_numberOf_l2, ir37_k1, ir37_o1, ir37_r1, ehk3, ehk6]


def ir21_v : List Nat := [0, 1, 2]
def ir21 : AFn := ⟨1, 3, .seq (.region false [
    ⟨.var 1, 1, none, .box (.v 0)⟩,
    ⟨.var 2, 2, none, .mov (.c (.bool false))⟩])
 (.seq (.anyo 23 [
    ⟨.slot 0, 3, none, .fldAddr 0 (.v 1)⟩,
    ⟨.slot 1, 4, none, .load false 1 (.s 0)⟩,
    ⟨.slot 2, 5, none, .callp 30 [(.s 1), (.c (.int .i64 (2001))), (.c (.int .i64 (2300)))]⟩,
    ⟨.slot 3, 6, none, .mov (.s 2)⟩,
    ⟨.slot 4, 7, (some ((.s 3), true)), .fldAddr 1 (.v 1)⟩,
    ⟨.slot 5, 8, (some ((.s 3), true)), .load false 1 (.s 4)⟩,
    ⟨.slot 6, 9, (some ((.s 3), true)), .call 30 [(.s 5), (.c (.int .i64 (1))), (.c (.int .i64 (12)))]⟩,
    ⟨.slot 7, 10, none, .pick (.s 3) (.s 6) (.c (.bool false))⟩,
    ⟨.slot 8, 11, none, .mov (.s 7)⟩,
    ⟨.slot 9, 12, (some ((.s 8), true)), .fldAddr 2 (.v 1)⟩,
    ⟨.slot 10, 13, (some ((.s 8), true)), .load false 1 (.s 9)⟩,
    ⟨.slot 11, 14, (some ((.s 8), true)), .fldAddr 0 (.v 1)⟩,
    ⟨.slot 12, 15, (some ((.s 8), true)), .load false 1 (.s 11)⟩,
    ⟨.slot 13, 16, (some ((.s 8), true)), .fldAddr 1 (.v 1)⟩,
    ⟨.slot 14, 17, (some ((.s 8), true)), .load false 1 (.s 13)⟩,
    ⟨.slot 15, 18, (some ((.s 8), true)), .call 32 [(.s 12), (.s 14)]⟩,
    ⟨.slot 16, 19, (some ((.s 8), true)), .call 30 [(.s 10), (.c (.int .i64 (1))), (.s 15)]⟩,
    ⟨.slot 17, 20, none, .pick (.s 8) (.s 16) (.c (.bool false))⟩,
    ⟨.slot 18, 21, none, .mov (.s 17)⟩,
    ⟨.slot 19, 22, (some ((.s 18), true)), .load true 3 (.v 1)⟩,
    ⟨.slot 20, 23, (some ((.s 18), true)), .call 37 [(.s 19)]⟩,
    ⟨.slot 21, 24, (some ((.s 18), true)), .bin false .leq (.s 20) (.c (.int .i64 (100000)))⟩,
    ⟨.slot 22, 25, none, .pick (.s 18) (.s 21) (.c (.bool false))⟩,
    ⟨.var 2, 2, none, .mov (.s 22)⟩] [] .skip)
 (.ret)), [.t 2]⟩
noncomputable def t_impl_ValidDate : List (Nat × Ctr) := [(30, c_impl_in), (32, c_impl_monthDays), (37, c_impl_numberOf)]
theorem lk_impl_ValidDate_30 : look t_impl_ValidDate 30 = some c_impl_in := rfl
theorem lk_impl_ValidDate_32 : look t_impl_ValidDate 32 = some c_impl_monthDays := rfl
theorem lk_impl_ValidDate_37 : look t_impl_ValidDate 37 = some c_impl_numberOf := rfl
noncomputable def c_impl_ValidDate : Ctr := mkF t_impl_ValidDate ir21 [.bor]
theorem s_impl_ValidDate : Sound Tryd.prog 21 c_impl_ValidDate := mkF_sound _ rfl (snd_cons s_impl_in (snd_cons s_impl_monthDays (snd_cons s_impl_numberOf snd_nil))) (by kernel_rfl : chkFn Tryd.prog 21 ir21 ir21_v = true)
theorem M_impl_ValidDate : c_impl_ValidDate.modes = [.bor] := rfl
theorem Fl_impl_ValidDate : c_impl_ValidDate.flat = true := rfl
attribute [go_sem] M_impl_ValidDate Fl_impl_ValidDate
attribute [go_sem] lk_impl_ValidDate_30 lk_impl_ValidDate_32 lk_impl_ValidDate_37
theorem Fs_impl_ValidDate {d : Date} {y_ : Bool} (h : impl_ValidDate d = some y_) : c_impl_ValidDate.F [Date_av d] = ⟨true, .bool y_, [.any]⟩ := by
  refine mkF_E rfl ?_
  dsimp only [impl_ValidDate] at h
  obtain ⟨y_1, hk1, h⟩ := bd_some h
  have fhk1 := Fs_impl_in hk1
  try simp only [go_sem] at fhk1
  obtain ⟨hk2, h⟩ := ck_some h
  rcases or_split hk2 with ⟨ghk2, hk2⟩ | ghk2
  · try simp only [go_sem, n1, n2, n3, n4] at ghk2
    all_goals
    obtain ⟨y_2, hhk2⟩ := Option.isSome_iff_exists.1 hk2
    have fhk2 := Fs_impl_in hhk2
    try simp only [go_sem, n1, n2, n3, n4, ghk2] at hhk2
    all_goals
    try simp only [go_sem, ghk2] at fhk2
    obtain ⟨hk3, h⟩ := ck_some h
    rcases or_split hk3 with ⟨ghk3, hk3⟩ | ghk3
    · try simp only [go_sem, n1, n2, n3, n4, ghk2, hhk2] at ghk3
      all_goals
      obtain ⟨y_3, hhk3⟩ := Option.isSome_iff_exists.1 hk3
      have fhk3 := Fs_impl_monthDays hhk3
      try simp only [go_sem, n1, n2, n3, n4, ghk2, hhk2, ghk3] at hhk3
      all_goals
      try simp only [go_sem, ghk2, hhk2, ghk3] at fhk3
      obtain ⟨hk4, h⟩ := ck_some h
      rcases or_split hk4 with ⟨ghk4, hk4⟩ | ghk4
      · try simp only [go_sem, n1, n2, n3, n4, ghk2, hhk2, ghk3, hhk3] at ghk4
        all_goals
        obtain ⟨y_4, hhk4⟩ := Option.isSome_iff_exists.1 hk4
        have fhk4 := Fs_impl_in hhk4
        try simp only [go_sem, n1, n2, n3, n4, ghk2, hhk2, ghk3, hhk3, ghk4] at hhk4
        all_goals
        try simp only [go_sem, ghk2, hhk2, ghk3, hhk3, ghk4] at fhk4
        obtain ⟨hk5, h⟩ := ck_some h
        rcases or_split hk5 with ⟨ghk5, hk5⟩ | ghk5
        · try simp only [go_sem, n1, n2, n3, n4, ghk2, hhk2, ghk3, hhk3, ghk4, hhk4] at ghk5
          all_goals
          obtain ⟨y_5, hhk5⟩ := Option.isSome_iff_exists.1 hk5
          have fhk5 := Fs_impl_numberOf hhk5
          try simp only [go_sem, n1, n2, n3, n4, ghk2, hhk2, ghk3, hhk3, ghk4, hhk4, ghk5] at hhk5
          all_goals
          try simp only [go_sem, ghk2, hhk2, ghk3, hhk3, ghk4, hhk4, ghk5] at fhk5
          obtain rfl := so_some h
          refine ⟨0, fun L hL => ?_⟩
          simp only [go_sem, ir21, fhk1, ghk2, hhk2, fhk2, ghk3, hhk3, fhk3, ghk4, hhk4, fhk4, ghk5, hhk5, fhk5]
        · rcases and_f ghk5 with ghk5a | ⟨ghk5a, ghk5b⟩
          · try simp only [go_sem, n1, n2, n3, n4, ghk2, hhk2, ghk3, hhk3, ghk4, hhk4] at ghk5a
            all_goals
            (simp_all)
          · obtain ⟨ghk5aa, ghk5ab⟩ := and_t ghk5a
            try simp only [go_sem, n1, n2, n3, n4, ghk2, hhk2, ghk3, hhk3, ghk4, hhk4] at ghk5aa
            all_goals
            try simp only [go_sem, n1, n2, n3, n4, ghk2, hhk2, ghk3, hhk3, ghk4, hhk4, ghk5aa] at ghk5ab
            all_goals
            try simp only [go_sem, n1, n2, n3, n4, ghk2, hhk2, ghk3, hhk3, ghk4, hhk4, ghk5aa, ghk5ab] at ghk5b
            all_goals
            obtain rfl := so_some h
            refine ⟨0, fun L hL => ?_⟩
            simp only [go_sem, ir21, fhk1, ghk2, hhk2, fhk2, ghk3, hhk3, fhk3, ghk4, hhk4, fhk4, ghk5aa, ghk5ab, ghk5b]
      · rcases and_f ghk4 with ghk4a | ⟨ghk4a, ghk4b⟩
        · try simp only [go_sem, n1, n2, n3, n4, ghk2, hhk2, ghk3, hhk3] at ghk4a
          all_goals
          (simp_all)
        · try simp only [go_sem, n1, n2, n3, n4, ghk2, hhk2, ghk3, hhk3] at ghk4a
          all_goals
          try simp only [go_sem, n1, n2, n3, n4, ghk2, hhk2, ghk3, hhk3, ghk4a] at ghk4b
          all_goals
          obtain ⟨hk5, h⟩ := ck_some h
          rcases or_split hk5 with ⟨ghk5, hk5⟩ | ghk5
          · try simp only [go_sem, n1, n2, n3, n4, ghk2, hhk2, ghk3, hhk3, ghk4a, ghk4b] at ghk5
            all_goals
            obtain ⟨y_5, hhk5⟩ := Option.isSome_iff_exists.1 hk5
            have fhk5 := Fs_impl_numberOf hhk5
            try simp only [go_sem, n1, n2, n3, n4, ghk2, hhk2, ghk3, hhk3, ghk4a, ghk4b, ghk5] at hhk5
            all_goals
            try simp only [go_sem, ghk2, hhk2, ghk3, hhk3, ghk4a, ghk4b, ghk5] at fhk5
            obtain rfl := so_some h
            refine ⟨0, fun L hL => ?_⟩
            simp only [go_sem, ir21, fhk1, ghk2, hhk2, fhk2, ghk3, hhk3, fhk3, ghk4a, ghk4b, ghk5, hhk5, fhk5]
          · rcases and_f ghk5 with ghk5a | ⟨ghk5a, ghk5b⟩
            · try simp only [go_sem, n1, n2, n3, n4, ghk2, hhk2, ghk3, hhk3, ghk4a, ghk4b] at ghk5a
              all_goals
              (simp_all)
            · obtain ⟨ghk5aa, ghk5ab⟩ := and_t ghk5a
              try simp only [go_sem, n1, n2, n3, n4, ghk2, hhk2, ghk3, hhk3, ghk4a, ghk4b] at ghk5aa
              all_goals
              try simp only [go_sem, n1, n2, n3, n4, ghk2, hhk2, ghk3, hhk3, ghk4a, ghk4b, ghk5aa] at ghk5ab
              all_goals
              try simp only [go_sem, n1, n2, n3, n4, ghk2, hhk2, ghk3, hhk3, ghk4a, ghk4b, ghk5aa, ghk5ab] at ghk5b
              all_goals
              obtain rfl := so_some h
              refine ⟨0, fun L hL => ?_⟩
              simp only [go_sem, ir21, fhk1, ghk2, hhk2, fhk2, ghk3, hhk3, fhk3, ghk4a, ghk4b, ghk5aa, ghk5ab, ghk5b]
    · rcases and_f ghk3 with ghk3a | ⟨ghk3a, ghk3b⟩
      · try simp only [go_sem, n1, n2, n3, n4, ghk2, hhk2] at ghk3a
        all_goals
        (simp_all)
      · try simp only [go_sem, n1, n2, n3, n4, ghk2, hhk2] at ghk3a
        all_goals
        try simp only [go_sem, n1, n2, n3, n4, ghk2, hhk2, ghk3a] at ghk3b
        all_goals
        obtain ⟨hk4, h⟩ := ck_some h
        obtain ⟨hk5, h⟩ := ck_some h
        obtain rfl := so_some h
        refine ⟨0, fun L hL => ?_⟩
        simp only [go_sem, ir21, fhk1, ghk2, hhk2, fhk2, ghk3a, ghk3b]
  · try simp only [go_sem, n1, n2, n3, n4] at ghk2
    all_goals
    obtain ⟨hk3, h⟩ := ck_some h
    obtain ⟨hk4, h⟩ := ck_some h
    obtain ⟨hk5, h⟩ := ck_some h
    obtain rfl := so_some h
    refine ⟨0, fun L hL => ?_⟩
    simp only [go_sem, ir21, fhk1, ghk2]


def ir10_v : List Nat := [0, 1, 2, 3]
def ir10 : AFn := ⟨1, 4, .seq (.region false [
    ⟨.var 1, 1, none, .box (.v 0)⟩,
    ⟨.var 2, 2, none, .mov (.c (.int .i64 (0)))⟩,
    ⟨.var 3, 3, none, .mov (.c (.int .i64 (0)))⟩])
 (.seq (.test false [
    ⟨.push, 4, none, .load true 3 (.v 1)⟩,
    ⟨.push, 5, none, .call 21 [(.s 0)]⟩,
    ⟨.push, 6, none, .un .not (.s 0)⟩] (.s 0)
  (.seq (.region false [
      ⟨.var 2, 2, none, .mov (.c (.int .i64 (0)))⟩,
      ⟨.var 3, 3, none, .mov (.c (.int .i64 (1)))⟩])
   (.ret))
  (.skip))
 (.seq (.region false [
    ⟨.push, 7, none, .load true 3 (.v 1)⟩,
    ⟨.push, 8, none, .call 37 [(.s 0)]⟩,
    ⟨.var 2, 2, none, .mov (.s 0)⟩,
    ⟨.var 3, 3, none, .mov (.c (.int .i64 (0)))⟩])
 (.ret))), [.t 2, .t 3]⟩
noncomputable def t_impl_DayNumber : List (Nat × Ctr) := [(21, c_impl_ValidDate), (37, c_impl_numberOf)]
theorem lk_impl_DayNumber_21 : look t_impl_DayNumber 21 = some c_impl_ValidDate := rfl
theorem lk_impl_DayNumber_37 : look t_impl_DayNumber 37 = some c_impl_numberOf := rfl
noncomputable def c_impl_DayNumber : Ctr := mkF t_impl_DayNumber ir10 [.bor]
theorem s_impl_DayNumber : Sound Tryd.prog 10 c_impl_DayNumber := mkF_sound _ rfl (snd_cons s_impl_ValidDate (snd_cons s_impl_numberOf snd_nil)) (by kernel_rfl : chkFn Tryd.prog 10 ir10 ir10_v = true)
theorem M_impl_DayNumber : c_impl_DayNumber.modes = [.bor] := rfl
theorem Fl_impl_DayNumber : c_impl_DayNumber.flat = true := rfl
attribute [go_sem] M_impl_DayNumber Fl_impl_DayNumber
attribute [go_sem] lk_impl_DayNumber_21 lk_impl_DayNumber_37
theorem Fs_impl_DayNumber {d : Date} {y_ : Int × Int} (h : impl_DayNumber d = some y_) : c_impl_DayNumber.F [Date_av d] = ⟨true, .tup [.int .i64 y_.1, .int .i64 y_.2], [.any]⟩ := by
  refine mkF_E rfl ?_
  dsimp only [impl_DayNumber] at h
  obtain ⟨y_1, hk1, h⟩ := bd_some h
  have fhk1 := Fs_impl_ValidDate hk1
  try simp only [go_sem] at fhk1
  rcases it_some h with ⟨hk2, h⟩ | ⟨hk2, h⟩
  · try simp only [go_sem, n1, n2, n3, n4] at hk2
    all_goals
    obtain rfl := so_some h
    refine ⟨0, fun L hL => ?_⟩
    simp only [go_sem, ir10, fhk1, hk2]
  · try simp only [go_sem, n1, n2, n3, n4] at hk2
    all_goals
    obtain ⟨y_3, hk3, h⟩ := bd_some h
    have fhk3 := Fs_impl_numberOf hk3
    try simp only [go_sem, hk2] at fhk3
    obtain rfl := so_some h
    refine ⟨0, fun L hL => ?_⟩
    simp only [go_sem, ir10, fhk1, hk2, fhk3]


def ir46_v : List Nat := [0, 1, 2]
def ir46 : AFn := ⟨1, 3, .seq (.region false [
    ⟨.var 1, 1, none, .box (.v 0)⟩,
    ⟨.var 2, 2, none, .mov (.c (.bool false))⟩])
 (.seq (.anyo 18 [
    ⟨.slot 0, 3, none, .fldAddr 0 (.v 1)⟩,
    ⟨.slot 1, 4, none, .load false 1 (.s 0)⟩,
    ⟨.slot 2, 5, none, .callp 33 [(.s 1), (.c (.int .i64 (2001))), (.c (.int .i64 (2300)))]⟩,
    ⟨.slot 3, 6, none, .mov (.s 2)⟩,
    ⟨.slot 4, 7, (some ((.s 3), true)), .fldAddr 1 (.v 1)⟩,
    ⟨.slot 5, 8, (some ((.s 3), true)), .load false 1 (.s 4)⟩,
    ⟨.slot 6, 9, (some ((.s 3), true)), .call 33 [(.s 5), (.c (.int .i64 (1))), (.c (.int .i64 (12)))]⟩,
    ⟨.slot 7, 10, none, .pick (.s 3) (.s 6) (.c (.bool false))⟩,
    ⟨.slot 8, 11, none, .mov (.s 7)⟩,
    ⟨.slot 9, 12, (some ((.s 8), true)), .fldAddr 2 (.v 1)⟩,
    ⟨.slot 10, 13, (some ((.s 8), true)), .load false 1 (.s 9)⟩,
    ⟨.slot 11, 14, (some ((.s 8), true)), .fldAddr 0 (.v 1)⟩,
    ⟨.slot 12, 15, (some ((.s 8), true)), .load false 1 (.s 11)⟩,
    ⟨.slot 13, 16, (some ((.s 8), true)), .fldAddr 1 (.v 1)⟩,
    ⟨.slot 14, 17, (some ((.s 8), true)), .load false 1 (.s 13)⟩,
    ⟨.slot 15, 18, (some ((.s 8), true)), .call 35 [(.s 12), (.s 14)]⟩,
    ⟨.slot 16, 19, (some ((.s 8), true)), .call 33 [(.s 10), (.c (.int .i64 (1))), (.s 15)]⟩,
    ⟨.slot 17, 20, none, .pick (.s 8) (.s 16) (.c (.bool false))⟩,
    ⟨.var 2, 2, none, .mov (.s 17)⟩] [] .skip)
 (.ret)), [.t 2]⟩
noncomputable def t_spec_l03Date : List (Nat × Ctr) := [(33, c_spec_l00In), (35, c_spec_l03Days)]
theorem lk_spec_l03Date_33 : look t_spec_l03Date 33 = some c_spec_l00In := rfl
theorem lk_spec_l03Date_35 : look t_spec_l03Date 35 = some c_spec_l03Days := rfl
noncomputable def c_spec_l03Date : Ctr := mkF t_spec_l03Date ir46 [.bor]
theorem s_spec_l03Date : Sound Tryd.prog 46 c_spec_l03Date := mkF_sound _ rfl (snd_cons s_spec_l00In (snd_cons s_spec_l03Days snd_nil)) (by kernel_rfl : chkFn Tryd.prog 46 ir46 ir46_v = true)
theorem M_spec_l03Date : c_spec_l03Date.modes = [.bor] := rfl
theorem Fl_spec_l03Date : c_spec_l03Date.flat = true := rfl
attribute [go_sem] M_spec_l03Date Fl_spec_l03Date
attribute [go_sem] lk_spec_l03Date_33 lk_spec_l03Date_35
theorem Fs_spec_l03Date {d : Date} {y_ : Bool} (h : spec_l03Date d = some y_) : c_spec_l03Date.F [Date_av d] = ⟨true, .bool y_, [.any]⟩ := by
  refine mkF_E rfl ?_
  dsimp only [spec_l03Date] at h
  obtain ⟨y_1, hk1, h⟩ := bd_some h
  have fhk1 := Fs_spec_l00In hk1
  try simp only [go_sem] at fhk1
  obtain ⟨hk2, h⟩ := ck_some h
  rcases or_split hk2 with ⟨ghk2, hk2⟩ | ghk2
  · try simp only [go_sem, n1, n2, n3, n4] at ghk2
    all_goals
    obtain ⟨y_2, hhk2⟩ := Option.isSome_iff_exists.1 hk2
    have fhk2 := Fs_spec_l00In hhk2
    try simp only [go_sem, n1, n2, n3, n4, ghk2] at hhk2
    all_goals
    try simp only [go_sem, ghk2] at fhk2
    obtain ⟨hk3, h⟩ := ck_some h
    rcases or_split hk3 with ⟨ghk3, hk3⟩ | ghk3
    · try simp only [go_sem, n1, n2, n3, n4, ghk2, hhk2] at ghk3
      all_goals
      obtain ⟨y_3, hhk3⟩ := Option.isSome_iff_exists.1 hk3
      have fhk3 := Fs_spec_l03Days hhk3
      try simp only [go_sem, n1, n2, n3, n4, ghk2, hhk2, ghk3] at hhk3
      all_goals
      try simp only [go_sem, ghk2, hhk2, ghk3] at fhk3
      obtain ⟨hk4, h⟩ := ck_some h
      rcases or_split hk4 with ⟨ghk4, hk4⟩ | ghk4
      · try simp only [go_sem, n1, n2, n3, n4, ghk2, hhk2, ghk3, hhk3] at ghk4
        all_goals
        obtain ⟨y_4, hhk4⟩ := Option.isSome_iff_exists.1 hk4
        have fhk4 := Fs_spec_l00In hhk4
        try simp only [go_sem, n1, n2, n3, n4, ghk2, hhk2, ghk3, hhk3, ghk4] at hhk4
        all_goals
        try simp only [go_sem, ghk2, hhk2, ghk3, hhk3, ghk4] at fhk4
        obtain rfl := so_some h
        refine ⟨0, fun L hL => ?_⟩
        simp only [go_sem, ir46, fhk1, ghk2, hhk2, fhk2, ghk3, hhk3, fhk3, ghk4, hhk4, fhk4]
      · rcases and_f ghk4 with ghk4a | ⟨ghk4a, ghk4b⟩
        · try simp only [go_sem, n1, n2, n3, n4, ghk2, hhk2, ghk3, hhk3] at ghk4a
          all_goals
          (simp_all)
        · try simp only [go_sem, n1, n2, n3, n4, ghk2, hhk2, ghk3, hhk3] at ghk4a
          all_goals
          try simp only [go_sem, n1, n2, n3, n4, ghk2, hhk2, ghk3, hhk3, ghk4a] at ghk4b
          all_goals
          obtain rfl := so_some h
          refine ⟨0, fun L hL => ?_⟩
          simp only [go_sem, ir46, fhk1, ghk2, hhk2, fhk2, ghk3, hhk3, fhk3, ghk4a, ghk4b]
    · rcases and_f ghk3 with ghk3a | ⟨ghk3a, ghk3b⟩
      · try simp only [go_sem, n1, n2, n3, n4, ghk2, hhk2] at ghk3a
        all_goals
        (simp_all)
      · try simp only [go_sem, n1, n2, n3, n4, ghk2, hhk2] at ghk3a
        all_goals
        try simp only [go_sem, n1, n2, n3, n4, ghk2, hhk2, ghk3a] at ghk3b
        all_goals
        obtain ⟨hk4, h⟩ := ck_some h
        obtain rfl := so_some h
        refine ⟨0, fun L hL => ?_⟩
        simp only [go_sem, ir46, fhk1, ghk2, hhk2, fhk2, ghk3a, ghk3b]
  · try simp only [go_sem, n1, n2, n3, n4] at ghk2
    all_goals
    obtain ⟨hk3, h⟩ := ck_some h
    obtain ⟨hk4, h⟩ := ck_some h
    obtain rfl := so_some h
    refine ⟨0, fun L hL => ?_⟩
    simp only [go_sem, ir46, fhk1, ghk2]


def ir38_b0 : IR := .seq (.test false [
    ⟨.push, 8, none, .mov (.v 4)⟩,
    ⟨.push, 9, none, .fldAddr 1 (.v 1)⟩,
    ⟨.push, 10, none, .load false 1 (.s 0)⟩,
    ⟨.push, 11, none, .bin false .lss (.s 2) (.s 0)⟩] (.s 0)
  (.skip)
  (.exit 0))
 (.seq (.block 1 (.region false [
     ⟨.push, 14, none, .mov (.v 3)⟩,
     ⟨.push, 15, none, .fldAddr 0 (.v 1)⟩,
     ⟨.push, 16, none, .load false 1 (.s 0)⟩,
     ⟨.push, 17, none, .mov (.v 4)⟩,
     ⟨.push, 18, none, .call 35 [(.s 1), (.s 0)]⟩,
     ⟨.push, 19, none, .bin false .add (.s 4) (.s 0)⟩,
     ⟨.var 3, 3, none, .mov (.s 0)⟩]))
 (.region false [
   ⟨.push, 12, none, .mov (.v 4)⟩,
   ⟨.push, 13, none, .bin false .add (.s 0) (.c (.int .i64 (1)))⟩,
   ⟨.var 4, 4, none, .mov (.s 0)⟩]))
def ir38_k0 : List Bool := [false, true, false, true, true]
def ir38_o0 : List Bool := [false, true, false, true, false]
def ir38_r0 : List Bool := [false, false, true, false, false]
def ir38_v : List Nat := [0, 1, 2, 3, 4]
def ir38 : AFn := ⟨1, 5, .seq (.region false [
    ⟨.var 1, 1, none, .box (.v 0)⟩,
    ⟨.var 2, 2, none, .mov (.c (.int .i64 (0)))⟩])
 (.seq (.region false [
    ⟨.push, 5, none, .fldAddr 0 (.v 1)⟩,
    ⟨.push, 6, none, .load false 1 (.s 0)⟩,
    ⟨.push, 7, none, .call 34 [(.s 0)]⟩,
    ⟨.var 3, 3, none, .mov (.s 0)⟩])
 (.seq (.seq (.region false [
     ⟨.var 4, 4, none, .mov (.c (.int .i64 (1)))⟩])
  (.block 0 (.loop ir38_k0 ir38_o0 ir38_r0 ir38_b0)))
 (.seq (.region false [
    ⟨.push, 20, none, .mov (.v 3)⟩,
    ⟨.push, 21, none, .fldAddr 2 (.v 1)⟩,
    ⟨.push, 22, none, .load false 1 (.s 0)⟩,
    ⟨.push, 23, none, .bin false .add (.s 2) (.s 0)⟩,
    ⟨.push, 24, none, .bin false .sub (.s 0) (.c (.int .i64 (1)))⟩,
    ⟨.var 2, 2, none, .mov (.s 0)⟩])
 (.ret)))), [.t 2]⟩
noncomputable def t_spec_l03Number : List (Nat × Ctr) := [(34, c_spec_l03Start), (35, c_spec_l03Days)]
theorem lk_spec_l03Number_34 : look t_spec_l03Number 34 = some c_spec_l03Start := rfl
theorem lk_spec_l03Number_35 : look t_spec_l03Number 35 = some c_spec_l03Days := rfl
noncomputable def c_spec_l03Number : Ctr := mkF t_spec_l03Number ir38 [.bor]
theorem s_spec_l03Number : Sound Tryd.prog 38 c_spec_l03Number := mkF_sound _ rfl (snd_cons s_spec_l03Start (snd_cons s_spec_l03Days snd_nil)) (by kernel_rfl : chkFn Tryd.prog 38 ir38 ir38_v = true)
theorem M_spec_l03Number : c_spec_l03Number.modes = [.bor] := rfl
theorem Fl_spec_l03Number : c_spec_l03Number.flat = true := rfl
attribute [go_sem] M_spec_l03Number Fl_spec_l03Number
attribute [go_sem] lk_spec_l03Number_34 lk_spec_l03Number_35
def E_spec_l03Number_l1 (d : Date) : (Int × Int) → St
  | (day, m) => ⟨[.any, .ref 3200000 0 0, .any, .int .i64 day, .int .i64 m], [], [(3200000, ⟨3, [Date_av d]⟩)], true⟩
def R_spec_l03Number_l1 (d : Date) (y : Int) : Res := (.exit 0, ⟨[.any, .ref 3200000 0 0, .any, .int .i64 y, .any], [], [(3200000, ⟨3, [Date_av d]⟩)], true⟩)
theorem spec_l03Number_l1_ex {d : Date} {sgm_ : Int × Int} {rho_ : Int} (h : whileE (spec_l03Number_l1 d) sgm_ = some rho_) : ∃ L0, ∀ L, L0 ≤ L → iter (exec (look t_spec_l03Number) L ir38_b0) ir38_k0 ir38_o0 ir38_r0 L (E_spec_l03Number_l1 d sgm_) = R_spec_l03Number_l1 d rho_ := by
  refine loop_ex (E := E_spec_l03Number_l1 d) (R := R_spec_l03Number_l1 d) (fun y => by first | (intro c; cases c) | (rcases y with y | y <;> (intro c; cases c)) | (rcases y with y | y | y <;> (intro c; cases c))) ?_ h
  clear h
  rintro ⟨day, m⟩ o_ h
  dsimp only [spec_l03Number_l1] at h
  rcases it_some h with ⟨hk2, h⟩ | ⟨hk2, h⟩
  · try simp only [go_sem, n1, n2, n3, n4] at hk2
    all_goals
    obtain ⟨y_3, hk3, h⟩ := bd_some h
    have fhk3 := Fs_spec_l03Days hk3
    try simp only [go_sem, hk2] at fhk3
    obtain rfl := so_some h
    refine ⟨0, fun L hL => ?_⟩
    simp only [go_sem, ir38, E_spec_l03Number_l1, R_spec_l03Number_l1, ir38_b0, ir38_k0, ir38_o0, ir38_r0, hk2, fhk3]
  · try simp only [go_sem, n1, n2, n3, n4] at hk2
    all_goals
    obtain rfl := so_some h
    refine ⟨0, fun L hL => ?_⟩
    simp only [go_sem, ir38, E_spec_l03Number_l1, R_spec_l03Number_l1, ir38_b0, ir38_k0, ir38_o0, ir38_r0, hk2]

theorem Fs_spec_l03Number {d : Date} {y_ : Int} (h : spec_l03Number d = some y_) : c_spec_l03Number.F [Date_av d] = ⟨true, .int .i64 y_, [.any]⟩ := by
  refine mkF_E rfl ?_
  dsimp only [spec_l03Number] at h
  obtain ⟨y_1, hk1, h⟩ := bd_some h
  have fhk1 := Fs_spec_l03Start hk1
  try simp only [go_sem] at fhk1
  obtain ⟨y_4, hk4, h⟩ := bd_some h
  obtain ⟨Lhk4, ehk4⟩ := spec_l03Number_l1_ex hk4
  obtain rfl := so_some h
  refine ⟨Lhk4, fun L hL => ?_⟩
  have ehk4 := ehk4 L (by omega)
  try simp only [go_sem, E_spec_l03Number_l1, R_spec_l03Number_l1, ir38_k0, ir38_o0, ir38_r0] at ehk4
  simp only [go_sem, ir38, E_spec_l03Number_l1, R_spec_l03Number_l1, ir38_k0, ir38_o0, ir38_r0, fhk1, ehk4]


def ir22_v : List Nat := [0, 1, 2]
def ir22 : AFn := ⟨1, 3, .seq (.region false [
    ⟨.var 1, 1, none, .box (.v 0)⟩,
    ⟨.var 2, 2, none, .mov (.c (.bool false))⟩])
 (.seq (.region false [
    ⟨.push, 3, none, .load true 3 (.v 1)⟩,
    ⟨.push, 4, none, .call 46 [(.s 0)]⟩,
    ⟨.push, 5, none, .mov (.s 0)⟩,
    ⟨.push, 6, (some ((.s 0), true)), .load true 3 (.v 1)⟩,
    ⟨.push, 7, (some ((.s 1), true)), .call 38 [(.s 0)]⟩,
    ⟨.push, 8, (some ((.s 2), true)), .bin false .leq (.s 0) (.c (.int .i64 (100000)))⟩,
    ⟨.push, 9, none, .pick (.s 3) (.s 0) (.c (.bool false))⟩,
    ⟨.var 2, 2, none, .mov (.s 0)⟩])
 (.ret)), [.t 2]⟩
noncomputable def t_spec_ValidDate : List (Nat × Ctr) := [(46, c_spec_l03Date), (38, c_spec_l03Number)]
theorem lk_spec_ValidDate_46 : look t_spec_ValidDate 46 = some c_spec_l03Date := rfl
theorem lk_spec_ValidDate_38 : look t_spec_ValidDate 38 = some c_spec_l03Number := rfl
noncomputable def c_spec_ValidDate : Ctr := mkF t_spec_ValidDate ir22 [.bor]
theorem s_spec_ValidDate : Sound Tryd.prog 22 c_spec_ValidDate := mkF_sound _ rfl (snd_cons s_spec_l03Date (snd_cons s_spec_l03Number snd_nil)) (by kernel_rfl : chkFn Tryd.prog 22 ir22 ir22_v = true)
theorem M_spec_ValidDate : c_spec_ValidDate.modes = [.bor] := rfl
theorem Fl_spec_ValidDate : c_spec_ValidDate.flat = true := rfl
attribute [go_sem] M_spec_ValidDate Fl_spec_ValidDate
attribute [go_sem] lk_spec_ValidDate_46 lk_spec_ValidDate_38
theorem Fs_spec_ValidDate {d : Date} {y_ : Bool} (h : spec_ValidDate d = some y_) : c_spec_ValidDate.F [Date_av d] = ⟨true, .bool y_, [.any]⟩ := by
  refine mkF_E rfl ?_
  dsimp only [spec_ValidDate] at h
  obtain ⟨y_1, hk1, h⟩ := bd_some h
  have fhk1 := Fs_spec_l03Date hk1
  try simp only [go_sem] at fhk1
  obtain ⟨hk2, h⟩ := ck_some h
  rcases or_split hk2 with ⟨ghk2, hk2⟩ | ghk2
  · try simp only [go_sem, n1, n2, n3, n4] at ghk2
    all_goals
    obtain ⟨y_2, hhk2⟩ := Option.isSome_iff_exists.1 hk2
    have fhk2 := Fs_spec_l03Number hhk2
    try simp only [go_sem, n1, n2, n3, n4, ghk2] at hhk2
    all_goals
    try simp only [go_sem, ghk2] at fhk2
    obtain rfl := so_some h
    refine ⟨0, fun L hL => ?_⟩
    simp only [go_sem, ir22, fhk1, ghk2, hhk2, fhk2]
  · try simp only [go_sem, n1, n2, n3, n4] at ghk2
    all_goals
    obtain rfl := so_some h
    refine ⟨0, fun L hL => ?_⟩
    simp only [go_sem, ir22, fhk1, ghk2]


def ir11_v : List Nat := [0, 1, 2, 3]
def ir11 : AFn := ⟨1, 4, .seq (.region false [
    ⟨.var 1, 1, none, .box (.v 0)⟩,
    ⟨.var 2, 2, none, .mov (.c (.int .i64 (0)))⟩,
    ⟨.var 3, 3, none, .mov (.c (.int .i64 (0)))⟩])
 (.seq (.test false [
    ⟨.push, 4, none, .load true 3 (.v 1)⟩,
    ⟨.push, 5, none, .call 22 [(.s 0)]⟩,
    ⟨.push, 6, none, .un .not (.s 0)⟩] (.s 0)
  (.seq (.region false [
      ⟨.var 2, 2, none, .mov (.c (.int .i64 (0)))⟩,
      ⟨.var 3, 3, none, .mov (.c (.int .i64 (1)))⟩])
   (.ret))
  (.skip))
 (.seq (.region false [
    ⟨.push, 7, none, .load true 3 (.v 1)⟩,
    ⟨.push, 8, none, .call 38 [(.s 0)]⟩,
    ⟨.var 2, 2, none, .mov (.s 0)⟩,
    ⟨.var 3, 3, none, .mov (.c (.int .i64 (0)))⟩])
 (.ret))), [.t 2, .t 3]⟩
noncomputable def t_spec_DayNumber : List (Nat × Ctr) := [(22, c_spec_ValidDate), (38, c_spec_l03Number)]
theorem lk_spec_DayNumber_22 : look t_spec_DayNumber 22 = some c_spec_ValidDate := rfl
theorem lk_spec_DayNumber_38 : look t_spec_DayNumber 38 = some c_spec_l03Number := rfl
noncomputable def c_spec_DayNumber : Ctr := mkF t_spec_DayNumber ir11 [.bor]
theorem s_spec_DayNumber : Sound Tryd.prog 11 c_spec_DayNumber := mkF_sound _ rfl (snd_cons s_spec_ValidDate (snd_cons s_spec_l03Number snd_nil)) (by kernel_rfl : chkFn Tryd.prog 11 ir11 ir11_v = true)
theorem M_spec_DayNumber : c_spec_DayNumber.modes = [.bor] := rfl
theorem Fl_spec_DayNumber : c_spec_DayNumber.flat = true := rfl
attribute [go_sem] M_spec_DayNumber Fl_spec_DayNumber
attribute [go_sem] lk_spec_DayNumber_22 lk_spec_DayNumber_38
theorem Fs_spec_DayNumber {d : Date} {y_ : Int × Int} (h : spec_DayNumber d = some y_) : c_spec_DayNumber.F [Date_av d] = ⟨true, .tup [.int .i64 y_.1, .int .i64 y_.2], [.any]⟩ := by
  refine mkF_E rfl ?_
  dsimp only [spec_DayNumber] at h
  obtain ⟨y_1, hk1, h⟩ := bd_some h
  have fhk1 := Fs_spec_ValidDate hk1
  try simp only [go_sem] at fhk1
  rcases it_some h with ⟨hk2, h⟩ | ⟨hk2, h⟩
  · try simp only [go_sem, n1, n2, n3, n4] at hk2
    all_goals
    obtain rfl := so_some h
    refine ⟨0, fun L hL => ?_⟩
    simp only [go_sem, ir11, fhk1, hk2]
  · try simp only [go_sem, n1, n2, n3, n4] at hk2
    all_goals
    obtain ⟨y_3, hk3, h⟩ := bd_some h
    have fhk3 := Fs_spec_l03Number hk3
    try simp only [go_sem, hk2] at fhk3
    obtain rfl := so_some h
    refine ⟨0, fun L hL => ?_⟩
    simp only [go_sem, ir11, fhk1, hk2, fhk3]


def ir12_v : List Nat := [0, 2]
def ir12 : AFn := ⟨1, 2, .seq (.region false [
    ⟨.var 1, 2, none, .mov (.c (.int .i64 (0)))⟩])
 (.seq (.region false [
    ⟨.push, 3, none, .mov (.v 0)⟩,
    ⟨.push, 4, none, .call 29 [(.s 0)]⟩,
    ⟨.push, 5, none, .call 28 [(.s 0)]⟩,
    ⟨.var 1, 2, none, .mov (.s 0)⟩])
 (.ret)), [.t 1]⟩
noncomputable def t_spec_DrawWeekdayOf : List (Nat × Ctr) := [(29, c_spec_l00From), (28, c_spec_l03Day)]
theorem lk_spec_DrawWeekdayOf_29 : look t_spec_DrawWeekdayOf 29 = some c_spec_l00From := rfl
theorem lk_spec_DrawWeekdayOf_28 : look t_spec_DrawWeekdayOf 28 = some c_spec_l03Day := rfl
noncomputable def c_spec_DrawWeekdayOf : Ctr := mkF t_spec_DrawWeekdayOf ir12 [.bor]
theorem s_spec_DrawWeekdayOf : Sound Tryd.prog 12 c_spec_DrawWeekdayOf := mkF_sound _ rfl (snd_cons s_spec_l00From (snd_cons s_spec_l03Day snd_nil)) (by kernel_rfl : chkFn Tryd.prog 12 ir12 ir12_v = true)
theorem M_spec_DrawWeekdayOf : c_spec_DrawWeekdayOf.modes = [.bor] := rfl
theorem Fl_spec_DrawWeekdayOf : c_spec_DrawWeekdayOf.flat = true := rfl
attribute [go_sem] M_spec_DrawWeekdayOf Fl_spec_DrawWeekdayOf
attribute [go_sem] lk_spec_DrawWeekdayOf_29 lk_spec_DrawWeekdayOf_28
theorem Fs_spec_DrawWeekdayOf {code : List UInt8} {y_ : Int} (h : spec_DrawWeekdayOf code = some y_) : c_spec_DrawWeekdayOf.F [.sl 1 (List.map byteAV code)] = ⟨true, .int .i64 y_, [.any]⟩ := by
  refine mkF_E rfl ?_
  dsimp only [spec_DrawWeekdayOf] at h
  obtain ⟨y_1, hk1, h⟩ := bd_some h
  have fhk1 := Fs_spec_l00From hk1
  try simp only [go_sem] at fhk1
  obtain ⟨y_2, hk2, h⟩ := bd_some h
  have fhk2 := Fs_spec_l03Day hk2
  try simp only [go_sem] at fhk2
  obtain rfl := so_some h
  refine ⟨0, fun L hL => ?_⟩
  simp only [go_sem, ir12, fhk1, fhk2]


def ir13_v : List Nat := [0, 2, 3]
def ir13 : AFn := ⟨1, 3, .seq (.region false [
    ⟨.var 1, 2, none, .mov (.c (.int .i64 (0)))⟩,
    ⟨.var 2, 3, none, .mov (.c (.int .i64 (0)))⟩])
 (.seq (.test false [
    ⟨.push, 4, none, .mov (.v 0)⟩,
    ⟨.push, 5, none, .call 30 [(.s 0), (.c (.int .i64 (0))), (.c (.int .i64 (100000)))]⟩,
    ⟨.push, 6, none, .un .not (.s 0)⟩] (.s 0)
  (.seq (.region false [
      ⟨.var 1, 2, none, .mov (.c (.int .i64 (0)))⟩,
      ⟨.var 2, 3, none, .mov (.c (.int .i64 (2)))⟩])
   (.ret))
  (.skip))
 (.seq (.region false [
    ⟨.push, 7, none, .mov (.v 0)⟩,
    ⟨.push, 8, none, .bin false .rem (.s 0) (.c (.int .i64 (7)))⟩,
    ⟨.push, 9, none, .bin false .add (.s 0) (.c (.int .i64 (1)))⟩,
    ⟨.var 1, 2, none, .mov (.s 0)⟩,
    ⟨.var 2, 3, none, .mov (.c (.int .i64 (0)))⟩])
 (.ret))), [.t 1, .t 2]⟩
noncomputable def t_impl_WeekdayOf : List (Nat × Ctr) := [(30, c_impl_in)]
theorem lk_impl_WeekdayOf_30 : look t_impl_WeekdayOf 30 = some c_impl_in := rfl
noncomputable def c_impl_WeekdayOf : Ctr := mkF t_impl_WeekdayOf ir13 [.bor]
theorem s_impl_WeekdayOf : Sound Tryd.prog 13 c_impl_WeekdayOf := mkF_sound _ rfl (snd_cons s_impl_in snd_nil) (by kernel_rfl : chkFn Tryd.prog 13 ir13 ir13_v = true)
theorem M_impl_WeekdayOf : c_impl_WeekdayOf.modes = [.bor] := rfl
theorem Fl_impl_WeekdayOf : c_impl_WeekdayOf.flat = true := rfl
attribute [go_sem] M_impl_WeekdayOf Fl_impl_WeekdayOf
attribute [go_sem] lk_impl_WeekdayOf_30
theorem Fs_impl_WeekdayOf {day : Int} {y_ : Int × Int} (h : impl_WeekdayOf day = some y_) : c_impl_WeekdayOf.F [.int .i64 day] = ⟨true, .tup [.int .i64 y_.1, .int .i64 y_.2], [.any]⟩ := by
  refine mkF_E rfl ?_
  dsimp only [impl_WeekdayOf] at h
  obtain ⟨y_1, hk1, h⟩ := bd_some h
  have fhk1 := Fs_impl_in hk1
  try simp only [go_sem] at fhk1
  rcases it_some h with ⟨hk2, h⟩ | ⟨hk2, h⟩
  · try simp only [go_sem, n1, n2, n3, n4] at hk2
    all_goals
    obtain rfl := so_some h
    refine ⟨0, fun L hL => ?_⟩
    simp only [go_sem, ir13, fhk1, hk2]
  · try simp only [go_sem, n1, n2, n3, n4] at hk2
    all_goals
    obtain ⟨hk3, h⟩ := ck_some h
    try simp only [go_sem, n1, n2, n3, n4, hk2] at hk3
    all_goals
    obtain rfl := so_some h
    refine ⟨0, fun L hL => ?_⟩
    simp only [go_sem, ir13, fhk1, hk2, hk3]


def ir14_v : List Nat := [0, 2, 3]
def ir14 : AFn := ⟨1, 3, .seq (.region false [
    ⟨.var 1, 2, none, .mov (.c (.int .i64 (0)))⟩,
    ⟨.var 2, 3, none, .mov (.c (.int .i64 (0)))⟩])
 (.seq (.test false [
    ⟨.push, 4, none, .mov (.v 0)⟩,
    ⟨.push, 5, none, .call 33 [(.s 0), (.c (.int .i64 (0))), (.c (.int .i64 (100000)))]⟩,
    ⟨.push, 6, none, .un .not (.s 0)⟩] (.s 0)
  (.seq (.region false [
      ⟨.var 1, 2, none, .mov (.c (.int .i64 (0)))⟩,
      ⟨.var 2, 3, none, .mov (.c (.int .i64 (2)))⟩])
   (.ret))
  (.skip))
 (.seq (.region false [
    ⟨.push, 7, none, .mov (.v 0)⟩,
    ⟨.push, 8, none, .bin false .rem (.s 0) (.c (.int .i64 (7)))⟩,
    ⟨.push, 9, none, .bin false .add (.s 0) (.c (.int .i64 (1)))⟩,
    ⟨.var 1, 2, none, .mov (.s 0)⟩,
    ⟨.var 2, 3, none, .mov (.c (.int .i64 (0)))⟩])
 (.ret))), [.t 1, .t 2]⟩
noncomputable def t_spec_WeekdayOf : List (Nat × Ctr) := [(33, c_spec_l00In)]
theorem lk_spec_WeekdayOf_33 : look t_spec_WeekdayOf 33 = some c_spec_l00In := rfl
noncomputable def c_spec_WeekdayOf : Ctr := mkF t_spec_WeekdayOf ir14 [.bor]
theorem s_spec_WeekdayOf : Sound Tryd.prog 14 c_spec_WeekdayOf := mkF_sound _ rfl (snd_cons s_spec_l00In snd_nil) (by kernel_rfl : chkFn Tryd.prog 14 ir14 ir14_v = true)
theorem M_spec_WeekdayOf : c_spec_WeekdayOf.modes = [.bor] := rfl
theorem Fl_spec_WeekdayOf : c_spec_WeekdayOf.flat = true := rfl
attribute [go_sem] M_spec_WeekdayOf Fl_spec_WeekdayOf
attribute [go_sem] lk_spec_WeekdayOf_33
theorem Fs_spec_WeekdayOf {day : Int} {y_ : Int × Int} (h : spec_WeekdayOf day = some y_) : c_spec_WeekdayOf.F [.int .i64 day] = ⟨true, .tup [.int .i64 y_.1, .int .i64 y_.2], [.any]⟩ := by
  refine mkF_E rfl ?_
  dsimp only [spec_WeekdayOf] at h
  obtain ⟨y_1, hk1, h⟩ := bd_some h
  have fhk1 := Fs_spec_l00In hk1
  try simp only [go_sem] at fhk1
  rcases it_some h with ⟨hk2, h⟩ | ⟨hk2, h⟩
  · try simp only [go_sem, n1, n2, n3, n4] at hk2
    all_goals
    obtain rfl := so_some h
    refine ⟨0, fun L hL => ?_⟩
    simp only [go_sem, ir14, fhk1, hk2]
  · try simp only [go_sem, n1, n2, n3, n4] at hk2
    all_goals
    obtain ⟨hk3, h⟩ := ck_some h
    try simp only [go_sem, n1, n2, n3, n4, hk2] at hk3
    all_goals
    obtain rfl := so_some h
    refine ⟨0, fun L hL => ?_⟩
    simp only [go_sem, ir14, fhk1, hk2, hk3]


def ir15_v : List Nat := [0, 2]
def ir15 : AFn := ⟨1, 2, .seq (.region false [
    ⟨.var 1, 2, none, .alloc (.agg [.int .i64 (0), .int .i64 (0), .int .i64 (0)])⟩])
 (.seq (.region false [
    ⟨.push, 3, none, .mov (.v 0)⟩,
    ⟨.push, 4, none, .call 29 [(.s 0)]⟩,
    ⟨.push, 5, none, .call 36 [(.s 0)]⟩,
    ⟨.no, 0, none, .store 3 (.v 1) (.s 0)⟩])
 (.ret)), [.cell true 3 1]⟩
noncomputable def t_spec_DrawDateText : List (Nat × Ctr) := [(29, c_spec_l00From), (36, c_spec_l03Bent)]
theorem lk_spec_DrawDateText_29 : look t_spec_DrawDateText 29 = some c_spec_l00From := rfl
theorem lk_spec_DrawDateText_36 : look t_spec_DrawDateText 36 = some c_spec_l03Bent := rfl
noncomputable def c_spec_DrawDateText : Ctr := mkN t_spec_DrawDateText ir15 [.bor]
theorem s_spec_DrawDateText : Sound Tryd.prog 15 c_spec_DrawDateText := mkN_sound _ (snd_cons s_spec_l00From (snd_cons s_spec_l03Bent snd_nil)) (by kernel_rfl : chkFn Tryd.prog 15 ir15 ir15_v = true)
theorem M_spec_DrawDateText : c_spec_DrawDateText.modes = [.bor] := rfl
theorem Fl_spec_DrawDateText : c_spec_DrawDateText.flat = false := rfl
attribute [go_sem] M_spec_DrawDateText Fl_spec_DrawDateText
attribute [go_sem] lk_spec_DrawDateText_29 lk_spec_DrawDateText_36
theorem Fs_spec_DrawDateText {code : List UInt8} {y_ : Date} (h : spec_DrawDateText code = some y_) : c_spec_DrawDateText.F [.sl 1 (List.map byteAV code)] = ⟨true, Date_av y_, [.any]⟩ := by
  refine mkN_E ?_
  dsimp only [spec_DrawDateText] at h
  obtain ⟨y_1, hk1, h⟩ := bd_some h
  have fhk1 := Fs_spec_l00From hk1
  try simp only [go_sem] at fhk1
  obtain ⟨y_2, hk2, h⟩ := bd_some h
  have fhk2 := Fs_spec_l03Bent hk2
  try simp only [go_sem] at fhk2
  obtain rfl := so_some h
  refine ⟨0, fun L hL => ?_⟩
  simp only [go_sem, ir15, fhk1, fhk2]


theorem s_hFmt : Sound Tryd.prog 81 c_hFmt := hFmt_is

def ir78_v : List Nat := [0, 1, 4]
def ir78 : AFn := ⟨2, 3, .seq (.region false [
    ⟨.var 2, 4, none, .mov (.c (.str []))⟩])
 (.seq (.region false [
    ⟨.push, 5, none, .mov (.v 0)⟩,
    ⟨.push, 6, none, .mov (.v 1)⟩,
    ⟨.push, 7, none, .call 81 [(.s 1), (.s 0)]⟩,
    ⟨.var 2, 4, none, .mov (.s 0)⟩])
 (.ret)), [.t 2]⟩
noncomputable def t_strconv_FormatInt : List (Nat × Ctr) := [(81, c_hFmt)]
theorem lk_strconv_FormatInt_81 : look t_strconv_FormatInt 81 = some c_hFmt := rfl
noncomputable def c_strconv_FormatInt : Ctr := mkF t_strconv_FormatInt ir78 [.bor, .bor]
theorem s_strconv_FormatInt : Sound Tryd.prog 78 c_strconv_FormatInt := mkF_sound _ rfl (snd_cons s_hFmt snd_nil) (by kernel_rfl : chkFn Tryd.prog 78 ir78 ir78_v = true)
theorem M_strconv_FormatInt : c_strconv_FormatInt.modes = [.bor, .bor] := rfl
theorem Fl_strconv_FormatInt : c_strconv_FormatInt.flat = true := rfl
attribute [go_sem] M_strconv_FormatInt Fl_strconv_FormatInt
attribute [go_sem] lk_strconv_FormatInt_81
theorem Fs_strconv_FormatInt {i : Int} {base : Int} {y_ : (List UInt8)} (h : strconv_FormatInt i base = some y_) : c_strconv_FormatInt.F [.int .i64 i, .int .i64 base] = ⟨true, .str y_, [.any, .any]⟩ := by
  refine mkF_E rfl ?_
  dsimp only [strconv_FormatInt] at h
  obtain ⟨y_1, hk1, h⟩ := bd_some h
  have fhk1 := Fs_hFmt hk1
  try simp only [go_sem] at fhk1
  obtain rfl := so_some h
  refine ⟨0, fun L hL => ?_⟩
  simp only [go_sem, ir78, fhk1]


def ir64_v : List Nat := [0, 2]
def ir64 : AFn := ⟨1, 2, .seq (.region false [
    ⟨.var 1, 2, none, .mov (.c (.str []))⟩])
 (.seq (.region false [
    ⟨.push, 3, none, .mov (.v 0)⟩,
    ⟨.push, 4, none, .call 78 [(.s 0), (.c (.int .i64 (10)))]⟩,
    ⟨.var 1, 2, none, .mov (.s 0)⟩])
 (.ret)), [.t 1]⟩
noncomputable def t_impl_Decimal : List (Nat × Ctr) := [(78, c_strconv_FormatInt)]
theorem lk_impl_Decimal_78 : look t_impl_Decimal 78 = some c_strconv_FormatInt := rfl
noncomputable def c_impl_Decimal : Ctr := mkF t_impl_Decimal ir64 [.bor]
theorem s_impl_Decimal : Sound Tryd.prog 64 c_impl_Decimal := mkF_sound _ rfl (snd_cons s_strconv_FormatInt snd_nil) (by kernel_rfl : chkFn Tryd.prog 64 ir64 ir64_v = true)
theorem M_impl_Decimal : c_impl_Decimal.modes = [.bor] := rfl
theorem Fl_impl_Decimal : c_impl_Decimal.flat = true := rfl
attribute [go_sem] M_impl_Decimal Fl_impl_Decimal
attribute [go_sem] lk_impl_Decimal_78
theorem Fs_impl_Decimal {n : Int} {y_ : (List UInt8)} (h : impl_Decimal n = some y_) : c_impl_Decimal.F [.int .i64 n] = ⟨true, .str y_, [.any]⟩ := by
  refine mkF_E rfl ?_
  dsimp only [impl_Decimal] at h
  obtain ⟨y_1, hk1, h⟩ := bd_some h
  have fhk1 := Fs_strconv_FormatInt hk1
  try simp only [go_sem] at fhk1
  obtain rfl := so_some h
  refine ⟨0, fun L hL => ?_⟩
  simp only [go_sem, ir64, fhk1]


def ir39_b0 : IR := .seq (.test false [
    ⟨.push, 8, none, .mov (.v 3)⟩,
    ⟨.push, 9, none, .len true (.s 0)⟩,
    ⟨.push, 10, none, .mov (.v 1)⟩,
    ⟨.push, 11, none, .bin false .lss (.s 1) (.s 0)⟩] (.s 0)
  (.skip)
  (.exit 0))
 (.block 1 (.region false [
    ⟨.push, 12, none, .mov (.v 3)⟩,
    ⟨.push, 13, none, .bin false .add (.c (.str [48])) (.s 0)⟩,
    ⟨.var 3, 5, none, .mov (.s 0)⟩]))
def ir39_k0 : List Bool := [false, true, false, true]
def ir39_o0 : List Bool := [false, false, false, true]
def ir39_r0 : List Bool := [false, false, true, false]
def ir39_v : List Nat := [0, 1, 4, 5]
def ir39 : AFn := ⟨2, 4, .seq (.region false [
    ⟨.var 2, 4, none, .mov (.c (.str []))⟩])
 (.seq (.region false [
    ⟨.push, 6, none, .mov (.v 0)⟩,
    ⟨.push, 7, none, .call 64 [(.s 0)]⟩,
    ⟨.var 3, 5, none, .mov (.s 0)⟩])
 (.seq (.block 0 (.loop ir39_k0 ir39_o0 ir39_r0 ir39_b0))
 (.seq (.region false [
    ⟨.push, 14, none, .mov (.v 3)⟩,
    ⟨.var 2, 4, none, .mov (.s 0)⟩])
 (.ret)))), [.t 2]⟩
noncomputable def t_impl_padded : List (Nat × Ctr) := [(64, c_impl_Decimal)]
theorem lk_impl_padded_64 : look t_impl_padded 64 = some c_impl_Decimal := rfl
noncomputable def c_impl_padded : Ctr := mkF t_impl_padded ir39 [.bor, .bor]
theorem s_impl_padded : Sound Tryd.prog 39 c_impl_padded := mkF_sound _ rfl (snd_cons s_impl_Decimal snd_nil) (by kernel_rfl : chkFn Tryd.prog 39 ir39 ir39_v = true)
theorem M_impl_padded : c_impl_padded.modes = [.bor, .bor] := rfl
theorem Fl_impl_padded : c_impl_padded.flat = true := rfl
attribute [go_sem] M_impl_padded Fl_impl_padded
attribute [go_sem] lk_impl_padded_64
def E_impl_padded_l1 (digits : Int) : (List UInt8) → St
  | s_ => ⟨[.any, .int .i64 digits, .any, .str s_], [], [], true⟩
def R_impl_padded_l1 (digits : Int) (y : (List UInt8)) : Res := (.exit 0, ⟨[.any, .any, .any, .str y], [], [], true⟩)
theorem impl_padded_l1_ex {digits : Int} {sgm_ : (List UInt8)} {rho_ : (List UInt8)} (h : whileE (impl_padded_l1 digits) sgm_ = some rho_) : ∃ L0, ∀ L, L0 ≤ L → iter (exec (look t_impl_padded) L ir39_b0) ir39_k0 ir39_o0 ir39_r0 L (E_impl_padded_l1 digits sgm_) = R_impl_padded_l1 digits rho_ := by
  refine loop_ex (E := E_impl_padded_l1 digits) (R := R_impl_padded_l1 digits) (fun y => by first | (intro c; cases c) | (rcases y with y | y <;> (intro c; cases c)) | (rcases y with y | y | y <;> (intro c; cases c))) ?_ h
  clear h
  intro s_ o_ h
  dsimp only [impl_padded_l1] at h
  rcases it_some h with ⟨hk2, h⟩ | ⟨hk2, h⟩
  · try simp only [go_sem, n1, n2, n3, n4] at hk2
    all_goals
    obtain ⟨hk3, h⟩ := ck_some h
    try simp only [go_sem, n1, n2, n3, n4, hk2] at hk3
    all_goals
    obtain rfl := so_some h
    refine ⟨0, fun L hL => ?_⟩
    simp only [go_sem, ir39, E_impl_padded_l1, R_impl_padded_l1, ir39_b0, ir39_k0, ir39_o0, ir39_r0, hk2, hk3]
  · try simp only [go_sem, n1, n2, n3, n4] at hk2
    all_goals
    obtain rfl := so_some h
    refine ⟨0, fun L hL => ?_⟩
    simp only [go_sem, ir39, E_impl_padded_l1, R_impl_padded_l1, ir39_b0, ir39_k0, ir39_o0, ir39_r0, hk2]

theorem Fs_impl_padded {n : Int} {digits : Int} {y_ : (List UInt8)} (h : impl_padded n digits = some y_) : c_impl_padded.F [.int .i64 n, .int .i64 digits] = ⟨true, .str y_, [.any, .any]⟩ := by
  refine mkF_E rfl ?_
  dsimp only [impl_padded] at h
  obtain ⟨y_1, hk1, h⟩ := bd_some h
  have fhk1 := Fs_impl_Decimal hk1
  try simp only [go_sem] at fhk1
  obtain ⟨y_4, hk4, h⟩ := bd_some h
  obtain ⟨Lhk4, ehk4⟩ := impl_padded_l1_ex hk4
  obtain rfl := so_some h
  refine ⟨Lhk4, fun L hL => ?_⟩
  have ehk4 := ehk4 L (by omega)
  try simp only [go_sem, E_impl_padded_l1, R_impl_padded_l1, ir39_k0, ir39_o0, ir39_r0] at ehk4
  simp only [go_sem, ir39, E_impl_padded_l1, R_impl_padded_l1, ir39_k0, ir39_o0, ir39_r0, fhk1, ehk4]


def ir16_v : List Nat := [0, 1, 2]
def ir16 : AFn := ⟨1, 3, .seq (.region false [
    ⟨.var 1, 1, none, .box (.v 0)⟩,
    ⟨.var 2, 2, none, .mov (.c (.str []))⟩])
 (.seq (.test false [
    ⟨.push, 3, none, .load true 3 (.v 1)⟩,
    ⟨.push, 4, none, .call 21 [(.s 0)]⟩,
    ⟨.push, 5, none, .un .not (.s 0)⟩] (.s 0)
  (.seq (.region false [
      ⟨.var 2, 2, none, .mov (.c (.str []))⟩])
   (.ret))
  (.skip))
 (.seq (.anyo 13 [
    ⟨.slot 0, 6, none, .fldAddr 0 (.v 1)⟩,
    ⟨.slot 1, 7, none, .load false 1 (.s 0)⟩,
    ⟨.slot 2, 8, none, .callp 39 [(.s 1), (.c (.int .i64 (4)))]⟩,
    ⟨.slot 3, 9, none, .bin false .add (.s 2) (.c (.str [45]))⟩,
    ⟨.slot 4, 10, none, .fldAddr 1 (.v 1)⟩,
    ⟨.slot 5, 11, none, .load false 1 (.s 4)⟩,
    ⟨.slot 6, 12, none, .callp 39 [(.s 5), (.c (.int .i64 (2)))]⟩,
    ⟨.slot 7, 13, none, .bin false .add (.s 3) (.s 6)⟩,
    ⟨.slot 8, 14, none, .bin false .add (.s 7) (.c (.str [45]))⟩,
    ⟨.slot 9, 15, none, .fldAddr 2 (.v 1)⟩,
    ⟨.slot 10, 16, none, .load false 1 (.s 9)⟩,
    ⟨.slot 11, 17, none, .callp 39 [(.s 10), (.c (.int .i64 (2)))]⟩,
    ⟨.slot 12, 18, none, .bin false .add (.s 8) (.s 11)⟩,
    ⟨.var 2, 2, none, .mov (.s 12)⟩] [] .skip)
 (.ret))), [.t 2]⟩
noncomputable def t_impl_DateText : List (Nat × Ctr) := [(21, c_impl_ValidDate), (39, c_impl_padded)]
theorem lk_impl_DateText_21 : look t_impl_DateText 21 = some c_impl_ValidDate := rfl
theorem lk_impl_DateText_39 : look t_impl_DateText 39 = some c_impl_padded := rfl
noncomputable def c_impl_DateText : Ctr := mkF t_impl_DateText ir16 [.bor]
theorem s_impl_DateText : Sound Tryd.prog 16 c_impl_DateText := mkF_sound _ rfl (snd_cons s_impl_ValidDate (snd_cons s_impl_padded snd_nil)) (by kernel_rfl : chkFn Tryd.prog 16 ir16 ir16_v = true)
theorem M_impl_DateText : c_impl_DateText.modes = [.bor] := rfl
theorem Fl_impl_DateText : c_impl_DateText.flat = true := rfl
attribute [go_sem] M_impl_DateText Fl_impl_DateText
attribute [go_sem] lk_impl_DateText_21 lk_impl_DateText_39
theorem Fs_impl_DateText {d : Date} {y_ : (List UInt8)} (h : impl_DateText d = some y_) : c_impl_DateText.F [Date_av d] = ⟨true, .str y_, [.any]⟩ := by
  refine mkF_E rfl ?_
  dsimp only [impl_DateText] at h
  obtain ⟨y_1, hk1, h⟩ := bd_some h
  have fhk1 := Fs_impl_ValidDate hk1
  try simp only [go_sem] at fhk1
  rcases it_some h with ⟨hk2, h⟩ | ⟨hk2, h⟩
  · try simp only [go_sem, n1, n2, n3, n4] at hk2
    all_goals
    obtain rfl := so_some h
    refine ⟨0, fun L hL => ?_⟩
    simp only [go_sem, ir16, fhk1, hk2]
  · try simp only [go_sem, n1, n2, n3, n4] at hk2
    all_goals
    obtain ⟨y_3, hk3, h⟩ := bd_some h
    have fhk3 := Fs_impl_padded hk3
    try simp only [go_sem, hk2] at fhk3
    obtain ⟨hk4, h⟩ := ck_some h
    try simp only [go_sem, n1, n2, n3, n4, hk2] at hk4
    all_goals
    obtain ⟨y_5, hk5, h⟩ := bd_some h
    have fhk5 := Fs_impl_padded hk5
    try simp only [go_sem, hk2, hk4] at fhk5
    obtain ⟨hk6, h⟩ := ck_some h
    try simp only [go_sem, n1, n2, n3, n4, hk2, hk4] at hk6
    all_goals
    obtain ⟨hk7, h⟩ := ck_some h
    try simp only [go_sem, n1, n2, n3, n4, hk2, hk4, hk6] at hk7
    all_goals
    obtain ⟨y_8, hk8, h⟩ := bd_some h
    have fhk8 := Fs_impl_padded hk8
    try simp only [go_sem, hk2, hk4, hk6, hk7] at fhk8
    obtain ⟨hk9, h⟩ := ck_some h
    try simp only [go_sem, n1, n2, n3, n4, hk2, hk4, hk6, hk7] at hk9
    all_goals
    obtain rfl := so_some h
    refine ⟨0, fun L hL => ?_⟩
    simp only [go_sem, ir16, fhk1, hk2, fhk3, hk4, fhk5, hk6, hk7, fhk8, hk9]


def ir40_v : List Nat := [0, 2]
def ir40 : AFn := ⟨1, 2, .seq (.region false [
    ⟨.var 1, 2, none, .mov (.c (.int .i64 (0)))⟩])
 (.seq (.anyo 10 [
    ⟨.slot 0, 3, none, .mov (.v 0)⟩,
    ⟨.slot 1, 4, none, .ixStr (.s 0) (.c (.int .i64 (0)))⟩,
    ⟨.slot 2, 5, none, .bin false .sub (.s 1) (.c (.int .u8 (48)))⟩,
    ⟨.slot 3, 6, none, .conv .i64 (.s 2)⟩,
    ⟨.slot 4, 7, none, .bin false .mul (.s 3) (.c (.int .i64 (10)))⟩,
    ⟨.slot 5, 8, none, .mov (.v 0)⟩,
    ⟨.slot 6, 9, none, .ixStr (.s 5) (.c (.int .i64 (1)))⟩,
    ⟨.slot 7, 10, none, .bin false .sub (.s 6) (.c (.int .u8 (48)))⟩,
    ⟨.slot 8, 11, none, .conv .i64 (.s 7)⟩,
    ⟨.slot 9, 12, none, .bin false .add (.s 4) (.s 8)⟩,
    ⟨.var 1, 2, none, .mov (.s 9)⟩] [] .skip)
 (.ret)), [.t 1]⟩
noncomputable def t_impl_twoDigits : List (Nat × Ctr) := []
noncomputable def c_impl_twoDigits : Ctr := mkF t_impl_twoDigits ir40 [.bor]
theorem s_impl_twoDigits : Sound Tryd.prog 40 c_impl_twoDigits := mkF_sound _ rfl snd_nil (by kernel_rfl : chkFn Tryd.prog 40 ir40 ir40_v = true)
theorem M_impl_twoDigits : c_impl_twoDigits.modes = [.bor] := rfl
theorem Fl_impl_twoDigits : c_impl_twoDigits.flat = true := rfl
attribute [go_sem] M_impl_twoDigits Fl_impl_twoDigits
theorem Fs_impl_twoDigits {s_ : List UInt8} {y_ : Int} (h : impl_twoDigits s_ = some y_) : c_impl_twoDigits.F [.str s_] = ⟨true, .int .i64 y_, [.any]⟩ := by
  refine mkF_E rfl ?_
  dsimp only [impl_twoDigits] at h
  obtain ⟨hk1, h⟩ := ck_some h
  try simp only [go_sem, n1, n2, n3, n4] at hk1
  all_goals
  obtain ⟨hk2, h⟩ := ck_some h
  try simp only [go_sem, n1, n2, n3, n4, hk1] at hk2
  all_goals
  obtain rfl := so_some h
  refine ⟨0, fun L hL => ?_⟩
  simp only [go_sem, ir40, hk1, hk2]


def ir17_v : List Nat := [0, 2, 3, 4]
def ir17 : AFn := ⟨1, 4, .seq (.region false [
    ⟨.var 1, 2, none, .alloc (.agg [.int .i64 (0), .int .i64 (0), .int .i64 (0)])⟩,
    ⟨.var 2, 3, none, .mov (.c (.bool false))⟩])
 (.seq (.test false [
    ⟨.push, 5, none, .mov (.v 0)⟩,
    ⟨.push, 6, none, .len true (.s 0)⟩,
    ⟨.push, 7, none, .bin false .neq (.s 0) (.c (.int .i64 (10)))⟩] (.s 0)
  (.seq (.region false [
      ⟨.push, 8, none, .build [.int .i64 (0), .int .i64 (0), .int .i64 (0)] []⟩,
      ⟨.no, 0, none, .store 3 (.v 1) (.s 0)⟩,
      ⟨.var 2, 3, none, .mov (.c (.bool false))⟩])
   (.ret))
  (.skip))
 (.seq (.anyo 15 [
    ⟨.slot 0, 9, none, .flat (.mov (.v 0))⟩,
    ⟨.slot 1, 10, none, .flat (.pur (.slice 0 (.s 0) none (some (.c (.int .i64 (2))))))⟩,
    ⟨.slot 2, 11, none, .flat (.callp 40 [(.s 1)])⟩,
    ⟨.slot 3, 12, none, .flat (.bin false .mul (.s 2) (.c (.int .i64 (100))))⟩,
    ⟨.slot 4, 13, none, .flat (.mov (.v 0))⟩,
    ⟨.slot 5, 14, none, .flat (.pur (.slice 0 (.s 4) (some (.c (.int .i64 (2)))) (some (.c (.int .i64 (4))))))⟩,
    ⟨.slot 6, 15, none, .flat (.callp 40 [(.s 5)])⟩,
    ⟨.slot 7, 16, none, .flat (.bin false .add (.s 3) (.s 6))⟩,
    ⟨.slot 8, 17, none, .flat (.mov (.v 0))⟩,
    ⟨.slot 9, 18, none, .flat (.pur (.slice 0 (.s 8) (some (.c (.int .i64 (5)))) (some (.c (.int .i64 (7))))))⟩,
    ⟨.slot 10, 19, none, .flat (.callp 40 [(.s 9)])⟩,
    ⟨.slot 11, 20, none, .flat (.mov (.v 0))⟩,
    ⟨.slot 12, 21, none, .flat (.pur (.slice 0 (.s 11) (some (.c (.int .i64 (8)))) none))⟩,
    ⟨.slot 13, 22, none, .flat (.callp 40 [(.s 12)])⟩,
    ⟨.slot 14, 23, none, .pur (.build [.int .i64 (0), .int .i64 (0), .int .i64 (0)] [(0, 1, (.s 7)), (1, 1, (.s 10)), (2, 1, (.s 13))])⟩,
    ⟨.var 3, 4, none, .alloc (.agg [.int .i64 (0), .int .i64 (0), .int .i64 (0)])⟩,
    ⟨.no, 0, none, .store 3 (.v 3) (.s 14)⟩] [[0, 1, 2, 3, 4, 5, 6, 7, 8, 9, 10, 11, 12, 13, 15, 14, 16]] .skip)
 (.seq (.test false [
    ⟨.push, 24, none, .load true 3 (.v 3)⟩,
    ⟨.push, 25, none, .call 16 [(.s 0)]⟩,
    ⟨.push, 26, none, .mov (.v 0)⟩,
    ⟨.push, 27, none, .bin false .neq (.s 1) (.s 0)⟩] (.s 0)
  (.seq (.region false [
      ⟨.push, 28, none, .build [.int .i64 (0), .int .i64 (0), .int .i64 (0)] []⟩,
      ⟨.no, 0, none, .store 3 (.v 1) (.s 0)⟩,
      ⟨.var 2, 3, none, .mov (.c (.bool false))⟩])
   (.ret))
  (.skip))
 (.seq (.region false [
    ⟨.push, 29, none, .load true 3 (.v 3)⟩,
    ⟨.no, 0, none, .store 3 (.v 1) (.s 0)⟩,
    ⟨.var 2, 3, none, .mov (.c (.bool true))⟩])
 (.ret))))), [.cell true 3 1, .t 2]⟩
noncomputable def t_impl_ReadDate : List (Nat × Ctr) := [(40, c_impl_twoDigits), (16, c_impl_DateText)]
theorem lk_impl_ReadDate_40 : look t_impl_ReadDate 40 = some c_impl_twoDigits := rfl
theorem lk_impl_ReadDate_16 : look t_impl_ReadDate 16 = some c_impl_DateText := rfl
noncomputable def c_impl_ReadDate : Ctr := mkN t_impl_ReadDate ir17 [.bor]
theorem s_impl_ReadDate : Sound Tryd.prog 17 c_impl_ReadDate := mkN_sound _ (snd_cons s_impl_twoDigits (snd_cons s_impl_DateText snd_nil)) (by kernel_rfl : chkFn Tryd.prog 17 ir17 ir17_v = true)
theorem M_impl_ReadDate : c_impl_ReadDate.modes = [.bor] := rfl
theorem Fl_impl_ReadDate : c_impl_ReadDate.flat = false := rfl
attribute [go_sem] M_impl_ReadDate Fl_impl_ReadDate
attribute [go_sem] lk_impl_ReadDate_40 lk_impl_ReadDate_16
theorem Fs_impl_ReadDate {s_ : List UInt8} {y_ : Date × Bool} (h : impl_ReadDate s_ = some y_) : c_impl_ReadDate.F [.str s_] = ⟨true, .tup [Date_av y_.1, .bool y_.2], [.any]⟩ := by
  refine mkN_E ?_
  dsimp only [impl_ReadDate] at h
  rcases it_some h with ⟨hk1, h⟩ | ⟨hk1, h⟩
  · try simp only [go_sem, n1, n2, n3, n4] at hk1
    all_goals
    obtain rfl := so_some h
    refine ⟨0, fun L hL => ?_⟩
    simp only [go_sem, ir17, hk1]
  · try simp only [go_sem, n1, n2, n3, n4] at hk1
    all_goals
    obtain ⟨hk2, h⟩ := ck_some h
    try simp only [go_sem, n1, n2, n3, n4, hk1] at hk2
    all_goals
    obtain ⟨y_3, hk3, h⟩ := bd_some h
    have fhk3 := Fs_impl_twoDigits hk3
    try simp only [go_sem, hk1, hk2] at fhk3
    obtain ⟨hk4, h⟩ := ck_some h
    try simp only [go_sem, n1, n2, n3, n4, hk1, hk2] at hk4
    all_goals
    obtain ⟨y_5, hk5, h⟩ := bd_some h
    have fhk5 := Fs_impl_twoDigits hk5
    try simp only [go_sem, hk1, hk2, hk4] at fhk5
    obtain ⟨hk6, h⟩ := ck_some h
    try simp only [go_sem, n1, n2, n3, n4, hk1, hk2, hk4] at hk6
    all_goals
    obtain ⟨y_7, hk7, h⟩ := bd_some h
    have fhk7 := Fs_impl_twoDigits hk7
    try simp only [go_sem, hk1, hk2, hk4, hk6] at fhk7
    obtain ⟨hk8, h⟩ := ck_some h
    try simp only [go_sem, n1, n2, n3, n4, hk1, hk2, hk4, hk6] at hk8
    all_goals
    obtain ⟨y_9, hk9, h⟩ := bd_some h
    have fhk9 := Fs_impl_twoDigits hk9
    try simp only [go_sem, hk1, hk2, hk4, hk6, hk8] at fhk9
    obtain ⟨y_10, hk10, h⟩ := bd_some h
    have fhk10 := Fs_impl_DateText hk10
    try simp only [go_sem, hk1, hk2, hk4, hk6, hk8] at fhk10
    rcases it_some h with ⟨hk11, h⟩ | ⟨hk11, h⟩
    · try simp only [go_sem, n1, n2, n3, n4, hk1, hk2, hk4, hk6, hk8] at hk11
      all_goals
      obtain rfl := so_some h
      refine ⟨0, fun L hL => ?_⟩
      simp only [go_sem, ir17, hk1, hk2, fhk3, hk4, fhk5, hk6, fhk7, hk8, fhk9, fhk10, hk11]
    · try simp only [go_sem, n1, n2, n3, n4, hk1, hk2, hk4, hk6, hk8] at hk11
      all_goals
      obtain rfl := so_some h
      refine ⟨0, fun L hL => ?_⟩
      simp only [go_sem, ir17, hk1, hk2, fhk3, hk4, fhk5, hk6, fhk7, hk8, fhk9, fhk10, hk11]


def ir41_v : List Nat := [0, 1, 4]
def ir41 : AFn := ⟨2, 3, .seq (.region false [
    ⟨.var 2, 4, none, .mov (.c (.str []))⟩])
 (.seq (.region false [
    ⟨.push, 5, none, .mov (.v 1)⟩,
    ⟨.push, 6, none, .mov (.v 0)⟩,
    ⟨.push, 7, none, .mov (.v 1)⟩,
    ⟨.push, 8, none, .len false (.s 0)⟩,
    ⟨.push, 9, none, .call 61 [(.s 2), (.s 0)]⟩,
    ⟨.push, 10, none, .ixAddr 1 (.s 4) (.s 0)⟩,
    ⟨.push, 11, none, .load false 1 (.s 0)⟩,
    ⟨.var 2, 4, none, .mov (.s 0)⟩])
 (.ret)), [.t 2]⟩
noncomputable def t_spec_l00Src_text : List (Nat × Ctr) := [(61, c_spec_l00Src_pick)]
theorem lk_spec_l00Src_text_61 : look t_spec_l00Src_text 61 = some c_spec_l00Src_pick := rfl
noncomputable def c_spec_l00Src_text : Ctr := mkN t_spec_l00Src_text ir41 [.io, .bor]
theorem s_spec_l00Src_text : Sound Tryd.prog 41 c_spec_l00Src_text := mkN_sound _ (snd_cons s_spec_l00Src_pick snd_nil) (by kernel_rfl : chkFn Tryd.prog 41 ir41 ir41_v = true)
theorem M_spec_l00Src_text : c_spec_l00Src_text.modes = [.io, .bor] := rfl
theorem Fl_spec_l00Src_text : c_spec_l00Src_text.flat = false := rfl
attribute [go_sem] M_spec_l00Src_text Fl_spec_l00Src_text
attribute [go_sem] lk_spec_l00Src_text_61
theorem Fs_spec_l00Src_text {s_ : L00Src} {list : List (List UInt8)} {y_ : (List UInt8) × L00Src} (h : spec_l00Src_text s_ list = some y_) : c_spec_l00Src_text.F [.mem 3 [L00Src_av s_], .sl 1 (List.map AV.str list)] = ⟨true, .str y_.1, [.mem 3 [L00Src_av y_.2], .any]⟩ := by
  refine mkN_E ?_
  dsimp only [spec_l00Src_text] at h
  obtain ⟨y_1, hk1, h⟩ := bd_some h
  have fhk1 := Fs_spec_l00Src_pick hk1
  try simp only [go_sem] at fhk1
  obtain ⟨hk2, h⟩ := ck_some h
  have lhk2 := ix_lt hk2
  have xhk2 := getD_mapD AV.str list lhk2
  try simp only [go_sem] at lhk2
  try simp only [go_sem] at xhk2
  try simp only [go_sem, n1, n2, n3, n4] at hk2
  all_goals
  obtain rfl := so_some h
  refine ⟨0, fun L hL => ?_⟩
  simp only [go_sem, ir41, fhk1, hk2, lhk2, xhk2]


def ir65_b0 : IR := .seq (.test false [
    ⟨.push, 8, none, .mov (.v 3)⟩,
    ⟨.push, 9, none, .bin false .neq (.s 0) (.c (.int .i64 (0)))⟩] (.s 0)
  (.skip)
  (.exit 0))
 (.seq (.block 1 (.seq (.region false [
      ⟨.push, 12, none, .mov (.v 3)⟩,
      ⟨.push, 13, none, .bin false .rem (.s 0) (.c (.int .i64 (10)))⟩,
      ⟨.var 4, 5, none, .mov (.s 0)⟩])
   (.seq (.test false [
      ⟨.push, 14, none, .mov (.v 4)⟩,
      ⟨.push, 15, none, .bin false .lss (.s 0) (.c (.int .i64 (0)))⟩] (.s 0)
    (.region false [
       ⟨.push, 16, none, .mov (.v 4)⟩,
       ⟨.push, 17, none, .un .neg (.s 0)⟩,
       ⟨.var 4, 5, none, .mov (.s 0)⟩])
    (.skip))
   (.region false [
     ⟨.push, 18, none, .mov (.v 4)⟩,
     ⟨.push, 19, none, .bin false .add (.c (.int .i64 (48))) (.s 0)⟩,
     ⟨.push, 20, none, .conv .u8 (.s 0)⟩,
     ⟨.push, 21, none, .mkSl 1 (.int .u8 (0)) 1 [(0, (.s 0))]⟩,
     ⟨.push, 22, none, .mov (.v 2)⟩,
     ⟨.push, 23, none, .app 1 1 (.int .u8 (0)) (.s 1) (.s 0)⟩,
     ⟨.var 2, 3, none, .mov (.s 0)⟩]))))
 (.region false [
   ⟨.push, 10, none, .mov (.v 3)⟩,
   ⟨.push, 11, none, .bin false .quo (.s 0) (.c (.int .i64 (10)))⟩,
   ⟨.var 3, 4, none, .mov (.s 0)⟩]))
def ir65_k0 : List Bool := [true, false, true, true, false]
def ir65_o0 : List Bool := [true, false, true, false, false]
def ir65_r0 : List Bool := [false, true, false, false, false]
def ir65_v : List Nat := [0, 2, 3, 4, 5]
def ir65 : AFn := ⟨1, 5, .seq (.region false [
    ⟨.var 1, 2, none, .mov (.c (.str []))⟩])
 (.seq (.region false [
    ⟨.push, 6, none, .mkSl 1 (.int .u8 (0)) 0 []⟩,
    ⟨.var 2, 3, none, .mov (.s 0)⟩])
 (.seq (.seq (.region false [
     ⟨.push, 7, none, .mov (.v 0)⟩,
     ⟨.var 3, 4, none, .mov (.s 0)⟩])
  (.block 0 (.loop ir65_k0 ir65_o0 ir65_r0 ir65_b0)))
 (.seq (.test false [
    ⟨.push, 24, none, .mov (.v 2)⟩,
    ⟨.push, 25, none, .len false (.s 0)⟩,
    ⟨.push, 26, none, .bin false .eql (.s 0) (.c (.int .i64 (0)))⟩] (.s 0)
  (.seq (.region false [
      ⟨.var 1, 2, none, .mov (.c (.str [48]))⟩])
   (.ret))
  (.skip))
 (.seq (.test false [
    ⟨.push, 27, none, .mov (.v 0)⟩,
    ⟨.push, 28, none, .bin false .lss (.s 0) (.c (.int .i64 (0)))⟩] (.s 0)
  (.seq (.region false [
      ⟨.push, 29, none, .mov (.v 2)⟩,
      ⟨.push, 30, none, .b2s (.s 0)⟩,
      ⟨.push, 31, none, .bin false .add (.c (.str [45])) (.s 0)⟩,
      ⟨.var 1, 2, none, .mov (.s 0)⟩])
   (.ret))
  (.skip))
 (.seq (.region false [
    ⟨.push, 32, none, .mov (.v 2)⟩,
    ⟨.push, 33, none, .b2s (.s 0)⟩,
    ⟨.var 1, 2, none, .mov (.s 0)⟩])
 (.ret)))))), [.t 1]⟩
noncomputable def t_spec_l01Dec : List (Nat × Ctr) := []
noncomputable def c_spec_l01Dec : Ctr := mkF t_spec_l01Dec ir65 [.bor]
theorem s_spec_l01Dec : Sound Tryd.prog 65 c_spec_l01Dec := mkF_sound _ rfl snd_nil (by kernel_rfl : chkFn Tryd.prog 65 ir65 ir65_v = true)
theorem M_spec_l01Dec : c_spec_l01Dec.modes = [.bor] := rfl
theorem Fl_spec_l01Dec : c_spec_l01Dec.flat = true := rfl
attribute [go_sem] M_spec_l01Dec Fl_spec_l01Dec
def E_spec_l01Dec_l1 (n : Int) : ((List UInt8) × Int) → St
  | (out, k) => ⟨[.int .i64 n, .any, .own 3200000, .int .i64 k, .any], [], [(3200000, ⟨1, List.map byteAV out⟩)], true⟩
def R_spec_l01Dec_l1 (n : Int) (y : (List UInt8)) : Res := (.exit 0, ⟨[.int .i64 n, .any, .own 3200000, .any, .any], [], [(3200000, ⟨1, List.map byteAV y⟩)], true⟩)
theorem spec_l01Dec_l1_ex {n : Int} {sgm_ : (List UInt8) × Int} {rho_ : (List UInt8)} (h : whileE (spec_l01Dec_l1 n) sgm_ = some rho_) : ∃ L0, ∀ L, L0 ≤ L → iter (exec (look t_spec_l01Dec) L ir65_b0) ir65_k0 ir65_o0 ir65_r0 L (E_spec_l01Dec_l1 n sgm_) = R_spec_l01Dec_l1 n rho_ := by
  refine loop_ex (E := E_spec_l01Dec_l1 n) (R := R_spec_l01Dec_l1 n) (fun y => by first | (intro c; cases c) | (rcases y with y | y <;> (intro c; cases c)) | (rcases y with y | y | y <;> (intro c; cases c))) ?_ h
  clear h
  rintro ⟨out, k⟩ o_ h
  dsimp only [spec_l01Dec_l1] at h
  rcases it_some h with ⟨hk1, h⟩ | ⟨hk1, h⟩
  · try simp only [go_sem, n1, n2, n3, n4] at hk1
    all_goals
    obtain ⟨hk2, h⟩ := ck_some h
    try simp only [go_sem, n1, n2, n3, n4, hk1] at hk2
    all_goals
    rcases it_some h with ⟨hk3, h⟩ | ⟨hk3, h⟩
    · try simp only [go_sem, n1, n2, n3, n4, hk1, hk2] at hk3
      all_goals
      obtain ⟨hk4, h⟩ := ck_some h
      try simp only [go_sem, n1, n2, n3, n4, hk1, hk2, hk3] at hk4
      all_goals
      obtain rfl := so_some h
      refine ⟨0, fun L hL => ?_⟩
      simp only [go_sem, ir65, E_spec_l01Dec_l1, R_spec_l01Dec_l1, ir65_b0, ir65_k0, ir65_o0, ir65_r0, hk1, hk2, hk3, hk4]
    · try simp only [go_sem, n1, n2, n3, n4, hk1, hk2] at hk3
      all_goals
      obtain ⟨hk5, h⟩ := ck_some h
      try simp only [go_sem, n1, n2, n3, n4, hk1, hk2, hk3] at hk5
      all_goals
      obtain rfl := so_some h
      refine ⟨0, fun L hL => ?_⟩
      simp only [go_sem, ir65, E_spec_l01Dec_l1, R_spec_l01Dec_l1, ir65_b0, ir65_k0, ir65_o0, ir65_r0, hk1, hk2, hk3, hk5]
  · try simp only [go_sem, n1, n2, n3, n4] at hk1
    all_goals
    obtain rfl := so_some h
    refine ⟨0, fun L hL => ?_⟩
    simp only [go_sem, ir65, E_spec_l01Dec_l1, R_spec_l01Dec_l1, ir65_b0, ir65_k0, ir65_o0, ir65_r0, hk1]

theorem Fs_spec_l01Dec {n : Int} {y_ : (List UInt8)} (h : spec_l01Dec n = some y_) : c_spec_l01Dec.F [.int .i64 n] = ⟨true, .str y_, [.any]⟩ := by
  refine mkF_E rfl ?_
  dsimp only [spec_l01Dec] at h
  obtain ⟨y_6, hk6, h⟩ := bd_some h
  obtain ⟨Lhk6, ehk6⟩ := spec_l01Dec_l1_ex hk6
  rcases it_some h with ⟨hk7, h⟩ | ⟨hk7, h⟩
  · try simp only [go_sem, n1, n2, n3, n4] at hk7
    all_goals
    obtain rfl := so_some h
    refine ⟨Lhk6, fun L hL => ?_⟩
    have ehk6 := ehk6 L (by omega)
    try simp only [go_sem, E_spec_l01Dec_l1, R_spec_l01Dec_l1, ir65_k0, ir65_o0, ir65_r0, hk7] at ehk6
    simp only [go_sem, ir65, E_spec_l01Dec_l1, R_spec_l01Dec_l1, ir65_k0, ir65_o0, ir65_r0, hk7, ehk6]
  · try simp only [go_sem, n1, n2, n3, n4] at hk7
    all_goals
    rcases it_some h with ⟨hk8, h⟩ | ⟨hk8, h⟩
    · try simp only [go_sem, n1, n2, n3, n4, hk7] at hk8
      all_goals
      obtain ⟨hk9, h⟩ := ck_some h
      try simp only [go_sem, n1, n2, n3, n4, hk7, hk8] at hk9
      all_goals
      obtain rfl := so_some h
      refine ⟨Lhk6, fun L hL => ?_⟩
      have ehk6 := ehk6 L (by omega)
      try simp only [go_sem, E_spec_l01Dec_l1, R_spec_l01Dec_l1, ir65_k0, ir65_o0, ir65_r0, hk7, hk8, hk9] at ehk6
      simp only [go_sem, ir65, E_spec_l01Dec_l1, R_spec_l01Dec_l1, ir65_k0, ir65_o0, ir65_r0, hk7, hk8, hk9, ehk6]
    · try simp only [go_sem, n1, n2, n3, n4, hk7] at hk8
      all_goals
      obtain rfl := so_some h
      refine ⟨Lhk6, fun L hL => ?_⟩
      have ehk6 := ehk6 L (by omega)
      try simp only [go_sem, E_spec_l01Dec_l1, R_spec_l01Dec_l1, ir65_k0, ir65_o0, ir65_r0, hk7, hk8] at ehk6
      simp only [go_sem, ir65, E_spec_l01Dec_l1, R_spec_l01Dec_l1, ir65_k0, ir65_o0, ir65_r0, hk7, hk8, ehk6]


def ir66_v : List Nat := [0, 2]
def ir66 : AFn := ⟨1, 2, .seq (.region false [
    ⟨.var 1, 2, none, .mov (.c (.str []))⟩])
 (.seq (.region false [
    ⟨.push, 3, none, .mov (.v 0)⟩,
    ⟨.push, 4, none, .bin false .quo (.s 0) (.c (.int .i64 (10)))⟩,
    ⟨.push, 5, none, .call 65 [(.s 0)]⟩,
    ⟨.push, 6, none, .mov (.v 0)⟩,
    ⟨.push, 7, none, .bin false .rem (.s 0) (.c (.int .i64 (10)))⟩,
    ⟨.push, 8, none, .call 65 [(.s 0)]⟩,
    ⟨.push, 9, none, .bin false .add (.s 3) (.s 0)⟩,
    ⟨.var 1, 2, none, .mov (.s 0)⟩])
 (.ret)), [.t 1]⟩
noncomputable def t_spec_l03Two : List (Nat × Ctr) := [(65, c_spec_l01Dec)]
theorem lk_spec_l03Two_65 : look t_spec_l03Two 65 = some c_spec_l01Dec := rfl
noncomputable def c_spec_l03Two : Ctr := mkF t_spec_l03Two ir66 [.bor]
theorem s_spec_l03Two : Sound Tryd.prog 66 c_spec_l03Two := mkF_sound _ rfl (snd_cons s_spec_l01Dec snd_nil) (by kernel_rfl : chkFn Tryd.prog 66 ir66 ir66_v = true)
theorem M_spec_l03Two : c_spec_l03Two.modes = [.bor] := rfl
theorem Fl_spec_l03Two : c_spec_l03Two.flat = true := rfl
attribute [go_sem] M_spec_l03Two Fl_spec_l03Two
attribute [go_sem] lk_spec_l03Two_65
theorem Fs_spec_l03Two {n : Int} {y_ : (List UInt8)} (h : spec_l03Two n = some y_) : c_spec_l03Two.F [.int .i64 n] = ⟨true, .str y_, [.any]⟩ := by
  refine mkF_E rfl ?_
  dsimp only [spec_l03Two] at h
  obtain ⟨hk1, h⟩ := ck_some h
  try simp only [go_sem, n1, n2, n3, n4] at hk1
  all_goals
  obtain ⟨y_2, hk2, h⟩ := bd_some h
  have fhk2 := Fs_spec_l01Dec hk2
  try simp only [go_sem, hk1] at fhk2
  obtain ⟨y_3, hk3, h⟩ := bd_some h
  have fhk3 := Fs_spec_l01Dec hk3
  try simp only [go_sem, hk1] at fhk3
  obtain ⟨hk4, h⟩ := ck_some h
  try simp only [go_sem, n1, n2, n3, n4, hk1] at hk4
  all_goals
  obtain rfl := so_some h
  refine ⟨0, fun L hL => ?_⟩
  simp only [go_sem, ir66, hk1, fhk2, fhk3, hk4]


def ir42_v : List Nat := [0, 1, 2]
def ir42 : AFn := ⟨1, 3, .seq (.region false [
    ⟨.var 1, 1, none, .box (.v 0)⟩,
    ⟨.var 2, 2, none, .mov (.c (.str []))⟩])
 (.seq (.anyo 13 [
    ⟨.slot 0, 3, none, .fldAddr 0 (.v 1)⟩,
    ⟨.slot 1, 4, none, .load false 1 (.s 0)⟩,
    ⟨.slot 2, 5, none, .callp 65 [(.s 1)]⟩,
    ⟨.slot 3, 6, none, .bin false .add (.s 2) (.c (.str [45]))⟩,
    ⟨.slot 4, 7, none, .fldAddr 1 (.v 1)⟩,
    ⟨.slot 5, 8, none, .load false 1 (.s 4)⟩,
    ⟨.slot 6, 9, none, .callp 66 [(.s 5)]⟩,
    ⟨.slot 7, 10, none, .bin false .add (.s 3) (.s 6)⟩,
    ⟨.slot 8, 11, none, .bin false .add (.s 7) (.c (.str [45]))⟩,
    ⟨.slot 9, 12, none, .fldAddr 2 (.v 1)⟩,
    ⟨.slot 10, 13, none, .load false 1 (.s 9)⟩,
    ⟨.slot 11, 14, none, .callp 66 [(.s 10)]⟩,
    ⟨.slot 12, 15, none, .bin false .add (.s 8) (.s 11)⟩,
    ⟨.var 2, 2, none, .mov (.s 12)⟩] [] .skip)
 (.ret)), [.t 2]⟩
noncomputable def t_spec_l03Text : List (Nat × Ctr) := [(65, c_spec_l01Dec), (66, c_spec_l03Two)]
theorem lk_spec_l03Text_65 : look t_spec_l03Text 65 = some c_spec_l01Dec := rfl
theorem lk_spec_l03Text_66 : look t_spec_l03Text 66 = some c_spec_l03Two := rfl
noncomputable def c_spec_l03Text : Ctr := mkF t_spec_l03Text ir42 [.bor]
theorem s_spec_l03Text : Sound Tryd.prog 42 c_spec_l03Text := mkF_sound _ rfl (snd_cons s_spec_l01Dec (snd_cons s_spec_l03Two snd_nil)) (by kernel_rfl : chkFn Tryd.prog 42 ir42 ir42_v = true)
theorem M_spec_l03Text : c_spec_l03Text.modes = [.bor] := rfl
theorem Fl_spec_l03Text : c_spec_l03Text.flat = true := rfl
attribute [go_sem] M_spec_l03Text Fl_spec_l03Text
attribute [go_sem] lk_spec_l03Text_65 lk_spec_l03Text_66
theorem Fs_spec_l03Text {d : Date} {y_ : (List UInt8)} (h : spec_l03Text d = some y_) : c_spec_l03Text.F [Date_av d] = ⟨true, .str y_, [.any]⟩ := by
  refine mkF_E rfl ?_
  dsimp only [spec_l03Text] at h
  obtain ⟨y_1, hk1, h⟩ := bd_some h
  have fhk1 := Fs_spec_l01Dec hk1
  try simp only [go_sem] at fhk1
  obtain ⟨hk2, h⟩ := ck_some h
  try simp only [go_sem, n1, n2, n3, n4] at hk2
  all_goals
  obtain ⟨y_3, hk3, h⟩ := bd_some h
  have fhk3 := Fs_spec_l03Two hk3
  try simp only [go_sem, hk2] at fhk3
  obtain ⟨hk4, h⟩ := ck_some h
  try simp only [go_sem, n1, n2, n3, n4, hk2] at hk4
  all_goals
  obtain ⟨hk5, h⟩ := ck_some h
  try simp only [go_sem, n1, n2, n3, n4, hk2, hk4] at hk5
  all_goals
  obtain ⟨y_6, hk6, h⟩ := bd_some h
  have fhk6 := Fs_spec_l03Two hk6
  try simp only [go_sem, hk2, hk4, hk5] at fhk6
  obtain ⟨hk7, h⟩ := ck_some h
  try simp only [go_sem, n1, n2, n3, n4, hk2, hk4, hk5] at hk7
  all_goals
  obtain rfl := so_some h
  refine ⟨0, fun L hL => ?_⟩
  simp only [go_sem, ir42, fhk1, hk2, fhk3, hk4, hk5, fhk6, hk7]


def ir44_v : List Nat := [0, 1, 4, 5, 6, 8]
def ir44 : AFn := ⟨2, 6, .seq (.region false [
    ⟨.var 2, 4, none, .mov (.c (.str []))⟩])
 (.seq (.seq (.region false [
     ⟨.push, 7, none, .mov (.v 0)⟩,
     ⟨.var 5, 8, none, .call 61 [(.s 0), (.c (.int .i64 (5)))]⟩])
  (.block 0 (.test false [
     ⟨.push, 10, none, .bin false .eql (.v 5) (.c (.int .i64 (0)))⟩,
     ⟨.push, 9, none, .mov (.s 0)⟩] (.s 0)
   (.seq (.region false [
       ⟨.push, 11, none, .mov (.v 0)⟩,
       ⟨.push, 12, none, .mov (.v 1)⟩,
       ⟨.push, 13, none, .len true (.s 0)⟩,
       ⟨.push, 14, none, .bin false .add (.s 0) (.c (.int .i64 (1)))⟩,
       ⟨.push, 15, none, .call 61 [(.s 3), (.s 0)]⟩,
       ⟨.var 3, 5, none, .mov (.s 0)⟩])
    (.anyo 11 [
      ⟨.slot 0, 16, none, .flat (.mov (.v 1))⟩,
      ⟨.slot 1, 17, none, .flat (.mov (.v 3))⟩,
      ⟨.slot 2, 18, none, .flat (.pur (.slice 0 (.s 0) none (some (.s 1))))⟩,
      ⟨.slot 3, 19, none, .mov (.v 0)⟩,
      ⟨.slot 4, 20, none, .pur (.mkSl 1 (.str []) 7 [(0, (.c (.str [32]))), (1, (.c (.str [48]))), (2, (.c (.str [45]))), (3, (.c (.str [120]))), (4, (.c (.str [49]))), (5, (.c (.str [57]))), (6, (.c (.str [46])))])⟩,
      ⟨.slot 5, 21, none, .call 41 [(.s 3), (.s 4)]⟩,
      ⟨.slot 6, 22, none, .flat (.bin false .add (.s 2) (.s 5))⟩,
      ⟨.slot 7, 23, none, .flat (.mov (.v 1))⟩,
      ⟨.slot 8, 24, none, .flat (.mov (.v 3))⟩,
      ⟨.slot 9, 25, none, .flat (.pur (.slice 0 (.s 7) (some (.s 8)) none))⟩,
      ⟨.slot 10, 26, none, .flat (.bin false .add (.s 6) (.s 9))⟩,
      ⟨.var 1, 1, none, .flat (.mov (.s 10))⟩] [] .skip))
   (.test false [
      ⟨.push, 28, none, .bin false .eql (.v 5) (.c (.int .i64 (1)))⟩,
      ⟨.push, 27, none, .mov (.s 0)⟩] (.s 0)
    (.test false [
       ⟨.push, 29, none, .mov (.v 1)⟩,
       ⟨.push, 30, none, .bin false .neq (.s 0) (.c (.str []))⟩] (.s 0)
     (.seq (.region false [
         ⟨.push, 31, none, .mov (.v 0)⟩,
         ⟨.push, 32, none, .mov (.v 1)⟩,
         ⟨.push, 33, none, .len true (.s 0)⟩,
         ⟨.push, 34, none, .call 61 [(.s 2), (.s 0)]⟩,
         ⟨.var 4, 6, none, .mov (.s 0)⟩])
      (.anyo 8 [
        ⟨.slot 0, 35, none, .mov (.v 1)⟩,
        ⟨.slot 1, 36, none, .mov (.v 4)⟩,
        ⟨.slot 2, 37, none, .pur (.slice 0 (.s 0) none (some (.s 1)))⟩,
        ⟨.slot 3, 38, none, .mov (.v 1)⟩,
        ⟨.slot 4, 39, none, .mov (.v 4)⟩,
        ⟨.slot 5, 40, none, .bin false .add (.s 4) (.c (.int .i64 (1)))⟩,
        ⟨.slot 6, 41, none, .pur (.slice 0 (.s 3) (some (.s 5)) none)⟩,
        ⟨.slot 7, 42, none, .bin false .add (.s 2) (.s 6)⟩,
        ⟨.var 1, 1, none, .mov (.s 7)⟩] [] .skip))
     (.skip))
    (.skip)))))
 (.seq (.region false [
    ⟨.push, 43, none, .mov (.v 1)⟩,
    ⟨.var 2, 4, none, .mov (.s 0)⟩])
 (.ret))), [.t 2]⟩
noncomputable def t_spec_l01Spoil : List (Nat × Ctr) := [(61, c_spec_l00Src_pick), (41, c_spec_l00Src_text)]
theorem lk_spec_l01Spoil_61 : look t_spec_l01Spoil 61 = some c_spec_l00Src_pick := rfl
theorem lk_spec_l01Spoil_41 : look t_spec_l01Spoil 41 = some c_spec_l00Src_text := rfl
noncomputable def c_spec_l01Spoil : Ctr := mkN t_spec_l01Spoil ir44 [.io, .bor]
theorem s_spec_l01Spoil : Sound Tryd.prog 44 c_spec_l01Spoil := mkN_sound _ (snd_cons s_spec_l00Src_pick (snd_cons s_spec_l00Src_text snd_nil)) (by kernel_rfl : chkFn Tryd.prog 44 ir44 ir44_v = true)
theorem M_spec_l01Spoil : c_spec_l01Spoil.modes = [.io, .bor] := rfl
theorem Fl_spec_l01Spoil : c_spec_l01Spoil.flat = false := rfl
attribute [go_sem] M_spec_l01Spoil Fl_spec_l01Spoil
attribute [go_sem] lk_spec_l01Spoil_61 lk_spec_l01Spoil_41
theorem Fs_spec_l01Spoil {s_ : L00Src} {t : List UInt8} {y_ : (List UInt8) × L00Src} (h : spec_l01Spoil s_ t = some y_) : c_spec_l01Spoil.F [.mem 3 [L00Src_av s_], .str t] = ⟨true, .str y_.1, [.mem 3 [L00Src_av y_.2], .any]⟩ := by
  refine mkN_E ?_
  dsimp only [spec_l01Spoil] at h
  obtain ⟨y_1, hk1, h⟩ := bd_some h
  have fhk1 := Fs_spec_l00Src_pick hk1
  try simp only [go_sem] at fhk1
  rcases it_some h with ⟨hk2, h⟩ | ⟨hk2, h⟩
  · try simp only [go_sem, n1, n2, n3, n4] at hk2
    all_goals
    obtain ⟨y_3, hk3, h⟩ := bd_some h
    have fhk3 := Fs_spec_l00Src_pick hk3
    try simp only [go_sem, hk2] at fhk3
    obtain ⟨hk4, h⟩ := ck_some h
    try simp only [go_sem, n1, n2, n3, n4, hk2] at hk4
    all_goals
    obtain ⟨y_5, hk5, h⟩ := bd_some h
    have fhk5 := Fs_spec_l00Src_text hk5
    try simp only [go_sem, hk2, hk4] at fhk5
    obtain ⟨hk6, h⟩ := ck_some h
    try simp only [go_sem, n1, n2, n3, n4, hk2, hk4] at hk6
    all_goals
    obtain ⟨hk7, h⟩ := ck_some h
    try simp only [go_sem, n1, n2, n3, n4, hk2, hk4, hk6] at hk7
    all_goals
    obtain ⟨hk8, h⟩ := ck_some h
    try simp only [go_sem, n1, n2, n3, n4, hk2, hk4, hk6, hk7] at hk8
    all_goals
    obtain rfl := so_some h
    refine ⟨0, fun L hL => ?_⟩
    simp only [go_sem, ir44, fhk1, hk2, fhk3, hk4, fhk5, hk6, hk7, hk8]
  · try simp only [go_sem, n1, n2, n3, n4] at hk2
    all_goals
    rcases it_some h with ⟨hk9, h⟩ | ⟨hk9, h⟩
    · try simp only [go_sem, n1, n2, n3, n4, hk2] at hk9
      all_goals
      rcases it_some h with ⟨hk10, h⟩ | ⟨hk10, h⟩
      · try simp only [go_sem, n1, n2, n3, n4, hk2, hk9] at hk10
        all_goals
        obtain ⟨y_11, hk11, h⟩ := bd_some h
        have fhk11 := Fs_spec_l00Src_pick hk11
        try simp only [go_sem, hk2, hk9, hk10] at fhk11
        obtain ⟨hk12, h⟩ := ck_some h
        try simp only [go_sem, n1, n2, n3, n4, hk2, hk9, hk10] at hk12
        all_goals
        obtain ⟨hk13, h⟩ := ck_some h
        try simp only [go_sem, n1, n2, n3, n4, hk2, hk9, hk10, hk12] at hk13
        all_goals
        obtain ⟨hk14, h⟩ := ck_some h
        try simp only [go_sem, n1, n2, n3, n4, hk2, hk9, hk10, hk12, hk13] at hk14
        all_goals
        obtain rfl := so_some h
        refine ⟨0, fun L hL => ?_⟩
        simp only [go_sem, ir44, fhk1, hk2, hk9, hk10, fhk11, hk12, hk13, hk14]
      · try simp only [go_sem, n1, n2, n3, n4, hk2, hk9] at hk10
        all_goals
        obtain rfl := so_some h
        refine ⟨0, fun L hL => ?_⟩
        simp only [go_sem, ir44, fhk1, hk2, hk9, hk10]
    · try simp only [go_sem, n1, n2, n3, n4, hk2] at hk9
      all_goals
      obtain rfl := so_some h
      refine ⟨0, fun L hL => ?_⟩
      simp only [go_sem, ir44, fhk1, hk2, hk9]


def ir18_v : List Nat := [0, 2, 3, 4, 5]
def ir18 : AFn := ⟨1, 5, .seq (.region false [
    ⟨.var 1, 2, none, .mov (.c (.str []))⟩])
 (.seq (.region false [
    ⟨.push, 6, none, .mov (.v 0)⟩,
    ⟨.push, 7, none, .call 29 [(.s 0)]⟩,
    ⟨.var 2, 3, none, .mov (.s 0)⟩])
 (.seq (.region false [
    ⟨.push, 8, none, .mov (.v 2)⟩,
    ⟨.push, 9, none, .call 36 [(.s 0)]⟩,
    ⟨.var 3, 4, none, .alloc (.agg [.int .i64 (0), .int .i64 (0), .int .i64 (0)])⟩,
    ⟨.no, 0, none, .store 3 (.v 3) (.s 0)⟩])
 (.seq (.test false [
    ⟨.push, 10, none, .load true 3 (.v 3)⟩,
    ⟨.push, 11, none, .call 22 [(.s 0)]⟩,
    ⟨.push, 12, none, .un .not (.s 0)⟩] (.s 0)
  (.seq (.region false [
      ⟨.push, 13, none, .mov (.v 2)⟩,
      ⟨.push, 14, none, .mkSl 1 (.str []) 6 [(0, (.c (.str []))), (1, (.c (.str [50, 48, 48, 49, 45, 49, 45, 49]))), (2, (.c (.str [50, 48, 48, 49, 45, 48, 50, 45, 50, 57]))), (3, (.c (.str [50, 48, 48, 49, 45, 49, 51, 45, 48, 49]))), (4, (.c (.str [50, 48, 48, 48, 45, 49, 50, 45, 51, 49]))), (5, (.c (.str [50, 48, 48, 49, 47, 48, 49, 47, 48, 49])))]⟩,
      ⟨.push, 15, none, .call 41 [(.s 1), (.s 0)]⟩,
      ⟨.var 1, 2, none, .mov (.s 0)⟩])
   (.ret))
  (.skip))
 (.seq (.region false [
    ⟨.push, 16, none, .load true 3 (.v 3)⟩,
    ⟨.push, 17, none, .call 42 [(.s 0)]⟩,
    ⟨.var 4, 5, none, .mov (.s 0)⟩])
 (.seq (.test false [
    ⟨.push, 18, none, .mov (.v 2)⟩,
    ⟨.push, 19, none, .call 43 [(.s 0), (.c (.int .i64 (3)))]⟩] (.s 0)
  (.seq (.region false [
      ⟨.push, 20, none, .mov (.v 2)⟩,
      ⟨.push, 21, none, .mov (.v 4)⟩,
      ⟨.push, 22, none, .call 44 [(.s 1), (.s 0)]⟩,
      ⟨.var 1, 2, none, .mov (.s 0)⟩])
   (.ret))
  (.skip))
 (.seq (.region false [
    ⟨.push, 23, none, .mov (.v 4)⟩,
    ⟨.var 1, 2, none, .mov (.s 0)⟩])
 (.ret))))))), [.t 1]⟩
noncomputable def t_spec_DrawReadDate : List (Nat × Ctr) := [(29, c_spec_l00From), (36, c_spec_l03Bent), (22, c_spec_ValidDate), (41, c_spec_l00Src_text), (42, c_spec_l03Text), (43, c_spec_l00Src_one), (44, c_spec_l01Spoil)]
theorem lk_spec_DrawReadDate_29 : look t_spec_DrawReadDate 29 = some c_spec_l00From := rfl
theorem lk_spec_DrawReadDate_36 : look t_spec_DrawReadDate 36 = some c_spec_l03Bent := rfl
theorem lk_spec_DrawReadDate_22 : look t_spec_DrawReadDate 22 = some c_spec_ValidDate := rfl
theorem lk_spec_DrawReadDate_41 : look t_spec_DrawReadDate 41 = some c_spec_l00Src_text := rfl
theorem lk_spec_DrawReadDate_42 : look t_spec_DrawReadDate 42 = some c_spec_l03Text := rfl
theorem lk_spec_DrawReadDate_43 : look t_spec_DrawReadDate 43 = some c_spec_l00Src_one := rfl
theorem lk_spec_DrawReadDate_44 : look t_spec_DrawReadDate 44 = some c_spec_l01Spoil := rfl
noncomputable def c_spec_DrawReadDate : Ctr := mkF t_spec_DrawReadDate ir18 [.bor]
theorem s_spec_DrawReadDate : Sound Tryd.prog 18 c_spec_DrawReadDate := mkF_sound _ rfl (snd_cons s_spec_l00From (snd_cons s_spec_l03Bent (snd_cons s_spec_ValidDate (snd_cons s_spec_l00Src_text (snd_cons s_spec_l03Text (snd_cons s_spec_l00Src_one (snd_cons s_spec_l01Spoil snd_nil))))))) (by kernel_rfl : chkFn Tryd.prog 18 ir18 ir18_v = true)
theorem M_spec_DrawReadDate : c_spec_DrawReadDate.modes = [.bor] := rfl
theorem Fl_spec_DrawReadDate : c_spec_DrawReadDate.flat = true := rfl
attribute [go_sem] M_spec_DrawReadDate Fl_spec_DrawReadDate
attribute [go_sem] lk_spec_DrawReadDate_29 lk_spec_DrawReadDate_36 lk_spec_DrawReadDate_22 lk_spec_DrawReadDate_41 lk_spec_DrawReadDate_42 lk_spec_DrawReadDate_43 lk_spec_DrawReadDate_44
theorem Fs_spec_DrawReadDate {code : List UInt8} {y_ : (List UInt8)} (h : spec_DrawReadDate code = some y_) : c_spec_DrawReadDate.F [.sl 1 (List.map byteAV code)] = ⟨true, .str y_, [.any]⟩ := by
  refine mkF_E rfl ?_
  dsimp only [spec_DrawReadDate] at h
  obtain ⟨y_1, hk1, h⟩ := bd_some h
  have fhk1 := Fs_spec_l00From hk1
  try simp only [go_sem] at fhk1
  obtain ⟨y_2, hk2, h⟩ := bd_some h
  have fhk2 := Fs_spec_l03Bent hk2
  try simp only [go_sem] at fhk2
  obtain ⟨y_3, hk3, h⟩ := bd_some h
  have fhk3 := Fs_spec_ValidDate hk3
  try simp only [go_sem] at fhk3
  rcases it_some h with ⟨hk4, h⟩ | ⟨hk4, h⟩
  · try simp only [go_sem, n1, n2, n3, n4] at hk4
    all_goals
    obtain ⟨y_5, hk5, h⟩ := bd_some h
    have fhk5 := Fs_spec_l00Src_text hk5
    try simp only [go_sem, hk4] at fhk5
    obtain rfl := so_some h
    refine ⟨0, fun L hL => ?_⟩
    simp only [go_sem, ir18, fhk1, fhk2, fhk3, hk4, fhk5]
  · try simp only [go_sem, n1, n2, n3, n4] at hk4
    all_goals
    obtain ⟨y_6, hk6, h⟩ := bd_some h
    have fhk6 := Fs_spec_l03Text hk6
    try simp only [go_sem, hk4] at fhk6
    obtain ⟨y_7, hk7, h⟩ := bd_some h
    have fhk7 := Fs_spec_l00Src_one hk7
    try simp only [go_sem, hk4] at fhk7
    rcases it_some h with ⟨hk8, h⟩ | ⟨hk8, h⟩
    · try simp only [go_sem, n1, n2, n3, n4, hk4] at hk8
      all_goals
      obtain ⟨y_9, hk9, h⟩ := bd_some h
      have fhk9 := Fs_spec_l01Spoil hk9
      try simp only [go_sem, hk4, hk8] at fhk9
      obtain rfl := so_some h
      refine ⟨0, fun L hL => ?_⟩
      simp only [go_sem, ir18, fhk1, fhk2, fhk3, hk4, fhk6, fhk7, hk8, fhk9]
    · try simp only [go_sem, n1, n2, n3, n4, hk4] at hk8
      all_goals
      obtain rfl := so_some h
      refine ⟨0, fun L hL => ?_⟩
      simp only [go_sem, ir18, fhk1, fhk2, fhk3, hk4, fhk6, fhk7, hk8]


def ir67_v : List Nat := [0, 2]
def ir67 : AFn := ⟨1, 2, .seq (.region false [
    ⟨.var 1, 2, none, .mov (.c (.bool false))⟩])
 (.seq (.region false [
    ⟨.push, 3, none, .mov (.v 0)⟩,
    ⟨.push, 4, none, .bin false .geq (.s 0) (.c (.int .u8 (48)))⟩,
    ⟨.push, 5, none, .mov (.s 0)⟩,
    ⟨.push, 6, (some ((.s 0), true)), .mov (.v 0)⟩,
    ⟨.push, 7, (some ((.s 1), true)), .bin false .leq (.s 0) (.c (.int .u8 (57)))⟩,
    ⟨.push, 8, none, .pick (.s 2) (.s 0) (.c (.bool false))⟩,
    ⟨.var 1, 2, none, .mov (.s 0)⟩])
 (.ret)), [.t 1]⟩
noncomputable def t_spec_l01Digit : List (Nat × Ctr) := []
noncomputable def c_spec_l01Digit : Ctr := mkF t_spec_l01Digit ir67 [.bor]
theorem s_spec_l01Digit : Sound Tryd.prog 67 c_spec_l01Digit := mkF_sound _ rfl snd_nil (by kernel_rfl : chkFn Tryd.prog 67 ir67 ir67_v = true)
theorem M_spec_l01Digit : c_spec_l01Digit.modes = [.bor] := rfl
theorem Fl_spec_l01Digit : c_spec_l01Digit.flat = true := rfl
attribute [go_sem] M_spec_l01Digit Fl_spec_l01Digit
theorem Fs_spec_l01Digit {c : UInt8} {y_ : Bool} (h : spec_l01Digit c = some y_) : c_spec_l01Digit.F [.int .u8 (c.toNat : Int)] = ⟨true, .bool y_, [.any]⟩ := by
  refine mkF_E rfl ?_
  dsimp only [spec_l01Digit] at h
  obtain rfl := so_some h
  refine ⟨0, fun L hL => ?_⟩
  simp only [go_sem, ir67]


def ir45_b0 : IR := .seq (.test false [
    ⟨.push, 6, none, .mov (.v 4)⟩,
    ⟨.push, 7, none, .mov (.v 0)⟩,
    ⟨.push, 8, none, .len true (.s 0)⟩,
    ⟨.push, 9, none, .bin false .lss (.s 2) (.s 0)⟩] (.s 0)
  (.skip)
  (.exit 0))
 (.seq (.block 1 (.seq (.test false [
      ⟨.push, 12, none, .mov (.v 0)⟩,
      ⟨.push, 13, none, .mov (.v 4)⟩,
      ⟨.push, 14, none, .ixStr (.s 1) (.s 0)⟩,
      ⟨.push, 15, none, .call 67 [(.s 0)]⟩,
      ⟨.push, 16, none, .un .not (.s 0)⟩] (.s 0)
    (.seq (.region false [
        ⟨.var 1, 2, none, .mov (.c (.int .i64 (0)))⟩,
        ⟨.var 2, 3, none, .mov (.c (.bool false))⟩])
     (.ret))
    (.skip))
   (.region false [
     ⟨.push, 17, none, .mov (.v 3)⟩,
     ⟨.push, 18, none, .bin false .mul (.c (.int .i64 (10))) (.s 0)⟩,
     ⟨.push, 19, none, .mov (.v 0)⟩,
     ⟨.push, 20, none, .mov (.v 4)⟩,
     ⟨.push, 21, none, .ixStr (.s 1) (.s 0)⟩,
     ⟨.push, 22, none, .bin false .sub (.s 0) (.c (.int .u8 (48)))⟩,
     ⟨.push, 23, none, .conv .i64 (.s 0)⟩,
     ⟨.push, 24, none, .bin false .add (.s 5) (.s 0)⟩,
     ⟨.var 3, 4, none, .mov (.s 0)⟩])))
 (.region false [
   ⟨.push, 10, none, .mov (.v 4)⟩,
   ⟨.push, 11, none, .bin false .add (.s 0) (.c (.int .i64 (1)))⟩,
   ⟨.var 4, 5, none, .mov (.s 0)⟩]))
def ir45_k0 : List Bool := [true, false, false, true, true]
def ir45_o0 : List Bool := [false, false, false, true, false]
def ir45_r0 : List Bool := [false, true, true, false, false]
def ir45_v : List Nat := [0, 2, 3, 4, 5]
def ir45 : AFn := ⟨1, 5, .seq (.region false [
    ⟨.var 1, 2, none, .mov (.c (.int .i64 (0)))⟩,
    ⟨.var 2, 3, none, .mov (.c (.bool false))⟩])
 (.seq (.region false [
    ⟨.var 3, 4, none, .mov (.c (.int .i64 (0)))⟩])
 (.seq (.seq (.region false [
     ⟨.var 4, 5, none, .mov (.c (.int .i64 (0)))⟩])
  (.block 0 (.loop ir45_k0 ir45_o0 ir45_r0 ir45_b0)))
 (.seq (.region false [
    ⟨.push, 25, none, .mov (.v 3)⟩,
    ⟨.var 1, 2, none, .mov (.s 0)⟩,
    ⟨.var 2, 3, none, .mov (.c (.bool true))⟩])
 (.ret)))), [.t 1, .t 2]⟩
noncomputable def t_spec_l03Digits : List (Nat × Ctr) := [(67, c_spec_l01Digit)]
theorem lk_spec_l03Digits_67 : look t_spec_l03Digits 67 = some c_spec_l01Digit := rfl
noncomputable def c_spec_l03Digits : Ctr := mkF t_spec_l03Digits ir45 [.bor]
theorem s_spec_l03Digits : Sound Tryd.prog 45 c_spec_l03Digits := mkF_sound _ rfl (snd_cons s_spec_l01Digit snd_nil) (by kernel_rfl : chkFn Tryd.prog 45 ir45 ir45_v = true)
theorem M_spec_l03Digits : c_spec_l03Digits.modes = [.bor] := rfl
theorem Fl_spec_l03Digits : c_spec_l03Digits.flat = true := rfl
attribute [go_sem] M_spec_l03Digits Fl_spec_l03Digits
attribute [go_sem] lk_spec_l03Digits_67
def E_spec_l03Digits_l1 (s_ : List UInt8) : (Int × Int) → St
  | (n, i) => ⟨[.str s_, .any, .any, .int .i64 n, .int .i64 i], [], [], true⟩
def R_spec_l03Digits_l1 (s_ : List UInt8) : (Int ⊕ (Int × Bool)) → Res
  | .inl y => (.exit 0, ⟨[.any, .any, .any, .int .i64 y, .any], [], [], true⟩)
  | .inr y => (.ret, ⟨[.any, .int .i64 y.1, .bool y.2, .any, .any], [], [], true⟩)
theorem spec_l03Digits_l1_ex {s_ : List UInt8} {sgm_ : Int × Int} {rho_ : Int ⊕ (Int × Bool)} (h : whileE (spec_l03Digits_l1 s_) sgm_ = some rho_) : ∃ L0, ∀ L, L0 ≤ L → iter (exec (look t_spec_l03Digits) L ir45_b0) ir45_k0 ir45_o0 ir45_r0 L (E_spec_l03Digits_l1 s_ sgm_) = R_spec_l03Digits_l1 s_ rho_ := by
  refine loop_ex (E := E_spec_l03Digits_l1 s_) (R := R_spec_l03Digits_l1 s_) (fun y => by first | (intro c; cases c) | (rcases y with y | y <;> (intro c; cases c)) | (rcases y with y | y | y <;> (intro c; cases c))) ?_ h
  clear h
  rintro ⟨n, i⟩ o_ h
  dsimp only [spec_l03Digits_l1] at h
  rcases it_some h with ⟨hk1, h⟩ | ⟨hk1, h⟩
  · try simp only [go_sem, n1, n2, n3, n4] at hk1
    all_goals
    obtain ⟨hk2, h⟩ := ck_some h
    try simp only [go_sem, n1, n2, n3, n4, hk1] at hk2
    all_goals
    obtain ⟨y_3, hk3, h⟩ := bd_some h
    have fhk3 := Fs_spec_l01Digit hk3
    try simp only [go_sem, hk1, hk2] at fhk3
    rcases it_some h with ⟨hk4, h⟩ | ⟨hk4, h⟩
    · try simp only [go_sem, n1, n2, n3, n4, hk1, hk2] at hk4
      all_goals
      obtain rfl := so_some h
      refine ⟨0, fun L hL => ?_⟩
      simp only [go_sem, ir45, E_spec_l03Digits_l1, R_spec_l03Digits_l1, ir45_b0, ir45_k0, ir45_o0, ir45_r0, hk1, hk2, fhk3, hk4]
    · try simp only [go_sem, n1, n2, n3, n4, hk1, hk2] at hk4
      all_goals
      obtain rfl := so_some h
      refine ⟨0, fun L hL => ?_⟩
      simp only [go_sem, ir45, E_spec_l03Digits_l1, R_spec_l03Digits_l1, ir45_b0, ir45_k0, ir45_o0, ir45_r0, hk1, hk2, fhk3, hk4]
  · try simp only [go_sem, n1, n2, n3, n4] at hk1
    all_goals
    obtain rfl := so_some h
    refine ⟨0, fun L hL => ?_⟩
    simp only [go_sem, ir45, E_spec_l03Digits_l1, R_spec_l03Digits_l1, ir45_b0, ir45_k0, ir45_o0, ir45_r0, hk1]

theorem Fs_spec_l03Digits {s_ : List UInt8} {y_ : Int × Bool} (h : spec_l03Digits s_ = some y_) : c_spec_l03Digits.F [.str s_] = ⟨true, .tup [.int .i64 y_.1, .bool y_.2], [.any]⟩ := by
  refine mkF_E rfl ?_
  dsimp only [spec_l03Digits] at h
  obtain ⟨y_5, hk5, h⟩ := bd_some h
  obtain ⟨Lhk5, ehk5⟩ := spec_l03Digits_l1_ex hk5
  rcases y_5 with y_5a | y_5b
  · dsimp only at h
    obtain rfl := so_some h
    refine ⟨Lhk5, fun L hL => ?_⟩
    have ehk5 := ehk5 L (by omega)
    try simp only [go_sem, E_spec_l03Digits_l1, R_spec_l03Digits_l1, ir45_k0, ir45_o0, ir45_r0] at ehk5
    simp only [go_sem, ir45, E_spec_l03Digits_l1, R_spec_l03Digits_l1, ir45_k0, ir45_o0, ir45_r0, ehk5]
  · dsimp only at h
    obtain rfl := so_some h
    refine ⟨Lhk5, fun L hL => ?_⟩
    have ehk5 := ehk5 L (by omega)
    try simp only [go_sem, E_spec_l03Digits_l1, R_spec_l03Digits_l1, ir45_k0, ir45_o0, ir45_r0] at ehk5
    simp only [go_sem, ir45, E_spec_l03Digits_l1, R_spec_l03Digits_l1, ir45_k0, ir45_o0, ir45_r0, ehk5]


def ir19_v : List Nat := [0, 2, 3, 4, 5, 6, 7, 8, 9, 10]
def ir19 : AFn := ⟨1, 10, .seq (.region false [
    ⟨.var 1, 2, none, .alloc (.agg [.int .i64 (0), .int .i64 (0), .int .i64 (0)])⟩,
    ⟨.var 2, 3, none, .mov (.c (.bool false))⟩])
 (.seq (.test false [
    ⟨.push, 11, none, .mov (.v 0)⟩,
    ⟨.push, 12, none, .len true (.s 0)⟩,
    ⟨.push, 13, none, .bin false .neq (.s 0) (.c (.int .i64 (10)))⟩,
    ⟨.push, 14, none, .mov (.s 0)⟩,
    ⟨.push, 15, (some ((.s 0), false)), .mov (.v 0)⟩,
    ⟨.push, 16, (some ((.s 1), false)), .ixStr (.s 0) (.c (.int .i64 (4)))⟩,
    ⟨.push, 17, (some ((.s 2), false)), .bin false .neq (.s 0) (.c (.int .u8 (45)))⟩,
    ⟨.push, 18, none, .pick (.s 3) (.c (.bool true)) (.s 0)⟩,
    ⟨.push, 19, none, .mov (.s 0)⟩,
    ⟨.push, 20, (some ((.s 0), false)), .mov (.v 0)⟩,
    ⟨.push, 21, (some ((.s 1), false)), .ixStr (.s 0) (.c (.int .i64 (7)))⟩,
    ⟨.push, 22, (some ((.s 2), false)), .bin false .neq (.s 0) (.c (.int .u8 (45)))⟩,
    ⟨.push, 23, none, .pick (.s 3) (.c (.bool true)) (.s 0)⟩] (.s 0)
  (.seq (.region false [
      ⟨.push, 24, none, .build [.int .i64 (0), .int .i64 (0), .int .i64 (0)] []⟩,
      ⟨.no, 0, none, .store 3 (.v 1) (.s 0)⟩,
      ⟨.var 2, 3, none, .mov (.c (.bool false))⟩])
   (.ret))
  (.skip))
 (.seq (.region false [
    ⟨.push, 26, none, .mov (.v 0)⟩,
    ⟨.push, 27, none, .slice 0 (.s 0) none (some (.c (.int .i64 (4))))⟩,
    ⟨.push, 28, none, .call 45 [(.s 0)]⟩,
    ⟨.push, 25, none, .mov (.s 0)⟩,
    ⟨.push, 29, none, .ext (.s 0) 0⟩,
    ⟨.push, 30, none, .ext (.s 1) 1⟩,
    ⟨.var 3, 4, none, .mov (.s 1)⟩,
    ⟨.var 4, 5, none, .mov (.s 0)⟩])
 (.seq (.region false [
    ⟨.push, 32, none, .mov (.v 0)⟩,
    ⟨.push, 33, none, .slice 0 (.s 0) (some (.c (.int .i64 (5)))) (some (.c (.int .i64 (7))))⟩,
    ⟨.push, 34, none, .call 45 [(.s 0)]⟩,
    ⟨.push, 31, none, .mov (.s 0)⟩,
    ⟨.push, 35, none, .ext (.s 0) 0⟩,
    ⟨.push, 36, none, .ext (.s 1) 1⟩,
    ⟨.var 5, 6, none, .mov (.s 1)⟩,
    ⟨.var 6, 7, none, .mov (.s 0)⟩])
 (.seq (.region false [
    ⟨.push, 38, none, .mov (.v 0)⟩,
    ⟨.push, 39, none, .slice 0 (.s 0) (some (.c (.int .i64 (8)))) none⟩,
    ⟨.push, 40, none, .call 45 [(.s 0)]⟩,
    ⟨.push, 37, none, .mov (.s 0)⟩,
    ⟨.push, 41, none, .ext (.s 0) 0⟩,
    ⟨.push, 42, none, .ext (.s 1) 1⟩,
    ⟨.var 7, 8, none, .mov (.s 1)⟩,
    ⟨.var 8, 9, none, .mov (.s 0)⟩])
 (.seq (.region false [
    ⟨.push, 43, none, .mov (.v 3)⟩,
    ⟨.push, 44, none, .mov (.v 5)⟩,
    ⟨.push, 45, none, .mov (.v 7)⟩,
    ⟨.push, 46, none, .build [.int .i64 (0), .int .i64 (0), .int .i64 (0)] [(0, 1, (.s 2)), (1, 1, (.s 1)), (2, 1, (.s 0))]⟩,
    ⟨.var 9, 10, none, .alloc (.agg [.int .i64 (0), .int .i64 (0), .int .i64 (0)])⟩,
    ⟨.no, 0, none, .store 3 (.v 9) (.s 0)⟩])
 (.seq (.test false [
    ⟨.push, 47, none, .mov (.v 4)⟩,
    ⟨.push, 48, none, .un .not (.s 0)⟩,
    ⟨.push, 49, none, .mov (.s 0)⟩,
    ⟨.push, 50, (some ((.s 0), false)), .mov (.v 6)⟩,
    ⟨.push, 51, (some ((.s 1), false)), .un .not (.s 0)⟩,
    ⟨.push, 52, none, .pick (.s 2) (.c (.bool true)) (.s 0)⟩,
    ⟨.push, 53, none, .mov (.s 0)⟩,
    ⟨.push, 54, (some ((.s 0), false)), .mov (.v 8)⟩,
    ⟨.push, 55, (some ((.s 1), false)), .un .not (.s 0)⟩,
    ⟨.push, 56, none, .pick (.s 2) (.c (.bool true)) (.s 0)⟩,
    ⟨.push, 57, none, .mov (.s 0)⟩,
    ⟨.push, 58, (some ((.s 0), false)), .load true 3 (.v 9)⟩,
    ⟨.push, 59, (some ((.s 1), false)), .call 22 [(.s 0)]⟩,
    ⟨.push, 60, (some ((.s 2), false)), .un .not (.s 0)⟩,
    ⟨.push, 61, none, .pick (.s 3) (.c (.bool true)) (.s 0)⟩] (.s 0)
  (.seq (.region false [
      ⟨.push, 62, none, .build [.int .i64 (0), .int .i64 (0), .int .i64 (0)] []⟩,
      ⟨.no, 0, none, .store 3 (.v 1) (.s 0)⟩,
      ⟨.var 2, 3, none, .mov (.c (.bool false))⟩])
   (.ret))
  (.skip))
 (.seq (.region false [
    ⟨.push, 63, none, .load true 3 (.v 9)⟩,
    ⟨.no, 0, none, .store 3 (.v 1) (.s 0)⟩,
    ⟨.var 2, 3, none, .mov (.c (.bool true))⟩])
 (.ret)))))))), [.cell true 3 1, .t 2]⟩
noncomputable def t_spec_ReadDate : List (Nat × Ctr) := [(45, c_spec_l03Digits), (22, c_spec_ValidDate)]
theorem lk_spec_ReadDate_45 : look t_spec_ReadDate 45 = some c_spec_l03Digits := rfl
theorem lk_spec_ReadDate_22 : look t_spec_ReadDate 22 = some c_spec_ValidDate := rfl
noncomputable def c_spec_ReadDate : Ctr := mkN t_spec_ReadDate ir19 [.bor]
theorem s_spec_ReadDate : Sound Tryd.prog 19 c_spec_ReadDate := mkN_sound _ (snd_cons s_spec_l03Digits (snd_cons s_spec_ValidDate snd_nil)) (by kernel_rfl : chkFn Tryd.prog 19 ir19 ir19_v = true)
theorem M_spec_ReadDate : c_spec_ReadDate.modes = [.bor] := rfl
theorem Fl_spec_ReadDate : c_spec_ReadDate.flat = false := rfl
attribute [go_sem] M_spec_ReadDate Fl_spec_ReadDate
attribute [go_sem] lk_spec_ReadDate_45 lk_spec_ReadDate_22
theorem Fs_spec_ReadDate {s_ : List UInt8} {y_ : Date × Bool} (h : spec_ReadDate s_ = some y_) : c_spec_ReadDate.F [.str s_] = ⟨true, .tup [Date_av y_.1, .bool y_.2], [.any]⟩ := by
  refine mkN_E ?_
  dsimp only [spec_ReadDate] at h
  obtain ⟨hk1, h⟩ := ck_some h
  rcases or_split hk1 with ⟨ghk1, hk1⟩ | ghk1
  · try simp only [go_sem, n1, n2, n3, n4] at ghk1
    all_goals
    try simp only [go_sem, n1, n2, n3, n4, ghk1] at hk1
    all_goals
    obtain ⟨hk2, h⟩ := ck_some h
    rcases or_split hk2 with ⟨ghk2, hk2⟩ | ghk2
    · try simp only [go_sem, n1, n2, n3, n4, ghk1, hk1] at ghk2
      all_goals
      try simp only [go_sem, n1, n2, n3, n4, ghk1, hk1, ghk2] at hk2
      all_goals
      rcases it_some h with ⟨hk3, h⟩ | ⟨hk3, h⟩
      · try simp only [go_sem, n1, n2, n3, n4, ghk1, hk1, ghk2, hk2] at hk3
        all_goals
        obtain rfl := so_some h
        refine ⟨0, fun L hL => ?_⟩
        simp only [go_sem, ir19, ghk1, hk1, ghk2, hk2, hk3]
      · try simp only [go_sem, n1, n2, n3, n4, ghk1, hk1, ghk2, hk2] at hk3
        all_goals
        obtain ⟨hk4, h⟩ := ck_some h
        try simp only [go_sem, n1, n2, n3, n4, ghk1, hk1, ghk2, hk2, hk3] at hk4
        all_goals
        obtain ⟨y_5, hk5, h⟩ := bd_some h
        have fhk5 := Fs_spec_l03Digits hk5
        try simp only [go_sem, ghk1, hk1, ghk2, hk2, hk3, hk4] at fhk5
        obtain ⟨hk6, h⟩ := ck_some h
        try simp only [go_sem, n1, n2, n3, n4, ghk1, hk1, ghk2, hk2, hk3, hk4] at hk6
        all_goals
        obtain ⟨y_7, hk7, h⟩ := bd_some h
        have fhk7 := Fs_spec_l03Digits hk7
        try simp only [go_sem, ghk1, hk1, ghk2, hk2, hk3, hk4, hk6] at fhk7
        obtain ⟨hk8, h⟩ := ck_some h
        try simp only [go_sem, n1, n2, n3, n4, ghk1, hk1, ghk2, hk2, hk3, hk4, hk6] at hk8
        all_goals
        obtain ⟨y_9, hk9, h⟩ := bd_some h
        have fhk9 := Fs_spec_l03Digits hk9
        try simp only [go_sem, ghk1, hk1, ghk2, hk2, hk3, hk4, hk6, hk8] at fhk9
        obtain ⟨hk10, h⟩ := ck_some h
        rcases or_split hk10 with ⟨ghk10, hk10⟩ | ghk10
        · try simp only [go_sem, n1, n2, n3, n4, ghk1, hk1, ghk2, hk2, hk3, hk4, hk6, hk8] at ghk10
          all_goals
          obtain ⟨y_10, hhk10⟩ := Option.isSome_iff_exists.1 hk10
          have fhk10 := Fs_spec_ValidDate hhk10
          try simp only [go_sem, n1, n2, n3, n4, ghk1, hk1, ghk2, hk2, hk3, hk4, hk6, hk8, ghk10] at hhk10
          all_goals
          try simp only [go_sem, ghk1, hk1, ghk2, hk2, hk3, hk4, hk6, hk8, ghk10] at fhk10
          rcases it_some h with ⟨hk11, h⟩ | ⟨hk11, h⟩
          · try simp only [go_sem, n1, n2, n3, n4, ghk1, hk1, ghk2, hk2, hk3, hk4, hk6, hk8, ghk10, hhk10] at hk11
            all_goals
            obtain rfl := so_some h
            refine ⟨0, fun L hL => ?_⟩
            simp only [go_sem, ir19, ghk1, hk1, ghk2, hk2, hk3, hk4, fhk5, hk6, fhk7, hk8, fhk9, ghk10, hhk10, fhk10, hk11]
          · try simp only [go_sem, n1, n2, n3, n4, ghk1, hk1, ghk2, hk2, hk3, hk4, hk6, hk8, ghk10, hhk10] at hk11
            all_goals
            obtain rfl := so_some h
            refine ⟨0, fun L hL => ?_⟩
            simp only [go_sem, ir19, ghk1, hk1, ghk2, hk2, hk3, hk4, fhk5, hk6, fhk7, hk8, fhk9, ghk10, hhk10, fhk10, hk11]
        · have ghk10n := no_f ghk10
          rcases or_t ghk10n with ghk10na | ⟨ghk10na, ghk10nb⟩
          · rcases or_t ghk10na with ghk10naa | ⟨ghk10naa, ghk10nab⟩
            · have ghk10naan := no_t ghk10naa
              try simp only [go_sem, n1, n2, n3, n4, ghk1, hk1, ghk2, hk2, hk3, hk4, hk6, hk8] at ghk10naan
              all_goals
              rcases it_some h with ⟨hk11, h⟩ | ⟨hk11, h⟩
              · try simp only [go_sem, n1, n2, n3, n4, ghk1, hk1, ghk2, hk2, hk3, hk4, hk6, hk8, ghk10naan] at hk11
                all_goals
                obtain rfl := so_some h
                refine ⟨0, fun L hL => ?_⟩
                simp only [go_sem, ir19, ghk1, hk1, ghk2, hk2, hk3, hk4, fhk5, hk6, fhk7, hk8, fhk9, ghk10naan, hk11]
              · try simp only [go_sem, n1, n2, n3, n4, ghk1, hk1, ghk2, hk2, hk3, hk4, hk6, hk8, ghk10naan] at hk11
                all_goals
                (simp_all)
            · have ghk10naan := no_f ghk10naa
              have ghk10nabn := no_t ghk10nab
              try simp only [go_sem, n1, n2, n3, n4, ghk1, hk1, ghk2, hk2, hk3, hk4, hk6, hk8] at ghk10naan
              all_goals
              try simp only [go_sem, n1, n2, n3, n4, ghk1, hk1, ghk2, hk2, hk3, hk4, hk6, hk8, ghk10naan] at ghk10nabn
              all_goals
              rcases it_some h with ⟨hk11, h⟩ | ⟨hk11, h⟩
              · try simp only [go_sem, n1, n2, n3, n4, ghk1, hk1, ghk2, hk2, hk3, hk4, hk6, hk8, ghk10naan, ghk10nabn] at hk11
                all_goals
                obtain rfl := so_some h
                refine ⟨0, fun L hL => ?_⟩
                simp only [go_sem, ir19, ghk1, hk1, ghk2, hk2, hk3, hk4, fhk5, hk6, fhk7, hk8, fhk9, ghk10naan, ghk10nabn, hk11]
              · try simp only [go_sem, n1, n2, n3, n4, ghk1, hk1, ghk2, hk2, hk3, hk4, hk6, hk8, ghk10naan, ghk10nabn] at hk11
                all_goals
                (simp_all)
          · obtain ⟨ghk10naa, ghk10nab⟩ := or_f ghk10na
            have ghk10naan := no_f ghk10naa
            have ghk10nabn := no_f ghk10nab
            have ghk10nbn := no_t ghk10nb
            try simp only [go_sem, n1, n2, n3, n4, ghk1, hk1, ghk2, hk2, hk3, hk4, hk6, hk8] at ghk10naan
            all_goals
            try simp only [go_sem, n1, n2, n3, n4, ghk1, hk1, ghk2, hk2, hk3, hk4, hk6, hk8, ghk10naan] at ghk10nabn
            all_goals
            try simp only [go_sem, n1, n2, n3, n4, ghk1, hk1, ghk2, hk2, hk3, hk4, hk6, hk8, ghk10naan, ghk10nabn] at ghk10nbn
            all_goals
            rcases it_some h with ⟨hk11, h⟩ | ⟨hk11, h⟩
            · try simp only [go_sem, n1, n2, n3, n4, ghk1, hk1, ghk2, hk2, hk3, hk4, hk6, hk8, ghk10naan, ghk10nabn, ghk10nbn] at hk11
              all_goals
              obtain rfl := so_some h
              refine ⟨0, fun L hL => ?_⟩
              simp only [go_sem, ir19, ghk1, hk1, ghk2, hk2, hk3, hk4, fhk5, hk6, fhk7, hk8, fhk9, ghk10naan, ghk10nabn, ghk10nbn, hk11]
            · try simp only [go_sem, n1, n2, n3, n4, ghk1, hk1, ghk2, hk2, hk3, hk4, hk6, hk8, ghk10naan, ghk10nabn, ghk10nbn] at hk11
              all_goals
              (simp_all)
    · have ghk2n := no_f ghk2
      rcases or_t ghk2n with ghk2na | ⟨ghk2na, ghk2nb⟩
      · try simp only [go_sem, n1, n2, n3, n4, ghk1, hk1] at ghk2na
        all_goals
        (simp_all)
      · have ghk2nan := no_f ghk2na
        have ghk2nbn := no_t ghk2nb
        try simp only [go_sem, n1, n2, n3, n4, ghk1, hk1] at ghk2nan
        all_goals
        try simp only [go_sem, n1, n2, n3, n4, ghk1, hk1, ghk2nan] at ghk2nbn
        all_goals
        rcases it_some h with ⟨hk3, h⟩ | ⟨hk3, h⟩
        · try simp only [go_sem, n1, n2, n3, n4, ghk1, hk1, ghk2nan, ghk2nbn] at hk3
          all_goals
          obtain rfl := so_some h
          refine ⟨0, fun L hL => ?_⟩
          simp only [go_sem, ir19, ghk1, hk1, ghk2nan, ghk2nbn, hk3]
        · try simp only [go_sem, n1, n2, n3, n4, ghk1, hk1, ghk2nan, ghk2nbn] at hk3
          all_goals
          (simp_all)
  · have ghk1n := no_f ghk1
    have ghk1nn := no_t ghk1n
    try simp only [go_sem, n1, n2, n3, n4] at ghk1nn
    all_goals
    obtain ⟨hk2, h⟩ := ck_some h
    rcases it_some h with ⟨hk3, h⟩ | ⟨hk3, h⟩
    · try simp only [go_sem, n1, n2, n3, n4, ghk1nn] at hk3
      all_goals
      obtain rfl := so_some h
      refine ⟨0, fun L hL => ?_⟩
      simp only [go_sem, ir19, ghk1nn, hk3]
    · try simp only [go_sem, n1, n2, n3, n4, ghk1nn] at hk3
      all_goals
      (simp_all)


def ir20_v : List Nat := [0, 1, 2]
def ir20 : AFn := ⟨1, 3, .seq (.region false [
    ⟨.var 1, 1, none, .box (.v 0)⟩,
    ⟨.var 2, 2, none, .mov (.c (.str []))⟩])
 (.seq (.test false [
    ⟨.push, 3, none, .load true 3 (.v 1)⟩,
    ⟨.push, 4, none, .call 22 [(.s 0)]⟩,
    ⟨.push, 5, none, .un .not (.s 0)⟩] (.s 0)
  (.seq (.region false [
      ⟨.var 2, 2, none, .mov (.c (.str []))⟩])
   (.ret))
  (.skip))
 (.seq (.region false [
    ⟨.push, 6, none, .load true 3 (.v 1)⟩,
    ⟨.push, 7, none, .call 42 [(.s 0)]⟩,
    ⟨.var 2, 2, none, .mov (.s 0)⟩])
 (.ret))), [.t 2]⟩
noncomputable def t_spec_DateText : List (Nat × Ctr) := [(22, c_spec_ValidDate), (42, c_spec_l03Text)]
theorem lk_spec_DateText_22 : look t_spec_DateText 22 = some c_spec_ValidDate := rfl
theorem lk_spec_DateText_42 : look t_spec_DateText 42 = some c_spec_l03Text := rfl
noncomputable def c_spec_DateText : Ctr := mkF t_spec_DateText ir20 [.bor]
theorem s_spec_DateText : Sound Tryd.prog 20 c_spec_DateText := mkF_sound _ rfl (snd_cons s_spec_ValidDate (snd_cons s_spec_l03Text snd_nil)) (by kernel_rfl : chkFn Tryd.prog 20 ir20 ir20_v = true)
theorem M_spec_DateText : c_spec_DateText.modes = [.bor] := rfl
theorem Fl_spec_DateText : c_spec_DateText.flat = true := rfl
attribute [go_sem] M_spec_DateText Fl_spec_DateText
attribute [go_sem] lk_spec_DateText_22 lk_spec_DateText_42
theorem Fs_spec_DateText {d : Date} {y_ : (List UInt8)} (h : spec_DateText d = some y_) : c_spec_DateText.F [Date_av d] = ⟨true, .str y_, [.any]⟩ := by
  refine mkF_E rfl ?_
  dsimp only [spec_DateText] at h
  obtain ⟨y_1, hk1, h⟩ := bd_some h
  have fhk1 := Fs_spec_ValidDate hk1
  try simp only [go_sem] at fhk1
  rcases it_some h with ⟨hk2, h⟩ | ⟨hk2, h⟩
  · try simp only [go_sem, n1, n2, n3, n4] at hk2
    all_goals
    obtain rfl := so_some h
    refine ⟨0, fun L hL => ?_⟩
    simp only [go_sem, ir20, fhk1, hk2]
  · try simp only [go_sem, n1, n2, n3, n4] at hk2
    all_goals
    obtain ⟨y_3, hk3, h⟩ := bd_some h
    have fhk3 := Fs_spec_l03Text hk3
    try simp only [go_sem, hk2] at fhk3
    obtain rfl := so_some h
    refine ⟨0, fun L hL => ?_⟩
    simp only [go_sem, ir20, fhk1, hk2, fhk3]


end Go.Proofs.YtmpmmodbigjdgaaDoor
