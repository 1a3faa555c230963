/- Codes and contracts of the functions that LG reaches, and that their typed forms say what they do. No condition. -/
import Derived.Test.YtlcabohpeopdcaaGreatDoorLGT
import Derived.Test.YtlcabohpeopdcaaGreatDoorEngSCut
import Derived.Test.YtlcabohpeopdcaaGreatDoorEngSF
import Derived.Test.YtlcabohpeopdcaaGreatDoorEngSRd
import Derived.Test.YtlcabohpeopdcaaGreatDoorRows
import Derived.WalkKit
namespace Go.Proofs.YtlcabohpeopdcaaGreatDoor
open Go Go.RowKit
set_option linter.unusedVariables false
set_option linter.unusedSimpArgs false
set_option maxRecDepth 10000

def ir4_v : List Nat := [0, 1, 4]
def ir4 : AFn := ⟨2, 3, .seq (.region false [ VO 2 4 (.mov (.c (.bool false)))]) (.seq (.region false [ PM 5 0, PO 6 (.len false (.s 0)), PO 7 (.bin false .gtr (.s 0) (I6 3000)), PO 8 (.mov (.s 0)), ⟨.push, 9, (some ((.s 0), false)), .mov (.v 1)⟩, ⟨.push, 10, (some ((.s 1), false)), .len false (.s 0)⟩, ⟨.push, 11, (some ((.s 2), false)), .bin false .gtr (.s 0) (I6 3000)⟩, PO 12 (.pick (.s 3) (.c (.bool true)) (.s 0)), VS 2 4 0]) (.ret)), [.t 2]⟩
noncomputable def t_0 : List (Nat × Ctr) := []
noncomputable def c_0 : Ctr := mkF t_0 ir4 [.bor, .bor]
theorem s_0 : Sound Tryz.prog 4 c_0 := mkF_sound _ rfl snd_nil (by kernel_rfl : chkFn Tryz.prog 4 ir4 ir4_v = true)
theorem M_0 : c_0.modes = [.bor, .bor] := rfl
theorem Fl_0 : c_0.flat = true := rfl
attribute [go_sem] M_0 Fl_0
theorem Fs_0 {code : List UInt8} {more : List UInt8} {y_ : Bool} (h : laws_a2Long code more = some y_) : c_0.F [.sl 1 (List.map byteAV code), .sl 1 (List.map byteAV more)] = ⟨true, .bool y_, [.any, .any]⟩ := by
 refine mkF_E rfl ?_
 dsimp only [laws_a2Long] at h
 obtain rfl := so_some h
 refine ⟨0, fun L hL => ?_⟩
 simp only [go_sem, ir4]


def ir14_v : List Nat := [0, 2]
def ir14 : AFn := ⟨1, 2, .seq (.region false [ VO 1 2 (.mov (.c (.cv (.pointer none))))]) (.seq (.region false [ PM 3 0, PO 4 (.build [.sl 1 [], .int .i64 (0), .int .u64 (0)] [(0, 1, (.s 0))]), PO 5 (.box (.s 0)), VS 1 2 0]) (.ret)), [.t 1]⟩
noncomputable def t_1 : List (Nat × Ctr) := []
noncomputable def c_1 : Ctr := mkN t_1 ir14 [.bor]
theorem s_1 : Sound Tryz.prog 14 c_1 := mkN_sound _ snd_nil (by kernel_rfl : chkFn Tryz.prog 14 ir14 ir14_v = true)
theorem M_1 : c_1.modes = [.bor] := rfl
theorem Fl_1 : c_1.flat = false := rfl
attribute [go_sem] M_1 Fl_1
theorem Fs_1 {code : List UInt8} {y_ : L00Src} (h : spec_l00From code = some y_) : c_1.F [.sl 1 (List.map byteAV code)] = ⟨true, .mem 3 [L00Src_av y_] 0, [.any]⟩ := by
 refine mkN_E ?_
 dsimp only [spec_l00From] at h
 obtain rfl := so_some h
 refine ⟨0, fun L hL => ?_⟩
 simp only [go_sem, ir14]


def ir38_v : List Nat := [0, 2, 3]
def ir38 : AFn := ⟨1, 3, .seq (.region false [ VO 1 2 (.mov (I6 0))]) (.seq (.region false [ VO 2 3 (.mov (I6 0))]) (.seq (.anyo 10 [ SO 0 4 (.mov (.v 0)), SO 1 5 (.nilck (.s 0)), SO 2 6 (.fldAddr 1 (.s 1)), SO 3 7 (.load false 1 (.s 2)), SO 4 8 (.mov (.v 0)), SO 5 9 (.nilck (.s 4)), SO 6 10 (.fldAddr 0 (.s 5)), SO 7 11 (.load false 1 (.s 6)), SO 8 12 (.len false (.s 7)), SO 9 13 (.bin false .lss (.s 3) (.s 8))] [] (.cond (.s 9) (.anyo 11 [ SO 0 14 (.mov (.v 0)), SO 1 15 (.nilck (.s 0)), SO 2 16 (.fldAddr 0 (.s 1)), SO 3 17 (.load false 1 (.s 2)), SO 4 18 (.mov (.v 0)), SO 5 19 (.nilck (.s 4)),
 SO 6 20 (.fldAddr 1 (.s 5)), SO 7 21 (.load false 1 (.s 6)), SO 8 22 (.ixAddr 1 (.s 3) (.s 7)), SO 9 23 (.load false 1 (.s 8)), SO 10 24 (.conv .i64 (.s 9)), VS 2 3 10] [] .skip) (.skip))) (.seq (.region false [ PM 25 0, PO 26 (.nilck (.s 0)), PO 27 (.fldAddr 1 (.s 0)), PO 28 (.load false 1 (.s 0)), PO 29 (.bin false .add (.s 0) (I6 1)), PO 30 (.nilck (.s 4)), PO 31 (.fldAddr 1 (.s 0)), ⟨.no, 0, none, .store 1 (.s 0) (.s 2)⟩]) (.seq (.region false [ PM 32 0, PM 33 0, PO 34 (.nilck (.s 0)), PO 35 (.fldAddr 2 (.s 0)), PO 36 (.load false 1 (.s 0)), PO 37 (.bin false .mul (.s 0) (.c (.int .u64
 (6364136223846793005)))), PM 38 2, PO 39 (.conv .u64 (.s 0)), PO 40 (.bin false .add (.s 2) (.s 0)), PO 41 (.bin false .add (.s 0) (.c (.int .u64 (1442695040888963407)))), PO 42 (.nilck (.s 9)), PO 43 (.fldAddr 2 (.s 0)), ⟨.no, 0, none, .store 1 (.s 0) (.s 2)⟩]) (.seq (.anyo 10 [ SO 0 44 (.mov (.v 0)), SO 1 45 (.nilck (.s 0)), SO 2 46 (.fldAddr 1 (.s 1)), SO 3 47 (.load false 1 (.s 2)), SO 4 48 (.mov (.v 0)), SO 5 49 (.nilck (.s 4)), SO 6 50 (.fldAddr 0 (.s 5)), SO 7 51 (.load false 1 (.s 6)), SO 8 52 (.len false (.s 7)), SO 9 53 (.bin false .leq (.s 3) (.s 8))] [] (.cond (.s 9) (.seq (.region
 false [ PM 54 2, VS 1 2 0]) (.ret)) (.skip))) (.seq (.region false [ PM 55 0, PO 56 (.nilck (.s 0)), PO 57 (.fldAddr 2 (.s 0)), PO 58 (.load false 1 (.s 0)), PO 59 (.bin false .shr (.s 0) (.c (.int .u64 (40)))), PO 60 (.bin false .and (.s 0) (.c (.int .u64 (255)))), PO 61 (.conv .i64 (.s 0)), VS 1 2 0]) (.ret))))))), [.t 1]⟩
noncomputable def t_2 : List (Nat × Ctr) := []
noncomputable def c_2 : Ctr := mkN t_2 ir38 [.io]
theorem s_2 : Sound Tryz.prog 38 c_2 := mkN_sound _ snd_nil (by kernel_rfl : chkFn Tryz.prog 38 ir38 ir38_v = true)
theorem M_2 : c_2.modes = [.io] := rfl
theorem Fl_2 : c_2.flat = false := rfl
attribute [go_sem] M_2 Fl_2
theorem Fs_2 {s_ : L00Src} {y_ : Int × L00Src} (h : spec_l00Src_next s_ = some y_) : c_2.F [.mem 3 [L00Src_av s_] 0] = ⟨true, .int .i64 y_.1, [.mem 3 [L00Src_av y_.2] 0]⟩ := by
 refine mkN_E ?_
 dsimp only [spec_l00Src_next] at h
 rcases it_some h with ⟨z1, h⟩ | ⟨z1, h⟩
 ·try simp only [go_sem, n1, n2, n3, n4] at z1
  all_goals
  obtain ⟨z2, h⟩ := ck_some h
  have lz2 := ix_lt z2
  have xz2 := getD_mapD byteAV s_.code_ lz2
  try simp only [go_sem] at lz2
  try simp only [go_sem] at xz2
  try simp only [go_sem, n1, n2, n3, n4, z1] at z2
  all_goals
  rcases it_some h with ⟨z3, h⟩ | ⟨z3, h⟩
  ·try simp only [go_sem, n1, n2, n3, n4, z1, z2] at z3
   all_goals
   obtain rfl := so_some h
   refine ⟨0, fun L hL => ?_⟩
   simp only [go_sem, ir38, z1, z2, lz2, xz2, z3]
  ·try simp only [go_sem, n1, n2, n3, n4, z1, z2] at z3
   all_goals
   obtain ⟨z4, h⟩ := ck_some h
   try simp only [go_sem, n1, n2, n3, n4, z1, z2, z3] at z4
   all_goals
   obtain rfl := so_some h
   refine ⟨0, fun L hL => ?_⟩
   simp only [go_sem, ir38, z1, z2, lz2, xz2, z3, z4]
 ·try simp only [go_sem, n1, n2, n3, n4] at z1
  all_goals
  rcases it_some h with ⟨z5, h⟩ | ⟨z5, h⟩
  ·try simp only [go_sem, n1, n2, n3, n4, z1] at z5
   all_goals
   obtain rfl := so_some h
   refine ⟨0, fun L hL => ?_⟩
   simp only [go_sem, ir38, z1, z5]
  ·try simp only [go_sem, n1, n2, n3, n4, z1] at z5
   all_goals
   obtain ⟨z6, h⟩ := ck_some h
   try simp only [go_sem, n1, n2, n3, n4, z1, z5] at z6
   all_goals
   obtain rfl := so_some h
   refine ⟨0, fun L hL => ?_⟩
   simp only [go_sem, ir38, z1, z5, z6]


def ir26_v : List Nat := [0, 1, 4, 5]
def ir26 : AFn := ⟨2, 4, .seq (.region false [ VO 2 4 (.mov (I6 0))]) (.seq (.test false [ PM 6 1, PO 7 (.bin false .leq (.s 0) (I6 1))] (.s 0) (.seq (.region false [ VO 2 4 (.mov (I6 0))]) (.ret)) (.skip)) (.seq (.region false [ PM 8 0, PO 9 (.call 38 [(.s 0)]), VS 3 5 0]) (.seq (.test false [ PM 10 1, PO 11 (.bin false .gtr (.s 0) (I6 200))] (.s 0) (.region false [ PM 12 3, PO 13 (.bin false .mul (.s 0) (I6 256)), PM 14 0, PO 15 (.call 38 [(.s 0)]), PO 16 (.bin false .add (.s 2) (.s 0)), VS 3 5 0]) (.skip)) (.seq (.region false [ PM 17 3, PM 18 1, PO 19 (.bin false .rem (.s 1) (.s 0)), VS 2 4
 0]) (.ret))))), [.t 2]⟩
noncomputable def t_3 : List (Nat × Ctr) := [(38, c_2)]
theorem lk_3_38 : look t_3 38 = some c_2 := rfl
noncomputable def c_3 : Ctr := mkN t_3 ir26 [.io, .bor]
theorem s_3 : Sound Tryz.prog 26 c_3 := mkN_sound _ (snd_cons s_2 snd_nil) (by kernel_rfl : chkFn Tryz.prog 26 ir26 ir26_v = true)
theorem M_3 : c_3.modes = [.io, .bor] := rfl
theorem Fl_3 : c_3.flat = false := rfl
attribute [go_sem] M_3 Fl_3
attribute [go_sem] lk_3_38
theorem Fs_3 {s_ : L00Src} {n : Int} {y_ : Int × L00Src} (h : spec_l00Src_pick s_ n = some y_) : c_3.F [.mem 3 [L00Src_av s_] 0, .int .i64 n] = ⟨true, .int .i64 y_.1, [.mem 3 [L00Src_av y_.2] 0, .any]⟩ := by
 refine mkN_E ?_
 dsimp only [spec_l00Src_pick] at h
 rcases it_some h with ⟨z1, h⟩ | ⟨z1, h⟩
 ·try simp only [go_sem, n1, n2, n3, n4] at z1
  all_goals
  obtain rfl := so_some h
  refine ⟨0, fun L hL => ?_⟩
  simp only [go_sem, ir26, z1]
 ·try simp only [go_sem, n1, n2, n3, n4] at z1
  all_goals
  obtain ⟨y_2, z2, h⟩ := bd_some h
  have fz2 := Fs_2 z2
  try simp only [go_sem, z1] at fz2
  rcases it_some h with ⟨z3, h⟩ | ⟨z3, h⟩
  ·try simp only [go_sem, n1, n2, n3, n4, z1] at z3
   all_goals
   obtain ⟨y_4, z4, h⟩ := bd_some h
   have fz4 := Fs_2 z4
   try simp only [go_sem, z1, z3] at fz4
   obtain ⟨z5, h⟩ := ck_some h
   try simp only [go_sem, n1, n2, n3, n4, z1, z3] at z5
   all_goals
   obtain rfl := so_some h
   refine ⟨0, fun L hL => ?_⟩
   simp only [go_sem, ir26, z1, fz2, z3, fz4, z5]
  ·try simp only [go_sem, n1, n2, n3, n4, z1] at z3
   all_goals
   obtain ⟨z6, h⟩ := ck_some h
   try simp only [go_sem, n1, n2, n3, n4, z1, z3] at z6
   all_goals
   obtain rfl := so_some h
   refine ⟨0, fun L hL => ?_⟩
   simp only [go_sem, ir26, z1, fz2, z3, z6]


def ir39_v : List Nat := [0, 1, 4]
def ir39 : AFn := ⟨2, 3, .seq (.region false [ VO 2 4 (.mov (.c (.str [])))]) (.seq (.region false [ PM 5 1, PM 6 0, PM 7 1, PO 8 (.len false (.s 0)), PO 9 (.call 26 [(.s 2), (.s 0)]), PO 10 (.ixAddr 1 (.s 4) (.s 0)), PO 11 (.load false 1 (.s 0)), VS 2 4 0]) (.ret)), [.t 2]⟩
noncomputable def t_4 : List (Nat × Ctr) := [(26, c_3)]
theorem lk_4_26 : look t_4 26 = some c_3 := rfl
noncomputable def c_4 : Ctr := mkN t_4 ir39 [.io, .bor]
theorem s_4 : Sound Tryz.prog 39 c_4 := mkN_sound _ (snd_cons s_3 snd_nil) (by kernel_rfl : chkFn Tryz.prog 39 ir39 ir39_v = true)
theorem M_4 : c_4.modes = [.io, .bor] := rfl
theorem Fl_4 : c_4.flat = false := rfl
attribute [go_sem] M_4 Fl_4
attribute [go_sem] lk_4_26
theorem Fs_4 {s_ : L00Src} {list : List (List UInt8)} {y_ : (List UInt8) × L00Src} (h : spec_l00Src_text s_ list = some y_) : c_4.F [.mem 3 [L00Src_av s_] 0, .sl 1 (List.map AV.str list)] = ⟨true, .str y_.1, [.mem 3 [L00Src_av y_.2] 0, .any]⟩ := by
 refine mkN_E ?_
 dsimp only [spec_l00Src_text] at h
 obtain ⟨y_1, z1, h⟩ := bd_some h
 have fz1 := Fs_3 z1
 try simp only [go_sem] at fz1
 obtain ⟨z2, h⟩ := ck_some h
 have lz2 := ix_lt z2
 have xz2 := getD_mapD AV.str list lz2
 try simp only [go_sem] at lz2
 try simp only [go_sem] at xz2
 try simp only [go_sem, n1, n2, n3, n4] at z2
 all_goals
 obtain rfl := so_some h
 refine ⟨0, fun L hL => ?_⟩
 simp only [go_sem, ir39, fz1, z2, lz2, xz2]


def ir40_v : List Nat := [0, 1, 4]
def ir40 : AFn := ⟨2, 3, .seq (.region false [ VO 2 4 (.mov (I6 0))]) (.seq (.region false [ PM 5 1, PM 6 0, PM 7 1, PO 8 (.len false (.s 0)), PO 9 (.call 26 [(.s 2), (.s 0)]), PO 10 (.ixAddr 1 (.s 4) (.s 0)), PO 11 (.load false 1 (.s 0)), VS 2 4 0]) (.ret)), [.t 2]⟩
noncomputable def t_5 : List (Nat × Ctr) := [(26, c_3)]
theorem lk_5_26 : look t_5 26 = some c_3 := rfl
noncomputable def c_5 : Ctr := mkN t_5 ir40 [.io, .bor]
theorem s_5 : Sound Tryz.prog 40 c_5 := mkN_sound _ (snd_cons s_3 snd_nil) (by kernel_rfl : chkFn Tryz.prog 40 ir40 ir40_v = true)
theorem M_5 : c_5.modes = [.io, .bor] := rfl
theorem Fl_5 : c_5.flat = false := rfl
attribute [go_sem] M_5 Fl_5
attribute [go_sem] lk_5_26
theorem Fs_5 {s_ : L00Src} {list : List Int} {y_ : Int × L00Src} (h : spec_l00Src_among s_ list = some y_) : c_5.F [.mem 3 [L00Src_av s_] 0, .sl 1 (List.map (AV.int .i64) list)] = ⟨true, .int .i64 y_.1, [.mem 3 [L00Src_av y_.2] 0, .any]⟩ := by
 refine mkN_E ?_
 dsimp only [spec_l00Src_among] at h
 obtain ⟨y_1, z1, h⟩ := bd_some h
 have fz1 := Fs_3 z1
 try simp only [go_sem] at fz1
 obtain ⟨z2, h⟩ := ck_some h
 have lz2 := ix_lt z2
 have xz2 := getD_mapD (AV.int .i64) list lz2
 try simp only [go_sem] at lz2
 try simp only [go_sem] at xz2
 try simp only [go_sem, n1, n2, n3, n4] at z2
 all_goals
 obtain rfl := so_some h
 refine ⟨0, fun L hL => ?_⟩
 simp only [go_sem, ir40, fz1, z2, lz2, xz2]


def ir27_v : List Nat := [0, 1, 4, 5, 20]
def ir27 : AFn := ⟨2, 5, .seq (.region false [ VO 2 4 (.alloc (.agg [.int .i64 (0), .str [], .int .i64 (0)]))]) (.seq (.region false [ PM 6 1, PM 7 0, PO 8 (.call 26 [(.s 0), (I6 4)]), PO 9 (.bin false .add (.s 2) (.s 0)), PO 10 (.build [.int .i64 (0), .str [], .int .i64 (0)] [(0, 1, (.s 0))]), VO 3 5 (.alloc (.agg [.int .i64 (0), .str [], .int .i64 (0)])), ⟨.no, 0, none, .store 3 (.v 3) (.s 0)⟩]) (.seq (.region false [ PM 11 0, PO 12 (.mkSl 1 (.str []) 4 [(0, (.c (.str [115, 101, 101, 110]))), (1, (.c (.str [104, 111, 117, 114, 115]))), (2, (.c (.str [115, 116, 97, 114, 45, 51]))), (3, (.c
 (.str [99, 108, 111, 117, 100, 115])))]), PO 13 (.call 39 [(.s 1), (.s 0)]), PO 14 (.fldAddr 1 (.v 3)), ⟨.no, 0, none, .store 1 (.s 0) (.s 1)⟩]) (.seq (.region false [ PM 15 0, PO 16 (.call 26 [(.s 0), (I6 900)]), PO 17 (.bin false .sub (.s 0) (I6 200)), PO 18 (.fldAddr 2 (.v 3)), ⟨.no, 0, none, .store 1 (.s 0) (.s 1)⟩]) (.seq (.seq (.region false [ PM 19 0, VO 4 20 (.call 26 [(.s 0), (I6 24)])]) (.block 0 (.test false [ PO 22 (.bin false .eql (.v 4) (I6 0)), PO 21 (.mov (.s 0))] (.s 0) (.region false [ PM 23 0, PO 24 (.mkSl 1 (.int .i64 (0)) 4 [(0, (.c (.int .i64 (-1)))), (1, (I6 0)), (2, (I6
 100000)), (3, (I6 100001))]), PO 25 (.call 40 [(.s 1), (.s 0)]), PO 26 (.fldAddr 0 (.v 3)), ⟨.no, 0, none, .store 1 (.s 0) (.s 1)⟩]) (.test false [ PO 28 (.bin false .eql (.v 4) (I6 1)), PO 27 (.mov (.s 0))] (.s 0) (.region false [ PM 29 0, PO 30 (.mkSl 1 (.str []) 3 [(0, (.c (.str []))), (1, (.c (.str [83, 101, 101, 110]))), (2, (.c (.str [97, 32, 98])))]), PO 31 (.call 39 [(.s 1), (.s 0)]), PO 32 (.fldAddr 1 (.v 3)), ⟨.no, 0, none, .store 1 (.s 0) (.s 1)⟩]) (.test false [ PO 34 (.bin false .eql (.v 4) (I6 2)), PO 33 (.mov (.s 0))] (.s 0) (.region false [ PM 35 0, PO 36 (.mkSl 1 (.int .i64
 (0)) 5 [(0, (.c (.int .i64 (-1000001)))), (1, (.c (.int .i64 (-1000000)))), (2, (I6 1000000)), (3, (I6 1000001)), (4, (.c (.int .i64 (-9223372036854775808))))]), PO 37 (.call 40 [(.s 1), (.s 0)]), PO 38 (.fldAddr 2 (.v 3)), ⟨.no, 0, none, .store 1 (.s 0) (.s 1)⟩]) (.skip)))))) (.seq (.region false [ PO 39 (.load true 3 (.v 3)), ⟨.no, 0, none, .store 3 (.v 2) (.s 0)⟩]) (.ret)))))), [.cell true 3 2]⟩
noncomputable def t_6 : List (Nat × Ctr) := [(26, c_3), (39, c_4), (40, c_5)]
theorem lk_6_26 : look t_6 26 = some c_3 := rfl
theorem lk_6_39 : look t_6 39 = some c_4 := rfl
theorem lk_6_40 : look t_6 40 = some c_5 := rfl
noncomputable def c_6 : Ctr := mkN t_6 ir27 [.io, .bor]
theorem s_6 : Sound Tryz.prog 27 c_6 := mkN_sound _ (snd_cons s_3 (snd_cons s_4 (snd_cons s_5 snd_nil))) (by kernel_rfl : chkFn Tryz.prog 27 ir27 ir27_v = true)
theorem M_6 : c_6.modes = [.io, .bor] := rfl
theorem Fl_6 : c_6.flat = false := rfl
attribute [go_sem] M_6 Fl_6
attribute [go_sem] lk_6_26 lk_6_39 lk_6_40
theorem Fs_6 {s_ : L00Src} {day : Int} {y_ : Entry × L00Src} (h : spec_l27DrawEntry s_ day = some y_) : c_6.F [.mem 3 [L00Src_av s_] 0, .int .i64 day] = ⟨true, Entry_av y_.1, [.mem 3 [L00Src_av y_.2] 0, .any]⟩ := by
 refine mkN_E ?_
 dsimp only [spec_l27DrawEntry] at h
 obtain ⟨y_1, z1, h⟩ := bd_some h
 have fz1 := Fs_3 z1
 try simp only [go_sem] at fz1
 obtain ⟨y_2, z2, h⟩ := bd_some h
 have fz2 := Fs_4 z2
 try simp only [go_sem] at fz2
 obtain ⟨y_3, z3, h⟩ := bd_some h
 have fz3 := Fs_3 z3
 try simp only [go_sem] at fz3
 obtain ⟨y_4, z4, h⟩ := bd_some h
 have fz4 := Fs_3 z4
 try simp only [go_sem] at fz4
 rcases it_some h with ⟨z5, h⟩ | ⟨z5, h⟩
 ·try simp only [go_sem, n1, n2, n3, n4] at z5
  all_goals
  obtain ⟨y_6, z6, h⟩ := bd_some h
  have fz6 := Fs_5 z6
  try simp only [go_sem, z5] at fz6
  obtain rfl := so_some h
  refine ⟨0, fun L hL => ?_⟩
  simp only [go_sem, ir27, fz1, fz2, fz3, fz4, z5, fz6]
 ·try simp only [go_sem, n1, n2, n3, n4] at z5
  all_goals
  rcases it_some h with ⟨z7, h⟩ | ⟨z7, h⟩
  ·try simp only [go_sem, n1, n2, n3, n4, z5] at z7
   all_goals
   obtain ⟨y_8, z8, h⟩ := bd_some h
   have fz8 := Fs_4 z8
   try simp only [go_sem, z5, z7] at fz8
   obtain rfl := so_some h
   refine ⟨0, fun L hL => ?_⟩
   simp only [go_sem, ir27, fz1, fz2, fz3, fz4, z5, z7, fz8]
  ·try simp only [go_sem, n1, n2, n3, n4, z5] at z7
   all_goals
   rcases it_some h with ⟨z9, h⟩ | ⟨z9, h⟩
   ·try simp only [go_sem, n1, n2, n3, n4, z5, z7] at z9
    all_goals
    obtain ⟨y_10, z10, h⟩ := bd_some h
    have fz10 := Fs_5 z10
    try simp only [go_sem, z5, z7, z9] at fz10
    obtain rfl := so_some h
    refine ⟨0, fun L hL => ?_⟩
    simp only [go_sem, ir27, fz1, fz2, fz3, fz4, z5, z7, z9, fz10]
   ·try simp only [go_sem, n1, n2, n3, n4, z5, z7] at z9
    all_goals
    obtain rfl := so_some h
    refine ⟨0, fun L hL => ?_⟩
    simp only [go_sem, ir27, fz1, fz2, fz3, fz4, z5, z7, z9]


def ir43_v : List Nat := [0, 1, 2, 6]
def ir43 : AFn := ⟨3, 4, .seq (.region false [ VO 3 6 (.mov (.c (.bool false)))]) (.seq (.region false [ PM 7 0, PM 8 1, PO 9 (.bin false .geq (.s 1) (.s 0)), PO 10 (.mov (.s 0)), ⟨.push, 11, (some ((.s 0), true)), .mov (.v 0)⟩, ⟨.push, 12, (some ((.s 1), true)), .mov (.v 2)⟩, ⟨.push, 13, (some ((.s 2), true)), .bin false .leq (.s 1) (.s 0)⟩, PO 14 (.pick (.s 3) (.s 0) (.c (.bool false))), VS 3 6 0]) (.ret)), [.t 3]⟩
noncomputable def t_7 : List (Nat × Ctr) := []
noncomputable def c_7 : Ctr := mkF t_7 ir43 [.bor, .bor, .bor]
theorem s_7 : Sound Tryz.prog 43 c_7 := mkF_sound _ rfl snd_nil (by kernel_rfl : chkFn Tryz.prog 43 ir43 ir43_v = true)
theorem M_7 : c_7.modes = [.bor, .bor, .bor] := rfl
theorem Fl_7 : c_7.flat = true := rfl
attribute [go_sem] M_7 Fl_7
theorem Fs_7 {n : Int} {low : Int} {high : Int} {y_ : Bool} (h : spec_l00In n low high = some y_) : c_7.F [.int .i64 n, .int .i64 low, .int .i64 high] = ⟨true, .bool y_, [.any, .any, .any]⟩ := by
 refine mkF_E rfl ?_
 dsimp only [spec_l00In] at h
 obtain rfl := so_some h
 refine ⟨0, fun L hL => ?_⟩
 simp only [go_sem, ir43]


def ir41_v : List Nat := [0, 2]
def ir41 : AFn := ⟨1, 2, .seq (.region false [ VO 1 2 (.mov (.c (.bool false)))]) (.seq (.region false [ PM 3 0, PO 4 (.call 43 [(.s 0), (I6 0), (I6 100000)]), VS 1 2 0]) (.ret)), [.t 1]⟩
noncomputable def t_8 : List (Nat × Ctr) := [(43, c_7)]
theorem lk_8_43 : look t_8 43 = some c_7 := rfl
noncomputable def c_8 : Ctr := mkF t_8 ir41 [.bor]
theorem s_8 : Sound Tryz.prog 41 c_8 := mkF_sound _ rfl (snd_cons s_7 snd_nil) (by kernel_rfl : chkFn Tryz.prog 41 ir41 ir41_v = true)
theorem M_8 : c_8.modes = [.bor] := rfl
theorem Fl_8 : c_8.flat = true := rfl
attribute [go_sem] M_8 Fl_8
attribute [go_sem] lk_8_43
theorem Fs_8 {n : Int} {y_ : Bool} (h : spec_l27Day n = some y_) : c_8.F [.int .i64 n] = ⟨true, .bool y_, [.any]⟩ := by
 refine mkF_E rfl ?_
 dsimp only [spec_l27Day] at h
 obtain ⟨y_1, z1, h⟩ := bd_some h
 have fz1 := Fs_7 z1
 try simp only [go_sem] at fz1
 obtain rfl := so_some h
 refine ⟨0, fun L hL => ?_⟩
 simp only [go_sem, ir41, fz1]


def ir50_v : List Nat := [0, 2]
def ir50 : AFn := ⟨1, 2, .seq (.region false [ VO 1 2 (.mov (.c (.bool false)))]) (.seq (.region false [ PM 3 0, PO 4 (.bin false .geq (.s 0) (.c (.int .u8 (97)))), PO 5 (.mov (.s 0)), ⟨.push, 6, (some ((.s 0), true)), .mov (.v 0)⟩, ⟨.push, 7, (some ((.s 1), true)), .bin false .leq (.s 0) (.c (.int .u8 (122)))⟩, PO 8 (.pick (.s 2) (.s 0) (.c (.bool false))), VS 1 2 0]) (.ret)), [.t 1]⟩
noncomputable def t_9 : List (Nat × Ctr) := []
noncomputable def c_9 : Ctr := mkF t_9 ir50 [.bor]
theorem s_9 : Sound Tryz.prog 50 c_9 := mkF_sound _ rfl snd_nil (by kernel_rfl : chkFn Tryz.prog 50 ir50 ir50_v = true)
theorem M_9 : c_9.modes = [.bor] := rfl
theorem Fl_9 : c_9.flat = true := rfl
attribute [go_sem] M_9 Fl_9
theorem Fs_9 {c : UInt8} {y_ : Bool} (h : spec_l01Small c = some y_) : c_9.F [.int .u8 (c.toNat : Int)] = ⟨true, .bool y_, [.any]⟩ := by
 refine mkF_E rfl ?_
 dsimp only [spec_l01Small] at h
 obtain rfl := so_some h
 refine ⟨0, fun L hL => ?_⟩
 simp only [go_sem, ir50]


def ir51_v : List Nat := [0, 2]
def ir51 : AFn := ⟨1, 2, .seq (.region false [ VO 1 2 (.mov (.c (.bool false)))]) (.seq (.region false [ PM 3 0, PO 4 (.bin false .geq (.s 0) (.c (.int .u8 (48)))), PO 5 (.mov (.s 0)), ⟨.push, 6, (some ((.s 0), true)), .mov (.v 0)⟩, ⟨.push, 7, (some ((.s 1), true)), .bin false .leq (.s 0) (.c (.int .u8 (57)))⟩, PO 8 (.pick (.s 2) (.s 0) (.c (.bool false))), VS 1 2 0]) (.ret)), [.t 1]⟩
noncomputable def t_10 : List (Nat × Ctr) := []
noncomputable def c_10 : Ctr := mkF t_10 ir51 [.bor]
theorem s_10 : Sound Tryz.prog 51 c_10 := mkF_sound _ rfl snd_nil (by kernel_rfl : chkFn Tryz.prog 51 ir51 ir51_v = true)
theorem M_10 : c_10.modes = [.bor] := rfl
theorem Fl_10 : c_10.flat = true := rfl
attribute [go_sem] M_10 Fl_10
theorem Fs_10 {c : UInt8} {y_ : Bool} (h : spec_l01Digit c = some y_) : c_10.F [.int .u8 (c.toNat : Int)] = ⟨true, .bool y_, [.any]⟩ := by
 refine mkF_E rfl ?_
 dsimp only [spec_l01Digit] at h
 obtain rfl := so_some h
 refine ⟨0, fun L hL => ?_⟩
 simp only [go_sem, ir51]


def ir42_b0 : IR := .seq (.test false [ PM 17 2, PM 18 0, PO 19 (.len true (.s 0)), PO 20 (.bin false .lss (.s 2) (.s 0))] (.s 0) (.skip) (.exit 0)) (.seq (.block 1 (.test false [ PM 23 0, PM 24 2, PO 25 (.ixStr (.s 1) (.s 0)), PO 26 (.call 50 [(.s 0)]), PO 27 (.un .not (.s 0)), PO 28 (.mov (.s 0)), ⟨.push, 29, (some ((.s 0), true)), .mov (.v 0)⟩, ⟨.push, 30, (some ((.s 1), true)), .mov (.v 2)⟩, ⟨.push, 31, (some ((.s 2), true)), .ixStr (.s 1) (.s 0)⟩, ⟨.push, 32, (some ((.s 3), true)), .call 51 [(.s 0)]⟩, ⟨.push, 33, (some ((.s 4), true)), .un .not (.s 0)⟩, PO 34 (.pick (.s 5) (.s 0) (.c
 (.bool false))), PO 35 (.mov (.s 0)), ⟨.push, 36, (some ((.s 0), true)), .mov (.v 0)⟩, ⟨.push, 37, (some ((.s 1), true)), .mov (.v 2)⟩, ⟨.push, 38, (some ((.s 2), true)), .ixStr (.s 1) (.s 0)⟩, ⟨.push, 39, (some ((.s 3), true)), .bin false .neq (.s 0) (.c (.int .u8 (45)))⟩, PO 40 (.pick (.s 4) (.s 0) (.c (.bool false)))] (.s 0) (.seq (.region false [ VO 1 2 (.mov (.c (.bool false)))]) (.ret)) (.skip))) (.region false [ PM 21 2, PO 22 (.bin false .add (.s 0) (I6 1)), VS 2 3 0]))
def ir42_k0 : List Bool := [true, false, true]
def ir42_o0 : List Bool := [false, false, false]
def ir42_r0 : List Bool := [false, true, false]
def ir42_v : List Nat := [0, 2, 3]
def ir42 : AFn := ⟨1, 3, .seq (.region false [ VO 1 2 (.mov (.c (.bool false)))]) (.seq (.test false [ PM 4 0, PO 5 (.bin false .eql (.s 0) (.c (.str []))), PO 6 (.mov (.s 0)), ⟨.push, 7, (some ((.s 0), false)), .mov (.v 0)⟩, ⟨.push, 8, (some ((.s 1), false)), .len true (.s 0)⟩, ⟨.push, 9, (some ((.s 2), false)), .bin false .gtr (.s 0) (I6 12)⟩, PO 10 (.pick (.s 3) (.c (.bool true)) (.s 0)), PO 11 (.mov (.s 0)), ⟨.push, 12, (some ((.s 0), false)), .mov (.v 0)⟩, ⟨.push, 13, (some ((.s 1), false)), .ixStr (.s 0) (I6 0)⟩, ⟨.push, 14, (some ((.s 2), false)), .call 50 [(.s 0)]⟩, ⟨.push, 15, (some
 ((.s 3), false)), .un .not (.s 0)⟩, PO 16 (.pick (.s 4) (.c (.bool true)) (.s 0))] (.s 0) (.seq (.region false [ VO 1 2 (.mov (.c (.bool false)))]) (.ret)) (.skip)) (.seq (.seq (.region false [ VO 2 3 (.mov (I6 0))]) (.block 0 (.loop ir42_k0 ir42_o0 ir42_r0 ir42_b0))) (.seq (.region false [ VO 1 2 (.mov (.c (.bool true)))]) (.ret)))), [.t 1]⟩
noncomputable def t_11 : List (Nat × Ctr) := [(50, c_9), (51, c_10)]
theorem lk_11_50 : look t_11 50 = some c_9 := rfl
theorem lk_11_51 : look t_11 51 = some c_10 := rfl
noncomputable def c_11 : Ctr := mkF t_11 ir42 [.bor]
theorem s_11 : Sound Tryz.prog 42 c_11 := mkF_sound _ rfl (snd_cons s_9 (snd_cons s_10 snd_nil)) (by kernel_rfl : chkFn Tryz.prog 42 ir42 ir42_v = true)
theorem M_11 : c_11.modes = [.bor] := rfl
theorem Fl_11 : c_11.flat = true := rfl
attribute [go_sem] M_11 Fl_11
attribute [go_sem] lk_11_50 lk_11_51
def E_11_l1 (s_ : List UInt8) : Int → St
 | i => ⟨[.str s_, .any, .int .i64 i], [], [], true⟩
def R_11_l1 (s_ : List UInt8) : (Unit ⊕ Bool) → Res
 | .inl y => (.exit 0, ⟨[.any, .any, .any], [], [], true⟩)
 | .inr y => (.ret, ⟨[.any, .bool y, .any], [], [], true⟩)
theorem spec_IsName_l1_ex {s_ : List UInt8} {sgm_ : Int} {rho_ : Unit ⊕ Bool} (h : whileE (spec_IsName_l1 s_) sgm_ = some rho_) : ∃ L0, ∀ L, L0 ≤ L → iter (exec (look t_11) L ir42_b0) ir42_k0 ir42_o0 ir42_r0 L (E_11_l1 s_ sgm_) = R_11_l1 s_ rho_ := by
 refine loop_ex (E := E_11_l1 s_) (R := R_11_l1 s_) (fun y => by first | (intro c; cases c) | (rcases y with y | y <;> (intro c; cases c)) | (rcases y with y | y | y <;> (intro c; cases c))) ?_ h
 clear h
 intro i o_ h
 dsimp only [spec_IsName_l1] at h
 rcases it_some h with ⟨z4, h⟩ | ⟨z4, h⟩
 ·try simp only [go_sem, n1, n2, n3, n4] at z4
  all_goals
  obtain ⟨z5, h⟩ := ck_some h
  try simp only [go_sem, n1, n2, n3, n4, z4] at z5
  all_goals
  obtain ⟨y_6, z6, h⟩ := bd_some h
  have fz6 := Fs_9 z6
  try simp only [go_sem, z4, z5] at fz6
  obtain ⟨z7, h⟩ := ck_some h
  rcases or_split z7 with ⟨gz7, z7⟩ | gz7
  ·try simp only [go_sem, n1, n2, n3, n4, z4, z5] at gz7
   all_goals
   obtain ⟨y_7, hz7⟩ := Option.isSome_iff_exists.1 z7
   have fz7 := Fs_10 hz7
   try simp only [go_sem, n1, n2, n3, n4, z4, z5, gz7] at hz7
   all_goals
   try simp only [go_sem, z4, z5, gz7] at fz7
   rcases it_some h with ⟨z8, h⟩ | ⟨z8, h⟩
   ·try simp only [go_sem, n1, n2, n3, n4, z4, z5, gz7, hz7] at z8
    all_goals
    obtain rfl := so_some h
    refine ⟨0, fun L hL => ?_⟩
    simp only [go_sem, ir42, E_11_l1, R_11_l1, ir42_b0, ir42_k0, ir42_o0, ir42_r0, z4, z5, fz6, gz7, hz7, fz7, z8]
   ·try simp only [go_sem, n1, n2, n3, n4, z4, z5, gz7, hz7] at z8
    all_goals
    obtain rfl := so_some h
    refine ⟨0, fun L hL => ?_⟩
    simp only [go_sem, ir42, E_11_l1, R_11_l1, ir42_b0, ir42_k0, ir42_o0, ir42_r0, z4, z5, fz6, gz7, hz7, fz7, z8]
  ·have gz7n := no_f gz7
   try simp only [go_sem, n1, n2, n3, n4, z4, z5] at gz7n
   all_goals
   rcases it_some h with ⟨z8, h⟩ | ⟨z8, h⟩
   ·try simp only [go_sem, n1, n2, n3, n4, z4, z5, gz7n] at z8
    all_goals
    (simp_all)
   ·try simp only [go_sem, n1, n2, n3, n4, z4, z5, gz7n] at z8
    all_goals
    obtain rfl := so_some h
    refine ⟨0, fun L hL => ?_⟩
    simp only [go_sem, ir42, E_11_l1, R_11_l1, ir42_b0, ir42_k0, ir42_o0, ir42_r0, z4, z5, fz6, gz7n, z8]
 ·try simp only [go_sem, n1, n2, n3, n4] at z4
  all_goals
  obtain rfl := so_some h
  refine ⟨0, fun L hL => ?_⟩
  simp only [go_sem, ir42, E_11_l1, R_11_l1, ir42_b0, ir42_k0, ir42_o0, ir42_r0, z4]

theorem Fs_11 {s_ : List UInt8} {y_ : Bool} (h : spec_IsName s_ = some y_) : c_11.F [.str s_] = ⟨true, .bool y_, [.any]⟩ := by
 refine mkF_E rfl ?_
 dsimp only [spec_IsName] at h
 obtain ⟨z1, h⟩ := ck_some h
 rcases or_split z1 with ⟨gz1, z1⟩ | gz1
 ·try simp only [go_sem, n1, n2, n3, n4] at gz1
  all_goals
  try simp only [go_sem, n1, n2, n3, n4, gz1] at z1
  all_goals
  obtain ⟨z2, h⟩ := ck_some h
  rcases or_split z2 with ⟨gz2, z2⟩ | gz2
  ·try simp only [go_sem, n1, n2, n3, n4, gz1, z1] at gz2
   all_goals
   obtain ⟨y_2, hz2⟩ := Option.isSome_iff_exists.1 z2
   have fz2 := Fs_9 hz2
   try simp only [go_sem, n1, n2, n3, n4, gz1, z1, gz2] at hz2
   all_goals
   try simp only [go_sem, gz1, z1, gz2] at fz2
   rcases it_some h with ⟨z3, h⟩ | ⟨z3, h⟩
   ·try simp only [go_sem, n1, n2, n3, n4, gz1, z1, gz2, hz2] at z3
    all_goals
    obtain rfl := so_some h
    refine ⟨0, fun L hL => ?_⟩
    simp only [go_sem, ir42, E_11_l1, R_11_l1, ir42_k0, ir42_o0, ir42_r0, gz1, z1, gz2, hz2, fz2, z3]
   ·try simp only [go_sem, n1, n2, n3, n4, gz1, z1, gz2, hz2] at z3
    all_goals
    obtain ⟨y_9, z9, h⟩ := bd_some h
    obtain ⟨Lz9, ez9⟩ := spec_IsName_l1_ex z9
    rcases y_9 with y_9a | y_9b
    ·dsimp only at h
     obtain rfl := so_some h
     refine ⟨Lz9, fun L hL => ?_⟩
     have ez9 := ez9 L (by omega)
     try simp only [go_sem, E_11_l1, R_11_l1, ir42_k0, ir42_o0, ir42_r0, gz1, z1, gz2, hz2, z3] at ez9
     simp only [go_sem, ir42, E_11_l1, R_11_l1, ir42_k0, ir42_o0, ir42_r0, gz1, z1, gz2, hz2, fz2, z3, ez9]
    ·dsimp only at h
     obtain rfl := so_some h
     refine ⟨Lz9, fun L hL => ?_⟩
     have ez9 := ez9 L (by omega)
     try simp only [go_sem, E_11_l1, R_11_l1, ir42_k0, ir42_o0, ir42_r0, gz1, z1, gz2, hz2, z3] at ez9
     simp only [go_sem, ir42, E_11_l1, R_11_l1, ir42_k0, ir42_o0, ir42_r0, gz1, z1, gz2, hz2, fz2, z3, ez9]
  ·have gz2n := no_f gz2
   rcases or_t gz2n with gz2na | ⟨gz2na, gz2nb⟩
   ·try simp only [go_sem, n1, n2, n3, n4, gz1, z1] at gz2na
    all_goals
    (simp_all)
   ·try simp only [go_sem, n1, n2, n3, n4, gz1, z1] at gz2na
    all_goals
    try simp only [go_sem, n1, n2, n3, n4, gz1, z1, gz2na] at gz2nb
    all_goals
    rcases it_some h with ⟨z3, h⟩ | ⟨z3, h⟩
    ·try simp only [go_sem, n1, n2, n3, n4, gz1, z1, gz2na, gz2nb] at z3
     all_goals
     obtain rfl := so_some h
     refine ⟨0, fun L hL => ?_⟩
     simp only [go_sem, ir42, E_11_l1, R_11_l1, ir42_k0, ir42_o0, ir42_r0, gz1, z1, gz2na, gz2nb, z3]
    ·try simp only [go_sem, n1, n2, n3, n4, gz1, z1, gz2na, gz2nb] at z3
     all_goals
     obtain ⟨y_9, z9, h⟩ := bd_some h
     obtain ⟨Lz9, ez9⟩ := spec_IsName_l1_ex z9
     rcases y_9 with y_9a | y_9b
     ·dsimp only at h
      obtain rfl := so_some h
      refine ⟨Lz9, fun L hL => ?_⟩
      have ez9 := ez9 L (by omega)
      try simp only [go_sem, E_11_l1, R_11_l1, ir42_k0, ir42_o0, ir42_r0, gz1, z1, gz2na, gz2nb, z3] at ez9
      simp only [go_sem, ir42, E_11_l1, R_11_l1, ir42_k0, ir42_o0, ir42_r0, gz1, z1, gz2na, gz2nb, z3, ez9]
     ·dsimp only at h
      obtain rfl := so_some h
      refine ⟨Lz9, fun L hL => ?_⟩
      have ez9 := ez9 L (by omega)
      try simp only [go_sem, E_11_l1, R_11_l1, ir42_k0, ir42_o0, ir42_r0, gz1, z1, gz2na, gz2nb, z3] at ez9
      simp only [go_sem, ir42, E_11_l1, R_11_l1, ir42_k0, ir42_o0, ir42_r0, gz1, z1, gz2na, gz2nb, z3, ez9]
 ·have gz1n := no_f gz1
  rcases or_t gz1n with gz1na | ⟨gz1na, gz1nb⟩
  ·try simp only [go_sem, n1, n2, n3, n4] at gz1na
   all_goals
   obtain ⟨z2, h⟩ := ck_some h
   rcases it_some h with ⟨z3, h⟩ | ⟨z3, h⟩
   ·try simp only [go_sem, n1, n2, n3, n4, gz1na] at z3
    all_goals
    obtain rfl := so_some h
    refine ⟨0, fun L hL => ?_⟩
    simp only [go_sem, ir42, E_11_l1, R_11_l1, ir42_k0, ir42_o0, ir42_r0, gz1na, z3]
   ·try simp only [go_sem, n1, n2, n3, n4, gz1na] at z3
    all_goals
    (simp_all)
  ·try simp only [go_sem, n1, n2, n3, n4] at gz1na
   all_goals
   try simp only [go_sem, n1, n2, n3, n4, gz1na] at gz1nb
   all_goals
   obtain ⟨z2, h⟩ := ck_some h
   rcases it_some h with ⟨z3, h⟩ | ⟨z3, h⟩
   ·try simp only [go_sem, n1, n2, n3, n4, gz1na, gz1nb] at z3
    all_goals
    obtain rfl := so_some h
    refine ⟨0, fun L hL => ?_⟩
    simp only [go_sem, ir42, E_11_l1, R_11_l1, ir42_k0, ir42_o0, ir42_r0, gz1na, gz1nb, z3]
   ·try simp only [go_sem, n1, n2, n3, n4, gz1na, gz1nb] at z3
    all_goals
    (simp_all)


def ir28_v : List Nat := [0, 2]
def ir28 : AFn := ⟨1, 2, .seq (.region false [ VO 1 2 (.mov (.c (.bool false)))]) (.seq (.region false [ PM 3 0, PO 4 (.nilck (.s 0)), PO 5 (.fldAddr 0 (.s 0)), PO 6 (.load false 1 (.s 0)), PO 7 (.call 41 [(.s 0)]), PO 8 (.mov (.s 0)), ⟨.push, 9, (some ((.s 0), true)), .mov (.v 0)⟩, ⟨.push, 10, (some ((.s 1), true)), .nilck (.s 0)⟩, ⟨.push, 11, (some ((.s 2), true)), .fldAddr 1 (.s 0)⟩, ⟨.push, 12, (some ((.s 3), true)), .load false 1 (.s 0)⟩, ⟨.push, 13, (some ((.s 4), true)), .call 42 [(.s 0)]⟩, PO 14 (.pick (.s 5) (.s 0) (.c (.bool false))), PO 15 (.mov (.s 0)), ⟨.push, 16, (some ((.s 0),
 true)), .mov (.v 0)⟩, ⟨.push, 17, (some ((.s 1), true)), .nilck (.s 0)⟩, ⟨.push, 18, (some ((.s 2), true)), .fldAddr 2 (.s 0)⟩, ⟨.push, 19, (some ((.s 3), true)), .load false 1 (.s 0)⟩, ⟨.push, 20, (some ((.s 4), true)), .call 43 [(.s 0), (.c (.int .i64 (-1000000))), (I6 1000000)]⟩, PO 21 (.pick (.s 5) (.s 0) (.c (.bool false))), VS 1 2 0]) (.ret)), [.t 1]⟩
noncomputable def t_12 : List (Nat × Ctr) := [(41, c_8), (42, c_11), (43, c_7)]
theorem lk_12_41 : look t_12 41 = some c_8 := rfl
theorem lk_12_42 : look t_12 42 = some c_11 := rfl
theorem lk_12_43 : look t_12 43 = some c_7 := rfl
noncomputable def c_12 : Ctr := mkF t_12 ir28 [.bor]
theorem s_12 : Sound Tryz.prog 28 c_12 := mkF_sound _ rfl (snd_cons s_8 (snd_cons s_11 (snd_cons s_7 snd_nil))) (by kernel_rfl : chkFn Tryz.prog 28 ir28 ir28_v = true)
theorem M_12 : c_12.modes = [.bor] := rfl
theorem Fl_12 : c_12.flat = true := rfl
attribute [go_sem] M_12 Fl_12
attribute [go_sem] lk_12_41 lk_12_42 lk_12_43
theorem Fs_12 {e_ : Entry} {y_ : Bool} (h : spec_l27Ok e_ = some y_) : c_12.F [.ptr 3 [Entry_av e_] 0 0] = ⟨true, .bool y_, [.any]⟩ := by
 refine mkF_E rfl ?_
 dsimp only [spec_l27Ok] at h
 obtain ⟨y_1, z1, h⟩ := bd_some h
 have fz1 := Fs_8 z1
 try simp only [go_sem] at fz1
 obtain ⟨z2, h⟩ := ck_some h
 rcases or_split z2 with ⟨gz2, z2⟩ | gz2
 ·try simp only [go_sem, n1, n2, n3, n4] at gz2
  all_goals
  obtain ⟨y_2, hz2⟩ := Option.isSome_iff_exists.1 z2
  have fz2 := Fs_11 hz2
  try simp only [go_sem, n1, n2, n3, n4, gz2] at hz2
  all_goals
  try simp only [go_sem, gz2] at fz2
  obtain ⟨z3, h⟩ := ck_some h
  rcases or_split z3 with ⟨gz3, z3⟩ | gz3
  ·try simp only [go_sem, n1, n2, n3, n4, gz2, hz2] at gz3
   all_goals
   obtain ⟨y_3, hz3⟩ := Option.isSome_iff_exists.1 z3
   have fz3 := Fs_7 hz3
   try simp only [go_sem, n1, n2, n3, n4, gz2, hz2, gz3] at hz3
   all_goals
   try simp only [go_sem, gz2, hz2, gz3] at fz3
   obtain rfl := so_some h
   refine ⟨0, fun L hL => ?_⟩
   simp only [go_sem, ir28, fz1, gz2, hz2, fz2, gz3, hz3, fz3]
  ·rcases and_f gz3 with gz3a | ⟨gz3a, gz3b⟩
   ·try simp only [go_sem, n1, n2, n3, n4, gz2, hz2] at gz3a
    all_goals
    (simp_all)
   ·try simp only [go_sem, n1, n2, n3, n4, gz2, hz2] at gz3a
    all_goals
    try simp only [go_sem, n1, n2, n3, n4, gz2, hz2, gz3a] at gz3b
    all_goals
    obtain rfl := so_some h
    refine ⟨0, fun L hL => ?_⟩
    simp only [go_sem, ir28, fz1, gz2, hz2, fz2, gz3a, gz3b]
 ·try simp only [go_sem, n1, n2, n3, n4] at gz2
  all_goals
  obtain ⟨z3, h⟩ := ck_some h
  obtain rfl := so_some h
  refine ⟨0, fun L hL => ?_⟩
  simp only [go_sem, ir28, fz1, gz2]


def ir13_b0 : IR := .seq (.test false [ PM 14 5, PO 15 (.bin false .gtr (.s 0) (I6 0))] (.s 0) (.skip) (.exit 0)) (.seq (.block 1 (.seq (.region false [ PM 18 0, PM 19 4, PO 20 (.call 27 [(.s 1), (.s 0)]), VO 6 8 (.alloc (.agg [.int .i64 (0), .str [], .int .i64 (0)])), ⟨.no, 0, none, .store 3 (.v 6) (.s 0)⟩]) (.test false [ PO 21 (.call 28 [(.v 6)]), PO 22 (.mov (.s 0)), ⟨.push, 23, (some ((.s 0), true)), .fldAddr 0 (.v 6)⟩, ⟨.push, 24, (some ((.s 1), true)), .load false 1 (.s 0)⟩, ⟨.push, 25, (some ((.s 2), true)), .mov (.v 4)⟩, ⟨.push, 26, (some ((.s 3), true)), .bin false .geq (.s 1) (.s
 0)⟩, PO 27 (.pick (.s 4) (.s 0) (.c (.bool false)))] (.s 0) (.seq (.region false [ PM 28 3, PO 29 (.load true 3 (.v 6)), PO 30 (.mkSl 3 (.agg [.int .i64 (0), .str [], .int .i64 (0)]) 1 [(0, (.s 0))]), PO 31 (.app 3 32 (.agg [.int .i64 (0), .str [], .int .i64 (0)]) (.s 2) (.s 0)), VS 3 5 0]) (.region false [ PO 32 (.fldAddr 0 (.v 6)), PO 33 (.load false 1 (.s 0)), VS 4 6 0])) (.skip)))) (.region false [ PM 16 5, PO 17 (.bin false .sub (.s 0) (I6 1)), VS 5 7 0]))
def ir13_k0 : List Bool := [true, false, false, true, true, true, false]
def ir13_o0 : List Bool := [true, false, false, true, false, false, false]
def ir13_r0 : List Bool := [true, false, true, false, false, false, false]
def ir13_v : List Nat := [0, 1, 4, 5, 6, 7, 8]
def ir13 : AFn := ⟨2, 7, .seq (.region false [ VO 2 4 (.newnil 3)]) (.seq (.region false [ PO 9 (.mkSl 3 (.agg [.int .i64 (0), .str [], .int .i64 (0)]) 0 []), VS 3 5 0]) (.seq (.region false [ VO 4 6 (.mov (I6 0))]) (.seq (.seq (.region false [ PM 10 0, PM 11 1, PO 12 (.bin false .add (.s 0) (I6 1)), PO 13 (.call 26 [(.s 2), (.s 0)]), VS 5 7 0]) (.block 0 (.loop ir13_k0 ir13_o0 ir13_r0 ir13_b0))) (.seq (.region false [ PM 34 3, VS 2 4 0]) (.ret))))), [.t 2]⟩
noncomputable def t_13 : List (Nat × Ctr) := [(26, c_3), (27, c_6), (28, c_12)]
theorem lk_13_26 : look t_13 26 = some c_3 := rfl
theorem lk_13_27 : look t_13 27 = some c_6 := rfl
theorem lk_13_28 : look t_13 28 = some c_12 := rfl
noncomputable def c_13 : Ctr := mkN t_13 ir13 [.io, .bor]
theorem s_13 : Sound Tryz.prog 13 c_13 := mkN_sound _ (snd_cons s_3 (snd_cons s_6 (snd_cons s_12 snd_nil))) (by kernel_rfl : chkFn Tryz.prog 13 ir13 ir13_v = true)
theorem M_13 : c_13.modes = [.io, .bor] := rfl
theorem Fl_13 : c_13.flat = false := rfl
attribute [go_sem] M_13 Fl_13
attribute [go_sem] lk_13_26 lk_13_27 lk_13_28
def E_13_l1  : (L00Src × (List Entry) × Int × Int) → St
 | (s_, out, day, k) => ⟨[.ref 31 0 0, .any, .any, .own 3200032, .int .i64 day, .int .i64 k, .any], [], [(31, ⟨3, [L00Src_av s_]⟩), (3200032, ⟨3, List.map Entry_av out⟩)], true⟩
def R_13_l1  (y : L00Src × (List Entry)) : Res := (.exit 0, ⟨[.ref 31 0 0, .any, .any, .own 3200032, .any, .any, .any], [], [(31, ⟨3, [L00Src_av y.1]⟩), (3200032, ⟨3, List.map Entry_av y.2⟩)], true⟩)
theorem spec_l27Entries_l1_ex  {sgm_ : L00Src × (List Entry) × Int × Int} {rho_ : L00Src × (List Entry)} (h : whileE (spec_l27Entries_l1) sgm_ = some rho_) : ∃ L0, ∀ L, L0 ≤ L → iter (exec (look t_13) L ir13_b0) ir13_k0 ir13_o0 ir13_r0 L (E_13_l1 sgm_) = R_13_l1 rho_ := by
 refine loop_ex (E := E_13_l1) (R := R_13_l1) (fun y => by first | (intro c; cases c) | (rcases y with y | y <;> (intro c; cases c)) | (rcases y with y | y | y <;> (intro c; cases c))) ?_ h
 clear h
 rintro ⟨s_, out, day, k⟩ o_ h
 dsimp only [spec_l27Entries_l1] at h
 rcases it_some h with ⟨z2, h⟩ | ⟨z2, h⟩
 ·try simp only [go_sem, n1, n2, n3, n4] at z2
  all_goals
  obtain ⟨y_3, z3, h⟩ := bd_some h
  have fz3 := Fs_6 z3
  try simp only [go_sem, z2] at fz3
  obtain ⟨y_4, z4, h⟩ := bd_some h
  have fz4 := Fs_12 z4
  try simp only [go_sem, z2] at fz4
  rcases it_some h with ⟨z5, h⟩ | ⟨z5, h⟩
  ·try simp only [go_sem, n1, n2, n3, n4, z2] at z5
   all_goals
   obtain ⟨z6, h⟩ := ck_some h
   try simp only [go_sem, n1, n2, n3, n4, z2, z5] at z6
   all_goals
   obtain rfl := so_some h
   refine ⟨0, fun L hL => ?_⟩
   simp only [go_sem, ir13, E_13_l1, R_13_l1, ir13_b0, ir13_k0, ir13_o0, ir13_r0, z2, fz3, fz4, z5, z6]
  ·try simp only [go_sem, n1, n2, n3, n4, z2] at z5
   all_goals
   obtain rfl := so_some h
   refine ⟨0, fun L hL => ?_⟩
   simp only [go_sem, ir13, E_13_l1, R_13_l1, ir13_b0, ir13_k0, ir13_o0, ir13_r0, z2, fz3, fz4, z5]
 ·try simp only [go_sem, n1, n2, n3, n4] at z2
  all_goals
  obtain rfl := so_some h
  refine ⟨0, fun L hL => ?_⟩
  simp only [go_sem, ir13, E_13_l1, R_13_l1, ir13_b0, ir13_k0, ir13_o0, ir13_r0, z2]

theorem Fs_13 {s_ : L00Src} {most : Int} {y_ : (List Entry) × L00Src} (h : spec_l27Entries s_ most = some y_) : c_13.F [.mem 3 [L00Src_av s_] 0, .int .i64 most] = ⟨true, .fresh 3 (List.map Entry_av y_.1), [.mem 3 [L00Src_av y_.2] 0, .any]⟩ := by
 refine mkN_E ?_
 dsimp only [spec_l27Entries] at h
 obtain ⟨y_1, z1, h⟩ := bd_some h
 have fz1 := Fs_3 z1
 try simp only [go_sem] at fz1
 obtain ⟨y_7, z7, h⟩ := bd_some h
 obtain ⟨Lz7, ez7⟩ := spec_l27Entries_l1_ex z7
 obtain rfl := so_some h
 refine ⟨Lz7, fun L hL => ?_⟩
 have ez7 := ez7 L (by omega)
 try simp only [go_sem, E_13_l1, R_13_l1, ir13_k0, ir13_o0, ir13_r0] at ez7
 simp only [go_sem, ir13, E_13_l1, R_13_l1, ir13_k0, ir13_o0, ir13_r0, fz1, ez7]


def ir5_v : List Nat := [0, 2]
def ir5 : AFn := ⟨1, 2, .seq (.region false [ VO 1 2 (.newnil 3)]) (.seq (.region false [ PM 3 0, PO 4 (.call 14 [(.s 0)]), PO 5 (.call 13 [(.s 0), (I6 7)]), VS 1 2 0]) (.ret)), [.t 1]⟩
noncomputable def t_14 : List (Nat × Ctr) := [(14, c_1), (13, c_13)]
theorem lk_14_14 : look t_14 14 = some c_1 := rfl
theorem lk_14_13 : look t_14 13 = some c_13 := rfl
noncomputable def c_14 : Ctr := mkF t_14 ir5 [.bor]
theorem s_14 : Sound Tryz.prog 5 c_14 := mkF_sound _ rfl (snd_cons s_1 (snd_cons s_13 snd_nil)) (by kernel_rfl : chkFn Tryz.prog 5 ir5 ir5_v = true)
theorem M_14 : c_14.modes = [.bor] := rfl
theorem Fl_14 : c_14.flat = true := rfl
attribute [go_sem] M_14 Fl_14
attribute [go_sem] lk_14_14 lk_14_13
theorem Fs_14 {code : List UInt8} {y_ : (List Entry)} (h : spec_A2Entries code = some y_) : c_14.F [.sl 1 (List.map byteAV code)] = ⟨true, .fresh 3 (List.map Entry_av y_), [.any]⟩ := by
 refine mkF_E (by simp only [flatA, flatB, flat1, List.all_cons, List.all_nil, Bool.and_self, flatE_map (f := Entry_av) (fun _ => rfl)]) ?_
 dsimp only [spec_A2Entries] at h
 obtain ⟨y_1, z1, h⟩ := bd_some h
 have fz1 := Fs_1 z1
 try simp only [go_sem] at fz1
 obtain ⟨y_2, z2, h⟩ := bd_some h
 have fz2 := Fs_13 z2
 try simp only [go_sem] at fz2
 obtain rfl := so_some h
 refine ⟨0, fun L hL => ?_⟩
 simp only [go_sem, ir5, fz1, fz2]


def ir30_v : List Nat := [0, 1, 2, 6]
def ir30 : AFn := ⟨3, 4, .seq (.region false [ VO 3 6 (.mov (.c (.bool false)))]) (.seq (.region false [ PM 7 0, PM 8 1, PO 9 (.bin false .geq (.s 1) (.s 0)), PO 10 (.mov (.s 0)), ⟨.push, 11, (some ((.s 0), true)), .mov (.v 0)⟩, ⟨.push, 12, (some ((.s 1), true)), .mov (.v 2)⟩, ⟨.push, 13, (some ((.s 2), true)), .bin false .leq (.s 1) (.s 0)⟩, PO 14 (.pick (.s 3) (.s 0) (.c (.bool false))), VS 3 6 0]) (.ret)), [.t 3]⟩
noncomputable def t_15 : List (Nat × Ctr) := []
noncomputable def c_15 : Ctr := mkF t_15 ir30 [.bor, .bor, .bor]
theorem s_15 : Sound Tryz.prog 30 c_15 := mkF_sound _ rfl snd_nil (by kernel_rfl : chkFn Tryz.prog 30 ir30 ir30_v = true)
theorem M_15 : c_15.modes = [.bor, .bor, .bor] := rfl
theorem Fl_15 : c_15.flat = true := rfl
attribute [go_sem] M_15 Fl_15
theorem Fs_15 {n : Int} {low : Int} {high : Int} {y_ : Bool} (h : impl_in n low high = some y_) : c_15.F [.int .i64 n, .int .i64 low, .int .i64 high] = ⟨true, .bool y_, [.any, .any, .any]⟩ := by
 refine mkF_E rfl ?_
 dsimp only [impl_in] at h
 obtain rfl := so_some h
 refine ⟨0, fun L hL => ?_⟩
 simp only [go_sem, ir30]


def ir31_b0 : IR := .seq (.region false [ VO 7 17 (.bin false .lss (.v 6) (.v 5))]) (.seq (.cond (.v 7) (.skip) (.exit 0)) (.seq (.block 1 (.seq (.region false [ PM 18 6, VS 2 3 0]) (.seq (.region false [ PM 19 0, PM 20 2, PO 21 (.ixStr (.s 1) (.s 0)), PO 22 (.bin false .geq (.s 0) (.c (.int .u8 (97)))), PO 23 (.mov (.s 0)), ⟨.push, 24, (some ((.s 0), true)), .mov (.v 0)⟩, ⟨.push, 25, (some ((.s 1), true)), .mov (.v 2)⟩, ⟨.push, 26, (some ((.s 2), true)), .ixStr (.s 1) (.s 0)⟩, ⟨.push, 27, (some ((.s 3), true)), .bin false .leq (.s 0) (.c (.int .u8 (122)))⟩, PO 28 (.pick (.s 4) (.s 0) (.c
 (.bool false))), VS 3 4 0]) (.seq (.region false [ PM 29 0, PM 30 2, PO 31 (.ixStr (.s 1) (.s 0)), PO 32 (.bin false .geq (.s 0) (.c (.int .u8 (48)))), PO 33 (.mov (.s 0)), ⟨.push, 34, (some ((.s 0), true)), .mov (.v 0)⟩, ⟨.push, 35, (some ((.s 1), true)), .mov (.v 2)⟩, ⟨.push, 36, (some ((.s 2), true)), .ixStr (.s 1) (.s 0)⟩, ⟨.push, 37, (some ((.s 3), true)), .bin false .leq (.s 0) (.c (.int .u8 (57)))⟩, PO 38 (.pick (.s 4) (.s 0) (.c (.bool false))), PO 39 (.mov (.s 0)), ⟨.push, 40, (some ((.s 0), false)), .mov (.v 0)⟩, ⟨.push, 41, (some ((.s 1), false)), .mov (.v 2)⟩, ⟨.push, 42, (some
 ((.s 2), false)), .ixStr (.s 1) (.s 0)⟩, ⟨.push, 43, (some ((.s 3), false)), .bin false .eql (.s 0) (.c (.int .u8 (45)))⟩, PO 44 (.pick (.s 4) (.c (.bool true)) (.s 0)), VS 4 5 0]) (.test false [ PM 45 3, PO 46 (.un .not (.s 0)), PO 47 (.mov (.s 0)), ⟨.push, 48, (some ((.s 0), true)), .mov (.v 2)⟩, ⟨.push, 49, (some ((.s 1), true)), .bin false .eql (.s 0) (I6 0)⟩, ⟨.push, 50, (some ((.s 2), true)), .mov (.s 0)⟩, ⟨.push, 51, (some ((.s 0), false)), .mov (.v 4)⟩, ⟨.push, 52, (some ((.s 1), false)), .un .not (.s 0)⟩, ⟨.push, 53, (some ((.s 5), true)), .pick (.s 2) (.c (.bool true)) (.s 0)⟩, PO 54
 (.pick (.s 6) (.s 0) (.c (.bool false)))] (.s 0) (.seq (.region false [ VO 1 2 (.mov (.c (.bool false)))]) (.ret)) (.skip)))))) (.region false [ PO 55 (.bin false .add (.v 6) (I6 1)), VS 6 16 0])))
def ir31_k0 : List Bool := [true, false, false, false, false, true, true, false]
def ir31_o0 : List Bool := [false, false, false, false, false, false, false, false]
def ir31_r0 : List Bool := [false, true, false, false, false, false, false, false]
def ir31_v : List Nat := [0, 2, 3, 4, 5, 15, 16, 17]
def ir31 : AFn := ⟨1, 8, .seq (.region false [ VO 1 2 (.mov (.c (.bool false)))]) (.seq (.test false [ PM 6 0, PO 7 (.len true (.s 0)), PO 8 (.bin false .lss (.s 0) (I6 1)), PO 9 (.mov (.s 0)), ⟨.push, 10, (some ((.s 0), false)), .mov (.v 0)⟩, ⟨.push, 11, (some ((.s 1), false)), .len true (.s 0)⟩, ⟨.push, 12, (some ((.s 2), false)), .bin false .gtr (.s 0) (I6 12)⟩, PO 13 (.pick (.s 3) (.c (.bool true)) (.s 0))] (.s 0) (.seq (.region false [ VO 1 2 (.mov (.c (.bool false)))]) (.ret)) (.skip)) (.seq (.seq (.region false [ PM 14 0, VO 5 15 (.len true (.s 0)), VO 6 16 (.mov (I6 0))]) (.block 0
 (.loop ir31_k0 ir31_o0 ir31_r0 ir31_b0))) (.seq (.region false [ VO 1 2 (.mov (.c (.bool true)))]) (.ret)))), [.t 1]⟩
noncomputable def t_16 : List (Nat × Ctr) := []
noncomputable def c_16 : Ctr := mkF t_16 ir31 [.bor]
theorem s_16 : Sound Tryz.prog 31 c_16 := mkF_sound _ rfl snd_nil (by kernel_rfl : chkFn Tryz.prog 31 ir31 ir31_v = true)
theorem M_16 : c_16.modes = [.bor] := rfl
theorem Fl_16 : c_16.flat = true := rfl
attribute [go_sem] M_16 Fl_16
def E_16_l1 (s_ : List UInt8) (t15 : Int) : Int → St
 | t16 => ⟨[.str s_, .any, .any, .any, .any, .int .i64 t15, .int .i64 t16, .any], [], [], true⟩
def R_16_l1 (s_ : List UInt8) (t15 : Int) : (Unit ⊕ Bool) → Res
 | .inl y => (.exit 0, ⟨[.any, .any, .any, .any, .any, .any, .any, .any], [], [], true⟩)
 | .inr y => (.ret, ⟨[.any, .bool y, .any, .any, .any, .any, .any, .any], [], [], true⟩)
theorem impl_IsName_l1_ex {s_ : List UInt8} {t15 : Int} {sgm_ : Int} {rho_ : Unit ⊕ Bool} (h : whileE (impl_IsName_l1 s_ t15) sgm_ = some rho_) : ∃ L0, ∀ L, L0 ≤ L → iter (exec (look t_16) L ir31_b0) ir31_k0 ir31_o0 ir31_r0 L (E_16_l1 s_ t15 sgm_) = R_16_l1 s_ t15 rho_ := by
 refine loop_ex (E := E_16_l1 s_ t15) (R := R_16_l1 s_ t15) (fun y => by first | (intro c; cases c) | (rcases y with y | y <;> (intro c; cases c)) | (rcases y with y | y | y <;> (intro c; cases c))) ?_ h
 clear h
 intro t16 o_ h
 dsimp only [impl_IsName_l1] at h
 rcases it_some h with ⟨z2, h⟩ | ⟨z2, h⟩
 ·try simp only [go_sem, n1, n2, n3, n4] at z2
  all_goals
  obtain ⟨z3, h⟩ := ck_some h
  try simp only [go_sem, n1, n2, n3, n4, z2] at z3
  all_goals
  rcases it_some h with ⟨z4, h⟩ | ⟨z4, h⟩
  ·try simp only [go_sem, n1, n2, n3, n4, z2, z3] at z4
   all_goals
   obtain rfl := so_some h
   refine ⟨0, fun L hL => ?_⟩
   simp only [go_sem, ir31, E_16_l1, R_16_l1, ir31_b0, ir31_k0, ir31_o0, ir31_r0, z2, z3, z4]
  ·try simp only [go_sem, n1, n2, n3, n4, z2, z3] at z4
   all_goals
   obtain rfl := so_some h
   refine ⟨0, fun L hL => ?_⟩
   simp only [go_sem, ir31, E_16_l1, R_16_l1, ir31_b0, ir31_k0, ir31_o0, ir31_r0, z2, z3, z4]
 ·try simp only [go_sem, n1, n2, n3, n4] at z2
  all_goals
  obtain rfl := so_some h
  refine ⟨0, fun L hL => ?_⟩
  simp only [go_sem, ir31, E_16_l1, R_16_l1, ir31_b0, ir31_k0, ir31_o0, ir31_r0, z2]

theorem Fs_16 {s_ : List UInt8} {y_ : Bool} (h : impl_IsName s_ = some y_) : c_16.F [.str s_] = ⟨true, .bool y_, [.any]⟩ := by
 refine mkF_E rfl ?_
 dsimp only [impl_IsName] at h
 rcases it_some h with ⟨z1, h⟩ | ⟨z1, h⟩
 ·try simp only [go_sem, n1, n2, n3, n4] at z1
  all_goals
  obtain rfl := so_some h
  refine ⟨0, fun L hL => ?_⟩
  simp only [go_sem, ir31, E_16_l1, R_16_l1, ir31_k0, ir31_o0, ir31_r0, z1]
 ·try simp only [go_sem, n1, n2, n3, n4] at z1
  all_goals
  obtain ⟨y_5, z5, h⟩ := bd_some h
  obtain ⟨Lz5, ez5⟩ := impl_IsName_l1_ex z5
  rcases y_5 with y_5a | y_5b
  ·dsimp only at h
   obtain rfl := so_some h
   refine ⟨Lz5, fun L hL => ?_⟩
   have ez5 := ez5 L (by omega)
   try simp only [go_sem, E_16_l1, R_16_l1, ir31_k0, ir31_o0, ir31_r0, z1] at ez5
   simp only [go_sem, ir31, E_16_l1, R_16_l1, ir31_k0, ir31_o0, ir31_r0, z1, ez5]
  ·dsimp only at h
   obtain rfl := so_some h
   refine ⟨Lz5, fun L hL => ?_⟩
   have ez5 := ez5 L (by omega)
   try simp only [go_sem, E_16_l1, R_16_l1, ir31_k0, ir31_o0, ir31_r0, z1] at ez5
   simp only [go_sem, ir31, E_16_l1, R_16_l1, ir31_k0, ir31_o0, ir31_r0, z1, ez5]


def ir17_v : List Nat := [0, 1, 2]
def ir17 : AFn := ⟨1, 3, .seq (.region false [ VO 1 1 (.box (.v 0)), VO 2 2 (.mov (.c (.bool false)))]) (.seq (.region false [ PO 3 (.fldAddr 0 (.v 1)), PO 4 (.load false 1 (.s 0)), PO 5 (.call 30 [(.s 0), (I6 0), (I6 100000)]), PO 6 (.mov (.s 0)), ⟨.push, 7, (some ((.s 0), true)), .fldAddr 1 (.v 1)⟩, ⟨.push, 8, (some ((.s 1), true)), .load false 1 (.s 0)⟩, ⟨.push, 9, (some ((.s 2), true)), .call 31 [(.s 0)]⟩, PO 10 (.pick (.s 3) (.s 0) (.c (.bool false))), PO 11 (.mov (.s 0)), ⟨.push, 12, (some ((.s 0), true)), .fldAddr 2 (.v 1)⟩, ⟨.push, 13, (some ((.s 1), true)), .load false 1 (.s 0)⟩,
 ⟨.push, 14, (some ((.s 2), true)), .call 30 [(.s 0), (.c (.int .i64 (-1000000))), (I6 1000000)]⟩, PO 15 (.pick (.s 3) (.s 0) (.c (.bool false))), VS 2 2 0]) (.ret)), [.t 2]⟩
noncomputable def t_17 : List (Nat × Ctr) := [(30, c_15), (31, c_16)]
theorem lk_17_30 : look t_17 30 = some c_15 := rfl
theorem lk_17_31 : look t_17 31 = some c_16 := rfl
noncomputable def c_17 : Ctr := mkF t_17 ir17 [.bor]
theorem s_17 : Sound Tryz.prog 17 c_17 := mkF_sound _ rfl (snd_cons s_15 (snd_cons s_16 snd_nil)) (by kernel_rfl : chkFn Tryz.prog 17 ir17 ir17_v = true)
theorem M_17 : c_17.modes = [.bor] := rfl
theorem Fl_17 : c_17.flat = true := rfl
attribute [go_sem] M_17 Fl_17
attribute [go_sem] lk_17_30 lk_17_31
theorem Fs_17 {e_ : Entry} {y_ : Bool} (h : impl_ValidEntry e_ = some y_) : c_17.F [Entry_av e_] = ⟨true, .bool y_, [.any]⟩ := by
 refine mkF_E rfl ?_
 dsimp only [impl_ValidEntry] at h
 obtain ⟨y_1, z1, h⟩ := bd_some h
 have fz1 := Fs_15 z1
 try simp only [go_sem] at fz1
 obtain ⟨z2, h⟩ := ck_some h
 rcases or_split z2 with ⟨gz2, z2⟩ | gz2
 ·try simp only [go_sem, n1, n2, n3, n4] at gz2
  all_goals
  obtain ⟨y_2, hz2⟩ := Option.isSome_iff_exists.1 z2
  have fz2 := Fs_16 hz2
  try simp only [go_sem, n1, n2, n3, n4, gz2] at hz2
  all_goals
  try simp only [go_sem, gz2] at fz2
  obtain ⟨z3, h⟩ := ck_some h
  rcases or_split z3 with ⟨gz3, z3⟩ | gz3
  ·try simp only [go_sem, n1, n2, n3, n4, gz2, hz2] at gz3
   all_goals
   obtain ⟨y_3, hz3⟩ := Option.isSome_iff_exists.1 z3
   have fz3 := Fs_15 hz3
   try simp only [go_sem, n1, n2, n3, n4, gz2, hz2, gz3] at hz3
   all_goals
   try simp only [go_sem, gz2, hz2, gz3] at fz3
   obtain rfl := so_some h
   refine ⟨0, fun L hL => ?_⟩
   simp only [go_sem, ir17, fz1, gz2, hz2, fz2, gz3, hz3, fz3]
  ·rcases and_f gz3 with gz3a | ⟨gz3a, gz3b⟩
   ·try simp only [go_sem, n1, n2, n3, n4, gz2, hz2] at gz3a
    all_goals
    (simp_all)
   ·try simp only [go_sem, n1, n2, n3, n4, gz2, hz2] at gz3a
    all_goals
    try simp only [go_sem, n1, n2, n3, n4, gz2, hz2, gz3a] at gz3b
    all_goals
    obtain rfl := so_some h
    refine ⟨0, fun L hL => ?_⟩
    simp only [go_sem, ir17, fz1, gz2, hz2, fz2, gz3a, gz3b]
 ·try simp only [go_sem, n1, n2, n3, n4] at gz2
  all_goals
  obtain ⟨z3, h⟩ := ck_some h
  obtain rfl := so_some h
  refine ⟨0, fun L hL => ?_⟩
  simp only [go_sem, ir17, fz1, gz2]


def ir16_v : List Nat := [0, 1, 2]
def ir16 : AFn := ⟨1, 3, .seq (.region false [ VO 1 1 (.box (.v 0)), VO 2 2 (.mov (.c (.bool false)))]) (.seq (.region false [ PO 3 (.load true 3 (.v 1)), PO 4 (.call 17 [(.s 0)]), PO 5 (.un .not (.s 0)), VS 2 2 0]) (.ret)), [.t 2]⟩
noncomputable def t_18 : List (Nat × Ctr) := [(17, c_17)]
theorem lk_18_17 : look t_18 17 = some c_17 := rfl
noncomputable def c_18 : Ctr := mkF t_18 ir16 [.bor]
theorem s_18 : Sound Tryz.prog 16 c_18 := mkF_sound _ rfl (snd_cons s_17 snd_nil) (by kernel_rfl : chkFn Tryz.prog 16 ir16 ir16_v = true)
theorem M_18 : c_18.modes = [.bor] := rfl
theorem Fl_18 : c_18.flat = true := rfl
attribute [go_sem] M_18 Fl_18
attribute [go_sem] lk_18_17
theorem Fs_18 {e_ : Entry} {y_ : Bool} (h : impl_LogOf_c1 e_ = some y_) : c_18.F [Entry_av e_] = ⟨true, .bool y_, [.any]⟩ := by
 refine mkF_E rfl ?_
 dsimp only [impl_LogOf_c1] at h
 obtain ⟨y_1, z1, h⟩ := bd_some h
 have fz1 := Fs_17 z1
 try simp only [go_sem] at fz1
 obtain rfl := so_some h
 refine ⟨0, fun L hL => ?_⟩
 simp only [go_sem, ir16, fz1]


def ir29_b0 : IR := .seq (.region false [ VO 6 9 (.bin false .lss (.v 5) (.v 4))]) (.seq (.cond (.v 6) (.skip) (.exit 0)) (.seq (.block 1 (.seq (.region false [ PM 10 5, VS 3 5 0]) (.test false [ PM 11 1, PM 12 0, PM 13 3, PO 14 (.ixAddr 3 (.s 1) (.s 0)), PO 15 (.load true 3 (.s 0)), PO 16 (.callv (.s 4) [(.s 0)])] (.s 0) (.seq (.region false [ PM 17 3, VS 2 4 0]) (.ret)) (.skip)))) (.region false [ PO 18 (.bin false .add (.v 5) (I6 1)), VS 5 8 0])))
def ir29_k0 : List Bool := [true, true, false, false, true, true, false]
def ir29_o0 : List Bool := [false, false, false, false, false, false, false]
def ir29_r0 : List Bool := [false, false, true, false, false, false, false]
def ir29_v : List Nat := [0, 1, 4, 5, 7, 8, 9]
def ir29 : AFn := ⟨2, 7, .seq (.region false [ VO 2 4 (.mov (I6 0))]) (.seq (.seq (.region false [ PM 6 0, VO 4 7 (.len false (.s 0)), VO 5 8 (.mov (I6 0))]) (.block 0 (.loop ir29_k0 ir29_o0 ir29_r0 ir29_b0))) (.seq (.region false [ VO 2 4 (.mov (.c (.int .i64 (-1))))]) (.ret))), [.t 2]⟩
noncomputable def t_19 : List (Nat × Ctr) := [(16, c_18)]
theorem lk_19_16 : look t_19 16 = some c_18 := rfl
noncomputable def c_19 : Ctr := mkF t_19 ir29 [.bor, .bor]
theorem s_19 : Sound Tryz.prog 29 c_19 := mkF_sound _ rfl (snd_cons s_18 snd_nil) (by kernel_rfl : chkFn Tryz.prog 29 ir29 ir29_v = true)
theorem M_19 : c_19.modes = [.bor, .bor] := rfl
theorem Fl_19 : c_19.flat = true := rfl
attribute [go_sem] M_19 Fl_19
attribute [go_sem] lk_19_16
def E_19_l1 (s_ : List Entry) (t7 : Int) : Int → St
 | t8 => ⟨[.sl 3 (List.map Entry_av s_), .fn (.func 16) [] [], .any, .any, .int .i64 t7, .int .i64 t8, .any], [], [], true⟩
def R_19_l1 (s_ : List Entry) (t7 : Int) : (Unit ⊕ Int) → Res
 | .inl y => (.exit 0, ⟨[.any, .any, .any, .any, .any, .any, .any], [], [], true⟩)
 | .inr y => (.ret, ⟨[.any, .any, .int .i64 y, .any, .any, .any, .any], [], [], true⟩)
theorem slices_IndexFunc_impl_Entry_impl_Entry__impl_LogOf_c1_l1_ex {s_ : List Entry} {t7 : Int} {sgm_ : Int} {rho_ : Unit ⊕ Int} (h : whileE (slices_IndexFunc_impl_Entry_impl_Entry__impl_LogOf_c1_l1 s_ t7) sgm_ = some rho_) : ∃ L0, ∀ L, L0 ≤ L → iter (exec (look t_19) L ir29_b0) ir29_k0 ir29_o0 ir29_r0 L (E_19_l1 s_ t7 sgm_) = R_19_l1 s_ t7 rho_ := by
 refine loop_ex (E := E_19_l1 s_ t7) (R := R_19_l1 s_ t7) (fun y => by first | (intro c; cases c) | (rcases y with y | y <;> (intro c; cases c)) | (rcases y with y | y | y <;> (intro c; cases c))) ?_ h
 clear h
 intro t8 o_ h
 dsimp only [slices_IndexFunc_impl_Entry_impl_Entry__impl_LogOf_c1_l1] at h
 rcases it_some h with ⟨z1, h⟩ | ⟨z1, h⟩
 ·try simp only [go_sem, n1, n2, n3, n4] at z1
  all_goals
  obtain ⟨z2, h⟩ := ck_some h
  have lz2 := ix_lt z2
  have xz2 := getD_mapD Entry_av s_ lz2
  try simp only [go_sem] at lz2
  try simp only [go_sem] at xz2
  try simp only [go_sem, n1, n2, n3, n4, z1] at z2
  all_goals
  obtain ⟨y_3, z3, h⟩ := bd_some h
  have fz3 := Fs_18 z3
  try simp only [go_sem, z1, z2] at fz3
  rcases it_some h with ⟨z4, h⟩ | ⟨z4, h⟩
  ·try simp only [go_sem, n1, n2, n3, n4, z1, z2] at z4
   all_goals
   obtain rfl := so_some h
   refine ⟨0, fun L hL => ?_⟩
   simp only [go_sem, ir29, E_19_l1, R_19_l1, ir29_b0, ir29_k0, ir29_o0, ir29_r0, z1, z2, lz2, xz2, fz3, z4]
  ·try simp only [go_sem, n1, n2, n3, n4, z1, z2] at z4
   all_goals
   obtain rfl := so_some h
   refine ⟨0, fun L hL => ?_⟩
   simp only [go_sem, ir29, E_19_l1, R_19_l1, ir29_b0, ir29_k0, ir29_o0, ir29_r0, z1, z2, lz2, xz2, fz3, z4]
 ·try simp only [go_sem, n1, n2, n3, n4] at z1
  all_goals
  obtain rfl := so_some h
  refine ⟨0, fun L hL => ?_⟩
  simp only [go_sem, ir29, E_19_l1, R_19_l1, ir29_b0, ir29_k0, ir29_o0, ir29_r0, z1]

theorem Fs_19 {s_ : List Entry} {y_ : Int} (h : slices_IndexFunc_impl_Entry_impl_Entry__impl_LogOf_c1 s_ = some y_) : c_19.F [.sl 3 (List.map Entry_av s_), .fn (.func 16) [] []] = ⟨true, .int .i64 y_, [.any, .any]⟩ := by
 refine mkF_E rfl ?_
 dsimp only [slices_IndexFunc_impl_Entry_impl_Entry__impl_LogOf_c1] at h
 obtain ⟨y_5, z5, h⟩ := bd_some h
 obtain ⟨Lz5, ez5⟩ := slices_IndexFunc_impl_Entry_impl_Entry__impl_LogOf_c1_l1_ex z5
 rcases y_5 with y_5a | y_5b
 ·dsimp only at h
  obtain rfl := so_some h
  refine ⟨Lz5, fun L hL => ?_⟩
  have ez5 := ez5 L (by omega)
  try simp only [go_sem, E_19_l1, R_19_l1, ir29_k0, ir29_o0, ir29_r0] at ez5
  simp only [go_sem, ir29, E_19_l1, R_19_l1, ir29_k0, ir29_o0, ir29_r0, ez5]
 ·dsimp only at h
  obtain rfl := so_some h
  refine ⟨Lz5, fun L hL => ?_⟩
  have ez5 := ez5 L (by omega)
  try simp only [go_sem, E_19_l1, R_19_l1, ir29_k0, ir29_o0, ir29_r0] at ez5
  simp only [go_sem, ir29, E_19_l1, R_19_l1, ir29_k0, ir29_o0, ir29_r0, ez5]


def ir15_v : List Nat := [0, 1, 4]
def ir15 : AFn := ⟨2, 3, .seq (.region false [ VO 2 4 (.mov (.c (.bool false)))]) (.seq (.region false [ PM 5 0, PM 6 1, PO 7 (.call 29 [(.s 1), (.s 0)]), PO 8 (.bin false .geq (.s 0) (I6 0)), VS 2 4 0]) (.ret)), [.t 2]⟩
noncomputable def t_20 : List (Nat × Ctr) := [(29, c_19)]
theorem lk_20_29 : look t_20 29 = some c_19 := rfl
noncomputable def c_20 : Ctr := mkF t_20 ir15 [.bor, .bor]
theorem s_20 : Sound Tryz.prog 15 c_20 := mkF_sound _ rfl (snd_cons s_19 snd_nil) (by kernel_rfl : chkFn Tryz.prog 15 ir15 ir15_v = true)
theorem M_20 : c_20.modes = [.bor, .bor] := rfl
theorem Fl_20 : c_20.flat = true := rfl
attribute [go_sem] M_20 Fl_20
attribute [go_sem] lk_20_29
theorem Fs_20 {s_ : List Entry} {y_ : Bool} (h : slices_ContainsFunc_impl_Entry_impl_Entry__impl_LogOf_c1 s_ = some y_) : c_20.F [.sl 3 (List.map Entry_av s_), .fn (.func 16) [] []] = ⟨true, .bool y_, [.any, .any]⟩ := by
 refine mkF_E rfl ?_
 dsimp only [slices_ContainsFunc_impl_Entry_impl_Entry__impl_LogOf_c1] at h
 obtain ⟨y_1, z1, h⟩ := bd_some h
 have fz1 := Fs_19 z1
 try simp only [go_sem] at fz1
 obtain rfl := so_some h
 refine ⟨0, fun L hL => ?_⟩
 simp only [go_sem, ir15, fz1]


theorem s_hFmt : Sound Tryz.prog 52 c_hFmt := hFmt_is

def ir45_v : List Nat := [0, 1, 4]
def ir45 : AFn := ⟨2, 3, .seq (.region false [ VO 2 4 (.mov (.c (.str [])))]) (.seq (.region false [ PM 5 0, PM 6 1, PO 7 (.call 52 [(.s 1), (.s 0)]), VS 2 4 0]) (.ret)), [.t 2]⟩
noncomputable def t_22 : List (Nat × Ctr) := [(52, c_hFmt)]
theorem lk_22_52 : look t_22 52 = some c_hFmt := rfl
noncomputable def c_22 : Ctr := mkF t_22 ir45 [.bor, .bor]
theorem s_22 : Sound Tryz.prog 45 c_22 := mkF_sound _ rfl (snd_cons s_hFmt snd_nil) (by kernel_rfl : chkFn Tryz.prog 45 ir45 ir45_v = true)
theorem M_22 : c_22.modes = [.bor, .bor] := rfl
theorem Fl_22 : c_22.flat = true := rfl
attribute [go_sem] M_22 Fl_22
attribute [go_sem] lk_22_52
theorem Fs_22 {i : Int} {base : Int} {y_ : (List UInt8)} (h : strconv_FormatInt i base = some y_) : c_22.F [.int .i64 i, .int .i64 base] = ⟨true, .str y_, [.any, .any]⟩ := by
 refine mkF_E rfl ?_
 dsimp only [strconv_FormatInt] at h
 obtain ⟨y_1, z1, h⟩ := bd_some h
 have fz1 := Fs_hFmt z1
 try simp only [go_sem] at fz1
 obtain rfl := so_some h
 refine ⟨0, fun L hL => ?_⟩
 simp only [go_sem, ir45, fz1]


def ir34_v : List Nat := [0, 2]
def ir34 : AFn := ⟨1, 2, .seq (.region false [ VO 1 2 (.mov (.c (.str [])))]) (.seq (.region false [ PM 3 0, PO 4 (.call 45 [(.s 0), (I6 10)]), VS 1 2 0]) (.ret)), [.t 1]⟩
noncomputable def t_23 : List (Nat × Ctr) := [(45, c_22)]
theorem lk_23_45 : look t_23 45 = some c_22 := rfl
noncomputable def c_23 : Ctr := mkF t_23 ir34 [.bor]
theorem s_23 : Sound Tryz.prog 34 c_23 := mkF_sound _ rfl (snd_cons s_22 snd_nil) (by kernel_rfl : chkFn Tryz.prog 34 ir34 ir34_v = true)
theorem M_23 : c_23.modes = [.bor] := rfl
theorem Fl_23 : c_23.flat = true := rfl
attribute [go_sem] M_23 Fl_23
attribute [go_sem] lk_23_45
theorem Fs_23 {n : Int} {y_ : (List UInt8)} (h : impl_Decimal n = some y_) : c_23.F [.int .i64 n] = ⟨true, .str y_, [.any]⟩ := by
 refine mkF_E rfl ?_
 dsimp only [impl_Decimal] at h
 obtain ⟨y_1, z1, h⟩ := bd_some h
 have fz1 := Fs_22 z1
 try simp only [go_sem] at fz1
 obtain rfl := so_some h
 refine ⟨0, fun L hL => ?_⟩
 simp only [go_sem, ir34, fz1]


def ir32_v : List Nat := [0, 1, 2]
def ir32 : AFn := ⟨1, 3, .seq (.region false [ VO 1 1 (.box (.v 0)), VO 2 2 (.mov (.c (.str [])))]) (.seq (.anyo 12 [ SO 0 3 (.fldAddr 0 (.v 1)), SO 1 4 (.load false 1 (.s 0)), SO 2 5 (.callp 34 [(.s 1)]), SO 3 6 (.bin false .add (.s 2) (.c (.str [32]))), SO 4 7 (.fldAddr 1 (.v 1)), SO 5 8 (.load false 1 (.s 4)), SO 6 9 (.bin false .add (.s 3) (.s 5)), SO 7 10 (.bin false .add (.s 6) (.c (.str [32]))), SO 8 11 (.fldAddr 2 (.v 1)), SO 9 12 (.load false 1 (.s 8)), SO 10 13 (.callp 34 [(.s 9)]), SO 11 14 (.bin false .add (.s 7) (.s 10)), VS 2 2 11] [] .skip) (.ret)), [.t 2]⟩
noncomputable def t_24 : List (Nat × Ctr) := [(34, c_23)]
theorem lk_24_34 : look t_24 34 = some c_23 := rfl
noncomputable def c_24 : Ctr := mkF t_24 ir32 [.bor]
theorem s_24 : Sound Tryz.prog 32 c_24 := mkF_sound _ rfl (snd_cons s_23 snd_nil) (by kernel_rfl : chkFn Tryz.prog 32 ir32 ir32_v = true)
theorem M_24 : c_24.modes = [.bor] := rfl
theorem Fl_24 : c_24.flat = true := rfl
attribute [go_sem] M_24 Fl_24
attribute [go_sem] lk_24_34
theorem Fs_24 {e_ : Entry} {y_ : (List UInt8)} (h : impl_Entry_words e_ = some y_) : c_24.F [Entry_av e_] = ⟨true, .str y_, [.any]⟩ := by
 refine mkF_E rfl ?_
 dsimp only [impl_Entry_words] at h
 obtain ⟨y_1, z1, h⟩ := bd_some h
 have fz1 := Fs_23 z1
 try simp only [go_sem] at fz1
 obtain ⟨z2, h⟩ := ck_some h
 try simp only [go_sem, n1, n2, n3, n4] at z2
 all_goals
 obtain ⟨z3, h⟩ := ck_some h
 try simp only [go_sem, n1, n2, n3, n4, z2] at z3
 all_goals
 obtain ⟨z4, h⟩ := ck_some h
 try simp only [go_sem, n1, n2, n3, n4, z2, z3] at z4
 all_goals
 obtain ⟨y_5, z5, h⟩ := bd_some h
 have fz5 := Fs_23 z5
 try simp only [go_sem, z2, z3, z4] at fz5
 obtain ⟨z6, h⟩ := ck_some h
 try simp only [go_sem, n1, n2, n3, n4, z2, z3, z4] at z6
 all_goals
 obtain rfl := so_some h
 refine ⟨0, fun L hL => ?_⟩
 simp only [go_sem, ir32, fz1, z2, z3, z4, fz5, z6]


def ir18_b0 : IR := .seq (.region false [ VO 9 16 (.bin false .lss (.v 8) (.v 7))]) (.seq (.cond (.v 9) (.skip) (.exit 0)) (.seq (.block 1 (.seq (.region false [ PM 17 8, VS 6 7 0]) (.region false [ PM 18 4, PO 19 (.bin false .mul (I6 31) (.s 0)), PM 20 5, PM 21 6, PO 22 (.ixStr (.s 1) (.s 0)), PO 23 (.conv .i64 (.s 0)), PO 24 (.bin false .add (.s 4) (.s 0)), PO 25 (.bin false .rem (.s 0) (I6 65521)), VS 4 5 0]))) (.region false [ PO 26 (.bin false .add (.v 8) (I6 1)), VS 8 15 0])))
def ir18_k0 : List Bool := [false, false, false, false, true, true, false, true, true, false]
def ir18_o0 : List Bool := [false, false, false, false, true, false, false, false, false, false]
def ir18_r0 : List Bool := [false, false, false, true, false, false, false, false, false, false]
def ir18_v : List Nat := [0, 1, 3, 4, 5, 6, 7, 14, 15, 16]
def ir18 : AFn := ⟨2, 10, .seq (.region false [ VO 2 3 (.box (.v 1)), VO 3 4 (.mov (I6 0))]) (.seq (.region false [ PM 8 0, PO 9 (.bin false .add (.s 0) (I6 23)), PO 10 (.bin false .rem (.s 0) (I6 65521)), PO 11 (.load true 3 (.v 2)), PO 12 (.call 32 [(.s 0)]), VS 4 5 2, VS 5 6 0]) (.seq (.seq (.region false [ PM 13 5, VO 7 14 (.len true (.s 0)), VO 8 15 (.mov (I6 0))]) (.block 0 (.loop ir18_k0 ir18_o0 ir18_r0 ir18_b0))) (.seq (.region false [ PM 27 4, VS 3 4 0]) (.ret)))), [.t 3]⟩
noncomputable def t_25 : List (Nat × Ctr) := [(32, c_24)]
theorem lk_25_32 : look t_25 32 = some c_24 := rfl
noncomputable def c_25 : Ctr := mkF t_25 ir18 [.bor, .bor]
theorem s_25 : Sound Tryz.prog 18 c_25 := mkF_sound _ rfl (snd_cons s_24 snd_nil) (by kernel_rfl : chkFn Tryz.prog 18 ir18 ir18_v = true)
theorem M_25 : c_25.modes = [.bor, .bor] := rfl
theorem Fl_25 : c_25.flat = true := rfl
attribute [go_sem] M_25 Fl_25
attribute [go_sem] lk_25_32
def E_25_l1 (words : List UInt8) (t14 : Int) : (Int × Int) → St
 | (sum, t15) => ⟨[.any, .any, .any, .any, .int .i64 sum, .str words, .any, .int .i64 t14, .int .i64 t15, .any], [], [], true⟩
def R_25_l1 (words : List UInt8) (t14 : Int) (y : Int) : Res := (.exit 0, ⟨[.any, .any, .any, .any, .int .i64 y, .any, .any, .any, .any, .any], [], [], true⟩)
theorem impl_stamp_l1_ex {words : List UInt8} {t14 : Int} {sgm_ : Int × Int} {rho_ : Int} (h : whileE (impl_stamp_l1 words t14) sgm_ = some rho_) : ∃ L0, ∀ L, L0 ≤ L → iter (exec (look t_25) L ir18_b0) ir18_k0 ir18_o0 ir18_r0 L (E_25_l1 words t14 sgm_) = R_25_l1 words t14 rho_ := by
 refine loop_ex (E := E_25_l1 words t14) (R := R_25_l1 words t14) (fun y => by first | (intro c; cases c) | (rcases y with y | y <;> (intro c; cases c)) | (rcases y with y | y | y <;> (intro c; cases c))) ?_ h
 clear h
 rintro ⟨sum, t15⟩ o_ h
 dsimp only [impl_stamp_l1] at h
 rcases it_some h with ⟨z3, h⟩ | ⟨z3, h⟩
 ·try simp only [go_sem, n1, n2, n3, n4] at z3
  all_goals
  obtain ⟨z4, h⟩ := ck_some h
  try simp only [go_sem, n1, n2, n3, n4, z3] at z4
  all_goals
  obtain ⟨z5, h⟩ := ck_some h
  try simp only [go_sem, n1, n2, n3, n4, z3, z4] at z5
  all_goals
  obtain rfl := so_some h
  refine ⟨0, fun L hL => ?_⟩
  simp only [go_sem, ir18, E_25_l1, R_25_l1, ir18_b0, ir18_k0, ir18_o0, ir18_r0, z3, z4, z5]
 ·try simp only [go_sem, n1, n2, n3, n4] at z3
  all_goals
  obtain rfl := so_some h
  refine ⟨0, fun L hL => ?_⟩
  simp only [go_sem, ir18, E_25_l1, R_25_l1, ir18_b0, ir18_k0, ir18_o0, ir18_r0, z3]

theorem Fs_25 {before : Int} {e_ : Entry} {y_ : Int} (h : impl_stamp before e_ = some y_) : c_25.F [.int .i64 before, Entry_av e_] = ⟨true, .int .i64 y_, [.any, .any]⟩ := by
 refine mkF_E rfl ?_
 dsimp only [impl_stamp] at h
 obtain ⟨z1, h⟩ := ck_some h
 try simp only [go_sem, n1, n2, n3, n4] at z1
 all_goals
 obtain ⟨y_2, z2, h⟩ := bd_some h
 have fz2 := Fs_24 z2
 try simp only [go_sem, z1] at fz2
 obtain ⟨y_6, z6, h⟩ := bd_some h
 obtain ⟨Lz6, ez6⟩ := impl_stamp_l1_ex z6
 obtain rfl := so_some h
 refine ⟨Lz6, fun L hL => ?_⟩
 have ez6 := ez6 L (by omega)
 try simp only [go_sem, E_25_l1, R_25_l1, ir18_k0, ir18_o0, ir18_r0, z1] at ez6
 simp only [go_sem, ir18, E_25_l1, R_25_l1, ir18_k0, ir18_o0, ir18_r0, z1, fz2, ez6]


def ir20_v : List Nat := [0, 1, 2, 4]
def ir20 : AFn := ⟨2, 4, .seq (.region false [ VO 2 2 (.box (.v 0)), VO 3 4 (.mov (.c (.str [])))]) (.seq (.region false [ PO 5 (.load true 3 (.v 2)), PO 6 (.call 32 [(.s 0)]), PO 7 (.bin false .add (.s 0) (.c (.str [32]))), PM 8 1, PO 9 (.call 34 [(.s 0)]), PO 10 (.bin false .add (.s 2) (.s 0)), PO 11 (.bin false .add (.s 0) (.c (.str [10]))), VS 3 4 0]) (.ret)), [.t 3]⟩
noncomputable def t_26 : List (Nat × Ctr) := [(32, c_24), (34, c_23)]
theorem lk_26_32 : look t_26 32 = some c_24 := rfl
theorem lk_26_34 : look t_26 34 = some c_23 := rfl
noncomputable def c_26 : Ctr := mkF t_26 ir20 [.bor, .bor]
theorem s_26 : Sound Tryz.prog 20 c_26 := mkF_sound _ rfl (snd_cons s_24 (snd_cons s_23 snd_nil)) (by kernel_rfl : chkFn Tryz.prog 20 ir20 ir20_v = true)
theorem M_26 : c_26.modes = [.bor, .bor] := rfl
theorem Fl_26 : c_26.flat = true := rfl
attribute [go_sem] M_26 Fl_26
attribute [go_sem] lk_26_32 lk_26_34
theorem Fs_26 {e_ : Entry} {stamp : Int} {y_ : (List UInt8)} (h : impl_lineOf e_ stamp = some y_) : c_26.F [Entry_av e_, .int .i64 stamp] = ⟨true, .str y_, [.any, .any]⟩ := by
 refine mkF_E rfl ?_
 dsimp only [impl_lineOf] at h
 obtain ⟨y_1, z1, h⟩ := bd_some h
 have fz1 := Fs_24 z1
 try simp only [go_sem] at fz1
 obtain ⟨z2, h⟩ := ck_some h
 try simp only [go_sem, n1, n2, n3, n4] at z2
 all_goals
 obtain ⟨y_3, z3, h⟩ := bd_some h
 have fz3 := Fs_23 z3
 try simp only [go_sem, z2] at fz3
 obtain ⟨z4, h⟩ := ck_some h
 try simp only [go_sem, n1, n2, n3, n4, z2] at z4
 all_goals
 obtain ⟨z5, h⟩ := ck_some h
 try simp only [go_sem, n1, n2, n3, n4, z2, z4] at z5
 all_goals
 obtain rfl := so_some h
 refine ⟨0, fun L hL => ?_⟩
 simp only [go_sem, ir20, fz1, z2, fz3, z4, z5]



end Go.Proofs.YtlcabohpeopdcaaGreatDoor
