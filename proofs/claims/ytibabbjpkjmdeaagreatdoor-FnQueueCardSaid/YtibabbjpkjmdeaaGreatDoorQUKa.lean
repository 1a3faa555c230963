/- Codes and contracts of the functions that QU reaches, and that their typed forms say what they do. No condition. -/
import Derived.Test.YtibabbjpkjmdeaaGreatDoorQUT
import Derived.Test.YtibabbjpkjmdeaaGreatDoorEngSCut
import Derived.Test.YtibabbjpkjmdeaaGreatDoorEngSF
import Derived.Test.YtibabbjpkjmdeaaGreatDoorEngSJ
import Derived.Test.YtibabbjpkjmdeaaGreatDoorEngSRd
import Derived.Test.YtibabbjpkjmdeaaGreatDoorRows
import Derived.WalkKit
namespace Go.Proofs.YtibabbjpkjmdeaaGreatDoor
open Go Go.RowKit
set_option linter.unusedVariables false
set_option linter.unusedSimpArgs false
set_option maxRecDepth 10000

def ir5_v : List Nat := [0, 2]
def ir5 : AFn := ⟨1, 2, .seq (.region false [ VO 1 2 (.mov (.c (.bool false)))]) (.seq (.region false [ PM 3 0, PO 4 (.len false (.s 0)), PO 5 (.bin false .gtr (.s 0) (I6 4096)), VS 1 2 0]) (.ret)), [.t 1]⟩
noncomputable def t_0 : List (Nat × Ctr) := []
noncomputable def c_0 : Ctr := mkF t_0 ir5 [.bor]
theorem s_0 : Sound Tryz.prog 5 c_0 := mkF_sound _ rfl snd_nil (by kernel_rfl : chkFn Tryz.prog 5 ir5 ir5_v = true)
theorem M_0 : c_0.modes = [.bor] := rfl
theorem Fl_0 : c_0.flat = true := rfl
attribute [go_sem] M_0 Fl_0
theorem Fs_0 {code : List UInt8} {y_ : Bool} (h : laws_f6big code = some y_) : c_0.F [.sl 1 (List.map byteAV code)] = ⟨true, .bool y_, [.any]⟩ := by
 refine mkF_E rfl ?_
 dsimp only [laws_f6big] at h
 obtain rfl := so_some h
 refine ⟨0, fun L hL => ?_⟩
 simp only [go_sem, ir5]


def ir54_v : List Nat := [0, 2]
def ir54 : AFn := ⟨1, 2, .seq (.region false [ VO 1 2 (.mov (.c (.cv (.pointer none))))]) (.seq (.region false [ PM 3 0, PO 4 (.build [.sl 1 [], .int .i64 (0), .int .u64 (0)] [(0, 1, (.s 0))]), PO 5 (.box (.s 0)), VS 1 2 0]) (.ret)), [.t 1]⟩
noncomputable def t_1 : List (Nat × Ctr) := []
noncomputable def c_1 : Ctr := mkN t_1 ir54 [.bor]
theorem s_1 : Sound Tryz.prog 54 c_1 := mkN_sound _ snd_nil (by kernel_rfl : chkFn Tryz.prog 54 ir54 ir54_v = true)
theorem M_1 : c_1.modes = [.bor] := rfl
theorem Fl_1 : c_1.flat = false := rfl
attribute [go_sem] M_1 Fl_1
theorem Fs_1 {code : List UInt8} {y_ : L00Src} (h : spec_l00From code = some y_) : c_1.F [.sl 1 (List.map byteAV code)] = ⟨true, .mem 3 [L00Src_av y_] 0, [.any]⟩ := by
 refine mkN_E ?_
 dsimp only [spec_l00From] at h
 obtain rfl := so_some h
 refine ⟨0, fun L hL => ?_⟩
 simp only [go_sem, ir54]


def ir125_v : List Nat := [0, 2, 3]
def ir125 : AFn := ⟨1, 3, .seq (.region false [ VO 1 2 (.mov (I6 0))]) (.seq (.region false [ VO 2 3 (.mov (I6 0))]) (.seq (.anyo 10 [ SO 0 4 (.mov (.v 0)), SO 1 5 (.nilck (.s 0)), SO 2 6 (.fldAddr 1 (.s 1)), SO 3 7 (.load false 1 (.s 2)), SO 4 8 (.mov (.v 0)), SO 5 9 (.nilck (.s 4)), SO 6 10 (.fldAddr 0 (.s 5)), SO 7 11 (.load false 1 (.s 6)), SO 8 12 (.len false (.s 7)), SO 9 13 (.bin false .lss (.s 3) (.s 8))] [] (.cond (.s 9) (.anyo 11 [ SO 0 14 (.mov (.v 0)), SO 1 15 (.nilck (.s 0)), SO 2 16 (.fldAddr 0 (.s 1)), SO 3 17 (.load false 1 (.s 2)), SO 4 18 (.mov (.v 0)), SO 5 19 (.nilck (.s
 4)), SO 6 20 (.fldAddr 1 (.s 5)), SO 7 21 (.load false 1 (.s 6)), SO 8 22 (.ixAddr 1 (.s 3) (.s 7)), SO 9 23 (.load false 1 (.s 8)), SO 10 24 (.conv .i64 (.s 9)), VS 2 3 10] [] .skip) (.skip))) (.seq (.region false [ PM 25 0, PO 26 (.nilck (.s 0)), PO 27 (.fldAddr 1 (.s 0)), PO 28 (.load false 1 (.s 0)), PO 29 (.bin false .add (.s 0) (I6 1)), PO 30 (.nilck (.s 4)), PO 31 (.fldAddr 1 (.s 0)), ⟨.no, 0, none, .store 1 (.s 0) (.s 2)⟩]) (.seq (.region false [ PM 32 0, PM 33 0, PO 34 (.nilck (.s 0)), PO 35 (.fldAddr 2 (.s 0)), PO 36 (.load false 1 (.s 0)), PO 37 (.bin false .mul (.s 0) (.c (.int
 .u64 (6364136223846793005)))), PM 38 2, PO 39 (.conv .u64 (.s 0)), PO 40 (.bin false .add (.s 2) (.s 0)), PO 41 (.bin false .add (.s 0) (.c (.int .u64 (1442695040888963407)))), PO 42 (.nilck (.s 9)), PO 43 (.fldAddr 2 (.s 0)), ⟨.no, 0, none, .store 1 (.s 0) (.s 2)⟩]) (.seq (.anyo 10 [ SO 0 44 (.mov (.v 0)), SO 1 45 (.nilck (.s 0)), SO 2 46 (.fldAddr 1 (.s 1)), SO 3 47 (.load false 1 (.s 2)), SO 4 48 (.mov (.v 0)), SO 5 49 (.nilck (.s 4)), SO 6 50 (.fldAddr 0 (.s 5)), SO 7 51 (.load false 1 (.s 6)), SO 8 52 (.len false (.s 7)), SO 9 53 (.bin false .leq (.s 3) (.s 8))] [] (.cond (.s 9) (.seq
 (.region false [ PM 54 2, VS 1 2 0]) (.ret)) (.skip))) (.seq (.region false [ PM 55 0, PO 56 (.nilck (.s 0)), PO 57 (.fldAddr 2 (.s 0)), PO 58 (.load false 1 (.s 0)), PO 59 (.bin false .shr (.s 0) (.c (.int .u64 (40)))), PO 60 (.bin false .and (.s 0) (.c (.int .u64 (255)))), PO 61 (.conv .i64 (.s 0)), VS 1 2 0]) (.ret))))))), [.t 1]⟩
noncomputable def t_2 : List (Nat × Ctr) := []
noncomputable def c_2 : Ctr := mkN t_2 ir125 [.io]
theorem s_2 : Sound Tryz.prog 125 c_2 := mkN_sound _ snd_nil (by kernel_rfl : chkFn Tryz.prog 125 ir125 ir125_v = true)
theorem M_2 : c_2.modes = [.io] := rfl
theorem Fl_2 : c_2.flat = false := rfl
attribute [go_sem] M_2 Fl_2
theorem Fs_2 {s_ : L00Src} {y_ : Int × L00Src} (h : spec_l00Src_next s_ = some y_) : c_2.F [.mem 3 [L00Src_av s_] 0] = ⟨true, .int .i64 y_.1, [.mem 3 [L00Src_av y_.2] 0]⟩ := by
 refine mkN_E ?_
 dsimp only [spec_l00Src_next] at h
 rcases it_some h with ⟨z1, h⟩ | ⟨z1, h⟩
 ·try simp only [go_sem, n1, n2, n3, n4] at z1
  all_goals
  obtain ⟨z2, h⟩ := ck_some h
  have lz2 := ix_lt z2
  have xz2 := getD_mapD byteAV s_.code_ lz2
  try simp only [go_sem] at lz2
  try simp only [go_sem] at xz2
  try simp only [go_sem, n1, n2, n3, n4, z1] at z2
  all_goals
  rcases it_some h with ⟨z3, h⟩ | ⟨z3, h⟩
  ·try simp only [go_sem, n1, n2, n3, n4, z1, z2] at z3
   all_goals
   obtain rfl := so_some h
   refine ⟨0, fun L hL => ?_⟩
   simp only [go_sem, ir125, z1, z2, lz2, xz2, z3]
  ·try simp only [go_sem, n1, n2, n3, n4, z1, z2] at z3
   all_goals
   obtain ⟨z4, h⟩ := ck_some h
   try simp only [go_sem, n1, n2, n3, n4, z1, z2, z3] at z4
   all_goals
   obtain rfl := so_some h
   refine ⟨0, fun L hL => ?_⟩
   simp only [go_sem, ir125, z1, z2, lz2, xz2, z3, z4]
 ·try simp only [go_sem, n1, n2, n3, n4] at z1
  all_goals
  rcases it_some h with ⟨z5, h⟩ | ⟨z5, h⟩
  ·try simp only [go_sem, n1, n2, n3, n4, z1] at z5
   all_goals
   obtain rfl := so_some h
   refine ⟨0, fun L hL => ?_⟩
   simp only [go_sem, ir125, z1, z5]
  ·try simp only [go_sem, n1, n2, n3, n4, z1] at z5
   all_goals
   obtain ⟨z6, h⟩ := ck_some h
   try simp only [go_sem, n1, n2, n3, n4, z1, z5] at z6
   all_goals
   obtain rfl := so_some h
   refine ⟨0, fun L hL => ?_⟩
   simp only [go_sem, ir125, z1, z5, z6]


def ir70_v : List Nat := [0, 1, 4, 5]
def ir70 : AFn := ⟨2, 4, .seq (.region false [ VO 2 4 (.mov (I6 0))]) (.seq (.test false [ PM 6 1, PO 7 (.bin false .leq (.s 0) (I6 1))] (.s 0) (.seq (.region false [ VO 2 4 (.mov (I6 0))]) (.ret)) (.skip)) (.seq (.region false [ PM 8 0, PO 9 (.call 125 [(.s 0)]), VS 3 5 0]) (.seq (.test false [ PM 10 1, PO 11 (.bin false .gtr (.s 0) (I6 200))] (.s 0) (.region false [ PM 12 3, PO 13 (.bin false .mul (.s 0) (I6 256)), PM 14 0, PO 15 (.call 125 [(.s 0)]), PO 16 (.bin false .add (.s 2) (.s 0)), VS 3 5 0]) (.skip)) (.seq (.region false [ PM 17 3, PM 18 1, PO 19 (.bin false .rem (.s 1) (.s 0)), VS 2
 4 0]) (.ret))))), [.t 2]⟩
noncomputable def t_3 : List (Nat × Ctr) := [(125, c_2)]
theorem lk_3_125 : look t_3 125 = some c_2 := rfl
noncomputable def c_3 : Ctr := mkN t_3 ir70 [.io, .bor]
theorem s_3 : Sound Tryz.prog 70 c_3 := mkN_sound _ (snd_cons s_2 snd_nil) (by kernel_rfl : chkFn Tryz.prog 70 ir70 ir70_v = true)
theorem M_3 : c_3.modes = [.io, .bor] := rfl
theorem Fl_3 : c_3.flat = false := rfl
attribute [go_sem] M_3 Fl_3
attribute [go_sem] lk_3_125
theorem Fs_3 {s_ : L00Src} {n : Int} {y_ : Int × L00Src} (h : spec_l00Src_pick s_ n = some y_) : c_3.F [.mem 3 [L00Src_av s_] 0, .int .i64 n] = ⟨true, .int .i64 y_.1, [.mem 3 [L00Src_av y_.2] 0, .any]⟩ := by
 refine mkN_E ?_
 dsimp only [spec_l00Src_pick] at h
 rcases it_some h with ⟨z1, h⟩ | ⟨z1, h⟩
 ·try simp only [go_sem, n1, n2, n3, n4] at z1
  all_goals
  obtain rfl := so_some h
  refine ⟨0, fun L hL => ?_⟩
  simp only [go_sem, ir70, z1]
 ·try simp only [go_sem, n1, n2, n3, n4] at z1
  all_goals
  obtain ⟨y_2, z2, h⟩ := bd_some h
  have fz2 := Fs_2 z2
  try simp only [go_sem, z1] at fz2
  rcases it_some h with ⟨z3, h⟩ | ⟨z3, h⟩
  ·try simp only [go_sem, n1, n2, n3, n4, z1] at z3
   all_goals
   obtain ⟨y_4, z4, h⟩ := bd_some h
   have fz4 := Fs_2 z4
   try simp only [go_sem, z1, z3] at fz4
   obtain ⟨z5, h⟩ := ck_some h
   try simp only [go_sem, n1, n2, n3, n4, z1, z3] at z5
   all_goals
   obtain rfl := so_some h
   refine ⟨0, fun L hL => ?_⟩
   simp only [go_sem, ir70, z1, fz2, z3, fz4, z5]
  ·try simp only [go_sem, n1, n2, n3, n4, z1] at z3
   all_goals
   obtain ⟨z6, h⟩ := ck_some h
   try simp only [go_sem, n1, n2, n3, n4, z1, z3] at z6
   all_goals
   obtain rfl := so_some h
   refine ⟨0, fun L hL => ?_⟩
   simp only [go_sem, ir70, z1, fz2, z3, z6]


def ir58_v : List Nat := [0, 1, 4]
def ir58 : AFn := ⟨2, 3, .seq (.region false [ VO 2 4 (.mov (.c (.bool false)))]) (.seq (.region false [ PM 5 0, PM 6 1, PO 7 (.call 70 [(.s 1), (.s 0)]), PO 8 (.bin false .eql (.s 0) (I6 0)), VS 2 4 0]) (.ret)), [.t 2]⟩
noncomputable def t_4 : List (Nat × Ctr) := [(70, c_3)]
theorem lk_4_70 : look t_4 70 = some c_3 := rfl
noncomputable def c_4 : Ctr := mkN t_4 ir58 [.io, .bor]
theorem s_4 : Sound Tryz.prog 58 c_4 := mkN_sound _ (snd_cons s_3 snd_nil) (by kernel_rfl : chkFn Tryz.prog 58 ir58 ir58_v = true)
theorem M_4 : c_4.modes = [.io, .bor] := rfl
theorem Fl_4 : c_4.flat = false := rfl
attribute [go_sem] M_4 Fl_4
attribute [go_sem] lk_4_70
theorem Fs_4 {s_ : L00Src} {n : Int} {y_ : Bool × L00Src} (h : spec_l00Src_one s_ n = some y_) : c_4.F [.mem 3 [L00Src_av s_] 0, .int .i64 n] = ⟨true, .bool y_.1, [.mem 3 [L00Src_av y_.2] 0, .any]⟩ := by
 refine mkN_E ?_
 dsimp only [spec_l00Src_one] at h
 obtain ⟨y_1, z1, h⟩ := bd_some h
 have fz1 := Fs_3 z1
 try simp only [go_sem] at fz1
 obtain rfl := so_some h
 refine ⟨0, fun L hL => ?_⟩
 simp only [go_sem, ir58, fz1]


def ir120_v : List Nat := [0, 1, 4]
def ir120 : AFn := ⟨2, 3, .seq (.region false [ VO 2 4 (.mov (.c (.str [])))]) (.seq (.region false [ PM 5 1, PM 6 0, PM 7 1, PO 8 (.len false (.s 0)), PO 9 (.call 70 [(.s 2), (.s 0)]), PO 10 (.ixAddr 1 (.s 4) (.s 0)), PO 11 (.load false 1 (.s 0)), VS 2 4 0]) (.ret)), [.t 2]⟩
noncomputable def t_5 : List (Nat × Ctr) := [(70, c_3)]
theorem lk_5_70 : look t_5 70 = some c_3 := rfl
noncomputable def c_5 : Ctr := mkN t_5 ir120 [.io, .bor]
theorem s_5 : Sound Tryz.prog 120 c_5 := mkN_sound _ (snd_cons s_3 snd_nil) (by kernel_rfl : chkFn Tryz.prog 120 ir120 ir120_v = true)
theorem M_5 : c_5.modes = [.io, .bor] := rfl
theorem Fl_5 : c_5.flat = false := rfl
attribute [go_sem] M_5 Fl_5
attribute [go_sem] lk_5_70
theorem Fs_5 {s_ : L00Src} {list : List (List UInt8)} {y_ : (List UInt8) × L00Src} (h : spec_l00Src_text s_ list = some y_) : c_5.F [.mem 3 [L00Src_av s_] 0, .sl 1 (List.map AV.str list)] = ⟨true, .str y_.1, [.mem 3 [L00Src_av y_.2] 0, .any]⟩ := by
 refine mkN_E ?_
 dsimp only [spec_l00Src_text] at h
 obtain ⟨y_1, z1, h⟩ := bd_some h
 have fz1 := Fs_3 z1
 try simp only [go_sem] at fz1
 obtain ⟨z2, h⟩ := ck_some h
 have lz2 := ix_lt z2
 have xz2 := getD_mapD AV.str list lz2
 try simp only [go_sem] at lz2
 try simp only [go_sem] at xz2
 try simp only [go_sem, n1, n2, n3, n4] at z2
 all_goals
 obtain rfl := so_some h
 refine ⟨0, fun L hL => ?_⟩
 simp only [go_sem, ir120, fz1, z2, lz2, xz2]


def ir103_v : List Nat := [0, 2, 3]
def ir103 : AFn := ⟨1, 3, .seq (.region false [ VO 1 2 (.alloc (.agg [.str [], .int .i64 (0), .int .i64 (0), .int .i64 (0), .int .i64 (0), .int .i64 (0)]))]) (.seq (.region false [ PM 4 0, PO 5 (.mkSl 1 (.str []) 3 [(0, (.c (.str [109, 105, 114, 97]))), (1, (.c (.str [114, 114, 45, 108, 121, 114]))), (2, (.c (.str [115, 115, 45, 99, 121, 103])))]), PO 6 (.call 120 [(.s 1), (.s 0)]), PO 7 (.build [.str [], .int .i64 (0), .int .i64 (0), .int .i64 (0), .int .i64 (0), .int .i64 (0)] [(0, 1, (.s 0))]), VO 2 3 (.alloc (.agg [.str [], .int .i64 (0), .int .i64 (0), .int .i64 (0), .int .i64 (0), .int
 .i64 (0)])), ⟨.no, 0, none, .store 6 (.v 2) (.s 0)⟩]) (.seq (.region false [ PM 8 0, PO 9 (.call 70 [(.s 0), (I6 25)]), PO 10 (.bin false .mul (I6 1000) (.s 0)), PO 11 (.fldAddr 1 (.v 2)), ⟨.no, 0, none, .store 1 (.s 0) (.s 1)⟩]) (.seq (.anyo 7 [ SO 0 12 (.fldAddr 1 (.v 2)), SO 1 13 (.load false 1 (.s 0)), SO 2 14 (.mov (.v 0)), SO 3 15 (.call 70 [(.s 2), (I6 15)]), SO 4 16 (.bin false .mul (I6 1000) (.s 3)), SO 5 17 (.bin false .add (.s 1) (.s 4)), SO 6 18 (.fldAddr 2 (.v 2)), ⟨.no, 0, none, .store 1 (.s 6) (.s 5)⟩] [[2, 0, 1, 3, 4, 5, 6, 7], [2, 0, 3, 1, 4, 5, 6, 7], [2, 3, 0, 1, 4, 5, 6,
 7]] .skip) (.seq (.region false [ PM 19 0, PO 20 (.call 70 [(.s 0), (I6 5)]), PO 21 (.bin false .add (I6 1) (.s 0)), PO 22 (.fldAddr 3 (.v 2)), ⟨.no, 0, none, .store 1 (.s 0) (.s 1)⟩]) (.seq (.region false [ PM 23 0, PO 24 (.fldAddr 3 (.v 2)), PO 25 (.load false 1 (.s 0)), PO 26 (.bin false .add (.s 0) (I6 1)), PO 27 (.call 70 [(.s 3), (.s 0)]), PO 28 (.fldAddr 4 (.v 2)), ⟨.no, 0, none, .store 1 (.s 0) (.s 1)⟩]) (.seq (.region false [ PM 29 0, PO 30 (.call 70 [(.s 0), (I6 5)]), PO 31 (.bin false .add (I6 1) (.s 0)), PO 32 (.fldAddr 5 (.v 2)), ⟨.no, 0, none, .store 1 (.s 0) (.s 1)⟩]) (.seq
 (.region false [ PO 33 (.load true 6 (.v 2)), ⟨.no, 0, none, .store 6 (.v 1) (.s 0)⟩]) (.ret)))))))), [.cell true 6 1]⟩
noncomputable def t_6 : List (Nat × Ctr) := [(120, c_5), (70, c_3)]
theorem lk_6_120 : look t_6 120 = some c_5 := rfl
theorem lk_6_70 : look t_6 70 = some c_3 := rfl
noncomputable def c_6 : Ctr := mkN t_6 ir103 [.io]
theorem s_6 : Sound Tryz.prog 103 c_6 := mkN_sound _ (snd_cons s_5 (snd_cons s_3 snd_nil)) (by kernel_rfl : chkFn Tryz.prog 103 ir103 ir103_v = true)
theorem M_6 : c_6.modes = [.io] := rfl
theorem Fl_6 : c_6.flat = false := rfl
attribute [go_sem] M_6 Fl_6
attribute [go_sem] lk_6_120 lk_6_70
theorem Fs_6 {s_ : L00Src} {y_ : Request × L00Src} (h : spec_l22New s_ = some y_) : c_6.F [.mem 3 [L00Src_av s_] 0] = ⟨true, Request_av y_.1, [.mem 3 [L00Src_av y_.2] 0]⟩ := by
 refine mkN_E ?_
 dsimp only [spec_l22New] at h
 obtain ⟨y_1, z1, h⟩ := bd_some h
 have fz1 := Fs_5 z1
 try simp only [go_sem] at fz1
 obtain ⟨y_2, z2, h⟩ := bd_some h
 have fz2 := Fs_3 z2
 try simp only [go_sem] at fz2
 obtain ⟨y_3, z3, h⟩ := bd_some h
 have fz3 := Fs_3 z3
 try simp only [go_sem] at fz3
 obtain ⟨y_4, z4, h⟩ := bd_some h
 have fz4 := Fs_3 z4
 try simp only [go_sem] at fz4
 obtain ⟨y_5, z5, h⟩ := bd_some h
 have fz5 := Fs_3 z5
 try simp only [go_sem] at fz5
 obtain ⟨y_6, z6, h⟩ := bd_some h
 have fz6 := Fs_3 z6
 try simp only [go_sem] at fz6
 obtain rfl := so_some h
 refine ⟨0, fun L hL => ?_⟩
 simp only [go_sem, ir103, fz1, fz2, fz3, fz4, fz5, fz6]


def ir69_v : List Nat := [0, 1, 4]
def ir69 : AFn := ⟨2, 3, .seq (.region false [ VO 2 4 (.mov (I6 0))]) (.seq (.region false [ PM 5 1, PM 6 0, PM 7 1, PO 8 (.len false (.s 0)), PO 9 (.call 70 [(.s 2), (.s 0)]), PO 10 (.ixAddr 1 (.s 4) (.s 0)), PO 11 (.load false 1 (.s 0)), VS 2 4 0]) (.ret)), [.t 2]⟩
noncomputable def t_7 : List (Nat × Ctr) := [(70, c_3)]
theorem lk_7_70 : look t_7 70 = some c_3 := rfl
noncomputable def c_7 : Ctr := mkN t_7 ir69 [.io, .bor]
theorem s_7 : Sound Tryz.prog 69 c_7 := mkN_sound _ (snd_cons s_3 snd_nil) (by kernel_rfl : chkFn Tryz.prog 69 ir69 ir69_v = true)
theorem M_7 : c_7.modes = [.io, .bor] := rfl
theorem Fl_7 : c_7.flat = false := rfl
attribute [go_sem] M_7 Fl_7
attribute [go_sem] lk_7_70
theorem Fs_7 {s_ : L00Src} {list : List Int} {y_ : Int × L00Src} (h : spec_l00Src_among s_ list = some y_) : c_7.F [.mem 3 [L00Src_av s_] 0, .sl 1 (List.map (AV.int .i64) list)] = ⟨true, .int .i64 y_.1, [.mem 3 [L00Src_av y_.2] 0, .any]⟩ := by
 refine mkN_E ?_
 dsimp only [spec_l00Src_among] at h
 obtain ⟨y_1, z1, h⟩ := bd_some h
 have fz1 := Fs_3 z1
 try simp only [go_sem] at fz1
 obtain ⟨z2, h⟩ := ck_some h
 have lz2 := ix_lt z2
 have xz2 := getD_mapD (AV.int .i64) list lz2
 try simp only [go_sem] at lz2
 try simp only [go_sem] at xz2
 try simp only [go_sem, n1, n2, n3, n4] at z2
 all_goals
 obtain rfl := so_some h
 refine ⟨0, fun L hL => ?_⟩
 simp only [go_sem, ir69, fz1, z2, lz2, xz2]


def ir104_v : List Nat := [0, 1, 5]
def ir104 : AFn := ⟨2, 3, .seq (.region false [ PM 4 0, VO 2 5 (.call 70 [(.s 0), (I6 5)])]) (.block 0 (.test false [ PO 7 (.bin false .eql (.v 2) (I6 0)), PO 6 (.mov (.s 0))] (.s 0) (.region false [ PM 8 1, PM 9 0, PO 10 (.mkSl 1 (.str []) 3 [(0, (.c (.str []))), (1, (.c (.str [77, 105, 114, 97]))), (2, (.c (.str [120])))]), PO 11 (.call 120 [(.s 1), (.s 0)]), PO 12 (.nilck (.s 3)), PO 13 (.fldAddr 0 (.s 0)), ⟨.no, 0, none, .store 1 (.s 0) (.s 2)⟩]) (.test false [ PO 15 (.bin false .eql (.v 2) (I6 1)), PO 14 (.mov (.s 0))] (.s 0) (.anyo 15 [ SO 0 16 (.mov (.v 1)), SO 1 17 (.mov (.v 0)), SO 2
 18 (.mov (.v 1)), SO 3 19 (.nilck (.s 2)), SO 4 20 (.fldAddr 2 (.s 3)), SO 5 21 (.load false 1 (.s 4)), SO 6 22 (.mov (.v 1)), SO 7 23 (.nilck (.s 6)), SO 8 24 (.fldAddr 2 (.s 7)), SO 9 25 (.load false 1 (.s 8)), SO 10 26 (.bin false .add (.s 9) (I6 1)), SO 11 27 (.pur (.mkSl 1 (.int .i64 (0)) 4 [(0, (.c (.int .i64 (-1)))), (1, (I6 0)), (2, (.s 5)), (3, (.s 10))])), SO 12 28 (.call 69 [(.s 1), (.s 11)]), SO 13 29 (.nilck (.s 0)), SO 14 30 (.fldAddr 1 (.s 13)), ⟨.no, 0, none, .store 1 (.s 14) (.s 12)⟩] [[1, 2, 3, 4, 5, 6, 7, 8, 9, 10, 11, 0, 12, 13, 14, 15], [1, 2, 3, 4, 5, 6, 7, 8, 9, 10, 11,
 12, 0, 13, 14, 15]] .skip) (.test false [ PO 32 (.bin false .eql (.v 2) (I6 2)), PO 31 (.mov (.s 0))] (.s 0) (.region false [ PM 33 1, PM 34 0, PO 35 (.mkSl 1 (.int .i64 (0)) 3 [(0, (.c (.int .i64 (-1)))), (1, (I6 10000000)), (2, (I6 10000001))]), PO 36 (.call 69 [(.s 1), (.s 0)]), PO 37 (.nilck (.s 3)), PO 38 (.fldAddr 2 (.s 0)), ⟨.no, 0, none, .store 1 (.s 0) (.s 2)⟩]) (.test false [ PO 40 (.bin false .eql (.v 2) (I6 3)), PO 39 (.mov (.s 0))] (.s 0) (.region false [ PM 41 1, PM 42 0, PM 43 1, PO 44 (.nilck (.s 0)), PO 45 (.fldAddr 4 (.s 0)), PO 46 (.load false 1 (.s 0)), PO 47 (.mkSl 1 (.int
 .i64 (0)) 5 [(0, (I6 0)), (1, (.s 0)), (2, (I6 100)), (3, (I6 101)), (4, (.c (.int .i64 (-9223372036854775808))))]), PO 48 (.call 69 [(.s 5), (.s 0)]), PO 49 (.nilck (.s 7)), PO 50 (.fldAddr 3 (.s 0)), ⟨.no, 0, none, .store 1 (.s 0) (.s 2)⟩]) (.test false [ PO 52 (.bin false .eql (.v 2) (I6 4)), PO 51 (.mov (.s 0))] (.s 0) (.region false [ PM 53 1, PM 54 0, PO 55 (.mkSl 1 (.int .i64 (0)) 4 [(0, (I6 0)), (1, (I6 1)), (2, (I6 5)), (3, (I6 6))]), PO 56 (.call 69 [(.s 1), (.s 0)]), PO 57 (.nilck (.s 3)), PO 58 (.fldAddr 5 (.s 0)), ⟨.no, 0, none, .store 1 (.s 0) (.s 2)⟩]) (.skip))))))), []⟩
noncomputable def t_8 : List (Nat × Ctr) := [(70, c_3), (120, c_5), (69, c_7)]
theorem lk_8_70 : look t_8 70 = some c_3 := rfl
theorem lk_8_120 : look t_8 120 = some c_5 := rfl
theorem lk_8_69 : look t_8 69 = some c_7 := rfl
noncomputable def c_8 : Ctr := mkN t_8 ir104 [.io, .io]
theorem s_8 : Sound Tryz.prog 104 c_8 := mkN_sound _ (snd_cons s_3 (snd_cons s_5 (snd_cons s_7 snd_nil))) (by kernel_rfl : chkFn Tryz.prog 104 ir104 ir104_v = true)
theorem M_8 : c_8.modes = [.io, .io] := rfl
theorem Fl_8 : c_8.flat = false := rfl
attribute [go_sem] M_8 Fl_8
attribute [go_sem] lk_8_70 lk_8_120 lk_8_69
theorem Fs_8 {s_ : L00Src} {x : Request} {y_ : L00Src × Request} (h : spec_l22Spoil s_ x = some y_) : c_8.F [.mem 3 [L00Src_av s_] 0, .mem 6 [Request_av x] 0] = ⟨true, .cv undef, [.mem 3 [L00Src_av y_.1] 0, .mem 6 [Request_av y_.2] 0]⟩ := by
 refine mkN_E ?_
 dsimp only [spec_l22Spoil] at h
 obtain ⟨y_1, z1, h⟩ := bd_some h
 have fz1 := Fs_3 z1
 try simp only [go_sem] at fz1
 rcases it_some h with ⟨z2, h⟩ | ⟨z2, h⟩
 ·try simp only [go_sem, n1, n2, n3, n4] at z2
  all_goals
  obtain ⟨y_3, z3, h⟩ := bd_some h
  have fz3 := Fs_5 z3
  try simp only [go_sem, z2] at fz3
  obtain rfl := so_some h
  refine ⟨0, fun L hL => ?_⟩
  simp only [go_sem, ir104, fz1, z2, fz3]
 ·try simp only [go_sem, n1, n2, n3, n4] at z2
  all_goals
  rcases it_some h with ⟨z4, h⟩ | ⟨z4, h⟩
  ·try simp only [go_sem, n1, n2, n3, n4, z2] at z4
   all_goals
   obtain ⟨y_5, z5, h⟩ := bd_some h
   have fz5 := Fs_7 z5
   try simp only [go_sem, z2, z4] at fz5
   obtain rfl := so_some h
   refine ⟨0, fun L hL => ?_⟩
   simp only [go_sem, ir104, fz1, z2, z4, fz5]
  ·try simp only [go_sem, n1, n2, n3, n4, z2] at z4
   all_goals
   rcases it_some h with ⟨z6, h⟩ | ⟨z6, h⟩
   ·try simp only [go_sem, n1, n2, n3, n4, z2, z4] at z6
    all_goals
    obtain ⟨y_7, z7, h⟩ := bd_some h
    have fz7 := Fs_7 z7
    try simp only [go_sem, z2, z4, z6] at fz7
    obtain rfl := so_some h
    refine ⟨0, fun L hL => ?_⟩
    simp only [go_sem, ir104, fz1, z2, z4, z6, fz7]
   ·try simp only [go_sem, n1, n2, n3, n4, z2, z4] at z6
    all_goals
    rcases it_some h with ⟨z8, h⟩ | ⟨z8, h⟩
    ·try simp only [go_sem, n1, n2, n3, n4, z2, z4, z6] at z8
     all_goals
     obtain ⟨y_9, z9, h⟩ := bd_some h
     have fz9 := Fs_7 z9
     try simp only [go_sem, z2, z4, z6, z8] at fz9
     obtain rfl := so_some h
     refine ⟨0, fun L hL => ?_⟩
     simp only [go_sem, ir104, fz1, z2, z4, z6, z8, fz9]
    ·try simp only [go_sem, n1, n2, n3, n4, z2, z4, z6] at z8
     all_goals
     rcases it_some h with ⟨z10, h⟩ | ⟨z10, h⟩
     ·try simp only [go_sem, n1, n2, n3, n4, z2, z4, z6, z8] at z10
      all_goals
      obtain ⟨y_11, z11, h⟩ := bd_some h
      have fz11 := Fs_7 z11
      try simp only [go_sem, z2, z4, z6, z8, z10] at fz11
      obtain rfl := so_some h
      refine ⟨0, fun L hL => ?_⟩
      simp only [go_sem, ir104, fz1, z2, z4, z6, z8, z10, fz11]
     ·try simp only [go_sem, n1, n2, n3, n4, z2, z4, z6, z8] at z10
      all_goals
      obtain rfl := so_some h
      refine ⟨0, fun L hL => ?_⟩
      simp only [go_sem, ir104, fz1, z2, z4, z6, z8, z10]


noncomputable def t_9 : List (Nat × Ctr) := [(70, c_3), (120, c_5), (69, c_7)]
theorem lk_9_70 : look t_9 70 = some c_3 := rfl
theorem lk_9_120 : look t_9 120 = some c_5 := rfl
theorem lk_9_69 : look t_9 69 = some c_7 := rfl
noncomputable def c_9 : Ctr := mkN t_9 ir104 [.io, .io]
theorem s_9 : Sound Tryz.prog 104 c_9 := mkN_sound _ (snd_cons s_3 (snd_cons s_5 (snd_cons s_7 snd_nil))) (by kernel_rfl : chkFn Tryz.prog 104 ir104 ir104_v = true)
theorem M_9 : c_9.modes = [.io, .io] := rfl
theorem Fl_9 : c_9.flat = false := rfl
attribute [go_sem] M_9 Fl_9
attribute [go_sem] lk_9_70 lk_9_120 lk_9_69
theorem Fs_9 {s_ : L00Src} {x : List Request} {x_ix : Int} {y_ : L00Src × (List Request)} (h : spec_l22Spoil_ix1 s_ x x_ix = some y_) : c_9.F [.mem 3 [L00Src_av s_] 0, .mem 6 (List.map Request_av x) x_ix.toNat] = ⟨true, .cv undef, [.mem 3 [L00Src_av y_.1] 0, .mem 6 (List.map Request_av y_.2) 0]⟩ := by
 refine mkN_E ?_
 dsimp only [spec_l22Spoil_ix1] at h
 obtain ⟨z1, h⟩ := ck_some h
 have lz1 := ix_lt z1
 have xz1 := getD_mapD Request_av x lz1
 try simp only [go_sem] at lz1
 try simp only [go_sem] at xz1
 try simp only [go_sem, n1, n2, n3, n4] at z1
 all_goals
 obtain ⟨y_2, z2, h⟩ := bd_some h
 have fz2 := Fs_3 z2
 try simp only [go_sem, z1] at fz2
 rcases it_some h with ⟨z3, h⟩ | ⟨z3, h⟩
 ·try simp only [go_sem, n1, n2, n3, n4, z1] at z3
  all_goals
  obtain ⟨y_4, z4, h⟩ := bd_some h
  have fz4 := Fs_5 z4
  try simp only [go_sem, z1, z3] at fz4
  obtain ⟨z5, h⟩ := ck_some h
  try simp only [go_sem, n1, n2, n3, n4, z1, z3] at z5
  all_goals
  obtain rfl := so_some h
  refine ⟨0, fun L hL => ?_⟩
  simp only [go_sem, ir104, z1, lz1, xz1, fz2, z3, fz4, z5]
 ·try simp only [go_sem, n1, n2, n3, n4, z1] at z3
  all_goals
  rcases it_some h with ⟨z6, h⟩ | ⟨z6, h⟩
  ·try simp only [go_sem, n1, n2, n3, n4, z1, z3] at z6
   all_goals
   obtain ⟨y_7, z7, h⟩ := bd_some h
   have fz7 := Fs_7 z7
   try simp only [go_sem, z1, z3, z6] at fz7
   obtain ⟨z8, h⟩ := ck_some h
   try simp only [go_sem, n1, n2, n3, n4, z1, z3, z6] at z8
   all_goals
   obtain rfl := so_some h
   refine ⟨0, fun L hL => ?_⟩
   simp only [go_sem, ir104, z1, lz1, xz1, fz2, z3, z6, fz7, z8]
  ·try simp only [go_sem, n1, n2, n3, n4, z1, z3] at z6
   all_goals
   rcases it_some h with ⟨z9, h⟩ | ⟨z9, h⟩
   ·try simp only [go_sem, n1, n2, n3, n4, z1, z3, z6] at z9
    all_goals
    obtain ⟨y_10, z10, h⟩ := bd_some h
    have fz10 := Fs_7 z10
    try simp only [go_sem, z1, z3, z6, z9] at fz10
    obtain ⟨z11, h⟩ := ck_some h
    try simp only [go_sem, n1, n2, n3, n4, z1, z3, z6, z9] at z11
    all_goals
    obtain rfl := so_some h
    refine ⟨0, fun L hL => ?_⟩
    simp only [go_sem, ir104, z1, lz1, xz1, fz2, z3, z6, z9, fz10, z11]
   ·try simp only [go_sem, n1, n2, n3, n4, z1, z3, z6] at z9
    all_goals
    rcases it_some h with ⟨z12, h⟩ | ⟨z12, h⟩
    ·try simp only [go_sem, n1, n2, n3, n4, z1, z3, z6, z9] at z12
     all_goals
     obtain ⟨y_13, z13, h⟩ := bd_some h
     have fz13 := Fs_7 z13
     try simp only [go_sem, z1, z3, z6, z9, z12] at fz13
     obtain ⟨z14, h⟩ := ck_some h
     try simp only [go_sem, n1, n2, n3, n4, z1, z3, z6, z9, z12] at z14
     all_goals
     obtain rfl := so_some h
     refine ⟨0, fun L hL => ?_⟩
     simp only [go_sem, ir104, z1, lz1, xz1, fz2, z3, z6, z9, z12, fz13, z14]
    ·try simp only [go_sem, n1, n2, n3, n4, z1, z3, z6, z9] at z12
     all_goals
     rcases it_some h with ⟨z15, h⟩ | ⟨z15, h⟩
     ·try simp only [go_sem, n1, n2, n3, n4, z1, z3, z6, z9, z12] at z15
      all_goals
      obtain ⟨y_16, z16, h⟩ := bd_some h
      have fz16 := Fs_7 z16
      try simp only [go_sem, z1, z3, z6, z9, z12, z15] at fz16
      obtain ⟨z17, h⟩ := ck_some h
      try simp only [go_sem, n1, n2, n3, n4, z1, z3, z6, z9, z12, z15] at z17
      all_goals
      obtain rfl := so_some h
      refine ⟨0, fun L hL => ?_⟩
      simp only [go_sem, ir104, z1, lz1, xz1, fz2, z3, z6, z9, z12, z15, fz16, z17]
     ·try simp only [go_sem, n1, n2, n3, n4, z1, z3, z6, z9, z12] at z15
      all_goals
      obtain rfl := so_some h
      refine ⟨0, fun L hL => ?_⟩
      simp only [go_sem, ir104, z1, lz1, xz1, fz2, z3, z6, z9, z12, z15]


def ir98_b0 : IR := .seq (.test false [ PM 15 4, PO 16 (.bin false .gtr (.s 0) (I6 0))] (.s 0) (.skip) (.exit 0)) (.seq (.block 1 (.region false [ PM 19 2, PM 20 0, PO 21 (.call 103 [(.s 0)]), PO 22 (.mkSl 6 (.agg [.str [], .int .i64 (0), .int .i64 (0), .int .i64 (0), .int .i64 (0), .int .i64 (0)]) 1 [(0, (.s 0))]), PO 23 (.app 6 56 (.agg [.str [], .int .i64 (0), .int .i64 (0), .int .i64 (0), .int .i64 (0), .int .i64 (0)]) (.s 3) (.s 0)), VS 2 3 0])) (.region false [ PM 17 4, PO 18 (.bin false .sub (.s 0) (I6 1)), VS 4 5 0]))
def ir98_k0 : List Bool := [true, false, true, false, true]
def ir98_o0 : List Bool := [true, false, true, false, false]
def ir98_r0 : List Bool := [true, true, false, false, false]
def ir98_v : List Nat := [0, 2, 3, 4, 5]
def ir98 : AFn := ⟨1, 5, .seq (.region false [ VO 1 2 (.newnil 6)]) (.seq (.region false [ PO 6 (.mkSl 6 (.agg [.str [], .int .i64 (0), .int .i64 (0), .int .i64 (0), .int .i64 (0), .int .i64 (0)]) 0 []), VS 2 3 0]) (.seq (.region false [ PM 7 0, PO 8 (.call 70 [(.s 0), (I6 7)]), VS 3 4 0]) (.seq (.test false [ PM 9 0, PO 10 (.call 58 [(.s 0), (I6 24)])] (.s 0) (.region false [ PM 11 0, PO 12 (.call 70 [(.s 0), (I6 2)]), PO 13 (.bin false .add (I6 30) (.s 0)), VS 3 4 0]) (.skip)) (.seq (.seq (.region false [ PM 14 3, VS 4 5 0]) (.block 0 (.loop ir98_k0 ir98_o0 ir98_r0 ir98_b0))) (.seq (.test
 false [ PM 24 2, PO 25 (.len false (.s 0)), PO 26 (.bin false .gtr (.s 0) (I6 0)), PO 27 (.mov (.s 0)), ⟨.push, 28, (some ((.s 0), true)), .mov (.v 0)⟩, ⟨.push, 29, (some ((.s 1), true)), .callw 58 [(.s 0), (I6 8)]⟩, PO 30 (.pick (.s 2) (.s 0) (.c (.bool false)))] (.s 0) (.region false [ PM 31 0, PM 32 2, PM 33 0, PM 34 2, PO 35 (.len false (.s 0)), PO 36 (.call 70 [(.s 2), (.s 0)]), PO 37 (.ixAddr 6 (.s 4) (.s 0)), PO 38 (.call 104 [(.s 6), (.s 0)])]) (.skip)) (.seq (.region false [ PM 39 2, VS 1 2 0]) (.ret))))))), [.t 1]⟩
noncomputable def t_10 : List (Nat × Ctr) := [(70, c_3), (58, c_4), (103, c_6), (104, c_9)]
theorem lk_10_70 : look t_10 70 = some c_3 := rfl
theorem lk_10_58 : look t_10 58 = some c_4 := rfl
theorem lk_10_103 : look t_10 103 = some c_6 := rfl
theorem lk_10_104 : look t_10 104 = some c_9 := rfl
noncomputable def c_10 : Ctr := mkN t_10 ir98 [.io]
theorem s_10 : Sound Tryz.prog 98 c_10 := mkN_sound _ (snd_cons s_3 (snd_cons s_4 (snd_cons s_6 (snd_cons s_9 snd_nil)))) (by kernel_rfl : chkFn Tryz.prog 98 ir98 ir98_v = true)
theorem M_10 : c_10.modes = [.io] := rfl
theorem Fl_10 : c_10.flat = false := rfl
attribute [go_sem] M_10 Fl_10
attribute [go_sem] lk_10_70 lk_10_58 lk_10_103 lk_10_104
def E_10_l1  : (L00Src × (List Request) × Int) → St
 | (s_, list, k) => ⟨[.ref 31 0 0, .any, .own 3200032, .any, .int .i64 k], [], [(31, ⟨3, [L00Src_av s_]⟩), (3200032, ⟨6, List.map Request_av list⟩)], true⟩
def R_10_l1  (y : L00Src × (List Request)) : Res := (.exit 0, ⟨[.ref 31 0 0, .any, .own 3200032, .any, .any], [], [(31, ⟨3, [L00Src_av y.1]⟩), (3200032, ⟨6, List.map Request_av y.2⟩)], true⟩)
theorem spec_l22Bent_l1_ex  {sgm_ : L00Src × (List Request) × Int} {rho_ : L00Src × (List Request)} (h : whileE (spec_l22Bent_l1) sgm_ = some rho_) : ∃ L0, ∀ L, L0 ≤ L → iter (exec (look t_10) L ir98_b0) ir98_k0 ir98_o0 ir98_r0 L (E_10_l1 sgm_) = R_10_l1 rho_ := by
 refine loop_ex (E := E_10_l1) (R := R_10_l1) (fun y => by first | (intro c; cases c) | (rcases y with y | y <;> (intro c; cases c)) | (rcases y with y | y | y <;> (intro c; cases c))) ?_ h
 clear h
 rintro ⟨s_, list, k⟩ o_ h
 dsimp only [spec_l22Bent_l1] at h
 rcases it_some h with ⟨z5, h⟩ | ⟨z5, h⟩
 ·try simp only [go_sem, n1, n2, n3, n4] at z5
  all_goals
  obtain ⟨y_6, z6, h⟩ := bd_some h
  have fz6 := Fs_6 z6
  try simp only [go_sem, z5] at fz6
  obtain ⟨z7, h⟩ := ck_some h
  try simp only [go_sem, n1, n2, n3, n4, z5] at z7
  all_goals
  obtain rfl := so_some h
  refine ⟨0, fun L hL => ?_⟩
  simp only [go_sem, ir98, E_10_l1, R_10_l1, ir98_b0, ir98_k0, ir98_o0, ir98_r0, z5, fz6, z7]
 ·try simp only [go_sem, n1, n2, n3, n4] at z5
  all_goals
  obtain rfl := so_some h
  refine ⟨0, fun L hL => ?_⟩
  simp only [go_sem, ir98, E_10_l1, R_10_l1, ir98_b0, ir98_k0, ir98_o0, ir98_r0, z5]

def E_10_l2  : (L00Src × (List Request) × Int) → St
 | (s_, list, k) => ⟨[.ref 31 0 0, .any, .own 3200032, .any, .int .i64 k], [], [(31, ⟨3, [L00Src_av s_]⟩), (3200032, ⟨6, List.map Request_av list⟩)], true⟩
def R_10_l2  (y : L00Src × (List Request)) : Res := (.exit 0, ⟨[.ref 31 0 0, .any, .own 3200032, .any, .any], [], [(31, ⟨3, [L00Src_av y.1]⟩), (3200032, ⟨6, List.map Request_av y.2⟩)], true⟩)
theorem spec_l22Bent_l2_ex  {sgm_ : L00Src × (List Request) × Int} {rho_ : L00Src × (List Request)} (h : whileE (spec_l22Bent_l2) sgm_ = some rho_) : ∃ L0, ∀ L, L0 ≤ L → iter (exec (look t_10) L ir98_b0) ir98_k0 ir98_o0 ir98_r0 L (E_10_l2 sgm_) = R_10_l2 rho_ := by
 refine loop_ex (E := E_10_l2) (R := R_10_l2) (fun y => by first | (intro c; cases c) | (rcases y with y | y <;> (intro c; cases c)) | (rcases y with y | y | y <;> (intro c; cases c))) ?_ h
 clear h
 rintro ⟨s_, list, k⟩ o_ h
 dsimp only [spec_l22Bent_l2] at h
 rcases it_some h with ⟨z15, h⟩ | ⟨z15, h⟩
 ·try simp only [go_sem, n1, n2, n3, n4] at z15
  all_goals
  obtain ⟨y_16, z16, h⟩ := bd_some h
  have fz16 := Fs_6 z16
  try simp only [go_sem, z15] at fz16
  obtain ⟨z17, h⟩ := ck_some h
  try simp only [go_sem, n1, n2, n3, n4, z15] at z17
  all_goals
  obtain rfl := so_some h
  refine ⟨0, fun L hL => ?_⟩
  simp only [go_sem, ir98, E_10_l2, R_10_l2, ir98_b0, ir98_k0, ir98_o0, ir98_r0, E_10_l1, R_10_l1, ir98_k0, ir98_o0, ir98_r0, z15, fz16, z17]
 ·try simp only [go_sem, n1, n2, n3, n4] at z15
  all_goals
  obtain rfl := so_some h
  refine ⟨0, fun L hL => ?_⟩
  simp only [go_sem, ir98, E_10_l2, R_10_l2, ir98_b0, ir98_k0, ir98_o0, ir98_r0, E_10_l1, R_10_l1, ir98_k0, ir98_o0, ir98_r0, z15]

theorem Fs_10 {s_ : L00Src} {y_ : (List Request) × L00Src} (h : spec_l22Bent s_ = some y_) : c_10.F [.mem 3 [L00Src_av s_] 0] = ⟨true, .fresh 6 (List.map Request_av y_.1), [.mem 3 [L00Src_av y_.2] 0]⟩ := by
 refine mkN_E ?_
 dsimp only [spec_l22Bent] at h
 obtain ⟨y_1, z1, h⟩ := bd_some h
 have fz1 := Fs_3 z1
 try simp only [go_sem] at fz1
 obtain ⟨y_2, z2, h⟩ := bd_some h
 have fz2 := Fs_4 z2
 try simp only [go_sem] at fz2
 rcases it_some h with ⟨z3, h⟩ | ⟨z3, h⟩
 ·try simp only [go_sem, n1, n2, n3, n4] at z3
  all_goals
  obtain ⟨y_4, z4, h⟩ := bd_some h
  have fz4 := Fs_3 z4
  try simp only [go_sem, z3] at fz4
  obtain ⟨y_8, z8, h⟩ := bd_some h
  obtain ⟨Lz8, ez8⟩ := spec_l22Bent_l1_ex z8
  rcases it_some h with ⟨z9, h⟩ | ⟨z9, h⟩
  ·try simp only [go_sem, n1, n2, n3, n4, z3] at z9
   all_goals
   obtain ⟨y_10, z10, h⟩ := bd_some h
   have fz10 := Fs_4 z10
   try simp only [go_sem, z3, z9] at fz10
   rcases it_some h with ⟨z11, h⟩ | ⟨z11, h⟩
   ·try simp only [go_sem, n1, n2, n3, n4, z3, z9] at z11
    all_goals
    obtain ⟨y_12, z12, h⟩ := bd_some h
    have fz12 := Fs_3 z12
    try simp only [go_sem, z3, z9, z11] at fz12
    obtain ⟨z13, h⟩ := ck_some h
    have lz13 := ix_lt z13
    have xz13 := getD_mapD Request_av y_8.2 lz13
    try simp only [go_sem] at lz13
    try simp only [go_sem] at xz13
    try simp only [go_sem, n1, n2, n3, n4, z3, z9, z11] at z13
    all_goals
    obtain ⟨y_14, z14, h⟩ := bd_some h
    have fz14 := Fs_9 z14
    try simp only [go_sem, z3, z9, z11, z13] at fz14
    obtain rfl := so_some h
    refine ⟨Lz8, fun L hL => ?_⟩
    have ez8 := ez8 L (by omega)
    try simp only [go_sem, E_10_l1, R_10_l1, ir98_k0, ir98_o0, ir98_r0, E_10_l2, R_10_l2, ir98_k0, ir98_o0, ir98_r0, z3, z9, z11, z13] at ez8
    simp only [go_sem, ir98, E_10_l1, R_10_l1, ir98_k0, ir98_o0, ir98_r0, E_10_l2, R_10_l2, ir98_k0, ir98_o0, ir98_r0, fz1, fz2, z3, fz4, z9, fz10, z11, fz12, z13, lz13, xz13, fz14, ez8]
   ·try simp only [go_sem, n1, n2, n3, n4, z3, z9] at z11
    all_goals
    obtain rfl := so_some h
    refine ⟨Lz8, fun L hL => ?_⟩
    have ez8 := ez8 L (by omega)
    try simp only [go_sem, E_10_l1, R_10_l1, ir98_k0, ir98_o0, ir98_r0, E_10_l2, R_10_l2, ir98_k0, ir98_o0, ir98_r0, z3, z9, z11] at ez8
    simp only [go_sem, ir98, E_10_l1, R_10_l1, ir98_k0, ir98_o0, ir98_r0, E_10_l2, R_10_l2, ir98_k0, ir98_o0, ir98_r0, fz1, fz2, z3, fz4, z9, fz10, z11, ez8]
  ·try simp only [go_sem, n1, n2, n3, n4, z3] at z9
   all_goals
   obtain rfl := so_some h
   refine ⟨Lz8, fun L hL => ?_⟩
   have ez8 := ez8 L (by omega)
   try simp only [go_sem, E_10_l1, R_10_l1, ir98_k0, ir98_o0, ir98_r0, E_10_l2, R_10_l2, ir98_k0, ir98_o0, ir98_r0, z3, z9] at ez8
   simp only [go_sem, ir98, E_10_l1, R_10_l1, ir98_k0, ir98_o0, ir98_r0, E_10_l2, R_10_l2, ir98_k0, ir98_o0, ir98_r0, fz1, fz2, z3, fz4, z9, ez8]
 ·try simp only [go_sem, n1, n2, n3, n4] at z3
  all_goals
  obtain ⟨y_18, z18, h⟩ := bd_some h
  obtain ⟨Lz18, ez18⟩ := spec_l22Bent_l2_ex z18
  rcases it_some h with ⟨z19, h⟩ | ⟨z19, h⟩
  ·try simp only [go_sem, n1, n2, n3, n4, z3] at z19
   all_goals
   obtain ⟨y_20, z20, h⟩ := bd_some h
   have fz20 := Fs_4 z20
   try simp only [go_sem, z3, z19] at fz20
   rcases it_some h with ⟨z21, h⟩ | ⟨z21, h⟩
   ·try simp only [go_sem, n1, n2, n3, n4, z3, z19] at z21
    all_goals
    obtain ⟨y_22, z22, h⟩ := bd_some h
    have fz22 := Fs_3 z22
    try simp only [go_sem, z3, z19, z21] at fz22
    obtain ⟨z23, h⟩ := ck_some h
    have lz23 := ix_lt z23
    have xz23 := getD_mapD Request_av y_18.2 lz23
    try simp only [go_sem] at lz23
    try simp only [go_sem] at xz23
    try simp only [go_sem, n1, n2, n3, n4, z3, z19, z21] at z23
    all_goals
    obtain ⟨y_24, z24, h⟩ := bd_some h
    have fz24 := Fs_9 z24
    try simp only [go_sem, z3, z19, z21, z23] at fz24
    obtain rfl := so_some h
    refine ⟨Lz18, fun L hL => ?_⟩
    have ez18 := ez18 L (by omega)
    try simp only [go_sem, E_10_l1, R_10_l1, ir98_k0, ir98_o0, ir98_r0, E_10_l2, R_10_l2, ir98_k0, ir98_o0, ir98_r0, z3, z19, z21, z23] at ez18
    simp only [go_sem, ir98, E_10_l1, R_10_l1, ir98_k0, ir98_o0, ir98_r0, E_10_l2, R_10_l2, ir98_k0, ir98_o0, ir98_r0, fz1, fz2, z3, z19, fz20, z21, fz22, z23, lz23, xz23, fz24, ez18]
   ·try simp only [go_sem, n1, n2, n3, n4, z3, z19] at z21
    all_goals
    obtain rfl := so_some h
    refine ⟨Lz18, fun L hL => ?_⟩
    have ez18 := ez18 L (by omega)
    try simp only [go_sem, E_10_l1, R_10_l1, ir98_k0, ir98_o0, ir98_r0, E_10_l2, R_10_l2, ir98_k0, ir98_o0, ir98_r0, z3, z19, z21] at ez18
    simp only [go_sem, ir98, E_10_l1, R_10_l1, ir98_k0, ir98_o0, ir98_r0, E_10_l2, R_10_l2, ir98_k0, ir98_o0, ir98_r0, fz1, fz2, z3, z19, fz20, z21, ez18]
  ·try simp only [go_sem, n1, n2, n3, n4, z3] at z19
   all_goals
   obtain rfl := so_some h
   refine ⟨Lz18, fun L hL => ?_⟩
   have ez18 := ez18 L (by omega)
   try simp only [go_sem, E_10_l1, R_10_l1, ir98_k0, ir98_o0, ir98_r0, E_10_l2, R_10_l2, ir98_k0, ir98_o0, ir98_r0, z3, z19] at ez18
   simp only [go_sem, ir98, E_10_l1, R_10_l1, ir98_k0, ir98_o0, ir98_r0, E_10_l2, R_10_l2, ir98_k0, ir98_o0, ir98_r0, fz1, fz2, z3, z19, ez18]


def ir135_v : List Nat := [0, 2]
def ir135 : AFn := ⟨1, 2, .seq (.region false [ VO 1 2 (.mov (I6 0))]) (.seq (.test false [ PM 3 0, PO 4 (.call 58 [(.s 0), (I6 12)])] (.s 0) (.seq (.region false [ PM 5 0, PO 6 (.mkSl 1 (.int .i64 (0)) 4 [(0, (.c (.int .i64 (-1)))), (1, (I6 0)), (2, (I6 10000000)), (3, (I6 10000001))]), PO 7 (.call 69 [(.s 1), (.s 0)]), VS 1 2 0]) (.ret)) (.skip)) (.seq (.region false [ PM 8 0, PO 9 (.call 70 [(.s 0), (I6 33)]), PO 10 (.bin false .mul (I6 1000) (.s 0)), VS 1 2 0]) (.ret))), [.t 1]⟩
noncomputable def t_11 : List (Nat × Ctr) := [(58, c_4), (69, c_7), (70, c_3)]
theorem lk_11_58 : look t_11 58 = some c_4 := rfl
theorem lk_11_69 : look t_11 69 = some c_7 := rfl
theorem lk_11_70 : look t_11 70 = some c_3 := rfl
noncomputable def c_11 : Ctr := mkN t_11 ir135 [.io]
theorem s_11 : Sound Tryz.prog 135 c_11 := mkN_sound _ (snd_cons s_4 (snd_cons s_7 (snd_cons s_3 snd_nil))) (by kernel_rfl : chkFn Tryz.prog 135 ir135 ir135_v = true)
theorem M_11 : c_11.modes = [.io] := rfl
theorem Fl_11 : c_11.flat = false := rfl
attribute [go_sem] M_11 Fl_11
attribute [go_sem] lk_11_58 lk_11_69 lk_11_70
theorem Fs_11 {s_ : L00Src} {y_ : Int × L00Src} (h : spec_l06When s_ = some y_) : c_11.F [.mem 3 [L00Src_av s_] 0] = ⟨true, .int .i64 y_.1, [.mem 3 [L00Src_av y_.2] 0]⟩ := by
 refine mkN_E ?_
 dsimp only [spec_l06When] at h
 obtain ⟨y_1, z1, h⟩ := bd_some h
 have fz1 := Fs_4 z1
 try simp only [go_sem] at fz1
 rcases it_some h with ⟨z2, h⟩ | ⟨z2, h⟩
 ·try simp only [go_sem, n1, n2, n3, n4] at z2
  all_goals
  obtain ⟨y_3, z3, h⟩ := bd_some h
  have fz3 := Fs_7 z3
  try simp only [go_sem, z2] at fz3
  obtain rfl := so_some h
  refine ⟨0, fun L hL => ?_⟩
  simp only [go_sem, ir135, fz1, z2, fz3]
 ·try simp only [go_sem, n1, n2, n3, n4] at z2
  all_goals
  obtain ⟨y_4, z4, h⟩ := bd_some h
  have fz4 := Fs_3 z4
  try simp only [go_sem, z2] at fz4
  obtain rfl := so_some h
  refine ⟨0, fun L hL => ?_⟩
  simp only [go_sem, ir135, fz1, z2, fz4]


def ir90_v : List Nat := [0, 2, 3, 4, 5]
def ir90 : AFn := ⟨1, 5, .seq (.region false [ VO 1 2 (.newnil 6), VO 2 3 (.mov (I6 0))]) (.seq (.region false [ PM 6 0, PO 7 (.call 54 [(.s 0)]), VS 3 4 0]) (.seq (.region false [ PM 8 3, PO 9 (.call 98 [(.s 0)]), VS 4 5 0]) (.seq (.region false [ PM 10 4, PM 11 3, PO 12 (.call 135 [(.s 0)]), VS 1 2 2, VS 2 3 0]) (.ret)))), [.t 1, .t 2]⟩
noncomputable def t_12 : List (Nat × Ctr) := [(54, c_1), (98, c_10), (135, c_11)]
theorem lk_12_54 : look t_12 54 = some c_1 := rfl
theorem lk_12_98 : look t_12 98 = some c_10 := rfl
theorem lk_12_135 : look t_12 135 = some c_11 := rfl
noncomputable def c_12 : Ctr := mkF t_12 ir90 [.bor]
theorem s_12 : Sound Tryz.prog 90 c_12 := mkF_sound _ rfl (snd_cons s_1 (snd_cons s_10 (snd_cons s_11 snd_nil))) (by kernel_rfl : chkFn Tryz.prog 90 ir90 ir90_v = true)
theorem M_12 : c_12.modes = [.bor] := rfl
theorem Fl_12 : c_12.flat = true := rfl
attribute [go_sem] M_12 Fl_12
attribute [go_sem] lk_12_54 lk_12_98 lk_12_135
theorem Fs_12 {code : List UInt8} {y_ : (List Request) × Int} (h : spec_l22Ask code = some y_) : c_12.F [.sl 1 (List.map byteAV code)] = ⟨true, .tup [.fresh 6 (List.map Request_av y_.1), .int .i64 y_.2], [.any]⟩ := by
 refine mkF_E (by simp only [flatA, flatB, flat1, List.all_cons, List.all_nil, Bool.and_self, flatE_map (f := Request_av) (fun _ => rfl)]) ?_
 dsimp only [spec_l22Ask] at h
 obtain ⟨y_1, z1, h⟩ := bd_some h
 have fz1 := Fs_1 z1
 try simp only [go_sem] at fz1
 obtain ⟨y_2, z2, h⟩ := bd_some h
 have fz2 := Fs_10 z2
 try simp only [go_sem] at fz2
 obtain ⟨y_3, z3, h⟩ := bd_some h
 have fz3 := Fs_11 z3
 try simp only [go_sem] at fz3
 obtain rfl := so_some h
 refine ⟨0, fun L hL => ?_⟩
 simp only [go_sem, ir90, fz1, fz2, fz3]


def ir32_v : List Nat := [0, 2, 3]
def ir32 : AFn := ⟨1, 3, .seq (.region false [ VO 1 2 (.newnil 6), VO 2 3 (.mov (I6 0))]) (.seq (.region false [ PM 4 0, PO 5 (.call 90 [(.s 0)]), PO 6 (.ext (.s 0) 0), PO 7 (.ext (.s 1) 1), VS 1 2 1, VS 2 3 0]) (.ret)), [.t 1, .t 2]⟩
noncomputable def t_13 : List (Nat × Ctr) := [(90, c_12)]
theorem lk_13_90 : look t_13 90 = some c_12 := rfl
noncomputable def c_13 : Ctr := mkF t_13 ir32 [.bor]
theorem s_13 : Sound Tryz.prog 32 c_13 := mkF_sound _ rfl (snd_cons s_12 snd_nil) (by kernel_rfl : chkFn Tryz.prog 32 ir32 ir32_v = true)
theorem M_13 : c_13.modes = [.bor] := rfl
theorem Fl_13 : c_13.flat = true := rfl
attribute [go_sem] M_13 Fl_13
attribute [go_sem] lk_13_90
theorem Fs_13 {code : List UInt8} {y_ : (List Request) × Int} (h : spec_DrawNextRequest code = some y_) : c_13.F [.sl 1 (List.map byteAV code)] = ⟨true, .tup [.fresh 6 (List.map Request_av y_.1), .int .i64 y_.2], [.any]⟩ := by
 refine mkF_E (by simp only [flatA, flatB, flat1, List.all_cons, List.all_nil, Bool.and_self, flatE_map (f := Request_av) (fun _ => rfl)]) ?_
 dsimp only [spec_DrawNextRequest] at h
 obtain ⟨y_1, z1, h⟩ := bd_some h
 have fz1 := Fs_12 z1
 try simp only [go_sem] at fz1
 obtain rfl := so_some h
 refine ⟨0, fun L hL => ?_⟩
 simp only [go_sem, ir32, fz1]


def ir74_v : List Nat := [0, 1, 2, 6]
def ir74 : AFn := ⟨3, 4, .seq (.region false [ VO 3 6 (.mov (.c (.bool false)))]) (.seq (.region false [ PM 7 0, PM 8 1, PO 9 (.bin false .geq (.s 1) (.s 0)), PO 10 (.mov (.s 0)), ⟨.push, 11, (some ((.s 0), true)), .mov (.v 0)⟩, ⟨.push, 12, (some ((.s 1), true)), .mov (.v 2)⟩, ⟨.push, 13, (some ((.s 2), true)), .bin false .leq (.s 1) (.s 0)⟩, PO 14 (.pick (.s 3) (.s 0) (.c (.bool false))), VS 3 6 0]) (.ret)), [.t 3]⟩
noncomputable def t_14 : List (Nat × Ctr) := []
noncomputable def c_14 : Ctr := mkF t_14 ir74 [.bor, .bor, .bor]
theorem s_14 : Sound Tryz.prog 74 c_14 := mkF_sound _ rfl snd_nil (by kernel_rfl : chkFn Tryz.prog 74 ir74 ir74_v = true)
theorem M_14 : c_14.modes = [.bor, .bor, .bor] := rfl
theorem Fl_14 : c_14.flat = true := rfl
attribute [go_sem] M_14 Fl_14
theorem Fs_14 {n : Int} {low : Int} {high : Int} {y_ : Bool} (h : impl_in n low high = some y_) : c_14.F [.int .i64 n, .int .i64 low, .int .i64 high] = ⟨true, .bool y_, [.any, .any, .any]⟩ := by
 refine mkF_E rfl ?_
 dsimp only [impl_in] at h
 obtain rfl := so_some h
 refine ⟨0, fun L hL => ?_⟩
 simp only [go_sem, ir74]


def ir71_v : List Nat := [0, 2]
def ir71 : AFn := ⟨1, 2, .seq (.region false [ VO 1 2 (.mov (.c (.bool false)))]) (.seq (.region false [ PM 3 0, PO 4 (.call 74 [(.s 0), (I6 0), (I6 10000000)]), VS 1 2 0]) (.ret)), [.t 1]⟩
noncomputable def t_15 : List (Nat × Ctr) := [(74, c_14)]
theorem lk_15_74 : look t_15 74 = some c_14 := rfl
noncomputable def c_15 : Ctr := mkF t_15 ir71 [.bor]
theorem s_15 : Sound Tryz.prog 71 c_15 := mkF_sound _ rfl (snd_cons s_14 snd_nil) (by kernel_rfl : chkFn Tryz.prog 71 ir71 ir71_v = true)
theorem M_15 : c_15.modes = [.bor] := rfl
theorem Fl_15 : c_15.flat = true := rfl
attribute [go_sem] M_15 Fl_15
attribute [go_sem] lk_15_74
theorem Fs_15 {t : Int} {y_ : Bool} (h : impl_ValidTime t = some y_) : c_15.F [.int .i64 t] = ⟨true, .bool y_, [.any]⟩ := by
 refine mkF_E rfl ?_
 dsimp only [impl_ValidTime] at h
 obtain ⟨y_1, z1, h⟩ := bd_some h
 have fz1 := Fs_14 z1
 try simp only [go_sem] at fz1
 obtain rfl := so_some h
 refine ⟨0, fun L hL => ?_⟩
 simp only [go_sem, ir71, fz1]


def ir81_b0 : IR := .seq (.region false [ VO 7 17 (.bin false .lss (.v 6) (.v 5))]) (.seq (.cond (.v 7) (.skip) (.exit 0)) (.seq (.block 1 (.seq (.region false [ PM 18 6, VS 2 3 0]) (.seq (.region false [ PM 19 0, PM 20 2, PO 21 (.ixStr (.s 1) (.s 0)), PO 22 (.bin false .geq (.s 0) (.c (.int .u8 (97)))), PO 23 (.mov (.s 0)), ⟨.push, 24, (some ((.s 0), true)), .mov (.v 0)⟩, ⟨.push, 25, (some ((.s 1), true)), .mov (.v 2)⟩, ⟨.push, 26, (some ((.s 2), true)), .ixStr (.s 1) (.s 0)⟩, ⟨.push, 27, (some ((.s 3), true)), .bin false .leq (.s 0) (.c (.int .u8 (122)))⟩, PO 28 (.pick (.s 4) (.s 0) (.c
 (.bool false))), VS 3 4 0]) (.seq (.region false [ PM 29 0, PM 30 2, PO 31 (.ixStr (.s 1) (.s 0)), PO 32 (.bin false .geq (.s 0) (.c (.int .u8 (48)))), PO 33 (.mov (.s 0)), ⟨.push, 34, (some ((.s 0), true)), .mov (.v 0)⟩, ⟨.push, 35, (some ((.s 1), true)), .mov (.v 2)⟩, ⟨.push, 36, (some ((.s 2), true)), .ixStr (.s 1) (.s 0)⟩, ⟨.push, 37, (some ((.s 3), true)), .bin false .leq (.s 0) (.c (.int .u8 (57)))⟩, PO 38 (.pick (.s 4) (.s 0) (.c (.bool false))), PO 39 (.mov (.s 0)), ⟨.push, 40, (some ((.s 0), false)), .mov (.v 0)⟩, ⟨.push, 41, (some ((.s 1), false)), .mov (.v 2)⟩, ⟨.push, 42, (some
 ((.s 2), false)), .ixStr (.s 1) (.s 0)⟩, ⟨.push, 43, (some ((.s 3), false)), .bin false .eql (.s 0) (.c (.int .u8 (45)))⟩, PO 44 (.pick (.s 4) (.c (.bool true)) (.s 0)), VS 4 5 0]) (.test false [ PM 45 3, PO 46 (.un .not (.s 0)), PO 47 (.mov (.s 0)), ⟨.push, 48, (some ((.s 0), true)), .mov (.v 2)⟩, ⟨.push, 49, (some ((.s 1), true)), .bin false .eql (.s 0) (I6 0)⟩, ⟨.push, 50, (some ((.s 2), true)), .mov (.s 0)⟩, ⟨.push, 51, (some ((.s 0), false)), .mov (.v 4)⟩, ⟨.push, 52, (some ((.s 1), false)), .un .not (.s 0)⟩, ⟨.push, 53, (some ((.s 5), true)), .pick (.s 2) (.c (.bool true)) (.s 0)⟩, PO 54
 (.pick (.s 6) (.s 0) (.c (.bool false)))] (.s 0) (.seq (.region false [ VO 1 2 (.mov (.c (.bool false)))]) (.ret)) (.skip)))))) (.region false [ PO 55 (.bin false .add (.v 6) (I6 1)), VS 6 16 0])))
def ir81_k0 : List Bool := [true, false, false, false, false, true, true, false]
def ir81_o0 : List Bool := [false, false, false, false, false, false, false, false]
def ir81_r0 : List Bool := [false, true, false, false, false, false, false, false]
def ir81_v : List Nat := [0, 2, 3, 4, 5, 15, 16, 17]
def ir81 : AFn := ⟨1, 8, .seq (.region false [ VO 1 2 (.mov (.c (.bool false)))]) (.seq (.test false [ PM 6 0, PO 7 (.len true (.s 0)), PO 8 (.bin false .lss (.s 0) (I6 1)), PO 9 (.mov (.s 0)), ⟨.push, 10, (some ((.s 0), false)), .mov (.v 0)⟩, ⟨.push, 11, (some ((.s 1), false)), .len true (.s 0)⟩, ⟨.push, 12, (some ((.s 2), false)), .bin false .gtr (.s 0) (I6 12)⟩, PO 13 (.pick (.s 3) (.c (.bool true)) (.s 0))] (.s 0) (.seq (.region false [ VO 1 2 (.mov (.c (.bool false)))]) (.ret)) (.skip)) (.seq (.seq (.region false [ PM 14 0, VO 5 15 (.len true (.s 0)), VO 6 16 (.mov (I6 0))]) (.block 0
 (.loop ir81_k0 ir81_o0 ir81_r0 ir81_b0))) (.seq (.region false [ VO 1 2 (.mov (.c (.bool true)))]) (.ret)))), [.t 1]⟩
noncomputable def t_16 : List (Nat × Ctr) := []
noncomputable def c_16 : Ctr := mkF t_16 ir81 [.bor]
theorem s_16 : Sound Tryz.prog 81 c_16 := mkF_sound _ rfl snd_nil (by kernel_rfl : chkFn Tryz.prog 81 ir81 ir81_v = true)
theorem M_16 : c_16.modes = [.bor] := rfl
theorem Fl_16 : c_16.flat = true := rfl
attribute [go_sem] M_16 Fl_16
def E_16_l1 (s_ : List UInt8) (t15 : Int) : Int → St
 | t16 => ⟨[.str s_, .any, .any, .any, .any, .int .i64 t15, .int .i64 t16, .any], [], [], true⟩
def R_16_l1 (s_ : List UInt8) (t15 : Int) : (Unit ⊕ Bool) → Res
 | .inl y => (.exit 0, ⟨[.any, .any, .any, .any, .any, .any, .any, .any], [], [], true⟩)
 | .inr y => (.ret, ⟨[.any, .bool y, .any, .any, .any, .any, .any, .any], [], [], true⟩)
theorem impl_IsName_l1_ex {s_ : List UInt8} {t15 : Int} {sgm_ : Int} {rho_ : Unit ⊕ Bool} (h : whileE (impl_IsName_l1 s_ t15) sgm_ = some rho_) : ∃ L0, ∀ L, L0 ≤ L → iter (exec (look t_16) L ir81_b0) ir81_k0 ir81_o0 ir81_r0 L (E_16_l1 s_ t15 sgm_) = R_16_l1 s_ t15 rho_ := by
 refine loop_ex (E := E_16_l1 s_ t15) (R := R_16_l1 s_ t15) (fun y => by first | (intro c; cases c) | (rcases y with y | y <;> (intro c; cases c)) | (rcases y with y | y | y <;> (intro c; cases c))) ?_ h
 clear h
 intro t16 o_ h
 dsimp only [impl_IsName_l1] at h
 rcases it_some h with ⟨z2, h⟩ | ⟨z2, h⟩
 ·try simp only [go_sem, n1, n2, n3, n4] at z2
  all_goals
  obtain ⟨z3, h⟩ := ck_some h
  try simp only [go_sem, n1, n2, n3, n4, z2] at z3
  all_goals
  rcases it_some h with ⟨z4, h⟩ | ⟨z4, h⟩
  ·try simp only [go_sem, n1, n2, n3, n4, z2, z3] at z4
   all_goals
   obtain rfl := so_some h
   refine ⟨0, fun L hL => ?_⟩
   simp only [go_sem, ir81, E_16_l1, R_16_l1, ir81_b0, ir81_k0, ir81_o0, ir81_r0, z2, z3, z4]
  ·try simp only [go_sem, n1, n2, n3, n4, z2, z3] at z4
   all_goals
   obtain rfl := so_some h
   refine ⟨0, fun L hL => ?_⟩
   simp only [go_sem, ir81, E_16_l1, R_16_l1, ir81_b0, ir81_k0, ir81_o0, ir81_r0, z2, z3, z4]
 ·try simp only [go_sem, n1, n2, n3, n4] at z2
  all_goals
  obtain rfl := so_some h
  refine ⟨0, fun L hL => ?_⟩
  simp only [go_sem, ir81, E_16_l1, R_16_l1, ir81_b0, ir81_k0, ir81_o0, ir81_r0, z2]

theorem Fs_16 {s_ : List UInt8} {y_ : Bool} (h : impl_IsName s_ = some y_) : c_16.F [.str s_] = ⟨true, .bool y_, [.any]⟩ := by
 refine mkF_E rfl ?_
 dsimp only [impl_IsName] at h
 rcases it_some h with ⟨z1, h⟩ | ⟨z1, h⟩
 ·try simp only [go_sem, n1, n2, n3, n4] at z1
  all_goals
  obtain rfl := so_some h
  refine ⟨0, fun L hL => ?_⟩
  simp only [go_sem, ir81, E_16_l1, R_16_l1, ir81_k0, ir81_o0, ir81_r0, z1]
 ·try simp only [go_sem, n1, n2, n3, n4] at z1
  all_goals
  obtain ⟨y_5, z5, h⟩ := bd_some h
  obtain ⟨Lz5, ez5⟩ := impl_IsName_l1_ex z5
  rcases y_5 with y_5a | y_5b
  ·dsimp only at h
   obtain rfl := so_some h
   refine ⟨Lz5, fun L hL => ?_⟩
   have ez5 := ez5 L (by omega)
   try simp only [go_sem, E_16_l1, R_16_l1, ir81_k0, ir81_o0, ir81_r0, z1] at ez5
   simp only [go_sem, ir81, E_16_l1, R_16_l1, ir81_k0, ir81_o0, ir81_r0, z1, ez5]
  ·dsimp only at h
   obtain rfl := so_some h
   refine ⟨Lz5, fun L hL => ?_⟩
   have ez5 := ez5 L (by omega)
   try simp only [go_sem, E_16_l1, R_16_l1, ir81_k0, ir81_o0, ir81_r0, z1] at ez5
   simp only [go_sem, ir81, E_16_l1, R_16_l1, ir81_k0, ir81_o0, ir81_r0, z1, ez5]


def ir105_v : List Nat := [0, 1, 2, 3]
def ir105 : AFn := ⟨1, 4, .seq (.region false [ VO 1 1 (.box (.v 0)), VO 2 2 (.mov (.c (.bool false)))]) (.seq (.region false [ PO 4 (.fldAddr 1 (.v 1)), PO 5 (.load false 1 (.s 0)), PO 6 (.call 71 [(.s 0)]), PO 7 (.mov (.s 0)), ⟨.push, 8, (some ((.s 0), true)), .fldAddr 2 (.v 1)⟩, ⟨.push, 9, (some ((.s 1), true)), .load false 1 (.s 0)⟩, ⟨.push, 10, (some ((.s 2), true)), .call 71 [(.s 0)]⟩, PO 11 (.pick (.s 3) (.s 0) (.c (.bool false))), PO 12 (.mov (.s 0)), ⟨.push, 13, (some ((.s 0), true)), .fldAddr 1 (.v 1)⟩, ⟨.push, 14, (some ((.s 1), true)), .load false 1 (.s 0)⟩, ⟨.push, 15, (some ((.s
 2), true)), .fldAddr 2 (.v 1)⟩, ⟨.push, 16, (some ((.s 3), true)), .load false 1 (.s 0)⟩, ⟨.push, 17, (some ((.s 4), true)), .bin false .leq (.s 2) (.s 0)⟩, PO 18 (.pick (.s 5) (.s 0) (.c (.bool false))), VS 3 3 0]) (.seq (.region false [ PO 19 (.fldAddr 0 (.v 1)), PO 20 (.load false 1 (.s 0)), PO 21 (.call 81 [(.s 0)]), PO 22 (.mov (.s 0)), ⟨.push, 23, (some ((.s 0), true)), .mov (.v 3)⟩, PO 24 (.pick (.s 1) (.s 0) (.c (.bool false))), PO 25 (.mov (.s 0)), ⟨.push, 26, (some ((.s 0), true)), .fldAddr 3 (.v 1)⟩, ⟨.push, 27, (some ((.s 1), true)), .load false 1 (.s 0)⟩, ⟨.push, 28, (some ((.s
 2), true)), .call 74 [(.s 0), (I6 1), (I6 100)]⟩, PO 29 (.pick (.s 3) (.s 0) (.c (.bool false))), PO 30 (.mov (.s 0)), ⟨.push, 31, (some ((.s 0), true)), .fldAddr 4 (.v 1)⟩, ⟨.push, 32, (some ((.s 1), true)), .load false 1 (.s 0)⟩, ⟨.push, 33, (some ((.s 2), true)), .fldAddr 3 (.v 1)⟩, ⟨.push, 34, (some ((.s 3), true)), .load false 1 (.s 0)⟩, ⟨.push, 35, (some ((.s 4), true)), .call 74 [(.s 2), (I6 0), (.s 0)]⟩, PO 36 (.pick (.s 5) (.s 0) (.c (.bool false))), PO 37 (.mov (.s 0)), ⟨.push, 38, (some ((.s 0), true)), .fldAddr 5 (.v 1)⟩, ⟨.push, 39, (some ((.s 1), true)), .load false 1 (.s 0)⟩,
 ⟨.push, 40, (some ((.s 2), true)), .call 74 [(.s 0), (I6 1), (I6 5)]⟩, PO 41 (.pick (.s 3) (.s 0) (.c (.bool false))), VS 2 2 0]) (.ret))), [.t 2]⟩
noncomputable def t_17 : List (Nat × Ctr) := [(71, c_15), (81, c_16), (74, c_14)]
theorem lk_17_71 : look t_17 71 = some c_15 := rfl
theorem lk_17_81 : look t_17 81 = some c_16 := rfl
theorem lk_17_74 : look t_17 74 = some c_14 := rfl
noncomputable def c_17 : Ctr := mkF t_17 ir105 [.bor]
theorem s_17 : Sound Tryz.prog 105 c_17 := mkF_sound _ rfl (snd_cons s_15 (snd_cons s_16 (snd_cons s_14 snd_nil))) (by kernel_rfl : chkFn Tryz.prog 105 ir105 ir105_v = true)
theorem M_17 : c_17.modes = [.bor] := rfl
theorem Fl_17 : c_17.flat = true := rfl
attribute [go_sem] M_17 Fl_17
attribute [go_sem] lk_17_71 lk_17_81 lk_17_74
theorem Fs_17 {x : Request} {y_ : Bool} (h : impl_isRequest x = some y_) : c_17.F [Request_av x] = ⟨true, .bool y_, [.any]⟩ := by
 refine mkF_E rfl ?_
 dsimp only [impl_isRequest] at h
 obtain ⟨y_1, z1, h⟩ := bd_some h
 have fz1 := Fs_15 z1
 try simp only [go_sem] at fz1
 obtain ⟨z2, h⟩ := ck_some h
 rcases or_split z2 with ⟨gz2, z2⟩ | gz2
 ·try simp only [go_sem, n1, n2, n3, n4] at gz2
  all_goals
  obtain ⟨y_2, hz2⟩ := Option.isSome_iff_exists.1 z2
  have fz2 := Fs_15 hz2
  try simp only [go_sem, n1, n2, n3, n4, gz2] at hz2
  all_goals
  try simp only [go_sem, gz2] at fz2
  obtain ⟨y_3, z3, h⟩ := bd_some h
  have fz3 := Fs_16 z3
  try simp only [go_sem, gz2, hz2] at fz3
  obtain ⟨z4, h⟩ := ck_some h
  rcases or_split z4 with ⟨gz4, z4⟩ | gz4
  ·try simp only [go_sem, n1, n2, n3, n4, gz2, hz2] at gz4
   all_goals
   obtain ⟨y_4, hz4⟩ := Option.isSome_iff_exists.1 z4
   have fz4 := Fs_14 hz4
   try simp only [go_sem, n1, n2, n3, n4, gz2, hz2, gz4] at hz4
   all_goals
   try simp only [go_sem, gz2, hz2, gz4] at fz4
   obtain ⟨z5, h⟩ := ck_some h
   rcases or_split z5 with ⟨gz5, z5⟩ | gz5
   ·try simp only [go_sem, n1, n2, n3, n4, gz2, hz2, gz4, hz4] at gz5
    all_goals
    obtain ⟨y_5, hz5⟩ := Option.isSome_iff_exists.1 z5
    have fz5 := Fs_14 hz5
    try simp only [go_sem, n1, n2, n3, n4, gz2, hz2, gz4, hz4, gz5] at hz5
    all_goals
    try simp only [go_sem, gz2, hz2, gz4, hz4, gz5] at fz5
    obtain ⟨z6, h⟩ := ck_some h
    rcases or_split z6 with ⟨gz6, z6⟩ | gz6
    ·try simp only [go_sem, n1, n2, n3, n4, gz2, hz2, gz4, hz4, gz5, hz5] at gz6
     all_goals
     obtain ⟨y_6, hz6⟩ := Option.isSome_iff_exists.1 z6
     have fz6 := Fs_14 hz6
     try simp only [go_sem, n1, n2, n3, n4, gz2, hz2, gz4, hz4, gz5, hz5, gz6] at hz6
     all_goals
     try simp only [go_sem, gz2, hz2, gz4, hz4, gz5, hz5, gz6] at fz6
     obtain rfl := so_some h
     refine ⟨0, fun L hL => ?_⟩
     simp only [go_sem, ir105, fz1, gz2, hz2, fz2, fz3, gz4, hz4, fz4, gz5, hz5, fz5, gz6, hz6, fz6]
    ·try simp only [go_sem, n1, n2, n3, n4, gz2, hz2, gz4, hz4, gz5, hz5] at gz6
     all_goals
     obtain rfl := so_some h
     refine ⟨0, fun L hL => ?_⟩
     simp only [go_sem, ir105, fz1, gz2, hz2, fz2, fz3, gz4, hz4, fz4, gz5, hz5, fz5, gz6]
   ·try simp only [go_sem, n1, n2, n3, n4, gz2, hz2, gz4, hz4] at gz5
    all_goals
    obtain ⟨z6, h⟩ := ck_some h
    obtain rfl := so_some h
    refine ⟨0, fun L hL => ?_⟩
    simp only [go_sem, ir105, fz1, gz2, hz2, fz2, fz3, gz4, hz4, fz4, gz5]
  ·rcases and_f gz4 with gz4a | ⟨gz4a, gz4b⟩
   ·try simp only [go_sem, n1, n2, n3, n4, gz2, hz2] at gz4a
    all_goals
    obtain ⟨z5, h⟩ := ck_some h
    obtain ⟨z6, h⟩ := ck_some h
    obtain rfl := so_some h
    refine ⟨0, fun L hL => ?_⟩
    simp only [go_sem, ir105, fz1, gz2, hz2, fz2, fz3, gz4a]
   ·rcases and_f gz4b with gz4ba | ⟨gz4ba, gz4bb⟩
    ·rcases and_f gz4ba with gz4baa | ⟨gz4baa, gz4bab⟩
     ·try simp only [go_sem, n1, n2, n3, n4, gz2, hz2, gz4a] at gz4baa
      all_goals
      (simp_all)
     ·try simp only [go_sem, n1, n2, n3, n4, gz2, hz2] at gz4a
      all_goals
      try simp only [go_sem, n1, n2, n3, n4, gz2, hz2, gz4a] at gz4baa
      all_goals
      try simp only [go_sem, n1, n2, n3, n4, gz2, hz2, gz4a, gz4baa] at gz4bab
      all_goals
      obtain ⟨z5, h⟩ := ck_some h
      obtain ⟨z6, h⟩ := ck_some h
      obtain rfl := so_some h
      refine ⟨0, fun L hL => ?_⟩
      simp only [go_sem, ir105, fz1, gz2, hz2, fz2, fz3, gz4a, gz4baa, gz4bab]
    ·obtain ⟨gz4baa, gz4bab⟩ := and_t gz4ba
     try simp only [go_sem, n1, n2, n3, n4, gz2, hz2] at gz4a
     all_goals
     try simp only [go_sem, n1, n2, n3, n4, gz2, hz2, gz4a] at gz4baa
     all_goals
     try simp only [go_sem, n1, n2, n3, n4, gz2, hz2, gz4a, gz4baa] at gz4bab
     all_goals
     try simp only [go_sem, n1, n2, n3, n4, gz2, hz2, gz4a, gz4baa, gz4bab] at gz4bb
     all_goals
     obtain ⟨z5, h⟩ := ck_some h
     obtain ⟨z6, h⟩ := ck_some h
     obtain rfl := so_some h
     refine ⟨0, fun L hL => ?_⟩
     simp only [go_sem, ir105, fz1, gz2, hz2, fz2, fz3, gz4a, gz4baa, gz4bab, gz4bb]
 ·try simp only [go_sem, n1, n2, n3, n4] at gz2
  all_goals
  obtain ⟨y_3, z3, h⟩ := bd_some h
  have fz3 := Fs_16 z3
  try simp only [go_sem, gz2] at fz3
  obtain ⟨z4, h⟩ := ck_some h
  obtain ⟨z5, h⟩ := ck_some h
  obtain ⟨z6, h⟩ := ck_some h
  obtain rfl := so_some h
  refine ⟨0, fun L hL => ?_⟩
  simp only [go_sem, ir105, fz1, gz2, fz3]


def ir119_v : List Nat := [0, 1, 2]
def ir119 : AFn := ⟨1, 3, .seq (.region false [ VO 1 1 (.box (.v 0)), VO 2 2 (.mov (.c (.bool false)))]) (.seq (.region false [ PO 3 (.load true 6 (.v 1)), PO 4 (.call 105 [(.s 0)]), PO 5 (.un .not (.s 0)), VS 2 2 0]) (.ret)), [.t 2]⟩
noncomputable def t_18 : List (Nat × Ctr) := [(105, c_17)]
theorem lk_18_105 : look t_18 105 = some c_17 := rfl
noncomputable def c_18 : Ctr := mkF t_18 ir119 [.bor]
theorem s_18 : Sound Tryz.prog 119 c_18 := mkF_sound _ rfl (snd_cons s_17 snd_nil) (by kernel_rfl : chkFn Tryz.prog 119 ir119 ir119_v = true)
theorem M_18 : c_18.modes = [.bor] := rfl
theorem Fl_18 : c_18.flat = true := rfl
attribute [go_sem] M_18 Fl_18
attribute [go_sem] lk_18_105
theorem Fs_18 {x : Request} {y_ : Bool} (h : impl_ValidRequests_c1 x = some y_) : c_18.F [Request_av x] = ⟨true, .bool y_, [.any]⟩ := by
 refine mkF_E rfl ?_
 dsimp only [impl_ValidRequests_c1] at h
 obtain ⟨y_1, z1, h⟩ := bd_some h
 have fz1 := Fs_17 z1
 try simp only [go_sem] at fz1
 obtain rfl := so_some h
 refine ⟨0, fun L hL => ?_⟩
 simp only [go_sem, ir119, fz1]


def ir145_b0 : IR := .seq (.region false [ VO 6 9 (.bin false .lss (.v 5) (.v 4))]) (.seq (.cond (.v 6) (.skip) (.exit 0)) (.seq (.block 1 (.seq (.region false [ PM 10 5, VS 3 5 0]) (.test false [ PM 11 1, PM 12 0, PM 13 3, PO 14 (.ixAddr 6 (.s 1) (.s 0)), PO 15 (.load true 6 (.s 0)), PO 16 (.callv (.s 4) [(.s 0)])] (.s 0) (.seq (.region false [ PM 17 3, VS 2 4 0]) (.ret)) (.skip)))) (.region false [ PO 18 (.bin false .add (.v 5) (I6 1)), VS 5 8 0])))
def ir145_k0 : List Bool := [true, true, false, false, true, true, false]
def ir145_o0 : List Bool := [false, false, false, false, false, false, false]
def ir145_r0 : List Bool := [false, false, true, false, false, false, false]
def ir145_v : List Nat := [0, 1, 4, 5, 7, 8, 9]
def ir145 : AFn := ⟨2, 7, .seq (.region false [ VO 2 4 (.mov (I6 0))]) (.seq (.seq (.region false [ PM 6 0, VO 4 7 (.len false (.s 0)), VO 5 8 (.mov (I6 0))]) (.block 0 (.loop ir145_k0 ir145_o0 ir145_r0 ir145_b0))) (.seq (.region false [ VO 2 4 (.mov (.c (.int .i64 (-1))))]) (.ret))), [.t 2]⟩
noncomputable def t_19 : List (Nat × Ctr) := [(119, c_18)]
theorem lk_19_119 : look t_19 119 = some c_18 := rfl
noncomputable def c_19 : Ctr := mkF t_19 ir145 [.bor, .bor]
theorem s_19 : Sound Tryz.prog 145 c_19 := mkF_sound _ rfl (snd_cons s_18 snd_nil) (by kernel_rfl : chkFn Tryz.prog 145 ir145 ir145_v = true)
theorem M_19 : c_19.modes = [.bor, .bor] := rfl
theorem Fl_19 : c_19.flat = true := rfl
attribute [go_sem] M_19 Fl_19
attribute [go_sem] lk_19_119
def E_19_l1 (s_ : List Request) (t7 : Int) : Int → St
 | t8 => ⟨[.sl 6 (List.map Request_av s_), .fn (.func 119) [] [], .any, .any, .int .i64 t7, .int .i64 t8, .any], [], [], true⟩
def R_19_l1 (s_ : List Request) (t7 : Int) : (Unit ⊕ Int) → Res
 | .inl y => (.exit 0, ⟨[.any, .any, .any, .any, .any, .any, .any], [], [], true⟩)
 | .inr y => (.ret, ⟨[.any, .any, .int .i64 y, .any, .any, .any, .any], [], [], true⟩)
theorem slices_IndexFunc_impl_Request_impl_Request__impl_ValidRequests_c1_l1_ex {s_ : List Request} {t7 : Int} {sgm_ : Int} {rho_ : Unit ⊕ Int} (h : whileE (slices_IndexFunc_impl_Request_impl_Request__impl_ValidRequests_c1_l1 s_ t7) sgm_ = some rho_) : ∃ L0, ∀ L, L0 ≤ L → iter (exec (look t_19) L ir145_b0) ir145_k0 ir145_o0 ir145_r0 L (E_19_l1 s_ t7 sgm_) = R_19_l1 s_ t7 rho_ := by
 refine loop_ex (E := E_19_l1 s_ t7) (R := R_19_l1 s_ t7) (fun y => by first | (intro c; cases c) | (rcases y with y | y <;> (intro c; cases c)) | (rcases y with y | y | y <;> (intro c; cases c))) ?_ h
 clear h
 intro t8 o_ h
 dsimp only [slices_IndexFunc_impl_Request_impl_Request__impl_ValidRequests_c1_l1] at h
 rcases it_some h with ⟨z1, h⟩ | ⟨z1, h⟩
 ·try simp only [go_sem, n1, n2, n3, n4] at z1
  all_goals
  obtain ⟨z2, h⟩ := ck_some h
  have lz2 := ix_lt z2
  have xz2 := getD_mapD Request_av s_ lz2
  try simp only [go_sem] at lz2
  try simp only [go_sem] at xz2
  try simp only [go_sem, n1, n2, n3, n4, z1] at z2
  all_goals
  obtain ⟨y_3, z3, h⟩ := bd_some h
  have fz3 := Fs_18 z3
  try simp only [go_sem, z1, z2] at fz3
  rcases it_some h with ⟨z4, h⟩ | ⟨z4, h⟩
  ·try simp only [go_sem, n1, n2, n3, n4, z1, z2] at z4
   all_goals
   obtain rfl := so_some h
   refine ⟨0, fun L hL => ?_⟩
   simp only [go_sem, ir145, E_19_l1, R_19_l1, ir145_b0, ir145_k0, ir145_o0, ir145_r0, z1, z2, lz2, xz2, fz3, z4]
  ·try simp only [go_sem, n1, n2, n3, n4, z1, z2] at z4
   all_goals
   obtain rfl := so_some h
   refine ⟨0, fun L hL => ?_⟩
   simp only [go_sem, ir145, E_19_l1, R_19_l1, ir145_b0, ir145_k0, ir145_o0, ir145_r0, z1, z2, lz2, xz2, fz3, z4]
 ·try simp only [go_sem, n1, n2, n3, n4] at z1
  all_goals
  obtain rfl := so_some h
  refine ⟨0, fun L hL => ?_⟩
  simp only [go_sem, ir145, E_19_l1, R_19_l1, ir145_b0, ir145_k0, ir145_o0, ir145_r0, z1]

theorem Fs_19 {s_ : List Request} {y_ : Int} (h : slices_IndexFunc_impl_Request_impl_Request__impl_ValidRequests_c1 s_ = some y_) : c_19.F [.sl 6 (List.map Request_av s_), .fn (.func 119) [] []] = ⟨true, .int .i64 y_, [.any, .any]⟩ := by
 refine mkF_E rfl ?_
 dsimp only [slices_IndexFunc_impl_Request_impl_Request__impl_ValidRequests_c1] at h
 obtain ⟨y_5, z5, h⟩ := bd_some h
 obtain ⟨Lz5, ez5⟩ := slices_IndexFunc_impl_Request_impl_Request__impl_ValidRequests_c1_l1_ex z5
 rcases y_5 with y_5a | y_5b
 ·dsimp only at h
  obtain rfl := so_some h
  refine ⟨Lz5, fun L hL => ?_⟩
  have ez5 := ez5 L (by omega)
  try simp only [go_sem, E_19_l1, R_19_l1, ir145_k0, ir145_o0, ir145_r0] at ez5
  simp only [go_sem, ir145, E_19_l1, R_19_l1, ir145_k0, ir145_o0, ir145_r0, ez5]
 ·dsimp only at h
  obtain rfl := so_some h
  refine ⟨Lz5, fun L hL => ?_⟩
  have ez5 := ez5 L (by omega)
  try simp only [go_sem, E_19_l1, R_19_l1, ir145_k0, ir145_o0, ir145_r0] at ez5
  simp only [go_sem, ir145, E_19_l1, R_19_l1, ir145_k0, ir145_o0, ir145_r0, ez5]


def ir118_v : List Nat := [0, 1, 4]
def ir118 : AFn := ⟨2, 3, .seq (.region false [ VO 2 4 (.mov (.c (.bool false)))]) (.seq (.region false [ PM 5 0, PM 6 1, PO 7 (.call 145 [(.s 1), (.s 0)]), PO 8 (.bin false .geq (.s 0) (I6 0)), VS 2 4 0]) (.ret)), [.t 2]⟩
noncomputable def t_20 : List (Nat × Ctr) := [(145, c_19)]
theorem lk_20_145 : look t_20 145 = some c_19 := rfl
noncomputable def c_20 : Ctr := mkF t_20 ir118 [.bor, .bor]
theorem s_20 : Sound Tryz.prog 118 c_20 := mkF_sound _ rfl (snd_cons s_19 snd_nil) (by kernel_rfl : chkFn Tryz.prog 118 ir118 ir118_v = true)
theorem M_20 : c_20.modes = [.bor, .bor] := rfl
theorem Fl_20 : c_20.flat = true := rfl
attribute [go_sem] M_20 Fl_20
attribute [go_sem] lk_20_145
theorem Fs_20 {s_ : List Request} {y_ : Bool} (h : slices_ContainsFunc_impl_Request_impl_Request__impl_ValidRequests_c1 s_ = some y_) : c_20.F [.sl 6 (List.map Request_av s_), .fn (.func 119) [] []] = ⟨true, .bool y_, [.any, .any]⟩ := by
 refine mkF_E rfl ?_
 dsimp only [slices_ContainsFunc_impl_Request_impl_Request__impl_ValidRequests_c1] at h
 obtain ⟨y_1, z1, h⟩ := bd_some h
 have fz1 := Fs_19 z1
 try simp only [go_sem] at fz1
 obtain rfl := so_some h
 refine ⟨0, fun L hL => ?_⟩
 simp only [go_sem, ir118, fz1]


def ir52_v : List Nat := [0, 2]
def ir52 : AFn := ⟨1, 2, .seq (.region false [ VO 1 2 (.mov (.c (.bool false)))]) (.seq (.region false [ PM 3 0, PO 4 (.len false (.s 0)), PO 5 (.bin false .leq (.s 0) (I6 30)), PO 6 (.mov (.s 0)), ⟨.push, 7, (some ((.s 0), true)), .mov (.v 0)⟩, ⟨.push, 8, (some ((.s 1), true)), .call 118 [(.s 0), (.c (.fn (.func 119) [] []))]⟩, ⟨.push, 9, (some ((.s 2), true)), .un .not (.s 0)⟩, PO 10 (.pick (.s 3) (.s 0) (.c (.bool false))), VS 1 2 0]) (.ret)), [.t 1]⟩
noncomputable def t_21 : List (Nat × Ctr) := [(118, c_20)]
theorem lk_21_118 : look t_21 118 = some c_20 := rfl
noncomputable def c_21 : Ctr := mkF t_21 ir52 [.bor]
theorem s_21 : Sound Tryz.prog 52 c_21 := mkF_sound _ rfl (snd_cons s_20 snd_nil) (by kernel_rfl : chkFn Tryz.prog 52 ir52 ir52_v = true)
theorem M_21 : c_21.modes = [.bor] := rfl
theorem Fl_21 : c_21.flat = true := rfl
attribute [go_sem] M_21 Fl_21
attribute [go_sem] lk_21_118
theorem Fs_21 {list : List Request} {y_ : Bool} (h : impl_ValidRequests list = some y_) : c_21.F [.sl 6 (List.map Request_av list)] = ⟨true, .bool y_, [.any]⟩ := by
 refine mkF_E rfl ?_
 dsimp only [impl_ValidRequests] at h
 obtain ⟨z1, h⟩ := ck_some h
 rcases or_split z1 with ⟨gz1, z1⟩ | gz1
 ·try simp only [go_sem, n1, n2, n3, n4] at gz1
  all_goals
  obtain ⟨y_1, hz1⟩ := Option.isSome_iff_exists.1 z1
  have fz1 := Fs_20 hz1
  try simp only [go_sem, n1, n2, n3, n4, gz1] at hz1
  all_goals
  try simp only [go_sem, gz1] at fz1
  obtain rfl := so_some h
  refine ⟨0, fun L hL => ?_⟩
  simp only [go_sem, ir52, gz1, hz1, fz1]
 ·try simp only [go_sem, n1, n2, n3, n4] at gz1
  all_goals
  obtain rfl := so_some h
  refine ⟨0, fun L hL => ?_⟩
  simp only [go_sem, ir52, gz1]


def ir91_v : List Nat := [0, 1, 4]
def ir91 : AFn := ⟨2, 3, .seq (.region false [ VO 2 4 (.mov (I6 0))]) (.seq (.block 0 (.test false [ PM 6 0, PO 7 (.call 52 [(.s 0)]), PO 8 (.un .not (.s 0)), PO 5 (.mov (.s 0))] (.s 0) (.seq (.region false [ VO 2 4 (.mov (I6 1))]) (.ret)) (.test false [ PM 10 1, PO 11 (.call 71 [(.s 0)]), PO 12 (.un .not (.s 0)), PO 9 (.mov (.s 0))] (.s 0) (.seq (.region false [ VO 2 4 (.mov (I6 2))]) (.ret)) (.skip)))) (.seq (.region false [ VO 2 4 (.mov (I6 0))]) (.ret))), [.t 2]⟩
noncomputable def t_22 : List (Nat × Ctr) := [(52, c_21), (71, c_15)]
theorem lk_22_52 : look t_22 52 = some c_21 := rfl
theorem lk_22_71 : look t_22 71 = some c_15 := rfl
noncomputable def c_22 : Ctr := mkF t_22 ir91 [.bor, .bor]
theorem s_22 : Sound Tryz.prog 91 c_22 := mkF_sound _ rfl (snd_cons s_21 (snd_cons s_15 snd_nil)) (by kernel_rfl : chkFn Tryz.prog 91 ir91 ir91_v = true)
theorem M_22 : c_22.modes = [.bor, .bor] := rfl
theorem Fl_22 : c_22.flat = true := rfl
attribute [go_sem] M_22 Fl_22
attribute [go_sem] lk_22_52 lk_22_71
theorem Fs_22 {list : List Request} {t : Int} {y_ : Int} (h : impl_timed list t = some y_) : c_22.F [.sl 6 (List.map Request_av list), .int .i64 t] = ⟨true, .int .i64 y_, [.any, .any]⟩ := by
 refine mkF_E rfl ?_
 dsimp only [impl_timed] at h
 obtain ⟨y_1, z1, h⟩ := bd_some h
 have fz1 := Fs_21 z1
 try simp only [go_sem] at fz1
 rcases it_some h with ⟨z2, h⟩ | ⟨z2, h⟩
 ·try simp only [go_sem, n1, n2, n3, n4] at z2
  all_goals
  obtain rfl := so_some h
  refine ⟨0, fun L hL => ?_⟩
  simp only [go_sem, ir91, fz1, z2]
 ·try simp only [go_sem, n1, n2, n3, n4] at z2
  all_goals
  obtain ⟨y_3, z3, h⟩ := bd_some h
  have fz3 := Fs_15 z3
  try simp only [go_sem, z2] at fz3
  rcases it_some h with ⟨z4, h⟩ | ⟨z4, h⟩
  ·try simp only [go_sem, n1, n2, n3, n4, z2] at z4
   all_goals
   obtain rfl := so_some h
   refine ⟨0, fun L hL => ?_⟩
   simp only [go_sem, ir91, fz1, z2, fz3, z4]
  ·try simp only [go_sem, n1, n2, n3, n4, z2] at z4
   all_goals
   obtain rfl := so_some h
   refine ⟨0, fun L hL => ?_⟩
   simp only [go_sem, ir91, fz1, z2, fz3, z4]


def ir96_v : List Nat := [0, 1, 2, 4]
def ir96 : AFn := ⟨2, 4, .seq (.region false [ VO 2 2 (.box (.v 0)), VO 3 4 (.mov (.c (.bool false)))]) (.seq (.region false [ PM 5 1, PO 6 (.fldAddr 1 (.v 2)), PO 7 (.load false 1 (.s 0)), PO 8 (.fldAddr 2 (.v 2)), PO 9 (.load false 1 (.s 0)), PO 10 (.call 74 [(.s 4), (.s 2), (.s 0)]), PO 11 (.mov (.s 0)), ⟨.push, 12, (some ((.s 0), true)), .fldAddr 4 (.v 2)⟩, ⟨.push, 13, (some ((.s 1), true)), .load false 1 (.s 0)⟩, ⟨.push, 14, (some ((.s 2), true)), .fldAddr 3 (.v 2)⟩, ⟨.push, 15, (some ((.s 3), true)), .load false 1 (.s 0)⟩, ⟨.push, 16, (some ((.s 4), true)), .bin false .lss (.s 2) (.s 0)⟩,
 PO 17 (.pick (.s 5) (.s 0) (.c (.bool false))), VS 3 4 0]) (.ret)), [.t 3]⟩
noncomputable def t_23 : List (Nat × Ctr) := [(74, c_14)]
theorem lk_23_74 : look t_23 74 = some c_14 := rfl
noncomputable def c_23 : Ctr := mkF t_23 ir96 [.bor, .bor]
theorem s_23 : Sound Tryz.prog 96 c_23 := mkF_sound _ rfl (snd_cons s_14 snd_nil) (by kernel_rfl : chkFn Tryz.prog 96 ir96 ir96_v = true)
theorem M_23 : c_23.modes = [.bor, .bor] := rfl
theorem Fl_23 : c_23.flat = true := rfl
attribute [go_sem] M_23 Fl_23
attribute [go_sem] lk_23_74
theorem Fs_23 {x : Request} {t : Int} {y_ : Bool} (h : impl_Request_open x t = some y_) : c_23.F [Request_av x, .int .i64 t] = ⟨true, .bool y_, [.any, .any]⟩ := by
 refine mkF_E rfl ?_
 dsimp only [impl_Request_open] at h
 obtain ⟨y_1, z1, h⟩ := bd_some h
 have fz1 := Fs_14 z1
 try simp only [go_sem] at fz1
 obtain rfl := so_some h
 refine ⟨0, fun L hL => ?_⟩
 simp only [go_sem, ir96, fz1]


def ir92_b0 : IR := .seq (.region false [ VO 9 11 (.bin false .lss (.v 8) (.v 7))]) (.seq (.cond (.v 9) (.skip) (.exit 0)) (.seq (.block 1 (.seq (.region false [ PM 12 8, PO 13 (.ixAddr 6 (.v 6) (.v 8)), PO 14 (.load true 6 (.s 0)), VO 5 7 (.alloc (.agg [.str [], .int .i64 (0), .int .i64 (0), .int .i64 (0), .int .i64 (0), .int .i64 (0)])), VS 4 6 2, ⟨.no, 0, none, .store 6 (.v 5) (.s 0)⟩]) (.seq (.test false [ PO 15 (.load true 6 (.v 5)), PM 16 1, PO 17 (.call 96 [(.s 1), (.s 0)]), PO 18 (.un .not (.s 0))] (.s 0) (.exit 1) (.skip)) (.anyo 32 [ SO 0 19 (.mov (.v 3)), SO 1 20 (.bin false .lss (.s
 0) (I6 0)), SO 2 21 (.mov (.s 1)), ⟨.slot 3, 22, (some ((.s 2), false)), .fldAddr 5 (.v 5)⟩, ⟨.slot 4, 23, (some ((.s 2), false)), .load false 1 (.s 3)⟩, ⟨.slot 5, 24, (some ((.s 2), false)), .mov (.v 0)⟩, ⟨.slot 6, 25, (some ((.s 2), false)), .mov (.v 3)⟩, ⟨.slot 7, 26, (some ((.s 2), false)), .ixAddr 6 (.s 5) (.s 6)⟩, ⟨.slot 8, 27, (some ((.s 2), false)), .fldAddr 5 (.s 7)⟩, ⟨.slot 9, 28, (some ((.s 2), false)), .load false 1 (.s 8)⟩, ⟨.slot 10, 29, (some ((.s 2), false)), .bin false .gtr (.s 4) (.s 9)⟩, SO 11 30 (.pick (.s 2) (.c (.bool true)) (.s 10)), SO 12 31 (.mov (.s 11)), ⟨.slot 13,
 32, (some ((.s 12), false)), .fldAddr 5 (.v 5)⟩, ⟨.slot 14, 33, (some ((.s 12), false)), .load false 1 (.s 13)⟩, ⟨.slot 15, 34, (some ((.s 12), false)), .mov (.v 0)⟩, ⟨.slot 16, 35, (some ((.s 12), false)), .mov (.v 3)⟩, ⟨.slot 17, 36, (some ((.s 12), false)), .ixAddr 6 (.s 15) (.s 16)⟩, ⟨.slot 18, 37, (some ((.s 12), false)), .fldAddr 5 (.s 17)⟩, ⟨.slot 19, 38, (some ((.s 12), false)), .load false 1 (.s 18)⟩, ⟨.slot 20, 39, (some ((.s 12), false)), .bin false .eql (.s 14) (.s 19)⟩, ⟨.slot 21, 40, (some ((.s 12), false)), .mov (.s 20)⟩, ⟨.slot 22, 41, (some ((.s 21), true)), .fldAddr 2 (.v
 5)⟩, ⟨.slot 23, 42, (some ((.s 21), true)), .load false 1 (.s 22)⟩, ⟨.slot 24, 43, (some ((.s 21), true)), .mov (.v 0)⟩, ⟨.slot 25, 44, (some ((.s 21), true)), .mov (.v 3)⟩, ⟨.slot 26, 45, (some ((.s 21), true)), .ixAddr 6 (.s 24) (.s 25)⟩, ⟨.slot 27, 46, (some ((.s 21), true)), .fldAddr 2 (.s 26)⟩, ⟨.slot 28, 47, (some ((.s 21), true)), .load false 1 (.s 27)⟩, ⟨.slot 29, 48, (some ((.s 21), true)), .bin false .lss (.s 23) (.s 28)⟩, ⟨.slot 30, 49, (some ((.s 12), false)), .pick (.s 21) (.s 29) (.c (.bool false))⟩, SO 31 50 (.pick (.s 12) (.c (.bool true)) (.s 30))] [] (.cond (.s 31) (.region
 false [ PM 51 4, VS 3 5 0]) (.skip)))))) (.region false [ PO 52 (.bin false .add (.v 8) (I6 1)), VS 8 10 0])))
def ir92_k0 : List Bool := [true, true, false, true, false, false, true, true, true, false]
def ir92_o0 : List Bool := [false, false, false, true, false, false, false, false, false, false]
def ir92_r0 : List Bool := [false, false, true, false, false, false, false, false, false, false]
def ir92_v : List Nat := [0, 1, 4, 5, 6, 7, 8, 9, 10, 11]
def ir92 : AFn := ⟨2, 10, .seq (.region false [ VO 2 4 (.mov (I6 0))]) (.seq (.region false [ VO 3 5 (.mov (.c (.int .i64 (-1))))]) (.seq (.seq (.region false [ VO 6 8 (.mov (.v 0)), VO 7 9 (.len false (.v 6)), VO 8 10 (.mov (I6 0))]) (.block 0 (.loop ir92_k0 ir92_o0 ir92_r0 ir92_b0))) (.seq (.region false [ PM 53 3, VS 2 4 0]) (.ret)))), [.t 2]⟩
noncomputable def t_24 : List (Nat × Ctr) := [(96, c_23)]
theorem lk_24_96 : look t_24 96 = some c_23 := rfl
noncomputable def c_24 : Ctr := mkF t_24 ir92 [.bor, .bor]
theorem s_24 : Sound Tryz.prog 92 c_24 := mkF_sound _ rfl (snd_cons s_23 snd_nil) (by kernel_rfl : chkFn Tryz.prog 92 ir92 ir92_v = true)
theorem M_24 : c_24.modes = [.bor, .bor] := rfl
theorem Fl_24 : c_24.flat = true := rfl
attribute [go_sem] M_24 Fl_24
attribute [go_sem] lk_24_96
def E_24_l1 (list : List Request) (t : Int) (t8 : List Request) (t9 : Int) : (Int × Int) → St
 | (best, t10) => ⟨[.sl 6 (List.map Request_av list), .int .i64 t, .any, .int .i64 best, .any, .any, .sl 6 (List.map Request_av t8), .int .i64 t9, .int .i64 t10, .any], [], [], true⟩
def R_24_l1 (list : List Request) (t : Int) (t8 : List Request) (t9 : Int) (y : Int) : Res := (.exit 0, ⟨[.any, .any, .any, .int .i64 y, .any, .any, .any, .any, .any, .any], [], [], true⟩)
theorem impl_next_l1_ex {list : List Request} {t : Int} {t8 : List Request} {t9 : Int} {sgm_ : Int × Int} {rho_ : Int} (h : whileE (impl_next_l1 list t t8 t9) sgm_ = some rho_) : ∃ L0, ∀ L, L0 ≤ L → iter (exec (look t_24) L ir92_b0) ir92_k0 ir92_o0 ir92_r0 L (E_24_l1 list t t8 t9 sgm_) = R_24_l1 list t t8 t9 rho_ := by
 refine loop_ex (E := E_24_l1 list t t8 t9) (R := R_24_l1 list t t8 t9) (fun y => by first | (intro c; cases c) | (rcases y with y | y <;> (intro c; cases c)) | (rcases y with y | y | y <;> (intro c; cases c))) ?_ h
 clear h
 rintro ⟨best, t10⟩ o_ h
 dsimp only [impl_next_l1] at h
 rcases it_some h with ⟨z1, h⟩ | ⟨z1, h⟩
 ·try simp only [go_sem, n1, n2, n3, n4] at z1
  all_goals
  obtain ⟨z2, h⟩ := ck_some h
  have lz2 := ix_lt z2
  have xz2 := getD_mapD Request_av t8 lz2
  try simp only [go_sem] at lz2
  try simp only [go_sem] at xz2
  try simp only [go_sem, n1, n2, n3, n4, z1] at z2
  all_goals
  obtain ⟨y_3, z3, h⟩ := bd_some h
  have fz3 := Fs_23 z3
  try simp only [go_sem, z1, z2] at fz3
  rcases it_some h with ⟨z4, h⟩ | ⟨z4, h⟩
  ·try simp only [go_sem, n1, n2, n3, n4, z1, z2] at z4
   all_goals
   obtain rfl := so_some h
   refine ⟨0, fun L hL => ?_⟩
   simp only [go_sem, ir92, E_24_l1, R_24_l1, ir92_b0, ir92_k0, ir92_o0, ir92_r0, z1, z2, lz2, xz2, fz3, z4]
  ·try simp only [go_sem, n1, n2, n3, n4, z1, z2] at z4
   all_goals
   obtain ⟨z5, h⟩ := ck_some h
   rcases or_split z5 with ⟨gz5, z5⟩ | gz5
   ·try simp only [go_sem, n1, n2, n3, n4, z1, z2, z4] at gz5
    all_goals
    have lz5 := ix_lt z5
    have xz5 := getD_mapD Request_av list lz5
    try simp only [go_sem] at lz5
    try simp only [go_sem] at xz5
    try simp only [go_sem, n1, n2, n3, n4, z1, z2, z4, gz5] at z5
    all_goals
    obtain ⟨z6, h⟩ := ck_some h
    rcases or_split z6 with ⟨gz6, z6⟩ | gz6
    ·try simp only [go_sem, n1, n2, n3, n4, z1, z2, z4, gz5, z5] at gz6
     all_goals
     have lz6 := ix_lt z6
     have xz6 := getD_mapD Request_av list lz6
     try simp only [go_sem] at lz6
     try simp only [go_sem] at xz6
     try simp only [go_sem, n1, n2, n3, n4, z1, z2, z4, gz5, z5, gz6] at z6
     all_goals
     obtain ⟨z7, h⟩ := ck_some h
     rcases or_split z7 with ⟨gz7, z7⟩ | gz7
     ·try simp only [go_sem, n1, n2, n3, n4, z1, z2, z4, gz5, z5, gz6, z6] at gz7
      all_goals
      have lz7 := ix_lt z7
      have xz7 := getD_mapD Request_av list lz7
      try simp only [go_sem] at lz7
      try simp only [go_sem] at xz7
      try simp only [go_sem, n1, n2, n3, n4, z1, z2, z4, gz5, z5, gz6, z6, gz7] at z7
      all_goals
      rcases it_some h with ⟨z8, h⟩ | ⟨z8, h⟩
      ·try simp only [go_sem, n1, n2, n3, n4, z1, z2, z4, gz5, z5, gz6, z6, gz7, z7] at z8
       all_goals
       obtain rfl := so_some h
       refine ⟨0, fun L hL => ?_⟩
       simp only [go_sem, ir92, E_24_l1, R_24_l1, ir92_b0, ir92_k0, ir92_o0, ir92_r0, z1, z2, lz2, xz2, fz3, z4, gz5, z5, lz5, xz5, gz6, z6, lz6, xz6, gz7, z7, lz7, xz7, z8]
      ·try simp only [go_sem, n1, n2, n3, n4, z1, z2, z4, gz5, z5, gz6, z6, gz7, z7] at z8
       all_goals
       obtain rfl := so_some h
       refine ⟨0, fun L hL => ?_⟩
       simp only [go_sem, ir92, E_24_l1, R_24_l1, ir92_b0, ir92_k0, ir92_o0, ir92_r0, z1, z2, lz2, xz2, fz3, z4, gz5, z5, lz5, xz5, gz6, z6, lz6, xz6, gz7, z7, lz7, xz7, z8]
     ·rcases and_f gz7 with gz7a | ⟨gz7a, gz7b⟩
      ·try simp only [go_sem, n1, n2, n3, n4, z1, z2, z4, gz5, z5, gz6, z6] at gz7a
       all_goals
       (simp_all)
      ·have gz7an := no_t gz7a
       obtain ⟨gz7ana, gz7anb⟩ := or_f gz7an
       try simp only [go_sem, n1, n2, n3, n4, z1, z2, z4, gz5, z5, gz6, z6] at gz7ana
       all_goals
       try simp only [go_sem, n1, n2, n3, n4, z1, z2, z4, gz5, z5, gz6, z6, gz7ana] at gz7anb
       all_goals
       try simp only [go_sem, n1, n2, n3, n4, z1, z2, z4, gz5, z5, gz6, z6, gz7ana, gz7anb] at gz7b
       all_goals
       rcases it_some h with ⟨z8, h⟩ | ⟨z8, h⟩
       ·try simp only [go_sem, n1, n2, n3, n4, z1, z2, z4, gz5, z5, gz6, z6, gz7ana, gz7anb, gz7b] at z8
        all_goals
        (simp_all)
       ·try simp only [go_sem, n1, n2, n3, n4, z1, z2, z4, gz5, z5, gz6, z6, gz7ana, gz7anb, gz7b] at z8
        all_goals
        obtain rfl := so_some h
        refine ⟨0, fun L hL => ?_⟩
        simp only [go_sem, ir92, E_24_l1, R_24_l1, ir92_b0, ir92_k0, ir92_o0, ir92_r0, z1, z2, lz2, xz2, fz3, z4, gz5, z5, lz5, xz5, gz6, z6, lz6, xz6, gz7ana, gz7anb, gz7b, z8]
    ·have gz6n := no_f gz6
     rcases or_t gz6n with gz6na | ⟨gz6na, gz6nb⟩
     ·try simp only [go_sem, n1, n2, n3, n4, z1, z2, z4, gz5, z5] at gz6na
      all_goals
      (simp_all)
     ·try simp only [go_sem, n1, n2, n3, n4, z1, z2, z4, gz5, z5] at gz6na
      all_goals
      try simp only [go_sem, n1, n2, n3, n4, z1, z2, z4, gz5, z5, gz6na] at gz6nb
      all_goals
      obtain ⟨z7, h⟩ := ck_some h
      rcases it_some h with ⟨z8, h⟩ | ⟨z8, h⟩
      ·try simp only [go_sem, n1, n2, n3, n4, z1, z2, z4, gz5, z5, gz6na, gz6nb] at z8
       all_goals
       obtain rfl := so_some h
       refine ⟨0, fun L hL => ?_⟩
       simp only [go_sem, ir92, E_24_l1, R_24_l1, ir92_b0, ir92_k0, ir92_o0, ir92_r0, z1, z2, lz2, xz2, fz3, z4, gz5, z5, lz5, xz5, gz6na, gz6nb, z8]
      ·try simp only [go_sem, n1, n2, n3, n4, z1, z2, z4, gz5, z5, gz6na, gz6nb] at z8
       all_goals
       (simp_all)
   ·have gz5n := no_f gz5
    try simp only [go_sem, n1, n2, n3, n4, z1, z2, z4] at gz5n
    all_goals
    obtain ⟨z6, h⟩ := ck_some h
    obtain ⟨z7, h⟩ := ck_some h
    rcases it_some h with ⟨z8, h⟩ | ⟨z8, h⟩
    ·try simp only [go_sem, n1, n2, n3, n4, z1, z2, z4, gz5n] at z8
     all_goals
     obtain rfl := so_some h
     refine ⟨0, fun L hL => ?_⟩
     simp only [go_sem, ir92, E_24_l1, R_24_l1, ir92_b0, ir92_k0, ir92_o0, ir92_r0, z1, z2, lz2, xz2, fz3, z4, gz5n, z8]
    ·try simp only [go_sem, n1, n2, n3, n4, z1, z2, z4, gz5n] at z8
     all_goals
     (simp_all)
 ·try simp only [go_sem, n1, n2, n3, n4] at z1
  all_goals
  obtain rfl := so_some h
  refine ⟨0, fun L hL => ?_⟩
  simp only [go_sem, ir92, E_24_l1, R_24_l1, ir92_b0, ir92_k0, ir92_o0, ir92_r0, z1]

theorem Fs_24 {list : List Request} {t : Int} {y_ : Int} (h : impl_next list t = some y_) : c_24.F [.sl 6 (List.map Request_av list), .int .i64 t] = ⟨true, .int .i64 y_, [.any, .any]⟩ := by
 refine mkF_E rfl ?_
 dsimp only [impl_next] at h
 obtain ⟨y_9, z9, h⟩ := bd_some h
 obtain ⟨Lz9, ez9⟩ := impl_next_l1_ex z9
 obtain rfl := so_some h
 refine ⟨Lz9, fun L hL => ?_⟩
 have ez9 := ez9 L (by omega)
 try simp only [go_sem, E_24_l1, R_24_l1, ir92_k0, ir92_o0, ir92_r0] at ez9
 simp only [go_sem, ir92, E_24_l1, R_24_l1, ir92_k0, ir92_o0, ir92_r0, ez9]


def ir33_v : List Nat := [0, 1, 4, 5, 6, 7]
def ir33 : AFn := ⟨2, 6, .seq (.region false [ VO 2 4 (.mov (I6 0)), VO 3 5 (.mov (I6 0))]) (.seq (.seq (.region false [ PM 8 0, PM 9 1, PO 10 (.call 91 [(.s 1), (.s 0)]), VS 4 6 0]) (.test false [ PM 11 4, PO 12 (.bin false .neq (.s 0) (I6 0))] (.s 0) (.seq (.region false [ PM 13 4, VO 2 4 (.mov (I6 0)), VS 3 5 0]) (.ret)) (.skip))) (.seq (.region false [ PM 14 0, PM 15 1, PO 16 (.call 92 [(.s 1), (.s 0)]), VS 5 7 0]) (.seq (.test false [ PM 17 5, PO 18 (.bin false .lss (.s 0) (I6 0))] (.s 0) (.seq (.region false [ VO 2 4 (.mov (I6 0)), VO 3 5 (.mov (I6 3))]) (.ret)) (.skip)) (.seq (.region
 false [ PM 19 5, VS 2 4 0, VO 3 5 (.mov (I6 0))]) (.ret))))), [.t 2, .t 3]⟩
noncomputable def t_25 : List (Nat × Ctr) := [(91, c_22), (92, c_24)]
theorem lk_25_91 : look t_25 91 = some c_22 := rfl
theorem lk_25_92 : look t_25 92 = some c_24 := rfl
noncomputable def c_25 : Ctr := mkF t_25 ir33 [.bor, .bor]
theorem s_25 : Sound Tryz.prog 33 c_25 := mkF_sound _ rfl (snd_cons s_22 (snd_cons s_24 snd_nil)) (by kernel_rfl : chkFn Tryz.prog 33 ir33 ir33_v = true)
theorem M_25 : c_25.modes = [.bor, .bor] := rfl
theorem Fl_25 : c_25.flat = true := rfl
attribute [go_sem] M_25 Fl_25
attribute [go_sem] lk_25_91 lk_25_92
theorem Fs_25 {list : List Request} {t : Int} {y_ : Int × Int} (h : impl_NextRequest list t = some y_) : c_25.F [.sl 6 (List.map Request_av list), .int .i64 t] = ⟨true, .tup [.int .i64 y_.1, .int .i64 y_.2], [.any, .any]⟩ := by
 refine mkF_E rfl ?_
 dsimp only [impl_NextRequest] at h
 obtain ⟨y_1, z1, h⟩ := bd_some h
 have fz1 := Fs_22 z1
 try simp only [go_sem] at fz1
 rcases it_some h with ⟨z2, h⟩ | ⟨z2, h⟩
 ·try simp only [go_sem, n1, n2, n3, n4] at z2
  all_goals
  obtain rfl := so_some h
  refine ⟨0, fun L hL => ?_⟩
  simp only [go_sem, ir33, fz1, z2]
 ·try simp only [go_sem, n1, n2, n3, n4] at z2
  all_goals
  obtain ⟨y_3, z3, h⟩ := bd_some h
  have fz3 := Fs_24 z3
  try simp only [go_sem, z2] at fz3
  rcases it_some h with ⟨z4, h⟩ | ⟨z4, h⟩
  ·try simp only [go_sem, n1, n2, n3, n4, z2] at z4
   all_goals
   obtain rfl := so_some h
   refine ⟨0, fun L hL => ?_⟩
   simp only [go_sem, ir33, fz1, z2, fz3, z4]
  ·try simp only [go_sem, n1, n2, n3, n4, z2] at z4
   all_goals
   obtain rfl := so_some h
   refine ⟨0, fun L hL => ?_⟩
   simp only [go_sem, ir33, fz1, z2, fz3, z4]


def ir132_v : List Nat := [0, 2]
def ir132 : AFn := ⟨1, 2, .seq (.region false [ VO 1 2 (.mov (.c (.bool false)))]) (.seq (.region false [ PM 3 0, PO 4 (.bin false .geq (.s 0) (.c (.int .u8 (97)))), PO 5 (.mov (.s 0)), ⟨.push, 6, (some ((.s 0), true)), .mov (.v 0)⟩, ⟨.push, 7, (some ((.s 1), true)), .bin false .leq (.s 0) (.c (.int .u8 (122)))⟩, PO 8 (.pick (.s 2) (.s 0) (.c (.bool false))), VS 1 2 0]) (.ret)), [.t 1]⟩
noncomputable def t_26 : List (Nat × Ctr) := []
noncomputable def c_26 : Ctr := mkF t_26 ir132 [.bor]
theorem s_26 : Sound Tryz.prog 132 c_26 := mkF_sound _ rfl snd_nil (by kernel_rfl : chkFn Tryz.prog 132 ir132 ir132_v = true)
theorem M_26 : c_26.modes = [.bor] := rfl
theorem Fl_26 : c_26.flat = true := rfl
attribute [go_sem] M_26 Fl_26
theorem Fs_26 {c : UInt8} {y_ : Bool} (h : spec_l01Small c = some y_) : c_26.F [.int .u8 (c.toNat : Int)] = ⟨true, .bool y_, [.any]⟩ := by
 refine mkF_E rfl ?_
 dsimp only [spec_l01Small] at h
 obtain rfl := so_some h
 refine ⟨0, fun L hL => ?_⟩
 simp only [go_sem, ir132]


def ir133_v : List Nat := [0, 2]
def ir133 : AFn := ⟨1, 2, .seq (.region false [ VO 1 2 (.mov (.c (.bool false)))]) (.seq (.region false [ PM 3 0, PO 4 (.bin false .geq (.s 0) (.c (.int .u8 (48)))), PO 5 (.mov (.s 0)), ⟨.push, 6, (some ((.s 0), true)), .mov (.v 0)⟩, ⟨.push, 7, (some ((.s 1), true)), .bin false .leq (.s 0) (.c (.int .u8 (57)))⟩, PO 8 (.pick (.s 2) (.s 0) (.c (.bool false))), VS 1 2 0]) (.ret)), [.t 1]⟩
noncomputable def t_27 : List (Nat × Ctr) := []
noncomputable def c_27 : Ctr := mkF t_27 ir133 [.bor]
theorem s_27 : Sound Tryz.prog 133 c_27 := mkF_sound _ rfl snd_nil (by kernel_rfl : chkFn Tryz.prog 133 ir133 ir133_v = true)
theorem M_27 : c_27.modes = [.bor] := rfl
theorem Fl_27 : c_27.flat = true := rfl
attribute [go_sem] M_27 Fl_27
theorem Fs_27 {c : UInt8} {y_ : Bool} (h : spec_l01Digit c = some y_) : c_27.F [.int .u8 (c.toNat : Int)] = ⟨true, .bool y_, [.any]⟩ := by
 refine mkF_E rfl ?_
 dsimp only [spec_l01Digit] at h
 obtain rfl := so_some h
 refine ⟨0, fun L hL => ?_⟩
 simp only [go_sem, ir133]


def ir84_b0 : IR := .seq (.test false [ PM 17 2, PM 18 0, PO 19 (.len true (.s 0)), PO 20 (.bin false .lss (.s 2) (.s 0))] (.s 0) (.skip) (.exit 0)) (.seq (.block 1 (.test false [ PM 23 0, PM 24 2, PO 25 (.ixStr (.s 1) (.s 0)), PO 26 (.call 132 [(.s 0)]), PO 27 (.un .not (.s 0)), PO 28 (.mov (.s 0)), ⟨.push, 29, (some ((.s 0), true)), .mov (.v 0)⟩, ⟨.push, 30, (some ((.s 1), true)), .mov (.v 2)⟩, ⟨.push, 31, (some ((.s 2), true)), .ixStr (.s 1) (.s 0)⟩, ⟨.push, 32, (some ((.s 3), true)), .call 133 [(.s 0)]⟩, ⟨.push, 33, (some ((.s 4), true)), .un .not (.s 0)⟩, PO 34 (.pick (.s 5) (.s 0) (.c
 (.bool false))), PO 35 (.mov (.s 0)), ⟨.push, 36, (some ((.s 0), true)), .mov (.v 0)⟩, ⟨.push, 37, (some ((.s 1), true)), .mov (.v 2)⟩, ⟨.push, 38, (some ((.s 2), true)), .ixStr (.s 1) (.s 0)⟩, ⟨.push, 39, (some ((.s 3), true)), .bin false .neq (.s 0) (.c (.int .u8 (45)))⟩, PO 40 (.pick (.s 4) (.s 0) (.c (.bool false)))] (.s 0) (.seq (.region false [ VO 1 2 (.mov (.c (.bool false)))]) (.ret)) (.skip))) (.region false [ PM 21 2, PO 22 (.bin false .add (.s 0) (I6 1)), VS 2 3 0]))
def ir84_k0 : List Bool := [true, false, true]
def ir84_o0 : List Bool := [false, false, false]
def ir84_r0 : List Bool := [false, true, false]
def ir84_v : List Nat := [0, 2, 3]
def ir84 : AFn := ⟨1, 3, .seq (.region false [ VO 1 2 (.mov (.c (.bool false)))]) (.seq (.test false [ PM 4 0, PO 5 (.bin false .eql (.s 0) (.c (.str []))), PO 6 (.mov (.s 0)), ⟨.push, 7, (some ((.s 0), false)), .mov (.v 0)⟩, ⟨.push, 8, (some ((.s 1), false)), .len true (.s 0)⟩, ⟨.push, 9, (some ((.s 2), false)), .bin false .gtr (.s 0) (I6 12)⟩, PO 10 (.pick (.s 3) (.c (.bool true)) (.s 0)), PO 11 (.mov (.s 0)), ⟨.push, 12, (some ((.s 0), false)), .mov (.v 0)⟩, ⟨.push, 13, (some ((.s 1), false)), .ixStr (.s 0) (I6 0)⟩, ⟨.push, 14, (some ((.s 2), false)), .call 132 [(.s 0)]⟩, ⟨.push, 15, (some
 ((.s 3), false)), .un .not (.s 0)⟩, PO 16 (.pick (.s 4) (.c (.bool true)) (.s 0))] (.s 0) (.seq (.region false [ VO 1 2 (.mov (.c (.bool false)))]) (.ret)) (.skip)) (.seq (.seq (.region false [ VO 2 3 (.mov (I6 0))]) (.block 0 (.loop ir84_k0 ir84_o0 ir84_r0 ir84_b0))) (.seq (.region false [ VO 1 2 (.mov (.c (.bool true)))]) (.ret)))), [.t 1]⟩
noncomputable def t_28 : List (Nat × Ctr) := [(132, c_26), (133, c_27)]
theorem lk_28_132 : look t_28 132 = some c_26 := rfl
theorem lk_28_133 : look t_28 133 = some c_27 := rfl
noncomputable def c_28 : Ctr := mkF t_28 ir84 [.bor]
theorem s_28 : Sound Tryz.prog 84 c_28 := mkF_sound _ rfl (snd_cons s_26 (snd_cons s_27 snd_nil)) (by kernel_rfl : chkFn Tryz.prog 84 ir84 ir84_v = true)
theorem M_28 : c_28.modes = [.bor] := rfl
theorem Fl_28 : c_28.flat = true := rfl
attribute [go_sem] M_28 Fl_28
attribute [go_sem] lk_28_132 lk_28_133
def E_28_l1 (s_ : List UInt8) : Int → St
 | i => ⟨[.str s_, .any, .int .i64 i], [], [], true⟩
def R_28_l1 (s_ : List UInt8) : (Unit ⊕ Bool) → Res
 | .inl y => (.exit 0, ⟨[.any, .any, .any], [], [], true⟩)
 | .inr y => (.ret, ⟨[.any, .bool y, .any], [], [], true⟩)
theorem spec_IsName_l1_ex {s_ : List UInt8} {sgm_ : Int} {rho_ : Unit ⊕ Bool} (h : whileE (spec_IsName_l1 s_) sgm_ = some rho_) : ∃ L0, ∀ L, L0 ≤ L → iter (exec (look t_28) L ir84_b0) ir84_k0 ir84_o0 ir84_r0 L (E_28_l1 s_ sgm_) = R_28_l1 s_ rho_ := by
 refine loop_ex (E := E_28_l1 s_) (R := R_28_l1 s_) (fun y => by first | (intro c; cases c) | (rcases y with y | y <;> (intro c; cases c)) | (rcases y with y | y | y <;> (intro c; cases c))) ?_ h
 clear h
 intro i o_ h
 dsimp only [spec_IsName_l1] at h
 rcases it_some h with ⟨z4, h⟩ | ⟨z4, h⟩
 ·try simp only [go_sem, n1, n2, n3, n4] at z4
  all_goals
  obtain ⟨z5, h⟩ := ck_some h
  try simp only [go_sem, n1, n2, n3, n4, z4] at z5
  all_goals
  obtain ⟨y_6, z6, h⟩ := bd_some h
  have fz6 := Fs_26 z6
  try simp only [go_sem, z4, z5] at fz6
  obtain ⟨z7, h⟩ := ck_some h
  rcases or_split z7 with ⟨gz7, z7⟩ | gz7
  ·try simp only [go_sem, n1, n2, n3, n4, z4, z5] at gz7
   all_goals
   obtain ⟨y_7, hz7⟩ := Option.isSome_iff_exists.1 z7
   have fz7 := Fs_27 hz7
   try simp only [go_sem, n1, n2, n3, n4, z4, z5, gz7] at hz7
   all_goals
   try simp only [go_sem, z4, z5, gz7] at fz7
   rcases it_some h with ⟨z8, h⟩ | ⟨z8, h⟩
   ·try simp only [go_sem, n1, n2, n3, n4, z4, z5, gz7, hz7] at z8
    all_goals
    obtain rfl := so_some h
    refine ⟨0, fun L hL => ?_⟩
    simp only [go_sem, ir84, E_28_l1, R_28_l1, ir84_b0, ir84_k0, ir84_o0, ir84_r0, z4, z5, fz6, gz7, hz7, fz7, z8]
   ·try simp only [go_sem, n1, n2, n3, n4, z4, z5, gz7, hz7] at z8
    all_goals
    obtain rfl := so_some h
    refine ⟨0, fun L hL => ?_⟩
    simp only [go_sem, ir84, E_28_l1, R_28_l1, ir84_b0, ir84_k0, ir84_o0, ir84_r0, z4, z5, fz6, gz7, hz7, fz7, z8]
  ·have gz7n := no_f gz7
   try simp only [go_sem, n1, n2, n3, n4, z4, z5] at gz7n
   all_goals
   rcases it_some h with ⟨z8, h⟩ | ⟨z8, h⟩
   ·try simp only [go_sem, n1, n2, n3, n4, z4, z5, gz7n] at z8
    all_goals
    (simp_all)
   ·try simp only [go_sem, n1, n2, n3, n4, z4, z5, gz7n] at z8
    all_goals
    obtain rfl := so_some h
    refine ⟨0, fun L hL => ?_⟩
    simp only [go_sem, ir84, E_28_l1, R_28_l1, ir84_b0, ir84_k0, ir84_o0, ir84_r0, z4, z5, fz6, gz7n, z8]
 ·try simp only [go_sem, n1, n2, n3, n4] at z4
  all_goals
  obtain rfl := so_some h
  refine ⟨0, fun L hL => ?_⟩
  simp only [go_sem, ir84, E_28_l1, R_28_l1, ir84_b0, ir84_k0, ir84_o0, ir84_r0, z4]

theorem Fs_28 {s_ : List UInt8} {y_ : Bool} (h : spec_IsName s_ = some y_) : c_28.F [.str s_] = ⟨true, .bool y_, [.any]⟩ := by
 refine mkF_E rfl ?_
 dsimp only [spec_IsName] at h
 obtain ⟨z1, h⟩ := ck_some h
 rcases or_split z1 with ⟨gz1, z1⟩ | gz1
 ·try simp only [go_sem, n1, n2, n3, n4] at gz1
  all_goals
  try simp only [go_sem, n1, n2, n3, n4, gz1] at z1
  all_goals
  obtain ⟨z2, h⟩ := ck_some h
  rcases or_split z2 with ⟨gz2, z2⟩ | gz2
  ·try simp only [go_sem, n1, n2, n3, n4, gz1, z1] at gz2
   all_goals
   obtain ⟨y_2, hz2⟩ := Option.isSome_iff_exists.1 z2
   have fz2 := Fs_26 hz2
   try simp only [go_sem, n1, n2, n3, n4, gz1, z1, gz2] at hz2
   all_goals
   try simp only [go_sem, gz1, z1, gz2] at fz2
   rcases it_some h with ⟨z3, h⟩ | ⟨z3, h⟩
   ·try simp only [go_sem, n1, n2, n3, n4, gz1, z1, gz2, hz2] at z3
    all_goals
    obtain rfl := so_some h
    refine ⟨0, fun L hL => ?_⟩
    simp only [go_sem, ir84, E_28_l1, R_28_l1, ir84_k0, ir84_o0, ir84_r0, gz1, z1, gz2, hz2, fz2, z3]
   ·try simp only [go_sem, n1, n2, n3, n4, gz1, z1, gz2, hz2] at z3
    all_goals
    obtain ⟨y_9, z9, h⟩ := bd_some h
    obtain ⟨Lz9, ez9⟩ := spec_IsName_l1_ex z9
    rcases y_9 with y_9a | y_9b
    ·dsimp only at h
     obtain rfl := so_some h
     refine ⟨Lz9, fun L hL => ?_⟩
     have ez9 := ez9 L (by omega)
     try simp only [go_sem, E_28_l1, R_28_l1, ir84_k0, ir84_o0, ir84_r0, gz1, z1, gz2, hz2, z3] at ez9
     simp only [go_sem, ir84, E_28_l1, R_28_l1, ir84_k0, ir84_o0, ir84_r0, gz1, z1, gz2, hz2, fz2, z3, ez9]
    ·dsimp only at h
     obtain rfl := so_some h
     refine ⟨Lz9, fun L hL => ?_⟩
     have ez9 := ez9 L (by omega)
     try simp only [go_sem, E_28_l1, R_28_l1, ir84_k0, ir84_o0, ir84_r0, gz1, z1, gz2, hz2, z3] at ez9
     simp only [go_sem, ir84, E_28_l1, R_28_l1, ir84_k0, ir84_o0, ir84_r0, gz1, z1, gz2, hz2, fz2, z3, ez9]
  ·have gz2n := no_f gz2
   rcases or_t gz2n with gz2na | ⟨gz2na, gz2nb⟩
   ·try simp only [go_sem, n1, n2, n3, n4, gz1, z1] at gz2na
    all_goals
    (simp_all)
   ·try simp only [go_sem, n1, n2, n3, n4, gz1, z1] at gz2na
    all_goals
    try simp only [go_sem, n1, n2, n3, n4, gz1, z1, gz2na] at gz2nb
    all_goals
    rcases it_some h with ⟨z3, h⟩ | ⟨z3, h⟩
    ·try simp only [go_sem, n1, n2, n3, n4, gz1, z1, gz2na, gz2nb] at z3
     all_goals
     obtain rfl := so_some h
     refine ⟨0, fun L hL => ?_⟩
     simp only [go_sem, ir84, E_28_l1, R_28_l1, ir84_k0, ir84_o0, ir84_r0, gz1, z1, gz2na, gz2nb, z3]
    ·try simp only [go_sem, n1, n2, n3, n4, gz1, z1, gz2na, gz2nb] at z3
     all_goals
     obtain ⟨y_9, z9, h⟩ := bd_some h
     obtain ⟨Lz9, ez9⟩ := spec_IsName_l1_ex z9
     rcases y_9 with y_9a | y_9b
     ·dsimp only at h
      obtain rfl := so_some h
      refine ⟨Lz9, fun L hL => ?_⟩
      have ez9 := ez9 L (by omega)
      try simp only [go_sem, E_28_l1, R_28_l1, ir84_k0, ir84_o0, ir84_r0, gz1, z1, gz2na, gz2nb, z3] at ez9
      simp only [go_sem, ir84, E_28_l1, R_28_l1, ir84_k0, ir84_o0, ir84_r0, gz1, z1, gz2na, gz2nb, z3, ez9]
     ·dsimp only at h
      obtain rfl := so_some h
      refine ⟨Lz9, fun L hL => ?_⟩
      have ez9 := ez9 L (by omega)
      try simp only [go_sem, E_28_l1, R_28_l1, ir84_k0, ir84_o0, ir84_r0, gz1, z1, gz2na, gz2nb, z3] at ez9
      simp only [go_sem, ir84, E_28_l1, R_28_l1, ir84_k0, ir84_o0, ir84_r0, gz1, z1, gz2na, gz2nb, z3, ez9]
 ·have gz1n := no_f gz1
  rcases or_t gz1n with gz1na | ⟨gz1na, gz1nb⟩
  ·try simp only [go_sem, n1, n2, n3, n4] at gz1na
   all_goals
   obtain ⟨z2, h⟩ := ck_some h
   rcases it_some h with ⟨z3, h⟩ | ⟨z3, h⟩
   ·try simp only [go_sem, n1, n2, n3, n4, gz1na] at z3
    all_goals
    obtain rfl := so_some h
    refine ⟨0, fun L hL => ?_⟩
    simp only [go_sem, ir84, E_28_l1, R_28_l1, ir84_k0, ir84_o0, ir84_r0, gz1na, z3]
   ·try simp only [go_sem, n1, n2, n3, n4, gz1na] at z3
    all_goals
    (simp_all)
  ·try simp only [go_sem, n1, n2, n3, n4] at gz1na
   all_goals
   try simp only [go_sem, n1, n2, n3, n4, gz1na] at gz1nb
   all_goals
   obtain ⟨z2, h⟩ := ck_some h
   rcases it_some h with ⟨z3, h⟩ | ⟨z3, h⟩
   ·try simp only [go_sem, n1, n2, n3, n4, gz1na, gz1nb] at z3
    all_goals
    obtain rfl := so_some h
    refine ⟨0, fun L hL => ?_⟩
    simp only [go_sem, ir84, E_28_l1, R_28_l1, ir84_k0, ir84_o0, ir84_r0, gz1na, gz1nb, z3]
   ·try simp only [go_sem, n1, n2, n3, n4, gz1na, gz1nb] at z3
    all_goals
    (simp_all)


def ir76_v : List Nat := [0, 1, 2, 6]
def ir76 : AFn := ⟨3, 4, .seq (.region false [ VO 3 6 (.mov (.c (.bool false)))]) (.seq (.region false [ PM 7 0, PM 8 1, PO 9 (.bin false .geq (.s 1) (.s 0)), PO 10 (.mov (.s 0)), ⟨.push, 11, (some ((.s 0), true)), .mov (.v 0)⟩, ⟨.push, 12, (some ((.s 1), true)), .mov (.v 2)⟩, ⟨.push, 13, (some ((.s 2), true)), .bin false .leq (.s 1) (.s 0)⟩, PO 14 (.pick (.s 3) (.s 0) (.c (.bool false))), VS 3 6 0]) (.ret)), [.t 3]⟩
noncomputable def t_29 : List (Nat × Ctr) := []
noncomputable def c_29 : Ctr := mkF t_29 ir76 [.bor, .bor, .bor]
theorem s_29 : Sound Tryz.prog 76 c_29 := mkF_sound _ rfl snd_nil (by kernel_rfl : chkFn Tryz.prog 76 ir76 ir76_v = true)
theorem M_29 : c_29.modes = [.bor, .bor, .bor] := rfl
theorem Fl_29 : c_29.flat = true := rfl
attribute [go_sem] M_29 Fl_29
theorem Fs_29 {n : Int} {low : Int} {high : Int} {y_ : Bool} (h : spec_l00In n low high = some y_) : c_29.F [.int .i64 n, .int .i64 low, .int .i64 high] = ⟨true, .bool y_, [.any, .any, .any]⟩ := by
 refine mkF_E rfl ?_
 dsimp only [spec_l00In] at h
 obtain rfl := so_some h
 refine ⟨0, fun L hL => ?_⟩
 simp only [go_sem, ir76]


def ir75_v : List Nat := [0, 2]
def ir75 : AFn := ⟨1, 2, .seq (.region false [ VO 1 2 (.mov (.c (.bool false)))]) (.seq (.region false [ PM 3 0, PO 4 (.call 76 [(.s 0), (I6 0), (I6 10000000)]), VS 1 2 0]) (.ret)), [.t 1]⟩
noncomputable def t_30 : List (Nat × Ctr) := [(76, c_29)]
theorem lk_30_76 : look t_30 76 = some c_29 := rfl
noncomputable def c_30 : Ctr := mkF t_30 ir75 [.bor]
theorem s_30 : Sound Tryz.prog 75 c_30 := mkF_sound _ rfl (snd_cons s_29 snd_nil) (by kernel_rfl : chkFn Tryz.prog 75 ir75 ir75_v = true)
theorem M_30 : c_30.modes = [.bor] := rfl
theorem Fl_30 : c_30.flat = true := rfl
attribute [go_sem] M_30 Fl_30
attribute [go_sem] lk_30_76
theorem Fs_30 {t : Int} {y_ : Bool} (h : spec_l03Time t = some y_) : c_30.F [.int .i64 t] = ⟨true, .bool y_, [.any]⟩ := by
 refine mkF_E rfl ?_
 dsimp only [spec_l03Time] at h
 obtain ⟨y_1, z1, h⟩ := bd_some h
 have fz1 := Fs_29 z1
 try simp only [go_sem] at fz1
 obtain rfl := so_some h
 refine ⟨0, fun L hL => ?_⟩
 simp only [go_sem, ir75, fz1]


def ir106_v : List Nat := [0, 2]
def ir106 : AFn := ⟨1, 2, .seq (.region false [ VO 1 2 (.mov (.c (.bool false)))]) (.seq (.anyo 48 [ SO 0 3 (.mov (.v 0)), SO 1 4 (.nilck (.s 0)), SO 2 5 (.fldAddr 0 (.s 1)), SO 3 6 (.load false 1 (.s 2)), SO 4 7 (.callp 84 [(.s 3)]), SO 5 8 (.mov (.s 4)), ⟨.slot 6, 9, (some ((.s 5), true)), .mov (.v 0)⟩, ⟨.slot 7, 10, (some ((.s 5), true)), .nilck (.s 6)⟩, ⟨.slot 8, 11, (some ((.s 5), true)), .fldAddr 1 (.s 7)⟩, ⟨.slot 9, 12, (some ((.s 5), true)), .load false 1 (.s 8)⟩, ⟨.slot 10, 13, (some ((.s 5), true)), .call 75 [(.s 9)]⟩, SO 11 14 (.pick (.s 5) (.s 10) (.c (.bool false))), SO 12 15 (.mov
 (.s 11)), ⟨.slot 13, 16, (some ((.s 12), true)), .mov (.v 0)⟩, ⟨.slot 14, 17, (some ((.s 12), true)), .nilck (.s 13)⟩, ⟨.slot 15, 18, (some ((.s 12), true)), .fldAddr 2 (.s 14)⟩, ⟨.slot 16, 19, (some ((.s 12), true)), .load false 1 (.s 15)⟩, ⟨.slot 17, 20, (some ((.s 12), true)), .mov (.v 0)⟩, ⟨.slot 18, 21, (some ((.s 12), true)), .nilck (.s 17)⟩, ⟨.slot 19, 22, (some ((.s 12), true)), .fldAddr 1 (.s 18)⟩, ⟨.slot 20, 23, (some ((.s 12), true)), .load false 1 (.s 19)⟩, ⟨.slot 21, 24, (some ((.s 12), true)), .call 76 [(.s 16), (.s 20), (I6 10000000)]⟩, SO 22 25 (.pick (.s 12) (.s 21) (.c (.bool
 false))), SO 23 26 (.mov (.s 22)), ⟨.slot 24, 27, (some ((.s 23), true)), .mov (.v 0)⟩, ⟨.slot 25, 28, (some ((.s 23), true)), .nilck (.s 24)⟩, ⟨.slot 26, 29, (some ((.s 23), true)), .fldAddr 3 (.s 25)⟩, ⟨.slot 27, 30, (some ((.s 23), true)), .load false 1 (.s 26)⟩, ⟨.slot 28, 31, (some ((.s 23), true)), .call 76 [(.s 27), (I6 1), (I6 100)]⟩, SO 29 32 (.pick (.s 23) (.s 28) (.c (.bool false))), SO 30 33 (.mov (.s 29)), ⟨.slot 31, 34, (some ((.s 30), true)), .mov (.v 0)⟩, ⟨.slot 32, 35, (some ((.s 30), true)), .nilck (.s 31)⟩, ⟨.slot 33, 36, (some ((.s 30), true)), .fldAddr 4 (.s 32)⟩, ⟨.slot
 34, 37, (some ((.s 30), true)), .load false 1 (.s 33)⟩, ⟨.slot 35, 38, (some ((.s 30), true)), .mov (.v 0)⟩, ⟨.slot 36, 39, (some ((.s 30), true)), .nilck (.s 35)⟩, ⟨.slot 37, 40, (some ((.s 30), true)), .fldAddr 3 (.s 36)⟩, ⟨.slot 38, 41, (some ((.s 30), true)), .load false 1 (.s 37)⟩, ⟨.slot 39, 42, (some ((.s 30), true)), .call 76 [(.s 34), (I6 0), (.s 38)]⟩, SO 40 43 (.pick (.s 30) (.s 39) (.c (.bool false))), SO 41 44 (.mov (.s 40)), ⟨.slot 42, 45, (some ((.s 41), true)), .mov (.v 0)⟩, ⟨.slot 43, 46, (some ((.s 41), true)), .nilck (.s 42)⟩, ⟨.slot 44, 47, (some ((.s 41), true)), .fldAddr
 5 (.s 43)⟩, ⟨.slot 45, 48, (some ((.s 41), true)), .load false 1 (.s 44)⟩, ⟨.slot 46, 49, (some ((.s 41), true)), .call 76 [(.s 45), (I6 1), (I6 5)]⟩, SO 47 50 (.pick (.s 41) (.s 46) (.c (.bool false))), VS 1 2 47] [] .skip) (.ret)), [.t 1]⟩
noncomputable def t_31 : List (Nat × Ctr) := [(84, c_28), (75, c_30), (76, c_29)]
theorem lk_31_84 : look t_31 84 = some c_28 := rfl
theorem lk_31_75 : look t_31 75 = some c_30 := rfl
theorem lk_31_76 : look t_31 76 = some c_29 := rfl
noncomputable def c_31 : Ctr := mkF t_31 ir106 [.bor]
theorem s_31 : Sound Tryz.prog 106 c_31 := mkF_sound _ rfl (snd_cons s_28 (snd_cons s_30 (snd_cons s_29 snd_nil))) (by kernel_rfl : chkFn Tryz.prog 106 ir106 ir106_v = true)
theorem M_31 : c_31.modes = [.bor] := rfl
theorem Fl_31 : c_31.flat = true := rfl
attribute [go_sem] M_31 Fl_31
attribute [go_sem] lk_31_84 lk_31_75 lk_31_76
theorem Fs_31 {x : Request} {y_ : Bool} (h : spec_l22One x = some y_) : c_31.F [.ptr 6 [Request_av x] 0 0] = ⟨true, .bool y_, [.any]⟩ := by
 refine mkF_E rfl ?_
 dsimp only [spec_l22One] at h
 obtain ⟨y_1, z1, h⟩ := bd_some h
 have fz1 := Fs_28 z1
 try simp only [go_sem] at fz1
 obtain ⟨z2, h⟩ := ck_some h
 rcases or_split z2 with ⟨gz2, z2⟩ | gz2
 ·try simp only [go_sem, n1, n2, n3, n4] at gz2
  all_goals
  obtain ⟨y_2, hz2⟩ := Option.isSome_iff_exists.1 z2
  have fz2 := Fs_30 hz2
  try simp only [go_sem, n1, n2, n3, n4, gz2] at hz2
  all_goals
  try simp only [go_sem, gz2] at fz2
  obtain ⟨z3, h⟩ := ck_some h
  rcases or_split z3 with ⟨gz3, z3⟩ | gz3
  ·try simp only [go_sem, n1, n2, n3, n4, gz2, hz2] at gz3
   all_goals
   obtain ⟨y_3, hz3⟩ := Option.isSome_iff_exists.1 z3
   have fz3 := Fs_29 hz3
   try simp only [go_sem, n1, n2, n3, n4, gz2, hz2, gz3] at hz3
   all_goals
   try simp only [go_sem, gz2, hz2, gz3] at fz3
   obtain ⟨z4, h⟩ := ck_some h
   rcases or_split z4 with ⟨gz4, z4⟩ | gz4
   ·try simp only [go_sem, n1, n2, n3, n4, gz2, hz2, gz3, hz3] at gz4
    all_goals
    obtain ⟨y_4, hz4⟩ := Option.isSome_iff_exists.1 z4
    have fz4 := Fs_29 hz4
    try simp only [go_sem, n1, n2, n3, n4, gz2, hz2, gz3, hz3, gz4] at hz4
    all_goals
    try simp only [go_sem, gz2, hz2, gz3, hz3, gz4] at fz4
    obtain ⟨z5, h⟩ := ck_some h
    rcases or_split z5 with ⟨gz5, z5⟩ | gz5
    ·try simp only [go_sem, n1, n2, n3, n4, gz2, hz2, gz3, hz3, gz4, hz4] at gz5
     all_goals
     obtain ⟨y_5, hz5⟩ := Option.isSome_iff_exists.1 z5
     have fz5 := Fs_29 hz5
     try simp only [go_sem, n1, n2, n3, n4, gz2, hz2, gz3, hz3, gz4, hz4, gz5] at hz5
     all_goals
     try simp only [go_sem, gz2, hz2, gz3, hz3, gz4, hz4, gz5] at fz5
     obtain ⟨z6, h⟩ := ck_some h
     rcases or_split z6 with ⟨gz6, z6⟩ | gz6
     ·try simp only [go_sem, n1, n2, n3, n4, gz2, hz2, gz3, hz3, gz4, hz4, gz5, hz5] at gz6
      all_goals
      obtain ⟨y_6, hz6⟩ := Option.isSome_iff_exists.1 z6
      have fz6 := Fs_29 hz6
      try simp only [go_sem, n1, n2, n3, n4, gz2, hz2, gz3, hz3, gz4, hz4, gz5, hz5, gz6] at hz6
      all_goals
      try simp only [go_sem, gz2, hz2, gz3, hz3, gz4, hz4, gz5, hz5, gz6] at fz6
      obtain rfl := so_some h
      refine ⟨0, fun L hL => ?_⟩
      simp only [go_sem, ir106, fz1, gz2, hz2, fz2, gz3, hz3, fz3, gz4, hz4, fz4, gz5, hz5, fz5, gz6, hz6, fz6]
     ·try simp only [go_sem, n1, n2, n3, n4, gz2, hz2, gz3, hz3, gz4, hz4, gz5, hz5] at gz6
      all_goals
      obtain rfl := so_some h
      refine ⟨0, fun L hL => ?_⟩
      simp only [go_sem, ir106, fz1, gz2, hz2, fz2, gz3, hz3, fz3, gz4, hz4, fz4, gz5, hz5, fz5, gz6]
    ·rcases and_f gz5 with gz5a | ⟨gz5a, gz5b⟩
     ·try simp only [go_sem, n1, n2, n3, n4, gz2, hz2, gz3, hz3, gz4, hz4] at gz5a
      all_goals
      (simp_all)
     ·obtain ⟨gz5aa, gz5ab⟩ := and_t gz5a
      obtain ⟨gz5aaa, gz5aab⟩ := and_t gz5aa
      try simp only [go_sem, n1, n2, n3, n4, gz2, hz2, gz3, hz3, gz4, hz4] at gz5aaa
      all_goals
      try simp only [go_sem, n1, n2, n3, n4, gz2, hz2, gz3, hz3, gz4, hz4, gz5aaa] at gz5aab
      all_goals
      try simp only [go_sem, n1, n2, n3, n4, gz2, hz2, gz3, hz3, gz4, hz4, gz5aaa, gz5aab] at gz5ab
      all_goals
      try simp only [go_sem, n1, n2, n3, n4, gz2, hz2, gz3, hz3, gz4, hz4, gz5aaa, gz5aab, gz5ab] at gz5b
      all_goals
      obtain ⟨z6, h⟩ := ck_some h
      obtain rfl := so_some h
      refine ⟨0, fun L hL => ?_⟩
      simp only [go_sem, ir106, fz1, gz2, hz2, fz2, gz3, hz3, fz3, gz4, hz4, fz4, gz5aaa, gz5aab, gz5ab, gz5b]
   ·rcases and_f gz4 with gz4a | ⟨gz4a, gz4b⟩
    ·try simp only [go_sem, n1, n2, n3, n4, gz2, hz2, gz3, hz3] at gz4a
     all_goals
     (simp_all)
    ·obtain ⟨gz4aa, gz4ab⟩ := and_t gz4a
     try simp only [go_sem, n1, n2, n3, n4, gz2, hz2, gz3, hz3] at gz4aa
     all_goals
     try simp only [go_sem, n1, n2, n3, n4, gz2, hz2, gz3, hz3, gz4aa] at gz4ab
     all_goals
     try simp only [go_sem, n1, n2, n3, n4, gz2, hz2, gz3, hz3, gz4aa, gz4ab] at gz4b
     all_goals
     obtain ⟨z5, h⟩ := ck_some h
     obtain ⟨z6, h⟩ := ck_some h
     obtain rfl := so_some h
     refine ⟨0, fun L hL => ?_⟩
     simp only [go_sem, ir106, fz1, gz2, hz2, fz2, gz3, hz3, fz3, gz4aa, gz4ab, gz4b]
  ·rcases and_f gz3 with gz3a | ⟨gz3a, gz3b⟩
   ·try simp only [go_sem, n1, n2, n3, n4, gz2, hz2] at gz3a
    all_goals
    (simp_all)
   ·try simp only [go_sem, n1, n2, n3, n4, gz2, hz2] at gz3a
    all_goals
    try simp only [go_sem, n1, n2, n3, n4, gz2, hz2, gz3a] at gz3b
    all_goals
    obtain ⟨z4, h⟩ := ck_some h
    obtain ⟨z5, h⟩ := ck_some h
    obtain ⟨z6, h⟩ := ck_some h
    obtain rfl := so_some h
    refine ⟨0, fun L hL => ?_⟩
    simp only [go_sem, ir106, fz1, gz2, hz2, fz2, gz3a, gz3b]
 ·try simp only [go_sem, n1, n2, n3, n4] at gz2
  all_goals
  obtain ⟨z3, h⟩ := ck_some h
  obtain ⟨z4, h⟩ := ck_some h
  obtain ⟨z5, h⟩ := ck_some h
  obtain ⟨z6, h⟩ := ck_some h
  obtain rfl := so_some h
  refine ⟨0, fun L hL => ?_⟩
  simp only [go_sem, ir106, fz1, gz2]


def ir101_b0 : IR := .seq (.test false [ PM 4 2, PM 5 0, PO 6 (.len false (.s 0)), PO 7 (.bin false .lss (.s 2) (.s 0))] (.s 0) (.skip) (.exit 0)) (.seq (.block 1 (.test false [ PM 10 0, PM 11 2, PO 12 (.ixAddr 6 (.s 1) (.s 0)), PO 13 (.call 106 [(.s 0)]), PO 14 (.un .not (.s 0))] (.s 0) (.seq (.region false [ VO 1 2 (.mov (.c (.bool false)))]) (.ret)) (.skip))) (.region false [ PM 8 2, PO 9 (.bin false .add (.s 0) (I6 1)), VS 2 3 0]))
def ir101_k0 : List Bool := [true, false, true]
def ir101_o0 : List Bool := [true, false, false]
def ir101_r0 : List Bool := [false, true, false]
def ir101_v : List Nat := [0, 2, 3]
def ir101 : AFn := ⟨1, 3, .seq (.region false [ VO 1 2 (.mov (.c (.bool false)))]) (.seq (.seq (.region false [ VO 2 3 (.mov (I6 0))]) (.block 0 (.loop ir101_k0 ir101_o0 ir101_r0 ir101_b0))) (.seq (.region false [ PM 15 0, PO 16 (.len false (.s 0)), PO 17 (.bin false .leq (.s 0) (I6 30)), VS 1 2 0]) (.ret))), [.t 1]⟩
noncomputable def t_32 : List (Nat × Ctr) := [(106, c_31)]
theorem lk_32_106 : look t_32 106 = some c_31 := rfl
noncomputable def c_32 : Ctr := mkF t_32 ir101 [.bor]
theorem s_32 : Sound Tryz.prog 101 c_32 := mkF_sound _ rfl (snd_cons s_31 snd_nil) (by kernel_rfl : chkFn Tryz.prog 101 ir101 ir101_v = true)
theorem M_32 : c_32.modes = [.bor] := rfl
theorem Fl_32 : c_32.flat = true := rfl
attribute [go_sem] M_32 Fl_32
attribute [go_sem] lk_32_106
def E_32_l1 (list : List Request) : Int → St
 | i => ⟨[.sl 6 (List.map Request_av list), .any, .int .i64 i], [], [], true⟩
def R_32_l1 (list : List Request) : (Unit ⊕ Bool) → Res
 | .inl y => (.exit 0, ⟨[.sl 6 (List.map Request_av list), .any, .any], [], [], true⟩)
 | .inr y => (.ret, ⟨[.any, .bool y, .any], [], [], true⟩)
theorem spec_l22Ok_l1_ex {list : List Request} {sgm_ : Int} {rho_ : Unit ⊕ Bool} (h : whileE (spec_l22Ok_l1 list) sgm_ = some rho_) : ∃ L0, ∀ L, L0 ≤ L → iter (exec (look t_32) L ir101_b0) ir101_k0 ir101_o0 ir101_r0 L (E_32_l1 list sgm_) = R_32_l1 list rho_ := by
 refine loop_ex (E := E_32_l1 list) (R := R_32_l1 list) (fun y => by first | (intro c; cases c) | (rcases y with y | y <;> (intro c; cases c)) | (rcases y with y | y | y <;> (intro c; cases c))) ?_ h
 clear h
 intro i o_ h
 dsimp only [spec_l22Ok_l1] at h
 rcases it_some h with ⟨z1, h⟩ | ⟨z1, h⟩
 ·try simp only [go_sem, n1, n2, n3, n4] at z1
  all_goals
  obtain ⟨z2, h⟩ := ck_some h
  have lz2 := ix_lt z2
  have xz2 := getD_mapD Request_av list lz2
  try simp only [go_sem] at lz2
  try simp only [go_sem] at xz2
  try simp only [go_sem, n1, n2, n3, n4, z1] at z2
  all_goals
  obtain ⟨y_3, z3, h⟩ := bd_some h
  have fz3 := Fs_31 z3
  try simp only [go_sem, z1, z2] at fz3
  rcases it_some h with ⟨z4, h⟩ | ⟨z4, h⟩
  ·try simp only [go_sem, n1, n2, n3, n4, z1, z2] at z4
   all_goals
   obtain rfl := so_some h
   refine ⟨0, fun L hL => ?_⟩
   simp only [go_sem, ir101, E_32_l1, R_32_l1, ir101_b0, ir101_k0, ir101_o0, ir101_r0, z1, z2, lz2, xz2, fz3, z4]
  ·try simp only [go_sem, n1, n2, n3, n4, z1, z2] at z4
   all_goals
   obtain rfl := so_some h
   refine ⟨0, fun L hL => ?_⟩
   simp only [go_sem, ir101, E_32_l1, R_32_l1, ir101_b0, ir101_k0, ir101_o0, ir101_r0, z1, z2, lz2, xz2, fz3, z4]
 ·try simp only [go_sem, n1, n2, n3, n4] at z1
  all_goals
  obtain rfl := so_some h
  refine ⟨0, fun L hL => ?_⟩
  simp only [go_sem, ir101, E_32_l1, R_32_l1, ir101_b0, ir101_k0, ir101_o0, ir101_r0, z1]

theorem Fs_32 {list : List Request} {y_ : Bool} (h : spec_l22Ok list = some y_) : c_32.F [.sl 6 (List.map Request_av list)] = ⟨true, .bool y_, [.any]⟩ := by
 refine mkF_E rfl ?_
 dsimp only [spec_l22Ok] at h
 obtain ⟨y_5, z5, h⟩ := bd_some h
 obtain ⟨Lz5, ez5⟩ := spec_l22Ok_l1_ex z5
 rcases y_5 with y_5a | y_5b
 ·dsimp only at h
  obtain rfl := so_some h
  refine ⟨Lz5, fun L hL => ?_⟩
  have ez5 := ez5 L (by omega)
  try simp only [go_sem, E_32_l1, R_32_l1, ir101_k0, ir101_o0, ir101_r0] at ez5
  simp only [go_sem, ir101, E_32_l1, R_32_l1, ir101_k0, ir101_o0, ir101_r0, ez5]
 ·dsimp only at h
  obtain rfl := so_some h
  refine ⟨Lz5, fun L hL => ?_⟩
  have ez5 := ez5 L (by omega)
  try simp only [go_sem, E_32_l1, R_32_l1, ir101_k0, ir101_o0, ir101_r0] at ez5
  simp only [go_sem, ir101, E_32_l1, R_32_l1, ir101_k0, ir101_o0, ir101_r0, ez5]


def ir93_v : List Nat := [0, 1, 4]
def ir93 : AFn := ⟨2, 3, .seq (.region false [ VO 2 4 (.mov (I6 0))]) (.seq (.test false [ PM 5 0, PO 6 (.call 101 [(.s 0)]), PO 7 (.un .not (.s 0))] (.s 0) (.seq (.region false [ VO 2 4 (.mov (I6 1))]) (.ret)) (.skip)) (.seq (.test false [ PM 8 1, PO 9 (.call 75 [(.s 0)]), PO 10 (.un .not (.s 0))] (.s 0) (.seq (.region false [ VO 2 4 (.mov (I6 2))]) (.ret)) (.skip)) (.seq (.region false [ VO 2 4 (.mov (I6 0))]) (.ret)))), [.t 2]⟩
noncomputable def t_33 : List (Nat × Ctr) := [(101, c_32), (75, c_30)]
theorem lk_33_101 : look t_33 101 = some c_32 := rfl
theorem lk_33_75 : look t_33 75 = some c_30 := rfl
noncomputable def c_33 : Ctr := mkF t_33 ir93 [.bor, .bor]
theorem s_33 : Sound Tryz.prog 93 c_33 := mkF_sound _ rfl (snd_cons s_32 (snd_cons s_30 snd_nil)) (by kernel_rfl : chkFn Tryz.prog 93 ir93 ir93_v = true)
theorem M_33 : c_33.modes = [.bor, .bor] := rfl
theorem Fl_33 : c_33.flat = true := rfl
attribute [go_sem] M_33 Fl_33
attribute [go_sem] lk_33_101 lk_33_75
theorem Fs_33 {list : List Request} {t : Int} {y_ : Int} (h : spec_l22Code list t = some y_) : c_33.F [.sl 6 (List.map Request_av list), .int .i64 t] = ⟨true, .int .i64 y_, [.any, .any]⟩ := by
 refine mkF_E rfl ?_
 dsimp only [spec_l22Code] at h
 obtain ⟨y_1, z1, h⟩ := bd_some h
 have fz1 := Fs_32 z1
 try simp only [go_sem] at fz1
 rcases it_some h with ⟨z2, h⟩ | ⟨z2, h⟩
 ·try simp only [go_sem, n1, n2, n3, n4] at z2
  all_goals
  obtain rfl := so_some h
  refine ⟨0, fun L hL => ?_⟩
  simp only [go_sem, ir93, fz1, z2]
 ·try simp only [go_sem, n1, n2, n3, n4] at z2
  all_goals
  obtain ⟨y_3, z3, h⟩ := bd_some h
  have fz3 := Fs_30 z3
  try simp only [go_sem, z2] at fz3
  rcases it_some h with ⟨z4, h⟩ | ⟨z4, h⟩
  ·try simp only [go_sem, n1, n2, n3, n4, z2] at z4
   all_goals
   obtain rfl := so_some h
   refine ⟨0, fun L hL => ?_⟩
   simp only [go_sem, ir93, fz1, z2, fz3, z4]
  ·try simp only [go_sem, n1, n2, n3, n4, z2] at z4
   all_goals
   obtain rfl := so_some h
   refine ⟨0, fun L hL => ?_⟩
   simp only [go_sem, ir93, fz1, z2, fz3, z4]


def ir97_v : List Nat := [0, 1, 4]
def ir97 : AFn := ⟨2, 3, .seq (.region false [ VO 2 4 (.mov (.c (.bool false)))]) (.seq (.anyo 21 [ SO 0 5 (.mov (.v 1)), SO 1 6 (.mov (.v 0)), SO 2 7 (.nilck (.s 1)), SO 3 8 (.fldAddr 1 (.s 2)), SO 4 9 (.load false 1 (.s 3)), SO 5 10 (.mov (.v 0)), SO 6 11 (.nilck (.s 5)), SO 7 12 (.fldAddr 2 (.s 6)), SO 8 13 (.load false 1 (.s 7)), SO 9 14 (.callp 76 [(.s 0), (.s 4), (.s 8)]), SO 10 15 (.mov (.s 9)), ⟨.slot 11, 16, (some ((.s 10), true)), .mov (.v 0)⟩, ⟨.slot 12, 17, (some ((.s 10), true)), .nilck (.s 11)⟩, ⟨.slot 13, 18, (some ((.s 10), true)), .fldAddr 4 (.s 12)⟩, ⟨.slot 14, 19, (some ((.s
 10), true)), .load false 1 (.s 13)⟩, ⟨.slot 15, 20, (some ((.s 10), true)), .mov (.v 0)⟩, ⟨.slot 16, 21, (some ((.s 10), true)), .nilck (.s 15)⟩, ⟨.slot 17, 22, (some ((.s 10), true)), .fldAddr 3 (.s 16)⟩, ⟨.slot 18, 23, (some ((.s 10), true)), .load false 1 (.s 17)⟩, ⟨.slot 19, 24, (some ((.s 10), true)), .bin false .lss (.s 14) (.s 18)⟩, SO 20 25 (.pick (.s 10) (.s 19) (.c (.bool false))), VS 2 4 20] [] .skip) (.ret)), [.t 2]⟩
noncomputable def t_34 : List (Nat × Ctr) := [(76, c_29)]
theorem lk_34_76 : look t_34 76 = some c_29 := rfl
noncomputable def c_34 : Ctr := mkF t_34 ir97 [.bor, .bor]
theorem s_34 : Sound Tryz.prog 97 c_34 := mkF_sound _ rfl (snd_cons s_29 snd_nil) (by kernel_rfl : chkFn Tryz.prog 97 ir97 ir97_v = true)
theorem M_34 : c_34.modes = [.bor, .bor] := rfl
theorem Fl_34 : c_34.flat = true := rfl
attribute [go_sem] M_34 Fl_34
attribute [go_sem] lk_34_76
theorem Fs_34 {x : Request} {t : Int} {y_ : Bool} (h : spec_l22Open x t = some y_) : c_34.F [.ptr 6 [Request_av x] 0 0, .int .i64 t] = ⟨true, .bool y_, [.any, .any]⟩ := by
 refine mkF_E rfl ?_
 dsimp only [spec_l22Open] at h
 obtain ⟨y_1, z1, h⟩ := bd_some h
 have fz1 := Fs_29 z1
 try simp only [go_sem] at fz1
 obtain rfl := so_some h
 refine ⟨0, fun L hL => ?_⟩
 simp only [go_sem, ir97, fz1]


def ir136_v : List Nat := [0, 1, 4]
def ir136 : AFn := ⟨2, 3, .seq (.region false [ VO 2 4 (.mov (.c (.bool false)))]) (.seq (.anyo 9 [ SO 0 5 (.mov (.v 0)), SO 1 6 (.nilck (.s 0)), SO 2 7 (.fldAddr 5 (.s 1)), SO 3 8 (.load false 1 (.s 2)), SO 4 9 (.mov (.v 1)), SO 5 10 (.nilck (.s 4)), SO 6 11 (.fldAddr 5 (.s 5)), SO 7 12 (.load false 1 (.s 6)), SO 8 13 (.bin false .neq (.s 3) (.s 7))] [] (.cond (.s 8) (.seq (.anyo 9 [ SO 0 14 (.mov (.v 0)), SO 1 15 (.nilck (.s 0)), SO 2 16 (.fldAddr 5 (.s 1)), SO 3 17 (.load false 1 (.s 2)), SO 4 18 (.mov (.v 1)), SO 5 19 (.nilck (.s 4)), SO 6 20 (.fldAddr 5 (.s 5)), SO 7 21 (.load false 1 (.s
 6)), SO 8 22 (.bin false .gtr (.s 3) (.s 7)), VS 2 4 8] [] .skip) (.ret)) (.skip))) (.seq (.anyo 9 [ SO 0 23 (.mov (.v 0)), SO 1 24 (.nilck (.s 0)), SO 2 25 (.fldAddr 2 (.s 1)), SO 3 26 (.load false 1 (.s 2)), SO 4 27 (.mov (.v 1)), SO 5 28 (.nilck (.s 4)), SO 6 29 (.fldAddr 2 (.s 5)), SO 7 30 (.load false 1 (.s 6)), SO 8 31 (.bin false .lss (.s 3) (.s 7)), VS 2 4 8] [] .skip) (.ret))), [.t 2]⟩
noncomputable def t_35 : List (Nat × Ctr) := []
noncomputable def c_35 : Ctr := mkF t_35 ir136 [.bor, .bor]
theorem s_35 : Sound Tryz.prog 136 c_35 := mkF_sound _ rfl snd_nil (by kernel_rfl : chkFn Tryz.prog 136 ir136 ir136_v = true)
theorem M_35 : c_35.modes = [.bor, .bor] := rfl
theorem Fl_35 : c_35.flat = true := rfl
attribute [go_sem] M_35 Fl_35
theorem Fs_35 {a : Request} {b : Request} {y_ : Bool} (h : spec_l22Before a b = some y_) : c_35.F [.ptr 6 [Request_av a] 0 0, .ptr 6 [Request_av b] 0 0] = ⟨true, .bool y_, [.any, .any]⟩ := by
 refine mkF_E rfl ?_
 dsimp only [spec_l22Before] at h
 rcases it_some h with ⟨z1, h⟩ | ⟨z1, h⟩
 ·try simp only [go_sem, n1, n2, n3, n4] at z1
  all_goals
  obtain rfl := so_some h
  refine ⟨0, fun L hL => ?_⟩
  simp only [go_sem, ir136, z1]
 ·try simp only [go_sem, n1, n2, n3, n4] at z1
  all_goals
  obtain rfl := so_some h
  refine ⟨0, fun L hL => ?_⟩
  simp only [go_sem, ir136, z1]


def ir94_b0 : IR := .seq (.test false [ PM 7 4, PM 8 0, PO 9 (.len false (.s 0)), PO 10 (.bin false .lss (.s 2) (.s 0))] (.s 0) (.skip) (.exit 0)) (.seq (.block 1 (.anyo 18 [ SO 0 13 (.mov (.v 0)), SO 1 14 (.mov (.v 4)), SO 2 15 (.ixAddr 6 (.s 0) (.s 1)), SO 3 16 (.mov (.v 1)), SO 4 17 (.callp 97 [(.s 2), (.s 3)]), SO 5 18 (.mov (.s 4)), ⟨.slot 6, 19, (some ((.s 5), true)), .mov (.v 3)⟩, ⟨.slot 7, 20, (some ((.s 5), true)), .bin false .lss (.s 6) (I6 0)⟩, ⟨.slot 8, 21, (some ((.s 5), true)), .mov (.s 7)⟩, ⟨.slot 9, 22, (some ((.s 8), false)), .mov (.v 0)⟩, ⟨.slot 10, 23, (some ((.s 8), false)),
 .mov (.v 4)⟩, ⟨.slot 11, 24, (some ((.s 8), false)), .ixAddr 6 (.s 9) (.s 10)⟩, ⟨.slot 12, 25, (some ((.s 8), false)), .mov (.v 0)⟩, ⟨.slot 13, 26, (some ((.s 8), false)), .mov (.v 3)⟩, ⟨.slot 14, 27, (some ((.s 8), false)), .ixAddr 6 (.s 12) (.s 13)⟩, ⟨.slot 15, 28, (some ((.s 8), false)), .call 136 [(.s 11), (.s 14)]⟩, ⟨.slot 16, 29, (some ((.s 5), true)), .pick (.s 8) (.c (.bool true)) (.s 15)⟩, SO 17 30 (.pick (.s 5) (.s 16) (.c (.bool false)))] [] (.cond (.s 17) (.region false [ PM 31 4, VS 3 5 0]) (.skip)))) (.region false [ PM 11 4, PO 12 (.bin false .add (.s 0) (I6 1)), VS 4 6 0]))
def ir94_k0 : List Bool := [true, true, false, true, true]
def ir94_o0 : List Bool := [false, false, false, true, false]
def ir94_r0 : List Bool := [false, false, true, false, false]
def ir94_v : List Nat := [0, 1, 4, 5, 6]
def ir94 : AFn := ⟨2, 5, .seq (.region false [ VO 2 4 (.mov (I6 0))]) (.seq (.region false [ VO 3 5 (.mov (.c (.int .i64 (-1))))]) (.seq (.seq (.region false [ VO 4 6 (.mov (I6 0))]) (.block 0 (.loop ir94_k0 ir94_o0 ir94_r0 ir94_b0))) (.seq (.region false [ PM 32 3, VS 2 4 0]) (.ret)))), [.t 2]⟩
noncomputable def t_36 : List (Nat × Ctr) := [(97, c_34), (136, c_35)]
theorem lk_36_97 : look t_36 97 = some c_34 := rfl
theorem lk_36_136 : look t_36 136 = some c_35 := rfl
noncomputable def c_36 : Ctr := mkF t_36 ir94 [.bor, .bor]
theorem s_36 : Sound Tryz.prog 94 c_36 := mkF_sound _ rfl (snd_cons s_34 (snd_cons s_35 snd_nil)) (by kernel_rfl : chkFn Tryz.prog 94 ir94 ir94_v = true)
theorem M_36 : c_36.modes = [.bor, .bor] := rfl
theorem Fl_36 : c_36.flat = true := rfl
attribute [go_sem] M_36 Fl_36
attribute [go_sem] lk_36_97 lk_36_136
def E_36_l1 (list : List Request) (t : Int) : (Int × Int) → St
 | (best, i) => ⟨[.sl 6 (List.map Request_av list), .int .i64 t, .any, .int .i64 best, .int .i64 i], [], [], true⟩
def R_36_l1 (list : List Request) (t : Int) (y : Int) : Res := (.exit 0, ⟨[.any, .any, .any, .int .i64 y, .any], [], [], true⟩)
theorem spec_l22Next_l1_ex {list : List Request} {t : Int} {sgm_ : Int × Int} {rho_ : Int} (h : whileE (spec_l22Next_l1 list t) sgm_ = some rho_) : ∃ L0, ∀ L, L0 ≤ L → iter (exec (look t_36) L ir94_b0) ir94_k0 ir94_o0 ir94_r0 L (E_36_l1 list t sgm_) = R_36_l1 list t rho_ := by
 refine loop_ex (E := E_36_l1 list t) (R := R_36_l1 list t) (fun y => by first | (intro c; cases c) | (rcases y with y | y <;> (intro c; cases c)) | (rcases y with y | y | y <;> (intro c; cases c))) ?_ h
 clear h
 rintro ⟨best, i⟩ o_ h
 dsimp only [spec_l22Next_l1] at h
 rcases it_some h with ⟨z1, h⟩ | ⟨z1, h⟩
 ·try simp only [go_sem, n1, n2, n3, n4] at z1
  all_goals
  obtain ⟨z2, h⟩ := ck_some h
  have lz2 := ix_lt z2
  have xz2 := getD_mapD Request_av list lz2
  try simp only [go_sem] at lz2
  try simp only [go_sem] at xz2
  try simp only [go_sem, n1, n2, n3, n4, z1] at z2
  all_goals
  obtain ⟨y_3, z3, h⟩ := bd_some h
  have fz3 := Fs_34 z3
  try simp only [go_sem, z1, z2] at fz3
  obtain ⟨z4, h⟩ := ck_some h
  rcases or_split z4 with ⟨gz4, z4⟩ | gz4
  ·try simp only [go_sem, n1, n2, n3, n4, z1, z2] at gz4
   all_goals
   have lz4 := ix_lt z4
   have xz4 := getD_mapD Request_av list lz4
   try simp only [go_sem] at lz4
   try simp only [go_sem] at xz4
   try simp only [go_sem, n1, n2, n3, n4, z1, z2, gz4] at z4
   all_goals
   obtain ⟨z5, h⟩ := ck_some h
   rcases or_split z5 with ⟨gz5, z5⟩ | gz5
   ·try simp only [go_sem, n1, n2, n3, n4, z1, z2, gz4, z4] at gz5
    all_goals
    obtain ⟨y_5, hz5⟩ := Option.isSome_iff_exists.1 z5
    have fz5 := Fs_35 hz5
    try simp only [go_sem, n1, n2, n3, n4, z1, z2, gz4, z4, gz5] at hz5
    all_goals
    try simp only [go_sem, z1, z2, gz4, z4, gz5] at fz5
    rcases it_some h with ⟨z6, h⟩ | ⟨z6, h⟩
    ·try simp only [go_sem, n1, n2, n3, n4, z1, z2, gz4, z4, gz5, hz5] at z6
     all_goals
     obtain rfl := so_some h
     refine ⟨0, fun L hL => ?_⟩
     simp only [go_sem, ir94, E_36_l1, R_36_l1, ir94_b0, ir94_k0, ir94_o0, ir94_r0, z1, z2, lz2, xz2, fz3, gz4, z4, lz4, xz4, gz5, hz5, fz5, z6]
    ·try simp only [go_sem, n1, n2, n3, n4, z1, z2, gz4, z4, gz5, hz5] at z6
     all_goals
     obtain rfl := so_some h
     refine ⟨0, fun L hL => ?_⟩
     simp only [go_sem, ir94, E_36_l1, R_36_l1, ir94_b0, ir94_k0, ir94_o0, ir94_r0, z1, z2, lz2, xz2, fz3, gz4, z4, lz4, xz4, gz5, hz5, fz5, z6]
   ·rcases and_f gz5 with gz5a | ⟨gz5a, gz5b⟩
    ·try simp only [go_sem, n1, n2, n3, n4, z1, z2, gz4, z4] at gz5a
     all_goals
     (simp_all)
    ·have gz5bn := no_f gz5b
     try simp only [go_sem, n1, n2, n3, n4, z1, z2, gz4, z4] at gz5a
     all_goals
     try simp only [go_sem, n1, n2, n3, n4, z1, z2, gz4, z4, gz5a] at gz5bn
     all_goals
     rcases it_some h with ⟨z6, h⟩ | ⟨z6, h⟩
     ·try simp only [go_sem, n1, n2, n3, n4, z1, z2, gz4, z4, gz5a, gz5bn] at z6
      all_goals
      obtain rfl := so_some h
      refine ⟨0, fun L hL => ?_⟩
      simp only [go_sem, ir94, E_36_l1, R_36_l1, ir94_b0, ir94_k0, ir94_o0, ir94_r0, z1, z2, lz2, xz2, fz3, gz4, z4, lz4, xz4, gz5a, gz5bn, z6]
     ·try simp only [go_sem, n1, n2, n3, n4, z1, z2, gz4, z4, gz5a, gz5bn] at z6
      all_goals
      (simp_all)
  ·rcases and_f gz4 with gz4a | ⟨gz4a, gz4b⟩
   ·try simp only [go_sem, n1, n2, n3, n4, z1, z2] at gz4a
    all_goals
    obtain ⟨z5, h⟩ := ck_some h
    rcases it_some h with ⟨z6, h⟩ | ⟨z6, h⟩
    ·try simp only [go_sem, n1, n2, n3, n4, z1, z2, gz4a] at z6
     all_goals
     (simp_all)
    ·try simp only [go_sem, n1, n2, n3, n4, z1, z2, gz4a] at z6
     all_goals
     obtain rfl := so_some h
     refine ⟨0, fun L hL => ?_⟩
     simp only [go_sem, ir94, E_36_l1, R_36_l1, ir94_b0, ir94_k0, ir94_o0, ir94_r0, z1, z2, lz2, xz2, fz3, gz4a, z6]
   ·have gz4bn := no_f gz4b
    try simp only [go_sem, n1, n2, n3, n4, z1, z2] at gz4a
    all_goals
    try simp only [go_sem, n1, n2, n3, n4, z1, z2, gz4a] at gz4bn
    all_goals
    obtain ⟨z5, h⟩ := ck_some h
    rcases it_some h with ⟨z6, h⟩ | ⟨z6, h⟩
    ·try simp only [go_sem, n1, n2, n3, n4, z1, z2, gz4a, gz4bn] at z6
     all_goals
     obtain rfl := so_some h
     refine ⟨0, fun L hL => ?_⟩
     simp only [go_sem, ir94, E_36_l1, R_36_l1, ir94_b0, ir94_k0, ir94_o0, ir94_r0, z1, z2, lz2, xz2, fz3, gz4a, gz4bn, z6]
    ·try simp only [go_sem, n1, n2, n3, n4, z1, z2, gz4a, gz4bn] at z6
     all_goals
     (simp_all)
 ·try simp only [go_sem, n1, n2, n3, n4] at z1
  all_goals
  obtain rfl := so_some h
  refine ⟨0, fun L hL => ?_⟩
  simp only [go_sem, ir94, E_36_l1, R_36_l1, ir94_b0, ir94_k0, ir94_o0, ir94_r0, z1]

theorem Fs_36 {list : List Request} {t : Int} {y_ : Int} (h : spec_l22Next list t = some y_) : c_36.F [.sl 6 (List.map Request_av list), .int .i64 t] = ⟨true, .int .i64 y_, [.any, .any]⟩ := by
 refine mkF_E rfl ?_
 dsimp only [spec_l22Next] at h
 obtain ⟨y_7, z7, h⟩ := bd_some h
 obtain ⟨Lz7, ez7⟩ := spec_l22Next_l1_ex z7
 obtain rfl := so_some h
 refine ⟨Lz7, fun L hL => ?_⟩
 have ez7 := ez7 L (by omega)
 try simp only [go_sem, E_36_l1, R_36_l1, ir94_k0, ir94_o0, ir94_r0] at ez7
 simp only [go_sem, ir94, E_36_l1, R_36_l1, ir94_k0, ir94_o0, ir94_r0, ez7]


def ir34_v : List Nat := [0, 1, 4, 5, 6, 7]
def ir34 : AFn := ⟨2, 6, .seq (.region false [ VO 2 4 (.mov (I6 0)), VO 3 5 (.mov (I6 0))]) (.seq (.region false [ PM 8 0, PM 9 1, PO 10 (.call 93 [(.s 1), (.s 0)]), VS 4 6 0]) (.seq (.test false [ PM 11 4, PO 12 (.bin false .neq (.s 0) (I6 0))] (.s 0) (.seq (.region false [ PM 13 4, VO 2 4 (.mov (I6 0)), VS 3 5 0]) (.ret)) (.skip)) (.seq (.region false [ PM 14 0, PM 15 1, PO 16 (.call 94 [(.s 1), (.s 0)]), VS 5 7 0]) (.seq (.test false [ PM 17 5, PO 18 (.bin false .lss (.s 0) (I6 0))] (.s 0) (.seq (.region false [ VO 2 4 (.mov (I6 0)), VO 3 5 (.mov (I6 3))]) (.ret)) (.skip)) (.seq (.region
 false [ PM 19 5, VS 2 4 0, VO 3 5 (.mov (I6 0))]) (.ret)))))), [.t 2, .t 3]⟩
noncomputable def t_37 : List (Nat × Ctr) := [(93, c_33), (94, c_36)]
theorem lk_37_93 : look t_37 93 = some c_33 := rfl
theorem lk_37_94 : look t_37 94 = some c_36 := rfl
noncomputable def c_37 : Ctr := mkF t_37 ir34 [.bor, .bor]
theorem s_37 : Sound Tryz.prog 34 c_37 := mkF_sound _ rfl (snd_cons s_33 (snd_cons s_36 snd_nil)) (by kernel_rfl : chkFn Tryz.prog 34 ir34 ir34_v = true)
theorem M_37 : c_37.modes = [.bor, .bor] := rfl
theorem Fl_37 : c_37.flat = true := rfl
attribute [go_sem] M_37 Fl_37
attribute [go_sem] lk_37_93 lk_37_94
theorem Fs_37 {list : List Request} {t : Int} {y_ : Int × Int} (h : spec_NextRequest list t = some y_) : c_37.F [.sl 6 (List.map Request_av list), .int .i64 t] = ⟨true, .tup [.int .i64 y_.1, .int .i64 y_.2], [.any, .any]⟩ := by
 refine mkF_E rfl ?_
 dsimp only [spec_NextRequest] at h
 obtain ⟨y_1, z1, h⟩ := bd_some h
 have fz1 := Fs_33 z1
 try simp only [go_sem] at fz1
 rcases it_some h with ⟨z2, h⟩ | ⟨z2, h⟩
 ·try simp only [go_sem, n1, n2, n3, n4] at z2
  all_goals
  obtain rfl := so_some h
  refine ⟨0, fun L hL => ?_⟩
  simp only [go_sem, ir34, fz1, z2]
 ·try simp only [go_sem, n1, n2, n3, n4] at z2
  all_goals
  obtain ⟨y_3, z3, h⟩ := bd_some h
  have fz3 := Fs_36 z3
  try simp only [go_sem, z2] at fz3
  rcases it_some h with ⟨z4, h⟩ | ⟨z4, h⟩
  ·try simp only [go_sem, n1, n2, n3, n4, z2] at z4
   all_goals
   obtain rfl := so_some h
   refine ⟨0, fun L hL => ?_⟩
   simp only [go_sem, ir34, fz1, z2, fz3, z4]
  ·try simp only [go_sem, n1, n2, n3, n4, z2] at z4
   all_goals
   obtain rfl := so_some h
   refine ⟨0, fun L hL => ?_⟩
   simp only [go_sem, ir34, fz1, z2, fz3, z4]


def ir95_v : List Nat := [0, 1, 2, 4]
def ir95 : AFn := ⟨3, 4, .seq (.region false [ VO 3 4 (.mov (.c (.bool false)))]) (.seq (.anyo 6 [ SO 0 5 (.load false 1 (.v 1)), SO 1 6 (.mov (.v 0)), SO 2 7 (.ixAddr 6 (.s 0) (.s 1)), SO 3 8 (.load true 6 (.s 2)), SO 4 9 (.load false 1 (.v 2)), SO 5 10 (.callp 96 [(.s 3), (.s 4)]), VS 3 4 5] [] .skip) (.ret)), [.t 3]⟩
noncomputable def t_38 : List (Nat × Ctr) := [(96, c_23)]
theorem lk_38_96 : look t_38 96 = some c_23 := rfl
noncomputable def c_38 : Ctr := mkF t_38 ir95 [.bor, .bor, .bor]
theorem s_38 : Sound Tryz.prog 95 c_38 := mkF_sound _ rfl (snd_cons s_23 snd_nil) (by kernel_rfl : chkFn Tryz.prog 95 ir95 ir95_v = true)
theorem M_38 : c_38.modes = [.bor, .bor, .bor] := rfl
theorem Fl_38 : c_38.flat = true := rfl
attribute [go_sem] M_38 Fl_38
attribute [go_sem] lk_38_96
theorem Fs_38 {i : Int} {t1 : List Request} {t2 : Int} {y_ : Bool} (h : impl_OpenRequests_c1 i t1 t2 = some y_) : c_38.F [.int .i64 i, .ptr 1 [.sl 6 (List.map Request_av t1)] 0 0, .ptr 1 [.int .i64 t2] 0 0] = ⟨true, .bool y_, [.any, .any, .any]⟩ := by
 refine mkF_E rfl ?_
 dsimp only [impl_OpenRequests_c1] at h
 obtain ⟨z1, h⟩ := ck_some h
 have lz1 := ix_lt z1
 have xz1 := getD_mapD Request_av t1 lz1
 try simp only [go_sem] at lz1
 try simp only [go_sem] at xz1
 try simp only [go_sem, n1, n2, n3, n4] at z1
 all_goals
 obtain ⟨y_2, z2, h⟩ := bd_some h
 have fz2 := Fs_23 z2
 try simp only [go_sem, z1] at fz2
 obtain rfl := so_some h
 refine ⟨0, fun L hL => ?_⟩
 simp only [go_sem, ir95, z1, lz1, xz1, fz2]


def ir72_b0 : IR := .seq (.region false [ VO 7 10 (.bin false .lss (.v 6) (.v 5))]) (.seq (.cond (.v 7) (.skip) (.exit 0)) (.seq (.block 1 (.seq (.region false [ PM 11 6, VS 4 6 0]) (.test false [ PM 12 1, PM 13 4, PO 14 (.callv (.s 1) [(.s 0)])] (.s 0) (.region false [ PM 15 3, PM 16 4, PO 17 (.mkSl 1 (.int .i64 (0)) 1 [(0, (.s 0))]), PO 18 (.app 1 8 (.int .i64 (0)) (.s 2) (.s 0)), VS 3 5 0]) (.skip)))) (.region false [ PO 19 (.bin false .add (.v 6) (I6 1)), VS 6 9 0])))
def ir72_k0 : List Bool := [false, true, false, true, false, true, true, false]
def ir72_o0 : List Bool := [false, false, false, true, false, false, false, false]
def ir72_r0 : List Bool := [false, false, true, false, false, false, false, false]
def ir72_v : List Nat := [0, 1, 4, 5, 6, 8, 9, 10]
def ir72 : AFn := ⟨2, 8, .seq (.region false [ VO 2 4 (.newnil 1)]) (.seq (.region false [ PO 7 (.mkSl 1 (.int .i64 (0)) 0 []), VS 3 5 0]) (.seq (.seq (.region false [ VO 5 8 (.mov (.v 0)), VO 6 9 (.mov (I6 0))]) (.block 0 (.loop ir72_k0 ir72_o0 ir72_r0 ir72_b0))) (.seq (.region false [ PM 20 3, VS 2 4 0]) (.ret)))), [.t 2]⟩
noncomputable def t_39 : List (Nat × Ctr) := [(95, c_38)]
theorem lk_39_95 : look t_39 95 = some c_38 := rfl
noncomputable def c_39 : Ctr := mkF t_39 ir72 [.bor, .bor]
theorem s_39 : Sound Tryz.prog 72 c_39 := mkF_sound _ rfl (snd_cons s_38 snd_nil) (by kernel_rfl : chkFn Tryz.prog 72 ir72 ir72_v = true)
theorem M_39 : c_39.modes = [.bor, .bor] := rfl
theorem Fl_39 : c_39.flat = true := rfl
attribute [go_sem] M_39 Fl_39
attribute [go_sem] lk_39_95
def E_39_l1 (c : List Request) (c2 : Int) (t8 : Int) : ((List Int) × Int) → St
 | (out, t9) => ⟨[.any, .fn (.func 95) [] [.ptr 1 [.sl 6 (List.map Request_av c)] 0 0, .ptr 1 [.int .i64 c2] 0 0], .any, .own 3200000, .any, .int .i64 t8, .int .i64 t9, .any], [], [(3200000, ⟨1, List.map (AV.int .i64) out⟩)], true⟩
def R_39_l1 (c : List Request) (c2 : Int) (t8 : Int) (y : (List Int)) : Res := (.exit 0, ⟨[.any, .any, .any, .own 3200000, .any, .any, .any, .any], [], [(3200000, ⟨1, List.map (AV.int .i64) y⟩)], true⟩)
theorem impl_indicesWhere__impl_OpenRequests_c1_l1_ex {c : List Request} {c2 : Int} {t8 : Int} {sgm_ : (List Int) × Int} {rho_ : (List Int)} (h : whileE (impl_indicesWhere__impl_OpenRequests_c1_l1 c c2 t8) sgm_ = some rho_) : ∃ L0, ∀ L, L0 ≤ L → iter (exec (look t_39) L ir72_b0) ir72_k0 ir72_o0 ir72_r0 L (E_39_l1 c c2 t8 sgm_) = R_39_l1 c c2 t8 rho_ := by
 refine loop_ex (E := E_39_l1 c c2 t8) (R := R_39_l1 c c2 t8) (fun y => by first | (intro c; cases c) | (rcases y with y | y <;> (intro c; cases c)) | (rcases y with y | y | y <;> (intro c; cases c))) ?_ h
 clear h
 rintro ⟨out, t9⟩ o_ h
 dsimp only [impl_indicesWhere__impl_OpenRequests_c1_l1] at h
 rcases it_some h with ⟨z1, h⟩ | ⟨z1, h⟩
 ·try simp only [go_sem, n1, n2, n3, n4] at z1
  all_goals
  obtain ⟨y_2, z2, h⟩ := bd_some h
  have fz2 := Fs_38 z2
  try simp only [go_sem, z1] at fz2
  rcases it_some h with ⟨z3, h⟩ | ⟨z3, h⟩
  ·try simp only [go_sem, n1, n2, n3, n4, z1] at z3
   all_goals
   obtain ⟨z4, h⟩ := ck_some h
   try simp only [go_sem, n1, n2, n3, n4, z1, z3] at z4
   all_goals
   obtain rfl := so_some h
   refine ⟨0, fun L hL => ?_⟩
   simp only [go_sem, ir72, E_39_l1, R_39_l1, ir72_b0, ir72_k0, ir72_o0, ir72_r0, z1, fz2, z3, z4]
  ·try simp only [go_sem, n1, n2, n3, n4, z1] at z3
   all_goals
   obtain rfl := so_some h
   refine ⟨0, fun L hL => ?_⟩
   simp only [go_sem, ir72, E_39_l1, R_39_l1, ir72_b0, ir72_k0, ir72_o0, ir72_r0, z1, fz2, z3]
 ·try simp only [go_sem, n1, n2, n3, n4] at z1
  all_goals
  obtain rfl := so_some h
  refine ⟨0, fun L hL => ?_⟩
  simp only [go_sem, ir72, E_39_l1, R_39_l1, ir72_b0, ir72_k0, ir72_o0, ir72_r0, z1]

theorem Fs_39 {n : Int} {wanted_c0 : List Request} {wanted_c1 : Int} {y_ : (List Int)} (h : impl_indicesWhere__impl_OpenRequests_c1 n wanted_c0 wanted_c1 = some y_) : c_39.F [.int .i64 n, .fn (.func 95) [] [.ptr 1 [.sl 6 (List.map Request_av wanted_c0)] 0 0, .ptr 1 [.int .i64 wanted_c1] 0 0]] = ⟨true, .fresh 1 (List.map (AV.int .i64) y_), [.any, .any]⟩ := by
 refine mkF_E (by simp only [flatA, flatB, flat1, List.all_cons, List.all_nil, Bool.and_self, flatE_map (f := (AV.int .i64)) (fun _ => rfl)]) ?_
 dsimp only [impl_indicesWhere__impl_OpenRequests_c1] at h
 obtain ⟨y_5, z5, h⟩ := bd_some h
 obtain ⟨Lz5, ez5⟩ := impl_indicesWhere__impl_OpenRequests_c1_l1_ex z5
 obtain rfl := so_some h
 refine ⟨Lz5, fun L hL => ?_⟩
 have ez5 := ez5 L (by omega)
 try simp only [go_sem, E_39_l1, R_39_l1, ir72_k0, ir72_o0, ir72_r0] at ez5
 simp only [go_sem, ir72, E_39_l1, R_39_l1, ir72_k0, ir72_o0, ir72_r0, ez5]


def ir35_v : List Nat := [0, 1, 2, 3, 4, 5, 6]
def ir35 : AFn := ⟨2, 7, .seq (.region false [ VO 2 2 (.box (.v 0)), VO 3 3 (.box (.v 1)), VO 4 4 (.newnil 1), VO 5 5 (.mov (I6 0))]) (.seq (.seq (.region false [ PO 7 (.load false 1 (.v 2)), PO 8 (.load false 1 (.v 3)), PO 9 (.call 91 [(.s 1), (.s 0)]), VS 6 6 0]) (.test false [ PM 10 6, PO 11 (.bin false .neq (.s 0) (I6 0))] (.s 0) (.seq (.region false [ PM 12 6, VO 4 4 (.newnil 1), VS 5 5 0]) (.ret)) (.skip))) (.seq (.region false [ PO 13 (.load false 1 (.v 2)), PO 14 (.len false (.s 0)), PO 15 (.mkFn (.func 95) [] [(.v 2), (.v 3)]), PO 16 (.call 72 [(.s 1), (.s 0)]), VS 4 4 0, VO 5 5 (.mov
 (I6 0))]) (.ret))), [.t 4, .t 5]⟩
noncomputable def t_40 : List (Nat × Ctr) := [(91, c_22), (72, c_39)]
theorem lk_40_91 : look t_40 91 = some c_22 := rfl
theorem lk_40_72 : look t_40 72 = some c_39 := rfl
noncomputable def c_40 : Ctr := mkF t_40 ir35 [.bor, .bor]
theorem s_40 : Sound Tryz.prog 35 c_40 := mkF_sound _ rfl (snd_cons s_22 (snd_cons s_39 snd_nil)) (by kernel_rfl : chkFn Tryz.prog 35 ir35 ir35_v = true)
theorem M_40 : c_40.modes = [.bor, .bor] := rfl
theorem Fl_40 : c_40.flat = true := rfl
attribute [go_sem] M_40 Fl_40
attribute [go_sem] lk_40_91 lk_40_72
theorem Fs_40 {list : List Request} {t : Int} {y_ : (List Int) × Int} (h : impl_OpenRequests list t = some y_) : c_40.F [.sl 6 (List.map Request_av list), .int .i64 t] = ⟨true, .tup [.fresh 1 (List.map (AV.int .i64) y_.1), .int .i64 y_.2], [.any, .any]⟩ := by
 refine mkF_E (by simp only [flatA, flatB, flat1, List.all_cons, List.all_nil, Bool.and_self, flatE_map (f := (AV.int .i64)) (fun _ => rfl)]) ?_
 dsimp only [impl_OpenRequests] at h
 obtain ⟨y_1, z1, h⟩ := bd_some h
 have fz1 := Fs_22 z1
 try simp only [go_sem] at fz1
 rcases it_some h with ⟨z2, h⟩ | ⟨z2, h⟩
 ·try simp only [go_sem, n1, n2, n3, n4] at z2
  all_goals
  obtain rfl := so_some h
  refine ⟨0, fun L hL => ?_⟩
  simp only [go_sem, ir35, fz1, z2]
 ·try simp only [go_sem, n1, n2, n3, n4] at z2
  all_goals
  obtain ⟨y_3, z3, h⟩ := bd_some h
  have fz3 := Fs_39 z3
  try simp only [go_sem, z2] at fz3
  obtain rfl := so_some h
  refine ⟨0, fun L hL => ?_⟩
  simp only [go_sem, ir35, fz1, z2, fz3]


def ir36_b0 : IR := .seq (.test false [ PM 16 6, PM 17 0, PO 18 (.len false (.s 0)), PO 19 (.bin false .lss (.s 2) (.s 0))] (.s 0) (.skip) (.exit 0)) (.seq (.block 1 (.test false [ PM 22 0, PM 23 6, PO 24 (.ixAddr 6 (.s 1) (.s 0)), PM 25 1, PO 26 (.call 97 [(.s 1), (.s 0)])] (.s 0) (.region false [ PM 27 5, PM 28 6, PO 29 (.mkSl 1 (.int .i64 (0)) 1 [(0, (.s 0))]), PO 30 (.app 1 8 (.int .i64 (0)) (.s 2) (.s 0)), VS 5 7 0]) (.skip))) (.region false [ PM 20 6, PO 21 (.bin false .add (.s 0) (I6 1)), VS 6 8 0]))
def ir36_k0 : List Bool := [true, true, false, false, false, true, true]
def ir36_o0 : List Bool := [false, false, false, false, false, true, false]
def ir36_r0 : List Bool := [false, false, true, true, false, false, false]
def ir36_v : List Nat := [0, 1, 4, 5, 6, 7, 8]
def ir36 : AFn := ⟨2, 7, .seq (.region false [ VO 2 4 (.newnil 1), VO 3 5 (.mov (I6 0))]) (.seq (.region false [ PM 9 0, PM 10 1, PO 11 (.call 93 [(.s 1), (.s 0)]), VS 4 6 0]) (.seq (.test false [ PM 12 4, PO 13 (.bin false .neq (.s 0) (I6 0))] (.s 0) (.seq (.region false [ PM 14 4, VO 2 4 (.newnil 1), VS 3 5 0]) (.ret)) (.skip)) (.seq (.region false [ PO 15 (.mkSl 1 (.int .i64 (0)) 0 []), VS 5 7 0]) (.seq (.seq (.region false [ VO 6 8 (.mov (I6 0))]) (.block 0 (.loop ir36_k0 ir36_o0 ir36_r0 ir36_b0))) (.seq (.region false [ PM 31 5, VS 2 4 0, VO 3 5 (.mov (I6 0))]) (.ret)))))), [.t 2, .t 3]⟩
noncomputable def t_41 : List (Nat × Ctr) := [(93, c_33), (97, c_34)]
theorem lk_41_93 : look t_41 93 = some c_33 := rfl
theorem lk_41_97 : look t_41 97 = some c_34 := rfl
noncomputable def c_41 : Ctr := mkF t_41 ir36 [.bor, .bor]
theorem s_41 : Sound Tryz.prog 36 c_41 := mkF_sound _ rfl (snd_cons s_33 (snd_cons s_34 snd_nil)) (by kernel_rfl : chkFn Tryz.prog 36 ir36 ir36_v = true)
theorem M_41 : c_41.modes = [.bor, .bor] := rfl
theorem Fl_41 : c_41.flat = true := rfl
attribute [go_sem] M_41 Fl_41
attribute [go_sem] lk_41_93 lk_41_97
def E_41_l1 (list : List Request) (t : Int) : ((List Int) × Int) → St
 | (out, i) => ⟨[.sl 6 (List.map Request_av list), .int .i64 t, .any, .any, .any, .own 3200000, .int .i64 i], [], [(3200000, ⟨1, List.map (AV.int .i64) out⟩)], true⟩
def R_41_l1 (list : List Request) (t : Int) (y : (List Int)) : Res := (.exit 0, ⟨[.any, .any, .any, .any, .any, .own 3200000, .any], [], [(3200000, ⟨1, List.map (AV.int .i64) y⟩)], true⟩)
theorem spec_OpenRequests_l1_ex {list : List Request} {t : Int} {sgm_ : (List Int) × Int} {rho_ : (List Int)} (h : whileE (spec_OpenRequests_l1 list t) sgm_ = some rho_) : ∃ L0, ∀ L, L0 ≤ L → iter (exec (look t_41) L ir36_b0) ir36_k0 ir36_o0 ir36_r0 L (E_41_l1 list t sgm_) = R_41_l1 list t rho_ := by
 refine loop_ex (E := E_41_l1 list t) (R := R_41_l1 list t) (fun y => by first | (intro c; cases c) | (rcases y with y | y <;> (intro c; cases c)) | (rcases y with y | y | y <;> (intro c; cases c))) ?_ h
 clear h
 rintro ⟨out, i⟩ o_ h
 dsimp only [spec_OpenRequests_l1] at h
 rcases it_some h with ⟨z3, h⟩ | ⟨z3, h⟩
 ·try simp only [go_sem, n1, n2, n3, n4] at z3
  all_goals
  obtain ⟨z4, h⟩ := ck_some h
  have lz4 := ix_lt z4
  have xz4 := getD_mapD Request_av list lz4
  try simp only [go_sem] at lz4
  try simp only [go_sem] at xz4
  try simp only [go_sem, n1, n2, n3, n4, z3] at z4
  all_goals
  obtain ⟨y_5, z5, h⟩ := bd_some h
  have fz5 := Fs_34 z5
  try simp only [go_sem, z3, z4] at fz5
  rcases it_some h with ⟨z6, h⟩ | ⟨z6, h⟩
  ·try simp only [go_sem, n1, n2, n3, n4, z3, z4] at z6
   all_goals
   obtain ⟨z7, h⟩ := ck_some h
   try simp only [go_sem, n1, n2, n3, n4, z3, z4, z6] at z7
   all_goals
   obtain rfl := so_some h
   refine ⟨0, fun L hL => ?_⟩
   simp only [go_sem, ir36, E_41_l1, R_41_l1, ir36_b0, ir36_k0, ir36_o0, ir36_r0, z3, z4, lz4, xz4, fz5, z6, z7]
  ·try simp only [go_sem, n1, n2, n3, n4, z3, z4] at z6
   all_goals
   obtain rfl := so_some h
   refine ⟨0, fun L hL => ?_⟩
   simp only [go_sem, ir36, E_41_l1, R_41_l1, ir36_b0, ir36_k0, ir36_o0, ir36_r0, z3, z4, lz4, xz4, fz5, z6]
 ·try simp only [go_sem, n1, n2, n3, n4] at z3
  all_goals
  obtain rfl := so_some h
  refine ⟨0, fun L hL => ?_⟩
  simp only [go_sem, ir36, E_41_l1, R_41_l1, ir36_b0, ir36_k0, ir36_o0, ir36_r0, z3]

theorem Fs_41 {list : List Request} {t : Int} {y_ : (List Int) × Int} (h : spec_OpenRequests list t = some y_) : c_41.F [.sl 6 (List.map Request_av list), .int .i64 t] = ⟨true, .tup [.fresh 1 (List.map (AV.int .i64) y_.1), .int .i64 y_.2], [.any, .any]⟩ := by
 refine mkF_E (by simp only [flatA, flatB, flat1, List.all_cons, List.all_nil, Bool.and_self, flatE_map (f := (AV.int .i64)) (fun _ => rfl)]) ?_
 dsimp only [spec_OpenRequests] at h
 obtain ⟨y_1, z1, h⟩ := bd_some h
 have fz1 := Fs_33 z1
 try simp only [go_sem] at fz1
 rcases it_some h with ⟨z2, h⟩ | ⟨z2, h⟩
 ·try simp only [go_sem, n1, n2, n3, n4] at z2
  all_goals
  obtain rfl := so_some h
  refine ⟨0, fun L hL => ?_⟩
  simp only [go_sem, ir36, E_41_l1, R_41_l1, ir36_k0, ir36_o0, ir36_r0, fz1, z2]
 ·try simp only [go_sem, n1, n2, n3, n4] at z2
  all_goals
  obtain ⟨y_8, z8, h⟩ := bd_some h
  obtain ⟨Lz8, ez8⟩ := spec_OpenRequests_l1_ex z8
  obtain rfl := so_some h
  refine ⟨Lz8, fun L hL => ?_⟩
  have ez8 := ez8 L (by omega)
  try simp only [go_sem, E_41_l1, R_41_l1, ir36_k0, ir36_o0, ir36_r0, z2] at ez8
  simp only [go_sem, ir36, E_41_l1, R_41_l1, ir36_k0, ir36_o0, ir36_r0, fz1, z2, ez8]


def ir37_b0 : IR := .seq (.test false [ PM 20 7, PO 21 (.bin false .gtr (.s 0) (I6 0))] (.s 0) (.skip) (.exit 0)) (.seq (.block 1 (.seq (.region false [ PM 24 5, PM 25 6, PO 26 (.mkSl 1 (.int .i64 (0)) 1 [(0, (.s 0))]), PO 27 (.app 1 8 (.int .i64 (0)) (.s 2) (.s 0)), VS 5 6 0]) (.region false [ PM 28 6, PM 29 3, PO 30 (.call 70 [(.s 0), (I6 6)]), PO 31 (.bin false .add (I6 1) (.s 0)), PO 32 (.bin false .mul (I6 500) (.s 0)), PO 33 (.bin false .add (.s 4) (.s 0)), VS 6 7 0]))) (.region false [ PM 22 7, PO 23 (.bin false .sub (.s 0) (I6 1)), VS 7 8 0]))
def ir37_k0 : List Bool := [false, false, false, true, true, true, true, true, false, false]
def ir37_o0 : List Bool := [false, false, false, true, true, true, false, false, false, false]
def ir37_r0 : List Bool := [false, true, true, false, false, false, false, false, false, false]
def ir37_b1 : IR := .seq (.test false [ PM 50 8, PO 51 (.bin false .gtr (.s 0) (I6 0))] (.s 0) (.skip) (.exit 3)) (.seq (.block 4 (.region false [ PM 54 5, PM 55 5, PO 56 (.len false (.s 0)), PO 57 (.bin false .mul (I6 300) (.s 0)), PO 58 (.mkSl 1 (.int .i64 (0)) 1 [(0, (.s 0))]), PO 59 (.app 1 8 (.int .i64 (0)) (.s 4) (.s 0)), VS 5 6 0])) (.region false [ PM 52 8, PO 53 (.bin false .sub (.s 0) (I6 1)), VS 8 9 0]))
def ir37_k1 : List Bool := [false, false, false, false, true, true, false, false, true, false]
def ir37_o1 : List Bool := [false, false, false, false, true, true, false, false, false, false]
def ir37_r1 : List Bool := [false, true, true, false, false, false, false, false, false, false]
def ir37_v : List Nat := [0, 2, 3, 4, 5, 6, 7, 8, 9, 35]
def ir37 : AFn := ⟨1, 10, .seq (.region false [ VO 1 2 (.newnil 6), VO 2 3 (.newnil 1)]) (.seq (.region false [ PM 10 0, PO 11 (.call 54 [(.s 0)]), VS 3 4 0]) (.seq (.region false [ PM 12 3, PO 13 (.call 98 [(.s 0)]), VS 4 5 0]) (.seq (.region false [ PO 14 (.mkSl 1 (.int .i64 (0)) 0 []), VS 5 6 0]) (.seq (.region false [ PM 15 3, PO 16 (.call 70 [(.s 0), (I6 20)]), PO 17 (.bin false .mul (I6 500) (.s 0)), VS 6 7 0]) (.seq (.seq (.region false [ PM 18 3, PO 19 (.call 70 [(.s 0), (I6 12)]), VS 7 8 0]) (.block 0 (.loop ir37_k0 ir37_o0 ir37_r0 ir37_b0))) (.seq (.seq (.region false [ PM 34 3, VO 9
 35 (.call 70 [(.s 0), (I6 20)])]) (.block 2 (.test false [ PO 37 (.bin false .eql (.v 9) (I6 0)), PO 36 (.mov (.s 0))] (.s 0) (.region false [ PM 38 5, PM 39 3, PO 40 (.mkSl 1 (.int .i64 (0)) 4 [(0, (.c (.int .i64 (-1)))), (1, (I6 0)), (2, (I6 10000000)), (3, (I6 10000001))]), PO 41 (.call 69 [(.s 1), (.s 0)]), PO 42 (.mkSl 1 (.int .i64 (0)) 1 [(0, (.s 0))]), PO 43 (.app 1 8 (.int .i64 (0)) (.s 4) (.s 0)), VS 5 6 0]) (.test false [ PO 45 (.bin false .eql (.v 9) (I6 1)), PO 44 (.mov (.s 0))] (.s 0) (.seq (.region false [ PO 46 (.mkSl 1 (.int .i64 (0)) 0 []), VS 5 6 0]) (.seq (.region false [ PM
 47 3, PO 48 (.call 70 [(.s 0), (I6 2)]), PO 49 (.bin false .add (I6 100) (.s 0)), VS 8 9 0]) (.block 3 (.loop ir37_k1 ir37_o1 ir37_r1 ir37_b1)))) (.skip))))) (.seq (.region false [ PM 60 4, PM 61 5, VS 1 2 1, VS 2 3 0]) (.ret)))))))), [.t 1, .t 2]⟩
noncomputable def t_42 : List (Nat × Ctr) := [(54, c_1), (98, c_10), (70, c_3), (69, c_7)]
theorem lk_42_54 : look t_42 54 = some c_1 := rfl
theorem lk_42_98 : look t_42 98 = some c_10 := rfl
theorem lk_42_70 : look t_42 70 = some c_3 := rfl
theorem lk_42_69 : look t_42 69 = some c_7 := rfl
noncomputable def c_42 : Ctr := mkF t_42 ir37 [.bor]
theorem s_42 : Sound Tryz.prog 37 c_42 := mkF_sound _ rfl (snd_cons s_1 (snd_cons s_10 (snd_cons s_3 (snd_cons s_7 snd_nil)))) (by kernel_rfl : chkFn Tryz.prog 37 ir37 ir37_v = true)
theorem M_42 : c_42.modes = [.bor] := rfl
theorem Fl_42 : c_42.flat = true := rfl
attribute [go_sem] M_42 Fl_42
attribute [go_sem] lk_42_54 lk_42_98 lk_42_70 lk_42_69
def E_42_l1 (list : List Request) : (L00Src × (List Int) × Int × Int) → St
 | (s_, slots, at_, k) => ⟨[.any, .any, .any, .ref 3200000 0 0, .own 3200032, .own 3200064, .int .i64 at_, .int .i64 k, .any, .any], [], [(3200000, ⟨3, [L00Src_av s_]⟩), (3200032, ⟨6, List.map Request_av list⟩), (3200064, ⟨1, List.map (AV.int .i64) slots⟩)], true⟩
def R_42_l1 (list : List Request) (y : L00Src × (List Int)) : Res := (.exit 0, ⟨[.any, .any, .any, .ref 3200000 0 0, .own 3200032, .own 3200064, .any, .any, .any, .any], [], [(3200000, ⟨3, [L00Src_av y.1]⟩), (3200032, ⟨6, List.map Request_av list⟩), (3200064, ⟨1, List.map (AV.int .i64) y.2⟩)], true⟩)
theorem spec_DrawPlanSlots_l1_ex {list : List Request} {sgm_ : L00Src × (List Int) × Int × Int} {rho_ : L00Src × (List Int)} (h : whileE (spec_DrawPlanSlots_l1 list) sgm_ = some rho_) : ∃ L0, ∀ L, L0 ≤ L → iter (exec (look t_42) L ir37_b0) ir37_k0 ir37_o0 ir37_r0 L (E_42_l1 list sgm_) = R_42_l1 list rho_ := by
 refine loop_ex (E := E_42_l1 list) (R := R_42_l1 list) (fun y => by first | (intro c; cases c) | (rcases y with y | y <;> (intro c; cases c)) | (rcases y with y | y | y <;> (intro c; cases c))) ?_ h
 clear h
 rintro ⟨s_, slots, at_, k⟩ o_ h
 dsimp only [spec_DrawPlanSlots_l1] at h
 rcases it_some h with ⟨z5, h⟩ | ⟨z5, h⟩
 ·try simp only [go_sem, n1, n2, n3, n4] at z5
  all_goals
  obtain ⟨z6, h⟩ := ck_some h
  try simp only [go_sem, n1, n2, n3, n4, z5] at z6
  all_goals
  obtain ⟨y_7, z7, h⟩ := bd_some h
  have fz7 := Fs_3 z7
  try simp only [go_sem, z5, z6] at fz7
  obtain rfl := so_some h
  refine ⟨0, fun L hL => ?_⟩
  simp only [go_sem, ir37, E_42_l1, R_42_l1, ir37_b0, ir37_k0, ir37_o0, ir37_r0, z5, z6, fz7]
 ·try simp only [go_sem, n1, n2, n3, n4] at z5
  all_goals
  obtain rfl := so_some h
  refine ⟨0, fun L hL => ?_⟩
  simp only [go_sem, ir37, E_42_l1, R_42_l1, ir37_b0, ir37_k0, ir37_o0, ir37_r0, z5]

def E_42_l2 (list : List Request) : ((List Int) × Int) → St
 | (slots, k) => ⟨[.any, .any, .any, .any, .own 3200000, .own 3200032, .any, .any, .int .i64 k, .any], [], [(3200000, ⟨6, List.map Request_av list⟩), (3200032, ⟨1, List.map (AV.int .i64) slots⟩)], true⟩
def R_42_l2 (list : List Request) (y : (List Int)) : Res := (.exit 3, ⟨[.any, .any, .any, .any, .own 3200000, .own 3200032, .any, .any, .any, .any], [], [(3200000, ⟨6, List.map Request_av list⟩), (3200032, ⟨1, List.map (AV.int .i64) y⟩)], true⟩)
theorem spec_DrawPlanSlots_l2_ex {list : List Request} {sgm_ : (List Int) × Int} {rho_ : (List Int)} (h : whileE (spec_DrawPlanSlots_l2 list) sgm_ = some rho_) : ∃ L0, ∀ L, L0 ≤ L → iter (exec (look t_42) L ir37_b1) ir37_k1 ir37_o1 ir37_r1 L (E_42_l2 list sgm_) = R_42_l2 list rho_ := by
 refine loop_ex (E := E_42_l2 list) (R := R_42_l2 list) (fun y => by first | (intro c; cases c) | (rcases y with y | y <;> (intro c; cases c)) | (rcases y with y | y | y <;> (intro c; cases c))) ?_ h
 clear h
 rintro ⟨slots, k⟩ o_ h
 dsimp only [spec_DrawPlanSlots_l2] at h
 rcases it_some h with ⟨z15, h⟩ | ⟨z15, h⟩
 ·try simp only [go_sem, n1, n2, n3, n4] at z15
  all_goals
  obtain ⟨z16, h⟩ := ck_some h
  try simp only [go_sem, n1, n2, n3, n4, z15] at z16
  all_goals
  obtain rfl := so_some h
  refine ⟨0, fun L hL => ?_⟩
  simp only [go_sem, ir37, E_42_l2, R_42_l2, ir37_b1, ir37_k1, ir37_o1, ir37_r1, E_42_l1, R_42_l1, ir37_k0, ir37_o0, ir37_r0, z15, z16]
 ·try simp only [go_sem, n1, n2, n3, n4] at z15
  all_goals
  obtain rfl := so_some h
  refine ⟨0, fun L hL => ?_⟩
  simp only [go_sem, ir37, E_42_l2, R_42_l2, ir37_b1, ir37_k1, ir37_o1, ir37_r1, E_42_l1, R_42_l1, ir37_k0, ir37_o0, ir37_r0, z15]

theorem Fs_42 {code : List UInt8} {y_ : (List Request) × (List Int)} (h : spec_DrawPlanSlots code = some y_) : c_42.F [.sl 1 (List.map byteAV code)] = ⟨true, .tup [.fresh 6 (List.map Request_av y_.1), .fresh 1 (List.map (AV.int .i64) y_.2)], [.any]⟩ := by
 refine mkF_E (by simp only [flatA, flatB, flat1, List.all_cons, List.all_nil, Bool.and_self, flatE_map (f := Request_av) (fun _ => rfl), flatE_map (f := (AV.int .i64)) (fun _ => rfl)]) ?_
 dsimp only [spec_DrawPlanSlots] at h
 obtain ⟨y_1, z1, h⟩ := bd_some h
 have fz1 := Fs_1 z1
 try simp only [go_sem] at fz1
 obtain ⟨y_2, z2, h⟩ := bd_some h
 have fz2 := Fs_10 z2
 try simp only [go_sem] at fz2
 obtain ⟨y_3, z3, h⟩ := bd_some h
 have fz3 := Fs_3 z3
 try simp only [go_sem] at fz3
 obtain ⟨y_4, z4, h⟩ := bd_some h
 have fz4 := Fs_3 z4
 try simp only [go_sem] at fz4
 obtain ⟨y_8, z8, h⟩ := bd_some h
 obtain ⟨Lz8, ez8⟩ := spec_DrawPlanSlots_l1_ex z8
 obtain ⟨y_9, z9, h⟩ := bd_some h
 have fz9 := Fs_3 z9
 try simp only [go_sem] at fz9
 rcases it_some h with ⟨z10, h⟩ | ⟨z10, h⟩
 ·try simp only [go_sem, n1, n2, n3, n4] at z10
  all_goals
  obtain ⟨y_11, z11, h⟩ := bd_some h
  have fz11 := Fs_7 z11
  try simp only [go_sem, z10] at fz11
  obtain ⟨z12, h⟩ := ck_some h
  try simp only [go_sem, n1, n2, n3, n4, z10] at z12
  all_goals
  obtain rfl := so_some h
  refine ⟨Lz8, fun L hL => ?_⟩
  have ez8 := ez8 L (by omega)
  try simp only [go_sem, E_42_l1, R_42_l1, ir37_k0, ir37_o0, ir37_r0, E_42_l2, R_42_l2, ir37_k1, ir37_o1, ir37_r1, z10, z12] at ez8
  simp only [go_sem, ir37, E_42_l1, R_42_l1, ir37_k0, ir37_o0, ir37_r0, E_42_l2, R_42_l2, ir37_k1, ir37_o1, ir37_r1, fz1, fz2, fz3, fz4, fz9, z10, fz11, z12, ez8]
 ·try simp only [go_sem, n1, n2, n3, n4] at z10
  all_goals
  rcases it_some h with ⟨z13, h⟩ | ⟨z13, h⟩
  ·try simp only [go_sem, n1, n2, n3, n4, z10] at z13
   all_goals
   obtain ⟨y_14, z14, h⟩ := bd_some h
   have fz14 := Fs_3 z14
   try simp only [go_sem, z10, z13] at fz14
   obtain ⟨y_17, z17, h⟩ := bd_some h
   obtain ⟨Lz17, ez17⟩ := spec_DrawPlanSlots_l2_ex z17
   obtain rfl := so_some h
   refine ⟨Lz8 + Lz17, fun L hL => ?_⟩
   have ez8 := ez8 L (by omega)
   have ez17 := ez17 L (by omega)
   try simp only [go_sem, E_42_l1, R_42_l1, ir37_k0, ir37_o0, ir37_r0, E_42_l2, R_42_l2, ir37_k1, ir37_o1, ir37_r1, z10, z13] at ez8
   try simp only [go_sem, E_42_l1, R_42_l1, ir37_k0, ir37_o0, ir37_r0, E_42_l2, R_42_l2, ir37_k1, ir37_o1, ir37_r1, z10, z13] at ez17
   simp only [go_sem, ir37, E_42_l1, R_42_l1, ir37_k0, ir37_o0, ir37_r0, E_42_l2, R_42_l2, ir37_k1, ir37_o1, ir37_r1, fz1, fz2, fz3, fz4, fz9, z10, z13, fz14, ez8, ez17]
  ·try simp only [go_sem, n1, n2, n3, n4, z10] at z13
   all_goals
   obtain rfl := so_some h
   refine ⟨Lz8, fun L hL => ?_⟩
   have ez8 := ez8 L (by omega)
   try simp only [go_sem, E_42_l1, R_42_l1, ir37_k0, ir37_o0, ir37_r0, E_42_l2, R_42_l2, ir37_k1, ir37_o1, ir37_r1, z10, z13] at ez8
   simp only [go_sem, ir37, E_42_l1, R_42_l1, ir37_k0, ir37_o0, ir37_r0, E_42_l2, R_42_l2, ir37_k1, ir37_o1, ir37_r1, fz1, fz2, fz3, fz4, fz9, z10, z13, ez8]


def ir161_v : List Nat := [0, 1, 2, 4]
def ir161 : AFn := ⟨3, 4, .seq (.region false [ VO 3 4 (.mov (.c (.bool false)))]) (.seq (.region false [ PM 5 0, PO 6 (.load false 1 (.v 1)), PO 7 (.load false 1 (.v 2)), PO 8 (.call 74 [(.s 2), (.s 1), (.s 0)]), PO 9 (.un .not (.s 0)), VS 3 4 0]) (.ret)), [.t 3]⟩
noncomputable def t_43 : List (Nat × Ctr) := [(74, c_14)]
theorem lk_43_74 : look t_43 74 = some c_14 := rfl
noncomputable def c_43 : Ctr := mkF t_43 ir161 [.bor, .bor, .bor]
theorem s_43 : Sound Tryz.prog 161 c_43 := mkF_sound _ rfl (snd_cons s_14 snd_nil) (by kernel_rfl : chkFn Tryz.prog 161 ir161 ir161_v = true)
theorem M_43 : c_43.modes = [.bor, .bor, .bor] := rfl
theorem Fl_43 : c_43.flat = true := rfl
attribute [go_sem] M_43 Fl_43
attribute [go_sem] lk_43_74
theorem Fs_43 {n : Int} {t1 : Int} {t2 : Int} {y_ : Bool} (h : impl_allIn_c1 n t1 t2 = some y_) : c_43.F [.int .i64 n, .ptr 1 [.int .i64 t1] 0 0, .ptr 1 [.int .i64 t2] 0 0] = ⟨true, .bool y_, [.any, .any, .any]⟩ := by
 refine mkF_E rfl ?_
 dsimp only [impl_allIn_c1] at h
 obtain ⟨y_1, z1, h⟩ := bd_some h
 have fz1 := Fs_14 z1
 try simp only [go_sem] at fz1
 obtain rfl := so_some h
 refine ⟨0, fun L hL => ?_⟩
 simp only [go_sem, ir161, fz1]


def ir179_b0 : IR := .seq (.region false [ VO 6 9 (.bin false .lss (.v 5) (.v 4))]) (.seq (.cond (.v 6) (.skip) (.exit 0)) (.seq (.block 1 (.seq (.region false [ PM 10 5, VS 3 5 0]) (.test false [ PM 11 1, PM 12 0, PM 13 3, PO 14 (.ixAddr 1 (.s 1) (.s 0)), PO 15 (.load false 1 (.s 0)), PO 16 (.callv (.s 4) [(.s 0)])] (.s 0) (.seq (.region false [ PM 17 3, VS 2 4 0]) (.ret)) (.skip)))) (.region false [ PO 18 (.bin false .add (.v 5) (I6 1)), VS 5 8 0])))
def ir179_k0 : List Bool := [true, true, false, false, true, true, false]
def ir179_o0 : List Bool := [false, false, false, false, false, false, false]
def ir179_r0 : List Bool := [false, false, true, false, false, false, false]
def ir179_v : List Nat := [0, 1, 4, 5, 7, 8, 9]
def ir179 : AFn := ⟨2, 7, .seq (.region false [ VO 2 4 (.mov (I6 0))]) (.seq (.seq (.region false [ PM 6 0, VO 4 7 (.len false (.s 0)), VO 5 8 (.mov (I6 0))]) (.block 0 (.loop ir179_k0 ir179_o0 ir179_r0 ir179_b0))) (.seq (.region false [ VO 2 4 (.mov (.c (.int .i64 (-1))))]) (.ret))), [.t 2]⟩
noncomputable def t_44 : List (Nat × Ctr) := [(161, c_43)]
theorem lk_44_161 : look t_44 161 = some c_43 := rfl
noncomputable def c_44 : Ctr := mkF t_44 ir179 [.bor, .bor]
theorem s_44 : Sound Tryz.prog 179 c_44 := mkF_sound _ rfl (snd_cons s_43 snd_nil) (by kernel_rfl : chkFn Tryz.prog 179 ir179 ir179_v = true)
theorem M_44 : c_44.modes = [.bor, .bor] := rfl
theorem Fl_44 : c_44.flat = true := rfl
attribute [go_sem] M_44 Fl_44
attribute [go_sem] lk_44_161
def E_44_l1 (s_ : List Int) (c : Int) (c2 : Int) (t7 : Int) : Int → St
 | t8 => ⟨[.sl 1 (List.map (AV.int .i64) s_), .fn (.func 161) [] [.ptr 1 [.int .i64 c] 0 0, .ptr 1 [.int .i64 c2] 0 0], .any, .any, .int .i64 t7, .int .i64 t8, .any], [], [], true⟩
def R_44_l1 (s_ : List Int) (c : Int) (c2 : Int) (t7 : Int) : (Unit ⊕ Int) → Res
 | .inl y => (.exit 0, ⟨[.any, .any, .any, .any, .any, .any, .any], [], [], true⟩)
 | .inr y => (.ret, ⟨[.any, .any, .int .i64 y, .any, .any, .any, .any], [], [], true⟩)
theorem slices_IndexFunc_int64_int64__impl_allIn_c1_l1_ex {s_ : List Int} {c : Int} {c2 : Int} {t7 : Int} {sgm_ : Int} {rho_ : Unit ⊕ Int} (h : whileE (slices_IndexFunc_int64_int64__impl_allIn_c1_l1 s_ c c2 t7) sgm_ = some rho_) : ∃ L0, ∀ L, L0 ≤ L → iter (exec (look t_44) L ir179_b0) ir179_k0 ir179_o0 ir179_r0 L (E_44_l1 s_ c c2 t7 sgm_) = R_44_l1 s_ c c2 t7 rho_ := by
 refine loop_ex (E := E_44_l1 s_ c c2 t7) (R := R_44_l1 s_ c c2 t7) (fun y => by first | (intro c; cases c) | (rcases y with y | y <;> (intro c; cases c)) | (rcases y with y | y | y <;> (intro c; cases c))) ?_ h
 clear h
 intro t8 o_ h
 dsimp only [slices_IndexFunc_int64_int64__impl_allIn_c1_l1] at h
 rcases it_some h with ⟨z1, h⟩ | ⟨z1, h⟩
 ·try simp only [go_sem, n1, n2, n3, n4] at z1
  all_goals
  obtain ⟨z2, h⟩ := ck_some h
  have lz2 := ix_lt z2
  have xz2 := getD_mapD (AV.int .i64) s_ lz2
  try simp only [go_sem] at lz2
  try simp only [go_sem] at xz2
  try simp only [go_sem, n1, n2, n3, n4, z1] at z2
  all_goals
  obtain ⟨y_3, z3, h⟩ := bd_some h
  have fz3 := Fs_43 z3
  try simp only [go_sem, z1, z2] at fz3
  rcases it_some h with ⟨z4, h⟩ | ⟨z4, h⟩
  ·try simp only [go_sem, n1, n2, n3, n4, z1, z2] at z4
   all_goals
   obtain rfl := so_some h
   refine ⟨0, fun L hL => ?_⟩
   simp only [go_sem, ir179, E_44_l1, R_44_l1, ir179_b0, ir179_k0, ir179_o0, ir179_r0, z1, z2, lz2, xz2, fz3, z4]
  ·try simp only [go_sem, n1, n2, n3, n4, z1, z2] at z4
   all_goals
   obtain rfl := so_some h
   refine ⟨0, fun L hL => ?_⟩
   simp only [go_sem, ir179, E_44_l1, R_44_l1, ir179_b0, ir179_k0, ir179_o0, ir179_r0, z1, z2, lz2, xz2, fz3, z4]
 ·try simp only [go_sem, n1, n2, n3, n4] at z1
  all_goals
  obtain rfl := so_some h
  refine ⟨0, fun L hL => ?_⟩
  simp only [go_sem, ir179, E_44_l1, R_44_l1, ir179_b0, ir179_k0, ir179_o0, ir179_r0, z1]

theorem Fs_44 {s_ : List Int} {f_c0 : Int} {f_c1 : Int} {y_ : Int} (h : slices_IndexFunc_int64_int64__impl_allIn_c1 s_ f_c0 f_c1 = some y_) : c_44.F [.sl 1 (List.map (AV.int .i64) s_), .fn (.func 161) [] [.ptr 1 [.int .i64 f_c0] 0 0, .ptr 1 [.int .i64 f_c1] 0 0]] = ⟨true, .int .i64 y_, [.any, .any]⟩ := by
 refine mkF_E rfl ?_
 dsimp only [slices_IndexFunc_int64_int64__impl_allIn_c1] at h
 obtain ⟨y_5, z5, h⟩ := bd_some h
 obtain ⟨Lz5, ez5⟩ := slices_IndexFunc_int64_int64__impl_allIn_c1_l1_ex z5
 rcases y_5 with y_5a | y_5b
 ·dsimp only at h
  obtain rfl := so_some h
  refine ⟨Lz5, fun L hL => ?_⟩
  have ez5 := ez5 L (by omega)
  try simp only [go_sem, E_44_l1, R_44_l1, ir179_k0, ir179_o0, ir179_r0] at ez5
  simp only [go_sem, ir179, E_44_l1, R_44_l1, ir179_k0, ir179_o0, ir179_r0, ez5]
 ·dsimp only at h
  obtain rfl := so_some h
  refine ⟨Lz5, fun L hL => ?_⟩
  have ez5 := ez5 L (by omega)
  try simp only [go_sem, E_44_l1, R_44_l1, ir179_k0, ir179_o0, ir179_r0] at ez5
  simp only [go_sem, ir179, E_44_l1, R_44_l1, ir179_k0, ir179_o0, ir179_r0, ez5]


def ir160_v : List Nat := [0, 1, 4]
def ir160 : AFn := ⟨2, 3, .seq (.region false [ VO 2 4 (.mov (.c (.bool false)))]) (.seq (.region false [ PM 5 0, PM 6 1, PO 7 (.call 179 [(.s 1), (.s 0)]), PO 8 (.bin false .geq (.s 0) (I6 0)), VS 2 4 0]) (.ret)), [.t 2]⟩
noncomputable def t_45 : List (Nat × Ctr) := [(179, c_44)]
theorem lk_45_179 : look t_45 179 = some c_44 := rfl
noncomputable def c_45 : Ctr := mkF t_45 ir160 [.bor, .bor]
theorem s_45 : Sound Tryz.prog 160 c_45 := mkF_sound _ rfl (snd_cons s_44 snd_nil) (by kernel_rfl : chkFn Tryz.prog 160 ir160 ir160_v = true)
theorem M_45 : c_45.modes = [.bor, .bor] := rfl
theorem Fl_45 : c_45.flat = true := rfl
attribute [go_sem] M_45 Fl_45
attribute [go_sem] lk_45_179
theorem Fs_45 {s_ : List Int} {f_c0 : Int} {f_c1 : Int} {y_ : Bool} (h : slices_ContainsFunc_int64_int64__impl_allIn_c1 s_ f_c0 f_c1 = some y_) : c_45.F [.sl 1 (List.map (AV.int .i64) s_), .fn (.func 161) [] [.ptr 1 [.int .i64 f_c0] 0 0, .ptr 1 [.int .i64 f_c1] 0 0]] = ⟨true, .bool y_, [.any, .any]⟩ := by
 refine mkF_E rfl ?_
 dsimp only [slices_ContainsFunc_int64_int64__impl_allIn_c1] at h
 obtain ⟨y_1, z1, h⟩ := bd_some h
 have fz1 := Fs_44 z1
 try simp only [go_sem] at fz1
 obtain rfl := so_some h
 refine ⟨0, fun L hL => ?_⟩
 simp only [go_sem, ir160, fz1]


def ir137_v : List Nat := [0, 1, 2, 4, 5, 6]
def ir137 : AFn := ⟨3, 6, .seq (.region false [ VO 3 4 (.box (.v 1)), VO 4 5 (.box (.v 2)), VO 5 6 (.mov (.c (.bool false)))]) (.seq (.region false [ PM 7 0, PO 8 (.mkFn (.func 161) [] [(.v 3), (.v 4)]), PO 9 (.call 160 [(.s 1), (.s 0)]), PO 10 (.un .not (.s 0)), VS 5 6 0]) (.ret)), [.t 5]⟩
noncomputable def t_46 : List (Nat × Ctr) := [(160, c_45)]
theorem lk_46_160 : look t_46 160 = some c_45 := rfl
noncomputable def c_46 : Ctr := mkF t_46 ir137 [.bor, .bor, .bor]
theorem s_46 : Sound Tryz.prog 137 c_46 := mkF_sound _ rfl (snd_cons s_45 snd_nil) (by kernel_rfl : chkFn Tryz.prog 137 ir137 ir137_v = true)
theorem M_46 : c_46.modes = [.bor, .bor, .bor] := rfl
theorem Fl_46 : c_46.flat = true := rfl
attribute [go_sem] M_46 Fl_46
attribute [go_sem] lk_46_160
theorem Fs_46 {list : List Int} {low : Int} {high : Int} {y_ : Bool} (h : impl_allIn list low high = some y_) : c_46.F [.sl 1 (List.map (AV.int .i64) list), .int .i64 low, .int .i64 high] = ⟨true, .bool y_, [.any, .any, .any]⟩ := by
 refine mkF_E rfl ?_
 dsimp only [impl_allIn] at h
 obtain ⟨y_1, z1, h⟩ := bd_some h
 have fz1 := Fs_45 z1
 try simp only [go_sem] at fz1
 obtain rfl := so_some h
 refine ⟨0, fun L hL => ?_⟩
 simp only [go_sem, ir137, fz1]


def ir99_b0 : IR := .seq (.test false [ PM 15 3, PM 16 0, PO 17 (.len false (.s 0)), PO 18 (.bin false .lss (.s 2) (.s 0))] (.s 0) (.skip) (.exit 0)) (.seq (.block 1 (.anyo 10 [ SO 0 21 (.mov (.v 0)), SO 1 22 (.mov (.v 3)), SO 2 23 (.bin false .sub (.s 1) (I6 1)), SO 3 24 (.ixAddr 1 (.s 0) (.s 2)), SO 4 25 (.load false 1 (.s 3)), SO 5 26 (.mov (.v 0)), SO 6 27 (.mov (.v 3)), SO 7 28 (.ixAddr 1 (.s 5) (.s 6)), SO 8 29 (.load false 1 (.s 7)), SO 9 30 (.bin false .geq (.s 4) (.s 8))] [] (.cond (.s 9) (.seq (.region false [ VO 2 4 (.mov (.c (.bool false)))]) (.ret)) (.skip)))) (.region false [ PM
 19 3, PO 20 (.bin false .add (.s 0) (I6 1)), VS 3 5 0]))
def ir99_k0 : List Bool := [true, false, false, true]
def ir99_o0 : List Bool := [false, false, false, false]
def ir99_r0 : List Bool := [false, false, true, false]
def ir99_v : List Nat := [0, 1, 4, 5]
def ir99 : AFn := ⟨2, 4, .seq (.region false [ VO 2 4 (.mov (.c (.bool false)))]) (.seq (.test false [ PM 6 0, PO 7 (.len false (.s 0)), PM 8 1, PO 9 (.bin false .gtr (.s 1) (.s 0)), PO 10 (.mov (.s 0)), ⟨.push, 11, (some ((.s 0), false)), .mov (.v 0)⟩, ⟨.push, 12, (some ((.s 1), false)), .call 137 [(.s 0), (I6 0), (I6 10000000)]⟩, ⟨.push, 13, (some ((.s 2), false)), .un .not (.s 0)⟩, PO 14 (.pick (.s 3) (.c (.bool true)) (.s 0))] (.s 0) (.seq (.region false [ VO 2 4 (.mov (.c (.bool false)))]) (.ret)) (.skip)) (.seq (.seq (.region false [ VO 3 5 (.mov (I6 1))]) (.block 0 (.loop ir99_k0 ir99_o0
 ir99_r0 ir99_b0))) (.seq (.region false [ VO 2 4 (.mov (.c (.bool true)))]) (.ret)))), [.t 2]⟩
noncomputable def t_47 : List (Nat × Ctr) := [(137, c_46)]
theorem lk_47_137 : look t_47 137 = some c_46 := rfl
noncomputable def c_47 : Ctr := mkF t_47 ir99 [.bor, .bor]
theorem s_47 : Sound Tryz.prog 99 c_47 := mkF_sound _ rfl (snd_cons s_46 snd_nil) (by kernel_rfl : chkFn Tryz.prog 99 ir99 ir99_v = true)
theorem M_47 : c_47.modes = [.bor, .bor] := rfl
theorem Fl_47 : c_47.flat = true := rfl
attribute [go_sem] M_47 Fl_47
attribute [go_sem] lk_47_137
def E_47_l1 (list : List Int) : Int → St
 | i => ⟨[.sl 1 (List.map (AV.int .i64) list), .any, .any, .int .i64 i], [], [], true⟩
def R_47_l1 (list : List Int) : (Unit ⊕ Bool) → Res
 | .inl y => (.exit 0, ⟨[.any, .any, .any, .any], [], [], true⟩)
 | .inr y => (.ret, ⟨[.any, .any, .bool y, .any], [], [], true⟩)
theorem impl_areTimes_l1_ex {list : List Int} {sgm_ : Int} {rho_ : Unit ⊕ Bool} (h : whileE (impl_areTimes_l1 list) sgm_ = some rho_) : ∃ L0, ∀ L, L0 ≤ L → iter (exec (look t_47) L ir99_b0) ir99_k0 ir99_o0 ir99_r0 L (E_47_l1 list sgm_) = R_47_l1 list rho_ := by
 refine loop_ex (E := E_47_l1 list) (R := R_47_l1 list) (fun y => by first | (intro c; cases c) | (rcases y with y | y <;> (intro c; cases c)) | (rcases y with y | y | y <;> (intro c; cases c))) ?_ h
 clear h
 intro i o_ h
 dsimp only [impl_areTimes_l1] at h
 rcases it_some h with ⟨z3, h⟩ | ⟨z3, h⟩
 ·try simp only [go_sem, n1, n2, n3, n4] at z3
  all_goals
  obtain ⟨z4, h⟩ := ck_some h
  have lz4 := ix_lt z4
  have xz4 := getD_mapD (AV.int .i64) list lz4
  try simp only [go_sem] at lz4
  try simp only [go_sem] at xz4
  try simp only [go_sem, n1, n2, n3, n4, z3] at z4
  all_goals
  obtain ⟨z5, h⟩ := ck_some h
  have lz5 := ix_lt z5
  have xz5 := getD_mapD (AV.int .i64) list lz5
  try simp only [go_sem] at lz5
  try simp only [go_sem] at xz5
  try simp only [go_sem, n1, n2, n3, n4, z3, z4] at z5
  all_goals
  rcases it_some h with ⟨z6, h⟩ | ⟨z6, h⟩
  ·try simp only [go_sem, n1, n2, n3, n4, z3, z4, z5] at z6
   all_goals
   obtain rfl := so_some h
   refine ⟨0, fun L hL => ?_⟩
   simp only [go_sem, ir99, E_47_l1, R_47_l1, ir99_b0, ir99_k0, ir99_o0, ir99_r0, z3, z4, lz4, xz4, z5, lz5, xz5, z6]
  ·try simp only [go_sem, n1, n2, n3, n4, z3, z4, z5] at z6
   all_goals
   obtain rfl := so_some h
   refine ⟨0, fun L hL => ?_⟩
   simp only [go_sem, ir99, E_47_l1, R_47_l1, ir99_b0, ir99_k0, ir99_o0, ir99_r0, z3, z4, lz4, xz4, z5, lz5, xz5, z6]
 ·try simp only [go_sem, n1, n2, n3, n4] at z3
  all_goals
  obtain rfl := so_some h
  refine ⟨0, fun L hL => ?_⟩
  simp only [go_sem, ir99, E_47_l1, R_47_l1, ir99_b0, ir99_k0, ir99_o0, ir99_r0, z3]

theorem Fs_47 {list : List Int} {most : Int} {y_ : Bool} (h : impl_areTimes list most = some y_) : c_47.F [.sl 1 (List.map (AV.int .i64) list), .int .i64 most] = ⟨true, .bool y_, [.any, .any]⟩ := by
 refine mkF_E rfl ?_
 dsimp only [impl_areTimes] at h
 obtain ⟨z1, h⟩ := ck_some h
 rcases or_split z1 with ⟨gz1, z1⟩ | gz1
 ·try simp only [go_sem, n1, n2, n3, n4] at gz1
  all_goals
  obtain ⟨y_1, hz1⟩ := Option.isSome_iff_exists.1 z1
  have fz1 := Fs_46 hz1
  try simp only [go_sem, n1, n2, n3, n4, gz1] at hz1
  all_goals
  try simp only [go_sem, gz1] at fz1
  rcases it_some h with ⟨z2, h⟩ | ⟨z2, h⟩
  ·try simp only [go_sem, n1, n2, n3, n4, gz1, hz1] at z2
   all_goals
   obtain rfl := so_some h
   refine ⟨0, fun L hL => ?_⟩
   simp only [go_sem, ir99, E_47_l1, R_47_l1, ir99_k0, ir99_o0, ir99_r0, gz1, hz1, fz1, z2]
  ·try simp only [go_sem, n1, n2, n3, n4, gz1, hz1] at z2
   all_goals
   obtain ⟨y_7, z7, h⟩ := bd_some h
   obtain ⟨Lz7, ez7⟩ := impl_areTimes_l1_ex z7
   rcases y_7 with y_7a | y_7b
   ·dsimp only at h
    obtain rfl := so_some h
    refine ⟨Lz7, fun L hL => ?_⟩
    have ez7 := ez7 L (by omega)
    try simp only [go_sem, E_47_l1, R_47_l1, ir99_k0, ir99_o0, ir99_r0, gz1, hz1, z2] at ez7
    simp only [go_sem, ir99, E_47_l1, R_47_l1, ir99_k0, ir99_o0, ir99_r0, gz1, hz1, fz1, z2, ez7]
   ·dsimp only at h
    obtain rfl := so_some h
    refine ⟨Lz7, fun L hL => ?_⟩
    have ez7 := ez7 L (by omega)
    try simp only [go_sem, E_47_l1, R_47_l1, ir99_k0, ir99_o0, ir99_r0, gz1, hz1, z2] at ez7
    simp only [go_sem, ir99, E_47_l1, R_47_l1, ir99_k0, ir99_o0, ir99_r0, gz1, hz1, fz1, z2, ez7]
 ·have gz1n := no_f gz1
  try simp only [go_sem, n1, n2, n3, n4] at gz1n
  all_goals
  rcases it_some h with ⟨z2, h⟩ | ⟨z2, h⟩
  ·try simp only [go_sem, n1, n2, n3, n4, gz1n] at z2
   all_goals
   obtain rfl := so_some h
   refine ⟨0, fun L hL => ?_⟩
   simp only [go_sem, ir99, E_47_l1, R_47_l1, ir99_k0, ir99_o0, ir99_r0, gz1n, z2]
  ·try simp only [go_sem, n1, n2, n3, n4, gz1n] at z2
   all_goals
   (simp_all)


def ir100_v : List Nat := [0, 2]
def ir100 : AFn := ⟨1, 2, .seq (.region false [ VO 1 2 (.newnil 6)]) (.seq (.region false [ PO 3 (.mkSl 6 (.agg [.str [], .int .i64 (0), .int .i64 (0), .int .i64 (0), .int .i64 (0), .int .i64 (0)]) 0 []), PM 4 0, PO 5 (.app 6 56 (.agg [.str [], .int .i64 (0), .int .i64 (0), .int .i64 (0), .int .i64 (0), .int .i64 (0)]) (.s 1) (.s 0)), VS 1 2 0]) (.ret)), [.t 1]⟩
noncomputable def t_48 : List (Nat × Ctr) := []
noncomputable def c_48 : Ctr := mkF t_48 ir100 [.bor]
theorem s_48 : Sound Tryz.prog 100 c_48 := mkF_sound _ rfl snd_nil (by kernel_rfl : chkFn Tryz.prog 100 ir100 ir100_v = true)
theorem M_48 : c_48.modes = [.bor] := rfl
theorem Fl_48 : c_48.flat = true := rfl
attribute [go_sem] M_48 Fl_48
theorem Fs_48 {list : List Request} {y_ : (List Request)} (h : impl_copyOf_impl_Request list = some y_) : c_48.F [.sl 6 (List.map Request_av list)] = ⟨true, .fresh 6 (List.map Request_av y_), [.any]⟩ := by
 refine mkF_E (by simp only [flatA, flatB, flat1, List.all_cons, List.all_nil, Bool.and_self, flatE_map (f := Request_av) (fun _ => rfl)]) ?_
 dsimp only [impl_copyOf_impl_Request] at h
 obtain ⟨z1, h⟩ := ck_some h
 try simp only [go_sem, n1, n2, n3, n4] at z1
 all_goals
 obtain rfl := so_some h
 refine ⟨0, fun L hL => ?_⟩
 simp only [go_sem, ir100, z1]


def ir38_b0 : IR := .seq (.region false [ VO 11 25 (.bin false .lss (.v 10) (.v 9))]) (.seq (.cond (.v 11) (.skip) (.exit 1)) (.seq (.block 2 (.seq (.region false [ PO 26 (.ixAddr 1 (.v 8) (.v 10)), PO 27 (.load false 1 (.s 0)), VS 6 9 0]) (.seq (.region false [ PM 28 4, PM 29 6, PO 30 (.call 92 [(.s 1), (.s 0)]), VS 7 10 0]) (.seq (.test false [ PM 31 7, PO 32 (.bin false .geq (.s 0) (I6 0))] (.s 0) (.region false [ PM 33 4, PM 34 7, PO 35 (.ixAddr 6 (.s 1) (.s 0)), PO 36 (.fldAddr 4 (.s 0)), PO 37 (.load false 1 (.s 0)), PO 38 (.bin false .add (.s 0) (I6 1)), PO 39 (.ixAddr 6 (.s 5) (.s 4)),
 PO 40 (.fldAddr 4 (.s 0)), ⟨.no, 0, none, .store 1 (.s 0) (.s 2)⟩]) (.skip)) (.region false [ PM 41 5, PM 42 7, PO 43 (.mkSl 1 (.int .i64 (0)) 1 [(0, (.s 0))]), PO 44 (.app 1 8 (.int .i64 (0)) (.s 2) (.s 0)), VS 5 7 0]))))) (.region false [ PO 45 (.bin false .add (.v 10) (I6 1)), VS 10 24 0])))
def ir38_k0 : List Bool := [false, false, false, false, true, true, false, false, true, true, true, false]
def ir38_o0 : List Bool := [false, false, false, false, false, true, false, false, false, false, false, false]
def ir38_r0 : List Bool := [false, false, true, true, false, false, false, false, false, false, false, false]
def ir38_v : List Nat := [0, 1, 4, 5, 6, 7, 9, 10, 22, 23, 24, 25]
def ir38 : AFn := ⟨2, 12, .seq (.region false [ VO 2 4 (.newnil 1), VO 3 5 (.mov (I6 0))]) (.seq (.block 0 (.test false [ PM 12 0, PO 13 (.call 52 [(.s 0)]), PO 14 (.un .not (.s 0)), PO 11 (.mov (.s 0))] (.s 0) (.seq (.region false [ VO 2 4 (.newnil 1), VO 3 5 (.mov (I6 1))]) (.ret)) (.test false [ PM 16 1, PO 17 (.call 99 [(.s 0), (I6 100)]), PO 18 (.un .not (.s 0)), PO 15 (.mov (.s 0))] (.s 0) (.seq (.region false [ VO 2 4 (.newnil 1), VO 3 5 (.mov (I6 2))]) (.ret)) (.skip)))) (.seq (.region false [ PM 19 0, PO 20 (.call 100 [(.s 0)]), PO 21 (.mkSl 1 (.int .i64 (0)) 0 []), VS 4 6 1, VS 5 7
 0]) (.seq (.seq (.region false [ VO 8 22 (.mov (.v 1)), VO 9 23 (.len false (.v 8)), VO 10 24 (.mov (I6 0))]) (.block 1 (.loop ir38_k0 ir38_o0 ir38_r0 ir38_b0))) (.seq (.region false [ PM 46 5, VS 2 4 0, VO 3 5 (.mov (I6 0))]) (.ret))))), [.t 2, .t 3]⟩
noncomputable def t_49 : List (Nat × Ctr) := [(52, c_21), (99, c_47), (100, c_48), (92, c_24)]
theorem lk_49_52 : look t_49 52 = some c_21 := rfl
theorem lk_49_99 : look t_49 99 = some c_47 := rfl
theorem lk_49_100 : look t_49 100 = some c_48 := rfl
theorem lk_49_92 : look t_49 92 = some c_24 := rfl
noncomputable def c_49 : Ctr := mkF t_49 ir38 [.bor, .bor]
theorem s_49 : Sound Tryz.prog 38 c_49 := mkF_sound _ rfl (snd_cons s_21 (snd_cons s_47 (snd_cons s_48 (snd_cons s_24 snd_nil)))) (by kernel_rfl : chkFn Tryz.prog 38 ir38 ir38_v = true)
theorem M_49 : c_49.modes = [.bor, .bor] := rfl
theorem Fl_49 : c_49.flat = true := rfl
attribute [go_sem] M_49 Fl_49
attribute [go_sem] lk_49_52 lk_49_99 lk_49_100 lk_49_92
def E_49_l1 (t22 : List Int) (t23 : Int) : ((List Request) × (List Int) × Int) → St
 | (left_, out, t24) => ⟨[.any, .any, .any, .any, .own 3200000, .own 3200032, .any, .any, .sl 1 (List.map (AV.int .i64) t22), .int .i64 t23, .int .i64 t24, .any], [], [(3200000, ⟨6, List.map Request_av left_⟩), (3200032, ⟨1, List.map (AV.int .i64) out⟩)], true⟩
def R_49_l1 (t22 : List Int) (t23 : Int) (y : (List Int)) : Res := (.exit 1, ⟨[.any, .any, .any, .any, .any, .own 3200000, .any, .any, .any, .any, .any, .any], [], [(3200000, ⟨1, List.map (AV.int .i64) y⟩)], true⟩)
theorem impl_PlanSlots_l1_ex {t22 : List Int} {t23 : Int} {sgm_ : (List Request) × (List Int) × Int} {rho_ : (List Int)} (h : whileE (impl_PlanSlots_l1 t22 t23) sgm_ = some rho_) : ∃ L0, ∀ L, L0 ≤ L → iter (exec (look t_49) L ir38_b0) ir38_k0 ir38_o0 ir38_r0 L (E_49_l1 t22 t23 sgm_) = R_49_l1 t22 t23 rho_ := by
 refine loop_ex (E := E_49_l1 t22 t23) (R := R_49_l1 t22 t23) (fun y => by first | (intro c; cases c) | (rcases y with y | y <;> (intro c; cases c)) | (rcases y with y | y | y <;> (intro c; cases c))) ?_ h
 clear h
 rintro ⟨left_, out, t24⟩ o_ h
 dsimp only [impl_PlanSlots_l1] at h
 rcases it_some h with ⟨z6, h⟩ | ⟨z6, h⟩
 ·try simp only [go_sem, n1, n2, n3, n4] at z6
  all_goals
  obtain ⟨z7, h⟩ := ck_some h
  have lz7 := ix_lt z7
  have xz7 := getD_mapD (AV.int .i64) t22 lz7
  try simp only [go_sem] at lz7
  try simp only [go_sem] at xz7
  try simp only [go_sem, n1, n2, n3, n4, z6] at z7
  all_goals
  obtain ⟨y_8, z8, h⟩ := bd_some h
  have fz8 := Fs_24 z8
  try simp only [go_sem, z6, z7] at fz8
  rcases it_some h with ⟨z9, h⟩ | ⟨z9, h⟩
  ·try simp only [go_sem, n1, n2, n3, n4, z6, z7] at z9
   all_goals
   obtain ⟨z10, h⟩ := ck_some h
   have lz10 := ix_lt z10
   have xz10 := getD_mapD Request_av left_ lz10
   try simp only [go_sem] at lz10
   try simp only [go_sem] at xz10
   try simp only [go_sem, n1, n2, n3, n4, z6, z7, z9] at z10
   all_goals
   obtain ⟨z11, h⟩ := ck_some h
   try simp only [go_sem, n1, n2, n3, n4, z6, z7, z9, z10] at z11
   all_goals
   obtain rfl := so_some h
   refine ⟨0, fun L hL => ?_⟩
   simp only [go_sem, ir38, E_49_l1, R_49_l1, ir38_b0, ir38_k0, ir38_o0, ir38_r0, z6, z7, lz7, xz7, fz8, z9, z10, lz10, xz10, z11]
  ·try simp only [go_sem, n1, n2, n3, n4, z6, z7] at z9
   all_goals
   obtain ⟨z12, h⟩ := ck_some h
   try simp only [go_sem, n1, n2, n3, n4, z6, z7, z9] at z12
   all_goals
   obtain rfl := so_some h
   refine ⟨0, fun L hL => ?_⟩
   simp only [go_sem, ir38, E_49_l1, R_49_l1, ir38_b0, ir38_k0, ir38_o0, ir38_r0, z6, z7, lz7, xz7, fz8, z9, z12]
 ·try simp only [go_sem, n1, n2, n3, n4] at z6
  all_goals
  obtain rfl := so_some h
  refine ⟨0, fun L hL => ?_⟩
  simp only [go_sem, ir38, E_49_l1, R_49_l1, ir38_b0, ir38_k0, ir38_o0, ir38_r0, z6]

theorem Fs_49 {list : List Request} {slots : List Int} {y_ : (List Int) × Int} (h : impl_PlanSlots list slots = some y_) : c_49.F [.sl 6 (List.map Request_av list), .sl 1 (List.map (AV.int .i64) slots)] = ⟨true, .tup [.fresh 1 (List.map (AV.int .i64) y_.1), .int .i64 y_.2], [.any, .any]⟩ := by
 refine mkF_E (by simp only [flatA, flatB, flat1, List.all_cons, List.all_nil, Bool.and_self, flatE_map (f := (AV.int .i64)) (fun _ => rfl)]) ?_
 dsimp only [impl_PlanSlots] at h
 obtain ⟨y_1, z1, h⟩ := bd_some h
 have fz1 := Fs_21 z1
 try simp only [go_sem] at fz1
 rcases it_some h with ⟨z2, h⟩ | ⟨z2, h⟩
 ·try simp only [go_sem, n1, n2, n3, n4] at z2
  all_goals
  obtain rfl := so_some h
  refine ⟨0, fun L hL => ?_⟩
  simp only [go_sem, ir38, E_49_l1, R_49_l1, ir38_k0, ir38_o0, ir38_r0, fz1, z2]
 ·try simp only [go_sem, n1, n2, n3, n4] at z2
  all_goals
  obtain ⟨y_3, z3, h⟩ := bd_some h
  have fz3 := Fs_47 z3
  try simp only [go_sem, z2] at fz3
  rcases it_some h with ⟨z4, h⟩ | ⟨z4, h⟩
  ·try simp only [go_sem, n1, n2, n3, n4, z2] at z4
   all_goals
   obtain rfl := so_some h
   refine ⟨0, fun L hL => ?_⟩
   simp only [go_sem, ir38, E_49_l1, R_49_l1, ir38_k0, ir38_o0, ir38_r0, fz1, z2, fz3, z4]
  ·try simp only [go_sem, n1, n2, n3, n4, z2] at z4
   all_goals
   obtain ⟨y_5, z5, h⟩ := bd_some h
   have fz5 := Fs_48 z5
   try simp only [go_sem, z2, z4] at fz5
   obtain ⟨y_13, z13, h⟩ := bd_some h
   obtain ⟨Lz13, ez13⟩ := impl_PlanSlots_l1_ex z13
   obtain rfl := so_some h
   refine ⟨Lz13, fun L hL => ?_⟩
   have ez13 := ez13 L (by omega)
   try simp only [go_sem, E_49_l1, R_49_l1, ir38_k0, ir38_o0, ir38_r0, z2, z4] at ez13
   simp only [go_sem, ir38, E_49_l1, R_49_l1, ir38_k0, ir38_o0, ir38_r0, fz1, z2, fz3, z4, fz5, ez13]


def ir102_b0 : IR := .seq (.test false [ PM 8 4, PM 9 0, PO 10 (.len false (.s 0)), PO 11 (.bin false .lss (.s 2) (.s 0))] (.s 0) (.skip) (.exit 0)) (.seq (.block 1 (.anyo 24 [ SO 0 14 (.mov (.v 0)), SO 1 15 (.mov (.v 4)), SO 2 16 (.ixAddr 1 (.s 0) (.s 1)), SO 3 17 (.load false 1 (.s 2)), SO 4 18 (.mov (.v 1)), SO 5 19 (.mov (.v 2)), SO 6 20 (.callp 76 [(.s 3), (.s 4), (.s 5)]), SO 7 21 (.un .not (.s 6)), SO 8 22 (.mov (.s 7)), ⟨.slot 9, 23, (some ((.s 8), false)), .mov (.v 4)⟩, ⟨.slot 10, 24, (some ((.s 8), false)), .bin false .gtr (.s 9) (I6 0)⟩, ⟨.slot 11, 25, (some ((.s 8), false)), .mov
 (.s 10)⟩, ⟨.slot 12, 26, (some ((.s 11), true)), .mov (.v 0)⟩, ⟨.slot 13, 27, (some ((.s 11), true)), .mov (.v 4)⟩, ⟨.slot 14, 28, (some ((.s 11), true)), .bin false .sub (.s 13) (I6 1)⟩, ⟨.slot 15, 29, (some ((.s 11), true)), .ixAddr 1 (.s 12) (.s 14)⟩, ⟨.slot 16, 30, (some ((.s 11), true)), .load false 1 (.s 15)⟩, ⟨.slot 17, 31, (some ((.s 11), true)), .mov (.v 0)⟩, ⟨.slot 18, 32, (some ((.s 11), true)), .mov (.v 4)⟩, ⟨.slot 19, 33, (some ((.s 11), true)), .ixAddr 1 (.s 17) (.s 18)⟩, ⟨.slot 20, 34, (some ((.s 11), true)), .load false 1 (.s 19)⟩, ⟨.slot 21, 35, (some ((.s 11), true)), .bin
 false .geq (.s 16) (.s 20)⟩, ⟨.slot 22, 36, (some ((.s 8), false)), .pick (.s 11) (.s 21) (.c (.bool false))⟩, SO 23 37 (.pick (.s 8) (.c (.bool true)) (.s 22))] [] (.cond (.s 23) (.seq (.region false [ VO 3 6 (.mov (.c (.bool false)))]) (.ret)) (.skip)))) (.region false [ PM 12 4, PO 13 (.bin false .add (.s 0) (I6 1)), VS 4 7 0]))
def ir102_k0 : List Bool := [true, true, true, false, true]
def ir102_o0 : List Bool := [false, false, false, false, false]
def ir102_r0 : List Bool := [false, false, false, true, false]
def ir102_v : List Nat := [0, 1, 2, 6, 7]
def ir102 : AFn := ⟨3, 5, .seq (.region false [ VO 3 6 (.mov (.c (.bool false)))]) (.seq (.seq (.region false [ VO 4 7 (.mov (I6 0))]) (.block 0 (.loop ir102_k0 ir102_o0 ir102_r0 ir102_b0))) (.seq (.region false [ VO 3 6 (.mov (.c (.bool true)))]) (.ret))), [.t 3]⟩
noncomputable def t_50 : List (Nat × Ctr) := [(76, c_29)]
theorem lk_50_76 : look t_50 76 = some c_29 := rfl
noncomputable def c_50 : Ctr := mkF t_50 ir102 [.bor, .bor, .bor]
theorem s_50 : Sound Tryz.prog 102 c_50 := mkF_sound _ rfl (snd_cons s_29 snd_nil) (by kernel_rfl : chkFn Tryz.prog 102 ir102 ir102_v = true)
theorem M_50 : c_50.modes = [.bor, .bor, .bor] := rfl
theorem Fl_50 : c_50.flat = true := rfl
attribute [go_sem] M_50 Fl_50
attribute [go_sem] lk_50_76
def E_50_l1 (list : List Int) (low : Int) (high : Int) : Int → St
 | i => ⟨[.sl 1 (List.map (AV.int .i64) list), .int .i64 low, .int .i64 high, .any, .int .i64 i], [], [], true⟩
def R_50_l1 (list : List Int) (low : Int) (high : Int) : (Unit ⊕ Bool) → Res
 | .inl y => (.exit 0, ⟨[.any, .any, .any, .any, .any], [], [], true⟩)
 | .inr y => (.ret, ⟨[.any, .any, .any, .bool y, .any], [], [], true⟩)
theorem spec_l00Rises_l1_ex {list : List Int} {low : Int} {high : Int} {sgm_ : Int} {rho_ : Unit ⊕ Bool} (h : whileE (spec_l00Rises_l1 list low high) sgm_ = some rho_) : ∃ L0, ∀ L, L0 ≤ L → iter (exec (look t_50) L ir102_b0) ir102_k0 ir102_o0 ir102_r0 L (E_50_l1 list low high sgm_) = R_50_l1 list low high rho_ := by
 refine loop_ex (E := E_50_l1 list low high) (R := R_50_l1 list low high) (fun y => by first | (intro c; cases c) | (rcases y with y | y <;> (intro c; cases c)) | (rcases y with y | y | y <;> (intro c; cases c))) ?_ h
 clear h
 intro i o_ h
 dsimp only [spec_l00Rises_l1] at h
 rcases it_some h with ⟨z1, h⟩ | ⟨z1, h⟩
 ·try simp only [go_sem, n1, n2, n3, n4] at z1
  all_goals
  obtain ⟨z2, h⟩ := ck_some h
  have lz2 := ix_lt z2
  have xz2 := getD_mapD (AV.int .i64) list lz2
  try simp only [go_sem] at lz2
  try simp only [go_sem] at xz2
  try simp only [go_sem, n1, n2, n3, n4, z1] at z2
  all_goals
  obtain ⟨y_3, z3, h⟩ := bd_some h
  have fz3 := Fs_29 z3
  try simp only [go_sem, z1, z2] at fz3
  obtain ⟨z4, h⟩ := ck_some h
  rcases or_split z4 with ⟨gz4, z4⟩ | gz4
  ·try simp only [go_sem, n1, n2, n3, n4, z1, z2] at gz4
   all_goals
   have lz4 := ix_lt z4
   have xz4 := getD_mapD (AV.int .i64) list lz4
   try simp only [go_sem] at lz4
   try simp only [go_sem] at xz4
   try simp only [go_sem, n1, n2, n3, n4, z1, z2, gz4] at z4
   all_goals
   rcases it_some h with ⟨z5, h⟩ | ⟨z5, h⟩
   ·try simp only [go_sem, n1, n2, n3, n4, z1, z2, gz4, z4] at z5
    all_goals
    obtain rfl := so_some h
    refine ⟨0, fun L hL => ?_⟩
    simp only [go_sem, ir102, E_50_l1, R_50_l1, ir102_b0, ir102_k0, ir102_o0, ir102_r0, z1, z2, lz2, xz2, fz3, gz4, z4, lz4, xz4, z5]
   ·try simp only [go_sem, n1, n2, n3, n4, z1, z2, gz4, z4] at z5
    all_goals
    obtain rfl := so_some h
    refine ⟨0, fun L hL => ?_⟩
    simp only [go_sem, ir102, E_50_l1, R_50_l1, ir102_b0, ir102_k0, ir102_o0, ir102_r0, z1, z2, lz2, xz2, fz3, gz4, z4, lz4, xz4, z5]
  ·rcases and_f gz4 with gz4a | ⟨gz4a, gz4b⟩
   ·have gz4an := no_f gz4a
    have gz4ann := no_t gz4an
    try simp only [go_sem, n1, n2, n3, n4, z1, z2] at gz4ann
    all_goals
    rcases it_some h with ⟨z5, h⟩ | ⟨z5, h⟩
    ·try simp only [go_sem, n1, n2, n3, n4, z1, z2, gz4ann] at z5
     all_goals
     obtain rfl := so_some h
     refine ⟨0, fun L hL => ?_⟩
     simp only [go_sem, ir102, E_50_l1, R_50_l1, ir102_b0, ir102_k0, ir102_o0, ir102_r0, z1, z2, lz2, xz2, fz3, gz4ann, z5]
    ·try simp only [go_sem, n1, n2, n3, n4, z1, z2, gz4ann] at z5
     all_goals
     (simp_all)
   ·have gz4an := no_t gz4a
    have gz4ann := no_f gz4an
    try simp only [go_sem, n1, n2, n3, n4, z1, z2] at gz4ann
    all_goals
    try simp only [go_sem, n1, n2, n3, n4, z1, z2, gz4ann] at gz4b
    all_goals
    rcases it_some h with ⟨z5, h⟩ | ⟨z5, h⟩
    ·try simp only [go_sem, n1, n2, n3, n4, z1, z2, gz4ann, gz4b] at z5
     all_goals
     (simp_all)
    ·try simp only [go_sem, n1, n2, n3, n4, z1, z2, gz4ann, gz4b] at z5
     all_goals
     obtain rfl := so_some h
     refine ⟨0, fun L hL => ?_⟩
     simp only [go_sem, ir102, E_50_l1, R_50_l1, ir102_b0, ir102_k0, ir102_o0, ir102_r0, z1, z2, lz2, xz2, fz3, gz4ann, gz4b, z5]
 ·try simp only [go_sem, n1, n2, n3, n4] at z1
  all_goals
  obtain rfl := so_some h
  refine ⟨0, fun L hL => ?_⟩
  simp only [go_sem, ir102, E_50_l1, R_50_l1, ir102_b0, ir102_k0, ir102_o0, ir102_r0, z1]

theorem Fs_50 {list : List Int} {low : Int} {high : Int} {y_ : Bool} (h : spec_l00Rises list low high = some y_) : c_50.F [.sl 1 (List.map (AV.int .i64) list), .int .i64 low, .int .i64 high] = ⟨true, .bool y_, [.any, .any, .any]⟩ := by
 refine mkF_E rfl ?_
 dsimp only [spec_l00Rises] at h
 obtain ⟨y_6, z6, h⟩ := bd_some h
 obtain ⟨Lz6, ez6⟩ := spec_l00Rises_l1_ex z6
 rcases y_6 with y_6a | y_6b
 ·dsimp only at h
  obtain rfl := so_some h
  refine ⟨Lz6, fun L hL => ?_⟩
  have ez6 := ez6 L (by omega)
  try simp only [go_sem, E_50_l1, R_50_l1, ir102_k0, ir102_o0, ir102_r0] at ez6
  simp only [go_sem, ir102, E_50_l1, R_50_l1, ir102_k0, ir102_o0, ir102_r0, ez6]
 ·dsimp only at h
  obtain rfl := so_some h
  refine ⟨Lz6, fun L hL => ?_⟩
  have ez6 := ez6 L (by omega)
  try simp only [go_sem, E_50_l1, R_50_l1, ir102_k0, ir102_o0, ir102_r0] at ez6
  simp only [go_sem, ir102, E_50_l1, R_50_l1, ir102_k0, ir102_o0, ir102_r0, ez6]


def ir39_b0 : IR := .seq (.test false [ PM 25 6, PM 26 1, PO 27 (.len false (.s 0)), PO 28 (.bin false .lss (.s 2) (.s 0))] (.s 0) (.skip) (.exit 0)) (.seq (.block 1 (.seq (.region false [ PM 31 4, PM 32 1, PM 33 6, PO 34 (.ixAddr 1 (.s 1) (.s 0)), PO 35 (.load false 1 (.s 0)), PO 36 (.call 94 [(.s 4), (.s 0)]), VS 7 9 0]) (.seq (.test false [ PM 37 7, PO 38 (.bin false .geq (.s 0) (I6 0))] (.s 0) (.region false [ PM 39 4, PM 40 7, PO 41 (.ixAddr 6 (.s 1) (.s 0)), PO 42 (.fldAddr 4 (.s 0)), PO 43 (.load false 1 (.s 0)), PO 44 (.bin false .add (.s 0) (I6 1)), PO 45 (.ixAddr 6 (.s 5) (.s 4)), PO
 46 (.fldAddr 4 (.s 0)), ⟨.no, 0, none, .store 1 (.s 0) (.s 2)⟩]) (.skip)) (.region false [ PM 47 5, PM 48 7, PO 49 (.mkSl 1 (.int .i64 (0)) 1 [(0, (.s 0))]), PO 50 (.app 1 8 (.int .i64 (0)) (.s 2) (.s 0)), VS 5 7 0])))) (.region false [ PM 29 6, PO 30 (.bin false .add (.s 0) (I6 1)), VS 6 8 0]))
def ir39_k0 : List Bool := [false, true, false, false, true, true, true, false]
def ir39_o0 : List Bool := [false, false, false, false, false, true, false, false]
def ir39_r0 : List Bool := [false, false, true, true, false, false, false, false]
def ir39_v : List Nat := [0, 1, 4, 5, 6, 7, 8, 9]
def ir39 : AFn := ⟨2, 8, .seq (.region false [ VO 2 4 (.newnil 1), VO 3 5 (.mov (I6 0))]) (.seq (.test false [ PM 10 0, PO 11 (.call 101 [(.s 0)]), PO 12 (.un .not (.s 0))] (.s 0) (.seq (.region false [ VO 2 4 (.newnil 1), VO 3 5 (.mov (I6 1))]) (.ret)) (.skip)) (.seq (.test false [ PM 13 1, PO 14 (.len false (.s 0)), PO 15 (.bin false .gtr (.s 0) (I6 100)), PO 16 (.mov (.s 0)), ⟨.push, 17, (some ((.s 0), false)), .mov (.v 1)⟩, ⟨.push, 18, (some ((.s 1), false)), .call 102 [(.s 0), (I6 0), (I6 10000000)]⟩, ⟨.push, 19, (some ((.s 2), false)), .un .not (.s 0)⟩, PO 20 (.pick (.s 3) (.c (.bool
 true)) (.s 0))] (.s 0) (.seq (.region false [ VO 2 4 (.newnil 1), VO 3 5 (.mov (I6 2))]) (.ret)) (.skip)) (.seq (.region false [ PO 21 (.mkSl 6 (.agg [.str [], .int .i64 (0), .int .i64 (0), .int .i64 (0), .int .i64 (0), .int .i64 (0)]) 0 []), PM 22 0, PO 23 (.app 6 56 (.agg [.str [], .int .i64 (0), .int .i64 (0), .int .i64 (0), .int .i64 (0), .int .i64 (0)]) (.s 1) (.s 0)), VS 4 6 0]) (.seq (.region false [ PO 24 (.mkSl 1 (.int .i64 (0)) 0 []), VS 5 7 0]) (.seq (.seq (.region false [ VO 6 8 (.mov (I6 0))]) (.block 0 (.loop ir39_k0 ir39_o0 ir39_r0 ir39_b0))) (.seq (.region false [ PM 51 5, VS 2
 4 0, VO 3 5 (.mov (I6 0))]) (.ret))))))), [.t 2, .t 3]⟩
noncomputable def t_51 : List (Nat × Ctr) := [(101, c_32), (102, c_50), (94, c_36)]
theorem lk_51_101 : look t_51 101 = some c_32 := rfl
theorem lk_51_102 : look t_51 102 = some c_50 := rfl
theorem lk_51_94 : look t_51 94 = some c_36 := rfl
noncomputable def c_51 : Ctr := mkF t_51 ir39 [.bor, .bor]
theorem s_51 : Sound Tryz.prog 39 c_51 := mkF_sound _ rfl (snd_cons s_32 (snd_cons s_50 (snd_cons s_36 snd_nil))) (by kernel_rfl : chkFn Tryz.prog 39 ir39 ir39_v = true)
theorem M_51 : c_51.modes = [.bor, .bor] := rfl
theorem Fl_51 : c_51.flat = true := rfl
attribute [go_sem] M_51 Fl_51
attribute [go_sem] lk_51_101 lk_51_102 lk_51_94
def E_51_l1 (slots : List Int) : ((List Request) × (List Int) × Int) → St
 | (now, out, i) => ⟨[.any, .sl 1 (List.map (AV.int .i64) slots), .any, .any, .own 3200000, .own 3200032, .int .i64 i, .any], [], [(3200000, ⟨6, List.map Request_av now⟩), (3200032, ⟨1, List.map (AV.int .i64) out⟩)], true⟩
def R_51_l1 (slots : List Int) (y : (List Int)) : Res := (.exit 0, ⟨[.any, .any, .any, .any, .any, .own 3200000, .any, .any], [], [(3200000, ⟨1, List.map (AV.int .i64) y⟩)], true⟩)
theorem spec_PlanSlots_l1_ex {slots : List Int} {sgm_ : (List Request) × (List Int) × Int} {rho_ : (List Int)} (h : whileE (spec_PlanSlots_l1 slots) sgm_ = some rho_) : ∃ L0, ∀ L, L0 ≤ L → iter (exec (look t_51) L ir39_b0) ir39_k0 ir39_o0 ir39_r0 L (E_51_l1 slots sgm_) = R_51_l1 slots rho_ := by
 refine loop_ex (E := E_51_l1 slots) (R := R_51_l1 slots) (fun y => by first | (intro c; cases c) | (rcases y with y | y <;> (intro c; cases c)) | (rcases y with y | y | y <;> (intro c; cases c))) ?_ h
 clear h
 rintro ⟨now, out, i⟩ o_ h
 dsimp only [spec_PlanSlots_l1] at h
 rcases it_some h with ⟨z6, h⟩ | ⟨z6, h⟩
 ·try simp only [go_sem, n1, n2, n3, n4] at z6
  all_goals
  obtain ⟨z7, h⟩ := ck_some h
  have lz7 := ix_lt z7
  have xz7 := getD_mapD (AV.int .i64) slots lz7
  try simp only [go_sem] at lz7
  try simp only [go_sem] at xz7
  try simp only [go_sem, n1, n2, n3, n4, z6] at z7
  all_goals
  obtain ⟨y_8, z8, h⟩ := bd_some h
  have fz8 := Fs_36 z8
  try simp only [go_sem, z6, z7] at fz8
  rcases it_some h with ⟨z9, h⟩ | ⟨z9, h⟩
  ·try simp only [go_sem, n1, n2, n3, n4, z6, z7] at z9
   all_goals
   obtain ⟨z10, h⟩ := ck_some h
   have lz10 := ix_lt z10
   have xz10 := getD_mapD Request_av now lz10
   try simp only [go_sem] at lz10
   try simp only [go_sem] at xz10
   try simp only [go_sem, n1, n2, n3, n4, z6, z7, z9] at z10
   all_goals
   obtain ⟨z11, h⟩ := ck_some h
   try simp only [go_sem, n1, n2, n3, n4, z6, z7, z9, z10] at z11
   all_goals
   obtain rfl := so_some h
   refine ⟨0, fun L hL => ?_⟩
   simp only [go_sem, ir39, E_51_l1, R_51_l1, ir39_b0, ir39_k0, ir39_o0, ir39_r0, z6, z7, lz7, xz7, fz8, z9, z10, lz10, xz10, z11]
  ·try simp only [go_sem, n1, n2, n3, n4, z6, z7] at z9
   all_goals
   obtain ⟨z12, h⟩ := ck_some h
   try simp only [go_sem, n1, n2, n3, n4, z6, z7, z9] at z12
   all_goals
   obtain rfl := so_some h
   refine ⟨0, fun L hL => ?_⟩
   simp only [go_sem, ir39, E_51_l1, R_51_l1, ir39_b0, ir39_k0, ir39_o0, ir39_r0, z6, z7, lz7, xz7, fz8, z9, z12]
 ·try simp only [go_sem, n1, n2, n3, n4] at z6
  all_goals
  obtain rfl := so_some h
  refine ⟨0, fun L hL => ?_⟩
  simp only [go_sem, ir39, E_51_l1, R_51_l1, ir39_b0, ir39_k0, ir39_o0, ir39_r0, z6]

theorem Fs_51 {list : List Request} {slots : List Int} {y_ : (List Int) × Int} (h : spec_PlanSlots list slots = some y_) : c_51.F [.sl 6 (List.map Request_av list), .sl 1 (List.map (AV.int .i64) slots)] = ⟨true, .tup [.fresh 1 (List.map (AV.int .i64) y_.1), .int .i64 y_.2], [.any, .any]⟩ := by
 refine mkF_E (by simp only [flatA, flatB, flat1, List.all_cons, List.all_nil, Bool.and_self, flatE_map (f := (AV.int .i64)) (fun _ => rfl)]) ?_
 dsimp only [spec_PlanSlots] at h
 obtain ⟨y_1, z1, h⟩ := bd_some h
 have fz1 := Fs_32 z1
 try simp only [go_sem] at fz1
 rcases it_some h with ⟨z2, h⟩ | ⟨z2, h⟩
 ·try simp only [go_sem, n1, n2, n3, n4] at z2
  all_goals
  obtain rfl := so_some h
  refine ⟨0, fun L hL => ?_⟩
  simp only [go_sem, ir39, E_51_l1, R_51_l1, ir39_k0, ir39_o0, ir39_r0, fz1, z2]
 ·try simp only [go_sem, n1, n2, n3, n4] at z2
  all_goals
  obtain ⟨z3, h⟩ := ck_some h
  rcases or_split z3 with ⟨gz3, z3⟩ | gz3
  ·try simp only [go_sem, n1, n2, n3, n4, z2] at gz3
   all_goals
   obtain ⟨y_3, hz3⟩ := Option.isSome_iff_exists.1 z3
   have fz3 := Fs_50 hz3
   try simp only [go_sem, n1, n2, n3, n4, z2, gz3] at hz3
   all_goals
   try simp only [go_sem, z2, gz3] at fz3
   rcases it_some h with ⟨z4, h⟩ | ⟨z4, h⟩
   ·try simp only [go_sem, n1, n2, n3, n4, z2, gz3, hz3] at z4
    all_goals
    obtain rfl := so_some h
    refine ⟨0, fun L hL => ?_⟩
    simp only [go_sem, ir39, E_51_l1, R_51_l1, ir39_k0, ir39_o0, ir39_r0, fz1, z2, gz3, hz3, fz3, z4]
   ·try simp only [go_sem, n1, n2, n3, n4, z2, gz3, hz3] at z4
    all_goals
    obtain ⟨z5, h⟩ := ck_some h
    try simp only [go_sem, n1, n2, n3, n4, z2, gz3, hz3, z4] at z5
    all_goals
    obtain ⟨y_13, z13, h⟩ := bd_some h
    obtain ⟨Lz13, ez13⟩ := spec_PlanSlots_l1_ex z13
    obtain rfl := so_some h
    refine ⟨Lz13, fun L hL => ?_⟩
    have ez13 := ez13 L (by omega)
    try simp only [go_sem, E_51_l1, R_51_l1, ir39_k0, ir39_o0, ir39_r0, z2, gz3, hz3, z4, z5] at ez13
    simp only [go_sem, ir39, E_51_l1, R_51_l1, ir39_k0, ir39_o0, ir39_r0, fz1, z2, gz3, hz3, fz3, z4, z5, ez13]
  ·have gz3n := no_f gz3
   try simp only [go_sem, n1, n2, n3, n4, z2] at gz3n
   all_goals
   rcases it_some h with ⟨z4, h⟩ | ⟨z4, h⟩
   ·try simp only [go_sem, n1, n2, n3, n4, z2, gz3n] at z4
    all_goals
    obtain rfl := so_some h
    refine ⟨0, fun L hL => ?_⟩
    simp only [go_sem, ir39, E_51_l1, R_51_l1, ir39_k0, ir39_o0, ir39_r0, fz1, z2, gz3n, z4]
   ·try simp only [go_sem, n1, n2, n3, n4, z2, gz3n] at z4
    all_goals
    (simp_all)


def ir40_v : List Nat := [0, 2, 3, 4, 5, 6]
def ir40 : AFn := ⟨1, 6, .seq (.region false [ VO 1 2 (.newnil 6), VO 2 3 (.alloc (.agg [.str [], .int .i64 (0), .int .i64 (0), .int .i64 (0), .int .i64 (0), .int .i64 (0)]))]) (.seq (.region false [ PM 7 0, PO 8 (.call 54 [(.s 0)]), VS 3 4 0]) (.seq (.region false [ PM 9 3, PO 10 (.call 98 [(.s 0)]), VS 4 5 0]) (.seq (.region false [ PM 11 3, PO 12 (.call 103 [(.s 0)]), VO 5 6 (.alloc (.agg [.str [], .int .i64 (0), .int .i64 (0), .int .i64 (0), .int .i64 (0), .int .i64 (0)])), ⟨.no, 0, none, .store 6 (.v 5) (.s 0)⟩]) (.seq (.test false [ PM 13 3, PO 14 (.call 58 [(.s 0), (I6 6)])] (.s 0)
 (.region false [ PM 15 3, PO 16 (.call 104 [(.s 0), (.v 5)])]) (.skip)) (.seq (.anyo 2 [ SO 0 17 (.mov (.v 4)), SO 1 18 (.load true 6 (.v 5)), VS 1 2 0, ⟨.no, 0, none, .store 6 (.v 2) (.s 1)⟩] [] .skip) (.ret)))))), [.t 1, .cell true 6 2]⟩
noncomputable def t_52 : List (Nat × Ctr) := [(54, c_1), (98, c_10), (103, c_6), (58, c_4), (104, c_8)]
theorem lk_52_54 : look t_52 54 = some c_1 := rfl
theorem lk_52_98 : look t_52 98 = some c_10 := rfl
theorem lk_52_103 : look t_52 103 = some c_6 := rfl
theorem lk_52_58 : look t_52 58 = some c_4 := rfl
theorem lk_52_104 : look t_52 104 = some c_8 := rfl
noncomputable def c_52 : Ctr := mkN t_52 ir40 [.bor]
theorem s_52 : Sound Tryz.prog 40 c_52 := mkN_sound _ (snd_cons s_1 (snd_cons s_10 (snd_cons s_6 (snd_cons s_4 (snd_cons s_8 snd_nil))))) (by kernel_rfl : chkFn Tryz.prog 40 ir40 ir40_v = true)
theorem M_52 : c_52.modes = [.bor] := rfl
theorem Fl_52 : c_52.flat = false := rfl
attribute [go_sem] M_52 Fl_52
attribute [go_sem] lk_52_54 lk_52_98 lk_52_103 lk_52_58 lk_52_104
theorem Fs_52 {code : List UInt8} {y_ : (List Request) × Request} (h : spec_DrawAddRequest code = some y_) : c_52.F [.sl 1 (List.map byteAV code)] = ⟨true, .tup [.fresh 6 (List.map Request_av y_.1), Request_av y_.2], [.any]⟩ := by
 refine mkN_E ?_
 dsimp only [spec_DrawAddRequest] at h
 obtain ⟨y_1, z1, h⟩ := bd_some h
 have fz1 := Fs_1 z1
 try simp only [go_sem] at fz1
 obtain ⟨y_2, z2, h⟩ := bd_some h
 have fz2 := Fs_10 z2
 try simp only [go_sem] at fz2
 obtain ⟨y_3, z3, h⟩ := bd_some h
 have fz3 := Fs_6 z3
 try simp only [go_sem] at fz3
 obtain ⟨y_4, z4, h⟩ := bd_some h
 have fz4 := Fs_4 z4
 try simp only [go_sem] at fz4
 rcases it_some h with ⟨z5, h⟩ | ⟨z5, h⟩
 ·try simp only [go_sem, n1, n2, n3, n4] at z5
  all_goals
  obtain ⟨y_6, z6, h⟩ := bd_some h
  have fz6 := Fs_8 z6
  try simp only [go_sem, z5] at fz6
  obtain rfl := so_some h
  refine ⟨0, fun L hL => ?_⟩
  simp only [go_sem, ir40, fz1, fz2, fz3, fz4, z5, fz6]
 ·try simp only [go_sem, n1, n2, n3, n4] at z5
  all_goals
  obtain rfl := so_some h
  refine ⟨0, fun L hL => ?_⟩
  simp only [go_sem, ir40, fz1, fz2, fz3, fz4, z5]


def ir41_v : List Nat := [0, 1, 3, 4, 5]
def ir41 : AFn := ⟨2, 5, .seq (.region false [ VO 2 3 (.box (.v 1)), VO 3 4 (.newnil 6), VO 4 5 (.mov (I6 0))]) (.seq (.block 0 (.test false [ PM 7 0, PO 8 (.call 52 [(.s 0)]), PO 9 (.un .not (.s 0)), PO 6 (.mov (.s 0))] (.s 0) (.seq (.region false [ VO 3 4 (.newnil 6), VO 4 5 (.mov (I6 1))]) (.ret)) (.test false [ PO 11 (.load true 6 (.v 2)), PO 12 (.call 105 [(.s 0)]), PO 13 (.un .not (.s 0)), PO 10 (.mov (.s 0))] (.s 0) (.seq (.region false [ VO 3 4 (.newnil 6), VO 4 5 (.mov (I6 2))]) (.ret)) (.test false [ PM 15 0, PO 16 (.len false (.s 0)), PO 17 (.bin false .eql (.s 0) (I6 30)), PO 14
 (.mov (.s 0))] (.s 0) (.seq (.region false [ VO 3 4 (.newnil 6), VO 4 5 (.mov (I6 5))]) (.ret)) (.skip))))) (.seq (.anyo 5 [ SO 0 18 (.mov (.v 0)), SO 1 19 (.call 100 [(.s 0)]), SO 2 20 (.load true 6 (.v 2)), SO 3 21 (.pur (.mkSl 6 (.agg [.str [], .int .i64 (0), .int .i64 (0), .int .i64 (0), .int .i64 (0), .int .i64 (0)]) 1 [(0, (.s 2))])), SO 4 22 (.app 6 56 (.agg [.str [], .int .i64 (0), .int .i64 (0), .int .i64 (0), .int .i64 (0), .int .i64 (0)]) (.s 1) (.s 3)), VS 3 4 4, VO 4 5 (.mov (I6 0))] [[0, 2, 1, 3, 4, 5, 6], [0, 2, 3, 1, 4, 5, 6]] .skip) (.ret))), [.t 3, .t 4]⟩
noncomputable def t_53 : List (Nat × Ctr) := [(52, c_21), (105, c_17), (100, c_48)]
theorem lk_53_52 : look t_53 52 = some c_21 := rfl
theorem lk_53_105 : look t_53 105 = some c_17 := rfl
theorem lk_53_100 : look t_53 100 = some c_48 := rfl
noncomputable def c_53 : Ctr := mkF t_53 ir41 [.bor, .bor]
theorem s_53 : Sound Tryz.prog 41 c_53 := mkF_sound _ rfl (snd_cons s_21 (snd_cons s_17 (snd_cons s_48 snd_nil))) (by kernel_rfl : chkFn Tryz.prog 41 ir41 ir41_v = true)
theorem M_53 : c_53.modes = [.bor, .bor] := rfl
theorem Fl_53 : c_53.flat = true := rfl
attribute [go_sem] M_53 Fl_53
attribute [go_sem] lk_53_52 lk_53_105 lk_53_100
theorem Fs_53 {list : List Request} {x : Request} {y_ : (List Request) × Int} (h : impl_AddRequest list x = some y_) : c_53.F [.sl 6 (List.map Request_av list), Request_av x] = ⟨true, .tup [.fresh 6 (List.map Request_av y_.1), .int .i64 y_.2], [.any, .any]⟩ := by
 refine mkF_E (by simp only [flatA, flatB, flat1, List.all_cons, List.all_nil, Bool.and_self, flatE_map (f := Request_av) (fun _ => rfl)]) ?_
 dsimp only [impl_AddRequest] at h
 obtain ⟨y_1, z1, h⟩ := bd_some h
 have fz1 := Fs_21 z1
 try simp only [go_sem] at fz1
 rcases it_some h with ⟨z2, h⟩ | ⟨z2, h⟩
 ·try simp only [go_sem, n1, n2, n3, n4] at z2
  all_goals
  obtain rfl := so_some h
  refine ⟨0, fun L hL => ?_⟩
  simp only [go_sem, ir41, fz1, z2]
 ·try simp only [go_sem, n1, n2, n3, n4] at z2
  all_goals
  obtain ⟨y_3, z3, h⟩ := bd_some h
  have fz3 := Fs_17 z3
  try simp only [go_sem, z2] at fz3
  rcases it_some h with ⟨z4, h⟩ | ⟨z4, h⟩
  ·try simp only [go_sem, n1, n2, n3, n4, z2] at z4
   all_goals
   obtain rfl := so_some h
   refine ⟨0, fun L hL => ?_⟩
   simp only [go_sem, ir41, fz1, z2, fz3, z4]
  ·try simp only [go_sem, n1, n2, n3, n4, z2] at z4
   all_goals
   rcases it_some h with ⟨z5, h⟩ | ⟨z5, h⟩
   ·try simp only [go_sem, n1, n2, n3, n4, z2, z4] at z5
    all_goals
    obtain rfl := so_some h
    refine ⟨0, fun L hL => ?_⟩
    simp only [go_sem, ir41, fz1, z2, fz3, z4, z5]
   ·try simp only [go_sem, n1, n2, n3, n4, z2, z4] at z5
    all_goals
    obtain ⟨y_6, z6, h⟩ := bd_some h
    have fz6 := Fs_48 z6
    try simp only [go_sem, z2, z4, z5] at fz6
    obtain ⟨z7, h⟩ := ck_some h
    try simp only [go_sem, n1, n2, n3, n4, z2, z4, z5] at z7
    all_goals
    obtain rfl := so_some h
    refine ⟨0, fun L hL => ?_⟩
    simp only [go_sem, ir41, fz1, z2, fz3, z4, z5, fz6, z7]


def ir42_v : List Nat := [0, 1, 3, 4, 5, 6]
def ir42 : AFn := ⟨2, 6, .seq (.region false [ VO 2 3 (.box (.v 1)), VO 3 4 (.newnil 6), VO 4 5 (.mov (I6 0))]) (.seq (.test false [ PM 7 0, PO 8 (.call 101 [(.s 0)]), PO 9 (.un .not (.s 0))] (.s 0) (.seq (.region false [ VO 3 4 (.newnil 6), VO 4 5 (.mov (I6 1))]) (.ret)) (.skip)) (.seq (.test false [ PO 10 (.call 106 [(.v 2)]), PO 11 (.un .not (.s 0))] (.s 0) (.seq (.region false [ VO 3 4 (.newnil 6), VO 4 5 (.mov (I6 2))]) (.ret)) (.skip)) (.seq (.test false [ PM 12 0, PO 13 (.len false (.s 0)), PO 14 (.bin false .geq (.s 0) (I6 30))] (.s 0) (.seq (.region false [ VO 3 4 (.newnil 6), VO 4 5
 (.mov (I6 5))]) (.ret)) (.skip)) (.seq (.region false [ PO 15 (.mkSl 6 (.agg [.str [], .int .i64 (0), .int .i64 (0), .int .i64 (0), .int .i64 (0), .int .i64 (0)]) 0 []), PM 16 0, PO 17 (.app 6 56 (.agg [.str [], .int .i64 (0), .int .i64 (0), .int .i64 (0), .int .i64 (0), .int .i64 (0)]) (.s 1) (.s 0)), VS 5 6 0]) (.seq (.region false [ PM 18 5, PO 19 (.load true 6 (.v 2)), PO 20 (.mkSl 6 (.agg [.str [], .int .i64 (0), .int .i64 (0), .int .i64 (0), .int .i64 (0), .int .i64 (0)]) 1 [(0, (.s 0))]), PO 21 (.app 6 56 (.agg [.str [], .int .i64 (0), .int .i64 (0), .int .i64 (0), .int .i64 (0), .int
 .i64 (0)]) (.s 2) (.s 0)), VS 3 4 0, VO 4 5 (.mov (I6 0))]) (.ret)))))), [.t 3, .t 4]⟩
noncomputable def t_54 : List (Nat × Ctr) := [(101, c_32), (106, c_31)]
theorem lk_54_101 : look t_54 101 = some c_32 := rfl
theorem lk_54_106 : look t_54 106 = some c_31 := rfl
noncomputable def c_54 : Ctr := mkF t_54 ir42 [.bor, .bor]
theorem s_54 : Sound Tryz.prog 42 c_54 := mkF_sound _ rfl (snd_cons s_32 (snd_cons s_31 snd_nil)) (by kernel_rfl : chkFn Tryz.prog 42 ir42 ir42_v = true)
theorem M_54 : c_54.modes = [.bor, .bor] := rfl
theorem Fl_54 : c_54.flat = true := rfl
attribute [go_sem] M_54 Fl_54
attribute [go_sem] lk_54_101 lk_54_106
theorem Fs_54 {list : List Request} {x : Request} {y_ : (List Request) × Int} (h : spec_AddRequest list x = some y_) : c_54.F [.sl 6 (List.map Request_av list), Request_av x] = ⟨true, .tup [.fresh 6 (List.map Request_av y_.1), .int .i64 y_.2], [.any, .any]⟩ := by
 refine mkF_E (by simp only [flatA, flatB, flat1, List.all_cons, List.all_nil, Bool.and_self, flatE_map (f := Request_av) (fun _ => rfl)]) ?_
 dsimp only [spec_AddRequest] at h
 obtain ⟨y_1, z1, h⟩ := bd_some h
 have fz1 := Fs_32 z1
 try simp only [go_sem] at fz1
 rcases it_some h with ⟨z2, h⟩ | ⟨z2, h⟩
 ·try simp only [go_sem, n1, n2, n3, n4] at z2
  all_goals
  obtain rfl := so_some h
  refine ⟨0, fun L hL => ?_⟩
  simp only [go_sem, ir42, fz1, z2]
 ·try simp only [go_sem, n1, n2, n3, n4] at z2
  all_goals
  obtain ⟨y_3, z3, h⟩ := bd_some h
  have fz3 := Fs_31 z3
  try simp only [go_sem, z2] at fz3
  rcases it_some h with ⟨z4, h⟩ | ⟨z4, h⟩
  ·try simp only [go_sem, n1, n2, n3, n4, z2] at z4
   all_goals
   obtain rfl := so_some h
   refine ⟨0, fun L hL => ?_⟩
   simp only [go_sem, ir42, fz1, z2, fz3, z4]
  ·try simp only [go_sem, n1, n2, n3, n4, z2] at z4
   all_goals
   rcases it_some h with ⟨z5, h⟩ | ⟨z5, h⟩
   ·try simp only [go_sem, n1, n2, n3, n4, z2, z4] at z5
    all_goals
    obtain rfl := so_some h
    refine ⟨0, fun L hL => ?_⟩
    simp only [go_sem, ir42, fz1, z2, fz3, z4, z5]
   ·try simp only [go_sem, n1, n2, n3, n4, z2, z4] at z5
    all_goals
    obtain ⟨z6, h⟩ := ck_some h
    try simp only [go_sem, n1, n2, n3, n4, z2, z4, z5] at z6
    all_goals
    obtain ⟨z7, h⟩ := ck_some h
    try simp only [go_sem, n1, n2, n3, n4, z2, z4, z5, z6] at z7
    all_goals
    obtain rfl := so_some h
    refine ⟨0, fun L hL => ?_⟩
    simp only [go_sem, ir42, fz1, z2, fz3, z4, z5, z6, z7]


def ir43_v : List Nat := [0, 2, 3, 4]
def ir43 : AFn := ⟨1, 4, .seq (.region false [ VO 1 2 (.alloc (.agg [.str [], .int .i64 (0), .int .i64 (0), .int .i64 (0), .int .i64 (0), .int .i64 (0)]))]) (.seq (.region false [ PM 5 0, PO 6 (.call 54 [(.s 0)]), VS 2 3 0]) (.seq (.region false [ PM 7 2, PO 8 (.call 103 [(.s 0)]), VO 3 4 (.alloc (.agg [.str [], .int .i64 (0), .int .i64 (0), .int .i64 (0), .int .i64 (0), .int .i64 (0)])), ⟨.no, 0, none, .store 6 (.v 3) (.s 0)⟩]) (.seq (.test false [ PM 9 2, PO 10 (.call 58 [(.s 0), (I6 6)])] (.s 0) (.region false [ PM 11 2, PO 12 (.call 104 [(.s 0), (.v 3)])]) (.skip)) (.seq (.region false [ PO
 13 (.load true 6 (.v 3)), ⟨.no, 0, none, .store 6 (.v 1) (.s 0)⟩]) (.ret))))), [.cell true 6 1]⟩
noncomputable def t_55 : List (Nat × Ctr) := [(54, c_1), (103, c_6), (58, c_4), (104, c_8)]
theorem lk_55_54 : look t_55 54 = some c_1 := rfl
theorem lk_55_103 : look t_55 103 = some c_6 := rfl
theorem lk_55_58 : look t_55 58 = some c_4 := rfl
theorem lk_55_104 : look t_55 104 = some c_8 := rfl
noncomputable def c_55 : Ctr := mkN t_55 ir43 [.bor]
theorem s_55 : Sound Tryz.prog 43 c_55 := mkN_sound _ (snd_cons s_1 (snd_cons s_6 (snd_cons s_4 (snd_cons s_8 snd_nil)))) (by kernel_rfl : chkFn Tryz.prog 43 ir43 ir43_v = true)
theorem M_55 : c_55.modes = [.bor] := rfl
theorem Fl_55 : c_55.flat = false := rfl
attribute [go_sem] M_55 Fl_55
attribute [go_sem] lk_55_54 lk_55_103 lk_55_58 lk_55_104
theorem Fs_55 {code : List UInt8} {y_ : Request} (h : spec_DrawRequestText code = some y_) : c_55.F [.sl 1 (List.map byteAV code)] = ⟨true, Request_av y_, [.any]⟩ := by
 refine mkN_E ?_
 dsimp only [spec_DrawRequestText] at h
 obtain ⟨y_1, z1, h⟩ := bd_some h
 have fz1 := Fs_1 z1
 try simp only [go_sem] at fz1
 obtain ⟨y_2, z2, h⟩ := bd_some h
 have fz2 := Fs_6 z2
 try simp only [go_sem] at fz2
 obtain ⟨y_3, z3, h⟩ := bd_some h
 have fz3 := Fs_4 z3
 try simp only [go_sem] at fz3
 rcases it_some h with ⟨z4, h⟩ | ⟨z4, h⟩
 ·try simp only [go_sem, n1, n2, n3, n4] at z4
  all_goals
  obtain ⟨y_5, z5, h⟩ := bd_some h
  have fz5 := Fs_8 z5
  try simp only [go_sem, z4] at fz5
  obtain rfl := so_some h
  refine ⟨0, fun L hL => ?_⟩
  simp only [go_sem, ir43, fz1, fz2, fz3, z4, fz5]
 ·try simp only [go_sem, n1, n2, n3, n4] at z4
  all_goals
  obtain rfl := so_some h
  refine ⟨0, fun L hL => ?_⟩
  simp only [go_sem, ir43, fz1, fz2, fz3, z4]


theorem s_hFmt : Sound Tryz.prog 159 c_hFmt := hFmt_is

def ir134_v : List Nat := [0, 1, 4]
def ir134 : AFn := ⟨2, 3, .seq (.region false [ VO 2 4 (.mov (.c (.str [])))]) (.seq (.region false [ PM 5 0, PM 6 1, PO 7 (.call 159 [(.s 1), (.s 0)]), VS 2 4 0]) (.ret)), [.t 2]⟩
noncomputable def t_57 : List (Nat × Ctr) := [(159, c_hFmt)]
theorem lk_57_159 : look t_57 159 = some c_hFmt := rfl
noncomputable def c_57 : Ctr := mkF t_57 ir134 [.bor, .bor]
theorem s_57 : Sound Tryz.prog 134 c_57 := mkF_sound _ rfl (snd_cons s_hFmt snd_nil) (by kernel_rfl : chkFn Tryz.prog 134 ir134 ir134_v = true)
theorem M_57 : c_57.modes = [.bor, .bor] := rfl
theorem Fl_57 : c_57.flat = true := rfl
attribute [go_sem] M_57 Fl_57
attribute [go_sem] lk_57_159
theorem Fs_57 {i : Int} {base : Int} {y_ : (List UInt8)} (h : strconv_FormatInt i base = some y_) : c_57.F [.int .i64 i, .int .i64 base] = ⟨true, .str y_, [.any, .any]⟩ := by
 refine mkF_E rfl ?_
 dsimp only [strconv_FormatInt] at h
 obtain ⟨y_1, z1, h⟩ := bd_some h
 have fz1 := Fs_hFmt z1
 try simp only [go_sem] at fz1
 obtain rfl := so_some h
 refine ⟨0, fun L hL => ?_⟩
 simp only [go_sem, ir134, fz1]


def ir87_v : List Nat := [0, 2]
def ir87 : AFn := ⟨1, 2, .seq (.region false [ VO 1 2 (.mov (.c (.str [])))]) (.seq (.region false [ PM 3 0, PO 4 (.call 134 [(.s 0), (I6 10)]), VS 1 2 0]) (.ret)), [.t 1]⟩
noncomputable def t_58 : List (Nat × Ctr) := [(134, c_57)]
theorem lk_58_134 : look t_58 134 = some c_57 := rfl
noncomputable def c_58 : Ctr := mkF t_58 ir87 [.bor]
theorem s_58 : Sound Tryz.prog 87 c_58 := mkF_sound _ rfl (snd_cons s_57 snd_nil) (by kernel_rfl : chkFn Tryz.prog 87 ir87 ir87_v = true)
theorem M_58 : c_58.modes = [.bor] := rfl
theorem Fl_58 : c_58.flat = true := rfl
attribute [go_sem] M_58 Fl_58
attribute [go_sem] lk_58_134
theorem Fs_58 {n : Int} {y_ : (List UInt8)} (h : impl_Decimal n = some y_) : c_58.F [.int .i64 n] = ⟨true, .str y_, [.any]⟩ := by
 refine mkF_E rfl ?_
 dsimp only [impl_Decimal] at h
 obtain ⟨y_1, z1, h⟩ := bd_some h
 have fz1 := Fs_57 z1
 try simp only [go_sem] at fz1
 obtain rfl := so_some h
 refine ⟨0, fun L hL => ?_⟩
 simp only [go_sem, ir87, fz1]


theorem s_hJoin : Sound Tryz.prog 107 c_hJoin := hJoin_is

def ir44_v : List Nat := [0, 1, 2, 3]
def ir44 : AFn := ⟨1, 4, .seq (.region false [ VO 1 1 (.box (.v 0)), VO 2 2 (.mov (.c (.str [])))]) (.seq (.test false [ PO 4 (.load true 6 (.v 1)), PO 5 (.call 105 [(.s 0)]), PO 6 (.un .not (.s 0))] (.s 0) (.seq (.region false [ VO 2 2 (.mov (.c (.str [])))]) (.ret)) (.skip)) (.seq (.anyo 8 [ SO 0 7 (.fldAddr 1 (.v 1)), SO 1 8 (.load false 1 (.s 0)), SO 2 9 (.callp 87 [(.s 1)]), SO 3 10 (.bin false .add (.s 2) (.c (.str [46, 46]))), SO 4 11 (.fldAddr 2 (.v 1)), SO 5 12 (.load false 1 (.s 4)), SO 6 13 (.callp 87 [(.s 5)]), SO 7 14 (.bin false .add (.s 3) (.s 6)), VS 3 3 7] [] .skip) (.seq
 (.anyo 16 [ SO 0 15 (.fldAddr 0 (.v 1)), SO 1 16 (.load false 1 (.s 0)), SO 2 17 (.mov (.v 3)), SO 3 18 (.fldAddr 4 (.v 1)), SO 4 19 (.load false 1 (.s 3)), SO 5 20 (.callp 87 [(.s 4)]), SO 6 21 (.bin false .add (.s 5) (.c (.str [47]))), SO 7 22 (.fldAddr 3 (.v 1)), SO 8 23 (.load false 1 (.s 7)), SO 9 24 (.callp 87 [(.s 8)]), SO 10 25 (.bin false .add (.s 6) (.s 9)), SO 11 26 (.fldAddr 5 (.v 1)), SO 12 27 (.load false 1 (.s 11)), SO 13 28 (.callp 87 [(.s 12)]), SO 14 29 (.pur (.mkSl 1 (.str []) 5 [(0, (.s 1)), (1, (.s 2)), (2, (.s 10)), (3, (.c (.str [112, 114, 105, 111, 114, 105, 116,
 121]))), (4, (.s 13))])), SO 15 30 (.callp 107 [(.s 14), (.c (.str [32]))]), VS 2 2 15] [] .skip) (.ret)))), [.t 2]⟩
noncomputable def t_60 : List (Nat × Ctr) := [(105, c_17), (87, c_58), (107, c_hJoin)]
theorem lk_60_105 : look t_60 105 = some c_17 := rfl
theorem lk_60_87 : look t_60 87 = some c_58 := rfl
theorem lk_60_107 : look t_60 107 = some c_hJoin := rfl
noncomputable def c_60 : Ctr := mkF t_60 ir44 [.bor]
theorem s_60 : Sound Tryz.prog 44 c_60 := mkF_sound _ rfl (snd_cons s_17 (snd_cons s_58 (snd_cons s_hJoin snd_nil))) (by kernel_rfl : chkFn Tryz.prog 44 ir44 ir44_v = true)
theorem M_60 : c_60.modes = [.bor] := rfl
theorem Fl_60 : c_60.flat = true := rfl
attribute [go_sem] M_60 Fl_60
attribute [go_sem] lk_60_105 lk_60_87 lk_60_107
theorem Fs_60 {x : Request} {y_ : (List UInt8)} (h : impl_RequestText x = some y_) : c_60.F [Request_av x] = ⟨true, .str y_, [.any]⟩ := by
 refine mkF_E rfl ?_
 dsimp only [impl_RequestText] at h
 obtain ⟨y_1, z1, h⟩ := bd_some h
 have fz1 := Fs_17 z1
 try simp only [go_sem] at fz1
 rcases it_some h with ⟨z2, h⟩ | ⟨z2, h⟩
 ·try simp only [go_sem, n1, n2, n3, n4] at z2
  all_goals
  obtain rfl := so_some h
  refine ⟨0, fun L hL => ?_⟩
  simp only [go_sem, ir44, fz1, z2]
 ·try simp only [go_sem, n1, n2, n3, n4] at z2
  all_goals
  obtain ⟨y_3, z3, h⟩ := bd_some h
  have fz3 := Fs_58 z3
  try simp only [go_sem, z2] at fz3
  obtain ⟨z4, h⟩ := ck_some h
  try simp only [go_sem, n1, n2, n3, n4, z2] at z4
  all_goals
  obtain ⟨y_5, z5, h⟩ := bd_some h
  have fz5 := Fs_58 z5
  try simp only [go_sem, z2, z4] at fz5
  obtain ⟨z6, h⟩ := ck_some h
  try simp only [go_sem, n1, n2, n3, n4, z2, z4] at z6
  all_goals
  obtain ⟨y_7, z7, h⟩ := bd_some h
  have fz7 := Fs_58 z7
  try simp only [go_sem, z2, z4, z6] at fz7
  obtain ⟨z8, h⟩ := ck_some h
  try simp only [go_sem, n1, n2, n3, n4, z2, z4, z6] at z8
  all_goals
  obtain ⟨y_9, z9, h⟩ := bd_some h
  have fz9 := Fs_58 z9
  try simp only [go_sem, z2, z4, z6, z8] at fz9
  obtain ⟨z10, h⟩ := ck_some h
  try simp only [go_sem, n1, n2, n3, n4, z2, z4, z6, z8] at z10
  all_goals
  obtain ⟨y_11, z11, h⟩ := bd_some h
  have fz11 := Fs_58 z11
  try simp only [go_sem, z2, z4, z6, z8, z10] at fz11
  obtain ⟨y_12, z12, h⟩ := bd_some h
  have fz12 := Fs_hJoin z12
  try simp only [go_sem, z2, z4, z6, z8, z10] at fz12
  obtain rfl := so_some h
  refine ⟨0, fun L hL => ?_⟩
  simp only [go_sem, ir44, fz1, z2, fz3, z4, fz5, z6, fz7, z8, fz9, z10, fz11, fz12]


theorem s_hSplit : Sound Tryz.prog 108 c_hSplit := hSplit_is

theorem s_hCut : Sound Tryz.prog 110 c_hCut := hCut_is

theorem s_hRdDec : Sound Tryz.prog 111 c_hRdDec := hRdDec_is

def ir109_v : List Nat := [0, 2, 3, 4, 5, 6, 8, 9, 10, 11]
def ir109 : AFn := ⟨1, 10, .seq (.region false [ VO 1 2 (.mov (I6 0)), VO 2 3 (.mov (I6 0)), VO 3 4 (.mov (.c (.bool false)))]) (.seq (.region false [ PM 13 0, PO 14 (.call 110 [(.s 0), (.c (.str [46, 46]))]), PO 12 (.mov (.s 0)), PO 15 (.ext (.s 0) 0), PO 16 (.ext (.s 1) 1), PO 17 (.ext (.s 2) 2), VS 4 5 2, VS 5 6 1, PO 7 (.mov (.s 0))]) (.seq (.region false [ PM 19 4, PO 20 (.call 111 [(.s 0)]), PO 18 (.mov (.s 0)), PO 21 (.ext (.s 0) 0), PO 22 (.ext (.s 1) 1), VS 6 8 1, VS 7 9 0]) (.seq (.region false [ PM 24 5, PO 25 (.call 111 [(.s 0)]), PO 23 (.mov (.s 0)), PO 26 (.ext (.s 0) 0), PO 27
 (.ext (.s 1) 1), VS 8 10 1, VS 9 11 0]) (.seq (.region false [ PM 28 6, PM 29 8, PM 30 7, PO 31 (.mov (.s 0)), ⟨.push, 32, (some ((.s 0), true)), .mov (.v 9)⟩, PO 33 (.pick (.s 1) (.s 0) (.c (.bool false))), VS 1 2 5, VS 2 3 4, VS 3 4 0]) (.ret))))), [.t 1, .t 2, .t 3]⟩
noncomputable def t_64 : List (Nat × Ctr) := [(110, c_hCut), (111, c_hRdDec)]
theorem lk_64_110 : look t_64 110 = some c_hCut := rfl
theorem lk_64_111 : look t_64 111 = some c_hRdDec := rfl
noncomputable def c_64 : Ctr := mkF t_64 ir109 [.bor]
theorem s_64 : Sound Tryz.prog 109 c_64 := mkF_sound _ rfl (snd_cons s_hCut (snd_cons s_hRdDec snd_nil)) (by kernel_rfl : chkFn Tryz.prog 109 ir109 ir109_v = true)
theorem M_64 : c_64.modes = [.bor] := rfl
theorem Fl_64 : c_64.flat = true := rfl
attribute [go_sem] M_64 Fl_64
attribute [go_sem] lk_64_110 lk_64_111
theorem Fs_64 {s_ : List UInt8} {y_ : Int × Int × Bool} (h : impl_readRange s_ = some y_) : c_64.F [.str s_] = ⟨true, .tup [.int .i64 y_.1, .int .i64 y_.2.1, .bool y_.2.2], [.any]⟩ := by
 refine mkF_E rfl ?_
 dsimp only [impl_readRange] at h
 obtain ⟨y_1, z1, h⟩ := bd_some h
 have fz1 := Fs_hCut z1
 try simp only [go_sem] at fz1
 obtain ⟨y_2, z2, h⟩ := bd_some h
 have fz2 := Fs_hRdDec z2
 try simp only [go_sem] at fz2
 obtain ⟨y_3, z3, h⟩ := bd_some h
 have fz3 := Fs_hRdDec z3
 try simp only [go_sem] at fz3
 obtain rfl := so_some h
 refine ⟨0, fun L hL => ?_⟩
 simp only [go_sem, ir109, fz1, fz2, fz3]


def ir45_v : List Nat := [0, 2, 3, 4, 5, 6, 7, 8, 9, 11, 12, 13, 14, 15, 16, 17]
def ir45 : AFn := ⟨1, 16, .seq (.region false [ VO 1 2 (.alloc (.agg [.str [], .int .i64 (0), .int .i64 (0), .int .i64 (0), .int .i64 (0), .int .i64 (0)])), VO 2 3 (.mov (.c (.bool false)))]) (.seq (.region false [ PM 18 0, PO 19 (.call 108 [(.s 0), (.c (.str [32]))]), VS 3 4 0]) (.seq (.test false [ PM 20 3, PO 21 (.len false (.s 0)), PO 22 (.bin false .neq (.s 0) (I6 5))] (.s 0) (.seq (.region false [ PO 23 (.build [.str [], .int .i64 (0), .int .i64 (0), .int .i64 (0), .int .i64 (0), .int .i64 (0)] []), ⟨.no, 0, none, .store 6 (.v 1) (.s 0)⟩, VO 2 3 (.mov (.c (.bool false)))]) (.ret))
 (.skip)) (.seq (.region false [ PM 25 3, PO 26 (.ixAddr 1 (.s 0) (I6 1)), PO 27 (.load false 1 (.s 0)), PO 28 (.call 109 [(.s 0)]), PO 24 (.mov (.s 0)), PO 29 (.ext (.s 0) 0), PO 30 (.ext (.s 1) 1), PO 31 (.ext (.s 2) 2), VS 4 5 2, VS 5 6 1, VS 6 7 0]) (.seq (.region false [ PM 33 3, PO 34 (.ixAddr 1 (.s 0) (I6 2)), PO 35 (.load false 1 (.s 0)), PO 36 (.call 110 [(.s 0), (.c (.str [47]))]), PO 32 (.mov (.s 0)), PO 37 (.ext (.s 0) 0), PO 38 (.ext (.s 1) 1), PO 39 (.ext (.s 2) 2), VS 7 8 2, VS 8 9 1, PO 10 (.mov (.s 0))]) (.seq (.region false [ PM 41 7, PO 42 (.call 111 [(.s 0)]), PO 40 (.mov
 (.s 0)), PO 43 (.ext (.s 0) 0), PO 44 (.ext (.s 1) 1), VS 9 11 1, VS 10 12 0]) (.seq (.region false [ PM 46 8, PO 47 (.call 111 [(.s 0)]), PO 45 (.mov (.s 0)), PO 48 (.ext (.s 0) 0), PO 49 (.ext (.s 1) 1), VS 11 13 1, VS 12 14 0]) (.seq (.region false [ PM 51 3, PO 52 (.ixAddr 1 (.s 0) (I6 4)), PO 53 (.load false 1 (.s 0)), PO 54 (.call 111 [(.s 0)]), PO 50 (.mov (.s 0)), PO 55 (.ext (.s 0) 0), PO 56 (.ext (.s 1) 1), VS 13 15 1, VS 14 16 0]) (.seq (.region false [ PM 57 3, PO 58 (.ixAddr 1 (.s 0) (I6 0)), PO 59 (.load false 1 (.s 0)), PM 60 4, PM 61 5, PM 62 11, PM 63 9, PM 64 13, PO 65
 (.build [.str [], .int .i64 (0), .int .i64 (0), .int .i64 (0), .int .i64 (0), .int .i64 (0)] [(0, 1, (.s 5)), (1, 1, (.s 4)), (2, 1, (.s 3)), (3, 1, (.s 2)), (4, 1, (.s 1)), (5, 1, (.s 0))]), VO 15 17 (.alloc (.agg [.str [], .int .i64 (0), .int .i64 (0), .int .i64 (0), .int .i64 (0), .int .i64 (0)])), ⟨.no, 0, none, .store 6 (.v 15) (.s 0)⟩]) (.seq (.test false [ PM 66 6, PO 67 (.un .not (.s 0)), PO 68 (.mov (.s 0)), ⟨.push, 69, (some ((.s 0), false)), .mov (.v 10)⟩, ⟨.push, 70, (some ((.s 1), false)), .un .not (.s 0)⟩, PO 71 (.pick (.s 2) (.c (.bool true)) (.s 0)), PO 72 (.mov (.s 0)),
 ⟨.push, 73, (some ((.s 0), false)), .mov (.v 12)⟩, ⟨.push, 74, (some ((.s 1), false)), .un .not (.s 0)⟩, PO 75 (.pick (.s 2) (.c (.bool true)) (.s 0)), PO 76 (.mov (.s 0)), ⟨.push, 77, (some ((.s 0), false)), .mov (.v 14)⟩, ⟨.push, 78, (some ((.s 1), false)), .un .not (.s 0)⟩, PO 79 (.pick (.s 2) (.c (.bool true)) (.s 0)), PO 80 (.mov (.s 0)), ⟨.push, 81, (some ((.s 0), false)), .load true 6 (.v 15)⟩, ⟨.push, 82, (some ((.s 1), false)), .call 44 [(.s 0)]⟩, ⟨.push, 83, (some ((.s 2), false)), .mov (.v 0)⟩, ⟨.push, 84, (some ((.s 3), false)), .bin false .neq (.s 1) (.s 0)⟩, PO 85 (.pick (.s 4)
 (.c (.bool true)) (.s 0))] (.s 0) (.seq (.region false [ PO 86 (.build [.str [], .int .i64 (0), .int .i64 (0), .int .i64 (0), .int .i64 (0), .int .i64 (0)] []), ⟨.no, 0, none, .store 6 (.v 1) (.s 0)⟩, VO 2 3 (.mov (.c (.bool false)))]) (.ret)) (.skip)) (.seq (.region false [ PO 87 (.load true 6 (.v 15)), ⟨.no, 0, none, .store 6 (.v 1) (.s 0)⟩, VO 2 3 (.mov (.c (.bool true)))]) (.ret))))))))))), [.cell true 6 1, .t 2]⟩
noncomputable def t_65 : List (Nat × Ctr) := [(108, c_hSplit), (109, c_64), (110, c_hCut), (111, c_hRdDec), (44, c_60)]
theorem lk_65_108 : look t_65 108 = some c_hSplit := rfl
theorem lk_65_109 : look t_65 109 = some c_64 := rfl
theorem lk_65_110 : look t_65 110 = some c_hCut := rfl
theorem lk_65_111 : look t_65 111 = some c_hRdDec := rfl
theorem lk_65_44 : look t_65 44 = some c_60 := rfl
noncomputable def c_65 : Ctr := mkN t_65 ir45 [.bor]
theorem s_65 : Sound Tryz.prog 45 c_65 := mkN_sound _ (snd_cons s_hSplit (snd_cons s_64 (snd_cons s_hCut (snd_cons s_hRdDec (snd_cons s_60 snd_nil))))) (by kernel_rfl : chkFn Tryz.prog 45 ir45 ir45_v = true)
theorem M_65 : c_65.modes = [.bor] := rfl
theorem Fl_65 : c_65.flat = false := rfl
attribute [go_sem] M_65 Fl_65
attribute [go_sem] lk_65_108 lk_65_109 lk_65_110 lk_65_111 lk_65_44
theorem Fs_65 {s_ : List UInt8} {y_ : Request × Bool} (h : impl_ReadRequest s_ = some y_) : c_65.F [.str s_] = ⟨true, .tup [Request_av y_.1, .bool y_.2], [.any]⟩ := by
 refine mkN_E ?_
 dsimp only [impl_ReadRequest] at h
 obtain ⟨y_1, z1, h⟩ := bd_some h
 have fz1 := Fs_hSplit z1
 try simp only [go_sem] at fz1
 rcases it_some h with ⟨z2, h⟩ | ⟨z2, h⟩
 ·try simp only [go_sem, n1, n2, n3, n4] at z2
  all_goals
  obtain rfl := so_some h
  refine ⟨0, fun L hL => ?_⟩
  simp only [go_sem, ir45, fz1, z2]
 ·try simp only [go_sem, n1, n2, n3, n4] at z2
  all_goals
  obtain ⟨z3, h⟩ := ck_some h
  have lz3 := ix_lt z3
  have xz3 := getD_mapD AV.str y_1 lz3
  try simp only [go_sem] at lz3
  try simp only [go_sem] at xz3
  try simp only [go_sem, n1, n2, n3, n4, z2] at z3
  all_goals
  obtain ⟨y_4, z4, h⟩ := bd_some h
  have fz4 := Fs_64 z4
  try simp only [go_sem, z2, z3] at fz4
  obtain ⟨z5, h⟩ := ck_some h
  have lz5 := ix_lt z5
  have xz5 := getD_mapD AV.str y_1 lz5
  try simp only [go_sem] at lz5
  try simp only [go_sem] at xz5
  try simp only [go_sem, n1, n2, n3, n4, z2, z3] at z5
  all_goals
  obtain ⟨y_6, z6, h⟩ := bd_some h
  have fz6 := Fs_hCut z6
  try simp only [go_sem, z2, z3, z5] at fz6
  obtain ⟨y_7, z7, h⟩ := bd_some h
  have fz7 := Fs_hRdDec z7
  try simp only [go_sem, z2, z3, z5] at fz7
  obtain ⟨y_8, z8, h⟩ := bd_some h
  have fz8 := Fs_hRdDec z8
  try simp only [go_sem, z2, z3, z5] at fz8
  obtain ⟨z9, h⟩ := ck_some h
  have lz9 := ix_lt z9
  have xz9 := getD_mapD AV.str y_1 lz9
  try simp only [go_sem] at lz9
  try simp only [go_sem] at xz9
  try simp only [go_sem, n1, n2, n3, n4, z2, z3, z5] at z9
  all_goals
  obtain ⟨y_10, z10, h⟩ := bd_some h
  have fz10 := Fs_hRdDec z10
  try simp only [go_sem, z2, z3, z5, z9] at fz10
  obtain ⟨z11, h⟩ := ck_some h
  have lz11 := ix_lt z11
  have xz11 := getD_mapD AV.str y_1 lz11
  try simp only [go_sem] at lz11
  try simp only [go_sem] at xz11
  try simp only [go_sem, n1, n2, n3, n4, z2, z3, z5, z9] at z11
  all_goals
  obtain ⟨z12, h⟩ := ck_some h
  rcases or_split z12 with ⟨gz12, z12⟩ | gz12
  ·try simp only [go_sem, n1, n2, n3, n4, z2, z3, z5, z9, z11] at gz12
   all_goals
   obtain ⟨y_12, hz12⟩ := Option.isSome_iff_exists.1 z12
   have fz12 := Fs_60 hz12
   try simp only [go_sem, n1, n2, n3, n4, z2, z3, z5, z9, z11, gz12] at hz12
   all_goals
   try simp only [go_sem, z2, z3, z5, z9, z11, gz12] at fz12
   rcases it_some h with ⟨z13, h⟩ | ⟨z13, h⟩
   ·try simp only [go_sem, n1, n2, n3, n4, z2, z3, z5, z9, z11, gz12, hz12] at z13
    all_goals
    obtain rfl := so_some h
    refine ⟨0, fun L hL => ?_⟩
    simp only [go_sem, ir45, fz1, z2, z3, lz3, xz3, fz4, z5, lz5, xz5, fz6, fz7, fz8, z9, lz9, xz9, fz10, z11, lz11, xz11, gz12, hz12, fz12, z13]
   ·try simp only [go_sem, n1, n2, n3, n4, z2, z3, z5, z9, z11, gz12, hz12] at z13
    all_goals
    obtain rfl := so_some h
    refine ⟨0, fun L hL => ?_⟩
    simp only [go_sem, ir45, fz1, z2, z3, lz3, xz3, fz4, z5, lz5, xz5, fz6, fz7, fz8, z9, lz9, xz9, fz10, z11, lz11, xz11, gz12, hz12, fz12, z13]
  ·have gz12n := no_f gz12
   rcases or_t gz12n with gz12na | ⟨gz12na, gz12nb⟩
   ·rcases or_t gz12na with gz12naa | ⟨gz12naa, gz12nab⟩
    ·rcases or_t gz12naa with gz12naaa | ⟨gz12naaa, gz12naab⟩
     ·have gz12naaan := no_t gz12naaa
      try simp only [go_sem, n1, n2, n3, n4, z2, z3, z5, z9, z11] at gz12naaan
      all_goals
      rcases it_some h with ⟨z13, h⟩ | ⟨z13, h⟩
      ·try simp only [go_sem, n1, n2, n3, n4, z2, z3, z5, z9, z11, gz12naaan] at z13
       all_goals
       obtain rfl := so_some h
       refine ⟨0, fun L hL => ?_⟩
       simp only [go_sem, ir45, fz1, z2, z3, lz3, xz3, fz4, z5, lz5, xz5, fz6, fz7, fz8, z9, lz9, xz9, fz10, z11, lz11, xz11, gz12naaan, z13]
      ·try simp only [go_sem, n1, n2, n3, n4, z2, z3, z5, z9, z11, gz12naaan] at z13
       all_goals
       (simp_all)
     ·have gz12naaan := no_f gz12naaa
      have gz12naabn := no_t gz12naab
      try simp only [go_sem, n1, n2, n3, n4, z2, z3, z5, z9, z11] at gz12naaan
      all_goals
      try simp only [go_sem, n1, n2, n3, n4, z2, z3, z5, z9, z11, gz12naaan] at gz12naabn
      all_goals
      rcases it_some h with ⟨z13, h⟩ | ⟨z13, h⟩
      ·try simp only [go_sem, n1, n2, n3, n4, z2, z3, z5, z9, z11, gz12naaan, gz12naabn] at z13
       all_goals
       obtain rfl := so_some h
       refine ⟨0, fun L hL => ?_⟩
       simp only [go_sem, ir45, fz1, z2, z3, lz3, xz3, fz4, z5, lz5, xz5, fz6, fz7, fz8, z9, lz9, xz9, fz10, z11, lz11, xz11, gz12naaan, gz12naabn, z13]
      ·try simp only [go_sem, n1, n2, n3, n4, z2, z3, z5, z9, z11, gz12naaan, gz12naabn] at z13
       all_goals
       (simp_all)
    ·obtain ⟨gz12naaa, gz12naab⟩ := or_f gz12naa
     have gz12naaan := no_f gz12naaa
     have gz12naabn := no_f gz12naab
     have gz12nabn := no_t gz12nab
     try simp only [go_sem, n1, n2, n3, n4, z2, z3, z5, z9, z11] at gz12naaan
     all_goals
     try simp only [go_sem, n1, n2, n3, n4, z2, z3, z5, z9, z11, gz12naaan] at gz12naabn
     all_goals
     try simp only [go_sem, n1, n2, n3, n4, z2, z3, z5, z9, z11, gz12naaan, gz12naabn] at gz12nabn
     all_goals
     rcases it_some h with ⟨z13, h⟩ | ⟨z13, h⟩
     ·try simp only [go_sem, n1, n2, n3, n4, z2, z3, z5, z9, z11, gz12naaan, gz12naabn, gz12nabn] at z13
      all_goals
      obtain rfl := so_some h
      refine ⟨0, fun L hL => ?_⟩
      simp only [go_sem, ir45, fz1, z2, z3, lz3, xz3, fz4, z5, lz5, xz5, fz6, fz7, fz8, z9, lz9, xz9, fz10, z11, lz11, xz11, gz12naaan, gz12naabn, gz12nabn, z13]
     ·try simp only [go_sem, n1, n2, n3, n4, z2, z3, z5, z9, z11, gz12naaan, gz12naabn, gz12nabn] at z13
      all_goals
      (simp_all)
   ·obtain ⟨gz12naa, gz12nab⟩ := or_f gz12na
    obtain ⟨gz12naaa, gz12naab⟩ := or_f gz12naa
    have gz12naaan := no_f gz12naaa
    have gz12naabn := no_f gz12naab
    have gz12nabn := no_f gz12nab
    have gz12nbn := no_t gz12nb
    try simp only [go_sem, n1, n2, n3, n4, z2, z3, z5, z9, z11] at gz12naaan
    all_goals
    try simp only [go_sem, n1, n2, n3, n4, z2, z3, z5, z9, z11, gz12naaan] at gz12naabn
    all_goals
    try simp only [go_sem, n1, n2, n3, n4, z2, z3, z5, z9, z11, gz12naaan, gz12naabn] at gz12nabn
    all_goals
    try simp only [go_sem, n1, n2, n3, n4, z2, z3, z5, z9, z11, gz12naaan, gz12naabn, gz12nabn] at gz12nbn
    all_goals
    rcases it_some h with ⟨z13, h⟩ | ⟨z13, h⟩
    ·try simp only [go_sem, n1, n2, n3, n4, z2, z3, z5, z9, z11, gz12naaan, gz12naabn, gz12nabn, gz12nbn] at z13
     all_goals
     obtain rfl := so_some h
     refine ⟨0, fun L hL => ?_⟩
     simp only [go_sem, ir45, fz1, z2, z3, lz3, xz3, fz4, z5, lz5, xz5, fz6, fz7, fz8, z9, lz9, xz9, fz10, z11, lz11, xz11, gz12naaan, gz12naabn, gz12nabn, gz12nbn, z13]
    ·try simp only [go_sem, n1, n2, n3, n4, z2, z3, z5, z9, z11, gz12naaan, gz12naabn, gz12nabn, gz12nbn] at z13
     all_goals
     (simp_all)


def ir89_b0 : IR := .seq (.test false [ PM 8 3, PO 9 (.bin false .neq (.s 0) (I6 0))] (.s 0) (.skip) (.exit 0)) (.seq (.block 1 (.seq (.region false [ PM 12 3, PO 13 (.bin false .rem (.s 0) (I6 10)), VS 4 5 0]) (.seq (.test false [ PM 14 4, PO 15 (.bin false .lss (.s 0) (I6 0))] (.s 0) (.region false [ PM 16 4, PO 17 (.un .neg (.s 0)), VS 4 5 0]) (.skip)) (.region false [ PM 18 4, PO 19 (.bin false .add (I6 48) (.s 0)), PO 20 (.conv .u8 (.s 0)), PO 21 (.mkSl 1 (.int .u8 (0)) 1 [(0, (.s 0))]), PM 22 2, PO 23 (.app 1 1 (.int .u8 (0)) (.s 1) (.s 0)), VS 2 3 0])))) (.region false [ PM 10 3, PO 11
 (.bin false .quo (.s 0) (I6 10)), VS 3 4 0]))
def ir89_k0 : List Bool := [true, false, true, true, false]
def ir89_o0 : List Bool := [true, false, true, false, false]
def ir89_r0 : List Bool := [false, true, false, false, false]
def ir89_v : List Nat := [0, 2, 3, 4, 5]
def ir89 : AFn := ⟨1, 5, .seq (.region false [ VO 1 2 (.mov (.c (.str [])))]) (.seq (.region false [ PO 6 (.mkSl 1 (.int .u8 (0)) 0 []), VS 2 3 0]) (.seq (.seq (.region false [ PM 7 0, VS 3 4 0]) (.block 0 (.loop ir89_k0 ir89_o0 ir89_r0 ir89_b0))) (.seq (.test false [ PM 24 2, PO 25 (.len false (.s 0)), PO 26 (.bin false .eql (.s 0) (I6 0))] (.s 0) (.seq (.region false [ VO 1 2 (.mov (.c (.str [48])))]) (.ret)) (.skip)) (.seq (.test false [ PM 27 0, PO 28 (.bin false .lss (.s 0) (I6 0))] (.s 0) (.seq (.region false [ PM 29 2, PO 30 (.b2s (.s 0)), PO 31 (.bin false .add (.c (.str [45])) (.s 0)),
 VS 1 2 0]) (.ret)) (.skip)) (.seq (.region false [ PM 32 2, PO 33 (.b2s (.s 0)), VS 1 2 0]) (.ret)))))), [.t 1]⟩
noncomputable def t_66 : List (Nat × Ctr) := []
noncomputable def c_66 : Ctr := mkF t_66 ir89 [.bor]
theorem s_66 : Sound Tryz.prog 89 c_66 := mkF_sound _ rfl snd_nil (by kernel_rfl : chkFn Tryz.prog 89 ir89 ir89_v = true)
theorem M_66 : c_66.modes = [.bor] := rfl
theorem Fl_66 : c_66.flat = true := rfl
attribute [go_sem] M_66 Fl_66
def E_66_l1 (n : Int) : ((List UInt8) × Int) → St
 | (out, k) => ⟨[.int .i64 n, .any, .own 3200000, .int .i64 k, .any], [], [(3200000, ⟨1, List.map byteAV out⟩)], true⟩
def R_66_l1 (n : Int) (y : (List UInt8)) : Res := (.exit 0, ⟨[.int .i64 n, .any, .own 3200000, .any, .any], [], [(3200000, ⟨1, List.map byteAV y⟩)], true⟩)
theorem spec_l01Dec_l1_ex {n : Int} {sgm_ : (List UInt8) × Int} {rho_ : (List UInt8)} (h : whileE (spec_l01Dec_l1 n) sgm_ = some rho_) : ∃ L0, ∀ L, L0 ≤ L → iter (exec (look t_66) L ir89_b0) ir89_k0 ir89_o0 ir89_r0 L (E_66_l1 n sgm_) = R_66_l1 n rho_ := by
 refine loop_ex (E := E_66_l1 n) (R := R_66_l1 n) (fun y => by first | (intro c; cases c) | (rcases y with y | y <;> (intro c; cases c)) | (rcases y with y | y | y <;> (intro c; cases c))) ?_ h
 clear h
 rintro ⟨out, k⟩ o_ h
 dsimp only [spec_l01Dec_l1] at h
 rcases it_some h with ⟨z1, h⟩ | ⟨z1, h⟩
 ·try simp only [go_sem, n1, n2, n3, n4] at z1
  all_goals
  obtain ⟨z2, h⟩ := ck_some h
  try simp only [go_sem, n1, n2, n3, n4, z1] at z2
  all_goals
  rcases it_some h with ⟨z3, h⟩ | ⟨z3, h⟩
  ·try simp only [go_sem, n1, n2, n3, n4, z1, z2] at z3
   all_goals
   obtain ⟨z4, h⟩ := ck_some h
   try simp only [go_sem, n1, n2, n3, n4, z1, z2, z3] at z4
   all_goals
   obtain rfl := so_some h
   refine ⟨0, fun L hL => ?_⟩
   simp only [go_sem, ir89, E_66_l1, R_66_l1, ir89_b0, ir89_k0, ir89_o0, ir89_r0, z1, z2, z3, z4]
  ·try simp only [go_sem, n1, n2, n3, n4, z1, z2] at z3
   all_goals
   obtain ⟨z5, h⟩ := ck_some h
   try simp only [go_sem, n1, n2, n3, n4, z1, z2, z3] at z5
   all_goals
   obtain rfl := so_some h
   refine ⟨0, fun L hL => ?_⟩
   simp only [go_sem, ir89, E_66_l1, R_66_l1, ir89_b0, ir89_k0, ir89_o0, ir89_r0, z1, z2, z3, z5]
 ·try simp only [go_sem, n1, n2, n3, n4] at z1
  all_goals
  obtain rfl := so_some h
  refine ⟨0, fun L hL => ?_⟩
  simp only [go_sem, ir89, E_66_l1, R_66_l1, ir89_b0, ir89_k0, ir89_o0, ir89_r0, z1]

theorem Fs_66 {n : Int} {y_ : (List UInt8)} (h : spec_l01Dec n = some y_) : c_66.F [.int .i64 n] = ⟨true, .str y_, [.any]⟩ := by
 refine mkF_E rfl ?_
 dsimp only [spec_l01Dec] at h
 obtain ⟨y_6, z6, h⟩ := bd_some h
 obtain ⟨Lz6, ez6⟩ := spec_l01Dec_l1_ex z6
 rcases it_some h with ⟨z7, h⟩ | ⟨z7, h⟩
 ·try simp only [go_sem, n1, n2, n3, n4] at z7
  all_goals
  obtain rfl := so_some h
  refine ⟨Lz6, fun L hL => ?_⟩
  have ez6 := ez6 L (by omega)
  try simp only [go_sem, E_66_l1, R_66_l1, ir89_k0, ir89_o0, ir89_r0, z7] at ez6
  simp only [go_sem, ir89, E_66_l1, R_66_l1, ir89_k0, ir89_o0, ir89_r0, z7, ez6]
 ·try simp only [go_sem, n1, n2, n3, n4] at z7
  all_goals
  rcases it_some h with ⟨z8, h⟩ | ⟨z8, h⟩
  ·try simp only [go_sem, n1, n2, n3, n4, z7] at z8
   all_goals
   obtain ⟨z9, h⟩ := ck_some h
   try simp only [go_sem, n1, n2, n3, n4, z7, z8] at z9
   all_goals
   obtain rfl := so_some h
   refine ⟨Lz6, fun L hL => ?_⟩
   have ez6 := ez6 L (by omega)
   try simp only [go_sem, E_66_l1, R_66_l1, ir89_k0, ir89_o0, ir89_r0, z7, z8, z9] at ez6
   simp only [go_sem, ir89, E_66_l1, R_66_l1, ir89_k0, ir89_o0, ir89_r0, z7, z8, z9, ez6]
  ·try simp only [go_sem, n1, n2, n3, n4, z7] at z8
   all_goals
   obtain rfl := so_some h
   refine ⟨Lz6, fun L hL => ?_⟩
   have ez6 := ez6 L (by omega)
   try simp only [go_sem, E_66_l1, R_66_l1, ir89_k0, ir89_o0, ir89_r0, z7, z8] at ez6
   simp only [go_sem, ir89, E_66_l1, R_66_l1, ir89_k0, ir89_o0, ir89_r0, z7, z8, ez6]


def ir112_v : List Nat := [0, 2]
def ir112 : AFn := ⟨1, 2, .seq (.region false [ VO 1 2 (.mov (.c (.str [])))]) (.seq (.anyo 39 [ SO 0 3 (.mov (.v 0)), SO 1 4 (.nilck (.s 0)), SO 2 5 (.fldAddr 0 (.s 1)), SO 3 6 (.load false 1 (.s 2)), SO 4 7 (.bin false .add (.s 3) (.c (.str [32]))), SO 5 8 (.mov (.v 0)), SO 6 9 (.nilck (.s 5)), SO 7 10 (.fldAddr 1 (.s 6)), SO 8 11 (.load false 1 (.s 7)), SO 9 12 (.callp 89 [(.s 8)]), SO 10 13 (.bin false .add (.s 4) (.s 9)), SO 11 14 (.bin false .add (.s 10) (.c (.str [46, 46]))), SO 12 15 (.mov (.v 0)), SO 13 16 (.nilck (.s 12)), SO 14 17 (.fldAddr 2 (.s 13)), SO 15 18 (.load false 1 (.s
 14)), SO 16 19 (.callp 89 [(.s 15)]), SO 17 20 (.bin false .add (.s 11) (.s 16)), SO 18 21 (.bin false .add (.s 17) (.c (.str [32]))), SO 19 22 (.mov (.v 0)), SO 20 23 (.nilck (.s 19)), SO 21 24 (.fldAddr 4 (.s 20)), SO 22 25 (.load false 1 (.s 21)), SO 23 26 (.callp 89 [(.s 22)]), SO 24 27 (.bin false .add (.s 18) (.s 23)), SO 25 28 (.bin false .add (.s 24) (.c (.str [47]))), SO 26 29 (.mov (.v 0)), SO 27 30 (.nilck (.s 26)), SO 28 31 (.fldAddr 3 (.s 27)), SO 29 32 (.load false 1 (.s 28)), SO 30 33 (.callp 89 [(.s 29)]), SO 31 34 (.bin false .add (.s 25) (.s 30)), SO 32 35 (.bin false .add
 (.s 31) (.c (.str [32, 112, 114, 105, 111, 114, 105, 116, 121, 32]))), SO 33 36 (.mov (.v 0)), SO 34 37 (.nilck (.s 33)), SO 35 38 (.fldAddr 5 (.s 34)), SO 36 39 (.load false 1 (.s 35)), SO 37 40 (.callp 89 [(.s 36)]), SO 38 41 (.bin false .add (.s 32) (.s 37)), VS 1 2 38] [] .skip) (.ret)), [.t 1]⟩
noncomputable def t_67 : List (Nat × Ctr) := [(89, c_66)]
theorem lk_67_89 : look t_67 89 = some c_66 := rfl
noncomputable def c_67 : Ctr := mkF t_67 ir112 [.bor]
theorem s_67 : Sound Tryz.prog 112 c_67 := mkF_sound _ rfl (snd_cons s_66 snd_nil) (by kernel_rfl : chkFn Tryz.prog 112 ir112 ir112_v = true)
theorem M_67 : c_67.modes = [.bor] := rfl
theorem Fl_67 : c_67.flat = true := rfl
attribute [go_sem] M_67 Fl_67
attribute [go_sem] lk_67_89
theorem Fs_67 {x : Request} {y_ : (List UInt8)} (h : spec_l22Text x = some y_) : c_67.F [.ptr 6 [Request_av x] 0 0] = ⟨true, .str y_, [.any]⟩ := by
 refine mkF_E rfl ?_
 dsimp only [spec_l22Text] at h
 obtain ⟨z1, h⟩ := ck_some h
 try simp only [go_sem, n1, n2, n3, n4] at z1
 all_goals
 obtain ⟨y_2, z2, h⟩ := bd_some h
 have fz2 := Fs_66 z2
 try simp only [go_sem, z1] at fz2
 obtain ⟨z3, h⟩ := ck_some h
 try simp only [go_sem, n1, n2, n3, n4, z1] at z3
 all_goals
 obtain ⟨z4, h⟩ := ck_some h
 try simp only [go_sem, n1, n2, n3, n4, z1, z3] at z4
 all_goals
 obtain ⟨y_5, z5, h⟩ := bd_some h
 have fz5 := Fs_66 z5
 try simp only [go_sem, z1, z3, z4] at fz5
 obtain ⟨z6, h⟩ := ck_some h
 try simp only [go_sem, n1, n2, n3, n4, z1, z3, z4] at z6
 all_goals
 obtain ⟨z7, h⟩ := ck_some h
 try simp only [go_sem, n1, n2, n3, n4, z1, z3, z4, z6] at z7
 all_goals
 obtain ⟨y_8, z8, h⟩ := bd_some h
 have fz8 := Fs_66 z8
 try simp only [go_sem, z1, z3, z4, z6, z7] at fz8
 obtain ⟨z9, h⟩ := ck_some h
 try simp only [go_sem, n1, n2, n3, n4, z1, z3, z4, z6, z7] at z9
 all_goals
 obtain ⟨z10, h⟩ := ck_some h
 try simp only [go_sem, n1, n2, n3, n4, z1, z3, z4, z6, z7, z9] at z10
 all_goals
 obtain ⟨y_11, z11, h⟩ := bd_some h
 have fz11 := Fs_66 z11
 try simp only [go_sem, z1, z3, z4, z6, z7, z9, z10] at fz11
 obtain ⟨z12, h⟩ := ck_some h
 try simp only [go_sem, n1, n2, n3, n4, z1, z3, z4, z6, z7, z9, z10] at z12
 all_goals
 obtain ⟨z13, h⟩ := ck_some h
 try simp only [go_sem, n1, n2, n3, n4, z1, z3, z4, z6, z7, z9, z10, z12] at z13
 all_goals
 obtain ⟨y_14, z14, h⟩ := bd_some h
 have fz14 := Fs_66 z14
 try simp only [go_sem, z1, z3, z4, z6, z7, z9, z10, z12, z13] at fz14
 obtain ⟨z15, h⟩ := ck_some h
 try simp only [go_sem, n1, n2, n3, n4, z1, z3, z4, z6, z7, z9, z10, z12, z13] at z15
 all_goals
 obtain rfl := so_some h
 refine ⟨0, fun L hL => ?_⟩
 simp only [go_sem, ir112, z1, fz2, z3, z4, fz5, z6, z7, fz8, z9, z10, fz11, z12, z13, fz14, z15]


def ir113_v : List Nat := [0, 1, 4, 5, 6, 8]
def ir113 : AFn := ⟨2, 6, .seq (.region false [ VO 2 4 (.mov (.c (.str [])))]) (.seq (.seq (.region false [ PM 7 0, VO 5 8 (.call 70 [(.s 0), (I6 5)])]) (.block 0 (.test false [ PO 10 (.bin false .eql (.v 5) (I6 0)), PO 9 (.mov (.s 0))] (.s 0) (.seq (.region false [ PM 11 0, PM 12 1, PO 13 (.len true (.s 0)), PO 14 (.bin false .add (.s 0) (I6 1)), PO 15 (.call 70 [(.s 3), (.s 0)]), VS 3 5 0]) (.anyo 11 [ SO 0 16 (.flat (.mov (.v 1))), SO 1 17 (.flat (.mov (.v 3))), SO 2 18 (.flat (.pur (.slice 0 (.s 0) none (some (.s 1))))), SO 3 19 (.mov (.v 0)), SO 4 20 (.pur (.mkSl 1 (.str []) 7 [(0, (.c
 (.str [32]))), (1, (.c (.str [48]))), (2, (.c (.str [45]))), (3, (.c (.str [120]))), (4, (.c (.str [49]))), (5, (.c (.str [57]))), (6, (.c (.str [46])))])), SO 5 21 (.call 120 [(.s 3), (.s 4)]), SO 6 22 (.flat (.bin false .add (.s 2) (.s 5))), SO 7 23 (.flat (.mov (.v 1))), SO 8 24 (.flat (.mov (.v 3))), SO 9 25 (.flat (.pur (.slice 0 (.s 7) (some (.s 8)) none))), SO 10 26 (.flat (.bin false .add (.s 6) (.s 9))), VO 1 1 (.flat (.mov (.s 10)))] [] .skip)) (.test false [ PO 28 (.bin false .eql (.v 5) (I6 1)), PO 27 (.mov (.s 0))] (.s 0) (.test false [ PM 29 1, PO 30 (.bin false .neq (.s 0) (.c
 (.str [])))] (.s 0) (.seq (.region false [ PM 31 0, PM 32 1, PO 33 (.len true (.s 0)), PO 34 (.call 70 [(.s 2), (.s 0)]), VS 4 6 0]) (.anyo 8 [ SO 0 35 (.mov (.v 1)), SO 1 36 (.mov (.v 4)), SO 2 37 (.pur (.slice 0 (.s 0) none (some (.s 1)))), SO 3 38 (.mov (.v 1)), SO 4 39 (.mov (.v 4)), SO 5 40 (.bin false .add (.s 4) (I6 1)), SO 6 41 (.pur (.slice 0 (.s 3) (some (.s 5)) none)), SO 7 42 (.bin false .add (.s 2) (.s 6)), VS 1 1 7] [] .skip)) (.skip)) (.skip))))) (.seq (.region false [ PM 43 1, VS 2 4 0]) (.ret))), [.t 2]⟩
noncomputable def t_68 : List (Nat × Ctr) := [(70, c_3), (120, c_5)]
theorem lk_68_70 : look t_68 70 = some c_3 := rfl
theorem lk_68_120 : look t_68 120 = some c_5 := rfl
noncomputable def c_68 : Ctr := mkN t_68 ir113 [.io, .bor]
theorem s_68 : Sound Tryz.prog 113 c_68 := mkN_sound _ (snd_cons s_3 (snd_cons s_5 snd_nil)) (by kernel_rfl : chkFn Tryz.prog 113 ir113 ir113_v = true)
theorem M_68 : c_68.modes = [.io, .bor] := rfl
theorem Fl_68 : c_68.flat = false := rfl
attribute [go_sem] M_68 Fl_68
attribute [go_sem] lk_68_70 lk_68_120
theorem Fs_68 {s_ : L00Src} {t : List UInt8} {y_ : (List UInt8) × L00Src} (h : spec_l01Spoil s_ t = some y_) : c_68.F [.mem 3 [L00Src_av s_] 0, .str t] = ⟨true, .str y_.1, [.mem 3 [L00Src_av y_.2] 0, .any]⟩ := by
 refine mkN_E ?_
 dsimp only [spec_l01Spoil] at h
 obtain ⟨y_1, z1, h⟩ := bd_some h
 have fz1 := Fs_3 z1
 try simp only [go_sem] at fz1
 rcases it_some h with ⟨z2, h⟩ | ⟨z2, h⟩
 ·try simp only [go_sem, n1, n2, n3, n4] at z2
  all_goals
  obtain ⟨y_3, z3, h⟩ := bd_some h
  have fz3 := Fs_3 z3
  try simp only [go_sem, z2] at fz3
  obtain ⟨z4, h⟩ := ck_some h
  try simp only [go_sem, n1, n2, n3, n4, z2] at z4
  all_goals
  obtain ⟨y_5, z5, h⟩ := bd_some h
  have fz5 := Fs_5 z5
  try simp only [go_sem, z2, z4] at fz5
  obtain ⟨z6, h⟩ := ck_some h
  try simp only [go_sem, n1, n2, n3, n4, z2, z4] at z6
  all_goals
  obtain ⟨z7, h⟩ := ck_some h
  try simp only [go_sem, n1, n2, n3, n4, z2, z4, z6] at z7
  all_goals
  obtain ⟨z8, h⟩ := ck_some h
  try simp only [go_sem, n1, n2, n3, n4, z2, z4, z6, z7] at z8
  all_goals
  obtain rfl := so_some h
  refine ⟨0, fun L hL => ?_⟩
  simp only [go_sem, ir113, fz1, z2, fz3, z4, fz5, z6, z7, z8]
 ·try simp only [go_sem, n1, n2, n3, n4] at z2
  all_goals
  rcases it_some h with ⟨z9, h⟩ | ⟨z9, h⟩
  ·try simp only [go_sem, n1, n2, n3, n4, z2] at z9
   all_goals
   rcases it_some h with ⟨z10, h⟩ | ⟨z10, h⟩
   ·try simp only [go_sem, n1, n2, n3, n4, z2, z9] at z10
    all_goals
    obtain ⟨y_11, z11, h⟩ := bd_some h
    have fz11 := Fs_3 z11
    try simp only [go_sem, z2, z9, z10] at fz11
    obtain ⟨z12, h⟩ := ck_some h
    try simp only [go_sem, n1, n2, n3, n4, z2, z9, z10] at z12
    all_goals
    obtain ⟨z13, h⟩ := ck_some h
    try simp only [go_sem, n1, n2, n3, n4, z2, z9, z10, z12] at z13
    all_goals
    obtain ⟨z14, h⟩ := ck_some h
    try simp only [go_sem, n1, n2, n3, n4, z2, z9, z10, z12, z13] at z14
    all_goals
    obtain rfl := so_some h
    refine ⟨0, fun L hL => ?_⟩
    simp only [go_sem, ir113, fz1, z2, z9, z10, fz11, z12, z13, z14]
   ·try simp only [go_sem, n1, n2, n3, n4, z2, z9] at z10
    all_goals
    obtain rfl := so_some h
    refine ⟨0, fun L hL => ?_⟩
    simp only [go_sem, ir113, fz1, z2, z9, z10]
  ·try simp only [go_sem, n1, n2, n3, n4, z2] at z9
   all_goals
   obtain rfl := so_some h
   refine ⟨0, fun L hL => ?_⟩
   simp only [go_sem, ir113, fz1, z2, z9]


def ir46_v : List Nat := [0, 2, 3, 4, 5]
def ir46 : AFn := ⟨1, 5, .seq (.region false [ VO 1 2 (.mov (.c (.str [])))]) (.seq (.region false [ PM 6 0, PO 7 (.call 54 [(.s 0)]), VS 2 3 0]) (.seq (.region false [ PM 8 2, PO 9 (.call 103 [(.s 0)]), VO 3 4 (.alloc (.agg [.str [], .int .i64 (0), .int .i64 (0), .int .i64 (0), .int .i64 (0), .int .i64 (0)])), ⟨.no, 0, none, .store 6 (.v 3) (.s 0)⟩]) (.seq (.region false [ PO 10 (.call 112 [(.v 3)]), VS 4 5 0]) (.seq (.test false [ PM 11 2, PO 12 (.call 58 [(.s 0), (I6 3)])] (.s 0) (.seq (.region false [ PM 13 2, PM 14 4, PO 15 (.call 113 [(.s 1), (.s 0)]), VS 1 2 0]) (.ret)) (.skip)) (.seq
 (.region false [ PM 16 4, VS 1 2 0]) (.ret)))))), [.t 1]⟩
noncomputable def t_69 : List (Nat × Ctr) := [(54, c_1), (103, c_6), (112, c_67), (58, c_4), (113, c_68)]
theorem lk_69_54 : look t_69 54 = some c_1 := rfl
theorem lk_69_103 : look t_69 103 = some c_6 := rfl
theorem lk_69_112 : look t_69 112 = some c_67 := rfl
theorem lk_69_58 : look t_69 58 = some c_4 := rfl
theorem lk_69_113 : look t_69 113 = some c_68 := rfl
noncomputable def c_69 : Ctr := mkF t_69 ir46 [.bor]
theorem s_69 : Sound Tryz.prog 46 c_69 := mkF_sound _ rfl (snd_cons s_1 (snd_cons s_6 (snd_cons s_67 (snd_cons s_4 (snd_cons s_68 snd_nil))))) (by kernel_rfl : chkFn Tryz.prog 46 ir46 ir46_v = true)
theorem M_69 : c_69.modes = [.bor] := rfl
theorem Fl_69 : c_69.flat = true := rfl
attribute [go_sem] M_69 Fl_69
attribute [go_sem] lk_69_54 lk_69_103 lk_69_112 lk_69_58 lk_69_113
theorem Fs_69 {code : List UInt8} {y_ : (List UInt8)} (h : spec_DrawReadRequest code = some y_) : c_69.F [.sl 1 (List.map byteAV code)] = ⟨true, .str y_, [.any]⟩ := by
 refine mkF_E rfl ?_
 dsimp only [spec_DrawReadRequest] at h
 obtain ⟨y_1, z1, h⟩ := bd_some h
 have fz1 := Fs_1 z1
 try simp only [go_sem] at fz1
 obtain ⟨y_2, z2, h⟩ := bd_some h
 have fz2 := Fs_6 z2
 try simp only [go_sem] at fz2
 obtain ⟨y_3, z3, h⟩ := bd_some h
 have fz3 := Fs_67 z3
 try simp only [go_sem] at fz3
 obtain ⟨y_4, z4, h⟩ := bd_some h
 have fz4 := Fs_4 z4
 try simp only [go_sem] at fz4
 rcases it_some h with ⟨z5, h⟩ | ⟨z5, h⟩
 ·try simp only [go_sem, n1, n2, n3, n4] at z5
  all_goals
  obtain ⟨y_6, z6, h⟩ := bd_some h
  have fz6 := Fs_68 z6
  try simp only [go_sem, z5] at fz6
  obtain rfl := so_some h
  refine ⟨0, fun L hL => ?_⟩
  simp only [go_sem, ir46, fz1, fz2, fz3, fz4, z5, fz6]
 ·try simp only [go_sem, n1, n2, n3, n4] at z5
  all_goals
  obtain rfl := so_some h
  refine ⟨0, fun L hL => ?_⟩
  simp only [go_sem, ir46, fz1, fz2, fz3, fz4, z5]


def ir114_b0 : IR := .seq (.test false [ PM 9 5, PM 10 0, PO 11 (.len true (.s 0)), PO 12 (.bin false .lss (.s 2) (.s 0))] (.s 0) (.skip) (.exit 0)) (.seq (.block 1 (.test false [ PM 15 0, PM 16 5, PO 17 (.ixStr (.s 1) (.s 0)), PM 18 1, PO 19 (.bin false .eql (.s 1) (.s 0))] (.s 0) (.seq (.region false [ PM 20 3, PM 21 0, PM 22 4, PM 23 5, PO 24 (.slice 0 (.s 2) (some (.s 1)) (some (.s 0))), PO 25 (.mkSl 1 (.str []) 1 [(0, (.s 0))]), PO 26 (.app 1 16 (.str []) (.s 5) (.s 0)), VS 3 5 0]) (.region false [ PM 27 5, PO 28 (.bin false .add (.s 0) (I6 1)), VS 4 6 0])) (.skip))) (.region false [ PM 13
 5, PO 14 (.bin false .add (.s 0) (I6 1)), VS 5 7 0]))
def ir114_k0 : List Bool := [true, true, false, true, true, true]
def ir114_o0 : List Bool := [true, false, false, true, true, false]
def ir114_r0 : List Bool := [false, false, true, false, false, false]
def ir114_v : List Nat := [0, 1, 4, 5, 6, 7]
def ir114 : AFn := ⟨2, 6, .seq (.region false [ VO 2 4 (.newnil 1)]) (.seq (.region false [ PO 8 (.mkSl 1 (.str []) 0 []), VS 3 5 0]) (.seq (.region false [ VO 4 6 (.mov (I6 0))]) (.seq (.seq (.region false [ VO 5 7 (.mov (I6 0))]) (.block 0 (.loop ir114_k0 ir114_o0 ir114_r0 ir114_b0))) (.seq (.region false [ PM 29 3, PM 30 0, PM 31 4, PO 32 (.slice 0 (.s 1) (some (.s 0)) none), PO 33 (.mkSl 1 (.str []) 1 [(0, (.s 0))]), PO 34 (.app 1 16 (.str []) (.s 4) (.s 0)), VS 2 4 0]) (.ret))))), [.t 2]⟩
noncomputable def t_70 : List (Nat × Ctr) := []
noncomputable def c_70 : Ctr := mkF t_70 ir114 [.bor, .bor]
theorem s_70 : Sound Tryz.prog 114 c_70 := mkF_sound _ rfl snd_nil (by kernel_rfl : chkFn Tryz.prog 114 ir114 ir114_v = true)
theorem M_70 : c_70.modes = [.bor, .bor] := rfl
theorem Fl_70 : c_70.flat = true := rfl
attribute [go_sem] M_70 Fl_70
def E_70_l1 (s_ : List UInt8) (by_ : UInt8) : ((List (List UInt8)) × Int × Int) → St
 | (out, from_, i) => ⟨[.str s_, .int .u8 (by_.toNat : Int), .any, .own 3200000, .int .i64 from_, .int .i64 i], [], [(3200000, ⟨1, List.map AV.str out⟩)], true⟩
def R_70_l1 (s_ : List UInt8) (by_ : UInt8) (y : (List (List UInt8)) × Int) : Res := (.exit 0, ⟨[.str s_, .any, .any, .own 3200000, .int .i64 y.2, .any], [], [(3200000, ⟨1, List.map AV.str y.1⟩)], true⟩)
theorem spec_l01Split_l1_ex {s_ : List UInt8} {by_ : UInt8} {sgm_ : (List (List UInt8)) × Int × Int} {rho_ : (List (List UInt8)) × Int} (h : whileE (spec_l01Split_l1 s_ by_) sgm_ = some rho_) : ∃ L0, ∀ L, L0 ≤ L → iter (exec (look t_70) L ir114_b0) ir114_k0 ir114_o0 ir114_r0 L (E_70_l1 s_ by_ sgm_) = R_70_l1 s_ by_ rho_ := by
 refine loop_ex (E := E_70_l1 s_ by_) (R := R_70_l1 s_ by_) (fun y => by first | (intro c; cases c) | (rcases y with y | y <;> (intro c; cases c)) | (rcases y with y | y | y <;> (intro c; cases c))) ?_ h
 clear h
 rintro ⟨out, from_, i⟩ o_ h
 dsimp only [spec_l01Split_l1] at h
 rcases it_some h with ⟨z1, h⟩ | ⟨z1, h⟩
 ·try simp only [go_sem, n1, n2, n3, n4] at z1
  all_goals
  obtain ⟨z2, h⟩ := ck_some h
  try simp only [go_sem, n1, n2, n3, n4, z1] at z2
  all_goals
  rcases it_some h with ⟨z3, h⟩ | ⟨z3, h⟩
  ·try simp only [go_sem, n1, n2, n3, n4, z1, z2] at z3
   all_goals
   obtain ⟨z4, h⟩ := ck_some h
   try simp only [go_sem, n1, n2, n3, n4, z1, z2, z3] at z4
   all_goals
   obtain ⟨z5, h⟩ := ck_some h
   try simp only [go_sem, n1, n2, n3, n4, z1, z2, z3, z4] at z5
   all_goals
   obtain rfl := so_some h
   refine ⟨0, fun L hL => ?_⟩
   simp only [go_sem, ir114, E_70_l1, R_70_l1, ir114_b0, ir114_k0, ir114_o0, ir114_r0, z1, z2, z3, z4, z5]
  ·try simp only [go_sem, n1, n2, n3, n4, z1, z2] at z3
   all_goals
   obtain rfl := so_some h
   refine ⟨0, fun L hL => ?_⟩
   simp only [go_sem, ir114, E_70_l1, R_70_l1, ir114_b0, ir114_k0, ir114_o0, ir114_r0, z1, z2, z3]
 ·try simp only [go_sem, n1, n2, n3, n4] at z1
  all_goals
  obtain rfl := so_some h
  refine ⟨0, fun L hL => ?_⟩
  simp only [go_sem, ir114, E_70_l1, R_70_l1, ir114_b0, ir114_k0, ir114_o0, ir114_r0, z1]

theorem Fs_70 {s_ : List UInt8} {by_ : UInt8} {y_ : (List (List UInt8))} (h : spec_l01Split s_ by_ = some y_) : c_70.F [.str s_, .int .u8 (by_.toNat : Int)] = ⟨true, .fresh 1 (List.map AV.str y_), [.any, .any]⟩ := by
 refine mkF_E (by simp only [flatA, flatB, flat1, List.all_cons, List.all_nil, Bool.and_self, flatE_map (f := AV.str) (fun _ => rfl)]) ?_
 dsimp only [spec_l01Split] at h
 obtain ⟨y_6, z6, h⟩ := bd_some h
 obtain ⟨Lz6, ez6⟩ := spec_l01Split_l1_ex z6
 obtain ⟨z7, h⟩ := ck_some h
 try simp only [go_sem, n1, n2, n3, n4] at z7
 all_goals
 obtain ⟨z8, h⟩ := ck_some h
 try simp only [go_sem, n1, n2, n3, n4, z7] at z8
 all_goals
 obtain rfl := so_some h
 refine ⟨Lz6, fun L hL => ?_⟩
 have ez6 := ez6 L (by omega)
 try simp only [go_sem, E_70_l1, R_70_l1, ir114_k0, ir114_o0, ir114_r0, z7, z8] at ez6
 simp only [go_sem, ir114, E_70_l1, R_70_l1, ir114_k0, ir114_o0, ir114_r0, z7, z8, ez6]


def ir116_b0 : IR := .seq (.test false [ PM 25 5, PM 26 3, PO 27 (.len true (.s 0)), PO 28 (.bin false .lss (.s 2) (.s 0))] (.s 0) (.skip) (.exit 0)) (.seq (.block 1 (.seq (.test false [ PM 31 3, PM 32 5, PO 33 (.ixStr (.s 1) (.s 0)), PO 34 (.call 133 [(.s 0)]), PO 35 (.un .not (.s 0))] (.s 0) (.seq (.region false [ VO 1 2 (.mov (I6 0)), VO 2 3 (.mov (.c (.bool false)))]) (.ret)) (.skip)) (.region false [ PM 36 4, PO 37 (.bin false .mul (I6 10) (.s 0)), PM 38 3, PM 39 5, PO 40 (.ixStr (.s 1) (.s 0)), PO 41 (.bin false .sub (.s 0) (.c (.int .u8 (48)))), PO 42 (.conv .i64 (.s 0)), PO 43 (.bin
 false .add (.s 5) (.s 0)), VS 4 5 0]))) (.region false [ PM 29 5, PO 30 (.bin false .add (.s 0) (I6 1)), VS 5 6 0]))
def ir116_k0 : List Bool := [true, false, false, true, true, true]
def ir116_o0 : List Bool := [true, false, false, true, true, false]
def ir116_r0 : List Bool := [false, true, true, false, false, false]
def ir116_v : List Nat := [0, 2, 3, 4, 5, 6]
def ir116 : AFn := ⟨1, 6, .seq (.region false [ VO 1 2 (.mov (I6 0)), VO 2 3 (.mov (.c (.bool false)))]) (.seq (.region false [ PM 7 0, VS 3 4 0]) (.seq (.test false [ PM 8 3, PO 9 (.bin false .neq (.s 0) (.c (.str []))), PO 10 (.mov (.s 0)), ⟨.push, 11, (some ((.s 0), true)), .mov (.v 3)⟩, ⟨.push, 12, (some ((.s 1), true)), .ixStr (.s 0) (I6 0)⟩, ⟨.push, 13, (some ((.s 2), true)), .bin false .eql (.s 0) (.c (.int .u8 (45)))⟩, PO 14 (.pick (.s 3) (.s 0) (.c (.bool false)))] (.s 0) (.region false [ PM 15 3, PO 16 (.slice 0 (.s 0) (some (I6 1)) none), VS 3 4 0]) (.skip)) (.seq (.test false [ PM
 17 3, PO 18 (.len true (.s 0)), PO 19 (.bin false .lss (.s 0) (I6 1)), PO 20 (.mov (.s 0)), ⟨.push, 21, (some ((.s 0), false)), .mov (.v 3)⟩, ⟨.push, 22, (some ((.s 1), false)), .len true (.s 0)⟩, ⟨.push, 23, (some ((.s 2), false)), .bin false .gtr (.s 0) (I6 18)⟩, PO 24 (.pick (.s 3) (.c (.bool true)) (.s 0))] (.s 0) (.seq (.region false [ VO 1 2 (.mov (I6 0)), VO 2 3 (.mov (.c (.bool false)))]) (.ret)) (.skip)) (.seq (.region false [ VO 4 5 (.mov (I6 0))]) (.seq (.seq (.region false [ VO 5 6 (.mov (I6 0))]) (.block 0 (.loop ir116_k0 ir116_o0 ir116_r0 ir116_b0))) (.seq (.test false [ PM 44 3,
 PO 45 (.len true (.s 0)), PM 46 0, PO 47 (.len true (.s 0)), PO 48 (.bin false .lss (.s 2) (.s 0))] (.s 0) (.region false [ PM 49 4, PO 50 (.un .neg (.s 0)), VS 4 5 0]) (.skip)) (.seq (.test false [ PM 51 4, PO 52 (.call 89 [(.s 0)]), PM 53 0, PO 54 (.bin false .neq (.s 1) (.s 0))] (.s 0) (.seq (.region false [ VO 1 2 (.mov (I6 0)), VO 2 3 (.mov (.c (.bool false)))]) (.ret)) (.skip)) (.seq (.region false [ PM 55 4, VS 1 2 0, VO 2 3 (.mov (.c (.bool true)))]) (.ret))))))))), [.t 1, .t 2]⟩
noncomputable def t_71 : List (Nat × Ctr) := [(133, c_27), (89, c_66)]
theorem lk_71_133 : look t_71 133 = some c_27 := rfl
theorem lk_71_89 : look t_71 89 = some c_66 := rfl
noncomputable def c_71 : Ctr := mkF t_71 ir116 [.bor]
theorem s_71 : Sound Tryz.prog 116 c_71 := mkF_sound _ rfl (snd_cons s_27 (snd_cons s_66 snd_nil)) (by kernel_rfl : chkFn Tryz.prog 116 ir116 ir116_v = true)
theorem M_71 : c_71.modes = [.bor] := rfl
theorem Fl_71 : c_71.flat = true := rfl
attribute [go_sem] M_71 Fl_71
attribute [go_sem] lk_71_133 lk_71_89
def E_71_l1 (s_ : List UInt8) (t : List UInt8) : (Int × Int) → St
 | (n, i) => ⟨[.str s_, .any, .any, .str t, .int .i64 n, .int .i64 i], [], [], true⟩
def R_71_l1 (s_ : List UInt8) (t : List UInt8) : (Int ⊕ (Int × Bool)) → Res
 | .inl y => (.exit 0, ⟨[.str s_, .any, .any, .str t, .int .i64 y, .any], [], [], true⟩)
 | .inr y => (.ret, ⟨[.any, .int .i64 y.1, .bool y.2, .any, .any, .any], [], [], true⟩)
theorem spec_l01Number_l1_ex {s_ : List UInt8} {t : List UInt8} {sgm_ : Int × Int} {rho_ : Int ⊕ (Int × Bool)} (h : whileE (spec_l01Number_l1 s_ t) sgm_ = some rho_) : ∃ L0, ∀ L, L0 ≤ L → iter (exec (look t_71) L ir116_b0) ir116_k0 ir116_o0 ir116_r0 L (E_71_l1 s_ t sgm_) = R_71_l1 s_ t rho_ := by
 refine loop_ex (E := E_71_l1 s_ t) (R := R_71_l1 s_ t) (fun y => by first | (intro c; cases c) | (rcases y with y | y <;> (intro c; cases c)) | (rcases y with y | y | y <;> (intro c; cases c))) ?_ h
 clear h
 rintro ⟨n, i⟩ o_ h
 dsimp only [spec_l01Number_l1] at h
 rcases it_some h with ⟨z5, h⟩ | ⟨z5, h⟩
 ·try simp only [go_sem, n1, n2, n3, n4] at z5
  all_goals
  obtain ⟨z6, h⟩ := ck_some h
  try simp only [go_sem, n1, n2, n3, n4, z5] at z6
  all_goals
  obtain ⟨y_7, z7, h⟩ := bd_some h
  have fz7 := Fs_27 z7
  try simp only [go_sem, z5, z6] at fz7
  rcases it_some h with ⟨z8, h⟩ | ⟨z8, h⟩
  ·try simp only [go_sem, n1, n2, n3, n4, z5, z6] at z8
   all_goals
   obtain rfl := so_some h
   refine ⟨0, fun L hL => ?_⟩
   simp only [go_sem, ir116, E_71_l1, R_71_l1, ir116_b0, ir116_k0, ir116_o0, ir116_r0, z5, z6, fz7, z8]
  ·try simp only [go_sem, n1, n2, n3, n4, z5, z6] at z8
   all_goals
   obtain rfl := so_some h
   refine ⟨0, fun L hL => ?_⟩
   simp only [go_sem, ir116, E_71_l1, R_71_l1, ir116_b0, ir116_k0, ir116_o0, ir116_r0, z5, z6, fz7, z8]
 ·try simp only [go_sem, n1, n2, n3, n4] at z5
  all_goals
  obtain rfl := so_some h
  refine ⟨0, fun L hL => ?_⟩
  simp only [go_sem, ir116, E_71_l1, R_71_l1, ir116_b0, ir116_k0, ir116_o0, ir116_r0, z5]

def E_71_l2 (s_ : List UInt8) (t : List UInt8) : (Int × Int) → St
 | (n, i) => ⟨[.str s_, .any, .any, .str t, .int .i64 n, .int .i64 i], [], [], true⟩
def R_71_l2 (s_ : List UInt8) (t : List UInt8) : (Int ⊕ (Int × Bool)) → Res
 | .inl y => (.exit 0, ⟨[.str s_, .any, .any, .str t, .int .i64 y, .any], [], [], true⟩)
 | .inr y => (.ret, ⟨[.any, .int .i64 y.1, .bool y.2, .any, .any, .any], [], [], true⟩)
theorem spec_l01Number_l2_ex {s_ : List UInt8} {t : List UInt8} {sgm_ : Int × Int} {rho_ : Int ⊕ (Int × Bool)} (h : whileE (spec_l01Number_l2 s_ t) sgm_ = some rho_) : ∃ L0, ∀ L, L0 ≤ L → iter (exec (look t_71) L ir116_b0) ir116_k0 ir116_o0 ir116_r0 L (E_71_l2 s_ t sgm_) = R_71_l2 s_ t rho_ := by
 refine loop_ex (E := E_71_l2 s_ t) (R := R_71_l2 s_ t) (fun y => by first | (intro c; cases c) | (rcases y with y | y <;> (intro c; cases c)) | (rcases y with y | y | y <;> (intro c; cases c))) ?_ h
 clear h
 rintro ⟨n, i⟩ o_ h
 dsimp only [spec_l01Number_l2] at h
 rcases it_some h with ⟨z16, h⟩ | ⟨z16, h⟩
 ·try simp only [go_sem, n1, n2, n3, n4] at z16
  all_goals
  obtain ⟨z17, h⟩ := ck_some h
  try simp only [go_sem, n1, n2, n3, n4, z16] at z17
  all_goals
  obtain ⟨y_18, z18, h⟩ := bd_some h
  have fz18 := Fs_27 z18
  try simp only [go_sem, z16, z17] at fz18
  rcases it_some h with ⟨z19, h⟩ | ⟨z19, h⟩
  ·try simp only [go_sem, n1, n2, n3, n4, z16, z17] at z19
   all_goals
   obtain rfl := so_some h
   refine ⟨0, fun L hL => ?_⟩
   simp only [go_sem, ir116, E_71_l2, R_71_l2, ir116_b0, ir116_k0, ir116_o0, ir116_r0, E_71_l1, R_71_l1, ir116_k0, ir116_o0, ir116_r0, z16, z17, fz18, z19]
  ·try simp only [go_sem, n1, n2, n3, n4, z16, z17] at z19
   all_goals
   obtain rfl := so_some h
   refine ⟨0, fun L hL => ?_⟩
   simp only [go_sem, ir116, E_71_l2, R_71_l2, ir116_b0, ir116_k0, ir116_o0, ir116_r0, E_71_l1, R_71_l1, ir116_k0, ir116_o0, ir116_r0, z16, z17, fz18, z19]
 ·try simp only [go_sem, n1, n2, n3, n4] at z16
  all_goals
  obtain rfl := so_some h
  refine ⟨0, fun L hL => ?_⟩
  simp only [go_sem, ir116, E_71_l2, R_71_l2, ir116_b0, ir116_k0, ir116_o0, ir116_r0, E_71_l1, R_71_l1, ir116_k0, ir116_o0, ir116_r0, z16]

theorem Fs_71 {s_ : List UInt8} {y_ : Int × Bool} (h : spec_l01Number s_ = some y_) : c_71.F [.str s_] = ⟨true, .tup [.int .i64 y_.1, .bool y_.2], [.any]⟩ := by
 refine mkF_E rfl ?_
 dsimp only [spec_l01Number] at h
 obtain ⟨z1, h⟩ := ck_some h
 rcases or_split z1 with ⟨gz1, z1⟩ | gz1
 ·try simp only [go_sem, n1, n2, n3, n4] at gz1
  all_goals
  try simp only [go_sem, n1, n2, n3, n4, gz1] at z1
  all_goals
  rcases it_some h with ⟨z2, h⟩ | ⟨z2, h⟩
  ·try simp only [go_sem, n1, n2, n3, n4, gz1, z1] at z2
   all_goals
   obtain ⟨z3, h⟩ := ck_some h
   try simp only [go_sem, n1, n2, n3, n4, gz1, z1, z2] at z3
   all_goals
   rcases it_some h with ⟨z4, h⟩ | ⟨z4, h⟩
   ·try simp only [go_sem, n1, n2, n3, n4, gz1, z1, z2, z3] at z4
    all_goals
    obtain rfl := so_some h
    refine ⟨0, fun L hL => ?_⟩
    simp only [go_sem, ir116, E_71_l1, R_71_l1, ir116_k0, ir116_o0, ir116_r0, E_71_l2, R_71_l2, ir116_k0, ir116_o0, ir116_r0, gz1, z1, z2, z3, z4]
   ·try simp only [go_sem, n1, n2, n3, n4, gz1, z1, z2, z3] at z4
    all_goals
    obtain ⟨y_9, z9, h⟩ := bd_some h
    obtain ⟨Lz9, ez9⟩ := spec_l01Number_l1_ex z9
    rcases y_9 with y_9a | y_9b
    ·dsimp only at h
     rcases it_some h with ⟨z10, h⟩ | ⟨z10, h⟩
     ·try simp only [go_sem, n1, n2, n3, n4, gz1, z1, z2, z3, z4] at z10
      all_goals
      obtain ⟨y_11, z11, h⟩ := bd_some h
      have fz11 := Fs_66 z11
      try simp only [go_sem, gz1, z1, z2, z3, z4, z10] at fz11
      rcases it_some h with ⟨z12, h⟩ | ⟨z12, h⟩
      ·try simp only [go_sem, n1, n2, n3, n4, gz1, z1, z2, z3, z4, z10] at z12
       all_goals
       obtain rfl := so_some h
       refine ⟨Lz9, fun L hL => ?_⟩
       have ez9 := ez9 L (by omega)
       try simp only [go_sem, E_71_l1, R_71_l1, ir116_k0, ir116_o0, ir116_r0, E_71_l2, R_71_l2, ir116_k0, ir116_o0, ir116_r0, gz1, z1, z2, z3, z4, z10, z12] at ez9
       simp only [go_sem, ir116, E_71_l1, R_71_l1, ir116_k0, ir116_o0, ir116_r0, E_71_l2, R_71_l2, ir116_k0, ir116_o0, ir116_r0, gz1, z1, z2, z3, z4, z10, fz11, z12, ez9]
      ·try simp only [go_sem, n1, n2, n3, n4, gz1, z1, z2, z3, z4, z10] at z12
       all_goals
       obtain rfl := so_some h
       refine ⟨Lz9, fun L hL => ?_⟩
       have ez9 := ez9 L (by omega)
       try simp only [go_sem, E_71_l1, R_71_l1, ir116_k0, ir116_o0, ir116_r0, E_71_l2, R_71_l2, ir116_k0, ir116_o0, ir116_r0, gz1, z1, z2, z3, z4, z10, z12] at ez9
       simp only [go_sem, ir116, E_71_l1, R_71_l1, ir116_k0, ir116_o0, ir116_r0, E_71_l2, R_71_l2, ir116_k0, ir116_o0, ir116_r0, gz1, z1, z2, z3, z4, z10, fz11, z12, ez9]
     ·try simp only [go_sem, n1, n2, n3, n4, gz1, z1, z2, z3, z4] at z10
      all_goals
      obtain ⟨y_13, z13, h⟩ := bd_some h
      have fz13 := Fs_66 z13
      try simp only [go_sem, gz1, z1, z2, z3, z4, z10] at fz13
      rcases it_some h with ⟨z14, h⟩ | ⟨z14, h⟩
      ·try simp only [go_sem, n1, n2, n3, n4, gz1, z1, z2, z3, z4, z10] at z14
       all_goals
       obtain rfl := so_some h
       refine ⟨Lz9, fun L hL => ?_⟩
       have ez9 := ez9 L (by omega)
       try simp only [go_sem, E_71_l1, R_71_l1, ir116_k0, ir116_o0, ir116_r0, E_71_l2, R_71_l2, ir116_k0, ir116_o0, ir116_r0, gz1, z1, z2, z3, z4, z10, z14] at ez9
       simp only [go_sem, ir116, E_71_l1, R_71_l1, ir116_k0, ir116_o0, ir116_r0, E_71_l2, R_71_l2, ir116_k0, ir116_o0, ir116_r0, gz1, z1, z2, z3, z4, z10, fz13, z14, ez9]
      ·try simp only [go_sem, n1, n2, n3, n4, gz1, z1, z2, z3, z4, z10] at z14
       all_goals
       obtain rfl := so_some h
       refine ⟨Lz9, fun L hL => ?_⟩
       have ez9 := ez9 L (by omega)
       try simp only [go_sem, E_71_l1, R_71_l1, ir116_k0, ir116_o0, ir116_r0, E_71_l2, R_71_l2, ir116_k0, ir116_o0, ir116_r0, gz1, z1, z2, z3, z4, z10, z14] at ez9
       simp only [go_sem, ir116, E_71_l1, R_71_l1, ir116_k0, ir116_o0, ir116_r0, E_71_l2, R_71_l2, ir116_k0, ir116_o0, ir116_r0, gz1, z1, z2, z3, z4, z10, fz13, z14, ez9]
    ·dsimp only at h
     obtain rfl := so_some h
     refine ⟨Lz9, fun L hL => ?_⟩
     have ez9 := ez9 L (by omega)
     try simp only [go_sem, E_71_l1, R_71_l1, ir116_k0, ir116_o0, ir116_r0, E_71_l2, R_71_l2, ir116_k0, ir116_o0, ir116_r0, gz1, z1, z2, z3, z4] at ez9
     simp only [go_sem, ir116, E_71_l1, R_71_l1, ir116_k0, ir116_o0, ir116_r0, E_71_l2, R_71_l2, ir116_k0, ir116_o0, ir116_r0, gz1, z1, z2, z3, z4, ez9]
  ·try simp only [go_sem, n1, n2, n3, n4, gz1, z1] at z2
   all_goals
   rcases it_some h with ⟨z15, h⟩ | ⟨z15, h⟩
   ·try simp only [go_sem, n1, n2, n3, n4, gz1, z1, z2] at z15
    all_goals
    obtain rfl := so_some h
    refine ⟨0, fun L hL => ?_⟩
    simp only [go_sem, ir116, E_71_l1, R_71_l1, ir116_k0, ir116_o0, ir116_r0, E_71_l2, R_71_l2, ir116_k0, ir116_o0, ir116_r0, gz1, z1, z2, z15]
   ·try simp only [go_sem, n1, n2, n3, n4, gz1, z1, z2] at z15
    all_goals
    obtain ⟨y_20, z20, h⟩ := bd_some h
    obtain ⟨Lz20, ez20⟩ := spec_l01Number_l2_ex z20
    rcases y_20 with y_20a | y_20b
    ·dsimp only at h
     rcases it_some h with ⟨z21, h⟩ | ⟨z21, h⟩
     ·try simp only [go_sem, n1, n2, n3, n4, gz1, z1, z2, z15] at z21
      all_goals
      obtain ⟨y_22, z22, h⟩ := bd_some h
      have fz22 := Fs_66 z22
      try simp only [go_sem, gz1, z1, z2, z15, z21] at fz22
      rcases it_some h with ⟨z23, h⟩ | ⟨z23, h⟩
      ·try simp only [go_sem, n1, n2, n3, n4, gz1, z1, z2, z15, z21] at z23
       all_goals
       obtain rfl := so_some h
       refine ⟨Lz20, fun L hL => ?_⟩
       have ez20 := ez20 L (by omega)
       try simp only [go_sem, E_71_l1, R_71_l1, ir116_k0, ir116_o0, ir116_r0, E_71_l2, R_71_l2, ir116_k0, ir116_o0, ir116_r0, gz1, z1, z2, z15, z21, z23] at ez20
       simp only [go_sem, ir116, E_71_l1, R_71_l1, ir116_k0, ir116_o0, ir116_r0, E_71_l2, R_71_l2, ir116_k0, ir116_o0, ir116_r0, gz1, z1, z2, z15, z21, fz22, z23, ez20]
      ·try simp only [go_sem, n1, n2, n3, n4, gz1, z1, z2, z15, z21] at z23
       all_goals
       obtain rfl := so_some h
       refine ⟨Lz20, fun L hL => ?_⟩
       have ez20 := ez20 L (by omega)
       try simp only [go_sem, E_71_l1, R_71_l1, ir116_k0, ir116_o0, ir116_r0, E_71_l2, R_71_l2, ir116_k0, ir116_o0, ir116_r0, gz1, z1, z2, z15, z21, z23] at ez20
       simp only [go_sem, ir116, E_71_l1, R_71_l1, ir116_k0, ir116_o0, ir116_r0, E_71_l2, R_71_l2, ir116_k0, ir116_o0, ir116_r0, gz1, z1, z2, z15, z21, fz22, z23, ez20]
     ·try simp only [go_sem, n1, n2, n3, n4, gz1, z1, z2, z15] at z21
      all_goals
      obtain ⟨y_24, z24, h⟩ := bd_some h
      have fz24 := Fs_66 z24
      try simp only [go_sem, gz1, z1, z2, z15, z21] at fz24
      rcases it_some h with ⟨z25, h⟩ | ⟨z25, h⟩
      ·try simp only [go_sem, n1, n2, n3, n4, gz1, z1, z2, z15, z21] at z25
       all_goals
       obtain rfl := so_some h
       refine ⟨Lz20, fun L hL => ?_⟩
       have ez20 := ez20 L (by omega)
       try simp only [go_sem, E_71_l1, R_71_l1, ir116_k0, ir116_o0, ir116_r0, E_71_l2, R_71_l2, ir116_k0, ir116_o0, ir116_r0, gz1, z1, z2, z15, z21, z25] at ez20
       simp only [go_sem, ir116, E_71_l1, R_71_l1, ir116_k0, ir116_o0, ir116_r0, E_71_l2, R_71_l2, ir116_k0, ir116_o0, ir116_r0, gz1, z1, z2, z15, z21, fz24, z25, ez20]
      ·try simp only [go_sem, n1, n2, n3, n4, gz1, z1, z2, z15, z21] at z25
       all_goals
       obtain rfl := so_some h
       refine ⟨Lz20, fun L hL => ?_⟩
       have ez20 := ez20 L (by omega)
       try simp only [go_sem, E_71_l1, R_71_l1, ir116_k0, ir116_o0, ir116_r0, E_71_l2, R_71_l2, ir116_k0, ir116_o0, ir116_r0, gz1, z1, z2, z15, z21, z25] at ez20
       simp only [go_sem, ir116, E_71_l1, R_71_l1, ir116_k0, ir116_o0, ir116_r0, E_71_l2, R_71_l2, ir116_k0, ir116_o0, ir116_r0, gz1, z1, z2, z15, z21, fz24, z25, ez20]
    ·dsimp only at h
     obtain rfl := so_some h
     refine ⟨Lz20, fun L hL => ?_⟩
     have ez20 := ez20 L (by omega)
     try simp only [go_sem, E_71_l1, R_71_l1, ir116_k0, ir116_o0, ir116_r0, E_71_l2, R_71_l2, ir116_k0, ir116_o0, ir116_r0, gz1, z1, z2, z15] at ez20
     simp only [go_sem, ir116, E_71_l1, R_71_l1, ir116_k0, ir116_o0, ir116_r0, E_71_l2, R_71_l2, ir116_k0, ir116_o0, ir116_r0, gz1, z1, z2, z15, ez20]
 ·have gz1n := no_f gz1
  try simp only [go_sem, n1, n2, n3, n4] at gz1n
  all_goals
  rcases it_some h with ⟨z2, h⟩ | ⟨z2, h⟩
  ·try simp only [go_sem, n1, n2, n3, n4, gz1n] at z2
   all_goals
   (simp_all)
  ·try simp only [go_sem, n1, n2, n3, n4, gz1n] at z2
   all_goals
   rcases it_some h with ⟨z15, h⟩ | ⟨z15, h⟩
   ·try simp only [go_sem, n1, n2, n3, n4, gz1n, z2] at z15
    all_goals
    obtain rfl := so_some h
    refine ⟨0, fun L hL => ?_⟩
    simp only [go_sem, ir116, E_71_l1, R_71_l1, ir116_k0, ir116_o0, ir116_r0, E_71_l2, R_71_l2, ir116_k0, ir116_o0, ir116_r0, gz1n, z2, z15]
   ·try simp only [go_sem, n1, n2, n3, n4, gz1n, z2] at z15
    all_goals
    obtain ⟨y_20, z20, h⟩ := bd_some h
    obtain ⟨Lz20, ez20⟩ := spec_l01Number_l2_ex z20
    rcases y_20 with y_20a | y_20b
    ·dsimp only at h
     rcases it_some h with ⟨z21, h⟩ | ⟨z21, h⟩
     ·try simp only [go_sem, n1, n2, n3, n4, gz1n, z2, z15] at z21
      all_goals
      obtain ⟨y_22, z22, h⟩ := bd_some h
      have fz22 := Fs_66 z22
      try simp only [go_sem, gz1n, z2, z15, z21] at fz22
      rcases it_some h with ⟨z23, h⟩ | ⟨z23, h⟩
      ·try simp only [go_sem, n1, n2, n3, n4, gz1n, z2, z15, z21] at z23
       all_goals
       obtain rfl := so_some h
       refine ⟨Lz20, fun L hL => ?_⟩
       have ez20 := ez20 L (by omega)
       try simp only [go_sem, E_71_l1, R_71_l1, ir116_k0, ir116_o0, ir116_r0, E_71_l2, R_71_l2, ir116_k0, ir116_o0, ir116_r0, gz1n, z2, z15, z21, z23] at ez20
       simp only [go_sem, ir116, E_71_l1, R_71_l1, ir116_k0, ir116_o0, ir116_r0, E_71_l2, R_71_l2, ir116_k0, ir116_o0, ir116_r0, gz1n, z2, z15, z21, fz22, z23, ez20]
      ·try simp only [go_sem, n1, n2, n3, n4, gz1n, z2, z15, z21] at z23
       all_goals
       obtain rfl := so_some h
       refine ⟨Lz20, fun L hL => ?_⟩
       have ez20 := ez20 L (by omega)
       try simp only [go_sem, E_71_l1, R_71_l1, ir116_k0, ir116_o0, ir116_r0, E_71_l2, R_71_l2, ir116_k0, ir116_o0, ir116_r0, gz1n, z2, z15, z21, z23] at ez20
       simp only [go_sem, ir116, E_71_l1, R_71_l1, ir116_k0, ir116_o0, ir116_r0, E_71_l2, R_71_l2, ir116_k0, ir116_o0, ir116_r0, gz1n, z2, z15, z21, fz22, z23, ez20]
     ·try simp only [go_sem, n1, n2, n3, n4, gz1n, z2, z15] at z21
      all_goals
      obtain ⟨y_24, z24, h⟩ := bd_some h
      have fz24 := Fs_66 z24
      try simp only [go_sem, gz1n, z2, z15, z21] at fz24
      rcases it_some h with ⟨z25, h⟩ | ⟨z25, h⟩
      ·try simp only [go_sem, n1, n2, n3, n4, gz1n, z2, z15, z21] at z25
       all_goals
       obtain rfl := so_some h
       refine ⟨Lz20, fun L hL => ?_⟩
       have ez20 := ez20 L (by omega)
       try simp only [go_sem, E_71_l1, R_71_l1, ir116_k0, ir116_o0, ir116_r0, E_71_l2, R_71_l2, ir116_k0, ir116_o0, ir116_r0, gz1n, z2, z15, z21, z25] at ez20
       simp only [go_sem, ir116, E_71_l1, R_71_l1, ir116_k0, ir116_o0, ir116_r0, E_71_l2, R_71_l2, ir116_k0, ir116_o0, ir116_r0, gz1n, z2, z15, z21, fz24, z25, ez20]
      ·try simp only [go_sem, n1, n2, n3, n4, gz1n, z2, z15, z21] at z25
       all_goals
       obtain rfl := so_some h
       refine ⟨Lz20, fun L hL => ?_⟩
       have ez20 := ez20 L (by omega)
       try simp only [go_sem, E_71_l1, R_71_l1, ir116_k0, ir116_o0, ir116_r0, E_71_l2, R_71_l2, ir116_k0, ir116_o0, ir116_r0, gz1n, z2, z15, z21, z25] at ez20
       simp only [go_sem, ir116, E_71_l1, R_71_l1, ir116_k0, ir116_o0, ir116_r0, E_71_l2, R_71_l2, ir116_k0, ir116_o0, ir116_r0, gz1n, z2, z15, z21, fz24, z25, ez20]
    ·dsimp only at h
     obtain rfl := so_some h
     refine ⟨Lz20, fun L hL => ?_⟩
     have ez20 := ez20 L (by omega)
     try simp only [go_sem, E_71_l1, R_71_l1, ir116_k0, ir116_o0, ir116_r0, E_71_l2, R_71_l2, ir116_k0, ir116_o0, ir116_r0, gz1n, z2, z15] at ez20
     simp only [go_sem, ir116, E_71_l1, R_71_l1, ir116_k0, ir116_o0, ir116_r0, E_71_l2, R_71_l2, ir116_k0, ir116_o0, ir116_r0, gz1n, z2, z15, ez20]


def ir115_v : List Nat := [0, 2, 3, 4, 5, 6, 7, 8, 9]
def ir115 : AFn := ⟨1, 9, .seq (.region false [ VO 1 2 (.mov (I6 0)), VO 2 3 (.mov (I6 0)), VO 3 4 (.mov (.c (.bool false)))]) (.seq (.region false [ PM 10 0, PO 11 (.call 114 [(.s 0), (.c (.int .u8 (46)))]), VS 4 5 0]) (.seq (.test false [ PM 12 4, PO 13 (.len false (.s 0)), PO 14 (.bin false .neq (.s 0) (I6 3)), PO 15 (.mov (.s 0)), ⟨.push, 16, (some ((.s 0), false)), .mov (.v 4)⟩, ⟨.push, 17, (some ((.s 1), false)), .ixAddr 1 (.s 0) (I6 1)⟩, ⟨.push, 18, (some ((.s 2), false)), .load false 1 (.s 0)⟩, ⟨.push, 19, (some ((.s 3), false)), .bin false .neq (.s 0) (.c (.str []))⟩, PO 20 (.pick (.s
 4) (.c (.bool true)) (.s 0))] (.s 0) (.seq (.region false [ VO 1 2 (.mov (I6 0)), VO 2 3 (.mov (I6 0)), VO 3 4 (.mov (.c (.bool false)))]) (.ret)) (.skip)) (.seq (.region false [ PM 22 4, PO 23 (.ixAddr 1 (.s 0) (I6 0)), PO 24 (.load false 1 (.s 0)), PO 25 (.call 116 [(.s 0)]), PO 21 (.mov (.s 0)), PO 26 (.ext (.s 0) 0), PO 27 (.ext (.s 1) 1), VS 5 6 1, VS 6 7 0]) (.seq (.region false [ PM 29 4, PO 30 (.ixAddr 1 (.s 0) (I6 2)), PO 31 (.load false 1 (.s 0)), PO 32 (.call 116 [(.s 0)]), PO 28 (.mov (.s 0)), PO 33 (.ext (.s 0) 0), PO 34 (.ext (.s 1) 1), VS 7 8 1, VS 8 9 0]) (.seq (.region false [
 PM 35 5, PM 36 7, PM 37 6, PO 38 (.mov (.s 0)), ⟨.push, 39, (some ((.s 0), true)), .mov (.v 8)⟩, PO 40 (.pick (.s 1) (.s 0) (.c (.bool false))), VS 1 2 5, VS 2 3 4, VS 3 4 0]) (.ret)))))), [.t 1, .t 2, .t 3]⟩
noncomputable def t_72 : List (Nat × Ctr) := [(114, c_70), (116, c_71)]
theorem lk_72_114 : look t_72 114 = some c_70 := rfl
theorem lk_72_116 : look t_72 116 = some c_71 := rfl
noncomputable def c_72 : Ctr := mkF t_72 ir115 [.bor]
theorem s_72 : Sound Tryz.prog 115 c_72 := mkF_sound _ rfl (snd_cons s_70 (snd_cons s_71 snd_nil)) (by kernel_rfl : chkFn Tryz.prog 115 ir115 ir115_v = true)
theorem M_72 : c_72.modes = [.bor] := rfl
theorem Fl_72 : c_72.flat = true := rfl
attribute [go_sem] M_72 Fl_72
attribute [go_sem] lk_72_114 lk_72_116
theorem Fs_72 {s_ : List UInt8} {y_ : Int × Int × Bool} (h : spec_l18Range s_ = some y_) : c_72.F [.str s_] = ⟨true, .tup [.int .i64 y_.1, .int .i64 y_.2.1, .bool y_.2.2], [.any]⟩ := by
 refine mkF_E rfl ?_
 dsimp only [spec_l18Range] at h
 obtain ⟨y_1, z1, h⟩ := bd_some h
 have fz1 := Fs_70 z1
 try simp only [go_sem] at fz1
 obtain ⟨z2, h⟩ := ck_some h
 rcases or_split z2 with ⟨gz2, z2⟩ | gz2
 ·try simp only [go_sem, n1, n2, n3, n4] at gz2
  all_goals
  have lz2 := ix_lt z2
  have xz2 := getD_mapD AV.str y_1 lz2
  try simp only [go_sem] at lz2
  try simp only [go_sem] at xz2
  try simp only [go_sem, n1, n2, n3, n4, gz2] at z2
  all_goals
  rcases it_some h with ⟨z3, h⟩ | ⟨z3, h⟩
  ·try simp only [go_sem, n1, n2, n3, n4, gz2, z2] at z3
   all_goals
   obtain rfl := so_some h
   refine ⟨0, fun L hL => ?_⟩
   simp only [go_sem, ir115, fz1, gz2, z2, lz2, xz2, z3]
  ·try simp only [go_sem, n1, n2, n3, n4, gz2, z2] at z3
   all_goals
   obtain ⟨z4, h⟩ := ck_some h
   have lz4 := ix_lt z4
   have xz4 := getD_mapD AV.str y_1 lz4
   try simp only [go_sem] at lz4
   try simp only [go_sem] at xz4
   try simp only [go_sem, n1, n2, n3, n4, gz2, z2, z3] at z4
   all_goals
   obtain ⟨y_5, z5, h⟩ := bd_some h
   have fz5 := Fs_71 z5
   try simp only [go_sem, gz2, z2, z3, z4] at fz5
   obtain ⟨z6, h⟩ := ck_some h
   have lz6 := ix_lt z6
   have xz6 := getD_mapD AV.str y_1 lz6
   try simp only [go_sem] at lz6
   try simp only [go_sem] at xz6
   try simp only [go_sem, n1, n2, n3, n4, gz2, z2, z3, z4] at z6
   all_goals
   obtain ⟨y_7, z7, h⟩ := bd_some h
   have fz7 := Fs_71 z7
   try simp only [go_sem, gz2, z2, z3, z4, z6] at fz7
   obtain rfl := so_some h
   refine ⟨0, fun L hL => ?_⟩
   simp only [go_sem, ir115, fz1, gz2, z2, lz2, xz2, z3, z4, lz4, xz4, fz5, z6, lz6, xz6, fz7]
 ·have gz2n := no_f gz2
  have gz2nn := no_t gz2n
  try simp only [go_sem, n1, n2, n3, n4] at gz2nn
  all_goals
  rcases it_some h with ⟨z3, h⟩ | ⟨z3, h⟩
  ·try simp only [go_sem, n1, n2, n3, n4, gz2nn] at z3
   all_goals
   obtain rfl := so_some h
   refine ⟨0, fun L hL => ?_⟩
   simp only [go_sem, ir115, fz1, gz2nn, z3]
  ·try simp only [go_sem, n1, n2, n3, n4, gz2nn] at z3
   all_goals
   (simp_all)


def ir47_v : List Nat := [0, 2, 3, 4, 5, 6, 7, 8, 9, 10, 11, 12, 13, 14, 15]
def ir47 : AFn := ⟨1, 15, .seq (.region false [ VO 1 2 (.alloc (.agg [.str [], .int .i64 (0), .int .i64 (0), .int .i64 (0), .int .i64 (0), .int .i64 (0)])), VO 2 3 (.mov (.c (.bool false)))]) (.seq (.region false [ PM 16 0, PO 17 (.call 114 [(.s 0), (.c (.int .u8 (32)))]), VS 3 4 0]) (.seq (.test false [ PM 18 3, PO 19 (.len false (.s 0)), PO 20 (.bin false .neq (.s 0) (I6 5)), PO 21 (.mov (.s 0)), ⟨.push, 22, (some ((.s 0), false)), .mov (.v 3)⟩, ⟨.push, 23, (some ((.s 1), false)), .ixAddr 1 (.s 0) (I6 3)⟩, ⟨.push, 24, (some ((.s 2), false)), .load false 1 (.s 0)⟩, ⟨.push, 25, (some ((.s 3),
 false)), .bin false .neq (.s 0) (.c (.str [112, 114, 105, 111, 114, 105, 116, 121]))⟩, PO 26 (.pick (.s 4) (.c (.bool true)) (.s 0))] (.s 0) (.seq (.region false [ PO 27 (.build [.str [], .int .i64 (0), .int .i64 (0), .int .i64 (0), .int .i64 (0), .int .i64 (0)] []), ⟨.no, 0, none, .store 6 (.v 1) (.s 0)⟩, VO 2 3 (.mov (.c (.bool false)))]) (.ret)) (.skip)) (.seq (.region false [ PM 29 3, PO 30 (.ixAddr 1 (.s 0) (I6 1)), PO 31 (.load false 1 (.s 0)), PO 32 (.call 115 [(.s 0)]), PO 28 (.mov (.s 0)), PO 33 (.ext (.s 0) 0), PO 34 (.ext (.s 1) 1), PO 35 (.ext (.s 2) 2), VS 4 5 2, VS 5 6 1, VS 6 7
 0]) (.seq (.region false [ PM 36 3, PO 37 (.ixAddr 1 (.s 0) (I6 2)), PO 38 (.load false 1 (.s 0)), PO 39 (.call 114 [(.s 0), (.c (.int .u8 (47)))]), VS 7 8 0]) (.seq (.test false [ PM 40 6, PO 41 (.un .not (.s 0)), PO 42 (.mov (.s 0)), ⟨.push, 43, (some ((.s 0), false)), .mov (.v 7)⟩, ⟨.push, 44, (some ((.s 1), false)), .len false (.s 0)⟩, ⟨.push, 45, (some ((.s 2), false)), .bin false .neq (.s 0) (I6 2)⟩, PO 46 (.pick (.s 3) (.c (.bool true)) (.s 0))] (.s 0) (.seq (.region false [ PO 47 (.build [.str [], .int .i64 (0), .int .i64 (0), .int .i64 (0), .int .i64 (0), .int .i64 (0)] []), ⟨.no, 0,
 none, .store 6 (.v 1) (.s 0)⟩, VO 2 3 (.mov (.c (.bool false)))]) (.ret)) (.skip)) (.seq (.region false [ PM 49 7, PO 50 (.ixAddr 1 (.s 0) (I6 0)), PO 51 (.load false 1 (.s 0)), PO 52 (.call 116 [(.s 0)]), PO 48 (.mov (.s 0)), PO 53 (.ext (.s 0) 0), PO 54 (.ext (.s 1) 1), VS 8 9 1, VS 9 10 0]) (.seq (.region false [ PM 56 7, PO 57 (.ixAddr 1 (.s 0) (I6 1)), PO 58 (.load false 1 (.s 0)), PO 59 (.call 116 [(.s 0)]), PO 55 (.mov (.s 0)), PO 60 (.ext (.s 0) 0), PO 61 (.ext (.s 1) 1), VS 10 11 1, VS 11 12 0]) (.seq (.region false [ PM 63 3, PO 64 (.ixAddr 1 (.s 0) (I6 4)), PO 65 (.load false 1 (.s
 0)), PO 66 (.call 116 [(.s 0)]), PO 62 (.mov (.s 0)), PO 67 (.ext (.s 0) 0), PO 68 (.ext (.s 1) 1), VS 12 13 1, VS 13 14 0]) (.seq (.region false [ PM 69 3, PO 70 (.ixAddr 1 (.s 0) (I6 0)), PO 71 (.load false 1 (.s 0)), PM 72 4, PM 73 5, PM 74 10, PM 75 8, PM 76 12, PO 77 (.build [.str [], .int .i64 (0), .int .i64 (0), .int .i64 (0), .int .i64 (0), .int .i64 (0)] [(0, 1, (.s 5)), (1, 1, (.s 4)), (2, 1, (.s 3)), (3, 1, (.s 2)), (4, 1, (.s 1)), (5, 1, (.s 0))]), VO 14 15 (.alloc (.agg [.str [], .int .i64 (0), .int .i64 (0), .int .i64 (0), .int .i64 (0), .int .i64 (0)])), ⟨.no, 0, none, .store 6
 (.v 14) (.s 0)⟩]) (.seq (.test false [ PM 78 9, PO 79 (.un .not (.s 0)), PO 80 (.mov (.s 0)), ⟨.push, 81, (some ((.s 0), false)), .mov (.v 11)⟩, ⟨.push, 82, (some ((.s 1), false)), .un .not (.s 0)⟩, PO 83 (.pick (.s 2) (.c (.bool true)) (.s 0)), PO 84 (.mov (.s 0)), ⟨.push, 85, (some ((.s 0), false)), .mov (.v 13)⟩, ⟨.push, 86, (some ((.s 1), false)), .un .not (.s 0)⟩, PO 87 (.pick (.s 2) (.c (.bool true)) (.s 0)), PO 88 (.mov (.s 0)), ⟨.push, 89, (some ((.s 0), false)), .call 106 [(.v 14)]⟩, ⟨.push, 90, (some ((.s 1), false)), .un .not (.s 0)⟩, PO 91 (.pick (.s 2) (.c (.bool true)) (.s 0))]
 (.s 0) (.seq (.region false [ PO 92 (.build [.str [], .int .i64 (0), .int .i64 (0), .int .i64 (0), .int .i64 (0), .int .i64 (0)] []), ⟨.no, 0, none, .store 6 (.v 1) (.s 0)⟩, VO 2 3 (.mov (.c (.bool false)))]) (.ret)) (.skip)) (.seq (.region false [ PO 93 (.load true 6 (.v 14)), ⟨.no, 0, none, .store 6 (.v 1) (.s 0)⟩, VO 2 3 (.mov (.c (.bool true)))]) (.ret)))))))))))), [.cell true 6 1, .t 2]⟩
noncomputable def t_73 : List (Nat × Ctr) := [(114, c_70), (115, c_72), (116, c_71), (106, c_31)]
theorem lk_73_114 : look t_73 114 = some c_70 := rfl
theorem lk_73_115 : look t_73 115 = some c_72 := rfl
theorem lk_73_116 : look t_73 116 = some c_71 := rfl
theorem lk_73_106 : look t_73 106 = some c_31 := rfl
noncomputable def c_73 : Ctr := mkN t_73 ir47 [.bor]
theorem s_73 : Sound Tryz.prog 47 c_73 := mkN_sound _ (snd_cons s_70 (snd_cons s_72 (snd_cons s_71 (snd_cons s_31 snd_nil)))) (by kernel_rfl : chkFn Tryz.prog 47 ir47 ir47_v = true)
theorem M_73 : c_73.modes = [.bor] := rfl
theorem Fl_73 : c_73.flat = false := rfl
attribute [go_sem] M_73 Fl_73
attribute [go_sem] lk_73_114 lk_73_115 lk_73_116 lk_73_106
theorem Fs_73 {s_ : List UInt8} {y_ : Request × Bool} (h : spec_ReadRequest s_ = some y_) : c_73.F [.str s_] = ⟨true, .tup [Request_av y_.1, .bool y_.2], [.any]⟩ := by
 refine mkN_E ?_
 dsimp only [spec_ReadRequest] at h
 obtain ⟨y_1, z1, h⟩ := bd_some h
 have fz1 := Fs_70 z1
 try simp only [go_sem] at fz1
 obtain ⟨z2, h⟩ := ck_some h
 rcases or_split z2 with ⟨gz2, z2⟩ | gz2
 ·try simp only [go_sem, n1, n2, n3, n4] at gz2
  all_goals
  have lz2 := ix_lt z2
  have xz2 := getD_mapD AV.str y_1 lz2
  try simp only [go_sem] at lz2
  try simp only [go_sem] at xz2
  try simp only [go_sem, n1, n2, n3, n4, gz2] at z2
  all_goals
  rcases it_some h with ⟨z3, h⟩ | ⟨z3, h⟩
  ·try simp only [go_sem, n1, n2, n3, n4, gz2, z2] at z3
   all_goals
   obtain rfl := so_some h
   refine ⟨0, fun L hL => ?_⟩
   simp only [go_sem, ir47, fz1, gz2, z2, lz2, xz2, z3]
  ·try simp only [go_sem, n1, n2, n3, n4, gz2, z2] at z3
   all_goals
   obtain ⟨z4, h⟩ := ck_some h
   have lz4 := ix_lt z4
   have xz4 := getD_mapD AV.str y_1 lz4
   try simp only [go_sem] at lz4
   try simp only [go_sem] at xz4
   try simp only [go_sem, n1, n2, n3, n4, gz2, z2, z3] at z4
   all_goals
   obtain ⟨y_5, z5, h⟩ := bd_some h
   have fz5 := Fs_72 z5
   try simp only [go_sem, gz2, z2, z3, z4] at fz5
   obtain ⟨z6, h⟩ := ck_some h
   have lz6 := ix_lt z6
   have xz6 := getD_mapD AV.str y_1 lz6
   try simp only [go_sem] at lz6
   try simp only [go_sem] at xz6
   try simp only [go_sem, n1, n2, n3, n4, gz2, z2, z3, z4] at z6
   all_goals
   obtain ⟨y_7, z7, h⟩ := bd_some h
   have fz7 := Fs_70 z7
   try simp only [go_sem, gz2, z2, z3, z4, z6] at fz7
   rcases it_some h with ⟨z8, h⟩ | ⟨z8, h⟩
   ·try simp only [go_sem, n1, n2, n3, n4, gz2, z2, z3, z4, z6] at z8
    all_goals
    obtain rfl := so_some h
    refine ⟨0, fun L hL => ?_⟩
    simp only [go_sem, ir47, fz1, gz2, z2, lz2, xz2, z3, z4, lz4, xz4, fz5, z6, lz6, xz6, fz7, z8]
   ·try simp only [go_sem, n1, n2, n3, n4, gz2, z2, z3, z4, z6] at z8
    all_goals
    obtain ⟨z9, h⟩ := ck_some h
    have lz9 := ix_lt z9
    have xz9 := getD_mapD AV.str y_7 lz9
    try simp only [go_sem] at lz9
    try simp only [go_sem] at xz9
    try simp only [go_sem, n1, n2, n3, n4, gz2, z2, z3, z4, z6, z8] at z9
    all_goals
    obtain ⟨y_10, z10, h⟩ := bd_some h
    have fz10 := Fs_71 z10
    try simp only [go_sem, gz2, z2, z3, z4, z6, z8, z9] at fz10
    obtain ⟨z11, h⟩ := ck_some h
    have lz11 := ix_lt z11
    have xz11 := getD_mapD AV.str y_7 lz11
    try simp only [go_sem] at lz11
    try simp only [go_sem] at xz11
    try simp only [go_sem, n1, n2, n3, n4, gz2, z2, z3, z4, z6, z8, z9] at z11
    all_goals
    obtain ⟨y_12, z12, h⟩ := bd_some h
    have fz12 := Fs_71 z12
    try simp only [go_sem, gz2, z2, z3, z4, z6, z8, z9, z11] at fz12
    obtain ⟨z13, h⟩ := ck_some h
    have lz13 := ix_lt z13
    have xz13 := getD_mapD AV.str y_1 lz13
    try simp only [go_sem] at lz13
    try simp only [go_sem] at xz13
    try simp only [go_sem, n1, n2, n3, n4, gz2, z2, z3, z4, z6, z8, z9, z11] at z13
    all_goals
    obtain ⟨y_14, z14, h⟩ := bd_some h
    have fz14 := Fs_71 z14
    try simp only [go_sem, gz2, z2, z3, z4, z6, z8, z9, z11, z13] at fz14
    obtain ⟨z15, h⟩ := ck_some h
    have lz15 := ix_lt z15
    have xz15 := getD_mapD AV.str y_1 lz15
    try simp only [go_sem] at lz15
    try simp only [go_sem] at xz15
    try simp only [go_sem, n1, n2, n3, n4, gz2, z2, z3, z4, z6, z8, z9, z11, z13] at z15
    all_goals
    obtain ⟨z16, h⟩ := ck_some h
    rcases or_split z16 with ⟨gz16, z16⟩ | gz16
    ·try simp only [go_sem, n1, n2, n3, n4, gz2, z2, z3, z4, z6, z8, z9, z11, z13, z15] at gz16
     all_goals
     obtain ⟨y_16, hz16⟩ := Option.isSome_iff_exists.1 z16
     have fz16 := Fs_31 hz16
     try simp only [go_sem, n1, n2, n3, n4, gz2, z2, z3, z4, z6, z8, z9, z11, z13, z15, gz16] at hz16
     all_goals
     try simp only [go_sem, gz2, z2, z3, z4, z6, z8, z9, z11, z13, z15, gz16] at fz16
     rcases it_some h with ⟨z17, h⟩ | ⟨z17, h⟩
     ·try simp only [go_sem, n1, n2, n3, n4, gz2, z2, z3, z4, z6, z8, z9, z11, z13, z15, gz16, hz16] at z17
      all_goals
      obtain rfl := so_some h
      refine ⟨0, fun L hL => ?_⟩
      simp only [go_sem, ir47, fz1, gz2, z2, lz2, xz2, z3, z4, lz4, xz4, fz5, z6, lz6, xz6, fz7, z8, z9, lz9, xz9, fz10, z11, lz11, xz11, fz12, z13, lz13, xz13, fz14, z15, lz15, xz15, gz16, hz16, fz16, z17]
     ·try simp only [go_sem, n1, n2, n3, n4, gz2, z2, z3, z4, z6, z8, z9, z11, z13, z15, gz16, hz16] at z17
      all_goals
      obtain rfl := so_some h
      refine ⟨0, fun L hL => ?_⟩
      simp only [go_sem, ir47, fz1, gz2, z2, lz2, xz2, z3, z4, lz4, xz4, fz5, z6, lz6, xz6, fz7, z8, z9, lz9, xz9, fz10, z11, lz11, xz11, fz12, z13, lz13, xz13, fz14, z15, lz15, xz15, gz16, hz16, fz16, z17]
    ·have gz16n := no_f gz16
     rcases or_t gz16n with gz16na | ⟨gz16na, gz16nb⟩
     ·rcases or_t gz16na with gz16naa | ⟨gz16naa, gz16nab⟩
      ·have gz16naan := no_t gz16naa
       try simp only [go_sem, n1, n2, n3, n4, gz2, z2, z3, z4, z6, z8, z9, z11, z13, z15] at gz16naan
       all_goals
       rcases it_some h with ⟨z17, h⟩ | ⟨z17, h⟩
       ·try simp only [go_sem, n1, n2, n3, n4, gz2, z2, z3, z4, z6, z8, z9, z11, z13, z15, gz16naan] at z17
        all_goals
        obtain rfl := so_some h
        refine ⟨0, fun L hL => ?_⟩
        simp only [go_sem, ir47, fz1, gz2, z2, lz2, xz2, z3, z4, lz4, xz4, fz5, z6, lz6, xz6, fz7, z8, z9, lz9, xz9, fz10, z11, lz11, xz11, fz12, z13, lz13, xz13, fz14, z15, lz15, xz15, gz16naan, z17]
       ·try simp only [go_sem, n1, n2, n3, n4, gz2, z2, z3, z4, z6, z8, z9, z11, z13, z15, gz16naan] at z17
        all_goals
        (simp_all)
      ·have gz16naan := no_f gz16naa
       have gz16nabn := no_t gz16nab
       try simp only [go_sem, n1, n2, n3, n4, gz2, z2, z3, z4, z6, z8, z9, z11, z13, z15] at gz16naan
       all_goals
       try simp only [go_sem, n1, n2, n3, n4, gz2, z2, z3, z4, z6, z8, z9, z11, z13, z15, gz16naan] at gz16nabn
       all_goals
       rcases it_some h with ⟨z17, h⟩ | ⟨z17, h⟩
       ·try simp only [go_sem, n1, n2, n3, n4, gz2, z2, z3, z4, z6, z8, z9, z11, z13, z15, gz16naan, gz16nabn] at z17
        all_goals
        obtain rfl := so_some h
        refine ⟨0, fun L hL => ?_⟩
        simp only [go_sem, ir47, fz1, gz2, z2, lz2, xz2, z3, z4, lz4, xz4, fz5, z6, lz6, xz6, fz7, z8, z9, lz9, xz9, fz10, z11, lz11, xz11, fz12, z13, lz13, xz13, fz14, z15, lz15, xz15, gz16naan, gz16nabn, z17]
       ·try simp only [go_sem, n1, n2, n3, n4, gz2, z2, z3, z4, z6, z8, z9, z11, z13, z15, gz16naan, gz16nabn] at z17
        all_goals
        (simp_all)
     ·obtain ⟨gz16naa, gz16nab⟩ := or_f gz16na
      have gz16naan := no_f gz16naa
      have gz16nabn := no_f gz16nab
      have gz16nbn := no_t gz16nb
      try simp only [go_sem, n1, n2, n3, n4, gz2, z2, z3, z4, z6, z8, z9, z11, z13, z15] at gz16naan
      all_goals
      try simp only [go_sem, n1, n2, n3, n4, gz2, z2, z3, z4, z6, z8, z9, z11, z13, z15, gz16naan] at gz16nabn
      all_goals
      try simp only [go_sem, n1, n2, n3, n4, gz2, z2, z3, z4, z6, z8, z9, z11, z13, z15, gz16naan, gz16nabn] at gz16nbn
      all_goals
      rcases it_some h with ⟨z17, h⟩ | ⟨z17, h⟩
      ·try simp only [go_sem, n1, n2, n3, n4, gz2, z2, z3, z4, z6, z8, z9, z11, z13, z15, gz16naan, gz16nabn, gz16nbn] at z17
       all_goals
       obtain rfl := so_some h
       refine ⟨0, fun L hL => ?_⟩
       simp only [go_sem, ir47, fz1, gz2, z2, lz2, xz2, z3, z4, lz4, xz4, fz5, z6, lz6, xz6, fz7, z8, z9, lz9, xz9, fz10, z11, lz11, xz11, fz12, z13, lz13, xz13, fz14, z15, lz15, xz15, gz16naan, gz16nabn, gz16nbn, z17]
      ·try simp only [go_sem, n1, n2, n3, n4, gz2, z2, z3, z4, z6, z8, z9, z11, z13, z15, gz16naan, gz16nabn, gz16nbn] at z17
       all_goals
       (simp_all)
 ·have gz2n := no_f gz2
  have gz2nn := no_t gz2n
  try simp only [go_sem, n1, n2, n3, n4] at gz2nn
  all_goals
  rcases it_some h with ⟨z3, h⟩ | ⟨z3, h⟩
  ·try simp only [go_sem, n1, n2, n3, n4, gz2nn] at z3
   all_goals
   obtain rfl := so_some h
   refine ⟨0, fun L hL => ?_⟩
   simp only [go_sem, ir47, fz1, gz2nn, z3]
  ·try simp only [go_sem, n1, n2, n3, n4, gz2nn] at z3
   all_goals
   (simp_all)


end Go.Proofs.YtibabbjpkjmdeaaGreatDoor
