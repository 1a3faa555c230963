/- Codes and contracts of the functions that TB reaches, and that their typed forms say what they do. No condition. -/
import Derived.Test.YtambhaccpbhnhaaGreatDoorTBT
import Derived.Test.YtambhaccpbhnhaaGreatDoorEngSCut
import Derived.Test.YtambhaccpbhnhaaGreatDoorEngSJ
import Derived.Test.YtambhaccpbhnhaaGreatDoorEngSMP
import Derived.Test.YtambhaccpbhnhaaGreatDoorEngSTP
import Derived.Test.YtambhaccpbhnhaaGreatDoorRows
import Derived.WalkKit
namespace Go.Proofs.YtambhaccpbhnhaaGreatDoor
open Go Go.RowKit
set_option linter.unusedVariables false
set_option linter.unusedSimpArgs false
set_option maxRecDepth 10000

def ir4_v : List Nat := [0, 2]
def ir4 : AFn := ⟨1, 2, .seq (.region false [ VO 1 2 (.mov (.c (.bool false)))]) (.seq (.region false [ PM 3 0, PO 4 (.len false (.s 0)), PO 5 (.bin false .gtr (.s 0) (I6 4096)), VS 1 2 0]) (.ret)), [.t 1]⟩
noncomputable def t_0 : List (Nat × Ctr) := []
noncomputable def c_0 : Ctr := mkF t_0 ir4 [.bor]
theorem s_0 : Sound Tryz.prog 4 c_0 := mkF_sound _ rfl snd_nil (by kernel_rfl : chkFn Tryz.prog 4 ir4 ir4_v = true)
theorem M_0 : c_0.modes = [.bor] := rfl
theorem Fl_0 : c_0.flat = true := rfl
attribute [go_sem] M_0 Fl_0
theorem Fs_0 {code : List UInt8} {y_ : Bool} (h : laws_f6big code = some y_) : c_0.F [.sl 1 (List.map byteAV code)] = ⟨true, .bool y_, [.any]⟩ := by
 refine mkF_E rfl ?_
 dsimp only [laws_f6big] at h
 obtain rfl := so_some h
 refine ⟨0, fun L hL => ?_⟩
 simp only [go_sem, ir4]


def ir27_v : List Nat := [0, 2]
def ir27 : AFn := ⟨1, 2, .seq (.region false [ VO 1 2 (.mov (.c (.cv (.pointer none))))]) (.seq (.region false [ PM 3 0, PO 4 (.build [.sl 1 [], .int .i64 (0), .int .u64 (0)] [(0, 1, (.s 0))]), PO 5 (.box (.s 0)), VS 1 2 0]) (.ret)), [.t 1]⟩
noncomputable def t_1 : List (Nat × Ctr) := []
noncomputable def c_1 : Ctr := mkN t_1 ir27 [.bor]
theorem s_1 : Sound Tryz.prog 27 c_1 := mkN_sound _ snd_nil (by kernel_rfl : chkFn Tryz.prog 27 ir27 ir27_v = true)
theorem M_1 : c_1.modes = [.bor] := rfl
theorem Fl_1 : c_1.flat = false := rfl
attribute [go_sem] M_1 Fl_1
theorem Fs_1 {code : List UInt8} {y_ : L00Src} (h : spec_l00From code = some y_) : c_1.F [.sl 1 (List.map byteAV code)] = ⟨true, .mem 3 [L00Src_av y_] 0, [.any]⟩ := by
 refine mkN_E ?_
 dsimp only [spec_l00From] at h
 obtain rfl := so_some h
 refine ⟨0, fun L hL => ?_⟩
 simp only [go_sem, ir27]


def ir54_v : List Nat := [0, 2, 3]
def ir54 : AFn := ⟨1, 3, .seq (.region false [ VO 1 2 (.mov (I6 0))]) (.seq (.region false [ VO 2 3 (.mov (I6 0))]) (.seq (.anyo 10 [ SO 0 4 (.mov (.v 0)), SO 1 5 (.nilck (.s 0)), SO 2 6 (.fldAddr 1 (.s 1)), SO 3 7 (.load false 1 (.s 2)), SO 4 8 (.mov (.v 0)), SO 5 9 (.nilck (.s 4)), SO 6 10 (.fldAddr 0 (.s 5)), SO 7 11 (.load false 1 (.s 6)), SO 8 12 (.len false (.s 7)), SO 9 13 (.bin false .lss (.s 3) (.s 8))] [] (.cond (.s 9) (.anyo 11 [ SO 0 14 (.mov (.v 0)), SO 1 15 (.nilck (.s 0)), SO 2 16 (.fldAddr 0 (.s 1)), SO 3 17 (.load false 1 (.s 2)), SO 4 18 (.mov (.v 0)), SO 5 19 (.nilck (.s 4)),
 SO 6 20 (.fldAddr 1 (.s 5)), SO 7 21 (.load false 1 (.s 6)), SO 8 22 (.ixAddr 1 (.s 3) (.s 7)), SO 9 23 (.load false 1 (.s 8)), SO 10 24 (.conv .i64 (.s 9)), VS 2 3 10] [] .skip) (.skip))) (.seq (.region false [ PM 25 0, PO 26 (.nilck (.s 0)), PO 27 (.fldAddr 1 (.s 0)), PO 28 (.load false 1 (.s 0)), PO 29 (.bin false .add (.s 0) (I6 1)), PO 30 (.nilck (.s 4)), PO 31 (.fldAddr 1 (.s 0)), ⟨.no, 0, none, .store 1 (.s 0) (.s 2)⟩]) (.seq (.region false [ PM 32 0, PM 33 0, PO 34 (.nilck (.s 0)), PO 35 (.fldAddr 2 (.s 0)), PO 36 (.load false 1 (.s 0)), PO 37 (.bin false .mul (.s 0) (.c (.int .u64
 (6364136223846793005)))), PM 38 2, PO 39 (.conv .u64 (.s 0)), PO 40 (.bin false .add (.s 2) (.s 0)), PO 41 (.bin false .add (.s 0) (.c (.int .u64 (1442695040888963407)))), PO 42 (.nilck (.s 9)), PO 43 (.fldAddr 2 (.s 0)), ⟨.no, 0, none, .store 1 (.s 0) (.s 2)⟩]) (.seq (.anyo 10 [ SO 0 44 (.mov (.v 0)), SO 1 45 (.nilck (.s 0)), SO 2 46 (.fldAddr 1 (.s 1)), SO 3 47 (.load false 1 (.s 2)), SO 4 48 (.mov (.v 0)), SO 5 49 (.nilck (.s 4)), SO 6 50 (.fldAddr 0 (.s 5)), SO 7 51 (.load false 1 (.s 6)), SO 8 52 (.len false (.s 7)), SO 9 53 (.bin false .leq (.s 3) (.s 8))] [] (.cond (.s 9) (.seq (.region
 false [ PM 54 2, VS 1 2 0]) (.ret)) (.skip))) (.seq (.region false [ PM 55 0, PO 56 (.nilck (.s 0)), PO 57 (.fldAddr 2 (.s 0)), PO 58 (.load false 1 (.s 0)), PO 59 (.bin false .shr (.s 0) (.c (.int .u64 (40)))), PO 60 (.bin false .and (.s 0) (.c (.int .u64 (255)))), PO 61 (.conv .i64 (.s 0)), VS 1 2 0]) (.ret))))))), [.t 1]⟩
noncomputable def t_2 : List (Nat × Ctr) := []
noncomputable def c_2 : Ctr := mkN t_2 ir54 [.io]
theorem s_2 : Sound Tryz.prog 54 c_2 := mkN_sound _ snd_nil (by kernel_rfl : chkFn Tryz.prog 54 ir54 ir54_v = true)
theorem M_2 : c_2.modes = [.io] := rfl
theorem Fl_2 : c_2.flat = false := rfl
attribute [go_sem] M_2 Fl_2
theorem Fs_2 {s_ : L00Src} {y_ : Int × L00Src} (h : spec_l00Src_next s_ = some y_) : c_2.F [.mem 3 [L00Src_av s_] 0] = ⟨true, .int .i64 y_.1, [.mem 3 [L00Src_av y_.2] 0]⟩ := by
 refine mkN_E ?_
 dsimp only [spec_l00Src_next] at h
 rcases it_some h with ⟨z1, h⟩ | ⟨z1, h⟩
 ·try simp only [go_sem, n1, n2, n3, n4] at z1
  all_goals
  obtain ⟨z2, h⟩ := ck_some h
  have lz2 := ix_lt z2
  have xz2 := getD_mapD byteAV s_.code_ lz2
  try simp only [go_sem] at lz2
  try simp only [go_sem] at xz2
  try simp only [go_sem, n1, n2, n3, n4, z1] at z2
  all_goals
  rcases it_some h with ⟨z3, h⟩ | ⟨z3, h⟩
  ·try simp only [go_sem, n1, n2, n3, n4, z1, z2] at z3
   all_goals
   obtain rfl := so_some h
   refine ⟨0, fun L hL => ?_⟩
   simp only [go_sem, ir54, z1, z2, lz2, xz2, z3]
  ·try simp only [go_sem, n1, n2, n3, n4, z1, z2] at z3
   all_goals
   obtain ⟨z4, h⟩ := ck_some h
   try simp only [go_sem, n1, n2, n3, n4, z1, z2, z3] at z4
   all_goals
   obtain rfl := so_some h
   refine ⟨0, fun L hL => ?_⟩
   simp only [go_sem, ir54, z1, z2, lz2, xz2, z3, z4]
 ·try simp only [go_sem, n1, n2, n3, n4] at z1
  all_goals
  rcases it_some h with ⟨z5, h⟩ | ⟨z5, h⟩
  ·try simp only [go_sem, n1, n2, n3, n4, z1] at z5
   all_goals
   obtain rfl := so_some h
   refine ⟨0, fun L hL => ?_⟩
   simp only [go_sem, ir54, z1, z5]
  ·try simp only [go_sem, n1, n2, n3, n4, z1] at z5
   all_goals
   obtain ⟨z6, h⟩ := ck_some h
   try simp only [go_sem, n1, n2, n3, n4, z1, z5] at z6
   all_goals
   obtain rfl := so_some h
   refine ⟨0, fun L hL => ?_⟩
   simp only [go_sem, ir54, z1, z5, z6]


def ir29_v : List Nat := [0, 1, 4, 5]
def ir29 : AFn := ⟨2, 4, .seq (.region false [ VO 2 4 (.mov (I6 0))]) (.seq (.test false [ PM 6 1, PO 7 (.bin false .leq (.s 0) (I6 1))] (.s 0) (.seq (.region false [ VO 2 4 (.mov (I6 0))]) (.ret)) (.skip)) (.seq (.region false [ PM 8 0, PO 9 (.call 54 [(.s 0)]), VS 3 5 0]) (.seq (.test false [ PM 10 1, PO 11 (.bin false .gtr (.s 0) (I6 200))] (.s 0) (.region false [ PM 12 3, PO 13 (.bin false .mul (.s 0) (I6 256)), PM 14 0, PO 15 (.call 54 [(.s 0)]), PO 16 (.bin false .add (.s 2) (.s 0)), VS 3 5 0]) (.skip)) (.seq (.region false [ PM 17 3, PM 18 1, PO 19 (.bin false .rem (.s 1) (.s 0)), VS 2 4
 0]) (.ret))))), [.t 2]⟩
noncomputable def t_3 : List (Nat × Ctr) := [(54, c_2)]
theorem lk_3_54 : look t_3 54 = some c_2 := rfl
noncomputable def c_3 : Ctr := mkN t_3 ir29 [.io, .bor]
theorem s_3 : Sound Tryz.prog 29 c_3 := mkN_sound _ (snd_cons s_2 snd_nil) (by kernel_rfl : chkFn Tryz.prog 29 ir29 ir29_v = true)
theorem M_3 : c_3.modes = [.io, .bor] := rfl
theorem Fl_3 : c_3.flat = false := rfl
attribute [go_sem] M_3 Fl_3
attribute [go_sem] lk_3_54
theorem Fs_3 {s_ : L00Src} {n : Int} {y_ : Int × L00Src} (h : spec_l00Src_pick s_ n = some y_) : c_3.F [.mem 3 [L00Src_av s_] 0, .int .i64 n] = ⟨true, .int .i64 y_.1, [.mem 3 [L00Src_av y_.2] 0, .any]⟩ := by
 refine mkN_E ?_
 dsimp only [spec_l00Src_pick] at h
 rcases it_some h with ⟨z1, h⟩ | ⟨z1, h⟩
 ·try simp only [go_sem, n1, n2, n3, n4] at z1
  all_goals
  obtain rfl := so_some h
  refine ⟨0, fun L hL => ?_⟩
  simp only [go_sem, ir29, z1]
 ·try simp only [go_sem, n1, n2, n3, n4] at z1
  all_goals
  obtain ⟨y_2, z2, h⟩ := bd_some h
  have fz2 := Fs_2 z2
  try simp only [go_sem, z1] at fz2
  rcases it_some h with ⟨z3, h⟩ | ⟨z3, h⟩
  ·try simp only [go_sem, n1, n2, n3, n4, z1] at z3
   all_goals
   obtain ⟨y_4, z4, h⟩ := bd_some h
   have fz4 := Fs_2 z4
   try simp only [go_sem, z1, z3] at fz4
   obtain ⟨z5, h⟩ := ck_some h
   try simp only [go_sem, n1, n2, n3, n4, z1, z3] at z5
   all_goals
   obtain rfl := so_some h
   refine ⟨0, fun L hL => ?_⟩
   simp only [go_sem, ir29, z1, fz2, z3, fz4, z5]
  ·try simp only [go_sem, n1, n2, n3, n4, z1] at z3
   all_goals
   obtain ⟨z6, h⟩ := ck_some h
   try simp only [go_sem, n1, n2, n3, n4, z1, z3] at z6
   all_goals
   obtain rfl := so_some h
   refine ⟨0, fun L hL => ?_⟩
   simp only [go_sem, ir29, z1, fz2, z3, z6]


def ir30_v : List Nat := [0, 1, 4]
def ir30 : AFn := ⟨2, 3, .seq (.region false [ VO 2 4 (.mov (.c (.bool false)))]) (.seq (.region false [ PM 5 0, PM 6 1, PO 7 (.call 29 [(.s 1), (.s 0)]), PO 8 (.bin false .eql (.s 0) (I6 0)), VS 2 4 0]) (.ret)), [.t 2]⟩
noncomputable def t_4 : List (Nat × Ctr) := [(29, c_3)]
theorem lk_4_29 : look t_4 29 = some c_3 := rfl
noncomputable def c_4 : Ctr := mkN t_4 ir30 [.io, .bor]
theorem s_4 : Sound Tryz.prog 30 c_4 := mkN_sound _ (snd_cons s_3 snd_nil) (by kernel_rfl : chkFn Tryz.prog 30 ir30 ir30_v = true)
theorem M_4 : c_4.modes = [.io, .bor] := rfl
theorem Fl_4 : c_4.flat = false := rfl
attribute [go_sem] M_4 Fl_4
attribute [go_sem] lk_4_29
theorem Fs_4 {s_ : L00Src} {n : Int} {y_ : Bool × L00Src} (h : spec_l00Src_one s_ n = some y_) : c_4.F [.mem 3 [L00Src_av s_] 0, .int .i64 n] = ⟨true, .bool y_.1, [.mem 3 [L00Src_av y_.2] 0, .any]⟩ := by
 refine mkN_E ?_
 dsimp only [spec_l00Src_one] at h
 obtain ⟨y_1, z1, h⟩ := bd_some h
 have fz1 := Fs_3 z1
 try simp only [go_sem] at fz1
 obtain rfl := so_some h
 refine ⟨0, fun L hL => ?_⟩
 simp only [go_sem, ir30, fz1]


def ir66_v : List Nat := [0, 1, 4]
def ir66 : AFn := ⟨2, 3, .seq (.region false [ VO 2 4 (.mov (.c (.str [])))]) (.seq (.region false [ PM 5 1, PM 6 0, PM 7 1, PO 8 (.len false (.s 0)), PO 9 (.call 29 [(.s 2), (.s 0)]), PO 10 (.ixAddr 1 (.s 4) (.s 0)), PO 11 (.load false 1 (.s 0)), VS 2 4 0]) (.ret)), [.t 2]⟩
noncomputable def t_5 : List (Nat × Ctr) := [(29, c_3)]
theorem lk_5_29 : look t_5 29 = some c_3 := rfl
noncomputable def c_5 : Ctr := mkN t_5 ir66 [.io, .bor]
theorem s_5 : Sound Tryz.prog 66 c_5 := mkN_sound _ (snd_cons s_3 snd_nil) (by kernel_rfl : chkFn Tryz.prog 66 ir66 ir66_v = true)
theorem M_5 : c_5.modes = [.io, .bor] := rfl
theorem Fl_5 : c_5.flat = false := rfl
attribute [go_sem] M_5 Fl_5
attribute [go_sem] lk_5_29
theorem Fs_5 {s_ : L00Src} {list : List (List UInt8)} {y_ : (List UInt8) × L00Src} (h : spec_l00Src_text s_ list = some y_) : c_5.F [.mem 3 [L00Src_av s_] 0, .sl 1 (List.map AV.str list)] = ⟨true, .str y_.1, [.mem 3 [L00Src_av y_.2] 0, .any]⟩ := by
 refine mkN_E ?_
 dsimp only [spec_l00Src_text] at h
 obtain ⟨y_1, z1, h⟩ := bd_some h
 have fz1 := Fs_3 z1
 try simp only [go_sem] at fz1
 obtain ⟨z2, h⟩ := ck_some h
 have lz2 := ix_lt z2
 have xz2 := getD_mapD AV.str list lz2
 try simp only [go_sem] at lz2
 try simp only [go_sem] at xz2
 try simp only [go_sem, n1, n2, n3, n4] at z2
 all_goals
 obtain rfl := so_some h
 refine ⟨0, fun L hL => ?_⟩
 simp only [go_sem, ir66, fz1, z2, lz2, xz2]


def ir37_v : List Nat := [0, 2]
def ir37 : AFn := ⟨1, 2, .seq (.region false [ VO 1 2 (.mov (.c (.str [])))]) (.seq (.test false [ PM 3 0, PO 4 (.call 30 [(.s 0), (I6 30)])] (.s 0) (.seq (.region false [ PM 5 0, PO 6 (.mkSl 1 (.str []) 3 [(0, (.c (.str [97, 10, 98]))), (1, (.c (.str [120, 127]))), (2, (.c (.str [31])))]), PO 7 (.call 66 [(.s 1), (.s 0)]), VS 1 2 0]) (.ret)) (.skip)) (.seq (.region false [ PM 8 0, PO 9 (.mkSl 1 (.str []) 8 [(0, (.c (.str []))), (1, (.c (.str [97]))), (2, (.c (.str [109, 105, 114, 97]))), (3, (.c (.str [49, 50]))), (4, (.c (.str [57, 46, 53, 48, 48]))), (5, (.c (.str [114, 114, 45, 108, 121,
 114]))), (6, (.c (.str [111, 98, 115, 101, 114, 118, 101, 114, 115]))), (7, (.c (.str [109, 97, 120, 32, 49])))]), PO 10 (.call 66 [(.s 1), (.s 0)]), VS 1 2 0]) (.ret))), [.t 1]⟩
noncomputable def t_6 : List (Nat × Ctr) := [(30, c_4), (66, c_5)]
theorem lk_6_30 : look t_6 30 = some c_4 := rfl
theorem lk_6_66 : look t_6 66 = some c_5 := rfl
noncomputable def c_6 : Ctr := mkN t_6 ir37 [.io]
theorem s_6 : Sound Tryz.prog 37 c_6 := mkN_sound _ (snd_cons s_4 (snd_cons s_5 snd_nil)) (by kernel_rfl : chkFn Tryz.prog 37 ir37 ir37_v = true)
theorem M_6 : c_6.modes = [.io] := rfl
theorem Fl_6 : c_6.flat = false := rfl
attribute [go_sem] M_6 Fl_6
attribute [go_sem] lk_6_30 lk_6_66
theorem Fs_6 {s_ : L00Src} {y_ : (List UInt8) × L00Src} (h : spec_l24Word s_ = some y_) : c_6.F [.mem 3 [L00Src_av s_] 0] = ⟨true, .str y_.1, [.mem 3 [L00Src_av y_.2] 0]⟩ := by
 refine mkN_E ?_
 dsimp only [spec_l24Word] at h
 obtain ⟨y_1, z1, h⟩ := bd_some h
 have fz1 := Fs_4 z1
 try simp only [go_sem] at fz1
 rcases it_some h with ⟨z2, h⟩ | ⟨z2, h⟩
 ·try simp only [go_sem, n1, n2, n3, n4] at z2
  all_goals
  obtain ⟨y_3, z3, h⟩ := bd_some h
  have fz3 := Fs_5 z3
  try simp only [go_sem, z2] at fz3
  obtain rfl := so_some h
  refine ⟨0, fun L hL => ?_⟩
  simp only [go_sem, ir37, fz1, z2, fz3]
 ·try simp only [go_sem, n1, n2, n3, n4] at z2
  all_goals
  obtain ⟨y_4, z4, h⟩ := bd_some h
  have fz4 := Fs_5 z4
  try simp only [go_sem, z2] at fz4
  obtain rfl := so_some h
  refine ⟨0, fun L hL => ?_⟩
  simp only [go_sem, ir37, fz1, z2, fz4]


def ir35_b0 : IR := .seq (.test false [ PM 5 0, PO 6 (.bin false .gtr (.s 0) (I6 0))] (.s 0) (.skip) (.exit 0)) (.seq (.block 1 (.region false [ PM 9 2, PO 10 (.mkSl 1 (.int .u8 (0)) 1 [(0, (.c (.int .u8 (32))))]), PO 11 (.app 1 1 (.int .u8 (0)) (.s 1) (.s 0)), VS 2 3 0])) (.region false [ PM 7 0, PO 8 (.bin false .sub (.s 0) (I6 1)), VS 0 0 0]))
def ir35_k0 : List Bool := [true, false, true]
def ir35_o0 : List Bool := [false, false, true]
def ir35_r0 : List Bool := [false, true, false]
def ir35_v : List Nat := [0, 2, 3]
def ir35 : AFn := ⟨1, 3, .seq (.region false [ VO 1 2 (.mov (.c (.str [])))]) (.seq (.region false [ PO 4 (.mkSl 1 (.int .u8 (0)) 0 []), VS 2 3 0]) (.seq (.block 0 (.loop ir35_k0 ir35_o0 ir35_r0 ir35_b0)) (.seq (.region false [ PM 12 2, PO 13 (.b2s (.s 0)), VS 1 2 0]) (.ret)))), [.t 1]⟩
noncomputable def t_7 : List (Nat × Ctr) := []
noncomputable def c_7 : Ctr := mkF t_7 ir35 [.bor]
theorem s_7 : Sound Tryz.prog 35 c_7 := mkF_sound _ rfl snd_nil (by kernel_rfl : chkFn Tryz.prog 35 ir35 ir35_v = true)
theorem M_7 : c_7.modes = [.bor] := rfl
theorem Fl_7 : c_7.flat = true := rfl
attribute [go_sem] M_7 Fl_7
def E_7_l1  : (Int × (List UInt8)) → St
 | (n, out) => ⟨[.int .i64 n, .any, .own 3200000], [], [(3200000, ⟨1, List.map byteAV out⟩)], true⟩
def R_7_l1  (y : (List UInt8)) : Res := (.exit 0, ⟨[.any, .any, .own 3200000], [], [(3200000, ⟨1, List.map byteAV y⟩)], true⟩)
theorem spec_l24Blanks_l1_ex  {sgm_ : Int × (List UInt8)} {rho_ : (List UInt8)} (h : whileE (spec_l24Blanks_l1) sgm_ = some rho_) : ∃ L0, ∀ L, L0 ≤ L → iter (exec (look t_7) L ir35_b0) ir35_k0 ir35_o0 ir35_r0 L (E_7_l1 sgm_) = R_7_l1 rho_ := by
 refine loop_ex (E := E_7_l1) (R := R_7_l1) (fun y => by first | (intro c; cases c) | (rcases y with y | y <;> (intro c; cases c)) | (rcases y with y | y | y <;> (intro c; cases c))) ?_ h
 clear h
 rintro ⟨n, out⟩ o_ h
 dsimp only [spec_l24Blanks_l1] at h
 rcases it_some h with ⟨z1, h⟩ | ⟨z1, h⟩
 ·try simp only [go_sem, n1, n2, n3, n4] at z1
  all_goals
  obtain ⟨z2, h⟩ := ck_some h
  try simp only [go_sem, n1, n2, n3, n4, z1] at z2
  all_goals
  obtain rfl := so_some h
  refine ⟨0, fun L hL => ?_⟩
  simp only [go_sem, ir35, E_7_l1, R_7_l1, ir35_b0, ir35_k0, ir35_o0, ir35_r0, z1, z2]
 ·try simp only [go_sem, n1, n2, n3, n4] at z1
  all_goals
  obtain rfl := so_some h
  refine ⟨0, fun L hL => ?_⟩
  simp only [go_sem, ir35, E_7_l1, R_7_l1, ir35_b0, ir35_k0, ir35_o0, ir35_r0, z1]

theorem Fs_7 {n : Int} {y_ : (List UInt8)} (h : spec_l24Blanks n = some y_) : c_7.F [.int .i64 n] = ⟨true, .str y_, [.any]⟩ := by
 refine mkF_E rfl ?_
 dsimp only [spec_l24Blanks] at h
 obtain ⟨y_3, z3, h⟩ := bd_some h
 obtain ⟨Lz3, ez3⟩ := spec_l24Blanks_l1_ex z3
 obtain rfl := so_some h
 refine ⟨Lz3, fun L hL => ?_⟩
 have ez3 := ez3 L (by omega)
 try simp only [go_sem, E_7_l1, R_7_l1, ir35_k0, ir35_o0, ir35_r0] at ez3
 simp only [go_sem, ir35, E_7_l1, R_7_l1, ir35_k0, ir35_o0, ir35_r0, ez3]



end Go.Proofs.YtambhaccpbhnhaaGreatDoor
