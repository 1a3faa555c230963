/- Codes and contracts of the functions that RU reaches, and that their typed forms say what they do. No condition. -/
import Derived.Test.YtelkmhdolnjnpaaGreatDoorRUT
import Derived.Test.YtelkmhdolnjnpaaGreatDoorEngDelRule
import Derived.Test.YtelkmhdolnjnpaaGreatDoorEngInsRule
import Derived.Test.YtelkmhdolnjnpaaGreatDoorEngSCut
import Derived.Test.YtelkmhdolnjnpaaGreatDoorEngSF
import Derived.Test.YtelkmhdolnjnpaaGreatDoorEngSJ
import Derived.Test.YtelkmhdolnjnpaaGreatDoorEngSRd
import Derived.Test.YtelkmhdolnjnpaaGreatDoorRows
import Derived.WalkKit
namespace Go.Proofs.YtelkmhdolnjnpaaGreatDoor
open Go Go.RowKit
set_option linter.unusedVariables false
set_option linter.unusedSimpArgs false
set_option maxRecDepth 10000

def ir4_v : List Nat := [0, 2]
def ir4 : AFn := ⟨1, 2, .seq (.region false [ VO 1 2 (.mov (.c (.bool false)))]) (.seq (.region false [ PM 3 0, PO 4 (.len false (.s 0)), PO 5 (.bin false .gtr (.s 0) (I6 4096)), VS 1 2 0]) (.ret)), [.t 1]⟩
noncomputable def t_0 : List (Nat × Ctr) := []
noncomputable def c_0 : Ctr := mkF t_0 ir4 [.bor]
theorem s_0 : Sound Tryz.prog 4 c_0 := mkF_sound _ rfl snd_nil (by kernel_rfl : chkFn Tryz.prog 4 ir4 ir4_v = true)
theorem M_0 : c_0.modes = [.bor] := rfl
theorem Fl_0 : c_0.flat = true := rfl
attribute [go_sem] M_0 Fl_0
theorem Fs_0 {code : List UInt8} {y_ : Bool} (h : laws_f6big code = some y_) : c_0.F [.sl 1 (List.map byteAV code)] = ⟨true, .bool y_, [.any]⟩ := by
 refine mkF_E rfl ?_
 dsimp only [laws_f6big] at h
 obtain rfl := so_some h
 refine ⟨0, fun L hL => ?_⟩
 simp only [go_sem, ir4]


def ir37_v : List Nat := [0, 2]
def ir37 : AFn := ⟨1, 2, .seq (.region false [ VO 1 2 (.mov (.c (.cv (.pointer none))))]) (.seq (.region false [ PM 3 0, PO 4 (.build [.sl 1 [], .int .i64 (0), .int .u64 (0)] [(0, 1, (.s 0))]), PO 5 (.box (.s 0)), VS 1 2 0]) (.ret)), [.t 1]⟩
noncomputable def t_1 : List (Nat × Ctr) := []
noncomputable def c_1 : Ctr := mkN t_1 ir37 [.bor]
theorem s_1 : Sound Tryz.prog 37 c_1 := mkN_sound _ snd_nil (by kernel_rfl : chkFn Tryz.prog 37 ir37 ir37_v = true)
theorem M_1 : c_1.modes = [.bor] := rfl
theorem Fl_1 : c_1.flat = false := rfl
attribute [go_sem] M_1 Fl_1
theorem Fs_1 {code : List UInt8} {y_ : L00Src} (h : spec_l00From code = some y_) : c_1.F [.sl 1 (List.map byteAV code)] = ⟨true, .mem 3 [L00Src_av y_] 0, [.any]⟩ := by
 refine mkN_E ?_
 dsimp only [spec_l00From] at h
 obtain rfl := so_some h
 refine ⟨0, fun L hL => ?_⟩
 simp only [go_sem, ir37]


def ir89_v : List Nat := [0, 2, 3]
def ir89 : AFn := ⟨1, 3, .seq (.region false [ VO 1 2 (.mov (I6 0))]) (.seq (.region false [ VO 2 3 (.mov (I6 0))]) (.seq (.anyo 10 [ SO 0 4 (.mov (.v 0)), SO 1 5 (.nilck (.s 0)), SO 2 6 (.fldAddr 1 (.s 1)), SO 3 7 (.load false 1 (.s 2)), SO 4 8 (.mov (.v 0)), SO 5 9 (.nilck (.s 4)), SO 6 10 (.fldAddr 0 (.s 5)), SO 7 11 (.load false 1 (.s 6)), SO 8 12 (.len false (.s 7)), SO 9 13 (.bin false .lss (.s 3) (.s 8))] [] (.cond (.s 9) (.anyo 11 [ SO 0 14 (.mov (.v 0)), SO 1 15 (.nilck (.s 0)), SO 2 16 (.fldAddr 0 (.s 1)), SO 3 17 (.load false 1 (.s 2)), SO 4 18 (.mov (.v 0)), SO 5 19 (.nilck (.s 4)),
 SO 6 20 (.fldAddr 1 (.s 5)), SO 7 21 (.load false 1 (.s 6)), SO 8 22 (.ixAddr 1 (.s 3) (.s 7)), SO 9 23 (.load false 1 (.s 8)), SO 10 24 (.conv .i64 (.s 9)), VS 2 3 10] [] .skip) (.skip))) (.seq (.region false [ PM 25 0, PO 26 (.nilck (.s 0)), PO 27 (.fldAddr 1 (.s 0)), PO 28 (.load false 1 (.s 0)), PO 29 (.bin false .add (.s 0) (I6 1)), PO 30 (.nilck (.s 4)), PO 31 (.fldAddr 1 (.s 0)), ⟨.no, 0, none, .store 1 (.s 0) (.s 2)⟩]) (.seq (.region false [ PM 32 0, PM 33 0, PO 34 (.nilck (.s 0)), PO 35 (.fldAddr 2 (.s 0)), PO 36 (.load false 1 (.s 0)), PO 37 (.bin false .mul (.s 0) (.c (.int .u64
 (6364136223846793005)))), PM 38 2, PO 39 (.conv .u64 (.s 0)), PO 40 (.bin false .add (.s 2) (.s 0)), PO 41 (.bin false .add (.s 0) (.c (.int .u64 (1442695040888963407)))), PO 42 (.nilck (.s 9)), PO 43 (.fldAddr 2 (.s 0)), ⟨.no, 0, none, .store 1 (.s 0) (.s 2)⟩]) (.seq (.anyo 10 [ SO 0 44 (.mov (.v 0)), SO 1 45 (.nilck (.s 0)), SO 2 46 (.fldAddr 1 (.s 1)), SO 3 47 (.load false 1 (.s 2)), SO 4 48 (.mov (.v 0)), SO 5 49 (.nilck (.s 4)), SO 6 50 (.fldAddr 0 (.s 5)), SO 7 51 (.load false 1 (.s 6)), SO 8 52 (.len false (.s 7)), SO 9 53 (.bin false .leq (.s 3) (.s 8))] [] (.cond (.s 9) (.seq (.region
 false [ PM 54 2, VS 1 2 0]) (.ret)) (.skip))) (.seq (.region false [ PM 55 0, PO 56 (.nilck (.s 0)), PO 57 (.fldAddr 2 (.s 0)), PO 58 (.load false 1 (.s 0)), PO 59 (.bin false .shr (.s 0) (.c (.int .u64 (40)))), PO 60 (.bin false .and (.s 0) (.c (.int .u64 (255)))), PO 61 (.conv .i64 (.s 0)), VS 1 2 0]) (.ret))))))), [.t 1]⟩
noncomputable def t_2 : List (Nat × Ctr) := []
noncomputable def c_2 : Ctr := mkN t_2 ir89 [.io]
theorem s_2 : Sound Tryz.prog 89 c_2 := mkN_sound _ snd_nil (by kernel_rfl : chkFn Tryz.prog 89 ir89 ir89_v = true)
theorem M_2 : c_2.modes = [.io] := rfl
theorem Fl_2 : c_2.flat = false := rfl
attribute [go_sem] M_2 Fl_2
theorem Fs_2 {s_ : L00Src} {y_ : Int × L00Src} (h : spec_l00Src_next s_ = some y_) : c_2.F [.mem 3 [L00Src_av s_] 0] = ⟨true, .int .i64 y_.1, [.mem 3 [L00Src_av y_.2] 0]⟩ := by
 refine mkN_E ?_
 dsimp only [spec_l00Src_next] at h
 rcases it_some h with ⟨z1, h⟩ | ⟨z1, h⟩
 ·try simp only [go_sem, n1, n2, n3, n4] at z1
  all_goals
  obtain ⟨z2, h⟩ := ck_some h
  have lz2 := ix_lt z2
  have xz2 := getD_mapD byteAV s_.code_ lz2
  try simp only [go_sem] at lz2
  try simp only [go_sem] at xz2
  try simp only [go_sem, n1, n2, n3, n4, z1] at z2
  all_goals
  rcases it_some h with ⟨z3, h⟩ | ⟨z3, h⟩
  ·try simp only [go_sem, n1, n2, n3, n4, z1, z2] at z3
   all_goals
   obtain rfl := so_some h
   refine ⟨0, fun L hL => ?_⟩
   simp only [go_sem, ir89, z1, z2, lz2, xz2, z3]
  ·try simp only [go_sem, n1, n2, n3, n4, z1, z2] at z3
   all_goals
   obtain ⟨z4, h⟩ := ck_some h
   try simp only [go_sem, n1, n2, n3, n4, z1, z2, z3] at z4
   all_goals
   obtain rfl := so_some h
   refine ⟨0, fun L hL => ?_⟩
   simp only [go_sem, ir89, z1, z2, lz2, xz2, z3, z4]
 ·try simp only [go_sem, n1, n2, n3, n4] at z1
  all_goals
  rcases it_some h with ⟨z5, h⟩ | ⟨z5, h⟩
  ·try simp only [go_sem, n1, n2, n3, n4, z1] at z5
   all_goals
   obtain rfl := so_some h
   refine ⟨0, fun L hL => ?_⟩
   simp only [go_sem, ir89, z1, z5]
  ·try simp only [go_sem, n1, n2, n3, n4, z1] at z5
   all_goals
   obtain ⟨z6, h⟩ := ck_some h
   try simp only [go_sem, n1, n2, n3, n4, z1, z5] at z6
   all_goals
   obtain rfl := so_some h
   refine ⟨0, fun L hL => ?_⟩
   simp only [go_sem, ir89, z1, z5, z6]


def ir66_v : List Nat := [0, 1, 4, 5]
def ir66 : AFn := ⟨2, 4, .seq (.region false [ VO 2 4 (.mov (I6 0))]) (.seq (.test false [ PM 6 1, PO 7 (.bin false .leq (.s 0) (I6 1))] (.s 0) (.seq (.region false [ VO 2 4 (.mov (I6 0))]) (.ret)) (.skip)) (.seq (.region false [ PM 8 0, PO 9 (.call 89 [(.s 0)]), VS 3 5 0]) (.seq (.test false [ PM 10 1, PO 11 (.bin false .gtr (.s 0) (I6 200))] (.s 0) (.region false [ PM 12 3, PO 13 (.bin false .mul (.s 0) (I6 256)), PM 14 0, PO 15 (.call 89 [(.s 0)]), PO 16 (.bin false .add (.s 2) (.s 0)), VS 3 5 0]) (.skip)) (.seq (.region false [ PM 17 3, PM 18 1, PO 19 (.bin false .rem (.s 1) (.s 0)), VS 2 4
 0]) (.ret))))), [.t 2]⟩
noncomputable def t_3 : List (Nat × Ctr) := [(89, c_2)]
theorem lk_3_89 : look t_3 89 = some c_2 := rfl
noncomputable def c_3 : Ctr := mkN t_3 ir66 [.io, .bor]
theorem s_3 : Sound Tryz.prog 66 c_3 := mkN_sound _ (snd_cons s_2 snd_nil) (by kernel_rfl : chkFn Tryz.prog 66 ir66 ir66_v = true)
theorem M_3 : c_3.modes = [.io, .bor] := rfl
theorem Fl_3 : c_3.flat = false := rfl
attribute [go_sem] M_3 Fl_3
attribute [go_sem] lk_3_89
theorem Fs_3 {s_ : L00Src} {n : Int} {y_ : Int × L00Src} (h : spec_l00Src_pick s_ n = some y_) : c_3.F [.mem 3 [L00Src_av s_] 0, .int .i64 n] = ⟨true, .int .i64 y_.1, [.mem 3 [L00Src_av y_.2] 0, .any]⟩ := by
 refine mkN_E ?_
 dsimp only [spec_l00Src_pick] at h
 rcases it_some h with ⟨z1, h⟩ | ⟨z1, h⟩
 ·try simp only [go_sem, n1, n2, n3, n4] at z1
  all_goals
  obtain rfl := so_some h
  refine ⟨0, fun L hL => ?_⟩
  simp only [go_sem, ir66, z1]
 ·try simp only [go_sem, n1, n2, n3, n4] at z1
  all_goals
  obtain ⟨y_2, z2, h⟩ := bd_some h
  have fz2 := Fs_2 z2
  try simp only [go_sem, z1] at fz2
  rcases it_some h with ⟨z3, h⟩ | ⟨z3, h⟩
  ·try simp only [go_sem, n1, n2, n3, n4, z1] at z3
   all_goals
   obtain ⟨y_4, z4, h⟩ := bd_some h
   have fz4 := Fs_2 z4
   try simp only [go_sem, z1, z3] at fz4
   obtain ⟨z5, h⟩ := ck_some h
   try simp only [go_sem, n1, n2, n3, n4, z1, z3] at z5
   all_goals
   obtain rfl := so_some h
   refine ⟨0, fun L hL => ?_⟩
   simp only [go_sem, ir66, z1, fz2, z3, fz4, z5]
  ·try simp only [go_sem, n1, n2, n3, n4, z1] at z3
   all_goals
   obtain ⟨z6, h⟩ := ck_some h
   try simp only [go_sem, n1, n2, n3, n4, z1, z3] at z6
   all_goals
   obtain rfl := so_some h
   refine ⟨0, fun L hL => ?_⟩
   simp only [go_sem, ir66, z1, fz2, z3, z6]


def ir72_v : List Nat := [0, 1, 4]
def ir72 : AFn := ⟨2, 3, .seq (.region false [ VO 2 4 (.mov (I6 0))]) (.seq (.region false [ PM 5 1, PM 6 0, PM 7 1, PO 8 (.len false (.s 0)), PO 9 (.call 66 [(.s 2), (.s 0)]), PO 10 (.ixAddr 1 (.s 4) (.s 0)), PO 11 (.load false 1 (.s 0)), VS 2 4 0]) (.ret)), [.t 2]⟩
noncomputable def t_4 : List (Nat × Ctr) := [(66, c_3)]
theorem lk_4_66 : look t_4 66 = some c_3 := rfl
noncomputable def c_4 : Ctr := mkN t_4 ir72 [.io, .bor]
theorem s_4 : Sound Tryz.prog 72 c_4 := mkN_sound _ (snd_cons s_3 snd_nil) (by kernel_rfl : chkFn Tryz.prog 72 ir72 ir72_v = true)
theorem M_4 : c_4.modes = [.io, .bor] := rfl
theorem Fl_4 : c_4.flat = false := rfl
attribute [go_sem] M_4 Fl_4
attribute [go_sem] lk_4_66
theorem Fs_4 {s_ : L00Src} {list : List Int} {y_ : Int × L00Src} (h : spec_l00Src_among s_ list = some y_) : c_4.F [.mem 3 [L00Src_av s_] 0, .sl 1 (List.map (AV.int .i64) list)] = ⟨true, .int .i64 y_.1, [.mem 3 [L00Src_av y_.2] 0, .any]⟩ := by
 refine mkN_E ?_
 dsimp only [spec_l00Src_among] at h
 obtain ⟨y_1, z1, h⟩ := bd_some h
 have fz1 := Fs_3 z1
 try simp only [go_sem] at fz1
 obtain ⟨z2, h⟩ := ck_some h
 have lz2 := ix_lt z2
 have xz2 := getD_mapD (AV.int .i64) list lz2
 try simp only [go_sem] at lz2
 try simp only [go_sem] at xz2
 try simp only [go_sem, n1, n2, n3, n4] at z2
 all_goals
 obtain rfl := so_some h
 refine ⟨0, fun L hL => ?_⟩
 simp only [go_sem, ir72, fz1, z2, lz2, xz2]


def ir60_v : List Nat := [0, 1, 4]
def ir60 : AFn := ⟨2, 3, .seq (.region false [ VO 2 4 (.mov (.c (.bool false)))]) (.seq (.region false [ PM 5 0, PM 6 1, PO 7 (.call 66 [(.s 1), (.s 0)]), PO 8 (.bin false .eql (.s 0) (I6 0)), VS 2 4 0]) (.ret)), [.t 2]⟩
noncomputable def t_5 : List (Nat × Ctr) := [(66, c_3)]
theorem lk_5_66 : look t_5 66 = some c_3 := rfl
noncomputable def c_5 : Ctr := mkN t_5 ir60 [.io, .bor]
theorem s_5 : Sound Tryz.prog 60 c_5 := mkN_sound _ (snd_cons s_3 snd_nil) (by kernel_rfl : chkFn Tryz.prog 60 ir60 ir60_v = true)
theorem M_5 : c_5.modes = [.io, .bor] := rfl
theorem Fl_5 : c_5.flat = false := rfl
attribute [go_sem] M_5 Fl_5
attribute [go_sem] lk_5_66
theorem Fs_5 {s_ : L00Src} {n : Int} {y_ : Bool × L00Src} (h : spec_l00Src_one s_ n = some y_) : c_5.F [.mem 3 [L00Src_av s_] 0, .int .i64 n] = ⟨true, .bool y_.1, [.mem 3 [L00Src_av y_.2] 0, .any]⟩ := by
 refine mkN_E ?_
 dsimp only [spec_l00Src_one] at h
 obtain ⟨y_1, z1, h⟩ := bd_some h
 have fz1 := Fs_3 z1
 try simp only [go_sem] at fz1
 obtain rfl := so_some h
 refine ⟨0, fun L hL => ?_⟩
 simp only [go_sem, ir60, fz1]


def ir86_v : List Nat := [0, 1, 4]
def ir86 : AFn := ⟨2, 3, .seq (.region false [ VO 2 4 (.mov (.c (.str [])))]) (.seq (.region false [ PM 5 1, PM 6 0, PM 7 1, PO 8 (.len false (.s 0)), PO 9 (.call 66 [(.s 2), (.s 0)]), PO 10 (.ixAddr 1 (.s 4) (.s 0)), PO 11 (.load false 1 (.s 0)), VS 2 4 0]) (.ret)), [.t 2]⟩
noncomputable def t_6 : List (Nat × Ctr) := [(66, c_3)]
theorem lk_6_66 : look t_6 66 = some c_3 := rfl
noncomputable def c_6 : Ctr := mkN t_6 ir86 [.io, .bor]
theorem s_6 : Sound Tryz.prog 86 c_6 := mkN_sound _ (snd_cons s_3 snd_nil) (by kernel_rfl : chkFn Tryz.prog 86 ir86 ir86_v = true)
theorem M_6 : c_6.modes = [.io, .bor] := rfl
theorem Fl_6 : c_6.flat = false := rfl
attribute [go_sem] M_6 Fl_6
attribute [go_sem] lk_6_66
theorem Fs_6 {s_ : L00Src} {list : List (List UInt8)} {y_ : (List UInt8) × L00Src} (h : spec_l00Src_text s_ list = some y_) : c_6.F [.mem 3 [L00Src_av s_] 0, .sl 1 (List.map AV.str list)] = ⟨true, .str y_.1, [.mem 3 [L00Src_av y_.2] 0, .any]⟩ := by
 refine mkN_E ?_
 dsimp only [spec_l00Src_text] at h
 obtain ⟨y_1, z1, h⟩ := bd_some h
 have fz1 := Fs_3 z1
 try simp only [go_sem] at fz1
 obtain ⟨z2, h⟩ := ck_some h
 have lz2 := ix_lt z2
 have xz2 := getD_mapD AV.str list lz2
 try simp only [go_sem] at lz2
 try simp only [go_sem] at xz2
 try simp only [go_sem, n1, n2, n3, n4] at z2
 all_goals
 obtain rfl := so_some h
 refine ⟨0, fun L hL => ?_⟩
 simp only [go_sem, ir86, fz1, z2, lz2, xz2]


def ir58_v : List Nat := [0, 2, 3]
def ir58 : AFn := ⟨1, 3, .seq (.region false [ VO 1 2 (.alloc (.agg [.str [], .int .i64 (0), .int .i64 (0), .int .i64 (0), .int .i64 (0), .int .i64 (0)]))]) (.seq (.region false [ PM 4 0, PO 5 (.mkSl 1 (.str []) 4 [(0, (.c (.str [99, 101, 112, 104, 101, 105, 100]))), (1, (.c (.str [109, 105, 114, 97]))), (2, (.c (.str [101, 99, 108, 105, 112, 115, 105, 110, 103]))), (3, (.c (.str [114, 114, 45, 108, 121, 114, 97, 101])))]), PO 6 (.call 86 [(.s 1), (.s 0)]), PO 7 (.build [.str [], .int .i64 (0), .int .i64 (0), .int .i64 (0), .int .i64 (0), .int .i64 (0)] [(0, 1, (.s 0))]), VO 2 3 (.alloc (.agg
 [.str [], .int .i64 (0), .int .i64 (0), .int .i64 (0), .int .i64 (0), .int .i64 (0)])), ⟨.no, 0, none, .store 6 (.v 2) (.s 0)⟩]) (.seq (.region false [ PM 8 0, PO 9 (.call 66 [(.s 0), (I6 4)]), PO 10 (.bin false .mul (I6 500) (.s 0)), PO 11 (.fldAddr 1 (.v 2)), ⟨.no, 0, none, .store 1 (.s 0) (.s 1)⟩]) (.seq (.anyo 7 [ SO 0 12 (.fldAddr 1 (.v 2)), SO 1 13 (.load false 1 (.s 0)), SO 2 14 (.mov (.v 0)), SO 3 15 (.call 66 [(.s 2), (I6 5)]), SO 4 16 (.bin false .mul (I6 500) (.s 3)), SO 5 17 (.bin false .add (.s 1) (.s 4)), SO 6 18 (.fldAddr 2 (.v 2)), ⟨.no, 0, none, .store 1 (.s 6) (.s 5)⟩] [[2,
 0, 1, 3, 4, 5, 6, 7], [2, 0, 3, 1, 4, 5, 6, 7], [2, 3, 0, 1, 4, 5, 6, 7]] .skip) (.seq (.region false [ PM 19 0, PO 20 (.call 66 [(.s 0), (I6 4)]), PO 21 (.bin false .mul (I6 10000) (.s 0)), PO 22 (.fldAddr 3 (.v 2)), ⟨.no, 0, none, .store 1 (.s 0) (.s 1)⟩]) (.seq (.anyo 7 [ SO 0 23 (.fldAddr 3 (.v 2)), SO 1 24 (.load false 1 (.s 0)), SO 2 25 (.mov (.v 0)), SO 3 26 (.call 66 [(.s 2), (I6 5)]), SO 4 27 (.bin false .mul (I6 10000) (.s 3)), SO 5 28 (.bin false .add (.s 1) (.s 4)), SO 6 29 (.fldAddr 4 (.v 2)), ⟨.no, 0, none, .store 1 (.s 6) (.s 5)⟩] [[2, 0, 1, 3, 4, 5, 6, 7], [2, 0, 3, 1, 4, 5, 6,
 7], [2, 3, 0, 1, 4, 5, 6, 7]] .skip) (.seq (.region false [ PM 30 0, PO 31 (.call 66 [(.s 0), (I6 4)]), PO 32 (.fldAddr 5 (.v 2)), ⟨.no, 0, none, .store 1 (.s 0) (.s 1)⟩]) (.seq (.region false [ PO 33 (.load true 6 (.v 2)), ⟨.no, 0, none, .store 6 (.v 1) (.s 0)⟩]) (.ret)))))))), [.cell true 6 1]⟩
noncomputable def t_7 : List (Nat × Ctr) := [(86, c_6), (66, c_3)]
theorem lk_7_86 : look t_7 86 = some c_6 := rfl
theorem lk_7_66 : look t_7 66 = some c_3 := rfl
noncomputable def c_7 : Ctr := mkN t_7 ir58 [.io]
theorem s_7 : Sound Tryz.prog 58 c_7 := mkN_sound _ (snd_cons s_6 (snd_cons s_3 snd_nil)) (by kernel_rfl : chkFn Tryz.prog 58 ir58 ir58_v = true)
theorem M_7 : c_7.modes = [.io] := rfl
theorem Fl_7 : c_7.flat = false := rfl
attribute [go_sem] M_7 Fl_7
attribute [go_sem] lk_7_86 lk_7_66
theorem Fs_7 {s_ : L00Src} {y_ : Rule × L00Src} (h : spec_l18New s_ = some y_) : c_7.F [.mem 3 [L00Src_av s_] 0] = ⟨true, Rule_av y_.1, [.mem 3 [L00Src_av y_.2] 0]⟩ := by
 refine mkN_E ?_
 dsimp only [spec_l18New] at h
 obtain ⟨y_1, z1, h⟩ := bd_some h
 have fz1 := Fs_6 z1
 try simp only [go_sem] at fz1
 obtain ⟨y_2, z2, h⟩ := bd_some h
 have fz2 := Fs_3 z2
 try simp only [go_sem] at fz2
 obtain ⟨y_3, z3, h⟩ := bd_some h
 have fz3 := Fs_3 z3
 try simp only [go_sem] at fz3
 obtain ⟨y_4, z4, h⟩ := bd_some h
 have fz4 := Fs_3 z4
 try simp only [go_sem] at fz4
 obtain ⟨y_5, z5, h⟩ := bd_some h
 have fz5 := Fs_3 z5
 try simp only [go_sem] at fz5
 obtain ⟨y_6, z6, h⟩ := bd_some h
 have fz6 := Fs_3 z6
 try simp only [go_sem] at fz6
 obtain rfl := so_some h
 refine ⟨0, fun L hL => ?_⟩
 simp only [go_sem, ir58, fz1, fz2, fz3, fz4, fz5, fz6]


def ir65_b0 : IR := .seq (.test false [ PM 16 4, PO 17 (.bin false .gtr (.s 0) (I6 0))] (.s 0) (.skip) (.exit 0)) (.seq (.block 1 (.region false [ PM 20 2, PM 21 0, PO 22 (.call 58 [(.s 0)]), PO 23 (.mkSl 6 (.agg [.str [], .int .i64 (0), .int .i64 (0), .int .i64 (0), .int .i64 (0), .int .i64 (0)]) 1 [(0, (.s 0))]), PO 24 (.app 6 56 (.agg [.str [], .int .i64 (0), .int .i64 (0), .int .i64 (0), .int .i64 (0), .int .i64 (0)]) (.s 3) (.s 0)), VS 2 3 0])) (.region false [ PM 18 4, PO 19 (.bin false .sub (.s 0) (I6 1)), VS 4 5 0]))
def ir65_k0 : List Bool := [true, false, true, false, true, false, false]
def ir65_o0 : List Bool := [true, false, true, false, false, false, false]
def ir65_r0 : List Bool := [true, true, false, false, false, false, false]
def ir65_v : List Nat := [0, 2, 3, 4, 5, 6, 42]
def ir65 : AFn := ⟨1, 7, .seq (.region false [ VO 1 2 (.newnil 6)]) (.seq (.region false [ PO 7 (.mkSl 6 (.agg [.str [], .int .i64 (0), .int .i64 (0), .int .i64 (0), .int .i64 (0), .int .i64 (0)]) 0 []), VS 2 3 0]) (.seq (.region false [ PM 8 0, PO 9 (.call 66 [(.s 0), (I6 7)]), VS 3 4 0]) (.seq (.test false [ PM 10 0, PO 11 (.call 60 [(.s 0), (I6 24)])] (.s 0) (.region false [ PM 12 0, PO 13 (.call 66 [(.s 0), (I6 2)]), PO 14 (.bin false .add (I6 12) (.s 0)), VS 3 4 0]) (.skip)) (.seq (.seq (.region false [ PM 15 3, VS 4 5 0]) (.block 0 (.loop ir65_k0 ir65_o0 ir65_r0 ir65_b0))) (.seq (.test
 false [ PM 25 0, PO 26 (.call 60 [(.s 0), (I6 4)])] (.s 0) (.region false [ PM 27 2, PO 28 (.build [.str [], .int .i64 (0), .int .i64 (0), .int .i64 (0), .int .i64 (0), .int .i64 (0)] [(0, 1, (.c (.str [114, 101, 115, 116]))), (2, 1, (I6 20000)), (4, 1, (I6 1000000))]), PO 29 (.mkSl 6 (.agg [.str [], .int .i64 (0), .int .i64 (0), .int .i64 (0), .int .i64 (0), .int .i64 (0)]) 1 [(0, (.s 0))]), PO 30 (.app 6 56 (.agg [.str [], .int .i64 (0), .int .i64 (0), .int .i64 (0), .int .i64 (0), .int .i64 (0)]) (.s 2) (.s 0)), VS 2 3 0]) (.skip)) (.seq (.test false [ PM 31 2, PO 32 (.len false (.s 0)), PO
 33 (.bin false .eql (.s 0) (I6 0))] (.s 0) (.seq (.region false [ PM 34 2, VS 1 2 0]) (.ret)) (.skip)) (.seq (.region false [ PM 35 2, PM 36 0, PM 37 2, PO 38 (.len false (.s 0)), PO 39 (.call 66 [(.s 2), (.s 0)]), PO 40 (.ixAddr 6 (.s 4) (.s 0)), VS 5 6 0]) (.seq (.seq (.region false [ PM 41 0, VO 6 42 (.call 66 [(.s 0), (I6 30)])]) (.block 2 (.test false [ PO 44 (.bin false .eql (.v 6) (I6 0)), PO 43 (.mov (.s 0))] (.s 0) (.region false [ PM 45 5, PM 46 0, PO 47 (.mkSl 1 (.str []) 3 [(0, (.c (.str []))), (1, (.c (.str [77, 105, 114, 97]))), (2, (.c (.str [109])))]), PO 48 (.call 86 [(.s 1),
 (.s 0)]), PO 49 (.nilck (.s 3)), PO 50 (.fldAddr 0 (.s 0)), ⟨.no, 0, none, .store 1 (.s 0) (.s 2)⟩]) (.test false [ PO 52 (.bin false .eql (.v 6) (I6 1)), PO 51 (.mov (.s 0))] (.s 0) (.anyo 15 [ SO 0 53 (.mov (.v 5)), SO 1 54 (.mov (.v 0)), SO 2 55 (.mov (.v 5)), SO 3 56 (.nilck (.s 2)), SO 4 57 (.fldAddr 2 (.s 3)), SO 5 58 (.load false 1 (.s 4)), SO 6 59 (.mov (.v 5)), SO 7 60 (.nilck (.s 6)), SO 8 61 (.fldAddr 2 (.s 7)), SO 9 62 (.load false 1 (.s 8)), SO 10 63 (.bin false .add (.s 9) (I6 1)), SO 11 64 (.pur (.mkSl 1 (.int .i64 (0)) 4 [(0, (.c (.int .i64 (-1)))), (1, (I6 0)), (2, (.s 5)),
 (3, (.s 10))])), SO 12 65 (.call 72 [(.s 1), (.s 11)]), SO 13 66 (.nilck (.s 0)), SO 14 67 (.fldAddr 1 (.s 13)), ⟨.no, 0, none, .store 1 (.s 14) (.s 12)⟩] [[1, 2, 3, 4, 5, 6, 7, 8, 9, 10, 11, 0, 12, 13, 14, 15], [1, 2, 3, 4, 5, 6, 7, 8, 9, 10, 11, 12, 0, 13, 14, 15]] .skip) (.test false [ PO 69 (.bin false .eql (.v 6) (I6 2)), PO 68 (.mov (.s 0))] (.s 0) (.region false [ PM 70 5, PM 71 0, PO 72 (.mkSl 1 (.int .i64 (0)) 3 [(0, (I6 20000)), (1, (I6 20001)), (2, (.c (.int .i64 (-9223372036854775808))))]), PO 73 (.call 72 [(.s 1), (.s 0)]), PO 74 (.nilck (.s 3)), PO 75 (.fldAddr 2 (.s 0)), ⟨.no,
 0, none, .store 1 (.s 0) (.s 2)⟩]) (.test false [ PO 77 (.bin false .eql (.v 6) (I6 3)), PO 76 (.mov (.s 0))] (.s 0) (.region false [ PM 78 5, PM 79 0, PO 80 (.mkSl 1 (.int .i64 (0)) 3 [(0, (I6 1000000)), (1, (I6 1000001)), (2, (I6 9223372036854775807))]), PO 81 (.call 72 [(.s 1), (.s 0)]), PO 82 (.nilck (.s 3)), PO 83 (.fldAddr 4 (.s 0)), ⟨.no, 0, none, .store 1 (.s 0) (.s 2)⟩]) (.test false [ PO 85 (.bin false .eql (.v 6) (I6 4)), PO 84 (.mov (.s 0))] (.s 0) (.region false [ PM 86 5, PM 87 0, PO 88 (.mkSl 1 (.int .i64 (0)) 4 [(0, (.c (.int .i64 (-1)))), (1, (I6 0)), (2, (I6 3)), (3, (I6
 4))]), PO 89 (.call 72 [(.s 1), (.s 0)]), PO 90 (.nilck (.s 3)), PO 91 (.fldAddr 5 (.s 0)), ⟨.no, 0, none, .store 1 (.s 0) (.s 2)⟩]) (.skip)))))))) (.seq (.region false [ PM 92 2, VS 1 2 0]) (.ret)))))))))), [.t 1]⟩
noncomputable def t_8 : List (Nat × Ctr) := [(66, c_3), (60, c_5), (58, c_7), (86, c_6), (72, c_4)]
theorem lk_8_66 : look t_8 66 = some c_3 := rfl
theorem lk_8_60 : look t_8 60 = some c_5 := rfl
theorem lk_8_58 : look t_8 58 = some c_7 := rfl
theorem lk_8_86 : look t_8 86 = some c_6 := rfl
theorem lk_8_72 : look t_8 72 = some c_4 := rfl
noncomputable def c_8 : Ctr := mkN t_8 ir65 [.io]
theorem s_8 : Sound Tryz.prog 65 c_8 := mkN_sound _ (snd_cons s_3 (snd_cons s_5 (snd_cons s_7 (snd_cons s_6 (snd_cons s_4 snd_nil))))) (by kernel_rfl : chkFn Tryz.prog 65 ir65 ir65_v = true)
theorem M_8 : c_8.modes = [.io] := rfl
theorem Fl_8 : c_8.flat = false := rfl
attribute [go_sem] M_8 Fl_8
attribute [go_sem] lk_8_66 lk_8_60 lk_8_58 lk_8_86 lk_8_72
def E_8_l1  : (L00Src × (List Rule) × Int) → St
 | (s_, list, k) => ⟨[.ref 31 0 0, .any, .own 3200032, .any, .int .i64 k, .any, .any], [], [(31, ⟨3, [L00Src_av s_]⟩), (3200032, ⟨6, List.map Rule_av list⟩)], true⟩
def R_8_l1  (y : L00Src × (List Rule)) : Res := (.exit 0, ⟨[.ref 31 0 0, .any, .own 3200032, .any, .any, .any, .any], [], [(31, ⟨3, [L00Src_av y.1]⟩), (3200032, ⟨6, List.map Rule_av y.2⟩)], true⟩)
theorem spec_l18Bent_l1_ex  {sgm_ : L00Src × (List Rule) × Int} {rho_ : L00Src × (List Rule)} (h : whileE (spec_l18Bent_l1) sgm_ = some rho_) : ∃ L0, ∀ L, L0 ≤ L → iter (exec (look t_8) L ir65_b0) ir65_k0 ir65_o0 ir65_r0 L (E_8_l1 sgm_) = R_8_l1 rho_ := by
 refine loop_ex (E := E_8_l1) (R := R_8_l1) (fun y => by first | (intro c; cases c) | (rcases y with y | y <;> (intro c; cases c)) | (rcases y with y | y | y <;> (intro c; cases c))) ?_ h
 clear h
 rintro ⟨s_, list, k⟩ o_ h
 dsimp only [spec_l18Bent_l1] at h
 rcases it_some h with ⟨z5, h⟩ | ⟨z5, h⟩
 ·try simp only [go_sem, n1, n2, n3, n4] at z5
  all_goals
  obtain ⟨y_6, z6, h⟩ := bd_some h
  have fz6 := Fs_7 z6
  try simp only [go_sem, z5] at fz6
  obtain ⟨z7, h⟩ := ck_some h
  try simp only [go_sem, n1, n2, n3, n4, z5] at z7
  all_goals
  obtain rfl := so_some h
  refine ⟨0, fun L hL => ?_⟩
  simp only [go_sem, ir65, E_8_l1, R_8_l1, ir65_b0, ir65_k0, ir65_o0, ir65_r0, z5, fz6, z7]
 ·try simp only [go_sem, n1, n2, n3, n4] at z5
  all_goals
  obtain rfl := so_some h
  refine ⟨0, fun L hL => ?_⟩
  simp only [go_sem, ir65, E_8_l1, R_8_l1, ir65_b0, ir65_k0, ir65_o0, ir65_r0, z5]

def E_8_l2  : (L00Src × (List Rule) × Int) → St
 | (s_, list, k) => ⟨[.ref 31 0 0, .any, .own 3200032, .any, .int .i64 k, .any, .any], [], [(31, ⟨3, [L00Src_av s_]⟩), (3200032, ⟨6, List.map Rule_av list⟩)], true⟩
def R_8_l2  (y : L00Src × (List Rule)) : Res := (.exit 0, ⟨[.ref 31 0 0, .any, .own 3200032, .any, .any, .any, .any], [], [(31, ⟨3, [L00Src_av y.1]⟩), (3200032, ⟨6, List.map Rule_av y.2⟩)], true⟩)
theorem spec_l18Bent_l2_ex  {sgm_ : L00Src × (List Rule) × Int} {rho_ : L00Src × (List Rule)} (h : whileE (spec_l18Bent_l2) sgm_ = some rho_) : ∃ L0, ∀ L, L0 ≤ L → iter (exec (look t_8) L ir65_b0) ir65_k0 ir65_o0 ir65_r0 L (E_8_l2 sgm_) = R_8_l2 rho_ := by
 refine loop_ex (E := E_8_l2) (R := R_8_l2) (fun y => by first | (intro c; cases c) | (rcases y with y | y <;> (intro c; cases c)) | (rcases y with y | y | y <;> (intro c; cases c))) ?_ h
 clear h
 rintro ⟨s_, list, k⟩ o_ h
 dsimp only [spec_l18Bent_l2] at h
 rcases it_some h with ⟨z40, h⟩ | ⟨z40, h⟩
 ·try simp only [go_sem, n1, n2, n3, n4] at z40
  all_goals
  obtain ⟨y_41, z41, h⟩ := bd_some h
  have fz41 := Fs_7 z41
  try simp only [go_sem, z40] at fz41
  obtain ⟨z42, h⟩ := ck_some h
  try simp only [go_sem, n1, n2, n3, n4, z40] at z42
  all_goals
  obtain rfl := so_some h
  refine ⟨0, fun L hL => ?_⟩
  simp only [go_sem, ir65, E_8_l2, R_8_l2, ir65_b0, ir65_k0, ir65_o0, ir65_r0, E_8_l1, R_8_l1, ir65_k0, ir65_o0, ir65_r0, z40, fz41, z42]
 ·try simp only [go_sem, n1, n2, n3, n4] at z40
  all_goals
  obtain rfl := so_some h
  refine ⟨0, fun L hL => ?_⟩
  simp only [go_sem, ir65, E_8_l2, R_8_l2, ir65_b0, ir65_k0, ir65_o0, ir65_r0, E_8_l1, R_8_l1, ir65_k0, ir65_o0, ir65_r0, z40]

set_option maxHeartbeats 8000000 in
theorem Fs_8 {s_ : L00Src} {y_ : (List Rule) × L00Src} (h : spec_l18Bent s_ = some y_) : c_8.F [.mem 3 [L00Src_av s_] 0] = ⟨true, .fresh 6 (List.map Rule_av y_.1), [.mem 3 [L00Src_av y_.2] 0]⟩ := by
 refine mkN_E ?_
 dsimp only [spec_l18Bent] at h
 obtain ⟨y_1, z1, h⟩ := bd_some h
 have fz1 := Fs_3 z1
 try simp only [go_sem] at fz1
 obtain ⟨y_2, z2, h⟩ := bd_some h
 have fz2 := Fs_5 z2
 try simp only [go_sem] at fz2
 rcases it_some h with ⟨z3, h⟩ | ⟨z3, h⟩
 ·try simp only [go_sem, n1, n2, n3, n4] at z3
  all_goals
  obtain ⟨y_4, z4, h⟩ := bd_some h
  have fz4 := Fs_3 z4
  try simp only [go_sem, z3] at fz4
  obtain ⟨y_8, z8, h⟩ := bd_some h
  obtain ⟨Lz8, ez8⟩ := spec_l18Bent_l1_ex z8
  obtain ⟨y_9, z9, h⟩ := bd_some h
  have fz9 := Fs_5 z9
  try simp only [go_sem, z3] at fz9
  rcases it_some h with ⟨z10, h⟩ | ⟨z10, h⟩
  ·try simp only [go_sem, n1, n2, n3, n4, z3] at z10
   all_goals
   obtain ⟨z11, h⟩ := ck_some h
   try simp only [go_sem, n1, n2, n3, n4, z3, z10] at z11
   all_goals
   rcases it_some h with ⟨z12, h⟩ | ⟨z12, h⟩
   ·try simp only [go_sem, n1, n2, n3, n4, z3, z10, z11] at z12
    all_goals
    obtain rfl := so_some h
    refine ⟨Lz8, fun L hL => ?_⟩
    have ez8 := ez8 L (by omega)
    try simp only [go_sem, E_8_l1, R_8_l1, ir65_k0, ir65_o0, ir65_r0, E_8_l2, R_8_l2, ir65_k0, ir65_o0, ir65_r0, z3, z10, z11, z12] at ez8
    simp only [go_sem, ir65, E_8_l1, R_8_l1, ir65_k0, ir65_o0, ir65_r0, E_8_l2, R_8_l2, ir65_k0, ir65_o0, ir65_r0, fz1, fz2, z3, fz4, fz9, z10, z11, z12, ez8]
   ·try simp only [go_sem, n1, n2, n3, n4, z3, z10, z11] at z12
    all_goals
    obtain ⟨y_13, z13, h⟩ := bd_some h
    have fz13 := Fs_3 z13
    try simp only [go_sem, z3, z10, z11, z12] at fz13
    obtain ⟨z14, h⟩ := ck_some h
    have lz14 := ix_lt z14
    have xz14 := getD_mapD Rule_av (y_8.2 ++ ([(Rule.mk ([114, 101, 115, 116] : List UInt8) 0 20000 0 1000000 0)] : List Rule)) lz14
    try simp only [go_sem] at lz14
    try simp only [go_sem] at xz14
    try simp only [go_sem, n1, n2, n3, n4, z3, z10, z11, z12] at z14
    all_goals
    obtain ⟨y_15, z15, h⟩ := bd_some h
    have fz15 := Fs_3 z15
    try simp only [go_sem, z3, z10, z11, z12, z14] at fz15
    rcases it_some h with ⟨z16, h⟩ | ⟨z16, h⟩
    ·try simp only [go_sem, n1, n2, n3, n4, z3, z10, z11, z12, z14] at z16
     all_goals
     obtain ⟨y_17, z17, h⟩ := bd_some h
     have fz17 := Fs_6 z17
     try simp only [go_sem, z3, z10, z11, z12, z14, z16] at fz17
     obtain rfl := so_some h
     refine ⟨Lz8, fun L hL => ?_⟩
     have ez8 := ez8 L (by omega)
     try simp only [go_sem, E_8_l1, R_8_l1, ir65_k0, ir65_o0, ir65_r0, E_8_l2, R_8_l2, ir65_k0, ir65_o0, ir65_r0, z3, z10, z11, z12, z14, z16] at ez8
     simp only [go_sem, ir65, E_8_l1, R_8_l1, ir65_k0, ir65_o0, ir65_r0, E_8_l2, R_8_l2, ir65_k0, ir65_o0, ir65_r0, fz1, fz2, z3, fz4, fz9, z10, z11, z12, fz13, z14, lz14, xz14, fz15, z16, fz17, ez8]
    ·try simp only [go_sem, n1, n2, n3, n4, z3, z10, z11, z12, z14] at z16
     all_goals
     rcases it_some h with ⟨z18, h⟩ | ⟨z18, h⟩
     ·try simp only [go_sem, n1, n2, n3, n4, z3, z10, z11, z12, z14, z16] at z18
      all_goals
      obtain ⟨y_19, z19, h⟩ := bd_some h
      have fz19 := Fs_4 z19
      try simp only [go_sem, z3, z10, z11, z12, z14, z16, z18] at fz19
      obtain rfl := so_some h
      refine ⟨Lz8, fun L hL => ?_⟩
      have ez8 := ez8 L (by omega)
      try simp only [go_sem, E_8_l1, R_8_l1, ir65_k0, ir65_o0, ir65_r0, E_8_l2, R_8_l2, ir65_k0, ir65_o0, ir65_r0, z3, z10, z11, z12, z14, z16, z18] at ez8
      simp only [go_sem, ir65, E_8_l1, R_8_l1, ir65_k0, ir65_o0, ir65_r0, E_8_l2, R_8_l2, ir65_k0, ir65_o0, ir65_r0, fz1, fz2, z3, fz4, fz9, z10, z11, z12, fz13, z14, lz14, xz14, fz15, z16, z18, fz19, ez8]
     ·try simp only [go_sem, n1, n2, n3, n4, z3, z10, z11, z12, z14, z16] at z18
      all_goals
      rcases it_some h with ⟨z20, h⟩ | ⟨z20, h⟩
      ·try simp only [go_sem, n1, n2, n3, n4, z3, z10, z11, z12, z14, z16, z18] at z20
       all_goals
       obtain ⟨y_21, z21, h⟩ := bd_some h
       have fz21 := Fs_4 z21
       try simp only [go_sem, z3, z10, z11, z12, z14, z16, z18, z20] at fz21
       obtain rfl := so_some h
       refine ⟨Lz8, fun L hL => ?_⟩
       have ez8 := ez8 L (by omega)
       try simp only [go_sem, E_8_l1, R_8_l1, ir65_k0, ir65_o0, ir65_r0, E_8_l2, R_8_l2, ir65_k0, ir65_o0, ir65_r0, z3, z10, z11, z12, z14, z16, z18, z20] at ez8
       simp only [go_sem, ir65, E_8_l1, R_8_l1, ir65_k0, ir65_o0, ir65_r0, E_8_l2, R_8_l2, ir65_k0, ir65_o0, ir65_r0, fz1, fz2, z3, fz4, fz9, z10, z11, z12, fz13, z14, lz14, xz14, fz15, z16, z18, z20, fz21, ez8]
      ·try simp only [go_sem, n1, n2, n3, n4, z3, z10, z11, z12, z14, z16, z18] at z20
       all_goals
       rcases it_some h with ⟨z22, h⟩ | ⟨z22, h⟩
       ·try simp only [go_sem, n1, n2, n3, n4, z3, z10, z11, z12, z14, z16, z18, z20] at z22
        all_goals
        obtain ⟨y_23, z23, h⟩ := bd_some h
        have fz23 := Fs_4 z23
        try simp only [go_sem, z3, z10, z11, z12, z14, z16, z18, z20, z22] at fz23
        obtain rfl := so_some h
        refine ⟨Lz8, fun L hL => ?_⟩
        have ez8 := ez8 L (by omega)
        try simp only [go_sem, E_8_l1, R_8_l1, ir65_k0, ir65_o0, ir65_r0, E_8_l2, R_8_l2, ir65_k0, ir65_o0, ir65_r0, z3, z10, z11, z12, z14, z16, z18, z20, z22] at ez8
        simp only [go_sem, ir65, E_8_l1, R_8_l1, ir65_k0, ir65_o0, ir65_r0, E_8_l2, R_8_l2, ir65_k0, ir65_o0, ir65_r0, fz1, fz2, z3, fz4, fz9, z10, z11, z12, fz13, z14, lz14, xz14, fz15, z16, z18, z20, z22, fz23, ez8]
       ·try simp only [go_sem, n1, n2, n3, n4, z3, z10, z11, z12, z14, z16, z18, z20] at z22
        all_goals
        rcases it_some h with ⟨z24, h⟩ | ⟨z24, h⟩
        ·try simp only [go_sem, n1, n2, n3, n4, z3, z10, z11, z12, z14, z16, z18, z20, z22] at z24
         all_goals
         obtain ⟨y_25, z25, h⟩ := bd_some h
         have fz25 := Fs_4 z25
         try simp only [go_sem, z3, z10, z11, z12, z14, z16, z18, z20, z22, z24] at fz25
         obtain rfl := so_some h
         refine ⟨Lz8, fun L hL => ?_⟩
         have ez8 := ez8 L (by omega)
         try simp only [go_sem, E_8_l1, R_8_l1, ir65_k0, ir65_o0, ir65_r0, E_8_l2, R_8_l2, ir65_k0, ir65_o0, ir65_r0, z3, z10, z11, z12, z14, z16, z18, z20, z22, z24] at ez8
         simp only [go_sem, ir65, E_8_l1, R_8_l1, ir65_k0, ir65_o0, ir65_r0, E_8_l2, R_8_l2, ir65_k0, ir65_o0, ir65_r0, fz1, fz2, z3, fz4, fz9, z10, z11, z12, fz13, z14, lz14, xz14, fz15, z16, z18, z20, z22, z24, fz25, ez8]
        ·try simp only [go_sem, n1, n2, n3, n4, z3, z10, z11, z12, z14, z16, z18, z20, z22] at z24
         all_goals
         obtain rfl := so_some h
         refine ⟨Lz8, fun L hL => ?_⟩
         have ez8 := ez8 L (by omega)
         try simp only [go_sem, E_8_l1, R_8_l1, ir65_k0, ir65_o0, ir65_r0, E_8_l2, R_8_l2, ir65_k0, ir65_o0, ir65_r0, z3, z10, z11, z12, z14, z16, z18, z20, z22, z24] at ez8
         simp only [go_sem, ir65, E_8_l1, R_8_l1, ir65_k0, ir65_o0, ir65_r0, E_8_l2, R_8_l2, ir65_k0, ir65_o0, ir65_r0, fz1, fz2, z3, fz4, fz9, z10, z11, z12, fz13, z14, lz14, xz14, fz15, z16, z18, z20, z22, z24, ez8]
  ·try simp only [go_sem, n1, n2, n3, n4, z3] at z10
   all_goals
   rcases it_some h with ⟨z26, h⟩ | ⟨z26, h⟩
   ·try simp only [go_sem, n1, n2, n3, n4, z3, z10] at z26
    all_goals
    obtain rfl := so_some h
    refine ⟨Lz8, fun L hL => ?_⟩
    have ez8 := ez8 L (by omega)
    try simp only [go_sem, E_8_l1, R_8_l1, ir65_k0, ir65_o0, ir65_r0, E_8_l2, R_8_l2, ir65_k0, ir65_o0, ir65_r0, z3, z10, z26] at ez8
    simp only [go_sem, ir65, E_8_l1, R_8_l1, ir65_k0, ir65_o0, ir65_r0, E_8_l2, R_8_l2, ir65_k0, ir65_o0, ir65_r0, fz1, fz2, z3, fz4, fz9, z10, z26, ez8]
   ·try simp only [go_sem, n1, n2, n3, n4, z3, z10] at z26
    all_goals
    obtain ⟨y_27, z27, h⟩ := bd_some h
    have fz27 := Fs_3 z27
    try simp only [go_sem, z3, z10, z26] at fz27
    obtain ⟨z28, h⟩ := ck_some h
    have lz28 := ix_lt z28
    have xz28 := getD_mapD Rule_av y_8.2 lz28
    try simp only [go_sem] at lz28
    try simp only [go_sem] at xz28
    try simp only [go_sem, n1, n2, n3, n4, z3, z10, z26] at z28
    all_goals
    obtain ⟨y_29, z29, h⟩ := bd_some h
    have fz29 := Fs_3 z29
    try simp only [go_sem, z3, z10, z26, z28] at fz29
    rcases it_some h with ⟨z30, h⟩ | ⟨z30, h⟩
    ·try simp only [go_sem, n1, n2, n3, n4, z3, z10, z26, z28] at z30
     all_goals
     obtain ⟨y_31, z31, h⟩ := bd_some h
     have fz31 := Fs_6 z31
     try simp only [go_sem, z3, z10, z26, z28, z30] at fz31
     obtain rfl := so_some h
     refine ⟨Lz8, fun L hL => ?_⟩
     have ez8 := ez8 L (by omega)
     try simp only [go_sem, E_8_l1, R_8_l1, ir65_k0, ir65_o0, ir65_r0, E_8_l2, R_8_l2, ir65_k0, ir65_o0, ir65_r0, z3, z10, z26, z28, z30] at ez8
     simp only [go_sem, ir65, E_8_l1, R_8_l1, ir65_k0, ir65_o0, ir65_r0, E_8_l2, R_8_l2, ir65_k0, ir65_o0, ir65_r0, fz1, fz2, z3, fz4, fz9, z10, z26, fz27, z28, lz28, xz28, fz29, z30, fz31, ez8]
    ·try simp only [go_sem, n1, n2, n3, n4, z3, z10, z26, z28] at z30
     all_goals
     rcases it_some h with ⟨z32, h⟩ | ⟨z32, h⟩
     ·try simp only [go_sem, n1, n2, n3, n4, z3, z10, z26, z28, z30] at z32
      all_goals
      obtain ⟨y_33, z33, h⟩ := bd_some h
      have fz33 := Fs_4 z33
      try simp only [go_sem, z3, z10, z26, z28, z30, z32] at fz33
      obtain rfl := so_some h
      refine ⟨Lz8, fun L hL => ?_⟩
      have ez8 := ez8 L (by omega)
      try simp only [go_sem, E_8_l1, R_8_l1, ir65_k0, ir65_o0, ir65_r0, E_8_l2, R_8_l2, ir65_k0, ir65_o0, ir65_r0, z3, z10, z26, z28, z30, z32] at ez8
      simp only [go_sem, ir65, E_8_l1, R_8_l1, ir65_k0, ir65_o0, ir65_r0, E_8_l2, R_8_l2, ir65_k0, ir65_o0, ir65_r0, fz1, fz2, z3, fz4, fz9, z10, z26, fz27, z28, lz28, xz28, fz29, z30, z32, fz33, ez8]
     ·try simp only [go_sem, n1, n2, n3, n4, z3, z10, z26, z28, z30] at z32
      all_goals
      rcases it_some h with ⟨z34, h⟩ | ⟨z34, h⟩
      ·try simp only [go_sem, n1, n2, n3, n4, z3, z10, z26, z28, z30, z32] at z34
       all_goals
       obtain ⟨y_35, z35, h⟩ := bd_some h
       have fz35 := Fs_4 z35
       try simp only [go_sem, z3, z10, z26, z28, z30, z32, z34] at fz35
       obtain rfl := so_some h
       refine ⟨Lz8, fun L hL => ?_⟩
       have ez8 := ez8 L (by omega)
       try simp only [go_sem, E_8_l1, R_8_l1, ir65_k0, ir65_o0, ir65_r0, E_8_l2, R_8_l2, ir65_k0, ir65_o0, ir65_r0, z3, z10, z26, z28, z30, z32, z34] at ez8
       simp only [go_sem, ir65, E_8_l1, R_8_l1, ir65_k0, ir65_o0, ir65_r0, E_8_l2, R_8_l2, ir65_k0, ir65_o0, ir65_r0, fz1, fz2, z3, fz4, fz9, z10, z26, fz27, z28, lz28, xz28, fz29, z30, z32, z34, fz35, ez8]
      ·try simp only [go_sem, n1, n2, n3, n4, z3, z10, z26, z28, z30, z32] at z34
       all_goals
       rcases it_some h with ⟨z36, h⟩ | ⟨z36, h⟩
       ·try simp only [go_sem, n1, n2, n3, n4, z3, z10, z26, z28, z30, z32, z34] at z36
        all_goals
        obtain ⟨y_37, z37, h⟩ := bd_some h
        have fz37 := Fs_4 z37
        try simp only [go_sem, z3, z10, z26, z28, z30, z32, z34, z36] at fz37
        obtain rfl := so_some h
        refine ⟨Lz8, fun L hL => ?_⟩
        have ez8 := ez8 L (by omega)
        try simp only [go_sem, E_8_l1, R_8_l1, ir65_k0, ir65_o0, ir65_r0, E_8_l2, R_8_l2, ir65_k0, ir65_o0, ir65_r0, z3, z10, z26, z28, z30, z32, z34, z36] at ez8
        simp only [go_sem, ir65, E_8_l1, R_8_l1, ir65_k0, ir65_o0, ir65_r0, E_8_l2, R_8_l2, ir65_k0, ir65_o0, ir65_r0, fz1, fz2, z3, fz4, fz9, z10, z26, fz27, z28, lz28, xz28, fz29, z30, z32, z34, z36, fz37, ez8]
       ·try simp only [go_sem, n1, n2, n3, n4, z3, z10, z26, z28, z30, z32, z34] at z36
        all_goals
        rcases it_some h with ⟨z38, h⟩ | ⟨z38, h⟩
        ·try simp only [go_sem, n1, n2, n3, n4, z3, z10, z26, z28, z30, z32, z34, z36] at z38
         all_goals
         obtain ⟨y_39, z39, h⟩ := bd_some h
         have fz39 := Fs_4 z39
         try simp only [go_sem, z3, z10, z26, z28, z30, z32, z34, z36, z38] at fz39
         obtain rfl := so_some h
         refine ⟨Lz8, fun L hL => ?_⟩
         have ez8 := ez8 L (by omega)
         try simp only [go_sem, E_8_l1, R_8_l1, ir65_k0, ir65_o0, ir65_r0, E_8_l2, R_8_l2, ir65_k0, ir65_o0, ir65_r0, z3, z10, z26, z28, z30, z32, z34, z36, z38] at ez8
         simp only [go_sem, ir65, E_8_l1, R_8_l1, ir65_k0, ir65_o0, ir65_r0, E_8_l2, R_8_l2, ir65_k0, ir65_o0, ir65_r0, fz1, fz2, z3, fz4, fz9, z10, z26, fz27, z28, lz28, xz28, fz29, z30, z32, z34, z36, z38, fz39, ez8]
        ·try simp only [go_sem, n1, n2, n3, n4, z3, z10, z26, z28, z30, z32, z34, z36] at z38
         all_goals
         obtain rfl := so_some h
         refine ⟨Lz8, fun L hL => ?_⟩
         have ez8 := ez8 L (by omega)
         try simp only [go_sem, E_8_l1, R_8_l1, ir65_k0, ir65_o0, ir65_r0, E_8_l2, R_8_l2, ir65_k0, ir65_o0, ir65_r0, z3, z10, z26, z28, z30, z32, z34, z36, z38] at ez8
         simp only [go_sem, ir65, E_8_l1, R_8_l1, ir65_k0, ir65_o0, ir65_r0, E_8_l2, R_8_l2, ir65_k0, ir65_o0, ir65_r0, fz1, fz2, z3, fz4, fz9, z10, z26, fz27, z28, lz28, xz28, fz29, z30, z32, z34, z36, z38, ez8]
 ·try simp only [go_sem, n1, n2, n3, n4] at z3
  all_goals
  obtain ⟨y_43, z43, h⟩ := bd_some h
  obtain ⟨Lz43, ez43⟩ := spec_l18Bent_l2_ex z43
  obtain ⟨y_44, z44, h⟩ := bd_some h
  have fz44 := Fs_5 z44
  try simp only [go_sem, z3] at fz44
  rcases it_some h with ⟨z45, h⟩ | ⟨z45, h⟩
  ·try simp only [go_sem, n1, n2, n3, n4, z3] at z45
   all_goals
   obtain ⟨z46, h⟩ := ck_some h
   try simp only [go_sem, n1, n2, n3, n4, z3, z45] at z46
   all_goals
   rcases it_some h with ⟨z47, h⟩ | ⟨z47, h⟩
   ·try simp only [go_sem, n1, n2, n3, n4, z3, z45, z46] at z47
    all_goals
    obtain rfl := so_some h
    refine ⟨Lz43, fun L hL => ?_⟩
    have ez43 := ez43 L (by omega)
    try simp only [go_sem, E_8_l1, R_8_l1, ir65_k0, ir65_o0, ir65_r0, E_8_l2, R_8_l2, ir65_k0, ir65_o0, ir65_r0, z3, z45, z46, z47] at ez43
    simp only [go_sem, ir65, E_8_l1, R_8_l1, ir65_k0, ir65_o0, ir65_r0, E_8_l2, R_8_l2, ir65_k0, ir65_o0, ir65_r0, fz1, fz2, z3, fz44, z45, z46, z47, ez43]
   ·try simp only [go_sem, n1, n2, n3, n4, z3, z45, z46] at z47
    all_goals
    obtain ⟨y_48, z48, h⟩ := bd_some h
    have fz48 := Fs_3 z48
    try simp only [go_sem, z3, z45, z46, z47] at fz48
    obtain ⟨z49, h⟩ := ck_some h
    have lz49 := ix_lt z49
    have xz49 := getD_mapD Rule_av (y_43.2 ++ ([(Rule.mk ([114, 101, 115, 116] : List UInt8) 0 20000 0 1000000 0)] : List Rule)) lz49
    try simp only [go_sem] at lz49
    try simp only [go_sem] at xz49
    try simp only [go_sem, n1, n2, n3, n4, z3, z45, z46, z47] at z49
    all_goals
    obtain ⟨y_50, z50, h⟩ := bd_some h
    have fz50 := Fs_3 z50
    try simp only [go_sem, z3, z45, z46, z47, z49] at fz50
    rcases it_some h with ⟨z51, h⟩ | ⟨z51, h⟩
    ·try simp only [go_sem, n1, n2, n3, n4, z3, z45, z46, z47, z49] at z51
     all_goals
     obtain ⟨y_52, z52, h⟩ := bd_some h
     have fz52 := Fs_6 z52
     try simp only [go_sem, z3, z45, z46, z47, z49, z51] at fz52
     obtain rfl := so_some h
     refine ⟨Lz43, fun L hL => ?_⟩
     have ez43 := ez43 L (by omega)
     try simp only [go_sem, E_8_l1, R_8_l1, ir65_k0, ir65_o0, ir65_r0, E_8_l2, R_8_l2, ir65_k0, ir65_o0, ir65_r0, z3, z45, z46, z47, z49, z51] at ez43
     simp only [go_sem, ir65, E_8_l1, R_8_l1, ir65_k0, ir65_o0, ir65_r0, E_8_l2, R_8_l2, ir65_k0, ir65_o0, ir65_r0, fz1, fz2, z3, fz44, z45, z46, z47, fz48, z49, lz49, xz49, fz50, z51, fz52, ez43]
    ·try simp only [go_sem, n1, n2, n3, n4, z3, z45, z46, z47, z49] at z51
     all_goals
     rcases it_some h with ⟨z53, h⟩ | ⟨z53, h⟩
     ·try simp only [go_sem, n1, n2, n3, n4, z3, z45, z46, z47, z49, z51] at z53
      all_goals
      obtain ⟨y_54, z54, h⟩ := bd_some h
      have fz54 := Fs_4 z54
      try simp only [go_sem, z3, z45, z46, z47, z49, z51, z53] at fz54
      obtain rfl := so_some h
      refine ⟨Lz43, fun L hL => ?_⟩
      have ez43 := ez43 L (by omega)
      try simp only [go_sem, E_8_l1, R_8_l1, ir65_k0, ir65_o0, ir65_r0, E_8_l2, R_8_l2, ir65_k0, ir65_o0, ir65_r0, z3, z45, z46, z47, z49, z51, z53] at ez43
      simp only [go_sem, ir65, E_8_l1, R_8_l1, ir65_k0, ir65_o0, ir65_r0, E_8_l2, R_8_l2, ir65_k0, ir65_o0, ir65_r0, fz1, fz2, z3, fz44, z45, z46, z47, fz48, z49, lz49, xz49, fz50, z51, z53, fz54, ez43]
     ·try simp only [go_sem, n1, n2, n3, n4, z3, z45, z46, z47, z49, z51] at z53
      all_goals
      rcases it_some h with ⟨z55, h⟩ | ⟨z55, h⟩
      ·try simp only [go_sem, n1, n2, n3, n4, z3, z45, z46, z47, z49, z51, z53] at z55
       all_goals
       obtain ⟨y_56, z56, h⟩ := bd_some h
       have fz56 := Fs_4 z56
       try simp only [go_sem, z3, z45, z46, z47, z49, z51, z53, z55] at fz56
       obtain rfl := so_some h
       refine ⟨Lz43, fun L hL => ?_⟩
       have ez43 := ez43 L (by omega)
       try simp only [go_sem, E_8_l1, R_8_l1, ir65_k0, ir65_o0, ir65_r0, E_8_l2, R_8_l2, ir65_k0, ir65_o0, ir65_r0, z3, z45, z46, z47, z49, z51, z53, z55] at ez43
       simp only [go_sem, ir65, E_8_l1, R_8_l1, ir65_k0, ir65_o0, ir65_r0, E_8_l2, R_8_l2, ir65_k0, ir65_o0, ir65_r0, fz1, fz2, z3, fz44, z45, z46, z47, fz48, z49, lz49, xz49, fz50, z51, z53, z55, fz56, ez43]
      ·try simp only [go_sem, n1, n2, n3, n4, z3, z45, z46, z47, z49, z51, z53] at z55
       all_goals
       rcases it_some h with ⟨z57, h⟩ | ⟨z57, h⟩
       ·try simp only [go_sem, n1, n2, n3, n4, z3, z45, z46, z47, z49, z51, z53, z55] at z57
        all_goals
        obtain ⟨y_58, z58, h⟩ := bd_some h
        have fz58 := Fs_4 z58
        try simp only [go_sem, z3, z45, z46, z47, z49, z51, z53, z55, z57] at fz58
        obtain rfl := so_some h
        refine ⟨Lz43, fun L hL => ?_⟩
        have ez43 := ez43 L (by omega)
        try simp only [go_sem, E_8_l1, R_8_l1, ir65_k0, ir65_o0, ir65_r0, E_8_l2, R_8_l2, ir65_k0, ir65_o0, ir65_r0, z3, z45, z46, z47, z49, z51, z53, z55, z57] at ez43
        simp only [go_sem, ir65, E_8_l1, R_8_l1, ir65_k0, ir65_o0, ir65_r0, E_8_l2, R_8_l2, ir65_k0, ir65_o0, ir65_r0, fz1, fz2, z3, fz44, z45, z46, z47, fz48, z49, lz49, xz49, fz50, z51, z53, z55, z57, fz58, ez43]
       ·try simp only [go_sem, n1, n2, n3, n4, z3, z45, z46, z47, z49, z51, z53, z55] at z57
        all_goals
        rcases it_some h with ⟨z59, h⟩ | ⟨z59, h⟩
        ·try simp only [go_sem, n1, n2, n3, n4, z3, z45, z46, z47, z49, z51, z53, z55, z57] at z59
         all_goals
         obtain ⟨y_60, z60, h⟩ := bd_some h
         have fz60 := Fs_4 z60
         try simp only [go_sem, z3, z45, z46, z47, z49, z51, z53, z55, z57, z59] at fz60
         obtain rfl := so_some h
         refine ⟨Lz43, fun L hL => ?_⟩
         have ez43 := ez43 L (by omega)
         try simp only [go_sem, E_8_l1, R_8_l1, ir65_k0, ir65_o0, ir65_r0, E_8_l2, R_8_l2, ir65_k0, ir65_o0, ir65_r0, z3, z45, z46, z47, z49, z51, z53, z55, z57, z59] at ez43
         simp only [go_sem, ir65, E_8_l1, R_8_l1, ir65_k0, ir65_o0, ir65_r0, E_8_l2, R_8_l2, ir65_k0, ir65_o0, ir65_r0, fz1, fz2, z3, fz44, z45, z46, z47, fz48, z49, lz49, xz49, fz50, z51, z53, z55, z57, z59, fz60, ez43]
        ·try simp only [go_sem, n1, n2, n3, n4, z3, z45, z46, z47, z49, z51, z53, z55, z57] at z59
         all_goals
         obtain rfl := so_some h
         refine ⟨Lz43, fun L hL => ?_⟩
         have ez43 := ez43 L (by omega)
         try simp only [go_sem, E_8_l1, R_8_l1, ir65_k0, ir65_o0, ir65_r0, E_8_l2, R_8_l2, ir65_k0, ir65_o0, ir65_r0, z3, z45, z46, z47, z49, z51, z53, z55, z57, z59] at ez43
         simp only [go_sem, ir65, E_8_l1, R_8_l1, ir65_k0, ir65_o0, ir65_r0, E_8_l2, R_8_l2, ir65_k0, ir65_o0, ir65_r0, fz1, fz2, z3, fz44, z45, z46, z47, fz48, z49, lz49, xz49, fz50, z51, z53, z55, z57, z59, ez43]
  ·try simp only [go_sem, n1, n2, n3, n4, z3] at z45
   all_goals
   rcases it_some h with ⟨z61, h⟩ | ⟨z61, h⟩
   ·try simp only [go_sem, n1, n2, n3, n4, z3, z45] at z61
    all_goals
    obtain rfl := so_some h
    refine ⟨Lz43, fun L hL => ?_⟩
    have ez43 := ez43 L (by omega)
    try simp only [go_sem, E_8_l1, R_8_l1, ir65_k0, ir65_o0, ir65_r0, E_8_l2, R_8_l2, ir65_k0, ir65_o0, ir65_r0, z3, z45, z61] at ez43
    simp only [go_sem, ir65, E_8_l1, R_8_l1, ir65_k0, ir65_o0, ir65_r0, E_8_l2, R_8_l2, ir65_k0, ir65_o0, ir65_r0, fz1, fz2, z3, fz44, z45, z61, ez43]
   ·try simp only [go_sem, n1, n2, n3, n4, z3, z45] at z61
    all_goals
    obtain ⟨y_62, z62, h⟩ := bd_some h
    have fz62 := Fs_3 z62
    try simp only [go_sem, z3, z45, z61] at fz62
    obtain ⟨z63, h⟩ := ck_some h
    have lz63 := ix_lt z63
    have xz63 := getD_mapD Rule_av y_43.2 lz63
    try simp only [go_sem] at lz63
    try simp only [go_sem] at xz63
    try simp only [go_sem, n1, n2, n3, n4, z3, z45, z61] at z63
    all_goals
    obtain ⟨y_64, z64, h⟩ := bd_some h
    have fz64 := Fs_3 z64
    try simp only [go_sem, z3, z45, z61, z63] at fz64
    rcases it_some h with ⟨z65, h⟩ | ⟨z65, h⟩
    ·try simp only [go_sem, n1, n2, n3, n4, z3, z45, z61, z63] at z65
     all_goals
     obtain ⟨y_66, z66, h⟩ := bd_some h
     have fz66 := Fs_6 z66
     try simp only [go_sem, z3, z45, z61, z63, z65] at fz66
     obtain rfl := so_some h
     refine ⟨Lz43, fun L hL => ?_⟩
     have ez43 := ez43 L (by omega)
     try simp only [go_sem, E_8_l1, R_8_l1, ir65_k0, ir65_o0, ir65_r0, E_8_l2, R_8_l2, ir65_k0, ir65_o0, ir65_r0, z3, z45, z61, z63, z65] at ez43
     simp only [go_sem, ir65, E_8_l1, R_8_l1, ir65_k0, ir65_o0, ir65_r0, E_8_l2, R_8_l2, ir65_k0, ir65_o0, ir65_r0, fz1, fz2, z3, fz44, z45, z61, fz62, z63, lz63, xz63, fz64, z65, fz66, ez43]
    ·try simp only [go_sem, n1, n2, n3, n4, z3, z45, z61, z63] at z65
     all_goals
     rcases it_some h with ⟨z67, h⟩ | ⟨z67, h⟩
     ·try simp only [go_sem, n1, n2, n3, n4, z3, z45, z61, z63, z65] at z67
      all_goals
      obtain ⟨y_68, z68, h⟩ := bd_some h
      have fz68 := Fs_4 z68
      try simp only [go_sem, z3, z45, z61, z63, z65, z67] at fz68
      obtain rfl := so_some h
      refine ⟨Lz43, fun L hL => ?_⟩
      have ez43 := ez43 L (by omega)
      try simp only [go_sem, E_8_l1, R_8_l1, ir65_k0, ir65_o0, ir65_r0, E_8_l2, R_8_l2, ir65_k0, ir65_o0, ir65_r0, z3, z45, z61, z63, z65, z67] at ez43
      simp only [go_sem, ir65, E_8_l1, R_8_l1, ir65_k0, ir65_o0, ir65_r0, E_8_l2, R_8_l2, ir65_k0, ir65_o0, ir65_r0, fz1, fz2, z3, fz44, z45, z61, fz62, z63, lz63, xz63, fz64, z65, z67, fz68, ez43]
     ·try simp only [go_sem, n1, n2, n3, n4, z3, z45, z61, z63, z65] at z67
      all_goals
      rcases it_some h with ⟨z69, h⟩ | ⟨z69, h⟩
      ·try simp only [go_sem, n1, n2, n3, n4, z3, z45, z61, z63, z65, z67] at z69
       all_goals
       obtain ⟨y_70, z70, h⟩ := bd_some h
       have fz70 := Fs_4 z70
       try simp only [go_sem, z3, z45, z61, z63, z65, z67, z69] at fz70
       obtain rfl := so_some h
       refine ⟨Lz43, fun L hL => ?_⟩
       have ez43 := ez43 L (by omega)
       try simp only [go_sem, E_8_l1, R_8_l1, ir65_k0, ir65_o0, ir65_r0, E_8_l2, R_8_l2, ir65_k0, ir65_o0, ir65_r0, z3, z45, z61, z63, z65, z67, z69] at ez43
       simp only [go_sem, ir65, E_8_l1, R_8_l1, ir65_k0, ir65_o0, ir65_r0, E_8_l2, R_8_l2, ir65_k0, ir65_o0, ir65_r0, fz1, fz2, z3, fz44, z45, z61, fz62, z63, lz63, xz63, fz64, z65, z67, z69, fz70, ez43]
      ·try simp only [go_sem, n1, n2, n3, n4, z3, z45, z61, z63, z65, z67] at z69
       all_goals
       rcases it_some h with ⟨z71, h⟩ | ⟨z71, h⟩
       ·try simp only [go_sem, n1, n2, n3, n4, z3, z45, z61, z63, z65, z67, z69] at z71
        all_goals
        obtain ⟨y_72, z72, h⟩ := bd_some h
        have fz72 := Fs_4 z72
        try simp only [go_sem, z3, z45, z61, z63, z65, z67, z69, z71] at fz72
        obtain rfl := so_some h
        refine ⟨Lz43, fun L hL => ?_⟩
        have ez43 := ez43 L (by omega)
        try simp only [go_sem, E_8_l1, R_8_l1, ir65_k0, ir65_o0, ir65_r0, E_8_l2, R_8_l2, ir65_k0, ir65_o0, ir65_r0, z3, z45, z61, z63, z65, z67, z69, z71] at ez43
        simp only [go_sem, ir65, E_8_l1, R_8_l1, ir65_k0, ir65_o0, ir65_r0, E_8_l2, R_8_l2, ir65_k0, ir65_o0, ir65_r0, fz1, fz2, z3, fz44, z45, z61, fz62, z63, lz63, xz63, fz64, z65, z67, z69, z71, fz72, ez43]
       ·try simp only [go_sem, n1, n2, n3, n4, z3, z45, z61, z63, z65, z67, z69] at z71
        all_goals
        rcases it_some h with ⟨z73, h⟩ | ⟨z73, h⟩
        ·try simp only [go_sem, n1, n2, n3, n4, z3, z45, z61, z63, z65, z67, z69, z71] at z73
         all_goals
         obtain ⟨y_74, z74, h⟩ := bd_some h
         have fz74 := Fs_4 z74
         try simp only [go_sem, z3, z45, z61, z63, z65, z67, z69, z71, z73] at fz74
         obtain rfl := so_some h
         refine ⟨Lz43, fun L hL => ?_⟩
         have ez43 := ez43 L (by omega)
         try simp only [go_sem, E_8_l1, R_8_l1, ir65_k0, ir65_o0, ir65_r0, E_8_l2, R_8_l2, ir65_k0, ir65_o0, ir65_r0, z3, z45, z61, z63, z65, z67, z69, z71, z73] at ez43
         simp only [go_sem, ir65, E_8_l1, R_8_l1, ir65_k0, ir65_o0, ir65_r0, E_8_l2, R_8_l2, ir65_k0, ir65_o0, ir65_r0, fz1, fz2, z3, fz44, z45, z61, fz62, z63, lz63, xz63, fz64, z65, z67, z69, z71, z73, fz74, ez43]
        ·try simp only [go_sem, n1, n2, n3, n4, z3, z45, z61, z63, z65, z67, z69, z71] at z73
         all_goals
         obtain rfl := so_some h
         refine ⟨Lz43, fun L hL => ?_⟩
         have ez43 := ez43 L (by omega)
         try simp only [go_sem, E_8_l1, R_8_l1, ir65_k0, ir65_o0, ir65_r0, E_8_l2, R_8_l2, ir65_k0, ir65_o0, ir65_r0, z3, z45, z61, z63, z65, z67, z69, z71, z73] at ez43
         simp only [go_sem, ir65, E_8_l1, R_8_l1, ir65_k0, ir65_o0, ir65_r0, E_8_l2, R_8_l2, ir65_k0, ir65_o0, ir65_r0, fz1, fz2, z3, fz44, z45, z61, fz62, z63, lz63, xz63, fz64, z65, z67, z69, z71, z73, ez43]


def ir39_v : List Nat := [0, 2, 3, 17]
def ir39 : AFn := ⟨1, 4, .seq (.region false [ VO 1 2 (.alloc (.agg [.int .i64 (0), .int .i64 (0), .int .i64 (0)]))]) (.seq (.region false [ PM 4 0, PO 5 (.call 66 [(.s 0), (I6 14)]), PO 6 (.bin false .mul (I6 250) (.s 0)), PO 7 (.build [.int .i64 (0), .int .i64 (0), .int .i64 (0)] [(0, 1, (.s 0))]), VO 2 3 (.alloc (.agg [.int .i64 (0), .int .i64 (0), .int .i64 (0)])), ⟨.no, 0, none, .store 3 (.v 2) (.s 0)⟩]) (.seq (.region false [ PM 8 0, PO 9 (.call 66 [(.s 0), (I6 16)]), PO 10 (.bin false .mul (I6 5000) (.s 0)), PO 11 (.fldAddr 1 (.v 2)), ⟨.no, 0, none, .store 1 (.s 0) (.s 1)⟩]) (.seq
 (.region false [ PM 12 0, PO 13 (.call 66 [(.s 0), (I6 3)]), PO 14 (.bin false .add (I6 1) (.s 0)), PO 15 (.fldAddr 2 (.v 2)), ⟨.no, 0, none, .store 1 (.s 0) (.s 1)⟩]) (.seq (.seq (.region false [ PM 16 0, VO 3 17 (.call 66 [(.s 0), (I6 16)])]) (.block 0 (.test false [ PO 19 (.bin false .eql (.v 3) (I6 0)), PO 18 (.mov (.s 0))] (.s 0) (.region false [ PM 20 0, PO 21 (.mkSl 1 (.int .i64 (0)) 4 [(0, (.c (.int .i64 (-1)))), (1, (I6 0)), (2, (I6 20000)), (3, (I6 20001))]), PO 22 (.call 72 [(.s 1), (.s 0)]), PO 23 (.fldAddr 0 (.v 2)), ⟨.no, 0, none, .store 1 (.s 0) (.s 1)⟩]) (.test false [ PO 25
 (.bin false .eql (.v 3) (I6 1)), PO 24 (.mov (.s 0))] (.s 0) (.region false [ PM 26 0, PO 27 (.mkSl 1 (.int .i64 (0)) 4 [(0, (.c (.int .i64 (-1)))), (1, (I6 0)), (2, (I6 1000000)), (3, (I6 1000001))]), PO 28 (.call 72 [(.s 1), (.s 0)]), PO 29 (.fldAddr 1 (.v 2)), ⟨.no, 0, none, .store 1 (.s 0) (.s 1)⟩]) (.test false [ PO 31 (.bin false .eql (.v 3) (I6 2)), PO 30 (.mov (.s 0))] (.s 0) (.region false [ PM 32 0, PO 33 (.mkSl 1 (.int .i64 (0)) 4 [(0, (I6 0)), (1, (I6 1)), (2, (I6 3)), (3, (I6 4))]), PO 34 (.call 72 [(.s 1), (.s 0)]), PO 35 (.fldAddr 2 (.v 2)), ⟨.no, 0, none, .store 1 (.s 0) (.s
 1)⟩]) (.skip)))))) (.seq (.region false [ PO 36 (.load true 3 (.v 2)), ⟨.no, 0, none, .store 3 (.v 1) (.s 0)⟩]) (.ret)))))), [.cell true 3 1]⟩
noncomputable def t_9 : List (Nat × Ctr) := [(66, c_3), (72, c_4)]
theorem lk_9_66 : look t_9 66 = some c_3 := rfl
theorem lk_9_72 : look t_9 72 = some c_4 := rfl
noncomputable def c_9 : Ctr := mkN t_9 ir39 [.io]
theorem s_9 : Sound Tryz.prog 39 c_9 := mkN_sound _ (snd_cons s_3 (snd_cons s_4 snd_nil)) (by kernel_rfl : chkFn Tryz.prog 39 ir39 ir39_v = true)
theorem M_9 : c_9.modes = [.io] := rfl
theorem Fl_9 : c_9.flat = false := rfl
attribute [go_sem] M_9 Fl_9
attribute [go_sem] lk_9_66 lk_9_72
theorem Fs_9 {s_ : L00Src} {y_ : Facts × L00Src} (h : spec_l18DrawFacts s_ = some y_) : c_9.F [.mem 3 [L00Src_av s_] 0] = ⟨true, Facts_av y_.1, [.mem 3 [L00Src_av y_.2] 0]⟩ := by
 refine mkN_E ?_
 dsimp only [spec_l18DrawFacts] at h
 obtain ⟨y_1, z1, h⟩ := bd_some h
 have fz1 := Fs_3 z1
 try simp only [go_sem] at fz1
 obtain ⟨y_2, z2, h⟩ := bd_some h
 have fz2 := Fs_3 z2
 try simp only [go_sem] at fz2
 obtain ⟨y_3, z3, h⟩ := bd_some h
 have fz3 := Fs_3 z3
 try simp only [go_sem] at fz3
 obtain ⟨y_4, z4, h⟩ := bd_some h
 have fz4 := Fs_3 z4
 try simp only [go_sem] at fz4
 rcases it_some h with ⟨z5, h⟩ | ⟨z5, h⟩
 ·try simp only [go_sem, n1, n2, n3, n4] at z5
  all_goals
  obtain ⟨y_6, z6, h⟩ := bd_some h
  have fz6 := Fs_4 z6
  try simp only [go_sem, z5] at fz6
  obtain rfl := so_some h
  refine ⟨0, fun L hL => ?_⟩
  simp only [go_sem, ir39, fz1, fz2, fz3, fz4, z5, fz6]
 ·try simp only [go_sem, n1, n2, n3, n4] at z5
  all_goals
  rcases it_some h with ⟨z7, h⟩ | ⟨z7, h⟩
  ·try simp only [go_sem, n1, n2, n3, n4, z5] at z7
   all_goals
   obtain ⟨y_8, z8, h⟩ := bd_some h
   have fz8 := Fs_4 z8
   try simp only [go_sem, z5, z7] at fz8
   obtain rfl := so_some h
   refine ⟨0, fun L hL => ?_⟩
   simp only [go_sem, ir39, fz1, fz2, fz3, fz4, z5, z7, fz8]
  ·try simp only [go_sem, n1, n2, n3, n4, z5] at z7
   all_goals
   rcases it_some h with ⟨z9, h⟩ | ⟨z9, h⟩
   ·try simp only [go_sem, n1, n2, n3, n4, z5, z7] at z9
    all_goals
    obtain ⟨y_10, z10, h⟩ := bd_some h
    have fz10 := Fs_4 z10
    try simp only [go_sem, z5, z7, z9] at fz10
    obtain rfl := so_some h
    refine ⟨0, fun L hL => ?_⟩
    simp only [go_sem, ir39, fz1, fz2, fz3, fz4, z5, z7, z9, fz10]
   ·try simp only [go_sem, n1, n2, n3, n4, z5, z7] at z9
    all_goals
    obtain rfl := so_some h
    refine ⟨0, fun L hL => ?_⟩
    simp only [go_sem, ir39, fz1, fz2, fz3, fz4, z5, z7, z9]


def ir28_v : List Nat := [0, 2, 3, 4, 5]
def ir28 : AFn := ⟨1, 5, .seq (.region false [ VO 1 2 (.newnil 6), VO 2 3 (.alloc (.agg [.int .i64 (0), .int .i64 (0), .int .i64 (0)]))]) (.seq (.region false [ PM 6 0, PO 7 (.call 37 [(.s 0)]), VS 3 4 0]) (.seq (.region false [ PM 8 3, PO 9 (.call 65 [(.s 0)]), VS 4 5 0]) (.seq (.region false [ PM 10 4, PM 11 3, PO 12 (.call 39 [(.s 0)]), VS 1 2 2, ⟨.no, 0, none, .store 3 (.v 2) (.s 0)⟩]) (.ret)))), [.t 1, .cell true 3 2]⟩
noncomputable def t_10 : List (Nat × Ctr) := [(37, c_1), (65, c_8), (39, c_9)]
theorem lk_10_37 : look t_10 37 = some c_1 := rfl
theorem lk_10_65 : look t_10 65 = some c_8 := rfl
theorem lk_10_39 : look t_10 39 = some c_9 := rfl
noncomputable def c_10 : Ctr := mkN t_10 ir28 [.bor]
theorem s_10 : Sound Tryz.prog 28 c_10 := mkN_sound _ (snd_cons s_1 (snd_cons s_8 (snd_cons s_9 snd_nil))) (by kernel_rfl : chkFn Tryz.prog 28 ir28 ir28_v = true)
theorem M_10 : c_10.modes = [.bor] := rfl
theorem Fl_10 : c_10.flat = false := rfl
attribute [go_sem] M_10 Fl_10
attribute [go_sem] lk_10_37 lk_10_65 lk_10_39
theorem Fs_10 {code : List UInt8} {y_ : (List Rule) × Facts} (h : spec_l18Ask code = some y_) : c_10.F [.sl 1 (List.map byteAV code)] = ⟨true, .tup [.fresh 6 (List.map Rule_av y_.1), Facts_av y_.2], [.any]⟩ := by
 refine mkN_E ?_
 dsimp only [spec_l18Ask] at h
 obtain ⟨y_1, z1, h⟩ := bd_some h
 have fz1 := Fs_1 z1
 try simp only [go_sem] at fz1
 obtain ⟨y_2, z2, h⟩ := bd_some h
 have fz2 := Fs_8 z2
 try simp only [go_sem] at fz2
 obtain ⟨y_3, z3, h⟩ := bd_some h
 have fz3 := Fs_9 z3
 try simp only [go_sem] at fz3
 obtain rfl := so_some h
 refine ⟨0, fun L hL => ?_⟩
 simp only [go_sem, ir28, fz1, fz2, fz3]


def ir5_v : List Nat := [0, 2, 3]
def ir5 : AFn := ⟨1, 3, .seq (.region false [ VO 1 2 (.newnil 6), VO 2 3 (.alloc (.agg [.int .i64 (0), .int .i64 (0), .int .i64 (0)]))]) (.seq (.region false [ PM 4 0, PO 5 (.call 28 [(.s 0)]), PO 6 (.ext (.s 0) 0), PO 7 (.ext (.s 1) 1), VS 1 2 1, ⟨.no, 0, none, .store 3 (.v 2) (.s 0)⟩]) (.ret)), [.t 1, .cell true 3 2]⟩
noncomputable def t_11 : List (Nat × Ctr) := [(28, c_10)]
theorem lk_11_28 : look t_11 28 = some c_10 := rfl
noncomputable def c_11 : Ctr := mkN t_11 ir5 [.bor]
theorem s_11 : Sound Tryz.prog 5 c_11 := mkN_sound _ (snd_cons s_10 snd_nil) (by kernel_rfl : chkFn Tryz.prog 5 ir5 ir5_v = true)
theorem M_11 : c_11.modes = [.bor] := rfl
theorem Fl_11 : c_11.flat = false := rfl
attribute [go_sem] M_11 Fl_11
attribute [go_sem] lk_11_28
theorem Fs_11 {code : List UInt8} {y_ : (List Rule) × Facts} (h : spec_DrawClassOf code = some y_) : c_11.F [.sl 1 (List.map byteAV code)] = ⟨true, .tup [.fresh 6 (List.map Rule_av y_.1), Facts_av y_.2], [.any]⟩ := by
 refine mkN_E ?_
 dsimp only [spec_DrawClassOf] at h
 obtain ⟨y_1, z1, h⟩ := bd_some h
 have fz1 := Fs_10 z1
 try simp only [go_sem] at fz1
 obtain rfl := so_some h
 refine ⟨0, fun L hL => ?_⟩
 simp only [go_sem, ir5, fz1]


def ir73_b0 : IR := .seq (.region false [ VO 7 17 (.bin false .lss (.v 6) (.v 5))]) (.seq (.cond (.v 7) (.skip) (.exit 0)) (.seq (.block 1 (.seq (.region false [ PM 18 6, VS 2 3 0]) (.seq (.region false [ PM 19 0, PM 20 2, PO 21 (.ixStr (.s 1) (.s 0)), PO 22 (.bin false .geq (.s 0) (.c (.int .u8 (97)))), PO 23 (.mov (.s 0)), ⟨.push, 24, (some ((.s 0), true)), .mov (.v 0)⟩, ⟨.push, 25, (some ((.s 1), true)), .mov (.v 2)⟩, ⟨.push, 26, (some ((.s 2), true)), .ixStr (.s 1) (.s 0)⟩, ⟨.push, 27, (some ((.s 3), true)), .bin false .leq (.s 0) (.c (.int .u8 (122)))⟩, PO 28 (.pick (.s 4) (.s 0) (.c
 (.bool false))), VS 3 4 0]) (.seq (.region false [ PM 29 0, PM 30 2, PO 31 (.ixStr (.s 1) (.s 0)), PO 32 (.bin false .geq (.s 0) (.c (.int .u8 (48)))), PO 33 (.mov (.s 0)), ⟨.push, 34, (some ((.s 0), true)), .mov (.v 0)⟩, ⟨.push, 35, (some ((.s 1), true)), .mov (.v 2)⟩, ⟨.push, 36, (some ((.s 2), true)), .ixStr (.s 1) (.s 0)⟩, ⟨.push, 37, (some ((.s 3), true)), .bin false .leq (.s 0) (.c (.int .u8 (57)))⟩, PO 38 (.pick (.s 4) (.s 0) (.c (.bool false))), PO 39 (.mov (.s 0)), ⟨.push, 40, (some ((.s 0), false)), .mov (.v 0)⟩, ⟨.push, 41, (some ((.s 1), false)), .mov (.v 2)⟩, ⟨.push, 42, (some
 ((.s 2), false)), .ixStr (.s 1) (.s 0)⟩, ⟨.push, 43, (some ((.s 3), false)), .bin false .eql (.s 0) (.c (.int .u8 (45)))⟩, PO 44 (.pick (.s 4) (.c (.bool true)) (.s 0)), VS 4 5 0]) (.test false [ PM 45 3, PO 46 (.un .not (.s 0)), PO 47 (.mov (.s 0)), ⟨.push, 48, (some ((.s 0), true)), .mov (.v 2)⟩, ⟨.push, 49, (some ((.s 1), true)), .bin false .eql (.s 0) (I6 0)⟩, ⟨.push, 50, (some ((.s 2), true)), .mov (.s 0)⟩, ⟨.push, 51, (some ((.s 0), false)), .mov (.v 4)⟩, ⟨.push, 52, (some ((.s 1), false)), .un .not (.s 0)⟩, ⟨.push, 53, (some ((.s 5), true)), .pick (.s 2) (.c (.bool true)) (.s 0)⟩, PO 54
 (.pick (.s 6) (.s 0) (.c (.bool false)))] (.s 0) (.seq (.region false [ VO 1 2 (.mov (.c (.bool false)))]) (.ret)) (.skip)))))) (.region false [ PO 55 (.bin false .add (.v 6) (I6 1)), VS 6 16 0])))
def ir73_k0 : List Bool := [true, false, false, false, false, true, true, false]
def ir73_o0 : List Bool := [false, false, false, false, false, false, false, false]
def ir73_r0 : List Bool := [false, true, false, false, false, false, false, false]
def ir73_v : List Nat := [0, 2, 3, 4, 5, 15, 16, 17]
def ir73 : AFn := ⟨1, 8, .seq (.region false [ VO 1 2 (.mov (.c (.bool false)))]) (.seq (.test false [ PM 6 0, PO 7 (.len true (.s 0)), PO 8 (.bin false .lss (.s 0) (I6 1)), PO 9 (.mov (.s 0)), ⟨.push, 10, (some ((.s 0), false)), .mov (.v 0)⟩, ⟨.push, 11, (some ((.s 1), false)), .len true (.s 0)⟩, ⟨.push, 12, (some ((.s 2), false)), .bin false .gtr (.s 0) (I6 12)⟩, PO 13 (.pick (.s 3) (.c (.bool true)) (.s 0))] (.s 0) (.seq (.region false [ VO 1 2 (.mov (.c (.bool false)))]) (.ret)) (.skip)) (.seq (.seq (.region false [ PM 14 0, VO 5 15 (.len true (.s 0)), VO 6 16 (.mov (I6 0))]) (.block 0
 (.loop ir73_k0 ir73_o0 ir73_r0 ir73_b0))) (.seq (.region false [ VO 1 2 (.mov (.c (.bool true)))]) (.ret)))), [.t 1]⟩
noncomputable def t_12 : List (Nat × Ctr) := []
noncomputable def c_12 : Ctr := mkF t_12 ir73 [.bor]
theorem s_12 : Sound Tryz.prog 73 c_12 := mkF_sound _ rfl snd_nil (by kernel_rfl : chkFn Tryz.prog 73 ir73 ir73_v = true)
theorem M_12 : c_12.modes = [.bor] := rfl
theorem Fl_12 : c_12.flat = true := rfl
attribute [go_sem] M_12 Fl_12
def E_12_l1 (s_ : List UInt8) (t15 : Int) : Int → St
 | t16 => ⟨[.str s_, .any, .any, .any, .any, .int .i64 t15, .int .i64 t16, .any], [], [], true⟩
def R_12_l1 (s_ : List UInt8) (t15 : Int) : (Unit ⊕ Bool) → Res
 | .inl y => (.exit 0, ⟨[.any, .any, .any, .any, .any, .any, .any, .any], [], [], true⟩)
 | .inr y => (.ret, ⟨[.any, .bool y, .any, .any, .any, .any, .any, .any], [], [], true⟩)
theorem impl_IsName_l1_ex {s_ : List UInt8} {t15 : Int} {sgm_ : Int} {rho_ : Unit ⊕ Bool} (h : whileE (impl_IsName_l1 s_ t15) sgm_ = some rho_) : ∃ L0, ∀ L, L0 ≤ L → iter (exec (look t_12) L ir73_b0) ir73_k0 ir73_o0 ir73_r0 L (E_12_l1 s_ t15 sgm_) = R_12_l1 s_ t15 rho_ := by
 refine loop_ex (E := E_12_l1 s_ t15) (R := R_12_l1 s_ t15) (fun y => by first | (intro c; cases c) | (rcases y with y | y <;> (intro c; cases c)) | (rcases y with y | y | y <;> (intro c; cases c))) ?_ h
 clear h
 intro t16 o_ h
 dsimp only [impl_IsName_l1] at h
 rcases it_some h with ⟨z2, h⟩ | ⟨z2, h⟩
 ·try simp only [go_sem, n1, n2, n3, n4] at z2
  all_goals
  obtain ⟨z3, h⟩ := ck_some h
  try simp only [go_sem, n1, n2, n3, n4, z2] at z3
  all_goals
  rcases it_some h with ⟨z4, h⟩ | ⟨z4, h⟩
  ·try simp only [go_sem, n1, n2, n3, n4, z2, z3] at z4
   all_goals
   obtain rfl := so_some h
   refine ⟨0, fun L hL => ?_⟩
   simp only [go_sem, ir73, E_12_l1, R_12_l1, ir73_b0, ir73_k0, ir73_o0, ir73_r0, z2, z3, z4]
  ·try simp only [go_sem, n1, n2, n3, n4, z2, z3] at z4
   all_goals
   obtain rfl := so_some h
   refine ⟨0, fun L hL => ?_⟩
   simp only [go_sem, ir73, E_12_l1, R_12_l1, ir73_b0, ir73_k0, ir73_o0, ir73_r0, z2, z3, z4]
 ·try simp only [go_sem, n1, n2, n3, n4] at z2
  all_goals
  obtain rfl := so_some h
  refine ⟨0, fun L hL => ?_⟩
  simp only [go_sem, ir73, E_12_l1, R_12_l1, ir73_b0, ir73_k0, ir73_o0, ir73_r0, z2]

theorem Fs_12 {s_ : List UInt8} {y_ : Bool} (h : impl_IsName s_ = some y_) : c_12.F [.str s_] = ⟨true, .bool y_, [.any]⟩ := by
 refine mkF_E rfl ?_
 dsimp only [impl_IsName] at h
 rcases it_some h with ⟨z1, h⟩ | ⟨z1, h⟩
 ·try simp only [go_sem, n1, n2, n3, n4] at z1
  all_goals
  obtain rfl := so_some h
  refine ⟨0, fun L hL => ?_⟩
  simp only [go_sem, ir73, E_12_l1, R_12_l1, ir73_k0, ir73_o0, ir73_r0, z1]
 ·try simp only [go_sem, n1, n2, n3, n4] at z1
  all_goals
  obtain ⟨y_5, z5, h⟩ := bd_some h
  obtain ⟨Lz5, ez5⟩ := impl_IsName_l1_ex z5
  rcases y_5 with y_5a | y_5b
  ·dsimp only at h
   obtain rfl := so_some h
   refine ⟨Lz5, fun L hL => ?_⟩
   have ez5 := ez5 L (by omega)
   try simp only [go_sem, E_12_l1, R_12_l1, ir73_k0, ir73_o0, ir73_r0, z1] at ez5
   simp only [go_sem, ir73, E_12_l1, R_12_l1, ir73_k0, ir73_o0, ir73_r0, z1, ez5]
  ·dsimp only at h
   obtain rfl := so_some h
   refine ⟨Lz5, fun L hL => ?_⟩
   have ez5 := ez5 L (by omega)
   try simp only [go_sem, E_12_l1, R_12_l1, ir73_k0, ir73_o0, ir73_r0, z1] at ez5
   simp only [go_sem, ir73, E_12_l1, R_12_l1, ir73_k0, ir73_o0, ir73_r0, z1, ez5]


def ir44_v : List Nat := [0, 1, 2, 6]
def ir44 : AFn := ⟨3, 4, .seq (.region false [ VO 3 6 (.mov (.c (.bool false)))]) (.seq (.region false [ PM 7 0, PM 8 1, PO 9 (.bin false .geq (.s 1) (.s 0)), PO 10 (.mov (.s 0)), ⟨.push, 11, (some ((.s 0), true)), .mov (.v 0)⟩, ⟨.push, 12, (some ((.s 1), true)), .mov (.v 2)⟩, ⟨.push, 13, (some ((.s 2), true)), .bin false .leq (.s 1) (.s 0)⟩, PO 14 (.pick (.s 3) (.s 0) (.c (.bool false))), VS 3 6 0]) (.ret)), [.t 3]⟩
noncomputable def t_13 : List (Nat × Ctr) := []
noncomputable def c_13 : Ctr := mkF t_13 ir44 [.bor, .bor, .bor]
theorem s_13 : Sound Tryz.prog 44 c_13 := mkF_sound _ rfl snd_nil (by kernel_rfl : chkFn Tryz.prog 44 ir44 ir44_v = true)
theorem M_13 : c_13.modes = [.bor, .bor, .bor] := rfl
theorem Fl_13 : c_13.flat = true := rfl
attribute [go_sem] M_13 Fl_13
theorem Fs_13 {n : Int} {low : Int} {high : Int} {y_ : Bool} (h : impl_in n low high = some y_) : c_13.F [.int .i64 n, .int .i64 low, .int .i64 high] = ⟨true, .bool y_, [.any, .any, .any]⟩ := by
 refine mkF_E rfl ?_
 dsimp only [impl_in] at h
 obtain rfl := so_some h
 refine ⟨0, fun L hL => ?_⟩
 simp only [go_sem, ir44]


def ir40_v : List Nat := [0, 1, 2, 3, 4]
def ir40 : AFn := ⟨1, 5, .seq (.region false [ VO 1 1 (.box (.v 0)), VO 2 2 (.mov (.c (.bool false)))]) (.seq (.region false [ PO 5 (.fldAddr 1 (.v 1)), PO 6 (.load false 1 (.s 0)), PO 7 (.bin false .geq (.s 0) (I6 0)), PO 8 (.mov (.s 0)), ⟨.push, 9, (some ((.s 0), true)), .fldAddr 1 (.v 1)⟩, ⟨.push, 10, (some ((.s 1), true)), .load false 1 (.s 0)⟩, ⟨.push, 11, (some ((.s 2), true)), .fldAddr 2 (.v 1)⟩, ⟨.push, 12, (some ((.s 3), true)), .load false 1 (.s 0)⟩, ⟨.push, 13, (some ((.s 4), true)), .bin false .leq (.s 2) (.s 0)⟩, PO 14 (.pick (.s 5) (.s 0) (.c (.bool false))), PO 15 (.mov (.s 0)),
 ⟨.push, 16, (some ((.s 0), true)), .fldAddr 2 (.v 1)⟩, ⟨.push, 17, (some ((.s 1), true)), .load false 1 (.s 0)⟩, ⟨.push, 18, (some ((.s 2), true)), .bin false .leq (.s 0) (I6 20000)⟩, PO 19 (.pick (.s 3) (.s 0) (.c (.bool false))), VS 3 3 0]) (.seq (.region false [ PO 20 (.fldAddr 3 (.v 1)), PO 21 (.load false 1 (.s 0)), PO 22 (.bin false .geq (.s 0) (I6 0)), PO 23 (.mov (.s 0)), ⟨.push, 24, (some ((.s 0), true)), .fldAddr 3 (.v 1)⟩, ⟨.push, 25, (some ((.s 1), true)), .load false 1 (.s 0)⟩, ⟨.push, 26, (some ((.s 2), true)), .fldAddr 4 (.v 1)⟩, ⟨.push, 27, (some ((.s 3), true)), .load false 1
 (.s 0)⟩, ⟨.push, 28, (some ((.s 4), true)), .bin false .leq (.s 2) (.s 0)⟩, PO 29 (.pick (.s 5) (.s 0) (.c (.bool false))), PO 30 (.mov (.s 0)), ⟨.push, 31, (some ((.s 0), true)), .fldAddr 4 (.v 1)⟩, ⟨.push, 32, (some ((.s 1), true)), .load false 1 (.s 0)⟩, ⟨.push, 33, (some ((.s 2), true)), .bin false .leq (.s 0) (I6 1000000)⟩, PO 34 (.pick (.s 3) (.s 0) (.c (.bool false))), VS 4 4 0]) (.seq (.region false [ PO 35 (.fldAddr 0 (.v 1)), PO 36 (.load false 1 (.s 0)), PO 37 (.call 73 [(.s 0)]), PO 38 (.mov (.s 0)), ⟨.push, 39, (some ((.s 0), true)), .mov (.v 3)⟩, PO 40 (.pick (.s 1) (.s 0) (.c
 (.bool false))), PO 41 (.mov (.s 0)), ⟨.push, 42, (some ((.s 0), true)), .mov (.v 4)⟩, PO 43 (.pick (.s 1) (.s 0) (.c (.bool false))), PO 44 (.mov (.s 0)), ⟨.push, 45, (some ((.s 0), true)), .fldAddr 5 (.v 1)⟩, ⟨.push, 46, (some ((.s 1), true)), .load false 1 (.s 0)⟩, ⟨.push, 47, (some ((.s 2), true)), .call 44 [(.s 0), (I6 0), (I6 3)]⟩, PO 48 (.pick (.s 3) (.s 0) (.c (.bool false))), VS 2 2 0]) (.ret)))), [.t 2]⟩
noncomputable def t_14 : List (Nat × Ctr) := [(73, c_12), (44, c_13)]
theorem lk_14_73 : look t_14 73 = some c_12 := rfl
theorem lk_14_44 : look t_14 44 = some c_13 := rfl
noncomputable def c_14 : Ctr := mkF t_14 ir40 [.bor]
theorem s_14 : Sound Tryz.prog 40 c_14 := mkF_sound _ rfl (snd_cons s_12 (snd_cons s_13 snd_nil)) (by kernel_rfl : chkFn Tryz.prog 40 ir40 ir40_v = true)
theorem M_14 : c_14.modes = [.bor] := rfl
theorem Fl_14 : c_14.flat = true := rfl
attribute [go_sem] M_14 Fl_14
attribute [go_sem] lk_14_73 lk_14_44
theorem Fs_14 {r : Rule} {y_ : Bool} (h : impl_isRule r = some y_) : c_14.F [Rule_av r] = ⟨true, .bool y_, [.any]⟩ := by
 refine mkF_E rfl ?_
 dsimp only [impl_isRule] at h
 obtain ⟨y_1, z1, h⟩ := bd_some h
 have fz1 := Fs_12 z1
 try simp only [go_sem] at fz1
 obtain ⟨z2, h⟩ := ck_some h
 rcases or_split z2 with ⟨gz2, z2⟩ | gz2
 ·try simp only [go_sem, n1, n2, n3, n4] at gz2
  all_goals
  obtain ⟨y_2, hz2⟩ := Option.isSome_iff_exists.1 z2
  have fz2 := Fs_13 hz2
  try simp only [go_sem, n1, n2, n3, n4, gz2] at hz2
  all_goals
  try simp only [go_sem, gz2] at fz2
  obtain rfl := so_some h
  refine ⟨0, fun L hL => ?_⟩
  simp only [go_sem, ir40, fz1, gz2, hz2, fz2]
 ·try simp only [go_sem, n1, n2, n3, n4] at gz2
  all_goals
  obtain rfl := so_some h
  refine ⟨0, fun L hL => ?_⟩
  simp only [go_sem, ir40, fz1, gz2]


def ir69_v : List Nat := [0, 1, 2]
def ir69 : AFn := ⟨1, 3, .seq (.region false [ VO 1 1 (.box (.v 0)), VO 2 2 (.mov (.c (.bool false)))]) (.seq (.region false [ PO 3 (.load true 6 (.v 1)), PO 4 (.call 40 [(.s 0)]), PO 5 (.un .not (.s 0)), VS 2 2 0]) (.ret)), [.t 2]⟩
noncomputable def t_15 : List (Nat × Ctr) := [(40, c_14)]
theorem lk_15_40 : look t_15 40 = some c_14 := rfl
noncomputable def c_15 : Ctr := mkF t_15 ir69 [.bor]
theorem s_15 : Sound Tryz.prog 69 c_15 := mkF_sound _ rfl (snd_cons s_14 snd_nil) (by kernel_rfl : chkFn Tryz.prog 69 ir69 ir69_v = true)
theorem M_15 : c_15.modes = [.bor] := rfl
theorem Fl_15 : c_15.flat = true := rfl
attribute [go_sem] M_15 Fl_15
attribute [go_sem] lk_15_40
theorem Fs_15 {r : Rule} {y_ : Bool} (h : impl_ValidRules_c1 r = some y_) : c_15.F [Rule_av r] = ⟨true, .bool y_, [.any]⟩ := by
 refine mkF_E rfl ?_
 dsimp only [impl_ValidRules_c1] at h
 obtain ⟨y_1, z1, h⟩ := bd_some h
 have fz1 := Fs_14 z1
 try simp only [go_sem] at fz1
 obtain rfl := so_some h
 refine ⟨0, fun L hL => ?_⟩
 simp only [go_sem, ir69, fz1]


def ir70_b0 : IR := .seq (.region false [ VO 6 9 (.bin false .lss (.v 5) (.v 4))]) (.seq (.cond (.v 6) (.skip) (.exit 0)) (.seq (.block 1 (.seq (.region false [ PM 10 5, VS 3 5 0]) (.test false [ PM 11 1, PM 12 0, PM 13 3, PO 14 (.ixAddr 6 (.s 1) (.s 0)), PO 15 (.load true 6 (.s 0)), PO 16 (.callv (.s 4) [(.s 0)])] (.s 0) (.seq (.region false [ PM 17 3, VS 2 4 0]) (.ret)) (.skip)))) (.region false [ PO 18 (.bin false .add (.v 5) (I6 1)), VS 5 8 0])))
def ir70_k0 : List Bool := [true, true, false, false, true, true, false]
def ir70_o0 : List Bool := [false, false, false, false, false, false, false]
def ir70_r0 : List Bool := [false, false, true, false, false, false, false]
def ir70_v : List Nat := [0, 1, 4, 5, 7, 8, 9]
def ir70 : AFn := ⟨2, 7, .seq (.region false [ VO 2 4 (.mov (I6 0))]) (.seq (.seq (.region false [ PM 6 0, VO 4 7 (.len false (.s 0)), VO 5 8 (.mov (I6 0))]) (.block 0 (.loop ir70_k0 ir70_o0 ir70_r0 ir70_b0))) (.seq (.region false [ VO 2 4 (.mov (.c (.int .i64 (-1))))]) (.ret))), [.t 2]⟩
noncomputable def t_16 : List (Nat × Ctr) := [(69, c_15)]
theorem lk_16_69 : look t_16 69 = some c_15 := rfl
noncomputable def c_16 : Ctr := mkF t_16 ir70 [.bor, .bor]
theorem s_16 : Sound Tryz.prog 70 c_16 := mkF_sound _ rfl (snd_cons s_15 snd_nil) (by kernel_rfl : chkFn Tryz.prog 70 ir70 ir70_v = true)
theorem M_16 : c_16.modes = [.bor, .bor] := rfl
theorem Fl_16 : c_16.flat = true := rfl
attribute [go_sem] M_16 Fl_16
attribute [go_sem] lk_16_69
def E_16_l1 (s_ : List Rule) (t7 : Int) : Int → St
 | t8 => ⟨[.sl 6 (List.map Rule_av s_), .fn (.func 69) [] [], .any, .any, .int .i64 t7, .int .i64 t8, .any], [], [], true⟩
def R_16_l1 (s_ : List Rule) (t7 : Int) : (Unit ⊕ Int) → Res
 | .inl y => (.exit 0, ⟨[.any, .any, .any, .any, .any, .any, .any], [], [], true⟩)
 | .inr y => (.ret, ⟨[.any, .any, .int .i64 y, .any, .any, .any, .any], [], [], true⟩)
theorem slices_IndexFunc_impl_Rule_impl_Rule__impl_ValidRules_c1_l1_ex {s_ : List Rule} {t7 : Int} {sgm_ : Int} {rho_ : Unit ⊕ Int} (h : whileE (slices_IndexFunc_impl_Rule_impl_Rule__impl_ValidRules_c1_l1 s_ t7) sgm_ = some rho_) : ∃ L0, ∀ L, L0 ≤ L → iter (exec (look t_16) L ir70_b0) ir70_k0 ir70_o0 ir70_r0 L (E_16_l1 s_ t7 sgm_) = R_16_l1 s_ t7 rho_ := by
 refine loop_ex (E := E_16_l1 s_ t7) (R := R_16_l1 s_ t7) (fun y => by first | (intro c; cases c) | (rcases y with y | y <;> (intro c; cases c)) | (rcases y with y | y | y <;> (intro c; cases c))) ?_ h
 clear h
 intro t8 o_ h
 dsimp only [slices_IndexFunc_impl_Rule_impl_Rule__impl_ValidRules_c1_l1] at h
 rcases it_some h with ⟨z1, h⟩ | ⟨z1, h⟩
 ·try simp only [go_sem, n1, n2, n3, n4] at z1
  all_goals
  obtain ⟨z2, h⟩ := ck_some h
  have lz2 := ix_lt z2
  have xz2 := getD_mapD Rule_av s_ lz2
  try simp only [go_sem] at lz2
  try simp only [go_sem] at xz2
  try simp only [go_sem, n1, n2, n3, n4, z1] at z2
  all_goals
  obtain ⟨y_3, z3, h⟩ := bd_some h
  have fz3 := Fs_15 z3
  try simp only [go_sem, z1, z2] at fz3
  rcases it_some h with ⟨z4, h⟩ | ⟨z4, h⟩
  ·try simp only [go_sem, n1, n2, n3, n4, z1, z2] at z4
   all_goals
   obtain rfl := so_some h
   refine ⟨0, fun L hL => ?_⟩
   simp only [go_sem, ir70, E_16_l1, R_16_l1, ir70_b0, ir70_k0, ir70_o0, ir70_r0, z1, z2, lz2, xz2, fz3, z4]
  ·try simp only [go_sem, n1, n2, n3, n4, z1, z2] at z4
   all_goals
   obtain rfl := so_some h
   refine ⟨0, fun L hL => ?_⟩
   simp only [go_sem, ir70, E_16_l1, R_16_l1, ir70_b0, ir70_k0, ir70_o0, ir70_r0, z1, z2, lz2, xz2, fz3, z4]
 ·try simp only [go_sem, n1, n2, n3, n4] at z1
  all_goals
  obtain rfl := so_some h
  refine ⟨0, fun L hL => ?_⟩
  simp only [go_sem, ir70, E_16_l1, R_16_l1, ir70_b0, ir70_k0, ir70_o0, ir70_r0, z1]

theorem Fs_16 {s_ : List Rule} {y_ : Int} (h : slices_IndexFunc_impl_Rule_impl_Rule__impl_ValidRules_c1 s_ = some y_) : c_16.F [.sl 6 (List.map Rule_av s_), .fn (.func 69) [] []] = ⟨true, .int .i64 y_, [.any, .any]⟩ := by
 refine mkF_E rfl ?_
 dsimp only [slices_IndexFunc_impl_Rule_impl_Rule__impl_ValidRules_c1] at h
 obtain ⟨y_5, z5, h⟩ := bd_some h
 obtain ⟨Lz5, ez5⟩ := slices_IndexFunc_impl_Rule_impl_Rule__impl_ValidRules_c1_l1_ex z5
 rcases y_5 with y_5a | y_5b
 ·dsimp only at h
  obtain rfl := so_some h
  refine ⟨Lz5, fun L hL => ?_⟩
  have ez5 := ez5 L (by omega)
  try simp only [go_sem, E_16_l1, R_16_l1, ir70_k0, ir70_o0, ir70_r0] at ez5
  simp only [go_sem, ir70, E_16_l1, R_16_l1, ir70_k0, ir70_o0, ir70_r0, ez5]
 ·dsimp only at h
  obtain rfl := so_some h
  refine ⟨Lz5, fun L hL => ?_⟩
  have ez5 := ez5 L (by omega)
  try simp only [go_sem, E_16_l1, R_16_l1, ir70_k0, ir70_o0, ir70_r0] at ez5
  simp only [go_sem, ir70, E_16_l1, R_16_l1, ir70_k0, ir70_o0, ir70_r0, ez5]


def ir68_v : List Nat := [0, 1, 4]
def ir68 : AFn := ⟨2, 3, .seq (.region false [ VO 2 4 (.mov (.c (.bool false)))]) (.seq (.region false [ PM 5 0, PM 6 1, PO 7 (.call 70 [(.s 1), (.s 0)]), PO 8 (.bin false .geq (.s 0) (I6 0)), VS 2 4 0]) (.ret)), [.t 2]⟩
noncomputable def t_17 : List (Nat × Ctr) := [(70, c_16)]
theorem lk_17_70 : look t_17 70 = some c_16 := rfl
noncomputable def c_17 : Ctr := mkF t_17 ir68 [.bor, .bor]
theorem s_17 : Sound Tryz.prog 68 c_17 := mkF_sound _ rfl (snd_cons s_16 snd_nil) (by kernel_rfl : chkFn Tryz.prog 68 ir68 ir68_v = true)
theorem M_17 : c_17.modes = [.bor, .bor] := rfl
theorem Fl_17 : c_17.flat = true := rfl
attribute [go_sem] M_17 Fl_17
attribute [go_sem] lk_17_70
theorem Fs_17 {s_ : List Rule} {y_ : Bool} (h : slices_ContainsFunc_impl_Rule_impl_Rule__impl_ValidRules_c1 s_ = some y_) : c_17.F [.sl 6 (List.map Rule_av s_), .fn (.func 69) [] []] = ⟨true, .bool y_, [.any, .any]⟩ := by
 refine mkF_E rfl ?_
 dsimp only [slices_ContainsFunc_impl_Rule_impl_Rule__impl_ValidRules_c1] at h
 obtain ⟨y_1, z1, h⟩ := bd_some h
 have fz1 := Fs_16 z1
 try simp only [go_sem] at fz1
 obtain rfl := so_some h
 refine ⟨0, fun L hL => ?_⟩
 simp only [go_sem, ir68, fz1]


def ir26_v : List Nat := [0, 2]
def ir26 : AFn := ⟨1, 2, .seq (.region false [ VO 1 2 (.mov (.c (.bool false)))]) (.seq (.region false [ PM 3 0, PO 4 (.len false (.s 0)), PO 5 (.bin false .leq (.s 0) (I6 12)), PO 6 (.mov (.s 0)), ⟨.push, 7, (some ((.s 0), true)), .mov (.v 0)⟩, ⟨.push, 8, (some ((.s 1), true)), .call 68 [(.s 0), (.c (.fn (.func 69) [] []))]⟩, ⟨.push, 9, (some ((.s 2), true)), .un .not (.s 0)⟩, PO 10 (.pick (.s 3) (.s 0) (.c (.bool false))), VS 1 2 0]) (.ret)), [.t 1]⟩
noncomputable def t_18 : List (Nat × Ctr) := [(68, c_17)]
theorem lk_18_68 : look t_18 68 = some c_17 := rfl
noncomputable def c_18 : Ctr := mkF t_18 ir26 [.bor]
theorem s_18 : Sound Tryz.prog 26 c_18 := mkF_sound _ rfl (snd_cons s_17 snd_nil) (by kernel_rfl : chkFn Tryz.prog 26 ir26 ir26_v = true)
theorem M_18 : c_18.modes = [.bor] := rfl
theorem Fl_18 : c_18.flat = true := rfl
attribute [go_sem] M_18 Fl_18
attribute [go_sem] lk_18_68
theorem Fs_18 {list : List Rule} {y_ : Bool} (h : impl_ValidRules list = some y_) : c_18.F [.sl 6 (List.map Rule_av list)] = ⟨true, .bool y_, [.any]⟩ := by
 refine mkF_E rfl ?_
 dsimp only [impl_ValidRules] at h
 obtain ⟨z1, h⟩ := ck_some h
 rcases or_split z1 with ⟨gz1, z1⟩ | gz1
 ·try simp only [go_sem, n1, n2, n3, n4] at gz1
  all_goals
  obtain ⟨y_1, hz1⟩ := Option.isSome_iff_exists.1 z1
  have fz1 := Fs_17 hz1
  try simp only [go_sem, n1, n2, n3, n4, gz1] at hz1
  all_goals
  try simp only [go_sem, gz1] at fz1
  obtain rfl := so_some h
  refine ⟨0, fun L hL => ?_⟩
  simp only [go_sem, ir26, gz1, hz1, fz1]
 ·try simp only [go_sem, n1, n2, n3, n4] at gz1
  all_goals
  obtain rfl := so_some h
  refine ⟨0, fun L hL => ?_⟩
  simp only [go_sem, ir26, gz1]


def ir29_v : List Nat := [0, 1, 2]
def ir29 : AFn := ⟨1, 3, .seq (.region false [ VO 1 1 (.box (.v 0)), VO 2 2 (.mov (.c (.bool false)))]) (.seq (.region false [ PO 3 (.fldAddr 0 (.v 1)), PO 4 (.load false 1 (.s 0)), PO 5 (.call 44 [(.s 0), (I6 0), (I6 20000)]), PO 6 (.mov (.s 0)), ⟨.push, 7, (some ((.s 0), true)), .fldAddr 1 (.v 1)⟩, ⟨.push, 8, (some ((.s 1), true)), .load false 1 (.s 0)⟩, ⟨.push, 9, (some ((.s 2), true)), .call 44 [(.s 0), (I6 0), (I6 1000000)]⟩, PO 10 (.pick (.s 3) (.s 0) (.c (.bool false))), PO 11 (.mov (.s 0)), ⟨.push, 12, (some ((.s 0), true)), .fldAddr 2 (.v 1)⟩, ⟨.push, 13, (some ((.s 1), true)), .load
 false 1 (.s 0)⟩, ⟨.push, 14, (some ((.s 2), true)), .call 44 [(.s 0), (I6 1), (I6 3)]⟩, PO 15 (.pick (.s 3) (.s 0) (.c (.bool false))), VS 2 2 0]) (.ret)), [.t 2]⟩
noncomputable def t_19 : List (Nat × Ctr) := [(44, c_13)]
theorem lk_19_44 : look t_19 44 = some c_13 := rfl
noncomputable def c_19 : Ctr := mkF t_19 ir29 [.bor]
theorem s_19 : Sound Tryz.prog 29 c_19 := mkF_sound _ rfl (snd_cons s_13 snd_nil) (by kernel_rfl : chkFn Tryz.prog 29 ir29 ir29_v = true)
theorem M_19 : c_19.modes = [.bor] := rfl
theorem Fl_19 : c_19.flat = true := rfl
attribute [go_sem] M_19 Fl_19
attribute [go_sem] lk_19_44
theorem Fs_19 {f : Facts} {y_ : Bool} (h : impl_areFacts f = some y_) : c_19.F [Facts_av f] = ⟨true, .bool y_, [.any]⟩ := by
 refine mkF_E rfl ?_
 dsimp only [impl_areFacts] at h
 obtain ⟨y_1, z1, h⟩ := bd_some h
 have fz1 := Fs_13 z1
 try simp only [go_sem] at fz1
 obtain ⟨z2, h⟩ := ck_some h
 rcases or_split z2 with ⟨gz2, z2⟩ | gz2
 ·try simp only [go_sem, n1, n2, n3, n4] at gz2
  all_goals
  obtain ⟨y_2, hz2⟩ := Option.isSome_iff_exists.1 z2
  have fz2 := Fs_13 hz2
  try simp only [go_sem, n1, n2, n3, n4, gz2] at hz2
  all_goals
  try simp only [go_sem, gz2] at fz2
  obtain ⟨z3, h⟩ := ck_some h
  rcases or_split z3 with ⟨gz3, z3⟩ | gz3
  ·try simp only [go_sem, n1, n2, n3, n4, gz2, hz2] at gz3
   all_goals
   obtain ⟨y_3, hz3⟩ := Option.isSome_iff_exists.1 z3
   have fz3 := Fs_13 hz3
   try simp only [go_sem, n1, n2, n3, n4, gz2, hz2, gz3] at hz3
   all_goals
   try simp only [go_sem, gz2, hz2, gz3] at fz3
   obtain rfl := so_some h
   refine ⟨0, fun L hL => ?_⟩
   simp only [go_sem, ir29, fz1, gz2, hz2, fz2, gz3, hz3, fz3]
  ·rcases and_f gz3 with gz3a | ⟨gz3a, gz3b⟩
   ·try simp only [go_sem, n1, n2, n3, n4, gz2, hz2] at gz3a
    all_goals
    (simp_all)
   ·try simp only [go_sem, n1, n2, n3, n4, gz2, hz2] at gz3a
    all_goals
    try simp only [go_sem, n1, n2, n3, n4, gz2, hz2, gz3a] at gz3b
    all_goals
    obtain rfl := so_some h
    refine ⟨0, fun L hL => ?_⟩
    simp only [go_sem, ir29, fz1, gz2, hz2, fz2, gz3a, gz3b]
 ·try simp only [go_sem, n1, n2, n3, n4] at gz2
  all_goals
  obtain ⟨z3, h⟩ := ck_some h
  obtain rfl := so_some h
  refine ⟨0, fun L hL => ?_⟩
  simp only [go_sem, ir29, fz1, gz2]


def ir35_v : List Nat := [0, 1, 2, 3, 4]
def ir35 : AFn := ⟨2, 5, .seq (.region false [ VO 2 2 (.box (.v 0)), VO 3 3 (.box (.v 1)), VO 4 4 (.mov (.c (.bool false)))]) (.seq (.region false [ PO 5 (.fldAddr 0 (.v 3)), PO 6 (.load false 1 (.s 0)), PO 7 (.fldAddr 1 (.v 2)), PO 8 (.load false 1 (.s 0)), PO 9 (.fldAddr 2 (.v 2)), PO 10 (.load false 1 (.s 0)), PO 11 (.call 44 [(.s 4), (.s 2), (.s 0)]), PO 12 (.mov (.s 0)), ⟨.push, 13, (some ((.s 0), true)), .fldAddr 1 (.v 3)⟩, ⟨.push, 14, (some ((.s 1), true)), .load false 1 (.s 0)⟩, ⟨.push, 15, (some ((.s 2), true)), .fldAddr 3 (.v 2)⟩, ⟨.push, 16, (some ((.s 3), true)), .load false 1 (.s
 0)⟩, ⟨.push, 17, (some ((.s 4), true)), .fldAddr 4 (.v 2)⟩, ⟨.push, 18, (some ((.s 5), true)), .load false 1 (.s 0)⟩, ⟨.push, 19, (some ((.s 6), true)), .call 44 [(.s 4), (.s 2), (.s 0)]⟩, PO 20 (.pick (.s 7) (.s 0) (.c (.bool false))), PO 21 (.mov (.s 0)), ⟨.push, 22, (some ((.s 0), true)), .fldAddr 5 (.v 2)⟩, ⟨.push, 23, (some ((.s 1), true)), .load false 1 (.s 0)⟩, ⟨.push, 24, (some ((.s 2), true)), .bin false .eql (.s 0) (I6 0)⟩, ⟨.push, 25, (some ((.s 3), true)), .mov (.s 0)⟩, ⟨.push, 26, (some ((.s 0), false)), .fldAddr 5 (.v 2)⟩, ⟨.push, 27, (some ((.s 1), false)), .load false 1 (.s
 0)⟩, ⟨.push, 28, (some ((.s 2), false)), .fldAddr 2 (.v 3)⟩, ⟨.push, 29, (some ((.s 3), false)), .load false 1 (.s 0)⟩, ⟨.push, 30, (some ((.s 4), false)), .bin false .eql (.s 2) (.s 0)⟩, ⟨.push, 31, (some ((.s 9), true)), .pick (.s 5) (.c (.bool true)) (.s 0)⟩, PO 32 (.pick (.s 10) (.s 0) (.c (.bool false))), VS 4 4 0]) (.ret)), [.t 4]⟩
noncomputable def t_20 : List (Nat × Ctr) := [(44, c_13)]
theorem lk_20_44 : look t_20 44 = some c_13 := rfl
noncomputable def c_20 : Ctr := mkF t_20 ir35 [.bor, .bor]
theorem s_20 : Sound Tryz.prog 35 c_20 := mkF_sound _ rfl (snd_cons s_13 snd_nil) (by kernel_rfl : chkFn Tryz.prog 35 ir35 ir35_v = true)
theorem M_20 : c_20.modes = [.bor, .bor] := rfl
theorem Fl_20 : c_20.flat = true := rfl
attribute [go_sem] M_20 Fl_20
attribute [go_sem] lk_20_44
theorem Fs_20 {r : Rule} {f : Facts} {y_ : Bool} (h : impl_Rule_matches r f = some y_) : c_20.F [Rule_av r, Facts_av f] = ⟨true, .bool y_, [.any, .any]⟩ := by
 refine mkF_E rfl ?_
 dsimp only [impl_Rule_matches] at h
 obtain ⟨y_1, z1, h⟩ := bd_some h
 have fz1 := Fs_13 z1
 try simp only [go_sem] at fz1
 obtain ⟨z2, h⟩ := ck_some h
 rcases or_split z2 with ⟨gz2, z2⟩ | gz2
 ·try simp only [go_sem, n1, n2, n3, n4] at gz2
  all_goals
  obtain ⟨y_2, hz2⟩ := Option.isSome_iff_exists.1 z2
  have fz2 := Fs_13 hz2
  try simp only [go_sem, n1, n2, n3, n4, gz2] at hz2
  all_goals
  try simp only [go_sem, gz2] at fz2
  obtain rfl := so_some h
  refine ⟨0, fun L hL => ?_⟩
  simp only [go_sem, ir35, fz1, gz2, hz2, fz2]
 ·try simp only [go_sem, n1, n2, n3, n4] at gz2
  all_goals
  obtain rfl := so_some h
  refine ⟨0, fun L hL => ?_⟩
  simp only [go_sem, ir35, fz1, gz2]


def ir71_v : List Nat := [0, 1, 2, 3]
def ir71 : AFn := ⟨2, 4, .seq (.region false [ VO 2 2 (.box (.v 0)), VO 3 3 (.mov (.c (.bool false)))]) (.seq (.region false [ PO 4 (.load true 6 (.v 2)), PO 5 (.load true 3 (.v 1)), PO 6 (.call 35 [(.s 1), (.s 0)]), VS 3 3 0]) (.ret)), [.t 3]⟩
noncomputable def t_21 : List (Nat × Ctr) := [(35, c_20)]
theorem lk_21_35 : look t_21 35 = some c_20 := rfl
noncomputable def c_21 : Ctr := mkF t_21 ir71 [.bor, .bor]
theorem s_21 : Sound Tryz.prog 71 c_21 := mkF_sound _ rfl (snd_cons s_20 snd_nil) (by kernel_rfl : chkFn Tryz.prog 71 ir71 ir71_v = true)
theorem M_21 : c_21.modes = [.bor, .bor] := rfl
theorem Fl_21 : c_21.flat = true := rfl
attribute [go_sem] M_21 Fl_21
attribute [go_sem] lk_21_35
theorem Fs_21 {r : Rule} {t1 : Facts} {y_ : Bool} (h : impl_first_c1 r t1 = some y_) : c_21.F [Rule_av r, .ptr 3 [Facts_av t1] 0 0] = ⟨true, .bool y_, [.any, .any]⟩ := by
 refine mkF_E rfl ?_
 dsimp only [impl_first_c1] at h
 obtain ⟨y_1, z1, h⟩ := bd_some h
 have fz1 := Fs_20 z1
 try simp only [go_sem] at fz1
 obtain rfl := so_some h
 refine ⟨0, fun L hL => ?_⟩
 simp only [go_sem, ir71, fz1]


noncomputable def t_22 : List (Nat × Ctr) := [(71, c_21)]
theorem lk_22_71 : look t_22 71 = some c_21 := rfl
noncomputable def c_22 : Ctr := mkF t_22 ir70 [.bor, .bor]
theorem s_22 : Sound Tryz.prog 70 c_22 := mkF_sound _ rfl (snd_cons s_21 snd_nil) (by kernel_rfl : chkFn Tryz.prog 70 ir70 ir70_v = true)
theorem M_22 : c_22.modes = [.bor, .bor] := rfl
theorem Fl_22 : c_22.flat = true := rfl
attribute [go_sem] M_22 Fl_22
attribute [go_sem] lk_22_71
def E_22_l1 (s_ : List Rule) (c : Facts) (t7 : Int) : Int → St
 | t8 => ⟨[.sl 6 (List.map Rule_av s_), .fn (.func 71) [] [.ptr 3 [Facts_av c] 0 0], .any, .any, .int .i64 t7, .int .i64 t8, .any], [], [], true⟩
def R_22_l1 (s_ : List Rule) (c : Facts) (t7 : Int) : (Unit ⊕ Int) → Res
 | .inl y => (.exit 0, ⟨[.any, .any, .any, .any, .any, .any, .any], [], [], true⟩)
 | .inr y => (.ret, ⟨[.any, .any, .int .i64 y, .any, .any, .any, .any], [], [], true⟩)
theorem slices_IndexFunc_impl_Rule_impl_Rule__impl_first_c1_l1_ex {s_ : List Rule} {c : Facts} {t7 : Int} {sgm_ : Int} {rho_ : Unit ⊕ Int} (h : whileE (slices_IndexFunc_impl_Rule_impl_Rule__impl_first_c1_l1 s_ c t7) sgm_ = some rho_) : ∃ L0, ∀ L, L0 ≤ L → iter (exec (look t_22) L ir70_b0) ir70_k0 ir70_o0 ir70_r0 L (E_22_l1 s_ c t7 sgm_) = R_22_l1 s_ c t7 rho_ := by
 refine loop_ex (E := E_22_l1 s_ c t7) (R := R_22_l1 s_ c t7) (fun y => by first | (intro c; cases c) | (rcases y with y | y <;> (intro c; cases c)) | (rcases y with y | y | y <;> (intro c; cases c))) ?_ h
 clear h
 intro t8 o_ h
 dsimp only [slices_IndexFunc_impl_Rule_impl_Rule__impl_first_c1_l1] at h
 rcases it_some h with ⟨z1, h⟩ | ⟨z1, h⟩
 ·try simp only [go_sem, n1, n2, n3, n4] at z1
  all_goals
  obtain ⟨z2, h⟩ := ck_some h
  have lz2 := ix_lt z2
  have xz2 := getD_mapD Rule_av s_ lz2
  try simp only [go_sem] at lz2
  try simp only [go_sem] at xz2
  try simp only [go_sem, n1, n2, n3, n4, z1] at z2
  all_goals
  obtain ⟨y_3, z3, h⟩ := bd_some h
  have fz3 := Fs_21 z3
  try simp only [go_sem, z1, z2] at fz3
  rcases it_some h with ⟨z4, h⟩ | ⟨z4, h⟩
  ·try simp only [go_sem, n1, n2, n3, n4, z1, z2] at z4
   all_goals
   obtain rfl := so_some h
   refine ⟨0, fun L hL => ?_⟩
   simp only [go_sem, ir70, E_22_l1, R_22_l1, ir70_b0, ir70_k0, ir70_o0, ir70_r0, z1, z2, lz2, xz2, fz3, z4]
  ·try simp only [go_sem, n1, n2, n3, n4, z1, z2] at z4
   all_goals
   obtain rfl := so_some h
   refine ⟨0, fun L hL => ?_⟩
   simp only [go_sem, ir70, E_22_l1, R_22_l1, ir70_b0, ir70_k0, ir70_o0, ir70_r0, z1, z2, lz2, xz2, fz3, z4]
 ·try simp only [go_sem, n1, n2, n3, n4] at z1
  all_goals
  obtain rfl := so_some h
  refine ⟨0, fun L hL => ?_⟩
  simp only [go_sem, ir70, E_22_l1, R_22_l1, ir70_b0, ir70_k0, ir70_o0, ir70_r0, z1]

theorem Fs_22 {s_ : List Rule} {f_c0 : Facts} {y_ : Int} (h : slices_IndexFunc_impl_Rule_impl_Rule__impl_first_c1 s_ f_c0 = some y_) : c_22.F [.sl 6 (List.map Rule_av s_), .fn (.func 71) [] [.ptr 3 [Facts_av f_c0] 0 0]] = ⟨true, .int .i64 y_, [.any, .any]⟩ := by
 refine mkF_E rfl ?_
 dsimp only [slices_IndexFunc_impl_Rule_impl_Rule__impl_first_c1] at h
 obtain ⟨y_5, z5, h⟩ := bd_some h
 obtain ⟨Lz5, ez5⟩ := slices_IndexFunc_impl_Rule_impl_Rule__impl_first_c1_l1_ex z5
 rcases y_5 with y_5a | y_5b
 ·dsimp only at h
  obtain rfl := so_some h
  refine ⟨Lz5, fun L hL => ?_⟩
  have ez5 := ez5 L (by omega)
  try simp only [go_sem, E_22_l1, R_22_l1, ir70_k0, ir70_o0, ir70_r0] at ez5
  simp only [go_sem, ir70, E_22_l1, R_22_l1, ir70_k0, ir70_o0, ir70_r0, ez5]
 ·dsimp only at h
  obtain rfl := so_some h
  refine ⟨Lz5, fun L hL => ?_⟩
  have ez5 := ez5 L (by omega)
  try simp only [go_sem, E_22_l1, R_22_l1, ir70_k0, ir70_o0, ir70_r0] at ez5
  simp only [go_sem, ir70, E_22_l1, R_22_l1, ir70_k0, ir70_o0, ir70_r0, ez5]


def ir30_v : List Nat := [0, 1, 3, 4]
def ir30 : AFn := ⟨2, 4, .seq (.region false [ VO 2 3 (.box (.v 1)), VO 3 4 (.mov (I6 0))]) (.seq (.region false [ PM 5 0, PO 6 (.mkFn (.func 71) [] [(.v 2)]), PO 7 (.call 70 [(.s 1), (.s 0)]), VS 3 4 0]) (.ret)), [.t 3]⟩
noncomputable def t_23 : List (Nat × Ctr) := [(70, c_22)]
theorem lk_23_70 : look t_23 70 = some c_22 := rfl
noncomputable def c_23 : Ctr := mkF t_23 ir30 [.bor, .bor]
theorem s_23 : Sound Tryz.prog 30 c_23 := mkF_sound _ rfl (snd_cons s_22 snd_nil) (by kernel_rfl : chkFn Tryz.prog 30 ir30 ir30_v = true)
theorem M_23 : c_23.modes = [.bor, .bor] := rfl
theorem Fl_23 : c_23.flat = true := rfl
attribute [go_sem] M_23 Fl_23
attribute [go_sem] lk_23_70
theorem Fs_23 {list : List Rule} {f : Facts} {y_ : Int} (h : impl_first list f = some y_) : c_23.F [.sl 6 (List.map Rule_av list), Facts_av f] = ⟨true, .int .i64 y_, [.any, .any]⟩ := by
 refine mkF_E rfl ?_
 dsimp only [impl_first] at h
 obtain ⟨y_1, z1, h⟩ := bd_some h
 have fz1 := Fs_22 z1
 try simp only [go_sem] at fz1
 obtain rfl := so_some h
 refine ⟨0, fun L hL => ?_⟩
 simp only [go_sem, ir30, fz1]


def ir6_v : List Nat := [0, 1, 3, 4, 5, 6]
def ir6 : AFn := ⟨2, 6, .seq (.region false [ VO 2 3 (.box (.v 1)), VO 3 4 (.mov (.c (.str []))), VO 4 5 (.mov (I6 0))]) (.seq (.block 0 (.test false [ PM 8 0, PO 9 (.call 26 [(.s 0)]), PO 10 (.un .not (.s 0)), PO 7 (.mov (.s 0))] (.s 0) (.seq (.region false [ VO 3 4 (.mov (.c (.str []))), VO 4 5 (.mov (I6 1))]) (.ret)) (.test false [ PO 12 (.load true 3 (.v 2)), PO 13 (.call 29 [(.s 0)]), PO 14 (.un .not (.s 0)), PO 11 (.mov (.s 0))] (.s 0) (.seq (.region false [ VO 3 4 (.mov (.c (.str []))), VO 4 5 (.mov (I6 2))]) (.ret)) (.skip)))) (.seq (.region false [ PM 15 0, PO 16 (.load true 3 (.v 2)),
 PO 17 (.call 30 [(.s 1), (.s 0)]), VS 5 6 0]) (.seq (.test false [ PM 18 5, PO 19 (.bin false .lss (.s 0) (I6 0))] (.s 0) (.seq (.region false [ VO 3 4 (.mov (.c (.str []))), VO 4 5 (.mov (I6 3))]) (.ret)) (.skip)) (.seq (.region false [ PM 20 0, PM 21 5, PO 22 (.ixAddr 6 (.s 1) (.s 0)), PO 23 (.fldAddr 0 (.s 0)), PO 24 (.load false 1 (.s 0)), VS 3 4 0, VO 4 5 (.mov (I6 0))]) (.ret))))), [.t 3, .t 4]⟩
noncomputable def t_24 : List (Nat × Ctr) := [(26, c_18), (29, c_19), (30, c_23)]
theorem lk_24_26 : look t_24 26 = some c_18 := rfl
theorem lk_24_29 : look t_24 29 = some c_19 := rfl
theorem lk_24_30 : look t_24 30 = some c_23 := rfl
noncomputable def c_24 : Ctr := mkF t_24 ir6 [.bor, .bor]
theorem s_24 : Sound Tryz.prog 6 c_24 := mkF_sound _ rfl (snd_cons s_18 (snd_cons s_19 (snd_cons s_23 snd_nil))) (by kernel_rfl : chkFn Tryz.prog 6 ir6 ir6_v = true)
theorem M_24 : c_24.modes = [.bor, .bor] := rfl
theorem Fl_24 : c_24.flat = true := rfl
attribute [go_sem] M_24 Fl_24
attribute [go_sem] lk_24_26 lk_24_29 lk_24_30
theorem Fs_24 {list : List Rule} {f : Facts} {y_ : (List UInt8) × Int} (h : impl_ClassOf list f = some y_) : c_24.F [.sl 6 (List.map Rule_av list), Facts_av f] = ⟨true, .tup [.str y_.1, .int .i64 y_.2], [.any, .any]⟩ := by
 refine mkF_E rfl ?_
 dsimp only [impl_ClassOf] at h
 obtain ⟨y_1, z1, h⟩ := bd_some h
 have fz1 := Fs_18 z1
 try simp only [go_sem] at fz1
 rcases it_some h with ⟨z2, h⟩ | ⟨z2, h⟩
 ·try simp only [go_sem, n1, n2, n3, n4] at z2
  all_goals
  obtain rfl := so_some h
  refine ⟨0, fun L hL => ?_⟩
  simp only [go_sem, ir6, fz1, z2]
 ·try simp only [go_sem, n1, n2, n3, n4] at z2
  all_goals
  obtain ⟨y_3, z3, h⟩ := bd_some h
  have fz3 := Fs_19 z3
  try simp only [go_sem, z2] at fz3
  rcases it_some h with ⟨z4, h⟩ | ⟨z4, h⟩
  ·try simp only [go_sem, n1, n2, n3, n4, z2] at z4
   all_goals
   obtain rfl := so_some h
   refine ⟨0, fun L hL => ?_⟩
   simp only [go_sem, ir6, fz1, z2, fz3, z4]
  ·try simp only [go_sem, n1, n2, n3, n4, z2] at z4
   all_goals
   obtain ⟨y_5, z5, h⟩ := bd_some h
   have fz5 := Fs_23 z5
   try simp only [go_sem, z2, z4] at fz5
   rcases it_some h with ⟨z6, h⟩ | ⟨z6, h⟩
   ·try simp only [go_sem, n1, n2, n3, n4, z2, z4] at z6
    all_goals
    obtain rfl := so_some h
    refine ⟨0, fun L hL => ?_⟩
    simp only [go_sem, ir6, fz1, z2, fz3, z4, fz5, z6]
   ·try simp only [go_sem, n1, n2, n3, n4, z2, z4] at z6
    all_goals
    obtain ⟨z7, h⟩ := ck_some h
    have lz7 := ix_lt z7
    have xz7 := getD_mapD Rule_av list lz7
    try simp only [go_sem] at lz7
    try simp only [go_sem] at xz7
    try simp only [go_sem, n1, n2, n3, n4, z2, z4, z6] at z7
    all_goals
    obtain rfl := so_some h
    refine ⟨0, fun L hL => ?_⟩
    simp only [go_sem, ir6, fz1, z2, fz3, z4, fz5, z6, z7, lz7, xz7]


def ir50_v : List Nat := [0, 1, 2, 6]
def ir50 : AFn := ⟨3, 4, .seq (.region false [ VO 3 6 (.mov (.c (.bool false)))]) (.seq (.region false [ PM 7 0, PM 8 1, PO 9 (.bin false .geq (.s 1) (.s 0)), PO 10 (.mov (.s 0)), ⟨.push, 11, (some ((.s 0), true)), .mov (.v 0)⟩, ⟨.push, 12, (some ((.s 1), true)), .mov (.v 2)⟩, ⟨.push, 13, (some ((.s 2), true)), .bin false .leq (.s 1) (.s 0)⟩, PO 14 (.pick (.s 3) (.s 0) (.c (.bool false))), VS 3 6 0]) (.ret)), [.t 3]⟩
noncomputable def t_25 : List (Nat × Ctr) := []
noncomputable def c_25 : Ctr := mkF t_25 ir50 [.bor, .bor, .bor]
theorem s_25 : Sound Tryz.prog 50 c_25 := mkF_sound _ rfl snd_nil (by kernel_rfl : chkFn Tryz.prog 50 ir50 ir50_v = true)
theorem M_25 : c_25.modes = [.bor, .bor, .bor] := rfl
theorem Fl_25 : c_25.flat = true := rfl
attribute [go_sem] M_25 Fl_25
theorem Fs_25 {n : Int} {low : Int} {high : Int} {y_ : Bool} (h : spec_l00In n low high = some y_) : c_25.F [.int .i64 n, .int .i64 low, .int .i64 high] = ⟨true, .bool y_, [.any, .any, .any]⟩ := by
 refine mkF_E rfl ?_
 dsimp only [spec_l00In] at h
 obtain rfl := so_some h
 refine ⟨0, fun L hL => ?_⟩
 simp only [go_sem, ir50]


def ir90_v : List Nat := [0, 2]
def ir90 : AFn := ⟨1, 2, .seq (.region false [ VO 1 2 (.mov (.c (.bool false)))]) (.seq (.region false [ PM 3 0, PO 4 (.bin false .geq (.s 0) (.c (.int .u8 (97)))), PO 5 (.mov (.s 0)), ⟨.push, 6, (some ((.s 0), true)), .mov (.v 0)⟩, ⟨.push, 7, (some ((.s 1), true)), .bin false .leq (.s 0) (.c (.int .u8 (122)))⟩, PO 8 (.pick (.s 2) (.s 0) (.c (.bool false))), VS 1 2 0]) (.ret)), [.t 1]⟩
noncomputable def t_26 : List (Nat × Ctr) := []
noncomputable def c_26 : Ctr := mkF t_26 ir90 [.bor]
theorem s_26 : Sound Tryz.prog 90 c_26 := mkF_sound _ rfl snd_nil (by kernel_rfl : chkFn Tryz.prog 90 ir90 ir90_v = true)
theorem M_26 : c_26.modes = [.bor] := rfl
theorem Fl_26 : c_26.flat = true := rfl
attribute [go_sem] M_26 Fl_26
theorem Fs_26 {c : UInt8} {y_ : Bool} (h : spec_l01Small c = some y_) : c_26.F [.int .u8 (c.toNat : Int)] = ⟨true, .bool y_, [.any]⟩ := by
 refine mkF_E rfl ?_
 dsimp only [spec_l01Small] at h
 obtain rfl := so_some h
 refine ⟨0, fun L hL => ?_⟩
 simp only [go_sem, ir90]


def ir91_v : List Nat := [0, 2]
def ir91 : AFn := ⟨1, 2, .seq (.region false [ VO 1 2 (.mov (.c (.bool false)))]) (.seq (.region false [ PM 3 0, PO 4 (.bin false .geq (.s 0) (.c (.int .u8 (48)))), PO 5 (.mov (.s 0)), ⟨.push, 6, (some ((.s 0), true)), .mov (.v 0)⟩, ⟨.push, 7, (some ((.s 1), true)), .bin false .leq (.s 0) (.c (.int .u8 (57)))⟩, PO 8 (.pick (.s 2) (.s 0) (.c (.bool false))), VS 1 2 0]) (.ret)), [.t 1]⟩
noncomputable def t_27 : List (Nat × Ctr) := []
noncomputable def c_27 : Ctr := mkF t_27 ir91 [.bor]
theorem s_27 : Sound Tryz.prog 91 c_27 := mkF_sound _ rfl snd_nil (by kernel_rfl : chkFn Tryz.prog 91 ir91 ir91_v = true)
theorem M_27 : c_27.modes = [.bor] := rfl
theorem Fl_27 : c_27.flat = true := rfl
attribute [go_sem] M_27 Fl_27
theorem Fs_27 {c : UInt8} {y_ : Bool} (h : spec_l01Digit c = some y_) : c_27.F [.int .u8 (c.toNat : Int)] = ⟨true, .bool y_, [.any]⟩ := by
 refine mkF_E rfl ?_
 dsimp only [spec_l01Digit] at h
 obtain rfl := so_some h
 refine ⟨0, fun L hL => ?_⟩
 simp only [go_sem, ir91]


def ir74_b0 : IR := .seq (.test false [ PM 17 2, PM 18 0, PO 19 (.len true (.s 0)), PO 20 (.bin false .lss (.s 2) (.s 0))] (.s 0) (.skip) (.exit 0)) (.seq (.block 1 (.test false [ PM 23 0, PM 24 2, PO 25 (.ixStr (.s 1) (.s 0)), PO 26 (.call 90 [(.s 0)]), PO 27 (.un .not (.s 0)), PO 28 (.mov (.s 0)), ⟨.push, 29, (some ((.s 0), true)), .mov (.v 0)⟩, ⟨.push, 30, (some ((.s 1), true)), .mov (.v 2)⟩, ⟨.push, 31, (some ((.s 2), true)), .ixStr (.s 1) (.s 0)⟩, ⟨.push, 32, (some ((.s 3), true)), .call 91 [(.s 0)]⟩, ⟨.push, 33, (some ((.s 4), true)), .un .not (.s 0)⟩, PO 34 (.pick (.s 5) (.s 0) (.c
 (.bool false))), PO 35 (.mov (.s 0)), ⟨.push, 36, (some ((.s 0), true)), .mov (.v 0)⟩, ⟨.push, 37, (some ((.s 1), true)), .mov (.v 2)⟩, ⟨.push, 38, (some ((.s 2), true)), .ixStr (.s 1) (.s 0)⟩, ⟨.push, 39, (some ((.s 3), true)), .bin false .neq (.s 0) (.c (.int .u8 (45)))⟩, PO 40 (.pick (.s 4) (.s 0) (.c (.bool false)))] (.s 0) (.seq (.region false [ VO 1 2 (.mov (.c (.bool false)))]) (.ret)) (.skip))) (.region false [ PM 21 2, PO 22 (.bin false .add (.s 0) (I6 1)), VS 2 3 0]))
def ir74_k0 : List Bool := [true, false, true]
def ir74_o0 : List Bool := [false, false, false]
def ir74_r0 : List Bool := [false, true, false]
def ir74_v : List Nat := [0, 2, 3]
def ir74 : AFn := ⟨1, 3, .seq (.region false [ VO 1 2 (.mov (.c (.bool false)))]) (.seq (.test false [ PM 4 0, PO 5 (.bin false .eql (.s 0) (.c (.str []))), PO 6 (.mov (.s 0)), ⟨.push, 7, (some ((.s 0), false)), .mov (.v 0)⟩, ⟨.push, 8, (some ((.s 1), false)), .len true (.s 0)⟩, ⟨.push, 9, (some ((.s 2), false)), .bin false .gtr (.s 0) (I6 12)⟩, PO 10 (.pick (.s 3) (.c (.bool true)) (.s 0)), PO 11 (.mov (.s 0)), ⟨.push, 12, (some ((.s 0), false)), .mov (.v 0)⟩, ⟨.push, 13, (some ((.s 1), false)), .ixStr (.s 0) (I6 0)⟩, ⟨.push, 14, (some ((.s 2), false)), .call 90 [(.s 0)]⟩, ⟨.push, 15, (some
 ((.s 3), false)), .un .not (.s 0)⟩, PO 16 (.pick (.s 4) (.c (.bool true)) (.s 0))] (.s 0) (.seq (.region false [ VO 1 2 (.mov (.c (.bool false)))]) (.ret)) (.skip)) (.seq (.seq (.region false [ VO 2 3 (.mov (I6 0))]) (.block 0 (.loop ir74_k0 ir74_o0 ir74_r0 ir74_b0))) (.seq (.region false [ VO 1 2 (.mov (.c (.bool true)))]) (.ret)))), [.t 1]⟩
noncomputable def t_28 : List (Nat × Ctr) := [(90, c_26), (91, c_27)]
theorem lk_28_90 : look t_28 90 = some c_26 := rfl
theorem lk_28_91 : look t_28 91 = some c_27 := rfl
noncomputable def c_28 : Ctr := mkF t_28 ir74 [.bor]
theorem s_28 : Sound Tryz.prog 74 c_28 := mkF_sound _ rfl (snd_cons s_26 (snd_cons s_27 snd_nil)) (by kernel_rfl : chkFn Tryz.prog 74 ir74 ir74_v = true)
theorem M_28 : c_28.modes = [.bor] := rfl
theorem Fl_28 : c_28.flat = true := rfl
attribute [go_sem] M_28 Fl_28
attribute [go_sem] lk_28_90 lk_28_91
def E_28_l1 (s_ : List UInt8) : Int → St
 | i => ⟨[.str s_, .any, .int .i64 i], [], [], true⟩
def R_28_l1 (s_ : List UInt8) : (Unit ⊕ Bool) → Res
 | .inl y => (.exit 0, ⟨[.any, .any, .any], [], [], true⟩)
 | .inr y => (.ret, ⟨[.any, .bool y, .any], [], [], true⟩)
theorem spec_IsName_l1_ex {s_ : List UInt8} {sgm_ : Int} {rho_ : Unit ⊕ Bool} (h : whileE (spec_IsName_l1 s_) sgm_ = some rho_) : ∃ L0, ∀ L, L0 ≤ L → iter (exec (look t_28) L ir74_b0) ir74_k0 ir74_o0 ir74_r0 L (E_28_l1 s_ sgm_) = R_28_l1 s_ rho_ := by
 refine loop_ex (E := E_28_l1 s_) (R := R_28_l1 s_) (fun y => by first | (intro c; cases c) | (rcases y with y | y <;> (intro c; cases c)) | (rcases y with y | y | y <;> (intro c; cases c))) ?_ h
 clear h
 intro i o_ h
 dsimp only [spec_IsName_l1] at h
 rcases it_some h with ⟨z4, h⟩ | ⟨z4, h⟩
 ·try simp only [go_sem, n1, n2, n3, n4] at z4
  all_goals
  obtain ⟨z5, h⟩ := ck_some h
  try simp only [go_sem, n1, n2, n3, n4, z4] at z5
  all_goals
  obtain ⟨y_6, z6, h⟩ := bd_some h
  have fz6 := Fs_26 z6
  try simp only [go_sem, z4, z5] at fz6
  obtain ⟨z7, h⟩ := ck_some h
  rcases or_split z7 with ⟨gz7, z7⟩ | gz7
  ·try simp only [go_sem, n1, n2, n3, n4, z4, z5] at gz7
   all_goals
   obtain ⟨y_7, hz7⟩ := Option.isSome_iff_exists.1 z7
   have fz7 := Fs_27 hz7
   try simp only [go_sem, n1, n2, n3, n4, z4, z5, gz7] at hz7
   all_goals
   try simp only [go_sem, z4, z5, gz7] at fz7
   rcases it_some h with ⟨z8, h⟩ | ⟨z8, h⟩
   ·try simp only [go_sem, n1, n2, n3, n4, z4, z5, gz7, hz7] at z8
    all_goals
    obtain rfl := so_some h
    refine ⟨0, fun L hL => ?_⟩
    simp only [go_sem, ir74, E_28_l1, R_28_l1, ir74_b0, ir74_k0, ir74_o0, ir74_r0, z4, z5, fz6, gz7, hz7, fz7, z8]
   ·try simp only [go_sem, n1, n2, n3, n4, z4, z5, gz7, hz7] at z8
    all_goals
    obtain rfl := so_some h
    refine ⟨0, fun L hL => ?_⟩
    simp only [go_sem, ir74, E_28_l1, R_28_l1, ir74_b0, ir74_k0, ir74_o0, ir74_r0, z4, z5, fz6, gz7, hz7, fz7, z8]
  ·have gz7n := no_f gz7
   try simp only [go_sem, n1, n2, n3, n4, z4, z5] at gz7n
   all_goals
   rcases it_some h with ⟨z8, h⟩ | ⟨z8, h⟩
   ·try simp only [go_sem, n1, n2, n3, n4, z4, z5, gz7n] at z8
    all_goals
    (simp_all)
   ·try simp only [go_sem, n1, n2, n3, n4, z4, z5, gz7n] at z8
    all_goals
    obtain rfl := so_some h
    refine ⟨0, fun L hL => ?_⟩
    simp only [go_sem, ir74, E_28_l1, R_28_l1, ir74_b0, ir74_k0, ir74_o0, ir74_r0, z4, z5, fz6, gz7n, z8]
 ·try simp only [go_sem, n1, n2, n3, n4] at z4
  all_goals
  obtain rfl := so_some h
  refine ⟨0, fun L hL => ?_⟩
  simp only [go_sem, ir74, E_28_l1, R_28_l1, ir74_b0, ir74_k0, ir74_o0, ir74_r0, z4]

theorem Fs_28 {s_ : List UInt8} {y_ : Bool} (h : spec_IsName s_ = some y_) : c_28.F [.str s_] = ⟨true, .bool y_, [.any]⟩ := by
 refine mkF_E rfl ?_
 dsimp only [spec_IsName] at h
 obtain ⟨z1, h⟩ := ck_some h
 rcases or_split z1 with ⟨gz1, z1⟩ | gz1
 ·try simp only [go_sem, n1, n2, n3, n4] at gz1
  all_goals
  try simp only [go_sem, n1, n2, n3, n4, gz1] at z1
  all_goals
  obtain ⟨z2, h⟩ := ck_some h
  rcases or_split z2 with ⟨gz2, z2⟩ | gz2
  ·try simp only [go_sem, n1, n2, n3, n4, gz1, z1] at gz2
   all_goals
   obtain ⟨y_2, hz2⟩ := Option.isSome_iff_exists.1 z2
   have fz2 := Fs_26 hz2
   try simp only [go_sem, n1, n2, n3, n4, gz1, z1, gz2] at hz2
   all_goals
   try simp only [go_sem, gz1, z1, gz2] at fz2
   rcases it_some h with ⟨z3, h⟩ | ⟨z3, h⟩
   ·try simp only [go_sem, n1, n2, n3, n4, gz1, z1, gz2, hz2] at z3
    all_goals
    obtain rfl := so_some h
    refine ⟨0, fun L hL => ?_⟩
    simp only [go_sem, ir74, E_28_l1, R_28_l1, ir74_k0, ir74_o0, ir74_r0, gz1, z1, gz2, hz2, fz2, z3]
   ·try simp only [go_sem, n1, n2, n3, n4, gz1, z1, gz2, hz2] at z3
    all_goals
    obtain ⟨y_9, z9, h⟩ := bd_some h
    obtain ⟨Lz9, ez9⟩ := spec_IsName_l1_ex z9
    rcases y_9 with y_9a | y_9b
    ·dsimp only at h
     obtain rfl := so_some h
     refine ⟨Lz9, fun L hL => ?_⟩
     have ez9 := ez9 L (by omega)
     try simp only [go_sem, E_28_l1, R_28_l1, ir74_k0, ir74_o0, ir74_r0, gz1, z1, gz2, hz2, z3] at ez9
     simp only [go_sem, ir74, E_28_l1, R_28_l1, ir74_k0, ir74_o0, ir74_r0, gz1, z1, gz2, hz2, fz2, z3, ez9]
    ·dsimp only at h
     obtain rfl := so_some h
     refine ⟨Lz9, fun L hL => ?_⟩
     have ez9 := ez9 L (by omega)
     try simp only [go_sem, E_28_l1, R_28_l1, ir74_k0, ir74_o0, ir74_r0, gz1, z1, gz2, hz2, z3] at ez9
     simp only [go_sem, ir74, E_28_l1, R_28_l1, ir74_k0, ir74_o0, ir74_r0, gz1, z1, gz2, hz2, fz2, z3, ez9]
  ·have gz2n := no_f gz2
   rcases or_t gz2n with gz2na | ⟨gz2na, gz2nb⟩
   ·try simp only [go_sem, n1, n2, n3, n4, gz1, z1] at gz2na
    all_goals
    (simp_all)
   ·try simp only [go_sem, n1, n2, n3, n4, gz1, z1] at gz2na
    all_goals
    try simp only [go_sem, n1, n2, n3, n4, gz1, z1, gz2na] at gz2nb
    all_goals
    rcases it_some h with ⟨z3, h⟩ | ⟨z3, h⟩
    ·try simp only [go_sem, n1, n2, n3, n4, gz1, z1, gz2na, gz2nb] at z3
     all_goals
     obtain rfl := so_some h
     refine ⟨0, fun L hL => ?_⟩
     simp only [go_sem, ir74, E_28_l1, R_28_l1, ir74_k0, ir74_o0, ir74_r0, gz1, z1, gz2na, gz2nb, z3]
    ·try simp only [go_sem, n1, n2, n3, n4, gz1, z1, gz2na, gz2nb] at z3
     all_goals
     obtain ⟨y_9, z9, h⟩ := bd_some h
     obtain ⟨Lz9, ez9⟩ := spec_IsName_l1_ex z9
     rcases y_9 with y_9a | y_9b
     ·dsimp only at h
      obtain rfl := so_some h
      refine ⟨Lz9, fun L hL => ?_⟩
      have ez9 := ez9 L (by omega)
      try simp only [go_sem, E_28_l1, R_28_l1, ir74_k0, ir74_o0, ir74_r0, gz1, z1, gz2na, gz2nb, z3] at ez9
      simp only [go_sem, ir74, E_28_l1, R_28_l1, ir74_k0, ir74_o0, ir74_r0, gz1, z1, gz2na, gz2nb, z3, ez9]
     ·dsimp only at h
      obtain rfl := so_some h
      refine ⟨Lz9, fun L hL => ?_⟩
      have ez9 := ez9 L (by omega)
      try simp only [go_sem, E_28_l1, R_28_l1, ir74_k0, ir74_o0, ir74_r0, gz1, z1, gz2na, gz2nb, z3] at ez9
      simp only [go_sem, ir74, E_28_l1, R_28_l1, ir74_k0, ir74_o0, ir74_r0, gz1, z1, gz2na, gz2nb, z3, ez9]
 ·have gz1n := no_f gz1
  rcases or_t gz1n with gz1na | ⟨gz1na, gz1nb⟩
  ·try simp only [go_sem, n1, n2, n3, n4] at gz1na
   all_goals
   obtain ⟨z2, h⟩ := ck_some h
   rcases it_some h with ⟨z3, h⟩ | ⟨z3, h⟩
   ·try simp only [go_sem, n1, n2, n3, n4, gz1na] at z3
    all_goals
    obtain rfl := so_some h
    refine ⟨0, fun L hL => ?_⟩
    simp only [go_sem, ir74, E_28_l1, R_28_l1, ir74_k0, ir74_o0, ir74_r0, gz1na, z3]
   ·try simp only [go_sem, n1, n2, n3, n4, gz1na] at z3
    all_goals
    (simp_all)
  ·try simp only [go_sem, n1, n2, n3, n4] at gz1na
   all_goals
   try simp only [go_sem, n1, n2, n3, n4, gz1na] at gz1nb
   all_goals
   obtain ⟨z2, h⟩ := ck_some h
   rcases it_some h with ⟨z3, h⟩ | ⟨z3, h⟩
   ·try simp only [go_sem, n1, n2, n3, n4, gz1na, gz1nb] at z3
    all_goals
    obtain rfl := so_some h
    refine ⟨0, fun L hL => ?_⟩
    simp only [go_sem, ir74, E_28_l1, R_28_l1, ir74_k0, ir74_o0, ir74_r0, gz1na, gz1nb, z3]
   ·try simp only [go_sem, n1, n2, n3, n4, gz1na, gz1nb] at z3
    all_goals
    (simp_all)


def ir75_v : List Nat := [0, 2]
def ir75 : AFn := ⟨1, 2, .seq (.region false [ VO 1 2 (.mov (.c (.bool false)))]) (.seq (.region false [ PM 3 0, PO 4 (.call 50 [(.s 0), (I6 1), (I6 3)]), VS 1 2 0]) (.ret)), [.t 1]⟩
noncomputable def t_29 : List (Nat × Ctr) := [(50, c_25)]
theorem lk_29_50 : look t_29 50 = some c_25 := rfl
noncomputable def c_29 : Ctr := mkF t_29 ir75 [.bor]
theorem s_29 : Sound Tryz.prog 75 c_29 := mkF_sound _ rfl (snd_cons s_25 snd_nil) (by kernel_rfl : chkFn Tryz.prog 75 ir75 ir75_v = true)
theorem M_29 : c_29.modes = [.bor] := rfl
theorem Fl_29 : c_29.flat = true := rfl
attribute [go_sem] M_29 Fl_29
attribute [go_sem] lk_29_50
theorem Fs_29 {n : Int} {y_ : Bool} (h : spec_l18Shape n = some y_) : c_29.F [.int .i64 n] = ⟨true, .bool y_, [.any]⟩ := by
 refine mkF_E rfl ?_
 dsimp only [spec_l18Shape] at h
 obtain ⟨y_1, z1, h⟩ := bd_some h
 have fz1 := Fs_25 z1
 try simp only [go_sem] at fz1
 obtain rfl := so_some h
 refine ⟨0, fun L hL => ?_⟩
 simp only [go_sem, ir75, fz1]


def ir41_v : List Nat := [0, 2]
def ir41 : AFn := ⟨1, 2, .seq (.region false [ VO 1 2 (.mov (.c (.bool false)))]) (.seq (.test false [ PM 3 0, PO 4 (.nilck (.s 0)), PO 5 (.fldAddr 0 (.s 0)), PO 6 (.load false 1 (.s 0)), PO 7 (.call 74 [(.s 0)]), PO 8 (.un .not (.s 0)), PO 9 (.mov (.s 0)), ⟨.push, 10, (some ((.s 0), false)), .mov (.v 0)⟩, ⟨.push, 11, (some ((.s 1), false)), .nilck (.s 0)⟩, ⟨.push, 12, (some ((.s 2), false)), .fldAddr 5 (.s 0)⟩, ⟨.push, 13, (some ((.s 3), false)), .load false 1 (.s 0)⟩, ⟨.push, 14, (some ((.s 4), false)), .bin false .neq (.s 0) (I6 0)⟩, ⟨.push, 15, (some ((.s 5), false)), .mov (.s 0)⟩, ⟨.push,
 16, (some ((.s 0), true)), .mov (.v 0)⟩, ⟨.push, 17, (some ((.s 1), true)), .nilck (.s 0)⟩, ⟨.push, 18, (some ((.s 2), true)), .fldAddr 5 (.s 0)⟩, ⟨.push, 19, (some ((.s 3), true)), .load false 1 (.s 0)⟩, ⟨.push, 20, (some ((.s 4), true)), .call 75 [(.s 0)]⟩, ⟨.push, 21, (some ((.s 5), true)), .un .not (.s 0)⟩, ⟨.push, 22, (some ((.s 12), false)), .pick (.s 6) (.s 0) (.c (.bool false))⟩, PO 23 (.pick (.s 13) (.c (.bool true)) (.s 0))] (.s 0) (.seq (.region false [ VO 1 2 (.mov (.c (.bool false)))]) (.ret)) (.skip)) (.seq (.anyo 34 [ SO 0 24 (.mov (.v 0)), SO 1 25 (.nilck (.s 0)), SO 2 26
 (.fldAddr 1 (.s 1)), SO 3 27 (.load false 1 (.s 2)), SO 4 28 (.callp 50 [(.s 3), (I6 0), (I6 20000)]), SO 5 29 (.mov (.s 4)), ⟨.slot 6, 30, (some ((.s 5), true)), .mov (.v 0)⟩, ⟨.slot 7, 31, (some ((.s 5), true)), .nilck (.s 6)⟩, ⟨.slot 8, 32, (some ((.s 5), true)), .fldAddr 2 (.s 7)⟩, ⟨.slot 9, 33, (some ((.s 5), true)), .load false 1 (.s 8)⟩, ⟨.slot 10, 34, (some ((.s 5), true)), .mov (.v 0)⟩, ⟨.slot 11, 35, (some ((.s 5), true)), .nilck (.s 10)⟩, ⟨.slot 12, 36, (some ((.s 5), true)), .fldAddr 1 (.s 11)⟩, ⟨.slot 13, 37, (some ((.s 5), true)), .load false 1 (.s 12)⟩, ⟨.slot 14, 38, (some ((.s
 5), true)), .call 50 [(.s 9), (.s 13), (I6 20000)]⟩, SO 15 39 (.pick (.s 5) (.s 14) (.c (.bool false))), SO 16 40 (.mov (.s 15)), ⟨.slot 17, 41, (some ((.s 16), true)), .mov (.v 0)⟩, ⟨.slot 18, 42, (some ((.s 16), true)), .nilck (.s 17)⟩, ⟨.slot 19, 43, (some ((.s 16), true)), .fldAddr 3 (.s 18)⟩, ⟨.slot 20, 44, (some ((.s 16), true)), .load false 1 (.s 19)⟩, ⟨.slot 21, 45, (some ((.s 16), true)), .call 50 [(.s 20), (I6 0), (I6 1000000)]⟩, SO 22 46 (.pick (.s 16) (.s 21) (.c (.bool false))), SO 23 47 (.mov (.s 22)), ⟨.slot 24, 48, (some ((.s 23), true)), .mov (.v 0)⟩, ⟨.slot 25, 49, (some ((.s
 23), true)), .nilck (.s 24)⟩, ⟨.slot 26, 50, (some ((.s 23), true)), .fldAddr 4 (.s 25)⟩, ⟨.slot 27, 51, (some ((.s 23), true)), .load false 1 (.s 26)⟩, ⟨.slot 28, 52, (some ((.s 23), true)), .mov (.v 0)⟩, ⟨.slot 29, 53, (some ((.s 23), true)), .nilck (.s 28)⟩, ⟨.slot 30, 54, (some ((.s 23), true)), .fldAddr 3 (.s 29)⟩, ⟨.slot 31, 55, (some ((.s 23), true)), .load false 1 (.s 30)⟩, ⟨.slot 32, 56, (some ((.s 23), true)), .call 50 [(.s 27), (.s 31), (I6 1000000)]⟩, SO 33 57 (.pick (.s 23) (.s 32) (.c (.bool false))), VS 1 2 33] [] .skip) (.ret))), [.t 1]⟩
noncomputable def t_30 : List (Nat × Ctr) := [(74, c_28), (75, c_29), (50, c_25)]
theorem lk_30_74 : look t_30 74 = some c_28 := rfl
theorem lk_30_75 : look t_30 75 = some c_29 := rfl
theorem lk_30_50 : look t_30 50 = some c_25 := rfl
noncomputable def c_30 : Ctr := mkF t_30 ir41 [.bor]
theorem s_30 : Sound Tryz.prog 41 c_30 := mkF_sound _ rfl (snd_cons s_28 (snd_cons s_29 (snd_cons s_25 snd_nil))) (by kernel_rfl : chkFn Tryz.prog 41 ir41 ir41_v = true)
theorem M_30 : c_30.modes = [.bor] := rfl
theorem Fl_30 : c_30.flat = true := rfl
attribute [go_sem] M_30 Fl_30
attribute [go_sem] lk_30_74 lk_30_75 lk_30_50
theorem Fs_30 {r : Rule} {y_ : Bool} (h : spec_l18One r = some y_) : c_30.F [.ptr 6 [Rule_av r] 0 0] = ⟨true, .bool y_, [.any]⟩ := by
 refine mkF_E rfl ?_
 dsimp only [spec_l18One] at h
 obtain ⟨y_1, z1, h⟩ := bd_some h
 have fz1 := Fs_28 z1
 try simp only [go_sem] at fz1
 obtain ⟨z2, h⟩ := ck_some h
 rcases or_split z2 with ⟨gz2, z2⟩ | gz2
 ·try simp only [go_sem, n1, n2, n3, n4] at gz2
  all_goals
  obtain ⟨y_2, hz2⟩ := Option.isSome_iff_exists.1 z2
  have fz2 := Fs_29 hz2
  try simp only [go_sem, n1, n2, n3, n4, gz2] at hz2
  all_goals
  try simp only [go_sem, gz2] at fz2
  rcases it_some h with ⟨z3, h⟩ | ⟨z3, h⟩
  ·try simp only [go_sem, n1, n2, n3, n4, gz2, hz2] at z3
   all_goals
   obtain rfl := so_some h
   refine ⟨0, fun L hL => ?_⟩
   simp only [go_sem, ir41, fz1, gz2, hz2, fz2, z3]
  ·try simp only [go_sem, n1, n2, n3, n4, gz2, hz2] at z3
   all_goals
   obtain ⟨y_4, z4, h⟩ := bd_some h
   have fz4 := Fs_25 z4
   try simp only [go_sem, gz2, hz2, z3] at fz4
   obtain ⟨z5, h⟩ := ck_some h
   rcases or_split z5 with ⟨gz5, z5⟩ | gz5
   ·try simp only [go_sem, n1, n2, n3, n4, gz2, hz2, z3] at gz5
    all_goals
    obtain ⟨y_5, hz5⟩ := Option.isSome_iff_exists.1 z5
    have fz5 := Fs_25 hz5
    try simp only [go_sem, n1, n2, n3, n4, gz2, hz2, z3, gz5] at hz5
    all_goals
    try simp only [go_sem, gz2, hz2, z3, gz5] at fz5
    obtain ⟨z6, h⟩ := ck_some h
    rcases or_split z6 with ⟨gz6, z6⟩ | gz6
    ·try simp only [go_sem, n1, n2, n3, n4, gz2, hz2, z3, gz5, hz5] at gz6
     all_goals
     obtain ⟨y_6, hz6⟩ := Option.isSome_iff_exists.1 z6
     have fz6 := Fs_25 hz6
     try simp only [go_sem, n1, n2, n3, n4, gz2, hz2, z3, gz5, hz5, gz6] at hz6
     all_goals
     try simp only [go_sem, gz2, hz2, z3, gz5, hz5, gz6] at fz6
     obtain ⟨z7, h⟩ := ck_some h
     rcases or_split z7 with ⟨gz7, z7⟩ | gz7
     ·try simp only [go_sem, n1, n2, n3, n4, gz2, hz2, z3, gz5, hz5, gz6, hz6] at gz7
      all_goals
      obtain ⟨y_7, hz7⟩ := Option.isSome_iff_exists.1 z7
      have fz7 := Fs_25 hz7
      try simp only [go_sem, n1, n2, n3, n4, gz2, hz2, z3, gz5, hz5, gz6, hz6, gz7] at hz7
      all_goals
      try simp only [go_sem, gz2, hz2, z3, gz5, hz5, gz6, hz6, gz7] at fz7
      obtain rfl := so_some h
      refine ⟨0, fun L hL => ?_⟩
      simp only [go_sem, ir41, fz1, gz2, hz2, fz2, z3, fz4, gz5, hz5, fz5, gz6, hz6, fz6, gz7, hz7, fz7]
     ·rcases and_f gz7 with gz7a | ⟨gz7a, gz7b⟩
      ·try simp only [go_sem, n1, n2, n3, n4, gz2, hz2, z3, gz5, hz5, gz6, hz6] at gz7a
       all_goals
       (simp_all)
      ·obtain ⟨gz7aa, gz7ab⟩ := and_t gz7a
       try simp only [go_sem, n1, n2, n3, n4, gz2, hz2, z3, gz5, hz5, gz6, hz6] at gz7aa
       all_goals
       try simp only [go_sem, n1, n2, n3, n4, gz2, hz2, z3, gz5, hz5, gz6, hz6, gz7aa] at gz7ab
       all_goals
       try simp only [go_sem, n1, n2, n3, n4, gz2, hz2, z3, gz5, hz5, gz6, hz6, gz7aa, gz7ab] at gz7b
       all_goals
       obtain rfl := so_some h
       refine ⟨0, fun L hL => ?_⟩
       simp only [go_sem, ir41, fz1, gz2, hz2, fz2, z3, fz4, gz5, hz5, fz5, gz6, hz6, fz6, gz7aa, gz7ab, gz7b]
    ·rcases and_f gz6 with gz6a | ⟨gz6a, gz6b⟩
     ·try simp only [go_sem, n1, n2, n3, n4, gz2, hz2, z3, gz5, hz5] at gz6a
      all_goals
      (simp_all)
     ·try simp only [go_sem, n1, n2, n3, n4, gz2, hz2, z3, gz5, hz5] at gz6a
      all_goals
      try simp only [go_sem, n1, n2, n3, n4, gz2, hz2, z3, gz5, hz5, gz6a] at gz6b
      all_goals
      obtain ⟨z7, h⟩ := ck_some h
      obtain rfl := so_some h
      refine ⟨0, fun L hL => ?_⟩
      simp only [go_sem, ir41, fz1, gz2, hz2, fz2, z3, fz4, gz5, hz5, fz5, gz6a, gz6b]
   ·try simp only [go_sem, n1, n2, n3, n4, gz2, hz2, z3] at gz5
    all_goals
    obtain ⟨z6, h⟩ := ck_some h
    obtain ⟨z7, h⟩ := ck_some h
    obtain rfl := so_some h
    refine ⟨0, fun L hL => ?_⟩
    simp only [go_sem, ir41, fz1, gz2, hz2, fz2, z3, fz4, gz5]
 ·rcases and_f gz2 with gz2a | ⟨gz2a, gz2b⟩
  ·have gz2an := no_f gz2a
   have gz2ann := no_t gz2an
   try simp only [go_sem, n1, n2, n3, n4] at gz2ann
   all_goals
   rcases it_some h with ⟨z3, h⟩ | ⟨z3, h⟩
   ·try simp only [go_sem, n1, n2, n3, n4, gz2ann] at z3
    all_goals
    obtain rfl := so_some h
    refine ⟨0, fun L hL => ?_⟩
    simp only [go_sem, ir41, fz1, gz2ann, z3]
   ·try simp only [go_sem, n1, n2, n3, n4, gz2ann] at z3
    all_goals
    (simp_all)
  ·have gz2an := no_t gz2a
   have gz2ann := no_f gz2an
   have gz2bn := no_f gz2b
   try simp only [go_sem, n1, n2, n3, n4] at gz2ann
   all_goals
   try simp only [go_sem, n1, n2, n3, n4, gz2ann] at gz2bn
   all_goals
   rcases it_some h with ⟨z3, h⟩ | ⟨z3, h⟩
   ·try simp only [go_sem, n1, n2, n3, n4, gz2ann, gz2bn] at z3
    all_goals
    (simp_all)
   ·try simp only [go_sem, n1, n2, n3, n4, gz2ann, gz2bn] at z3
    all_goals
    obtain ⟨y_4, z4, h⟩ := bd_some h
    have fz4 := Fs_25 z4
    try simp only [go_sem, gz2ann, gz2bn, z3] at fz4
    obtain ⟨z5, h⟩ := ck_some h
    rcases or_split z5 with ⟨gz5, z5⟩ | gz5
    ·try simp only [go_sem, n1, n2, n3, n4, gz2ann, gz2bn, z3] at gz5
     all_goals
     obtain ⟨y_5, hz5⟩ := Option.isSome_iff_exists.1 z5
     have fz5 := Fs_25 hz5
     try simp only [go_sem, n1, n2, n3, n4, gz2ann, gz2bn, z3, gz5] at hz5
     all_goals
     try simp only [go_sem, gz2ann, gz2bn, z3, gz5] at fz5
     obtain ⟨z6, h⟩ := ck_some h
     rcases or_split z6 with ⟨gz6, z6⟩ | gz6
     ·try simp only [go_sem, n1, n2, n3, n4, gz2ann, gz2bn, z3, gz5, hz5] at gz6
      all_goals
      obtain ⟨y_6, hz6⟩ := Option.isSome_iff_exists.1 z6
      have fz6 := Fs_25 hz6
      try simp only [go_sem, n1, n2, n3, n4, gz2ann, gz2bn, z3, gz5, hz5, gz6] at hz6
      all_goals
      try simp only [go_sem, gz2ann, gz2bn, z3, gz5, hz5, gz6] at fz6
      obtain ⟨z7, h⟩ := ck_some h
      rcases or_split z7 with ⟨gz7, z7⟩ | gz7
      ·try simp only [go_sem, n1, n2, n3, n4, gz2ann, gz2bn, z3, gz5, hz5, gz6, hz6] at gz7
       all_goals
       obtain ⟨y_7, hz7⟩ := Option.isSome_iff_exists.1 z7
       have fz7 := Fs_25 hz7
       try simp only [go_sem, n1, n2, n3, n4, gz2ann, gz2bn, z3, gz5, hz5, gz6, hz6, gz7] at hz7
       all_goals
       try simp only [go_sem, gz2ann, gz2bn, z3, gz5, hz5, gz6, hz6, gz7] at fz7
       obtain rfl := so_some h
       refine ⟨0, fun L hL => ?_⟩
       simp only [go_sem, ir41, fz1, gz2ann, gz2bn, z3, fz4, gz5, hz5, fz5, gz6, hz6, fz6, gz7, hz7, fz7]
      ·rcases and_f gz7 with gz7a | ⟨gz7a, gz7b⟩
       ·try simp only [go_sem, n1, n2, n3, n4, gz2ann, gz2bn, z3, gz5, hz5, gz6, hz6] at gz7a
        all_goals
        (simp_all)
       ·obtain ⟨gz7aa, gz7ab⟩ := and_t gz7a
        try simp only [go_sem, n1, n2, n3, n4, gz2ann, gz2bn, z3, gz5, hz5, gz6, hz6] at gz7aa
        all_goals
        try simp only [go_sem, n1, n2, n3, n4, gz2ann, gz2bn, z3, gz5, hz5, gz6, hz6, gz7aa] at gz7ab
        all_goals
        try simp only [go_sem, n1, n2, n3, n4, gz2ann, gz2bn, z3, gz5, hz5, gz6, hz6, gz7aa, gz7ab] at gz7b
        all_goals
        obtain rfl := so_some h
        refine ⟨0, fun L hL => ?_⟩
        simp only [go_sem, ir41, fz1, gz2ann, gz2bn, z3, fz4, gz5, hz5, fz5, gz6, hz6, fz6, gz7aa, gz7ab, gz7b]
     ·rcases and_f gz6 with gz6a | ⟨gz6a, gz6b⟩
      ·try simp only [go_sem, n1, n2, n3, n4, gz2ann, gz2bn, z3, gz5, hz5] at gz6a
       all_goals
       (simp_all)
      ·try simp only [go_sem, n1, n2, n3, n4, gz2ann, gz2bn, z3, gz5, hz5] at gz6a
       all_goals
       try simp only [go_sem, n1, n2, n3, n4, gz2ann, gz2bn, z3, gz5, hz5, gz6a] at gz6b
       all_goals
       obtain ⟨z7, h⟩ := ck_some h
       obtain rfl := so_some h
       refine ⟨0, fun L hL => ?_⟩
       simp only [go_sem, ir41, fz1, gz2ann, gz2bn, z3, fz4, gz5, hz5, fz5, gz6a, gz6b]
    ·try simp only [go_sem, n1, n2, n3, n4, gz2ann, gz2bn, z3] at gz5
     all_goals
     obtain ⟨z6, h⟩ := ck_some h
     obtain ⟨z7, h⟩ := ck_some h
     obtain rfl := so_some h
     refine ⟨0, fun L hL => ?_⟩
     simp only [go_sem, ir41, fz1, gz2ann, gz2bn, z3, fz4, gz5]


def ir49_b0 : IR := .seq (.test false [ PM 4 2, PM 5 0, PO 6 (.len false (.s 0)), PO 7 (.bin false .lss (.s 2) (.s 0))] (.s 0) (.skip) (.exit 0)) (.seq (.block 1 (.test false [ PM 10 0, PM 11 2, PO 12 (.ixAddr 6 (.s 1) (.s 0)), PO 13 (.call 41 [(.s 0)]), PO 14 (.un .not (.s 0))] (.s 0) (.seq (.region false [ VO 1 2 (.mov (.c (.bool false)))]) (.ret)) (.skip))) (.region false [ PM 8 2, PO 9 (.bin false .add (.s 0) (I6 1)), VS 2 3 0]))
def ir49_k0 : List Bool := [true, false, true]
def ir49_o0 : List Bool := [true, false, false]
def ir49_r0 : List Bool := [false, true, false]
def ir49_v : List Nat := [0, 2, 3]
def ir49 : AFn := ⟨1, 3, .seq (.region false [ VO 1 2 (.mov (.c (.bool false)))]) (.seq (.seq (.region false [ VO 2 3 (.mov (I6 0))]) (.block 0 (.loop ir49_k0 ir49_o0 ir49_r0 ir49_b0))) (.seq (.region false [ PM 15 0, PO 16 (.len false (.s 0)), PO 17 (.bin false .leq (.s 0) (I6 12)), VS 1 2 0]) (.ret))), [.t 1]⟩
noncomputable def t_31 : List (Nat × Ctr) := [(41, c_30)]
theorem lk_31_41 : look t_31 41 = some c_30 := rfl
noncomputable def c_31 : Ctr := mkF t_31 ir49 [.bor]
theorem s_31 : Sound Tryz.prog 49 c_31 := mkF_sound _ rfl (snd_cons s_30 snd_nil) (by kernel_rfl : chkFn Tryz.prog 49 ir49 ir49_v = true)
theorem M_31 : c_31.modes = [.bor] := rfl
theorem Fl_31 : c_31.flat = true := rfl
attribute [go_sem] M_31 Fl_31
attribute [go_sem] lk_31_41
def E_31_l1 (list : List Rule) : Int → St
 | i => ⟨[.sl 6 (List.map Rule_av list), .any, .int .i64 i], [], [], true⟩
def R_31_l1 (list : List Rule) : (Unit ⊕ Bool) → Res
 | .inl y => (.exit 0, ⟨[.sl 6 (List.map Rule_av list), .any, .any], [], [], true⟩)
 | .inr y => (.ret, ⟨[.any, .bool y, .any], [], [], true⟩)
theorem spec_l18Ok_l1_ex {list : List Rule} {sgm_ : Int} {rho_ : Unit ⊕ Bool} (h : whileE (spec_l18Ok_l1 list) sgm_ = some rho_) : ∃ L0, ∀ L, L0 ≤ L → iter (exec (look t_31) L ir49_b0) ir49_k0 ir49_o0 ir49_r0 L (E_31_l1 list sgm_) = R_31_l1 list rho_ := by
 refine loop_ex (E := E_31_l1 list) (R := R_31_l1 list) (fun y => by first | (intro c; cases c) | (rcases y with y | y <;> (intro c; cases c)) | (rcases y with y | y | y <;> (intro c; cases c))) ?_ h
 clear h
 intro i o_ h
 dsimp only [spec_l18Ok_l1] at h
 rcases it_some h with ⟨z1, h⟩ | ⟨z1, h⟩
 ·try simp only [go_sem, n1, n2, n3, n4] at z1
  all_goals
  obtain ⟨z2, h⟩ := ck_some h
  have lz2 := ix_lt z2
  have xz2 := getD_mapD Rule_av list lz2
  try simp only [go_sem] at lz2
  try simp only [go_sem] at xz2
  try simp only [go_sem, n1, n2, n3, n4, z1] at z2
  all_goals
  obtain ⟨y_3, z3, h⟩ := bd_some h
  have fz3 := Fs_30 z3
  try simp only [go_sem, z1, z2] at fz3
  rcases it_some h with ⟨z4, h⟩ | ⟨z4, h⟩
  ·try simp only [go_sem, n1, n2, n3, n4, z1, z2] at z4
   all_goals
   obtain rfl := so_some h
   refine ⟨0, fun L hL => ?_⟩
   simp only [go_sem, ir49, E_31_l1, R_31_l1, ir49_b0, ir49_k0, ir49_o0, ir49_r0, z1, z2, lz2, xz2, fz3, z4]
  ·try simp only [go_sem, n1, n2, n3, n4, z1, z2] at z4
   all_goals
   obtain rfl := so_some h
   refine ⟨0, fun L hL => ?_⟩
   simp only [go_sem, ir49, E_31_l1, R_31_l1, ir49_b0, ir49_k0, ir49_o0, ir49_r0, z1, z2, lz2, xz2, fz3, z4]
 ·try simp only [go_sem, n1, n2, n3, n4] at z1
  all_goals
  obtain rfl := so_some h
  refine ⟨0, fun L hL => ?_⟩
  simp only [go_sem, ir49, E_31_l1, R_31_l1, ir49_b0, ir49_k0, ir49_o0, ir49_r0, z1]

theorem Fs_31 {list : List Rule} {y_ : Bool} (h : spec_l18Ok list = some y_) : c_31.F [.sl 6 (List.map Rule_av list)] = ⟨true, .bool y_, [.any]⟩ := by
 refine mkF_E rfl ?_
 dsimp only [spec_l18Ok] at h
 obtain ⟨y_5, z5, h⟩ := bd_some h
 obtain ⟨Lz5, ez5⟩ := spec_l18Ok_l1_ex z5
 rcases y_5 with y_5a | y_5b
 ·dsimp only at h
  obtain rfl := so_some h
  refine ⟨Lz5, fun L hL => ?_⟩
  have ez5 := ez5 L (by omega)
  try simp only [go_sem, E_31_l1, R_31_l1, ir49_k0, ir49_o0, ir49_r0] at ez5
  simp only [go_sem, ir49, E_31_l1, R_31_l1, ir49_k0, ir49_o0, ir49_r0, ez5]
 ·dsimp only at h
  obtain rfl := so_some h
  refine ⟨Lz5, fun L hL => ?_⟩
  have ez5 := ez5 L (by omega)
  try simp only [go_sem, E_31_l1, R_31_l1, ir49_k0, ir49_o0, ir49_r0] at ez5
  simp only [go_sem, ir49, E_31_l1, R_31_l1, ir49_k0, ir49_o0, ir49_r0, ez5]


def ir42_v : List Nat := [0, 1, 2]
def ir42 : AFn := ⟨1, 3, .seq (.region false [ VO 1 1 (.box (.v 0)), VO 2 2 (.mov (.c (.bool false)))]) (.seq (.region false [ PO 3 (.fldAddr 0 (.v 1)), PO 4 (.load false 1 (.s 0)), PO 5 (.call 50 [(.s 0), (I6 0), (I6 20000)]), PO 6 (.mov (.s 0)), ⟨.push, 7, (some ((.s 0), true)), .fldAddr 1 (.v 1)⟩, ⟨.push, 8, (some ((.s 1), true)), .load false 1 (.s 0)⟩, ⟨.push, 9, (some ((.s 2), true)), .call 50 [(.s 0), (I6 0), (I6 1000000)]⟩, PO 10 (.pick (.s 3) (.s 0) (.c (.bool false))), PO 11 (.mov (.s 0)), ⟨.push, 12, (some ((.s 0), true)), .fldAddr 2 (.v 1)⟩, ⟨.push, 13, (some ((.s 1), true)), .load
 false 1 (.s 0)⟩, ⟨.push, 14, (some ((.s 2), true)), .call 75 [(.s 0)]⟩, PO 15 (.pick (.s 3) (.s 0) (.c (.bool false))), VS 2 2 0]) (.ret)), [.t 2]⟩
noncomputable def t_32 : List (Nat × Ctr) := [(50, c_25), (75, c_29)]
theorem lk_32_50 : look t_32 50 = some c_25 := rfl
theorem lk_32_75 : look t_32 75 = some c_29 := rfl
noncomputable def c_32 : Ctr := mkF t_32 ir42 [.bor]
theorem s_32 : Sound Tryz.prog 42 c_32 := mkF_sound _ rfl (snd_cons s_25 (snd_cons s_29 snd_nil)) (by kernel_rfl : chkFn Tryz.prog 42 ir42 ir42_v = true)
theorem M_32 : c_32.modes = [.bor] := rfl
theorem Fl_32 : c_32.flat = true := rfl
attribute [go_sem] M_32 Fl_32
attribute [go_sem] lk_32_50 lk_32_75
theorem Fs_32 {f : Facts} {y_ : Bool} (h : spec_l18Facts f = some y_) : c_32.F [Facts_av f] = ⟨true, .bool y_, [.any]⟩ := by
 refine mkF_E rfl ?_
 dsimp only [spec_l18Facts] at h
 obtain ⟨y_1, z1, h⟩ := bd_some h
 have fz1 := Fs_25 z1
 try simp only [go_sem] at fz1
 obtain ⟨z2, h⟩ := ck_some h
 rcases or_split z2 with ⟨gz2, z2⟩ | gz2
 ·try simp only [go_sem, n1, n2, n3, n4] at gz2
  all_goals
  obtain ⟨y_2, hz2⟩ := Option.isSome_iff_exists.1 z2
  have fz2 := Fs_25 hz2
  try simp only [go_sem, n1, n2, n3, n4, gz2] at hz2
  all_goals
  try simp only [go_sem, gz2] at fz2
  obtain ⟨z3, h⟩ := ck_some h
  rcases or_split z3 with ⟨gz3, z3⟩ | gz3
  ·try simp only [go_sem, n1, n2, n3, n4, gz2, hz2] at gz3
   all_goals
   obtain ⟨y_3, hz3⟩ := Option.isSome_iff_exists.1 z3
   have fz3 := Fs_29 hz3
   try simp only [go_sem, n1, n2, n3, n4, gz2, hz2, gz3] at hz3
   all_goals
   try simp only [go_sem, gz2, hz2, gz3] at fz3
   obtain rfl := so_some h
   refine ⟨0, fun L hL => ?_⟩
   simp only [go_sem, ir42, fz1, gz2, hz2, fz2, gz3, hz3, fz3]
  ·rcases and_f gz3 with gz3a | ⟨gz3a, gz3b⟩
   ·try simp only [go_sem, n1, n2, n3, n4, gz2, hz2] at gz3a
    all_goals
    (simp_all)
   ·try simp only [go_sem, n1, n2, n3, n4, gz2, hz2] at gz3a
    all_goals
    try simp only [go_sem, n1, n2, n3, n4, gz2, hz2, gz3a] at gz3b
    all_goals
    obtain rfl := so_some h
    refine ⟨0, fun L hL => ?_⟩
    simp only [go_sem, ir42, fz1, gz2, hz2, fz2, gz3a, gz3b]
 ·try simp only [go_sem, n1, n2, n3, n4] at gz2
  all_goals
  obtain ⟨z3, h⟩ := ck_some h
  obtain rfl := so_some h
  refine ⟨0, fun L hL => ?_⟩
  simp only [go_sem, ir42, fz1, gz2]


def ir31_v : List Nat := [0, 1, 3, 4]
def ir31 : AFn := ⟨2, 4, .seq (.region false [ VO 2 3 (.box (.v 1)), VO 3 4 (.mov (I6 0))]) (.seq (.test false [ PM 5 0, PO 6 (.call 49 [(.s 0)]), PO 7 (.un .not (.s 0))] (.s 0) (.seq (.region false [ VO 3 4 (.mov (I6 1))]) (.ret)) (.skip)) (.seq (.test false [ PO 8 (.load true 3 (.v 2)), PO 9 (.call 42 [(.s 0)]), PO 10 (.un .not (.s 0))] (.s 0) (.seq (.region false [ VO 3 4 (.mov (I6 2))]) (.ret)) (.skip)) (.seq (.region false [ VO 3 4 (.mov (I6 0))]) (.ret)))), [.t 3]⟩
noncomputable def t_33 : List (Nat × Ctr) := [(49, c_31), (42, c_32)]
theorem lk_33_49 : look t_33 49 = some c_31 := rfl
theorem lk_33_42 : look t_33 42 = some c_32 := rfl
noncomputable def c_33 : Ctr := mkF t_33 ir31 [.bor, .bor]
theorem s_33 : Sound Tryz.prog 31 c_33 := mkF_sound _ rfl (snd_cons s_31 (snd_cons s_32 snd_nil)) (by kernel_rfl : chkFn Tryz.prog 31 ir31 ir31_v = true)
theorem M_33 : c_33.modes = [.bor, .bor] := rfl
theorem Fl_33 : c_33.flat = true := rfl
attribute [go_sem] M_33 Fl_33
attribute [go_sem] lk_33_49 lk_33_42
theorem Fs_33 {list : List Rule} {f : Facts} {y_ : Int} (h : spec_l18Code list f = some y_) : c_33.F [.sl 6 (List.map Rule_av list), Facts_av f] = ⟨true, .int .i64 y_, [.any, .any]⟩ := by
 refine mkF_E rfl ?_
 dsimp only [spec_l18Code] at h
 obtain ⟨y_1, z1, h⟩ := bd_some h
 have fz1 := Fs_31 z1
 try simp only [go_sem] at fz1
 rcases it_some h with ⟨z2, h⟩ | ⟨z2, h⟩
 ·try simp only [go_sem, n1, n2, n3, n4] at z2
  all_goals
  obtain rfl := so_some h
  refine ⟨0, fun L hL => ?_⟩
  simp only [go_sem, ir31, fz1, z2]
 ·try simp only [go_sem, n1, n2, n3, n4] at z2
  all_goals
  obtain ⟨y_3, z3, h⟩ := bd_some h
  have fz3 := Fs_32 z3
  try simp only [go_sem, z2] at fz3
  rcases it_some h with ⟨z4, h⟩ | ⟨z4, h⟩
  ·try simp only [go_sem, n1, n2, n3, n4, z2] at z4
   all_goals
   obtain rfl := so_some h
   refine ⟨0, fun L hL => ?_⟩
   simp only [go_sem, ir31, fz1, z2, fz3, z4]
  ·try simp only [go_sem, n1, n2, n3, n4, z2] at z4
   all_goals
   obtain rfl := so_some h
   refine ⟨0, fun L hL => ?_⟩
   simp only [go_sem, ir31, fz1, z2, fz3, z4]


def ir36_v : List Nat := [0, 1, 3, 4]
def ir36 : AFn := ⟨2, 4, .seq (.region false [ VO 2 3 (.box (.v 1)), VO 3 4 (.mov (.c (.bool false)))]) (.seq (.anyo 40 [ SO 0 5 (.fldAddr 0 (.v 2)), SO 1 6 (.load false 1 (.s 0)), SO 2 7 (.mov (.v 0)), SO 3 8 (.nilck (.s 2)), SO 4 9 (.fldAddr 1 (.s 3)), SO 5 10 (.load false 1 (.s 4)), SO 6 11 (.mov (.v 0)), SO 7 12 (.nilck (.s 6)), SO 8 13 (.fldAddr 2 (.s 7)), SO 9 14 (.load false 1 (.s 8)), SO 10 15 (.callp 50 [(.s 1), (.s 5), (.s 9)]), SO 11 16 (.mov (.s 10)), ⟨.slot 12, 17, (some ((.s 11), true)), .fldAddr 1 (.v 2)⟩, ⟨.slot 13, 18, (some ((.s 11), true)), .load false 1 (.s 12)⟩, ⟨.slot 14,
 19, (some ((.s 11), true)), .mov (.v 0)⟩, ⟨.slot 15, 20, (some ((.s 11), true)), .nilck (.s 14)⟩, ⟨.slot 16, 21, (some ((.s 11), true)), .fldAddr 3 (.s 15)⟩, ⟨.slot 17, 22, (some ((.s 11), true)), .load false 1 (.s 16)⟩, ⟨.slot 18, 23, (some ((.s 11), true)), .mov (.v 0)⟩, ⟨.slot 19, 24, (some ((.s 11), true)), .nilck (.s 18)⟩, ⟨.slot 20, 25, (some ((.s 11), true)), .fldAddr 4 (.s 19)⟩, ⟨.slot 21, 26, (some ((.s 11), true)), .load false 1 (.s 20)⟩, ⟨.slot 22, 27, (some ((.s 11), true)), .call 50 [(.s 13), (.s 17), (.s 21)]⟩, SO 23 28 (.pick (.s 11) (.s 22) (.c (.bool false))), SO 24 29 (.mov
 (.s 23)), ⟨.slot 25, 30, (some ((.s 24), true)), .mov (.v 0)⟩, ⟨.slot 26, 31, (some ((.s 24), true)), .nilck (.s 25)⟩, ⟨.slot 27, 32, (some ((.s 24), true)), .fldAddr 5 (.s 26)⟩, ⟨.slot 28, 33, (some ((.s 24), true)), .load false 1 (.s 27)⟩, ⟨.slot 29, 34, (some ((.s 24), true)), .bin false .eql (.s 28) (I6 0)⟩, ⟨.slot 30, 35, (some ((.s 24), true)), .mov (.s 29)⟩, ⟨.slot 31, 36, (some ((.s 30), false)), .mov (.v 0)⟩, ⟨.slot 32, 37, (some ((.s 30), false)), .nilck (.s 31)⟩, ⟨.slot 33, 38, (some ((.s 30), false)), .fldAddr 5 (.s 32)⟩, ⟨.slot 34, 39, (some ((.s 30), false)), .load false 1 (.s
 33)⟩, ⟨.slot 35, 40, (some ((.s 30), false)), .fldAddr 2 (.v 2)⟩, ⟨.slot 36, 41, (some ((.s 30), false)), .load false 1 (.s 35)⟩, ⟨.slot 37, 42, (some ((.s 30), false)), .bin false .eql (.s 34) (.s 36)⟩, ⟨.slot 38, 43, (some ((.s 24), true)), .pick (.s 30) (.c (.bool true)) (.s 37)⟩, SO 39 44 (.pick (.s 24) (.s 38) (.c (.bool false))), VS 3 4 39] [] .skip) (.ret)), [.t 3]⟩
noncomputable def t_34 : List (Nat × Ctr) := [(50, c_25)]
theorem lk_34_50 : look t_34 50 = some c_25 := rfl
noncomputable def c_34 : Ctr := mkF t_34 ir36 [.bor, .bor]
theorem s_34 : Sound Tryz.prog 36 c_34 := mkF_sound _ rfl (snd_cons s_25 snd_nil) (by kernel_rfl : chkFn Tryz.prog 36 ir36 ir36_v = true)
theorem M_34 : c_34.modes = [.bor, .bor] := rfl
theorem Fl_34 : c_34.flat = true := rfl
attribute [go_sem] M_34 Fl_34
attribute [go_sem] lk_34_50
theorem Fs_34 {r : Rule} {f : Facts} {y_ : Bool} (h : spec_l18Match r f = some y_) : c_34.F [.ptr 6 [Rule_av r] 0 0, Facts_av f] = ⟨true, .bool y_, [.any, .any]⟩ := by
 refine mkF_E rfl ?_
 dsimp only [spec_l18Match] at h
 obtain ⟨y_1, z1, h⟩ := bd_some h
 have fz1 := Fs_25 z1
 try simp only [go_sem] at fz1
 obtain ⟨z2, h⟩ := ck_some h
 rcases or_split z2 with ⟨gz2, z2⟩ | gz2
 ·try simp only [go_sem, n1, n2, n3, n4] at gz2
  all_goals
  obtain ⟨y_2, hz2⟩ := Option.isSome_iff_exists.1 z2
  have fz2 := Fs_25 hz2
  try simp only [go_sem, n1, n2, n3, n4, gz2] at hz2
  all_goals
  try simp only [go_sem, gz2] at fz2
  obtain rfl := so_some h
  refine ⟨0, fun L hL => ?_⟩
  simp only [go_sem, ir36, fz1, gz2, hz2, fz2]
 ·try simp only [go_sem, n1, n2, n3, n4] at gz2
  all_goals
  obtain rfl := so_some h
  refine ⟨0, fun L hL => ?_⟩
  simp only [go_sem, ir36, fz1, gz2]


def ir32_b0 : IR := .seq (.test false [ PM 6 4, PM 7 0, PO 8 (.len false (.s 0)), PO 9 (.bin false .lss (.s 2) (.s 0))] (.s 0) (.skip) (.exit 0)) (.seq (.block 1 (.anyo 5 [ SO 0 12 (.mov (.v 0)), SO 1 13 (.mov (.v 4)), SO 2 14 (.ixAddr 6 (.s 0) (.s 1)), SO 3 15 (.load true 3 (.v 2)), SO 4 16 (.callp 36 [(.s 2), (.s 3)])] [] (.cond (.s 4) (.seq (.region false [ PM 17 4, VS 3 4 0]) (.ret)) (.skip)))) (.region false [ PM 10 4, PO 11 (.bin false .add (.s 0) (I6 1)), VS 4 5 0]))
def ir32_k0 : List Bool := [true, false, true, false, true]
def ir32_o0 : List Bool := [false, false, false, false, false]
def ir32_r0 : List Bool := [false, false, false, true, false]
def ir32_v : List Nat := [0, 1, 3, 4, 5]
def ir32 : AFn := ⟨2, 5, .seq (.region false [ VO 2 3 (.box (.v 1)), VO 3 4 (.mov (I6 0))]) (.seq (.seq (.region false [ VO 4 5 (.mov (I6 0))]) (.block 0 (.loop ir32_k0 ir32_o0 ir32_r0 ir32_b0))) (.seq (.region false [ VO 3 4 (.mov (.c (.int .i64 (-1))))]) (.ret))), [.t 3]⟩
noncomputable def t_35 : List (Nat × Ctr) := [(36, c_34)]
theorem lk_35_36 : look t_35 36 = some c_34 := rfl
noncomputable def c_35 : Ctr := mkF t_35 ir32 [.bor, .bor]
theorem s_35 : Sound Tryz.prog 32 c_35 := mkF_sound _ rfl (snd_cons s_34 snd_nil) (by kernel_rfl : chkFn Tryz.prog 32 ir32 ir32_v = true)
theorem M_35 : c_35.modes = [.bor, .bor] := rfl
theorem Fl_35 : c_35.flat = true := rfl
attribute [go_sem] M_35 Fl_35
attribute [go_sem] lk_35_36
def E_35_l1 (list : List Rule) (f : Facts) : Int → St
 | i => ⟨[.sl 6 (List.map Rule_av list), .any, .ref 3200000 0 0, .any, .int .i64 i], [], [(3200000, ⟨3, [Facts_av f]⟩)], true⟩
def R_35_l1 (list : List Rule) (f : Facts) : (Unit ⊕ Int) → Res
 | .inl y => (.exit 0, ⟨[.any, .any, .any, .any, .any], [], [], true⟩)
 | .inr y => (.ret, ⟨[.any, .any, .any, .int .i64 y, .any], [], [], true⟩)
theorem spec_l18First_l1_ex {list : List Rule} {f : Facts} {sgm_ : Int} {rho_ : Unit ⊕ Int} (h : whileE (spec_l18First_l1 list f) sgm_ = some rho_) : ∃ L0, ∀ L, L0 ≤ L → iter (exec (look t_35) L ir32_b0) ir32_k0 ir32_o0 ir32_r0 L (E_35_l1 list f sgm_) = R_35_l1 list f rho_ := by
 refine loop_ex (E := E_35_l1 list f) (R := R_35_l1 list f) (fun y => by first | (intro c; cases c) | (rcases y with y | y <;> (intro c; cases c)) | (rcases y with y | y | y <;> (intro c; cases c))) ?_ h
 clear h
 intro i o_ h
 dsimp only [spec_l18First_l1] at h
 rcases it_some h with ⟨z1, h⟩ | ⟨z1, h⟩
 ·try simp only [go_sem, n1, n2, n3, n4] at z1
  all_goals
  obtain ⟨z2, h⟩ := ck_some h
  have lz2 := ix_lt z2
  have xz2 := getD_mapD Rule_av list lz2
  try simp only [go_sem] at lz2
  try simp only [go_sem] at xz2
  try simp only [go_sem, n1, n2, n3, n4, z1] at z2
  all_goals
  obtain ⟨y_3, z3, h⟩ := bd_some h
  have fz3 := Fs_34 z3
  try simp only [go_sem, z1, z2] at fz3
  rcases it_some h with ⟨z4, h⟩ | ⟨z4, h⟩
  ·try simp only [go_sem, n1, n2, n3, n4, z1, z2] at z4
   all_goals
   obtain rfl := so_some h
   refine ⟨0, fun L hL => ?_⟩
   simp only [go_sem, ir32, E_35_l1, R_35_l1, ir32_b0, ir32_k0, ir32_o0, ir32_r0, z1, z2, lz2, xz2, fz3, z4]
  ·try simp only [go_sem, n1, n2, n3, n4, z1, z2] at z4
   all_goals
   obtain rfl := so_some h
   refine ⟨0, fun L hL => ?_⟩
   simp only [go_sem, ir32, E_35_l1, R_35_l1, ir32_b0, ir32_k0, ir32_o0, ir32_r0, z1, z2, lz2, xz2, fz3, z4]
 ·try simp only [go_sem, n1, n2, n3, n4] at z1
  all_goals
  obtain rfl := so_some h
  refine ⟨0, fun L hL => ?_⟩
  simp only [go_sem, ir32, E_35_l1, R_35_l1, ir32_b0, ir32_k0, ir32_o0, ir32_r0, z1]

theorem Fs_35 {list : List Rule} {f : Facts} {y_ : Int} (h : spec_l18First list f = some y_) : c_35.F [.sl 6 (List.map Rule_av list), Facts_av f] = ⟨true, .int .i64 y_, [.any, .any]⟩ := by
 refine mkF_E rfl ?_
 dsimp only [spec_l18First] at h
 obtain ⟨y_5, z5, h⟩ := bd_some h
 obtain ⟨Lz5, ez5⟩ := spec_l18First_l1_ex z5
 rcases y_5 with y_5a | y_5b
 ·dsimp only at h
  obtain rfl := so_some h
  refine ⟨Lz5, fun L hL => ?_⟩
  have ez5 := ez5 L (by omega)
  try simp only [go_sem, E_35_l1, R_35_l1, ir32_k0, ir32_o0, ir32_r0] at ez5
  simp only [go_sem, ir32, E_35_l1, R_35_l1, ir32_k0, ir32_o0, ir32_r0, ez5]
 ·dsimp only at h
  obtain rfl := so_some h
  refine ⟨Lz5, fun L hL => ?_⟩
  have ez5 := ez5 L (by omega)
  try simp only [go_sem, E_35_l1, R_35_l1, ir32_k0, ir32_o0, ir32_r0] at ez5
  simp only [go_sem, ir32, E_35_l1, R_35_l1, ir32_k0, ir32_o0, ir32_r0, ez5]


def ir7_v : List Nat := [0, 1, 3, 4, 5, 6, 7]
def ir7 : AFn := ⟨2, 7, .seq (.region false [ VO 2 3 (.box (.v 1)), VO 3 4 (.mov (.c (.str []))), VO 4 5 (.mov (I6 0))]) (.seq (.region false [ PM 8 0, PO 9 (.load true 3 (.v 2)), PO 10 (.call 31 [(.s 1), (.s 0)]), VS 5 6 0]) (.seq (.test false [ PM 11 5, PO 12 (.bin false .neq (.s 0) (I6 0))] (.s 0) (.seq (.region false [ PM 13 5, VO 3 4 (.mov (.c (.str []))), VS 4 5 0]) (.ret)) (.skip)) (.seq (.region false [ PM 14 0, PO 15 (.load true 3 (.v 2)), PO 16 (.call 32 [(.s 1), (.s 0)]), VS 6 7 0]) (.seq (.test false [ PM 17 6, PO 18 (.bin false .lss (.s 0) (I6 0))] (.s 0) (.seq (.region false [ VO
 3 4 (.mov (.c (.str []))), VO 4 5 (.mov (I6 3))]) (.ret)) (.skip)) (.seq (.region false [ PM 19 0, PM 20 6, PO 21 (.ixAddr 6 (.s 1) (.s 0)), PO 22 (.fldAddr 0 (.s 0)), PO 23 (.load false 1 (.s 0)), VS 3 4 0, VO 4 5 (.mov (I6 0))]) (.ret)))))), [.t 3, .t 4]⟩
noncomputable def t_36 : List (Nat × Ctr) := [(31, c_33), (32, c_35)]
theorem lk_36_31 : look t_36 31 = some c_33 := rfl
theorem lk_36_32 : look t_36 32 = some c_35 := rfl
noncomputable def c_36 : Ctr := mkF t_36 ir7 [.bor, .bor]
theorem s_36 : Sound Tryz.prog 7 c_36 := mkF_sound _ rfl (snd_cons s_33 (snd_cons s_35 snd_nil)) (by kernel_rfl : chkFn Tryz.prog 7 ir7 ir7_v = true)
theorem M_36 : c_36.modes = [.bor, .bor] := rfl
theorem Fl_36 : c_36.flat = true := rfl
attribute [go_sem] M_36 Fl_36
attribute [go_sem] lk_36_31 lk_36_32
theorem Fs_36 {list : List Rule} {f : Facts} {y_ : (List UInt8) × Int} (h : spec_ClassOf list f = some y_) : c_36.F [.sl 6 (List.map Rule_av list), Facts_av f] = ⟨true, .tup [.str y_.1, .int .i64 y_.2], [.any, .any]⟩ := by
 refine mkF_E rfl ?_
 dsimp only [spec_ClassOf] at h
 obtain ⟨y_1, z1, h⟩ := bd_some h
 have fz1 := Fs_33 z1
 try simp only [go_sem] at fz1
 rcases it_some h with ⟨z2, h⟩ | ⟨z2, h⟩
 ·try simp only [go_sem, n1, n2, n3, n4] at z2
  all_goals
  obtain rfl := so_some h
  refine ⟨0, fun L hL => ?_⟩
  simp only [go_sem, ir7, fz1, z2]
 ·try simp only [go_sem, n1, n2, n3, n4] at z2
  all_goals
  obtain ⟨y_3, z3, h⟩ := bd_some h
  have fz3 := Fs_35 z3
  try simp only [go_sem, z2] at fz3
  rcases it_some h with ⟨z4, h⟩ | ⟨z4, h⟩
  ·try simp only [go_sem, n1, n2, n3, n4, z2] at z4
   all_goals
   obtain rfl := so_some h
   refine ⟨0, fun L hL => ?_⟩
   simp only [go_sem, ir7, fz1, z2, fz3, z4]
  ·try simp only [go_sem, n1, n2, n3, n4, z2] at z4
   all_goals
   obtain ⟨z5, h⟩ := ck_some h
   have lz5 := ix_lt z5
   have xz5 := getD_mapD Rule_av list lz5
   try simp only [go_sem] at lz5
   try simp only [go_sem] at xz5
   try simp only [go_sem, n1, n2, n3, n4, z2, z4] at z5
   all_goals
   obtain rfl := so_some h
   refine ⟨0, fun L hL => ?_⟩
   simp only [go_sem, ir7, fz1, z2, fz3, z4, z5, lz5, xz5]


def ir34_v : List Nat := [0, 1, 2, 4]
def ir34 : AFn := ⟨3, 4, .seq (.region false [ VO 3 4 (.mov (.c (.bool false)))]) (.seq (.anyo 6 [ SO 0 5 (.load false 1 (.v 1)), SO 1 6 (.mov (.v 0)), SO 2 7 (.ixAddr 6 (.s 0) (.s 1)), SO 3 8 (.load true 6 (.s 2)), SO 4 9 (.load true 3 (.v 2)), SO 5 10 (.callp 35 [(.s 3), (.s 4)]), VS 3 4 5] [] .skip) (.ret)), [.t 3]⟩
noncomputable def t_37 : List (Nat × Ctr) := [(35, c_20)]
theorem lk_37_35 : look t_37 35 = some c_20 := rfl
noncomputable def c_37 : Ctr := mkF t_37 ir34 [.bor, .bor, .bor]
theorem s_37 : Sound Tryz.prog 34 c_37 := mkF_sound _ rfl (snd_cons s_20 snd_nil) (by kernel_rfl : chkFn Tryz.prog 34 ir34 ir34_v = true)
theorem M_37 : c_37.modes = [.bor, .bor, .bor] := rfl
theorem Fl_37 : c_37.flat = true := rfl
attribute [go_sem] M_37 Fl_37
attribute [go_sem] lk_37_35
theorem Fs_37 {i : Int} {t1 : List Rule} {t2 : Facts} {y_ : Bool} (h : impl_RulesFor_c1 i t1 t2 = some y_) : c_37.F [.int .i64 i, .ptr 1 [.sl 6 (List.map Rule_av t1)] 0 0, .ptr 3 [Facts_av t2] 0 0] = ⟨true, .bool y_, [.any, .any, .any]⟩ := by
 refine mkF_E rfl ?_
 dsimp only [impl_RulesFor_c1] at h
 obtain ⟨z1, h⟩ := ck_some h
 have lz1 := ix_lt z1
 have xz1 := getD_mapD Rule_av t1 lz1
 try simp only [go_sem] at lz1
 try simp only [go_sem] at xz1
 try simp only [go_sem, n1, n2, n3, n4] at z1
 all_goals
 obtain ⟨y_2, z2, h⟩ := bd_some h
 have fz2 := Fs_20 z2
 try simp only [go_sem, z1] at fz2
 obtain rfl := so_some h
 refine ⟨0, fun L hL => ?_⟩
 simp only [go_sem, ir34, z1, lz1, xz1, fz2]


def ir33_b0 : IR := .seq (.region false [ VO 7 10 (.bin false .lss (.v 6) (.v 5))]) (.seq (.cond (.v 7) (.skip) (.exit 0)) (.seq (.block 1 (.seq (.region false [ PM 11 6, VS 4 6 0]) (.test false [ PM 12 1, PM 13 4, PO 14 (.callv (.s 1) [(.s 0)])] (.s 0) (.region false [ PM 15 3, PM 16 4, PO 17 (.mkSl 1 (.int .i64 (0)) 1 [(0, (.s 0))]), PO 18 (.app 1 8 (.int .i64 (0)) (.s 2) (.s 0)), VS 3 5 0]) (.skip)))) (.region false [ PO 19 (.bin false .add (.v 6) (I6 1)), VS 6 9 0])))
def ir33_k0 : List Bool := [false, true, false, true, false, true, true, false]
def ir33_o0 : List Bool := [false, false, false, true, false, false, false, false]
def ir33_r0 : List Bool := [false, false, true, false, false, false, false, false]
def ir33_v : List Nat := [0, 1, 4, 5, 6, 8, 9, 10]
def ir33 : AFn := ⟨2, 8, .seq (.region false [ VO 2 4 (.newnil 1)]) (.seq (.region false [ PO 7 (.mkSl 1 (.int .i64 (0)) 0 []), VS 3 5 0]) (.seq (.seq (.region false [ VO 5 8 (.mov (.v 0)), VO 6 9 (.mov (I6 0))]) (.block 0 (.loop ir33_k0 ir33_o0 ir33_r0 ir33_b0))) (.seq (.region false [ PM 20 3, VS 2 4 0]) (.ret)))), [.t 2]⟩
noncomputable def t_38 : List (Nat × Ctr) := [(34, c_37)]
theorem lk_38_34 : look t_38 34 = some c_37 := rfl
noncomputable def c_38 : Ctr := mkF t_38 ir33 [.bor, .bor]
theorem s_38 : Sound Tryz.prog 33 c_38 := mkF_sound _ rfl (snd_cons s_37 snd_nil) (by kernel_rfl : chkFn Tryz.prog 33 ir33 ir33_v = true)
theorem M_38 : c_38.modes = [.bor, .bor] := rfl
theorem Fl_38 : c_38.flat = true := rfl
attribute [go_sem] M_38 Fl_38
attribute [go_sem] lk_38_34
def E_38_l1 (c : List Rule) (c2 : Facts) (t8 : Int) : ((List Int) × Int) → St
 | (out, t9) => ⟨[.any, .fn (.func 34) [] [.ptr 1 [.sl 6 (List.map Rule_av c)] 0 0, .ptr 3 [Facts_av c2] 0 0], .any, .own 3200000, .any, .int .i64 t8, .int .i64 t9, .any], [], [(3200000, ⟨1, List.map (AV.int .i64) out⟩)], true⟩
def R_38_l1 (c : List Rule) (c2 : Facts) (t8 : Int) (y : (List Int)) : Res := (.exit 0, ⟨[.any, .any, .any, .own 3200000, .any, .any, .any, .any], [], [(3200000, ⟨1, List.map (AV.int .i64) y⟩)], true⟩)
theorem impl_indicesWhere__impl_RulesFor_c1_l1_ex {c : List Rule} {c2 : Facts} {t8 : Int} {sgm_ : (List Int) × Int} {rho_ : (List Int)} (h : whileE (impl_indicesWhere__impl_RulesFor_c1_l1 c c2 t8) sgm_ = some rho_) : ∃ L0, ∀ L, L0 ≤ L → iter (exec (look t_38) L ir33_b0) ir33_k0 ir33_o0 ir33_r0 L (E_38_l1 c c2 t8 sgm_) = R_38_l1 c c2 t8 rho_ := by
 refine loop_ex (E := E_38_l1 c c2 t8) (R := R_38_l1 c c2 t8) (fun y => by first | (intro c; cases c) | (rcases y with y | y <;> (intro c; cases c)) | (rcases y with y | y | y <;> (intro c; cases c))) ?_ h
 clear h
 rintro ⟨out, t9⟩ o_ h
 dsimp only [impl_indicesWhere__impl_RulesFor_c1_l1] at h
 rcases it_some h with ⟨z1, h⟩ | ⟨z1, h⟩
 ·try simp only [go_sem, n1, n2, n3, n4] at z1
  all_goals
  obtain ⟨y_2, z2, h⟩ := bd_some h
  have fz2 := Fs_37 z2
  try simp only [go_sem, z1] at fz2
  rcases it_some h with ⟨z3, h⟩ | ⟨z3, h⟩
  ·try simp only [go_sem, n1, n2, n3, n4, z1] at z3
   all_goals
   obtain ⟨z4, h⟩ := ck_some h
   try simp only [go_sem, n1, n2, n3, n4, z1, z3] at z4
   all_goals
   obtain rfl := so_some h
   refine ⟨0, fun L hL => ?_⟩
   simp only [go_sem, ir33, E_38_l1, R_38_l1, ir33_b0, ir33_k0, ir33_o0, ir33_r0, z1, fz2, z3, z4]
  ·try simp only [go_sem, n1, n2, n3, n4, z1] at z3
   all_goals
   obtain rfl := so_some h
   refine ⟨0, fun L hL => ?_⟩
   simp only [go_sem, ir33, E_38_l1, R_38_l1, ir33_b0, ir33_k0, ir33_o0, ir33_r0, z1, fz2, z3]
 ·try simp only [go_sem, n1, n2, n3, n4] at z1
  all_goals
  obtain rfl := so_some h
  refine ⟨0, fun L hL => ?_⟩
  simp only [go_sem, ir33, E_38_l1, R_38_l1, ir33_b0, ir33_k0, ir33_o0, ir33_r0, z1]

theorem Fs_38 {n : Int} {wanted_c0 : List Rule} {wanted_c1 : Facts} {y_ : (List Int)} (h : impl_indicesWhere__impl_RulesFor_c1 n wanted_c0 wanted_c1 = some y_) : c_38.F [.int .i64 n, .fn (.func 34) [] [.ptr 1 [.sl 6 (List.map Rule_av wanted_c0)] 0 0, .ptr 3 [Facts_av wanted_c1] 0 0]] = ⟨true, .fresh 1 (List.map (AV.int .i64) y_), [.any, .any]⟩ := by
 refine mkF_E (by simp only [flatA, flatB, flat1, List.all_cons, List.all_nil, Bool.and_self, flatE_map (f := (AV.int .i64)) (fun _ => rfl)]) ?_
 dsimp only [impl_indicesWhere__impl_RulesFor_c1] at h
 obtain ⟨y_5, z5, h⟩ := bd_some h
 obtain ⟨Lz5, ez5⟩ := impl_indicesWhere__impl_RulesFor_c1_l1_ex z5
 obtain rfl := so_some h
 refine ⟨Lz5, fun L hL => ?_⟩
 have ez5 := ez5 L (by omega)
 try simp only [go_sem, E_38_l1, R_38_l1, ir33_k0, ir33_o0, ir33_r0] at ez5
 simp only [go_sem, ir33, E_38_l1, R_38_l1, ir33_k0, ir33_o0, ir33_r0, ez5]


def ir8_v : List Nat := [0, 1, 2, 3, 4, 5]
def ir8 : AFn := ⟨2, 6, .seq (.region false [ VO 2 2 (.box (.v 0)), VO 3 3 (.box (.v 1)), VO 4 4 (.newnil 1), VO 5 5 (.mov (I6 0))]) (.seq (.block 0 (.test false [ PO 7 (.load false 1 (.v 2)), PO 8 (.call 26 [(.s 0)]), PO 9 (.un .not (.s 0)), PO 6 (.mov (.s 0))] (.s 0) (.seq (.region false [ VO 4 4 (.newnil 1), VO 5 5 (.mov (I6 1))]) (.ret)) (.test false [ PO 11 (.load true 3 (.v 3)), PO 12 (.call 29 [(.s 0)]), PO 13 (.un .not (.s 0)), PO 10 (.mov (.s 0))] (.s 0) (.seq (.region false [ VO 4 4 (.newnil 1), VO 5 5 (.mov (I6 2))]) (.ret)) (.skip)))) (.seq (.region false [ PO 14 (.load false 1 (.v
 2)), PO 15 (.len false (.s 0)), PO 16 (.mkFn (.func 34) [] [(.v 2), (.v 3)]), PO 17 (.call 33 [(.s 1), (.s 0)]), VS 4 4 0, VO 5 5 (.mov (I6 0))]) (.ret))), [.t 4, .t 5]⟩
noncomputable def t_39 : List (Nat × Ctr) := [(26, c_18), (29, c_19), (33, c_38)]
theorem lk_39_26 : look t_39 26 = some c_18 := rfl
theorem lk_39_29 : look t_39 29 = some c_19 := rfl
theorem lk_39_33 : look t_39 33 = some c_38 := rfl
noncomputable def c_39 : Ctr := mkF t_39 ir8 [.bor, .bor]
theorem s_39 : Sound Tryz.prog 8 c_39 := mkF_sound _ rfl (snd_cons s_18 (snd_cons s_19 (snd_cons s_38 snd_nil))) (by kernel_rfl : chkFn Tryz.prog 8 ir8 ir8_v = true)
theorem M_39 : c_39.modes = [.bor, .bor] := rfl
theorem Fl_39 : c_39.flat = true := rfl
attribute [go_sem] M_39 Fl_39
attribute [go_sem] lk_39_26 lk_39_29 lk_39_33
theorem Fs_39 {list : List Rule} {f : Facts} {y_ : (List Int) × Int} (h : impl_RulesFor list f = some y_) : c_39.F [.sl 6 (List.map Rule_av list), Facts_av f] = ⟨true, .tup [.fresh 1 (List.map (AV.int .i64) y_.1), .int .i64 y_.2], [.any, .any]⟩ := by
 refine mkF_E (by simp only [flatA, flatB, flat1, List.all_cons, List.all_nil, Bool.and_self, flatE_map (f := (AV.int .i64)) (fun _ => rfl)]) ?_
 dsimp only [impl_RulesFor] at h
 obtain ⟨y_1, z1, h⟩ := bd_some h
 have fz1 := Fs_18 z1
 try simp only [go_sem] at fz1
 rcases it_some h with ⟨z2, h⟩ | ⟨z2, h⟩
 ·try simp only [go_sem, n1, n2, n3, n4] at z2
  all_goals
  obtain rfl := so_some h
  refine ⟨0, fun L hL => ?_⟩
  simp only [go_sem, ir8, fz1, z2]
 ·try simp only [go_sem, n1, n2, n3, n4] at z2
  all_goals
  obtain ⟨y_3, z3, h⟩ := bd_some h
  have fz3 := Fs_19 z3
  try simp only [go_sem, z2] at fz3
  rcases it_some h with ⟨z4, h⟩ | ⟨z4, h⟩
  ·try simp only [go_sem, n1, n2, n3, n4, z2] at z4
   all_goals
   obtain rfl := so_some h
   refine ⟨0, fun L hL => ?_⟩
   simp only [go_sem, ir8, fz1, z2, fz3, z4]
  ·try simp only [go_sem, n1, n2, n3, n4, z2] at z4
   all_goals
   obtain ⟨y_5, z5, h⟩ := bd_some h
   have fz5 := Fs_38 z5
   try simp only [go_sem, z2, z4] at fz5
   obtain rfl := so_some h
   refine ⟨0, fun L hL => ?_⟩
   simp only [go_sem, ir8, fz1, z2, fz3, z4, fz5]


def ir9_b0 : IR := .seq (.test false [ PM 16 7, PM 17 0, PO 18 (.len false (.s 0)), PO 19 (.bin false .lss (.s 2) (.s 0))] (.s 0) (.skip) (.exit 0)) (.seq (.block 1 (.anyo 5 [ SO 0 22 (.mov (.v 0)), SO 1 23 (.mov (.v 7)), SO 2 24 (.ixAddr 6 (.s 0) (.s 1)), SO 3 25 (.load true 3 (.v 2)), SO 4 26 (.callp 36 [(.s 2), (.s 3)])] [] (.cond (.s 4) (.region false [ PM 27 6, PM 28 7, PO 29 (.mkSl 1 (.int .i64 (0)) 1 [(0, (.s 0))]), PO 30 (.app 1 8 (.int .i64 (0)) (.s 2) (.s 0)), VS 6 7 0]) (.skip)))) (.region false [ PM 20 7, PO 21 (.bin false .add (.s 0) (I6 1)), VS 7 8 0]))
def ir9_k0 : List Bool := [true, false, true, false, false, false, true, true]
def ir9_o0 : List Bool := [false, false, false, false, false, false, true, false]
def ir9_r0 : List Bool := [false, false, false, true, true, false, false, false]
def ir9_v : List Nat := [0, 1, 3, 4, 5, 6, 7, 8]
def ir9 : AFn := ⟨2, 8, .seq (.region false [ VO 2 3 (.box (.v 1)), VO 3 4 (.newnil 1), VO 4 5 (.mov (I6 0))]) (.seq (.region false [ PM 9 0, PO 10 (.load true 3 (.v 2)), PO 11 (.call 31 [(.s 1), (.s 0)]), VS 5 6 0]) (.seq (.test false [ PM 12 5, PO 13 (.bin false .neq (.s 0) (I6 0))] (.s 0) (.seq (.region false [ PM 14 5, VO 3 4 (.newnil 1), VS 4 5 0]) (.ret)) (.skip)) (.seq (.region false [ PO 15 (.mkSl 1 (.int .i64 (0)) 0 []), VS 6 7 0]) (.seq (.seq (.region false [ VO 7 8 (.mov (I6 0))]) (.block 0 (.loop ir9_k0 ir9_o0 ir9_r0 ir9_b0))) (.seq (.region false [ PM 31 6, VS 3 4 0, VO 4 5 (.mov
 (I6 0))]) (.ret)))))), [.t 3, .t 4]⟩
noncomputable def t_40 : List (Nat × Ctr) := [(31, c_33), (36, c_34)]
theorem lk_40_31 : look t_40 31 = some c_33 := rfl
theorem lk_40_36 : look t_40 36 = some c_34 := rfl
noncomputable def c_40 : Ctr := mkF t_40 ir9 [.bor, .bor]
theorem s_40 : Sound Tryz.prog 9 c_40 := mkF_sound _ rfl (snd_cons s_33 (snd_cons s_34 snd_nil)) (by kernel_rfl : chkFn Tryz.prog 9 ir9 ir9_v = true)
theorem M_40 : c_40.modes = [.bor, .bor] := rfl
theorem Fl_40 : c_40.flat = true := rfl
attribute [go_sem] M_40 Fl_40
attribute [go_sem] lk_40_31 lk_40_36
def E_40_l1 (list : List Rule) (f : Facts) : ((List Int) × Int) → St
 | (out, i) => ⟨[.sl 6 (List.map Rule_av list), .any, .ref 3200000 0 0, .any, .any, .any, .own 3200032, .int .i64 i], [], [(3200000, ⟨3, [Facts_av f]⟩), (3200032, ⟨1, List.map (AV.int .i64) out⟩)], true⟩
def R_40_l1 (list : List Rule) (f : Facts) (y : (List Int)) : Res := (.exit 0, ⟨[.any, .any, .any, .any, .any, .any, .own 3200000, .any], [], [(3200000, ⟨1, List.map (AV.int .i64) y⟩)], true⟩)
theorem spec_RulesFor_l1_ex {list : List Rule} {f : Facts} {sgm_ : (List Int) × Int} {rho_ : (List Int)} (h : whileE (spec_RulesFor_l1 list f) sgm_ = some rho_) : ∃ L0, ∀ L, L0 ≤ L → iter (exec (look t_40) L ir9_b0) ir9_k0 ir9_o0 ir9_r0 L (E_40_l1 list f sgm_) = R_40_l1 list f rho_ := by
 refine loop_ex (E := E_40_l1 list f) (R := R_40_l1 list f) (fun y => by first | (intro c; cases c) | (rcases y with y | y <;> (intro c; cases c)) | (rcases y with y | y | y <;> (intro c; cases c))) ?_ h
 clear h
 rintro ⟨out, i⟩ o_ h
 dsimp only [spec_RulesFor_l1] at h
 rcases it_some h with ⟨z3, h⟩ | ⟨z3, h⟩
 ·try simp only [go_sem, n1, n2, n3, n4] at z3
  all_goals
  obtain ⟨z4, h⟩ := ck_some h
  have lz4 := ix_lt z4
  have xz4 := getD_mapD Rule_av list lz4
  try simp only [go_sem] at lz4
  try simp only [go_sem] at xz4
  try simp only [go_sem, n1, n2, n3, n4, z3] at z4
  all_goals
  obtain ⟨y_5, z5, h⟩ := bd_some h
  have fz5 := Fs_34 z5
  try simp only [go_sem, z3, z4] at fz5
  rcases it_some h with ⟨z6, h⟩ | ⟨z6, h⟩
  ·try simp only [go_sem, n1, n2, n3, n4, z3, z4] at z6
   all_goals
   obtain ⟨z7, h⟩ := ck_some h
   try simp only [go_sem, n1, n2, n3, n4, z3, z4, z6] at z7
   all_goals
   obtain rfl := so_some h
   refine ⟨0, fun L hL => ?_⟩
   simp only [go_sem, ir9, E_40_l1, R_40_l1, ir9_b0, ir9_k0, ir9_o0, ir9_r0, z3, z4, lz4, xz4, fz5, z6, z7]
  ·try simp only [go_sem, n1, n2, n3, n4, z3, z4] at z6
   all_goals
   obtain rfl := so_some h
   refine ⟨0, fun L hL => ?_⟩
   simp only [go_sem, ir9, E_40_l1, R_40_l1, ir9_b0, ir9_k0, ir9_o0, ir9_r0, z3, z4, lz4, xz4, fz5, z6]
 ·try simp only [go_sem, n1, n2, n3, n4] at z3
  all_goals
  obtain rfl := so_some h
  refine ⟨0, fun L hL => ?_⟩
  simp only [go_sem, ir9, E_40_l1, R_40_l1, ir9_b0, ir9_k0, ir9_o0, ir9_r0, z3]

theorem Fs_40 {list : List Rule} {f : Facts} {y_ : (List Int) × Int} (h : spec_RulesFor list f = some y_) : c_40.F [.sl 6 (List.map Rule_av list), Facts_av f] = ⟨true, .tup [.fresh 1 (List.map (AV.int .i64) y_.1), .int .i64 y_.2], [.any, .any]⟩ := by
 refine mkF_E (by simp only [flatA, flatB, flat1, List.all_cons, List.all_nil, Bool.and_self, flatE_map (f := (AV.int .i64)) (fun _ => rfl)]) ?_
 dsimp only [spec_RulesFor] at h
 obtain ⟨y_1, z1, h⟩ := bd_some h
 have fz1 := Fs_33 z1
 try simp only [go_sem] at fz1
 rcases it_some h with ⟨z2, h⟩ | ⟨z2, h⟩
 ·try simp only [go_sem, n1, n2, n3, n4] at z2
  all_goals
  obtain rfl := so_some h
  refine ⟨0, fun L hL => ?_⟩
  simp only [go_sem, ir9, E_40_l1, R_40_l1, ir9_k0, ir9_o0, ir9_r0, fz1, z2]
 ·try simp only [go_sem, n1, n2, n3, n4] at z2
  all_goals
  obtain ⟨y_8, z8, h⟩ := bd_some h
  obtain ⟨Lz8, ez8⟩ := spec_RulesFor_l1_ex z8
  obtain rfl := so_some h
  refine ⟨Lz8, fun L hL => ?_⟩
  have ez8 := ez8 L (by omega)
  try simp only [go_sem, E_40_l1, R_40_l1, ir9_k0, ir9_o0, ir9_r0, z2] at ez8
  simp only [go_sem, ir9, E_40_l1, R_40_l1, ir9_k0, ir9_o0, ir9_r0, fz1, z2, ez8]


def ir38_v : List Nat := [0, 2, 3]
def ir38 : AFn := ⟨1, 3, .seq (.region false [ VO 1 2 (.alloc (.agg [.str [], .int .i64 (0), .int .i64 (0), .int .i64 (0), .int .i64 (0), .int .i64 (0)]))]) (.seq (.region false [ PM 4 0, PO 5 (.call 65 [(.s 0)]), VS 2 3 0]) (.seq (.test false [ PM 6 2, PO 7 (.len false (.s 0)), PO 8 (.bin false .eql (.s 0) (I6 0))] (.s 0) (.seq (.region false [ PM 9 0, PO 10 (.call 58 [(.s 0)]), ⟨.no, 0, none, .store 6 (.v 1) (.s 0)⟩]) (.ret)) (.skip)) (.seq (.region false [ PM 11 2, PM 12 0, PM 13 2, PO 14 (.len false (.s 0)), PO 15 (.call 66 [(.s 2), (.s 0)]), PO 16 (.ixAddr 6 (.s 4) (.s 0)), PO 17 (.load
 true 6 (.s 0)), ⟨.no, 0, none, .store 6 (.v 1) (.s 0)⟩]) (.ret)))), [.cell true 6 1]⟩
noncomputable def t_41 : List (Nat × Ctr) := [(65, c_8), (58, c_7), (66, c_3)]
theorem lk_41_65 : look t_41 65 = some c_8 := rfl
theorem lk_41_58 : look t_41 58 = some c_7 := rfl
theorem lk_41_66 : look t_41 66 = some c_3 := rfl
noncomputable def c_41 : Ctr := mkN t_41 ir38 [.io]
theorem s_41 : Sound Tryz.prog 38 c_41 := mkN_sound _ (snd_cons s_8 (snd_cons s_7 (snd_cons s_3 snd_nil))) (by kernel_rfl : chkFn Tryz.prog 38 ir38 ir38_v = true)
theorem M_41 : c_41.modes = [.io] := rfl
theorem Fl_41 : c_41.flat = false := rfl
attribute [go_sem] M_41 Fl_41
attribute [go_sem] lk_41_65 lk_41_58 lk_41_66
theorem Fs_41 {s_ : L00Src} {y_ : Rule × L00Src} (h : spec_l18Other s_ = some y_) : c_41.F [.mem 3 [L00Src_av s_] 0] = ⟨true, Rule_av y_.1, [.mem 3 [L00Src_av y_.2] 0]⟩ := by
 refine mkN_E ?_
 dsimp only [spec_l18Other] at h
 obtain ⟨y_1, z1, h⟩ := bd_some h
 have fz1 := Fs_8 z1
 try simp only [go_sem] at fz1
 rcases it_some h with ⟨z2, h⟩ | ⟨z2, h⟩
 ·try simp only [go_sem, n1, n2, n3, n4] at z2
  all_goals
  obtain ⟨y_3, z3, h⟩ := bd_some h
  have fz3 := Fs_7 z3
  try simp only [go_sem, z2] at fz3
  obtain rfl := so_some h
  refine ⟨0, fun L hL => ?_⟩
  simp only [go_sem, ir38, fz1, z2, fz3]
 ·try simp only [go_sem, n1, n2, n3, n4] at z2
  all_goals
  obtain ⟨y_4, z4, h⟩ := bd_some h
  have fz4 := Fs_3 z4
  try simp only [go_sem, z2] at fz4
  obtain ⟨z5, h⟩ := ck_some h
  have lz5 := ix_lt z5
  have xz5 := getD_mapD Rule_av y_1.1 lz5
  try simp only [go_sem] at lz5
  try simp only [go_sem] at xz5
  try simp only [go_sem, n1, n2, n3, n4, z2] at z5
  all_goals
  obtain rfl := so_some h
  refine ⟨0, fun L hL => ?_⟩
  simp only [go_sem, ir38, fz1, z2, fz4, z5, lz5, xz5]


def ir10_v : List Nat := [0, 2, 3, 4, 5]
def ir10 : AFn := ⟨1, 5, .seq (.region false [ VO 1 2 (.alloc (.agg [.str [], .int .i64 (0), .int .i64 (0), .int .i64 (0), .int .i64 (0), .int .i64 (0)])), VO 2 3 (.alloc (.agg [.int .i64 (0), .int .i64 (0), .int .i64 (0)]))]) (.seq (.region false [ PM 6 0, PO 7 (.call 37 [(.s 0)]), VS 3 4 0]) (.seq (.region false [ PM 8 3, PO 9 (.call 38 [(.s 0)]), VO 4 5 (.alloc (.agg [.str [], .int .i64 (0), .int .i64 (0), .int .i64 (0), .int .i64 (0), .int .i64 (0)])), ⟨.no, 0, none, .store 6 (.v 4) (.s 0)⟩]) (.seq (.anyo 3 [ SO 0 10 (.load true 6 (.v 4)), SO 1 11 (.mov (.v 3)), SO 2 12 (.call 39 [(.s 1)]),
 ⟨.no, 0, none, .store 6 (.v 1) (.s 0)⟩, ⟨.no, 0, none, .store 3 (.v 2) (.s 2)⟩] [[1, 0, 2, 3, 4], [1, 2, 0, 3, 4]] .skip) (.ret)))), [.cell true 6 1, .cell true 3 2]⟩
noncomputable def t_42 : List (Nat × Ctr) := [(37, c_1), (38, c_41), (39, c_9)]
theorem lk_42_37 : look t_42 37 = some c_1 := rfl
theorem lk_42_38 : look t_42 38 = some c_41 := rfl
theorem lk_42_39 : look t_42 39 = some c_9 := rfl
noncomputable def c_42 : Ctr := mkN t_42 ir10 [.bor]
theorem s_42 : Sound Tryz.prog 10 c_42 := mkN_sound _ (snd_cons s_1 (snd_cons s_41 (snd_cons s_9 snd_nil))) (by kernel_rfl : chkFn Tryz.prog 10 ir10 ir10_v = true)
theorem M_42 : c_42.modes = [.bor] := rfl
theorem Fl_42 : c_42.flat = false := rfl
attribute [go_sem] M_42 Fl_42
attribute [go_sem] lk_42_37 lk_42_38 lk_42_39
theorem Fs_42 {code : List UInt8} {y_ : Rule × Facts} (h : spec_DrawMatchesRule code = some y_) : c_42.F [.sl 1 (List.map byteAV code)] = ⟨true, .tup [Rule_av y_.1, Facts_av y_.2], [.any]⟩ := by
 refine mkN_E ?_
 dsimp only [spec_DrawMatchesRule] at h
 obtain ⟨y_1, z1, h⟩ := bd_some h
 have fz1 := Fs_1 z1
 try simp only [go_sem] at fz1
 obtain ⟨y_2, z2, h⟩ := bd_some h
 have fz2 := Fs_41 z2
 try simp only [go_sem] at fz2
 obtain ⟨y_3, z3, h⟩ := bd_some h
 have fz3 := Fs_9 z3
 try simp only [go_sem] at fz3
 obtain rfl := so_some h
 refine ⟨0, fun L hL => ?_⟩
 simp only [go_sem, ir10, fz1, fz2, fz3]


def ir11_v : List Nat := [0, 1, 2, 3, 4, 5]
def ir11 : AFn := ⟨2, 6, .seq (.region false [ VO 2 2 (.box (.v 0)), VO 3 3 (.box (.v 1)), VO 4 4 (.mov (.c (.bool false))), VO 5 5 (.mov (I6 0))]) (.seq (.block 0 (.test false [ PO 7 (.load true 6 (.v 2)), PO 8 (.call 40 [(.s 0)]), PO 9 (.un .not (.s 0)), PO 6 (.mov (.s 0))] (.s 0) (.seq (.region false [ VO 4 4 (.mov (.c (.bool false))), VO 5 5 (.mov (I6 1))]) (.ret)) (.test false [ PO 11 (.load true 3 (.v 3)), PO 12 (.call 29 [(.s 0)]), PO 13 (.un .not (.s 0)), PO 10 (.mov (.s 0))] (.s 0) (.seq (.region false [ VO 4 4 (.mov (.c (.bool false))), VO 5 5 (.mov (I6 2))]) (.ret)) (.skip)))) (.seq
 (.region false [ PO 14 (.load true 6 (.v 2)), PO 15 (.load true 3 (.v 3)), PO 16 (.call 35 [(.s 1), (.s 0)]), VS 4 4 0, VO 5 5 (.mov (I6 0))]) (.ret))), [.t 4, .t 5]⟩
noncomputable def t_43 : List (Nat × Ctr) := [(40, c_14), (29, c_19), (35, c_20)]
theorem lk_43_40 : look t_43 40 = some c_14 := rfl
theorem lk_43_29 : look t_43 29 = some c_19 := rfl
theorem lk_43_35 : look t_43 35 = some c_20 := rfl
noncomputable def c_43 : Ctr := mkF t_43 ir11 [.bor, .bor]
theorem s_43 : Sound Tryz.prog 11 c_43 := mkF_sound _ rfl (snd_cons s_14 (snd_cons s_19 (snd_cons s_20 snd_nil))) (by kernel_rfl : chkFn Tryz.prog 11 ir11 ir11_v = true)
theorem M_43 : c_43.modes = [.bor, .bor] := rfl
theorem Fl_43 : c_43.flat = true := rfl
attribute [go_sem] M_43 Fl_43
attribute [go_sem] lk_43_40 lk_43_29 lk_43_35
theorem Fs_43 {r : Rule} {f : Facts} {y_ : Bool × Int} (h : impl_MatchesRule r f = some y_) : c_43.F [Rule_av r, Facts_av f] = ⟨true, .tup [.bool y_.1, .int .i64 y_.2], [.any, .any]⟩ := by
 refine mkF_E rfl ?_
 dsimp only [impl_MatchesRule] at h
 obtain ⟨y_1, z1, h⟩ := bd_some h
 have fz1 := Fs_14 z1
 try simp only [go_sem] at fz1
 rcases it_some h with ⟨z2, h⟩ | ⟨z2, h⟩
 ·try simp only [go_sem, n1, n2, n3, n4] at z2
  all_goals
  obtain rfl := so_some h
  refine ⟨0, fun L hL => ?_⟩
  simp only [go_sem, ir11, fz1, z2]
 ·try simp only [go_sem, n1, n2, n3, n4] at z2
  all_goals
  obtain ⟨y_3, z3, h⟩ := bd_some h
  have fz3 := Fs_19 z3
  try simp only [go_sem, z2] at fz3
  rcases it_some h with ⟨z4, h⟩ | ⟨z4, h⟩
  ·try simp only [go_sem, n1, n2, n3, n4, z2] at z4
   all_goals
   obtain rfl := so_some h
   refine ⟨0, fun L hL => ?_⟩
   simp only [go_sem, ir11, fz1, z2, fz3, z4]
  ·try simp only [go_sem, n1, n2, n3, n4, z2] at z4
   all_goals
   obtain ⟨y_5, z5, h⟩ := bd_some h
   have fz5 := Fs_20 z5
   try simp only [go_sem, z2, z4] at fz5
   obtain rfl := so_some h
   refine ⟨0, fun L hL => ?_⟩
   simp only [go_sem, ir11, fz1, z2, fz3, z4, fz5]


def ir12_v : List Nat := [0, 1, 2, 3, 4, 5]
def ir12 : AFn := ⟨2, 6, .seq (.region false [ VO 2 2 (.box (.v 0)), VO 3 3 (.box (.v 1)), VO 4 4 (.mov (.c (.bool false))), VO 5 5 (.mov (I6 0))]) (.seq (.test false [ PO 6 (.call 41 [(.v 2)]), PO 7 (.un .not (.s 0))] (.s 0) (.seq (.region false [ VO 4 4 (.mov (.c (.bool false))), VO 5 5 (.mov (I6 1))]) (.ret)) (.skip)) (.seq (.test false [ PO 8 (.load true 3 (.v 3)), PO 9 (.call 42 [(.s 0)]), PO 10 (.un .not (.s 0))] (.s 0) (.seq (.region false [ VO 4 4 (.mov (.c (.bool false))), VO 5 5 (.mov (I6 2))]) (.ret)) (.skip)) (.seq (.region false [ PO 11 (.load true 3 (.v 3)), PO 12 (.call 36 [(.v
 2), (.s 0)]), VS 4 4 0, VO 5 5 (.mov (I6 0))]) (.ret)))), [.t 4, .t 5]⟩
noncomputable def t_44 : List (Nat × Ctr) := [(41, c_30), (42, c_32), (36, c_34)]
theorem lk_44_41 : look t_44 41 = some c_30 := rfl
theorem lk_44_42 : look t_44 42 = some c_32 := rfl
theorem lk_44_36 : look t_44 36 = some c_34 := rfl
noncomputable def c_44 : Ctr := mkF t_44 ir12 [.bor, .bor]
theorem s_44 : Sound Tryz.prog 12 c_44 := mkF_sound _ rfl (snd_cons s_30 (snd_cons s_32 (snd_cons s_34 snd_nil))) (by kernel_rfl : chkFn Tryz.prog 12 ir12 ir12_v = true)
theorem M_44 : c_44.modes = [.bor, .bor] := rfl
theorem Fl_44 : c_44.flat = true := rfl
attribute [go_sem] M_44 Fl_44
attribute [go_sem] lk_44_41 lk_44_42 lk_44_36
theorem Fs_44 {r : Rule} {f : Facts} {y_ : Bool × Int} (h : spec_MatchesRule r f = some y_) : c_44.F [Rule_av r, Facts_av f] = ⟨true, .tup [.bool y_.1, .int .i64 y_.2], [.any, .any]⟩ := by
 refine mkF_E rfl ?_
 dsimp only [spec_MatchesRule] at h
 obtain ⟨y_1, z1, h⟩ := bd_some h
 have fz1 := Fs_30 z1
 try simp only [go_sem] at fz1
 rcases it_some h with ⟨z2, h⟩ | ⟨z2, h⟩
 ·try simp only [go_sem, n1, n2, n3, n4] at z2
  all_goals
  obtain rfl := so_some h
  refine ⟨0, fun L hL => ?_⟩
  simp only [go_sem, ir12, fz1, z2]
 ·try simp only [go_sem, n1, n2, n3, n4] at z2
  all_goals
  obtain ⟨y_3, z3, h⟩ := bd_some h
  have fz3 := Fs_32 z3
  try simp only [go_sem, z2] at fz3
  rcases it_some h with ⟨z4, h⟩ | ⟨z4, h⟩
  ·try simp only [go_sem, n1, n2, n3, n4, z2] at z4
   all_goals
   obtain rfl := so_some h
   refine ⟨0, fun L hL => ?_⟩
   simp only [go_sem, ir12, fz1, z2, fz3, z4]
  ·try simp only [go_sem, n1, n2, n3, n4, z2] at z4
   all_goals
   obtain ⟨y_5, z5, h⟩ := bd_some h
   have fz5 := Fs_34 z5
   try simp only [go_sem, z2, z4] at fz5
   obtain rfl := so_some h
   refine ⟨0, fun L hL => ?_⟩
   simp only [go_sem, ir12, fz1, z2, fz3, z4, fz5]


def ir43_v : List Nat := [0, 2, 3, 4, 5, 6, 7, 8]
def ir43 : AFn := ⟨1, 8, .seq (.region false [ VO 1 2 (.newnil 6), VO 2 3 (.mov (I6 0)), VO 3 4 (.mov (I6 0))]) (.seq (.region false [ PM 9 0, PO 10 (.call 37 [(.s 0)]), VS 4 5 0]) (.seq (.region false [ PM 11 4, PO 12 (.call 65 [(.s 0)]), VS 5 6 0]) (.seq (.region false [ PM 13 5, PO 14 (.len false (.s 0)), VS 6 7 0]) (.seq (.region false [ PM 15 4, PM 16 6, PO 17 (.bin false .add (.s 0) (I6 1)), PO 18 (.call 66 [(.s 2), (.s 0)]), PM 19 4, PO 20 (.call 66 [(.s 0), (I6 16)]), PO 21 (.bin false .quo (.s 0) (I6 15)), PO 22 (.bin false .sub (.s 3) (.s 0)), VS 7 8 0]) (.seq (.region false [ PM 23
 5, PM 24 7, PM 25 4, PM 26 6, PO 27 (.bin false .add (.s 0) (I6 1)), PO 28 (.call 66 [(.s 2), (.s 0)]), PM 29 4, PO 30 (.call 66 [(.s 0), (I6 16)]), PO 31 (.bin false .quo (.s 0) (I6 15)), PO 32 (.bin false .sub (.s 3) (.s 0)), VS 1 2 9, VS 2 3 8, VS 3 4 0]) (.ret)))))), [.t 1, .t 2, .t 3]⟩
noncomputable def t_45 : List (Nat × Ctr) := [(37, c_1), (65, c_8), (66, c_3)]
theorem lk_45_37 : look t_45 37 = some c_1 := rfl
theorem lk_45_65 : look t_45 65 = some c_8 := rfl
theorem lk_45_66 : look t_45 66 = some c_3 := rfl
noncomputable def c_45 : Ctr := mkF t_45 ir43 [.bor]
theorem s_45 : Sound Tryz.prog 43 c_45 := mkF_sound _ rfl (snd_cons s_1 (snd_cons s_8 (snd_cons s_3 snd_nil))) (by kernel_rfl : chkFn Tryz.prog 43 ir43 ir43_v = true)
theorem M_45 : c_45.modes = [.bor] := rfl
theorem Fl_45 : c_45.flat = true := rfl
attribute [go_sem] M_45 Fl_45
attribute [go_sem] lk_45_37 lk_45_65 lk_45_66
theorem Fs_45 {code : List UInt8} {y_ : (List Rule) × Int × Int} (h : spec_l18Two code = some y_) : c_45.F [.sl 1 (List.map byteAV code)] = ⟨true, .tup [.fresh 6 (List.map Rule_av y_.1), .int .i64 y_.2.1, .int .i64 y_.2.2], [.any]⟩ := by
 refine mkF_E (by simp only [flatA, flatB, flat1, List.all_cons, List.all_nil, Bool.and_self, flatE_map (f := Rule_av) (fun _ => rfl)]) ?_
 dsimp only [spec_l18Two] at h
 obtain ⟨y_1, z1, h⟩ := bd_some h
 have fz1 := Fs_1 z1
 try simp only [go_sem] at fz1
 obtain ⟨y_2, z2, h⟩ := bd_some h
 have fz2 := Fs_8 z2
 try simp only [go_sem] at fz2
 obtain ⟨y_3, z3, h⟩ := bd_some h
 have fz3 := Fs_3 z3
 try simp only [go_sem] at fz3
 obtain ⟨y_4, z4, h⟩ := bd_some h
 have fz4 := Fs_3 z4
 try simp only [go_sem] at fz4
 obtain ⟨z5, h⟩ := ck_some h
 try simp only [go_sem, n1, n2, n3, n4] at z5
 all_goals
 obtain ⟨y_6, z6, h⟩ := bd_some h
 have fz6 := Fs_3 z6
 try simp only [go_sem, z5] at fz6
 obtain ⟨y_7, z7, h⟩ := bd_some h
 have fz7 := Fs_3 z7
 try simp only [go_sem, z5] at fz7
 obtain rfl := so_some h
 refine ⟨0, fun L hL => ?_⟩
 simp only [go_sem, ir43, fz1, fz2, fz3, fz4, z5, fz6, fz7]


def ir13_v : List Nat := [0, 2, 3, 4]
def ir13 : AFn := ⟨1, 4, .seq (.region false [ VO 1 2 (.newnil 6), VO 2 3 (.mov (I6 0)), VO 3 4 (.mov (I6 0))]) (.seq (.region false [ PM 5 0, PO 6 (.call 43 [(.s 0)]), PO 7 (.ext (.s 0) 0), PO 8 (.ext (.s 1) 1), PO 9 (.ext (.s 2) 2), VS 1 2 2, VS 2 3 1, VS 3 4 0]) (.ret)), [.t 1, .t 2, .t 3]⟩
noncomputable def t_46 : List (Nat × Ctr) := [(43, c_45)]
theorem lk_46_43 : look t_46 43 = some c_45 := rfl
noncomputable def c_46 : Ctr := mkF t_46 ir13 [.bor]
theorem s_46 : Sound Tryz.prog 13 c_46 := mkF_sound _ rfl (snd_cons s_45 snd_nil) (by kernel_rfl : chkFn Tryz.prog 13 ir13 ir13_v = true)
theorem M_46 : c_46.modes = [.bor] := rfl
theorem Fl_46 : c_46.flat = true := rfl
attribute [go_sem] M_46 Fl_46
attribute [go_sem] lk_46_43
theorem Fs_46 {code : List UInt8} {y_ : (List Rule) × Int × Int} (h : spec_DrawMoveRule code = some y_) : c_46.F [.sl 1 (List.map byteAV code)] = ⟨true, .tup [.fresh 6 (List.map Rule_av y_.1), .int .i64 y_.2.1, .int .i64 y_.2.2], [.any]⟩ := by
 refine mkF_E (by simp only [flatA, flatB, flat1, List.all_cons, List.all_nil, Bool.and_self, flatE_map (f := Rule_av) (fun _ => rfl)]) ?_
 dsimp only [spec_DrawMoveRule] at h
 obtain ⟨y_1, z1, h⟩ := bd_some h
 have fz1 := Fs_45 z1
 try simp only [go_sem] at fz1
 obtain rfl := so_some h
 refine ⟨0, fun L hL => ?_⟩
 simp only [go_sem, ir13, fz1]


def ir45_v : List Nat := [0, 2]
def ir45 : AFn := ⟨1, 2, .seq (.region false [ VO 1 2 (.mov (I6 0))]) (.seq (.region false [ PM 3 0, PO 4 (.len false (.s 0)), VS 1 2 0]) (.ret)), [.t 1]⟩
noncomputable def t_47 : List (Nat × Ctr) := []
noncomputable def c_47 : Ctr := mkF t_47 ir45 [.bor]
theorem s_47 : Sound Tryz.prog 45 c_47 := mkF_sound _ rfl snd_nil (by kernel_rfl : chkFn Tryz.prog 45 ir45 ir45_v = true)
theorem M_47 : c_47.modes = [.bor] := rfl
theorem Fl_47 : c_47.flat = true := rfl
attribute [go_sem] M_47 Fl_47
theorem Fs_47 {list : List Rule} {y_ : Int} (h : impl_count_impl_Rule list = some y_) : c_47.F [.sl 6 (List.map Rule_av list)] = ⟨true, .int .i64 y_, [.any]⟩ := by
 refine mkF_E rfl ?_
 dsimp only [impl_count_impl_Rule] at h
 obtain rfl := so_some h
 refine ⟨0, fun L hL => ?_⟩
 simp only [go_sem, ir45]


def ir47_v : List Nat := [0, 2]
def ir47 : AFn := ⟨1, 2, .seq (.region false [ VO 1 2 (.newnil 6)]) (.seq (.region false [ PO 3 (.mkSl 6 (.agg [.str [], .int .i64 (0), .int .i64 (0), .int .i64 (0), .int .i64 (0), .int .i64 (0)]) 0 []), PM 4 0, PO 5 (.app 6 56 (.agg [.str [], .int .i64 (0), .int .i64 (0), .int .i64 (0), .int .i64 (0), .int .i64 (0)]) (.s 1) (.s 0)), VS 1 2 0]) (.ret)), [.t 1]⟩
noncomputable def t_48 : List (Nat × Ctr) := []
noncomputable def c_48 : Ctr := mkF t_48 ir47 [.bor]
theorem s_48 : Sound Tryz.prog 47 c_48 := mkF_sound _ rfl snd_nil (by kernel_rfl : chkFn Tryz.prog 47 ir47 ir47_v = true)
theorem M_48 : c_48.modes = [.bor] := rfl
theorem Fl_48 : c_48.flat = true := rfl
attribute [go_sem] M_48 Fl_48
theorem Fs_48 {list : List Rule} {y_ : (List Rule)} (h : impl_copyOf_impl_Rule list = some y_) : c_48.F [.sl 6 (List.map Rule_av list)] = ⟨true, .fresh 6 (List.map Rule_av y_), [.any]⟩ := by
 refine mkF_E (by simp only [flatA, flatB, flat1, List.all_cons, List.all_nil, Bool.and_self, flatE_map (f := Rule_av) (fun _ => rfl)]) ?_
 dsimp only [impl_copyOf_impl_Rule] at h
 obtain ⟨z1, h⟩ := ck_some h
 try simp only [go_sem, n1, n2, n3, n4] at z1
 all_goals
 obtain rfl := so_some h
 refine ⟨0, fun L hL => ?_⟩
 simp only [go_sem, ir47, z1]


theorem s_hDelRule : Sound Tryz.prog 46 c_hDelRule := hDelRule_is

theorem s_hInsRule : Sound Tryz.prog 48 c_hInsRule := hInsRule_is

def ir14_v : List Nat := [0, 1, 2, 6, 7, 8, 9]
def ir14 : AFn := ⟨3, 7, .seq (.region false [ VO 3 6 (.newnil 6), VO 4 7 (.mov (I6 0))]) (.seq (.block 0 (.test false [ PM 11 0, PO 12 (.call 26 [(.s 0)]), PO 13 (.un .not (.s 0)), PO 10 (.mov (.s 0))] (.s 0) (.seq (.region false [ VO 3 6 (.newnil 6), VO 4 7 (.mov (I6 1))]) (.ret)) (.test false [ PM 15 1, PM 16 0, PO 17 (.call 45 [(.s 0)]), PO 18 (.bin false .sub (.s 0) (I6 1)), PO 19 (.call 44 [(.s 3), (I6 0), (.s 0)]), PO 20 (.un .not (.s 0)), PO 21 (.mov (.s 0)), ⟨.push, 22, (some ((.s 0), false)), .mov (.v 2)⟩, ⟨.push, 23, (some ((.s 1), false)), .mov (.v 0)⟩, ⟨.push, 24, (some ((.s 2),
 false)), .call 45 [(.s 0)]⟩, ⟨.push, 25, (some ((.s 3), false)), .bin false .sub (.s 0) (I6 1)⟩, ⟨.push, 26, (some ((.s 4), false)), .call 44 [(.s 3), (I6 0), (.s 0)]⟩, ⟨.push, 27, (some ((.s 5), false)), .un .not (.s 0)⟩, PO 28 (.pick (.s 6) (.c (.bool true)) (.s 0)), PO 14 (.mov (.s 0))] (.s 0) (.seq (.region false [ VO 3 6 (.newnil 6), VO 4 7 (.mov (I6 2))]) (.ret)) (.skip)))) (.seq (.region false [ PM 29 0, PM 30 1, PO 31 (.ixAddr 6 (.s 1) (.s 0)), PO 32 (.load true 6 (.s 0)), VO 5 8 (.alloc (.agg [.str [], .int .i64 (0), .int .i64 (0), .int .i64 (0), .int .i64 (0), .int .i64 (0)])), ⟨.no,
 0, none, .store 6 (.v 5) (.s 0)⟩]) (.seq (.region false [ PM 33 0, PO 34 (.call 47 [(.s 0)]), PM 35 1, PM 36 1, PO 37 (.bin false .add (.s 0) (I6 1)), PO 38 (.call 46 [(.s 3), (.s 2), (.s 0)]), VS 6 9 0]) (.seq (.region false [ PM 39 6, PM 40 2, PO 41 (.load true 6 (.v 5)), PO 42 (.mkSl 6 (.agg [.str [], .int .i64 (0), .int .i64 (0), .int .i64 (0), .int .i64 (0), .int .i64 (0)]) 1 [(0, (.s 0))]), PO 43 (.call 48 [(.s 3), (.s 2), (.s 0)]), VS 3 6 0, VO 4 7 (.mov (I6 0))]) (.ret))))), [.t 3, .t 4]⟩
noncomputable def t_51 : List (Nat × Ctr) := [(26, c_18), (45, c_47), (44, c_13), (47, c_48), (46, c_hDelRule), (48, c_hInsRule)]
theorem lk_51_26 : look t_51 26 = some c_18 := rfl
theorem lk_51_45 : look t_51 45 = some c_47 := rfl
theorem lk_51_44 : look t_51 44 = some c_13 := rfl
theorem lk_51_47 : look t_51 47 = some c_48 := rfl
theorem lk_51_46 : look t_51 46 = some c_hDelRule := rfl
theorem lk_51_48 : look t_51 48 = some c_hInsRule := rfl
noncomputable def c_51 : Ctr := mkF t_51 ir14 [.bor, .bor, .bor]
theorem s_51 : Sound Tryz.prog 14 c_51 := mkF_sound _ rfl (snd_cons s_18 (snd_cons s_47 (snd_cons s_13 (snd_cons s_48 (snd_cons s_hDelRule (snd_cons s_hInsRule snd_nil)))))) (by kernel_rfl : chkFn Tryz.prog 14 ir14 ir14_v = true)
theorem M_51 : c_51.modes = [.bor, .bor, .bor] := rfl
theorem Fl_51 : c_51.flat = true := rfl
attribute [go_sem] M_51 Fl_51
attribute [go_sem] lk_51_26 lk_51_45 lk_51_44 lk_51_47 lk_51_46 lk_51_48
theorem Fs_51 {list : List Rule} {from_ : Int} {to_ : Int} {y_ : (List Rule) × Int} (h : impl_MoveRule list from_ to_ = some y_) : c_51.F [.sl 6 (List.map Rule_av list), .int .i64 from_, .int .i64 to_] = ⟨true, .tup [.fresh 6 (List.map Rule_av y_.1), .int .i64 y_.2], [.any, .any, .any]⟩ := by
 refine mkF_E (by simp only [flatA, flatB, flat1, List.all_cons, List.all_nil, Bool.and_self, flatE_map (f := Rule_av) (fun _ => rfl)]) ?_
 dsimp only [impl_MoveRule] at h
 obtain ⟨y_1, z1, h⟩ := bd_some h
 have fz1 := Fs_18 z1
 try simp only [go_sem] at fz1
 rcases it_some h with ⟨z2, h⟩ | ⟨z2, h⟩
 ·try simp only [go_sem, n1, n2, n3, n4] at z2
  all_goals
  obtain rfl := so_some h
  refine ⟨0, fun L hL => ?_⟩
  simp only [go_sem, ir14, fz1, z2]
 ·try simp only [go_sem, n1, n2, n3, n4] at z2
  all_goals
  obtain ⟨y_3, z3, h⟩ := bd_some h
  have fz3 := Fs_47 z3
  try simp only [go_sem, z2] at fz3
  obtain ⟨y_4, z4, h⟩ := bd_some h
  have fz4 := Fs_13 z4
  try simp only [go_sem, z2] at fz4
  obtain ⟨z6, h⟩ := ck_some h
  rcases or_split z6 with ⟨gz6, z6⟩ | gz6
  ·try simp only [go_sem, n1, n2, n3, n4, z2] at gz6
   all_goals
   obtain ⟨y_6, hz6⟩ := Option.isSome_iff_exists.1 z6
   have fz6 := Fs_13 hz6
   try simp only [go_sem, n1, n2, n3, n4, z2, gz6] at hz6
   all_goals
   try simp only [go_sem, z2, gz6] at fz6
   rcases it_some h with ⟨z7, h⟩ | ⟨z7, h⟩
   ·try simp only [go_sem, n1, n2, n3, n4, z2, gz6, hz6] at z7
    all_goals
    obtain rfl := so_some h
    refine ⟨0, fun L hL => ?_⟩
    simp only [go_sem, ir14, fz1, z2, fz3, fz4, gz6, hz6, fz6, z7]
   ·try simp only [go_sem, n1, n2, n3, n4, z2, gz6, hz6] at z7
    all_goals
    obtain ⟨z8, h⟩ := ck_some h
    have lz8 := ix_lt z8
    have xz8 := getD_mapD Rule_av list lz8
    try simp only [go_sem] at lz8
    try simp only [go_sem] at xz8
    try simp only [go_sem, n1, n2, n3, n4, z2, gz6, hz6, z7] at z8
    all_goals
    obtain ⟨y_9, z9, h⟩ := bd_some h
    have fz9 := Fs_48 z9
    try simp only [go_sem, z2, gz6, hz6, z7, z8] at fz9
    obtain ⟨y_10, z10, h⟩ := bd_some h
    have fz10 := (Fs_hDelRule Rule_av) z10
    try simp only [go_sem, z2, gz6, hz6, z7, z8] at fz10
    obtain ⟨y_11, z11, h⟩ := bd_some h
    have fz11 := (Fs_hInsRule Rule_av) z11
    try simp only [go_sem, z2, gz6, hz6, z7, z8] at fz11
    obtain rfl := so_some h
    refine ⟨0, fun L hL => ?_⟩
    simp only [go_sem, ir14, fz1, z2, fz3, fz4, gz6, hz6, fz6, z7, z8, lz8, xz8, fz9, fz10, fz11]
  ·have gz6n := no_f gz6
   have gz6nn := no_t gz6n
   try simp only [go_sem, n1, n2, n3, n4, z2] at gz6nn
   all_goals
   rcases it_some h with ⟨z7, h⟩ | ⟨z7, h⟩
   ·try simp only [go_sem, n1, n2, n3, n4, z2, gz6nn] at z7
    all_goals
    obtain rfl := so_some h
    refine ⟨0, fun L hL => ?_⟩
    simp only [go_sem, ir14, fz1, z2, fz3, fz4, gz6nn, z7]
   ·try simp only [go_sem, n1, n2, n3, n4, z2, gz6nn] at z7
    all_goals
    (simp_all)


def ir15_v : List Nat := [0, 1, 2, 6, 7, 8, 9, 10]
def ir15 : AFn := ⟨3, 8, .seq (.region false [ VO 3 6 (.newnil 6), VO 4 7 (.mov (I6 0))]) (.seq (.test false [ PM 11 0, PO 12 (.call 49 [(.s 0)]), PO 13 (.un .not (.s 0))] (.s 0) (.seq (.region false [ VO 3 6 (.newnil 6), VO 4 7 (.mov (I6 1))]) (.ret)) (.skip)) (.seq (.region false [ PM 14 0, PO 15 (.len false (.s 0)), VS 5 8 0]) (.seq (.test false [ PM 16 1, PM 17 5, PO 18 (.bin false .sub (.s 0) (I6 1)), PO 19 (.call 50 [(.s 2), (I6 0), (.s 0)]), PO 20 (.un .not (.s 0)), PO 21 (.mov (.s 0)), ⟨.push, 22, (some ((.s 0), false)), .mov (.v 2)⟩, ⟨.push, 23, (some ((.s 1), false)), .mov (.v 5)⟩,
 ⟨.push, 24, (some ((.s 2), false)), .bin false .sub (.s 0) (I6 1)⟩, ⟨.push, 25, (some ((.s 3), false)), .call 50 [(.s 2), (I6 0), (.s 0)]⟩, ⟨.push, 26, (some ((.s 4), false)), .un .not (.s 0)⟩, PO 27 (.pick (.s 5) (.c (.bool true)) (.s 0))] (.s 0) (.seq (.region false [ VO 3 6 (.newnil 6), VO 4 7 (.mov (I6 2))]) (.ret)) (.skip)) (.seq (.region false [ PO 28 (.mkSl 6 (.agg [.str [], .int .i64 (0), .int .i64 (0), .int .i64 (0), .int .i64 (0), .int .i64 (0)]) 0 []), PM 29 0, PM 30 1, PO 31 (.slice 6 (.s 1) none (some (.s 0))), PO 32 (.app 6 56 (.agg [.str [], .int .i64 (0), .int .i64 (0), .int
 .i64 (0), .int .i64 (0), .int .i64 (0)]) (.s 3) (.s 0)), VS 6 9 0]) (.seq (.region false [ PM 33 6, PM 34 0, PM 35 1, PO 36 (.bin false .add (.s 0) (I6 1)), PO 37 (.slice 6 (.s 2) (some (.s 0)) none), PO 38 (.app 6 56 (.agg [.str [], .int .i64 (0), .int .i64 (0), .int .i64 (0), .int .i64 (0), .int .i64 (0)]) (.s 4) (.s 0)), VS 6 9 0]) (.seq (.region false [ PO 39 (.mkSl 6 (.agg [.str [], .int .i64 (0), .int .i64 (0), .int .i64 (0), .int .i64 (0), .int .i64 (0)]) 0 []), PM 40 6, PM 41 2, PO 42 (.slice 6 (.s 1) none (some (.s 0))), PO 43 (.app 6 56 (.agg [.str [], .int .i64 (0), .int .i64 (0),
 .int .i64 (0), .int .i64 (0), .int .i64 (0)]) (.s 3) (.s 0)), VS 7 10 0]) (.seq (.region false [ PM 44 7, PM 45 0, PM 46 1, PO 47 (.ixAddr 6 (.s 1) (.s 0)), PO 48 (.load true 6 (.s 0)), PO 49 (.mkSl 6 (.agg [.str [], .int .i64 (0), .int .i64 (0), .int .i64 (0), .int .i64 (0), .int .i64 (0)]) 1 [(0, (.s 0))]), PO 50 (.app 6 56 (.agg [.str [], .int .i64 (0), .int .i64 (0), .int .i64 (0), .int .i64 (0), .int .i64 (0)]) (.s 5) (.s 0)), VS 7 10 0]) (.seq (.region false [ PM 51 7, PM 52 6, PM 53 2, PO 54 (.slice 6 (.s 1) (some (.s 0)) none), PO 55 (.app 6 56 (.agg [.str [], .int .i64 (0), .int .i64
 (0), .int .i64 (0), .int .i64 (0), .int .i64 (0)]) (.s 3) (.s 0)), VS 3 6 0, VO 4 7 (.mov (I6 0))]) (.ret))))))))), [.t 3, .t 4]⟩
noncomputable def t_52 : List (Nat × Ctr) := [(49, c_31), (50, c_25)]
theorem lk_52_49 : look t_52 49 = some c_31 := rfl
theorem lk_52_50 : look t_52 50 = some c_25 := rfl
noncomputable def c_52 : Ctr := mkF t_52 ir15 [.bor, .bor, .bor]
theorem s_52 : Sound Tryz.prog 15 c_52 := mkF_sound _ rfl (snd_cons s_31 (snd_cons s_25 snd_nil)) (by kernel_rfl : chkFn Tryz.prog 15 ir15 ir15_v = true)
theorem M_52 : c_52.modes = [.bor, .bor, .bor] := rfl
theorem Fl_52 : c_52.flat = true := rfl
attribute [go_sem] M_52 Fl_52
attribute [go_sem] lk_52_49 lk_52_50
theorem Fs_52 {list : List Rule} {from_ : Int} {to_ : Int} {y_ : (List Rule) × Int} (h : spec_MoveRule list from_ to_ = some y_) : c_52.F [.sl 6 (List.map Rule_av list), .int .i64 from_, .int .i64 to_] = ⟨true, .tup [.fresh 6 (List.map Rule_av y_.1), .int .i64 y_.2], [.any, .any, .any]⟩ := by
 refine mkF_E (by simp only [flatA, flatB, flat1, List.all_cons, List.all_nil, Bool.and_self, flatE_map (f := Rule_av) (fun _ => rfl)]) ?_
 dsimp only [spec_MoveRule] at h
 obtain ⟨y_1, z1, h⟩ := bd_some h
 have fz1 := Fs_31 z1
 try simp only [go_sem] at fz1
 rcases it_some h with ⟨z2, h⟩ | ⟨z2, h⟩
 ·try simp only [go_sem, n1, n2, n3, n4] at z2
  all_goals
  obtain rfl := so_some h
  refine ⟨0, fun L hL => ?_⟩
  simp only [go_sem, ir15, fz1, z2]
 ·try simp only [go_sem, n1, n2, n3, n4] at z2
  all_goals
  obtain ⟨y_3, z3, h⟩ := bd_some h
  have fz3 := Fs_25 z3
  try simp only [go_sem, z2] at fz3
  obtain ⟨z4, h⟩ := ck_some h
  rcases or_split z4 with ⟨gz4, z4⟩ | gz4
  ·try simp only [go_sem, n1, n2, n3, n4, z2] at gz4
   all_goals
   obtain ⟨y_4, hz4⟩ := Option.isSome_iff_exists.1 z4
   have fz4 := Fs_25 hz4
   try simp only [go_sem, n1, n2, n3, n4, z2, gz4] at hz4
   all_goals
   try simp only [go_sem, z2, gz4] at fz4
   rcases it_some h with ⟨z5, h⟩ | ⟨z5, h⟩
   ·try simp only [go_sem, n1, n2, n3, n4, z2, gz4, hz4] at z5
    all_goals
    obtain rfl := so_some h
    refine ⟨0, fun L hL => ?_⟩
    simp only [go_sem, ir15, fz1, z2, fz3, gz4, hz4, fz4, z5]
   ·try simp only [go_sem, n1, n2, n3, n4, z2, gz4, hz4] at z5
    all_goals
    obtain ⟨z6, h⟩ := ck_some h
    try simp only [go_sem, n1, n2, n3, n4, z2, gz4, hz4, z5] at z6
    all_goals
    obtain ⟨z7, h⟩ := ck_some h
    try simp only [go_sem, n1, n2, n3, n4, z2, gz4, hz4, z5, z6] at z7
    all_goals
    obtain ⟨z8, h⟩ := ck_some h
    try simp only [go_sem, n1, n2, n3, n4, z2, gz4, hz4, z5, z6, z7] at z8
    all_goals
    obtain ⟨z9, h⟩ := ck_some h
    try simp only [go_sem, n1, n2, n3, n4, z2, gz4, hz4, z5, z6, z7, z8] at z9
    all_goals
    obtain ⟨z10, h⟩ := ck_some h
    try simp only [go_sem, n1, n2, n3, n4, z2, gz4, hz4, z5, z6, z7, z8, z9] at z10
    all_goals
    obtain ⟨z11, h⟩ := ck_some h
    try simp only [go_sem, n1, n2, n3, n4, z2, gz4, hz4, z5, z6, z7, z8, z9, z10] at z11
    all_goals
    obtain ⟨z12, h⟩ := ck_some h
    have lz12 := ix_lt z12
    have xz12 := getD_mapD Rule_av list lz12
    try simp only [go_sem] at lz12
    try simp only [go_sem] at xz12
    try simp only [go_sem, n1, n2, n3, n4, z2, gz4, hz4, z5, z6, z7, z8, z9, z10, z11] at z12
    all_goals
    obtain ⟨z13, h⟩ := ck_some h
    try simp only [go_sem, n1, n2, n3, n4, z2, gz4, hz4, z5, z6, z7, z8, z9, z10, z11, z12] at z13
    all_goals
    obtain ⟨z14, h⟩ := ck_some h
    try simp only [go_sem, n1, n2, n3, n4, z2, gz4, hz4, z5, z6, z7, z8, z9, z10, z11, z12, z13] at z14
    all_goals
    obtain ⟨z15, h⟩ := ck_some h
    try simp only [go_sem, n1, n2, n3, n4, z2, gz4, hz4, z5, z6, z7, z8, z9, z10, z11, z12, z13, z14] at z15
    all_goals
    obtain rfl := so_some h
    refine ⟨0, fun L hL => ?_⟩
    simp only [go_sem, ir15, fz1, z2, fz3, gz4, hz4, fz4, z5, z6, z7, z8, z9, z10, z11, z12, lz12, xz12, z13, z14, z15]
  ·have gz4n := no_f gz4
   have gz4nn := no_t gz4n
   try simp only [go_sem, n1, n2, n3, n4, z2] at gz4nn
   all_goals
   rcases it_some h with ⟨z5, h⟩ | ⟨z5, h⟩
   ·try simp only [go_sem, n1, n2, n3, n4, z2, gz4nn] at z5
    all_goals
    obtain rfl := so_some h
    refine ⟨0, fun L hL => ?_⟩
    simp only [go_sem, ir15, fz1, z2, fz3, gz4nn, z5]
   ·try simp only [go_sem, n1, n2, n3, n4, z2, gz4nn] at z5
    all_goals
    (simp_all)


def ir16_v : List Nat := [0, 2]
def ir16 : AFn := ⟨1, 2, .seq (.region false [ VO 1 2 (.alloc (.agg [.str [], .int .i64 (0), .int .i64 (0), .int .i64 (0), .int .i64 (0), .int .i64 (0)]))]) (.seq (.region false [ PM 3 0, PO 4 (.call 37 [(.s 0)]), PO 5 (.call 38 [(.s 0)]), ⟨.no, 0, none, .store 6 (.v 1) (.s 0)⟩]) (.ret)), [.cell true 6 1]⟩
noncomputable def t_53 : List (Nat × Ctr) := [(37, c_1), (38, c_41)]
theorem lk_53_37 : look t_53 37 = some c_1 := rfl
theorem lk_53_38 : look t_53 38 = some c_41 := rfl
noncomputable def c_53 : Ctr := mkN t_53 ir16 [.bor]
theorem s_53 : Sound Tryz.prog 16 c_53 := mkN_sound _ (snd_cons s_1 (snd_cons s_41 snd_nil)) (by kernel_rfl : chkFn Tryz.prog 16 ir16 ir16_v = true)
theorem M_53 : c_53.modes = [.bor] := rfl
theorem Fl_53 : c_53.flat = false := rfl
attribute [go_sem] M_53 Fl_53
attribute [go_sem] lk_53_37 lk_53_38
theorem Fs_53 {code : List UInt8} {y_ : Rule} (h : spec_DrawRuleText code = some y_) : c_53.F [.sl 1 (List.map byteAV code)] = ⟨true, Rule_av y_, [.any]⟩ := by
 refine mkN_E ?_
 dsimp only [spec_DrawRuleText] at h
 obtain ⟨y_1, z1, h⟩ := bd_some h
 have fz1 := Fs_1 z1
 try simp only [go_sem] at fz1
 obtain ⟨y_2, z2, h⟩ := bd_some h
 have fz2 := Fs_41 z2
 try simp only [go_sem] at fz2
 obtain rfl := so_some h
 refine ⟨0, fun L hL => ?_⟩
 simp only [go_sem, ir16, fz1, fz2]


theorem s_hFmt : Sound Tryz.prog 93 c_hFmt := hFmt_is

def ir78_v : List Nat := [0, 1, 4]
def ir78 : AFn := ⟨2, 3, .seq (.region false [ VO 2 4 (.mov (.c (.str [])))]) (.seq (.region false [ PM 5 0, PM 6 1, PO 7 (.call 93 [(.s 1), (.s 0)]), VS 2 4 0]) (.ret)), [.t 2]⟩
noncomputable def t_55 : List (Nat × Ctr) := [(93, c_hFmt)]
theorem lk_55_93 : look t_55 93 = some c_hFmt := rfl
noncomputable def c_55 : Ctr := mkF t_55 ir78 [.bor, .bor]
theorem s_55 : Sound Tryz.prog 78 c_55 := mkF_sound _ rfl (snd_cons s_hFmt snd_nil) (by kernel_rfl : chkFn Tryz.prog 78 ir78 ir78_v = true)
theorem M_55 : c_55.modes = [.bor, .bor] := rfl
theorem Fl_55 : c_55.flat = true := rfl
attribute [go_sem] M_55 Fl_55
attribute [go_sem] lk_55_93
theorem Fs_55 {i : Int} {base : Int} {y_ : (List UInt8)} (h : strconv_FormatInt i base = some y_) : c_55.F [.int .i64 i, .int .i64 base] = ⟨true, .str y_, [.any, .any]⟩ := by
 refine mkF_E rfl ?_
 dsimp only [strconv_FormatInt] at h
 obtain ⟨y_1, z1, h⟩ := bd_some h
 have fz1 := Fs_hFmt z1
 try simp only [go_sem] at fz1
 obtain rfl := so_some h
 refine ⟨0, fun L hL => ?_⟩
 simp only [go_sem, ir78, fz1]


def ir51_v : List Nat := [0, 2]
def ir51 : AFn := ⟨1, 2, .seq (.region false [ VO 1 2 (.mov (.c (.str [])))]) (.seq (.region false [ PM 3 0, PO 4 (.call 78 [(.s 0), (I6 10)]), VS 1 2 0]) (.ret)), [.t 1]⟩
noncomputable def t_56 : List (Nat × Ctr) := [(78, c_55)]
theorem lk_56_78 : look t_56 78 = some c_55 := rfl
noncomputable def c_56 : Ctr := mkF t_56 ir51 [.bor]
theorem s_56 : Sound Tryz.prog 51 c_56 := mkF_sound _ rfl (snd_cons s_55 snd_nil) (by kernel_rfl : chkFn Tryz.prog 51 ir51 ir51_v = true)
theorem M_56 : c_56.modes = [.bor] := rfl
theorem Fl_56 : c_56.flat = true := rfl
attribute [go_sem] M_56 Fl_56
attribute [go_sem] lk_56_78
theorem Fs_56 {n : Int} {y_ : (List UInt8)} (h : impl_Decimal n = some y_) : c_56.F [.int .i64 n] = ⟨true, .str y_, [.any]⟩ := by
 refine mkF_E rfl ?_
 dsimp only [impl_Decimal] at h
 obtain ⟨y_1, z1, h⟩ := bd_some h
 have fz1 := Fs_55 z1
 try simp only [go_sem] at fz1
 obtain rfl := so_some h
 refine ⟨0, fun L hL => ?_⟩
 simp only [go_sem, ir51, fz1]


def ir53_v : List Nat := [0]
def ir53 : AFn := ⟨0, 1, .seq (.region false [ VO 0 0 (.newnil 1)]) (.seq (.region false [ PO 1 (.mkSl 1 (.str []) 4 [(0, (.c (.str [97, 110, 121]))), (1, (.c (.str [115, 105, 110, 101]))), (2, (.c (.str [115, 97, 119]))), (3, (.c (.str [100, 105, 112, 115])))]), VS 0 0 0]) (.ret)), [.t 0]⟩
noncomputable def t_57 : List (Nat × Ctr) := []
noncomputable def c_57 : Ctr := mkF t_57 ir53 []
theorem s_57 : Sound Tryz.prog 53 c_57 := mkF_sound _ rfl snd_nil (by kernel_rfl : chkFn Tryz.prog 53 ir53 ir53_v = true)
theorem M_57 : c_57.modes = [] := rfl
theorem Fl_57 : c_57.flat = true := rfl
attribute [go_sem] M_57 Fl_57
theorem Fs_57  {y_ : (List (List UInt8))} (h : impl_shapeNames = some y_) : c_57.F [] = ⟨true, .fresh 1 (List.map AV.str y_), []⟩ := by
 refine mkF_E (by simp only [flatA, flatB, flat1, List.all_cons, List.all_nil, Bool.and_self, flatE_map (f := AV.str) (fun _ => rfl)]) ?_
 dsimp only [impl_shapeNames] at h
 obtain rfl := so_some h
 refine ⟨0, fun L hL => ?_⟩
 simp only [go_sem, ir53]


theorem s_hJoin : Sound Tryz.prog 52 c_hJoin := hJoin_is

def ir17_v : List Nat := [0, 1, 2, 3, 4]
def ir17 : AFn := ⟨1, 5, .seq (.region false [ VO 1 1 (.box (.v 0)), VO 2 2 (.mov (.c (.str [])))]) (.seq (.test false [ PO 5 (.load true 6 (.v 1)), PO 6 (.call 40 [(.s 0)]), PO 7 (.un .not (.s 0))] (.s 0) (.seq (.region false [ VO 2 2 (.mov (.c (.str [])))]) (.ret)) (.skip)) (.seq (.anyo 8 [ SO 0 8 (.fldAddr 1 (.v 1)), SO 1 9 (.load false 1 (.s 0)), SO 2 10 (.callp 51 [(.s 1)]), SO 3 11 (.bin false .add (.s 2) (.c (.str [46, 46]))), SO 4 12 (.fldAddr 2 (.v 1)), SO 5 13 (.load false 1 (.s 4)), SO 6 14 (.callp 51 [(.s 5)]), SO 7 15 (.bin false .add (.s 3) (.s 6)), VS 3 3 7] [] .skip) (.seq
 (.anyo 8 [ SO 0 16 (.fldAddr 3 (.v 1)), SO 1 17 (.load false 1 (.s 0)), SO 2 18 (.callp 51 [(.s 1)]), SO 3 19 (.bin false .add (.s 2) (.c (.str [46, 46]))), SO 4 20 (.fldAddr 4 (.v 1)), SO 5 21 (.load false 1 (.s 4)), SO 6 22 (.callp 51 [(.s 5)]), SO 7 23 (.bin false .add (.s 3) (.s 6)), VS 4 4 7] [] .skip) (.seq (.anyo 12 [ SO 0 24 (.fldAddr 0 (.v 1)), SO 1 25 (.load false 1 (.s 0)), SO 2 26 (.bin false .add (.s 1) (.c (.str [58]))), SO 3 27 (.mov (.v 3)), SO 4 28 (.mov (.v 4)), SO 5 29 (.pur (.call 53 [])), SO 6 30 (.fldAddr 5 (.v 1)), SO 7 31 (.load false 1 (.s 6)), SO 8 32 (.ixAddr 1 (.s
 5) (.s 7)), SO 9 33 (.load false 1 (.s 8)), SO 10 34 (.pur (.mkSl 1 (.str []) 6 [(0, (.s 2)), (1, (.c (.str [97, 109, 112]))), (2, (.s 3)), (3, (.c (.str [112, 101, 114, 105, 111, 100]))), (4, (.s 4)), (5, (.s 9))])), SO 11 35 (.callp 52 [(.s 10), (.c (.str [32]))]), VS 2 2 11] [] .skip) (.ret))))), [.t 2]⟩
noncomputable def t_59 : List (Nat × Ctr) := [(40, c_14), (51, c_56), (53, c_57), (52, c_hJoin)]
theorem lk_59_40 : look t_59 40 = some c_14 := rfl
theorem lk_59_51 : look t_59 51 = some c_56 := rfl
theorem lk_59_53 : look t_59 53 = some c_57 := rfl
theorem lk_59_52 : look t_59 52 = some c_hJoin := rfl
noncomputable def c_59 : Ctr := mkF t_59 ir17 [.bor]
theorem s_59 : Sound Tryz.prog 17 c_59 := mkF_sound _ rfl (snd_cons s_14 (snd_cons s_56 (snd_cons s_57 (snd_cons s_hJoin snd_nil)))) (by kernel_rfl : chkFn Tryz.prog 17 ir17 ir17_v = true)
theorem M_59 : c_59.modes = [.bor] := rfl
theorem Fl_59 : c_59.flat = true := rfl
attribute [go_sem] M_59 Fl_59
attribute [go_sem] lk_59_40 lk_59_51 lk_59_53 lk_59_52
theorem Fs_59 {r : Rule} {y_ : (List UInt8)} (h : impl_RuleText r = some y_) : c_59.F [Rule_av r] = ⟨true, .str y_, [.any]⟩ := by
 refine mkF_E rfl ?_
 dsimp only [impl_RuleText] at h
 obtain ⟨y_1, z1, h⟩ := bd_some h
 have fz1 := Fs_14 z1
 try simp only [go_sem] at fz1
 rcases it_some h with ⟨z2, h⟩ | ⟨z2, h⟩
 ·try simp only [go_sem, n1, n2, n3, n4] at z2
  all_goals
  obtain rfl := so_some h
  refine ⟨0, fun L hL => ?_⟩
  simp only [go_sem, ir17, fz1, z2]
 ·try simp only [go_sem, n1, n2, n3, n4] at z2
  all_goals
  obtain ⟨y_3, z3, h⟩ := bd_some h
  have fz3 := Fs_56 z3
  try simp only [go_sem, z2] at fz3
  obtain ⟨z4, h⟩ := ck_some h
  try simp only [go_sem, n1, n2, n3, n4, z2] at z4
  all_goals
  obtain ⟨y_5, z5, h⟩ := bd_some h
  have fz5 := Fs_56 z5
  try simp only [go_sem, z2, z4] at fz5
  obtain ⟨z6, h⟩ := ck_some h
  try simp only [go_sem, n1, n2, n3, n4, z2, z4] at z6
  all_goals
  obtain ⟨y_7, z7, h⟩ := bd_some h
  have fz7 := Fs_56 z7
  try simp only [go_sem, z2, z4, z6] at fz7
  obtain ⟨z8, h⟩ := ck_some h
  try simp only [go_sem, n1, n2, n3, n4, z2, z4, z6] at z8
  all_goals
  obtain ⟨y_9, z9, h⟩ := bd_some h
  have fz9 := Fs_56 z9
  try simp only [go_sem, z2, z4, z6, z8] at fz9
  obtain ⟨z10, h⟩ := ck_some h
  try simp only [go_sem, n1, n2, n3, n4, z2, z4, z6, z8] at z10
  all_goals
  obtain ⟨z11, h⟩ := ck_some h
  try simp only [go_sem, n1, n2, n3, n4, z2, z4, z6, z8, z10] at z11
  all_goals
  obtain ⟨y_12, z12, h⟩ := bd_some h
  have fz12 := Fs_57 z12
  try simp only [go_sem, z2, z4, z6, z8, z10, z11] at fz12
  obtain ⟨z13, h⟩ := ck_some h
  have lz13 := ix_lt z13
  have xz13 := getD_mapD AV.str y_12 lz13
  try simp only [go_sem] at lz13
  try simp only [go_sem] at xz13
  try simp only [go_sem, n1, n2, n3, n4, z2, z4, z6, z8, z10, z11] at z13
  all_goals
  obtain ⟨y_14, z14, h⟩ := bd_some h
  have fz14 := Fs_hJoin z14
  try simp only [go_sem, z2, z4, z6, z8, z10, z11, z13] at fz14
  obtain rfl := so_some h
  refine ⟨0, fun L hL => ?_⟩
  simp only [go_sem, ir17, fz1, z2, fz3, z4, fz5, z6, fz7, z8, fz9, z10, z11, fz12, z13, lz13, xz13, fz14]


def ir56_b0 : IR := .seq (.region false [ VO 6 9 (.bin false .lss (.v 5) (.v 4))]) (.seq (.cond (.v 6) (.skip) (.exit 0)) (.seq (.block 1 (.seq (.region false [ PM 10 5, VS 3 5 0]) (.test false [ PM 11 1, PM 12 0, PM 13 3, PO 14 (.ixAddr 1 (.s 1) (.s 0)), PO 15 (.load false 1 (.s 0)), PO 16 (.bin false .eql (.s 4) (.s 0))] (.s 0) (.seq (.region false [ PM 17 3, VS 2 4 0]) (.ret)) (.skip)))) (.region false [ PO 18 (.bin false .add (.v 5) (I6 1)), VS 5 8 0])))
def ir56_k0 : List Bool := [true, true, false, false, true, true, false]
def ir56_o0 : List Bool := [false, false, false, false, false, false, false]
def ir56_r0 : List Bool := [false, false, true, false, false, false, false]
def ir56_v : List Nat := [0, 1, 4, 5, 7, 8, 9]
def ir56 : AFn := ⟨2, 7, .seq (.region false [ VO 2 4 (.mov (I6 0))]) (.seq (.seq (.region false [ PM 6 0, VO 4 7 (.len false (.s 0)), VO 5 8 (.mov (I6 0))]) (.block 0 (.loop ir56_k0 ir56_o0 ir56_r0 ir56_b0))) (.seq (.region false [ VO 2 4 (.mov (.c (.int .i64 (-1))))]) (.ret))), [.t 2]⟩
noncomputable def t_60 : List (Nat × Ctr) := []
noncomputable def c_60 : Ctr := mkF t_60 ir56 [.bor, .bor]
theorem s_60 : Sound Tryz.prog 56 c_60 := mkF_sound _ rfl snd_nil (by kernel_rfl : chkFn Tryz.prog 56 ir56 ir56_v = true)
theorem M_60 : c_60.modes = [.bor, .bor] := rfl
theorem Fl_60 : c_60.flat = true := rfl
attribute [go_sem] M_60 Fl_60
def E_60_l1 (s_ : List (List UInt8)) (v : List UInt8) (t7 : Int) : Int → St
 | t8 => ⟨[.sl 1 (List.map AV.str s_), .str v, .any, .any, .int .i64 t7, .int .i64 t8, .any], [], [], true⟩
def R_60_l1 (s_ : List (List UInt8)) (v : List UInt8) (t7 : Int) : (Unit ⊕ Int) → Res
 | .inl y => (.exit 0, ⟨[.any, .any, .any, .any, .any, .any, .any], [], [], true⟩)
 | .inr y => (.ret, ⟨[.any, .any, .int .i64 y, .any, .any, .any, .any], [], [], true⟩)
theorem slices_Index_string_string_l1_ex {s_ : List (List UInt8)} {v : List UInt8} {t7 : Int} {sgm_ : Int} {rho_ : Unit ⊕ Int} (h : whileE (slices_Index_string_string_l1 s_ v t7) sgm_ = some rho_) : ∃ L0, ∀ L, L0 ≤ L → iter (exec (look t_60) L ir56_b0) ir56_k0 ir56_o0 ir56_r0 L (E_60_l1 s_ v t7 sgm_) = R_60_l1 s_ v t7 rho_ := by
 refine loop_ex (E := E_60_l1 s_ v t7) (R := R_60_l1 s_ v t7) (fun y => by first | (intro c; cases c) | (rcases y with y | y <;> (intro c; cases c)) | (rcases y with y | y | y <;> (intro c; cases c))) ?_ h
 clear h
 intro t8 o_ h
 dsimp only [slices_Index_string_string_l1] at h
 rcases it_some h with ⟨z1, h⟩ | ⟨z1, h⟩
 ·try simp only [go_sem, n1, n2, n3, n4] at z1
  all_goals
  obtain ⟨z2, h⟩ := ck_some h
  have lz2 := ix_lt z2
  have xz2 := getD_mapD AV.str s_ lz2
  try simp only [go_sem] at lz2
  try simp only [go_sem] at xz2
  try simp only [go_sem, n1, n2, n3, n4, z1] at z2
  all_goals
  rcases it_some h with ⟨z3, h⟩ | ⟨z3, h⟩
  ·try simp only [go_sem, n1, n2, n3, n4, z1, z2] at z3
   all_goals
   obtain rfl := so_some h
   refine ⟨0, fun L hL => ?_⟩
   simp only [go_sem, ir56, E_60_l1, R_60_l1, ir56_b0, ir56_k0, ir56_o0, ir56_r0, z1, z2, lz2, xz2, z3]
  ·try simp only [go_sem, n1, n2, n3, n4, z1, z2] at z3
   all_goals
   obtain rfl := so_some h
   refine ⟨0, fun L hL => ?_⟩
   simp only [go_sem, ir56, E_60_l1, R_60_l1, ir56_b0, ir56_k0, ir56_o0, ir56_r0, z1, z2, lz2, xz2, z3]
 ·try simp only [go_sem, n1, n2, n3, n4] at z1
  all_goals
  obtain rfl := so_some h
  refine ⟨0, fun L hL => ?_⟩
  simp only [go_sem, ir56, E_60_l1, R_60_l1, ir56_b0, ir56_k0, ir56_o0, ir56_r0, z1]

theorem Fs_60 {s_ : List (List UInt8)} {v : List UInt8} {y_ : Int} (h : slices_Index_string_string s_ v = some y_) : c_60.F [.sl 1 (List.map AV.str s_), .str v] = ⟨true, .int .i64 y_, [.any, .any]⟩ := by
 refine mkF_E rfl ?_
 dsimp only [slices_Index_string_string] at h
 obtain ⟨y_4, z4, h⟩ := bd_some h
 obtain ⟨Lz4, ez4⟩ := slices_Index_string_string_l1_ex z4
 rcases y_4 with y_4a | y_4b
 ·dsimp only at h
  obtain rfl := so_some h
  refine ⟨Lz4, fun L hL => ?_⟩
  have ez4 := ez4 L (by omega)
  try simp only [go_sem, E_60_l1, R_60_l1, ir56_k0, ir56_o0, ir56_r0] at ez4
  simp only [go_sem, ir56, E_60_l1, R_60_l1, ir56_k0, ir56_o0, ir56_r0, ez4]
 ·dsimp only at h
  obtain rfl := so_some h
  refine ⟨Lz4, fun L hL => ?_⟩
  have ez4 := ez4 L (by omega)
  try simp only [go_sem, E_60_l1, R_60_l1, ir56_k0, ir56_o0, ir56_r0] at ez4
  simp only [go_sem, ir56, E_60_l1, R_60_l1, ir56_k0, ir56_o0, ir56_r0, ez4]


theorem s_hSplit : Sound Tryz.prog 54 c_hSplit := hSplit_is

theorem s_hCut : Sound Tryz.prog 83 c_hCut := hCut_is

theorem s_hRdDec : Sound Tryz.prog 84 c_hRdDec := hRdDec_is

def ir55_v : List Nat := [0, 2, 3, 4, 5, 6, 8, 9, 10, 11]
def ir55 : AFn := ⟨1, 10, .seq (.region false [ VO 1 2 (.mov (I6 0)), VO 2 3 (.mov (I6 0)), VO 3 4 (.mov (.c (.bool false)))]) (.seq (.region false [ PM 13 0, PO 14 (.call 83 [(.s 0), (.c (.str [46, 46]))]), PO 12 (.mov (.s 0)), PO 15 (.ext (.s 0) 0), PO 16 (.ext (.s 1) 1), PO 17 (.ext (.s 2) 2), VS 4 5 2, VS 5 6 1, PO 7 (.mov (.s 0))]) (.seq (.region false [ PM 19 4, PO 20 (.call 84 [(.s 0)]), PO 18 (.mov (.s 0)), PO 21 (.ext (.s 0) 0), PO 22 (.ext (.s 1) 1), VS 6 8 1, VS 7 9 0]) (.seq (.region false [ PM 24 5, PO 25 (.call 84 [(.s 0)]), PO 23 (.mov (.s 0)), PO 26 (.ext (.s 0) 0), PO 27 (.ext
 (.s 1) 1), VS 8 10 1, VS 9 11 0]) (.seq (.region false [ PM 28 6, PM 29 8, PM 30 7, PO 31 (.mov (.s 0)), ⟨.push, 32, (some ((.s 0), true)), .mov (.v 9)⟩, PO 33 (.pick (.s 1) (.s 0) (.c (.bool false))), VS 1 2 5, VS 2 3 4, VS 3 4 0]) (.ret))))), [.t 1, .t 2, .t 3]⟩
noncomputable def t_64 : List (Nat × Ctr) := [(83, c_hCut), (84, c_hRdDec)]
theorem lk_64_83 : look t_64 83 = some c_hCut := rfl
theorem lk_64_84 : look t_64 84 = some c_hRdDec := rfl
noncomputable def c_64 : Ctr := mkF t_64 ir55 [.bor]
theorem s_64 : Sound Tryz.prog 55 c_64 := mkF_sound _ rfl (snd_cons s_hCut (snd_cons s_hRdDec snd_nil)) (by kernel_rfl : chkFn Tryz.prog 55 ir55 ir55_v = true)
theorem M_64 : c_64.modes = [.bor] := rfl
theorem Fl_64 : c_64.flat = true := rfl
attribute [go_sem] M_64 Fl_64
attribute [go_sem] lk_64_83 lk_64_84
theorem Fs_64 {s_ : List UInt8} {y_ : Int × Int × Bool} (h : impl_readRange s_ = some y_) : c_64.F [.str s_] = ⟨true, .tup [.int .i64 y_.1, .int .i64 y_.2.1, .bool y_.2.2], [.any]⟩ := by
 refine mkF_E rfl ?_
 dsimp only [impl_readRange] at h
 obtain ⟨y_1, z1, h⟩ := bd_some h
 have fz1 := Fs_hCut z1
 try simp only [go_sem] at fz1
 obtain ⟨y_2, z2, h⟩ := bd_some h
 have fz2 := Fs_hRdDec z2
 try simp only [go_sem] at fz2
 obtain ⟨y_3, z3, h⟩ := bd_some h
 have fz3 := Fs_hRdDec z3
 try simp only [go_sem] at fz3
 obtain rfl := so_some h
 refine ⟨0, fun L hL => ?_⟩
 simp only [go_sem, ir55, fz1, fz2, fz3]


def ir102_v : List Nat := [0, 1, 4]
def ir102 : AFn := ⟨2, 3, .seq (.region false [ VO 2 4 (.mov (.c (.bool false)))]) (.seq (.region false [ PM 5 0, PO 6 (.len true (.s 0)), PM 7 1, PO 8 (.len true (.s 0)), PO 9 (.bin false .geq (.s 2) (.s 0)), PO 10 (.mov (.s 0)), ⟨.push, 11, (some ((.s 0), true)), .mov (.v 0)⟩, ⟨.push, 12, (some ((.s 1), true)), .mov (.v 0)⟩, ⟨.push, 13, (some ((.s 2), true)), .len true (.s 0)⟩, ⟨.push, 14, (some ((.s 3), true)), .mov (.v 1)⟩, ⟨.push, 15, (some ((.s 4), true)), .len true (.s 0)⟩, ⟨.push, 16, (some ((.s 5), true)), .bin false .sub (.s 2) (.s 0)⟩, ⟨.push, 17, (some ((.s 6), true)), .slice 0 (.s
 5) (some (.s 0)) none⟩, ⟨.push, 18, (some ((.s 7), true)), .mov (.v 1)⟩, ⟨.push, 19, (some ((.s 8), true)), .bin false .eql (.s 1) (.s 0)⟩, PO 20 (.pick (.s 9) (.s 0) (.c (.bool false))), VS 2 4 0]) (.ret)), [.t 2]⟩
noncomputable def t_65 : List (Nat × Ctr) := []
noncomputable def c_65 : Ctr := mkF t_65 ir102 [.bor, .bor]
theorem s_65 : Sound Tryz.prog 102 c_65 := mkF_sound _ rfl snd_nil (by kernel_rfl : chkFn Tryz.prog 102 ir102 ir102_v = true)
theorem M_65 : c_65.modes = [.bor, .bor] := rfl
theorem Fl_65 : c_65.flat = true := rfl
attribute [go_sem] M_65 Fl_65
theorem Fs_65 {s_ : List UInt8} {suffix : List UInt8} {y_ : Bool} (h : internal_stringslite_HasSuffix s_ suffix = some y_) : c_65.F [.str s_, .str suffix] = ⟨true, .bool y_, [.any, .any]⟩ := by
 refine mkF_E rfl ?_
 dsimp only [internal_stringslite_HasSuffix] at h
 obtain ⟨z1, h⟩ := ck_some h
 rcases or_split z1 with ⟨gz1, z1⟩ | gz1
 ·try simp only [go_sem, n1, n2, n3, n4] at gz1
  all_goals
  try simp only [go_sem, n1, n2, n3, n4, gz1] at z1
  all_goals
  obtain rfl := so_some h
  refine ⟨0, fun L hL => ?_⟩
  simp only [go_sem, ir102, gz1, z1]
 ·try simp only [go_sem, n1, n2, n3, n4] at gz1
  all_goals
  obtain rfl := so_some h
  refine ⟨0, fun L hL => ?_⟩
  simp only [go_sem, ir102, gz1]


def ir85_v : List Nat := [0, 1, 4]
def ir85 : AFn := ⟨2, 3, .seq (.region false [ VO 2 4 (.mov (.c (.str [])))]) (.seq (.test false [ PM 5 0, PM 6 1, PO 7 (.call 102 [(.s 1), (.s 0)])] (.s 0) (.seq (.region false [ PM 8 0, PM 9 0, PO 10 (.len true (.s 0)), PM 11 1, PO 12 (.len true (.s 0)), PO 13 (.bin false .sub (.s 2) (.s 0)), PO 14 (.slice 0 (.s 5) none (some (.s 0))), VS 2 4 0]) (.ret)) (.skip)) (.seq (.region false [ PM 15 0, VS 2 4 0]) (.ret))), [.t 2]⟩
noncomputable def t_66 : List (Nat × Ctr) := [(102, c_65)]
theorem lk_66_102 : look t_66 102 = some c_65 := rfl
noncomputable def c_66 : Ctr := mkF t_66 ir85 [.bor, .bor]
theorem s_66 : Sound Tryz.prog 85 c_66 := mkF_sound _ rfl (snd_cons s_65 snd_nil) (by kernel_rfl : chkFn Tryz.prog 85 ir85 ir85_v = true)
theorem M_66 : c_66.modes = [.bor, .bor] := rfl
theorem Fl_66 : c_66.flat = true := rfl
attribute [go_sem] M_66 Fl_66
attribute [go_sem] lk_66_102
theorem Fs_66 {s_ : List UInt8} {suffix : List UInt8} {y_ : (List UInt8)} (h : internal_stringslite_TrimSuffix s_ suffix = some y_) : c_66.F [.str s_, .str suffix] = ⟨true, .str y_, [.any, .any]⟩ := by
 refine mkF_E rfl ?_
 dsimp only [internal_stringslite_TrimSuffix] at h
 obtain ⟨y_1, z1, h⟩ := bd_some h
 have fz1 := Fs_65 z1
 try simp only [go_sem] at fz1
 rcases it_some h with ⟨z2, h⟩ | ⟨z2, h⟩
 ·try simp only [go_sem, n1, n2, n3, n4] at z2
  all_goals
  obtain ⟨z3, h⟩ := ck_some h
  try simp only [go_sem, n1, n2, n3, n4, z2] at z3
  all_goals
  obtain rfl := so_some h
  refine ⟨0, fun L hL => ?_⟩
  simp only [go_sem, ir85, fz1, z2, z3]
 ·try simp only [go_sem, n1, n2, n3, n4] at z2
  all_goals
  obtain rfl := so_some h
  refine ⟨0, fun L hL => ?_⟩
  simp only [go_sem, ir85, fz1, z2]


def ir57_v : List Nat := [0, 1, 4]
def ir57 : AFn := ⟨2, 3, .seq (.region false [ VO 2 4 (.mov (.c (.str [])))]) (.seq (.region false [ PM 5 0, PM 6 1, PO 7 (.call 85 [(.s 1), (.s 0)]), VS 2 4 0]) (.ret)), [.t 2]⟩
noncomputable def t_67 : List (Nat × Ctr) := [(85, c_66)]
theorem lk_67_85 : look t_67 85 = some c_66 := rfl
noncomputable def c_67 : Ctr := mkF t_67 ir57 [.bor, .bor]
theorem s_67 : Sound Tryz.prog 57 c_67 := mkF_sound _ rfl (snd_cons s_66 snd_nil) (by kernel_rfl : chkFn Tryz.prog 57 ir57 ir57_v = true)
theorem M_67 : c_67.modes = [.bor, .bor] := rfl
theorem Fl_67 : c_67.flat = true := rfl
attribute [go_sem] M_67 Fl_67
attribute [go_sem] lk_67_85
theorem Fs_67 {s_ : List UInt8} {suffix : List UInt8} {y_ : (List UInt8)} (h : strings_TrimSuffix s_ suffix = some y_) : c_67.F [.str s_, .str suffix] = ⟨true, .str y_, [.any, .any]⟩ := by
 refine mkF_E rfl ?_
 dsimp only [strings_TrimSuffix] at h
 obtain ⟨y_1, z1, h⟩ := bd_some h
 have fz1 := Fs_66 z1
 try simp only [go_sem] at fz1
 obtain rfl := so_some h
 refine ⟨0, fun L hL => ?_⟩
 simp only [go_sem, ir57, fz1]


def ir18_v : List Nat := [0, 2, 3, 4, 5, 6, 7, 8, 9, 10, 11, 12]
def ir18 : AFn := ⟨1, 12, .seq (.region false [ VO 1 2 (.alloc (.agg [.str [], .int .i64 (0), .int .i64 (0), .int .i64 (0), .int .i64 (0), .int .i64 (0)])), VO 2 3 (.mov (.c (.bool false)))]) (.seq (.region false [ PM 13 0, PO 14 (.call 54 [(.s 0), (.c (.str [32]))]), VS 3 4 0]) (.seq (.test false [ PM 15 3, PO 16 (.len false (.s 0)), PO 17 (.bin false .neq (.s 0) (I6 6))] (.s 0) (.seq (.region false [ PO 18 (.build [.str [], .int .i64 (0), .int .i64 (0), .int .i64 (0), .int .i64 (0), .int .i64 (0)] []), ⟨.no, 0, none, .store 6 (.v 1) (.s 0)⟩, VO 2 3 (.mov (.c (.bool false)))]) (.ret)) (.skip))
 (.seq (.region false [ PM 20 3, PO 21 (.ixAddr 1 (.s 0) (I6 2)), PO 22 (.load false 1 (.s 0)), PO 23 (.call 55 [(.s 0)]), PO 19 (.mov (.s 0)), PO 24 (.ext (.s 0) 0), PO 25 (.ext (.s 1) 1), PO 26 (.ext (.s 2) 2), VS 4 5 2, VS 5 6 1, VS 6 7 0]) (.seq (.region false [ PM 28 3, PO 29 (.ixAddr 1 (.s 0) (I6 4)), PO 30 (.load false 1 (.s 0)), PO 31 (.call 55 [(.s 0)]), PO 27 (.mov (.s 0)), PO 32 (.ext (.s 0) 0), PO 33 (.ext (.s 1) 1), PO 34 (.ext (.s 2) 2), VS 7 8 2, VS 8 9 1, VS 9 10 0]) (.seq (.anyo 5 [ SO 0 35 (.pur (.call 53 [])), SO 1 36 (.mov (.v 3)), SO 2 37 (.ixAddr 1 (.s 1) (I6 5)), SO 3 38
 (.load false 1 (.s 2)), SO 4 39 (.callp 56 [(.s 0), (.s 3)]), VS 10 11 4] [] .skip) (.seq (.test false [ PM 40 6, PO 41 (.un .not (.s 0)), PO 42 (.mov (.s 0)), ⟨.push, 43, (some ((.s 0), false)), .mov (.v 9)⟩, ⟨.push, 44, (some ((.s 1), false)), .un .not (.s 0)⟩, PO 45 (.pick (.s 2) (.c (.bool true)) (.s 0)), PO 46 (.mov (.s 0)), ⟨.push, 47, (some ((.s 0), false)), .mov (.v 10)⟩, ⟨.push, 48, (some ((.s 1), false)), .bin false .lss (.s 0) (I6 0)⟩, PO 49 (.pick (.s 2) (.c (.bool true)) (.s 0))] (.s 0) (.seq (.region false [ PO 50 (.build [.str [], .int .i64 (0), .int .i64 (0), .int .i64 (0),
 .int .i64 (0), .int .i64 (0)] []), ⟨.no, 0, none, .store 6 (.v 1) (.s 0)⟩, VO 2 3 (.mov (.c (.bool false)))]) (.ret)) (.skip)) (.seq (.region false [ PM 51 3, PO 52 (.ixAddr 1 (.s 0) (I6 0)), PO 53 (.load false 1 (.s 0)), PO 54 (.call 57 [(.s 0), (.c (.str [58]))]), PM 55 4, PM 56 5, PM 57 7, PM 58 8, PM 59 10, PO 60 (.build [.str [], .int .i64 (0), .int .i64 (0), .int .i64 (0), .int .i64 (0), .int .i64 (0)] [(0, 1, (.s 5)), (1, 1, (.s 4)), (2, 1, (.s 3)), (3, 1, (.s 2)), (4, 1, (.s 1)), (5, 1, (.s 0))]), VO 11 12 (.alloc (.agg [.str [], .int .i64 (0), .int .i64 (0), .int .i64 (0), .int .i64
 (0), .int .i64 (0)])), ⟨.no, 0, none, .store 6 (.v 11) (.s 0)⟩]) (.seq (.test false [ PO 61 (.load true 6 (.v 11)), PO 62 (.call 17 [(.s 0)]), PM 63 0, PO 64 (.bin false .neq (.s 1) (.s 0))] (.s 0) (.seq (.region false [ PO 65 (.build [.str [], .int .i64 (0), .int .i64 (0), .int .i64 (0), .int .i64 (0), .int .i64 (0)] []), ⟨.no, 0, none, .store 6 (.v 1) (.s 0)⟩, VO 2 3 (.mov (.c (.bool false)))]) (.ret)) (.skip)) (.seq (.region false [ PO 66 (.load true 6 (.v 11)), ⟨.no, 0, none, .store 6 (.v 1) (.s 0)⟩, VO 2 3 (.mov (.c (.bool true)))]) (.ret)))))))))), [.cell true 6 1, .t 2]⟩
noncomputable def t_68 : List (Nat × Ctr) := [(54, c_hSplit), (55, c_64), (53, c_57), (56, c_60), (57, c_67), (17, c_59)]
theorem lk_68_54 : look t_68 54 = some c_hSplit := rfl
theorem lk_68_55 : look t_68 55 = some c_64 := rfl
theorem lk_68_53 : look t_68 53 = some c_57 := rfl
theorem lk_68_56 : look t_68 56 = some c_60 := rfl
theorem lk_68_57 : look t_68 57 = some c_67 := rfl
theorem lk_68_17 : look t_68 17 = some c_59 := rfl
noncomputable def c_68 : Ctr := mkN t_68 ir18 [.bor]
theorem s_68 : Sound Tryz.prog 18 c_68 := mkN_sound _ (snd_cons s_hSplit (snd_cons s_64 (snd_cons s_57 (snd_cons s_60 (snd_cons s_67 (snd_cons s_59 snd_nil)))))) (by kernel_rfl : chkFn Tryz.prog 18 ir18 ir18_v = true)
theorem M_68 : c_68.modes = [.bor] := rfl
theorem Fl_68 : c_68.flat = false := rfl
attribute [go_sem] M_68 Fl_68
attribute [go_sem] lk_68_54 lk_68_55 lk_68_53 lk_68_56 lk_68_57 lk_68_17
theorem Fs_68 {s_ : List UInt8} {y_ : Rule × Bool} (h : impl_ReadRule s_ = some y_) : c_68.F [.str s_] = ⟨true, .tup [Rule_av y_.1, .bool y_.2], [.any]⟩ := by
 refine mkN_E ?_
 dsimp only [impl_ReadRule] at h
 obtain ⟨y_1, z1, h⟩ := bd_some h
 have fz1 := Fs_hSplit z1
 try simp only [go_sem] at fz1
 rcases it_some h with ⟨z2, h⟩ | ⟨z2, h⟩
 ·try simp only [go_sem, n1, n2, n3, n4] at z2
  all_goals
  obtain rfl := so_some h
  refine ⟨0, fun L hL => ?_⟩
  simp only [go_sem, ir18, fz1, z2]
 ·try simp only [go_sem, n1, n2, n3, n4] at z2
  all_goals
  obtain ⟨z3, h⟩ := ck_some h
  have lz3 := ix_lt z3
  have xz3 := getD_mapD AV.str y_1 lz3
  try simp only [go_sem] at lz3
  try simp only [go_sem] at xz3
  try simp only [go_sem, n1, n2, n3, n4, z2] at z3
  all_goals
  obtain ⟨y_4, z4, h⟩ := bd_some h
  have fz4 := Fs_64 z4
  try simp only [go_sem, z2, z3] at fz4
  obtain ⟨z5, h⟩ := ck_some h
  have lz5 := ix_lt z5
  have xz5 := getD_mapD AV.str y_1 lz5
  try simp only [go_sem] at lz5
  try simp only [go_sem] at xz5
  try simp only [go_sem, n1, n2, n3, n4, z2, z3] at z5
  all_goals
  obtain ⟨y_6, z6, h⟩ := bd_some h
  have fz6 := Fs_64 z6
  try simp only [go_sem, z2, z3, z5] at fz6
  obtain ⟨y_7, z7, h⟩ := bd_some h
  have fz7 := Fs_57 z7
  try simp only [go_sem, z2, z3, z5] at fz7
  obtain ⟨z8, h⟩ := ck_some h
  have lz8 := ix_lt z8
  have xz8 := getD_mapD AV.str y_1 lz8
  try simp only [go_sem] at lz8
  try simp only [go_sem] at xz8
  try simp only [go_sem, n1, n2, n3, n4, z2, z3, z5] at z8
  all_goals
  obtain ⟨y_9, z9, h⟩ := bd_some h
  have fz9 := Fs_60 z9
  try simp only [go_sem, z2, z3, z5, z8] at fz9
  rcases it_some h with ⟨z10, h⟩ | ⟨z10, h⟩
  ·try simp only [go_sem, n1, n2, n3, n4, z2, z3, z5, z8] at z10
   all_goals
   obtain rfl := so_some h
   refine ⟨0, fun L hL => ?_⟩
   simp only [go_sem, ir18, fz1, z2, z3, lz3, xz3, fz4, z5, lz5, xz5, fz6, fz7, z8, lz8, xz8, fz9, z10]
  ·try simp only [go_sem, n1, n2, n3, n4, z2, z3, z5, z8] at z10
   all_goals
   obtain ⟨z11, h⟩ := ck_some h
   have lz11 := ix_lt z11
   have xz11 := getD_mapD AV.str y_1 lz11
   try simp only [go_sem] at lz11
   try simp only [go_sem] at xz11
   try simp only [go_sem, n1, n2, n3, n4, z2, z3, z5, z8, z10] at z11
   all_goals
   obtain ⟨y_12, z12, h⟩ := bd_some h
   have fz12 := Fs_67 z12
   try simp only [go_sem, z2, z3, z5, z8, z10, z11] at fz12
   obtain ⟨y_13, z13, h⟩ := bd_some h
   have fz13 := Fs_59 z13
   try simp only [go_sem, z2, z3, z5, z8, z10, z11] at fz13
   rcases it_some h with ⟨z14, h⟩ | ⟨z14, h⟩
   ·try simp only [go_sem, n1, n2, n3, n4, z2, z3, z5, z8, z10, z11] at z14
    all_goals
    obtain rfl := so_some h
    refine ⟨0, fun L hL => ?_⟩
    simp only [go_sem, ir18, fz1, z2, z3, lz3, xz3, fz4, z5, lz5, xz5, fz6, fz7, z8, lz8, xz8, fz9, z10, z11, lz11, xz11, fz12, fz13, z14]
   ·try simp only [go_sem, n1, n2, n3, n4, z2, z3, z5, z8, z10, z11] at z14
    all_goals
    obtain rfl := so_some h
    refine ⟨0, fun L hL => ?_⟩
    simp only [go_sem, ir18, fz1, z2, z3, lz3, xz3, fz4, z5, lz5, xz5, fz6, fz7, z8, lz8, xz8, fz9, z10, z11, lz11, xz11, fz12, fz13, z14]


def ir87_b0 : IR := .seq (.test false [ PM 8 3, PO 9 (.bin false .neq (.s 0) (I6 0))] (.s 0) (.skip) (.exit 0)) (.seq (.block 1 (.seq (.region false [ PM 12 3, PO 13 (.bin false .rem (.s 0) (I6 10)), VS 4 5 0]) (.seq (.test false [ PM 14 4, PO 15 (.bin false .lss (.s 0) (I6 0))] (.s 0) (.region false [ PM 16 4, PO 17 (.un .neg (.s 0)), VS 4 5 0]) (.skip)) (.region false [ PM 18 4, PO 19 (.bin false .add (I6 48) (.s 0)), PO 20 (.conv .u8 (.s 0)), PO 21 (.mkSl 1 (.int .u8 (0)) 1 [(0, (.s 0))]), PM 22 2, PO 23 (.app 1 1 (.int .u8 (0)) (.s 1) (.s 0)), VS 2 3 0])))) (.region false [ PM 10 3, PO 11
 (.bin false .quo (.s 0) (I6 10)), VS 3 4 0]))
def ir87_k0 : List Bool := [true, false, true, true, false]
def ir87_o0 : List Bool := [true, false, true, false, false]
def ir87_r0 : List Bool := [false, true, false, false, false]
def ir87_v : List Nat := [0, 2, 3, 4, 5]
def ir87 : AFn := ⟨1, 5, .seq (.region false [ VO 1 2 (.mov (.c (.str [])))]) (.seq (.region false [ PO 6 (.mkSl 1 (.int .u8 (0)) 0 []), VS 2 3 0]) (.seq (.seq (.region false [ PM 7 0, VS 3 4 0]) (.block 0 (.loop ir87_k0 ir87_o0 ir87_r0 ir87_b0))) (.seq (.test false [ PM 24 2, PO 25 (.len false (.s 0)), PO 26 (.bin false .eql (.s 0) (I6 0))] (.s 0) (.seq (.region false [ VO 1 2 (.mov (.c (.str [48])))]) (.ret)) (.skip)) (.seq (.test false [ PM 27 0, PO 28 (.bin false .lss (.s 0) (I6 0))] (.s 0) (.seq (.region false [ PM 29 2, PO 30 (.b2s (.s 0)), PO 31 (.bin false .add (.c (.str [45])) (.s 0)),
 VS 1 2 0]) (.ret)) (.skip)) (.seq (.region false [ PM 32 2, PO 33 (.b2s (.s 0)), VS 1 2 0]) (.ret)))))), [.t 1]⟩
noncomputable def t_69 : List (Nat × Ctr) := []
noncomputable def c_69 : Ctr := mkF t_69 ir87 [.bor]
theorem s_69 : Sound Tryz.prog 87 c_69 := mkF_sound _ rfl snd_nil (by kernel_rfl : chkFn Tryz.prog 87 ir87 ir87_v = true)
theorem M_69 : c_69.modes = [.bor] := rfl
theorem Fl_69 : c_69.flat = true := rfl
attribute [go_sem] M_69 Fl_69
def E_69_l1 (n : Int) : ((List UInt8) × Int) → St
 | (out, k) => ⟨[.int .i64 n, .any, .own 3200000, .int .i64 k, .any], [], [(3200000, ⟨1, List.map byteAV out⟩)], true⟩
def R_69_l1 (n : Int) (y : (List UInt8)) : Res := (.exit 0, ⟨[.int .i64 n, .any, .own 3200000, .any, .any], [], [(3200000, ⟨1, List.map byteAV y⟩)], true⟩)
theorem spec_l01Dec_l1_ex {n : Int} {sgm_ : (List UInt8) × Int} {rho_ : (List UInt8)} (h : whileE (spec_l01Dec_l1 n) sgm_ = some rho_) : ∃ L0, ∀ L, L0 ≤ L → iter (exec (look t_69) L ir87_b0) ir87_k0 ir87_o0 ir87_r0 L (E_69_l1 n sgm_) = R_69_l1 n rho_ := by
 refine loop_ex (E := E_69_l1 n) (R := R_69_l1 n) (fun y => by first | (intro c; cases c) | (rcases y with y | y <;> (intro c; cases c)) | (rcases y with y | y | y <;> (intro c; cases c))) ?_ h
 clear h
 rintro ⟨out, k⟩ o_ h
 dsimp only [spec_l01Dec_l1] at h
 rcases it_some h with ⟨z1, h⟩ | ⟨z1, h⟩
 ·try simp only [go_sem, n1, n2, n3, n4] at z1
  all_goals
  obtain ⟨z2, h⟩ := ck_some h
  try simp only [go_sem, n1, n2, n3, n4, z1] at z2
  all_goals
  rcases it_some h with ⟨z3, h⟩ | ⟨z3, h⟩
  ·try simp only [go_sem, n1, n2, n3, n4, z1, z2] at z3
   all_goals
   obtain ⟨z4, h⟩ := ck_some h
   try simp only [go_sem, n1, n2, n3, n4, z1, z2, z3] at z4
   all_goals
   obtain rfl := so_some h
   refine ⟨0, fun L hL => ?_⟩
   simp only [go_sem, ir87, E_69_l1, R_69_l1, ir87_b0, ir87_k0, ir87_o0, ir87_r0, z1, z2, z3, z4]
  ·try simp only [go_sem, n1, n2, n3, n4, z1, z2] at z3
   all_goals
   obtain ⟨z5, h⟩ := ck_some h
   try simp only [go_sem, n1, n2, n3, n4, z1, z2, z3] at z5
   all_goals
   obtain rfl := so_some h
   refine ⟨0, fun L hL => ?_⟩
   simp only [go_sem, ir87, E_69_l1, R_69_l1, ir87_b0, ir87_k0, ir87_o0, ir87_r0, z1, z2, z3, z5]
 ·try simp only [go_sem, n1, n2, n3, n4] at z1
  all_goals
  obtain rfl := so_some h
  refine ⟨0, fun L hL => ?_⟩
  simp only [go_sem, ir87, E_69_l1, R_69_l1, ir87_b0, ir87_k0, ir87_o0, ir87_r0, z1]

theorem Fs_69 {n : Int} {y_ : (List UInt8)} (h : spec_l01Dec n = some y_) : c_69.F [.int .i64 n] = ⟨true, .str y_, [.any]⟩ := by
 refine mkF_E rfl ?_
 dsimp only [spec_l01Dec] at h
 obtain ⟨y_6, z6, h⟩ := bd_some h
 obtain ⟨Lz6, ez6⟩ := spec_l01Dec_l1_ex z6
 rcases it_some h with ⟨z7, h⟩ | ⟨z7, h⟩
 ·try simp only [go_sem, n1, n2, n3, n4] at z7
  all_goals
  obtain rfl := so_some h
  refine ⟨Lz6, fun L hL => ?_⟩
  have ez6 := ez6 L (by omega)
  try simp only [go_sem, E_69_l1, R_69_l1, ir87_k0, ir87_o0, ir87_r0, z7] at ez6
  simp only [go_sem, ir87, E_69_l1, R_69_l1, ir87_k0, ir87_o0, ir87_r0, z7, ez6]
 ·try simp only [go_sem, n1, n2, n3, n4] at z7
  all_goals
  rcases it_some h with ⟨z8, h⟩ | ⟨z8, h⟩
  ·try simp only [go_sem, n1, n2, n3, n4, z7] at z8
   all_goals
   obtain ⟨z9, h⟩ := ck_some h
   try simp only [go_sem, n1, n2, n3, n4, z7, z8] at z9
   all_goals
   obtain rfl := so_some h
   refine ⟨Lz6, fun L hL => ?_⟩
   have ez6 := ez6 L (by omega)
   try simp only [go_sem, E_69_l1, R_69_l1, ir87_k0, ir87_o0, ir87_r0, z7, z8, z9] at ez6
   simp only [go_sem, ir87, E_69_l1, R_69_l1, ir87_k0, ir87_o0, ir87_r0, z7, z8, z9, ez6]
  ·try simp only [go_sem, n1, n2, n3, n4, z7] at z8
   all_goals
   obtain rfl := so_some h
   refine ⟨Lz6, fun L hL => ?_⟩
   have ez6 := ez6 L (by omega)
   try simp only [go_sem, E_69_l1, R_69_l1, ir87_k0, ir87_o0, ir87_r0, z7, z8] at ez6
   simp only [go_sem, ir87, E_69_l1, R_69_l1, ir87_k0, ir87_o0, ir87_r0, z7, z8, ez6]


def ir64_v : List Nat := [0]
def ir64 : AFn := ⟨0, 1, .seq (.region false [ VO 0 0 (.newnil 1)]) (.seq (.region false [ PO 1 (.mkSl 1 (.str []) 4 [(0, (.c (.str [97, 110, 121]))), (1, (.c (.str [115, 105, 110, 101]))), (2, (.c (.str [115, 97, 119]))), (3, (.c (.str [100, 105, 112, 115])))]), VS 0 0 0]) (.ret)), [.t 0]⟩
noncomputable def t_70 : List (Nat × Ctr) := []
noncomputable def c_70 : Ctr := mkF t_70 ir64 []
theorem s_70 : Sound Tryz.prog 64 c_70 := mkF_sound _ rfl snd_nil (by kernel_rfl : chkFn Tryz.prog 64 ir64 ir64_v = true)
theorem M_70 : c_70.modes = [] := rfl
theorem Fl_70 : c_70.flat = true := rfl
attribute [go_sem] M_70 Fl_70
theorem Fs_70  {y_ : (List (List UInt8))} (h : spec_l18Shapes = some y_) : c_70.F [] = ⟨true, .fresh 1 (List.map AV.str y_), []⟩ := by
 refine mkF_E (by simp only [flatA, flatB, flat1, List.all_cons, List.all_nil, Bool.and_self, flatE_map (f := AV.str) (fun _ => rfl)]) ?_
 dsimp only [spec_l18Shapes] at h
 obtain rfl := so_some h
 refine ⟨0, fun L hL => ?_⟩
 simp only [go_sem, ir64]


def ir59_v : List Nat := [0, 2]
def ir59 : AFn := ⟨1, 2, .seq (.region false [ VO 1 2 (.mov (.c (.str [])))]) (.seq (.anyo 41 [ SO 0 3 (.mov (.v 0)), SO 1 4 (.nilck (.s 0)), SO 2 5 (.fldAddr 0 (.s 1)), SO 3 6 (.load false 1 (.s 2)), SO 4 7 (.bin false .add (.s 3) (.c (.str [58, 32, 97, 109, 112, 32]))), SO 5 8 (.mov (.v 0)), SO 6 9 (.nilck (.s 5)), SO 7 10 (.fldAddr 1 (.s 6)), SO 8 11 (.load false 1 (.s 7)), SO 9 12 (.callp 87 [(.s 8)]), SO 10 13 (.bin false .add (.s 4) (.s 9)), SO 11 14 (.bin false .add (.s 10) (.c (.str [46, 46]))), SO 12 15 (.mov (.v 0)), SO 13 16 (.nilck (.s 12)), SO 14 17 (.fldAddr 2 (.s 13)), SO 15 18
 (.load false 1 (.s 14)), SO 16 19 (.callp 87 [(.s 15)]), SO 17 20 (.bin false .add (.s 11) (.s 16)), SO 18 21 (.bin false .add (.s 17) (.c (.str [32, 112, 101, 114, 105, 111, 100, 32]))), SO 19 22 (.mov (.v 0)), SO 20 23 (.nilck (.s 19)), SO 21 24 (.fldAddr 3 (.s 20)), SO 22 25 (.load false 1 (.s 21)), SO 23 26 (.callp 87 [(.s 22)]), SO 24 27 (.bin false .add (.s 18) (.s 23)), SO 25 28 (.bin false .add (.s 24) (.c (.str [46, 46]))), SO 26 29 (.mov (.v 0)), SO 27 30 (.nilck (.s 26)), SO 28 31 (.fldAddr 4 (.s 27)), SO 29 32 (.load false 1 (.s 28)), SO 30 33 (.callp 87 [(.s 29)]), SO 31 34 (.bin
 false .add (.s 25) (.s 30)), SO 32 35 (.bin false .add (.s 31) (.c (.str [32]))), SO 33 36 (.pur (.call 64 [])), SO 34 37 (.mov (.v 0)), SO 35 38 (.nilck (.s 34)), SO 36 39 (.fldAddr 5 (.s 35)), SO 37 40 (.load false 1 (.s 36)), SO 38 41 (.ixAddr 1 (.s 33) (.s 37)), SO 39 42 (.load false 1 (.s 38)), SO 40 43 (.bin false .add (.s 32) (.s 39)), VS 1 2 40] [] .skip) (.ret)), [.t 1]⟩
noncomputable def t_71 : List (Nat × Ctr) := [(87, c_69), (64, c_70)]
theorem lk_71_87 : look t_71 87 = some c_69 := rfl
theorem lk_71_64 : look t_71 64 = some c_70 := rfl
noncomputable def c_71 : Ctr := mkF t_71 ir59 [.bor]
theorem s_71 : Sound Tryz.prog 59 c_71 := mkF_sound _ rfl (snd_cons s_69 (snd_cons s_70 snd_nil)) (by kernel_rfl : chkFn Tryz.prog 59 ir59 ir59_v = true)
theorem M_71 : c_71.modes = [.bor] := rfl
theorem Fl_71 : c_71.flat = true := rfl
attribute [go_sem] M_71 Fl_71
attribute [go_sem] lk_71_87 lk_71_64
theorem Fs_71 {r : Rule} {y_ : (List UInt8)} (h : spec_l18Text r = some y_) : c_71.F [.ptr 6 [Rule_av r] 0 0] = ⟨true, .str y_, [.any]⟩ := by
 refine mkF_E rfl ?_
 dsimp only [spec_l18Text] at h
 obtain ⟨z1, h⟩ := ck_some h
 try simp only [go_sem, n1, n2, n3, n4] at z1
 all_goals
 obtain ⟨y_2, z2, h⟩ := bd_some h
 have fz2 := Fs_69 z2
 try simp only [go_sem, z1] at fz2
 obtain ⟨z3, h⟩ := ck_some h
 try simp only [go_sem, n1, n2, n3, n4, z1] at z3
 all_goals
 obtain ⟨z4, h⟩ := ck_some h
 try simp only [go_sem, n1, n2, n3, n4, z1, z3] at z4
 all_goals
 obtain ⟨y_5, z5, h⟩ := bd_some h
 have fz5 := Fs_69 z5
 try simp only [go_sem, z1, z3, z4] at fz5
 obtain ⟨z6, h⟩ := ck_some h
 try simp only [go_sem, n1, n2, n3, n4, z1, z3, z4] at z6
 all_goals
 obtain ⟨z7, h⟩ := ck_some h
 try simp only [go_sem, n1, n2, n3, n4, z1, z3, z4, z6] at z7
 all_goals
 obtain ⟨y_8, z8, h⟩ := bd_some h
 have fz8 := Fs_69 z8
 try simp only [go_sem, z1, z3, z4, z6, z7] at fz8
 obtain ⟨z9, h⟩ := ck_some h
 try simp only [go_sem, n1, n2, n3, n4, z1, z3, z4, z6, z7] at z9
 all_goals
 obtain ⟨z10, h⟩ := ck_some h
 try simp only [go_sem, n1, n2, n3, n4, z1, z3, z4, z6, z7, z9] at z10
 all_goals
 obtain ⟨y_11, z11, h⟩ := bd_some h
 have fz11 := Fs_69 z11
 try simp only [go_sem, z1, z3, z4, z6, z7, z9, z10] at fz11
 obtain ⟨z12, h⟩ := ck_some h
 try simp only [go_sem, n1, n2, n3, n4, z1, z3, z4, z6, z7, z9, z10] at z12
 all_goals
 obtain ⟨z13, h⟩ := ck_some h
 try simp only [go_sem, n1, n2, n3, n4, z1, z3, z4, z6, z7, z9, z10, z12] at z13
 all_goals
 obtain ⟨y_14, z14, h⟩ := bd_some h
 have fz14 := Fs_70 z14
 try simp only [go_sem, z1, z3, z4, z6, z7, z9, z10, z12, z13] at fz14
 obtain ⟨z15, h⟩ := ck_some h
 have lz15 := ix_lt z15
 have xz15 := getD_mapD AV.str y_14 lz15
 try simp only [go_sem] at lz15
 try simp only [go_sem] at xz15
 try simp only [go_sem, n1, n2, n3, n4, z1, z3, z4, z6, z7, z9, z10, z12, z13] at z15
 all_goals
 obtain ⟨z16, h⟩ := ck_some h
 try simp only [go_sem, n1, n2, n3, n4, z1, z3, z4, z6, z7, z9, z10, z12, z13, z15] at z16
 all_goals
 obtain rfl := so_some h
 refine ⟨0, fun L hL => ?_⟩
 simp only [go_sem, ir59, z1, fz2, z3, z4, fz5, z6, z7, fz8, z9, z10, fz11, z12, z13, fz14, z15, lz15, xz15, z16]


def ir61_v : List Nat := [0, 1, 4, 5, 6, 8]
def ir61 : AFn := ⟨2, 6, .seq (.region false [ VO 2 4 (.mov (.c (.str [])))]) (.seq (.seq (.region false [ PM 7 0, VO 5 8 (.call 66 [(.s 0), (I6 5)])]) (.block 0 (.test false [ PO 10 (.bin false .eql (.v 5) (I6 0)), PO 9 (.mov (.s 0))] (.s 0) (.seq (.region false [ PM 11 0, PM 12 1, PO 13 (.len true (.s 0)), PO 14 (.bin false .add (.s 0) (I6 1)), PO 15 (.call 66 [(.s 3), (.s 0)]), VS 3 5 0]) (.anyo 11 [ SO 0 16 (.flat (.mov (.v 1))), SO 1 17 (.flat (.mov (.v 3))), SO 2 18 (.flat (.pur (.slice 0 (.s 0) none (some (.s 1))))), SO 3 19 (.mov (.v 0)), SO 4 20 (.pur (.mkSl 1 (.str []) 7 [(0, (.c
 (.str [32]))), (1, (.c (.str [48]))), (2, (.c (.str [45]))), (3, (.c (.str [120]))), (4, (.c (.str [49]))), (5, (.c (.str [57]))), (6, (.c (.str [46])))])), SO 5 21 (.call 86 [(.s 3), (.s 4)]), SO 6 22 (.flat (.bin false .add (.s 2) (.s 5))), SO 7 23 (.flat (.mov (.v 1))), SO 8 24 (.flat (.mov (.v 3))), SO 9 25 (.flat (.pur (.slice 0 (.s 7) (some (.s 8)) none))), SO 10 26 (.flat (.bin false .add (.s 6) (.s 9))), VO 1 1 (.flat (.mov (.s 10)))] [] .skip)) (.test false [ PO 28 (.bin false .eql (.v 5) (I6 1)), PO 27 (.mov (.s 0))] (.s 0) (.test false [ PM 29 1, PO 30 (.bin false .neq (.s 0) (.c
 (.str [])))] (.s 0) (.seq (.region false [ PM 31 0, PM 32 1, PO 33 (.len true (.s 0)), PO 34 (.call 66 [(.s 2), (.s 0)]), VS 4 6 0]) (.anyo 8 [ SO 0 35 (.mov (.v 1)), SO 1 36 (.mov (.v 4)), SO 2 37 (.pur (.slice 0 (.s 0) none (some (.s 1)))), SO 3 38 (.mov (.v 1)), SO 4 39 (.mov (.v 4)), SO 5 40 (.bin false .add (.s 4) (I6 1)), SO 6 41 (.pur (.slice 0 (.s 3) (some (.s 5)) none)), SO 7 42 (.bin false .add (.s 2) (.s 6)), VS 1 1 7] [] .skip)) (.skip)) (.skip))))) (.seq (.region false [ PM 43 1, VS 2 4 0]) (.ret))), [.t 2]⟩
noncomputable def t_72 : List (Nat × Ctr) := [(66, c_3), (86, c_6)]
theorem lk_72_66 : look t_72 66 = some c_3 := rfl
theorem lk_72_86 : look t_72 86 = some c_6 := rfl
noncomputable def c_72 : Ctr := mkN t_72 ir61 [.io, .bor]
theorem s_72 : Sound Tryz.prog 61 c_72 := mkN_sound _ (snd_cons s_3 (snd_cons s_6 snd_nil)) (by kernel_rfl : chkFn Tryz.prog 61 ir61 ir61_v = true)
theorem M_72 : c_72.modes = [.io, .bor] := rfl
theorem Fl_72 : c_72.flat = false := rfl
attribute [go_sem] M_72 Fl_72
attribute [go_sem] lk_72_66 lk_72_86
theorem Fs_72 {s_ : L00Src} {t : List UInt8} {y_ : (List UInt8) × L00Src} (h : spec_l01Spoil s_ t = some y_) : c_72.F [.mem 3 [L00Src_av s_] 0, .str t] = ⟨true, .str y_.1, [.mem 3 [L00Src_av y_.2] 0, .any]⟩ := by
 refine mkN_E ?_
 dsimp only [spec_l01Spoil] at h
 obtain ⟨y_1, z1, h⟩ := bd_some h
 have fz1 := Fs_3 z1
 try simp only [go_sem] at fz1
 rcases it_some h with ⟨z2, h⟩ | ⟨z2, h⟩
 ·try simp only [go_sem, n1, n2, n3, n4] at z2
  all_goals
  obtain ⟨y_3, z3, h⟩ := bd_some h
  have fz3 := Fs_3 z3
  try simp only [go_sem, z2] at fz3
  obtain ⟨z4, h⟩ := ck_some h
  try simp only [go_sem, n1, n2, n3, n4, z2] at z4
  all_goals
  obtain ⟨y_5, z5, h⟩ := bd_some h
  have fz5 := Fs_6 z5
  try simp only [go_sem, z2, z4] at fz5
  obtain ⟨z6, h⟩ := ck_some h
  try simp only [go_sem, n1, n2, n3, n4, z2, z4] at z6
  all_goals
  obtain ⟨z7, h⟩ := ck_some h
  try simp only [go_sem, n1, n2, n3, n4, z2, z4, z6] at z7
  all_goals
  obtain ⟨z8, h⟩ := ck_some h
  try simp only [go_sem, n1, n2, n3, n4, z2, z4, z6, z7] at z8
  all_goals
  obtain rfl := so_some h
  refine ⟨0, fun L hL => ?_⟩
  simp only [go_sem, ir61, fz1, z2, fz3, z4, fz5, z6, z7, z8]
 ·try simp only [go_sem, n1, n2, n3, n4] at z2
  all_goals
  rcases it_some h with ⟨z9, h⟩ | ⟨z9, h⟩
  ·try simp only [go_sem, n1, n2, n3, n4, z2] at z9
   all_goals
   rcases it_some h with ⟨z10, h⟩ | ⟨z10, h⟩
   ·try simp only [go_sem, n1, n2, n3, n4, z2, z9] at z10
    all_goals
    obtain ⟨y_11, z11, h⟩ := bd_some h
    have fz11 := Fs_3 z11
    try simp only [go_sem, z2, z9, z10] at fz11
    obtain ⟨z12, h⟩ := ck_some h
    try simp only [go_sem, n1, n2, n3, n4, z2, z9, z10] at z12
    all_goals
    obtain ⟨z13, h⟩ := ck_some h
    try simp only [go_sem, n1, n2, n3, n4, z2, z9, z10, z12] at z13
    all_goals
    obtain ⟨z14, h⟩ := ck_some h
    try simp only [go_sem, n1, n2, n3, n4, z2, z9, z10, z12, z13] at z14
    all_goals
    obtain rfl := so_some h
    refine ⟨0, fun L hL => ?_⟩
    simp only [go_sem, ir61, fz1, z2, z9, z10, fz11, z12, z13, z14]
   ·try simp only [go_sem, n1, n2, n3, n4, z2, z9] at z10
    all_goals
    obtain rfl := so_some h
    refine ⟨0, fun L hL => ?_⟩
    simp only [go_sem, ir61, fz1, z2, z9, z10]
  ·try simp only [go_sem, n1, n2, n3, n4, z2] at z9
   all_goals
   obtain rfl := so_some h
   refine ⟨0, fun L hL => ?_⟩
   simp only [go_sem, ir61, fz1, z2, z9]


def ir19_v : List Nat := [0, 2, 3, 4, 5]
def ir19 : AFn := ⟨1, 5, .seq (.region false [ VO 1 2 (.mov (.c (.str [])))]) (.seq (.region false [ PM 6 0, PO 7 (.call 37 [(.s 0)]), VS 2 3 0]) (.seq (.region false [ PM 8 2, PO 9 (.call 58 [(.s 0)]), VO 3 4 (.alloc (.agg [.str [], .int .i64 (0), .int .i64 (0), .int .i64 (0), .int .i64 (0), .int .i64 (0)])), ⟨.no, 0, none, .store 6 (.v 3) (.s 0)⟩]) (.seq (.region false [ PO 10 (.call 59 [(.v 3)]), VS 4 5 0]) (.seq (.test false [ PM 11 2, PO 12 (.call 60 [(.s 0), (I6 3)])] (.s 0) (.seq (.region false [ PM 13 2, PM 14 4, PO 15 (.call 61 [(.s 1), (.s 0)]), VS 1 2 0]) (.ret)) (.skip)) (.seq
 (.region false [ PM 16 4, VS 1 2 0]) (.ret)))))), [.t 1]⟩
noncomputable def t_73 : List (Nat × Ctr) := [(37, c_1), (58, c_7), (59, c_71), (60, c_5), (61, c_72)]
theorem lk_73_37 : look t_73 37 = some c_1 := rfl
theorem lk_73_58 : look t_73 58 = some c_7 := rfl
theorem lk_73_59 : look t_73 59 = some c_71 := rfl
theorem lk_73_60 : look t_73 60 = some c_5 := rfl
theorem lk_73_61 : look t_73 61 = some c_72 := rfl
noncomputable def c_73 : Ctr := mkF t_73 ir19 [.bor]
theorem s_73 : Sound Tryz.prog 19 c_73 := mkF_sound _ rfl (snd_cons s_1 (snd_cons s_7 (snd_cons s_71 (snd_cons s_5 (snd_cons s_72 snd_nil))))) (by kernel_rfl : chkFn Tryz.prog 19 ir19 ir19_v = true)
theorem M_73 : c_73.modes = [.bor] := rfl
theorem Fl_73 : c_73.flat = true := rfl
attribute [go_sem] M_73 Fl_73
attribute [go_sem] lk_73_37 lk_73_58 lk_73_59 lk_73_60 lk_73_61
theorem Fs_73 {code : List UInt8} {y_ : (List UInt8)} (h : spec_DrawReadRule code = some y_) : c_73.F [.sl 1 (List.map byteAV code)] = ⟨true, .str y_, [.any]⟩ := by
 refine mkF_E rfl ?_
 dsimp only [spec_DrawReadRule] at h
 obtain ⟨y_1, z1, h⟩ := bd_some h
 have fz1 := Fs_1 z1
 try simp only [go_sem] at fz1
 obtain ⟨y_2, z2, h⟩ := bd_some h
 have fz2 := Fs_7 z2
 try simp only [go_sem] at fz2
 obtain ⟨y_3, z3, h⟩ := bd_some h
 have fz3 := Fs_71 z3
 try simp only [go_sem] at fz3
 obtain ⟨y_4, z4, h⟩ := bd_some h
 have fz4 := Fs_5 z4
 try simp only [go_sem] at fz4
 rcases it_some h with ⟨z5, h⟩ | ⟨z5, h⟩
 ·try simp only [go_sem, n1, n2, n3, n4] at z5
  all_goals
  obtain ⟨y_6, z6, h⟩ := bd_some h
  have fz6 := Fs_72 z6
  try simp only [go_sem, z5] at fz6
  obtain rfl := so_some h
  refine ⟨0, fun L hL => ?_⟩
  simp only [go_sem, ir19, fz1, fz2, fz3, fz4, z5, fz6]
 ·try simp only [go_sem, n1, n2, n3, n4] at z5
  all_goals
  obtain rfl := so_some h
  refine ⟨0, fun L hL => ?_⟩
  simp only [go_sem, ir19, fz1, fz2, fz3, fz4, z5]


def ir62_b0 : IR := .seq (.test false [ PM 9 5, PM 10 0, PO 11 (.len true (.s 0)), PO 12 (.bin false .lss (.s 2) (.s 0))] (.s 0) (.skip) (.exit 0)) (.seq (.block 1 (.test false [ PM 15 0, PM 16 5, PO 17 (.ixStr (.s 1) (.s 0)), PM 18 1, PO 19 (.bin false .eql (.s 1) (.s 0))] (.s 0) (.seq (.region false [ PM 20 3, PM 21 0, PM 22 4, PM 23 5, PO 24 (.slice 0 (.s 2) (some (.s 1)) (some (.s 0))), PO 25 (.mkSl 1 (.str []) 1 [(0, (.s 0))]), PO 26 (.app 1 16 (.str []) (.s 5) (.s 0)), VS 3 5 0]) (.region false [ PM 27 5, PO 28 (.bin false .add (.s 0) (I6 1)), VS 4 6 0])) (.skip))) (.region false [ PM 13
 5, PO 14 (.bin false .add (.s 0) (I6 1)), VS 5 7 0]))
def ir62_k0 : List Bool := [true, true, false, true, true, true]
def ir62_o0 : List Bool := [true, false, false, true, true, false]
def ir62_r0 : List Bool := [false, false, true, false, false, false]
def ir62_v : List Nat := [0, 1, 4, 5, 6, 7]
def ir62 : AFn := ⟨2, 6, .seq (.region false [ VO 2 4 (.newnil 1)]) (.seq (.region false [ PO 8 (.mkSl 1 (.str []) 0 []), VS 3 5 0]) (.seq (.region false [ VO 4 6 (.mov (I6 0))]) (.seq (.seq (.region false [ VO 5 7 (.mov (I6 0))]) (.block 0 (.loop ir62_k0 ir62_o0 ir62_r0 ir62_b0))) (.seq (.region false [ PM 29 3, PM 30 0, PM 31 4, PO 32 (.slice 0 (.s 1) (some (.s 0)) none), PO 33 (.mkSl 1 (.str []) 1 [(0, (.s 0))]), PO 34 (.app 1 16 (.str []) (.s 4) (.s 0)), VS 2 4 0]) (.ret))))), [.t 2]⟩
noncomputable def t_74 : List (Nat × Ctr) := []
noncomputable def c_74 : Ctr := mkF t_74 ir62 [.bor, .bor]
theorem s_74 : Sound Tryz.prog 62 c_74 := mkF_sound _ rfl snd_nil (by kernel_rfl : chkFn Tryz.prog 62 ir62 ir62_v = true)
theorem M_74 : c_74.modes = [.bor, .bor] := rfl
theorem Fl_74 : c_74.flat = true := rfl
attribute [go_sem] M_74 Fl_74
def E_74_l1 (s_ : List UInt8) (by_ : UInt8) : ((List (List UInt8)) × Int × Int) → St
 | (out, from_, i) => ⟨[.str s_, .int .u8 (by_.toNat : Int), .any, .own 3200000, .int .i64 from_, .int .i64 i], [], [(3200000, ⟨1, List.map AV.str out⟩)], true⟩
def R_74_l1 (s_ : List UInt8) (by_ : UInt8) (y : (List (List UInt8)) × Int) : Res := (.exit 0, ⟨[.str s_, .any, .any, .own 3200000, .int .i64 y.2, .any], [], [(3200000, ⟨1, List.map AV.str y.1⟩)], true⟩)
theorem spec_l01Split_l1_ex {s_ : List UInt8} {by_ : UInt8} {sgm_ : (List (List UInt8)) × Int × Int} {rho_ : (List (List UInt8)) × Int} (h : whileE (spec_l01Split_l1 s_ by_) sgm_ = some rho_) : ∃ L0, ∀ L, L0 ≤ L → iter (exec (look t_74) L ir62_b0) ir62_k0 ir62_o0 ir62_r0 L (E_74_l1 s_ by_ sgm_) = R_74_l1 s_ by_ rho_ := by
 refine loop_ex (E := E_74_l1 s_ by_) (R := R_74_l1 s_ by_) (fun y => by first | (intro c; cases c) | (rcases y with y | y <;> (intro c; cases c)) | (rcases y with y | y | y <;> (intro c; cases c))) ?_ h
 clear h
 rintro ⟨out, from_, i⟩ o_ h
 dsimp only [spec_l01Split_l1] at h
 rcases it_some h with ⟨z1, h⟩ | ⟨z1, h⟩
 ·try simp only [go_sem, n1, n2, n3, n4] at z1
  all_goals
  obtain ⟨z2, h⟩ := ck_some h
  try simp only [go_sem, n1, n2, n3, n4, z1] at z2
  all_goals
  rcases it_some h with ⟨z3, h⟩ | ⟨z3, h⟩
  ·try simp only [go_sem, n1, n2, n3, n4, z1, z2] at z3
   all_goals
   obtain ⟨z4, h⟩ := ck_some h
   try simp only [go_sem, n1, n2, n3, n4, z1, z2, z3] at z4
   all_goals
   obtain ⟨z5, h⟩ := ck_some h
   try simp only [go_sem, n1, n2, n3, n4, z1, z2, z3, z4] at z5
   all_goals
   obtain rfl := so_some h
   refine ⟨0, fun L hL => ?_⟩
   simp only [go_sem, ir62, E_74_l1, R_74_l1, ir62_b0, ir62_k0, ir62_o0, ir62_r0, z1, z2, z3, z4, z5]
  ·try simp only [go_sem, n1, n2, n3, n4, z1, z2] at z3
   all_goals
   obtain rfl := so_some h
   refine ⟨0, fun L hL => ?_⟩
   simp only [go_sem, ir62, E_74_l1, R_74_l1, ir62_b0, ir62_k0, ir62_o0, ir62_r0, z1, z2, z3]
 ·try simp only [go_sem, n1, n2, n3, n4] at z1
  all_goals
  obtain rfl := so_some h
  refine ⟨0, fun L hL => ?_⟩
  simp only [go_sem, ir62, E_74_l1, R_74_l1, ir62_b0, ir62_k0, ir62_o0, ir62_r0, z1]

theorem Fs_74 {s_ : List UInt8} {by_ : UInt8} {y_ : (List (List UInt8))} (h : spec_l01Split s_ by_ = some y_) : c_74.F [.str s_, .int .u8 (by_.toNat : Int)] = ⟨true, .fresh 1 (List.map AV.str y_), [.any, .any]⟩ := by
 refine mkF_E (by simp only [flatA, flatB, flat1, List.all_cons, List.all_nil, Bool.and_self, flatE_map (f := AV.str) (fun _ => rfl)]) ?_
 dsimp only [spec_l01Split] at h
 obtain ⟨y_6, z6, h⟩ := bd_some h
 obtain ⟨Lz6, ez6⟩ := spec_l01Split_l1_ex z6
 obtain ⟨z7, h⟩ := ck_some h
 try simp only [go_sem, n1, n2, n3, n4] at z7
 all_goals
 obtain ⟨z8, h⟩ := ck_some h
 try simp only [go_sem, n1, n2, n3, n4, z7] at z8
 all_goals
 obtain rfl := so_some h
 refine ⟨Lz6, fun L hL => ?_⟩
 have ez6 := ez6 L (by omega)
 try simp only [go_sem, E_74_l1, R_74_l1, ir62_k0, ir62_o0, ir62_r0, z7, z8] at ez6
 simp only [go_sem, ir62, E_74_l1, R_74_l1, ir62_k0, ir62_o0, ir62_r0, z7, z8, ez6]


def ir88_b0 : IR := .seq (.test false [ PM 25 5, PM 26 3, PO 27 (.len true (.s 0)), PO 28 (.bin false .lss (.s 2) (.s 0))] (.s 0) (.skip) (.exit 0)) (.seq (.block 1 (.seq (.test false [ PM 31 3, PM 32 5, PO 33 (.ixStr (.s 1) (.s 0)), PO 34 (.call 91 [(.s 0)]), PO 35 (.un .not (.s 0))] (.s 0) (.seq (.region false [ VO 1 2 (.mov (I6 0)), VO 2 3 (.mov (.c (.bool false)))]) (.ret)) (.skip)) (.region false [ PM 36 4, PO 37 (.bin false .mul (I6 10) (.s 0)), PM 38 3, PM 39 5, PO 40 (.ixStr (.s 1) (.s 0)), PO 41 (.bin false .sub (.s 0) (.c (.int .u8 (48)))), PO 42 (.conv .i64 (.s 0)), PO 43 (.bin false
 .add (.s 5) (.s 0)), VS 4 5 0]))) (.region false [ PM 29 5, PO 30 (.bin false .add (.s 0) (I6 1)), VS 5 6 0]))
def ir88_k0 : List Bool := [true, false, false, true, true, true]
def ir88_o0 : List Bool := [true, false, false, true, true, false]
def ir88_r0 : List Bool := [false, true, true, false, false, false]
def ir88_v : List Nat := [0, 2, 3, 4, 5, 6]
def ir88 : AFn := ⟨1, 6, .seq (.region false [ VO 1 2 (.mov (I6 0)), VO 2 3 (.mov (.c (.bool false)))]) (.seq (.region false [ PM 7 0, VS 3 4 0]) (.seq (.test false [ PM 8 3, PO 9 (.bin false .neq (.s 0) (.c (.str []))), PO 10 (.mov (.s 0)), ⟨.push, 11, (some ((.s 0), true)), .mov (.v 3)⟩, ⟨.push, 12, (some ((.s 1), true)), .ixStr (.s 0) (I6 0)⟩, ⟨.push, 13, (some ((.s 2), true)), .bin false .eql (.s 0) (.c (.int .u8 (45)))⟩, PO 14 (.pick (.s 3) (.s 0) (.c (.bool false)))] (.s 0) (.region false [ PM 15 3, PO 16 (.slice 0 (.s 0) (some (I6 1)) none), VS 3 4 0]) (.skip)) (.seq (.test false [ PM 17
 3, PO 18 (.len true (.s 0)), PO 19 (.bin false .lss (.s 0) (I6 1)), PO 20 (.mov (.s 0)), ⟨.push, 21, (some ((.s 0), false)), .mov (.v 3)⟩, ⟨.push, 22, (some ((.s 1), false)), .len true (.s 0)⟩, ⟨.push, 23, (some ((.s 2), false)), .bin false .gtr (.s 0) (I6 18)⟩, PO 24 (.pick (.s 3) (.c (.bool true)) (.s 0))] (.s 0) (.seq (.region false [ VO 1 2 (.mov (I6 0)), VO 2 3 (.mov (.c (.bool false)))]) (.ret)) (.skip)) (.seq (.region false [ VO 4 5 (.mov (I6 0))]) (.seq (.seq (.region false [ VO 5 6 (.mov (I6 0))]) (.block 0 (.loop ir88_k0 ir88_o0 ir88_r0 ir88_b0))) (.seq (.test false [ PM 44 3, PO 45
 (.len true (.s 0)), PM 46 0, PO 47 (.len true (.s 0)), PO 48 (.bin false .lss (.s 2) (.s 0))] (.s 0) (.region false [ PM 49 4, PO 50 (.un .neg (.s 0)), VS 4 5 0]) (.skip)) (.seq (.test false [ PM 51 4, PO 52 (.call 87 [(.s 0)]), PM 53 0, PO 54 (.bin false .neq (.s 1) (.s 0))] (.s 0) (.seq (.region false [ VO 1 2 (.mov (I6 0)), VO 2 3 (.mov (.c (.bool false)))]) (.ret)) (.skip)) (.seq (.region false [ PM 55 4, VS 1 2 0, VO 2 3 (.mov (.c (.bool true)))]) (.ret))))))))), [.t 1, .t 2]⟩
noncomputable def t_75 : List (Nat × Ctr) := [(91, c_27), (87, c_69)]
theorem lk_75_91 : look t_75 91 = some c_27 := rfl
theorem lk_75_87 : look t_75 87 = some c_69 := rfl
noncomputable def c_75 : Ctr := mkF t_75 ir88 [.bor]
theorem s_75 : Sound Tryz.prog 88 c_75 := mkF_sound _ rfl (snd_cons s_27 (snd_cons s_69 snd_nil)) (by kernel_rfl : chkFn Tryz.prog 88 ir88 ir88_v = true)
theorem M_75 : c_75.modes = [.bor] := rfl
theorem Fl_75 : c_75.flat = true := rfl
attribute [go_sem] M_75 Fl_75
attribute [go_sem] lk_75_91 lk_75_87
def E_75_l1 (s_ : List UInt8) (t : List UInt8) : (Int × Int) → St
 | (n, i) => ⟨[.str s_, .any, .any, .str t, .int .i64 n, .int .i64 i], [], [], true⟩
def R_75_l1 (s_ : List UInt8) (t : List UInt8) : (Int ⊕ (Int × Bool)) → Res
 | .inl y => (.exit 0, ⟨[.str s_, .any, .any, .str t, .int .i64 y, .any], [], [], true⟩)
 | .inr y => (.ret, ⟨[.any, .int .i64 y.1, .bool y.2, .any, .any, .any], [], [], true⟩)
theorem spec_l01Number_l1_ex {s_ : List UInt8} {t : List UInt8} {sgm_ : Int × Int} {rho_ : Int ⊕ (Int × Bool)} (h : whileE (spec_l01Number_l1 s_ t) sgm_ = some rho_) : ∃ L0, ∀ L, L0 ≤ L → iter (exec (look t_75) L ir88_b0) ir88_k0 ir88_o0 ir88_r0 L (E_75_l1 s_ t sgm_) = R_75_l1 s_ t rho_ := by
 refine loop_ex (E := E_75_l1 s_ t) (R := R_75_l1 s_ t) (fun y => by first | (intro c; cases c) | (rcases y with y | y <;> (intro c; cases c)) | (rcases y with y | y | y <;> (intro c; cases c))) ?_ h
 clear h
 rintro ⟨n, i⟩ o_ h
 dsimp only [spec_l01Number_l1] at h
 rcases it_some h with ⟨z5, h⟩ | ⟨z5, h⟩
 ·try simp only [go_sem, n1, n2, n3, n4] at z5
  all_goals
  obtain ⟨z6, h⟩ := ck_some h
  try simp only [go_sem, n1, n2, n3, n4, z5] at z6
  all_goals
  obtain ⟨y_7, z7, h⟩ := bd_some h
  have fz7 := Fs_27 z7
  try simp only [go_sem, z5, z6] at fz7
  rcases it_some h with ⟨z8, h⟩ | ⟨z8, h⟩
  ·try simp only [go_sem, n1, n2, n3, n4, z5, z6] at z8
   all_goals
   obtain rfl := so_some h
   refine ⟨0, fun L hL => ?_⟩
   simp only [go_sem, ir88, E_75_l1, R_75_l1, ir88_b0, ir88_k0, ir88_o0, ir88_r0, z5, z6, fz7, z8]
  ·try simp only [go_sem, n1, n2, n3, n4, z5, z6] at z8
   all_goals
   obtain rfl := so_some h
   refine ⟨0, fun L hL => ?_⟩
   simp only [go_sem, ir88, E_75_l1, R_75_l1, ir88_b0, ir88_k0, ir88_o0, ir88_r0, z5, z6, fz7, z8]
 ·try simp only [go_sem, n1, n2, n3, n4] at z5
  all_goals
  obtain rfl := so_some h
  refine ⟨0, fun L hL => ?_⟩
  simp only [go_sem, ir88, E_75_l1, R_75_l1, ir88_b0, ir88_k0, ir88_o0, ir88_r0, z5]

def E_75_l2 (s_ : List UInt8) (t : List UInt8) : (Int × Int) → St
 | (n, i) => ⟨[.str s_, .any, .any, .str t, .int .i64 n, .int .i64 i], [], [], true⟩
def R_75_l2 (s_ : List UInt8) (t : List UInt8) : (Int ⊕ (Int × Bool)) → Res
 | .inl y => (.exit 0, ⟨[.str s_, .any, .any, .str t, .int .i64 y, .any], [], [], true⟩)
 | .inr y => (.ret, ⟨[.any, .int .i64 y.1, .bool y.2, .any, .any, .any], [], [], true⟩)
theorem spec_l01Number_l2_ex {s_ : List UInt8} {t : List UInt8} {sgm_ : Int × Int} {rho_ : Int ⊕ (Int × Bool)} (h : whileE (spec_l01Number_l2 s_ t) sgm_ = some rho_) : ∃ L0, ∀ L, L0 ≤ L → iter (exec (look t_75) L ir88_b0) ir88_k0 ir88_o0 ir88_r0 L (E_75_l2 s_ t sgm_) = R_75_l2 s_ t rho_ := by
 refine loop_ex (E := E_75_l2 s_ t) (R := R_75_l2 s_ t) (fun y => by first | (intro c; cases c) | (rcases y with y | y <;> (intro c; cases c)) | (rcases y with y | y | y <;> (intro c; cases c))) ?_ h
 clear h
 rintro ⟨n, i⟩ o_ h
 dsimp only [spec_l01Number_l2] at h
 rcases it_some h with ⟨z16, h⟩ | ⟨z16, h⟩
 ·try simp only [go_sem, n1, n2, n3, n4] at z16
  all_goals
  obtain ⟨z17, h⟩ := ck_some h
  try simp only [go_sem, n1, n2, n3, n4, z16] at z17
  all_goals
  obtain ⟨y_18, z18, h⟩ := bd_some h
  have fz18 := Fs_27 z18
  try simp only [go_sem, z16, z17] at fz18
  rcases it_some h with ⟨z19, h⟩ | ⟨z19, h⟩
  ·try simp only [go_sem, n1, n2, n3, n4, z16, z17] at z19
   all_goals
   obtain rfl := so_some h
   refine ⟨0, fun L hL => ?_⟩
   simp only [go_sem, ir88, E_75_l2, R_75_l2, ir88_b0, ir88_k0, ir88_o0, ir88_r0, E_75_l1, R_75_l1, ir88_k0, ir88_o0, ir88_r0, z16, z17, fz18, z19]
  ·try simp only [go_sem, n1, n2, n3, n4, z16, z17] at z19
   all_goals
   obtain rfl := so_some h
   refine ⟨0, fun L hL => ?_⟩
   simp only [go_sem, ir88, E_75_l2, R_75_l2, ir88_b0, ir88_k0, ir88_o0, ir88_r0, E_75_l1, R_75_l1, ir88_k0, ir88_o0, ir88_r0, z16, z17, fz18, z19]
 ·try simp only [go_sem, n1, n2, n3, n4] at z16
  all_goals
  obtain rfl := so_some h
  refine ⟨0, fun L hL => ?_⟩
  simp only [go_sem, ir88, E_75_l2, R_75_l2, ir88_b0, ir88_k0, ir88_o0, ir88_r0, E_75_l1, R_75_l1, ir88_k0, ir88_o0, ir88_r0, z16]

theorem Fs_75 {s_ : List UInt8} {y_ : Int × Bool} (h : spec_l01Number s_ = some y_) : c_75.F [.str s_] = ⟨true, .tup [.int .i64 y_.1, .bool y_.2], [.any]⟩ := by
 refine mkF_E rfl ?_
 dsimp only [spec_l01Number] at h
 obtain ⟨z1, h⟩ := ck_some h
 rcases or_split z1 with ⟨gz1, z1⟩ | gz1
 ·try simp only [go_sem, n1, n2, n3, n4] at gz1
  all_goals
  try simp only [go_sem, n1, n2, n3, n4, gz1] at z1
  all_goals
  rcases it_some h with ⟨z2, h⟩ | ⟨z2, h⟩
  ·try simp only [go_sem, n1, n2, n3, n4, gz1, z1] at z2
   all_goals
   obtain ⟨z3, h⟩ := ck_some h
   try simp only [go_sem, n1, n2, n3, n4, gz1, z1, z2] at z3
   all_goals
   rcases it_some h with ⟨z4, h⟩ | ⟨z4, h⟩
   ·try simp only [go_sem, n1, n2, n3, n4, gz1, z1, z2, z3] at z4
    all_goals
    obtain rfl := so_some h
    refine ⟨0, fun L hL => ?_⟩
    simp only [go_sem, ir88, E_75_l1, R_75_l1, ir88_k0, ir88_o0, ir88_r0, E_75_l2, R_75_l2, ir88_k0, ir88_o0, ir88_r0, gz1, z1, z2, z3, z4]
   ·try simp only [go_sem, n1, n2, n3, n4, gz1, z1, z2, z3] at z4
    all_goals
    obtain ⟨y_9, z9, h⟩ := bd_some h
    obtain ⟨Lz9, ez9⟩ := spec_l01Number_l1_ex z9
    rcases y_9 with y_9a | y_9b
    ·dsimp only at h
     rcases it_some h with ⟨z10, h⟩ | ⟨z10, h⟩
     ·try simp only [go_sem, n1, n2, n3, n4, gz1, z1, z2, z3, z4] at z10
      all_goals
      obtain ⟨y_11, z11, h⟩ := bd_some h
      have fz11 := Fs_69 z11
      try simp only [go_sem, gz1, z1, z2, z3, z4, z10] at fz11
      rcases it_some h with ⟨z12, h⟩ | ⟨z12, h⟩
      ·try simp only [go_sem, n1, n2, n3, n4, gz1, z1, z2, z3, z4, z10] at z12
       all_goals
       obtain rfl := so_some h
       refine ⟨Lz9, fun L hL => ?_⟩
       have ez9 := ez9 L (by omega)
       try simp only [go_sem, E_75_l1, R_75_l1, ir88_k0, ir88_o0, ir88_r0, E_75_l2, R_75_l2, ir88_k0, ir88_o0, ir88_r0, gz1, z1, z2, z3, z4, z10, z12] at ez9
       simp only [go_sem, ir88, E_75_l1, R_75_l1, ir88_k0, ir88_o0, ir88_r0, E_75_l2, R_75_l2, ir88_k0, ir88_o0, ir88_r0, gz1, z1, z2, z3, z4, z10, fz11, z12, ez9]
      ·try simp only [go_sem, n1, n2, n3, n4, gz1, z1, z2, z3, z4, z10] at z12
       all_goals
       obtain rfl := so_some h
       refine ⟨Lz9, fun L hL => ?_⟩
       have ez9 := ez9 L (by omega)
       try simp only [go_sem, E_75_l1, R_75_l1, ir88_k0, ir88_o0, ir88_r0, E_75_l2, R_75_l2, ir88_k0, ir88_o0, ir88_r0, gz1, z1, z2, z3, z4, z10, z12] at ez9
       simp only [go_sem, ir88, E_75_l1, R_75_l1, ir88_k0, ir88_o0, ir88_r0, E_75_l2, R_75_l2, ir88_k0, ir88_o0, ir88_r0, gz1, z1, z2, z3, z4, z10, fz11, z12, ez9]
     ·try simp only [go_sem, n1, n2, n3, n4, gz1, z1, z2, z3, z4] at z10
      all_goals
      obtain ⟨y_13, z13, h⟩ := bd_some h
      have fz13 := Fs_69 z13
      try simp only [go_sem, gz1, z1, z2, z3, z4, z10] at fz13
      rcases it_some h with ⟨z14, h⟩ | ⟨z14, h⟩
      ·try simp only [go_sem, n1, n2, n3, n4, gz1, z1, z2, z3, z4, z10] at z14
       all_goals
       obtain rfl := so_some h
       refine ⟨Lz9, fun L hL => ?_⟩
       have ez9 := ez9 L (by omega)
       try simp only [go_sem, E_75_l1, R_75_l1, ir88_k0, ir88_o0, ir88_r0, E_75_l2, R_75_l2, ir88_k0, ir88_o0, ir88_r0, gz1, z1, z2, z3, z4, z10, z14] at ez9
       simp only [go_sem, ir88, E_75_l1, R_75_l1, ir88_k0, ir88_o0, ir88_r0, E_75_l2, R_75_l2, ir88_k0, ir88_o0, ir88_r0, gz1, z1, z2, z3, z4, z10, fz13, z14, ez9]
      ·try simp only [go_sem, n1, n2, n3, n4, gz1, z1, z2, z3, z4, z10] at z14
       all_goals
       obtain rfl := so_some h
       refine ⟨Lz9, fun L hL => ?_⟩
       have ez9 := ez9 L (by omega)
       try simp only [go_sem, E_75_l1, R_75_l1, ir88_k0, ir88_o0, ir88_r0, E_75_l2, R_75_l2, ir88_k0, ir88_o0, ir88_r0, gz1, z1, z2, z3, z4, z10, z14] at ez9
       simp only [go_sem, ir88, E_75_l1, R_75_l1, ir88_k0, ir88_o0, ir88_r0, E_75_l2, R_75_l2, ir88_k0, ir88_o0, ir88_r0, gz1, z1, z2, z3, z4, z10, fz13, z14, ez9]
    ·dsimp only at h
     obtain rfl := so_some h
     refine ⟨Lz9, fun L hL => ?_⟩
     have ez9 := ez9 L (by omega)
     try simp only [go_sem, E_75_l1, R_75_l1, ir88_k0, ir88_o0, ir88_r0, E_75_l2, R_75_l2, ir88_k0, ir88_o0, ir88_r0, gz1, z1, z2, z3, z4] at ez9
     simp only [go_sem, ir88, E_75_l1, R_75_l1, ir88_k0, ir88_o0, ir88_r0, E_75_l2, R_75_l2, ir88_k0, ir88_o0, ir88_r0, gz1, z1, z2, z3, z4, ez9]
  ·try simp only [go_sem, n1, n2, n3, n4, gz1, z1] at z2
   all_goals
   rcases it_some h with ⟨z15, h⟩ | ⟨z15, h⟩
   ·try simp only [go_sem, n1, n2, n3, n4, gz1, z1, z2] at z15
    all_goals
    obtain rfl := so_some h
    refine ⟨0, fun L hL => ?_⟩
    simp only [go_sem, ir88, E_75_l1, R_75_l1, ir88_k0, ir88_o0, ir88_r0, E_75_l2, R_75_l2, ir88_k0, ir88_o0, ir88_r0, gz1, z1, z2, z15]
   ·try simp only [go_sem, n1, n2, n3, n4, gz1, z1, z2] at z15
    all_goals
    obtain ⟨y_20, z20, h⟩ := bd_some h
    obtain ⟨Lz20, ez20⟩ := spec_l01Number_l2_ex z20
    rcases y_20 with y_20a | y_20b
    ·dsimp only at h
     rcases it_some h with ⟨z21, h⟩ | ⟨z21, h⟩
     ·try simp only [go_sem, n1, n2, n3, n4, gz1, z1, z2, z15] at z21
      all_goals
      obtain ⟨y_22, z22, h⟩ := bd_some h
      have fz22 := Fs_69 z22
      try simp only [go_sem, gz1, z1, z2, z15, z21] at fz22
      rcases it_some h with ⟨z23, h⟩ | ⟨z23, h⟩
      ·try simp only [go_sem, n1, n2, n3, n4, gz1, z1, z2, z15, z21] at z23
       all_goals
       obtain rfl := so_some h
       refine ⟨Lz20, fun L hL => ?_⟩
       have ez20 := ez20 L (by omega)
       try simp only [go_sem, E_75_l1, R_75_l1, ir88_k0, ir88_o0, ir88_r0, E_75_l2, R_75_l2, ir88_k0, ir88_o0, ir88_r0, gz1, z1, z2, z15, z21, z23] at ez20
       simp only [go_sem, ir88, E_75_l1, R_75_l1, ir88_k0, ir88_o0, ir88_r0, E_75_l2, R_75_l2, ir88_k0, ir88_o0, ir88_r0, gz1, z1, z2, z15, z21, fz22, z23, ez20]
      ·try simp only [go_sem, n1, n2, n3, n4, gz1, z1, z2, z15, z21] at z23
       all_goals
       obtain rfl := so_some h
       refine ⟨Lz20, fun L hL => ?_⟩
       have ez20 := ez20 L (by omega)
       try simp only [go_sem, E_75_l1, R_75_l1, ir88_k0, ir88_o0, ir88_r0, E_75_l2, R_75_l2, ir88_k0, ir88_o0, ir88_r0, gz1, z1, z2, z15, z21, z23] at ez20
       simp only [go_sem, ir88, E_75_l1, R_75_l1, ir88_k0, ir88_o0, ir88_r0, E_75_l2, R_75_l2, ir88_k0, ir88_o0, ir88_r0, gz1, z1, z2, z15, z21, fz22, z23, ez20]
     ·try simp only [go_sem, n1, n2, n3, n4, gz1, z1, z2, z15] at z21
      all_goals
      obtain ⟨y_24, z24, h⟩ := bd_some h
      have fz24 := Fs_69 z24
      try simp only [go_sem, gz1, z1, z2, z15, z21] at fz24
      rcases it_some h with ⟨z25, h⟩ | ⟨z25, h⟩
      ·try simp only [go_sem, n1, n2, n3, n4, gz1, z1, z2, z15, z21] at z25
       all_goals
       obtain rfl := so_some h
       refine ⟨Lz20, fun L hL => ?_⟩
       have ez20 := ez20 L (by omega)
       try simp only [go_sem, E_75_l1, R_75_l1, ir88_k0, ir88_o0, ir88_r0, E_75_l2, R_75_l2, ir88_k0, ir88_o0, ir88_r0, gz1, z1, z2, z15, z21, z25] at ez20
       simp only [go_sem, ir88, E_75_l1, R_75_l1, ir88_k0, ir88_o0, ir88_r0, E_75_l2, R_75_l2, ir88_k0, ir88_o0, ir88_r0, gz1, z1, z2, z15, z21, fz24, z25, ez20]
      ·try simp only [go_sem, n1, n2, n3, n4, gz1, z1, z2, z15, z21] at z25
       all_goals
       obtain rfl := so_some h
       refine ⟨Lz20, fun L hL => ?_⟩
       have ez20 := ez20 L (by omega)
       try simp only [go_sem, E_75_l1, R_75_l1, ir88_k0, ir88_o0, ir88_r0, E_75_l2, R_75_l2, ir88_k0, ir88_o0, ir88_r0, gz1, z1, z2, z15, z21, z25] at ez20
       simp only [go_sem, ir88, E_75_l1, R_75_l1, ir88_k0, ir88_o0, ir88_r0, E_75_l2, R_75_l2, ir88_k0, ir88_o0, ir88_r0, gz1, z1, z2, z15, z21, fz24, z25, ez20]
    ·dsimp only at h
     obtain rfl := so_some h
     refine ⟨Lz20, fun L hL => ?_⟩
     have ez20 := ez20 L (by omega)
     try simp only [go_sem, E_75_l1, R_75_l1, ir88_k0, ir88_o0, ir88_r0, E_75_l2, R_75_l2, ir88_k0, ir88_o0, ir88_r0, gz1, z1, z2, z15] at ez20
     simp only [go_sem, ir88, E_75_l1, R_75_l1, ir88_k0, ir88_o0, ir88_r0, E_75_l2, R_75_l2, ir88_k0, ir88_o0, ir88_r0, gz1, z1, z2, z15, ez20]
 ·have gz1n := no_f gz1
  try simp only [go_sem, n1, n2, n3, n4] at gz1n
  all_goals
  rcases it_some h with ⟨z2, h⟩ | ⟨z2, h⟩
  ·try simp only [go_sem, n1, n2, n3, n4, gz1n] at z2
   all_goals
   (simp_all)
  ·try simp only [go_sem, n1, n2, n3, n4, gz1n] at z2
   all_goals
   rcases it_some h with ⟨z15, h⟩ | ⟨z15, h⟩
   ·try simp only [go_sem, n1, n2, n3, n4, gz1n, z2] at z15
    all_goals
    obtain rfl := so_some h
    refine ⟨0, fun L hL => ?_⟩
    simp only [go_sem, ir88, E_75_l1, R_75_l1, ir88_k0, ir88_o0, ir88_r0, E_75_l2, R_75_l2, ir88_k0, ir88_o0, ir88_r0, gz1n, z2, z15]
   ·try simp only [go_sem, n1, n2, n3, n4, gz1n, z2] at z15
    all_goals
    obtain ⟨y_20, z20, h⟩ := bd_some h
    obtain ⟨Lz20, ez20⟩ := spec_l01Number_l2_ex z20
    rcases y_20 with y_20a | y_20b
    ·dsimp only at h
     rcases it_some h with ⟨z21, h⟩ | ⟨z21, h⟩
     ·try simp only [go_sem, n1, n2, n3, n4, gz1n, z2, z15] at z21
      all_goals
      obtain ⟨y_22, z22, h⟩ := bd_some h
      have fz22 := Fs_69 z22
      try simp only [go_sem, gz1n, z2, z15, z21] at fz22
      rcases it_some h with ⟨z23, h⟩ | ⟨z23, h⟩
      ·try simp only [go_sem, n1, n2, n3, n4, gz1n, z2, z15, z21] at z23
       all_goals
       obtain rfl := so_some h
       refine ⟨Lz20, fun L hL => ?_⟩
       have ez20 := ez20 L (by omega)
       try simp only [go_sem, E_75_l1, R_75_l1, ir88_k0, ir88_o0, ir88_r0, E_75_l2, R_75_l2, ir88_k0, ir88_o0, ir88_r0, gz1n, z2, z15, z21, z23] at ez20
       simp only [go_sem, ir88, E_75_l1, R_75_l1, ir88_k0, ir88_o0, ir88_r0, E_75_l2, R_75_l2, ir88_k0, ir88_o0, ir88_r0, gz1n, z2, z15, z21, fz22, z23, ez20]
      ·try simp only [go_sem, n1, n2, n3, n4, gz1n, z2, z15, z21] at z23
       all_goals
       obtain rfl := so_some h
       refine ⟨Lz20, fun L hL => ?_⟩
       have ez20 := ez20 L (by omega)
       try simp only [go_sem, E_75_l1, R_75_l1, ir88_k0, ir88_o0, ir88_r0, E_75_l2, R_75_l2, ir88_k0, ir88_o0, ir88_r0, gz1n, z2, z15, z21, z23] at ez20
       simp only [go_sem, ir88, E_75_l1, R_75_l1, ir88_k0, ir88_o0, ir88_r0, E_75_l2, R_75_l2, ir88_k0, ir88_o0, ir88_r0, gz1n, z2, z15, z21, fz22, z23, ez20]
     ·try simp only [go_sem, n1, n2, n3, n4, gz1n, z2, z15] at z21
      all_goals
      obtain ⟨y_24, z24, h⟩ := bd_some h
      have fz24 := Fs_69 z24
      try simp only [go_sem, gz1n, z2, z15, z21] at fz24
      rcases it_some h with ⟨z25, h⟩ | ⟨z25, h⟩
      ·try simp only [go_sem, n1, n2, n3, n4, gz1n, z2, z15, z21] at z25
       all_goals
       obtain rfl := so_some h
       refine ⟨Lz20, fun L hL => ?_⟩
       have ez20 := ez20 L (by omega)
       try simp only [go_sem, E_75_l1, R_75_l1, ir88_k0, ir88_o0, ir88_r0, E_75_l2, R_75_l2, ir88_k0, ir88_o0, ir88_r0, gz1n, z2, z15, z21, z25] at ez20
       simp only [go_sem, ir88, E_75_l1, R_75_l1, ir88_k0, ir88_o0, ir88_r0, E_75_l2, R_75_l2, ir88_k0, ir88_o0, ir88_r0, gz1n, z2, z15, z21, fz24, z25, ez20]
      ·try simp only [go_sem, n1, n2, n3, n4, gz1n, z2, z15, z21] at z25
       all_goals
       obtain rfl := so_some h
       refine ⟨Lz20, fun L hL => ?_⟩
       have ez20 := ez20 L (by omega)
       try simp only [go_sem, E_75_l1, R_75_l1, ir88_k0, ir88_o0, ir88_r0, E_75_l2, R_75_l2, ir88_k0, ir88_o0, ir88_r0, gz1n, z2, z15, z21, z25] at ez20
       simp only [go_sem, ir88, E_75_l1, R_75_l1, ir88_k0, ir88_o0, ir88_r0, E_75_l2, R_75_l2, ir88_k0, ir88_o0, ir88_r0, gz1n, z2, z15, z21, fz24, z25, ez20]
    ·dsimp only at h
     obtain rfl := so_some h
     refine ⟨Lz20, fun L hL => ?_⟩
     have ez20 := ez20 L (by omega)
     try simp only [go_sem, E_75_l1, R_75_l1, ir88_k0, ir88_o0, ir88_r0, E_75_l2, R_75_l2, ir88_k0, ir88_o0, ir88_r0, gz1n, z2, z15] at ez20
     simp only [go_sem, ir88, E_75_l1, R_75_l1, ir88_k0, ir88_o0, ir88_r0, E_75_l2, R_75_l2, ir88_k0, ir88_o0, ir88_r0, gz1n, z2, z15, ez20]


def ir63_v : List Nat := [0, 2, 3, 4, 5, 6, 7, 8, 9]
def ir63 : AFn := ⟨1, 9, .seq (.region false [ VO 1 2 (.mov (I6 0)), VO 2 3 (.mov (I6 0)), VO 3 4 (.mov (.c (.bool false)))]) (.seq (.region false [ PM 10 0, PO 11 (.call 62 [(.s 0), (.c (.int .u8 (46)))]), VS 4 5 0]) (.seq (.test false [ PM 12 4, PO 13 (.len false (.s 0)), PO 14 (.bin false .neq (.s 0) (I6 3)), PO 15 (.mov (.s 0)), ⟨.push, 16, (some ((.s 0), false)), .mov (.v 4)⟩, ⟨.push, 17, (some ((.s 1), false)), .ixAddr 1 (.s 0) (I6 1)⟩, ⟨.push, 18, (some ((.s 2), false)), .load false 1 (.s 0)⟩, ⟨.push, 19, (some ((.s 3), false)), .bin false .neq (.s 0) (.c (.str []))⟩, PO 20 (.pick (.s 4)
 (.c (.bool true)) (.s 0))] (.s 0) (.seq (.region false [ VO 1 2 (.mov (I6 0)), VO 2 3 (.mov (I6 0)), VO 3 4 (.mov (.c (.bool false)))]) (.ret)) (.skip)) (.seq (.region false [ PM 22 4, PO 23 (.ixAddr 1 (.s 0) (I6 0)), PO 24 (.load false 1 (.s 0)), PO 25 (.call 88 [(.s 0)]), PO 21 (.mov (.s 0)), PO 26 (.ext (.s 0) 0), PO 27 (.ext (.s 1) 1), VS 5 6 1, VS 6 7 0]) (.seq (.region false [ PM 29 4, PO 30 (.ixAddr 1 (.s 0) (I6 2)), PO 31 (.load false 1 (.s 0)), PO 32 (.call 88 [(.s 0)]), PO 28 (.mov (.s 0)), PO 33 (.ext (.s 0) 0), PO 34 (.ext (.s 1) 1), VS 7 8 1, VS 8 9 0]) (.seq (.region false [ PM
 35 5, PM 36 7, PM 37 6, PO 38 (.mov (.s 0)), ⟨.push, 39, (some ((.s 0), true)), .mov (.v 8)⟩, PO 40 (.pick (.s 1) (.s 0) (.c (.bool false))), VS 1 2 5, VS 2 3 4, VS 3 4 0]) (.ret)))))), [.t 1, .t 2, .t 3]⟩
noncomputable def t_76 : List (Nat × Ctr) := [(62, c_74), (88, c_75)]
theorem lk_76_62 : look t_76 62 = some c_74 := rfl
theorem lk_76_88 : look t_76 88 = some c_75 := rfl
noncomputable def c_76 : Ctr := mkF t_76 ir63 [.bor]
theorem s_76 : Sound Tryz.prog 63 c_76 := mkF_sound _ rfl (snd_cons s_74 (snd_cons s_75 snd_nil)) (by kernel_rfl : chkFn Tryz.prog 63 ir63 ir63_v = true)
theorem M_76 : c_76.modes = [.bor] := rfl
theorem Fl_76 : c_76.flat = true := rfl
attribute [go_sem] M_76 Fl_76
attribute [go_sem] lk_76_62 lk_76_88
theorem Fs_76 {s_ : List UInt8} {y_ : Int × Int × Bool} (h : spec_l18Range s_ = some y_) : c_76.F [.str s_] = ⟨true, .tup [.int .i64 y_.1, .int .i64 y_.2.1, .bool y_.2.2], [.any]⟩ := by
 refine mkF_E rfl ?_
 dsimp only [spec_l18Range] at h
 obtain ⟨y_1, z1, h⟩ := bd_some h
 have fz1 := Fs_74 z1
 try simp only [go_sem] at fz1
 obtain ⟨z2, h⟩ := ck_some h
 rcases or_split z2 with ⟨gz2, z2⟩ | gz2
 ·try simp only [go_sem, n1, n2, n3, n4] at gz2
  all_goals
  have lz2 := ix_lt z2
  have xz2 := getD_mapD AV.str y_1 lz2
  try simp only [go_sem] at lz2
  try simp only [go_sem] at xz2
  try simp only [go_sem, n1, n2, n3, n4, gz2] at z2
  all_goals
  rcases it_some h with ⟨z3, h⟩ | ⟨z3, h⟩
  ·try simp only [go_sem, n1, n2, n3, n4, gz2, z2] at z3
   all_goals
   obtain rfl := so_some h
   refine ⟨0, fun L hL => ?_⟩
   simp only [go_sem, ir63, fz1, gz2, z2, lz2, xz2, z3]
  ·try simp only [go_sem, n1, n2, n3, n4, gz2, z2] at z3
   all_goals
   obtain ⟨z4, h⟩ := ck_some h
   have lz4 := ix_lt z4
   have xz4 := getD_mapD AV.str y_1 lz4
   try simp only [go_sem] at lz4
   try simp only [go_sem] at xz4
   try simp only [go_sem, n1, n2, n3, n4, gz2, z2, z3] at z4
   all_goals
   obtain ⟨y_5, z5, h⟩ := bd_some h
   have fz5 := Fs_75 z5
   try simp only [go_sem, gz2, z2, z3, z4] at fz5
   obtain ⟨z6, h⟩ := ck_some h
   have lz6 := ix_lt z6
   have xz6 := getD_mapD AV.str y_1 lz6
   try simp only [go_sem] at lz6
   try simp only [go_sem] at xz6
   try simp only [go_sem, n1, n2, n3, n4, gz2, z2, z3, z4] at z6
   all_goals
   obtain ⟨y_7, z7, h⟩ := bd_some h
   have fz7 := Fs_75 z7
   try simp only [go_sem, gz2, z2, z3, z4, z6] at fz7
   obtain rfl := so_some h
   refine ⟨0, fun L hL => ?_⟩
   simp only [go_sem, ir63, fz1, gz2, z2, lz2, xz2, z3, z4, lz4, xz4, fz5, z6, lz6, xz6, fz7]
 ·have gz2n := no_f gz2
  have gz2nn := no_t gz2n
  try simp only [go_sem, n1, n2, n3, n4] at gz2nn
  all_goals
  rcases it_some h with ⟨z3, h⟩ | ⟨z3, h⟩
  ·try simp only [go_sem, n1, n2, n3, n4, gz2nn] at z3
   all_goals
   obtain rfl := so_some h
   refine ⟨0, fun L hL => ?_⟩
   simp only [go_sem, ir63, fz1, gz2nn, z3]
  ·try simp only [go_sem, n1, n2, n3, n4, gz2nn] at z3
   all_goals
   (simp_all)


end Go.Proofs.YtelkmhdolnjnpaaGreatDoor
